import Derived.Test.YtpgbhdldcmcenaaGreatDoorEf
import Derived.Test.YtpgbhdldcmcenaaGreatDoorTx
import Derived.Test.YtpgbhdldcmcenaaGreatDoorSo
import Derived.Test.YtpgbhdldcmcenaaGreatDoorPe
set_option linter.all false
namespace Go.Proofs.YtpgbhdldcmcenaaGreatDoor
open Go.RT
set_option maxRecDepth 100000
def HF{α:Type}(S:α->Prop):Prop:=∀P:α->Nat->Prop,(∀a n m,n<=m->P a n->P a m)->(∀a,S a->∃N,P a N)->∃N,∀a,S a->P a N
theorem abx:∀(k:Nat),HF (fun n=>n<k)
 | 0=>fun P hm h=>⟨0,fun a ha=>absurd ha (Nat.not_lt_zero _)⟩
 | k+1=>fun P hm h=>by
  obtain⟨N,hN⟩:=abx k P hm fun a ha=>h a om;obtain⟨M,hM⟩:=h k om;refine⟨N+M,fun a ha=>?_⟩;by_cases e:a=k
  ·grind
  ·exact hm _ N _ om (hN a om)
variable{α:Type}{S:α->Prop}
theorem Sw{β:Type}{T:β->Prop}(hS:HF S)(f:α->β)(hf:∀b,T b->∃a,S a/\f a=b):HF T:=fun P hm h=>by
 obtain⟨N,hN⟩:=hS (fun a n=>T (f a)->P (f a) n) (fun a n m hnm h1 h2=>hm _ n m hnm (h1 h2)) (fun a ha=>by
  by_cases ht:T (f a)
  ·simp_all
  simp_all)
 refine⟨N,fun b hb=>?_⟩
 grind
theorem amJ:HF (fun _:UInt8=>True):=Sw (abx 256) UInt8.ofNat fun b _=>⟨b.toNat,b.toNat_lt,si⟩
theorem Pc{α β:Type}{S:α->Prop}{T:β->Prop}(hS:HF S)(hT:HF T):HF (fun p:α×β=>S p.1/\T p.2):=fun P hm h=>by
 obtain⟨N,hN⟩:=hS (fun a n=>∀b,T b->P (a,b) n) (fun a n m hnm h1 b hb=>hm _ n m hnm (h1 b hb)) fun a ha=>hT (fun b n=>P (a,b) n) (fun b n m hnm h1=>hm _ n m hnm h1) fun b hb=>h (a,b) ⟨ha,hb⟩;exact⟨N,fun p hp=>hN p.1 hp.1 p.2 hp.2⟩
theorem Pd{α:Type}{S:α->Prop}(hS:HF S):∀(k:Nat),HF (fun l:J α=>l.length<=k/\∀a∈l,S a)
 | 0=>fun P hm h=>by
  simp_all
 | k+1=>fun P hm h=>by
  obtain⟨M,hM⟩:=h [] ⟨eA _,fun _ h=>nomatch h⟩
  obtain⟨N,hN⟩:=Pc hS (Pd hS k) (fun p n=>P (p.1::p.2) n) (fun p n m hnm h1=>hm _ n m hnm h1) fun p hp=>h _ ⟨by simp_all,fun a ha=>by
   grind⟩
  refine⟨N+M,fun l hl=>?_⟩
  cases l with
  | nil=>grind
  | cons a t=>exact hm _ N _ om (hN (a,t) ⟨hl.2 a (qD),by simp_all,fun x hx=>hl.2 x (kf _ hx)⟩)
theorem Sy(k:Nat):HF (fun s:Bs=>s.length<=k):=Sw (Pd amJ k) id fun s hs=>⟨s,⟨hs,fun _ _=>trivial⟩,rfl⟩
theorem akw:HF (fun l:J cm=>l.length<=128/\∀b∈l,b.fName.length<=60/\b.bS.length<=4096):=
 Pd (Sw (Pc (Sy 60) (Sy 4096)) (fun p=>cm.mk p.1 p.2) fun b hb=>⟨(b.fName,b.bS),hb,rfl⟩) 128
end Go.Proofs.YtpgbhdldcmcenaaGreatDoor
namespace Go.Proofs.YtpgbhdldcmcenaaGreatDoor.K
open Go.RT
theorem amK{e:TExpr}(ho:iD e){l:J cO}(hl:l.length<=1000)(hb:Sj l):gG (xG e l).1:=by
 have z:gG 0:=by unfold gG;decide
 unfold xG
 cases hv:(gW e 0 != 0) with
 | true=>exact z
 | false=>
  have jt:gW e 0=0:=by simpa using hv
  have g:Good e:=⟨Ip e 0 jt,ho,Us e (Ip e 0 jt)⟩;obtain⟨k1,k2⟩:=OG e g _ _ (GR hb)
  grind
theorem akx{I:Env->Prop}(hI:∀m k n,I m->I (jI cV m k (Lib.itoa n))):∀(e:TExpr)(m:Env),I m->I (kT e m).2.2:=by
 intro e
 induction e using TExpr.ind with
 | h op n name kids ih=>
  intro m hm;rw [Ur];show I (evB op n name (kids.map kT) m).2.2
  have hk:∀(i:Nat)(m:Env),I m->I ((kids.map kT).getD i dK m).2.2:=fun i m hm=>by
   by_cases h:i<kids.length
   ·simp_all
   ·rw [aeh,Pq (by simpa using h)];exact hm
  unfold evB Jp OE aa8
  grind
theorem aie(e:TExpr)(l:J cO):∀b∈(xG e l).2.1,b.bS≠[]\/b∈l:=by
 have nd:∀u:Nat,Lib.decDigits u≠[]:=fun u=>by
  rw [Lib.decDigits];split<;>simp
 have nn:∀n:Int,Lib.itoa n≠[]:=fun n=>by
  unfold Lib.itoa
  grind
 have hI:=akx (I:=fun m=>∀p∈m,p.2≠[]\/cO.mk p.1 p.2∈l) (fun m k n h p hp=>by
  rcases Sg hp with rfl|hp
  ·exact .inl (nn n)
  ·exact h p hp) e (uc l) (by
  unfold uc
  have key:∀(k:J cO)(m:Env),(∀b∈k,b∈l)->(∀p∈m,p.2≠[]\/cO.mk p.1 p.2∈l)->∀p∈k.foldl (fun m b=>jI cV m b.fName b.bS) m,p.2≠[]\/cO.mk p.1 p.2∈l:=by
   intro k
   induction k with
   | nil=>intro m _ h;exact h
   | cons b k ih=>
    intro m hk h;refine ih _ (fun c hc=>hk c (kf _ hc)) fun p hp=>?_;rcases Sg hp with rfl|hp
    ·simp_all
    ·exact h p hp
  grind)
 intro b hb;unfold xG at hb;revert hb;cases (gW e 0 != 0)
 ·cases ((kT e (uc l)).2.1 != 0)
  ·intro hb
   obtain⟨k,hk,rfl⟩:=(CH _ _).1 hb;rcases Lw (kT e (uc l)).2.2 k ([]:Bs) with⟨p,hp,h1,h2⟩|⟨h1,_⟩
   ·have:=hI p hp
    rw [h1,h2] at this;exact this
   ·exact absurd hk h1
  ·intro hb;cases hb
 ·intro hb;cases hb
def UQ(N:Nat)(s:Bs)(b:J cO):Prop:=∃r:Int×J cO×Int,(gG r.1/\r.2.1.length<=100000/\∀c∈r.2.1,c.bS≠[]\/c∈b)/\∀F,N<=F->DN F s b=some r/\BG F s b=some r
theorem amL(s:Bs)(b:J cO)(hs:s.length<=4096)(hl:b.length<=128)(hb:Sj b):∃N,UQ N s b:=by
 obtain⟨x,⟨ho,hn⟩,hp⟩:=acR s hs;have h1:=abb ho om hb hn;have h2:=acP ho om hb hn;obtain⟨N,hN⟩:=hp.and (h1.and h2);refine⟨N,cond (x.2.2 != 0) (0,[],x.2.2) (xG x.1 b),?_,fun F hF=>?_⟩
 ·cases (x.2.2 != 0) with
  | true=>exact⟨show gG 0 by unfold gG;decide,eA _,fun _ h=>nomatch h⟩
  | false=>grind [amK,ahZ,aie]
 ·unfold DN BG wx
  grind [TExpr.eta]
theorem aby:∃N,∀(s:Bs)(b:J cO),s.length<=4096->b.length<=128->Sj b->UQ N s b:=by
 obtain⟨N,hN⟩:=Pc (Sy 4096) akw (fun p n=>UQ n p.1 p.2) (fun p n m hnm ⟨r,h1,h2⟩=>⟨r,h1,fun F hF=>h2 F om⟩) fun p hp=>amL p.1 p.2 hp.1 hp.2.1 hp.2.2;exact⟨N,fun s b h1 h2 h3=>hN (s,b) ⟨h1,h2,h3⟩⟩
noncomputable def NC:Nat:=Classical.choose aby
theorem Ws:∀(s:Bs)(b:J cO),s.length<=4096->b.length<=128->Sj b->UQ NC s b:=Classical.choose_spec aby
end Go.Proofs.YtpgbhdldcmcenaaGreatDoor.K
namespace Go.Proofs.YtpgbhdldcmcenaaGreatDoor
open Go.RT
noncomputable def NC:Nat:=K.NC
abbrev Du(l:J cm):Prop:=∀b,b∈l->b.fName.length<=60/\b.bS.length<=4096
theorem Ws(s:Bs)(b:J cm)(h1:s.length<=4096)(h2:b.length<=128)(h3:Du b):∃r:Int×J cm×Int,(K.gG r.1/\r.2.1.length<=100000/\∀c∈r.2.1,c.bS≠[]\/c∈b)/\∀F,NC<=F->DN F s b=some r/\BG F s b=some r:=K.Ws s b h1 h2 h3
set_option maxRecDepth 100000
def wZ(l:J bO):Prop:=l.Pairwise fun a b=>a.fName<b.fName
variable{F:Nat}
theorem Sz(l:J bO)(p:bO->Bool){m:bO->O Bool}(hm:∀v,m v=some (p v))(hF:l.length<F)(hl:l.length<=1000):
  b8 (σ:=Int) (fun bA x1=>cond (decide (x1<(l.length:Int))) (rq ((decide (0<=x1))&&(decide (x1<(l.length:Int)))) ((m (l.getD (Int.toNat x1) eo)).bind fun x3=>cond x3 (some x1) (bA (aB (x1+1))))) (some (-1))) F 0=some ((l.findIdx? p).elim (-1) fun i=>(i:Int)):=by
 rw [qV l (fun i=>(i:Int)) p (fun i _=>some (i:Int)) (some (-1)) (s:=(0:Int)) hF rfl (fun i h rc=>?_) (fun rc=>?_)]
 ·rw [RL _ _ _ eo];cases l.findIdx? p<;>simp
 ·rw [cz om,b9 om om,bZ,gd h,hm,aC,bx om]
 ·rw [cf om]
theorem SB(p:bO->Bool):∀l:J bO,l.find? p=(l.findIdx? p).map fun i=>l.getD i eo
 | []=>rfl
 | x::l=>by
  rw [M7,YK,SB p l];cases p x
  ·cases List.findIdx? p l<;>simp
  ·rfl
theorem LX{p:bO->Bool}{l:J bO}{i:Nat}(h:l.findIdx? p=some i):i<l.length/\p (l.getD i eo)=true:=by
 grind [List.findIdx?_eq_some_iff_getElem,gd]
theorem abz(F:Nat)(l:J bO)(n:Bs)(hF:l.length<F)(hl:l.length<=1000):uh F l n=some (jH l n):=by
 unfold uh O4 jH wx;rw [Sz l (fun v=>v.fName==n) (m:=fun v=>LR F v n) (fun v=>rfl) hF hl,SB]
 cases h:l.findIdx? fun v=>v.fName==n with
 | none=>rfl
 | some i=>
  obtain⟨h1,-⟩:=LX h
  simp_all [cz,rq,b9]
theorem Qb(F:Nat)(l:J bO)(i k:Nat)(v:bO)(hi:i+k<=l.length)(hl:l.length<=1000):rO F l (i:Int) (k:Int) [v]=some (l.take i++v::l.drop (i+k)):=by
 unfold rO wx;have e1:aB ((l.length:Int)+(([v]:J bO).length:Int))=((l.length+1:Nat):Int):=bN bz;have e2:aB ((i:Int)+(k:Int))=((i+k:Nat):Int):=bN om;have s1:sl l 0 (i:Int)=l.take i:=by simp [sl]
 have s2:sl l ((i+k:Nat):Int) (l.length:Int)=l.drop (i+k):=by grind [sl,Int.toNat_natCast,List.take_length]
 grind [cC,b9,nO,JQ]
def iz(l:J bO)(n:Bs):Nat×Bool:=match l.findIdx? fun v=>v.fName==n with
 | some i=>(i,true)
 | none=>match l.findIdx? fun v=>!(Op.bytesLess v.fName n||v.fName==n) with
  | some i=>(i,false)
  | none=>(l.length,false)
theorem aif(F:Nat)(l:J bO)(n:Bs)(hF:l.length<F)(hl:l.length<=1000):BO F l n=some ((((iz l n).1:Nat):Int),(iz l n).2):=by
 unfold BO JA JB iz wx;rw [Sz l (fun v=>v.fName==n) (m:=fun v=>Hi F v n) (fun v=>rfl) hF hl,Sz l (fun v=>!(Op.bytesLess v.fName n||v.fName==n)) (m:=fun v=>Hj F v n) (fun v=>rfl) hF hl]
 grind
theorem abA(l:J bO)(n:Bs):(iz l n).1+cond (iz l n).2 1 0<=l.length:=by
 unfold iz;split
 ·rename_i i h
  exact (LX h).1
 ·split
  ·rename_i i h
   exact Nat.le_of_lt (LX h).1
  ·exact ek _
theorem XE{l:J bO}{n:Bs}:jH l n=cond (iz l n).2 (l.getD (iz l n).1 eo,true) (bO.mk [] [] false false false,false):=by
 unfold iz jH
 grind [SB]
theorem UR{l:J bO}{n:Bs}(h:(iz l n).2=true):(l.getD (iz l n).1 eo).fName=n:=by
 unfold iz at h⊢
 grind [LX]
theorem DX(v:bO):∀(l:J bO),(∀x∈l,¬ x.fName=v.fName)->nk v l true=l
 | [],_=>rfl
 | x::l,h=>by
  have h1:(x.fName==v.fName)=false:=by simpa using h x qD
  simp only [nk,h1,Bool.true_or];rw [DX v l fun y hy=>h y (kf _ hy)];rfl
theorem Gc(v:bO):∀ {l:J bO},wZ l->nk v l false=l.take (iz l v.fName).1++v::l.drop ((iz l v.fName).1+cond (iz l v.fName).2 1 0)
 | [],_=>rfl
 | x::l,h=>by
  obtain⟨h1,h2⟩:=yh.1 h;rcases Ug x.fName v.fName with hx|hx|hx
  ·have b1:=(KU _ _).2 hx
   have b2:(x.fName==v.fName)=false:=by simpa using fun e:x.fName=v.fName=>mj _ (e▸hx)
   have:=Gc v h2
   have e:iz (x::l) v.fName=((iz l v.fName).1+1,(iz l v.fName).2):=by
    unfold iz;rw [YK,YK,b2,b1]
    cases l.findIdx? fun y=>y.fName==v.fName with
    | some i=>simp
    | none=>cases l.findIdx? fun y=>!(Op.bytesLess y.fName v.fName||y.fName==v.fName)<;>simp
   rw [e];simp only [nk,b1,b2];rw [show (false || !true)=false from rfl,this,show (iz l v.fName).1+1+cond (iz l v.fName).2 1 0=((iz l v.fName).1+cond (iz l v.fName).2 1 0)+1 by omega];rfl
  ·have b1:Op.bytesLess x.fName v.fName=false:=(Dm _ _).2 (by simp_all)
   have b2:(x.fName==v.fName)=true:=by simpa using hx
   have e:iz (x::l) v.fName=(0,true):=by unfold iz;grind
   simp only [nk]
   grind [DX,mj]
  ·have b1:=(Dm _ _).2 fun h=>mj _ (qX h hx)
   have b2:(x.fName==v.fName)=false:=by grind
   have hy:∀y∈l,¬ y.fName=v.fName:=fun y hy e=>mj v.fName (qX hx (by grind))
   have e:iz (x::l) v.fName=(0,false):=by
    unfold iz
    grind
   simp [nk,b2]
   simp_all [DX]
theorem SC{v:bO}:∀ {l:J bO},wZ l->wZ (nk v l false)
 | [],_=>by unfold wZ;exact aee _ _
 | x::l,h=>by
  obtain⟨h1,h2⟩:=yh.1 h;rcases Ug x.fName v.fName with hx|hx|hx
  ·have b1:=(KU _ _).2 hx
   have b2:(x.fName==v.fName)=false:=by simpa using fun e:x.fName=v.fName=>mj _ (e▸hx)
   simp [nk,b1,b2];refine yh.2 ⟨fun y hy=>?_,SC h2⟩;rcases RF v l _ y hy with rfl|hy
   ·exact hx
   ·exact h1 y hy
  ·have b1:Op.bytesLess x.fName v.fName=false:=(Dm _ _).2 (by simp_all)
   have b2:(x.fName==v.fName)=true:=by simpa using hx
   simp only [nk,b1,b2];rw [show (false || !false)=true from rfl,DX v l fun y hy e=>mj _ (by have:=h1 y hy;rw [hx,e] at this;exact this)];exact yh.2 ⟨fun y hy=>by simp_all,h2⟩
  ·have b1:=(Dm _ _).2 fun h=>mj _ (qX h hx)
   have b2:(x.fName==v.fName)=false:=by grind
   simp only [nk,b1,b2];rw [show (false || !false)=true from rfl,DX v l fun y hy e=>mj v.fName (qX hx (by grind))];refine yh.2 ⟨fun y hy=>?_,h⟩;rcases iE.1 hy with rfl|hy
   ·exact hx
   ·exact qX hx (h1 y hy)
def GA(l:J bO):Prop:=GV l/\wZ l
theorem GA.len{l:J bO}(h:GA l):l.length<=128:=h.1.1
theorem art(F:Nat){l:J bO}(h:GA l)(n v:Bs)(hF:1000<F):∃r,GA r.1/\tv F l n v=some r/\Hl F l n v=some r:=by
 have hl:=h.1.1;obtain⟨r0,h0,e0⟩:=api F h.1 n v hF;refine⟨r0,?_⟩;obtain⟨b,hb,eb⟩:=E2 F n om;unfold tv wx at e0⊢;unfold Hl;rw [K.GN F n om,eb];rw [y9 F l n om om] at e0⊢;rw [eb] at e0
 cases b with
 | false=>
  grind
 | true=>
  have hle:=abA l n;have hgt:=XE (l:=l) (n:=n);have hnm:=UR (l:=l) (n:=n);have hat:=fun a (b c d:Bool)=>(Pv F l (bO.mk n a b c d) om om).trans (congrArg some (Gc (bO.mk n a b c d) h.2));have yw:=fun a (b c d:Bool)=>Gc (bO.mk n a b c d) h.2▸SC h.2;rw [aif F l n om om];rw [hgt] at e0⊢;dsimp only at hat yw hnm⊢;generalize iz l n=q at hle hgt hnm hat yw e0⊢;obtain⟨i,b⟩:=q
  cases b with
  | false=>
   dsimp at hle hat yw e0⊢;by_cases h4:4096<v.length
   ·grind
   rw [cf om] at e0⊢;rw [cf om];simp at e0⊢;by_cases h5:128<=l.length
   ·grind
   rw [cf om] at e0⊢;rw [hat] at e0⊢;cases e0;refine⟨⟨h0,yw _ _ _ _⟩,rfl,?_⟩;rw [cf om,show ((0:Int))=((0:Nat):Int) from rfl,Qb F l i 0 _ om om]
   rfl
  | true=>
   dsimp only [cond_false,cond_true,Option.bind_some] at hle hat yw hnm e0⊢;rw [b9 om om,bZ];generalize l.getD i eo=o at hnm e0⊢
   cases hr:o.lM with
   | true=>
    grind
   | false=>
   rw [hr] at e0;by_cases h4:4096<v.length
   ·grind
   rw [cf om] at e0⊢;rw [cf om];rw [hat] at e0⊢;cases e0;refine⟨⟨h0,yw _ _ _ _⟩,rfl,?_⟩;rw [b9 om om,show ((1:Int))=((1:Nat):Int) from rfl,Qb F l i 1 _ om om]
   simp_all
theorem aqc(F:Nat){l:J bO}(h:GA l)(n:Bs)(a b:Bool)(hF:1000<F):∃r,GA r.1/\qW F l n a b=some r/\DP F l n a b=some r:=by
 have hl:=h.1.1;obtain⟨r0,h0,e0⟩:=anu F h.1 n a b hF;refine⟨r0,?_⟩;obtain⟨c,hb,eb⟩:=E2 F n om;unfold qW wx at e0⊢;unfold DP;rw [K.GN F n om,eb];rw [eb] at e0
 cases c with
 | false=>
  grind
 | true=>
  rw [y9 F l n om om] at e0⊢;have hle:=abA l n;have hgt:=XE (l:=l) (n:=n);have hnm:=UR (l:=l) (n:=n);have hat:=fun a (b c d:Bool)=>(Pv F l (bO.mk n a b c d) om om).trans (congrArg some (Gc (bO.mk n a b c d) h.2));have yw:=fun a (b c d:Bool)=>Gc (bO.mk n a b c d) h.2▸SC h.2;rw [aif F l n om om];rw [hgt] at e0⊢;dsimp only at hat yw hnm⊢;generalize iz l n=q at hle hgt hnm hat yw e0⊢;obtain⟨i,c⟩:=q
  cases c with
  | false=>
   dsimp at hle hat yw e0⊢;simp at e0⊢;by_cases h5:128<=l.length
   ·grind
   rw [cf om] at e0⊢;rw [hat] at e0⊢;cases e0;refine⟨⟨h0,yw _ _ _ _⟩,rfl,?_⟩;rw [cf om,show ((0:Int))=((0:Nat):Int) from rfl,Qb F l i 0 _ om om]
   rfl
  | true=>
   dsimp only [cond_false,cond_true,Option.bind_some] at hle hat yw hnm e0⊢;rw [b9 om om];simp [aH] at e0⊢;rw [hat] at e0⊢;cases e0;refine⟨⟨h0,yw _ _ _ _⟩,rfl,?_⟩;rw [show ((1:Int))=((1:Nat):Int) from rfl,Qb F l i 1 _ om om]
   simp_all
def qw:Nat->Bs->Nat
 | a,[]=>a
 | a,b::l=>qw (10*a+(b.toNat-48)) l
def B9(b:UInt8):Bool:=decide (48<=b.toNat)&&decide (b.toNat<=57)
theorem Wt:∀(l:Bs)(a:Nat),a*10^l.length<=qw a l
 | [],a=>Nat.le_of_eq (SL a)
 | b::l,a=>by
  have:=Wt l (10*a+(b.toNat-48))
  have h2:a*10^(l.length+1)<=(10*a+(b.toNat-48))*10^l.length:=by
   rw [Nat.pow_succ,YE (10^l.length)]
   grind
  show a*10^(l.length+1)<=qw (10*a+(b.toNat-48)) l
  grind
theorem amM(l:Bs)(a:Nat):a<=qw a l:=by
 have:=Wt l a;have h:=ad7 a (Nat.pow_pos (n:=l.length) (by decide:0<10));omega
theorem SD:∀(l m:Bs)(a:Nat),qw a (l++m)=qw (qw a l) m
 | [],m,a=>rfl
 | b::l,m,a=>SD l m _
theorem XF(s:Bs){k:Nat}(h:k<s.length):qw 0 (s.take (k+1))=10*qw 0 (s.take k)+(s[k].toNat-48):=by
 rw [lB h,SD];rfl
theorem aih(s:Bs)(k:Nat):qw 0 (s.take k)<=qw 0 s:=by
 grind [List.take_append_drop,SD,amM]
def BV(s:Bs):Int×Bool:=if s.all B9=true/\qw 0 s<=2147483647 then ((qw 0 s:Nat),true) else (0,false)
theorem abB{s:Bs}{k:Nat}(h:k<s.length)(ha:(s.take k).all B9=true)(hd:B9 s[k]=true):(s.take (k+1)).all B9=true:=by
 grind [List.take_succ_eq_append_getElem]
theorem Wu{s:Bs}{k:Nat}(h:k<s.length)(hd:B9 s[k]=false):BV s=(0,false):=by
 unfold BV
 grind
theorem aru(F:Nat)(s:Bs)(hF:s.length<F)(hl:s.length<=1000)(h0:s≠[])(h1:s.getD 0 0≠48):qp F s=some (BV s):=by
 have:aA (fun r=>r=BV s) (qp F s):=by
  unfold qp wx
  have e1:(s==[48])=false:=by
   grind
  have e2:(s==[])=false:=by simpa using h0
  have e3:(((s.getD 0 0).toNat:Int)==48)=false:=by
   have:(s.getD 0 0).toNat≠48:=fun h=>h1 (by apply aei.1;rw [h];rfl)
   grind
  have:=zu.2 h0;rw [e1,e2,aK,aK,oY om,e3,aC,aK];refine aA.lp (fun z:Int×Bs×Int=>z.2.1=s/\∃k:Nat,z.2.2=(k:Int)/\k<=s.length/\(s.take k).all B9=true/\z.1=(qw 0 (s.take k):Nat)/\qw 0 (s.take k)<=2147483647) (fun z=>s.length-z.2.2.toNat) ⟨rfl,0,rfl,om,rfl,rfl,eA _⟩ (by simp_all) ?_;rintro⟨x,s',p⟩ ⟨q1,k,q2,h2,h3,q3,h4⟩ rc hrc;have q1:=q1.symm;subst q1 q2 q3;rw [bZ];by_cases hk:k<s.length
  ·have hb:Nat.blt k s.length=true:=Nat.ble_eq_true_of_le hk
   rw [hb,aZ,K.ahJ,aC];have hgd:s.getD k 0=s[k]:=gd hk;by_cases hs:(s.getD k 0).toNat<128
   ·rw [K.Oy hs]
    have hdd:K.fW ((s.getD k 0).toNat:Int)=B9 s[k]:=by
     unfold K.fW B9;grind
    rw [hdd]
    cases hd:B9 s[k] with
    | false=>grind [aA.ok,Wu]
    | true=>
     have hd':=hd;unfold B9 at hd';rw [cE,fL,fL] at hd';have ev:=XF s hk
     have e5:aB ((aB (10*((qw 0 (s.take k):Nat):Int)))+(aB (IntKind.wrap .i32 (((s.getD k 0).toNat:Int)-48))))=((qw 0 (s.take (k+1)):Nat):Int):=by
      rw [hgd,show IntKind.wrap .i32 ((s[k].toNat:Int)-48)=(s[k].toNat:Int)-48 from IntWalk.i32_in _ om,bN (x:=(s[k].toNat:Int)-48) om,bN (x:=10*_) om,bN om,ev];omega
     dsimp only;rw [e5];refine aA.cd (fun h=>aA.ok ?_) fun h=>hrc _ ⟨rfl,k+1,rfl,hk,abB hk h3 hd,rfl,om⟩ (by grind);have:=aih s (k+1);unfold BV;rw [if_neg om]
   ·have:=K.Xs hs
    have:K.fW ((dec s k).1:Int)=false:=by
     unfold K.fW;grind
    rw [this];refine aA.ok (Wu hk ?_).symm;unfold B9;grind
  ·have hb:Nat.blt k s.length=false:=by
    cases h:Nat.blt k s.length with
    | false=>rfl
    | true=>exact absurd (lR h) hk
   rw [hb,aK];refine aA.ok ?_;unfold BV
   grind
 obtain⟨r,h,e⟩:=this;rw [e,h]
theorem arv(F:Nat)(s:Bs)(hF:s.length<F)(hl:s.length<=1000)(h0:s≠[])(h1:s.getD 0 0≠48):lX F s=some (BV s):=by
 have:aA (fun r=>r=BV s) (lX F s):=by
  unfold lX wx;have e2:(s==[])=false:=by simpa using h0
  have e3:(((s.getD 0 0).toNat:Int)==48)=false:=by
   have:(s.getD 0 0).toNat≠48:=fun h=>h1 (by apply aei.1;rw [h];rfl)
   grind
  have hp:=zu.2 h0;rw [e2,aK,aC];refine aA.bd (P:=fun b=>b=decide (10<s.length)) (aA.cd (fun h=>aA.ok (by grind)) fun h=>?_) fun b hb=>?_
  ·grind [oY,aA.ok,decide_eq_false]
  subst hb;refine aA.cd (fun h=>aA.ok ?_) fun h=>?_
  ·unfold BV
   rw [if_neg fun hh=>?_];have hall:=p4.1 hh.1
   obtain⟨a,l,rfl⟩:∃a l,s=a::l:=by cases s with
    | nil=>exact absurd rfl h0
    | cons a l=>exact⟨a,l,rfl⟩
   have ha:=hall a qD;unfold B9 at ha;rw [cE,fL,fL] at ha;have hne:a.toNat≠48:=fun h=>h1 (by simp_all);have h5:=Wt l (10*0+(a.toNat-48));have h6:10^10<=10^l.length:=Nat.pow_le_pow_right de (by simp at h;omega);have h7:1*10^l.length<=(10*0+(a.toNat-48))*10^l.length:=zy _ om;have h8:qw 0 (a::l)=qw (10*0+(a.toNat-48)) l:=rfl
   grind
  ·refine aA.lp (fun z:Int×Int=>∃k:Nat,z.2=(k:Int)/\k<=s.length/\(s.take k).all B9=true/\z.1=(qw 0 (s.take k):Nat)/\qw 0 (s.take k)<10^k) (fun z=>s.length-z.2.toNat) ⟨0,rfl,om,rfl,rfl,Nat.one_pos⟩ (by simp_all) ?_
   rintro⟨x,p⟩ ⟨k,q2,h2,h3,q3,h4⟩ rc hrc;dsimp only at q2 q3 hrc⊢;subst q2 q3;refine aA.cd (fun hk=>?_) fun hk=>?_
   ·have hk:k<s.length:=om
    have hgd:s.getD k 0=s[k]:=gd hk;rw [b9 om om,bZ,K.Uj,aC,hgd]
    have hdd:K.fW (s[k].toNat:Int)=B9 s[k]:=by
     unfold K.fW B9
     grind
    rw [hdd]
    cases hd:B9 s[k] with
    | false=>grind [aA.ok,Wu]
    | true=>
     have hd':=hd;unfold B9 at hd';rw [cE,fL,fL] at hd';have ev:=XF s hk;have h10:10^k<=10^9:=Nat.pow_le_pow_right de om
     have e5:aB ((aB (10*((qw 0 (s.take k):Nat):Int)))+(aB (IntKind.wrap .u8 ((s[k].toNat:Int)-48))))=((qw 0 (s.take (k+1)):Nat):Int):=by
      rw [show IntKind.wrap .u8 ((s[k].toNat:Int)-48)=(s[k].toNat:Int)-48 from by
       show ((s[k].toNat:Int)-48)%256=_;omega,bN (x:=(s[k].toNat:Int)-48) om,bN (x:=10*_) om,bN om,ev]
      omega
     rw [je,aK,b9 om om,e5,bx om];refine hrc _ ⟨k+1,rfl,hk,abB hk h3 hd,rfl,?_⟩ (by grind)
     grind
   ·rw [tL om] at h3 h4⊢
    unfold BV;refine aA.cd (fun h=>aA.ok ?_) fun h=>aA.ok ?_
    ·rw [if_neg om]
    grind
 obtain⟨r,h,e⟩:=this;rw [e,h]
def NoF(e:eH):Prop:=e.ur=[]/\e.oH=[]/\e.uu=[]
def Ro(e:eH):Prop:=GV e.bQ/\e.cK.length<=12/\(∀x∈e.cK,x.length<=60)/\e.fName.length<=60/\K.gG e.fK/\K.gG e.Ci/\K.gG e.pz/\NoF e
def GS(s:bw):Prop:=Ro s.bX/\(∀a∈s.eP,a.fText.length<=60)/\s.eP.length<=2000/\∃u:Nat,s.fused=(u:Int)/\u<=s.eP.length
def stop(s:bw):Bool:=s.fe != 0||s.ov
def RB(k:Nat)(l:J aD):Prop:=l.length<=26*k/\ck l<=5000*k
variable{t:Bs}
theorem RB.one{k:Nat}{c:Int}(hk:1<=k)(h:t.length<=5000*k):RB k [aD.mk t c]:=⟨bz,by simp [ck];omega⟩
theorem RB.nil{k:Nat}:RB k []:=⟨si,by simp [ck]⟩
theorem RB.mono{k j:Nat}{l:J aD}(h:RB k l)(hj:k<=j):RB j l:=⟨by have:=h.1;omega,by have:=h.2;omega⟩
theorem RB.app{k j:Nat}{l m:J aD}(h:RB k l)(h':RB j m):RB (k+j) (l++m):=⟨by have:=h.1;have:=h'.1;grind,by have:=h.2;have:=h'.2;rw [F4];omega⟩
theorem tI(F:Nat)(s:bw):iI F s=some (stop s):=by unfold iI wx;rw [aH];rfl
theorem y5(F:Nat)(e:Int)(m:Bs)(s:bw):ji F e m s=some (cond (stop s) s {s with fe:=e,ga:=m}):=by
 unfold ji wx;grind [tI]
variable{s:bw}
theorem aii{e:Int}(he:e≠0)(m:Bs):stop (cond (stop s) s {s with fe:=e,ga:=m})=true:=by
 cases h:stop s with
 | true=>exact h
 | false=>show (e != 0||_)=true;simp_all
theorem Qc(F:Nat)(p:cQ):∃c,eG F p=some c:=by unfold eG wx;simp_all [aH]
theorem aoO(F:Nat)(p:cQ):∃c,nD F p=some c:=by unfold nD wx;simp_all [aH]
theorem aky(F:Nat)(e:Int):aA (fun r=>r.length<=100) (BH F e):=by
 exact aA.cb (fun _=>aA.ok de) fun _=>aA.cb (fun _=>aA.ok de) fun _=>aA.cb (fun _=>aA.ok de) fun _=>aA.cb (fun _=>aA.ok de) fun _=>aA.ok de
theorem akz(F:Nat)(o:Int)(c s:Bool)(v:Bs):∃r,tf F o c s v=some r:=by unfold tf wx;simp_all [aH,aC]
theorem alw(F:Nat)(p:TPart):∃b,rz F p=some b:=by unfold rz wx;simp_all [aH,aC]
theorem aqd(F:Nat)(n:Int)(hF:30<=F)(h:K.gG n):∃r,r.length<=60/\dJ F n=some r:=⟨_,K.xF h,K.Kk F hF h⟩
theorem aij(F:Nat)(l:J aD)(hF:l.length<F)(h1:l.length<=1000000000)(h2:ck l<=1000000000):BC F l=some (l.flatMap fun r=>r.fText):=by
 have:aA (fun r=>r=l.flatMap fun r=>r.fText) (BC F l):=by
  have hsz:∀k,((l.take k).flatMap fun r=>r.fText).length<=ck l:=fun k=>by
   have h:(l.flatMap fun r=>r.fText)=((l.take k).flatMap fun r=>r.fText)++((l.drop k).flatMap fun r=>r.fText):=by rw [<-Pr,Ru]
   have h2:ck l=(l.flatMap fun r=>r.fText).length:=by unfold ck;rw [List.length_flatMap]
   simp_all
  refine aA.lp (fun z=>∃k:Nat,z.2=(k:Int)/\k<=l.length/\z.1=(l.take k).flatMap fun r=>r.fText) (fun z=>l.length-z.2.toNat) ⟨0,rfl,om,si⟩ (by simp_all) ?_;rintro⟨_,_⟩ ⟨k,rfl,h3,rfl⟩ rc hrc;dsimp only at hrc⊢;refine aA.cd (fun h=>?_) fun h=>aA.ok (by grind);have hk:k<l.length:=om;have e1:((l.take (k+1)).flatMap fun r=>r.fText)=((l.take k).flatMap fun r=>r.fText)++l[k].fText:=by rw [DA _ _ _ hk]
  have h5:=hsz (k+1);rw [e1,tM] at h5;rw [b9 om om,bZ,gd hk,bx om];exact aA.rq (decide_eq_true om) (hrc _ ⟨k+1,rfl,hk,e1.symm⟩ (by grind))
 obtain⟨r,h,e⟩:=this;rw [e,h]
theorem aqe(F:Nat)(n:Bs)(hF:n.length<F)(hn:n.length<=1000):∃r,gM F n=some r:=by
 by_cases h:n=[]
 ·subst h;exact⟨0,rfl⟩
 have:=zu.2 h;obtain⟨d,hd⟩:=U9 F n hF om;unfold gM wx;rw [oY om]
 simp_all [aC,aH]
variable{e:eH}
theorem amN(F:Nat)(h:Ro e)(n:Bs)(hF:1000<F)(hn:n.length<=1000):aA (fun r=>r.1.length<=4096) (ke F e n):=by
 obtain⟨hV,hP,hP',hN,h1,h2,h3,-⟩:=h;have hl:=hV.1;unfold ke wx;obtain⟨p,hp⟩:=aqe F n om om;rw [hp,aC,y9 F e.bQ n om om];refine aA.bd (E2 F n om) fun b _=>aA.cb (fun _=>?_) fun _=>?_
 ·exact aA.cb (fun _=>aA.ok de) fun _=>aA.ok (Pu hV n).2
 rw [aH];refine aA.cb (fun hc=>?_) fun _=>?_
 ·rw [cF,cE] at hc
  have c1:=Ae hc.1;have c2:=Ae hc.2;rw [bN om];refine aA.rq (lF om om) (aA.ok ?_);have hk:(p-1).toNat<e.cK.length:=om;rw [gd hk]
  grind
 refine aA.cb (fun _=>aA.ok (by grind)) fun _=>?_
 have dec:∀(m:Int),K.gG m->aA (fun r=>r.1.length<=4096) ((dJ F m).bind fun x=>some (x,true)):=fun m hm=>by
  obtain⟨r,h1,h2⟩:=aqd F m om hm
  grind [aA.ok]
 refine aA.cb (fun _=>dec _ ⟨om,om⟩) fun _=>aA.cb (fun _=>dec _ h1) fun _=>aA.cb (fun _=>?_) fun _=>aA.cb (fun _=>dec _ h2) fun _=>?_
 ·grind [aA.bd,alP,aA.ok]
 rw [aH];refine aA.cb (fun _=>dec _ h3) fun _=>aA.cb (fun _=>?_) fun _=>aA.cb (fun _=>?_) fun _=>aA.ok de
 ·grind [aA.bd,agD,aA.ok]
 grind [aA.bd,agE,agD,aA.ok]
theorem amO(F:Nat)(h:GS s)(n v:Bs)(p:cQ)(hv:v.length<=4096)(hF:1000<F):aA (RB 1) (mB F n v p s):=by
 obtain⟨⟨hV,hP,hP',-⟩,-⟩:=h;unfold mB wx;simp only [aH];obtain⟨c,hc⟩:=Qc F p;rw [hc];refine aA.cb (fun _=>aA.ok (RB.one om om)) fun _=>?_;refine aA.lp (fun z=>∃k:Nat,z.2=(k:Int)/\k<=s.bX.cK.length/\z.1.length<=2*k/\ck z.1<=60*k) (fun z=>s.bX.cK.length-z.2.toNat) ⟨0,rfl,om,si,by simp [ck]⟩ (by grind) ?_;rintro⟨o,_⟩ ⟨k,rfl,h1,h2,h3⟩ rc hrc;refine aA.cd (fun h=>?_) fun _=>aA.ok ⟨om,om⟩;have hk:k<s.bX.cK.length:=om;have hx:=hP' _ (gU hk);refine aA.bd (P:=fun u=>u.length<=2*k+1/\ck u<=60*k) (aA.cd (fun _=>aA.rq (nO (by grind) de) (aA.ok ⟨bz,by rw [F4];show ck o+0<=_;omega⟩)) fun _=>aA.ok ⟨om,h3⟩) fun u hu=>?_;rw [b9 om om,bZ,gd hk,bx om];refine aA.rq (nO (by grind) de) (hrc _ ⟨k+1,rfl,hk,?_,?_⟩ (by grind))
 ·grind
 ·show ck (u++[aD.mk s.bX.cK[k] c])<=_;rw [F4];simp [ck] at hu⊢;omega
theorem aoP(F:Nat)(o:Int):Di F o=yA F o:=rfl
theorem aik(g x:Bs):∀l:J Bs,l≠[]->Lib.join (l++[x]) g=Lib.join l g++(g++x)
 | [],h=>absurd rfl h
 | a::l,_=>by
  rw [zw,Lib.join_cons,Lib.join_cons];unfold Lib.joinTail;simp
theorem XG(l:J Bs)(g:Bs)(n:Nat)(hg:g.length<=1)(h:∀a∈l,a.length<=n):(Lib.join l g).length<=(n+1)*l.length:=by
 cases l with
 | nil=>simp [Lib.join_nil]
 | cons a r=>
  rw [Lib.join_cons]
  have h2:∀r:J Bs,(∀c∈r,c.length<=n)->(Lib.joinTail g r).length<=(n+1)*r.length:=fun r=>by
   unfold Lib.joinTail
   induction r with
   | nil=>intro _;simp
   | cons b r ih=>grind [List.mem_cons_self,List.mem_cons_of_mem,List.flatten_cons,List.length_append,List.length_cons,Nat.mul_succ]
  grind [List.mem_cons_of_mem,List.length_append,List.length_cons,Nat.mul_succ]
theorem aqf(F:Nat)(l:J Bs)(g:Bs)(hF:100<F)(h1:l.length<=12)(h2:∀x∈l,x.length<=60)(hg:g.length<=1):Fi F l g=some (Lib.join l g)/\tQ F l g=some (Lib.join l g):=by
 have hlen:=XG l g 60 hg h2;constructor
 ·grind [Fi,b9]
 have:aA (fun r=>r=Lib.join l g) (tQ F l g):=by
  refine aA.lp (fun z=>∃k:Nat,z.2=(k:Int)/\k<=l.length/\z.1=Lib.join (l.take k) g) (fun z=>l.length-z.2.toNat) ⟨0,rfl,om,by simp [Lib.join_nil]⟩ (by grind) ?_;rintro⟨o,p⟩ ⟨k,q1,h3,q2⟩ rc hrc;dsimp only at q1 q2 hrc⊢;subst q1 q2
  have hj:(Lib.join (l.take k) g).length<=61*12:=by
   have a:=XG (l.take k) g 60 hg fun x hx=>h2 x (Rw hx)
   grind
  refine aA.cd (fun h=>?_) fun h=>aA.ok (by grind);have hk:k<l.length:=om;have hx:=h2 _ (gU hk)
  have e1:Lib.join (l.take (k+1)) g=(if 0<k then Lib.join (l.take k) g++g else Lib.join (l.take k) g)++l[k]:=by
   rw [lB hk];by_cases h0:0<k
   ·rw [if_pos h0,aik _ _ _ (fun e=>by have:=congrArg List.length e;simp_all),uX]
   ·obtain rfl:k=0:=om
    simp [Lib.join_nil,Lib.join_cons,Lib.joinTail]
  refine aA.bd (P:=fun u=>u=if 0<k then Lib.join (l.take k) g++g else Lib.join (l.take k) g) (aA.cd (fun h0=>aA.rq (dW om) (aA.ok (by rw [if_pos om]))) fun h0=>aA.ok (by rw [if_neg om])) fun u hu=>?_;have hul:u.length<=61*12+1:=by grind
  rw [b9 om om,bZ,gd hk,bx om];refine aA.rq (decide_eq_true om) (hrc _ ⟨k+1,rfl,hk,by dsimp only;rw [e1,hu]⟩ (by grind))
 obtain⟨r,h,e⟩:=this;rw [e,h]
def spec(n:Bs):Bool:=[[64],[42],[35],[63],[45],[36],[33],[48]].contains n
theorem ail:∀n:Fin 256,decide (0<=Lib.indexByte [64,42,35,63,45,36,33,48] (UInt8.ofNat n.val))=spec [UInt8.ofNat n.val]:=by decide +kernel
theorem abC{n:Bs}(h:spec n=true):n.length=1:=by
 unfold spec at h;simp at h
 grind
theorem aqg(F:Nat)(n:Bs):zo F n=some (spec n):=by
 unfold zo wx;by_cases h:n.length=1
 ·obtain⟨b,rfl⟩:=YB.1 h
  have hb:=ail ⟨b.toNat,b.toNat_lt⟩
  have e:stringslite_Index F [64,42,35,63,45,36,33,48] [b]=some (Lib.indexByte [64,42,35,63,45,36,33,48] b):=by
   unfold stringslite_Index stringslite_IndexByte wx
   have e1:(([b]:Bs)==[64,42,35,63,45,36,33,48])=false:=by
    simp_all
   simp;show ((ibF F _ _).bind _)=_
   simp_all [ibF,bZ]
  unfold strings_Contains strings_Index wx
  simp_all
 grind [beq_eq_false_iff_ne,abC]
theorem agk(F:Nat)(hF:30<=F){n:Int}(h:K.gG n):pJ F n=some (Lib.itoa n):=by
 unfold pJ;rw [b9 h.1 h.2]
theorem arw(F:Nat)(e:eH)(hF:1000<F)(hl:e.bQ.length<=128):rA F e=tS F e.bQ:=by
 unfold rA nE tS wx;rw [abz F _ _ om om,y9 F _ _ om om]
 have hb:(jH e.bQ [73,70,83]).2=false->(jH e.bQ [73,70,83]).1=bO.mk [] [] false false false:=by
  unfold jH;cases e.bQ.find? _<;>simp
 grind
theorem arx(F:Nat)(e:eH)(n:Bs)(hF:1000<F)(hl:e.bQ.length<=128):nE F e n=some (cond (jH e.bQ n).1.cL ((jH e.bQ n).1.bS,true) ([],false)):=by
 unfold nE wx;rw [abz F _ _ om om]
 have hb:(jH e.bQ n).2=false->(jH e.bQ n).1=bO.mk [] [] false false false:=by
  unfold jH;cases e.bQ.find? _<;>simp
 grind
theorem aoQ(F:Nat)(h:Ro e)(n:Bs)(hF:2000<F)(hn:n.length<=1000):yW F e n=ke F e n:=by
 obtain⟨hV,hP,hP',hN,r1,r2,r3,-⟩:=h;have hl:=hV.1;have hj:=fun g hg=>aqf F e.cK g om hP hP' hg;have R:K.gG (e.cK.length:Int):=⟨om,om⟩;have I:=fun {x:Int}(h:K.gG x)=>agk F om h;have D:=fun {x:Int}(h:K.gG x)=>K.Kk F om h;unfold yW wx;rw [aqg,aC]
 cases hs:spec n with
 | true=>
  rw [aZ,oY (by have:=abC hs;omega)];unfold spec at hs;simp only [Yu,iE,Ca,Cb] at hs;have fin:∀x:O (Bs×Bool),(x.bind fun x2=>some (x2.1,x2.2))=x:=fun x=>by cases x<;>rfl
  rw [fin];unfold wO ke gM wx;obtain⟨g,hg,eg⟩:=agE F hV om;obtain⟨m,rfl⟩:∃m,F=m+100:=⟨F-100,om⟩;rcases hs with rfl|rfl|rfl|rfl|rfl|rfl|rfl|rfl
  ·show ((Fi (m+100) e.cK [32]).bind _)=((tQ (m+100) e.cK [32]).bind _)
   rw [(hj [32] de).1,(hj [32] de).2]
  ·show ((rA (m+100) e).bind _)=((tS (m+100) e.bQ).bind _)
   grind [arw]
  ·show ((pJ (m+100) _).bind _)=((dJ (m+100) _).bind _)
   rw [I R,D R]
  ·show ((pJ (m+100) _).bind _)=((dJ (m+100) _).bind _)
   rw [I r1,D r1]
  ·show ((Di (m+100) _).bind _)=((yA (m+100) _).bind _)
   rw [aoP]
  ·show ((pJ (m+100) _).bind _)=((dJ (m+100) _).bind _)
   rw [I r2,D r2]
  ·show cond (e.pz==0) (some ([],false)) ((pJ (m+100) e.pz).bind _)=(Option.bind (some (e.pz != 0)) fun x9=>cond x9 ((dJ (m+100) e.pz).bind fun cq=>some (cq,true)) (some ([],false)))
   grind
  ·rfl
 | false=>
  rw [aK]
  have ne:∀x,x∈([[64],[42],[35],[63],[45],[36],[33],[48]]:J Bs)->(n==x)=false:=fun x hx=>by
   rw [gK];intro h;subst h;have:spec n=true:=by unfold spec;exact Yu.2 hx
   rw [this] at hs;cases hs
  have ends:∀(p:Int),¬ (0<p/\p<=e.cK.length)->gM F n=some p->fA F n=some false->ke F e n=some ([],false):=by
   intro p hp h1 h2;unfold ke wx;rw [h1,aC,h2,aC,aK,aH,aC]
   rw [show (cond (decide (0<p)) (decide (p<=(e.cK.length:Int))) false)=false from by
    simp_all]
   rw [ne [48] de,ne [35] de,ne [63] de,ne [45] de,ne [36] de,ne [33] de,ne [64] de,ne [42] de];rfl
  have alx:∀b,fA F n=some b->gM F n=some 0->((ld F n).bind fun x5=>cond (!x5) (some ([],false)) ((nE F e n).bind fun x6=>some (x6.1,x6.2)))=ke F e n:=by
   intro b hb hp;rw [K.GN F n om,hb,aC]
   cases b with
   | false=>rw [ends 0 om hp hb];rfl
   | true=>
    unfold ke wx;rw [hp,aC,hb,aC,aZ,arx F e n om hl,y9 F _ _ om om,aC,aC];cases (jH e.bQ n).1.cL<;>rfl
  obtain⟨b,-,hb⟩:=E2 F n om;by_cases h0:n=[]
  ·subst h0
   exact alx b hb rfl
  by_cases h1:n.getD 0 0=48
  ·have hp:=zu.2 h0
   have hc:(((n.getD 0 0).toNat:Int)==48)=true:=by rw [h1];rfl
   have e1:qp F n=some (0,false):=by
    unfold qp wx;rw [ne [48] de,aK,show (n==[])=false from by simpa using h0,aK,oY om,hc,aC];rfl
   obtain⟨d,hd⟩:=U9 F n om om
   have e2:gM F n=some 0:=by
    unfold gM wx;rw [hd,oY om,hc]
    grind
   rw [e1,aC];exact alx b hb e2
  ·have hp:=zu.2 h0
   have hc:(((n.getD 0 0).toNat:Int)==48)=false:=by
    rw [beq_eq_false_iff_ne];intro h;exact h1 (by apply UInt8.toNat_inj.1;grind)
   rw [aru F n om hn h0 h1,aC]
   have e2:gM F n=some (cond (BV n).2 (BV n).1 0):=by
    unfold gM wx;rw [arv F n om hn h0 h1,oY om,hc,aC];simp only [aH,aC];unfold BV
    grind
   cases hd:(BV n).2 with
   | false=>
    simp_all
   | true=>
    rw [hd,aZ] at e2;rw [aZ]
    have hnm:fA F n=some false:=by
     unfold BV at hd;split at hd
     ·rename_i hh
      have h8:=p4.1 hh.1 _ (gU (n:=0) hp);unfold B9 at h8;rw [cE,fL,fL] at h8;unfold fA wx;rw [show (n==[])=false from by simpa using h0,aK,aC,oY om,K.Uj]
      have:K.fW ((n.getD 0 0).toNat:Int)=true:=by
       unfold K.fW;grind
      simp_all
     ·cases hd
    have Q7:0<=(BV n).1/\(BV n).1<=2147483647:=by
     unfold BV;grind
    generalize (BV n).1=d at e2 Q7⊢;rw [aH,aC];by_cases vz:0<d/\d<=e.cK.length
    ·rw [show (cond (decide (d<1)) true (decide ((e.cK.length:Int)<d)))=false from by grind,cond_false]
     unfold ke wx
     simp_all
    grind
def T2{A B:Type}(Q:A->B->Prop)(x:O A)(y:O B):Prop:=∃a b,Q a b/\x=some a/\y=some b
variable{A B C D σ τ:Type}{P:C->D->Prop}{x:O A}{y:O B}{f:C->O A}{g:D->O B}{x':O A}{y':O B}{b1:(σ->O A)->σ->O A}{b2:(τ->O B)->τ->O B}
section
variable {Q : A -> B -> Prop}
theorem T2.ok{a:A}{b:B}(h:Q a b):T2 Q (some a) (some b):=⟨a,b,h,rfl,rfl⟩
theorem T2.mono{P:A->B->Prop}(h:T2 P x y)(f:∀a b,P a b->Q a b):T2 Q x y:=by
 obtain⟨a,b,h,e⟩:=h;exact⟨a,b,f a b h,e⟩
theorem T2.bd{x:O C}{y:O D}(h:T2 P x y)(k:∀a b,P a b->T2 Q (f a) (g b)):T2 Q (x.bind f) (y.bind g):=by
 obtain⟨a,b,h,rfl,rfl⟩:=h;exact k a b h
theorem T2.l{P:C->Prop}{x:O C}(h:aA P x)(k:∀a,P a->T2 Q (f a) y):T2 Q (x.bind f) y:=by
 obtain⟨a,h,rfl⟩:=h;exact k a h
theorem T2.r{P:D->Prop}{y:O D}(h:aA P y)(k:∀b,P b->T2 Q x (g b)):T2 Q x (y.bind g):=by
 obtain⟨a,h,rfl⟩:=h;exact k a h
theorem T2.ql{c:Bool}(h:c=true)(k:T2 Q x y):T2 Q (rq c x) y:=by subst h;exact k
theorem T2.qr{c:Bool}(h:c=true)(k:T2 Q x y):T2 Q x (rq c y):=by subst h;exact k
theorem T2.cb{c:Bool}(a:c=true->T2 Q x y)(b:c=false->T2 Q x' y'):T2 Q (cond c x x') (cond c y y'):=by
 grind
theorem T2.cl{c:Bool}(a:c=true->T2 Q x y)(b:c=false->T2 Q x' y):T2 Q (cond c x x') y:=by
 grind
theorem T2.cr{c:Bool}(a:c=true->T2 Q x y)(b:c=false->T2 Q x y'):T2 Q x (cond c y y'):=by
 grind
theorem T2.lp(P:σ->τ->Prop)(m:σ->Nat){s:σ}{t:τ}(h0:P s t)(hF:m s<F)
  (hs:∀s t,P s t->∀r1 r2,(∀s' t',P s' t'->m s'<m s->T2 Q (r1 s') (r2 t'))->T2 Q (b1 r1 s) (b2 r2 t)):T2 Q (b8 b1 F s) (b8 b2 F t):=by
 induction F generalizing s t with
 | zero=>omega
 | succ F ih=>grind [b8]
end
def mH(s:bw):Prop:=GS s/\wZ s.bX.bQ/\(s.ov=false->s.zm=[])
def fQ(fl:J bE)(s:bw):aL:=aL.mk s.bX fl (s.eP.drop s.fused.toNat) s.lN false [] [] 0
def Fin(x:aL)(s:bw):Prop:=(s.fe≠0/\x.ov=false/\x.wF=s.fe/\x.ga=s.ga)\/(s.fe=0/\x.ov=true/\x.zm=s.zm/\x.bX=s.bX/\x.lN=s.lN)
def RR{A:Type}(fl:J bE)(I:J A->Prop)(a:J A×Bool×aL)(b:J A×bw):Prop:=mH b.2/\I b.1/\((stop b.2=false/\a=(b.1,true,fQ fl b.2))\/(stop b.2=true/\a.2.1=false/\Fin a.2.2 b.2/\a.1=[]))
def RA(fl:J bE)(a:Bool×aL)(b:bw):Prop:=mH b/\((stop b=false/\a=(true,fQ fl b))\/(stop b=true/\a.1=false/\Fin a.2 b))
theorem RR.go{A:Type}{fl:J bE}{I:J A->Prop}{r:J A}{s:bw}(h:mH s)(hi:I r)(hs:stop s=false):RR fl I (r,true,fQ fl s) (r,s):=⟨h,hi,.inl ⟨hs,rfl⟩⟩
theorem adF(h:stop s=false):s.fe=0/\s.ov=false:=by
 unfold stop at h;simp_all
theorem aoR{e:Int}{m:Bs}(he:e≠0):stop {s with fe:=e,ga:=m} = true:=by
 show (e != 0||s.ov)=true
 simp_all
variable{fl:J bE}
theorem failed{e:Int}{m:Bs}(hs:stop s=false)(he:e≠0):stop (cond (stop s) s {s with fe:=e,ga:=m})=true/\Fin {fQ fl s with wF:=e,ga:=m} (cond (stop s) s {s with fe:=e,ga:=m}):=by
 rw [hs];exact⟨aoR he,.inl ⟨he,rfl,rfl,rfl⟩⟩
theorem LY(h:mH s)(e:Int)(m:Bs):mH (cond (stop s) s {s with fe:=e,ga:=m}):=by cases stop s<;>exact h
theorem RR.err{I:J A->Prop}{r:J A}{e:Int}{m:Bs}{x:aL}(h:mH s)(hi:I r)(hs:stop s=false)(he:e≠0)(hx:x={fQ fl s with wF:=e,ga:=m}):RR fl I ([],false,x) (r,cond (stop s) s {s with fe:=e,ga:=m}):=by
 subst hx;have:=failed (fl:=fl) (m:=m) hs he;exact⟨LY h _ _,hi,.inr ⟨this.1,rfl,this.2,rfl⟩⟩
theorem KG(F:Nat)(m:Bs)(x:aL):gT F m x=some (false,{x with ga:=m,wF:=32}):=rfl
theorem aly(F:Nat)(e:Int)(x:aL):fI F e x=some (false,{x with wF:=e}):=rfl
theorem aim(v:bO){l:J bO}(h:wZ l):v∈nk v l false:=by rw [Gc v h];simp
theorem get_mem{l:J bO}{n:Bs}{v:bO}(h:v∈l)(hn:v.fName=n):(jH l n).2=true:=by
 unfold jH
 cases e:l.find? fun v=>v.fName==n with
 | none=>simp_all
 | some x=>rfl
theorem akA(F:Nat){l:J bO}(h:GA l)(n v:Bs)(hF:1000<F){r:J bO×Int}(e:tv F l n v=some r)(h0:r.2=0):fA F n=some true/\(jH r.1 n).2=true:=by
 have hl:=h.len;obtain⟨b,hb,eb⟩:=E2 F n om;unfold tv wx at e;rw [y9 F l n om om,aC,eb,aC] at e
 cases b with
 | false=>grind
 | true=>
  refine⟨eb,?_⟩
  cases hr:(jH l n).1.lM with
  | true=>grind
  | false=>
   rw [hr] at e;by_cases h4:4096<v.length
   ·grind
   rw [cf om,aH,aC] at e
   cases h5:(cond (!(jH l n).2) (decide (128<=(l.length:Int))) false) with
   | true=>grind
   | false=>
    rw [h5,Pv F l _ om om] at e;cases e;exact get_mem (aim _ h.2) rfl
theorem amP(F:Nat){l:J bO}(h:GA l)(n:Bs)(hF:1000<F)(h1:fA F n=some true)(h2:(jH l n).2=true){r:J bO×Int}(e:qW F l n true false=some r):r.2=0:=by
 have hl:=h.len;unfold qW wx at e;rw [h1,aC,je,aK,y9 F l n om om,aC,h2,je,aK,aC,aH,aC,aH,aC,Pv F l _ om om] at e;cases e;rfl
theorem adG(F:Nat)(fl:J bE)(h:mH s)(hs:stop s=false)(n v:Bs)(hF:1000<F):T2 (RA fl) (jE F n v (fQ fl s)) (iw F n v s):=by
 have hA:GA s.bX.bQ:=⟨h.1.1.1,h.2.1⟩;obtain⟨r,hr,e1,e2⟩:=art F hA n v hF;unfold jE iw wx;rw [tI,aC,hs,e1,show Hl F (fQ fl s).bX.bQ n v=some r from e2,aC,aC];have go:∀l:J bO,GA l->T2 (RA fl) (cond ((0:Int) != 0) ((fI F 0 (fQ fl s)).bind fun x5=>some (x5.1,x5.2)) (some (true,{fQ fl s with bX:={(fQ fl s).bX with bQ:=l}}))) (some {s with bX:={s.bX with bQ:=l}}):=fun l hl=>T2.ok ⟨⟨⟨⟨hl.1,h.1.1.2⟩,h.1.2⟩,hl.2,h.2.2⟩,.inl ⟨hs,rfl⟩⟩;by_cases h0:r.2=0
 ·rw [h0]
  show T2 _ (((cond ((lD .i64 s.bX.eB 32) != 0) ((DP F r.1 n true false).bind fun x4=>some (x4.1,x4.2)) (some (r.1,0)):O (J bO×Int)).bind _)) ((cond ((lD .i64 s.bX.eB 32) != 0) ((qW F r.1 n true false).bind fun x5=>some x5.1) (some r.1):O (J bO)).bind _)
  cases hb:((lD .i64 s.bX.eB 32) != 0) with
  | false=>exact go r.1 hr
  | true=>
   obtain⟨q,hq,e3,e4⟩:=aqc F hr n true false hF;obtain⟨k1,k2⟩:=akA F hA n v hF e1 h0;have hq0:=amP F hr n hF k1 k2 e3
   simp_all
 ·have hne:(r.2 != 0)=true:=by simpa using h0
  have aje:(r.2==0)=false:=by simpa using h0
  rw [aje,aK,aC,aK,aC];rw [hne,y5];have:=failed (fl:=fl) (m:=[]) hs h0;exact T2.ok ⟨LY h _ _,.inr ⟨this.1,rfl,this.2⟩⟩
theorem ary(F:Nat)(fl:J bE)(h:mH s)(hs:stop s=false)(x:TPart)(m:dh)(p:cQ)(hm:m.eR=p.eR)(hF:1000<F):T2 (RR fl (RB 1)) (mQ F x m (fQ fl s)) ((qy F x.fText s).bind fun x7=>(eG F p).bind fun x8=>some ([aD.mk x7.1 x8],x7.2)):=by
 obtain⟨⟨hE,hA,hL,u,hu,hul⟩,yw⟩:=h;have hv:ep F m=eG F p:=by unfold ep eG wx;rw [hm]
 obtain⟨c,hc⟩:=Qc F p;unfold mQ qy wx;rw [hv,hc,hu];have hx:(fQ fl s).eP=s.eP.drop u:=by unfold fQ;simp_all
 rw [hx];by_cases hk:u<s.eP.length
 ·have hd:s.eP.drop u=s.eP[u]::s.eP.drop (u+1):=vo hk
  have e0:(((s.eP.drop u).length:Int)==0)=false:=by grind
  have e1:sl (s.eP.drop u) 1 ((s.eP.drop u).length:Int)=s.eP.drop (u+1):=by
   grind [sl,Int.toNat_natCast,List.take_length,List.drop_drop]
  have e2:(s.eP.drop u).getD 0 Cj=s.eP[u]:=by rw [hd];rfl
  have hln:0<(s.eP.drop u).length:=by grind
  rw [e0,aK,oY om,b9 om om,e1,e2,cf om,b9 om om,bZ,gd hk];have ha:=hA _ (gU hk);generalize s.eP[u]=a at ha⊢
  have key:T2 (fun (t:Bs)(y:Bs×bw)=>t.length<=60/\y=(t,{s with fused:=(((u+1:Nat)):Int),lN:=a.fK})) (sr F a.fText [10]) (b8 (σ:=Int) (R:=Bs×bw) (fun bA x1=>
    (cond (decide (0<x1))
    (rq ((decide (0<=aB (x1-1)))&&(decide (aB (x1-1)<((a.fText).length:Int)))) (some (((a.fText.getD (Int.toNat (aB (x1-1))) 0).toNat:Int)==10)))
    (some false):Option Bool).bind fun x3=>
    cond x3
    (bA (aB (x1-1)))
    (rq ((decide (0<=x1))&&(decide (x1<=(a.fText.length:Int)))) (some (sl a.fText 0 x1,{s with fused:=aB ((u:Int)+1),lN:=a.fK})))) F (a.fText.length:Int)):=by
   have fin:∀k:Nat,k<=a.fText.length->T2 (fun (t:Bs)(y:Bs×bw)=>t.length<=60/\y=(t,{s with fused:=(((u+1:Nat)):Int),lN:=a.fK})) (some (a.fText.take k)) (rq ((decide (0<=(k:Int)))&&(decide ((k:Int)<=(a.fText.length:Int)))) (some (sl a.fText 0 (k:Int),{s with fused:=aB ((u:Int)+1),lN:=a.fK}))):=fun k hk=>by
    grind [T2.qr,lF,T2.ok,List.length_take,bx,sl,Int.toNat_natCast]
   unfold sr wx;by_cases hz:a.fText=[]
   ·rw [hz] at fin⊢
    obtain⟨f,rfl⟩:∃f,F=f+1:=⟨F-1,om⟩;exact fin 0 (ek _)
   rw [show (a.fText==[])=false from by simpa using hz];show T2 _ ((ox F a.fText 10).bind fun x3=>some x3) _;have ret:∀x:Option Bs,(x.bind fun x3=>some x3)=x:=fun x=>by cases x<;>rfl
   rw [ret];unfold ox wx;refine T2.lp (fun (t:Bs)(i:Int)=>∃k:Nat,i=(k:Int)/\k<=a.fText.length/\t=a.fText.take k) (fun t=>t.length) ⟨_,rfl,ek _,by rw [yf]⟩ om ?_;rintro t i ⟨k,rfl,h1,rfl⟩ r1 r2 hrc;have hlk:(a.fText.take k).length=k:=List.length_take_of_le h1;rw [hlk];by_cases h0:0<k
   ·rw [zC om om,cz om,b9 om om,cz om,b9 om om,aC,b9 om om,aC,bZ]
    have eg:(a.fText.take k).getD (k-1) 0=a.fText.getD (k-1) 0:=by grind
    rw [eg];refine T2.cb (fun _=>?_) fun _=>fin k h1
    grind [sl,Int.toNat_natCast,Nat.min_eq_left,List.length_take]
   grind
  refine T2.bd key fun t y ⟨ht,hy⟩=>?_;subst hy;rw [aC,aC];refine T2.ok ⟨⟨⟨hE,hA,hL,u+1,rfl,hk⟩,yw⟩,RB.one om (by grind),.inl ⟨hs,?_⟩⟩;unfold fQ
  grind
 ·have e0:(((s.eP.drop u).length:Int)==0)=true:=by simp_all
  rw [e0,aZ,cz om,aC,aC];obtain⟨s1,s2⟩:=adF hs;refine T2.ok ⟨⟨⟨hE,hA,hL,u,rfl,hul⟩,yw.1,fun h=>nomatch h⟩,RB.one om (eA _),.inr ⟨?_,rfl,.inr ⟨s1,rfl,rfl,rfl,rfl⟩,rfl⟩⟩;show (s.fe != 0||true)=true;rw [Bool.or_true]
theorem v8(k v q z:Bs)(m:J (Bs×Bs)):fZ cV (jI cV m k v) q z=if k=q then v else fZ cV m q z:=by
 unfold jI fZ cV
 cases ha:m.any fun p=>p.1==k with
 | false=>
  grind
 | true=>
  rw [aZ]
  have hf:((fun p=>p.1==q) ∘ fun p=>bif p.1==k then (k,v) else p)=fun p=>p.1==q:=by
   grind
  cases e:m.find? fun p=>p.1==q with
  | none=>
   grind
  | some p=>
   grind
def tu(l:J bO):J cm:=l.flatMap fun v=>cond v.cL [cm.mk v.fName v.bS] []
def Eu(b:J cm):J (Bs×Bs):=b.foldl (fun m x=>jI cV m x.fName x.bS) []
theorem akB(l:J bO){k:Nat}(h:k<l.length):tu (l.take (k+1))=tu (l.take k)++cond l[k].cL [cm.mk l[k].fName l[k].bS] []:=by
 unfold tu;grind [List.take_succ_eq_append_getElem]
theorem amQ{l:J bO}{b:cm}(h:b∈tu l):∃v∈l,b=cm.mk v.fName v.bS:=by
 unfold tu at h
 grind
theorem Wv:∀l:J bO,(tu l).length<=l.length
 | []=>ek _
 | v::l=>by
  have:=Wv l;unfold tu at this⊢
  grind
theorem amR{l:J bO}(h:wZ l):(tu l).Pairwise fun a b=>a.fName<b.fName:=by
 induction l with
 | nil=>exact .nil
 | cons v l ih=>
  obtain⟨h1,h2⟩:=yh.1 h;unfold tu
  grind
theorem amS{l:J bO}(h:GV l):Du (tu l):=fun b hb=>by
 obtain⟨v,hv,rfl⟩:=amQ hb;exact h.2 v hv
theorem amT{b:J cm}(h:b.Pairwise fun x y=>x.fName<y.fName)(hb:Du b):K.tE (Eu b)=b:=by
 have hE:=K.GR hb;refine VR (f:=fun x:cm=>x.fName) (K.VW hE.nd) h fun x=>?_
 have key:∀(k:J cm)(m:J (Bs×Bs)),(k.Pairwise fun x y=>x.fName<y.fName)->∀q:Bs,fZ cV (k.foldl (fun m x=>jI cV m x.fName x.bS) m) q []=(match k.find? fun x=>x.fName==q with|some x=>x.bS|none=>fZ cV m q []):=by
  intro k
  induction k with
  | nil=>intro m _ q;rfl
  | cons a k ih=>
   intro m hk q;obtain⟨h1,h2⟩:=yh.1 hk;rw [yg,ih _ h2 q,M7]
   cases e:k.find? fun x=>x.fName==q with
   | some y=>
    grind
   | none=>
    cases hq:(a.fName==q) with
    | true=>simp_all [uW,v8,if_pos]
    | false=>simp_all [v8,if_neg]
 have kk:∀(k:J cm)(m:J (Bs×Bs))(q:Bs),q∈(k.foldl (fun m x=>jI cV m x.fName x.bS) m).map (·.1)↔q∈m.map (·.1)\/∃x∈k,x.fName=q:=by
  intro k
  induction k with
  | nil=>intro m q;simp
  | cons a k ih=>
   grind [zg,List.mem_cons_self,List.mem_cons_of_mem]
 have fnd:∀y∈b,b.find? (fun x=>x.fName==y.fName)=some y:=fun y hy=>by
  cases e:b.find? fun x=>x.fName==y.fName with
  | none=>grind
  | some z=>
   have hq:(z.fName==y.fName)=true:=adT (p:=fun x:cm=>x.fName==y.fName) e
   grind [List.pairwise_iff_getElem,List.getElem_of_mem,Nat.lt_trichotomy,mj]
 rw [K.CH];constructor
 ·rintro⟨k,hk,rfl⟩
  rcases (kk b [] k).1 hk with h|⟨y,hy,rfl⟩
  ·cases h
  ·have:=key b [] h y.fName
   rw [fnd y hy] at this;unfold K.Bk;rw [show fZ cV (Eu b) y.fName []=y.bS from this];exact hy
 ·intro hx
  refine⟨x.fName,(kk b [] _).2 (.inr ⟨x,hx,rfl⟩),?_⟩;have:=key b [] h x.fName;rw [fnd x hx] at this;unfold K.Bk;rw [show fZ cV (Eu b) x.fName []=x.bS from this]
theorem abD(m:J (Bs×Bs))(k:Bs):Ec cV m k=true↔k∈m.map (·.1):=by
 simp_all [Ec,cV,Pk,rD]
theorem T2.lpe{ι:Type}{Q:A->B->Prop}(P:σ->τ->Prop)(m:σ->Nat)(E:ι->τ->Prop)(m2:τ->Nat)(R:ι->B->Prop){s:σ}{t:τ}(h0:P s t)(hF:m s<F)
  (hs:∀s t,P s t->∀r1 r2,(∀s' t',P s' t'->m s'<m s->T2 Q (r1 s') (r2 t'))->(∀i t',E i t'->m2 t'<m s->aA (R i) (r2 t'))->T2 Q (b1 r1 s) (b2 r2 t))
  (he:∀i t,E i t->∀r2,(∀t',E i t'->m2 t'<m2 t->aA (R i) (r2 t'))->aA (R i) (b2 r2 t)):T2 Q (b8 b1 F s) (b8 b2 F t):=by
 induction F generalizing s t with
 | zero=>omega
 | succ F ih=>exact hs s t h0 (b8 b1 F) (b8 b2 F) (fun s' t' h1 h2=>ih h1 om) fun i t' h1 h2=>aA.lp (E i) m2 h1 om (he i)
theorem T2.map{Q:A->B->Prop}{y:O D}(f:D->B)(h:T2 (fun a d=>Q a (f d)) x y):T2 Q x (y.bind fun d=>some (f d)):=by
 obtain⟨a,d,h,e1,rfl⟩:=h;exact⟨a,f d,h,e1,rfl⟩
theorem amU(F:Nat)(e:Int):Ep F e=BH F e:=rfl
def RV(fl:J bE)(a:Bs×Bool×aL)(b:Bs×bw):Prop:=RR fl (fun t=>t.length<=10000000) a b/\(stop b.2=false->b.1.length<=4096)
theorem alz(F:Nat)(h:stop s=true)(n v:Bs):iw F n v s=some s:=by
 unfold iw wx;simp_all [tI,aC]
theorem aoS(hN:NC<=F)(hF:100000000<=F)(fl:J bE)(g1:ei)(g2:iJ)(x:TPart)(m:dh)(p:cQ)(hm:m.eR=p.eR)(s:bw)
  (hv:T2 (RV fl) (g1.2.2.2.2.1 x.fParts (dh.mk true false 0) (fQ fl s)) (g2.2.2.2.1 x.fParts true s)) :
  T2 (RR fl (RB 1)) (nF F g1 x m (fQ fl s)) ((mX F g2 x.fParts s).bind fun x9=>(eG F p).bind fun cq=>some ([aD.mk x9.1 cq],x9.2)):=by
 obtain⟨c,hc⟩:=Qc F p;have jt:ep F m=some c:=by rw [<-hc];unfold ep eG wx;rw [hm]
 unfold nF mX wx;rw [hc];obtain⟨⟨t0,ok,x'⟩,⟨t,s'⟩,⟨⟨hg,hi,hh⟩,hlen⟩,e1,e2⟩:=hv;rw [e1,e2];dsimp only at hg hi hh hlen;refine T2.map (fun x9:Bs×bw=>([aD.mk x9.1 c],x9.2)) ?_;rw [aC,aC];dsimp only;rw [tI,aC];rcases hh with⟨hs,hh⟩|⟨hs,hok,agl,-⟩
 ·cases hh
  have ht:=hlen hs;have hV:=hg.1.1.1;have hvl:=hV.1;rw [hs,je,aK,aK,show (fQ fl s').bX=s'.bX from rfl];have hb:=amS hV;have Gp:=Wv s'.bX.bQ;have hba:=amR hg.2.1;refine T2.lp (fun (z:J cm×Int×J (Bs×Bs))(y:J cm×Int)=>∃k:Nat,k<=s'.bX.bQ.length/\z=(tu (s'.bX.bQ.take k),(k:Int),Eu (tu (s'.bX.bQ.take k)))/\y=(tu (s'.bX.bQ.take k),(k:Int))) (fun z=>s'.bX.bQ.length-z.2.1.toNat) ⟨0,eA _,rfl,rfl⟩ (by show s'.bX.bQ.length-0<F;omega) ?_;rintro _ _ ⟨k,hk,rfl,rfl⟩ q1 q2 hrc;dsimp only at hrc⊢;have hkl:(tu (s'.bX.bQ.take k)).length<=k:=by have:=Wv (s'.bX.bQ.take k);rw [yj] at this;omega
  by_cases hk1:k<s'.bX.bQ.length
  ·have nx:=hrc _ _ ⟨k+1,hk1,rfl,rfl⟩ (by grind)
   have es:=akB s'.bX.bQ hk1;rw [cz om,cz om];refine T2.ql (lF om om) (T2.qr (lF om om) ?_);rw [bx om,bZ,gd hk1];have cp:∀(v:cm),((decide ((tu (s'.bX.bQ.take k)).length+([v]:J cm).length<=9223372036854775807))&&(decide (((tu (s'.bX.bQ.take k)).length+([v]:J cm).length)*32<=140737488355328)))=true:=fun v=>nO (by grind) de;refine T2.cb (fun mL=>?_) fun mL=>?_
   ·rw [mL,aZ] at es
    rw [es] at nx;refine T2.ql (cp _) (T2.qr (cp _) ?_);unfold Eu at nx;rw [Rv] at nx;exact nx
   simp_all
  ·rw [cf om,cf om,tL om]
   have hE:=amT hba hb
   have hkeys:∀n:Bs,Ec cV (Eu (tu s'.bX.bQ)) n=true↔∃a∈tu s'.bX.bQ,a.fName=n:=fun n=>by
    rw [abD];have:∀x,x∈tu s'.bX.bQ↔∃k,k∈(Eu (tu s'.bX.bQ)).map (·.1)/\x=K.Bk (Eu (tu s'.bX.bQ)) k:=fun x=>by rw [<-K.CH,hE]
    constructor
    ·intro h;exact⟨_,(this _).2 ⟨n,h,rfl⟩,rfl⟩
    ·rintro⟨a,ha,rfl⟩
     obtain⟨k,h1,h2⟩:=(this a).1 ha;rw [h2];exact h1
   have Y8:∀n,qi F (tu s'.bX.bQ) n=some (fZ cV (Eu (tu s'.bX.bQ)) n []):=fun n=>by
    rw [K.OC F _ n om om,<-K.OD,hE]
   have alA:∀n,Ec cV (Eu (tu s'.bX.bQ)) n=false->fZ cV (Eu (tu s'.bX.bQ)) n []=[]:=fun n h=>by
    grind [Lw,abD]
   generalize Eu (tu s'.bX.bQ)=mp at hkeys Y8 alA⊢;generalize tu s'.bX.bQ=b at hb Gp hkeys Y8⊢;obtain⟨r,⟨hR,hL,hne⟩,hr⟩:=Ws t0 b ht om hb;rw [(hr F hN).1,(hr F hN).2,aC,aC];refine T2.cb (fun he=>?_) fun he=>?_
   ·have he0:r.2.2≠0:=by simpa using he
    obtain⟨w,hw,ew⟩:=aky F r.2.2;rw [amU,ew,aC,aC];have l1:decide (t0.length+([58,32]:Bs).length<=9223372036854775807)=true:=dW (by show t0.length+2<=_;omega);have l2:decide ((t0++([58,32]:Bs)).length+w.length<=9223372036854775807)=true:=decide_eq_true (by grind);refine T2.ql l1 (T2.qr l1 (T2.ql l2 (T2.qr l2 ?_)));rw [KG,y5];exact T2.ok (RR.err hg (RB.one om (eA _)) hs de rfl)
   ·refine T2.lpe (fun (z:Int×aL)(y:Int×bw)=>∃(k:Nat)(u:bw),k<=r.2.1.length/\mH u/\stop u=false/\z=((k:Int),fQ fl u)/\y=((k:Int),u)) (fun z=>r.2.1.length-z.1.toNat) (fun (u:bw)(y:Int×bw)=>stop u=true/\y.2=u/\∃k:Nat,y.1=(k:Int)/\k<=r.2.1.length) (fun y=>r.2.1.length-y.1.toNat) (fun u (y:Bs×bw)=>y.2=u/\y.1.length<=60) ⟨0,s',eA _,hg,hs,rfl,rfl⟩ (by show r.2.1.length-0<F;omega) ?_ ?_
    ·rintro _ _ ⟨k,u,hk,hu,hsu,rfl,rfl⟩ q1 q2 hrc hex
     dsimp only at hrc hex⊢;by_cases hk1:k<r.2.1.length
     ·have hm:r.2.1.length-Int.toNat ((k+1:Nat):Int)<r.2.1.length-Int.toNat (k:Int):=om
      rw [cz om,cz om,b9 om om,b9 om om,b9 om om,bx om,bZ,gd hk1,Y8,aC];have hc1:=hne _ (gU hk1);generalize r.2.1[k]=a at hc1⊢
      have go:T2 (fun a d=>RR fl (RB 1) a ([aD.mk d.1 c],d.2)) ((jE F a.fName a.bS (fQ fl u)).bind fun cq=>cond (!cq.1) (some ([],false,cq.2)) (q1 (((k+1:Nat):Int),cq.2)))
        ((iw F a.fName a.bS u).bind fun fR=>q2 (((k+1:Nat):Int),fR)):=by
       refine T2.bd (adG F fl hu hsu a.fName a.bS om) ?_;rintro⟨ok,x2⟩ u2 ⟨hu2,⟨h1,h2⟩|⟨h1,h2,h3⟩⟩
       ·grind
       ·dsimp only at h2 h3
        subst h2;rw [qB,aZ];obtain⟨y,⟨hy1,hy2⟩,hy⟩:=hex u2 (((k+1:Nat):Int),u2) ⟨h1,rfl,k+1,rfl,hk1⟩ hm;rw [hy];refine T2.ok ⟨?_,RB.one om om,.inr ⟨?_,rfl,?_,rfl⟩⟩
        ·show mH y.2;rw [hy1];exact hu2
        ·show stop y.2=true;rw [hy1];exact h1
        ·show Fin x2 y.2;rw [hy1];exact h3
      cases arz:Ec cV mp a.fName with
      | true=>
       rw [aZ,aC]
       cases qS:(fZ cV mp a.fName []==a.bS) with
       | true=>grind
       | false=>
        rw [aK,qB,aZ,b9 om om,b9 om om]
        exact go
      | false=>
       rw [aK,aC,aK,alA _ arz]
       have hnil:a.bS≠[]:=hc1.resolve_right fun h=>by
        grind
       have:(([]:Bs)==a.bS)=false:=by grind
       rw [this,qB,aZ,b9 om om,b9 om om];exact go
     ·rw [cf om,cf om,agk F om hR,K.Kk F om hR,aC,aC,jt]
      have:=K.xF hR;exact T2.ok ⟨hu,RB.one om (by show (Lib.itoa r.1).length<=_;omega),.inl ⟨hsu,rfl⟩⟩
    ·rintro u ⟨_,_⟩ ⟨h1,rfl,k,rfl,hk⟩ q2 hrc
     dsimp only at h1 hrc⊢;refine aA.cd (fun h=>?_) fun _=>?_
     ·have hm:r.2.1.length-Int.toNat ((k+1:Nat):Int)<r.2.1.length-Int.toNat (k:Int):=om
      rw [b9 om om,b9 om om,bx om,bZ,Y8,aC];refine aA.cb (fun _=>?_) fun _=>hrc _ ⟨h1,rfl,k+1,rfl,om⟩ hm
      grind [b9,alz]
     ·rw [K.Kk F om hR]
      exact aA.ok ⟨rfl,K.xF hR⟩
 ·have hok:ok=false:=hok
  subst hok;rw [hs,aZ,qB,aZ];exact T2.ok ⟨hg,RB.one om (eA _),.inr ⟨hs,rfl,agl,rfl⟩⟩
def COk(m:dh)(p:cQ):Prop:=m.eR=false->m.dD=cond p.uf 2 0
def Mo(m:dh)(p:cQ):Prop:=m.eR=p.eR/\m.jB=p.jB
def JR(m:dh)(p:cQ)(a b:J aD):Prop:=a.map (·.fText)=b.map (·.fText)/\(COk m p->a=b)
def RJ(fl:J bE)(k:Nat)(m:dh)(p:cQ)(a:J aD×Bool×aL)(b:J aD×bw):Prop:=mH b.2/\RB k b.1/\((stop b.2=false/\a.2=(true,fQ fl b.2)/\JR m p a.1 b.1)\/(stop b.2=true/\a.2.1=false/\Fin a.2.2 b.2/\a.1=[]))
variable{m:dh}{p:cQ}
theorem JR.eq(a:J aD):JR m p a a:=⟨rfl,fun _=>rfl⟩
variable{a:J aD×Bool×aL}{b:J aD×bw}
theorem RR.j{k j:Nat}(h:RR fl (RB k) a b)(hk:k<=j):RJ fl j m p a b:=by
 obtain⟨h1,h2,⟨h3,h4⟩|h3⟩:=h
 ·exact⟨h1,h2.mono hk,.inl ⟨h3,by rw [h4],by rw [h4];exact JR.eq _⟩⟩
 ·exact⟨h1,h2.mono hk,.inr h3⟩
theorem RJ.rr{k:Nat}(h:RJ fl k m p a b)(hc:COk m p):RR fl (RB k) a b:=by
 obtain⟨h1,h2,⟨h3,h4,h5⟩|h3⟩:=h
 ·exact⟨h1,h2,.inl ⟨h3,Prod.ext (h5.2 hc) h4⟩⟩
 ·exact⟨h1,h2,.inr h3⟩
theorem RJ.go{fl:J bE}{k:Nat}{m:dh}{p:cQ}{r:J aD}{s:bw}(h:mH s)(hi:RB k r)(hs:stop s=false):RJ fl k m p (r,true,fQ fl s) (r,s):=⟨h,hi,.inl ⟨hs,rfl,JR.eq _⟩⟩
theorem alB(F:Nat)(h:m.eR=p.eR):ep F m=eG F p:=by unfold ep eG wx;rw [h]
def X1(fl:J bE)(F n:Nat):Prop:=∀(N:Nat)(l:J TPart)(m:dh)(p:cQ)(s:bw),Mo m p->mH s->stop s=false->fm l<=1000->9*fm l+9<=n->6*fm l+6<=N->T2 (RJ fl (fm l) m p) ((aV F n).1 l m (fQ fl s)) ((aX F N).1 l p s)
def X2(fl:J bE)(F n:Nat):Prop:=∀(N:Nat)(x:TPart)(m:dh)(p:cQ)(s:bw),Mo m p->mH s->stop s=false->wP x<=1000->9*wP x+8<=n->6*wP x+5<=N->T2 (RJ fl (wP x) m p) ((aV F n).2.1 x m (fQ fl s)) ((aX F N).2.1 x p s)
def XV(fl:J bE)(F n:Nat):Prop:=∀(N:Nat)(l:J TPart)(m:dh)(q:Bool)(s:bw),m.eR=q->mH s->stop s=false->fm l<=1000->9*fm l+10<=n->6*fm l+7<=N->T2 (fun a b=>RV fl a b/\b.1.length<=5000*fm l) ((aV F n).2.2.2.2.1 l m (fQ fl s)) ((aX F N).2.2.2.1 l q s)
variable{n:Nat}
theorem amV(hF:100000000<=F)(h2:X2 fl F n):X1 fl F (n+1):=by
 intro N l m p s hm hs hst hl hn hN;obtain⟨N,rfl⟩:∃k,N=k+1:=⟨N-1,om⟩;have hll:=zR l;show T2 _ (xX F (aV F n) l m (fQ fl s)) (kM F (aX F N) l p s)
 refine T2.lpe (fun (z:J aD×Int×aL)(y:J aD×Int×bw)=>∃k:Nat,k<=l.length/\z.2=((k:Int),fQ fl y.2.2)/\y.2.1=(k:Int)/\JR m p z.1 y.1/\RB (fm (l.take k)) y.1/\mH y.2.2/\stop y.2.2=false) (fun z=>l.length-z.2.1.toNat)
  (fun (u:bw×J aD)(y:J aD×Int×bw)=>stop u.1=true/\y.1=u.2/\y.2.2=u.1/\∃k:Nat,y.2.1=(k:Int)/\k<=l.length) (fun y=>l.length-y.2.1.toNat) (fun u (y:J aD×bw)=>y=(u.2,u.1)) ⟨0,Nat.zero_le _,rfl,rfl,JR.eq _,RB.nil,hs,hst⟩ (by grind) ?_ ?_
 ·rintro⟨a,i,x⟩ ⟨o,i',s⟩ ⟨k,h3,h4,h5,h6,h7,h8,h9⟩ q1 q2 hrc hex
  dsimp only at h4 h5 h6 h7 h8 h9 hrc hex⊢;cases h4;subst h5;have hwk:=zB l k;rw [tI,h9];have jl:a.length=o.length:=by have:=congrArg List.length h6.1;simpa using this
  by_cases hk:k<l.length
  ·have hwm:=U7 hk
   have ha:=JP hk;have WD:l.length-Int.toNat ((k+1:Nat):Int)<l.length-Int.toNat (k:Int):=om;rw [cz om,cz om,aC,aC,qB,aZ,b9 om om,b9 om om,bx om,bZ,TPart.eta];refine T2.bd (h2 N (l.getD k iM) m p s hm h8 h9 om om om) ?_;rintro⟨r,ok,x'⟩ ⟨r',s'⟩ ⟨g1,g2,g3⟩;dsimp only at g1 g2 g3⊢;have h10:=RB.app h7 g2;rw [<-ha] at h10;have AA:=zB l (k+1);have h11:=h10.1;rw [tM] at h11;have sz:∀a b:Nat,a+b<=26*1000->((decide (a+b<=9223372036854775807))&&(decide ((a+b)*24<=140737488355328)))=true:=fun a b h=>lF om om;rcases g3 with⟨k1,k2,k3⟩|⟨k1,k2,k3,-⟩
   ·cases k2
    have jr:r.length=r'.length:=by have:=congrArg List.length k3.1;simpa using this
    refine T2.ql (sz _ _ om) (T2.qr (sz _ _ om) (hrc _ _ ⟨k+1,hk,rfl,rfl,⟨?_,fun hc=>by rw [h6.2 hc,k3.2 hc]⟩,h10,g1,k1⟩ WD));rw [uY,uY,h6.1,k3.1]
   ·subst k2
    refine T2.qr (sz _ _ om) ?_;obtain⟨y,rfl,hy⟩:=hex (s',o++r') (o++r',((k+1:Nat):Int),s') ⟨k1,rfl,rfl,k+1,rfl,hk⟩ WD;rw [hy];exact T2.ok ⟨g1,h10.mono om,.inr ⟨k1,rfl,k3,rfl⟩⟩
  ·rw [cf om,cf om,aC,aK]
   rw [tL om] at h7;exact T2.ok ⟨h8,h7,.inl ⟨h9,rfl,h6⟩⟩
 simp_all [tI,aA.ok]
theorem adH{a b:J aD}(h:a.map (·.fText)=b.map (·.fText)):mg a=mg b:=by
 unfold mg
 grind
theorem amW{a b:J aD}(h:a.map (·.fText)=b.map (·.fText)):ck a=ck b:=by rw [<-F3,<-F3,adH h]
theorem amX(hF:100000000<=F)(h1:X1 fl F n):XV fl F (n+1):=by
 intro N l m q s hm hs hst hl hn hN;obtain⟨N,rfl⟩:∃k,N=k+1:=⟨N-1,om⟩;show T2 _ (xY F (aV F n) l m (fQ fl s)) (sn F (aX F N) l q s);refine T2.bd (h1 N l {m with jB:=false} (cQ.mk q false false) s ⟨hm,rfl⟩ hs hst hl om om) ?_;rintro⟨r,ok,x'⟩ ⟨r',s'⟩ ⟨g1,g2,g3⟩;dsimp only at g1 g2 g3⊢;have z1:=g2.1;have z2:=g2.2;have e18:=aij F r' om om om;have etx:(r'.flatMap fun r=>r.fText)=mg r':=rfl;rw [e18];have hlen:=F3 r';rcases g3 with⟨k1,k2,k3⟩|⟨k1,k2,k3,-⟩
 ·cases k2
  have jr:r.length=r'.length:=by have:=congrArg List.length k3.1;simpa using this
  have js:=amW k3.1;rw [je,aK,RU F r om om om,adH k3.1];refine T2.cb (fun h=>?_) fun h=>T2.ok ⟨⟨⟨g1,by grind,.inl ⟨k1,rfl⟩⟩,fun _=>?_⟩,by simp_all⟩
  ·rw [y5]
   refine T2.ok ⟨⟨RR.err g1 (by grind) k1 de rfl,fun h=>?_⟩,by simp_all⟩
   grind [aii]
  grind
 ·subst k2
  rw [qB,aZ,y5,k1,aZ];refine T2.cr (fun _=>T2.ok ?_) fun _=>T2.ok ?_
  all_goals exact⟨⟨⟨g1,by grind,.inr ⟨k1,rfl,k3,rfl⟩⟩,fun h=>by rw [k1] at h;cases h⟩,by simp_all⟩
variable{R:Type}
theorem aA.eqv{x:O R}{v:R}(h:aA (fun r=>r=v) x):x=some v:=by
 obtain⟨r,h,e⟩:=h;rw [e,h]
def rC(o:J aD)(r:aD):J aD:=cond (r.fText==[]) o (cond (decide (0<o.length)&&((o.getD (o.length-1) di).aN==r.aN)) (o.set (o.length-1) (aD.mk ((o.getD (o.length-1) di).fText++r.fText) (o.getD (o.length-1) di).aN)) (o++[r]))
def oC(l:J aD):J aD:=l.foldl rC []
theorem abE:∀(l:J aD)(k:Nat)(t:Bs)(c:Int),k<l.length->ck (l.set k (aD.mk ((l.getD k di).fText++t) c))=ck l+t.length
 | [],k,t,c,h=>absurd h (Nat.not_lt_zero _)
 | a::l,0,t,c,h=>by
  unfold ck
  grind
 | a::l,k+1,t,c,h=>by
  have:=abE l k t c (by simpa using h);show ck (a::l.set k (aD.mk ((l.getD k di).fText++t) c))=_;unfold ck at this⊢;simp only [jU,Po];omega
theorem akC(o:J aD)(r:aD):ck (rC o r)=ck o+r.fText.length/\(rC o r).length<=o.length+1:=by
 unfold rC
 cases h1:(r.fText==[]) with
 | true=>
  simp_all
 | false=>
  cases h2:(decide (0<o.length)&&((o.getD (o.length-1) di).aN==r.aN)) with
  | true=>
   grind [abE,List.length_set]
  | false=>
   refine⟨?_,by simp_all⟩;show ck (o++[r])=_;rw [F4];simp [ck]
theorem LZ:∀(l o:J aD),ck (l.foldl rC o)=ck o+ck l/\(l.foldl rC o).length<=o.length+l.length
 | [],o=>⟨by simp [ck],si⟩
 | r::l,o=>by
  obtain⟨h1,h2⟩:=LZ l (rC o r);obtain⟨h3,h4⟩:=akC o r;rw [yg];refine⟨by rw [h1,h3];simp [ck];omega,bz⟩
theorem adI(F:Nat)(l:J aD)(f:J aD->R)(hF:l.length<F)(h1:l.length<=1000000)(h2:ck l<=100000000):
  b8 (σ:=Int×(J aD)) (R:=R) (fun gP x2=>
   cond (decide (x2.1<(l.length:Int)))
   (rq ((decide (0<=x2.1))&&(decide (x2.1<(l.length:Int)))) (cond (((l.getD (Int.toNat x2.1) di).fText)==[])
   (gP (aB (x2.1+1),x2.2))
   ((cond (decide (0<=aB ((x2.2.length:Int)-1)))
   (rq ((decide (0<=aB ((x2.2.length:Int)-1)))&&(decide (aB ((x2.2.length:Int)-1)<(x2.2.length:Int)))) (some (((x2.2.getD (Int.toNat (aB ((x2.2.length:Int)-1))) di).aN)==((l.getD (Int.toNat x2.1) di).aN),x2.2)))
   (some (false,x2.2)):O (Bool×(J aD))).bind fun x4=>
   cond x4.1
   (rq ((decide (0<=aB ((x2.2.length:Int)-1)))&&(decide (aB ((x2.2.length:Int)-1)<(x4.2.length:Int)))) (rq (decide (((x4.2.getD (Int.toNat (aB ((x2.2.length:Int)-1))) di).fText).length+((l.getD (Int.toNat x2.1) di).fText).length<=9223372036854775807)) (rq ((decide (0<=aB ((x2.2.length:Int)-1)))&&(decide (aB ((x2.2.length:Int)-1)<(x4.2.length:Int)))) (gP (aB (x2.1+1),x4.2.set (Int.toNat (aB ((x2.2.length:Int)-1))) (aD.mk (((x4.2.getD (Int.toNat (aB ((x2.2.length:Int)-1))) di).fText)++((l.getD (Int.toNat x2.1) di).fText)) ((x4.2.getD (Int.toNat (aB ((x2.2.length:Int)-1))) di).aN)))))))
   (rq ((decide (x4.2.length+([(l.getD (Int.toNat x2.1) di)]:J aD).length<=9223372036854775807))&&(decide ((x4.2.length+([(l.getD (Int.toNat x2.1) di)]:J aD).length)*24<=140737488355328))) (gP (aB (x2.1+1),x4.2++([(l.getD (Int.toNat x2.1) di)]:J aD)))))))
   (some (f x2.2))) F (0,([]:J aD))=some (f (oC l)):=by
 refine aA.eqv ?_;refine aA.lp (fun z:Int×J aD=>∃k:Nat,z.1=(k:Int)/\k<=l.length/\z.2=oC (l.take k)) (fun z=>l.length-z.1.toNat) ⟨0,rfl,eA _,rfl⟩ (by simp_all) ?_;rintro⟨i,o⟩ ⟨k,q1,hk,q2⟩ rc hrc;dsimp only at q1 q2 hrc⊢;subst q1;refine aA.cd (fun h=>?_) fun h=>?_
 ·have hk:k<l.length:=om
  have hm:l.length-Int.toNat ((k+1:Nat):Int)<l.length-Int.toNat (k:Int):=om
  have es:oC (l.take (k+1))=rC o l[k]:=by
   unfold oC;rw [lB hk,Rv,q2];rfl
  obtain⟨b1,b2⟩:=LZ (l.take k) [];rw [show (l.take k).foldl rC []=o from q2.symm] at b1 b2;have b3:=uK l k;have b5:=uK l (k+1);have b6:=qK l k hk;have z0:ck ([]:J aD)=0:=rfl;simp only [D4] at b2;have nx:∀o',o'=rC o l[k]->aA (fun r=>r=f (oC l)) (rc (((k+1:Nat):Int),o')):=fun o' ho=>hrc _ ⟨k+1,rfl,hk,by rw [es];exact ho⟩ hm;rw [b9 om om,bx om,bZ,gd hk];generalize l[k]=a at nx b6⊢;refine aA.cb (fun ha=>nx o (by unfold rC;rw [ha];rfl)) fun ha=>?_;by_cases h0:0<o.length
  ·have e1:aB ((o.length:Int)-1)=((o.length-1:Nat):Int):=by grind [bN]
   rw [e1,cz om,b9 om om,bZ,aC]
   refine aA.cb (fun hc=>?_) fun hc=>aA.rq (nO (by grind) de) (nx _ (by
    unfold rC;grind))
   have hle:(o.getD (o.length-1) di).fText.length<=ck o:=by
    have hlt:o.length-1<o.length:=om;rw [gd hlt];have:=qK o (o.length-1) hlt
    grind
   refine aA.rq (lF om (by dsimp only;omega)) (aA.rq (decide_eq_true (by dsimp only;omega)) (aA.rq (lF om (by dsimp only;omega)) (nx _ ?_)));unfold rC;grind
  ·have e1:aB ((o.length:Int)-1)=-1:=by simp_all [bN]
   rw [e1,cf om,aC];exact aA.rq (nO (by simp_all) de) (nx _ (by unfold rC;grind))
 simp_all [tL,aA.ok]
def RPt(fl:J bE)(k:Nat)(a:J aD×Bool×aL)(b:J aD×bw):Prop:=mH b.2/\RB k b.1/\((stop b.2=false/\a=(oC b.1,true,fQ fl b.2))\/(stop b.2=true/\a.2.1=false/\Fin a.2.2 b.2))
theorem alC(F:Nat)(t:Bs):uU F t=some ((t==[64])||(t==[42])):=by unfold uU wx;rw [aH];rfl
theorem amY(F:Nat)(o:Int)(c s:Bool)(v:Bs):BQ F o c s v=tf F o c s v:=by
 unfold BQ tf wx;simp only [aH,aC]
 grind
theorem ain(hF:100000000<=F)(h1:X1 fl F n)(N:Nat)(l:J TPart)(s:bw)(hs:mH s)(hst:stop s=false)(hl:fm l<=1000)(hn:9*fm l+9<=n)(hN:6*fm l+6<=N):
  T2 (RPt fl (fm l)) ((aV F (n+1)).2.2.2.2.2.2.1 l (fQ fl s)) ((aX F N).1 l (cQ.mk false false false) s):=by
 show T2 _ (pN F (aV F n) l (fQ fl s)) _;unfold pN wx;obtain⟨⟨r,ok,x'⟩,⟨r',s'⟩,h,e1,e2⟩:=h1 N l (dh.mk false false 0) (cQ.mk false false false) s ⟨rfl,rfl⟩ hs hst hl hn hN;have h:=h.rr (fun _=>rfl);rw [e1,e2,aC];obtain⟨g1,g2,⟨k1,k2⟩|⟨k1,k2,k3,k4⟩⟩:=h
 ·cases k2
  have z1:=g2.1;have z2:=g2.2;dsimp only at z1 z2⊢;rw [adI F _ (fun o=>(o,true,fQ fl s')) om om om];exact T2.ok ⟨g1,g2,.inl ⟨k1,rfl⟩⟩
 ·have k4:=k4
  subst k2 k4;rw [adI F [] (fun o=>(o,false,x')) bz si (by simp [ck])];exact T2.ok ⟨g1,g2,.inr ⟨k1,rfl,k3⟩⟩
theorem aio(hF:100000000<=F)(hv:XV fl F n)(N:Nat)(x:TPart)(m:dh)(p:cQ)(s:bw)(hm:m.eR=p.eR)(hs:mH s)(hst:stop s=false)(hl:wP x<=1000)(hn:9*fm x.fParts+10<=n)(hN:6*fm x.fParts+7<=N):
  T2 (fun a b=>mH b/\stop b=true/\a.1=false/\Fin a.2 b) ((aV F (n+1)).2.2.2.2.2.2.2.2 x m (fQ fl s)) ((aX F (N+1)).2.2.2.2.2 x p s):=by
 have hw:=Dl x;show T2 _ (pO F (aV F n) x m (fQ fl s)) (nh F (aX F N) x p s);unfold pO nh wx;rw [aH,aC];have l1:decide (x.fText.length+([58,32]:Bs).length<=9223372036854775807)=true:=decide_eq_true (by grind);have bad:∀(t:Bs)(u:bw),mH u->stop u=false->mH (cond (stop u) u {u with fe:=32,ga:=t})/\stop (cond (stop u) u {u with fe:=32,ga:=t})=true/\Fin {fQ fl u with ga:=t,wF:=32} (cond (stop u) u {u with fe:=32,ga:=t}):=fun t u hu hsu=>⟨LY hu _ _,(failed (fl:=fl) hsu de).1,(failed hsu de).2⟩;by_cases h0:0<x.fParts.length
 ·rw [cz om]
  obtain⟨⟨t0,ok,x'⟩,⟨t,s'⟩,⟨⟨⟨hg,hi,hh⟩,hlen⟩,-⟩,e1,e2⟩:=hv N x.fParts m p.eR s hm hs hst om hn hN;rw [e2];rcases hh with⟨k1,k2⟩|⟨k1,k2,k3,k4⟩
  ·cases k2
   grind [T2.ql,T2.qr,KG,y5,T2.ok]
  ·subst k2
   grind [T2.qr,y5,T2.ok]
 ·rw [cf om,cf om]
  cases x.fColon with
  | true=>
   refine T2.ql (dW (by show x.fText.length+27<=_;omega)) (T2.qr l1 (T2.qr (dW (by rw [tM];show x.fText.length+2+25<=_;omega)) ?_))
   simp_all [KG,y5,T2.ok]
  | false=>
   refine T2.ql (dW (by show x.fText.length+19<=_;omega)) (T2.qr l1 (T2.qr (dW (by rw [tM];show x.fText.length+2+17<=_;omega)) ?_))
   simp_all [KG,y5,T2.ok]
def US(F:Nat):Prop:=∀(op:Int)(v:Bs)(l:J aD),6<=op->op<=9->v.length<=4096->l.length<=26000->ck l<=5000000 ->
 T2 (fun a b=>a=b/\b.length<=v.length) ((iX F (oC l)).bind fun p=>FJ F op v p) ((j8 F l).bind fun p=>FD F op v p)
theorem T2.bd2{X Y:Type}{Q:A->B->Prop}{x:O X}{y:O Y}{f:X->O C}{g:Y->O D}{h:C->O A}{h':D->O B}(t:T2 P (x.bind f) (y.bind g))(k:∀a b,P a b->T2 Q (h a) (h' b)):T2 Q (x.bind fun a=>(f a).bind h) (y.bind fun b=>(g b).bind h'):=by
 rw [<-aej,<-aej];exact T2.bd t k
theorem aqh{X Y:Type}{y:O X}{g:X->O D}{h:D->O Y}{b:D}(e:(y.bind g)=some b):(y.bind fun b=>(g b).bind h)=h b:=by
 rw [<-aej,e];rfl
theorem pid(y:O (A×B×C)):(y.bind fun x=>some (x.1,x.2.1,x.2.2))=y:=by cases y<;>rfl
theorem aoT(y:O (A×B)):(y.bind fun x=>some (x.1,x.2))=y:=by cases y<;>rfl
theorem trB(o:Int):(cond (o==6) (o==6) (cond (o==7) (o==7) (cond (o==8) (o==8) (o==9))))=cond (decide (6<=o)) (decide (o<=9)) false:=by
 rw [cF]
 grind
theorem amZ(F:Nat)(fl:J bE)(h:mH s)(n v:Bs)(m:dh)(p:cQ)(hm:Mo m p)(hv:v.length<=4096)(hF:1000<F):T2 (fun a b=>a=b/\RB 1 b) (nL F n v m (fQ fl s)) (mB F n v p s):=by
 obtain⟨r,hr,er⟩:=amO F h.1 n v p hv hF;refine⟨r,r,⟨rfl,hr⟩,?_,er⟩;rw [<-er];obtain⟨m1,m2⟩:=hm;unfold nL mB wx;rw [alC,alB F m1,m1,m2,show (fQ fl s).bX=s.bX from rfl];simp only [aH,aC];obtain⟨c,hc⟩:=Qc F p
 have e:cond (cond (!p.jB) true (!((n==[64])||(n==[42])))) true (cond (n==[42]) p.eR false)=cond (cond (!p.jB) true (cond (!(n==[64])) (!(n==[42])) false)) true (cond p.eR (n==[42]) false):=by
  grind
 rw [e]
 cases (cond (cond (!p.jB) true (cond (!(n==[64])) (!(n==[42])) false)) true (cond p.eR (n==[42]) false)) with
 | true=>rfl
 | false=>
  rw [aK];congr 1
  funext rc z
  cases hd:decide (z.2<(s.bX.cK.length:Int)) with
  | false=>rfl
  | true=>
   cases h0:decide (0<=z.2) with
   | false=>
    grind
   | true=>
    rfl
theorem am0(hF:100000000<=F)(hT:US F)(h1:∀k,k<n->X1 fl F k)(hV:∀k,k<n->XV fl F k)(N:Nat)(x:TPart)(m:dh)(p:cQ)(s:bw)(hm:Mo m p)(hs:mH s)(hst:stop s=false)(hx:wP x<=1000)(hn:9*wP x+7<=n)(hN:6*wP x+4<=N):
  T2 (RJ fl (wP x) m p) ((aV F n).2.2.2.2.2.1 x m (fQ fl s)) ((aX F N).2.2.2.2.1 x p s):=by
 have hw:=Dl x;obtain⟨j,rfl⟩:∃j,n=j+3:=⟨n-3,om⟩;obtain⟨M,rfl⟩:∃j,N=j+2:=⟨N-2,om⟩;show T2 _ (nY F (aV F (j+2)) x m (fQ fl s)) (mY F (aX F (M+1)) x p s);unfold nY mY wx;obtain⟨⟨v,st⟩,hv,ev⟩:=amN F hs.1.1 x.fText om om;rw [show yW F (fQ fl s).bX x.fText=ke F s.bX x.fText from aoQ F hs.1.1 x.fText om om,ev,aC,aC];obtain⟨c,hc⟩:=Qc F p;have hmc:ep F m=some c:=by rw [alB F hm.1,hc]
 have htr:Dh F x.fOp=some (cond (decide (6<=x.fOp)) (decide (x.fOp<=9)) false):=by unfold Dh wx;rw [aH];rfl
 simp only [alC,htr,hc,hmc,aH,aC,trB,cT];dsimp only at hv⊢;rw [show (fQ fl s).bX=s.bX from rfl];generalize htB:cond (decide (6<=x.fOp)) (decide (x.fOp<=9)) false=tr;generalize hnb:((lD .i64 s.bX.eB 2) != 0)=nb;have l1:decide (x.fText.length+([58,32,112,97,114,97,109,101,116,101,114,32,110,111,116,32,115,101,116]:Bs).length<=9223372036854775807)=true:=dW (by show x.fText.length+19<=_;omega)
 have key:∀A B:O (Unit ⊕ (J aD×Bool×aL)),(cond (cond (x.fOp==0) (x.fOp==0) (cond (x.fOp==5) (x.fOp==5) tr)) (cond (cond (cond nb (!st) false) (!((x.fText==[64])||(x.fText==[42]))) false) A B) B)=cond (cond (cond (cond nb (!((x.fText==[64])||(x.fText==[42]))) false) (!st) false) ((x.fOp==0)||((x.fOp==5)||tr)) false) A B:=fun A B=>by
  grind
 rw [key];have one:∀(t:Bs)(u:bw),t.length<=5000*wP x->mH u->stop u=false->T2 (RJ fl (wP x) m p) ((gO F t c).bind fun fT=>some (fT,true,fQ fl u)) (some ([aD.mk t c],u)):=fun t u ht hu hsu=>T2.ok (RJ.go hu (RB.one om ht) hsu)
 cases (cond (cond (cond nb (!((x.fText==[64])||(x.fText==[42]))) false) (!st) false) ((x.fOp==0)||((x.fOp==5)||tr)) false) with
 | true=>
  rw [aZ,aZ,cC l1,cC l1,KG,y5]
  exact T2.ok (RR.j (RR.err hs (RB.nil (k:=1)) hst de rfl) om)
 | false=>
  rw [aK,aK];show T2 _ (cond (x.fOp==5) _ _) _;have R:∀k:Nat,k<=1000000->K.gG (k:Int):=fun k hk=>⟨om,om⟩
  have dec:∀k:Nat,k<=1000000->T2 (RJ fl (wP x) m p) ((pJ F (k:Int)).bind fun fR=>(gO F fR c).bind fun fT=>some (fT,true,fQ fl s)) ((dJ F (k:Int)).bind fun x9=>some ([aD.mk x9 c],s)):=fun k hk=>by
   grind [K.xF,agk,K.Kk]
  cases h5:(x.fOp==5) with
  | true=>
   rw [aZ,aZ,aZ];have hp:=hs.1.1.2.1;show T2 _ ((pJ F (cond ((x.fText==[64])||(x.fText==[42])) (s.bX.cK.length:Int) (v.length:Int))).bind _) _
   grind
  | false=>
   rw [aK,aK,aK,aK]
   cases tr with
   | true=>
    rw [aZ,aZ]
    have hop:6<=x.fOp/\x.fOp<=9:=by
     simp_all
    refine T2.bd (ain hF (h1 (j+1) om) (M+1) x.fParts s hs hst om om om) ?_;rintro⟨r,ok,x'⟩ ⟨r',s'⟩ ⟨g1,g2,g3⟩;dsimp only at g1 g2 g3⊢;have z1:=g2.1;have z2:=g2.2;have hTr:=hT x.fOp v r' hop.1 hop.2 hv om om;rcases g3 with⟨k1,k2⟩|⟨k1,k2,k3⟩
    ·cases k2
     rw [je,aK];refine T2.bd2 hTr ?_
     grind
    ·have k2:ok=false:=k2
     subst k2;rw [qB,aZ];obtain⟨a,b,⟨-,hb⟩,-,e2⟩:=hTr;rw [aqh e2]
     exact T2.ok ⟨g1,RB.one om om,.inr ⟨k1,rfl,k3,rfl⟩⟩
   | false=>
    rw [aK,aK,TPart.eta,pid];show T2 _ (qt F (aV F (j+1)) x m v st (fQ fl s)) _;unfold qt wx;rw [amY];obtain⟨ch,hch⟩:=akz F x.fOp x.fColon st v;rw [hch,aC,aC,hmc];simp only [pid,aoT,TPart.eta];refine T2.cb (fun _=>?_) fun _=>T2.cb (fun _=>one [] s (eA _) hs hst) fun _=>T2.cb (fun _=>?_) fun _=>T2.cb (fun _=>?_) fun _=>?_
    ·refine T2.mono (h1 (j+1) om (M+1) x.fParts {m with dD:=2} {p with uf:=true} s hm hs hst om om om) ?_
     rintro a b h;exact RR.j (h.rr fun _=>rfl) om
    ·rw [K.GN F _ om]
     obtain⟨nm,-,enm⟩:=E2 F x.fText om;rw [enm,aC,aC];have l3:decide (x.fText.length+([58,32,99,97,110,110,111,116,32,97,115,115,105,103,110]:Bs).length<=9223372036854775807)=true:=dW (by show x.fText.length+15<=_;omega);refine T2.cb (fun _=>?_) fun _=>?_
     ·rw [cC l3,cC l3,KG,y5]
      exact T2.ok (RR.j (RR.err hs (RB.nil (k:=1)) hst de rfl) om)
     ·refine T2.bd (hV (j+1) om (M+1) x.fParts m p.eR s hm.1 hs hst om om om) ?_
      rintro⟨t0,ok,x'⟩ ⟨t,s'⟩ ⟨⟨⟨g1,g2,g3⟩,g4⟩,g5⟩;dsimp only at g1 g2 g3 g4 g5⊢
      have ht:t.length<=5000*wP x:=by
       grind
      rcases g3 with⟨k1,k2⟩|⟨k1,k2,k3,k4⟩
      ·cases k2
       rw [je,aK];refine T2.l (P:=fun y:Bool×aL=>∃s2,iw F x.fText t0 s'=some s2/\mH s2/\((stop s2=false/\y=(false,fQ fl s2))\/(stop s2=true/\y.1=true/\Fin y.2 s2))) ?_ ?_
       ·obtain⟨⟨a1,a2⟩,s2,⟨b1,b2⟩,e1,e2⟩:=adG F fl g1 k1 x.fText t0 om
        simp_all [aC,aA.ok]
       ·rintro⟨a1,a2⟩ ⟨s2,e2,b1,b2⟩
        rw [e2,aC];rcases b2 with⟨b2,b3⟩|⟨b2,b3,b4⟩
        ·simp_all
        ·have b3:a1=true:=b3
         subst b3;exact T2.ok ⟨b1,RB.one om ht,.inr ⟨b2,rfl,b4,rfl⟩⟩
      ·have k2:ok=false:=k2
       subst k2;rw [qB,aZ,aC,alz F k1,aC];exact T2.ok ⟨g1,RB.one om ht,.inr ⟨k1,rfl,k3,rfl⟩⟩
    ·refine T2.bd (aio hF (hV j om) M x m p s hm.1 hs hst hx om om) ?_
     rintro⟨a1,a2⟩ s2 ⟨b1,b2,b3,b4⟩;have b3:a1=false:=b3;subst b3;exact T2.ok ⟨b1,RB.nil,.inr ⟨b2,rfl,b4,rfl⟩⟩
    ·refine T2.bd (amZ F fl hs x.fText v m p hm hv om) ?_
     rintro a b ⟨rfl,hb⟩;exact T2.ok (RJ.go hs (hb.mono om) hst)
theorem arA(F:Nat)(p:TPart)(f:Bool->O R):((cond (p.fKind==4) (some (p.fText==([64]:Bs))) (some false):O Bool).bind fun x4=>(cond x4 (some (p.fOp==0)) (some false):O Bool).bind f)=(rz F p).bind f:=by
 unfold rz wx
 grind
theorem aqi(F:Nat){l:J bO}(hl:l.length<=128)(hF:1000<F)(n:Bs)(A:bO->O R)(B:O R):((uh F l n).bind fun x5=>(cond x5.2 (some x5.1.cL) (some false):O Bool).bind fun x6=>cond x6 (A x5.1) B)=cond (jH l n).1.cL (A (jH l n).1) B:=by
 rw [abz F _ _ om om]
 have hb:(jH l n).2=false->(jH l n).1=bO.mk [] [] false false false:=by
  unfold jH;cases l.find? _<;>simp
 grind
theorem aoU(hN':NC<=F)(hF:100000000<=F)(hT:US F)(h1:∀k,k<n->X1 fl F k)(hV:∀k,k<n->XV fl F k):X2 fl F n:=by
 intro N x m p s hm hs hst hx hn hN;have hw:=Dl x;obtain⟨j,rfl⟩:∃j,n=j+2:=⟨n-2,om⟩;obtain⟨M,rfl⟩:∃j,N=j+2:=⟨N-2,om⟩;show T2 _ (rQ F (aV F (j+1)) x m (fQ fl s)) (j7 F (aX F (M+1)) x p s);unfold rQ j7 wx;obtain⟨c,hc⟩:=Qc F p;obtain⟨d,hd⟩:=aoO F p;simp only [pid,TPart.eta];have one:∀(t:Bs)(c:Int),t.length<=5000*wP x->T2 (RJ fl (wP x) m p) ((gO F t c).bind fun fT=>some (fT,true,fQ fl s)) (some ([aD.mk t c],s)):=fun t c ht=>T2.ok (RJ.go hs (RB.one om ht) hst);refine T2.cb (fun _=>?_) fun _=>T2.cb (fun _=>one _ _ om) fun _=>T2.cb (fun _=>?_) fun _=>T2.cb (fun _=>?_) fun _=>T2.cb (fun _=>?_) fun _=>T2.cb (fun _=>?_) fun _=>T2.cb (fun _=>?_) fun _=>T2.ok (RJ.go hs RB.nil hst)
 ·
  have hl:∃d',qz F m=some d'/\(COk m p->d'=d):=by
   unfold qz wx;unfold nD wx at hd;rw [<-hm.1] at hd;unfold COk
   grind
  obtain⟨d',hd',he⟩:=hl;rw [hd,hd',aC,aC];exact T2.ok ⟨hs,RB.one om (by grind),.inl ⟨hst,rfl,rfl,fun h=>by rw [he h]⟩⟩
 ·
  show T2 _ (qq F (aV F j) x m (fQ fl s)) _;unfold qq wx;have hkl:=zR x.fParts
  have rl:∀(r:J aD)(u:bw),aA (fun y=>y=(r,u)\/(r=[]/\y=([aD.mk [] 1],u))) (b8 (σ:=Int) (R:=(J aD)×bw) (fun lu x3=>
    cond (decide (x3<(x.fParts.length:Int)))
    (rq ((decide (0<=x3))&&(decide (x3<(x.fParts.length:Int)))) ((rz F (x.fParts.getD (Int.toNat x3) iM)).bind fun x5=>
    cond x5
    (some (r,u))
    (lu (aB (x3+1)))))
    (cond ((r.length:Int)==0)
    (some (([(aD.mk [] 1)]:J aD),u))
    (some (r,u)))) F 0):=fun r u=>by
   refine aA.lp (fun i:Int=>∃k:Nat,i=(k:Int)/\k<=x.fParts.length) (fun i=>x.fParts.length-i.toNat) ⟨0,rfl,om⟩ (by grind) ?_;rintro _ ⟨k,rfl,hk⟩ rc hrc;refine aA.cd (fun h=>?_) fun _=>aA.cb (fun h=>aA.ok (.inr ⟨aek.1 (by simp_all),rfl⟩)) fun _=>aA.ok (.inl rfl);obtain⟨b,hb⟩:=alw F (x.fParts.getD (Int.toNat (k:Int)) iM);rw [b9 om om,hb,aC,bx om];exact aA.cb (fun _=>aA.ok (.inl rfl)) fun _=>hrc _ ⟨k+1,rfl,om⟩ (by grind)
  refine T2.bd (h1 j om (M+1) x.fParts (dh.mk true m.jB 0) (cQ.mk true false p.jB) s ⟨rfl,hm.2⟩ hs hst om om om) ?_;intro a b h;have h:=h.rr (fun h=>nomatch h);obtain⟨r,ok,x'⟩:=a;obtain⟨r',s'⟩:=b;obtain⟨g1,g2,⟨k1,k2⟩|⟨k1,k2,k3,k4⟩⟩:=h
  ·cases k2
   dsimp only at g1 g2 k1⊢;rw [je,aK];by_cases h0:0<r'.length
   ·rw [cz om]
    obtain⟨y,hy,e⟩:=rl r' s';rw [e];rcases hy with rfl|⟨h,_⟩
    ·exact T2.ok (RJ.go g1 (g2.mono om) k1)
    simp_all
   ·rw [cf om]
    have hnil:r'=[]:=aek.1 om;subst hnil;refine T2.lp (fun (i i':Int)=>∃k:Nat,i=(k:Int)/\i'=(k:Int)/\k<=x.fParts.length) (fun i=>x.fParts.length-i.toNat) ⟨0,rfl,rfl,om⟩ (by grind) ?_;rintro _ _ ⟨k,rfl,rfl,hk⟩ q1 q2 hrc;refine T2.cb (fun h=>?_) fun _=>T2.ok (RJ.go g1 (RB.one om (eA _)) k1);have h:=Ae h;have e:=arA (R:=J aD×Bool×aL) F (x.fParts.getD (Int.toNat (k:Int)) iM);obtain⟨b,hb⟩:=alw F (x.fParts.getD (Int.toNat (k:Int)) iM);refine T2.ql (lF om om) (T2.qr (lF om om) ?_);rw [e,hb,aC,aC,bx om];exact T2.cb (fun _=>T2.ok (RJ.go g1 RB.nil k1)) fun _=>hrc _ _ ⟨k+1,rfl,rfl,om⟩ (by grind)
  ·have k2:ok=false:=k2
   have k4:r=[]:=k4;subst k2 k4;dsimp only at g1 g2 k1 k3⊢;rw [qB,aZ];obtain⟨y,hy,e⟩:=rl r' s';rw [e];rcases hy with rfl|⟨_,rfl⟩
   ·exact T2.ok ⟨g1,g2.mono om,.inr ⟨k1,rfl,k3,rfl⟩⟩
   ·exact T2.ok ⟨g1,RB.one om (eA _),.inr ⟨k1,rfl,k3,rfl⟩⟩
 ·
  have hl:=hs.1.1.1.1;have hv:=(Pu hs.1.1.1 [72,79,77,69]).2;have e:=aqi F (l:=s.bX.bQ) hl om [72,79,77,69] (fun v=>(gO F v.bS 1).bind fun x7=>some (x7,true,fQ fl s)) ((gO F [126] 0).bind fun x8=>some (x8,true,fQ fl s));rw [show (fQ fl s).bX=s.bX from rfl,e,y9 F s.bX.bQ _ om om,aC]
  grind
 ·
  exact (ary F fl hs hst x m p hm.1 om).mono fun a b h=>RR.j h om
 ·
  have:=aoS hN' hF fl (aV F j) (aX F M) x m p hm.1 s ((hV j om M x.fParts (dh.mk true false 0) true s rfl hs hst om om om).mono fun a b h=>h.1);exact this.mono fun a b h=>RR.j h om
 grind [am0,aoT]
theorem Y9(hN':NC<=F)(hF:100000000<=F)(hT:US F):∀n,X1 fl F n:=by
 intro n
 induction n using Nat.strongRecOn with
 | ind n ih=>
  cases n with
  | zero=>intro N l m p s _ _ _ _ h _;omega
  | succ n=>
   have hV:∀k,k<n+1->XV fl F k:=fun k hk=>by
    cases k with
    | zero=>intro N l m q s _ _ _ _ h _;omega
    | succ k=>grind [amX]
   grind [amV,aoU]
def agm(it:aE)(t:Bs):Prop:=it.fKind=3\/∃b,t=[b]/\RZ it (b.toNat:Int)=true
def Mt:J aE->Bs->Prop
 | [],s=>s=[]
 | it::p,s=>∃a b,s=a++b/\agm it a/\Mt p b
theorem Qd:∀(p:J aE)(it:aE)(s:Bs),Mt (p++[it]) s↔∃a b,s=a++b/\Mt p a/\agm it b
 | [],it,s=>by
  constructor
  ·rintro⟨a,b,rfl,h,rfl⟩;exact⟨[],a,si,rfl,h⟩
  ·rintro⟨a,b,rfl,rfl,h⟩;exact⟨b,[],si,h,rfl⟩
 | x::p,it,s=>by
  constructor
  ·rintro⟨a,b,rfl,h,hb⟩
   obtain⟨c,d,rfl,h1,h2⟩:=(Qd p it b).1 hb;exact⟨a++c,d,si,⟨a,c,rfl,h,h1⟩,h2⟩
  ·rintro⟨a,b,rfl,⟨c,d,rfl,h1,h2⟩,h3⟩
   exact⟨c,d++b,si,h1,(Qd p it _).2 ⟨d,b,rfl,h2,h3⟩⟩
theorem akD{it:aE}(h:agm it t):agm it t.reverse:=by
 rcases h with h|⟨b,rfl,h⟩
 ·exact .inl h
 ·exact .inr ⟨b,rfl,h⟩
theorem abF:∀(p:J aE)(s:Bs),Mt p s->Mt p.reverse s.reverse
 | [],s,h=>by
  obtain rfl:s=[]:=h
  rfl
 | it::p,s,h=>by
  obtain⟨a,b,rfl,h1,h2⟩:=h;rw [List.reverse_cons,List.reverse_append];exact (Qd _ _ _).2 ⟨_,_,rfl,abF p b h2,akD h1⟩
theorem adJ(f:Nat->Bool):∀k,upE f k=true↔∃j,j<=k/\f j=true
 | 0=>⟨fun h=>⟨0,ek _,h⟩,fun⟨j,h,e⟩=>by rwa [show j=0 by omega] at e⟩
 | k+1=>by
  rw [upE,Rr,adJ f k];constructor
  ·rintro (h|⟨j,h,e⟩)
   ·exact⟨k+1,ek _,h⟩
   ·exact⟨j,om,e⟩
  ·rintro⟨j,h,e⟩
   by_cases hj:j=k+1
   ·subst hj;exact .inl e
   ·exact .inr ⟨j,om,e⟩
theorem Pe(p:J aE)(s:Bs):∀i,i<=p.length->∀k,k<=s.length->(EE p s i k=true↔Mt (p.take i) (s.take k))
 | 0,_,k,hk=>by
  show (k==0)=true↔s.take k=[];rw [List.take_eq_nil_iff]
  grind
 | i+1,hi,k,hk=>by
  have hki:S4 p i=p[i]:=by unfold S4;rw [gd om]
  rw [lB (show i<p.length by omega),Qd,EE]
  cases hs:mE p i with
  | true=>
   rw [aZ,adJ];have h3:p[i].fKind=3:=by unfold mE at hs;simp_all
   constructor
   ·rintro⟨j,hj,e⟩
    refine⟨s.take j,(s.take k).drop j,?_,(Pe p s i om j om).1 e,.inl h3⟩
    grind [Nat.min_eq_left,List.take_append_drop]
   ·rintro⟨a,b,e,h1,-⟩
    have hl:=congrArg List.length e;rw [yj,tM] at hl;refine⟨a.length,om,(Pe p s i om _ om).2 ?_⟩
    grind [Nat.min_eq_left,List.take_left]
  | false=>
   have h3:p[i].fKind≠3:=by unfold mE at hs;simp_all
   cases k with
   | zero=>
    refine⟨fun h=>(by cases h),?_⟩;rintro⟨a,b,e,-,h|⟨c,rfl,h⟩⟩
    ·exact absurd h h3
    ·simp at e
   | succ k=>
    have hsk:s.take (k+1)=s.take k++[s[k]]:=lB om;show (EE p s i k&&NB p s i k)=true↔_;rw [cE,Pe p s i om k om,hsk];unfold NB;rw [hki,gd (show k<s.length by omega)];constructor
    ·rintro⟨h1,h2⟩
     exact⟨_,_,rfl,h1,.inr ⟨_,rfl,h2⟩⟩
    ·rintro⟨a,b,e,h1,h|⟨c,rfl,h⟩⟩
     ·exact absurd h h3
     grind [List.append_inj']
theorem aoV(p:J aE)(s:Bs){k:Nat}(hk:k<=s.length):EE p.reverse s.reverse p.reverse.length k=EE p (s.drop (s.length-k)) p.length (s.drop (s.length-k)).length:=by
 rw [tJ,Pe _ _ _ (ek _) _ (by simpa using hk),Pe _ _ _ (ek _) _ (ek _),yf,yf,yf,List.take_reverse];exact⟨fun h=>by simpa using abF _ _ h,fun h=>abF _ _ h⟩
def dY(long:Bool)(g:Nat->Bool):Nat->Int×Bool
 | 0=>(0,false)
 | k+1=>cond (g k&&cond long true (!(dY long g k).2)) ((k:Int),true) (dY long g k)
theorem I1(b:Bool){f g:Nat->Bool}:∀k,(∀j,j<k->f j=g j)->dY b f k=dY b g k
 | 0,_=>rfl
 | k+1,h=>by rw [dY,dY,h k om,I1 b k fun j hj=>h j om]
theorem L0(b:Bool)(g:Nat->Bool)(k:Nat)(h:∀j,k<=j->g j=false):∀d,dY b g (k+d)=dY b g k
 | 0=>rfl
 | d+1=>by rw [<-Pg,dY,h _ om,L0 b g k h d];rfl
theorem XH(g:Nat->Bool)(k:Nat)(h:(dY false g k).2=true):∀d,dY false g (k+d)=dY false g k
 | 0=>rfl
 | d+1=>by rw [<-Pg,dY,XH g k h d,h,aK,je,SG,aK]
theorem abG(b:Bool)(g:Nat->Bool):∀k,∃j:Nat,(dY b g k).1=(j:Int)/\j<=k-1/\((dY b g k).2=false->j=0)
 | 0=>⟨0,rfl,ek _,fun _=>rfl⟩
 | k+1=>by
  obtain⟨j,h1,h2,h3⟩:=abG b g k;rw [dY]
  grind
variable{v:Bool}
theorem XI(F:Nat)(p:J aE)(n:Bs)(long:Bool)(hF:p.length+300<F)(rU:n.length<F)(hn:n.length<50000000)(hp:p.length<50000000)(hit:∀it∈p,nr it)(hv:mD F p=some v):
  pW F p n 0 long=some (dY long (fun k=>v&&EE p n p.length k) (n.length+1)):=by
 unfold pW wx;rw [hv,aC]
 cases v with
 | false=>
  have:=L0 long (fun k=>false&&EE p n p.length k) 0 (fun _ _=>rfl) (n.length+1);rw [qC] at this
  rw [this];rfl
 | true=>
  have hw:aB ((p.length:Int)+1)=((p.length+1:Nat):Int):=cw om;have hlen:∀g:Nat->Bool,(iP (p.length+1) g).length=p.length+1:=fun g=>Cp _ g;rw [hw,je,aK,cC (by rw [dT om,dT om,dT om,dT om,dT om];rfl),bZ,oY si,RY,Gr];rw [kZ (g:=fun j=>j==0) fun j _=>by cases (j==0)<;>rfl,WO F p _ om hp,aC,kZ fun j _=>ai9 p n j]
  have hsw:∀x:O (Int×Bool),x=some (dY long (EE p n p.length) (n.length+1))->(x.bind fun x3=>some (x3.1,x3.2))=some (dY long (EE p n p.length) (n.length+1)):=by
   rintro x rfl;rfl
  refine hsw _ (cN (fun s=>∃k:Nat,s=(iP (p.length+1) (fun j=>EP p n j k),(dY long (EE p n p.length) k).1,(dY long (EE p n p.length) k).2,(k:Int))/\k<=n.length/\(long=false->(dY long (EE p n p.length) k).2=false)) (fun s=>n.length-s.2.2.2.toNat) ?_ F _ ⟨0,rfl,om,fun _=>rfl⟩ bz);rintro s ⟨k,rfl,hk,hsh⟩;rw [b9 om (by rw [hlen];omega),bZ p.length,bZ k,xj _ om,ag7,aH]
  have hS:dY long (EE p n p.length) (k+1)=cond (EE p n p.length k) ((k:Int),true) (dY long (EE p n p.length) k):=by
   rw [dY]
   grind
  have hend:∀d,(∀j,k<j->j<=n.length->EE p n p.length j=false)->k+1+d=n.length+1->dY long (EE p n p.length) (n.length+1)=dY long (EE p n p.length) (k+1):=by
   intro d h1 h2;rw [I1 long (n.length+1) (g:=fun j=>EE p n p.length j&&decide (j<=n.length)) fun j hj=>by grind,I1 long (k+1) (g:=fun j=>EE p n p.length j&&decide (j<=n.length)) fun j hj=>by grind,<-h2];refine L0 _ _ _ (fun j hj=>?_) d
   grind
  by_cases agl:(EE p n p.length k && !long)=true
  ·right
   rw [cE] at agl;obtain⟨h1,h2⟩:=agl;have hl:long=false:=by simpa using h2
   subst hl;intro rc;rw [h1];rw [h1,aZ] at hS;have:=XH (EE p n p.length) (k+1) (by rw [hS]) (n.length-k);rw [show k+1+(n.length-k)=n.length+1 by omega,hS] at this;rw [this];rfl
  ·have hstep:∀G:Int×Bool->O (Int×Bool),(jj (σ:=Int×Bool) ((some (cond (EE p n p.length k) (decide ((0:Int)<=(k:Int))) false):O Bool).bind fun x7=>cond x7 (cond (!long) (some (.inr ((k:Int),true))) (some (.inl ((k:Int),true)))) (some (.inl ((dY long (EE p n p.length) k).1,(dY long (EE p n p.length) k).2)))) G)=G (dY long (EE p n p.length) (k+1)):=by
    intro G;rw [hS,aC]
    cases h1:EE p n p.length k with
    | false=>rfl
    | true=>
     have:long=true:=by
      simp_all
     rw [this];rfl
   by_cases hkn:k<n.length
   ·obtain⟨c,hc1,hc⟩:=ab5 F (iP (p.length+1) (fun j=>EP p n j k)) (by rw [hlen];omega) (by rw [hlen];omega)
    cases c with
    | false=>
     have hz:∀j,k<j->j<=n.length->EE p n p.length j=false:=by
      intro j h1 h2
      have:=Vn p n k (fun i hi=>by
       have:=hc1 rfl i (by rw [hlen];omega)
       grind [xj]) (j-k) p.length (Nat.le_refl _)
      grind [ag7]
     rw [hend (n.length-k) hz om]
     simp_all
    | true=>
     left;refine⟨(iP (p.length+1) (fun j=>EP p n j (k+1)),(dY long (EE p n p.length) (k+1)).1,(dY long (EE p n p.length) (k+1)).2,((k+1:Nat):Int)),⟨k+1,rfl,om,fun hl=>?_⟩,bz,fun rc=>?_⟩
     ·simp_all
     ·refine (hstep _).trans ?_
      rw [show ((k:Int)==(n.length:Int))=false by simp;omega,aK,hc,aC,aC,je,aK,bP hkn,aeV F p n _ k hF hp hit,aC,cw om]
      grind [kZ,adf]
   grind
theorem agn(F:Nat)(p:J aE)(n:Bs)(long:Bool)(hF:p.length+300<F)(rU:n.length+1<F)(hn:n.length<50000000)(hp:p.length<50000000)(hit:∀it∈p,nr it)(hv:kO F p=some v):
  td F p n long=some (dY long (fun k=>v&&EE p n p.length k) (n.length+1)):=by
 unfold td wx;rw [hv,aC]
 cases v with
 | false=>
  have:=L0 long (fun k=>false&&EE p n p.length k) 0 (fun _ _=>rfl) (n.length+1);rw [qC] at this
  rw [this];rfl
 | true=>
  rw [je,adg F p n hF rU hn hp hit];refine cN (fun s=>∃k:Nat,s=((dY long (EE p n p.length) k).1,(dY long (EE p n p.length) k).2,(k:Int))/\k<=n.length+1) (fun s=>n.length+1-s.2.2.toNat) ?_ F _ ⟨0,rfl,om⟩ bz;rintro s ⟨k,rfl,hk⟩;dsimp only;by_cases hk2:k<=n.length
  ·left
   refine⟨_,⟨k+1,rfl,om⟩,bz,fun rc=>?_⟩;rw [b9 om (by rw [Cp];omega),xj _ om,cw om,dY]
   grind
  grind
theorem ago(F:Nat)(p:J aE)(n:Bs)(long:Bool)(hF:p.length+300<F)(rU:n.length+1<F)(hn:n.length<50000000)(hp:p.length<50000000)(hit:∀it∈p,nr it)(hv:mD F p=some v):
  tc F p n long=some (dY long (fun k=>v&&EE p (n.drop (n.length-k)) p.length (n.drop (n.length-k)).length) (n.length+1)):=by
 generalize hg:(fun k=>v&&EE p (n.drop (n.length-k)) p.length (n.drop (n.length-k)).length)=g;refine cN (fun s=>∃k:Nat,s=((dY long g k).1,(dY long g k).2,(k:Int))/\k<=n.length+1) (fun s=>n.length+1-s.2.2.toNat) ?_ F _ ⟨0,rfl,om⟩ bz;rintro s ⟨k,rfl,hk⟩;dsimp only;by_cases hk2:k<=n.length
 ·left
  refine⟨_,⟨k+1,rfl,om⟩,bz,fun rc=>?_⟩
  have QE:sl n (aB ((n.length:Int)-(k:Int))) (n.length:Int)=n.drop (n.length-k):=by
   rw [bN om];unfold sl;simp
  rw [QE,bN om,cC (by grind),aha F p _ hF (by grind) (by grind) hp hit hv,aH,Option.bind_some,Option.bind_some,cw om,dY]
  grind
 grind
theorem agp(F:Nat)(x:J aE)(hF:x.length<F)(hx:x.length<50000000):slices_Reverse F x=some x.reverse:=by
 unfold slices_Reverse wx;have h0:aB ((x.length:Int)-1)=(x.length:Int)-1:=bN om;rw [h0];refine cN (fun s:Int×Int×J aE=>∃k:Nat,s.1=(k:Int)/\s.2.1=(x.length:Int)-1-(k:Int)/\2*k<=x.length+1/\s.2.2.length=x.length/\∀m,m<x.length->s.2.2.getD m gi=cond (decide (m<k)||decide (x.length<=m+k)) (x.getD (x.length-1-m) gi) (x.getD m gi)) (fun s=>x.length-s.1.toNat) ?_ F _ ⟨0,rfl,si,om,rfl,fun m hm=>by grind⟩ bz;rintro⟨i,j,l⟩ ⟨k,h1,h2,h3,h4,h5⟩;dsimp only at h1 h2 h4 h5⊢;subst h1 h2;by_cases hk:(k:Int)<(x.length:Int)-1-(k:Int)
 ·left
  have hj:(x.length:Int)-1-(k:Int)=((x.length-1-k:Nat):Int):=om;rw [hj];refine⟨(((k+1:Nat):Int),((x.length-1-k-1:Nat):Int),(l.set k (l.getD (x.length-1-k) gi)).set (x.length-1-k) (l.getD k gi)),⟨k+1,rfl,by dsimp only;omega,om,by simp_all,fun m hm=>?_⟩,bz,fun rc=>?_⟩
  ·dsimp only
   grind
  ·rw [cz om,b9 om om,b9 om om,b9 om om,b9 om (by grind),Int.toNat_natCast,Int.toNat_natCast,cw om,zC om om]
 ·right
  intro rc;rw [cf hk];refine congrArg some (Af (by simp_all) fun m WD hm2=>?_)
  grind
theorem aip(F:Nat)(x:J aE)(hx:x.length<50000000):BP F x=some x:=by
 unfold BP wx
 grind [Ll,rq,fu]
def Ev(F:Nat)(it:aE):Bool:=cond (cond (cond (cond (decide (it.fKind<1)) true (decide (4<it.fKind))) true ((it.fText.length:Int) != cond (it.fKind==1) 1 0)) true (cond (it.fKind != 4) (cond it.Cm true (decide (0<(it.cL.length:Int)))) false)) true (!((od F it.cL).getD false))
theorem Pf(F:Nat)(p:J aE)(hF:p.length+300<F)(hp:p.length<50000000)(hit:∀it∈p,nr it):kO F p=some (!p.any (Ev F)):=by
 unfold kO wx;refine cN (fun s:Int=>∃k:Nat,s=(k:Int)/\k<=p.length/\(p.take k).any (Ev F)=false) (fun s=>p.length-s.toNat) ?_ F _ ⟨0,rfl,om,rfl⟩ bz;rintro _ ⟨k,rfl,hk,hn⟩;by_cases hk:k<p.length
 ·have hI:=hit _ (gU hk)
  have hl:=hI.2.2;obtain⟨c,hc⟩:=Co F p[k].cL om om;have hb:∀rc:Int->O Bool,cond (Ev F p[k]) (some false) (rc ((k+1:Nat):Int))=_:=fun rc=>rfl;unfold Ev at hb;rw [hc] at hb;have e:(p.take (k+1)).any (Ev F)=Ev F p[k]:=by grind [List.take_succ_eq_append_getElem]
  cases hv:Ev F p[k] with
  | true=>
   right;intro rc;rw [cz (show (k:Int)<(p.length:Int) by omega),bP hk,bZ,gd hk];rw [show p.any (Ev F)=true from Pk.2 ⟨_,gU hk,hv⟩];unfold Ev at hv
   grind
  | false=>
   left;refine⟨_,⟨k+1,rfl,om,by rw [e,hv]⟩,bz,fun rc=>?_⟩;rw [cz (show (k:Int)<(p.length:Int) by omega),bP hk,bZ,gd hk];unfold Ev at hv
   grind [cw]
 grind
theorem aiq(F:Nat)(p:J aE)(n:Bs)(long:Bool)(hF:p.length+300<F)(rU:n.length+1<F)(hn:n.length<50000000)(hp:p.length<50000000)(hit:∀it∈p,nr it):
  ∃r:Int×Bool,(∃j:Nat,r.1=(j:Int)/\j<=n.length/\(r.2=false->j=0))/\pX F p n long=some r/\tc F p n long=some r:=by
 have hv:=Pf F p hF hp hit;rw [<-HY F p hF hp hit] at hv;have akE:=fun it h=>hit it (List.mem_reverse.1 h);have hlr:p.reverse.length=p.length:=List.length_reverse;have hvr:=Pf F p.reverse (by rw [hlr];exact hF) (by rw [hlr];exact hp) akE;rw [<-HY F p.reverse (by rw [hlr];exact hF) (by rw [hlr];exact hp) akE] at hvr;refine⟨_,?_,?_,ago F p n long hF rU hn hp hit hv⟩
 ·obtain⟨j,h1,h2,h3⟩:=abG long (fun k=>(!p.any (Ev F))&&EE p (n.drop (n.length-k)) p.length (n.drop (n.length-k)).length) (n.length+1)
  grind
 ·unfold pX wx
  rw [aip F p hp,aC,agp F p om hp,aC,oY om,XI F p.reverse n.reverse long (by rw [hlr];exact hF) bz (by simpa using hn) (by rw [hlr];exact hp) akE hvr]
  grind [List.length_reverse,I1,aoV]
theorem agq(F:Nat)(p:J aE)(n:Bs)(long:Bool)(hF:p.length+300<F)(rU:n.length+1<F)(hn:n.length<50000000)(hp:p.length<50000000)(hit:∀it∈p,nr it):
  ∃r:Int×Bool,(∃j:Nat,r.1=(j:Int)/\j<=n.length/\(r.2=false->j=0))/\pY F p n long=some r/\td F p n long=some r:=by
 have hv:=Pf F p hF hp hit;have qS:=hv;rw [<-HY F p hF hp hit] at qS;refine⟨_,?_,?_,agn F p n long hF rU hn hp hit hv⟩
 ·obtain⟨j,h1,h2,h3⟩:=abG long (fun k=>(!p.any (Ev F))&&EE p n p.length k) (n.length+1)
  grind
 ·unfold pY wx
  grind [XI]
theorem am1(a b:Bs)(c:Int):sE (aD.mk (a++b) c)=sE (aD.mk a c)++sE (aD.mk b c):=by
 unfold sE
 grind
theorem akF(o:J aD)(r:aD):(rC o r).flatMap sE=o.flatMap sE++sE r:=by
 obtain⟨t,c⟩:=r;unfold rC
 cases h1:(t==[]) with
 | true=>
  have:sE (aD.mk [] c)=[]:=by unfold sE;simp_all
  simp_all
 | false=>
  rw [aK]
  cases h2:(decide (0<o.length)&&((o.getD (o.length-1) di).aN==c)) with
  | true=>
   rw [cE,fL] at h2;have hk:o.length-1<o.length:=om;have hc:=eq_of_beq h2.2
   have ho:o=o.take (o.length-1)++[o.getD (o.length-1) di]:=by
    rw [gd hk,<-lB hk,show o.length-1+1=o.length by omega,yf]
   rw [aZ,akV,if_pos hk,show o.length-1+1=o.length by omega,M6,Pr,List.flatMap_singleton,am1]
   conv=>rhs;rw [ho]
   rw [Pr,List.flatMap_singleton,uX]
   rw [<-hc]
  | false=>simp_all
theorem XJ:∀(l o:J aD),(l.foldl rC o).flatMap sE=o.flatMap sE++l.flatMap sE
 | [],o=>by simp
 | r::l,o=>by rw [yg,XJ l,akF,yl,uX]
theorem akG(F:Nat)(l:J aD)(hF:100000000<=F)(h1:l.length<=26000)(h2:ck l<=5000000):∃p,((∀it∈p,nr it)/\p.length<=5000000)/\iX F (oC l)=some p/\j8 F l=some p:=by
 obtain⟨p,hp1,hp2⟩:=aeT F l om om om om;obtain⟨q,⟨g1,g2⟩,hq⟩:=ab2 F l om om om om;rw [hp1] at hq;obtain rfl:=qE hq;refine⟨p,⟨g1,om⟩,?_,hp2⟩;obtain⟨j1,j2⟩:=LZ l [];have e0:ck ([]:J aD)=0:=rfl;have hj1:ck (oC l)<=5000000:=by unfold oC;omega
 have hj2:(oC l).length<=26000:=by unfold oC;grind
 rw [<-hp1];unfold iX wx;rw [KV F l om om om om,KV F (oC l) om om om om];have:=XJ l [];rw [List.flatMap_nil,o9] at this;unfold oC;rw [this]
theorem Qe(F:Nat)(hF:100000000<=F):US F:=by
 intro op v l h6 h9 hv h1 h2;obtain⟨p,⟨g1,g2⟩,e1,e2⟩:=akG F l hF h1 h2;have hs:=fun b=>aiq F p v b om om om om g1;have hq:=fun b=>agq F p v b om om om om g1;have sl0:sl v 0 (v.length:Int)=v:=by unfold sl;simp
 have hS:∀b,T2 (fun a b:Bs=>a=b/\b.length<=v.length) ((pX F p v b).bind fun x3=>
  cond x3.2
  (rq ((decide (0<=aB ((v.length:Int)-x3.1)))&&(decide (aB ((v.length:Int)-x3.1)<=(v.length:Int)))) (some (sl v 0 (aB ((v.length:Int)-x3.1)))))
  (some v)) ((tc F p v b).bind fun x2=>
  rq ((decide (0<=aB ((v.length:Int)-x2.1)))&&(decide (aB ((v.length:Int)-x2.1)<=(v.length:Int)))) (some (sl v 0 (aB ((v.length:Int)-x2.1))))):=by
  intro b;obtain⟨⟨i,f⟩,⟨j,rfl,h1,h2⟩,r1,r2⟩:=hs b;rw [r1,r2,aC,aC];rw [bN om,b9 om om]
  cases f with
  | true=>exact⟨_,_,⟨rfl,by unfold sl;simp⟩,rfl,rfl⟩
  | false=>
   refine⟨_,_,⟨?_,?_⟩,rfl,rfl⟩
   ·simp_all
   ·unfold sl;simp
 have hP:∀b,T2 (fun a b:Bs=>a=b/\b.length<=v.length) ((pY F p v b).bind fun x4=>
  cond x4.2
  (rq ((decide (0<=x4.1))&&((decide (x4.1<=(v.length:Int)))&&(decide ((v.length:Int)<=(v.length:Int))))) (some (sl v x4.1 (v.length:Int))))
  (some v)) ((td F p v b).bind fun x4=>
  rq ((decide (0<=x4.1))&&((decide (x4.1<=(v.length:Int)))&&(decide ((v.length:Int)<=(v.length:Int))))) (some (sl v x4.1 (v.length:Int)))):=by
  intro b;obtain⟨⟨i,f⟩,⟨j,rfl,h1,h2⟩,r1,r2⟩:=hq b;rw [r1,r2,aC,aC];rw [cC (by simp_all)]
  cases f with
  | true=>exact⟨_,_,⟨rfl,by unfold sl;simp⟩,rfl,rfl⟩
  | false=>
   obtain rfl:=h2 rfl;refine⟨_,_,⟨?_,?_⟩,rfl,rfl⟩
   ·exact sl0.symm
   ·unfold sl;simp
 have jjl:∀ {σ R:Type}(a:σ)(G:σ->O R),jj (some (.inl a)) G=G a:=fun _ _=>rfl;have jjr:∀ {σ R:Type}(a:R)(G:σ->O R),jj (some (.inr a)) G=some a:=fun _ _=>rfl;have hd:∀b,T2 (fun a b:Bs=>a=b/\b.length<=v.length) (jj (σ:=Bool) (R:=Bs) (jj (σ:=Bool) (R:=Bool ⊕ Bs) (some (.inl b)) fun x2=>
  (pX F p v x2).bind fun x3=>
  cond x3.2
  (rq ((decide (0<=aB ((v.length:Int)-x3.1)))&&(decide (aB ((v.length:Int)-x3.1)<=(v.length:Int)))) (some (.inr (sl v 0 (aB ((v.length:Int)-x3.1))))))
  (some (.inr v))) fun x1=>
  (pY F p v x1).bind fun x4=>
  cond x4.2
  (rq ((decide (0<=x4.1))&&((decide (x4.1<=(v.length:Int)))&&(decide ((v.length:Int)<=(v.length:Int))))) (some (sl v x4.1 (v.length:Int))))
  (some v)) ((tc F p v b).bind fun x2=>
  rq ((decide (0<=aB ((v.length:Int)-x2.1)))&&(decide (aB ((v.length:Int)-x2.1)<=(v.length:Int)))) (some (sl v 0 (aB ((v.length:Int)-x2.1))))):=by
  intro b;rw [jjl];have:=hS b;obtain⟨r,-,r1,-⟩:=hs b;rw [r1,aC] at this⊢
  cases h:r.2 with
  | false=>simp_all
  | true=>
   rw [h,aZ] at this;unfold rq at this⊢
   cases h3:((decide (0<=aB ((v.length:Int)-r.1)))&&(decide (aB ((v.length:Int)-r.1)<=(v.length:Int)))) with
   | true=>simp_all
   | false=>rw [h3] at this;exact this
 unfold FJ FD wx
 grind
theorem abH(l:J aD)(k:Nat):ck (l.take k)<=ck l:=by
 have:=F4 (l.take k) (l.drop k);rw [Ru] at this;omega
def mI(r:aD):J aW:=cond (r.aN==3) [aW.mk [] 3] (cond (r.aN==0||(r.aN==1||r.aN==2)) (cond (r.fText==[]&&r.aN==1) [aW.mk [] 1] []++r.fText.map fun b=>aW.mk [b] r.aN) [])
theorem am2(r:aD):(mI r).length<=r.fText.length+1:=by
 unfold mI;cases (r.aN==3)<;>cases (r.aN==0||(r.aN==1||r.aN==2))<;>cases (r.fText==[]&&r.aN==1)<;>simp
theorem KH(l:J aD):(l.flatMap mI).length<=ck l+l.length:=by
 induction l with
 | nil=>simp [ck]
 | cons a l ih=>have:=am2 a;simp only [yl,tM,su];simp [ck] at ih⊢;omega
theorem adK{s:Bs}{i:Nat}(h:i<s.length):sl s (i:Int) ((i+1:Nat):Int)=[s[i]]:=by
 unfold sl;rw [bZ,bZ,lB h,akW (by rw [yj];omega),SK (by rw [yj];omega)];rfl
theorem aqj(F:Nat)(l:J aD)(hF:l.length+ck l<F)(h1:l.length<=100000000)(h2:ck l<=100000000):tn F l=some (l.flatMap mI):=by
 have:aA (fun r=>r=l.flatMap mI) (tn F l):=by
  unfold tn wx;refine aA.lp (fun z:J aW×Int=>∃k:Nat,z.2=(k:Int)/\k<=l.length/\z.1=(l.take k).flatMap mI) (fun z=>l.length-z.2.toNat) ⟨0,rfl,om,si⟩ (by show l.length-0<F;omega) ?_;rintro⟨o,_⟩ ⟨k,rfl,h3,h4⟩ rc hrc;dsimp only at h4 hrc⊢;refine aA.cd (fun h=>?_) fun h=>aA.ok (by rw [h4,tL om]);have hk:k<l.length:=om;have hm:l.length-Int.toNat ((k+1:Nat):Int)<l.length-Int.toNat (k:Int):=om;have e1:(l.take (k+1)).flatMap mI=o++mI l[k]:=by rw [h4,DA _ _ _ hk]
  have ho:o.length<=ck l+l.length:=by
   have:=KH (l.take k);have h5:=abH l k;rw [<-h4,yj] at this;omega
  have ht:l[k].fText.length<=ck l:=Vk (gU hk);rw [b9 om om,bx (i:=k) om,bZ,gd hk];generalize l[k]=r at e1 ht;obtain⟨q,hq⟩:∃q,q=mI r:=⟨_,rfl⟩;rw [<-hq] at e1;unfold mI at hq
  cases c3:(r.aN==3) with
  | true=>
   rw [c3,aZ] at hq;subst hq
   exact aA.rq (nO (by show o.length+1<=_;omega) de) (hrc _ ⟨k+1,rfl,hk,e1.symm⟩ hm)
  | false=>
   rw [c3,aK] at hq;simp only [aH,aC,aK]
   have ec:(cond (r.aN==0) (r.aN==0) (cond (r.aN==1) (r.aN==1) (r.aN==2)))=(r.aN==0||(r.aN==1||r.aN==2)):=by
    cases (r.aN==0)<;>cases (r.aN==1)<;>rfl
   rw [ec]
   cases cc:(r.aN==0||(r.aN==1||r.aN==2)) with
   | false=>rw [cc,aK] at hq;subst hq;exact hrc _ ⟨k+1,rfl,hk,by rw [e1];simp⟩ hm
   | true=>
    rw [cc,aZ] at hq;subst hq;simp only [aZ];have ed:(cond (r.fText==[]) (r.aN==1) false)=(r.fText==[]&&r.aN==1):=by cases (r.fText==[])<;>rfl
    rw [ed];refine aA.bd (P:=fun o':J aW=>o'=o++cond (r.fText==[]&&r.aN==1) [aW.mk [] 1] []) ?_ ?_
    ·cases (r.fText==[]&&r.aN==1) with
     | true=>exact aA.rq (nO (by show o.length+1<=_;omega) de) (aA.ok rfl)
     | false=>exact aA.ok si
    ·rintro o' ho'
     have hol:o'.length<=o.length+1:=by rw [ho'];cases (r.fText==[]&&r.aN==1)<;>simp
     refine aA.lp (fun z:J aW×Int=>∃i:Nat,z.2=(i:Int)/\i<=r.fText.length/\z.1=o'++(r.fText.take i).map fun b=>aW.mk [b] r.aN) (fun z=>r.fText.length-z.2.toNat) ⟨0,rfl,om,si⟩ (by show r.fText.length-0<F;omega) ?_;rintro⟨o2,_⟩ ⟨i,rfl,i1,i2⟩ rc' ni;dsimp only at i2 ni⊢;have hl2:o2.length<=o'.length+r.fText.length:=by rw [i2];simp;omega
     refine aA.cd (fun h=>?_) fun h=>hrc _ ⟨k+1,rfl,hk,by rw [e1];show o2=_;rw [i2,ho',tL om,uX]⟩ hm;have hi:i<r.fText.length:=om;rw [bx om,xS om om om,adK hi];exact aA.rq (nO (by show o2.length+1<=_;omega) de) (ni _ ⟨i+1,rfl,om,by show o2++_=_;rw [i2,lB hi,uY,uX];rfl⟩ (by show r.fText.length-Int.toNat ((i+1:Nat):Int)<r.fText.length-Int.toNat (i:Int);omega))
 obtain⟨r,h,e⟩:=this;rw [e,h]
def EZ(l:J aW):Bs:=l.flatMap fun e=>e.dm
theorem aqk(F:Nat)(l:J aW)(hF:l.length<F)(h1:l.length<=100000000)(h2:∀e∈l,e.dm.length<=1):xP F l=some (EZ l):=by
 have hb:∀k,(EZ (l.take k)).length<=k:=fun k=>by
  unfold EZ;rw [List.length_flatMap]
  have:∀m:J aW,(∀e∈m,e.dm.length<=1)->(m.map fun a=>a.dm.length).sum<=m.length:=fun m=>by
   induction m with
   | nil=>simp
   | cons a m ih=>intro h;have:=h a qD;have:=ih fun e he=>h e (kf _ he);simp;omega
  have:=this (l.take k) fun e he=>h2 e (Rw he);rw [yj] at this;omega
 have:aA (fun r=>r=EZ l) (xP F l):=by
  unfold xP wx;refine aA.lp (fun x:Int×Bool×J Int=>∃k:Nat,x.1=(k:Int)/\k<=l.length/\x.2.2=cU (EZ (l.take k))) (fun x=>l.length-x.1.toNat) ⟨0,rfl,om,by simp [EZ,cU]⟩ (by show l.length-0<F;omega) ?_;rintro⟨_,c,buf⟩ ⟨k,rfl,h3,h4⟩ rc hrc;dsimp only at h4 hrc⊢;have Gp:buf.length<=k:=by rw [h4,cU,lW];exact hb k
  refine aA.cd (fun h=>?_) fun h=>?_
  ·have hk:k<l.length:=om
   have hx:=h2 _ (gU hk);rw [b9 om om,bZ,gd hk,anI F _ c buf om,aC,bx om];refine hrc _ ⟨k+1,rfl,hk,?_⟩ (by show l.length-Int.toNat ((k+1:Nat):Int)<l.length-Int.toNat (k:Int);omega);show buf++cU l[k].dm=_;unfold EZ;rw [h4,DA _ _ _ hk];simp [cU,EZ]
  ·rw [tL om] at h4
   subst h4;have:(cU (EZ l)).length<=k:=Gp;unfold kP wx;rw [cC (by rw [dW rfl,WM,dW om];rfl),RM];exact aA.ok rfl
 obtain⟨r,h,e⟩:=this;rw [e,h]
def L3(s:Bs)(b:UInt8)(c:Int):Int:=cond (c==2&&s.contains b) (cond (b==32||(b==9||b==10)) 1 2) 0
def iA(s:Bs)(e:aW):Int:=cond (e.dm==[]) (cond (e.dD==3) 3 0) (L3 s (e.dm.getD 0 0) e.dD)
def Rp(s:Bs)(e:aW):bH:=bH.mk e.dm e.dD (iA s e)
theorem aql(F:Nat)(b:UInt8)(c:Int)(s:Bs)(hF:s.length<F)(hs:s.length<=100000):FE F (b.toNat:Int) c s=some (L3 s b c):=by
 unfold FE L3 wx;simp only [bne]
 cases hc:(c==2) with
 | false=>rfl
 | true=>
  rw [je,aK,I4];refine cN (fun i:Int=>∃n:Nat,i=(n:Int)/\n<=s.length/\(s.drop n).contains b=s.contains b) (fun i=>s.length-i.toNat) ?_ F _ ⟨0,rfl,om,si⟩ bz;rintro _ ⟨n,rfl,hn,hd⟩;by_cases hk:n<s.length
  ·have e1:((((s.getD (Int.toNat (n:Int)) 0).toNat:Int))==(b.toNat:Int))=(s[n]==b):=by
    rw [bZ,gd hk];have:((s[n].toNat:Int)=(b.toNat:Int))↔s[n]=b:=⟨fun h=>aei.1 om,fun h=>by rw [h]⟩;by_cases h:s[n]=b
    ·rw [h];simp
    ·rw [gK.2 h,gK.2 fun h'=>h (this.1 h')]
   rw [vo hk,adR] at hd;have hcm:(b==s[n])=(s[n]==b):=ael
   cases hb:(s[n]==b) with
   | true=>
    right;intro rc;rw [hcm,hb,Bool.true_or] at hd;rw [cz om,bP hk,bP hk,e1,hb,<-hd];simp only [aZ,aH,aC,pn b 32 om,pn b 9 om,pn b 10 om]
    cases (b==32)<;>cases (b==9)<;>cases (b==10)<;>rfl
   | false=>
    left;rw [hcm,hb,adS] at hd;refine⟨_,⟨n+1,rfl,hk,hd⟩,bz,fun rc=>?_⟩;rw [cz om,bP hk,bP hk,e1,hb,cw om];rfl
  ·right
   intro rc;rw [cf om,<-hd,SM om];rfl
theorem aoW(s:Bs)(r:aD):∀e∈mI r,(e.dm=[]/\(e.dD=3\/e.dD=1))\/∃b,e.dm=[b]/\e.dD=r.aN/\(e.dD==3)=false:=by
 intro e he;unfold mI at he
 cases c3:(r.aN==3) with
 | true=>rw [c3] at he;obtain rfl:=nM.1 he;exact .inl ⟨rfl,.inl rfl⟩
 | false=>
  rw [c3,aK] at he
  cases cc:(r.aN==0||(r.aN==1||r.aN==2)) with
  | false=>rw [cc] at he;cases he
  | true=>
   rw [cc,aZ] at he;rcases qF.1 he with he|he
   ·cases hh:(r.fText==[]&&r.aN==1) with
    | false=>rw [hh] at he;cases he
    | true=>rw [hh] at he;obtain rfl:=nM.1 he;exact .inl ⟨rfl,.inr rfl⟩
   ·obtain⟨b,-,rfl⟩:=rD.1 he
    exact .inr ⟨b,rfl,rfl,c3⟩
def WE(e:aW):Prop:=(e.dm=[]/\(e.dD=3\/e.dD=1))\/∃b,e.dm=[b]/\(e.dD==3)=false
theorem air(l:J aD):∀e∈l.flatMap mI,WE e:=fun e he=>by
 obtain⟨r,-,h⟩:=Pp.1 he;rcases aoW [] r e h with h|⟨b,h1,-,h2⟩
 ·exact .inl h
 ·exact .inr ⟨b,h1,h2⟩
theorem akH(F:Nat)(s:Bs){e:aW}(h:WE e):oz F e s=some (iA s e==1||iA s e==2):=by
 unfold oz iA L3 wx;rcases h with⟨h1,h2⟩|⟨b,h1,h2⟩
 ·rcases h2 with h2|h2<;>rw [h1,h2]<;>rfl
 ·rw [h1]
  have hx:strings_Contains F s [b]=some (s.contains b):=by
   unfold strings_Contains strings_Index stringslite_Index stringslite_IndexByte Ai ibF wx
   have e1:cond (([b]:Bs)==s) 0 (Lib.indexByte s b)=Lib.indexByte s b:=by
    cases hb:(([b]:Bs)==s) with
    | false=>rfl
    | true=>rw [<-eq_of_beq hb];unfold Lib.indexByte;simp
   rw [<-K.VS];simp only [aH,aC];rw [show ((([b]:Bs).length:Int)==0)=false from rfl,show ((([b]:Bs).length:Int)==1)=true from rfl,oY si];simp only [aK,aZ,aC];have e2:(((([b]:Bs).getD 0 0).toNat:Int)).toNat.toUInt8=b:=by simp
   rw [e2,aH,aC,e1];rfl
  rw [hx,show (([b]:Bs)==[])=false from rfl,show ([b]:Bs).getD 0 0=b from rfl];cases (e.dD==2)
  ·rfl
  ·cases s.contains b
   ·rfl
   ·cases (b==32||(b==9||b==10))<;>rfl
theorem abI(F:Nat)(s:Bs){e:aW}(h:WE e):uV F e s=some (iA s e==1):=by
 unfold uV wx;rw [akH F s h,aC];unfold iA L3;rcases h with⟨h1,h2⟩|⟨b,h1,h2⟩
 ·rcases h2 with h2|h2<;>rw [h1,h2]<;>rfl
 ·rw [h1,show (([b]:Bs)==[])=false from rfl,show ([b]:Bs).getD 0 0=b from rfl]
  have e1:∀c:UInt8,(([b]:Bs)==[c])=(b==c):=fun c=>by simp
  rw [e1,e1,e1];cases (e.dD==2)
  ·rfl
  ·cases s.contains b
   ·rfl
   ·cases (b==32)<;>cases (b==9)<;>cases (b==10)<;>rfl
theorem aqm(F:Nat)(l:J aD)(s:Bs)(hF:l.length+ck l+200000<F)(h1:l.length<=100000000)(h2:ck l<=100000000)(hs:s.length<=100000):tg F l s=some ((l.flatMap mI).map (Rp s)):=by
 have:aA (fun r=>r=(l.flatMap mI).map (Rp s)) (tg F l s):=by
  unfold tg wx;refine aA.lp (fun z:J bH×Int=>∃k:Nat,z.2=(k:Int)/\k<=l.length/\z.1=((l.take k).flatMap mI).map (Rp s)) (fun z=>l.length-z.2.toNat) ⟨0,rfl,om,si⟩ (by show l.length-0<F;omega) ?_;rintro⟨o,_⟩ ⟨k,rfl,h3,h4⟩ rc hrc;dsimp only at h4 hrc⊢;refine aA.cd (fun h=>?_) fun h=>aA.ok (by rw [h4,tL om]);have hk:k<l.length:=om;have hm:l.length-Int.toNat ((k+1:Nat):Int)<l.length-Int.toNat (k:Int):=om;have e1:((l.take (k+1)).flatMap mI).map (Rp s)=o++(mI l[k]).map (Rp s):=by rw [h4,DA _ _ _ hk,uY]
  have ho:o.length<=ck l+l.length:=by
   have:=KH (l.take k);have h5:=abH l k;rw [h4,lW];rw [yj] at this;omega
  have ht:l[k].fText.length<=ck l:=Vk (gU hk);rw [b9 om om,bx (i:=k) om,bZ,gd hk];generalize l[k]=r at e1 ht;obtain⟨q,hq⟩:∃q,q=mI r:=⟨_,rfl⟩;rw [<-hq] at e1;unfold mI at hq
  cases c3:(r.aN==3) with
  | true=>
   rw [c3,aZ] at hq;subst hq;have h3:=eq_of_beq c3;rw [h3]
   exact aA.rq (nO (by show o.length+1<=_;omega) de) (hrc _ ⟨k+1,rfl,hk,e1.symm⟩ hm)
  | false=>
   rw [c3,aK] at hq;simp only [aH,aC,aK]
   cases hb:(r.fText==[]&&r.aN==1) with
   | true=>
    rw [hb] at hq;obtain⟨b1,b2⟩:=(cE _ _).mp hb;rw [b1,b2,aZ,aZ];have h1:=eq_of_beq b2;have h0:=eq_of_beq b1;rw [h1] at hq⊢;rw [h0] at hq;subst hq
    exact aA.rq (nO (by show o.length+1<=_;omega) de) (hrc _ ⟨k+1,rfl,hk,e1.symm⟩ hm)
   | false=>
    have nN:cond (r.aN==1) (r.fText==[]) false=false:=by
     rw [<-hb];cases (r.aN==1)<;>cases (r.fText==[])<;>rfl
    have o5:cond (cond (r.aN==0) true (r.aN==1)) true (r.aN==2)=(r.aN==0||(r.aN==1||r.aN==2)):=by
     cases (r.aN==0)<;>cases (r.aN==1)<;>rfl
    rw [hb,aK,o9] at hq;rw [nN,aK,o5]
    cases cc:(r.aN==0||(r.aN==1||r.aN==2)) with
    | false=>rw [cc,aK] at hq;subst hq;exact hrc _ ⟨k+1,rfl,hk,by rw [e1];simp⟩ hm
    | true=>
     rw [cc,aZ] at hq;subst hq;rw [aZ];refine aA.lp (fun z:J bH×Int=>∃i:Nat,z.2=(i:Int)/\i<=r.fText.length/\z.1=o++((r.fText.take i).map fun b=>aW.mk [b] r.aN).map (Rp s)) (fun z=>r.fText.length-z.2.toNat) ⟨0,rfl,om,si⟩ (by show r.fText.length-0<F;omega) ?_;rintro⟨o2,_⟩ ⟨i,rfl,i1,i2⟩ rc' ni;dsimp only at i2 ni⊢;have hl2:o2.length<=o.length+r.fText.length:=by rw [i2];simp;omega
     refine aA.cd (fun h=>?_) fun h=>hrc _ ⟨k+1,rfl,hk,by rw [e1];show o2=_;rw [i2,tL om]⟩ hm;have hi:i<r.fText.length:=om;rw [bx om,xS om om om,b9 om om,bZ,gd hi,aql F r.fText[i] r.aN s om hs,aC,adK hi];refine aA.rq (nO (by show o2.length+1<=_;omega) de) (ni _ ⟨i+1,rfl,om,?_⟩ (by show r.fText.length-Int.toNat ((i+1:Nat):Int)<r.fText.length-Int.toNat (i:Int);omega));show o2++_=_;rw [i2,lB hi,uY,uY,uX];rfl
 obtain⟨r,h,e⟩:=this;rw [e,h]
def nU{α:Type}(f:J (J α))(n:J α):J (J α):=match n with | []=>f|a::t=>f++[a::t]
def dS{α:Type}(k:α->Int):Nat->J α->J (J α)->J α->J (J α)
 | _,[],f,n=>nU f n
 | m,x::l,f,n=>cond (k x==1) (dS k (cond (m==2) 2 1) l f n) (cond (k x==2) (dS k 2 l (f++[n]) []) (cond (m==1) (cond (k x==3) (dS k 0 l (nU f n) []) (dS k 0 l (nU f n) [x])) (cond (k x==3) (dS k 0 l (nU f n) []) (dS k 0 l f (n++[x])))))
variable{α:Type}
theorem abJ{β:Type}(g:α->β)(f:J (J α))(n:J α):nU (f.map (List.map g)) (n.map g)=(nU f n).map (List.map g):=by cases n<;>simp [nU]
theorem ais{α β:Type}(k:α->Int)(k':β->Int)(g:α->β):∀(l:J α)(m:Nat)(f:J (J α))(n:J α),(∀x∈l,k' (g x)=k x)->dS k' m (l.map g) (f.map (List.map g)) (n.map g)=(dS k m l f n).map (List.map g)
 | [],m,f,n,h=>by simp only [Nc,dS];exact abJ g f n
 | x::l,m,f,n,h=>by
  have hx:=h x qD;have ih:=fun m f n=>ais k k' g l m f n fun y hy=>h y (kf _ hy);have i1:=ih 2 (f++[n]) [];have i2:=ih 0 f (n++[x]);have i3:=ih 0 (nU f n) [];have i4:=ih 0 (nU f n) [x];simp only [uY,jU,Nc] at i1 i2 i3 i4;simp only [jU,dS,hx,ih,i1,i2,i3,i4,abJ];cases (k x==1)<;>cases (k x==2)<;>cases (m==1)<;>cases (k x==3)<;>rfl
section
variable (k : α -> Int)
abbrev wE(x:α):Bool:=k x==1
theorem KI(m:Nat)(hm:m=1\/m=2):∀(l:J α)(f:J (J α))(n:J α),dS k m (l.dropWhile (wE k)) f n=dS k m l f n
 | [],f,n=>rfl
 | x::l,f,n=>by
  rw [KK]
  cases hx:wE k x with
  | false=>rfl
  | true=>
   rw [if_pos rfl,KI m hm l f n];simp only [dS];rw [show (k x==1)=true from hx,aZ];rcases hm with rfl|rfl<;>rfl
theorem ait{l:J α}(h:∀x∈l.head?,(k x==1)=false)(f:J (J α))(n:J α):dS k 2 l f n=dS k 0 l f n:=by
 cases l with
 | nil=>rfl
 | cons x l=>simp only [dS];rw [h x rfl];rfl
theorem Qf{x:α}{l:J α}(hx:(k x==2)=true)(m:Nat)(f:J (J α))(n:J α):dS k m (x::l) f n=dS k 2 l (f++[n]) []:=by
 have h1:(k x==1)=false:=by rw [eq_of_beq hx];rfl
 simp only [dS];rw [h1,hx];rfl
theorem aiu{l:J α}(h:∀x∈l.head?,(k x==1)=false/\(k x==2)=false)(f:J (J α))(n:J α):dS k 1 l f n=dS k 0 l (nU f n) []:=by
 cases l with
 | nil=>rfl
 | cons x l=>
  obtain⟨h1,h2⟩:=h x rfl;simp only [dS];rw [h1,h2];cases (k x==3)<;>rfl
theorem I2(l:J α):∀x∈(l.dropWhile (wE k)).head?,(k x==1)=false:=by
 induction l with
 | nil=>intro x hx;cases hx
 | cons a l ih=>
  rw [KK]
  cases ha:wE k a with
  | true=>rw [if_pos rfl];exact ih
  | false=>intro x hx;obtain rfl:=qE hx;exact ha
end
theorem L4(f:J (J α))(n:J α):(nU f n).length<=f.length+n.length:=by cases n<;>simp [nU]
theorem aiv{α:Type}(k:α->Int):∀(l:J α)(m:Nat)(f:J (J α))(n:J α),(dS k m l f n).length<=f.length+n.length+l.length
 | [],m,f,n=>by simp only [dS];exact L4 f n
 | x::l,m,f,n=>by
  have ih:=aiv k l;have he:=L4 f n;have i1:=ih 2 (f++[n]) [];have i2:=ih (cond (m==2) 2 1) f n;have i3:=ih 0 (nU f n) [];have i4:=ih 0 (nU f n) [x];have i5:=ih 0 f (n++[x]);simp only [tM,su,D4] at i1 i2 i3 i4 i5;simp only [dS,su];cases (k x==1)<;>cases (k x==2)<;>cases (m==1)<;>cases (k x==3)<;>simp only [aZ,aK]<;>omega
theorem aiw{α:Type}(k:α->Int)(μ:α->Nat)(K:Nat)(P:α->Prop):∀(l:J α)(m:Nat)(f:J (J α))(n:J α),(∀g∈f,(g.map μ).sum<=K/\∀x∈g,P x)->(n.map μ).sum+(l.map μ).sum<=K->(∀x∈n,P x)->(∀x∈l,P x)->∀g∈dS k m l f n,(g.map μ).sum<=K/\∀x∈g,P x
 | l,m,f,n,hf,hK,hn,hl=>by
  have he:∀g∈nU f n,(g.map μ).sum<=K/\∀x∈g,P x:=fun g hg=>by
   cases n with
   | nil=>exact hf g hg
   | cons a t=>rcases qF.1 (show g∈f++[a::t] from hg) with hg|hg
               ·exact hf g hg
               ·obtain rfl:=nM.1 hg;exact⟨om,hn⟩
  cases l with
  | nil=>exact he
  | cons x l=>
   have hl':=fun y hy=>hl y (kf x hy);have ih:=fun m f n a b c=>aiw k μ K P l m f n a b c hl';simp only [jU,Po] at hK;have hx:=hl x qD;simp only [dS]
   cases (k x==1) with
   | true=>exact ih _ f n hf om hn
   | false=>
    cases (k x==2) with
    | true=>exact ih _ _ _ (fun g hg=>by
      rcases qF.1 hg with hg|hg
      ·exact hf g hg
      ·obtain rfl:=nM.1 hg;exact⟨om,hn⟩) bz (fun _ h=>nomatch h)
    | false=>
     have g1:=ih 0 (nU f n) [] he bz (fun _ h=>nomatch h);have g2:=ih 0 (nU f n) [x] he bz (fun y hy=>by obtain rfl:=nM.1 hy;exact hx)
     have g3:=ih 0 f (n++[x]) hf bz (fun y hy=>by
      rcases qF.1 hy with hy|hy
      ·exact hn y hy
      ·obtain rfl:=nM.1 hy;exact hx)
     cases (m==1)<;>cases (k x==3)<;>assumption
theorem Ww(l:J α):(l.map fun _=>1).sum=l.length:=by
 induction l with
 | nil=>rfl
 | cons a l ih=>simp only [jU,Po,ih,su];omega
theorem slA(l:J α)(f:Nat):sl l (f:Int) (l.length:Int)=l.drop f:=by simp [sl]
theorem slB(l:J α)(k:Nat):sl l 0 (k:Int)=l.take k:=by simp [sl]
theorem slC(l:J α):sl l 1 (l.length:Int)=l.drop 1:=slA l 1
theorem alD(F:Nat)(s:Bs)(l:J aW)(h:∀e∈l,WE e)(hF:l.length<F)(hl:l.length<=500000000):xN F l s=some (l.dropWhile (wE (iA s))):=by
 unfold xN wx;refine cN (fun i:Int=>∃n:Nat,i=(n:Int)/\n<=l.length/\(l.drop n).dropWhile (wE (iA s))=l.dropWhile (wE (iA s))) (fun i=>l.length-i.toNat) ?_ F _ ⟨0,rfl,om,rfl⟩ bz;rintro _ ⟨n,rfl,hn,hd⟩;have hR:∀x:O (J aW),rq ((decide (0<=(n:Int)))&&((decide ((n:Int)<=(l.length:Int)))&&((decide ((l.length:Int)<=(l.length:Int)))&&(decide ((l.length:Int)<=(l.length:Int)))))) x=x:=fun x=>cC (by rw [dT om,dT om,dT om];rfl);by_cases hk:n<l.length
 ·rw [vo hk,KK] at hd
  have hw:=abI F s (h _ (gU hk))
  cases hb:wE (iA s) l[n] with
  | true=>
   left;rw [hb,if_pos rfl] at hd;refine⟨_,⟨n+1,rfl,hk,hd⟩,bz,fun rc=>?_⟩
   rw [cz om,bP hk,bZ,gd hk,hw,aC,aC,show (iA s l[n]==1)=true from hb,aZ,cw om]
  | false=>
   right;intro rc;rw [hb] at hd;rw [cz om,bP hk,bZ,gd hk,hw,aC,aC,show (iA s l[n]==1)=false from hb,aK,hR,slA,<-hd,vo hk];rfl
 ·right
  intro rc;rw [cf om,aC,aK,hR,slA,<-hd,SM om];rfl
theorem arB(F:Nat)(s:Bs)(l:J aW)(h:∀e∈l,WE e):xO F l s=some (l.head?.any fun x=>iA s x==2):=by
 unfold xO wx
 cases l with
 | nil=>rfl
 | cons x l=>
  have hx:=h x qD;rw [cz si,oY si,oY si,show (x::l).getD 0 lV=x from rfl,akH F s hx,abI F s hx];have:(iA s x==1)=true->(iA s x==2)=false:=fun h=>by rw [eq_of_beq h];rfl
  show (cond (iA s x==1||iA s x==2) (some (!(iA s x==1))) (some false):O Bool).bind _=some (iA s x==2)
  cases h1:(iA s x==1) with
  | true=>rw [this h1];rfl
  | false=>cases (iA s x==2)<;>rfl
theorem agr(F:Nat)(f:J (J aW))(n:J aW)(hf:f.length<=100000000):nG F false n f=some ([],nU f n):=by
 unfold nG nU wx
 cases n with
 | nil=>rfl
 | cons a t=>
  rw [aK,aC,dT si,aZ,fu (by show f.length+1<=_;omega) de]
theorem aqn(F:Nat)(f:J (J aW))(n:J aW)(hf:f.length<=100000000):nG F true n f=some ([],f++[n]):=by
 unfold nG wx;rw [aZ,aC,aZ,fu (by show f.length+1<=_;omega) de]
theorem kd3{s:Bs}{e:aW}(h:WE e):(e.dD==3)=(iA s e==3):=by
 unfold iA L3;rcases h with⟨h1,h2⟩|⟨b,h1,h2⟩
 ·rcases h2 with h2|h2<;>rw [h1,h2]<;>rfl
 ·rw [h1,h2,show (([b]:Bs)==[])=false from rfl]
  cases (e.dD==2&&s.contains (([b]:Bs).getD 0 0))<;>cases (([b]:Bs).getD 0 0==32||(([b]:Bs).getD 0 0==9||([b]:Bs).getD 0 0==10))<;>rfl
theorem am3(F:Nat)(s:Bs)(l:J aW)(h:∀e∈l,WE e)(hF:l.length<F)(hl:l.length<=50000000):wS F l s=some (dS (iA s) 0 l [] []):=by
 have:aA (fun r=>r=dS (iA s) 0 l [] []) (wS F l s):=by
  unfold wS wx;refine aA.lp (fun z:J aW×J (J aW)×J aW=>(∀x∈z.1,WE x)/\z.1.length+z.2.1.length+z.2.2.length<=l.length/\dS (iA s) 0 z.1 z.2.1 z.2.2=dS (iA s) 0 l [] []) (fun z=>z.1.length) ⟨h,si,rfl⟩ hF ?_;rintro⟨m,f,n⟩ ⟨h1,h2,h3⟩ rc hrc;dsimp only at h1 h2 h3 hrc⊢;have hel:=L4 f n
  cases m with
  | nil=>
   rw [cf si,agr F f n om]
   exact aA.ok h3
  | cons x m=>
   have hx:=h1 x qD;have hm:=fun y hy=>h1 y (kf x hy);simp only [su] at h2 hrc;have hlen:((x::m:J aW).length:Int)=(m.length:Int)+1:=by simp
   have hdw:=(aem (wE (iA s)) (l:=m)).length_le;have Tj:∀y∈m.dropWhile (wE (iA s)),WE y:=fun y hy=>hm y ((aem _).subset hy);rw [cz om,oY om,show (x::m).getD 0 lV=x from rfl,slC,show (x::m).drop 1=m from rfl,abI F s hx,akH F s hx,kd3 (s:=s) hx];simp only [dS] at h3
   cases k3:(iA s x==3) with
   | true=>
    have e3:=eq_of_beq k3;rw [e3] at h3;rw [aZ,agr F f n om,aC,xS om om om]
    exact hrc _ ⟨hm,bz,h3⟩ si
   | false=>
    rw [k3] at h3;rw [aK,aC,aC]
    cases k1:(iA s x==1) with
    | true=>
     rw [k1,aZ] at h3
     have hsk:xN F (x::m) s=some (m.dropWhile (wE (iA s))):=by
      rw [alD F s _ h1 bz bz,KK,show wE (iA s) x=true from k1,if_pos rfl]
     have h3':dS (iA s) 1 (m.dropWhile (wE (iA s))) f n=dS (iA s) 0 l [] []:=by rw [KI (iA s) 1 (.inl rfl)];exact h3
     have hdh:=I2 (iA s) m;rw [aZ,hsk,aC,arB F s _ Tj,aC];generalize m.dropWhile (wE (iA s))=r at h3' hdh hdw Tj
     cases hr:(r.head?.any fun x=>iA s x==2) with
     | true=>
      refine hrc _ ⟨Tj,by dsimp only;omega,?_⟩ (by dsimp only;omega)
      cases r with
      | nil=>cases hr
      | cons y r=>rw [Qf _ hr] at h3';exact (Qf _ hr 0 f n).trans h3'
     | false=>
      rw [qB,aZ,agr F f n om,aC];refine hrc _ ⟨Tj,bz,?_⟩ (by dsimp only;omega);rw [aiu] at h3'
      ·exact h3'
      ·intro y hy
       refine⟨hdh y hy,?_⟩
       cases r with
       | nil=>cases hy
       | cons z r=>obtain rfl:=qE hy;exact hr
    | false=>
     rw [k1,aK] at h3
     cases k2:(iA s x==2) with
     | true=>
      rw [k2,aZ] at h3;rw [aK,adS,aZ,aqn F f n om,aC,b9 om om,alD F s m hm om om,aC];refine hrc _ ⟨Tj,bz,?_⟩ (by dsimp only;omega);rw [<-KI (iA s) 2 (.inr rfl),ait] at h3
      ·exact h3
      ·exact I2 (iA s) m
     | false=>
      rw [k2] at h3;rw [aK,Bool.or_self,aK,fu (by show n.length+1<=_;omega) de,xS om om om];exact hrc _ ⟨hm,bz,h3⟩ si
 obtain⟨r,h,e⟩:=this;rw [e,h]
theorem alE(F:Nat)(l:J bH)(a:Nat)(hF:l.length<F)(hl:l.length<=500000000)(ha:a<=l.length):∃e:Nat,a<=e/\e<=l.length/\l.drop e=(l.drop a).dropWhile (wE fun x=>x.dI)/\xM F l (a:Int)=some (e:Int):=by
 have:aA (fun r=>∃e:Nat,r=(e:Int)/\a<=e/\e<=l.length/\l.drop e=(l.drop a).dropWhile (wE fun x=>x.dI)) (xM F l (a:Int)):=by
  unfold xM wx;refine aA.lp (fun i:Int=>∃n:Nat,i=(n:Int)/\a<=n/\n<=l.length/\(l.drop n).dropWhile (wE fun x=>x.dI)=(l.drop a).dropWhile (wE fun x=>x.dI)) (fun i=>l.length-i.toNat) ⟨a,rfl,ek _,ha,rfl⟩ bz ?_;rintro _ ⟨n,rfl,h1,h2,h3⟩ rc hrc;by_cases hk:n<l.length
  ·rw [vo hk,KK] at h3
   rw [cz om,bP hk,aC,bZ,gd hk,cw om]
   cases hb:(l[n].dI==1) with
   | true=>
    rw [show wE (fun x:bH=>x.dI) l[n]=true from hb,if_pos rfl] at h3
    exact hrc _ ⟨n+1,rfl,om,hk,h3⟩ bz
   | false=>
    rw [show wE (fun x:bH=>x.dI) l[n]=false from hb] at h3;exact aA.ok ⟨n,rfl,h1,h2,by rw [vo hk];exact h3⟩
  ·rw [cf om]
   exact aA.ok ⟨n,rfl,h1,h2,by rw [<-h3,SM om];rfl⟩
 obtain⟨r,⟨e,rfl,h1,h2,h3⟩,h⟩:=this;exact⟨e,h1,h2,h3,h⟩
theorem am4(F:Nat)(l:J bH)(hk:∀x∈l,x.dI=0\/x.dI=1\/x.dI=2\/x.dI=3)(hF:l.length<F)(hl:l.length<=50000000):wI F l=some (dS (fun x=>x.dI) 0 l [] []):=by
 have:aA (fun r=>r=dS (fun x:bH=>x.dI) 0 l [] []) (wI F l):=by
  unfold wI wx;refine aA.lp (fun z:J (J bH)×J bH×Int=>∃a:Nat,z.2.2=(a:Int)/\a<=l.length/\z.1.length+z.2.1.length<=a/\dS (fun x:bH=>x.dI) 0 (l.drop a) z.1 z.2.1=dS (fun x:bH=>x.dI) 0 l [] []) (fun z=>l.length-z.2.2.toNat) ⟨0,rfl,om,si,rfl⟩ bz ?_;rintro⟨f,n,_⟩ ⟨a,rfl,h1,h2,h3⟩ rc hrc;dsimp only at h2 h3 hrc⊢;have hel:=L4 f n
  have fin:∀(b:Bool)(e:Nat),(b=true->dS (fun x:bH=>x.dI) 0 (l.drop e) (f++[n]) []=dS (fun x:bH=>x.dI) 0 l [] [])->(b=false->n=[]/\dS (fun x:bH=>x.dI) 0 (l.drop e) f []=dS (fun x:bH=>x.dI) 0 l [] [])->a<e->e<=l.length ->
    aA (fun r=>r=dS (fun x:bH=>x.dI) 0 l [] []) (cond b (rq ((decide (f.length+([n]:J (J bH)).length<=9223372036854775807))&&(decide ((f.length+([n]:J (J bH)).length)*24<=140737488355328))) (rc (f++([n]:J (J bH)),([]:J bH),(e:Int)))) (rc (f,n,(e:Int)))):=by
   intro b e vz nN he hle
   cases b with
   | true=>
    rw [aZ,fu (by show f.length+1<=_;omega) de]
    exact hrc _ ⟨e,rfl,hle,bz,vz rfl⟩ bz
   | false=>
    obtain⟨h0,h4⟩:=nN rfl;rw [aK];subst h0;exact hrc _ ⟨e,rfl,hle,by simp at h2⊢;omega,h4⟩ bz
  have Oq:∀e:Nat,dS (fun x:bH=>x.dI) 0 (l.drop e) (nU f n) []=dS (fun x:bH=>x.dI) 0 l [] []->(decide (0<(n.length:Int))=true->dS (fun x:bH=>x.dI) 0 (l.drop e) (f++[n]) []=dS (fun x:bH=>x.dI) 0 l [] [])/\(decide (0<(n.length:Int))=false->n=[]/\dS (fun x:bH=>x.dI) 0 (l.drop e) f []=dS (fun x:bH=>x.dI) 0 l [] []):=by
   intro e he
   cases n with
   | nil=>exact⟨fun h=>by simp at h,fun _=>⟨rfl,he⟩⟩
   | cons y n=>exact⟨fun _=>he,fun h=>by simp at h⟩
  by_cases UT:a<l.length
  ·have hda:=vo UT
   have QV:=hk _ (gU UT);rw [cz om,bP UT,bZ,gd UT]
   cases k0:(l[a].dI==0) with
   | true=>
    have e0:=eq_of_beq k0;rw [aZ,bP UT,fu (by show n.length+1<=_;omega) de,cw om];refine hrc _ ⟨a+1,rfl,UT,bz,?_⟩ bz;rw [<-h3,hda];simp only [dS]
    rw [e0];rfl
   | false=>
    obtain⟨e,e1,e2,e3,e4⟩:=alE F l a hF om om;rw [aK,e4,aC]
    have hw:a<e->dS (fun x:bH=>x.dI) 1 (l.drop e) f n=dS (fun x:bH=>x.dI) 0 l [] []:=by
     intro hlt;rw [hda,KK] at e3
     cases hb:wE (fun x:bH=>x.dI) l[a] with
     | true=>
      rw [hb,if_pos rfl] at e3;rw [e3,KI _ 1 (.inl rfl),<-h3,hda];simp only [dS]
      rw [show (l[a].dI==1)=true from hb];rfl
     | false=>
      rw [hb] at e3;have:=congrArg List.length e3;simp at this;omega
    have hnw:a=e->(l[a].dI==1)=false:=by
     rintro rfl;rw [hda,KK] at e3
     cases hb:wE (fun x:bH=>x.dI) l[a] with
     | true=>
      rw [hb,if_pos rfl] at e3;have h5:=congrArg List.length e3;have h6:=(aem (wE fun x:bH=>x.dI) (l:=l.drop (a+1))).length_le;simp at h5 h6
      omega
     | false=>exact hb
    by_cases hmk:e<l.length/\(l.getD e mu).dI==2
    ·obtain⟨m1,m2⟩:=hmk
     obtain⟨g,g1,g2,g3,g4⟩:=alE F l (e+1) hF om om;rw [cz om,bP m1,aC,bZ,m2,aZ,cw om,g4,aC,aC];refine fin true g (fun _=>?_) (fun h=>nomatch h) om g2;rw [gd m1] at m2;have hde:=vo m1
     have h5:dS (fun x:bH=>x.dI) 2 (l.drop (e+1)) (f++[n]) []=dS (fun x:bH=>x.dI) 0 l [] []:=by
      rcases Nat.lt_or_eq_of_le e1 with hlt|heq
      ·have:=hw hlt
       rw [hde,Qf _ m2] at this;exact this
      ·subst heq
       rw [hda,Qf _ m2] at h3;exact h3
     rw [<-ait,g3,KI _ 2 (.inr rfl)]
     ·exact h5
     ·rw [g3];exact I2 _ _
    ·have hnm:(cond (decide ((e:Int)<(l.length:Int))) (rq ((decide (0<=(e:Int)))&&(decide ((e:Int)<(l.length:Int)))) (some (((l.getD (Int.toNat (e:Int)) mu).dI)==2))) (some false):Option Bool)=some false:=by
      by_cases hlt:e<l.length
      ·rw [cz om,bP hlt,bZ]
       congr 1
       cases hb:((l.getD e mu).dI==2) with
       | false=>rfl
       | true=>exact absurd ⟨hlt,hb⟩ hmk
      ·rw [cf om]
     rw [hnm,aC,aK];rcases Nat.lt_or_eq_of_le e1 with hlt|heq
     ·rw [show ((e:Int)==(a:Int))=false by simp;omega,aK,aC]
      have h5:=hw hlt;rw [aiu] at h5
      ·obtain⟨q1,q2⟩:=Oq e h5
       exact fin _ e q1 q2 hlt e2
      ·intro y hy
       have hh:=I2 (fun x:bH=>x.dI) (l.drop a);rw [<-e3] at hh;refine⟨hh y hy,?_⟩
       cases hb:(y.dI==2) with
       | false=>rfl
       | true=>
        refine absurd ?_ hmk
        have hlt2:e<l.length:=by
         rcases Yz e l.length with h|h
         ·exact h
         ·rw [SM h] at hy;cases hy
        rw [vo hlt2] at hy;obtain rfl:=qE hy;exact⟨hlt2,by rw [gd hlt2];exact hb⟩
     ·subst heq
      rw [show ((a:Int)==(a:Int))=true by simp,aZ,aC,cw om];have k1:=hnw rfl
      have k2:(l[a].dI==2)=false:=by
       cases hb:(l[a].dI==2) with
       | false=>rfl
       | true=>exact absurd ⟨UT,by rw [gd UT];exact hb⟩ hmk
      have k3:l[a].dI=3:=by
       rcases QV with h|h|h|h
       ·rw [h] at k0;cases k0
       ·rw [h] at k1;cases k1
       ·rw [h] at k2;cases k2
       ·exact h
      rw [hda] at h3;simp only [dS] at h3;rw [k3] at h3;obtain⟨q1,q2⟩:=Oq (a+1) h3;exact fin _ (a+1) q1 q2 om UT
  ·obtain rfl:a=l.length:=om
   rw [M6] at h3;simp only [dS] at h3;rw [cf om]
   cases n with
   | nil=>exact aA.ok h3
   | cons y n=>
    rw [dT si,aZ,fu (by show f.length+1<=_;omega) de];exact aA.ok h3
 obtain⟨r,h,e⟩:=this;rw [e,h]
def stepG(o:J aD)(r:aD):J aD:=cond (decide (0<o.length)&&((o.getD (o.length-1) di).aN==r.aN)) (o.set (o.length-1) (aD.mk ((o.getD (o.length-1) di).fText++r.fText) (o.getD (o.length-1) di).aN)) (o++[r])
def rP(e:aW):aD:=aD.mk e.dm e.dD
def rR(e:bH):aD:=aD.mk e.dm e.dD
theorem FY(o:J aD)(x r:aD):stepG (o++[x]) r=cond (x.aN==r.aN) (o++[aD.mk (x.fText++r.fText) x.aN]) (o++[x]++[r]):=by
 unfold stepG;have e1:(o++[x]).length-1=o.length:=by simp
 have e2:(o++[x]).getD o.length di=x:=by simp
 rw [e1,e2,dT si,I4,List.set_append_right _ _ (ek _),Nat.sub_self];rfl
theorem akI(o:J aD)(r:aD):ck (stepG o r)=ck o+r.fText.length/\(stepG o r).length<=o.length+1:=by
 rcases aec o with rfl|⟨p,x,rfl⟩
 ·simp [stepG,ck]
 ·rw [aed,FY]
  cases (x.aN==r.aN)<;>simp [F4,ck]<;>omega
theorem L5:∀(l o:J aD),ck (l.foldl stepG o)=ck o+ck l/\(l.foldl stepG o).length<=o.length+l.length
 | [],o=>by simp [ck]
 | r::l,o=>by
  obtain⟨h1,h2⟩:=L5 l (stepG o r);obtain⟨h3,h4⟩:=akI o r;rw [yg];have:ck (r::l)=r.fText.length+ck l:=by simp [ck]
  simp only [su];omega
theorem XK:∀(g o:J aD)(t:Bs)(c:Int),(∀r∈g,r.aN=c)->g.foldl stepG (o++[aD.mk t c])=o++[aD.mk (t++mg g) c]
 | [],o,t,c,h=>by simp [mg]
 | r::g,o,t,c,h=>by
  have hr:=h r qD;rw [yg,FY];dsimp only;rw [hr,show (c==c)=true by simp,aZ,XK g o _ c fun x hx=>h x (kf _ hx)];unfold mg;rw [yl,uX]
theorem aqo(F:Nat)(l:J bH)(h:∀e∈l,e.dm.length<=1)(hF:l.length<F)(hl:l.length<=50000000):FF F l=some ((l.map rR).foldl stepG []):=by
 unfold FF wx
 have hsz:∀m:J bH,(∀e∈m,e.dm.length<=1)->ck (m.map rR)<=m.length:=fun m=>by
  induction m with
  | nil=>intro _;simp [ck]
  | cons a m ih=>
   intro hm;have h1:=hm a qD;have h2:=ih fun e he=>hm e (kf _ he);have:ck ((a::m).map rR)=a.dm.length+ck (m.map rR):=by simp [ck,rR]
   simp only [su];omega
 refine cN (fun z:Int×J aD=>∃k:Nat,z=((k:Int),((l.take k).map rR).foldl stepG [])/\k<=l.length) (fun z=>l.length-z.1.toNat) ?_ F _ ⟨0,rfl,om⟩ bz;rintro _ ⟨k,rfl,hk⟩;dsimp only;by_cases hk:k<l.length
 ·left
  refine⟨_,⟨k+1,rfl,hk⟩,bz,fun rc=>?_⟩;obtain⟨z1,z2⟩:=L5 ((l.take k).map rR) [];have z3:=hsz (l.take k) fun e he=>h e (Rw he);have hx:=h _ (gU hk);rw [yj] at z3;simp only [lW,yj,D4] at z2;have e0:ck ([]:J aD)=0:=rfl
  have hfl:((l.take (k+1)).map rR).foldl stepG []=stepG (((l.take k).map rR).foldl stepG []) (rR l[k]):=by
   rw [lB hk,uY,Rv];rfl
  rw [cz om,bZ,gd hk,cw om,hfl];generalize ((l.take k).map rR).foldl stepG []=o at z1 z2⊢;unfold stepG;by_cases h0:0<o.length
  ·have hmo:(o.getD (o.length-1) di).fText.length<=ck o:=by rw [gd om];exact Vk (gU om)
   have e1:aB ((o.length:Int)-1)=((o.length-1:Nat):Int):=zC om h0;rw [e1,cz om,bP om,bP hk,bZ,aC,dT h0,I4];dsimp only;show cond ((o.getD (o.length-1) di).aN==l[k].dD) _ _=rc (_,cond ((o.getD (o.length-1) di).aN==l[k].dD) _ _)
   cases ((o.getD (o.length-1) di).aN==l[k].dD) with
   | true=>rw [aZ,aZ,bP om,bP hk,oY om,bP om];rfl
   | false=>rw [aK,aK,bP hk,bP hk,fu (by show o.length+1<=_;omega) de];rfl
  ·rw [cf om,aC]
   dsimp only;rw [aK,bP hk,bP hk,fu (by show o.length+1<=_;omega) de,dF h0];rfl
 ·right
  obtain rfl:k=l.length:=om;intro rc;rw [cf om,yf]
theorem aix(m:J aW):mg (m.map rP)=EZ m:=by unfold mg EZ;rw [List.flatMap_map];rfl
theorem aqp(F:Nat)(l:J aW)(h:∀e∈l,e.dm.length<=1)(hF:l.length+1<F)(hl:l.length<=10000000):BR F l=some ((l.map rP).foldl stepG []):=by
 have:aA (fun r=>r=(l.map rP).foldl stepG []) (BR F l):=by
  unfold BR wx;refine aA.lp (fun z:J aW×J aD=>∃i:Nat,z.1=l.drop i/\i<=l.length/\z.2=((l.take i).map rP).foldl stepG []/\(z.2=[]\/∃o' x,z.2=o'++[x]/\∀y∈z.1.head?,(x.aN==y.dD)=false)) (fun z=>z.1.length) ⟨0,rfl,om,rfl,.inl rfl⟩ (by show l.length<F;omega) ?_;rintro⟨m,o⟩ ⟨i,h1,h2,h3,h4⟩ rc hrc;dsimp only at h1 h3 h4 hrc⊢;have hm:∀e∈m,e.dm.length<=1:=fun e he=>h e (aen (h1▸he));have hml:m.length=l.length-i:=by rw [h1,KJ]
  have hol:o.length<=i:=by
   have:=(L5 ((l.take i).map rP) []).2;rw [<-h3] at this;simp at this;omega
  cases hme:m with
  | nil=>
   rw [cf si];rw [hme] at hml;simp at hml;refine aA.ok ?_;show o=_
   rw [h3,tL om]
  | cons x m'=>
   rw [<-hme];have hpos:0<m.length:=by rw [hme];simp
   have Q7:m.getD 0 lV=x:=by rw [hme];rfl
   rw [cz om,Q7];refine aA.lp (fun j:Int=>∃n:Nat,j=(n:Int)/\1<=n/\n<=m.length/\∀e∈m.take n,e.dD=x.dD) (fun j=>m.length-j.toNat) ⟨1,rfl,ek _,hpos,fun e he=>by rw [hme] at he;simp at he;rw [he]⟩ (by show m.length-1<F;omega) ?_;rintro _ ⟨n,rfl,n1,n2,n3⟩ rc' ni
   have fin:(∀y∈(m.drop n).head?,(x.dD==y.dD)=false)->aA (fun r=>r=(l.map rP).foldl stepG []) (rq ((decide (0<=(n:Int)))&&(decide ((n:Int)<=(m.length:Int)))) (rq (decide (0<(m.length:Int))) ((xP F (sl m 0 (n:Int))).bind fun x6=>
     rq ((decide (o.length+([(aD.mk x6 (x.dD))]:J aD).length<=9223372036854775807))&&(decide ((o.length+([(aD.mk x6 (x.dD))]:J aD).length)*24<=140737488355328))) (rq ((decide (0<=(n:Int)))&&((decide ((n:Int)<=(m.length:Int)))&&(decide ((m.length:Int)<=(m.length:Int))))) (rc (sl m (n:Int) (m.length:Int),o++([(aD.mk x6 (x.dD))]:J aD))))))):=by
    intro hy;rw [b9 om om,oY om,slB,aqk F (m.take n) bz bz fun e he=>hm e (Rw he),aC,fu (by show o.length+1<=_;omega) de,xS om om om,slA];refine hrc _ ⟨i+n,by rw [h1,adQ],om,?_,.inr ⟨o,_,rfl,hy⟩⟩ bz;show o++_=_;have ht:l.take (i+n)=l.take i++m.take n:=by rw [h1];exact List.take_add
    rw [ht,uY,Rv,<-h3,<-aix]
    have hmt:m.take n=x::m'.take (n-1):=by
     rw [hme]
     cases n with
     | zero=>omega
     | succ n=>rfl
    rw [hmt] at n3⊢
    have hf:stepG o (rP x)=o++[rP x]:=by
     rcases h4 with rfl|⟨o',z,rfl,hz⟩
     ·rfl
     ·rw [FY,show (z.aN==(rP x).aN)=false from hz x (by rw [hme];rfl)];rfl
    rw [jU,yg,hf]
    have:=XK ((m'.take (n-1)).map rP) o x.dm x.dD (fun r hr=>by
     obtain⟨e,he,rfl⟩:=rD.1 hr;exact n3 e (kf _ he))
    exact (this.trans (by unfold mg;rw [yl];rfl)).symm
   by_cases hn:n<m.length
   ·rw [cz om,bP hn,oY om,aC,bZ,gd hn]
    cases hb:(m[n].dD==x.dD) with
    | true=>
     rw [aZ,cw om];refine ni _ ⟨n+1,rfl,om,hn,fun e he=>?_⟩ bz;rw [lB hn] at he;rcases qF.1 he with he|he
     ·exact n3 e he
     ·obtain rfl:=nM.1 he;exact eq_of_beq hb
    | false=>
     rw [aK];refine fin fun y hy=>?_;rw [vo hn] at hy;obtain rfl:=qE hy;rw [ael] at hb⊢
     first|exact hb|(rw [ael];exact hb)|skip
   ·rw [cf om,aC,aK]
    exact fin fun y hy=>by rw [SM om] at hy;cases hy
 obtain⟨r,h,e⟩:=this;rw [e,h]
def xQ(l:J aD)(s:Bs):J (J aD):=(dS (iA s) 0 (l.flatMap mI) [] []).map fun g=>(g.map rP).foldl stepG []
theorem abK{e:aW}(h:WE e):e.dm.length<=1:=by
 rcases h with⟨h,-⟩|⟨b,h,-⟩<;>rw [h]<;>simp
theorem abL(l:J aD)(s:Bs)(h1:l.length<=1000000)(h2:ck l<=5000000):(dS (iA s) 0 (l.flatMap mI) [] []).length<=6000000/\∀g∈dS (iA s) 0 (l.flatMap mI) [] [],g.length<=6000000/\∀x∈g,WE x:=by
 have hE:=KH l;have:=aiv (iA s) (l.flatMap mI) 0 [] [];simp only [D4] at this
 exact⟨om,fun g hg=>by
  have:=aiw (iA s) (fun _=>1) 6000000 WE (l.flatMap mI) 0 [] [] (fun _ h=>nomatch h) (by rw [Ww,Ww];simp only [D4];omega) (fun _ h=>nomatch h) (air l) g hg;rwa [Ww] at this⟩
theorem adL(F:Nat)(l:J aD)(s:Bs)(hF:100000000<=F)(h1:l.length<=1000000)(h2:ck l<=5000000):tq F l s=some (xQ l s):=by
 have hE:=KH l;obtain⟨d1,d2⟩:=abL l s h1 h2;unfold tq xQ wx;rw [aqj F l om om om,aC,am3 F s _ (air l) om om,aC];generalize dS (iA s) 0 (l.flatMap mI) [] []=fs at d1 d2;refine cN (fun z:J (J aD)×Int=>∃k:Nat,z=((fs.take k).map (fun g=>(g.map rP).foldl stepG []),(k:Int))/\k<=fs.length) (fun z=>fs.length-z.2.toNat) ?_ F _ ⟨0,rfl,om⟩ bz;rintro _ ⟨k,rfl,hk⟩;dsimp only;by_cases hk:k<fs.length
 ·left
  refine⟨_,⟨k+1,rfl,hk⟩,bz,fun rc=>?_⟩;obtain⟨g1,g2⟩:=d2 _ (gU hk);rw [cz om,bP hk,bZ,gd hk,aqp F _ (fun e he=>abK (g2 e he)) om om,aC,fu bz de,cw om,lB hk,uY];rfl
 ·right
  obtain rfl:k=fs.length:=om;intro rc;rw [cf om,yf]
theorem aiy(s:Bs)(e:aW):iA s e=0\/iA s e=1\/iA s e=2\/iA s e=3:=by
 unfold iA L3
 cases (e.dm==[]) with
 | true=>cases (e.dD==3)<;>simp
 | false=>cases (e.dD==2&&s.contains (e.dm.getD 0 0))<;>cases (e.dm.getD 0 0==32||(e.dm.getD 0 0==9||e.dm.getD 0 0==10))<;>simp
theorem am5(F:Nat)(l:J aD)(s:Bs)(hF:100000000<=F)(h1:l.length<=1000000)(h2:ck l<=5000000)(hs:s.length<=5000):wJ F l s=some (xQ l s):=by
 have hE:=KH l;obtain⟨d1,d2⟩:=abL l s h1 h2;unfold wJ xQ wx;rw [aqm F l s om om om om,aC,am4 F _ (fun x hx=>by obtain⟨e,-,rfl⟩:=rD.1 hx;exact aiy s e) (by rw [lW];omega) (by rw [lW];omega),aC];have hmap:=ais (iA s) (fun x:bH=>x.dI) (Rp s) (l.flatMap mI) 0 [] [] fun _ _=>rfl;rw [Nc,Nc] at hmap;rw [hmap];generalize dS (iA s) 0 (l.flatMap mI) [] []=fs at d1 d2;have hrr:∀g:J aW,(g.map (Rp s)).map rR=g.map rP:=fun g=>by rw [Ah];rfl
 refine cN (fun z:J (J aD)×Int=>∃k:Nat,z=((fs.take k).map (fun g=>(g.map rP).foldl stepG []),(k:Int))/\k<=fs.length) (fun z=>fs.length-z.2.toNat) ?_ F _ ⟨0,rfl,om⟩ bz;rintro _ ⟨k,rfl,hk⟩;dsimp only;by_cases hk:k<fs.length
 ·left
  refine⟨_,⟨k+1,rfl,hk⟩,bz,fun rc=>?_⟩;obtain⟨g1,g2⟩:=d2 _ (gU hk);have e1:(fs.map (List.map (Rp s))).getD k []=fs[k].map (Rp s):=by rw [gd (by rw [lW];exact hk),Rt]
  rw [cz (by rw [lW];omega),bP (by rw [lW];exact hk),bZ,e1,aqo F _ (fun e he=>by obtain⟨x,hx,rfl⟩:=rD.1 he;exact abK (g2 x hx)) (by rw [lW];omega) (by rw [lW];omega),aC,fu bz de,cw om,lB hk,uY,hrr];rfl
 ·right
  obtain rfl:k=fs.length:=om;intro rc;rw [cf (by rw [lW];omega),yf]
theorem aoX(g:J aW)(h:∀x∈g,WE x):ck (g.map rP)<=g.length:=by
 induction g with
 | nil=>simp [ck]
 | cons a m ih=>
  have h1:=abK (h a qD);have h2:=ih fun e he=>h e (kf _ he);have:ck ((a::m).map rP)=a.dm.length+ck (m.map rP):=by simp [ck,rP]
  simp only [su];omega
theorem L6(l:J aD)(s:Bs)(h1:l.length<=1000000)(h2:ck l<=5000000):(xQ l s).length<=6000000/\∀f∈xQ l s,f.length<=6000000/\ck f<=6000000:=by
 obtain⟨d1,d2⟩:=abL l s h1 h2;unfold xQ;refine⟨by rw [lW];exact d1,fun f hf=>?_⟩;obtain⟨g,hg,rfl⟩:=rD.1 hf;obtain⟨g1,g2⟩:=d2 g hg;obtain⟨z1,z2⟩:=L5 (g.map rP) [];have:=aoX g g2;have e0:ck ([]:J aD)=0:=rfl;simp only [lW,D4] at z2;omega
theorem akJ(F:Nat)(l:J aD)(s:Bs)(hF:100000000<=F)(h1:l.length<=100000)(h2:ck l<=5000000)(hs:s.length<=5000):aA (fun r:J (J aD)=>r.length<=6000000/\∀f∈r,f.length<=6000000/\ck f<=6000000) (wJ F l s):=⟨_,L6 l s om h2,am5 F l s hF om h2 hs⟩
theorem am6(F:Nat)(l:J aD)(s:Bs)(hF:100000000<=F)(h1:l.length<=100000)(h2:ck l<=5000000):aA (fun r:J (J aD)=>r.length<=6000000/\∀f∈r,f.length<=6000000/\ck f<=6000000) (tq F l s):=⟨_,L6 l s om h2,adL F l s hF om h2⟩
theorem aiz(F:Nat)(r:J aD)(hF:100000000<=F)(h1:r.length<=10000000)(h2:ck r<=10000000):∃b,uw F r=some b:=by
 have hcl:=ai7 r
 obtain⟨b,-,h⟩:=aeM (F:=F) (r:=r) om om om om fun c hc=>by
  have:=anO r c hc;obtain⟨p,⟨g1,g2⟩,h⟩:=Zz F c om om om om;obtain⟨x,hx⟩:=ZA F p om om g1;exact⟨p,x,h,hx⟩
 exact⟨b,h⟩
theorem am7(F:Nat)(l:J TPart)(p:cQ)(hN:NC<=F)(hF:100000000<=F)(hl:fm l<=1000)(hs:mH s)(hst:stop s=false):aA (fun r=>RB (fm l) r.1/\mH r.2) (EK F l p s):=by
 obtain⟨a,b,⟨h1,h2,-⟩,-,e⟩:=Y9 (fl:=[]) hN hF (Qe F hF) F F l (dh.mk p.eR p.jB 0) p s ⟨rfl,rfl⟩ hs hst hl om om;exact⟨b,⟨h2,h1⟩,e⟩
theorem aiA(F:Nat)(e:eH)(w:J iK)(a:J ia)(hN:NC<=F)(hF:100000000<=F)(hw:w.length<=100)(hp:∀x∈w,fm x.fParts<=1000)(he:Ro e)(hA:wZ e.bQ)(ha:(∀x∈a,x.fText.length<=60)/\a.length<=2000):∃b,uG F e w a=some b:=by
 have:aA (fun _=>True) (uG F e w a):=by
  unfold uG Jv wx;refine aA.lp (fun z=>∃k:Nat,z.2.1=(k:Int)/\k<=w.length/\mH z.2.2) (fun z=>w.length-z.2.1.toNat) ⟨0,rfl,om,⟨he,ha.1,ha.2,0,rfl,Nat.zero_le _⟩,hA,fun _=>rfl⟩ (by grind) ?_;rintro⟨n,_,s⟩ ⟨k,rfl,h1,h2⟩ rc hrc;dsimp only at h2 hrc⊢;refine aA.bd (P:=fun b=>b=true->k<w.length/\stop s=false) (aA.cd (fun h=>?_) fun _=>aA.ok fun h=>nomatch h) fun b hb=>aA.cb (fun h=>?_) fun _=>aA.ok trivial
  ·simp_all [tI,aA.ok]
  obtain⟨hk,hst⟩:=hb h;rw [b9 om om,bx om,bZ,gd hk];have hpk:=hp _ (gU hk);refine aA.bd (am7 F _ _ hN hF hpk h2 hst) fun r ⟨r1,r2⟩=>?_;have hV:=r2.1.1.1;have hvl:=hV.1;have q1:=r1.1;have q2:=r1.2;refine aA.bd ?_ fun ifs arC=>aA.bd (akJ F r.1 ifs hF om om arC) fun fs ⟨f1,f2⟩=>?_
  ·unfold O3 wx
   rw [y9 F _ _ om om];exact aA.cb (fun _=>aA.ok (by grind [Pu])) fun _=>aA.ok de
  refine aA.lp (fun z=>∃i:Nat,z.2=(i:Int)/\i<=fs.length) (fun z=>fs.length-z.2.toNat) ⟨0,rfl,om⟩ (by grind) ?_;rintro⟨n',_⟩ ⟨i,rfl,i1⟩ rc' ni;refine aA.cd (fun h=>?_) fun _=>hrc _ ⟨k+1,rfl,hk,r2⟩ (by grind);have hi:i<fs.length:=om;have hfi:=f2 _ (gU hi);obtain⟨b,hb⟩:=aiz F fs[i] hF om om;rw [b9 om om,bx om,bZ,gd hi,aij F _ om om om,aC,b9 om om,hb,aC,aH];exact aA.cb (fun _=>aA.ok trivial) fun _=>ni _ ⟨i+1,rfl,om⟩ (by grind)
 obtain⟨b,-,h⟩:=this;exact⟨b,h⟩
theorem aA.sc{Q:R->Prop}{c:Bool}{x y:R}(a:c=true->Q x)(b:c=false->Q y):aA Q (some (cond c x y)):=by
 grind [aA.ok]
theorem am8(F:Nat)(e:eH)(hF:100<F):aA (fun b=>b=true->(e.bQ.length<=12/\∀v∈e.bQ,v.fName.length<=60/\v.bS.length<=60)/\e.cK.length<=12/\(∀x∈e.cK,x.length<=60)/\e.fName.length<=60) (Df F e):=by
 unfold Df wx;simp only [aH,aC];refine aA.cb (fun _=>aA.ok fun h=>nomatch h) fun hc=>?_;simp at hc;refine aA.lp (fun i=>∃k:Nat,i=(k:Int)/\k<=e.bQ.length/\∀v∈e.bQ.take k,v.fName.length<=60/\v.bS.length<=60) (fun i=>e.bQ.length-i.toNat) ⟨0,rfl,om,si⟩ (by grind) ?_;rintro _ ⟨k,rfl,h1,h2⟩ rc hrc;refine aA.cd (fun h=>?_) fun h=>?_
 ·have hk:k<e.bQ.length:=om
  rw [b9 om om,b9 om om,bx om,bZ,gd hk,aH,aC];refine aA.cb (fun _=>aA.ok fun h=>nomatch h) fun hv=>hrc _ ⟨k+1,rfl,hk,fun v jt=>?_⟩ (by grind)
  grind [List.take_succ_eq_append_getElem,List.mem_singleton,cT,Bool.or_eq_false_iff,decide_eq_false_iff_not]
 ·have h2:∀v∈e.bQ,v.fName.length<=60/\v.bS.length<=60:=by grind
  refine aA.lp (fun i=>∃k:Nat,i=(k:Int)/\k<=e.cK.length/\∀v∈e.cK.take k,v.length<=60) (fun i=>e.cK.length-i.toNat) ⟨0,rfl,om,si⟩ (by grind) ?_;rintro _ ⟨k,rfl,p1,p2⟩ rc' ni;refine aA.cd (fun h=>?_) fun h=>aA.ok fun _=>⟨⟨om,h2⟩,om,by grind,om⟩;have hk:k<e.cK.length:=om;rw [b9 om om,bx om,bZ,gd hk];refine aA.cd (fun _=>aA.ok fun h=>nomatch h) fun hv=>ni _ ⟨k+1,rfl,hk,fun v jt=>?_⟩ (by grind)
  grind [List.take_succ_eq_append_getElem,List.mem_singleton]
theorem am9(F:Nat)(l:J bO)(hF:200<F):aA (fun r=>r=0->wZ l) (Dg F l):=by
 unfold Dg wx;refine aA.cd (fun _=>aA.ok fun h=>nomatch h) fun hl=>?_;refine aA.lp (fun i:Int=>∃k:Nat,i=(k:Int)/\k<=l.length/\wZ (l.take k)) (fun i=>l.length-i.toNat) ⟨0,rfl,om,List.Pairwise.nil⟩ (by grind) ?_;rintro _ ⟨k,rfl,h1,hA⟩ rc hrc;refine aA.cd (fun h=>?_) fun h=>aA.ok fun _=>by grind
 have hk:k<l.length:=om
 have lt:aA (fun b:Bool=>b=false->k=0\/(l.getD (k-1) eo).fName<(l.getD k eo).fName) (cond (decide (0<(k:Int))) (rq ((decide (0<=aB ((k:Int)-1)))&&(decide (aB ((k:Int)-1)<(l.length:Int)))) (rq ((decide (0<=(k:Int)))&&(decide ((k:Int)<(l.length:Int)))) (some (!(Op.bytesLess ((l.getD (Int.toNat (aB ((k:Int)-1))) eo).fName) ((l.getD (Int.toNat (k:Int)) eo).fName)))))) (some false)):=by
  refine aA.cd (fun h0=>?_) fun _=>aA.ok fun _=>.inl om;rw [zC om om]
  grind [aA.rq,lF,aA.ok,KU]
 refine aA.rq (lF om om) (aA.bd (E2 F _ om) fun b _=>aA.cb (fun _=>aA.ok fun h=>nomatch h) fun _=>aA.rq (lF om om) (aA.cd (fun _=>aA.ok fun h=>nomatch h) fun _=>?_));refine aA.bd (P:=fun b:Bool=>b=false->k=0\/(l.getD (k-1) eo).fName<(l.getD k eo).fName) (aA.rq (lF om om) (aA.cb (fun _=>aA.rq (lF om om) (aA.cb (fun _=>aA.ok fun h=>nomatch h) fun _=>lt)) fun _=>lt)) fun b hb=>aA.cb (fun _=>aA.ok fun h=>nomatch h) fun hb0=>?_;rw [bx om];refine hrc _ ⟨k+1,rfl,hk,?_⟩ (by grind);unfold wZ at hA⊢;rw [lB hk,List.pairwise_append];refine⟨hA,aee _ _,fun a ha c hc=>?_⟩;obtain rfl:=nM.1 hc;obtain⟨m,hm,rfl⟩:=lS ha;have hm2:m<k:=by grind
 rcases hb hb0 with h0|h0
 ·omega
 ·rw [gd hk,gd (show k-1<l.length by omega)] at h0
  by_cases e:m=k-1
  ·simp_all
  ·have:=(List.pairwise_iff_getElem.1 hA) m (k-1) hm (by grind) om
   grind
def akK(e:eH):Prop:=((e.bQ.length<=12/\∀v∈e.bQ,v.fName.length<=60/\v.bS.length<=60)/\e.cK.length<=12/\(∀x∈e.cK,x.length<=60)/\e.fName.length<=60)/\e.ur=[]/\e.oH=[]/\e.uu=[]/\E4 e.KR=true/\(0<=e.eB/\e.eB<=255)/\(0<=e.fK/\e.fK<=255)/\0<=e.Ci/\0<=e.pz/\wZ e.bQ
theorem abM{l:J α}(h:¬ 0<(l.length:Int)):l=[]:=aek.1 om
theorem aoY(F:Nat)(e:eH)(hF:1000<F):aA (fun b=>b=true->akK e) (FC F e):=by
 unfold FC wx;obtain⟨b1,h1,e1⟩:=am8 F e om;obtain⟨b2,nN,e2⟩:=am9 F e.bQ om;rw [e1,e2,Zp F e.KR om];simp only [aH,aC];refine aA.sc (fun _=>fun h=>nomatch h) fun hc=>fun ht=>?_;simp only [cT,cF,aef,cE,akT,Bool.not_eq_false',fL] at hc ht;exact⟨h1 hc.1.1.1.1.1,abM hc.1.1.1.2,abM hc.1.1.2,abM hc.1.2,hc.2,om,om,om,om,nN (by simpa using hc.1.1.1.1.2)⟩
theorem ana(F:Nat)(l:J Bs)(hF:10000<F):aA (fun r=>r.1.length<=8/\∀w∈r.1,fm w.fParts<=160) (pU F l):=by
 refine aA.lp (fun z=>∃k:Nat,z.2=(k:Int)/\k<=8/\z.1.length<=k/\∀w∈z.1,fm w.fParts<=160) (fun z=>8-z.2.toNat) ⟨0,rfl,om,si,fun _ h=>nomatch h⟩ (by show 8-0<F;omega) ?_;rintro⟨o,_⟩ ⟨k,rfl,h1,h2,h3⟩ rc hrc;rw [aH];refine aA.cb (fun hc=>?_) fun _=>aA.ok ⟨by grind,h3⟩;rw [cF,cE] at hc;have c1:=Ae hc.1;have c2:=Ae hc.2;have no:aA (fun r:J iK×Bool=>r.1.length<=8/\∀w∈r.1,fm w.fParts<=160) (some ([],false)):=aA.ok ⟨si,fun _ h=>nomatch h⟩;refine aA.rq (lF om om) (aA.cd (fun _=>no) fun h80=>aA.rq (lF om om) (aA.bd (ant F _ om om) fun r hr=>JO (fun _=>no) fun _=>?_));rw [bx om];refine aA.rq (nO (by grind) de) (hrc _ ⟨k+1,rfl,om,bz,fun w hw=>?_⟩ (by grind))
 grind
theorem adM(h:akK e)(h1:K.gG e.Ci)(h2:K.gG e.pz):Ro e:=by
 obtain⟨⟨⟨a1,a2⟩,a3,a4,a5⟩,f1,f2,f3,-,-,h6,-⟩:=h;exact⟨⟨om,fun v hv=>by have:=a2 v hv;omega⟩,a3,a4,a5,⟨om,om⟩,h1,h2,f1,f2,f3⟩
def Rdy(j:uZ)(w:J iK):Prop:=akK j.mJ/\VL j.p7/\j.p7.length<=40/\(j.jV.length<=12/\∀a∈j.jV,a.fText.length<=60)/\w.length<=8/\∀x∈w,fm x.fParts<=160
theorem anb(F:Nat)(j:uZ)(hN:NC<=F)(hF:100000000<=F)(h1:K.gG j.mJ.Ci)(h2:K.gG j.mJ.pz):aA (fun r=>r.2=true->Rdy j r.1) (uT F j):=by
 unfold uT wx;obtain⟨b,hb,e1⟩:=aoY F j.mJ om;obtain⟨c,hc,e2⟩:=Zr F j.p7 om;rw [e1,e2];simp only [aH,aC];refine aA.cb (fun _=>aA.ok fun h=>nomatch h) fun hx=>?_;simp at hx;have hfit:=hb hx.1.1.1;have hsm:=hc hx.1.2;have hge:=adM hfit h1 h2;refine aA.lp (fun i=>∃k:Nat,i=(k:Int)/\k<=j.jV.length/\∀a∈j.jV.take k,a.fText.length<=60) (fun i=>j.jV.length-i.toNat) ⟨0,rfl,om,si⟩ (by grind) ?_;rintro _ ⟨k,rfl,k1,k2⟩ rc hrc;refine aA.cd (fun h=>?_) fun h=>?_
 ·have hk:k<j.jV.length:=om
  rw [b9 om om,bx om,bZ];refine aA.cd (fun _=>aA.ok fun h=>nomatch h) fun hv=>hrc _ ⟨k+1,rfl,hk,fun v jt=>?_⟩ (by grind)
  grind [List.take_succ_eq_append_getElem,List.mem_singleton]
 ·have k2:∀a∈j.jV,a.fText.length<=60:=by grind
  refine aA.bd (ana F j.JV om) fun r ⟨r1,r2⟩=>?_;rw [WK F j.p7 om hsm];simp [aH];obtain⟨bd,hbd⟩:=aiA F j.mJ r.1 j.jV hN hF om (fun x hx=>by have:=r2 x hx;omega) hge hfit.2.2.2.2.2.2.2.2.2 ⟨k2,om⟩;rw [hbd,aC,aH];refine aA.sc (fun _=>fun h=>nomatch h) fun hy=>fun _=>?_;have hv:gW j.p7=0:=by simp_all
  exact⟨hfit,(agW _).1 hv,om,⟨om,k2⟩,r1,r2⟩
theorem anc{k:Nat}(h:k<=F):∃n,F=n+k:=⟨F-k,om⟩
theorem aiB(F:Nat)(e:eH)(hF:10<=F)(h1:e.bQ.length<=1000)(h2:e.cK.length<=1000)(h3:e.ur=[])(h4:e.oH=[])(h5:e.uu=[]):rB F e=some e:=by
 obtain⟨m,rfl⟩:=anc hF;unfold rB zO wV wW wX wY wx;rw [h3,h4,h5,fu om de,fu om de];obtain⟨a1,a2,a3,a4,a5,a6,a7,a8,a9,a10,a11,a12,a13,a14⟩:=e;dsimp only at h3 h4 h5;subst h3 h4 h5;rfl
def arD:eH:=eH.mk [] [] [] [] [] [] 0 0 0 0 [] (nP.mk 0 0) 0 false
def Wx(s:bw)(fs:J Bs):gw×Int:=cond (s.fe != 0) (gw.mk [] arD false [] s.ga 0,s.fe) (gw.mk (cond s.ov [] fs) s.bX s.ov s.zm [] s.lN,0)
theorem aiC(F:Nat)(h:Ro e)(hF:10<=F):rB F e=some e:=aiB F e hF (by have:=h.1.1;omega) (by have:=h.2.1;omega) h.2.2.2.2.2.2.2.1 h.2.2.2.2.2.2.2.2.1 h.2.2.2.2.2.2.2.2.2
theorem abN(F:Nat)(fl:J bE)(h:mH s)(hs:stop s=false)(hF:10<=F)(fs:J Bs):gE F fs true (fQ fl s)=some (Wx s fs):=by
 obtain⟨h1,h2⟩:=adF hs;unfold gE wx;rw [aZ,show (fQ fl s).bX=s.bX from rfl,aiC F h.1.1 hF,aC];unfold Wx;rw [h1,h2,h.2.2 h2];rfl
theorem L7(F:Nat){x:aL}(h:mH s)(hx:Fin x s)(hF:10<=F)(fs gs:J Bs)(hs:stop s=true):gE F fs false x=some (Wx s gs):=by
 unfold gE Wx wx;rw [aK];rcases hx with⟨h1,h2,h3,h4⟩|⟨h1,h2,h3,h4,h5⟩
 ·rw [h2,h3,h4,show (s.fe != 0)=true by simpa using h1];rfl
 ·have hw:s.ov=true:=by
   unfold stop at hs;rw [h1] at hs;exact hs
  rw [h2,h4,aiC F h.1.1 hF,h1,hw,h3,h5];rfl
def s0(e:eH)(a:J ia):bw:=bw.mk e a 0 (-1) 0 [] false []
theorem aoZ{a:J ia}(h:Ro e)(hA:wZ e.bQ)(h1:∀x∈a,x.fText.length<=60)(h2:a.length<=2000):mH (s0 e a):=⟨⟨h,h1,h2,0,rfl,eA _⟩,hA,fun _=>rfl⟩
theorem ane:Dj 60=some true:=by
 unfold Dj wx
 try simp only [Ll]
 kernel_rfl
def SX(x:gw):Prop:=x.uS.length<=1000/\NoF x.mJ/\x.mJ.bQ.length<=1000/\x.mJ.cK.length<=1000
theorem Wy(h:mH s){fs:J Bs}(hf:fs.length<=1000):SX (Wx s fs).1:=by
 have h1:=h.1.1.1.1;have h2:=h.1.1.2.1;unfold Wx
 cases (s.fe != 0) with
 | true=>exact⟨eA _,⟨rfl,rfl,rfl⟩,eA _,eA _⟩
 | false=>exact⟨by show (cond s.ov [] fs).length<=_;cases s.ov<;>simp;exact hf,h.1.1.2.2.2.2.2.2.2,by show s.bX.bQ.length<=_;omega,by show s.bX.cK.length<=_;omega⟩
theorem abO(F n:Nat)(hF:n<F)(hn:n<=1000000)(p:Int->Bool)(hp:∀x,p x=false):b8 (σ:=Int) (R:=Bool) (fun bA x1=>cond (decide (x1<(n:Int))) (rq ((decide (0<=x1))&&(decide (x1<(n:Int)))) (rq ((decide (0<=x1))&&(decide (x1<(n:Int)))) (cond (p x1) (some false) (bA (aB (x1+1)))))) (some true)) F 0=some true:=by
 refine cN (fun s:Int=>∃k:Nat,s=(k:Int)/\k<=n) (fun s=>n-s.toNat) ?_ F _ ⟨0,rfl,om⟩ bz;rintro _ ⟨k,rfl,hk⟩;by_cases hk:k<n
 ·left
  refine⟨_,⟨k+1,rfl,om⟩,bz,fun rc=>?_⟩;rw [cz om,bP hk,bP hk,hp,aK,cw om]
 ·right
  intro rc;rw [cf om]
theorem ags(F:Nat)(l:J Bs)(hF:l.length<F)(h:l.length<=1000000):oA F l l=some true:=by
 unfold oA wx;rw [M8,aK];exact abO F l.length hF h (fun x1=>!((l.getD (Int.toNat x1) [])==(l.getD (Int.toNat x1) []))) (fun x=>by simp)
theorem aiD(F:Nat)(l:J bO)(hF:l.length<F)(h:l.length<=1000000):FV F l l=some true:=by
 unfold FV wx;rw [M8,aK];exact abO F l.length hF h (fun x1=>!(((l.getD (Int.toNat x1) eo).fName==(l.getD (Int.toNat x1) eo).fName)&&(((l.getD (Int.toNat x1) eo).bS==(l.getD (Int.toNat x1) eo).bS)&&(((l.getD (Int.toNat x1) eo).cL==(l.getD (Int.toNat x1) eo).cL)&&(((l.getD (Int.toNat x1) eo).uR==(l.getD (Int.toNat x1) eo).uR)&&(((l.getD (Int.toNat x1) eo).lM==(l.getD (Int.toNat x1) eo).lM)&&true)))))) (fun x=>by simp)
theorem aqq(F:Nat){x:gw}(hF:1000<F)(h:SX x):FX F x x=some true:=by
 obtain⟨h1,⟨f1,f2,f3⟩,h2,h3⟩:=h
 have e:oX F x.mJ x.mJ=some true:=by
  unfold oX wx;rw [f1,f2,f3,aiD F _ om om,ags F _ om om];simp
 unfold FX wx;rw [ags F _ om om,e];simp
def aS{R:Type}(Q:R->Prop)(x:O R):Prop:=∀r,x=some r->Q r
variable{S:Type}{body:(σ->O R)->σ->O R}
section
variable {Q : R -> Prop}
theorem aS.ok{r:R}(h:Q r):aS Q (some r):=fun _ e=>by cases e;exact h
theorem aS.no:aS Q none:=fun _ e=>nomatch e
theorem aS.rq{x:O R}{c:Bool}(k:aS Q x):aS Q (rq c x):=by cases c;exact aS.no;exact k
theorem aS.cb{x y:O R}{c:Bool}(a:aS Q x)(b:aS Q y):aS Q (cond c x y):=by cases c;exact b;exact a
theorem aS.bb{P:S->Prop}{x:O S}{f:S->O R}(h:aS P x)(k:∀a,P a->aS Q (f a)):aS Q (x.bind f):=fun r e=>by
 obtain⟨a,e1,e2⟩:=YI.1 e;exact k a (h a e1) r e2
theorem aS.bd{x:O S}{f:S->O R}(k:∀a,aS Q (f a)):aS Q (x.bind f):=aS.bb (P:=fun _=>True) (fun _ _=>trivial) fun a _=>k a
theorem aS.lp(P:σ->Prop){s:σ}(h0:P s)(hs:∀s,P s->∀rc,(∀s',P s'->aS Q (rc s'))->aS Q (body rc s)):aS Q (b8 body F s):=by
 induction F generalizing s with
 | zero=>exact aS.no
 | succ F ih=>exact hs s h0 (b8 body F) fun s' h=>ih h
theorem aS.lT{s:σ}(hs:∀s rc,(∀s',aS Q (rc s'))->aS Q (body rc s)):aS Q (b8 body F s):=aS.lp (fun _=>True) trivial fun s _ rc h=>hs s rc fun s'=>h s' trivial
end
variable{c:eH}
section
variable {Q : R -> Prop}
def IV(c:eH)(s:bw):Prop:={s.bX with bQ:=[]} = c
theorem aS.bi{x:O (A×bw)}{f:A×bw->O R}(h:aS (fun z=>IV c z.2) x)(k:∀a,IV c a.2->aS Q (f a)):aS Q (x.bind f):=aS.bb h k
theorem aS.bt{x:O bw}{f:bw->O R}(h:aS (IV c) x)(k:∀a,IV c a->aS Q (f a)):aS Q (x.bind f):=aS.bb h k
theorem aS.ls{body:(Int×bw->O R)->Int×bw->O R}{s:Int×bw}(h0:IV c s.2)(hs:∀s:Int×bw,IV c s.2->∀rc,(∀s':Int×bw,IV c s'.2->aS Q (rc s'))->aS Q (body rc s)):aS Q (b8 body F s):=aS.lp (fun z=>IV c z.2) h0 hs
theorem aS.au{Q:R->Prop}{x:O R}(h:aS Q x:=by repeat' first|exact aS.no|exact aS.ok ‹_› | exact aS.ok NE.nil|exact aS.ok NT.nil|exact aS.ok (C1.one _)|exact aS.ok C1.nil|exact aS.ok fun _=>rfl|exact fin|exact go|exact go 0|exact go _ _ _ _ _ _ (fun XB=>aB (XB.QF+1))|exact g3|exact hrc _ ‹_› | exact hrc _|exact ni _ ‹_› | exact h1 _ _ _ ‹_› | exact h2 _ _ _ ‹_› | exact h3 _ _ ‹_› | exact h4 _ _ _ ‹_› | exact h5 _ _ _ ‹_› | exact h6 _ _ _ ‹_› | exact arH _ _ _ ‹_› | exact aqv _ _ _ ‹_› | exact arJ _ _ ‹_› | exact Qg _ _|exact aqr _ _ _|exact aqs _ _|exact akL _ rfl|exact abP _ de|exact abP _ (agt ‹_› (ws1 _))|exact arI _ _|exact arS _ _ _|exact arT _ _ _|exact ar7 _ rfl|exact h1 _ _ _ _ _|exact h3 _ _ _ _|exact h4 _ _ _ _|exact h5 _ _ _ _|exact h6 _ _ _|exact h6 _ _ _ _|exact h1 _ _ _ h.2|exact h1 _ _ _ h|exact arK _ _ _ _|(refine aS.ok fun _ h=>?_;cases h;done)|(refine aS.ok fun _ h=>?_;cases h;assumption)|refine aS.rg fun _=>?_|refine aS.cb ?_ ?_|refine aS.rq ?_|refine aS.bu (p:=p) ?_ fun _ _=>?_|refine aS.br ?_ fun _ _=>?_|refine aS.bt (c:=c) ?_ fun _ _=>?_|refine aS.bi (c:=c) ?_ fun _ _=>?_|refine aS.bv ?_ fun _ _=>?_|refine aS.bc ?_ fun _ _=>?_|refine aS.bd fun _=>?_|refine aS.ls (c:=c) ‹_› fun _ _ rc' ni=>?_|refine aS.lT fun _ rc hrc=>?_):aS Q x:=h
def J1(c:eH)(F n:Nat):Prop:=(∀l p s,IV c s->aS (fun z=>IV c z.2) ((aX F n).1 l p s))/\(∀l p s,IV c s->aS (fun z=>IV c z.2) ((aX F n).2.1 l p s))/\(∀l s,IV c s->aS (fun z=>IV c z.2) ((aX F n).2.2.1 l s)) /\
 (∀l p s,IV c s->aS (fun z=>IV c z.2) ((aX F n).2.2.2.1 l p s))/\(∀l p s,IV c s->aS (fun z=>IV c z.2) ((aX F n).2.2.2.2.1 l p s))/\(∀l p s,IV c s->aS (IV c) ((aX F n).2.2.2.2.2 l p s))
theorem aiE:∀n,J1 c F n
 | 0=>⟨fun _ _ _ _=>aS.no,fun _ _ _ _=>aS.no,fun _ _ _=>aS.no,fun _ _ _ _=>aS.no,fun _ _ _ _=>aS.no,fun _ _ _ _=>aS.no⟩
 | n+1=>by
  obtain⟨h1,h2,h3,h4,h5,h6⟩:=aiE n;refine⟨fun l p s h=>?_,fun l p s h=>?_,fun l s h=>?_,fun l p s h=>?_,fun l p s h=>?_,fun l p s h=>?_⟩
  ·show aS _ (kM F (aX F n) l p s)
   unfold kM wx;refine aS.lp (fun z=>IV c z.2.2) h fun z hz rc hrc=>?_;exact aS.au
  ·show aS _ (j7 F (aX F n) l p s)
   unfold j7 wx;exact aS.au
  ·show aS _ (mX F (aX F n) l s)
   unfold mX wx;refine aS.bi (h4 _ _ _ h) fun z hz=>aS.bd fun _=>aS.cb (aS.ok hz) (aS.lT fun _ rc hrc=>?_);exact aS.au
  ·show aS _ (sn F (aX F n) l p s)
   unfold sn wx;exact aS.au
  ·show aS _ (mY F (aX F n) l p s)
   unfold mY wx;exact aS.au
  ·show aS _ (nh F (aX F n) l p s)
   unfold nh wx;exact aS.au
end
def NG(s:bw):Prop:=(lD .i64 s.bX.eB 8 != 0)=true
def WR(DY DZ:J bE)(a b:J Bs×Bool×aL):Prop:=∃s,mH s/\NG s/\a.1=b.1/\a.1.length<=6000000/\((stop s=false/\a.2=(true,fQ DY s)/\b.2=(true,fQ DZ s))\/(stop s=true/\a.2.1=false/\b.2.1=false/\Fin a.2.2 s/\Fin b.2.2 s))
variable{DY DZ:J bE}
theorem alF(h:mH s)(hs:stop s=false)(hg:NG s){e:Int}(he:e≠0):WR DY DZ ([],false,{fQ DY s with wF:=e}) ([],false,{fQ DZ s with wF:=e}):=by
 obtain⟨f1,f2⟩:=failed (fl:=DY) (e:=e) (m:=[]) hs he;obtain⟨f3,f4⟩:=failed (fl:=DZ) (e:=e) (m:=[]) hs he;refine⟨_,LY h e [],?_,rfl,eA _,.inr ⟨f1,rfl,rfl,f2,f4⟩⟩;rw [hs];exact hg
theorem aqt(hN:NC<=F)(hF:100000000<=F)(w:iK)(hw:fm w.fParts<=200)(h:mH s)(hs:stop s=false)(hg:NG s):T2 (WR DY DZ) (iy F w (fQ DY s)) (iy F w (fQ DZ s)):=by
 obtain⟨⟨r1,ok1,x1⟩,⟨r',s'⟩,⟨g1,g2,g3⟩,e1,e2⟩:=Y9 (fl:=DY) hN hF (Qe _ hF) F F w.fParts (dh.mk false true 0) (cQ.mk false false true) s ⟨rfl,rfl⟩ h hs om om om;obtain⟨⟨r2,ok2,x2⟩,b',⟨k1,k2,k3⟩,e3,e4⟩:=Y9 (fl:=DZ) hN hF (Qe _ hF) F F w.fParts (dh.mk false true 0) (cQ.mk false false true) s ⟨rfl,rfl⟩ h hs om om om;have hb:b'=(r',s'):=by rw [e2] at e4;exact (qE e4).symm
 subst hb;have hi:IV {s.bX with bQ:=[]} s':=(aiE F).1 _ _ _ rfl _ e2
 have hg':NG s':=by
  have q:=congrArg eH.eB (show ({s'.bX with bQ:=[]}:eH)={s.bX with bQ:=[]} from hi);unfold NG;rw [show s'.bX.eB=s.bX.eB from q];exact hg
 unfold iy wx;rw [show oy F w.fParts (dh.mk false true 0) (fQ DY s)=some (r1,ok1,x1) from e1,show oy F w.fParts (dh.mk false true 0) (fQ DZ s)=some (r2,ok2,x2) from e3,aC,aC];dsimp only at g1 g2 g3 k3⊢;rcases g3 with⟨st,a1,j1⟩|⟨st,a1,a2,-⟩
 ·rcases k3 with⟨-,a3,j2⟩|⟨zT,-⟩
  ·cases a1
   cases a3;have q1:r1=r':=j1.2 fun _=>rfl;have q2:r2=r':=j2.2 fun _=>rfl;subst q1;subst q2;have hv:s'.bX.bQ.length<=128:=g1.1.1.1.1
   have hX:∃v,((uh F s'.bX.bQ ([73,70,83]:Bs)).bind fun x3=>(cond x3.2 (some x3.1.cL) (some false):O Bool).bind fun x4=>cond x4 (some x3.1.bS) (some ([32,9,10]:Bs)):O Bs)=some v:=by
    rw [abz F _ _ om om,aC]
    cases (jH s'.bX.bQ [73,70,83]).2 with
    | false=>exact⟨_,rfl⟩
    | true=>rw [aZ,aC];cases (jH s'.bX.bQ [73,70,83]).1.cL<;>exact⟨_,rfl⟩
   obtain⟨v,hv⟩:=hX;have b1:=g2.1;have b2:=g2.2;obtain⟨fs,⟨f1,f2⟩,ef⟩:=am6 F r2 v hF om om;have hx:∀fl,(fQ fl s').bX=s'.bX:=fun _=>rfl;simp only [hx];rw [je,aK,aK,hv,aC,aC,ef,aC,aC]
   have hT:∀k,k<fs.length->pG F (fs.getD k [])=some (mg (fs.getD k [])):=fun k hk=>by
    rw [gd hk];have:=f2 _ (gU hk);exact RU F _ om om om
   refine T2.lp (fun a b:Int=>∃k:Nat,a=(k:Int)/\b=(k:Int)/\k<=fs.length) (fun a=>fs.length-a.toNat) ⟨0,rfl,rfl,eA _⟩ (by show fs.length-0<F;omega) ?_;rintro _ _ ⟨k,rfl,rfl,hk⟩ q1 q2 hrc;by_cases hk:k<fs.length
   ·rw [cz om,cz om,bP hk,bP hk,bZ,hT k hk,aC,aC,cw om]
    refine T2.cb (fun _=>T2.ok (alF g1 st hg' de)) fun _=>hrc _ _ ⟨k+1,rfl,rfl,hk⟩ om
   ·rw [cf om,cf om]
    refine T2.lp (fun (a b:J Bs×Int)=>a=b/\∃k:Nat,a.2=(k:Int)/\k<=fs.length/\a.1.length<=k) (fun a=>fs.length-a.2.toNat) ⟨rfl,0,rfl,eA _,si⟩ (by show fs.length-0<F;omega) ?_;rintro⟨o,_⟩ _ ⟨rfl,k,rfl,hk,ho⟩ q1 q2 hrc;dsimp only at ho hrc⊢;by_cases hk:k<fs.length
    ·rw [cz om,cz om,bP hk,bP hk,bZ,hg',aZ,aZ,hT k hk,aC,aC,cw om]
     have hc:=nO (n:=o.length+1) (k:=16) om de;refine T2.ql hc (T2.qr hc (hrc _ _ ⟨rfl,k+1,rfl,hk,bz⟩ (by dsimp only;omega)))
    ·rw [cf om,cf om]
     exact T2.ok ⟨s',g1,hg',rfl,by show o.length<=_;omega,.inl ⟨st,rfl,rfl⟩⟩
  ·rw [st] at zT;cases zT
 ·rcases k3 with⟨zT,-⟩|⟨-,a3,a4,-⟩
  ·rw [st] at zT;cases zT
  ·have a1:ok1=false:=a1
   have a3:ok2=false:=a3;subst a1;subst a3;exact T2.ok ⟨s',g1,hg',rfl,eA _,.inr ⟨st,rfl,rfl,a2,a4⟩⟩
theorem ao0(hN:NC<=F)(hF:100000000<=F){a:J ia}(l:J iK)(hl:l.length<=1000)(hw:∀y∈l,fm y.fParts<=200)(he:Ro e)(hA:wZ e.bQ)(ho:(lD .i64 e.eB 8 != 0)=true)(h1:∀x∈a,x.fText.length<=60)(h2:a.length<=2000):
  T2 (fun x y=>x=y/\SX x.1) (iW F e DY l a) (iW F e DZ l a):=by
 unfold iW wK wx;dsimp only [Option.bind_some];refine T2.lp (fun (z y:J Bs×Int×aL)=>∃(k:Nat)(s:bw),k<=l.length/\z.1=y.1/\z.2=((k:Int),fQ DY s)/\y.2=((k:Int),fQ DZ s)/\mH s/\NG s/\stop s=false/\z.1.length<=512) (fun z=>l.length-z.2.1.toNat) ⟨0,s0 e a,eA _,rfl,rfl,rfl,aoZ he hA h1 h2,ho,rfl,eA _⟩ (by show l.length-0<F;omega) ?_;rintro⟨o,_⟩ ⟨_,_⟩ ⟨k,s,h3,h4,h5,h6,h7,h8,h9,h10⟩ q1 q2 hrc;dsimp only at h4 h5 h6 h10 hrc⊢;subst h4 h5 h6;dsimp only at hrc⊢;by_cases hk:k<l.length
 ·rw [cz om,cz om,bP hk,bP hk,bZ,cw om]
  refine T2.bd (aqt (DY:=DY) (DZ:=DZ) hN hF (l.getD k vF) (by rw [gd hk];exact hw _ (gU hk)) h7 h9 h8) ?_;rintro⟨f,ok1,x1⟩ ⟨f',ok2,x2⟩ ⟨s',g1,g2,g3,g4,g5⟩;dsimp only at g3 g4 g5⊢;subst g3;rcases g5 with⟨st,a1,a2⟩|⟨st,a1,a2,a3,a4⟩
  ·cases a1
   cases a2;simp only [aZ,aC];have arE:aB ((o.length:Int)+(f.length:Int))=((o.length+f.length:Nat):Int):=bN (x:=(o.length:Int)+(f.length:Int)) om;rw [arE]
   cases hb:decide (512<((o.length+f.length:Nat):Int)) with
   | true=>
    obtain⟨s2,c1,-,-,-,c2⟩:=alF (DY:=DY) (DZ:=DZ) g1 st g2 (e:=4) de;rcases c2 with⟨c3,c4,-⟩|⟨c3,-,-,c4,c5⟩
    ·cases c4
    ·rw [aZ,aZ,aly,aly,aC,aC,aC,aC]
     dsimp only;rw [qB,aZ,aZ,L7 F c1 c4 om [] [] c3,L7 F c1 c5 om [] [] c3]
     exact T2.ok ⟨rfl,Wy c1 (eA _)⟩
   | false=>
    have hb:=of_decide_eq_false hb;rw [aK,aK,aC,aC];dsimp only;rw [je,aK,aK];have hc:=nO (n:=o.length+f.length) (k:=16) om de;exact T2.ql hc (T2.qr hc (hrc _ _ ⟨k+1,s',hk,rfl,rfl,rfl,g1,g2,st,bz⟩ (by dsimp only;omega)))
  ·have a1:ok1=false:=a1
   have a2:ok2=false:=a2;subst a1;subst a2;simp only [aK,aC,qB,aZ];rw [L7 F g1 a3 om [] [] st,L7 F g1 a4 om [] [] st];exact T2.ok ⟨rfl,Wy g1 (eA _)⟩
 ·rw [cf om,cf om,abN F DY h7 h9 om,abN F DZ h7 h9 om]
  exact T2.ok ⟨rfl,Wy h7 om⟩
def NE(l:J TPart):Prop:=∀p∈l,p.fKind=1->p.fText≠[]
def NR(r:dL):Prop:=NE r.fParts
section
variable {Q : R -> Prop}
theorem aS.rg{x:O R}{c:Bool}(k:c=true->aS Q x):aS Q (Go.RT.rq c x):=by cases c;exact aS.no;exact k rfl
theorem aS.cc{x y:O R}{c:Bool}(a:c=true->aS Q x)(b:aS Q y):aS Q (cond c x y):=by cases c;exact b;exact a rfl
theorem aS.jj{X:O (σ ⊕ R)}{f:σ->O R}(h:aS (fun z=>∀r,z=.inr r->Q r) X)(k:∀s,aS Q (f s)):aS Q (Go.RT.jj X f):=fun r e=>by
 obtain⟨a,e1,e2⟩:=YI.1 e
 cases a with
 | inl a=>exact k a r e2
 | inr a=>cases e2;exact h _ e1 _ rfl
theorem aS.br{x:O dL}{f:dL->O R}(h:aS NR x)(k:∀a,NR a->aS Q (f a)):aS Q (x.bind f):=aS.bb h k
end
variable {F : Nat}
theorem NE.nil:NE []:=fun _ h=>nomatch h
theorem NE.app{a b:J TPart}(h:NE a)(h':NE b):NE (a++b):=fun p hp=>by
 rcases qF.1 hp with hp|hp
 ·exact h p hp
 ·exact h' p hp
theorem NE.one{p:TPart}(h:p.fKind=1->p.fText≠[]):NE [p]:=fun q hq=>by obtain rfl:=nM.1 hq;exact h
theorem Qg(a e:Int):aS NR (dM F a e):=aS.ok NE.nil
theorem aiF{p:TPart}(a:Int)(h:p.fKind=1->p.fText≠[]):aS NR (fO F p a):=aS.ok (NE.one h)
variable{ps:J TPart}
theorem akL{k:Int}{o:Int}{c:Bool}(a:Int)(h:(k==1)=false):aS NR (fO F (TPart.mk k t o c ps) a):=aiF a fun e=>by
 have e:k=1:=e;rw [e] at h;cases h
theorem abP{k o:Int}{c:Bool}(a:Int)(h:t≠[]):aS NR (fO F (TPart.mk k t o c ps) a):=aiF a fun _=>h
theorem agt{s:Bs}{p q:Int}(h:((decide (0<=p))&&((decide (p<=q))&&(decide (q<=(s.length:Int)))))=true)(hne:p≠q):sl s p q≠[]:=by
 simp only [cE,fL] at h;intro e;have:=congrArg List.length e;simp [sl] at this;omega
theorem ws1(a:Int):a≠aB (a+1):=by unfold aB IntKind.wrap;simp [IntKind.signed,IntKind.bits];omega
theorem ws2(a:Int):a≠aB (a+2):=by unfold aB IntKind.wrap;simp [IntKind.signed,IntKind.bits];omega
theorem ws3(a:Int):aB (a+1)≠aB (a+2):=by unfold aB IntKind.wrap;simp [IntKind.signed,IntKind.bits];omega
theorem anf{l:J TPart}(h:NE l)(ht:t≠[]):aS NE (w8 F l t):=by
 unfold w8 wx;have hs:∀q,NE (sl l 0 q):=fun q p hp=>h p (Rw (aen hp));refine aS.bd fun _=>aS.cb (aS.rq (aS.rq (aS.rq (aS.rq (aS.rq (aS.ok (NE.app (NE.app NE.nil (hs _)) (NE.one fun _ e=>ht (List.append_eq_nil_iff.1 e).2)))))))) (aS.rq (aS.ok (NE.app h (NE.one fun _=>ht))))
theorem aqr(s:Bs)(a p:Int):aS NR (nZ F s a p):=by
 unfold nZ wx
 repeat' first|exact aS.no|exact aS.ok NE.nil|exact aS.ok ‹_› | exact Qg _ _|exact akL _ rfl|exact abP _ de|exact abP _ (agt ‹_› (ws3 _))|exact abP _ (agt ‹_› (ws2 _))|refine aS.rg fun _=>?_|refine aS.cb ?_ ?_|refine aS.br ?_ fun _ _=>?_|refine aS.bd fun _=>?_
theorem aqs(s:Bs)(a:Int):aS NR (nj F s a):=by
 unfold nj wx;refine aS.bd fun _=>aS.cb (aS.br (Qg _ _) fun _ h=>aS.ok h) (aS.lT fun _ rc hrc=>?_)
 repeat' first|exact aS.no|exact hrc _|exact aS.ok NE.nil|exact aS.ok ‹_› | exact Qg _ _|exact akL _ rfl|refine aS.rq ?_|refine aS.cb ?_ ?_|refine aS.br ?_ fun _ _=>?_|refine aS.bd fun _=>?_
def J8(F n:Nat):Prop:=(∀s a p l f,aS NR ((bV F n).1 s a p l f))/\(∀s a p l,aS NR ((bV F n).2.1 s a p l))/\(∀s a p l,aS NR ((bV F n).2.2.1 s a p l))/\(∀s a p l,aS NR ((bV F n).2.2.2.1 s a p l))/\(∀s a p l,aS NR ((bV F n).2.2.2.2.1 s a p l))/\(∀s a l,aS NR ((bV F n).2.2.2.2.2 s a l))
theorem aiG:∀n,J8 F n
 | 0=>⟨fun _ _ _ _ _=>aS.no,fun _ _ _ _=>aS.no,fun _ _ _ _=>aS.no,fun _ _ _ _=>aS.no,fun _ _ _ _=>aS.no,fun _ _ _=>aS.no⟩
 | n+1=>by
  obtain⟨h1,h2,h3,h4,h5,h6⟩:=aiG n;refine⟨fun s a p l f=>?_,fun s a p l=>?_,fun s a p l=>?_,fun s a p l=>?_,fun s a p l=>?_,fun s a l=>?_⟩
  ·show aS _ (y7 F (bV F n) s a p l f)
   unfold y7 wx;refine aS.lp (fun z=>NE z.2.1) NE.nil fun z hz rc hrc=>?_;have fin:aS NR (some (dL.mk z.2.1 z.1 0)):=aS.ok hz;refine aS.cb (aS.bd fun _=>aS.cb ?_ (aS.bd fun _=>aS.cb (aS.rq (hrc _ (NE.app hz (NE.one fun h=>nomatch h)))) (aS.bd fun _=>aS.bd fun _=>aS.br (h2 _ _ _ _) fun r hr=>aS.cb (aS.ok hr) ?_))) ?_
   ·exact aS.au
   ·refine aS.lp (fun z=>NE z.1) hz fun y hy rc' ni=>aS.cb (aS.rg fun g=>aS.cc (fun hk=>aS.rq (aS.bb (anf hy ?_) fun x hx=>ni _ hx)) (aS.rq (aS.rq (ni _ ?_)))) (hrc _ hy)
    ·simp only [cE,fL] at g
     have hi:y.2.toNat<r.fParts.length:=om;have hk:(r.fParts.getD (Int.toNat y.2) iM).fKind=1:=by simpa using hk
     rw [gd hi] at hk⊢;exact hr _ (gU hi) hk
    ·simp only [cE,fL] at g
     have hi:y.2.toNat<r.fParts.length:=om;show NE (y.1++[r.fParts.getD (Int.toNat y.2) iM]);rw [gd hi];exact NE.app hy (NE.one (hr _ (gU hi)))
   ·exact aS.au
  ·show aS _ (vE F (bV F n) s a p l)
   unfold vE wx;exact aS.au
  ·show aS _ (w9 F (bV F n) s a p l)
   unfold w9 wx;exact aS.au
  ·show aS _ (oZ F (bV F n) s a p l)
   unfold oZ wx;exact aS.au
  ·show aS _ (sC F (bV F n) s a p l)
   unfold sC wx;exact aS.jj aS.au fun _=>aS.au
  ·show aS _ (sB F (bV F n) s a l)
   unfold sB wx;exact aS.au
theorem akM(s:Bs):aS (fun r=>NE r.1) (uL F s):=by
 unfold uL wx;refine aS.cb (aS.ok NE.nil) (aS.bb (P:=NR) ((aiG F).1 _ _ _ _ _) fun r hr=>aS.cb (aS.ok NE.nil) (aS.ok hr))
theorem akN(l:J Bs):aS (fun r=>∀w∈r.1,NE w.fParts) (pU F l):=by
 unfold pU wx;refine aS.lp (fun z:J iK×Int=>∀w∈z.1,NE w.fParts) (fun _ h=>nomatch h) fun z hz rc hrc=>aS.bd fun _=>aS.cb (aS.rq (aS.cb (aS.ok fun _ h=>nomatch h) (aS.rq (aS.bb (akM _) fun r hr=>aS.cb (aS.ok fun _ h=>nomatch h) (aS.rq (hrc _ ?_)))))) (aS.ok hz);intro w hw;rcases qF.1 hw with hw|hw
 ·exact hz w hw
 ·obtain rfl:=nM.1 hw
  exact hr
theorem akO(j:uZ):aS (fun r=>∀w∈r.1,NE w.fParts) (uT F j):=by
 unfold uT wx;refine aS.bd fun _=>aS.bd fun _=>aS.bd fun _=>aS.cb (aS.ok fun _ h=>nomatch h) (aS.lT fun _ rc hrc=>aS.cb (aS.rq (aS.cb (aS.ok fun _ h=>nomatch h) (hrc _))) (aS.bb (akN _) fun r hr=>aS.bd fun _=>aS.bd fun _=>aS.cb (aS.ok fun _ h=>nomatch h) (aS.ok hr)))
theorem aS.ix{Q:R->Prop}{i:Int}{x:O R}(k:i.toNat<n->0<=i->aS Q x):aS Q (Go.RT.rq ((decide (0<=i))&&(decide (i<(n:Int)))) x):=aS.rg fun h=>by
 simp only [cE,fL] at h;exact k om h.1
theorem aS.cd{Q:R->Prop}{x y:O R}{p:Prop}{i:Decidable p}(a:p->aS Q x)(b:¬p->aS Q y):aS Q (cond (@decide p i) x y):=by
 by_cases h:p
 ·rw [cz h];exact a h
 ·rw [cf h];exact b h
def JF(p:TPart):Prop:=p.fKind=1\/p.fKind=2\/(p.fKind=3/\∀q∈p.fParts,q.fKind=1)
def agu(p:cQ):Int:=cond p.eR 1 (cond p.uf 2 0)
def yx(p:cQ)(x:TPart):J aD:=cond (x.fKind==1) [aD.mk x.fText (agu p)] (cond (x.fKind==2) [aD.mk x.fText 1] (cond (x.fParts.length==0) [aD.mk [] 1] (x.fParts.flatMap fun q=>[aD.mk q.fText 1])))
def JL(F n:Nat):Prop:=(∀l p s,(∀x∈l,JF x)->fm l<=1000->stop s=false->aS (fun r=>r=(l.flatMap (yx p),s)) ((aX F n).1 l p s))/\(∀x p s,JF x->wP x<=1000->stop s=false->aS (fun r=>r=(yx p x,s)) ((aX F n).2.1 x p s))
theorem adN(F:Nat):∀n,JL F n
 | 0=>⟨fun _ _ _ _ _ _=>aS.no,fun _ _ _ _ _ _=>aS.no⟩
 | n+1=>by
  obtain⟨h1,h2⟩:=adN F n;refine⟨fun l p s hl hw hs=>?_,fun x p s hx hw hs=>?_⟩
  ·show aS _ (kM F (aX F n) l p s)
   unfold kM wx;refine aS.lp (fun z=>∃k:Nat,z.2.1=(k:Int)/\k<=l.length/\z.1=(l.take k).flatMap (yx p)/\z.2.2=s) ⟨0,rfl,eA _,rfl,rfl⟩ ?_;rintro⟨o,_,s'⟩ ⟨k,rfl,hk,rfl,h5⟩ rc hrc;have h5:s=s':=h5.symm;subst h5;dsimp only at hrc⊢;have hll:=zR l;rw [tI,hs];by_cases hk:k<l.length
   ·rw [cz om,aC,aC,qB,aZ,bP hk,bZ]
    have hm:=hl _ (gU hk);rw [<-gd (d:=iM) hk] at hm;refine aS.bb (h2 _ p s hm (by have:=U7 hk;omega) hs) fun r hr=>aS.rq ?_;subst hr;rw [cw om];refine hrc _ ⟨k+1,rfl,hk,?_,rfl⟩;show _++_=_;rw [lB hk,Pr,gd hk];simp
   ·rw [cf om,aC,aK]
    exact aS.ok (by rw [tL om])
  ·show aS _ (j7 F (aX F n) x p s)
   unfold j7 yx wx
   cases e1:(x.fKind==1) with
   | true=>
    rw [aZ,aZ];refine aS.bb (P:=fun c=>c=agu p) ?_ fun c hc=>by subst hc;exact aS.ok rfl
    unfold nD agu wx
    cases p.eR with
    | true=>exact aS.ok rfl
    | false=>cases p.uf<;>exact aS.ok rfl
   | false=>
    cases e2:(x.fKind==2) with
    | true=>exact aS.ok rfl
    | false=>
     have hx:x.fKind=3/\∀q∈x.fParts,q.fKind=1:=by
      rcases hx with h|h|h
      ·rw [h] at e1;cases e1
      ·rw [h] at e2;cases e2
      ·exact h
     have e3:(x.fKind==3)=true:=by rw [hx.1];rfl
     rw [aK,aK,aK,aK,e3,aZ];refine aS.bb (h1 x.fParts (cQ.mk true false p.jB) s (fun q hq=>.inl (hx.2 q hq)) (by cases x with|mk a b c d e=>rw [wN] at hw;exact (by omega:fm e<=1000)) hs) fun r hr=>?_;subst hr
     have hfl:∀l:J TPart,(∀q∈l,q.fKind=1)->l.flatMap (yx (cQ.mk true false p.jB))=l.flatMap fun q=>[aD.mk q.fText 1]:=fun l=>by
      induction l with
      | nil=>intro _;rfl
      | cons a l ih=>
       intro h;rw [yl,yl,ih fun q hq=>h q (kf _ hq)];unfold yx;rw [h a qD];rfl
     rw [hfl _ hx.2];refine aS.lT fun i rc hrc=>aS.cd (fun h=>aS.ix fun hi h0=>?_) fun _=>?_
     ·have hq:=hx.2 _ (gU hi)
      have:rz F (x.fParts.getD i.toNat iM)=some false:=by
       unfold rz wx;rw [gd hi,hq];rfl
      rw [this,aC,aK];exact hrc _
     ·cases hp:x.fParts with
      | nil=>exact aS.ok rfl
      | cons a l=>exact aS.ok si
def Vis(r:aD):Prop:=r.fText≠[]\/r.aN=1
def C01(l:J aD):Prop:=∀r∈l,r.aN=0\/r.aN=1
theorem adO{α:Type}{k:α->Int}:∀(l:J α)(f:J (J α))(n:J α),(∀x∈l,k x=0)->dS k 0 l f n=nU f (n++l)
 | [],f,n,_=>by rw [Yw];rfl
 | x::l,f,n,h=>by
  have hx:=h x qD;have:=adO l f (n++[x]) fun y hy=>h y (kf _ hy);simp only [dS,hx];rw [uX] at this;exact this
theorem XL:∀l o:J aD,mg (l.foldl stepG o)=mg o++mg l
 | [],o=>by simp [mg]
 | r::l,o=>by
  have:mg (stepG o r)=mg o++r.fText:=by
   rcases aec o with rfl|⟨p,x,rfl⟩
   ·simp [stepG,mg]
   ·rw [aed,FY]
    cases (x.aN==r.aN)<;>simp [mg]
  rw [yg,XL l,this,uX];simp [mg]
theorem Wz(s:Bs){r:aD}(h:r.aN=0\/r.aN=1):(∀e∈mI r,iA s e=0)/\EZ (mI r)=r.fText/\(Vis r->mI r≠[]):=by
 obtain⟨t,c⟩:=r;dsimp only at h
 have ht:EZ (t.map fun b=>aW.mk [b] c)=t:=by
  induction t with
  | nil=>rfl
  | cons b t ih=>unfold EZ at ih⊢;rw [jU,yl,ih];rfl
 have hk:∀e∈t.map fun b=>aW.mk [b] c,iA s e=0:=fun e he=>by
  obtain⟨b,-,rfl⟩:=rD.1 he;rcases h with rfl|rfl<;>rfl
 have he:mI (aD.mk t c)=cond (t==[]&&c==1) [aW.mk [] 1] []++t.map fun b=>aW.mk [b] c:=by rcases h with rfl|rfl<;>rfl
 rw [he]
 cases t with
 | nil=>
  refine⟨fun e he=>?_,?_,fun hv=>?_⟩
  ·rcases h with rfl|rfl
   ·cases he
   ·obtain rfl:=nM.1 he;rfl
  ·rcases h with rfl|rfl<;>rfl
  ·rcases hv with hv|hv
   ·exact absurd rfl hv
   ·rw [show c=1 from hv];simp
 | cons b t=>exact⟨hk,ht,fun _=>by simp⟩
theorem agv(l:J aD)(s:Bs)(hl:l.length<=100000)(hz:ck l<=5000000)(hc:C01 l)(hv:∃r∈l,Vis r)(hF:100000000<=F):∃f,mg f=mg l/\f.length<=6000000/\ck f<=6000000/\tq F l s=some [f]:=by
 have h1:∀e∈l.flatMap mI,iA s e=0:=fun e he=>by
  obtain⟨r,hr,he⟩:=Pp.1 he;exact (Wz s (hc r hr)).1 e he
 have h2:l.flatMap mI≠[]:=by
  obtain⟨r,hr,hv⟩:=hv;have:=(Wz s (hc r hr)).2.2 hv;intro h;exact this (List.flatMap_eq_nil_iff.1 h r hr)
 have h3:EZ (l.flatMap mI)=mg l:=by
  clear h1 h2 hv hz hl
  induction l with
  | nil=>rfl
  | cons r l ih=>
   have ih:=ih fun x hx=>hc x (kf _ hx);have:=(Wz s (hc r qD)).2.1;unfold EZ mg at *;rw [yl,Pr,this,ih,yl]
 have h4:xQ l s=[((l.flatMap mI).map rP).foldl stepG []]:=by
  unfold xQ;rw [adO _ _ _ h1,o9];revert h2
  cases l.flatMap mI with
  | nil=>intro h;exact absurd rfl h
  | cons a t=>intro _;rfl
 obtain⟨-,g⟩:=L6 l s om hz;have g:=g (((l.flatMap mI).map rP).foldl stepG []) (by rw [h4];exact nM.2 rfl);exact⟨_,by rw [XL,aix,h3];rfl,g.1,g.2,by rw [adL F l s hF om hz,h4]⟩
theorem akP(hq:p.eR=false)(ho:p.uf=false){l:J TPart}:C01 (l.flatMap (yx p)):=fun r hr=>by
 obtain⟨x,-,hx⟩:=Pp.1 hr;unfold yx agu at hx;rw [hq,ho] at hx;cases h1:(x.fKind==1)<;>rw [h1] at hx
 ·cases h2:(x.fKind==2)<;>rw [h2] at hx
  ·cases h3:(x.fParts.length==0)<;>rw [h3] at hx
   ·obtain⟨q,-,hq⟩:=Pp.1 (show r∈x.fParts.flatMap _ from hx)
    obtain rfl:=nM.1 hq;exact .inr rfl
   ·obtain rfl:=nM.1 (show r∈[aD.mk [] 1] from hx)
    exact .inr rfl
  ·obtain rfl:=nM.1 (show r∈[aD.mk x.fText 1] from hx)
   exact .inr rfl
 ·obtain rfl:=nM.1 (show r∈[aD.mk x.fText 0] from hx)
  exact .inl rfl
theorem akQ{p:cQ}{l:J TPart}(hl:∀x∈l,JF x)(h0:l≠[])(hn:NE l):∃r∈l.flatMap (yx p),Vis r:=by
 cases l with
 | nil=>exact absurd rfl h0
 | cons x l=>
  have h:∃r∈yx p x,Vis r:=by
   unfold yx
   cases h1:(x.fKind==1) with
   | true=>exact⟨_,nM.2 rfl,.inl (hn x qD (by simpa using h1))⟩
   | false=>
    cases h2:(x.fKind==2) with
    | true=>exact⟨_,nM.2 rfl,.inr rfl⟩
    | false=>
     rw [aK,aK]
     cases hp:x.fParts with
     | nil=>exact⟨_,nM.2 rfl,.inr rfl⟩
     | cons a b=>exact⟨aD.mk a.fText 1,si,.inr rfl⟩
  obtain⟨r,hr,hv⟩:=h;exact⟨r,Pp.2 ⟨x,qD,hr⟩,hv⟩
def rT(x:TPart):Bs:=cond (x.fKind==3) (x.fParts.flatMap fun q=>q.fText) x.fText
theorem abQ{p:cQ}:∀ {l:J TPart},(∀x∈l,JF x)->mg (l.flatMap (yx p))=l.flatMap rT
 | [],_=>rfl
 | x::l,h=>by
  have ih:=abQ (p:=p) fun y hy=>h y (kf _ hy);have hx:=h x qD
  have e:mg (yx p x)=rT x:=by
   unfold yx rT;rcases hx with e|e|⟨e,h3⟩<;>rw [e]
   ·simp [mg]
   ·simp [mg]
   ·cases hp:x.fParts with
    | nil=>rfl
    | cons a b=>simp [mg,List.flatMap_assoc]
  rw [yl,yl,<-e,<-ih];simp [mg]
theorem akR{l:J TPart}:(l.flatMap rT).length<=fm l:=by
 have hs:∀m:J TPart,(m.flatMap fun q=>q.fText).length<=fm m:=fun m=>by
  induction m with
  | nil=>exact eA _
  | cons a m ih=>
   cases a with|mk k t o c ps=>
   rw [yl,tM];show t.length+_<=(1+t.length+fm ps)+fm m;omega
 induction l with
 | nil=>exact eA _
 | cons a l ih=>
  cases a with|mk k t o c ps=>
  rw [yl,tM];have h1:=hs ps
  have h2:(rT (TPart.mk k t o c ps)).length<=t.length+fm ps:=by
   show (cond (k==3) (ps.flatMap fun q=>q.fText) t).length<=_;cases k==3
   ·show t.length<=_;omega
   ·show (ps.flatMap fun q=>q.fText).length<=_;omega
  show _<=(1+t.length+fm ps)+fm l;omega
theorem kq(hN:NC<=F)(hF:100000000<=F)(w:iK)(hw:fm w.fParts<=200)(h:mH s)(hs:stop s=false)(hg:NG s)(hl:∀x∈w.fParts,JF x)(h0:w.fParts≠[])(hn:NE w.fParts):
  iy F w (fQ fl s)=some ([w.fParts.flatMap rT],true,fQ fl s):=by
 obtain⟨⟨r1,ok1,x1⟩,b,⟨g1,g2,g3⟩,e1,e2⟩:=Y9 (fl:=fl) hN hF (Qe _ hF) F F w.fParts (dh.mk false true 0) (cQ.mk false false true) s ⟨rfl,rfl⟩ h hs om om om;have hb:=(adN F F).1 w.fParts (cQ.mk false false true) s hl om hs b e2;subst hb;dsimp only at g1 g2 g3;rcases g3 with⟨-,a1,j1⟩|⟨st,-⟩
 ·cases a1
  have q1:=j1.2 fun _=>rfl;subst q1;have hv:s.bX.bQ.length<=128:=g1.1.1.1.1
  have hX:∃v,((uh F s.bX.bQ ([73,70,83]:Bs)).bind fun x3=>(cond x3.2 (some x3.1.cL) (some false):O Bool).bind fun x4=>cond x4 (some x3.1.bS) (some ([32,9,10]:Bs)):O Bs)=some v:=by
   rw [abz F _ _ om om,aC]
   cases (jH s.bX.bQ [73,70,83]).2 with
   | false=>exact⟨_,rfl⟩
   | true=>rw [aZ,aC];cases (jH s.bX.bQ [73,70,83]).1.cL<;>exact⟨_,rfl⟩
  obtain⟨v,hv⟩:=hX;have b1:=g2.1;have b2:=g2.2;obtain⟨f,f1,f2,f3,ef⟩:=agv (F:=F) (w.fParts.flatMap (yx (cQ.mk false false true))) v om om (akP rfl rfl) (akQ hl h0 hn) hF;rw [abQ hl] at f1;have hT:pG F f=some (w.fParts.flatMap rT):=by rw [<-f1];exact RU F _ om om om
  have hlen:=akR (l:=w.fParts)
  have main:aA (fun r=>r=([w.fParts.flatMap rT],true,fQ fl s)) (iy F w (fQ fl s)):=by
   unfold iy wx;rw [show oy F w.fParts (dh.mk false true 0) (fQ fl s)=some (w.fParts.flatMap (yx (cQ.mk false false true)),true,fQ fl s) from e1,aC];dsimp only;have hx:(fQ fl s).bX=s.bX:=rfl;simp only [hx];rw [je,aK,hv,aC,ef,aC];refine aA.lp (fun i:Int=>∃k:Nat,i=(k:Int)/\k<=1) (fun i=>1-i.toNat) ⟨0,rfl,om⟩ (by show 1-0<F;omega) ?_;rintro _ ⟨k,rfl,hk⟩ rc hrc;by_cases hk:k<1
   ·obtain rfl:k=0:=om
    rw [cz si,cC si,show ([f].getD (Int.toNat ((0:Nat):Int)) [])=f from rfl,hT,aC,cf om,cw de];exact hrc _ ⟨1,rfl,ek _⟩ (aeo _)
   ·obtain rfl:k=1:=om
    rw [cf si];refine aA.lp (fun z:J Bs×Int=>∃k:Nat,z.2=(k:Int)/\k<=1/\z.1=[w.fParts.flatMap rT].take k) (fun z=>1-z.2.toNat) ⟨0,rfl,om,rfl⟩ (by show 1-0<F;omega) ?_;rintro⟨_,_⟩ ⟨k,rfl,hk,rfl⟩ rc' ni;dsimp only at ni⊢;by_cases hk:k<1
    ·obtain rfl:k=0:=om
     rw [cz si,cC si,show ([f].getD (Int.toNat ((0:Nat):Int)) [])=f from rfl,hg,aZ,hT,aC,cC si,cw de];exact ni _ ⟨1,rfl,ek _,rfl⟩ (aeo _)
    ·obtain rfl:k=1:=om
     rw [cf si];exact aA.ok rfl
  obtain⟨r,rfl,e⟩:=main;exact e
 ·rw [hs] at st;cases st
theorem ao1(hN:NC<=F)(hF:100000000<=F)(w:iK)(hw:fm w.fParts<=200)(he:Ro e)(hA:wZ e.bQ)(ho:(lD .i64 e.eB 8 != 0)=true)(hl:∀x∈w.fParts,JF x)(h0:w.fParts≠[])(hn:NE w.fParts):
  iW F e fl [w] []=some (gw.mk [w.fParts.flatMap rT] e false [] [] (-1),0):=by
 have hg:=aoZ (a:=[]) he hA (fun _ h=>nomatch h) (eA _)
 have main:aA (fun r=>r=(gw.mk [w.fParts.flatMap rT] e false [] [] (-1),0)) (iW F e fl [w] []):=by
  unfold iW wK wx;dsimp only [Option.bind_some];refine aA.lp (fun z:J Bs×Int×aL=>∃k:Nat,z.2=((k:Int),fQ fl (s0 e []))/\k<=1/\z.1=[w.fParts.flatMap rT].take k) (fun z=>1-z.2.1.toNat) ⟨0,rfl,om,rfl⟩ (by show 1-0<F;omega) ?_;rintro⟨_,_⟩ ⟨k,rfl,hk,rfl⟩ rc hrc;dsimp only at hrc⊢;by_cases hk:k<1
  ·obtain rfl:k=0:=om
   rw [cz si,cC si,show ([w].getD (Int.toNat ((0:Nat):Int)) vF)=w from rfl,kq hN hF w hw hg rfl ho hl h0 hn,aC,cw de];dsimp only;have e5:aB (((([w.fParts.flatMap rT].take 0).length:Nat):Int)+(([w.fParts.flatMap rT].length:Nat):Int))=1:=by simp;decide
   rw [aZ,e5,aC];exact hrc _ ⟨1,rfl,ek _,rfl⟩ (aeo _)
  ·obtain rfl:k=1:=om
   rw [cf si,abN F fl hg rfl om];exact aA.ok rfl
 obtain⟨r,rfl,e⟩:=main;exact e
theorem arF(F:Nat)(l:J TPart)(hF:1000<F)(hl:fm l<=200):aA (fun r=>r.2=true->(∀x∈l,JF x)/\r.1=l.flatMap rT) (zq F l):=by
 unfold zq wx;have hlen:=zR l;refine aA.lp (fun z:Bs×Int=>∃k:Nat,z.2=(k:Int)/\k<=l.length/\z.1.length<=fm (l.take k)/\(∀x∈l.take k,JF x)/\z.1=(l.take k).flatMap rT) (fun z=>l.length-z.2.toNat) ⟨0,rfl,eA _,si,si,rfl⟩ (by show l.length-0<F;omega) ?_;rintro⟨o,_⟩ ⟨k,rfl,h1,h2,h3,h4⟩ rc hrc;dsimp only at h2 h4 hrc⊢;refine aA.cd (fun h=>?_) fun h=>aA.ok fun _=>by rw [tL om] at h3 h4;exact⟨h3,h4⟩
 have hk:k<l.length:=om;have hw:=JP hk;have hm:=zB l (k+1);have ht:l.take (k+1)=l.take k++[l[k]]:=lB hk;rw [gd hk] at hw;rw [b9 om om,bx om,bZ,gd hk];have hone:=Dl l[k]
 have next:∀o':Bs,JF l[k]->o'=o++rT l[k]->o'.length<=fm (l.take (k+1))->aA (fun r=>r.2=true->(∀x∈l,JF x)/\r.1=l.flatMap rT) (rc (o',((k+1:Nat):Int))):=fun o' hx ho hol=>hrc _ ⟨k+1,rfl,hk,hol,fun y hy=>by
  rw [ht] at hy;rcases qF.1 hy with hy|hy
  ·exact h3 y hy
  ·obtain rfl:=nM.1 hy;exact hx,by
  show o'=_;rw [ht,Pr,<-h4,ho];simp⟩ (by show l.length-Int.toNat ((k+1:Nat):Int)<l.length-Int.toNat (k:Int);omega)
 revert next hone hw
 generalize l[k]=x;intro hw hone next
 simp only [aH,aC,bne]
 cases k3:(x.fKind==3) with
 | false=>
  cases k1:(x.fKind==1) with
  | true=>
   refine aA.rq (dW om) (next _ (.inl (eq_of_beq k1)) (by unfold rT;rw [k3];rfl) bz)
  | false=>
   cases k2:(x.fKind==2) with
   | true=>exact aA.rq (dW om) (next _ (.inr (.inl (eq_of_beq k2))) (by unfold rT;rw [k3];rfl) bz)
   | false=>exact aA.ok fun h=>nomatch h
 | true=>
  have e3:=eq_of_beq k3;have k1:(x.fKind==1)=false:=by rw [e3];rfl
  have k2:(x.fKind==2)=false:=by rw [e3];rfl
  rw [k1,k2];simp only [qB,je,aZ,aK];have hpl:=zR x.fParts;refine aA.lp (fun z:Bs×Int=>∃i:Nat,z.2=(i:Int)/\i<=x.fParts.length/\z.1=o++(x.fParts.take i).flatMap (fun q=>q.fText)/\(∀q∈x.fParts.take i,q.fKind=1)/\z.1.length<=o.length+fm (x.fParts.take i)) (fun z=>x.fParts.length-z.2.toNat) ⟨0,rfl,eA _,si,si,si⟩ (by show x.fParts.length-0<F;omega) ?_;rintro⟨o2,_⟩ ⟨i,rfl,i1,i2,i3,i4⟩ rc' ni;dsimp only at i2 i4 ni⊢;have hti:=zB x.fParts i;refine aA.cd (fun h=>?_) fun h=>?_
  ·have hi:i<x.fParts.length:=om
   have hwi:=JP hi;have ar8:=zB x.fParts (i+1);rw [gd hi] at hwi;have arU:=Dl x.fParts[i];rw [b9 om om,b9 om om,bx om,bZ,gd hi]
   cases q1:(x.fParts[i].fKind==1) with
   | false=>exact aA.ok fun h=>nomatch h
   | true=>
    refine aA.rq (dW om) (ni _ ⟨i+1,rfl,hi,?_,fun q hq=>?_,?_⟩ (by show x.fParts.length-Int.toNat ((i+1:Nat):Int)<x.fParts.length-Int.toNat (i:Int);omega))
    ·show o2++_=_
     rw [i2,DA _ _ _ hi,uX]
    ·rw [lB hi] at hq
     rcases qF.1 hq with hq|hq
     ·exact i3 q hq
     ·obtain rfl:=nM.1 hq;exact eq_of_beq q1
    ·show (o2++_).length<=_
     rw [tM];omega
  ·rw [tL om] at i2 i3 i4
   exact next _ (.inr (.inr ⟨e3,i3⟩)) (by show o2=_;rw [i2];unfold rT;rw [k3];rfl) (by show o2.length<=_;omega)
theorem arG{n:Int}(h:0<=n/\n<=255):(lD .i64 (J0 .i64 n 8) 8 != 0)=true:=by
 obtain⟨k,rfl⟩:∃k:_root_.Fin 256,n=((k.val:Nat):Int):=⟨⟨n.toNat,om⟩,by show n=((n.toNat:Nat):Int);omega⟩;revert k;decide +kernel
theorem akS(F:Nat)(hF:1000<F)(h:NoF e)(h2:e.bQ.length<=1000)(h3:e.cK.length<=1000):oX F e e=some true:=by
 obtain⟨f1,f2,f3⟩:=h;unfold oX wx;rw [f1,f2,f3,aiD F _ om om,ags F _ om om];simp
theorem aqu{l:J α}{k:Nat}(h:k<l.length):sl l (k:Int) ((k+1:Nat):Int)=[l[k]]:=by
 unfold sl;rw [bZ,bZ,lB h,akW (by rw [yj];omega),SK (by rw [yj];omega)];rfl
theorem expandPlain(j:uZ)(files:J bE)(h1:K.gG j.mJ.Ci)(h2:K.gG j.mJ.pz):∃F,kF F j files=some true:=by
 obtain⟨F,hN,hF⟩:∃F,NC<=F/\100000000<=F:=⟨NC+100000000,om,om⟩;refine⟨F,?_⟩;obtain⟨r,hr,e⟩:=anb F j hN hF h1 h2;have hne:=akO j r e;obtain⟨c,hc,ec⟩:=Zr F files om;unfold kF wx;simp only [Ll];rw [e,aC,ane,ec]
 cases hb:r.2 with
 | false=>rfl
 | true=>
  obtain⟨hfit,-,-,⟨a1,a2⟩,w1,w2⟩:=hr hb;have hge:=adM hfit h1 h2;have hA:=hfit.2.2.2.2.2.2.2.2.2;rw [je,aK,aC]
  cases hl:decide (40<(files.length:Int)) with
  | true=>rfl
  | false=>
   rw [aK]
   cases c with
   | false=>rfl
   | true=>
    rw [WK F files om (hc rfl)];simp only [aC,je,aK]
    cases hz:(gW files != 0) with
    | true=>rfl
    | false=>
     rw [aK];obtain⟨x,hx⟩:∃x:eH,x={j.mJ with eB:=J0 .i64 j.mJ.eB 8}:=⟨_,rfl⟩;have ho:(lD .i64 x.eB 8 != 0)=true:=by rw [hx];exact arG hfit.2.2.2.2.2.1
     have Jf:Ro x:=by rw [hx];exact hge
     have hA':wZ x.bQ:=by rw [hx];exact hA
     rw [<-hx];obtain⟨y,y',⟨hxy,hs⟩,p1,p2⟩:=ao0 (DY:=j.p7) (DZ:=files) hN hF r.1 om (fun y hy=>by have:=w2 y hy;omega) Jf hA' ho a2 om;subst hxy;rw [p1,p2,aC,aC,aqq F om hs];simp only [aC,je,aK,M8];refine cN (fun s:Int=>∃k:Nat,s=(k:Int)/\k<=r.1.length) (fun s=>r.1.length-s.toNat) ?_ F _ ⟨0,rfl,om⟩ bz;rintro _ ⟨k,rfl,hk⟩;by_cases hk:k<r.1.length
     ·left
      refine⟨_,⟨k+1,rfl,om⟩,bz,fun rc=>?_⟩;have hwk:=w2 _ (gU hk);obtain⟨q,hq,eq⟩:=arF F (r.1[k]).fParts om om;rw [cz om,bP hk,bP hk,bZ,gd hk,eq,aC,cw om]
      cases q2:q.2 with
      | false=>rfl
      | true=>
       obtain⟨g1,g2⟩:=hq q2;rw [je,aK,aC];by_cases hn:(r.1[k]).fParts=[]
       ·rw [hn];rfl
       ·have hn0:((((r.1[k]).fParts).length:Int)==0)=false:=by
         have:=zu.2 hn;exact gK.2 om
        rw [hn0,aK,xS om om om,aqu hk,ao1 hN hF r.1[k] om Jf hA' ho g1 hn (hne _ (gU hk)),aC,aC];dsimp only;rw [akS F om Jf.2.2.2.2.2.2.2 (by have:=Jf.1.1;omega) (by have:=Jf.2.1;omega),g2];simp;rfl
     ·right
      intro rc;rw [cf om]
end Go.Proofs.YtpgbhdldcmcenaaGreatDoor
