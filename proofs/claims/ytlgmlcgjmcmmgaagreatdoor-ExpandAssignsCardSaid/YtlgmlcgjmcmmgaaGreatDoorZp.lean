import Derived.Test.YtlgmlcgjmcmmgaaGreatDoorEf
import Derived.Test.YtlgmlcgjmcmmgaaGreatDoorTx
import Derived.Test.YtlgmlcgjmcmmgaaGreatDoorSo
import Derived.Test.YtlgmlcgjmcmmgaaGreatDoorPe
set_option linter.all false
namespace Go.Proofs.YtlgmlcgjmcmmgaaGreatDoor
open Go.RT
set_option maxRecDepth 100000
def GN{α:Type}(S:α->Prop):Prop:=∀P:α->Nat->Prop,(∀a n m,n<=m->P a n->P a m)->(∀a,S a->∃N,P a N)->∃N,∀a,S a->P a N
theorem aaG:∀(k:Nat),GN (fun n=>n<k)
 | 0=>fun P hm h=>⟨0,fun a ha=>absurd ha (ac8 _)⟩
 | k+1=>fun P hm h=>by
  obtain⟨N,hN⟩:=aaG k P hm fun a ha=>h a om;obtain⟨M,hM⟩:=h k om;refine⟨N+M,fun a ha=>?_⟩;by_cases e:a=k
  ·grind
  ·exact hm _ N _ om (hN a om)
theorem Re{α β:Type}{S:α->Prop}{T:β->Prop}(hS:GN S)(f:α->β)(hf:∀b,T b->∃a,S a/\f a=b):GN T:=fun P hm h=>by
 obtain⟨N,hN⟩:=hS (fun a n=>T (f a)->P (f a) n) (fun a n m hnm h1 h2=>hm _ n m hnm (h1 h2)) (fun a ha=>by
  by_cases ht:T (f a)
  ·simp_all
  simp_all)
 refine⟨N,fun b hb=>?_⟩
 grind
theorem alo:GN (fun _:UInt8=>True):=Re (aaG 256) UInt8.ofNat fun b _=>⟨b.toNat,b.toNat_lt,si⟩
theorem Om{α β:Type}{S:α->Prop}{T:β->Prop}(hS:GN S)(hT:GN T):GN (fun p:α×β=>S p.1/\T p.2):=fun P hm h=>by
 obtain⟨N,hN⟩:=hS (fun a n=>∀b,T b->P (a,b) n) (fun a n m hnm h1 b hb=>hm _ n m hnm (h1 b hb)) fun a ha=>hT (fun b n=>P (a,b) n) (fun b n m hnm h1=>hm _ n m hnm h1) fun b hb=>h (a,b) ⟨ha,hb⟩;exact⟨N,fun p hp=>hN p.1 hp.1 p.2 hp.2⟩
theorem On{α:Type}{S:α->Prop}(hS:GN S):∀(k:Nat),GN (fun l:J α=>l.length<=k/\∀a∈l,S a)
 | 0=>fun P hm h=>by
  simp_all
 | k+1=>fun P hm h=>by
  obtain⟨M,hM⟩:=h [] ⟨fL _,fun _ h=>nomatch h⟩
  obtain⟨N,hN⟩:=Om hS (On hS k) (fun p n=>P (p.1::p.2) n) (fun p n m hnm h1=>hm _ n m hnm h1) fun p hp=>h _ ⟨by simp_all,fun a ha=>by
   grind⟩
  refine⟨N+M,fun l hl=>?_⟩
  cases l with
  | nil=>grind
  | cons a t=>exact hm _ N _ om (hN (a,t) ⟨hl.2 a (Mq),by simp_all,fun x hx=>hl.2 x (pT _ hx)⟩)
theorem Rf(k:Nat):GN (fun s:Bs=>s.length<=k):=Re (On alo k) id fun s hs=>⟨s,⟨hs,fun _ _=>trivial⟩,rfl⟩
theorem ajo:GN (fun l:J bV=>l.length<=128/\∀b∈l,b.fName.length<=60/\b.bJ.length<=4096):=
 On (Re (Om (Rf 60) (Rf 4096)) (fun p=>bV.mk p.1 p.2) fun b hb=>⟨(b.fName,b.bJ),hb,rfl⟩) 128
end Go.Proofs.YtlgmlcgjmcmmgaaGreatDoor
namespace Go.Proofs.YtlgmlcgjmcmmgaaGreatDoor.K
open Go.RT
theorem alp{e:TExpr}(ho:ic e){l:J cw}(hl:l.length<=1000)(hb:QW l):gw (vX e l).1:=by
 have z:gw 0:=by unfold gw;decide
 unfold vX
 cases hv:(gW e 0 != 0) with
 | true=>exact z
 | false=>
  have iZ:gW e 0=0:=by simpa using hv
  have g:Good e:=⟨HD e 0 iZ,ho,Tm e (HD e 0 iZ)⟩;obtain⟨k1,k2⟩:=NN e g _ _ (F7 hb)
  grind
theorem ajp{I:Env->Prop}(hI:∀m k n,I m->I (jq cL m k (Lib.itoa n))):∀(e:TExpr)(m:Env),I m->I (kC e m).2.2:=by
 intro e
 induction e using TExpr.ind with
 | h op n name kids ih=>
  intro m hm;rw [Tk];show I (evB op n name (kids.map kC) m).2.2
  have hk:∀(i:Nat)(m:Env),I m->I ((kids.map kC).getD i dK m).2.2:=fun i m hm=>by
   by_cases h:i<kids.length
   ·simp_all
   ·rw [ac7,T9 (by simpa using h)];exact hm
  unfold evB II NM aaj
  grind
theorem ahf(e:TExpr)(l:J cw):∀b∈(vX e l).2.1,b.bJ≠[]\/b∈l:=by
 have nd:∀u:Nat,Lib.decDigits u≠[]:=fun u=>by
  rw [Lib.decDigits];split<;>simp
 have nn:∀n:Int,Lib.itoa n≠[]:=fun n=>by
  unfold Lib.itoa
  grind
 have hI:=ajp (I:=fun m=>∀p∈m,p.2≠[]\/cw.mk p.1 p.2∈l) (fun m k n h p hp=>by
  rcases QT hp with rfl|hp
  ·exact .inl (nn n)
  ·exact h p hp) e (sY l) (by
  unfold sY
  have key:∀(k:J cw)(m:Env),(∀b∈k,b∈l)->(∀p∈m,p.2≠[]\/cw.mk p.1 p.2∈l)->∀p∈k.foldl (fun m b=>jq cL m b.fName b.bJ) m,p.2≠[]\/cw.mk p.1 p.2∈l:=by
   intro k
   induction k with
   | nil=>intro m _ h;exact h
   | cons b k ih=>
    intro m hk h;refine ih _ (fun c hc=>hk c (pT _ hc)) fun p hp=>?_;rcases QT hp with rfl|hp
    ·simp_all
    ·exact h p hp
  grind)
 intro b hb;unfold vX at hb;revert hb;cases (gW e 0 != 0)
 ·cases ((kC e (sY l)).2.1 != 0)
  ·intro hb
   obtain⟨k,hk,rfl⟩:=(BQ _ _).1 hb;rcases KM (kC e (sY l)).2.2 k ([]:Bs) with⟨p,hp,h1,h2⟩|⟨h1,_⟩
   ·have:=hI p hp
    rw [h1,h2] at this;exact this
   ·exact absurd hk h1
  ·intro hb;cases hb
 ·intro hb;cases hb
def TR(N:Nat)(s:Bs)(b:J cw):Prop:=∃r:Int×J cw×Int,(gw r.1/\r.2.1.length<=100000/\∀c∈r.2.1,c.bJ≠[]\/c∈b)/\∀F,N<=F->C2 F s b=some r/\Ao F s b=some r
theorem alq(s:Bs)(b:J cw)(hs:s.length<=4096)(hl:b.length<=128)(hb:QW b):∃N,TR N s b:=by
 obtain⟨x,⟨ho,hn⟩,hp⟩:=abP s hs;have h1:=aam ho om hb hn;have h2:=abN ho om hb hn;obtain⟨N,hN⟩:=hp.and (h1.and h2);refine⟨N,cond (x.2.2 != 0) (0,[],x.2.2) (vX x.1 b),?_,fun F hF=>?_⟩
 ·cases (x.2.2 != 0) with
  | true=>exact⟨show gw 0 by unfold gw;decide,fL _,fun _ h=>nomatch h⟩
  | false=>grind [alp,ag0,ahf]
 ·unfold C2 Ao
  grind [TExpr.eta]
theorem aaH:∃N,∀(s:Bs)(b:J cw),s.length<=4096->b.length<=128->QW b->TR N s b:=by
 obtain⟨N,hN⟩:=Om (Rf 4096) ajo (fun p n=>TR n p.1 p.2) (fun p n m hnm ⟨r,h1,h2⟩=>⟨r,h1,fun F hF=>h2 F om⟩) fun p hp=>alq p.1 p.2 hp.1 hp.2.1 hp.2.2;exact⟨N,fun s b h1 h2 h3=>hN (s,b) ⟨h1,h2,h3⟩⟩
noncomputable def NC:Nat:=Classical.choose aaH
theorem Vx:∀(s:Bs)(b:J cw),s.length<=4096->b.length<=128->QW b->TR NC s b:=Classical.choose_spec aaH
end Go.Proofs.YtlgmlcgjmcmmgaaGreatDoor.K
namespace Go.Proofs.YtlgmlcgjmcmmgaaGreatDoor
open Go.RT
noncomputable def NC:Nat:=K.NC
abbrev CJ(l:J bV):Prop:=∀b,b∈l->b.fName.length<=60/\b.bJ.length<=4096
theorem Vx(s:Bs)(b:J bV)(h1:s.length<=4096)(h2:b.length<=128)(h3:CJ b):∃r:Int×J bV×Int,(K.gw r.1/\r.2.1.length<=100000/\∀c∈r.2.1,c.bJ≠[]\/c∈b)/\∀F,NC<=F->C2 F s b=some r/\Ao F s b=some r:=K.Vx s b h1 h2 h3
set_option maxRecDepth 100000
def yJ(l:J bD):Prop:=l.Pairwise fun a b=>a.fName<b.fName
theorem Rg{F:Nat}(l:J bD)(p:bD->Bool){m:bD->O Bool}(hm:∀v,m v=some (p v))(hF:l.length<F)(hl:l.length<=1000):
  bU (σ:=Int) (fun bn x1=>cond (decide (x1<(l.length:Int))) (rq ((decide (0<=x1))&&(decide (x1<(l.length:Int)))) ((m (l.getD (Int.toNat x1) dS)).bind fun x3=>cond x3 (some x1) (bn (aB (x1+1))))) (some (-1))) F 0=some ((l.findIdx? p).elim (-1) fun i=>(i:Int)):=by
 rw [qh l (fun i=>(i:Int)) p (fun i _=>some (i:Int)) (some (-1)) (s:=(0:Int)) hF rfl (fun i h rc=>?_) (fun rc=>?_)]
 ·rw [Qu _ _ _ dS];cases l.findIdx? p<;>simp
 ·rw [cM om,bQ om om,ck,gd h,hm,aH,bh om]
 ·rw [cf om]
theorem Rh(p:bD->Bool):∀l:J bD,l.find? p=(l.findIdx? p).map fun i=>l.getD i dS
 | []=>rfl
 | x::l=>by
  rw [Mp,Xx,Rh p l];cases p x
  ·cases List.findIdx? p l<;>simp
  ·rfl
theorem Lc{p:bD->Bool}{l:J bD}{i:Nat}(h:l.findIdx? p=some i):i<l.length/\p (l.getD i dS)=true:=by
 grind [List.findIdx?_eq_some_iff_getElem,gd]
theorem ajq(F:Nat)(l:J bD)(n:Bs)(hF:l.length<F)(hl:l.length<=1000):yG F l n=some (j8 l n):=by
 unfold yG Ob j8;rw [Rg l (fun v=>v.fName==n) (m:=fun v=>K6 F v n) (fun v=>rfl) hF hl,Rh]
 cases h:l.findIdx? fun v=>v.fName==n with
 | none=>rfl
 | some i=>
  obtain⟨h1,-⟩:=Lc h
  simp_all [cM,rq,bQ]
theorem O1(F:Nat)(l:J bD)(i k:Nat)(v:bD)(hi:i+k<=l.length)(hl:l.length<=1000):qM F l (i:Int) (k:Int) [v]=some (l.take i++v::l.drop (i+k)):=by
 unfold qM;have e1:aB ((l.length:Int)+(([v]:J bD).length:Int))=((l.length+1:Nat):Int):=bI bH;have e2:aB ((i:Int)+(k:Int))=((i+k:Nat):Int):=bI om;have s1:sl l 0 (i:Int)=l.take i:=by simp [sl]
 have s2:sl l ((i+k:Nat):Int) (l.length:Int)=l.drop (i+k):=by grind [sl,Int.toNat_natCast,List.take_length]
 grind [cE,bQ,nI,Ja]
def gZ(l:J bD)(n:Bs):Nat×Bool:=match l.findIdx? fun v=>v.fName==n with
 | some i=>(i,true)
 | none=>match l.findIdx? fun v=>!(Op.bytesLess v.fName n||v.fName==n) with
  | some i=>(i,false)
  | none=>(l.length,false)
theorem ahg(F:Nat)(l:J bD)(n:Bs)(hF:l.length<F)(hl:l.length<=1000):Az F l n=some ((((gZ l n).1:Nat):Int),(gZ l n).2):=by
 unfold Az IX IY gZ;rw [Rg l (fun v=>v.fName==n) (m:=fun v=>Gp F v n) (fun v=>rfl) hF hl,Rg l (fun v=>!(Op.bytesLess v.fName n||v.fName==n)) (m:=fun v=>Gq F v n) (fun v=>rfl) hF hl]
 grind
theorem aaI(l:J bD)(n:Bs):(gZ l n).1+cond (gZ l n).2 1 0<=l.length:=by
 unfold gZ;split
 ·rename_i i h
  exact (Lc h).1
 ·split
  ·rename_i i h
   exact Nat.le_of_lt (Lc h).1
  ·exact ef _
theorem Wy{l:J bD}{n:Bs}:j8 l n=cond (gZ l n).2 (l.getD (gZ l n).1 dS,true) (bD.mk [] [] false false false,false):=by
 unfold gZ j8
 grind [Rh]
theorem TT{l:J bD}{n:Bs}(h:(gZ l n).2=true):(l.getD (gZ l n).1 dS).fName=n:=by
 unfold gZ at h⊢
 grind [Lc]
theorem Da(v:bD):∀(l:J bD),(∀x∈l,¬ x.fName=v.fName)->mz v l true=l
 | [],_=>rfl
 | x::l,h=>by
  have h1:(x.fName==v.fName)=false:=by simpa using h x Mq
  simp only [mz,h1,Bool.true_or];rw [Da v l fun y hy=>h y (pT _ hy)];rfl
theorem Fo(v:bD):∀ {l:J bD},yJ l->mz v l false=l.take (gZ l v.fName).1++v::l.drop ((gZ l v.fName).1+cond (gZ l v.fName).2 1 0)
 | [],_=>rfl
 | x::l,h=>by
  obtain⟨h1,h2⟩:=wI.1 h;rcases S9 x.fName v.fName with hx|hx|hx
  ·have b1:=(Kf _ _).2 hx
   have b2:(x.fName==v.fName)=false:=by simpa using fun e:x.fName=v.fName=>lI _ (e▸hx)
   have:=Fo v h2
   have e:gZ (x::l) v.fName=((gZ l v.fName).1+1,(gZ l v.fName).2):=by
    unfold gZ;rw [Xx,Xx,b2,b1]
    cases l.findIdx? fun y=>y.fName==v.fName with
    | some i=>simp
    | none=>cases l.findIdx? fun y=>!(Op.bytesLess y.fName v.fName||y.fName==v.fName)<;>simp
   rw [e];simp only [mz,b1,b2];rw [show (false || !true)=false from rfl,this,show (gZ l v.fName).1+1+cond (gZ l v.fName).2 1 0=((gZ l v.fName).1+cond (gZ l v.fName).2 1 0)+1 by omega];rfl
  ·have b1:Op.bytesLess x.fName v.fName=false:=(CC _ _).2 (by simp_all)
   have b2:(x.fName==v.fName)=true:=by simpa using hx
   have e:gZ (x::l) v.fName=(0,true):=by unfold gZ;grind
   simp only [mz]
   grind [Da,lI]
  ·have b1:=(CC _ _).2 fun h=>lI _ (qj h hx)
   have b2:(x.fName==v.fName)=false:=by grind
   have hy:∀y∈l,¬ y.fName=v.fName:=fun y hy e=>lI v.fName (qj hx (by grind))
   have e:gZ (x::l) v.fName=(0,false):=by
    unfold gZ
    grind
   simp [mz,b2]
   simp_all [Da]
theorem Ri{v:bD}:∀ {l:J bD},yJ l->yJ (mz v l false)
 | [],_=>by unfold yJ;exact ac2 _ _
 | x::l,h=>by
  obtain⟨h1,h2⟩:=wI.1 h;rcases S9 x.fName v.fName with hx|hx|hx
  ·have b1:=(Kf _ _).2 hx
   have b2:(x.fName==v.fName)=false:=by simpa using fun e:x.fName=v.fName=>lI _ (e▸hx)
   simp [mz,b1,b2];refine wI.2 ⟨fun y hy=>?_,Ri h2⟩;rcases Qq v l _ y hy with rfl|hy
   ·exact hx
   ·exact h1 y hy
  ·have b1:Op.bytesLess x.fName v.fName=false:=(CC _ _).2 (by simp_all)
   have b2:(x.fName==v.fName)=true:=by simpa using hx
   simp only [mz,b1,b2];rw [show (false || !false)=true from rfl,Da v l fun y hy e=>lI _ (by have:=h1 y hy;rw [hx,e] at this;exact this)];exact wI.2 ⟨fun y hy=>by simp_all,h2⟩
  ·have b1:=(CC _ _).2 fun h=>lI _ (qj h hx)
   have b2:(x.fName==v.fName)=false:=by grind
   simp only [mz,b1,b2];rw [show (false || !false)=true from rfl,Da v l fun y hy e=>lI v.fName (qj hx (by grind))];refine wI.2 ⟨fun y hy=>?_,h⟩;rcases ij.1 hy with rfl|hy
   ·exact hx
   ·exact qj hx (h1 y hy)
def GA(l:J bD):Prop:=GV l/\yJ l
theorem GA.len{l:J bD}(h:GA l):l.length<=128:=h.1.1
theorem apT(F:Nat){l:J bD}(h:GA l)(n v:Bs)(hF:1000<F):∃r,GA r.1/\sg F l n v=some r/\Gr F l n v=some r:=by
 have hl:=h.1.1;obtain⟨r0,h0,e0⟩:=anT F h.1 n v hF;refine⟨r0,?_⟩;obtain⟨b,hb,eb⟩:=Ed F n om;unfold sg at e0⊢;unfold Gr;rw [K.F3 F n om,eb];rw [xP F l n om om] at e0⊢;rw [eb] at e0
 cases b with
 | false=>
  grind
 | true=>
  have hle:=aaI l n;have hgt:=Wy (l:=l) (n:=n);have hnm:=TT (l:=l) (n:=n);have hat:=fun a (b c d:Bool)=>(Ox F l (bD.mk n a b c d) om om).trans (congrArg some (Fo (bD.mk n a b c d) h.2));have wV:=fun a (b c d:Bool)=>Fo (bD.mk n a b c d) h.2▸Ri h.2;rw [ahg F l n om om];rw [hgt] at e0⊢;dsimp only at hat wV hnm⊢;generalize gZ l n=q at hle hgt hnm hat wV e0⊢;obtain⟨i,b⟩:=q
  cases b with
  | false=>
   dsimp at hle hat wV e0⊢;by_cases h4:4096<v.length
   ·grind
   rw [cf om] at e0⊢;rw [cf om];simp at e0⊢;by_cases h5:128<=l.length
   ·grind
   rw [cf om] at e0⊢;rw [hat] at e0⊢;cases e0;refine⟨⟨h0,wV _ _ _ _⟩,rfl,?_⟩;rw [cf om,show ((0:Int))=((0:Nat):Int) from rfl,O1 F l i 0 _ om om]
   rfl
  | true=>
   dsimp only [cond_false,cond_true,Option.bind_some] at hle hat wV hnm e0⊢;rw [bQ om om,ck];generalize l.getD i dS=o at hnm e0⊢
   cases hr:o.kZ with
   | true=>
    grind
   | false=>
   rw [hr] at e0;by_cases h4:4096<v.length
   ·grind
   rw [cf om] at e0⊢;rw [cf om];rw [hat] at e0⊢;cases e0;refine⟨⟨h0,wV _ _ _ _⟩,rfl,?_⟩;rw [bQ om om,show ((1:Int))=((1:Nat):Int) from rfl,O1 F l i 1 _ om om]
   simp_all
theorem aoO(F:Nat){l:J bD}(h:GA l)(n:Bs)(a b:Bool)(hF:1000<F):∃r,GA r.1/\qi F l n a b=some r/\C3 F l n a b=some r:=by
 have hl:=h.1.1;obtain⟨r0,h0,e0⟩:=al3 F h.1 n a b hF;refine⟨r0,?_⟩;obtain⟨c,hb,eb⟩:=Ed F n om;unfold qi at e0⊢;unfold C3;rw [K.F3 F n om,eb];rw [eb] at e0
 cases c with
 | false=>
  grind
 | true=>
  rw [xP F l n om om] at e0⊢;have hle:=aaI l n;have hgt:=Wy (l:=l) (n:=n);have hnm:=TT (l:=l) (n:=n);have hat:=fun a (b c d:Bool)=>(Ox F l (bD.mk n a b c d) om om).trans (congrArg some (Fo (bD.mk n a b c d) h.2));have wV:=fun a (b c d:Bool)=>Fo (bD.mk n a b c d) h.2▸Ri h.2;rw [ahg F l n om om];rw [hgt] at e0⊢;dsimp only at hat wV hnm⊢;generalize gZ l n=q at hle hgt hnm hat wV e0⊢;obtain⟨i,c⟩:=q
  cases c with
  | false=>
   dsimp at hle hat wV e0⊢;simp at e0⊢;by_cases h5:128<=l.length
   ·grind
   rw [cf om] at e0⊢;rw [hat] at e0⊢;cases e0;refine⟨⟨h0,wV _ _ _ _⟩,rfl,?_⟩;rw [cf om,show ((0:Int))=((0:Nat):Int) from rfl,O1 F l i 0 _ om om]
   rfl
  | true=>
   dsimp only [cond_false,cond_true,Option.bind_some] at hle hat wV hnm e0⊢;rw [bQ om om];simp [aK] at e0⊢;rw [hat] at e0⊢;cases e0;refine⟨⟨h0,wV _ _ _ _⟩,rfl,?_⟩;rw [show ((1:Int))=((1:Nat):Int) from rfl,O1 F l i 1 _ om om]
   simp_all
def pO:Nat->Bs->Nat
 | a,[]=>a
 | a,b::l=>pO (10*a+(b.toNat-48)) l
def Ba(b:UInt8):Bool:=decide (48<=b.toNat)&&decide (b.toNat<=57)
theorem Vy:∀(l:Bs)(a:Nat),a*10^l.length<=pO a l
 | [],a=>Nat.le_of_eq (Rp a)
 | b::l,a=>by
  have:=Vy l (10*a+(b.toNat-48))
  have h2:a*10^(l.length+1)<=(10*a+(b.toNat-48))*10^l.length:=by
   rw [Nat.pow_succ,Xr (10^l.length)]
   grind
  show a*10^(l.length+1)<=pO (10*a+(b.toNat-48)) l
  grind
theorem alr(l:Bs)(a:Nat):a<=pO a l:=by
 have:=Vy l a;have h:=acZ a (Nat.pow_pos (n:=l.length) (by decide:0<10));omega
theorem Rj:∀(l m:Bs)(a:Nat),pO a (l++m)=pO (pO a l) m
 | [],m,a=>rfl
 | b::l,m,a=>Rj l m _
theorem Wz(s:Bs){k:Nat}(h:k<s.length):pO 0 (s.take (k+1))=10*pO 0 (s.take k)+(s[k].toNat-48):=by
 rw [qA h,Rj];rfl
theorem ahh(s:Bs)(k:Nat):pO 0 (s.take k)<=pO 0 s:=by
 grind [List.take_append_drop,Rj,alr]
def AJ(s:Bs):Int×Bool:=if s.all Ba=true/\pO 0 s<=2147483647 then ((pO 0 s:Nat),true) else (0,false)
theorem aaJ{s:Bs}{k:Nat}(h:k<s.length)(ha:(s.take k).all Ba=true)(hd:Ba s[k]=true):(s.take (k+1)).all Ba=true:=by
 grind [List.take_succ_eq_append_getElem]
theorem Vz{s:Bs}{k:Nat}(h:k<s.length)(hd:Ba s[k]=false):AJ s=(0,false):=by
 unfold AJ
 grind
theorem apU(F:Nat)(s:Bs)(hF:s.length<F)(hl:s.length<=1000)(h0:s≠[])(h1:s.getD 0 0≠48):pJ F s=some (AJ s):=by
 have:aA (fun r=>r=AJ s) (pJ F s):=by
  unfold pJ
  have e1:(s==[48])=false:=by
   grind
  have e2:(s==[])=false:=by simpa using h0
  have e3:(((s.getD 0 0).toNat:Int)==48)=false:=by
   have:(s.getD 0 0).toNat≠48:=fun h=>h1 (by apply UInt8.toNat_inj.1;rw [h];rfl)
   grind
  have:=yZ.2 h0;rw [e1,e2,aU,aU,r7 om,e3,aH,aU];refine aA.lp (fun z:Int×Bs×Int=>z.2.1=s/\∃k:Nat,z.2.2=(k:Int)/\k<=s.length/\(s.take k).all Ba=true/\z.1=(pO 0 (s.take k):Nat)/\pO 0 (s.take k)<=2147483647) (fun z=>s.length-z.2.2.toNat) ⟨rfl,0,rfl,om,rfl,rfl,fL _⟩ (by simp_all) ?_;rintro⟨x,s',p⟩ ⟨q1,k,q2,h2,h3,q3,h4⟩ rc hrc;have q1:=q1.symm;subst q1 q2 q3;rw [ck];by_cases hk:k<s.length
  ·have hb:Nat.blt k s.length=true:=Nat.ble_eq_true_of_le hk
   rw [hb,bw,K.agK,aH];have hgd:s.getD k 0=s[k]:=gd hk;by_cases hs:(s.getD k 0).toNat<128
   ·rw [K.NG hs]
    have hdd:K.fJ ((s.getD k 0).toNat:Int)=Ba s[k]:=by
     unfold K.fJ Ba;grind
    rw [hdd]
    cases hd:Ba s[k] with
    | false=>grind [aA.ok,Vz]
    | true=>
     have hd':=hd;unfold Ba at hd';rw [cx,fW,fW] at hd';have ev:=Wz s hk
     have e5:aB ((aB (10*((pO 0 (s.take k):Nat):Int)))+(aB (IntKind.wrap .i32 (((s.getD k 0).toNat:Int)-48))))=((pO 0 (s.take (k+1)):Nat):Int):=by
      rw [hgd,show IntKind.wrap .i32 ((s[k].toNat:Int)-48)=(s[k].toNat:Int)-48 from IntWalk.i32_in _ om,bI (x:=(s[k].toNat:Int)-48) om,bI (x:=10*_) om,bI om,ev];omega
     dsimp only;rw [e5];refine aA.cd (fun h=>aA.ok ?_) fun h=>hrc _ ⟨rfl,k+1,rfl,hk,aaJ hk h3 hd,rfl,om⟩ (by grind);have:=ahh s (k+1);unfold AJ;rw [if_neg om]
   ·have:=K.Wn hs
    have:K.fJ ((dec s k).1:Int)=false:=by
     unfold K.fJ;grind
    rw [this];refine aA.ok (Vz hk ?_).symm;unfold Ba;grind
  ·have hb:Nat.blt k s.length=false:=by
    cases h:Nat.blt k s.length with
    | false=>rfl
    | true=>exact absurd (lz h) hk
   rw [hb,aU];refine aA.ok ?_;unfold AJ
   grind
 obtain⟨r,h,e⟩:=this;rw [e,h]
theorem apV(F:Nat)(s:Bs)(hF:s.length<F)(hl:s.length<=1000)(h0:s≠[])(h1:s.getD 0 0≠48):lD F s=some (AJ s):=by
 have:aA (fun r=>r=AJ s) (lD F s):=by
  unfold lD;have e2:(s==[])=false:=by simpa using h0
  have e3:(((s.getD 0 0).toNat:Int)==48)=false:=by
   have:(s.getD 0 0).toNat≠48:=fun h=>h1 (by apply UInt8.toNat_inj.1;rw [h];rfl)
   grind
  have hp:=yZ.2 h0;rw [e2,aU,aH];refine aA.bd (P:=fun b=>b=decide (10<s.length)) (aA.cd (fun h=>aA.ok (by grind)) fun h=>?_) fun b hb=>?_
  ·grind [r7,aA.ok,decide_eq_false]
  subst hb;refine aA.cd (fun h=>aA.ok ?_) fun h=>?_
  ·unfold AJ
   rw [if_neg fun hh=>?_];have hall:=oR.1 hh.1
   obtain⟨a,l,rfl⟩:∃a l,s=a::l:=by cases s with
    | nil=>exact absurd rfl h0
    | cons a l=>exact⟨a,l,rfl⟩
   have ha:=hall a Mq;unfold Ba at ha;rw [cx,fW,fW] at ha;have hne:a.toNat≠48:=fun h=>h1 (by simp_all);have h5:=Vy l (10*0+(a.toNat-48));have h6:10^10<=10^l.length:=Nat.pow_le_pow_right de (by simp at h;omega);have h7:1*10^l.length<=(10*0+(a.toNat-48))*10^l.length:=yl _ om;have h8:pO 0 (a::l)=pO (10*0+(a.toNat-48)) l:=rfl
   grind
  ·refine aA.lp (fun z:Int×Int=>∃k:Nat,z.2=(k:Int)/\k<=s.length/\(s.take k).all Ba=true/\z.1=(pO 0 (s.take k):Nat)/\pO 0 (s.take k)<10^k) (fun z=>s.length-z.2.toNat) ⟨0,rfl,om,rfl,rfl,Nat.one_pos⟩ (by simp_all) ?_
   rintro⟨x,p⟩ ⟨k,q2,h2,h3,q3,h4⟩ rc hrc;dsimp only at q2 q3 hrc⊢;subst q2 q3;refine aA.cd (fun hk=>?_) fun hk=>?_
   ·have hk:k<s.length:=om
    have hgd:s.getD k 0=s[k]:=gd hk;rw [bQ om om,ck,K.Tc,aH,hgd]
    have hdd:K.fJ (s[k].toNat:Int)=Ba s[k]:=by
     unfold K.fJ Ba
     grind
    rw [hdd]
    cases hd:Ba s[k] with
    | false=>grind [aA.ok,Vz]
    | true=>
     have hd':=hd;unfold Ba at hd';rw [cx,fW,fW] at hd';have ev:=Wz s hk;have h10:10^k<=10^9:=Nat.pow_le_pow_right de om
     have e5:aB ((aB (10*((pO 0 (s.take k):Nat):Int)))+(aB (IntKind.wrap .u8 ((s[k].toNat:Int)-48))))=((pO 0 (s.take (k+1)):Nat):Int):=by
      rw [show IntKind.wrap .u8 ((s[k].toNat:Int)-48)=(s[k].toNat:Int)-48 from by
       show ((s[k].toNat:Int)-48)%256=_;omega,bI (x:=(s[k].toNat:Int)-48) om,bI (x:=10*_) om,bI om,ev]
      omega
     rw [kn,aU,bQ om om,e5,bh om];refine hrc _ ⟨k+1,rfl,hk,aaJ hk h3 hd,rfl,?_⟩ (by grind)
     grind
   ·rw [Ii om] at h3 h4⊢
    unfold AJ;refine aA.cd (fun h=>aA.ok ?_) fun h=>aA.ok ?_
    ·rw [if_neg om]
    grind
 obtain⟨r,h,e⟩:=this;rw [e,h]
def NoF(e:ec):Prop:=e.tj=[]/\e.nK=[]/\e.tn=[]
def WA(e:ec):Prop:=GV e.bP/\e.cA.length<=12/\(∀x∈e.cA,x.length<=60)/\e.fName.length<=60/\K.gw e.fC/\K.gw e.Bq/\K.gw e.og/\NoF e
def GS(s:aX):Prop:=WA s.cq/\(∀a∈s.eB,a.fText.length<=60)/\s.eB.length<=100/\∃u:Nat,s.fused=(u:Int)/\u<=s.eB.length
def stop(s:aX):Bool:=s.fe != 0||s.lu
def RB(k:Nat)(l:J aG):Prop:=l.length<=26*k/\cC l<=5000*k
theorem RB.one{k:Nat}{t:Bs}{c:Int}(hk:1<=k)(h:t.length<=5000*k):RB k [aG.mk t c]:=⟨bH,by simp [cC];omega⟩
theorem RB.nil{k:Nat}:RB k []:=⟨si,by simp [cC]⟩
theorem RB.mono{k j:Nat}{l:J aG}(h:RB k l)(hj:k<=j):RB j l:=⟨by have:=h.1;omega,by have:=h.2;omega⟩
theorem RB.app{k j:Nat}{l m:J aG}(h:RB k l)(h':RB j m):RB (k+j) (l++m):=⟨by have:=h.1;have:=h'.1;grind,by have:=h.2;have:=h'.2;rw [Bx];omega⟩
theorem qy(F:Nat)(s:aX):gE F s=some (stop s):=by unfold gE;rw [aK];rfl
theorem xN(F:Nat)(e:Int)(m:Bs)(s:aX):iT F e m s=some (cond (stop s) s {s with fe:=e,fy:=m}):=by
 unfold iT;grind [qy]
theorem ahi{s:aX}{e:Int}(he:e≠0)(m:Bs):stop (cond (stop s) s {s with fe:=e,fy:=m})=true:=by
 cases h:stop s with
 | true=>exact h
 | false=>show (e != 0||_)=true;simp_all
theorem O2(F:Nat)(p:dz):∃c,eo F p=some c:=by unfold eo;simp_all [aK]
theorem anm(F:Nat)(p:dz):∃c,pH F p=some c:=by unfold pH;simp_all [aK]
theorem ajr(F:Nat)(e:Int):aA (fun r=>r.length<=100) (Ap F e):=by
 exact aA.cb (fun _=>aA.ok de) fun _=>aA.cb (fun _=>aA.ok de) fun _=>aA.cb (fun _=>aA.ok de) fun _=>aA.cb (fun _=>aA.ok de) fun _=>aA.ok de
theorem ajs(F:Nat)(o:Int)(c s:Bool)(v:Bs):∃r,rV F o c s v=some r:=by unfold rV;simp_all [aK,aH]
theorem akd(F:Nat)(p:TPart):∃b,vk F p=some b:=by unfold vk;simp_all [aK,aH]
theorem aoP(F:Nat)(n:Int)(hF:30<=F)(h:K.gw n):∃r,r.length<=60/\dB F n=some r:=⟨_,K.vW h,K.JC F hF h⟩
theorem ahj(F:Nat)(l:J aG)(hF:l.length<F)(h1:l.length<=1000000000)(h2:cC l<=1000000000):Ak F l=some (l.flatMap fun r=>r.fText):=by
 have:aA (fun r=>r=l.flatMap fun r=>r.fText) (Ak F l):=by
  have hsz:∀k,((l.take k).flatMap fun r=>r.fText).length<=cC l:=fun k=>by
   have h:(l.flatMap fun r=>r.fText)=((l.take k).flatMap fun r=>r.fText)++((l.drop k).flatMap fun r=>r.fText):=by rw [<-ac9,Ua]
   have h2:cC l=(l.flatMap fun r=>r.fText).length:=by unfold cC;rw [List.length_flatMap]
   simp_all
  refine aA.lp (fun z=>∃k:Nat,z.2=(k:Int)/\k<=l.length/\z.1=(l.take k).flatMap fun r=>r.fText) (fun z=>l.length-z.2.toNat) ⟨0,rfl,om,si⟩ (by simp_all) ?_;rintro⟨_,_⟩ ⟨k,rfl,h3,rfl⟩ rc hrc;dsimp only at hrc⊢;refine aA.cd (fun h=>?_) fun h=>aA.ok (by grind);have hk:k<l.length:=om;have e1:((l.take (k+1)).flatMap fun r=>r.fText)=((l.take k).flatMap fun r=>r.fText)++l[k].fText:=by rw [agG _ _ _ hk]
  have h5:=hsz (k+1);rw [e1,yq] at h5;rw [bQ om om,ck,gd hk,bh om];exact aA.rq (decide_eq_true om) (hrc _ ⟨k+1,rfl,hk,e1.symm⟩ (by grind))
 obtain⟨r,h,e⟩:=this;rw [e,h]
theorem aoQ(F:Nat)(n:Bs)(hF:n.length<F)(hn:n.length<=1000):∃r,gC F n=some r:=by
 by_cases h:n=[]
 ·subst h;exact⟨0,rfl⟩
 have:=yZ.2 h;obtain⟨d,hd⟩:=Uh F n hF om;unfold gC;rw [r7 om]
 simp_all [aH,aK]
theorem als(F:Nat){e:ec}(h:WA e)(n:Bs)(hF:1000<F)(hn:n.length<=1000):aA (fun r=>r.1.length<=4096) (jM F e n):=by
 obtain⟨hV,hP,hP',hN,h1,h2,h3,-⟩:=h;have hl:=hV.1;unfold jM;obtain⟨p,hp⟩:=aoQ F n om om;rw [hp,aH,xP F e.bP n om om];refine aA.bd (Ed F n om) fun b _=>aA.cb (fun _=>?_) fun _=>?_
 ·exact aA.cb (fun _=>aA.ok de) fun _=>aA.ok (Ow hV n).2
 rw [aK];refine aA.cb (fun hc=>?_) fun _=>?_
 ·rw [cF,cx] at hc
  have c1:=ym hc.1;have c2:=ym hc.2;rw [bI om];refine aA.rq (jN om om) (aA.ok ?_);have hk:(p-1).toNat<e.cA.length:=om;rw [gd hk]
  grind
 refine aA.cb (fun _=>aA.ok (by grind)) fun _=>?_
 have dec:∀(m:Int),K.gw m->aA (fun r=>r.1.length<=4096) ((dB F m).bind fun x=>some (x,true)):=fun m hm=>by
  obtain⟨r,h1,h2⟩:=aoP F m om hm
  grind [aA.ok]
 refine aA.cb (fun _=>dec _ ⟨om,om⟩) fun _=>aA.cb (fun _=>dec _ h1) fun _=>aA.cb (fun _=>?_) fun _=>aA.cb (fun _=>dec _ h2) fun _=>?_
 ·grind [aA.bd,akt,aA.ok]
 rw [aK];refine aA.cb (fun _=>dec _ h3) fun _=>aA.cb (fun _=>?_) fun _=>aA.cb (fun _=>?_) fun _=>aA.ok de
 ·grind [aA.bd,afC,aA.ok]
 grind [aA.bd,afD,afC,aA.ok]
theorem alu(F:Nat){s:aX}(h:GS s)(n v:Bs)(p:dz)(hv:v.length<=4096)(hF:1000<F):aA (RB 1) (lR F n v p s):=by
 obtain⟨⟨hV,hP,hP',-⟩,-⟩:=h;unfold lR;simp only [aK];obtain⟨c,hc⟩:=O2 F p;rw [hc];refine aA.cb (fun _=>aA.ok (RB.one om om)) fun _=>?_;refine aA.lp (fun z=>∃k:Nat,z.2=(k:Int)/\k<=s.cq.cA.length/\z.1.length<=2*k/\cC z.1<=60*k) (fun z=>s.cq.cA.length-z.2.toNat) ⟨0,rfl,om,si,by simp [cC]⟩ (by grind) ?_;rintro⟨o,_⟩ ⟨k,rfl,h1,h2,h3⟩ rc hrc;refine aA.cd (fun h=>?_) fun _=>aA.ok ⟨om,om⟩;have hk:k<s.cq.cA.length:=om;have hx:=hP' _ (ko hk);refine aA.bd (P:=fun u=>u.length<=2*k+1/\cC u<=60*k) (aA.cd (fun _=>aA.rq (nI (by grind) de) (aA.ok ⟨bH,by rw [Bx];show cC o+0<=_;omega⟩)) fun _=>aA.ok ⟨om,h3⟩) fun u hu=>?_;rw [bQ om om,ck,gd hk,bh om];refine aA.rq (nI (by grind) de) (hrc _ ⟨k+1,rfl,hk,?_,?_⟩ (by grind))
 ·grind
 ·show cC (u++[aG.mk s.cq.cA[k] c])<=_;rw [Bx];simp [cC] at hu⊢;omega
theorem ann(F:Nat)(o:Int):Cw F o=wZ F o:=rfl
theorem ahk(g x:Bs):∀l:J Bs,l≠[]->Lib.join (l++[x]) g=Lib.join l g++(g++x)
 | [],h=>absurd rfl h
 | a::l,_=>by
  rw [yo,Lib.join_cons,Lib.join_cons];unfold Lib.joinTail;simp
theorem WB(l:J Bs)(g:Bs)(n:Nat)(hg:g.length<=1)(h:∀a∈l,a.length<=n):(Lib.join l g).length<=(n+1)*l.length:=by
 cases l with
 | nil=>simp [Lib.join_nil]
 | cons a r=>
  rw [Lib.join_cons]
  have h2:∀r:J Bs,(∀c∈r,c.length<=n)->(Lib.joinTail g r).length<=(n+1)*r.length:=fun r=>by
   unfold Lib.joinTail
   induction r with
   | nil=>intro _;simp
   | cons b r ih=>grind [List.mem_cons_self,List.mem_cons_of_mem,List.flatten_cons,List.length_append,List.length_cons,Nat.mul_succ]
  grind [List.mem_cons_of_mem,List.length_append,List.length_cons,Nat.mul_succ]
theorem aoR(F:Nat)(l:J Bs)(g:Bs)(hF:100<F)(h1:l.length<=12)(h2:∀x∈l,x.length<=60)(hg:g.length<=1):Eu F l g=some (Lib.join l g)/\sM F l g=some (Lib.join l g):=by
 have hlen:=WB l g 60 hg h2;constructor
 ·grind [Eu,bQ]
 have:aA (fun r=>r=Lib.join l g) (sM F l g):=by
  refine aA.lp (fun z=>∃k:Nat,z.2=(k:Int)/\k<=l.length/\z.1=Lib.join (l.take k) g) (fun z=>l.length-z.2.toNat) ⟨0,rfl,om,by simp [Lib.join_nil]⟩ (by grind) ?_;rintro⟨o,p⟩ ⟨k,q1,h3,q2⟩ rc hrc;dsimp only at q1 q2 hrc⊢;subst q1 q2
  have hj:(Lib.join (l.take k) g).length<=61*12:=by
   have a:=WB (l.take k) g 60 hg fun x hx=>h2 x (ada hx)
   grind
  refine aA.cd (fun h=>?_) fun h=>aA.ok (by grind);have hk:k<l.length:=om;have hx:=h2 _ (ko hk)
  have e1:Lib.join (l.take (k+1)) g=(if 0<k then Lib.join (l.take k) g++g else Lib.join (l.take k) g)++l[k]:=by
   rw [qA hk];by_cases h0:0<k
   ·rw [if_pos h0,ahk _ _ _ (fun e=>by have:=congrArg List.length e;simp_all),Fs]
   ·obtain rfl:k=0:=om
    simp [Lib.join_nil,Lib.join_cons,Lib.joinTail]
  refine aA.bd (P:=fun u=>u=if 0<k then Lib.join (l.take k) g++g else Lib.join (l.take k) g) (aA.cd (fun h0=>aA.rq (dQ om) (aA.ok (by rw [if_pos om]))) fun h0=>aA.ok (by rw [if_neg om])) fun u hu=>?_;have hul:u.length<=61*12+1:=by grind
  rw [bQ om om,ck,gd hk,bh om];refine aA.rq (decide_eq_true om) (hrc _ ⟨k+1,rfl,hk,by dsimp only;rw [e1,hu]⟩ (by grind))
 obtain⟨r,h,e⟩:=this;rw [e,h]
def spec(n:Bs):Bool:=[[64],[42],[35],[63],[45],[36],[33],[48]].contains n
theorem ahl:∀n:Fin 256,decide (0<=Lib.indexByte [64,42,35,63,45,36,33,48] (UInt8.ofNat n.val))=spec [UInt8.ofNat n.val]:=by decide +kernel
theorem aaK{n:Bs}(h:spec n=true):n.length=1:=by
 unfold spec at h;simp at h
 grind
theorem aoS(F:Nat)(n:Bs):yf F n=some (spec n):=by
 unfold yf;by_cases h:n.length=1
 ·obtain⟨b,rfl⟩:=Xn.1 h
  have hb:=ahl ⟨b.toNat,b.toNat_lt⟩
  have e:stringslite_Index F [64,42,35,63,45,36,33,48] [b]=some (Lib.indexByte [64,42,35,63,45,36,33,48] b):=by
   unfold stringslite_Index stringslite_IndexByte
   have e1:(([b]:Bs)==[64,42,35,63,45,36,33,48])=false:=by
    simp_all
   simp;show ((ibF F _ _).bind _)=_
   simp_all [ibF,ck]
  unfold strings_Contains strings_Index
  simp_all
 grind [beq_eq_false_iff_ne,aaK]
theorem afn(F:Nat)(hF:30<=F){n:Int}(h:K.gw n):ox F n=some (Lib.itoa n):=by
 unfold ox;rw [bQ h.1 h.2]
theorem apW(F:Nat)(e:ec)(hF:1000<F)(hl:e.bP.length<=128):qv F e=sN F e.bP:=by
 unfold qv mH sN;rw [ajq F _ _ om om,xP F _ _ om om]
 have hb:(j8 e.bP [73,70,83]).2=false->(j8 e.bP [73,70,83]).1=bD.mk [] [] false false false:=by
  unfold j8;cases e.bP.find? _<;>simp
 grind
theorem apX(F:Nat)(e:ec)(n:Bs)(hF:1000<F)(hl:e.bP.length<=128):mH F e n=some (cond (j8 e.bP n).1.cH ((j8 e.bP n).1.bJ,true) ([],false)):=by
 unfold mH;rw [ajq F _ _ om om]
 have hb:(j8 e.bP n).2=false->(j8 e.bP n).1=bD.mk [] [] false false false:=by
  unfold j8;cases e.bP.find? _<;>simp
 grind
theorem ano(F:Nat){e:ec}(h:WA e)(n:Bs)(hF:2000<F)(hn:n.length<=1000):xJ F e n=jM F e n:=by
 obtain⟨hV,hP,hP',hN,r1,r2,r3,-⟩:=h;have hl:=hV.1;have hj:=fun g hg=>aoR F e.cA g om hP hP' hg;have R:K.gw (e.cA.length:Int):=⟨om,om⟩;have I:=fun {x:Int}(h:K.gw x)=>afn F om h;have D:=fun {x:Int}(h:K.gw x)=>K.JC F om h;unfold xJ;rw [aoS,aH]
 cases hs:spec n with
 | true=>
  rw [bw,r7 (by have:=aaK hs;omega)];unfold spec at hs;simp only [XB,ij,Be,Bf] at hs;have fin:∀x:O (Bs×Bool),(x.bind fun x2=>some (x2.1,x2.2))=x:=fun x=>by cases x<;>rfl
  rw [fin];unfold vq jM gC;obtain⟨g,hg,eg⟩:=afD F hV om;obtain⟨m,rfl⟩:∃m,F=m+100:=⟨F-100,om⟩;rcases hs with rfl|rfl|rfl|rfl|rfl|rfl|rfl|rfl
  ·show ((Eu (m+100) e.cA [32]).bind _)=((sM (m+100) e.cA [32]).bind _)
   rw [(hj [32] de).1,(hj [32] de).2]
  ·show ((qv (m+100) e).bind _)=((sN (m+100) e.bP).bind _)
   grind [apW]
  ·show ((ox (m+100) _).bind _)=((dB (m+100) _).bind _)
   rw [I R,D R]
  ·show ((ox (m+100) _).bind _)=((dB (m+100) _).bind _)
   rw [I r1,D r1]
  ·show ((Cw (m+100) _).bind _)=((wZ (m+100) _).bind _)
   rw [ann]
  ·show ((ox (m+100) _).bind _)=((dB (m+100) _).bind _)
   rw [I r2,D r2]
  ·show cond (e.og==0) (some ([],false)) ((ox (m+100) e.og).bind _)=(Option.bind (some (e.og != 0)) fun x9=>cond x9 ((dB (m+100) e.og).bind fun bW=>some (bW,true)) (some ([],false)))
   grind
  ·rfl
 | false=>
  rw [aU]
  have ne:∀x,x∈([[64],[42],[35],[63],[45],[36],[33],[48]]:J Bs)->(n==x)=false:=fun x hx=>by
   rw [gO];intro h;subst h;have:spec n=true:=by unfold spec;exact XB.2 hx
   rw [this] at hs;cases hs
  have ends:∀(p:Int),¬ (0<p/\p<=e.cA.length)->gC F n=some p->eU F n=some false->jM F e n=some ([],false):=by
   intro p hp h1 h2;unfold jM;rw [h1,aH,h2,aH,aU,aK,aH]
   rw [show (cond (decide (0<p)) (decide (p<=(e.cA.length:Int))) false)=false from by
    simp_all]
   rw [ne [48] de,ne [35] de,ne [63] de,ne [45] de,ne [36] de,ne [33] de,ne [64] de,ne [42] de];rfl
  have ake:∀b,eU F n=some b->gC F n=some 0->((kJ F n).bind fun x5=>cond (!x5) (some ([],false)) ((mH F e n).bind fun x6=>some (x6.1,x6.2)))=jM F e n:=by
   intro b hb hp;rw [K.F3 F n om,hb,aH]
   cases b with
   | false=>rw [ends 0 om hp hb];rfl
   | true=>
    unfold jM;rw [hp,aH,hb,aH,bw,apX F e n om hl,xP F _ _ om om,aH,aH];cases (j8 e.bP n).1.cH<;>rfl
  obtain⟨b,-,hb⟩:=Ed F n om;by_cases h0:n=[]
  ·subst h0
   exact ake b hb rfl
  by_cases h1:n.getD 0 0=48
  ·have hp:=yZ.2 h0
   have hc:(((n.getD 0 0).toNat:Int)==48)=true:=by rw [h1];rfl
   have e1:pJ F n=some (0,false):=by
    unfold pJ;rw [ne [48] de,aU,show (n==[])=false from by simpa using h0,aU,r7 om,hc,aH];rfl
   obtain⟨d,hd⟩:=Uh F n om om
   have e2:gC F n=some 0:=by
    unfold gC;rw [hd,r7 om,hc]
    grind
   rw [e1,aH];exact ake b hb e2
  ·have hp:=yZ.2 h0
   have hc:(((n.getD 0 0).toNat:Int)==48)=false:=by
    rw [beq_eq_false_iff_ne];intro h;exact h1 (by apply UInt8.toNat_inj.1;grind)
   rw [apU F n om hn h0 h1,aH]
   have e2:gC F n=some (cond (AJ n).2 (AJ n).1 0):=by
    unfold gC;rw [apV F n om hn h0 h1,r7 om,hc,aH];simp only [aK,aH];unfold AJ
    grind
   cases hd:(AJ n).2 with
   | false=>
    simp_all
   | true=>
    rw [hd,bw] at e2;rw [bw]
    have hnm:eU F n=some false:=by
     unfold AJ at hd;split at hd
     ·rename_i hh
      have h8:=oR.1 hh.1 _ (ko (n:=0) hp);unfold Ba at h8;rw [cx,fW,fW] at h8;unfold eU;rw [show (n==[])=false from by simpa using h0,aU,aH,r7 om,K.Tc]
      have:K.fJ ((n.getD 0 0).toNat:Int)=true:=by
       unfold K.fJ;grind
      simp_all
     ·cases hd
    have Wi:0<=(AJ n).1/\(AJ n).1<=2147483647:=by
     unfold AJ;grind
    generalize (AJ n).1=d at e2 Wi⊢;rw [aK,aH];by_cases wW:0<d/\d<=e.cA.length
    ·rw [show (cond (decide (d<1)) true (decide ((e.cA.length:Int)<d)))=false from by grind,cond_false]
     unfold jM
     simp_all
    grind
def T2{A B:Type}(Q:A->B->Prop)(x:O A)(y:O B):Prop:=∃a b,Q a b/\x=some a/\y=some b
section
variable {A B C D σ τ : Type} {Q : A -> B -> Prop}
theorem T2.ok{a:A}{b:B}(h:Q a b):T2 Q (some a) (some b):=⟨a,b,h,rfl,rfl⟩
theorem T2.mono{P:A->B->Prop}{x:O A}{y:O B}(h:T2 P x y)(f:∀a b,P a b->Q a b):T2 Q x y:=by
 obtain⟨a,b,h,e⟩:=h;exact⟨a,b,f a b h,e⟩
theorem T2.bd{P:C->D->Prop}{x:O C}{y:O D}{f:C->O A}{g:D->O B}(h:T2 P x y)(k:∀a b,P a b->T2 Q (f a) (g b)):T2 Q (x.bind f) (y.bind g):=by
 obtain⟨a,b,h,rfl,rfl⟩:=h;exact k a b h
theorem T2.l{P:C->Prop}{x:O C}{y:O B}{f:C->O A}(h:aA P x)(k:∀a,P a->T2 Q (f a) y):T2 Q (x.bind f) y:=by
 obtain⟨a,h,rfl⟩:=h;exact k a h
theorem T2.r{P:D->Prop}{x:O A}{y:O D}{g:D->O B}(h:aA P y)(k:∀b,P b->T2 Q x (g b)):T2 Q x (y.bind g):=by
 obtain⟨a,h,rfl⟩:=h;exact k a h
theorem T2.ql{c:Bool}{x:O A}{y:O B}(h:c=true)(k:T2 Q x y):T2 Q (rq c x) y:=by subst h;exact k
theorem T2.qr{c:Bool}{x:O A}{y:O B}(h:c=true)(k:T2 Q x y):T2 Q x (rq c y):=by subst h;exact k
theorem T2.cb{c:Bool}{x x':O A}{y y':O B}(a:c=true->T2 Q x y)(b:c=false->T2 Q x' y'):T2 Q (cond c x x') (cond c y y'):=by
 grind
theorem T2.cl{c:Bool}{x x':O A}{y:O B}(a:c=true->T2 Q x y)(b:c=false->T2 Q x' y):T2 Q (cond c x x') y:=by
 grind
theorem T2.cr{c:Bool}{x:O A}{y y':O B}(a:c=true->T2 Q x y)(b:c=false->T2 Q x y'):T2 Q x (cond c y y'):=by
 grind
theorem T2.lp{b1:(σ->O A)->σ->O A}{b2:(τ->O B)->τ->O B}(P:σ->τ->Prop)(m:σ->Nat){F:Nat}{s:σ}{t:τ}(h0:P s t)(hF:m s<F)
  (hs:∀s t,P s t->∀r1 r2,(∀s' t',P s' t'->m s'<m s->T2 Q (r1 s') (r2 t'))->T2 Q (b1 r1 s) (b2 r2 t)):T2 Q (bU b1 F s) (bU b2 F t):=by
 induction F generalizing s t with
 | zero=>omega
 | succ F ih=>grind [bU]
end
def mL(s:aX):Prop:=GS s/\yJ s.cq.bP/\(s.lu=false->s.uq=[])
def iH(fl:J bt)(s:aX):aM:=aM.mk s.cq fl (s.eB.drop s.fused.toNat) s.jV false [] [] 0
def Fin(x:aM)(s:aX):Prop:=(s.fe≠0/\x.lu=false/\x.Ai=s.fe/\x.fy=s.fy)\/(s.fe=0/\x.lu=true/\x.uq=s.uq/\x.cq=s.cq/\x.jV=s.jV)
def RR{A:Type}(fl:J bt)(I:J A->Prop)(a:J A×Bool×aM)(b:J A×aX):Prop:=mL b.2/\I b.1/\((stop b.2=false/\a=(b.1,true,iH fl b.2))\/(stop b.2=true/\a.2.1=false/\Fin a.2.2 b.2/\a.1=[]))
def RA(fl:J bt)(a:Bool×aM)(b:aX):Prop:=mL b/\((stop b=false/\a=(true,iH fl b))\/(stop b=true/\a.1=false/\Fin a.2 b))
theorem RR.go{A:Type}{fl:J bt}{I:J A->Prop}{r:J A}{s:aX}(h:mL s)(hi:I r)(hs:stop s=false):RR fl I (r,true,iH fl s) (r,s):=⟨h,hi,.inl ⟨hs,rfl⟩⟩
theorem acJ{s:aX}(h:stop s=false):s.fe=0/\s.lu=false:=by
 unfold stop at h;simp_all
theorem anp{s:aX}{e:Int}{m:Bs}(he:e≠0):stop {s with fe:=e,fy:=m} = true:=by
 show (e != 0||s.lu)=true
 simp_all
theorem failed{fl:J bt}{s:aX}{e:Int}{m:Bs}(hs:stop s=false)(he:e≠0):stop (cond (stop s) s {s with fe:=e,fy:=m})=true/\Fin {iH fl s with Ai:=e,fy:=m} (cond (stop s) s {s with fe:=e,fy:=m}):=by
 rw [hs];exact⟨anp he,.inl ⟨he,rfl,rfl,rfl⟩⟩
theorem Rk{s:aX}(h:mL s)(e:Int)(m:Bs):mL (cond (stop s) s {s with fe:=e,fy:=m}):=by cases stop s<;>exact h
theorem RR.err{A:Type}{fl:J bt}{I:J A->Prop}{r:J A}{s:aX}{e:Int}{m:Bs}{x:aM}(h:mL s)(hi:I r)(hs:stop s=false)(he:e≠0)(hx:x={iH fl s with Ai:=e,fy:=m}):RR fl I ([],false,x) (r,cond (stop s) s {s with fe:=e,fy:=m}):=by
 subst hx;have:=failed (fl:=fl) (m:=m) hs he;exact⟨Rk h _ _,hi,.inr ⟨this.1,rfl,this.2,rfl⟩⟩
theorem J1(F:Nat)(m:Bs)(x:aM):gK F m x=some (false,{x with fy:=m,Ai:=32}):=rfl
theorem ahm(v:bD){l:J bD}(h:yJ l):v∈mz v l false:=by rw [Fo v h];simp
theorem get_mem{l:J bD}{n:Bs}{v:bD}(h:v∈l)(hn:v.fName=n):(j8 l n).2=true:=by
 unfold j8
 cases e:l.find? fun v=>v.fName==n with
 | none=>simp_all
 | some x=>rfl
theorem ajt(F:Nat){l:J bD}(h:GA l)(n v:Bs)(hF:1000<F){r:J bD×Int}(e:sg F l n v=some r)(h0:r.2=0):eU F n=some true/\(j8 r.1 n).2=true:=by
 have hl:=h.len;obtain⟨b,hb,eb⟩:=Ed F n om;unfold sg at e;rw [xP F l n om om,aH,eb,aH] at e
 cases b with
 | false=>grind
 | true=>
  refine⟨eb,?_⟩
  cases hr:(j8 l n).1.kZ with
  | true=>grind
  | false=>
   rw [hr] at e;by_cases h4:4096<v.length
   ·grind
   rw [cf om,aK,aH] at e
   cases h5:(cond (!(j8 l n).2) (decide (128<=(l.length:Int))) false) with
   | true=>grind
   | false=>
    rw [h5,Ox F l _ om om] at e;cases e;exact get_mem (ahm _ h.2) rfl
theorem alv(F:Nat){l:J bD}(h:GA l)(n:Bs)(hF:1000<F)(h1:eU F n=some true)(h2:(j8 l n).2=true){r:J bD×Int}(e:qi F l n true false=some r):r.2=0:=by
 have hl:=h.len;unfold qi at e;rw [h1,aH,kn,aU,xP F l n om om,aH,h2,kn,aU,aH,aK,aH,aK,aH,Ox F l _ om om] at e;cases e;rfl
theorem VA(F:Nat)(fl:J bt){s:aX}(h:mL s)(hs:stop s=false)(n v:Bs)(hF:1000<F):T2 (RA fl) (fm F n v (iH fl s)) (fA F n v s):=by
 have hA:GA s.cq.bP:=⟨h.1.1.1,h.2.1⟩;obtain⟨r,hr,e1,e2⟩:=apT F hA n v hF;unfold fm fA;rw [qy,aH,hs,e1,show Gr F (iH fl s).cq.bP n v=some r from e2,aH,aH];have go:∀l:J bD,GA l->T2 (RA fl) (cond ((0:Int) != 0) ((gi F 0 (iH fl s)).bind fun x5=>some (x5.1,x5.2)) (some (true,{iH fl s with cq:={(iH fl s).cq with bP:=l}}))) (some {s with cq:={s.cq with bP:=l}}):=fun l hl=>T2.ok ⟨⟨⟨⟨hl.1,h.1.1.2⟩,h.1.2⟩,hl.2,h.2.2⟩,.inl ⟨hs,rfl⟩⟩;by_cases h0:r.2=0
 ·rw [h0]
  show T2 _ (((cond ((mR .i64 s.cq.iy 32) != 0) ((C3 F r.1 n true false).bind fun x4=>some (x4.1,x4.2)) (some (r.1,0)):O (J bD×Int)).bind _)) ((cond ((mR .i64 s.cq.iy 32) != 0) ((qi F r.1 n true false).bind fun x5=>some x5.1) (some r.1):O (J bD)).bind _)
  cases hb:((mR .i64 s.cq.iy 32) != 0) with
  | false=>exact go r.1 hr
  | true=>
   obtain⟨q,hq,e3,e4⟩:=aoO F hr n true false hF;obtain⟨k1,k2⟩:=ajt F hA n v hF e1 h0;have hq0:=alv F hr n hF k1 k2 e3
   simp_all
 ·have hne:(r.2 != 0)=true:=by simpa using h0
  have ah5:(r.2==0)=false:=by simpa using h0
  rw [ah5,aU,aH,aU,aH];rw [hne,xN];have:=failed (fl:=fl) (m:=[]) hs h0;exact T2.ok ⟨Rk h _ _,.inr ⟨this.1,rfl,this.2⟩⟩
theorem apY(F:Nat)(fl:J bt){s:aX}(h:mL s)(hs:stop s=false)(x:TPart)(m:cQ)(p:dz)(hm:m.eY=p.eY)(hF:1000<F):T2 (RR fl (RB 1)) (mj F x m (iH fl s)) ((pQ F x.fText s).bind fun x7=>(eo F p).bind fun x8=>some ([aG.mk x7.1 x8],x7.2)):=by
 obtain⟨⟨hE,hA,hL,u,hu,hul⟩,wV⟩:=h;have hv:dU F m=eo F p:=by unfold dU eo;rw [hm]
 obtain⟨c,hc⟩:=O2 F p;unfold mj pQ;rw [hv,hc,hu];have hx:(iH fl s).eB=s.eB.drop u:=by unfold iH;simp_all
 rw [hx];by_cases hk:u<s.eB.length
 ·have hd:s.eB.drop u=s.eB[u]::s.eB.drop (u+1):=Mn hk
  have e0:(((s.eB.drop u).length:Int)==0)=false:=by grind
  have e1:sl (s.eB.drop u) 1 ((s.eB.drop u).length:Int)=s.eB.drop (u+1):=by
   grind [sl,Int.toNat_natCast,List.take_length,List.drop_drop]
  have e2:(s.eB.drop u).getD 0 Br=s.eB[u]:=by rw [hd];rfl
  have hln:0<(s.eB.drop u).length:=by grind
  rw [e0,aU,r7 om,bQ om om,e1,e2,cf om,bQ om om,ck,gd hk];have ha:=hA _ (ko hk);generalize s.eB[u]=a at ha⊢
  have key:T2 (fun (t:Bs)(y:Bs×aX)=>t.length<=60/\y=(t,{s with fused:=(((u+1:Nat)):Int),jV:=a.fC})) (qZ F a.fText [10]) (bU (σ:=Int) (R:=Bs×aX) (fun bn x1=>
    (cond (decide (0<x1))
    (rq ((decide (0<=aB (x1-1)))&&(decide (aB (x1-1)<((a.fText).length:Int)))) (some (((a.fText.getD (Int.toNat (aB (x1-1))) 0).toNat:Int)==10)))
    (some false):Option Bool).bind fun x3=>
    cond x3
    (bn (aB (x1-1)))
    (rq ((decide (0<=x1))&&(decide (x1<=(a.fText.length:Int)))) (some (sl a.fText 0 x1,{s with fused:=aB ((u:Int)+1),jV:=a.fC})))) F (a.fText.length:Int)):=by
   have fin:∀k:Nat,k<=a.fText.length->T2 (fun (t:Bs)(y:Bs×aX)=>t.length<=60/\y=(t,{s with fused:=(((u+1:Nat)):Int),jV:=a.fC})) (some (a.fText.take k)) (rq ((decide (0<=(k:Int)))&&(decide ((k:Int)<=(a.fText.length:Int)))) (some (sl a.fText 0 (k:Int),{s with fused:=aB ((u:Int)+1),jV:=a.fC}))):=fun k hk=>by
    grind [T2.qr,jN,T2.ok,List.length_take,bh,sl,Int.toNat_natCast]
   unfold qZ;by_cases hz:a.fText=[]
   ·rw [hz] at fin⊢
    obtain⟨f,rfl⟩:∃f,F=f+1:=⟨F-1,om⟩;exact fin 0 (ef _)
   rw [show (a.fText==[])=false from by simpa using hz];show T2 _ ((ny F a.fText 10).bind fun x3=>some x3) _;have ret:∀x:Option Bs,(x.bind fun x3=>some x3)=x:=fun x=>by cases x<;>rfl
   rw [ret];unfold ny;refine T2.lp (fun (t:Bs)(i:Int)=>∃k:Nat,i=(k:Int)/\k<=a.fText.length/\t=a.fText.take k) (fun t=>t.length) ⟨_,rfl,ef _,by rw [Bb]⟩ om ?_;rintro t i ⟨k,rfl,h1,rfl⟩ r1 r2 hrc;have hlk:(a.fText.take k).length=k:=List.length_take_of_le h1;rw [hlk];by_cases h0:0<k
   ·rw [wM om om,cM om,bQ om om,cM om,bQ om om,aH,bQ om om,aH,ck]
    have eg:(a.fText.take k).getD (k-1) 0=a.fText.getD (k-1) 0:=by grind
    rw [eg];refine T2.cb (fun _=>?_) fun _=>fin k h1
    grind [sl,Int.toNat_natCast,Nat.min_eq_left,List.length_take]
   grind
  refine T2.bd key fun t y ⟨ht,hy⟩=>?_;subst hy;rw [aH,aH];refine T2.ok ⟨⟨⟨hE,hA,hL,u+1,rfl,hk⟩,wV⟩,RB.one om (by grind),.inl ⟨hs,?_⟩⟩;unfold iH
  grind
 ·have e0:(((s.eB.drop u).length:Int)==0)=true:=by simp_all
  rw [e0,bw,cM om,aH,aH];obtain⟨s1,s2⟩:=acJ hs;refine T2.ok ⟨⟨⟨hE,hA,hL,u,rfl,hul⟩,wV.1,fun h=>nomatch h⟩,RB.one om (fL _),.inr ⟨?_,rfl,.inr ⟨s1,rfl,rfl,rfl,rfl⟩,rfl⟩⟩;show (s.fe != 0||true)=true;rw [Bool.or_true]
theorem va(k v q z:Bs)(m:J (Bs×Bs)):fO cL (jq cL m k v) q z=if k=q then v else fO cL m q z:=by
 unfold jq fO cL
 cases ha:m.any fun p=>p.1==k with
 | false=>
  grind
 | true=>
  rw [bw]
  have hf:((fun p=>p.1==q) ∘ fun p=>bif p.1==k then (k,v) else p)=fun p=>p.1==q:=by
   grind
  cases e:m.find? fun p=>p.1==q with
  | none=>
   grind
  | some p=>
   grind
def rZ(l:J bD):J bV:=l.flatMap fun v=>cond v.cH [bV.mk v.fName v.bJ] []
def DF(b:J bV):J (Bs×Bs):=b.foldl (fun m x=>jq cL m x.fName x.bJ) []
theorem aju(l:J bD){k:Nat}(h:k<l.length):rZ (l.take (k+1))=rZ (l.take k)++cond l[k].cH [bV.mk l[k].fName l[k].bJ] []:=by
 unfold rZ;grind [List.take_succ_eq_append_getElem]
theorem alw{l:J bD}{b:bV}(h:b∈rZ l):∃v∈l,b=bV.mk v.fName v.bJ:=by
 unfold rZ at h
 grind
theorem VB:∀l:J bD,(rZ l).length<=l.length
 | []=>ef _
 | v::l=>by
  have:=VB l;unfold rZ at this⊢
  grind
theorem alx{l:J bD}(h:yJ l):(rZ l).Pairwise fun a b=>a.fName<b.fName:=by
 induction l with
 | nil=>exact .nil
 | cons v l ih=>
  obtain⟨h1,h2⟩:=wI.1 h;unfold rZ
  grind
theorem aly{l:J bD}(h:GV l):CJ (rZ l):=fun b hb=>by
 obtain⟨v,hv,rfl⟩:=alw hb;exact h.2 v hv
theorem alz{b:J bV}(h:b.Pairwise fun x y=>x.fName<y.fName)(hb:CJ b):K.sx (DF b)=b:=by
 have hE:=K.F7 hb;refine UX (f:=fun x:bV=>x.fName) (K.U0 hE.nd) h fun x=>?_
 have key:∀(k:J bV)(m:J (Bs×Bs)),(k.Pairwise fun x y=>x.fName<y.fName)->∀q:Bs,fO cL (k.foldl (fun m x=>jq cL m x.fName x.bJ) m) q []=(match k.find? fun x=>x.fName==q with|some x=>x.bJ|none=>fO cL m q []):=by
  intro k
  induction k with
  | nil=>intro m _ q;rfl
  | cons a k ih=>
   intro m hk q;obtain⟨h1,h2⟩:=wI.1 hk;rw [Dc,ih _ h2 q,Mp]
   cases e:k.find? fun x=>x.fName==q with
   | some y=>
    grind
   | none=>
    cases hq:(a.fName==q) with
    | true=>simp_all [tV,va,if_pos]
    | false=>simp_all [va,if_neg]
 have kk:∀(k:J bV)(m:J (Bs×Bs))(q:Bs),q∈(k.foldl (fun m x=>jq cL m x.fName x.bJ) m).map (·.1)↔q∈m.map (·.1)\/∃x∈k,x.fName=q:=by
  intro k
  induction k with
  | nil=>intro m q;simp
  | cons a k ih=>
   grind [xW,List.mem_cons_self,List.mem_cons_of_mem]
 have fnd:∀y∈b,b.find? (fun x=>x.fName==y.fName)=some y:=fun y hy=>by
  cases e:b.find? fun x=>x.fName==y.fName with
  | none=>grind
  | some z=>
   have hq:(z.fName==y.fName)=true:=adb (p:=fun x:bV=>x.fName==y.fName) e
   grind [List.pairwise_iff_getElem,List.getElem_of_mem,Nat.lt_trichotomy,lI]
 rw [K.BQ];constructor
 ·rintro⟨k,hk,rfl⟩
  rcases (kk b [] k).1 hk with h|⟨y,hy,rfl⟩
  ·cases h
  ·have:=key b [] h y.fName
   rw [fnd y hy] at this;unfold K.Bk;rw [show fO cL (DF b) y.fName []=y.bJ from this];exact hy
 ·intro hx
  refine⟨x.fName,(kk b [] _).2 (.inr ⟨x,hx,rfl⟩),?_⟩;have:=key b [] h x.fName;rw [fnd x hx] at this;unfold K.Bk;rw [show fO cL (DF b) x.fName []=x.bJ from this]
theorem aaL(m:J (Bs×Bs))(k:Bs):Dm cL m k=true↔k∈m.map (·.1):=by
 simp_all [Dm,cL,T4,yp]
theorem T2.lpe{A B σ τ ι:Type}{Q:A->B->Prop}{b1:(σ->O A)->σ->O A}{b2:(τ->O B)->τ->O B}(P:σ->τ->Prop)(m:σ->Nat)(E:ι->τ->Prop)(m2:τ->Nat)(R:ι->B->Prop){F:Nat}{s:σ}{t:τ}(h0:P s t)(hF:m s<F)
  (hs:∀s t,P s t->∀r1 r2,(∀s' t',P s' t'->m s'<m s->T2 Q (r1 s') (r2 t'))->(∀i t',E i t'->m2 t'<m s->aA (R i) (r2 t'))->T2 Q (b1 r1 s) (b2 r2 t))
  (he:∀i t,E i t->∀r2,(∀t',E i t'->m2 t'<m2 t->aA (R i) (r2 t'))->aA (R i) (b2 r2 t)):T2 Q (bU b1 F s) (bU b2 F t):=by
 induction F generalizing s t with
 | zero=>omega
 | succ F ih=>exact hs s t h0 (bU b1 F) (bU b2 F) (fun s' t' h1 h2=>ih h1 om) fun i t' h1 h2=>aA.lp (E i) m2 h1 om (he i)
theorem T2.map{A B D:Type}{Q:A->B->Prop}{x:O A}{y:O D}(f:D->B)(h:T2 (fun a d=>Q a (f d)) x y):T2 Q x (y.bind fun d=>some (f d)):=by
 obtain⟨a,d,h,e1,rfl⟩:=h;exact⟨a,f d,h,e1,rfl⟩
theorem alA(F:Nat)(e:Int):DA F e=Ap F e:=rfl
def RV(fl:J bt)(a:Bs×Bool×aM)(b:Bs×aX):Prop:=RR fl (fun t=>t.length<=10000000) a b/\(stop b.2=false->b.1.length<=4096)
theorem afo(F:Nat){s:aX}(h:stop s=true)(n v:Bs):fA F n v s=some s:=by
 unfold fA;simp_all [qy,aH]
theorem anq{F:Nat}(hN:NC<=F)(hF:100000000<=F)(fl:J bt)(g1:dP)(g2:iu)(x:TPart)(m:cQ)(p:dz)(hm:m.eY=p.eY)(s:aX)
  (hv:T2 (RV fl) (g1.2.2.2.2.1 x.fParts (cQ.mk true false 0) (iH fl s)) (g2.2.2.2.1 x.fParts true s)) :
  T2 (RR fl (RB 1)) (mI F g1 x m (iH fl s)) ((ua F g2 x.fParts s).bind fun x9=>(eo F p).bind fun bW=>some ([aG.mk x9.1 bW],x9.2)):=by
 obtain⟨c,hc⟩:=O2 F p;have iZ:dU F m=some c:=by rw [<-hc];unfold dU eo;rw [hm]
 unfold mI ua;rw [hc];obtain⟨⟨t0,ok,x'⟩,⟨t,s'⟩,⟨⟨hg,hi,hh⟩,hlen⟩,e1,e2⟩:=hv;rw [e1,e2];dsimp only at hg hi hh hlen;refine T2.map (fun x9:Bs×aX=>([aG.mk x9.1 c],x9.2)) ?_;rw [aH,aH];dsimp only;rw [qy,aH];rcases hh with⟨hs,hh⟩|⟨hs,hok,afp,-⟩
 ·cases hh
  have ht:=hlen hs;have hV:=hg.1.1.1;have hvl:=hV.1;rw [hs,kn,aU,aU,show (iH fl s').cq=s'.cq from rfl];have hb:=aly hV;have Jh:=VB s'.cq.bP;have hba:=alx hg.2.1;refine T2.lp (fun (z:J bV×Int×J (Bs×Bs))(y:J bV×Int)=>∃k:Nat,k<=s'.cq.bP.length/\z=(rZ (s'.cq.bP.take k),(k:Int),DF (rZ (s'.cq.bP.take k)))/\y=(rZ (s'.cq.bP.take k),(k:Int))) (fun z=>s'.cq.bP.length-z.2.1.toNat) ⟨0,fL _,rfl,rfl⟩ (by show s'.cq.bP.length-0<F;omega) ?_;rintro _ _ ⟨k,hk,rfl,rfl⟩ q1 q2 hrc;dsimp only at hrc⊢;have hkl:(rZ (s'.cq.bP.take k)).length<=k:=by have:=VB (s'.cq.bP.take k);rw [Qd] at this;omega
  by_cases hk1:k<s'.cq.bP.length
  ·have nx:=hrc _ _ ⟨k+1,hk1,rfl,rfl⟩ (by grind)
   have es:=aju s'.cq.bP hk1;rw [cM om,cM om];refine T2.ql (jN om om) (T2.qr (jN om om) ?_);rw [bh om,ck,gd hk1];have cp:∀(v:bV),((decide ((rZ (s'.cq.bP.take k)).length+([v]:J bV).length<=9223372036854775807))&&(decide (((rZ (s'.cq.bP.take k)).length+([v]:J bV).length)*32<=140737488355328)))=true:=fun v=>nI (by grind) de;refine T2.cb (fun lY=>?_) fun lY=>?_
   ·rw [lY,bw] at es
    rw [es] at nx;refine T2.ql (cp _) (T2.qr (cp _) ?_);unfold DF at nx;rw [Rq] at nx;exact nx
   simp_all
  ·rw [cf om,cf om,Ii om]
   have hE:=alz hba hb
   have hkeys:∀n:Bs,Dm cL (DF (rZ s'.cq.bP)) n=true↔∃a∈rZ s'.cq.bP,a.fName=n:=fun n=>by
    rw [aaL];have:∀x,x∈rZ s'.cq.bP↔∃k,k∈(DF (rZ s'.cq.bP)).map (·.1)/\x=K.Bk (DF (rZ s'.cq.bP)) k:=fun x=>by rw [<-K.BQ,hE]
    constructor
    ·intro h;exact⟨_,(this _).2 ⟨n,h,rfl⟩,rfl⟩
    ·rintro⟨a,ha,rfl⟩
     obtain⟨k,h1,h2⟩:=(this a).1 ha;rw [h2];exact h1
   have X8:∀n,pz F (rZ s'.cq.bP) n=some (fO cL (DF (rZ s'.cq.bP)) n []):=fun n=>by
    rw [K.NK F _ n om om,<-K.NL,hE]
   have akf:∀n,Dm cL (DF (rZ s'.cq.bP)) n=false->fO cL (DF (rZ s'.cq.bP)) n []=[]:=fun n h=>by
    grind [KM,aaL]
   generalize DF (rZ s'.cq.bP)=mp at hkeys X8 akf⊢;generalize rZ s'.cq.bP=b at hb Jh hkeys X8⊢;obtain⟨r,⟨hR,hL,hne⟩,hr⟩:=Vx t0 b ht om hb;rw [(hr F hN).1,(hr F hN).2,aH,aH];refine T2.cb (fun he=>?_) fun he=>?_
   ·have he0:r.2.2≠0:=by simpa using he
    obtain⟨w,hw,ew⟩:=ajr F r.2.2;rw [alA,ew,aH,aH];have l1:decide (t0.length+([58,32]:Bs).length<=9223372036854775807)=true:=dQ (by show t0.length+2<=_;omega);have l2:decide ((t0++([58,32]:Bs)).length+w.length<=9223372036854775807)=true:=decide_eq_true (by grind);refine T2.ql l1 (T2.qr l1 (T2.ql l2 (T2.qr l2 ?_)));rw [J1,xN];exact T2.ok (RR.err hg (RB.one om (fL _)) hs de rfl)
   ·refine T2.lpe (fun (z:Int×aM)(y:Int×aX)=>∃(k:Nat)(u:aX),k<=r.2.1.length/\mL u/\stop u=false/\z=((k:Int),iH fl u)/\y=((k:Int),u)) (fun z=>r.2.1.length-z.1.toNat) (fun (u:aX)(y:Int×aX)=>stop u=true/\y.2=u/\∃k:Nat,y.1=(k:Int)/\k<=r.2.1.length) (fun y=>r.2.1.length-y.1.toNat) (fun u (y:Bs×aX)=>y.2=u/\y.1.length<=60) ⟨0,s',fL _,hg,hs,rfl,rfl⟩ (by show r.2.1.length-0<F;omega) ?_ ?_
    ·rintro _ _ ⟨k,u,hk,hu,hsu,rfl,rfl⟩ q1 q2 hrc hex
     dsimp only at hrc hex⊢;by_cases hk1:k<r.2.1.length
     ·have hm:r.2.1.length-Int.toNat ((k+1:Nat):Int)<r.2.1.length-Int.toNat (k:Int):=om
      rw [cM om,cM om,bQ om om,bQ om om,bQ om om,bh om,ck,gd hk1,X8,aH];have hc1:=hne _ (ko hk1);generalize r.2.1[k]=a at hc1⊢
      have go:T2 (fun a d=>RR fl (RB 1) a ([aG.mk d.1 c],d.2)) ((fm F a.fName a.bJ (iH fl u)).bind fun bW=>cond (!bW.1) (some ([],false,bW.2)) (q1 (((k+1:Nat):Int),bW.2)))
        ((fA F a.fName a.bJ u).bind fun fB=>q2 (((k+1:Nat):Int),fB)):=by
       refine T2.bd (VA F fl hu hsu a.fName a.bJ om) ?_;rintro⟨ok,x2⟩ u2 ⟨hu2,⟨h1,h2⟩|⟨h1,h2,h3⟩⟩
       ·grind
       ·dsimp only at h2 h3
        subst h2;rw [sF,bw];obtain⟨y,⟨hy1,hy2⟩,hy⟩:=hex u2 (((k+1:Nat):Int),u2) ⟨h1,rfl,k+1,rfl,hk1⟩ hm;rw [hy];refine T2.ok ⟨?_,RB.one om om,.inr ⟨?_,rfl,?_,rfl⟩⟩
        ·show mL y.2;rw [hy1];exact hu2
        ·show stop y.2=true;rw [hy1];exact h1
        ·show Fin x2 y.2;rw [hy1];exact h3
      cases apZ:Dm cL mp a.fName with
      | true=>
       rw [bw,aH]
       cases qd:(fO cL mp a.fName []==a.bJ) with
       | true=>grind
       | false=>
        rw [aU,sF,bw,bQ om om,bQ om om]
        exact go
      | false=>
       rw [aU,aH,aU,akf _ apZ]
       have hnil:a.bJ≠[]:=hc1.resolve_right fun h=>by
        grind
       have:(([]:Bs)==a.bJ)=false:=by grind
       rw [this,sF,bw,bQ om om,bQ om om];exact go
     ·rw [cf om,cf om,afn F om hR,K.JC F om hR,aH,aH,iZ]
      have:=K.vW hR;exact T2.ok ⟨hu,RB.one om (by show (Lib.itoa r.1).length<=_;omega),.inl ⟨hsu,rfl⟩⟩
    ·rintro u ⟨_,_⟩ ⟨h1,rfl,k,rfl,hk⟩ q2 hrc
     dsimp only at h1 hrc⊢;refine aA.cd (fun h=>?_) fun _=>?_
     ·have hm:r.2.1.length-Int.toNat ((k+1:Nat):Int)<r.2.1.length-Int.toNat (k:Int):=om
      rw [bQ om om,bQ om om,bh om,ck,X8,aH];refine aA.cb (fun _=>?_) fun _=>hrc _ ⟨h1,rfl,k+1,rfl,om⟩ hm
      grind [bQ,afo]
     ·rw [K.JC F om hR]
      exact aA.ok ⟨rfl,K.vW hR⟩
 ·have hok:ok=false:=hok
  subst hok;rw [hs,bw,sF,bw];exact T2.ok ⟨hg,RB.one om (fL _),.inr ⟨hs,rfl,afp,rfl⟩⟩
def COk(m:cQ)(p:dz):Prop:=m.eY=false->m.mq=cond p.BS 2 0
def Mo(m:cQ)(p:dz):Prop:=m.eY=p.eY/\m.jW=p.jW
def JR(m:cQ)(p:dz)(a b:J aG):Prop:=a.map (·.fText)=b.map (·.fText)/\(COk m p->a=b)
def RJ(fl:J bt)(k:Nat)(m:cQ)(p:dz)(a:J aG×Bool×aM)(b:J aG×aX):Prop:=mL b.2/\RB k b.1/\((stop b.2=false/\a.2=(true,iH fl b.2)/\JR m p a.1 b.1)\/(stop b.2=true/\a.2.1=false/\Fin a.2.2 b.2/\a.1=[]))
theorem JR.eq{m:cQ}{p:dz}(a:J aG):JR m p a a:=⟨rfl,fun _=>rfl⟩
theorem RR.j{fl:J bt}{k j:Nat}{m:cQ}{p:dz}{a:J aG×Bool×aM}{b:J aG×aX}(h:RR fl (RB k) a b)(hk:k<=j):RJ fl j m p a b:=by
 obtain⟨h1,h2,⟨h3,h4⟩|h3⟩:=h
 ·exact⟨h1,h2.mono hk,.inl ⟨h3,by rw [h4],by rw [h4];exact JR.eq _⟩⟩
 ·exact⟨h1,h2.mono hk,.inr h3⟩
theorem RJ.rr{fl:J bt}{k:Nat}{m:cQ}{p:dz}{a:J aG×Bool×aM}{b:J aG×aX}(h:RJ fl k m p a b)(hc:COk m p):RR fl (RB k) a b:=by
 obtain⟨h1,h2,⟨h3,h4,h5⟩|h3⟩:=h
 ·exact⟨h1,h2,.inl ⟨h3,Prod.ext (h5.2 hc) h4⟩⟩
 ·exact⟨h1,h2,.inr h3⟩
theorem RJ.go{fl:J bt}{k:Nat}{m:cQ}{p:dz}{r:J aG}{s:aX}(h:mL s)(hi:RB k r)(hs:stop s=false):RJ fl k m p (r,true,iH fl s) (r,s):=⟨h,hi,.inl ⟨hs,rfl,JR.eq _⟩⟩
theorem akg(F:Nat){m:cQ}{p:dz}(h:m.eY=p.eY):dU F m=eo F p:=by unfold dU eo;rw [h]
def X1(fl:J bt)(F n:Nat):Prop:=∀(N:Nat)(l:J TPart)(m:cQ)(p:dz)(s:aX),Mo m p->mL s->stop s=false->fU l<=1000->9*fU l+9<=n->6*fU l+6<=N->T2 (RJ fl (fU l) m p) ((aV F n).1 l m (iH fl s)) ((bM F N).1 l p s)
def X2(fl:J bt)(F n:Nat):Prop:=∀(N:Nat)(x:TPart)(m:cQ)(p:dz)(s:aX),Mo m p->mL s->stop s=false->wP x<=1000->9*wP x+8<=n->6*wP x+5<=N->T2 (RJ fl (wP x) m p) ((aV F n).2.1 x m (iH fl s)) ((bM F N).2.1 x p s)
def XV(fl:J bt)(F n:Nat):Prop:=∀(N:Nat)(l:J TPart)(m:cQ)(q:Bool)(s:aX),m.eY=q->mL s->stop s=false->fU l<=1000->9*fU l+10<=n->6*fU l+7<=N->T2 (fun a b=>RV fl a b/\b.1.length<=5000*fU l) ((aV F n).2.2.2.2.1 l m (iH fl s)) ((bM F N).2.2.2.1 l q s)
section
variable {F n : Nat} {fl : J bt}
theorem alB(hF:100000000<=F)(h2:X2 fl F n):X1 fl F (n+1):=by
 intro N l m p s hm hs hst hl hn hN;obtain⟨N,rfl⟩:∃k,N=k+1:=⟨N-1,om⟩;have hll:=I9 l;show T2 _ (wB F (aV F n) l m (iH fl s)) (AR F (bM F N) l p s)
 refine T2.lpe (fun (z:J aG×Int×aM)(y:J aG×Int×aX)=>∃k:Nat,k<=l.length/\z.2=((k:Int),iH fl y.2.2)/\y.2.1=(k:Int)/\JR m p z.1 y.1/\RB (fU (l.take k)) y.1/\mL y.2.2/\stop y.2.2=false) (fun z=>l.length-z.2.1.toNat)
  (fun (u:aX×J aG)(y:J aG×Int×aX)=>stop u.1=true/\y.1=u.2/\y.2.2=u.1/\∃k:Nat,y.2.1=(k:Int)/\k<=l.length) (fun y=>l.length-y.2.1.toNat) (fun u (y:J aG×aX)=>y=(u.2,u.1)) ⟨0,Nat.zero_le _,rfl,rfl,JR.eq _,RB.nil,hs,hst⟩ (by grind) ?_ ?_
 ·rintro⟨a,i,x⟩ ⟨o,i',s⟩ ⟨k,h3,h4,h5,h6,h7,h8,h9⟩ q1 q2 hrc hex
  dsimp only at h4 h5 h6 h7 h8 h9 hrc hex⊢;cases h4;subst h5;have hwk:=J9 l k;rw [qy,h9];have jl:a.length=o.length:=by have:=congrArg List.length h6.1;simpa using this
  by_cases hk:k<l.length
  ·have hwm:=ab2 hk
   have ha:=RC hk;have Pu:l.length-Int.toNat ((k+1:Nat):Int)<l.length-Int.toNat (k:Int):=om;rw [cM om,cM om,aH,aH,sF,bw,bQ om om,bQ om om,bh om,ck,TPart.eta];refine T2.bd (h2 N (l.getD k kT) m p s hm h8 h9 om om om) ?_;rintro⟨r,ok,x'⟩ ⟨r',s'⟩ ⟨g1,g2,g3⟩;dsimp only at g1 g2 g3⊢;have h10:=RB.app h7 g2;rw [<-ha] at h10;have zo:=J9 l (k+1);have h11:=h10.1;rw [yq] at h11;have sz:∀a b:Nat,a+b<=26*1000->((decide (a+b<=9223372036854775807))&&(decide ((a+b)*24<=140737488355328)))=true:=fun a b h=>jN om om;rcases g3 with⟨k1,k2,k3⟩|⟨k1,k2,k3,-⟩
   ·cases k2
    have jr:r.length=r'.length:=by have:=congrArg List.length k3.1;simpa using this
    refine T2.ql (sz _ _ om) (T2.qr (sz _ _ om) (hrc _ _ ⟨k+1,hk,rfl,rfl,⟨?_,fun hc=>by rw [h6.2 hc,k3.2 hc]⟩,h10,g1,k1⟩ Pu));rw [J3,J3,h6.1,k3.1]
   ·subst k2
    refine T2.qr (sz _ _ om) ?_;obtain⟨y,rfl,hy⟩:=hex (s',o++r') (o++r',((k+1:Nat):Int),s') ⟨k1,rfl,rfl,k+1,rfl,hk⟩ Pu;rw [hy];exact T2.ok ⟨g1,h10.mono om,.inr ⟨k1,rfl,k3,rfl⟩⟩
  ·rw [cf om,cf om,aH,aU]
   rw [Ii om] at h7;exact T2.ok ⟨h8,h7,.inl ⟨h9,rfl,h6⟩⟩
 simp_all [qy,aA.ok]
theorem acK{a b:J aG}(h:a.map (·.fText)=b.map (·.fText)):Ji a=Ji b:=by
 unfold Ji
 grind
theorem alC{a b:J aG}(h:a.map (·.fText)=b.map (·.fText)):cC a=cC b:=by rw [<-Ff,<-Ff,acK h]
theorem acL(hF:100000000<=F)(h1:X1 fl F n):XV fl F (n+1):=by
 intro N l m q s hm hs hst hl hn hN;obtain⟨N,rfl⟩:∃k,N=k+1:=⟨N-1,om⟩;show T2 _ (wC F (aV F n) l m (iH fl s)) (DS F (bM F N) l q s);refine T2.bd (h1 N l {m with jW:=false} (dz.mk q false false) s ⟨hm,rfl⟩ hs hst hl om om) ?_;rintro⟨r,ok,x'⟩ ⟨r',s'⟩ ⟨g1,g2,g3⟩;dsimp only at g1 g2 g3⊢;have z1:=g2.1;have z2:=g2.2;have e18:=ahj F r' om om om;have etx:(r'.flatMap fun r=>r.fText)=Ji r':=rfl;rw [e18];have hlen:=Ff r';rcases g3 with⟨k1,k2,k3⟩|⟨k1,k2,k3,-⟩
 ·cases k2
  have jr:r.length=r'.length:=by have:=congrArg List.length k3.1;simpa using this
  have js:=alC k3.1;rw [kn,aU,ahX F r om om om,acK k3.1];refine T2.cb (fun h=>?_) fun h=>T2.ok ⟨⟨⟨g1,by grind,.inl ⟨k1,rfl⟩⟩,fun _=>?_⟩,by simp_all⟩
  ·rw [xN]
   refine T2.ok ⟨⟨RR.err g1 (by grind) k1 de rfl,fun h=>?_⟩,by simp_all⟩
   grind [ahi]
  grind
 ·subst k2
  rw [sF,bw,xN,k1,bw];refine T2.cr (fun _=>T2.ok ?_) fun _=>T2.ok ?_
  all_goals exact⟨⟨⟨g1,by grind,.inr ⟨k1,rfl,k3,rfl⟩⟩,fun h=>by rw [k1] at h;cases h⟩,by simp_all⟩
end
theorem aA.eqv{R:Type}{x:O R}{v:R}(h:aA (fun r=>r=v) x):x=some v:=by
 obtain⟨r,h,e⟩:=h;rw [e,h]
def qz(o:J aG)(r:aG):J aG:=cond (r.fText==[]) o (cond (decide (0<o.length)&&((o.getD (o.length-1) dc).bZ==r.bZ)) (o.set (o.length-1) (aG.mk ((o.getD (o.length-1) dc).fText++r.fText) (o.getD (o.length-1) dc).bZ)) (o++[r]))
def nF(l:J aG):J aG:=l.foldl qz []
theorem aaM:∀(l:J aG)(k:Nat)(t:Bs)(c:Int),k<l.length->cC (l.set k (aG.mk ((l.getD k dc).fText++t) c))=cC l+t.length
 | [],k,t,c,h=>absurd h (ac8 _)
 | a::l,0,t,c,h=>by
  unfold cC
  grind
 | a::l,k+1,t,c,h=>by
  have:=aaM l k t c (by simpa using h);show cC (a::l.set k (aG.mk ((l.getD k dc).fText++t) c))=_;unfold cC at this⊢;simp only [lC,Xz];omega
theorem ajv(o:J aG)(r:aG):cC (qz o r)=cC o+r.fText.length/\(qz o r).length<=o.length+1:=by
 unfold qz
 cases h1:(r.fText==[]) with
 | true=>
  simp_all
 | false=>
  cases h2:(decide (0<o.length)&&((o.getD (o.length-1) dc).bZ==r.bZ)) with
  | true=>
   grind [aaM,List.length_set]
  | false=>
   refine⟨?_,by simp_all⟩;show cC (o++[r])=_;rw [Bx];simp [cC]
theorem Ld:∀(l o:J aG),cC (l.foldl qz o)=cC o+cC l/\(l.foldl qz o).length<=o.length+l.length
 | [],o=>⟨by simp [cC],si⟩
 | r::l,o=>by
  obtain⟨h1,h2⟩:=Ld l (qz o r);obtain⟨h3,h4⟩:=ajv o r;rw [Dc];refine⟨by rw [h1,h3];simp [cC];omega,bH⟩
theorem acM(F:Nat)(l:J aG){R:Type}(f:J aG->R)(hF:l.length<F)(h1:l.length<=1000000)(h2:cC l<=100000000):
  bU (σ:=Int×(J aG)) (R:=R) (fun fV x2=>
   cond (decide (x2.1<(l.length:Int)))
   (rq ((decide (0<=x2.1))&&(decide (x2.1<(l.length:Int)))) (cond (((l.getD (Int.toNat x2.1) dc).fText)==[])
   (fV (aB (x2.1+1),x2.2))
   ((cond (decide (0<=aB ((x2.2.length:Int)-1)))
   (rq ((decide (0<=aB ((x2.2.length:Int)-1)))&&(decide (aB ((x2.2.length:Int)-1)<(x2.2.length:Int)))) (some (((x2.2.getD (Int.toNat (aB ((x2.2.length:Int)-1))) dc).bZ)==((l.getD (Int.toNat x2.1) dc).bZ),x2.2)))
   (some (false,x2.2)):O (Bool×(J aG))).bind fun x4=>
   cond x4.1
   (rq ((decide (0<=aB ((x2.2.length:Int)-1)))&&(decide (aB ((x2.2.length:Int)-1)<(x4.2.length:Int)))) (rq (decide (((x4.2.getD (Int.toNat (aB ((x2.2.length:Int)-1))) dc).fText).length+((l.getD (Int.toNat x2.1) dc).fText).length<=9223372036854775807)) (rq ((decide (0<=aB ((x2.2.length:Int)-1)))&&(decide (aB ((x2.2.length:Int)-1)<(x4.2.length:Int)))) (fV (aB (x2.1+1),x4.2.set (Int.toNat (aB ((x2.2.length:Int)-1))) (aG.mk (((x4.2.getD (Int.toNat (aB ((x2.2.length:Int)-1))) dc).fText)++((l.getD (Int.toNat x2.1) dc).fText)) ((x4.2.getD (Int.toNat (aB ((x2.2.length:Int)-1))) dc).bZ)))))))
   (rq ((decide (x4.2.length+([(l.getD (Int.toNat x2.1) dc)]:J aG).length<=9223372036854775807))&&(decide ((x4.2.length+([(l.getD (Int.toNat x2.1) dc)]:J aG).length)*24<=140737488355328))) (fV (aB (x2.1+1),x4.2++([(l.getD (Int.toNat x2.1) dc)]:J aG)))))))
   (some (f x2.2))) F (0,([]:J aG))=some (f (nF l)):=by
 refine aA.eqv ?_;refine aA.lp (fun z:Int×J aG=>∃k:Nat,z.1=(k:Int)/\k<=l.length/\z.2=nF (l.take k)) (fun z=>l.length-z.1.toNat) ⟨0,rfl,fL _,rfl⟩ (by simp_all) ?_;rintro⟨i,o⟩ ⟨k,q1,hk,q2⟩ rc hrc;dsimp only at q1 q2 hrc⊢;subst q1;refine aA.cd (fun h=>?_) fun h=>?_
 ·have hk:k<l.length:=om
  have hm:l.length-Int.toNat ((k+1:Nat):Int)<l.length-Int.toNat (k:Int):=om
  have es:nF (l.take (k+1))=qz o l[k]:=by
   unfold nF;rw [qA hk,Rq,q2];rfl
  obtain⟨b1,b2⟩:=Ld (l.take k) [];rw [show (l.take k).foldl qz []=o from q2.symm] at b1 b2;have b3:=tL l k;have b5:=tL l (k+1);have b6:=p4 l k hk;have z0:cC ([]:J aG)=0:=rfl;simp only [Qh] at b2;have nx:∀o',o'=qz o l[k]->aA (fun r=>r=f (nF l)) (rc (((k+1:Nat):Int),o')):=fun o' ho=>hrc _ ⟨k+1,rfl,hk,by rw [es];exact ho⟩ hm;rw [bQ om om,bh om,ck,gd hk];generalize l[k]=a at nx b6⊢;refine aA.cb (fun ha=>nx o (by unfold qz;rw [ha];rfl)) fun ha=>?_;by_cases h0:0<o.length
  ·have e1:aB ((o.length:Int)-1)=((o.length-1:Nat):Int):=by grind [bI]
   rw [e1,cM om,bQ om om,ck,aH]
   refine aA.cb (fun hc=>?_) fun hc=>aA.rq (nI (by grind) de) (nx _ (by
    unfold qz;grind))
   have hle:(o.getD (o.length-1) dc).fText.length<=cC o:=by
    have hlt:o.length-1<o.length:=om;rw [gd hlt];have:=p4 o (o.length-1) hlt
    grind
   refine aA.rq (jN om (by dsimp only;omega)) (aA.rq (decide_eq_true (by dsimp only;omega)) (aA.rq (jN om (by dsimp only;omega)) (nx _ ?_)));unfold qz;grind
  ·have e1:aB ((o.length:Int)-1)=-1:=by simp_all [bI]
   rw [e1,cf om,aH];exact aA.rq (nI (by simp_all) de) (nx _ (by unfold qz;grind))
 simp_all [Ii,aA.ok]
def RPt(fl:J bt)(k:Nat)(a:J aG×Bool×aM)(b:J aG×aX):Prop:=mL b.2/\RB k b.1/\((stop b.2=false/\a=(nF b.1,true,iH fl b.2))\/(stop b.2=true/\a.2.1=false/\Fin a.2.2 b.2))
theorem akh(F:Nat)(t:Bs):tU F t=some ((t==[64])||(t==[42])):=by unfold tU;rw [aK];rfl
theorem alD(F:Nat)(o:Int)(c s:Bool)(v:Bs):AB F o c s v=rV F o c s v:=by
 unfold AB rV;simp only [aK,aH]
 grind
section
variable {F n : Nat} {fl : J bt}
theorem ahn(hF:100000000<=F)(h1:X1 fl F n)(N:Nat)(l:J TPart)(s:aX)(hs:mL s)(hst:stop s=false)(hl:fU l<=1000)(hn:9*fU l+9<=n)(hN:6*fU l+6<=N):
  T2 (RPt fl (fU l)) ((aV F (n+1)).2.2.2.2.2.2.1 l (iH fl s)) ((bM F N).1 l (dz.mk false false false) s):=by
 show T2 _ (oD F (aV F n) l (iH fl s)) _;unfold oD;obtain⟨⟨r,ok,x'⟩,⟨r',s'⟩,h,e1,e2⟩:=h1 N l (cQ.mk false false 0) (dz.mk false false false) s ⟨rfl,rfl⟩ hs hst hl hn hN;have h:=h.rr (fun _=>rfl);rw [e1,e2,aH];obtain⟨g1,g2,⟨k1,k2⟩|⟨k1,k2,k3,k4⟩⟩:=h
 ·cases k2
  have z1:=g2.1;have z2:=g2.2;dsimp only at z1 z2⊢;rw [acM F _ (fun o=>(o,true,iH fl s')) om om om];exact T2.ok ⟨g1,g2,.inl ⟨k1,rfl⟩⟩
 ·have k4:=k4
  subst k2 k4;rw [acM F [] (fun o=>(o,false,x')) bH si (by simp [cC])];exact T2.ok ⟨g1,g2,.inr ⟨k1,rfl,k3⟩⟩
theorem aho(hF:100000000<=F)(hv:XV fl F n)(N:Nat)(x:TPart)(m:cQ)(p:dz)(s:aX)(hm:m.eY=p.eY)(hs:mL s)(hst:stop s=false)(hl:wP x<=1000)(hn:9*fU x.fParts+10<=n)(hN:6*fU x.fParts+7<=N):
  T2 (fun a b=>mL b/\stop b=true/\a.1=false/\Fin a.2 b) ((aV F (n+1)).2.2.2.2.2.2.2.2 x m (iH fl s)) ((bM F (N+1)).2.2.2.2.2 x p s):=by
 have hw:=I8 x;show T2 _ (oF F (aV F n) x m (iH fl s)) (ud F (bM F N) x p s);unfold oF ud;rw [aK,aH];have l1:decide (x.fText.length+([58,32]:Bs).length<=9223372036854775807)=true:=decide_eq_true (by grind);have bad:∀(t:Bs)(u:aX),mL u->stop u=false->mL (cond (stop u) u {u with fe:=32,fy:=t})/\stop (cond (stop u) u {u with fe:=32,fy:=t})=true/\Fin {iH fl u with fy:=t,Ai:=32} (cond (stop u) u {u with fe:=32,fy:=t}):=fun t u hu hsu=>⟨Rk hu _ _,(failed (fl:=fl) hsu de).1,(failed hsu de).2⟩;by_cases h0:0<x.fParts.length
 ·rw [cM om]
  obtain⟨⟨t0,ok,x'⟩,⟨t,s'⟩,⟨⟨⟨hg,hi,hh⟩,hlen⟩,-⟩,e1,e2⟩:=hv N x.fParts m p.eY s hm hs hst om hn hN;rw [e2];rcases hh with⟨k1,k2⟩|⟨k1,k2,k3,k4⟩
  ·cases k2
   grind [T2.ql,T2.qr,J1,xN,T2.ok]
  ·subst k2
   grind [T2.qr,xN,T2.ok]
 ·rw [cf om,cf om]
  cases x.fColon with
  | true=>
   refine T2.ql (dQ (by show x.fText.length+27<=_;omega)) (T2.qr l1 (T2.qr (dQ (by rw [yq];show x.fText.length+2+25<=_;omega)) ?_))
   simp_all [J1,xN,T2.ok]
  | false=>
   refine T2.ql (dQ (by show x.fText.length+19<=_;omega)) (T2.qr l1 (T2.qr (dQ (by rw [yq];show x.fText.length+2+17<=_;omega)) ?_))
   simp_all [J1,xN,T2.ok]
end
def TU(F:Nat):Prop:=∀(op:Int)(v:Bs)(l:J aG),6<=op->op<=9->v.length<=4096->l.length<=26000->cC l<=5000000 ->
 T2 (fun a b=>a=b/\b.length<=v.length) ((iI F (nF l)).bind fun p=>E0 F op v p) ((jK F l).bind fun p=>ET F op v p)
theorem T2.bd2{A B C D X Y:Type}{Q:A->B->Prop}{P:C->D->Prop}{x:O X}{y:O Y}{f:X->O C}{g:Y->O D}{h:C->O A}{h':D->O B}(t:T2 P (x.bind f) (y.bind g))(k:∀a b,P a b->T2 Q (h a) (h' b)):T2 Q (x.bind fun a=>(f a).bind h) (y.bind fun b=>(g b).bind h'):=by
 rw [<-ade,<-ade];exact T2.bd t k
theorem aoT{D X Y:Type}{y:O X}{g:X->O D}{h:D->O Y}{b:D}(e:(y.bind g)=some b):(y.bind fun b=>(g b).bind h)=h b:=by
 rw [<-ade,e];rfl
theorem pid{A B C:Type}(y:O (A×B×C)):(y.bind fun x=>some (x.1,x.2.1,x.2.2))=y:=by cases y<;>rfl
theorem anr{A B:Type}(y:O (A×B)):(y.bind fun x=>some (x.1,x.2))=y:=by cases y<;>rfl
theorem trB(o:Int):(cond (o==6) (o==6) (cond (o==7) (o==7) (cond (o==8) (o==8) (o==9))))=cond (decide (6<=o)) (decide (o<=9)) false:=by
 rw [cF]
 grind
theorem alE(F:Nat)(fl:J bt){s:aX}(h:mL s)(n v:Bs)(m:cQ)(p:dz)(hm:Mo m p)(hv:v.length<=4096)(hF:1000<F):T2 (fun a b=>a=b/\RB 1 b) (mQ F n v m (iH fl s)) (lR F n v p s):=by
 obtain⟨r,hr,er⟩:=alu F h.1 n v p hv hF;refine⟨r,r,⟨rfl,hr⟩,?_,er⟩;rw [<-er];obtain⟨m1,m2⟩:=hm;unfold mQ lR;rw [akh,akg F m1,m1,m2,show (iH fl s).cq=s.cq from rfl];simp only [aK,aH];obtain⟨c,hc⟩:=O2 F p
 have e:cond (cond (!p.jW) true (!((n==[64])||(n==[42])))) true (cond (n==[42]) p.eY false)=cond (cond (!p.jW) true (cond (!(n==[64])) (!(n==[42])) false)) true (cond p.eY (n==[42]) false):=by
  grind
 rw [e]
 cases (cond (cond (!p.jW) true (cond (!(n==[64])) (!(n==[42])) false)) true (cond p.eY (n==[42]) false)) with
 | true=>rfl
 | false=>
  rw [aU];congr 1
  funext rc z
  cases hd:decide (z.2<(s.cq.cA.length:Int)) with
  | false=>rfl
  | true=>
   cases h0:decide (0<=z.2) with
   | false=>
    grind
   | true=>
    rfl
section
variable {F n : Nat} {fl : J bt}
theorem alF(hF:100000000<=F)(hT:TU F)(h1:∀k,k<n->X1 fl F k)(hV:∀k,k<n->XV fl F k)(N:Nat)(x:TPart)(m:cQ)(p:dz)(s:aX)(hm:Mo m p)(hs:mL s)(hst:stop s=false)(hx:wP x<=1000)(hn:9*wP x+7<=n)(hN:6*wP x+4<=N):
  T2 (RJ fl (wP x) m p) ((aV F n).2.2.2.2.2.1 x m (iH fl s)) ((bM F N).2.2.2.2.1 x p s):=by
 have hw:=I8 x;obtain⟨j,rfl⟩:∃j,n=j+3:=⟨n-3,om⟩;obtain⟨M,rfl⟩:∃j,N=j+2:=⟨N-2,om⟩;show T2 _ (ni F (aV F (j+2)) x m (iH fl s)) (uc F (bM F (M+1)) x p s);unfold ni uc;obtain⟨⟨v,st⟩,hv,ev⟩:=als F hs.1.1 x.fText om om;rw [show xJ F (iH fl s).cq x.fText=jM F s.cq x.fText from ano F hs.1.1 x.fText om om,ev,aH,aH];obtain⟨c,hc⟩:=O2 F p;have hmc:dU F m=some c:=by rw [akg F hm.1,hc]
 have htr:Ct F x.fOp=some (cond (decide (6<=x.fOp)) (decide (x.fOp<=9)) false):=by unfold Ct;rw [aK];rfl
 simp only [akh,htr,hc,hmc,aK,aH,trB,cT];dsimp only at hv⊢;rw [show (iH fl s).cq=s.cq from rfl];generalize htB:cond (decide (6<=x.fOp)) (decide (x.fOp<=9)) false=tr;generalize hnb:((mR .i64 s.cq.iy 2) != 0)=nb;have l1:decide (x.fText.length+([58,32,112,97,114,97,109,101,116,101,114,32,110,111,116,32,115,101,116]:Bs).length<=9223372036854775807)=true:=dQ (by show x.fText.length+19<=_;omega)
 have key:∀A B:O (Unit ⊕ (J aG×Bool×aM)),(cond (cond (x.fOp==0) (x.fOp==0) (cond (x.fOp==5) (x.fOp==5) tr)) (cond (cond (cond nb (!st) false) (!((x.fText==[64])||(x.fText==[42]))) false) A B) B)=cond (cond (cond (cond nb (!((x.fText==[64])||(x.fText==[42]))) false) (!st) false) ((x.fOp==0)||((x.fOp==5)||tr)) false) A B:=fun A B=>by
  grind
 rw [key];have one:∀(t:Bs)(u:aX),t.length<=5000*wP x->mL u->stop u=false->T2 (RJ fl (wP x) m p) ((gF F t c).bind fun fF=>some (fF,true,iH fl u)) (some ([aG.mk t c],u)):=fun t u ht hu hsu=>T2.ok (RJ.go hu (RB.one om ht) hsu)
 cases (cond (cond (cond nb (!((x.fText==[64])||(x.fText==[42]))) false) (!st) false) ((x.fOp==0)||((x.fOp==5)||tr)) false) with
 | true=>
  rw [bw,bw,cE l1,cE l1,J1,xN]
  exact T2.ok (RR.j (RR.err hs (RB.nil (k:=1)) hst de rfl) om)
 | false=>
  rw [aU,aU];show T2 _ (cond (x.fOp==5) _ _) _;have R:∀k:Nat,k<=1000000->K.gw (k:Int):=fun k hk=>⟨om,om⟩
  have dec:∀k:Nat,k<=1000000->T2 (RJ fl (wP x) m p) ((ox F (k:Int)).bind fun fB=>(gF F fB c).bind fun fF=>some (fF,true,iH fl s)) ((dB F (k:Int)).bind fun x9=>some ([aG.mk x9 c],s)):=fun k hk=>by
   grind [K.vW,afn,K.JC]
  cases h5:(x.fOp==5) with
  | true=>
   rw [bw,bw,bw];have hp:=hs.1.1.2.1;show T2 _ ((ox F (cond ((x.fText==[64])||(x.fText==[42])) (s.cq.cA.length:Int) (v.length:Int))).bind _) _
   grind
  | false=>
   rw [aU,aU,aU,aU]
   cases tr with
   | true=>
    rw [bw,bw]
    have hop:6<=x.fOp/\x.fOp<=9:=by
     simp_all
    refine T2.bd (ahn hF (h1 (j+1) om) (M+1) x.fParts s hs hst om om om) ?_;rintro⟨r,ok,x'⟩ ⟨r',s'⟩ ⟨g1,g2,g3⟩;dsimp only at g1 g2 g3⊢;have z1:=g2.1;have z2:=g2.2;have hTr:=hT x.fOp v r' hop.1 hop.2 hv om om;rcases g3 with⟨k1,k2⟩|⟨k1,k2,k3⟩
    ·cases k2
     rw [kn,aU];refine T2.bd2 hTr ?_
     grind
    ·have k2:ok=false:=k2
     subst k2;rw [sF,bw];obtain⟨a,b,⟨-,hb⟩,-,e2⟩:=hTr;rw [aoT e2]
     exact T2.ok ⟨g1,RB.one om om,.inr ⟨k1,rfl,k3,rfl⟩⟩
   | false=>
    rw [aU,aU,TPart.eta,pid];show T2 _ (pL F (aV F (j+1)) x m v st (iH fl s)) _;unfold pL;rw [alD];obtain⟨ch,hch⟩:=ajs F x.fOp x.fColon st v;rw [hch,aH,aH,hmc];simp only [pid,anr,TPart.eta];refine T2.cb (fun _=>?_) fun _=>T2.cb (fun _=>one [] s (fL _) hs hst) fun _=>T2.cb (fun _=>?_) fun _=>T2.cb (fun _=>?_) fun _=>?_
    ·refine T2.mono (h1 (j+1) om (M+1) x.fParts {m with mq:=2} {p with BS:=true} s hm hs hst om om om) ?_
     rintro a b h;exact RR.j (h.rr fun _=>rfl) om
    ·rw [K.F3 F _ om]
     obtain⟨nm,-,enm⟩:=Ed F x.fText om;rw [enm,aH,aH];have l3:decide (x.fText.length+([58,32,99,97,110,110,111,116,32,97,115,115,105,103,110]:Bs).length<=9223372036854775807)=true:=dQ (by show x.fText.length+15<=_;omega);refine T2.cb (fun _=>?_) fun _=>?_
     ·rw [cE l3,cE l3,J1,xN]
      exact T2.ok (RR.j (RR.err hs (RB.nil (k:=1)) hst de rfl) om)
     ·refine T2.bd (hV (j+1) om (M+1) x.fParts m p.eY s hm.1 hs hst om om om) ?_
      rintro⟨t0,ok,x'⟩ ⟨t,s'⟩ ⟨⟨⟨g1,g2,g3⟩,g4⟩,g5⟩;dsimp only at g1 g2 g3 g4 g5⊢
      have ht:t.length<=5000*wP x:=by
       grind
      rcases g3 with⟨k1,k2⟩|⟨k1,k2,k3,k4⟩
      ·cases k2
       rw [kn,aU];refine T2.l (P:=fun y:Bool×aM=>∃s2,fA F x.fText t0 s'=some s2/\mL s2/\((stop s2=false/\y=(false,iH fl s2))\/(stop s2=true/\y.1=true/\Fin y.2 s2))) ?_ ?_
       ·obtain⟨⟨a1,a2⟩,s2,⟨b1,b2⟩,e1,e2⟩:=VA F fl g1 k1 x.fText t0 om
        simp_all [aH,aA.ok]
       ·rintro⟨a1,a2⟩ ⟨s2,e2,b1,b2⟩
        rw [e2,aH];rcases b2 with⟨b2,b3⟩|⟨b2,b3,b4⟩
        ·simp_all
        ·have b3:a1=true:=b3
         subst b3;exact T2.ok ⟨b1,RB.one om ht,.inr ⟨b2,rfl,b4,rfl⟩⟩
      ·have k2:ok=false:=k2
       subst k2;rw [sF,bw,aH,afo F k1,aH];exact T2.ok ⟨g1,RB.one om ht,.inr ⟨k1,rfl,k3,rfl⟩⟩
    ·refine T2.bd (aho hF (hV j om) M x m p s hm.1 hs hst hx om om) ?_
     rintro⟨a1,a2⟩ s2 ⟨b1,b2,b3,b4⟩;have b3:a1=false:=b3;subst b3;exact T2.ok ⟨b1,RB.nil,.inr ⟨b2,rfl,b4,rfl⟩⟩
    ·refine T2.bd (alE F fl hs x.fText v m p hm hv om) ?_
     rintro a b ⟨rfl,hb⟩;exact T2.ok (RJ.go hs (hb.mono om) hst)
end
theorem ap0{R:Type}(F:Nat)(p:TPart)(f:Bool->O R):((cond (p.fKind==4) (some (p.fText==([64]:Bs))) (some false):O Bool).bind fun x4=>(cond x4 (some (p.fOp==0)) (some false):O Bool).bind f)=(vk F p).bind f:=by
 unfold vk
 grind
theorem aoU(F:Nat){l:J bD}(hl:l.length<=128)(hF:1000<F){R:Type}(n:Bs)(A:bD->O R)(B:O R):((yG F l n).bind fun x5=>(cond x5.2 (some x5.1.cH) (some false):O Bool).bind fun x6=>cond x6 (A x5.1) B)=cond (j8 l n).1.cH (A (j8 l n).1) B:=by
 rw [ajq F _ _ om om]
 have hb:(j8 l n).2=false->(j8 l n).1=bD.mk [] [] false false false:=by
  unfold j8;cases l.find? _<;>simp
 grind
section
variable {F n : Nat} {fl : J bt}
theorem ans(hN':NC<=F)(hF:100000000<=F)(hT:TU F)(h1:∀k,k<n->X1 fl F k)(hV:∀k,k<n->XV fl F k):X2 fl F n:=by
 intro N x m p s hm hs hst hx hn hN;have hw:=I8 x;obtain⟨j,rfl⟩:∃j,n=j+2:=⟨n-2,om⟩;obtain⟨M,rfl⟩:∃j,N=j+2:=⟨N-2,om⟩;show T2 _ (qN F (aV F (j+1)) x m (iH fl s)) (vm F (bM F (M+1)) x p s);unfold qN vm;obtain⟨c,hc⟩:=O2 F p;obtain⟨d,hd⟩:=anm F p;simp only [pid,TPart.eta];have one:∀(t:Bs)(c:Int),t.length<=5000*wP x->T2 (RJ fl (wP x) m p) ((gF F t c).bind fun fF=>some (fF,true,iH fl s)) (some ([aG.mk t c],s)):=fun t c ht=>T2.ok (RJ.go hs (RB.one om ht) hst);refine T2.cb (fun _=>?_) fun _=>T2.cb (fun _=>one _ _ om) fun _=>T2.cb (fun _=>?_) fun _=>T2.cb (fun _=>?_) fun _=>T2.cb (fun _=>?_) fun _=>T2.cb (fun _=>?_) fun _=>T2.cb (fun _=>?_) fun _=>T2.ok (RJ.go hs RB.nil hst)
 ·
  have hl:∃d',pR F m=some d'/\(COk m p->d'=d):=by
   unfold pR;unfold pH at hd;rw [<-hm.1] at hd;unfold COk
   grind
  obtain⟨d',hd',he⟩:=hl;rw [hd,hd',aH,aH];exact T2.ok ⟨hs,RB.one om (by grind),.inl ⟨hst,rfl,rfl,fun h=>by rw [he h]⟩⟩
 ·
  show T2 _ (pK F (aV F j) x m (iH fl s)) _;unfold pK;have hkl:=I9 x.fParts
  have rl:∀(r:J aG)(u:aX),aA (fun y=>y=(r,u)\/(r=[]/\y=([aG.mk [] 1],u))) (bU (σ:=Int) (R:=(J aG)×aX) (fun kO x3=>
    cond (decide (x3<(x.fParts.length:Int)))
    (rq ((decide (0<=x3))&&(decide (x3<(x.fParts.length:Int)))) ((vk F (x.fParts.getD (Int.toNat x3) kT)).bind fun x5=>
    cond x5
    (some (r,u))
    (kO (aB (x3+1)))))
    (cond ((r.length:Int)==0)
    (some (([(aG.mk [] 1)]:J aG),u))
    (some (r,u)))) F 0):=fun r u=>by
   refine aA.lp (fun i:Int=>∃k:Nat,i=(k:Int)/\k<=x.fParts.length) (fun i=>x.fParts.length-i.toNat) ⟨0,rfl,om⟩ (by grind) ?_;rintro _ ⟨k,rfl,hk⟩ rc hrc;refine aA.cd (fun h=>?_) fun _=>aA.cb (fun h=>aA.ok (.inr ⟨adf.1 (by simp_all),rfl⟩)) fun _=>aA.ok (.inl rfl);obtain⟨b,hb⟩:=akd F (x.fParts.getD (Int.toNat (k:Int)) kT);rw [bQ om om,hb,aH,bh om];exact aA.cb (fun _=>aA.ok (.inl rfl)) fun _=>hrc _ ⟨k+1,rfl,om⟩ (by grind)
  refine T2.bd (h1 j om (M+1) x.fParts (cQ.mk true m.jW 0) (dz.mk true false p.jW) s ⟨rfl,hm.2⟩ hs hst om om om) ?_;intro a b h;have h:=h.rr (fun h=>nomatch h);obtain⟨r,ok,x'⟩:=a;obtain⟨r',s'⟩:=b;obtain⟨g1,g2,⟨k1,k2⟩|⟨k1,k2,k3,k4⟩⟩:=h
  ·cases k2
   dsimp only at g1 g2 k1⊢;rw [kn,aU];by_cases h0:0<r'.length
   ·rw [cM om]
    obtain⟨y,hy,e⟩:=rl r' s';rw [e];rcases hy with rfl|⟨h,_⟩
    ·exact T2.ok (RJ.go g1 (g2.mono om) k1)
    simp_all
   ·rw [cf om]
    have hnil:r'=[]:=adf.1 om;subst hnil;refine T2.lp (fun (i i':Int)=>∃k:Nat,i=(k:Int)/\i'=(k:Int)/\k<=x.fParts.length) (fun i=>x.fParts.length-i.toNat) ⟨0,rfl,rfl,om⟩ (by grind) ?_;rintro _ _ ⟨k,rfl,rfl,hk⟩ q1 q2 hrc;refine T2.cb (fun h=>?_) fun _=>T2.ok (RJ.go g1 (RB.one om (fL _)) k1);have h:=ym h;have e:=ap0 (R:=J aG×Bool×aM) F (x.fParts.getD (Int.toNat (k:Int)) kT);obtain⟨b,hb⟩:=akd F (x.fParts.getD (Int.toNat (k:Int)) kT);refine T2.ql (jN om om) (T2.qr (jN om om) ?_);rw [e,hb,aH,aH,bh om];exact T2.cb (fun _=>T2.ok (RJ.go g1 RB.nil k1)) fun _=>hrc _ _ ⟨k+1,rfl,rfl,om⟩ (by grind)
  ·have k2:ok=false:=k2
   have k4:r=[]:=k4;subst k2 k4;dsimp only at g1 g2 k1 k3⊢;rw [sF,bw];obtain⟨y,hy,e⟩:=rl r' s';rw [e];rcases hy with rfl|⟨_,rfl⟩
   ·exact T2.ok ⟨g1,g2.mono om,.inr ⟨k1,rfl,k3,rfl⟩⟩
   ·exact T2.ok ⟨g1,RB.one om (fL _),.inr ⟨k1,rfl,k3,rfl⟩⟩
 ·
  have hl:=hs.1.1.1.1;have hv:=(Ow hs.1.1.1 [72,79,77,69]).2;have e:=aoU F (l:=s.cq.bP) hl om [72,79,77,69] (fun v=>(gF F v.bJ 1).bind fun x7=>some (x7,true,iH fl s)) ((gF F [126] 0).bind fun x8=>some (x8,true,iH fl s));rw [show (iH fl s).cq=s.cq from rfl,e,xP F s.cq.bP _ om om,aH]
  grind
 ·
  exact (apY F fl hs hst x m p hm.1 om).mono fun a b h=>RR.j h om
 ·
  have:=anq hN' hF fl (aV F j) (bM F M) x m p hm.1 s ((hV j om M x.fParts (cQ.mk true false 0) true s rfl hs hst om om om).mono fun a b h=>h.1);exact this.mono fun a b h=>RR.j h om
 grind [alF,anr]
theorem aki(hN':NC<=F)(hF:100000000<=F)(hT:TU F):∀n,X1 fl F n:=by
 intro n
 induction n using Nat.strongRecOn with
 | ind n ih=>
  cases n with
  | zero=>intro N l m p s _ _ _ _ h _;omega
  | succ n=>
   have hV:∀k,k<n+1->XV fl F k:=fun k hk=>by
    cases k with
    | zero=>intro N l m q s _ _ _ _ h _;omega
    | succ k=>grind [acL]
   grind [alB,ans]
end
def afq(it:aF)(t:Bs):Prop:=it.fKind=3\/∃b,t=[b]/\QA it (b.toNat:Int)=true
def Mt:J aF->Bs->Prop
 | [],s=>s=[]
 | it::p,s=>∃a b,s=a++b/\afq it a/\Mt p b
theorem O3:∀(p:J aF)(it:aF)(s:Bs),Mt (p++[it]) s↔∃a b,s=a++b/\Mt p a/\afq it b
 | [],it,s=>by
  constructor
  ·rintro⟨a,b,rfl,h,rfl⟩;exact⟨[],a,si,rfl,h⟩
  ·rintro⟨a,b,rfl,rfl,h⟩;exact⟨b,[],si,h,rfl⟩
 | x::p,it,s=>by
  constructor
  ·rintro⟨a,b,rfl,h,hb⟩
   obtain⟨c,d,rfl,h1,h2⟩:=(O3 p it b).1 hb;exact⟨a++c,d,si,⟨a,c,rfl,h,h1⟩,h2⟩
  ·rintro⟨a,b,rfl,⟨c,d,rfl,h1,h2⟩,h3⟩
   exact⟨c,d++b,si,h1,(O3 p it _).2 ⟨d,b,rfl,h2,h3⟩⟩
theorem ajw{it:aF}{t:Bs}(h:afq it t):afq it t.reverse:=by
 rcases h with h|⟨b,rfl,h⟩
 ·exact .inl h
 ·exact .inr ⟨b,rfl,h⟩
theorem aaN:∀(p:J aF)(s:Bs),Mt p s->Mt p.reverse s.reverse
 | [],s,h=>by
  obtain rfl:s=[]:=h
  rfl
 | it::p,s,h=>by
  obtain⟨a,b,rfl,h1,h2⟩:=h;rw [List.reverse_cons,List.reverse_append];exact (O3 _ _ _).2 ⟨_,_,rfl,aaN p b h2,ajw h1⟩
theorem acN(f:Nat->Bool):∀k,upE f k=true↔∃j,j<=k/\f j=true
 | 0=>⟨fun h=>⟨0,ef _,h⟩,fun⟨j,h,e⟩=>by rwa [show j=0 by omega] at e⟩
 | k+1=>by
  rw [upE,Qi,acN f k];constructor
  ·rintro (h|⟨j,h,e⟩)
   ·exact⟨k+1,ef _,h⟩
   ·exact⟨j,om,e⟩
  ·rintro⟨j,h,e⟩
   by_cases hj:j=k+1
   ·subst hj;exact .inl e
   ·exact .inr ⟨j,om,e⟩
theorem Oo(p:J aF)(s:Bs):∀i,i<=p.length->∀k,k<=s.length->(EE p s i k=true↔Mt (p.take i) (s.take k))
 | 0,_,k,hk=>by
  show (k==0)=true↔s.take k=[];rw [List.take_eq_nil_iff]
  grind
 | i+1,hi,k,hk=>by
  have hki:RW p i=p[i]:=by unfold RW;rw [gd om]
  rw [qA (show i<p.length by omega),O3,EE]
  cases hs:lV p i with
  | true=>
   rw [bw,acN];have h3:p[i].fKind=3:=by unfold lV at hs;simp_all
   constructor
   ·rintro⟨j,hj,e⟩
    refine⟨s.take j,(s.take k).drop j,?_,(Oo p s i om j om).1 e,.inl h3⟩
    grind [Nat.min_eq_left,List.take_append_drop]
   ·rintro⟨a,b,e,h1,-⟩
    have hl:=congrArg List.length e;rw [Qd,yq] at hl;refine⟨a.length,om,(Oo p s i om _ om).2 ?_⟩
    grind [Nat.min_eq_left,List.take_left]
  | false=>
   have h3:p[i].fKind≠3:=by unfold lV at hs;simp_all
   cases k with
   | zero=>
    refine⟨fun h=>(by cases h),?_⟩;rintro⟨a,b,e,-,h|⟨c,rfl,h⟩⟩
    ·exact absurd h h3
    ·simp at e
   | succ k=>
    have hsk:s.take (k+1)=s.take k++[s[k]]:=qA om;show (EE p s i k&&MM p s i k)=true↔_;rw [cx,Oo p s i om k om,hsk];unfold MM;rw [hki,gd (show k<s.length by omega)];constructor
    ·rintro⟨h1,h2⟩
     exact⟨_,_,rfl,h1,.inr ⟨_,rfl,h2⟩⟩
    ·rintro⟨a,b,e,h1,h|⟨c,rfl,h⟩⟩
     ·exact absurd h h3
     grind [List.append_inj']
theorem ant(p:J aF)(s:Bs){k:Nat}(hk:k<=s.length):EE p.reverse s.reverse p.reverse.length k=EE p (s.drop (s.length-k)) p.length (s.drop (s.length-k)).length:=by
 rw [sE,Oo _ _ _ (ef _) _ (by simpa using hk),Oo _ _ _ (ef _) _ (ef _),Bb,Bb,Bb,List.take_reverse];exact⟨fun h=>by simpa using aaN _ _ h,fun h=>aaN _ _ h⟩
def dM(long:Bool)(g:Nat->Bool):Nat->Int×Bool
 | 0=>(0,false)
 | k+1=>cond (g k&&cond long true (!(dM long g k).2)) ((k:Int),true) (dM long g k)
theorem Ig(b:Bool){f g:Nat->Bool}:∀k,(∀j,j<k->f j=g j)->dM b f k=dM b g k
 | 0,_=>rfl
 | k+1,h=>by rw [dM,dM,h k om,Ig b k fun j hj=>h j om]
theorem Le(b:Bool)(g:Nat->Bool)(k:Nat)(h:∀j,k<=j->g j=false):∀d,dM b g (k+d)=dM b g k
 | 0=>rfl
 | d+1=>by rw [<-TY,dM,h _ om,Le b g k h d];rfl
theorem WC(g:Nat->Bool)(k:Nat)(h:(dM false g k).2=true):∀d,dM false g (k+d)=dM false g k
 | 0=>rfl
 | d+1=>by rw [<-TY,dM,WC g k h d,h,aU,kn,Rr,aU]
theorem aaO(b:Bool)(g:Nat->Bool):∀k,∃j:Nat,(dM b g k).1=(j:Int)/\j<=k-1/\((dM b g k).2=false->j=0)
 | 0=>⟨0,rfl,ef _,fun _=>rfl⟩
 | k+1=>by
  obtain⟨j,h1,h2,h3⟩:=aaO b g k;rw [dM]
  grind
theorem WD(F:Nat)(p:J aF)(n:Bs)(long:Bool)(hF:p.length+300<F)(qP:n.length<F)(hn:n.length<50000000)(hp:p.length<50000000)(hit:∀it∈p,mB it){v:Bool}(hv:lU F p=some v):
  oO F p n 0 long=some (dM long (fun k=>v&&EE p n p.length k) (n.length+1)):=by
 unfold oO;rw [hv,aH]
 cases v with
 | false=>
  have:=Le long (fun k=>false&&EE p n p.length k) 0 (fun _ _=>rfl) (n.length+1);rw [pU] at this
  rw [this];rfl
 | true=>
  have hw:aB ((p.length:Int)+1)=((p.length+1:Nat):Int):=cG om;have hlen:∀g:Nat->Bool,(iz (p.length+1) g).length=p.length+1:=fun g=>Bz _ g;rw [hw,kn,aU,cE (by rw [dT om,dT om,dT om,dT om,dT om];rfl),ck,r7 si,Qz,FG];rw [kI (g:=fun j=>j==0) fun j _=>by cases (j==0)<;>rfl,VN F p _ om hp,aH,kI fun j _=>ah0 p n j]
  have hsw:∀x:O (Int×Bool),x=some (dM long (EE p n p.length) (n.length+1))->(x.bind fun x3=>some (x3.1,x3.2))=some (dM long (EE p n p.length) (n.length+1)):=by
   rintro x rfl;rfl
  refine hsw _ (dn (fun s=>∃k:Nat,s=(iz (p.length+1) (fun j=>EP p n j k),(dM long (EE p n p.length) k).1,(dM long (EE p n p.length) k).2,(k:Int))/\k<=n.length/\(long=false->(dM long (EE p n p.length) k).2=false)) (fun s=>n.length-s.2.2.2.toNat) ?_ F _ ⟨0,rfl,om,fun _=>rfl⟩ bH);rintro s ⟨k,rfl,hk,hsh⟩;rw [bQ om (by rw [hlen];omega),ck p.length,ck k,vK _ om,af6,aK]
  have hS:dM long (EE p n p.length) (k+1)=cond (EE p n p.length k) ((k:Int),true) (dM long (EE p n p.length) k):=by
   rw [dM]
   grind
  have hend:∀d,(∀j,k<j->j<=n.length->EE p n p.length j=false)->k+1+d=n.length+1->dM long (EE p n p.length) (n.length+1)=dM long (EE p n p.length) (k+1):=by
   intro d h1 h2;rw [Ig long (n.length+1) (g:=fun j=>EE p n p.length j&&decide (j<=n.length)) fun j hj=>by grind,Ig long (k+1) (g:=fun j=>EE p n p.length j&&decide (j<=n.length)) fun j hj=>by grind,<-h2];refine Le _ _ _ (fun j hj=>?_) d
   grind
  by_cases afp:(EE p n p.length k && !long)=true
  ·right
   rw [cx] at afp;obtain⟨h1,h2⟩:=afp;have hl:long=false:=by simpa using h2
   subst hl;intro rc;rw [h1];rw [h1,bw] at hS;have:=WC (EE p n p.length) (k+1) (by rw [hS]) (n.length-k);rw [show k+1+(n.length-k)=n.length+1 by omega,hS] at this;rw [this];rfl
  ·have hstep:∀G:Int×Bool->O (Int×Bool),(jj (σ:=Int×Bool) ((some (cond (EE p n p.length k) (decide ((0:Int)<=(k:Int))) false):O Bool).bind fun x7=>cond x7 (cond (!long) (some (.inr ((k:Int),true))) (some (.inl ((k:Int),true)))) (some (.inl ((dM long (EE p n p.length) k).1,(dM long (EE p n p.length) k).2)))) G)=G (dM long (EE p n p.length) (k+1)):=by
    intro G;rw [hS,aH]
    cases h1:EE p n p.length k with
    | false=>rfl
    | true=>
     have:long=true:=by
      simp_all
     rw [this];rfl
   by_cases hkn:k<n.length
   ·obtain⟨c,hc1,hc⟩:=aa7 F (iz (p.length+1) (fun j=>EP p n j k)) (by rw [hlen];omega) (by rw [hlen];omega)
    cases c with
    | false=>
     have hz:∀j,k<j->j<=n.length->EE p n p.length j=false:=by
      intro j h1 h2
      have:=Uu p n k (fun i hi=>by
       have:=hc1 rfl i (by rw [hlen];omega)
       grind [vK]) (j-k) p.length (Nat.le_refl _)
      grind [af6]
     rw [hend (n.length-k) hz om]
     simp_all
    | true=>
     left;refine⟨(iz (p.length+1) (fun j=>EP p n j (k+1)),(dM long (EE p n p.length) (k+1)).1,(dM long (EE p n p.length) (k+1)).2,((k+1:Nat):Int)),⟨k+1,rfl,om,fun hl=>?_⟩,bH,fun rc=>?_⟩
     ·simp_all
     ·refine (hstep _).trans ?_
      rw [show ((k:Int)==(n.length:Int))=false by simp;omega,aU,hc,aH,aH,kn,aU,cj hkn,adX F p n _ k hF hp hit,aH,cG om]
      grind [kI,acf]
   grind
theorem afr(F:Nat)(p:J aF)(n:Bs)(long:Bool)(hF:p.length+300<F)(qP:n.length+1<F)(hn:n.length<50000000)(hp:p.length<50000000)(hit:∀it∈p,mB it){v:Bool}(hv:ku F p=some v):
  rU F p n long=some (dM long (fun k=>v&&EE p n p.length k) (n.length+1)):=by
 unfold rU;rw [hv,aH]
 cases v with
 | false=>
  have:=Le long (fun k=>false&&EE p n p.length k) 0 (fun _ _=>rfl) (n.length+1);rw [pU] at this
  rw [this];rfl
 | true=>
  rw [kn,acg F p n hF qP hn hp hit];refine dn (fun s=>∃k:Nat,s=((dM long (EE p n p.length) k).1,(dM long (EE p n p.length) k).2,(k:Int))/\k<=n.length+1) (fun s=>n.length+1-s.2.2.toNat) ?_ F _ ⟨0,rfl,om⟩ bH;rintro s ⟨k,rfl,hk⟩;dsimp only;by_cases hk2:k<=n.length
  ·left
   refine⟨_,⟨k+1,rfl,om⟩,bH,fun rc=>?_⟩;rw [bQ om (by rw [Bz];omega),vK _ om,cG om,dM]
   grind
  grind
theorem afs(F:Nat)(p:J aF)(n:Bs)(long:Bool)(hF:p.length+300<F)(qP:n.length+1<F)(hn:n.length<50000000)(hp:p.length<50000000)(hit:∀it∈p,mB it){v:Bool}(hv:lU F p=some v):
  rT F p n long=some (dM long (fun k=>v&&EE p (n.drop (n.length-k)) p.length (n.drop (n.length-k)).length) (n.length+1)):=by
 generalize hg:(fun k=>v&&EE p (n.drop (n.length-k)) p.length (n.drop (n.length-k)).length)=g;refine dn (fun s=>∃k:Nat,s=((dM long g k).1,(dM long g k).2,(k:Int))/\k<=n.length+1) (fun s=>n.length+1-s.2.2.toNat) ?_ F _ ⟨0,rfl,om⟩ bH;rintro s ⟨k,rfl,hk⟩;dsimp only;by_cases hk2:k<=n.length
 ·left
  refine⟨_,⟨k+1,rfl,om⟩,bH,fun rc=>?_⟩
  have Pt:sl n (aB ((n.length:Int)-(k:Int))) (n.length:Int)=n.drop (n.length-k):=by
   rw [bI om];unfold sl;simp
  rw [Pt,bI om,cE (by grind),af9 F p _ hF (by grind) (by grind) hp hit hv,aK,Option.bind_some,Option.bind_some,cG om,dM]
  grind
 grind
theorem aft(F:Nat)(x:J aF)(hF:x.length<F)(hx:x.length<50000000):slices_Reverse F x=some x.reverse:=by
 unfold slices_Reverse;have h0:aB ((x.length:Int)-1)=(x.length:Int)-1:=bI om;rw [h0];refine dn (fun s:Int×Int×J aF=>∃k:Nat,s.1=(k:Int)/\s.2.1=(x.length:Int)-1-(k:Int)/\2*k<=x.length+1/\s.2.2.length=x.length/\∀m,m<x.length->s.2.2.getD m fQ=cond (decide (m<k)||decide (x.length<=m+k)) (x.getD (x.length-1-m) fQ) (x.getD m fQ)) (fun s=>x.length-s.1.toNat) ?_ F _ ⟨0,rfl,si,om,rfl,fun m hm=>by grind⟩ bH;rintro⟨i,j,l⟩ ⟨k,h1,h2,h3,h4,h5⟩;dsimp only at h1 h2 h4 h5⊢;subst h1 h2;by_cases hk:(k:Int)<(x.length:Int)-1-(k:Int)
 ·left
  have hj:(x.length:Int)-1-(k:Int)=((x.length-1-k:Nat):Int):=om;rw [hj];refine⟨(((k+1:Nat):Int),((x.length-1-k-1:Nat):Int),(l.set k (l.getD (x.length-1-k) fQ)).set (x.length-1-k) (l.getD k fQ)),⟨k+1,rfl,by dsimp only;omega,om,by simp_all,fun m hm=>?_⟩,bH,fun rc=>?_⟩
  ·dsimp only
   grind
  ·rw [cM om,bQ om om,bQ om om,bQ om om,bQ om (by grind),Int.toNat_natCast,Int.toNat_natCast,cG om,wM om om]
 ·right
  intro rc;rw [cf hk];refine congrArg some (yX (by simp_all) fun m Pu hm2=>?_)
  grind
theorem ahp(F:Nat)(x:J aF)(hx:x.length<50000000):AA F x=some x:=by
 unfold AA
 grind [SE,rq,ig]
def DG(F:Nat)(it:aF):Bool:=cond (cond (cond (cond (decide (it.fKind<1)) true (decide (4<it.fKind))) true ((it.fText.length:Int) != cond (it.fKind==1) 1 0)) true (cond (it.fKind != 4) (cond it.Bv true (decide (0<(it.cH.length:Int)))) false)) true (!((nq F it.cH).getD false))
theorem Oq(F:Nat)(p:J aF)(hF:p.length+300<F)(hp:p.length<50000000)(hit:∀it∈p,mB it):ku F p=some (!p.any (DG F)):=by
 unfold ku;refine dn (fun s:Int=>∃k:Nat,s=(k:Int)/\k<=p.length/\(p.take k).any (DG F)=false) (fun s=>p.length-s.toNat) ?_ F _ ⟨0,rfl,om,rfl⟩ bH;rintro _ ⟨k,rfl,hk,hn⟩;by_cases hk:k<p.length
 ·have hI:=hit _ (ko hk)
  have hl:=hI.2.2;obtain⟨c,hc⟩:=Bw F p[k].cH om om;have hb:∀rc:Int->O Bool,cond (DG F p[k]) (some false) (rc ((k+1:Nat):Int))=_:=fun rc=>rfl;unfold DG at hb;rw [hc] at hb;have e:(p.take (k+1)).any (DG F)=DG F p[k]:=by grind [List.take_succ_eq_append_getElem]
  cases hv:DG F p[k] with
  | true=>
   right;intro rc;rw [cM (show (k:Int)<(p.length:Int) by omega),cj hk,ck,gd hk];rw [show p.any (DG F)=true from T4.2 ⟨_,ko hk,hv⟩];unfold DG at hv
   grind
  | false=>
   left;refine⟨_,⟨k+1,rfl,om,by rw [e,hv]⟩,bH,fun rc=>?_⟩;rw [cM (show (k:Int)<(p.length:Int) by omega),cj hk,ck,gd hk];unfold DG at hv
   grind [cG]
 grind
theorem ahq(F:Nat)(p:J aF)(n:Bs)(long:Bool)(hF:p.length+300<F)(qP:n.length+1<F)(hn:n.length<50000000)(hp:p.length<50000000)(hit:∀it∈p,mB it):
  ∃r:Int×Bool,(∃j:Nat,r.1=(j:Int)/\j<=n.length/\(r.2=false->j=0))/\oP F p n long=some r/\rT F p n long=some r:=by
 have hv:=Oq F p hF hp hit;rw [<-Hj F p hF hp hit] at hv;have ajx:=fun it h=>hit it (List.mem_reverse.1 h);have hlr:p.reverse.length=p.length:=List.length_reverse;have hvr:=Oq F p.reverse (by rw [hlr];exact hF) (by rw [hlr];exact hp) ajx;rw [<-Hj F p.reverse (by rw [hlr];exact hF) (by rw [hlr];exact hp) ajx] at hvr;refine⟨_,?_,?_,afs F p n long hF qP hn hp hit hv⟩
 ·obtain⟨j,h1,h2,h3⟩:=aaO long (fun k=>(!p.any (DG F))&&EE p (n.drop (n.length-k)) p.length (n.drop (n.length-k)).length) (n.length+1)
  grind
 ·unfold oP
  rw [ahp F p hp,aH,aft F p om hp,aH,r7 om,WD F p.reverse n.reverse long (by rw [hlr];exact hF) bH (by simpa using hn) (by rw [hlr];exact hp) ajx hvr]
  grind [List.length_reverse,Ig,ant]
theorem afu(F:Nat)(p:J aF)(n:Bs)(long:Bool)(hF:p.length+300<F)(qP:n.length+1<F)(hn:n.length<50000000)(hp:p.length<50000000)(hit:∀it∈p,mB it):
  ∃r:Int×Bool,(∃j:Nat,r.1=(j:Int)/\j<=n.length/\(r.2=false->j=0))/\oQ F p n long=some r/\rU F p n long=some r:=by
 have hv:=Oq F p hF hp hit;have qd:=hv;rw [<-Hj F p hF hp hit] at qd;refine⟨_,?_,?_,afr F p n long hF qP hn hp hit hv⟩
 ·obtain⟨j,h1,h2,h3⟩:=aaO long (fun k=>(!p.any (DG F))&&EE p n p.length k) (n.length+1)
  grind
 ·unfold oQ
  grind [WD]
theorem alG(a b:Bs)(c:Int):rj (aG.mk (a++b) c)=rj (aG.mk a c)++rj (aG.mk b c):=by
 unfold rj
 grind
theorem ajy(o:J aG)(r:aG):(qz o r).flatMap rj=o.flatMap rj++rj r:=by
 obtain⟨t,c⟩:=r;unfold qz
 cases h1:(t==[]) with
 | true=>
  have:rj (aG.mk [] c)=[]:=by unfold rj;simp_all
  simp_all
 | false=>
  rw [aU]
  cases h2:(decide (0<o.length)&&((o.getD (o.length-1) dc).bZ==c)) with
  | true=>
   rw [cx,fW] at h2;have hk:o.length-1<o.length:=om;have hc:=eq_of_beq h2.2
   have ho:o=o.take (o.length-1)++[o.getD (o.length-1) dc]:=by
    rw [gd hk,<-qA hk,show o.length-1+1=o.length by omega,Bb]
   rw [bw,ajF,if_pos hk,show o.length-1+1=o.length by omega,Qf,ac9,List.flatMap_singleton,alG]
   conv=>rhs;rw [ho]
   rw [ac9,List.flatMap_singleton,Fs]
   rw [<-hc]
  | false=>simp_all
theorem WE:∀(l o:J aG),(l.foldl qz o).flatMap rj=o.flatMap rj++l.flatMap rj
 | [],o=>by simp
 | r::l,o=>by rw [Dc,WE l,ajy,Xy,Fs]
theorem ajz(F:Nat)(l:J aG)(hF:100000000<=F)(h1:l.length<=26000)(h2:cC l<=5000000):∃p,((∀it∈p,mB it)/\p.length<=5000000)/\iI F (nF l)=some p/\jK F l=some p:=by
 obtain⟨p,hp1,hp2⟩:=adV F l om om om om;obtain⟨q,⟨g1,g2⟩,hq⟩:=aa4 F l om om om om;rw [hp1] at hq;obtain rfl:=uy hq;refine⟨p,⟨g1,om⟩,?_,hp2⟩;obtain⟨j1,j2⟩:=Ld l [];have e0:cC ([]:J aG)=0:=rfl;have hj1:cC (nF l)<=5000000:=by unfold nF;omega
 have hj2:(nF l).length<=26000:=by unfold nF;grind
 rw [<-hp1];unfold iI;rw [Kg F l om om om om,Kg F (nF l) om om om om];have:=WE l [];rw [List.flatMap_nil,pV] at this;unfold nF;rw [this]
theorem acO(F:Nat)(hF:100000000<=F):TU F:=by
 intro op v l h6 h9 hv h1 h2;obtain⟨p,⟨g1,g2⟩,e1,e2⟩:=ajz F l hF h1 h2;have hs:=fun b=>ahq F p v b om om om om g1;have hq:=fun b=>afu F p v b om om om om g1;have sl0:sl v 0 (v.length:Int)=v:=by unfold sl;simp
 have hS:∀b,T2 (fun a b:Bs=>a=b/\b.length<=v.length) ((oP F p v b).bind fun x3=>
  cond x3.2
  (rq ((decide (0<=aB ((v.length:Int)-x3.1)))&&(decide (aB ((v.length:Int)-x3.1)<=(v.length:Int)))) (some (sl v 0 (aB ((v.length:Int)-x3.1)))))
  (some v)) ((rT F p v b).bind fun x2=>
  rq ((decide (0<=aB ((v.length:Int)-x2.1)))&&(decide (aB ((v.length:Int)-x2.1)<=(v.length:Int)))) (some (sl v 0 (aB ((v.length:Int)-x2.1))))):=by
  intro b;obtain⟨⟨i,f⟩,⟨j,rfl,h1,h2⟩,r1,r2⟩:=hs b;rw [r1,r2,aH,aH];rw [bI om,bQ om om]
  cases f with
  | true=>exact⟨_,_,⟨rfl,by unfold sl;simp⟩,rfl,rfl⟩
  | false=>
   refine⟨_,_,⟨?_,?_⟩,rfl,rfl⟩
   ·simp_all
   ·unfold sl;simp
 have hP:∀b,T2 (fun a b:Bs=>a=b/\b.length<=v.length) ((oQ F p v b).bind fun x4=>
  cond x4.2
  (rq ((decide (0<=x4.1))&&((decide (x4.1<=(v.length:Int)))&&(decide ((v.length:Int)<=(v.length:Int))))) (some (sl v x4.1 (v.length:Int))))
  (some v)) ((rU F p v b).bind fun x4=>
  rq ((decide (0<=x4.1))&&((decide (x4.1<=(v.length:Int)))&&(decide ((v.length:Int)<=(v.length:Int))))) (some (sl v x4.1 (v.length:Int)))):=by
  intro b;obtain⟨⟨i,f⟩,⟨j,rfl,h1,h2⟩,r1,r2⟩:=hq b;rw [r1,r2,aH,aH];rw [cE (by simp_all)]
  cases f with
  | true=>exact⟨_,_,⟨rfl,by unfold sl;simp⟩,rfl,rfl⟩
  | false=>
   obtain rfl:=h2 rfl;refine⟨_,_,⟨?_,?_⟩,rfl,rfl⟩
   ·exact sl0.symm
   ·unfold sl;simp
 have jjl:∀ {σ R:Type}(a:σ)(G:σ->O R),jj (some (.inl a)) G=G a:=fun _ _=>rfl;have jjr:∀ {σ R:Type}(a:R)(G:σ->O R),jj (some (.inr a)) G=some a:=fun _ _=>rfl;have hd:∀b,T2 (fun a b:Bs=>a=b/\b.length<=v.length) (jj (σ:=Bool) (R:=Bs) (jj (σ:=Bool) (R:=Bool ⊕ Bs) (some (.inl b)) fun x2=>
  (oP F p v x2).bind fun x3=>
  cond x3.2
  (rq ((decide (0<=aB ((v.length:Int)-x3.1)))&&(decide (aB ((v.length:Int)-x3.1)<=(v.length:Int)))) (some (.inr (sl v 0 (aB ((v.length:Int)-x3.1))))))
  (some (.inr v))) fun x1=>
  (oQ F p v x1).bind fun x4=>
  cond x4.2
  (rq ((decide (0<=x4.1))&&((decide (x4.1<=(v.length:Int)))&&(decide ((v.length:Int)<=(v.length:Int))))) (some (sl v x4.1 (v.length:Int))))
  (some v)) ((rT F p v b).bind fun x2=>
  rq ((decide (0<=aB ((v.length:Int)-x2.1)))&&(decide (aB ((v.length:Int)-x2.1)<=(v.length:Int)))) (some (sl v 0 (aB ((v.length:Int)-x2.1))))):=by
  intro b;rw [jjl];have:=hS b;obtain⟨r,-,r1,-⟩:=hs b;rw [r1,aH] at this⊢
  cases h:r.2 with
  | false=>simp_all
  | true=>
   rw [h,bw] at this;unfold rq at this⊢
   cases h3:((decide (0<=aB ((v.length:Int)-r.1)))&&(decide (aB ((v.length:Int)-r.1)<=(v.length:Int)))) with
   | true=>simp_all
   | false=>rw [h3] at this;exact this
 unfold E0 ET
 grind
theorem anu(F:Nat)(b c:Int)(s:Bs)(hF:s.length<F)(hs:s.length<=5000):∃k,EU F b c s=some k:=by
 have:aA (fun _=>True) (EU F b c s):=by
  refine aA.cb (fun _=>aA.ok trivial) fun _=>?_;refine aA.lp (fun i=>∃n:Nat,i=(n:Int)/\n<=s.length) (fun i=>s.length-i.toNat) ⟨0,rfl,om⟩ (by simp_all) ?_;rintro _ ⟨n,rfl,hn⟩ rc hrc;refine aA.cd (fun h=>?_) fun _=>aA.ok trivial;rw [bQ om om,bQ om om,bh om];simp [aK];exact aA.cb (fun _=>aA.ok trivial) fun _=>aA.cb (fun _=>aA.ok trivial) fun _=>hrc _ ⟨n+1,rfl,om⟩ (by grind)
 obtain⟨r,-,h⟩:=this;exact⟨r,h⟩
def EL(k:Nat)(l:J cJ):Prop:=l.length<=k/\∀e∈l,e.fG.length<=1
theorem EL.snoc{k:Nat}{l:J cJ}(h:EL k l){e:cJ}(he:e.fG.length<=1):EL (k+1) (l++[e]):=⟨by have:=h.1;simp;omega,fun x hx=>by
 rcases wH.1 hx with hx|hx
 ·exact h.2 x hx
 simp_all⟩
theorem EL.mono{k j:Nat}{l:J cJ}(h:EL k l)(hj:k<=j):EL j l:=⟨by have:=h.1;omega,h.2⟩
theorem anv{l:J aG}{k:Nat}(h:k<l.length):cC (l.take (k+1))=cC (l.take k)+(l.getD k dc).fText.length:=by
 rw [qA h,Bx,gd h];simp [cC]
theorem ajA(l:J aG)(k:Nat):cC (l.take k)<=cC l:=by
 grind [Bx,List.take_append_drop]
theorem anw(F:Nat)(l:J aG)(s:Bs)(hF:l.length+cC l+5000<F)(h1:l.length<=1000000)(h2:cC l<=10000000)(hs:s.length<=5000):aA (EL (l.length+cC l)) (BV F l s):=by
 refine aA.lp (fun z=>∃k:Nat,z.2=(k:Int)/\k<=l.length/\EL (k+cC (l.take k)) z.1) (fun z=>l.length-z.2.toNat) ⟨0,rfl,om,by simp [EL]⟩ (by grind) ?_;rintro⟨o,_⟩ ⟨k,rfl,h3,h4⟩ rc hrc;refine aA.cd (fun h=>?_) fun h=>aA.ok (h4.mono (by grind));have hk:k<l.length:=om;have hz:=anv hk;have ht:=ajA l (k+1);have ho:=h4.1;have hm:l.length-Int.toNat ((k+1:Nat):Int)<l.length-Int.toNat (k:Int):=om;rw [bQ om om,bh om,ck];generalize l.getD k dc=r at hz
 have add:∀(c d:Int),aA (EL (l.length+cC l)) (rq ((decide (o.length+([cJ.mk [] c d]:J cJ).length<=9223372036854775807))&&(decide ((o.length+([cJ.mk [] c d]:J cJ).length)*32<=140737488355328))) (rc (o++[cJ.mk [] c d],((k+1:Nat):Int)))):=fun c d=>
  aA.rq (nI (by grind) de) (hrc _ ⟨k+1,rfl,hk,(h4.snoc (Nat.zero_le _)).mono om⟩ hm)
 simp only [aK];refine aA.cb (fun _=>add _ _) fun _=>aA.cb (fun _=>add _ _) fun _=>aA.cb (fun _=>?_) fun _=>hrc _ ⟨k+1,rfl,hk,h4.mono om⟩ hm;refine aA.lp (fun z=>∃i:Nat,z.2=(i:Int)/\i<=r.fText.length/\EL (k+cC (l.take k)+i) z.1) (fun z=>r.fText.length-z.2.toNat) ⟨0,rfl,om,h4⟩ (by grind) ?_;rintro⟨o,_⟩ ⟨i,rfl,i1,i2⟩ rc' Ip;refine aA.cd (fun h=>?_) fun h=>hrc _ ⟨k+1,rfl,hk,i2.mono om⟩ hm;have ho:=i2.1;obtain⟨d,hd⟩:=anu F ((r.fText.getD (Int.toNat (i:Int)) 0).toNat:Int) r.bZ s om hs;rw [bh om,CB om om om,bQ om om,hd];have:=sI r.fText i (i+1);exact aA.rq (nI (by grind) de) (Ip _ ⟨i+1,rfl,om,i2.snoc (by simp_all)⟩ (by grind))
theorem ahr(F:Nat)(l:J cJ)(a:Nat)(hF:l.length<F)(hl:l.length<=100000000)(ha:a<=l.length):aA (fun r=>∃e:Nat,r=(e:Int)/\a<=e/\e<=l.length) (EV F l (a:Int)):=by
 refine aA.lp (fun i=>∃n:Nat,i=(n:Int)/\a<=n/\n<=l.length) (fun i=>l.length-i.toNat) ⟨a,rfl,om,ha⟩ (by grind) ?_;rintro _ ⟨n,rfl,h1,h2⟩ rc hrc;by_cases h:n<l.length
 ·rw [cM om,bQ om om,bh om]
  exact aA.cb (fun _=>hrc _ ⟨n+1,rfl,om,om⟩ (by grind)) fun _=>aA.ok ⟨n,rfl,h1,h2⟩
 ·grind [aA.ok]
theorem ajB(F:Nat){k:Nat}(l:J cJ)(h:EL k l)(hF:k<F)(hk:k<=100000000):aA (fun r:J (J cJ)=>r.length<=k+1/\∀f∈r,EL k f) (Aw F l):=by
 have hl:=h.1;unfold Aw;refine aA.lp (fun z:J (J cJ)×J cJ×Int=>∃i:Nat,z.2.2=(i:Int)/\i<=l.length/\z.1.length<=i/\(∀f∈z.1,EL k f)/\EL i z.2.1) (fun z=>l.length-z.2.2.toNat) ⟨0,rfl,om,si,(fun _ h=>nomatch h),by simp [EL]⟩ (by grind) ?_;rintro⟨o,f,_⟩ ⟨i,rfl,h1,h2,h3,h4⟩ rc hrc;dsimp only at h2 h3 h4 hrc⊢;have hfl:=h4.1;have hm:∀j:Nat,i<j->j<=l.length->l.length-Int.toNat (j:Int)<l.length-Int.toNat (i:Int):=fun j h1 h2=>by omega
 have Dj:∀x∈o++[f],EL k x:=fun x hx=>by
  rcases wH.1 hx with hx|hx
  ·exact h3 x hx
  ·obtain rfl:=J2.1 hx;exact h4.mono om
 refine aA.cd (fun h'=>?_) fun _=>aA.cd (fun _=>aA.rq (nI (by grind) de) (aA.ok ⟨bH,Dj⟩)) fun _=>aA.ok ⟨by grind,h3⟩;have hi:i<l.length:=om;rw [bQ om om,bh (i:=i) om,bQ om om,ck,gd hi];refine aA.cb (fun _=>aA.rq (nI (by grind) de) (hrc _ ⟨i+1,rfl,hi,by dsimp only;omega,h3,h4.snoc (h.2 _ (List.getElem_mem hi))⟩ (hm _ om hi))) fun _=>?_;refine aA.bd (ahr F l i om om om) fun r ⟨e,e1,e2,e3⟩=>?_;rw [e1];refine aA.bd (P:=fun z:Bool×Int=>∃j:Nat,z.2=(j:Int)/\i<j/\j<=l.length) ?_ fun⟨b,_⟩ ⟨j,e4,j1,j2⟩=>?_
 ·refine aA.bd (P:=fun b=>b=true->e<l.length) (aA.cd (fun h=>aA.rq (jN om om) (aA.ok fun _=>om)) fun _=>aA.ok fun h=>nomatch h) fun b hb=>aA.cb (fun h=>?_) fun _=>?_
  ·have:=hb h
   rw [bh om];exact aA.bd (ahr F l (e+1) om om om) fun r ⟨j,j1,j2,j3⟩=>aA.ok ⟨j,j1,om,j3⟩
  ·by_cases he:e=i
   ·grind [aA.ok]
   ·rw [show ((e:Int)==(i:Int))=false from by simp;omega]
    grind [aA.ok]
 ·dsimp only at e4⊢
  subst e4;refine aA.cb (fun _=>aA.rq (nI (by grind) de) (hrc _ ⟨j,rfl,j2,bH,Dj,by simp [EL]⟩ (hm j j1 j2))) fun _=>hrc _ ⟨j,rfl,j2,by dsimp only;omega,h3,h4.mono om⟩ (hm j j1 j2)
theorem acP:∀(l:J aG)(k:Nat)(r:aG),k<l.length->cC (l.set k r)+(l.getD k dc).fText.length=cC l+r.fText.length
 | [],k,r,h=>absurd h (ac8 _)
 | a::l,0,r,h=>by simp [cC];omega
 | a::l,k+1,r,h=>by
  have:=acP l k r (by simpa using h);simp [cC] at this⊢;omega
theorem anx(F:Nat){k:Nat}(l:J cJ)(h:EL k l)(hF:k<F)(hk:k<=100000000):aA (fun r:J aG=>r.length<=k/\cC r<=k) (K5 F l):=by
 have hl:=h.1;refine aA.lp (fun z:Int×J aG=>∃i:Nat,z.1=(i:Int)/\i<=l.length/\z.2.length<=i/\cC z.2<=i) (fun z=>l.length-z.1.toNat) ⟨0,rfl,om,si,by simp [cC]⟩ (by grind) ?_;rintro⟨_,o⟩ ⟨i,rfl,h1,h2,h3⟩ rc hrc;dsimp only at h2 h3 hrc⊢;refine aA.cd (fun h'=>?_) fun _=>aA.ok ⟨by grind,by show cC o<=_;omega⟩;have hi:i<l.length:=om;have hm:l.length-Int.toNat ((i+1:Nat):Int)<l.length-Int.toNat (i:Int):=om;have ht:=h.2 _ (ko hi);refine aA.bd (P:=fun z:Bool×J aG=>z.2=o/\(z.1=true->0<o.length)) ?_ fun⟨b,o2⟩ ⟨e,hb⟩=>?_
 ·refine aA.cd (fun h0=>?_) fun _=>aA.ok ⟨rfl,fun h=>nomatch h⟩
  rw [wM om om]
  grind [aA.rq,jN,aA.ok]
 have e:o=o2:=e.symm;subst e;rw [bh (i:=i) om];have eg:l.getD i oA=l[i]:=gd hi;simp only [ck,eg];refine aA.cb (fun hb'=>?_) fun _=>?_
 ·have h0:=hb hb'
  have hs:=acP o (o.length-1) (aG.mk ((o.getD (o.length-1) dc).fText++l[i].fG) (o.getD (o.length-1) dc).bZ) om;rw [wM om h0];simp only [ck];have hg:(o.getD (o.length-1) dc).fText.length<=cC o:=by rw [gd om];exact akA (ko _)
  grind [aA.rq,jN,decide_eq_true]
 ·refine aA.rq (jN om om) (aA.rq (jN om om) (aA.rq (nI (by grind) de) (hrc _ ⟨i+1,rfl,hi,bH,?_⟩ hm)))
  rw [Bx];show cC o+(l[i].fG.length+0)<=_;omega
theorem ajC(F:Nat)(l:J aG)(s:Bs)(hF:100000000<=F)(h1:l.length<=100000)(h2:cC l<=5000000)(hs:s.length<=5000):aA (fun r=>r.length<=6000000/\∀f∈r,f.length<=6000000/\cC f<=6000000) (Gj F l s):=by
 refine aA.bd (anw F l s om om om hs) fun es YM=>aA.bd (ajB F es YM om om) fun fs ⟨hf1,hf2⟩=>?_;refine aA.lp (fun z=>∃k:Nat,z.2=(k:Int)/\k<=fs.length/\z.1.length<=k/\∀f∈z.1,f.length<=6000000/\cC f<=6000000) (fun z=>fs.length-z.2.toNat) ⟨0,rfl,om,si,fun _ h=>nomatch h⟩ (by grind) ?_;rintro⟨o,_⟩ ⟨k,rfl,h3,h4,h5⟩ rc hrc;refine aA.cd (fun h=>?_) fun _=>aA.ok ⟨by grind,h5⟩;have hk:k<fs.length:=om;rw [bQ om om,bh om,ck,gd hk];refine aA.bd (anx F _ (hf2 _ (List.getElem_mem hk)) om om) fun r hr=>aA.rq (nI (by grind) de) (hrc _ ⟨k+1,rfl,hk,bH,fun f hf=>?_⟩ (by grind))
 grind
theorem ahs(F:Nat)(r:J aG)(hF:100000000<=F)(h1:r.length<=10000000)(h2:cC r<=10000000):∃b,tu F r=some b:=by
 have hcl:=ahY r
 obtain⟨b,-,h⟩:=adO (F:=F) (r:=r) om om om om fun c hc=>by
  have:=amk r c hc;obtain⟨p,⟨g1,g2⟩,h⟩:=Yw F c om om om om;obtain⟨x,hx⟩:=Yx F p om om g1;exact⟨p,x,h,hx⟩
 exact⟨b,h⟩
theorem alH(F:Nat)(l:J TPart)(p:dz){s:aX}(hN:NC<=F)(hF:100000000<=F)(hl:fU l<=1000)(hs:mL s)(hst:stop s=false):aA (fun r=>RB (fU l) r.1/\mL r.2) (DU F l p s):=by
 obtain⟨a,b,⟨h1,h2,-⟩,-,e⟩:=aki (fl:=[]) hN hF (acO F hF) F F l (cQ.mk p.eY p.jW 0) p s ⟨rfl,rfl⟩ hs hst hl om om;exact⟨b,⟨h2,h1⟩,e⟩
theorem aht(F:Nat)(e:ec)(w:J ja)(a:J gu)(hN:NC<=F)(hF:100000000<=F)(hw:w.length<=100)(hp:∀x∈w,fU x.fParts<=1000)(he:WA e)(hA:yJ e.bP)(ha:(∀x∈a,x.fText.length<=60)/\a.length<=100):∃b,tH F e w a=some b:=by
 have:aA (fun _=>True) (tH F e w a):=by
  unfold tH xG;refine aA.lp (fun z=>∃k:Nat,z.2.1=(k:Int)/\k<=w.length/\mL z.2.2) (fun z=>w.length-z.2.1.toNat) ⟨0,rfl,om,⟨he,ha.1,ha.2,0,rfl,Nat.zero_le _⟩,hA,fun _=>rfl⟩ (by grind) ?_;rintro⟨n,_,s⟩ ⟨k,rfl,h1,h2⟩ rc hrc;dsimp only at h2 hrc⊢;refine aA.bd (P:=fun b=>b=true->k<w.length/\stop s=false) (aA.cd (fun h=>?_) fun _=>aA.ok fun h=>nomatch h) fun b hb=>aA.cb (fun h=>?_) fun _=>aA.ok trivial
  ·simp_all [qy,aA.ok]
  obtain⟨hk,hst⟩:=hb h;rw [bQ om om,bh om,ck,gd hk];have hpk:=hp _ (ko hk);refine aA.bd (alH F _ _ hN hF hpk h2 hst) fun r ⟨r1,r2⟩=>?_;have hV:=r2.1.1.1;have hvl:=hV.1;have q1:=r1.1;have q2:=r1.2;refine aA.bd ?_ fun ifs ap1=>aA.bd (ajC F r.1 ifs hF om om ap1) fun fs ⟨f1,f2⟩=>?_
  ·unfold Oa
   rw [xP F _ _ om om];exact aA.cb (fun _=>aA.ok (by grind [Ow])) fun _=>aA.ok de
  refine aA.lp (fun z=>∃i:Nat,z.2=(i:Int)/\i<=fs.length) (fun z=>fs.length-z.2.toNat) ⟨0,rfl,om⟩ (by grind) ?_;rintro⟨n',_⟩ ⟨i,rfl,i1⟩ rc' Ip;refine aA.cd (fun h=>?_) fun _=>hrc _ ⟨k+1,rfl,hk,r2⟩ (by grind);have hi:i<fs.length:=om;have hfi:=f2 _ (ko hi);obtain⟨b,hb⟩:=ahs F fs[i] hF om om;rw [bQ om om,bh om,ck,gd hi,ahj F _ om om om,aH,bQ om om,hb,aH,aK];exact aA.cb (fun _=>aA.ok trivial) fun _=>Ip _ ⟨i+1,rfl,om⟩ (by grind)
 obtain⟨b,-,h⟩:=this;exact⟨b,h⟩
theorem aA.sc{R:Type}{Q:R->Prop}{c:Bool}{x y:R}(a:c=true->Q x)(b:c=false->Q y):aA Q (some (cond c x y)):=by
 grind [aA.ok]
theorem alI(F:Nat)(e:ec)(hF:100<F):aA (fun b=>b=true->(e.bP.length<=12/\∀v∈e.bP,v.fName.length<=60/\v.bJ.length<=60)/\e.cA.length<=12/\(∀x∈e.cA,x.length<=60)/\e.fName.length<=60) (Cr F e):=by
 unfold Cr;simp only [aK,aH];refine aA.cb (fun _=>aA.ok fun h=>nomatch h) fun hc=>?_;simp at hc;refine aA.lp (fun i=>∃k:Nat,i=(k:Int)/\k<=e.bP.length/\∀v∈e.bP.take k,v.fName.length<=60/\v.bJ.length<=60) (fun i=>e.bP.length-i.toNat) ⟨0,rfl,om,si⟩ (by grind) ?_;rintro _ ⟨k,rfl,h1,h2⟩ rc hrc;refine aA.cd (fun h=>?_) fun h=>?_
 ·have hk:k<e.bP.length:=om
  rw [bQ om om,bQ om om,bh om,ck,gd hk,aK,aH];refine aA.cb (fun _=>aA.ok fun h=>nomatch h) fun hv=>hrc _ ⟨k+1,rfl,hk,fun v iZ=>?_⟩ (by grind)
  grind [List.take_succ_eq_append_getElem,List.mem_singleton,cT,Bool.or_eq_false_iff,decide_eq_false_iff_not]
 ·have h2:∀v∈e.bP,v.fName.length<=60/\v.bJ.length<=60:=by grind
  refine aA.lp (fun i=>∃k:Nat,i=(k:Int)/\k<=e.cA.length/\∀v∈e.cA.take k,v.length<=60) (fun i=>e.cA.length-i.toNat) ⟨0,rfl,om,si⟩ (by grind) ?_;rintro _ ⟨k,rfl,p1,p2⟩ rc' Ip;refine aA.cd (fun h=>?_) fun h=>aA.ok fun _=>⟨⟨om,h2⟩,om,by grind,om⟩;have hk:k<e.cA.length:=om;rw [bQ om om,bh om,ck,gd hk];refine aA.cd (fun _=>aA.ok fun h=>nomatch h) fun hv=>Ip _ ⟨k+1,rfl,hk,fun v iZ=>?_⟩ (by grind)
  grind [List.take_succ_eq_append_getElem,List.mem_singleton]
theorem alJ(F:Nat)(l:J bD)(hF:200<F):aA (fun r=>r=0->yJ l) (Cs F l):=by
 unfold Cs;refine aA.cd (fun _=>aA.ok fun h=>nomatch h) fun hl=>?_;refine aA.lp (fun i:Int=>∃k:Nat,i=(k:Int)/\k<=l.length/\yJ (l.take k)) (fun i=>l.length-i.toNat) ⟨0,rfl,om,List.Pairwise.nil⟩ (by grind) ?_;rintro _ ⟨k,rfl,h1,hA⟩ rc hrc;refine aA.cd (fun h=>?_) fun h=>aA.ok fun _=>by grind
 have hk:k<l.length:=om
 have lt:aA (fun b:Bool=>b=false->k=0\/(l.getD (k-1) dS).fName<(l.getD k dS).fName) (cond (decide (0<(k:Int))) (rq ((decide (0<=aB ((k:Int)-1)))&&(decide (aB ((k:Int)-1)<(l.length:Int)))) (rq ((decide (0<=(k:Int)))&&(decide ((k:Int)<(l.length:Int)))) (some (!(Op.bytesLess ((l.getD (Int.toNat (aB ((k:Int)-1))) dS).fName) ((l.getD (Int.toNat (k:Int)) dS).fName)))))) (some false)):=by
  refine aA.cd (fun h0=>?_) fun _=>aA.ok fun _=>.inl om;rw [wM om om]
  grind [aA.rq,jN,aA.ok,Kf]
 refine aA.rq (jN om om) (aA.bd (Ed F _ om) fun b _=>aA.cb (fun _=>aA.ok fun h=>nomatch h) fun _=>aA.rq (jN om om) (aA.cd (fun _=>aA.ok fun h=>nomatch h) fun _=>?_));refine aA.bd (P:=fun b:Bool=>b=false->k=0\/(l.getD (k-1) dS).fName<(l.getD k dS).fName) (aA.rq (jN om om) (aA.cb (fun _=>aA.rq (jN om om) (aA.cb (fun _=>aA.ok fun h=>nomatch h) fun _=>lt)) fun _=>lt)) fun b hb=>aA.cb (fun _=>aA.ok fun h=>nomatch h) fun hb0=>?_;rw [bh om];refine hrc _ ⟨k+1,rfl,hk,?_⟩ (by grind);unfold yJ at hA⊢;rw [qA hk,List.pairwise_append];refine⟨hA,ac2 _ _,fun a ha c hc=>?_⟩;obtain rfl:=J2.1 hc;obtain⟨m,hm,rfl⟩:=lB ha;have hm2:m<k:=by grind
 rcases hb hb0 with h0|h0
 ·omega
 ·rw [gd hk,gd (show k-1<l.length by omega)] at h0
  by_cases e:m=k-1
  ·simp_all
  ·have:=(List.pairwise_iff_getElem.1 hA) m (k-1) hm (by grind) om
   grind
def ajD(e:ec):Prop:=((e.bP.length<=12/\∀v∈e.bP,v.fName.length<=60/\v.bJ.length<=60)/\e.cA.length<=12/\(∀x∈e.cA,x.length<=60)/\e.fName.length<=60)/\e.tj=[]/\e.nK=[]/\e.tn=[]/\Ef e.Kb=true/\(0<=e.iy/\e.iy<=255)/\(0<=e.fC/\e.fC<=255)/\0<=e.Bq/\0<=e.og/\yJ e.bP
theorem aaP{α:Type}{l:J α}(h:¬ 0<(l.length:Int)):l=[]:=adf.1 om
theorem anz(F:Nat)(e:ec)(hF:1000<F):aA (fun b=>b=true->ajD e) (ES F e):=by
 unfold ES;obtain⟨b1,h1,e1⟩:=alI F e om;obtain⟨b2,oY,e2⟩:=alJ F e.bP om;rw [e1,e2,Ym F e.Kb om];simp only [aK,aH];refine aA.sc (fun _=>fun h=>nomatch h) fun hc=>fun ht=>?_;simp only [cT,cF,ac3,cx,ajG,Bool.not_eq_false',fW] at hc ht;exact⟨h1 hc.1.1.1.1.1,aaP hc.1.1.1.2,aaP hc.1.1.2,aaP hc.1.2,hc.2,om,om,om,om,oY (by simpa using hc.1.1.1.1.2)⟩
theorem alK(F:Nat)(l:J Bs)(hF:10000<F):aA (fun r=>r.1.length<=8/\∀w∈r.1,fU w.fParts<=160) (tT F l):=by
 refine aA.lp (fun z=>∃k:Nat,z.2=(k:Int)/\k<=8/\z.1.length<=k/\∀w∈z.1,fU w.fParts<=160) (fun z=>8-z.2.toNat) ⟨0,rfl,om,si,fun _ h=>nomatch h⟩ (by show 8-0<F;omega) ?_;rintro⟨o,_⟩ ⟨k,rfl,h1,h2,h3⟩ rc hrc;rw [aK];refine aA.cb (fun hc=>?_) fun _=>aA.ok ⟨by grind,h3⟩;rw [cF,cx] at hc;have c1:=ym hc.1;have c2:=ym hc.2;have no:aA (fun r:J ja×Bool=>r.1.length<=8/\∀w∈r.1,fU w.fParts<=160) (some ([],false)):=aA.ok ⟨si,fun _ h=>nomatch h⟩;refine aA.rq (jN om om) (aA.cd (fun _=>no) fun h80=>aA.rq (jN om om) (aA.bd (al2 F _ om om) fun r hr=>I7 (fun _=>no) fun _=>?_));rw [bh om];refine aA.rq (nI (by grind) de) (hrc _ ⟨k+1,rfl,om,bH,fun w hw=>?_⟩ (by grind))
 grind
theorem acQ{e:ec}(h:ajD e)(h1:K.gw e.Bq)(h2:K.gw e.og):WA e:=by
 obtain⟨⟨⟨a1,a2⟩,a3,a4,a5⟩,f1,f2,f3,-,-,h6,-⟩:=h;exact⟨⟨om,fun v hv=>by have:=a2 v hv;omega⟩,a3,a4,a5,⟨om,om⟩,h1,h2,f1,f2,f3⟩
def Rdy(j:uC)(w:J ja):Prop:=ajD j.nL/\VL j.oZ/\j.oZ.length<=40/\(j.jF.length<=12/\∀a∈j.jF,a.fText.length<=60)/\w.length<=8/\∀x∈w,fU x.fParts<=160
theorem alL(F:Nat)(j:uC)(hN:NC<=F)(hF:100000000<=F)(h1:K.gw j.nL.Bq)(h2:K.gw j.nL.og):aA (fun r=>r.2=true->Rdy j r.1) (Cu F j):=by
 unfold Cu;obtain⟨b,hb,e1⟩:=anz F j.nL om;obtain⟨c,hc,e2⟩:=ahT F j.oZ om;rw [e1,e2];simp only [aK,aH];refine aA.cb (fun _=>aA.ok fun h=>nomatch h) fun hx=>?_;simp at hx;have hfit:=hb hx.1.1.1;have hsm:=hc hx.1.2;have hge:=acQ hfit h1 h2;refine aA.lp (fun i=>∃k:Nat,i=(k:Int)/\k<=j.jF.length/\∀a∈j.jF.take k,a.fText.length<=60) (fun i=>j.jF.length-i.toNat) ⟨0,rfl,om,si⟩ (by grind) ?_;rintro _ ⟨k,rfl,k1,k2⟩ rc hrc;refine aA.cd (fun h=>?_) fun h=>?_
 ·have hk:k<j.jF.length:=om
  rw [bQ om om,bh om,ck];refine aA.cd (fun _=>aA.ok fun h=>nomatch h) fun hv=>hrc _ ⟨k+1,rfl,hk,fun v iZ=>?_⟩ (by grind)
  grind [List.take_succ_eq_append_getElem,List.mem_singleton]
 ·have k2:∀a∈j.jF,a.fText.length<=60:=by grind
  refine aA.bd (alK F j.Jf om) fun r ⟨r1,r2⟩=>?_;rw [afS F j.oZ om hsm];simp [aK];obtain⟨bd,hbd⟩:=aht F j.nL r.1 j.jF hN hF om (fun x hx=>by have:=r2 x hx;omega) hge hfit.2.2.2.2.2.2.2.2.2 ⟨k2,om⟩;rw [hbd,aH,aK];refine aA.sc (fun _=>fun h=>nomatch h) fun hy=>fun _=>?_;have hv:gW j.oZ=0:=by simp_all
  exact⟨hfit,(afU _).1 hv,om,⟨om,k2⟩,r1,r2⟩
theorem alM{F k:Nat}(h:k<=F):∃n,F=n+k:=⟨F-k,om⟩
theorem ahu(F:Nat)(e:ec)(hF:10<=F)(h1:e.bP.length<=1000)(h2:e.cA.length<=1000)(h3:e.tj=[])(h4:e.nK=[])(h5:e.tn=[]):qw F e=some e:=by
 obtain⟨m,rfl⟩:=alM hF;unfold qw yI vz vA vC vD;rw [h3,h4,h5,ig om de,ig om de];obtain⟨a1,a2,a3,a4,a5,a6,a7,a8,a9,a10,a11,a12,a13,a14⟩:=e;dsimp only at h3 h4 h5;subst h3 h4 h5;rfl
def ap2:ec:=ec.mk [] [] [] [] [] [] 0 0 0 0 [] (lT.mk 0 0) 0 false
def Lg(s:aX)(fs:J Bs):eu×Int:=cond (s.fe != 0) (eu.mk [] ap2 false [] s.fy 0,s.fe) (eu.mk (cond s.lu [] fs) s.cq s.lu s.uq [] s.jV,0)
theorem ahv(F:Nat){e:ec}(h:WA e)(hF:10<=F):qw F e=some e:=ahu F e hF (by have:=h.1.1;omega) (by have:=h.2.1;omega) h.2.2.2.2.2.2.2.1 h.2.2.2.2.2.2.2.2.1 h.2.2.2.2.2.2.2.2.2
theorem anA(F:Nat)(fl:J bt){s:aX}(h:mL s)(hs:stop s=false)(hF:10<=F)(fs:J Bs):eF F fs true (iH fl s)=some (Lg s fs):=by
 obtain⟨h1,h2⟩:=acJ hs;unfold eF;rw [bw,show (iH fl s).cq=s.cq from rfl,ahv F h.1.1 hF,aH];unfold Lg;rw [h1,h2,h.2.2 h2];rfl
theorem ajE(F:Nat){s:aX}{x:aM}(h:mL s)(hx:Fin x s)(hF:10<=F)(fs gs:J Bs)(hs:stop s=true):eF F fs false x=some (Lg s gs):=by
 unfold eF Lg;rw [aU];rcases hx with⟨h1,h2,h3,h4⟩|⟨h1,h2,h3,h4,h5⟩
 ·rw [h2,h3,h4,show (s.fe != 0)=true by simpa using h1];rfl
 ·have hw:s.lu=true:=by
   unfold stop at hs;rw [h1] at hs;exact hs
  rw [h2,h4,ahv F h.1.1 hF,h1,hw,h3,h5];rfl
def s0(e:ec)(a:J gu):aX:=aX.mk e a 0 (-1) 0 [] false []
theorem ap3{e:ec}{a:J gu}(h:WA e)(hA:yJ e.bP)(h1:∀x∈a,x.fText.length<=60)(h2:a.length<=100):mL (s0 e a):=⟨⟨h,h1,h2,0,rfl,fL _⟩,hA,fun _=>rfl⟩
section
variable {F : Nat} {fl : J bt}
theorem ap4(hN:NC<=F)(hF:100000000<=F)(w:ja)(hw:fU w.fParts<=200){s:aX}(h:mL s)(hs:stop s=false):T2 (fun a b=>RV fl a b/\b.1.length<=5000*fU w.fParts) (nD F w.fParts (cQ.mk false false 0) (iH fl s)) (Aq F w.fParts false s):=by
 obtain⟨n,rfl⟩:∃n,F=n+1:=⟨F-1,om⟩;exact acL (n:=n) hF (aki hN hF (acO _ hF) n) (n+1) w.fParts (cQ.mk false false 0) false s rfl h hs om om om
end
theorem alN:Cz 60=some true:=by
 unfold Cz
 try simp only [SE]
 kernel_rfl
theorem aaQ(F:Nat)(fs:J Bs)(s:aX):qx F fs s=some (Lg s fs):=by
 unfold qx Lg;cases s.fe != 0<;>cases s.lu<;>rfl
def SX(x:eu):Prop:=x.we.length<=1000/\NoF x.nL/\x.nL.bP.length<=1000/\x.nL.cA.length<=1000
theorem acR{s:aX}(h:mL s){fs:J Bs}(hf:fs.length<=1000):SX (Lg s fs).1:=by
 have h1:=h.1.1.1.1;have h2:=h.1.1.2.1;unfold Lg
 cases (s.fe != 0) with
 | true=>exact⟨fL _,⟨rfl,rfl,rfl⟩,fL _,fL _⟩
 | false=>exact⟨by show (cond s.lu [] fs).length<=_;cases s.lu<;>simp;exact hf,h.1.1.2.2.2.2.2.2.2,by show s.cq.bP.length<=_;omega,by show s.cq.cA.length<=_;omega⟩
theorem aaR(F n:Nat)(hF:n<F)(hn:n<=1000000)(p:Int->Bool)(hp:∀x,p x=false):bU (σ:=Int) (R:=Bool) (fun bn x1=>cond (decide (x1<(n:Int))) (rq ((decide (0<=x1))&&(decide (x1<(n:Int)))) (rq ((decide (0<=x1))&&(decide (x1<(n:Int)))) (cond (p x1) (some false) (bn (aB (x1+1)))))) (some true)) F 0=some true:=by
 refine dn (fun s:Int=>∃k:Nat,s=(k:Int)/\k<=n) (fun s=>n-s.toNat) ?_ F _ ⟨0,rfl,om⟩ bH;rintro _ ⟨k,rfl,hk⟩;by_cases hk:k<n
 ·left
  refine⟨_,⟨k+1,rfl,om⟩,bH,fun rc=>?_⟩;rw [cM om,cj hk,cj hk,hp,aU,cG om]
 ·right
  intro rc;rw [cf om]
theorem akj(F:Nat)(l:J Bs)(hF:l.length<F)(h:l.length<=1000000):nE F l l=some true:=by
 unfold nE;rw [Qj,aU];exact aaR F l.length hF h (fun x1=>!((l.getD (Int.toNat x1) [])==(l.getD (Int.toNat x1) []))) (fun x=>by simp)
theorem anB(F:Nat)(l:J bD)(hF:l.length<F)(h:l.length<=1000000):Fa F l l=some true:=by
 unfold Fa;rw [Qj,aU];exact aaR F l.length hF h (fun x1=>!(((l.getD (Int.toNat x1) dS).fName==(l.getD (Int.toNat x1) dS).fName)&&(((l.getD (Int.toNat x1) dS).bJ==(l.getD (Int.toNat x1) dS).bJ)&&(((l.getD (Int.toNat x1) dS).cH==(l.getD (Int.toNat x1) dS).cH)&&(((l.getD (Int.toNat x1) dS).tS==(l.getD (Int.toNat x1) dS).tS)&&(((l.getD (Int.toNat x1) dS).kZ==(l.getD (Int.toNat x1) dS).kZ)&&true)))))) (fun x=>by simp)
theorem aoV(F:Nat){x:eu}(hF:1000<F)(h:SX x):Fb F x x=some true:=by
 obtain⟨h1,⟨f1,f2,f3⟩,h2,h3⟩:=h
 have e:yh F x.nL x.nL=some true:=by
  unfold yh;rw [f1,f2,f3,anB F _ om om,akj F _ om om];simp
 unfold Fb;rw [akj F _ om om,e];simp
def RF(a b:eu×Int):Prop:=a=b/\SX a.1
section
variable {F : Nat} {fl : J bt}
theorem aoW(hN:NC<=F)(hF:100000000<=F)(n:Bs)(w:ja)(hw:fU w.fParts<=200){s:aX}(h:mL s)(hs:stop s=false):
  T2 (RA fl) ((nD F w.fParts (cQ.mk false false 0) (iH fl s)).bind fun x=>cond x.2.1 (fm F n x.1 x.2.2) (some (false,x.2.2))) ((Aq F w.fParts false s).bind fun y=>fA F n y.1 y.2):=by
 refine T2.bd (ap4 hN hF w hw h hs) ?_;rintro⟨t,ok,x⟩ ⟨t',s'⟩ ⟨⟨⟨g1,g2,g3⟩,-⟩,-⟩;rcases g3 with⟨k1,k2⟩|⟨k1,k2,k3,-⟩
 ·grind [VA]
 ·subst k2
  rw [afo F k1];exact T2.ok ⟨g1,.inr ⟨k1,rfl,k3⟩⟩
end
theorem alO{F:Nat}(hN:NC<=F)(hF:100000000<=F)(fl:J bt){e:ec}{a:J gu}(l:J jO)(hl:l.length<=1000)(hw:∀y∈l,fU y.bJ.fParts<=200)(he:WA e)(hA:yJ e.bP)(h1:∀x∈a,x.fText.length<=60)(h2:a.length<=100):
  T2 RF (yg F e fl l a) (AH F e fl l a):=by
 unfold yg AH vn xG
 refine T2.lpe (fun (z:Int×aM)(y:Int×aX)=>∃k:Nat,k<=l.length/\z=((k:Int),iH fl y.2)/\y.1=(k:Int)/\mL y.2/\stop y.2=false) (fun z=>l.length-z.1.toNat)
  (fun (u:aX)(y:Int×aX)=>stop u=true/\y.2=u/\∃k:Nat,y.1=(k:Int)/\k<=l.length) (fun y=>l.length-y.1.toNat) (fun u y=>y=Lg u []) ⟨0,Nat.zero_le _,rfl,rfl,ap3 he hA h1 h2,show stop (s0 e a)=false from rfl⟩ (by grind) ?_ ?_
 ·rintro⟨i,x⟩ ⟨i',s⟩ ⟨k,h3,h4,h5,h8,h9⟩ q1 q2 hrc hex
  cases h4;subst h5;rw [qy,h9];by_cases hk:k<l.length
  ·have Pu:l.length-Int.toNat ((k+1:Nat):Int)<l.length-Int.toNat (k:Int):=om
   have hst:=aoW (fl:=fl) hN hF (l.getD k uI).fName (l.getD k uI).bJ (by simp_all) h8 h9;obtain⟨⟨ok,x'⟩,s',⟨g1,g2⟩,e1,e2⟩:=hst;obtain⟨⟨t,ok1,x1⟩,e3,e4⟩:=XC.1 e1;obtain⟨⟨t',s1⟩,e5,e6⟩:=XC.1 e2;rw [cM om,cM om,aH,aH,sF,bw,cj hk,cj hk,ck,e3,e5,aH,aH,cj hk,e6,aH,cG om]
   have e7:(cond (!ok1) (some (true,x1)) ((fm F (l.getD k uI).fName t x1).bind fun x6=>some (!x6.1,x6.2)):O (Bool×aM))=some (!ok,x'):=by
    grind
   rw [e7,aH];rcases g2 with⟨k1,k2⟩|⟨k1,k2,k3⟩
   ·grind
   ·subst k2
    obtain⟨y,rfl,hy⟩:=hex s' (((k+1:Nat):Int),s') ⟨k1,rfl,k+1,rfl,hk⟩ Pu;rw [hy];rw [sF,bw,ajE F g1 k3 om [] [] k1];exact T2.ok ⟨rfl,acR g1 (fL _)⟩
  ·rw [cf om,cf om,aH,aU]
   rw [anA F fl h8 h9 om,aaQ];exact T2.ok ⟨rfl,acR h8 (fL _)⟩
 simp_all [qy,aH,aU,aaQ,aA.ok]
theorem anC(F:Nat)(l:J Bs)(hF:100<F):aA (fun _=>True) (Cv F l 8 60):=by
 unfold Cv;refine aA.lp (fun i:Int=>∃k:Nat,i=(k:Int)/\k<=9) (fun i=>9-i.toNat) ⟨0,rfl,om⟩ (by show 9-0<F;omega) ?_;rintro _ ⟨k,rfl,hk⟩ rc hrc;refine aA.bd (P:=fun b=>b=true->k<l.length/\k<=8) (aA.cd (fun h=>aA.ok fun h'=>⟨om,by have:=ym h';omega⟩) fun _=>aA.ok fun h=>nomatch h) fun b hb=>aA.cb (fun h=>?_) fun _=>aA.ok trivial;obtain⟨g1,g2⟩:=hb h;rw [cj g1,cG om];exact aA.cb (fun _=>aA.ok trivial) fun _=>hrc _ ⟨k+1,rfl,om⟩ om
theorem expandAssigns(j:uC)(names:J Bs)(h1:K.gw j.nL.Bq)(h2:K.gw j.nL.og):∃F,jo F j names=some true:=by
 obtain⟨F,hN,hF⟩:∃F,NC<=F/\100000000<=F:=⟨NC+100000000,om,om⟩;refine⟨F,?_⟩;obtain⟨r,hr,e⟩:=alL F j hN hF h1 h2;obtain⟨b,-,eb⟩:=anC F names om;unfold jo;rw [e,aH,alN,eb]
 cases hb:r.2 with
 | false=>rfl
 | true=>
  obtain⟨hfit,-,-,⟨a1,a2⟩,w1,w2⟩:=hr hb;have hge:=acQ hfit h1 h2;have hA:=hfit.2.2.2.2.2.2.2.2.2;rw [kn,aU,aH,aH]
  cases b with
  | false=>rfl
  | true=>
   rw [kn,aU];refine dn (fun s:J jO×Int=>∃k:Nat,s.2=(k:Int)/\k<=r.1.length/\s.1.length=k/\∀y∈s.1,fU y.bJ.fParts<=160) (fun s=>r.1.length-s.2.toNat) ?_ F _ ⟨0,rfl,om,rfl,fun _ h=>nomatch h⟩ bH;rintro⟨l,_⟩ ⟨k,rfl,hk,hl,hw⟩;dsimp only at hl hw⊢;by_cases hk:k<r.1.length/\k<names.length
   ·left
    refine⟨(l++[jO.mk 0 (names.getD k []) (r.1.getD k w5)],((k+1:Nat):Int)),⟨k+1,rfl,hk.1,by rw [yq,hl];rfl,fun y hy=>?_⟩,bH,fun rc=>?_⟩
    ·rcases wH.1 hy with hy|hy
     ·exact hw y hy
     ·obtain rfl:=J2.1 hy
      show fU (r.1.getD k w5).fParts<=160;rw [gd hk.1];exact w2 _ (ko hk.1)
    ·rw [cM om,aH,cM om,cj hk.2,cj hk.1,ck,ig (by show l.length+1<=_;omega) de,cG om]
   ·right
    intro rc
    have hx:(cond (decide ((k:Int)<(r.1.length:Int))) (some (decide ((k:Int)<(names.length:Int)))) (some false):Option Bool)=some false:=by
     by_cases h3:k<r.1.length
     ·rw [cM om,dF om]
     ·rw [cf om]
    obtain⟨x,y,⟨hxy,hs⟩,p1,p2⟩:=alO (fl:=j.oZ) hN hF l om (fun y hy=>by have:=hw y hy;omega) hge hA a2 om;subst hxy;have s2:=aoV F om hs;rw [hx,aH,aU,p1,p2];simp only [aH,s2,bw,Fq]
end Go.Proofs.YtlgmlcgjmcmmgaaGreatDoor
