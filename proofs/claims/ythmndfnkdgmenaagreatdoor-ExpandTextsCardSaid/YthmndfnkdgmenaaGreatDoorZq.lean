import Derived.Test.YthmndfnkdgmenaaGreatDoorEf
import Derived.Test.YthmndfnkdgmenaaGreatDoorTx
import Derived.Test.YthmndfnkdgmenaaGreatDoorSo
import Derived.Test.YthmndfnkdgmenaaGreatDoorPe
set_option linter.all false
namespace Go.Proofs.YthmndfnkdgmenaaGreatDoor
open Go.RT
set_option maxRecDepth 100000
def G4{α:Type}(S:α->Prop):Prop:=∀P:α->Nat->Prop,(∀a n m,n<=m->P a n->P a m)->(∀a,S a->∃N,P a N)->∃N,∀a,S a->P a N
theorem aaR:∀(k:Nat),G4 (fun n=>n<k)
 | 0=>fun P hm h=>⟨0,fun a ha=>absurd ha (ac6 _)⟩
 | k+1=>fun P hm h=>by
  obtain⟨N,hN⟩:=aaR k P hm fun a ha=>h a om;obtain⟨M,hM⟩:=h k om;refine⟨N+M,fun a ha=>?_⟩;by_cases e:a=k
  ·grind
  ·exact hm _ N _ om (hN a om)
theorem Rr{α β:Type}{S:α->Prop}{T:β->Prop}(hS:G4 S)(f:α->β)(hf:∀b,T b->∃a,S a/\f a=b):G4 T:=fun P hm h=>by
 obtain⟨N,hN⟩:=hS (fun a n=>T (f a)->P (f a) n) (fun a n m hnm h1 h2=>hm _ n m hnm (h1 h2)) (fun a ha=>by
  by_cases ht:T (f a)
  ·simp_all
  simp_all)
 refine⟨N,fun b hb=>?_⟩
 grind
theorem alu:G4 (fun _:UInt8=>True):=Rr (aaR 256) UInt8.ofNat fun b _=>⟨b.toNat,b.toNat_lt,si⟩
theorem OE{α β:Type}{S:α->Prop}{T:β->Prop}(hS:G4 S)(hT:G4 T):G4 (fun p:α×β=>S p.1/\T p.2):=fun P hm h=>by
 obtain⟨N,hN⟩:=hS (fun a n=>∀b,T b->P (a,b) n) (fun a n m hnm h1 b hb=>hm _ n m hnm (h1 b hb)) fun a ha=>hT (fun b n=>P (a,b) n) (fun b n m hnm h1=>hm _ n m hnm h1) fun b hb=>h (a,b) ⟨ha,hb⟩;exact⟨N,fun p hp=>hN p.1 hp.1 p.2 hp.2⟩
theorem OG{α:Type}{S:α->Prop}(hS:G4 S):∀(k:Nat),G4 (fun l:J α=>l.length<=k/\∀a∈l,S a)
 | 0=>fun P hm h=>by
  simp_all
 | k+1=>fun P hm h=>by
  obtain⟨M,hM⟩:=h [] ⟨fX _,fun _ h=>nomatch h⟩
  obtain⟨N,hN⟩:=OE hS (OG hS k) (fun p n=>P (p.1::p.2) n) (fun p n m hnm h1=>hm _ n m hnm h1) fun p hp=>h _ ⟨by simp_all,fun a ha=>by
   grind⟩
  refine⟨N+M,fun l hl=>?_⟩
  cases l with
  | nil=>grind
  | cons a t=>exact hm _ N _ om (hN (a,t) ⟨hl.2 a (Mz),by simp_all,fun x hx=>hl.2 x (pW _ hx)⟩)
theorem Rt(k:Nat):G4 (fun s:Bs=>s.length<=k):=Rr (OG alu k) id fun s hs=>⟨s,⟨hs,fun _ _=>trivial⟩,rfl⟩
theorem ajr:G4 (fun l:J bX=>l.length<=128/\∀b∈l,b.fName.length<=60/\b.bK.length<=4096):=
 OG (Rr (OE (Rt 60) (Rt 4096)) (fun p=>bX.mk p.1 p.2) fun b hb=>⟨(b.fName,b.bK),hb,rfl⟩) 128
end Go.Proofs.YthmndfnkdgmenaaGreatDoor
namespace Go.Proofs.YthmndfnkdgmenaaGreatDoor.K
open Go.RT
theorem alv{e:TExpr}(ho:ij e){l:J cw}(hl:l.length<=1000)(hb:Rf l):gw (wB e l).1:=by
 have z:gw 0:=by unfold gw;decide
 unfold wB
 cases hv:(gX e 0 != 0) with
 | true=>exact z
 | false=>
  have iZ:gX e 0=0:=by simpa using hv
  have g:Good e:=⟨HO e 0 iZ,ho,Tv e (HO e 0 iZ)⟩;obtain⟨k1,k2⟩:=N3 e g _ _ (Gh hb)
  grind
theorem ajs{I:Env->Prop}(hI:∀m k n,I m->I (jo cK m k (Lib.itoa n))):∀(e:TExpr)(m:Env),I m->I (kF e m).2.2:=by
 intro e
 induction e using TExpr.ind with
 | h op n name kids ih=>
  intro m hm;rw [Tu];show I (evB op n name (kids.map kF) m).2.2
  have hk:∀(i:Nat)(m:Env),I m->I ((kids.map kF).getD i dK m).2.2:=fun i m hm=>by
   by_cases h:i<kids.length
   ·simp_all
   ·rw [ac7,Ue (by simpa using h)];exact hm
  unfold evB IX N1 aav
  grind
theorem ahk(e:TExpr)(l:J cw):∀b∈(wB e l).2.1,b.bK≠[]\/b∈l:=by
 have nd:∀u:Nat,Lib.decDigits u≠[]:=fun u=>by
  rw [Lib.decDigits];split<;>simp
 have nn:∀n:Int,Lib.itoa n≠[]:=fun n=>by
  unfold Lib.itoa
  grind
 have hI:=ajs (I:=fun m=>∀p∈m,p.2≠[]\/cw.mk p.1 p.2∈l) (fun m k n h p hp=>by
  rcases Rb hp with rfl|hp
  ·exact .inl (nn n)
  ·exact h p hp) e (tf l) (by
  unfold tf
  have key:∀(k:J cw)(m:Env),(∀b∈k,b∈l)->(∀p∈m,p.2≠[]\/cw.mk p.1 p.2∈l)->∀p∈k.foldl (fun m b=>jo cK m b.fName b.bK) m,p.2≠[]\/cw.mk p.1 p.2∈l:=by
   intro k
   induction k with
   | nil=>intro m _ h;exact h
   | cons b k ih=>
    intro m hk h;refine ih _ (fun c hc=>hk c (pW _ hc)) fun p hp=>?_;rcases Rb hp with rfl|hp
    ·simp_all
    ·exact h p hp
  grind)
 intro b hb;unfold wB at hb;revert hb;cases (gX e 0 != 0)
 ·cases ((kF e (tf l)).2.1 != 0)
  ·intro hb
   obtain⟨k,hk,rfl⟩:=(BW _ _).1 hb;rcases KW (kF e (tf l)).2.2 k ([]:Bs) with⟨p,hp,h1,h2⟩|⟨h1,_⟩
   ·have:=hI p hp
    rw [h1,h2] at this;exact this
   ·exact absurd hk h1
  ·intro hb;cases hb
 ·intro hb;cases hb
def T5(N:Nat)(s:Bs)(b:J cw):Prop:=∃r:Int×J cw×Int,(gw r.1/\r.2.1.length<=100000/\∀c∈r.2.1,c.bK≠[]\/c∈b)/\∀F,N<=F->C8 F s b=some r/\Ar F s b=some r
theorem alw(s:Bs)(b:J cw)(hs:s.length<=4096)(hl:b.length<=128)(hb:Rf b):∃N,T5 N s b:=by
 obtain⟨x,⟨ho,hn⟩,hp⟩:=abZ s hs;have h1:=aay ho om hb hn;have h2:=abX ho om hb hn;obtain⟨N,hN⟩:=hp.and (h1.and h2);refine⟨N,cond (x.2.2 != 0) (0,[],x.2.2) (wB x.1 b),?_,fun F hF=>?_⟩
 ·cases (x.2.2 != 0) with
  | true=>exact⟨show gw 0 by unfold gw;decide,fX _,fun _ h=>nomatch h⟩
  | false=>grind [alv,ag5,ahk]
 ·unfold C8 Ar
  grind [TExpr.eta]
theorem aaS:∃N,∀(s:Bs)(b:J cw),s.length<=4096->b.length<=128->Rf b->T5 N s b:=by
 obtain⟨N,hN⟩:=OE (Rt 4096) ajr (fun p n=>T5 n p.1 p.2) (fun p n m hnm ⟨r,h1,h2⟩=>⟨r,h1,fun F hF=>h2 F om⟩) fun p hp=>alw p.1 p.2 hp.1 hp.2.1 hp.2.2;exact⟨N,fun s b h1 h2 h3=>hN (s,b) ⟨h1,h2,h3⟩⟩
noncomputable def NC:Nat:=Classical.choose aaS
theorem VJ:∀(s:Bs)(b:J cw),s.length<=4096->b.length<=128->Rf b->T5 NC s b:=Classical.choose_spec aaS
end Go.Proofs.YthmndfnkdgmenaaGreatDoor.K
namespace Go.Proofs.YthmndfnkdgmenaaGreatDoor
open Go.RT
noncomputable def NC:Nat:=K.NC
abbrev CQ(l:J bX):Prop:=∀b,b∈l->b.fName.length<=60/\b.bK.length<=4096
theorem VJ(s:Bs)(b:J bX)(h1:s.length<=4096)(h2:b.length<=128)(h3:CQ b):∃r:Int×J bX×Int,(K.gw r.1/\r.2.1.length<=100000/\∀c∈r.2.1,c.bK≠[]\/c∈b)/\∀F,NC<=F->C8 F s b=some r/\Ar F s b=some r:=K.VJ s b h1 h2 h3
set_option maxRecDepth 100000
def ur(l:J bD):Prop:=l.Pairwise fun a b=>a.fName<b.fName
theorem Ru{F:Nat}(l:J bD)(p:bD->Bool){m:bD->O Bool}(hm:∀v,m v=some (p v))(hF:l.length<F)(hl:l.length<=1000):
  bV (σ:=Int) (fun bq x1=>cond (decide (x1<(l.length:Int))) (rq ((decide (0<=x1))&&(decide (x1<(l.length:Int)))) ((m (l.getD (Int.toNat x1) dW)).bind fun x3=>cond x3 (some x1) (bq (aB (x1+1))))) (some (-1))) F 0=some ((l.findIdx? p).elim (-1) fun i=>(i:Int)):=by
 rw [qj l (fun i=>(i:Int)) p (fun i _=>some (i:Int)) (some (-1)) (s:=(0:Int)) hF rfl (fun i h rc=>?_) (fun rc=>?_)]
 ·rw [QG _ _ _ dW];cases l.findIdx? p<;>simp
 ·rw [cO om,bR om om,bQ,gd h,hm,aD,bh om]
 ·rw [cf om]
theorem Rv(p:bD->Bool):∀l:J bD,l.find? p=(l.findIdx? p).map fun i=>l.getD i dW
 | []=>rfl
 | x::l=>by
  rw [MA,XA,Rv p l];cases p x
  ·cases List.findIdx? p l<;>simp
  ·rfl
theorem Lp{p:bD->Bool}{l:J bD}{i:Nat}(h:l.findIdx? p=some i):i<l.length/\p (l.getD i dW)=true:=by
 grind [List.findIdx?_eq_some_iff_getElem,gd]
theorem ajt(F:Nat)(l:J bD)(n:Bs)(hF:l.length<F)(hl:l.length<=1000):yL F l n=some (j9 l n):=by
 unfold yL Ou j9;rw [Ru l (fun v=>v.fName==n) (m:=fun v=>Li F v n) (fun v=>rfl) hF hl,Rv]
 cases h:l.findIdx? fun v=>v.fName==n with
 | none=>rfl
 | some i=>
  obtain⟨h1,-⟩:=Lp h
  simp_all [cO,rq,bR]
theorem Pk(F:Nat)(l:J bD)(i k:Nat)(v:bD)(hi:i+k<=l.length)(hl:l.length<=1000):qO F l (i:Int) (k:Int) [v]=some (l.take i++v::l.drop (i+k)):=by
 unfold qO;have e1:aB ((l.length:Int)+(([v]:J bD).length:Int))=((l.length+1:Nat):Int):=bG bF;have e2:aB ((i:Int)+(k:Int))=((i+k:Nat):Int):=bG om;have s1:sl l 0 (i:Int)=l.take i:=by simp [sl]
 have s2:sl l ((i+k:Nat):Int) (l.length:Int)=l.drop (i+k):=by grind [sl,Int.toNat_natCast,List.take_length]
 grind [cD,bR,nJ,Jl]
def ia(l:J bD)(n:Bs):Nat×Bool:=match l.findIdx? fun v=>v.fName==n with
 | some i=>(i,true)
 | none=>match l.findIdx? fun v=>!(Op.bytesLess v.fName n||v.fName==n) with
  | some i=>(i,false)
  | none=>(l.length,false)
theorem ahl(F:Nat)(l:J bD)(n:Bs)(hF:l.length<F)(hl:l.length<=1000):AD F l n=some ((((ia l n).1:Nat):Int),(ia l n).2):=by
 unfold AD I8 I9 ia;rw [Ru l (fun v=>v.fName==n) (m:=fun v=>GB F v n) (fun v=>rfl) hF hl,Ru l (fun v=>!(Op.bytesLess v.fName n||v.fName==n)) (m:=fun v=>GC F v n) (fun v=>rfl) hF hl]
 grind
theorem aaT(l:J bD)(n:Bs):(ia l n).1+cond (ia l n).2 1 0<=l.length:=by
 unfold ia;split
 ·rename_i i h
  exact (Lp h).1
 ·split
  ·rename_i i h
   exact Nat.le_of_lt (Lp h).1
  ·exact eo _
theorem WL{l:J bD}{n:Bs}:j9 l n=cond (ia l n).2 (l.getD (ia l n).1 dW,true) (bD.mk [] [] false false false,false):=by
 unfold ia j9
 grind [Rv]
theorem T6{l:J bD}{n:Bs}(h:(ia l n).2=true):(l.getD (ia l n).1 dW).fName=n:=by
 unfold ia at h⊢
 grind [Lp]
theorem Dg(v:bD):∀(l:J bD),(∀x∈l,¬ x.fName=v.fName)->mz v l true=l
 | [],_=>rfl
 | x::l,h=>by
  have h1:(x.fName==v.fName)=false:=by simpa using h x Mz
  simp only [mz,h1,Bool.true_or];rw [Dg v l fun y hy=>h y (pW _ hy)];rfl
theorem Fy(v:bD):∀ {l:J bD},ur l->mz v l false=l.take (ia l v.fName).1++v::l.drop ((ia l v.fName).1+cond (ia l v.fName).2 1 0)
 | [],_=>rfl
 | x::l,h=>by
  obtain⟨h1,h2⟩:=wU.1 h;rcases Th x.fName v.fName with hx|hx|hx
  ·have b1:=(Kn _ _).2 hx
   have b2:(x.fName==v.fName)=false:=by simpa using fun e:x.fName=v.fName=>lJ _ (e▸hx)
   have:=Fy v h2
   have e:ia (x::l) v.fName=((ia l v.fName).1+1,(ia l v.fName).2):=by
    unfold ia;rw [XA,XA,b2,b1]
    cases l.findIdx? fun y=>y.fName==v.fName with
    | some i=>simp
    | none=>cases l.findIdx? fun y=>!(Op.bytesLess y.fName v.fName||y.fName==v.fName)<;>simp
   rw [e];simp only [mz,b1,b2];rw [show (false || !true)=false from rfl,this,show (ia l v.fName).1+1+cond (ia l v.fName).2 1 0=((ia l v.fName).1+cond (ia l v.fName).2 1 0)+1 by omega];rfl
  ·have b1:Op.bytesLess x.fName v.fName=false:=(CI _ _).2 (by simp_all)
   have b2:(x.fName==v.fName)=true:=by simpa using hx
   have e:ia (x::l) v.fName=(0,true):=by unfold ia;grind
   simp only [mz]
   grind [Dg,lJ]
  ·have b1:=(CI _ _).2 fun h=>lJ _ (qn h hx)
   have b2:(x.fName==v.fName)=false:=by grind
   have hy:∀y∈l,¬ y.fName=v.fName:=fun y hy e=>lJ v.fName (qn hx (by grind))
   have e:ia (x::l) v.fName=(0,false):=by
    unfold ia
    grind
   simp [mz,b2]
   simp_all [Dg]
theorem Rw{v:bD}:∀ {l:J bD},ur l->ur (mz v l false)
 | [],_=>by unfold ur;exact ac8 _ _
 | x::l,h=>by
  obtain⟨h1,h2⟩:=wU.1 h;rcases Th x.fName v.fName with hx|hx|hx
  ·have b1:=(Kn _ _).2 hx
   have b2:(x.fName==v.fName)=false:=by simpa using fun e:x.fName=v.fName=>lJ _ (e▸hx)
   simp [mz,b1,b2];refine wU.2 ⟨fun y hy=>?_,Rw h2⟩;rcases QC v l _ y hy with rfl|hy
   ·exact hx
   ·exact h1 y hy
  ·have b1:Op.bytesLess x.fName v.fName=false:=(CI _ _).2 (by simp_all)
   have b2:(x.fName==v.fName)=true:=by simpa using hx
   simp only [mz,b1,b2];rw [show (false || !false)=true from rfl,Dg v l fun y hy e=>lJ _ (by have:=h1 y hy;rw [hx,e] at this;exact this)];exact wU.2 ⟨fun y hy=>by simp_all,h2⟩
  ·have b1:=(CI _ _).2 fun h=>lJ _ (qn h hx)
   have b2:(x.fName==v.fName)=false:=by grind
   simp only [mz,b1,b2];rw [show (false || !false)=true from rfl,Dg v l fun y hy e=>lJ v.fName (qn hx (by grind))];refine wU.2 ⟨fun y hy=>?_,h⟩;rcases iq.1 hy with rfl|hy
   ·exact hx
   ·exact qn hx (h1 y hy)
def GA(l:J bD):Prop:=GV l/\ur l
theorem GA.len{l:J bD}(h:GA l):l.length<=128:=h.1.1
theorem ap0(F:Nat){l:J bD}(h:GA l)(n v:Bs)(hF:1000<F):∃r,GA r.1/\sx F l n v=some r/\GD F l n v=some r:=by
 have hl:=h.1.1;obtain⟨r0,h0,e0⟩:=anW F h.1 n v hF;refine⟨r0,?_⟩;obtain⟨b,hb,eb⟩:=Ek F n om;unfold sx at e0⊢;unfold GD;rw [K.Gd F n om,eb];rw [xY F l n om om] at e0⊢;rw [eb] at e0
 cases b with
 | false=>
  grind
 | true=>
  have hle:=aaT l n;have hgt:=WL (l:=l) (n:=n);have hnm:=T6 (l:=l) (n:=n);have hat:=fun a (b c d:Bool)=>(OQ F l (bD.mk n a b c d) om om).trans (congrArg some (Fy (bD.mk n a b c d) h.2));have xb:=fun a (b c d:Bool)=>Fy (bD.mk n a b c d) h.2▸Rw h.2;rw [ahl F l n om om];rw [hgt] at e0⊢;dsimp only at hat xb hnm⊢;generalize ia l n=q at hle hgt hnm hat xb e0⊢;obtain⟨i,b⟩:=q
  cases b with
  | false=>
   dsimp at hle hat xb e0⊢;by_cases h4:4096<v.length
   ·grind
   rw [cf om] at e0⊢;rw [cf om];simp at e0⊢;by_cases h5:128<=l.length
   ·grind
   rw [cf om] at e0⊢;rw [hat] at e0⊢;cases e0;refine⟨⟨h0,xb _ _ _ _⟩,rfl,?_⟩;rw [cf om,show ((0:Int))=((0:Nat):Int) from rfl,Pk F l i 0 _ om om]
   rfl
  | true=>
   dsimp only [cond_false,cond_true,Option.bind_some] at hle hat xb hnm e0⊢;rw [bR om om,bQ];generalize l.getD i dW=o at hnm e0⊢
   cases hr:o.lq with
   | true=>
    grind
   | false=>
   rw [hr] at e0;by_cases h4:4096<v.length
   ·grind
   rw [cf om] at e0⊢;rw [cf om];rw [hat] at e0⊢;cases e0;refine⟨⟨h0,xb _ _ _ _⟩,rfl,?_⟩;rw [bR om om,show ((1:Int))=((1:Nat):Int) from rfl,Pk F l i 1 _ om om]
   simp_all
theorem aoQ(F:Nat){l:J bD}(h:GA l)(n:Bs)(a b:Bool)(hF:1000<F):∃r,GA r.1/\qm F l n a b=some r/\C9 F l n a b=some r:=by
 have hl:=h.1.1;obtain⟨r0,h0,e0⟩:=al6 F h.1 n a b hF;refine⟨r0,?_⟩;obtain⟨c,hb,eb⟩:=Ek F n om;unfold qm at e0⊢;unfold C9;rw [K.Gd F n om,eb];rw [eb] at e0
 cases c with
 | false=>
  grind
 | true=>
  rw [xY F l n om om] at e0⊢;have hle:=aaT l n;have hgt:=WL (l:=l) (n:=n);have hnm:=T6 (l:=l) (n:=n);have hat:=fun a (b c d:Bool)=>(OQ F l (bD.mk n a b c d) om om).trans (congrArg some (Fy (bD.mk n a b c d) h.2));have xb:=fun a (b c d:Bool)=>Fy (bD.mk n a b c d) h.2▸Rw h.2;rw [ahl F l n om om];rw [hgt] at e0⊢;dsimp only at hat xb hnm⊢;generalize ia l n=q at hle hgt hnm hat xb e0⊢;obtain⟨i,c⟩:=q
  cases c with
  | false=>
   dsimp at hle hat xb e0⊢;simp at e0⊢;by_cases h5:128<=l.length
   ·grind
   rw [cf om] at e0⊢;rw [hat] at e0⊢;cases e0;refine⟨⟨h0,xb _ _ _ _⟩,rfl,?_⟩;rw [cf om,show ((0:Int))=((0:Nat):Int) from rfl,Pk F l i 0 _ om om]
   rfl
  | true=>
   dsimp only [cond_false,cond_true,Option.bind_some] at hle hat xb hnm e0⊢;rw [bR om om];simp [aK] at e0⊢;rw [hat] at e0⊢;cases e0;refine⟨⟨h0,xb _ _ _ _⟩,rfl,?_⟩;rw [show ((1:Int))=((1:Nat):Int) from rfl,Pk F l i 1 _ om om]
   simp_all
def pQ:Nat->Bs->Nat
 | a,[]=>a
 | a,b::l=>pQ (10*a+(b.toNat-48)) l
def Bc(b:UInt8):Bool:=decide (48<=b.toNat)&&decide (b.toNat<=57)
theorem VK:∀(l:Bs)(a:Nat),a*10^l.length<=pQ a l
 | [],a=>Nat.le_of_eq (Rz a)
 | b::l,a=>by
  have:=VK l (10*a+(b.toNat-48))
  have h2:a*10^(l.length+1)<=(10*a+(b.toNat-48))*10^l.length:=by
   rw [Nat.pow_succ,XB (10^l.length)]
   grind
  show a*10^(l.length+1)<=pQ (10*a+(b.toNat-48)) l
  grind
theorem alx(l:Bs)(a:Nat):a<=pQ a l:=by
 have:=VK l a;have h:=ac9 a (Nat.pow_pos (n:=l.length) (by decide:0<10));omega
theorem Rx:∀(l m:Bs)(a:Nat),pQ a (l++m)=pQ (pQ a l) m
 | [],m,a=>rfl
 | b::l,m,a=>Rx l m _
theorem WM(s:Bs){k:Nat}(h:k<s.length):pQ 0 (s.take (k+1))=10*pQ 0 (s.take k)+(s[k].toNat-48):=by
 rw [qA h,Rx];rfl
theorem ahm(s:Bs)(k:Nat):pQ 0 (s.take k)<=pQ 0 s:=by
 grind [List.take_append_drop,Rx,alx]
def AM(s:Bs):Int×Bool:=if s.all Bc=true/\pQ 0 s<=2147483647 then ((pQ 0 s:Nat),true) else (0,false)
theorem aaU{s:Bs}{k:Nat}(h:k<s.length)(ha:(s.take k).all Bc=true)(hd:Bc s[k]=true):(s.take (k+1)).all Bc=true:=by
 grind [List.take_succ_eq_append_getElem]
theorem VM{s:Bs}{k:Nat}(h:k<s.length)(hd:Bc s[k]=false):AM s=(0,false):=by
 unfold AM
 grind
theorem ap1(F:Nat)(s:Bs)(hF:s.length<F)(hl:s.length<=1000)(h0:s≠[])(h1:s.getD 0 0≠48):pL F s=some (AM s):=by
 have:aA (fun r=>r=AM s) (pL F s):=by
  unfold pL
  have e1:(s==[48])=false:=by
   grind
  have e2:(s==[])=false:=by simpa using h0
  have e3:(((s.getD 0 0).toNat:Int)==48)=false:=by
   have:(s.getD 0 0).toNat≠48:=fun h=>h1 (by apply UInt8.toNat_inj.1;rw [h];rfl)
   grind
  have:=y9.2 h0;rw [e1,e2,aS,aS,sw om,e3,aD,aS];refine aA.lp (fun z:Int×Bs×Int=>z.2.1=s/\∃k:Nat,z.2.2=(k:Int)/\k<=s.length/\(s.take k).all Bc=true/\z.1=(pQ 0 (s.take k):Nat)/\pQ 0 (s.take k)<=2147483647) (fun z=>s.length-z.2.2.toNat) ⟨rfl,0,rfl,om,rfl,rfl,fX _⟩ (by simp_all) ?_;rintro⟨x,s',p⟩ ⟨q1,k,q2,h2,h3,q3,h4⟩ rc hrc;have q1:=q1.symm;subst q1 q2 q3;rw [bQ];by_cases hk:k<s.length
  ·have hb:Nat.blt k s.length=true:=Nat.ble_eq_true_of_le hk
   rw [hb,bu,K.agP,aD];have hgd:s.getD k 0=s[k]:=gd hk;by_cases hs:(s.getD k 0).toNat<128
   ·rw [K.NV hs]
    have hdd:K.fL ((s.getD k 0).toNat:Int)=Bc s[k]:=by
     unfold K.fL Bc;grind
    rw [hdd]
    cases hd:Bc s[k] with
    | false=>grind [aA.ok,VM]
    | true=>
     have hd':=hd;unfold Bc at hd';rw [cx,fW,fW] at hd';have ev:=WM s hk
     have e5:aB ((aB (10*((pQ 0 (s.take k):Nat):Int)))+(aB (IntKind.wrap .i32 (((s.getD k 0).toNat:Int)-48))))=((pQ 0 (s.take (k+1)):Nat):Int):=by
      rw [hgd,show IntKind.wrap .i32 ((s[k].toNat:Int)-48)=(s[k].toNat:Int)-48 from IntWalk.i32_in _ om,bG (x:=(s[k].toNat:Int)-48) om,bG (x:=10*_) om,bG om,ev];omega
     dsimp only;rw [e5];refine aA.cd (fun h=>aA.ok ?_) fun h=>hrc _ ⟨rfl,k+1,rfl,hk,aaU hk h3 hd,rfl,om⟩ (by grind);have:=ahm s (k+1);unfold AM;rw [if_neg om]
   ·have:=K.Wz hs
    have:K.fL ((dec s k).1:Int)=false:=by
     unfold K.fL;grind
    rw [this];refine aA.ok (VM hk ?_).symm;unfold Bc;grind
  ·have hb:Nat.blt k s.length=false:=by
    cases h:Nat.blt k s.length with
    | false=>rfl
    | true=>exact absurd (lC h) hk
   rw [hb,aS];refine aA.ok ?_;unfold AM
   grind
 obtain⟨r,h,e⟩:=this;rw [e,h]
theorem ap2(F:Nat)(s:Bs)(hF:s.length<F)(hl:s.length<=1000)(h0:s≠[])(h1:s.getD 0 0≠48):lE F s=some (AM s):=by
 have:aA (fun r=>r=AM s) (lE F s):=by
  unfold lE;have e2:(s==[])=false:=by simpa using h0
  have e3:(((s.getD 0 0).toNat:Int)==48)=false:=by
   have:(s.getD 0 0).toNat≠48:=fun h=>h1 (by apply UInt8.toNat_inj.1;rw [h];rfl)
   grind
  have hp:=y9.2 h0;rw [e2,aS,aD];refine aA.bd (P:=fun b=>b=decide (10<s.length)) (aA.cd (fun h=>aA.ok (by grind)) fun h=>?_) fun b hb=>?_
  ·grind [sw,aA.ok,decide_eq_false]
  subst hb;refine aA.cd (fun h=>aA.ok ?_) fun h=>?_
  ·unfold AM
   rw [if_neg fun hh=>?_];have hall:=oW.1 hh.1
   obtain⟨a,l,rfl⟩:∃a l,s=a::l:=by cases s with
    | nil=>exact absurd rfl h0
    | cons a l=>exact⟨a,l,rfl⟩
   have ha:=hall a Mz;unfold Bc at ha;rw [cx,fW,fW] at ha;have hne:a.toNat≠48:=fun h=>h1 (by simp_all);have h5:=VK l (10*0+(a.toNat-48));have h6:10^10<=10^l.length:=Nat.pow_le_pow_right de (by simp at h;omega);have h7:1*10^l.length<=(10*0+(a.toNat-48))*10^l.length:=yx _ om;have h8:pQ 0 (a::l)=pQ (10*0+(a.toNat-48)) l:=rfl
   grind
  ·refine aA.lp (fun z:Int×Int=>∃k:Nat,z.2=(k:Int)/\k<=s.length/\(s.take k).all Bc=true/\z.1=(pQ 0 (s.take k):Nat)/\pQ 0 (s.take k)<10^k) (fun z=>s.length-z.2.toNat) ⟨0,rfl,om,rfl,rfl,Nat.one_pos⟩ (by simp_all) ?_
   rintro⟨x,p⟩ ⟨k,q2,h2,h3,q3,h4⟩ rc hrc;dsimp only at q2 q3 hrc⊢;subst q2 q3;refine aA.cd (fun hk=>?_) fun hk=>?_
   ·have hk:k<s.length:=om
    have hgd:s.getD k 0=s[k]:=gd hk;rw [bR om om,bQ,K.Tk,aD,hgd]
    have hdd:K.fL (s[k].toNat:Int)=Bc s[k]:=by
     unfold K.fL Bc
     grind
    rw [hdd]
    cases hd:Bc s[k] with
    | false=>grind [aA.ok,VM]
    | true=>
     have hd':=hd;unfold Bc at hd';rw [cx,fW,fW] at hd';have ev:=WM s hk;have h10:10^k<=10^9:=Nat.pow_le_pow_right de om
     have e5:aB ((aB (10*((pQ 0 (s.take k):Nat):Int)))+(aB (IntKind.wrap .u8 ((s[k].toNat:Int)-48))))=((pQ 0 (s.take (k+1)):Nat):Int):=by
      rw [show IntKind.wrap .u8 ((s[k].toNat:Int)-48)=(s[k].toNat:Int)-48 from by
       show ((s[k].toNat:Int)-48)%256=_;omega,bG (x:=(s[k].toNat:Int)-48) om,bG (x:=10*_) om,bG om,ev]
      omega
     rw [ku,aS,bR om om,e5,bh om];refine hrc _ ⟨k+1,rfl,hk,aaU hk h3 hd,rfl,?_⟩ (by grind)
     grind
   ·rw [Iw om] at h3 h4⊢
    unfold AM;refine aA.cd (fun h=>aA.ok ?_) fun h=>aA.ok ?_
    ·rw [if_neg om]
    grind
 obtain⟨r,h,e⟩:=this;rw [e,h]
def NoF(e:dM):Prop:=e.tB=[]/\e.nL=[]/\e.tC=[]
def OH(e:dM):Prop:=GV e.bM/\e.cC.length<=12/\(∀x∈e.cC,x.length<=60)/\e.fName.length<=60/\K.gw e.fH/\K.gw e.Bw/\K.gw e.og/\NoF e
def GS(s:aX):Prop:=OH s.ck/\(∀a∈s.ek,a.fText.length<=60)/\s.ek.length<=2000/\∃u:Nat,s.fused=(u:Int)/\u<=s.ek.length
def stop(s:aX):Bool:=s.fe != 0||s.kQ
def RB(k:Nat)(l:J aH):Prop:=l.length<=26*k/\cz l<=5000*k
theorem RB.one{k:Nat}{t:Bs}{c:Int}(hk:1<=k)(h:t.length<=5000*k):RB k [aH.mk t c]:=⟨bF,by simp [cz];omega⟩
theorem RB.nil{k:Nat}:RB k []:=⟨si,by simp [cz]⟩
theorem RB.mono{k j:Nat}{l:J aH}(h:RB k l)(hj:k<=j):RB j l:=⟨by have:=h.1;omega,by have:=h.2;omega⟩
theorem RB.app{k j:Nat}{l m:J aH}(h:RB k l)(h':RB j m):RB (k+j) (l++m):=⟨by have:=h.1;have:=h'.1;grind,by have:=h.2;have:=h'.2;rw [BD];omega⟩
theorem vQ(F:Nat)(s:aX):iw F s=some (stop s):=by unfold iw;rw [aK];rfl
theorem tS(F:Nat)(e:Int)(m:Bs)(s:aX):eL F e m s=some (cond (stop s) s {s with fe:=e,fm:=m}):=by
 unfold eL;grind [vQ]
theorem ahn{s:aX}{e:Int}(he:e≠0)(m:Bs):stop (cond (stop s) s {s with fe:=e,fm:=m})=true:=by
 cases h:stop s with
 | true=>exact h
 | false=>show (e != 0||_)=true;simp_all
theorem Pm(F:Nat)(p:dh):∃c,ez F p=some c:=by unfold ez;simp_all [aK]
theorem anq(F:Nat)(p:dh):∃c,pJ F p=some c:=by unfold pJ;simp_all [aK]
theorem aju(F:Nat)(e:Int):aA (fun r=>r.length<=100) (As F e):=by
 exact aA.cb (fun _=>aA.ok de) fun _=>aA.cb (fun _=>aA.ok de) fun _=>aA.cb (fun _=>aA.ok de) fun _=>aA.cb (fun _=>aA.ok de) fun _=>aA.ok de
theorem ajv(F:Nat)(o:Int)(c s:Bool)(v:Bs):∃r,rY F o c s v=some r:=by unfold rY;simp_all [aK,aD]
theorem akg(F:Nat)(p:TPart):∃b,vz F p=some b:=by unfold vz;simp_all [aK,aD]
theorem aoR(F:Nat)(n:Int)(hF:30<=F)(h:K.gw n):∃r,r.length<=60/\dB F n=some r:=⟨_,K.wA h,K.JL F hF h⟩
theorem aaV(F:Nat)(l:J aH)(hF:l.length<F)(h1:l.length<=1000000000)(h2:cz l<=1000000000):oD F l=some (l.flatMap fun r=>r.fText):=by
 have:aA (fun r=>r=l.flatMap fun r=>r.fText) (oD F l):=by
  have hsz:∀k,((l.take k).flatMap fun r=>r.fText).length<=cz l:=fun k=>by
   have h:(l.flatMap fun r=>r.fText)=((l.take k).flatMap fun r=>r.fText)++((l.drop k).flatMap fun r=>r.fText):=by rw [<-ada,Uf]
   have h2:cz l=(l.flatMap fun r=>r.fText).length:=by unfold cz;rw [List.length_flatMap]
   simp_all
  refine aA.lp (fun z=>∃k:Nat,z.2=(k:Int)/\k<=l.length/\z.1=(l.take k).flatMap fun r=>r.fText) (fun z=>l.length-z.2.toNat) ⟨0,rfl,om,si⟩ (by simp_all) ?_;rintro⟨_,_⟩ ⟨k,rfl,h3,rfl⟩ rc hrc;dsimp only at hrc⊢;refine aA.cd (fun h=>?_) fun h=>aA.ok (by grind);have hk:k<l.length:=om;have e1:((l.take (k+1)).flatMap fun r=>r.fText)=((l.take k).flatMap fun r=>r.fText)++l[k].fText:=by rw [agL _ _ _ hk]
  have h5:=hsz (k+1);rw [e1,uI] at h5;rw [bR om om,bQ,gd hk,bh om];exact aA.rq (decide_eq_true om) (hrc _ ⟨k+1,rfl,hk,e1.symm⟩ (by grind))
 obtain⟨r,h,e⟩:=this;rw [e,h]
theorem aoS(F:Nat)(n:Bs)(hF:n.length<F)(hn:n.length<=1000):∃r,gC F n=some r:=by
 by_cases h:n=[]
 ·subst h;exact⟨0,rfl⟩
 have:=y9.2 h;obtain⟨d,hd⟩:=Us F n hF om;unfold gC;rw [sw om]
 simp_all [aD,aK]
theorem aly(F:Nat){e:dM}(h:OH e)(n:Bs)(hF:1000<F)(hn:n.length<=1000):aA (fun r=>r.1.length<=4096) (jM F e n):=by
 obtain⟨hV,hP,hP',hN,h1,h2,h3,-⟩:=h;have hl:=hV.1;unfold jM;obtain⟨p,hp⟩:=aoS F n om om;rw [hp,aD,xY F e.bM n om om];refine aA.bd (Ek F n om) fun b _=>aA.cb (fun _=>?_) fun _=>?_
 ·exact aA.cb (fun _=>aA.ok de) fun _=>aA.ok (OP hV n).2
 rw [aK];refine aA.cb (fun hc=>?_) fun _=>?_
 ·rw [cF,cx] at hc
  have c1:=wR hc.1;have c2:=wR hc.2;rw [bG om];refine aA.rq (jN om om) (aA.ok ?_);have hk:(p-1).toNat<e.cC.length:=om;rw [gd hk]
  grind
 refine aA.cb (fun _=>aA.ok (by grind)) fun _=>?_
 have dec:∀(m:Int),K.gw m->aA (fun r=>r.1.length<=4096) ((dB F m).bind fun x=>some (x,true)):=fun m hm=>by
  obtain⟨r,h1,h2⟩:=aoR F m om hm
  grind [aA.ok]
 refine aA.cb (fun _=>dec _ ⟨om,om⟩) fun _=>aA.cb (fun _=>dec _ h1) fun _=>aA.cb (fun _=>?_) fun _=>aA.cb (fun _=>dec _ h2) fun _=>?_
 ·grind [aA.bd,akx,aA.ok]
 rw [aK];refine aA.cb (fun _=>dec _ h3) fun _=>aA.cb (fun _=>?_) fun _=>aA.cb (fun _=>?_) fun _=>aA.ok de
 ·grind [aA.bd,afH,aA.ok]
 grind [aA.bd,afI,afH,aA.ok]
theorem alz(F:Nat){s:aX}(h:GS s)(n v:Bs)(p:dh)(hv:v.length<=4096)(hF:1000<F):aA (RB 1) (lS F n v p s):=by
 obtain⟨⟨hV,hP,hP',-⟩,-⟩:=h;unfold lS;simp only [aK];obtain⟨c,hc⟩:=Pm F p;rw [hc];refine aA.cb (fun _=>aA.ok (RB.one om om)) fun _=>?_;refine aA.lp (fun z=>∃k:Nat,z.2=(k:Int)/\k<=s.ck.cC.length/\z.1.length<=2*k/\cz z.1<=60*k) (fun z=>s.ck.cC.length-z.2.toNat) ⟨0,rfl,om,si,by simp [cz]⟩ (by grind) ?_;rintro⟨o,_⟩ ⟨k,rfl,h1,h2,h3⟩ rc hrc;refine aA.cd (fun h=>?_) fun _=>aA.ok ⟨om,om⟩;have hk:k<s.ck.cC.length:=om;have hx:=hP' _ (kz hk);refine aA.bd (P:=fun u=>u.length<=2*k+1/\cz u<=60*k) (aA.cd (fun _=>aA.rq (nJ (by grind) de) (aA.ok ⟨bF,by rw [BD];show cz o+0<=_;omega⟩)) fun _=>aA.ok ⟨om,h3⟩) fun u hu=>?_;rw [bR om om,bQ,gd hk,bh om];refine aA.rq (nJ (by grind) de) (hrc _ ⟨k+1,rfl,hk,?_,?_⟩ (by grind))
 ·grind
 ·show cz (u++[aH.mk s.ck.cC[k] c])<=_;rw [BD];simp [cz] at hu⊢;omega
theorem anr(F:Nat)(o:Int):CC F o=xl F o:=rfl
theorem aho(g x:Bs):∀l:J Bs,l≠[]->Lib.join (l++[x]) g=Lib.join l g++(g++x)
 | [],h=>absurd rfl h
 | a::l,_=>by
  rw [wV,Lib.join_cons,Lib.join_cons];unfold Lib.joinTail;simp
theorem WN(l:J Bs)(g:Bs)(n:Nat)(hg:g.length<=1)(h:∀a∈l,a.length<=n):(Lib.join l g).length<=(n+1)*l.length:=by
 cases l with
 | nil=>simp [Lib.join_nil]
 | cons a r=>
  rw [Lib.join_cons]
  have h2:∀r:J Bs,(∀c∈r,c.length<=n)->(Lib.joinTail g r).length<=(n+1)*r.length:=fun r=>by
   unfold Lib.joinTail
   induction r with
   | nil=>intro _;simp
   | cons b r ih=>grind [List.mem_cons_self,List.mem_cons_of_mem,List.flatten_cons,List.length_append,List.length_cons,Nat.mul_succ]
  grind [List.mem_cons_of_mem,List.length_append,List.length_cons,Nat.mul_succ]
theorem aoT(F:Nat)(l:J Bs)(g:Bs)(hF:100<F)(h1:l.length<=12)(h2:∀x∈l,x.length<=60)(hg:g.length<=1):EC F l g=some (Lib.join l g)/\sU F l g=some (Lib.join l g):=by
 have hlen:=WN l g 60 hg h2;constructor
 ·grind [EC,bR]
 have:aA (fun r=>r=Lib.join l g) (sU F l g):=by
  refine aA.lp (fun z=>∃k:Nat,z.2=(k:Int)/\k<=l.length/\z.1=Lib.join (l.take k) g) (fun z=>l.length-z.2.toNat) ⟨0,rfl,om,by simp [Lib.join_nil]⟩ (by grind) ?_;rintro⟨o,p⟩ ⟨k,q1,h3,q2⟩ rc hrc;dsimp only at q1 q2 hrc⊢;subst q1 q2
  have hj:(Lib.join (l.take k) g).length<=61*12:=by
   have a:=WN (l.take k) g 60 hg fun x hx=>h2 x (adb hx)
   grind
  refine aA.cd (fun h=>?_) fun h=>aA.ok (by grind);have hk:k<l.length:=om;have hx:=h2 _ (kz hk)
  have e1:Lib.join (l.take (k+1)) g=(if 0<k then Lib.join (l.take k) g++g else Lib.join (l.take k) g)++l[k]:=by
   rw [qA hk];by_cases h0:0<k
   ·rw [if_pos h0,aho _ _ _ (fun e=>by have:=congrArg List.length e;simp_all),FB]
   ·obtain rfl:k=0:=om
    simp [Lib.join_nil,Lib.join_cons,Lib.joinTail]
  refine aA.bd (P:=fun u=>u=if 0<k then Lib.join (l.take k) g++g else Lib.join (l.take k) g) (aA.cd (fun h0=>aA.rq (dQ om) (aA.ok (by rw [if_pos om]))) fun h0=>aA.ok (by rw [if_neg om])) fun u hu=>?_;have hul:u.length<=61*12+1:=by grind
  rw [bR om om,bQ,gd hk,bh om];refine aA.rq (decide_eq_true om) (hrc _ ⟨k+1,rfl,hk,by dsimp only;rw [e1,hu]⟩ (by grind))
 obtain⟨r,h,e⟩:=this;rw [e,h]
def spec(n:Bs):Bool:=[[64],[42],[35],[63],[45],[36],[33],[48]].contains n
theorem ahp:∀n:Fin 256,decide (0<=Lib.indexByte [64,42,35,63,45,36,33,48] (UInt8.ofNat n.val))=spec [UInt8.ofNat n.val]:=by decide +kernel
theorem aaW{n:Bs}(h:spec n=true):n.length=1:=by
 unfold spec at h;simp at h
 grind
theorem aoU(F:Nat)(n:Bs):yp F n=some (spec n):=by
 unfold yp;by_cases h:n.length=1
 ·obtain⟨b,rfl⟩:=XC.1 h
  have hb:=ahp ⟨b.toNat,b.toNat_lt⟩
  have e:stringslite_Index F [64,42,35,63,45,36,33,48] [b]=some (Lib.indexByte [64,42,35,63,45,36,33,48] b):=by
   unfold stringslite_Index stringslite_IndexByte
   have e1:(([b]:Bs)==[64,42,35,63,45,36,33,48])=false:=by
    simp_all
   simp;show ((ibF F _ _).bind _)=_
   simp_all [ibF,bQ]
  unfold strings_Contains strings_Index
  simp_all
 grind [beq_eq_false_iff_ne,aaW]
theorem afs(F:Nat)(hF:30<=F){n:Int}(h:K.gw n):oy F n=some (Lib.itoa n):=by
 unfold oy;rw [bR h.1 h.2]
theorem ap3(F:Nat)(e:dM)(hF:1000<F)(hl:e.bM.length<=128):qx F e=sV F e.bM:=by
 unfold qx mH sV;rw [ajt F _ _ om om,xY F _ _ om om]
 have hb:(j9 e.bM [73,70,83]).2=false->(j9 e.bM [73,70,83]).1=bD.mk [] [] false false false:=by
  unfold j9;cases e.bM.find? _<;>simp
 grind
theorem ap4(F:Nat)(e:dM)(n:Bs)(hF:1000<F)(hl:e.bM.length<=128):mH F e n=some (cond (j9 e.bM n).1.cE ((j9 e.bM n).1.bK,true) ([],false)):=by
 unfold mH;rw [ajt F _ _ om om]
 have hb:(j9 e.bM n).2=false->(j9 e.bM n).1=bD.mk [] [] false false false:=by
  unfold j9;cases e.bM.find? _<;>simp
 grind
theorem ans(F:Nat){e:dM}(h:OH e)(n:Bs)(hF:2000<F)(hn:n.length<=1000):xQ F e n=jM F e n:=by
 obtain⟨hV,hP,hP',hN,r1,r2,r3,-⟩:=h;have hl:=hV.1;have hj:=fun g hg=>aoT F e.cC g om hP hP' hg;have R:K.gw (e.cC.length:Int):=⟨om,om⟩;have I:=fun {x:Int}(h:K.gw x)=>afs F om h;have D:=fun {x:Int}(h:K.gw x)=>K.JL F om h;unfold xQ;rw [aoU,aD]
 cases hs:spec n with
 | true=>
  rw [bu,sw (by have:=aaW hs;omega)];unfold spec at hs;simp only [XD,iq,Bg,Bh] at hs;have fin:∀x:O (Bs×Bool),(x.bind fun x2=>some (x2.1,x2.2))=x:=fun x=>by cases x<;>rfl
  rw [fin];unfold vF jM gC;obtain⟨g,hg,eg⟩:=afI F hV om;obtain⟨m,rfl⟩:∃m,F=m+100:=⟨F-100,om⟩;rcases hs with rfl|rfl|rfl|rfl|rfl|rfl|rfl|rfl
  ·show ((EC (m+100) e.cC [32]).bind _)=((sU (m+100) e.cC [32]).bind _)
   rw [(hj [32] de).1,(hj [32] de).2]
  ·show ((qx (m+100) e).bind _)=((sV (m+100) e.bM).bind _)
   grind [ap3]
  ·show ((oy (m+100) _).bind _)=((dB (m+100) _).bind _)
   rw [I R,D R]
  ·show ((oy (m+100) _).bind _)=((dB (m+100) _).bind _)
   rw [I r1,D r1]
  ·show ((CC (m+100) _).bind _)=((xl (m+100) _).bind _)
   rw [anr]
  ·show ((oy (m+100) _).bind _)=((dB (m+100) _).bind _)
   rw [I r2,D r2]
  ·show cond (e.og==0) (some ([],false)) ((oy (m+100) e.og).bind _)=(Option.bind (some (e.og != 0)) fun x9=>cond x9 ((dB (m+100) e.og).bind fun bW=>some (bW,true)) (some ([],false)))
   grind
  ·rfl
 | false=>
  rw [aS]
  have ne:∀x,x∈([[64],[42],[35],[63],[45],[36],[33],[48]]:J Bs)->(n==x)=false:=fun x hx=>by
   rw [gN];intro h;subst h;have:spec n=true:=by unfold spec;exact XD.2 hx
   rw [this] at hs;cases hs
  have ends:∀(p:Int),¬ (0<p/\p<=e.cC.length)->gC F n=some p->eY F n=some false->jM F e n=some ([],false):=by
   intro p hp h1 h2;unfold jM;rw [h1,aD,h2,aD,aS,aK,aD]
   rw [show (cond (decide (0<p)) (decide (p<=(e.cC.length:Int))) false)=false from by
    simp_all]
   rw [ne [48] de,ne [35] de,ne [63] de,ne [45] de,ne [36] de,ne [33] de,ne [64] de,ne [42] de];rfl
  have akh:∀b,eY F n=some b->gC F n=some 0->((kN F n).bind fun x5=>cond (!x5) (some ([],false)) ((mH F e n).bind fun x6=>some (x6.1,x6.2)))=jM F e n:=by
   intro b hb hp;rw [K.Gd F n om,hb,aD]
   cases b with
   | false=>rw [ends 0 om hp hb];rfl
   | true=>
    unfold jM;rw [hp,aD,hb,aD,bu,ap4 F e n om hl,xY F _ _ om om,aD,aD];cases (j9 e.bM n).1.cE<;>rfl
  obtain⟨b,-,hb⟩:=Ek F n om;by_cases h0:n=[]
  ·subst h0
   exact akh b hb rfl
  by_cases h1:n.getD 0 0=48
  ·have hp:=y9.2 h0
   have hc:(((n.getD 0 0).toNat:Int)==48)=true:=by rw [h1];rfl
   have e1:pL F n=some (0,false):=by
    unfold pL;rw [ne [48] de,aS,show (n==[])=false from by simpa using h0,aS,sw om,hc,aD];rfl
   obtain⟨d,hd⟩:=Us F n om om
   have e2:gC F n=some 0:=by
    unfold gC;rw [hd,sw om,hc]
    grind
   rw [e1,aD];exact akh b hb e2
  ·have hp:=y9.2 h0
   have hc:(((n.getD 0 0).toNat:Int)==48)=false:=by
    rw [beq_eq_false_iff_ne];intro h;exact h1 (by apply UInt8.toNat_inj.1;grind)
   rw [ap1 F n om hn h0 h1,aD]
   have e2:gC F n=some (cond (AM n).2 (AM n).1 0):=by
    unfold gC;rw [ap2 F n om hn h0 h1,sw om,hc,aD];simp only [aK,aD];unfold AM
    grind
   cases hd:(AM n).2 with
   | false=>
    simp_all
   | true=>
    rw [hd,bu] at e2;rw [bu]
    have hnm:eY F n=some false:=by
     unfold AM at hd;split at hd
     ·rename_i hh
      have h8:=oW.1 hh.1 _ (kz (n:=0) hp);unfold Bc at h8;rw [cx,fW,fW] at h8;unfold eY;rw [show (n==[])=false from by simpa using h0,aS,aD,sw om,K.Tk]
      have:K.fL ((n.getD 0 0).toNat:Int)=true:=by
       unfold K.fL;grind
      simp_all
     ·cases hd
    have Wu:0<=(AM n).1/\(AM n).1<=2147483647:=by
     unfold AM;grind
    generalize (AM n).1=d at e2 Wu⊢;rw [aK,aD];by_cases xg:0<d/\d<=e.cC.length
    ·rw [show (cond (decide (d<1)) true (decide ((e.cC.length:Int)<d)))=false from by grind,cond_false]
     unfold jM
     simp_all
    grind
def T2{A B:Type}(Q:A->B->Prop)(x:O A)(y:O B):Prop:=∃a b,Q a b/\x=some a/\y=some b
section
variable {A B C D σ τ : Type} {Q : A -> B -> Prop}
theorem T2.ok{a:A}{b:B}(h:Q a b):T2 Q (some a) (some b):=⟨a,b,h,rfl,rfl⟩
theorem T2.mono{P:A->B->Prop}{x:O A}{y:O B}(h:T2 P x y)(f:∀a b,P a b->Q a b):T2 Q x y:=by
 obtain⟨a,b,h,e⟩:=h;exact⟨a,b,f a b h,e⟩
theorem T2.bd{P:C->D->Prop}{x:O C}{y:O D}{f:C->O A}{g:D->O B}(h:T2 P x y)(k:∀a b,P a b->T2 Q (f a) (g b)):T2 Q (x.bind f) (y.bind g):=by
 obtain⟨a,b,h,rfl,rfl⟩:=h;exact k a b h
theorem T2.l{P:C->Prop}{x:O C}{y:O B}{f:C->O A}(h:aA P x)(k:∀a,P a->T2 Q (f a) y):T2 Q (x.bind f) y:=by
 obtain⟨a,h,rfl⟩:=h;exact k a h
theorem T2.r{P:D->Prop}{x:O A}{y:O D}{g:D->O B}(h:aA P y)(k:∀b,P b->T2 Q x (g b)):T2 Q x (y.bind g):=by
 obtain⟨a,h,rfl⟩:=h;exact k a h
theorem T2.ql{c:Bool}{x:O A}{y:O B}(h:c=true)(k:T2 Q x y):T2 Q (rq c x) y:=by subst h;exact k
theorem T2.qr{c:Bool}{x:O A}{y:O B}(h:c=true)(k:T2 Q x y):T2 Q x (rq c y):=by subst h;exact k
theorem T2.cb{c:Bool}{x x':O A}{y y':O B}(a:c=true->T2 Q x y)(b:c=false->T2 Q x' y'):T2 Q (cond c x x') (cond c y y'):=by
 grind
theorem T2.cl{c:Bool}{x x':O A}{y:O B}(a:c=true->T2 Q x y)(b:c=false->T2 Q x' y):T2 Q (cond c x x') y:=by
 grind
theorem T2.cr{c:Bool}{x:O A}{y y':O B}(a:c=true->T2 Q x y)(b:c=false->T2 Q x y'):T2 Q x (cond c y y'):=by
 grind
theorem T2.lp{b1:(σ->O A)->σ->O A}{b2:(τ->O B)->τ->O B}(P:σ->τ->Prop)(m:σ->Nat){F:Nat}{s:σ}{t:τ}(h0:P s t)(hF:m s<F)
  (hs:∀s t,P s t->∀r1 r2,(∀s' t',P s' t'->m s'<m s->T2 Q (r1 s') (r2 t'))->T2 Q (b1 r1 s) (b2 r2 t)):T2 Q (bV b1 F s) (bV b2 F t):=by
 induction F generalizing s t with
 | zero=>omega
 | succ F ih=>grind [bV]
end
def nF(s:aX):Prop:=GS s/\ur s.ck.bM/\(s.kQ=false->s.tj=[])
def gO(fl:J bt)(s:aX):aM:=aM.mk s.ck fl (s.ek.drop s.fused.toNat) s.jC false [] [] 0
def Fin(x:aM)(s:aX):Prop:=(s.fe≠0/\x.kQ=false/\x.yK=s.fe/\x.fm=s.fm)\/(s.fe=0/\x.kQ=true/\x.tj=s.tj/\x.ck=s.ck/\x.jC=s.jC)
def RR{A:Type}(fl:J bt)(I:J A->Prop)(a:J A×Bool×aM)(b:J A×aX):Prop:=nF b.2/\I b.1/\((stop b.2=false/\a=(b.1,true,gO fl b.2))\/(stop b.2=true/\a.2.1=false/\Fin a.2.2 b.2/\a.1=[]))
def RA(fl:J bt)(a:Bool×aM)(b:aX):Prop:=nF b/\((stop b=false/\a=(true,gO fl b))\/(stop b=true/\a.1=false/\Fin a.2 b))
theorem RR.go{A:Type}{fl:J bt}{I:J A->Prop}{r:J A}{s:aX}(h:nF s)(hi:I r)(hs:stop s=false):RR fl I (r,true,gO fl s) (r,s):=⟨h,hi,.inl ⟨hs,rfl⟩⟩
theorem acR{s:aX}(h:stop s=false):s.fe=0/\s.kQ=false:=by
 unfold stop at h;simp_all
theorem ant{s:aX}{e:Int}{m:Bs}(he:e≠0):stop {s with fe:=e,fm:=m} = true:=by
 show (e != 0||s.kQ)=true
 simp_all
theorem failed{fl:J bt}{s:aX}{e:Int}{m:Bs}(hs:stop s=false)(he:e≠0):stop (cond (stop s) s {s with fe:=e,fm:=m})=true/\Fin {gO fl s with yK:=e,fm:=m} (cond (stop s) s {s with fe:=e,fm:=m}):=by
 rw [hs];exact⟨ant he,.inl ⟨he,rfl,rfl,rfl⟩⟩
theorem Lq{s:aX}(h:nF s)(e:Int)(m:Bs):nF (cond (stop s) s {s with fe:=e,fm:=m}):=by cases stop s<;>exact h
theorem RR.err{A:Type}{fl:J bt}{I:J A->Prop}{r:J A}{s:aX}{e:Int}{m:Bs}{x:aM}(h:nF s)(hi:I r)(hs:stop s=false)(he:e≠0)(hx:x={gO fl s with yK:=e,fm:=m}):RR fl I ([],false,x) (r,cond (stop s) s {s with fe:=e,fm:=m}):=by
 subst hx;have:=failed (fl:=fl) (m:=m) hs he;exact⟨Lq h _ _,hi,.inr ⟨this.1,rfl,this.2,rfl⟩⟩
theorem J8(F:Nat)(m:Bs)(x:aM):gJ F m x=some (false,{x with fm:=m,yK:=32}):=rfl
theorem aoV(F:Nat)(e:Int)(x:aM):dP F e x=some (false,{x with yK:=e}):=rfl
theorem ahq(v:bD){l:J bD}(h:ur l):v∈mz v l false:=by rw [Fy v h];simp
theorem get_mem{l:J bD}{n:Bs}{v:bD}(h:v∈l)(hn:v.fName=n):(j9 l n).2=true:=by
 unfold j9
 cases e:l.find? fun v=>v.fName==n with
 | none=>simp_all
 | some x=>rfl
theorem ajw(F:Nat){l:J bD}(h:GA l)(n v:Bs)(hF:1000<F){r:J bD×Int}(e:sx F l n v=some r)(h0:r.2=0):eY F n=some true/\(j9 r.1 n).2=true:=by
 have hl:=h.len;obtain⟨b,hb,eb⟩:=Ek F n om;unfold sx at e;rw [xY F l n om om,aD,eb,aD] at e
 cases b with
 | false=>grind
 | true=>
  refine⟨eb,?_⟩
  cases hr:(j9 l n).1.lq with
  | true=>grind
  | false=>
   rw [hr] at e;by_cases h4:4096<v.length
   ·grind
   rw [cf om,aK,aD] at e
   cases h5:(cond (!(j9 l n).2) (decide (128<=(l.length:Int))) false) with
   | true=>grind
   | false=>
    rw [h5,OQ F l _ om om] at e;cases e;exact get_mem (ahq _ h.2) rfl
theorem alA(F:Nat){l:J bD}(h:GA l)(n:Bs)(hF:1000<F)(h1:eY F n=some true)(h2:(j9 l n).2=true){r:J bD×Int}(e:qm F l n true false=some r):r.2=0:=by
 have hl:=h.len;unfold qm at e;rw [h1,aD,ku,aS,xY F l n om om,aD,h2,ku,aS,aD,aK,aD,aK,aD,OQ F l _ om om] at e;cases e;rfl
theorem acS(F:Nat)(fl:J bt){s:aX}(h:nF s)(hs:stop s=false)(n v:Bs)(hF:1000<F):T2 (RA fl) (ji F n v (gO fl s)) (hU F n v s):=by
 have hA:GA s.ck.bM:=⟨h.1.1.1,h.2.1⟩;obtain⟨r,hr,e1,e2⟩:=ap0 F hA n v hF;unfold ji hU;rw [vQ,aD,hs,e1,show GD F (gO fl s).ck.bM n v=some r from e2,aD,aD];have go:∀l:J bD,GA l->T2 (RA fl) (cond ((0:Int) != 0) ((dP F 0 (gO fl s)).bind fun x5=>some (x5.1,x5.2)) (some (true,{gO fl s with ck:={(gO fl s).ck with bM:=l}}))) (some {s with ck:={s.ck with bM:=l}}):=fun l hl=>T2.ok ⟨⟨⟨⟨hl.1,h.1.1.2⟩,h.1.2⟩,hl.2,h.2.2⟩,.inl ⟨hs,rfl⟩⟩;by_cases h0:r.2=0
 ·rw [h0]
  show T2 _ (((cond ((mR .i64 s.ck.iA 32) != 0) ((C9 F r.1 n true false).bind fun x4=>some (x4.1,x4.2)) (some (r.1,0)):O (J bD×Int)).bind _)) ((cond ((mR .i64 s.ck.iA 32) != 0) ((qm F r.1 n true false).bind fun x5=>some x5.1) (some r.1):O (J bD)).bind _)
  cases hb:((mR .i64 s.ck.iA 32) != 0) with
  | false=>exact go r.1 hr
  | true=>
   obtain⟨q,hq,e3,e4⟩:=aoQ F hr n true false hF;obtain⟨k1,k2⟩:=ajw F hA n v hF e1 h0;have hq0:=alA F hr n hF k1 k2 e3
   simp_all
 ·have hne:(r.2 != 0)=true:=by simpa using h0
  have ah8:(r.2==0)=false:=by simpa using h0
  rw [ah8,aS,aD,aS,aD];rw [hne,tS];have:=failed (fl:=fl) (m:=[]) hs h0;exact T2.ok ⟨Lq h _ _,.inr ⟨this.1,rfl,this.2⟩⟩
theorem ap5(F:Nat)(fl:J bt){s:aX}(h:nF s)(hs:stop s=false)(x:TPart)(m:cM)(p:dh)(hm:m.fq=p.fq)(hF:1000<F):T2 (RR fl (RB 1)) (mo F x m (gO fl s)) ((pS F x.fText s).bind fun x7=>(ez F p).bind fun x8=>some ([aH.mk x7.1 x8],x7.2)):=by
 obtain⟨⟨hE,hA,hL,u,hu,hul⟩,xb⟩:=h;have hv:dX F m=ez F p:=by unfold dX ez;rw [hm]
 obtain⟨c,hc⟩:=Pm F p;unfold mo pS;rw [hv,hc,hu];have hx:(gO fl s).ek=s.ek.drop u:=by unfold gO;simp_all
 rw [hx];by_cases hk:u<s.ek.length
 ·have hd:s.ek.drop u=s.ek[u]::s.ek.drop (u+1):=MB hk
  have e0:(((s.ek.drop u).length:Int)==0)=false:=by grind
  have e1:sl (s.ek.drop u) 1 ((s.ek.drop u).length:Int)=s.ek.drop (u+1):=by
   grind [sl,Int.toNat_natCast,List.take_length,List.drop_drop]
  have e2:(s.ek.drop u).getD 0 Bx=s.ek[u]:=by rw [hd];rfl
  have hln:0<(s.ek.drop u).length:=by grind
  rw [e0,aS,sw om,bR om om,e1,e2,cf om,bR om om,bQ,gd hk];have ha:=hA _ (kz hk);generalize s.ek[u]=a at ha⊢
  have key:T2 (fun (t:Bs)(y:Bs×aX)=>t.length<=60/\y=(t,{s with fused:=(((u+1:Nat)):Int),jC:=a.fH})) (ri F a.fText [10]) (bV (σ:=Int) (R:=Bs×aX) (fun bq x1=>
    (cond (decide (0<x1))
    (rq ((decide (0<=aB (x1-1)))&&(decide (aB (x1-1)<((a.fText).length:Int)))) (some (((a.fText.getD (Int.toNat (aB (x1-1))) 0).toNat:Int)==10)))
    (some false):Option Bool).bind fun x3=>
    cond x3
    (bq (aB (x1-1)))
    (rq ((decide (0<=x1))&&(decide (x1<=(a.fText.length:Int)))) (some (sl a.fText 0 x1,{s with fused:=aB ((u:Int)+1),jC:=a.fH})))) F (a.fText.length:Int)):=by
   have fin:∀k:Nat,k<=a.fText.length->T2 (fun (t:Bs)(y:Bs×aX)=>t.length<=60/\y=(t,{s with fused:=(((u+1:Nat)):Int),jC:=a.fH})) (some (a.fText.take k)) (rq ((decide (0<=(k:Int)))&&(decide ((k:Int)<=(a.fText.length:Int)))) (some (sl a.fText 0 (k:Int),{s with fused:=aB ((u:Int)+1),jC:=a.fH}))):=fun k hk=>by
    grind [T2.qr,jN,T2.ok,List.length_take,bh,sl,Int.toNat_natCast]
   unfold ri;by_cases hz:a.fText=[]
   ·rw [hz] at fin⊢
    obtain⟨f,rfl⟩:∃f,F=f+1:=⟨F-1,om⟩;exact fin 0 (eo _)
   rw [show (a.fText==[])=false from by simpa using hz];show T2 _ ((nD F a.fText 10).bind fun x3=>some x3) _;have ret:∀x:Option Bs,(x.bind fun x3=>some x3)=x:=fun x=>by cases x<;>rfl
   rw [ret];unfold nD;refine T2.lp (fun (t:Bs)(i:Int)=>∃k:Nat,i=(k:Int)/\k<=a.fText.length/\t=a.fText.take k) (fun t=>t.length) ⟨_,rfl,eo _,by rw [Bi]⟩ om ?_;rintro t i ⟨k,rfl,h1,rfl⟩ r1 r2 hrc;have hlk:(a.fText.take k).length=k:=List.length_take_of_le h1;rw [hlk];by_cases h0:0<k
   ·rw [wY om om,cO om,bR om om,cO om,bR om om,aD,bR om om,aD,bQ]
    have eg:(a.fText.take k).getD (k-1) 0=a.fText.getD (k-1) 0:=by grind
    rw [eg];refine T2.cb (fun _=>?_) fun _=>fin k h1
    grind [sl,Int.toNat_natCast,Nat.min_eq_left,List.length_take]
   grind
  refine T2.bd key fun t y ⟨ht,hy⟩=>?_;subst hy;rw [aD,aD];refine T2.ok ⟨⟨⟨hE,hA,hL,u+1,rfl,hk⟩,xb⟩,RB.one om (by grind),.inl ⟨hs,?_⟩⟩;unfold gO
  grind
 ·have e0:(((s.ek.drop u).length:Int)==0)=true:=by simp_all
  rw [e0,bu,cO om,aD,aD];obtain⟨s1,s2⟩:=acR hs;refine T2.ok ⟨⟨⟨hE,hA,hL,u,rfl,hul⟩,xb.1,fun h=>nomatch h⟩,RB.one om (fX _),.inr ⟨?_,rfl,.inr ⟨s1,rfl,rfl,rfl,rfl⟩,rfl⟩⟩;show (s.fe != 0||true)=true;rw [Bool.or_true]
theorem vk(k v q z:Bs)(m:J (Bs×Bs)):fP cK (jo cK m k v) q z=if k=q then v else fP cK m q z:=by
 unfold jo fP cK
 cases ha:m.any fun p=>p.1==k with
 | false=>
  grind
 | true=>
  rw [bu]
  have hf:((fun p=>p.1==q) ∘ fun p=>bif p.1==k then (k,v) else p)=fun p=>p.1==q:=by
   grind
  cases e:m.find? fun p=>p.1==q with
  | none=>
   grind
  | some p=>
   grind
def su(l:J bD):J bX:=l.flatMap fun v=>cond v.cE [bX.mk v.fName v.bK] []
def DL(b:J bX):J (Bs×Bs):=b.foldl (fun m x=>jo cK m x.fName x.bK) []
theorem ajx(l:J bD){k:Nat}(h:k<l.length):su (l.take (k+1))=su (l.take k)++cond l[k].cE [bX.mk l[k].fName l[k].bK] []:=by
 unfold su;grind [List.take_succ_eq_append_getElem]
theorem alB{l:J bD}{b:bX}(h:b∈su l):∃v∈l,b=bX.mk v.fName v.bK:=by
 unfold su at h
 grind
theorem VN:∀l:J bD,(su l).length<=l.length
 | []=>eo _
 | v::l=>by
  have:=VN l;unfold su at this⊢
  grind
theorem alC{l:J bD}(h:ur l):(su l).Pairwise fun a b=>a.fName<b.fName:=by
 induction l with
 | nil=>exact .nil
 | cons v l ih=>
  obtain⟨h1,h2⟩:=wU.1 h;unfold su
  grind
theorem alD{l:J bD}(h:GV l):CQ (su l):=fun b hb=>by
 obtain⟨v,hv,rfl⟩:=alB hb;exact h.2 v hv
theorem alE{b:J bX}(h:b.Pairwise fun x y=>x.fName<y.fName)(hb:CQ b):K.sH (DL b)=b:=by
 have hE:=K.Gh hb;refine U8 (f:=fun x:bX=>x.fName) (K.Vb hE.nd) h fun x=>?_
 have key:∀(k:J bX)(m:J (Bs×Bs)),(k.Pairwise fun x y=>x.fName<y.fName)->∀q:Bs,fP cK (k.foldl (fun m x=>jo cK m x.fName x.bK) m) q []=(match k.find? fun x=>x.fName==q with|some x=>x.bK|none=>fP cK m q []):=by
  intro k
  induction k with
  | nil=>intro m _ q;rfl
  | cons a k ih=>
   intro m hk q;obtain⟨h1,h2⟩:=wU.1 hk;rw [Di,ih _ h2 q,MA]
   cases e:k.find? fun x=>x.fName==q with
   | some y=>
    grind
   | none=>
    cases hq:(a.fName==q) with
    | true=>simp_all [ue,vk,if_pos]
    | false=>simp_all [vk,if_neg]
 have kk:∀(k:J bX)(m:J (Bs×Bs))(q:Bs),q∈(k.foldl (fun m x=>jo cK m x.fName x.bK) m).map (·.1)↔q∈m.map (·.1)\/∃x∈k,x.fName=q:=by
  intro k
  induction k with
  | nil=>intro m q;simp
  | cons a k ih=>
   grind [yf,List.mem_cons_self,List.mem_cons_of_mem]
 have fnd:∀y∈b,b.find? (fun x=>x.fName==y.fName)=some y:=fun y hy=>by
  cases e:b.find? fun x=>x.fName==y.fName with
  | none=>grind
  | some z=>
   have hq:(z.fName==y.fName)=true:=ade (p:=fun x:bX=>x.fName==y.fName) e
   grind [List.pairwise_iff_getElem,List.getElem_of_mem,Nat.lt_trichotomy,lJ]
 rw [K.BW];constructor
 ·rintro⟨k,hk,rfl⟩
  rcases (kk b [] k).1 hk with h|⟨y,hy,rfl⟩
  ·cases h
  ·have:=key b [] h y.fName
   rw [fnd y hy] at this;unfold K.Bk;rw [show fP cK (DL b) y.fName []=y.bK from this];exact hy
 ·intro hx
  refine⟨x.fName,(kk b [] _).2 (.inr ⟨x,hx,rfl⟩),?_⟩;have:=key b [] h x.fName;rw [fnd x hx] at this;unfold K.Bk;rw [show fP cK (DL b) x.fName []=x.bK from this]
theorem aaX(m:J (Bs×Bs))(k:Bs):Dt cK m k=true↔k∈m.map (·.1):=by
 simp_all [Dt,cK,Ug,yu]
theorem T2.lpe{A B σ τ ι:Type}{Q:A->B->Prop}{b1:(σ->O A)->σ->O A}{b2:(τ->O B)->τ->O B}(P:σ->τ->Prop)(m:σ->Nat)(E:ι->τ->Prop)(m2:τ->Nat)(R:ι->B->Prop){F:Nat}{s:σ}{t:τ}(h0:P s t)(hF:m s<F)
  (hs:∀s t,P s t->∀r1 r2,(∀s' t',P s' t'->m s'<m s->T2 Q (r1 s') (r2 t'))->(∀i t',E i t'->m2 t'<m s->aA (R i) (r2 t'))->T2 Q (b1 r1 s) (b2 r2 t))
  (he:∀i t,E i t->∀r2,(∀t',E i t'->m2 t'<m2 t->aA (R i) (r2 t'))->aA (R i) (b2 r2 t)):T2 Q (bV b1 F s) (bV b2 F t):=by
 induction F generalizing s t with
 | zero=>omega
 | succ F ih=>exact hs s t h0 (bV b1 F) (bV b2 F) (fun s' t' h1 h2=>ih h1 om) fun i t' h1 h2=>aA.lp (E i) m2 h1 om (he i)
theorem T2.map{A B D:Type}{Q:A->B->Prop}{x:O A}{y:O D}(f:D->B)(h:T2 (fun a d=>Q a (f d)) x y):T2 Q x (y.bind fun d=>some (f d)):=by
 obtain⟨a,d,h,e1,rfl⟩:=h;exact⟨a,f d,h,e1,rfl⟩
theorem alF(F:Nat)(e:Int):DH F e=As F e:=rfl
def RV(fl:J bt)(a:Bs×Bool×aM)(b:Bs×aX):Prop:=RR fl (fun t=>t.length<=10000000) a b/\(stop b.2=false->b.1.length<=4096)
theorem aki(F:Nat){s:aX}(h:stop s=true)(n v:Bs):hU F n v s=some s:=by
 unfold hU;simp_all [vQ,aD]
theorem anu{F:Nat}(hN:NC<=F)(hF:100000000<=F)(fl:J bt)(g1:dV)(g2:iy)(x:TPart)(m:cM)(p:dh)(hm:m.fq=p.fq)(s:aX)
  (hv:T2 (RV fl) (g1.2.2.2.2.1 x.fParts (cM.mk true false 0) (gO fl s)) (g2.2.2.2.1 x.fParts true s)) :
  T2 (RR fl (RB 1)) (mI F g1 x m (gO fl s)) ((uk F g2 x.fParts s).bind fun x9=>(ez F p).bind fun bW=>some ([aH.mk x9.1 bW],x9.2)):=by
 obtain⟨c,hc⟩:=Pm F p;have iZ:dX F m=some c:=by rw [<-hc];unfold dX ez;rw [hm]
 unfold mI uk;rw [hc];obtain⟨⟨t0,ok,x'⟩,⟨t,s'⟩,⟨⟨hg,hi,hh⟩,hlen⟩,e1,e2⟩:=hv;rw [e1,e2];dsimp only at hg hi hh hlen;refine T2.map (fun x9:Bs×aX=>([aH.mk x9.1 c],x9.2)) ?_;rw [aD,aD];dsimp only;rw [vQ,aD];rcases hh with⟨hs,hh⟩|⟨hs,hok,aft,-⟩
 ·cases hh
  have ht:=hlen hs;have hV:=hg.1.1.1;have hvl:=hV.1;rw [hs,ku,aS,aS,show (gO fl s').ck=s'.ck from rfl];have hb:=alD hV;have Jr:=VN s'.ck.bM;have hba:=alC hg.2.1;refine T2.lp (fun (z:J bX×Int×J (Bs×Bs))(y:J bX×Int)=>∃k:Nat,k<=s'.ck.bM.length/\z=(su (s'.ck.bM.take k),(k:Int),DL (su (s'.ck.bM.take k)))/\y=(su (s'.ck.bM.take k),(k:Int))) (fun z=>s'.ck.bM.length-z.2.1.toNat) ⟨0,fX _,rfl,rfl⟩ (by show s'.ck.bM.length-0<F;omega) ?_;rintro _ _ ⟨k,hk,rfl,rfl⟩ q1 q2 hrc;dsimp only at hrc⊢;have hkl:(su (s'.ck.bM.take k)).length<=k:=by have:=VN (s'.ck.bM.take k);rw [MC] at this;omega
  by_cases hk1:k<s'.ck.bM.length
  ·have nx:=hrc _ _ ⟨k+1,hk1,rfl,rfl⟩ (by grind)
   have es:=ajx s'.ck.bM hk1;rw [cO om,cO om];refine T2.ql (jN om om) (T2.qr (jN om om) ?_);rw [bh om,bQ,gd hk1];have cp:∀(v:bX),((decide ((su (s'.ck.bM.take k)).length+([v]:J bX).length<=9223372036854775807))&&(decide (((su (s'.ck.bM.take k)).length+([v]:J bX).length)*32<=140737488355328)))=true:=fun v=>nJ (by grind) de;refine T2.cb (fun mc=>?_) fun mc=>?_
   ·rw [mc,bu] at es
    rw [es] at nx;refine T2.ql (cp _) (T2.qr (cp _) ?_);unfold DL at nx;rw [RC] at nx;exact nx
   simp_all
  ·rw [cf om,cf om,Iw om]
   have hE:=alE hba hb
   have hkeys:∀n:Bs,Dt cK (DL (su s'.ck.bM)) n=true↔∃a∈su s'.ck.bM,a.fName=n:=fun n=>by
    rw [aaX];have:∀x,x∈su s'.ck.bM↔∃k,k∈(DL (su s'.ck.bM)).map (·.1)/\x=K.Bk (DL (su s'.ck.bM)) k:=fun x=>by rw [<-K.BW,hE]
    constructor
    ·intro h;exact⟨_,(this _).2 ⟨n,h,rfl⟩,rfl⟩
    ·rintro⟨a,ha,rfl⟩
     obtain⟨k,h1,h2⟩:=(this a).1 ha;rw [h2];exact h1
   have Yj:∀n,pF F (su s'.ck.bM) n=some (fP cK (DL (su s'.ck.bM)) n []):=fun n=>by
    rw [K.NZ F _ n om om,<-K.N0,hE]
   have akj:∀n,Dt cK (DL (su s'.ck.bM)) n=false->fP cK (DL (su s'.ck.bM)) n []=[]:=fun n h=>by
    grind [KW,aaX]
   generalize DL (su s'.ck.bM)=mp at hkeys Yj akj⊢;generalize su s'.ck.bM=b at hb Jr hkeys Yj⊢;obtain⟨r,⟨hR,hL,hne⟩,hr⟩:=VJ t0 b ht om hb;rw [(hr F hN).1,(hr F hN).2,aD,aD];refine T2.cb (fun he=>?_) fun he=>?_
   ·have he0:r.2.2≠0:=by simpa using he
    obtain⟨w,hw,ew⟩:=aju F r.2.2;rw [alF,ew,aD,aD];have l1:decide (t0.length+([58,32]:Bs).length<=9223372036854775807)=true:=dQ (by show t0.length+2<=_;omega);have l2:decide ((t0++([58,32]:Bs)).length+w.length<=9223372036854775807)=true:=decide_eq_true (by grind);refine T2.ql l1 (T2.qr l1 (T2.ql l2 (T2.qr l2 ?_)));rw [J8,tS];exact T2.ok (RR.err hg (RB.one om (fX _)) hs de rfl)
   ·refine T2.lpe (fun (z:Int×aM)(y:Int×aX)=>∃(k:Nat)(u:aX),k<=r.2.1.length/\nF u/\stop u=false/\z=((k:Int),gO fl u)/\y=((k:Int),u)) (fun z=>r.2.1.length-z.1.toNat) (fun (u:aX)(y:Int×aX)=>stop u=true/\y.2=u/\∃k:Nat,y.1=(k:Int)/\k<=r.2.1.length) (fun y=>r.2.1.length-y.1.toNat) (fun u (y:Bs×aX)=>y.2=u/\y.1.length<=60) ⟨0,s',fX _,hg,hs,rfl,rfl⟩ (by show r.2.1.length-0<F;omega) ?_ ?_
    ·rintro _ _ ⟨k,u,hk,hu,hsu,rfl,rfl⟩ q1 q2 hrc hex
     dsimp only at hrc hex⊢;by_cases hk1:k<r.2.1.length
     ·have hm:r.2.1.length-Int.toNat ((k+1:Nat):Int)<r.2.1.length-Int.toNat (k:Int):=om
      rw [cO om,cO om,bR om om,bR om om,bR om om,bh om,bQ,gd hk1,Yj,aD];have hc1:=hne _ (kz hk1);generalize r.2.1[k]=a at hc1⊢
      have go:T2 (fun a d=>RR fl (RB 1) a ([aH.mk d.1 c],d.2)) ((ji F a.fName a.bK (gO fl u)).bind fun bW=>cond (!bW.1) (some ([],false,bW.2)) (q1 (((k+1:Nat):Int),bW.2)))
        ((hU F a.fName a.bK u).bind fun fR=>q2 (((k+1:Nat):Int),fR)):=by
       refine T2.bd (acS F fl hu hsu a.fName a.bK om) ?_;rintro⟨ok,x2⟩ u2 ⟨hu2,⟨h1,h2⟩|⟨h1,h2,h3⟩⟩
       ·grind
       ·dsimp only at h2 h3
        subst h2;rw [uJ,bu];obtain⟨y,⟨hy1,hy2⟩,hy⟩:=hex u2 (((k+1:Nat):Int),u2) ⟨h1,rfl,k+1,rfl,hk1⟩ hm;rw [hy];refine T2.ok ⟨?_,RB.one om om,.inr ⟨?_,rfl,?_,rfl⟩⟩
        ·show nF y.2;rw [hy1];exact hu2
        ·show stop y.2=true;rw [hy1];exact h1
        ·show Fin x2 y.2;rw [hy1];exact h3
      cases ap6:Dt cK mp a.fName with
      | true=>
       rw [bu,aD]
       cases qg:(fP cK mp a.fName []==a.bK) with
       | true=>grind
       | false=>
        rw [aS,uJ,bu,bR om om,bR om om]
        exact go
      | false=>
       rw [aS,aD,aS,akj _ ap6]
       have hnil:a.bK≠[]:=hc1.resolve_right fun h=>by
        grind
       have:(([]:Bs)==a.bK)=false:=by grind
       rw [this,uJ,bu,bR om om,bR om om];exact go
     ·rw [cf om,cf om,afs F om hR,K.JL F om hR,aD,aD,iZ]
      have:=K.wA hR;exact T2.ok ⟨hu,RB.one om (by show (Lib.itoa r.1).length<=_;omega),.inl ⟨hsu,rfl⟩⟩
    ·rintro u ⟨_,_⟩ ⟨h1,rfl,k,rfl,hk⟩ q2 hrc
     dsimp only at h1 hrc⊢;refine aA.cd (fun h=>?_) fun _=>?_
     ·have hm:r.2.1.length-Int.toNat ((k+1:Nat):Int)<r.2.1.length-Int.toNat (k:Int):=om
      rw [bR om om,bR om om,bh om,bQ,Yj,aD];refine aA.cb (fun _=>?_) fun _=>hrc _ ⟨h1,rfl,k+1,rfl,om⟩ hm
      grind [bR,aki]
     ·rw [K.JL F om hR]
      exact aA.ok ⟨rfl,K.wA hR⟩
 ·have hok:ok=false:=hok
  subst hok;rw [hs,bu,uJ,bu];exact T2.ok ⟨hg,RB.one om (fX _),.inr ⟨hs,rfl,aft,rfl⟩⟩
def COk(m:cM)(p:dh):Prop:=m.fq=false->m.mw=cond p.BZ 2 0
def Mo(m:cM)(p:dh):Prop:=m.fq=p.fq/\m.jU=p.jU
def JR(m:cM)(p:dh)(a b:J aH):Prop:=a.map (·.fText)=b.map (·.fText)/\(COk m p->a=b)
def RJ(fl:J bt)(k:Nat)(m:cM)(p:dh)(a:J aH×Bool×aM)(b:J aH×aX):Prop:=nF b.2/\RB k b.1/\((stop b.2=false/\a.2=(true,gO fl b.2)/\JR m p a.1 b.1)\/(stop b.2=true/\a.2.1=false/\Fin a.2.2 b.2/\a.1=[]))
theorem JR.eq{m:cM}{p:dh}(a:J aH):JR m p a a:=⟨rfl,fun _=>rfl⟩
theorem RR.j{fl:J bt}{k j:Nat}{m:cM}{p:dh}{a:J aH×Bool×aM}{b:J aH×aX}(h:RR fl (RB k) a b)(hk:k<=j):RJ fl j m p a b:=by
 obtain⟨h1,h2,⟨h3,h4⟩|h3⟩:=h
 ·exact⟨h1,h2.mono hk,.inl ⟨h3,by rw [h4],by rw [h4];exact JR.eq _⟩⟩
 ·exact⟨h1,h2.mono hk,.inr h3⟩
theorem RJ.rr{fl:J bt}{k:Nat}{m:cM}{p:dh}{a:J aH×Bool×aM}{b:J aH×aX}(h:RJ fl k m p a b)(hc:COk m p):RR fl (RB k) a b:=by
 obtain⟨h1,h2,⟨h3,h4,h5⟩|h3⟩:=h
 ·exact⟨h1,h2,.inl ⟨h3,Prod.ext (h5.2 hc) h4⟩⟩
 ·exact⟨h1,h2,.inr h3⟩
theorem RJ.go{fl:J bt}{k:Nat}{m:cM}{p:dh}{r:J aH}{s:aX}(h:nF s)(hi:RB k r)(hs:stop s=false):RJ fl k m p (r,true,gO fl s) (r,s):=⟨h,hi,.inl ⟨hs,rfl,JR.eq _⟩⟩
theorem akk(F:Nat){m:cM}{p:dh}(h:m.fq=p.fq):dX F m=ez F p:=by unfold dX ez;rw [h]
def X1(fl:J bt)(F n:Nat):Prop:=∀(N:Nat)(l:J TPart)(m:cM)(p:dh)(s:aX),Mo m p->nF s->stop s=false->eN l<=1000->9*eN l+9<=n->6*eN l+6<=N->T2 (RJ fl (eN l) m p) ((aV F n).1 l m (gO fl s)) ((bN F N).1 l p s)
def X2(fl:J bt)(F n:Nat):Prop:=∀(N:Nat)(x:TPart)(m:cM)(p:dh)(s:aX),Mo m p->nF s->stop s=false->wP x<=1000->9*wP x+8<=n->6*wP x+5<=N->T2 (RJ fl (wP x) m p) ((aV F n).2.1 x m (gO fl s)) ((bN F N).2.1 x p s)
def XV(fl:J bt)(F n:Nat):Prop:=∀(N:Nat)(l:J TPart)(m:cM)(q:Bool)(s:aX),m.fq=q->nF s->stop s=false->eN l<=1000->9*eN l+10<=n->6*eN l+7<=N->T2 (fun a b=>RV fl a b/\b.1.length<=5000*eN l) ((aV F n).2.2.2.2.1 l m (gO fl s)) ((bN F N).2.2.2.1 l q s)
section
variable {F n : Nat} {fl : J bt}
theorem alG(hF:100000000<=F)(h2:X2 fl F n):X1 fl F (n+1):=by
 intro N l m p s hm hs hst hl hn hN;obtain⟨N,rfl⟩:∃k,N=k+1:=⟨N-1,om⟩;have hll:=Fl l;show T2 _ (wJ F (aV F n) l m (gO fl s)) (AV F (bN F N) l p s)
 refine T2.lpe (fun (z:J aH×Int×aM)(y:J aH×Int×aX)=>∃k:Nat,k<=l.length/\z.2=((k:Int),gO fl y.2.2)/\y.2.1=(k:Int)/\JR m p z.1 y.1/\RB (eN (l.take k)) y.1/\nF y.2.2/\stop y.2.2=false) (fun z=>l.length-z.2.1.toNat)
  (fun (u:aX×J aH)(y:J aH×Int×aX)=>stop u.1=true/\y.1=u.2/\y.2.2=u.1/\∃k:Nat,y.2.1=(k:Int)/\k<=l.length) (fun y=>l.length-y.2.1.toNat) (fun u (y:J aH×aX)=>y=(u.2,u.1)) ⟨0,Nat.zero_le _,rfl,rfl,JR.eq _,RB.nil,hs,hst⟩ (by grind) ?_ ?_
 ·rintro⟨a,i,x⟩ ⟨o,i',s⟩ ⟨k,h3,h4,h5,h6,h7,h8,h9⟩ q1 q2 hrc hex
  dsimp only at h4 h5 h6 h7 h8 h9 hrc hex⊢;cases h4;subst h5;have hwk:=FK l k;rw [vQ,h9];have jl:a.length=o.length:=by have:=congrArg List.length h6.1;simpa using this
  by_cases hk:k<l.length
  ·have hwm:=Uq hk
   have ha:=RX hk;have VU:l.length-Int.toNat ((k+1:Nat):Int)<l.length-Int.toNat (k:Int):=om;rw [cO om,cO om,aD,aD,uJ,bu,bR om om,bR om om,bh om,bQ,TPart.eta];refine T2.bd (h2 N (l.getD k jY) m p s hm h8 h9 om om om) ?_;rintro⟨r,ok,x'⟩ ⟨r',s'⟩ ⟨g1,g2,g3⟩;dsimp only at g1 g2 g3⊢;have h10:=RB.app h7 g2;rw [<-ha] at h10;have zx:=FK l (k+1);have h11:=h10.1;rw [uI] at h11;have sz:∀a b:Nat,a+b<=26*1000->((decide (a+b<=9223372036854775807))&&(decide ((a+b)*24<=140737488355328)))=true:=fun a b h=>jN om om;rcases g3 with⟨k1,k2,k3⟩|⟨k1,k2,k3,-⟩
   ·cases k2
    have jr:r.length=r'.length:=by have:=congrArg List.length k3.1;simpa using this
    refine T2.ql (sz _ _ om) (T2.qr (sz _ _ om) (hrc _ _ ⟨k+1,hk,rfl,rfl,⟨?_,fun hc=>by rw [h6.2 hc,k3.2 hc]⟩,h10,g1,k1⟩ VU));rw [Kb,Kb,h6.1,k3.1]
   ·subst k2
    refine T2.qr (sz _ _ om) ?_;obtain⟨y,rfl,hy⟩:=hex (s',o++r') (o++r',((k+1:Nat):Int),s') ⟨k1,rfl,rfl,k+1,rfl,hk⟩ VU;rw [hy];exact T2.ok ⟨g1,h10.mono om,.inr ⟨k1,rfl,k3,rfl⟩⟩
  ·rw [cf om,cf om,aD,aS]
   rw [Iw om] at h7;exact T2.ok ⟨h8,h7,.inl ⟨h9,rfl,h6⟩⟩
 simp_all [vQ,aA.ok]
theorem VO{a b:J aH}(h:a.map (·.fText)=b.map (·.fText)):zy a=zy b:=by
 unfold zy
 grind
theorem acT{a b:J aH}(h:a.map (·.fText)=b.map (·.fText)):cz a=cz b:=by rw [<-Fp,<-Fp,VO h]
theorem acU(hF:100000000<=F)(h1:X1 fl F n):XV fl F (n+1):=by
 intro N l m q s hm hs hst hl hn hN;obtain⟨N,rfl⟩:∃k,N=k+1:=⟨N-1,om⟩;show T2 _ (wK F (aV F n) l m (gO fl s)) (D4 F (bN F N) l q s);refine T2.bd (h1 N l {m with jU:=false} (dh.mk q false false) s ⟨hm,rfl⟩ hs hst hl om om) ?_;rintro⟨r,ok,x'⟩ ⟨r',s'⟩ ⟨g1,g2,g3⟩;dsimp only at g1 g2 g3⊢;have z1:=g2.1;have z2:=g2.2;have e18:=aaV F r' om om om;have etx:(r'.flatMap fun r=>r.fText)=zy r':=rfl;rw [e18];have hlen:=Fp r';rcases g3 with⟨k1,k2,k3⟩|⟨k1,k2,k3,-⟩
 ·cases k2
  have jr:r.length=r'.length:=by have:=congrArg List.length k3.1;simpa using this
  have js:=acT k3.1;rw [ku,aS,FO F r om om om,VO k3.1];refine T2.cb (fun h=>?_) fun h=>T2.ok ⟨⟨⟨g1,by grind,.inl ⟨k1,rfl⟩⟩,fun _=>?_⟩,by simp_all⟩
  ·rw [tS]
   refine T2.ok ⟨⟨RR.err g1 (by grind) k1 de rfl,fun h=>?_⟩,by simp_all⟩
   grind [ahn]
  grind
 ·subst k2
  rw [uJ,bu,tS,k1,bu];refine T2.cr (fun _=>T2.ok ?_) fun _=>T2.ok ?_
  all_goals exact⟨⟨⟨g1,by grind,.inr ⟨k1,rfl,k3,rfl⟩⟩,fun h=>by rw [k1] at h;cases h⟩,by simp_all⟩
end
theorem aA.eqv{R:Type}{x:O R}{v:R}(h:aA (fun r=>r=v) x):x=some v:=by
 obtain⟨r,h,e⟩:=h;rw [e,h]
def qz(o:J aH)(r:aH):J aH:=cond (r.fText==[]) o (cond (decide (0<o.length)&&((o.getD (o.length-1) dm).b8==r.b8)) (o.set (o.length-1) (aH.mk ((o.getD (o.length-1) dm).fText++r.fText) (o.getD (o.length-1) dm).b8)) (o++[r]))
def nG(l:J aH):J aH:=l.foldl qz []
theorem aaY:∀(l:J aH)(k:Nat)(t:Bs)(c:Int),k<l.length->cz (l.set k (aH.mk ((l.getD k dm).fText++t) c))=cz l+t.length
 | [],k,t,c,h=>absurd h (ac6 _)
 | a::l,0,t,c,h=>by
  unfold cz
  grind
 | a::l,k+1,t,c,h=>by
  have:=aaY l k t c (by simpa using h);show cz (a::l.set k (aH.mk ((l.getD k dm).fText++t) c))=_;unfold cz at this⊢;simp only [lD,XE];omega
theorem ajy(o:J aH)(r:aH):cz (qz o r)=cz o+r.fText.length/\(qz o r).length<=o.length+1:=by
 unfold qz
 cases h1:(r.fText==[]) with
 | true=>
  simp_all
 | false=>
  cases h2:(decide (0<o.length)&&((o.getD (o.length-1) dm).b8==r.b8)) with
  | true=>
   grind [aaY,List.length_set]
  | false=>
   refine⟨?_,by simp_all⟩;show cz (o++[r])=_;rw [BD];simp [cz]
theorem Lr:∀(l o:J aH),cz (l.foldl qz o)=cz o+cz l/\(l.foldl qz o).length<=o.length+l.length
 | [],o=>⟨by simp [cz],si⟩
 | r::l,o=>by
  obtain⟨h1,h2⟩:=Lr l (qz o r);obtain⟨h3,h4⟩:=ajy o r;rw [Di];refine⟨by rw [h1,h3];simp [cz];omega,bF⟩
theorem acV(F:Nat)(l:J aH){R:Type}(f:J aH->R)(hF:l.length<F)(h1:l.length<=1000000)(h2:cz l<=100000000):
  bV (σ:=Int×(J aH)) (R:=R) (fun gG x2=>
   cond (decide (x2.1<(l.length:Int)))
   (rq ((decide (0<=x2.1))&&(decide (x2.1<(l.length:Int)))) (cond (((l.getD (Int.toNat x2.1) dm).fText)==[])
   (gG (aB (x2.1+1),x2.2))
   ((cond (decide (0<=aB ((x2.2.length:Int)-1)))
   (rq ((decide (0<=aB ((x2.2.length:Int)-1)))&&(decide (aB ((x2.2.length:Int)-1)<(x2.2.length:Int)))) (some (((x2.2.getD (Int.toNat (aB ((x2.2.length:Int)-1))) dm).b8)==((l.getD (Int.toNat x2.1) dm).b8),x2.2)))
   (some (false,x2.2)):O (Bool×(J aH))).bind fun x4=>
   cond x4.1
   (rq ((decide (0<=aB ((x2.2.length:Int)-1)))&&(decide (aB ((x2.2.length:Int)-1)<(x4.2.length:Int)))) (rq (decide (((x4.2.getD (Int.toNat (aB ((x2.2.length:Int)-1))) dm).fText).length+((l.getD (Int.toNat x2.1) dm).fText).length<=9223372036854775807)) (rq ((decide (0<=aB ((x2.2.length:Int)-1)))&&(decide (aB ((x2.2.length:Int)-1)<(x4.2.length:Int)))) (gG (aB (x2.1+1),x4.2.set (Int.toNat (aB ((x2.2.length:Int)-1))) (aH.mk (((x4.2.getD (Int.toNat (aB ((x2.2.length:Int)-1))) dm).fText)++((l.getD (Int.toNat x2.1) dm).fText)) ((x4.2.getD (Int.toNat (aB ((x2.2.length:Int)-1))) dm).b8)))))))
   (rq ((decide (x4.2.length+([(l.getD (Int.toNat x2.1) dm)]:J aH).length<=9223372036854775807))&&(decide ((x4.2.length+([(l.getD (Int.toNat x2.1) dm)]:J aH).length)*24<=140737488355328))) (gG (aB (x2.1+1),x4.2++([(l.getD (Int.toNat x2.1) dm)]:J aH)))))))
   (some (f x2.2))) F (0,([]:J aH))=some (f (nG l)):=by
 refine aA.eqv ?_;refine aA.lp (fun z:Int×J aH=>∃k:Nat,z.1=(k:Int)/\k<=l.length/\z.2=nG (l.take k)) (fun z=>l.length-z.1.toNat) ⟨0,rfl,fX _,rfl⟩ (by simp_all) ?_;rintro⟨i,o⟩ ⟨k,q1,hk,q2⟩ rc hrc;dsimp only at q1 q2 hrc⊢;subst q1;refine aA.cd (fun h=>?_) fun h=>?_
 ·have hk:k<l.length:=om
  have hm:l.length-Int.toNat ((k+1:Nat):Int)<l.length-Int.toNat (k:Int):=om
  have es:nG (l.take (k+1))=qz o l[k]:=by
   unfold nG;rw [qA hk,RC,q2];rfl
  obtain⟨b1,b2⟩:=Lr (l.take k) [];rw [show (l.take k).foldl qz []=o from q2.symm] at b1 b2;have b3:=tT l k;have b5:=tT l (k+1);have b6:=p6 l k hk;have z0:cz ([]:J aH)=0:=rfl;simp only [Ka] at b2;have nx:∀o',o'=qz o l[k]->aA (fun r=>r=f (nG l)) (rc (((k+1:Nat):Int),o')):=fun o' ho=>hrc _ ⟨k+1,rfl,hk,by rw [es];exact ho⟩ hm;rw [bR om om,bh om,bQ,gd hk];generalize l[k]=a at nx b6⊢;refine aA.cb (fun ha=>nx o (by unfold qz;rw [ha];rfl)) fun ha=>?_;by_cases h0:0<o.length
  ·have e1:aB ((o.length:Int)-1)=((o.length-1:Nat):Int):=by grind [bG]
   rw [e1,cO om,bR om om,bQ,aD]
   refine aA.cb (fun hc=>?_) fun hc=>aA.rq (nJ (by grind) de) (nx _ (by
    unfold qz;grind))
   have hle:(o.getD (o.length-1) dm).fText.length<=cz o:=by
    have hlt:o.length-1<o.length:=om;rw [gd hlt];have:=p6 o (o.length-1) hlt
    grind
   refine aA.rq (jN om (by dsimp only;omega)) (aA.rq (decide_eq_true (by dsimp only;omega)) (aA.rq (jN om (by dsimp only;omega)) (nx _ ?_)));unfold qz;grind
  ·have e1:aB ((o.length:Int)-1)=-1:=by simp_all [bG]
   rw [e1,cf om,aD];exact aA.rq (nJ (by simp_all) de) (nx _ (by unfold qz;grind))
 simp_all [Iw,aA.ok]
def RPt(fl:J bt)(k:Nat)(a:J aH×Bool×aM)(b:J aH×aX):Prop:=nF b.2/\RB k b.1/\((stop b.2=false/\a=(nG b.1,true,gO fl b.2))\/(stop b.2=true/\a.2.1=false/\Fin a.2.2 b.2))
theorem akl(F:Nat)(t:Bs):ud F t=some ((t==[64])||(t==[42])):=by unfold ud;rw [aK];rfl
theorem alH(F:Nat)(o:Int)(c s:Bool)(v:Bs):AF F o c s v=rY F o c s v:=by
 unfold AF rY;simp only [aK,aD]
 grind
section
variable {F n : Nat} {fl : J bt}
theorem ahr(hF:100000000<=F)(h1:X1 fl F n)(N:Nat)(l:J TPart)(s:aX)(hs:nF s)(hst:stop s=false)(hl:eN l<=1000)(hn:9*eN l+9<=n)(hN:6*eN l+6<=N):
  T2 (RPt fl (eN l)) ((aV F (n+1)).2.2.2.2.2.2.1 l (gO fl s)) ((bN F N).1 l (dh.mk false false false) s):=by
 show T2 _ (oG F (aV F n) l (gO fl s)) _;unfold oG;obtain⟨⟨r,ok,x'⟩,⟨r',s'⟩,h,e1,e2⟩:=h1 N l (cM.mk false false 0) (dh.mk false false false) s ⟨rfl,rfl⟩ hs hst hl hn hN;have h:=h.rr (fun _=>rfl);rw [e1,e2,aD];obtain⟨g1,g2,⟨k1,k2⟩|⟨k1,k2,k3,k4⟩⟩:=h
 ·cases k2
  have z1:=g2.1;have z2:=g2.2;dsimp only at z1 z2⊢;rw [acV F _ (fun o=>(o,true,gO fl s')) om om om];exact T2.ok ⟨g1,g2,.inl ⟨k1,rfl⟩⟩
 ·have k4:=k4
  subst k2 k4;rw [acV F [] (fun o=>(o,false,x')) bF si (by simp [cz])];exact T2.ok ⟨g1,g2,.inr ⟨k1,rfl,k3⟩⟩
theorem ahs(hF:100000000<=F)(hv:XV fl F n)(N:Nat)(x:TPart)(m:cM)(p:dh)(s:aX)(hm:m.fq=p.fq)(hs:nF s)(hst:stop s=false)(hl:wP x<=1000)(hn:9*eN x.fParts+10<=n)(hN:6*eN x.fParts+7<=N):
  T2 (fun a b=>nF b/\stop b=true/\a.1=false/\Fin a.2 b) ((aV F (n+1)).2.2.2.2.2.2.2.2 x m (gO fl s)) ((bN F (N+1)).2.2.2.2.2 x p s):=by
 have hw:=Jk x;show T2 _ (oH F (aV F n) x m (gO fl s)) (uo F (bN F N) x p s);unfold oH uo;rw [aK,aD];have l1:decide (x.fText.length+([58,32]:Bs).length<=9223372036854775807)=true:=decide_eq_true (by grind);have bad:∀(t:Bs)(u:aX),nF u->stop u=false->nF (cond (stop u) u {u with fe:=32,fm:=t})/\stop (cond (stop u) u {u with fe:=32,fm:=t})=true/\Fin {gO fl u with fm:=t,yK:=32} (cond (stop u) u {u with fe:=32,fm:=t}):=fun t u hu hsu=>⟨Lq hu _ _,(failed (fl:=fl) hsu de).1,(failed hsu de).2⟩;by_cases h0:0<x.fParts.length
 ·rw [cO om]
  obtain⟨⟨t0,ok,x'⟩,⟨t,s'⟩,⟨⟨⟨hg,hi,hh⟩,hlen⟩,-⟩,e1,e2⟩:=hv N x.fParts m p.fq s hm hs hst om hn hN;rw [e2];rcases hh with⟨k1,k2⟩|⟨k1,k2,k3,k4⟩
  ·cases k2
   grind [T2.ql,T2.qr,J8,tS,T2.ok]
  ·subst k2
   grind [T2.qr,tS,T2.ok]
 ·rw [cf om,cf om]
  cases x.fColon with
  | true=>
   refine T2.ql (dQ (by show x.fText.length+27<=_;omega)) (T2.qr l1 (T2.qr (dQ (by rw [uI];show x.fText.length+2+25<=_;omega)) ?_))
   simp_all [J8,tS,T2.ok]
  | false=>
   refine T2.ql (dQ (by show x.fText.length+19<=_;omega)) (T2.qr l1 (T2.qr (dQ (by rw [uI];show x.fText.length+2+17<=_;omega)) ?_))
   simp_all [J8,tS,T2.ok]
end
def T7(F:Nat):Prop:=∀(op:Int)(v:Bs)(l:J aH),6<=op->op<=9->v.length<=4096->l.length<=26000->cz l<=5000000 ->
 T2 (fun a b=>a=b/\b.length<=v.length) ((iK F (nG l)).bind fun p=>E7 F op v p) ((jK F l).bind fun p=>E1 F op v p)
theorem T2.bd2{A B C D X Y:Type}{Q:A->B->Prop}{P:C->D->Prop}{x:O X}{y:O Y}{f:X->O C}{g:Y->O D}{h:C->O A}{h':D->O B}(t:T2 P (x.bind f) (y.bind g))(k:∀a b,P a b->T2 Q (h a) (h' b)):T2 Q (x.bind fun a=>(f a).bind h) (y.bind fun b=>(g b).bind h'):=by
 rw [<-adf,<-adf];exact T2.bd t k
theorem aoW{D X Y:Type}{y:O X}{g:X->O D}{h:D->O Y}{b:D}(e:(y.bind g)=some b):(y.bind fun b=>(g b).bind h)=h b:=by
 rw [<-adf,e];rfl
theorem pid{A B C:Type}(y:O (A×B×C)):(y.bind fun x=>some (x.1,x.2.1,x.2.2))=y:=by cases y<;>rfl
theorem anv{A B:Type}(y:O (A×B)):(y.bind fun x=>some (x.1,x.2))=y:=by cases y<;>rfl
theorem trB(o:Int):(cond (o==6) (o==6) (cond (o==7) (o==7) (cond (o==8) (o==8) (o==9))))=cond (decide (6<=o)) (decide (o<=9)) false:=by
 rw [cF]
 grind
theorem alI(F:Nat)(fl:J bt){s:aX}(h:nF s)(n v:Bs)(m:cM)(p:dh)(hm:Mo m p)(hv:v.length<=4096)(hF:1000<F):T2 (fun a b=>a=b/\RB 1 b) (mQ F n v m (gO fl s)) (lS F n v p s):=by
 obtain⟨r,hr,er⟩:=alz F h.1 n v p hv hF;refine⟨r,r,⟨rfl,hr⟩,?_,er⟩;rw [<-er];obtain⟨m1,m2⟩:=hm;unfold mQ lS;rw [akl,akk F m1,m1,m2,show (gO fl s).ck=s.ck from rfl];simp only [aK,aD];obtain⟨c,hc⟩:=Pm F p
 have e:cond (cond (!p.jU) true (!((n==[64])||(n==[42])))) true (cond (n==[42]) p.fq false)=cond (cond (!p.jU) true (cond (!(n==[64])) (!(n==[42])) false)) true (cond p.fq (n==[42]) false):=by
  grind
 rw [e]
 cases (cond (cond (!p.jU) true (cond (!(n==[64])) (!(n==[42])) false)) true (cond p.fq (n==[42]) false)) with
 | true=>rfl
 | false=>
  rw [aS];congr 1
  funext rc z
  cases hd:decide (z.2<(s.ck.cC.length:Int)) with
  | false=>rfl
  | true=>
   cases h0:decide (0<=z.2) with
   | false=>
    grind
   | true=>
    rfl
section
variable {F n : Nat} {fl : J bt}
theorem alJ(hF:100000000<=F)(hT:T7 F)(h1:∀k,k<n->X1 fl F k)(hV:∀k,k<n->XV fl F k)(N:Nat)(x:TPart)(m:cM)(p:dh)(s:aX)(hm:Mo m p)(hs:nF s)(hst:stop s=false)(hx:wP x<=1000)(hn:9*wP x+7<=n)(hN:6*wP x+4<=N):
  T2 (RJ fl (wP x) m p) ((aV F n).2.2.2.2.2.1 x m (gO fl s)) ((bN F N).2.2.2.2.1 x p s):=by
 have hw:=Jk x;obtain⟨j,rfl⟩:∃j,n=j+3:=⟨n-3,om⟩;obtain⟨M,rfl⟩:∃j,N=j+2:=⟨N-2,om⟩;show T2 _ (nj F (aV F (j+2)) x m (gO fl s)) (um F (bN F (M+1)) x p s);unfold nj um;obtain⟨⟨v,st⟩,hv,ev⟩:=aly F hs.1.1 x.fText om om;rw [show xQ F (gO fl s).ck x.fText=jM F s.ck x.fText from ans F hs.1.1 x.fText om om,ev,aD,aD];obtain⟨c,hc⟩:=Pm F p;have hmc:dX F m=some c:=by rw [akk F hm.1,hc]
 have htr:CA F x.fOp=some (cond (decide (6<=x.fOp)) (decide (x.fOp<=9)) false):=by unfold CA;rw [aK];rfl
 simp only [akl,htr,hc,hmc,aK,aD,trB,cT];dsimp only at hv⊢;rw [show (gO fl s).ck=s.ck from rfl];generalize htB:cond (decide (6<=x.fOp)) (decide (x.fOp<=9)) false=tr;generalize hnb:((mR .i64 s.ck.iA 2) != 0)=nb;have l1:decide (x.fText.length+([58,32,112,97,114,97,109,101,116,101,114,32,110,111,116,32,115,101,116]:Bs).length<=9223372036854775807)=true:=dQ (by show x.fText.length+19<=_;omega)
 have key:∀A B:O (Unit ⊕ (J aH×Bool×aM)),(cond (cond (x.fOp==0) (x.fOp==0) (cond (x.fOp==5) (x.fOp==5) tr)) (cond (cond (cond nb (!st) false) (!((x.fText==[64])||(x.fText==[42]))) false) A B) B)=cond (cond (cond (cond nb (!((x.fText==[64])||(x.fText==[42]))) false) (!st) false) ((x.fOp==0)||((x.fOp==5)||tr)) false) A B:=fun A B=>by
  grind
 rw [key];have one:∀(t:Bs)(u:aX),t.length<=5000*wP x->nF u->stop u=false->T2 (RJ fl (wP x) m p) ((gE F t c).bind fun fF=>some (fF,true,gO fl u)) (some ([aH.mk t c],u)):=fun t u ht hu hsu=>T2.ok (RJ.go hu (RB.one om ht) hsu)
 cases (cond (cond (cond nb (!((x.fText==[64])||(x.fText==[42]))) false) (!st) false) ((x.fOp==0)||((x.fOp==5)||tr)) false) with
 | true=>
  rw [bu,bu,cD l1,cD l1,J8,tS]
  exact T2.ok (RR.j (RR.err hs (RB.nil (k:=1)) hst de rfl) om)
 | false=>
  rw [aS,aS];show T2 _ (cond (x.fOp==5) _ _) _;have R:∀k:Nat,k<=1000000->K.gw (k:Int):=fun k hk=>⟨om,om⟩
  have dec:∀k:Nat,k<=1000000->T2 (RJ fl (wP x) m p) ((oy F (k:Int)).bind fun fR=>(gE F fR c).bind fun fF=>some (fF,true,gO fl s)) ((dB F (k:Int)).bind fun x9=>some ([aH.mk x9 c],s)):=fun k hk=>by
   grind [K.wA,afs,K.JL]
  cases h5:(x.fOp==5) with
  | true=>
   rw [bu,bu,bu];have hp:=hs.1.1.2.1;show T2 _ ((oy F (cond ((x.fText==[64])||(x.fText==[42])) (s.ck.cC.length:Int) (v.length:Int))).bind _) _
   grind
  | false=>
   rw [aS,aS,aS,aS]
   cases tr with
   | true=>
    rw [bu,bu]
    have hop:6<=x.fOp/\x.fOp<=9:=by
     simp_all
    refine T2.bd (ahr hF (h1 (j+1) om) (M+1) x.fParts s hs hst om om om) ?_;rintro⟨r,ok,x'⟩ ⟨r',s'⟩ ⟨g1,g2,g3⟩;dsimp only at g1 g2 g3⊢;have z1:=g2.1;have z2:=g2.2;have hTr:=hT x.fOp v r' hop.1 hop.2 hv om om;rcases g3 with⟨k1,k2⟩|⟨k1,k2,k3⟩
    ·cases k2
     rw [ku,aS];refine T2.bd2 hTr ?_
     grind
    ·have k2:ok=false:=k2
     subst k2;rw [uJ,bu];obtain⟨a,b,⟨-,hb⟩,-,e2⟩:=hTr;rw [aoW e2]
     exact T2.ok ⟨g1,RB.one om om,.inr ⟨k1,rfl,k3,rfl⟩⟩
   | false=>
    rw [aS,aS,TPart.eta,pid];show T2 _ (pN F (aV F (j+1)) x m v st (gO fl s)) _;unfold pN;rw [alH];obtain⟨ch,hch⟩:=ajv F x.fOp x.fColon st v;rw [hch,aD,aD,hmc];simp only [pid,anv,TPart.eta];refine T2.cb (fun _=>?_) fun _=>T2.cb (fun _=>one [] s (fX _) hs hst) fun _=>T2.cb (fun _=>?_) fun _=>T2.cb (fun _=>?_) fun _=>?_
    ·refine T2.mono (h1 (j+1) om (M+1) x.fParts {m with mw:=2} {p with BZ:=true} s hm hs hst om om om) ?_
     rintro a b h;exact RR.j (h.rr fun _=>rfl) om
    ·rw [K.Gd F _ om]
     obtain⟨nm,-,enm⟩:=Ek F x.fText om;rw [enm,aD,aD];have l3:decide (x.fText.length+([58,32,99,97,110,110,111,116,32,97,115,115,105,103,110]:Bs).length<=9223372036854775807)=true:=dQ (by show x.fText.length+15<=_;omega);refine T2.cb (fun _=>?_) fun _=>?_
     ·rw [cD l3,cD l3,J8,tS]
      exact T2.ok (RR.j (RR.err hs (RB.nil (k:=1)) hst de rfl) om)
     ·refine T2.bd (hV (j+1) om (M+1) x.fParts m p.fq s hm.1 hs hst om om om) ?_
      rintro⟨t0,ok,x'⟩ ⟨t,s'⟩ ⟨⟨⟨g1,g2,g3⟩,g4⟩,g5⟩;dsimp only at g1 g2 g3 g4 g5⊢
      have ht:t.length<=5000*wP x:=by
       grind
      rcases g3 with⟨k1,k2⟩|⟨k1,k2,k3,k4⟩
      ·cases k2
       rw [ku,aS];refine T2.l (P:=fun y:Bool×aM=>∃s2,hU F x.fText t0 s'=some s2/\nF s2/\((stop s2=false/\y=(false,gO fl s2))\/(stop s2=true/\y.1=true/\Fin y.2 s2))) ?_ ?_
       ·obtain⟨⟨a1,a2⟩,s2,⟨b1,b2⟩,e1,e2⟩:=acS F fl g1 k1 x.fText t0 om
        simp_all [aD,aA.ok]
       ·rintro⟨a1,a2⟩ ⟨s2,e2,b1,b2⟩
        rw [e2,aD];rcases b2 with⟨b2,b3⟩|⟨b2,b3,b4⟩
        ·simp_all
        ·have b3:a1=true:=b3
         subst b3;exact T2.ok ⟨b1,RB.one om ht,.inr ⟨b2,rfl,b4,rfl⟩⟩
      ·have k2:ok=false:=k2
       subst k2;rw [uJ,bu,aD,aki F k1,aD];exact T2.ok ⟨g1,RB.one om ht,.inr ⟨k1,rfl,k3,rfl⟩⟩
    ·refine T2.bd (ahs hF (hV j om) M x m p s hm.1 hs hst hx om om) ?_
     rintro⟨a1,a2⟩ s2 ⟨b1,b2,b3,b4⟩;have b3:a1=false:=b3;subst b3;exact T2.ok ⟨b1,RB.nil,.inr ⟨b2,rfl,b4,rfl⟩⟩
    ·refine T2.bd (alI F fl hs x.fText v m p hm hv om) ?_
     rintro a b ⟨rfl,hb⟩;exact T2.ok (RJ.go hs (hb.mono om) hst)
end
theorem ap7{R:Type}(F:Nat)(p:TPart)(f:Bool->O R):((cond (p.fKind==4) (some (p.fText==([64]:Bs))) (some false):O Bool).bind fun x4=>(cond x4 (some (p.fOp==0)) (some false):O Bool).bind f)=(vz F p).bind f:=by
 unfold vz
 grind
theorem aoX(F:Nat){l:J bD}(hl:l.length<=128)(hF:1000<F){R:Type}(n:Bs)(A:bD->O R)(B:O R):((yL F l n).bind fun x5=>(cond x5.2 (some x5.1.cE) (some false):O Bool).bind fun x6=>cond x6 (A x5.1) B)=cond (j9 l n).1.cE (A (j9 l n).1) B:=by
 rw [ajt F _ _ om om]
 have hb:(j9 l n).2=false->(j9 l n).1=bD.mk [] [] false false false:=by
  unfold j9;cases l.find? _<;>simp
 grind
section
variable {F n : Nat} {fl : J bt}
theorem anw(hN':NC<=F)(hF:100000000<=F)(hT:T7 F)(h1:∀k,k<n->X1 fl F k)(hV:∀k,k<n->XV fl F k):X2 fl F n:=by
 intro N x m p s hm hs hst hx hn hN;have hw:=Jk x;obtain⟨j,rfl⟩:∃j,n=j+2:=⟨n-2,om⟩;obtain⟨M,rfl⟩:∃j,N=j+2:=⟨N-2,om⟩;show T2 _ (qP F (aV F (j+1)) x m (gO fl s)) (vC F (bN F (M+1)) x p s);unfold qP vC;obtain⟨c,hc⟩:=Pm F p;obtain⟨d,hd⟩:=anq F p;simp only [pid,TPart.eta];have one:∀(t:Bs)(c:Int),t.length<=5000*wP x->T2 (RJ fl (wP x) m p) ((gE F t c).bind fun fF=>some (fF,true,gO fl s)) (some ([aH.mk t c],s)):=fun t c ht=>T2.ok (RJ.go hs (RB.one om ht) hst);refine T2.cb (fun _=>?_) fun _=>T2.cb (fun _=>one _ _ om) fun _=>T2.cb (fun _=>?_) fun _=>T2.cb (fun _=>?_) fun _=>T2.cb (fun _=>?_) fun _=>T2.cb (fun _=>?_) fun _=>T2.cb (fun _=>?_) fun _=>T2.ok (RJ.go hs RB.nil hst)
 ·
  have hl:∃d',pT F m=some d'/\(COk m p->d'=d):=by
   unfold pT;unfold pJ at hd;rw [<-hm.1] at hd;unfold COk
   grind
  obtain⟨d',hd',he⟩:=hl;rw [hd,hd',aD,aD];exact T2.ok ⟨hs,RB.one om (by grind),.inl ⟨hst,rfl,rfl,fun h=>by rw [he h]⟩⟩
 ·
  show T2 _ (pM F (aV F j) x m (gO fl s)) _;unfold pM;have hkl:=Fl x.fParts
  have rl:∀(r:J aH)(u:aX),aA (fun y=>y=(r,u)\/(r=[]/\y=([aH.mk [] 1],u))) (bV (σ:=Int) (R:=(J aH)×aX) (fun kR x3=>
    cond (decide (x3<(x.fParts.length:Int)))
    (rq ((decide (0<=x3))&&(decide (x3<(x.fParts.length:Int)))) ((vz F (x.fParts.getD (Int.toNat x3) jY)).bind fun x5=>
    cond x5
    (some (r,u))
    (kR (aB (x3+1)))))
    (cond ((r.length:Int)==0)
    (some (([(aH.mk [] 1)]:J aH),u))
    (some (r,u)))) F 0):=fun r u=>by
   refine aA.lp (fun i:Int=>∃k:Nat,i=(k:Int)/\k<=x.fParts.length) (fun i=>x.fParts.length-i.toNat) ⟨0,rfl,om⟩ (by grind) ?_;rintro _ ⟨k,rfl,hk⟩ rc hrc;refine aA.cd (fun h=>?_) fun _=>aA.cb (fun h=>aA.ok (.inr ⟨adg.1 (by simp_all),rfl⟩)) fun _=>aA.ok (.inl rfl);obtain⟨b,hb⟩:=akg F (x.fParts.getD (Int.toNat (k:Int)) jY);rw [bR om om,hb,aD,bh om];exact aA.cb (fun _=>aA.ok (.inl rfl)) fun _=>hrc _ ⟨k+1,rfl,om⟩ (by grind)
  refine T2.bd (h1 j om (M+1) x.fParts (cM.mk true m.jU 0) (dh.mk true false p.jU) s ⟨rfl,hm.2⟩ hs hst om om om) ?_;intro a b h;have h:=h.rr (fun h=>nomatch h);obtain⟨r,ok,x'⟩:=a;obtain⟨r',s'⟩:=b;obtain⟨g1,g2,⟨k1,k2⟩|⟨k1,k2,k3,k4⟩⟩:=h
  ·cases k2
   dsimp only at g1 g2 k1⊢;rw [ku,aS];by_cases h0:0<r'.length
   ·rw [cO om]
    obtain⟨y,hy,e⟩:=rl r' s';rw [e];rcases hy with rfl|⟨h,_⟩
    ·exact T2.ok (RJ.go g1 (g2.mono om) k1)
    simp_all
   ·rw [cf om]
    have hnil:r'=[]:=adg.1 om;subst hnil;refine T2.lp (fun (i i':Int)=>∃k:Nat,i=(k:Int)/\i'=(k:Int)/\k<=x.fParts.length) (fun i=>x.fParts.length-i.toNat) ⟨0,rfl,rfl,om⟩ (by grind) ?_;rintro _ _ ⟨k,rfl,rfl,hk⟩ q1 q2 hrc;refine T2.cb (fun h=>?_) fun _=>T2.ok (RJ.go g1 (RB.one om (fX _)) k1);have h:=wR h;have e:=ap7 (R:=J aH×Bool×aM) F (x.fParts.getD (Int.toNat (k:Int)) jY);obtain⟨b,hb⟩:=akg F (x.fParts.getD (Int.toNat (k:Int)) jY);refine T2.ql (jN om om) (T2.qr (jN om om) ?_);rw [e,hb,aD,aD,bh om];exact T2.cb (fun _=>T2.ok (RJ.go g1 RB.nil k1)) fun _=>hrc _ _ ⟨k+1,rfl,rfl,om⟩ (by grind)
  ·have k2:ok=false:=k2
   have k4:r=[]:=k4;subst k2 k4;dsimp only at g1 g2 k1 k3⊢;rw [uJ,bu];obtain⟨y,hy,e⟩:=rl r' s';rw [e];rcases hy with rfl|⟨_,rfl⟩
   ·exact T2.ok ⟨g1,g2.mono om,.inr ⟨k1,rfl,k3,rfl⟩⟩
   ·exact T2.ok ⟨g1,RB.one om (fX _),.inr ⟨k1,rfl,k3,rfl⟩⟩
 ·
  have hl:=hs.1.1.1.1;have hv:=(OP hs.1.1.1 [72,79,77,69]).2;have e:=aoX F (l:=s.ck.bM) hl om [72,79,77,69] (fun v=>(gE F v.bK 1).bind fun x7=>some (x7,true,gO fl s)) ((gE F [126] 0).bind fun x8=>some (x8,true,gO fl s));rw [show (gO fl s).ck=s.ck from rfl,e,xY F s.ck.bM _ om om,aD]
  grind
 ·
  exact (ap5 F fl hs hst x m p hm.1 om).mono fun a b h=>RR.j h om
 ·
  have:=anu hN' hF fl (aV F j) (bN F M) x m p hm.1 s ((hV j om M x.fParts (cM.mk true false 0) true s rfl hs hst om om om).mono fun a b h=>h.1);exact this.mono fun a b h=>RR.j h om
 grind [alJ,anv]
theorem afu(hN':NC<=F)(hF:100000000<=F)(hT:T7 F):∀n,X1 fl F n:=by
 intro n
 induction n using Nat.strongRecOn with
 | ind n ih=>
  cases n with
  | zero=>intro N l m p s _ _ _ _ h _;omega
  | succ n=>
   have hV:∀k,k<n+1->XV fl F k:=fun k hk=>by
    cases k with
    | zero=>intro N l m q s _ _ _ _ h _;omega
    | succ k=>grind [acU]
   grind [alG,anw]
end
def afv(it:aG)(t:Bs):Prop:=it.fKind=3\/∃b,t=[b]/\QM it (b.toNat:Int)=true
def Mt:J aG->Bs->Prop
 | [],s=>s=[]
 | it::p,s=>∃a b,s=a++b/\afv it a/\Mt p b
theorem Pn:∀(p:J aG)(it:aG)(s:Bs),Mt (p++[it]) s↔∃a b,s=a++b/\Mt p a/\afv it b
 | [],it,s=>by
  constructor
  ·rintro⟨a,b,rfl,h,rfl⟩;exact⟨[],a,si,rfl,h⟩
  ·rintro⟨a,b,rfl,rfl,h⟩;exact⟨b,[],si,h,rfl⟩
 | x::p,it,s=>by
  constructor
  ·rintro⟨a,b,rfl,h,hb⟩
   obtain⟨c,d,rfl,h1,h2⟩:=(Pn p it b).1 hb;exact⟨a++c,d,si,⟨a,c,rfl,h,h1⟩,h2⟩
  ·rintro⟨a,b,rfl,⟨c,d,rfl,h1,h2⟩,h3⟩
   exact⟨c,d++b,si,h1,(Pn p it _).2 ⟨d,b,rfl,h2,h3⟩⟩
theorem ajz{it:aG}{t:Bs}(h:afv it t):afv it t.reverse:=by
 rcases h with h|⟨b,rfl,h⟩
 ·exact .inl h
 ·exact .inr ⟨b,rfl,h⟩
theorem aaZ:∀(p:J aG)(s:Bs),Mt p s->Mt p.reverse s.reverse
 | [],s,h=>by
  obtain rfl:s=[]:=h
  rfl
 | it::p,s,h=>by
  obtain⟨a,b,rfl,h1,h2⟩:=h;rw [List.reverse_cons,List.reverse_append];exact (Pn _ _ _).2 ⟨_,_,rfl,aaZ p b h2,ajz h1⟩
theorem acW(f:Nat->Bool):∀k,upE f k=true↔∃j,j<=k/\f j=true
 | 0=>⟨fun h=>⟨0,eo _,h⟩,fun⟨j,h,e⟩=>by rwa [show j=0 by omega] at e⟩
 | k+1=>by
  rw [upE,Qt,acW f k];constructor
  ·rintro (h|⟨j,h,e⟩)
   ·exact⟨k+1,eo _,h⟩
   ·exact⟨j,om,e⟩
  ·rintro⟨j,h,e⟩
   by_cases hj:j=k+1
   ·subst hj;exact .inl e
   ·exact .inr ⟨j,om,e⟩
theorem OI(p:J aG)(s:Bs):∀i,i<=p.length->∀k,k<=s.length->(EE p s i k=true↔Mt (p.take i) (s.take k))
 | 0,_,k,hk=>by
  show (k==0)=true↔s.take k=[];rw [List.take_eq_nil_iff]
  grind
 | i+1,hi,k,hk=>by
  have hki:R7 p i=p[i]:=by unfold R7;rw [gd om]
  rw [qA (show i<p.length by omega),Pn,EE]
  cases hs:lW p i with
  | true=>
   rw [bu,acW];have h3:p[i].fKind=3:=by unfold lW at hs;simp_all
   constructor
   ·rintro⟨j,hj,e⟩
    refine⟨s.take j,(s.take k).drop j,?_,(OI p s i om j om).1 e,.inl h3⟩
    grind [Nat.min_eq_left,List.take_append_drop]
   ·rintro⟨a,b,e,h1,-⟩
    have hl:=congrArg List.length e;rw [MC,uI] at hl;refine⟨a.length,om,(OI p s i om _ om).2 ?_⟩
    grind [Nat.min_eq_left,List.take_left]
  | false=>
   have h3:p[i].fKind≠3:=by unfold lW at hs;simp_all
   cases k with
   | zero=>
    refine⟨fun h=>(by cases h),?_⟩;rintro⟨a,b,e,-,h|⟨c,rfl,h⟩⟩
    ·exact absurd h h3
    ·simp at e
   | succ k=>
    have hsk:s.take (k+1)=s.take k++[s[k]]:=qA om;show (EE p s i k&&M3 p s i k)=true↔_;rw [cx,OI p s i om k om,hsk];unfold M3;rw [hki,gd (show k<s.length by omega)];constructor
    ·rintro⟨h1,h2⟩
     exact⟨_,_,rfl,h1,.inr ⟨_,rfl,h2⟩⟩
    ·rintro⟨a,b,e,h1,h|⟨c,rfl,h⟩⟩
     ·exact absurd h h3
     grind [List.append_inj']
theorem anx(p:J aG)(s:Bs){k:Nat}(hk:k<=s.length):EE p.reverse s.reverse p.reverse.length k=EE p (s.drop (s.length-k)) p.length (s.drop (s.length-k)).length:=by
 rw [sM,OI _ _ _ (eo _) _ (by simpa using hk),OI _ _ _ (eo _) _ (eo _),Bi,Bi,Bi,List.take_reverse];exact⟨fun h=>by simpa using aaZ _ _ h,fun h=>aaZ _ _ h⟩
def dS(long:Bool)(g:Nat->Bool):Nat->Int×Bool
 | 0=>(0,false)
 | k+1=>cond (g k&&cond long true (!(dS long g k).2)) ((k:Int),true) (dS long g k)
theorem It(b:Bool){f g:Nat->Bool}:∀k,(∀j,j<k->f j=g j)->dS b f k=dS b g k
 | 0,_=>rfl
 | k+1,h=>by rw [dS,dS,h k om,It b k fun j hj=>h j om]
theorem Ls(b:Bool)(g:Nat->Bool)(k:Nat)(h:∀j,k<=j->g j=false):∀d,dS b g (k+d)=dS b g k
 | 0=>rfl
 | d+1=>by rw [<-Uh,dS,h _ om,Ls b g k h d];rfl
theorem WO(g:Nat->Bool)(k:Nat)(h:(dS false g k).2=true):∀d,dS false g (k+d)=dS false g k
 | 0=>rfl
 | d+1=>by rw [<-Uh,dS,WO g k h d,h,aS,ku,Ui,aS]
theorem aa0(b:Bool)(g:Nat->Bool):∀k,∃j:Nat,(dS b g k).1=(j:Int)/\j<=k-1/\((dS b g k).2=false->j=0)
 | 0=>⟨0,rfl,eo _,fun _=>rfl⟩
 | k+1=>by
  obtain⟨j,h1,h2,h3⟩:=aa0 b g k;rw [dS]
  grind
theorem WR(F:Nat)(p:J aG)(n:Bs)(long:Bool)(hF:p.length+300<F)(qR:n.length<F)(hn:n.length<50000000)(hp:p.length<50000000)(hit:∀it∈p,mB it){v:Bool}(hv:lV F p=some v):
  oQ F p n 0 long=some (dS long (fun k=>v&&EE p n p.length k) (n.length+1)):=by
 unfold oQ;rw [hv,aD]
 cases v with
 | false=>
  have:=Ls long (fun k=>false&&EE p n p.length k) 0 (fun _ _=>rfl) (n.length+1);rw [pV] at this
  rw [this];rfl
 | true=>
  have hw:aB ((p.length:Int)+1)=((p.length+1:Nat):Int):=cJ om;have hlen:∀g:Nat->Bool,(iC (p.length+1) g).length=p.length+1:=fun g=>BE _ g;rw [hw,ku,aS,cD (by rw [dT om,dT om,dT om,dT om,dT om];rfl),bQ,sw si,QL,FQ];rw [kM (g:=fun j=>j==0) fun j _=>by cases (j==0)<;>rfl,V0 F p _ om hp,aD,kM fun j _=>ah3 p n j]
  have hsw:∀x:O (Int×Bool),x=some (dS long (EE p n p.length) (n.length+1))->(x.bind fun x3=>some (x3.1,x3.2))=some (dS long (EE p n p.length) (n.length+1)):=by
   rintro x rfl;rfl
  refine hsw _ (dw (fun s=>∃k:Nat,s=(iC (p.length+1) (fun j=>EP p n j k),(dS long (EE p n p.length) k).1,(dS long (EE p n p.length) k).2,(k:Int))/\k<=n.length/\(long=false->(dS long (EE p n p.length) k).2=false)) (fun s=>n.length-s.2.2.2.toNat) ?_ F _ ⟨0,rfl,om,fun _=>rfl⟩ bF);rintro s ⟨k,rfl,hk,hsh⟩;rw [bR om (by rw [hlen];omega),bQ p.length,bQ k,vV _ om,agb,aK]
  have hS:dS long (EE p n p.length) (k+1)=cond (EE p n p.length k) ((k:Int),true) (dS long (EE p n p.length) k):=by
   rw [dS]
   grind
  have hend:∀d,(∀j,k<j->j<=n.length->EE p n p.length j=false)->k+1+d=n.length+1->dS long (EE p n p.length) (n.length+1)=dS long (EE p n p.length) (k+1):=by
   intro d h1 h2;rw [It long (n.length+1) (g:=fun j=>EE p n p.length j&&decide (j<=n.length)) fun j hj=>by grind,It long (k+1) (g:=fun j=>EE p n p.length j&&decide (j<=n.length)) fun j hj=>by grind,<-h2];refine Ls _ _ _ (fun j hj=>?_) d
   grind
  by_cases aft:(EE p n p.length k && !long)=true
  ·right
   rw [cx] at aft;obtain⟨h1,h2⟩:=aft;have hl:long=false:=by simpa using h2
   subst hl;intro rc;rw [h1];rw [h1,bu] at hS;have:=WO (EE p n p.length) (k+1) (by rw [hS]) (n.length-k);rw [show k+1+(n.length-k)=n.length+1 by omega,hS] at this;rw [this];rfl
  ·have hstep:∀G:Int×Bool->O (Int×Bool),(jj (σ:=Int×Bool) ((some (cond (EE p n p.length k) (decide ((0:Int)<=(k:Int))) false):O Bool).bind fun x7=>cond x7 (cond (!long) (some (.inr ((k:Int),true))) (some (.inl ((k:Int),true)))) (some (.inl ((dS long (EE p n p.length) k).1,(dS long (EE p n p.length) k).2)))) G)=G (dS long (EE p n p.length) (k+1)):=by
    intro G;rw [hS,aD]
    cases h1:EE p n p.length k with
    | false=>rfl
    | true=>
     have:long=true:=by
      simp_all
     rw [this];rfl
   by_cases hkn:k<n.length
   ·obtain⟨c,hc1,hc⟩:=abh F (iC (p.length+1) (fun j=>EP p n j k)) (by rw [hlen];omega) (by rw [hlen];omega)
    cases c with
    | false=>
     have hz:∀j,k<j->j<=n.length->EE p n p.length j=false:=by
      intro j h1 h2
      have:=UF p n k (fun i hi=>by
       have:=hc1 rfl i (by rw [hlen];omega)
       grind [vV]) (j-k) p.length (Nat.le_refl _)
      grind [agb]
     rw [hend (n.length-k) hz om]
     simp_all
    | true=>
     left;refine⟨(iC (p.length+1) (fun j=>EP p n j (k+1)),(dS long (EE p n p.length) (k+1)).1,(dS long (EE p n p.length) (k+1)).2,((k+1:Nat):Int)),⟨k+1,rfl,om,fun hl=>?_⟩,bF,fun rc=>?_⟩
     ·simp_all
     ·refine (hstep _).trans ?_
      rw [show ((k:Int)==(n.length:Int))=false by simp;omega,aS,hc,aD,aD,ku,aS,cq hkn,ad3 F p n _ k hF hp hit,aD,cJ om]
      grind [kM,aco]
   grind
theorem afw(F:Nat)(p:J aG)(n:Bs)(long:Bool)(hF:p.length+300<F)(qR:n.length+1<F)(hn:n.length<50000000)(hp:p.length<50000000)(hit:∀it∈p,mB it){v:Bool}(hv:kB F p=some v):
  rX F p n long=some (dS long (fun k=>v&&EE p n p.length k) (n.length+1)):=by
 unfold rX;rw [hv,aD]
 cases v with
 | false=>
  have:=Ls long (fun k=>false&&EE p n p.length k) 0 (fun _ _=>rfl) (n.length+1);rw [pV] at this
  rw [this];rfl
 | true=>
  rw [ku,acp F p n hF qR hn hp hit];refine dw (fun s=>∃k:Nat,s=((dS long (EE p n p.length) k).1,(dS long (EE p n p.length) k).2,(k:Int))/\k<=n.length+1) (fun s=>n.length+1-s.2.2.toNat) ?_ F _ ⟨0,rfl,om⟩ bF;rintro s ⟨k,rfl,hk⟩;dsimp only;by_cases hk2:k<=n.length
  ·left
   refine⟨_,⟨k+1,rfl,om⟩,bF,fun rc=>?_⟩;rw [bR om (by rw [BE];omega),vV _ om,cJ om,dS]
   grind
  grind
theorem afx(F:Nat)(p:J aG)(n:Bs)(long:Bool)(hF:p.length+300<F)(qR:n.length+1<F)(hn:n.length<50000000)(hp:p.length<50000000)(hit:∀it∈p,mB it){v:Bool}(hv:lV F p=some v):
  rW F p n long=some (dS long (fun k=>v&&EE p (n.drop (n.length-k)) p.length (n.drop (n.length-k)).length) (n.length+1)):=by
 generalize hg:(fun k=>v&&EE p (n.drop (n.length-k)) p.length (n.drop (n.length-k)).length)=g;refine dw (fun s=>∃k:Nat,s=((dS long g k).1,(dS long g k).2,(k:Int))/\k<=n.length+1) (fun s=>n.length+1-s.2.2.toNat) ?_ F _ ⟨0,rfl,om⟩ bF;rintro s ⟨k,rfl,hk⟩;dsimp only;by_cases hk2:k<=n.length
 ·left
  refine⟨_,⟨k+1,rfl,om⟩,bF,fun rc=>?_⟩
  have PN:sl n (aB ((n.length:Int)-(k:Int))) (n.length:Int)=n.drop (n.length-k):=by
   rw [bG om];unfold sl;simp
  rw [PN,bG om,cD (by grind),age F p _ hF (by grind) (by grind) hp hit hv,aK,Option.bind_some,Option.bind_some,cJ om,dS]
  grind
 grind
theorem afy(F:Nat)(x:J aG)(hF:x.length<F)(hx:x.length<50000000):slices_Reverse F x=some x.reverse:=by
 unfold slices_Reverse;have h0:aB ((x.length:Int)-1)=(x.length:Int)-1:=bG om;rw [h0];refine dw (fun s:Int×Int×J aG=>∃k:Nat,s.1=(k:Int)/\s.2.1=(x.length:Int)-1-(k:Int)/\2*k<=x.length+1/\s.2.2.length=x.length/\∀m,m<x.length->s.2.2.getD m fT=cond (decide (m<k)||decide (x.length<=m+k)) (x.getD (x.length-1-m) fT) (x.getD m fT)) (fun s=>x.length-s.1.toNat) ?_ F _ ⟨0,rfl,si,om,rfl,fun m hm=>by grind⟩ bF;rintro⟨i,j,l⟩ ⟨k,h1,h2,h3,h4,h5⟩;dsimp only at h1 h2 h4 h5⊢;subst h1 h2;by_cases hk:(k:Int)<(x.length:Int)-1-(k:Int)
 ·left
  have hj:(x.length:Int)-1-(k:Int)=((x.length-1-k:Nat):Int):=om;rw [hj];refine⟨(((k+1:Nat):Int),((x.length-1-k-1:Nat):Int),(l.set k (l.getD (x.length-1-k) fT)).set (x.length-1-k) (l.getD k fT)),⟨k+1,rfl,by dsimp only;omega,om,by simp_all,fun m hm=>?_⟩,bF,fun rc=>?_⟩
  ·dsimp only
   grind
  ·rw [cO om,bR om om,bR om om,bR om om,bR om (by grind),Int.toNat_natCast,Int.toNat_natCast,cJ om,wY om om]
 ·right
  intro rc;rw [cf hk];refine congrArg some (y6 (by simp_all) fun m VU hm2=>?_)
  grind
theorem aht(F:Nat)(x:J aG)(hx:x.length<50000000):AE F x=some x:=by
 unfold AE
 grind [KK,rq,iB]
def DM(F:Nat)(it:aG):Bool:=cond (cond (cond (cond (decide (it.fKind<1)) true (decide (4<it.fKind))) true ((it.fText.length:Int) != cond (it.fKind==1) 1 0)) true (cond (it.fKind != 4) (cond it.BB true (decide (0<(it.cE.length:Int)))) false)) true (!((nr F it.cE).getD false))
theorem OJ(F:Nat)(p:J aG)(hF:p.length+300<F)(hp:p.length<50000000)(hit:∀it∈p,mB it):kB F p=some (!p.any (DM F)):=by
 unfold kB;refine dw (fun s:Int=>∃k:Nat,s=(k:Int)/\k<=p.length/\(p.take k).any (DM F)=false) (fun s=>p.length-s.toNat) ?_ F _ ⟨0,rfl,om,rfl⟩ bF;rintro _ ⟨k,rfl,hk,hn⟩;by_cases hk:k<p.length
 ·have hI:=hit _ (kz hk)
  have hl:=hI.2.2;obtain⟨c,hc⟩:=BC F p[k].cE om om;have hb:∀rc:Int->O Bool,cond (DM F p[k]) (some false) (rc ((k+1:Nat):Int))=_:=fun rc=>rfl;unfold DM at hb;rw [hc] at hb;have e:(p.take (k+1)).any (DM F)=DM F p[k]:=by grind [List.take_succ_eq_append_getElem]
  cases hv:DM F p[k] with
  | true=>
   right;intro rc;rw [cO (show (k:Int)<(p.length:Int) by omega),cq hk,bQ,gd hk];rw [show p.any (DM F)=true from Ug.2 ⟨_,kz hk,hv⟩];unfold DM at hv
   grind
  | false=>
   left;refine⟨_,⟨k+1,rfl,om,by rw [e,hv]⟩,bF,fun rc=>?_⟩;rw [cO (show (k:Int)<(p.length:Int) by omega),cq hk,bQ,gd hk];unfold DM at hv
   grind [cJ]
 grind
theorem ahu(F:Nat)(p:J aG)(n:Bs)(long:Bool)(hF:p.length+300<F)(qR:n.length+1<F)(hn:n.length<50000000)(hp:p.length<50000000)(hit:∀it∈p,mB it):
  ∃r:Int×Bool,(∃j:Nat,r.1=(j:Int)/\j<=n.length/\(r.2=false->j=0))/\oR F p n long=some r/\rW F p n long=some r:=by
 have hv:=OJ F p hF hp hit;rw [<-Hx F p hF hp hit] at hv;have ajA:=fun it h=>hit it (List.mem_reverse.1 h);have hlr:p.reverse.length=p.length:=List.length_reverse;have hvr:=OJ F p.reverse (by rw [hlr];exact hF) (by rw [hlr];exact hp) ajA;rw [<-Hx F p.reverse (by rw [hlr];exact hF) (by rw [hlr];exact hp) ajA] at hvr;refine⟨_,?_,?_,afx F p n long hF qR hn hp hit hv⟩
 ·obtain⟨j,h1,h2,h3⟩:=aa0 long (fun k=>(!p.any (DM F))&&EE p (n.drop (n.length-k)) p.length (n.drop (n.length-k)).length) (n.length+1)
  grind
 ·unfold oR
  rw [aht F p hp,aD,afy F p om hp,aD,sw om,WR F p.reverse n.reverse long (by rw [hlr];exact hF) bF (by simpa using hn) (by rw [hlr];exact hp) ajA hvr]
  grind [List.length_reverse,It,anx]
theorem afz(F:Nat)(p:J aG)(n:Bs)(long:Bool)(hF:p.length+300<F)(qR:n.length+1<F)(hn:n.length<50000000)(hp:p.length<50000000)(hit:∀it∈p,mB it):
  ∃r:Int×Bool,(∃j:Nat,r.1=(j:Int)/\j<=n.length/\(r.2=false->j=0))/\oV F p n long=some r/\rX F p n long=some r:=by
 have hv:=OJ F p hF hp hit;have qg:=hv;rw [<-Hx F p hF hp hit] at qg;refine⟨_,?_,?_,afw F p n long hF qR hn hp hit hv⟩
 ·obtain⟨j,h1,h2,h3⟩:=aa0 long (fun k=>(!p.any (DM F))&&EE p n p.length k) (n.length+1)
  grind
 ·unfold oV
  grind [WR]
theorem alK(a b:Bs)(c:Int):rB (aH.mk (a++b) c)=rB (aH.mk a c)++rB (aH.mk b c):=by
 unfold rB
 grind
theorem ajB(o:J aH)(r:aH):(qz o r).flatMap rB=o.flatMap rB++rB r:=by
 obtain⟨t,c⟩:=r;unfold qz
 cases h1:(t==[]) with
 | true=>
  have:rB (aH.mk [] c)=[]:=by unfold rB;simp_all
  simp_all
 | false=>
  rw [aS]
  cases h2:(decide (0<o.length)&&((o.getD (o.length-1) dm).b8==c)) with
  | true=>
   rw [cx,fW] at h2;have hk:o.length-1<o.length:=om;have hc:=eq_of_beq h2.2
   have ho:o=o.take (o.length-1)++[o.getD (o.length-1) dm]:=by
    rw [gd hk,<-qA hk,show o.length-1+1=o.length by omega,Bi]
   rw [bu,ajI,if_pos hk,show o.length-1+1=o.length by omega,Qu,ada,List.flatMap_singleton,alK]
   conv=>rhs;rw [ho]
   rw [ada,List.flatMap_singleton,FB]
   rw [<-hc]
  | false=>simp_all
theorem WS:∀(l o:J aH),(l.foldl qz o).flatMap rB=o.flatMap rB++l.flatMap rB
 | [],o=>by simp
 | r::l,o=>by rw [Di,WS l,ajB,XF,FB]
theorem ajC(F:Nat)(l:J aH)(hF:100000000<=F)(h1:l.length<=26000)(h2:cz l<=5000000):∃p,((∀it∈p,mB it)/\p.length<=5000000)/\iK F (nG l)=some p/\jK F l=some p:=by
 obtain⟨p,hp1,hp2⟩:=ad1 F l om om om om;obtain⟨q,⟨g1,g2⟩,hq⟩:=abe F l om om om om;rw [hp1] at hq;obtain rfl:=uH hq;refine⟨p,⟨g1,om⟩,?_,hp2⟩;obtain⟨j1,j2⟩:=Lr l [];have e0:cz ([]:J aH)=0:=rfl;have hj1:cz (nG l)<=5000000:=by unfold nG;omega
 have hj2:(nG l).length<=26000:=by unfold nG;grind
 rw [<-hp1];unfold iK;rw [Ko F l om om om om,Ko F (nG l) om om om om];have:=WS l [];rw [List.flatMap_nil,pX] at this;unfold nG;rw [this]
theorem VP(F:Nat)(hF:100000000<=F):T7 F:=by
 intro op v l h6 h9 hv h1 h2;obtain⟨p,⟨g1,g2⟩,e1,e2⟩:=ajC F l hF h1 h2;have hs:=fun b=>ahu F p v b om om om om g1;have hq:=fun b=>afz F p v b om om om om g1;have sl0:sl v 0 (v.length:Int)=v:=by unfold sl;simp
 have hS:∀b,T2 (fun a b:Bs=>a=b/\b.length<=v.length) ((oR F p v b).bind fun x3=>
  cond x3.2
  (rq ((decide (0<=aB ((v.length:Int)-x3.1)))&&(decide (aB ((v.length:Int)-x3.1)<=(v.length:Int)))) (some (sl v 0 (aB ((v.length:Int)-x3.1)))))
  (some v)) ((rW F p v b).bind fun x2=>
  rq ((decide (0<=aB ((v.length:Int)-x2.1)))&&(decide (aB ((v.length:Int)-x2.1)<=(v.length:Int)))) (some (sl v 0 (aB ((v.length:Int)-x2.1))))):=by
  intro b;obtain⟨⟨i,f⟩,⟨j,rfl,h1,h2⟩,r1,r2⟩:=hs b;rw [r1,r2,aD,aD];rw [bG om,bR om om]
  cases f with
  | true=>exact⟨_,_,⟨rfl,by unfold sl;simp⟩,rfl,rfl⟩
  | false=>
   refine⟨_,_,⟨?_,?_⟩,rfl,rfl⟩
   ·simp_all
   ·unfold sl;simp
 have hP:∀b,T2 (fun a b:Bs=>a=b/\b.length<=v.length) ((oV F p v b).bind fun x4=>
  cond x4.2
  (rq ((decide (0<=x4.1))&&((decide (x4.1<=(v.length:Int)))&&(decide ((v.length:Int)<=(v.length:Int))))) (some (sl v x4.1 (v.length:Int))))
  (some v)) ((rX F p v b).bind fun x4=>
  rq ((decide (0<=x4.1))&&((decide (x4.1<=(v.length:Int)))&&(decide ((v.length:Int)<=(v.length:Int))))) (some (sl v x4.1 (v.length:Int)))):=by
  intro b;obtain⟨⟨i,f⟩,⟨j,rfl,h1,h2⟩,r1,r2⟩:=hq b;rw [r1,r2,aD,aD];rw [cD (by simp_all)]
  cases f with
  | true=>exact⟨_,_,⟨rfl,by unfold sl;simp⟩,rfl,rfl⟩
  | false=>
   obtain rfl:=h2 rfl;refine⟨_,_,⟨?_,?_⟩,rfl,rfl⟩
   ·exact sl0.symm
   ·unfold sl;simp
 have jjl:∀ {σ R:Type}(a:σ)(G:σ->O R),jj (some (.inl a)) G=G a:=fun _ _=>rfl;have jjr:∀ {σ R:Type}(a:R)(G:σ->O R),jj (some (.inr a)) G=some a:=fun _ _=>rfl;have hd:∀b,T2 (fun a b:Bs=>a=b/\b.length<=v.length) (jj (σ:=Bool) (R:=Bs) (jj (σ:=Bool) (R:=Bool ⊕ Bs) (some (.inl b)) fun x2=>
  (oR F p v x2).bind fun x3=>
  cond x3.2
  (rq ((decide (0<=aB ((v.length:Int)-x3.1)))&&(decide (aB ((v.length:Int)-x3.1)<=(v.length:Int)))) (some (.inr (sl v 0 (aB ((v.length:Int)-x3.1))))))
  (some (.inr v))) fun x1=>
  (oV F p v x1).bind fun x4=>
  cond x4.2
  (rq ((decide (0<=x4.1))&&((decide (x4.1<=(v.length:Int)))&&(decide ((v.length:Int)<=(v.length:Int))))) (some (sl v x4.1 (v.length:Int))))
  (some v)) ((rW F p v b).bind fun x2=>
  rq ((decide (0<=aB ((v.length:Int)-x2.1)))&&(decide (aB ((v.length:Int)-x2.1)<=(v.length:Int)))) (some (sl v 0 (aB ((v.length:Int)-x2.1))))):=by
  intro b;rw [jjl];have:=hS b;obtain⟨r,-,r1,-⟩:=hs b;rw [r1,aD] at this⊢
  cases h:r.2 with
  | false=>simp_all
  | true=>
   rw [h,bu] at this;unfold rq at this⊢
   cases h3:((decide (0<=aB ((v.length:Int)-r.1)))&&(decide (aB ((v.length:Int)-r.1)<=(v.length:Int)))) with
   | true=>simp_all
   | false=>rw [h3] at this;exact this
 unfold E7 E1
 grind
theorem anz(F:Nat)(b c:Int)(s:Bs)(hF:s.length<F)(hs:s.length<=5000):∃k,E2 F b c s=some k:=by
 have:aA (fun _=>True) (E2 F b c s):=by
  refine aA.cb (fun _=>aA.ok trivial) fun _=>?_;refine aA.lp (fun i=>∃n:Nat,i=(n:Int)/\n<=s.length) (fun i=>s.length-i.toNat) ⟨0,rfl,om⟩ (by simp_all) ?_;rintro _ ⟨n,rfl,hn⟩ rc hrc;refine aA.cd (fun h=>?_) fun _=>aA.ok trivial;rw [bR om om,bR om om,bh om];simp [aK];exact aA.cb (fun _=>aA.ok trivial) fun _=>aA.cb (fun _=>aA.ok trivial) fun _=>hrc _ ⟨n+1,rfl,om⟩ (by grind)
 obtain⟨r,-,h⟩:=this;exact⟨r,h⟩
def EL(k:Nat)(l:J cG):Prop:=l.length<=k/\∀e∈l,e.fI.length<=1
theorem EL.snoc{k:Nat}{l:J cG}(h:EL k l){e:cG}(he:e.fI.length<=1):EL (k+1) (l++[e]):=⟨by have:=h.1;simp;omega,fun x hx=>by
 rcases yy.1 hx with hx|hx
 ·exact h.2 x hx
 simp_all⟩
theorem EL.mono{k j:Nat}{l:J cG}(h:EL k l)(hj:k<=j):EL j l:=⟨by have:=h.1;omega,h.2⟩
theorem anA{l:J aH}{k:Nat}(h:k<l.length):cz (l.take (k+1))=cz (l.take k)+(l.getD k dm).fText.length:=by
 rw [qA h,BD,gd h];simp [cz]
theorem ajD(l:J aH)(k:Nat):cz (l.take k)<=cz l:=by
 grind [BD,List.take_append_drop]
theorem anB(F:Nat)(l:J aH)(s:Bs)(hF:l.length+cz l+5000<F)(h1:l.length<=1000000)(h2:cz l<=10000000)(hs:s.length<=5000):aA (EL (l.length+cz l)) (B1 F l s):=by
 refine aA.lp (fun z=>∃k:Nat,z.2=(k:Int)/\k<=l.length/\EL (k+cz (l.take k)) z.1) (fun z=>l.length-z.2.toNat) ⟨0,rfl,om,by simp [EL]⟩ (by grind) ?_;rintro⟨o,_⟩ ⟨k,rfl,h3,h4⟩ rc hrc;refine aA.cd (fun h=>?_) fun h=>aA.ok (h4.mono (by grind));have hk:k<l.length:=om;have hz:=anA hk;have ht:=ajD l (k+1);have ho:=h4.1;have hm:l.length-Int.toNat ((k+1:Nat):Int)<l.length-Int.toNat (k:Int):=om;rw [bR om om,bh om,bQ];generalize l.getD k dm=r at hz
 have add:∀(c d:Int),aA (EL (l.length+cz l)) (rq ((decide (o.length+([cG.mk [] c d]:J cG).length<=9223372036854775807))&&(decide ((o.length+([cG.mk [] c d]:J cG).length)*32<=140737488355328))) (rc (o++[cG.mk [] c d],((k+1:Nat):Int)))):=fun c d=>
  aA.rq (nJ (by grind) de) (hrc _ ⟨k+1,rfl,hk,(h4.snoc (Nat.zero_le _)).mono om⟩ hm)
 simp only [aK];refine aA.cb (fun _=>add _ _) fun _=>aA.cb (fun _=>add _ _) fun _=>aA.cb (fun _=>?_) fun _=>hrc _ ⟨k+1,rfl,hk,h4.mono om⟩ hm;refine aA.lp (fun z=>∃i:Nat,z.2=(i:Int)/\i<=r.fText.length/\EL (k+cz (l.take k)+i) z.1) (fun z=>r.fText.length-z.2.toNat) ⟨0,rfl,om,h4⟩ (by grind) ?_;rintro⟨o,_⟩ ⟨i,rfl,i1,i2⟩ rc' Bo;refine aA.cd (fun h=>?_) fun h=>hrc _ ⟨k+1,rfl,hk,i2.mono om⟩ hm;have ho:=i2.1;obtain⟨d,hd⟩:=anz F ((r.fText.getD (Int.toNat (i:Int)) 0).toNat:Int) r.b8 s om hs;rw [bh om,CH om om om,bR om om,hd];have:=sQ r.fText i (i+1);exact aA.rq (nJ (by grind) de) (Bo _ ⟨i+1,rfl,om,i2.snoc (by simp_all)⟩ (by grind))
theorem ahv(F:Nat)(l:J cG)(a:Nat)(hF:l.length<F)(hl:l.length<=100000000)(ha:a<=l.length):aA (fun r=>∃e:Nat,r=(e:Int)/\a<=e/\e<=l.length) (E3 F l (a:Int)):=by
 refine aA.lp (fun i=>∃n:Nat,i=(n:Int)/\a<=n/\n<=l.length) (fun i=>l.length-i.toNat) ⟨a,rfl,om,ha⟩ (by grind) ?_;rintro _ ⟨n,rfl,h1,h2⟩ rc hrc;by_cases h:n<l.length
 ·rw [cO om,bR om om,bh om]
  exact aA.cb (fun _=>hrc _ ⟨n+1,rfl,om,om⟩ (by grind)) fun _=>aA.ok ⟨n,rfl,h1,h2⟩
 ·grind [aA.ok]
theorem ajE(F:Nat){k:Nat}(l:J cG)(h:EL k l)(hF:k<F)(hk:k<=100000000):aA (fun r:J (J cG)=>r.length<=k+1/\∀f∈r,EL k f) (Az F l):=by
 have hl:=h.1;unfold Az;refine aA.lp (fun z:J (J cG)×J cG×Int=>∃i:Nat,z.2.2=(i:Int)/\i<=l.length/\z.1.length<=i/\(∀f∈z.1,EL k f)/\EL i z.2.1) (fun z=>l.length-z.2.2.toNat) ⟨0,rfl,om,si,(fun _ h=>nomatch h),by simp [EL]⟩ (by grind) ?_;rintro⟨o,f,_⟩ ⟨i,rfl,h1,h2,h3,h4⟩ rc hrc;dsimp only at h2 h3 h4 hrc⊢;have hfl:=h4.1;have hm:∀j:Nat,i<j->j<=l.length->l.length-Int.toNat (j:Int)<l.length-Int.toNat (i:Int):=fun j h1 h2=>by omega
 have Dq:∀x∈o++[f],EL k x:=fun x hx=>by
  rcases yy.1 hx with hx|hx
  ·exact h3 x hx
  ·obtain rfl:=MD.1 hx;exact h4.mono om
 refine aA.cd (fun h'=>?_) fun _=>aA.cd (fun _=>aA.rq (nJ (by grind) de) (aA.ok ⟨bF,Dq⟩)) fun _=>aA.ok ⟨by grind,h3⟩;have hi:i<l.length:=om;rw [bR om om,bh (i:=i) om,bR om om,bQ,gd hi];refine aA.cb (fun _=>aA.rq (nJ (by grind) de) (hrc _ ⟨i+1,rfl,hi,by dsimp only;omega,h3,h4.snoc (h.2 _ (List.getElem_mem hi))⟩ (hm _ om hi))) fun _=>?_;refine aA.bd (ahv F l i om om om) fun r ⟨e,e1,e2,e3⟩=>?_;rw [e1];refine aA.bd (P:=fun z:Bool×Int=>∃j:Nat,z.2=(j:Int)/\i<j/\j<=l.length) ?_ fun⟨b,_⟩ ⟨j,e4,j1,j2⟩=>?_
 ·refine aA.bd (P:=fun b=>b=true->e<l.length) (aA.cd (fun h=>aA.rq (jN om om) (aA.ok fun _=>om)) fun _=>aA.ok fun h=>nomatch h) fun b hb=>aA.cb (fun h=>?_) fun _=>?_
  ·have:=hb h
   rw [bh om];exact aA.bd (ahv F l (e+1) om om om) fun r ⟨j,j1,j2,j3⟩=>aA.ok ⟨j,j1,om,j3⟩
  ·by_cases he:e=i
   ·grind [aA.ok]
   ·rw [show ((e:Int)==(i:Int))=false from by simp;omega]
    grind [aA.ok]
 ·dsimp only at e4⊢
  subst e4;refine aA.cb (fun _=>aA.rq (nJ (by grind) de) (hrc _ ⟨j,rfl,j2,bF,Dq,by simp [EL]⟩ (hm j j1 j2))) fun _=>hrc _ ⟨j,rfl,j2,by dsimp only;omega,h3,h4.mono om⟩ (hm j j1 j2)
theorem acX:∀(l:J aH)(k:Nat)(r:aH),k<l.length->cz (l.set k r)+(l.getD k dm).fText.length=cz l+r.fText.length
 | [],k,r,h=>absurd h (ac6 _)
 | a::l,0,r,h=>by simp [cz];omega
 | a::l,k+1,r,h=>by
  have:=acX l k r (by simpa using h);simp [cz] at this⊢;omega
theorem anC(F:Nat){k:Nat}(l:J cG)(h:EL k l)(hF:k<F)(hk:k<=100000000):aA (fun r:J aH=>r.length<=k/\cz r<=k) (Lg F l):=by
 have hl:=h.1;refine aA.lp (fun z:Int×J aH=>∃i:Nat,z.1=(i:Int)/\i<=l.length/\z.2.length<=i/\cz z.2<=i) (fun z=>l.length-z.1.toNat) ⟨0,rfl,om,si,by simp [cz]⟩ (by grind) ?_;rintro⟨_,o⟩ ⟨i,rfl,h1,h2,h3⟩ rc hrc;dsimp only at h2 h3 hrc⊢;refine aA.cd (fun h'=>?_) fun _=>aA.ok ⟨by grind,by show cz o<=_;omega⟩;have hi:i<l.length:=om;have hm:l.length-Int.toNat ((i+1:Nat):Int)<l.length-Int.toNat (i:Int):=om;have ht:=h.2 _ (kz hi);refine aA.bd (P:=fun z:Bool×J aH=>z.2=o/\(z.1=true->0<o.length)) ?_ fun⟨b,o2⟩ ⟨e,hb⟩=>?_
 ·refine aA.cd (fun h0=>?_) fun _=>aA.ok ⟨rfl,fun h=>nomatch h⟩
  rw [wY om om]
  grind [aA.rq,jN,aA.ok]
 have e:o=o2:=e.symm;subst e;rw [bh (i:=i) om];have eg:l.getD i oC=l[i]:=gd hi;simp only [bQ,eg];refine aA.cb (fun hb'=>?_) fun _=>?_
 ·have h0:=hb hb'
  have hs:=acX o (o.length-1) (aH.mk ((o.getD (o.length-1) dm).fText++l[i].fI) (o.getD (o.length-1) dm).b8) om;rw [wY om h0];simp only [bQ];have hg:(o.getD (o.length-1) dm).fText.length<=cz o:=by rw [gd om];exact akF (kz _)
  grind [aA.rq,jN,decide_eq_true]
 ·refine aA.rq (jN om om) (aA.rq (jN om om) (aA.rq (nJ (by grind) de) (hrc _ ⟨i+1,rfl,hi,bF,?_⟩ hm)))
  rw [BD];show cz o+(l[i].fI.length+0)<=_;omega
theorem ajF(F:Nat)(l:J aH)(s:Bs)(hF:100000000<=F)(h1:l.length<=100000)(h2:cz l<=5000000)(hs:s.length<=5000):aA (fun r=>r.length<=6000000/\∀f∈r,f.length<=6000000/\cz f<=6000000) (Gw F l s):=by
 refine aA.bd (anB F l s om om om hs) fun es YZ=>aA.bd (ajE F es YZ om om) fun fs ⟨hf1,hf2⟩=>?_;refine aA.lp (fun z=>∃k:Nat,z.2=(k:Int)/\k<=fs.length/\z.1.length<=k/\∀f∈z.1,f.length<=6000000/\cz f<=6000000) (fun z=>fs.length-z.2.toNat) ⟨0,rfl,om,si,fun _ h=>nomatch h⟩ (by grind) ?_;rintro⟨o,_⟩ ⟨k,rfl,h3,h4,h5⟩ rc hrc;refine aA.cd (fun h=>?_) fun _=>aA.ok ⟨by grind,h5⟩;have hk:k<fs.length:=om;rw [bR om om,bh om,bQ,gd hk];refine aA.bd (anC F _ (hf2 _ (List.getElem_mem hk)) om om) fun r hr=>aA.rq (nJ (by grind) de) (hrc _ ⟨k+1,rfl,hk,bF,fun f hf=>?_⟩ (by grind))
 grind
theorem ahw(F:Nat)(r:J aH)(hF:100000000<=F)(h1:r.length<=10000000)(h2:cz r<=10000000):∃b,tE F r=some b:=by
 have hcl:=ah1 r
 obtain⟨b,-,h⟩:=adT (F:=F) (r:=r) om om om om fun c hc=>by
  have:=amo r c hc;obtain⟨p,⟨g1,g2⟩,h⟩:=YK F c om om om om;obtain⟨x,hx⟩:=YL F p om om g1;exact⟨p,x,h,hx⟩
 exact⟨b,h⟩
theorem alL(F:Nat)(l:J TPart)(p:dh){s:aX}(hN:NC<=F)(hF:100000000<=F)(hl:eN l<=1000)(hs:nF s)(hst:stop s=false):aA (fun r=>RB (eN l) r.1/\nF r.2) (q9 F l p s):=by
 obtain⟨a,b,⟨h1,h2,-⟩,-,e⟩:=afu (fl:=[]) hN hF (VP F hF) F F l (cM.mk p.fq p.jU 0) p s ⟨rfl,rfl⟩ hs hst hl om om;exact⟨b,⟨h2,h1⟩,e⟩
theorem ahx(F:Nat)(e:dM)(w:J fZ)(a:J fh)(hN:NC<=F)(hF:100000000<=F)(hw:w.length<=100)(hp:∀x∈w,eN x.fParts<=1000)(he:OH e)(hA:ur e.bM)(ha:(∀x∈a,x.fText.length<=60)/\a.length<=2000):∃b,tN F e w a=some b:=by
 have:aA (fun _=>True) (tN F e w a):=by
  unfold tN qL;refine aA.lp (fun z=>∃k:Nat,z.2.1=(k:Int)/\k<=w.length/\nF z.2.2) (fun z=>w.length-z.2.1.toNat) ⟨0,rfl,om,⟨he,ha.1,ha.2,0,rfl,Nat.zero_le _⟩,hA,fun _=>rfl⟩ (by grind) ?_;rintro⟨n,_,s⟩ ⟨k,rfl,h1,h2⟩ rc hrc;dsimp only at h2 hrc⊢;refine aA.bd (P:=fun b=>b=true->k<w.length/\stop s=false) (aA.cd (fun h=>?_) fun _=>aA.ok fun h=>nomatch h) fun b hb=>aA.cb (fun h=>?_) fun _=>aA.ok trivial
  ·simp_all [vQ,aA.ok]
  obtain⟨hk,hst⟩:=hb h;rw [bR om om,bh om,bQ,gd hk];have hpk:=hp _ (kz hk);refine aA.bd (alL F _ _ hN hF hpk h2 hst) fun r ⟨r1,r2⟩=>?_;have hV:=r2.1.1.1;have hvl:=hV.1;have q1:=r1.1;have q2:=r1.2;refine aA.bd ?_ fun ifs ap8=>aA.bd (ajF F r.1 ifs hF om om ap8) fun fs ⟨f1,f2⟩=>?_
  ·unfold Ot
   rw [xY F _ _ om om];exact aA.cb (fun _=>aA.ok (by grind [OP])) fun _=>aA.ok de
  refine aA.lp (fun z=>∃i:Nat,z.2=(i:Int)/\i<=fs.length) (fun z=>fs.length-z.2.toNat) ⟨0,rfl,om⟩ (by grind) ?_;rintro⟨n',_⟩ ⟨i,rfl,i1⟩ rc' Bo;refine aA.cd (fun h=>?_) fun _=>hrc _ ⟨k+1,rfl,hk,r2⟩ (by grind);have hi:i<fs.length:=om;have hfi:=f2 _ (kz hi);obtain⟨b,hb⟩:=ahw F fs[i] hF om om;rw [bR om om,bh om,bQ,gd hi,aaV F _ om om om,aD,bR om om,hb,aD,aK];exact aA.cb (fun _=>aA.ok trivial) fun _=>Bo _ ⟨i+1,rfl,om⟩ (by grind)
 obtain⟨b,-,h⟩:=this;exact⟨b,h⟩
theorem aA.sc{R:Type}{Q:R->Prop}{c:Bool}{x y:R}(a:c=true->Q x)(b:c=false->Q y):aA Q (some (cond c x y)):=by
 grind [aA.ok]
theorem alM(F:Nat)(e:dM)(hF:100<F):aA (fun b=>b=true->(e.bM.length<=12/\∀v∈e.bM,v.fName.length<=60/\v.bK.length<=60)/\e.cC.length<=12/\(∀x∈e.cC,x.length<=60)/\e.fName.length<=60) (Cy F e):=by
 unfold Cy;simp only [aK,aD];refine aA.cb (fun _=>aA.ok fun h=>nomatch h) fun hc=>?_;simp at hc;refine aA.lp (fun i=>∃k:Nat,i=(k:Int)/\k<=e.bM.length/\∀v∈e.bM.take k,v.fName.length<=60/\v.bK.length<=60) (fun i=>e.bM.length-i.toNat) ⟨0,rfl,om,si⟩ (by grind) ?_;rintro _ ⟨k,rfl,h1,h2⟩ rc hrc;refine aA.cd (fun h=>?_) fun h=>?_
 ·have hk:k<e.bM.length:=om
  rw [bR om om,bR om om,bh om,bQ,gd hk,aK,aD];refine aA.cb (fun _=>aA.ok fun h=>nomatch h) fun hv=>hrc _ ⟨k+1,rfl,hk,fun v iZ=>?_⟩ (by grind)
  grind [List.take_succ_eq_append_getElem,List.mem_singleton,cT,Bool.or_eq_false_iff,decide_eq_false_iff_not]
 ·have h2:∀v∈e.bM,v.fName.length<=60/\v.bK.length<=60:=by grind
  refine aA.lp (fun i=>∃k:Nat,i=(k:Int)/\k<=e.cC.length/\∀v∈e.cC.take k,v.length<=60) (fun i=>e.cC.length-i.toNat) ⟨0,rfl,om,si⟩ (by grind) ?_;rintro _ ⟨k,rfl,p1,p2⟩ rc' Bo;refine aA.cd (fun h=>?_) fun h=>aA.ok fun _=>⟨⟨om,h2⟩,om,by grind,om⟩;have hk:k<e.cC.length:=om;rw [bR om om,bh om,bQ,gd hk];refine aA.cd (fun _=>aA.ok fun h=>nomatch h) fun hv=>Bo _ ⟨k+1,rfl,hk,fun v iZ=>?_⟩ (by grind)
  grind [List.take_succ_eq_append_getElem,List.mem_singleton]
theorem alN(F:Nat)(l:J bD)(hF:200<F):aA (fun r=>r=0->ur l) (Cz F l):=by
 unfold Cz;refine aA.cd (fun _=>aA.ok fun h=>nomatch h) fun hl=>?_;refine aA.lp (fun i:Int=>∃k:Nat,i=(k:Int)/\k<=l.length/\ur (l.take k)) (fun i=>l.length-i.toNat) ⟨0,rfl,om,List.Pairwise.nil⟩ (by grind) ?_;rintro _ ⟨k,rfl,h1,hA⟩ rc hrc;refine aA.cd (fun h=>?_) fun h=>aA.ok fun _=>by grind
 have hk:k<l.length:=om
 have lt:aA (fun b:Bool=>b=false->k=0\/(l.getD (k-1) dW).fName<(l.getD k dW).fName) (cond (decide (0<(k:Int))) (rq ((decide (0<=aB ((k:Int)-1)))&&(decide (aB ((k:Int)-1)<(l.length:Int)))) (rq ((decide (0<=(k:Int)))&&(decide ((k:Int)<(l.length:Int)))) (some (!(Op.bytesLess ((l.getD (Int.toNat (aB ((k:Int)-1))) dW).fName) ((l.getD (Int.toNat (k:Int)) dW).fName)))))) (some false)):=by
  refine aA.cd (fun h0=>?_) fun _=>aA.ok fun _=>.inl om;rw [wY om om]
  grind [aA.rq,jN,aA.ok,Kn]
 refine aA.rq (jN om om) (aA.bd (Ek F _ om) fun b _=>aA.cb (fun _=>aA.ok fun h=>nomatch h) fun _=>aA.rq (jN om om) (aA.cd (fun _=>aA.ok fun h=>nomatch h) fun _=>?_));refine aA.bd (P:=fun b:Bool=>b=false->k=0\/(l.getD (k-1) dW).fName<(l.getD k dW).fName) (aA.rq (jN om om) (aA.cb (fun _=>aA.rq (jN om om) (aA.cb (fun _=>aA.ok fun h=>nomatch h) fun _=>lt)) fun _=>lt)) fun b hb=>aA.cb (fun _=>aA.ok fun h=>nomatch h) fun hb0=>?_;rw [bh om];refine hrc _ ⟨k+1,rfl,hk,?_⟩ (by grind);unfold ur at hA⊢;rw [qA hk,List.pairwise_append];refine⟨hA,ac8 _ _,fun a ha c hc=>?_⟩;obtain rfl:=MD.1 hc;obtain⟨m,hm,rfl⟩:=lB ha;have hm2:m<k:=by grind
 rcases hb hb0 with h0|h0
 ·omega
 ·rw [gd hk,gd (show k-1<l.length by omega)] at h0
  by_cases e:m=k-1
  ·simp_all
  ·have:=(List.pairwise_iff_getElem.1 hA) m (k-1) hm (by grind) om
   grind
def ajG(e:dM):Prop:=((e.bM.length<=12/\∀v∈e.bM,v.fName.length<=60/\v.bK.length<=60)/\e.cC.length<=12/\(∀x∈e.cC,x.length<=60)/\e.fName.length<=60)/\e.tB=[]/\e.nL=[]/\e.tC=[]/\Em e.Kk=true/\(0<=e.iA/\e.iA<=255)/\(0<=e.fH/\e.fH<=255)/\0<=e.Bw/\0<=e.og/\ur e.bM
theorem aa1{α:Type}{l:J α}(h:¬ 0<(l.length:Int)):l=[]:=adg.1 om
theorem anD(F:Nat)(e:dM)(hF:1000<F):aA (fun b=>b=true->ajG e) (E0 F e):=by
 unfold E0;obtain⟨b1,h1,e1⟩:=alM F e om;obtain⟨b2,o4,e2⟩:=alN F e.bM om;rw [e1,e2,Yz F e.Kk om];simp only [aK,aD];refine aA.sc (fun _=>fun h=>nomatch h) fun hc=>fun ht=>?_;simp only [cT,cF,XG,cx,ajJ,Bool.not_eq_false',fW] at hc ht;exact⟨h1 hc.1.1.1.1.1,aa1 hc.1.1.1.2,aa1 hc.1.1.2,aa1 hc.1.2,hc.2,om,om,om,om,o4 (by simpa using hc.1.1.1.1.2)⟩
theorem alO(F:Nat)(l:J Bs)(hF:10000<F):aA (fun r=>r.1.length<=8/\∀w∈r.1,eN w.fParts<=160) (uc F l):=by
 refine aA.lp (fun z=>∃k:Nat,z.2=(k:Int)/\k<=8/\z.1.length<=k/\∀w∈z.1,eN w.fParts<=160) (fun z=>8-z.2.toNat) ⟨0,rfl,om,si,fun _ h=>nomatch h⟩ (by show 8-0<F;omega) ?_;rintro⟨o,_⟩ ⟨k,rfl,h1,h2,h3⟩ rc hrc;rw [aK];refine aA.cb (fun hc=>?_) fun _=>aA.ok ⟨by grind,h3⟩;rw [cF,cx] at hc;have c1:=wR hc.1;have c2:=wR hc.2;have no:aA (fun r:J fZ×Bool=>r.1.length<=8/\∀w∈r.1,eN w.fParts<=160) (some ([],false)):=aA.ok ⟨si,fun _ h=>nomatch h⟩;refine aA.rq (jN om om) (aA.cd (fun _=>no) fun h80=>aA.rq (jN om om) (aA.bd (al5 F _ om om) fun r hr=>Hs (fun _=>no) fun _=>?_));rw [bh om];refine aA.rq (nJ (by grind) de) (hrc _ ⟨k+1,rfl,om,bF,fun w hw=>?_⟩ (by grind))
 grind
theorem acY{e:dM}(h:ajG e)(h1:K.gw e.Bw)(h2:K.gw e.og):OH e:=by
 obtain⟨⟨⟨a1,a2⟩,a3,a4,a5⟩,f1,f2,f3,-,-,h6,-⟩:=h;exact⟨⟨om,fun v hv=>by have:=a2 v hv;omega⟩,a3,a4,a5,⟨om,om⟩,h1,h2,f1,f2,f3⟩
def Rdy(j:uM)(w:J fZ):Prop:=ajG j.oq/\VL j.o5/\j.o5.length<=40/\(j.ke.length<=12/\∀a∈j.ke,a.fText.length<=60)/\w.length<=8/\∀x∈w,eN x.fParts<=160
theorem alP(F:Nat)(j:uM)(hN:NC<=F)(hF:100000000<=F)(h1:K.gw j.oq.Bw)(h2:K.gw j.oq.og):aA (fun r=>r.2=true->Rdy j r.1) (CB F j):=by
 unfold CB;obtain⟨b,hb,e1⟩:=anD F j.oq om;obtain⟨c,hc,e2⟩:=ahX F j.o5 om;rw [e1,e2];simp only [aK,aD];refine aA.cb (fun _=>aA.ok fun h=>nomatch h) fun hx=>?_;simp at hx;have hfit:=hb hx.1.1.1;have hsm:=hc hx.1.2;have hge:=acY hfit h1 h2;refine aA.lp (fun i=>∃k:Nat,i=(k:Int)/\k<=j.ke.length/\∀a∈j.ke.take k,a.fText.length<=60) (fun i=>j.ke.length-i.toNat) ⟨0,rfl,om,si⟩ (by grind) ?_;rintro _ ⟨k,rfl,k1,k2⟩ rc hrc;refine aA.cd (fun h=>?_) fun h=>?_
 ·have hk:k<j.ke.length:=om
  rw [bR om om,bh om,bQ];refine aA.cd (fun _=>aA.ok fun h=>nomatch h) fun hv=>hrc _ ⟨k+1,rfl,hk,fun v iZ=>?_⟩ (by grind)
  grind [List.take_succ_eq_append_getElem,List.mem_singleton]
 ·have k2:∀a∈j.ke,a.fText.length<=60:=by grind
  refine aA.bd (alO F j.Jp om) fun r ⟨r1,r2⟩=>?_;rw [afX F j.o5 om hsm];simp [aK];obtain⟨bd,hbd⟩:=ahx F j.oq r.1 j.ke hN hF om (fun x hx=>by have:=r2 x hx;omega) hge hfit.2.2.2.2.2.2.2.2.2 ⟨k2,om⟩;rw [hbd,aD,aK];refine aA.sc (fun _=>fun h=>nomatch h) fun hy=>fun _=>?_;have hv:gX j.o5=0:=by simp_all
  exact⟨hfit,(afZ _).1 hv,om,⟨om,k2⟩,r1,r2⟩
theorem alQ{F k:Nat}(h:k<=F):∃n,F=n+k:=⟨F-k,om⟩
theorem ahy(F:Nat)(e:dM)(hF:10<=F)(h1:e.bM.length<=1000)(h2:e.cC.length<=1000)(h3:e.tB=[])(h4:e.nL=[])(h5:e.tC=[]):qy F e=some e:=by
 obtain⟨m,rfl⟩:=alQ hF;unfold qy yN vM vN vO vP;rw [h3,h4,h5,iB om de,iB om de];obtain⟨a1,a2,a3,a4,a5,a6,a7,a8,a9,a10,a11,a12,a13,a14⟩:=e;dsimp only at h3 h4 h5;subst h3 h4 h5;rfl
def ap9:dM:=dM.mk [] [] [] [] [] [] 0 0 0 0 [] (lU.mk 0 0) 0 false
def Lt(s:aX)(fs:J Bs):ei×Int:=cond (s.fe != 0) (ei.mk [] ap9 false [] s.fm 0,s.fe) (ei.mk (cond s.kQ [] fs) s.ck s.kQ s.tj [] s.jC,0)
theorem ahz(F:Nat){e:dM}(h:OH e)(hF:10<=F):qy F e=some e:=ahy F e hF (by have:=h.1.1;omega) (by have:=h.2.1;omega) h.2.2.2.2.2.2.2.1 h.2.2.2.2.2.2.2.2.1 h.2.2.2.2.2.2.2.2.2
theorem ahA(F:Nat)(fl:J bt){s:aX}(h:nF s)(hs:stop s=false)(hF:10<=F)(fs:J Bs):dJ F fs true (gO fl s)=some (Lt s fs):=by
 obtain⟨h1,h2⟩:=acR hs;unfold dJ;rw [bu,show (gO fl s).ck=s.ck from rfl,ahz F h.1.1 hF,aD];unfold Lt;rw [h1,h2,h.2.2 h2];rfl
theorem Ry(F:Nat){s:aX}{x:aM}(h:nF s)(hx:Fin x s)(hF:10<=F)(fs gs:J Bs)(hs:stop s=true):dJ F fs false x=some (Lt s gs):=by
 unfold dJ Lt;rw [aS];rcases hx with⟨h1,h2,h3,h4⟩|⟨h1,h2,h3,h4,h5⟩
 ·rw [h2,h3,h4,show (s.fe != 0)=true by simpa using h1];rfl
 ·have hw:s.kQ=true:=by
   unfold stop at hs;rw [h1] at hs;exact hs
  rw [h2,h4,ahz F h.1.1 hF,h1,hw,h3,h5];rfl
def s0(e:dM)(a:J fh):aX:=aX.mk e a 0 (-1) 0 [] false []
theorem anE{e:dM}{a:J fh}(h:OH e)(hA:ur e.bM)(h1:∀x∈a,x.fText.length<=60)(h2:a.length<=2000):nF (s0 e a):=⟨⟨h,h1,h2,0,rfl,fX _⟩,hA,fun _=>rfl⟩
theorem aoY(F:Nat)(l:J aH)(hF:l.length<F)(h1:l.length<=1000000)(h2:cz l<=100000000):mL F l=oD F l:=by
 rw [FO F l hF om h2,aaV F l hF om om];rfl
section
variable {F : Nat} {fl : J bt}
theorem aqa(hN:NC<=F)(hF:100000000<=F)(w:fZ)(hw:eN w.fParts<=200){s:aX}(h:nF s)(hs:stop s=false):T2 (fun a b=>RV fl a b/\b.1.length<=5000*eN w.fParts) (sn F w.fParts (cM.mk false false 0) (gO fl s)) (Au F w.fParts false s):=by
 obtain⟨n,rfl⟩:∃n,F=n+1:=⟨F-1,om⟩;exact acU (n:=n) hF (afu hN hF (VP _ hF) n) (n+1) w.fParts (cM.mk false false 0) false s rfl h hs om om om
end
theorem alR:CE 60=some true:=by
 unfold CE
 try simp only [KK]
 kernel_rfl
theorem Lu(F:Nat)(fs:J Bs)(s:aX):jJ F fs s=some (Lt s fs):=by
 unfold jJ Lt;cases s.fe != 0<;>cases s.kQ<;>rfl
def SX(x:ei):Prop:=x.wG.length<=1000/\NoF x.oq/\x.oq.bM.length<=1000/\x.oq.cC.length<=1000
theorem J9{s:aX}(h:nF s){fs:J Bs}(hf:fs.length<=1000):SX (Lt s fs).1:=by
 have h1:=h.1.1.1.1;have h2:=h.1.1.2.1;unfold Lt
 cases (s.fe != 0) with
 | true=>exact⟨fX _,⟨rfl,rfl,rfl⟩,fX _,fX _⟩
 | false=>exact⟨by show (cond s.kQ [] fs).length<=_;cases s.kQ<;>simp;exact hf,h.1.1.2.2.2.2.2.2.2,by show s.ck.bM.length<=_;omega,by show s.ck.cC.length<=_;omega⟩
theorem aa2(F n:Nat)(hF:n<F)(hn:n<=1000000)(p:Int->Bool)(hp:∀x,p x=false):bV (σ:=Int) (R:=Bool) (fun bq x1=>cond (decide (x1<(n:Int))) (rq ((decide (0<=x1))&&(decide (x1<(n:Int)))) (rq ((decide (0<=x1))&&(decide (x1<(n:Int)))) (cond (p x1) (some false) (bq (aB (x1+1)))))) (some true)) F 0=some true:=by
 refine dw (fun s:Int=>∃k:Nat,s=(k:Int)/\k<=n) (fun s=>n-s.toNat) ?_ F _ ⟨0,rfl,om⟩ bF;rintro _ ⟨k,rfl,hk⟩;by_cases hk:k<n
 ·left
  refine⟨_,⟨k+1,rfl,om⟩,bF,fun rc=>?_⟩;rw [cO om,cq hk,cq hk,hp,aS,cJ om]
 ·right
  intro rc;rw [cf om]
theorem akm(F:Nat)(l:J Bs)(hF:l.length<F)(h:l.length<=1000000):nE F l l=some true:=by
 unfold nE;rw [ME,aS];exact aa2 F l.length hF h (fun x1=>!((l.getD (Int.toNat x1) [])==(l.getD (Int.toNat x1) []))) (fun x=>by simp)
theorem anF(F:Nat)(l:J bD)(hF:l.length<F)(h:l.length<=1000000):Fj F l l=some true:=by
 unfold Fj;rw [ME,aS];exact aa2 F l.length hF h (fun x1=>!(((l.getD (Int.toNat x1) dW).fName==(l.getD (Int.toNat x1) dW).fName)&&(((l.getD (Int.toNat x1) dW).bK==(l.getD (Int.toNat x1) dW).bK)&&(((l.getD (Int.toNat x1) dW).cE==(l.getD (Int.toNat x1) dW).cE)&&(((l.getD (Int.toNat x1) dW).tZ==(l.getD (Int.toNat x1) dW).tZ)&&(((l.getD (Int.toNat x1) dW).lq==(l.getD (Int.toNat x1) dW).lq)&&true)))))) (fun x=>by simp)
theorem akn(F:Nat){x:ei}(hF:1000<F)(h:SX x):AL F x x=some true:=by
 obtain⟨h1,⟨f1,f2,f3⟩,h2,h3⟩:=h
 have e:yq F x.oq x.oq=some true:=by
  unfold yq;rw [f1,f2,f3,anF F _ om om,akm F _ om om];simp
 unfold AL;rw [akm F _ om om,e];simp
def RF(a b:ei×Int):Prop:=a=b/\SX a.1
theorem aoZ(F:Nat)(s:Bs)(p:Int)(hF:500000<F):aA (fun r=>eN r.1<=2*s.length) (cond (decide (16384<(s.length:Int))) (some ([],0,3)) ((I3 F s 0 p 1 0).bind fun x1=>cond (x1.fE != 0) (some ([],x1.ML,x1.fE)) (some (x1.fParts,0,0)))):=by
 refine aA.cb (fun _=>aA.ok (by simp [eN])) fun hc=>?_;have sC:=of_decide_eq_false hc;refine aA.bd ((MM om om F).1 0 p 1 0 om om) fun r q=>Hs (fun h=>aA.ok (by simp [eN])) fun h0=>?_;obtain⟨e,e1,e2,e3,e4,-⟩:=q h0
 grind [aA.ok]
section
variable {F : Nat} {fl : J bt}
theorem ao0(hN:NC<=F)(hF:100000000<=F)(w:fZ)(hw:eN w.fParts<=200){e:dM}{a:J fh}(he:OH e)(hA:ur e.bM)(h1:∀x∈a,x.fText.length<=60)(h2:a.length<=2000):
  T2 RF ((sn F w.fParts (cM.mk false false 0) (aM.mk e fl a (-1) false [] [] 0)).bind fun x=>dJ F [x.1] x.2.1 x.2.2) ((Au F w.fParts false (aX.mk e a 0 (-1) 0 [] false [])).bind fun y=>jJ F [y.1] y.2):=by
 refine T2.bd (aqa hN hF w hw (anE he hA h1 h2) rfl) ?_;rintro⟨t,ok,x⟩ ⟨t',s'⟩ ⟨⟨⟨g1,g2,g3⟩,-⟩,-⟩;rw [Lu];rcases g3 with⟨k1,k2⟩|⟨k1,k2,k3,-⟩
 ·cases k2
  rw [ahA F fl g1 k1 om];exact T2.ok ⟨rfl,J9 g1 si⟩
 ·subst k2
  rw [Ry F g1 k3 om [t] [t'] k1];exact T2.ok ⟨rfl,J9 g1 si⟩
theorem ao1(hN:NC<=F)(hF:100000000<=F)(w:fZ)(hw:eN w.fParts<=500){e:dM}{a:J fh}(he:OH e)(hA:ur e.bM)(h1:∀x∈a,x.fText.length<=60)(h2:a.length<=2000):
  T2 RF ((sj F w.fParts (cM.mk true false 0) (aM.mk e fl a (-1) false [] [] 0)).bind fun x=>(mL F x.1).bind fun t=>
    (cond (cond x.2.1 (decide (16384<(t.length:Int))) false) (dP F 3 x.2.2) (some (x.2.1,x.2.2)):O (Bool×aM)).bind fun y=>dJ F [t] y.1 y.2)
   ((q9 F w.fParts (dh.mk true false false) (aX.mk e a 0 (-1) 0 [] false [])).bind fun x=>(oD F x.1).bind fun t=>
     (cond (decide (16384<(t.length:Int))) (eL F 3 [] x.2) (some x.2):O aX).bind fun y=>jJ F [t] y):=by
 refine T2.bd (afu hN hF (VP _ hF) F F w.fParts (cM.mk true false 0) (dh.mk true false false) (s0 e a) (by simp [Mo]) (anE he hA h1 h2) rfl om om om) ?_;rintro⟨r,ok,x⟩ ⟨r',s⟩ ⟨g1,g2,g3⟩;dsimp only at g1 g2 g3⊢;have b1:=g2.1;have b2:=g2.2;have hT:oD F r'=some (zy r'):=by rw [<-aoY F _ om om om,FO F _ om om om]
 rw [hT,aD];rcases g3 with⟨k1,k2,k3⟩|⟨k1,k2,k3,k4⟩
 ·cases k2
  have hl:r.length=r'.length:=by have:=congrArg List.length k3.1;simpa using this
  have hz:=acT k3.1;rw [FO F r om om om,VO k3.1,aD];rw [bu]
  cases hb:decide (16384<((zy r').length:Int)) with
  | true=>
   rw [bu,bu,aoV,tS,aD,aD];obtain⟨f1,f2⟩:=failed (e:=3) k1 de;have hg:=Lq g1 3 [];rw [Lu];have hq:dJ F [zy r'] false (aM.mk (gO fl s).ck (gO fl s).TC (gO fl s).ek (gO fl s).jC (gO fl s).kQ (gO fl s).tj (gO fl s).fm 3)=some (Lt _ [zy r']):=Ry F hg f2 om _ _ f1;rw [hq]
   exact T2.ok ⟨rfl,J9 hg si⟩
  | false=>
   rw [aS,aS,aD,aD,Lu,ahA F fl g1 k1 om];exact T2.ok ⟨rfl,J9 g1 si⟩
 ·subst k2
  subst k4;rw [FO F [] bF si (by simp [cz]),aD];rw [aS,aS,aD,Ry F g1 k3 om _ [zy r'] k1]
  have hs:(cond (decide (16384<((zy r').length:Int))) (eL F 3 [] s) (some s):O aX)=some s:=by
   simp_all [tS]
  rw [hs,aD,Lu];exact T2.ok ⟨rfl,J9 g1 si⟩
end
section
variable {F : Nat} {fl : J bt}
theorem ao2(hN:NC<=F)(hF:100000000<=F)(w:fZ)(hw:eN w.fParts<=200){e:dM}{a:J fh}(he:OH e)(hA:ur e.bM)(h1:∀x∈a,x.fText.length<=60)(h2:a.length<=2000):T2 RF (xW F e fl w a) (Fi F e fl w a):=by
 obtain⟨x,y,h,e1,e2⟩:=ao0 (fl:=fl) hN hF w hw he hA h1 h2;obtain⟨p,p1,p2⟩:=Iu.1 e1;obtain⟨q,q1,q2⟩:=Iu.1 e2;refine⟨x,y,h,?_,?_⟩
 ·unfold xW r7
  rw [aD];dsimp only;rw [p1,aD,p2,aD]
 ·unfold Fi qL
  rw [aD];dsimp only;rw [q1,aD,q2,aD]
theorem ao3(hN:NC<=F)(hF:100000000<=F)(w:fZ)(hw:eN w.fParts<=500){e:dM}{a:J fh}(he:OH e)(hA:ur e.bM)(h1:∀x∈a,x.fText.length<=60)(h2:a.length<=2000):T2 RF (CF F e fl w a) (Fk F e fl w a):=by
 obtain⟨x,y,h,e1,e2⟩:=ao1 (fl:=fl) hN hF w hw he hA h1 h2;obtain⟨p,p1,p2⟩:=Iu.1 e1;obtain⟨t,t1,t2⟩:=Iu.1 p2;obtain⟨z,z1,z2⟩:=Iu.1 t2;obtain⟨q,q1,q2⟩:=Iu.1 e2;obtain⟨u,u1,u2⟩:=Iu.1 q2;obtain⟨v,v1,v2⟩:=Iu.1 u2;refine⟨x,y,h,?_,?_⟩
 ·unfold CF r7
  rw [aD];dsimp only
  have e7:((cond p.2.1 (some (decide (16384<(t.length:Int)))) (some false):O Bool).bind fun x5=>cond x5 ((dP F 3 p.2.2).bind fun x6=>some (x6.1,x6.2)) (some (p.2.1,p.2.2)):O (Bool×aM))=some z:=by
   rw [<-z1];cases p.2.1<;>rfl
  rw [p1,aD,t1,aD,e7,aD,z2,aD]
 ·unfold Fk qL
  rw [aD];dsimp only
  have e7:(cond (decide (16384<(u.length:Int))) ((eL F 3 [] q.2).bind fun x5=>some x5) (some q.2):O aX)=some v:=by
   rw [<-v1];cases decide (16384<(u.length:Int))
   ·rfl
   ·rw [bu,bu];cases eL F 3 [] q.2<;>rfl
  rw [q1,aD,u1,aD,e7,aD,v2,aD]
end
theorem expandTexts(j:uM)(here:Bs)(h1:K.gw j.oq.Bw)(h2:K.gw j.oq.og):∃F,j8 F j here=some true:=by
 obtain⟨F,hN,hF⟩:∃F,NC<=F/\100000000<=F:=⟨NC+100000000,om,om⟩;refine⟨F,?_⟩;obtain⟨r,hr,e⟩:=alP F j hN hF h1 h2;obtain⟨p,hp,ep⟩:=aoZ F here 5 om;have ep:Lh F here=some p:=ep;unfold j8;simp only [KK];rw [e,aD,alR,ep];simp only [aD]
 cases hb:r.2 with
 | false=>rfl
 | true=>
  obtain⟨hfit,-,-,⟨a1,a2⟩,w1,w2⟩:=hr hb;have hge:=acY hfit h1 h2;have hA:=hfit.2.2.2.2.2.2.2.2.2;rw [ku,aS,aD]
  cases hl:decide (200<(here.length:Int)) with
  | true=>rfl
  | false=>
   have hl:=of_decide_eq_false hl;rw [aS,aD]
   cases hz:(p.2.2 != 0) with
   | true=>rfl
   | false=>
    rw [aS];refine dw (fun s:Int=>∃k:Nat,s=(k:Int)/\k<=r.1.length) (fun s=>r.1.length-s.toNat) ?_ F _ ⟨0,rfl,om⟩ bF;rintro _ ⟨k,rfl,hk⟩;by_cases hk:k<r.1.length
    ·left
     refine⟨_,⟨k+1,rfl,om⟩,bF,fun rc=>?_⟩;obtain⟨x,y,⟨hxy,hs⟩,p1,p2⟩:=ao2 (fl:=j.o5) hN hF (r.1.getD k xo) (by rw [gd hk];have:=w2 _ (kz hk);omega) hge hA a2 om;subst hxy;rw [cO om,cq hk,cq hk,bQ,p1,p2];have s2:=akn F om hs;simp only [aD,s2,ku,aS,ME];rw [cJ om]
    ·right
     intro rc;obtain⟨x,y,⟨hxy,hs⟩,p1,p2⟩:=ao3 (fl:=j.o5) hN hF (fZ.mk 0 p.1) (by show eN p.1<=500;omega) hge hA a2 om;subst hxy;have s2:=akn F om hs;rw [cf om,p1,p2];simp only [aD,s2,bu,FC]
end Go.Proofs.YthmndfnkdgmenaaGreatDoor
