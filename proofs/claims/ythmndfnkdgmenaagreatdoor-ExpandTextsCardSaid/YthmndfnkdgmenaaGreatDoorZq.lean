import Derived.Test.YthmndfnkdgmenaaGreatDoorEf
import Derived.Test.YthmndfnkdgmenaaGreatDoorTx
import Derived.Test.YthmndfnkdgmenaaGreatDoorSo
import Derived.Test.YthmndfnkdgmenaaGreatDoorPe
set_option linter.all false
namespace Go.Proofs.YthmndfnkdgmenaaGreatDoor
open Go.RT
set_option maxRecDepth 100000
def G5{α:Type}(S:α->Prop):Prop:=∀P:α->Nat->Prop,(∀a n m,n<=m->P a n->P a m)->(∀a,S a->∃N,P a N)->∃N,∀a,S a->P a N
theorem aaW:∀(k:Nat),G5 (fun n=>n<k)
 | 0=>fun P hm h=>⟨0,fun a ha=>absurd ha (adb _)⟩
 | k+1=>fun P hm h=>by
  obtain⟨N,hN⟩:=aaW k P hm fun a ha=>h a om;obtain⟨M,hM⟩:=h k om;refine⟨N+M,fun a ha=>?_⟩;by_cases e:a=k
  ·grind
  ·exact hm _ N _ om (hN a om)
theorem Rt{α β:Type}{S:α->Prop}{T:β->Prop}(hS:G5 S)(f:α->β)(hf:∀b,T b->∃a,S a/\f a=b):G5 T:=fun P hm h=>by
 obtain⟨N,hN⟩:=hS (fun a n=>T (f a)->P (f a) n) (fun a n m hnm h1 h2=>hm _ n m hnm (h1 h2)) (fun a ha=>by
  by_cases ht:T (f a)
  ·simp_all
  simp_all)
 refine⟨N,fun b hb=>?_⟩
 grind
theorem alx:G5 (fun _:UInt8=>True):=Rt (aaW 256) UInt8.ofNat fun b _=>⟨b.toNat,b.toNat_lt,si⟩
theorem OE{α β:Type}{S:α->Prop}{T:β->Prop}(hS:G5 S)(hT:G5 T):G5 (fun p:α×β=>S p.1/\T p.2):=fun P hm h=>by
 obtain⟨N,hN⟩:=hS (fun a n=>∀b,T b->P (a,b) n) (fun a n m hnm h1 b hb=>hm _ n m hnm (h1 b hb)) fun a ha=>hT (fun b n=>P (a,b) n) (fun b n m hnm h1=>hm _ n m hnm h1) fun b hb=>h (a,b) ⟨ha,hb⟩;exact⟨N,fun p hp=>hN p.1 hp.1 p.2 hp.2⟩
theorem OG{α:Type}{S:α->Prop}(hS:G5 S):∀(k:Nat),G5 (fun l:J α=>l.length<=k/\∀a∈l,S a)
 | 0=>fun P hm h=>by
  simp_all
 | k+1=>fun P hm h=>by
  obtain⟨M,hM⟩:=h [] ⟨fO _,fun _ h=>nomatch h⟩
  obtain⟨N,hN⟩:=OE hS (OG hS k) (fun p n=>P (p.1::p.2) n) (fun p n m hnm h1=>hm _ n m hnm h1) fun p hp=>h _ ⟨by simp_all,fun a ha=>by
   grind⟩
  refine⟨N+M,fun l hl=>?_⟩
  cases l with
  | nil=>grind
  | cons a t=>exact hm _ N _ om (hN (a,t) ⟨hl.2 a (Mz),by simp_all,fun x hx=>hl.2 x (pX _ hx)⟩)
theorem Ru(k:Nat):G5 (fun s:Bs=>s.length<=k):=Rt (OG alx k) id fun s hs=>⟨s,⟨hs,fun _ _=>trivial⟩,rfl⟩
theorem aju:G5 (fun l:J bX=>l.length<=128/\∀b∈l,b.fName.length<=60/\b.bL.length<=4096):=
 OG (Rt (OE (Ru 60) (Ru 4096)) (fun p=>bX.mk p.1 p.2) fun b hb=>⟨(b.fName,b.bL),hb,rfl⟩) 128
end Go.Proofs.YthmndfnkdgmenaaGreatDoor
namespace Go.Proofs.YthmndfnkdgmenaaGreatDoor.K
open Go.RT
theorem aly{e:TExpr}(ho:ij e){l:J cw}(hl:l.length<=1000)(hb:Rg l):gw (wC e l).1:=by
 have z:gw 0:=by unfold gw;decide
 unfold wC
 cases hv:(gX e 0 != 0) with
 | true=>exact z
 | false=>
  have iZ:gX e 0=0:=by simpa using hv
  have g:Good e:=⟨HO e 0 iZ,ho,Tz e (HO e 0 iZ)⟩;obtain⟨k1,k2⟩:=N3 e g _ _ (Gi hb)
  grind
theorem ajv{I:Env->Prop}(hI:∀m k n,I m->I (jq cK m k (Lib.itoa n))):∀(e:TExpr)(m:Env),I m->I (kF e m).2.2:=by
 intro e
 induction e using TExpr.ind with
 | h op n name kids ih=>
  intro m hm;rw [Tx];show I (evB op n name (kids.map kF) m).2.2
  have hk:∀(i:Nat)(m:Env),I m->I ((kids.map kF).getD i dK m).2.2:=fun i m hm=>by
   by_cases h:i<kids.length
   ·simp_all
   ·rw [XC,Qt (by simpa using h)];exact hm
  unfold evB IX N1 aaA
  grind
theorem ahn(e:TExpr)(l:J cw):∀b∈(wC e l).2.1,b.bL≠[]\/b∈l:=by
 have nd:∀u:Nat,Lib.decDigits u≠[]:=fun u=>by
  rw [Lib.decDigits];split<;>simp
 have nn:∀n:Int,Lib.itoa n≠[]:=fun n=>by
  unfold Lib.itoa
  grind
 have hI:=ajv (I:=fun m=>∀p∈m,p.2≠[]\/cw.mk p.1 p.2∈l) (fun m k n h p hp=>by
  rcases Rc hp with rfl|hp
  ·exact .inl (nn n)
  ·exact h p hp) e (tg l) (by
  unfold tg
  have key:∀(k:J cw)(m:Env),(∀b∈k,b∈l)->(∀p∈m,p.2≠[]\/cw.mk p.1 p.2∈l)->∀p∈k.foldl (fun m b=>jq cK m b.fName b.bL) m,p.2≠[]\/cw.mk p.1 p.2∈l:=by
   intro k
   induction k with
   | nil=>intro m _ h;exact h
   | cons b k ih=>
    intro m hk h;refine ih _ (fun c hc=>hk c (pX _ hc)) fun p hp=>?_;rcases Rc hp with rfl|hp
    ·simp_all
    ·exact h p hp
  grind)
 intro b hb;unfold wC at hb;revert hb;cases (gX e 0 != 0)
 ·cases ((kF e (tg l)).2.1 != 0)
  ·intro hb
   obtain⟨k,hk,rfl⟩:=(BZ _ _).1 hb;rcases KW (kF e (tg l)).2.2 k ([]:Bs) with⟨p,hp,h1,h2⟩|⟨h1,_⟩
   ·have:=hI p hp
    rw [h1,h2] at this;exact this
   ·exact absurd hk h1
  ·intro hb;cases hb
 ·intro hb;cases hb
def T8(N:Nat)(s:Bs)(b:J cw):Prop:=∃r:Int×J cw×Int,(gw r.1/\r.2.1.length<=100000/\∀c∈r.2.1,c.bL≠[]\/c∈b)/\∀F,N<=F->Da F s b=some r/\Au F s b=some r
theorem alz(s:Bs)(b:J cw)(hs:s.length<=4096)(hl:b.length<=128)(hb:Rg b):∃N,T8 N s b:=by
 obtain⟨x,⟨ho,hn⟩,hp⟩:=ab4 s hs;have h1:=aaD ho om hb hn;have h2:=ab2 ho om hb hn;obtain⟨N,hN⟩:=hp.and (h1.and h2);refine⟨N,cond (x.2.2 != 0) (0,[],x.2.2) (wC x.1 b),?_,fun F hF=>?_⟩
 ·cases (x.2.2 != 0) with
  | true=>exact⟨show gw 0 by unfold gw;decide,fO _,fun _ h=>nomatch h⟩
  | false=>grind [aly,ag8,ahn]
 ·unfold Da Au
  grind [TExpr.eta]
theorem aaX:∃N,∀(s:Bs)(b:J cw),s.length<=4096->b.length<=128->Rg b->T8 N s b:=by
 obtain⟨N,hN⟩:=OE (Ru 4096) aju (fun p n=>T8 n p.1 p.2) (fun p n m hnm ⟨r,h1,h2⟩=>⟨r,h1,fun F hF=>h2 F om⟩) fun p hp=>alz p.1 p.2 hp.1 hp.2.1 hp.2.2;exact⟨N,fun s b h1 h2 h3=>hN (s,b) ⟨h1,h2,h3⟩⟩
noncomputable def NC:Nat:=Classical.choose aaX
theorem VM:∀(s:Bs)(b:J cw),s.length<=4096->b.length<=128->Rg b->T8 NC s b:=Classical.choose_spec aaX
end Go.Proofs.YthmndfnkdgmenaaGreatDoor.K
namespace Go.Proofs.YthmndfnkdgmenaaGreatDoor
open Go.RT
noncomputable def NC:Nat:=K.NC
abbrev CS(l:J bX):Prop:=∀b,b∈l->b.fName.length<=60/\b.bL.length<=4096
theorem VM(s:Bs)(b:J bX)(h1:s.length<=4096)(h2:b.length<=128)(h3:CS b):∃r:Int×J bX×Int,(K.gw r.1/\r.2.1.length<=100000/\∀c∈r.2.1,c.bL≠[]\/c∈b)/\∀F,NC<=F->Da F s b=some r/\Au F s b=some r:=K.VM s b h1 h2 h3
set_option maxRecDepth 100000
def uw(l:J bC):Prop:=l.Pairwise fun a b=>a.fName<b.fName
theorem Rv{F:Nat}(l:J bC)(p:bC->Bool){m:bC->O Bool}(hm:∀v,m v=some (p v))(hF:l.length<F)(hl:l.length<=1000):
  bV (σ:=Int) (fun bt x1=>cond (decide (x1<(l.length:Int))) (rq ((decide (0<=x1))&&(decide (x1<(l.length:Int)))) ((m (l.getD (Int.toNat x1) dW)).bind fun x3=>cond x3 (some x1) (bt (aB (x1+1))))) (some (-1))) F 0=some ((l.findIdx? p).elim (-1) fun i=>(i:Int)):=by
 rw [qm l (fun i=>(i:Int)) p (fun i _=>some (i:Int)) (some (-1)) (s:=(0:Int)) hF rfl (fun i h rc=>?_) (fun rc=>?_)]
 ·rw [QH _ _ _ dW];cases l.findIdx? p<;>simp
 ·rw [cO om,bR om om,bK,gd h,hm,aC,bh om]
 ·rw [cf om]
theorem Rw(p:bC->Bool):∀l:J bC,l.find? p=(l.findIdx? p).map fun i=>l.getD i dW
 | []=>rfl
 | x::l=>by
  rw [MA,XD,Rw p l];cases p x
  ·cases List.findIdx? p l<;>simp
  ·rfl
theorem Lp{p:bC->Bool}{l:J bC}{i:Nat}(h:l.findIdx? p=some i):i<l.length/\p (l.getD i dW)=true:=by
 grind [List.findIdx?_eq_some_iff_getElem,gd]
theorem ajw(F:Nat)(l:J bC)(n:Bs)(hF:l.length<F)(hl:l.length<=1000):yM F l n=some (jo l n):=by
 unfold yM Ou jo;rw [Rv l (fun v=>v.fName==n) (m:=fun v=>Li F v n) (fun v=>rfl) hF hl,Rw]
 cases h:l.findIdx? fun v=>v.fName==n with
 | none=>rfl
 | some i=>
  obtain⟨h1,-⟩:=Lp h
  simp_all [cO,rq,bR]
theorem Pk(F:Nat)(l:J bC)(i k:Nat)(v:bC)(hi:i+k<=l.length)(hl:l.length<=1000):qP F l (i:Int) (k:Int) [v]=some (l.take i++v::l.drop (i+k)):=by
 unfold qP;have e1:aB ((l.length:Int)+(([v]:J bC).length:Int))=((l.length+1:Nat):Int):=bG bE;have e2:aB ((i:Int)+(k:Int))=((i+k:Nat):Int):=bG om;have s1:sl l 0 (i:Int)=l.take i:=by simp [sl]
 have s2:sl l ((i+k:Nat):Int) (l.length:Int)=l.drop (i+k):=by grind [sl,Int.toNat_natCast,List.take_length]
 grind [cD,bR,nJ,Jl]
def ia(l:J bC)(n:Bs):Nat×Bool:=match l.findIdx? fun v=>v.fName==n with
 | some i=>(i,true)
 | none=>match l.findIdx? fun v=>!(Op.bytesLess v.fName n||v.fName==n) with
  | some i=>(i,false)
  | none=>(l.length,false)
theorem aho(F:Nat)(l:J bC)(n:Bs)(hF:l.length<F)(hl:l.length<=1000):AF F l n=some ((((ia l n).1:Nat):Int),(ia l n).2):=by
 unfold AF I8 I9 ia;rw [Rv l (fun v=>v.fName==n) (m:=fun v=>GC F v n) (fun v=>rfl) hF hl,Rv l (fun v=>!(Op.bytesLess v.fName n||v.fName==n)) (m:=fun v=>GD F v n) (fun v=>rfl) hF hl]
 grind
theorem aaY(l:J bC)(n:Bs):(ia l n).1+cond (ia l n).2 1 0<=l.length:=by
 unfold ia;split
 ·rename_i i h
  exact (Lp h).1
 ·split
  ·rename_i i h
   exact Nat.le_of_lt (Lp h).1
  ·exact eo _
theorem WN{l:J bC}{n:Bs}:jo l n=cond (ia l n).2 (l.getD (ia l n).1 dW,true) (bC.mk [] [] false false false,false):=by
 unfold ia jo
 grind [Rw]
theorem T9{l:J bC}{n:Bs}(h:(ia l n).2=true):(l.getD (ia l n).1 dW).fName=n:=by
 unfold ia at h⊢
 grind [Lp]
theorem Di(v:bC):∀(l:J bC),(∀x∈l,¬ x.fName=v.fName)->mz v l true=l
 | [],_=>rfl
 | x::l,h=>by
  have h1:(x.fName==v.fName)=false:=by simpa using h x Mz
  simp only [mz,h1,Bool.true_or];rw [Di v l fun y hy=>h y (pX _ hy)];rfl
theorem Fz(v:bC):∀ {l:J bC},uw l->mz v l false=l.take (ia l v.fName).1++v::l.drop ((ia l v.fName).1+cond (ia l v.fName).2 1 0)
 | [],_=>rfl
 | x::l,h=>by
  obtain⟨h1,h2⟩:=wV.1 h;rcases Tk x.fName v.fName with hx|hx|hx
  ·have b1:=(Kn _ _).2 hx
   have b2:(x.fName==v.fName)=false:=by simpa using fun e:x.fName=v.fName=>lJ _ (e▸hx)
   have:=Fz v h2
   have e:ia (x::l) v.fName=((ia l v.fName).1+1,(ia l v.fName).2):=by
    unfold ia;rw [XD,XD,b2,b1]
    cases l.findIdx? fun y=>y.fName==v.fName with
    | some i=>simp
    | none=>cases l.findIdx? fun y=>!(Op.bytesLess y.fName v.fName||y.fName==v.fName)<;>simp
   rw [e];simp only [mz,b1,b2];rw [show (false || !true)=false from rfl,this,show (ia l v.fName).1+1+cond (ia l v.fName).2 1 0=((ia l v.fName).1+cond (ia l v.fName).2 1 0)+1 by omega];rfl
  ·have b1:Op.bytesLess x.fName v.fName=false:=(CK _ _).2 (by simp_all)
   have b2:(x.fName==v.fName)=true:=by simpa using hx
   have e:ia (x::l) v.fName=(0,true):=by unfold ia;grind
   simp only [mz]
   grind [Di,lJ]
  ·have b1:=(CK _ _).2 fun h=>lJ _ (qo h hx)
   have b2:(x.fName==v.fName)=false:=by grind
   have hy:∀y∈l,¬ y.fName=v.fName:=fun y hy e=>lJ v.fName (qo hx (by grind))
   have e:ia (x::l) v.fName=(0,false):=by
    unfold ia
    grind
   simp [mz,b2]
   simp_all [Di]
theorem Rx{v:bC}:∀ {l:J bC},uw l->uw (mz v l false)
 | [],_=>by unfold uw;exact ade _ _
 | x::l,h=>by
  obtain⟨h1,h2⟩:=wV.1 h;rcases Tk x.fName v.fName with hx|hx|hx
  ·have b1:=(Kn _ _).2 hx
   have b2:(x.fName==v.fName)=false:=by simpa using fun e:x.fName=v.fName=>lJ _ (e▸hx)
   simp [mz,b1,b2];refine wV.2 ⟨fun y hy=>?_,Rx h2⟩;rcases QD v l _ y hy with rfl|hy
   ·exact hx
   ·exact h1 y hy
  ·have b1:Op.bytesLess x.fName v.fName=false:=(CK _ _).2 (by simp_all)
   have b2:(x.fName==v.fName)=true:=by simpa using hx
   simp only [mz,b1,b2];rw [show (false || !false)=true from rfl,Di v l fun y hy e=>lJ _ (by have:=h1 y hy;rw [hx,e] at this;exact this)];exact wV.2 ⟨fun y hy=>by simp_all,h2⟩
  ·have b1:=(CK _ _).2 fun h=>lJ _ (qo h hx)
   have b2:(x.fName==v.fName)=false:=by grind
   simp only [mz,b1,b2];rw [show (false || !false)=true from rfl,Di v l fun y hy e=>lJ v.fName (qo hx (by grind))];refine wV.2 ⟨fun y hy=>?_,h⟩;rcases iq.1 hy with rfl|hy
   ·exact hx
   ·exact qo hx (h1 y hy)
def GA(l:J bC):Prop:=GV l/\uw l
theorem GA.len{l:J bC}(h:GA l):l.length<=128:=h.1.1
theorem ap3(F:Nat){l:J bC}(h:GA l)(n v:Bs)(hF:1000<F):∃r,GA r.1/\sA F l n v=some r/\GF F l n v=some r:=by
 have hl:=h.1.1;obtain⟨r0,h0,e0⟩:=anZ F h.1 n v hF;refine⟨r0,?_⟩;obtain⟨b,hb,eb⟩:=El F n om;unfold sA at e0⊢;unfold GF;rw [K.Ge F n om,eb];rw [ya F l n om om] at e0⊢;rw [eb] at e0
 cases b with
 | false=>
  grind
 | true=>
  have hle:=aaY l n;have hgt:=WN (l:=l) (n:=n);have hnm:=T9 (l:=l) (n:=n);have hat:=fun a (b c d:Bool)=>(OQ F l (bC.mk n a b c d) om om).trans (congrArg some (Fz (bC.mk n a b c d) h.2));have xh:=fun a (b c d:Bool)=>Fz (bC.mk n a b c d) h.2▸Rx h.2;rw [aho F l n om om];rw [hgt] at e0⊢;dsimp only at hat xh hnm⊢;generalize ia l n=q at hle hgt hnm hat xh e0⊢;obtain⟨i,b⟩:=q
  cases b with
  | false=>
   dsimp at hle hat xh e0⊢;by_cases h4:4096<v.length
   ·grind
   rw [cf om] at e0⊢;rw [cf om];simp at e0⊢;by_cases h5:128<=l.length
   ·grind
   rw [cf om] at e0⊢;rw [hat] at e0⊢;cases e0;refine⟨⟨h0,xh _ _ _ _⟩,rfl,?_⟩;rw [cf om,show ((0:Int))=((0:Nat):Int) from rfl,Pk F l i 0 _ om om]
   rfl
  | true=>
   dsimp only [cond_false,cond_true,Option.bind_some] at hle hat xh hnm e0⊢;rw [bR om om,bK];generalize l.getD i dW=o at hnm e0⊢
   cases hr:o.lq with
   | true=>
    grind
   | false=>
   rw [hr] at e0;by_cases h4:4096<v.length
   ·grind
   rw [cf om] at e0⊢;rw [cf om];rw [hat] at e0⊢;cases e0;refine⟨⟨h0,xh _ _ _ _⟩,rfl,?_⟩;rw [bR om om,show ((1:Int))=((1:Nat):Int) from rfl,Pk F l i 1 _ om om]
   simp_all
theorem aoT(F:Nat){l:J bC}(h:GA l)(n:Bs)(a b:Bool)(hF:1000<F):∃r,GA r.1/\og F l n a b=some r/\Db F l n a b=some r:=by
 have hl:=h.1.1;obtain⟨r0,h0,e0⟩:=al9 F h.1 n a b hF;refine⟨r0,?_⟩;obtain⟨c,hb,eb⟩:=El F n om;unfold og at e0⊢;unfold Db;rw [K.Ge F n om,eb];rw [eb] at e0
 cases c with
 | false=>
  grind
 | true=>
  rw [ya F l n om om] at e0⊢;have hle:=aaY l n;have hgt:=WN (l:=l) (n:=n);have hnm:=T9 (l:=l) (n:=n);have hat:=fun a (b c d:Bool)=>(OQ F l (bC.mk n a b c d) om om).trans (congrArg some (Fz (bC.mk n a b c d) h.2));have xh:=fun a (b c d:Bool)=>Fz (bC.mk n a b c d) h.2▸Rx h.2;rw [aho F l n om om];rw [hgt] at e0⊢;dsimp only at hat xh hnm⊢;generalize ia l n=q at hle hgt hnm hat xh e0⊢;obtain⟨i,c⟩:=q
  cases c with
  | false=>
   dsimp at hle hat xh e0⊢;simp at e0⊢;by_cases h5:128<=l.length
   ·grind
   rw [cf om] at e0⊢;rw [hat] at e0⊢;cases e0;refine⟨⟨h0,xh _ _ _ _⟩,rfl,?_⟩;rw [cf om,show ((0:Int))=((0:Nat):Int) from rfl,Pk F l i 0 _ om om]
   rfl
  | true=>
   dsimp only [cond_false,cond_true,Option.bind_some] at hle hat xh hnm e0⊢;rw [bR om om];simp [aK] at e0⊢;rw [hat] at e0⊢;cases e0;refine⟨⟨h0,xh _ _ _ _⟩,rfl,?_⟩;rw [show ((1:Int))=((1:Nat):Int) from rfl,Pk F l i 1 _ om om]
   simp_all
def pR:Nat->Bs->Nat
 | a,[]=>a
 | a,b::l=>pR (10*a+(b.toNat-48)) l
def Bf(b:UInt8):Bool:=decide (48<=b.toNat)&&decide (b.toNat<=57)
theorem VN:∀(l:Bs)(a:Nat),a*10^l.length<=pR a l
 | [],a=>Nat.le_of_eq (RC a)
 | b::l,a=>by
  have:=VN l (10*a+(b.toNat-48))
  have h2:a*10^(l.length+1)<=(10*a+(b.toNat-48))*10^l.length:=by
   rw [Nat.pow_succ,XE (10^l.length)]
   grind
  show a*10^(l.length+1)<=pR (10*a+(b.toNat-48)) l
  grind
theorem alA(l:Bs)(a:Nat):a<=pR a l:=by
 have:=VN l a;have h:=adf a (Nat.pow_pos (n:=l.length) (by decide:0<10));omega
theorem Ry:∀(l m:Bs)(a:Nat),pR a (l++m)=pR (pR a l) m
 | [],m,a=>rfl
 | b::l,m,a=>Ry l m _
theorem WO(s:Bs){k:Nat}(h:k<s.length):pR 0 (s.take (k+1))=10*pR 0 (s.take k)+(s[k].toNat-48):=by
 rw [qB h,Ry];rfl
theorem ahp(s:Bs)(k:Nat):pR 0 (s.take k)<=pR 0 s:=by
 grind [List.take_append_drop,Ry,alA]
def AP(s:Bs):Int×Bool:=if s.all Bf=true/\pR 0 s<=2147483647 then ((pR 0 s:Nat),true) else (0,false)
theorem aaZ{s:Bs}{k:Nat}(h:k<s.length)(ha:(s.take k).all Bf=true)(hd:Bf s[k]=true):(s.take (k+1)).all Bf=true:=by
 grind [List.take_succ_eq_append_getElem]
theorem VO{s:Bs}{k:Nat}(h:k<s.length)(hd:Bf s[k]=false):AP s=(0,false):=by
 unfold AP
 grind
theorem ap4(F:Nat)(s:Bs)(hF:s.length<F)(hl:s.length<=1000)(h0:s≠[])(h1:s.getD 0 0≠48):pM F s=some (AP s):=by
 have:aA (fun r=>r=AP s) (pM F s):=by
  unfold pM
  have e1:(s==[48])=false:=by
   grind
  have e2:(s==[])=false:=by simpa using h0
  have e3:(((s.getD 0 0).toNat:Int)==48)=false:=by
   have:(s.getD 0 0).toNat≠48:=fun h=>h1 (by apply UInt8.toNat_inj.1;rw [h];rfl)
   grind
  have:=zb.2 h0;rw [e1,e2,aS,aS,sx om,e3,aC,aS];refine aA.lp (fun z:Int×Bs×Int=>z.2.1=s/\∃k:Nat,z.2.2=(k:Int)/\k<=s.length/\(s.take k).all Bf=true/\z.1=(pR 0 (s.take k):Nat)/\pR 0 (s.take k)<=2147483647) (fun z=>s.length-z.2.2.toNat) ⟨rfl,0,rfl,om,rfl,rfl,fO _⟩ (by simp_all) ?_;rintro⟨x,s',p⟩ ⟨q1,k,q2,h2,h3,q3,h4⟩ rc hrc;have q1:=q1.symm;subst q1 q2 q3;rw [bK];by_cases hk:k<s.length
  ·have hb:Nat.blt k s.length=true:=Nat.ble_eq_true_of_le hk
   rw [hb,bq,K.agS,aC];have hgd:s.getD k 0=s[k]:=gd hk;by_cases hs:(s.getD k 0).toNat<128
   ·rw [K.NV hs]
    have hdd:K.fL ((s.getD k 0).toNat:Int)=Bf s[k]:=by
     unfold K.fL Bf;grind
    rw [hdd]
    cases hd:Bf s[k] with
    | false=>grind [aA.ok,VO]
    | true=>
     have hd':=hd;unfold Bf at hd';rw [cx,fX,fX] at hd';have ev:=WO s hk
     have e5:aB ((aB (10*((pR 0 (s.take k):Nat):Int)))+(aB (IntKind.wrap .i32 (((s.getD k 0).toNat:Int)-48))))=((pR 0 (s.take (k+1)):Nat):Int):=by
      rw [hgd,show IntKind.wrap .i32 ((s[k].toNat:Int)-48)=(s[k].toNat:Int)-48 from IntWalk.i32_in _ om,bG (x:=(s[k].toNat:Int)-48) om,bG (x:=10*_) om,bG om,ev];omega
     dsimp only;rw [e5];refine aA.cd (fun h=>aA.ok ?_) fun h=>hrc _ ⟨rfl,k+1,rfl,hk,aaZ hk h3 hd,rfl,om⟩ (by grind);have:=ahp s (k+1);unfold AP;rw [if_neg om]
   ·have:=K.WB hs
    have:K.fL ((dec s k).1:Int)=false:=by
     unfold K.fL;grind
    rw [this];refine aA.ok (VO hk ?_).symm;unfold Bf;grind
  ·have hb:Nat.blt k s.length=false:=by
    cases h:Nat.blt k s.length with
    | false=>rfl
    | true=>exact absurd (lC h) hk
   rw [hb,aS];refine aA.ok ?_;unfold AP
   grind
 obtain⟨r,h,e⟩:=this;rw [e,h]
theorem ap5(F:Nat)(s:Bs)(hF:s.length<F)(hl:s.length<=1000)(h0:s≠[])(h1:s.getD 0 0≠48):lE F s=some (AP s):=by
 have:aA (fun r=>r=AP s) (lE F s):=by
  unfold lE;have e2:(s==[])=false:=by simpa using h0
  have e3:(((s.getD 0 0).toNat:Int)==48)=false:=by
   have:(s.getD 0 0).toNat≠48:=fun h=>h1 (by apply UInt8.toNat_inj.1;rw [h];rfl)
   grind
  have hp:=zb.2 h0;rw [e2,aS,aC];refine aA.bd (P:=fun b=>b=decide (10<s.length)) (aA.cd (fun h=>aA.ok (by grind)) fun h=>?_) fun b hb=>?_
  ·grind [sx,aA.ok,decide_eq_false]
  subst hb;refine aA.cd (fun h=>aA.ok ?_) fun h=>?_
  ·unfold AP
   rw [if_neg fun hh=>?_];have hall:=oX.1 hh.1
   obtain⟨a,l,rfl⟩:∃a l,s=a::l:=by cases s with
    | nil=>exact absurd rfl h0
    | cons a l=>exact⟨a,l,rfl⟩
   have ha:=hall a Mz;unfold Bf at ha;rw [cx,fX,fX] at ha;have hne:a.toNat≠48:=fun h=>h1 (by simp_all);have h5:=VN l (10*0+(a.toNat-48));have h6:10^10<=10^l.length:=Nat.pow_le_pow_right de (by simp at h;omega);have h7:1*10^l.length<=(10*0+(a.toNat-48))*10^l.length:=yz _ om;have h8:pR 0 (a::l)=pR (10*0+(a.toNat-48)) l:=rfl
   grind
  ·refine aA.lp (fun z:Int×Int=>∃k:Nat,z.2=(k:Int)/\k<=s.length/\(s.take k).all Bf=true/\z.1=(pR 0 (s.take k):Nat)/\pR 0 (s.take k)<10^k) (fun z=>s.length-z.2.toNat) ⟨0,rfl,om,rfl,rfl,Nat.one_pos⟩ (by simp_all) ?_
   rintro⟨x,p⟩ ⟨k,q2,h2,h3,q3,h4⟩ rc hrc;dsimp only at q2 q3 hrc⊢;subst q2 q3;refine aA.cd (fun hk=>?_) fun hk=>?_
   ·have hk:k<s.length:=om
    have hgd:s.getD k 0=s[k]:=gd hk;rw [bR om om,bK,K.To,aC,hgd]
    have hdd:K.fL (s[k].toNat:Int)=Bf s[k]:=by
     unfold K.fL Bf
     grind
    rw [hdd]
    cases hd:Bf s[k] with
    | false=>grind [aA.ok,VO]
    | true=>
     have hd':=hd;unfold Bf at hd';rw [cx,fX,fX] at hd';have ev:=WO s hk;have h10:10^k<=10^9:=Nat.pow_le_pow_right de om
     have e5:aB ((aB (10*((pR 0 (s.take k):Nat):Int)))+(aB (IntKind.wrap .u8 ((s[k].toNat:Int)-48))))=((pR 0 (s.take (k+1)):Nat):Int):=by
      rw [show IntKind.wrap .u8 ((s[k].toNat:Int)-48)=(s[k].toNat:Int)-48 from by
       show ((s[k].toNat:Int)-48)%256=_;omega,bG (x:=(s[k].toNat:Int)-48) om,bG (x:=10*_) om,bG om,ev]
      omega
     rw [ku,aS,bR om om,e5,bh om];refine hrc _ ⟨k+1,rfl,hk,aaZ hk h3 hd,rfl,?_⟩ (by grind)
     grind
   ·rw [Iw om] at h3 h4⊢
    unfold AP;refine aA.cd (fun h=>aA.ok ?_) fun h=>aA.ok ?_
    ·rw [if_neg om]
    grind
 obtain⟨r,h,e⟩:=this;rw [e,h]
def NoF(e:dM):Prop:=e.tC=[]/\e.nL=[]/\e.tD=[]
def OH(e:dM):Prop:=GV e.bN/\e.cC.length<=12/\(∀x∈e.cC,x.length<=60)/\e.fName.length<=60/\K.gw e.fH/\K.gw e.Bz/\K.gw e.oh/\NoF e
def GS(s:aX):Prop:=OH s.ck/\(∀a∈s.ek,a.fText.length<=60)/\s.ek.length<=2000/\∃u:Nat,s.fused=(u:Int)/\u<=s.ek.length
def stop(s:aX):Bool:=s.fe != 0||s.kQ
def RB(k:Nat)(l:J aH):Prop:=l.length<=26*k/\cz l<=5000*k
theorem RB.one{k:Nat}{t:Bs}{c:Int}(hk:1<=k)(h:t.length<=5000*k):RB k [aH.mk t c]:=⟨bE,by simp [cz];omega⟩
theorem RB.nil{k:Nat}:RB k []:=⟨si,by simp [cz]⟩
theorem RB.mono{k j:Nat}{l:J aH}(h:RB k l)(hj:k<=j):RB j l:=⟨by have:=h.1;omega,by have:=h.2;omega⟩
theorem RB.app{k j:Nat}{l m:J aH}(h:RB k l)(h':RB j m):RB (k+j) (l++m):=⟨by have:=h.1;have:=h'.1;grind,by have:=h.2;have:=h'.2;rw [BF];omega⟩
theorem vS(F:Nat)(s:aX):iw F s=some (stop s):=by unfold iw;rw [aK];rfl
theorem tT(F:Nat)(e:Int)(m:Bs)(s:aX):eL F e m s=some (cond (stop s) s {s with fe:=e,fm:=m}):=by
 unfold eL;grind [vS]
theorem ahq{s:aX}{e:Int}(he:e≠0)(m:Bs):stop (cond (stop s) s {s with fe:=e,fm:=m})=true:=by
 cases h:stop s with
 | true=>exact h
 | false=>show (e != 0||_)=true;simp_all
theorem Pm(F:Nat)(p:dh):∃c,ez F p=some c:=by unfold ez;simp_all [aK]
theorem ant(F:Nat)(p:dh):∃c,pK F p=some c:=by unfold pK;simp_all [aK]
theorem ajx(F:Nat)(e:Int):aA (fun r=>r.length<=100) (Av F e):=by
 exact aA.cb (fun _=>aA.ok de) fun _=>aA.cb (fun _=>aA.ok de) fun _=>aA.cb (fun _=>aA.ok de) fun _=>aA.cb (fun _=>aA.ok de) fun _=>aA.ok de
theorem ajy(F:Nat)(o:Int)(c s:Bool)(v:Bs):∃r,rZ F o c s v=some r:=by unfold rZ;simp_all [aK,aC]
theorem akj(F:Nat)(p:TPart):∃b,vC F p=some b:=by unfold vC;simp_all [aK,aC]
theorem aoU(F:Nat)(n:Int)(hF:30<=F)(h:K.gw n):∃r,r.length<=60/\dB F n=some r:=⟨_,K.wB h,K.JL F hF h⟩
theorem aa0(F:Nat)(l:J aH)(hF:l.length<F)(h1:l.length<=1000000000)(h2:cz l<=1000000000):oF F l=some (l.flatMap fun r=>r.fText):=by
 have:aA (fun r=>r=l.flatMap fun r=>r.fText) (oF F l):=by
  have hsz:∀k,((l.take k).flatMap fun r=>r.fText).length<=cz l:=fun k=>by
   have h:(l.flatMap fun r=>r.fText)=((l.take k).flatMap fun r=>r.fText)++((l.drop k).flatMap fun r=>r.fText):=by rw [<-adg,Uh]
   have h2:cz l=(l.flatMap fun r=>r.fText).length:=by unfold cz;rw [List.length_flatMap]
   simp_all
  refine aA.lp (fun z=>∃k:Nat,z.2=(k:Int)/\k<=l.length/\z.1=(l.take k).flatMap fun r=>r.fText) (fun z=>l.length-z.2.toNat) ⟨0,rfl,om,si⟩ (by simp_all) ?_;rintro⟨_,_⟩ ⟨k,rfl,h3,rfl⟩ rc hrc;dsimp only at hrc⊢;refine aA.cd (fun h=>?_) fun h=>aA.ok (by grind);have hk:k<l.length:=om;have e1:((l.take (k+1)).flatMap fun r=>r.fText)=((l.take k).flatMap fun r=>r.fText)++l[k].fText:=by rw [agO _ _ _ hk]
  have h5:=hsz (k+1);rw [e1,ug] at h5;rw [bR om om,bK,gd hk,bh om];exact aA.rq (decide_eq_true om) (hrc _ ⟨k+1,rfl,hk,e1.symm⟩ (by grind))
 obtain⟨r,h,e⟩:=this;rw [e,h]
theorem aoV(F:Nat)(n:Bs)(hF:n.length<F)(hn:n.length<=1000):∃r,gC F n=some r:=by
 by_cases h:n=[]
 ·subst h;exact⟨0,rfl⟩
 have:=zb.2 h;obtain⟨d,hd⟩:=Uu F n hF om;unfold gC;rw [sx om]
 simp_all [aC,aK]
theorem alB(F:Nat){e:dM}(h:OH e)(n:Bs)(hF:1000<F)(hn:n.length<=1000):aA (fun r=>r.1.length<=4096) (jN F e n):=by
 obtain⟨hV,hP,hP',hN,h1,h2,h3,-⟩:=h;have hl:=hV.1;unfold jN;obtain⟨p,hp⟩:=aoV F n om om;rw [hp,aC,ya F e.bN n om om];refine aA.bd (El F n om) fun b _=>aA.cb (fun _=>?_) fun _=>?_
 ·exact aA.cb (fun _=>aA.ok de) fun _=>aA.ok (OP hV n).2
 rw [aK];refine aA.cb (fun hc=>?_) fun _=>?_
 ·rw [cF,cx] at hc
  have c1:=wS hc.1;have c2:=wS hc.2;rw [bG om];refine aA.rq (jO om om) (aA.ok ?_);have hk:(p-1).toNat<e.cC.length:=om;rw [gd hk]
  grind
 refine aA.cb (fun _=>aA.ok (by grind)) fun _=>?_
 have dec:∀(m:Int),K.gw m->aA (fun r=>r.1.length<=4096) ((dB F m).bind fun x=>some (x,true)):=fun m hm=>by
  obtain⟨r,h1,h2⟩:=aoU F m om hm
  grind [aA.ok]
 refine aA.cb (fun _=>dec _ ⟨om,om⟩) fun _=>aA.cb (fun _=>dec _ h1) fun _=>aA.cb (fun _=>?_) fun _=>aA.cb (fun _=>dec _ h2) fun _=>?_
 ·grind [aA.bd,akA,aA.ok]
 rw [aK];refine aA.cb (fun _=>dec _ h3) fun _=>aA.cb (fun _=>?_) fun _=>aA.cb (fun _=>?_) fun _=>aA.ok de
 ·grind [aA.bd,afK,aA.ok]
 grind [aA.bd,afL,afK,aA.ok]
theorem alC(F:Nat){s:aX}(h:GS s)(n v:Bs)(p:dh)(hv:v.length<=4096)(hF:1000<F):aA (RB 1) (lS F n v p s):=by
 obtain⟨⟨hV,hP,hP',-⟩,-⟩:=h;unfold lS;simp only [aK];obtain⟨c,hc⟩:=Pm F p;rw [hc];refine aA.cb (fun _=>aA.ok (RB.one om om)) fun _=>?_;refine aA.lp (fun z=>∃k:Nat,z.2=(k:Int)/\k<=s.ck.cC.length/\z.1.length<=2*k/\cz z.1<=60*k) (fun z=>s.ck.cC.length-z.2.toNat) ⟨0,rfl,om,si,by simp [cz]⟩ (by grind) ?_;rintro⟨o,_⟩ ⟨k,rfl,h1,h2,h3⟩ rc hrc;refine aA.cd (fun h=>?_) fun _=>aA.ok ⟨om,om⟩;have hk:k<s.ck.cC.length:=om;have hx:=hP' _ (kz hk);refine aA.bd (P:=fun u=>u.length<=2*k+1/\cz u<=60*k) (aA.cd (fun _=>aA.rq (nJ (by grind) de) (aA.ok ⟨bE,by rw [BF];show cz o+0<=_;omega⟩)) fun _=>aA.ok ⟨om,h3⟩) fun u hu=>?_;rw [bR om om,bK,gd hk,bh om];refine aA.rq (nJ (by grind) de) (hrc _ ⟨k+1,rfl,hk,?_,?_⟩ (by grind))
 ·grind
 ·show cz (u++[aH.mk s.ck.cC[k] c])<=_;rw [BF];simp [cz] at hu⊢;omega
theorem anu(F:Nat)(o:Int):CE F o=tV F o:=rfl
theorem ahr(g x:Bs):∀l:J Bs,l≠[]->Lib.join (l++[x]) g=Lib.join l g++(g++x)
 | [],h=>absurd rfl h
 | a::l,_=>by
  rw [wW,Lib.join_cons,Lib.join_cons];unfold Lib.joinTail;simp
theorem WR(l:J Bs)(g:Bs)(n:Nat)(hg:g.length<=1)(h:∀a∈l,a.length<=n):(Lib.join l g).length<=(n+1)*l.length:=by
 cases l with
 | nil=>simp [Lib.join_nil]
 | cons a r=>
  rw [Lib.join_cons]
  have h2:∀r:J Bs,(∀c∈r,c.length<=n)->(Lib.joinTail g r).length<=(n+1)*r.length:=fun r=>by
   unfold Lib.joinTail
   induction r with
   | nil=>intro _;simp
   | cons b r ih=>grind [List.mem_cons_self,List.mem_cons_of_mem,List.flatten_cons,List.length_append,List.length_cons,Nat.mul_succ]
  grind [List.mem_cons_of_mem,List.length_append,List.length_cons,Nat.mul_succ]
theorem aoW(F:Nat)(l:J Bs)(g:Bs)(hF:100<F)(h1:l.length<=12)(h2:∀x∈l,x.length<=60)(hg:g.length<=1):EF F l g=some (Lib.join l g)/\qn F l g=some (Lib.join l g):=by
 have hlen:=WR l g 60 hg h2;constructor
 ·grind [EF,bR]
 have:aA (fun r=>r=Lib.join l g) (qn F l g):=by
  refine aA.lp (fun z=>∃k:Nat,z.2=(k:Int)/\k<=l.length/\z.1=Lib.join (l.take k) g) (fun z=>l.length-z.2.toNat) ⟨0,rfl,om,by simp [Lib.join_nil]⟩ (by grind) ?_;rintro⟨o,p⟩ ⟨k,q1,h3,q2⟩ rc hrc;dsimp only at q1 q2 hrc⊢;subst q1 q2
  have hj:(Lib.join (l.take k) g).length<=61*12:=by
   have a:=WR (l.take k) g 60 hg fun x hx=>h2 x (adh hx)
   grind
  refine aA.cd (fun h=>?_) fun h=>aA.ok (by grind);have hk:k<l.length:=om;have hx:=h2 _ (kz hk)
  have e1:Lib.join (l.take (k+1)) g=(if 0<k then Lib.join (l.take k) g++g else Lib.join (l.take k) g)++l[k]:=by
   rw [qB hk];by_cases h0:0<k
   ·rw [if_pos h0,ahr _ _ _ (fun e=>by have:=congrArg List.length e;simp_all),FC]
   ·obtain rfl:k=0:=om
    simp [Lib.join_nil,Lib.join_cons,Lib.joinTail]
  refine aA.bd (P:=fun u=>u=if 0<k then Lib.join (l.take k) g++g else Lib.join (l.take k) g) (aA.cd (fun h0=>aA.rq (dQ om) (aA.ok (by rw [if_pos om]))) fun h0=>aA.ok (by rw [if_neg om])) fun u hu=>?_;have hul:u.length<=61*12+1:=by grind
  rw [bR om om,bK,gd hk,bh om];refine aA.rq (decide_eq_true om) (hrc _ ⟨k+1,rfl,hk,by dsimp only;rw [e1,hu]⟩ (by grind))
 obtain⟨r,h,e⟩:=this;rw [e,h]
def spec(n:Bs):Bool:=[[64],[42],[35],[63],[45],[36],[33],[48]].contains n
theorem ahs:∀n:Fin 256,decide (0<=Lib.indexByte [64,42,35,63,45,36,33,48] (UInt8.ofNat n.val))=spec [UInt8.ofNat n.val]:=by decide +kernel
theorem aa1{n:Bs}(h:spec n=true):n.length=1:=by
 unfold spec at h;simp at h
 grind
theorem aoX(F:Nat)(n:Bs):yu F n=some (spec n):=by
 unfold yu;by_cases h:n.length=1
 ·obtain⟨b,rfl⟩:=XF.1 h
  have hb:=ahs ⟨b.toNat,b.toNat_lt⟩
  have e:stringslite_Index F [64,42,35,63,45,36,33,48] [b]=some (Lib.indexByte [64,42,35,63,45,36,33,48] b):=by
   unfold stringslite_Index stringslite_IndexByte
   have e1:(([b]:Bs)==[64,42,35,63,45,36,33,48])=false:=by
    simp_all
   simp;show ((ibF F _ _).bind _)=_
   simp_all [ibF,bK]
  unfold strings_Contains strings_Index
  simp_all
 grind [beq_eq_false_iff_ne,aa1]
theorem afv(F:Nat)(hF:30<=F){n:Int}(h:K.gw n):oz F n=some (Lib.itoa n):=by
 unfold oz;rw [bR h.1 h.2]
theorem ap6(F:Nat)(e:dM)(hF:1000<F)(hl:e.bN.length<=128):qy F e=sW F e.bN:=by
 unfold qy mH sW;rw [ajw F _ _ om om,ya F _ _ om om]
 have hb:(jo e.bN [73,70,83]).2=false->(jo e.bN [73,70,83]).1=bC.mk [] [] false false false:=by
  unfold jo;cases e.bN.find? _<;>simp
 grind
theorem ap7(F:Nat)(e:dM)(n:Bs)(hF:1000<F)(hl:e.bN.length<=128):mH F e n=some (cond (jo e.bN n).1.cE ((jo e.bN n).1.bL,true) ([],false)):=by
 unfold mH;rw [ajw F _ _ om om]
 have hb:(jo e.bN n).2=false->(jo e.bN n).1=bC.mk [] [] false false false:=by
  unfold jo;cases e.bN.find? _<;>simp
 grind
theorem anv(F:Nat){e:dM}(h:OH e)(n:Bs)(hF:2000<F)(hn:n.length<=1000):xR F e n=jN F e n:=by
 obtain⟨hV,hP,hP',hN,r1,r2,r3,-⟩:=h;have hl:=hV.1;have hj:=fun g hg=>aoW F e.cC g om hP hP' hg;have R:K.gw (e.cC.length:Int):=⟨om,om⟩;have I:=fun {x:Int}(h:K.gw x)=>afv F om h;have D:=fun {x:Int}(h:K.gw x)=>K.JL F om h;unfold xR;rw [aoX,aC]
 cases hs:spec n with
 | true=>
  rw [bq,sx (by have:=aa1 hs;omega)];unfold spec at hs;simp only [XG,iq,Bi,Bj] at hs;have fin:∀x:O (Bs×Bool),(x.bind fun x2=>some (x2.1,x2.2))=x:=fun x=>by cases x<;>rfl
  rw [fin];unfold vJ jN gC;obtain⟨g,hg,eg⟩:=afL F hV om;obtain⟨m,rfl⟩:∃m,F=m+100:=⟨F-100,om⟩;rcases hs with rfl|rfl|rfl|rfl|rfl|rfl|rfl|rfl
  ·show ((EF (m+100) e.cC [32]).bind _)=((qn (m+100) e.cC [32]).bind _)
   rw [(hj [32] de).1,(hj [32] de).2]
  ·show ((qy (m+100) e).bind _)=((sW (m+100) e.bN).bind _)
   grind [ap6]
  ·show ((oz (m+100) _).bind _)=((dB (m+100) _).bind _)
   rw [I R,D R]
  ·show ((oz (m+100) _).bind _)=((dB (m+100) _).bind _)
   rw [I r1,D r1]
  ·show ((CE (m+100) _).bind _)=((tV (m+100) _).bind _)
   rw [anu]
  ·show ((oz (m+100) _).bind _)=((dB (m+100) _).bind _)
   rw [I r2,D r2]
  ·show cond (e.oh==0) (some ([],false)) ((oz (m+100) e.oh).bind _)=(Option.bind (some (e.oh != 0)) fun x9=>cond x9 ((dB (m+100) e.oh).bind fun bW=>some (bW,true)) (some ([],false)))
   grind
  ·rfl
 | false=>
  rw [aS]
  have ne:∀x,x∈([[64],[42],[35],[63],[45],[36],[33],[48]]:J Bs)->(n==x)=false:=fun x hx=>by
   rw [gN];intro h;subst h;have:spec n=true:=by unfold spec;exact XG.2 hx
   rw [this] at hs;cases hs
  have ends:∀(p:Int),¬ (0<p/\p<=e.cC.length)->gC F n=some p->eY F n=some false->jN F e n=some ([],false):=by
   intro p hp h1 h2;unfold jN;rw [h1,aC,h2,aC,aS,aK,aC]
   rw [show (cond (decide (0<p)) (decide (p<=(e.cC.length:Int))) false)=false from by
    simp_all]
   rw [ne [48] de,ne [35] de,ne [63] de,ne [45] de,ne [36] de,ne [33] de,ne [64] de,ne [42] de];rfl
  have akk:∀b,eY F n=some b->gC F n=some 0->((kN F n).bind fun x5=>cond (!x5) (some ([],false)) ((mH F e n).bind fun x6=>some (x6.1,x6.2)))=jN F e n:=by
   intro b hb hp;rw [K.Ge F n om,hb,aC]
   cases b with
   | false=>rw [ends 0 om hp hb];rfl
   | true=>
    unfold jN;rw [hp,aC,hb,aC,bq,ap7 F e n om hl,ya F _ _ om om,aC,aC];cases (jo e.bN n).1.cE<;>rfl
  obtain⟨b,-,hb⟩:=El F n om;by_cases h0:n=[]
  ·subst h0
   exact akk b hb rfl
  by_cases h1:n.getD 0 0=48
  ·have hp:=zb.2 h0
   have hc:(((n.getD 0 0).toNat:Int)==48)=true:=by rw [h1];rfl
   have e1:pM F n=some (0,false):=by
    unfold pM;rw [ne [48] de,aS,show (n==[])=false from by simpa using h0,aS,sx om,hc,aC];rfl
   obtain⟨d,hd⟩:=Uu F n om om
   have e2:gC F n=some 0:=by
    unfold gC;rw [hd,sx om,hc]
    grind
   rw [e1,aC];exact akk b hb e2
  ·have hp:=zb.2 h0
   have hc:(((n.getD 0 0).toNat:Int)==48)=false:=by
    rw [beq_eq_false_iff_ne];intro h;exact h1 (by apply UInt8.toNat_inj.1;grind)
   rw [ap4 F n om hn h0 h1,aC]
   have e2:gC F n=some (cond (AP n).2 (AP n).1 0):=by
    unfold gC;rw [ap5 F n om hn h0 h1,sx om,hc,aC];simp only [aK,aC];unfold AP
    grind
   cases hd:(AP n).2 with
   | false=>
    simp_all
   | true=>
    rw [hd,bq] at e2;rw [bq]
    have hnm:eY F n=some false:=by
     unfold AP at hd;split at hd
     ·rename_i hh
      have h8:=oX.1 hh.1 _ (kz (n:=0) hp);unfold Bf at h8;rw [cx,fX,fX] at h8;unfold eY;rw [show (n==[])=false from by simpa using h0,aS,aC,sx om,K.To]
      have:K.fL ((n.getD 0 0).toNat:Int)=true:=by
       unfold K.fL;grind
      simp_all
     ·cases hd
    have Ww:0<=(AP n).1/\(AP n).1<=2147483647:=by
     unfold AP;grind
    generalize (AP n).1=d at e2 Ww⊢;rw [aK,aC];by_cases xj:0<d/\d<=e.cC.length
    ·rw [show (cond (decide (d<1)) true (decide ((e.cC.length:Int)<d)))=false from by grind,cond_false]
     unfold jN
     simp_all
    grind
def T2{A B:Type}(Q:A->B->Prop)(x:O A)(y:O B):Prop:=∃a b,Q a b/\x=some a/\y=some b
section
variable {A B C D σ τ : Type} {Q : A -> B -> Prop}
theorem T2.ok{a:A}{b:B}(h:Q a b):T2 Q (some a) (some b):=⟨a,b,h,rfl,rfl⟩
theorem T2.mono{P:A->B->Prop}{x:O A}{y:O B}(h:T2 P x y)(f:∀a b,P a b->Q a b):T2 Q x y:=by
 obtain⟨a,b,h,e⟩:=h;exact⟨a,b,f a b h,e⟩
theorem T2.bd{P:C->D->Prop}{x:O C}{y:O D}{f:C->O A}{g:D->O B}(h:T2 P x y)(k:∀a b,P a b->T2 Q (f a) (g b)):T2 Q (x.bind f) (y.bind g):=by
 obtain⟨a,b,h,rfl,rfl⟩:=h;exact k a b h
theorem T2.l{P:C->Prop}{x:O C}{y:O B}{f:C->O A}(h:aA P x)(k:∀a,P a->T2 Q (f a) y):T2 Q (x.bind f) y:=by
 obtain⟨a,h,rfl⟩:=h;exact k a h
theorem T2.r{P:D->Prop}{x:O A}{y:O D}{g:D->O B}(h:aA P y)(k:∀b,P b->T2 Q x (g b)):T2 Q x (y.bind g):=by
 obtain⟨a,h,rfl⟩:=h;exact k a h
theorem T2.ql{c:Bool}{x:O A}{y:O B}(h:c=true)(k:T2 Q x y):T2 Q (rq c x) y:=by subst h;exact k
theorem T2.qr{c:Bool}{x:O A}{y:O B}(h:c=true)(k:T2 Q x y):T2 Q x (rq c y):=by subst h;exact k
theorem T2.cb{c:Bool}{x x':O A}{y y':O B}(a:c=true->T2 Q x y)(b:c=false->T2 Q x' y'):T2 Q (cond c x x') (cond c y y'):=by
 grind
theorem T2.cl{c:Bool}{x x':O A}{y:O B}(a:c=true->T2 Q x y)(b:c=false->T2 Q x' y):T2 Q (cond c x x') y:=by
 grind
theorem T2.cr{c:Bool}{x:O A}{y y':O B}(a:c=true->T2 Q x y)(b:c=false->T2 Q x y'):T2 Q x (cond c y y'):=by
 grind
theorem T2.lp{b1:(σ->O A)->σ->O A}{b2:(τ->O B)->τ->O B}(P:σ->τ->Prop)(m:σ->Nat){F:Nat}{s:σ}{t:τ}(h0:P s t)(hF:m s<F)
  (hs:∀s t,P s t->∀r1 r2,(∀s' t',P s' t'->m s'<m s->T2 Q (r1 s') (r2 t'))->T2 Q (b1 r1 s) (b2 r2 t)):T2 Q (bV b1 F s) (bV b2 F t):=by
 induction F generalizing s t with
 | zero=>omega
 | succ F ih=>grind [bV]
end
def nF(s:aX):Prop:=GS s/\uw s.ck.bN/\(s.kQ=false->s.tn=[])
def gO(fl:J bu)(s:aX):aM:=aM.mk s.ck fl (s.ek.drop s.fused.toNat) s.jD false [] [] 0
def Fin(x:aM)(s:aX):Prop:=(s.fe≠0/\x.kQ=false/\x.yL=s.fe/\x.fm=s.fm)\/(s.fe=0/\x.kQ=true/\x.tn=s.tn/\x.ck=s.ck/\x.jD=s.jD)
def RR{A:Type}(fl:J bu)(I:J A->Prop)(a:J A×Bool×aM)(b:J A×aX):Prop:=nF b.2/\I b.1/\((stop b.2=false/\a=(b.1,true,gO fl b.2))\/(stop b.2=true/\a.2.1=false/\Fin a.2.2 b.2/\a.1=[]))
def RA(fl:J bu)(a:Bool×aM)(b:aX):Prop:=nF b/\((stop b=false/\a=(true,gO fl b))\/(stop b=true/\a.1=false/\Fin a.2 b))
theorem RR.go{A:Type}{fl:J bu}{I:J A->Prop}{r:J A}{s:aX}(h:nF s)(hi:I r)(hs:stop s=false):RR fl I (r,true,gO fl s) (r,s):=⟨h,hi,.inl ⟨hs,rfl⟩⟩
theorem acW{s:aX}(h:stop s=false):s.fe=0/\s.kQ=false:=by
 unfold stop at h;simp_all
theorem anw{s:aX}{e:Int}{m:Bs}(he:e≠0):stop {s with fe:=e,fm:=m} = true:=by
 show (e != 0||s.kQ)=true
 simp_all
theorem failed{fl:J bu}{s:aX}{e:Int}{m:Bs}(hs:stop s=false)(he:e≠0):stop (cond (stop s) s {s with fe:=e,fm:=m})=true/\Fin {gO fl s with yL:=e,fm:=m} (cond (stop s) s {s with fe:=e,fm:=m}):=by
 rw [hs];exact⟨anw he,.inl ⟨he,rfl,rfl,rfl⟩⟩
theorem Lq{s:aX}(h:nF s)(e:Int)(m:Bs):nF (cond (stop s) s {s with fe:=e,fm:=m}):=by cases stop s<;>exact h
theorem RR.err{A:Type}{fl:J bu}{I:J A->Prop}{r:J A}{s:aX}{e:Int}{m:Bs}{x:aM}(h:nF s)(hi:I r)(hs:stop s=false)(he:e≠0)(hx:x={gO fl s with yL:=e,fm:=m}):RR fl I ([],false,x) (r,cond (stop s) s {s with fe:=e,fm:=m}):=by
 subst hx;have:=failed (fl:=fl) (m:=m) hs he;exact⟨Lq h _ _,hi,.inr ⟨this.1,rfl,this.2,rfl⟩⟩
theorem J8(F:Nat)(m:Bs)(x:aM):gJ F m x=some (false,{x with fm:=m,yL:=32}):=rfl
theorem aoY(F:Nat)(e:Int)(x:aM):dP F e x=some (false,{x with yL:=e}):=rfl
theorem aht(v:bC){l:J bC}(h:uw l):v∈mz v l false:=by rw [Fz v h];simp
theorem get_mem{l:J bC}{n:Bs}{v:bC}(h:v∈l)(hn:v.fName=n):(jo l n).2=true:=by
 unfold jo
 cases e:l.find? fun v=>v.fName==n with
 | none=>simp_all
 | some x=>rfl
theorem ajz(F:Nat){l:J bC}(h:GA l)(n v:Bs)(hF:1000<F){r:J bC×Int}(e:sA F l n v=some r)(h0:r.2=0):eY F n=some true/\(jo r.1 n).2=true:=by
 have hl:=h.len;obtain⟨b,hb,eb⟩:=El F n om;unfold sA at e;rw [ya F l n om om,aC,eb,aC] at e
 cases b with
 | false=>grind
 | true=>
  refine⟨eb,?_⟩
  cases hr:(jo l n).1.lq with
  | true=>grind
  | false=>
   rw [hr] at e;by_cases h4:4096<v.length
   ·grind
   rw [cf om,aK,aC] at e
   cases h5:(cond (!(jo l n).2) (decide (128<=(l.length:Int))) false) with
   | true=>grind
   | false=>
    rw [h5,OQ F l _ om om] at e;cases e;exact get_mem (aht _ h.2) rfl
theorem alD(F:Nat){l:J bC}(h:GA l)(n:Bs)(hF:1000<F)(h1:eY F n=some true)(h2:(jo l n).2=true){r:J bC×Int}(e:og F l n true false=some r):r.2=0:=by
 have hl:=h.len;unfold og at e;rw [h1,aC,ku,aS,ya F l n om om,aC,h2,ku,aS,aC,aK,aC,aK,aC,OQ F l _ om om] at e;cases e;rfl
theorem acX(F:Nat)(fl:J bu){s:aX}(h:nF s)(hs:stop s=false)(n v:Bs)(hF:1000<F):T2 (RA fl) (ji F n v (gO fl s)) (hU F n v s):=by
 have hA:GA s.ck.bN:=⟨h.1.1.1,h.2.1⟩;obtain⟨r,hr,e1,e2⟩:=ap3 F hA n v hF;unfold ji hU;rw [vS,aC,hs,e1,show GF F (gO fl s).ck.bN n v=some r from e2,aC,aC];have go:∀l:J bC,GA l->T2 (RA fl) (cond ((0:Int) != 0) ((dP F 0 (gO fl s)).bind fun x5=>some (x5.1,x5.2)) (some (true,{gO fl s with ck:={(gO fl s).ck with bN:=l}}))) (some {s with ck:={s.ck with bN:=l}}):=fun l hl=>T2.ok ⟨⟨⟨⟨hl.1,h.1.1.2⟩,h.1.2⟩,hl.2,h.2.2⟩,.inl ⟨hs,rfl⟩⟩;by_cases h0:r.2=0
 ·rw [h0]
  show T2 _ (((cond ((mR .i64 s.ck.iA 32) != 0) ((Db F r.1 n true false).bind fun x4=>some (x4.1,x4.2)) (some (r.1,0)):O (J bC×Int)).bind _)) ((cond ((mR .i64 s.ck.iA 32) != 0) ((og F r.1 n true false).bind fun x5=>some x5.1) (some r.1):O (J bC)).bind _)
  cases hb:((mR .i64 s.ck.iA 32) != 0) with
  | false=>exact go r.1 hr
  | true=>
   obtain⟨q,hq,e3,e4⟩:=aoT F hr n true false hF;obtain⟨k1,k2⟩:=ajz F hA n v hF e1 h0;have hq0:=alD F hr n hF k1 k2 e3
   simp_all
 ·have hne:(r.2 != 0)=true:=by simpa using h0
  have aib:(r.2==0)=false:=by simpa using h0
  rw [aib,aS,aC,aS,aC];rw [hne,tT];have:=failed (fl:=fl) (m:=[]) hs h0;exact T2.ok ⟨Lq h _ _,.inr ⟨this.1,rfl,this.2⟩⟩
theorem ap8(F:Nat)(fl:J bu){s:aX}(h:nF s)(hs:stop s=false)(x:TPart)(m:cM)(p:dh)(hm:m.fq=p.fq)(hF:1000<F):T2 (RR fl (RB 1)) (mo F x m (gO fl s)) ((pT F x.fText s).bind fun x7=>(ez F p).bind fun x8=>some ([aH.mk x7.1 x8],x7.2)):=by
 obtain⟨⟨hE,hA,hL,u,hu,hul⟩,xh⟩:=h;have hv:dX F m=ez F p:=by unfold dX ez;rw [hm]
 obtain⟨c,hc⟩:=Pm F p;unfold mo pT;rw [hv,hc,hu];have hx:(gO fl s).ek=s.ek.drop u:=by unfold gO;simp_all
 rw [hx];by_cases hk:u<s.ek.length
 ·have hd:s.ek.drop u=s.ek[u]::s.ek.drop (u+1):=MB hk
  have e0:(((s.ek.drop u).length:Int)==0)=false:=by grind
  have e1:sl (s.ek.drop u) 1 ((s.ek.drop u).length:Int)=s.ek.drop (u+1):=by
   grind [sl,Int.toNat_natCast,List.take_length,List.drop_drop]
  have e2:(s.ek.drop u).getD 0 BA=s.ek[u]:=by rw [hd];rfl
  have hln:0<(s.ek.drop u).length:=by grind
  rw [e0,aS,sx om,bR om om,e1,e2,cf om,bR om om,bK,gd hk];have ha:=hA _ (kz hk);generalize s.ek[u]=a at ha⊢
  have key:T2 (fun (t:Bs)(y:Bs×aX)=>t.length<=60/\y=(t,{s with fused:=(((u+1:Nat)):Int),jD:=a.fH})) (rj F a.fText [10]) (bV (σ:=Int) (R:=Bs×aX) (fun bt x1=>
    (cond (decide (0<x1))
    (rq ((decide (0<=aB (x1-1)))&&(decide (aB (x1-1)<((a.fText).length:Int)))) (some (((a.fText.getD (Int.toNat (aB (x1-1))) 0).toNat:Int)==10)))
    (some false):Option Bool).bind fun x3=>
    cond x3
    (bt (aB (x1-1)))
    (rq ((decide (0<=x1))&&(decide (x1<=(a.fText.length:Int)))) (some (sl a.fText 0 x1,{s with fused:=aB ((u:Int)+1),jD:=a.fH})))) F (a.fText.length:Int)):=by
   have fin:∀k:Nat,k<=a.fText.length->T2 (fun (t:Bs)(y:Bs×aX)=>t.length<=60/\y=(t,{s with fused:=(((u+1:Nat)):Int),jD:=a.fH})) (some (a.fText.take k)) (rq ((decide (0<=(k:Int)))&&(decide ((k:Int)<=(a.fText.length:Int)))) (some (sl a.fText 0 (k:Int),{s with fused:=aB ((u:Int)+1),jD:=a.fH}))):=fun k hk=>by
    grind [T2.qr,jO,T2.ok,List.length_take,bh,sl,Int.toNat_natCast]
   unfold rj;by_cases hz:a.fText=[]
   ·rw [hz] at fin⊢
    obtain⟨f,rfl⟩:∃f,F=f+1:=⟨F-1,om⟩;exact fin 0 (eo _)
   rw [show (a.fText==[])=false from by simpa using hz];show T2 _ ((nD F a.fText 10).bind fun x3=>some x3) _;have ret:∀x:Option Bs,(x.bind fun x3=>some x3)=x:=fun x=>by cases x<;>rfl
   rw [ret];unfold nD;refine T2.lp (fun (t:Bs)(i:Int)=>∃k:Nat,i=(k:Int)/\k<=a.fText.length/\t=a.fText.take k) (fun t=>t.length) ⟨_,rfl,eo _,by rw [Bl]⟩ om ?_;rintro t i ⟨k,rfl,h1,rfl⟩ r1 r2 hrc;have hlk:(a.fText.take k).length=k:=List.length_take_of_le h1;rw [hlk];by_cases h0:0<k
   ·rw [w5 om om,cO om,bR om om,cO om,bR om om,aC,bR om om,aC,bK]
    have eg:(a.fText.take k).getD (k-1) 0=a.fText.getD (k-1) 0:=by grind
    rw [eg];refine T2.cb (fun _=>?_) fun _=>fin k h1
    grind [sl,Int.toNat_natCast,Nat.min_eq_left,List.length_take]
   grind
  refine T2.bd key fun t y ⟨ht,hy⟩=>?_;subst hy;rw [aC,aC];refine T2.ok ⟨⟨⟨hE,hA,hL,u+1,rfl,hk⟩,xh⟩,RB.one om (by grind),.inl ⟨hs,?_⟩⟩;unfold gO
  grind
 ·have e0:(((s.ek.drop u).length:Int)==0)=true:=by simp_all
  rw [e0,bq,cO om,aC,aC];obtain⟨s1,s2⟩:=acW hs;refine T2.ok ⟨⟨⟨hE,hA,hL,u,rfl,hul⟩,xh.1,fun h=>nomatch h⟩,RB.one om (fO _),.inr ⟨?_,rfl,.inr ⟨s1,rfl,rfl,rfl,rfl⟩,rfl⟩⟩;show (s.fe != 0||true)=true;rw [XH]
theorem vm(k v q z:Bs)(m:J (Bs×Bs)):fQ cK (jq cK m k v) q z=if k=q then v else fQ cK m q z:=by
 unfold jq fQ cK
 cases ha:m.any fun p=>p.1==k with
 | false=>
  grind
 | true=>
  rw [bq]
  have hf:((fun p=>p.1==q) ∘ fun p=>bif p.1==k then (k,v) else p)=fun p=>p.1==q:=by
   grind
  cases e:m.find? fun p=>p.1==q with
  | none=>
   grind
  | some p=>
   grind
def sw(l:J bC):J bX:=l.flatMap fun v=>cond v.cE [bX.mk v.fName v.bL] []
def DM(b:J bX):J (Bs×Bs):=b.foldl (fun m x=>jq cK m x.fName x.bL) []
theorem ajA(l:J bC){k:Nat}(h:k<l.length):sw (l.take (k+1))=sw (l.take k)++cond l[k].cE [bX.mk l[k].fName l[k].bL] []:=by
 unfold sw;grind [List.take_succ_eq_append_getElem]
theorem alE{l:J bC}{b:bX}(h:b∈sw l):∃v∈l,b=bX.mk v.fName v.bL:=by
 unfold sw at h
 grind
theorem VP:∀l:J bC,(sw l).length<=l.length
 | []=>eo _
 | v::l=>by
  have:=VP l;unfold sw at this⊢
  grind
theorem alF{l:J bC}(h:uw l):(sw l).Pairwise fun a b=>a.fName<b.fName:=by
 induction l with
 | nil=>exact .nil
 | cons v l ih=>
  obtain⟨h1,h2⟩:=wV.1 h;unfold sw
  grind
theorem alG{l:J bC}(h:GV l):CS (sw l):=fun b hb=>by
 obtain⟨v,hv,rfl⟩:=alE hb;exact h.2 v hv
theorem alH{b:J bX}(h:b.Pairwise fun x y=>x.fName<y.fName)(hb:CS b):K.sI (DM b)=b:=by
 have hE:=K.Gi hb;refine Va (f:=fun x:bX=>x.fName) (K.Ve hE.nd) h fun x=>?_
 have key:∀(k:J bX)(m:J (Bs×Bs)),(k.Pairwise fun x y=>x.fName<y.fName)->∀q:Bs,fQ cK (k.foldl (fun m x=>jq cK m x.fName x.bL) m) q []=(match k.find? fun x=>x.fName==q with|some x=>x.bL|none=>fQ cK m q []):=by
  intro k
  induction k with
  | nil=>intro m _ q;rfl
  | cons a k ih=>
   intro m hk q;obtain⟨h1,h2⟩:=wV.1 hk;rw [Dk,ih _ h2 q,MA]
   cases e:k.find? fun x=>x.fName==q with
   | some y=>
    grind
   | none=>
    cases hq:(a.fName==q) with
    | true=>simp_all [uh,vm,if_pos]
    | false=>simp_all [vm,if_neg]
 have kk:∀(k:J bX)(m:J (Bs×Bs))(q:Bs),q∈(k.foldl (fun m x=>jq cK m x.fName x.bL) m).map (·.1)↔q∈m.map (·.1)\/∃x∈k,x.fName=q:=by
  intro k
  induction k with
  | nil=>intro m q;simp
  | cons a k ih=>
   grind [yh,List.mem_cons_self,List.mem_cons_of_mem]
 have fnd:∀y∈b,b.find? (fun x=>x.fName==y.fName)=some y:=fun y hy=>by
  cases e:b.find? fun x=>x.fName==y.fName with
  | none=>grind
  | some z=>
   have hq:(z.fName==y.fName)=true:=XI (p:=fun x:bX=>x.fName==y.fName) e
   grind [List.pairwise_iff_getElem,List.getElem_of_mem,Nat.lt_trichotomy,lJ]
 rw [K.BZ];constructor
 ·rintro⟨k,hk,rfl⟩
  rcases (kk b [] k).1 hk with h|⟨y,hy,rfl⟩
  ·cases h
  ·have:=key b [] h y.fName
   rw [fnd y hy] at this;unfold K.Bk;rw [show fQ cK (DM b) y.fName []=y.bL from this];exact hy
 ·intro hx
  refine⟨x.fName,(kk b [] _).2 (.inr ⟨x,hx,rfl⟩),?_⟩;have:=key b [] h x.fName;rw [fnd x hx] at this;unfold K.Bk;rw [show fQ cK (DM b) x.fName []=x.bL from this]
theorem aa2(m:J (Bs×Bs))(k:Bs):Du cK m k=true↔k∈m.map (·.1):=by
 simp_all [Du,cK,Ui,yx]
theorem T2.lpe{A B σ τ ι:Type}{Q:A->B->Prop}{b1:(σ->O A)->σ->O A}{b2:(τ->O B)->τ->O B}(P:σ->τ->Prop)(m:σ->Nat)(E:ι->τ->Prop)(m2:τ->Nat)(R:ι->B->Prop){F:Nat}{s:σ}{t:τ}(h0:P s t)(hF:m s<F)
  (hs:∀s t,P s t->∀r1 r2,(∀s' t',P s' t'->m s'<m s->T2 Q (r1 s') (r2 t'))->(∀i t',E i t'->m2 t'<m s->aA (R i) (r2 t'))->T2 Q (b1 r1 s) (b2 r2 t))
  (he:∀i t,E i t->∀r2,(∀t',E i t'->m2 t'<m2 t->aA (R i) (r2 t'))->aA (R i) (b2 r2 t)):T2 Q (bV b1 F s) (bV b2 F t):=by
 induction F generalizing s t with
 | zero=>omega
 | succ F ih=>exact hs s t h0 (bV b1 F) (bV b2 F) (fun s' t' h1 h2=>ih h1 om) fun i t' h1 h2=>aA.lp (E i) m2 h1 om (he i)
theorem T2.map{A B D:Type}{Q:A->B->Prop}{x:O A}{y:O D}(f:D->B)(h:T2 (fun a d=>Q a (f d)) x y):T2 Q x (y.bind fun d=>some (f d)):=by
 obtain⟨a,d,h,e1,rfl⟩:=h;exact⟨a,f d,h,e1,rfl⟩
theorem alI(F:Nat)(e:Int):DI F e=Av F e:=rfl
def RV(fl:J bu)(a:Bs×Bool×aM)(b:Bs×aX):Prop:=RR fl (fun t=>t.length<=10000000) a b/\(stop b.2=false->b.1.length<=4096)
theorem akl(F:Nat){s:aX}(h:stop s=true)(n v:Bs):hU F n v s=some s:=by
 unfold hU;simp_all [vS,aC]
theorem anx{F:Nat}(hN:NC<=F)(hF:100000000<=F)(fl:J bu)(g1:dV)(g2:iy)(x:TPart)(m:cM)(p:dh)(hm:m.fq=p.fq)(s:aX)
  (hv:T2 (RV fl) (g1.2.2.2.2.1 x.fParts (cM.mk true false 0) (gO fl s)) (g2.2.2.2.1 x.fParts true s)) :
  T2 (RR fl (RB 1)) (mI F g1 x m (gO fl s)) ((uq F g2 x.fParts s).bind fun x9=>(ez F p).bind fun bW=>some ([aH.mk x9.1 bW],x9.2)):=by
 obtain⟨c,hc⟩:=Pm F p;have iZ:dX F m=some c:=by rw [<-hc];unfold dX ez;rw [hm]
 unfold mI uq;rw [hc];obtain⟨⟨t0,ok,x'⟩,⟨t,s'⟩,⟨⟨hg,hi,hh⟩,hlen⟩,e1,e2⟩:=hv;rw [e1,e2];dsimp only at hg hi hh hlen;refine T2.map (fun x9:Bs×aX=>([aH.mk x9.1 c],x9.2)) ?_;rw [aC,aC];dsimp only;rw [vS,aC];rcases hh with⟨hs,hh⟩|⟨hs,hok,afw,-⟩
 ·cases hh
  have ht:=hlen hs;have hV:=hg.1.1.1;have hvl:=hV.1;rw [hs,ku,aS,aS,show (gO fl s').ck=s'.ck from rfl];have hb:=alG hV;have Jr:=VP s'.ck.bN;have hba:=alF hg.2.1;refine T2.lp (fun (z:J bX×Int×J (Bs×Bs))(y:J bX×Int)=>∃k:Nat,k<=s'.ck.bN.length/\z=(sw (s'.ck.bN.take k),(k:Int),DM (sw (s'.ck.bN.take k)))/\y=(sw (s'.ck.bN.take k),(k:Int))) (fun z=>s'.ck.bN.length-z.2.1.toNat) ⟨0,fO _,rfl,rfl⟩ (by show s'.ck.bN.length-0<F;omega) ?_;rintro _ _ ⟨k,hk,rfl,rfl⟩ q1 q2 hrc;dsimp only at hrc⊢;have hkl:(sw (s'.ck.bN.take k)).length<=k:=by have:=VP (s'.ck.bN.take k);rw [MC] at this;omega
  by_cases hk1:k<s'.ck.bN.length
  ·have nx:=hrc _ _ ⟨k+1,hk1,rfl,rfl⟩ (by grind)
   have es:=ajA s'.ck.bN hk1;rw [cO om,cO om];refine T2.ql (jO om om) (T2.qr (jO om om) ?_);rw [bh om,bK,gd hk1];have cp:∀(v:bX),((decide ((sw (s'.ck.bN.take k)).length+([v]:J bX).length<=9223372036854775807))&&(decide (((sw (s'.ck.bN.take k)).length+([v]:J bX).length)*32<=140737488355328)))=true:=fun v=>nJ (by grind) de;refine T2.cb (fun mc=>?_) fun mc=>?_
   ·rw [mc,bq] at es
    rw [es] at nx;refine T2.ql (cp _) (T2.qr (cp _) ?_);unfold DM at nx;rw [RE] at nx;exact nx
   simp_all
  ·rw [cf om,cf om,Iw om]
   have hE:=alH hba hb
   have hkeys:∀n:Bs,Du cK (DM (sw s'.ck.bN)) n=true↔∃a∈sw s'.ck.bN,a.fName=n:=fun n=>by
    rw [aa2];have:∀x,x∈sw s'.ck.bN↔∃k,k∈(DM (sw s'.ck.bN)).map (·.1)/\x=K.Bk (DM (sw s'.ck.bN)) k:=fun x=>by rw [<-K.BZ,hE]
    constructor
    ·intro h;exact⟨_,(this _).2 ⟨n,h,rfl⟩,rfl⟩
    ·rintro⟨a,ha,rfl⟩
     obtain⟨k,h1,h2⟩:=(this a).1 ha;rw [h2];exact h1
   have Yo:∀n,pG F (sw s'.ck.bN) n=some (fQ cK (DM (sw s'.ck.bN)) n []):=fun n=>by
    rw [K.NZ F _ n om om,<-K.N0,hE]
   have akm:∀n,Du cK (DM (sw s'.ck.bN)) n=false->fQ cK (DM (sw s'.ck.bN)) n []=[]:=fun n h=>by
    grind [KW,aa2]
   generalize DM (sw s'.ck.bN)=mp at hkeys Yo akm⊢;generalize sw s'.ck.bN=b at hb Jr hkeys Yo⊢;obtain⟨r,⟨hR,hL,hne⟩,hr⟩:=VM t0 b ht om hb;rw [(hr F hN).1,(hr F hN).2,aC,aC];refine T2.cb (fun he=>?_) fun he=>?_
   ·have he0:r.2.2≠0:=by simpa using he
    obtain⟨w,hw,ew⟩:=ajx F r.2.2;rw [alI,ew,aC,aC];have l1:decide (t0.length+([58,32]:Bs).length<=9223372036854775807)=true:=dQ (by show t0.length+2<=_;omega);have l2:decide ((t0++([58,32]:Bs)).length+w.length<=9223372036854775807)=true:=decide_eq_true (by grind);refine T2.ql l1 (T2.qr l1 (T2.ql l2 (T2.qr l2 ?_)));rw [J8,tT];exact T2.ok (RR.err hg (RB.one om (fO _)) hs de rfl)
   ·refine T2.lpe (fun (z:Int×aM)(y:Int×aX)=>∃(k:Nat)(u:aX),k<=r.2.1.length/\nF u/\stop u=false/\z=((k:Int),gO fl u)/\y=((k:Int),u)) (fun z=>r.2.1.length-z.1.toNat) (fun (u:aX)(y:Int×aX)=>stop u=true/\y.2=u/\∃k:Nat,y.1=(k:Int)/\k<=r.2.1.length) (fun y=>r.2.1.length-y.1.toNat) (fun u (y:Bs×aX)=>y.2=u/\y.1.length<=60) ⟨0,s',fO _,hg,hs,rfl,rfl⟩ (by show r.2.1.length-0<F;omega) ?_ ?_
    ·rintro _ _ ⟨k,u,hk,hu,hsu,rfl,rfl⟩ q1 q2 hrc hex
     dsimp only at hrc hex⊢;by_cases hk1:k<r.2.1.length
     ·have hm:r.2.1.length-Int.toNat ((k+1:Nat):Int)<r.2.1.length-Int.toNat (k:Int):=om
      rw [cO om,cO om,bR om om,bR om om,bR om om,bh om,bK,gd hk1,Yo,aC];have hc1:=hne _ (kz hk1);generalize r.2.1[k]=a at hc1⊢
      have go:T2 (fun a d=>RR fl (RB 1) a ([aH.mk d.1 c],d.2)) ((ji F a.fName a.bL (gO fl u)).bind fun bW=>cond (!bW.1) (some ([],false,bW.2)) (q1 (((k+1:Nat):Int),bW.2)))
        ((hU F a.fName a.bL u).bind fun fT=>q2 (((k+1:Nat):Int),fT)):=by
       refine T2.bd (acX F fl hu hsu a.fName a.bL om) ?_;rintro⟨ok,x2⟩ u2 ⟨hu2,⟨h1,h2⟩|⟨h1,h2,h3⟩⟩
       ·grind
       ·dsimp only at h2 h3
        subst h2;rw [uL,bq];obtain⟨y,⟨hy1,hy2⟩,hy⟩:=hex u2 (((k+1:Nat):Int),u2) ⟨h1,rfl,k+1,rfl,hk1⟩ hm;rw [hy];refine T2.ok ⟨?_,RB.one om om,.inr ⟨?_,rfl,?_,rfl⟩⟩
        ·show nF y.2;rw [hy1];exact hu2
        ·show stop y.2=true;rw [hy1];exact h1
        ·show Fin x2 y.2;rw [hy1];exact h3
      cases ap9:Du cK mp a.fName with
      | true=>
       rw [bq,aC]
       cases qh:(fQ cK mp a.fName []==a.bL) with
       | true=>grind
       | false=>
        rw [aS,uL,bq,bR om om,bR om om]
        exact go
      | false=>
       rw [aS,aC,aS,akm _ ap9]
       have hnil:a.bL≠[]:=hc1.resolve_right fun h=>by
        grind
       have:(([]:Bs)==a.bL)=false:=by grind
       rw [this,uL,bq,bR om om,bR om om];exact go
     ·rw [cf om,cf om,afv F om hR,K.JL F om hR,aC,aC,iZ]
      have:=K.wB hR;exact T2.ok ⟨hu,RB.one om (by show (Lib.itoa r.1).length<=_;omega),.inl ⟨hsu,rfl⟩⟩
    ·rintro u ⟨_,_⟩ ⟨h1,rfl,k,rfl,hk⟩ q2 hrc
     dsimp only at h1 hrc⊢;refine aA.cd (fun h=>?_) fun _=>?_
     ·have hm:r.2.1.length-Int.toNat ((k+1:Nat):Int)<r.2.1.length-Int.toNat (k:Int):=om
      rw [bR om om,bR om om,bh om,bK,Yo,aC];refine aA.cb (fun _=>?_) fun _=>hrc _ ⟨h1,rfl,k+1,rfl,om⟩ hm
      grind [bR,akl]
     ·rw [K.JL F om hR]
      exact aA.ok ⟨rfl,K.wB hR⟩
 ·have hok:ok=false:=hok
  subst hok;rw [hs,bq,uL,bq];exact T2.ok ⟨hg,RB.one om (fO _),.inr ⟨hs,rfl,afw,rfl⟩⟩
def COk(m:cM)(p:dh):Prop:=m.fq=false->m.mw=cond p.B1 2 0
def Mo(m:cM)(p:dh):Prop:=m.fq=p.fq/\m.jV=p.jV
def JR(m:cM)(p:dh)(a b:J aH):Prop:=a.map (·.fText)=b.map (·.fText)/\(COk m p->a=b)
def RJ(fl:J bu)(k:Nat)(m:cM)(p:dh)(a:J aH×Bool×aM)(b:J aH×aX):Prop:=nF b.2/\RB k b.1/\((stop b.2=false/\a.2=(true,gO fl b.2)/\JR m p a.1 b.1)\/(stop b.2=true/\a.2.1=false/\Fin a.2.2 b.2/\a.1=[]))
theorem JR.eq{m:cM}{p:dh}(a:J aH):JR m p a a:=⟨rfl,fun _=>rfl⟩
theorem RR.j{fl:J bu}{k j:Nat}{m:cM}{p:dh}{a:J aH×Bool×aM}{b:J aH×aX}(h:RR fl (RB k) a b)(hk:k<=j):RJ fl j m p a b:=by
 obtain⟨h1,h2,⟨h3,h4⟩|h3⟩:=h
 ·exact⟨h1,h2.mono hk,.inl ⟨h3,by rw [h4],by rw [h4];exact JR.eq _⟩⟩
 ·exact⟨h1,h2.mono hk,.inr h3⟩
theorem RJ.rr{fl:J bu}{k:Nat}{m:cM}{p:dh}{a:J aH×Bool×aM}{b:J aH×aX}(h:RJ fl k m p a b)(hc:COk m p):RR fl (RB k) a b:=by
 obtain⟨h1,h2,⟨h3,h4,h5⟩|h3⟩:=h
 ·exact⟨h1,h2,.inl ⟨h3,Prod.ext (h5.2 hc) h4⟩⟩
 ·exact⟨h1,h2,.inr h3⟩
theorem RJ.go{fl:J bu}{k:Nat}{m:cM}{p:dh}{r:J aH}{s:aX}(h:nF s)(hi:RB k r)(hs:stop s=false):RJ fl k m p (r,true,gO fl s) (r,s):=⟨h,hi,.inl ⟨hs,rfl,JR.eq _⟩⟩
theorem akn(F:Nat){m:cM}{p:dh}(h:m.fq=p.fq):dX F m=ez F p:=by unfold dX ez;rw [h]
def X1(fl:J bu)(F n:Nat):Prop:=∀(N:Nat)(l:J TPart)(m:cM)(p:dh)(s:aX),Mo m p->nF s->stop s=false->eN l<=1000->9*eN l+9<=n->6*eN l+6<=N->T2 (RJ fl (eN l) m p) ((aV F n).1 l m (gO fl s)) ((bO F N).1 l p s)
def X2(fl:J bu)(F n:Nat):Prop:=∀(N:Nat)(x:TPart)(m:cM)(p:dh)(s:aX),Mo m p->nF s->stop s=false->wP x<=1000->9*wP x+8<=n->6*wP x+5<=N->T2 (RJ fl (wP x) m p) ((aV F n).2.1 x m (gO fl s)) ((bO F N).2.1 x p s)
def XV(fl:J bu)(F n:Nat):Prop:=∀(N:Nat)(l:J TPart)(m:cM)(q:Bool)(s:aX),m.fq=q->nF s->stop s=false->eN l<=1000->9*eN l+10<=n->6*eN l+7<=N->T2 (fun a b=>RV fl a b/\b.1.length<=5000*eN l) ((aV F n).2.2.2.2.1 l m (gO fl s)) ((bO F N).2.2.2.1 l q s)
section
variable {F n : Nat} {fl : J bu}
theorem alJ(hF:100000000<=F)(h2:X2 fl F n):X1 fl F (n+1):=by
 intro N l m p s hm hs hst hl hn hN;obtain⟨N,rfl⟩:∃k,N=k+1:=⟨N-1,om⟩;have hll:=Fm l;show T2 _ (wK F (aV F n) l m (gO fl s)) (AY F (bO F N) l p s)
 refine T2.lpe (fun (z:J aH×Int×aM)(y:J aH×Int×aX)=>∃k:Nat,k<=l.length/\z.2=((k:Int),gO fl y.2.2)/\y.2.1=(k:Int)/\JR m p z.1 y.1/\RB (eN (l.take k)) y.1/\nF y.2.2/\stop y.2.2=false) (fun z=>l.length-z.2.1.toNat)
  (fun (u:aX×J aH)(y:J aH×Int×aX)=>stop u.1=true/\y.1=u.2/\y.2.2=u.1/\∃k:Nat,y.2.1=(k:Int)/\k<=l.length) (fun y=>l.length-y.2.1.toNat) (fun u (y:J aH×aX)=>y=(u.2,u.1)) ⟨0,Nat.zero_le _,rfl,rfl,JR.eq _,RB.nil,hs,hst⟩ (by grind) ?_ ?_
 ·rintro⟨a,i,x⟩ ⟨o,i',s⟩ ⟨k,h3,h4,h5,h6,h7,h8,h9⟩ q1 q2 hrc hex
  dsimp only at h4 h5 h6 h7 h8 h9 hrc hex⊢;cases h4;subst h5;have hwk:=FL l k;rw [vS,h9];have jl:a.length=o.length:=by have:=congrArg List.length h6.1;simpa using this
  by_cases hk:k<l.length
  ·have hwm:=Us hk
   have ha:=R1 hk;have VW:l.length-Int.toNat ((k+1:Nat):Int)<l.length-Int.toNat (k:Int):=om;rw [cO om,cO om,aC,aC,uL,bq,bR om om,bR om om,bh om,bK,TPart.eta];refine T2.bd (h2 N (l.getD k jZ) m p s hm h8 h9 om om om) ?_;rintro⟨r,ok,x'⟩ ⟨r',s'⟩ ⟨g1,g2,g3⟩;dsimp only at g1 g2 g3⊢;have h10:=RB.app h7 g2;rw [<-ha] at h10;have zA:=FL l (k+1);have h11:=h10.1;rw [ug] at h11;have sz:∀a b:Nat,a+b<=26*1000->((decide (a+b<=9223372036854775807))&&(decide ((a+b)*24<=140737488355328)))=true:=fun a b h=>jO om om;rcases g3 with⟨k1,k2,k3⟩|⟨k1,k2,k3,-⟩
   ·cases k2
    have jr:r.length=r'.length:=by have:=congrArg List.length k3.1;simpa using this
    refine T2.ql (sz _ _ om) (T2.qr (sz _ _ om) (hrc _ _ ⟨k+1,hk,rfl,rfl,⟨?_,fun hc=>by rw [h6.2 hc,k3.2 hc]⟩,h10,g1,k1⟩ VW));rw [Kb,Kb,h6.1,k3.1]
   ·subst k2
    refine T2.qr (sz _ _ om) ?_;obtain⟨y,rfl,hy⟩:=hex (s',o++r') (o++r',((k+1:Nat):Int),s') ⟨k1,rfl,rfl,k+1,rfl,hk⟩ VW;rw [hy];exact T2.ok ⟨g1,h10.mono om,.inr ⟨k1,rfl,k3,rfl⟩⟩
  ·rw [cf om,cf om,aC,aS]
   rw [Iw om] at h7;exact T2.ok ⟨h8,h7,.inl ⟨h9,rfl,h6⟩⟩
 simp_all [vS,aA.ok]
theorem VQ{a b:J aH}(h:a.map (·.fText)=b.map (·.fText)):zB a=zB b:=by
 unfold zB
 grind
theorem acY{a b:J aH}(h:a.map (·.fText)=b.map (·.fText)):cz a=cz b:=by rw [<-Fq,<-Fq,VQ h]
theorem acZ(hF:100000000<=F)(h1:X1 fl F n):XV fl F (n+1):=by
 intro N l m q s hm hs hst hl hn hN;obtain⟨N,rfl⟩:∃k,N=k+1:=⟨N-1,om⟩;show T2 _ (wL F (aV F n) l m (gO fl s)) (D5 F (bO F N) l q s);refine T2.bd (h1 N l {m with jV:=false} (dh.mk q false false) s ⟨hm,rfl⟩ hs hst hl om om) ?_;rintro⟨r,ok,x'⟩ ⟨r',s'⟩ ⟨g1,g2,g3⟩;dsimp only at g1 g2 g3⊢;have z1:=g2.1;have z2:=g2.2;have e18:=aa0 F r' om om om;have etx:(r'.flatMap fun r=>r.fText)=zB r':=rfl;rw [e18];have hlen:=Fq r';rcases g3 with⟨k1,k2,k3⟩|⟨k1,k2,k3,-⟩
 ·cases k2
  have jr:r.length=r'.length:=by have:=congrArg List.length k3.1;simpa using this
  have js:=acY k3.1;rw [ku,aS,FP F r om om om,VQ k3.1];refine T2.cb (fun h=>?_) fun h=>T2.ok ⟨⟨⟨g1,by grind,.inl ⟨k1,rfl⟩⟩,fun _=>?_⟩,by simp_all⟩
  ·rw [tT]
   refine T2.ok ⟨⟨RR.err g1 (by grind) k1 de rfl,fun h=>?_⟩,by simp_all⟩
   grind [ahq]
  grind
 ·subst k2
  rw [uL,bq,tT,k1,bq];refine T2.cr (fun _=>T2.ok ?_) fun _=>T2.ok ?_
  all_goals exact⟨⟨⟨g1,by grind,.inr ⟨k1,rfl,k3,rfl⟩⟩,fun h=>by rw [k1] at h;cases h⟩,by simp_all⟩
end
theorem aA.eqv{R:Type}{x:O R}{v:R}(h:aA (fun r=>r=v) x):x=some v:=by
 obtain⟨r,h,e⟩:=h;rw [e,h]
def qA(o:J aH)(r:aH):J aH:=cond (r.fText==[]) o (cond (decide (0<o.length)&&((o.getD (o.length-1) dm).b8==r.b8)) (o.set (o.length-1) (aH.mk ((o.getD (o.length-1) dm).fText++r.fText) (o.getD (o.length-1) dm).b8)) (o++[r]))
def nG(l:J aH):J aH:=l.foldl qA []
theorem aa3:∀(l:J aH)(k:Nat)(t:Bs)(c:Int),k<l.length->cz (l.set k (aH.mk ((l.getD k dm).fText++t) c))=cz l+t.length
 | [],k,t,c,h=>absurd h (adb _)
 | a::l,0,t,c,h=>by
  unfold cz
  grind
 | a::l,k+1,t,c,h=>by
  have:=aa3 l k t c (by simpa using h);show cz (a::l.set k (aH.mk ((l.getD k dm).fText++t) c))=_;unfold cz at this⊢;simp only [lD,XJ];omega
theorem ajB(o:J aH)(r:aH):cz (qA o r)=cz o+r.fText.length/\(qA o r).length<=o.length+1:=by
 unfold qA
 cases h1:(r.fText==[]) with
 | true=>
  simp_all
 | false=>
  cases h2:(decide (0<o.length)&&((o.getD (o.length-1) dm).b8==r.b8)) with
  | true=>
   grind [aa3,List.length_set]
  | false=>
   refine⟨?_,by simp_all⟩;show cz (o++[r])=_;rw [BF];simp [cz]
theorem Lr:∀(l o:J aH),cz (l.foldl qA o)=cz o+cz l/\(l.foldl qA o).length<=o.length+l.length
 | [],o=>⟨by simp [cz],si⟩
 | r::l,o=>by
  obtain⟨h1,h2⟩:=Lr l (qA o r);obtain⟨h3,h4⟩:=ajB o r;rw [Dk];refine⟨by rw [h1,h3];simp [cz];omega,bE⟩
theorem ac0(F:Nat)(l:J aH){R:Type}(f:J aH->R)(hF:l.length<F)(h1:l.length<=1000000)(h2:cz l<=100000000):
  bV (σ:=Int×(J aH)) (R:=R) (fun gG x2=>
   cond (decide (x2.1<(l.length:Int)))
   (rq ((decide (0<=x2.1))&&(decide (x2.1<(l.length:Int)))) (cond (((l.getD (Int.toNat x2.1) dm).fText)==[])
   (gG (aB (x2.1+1),x2.2))
   ((cond (decide (0<=aB ((x2.2.length:Int)-1)))
   (rq ((decide (0<=aB ((x2.2.length:Int)-1)))&&(decide (aB ((x2.2.length:Int)-1)<(x2.2.length:Int)))) (some (((x2.2.getD (Int.toNat (aB ((x2.2.length:Int)-1))) dm).b8)==((l.getD (Int.toNat x2.1) dm).b8),x2.2)))
   (some (false,x2.2)):O (Bool×(J aH))).bind fun x4=>
   cond x4.1
   (rq ((decide (0<=aB ((x2.2.length:Int)-1)))&&(decide (aB ((x2.2.length:Int)-1)<(x4.2.length:Int)))) (rq (decide (((x4.2.getD (Int.toNat (aB ((x2.2.length:Int)-1))) dm).fText).length+((l.getD (Int.toNat x2.1) dm).fText).length<=9223372036854775807)) (rq ((decide (0<=aB ((x2.2.length:Int)-1)))&&(decide (aB ((x2.2.length:Int)-1)<(x4.2.length:Int)))) (gG (aB (x2.1+1),x4.2.set (Int.toNat (aB ((x2.2.length:Int)-1))) (aH.mk (((x4.2.getD (Int.toNat (aB ((x2.2.length:Int)-1))) dm).fText)++((l.getD (Int.toNat x2.1) dm).fText)) ((x4.2.getD (Int.toNat (aB ((x2.2.length:Int)-1))) dm).b8)))))))
   (rq ((decide (x4.2.length+([(l.getD (Int.toNat x2.1) dm)]:J aH).length<=9223372036854775807))&&(decide ((x4.2.length+([(l.getD (Int.toNat x2.1) dm)]:J aH).length)*24<=140737488355328))) (gG (aB (x2.1+1),x4.2++([(l.getD (Int.toNat x2.1) dm)]:J aH)))))))
   (some (f x2.2))) F (0,([]:J aH))=some (f (nG l)):=by
 refine aA.eqv ?_;refine aA.lp (fun z:Int×J aH=>∃k:Nat,z.1=(k:Int)/\k<=l.length/\z.2=nG (l.take k)) (fun z=>l.length-z.1.toNat) ⟨0,rfl,fO _,rfl⟩ (by simp_all) ?_;rintro⟨i,o⟩ ⟨k,q1,hk,q2⟩ rc hrc;dsimp only at q1 q2 hrc⊢;subst q1;refine aA.cd (fun h=>?_) fun h=>?_
 ·have hk:k<l.length:=om
  have hm:l.length-Int.toNat ((k+1:Nat):Int)<l.length-Int.toNat (k:Int):=om
  have es:nG (l.take (k+1))=qA o l[k]:=by
   unfold nG;rw [qB hk,RE,q2];rfl
  obtain⟨b1,b2⟩:=Lr (l.take k) [];rw [show (l.take k).foldl qA []=o from q2.symm] at b1 b2;have b3:=tU l k;have b5:=tU l (k+1);have b6:=p7 l k hk;have z0:cz ([]:J aH)=0:=rfl;simp only [Ka] at b2;have nx:∀o',o'=qA o l[k]->aA (fun r=>r=f (nG l)) (rc (((k+1:Nat):Int),o')):=fun o' ho=>hrc _ ⟨k+1,rfl,hk,by rw [es];exact ho⟩ hm;rw [bR om om,bh om,bK,gd hk];generalize l[k]=a at nx b6⊢;refine aA.cb (fun ha=>nx o (by unfold qA;rw [ha];rfl)) fun ha=>?_;by_cases h0:0<o.length
  ·have e1:aB ((o.length:Int)-1)=((o.length-1:Nat):Int):=by grind [bG]
   rw [e1,cO om,bR om om,bK,aC]
   refine aA.cb (fun hc=>?_) fun hc=>aA.rq (nJ (by grind) de) (nx _ (by
    unfold qA;grind))
   have hle:(o.getD (o.length-1) dm).fText.length<=cz o:=by
    have hlt:o.length-1<o.length:=om;rw [gd hlt];have:=p7 o (o.length-1) hlt
    grind
   refine aA.rq (jO om (by dsimp only;omega)) (aA.rq (decide_eq_true (by dsimp only;omega)) (aA.rq (jO om (by dsimp only;omega)) (nx _ ?_)));unfold qA;grind
  ·have e1:aB ((o.length:Int)-1)=-1:=by simp_all [bG]
   rw [e1,cf om,aC];exact aA.rq (nJ (by simp_all) de) (nx _ (by unfold qA;grind))
 simp_all [Iw,aA.ok]
def RPt(fl:J bu)(k:Nat)(a:J aH×Bool×aM)(b:J aH×aX):Prop:=nF b.2/\RB k b.1/\((stop b.2=false/\a=(nG b.1,true,gO fl b.2))\/(stop b.2=true/\a.2.1=false/\Fin a.2.2 b.2))
theorem ako(F:Nat)(t:Bs):uf F t=some ((t==[64])||(t==[42])):=by unfold uf;rw [aK];rfl
theorem alK(F:Nat)(o:Int)(c s:Bool)(v:Bs):AH F o c s v=rZ F o c s v:=by
 unfold AH rZ;simp only [aK,aC]
 grind
section
variable {F n : Nat} {fl : J bu}
theorem ahu(hF:100000000<=F)(h1:X1 fl F n)(N:Nat)(l:J TPart)(s:aX)(hs:nF s)(hst:stop s=false)(hl:eN l<=1000)(hn:9*eN l+9<=n)(hN:6*eN l+6<=N):
  T2 (RPt fl (eN l)) ((aV F (n+1)).2.2.2.2.2.2.1 l (gO fl s)) ((bO F N).1 l (dh.mk false false false) s):=by
 show T2 _ (oH F (aV F n) l (gO fl s)) _;unfold oH;obtain⟨⟨r,ok,x'⟩,⟨r',s'⟩,h,e1,e2⟩:=h1 N l (cM.mk false false 0) (dh.mk false false false) s ⟨rfl,rfl⟩ hs hst hl hn hN;have h:=h.rr (fun _=>rfl);rw [e1,e2,aC];obtain⟨g1,g2,⟨k1,k2⟩|⟨k1,k2,k3,k4⟩⟩:=h
 ·cases k2
  have z1:=g2.1;have z2:=g2.2;dsimp only at z1 z2⊢;rw [ac0 F _ (fun o=>(o,true,gO fl s')) om om om];exact T2.ok ⟨g1,g2,.inl ⟨k1,rfl⟩⟩
 ·have k4:=k4
  subst k2 k4;rw [ac0 F [] (fun o=>(o,false,x')) bE si (by simp [cz])];exact T2.ok ⟨g1,g2,.inr ⟨k1,rfl,k3⟩⟩
theorem ahv(hF:100000000<=F)(hv:XV fl F n)(N:Nat)(x:TPart)(m:cM)(p:dh)(s:aX)(hm:m.fq=p.fq)(hs:nF s)(hst:stop s=false)(hl:wP x<=1000)(hn:9*eN x.fParts+10<=n)(hN:6*eN x.fParts+7<=N):
  T2 (fun a b=>nF b/\stop b=true/\a.1=false/\Fin a.2 b) ((aV F (n+1)).2.2.2.2.2.2.2.2 x m (gO fl s)) ((bO F (N+1)).2.2.2.2.2 x p s):=by
 have hw:=Jk x;show T2 _ (oJ F (aV F n) x m (gO fl s)) (uu F (bO F N) x p s);unfold oJ uu;rw [aK,aC];have l1:decide (x.fText.length+([58,32]:Bs).length<=9223372036854775807)=true:=decide_eq_true (by grind);have bad:∀(t:Bs)(u:aX),nF u->stop u=false->nF (cond (stop u) u {u with fe:=32,fm:=t})/\stop (cond (stop u) u {u with fe:=32,fm:=t})=true/\Fin {gO fl u with fm:=t,yL:=32} (cond (stop u) u {u with fe:=32,fm:=t}):=fun t u hu hsu=>⟨Lq hu _ _,(failed (fl:=fl) hsu de).1,(failed hsu de).2⟩;by_cases h0:0<x.fParts.length
 ·rw [cO om]
  obtain⟨⟨t0,ok,x'⟩,⟨t,s'⟩,⟨⟨⟨hg,hi,hh⟩,hlen⟩,-⟩,e1,e2⟩:=hv N x.fParts m p.fq s hm hs hst om hn hN;rw [e2];rcases hh with⟨k1,k2⟩|⟨k1,k2,k3,k4⟩
  ·cases k2
   grind [T2.ql,T2.qr,J8,tT,T2.ok]
  ·subst k2
   grind [T2.qr,tT,T2.ok]
 ·rw [cf om,cf om]
  cases x.fColon with
  | true=>
   refine T2.ql (dQ (by show x.fText.length+27<=_;omega)) (T2.qr l1 (T2.qr (dQ (by rw [ug];show x.fText.length+2+25<=_;omega)) ?_))
   simp_all [J8,tT,T2.ok]
  | false=>
   refine T2.ql (dQ (by show x.fText.length+19<=_;omega)) (T2.qr l1 (T2.qr (dQ (by rw [ug];show x.fText.length+2+17<=_;omega)) ?_))
   simp_all [J8,tT,T2.ok]
end
def Ua(F:Nat):Prop:=∀(op:Int)(v:Bs)(l:J aH),6<=op->op<=9->v.length<=4096->l.length<=26000->cz l<=5000000 ->
 T2 (fun a b=>a=b/\b.length<=v.length) ((iK F (nG l)).bind fun p=>E8 F op v p) ((jL F l).bind fun p=>E2 F op v p)
theorem T2.bd2{A B C D X Y:Type}{Q:A->B->Prop}{P:C->D->Prop}{x:O X}{y:O Y}{f:X->O C}{g:Y->O D}{h:C->O A}{h':D->O B}(t:T2 P (x.bind f) (y.bind g))(k:∀a b,P a b->T2 Q (h a) (h' b)):T2 Q (x.bind fun a=>(f a).bind h) (y.bind fun b=>(g b).bind h'):=by
 rw [<-adi,<-adi];exact T2.bd t k
theorem aoZ{D X Y:Type}{y:O X}{g:X->O D}{h:D->O Y}{b:D}(e:(y.bind g)=some b):(y.bind fun b=>(g b).bind h)=h b:=by
 rw [<-adi,e];rfl
theorem pid{A B C:Type}(y:O (A×B×C)):(y.bind fun x=>some (x.1,x.2.1,x.2.2))=y:=by cases y<;>rfl
theorem anz{A B:Type}(y:O (A×B)):(y.bind fun x=>some (x.1,x.2))=y:=by cases y<;>rfl
theorem trB(o:Int):(cond (o==6) (o==6) (cond (o==7) (o==7) (cond (o==8) (o==8) (o==9))))=cond (decide (6<=o)) (decide (o<=9)) false:=by
 rw [cF]
 grind
theorem alL(F:Nat)(fl:J bu){s:aX}(h:nF s)(n v:Bs)(m:cM)(p:dh)(hm:Mo m p)(hv:v.length<=4096)(hF:1000<F):T2 (fun a b=>a=b/\RB 1 b) (mQ F n v m (gO fl s)) (lS F n v p s):=by
 obtain⟨r,hr,er⟩:=alC F h.1 n v p hv hF;refine⟨r,r,⟨rfl,hr⟩,?_,er⟩;rw [<-er];obtain⟨m1,m2⟩:=hm;unfold mQ lS;rw [ako,akn F m1,m1,m2,show (gO fl s).ck=s.ck from rfl];simp only [aK,aC];obtain⟨c,hc⟩:=Pm F p
 have e:cond (cond (!p.jV) true (!((n==[64])||(n==[42])))) true (cond (n==[42]) p.fq false)=cond (cond (!p.jV) true (cond (!(n==[64])) (!(n==[42])) false)) true (cond p.fq (n==[42]) false):=by
  grind
 rw [e]
 cases (cond (cond (!p.jV) true (cond (!(n==[64])) (!(n==[42])) false)) true (cond p.fq (n==[42]) false)) with
 | true=>rfl
 | false=>
  rw [aS];congr 1
  funext rc z
  cases hd:decide (z.2<(s.ck.cC.length:Int)) with
  | false=>rfl
  | true=>
   cases h0:decide (0<=z.2) with
   | false=>
    grind
   | true=>
    rfl
section
variable {F n : Nat} {fl : J bu}
theorem alM(hF:100000000<=F)(hT:Ua F)(h1:∀k,k<n->X1 fl F k)(hV:∀k,k<n->XV fl F k)(N:Nat)(x:TPart)(m:cM)(p:dh)(s:aX)(hm:Mo m p)(hs:nF s)(hst:stop s=false)(hx:wP x<=1000)(hn:9*wP x+7<=n)(hN:6*wP x+4<=N):
  T2 (RJ fl (wP x) m p) ((aV F n).2.2.2.2.2.1 x m (gO fl s)) ((bO F N).2.2.2.2.1 x p s):=by
 have hw:=Jk x;obtain⟨j,rfl⟩:∃j,n=j+3:=⟨n-3,om⟩;obtain⟨M,rfl⟩:∃j,N=j+2:=⟨N-2,om⟩;show T2 _ (nj F (aV F (j+2)) x m (gO fl s)) (ur F (bO F (M+1)) x p s);unfold nj ur;obtain⟨⟨v,st⟩,hv,ev⟩:=alB F hs.1.1 x.fText om om;rw [show xR F (gO fl s).ck x.fText=jN F s.ck x.fText from anv F hs.1.1 x.fText om om,ev,aC,aC];obtain⟨c,hc⟩:=Pm F p;have hmc:dX F m=some c:=by rw [akn F hm.1,hc]
 have htr:CC F x.fOp=some (cond (decide (6<=x.fOp)) (decide (x.fOp<=9)) false):=by unfold CC;rw [aK];rfl
 simp only [ako,htr,hc,hmc,aK,aC,trB,cT];dsimp only at hv⊢;rw [show (gO fl s).ck=s.ck from rfl];generalize htB:cond (decide (6<=x.fOp)) (decide (x.fOp<=9)) false=tr;generalize hnb:((mR .i64 s.ck.iA 2) != 0)=nb;have l1:decide (x.fText.length+([58,32,112,97,114,97,109,101,116,101,114,32,110,111,116,32,115,101,116]:Bs).length<=9223372036854775807)=true:=dQ (by show x.fText.length+19<=_;omega)
 have key:∀A B:O (Unit ⊕ (J aH×Bool×aM)),(cond (cond (x.fOp==0) (x.fOp==0) (cond (x.fOp==5) (x.fOp==5) tr)) (cond (cond (cond nb (!st) false) (!((x.fText==[64])||(x.fText==[42]))) false) A B) B)=cond (cond (cond (cond nb (!((x.fText==[64])||(x.fText==[42]))) false) (!st) false) ((x.fOp==0)||((x.fOp==5)||tr)) false) A B:=fun A B=>by
  grind
 rw [key];have one:∀(t:Bs)(u:aX),t.length<=5000*wP x->nF u->stop u=false->T2 (RJ fl (wP x) m p) ((gE F t c).bind fun fF=>some (fF,true,gO fl u)) (some ([aH.mk t c],u)):=fun t u ht hu hsu=>T2.ok (RJ.go hu (RB.one om ht) hsu)
 cases (cond (cond (cond nb (!((x.fText==[64])||(x.fText==[42]))) false) (!st) false) ((x.fOp==0)||((x.fOp==5)||tr)) false) with
 | true=>
  rw [bq,bq,cD l1,cD l1,J8,tT]
  exact T2.ok (RR.j (RR.err hs (RB.nil (k:=1)) hst de rfl) om)
 | false=>
  rw [aS,aS];show T2 _ (cond (x.fOp==5) _ _) _;have R:∀k:Nat,k<=1000000->K.gw (k:Int):=fun k hk=>⟨om,om⟩
  have dec:∀k:Nat,k<=1000000->T2 (RJ fl (wP x) m p) ((oz F (k:Int)).bind fun fT=>(gE F fT c).bind fun fF=>some (fF,true,gO fl s)) ((dB F (k:Int)).bind fun x9=>some ([aH.mk x9 c],s)):=fun k hk=>by
   grind [K.wB,afv,K.JL]
  cases h5:(x.fOp==5) with
  | true=>
   rw [bq,bq,bq];have hp:=hs.1.1.2.1;show T2 _ ((oz F (cond ((x.fText==[64])||(x.fText==[42])) (s.ck.cC.length:Int) (v.length:Int))).bind _) _
   grind
  | false=>
   rw [aS,aS,aS,aS]
   cases tr with
   | true=>
    rw [bq,bq]
    have hop:6<=x.fOp/\x.fOp<=9:=by
     simp_all
    refine T2.bd (ahu hF (h1 (j+1) om) (M+1) x.fParts s hs hst om om om) ?_;rintro⟨r,ok,x'⟩ ⟨r',s'⟩ ⟨g1,g2,g3⟩;dsimp only at g1 g2 g3⊢;have z1:=g2.1;have z2:=g2.2;have hTr:=hT x.fOp v r' hop.1 hop.2 hv om om;rcases g3 with⟨k1,k2⟩|⟨k1,k2,k3⟩
    ·cases k2
     rw [ku,aS];refine T2.bd2 hTr ?_
     grind
    ·have k2:ok=false:=k2
     subst k2;rw [uL,bq];obtain⟨a,b,⟨-,hb⟩,-,e2⟩:=hTr;rw [aoZ e2]
     exact T2.ok ⟨g1,RB.one om om,.inr ⟨k1,rfl,k3,rfl⟩⟩
   | false=>
    rw [aS,aS,TPart.eta,pid];show T2 _ (pO F (aV F (j+1)) x m v st (gO fl s)) _;unfold pO;rw [alK];obtain⟨ch,hch⟩:=ajy F x.fOp x.fColon st v;rw [hch,aC,aC,hmc];simp only [pid,anz,TPart.eta];refine T2.cb (fun _=>?_) fun _=>T2.cb (fun _=>one [] s (fO _) hs hst) fun _=>T2.cb (fun _=>?_) fun _=>T2.cb (fun _=>?_) fun _=>?_
    ·refine T2.mono (h1 (j+1) om (M+1) x.fParts {m with mw:=2} {p with B1:=true} s hm hs hst om om om) ?_
     rintro a b h;exact RR.j (h.rr fun _=>rfl) om
    ·rw [K.Ge F _ om]
     obtain⟨nm,-,enm⟩:=El F x.fText om;rw [enm,aC,aC];have l3:decide (x.fText.length+([58,32,99,97,110,110,111,116,32,97,115,115,105,103,110]:Bs).length<=9223372036854775807)=true:=dQ (by show x.fText.length+15<=_;omega);refine T2.cb (fun _=>?_) fun _=>?_
     ·rw [cD l3,cD l3,J8,tT]
      exact T2.ok (RR.j (RR.err hs (RB.nil (k:=1)) hst de rfl) om)
     ·refine T2.bd (hV (j+1) om (M+1) x.fParts m p.fq s hm.1 hs hst om om om) ?_
      rintro⟨t0,ok,x'⟩ ⟨t,s'⟩ ⟨⟨⟨g1,g2,g3⟩,g4⟩,g5⟩;dsimp only at g1 g2 g3 g4 g5⊢
      have ht:t.length<=5000*wP x:=by
       grind
      rcases g3 with⟨k1,k2⟩|⟨k1,k2,k3,k4⟩
      ·cases k2
       rw [ku,aS];refine T2.l (P:=fun y:Bool×aM=>∃s2,hU F x.fText t0 s'=some s2/\nF s2/\((stop s2=false/\y=(false,gO fl s2))\/(stop s2=true/\y.1=true/\Fin y.2 s2))) ?_ ?_
       ·obtain⟨⟨a1,a2⟩,s2,⟨b1,b2⟩,e1,e2⟩:=acX F fl g1 k1 x.fText t0 om
        simp_all [aC,aA.ok]
       ·rintro⟨a1,a2⟩ ⟨s2,e2,b1,b2⟩
        rw [e2,aC];rcases b2 with⟨b2,b3⟩|⟨b2,b3,b4⟩
        ·simp_all
        ·have b3:a1=true:=b3
         subst b3;exact T2.ok ⟨b1,RB.one om ht,.inr ⟨b2,rfl,b4,rfl⟩⟩
      ·have k2:ok=false:=k2
       subst k2;rw [uL,bq,aC,akl F k1,aC];exact T2.ok ⟨g1,RB.one om ht,.inr ⟨k1,rfl,k3,rfl⟩⟩
    ·refine T2.bd (ahv hF (hV j om) M x m p s hm.1 hs hst hx om om) ?_
     rintro⟨a1,a2⟩ s2 ⟨b1,b2,b3,b4⟩;have b3:a1=false:=b3;subst b3;exact T2.ok ⟨b1,RB.nil,.inr ⟨b2,rfl,b4,rfl⟩⟩
    ·refine T2.bd (alL F fl hs x.fText v m p hm hv om) ?_
     rintro a b ⟨rfl,hb⟩;exact T2.ok (RJ.go hs (hb.mono om) hst)
end
theorem aqa{R:Type}(F:Nat)(p:TPart)(f:Bool->O R):((cond (p.fKind==4) (some (p.fText==([64]:Bs))) (some false):O Bool).bind fun x4=>(cond x4 (some (p.fOp==0)) (some false):O Bool).bind f)=(vC F p).bind f:=by
 unfold vC
 grind
theorem ao0(F:Nat){l:J bC}(hl:l.length<=128)(hF:1000<F){R:Type}(n:Bs)(A:bC->O R)(B:O R):((yM F l n).bind fun x5=>(cond x5.2 (some x5.1.cE) (some false):O Bool).bind fun x6=>cond x6 (A x5.1) B)=cond (jo l n).1.cE (A (jo l n).1) B:=by
 rw [ajw F _ _ om om]
 have hb:(jo l n).2=false->(jo l n).1=bC.mk [] [] false false false:=by
  unfold jo;cases l.find? _<;>simp
 grind
section
variable {F n : Nat} {fl : J bu}
theorem anA(hN':NC<=F)(hF:100000000<=F)(hT:Ua F)(h1:∀k,k<n->X1 fl F k)(hV:∀k,k<n->XV fl F k):X2 fl F n:=by
 intro N x m p s hm hs hst hx hn hN;have hw:=Jk x;obtain⟨j,rfl⟩:∃j,n=j+2:=⟨n-2,om⟩;obtain⟨M,rfl⟩:∃j,N=j+2:=⟨N-2,om⟩;show T2 _ (qQ F (aV F (j+1)) x m (gO fl s)) (vE F (bO F (M+1)) x p s);unfold qQ vE;obtain⟨c,hc⟩:=Pm F p;obtain⟨d,hd⟩:=ant F p;simp only [pid,TPart.eta];have one:∀(t:Bs)(c:Int),t.length<=5000*wP x->T2 (RJ fl (wP x) m p) ((gE F t c).bind fun fF=>some (fF,true,gO fl s)) (some ([aH.mk t c],s)):=fun t c ht=>T2.ok (RJ.go hs (RB.one om ht) hst);refine T2.cb (fun _=>?_) fun _=>T2.cb (fun _=>one _ _ om) fun _=>T2.cb (fun _=>?_) fun _=>T2.cb (fun _=>?_) fun _=>T2.cb (fun _=>?_) fun _=>T2.cb (fun _=>?_) fun _=>T2.cb (fun _=>?_) fun _=>T2.ok (RJ.go hs RB.nil hst)
 ·
  have hl:∃d',pU F m=some d'/\(COk m p->d'=d):=by
   unfold pU;unfold pK at hd;rw [<-hm.1] at hd;unfold COk
   grind
  obtain⟨d',hd',he⟩:=hl;rw [hd,hd',aC,aC];exact T2.ok ⟨hs,RB.one om (by grind),.inl ⟨hst,rfl,rfl,fun h=>by rw [he h]⟩⟩
 ·
  show T2 _ (pN F (aV F j) x m (gO fl s)) _;unfold pN;have hkl:=Fm x.fParts
  have rl:∀(r:J aH)(u:aX),aA (fun y=>y=(r,u)\/(r=[]/\y=([aH.mk [] 1],u))) (bV (σ:=Int) (R:=(J aH)×aX) (fun kR x3=>
    cond (decide (x3<(x.fParts.length:Int)))
    (rq ((decide (0<=x3))&&(decide (x3<(x.fParts.length:Int)))) ((vC F (x.fParts.getD (Int.toNat x3) jZ)).bind fun x5=>
    cond x5
    (some (r,u))
    (kR (aB (x3+1)))))
    (cond ((r.length:Int)==0)
    (some (([(aH.mk [] 1)]:J aH),u))
    (some (r,u)))) F 0):=fun r u=>by
   refine aA.lp (fun i:Int=>∃k:Nat,i=(k:Int)/\k<=x.fParts.length) (fun i=>x.fParts.length-i.toNat) ⟨0,rfl,om⟩ (by grind) ?_;rintro _ ⟨k,rfl,hk⟩ rc hrc;refine aA.cd (fun h=>?_) fun _=>aA.cb (fun h=>aA.ok (.inr ⟨adj.1 (by simp_all),rfl⟩)) fun _=>aA.ok (.inl rfl);obtain⟨b,hb⟩:=akj F (x.fParts.getD (Int.toNat (k:Int)) jZ);rw [bR om om,hb,aC,bh om];exact aA.cb (fun _=>aA.ok (.inl rfl)) fun _=>hrc _ ⟨k+1,rfl,om⟩ (by grind)
  refine T2.bd (h1 j om (M+1) x.fParts (cM.mk true m.jV 0) (dh.mk true false p.jV) s ⟨rfl,hm.2⟩ hs hst om om om) ?_;intro a b h;have h:=h.rr (fun h=>nomatch h);obtain⟨r,ok,x'⟩:=a;obtain⟨r',s'⟩:=b;obtain⟨g1,g2,⟨k1,k2⟩|⟨k1,k2,k3,k4⟩⟩:=h
  ·cases k2
   dsimp only at g1 g2 k1⊢;rw [ku,aS];by_cases h0:0<r'.length
   ·rw [cO om]
    obtain⟨y,hy,e⟩:=rl r' s';rw [e];rcases hy with rfl|⟨h,_⟩
    ·exact T2.ok (RJ.go g1 (g2.mono om) k1)
    simp_all
   ·rw [cf om]
    have hnil:r'=[]:=adj.1 om;subst hnil;refine T2.lp (fun (i i':Int)=>∃k:Nat,i=(k:Int)/\i'=(k:Int)/\k<=x.fParts.length) (fun i=>x.fParts.length-i.toNat) ⟨0,rfl,rfl,om⟩ (by grind) ?_;rintro _ _ ⟨k,rfl,rfl,hk⟩ q1 q2 hrc;refine T2.cb (fun h=>?_) fun _=>T2.ok (RJ.go g1 (RB.one om (fO _)) k1);have h:=wS h;have e:=aqa (R:=J aH×Bool×aM) F (x.fParts.getD (Int.toNat (k:Int)) jZ);obtain⟨b,hb⟩:=akj F (x.fParts.getD (Int.toNat (k:Int)) jZ);refine T2.ql (jO om om) (T2.qr (jO om om) ?_);rw [e,hb,aC,aC,bh om];exact T2.cb (fun _=>T2.ok (RJ.go g1 RB.nil k1)) fun _=>hrc _ _ ⟨k+1,rfl,rfl,om⟩ (by grind)
  ·have k2:ok=false:=k2
   have k4:r=[]:=k4;subst k2 k4;dsimp only at g1 g2 k1 k3⊢;rw [uL,bq];obtain⟨y,hy,e⟩:=rl r' s';rw [e];rcases hy with rfl|⟨_,rfl⟩
   ·exact T2.ok ⟨g1,g2.mono om,.inr ⟨k1,rfl,k3,rfl⟩⟩
   ·exact T2.ok ⟨g1,RB.one om (fO _),.inr ⟨k1,rfl,k3,rfl⟩⟩
 ·
  have hl:=hs.1.1.1.1;have hv:=(OP hs.1.1.1 [72,79,77,69]).2;have e:=ao0 F (l:=s.ck.bN) hl om [72,79,77,69] (fun v=>(gE F v.bL 1).bind fun x7=>some (x7,true,gO fl s)) ((gE F [126] 0).bind fun x8=>some (x8,true,gO fl s));rw [show (gO fl s).ck=s.ck from rfl,e,ya F s.ck.bN _ om om,aC]
  grind
 ·
  exact (ap8 F fl hs hst x m p hm.1 om).mono fun a b h=>RR.j h om
 ·
  have:=anx hN' hF fl (aV F j) (bO F M) x m p hm.1 s ((hV j om M x.fParts (cM.mk true false 0) true s rfl hs hst om om om).mono fun a b h=>h.1);exact this.mono fun a b h=>RR.j h om
 grind [alM,anz]
theorem afx(hN':NC<=F)(hF:100000000<=F)(hT:Ua F):∀n,X1 fl F n:=by
 intro n
 induction n using Nat.strongRecOn with
 | ind n ih=>
  cases n with
  | zero=>intro N l m p s _ _ _ _ h _;omega
  | succ n=>
   have hV:∀k,k<n+1->XV fl F k:=fun k hk=>by
    cases k with
    | zero=>intro N l m q s _ _ _ _ h _;omega
    | succ k=>grind [acZ]
   grind [alJ,anA]
end
def afy(it:aG)(t:Bs):Prop:=it.fKind=3\/∃b,t=[b]/\QN it (b.toNat:Int)=true
def Mt:J aG->Bs->Prop
 | [],s=>s=[]
 | it::p,s=>∃a b,s=a++b/\afy it a/\Mt p b
theorem Pn:∀(p:J aG)(it:aG)(s:Bs),Mt (p++[it]) s↔∃a b,s=a++b/\Mt p a/\afy it b
 | [],it,s=>by
  constructor
  ·rintro⟨a,b,rfl,h,rfl⟩;exact⟨[],a,si,rfl,h⟩
  ·rintro⟨a,b,rfl,rfl,h⟩;exact⟨b,[],si,h,rfl⟩
 | x::p,it,s=>by
  constructor
  ·rintro⟨a,b,rfl,h,hb⟩
   obtain⟨c,d,rfl,h1,h2⟩:=(Pn p it b).1 hb;exact⟨a++c,d,si,⟨a,c,rfl,h,h1⟩,h2⟩
  ·rintro⟨a,b,rfl,⟨c,d,rfl,h1,h2⟩,h3⟩
   exact⟨c,d++b,si,h1,(Pn p it _).2 ⟨d,b,rfl,h2,h3⟩⟩
theorem ajC{it:aG}{t:Bs}(h:afy it t):afy it t.reverse:=by
 rcases h with h|⟨b,rfl,h⟩
 ·exact .inl h
 ·exact .inr ⟨b,rfl,h⟩
theorem aa4:∀(p:J aG)(s:Bs),Mt p s->Mt p.reverse s.reverse
 | [],s,h=>by
  obtain rfl:s=[]:=h
  rfl
 | it::p,s,h=>by
  obtain⟨a,b,rfl,h1,h2⟩:=h;rw [List.reverse_cons,List.reverse_append];exact (Pn _ _ _).2 ⟨_,_,rfl,aa4 p b h2,ajC h1⟩
theorem ac1(f:Nat->Bool):∀k,upE f k=true↔∃j,j<=k/\f j=true
 | 0=>⟨fun h=>⟨0,eo _,h⟩,fun⟨j,h,e⟩=>by rwa [show j=0 by omega] at e⟩
 | k+1=>by
  rw [upE,Qu,ac1 f k];constructor
  ·rintro (h|⟨j,h,e⟩)
   ·exact⟨k+1,eo _,h⟩
   ·exact⟨j,om,e⟩
  ·rintro⟨j,h,e⟩
   by_cases hj:j=k+1
   ·subst hj;exact .inl e
   ·exact .inr ⟨j,om,e⟩
theorem OI(p:J aG)(s:Bs):∀i,i<=p.length->∀k,k<=s.length->(EE p s i k=true↔Mt (p.take i) (s.take k))
 | 0,_,k,hk=>by
  show (k==0)=true↔s.take k=[];rw [List.take_eq_nil_iff]
  grind
 | i+1,hi,k,hk=>by
  have hki:Sa p i=p[i]:=by unfold Sa;rw [gd om]
  rw [qB (show i<p.length by omega),Pn,EE]
  cases hs:lW p i with
  | true=>
   rw [bq,ac1];have h3:p[i].fKind=3:=by unfold lW at hs;simp_all
   constructor
   ·rintro⟨j,hj,e⟩
    refine⟨s.take j,(s.take k).drop j,?_,(OI p s i om j om).1 e,.inl h3⟩
    grind [Nat.min_eq_left,List.take_append_drop]
   ·rintro⟨a,b,e,h1,-⟩
    have hl:=congrArg List.length e;rw [MC,ug] at hl;refine⟨a.length,om,(OI p s i om _ om).2 ?_⟩
    grind [Nat.min_eq_left,List.take_left]
  | false=>
   have h3:p[i].fKind≠3:=by unfold lW at hs;simp_all
   cases k with
   | zero=>
    refine⟨fun h=>(by cases h),?_⟩;rintro⟨a,b,e,-,h|⟨c,rfl,h⟩⟩
    ·exact absurd h h3
    ·simp at e
   | succ k=>
    have hsk:s.take (k+1)=s.take k++[s[k]]:=qB om;show (EE p s i k&&M3 p s i k)=true↔_;rw [cx,OI p s i om k om,hsk];unfold M3;rw [hki,gd (show k<s.length by omega)];constructor
    ·rintro⟨h1,h2⟩
     exact⟨_,_,rfl,h1,.inr ⟨_,rfl,h2⟩⟩
    ·rintro⟨a,b,e,h1,h|⟨c,rfl,h⟩⟩
     ·exact absurd h h3
     grind [List.append_inj']
theorem anB(p:J aG)(s:Bs){k:Nat}(hk:k<=s.length):EE p.reverse s.reverse p.reverse.length k=EE p (s.drop (s.length-k)) p.length (s.drop (s.length-k)).length:=by
 rw [sN,OI _ _ _ (eo _) _ (by simpa using hk),OI _ _ _ (eo _) _ (eo _),Bl,Bl,Bl,List.take_reverse];exact⟨fun h=>by simpa using aa4 _ _ h,fun h=>aa4 _ _ h⟩
def dS(long:Bool)(g:Nat->Bool):Nat->Int×Bool
 | 0=>(0,false)
 | k+1=>cond (g k&&cond long true (!(dS long g k).2)) ((k:Int),true) (dS long g k)
theorem It(b:Bool){f g:Nat->Bool}:∀k,(∀j,j<k->f j=g j)->dS b f k=dS b g k
 | 0,_=>rfl
 | k+1,h=>by rw [dS,dS,h k om,It b k fun j hj=>h j om]
theorem Ls(b:Bool)(g:Nat->Bool)(k:Nat)(h:∀j,k<=j->g j=false):∀d,dS b g (k+d)=dS b g k
 | 0=>rfl
 | d+1=>by rw [<-Uj,dS,h _ om,Ls b g k h d];rfl
theorem WS(g:Nat->Bool)(k:Nat)(h:(dS false g k).2=true):∀d,dS false g (k+d)=dS false g k
 | 0=>rfl
 | d+1=>by rw [<-Uj,dS,WS g k h d,h,aS,ku,Uk,aS]
theorem aa5(b:Bool)(g:Nat->Bool):∀k,∃j:Nat,(dS b g k).1=(j:Int)/\j<=k-1/\((dS b g k).2=false->j=0)
 | 0=>⟨0,rfl,eo _,fun _=>rfl⟩
 | k+1=>by
  obtain⟨j,h1,h2,h3⟩:=aa5 b g k;rw [dS]
  grind
theorem WT(F:Nat)(p:J aG)(n:Bs)(long:Bool)(hF:p.length+300<F)(qS:n.length<F)(hn:n.length<50000000)(hp:p.length<50000000)(hit:∀it∈p,mB it){v:Bool}(hv:lV F p=some v):
  oR F p n 0 long=some (dS long (fun k=>v&&EE p n p.length k) (n.length+1)):=by
 unfold oR;rw [hv,aC]
 cases v with
 | false=>
  have:=Ls long (fun k=>false&&EE p n p.length k) 0 (fun _ _=>rfl) (n.length+1);rw [pW] at this
  rw [this];rfl
 | true=>
  have hw:aB ((p.length:Int)+1)=((p.length+1:Nat):Int):=cJ om;have hlen:∀g:Nat->Bool,(iC (p.length+1) g).length=p.length+1:=fun g=>BG _ g;rw [hw,ku,aS,cD (by rw [dT om,dT om,dT om,dT om,dT om];rfl),bK,sx si,QM,FR];rw [kM (g:=fun j=>j==0) fun j _=>by cases (j==0)<;>rfl,V2 F p _ om hp,aC,kM fun j _=>ah6 p n j]
  have hsw:∀x:O (Int×Bool),x=some (dS long (EE p n p.length) (n.length+1))->(x.bind fun x3=>some (x3.1,x3.2))=some (dS long (EE p n p.length) (n.length+1)):=by
   rintro x rfl;rfl
  refine hsw _ (dw (fun s=>∃k:Nat,s=(iC (p.length+1) (fun j=>EP p n j k),(dS long (EE p n p.length) k).1,(dS long (EE p n p.length) k).2,(k:Int))/\k<=n.length/\(long=false->(dS long (EE p n p.length) k).2=false)) (fun s=>n.length-s.2.2.2.toNat) ?_ F _ ⟨0,rfl,om,fun _=>rfl⟩ bE);rintro s ⟨k,rfl,hk,hsh⟩;rw [bR om (by rw [hlen];omega),bK p.length,bK k,vW _ om,age,aK]
  have hS:dS long (EE p n p.length) (k+1)=cond (EE p n p.length k) ((k:Int),true) (dS long (EE p n p.length) k):=by
   rw [dS]
   grind
  have hend:∀d,(∀j,k<j->j<=n.length->EE p n p.length j=false)->k+1+d=n.length+1->dS long (EE p n p.length) (n.length+1)=dS long (EE p n p.length) (k+1):=by
   intro d h1 h2;rw [It long (n.length+1) (g:=fun j=>EE p n p.length j&&decide (j<=n.length)) fun j hj=>by grind,It long (k+1) (g:=fun j=>EE p n p.length j&&decide (j<=n.length)) fun j hj=>by grind,<-h2];refine Ls _ _ _ (fun j hj=>?_) d
   grind
  by_cases afw:(EE p n p.length k && !long)=true
  ·right
   rw [cx] at afw;obtain⟨h1,h2⟩:=afw;have hl:long=false:=by simpa using h2
   subst hl;intro rc;rw [h1];rw [h1,bq] at hS;have:=WS (EE p n p.length) (k+1) (by rw [hS]) (n.length-k);rw [show k+1+(n.length-k)=n.length+1 by omega,hS] at this;rw [this];rfl
  ·have hstep:∀G:Int×Bool->O (Int×Bool),(jj (σ:=Int×Bool) ((some (cond (EE p n p.length k) (decide ((0:Int)<=(k:Int))) false):O Bool).bind fun x7=>cond x7 (cond (!long) (some (.inr ((k:Int),true))) (some (.inl ((k:Int),true)))) (some (.inl ((dS long (EE p n p.length) k).1,(dS long (EE p n p.length) k).2)))) G)=G (dS long (EE p n p.length) (k+1)):=by
    intro G;rw [hS,aC]
    cases h1:EE p n p.length k with
    | false=>rfl
    | true=>
     have:long=true:=by
      simp_all
     rw [this];rfl
   by_cases hkn:k<n.length
   ·obtain⟨c,hc1,hc⟩:=abn F (iC (p.length+1) (fun j=>EP p n j k)) (by rw [hlen];omega) (by rw [hlen];omega)
    cases c with
    | false=>
     have hz:∀j,k<j->j<=n.length->EE p n p.length j=false:=by
      intro j h1 h2
      have:=UH p n k (fun i hi=>by
       have:=hc1 rfl i (by rw [hlen];omega)
       grind [vW]) (j-k) p.length (Nat.le_refl _)
      grind [age]
     rw [hend (n.length-k) hz om]
     simp_all
    | true=>
     left;refine⟨(iC (p.length+1) (fun j=>EP p n j (k+1)),(dS long (EE p n p.length) (k+1)).1,(dS long (EE p n p.length) (k+1)).2,((k+1:Nat):Int)),⟨k+1,rfl,om,fun hl=>?_⟩,bE,fun rc=>?_⟩
     ·simp_all
     ·refine (hstep _).trans ?_
      rw [show ((k:Int)==(n.length:Int))=false by simp;omega,aS,hc,aC,aC,ku,aS,cq hkn,ad6 F p n _ k hF hp hit,aC,cJ om]
      grind [kM,acu]
   grind
theorem afz(F:Nat)(p:J aG)(n:Bs)(long:Bool)(hF:p.length+300<F)(qS:n.length+1<F)(hn:n.length<50000000)(hp:p.length<50000000)(hit:∀it∈p,mB it){v:Bool}(hv:kB F p=some v):
  rY F p n long=some (dS long (fun k=>v&&EE p n p.length k) (n.length+1)):=by
 unfold rY;rw [hv,aC]
 cases v with
 | false=>
  have:=Ls long (fun k=>false&&EE p n p.length k) 0 (fun _ _=>rfl) (n.length+1);rw [pW] at this
  rw [this];rfl
 | true=>
  rw [ku,acv F p n hF qS hn hp hit];refine dw (fun s=>∃k:Nat,s=((dS long (EE p n p.length) k).1,(dS long (EE p n p.length) k).2,(k:Int))/\k<=n.length+1) (fun s=>n.length+1-s.2.2.toNat) ?_ F _ ⟨0,rfl,om⟩ bE;rintro s ⟨k,rfl,hk⟩;dsimp only;by_cases hk2:k<=n.length
  ·left
   refine⟨_,⟨k+1,rfl,om⟩,bE,fun rc=>?_⟩;rw [bR om (by rw [BG];omega),vW _ om,cJ om,dS]
   grind
  grind
theorem afA(F:Nat)(p:J aG)(n:Bs)(long:Bool)(hF:p.length+300<F)(qS:n.length+1<F)(hn:n.length<50000000)(hp:p.length<50000000)(hit:∀it∈p,mB it){v:Bool}(hv:lV F p=some v):
  rX F p n long=some (dS long (fun k=>v&&EE p (n.drop (n.length-k)) p.length (n.drop (n.length-k)).length) (n.length+1)):=by
 generalize hg:(fun k=>v&&EE p (n.drop (n.length-k)) p.length (n.drop (n.length-k)).length)=g;refine dw (fun s=>∃k:Nat,s=((dS long g k).1,(dS long g k).2,(k:Int))/\k<=n.length+1) (fun s=>n.length+1-s.2.2.toNat) ?_ F _ ⟨0,rfl,om⟩ bE;rintro s ⟨k,rfl,hk⟩;dsimp only;by_cases hk2:k<=n.length
 ·left
  refine⟨_,⟨k+1,rfl,om⟩,bE,fun rc=>?_⟩
  have PN:sl n (aB ((n.length:Int)-(k:Int))) (n.length:Int)=n.drop (n.length-k):=by
   rw [bG om];unfold sl;simp
  rw [PN,bG om,cD (by grind),agi F p _ hF (by grind) (by grind) hp hit hv,aK,Option.bind_some,Option.bind_some,cJ om,dS]
  grind
 grind
theorem afB(F:Nat)(x:J aG)(hF:x.length<F)(hx:x.length<50000000):slices_Reverse F x=some x.reverse:=by
 unfold slices_Reverse;have h0:aB ((x.length:Int)-1)=(x.length:Int)-1:=bG om;rw [h0];refine dw (fun s:Int×Int×J aG=>∃k:Nat,s.1=(k:Int)/\s.2.1=(x.length:Int)-1-(k:Int)/\2*k<=x.length+1/\s.2.2.length=x.length/\∀m,m<x.length->s.2.2.getD m fU=cond (decide (m<k)||decide (x.length<=m+k)) (x.getD (x.length-1-m) fU) (x.getD m fU)) (fun s=>x.length-s.1.toNat) ?_ F _ ⟨0,rfl,si,om,rfl,fun m hm=>by grind⟩ bE;rintro⟨i,j,l⟩ ⟨k,h1,h2,h3,h4,h5⟩;dsimp only at h1 h2 h4 h5⊢;subst h1 h2;by_cases hk:(k:Int)<(x.length:Int)-1-(k:Int)
 ·left
  have hj:(x.length:Int)-1-(k:Int)=((x.length-1-k:Nat):Int):=om;rw [hj];refine⟨(((k+1:Nat):Int),((x.length-1-k-1:Nat):Int),(l.set k (l.getD (x.length-1-k) fU)).set (x.length-1-k) (l.getD k fU)),⟨k+1,rfl,by dsimp only;omega,om,by simp_all,fun m hm=>?_⟩,bE,fun rc=>?_⟩
  ·dsimp only
   grind
  ·rw [cO om,bR om om,bR om om,bR om om,bR om (by grind),Int.toNat_natCast,Int.toNat_natCast,cJ om,w5 om om]
 ·right
  intro rc;rw [cf hk];refine congrArg some (y9 (by simp_all) fun m VW hm2=>?_)
  grind
theorem ahw(F:Nat)(x:J aG)(hx:x.length<50000000):AG F x=some x:=by
 unfold AG
 grind [KK,rq,iB]
def DN(F:Nat)(it:aG):Bool:=cond (cond (cond (cond (decide (it.fKind<1)) true (decide (4<it.fKind))) true ((it.fText.length:Int) != cond (it.fKind==1) 1 0)) true (cond (it.fKind != 4) (cond it.BD true (decide (0<(it.cE.length:Int)))) false)) true (!((nr F it.cE).getD false))
theorem OJ(F:Nat)(p:J aG)(hF:p.length+300<F)(hp:p.length<50000000)(hit:∀it∈p,mB it):kB F p=some (!p.any (DN F)):=by
 unfold kB;refine dw (fun s:Int=>∃k:Nat,s=(k:Int)/\k<=p.length/\(p.take k).any (DN F)=false) (fun s=>p.length-s.toNat) ?_ F _ ⟨0,rfl,om,rfl⟩ bE;rintro _ ⟨k,rfl,hk,hn⟩;by_cases hk:k<p.length
 ·have hI:=hit _ (kz hk)
  have hl:=hI.2.2;obtain⟨c,hc⟩:=BE F p[k].cE om om;have hb:∀rc:Int->O Bool,cond (DN F p[k]) (some false) (rc ((k+1:Nat):Int))=_:=fun rc=>rfl;unfold DN at hb;rw [hc] at hb;have e:(p.take (k+1)).any (DN F)=DN F p[k]:=by grind [List.take_succ_eq_append_getElem]
  cases hv:DN F p[k] with
  | true=>
   right;intro rc;rw [cO (show (k:Int)<(p.length:Int) by omega),cq hk,bK,gd hk];rw [show p.any (DN F)=true from Ui.2 ⟨_,kz hk,hv⟩];unfold DN at hv
   grind
  | false=>
   left;refine⟨_,⟨k+1,rfl,om,by rw [e,hv]⟩,bE,fun rc=>?_⟩;rw [cO (show (k:Int)<(p.length:Int) by omega),cq hk,bK,gd hk];unfold DN at hv
   grind [cJ]
 grind
theorem ahx(F:Nat)(p:J aG)(n:Bs)(long:Bool)(hF:p.length+300<F)(qS:n.length+1<F)(hn:n.length<50000000)(hp:p.length<50000000)(hit:∀it∈p,mB it):
  ∃r:Int×Bool,(∃j:Nat,r.1=(j:Int)/\j<=n.length/\(r.2=false->j=0))/\oV F p n long=some r/\rX F p n long=some r:=by
 have hv:=OJ F p hF hp hit;rw [<-Hx F p hF hp hit] at hv;have ajD:=fun it h=>hit it (List.mem_reverse.1 h);have hlr:p.reverse.length=p.length:=List.length_reverse;have hvr:=OJ F p.reverse (by rw [hlr];exact hF) (by rw [hlr];exact hp) ajD;rw [<-Hx F p.reverse (by rw [hlr];exact hF) (by rw [hlr];exact hp) ajD] at hvr;refine⟨_,?_,?_,afA F p n long hF qS hn hp hit hv⟩
 ·obtain⟨j,h1,h2,h3⟩:=aa5 long (fun k=>(!p.any (DN F))&&EE p (n.drop (n.length-k)) p.length (n.drop (n.length-k)).length) (n.length+1)
  grind
 ·unfold oV
  rw [ahw F p hp,aC,afB F p om hp,aC,sx om,WT F p.reverse n.reverse long (by rw [hlr];exact hF) bE (by simpa using hn) (by rw [hlr];exact hp) ajD hvr]
  grind [List.length_reverse,It,anB]
theorem afC(F:Nat)(p:J aG)(n:Bs)(long:Bool)(hF:p.length+300<F)(qS:n.length+1<F)(hn:n.length<50000000)(hp:p.length<50000000)(hit:∀it∈p,mB it):
  ∃r:Int×Bool,(∃j:Nat,r.1=(j:Int)/\j<=n.length/\(r.2=false->j=0))/\oW F p n long=some r/\rY F p n long=some r:=by
 have hv:=OJ F p hF hp hit;have qh:=hv;rw [<-Hx F p hF hp hit] at qh;refine⟨_,?_,?_,afz F p n long hF qS hn hp hit hv⟩
 ·obtain⟨j,h1,h2,h3⟩:=aa5 long (fun k=>(!p.any (DN F))&&EE p n p.length k) (n.length+1)
  grind
 ·unfold oW
  grind [WT]
theorem alN(a b:Bs)(c:Int):rC (aH.mk (a++b) c)=rC (aH.mk a c)++rC (aH.mk b c):=by
 unfold rC
 grind
theorem ajE(o:J aH)(r:aH):(qA o r).flatMap rC=o.flatMap rC++rC r:=by
 obtain⟨t,c⟩:=r;unfold qA
 cases h1:(t==[]) with
 | true=>
  have:rC (aH.mk [] c)=[]:=by unfold rC;simp_all
  simp_all
 | false=>
  rw [aS]
  cases h2:(decide (0<o.length)&&((o.getD (o.length-1) dm).b8==c)) with
  | true=>
   rw [cx,fX] at h2;have hk:o.length-1<o.length:=om;have hc:=eq_of_beq h2.2
   have ho:o=o.take (o.length-1)++[o.getD (o.length-1) dm]:=by
    rw [gd hk,<-qB hk,show o.length-1+1=o.length by omega,Bl]
   rw [bq,ajL,if_pos hk,show o.length-1+1=o.length by omega,Qv,adg,List.flatMap_singleton,alN]
   conv=>rhs;rw [ho]
   rw [adg,List.flatMap_singleton,FC]
   rw [<-hc]
  | false=>simp_all
theorem WU:∀(l o:J aH),(l.foldl qA o).flatMap rC=o.flatMap rC++l.flatMap rC
 | [],o=>by simp
 | r::l,o=>by rw [Dk,WU l,ajE,XK,FC]
theorem ajF(F:Nat)(l:J aH)(hF:100000000<=F)(h1:l.length<=26000)(h2:cz l<=5000000):∃p,((∀it∈p,mB it)/\p.length<=5000000)/\iK F (nG l)=some p/\jL F l=some p:=by
 obtain⟨p,hp1,hp2⟩:=ad4 F l om om om om;obtain⟨q,⟨g1,g2⟩,hq⟩:=abk F l om om om om;rw [hp1] at hq;obtain rfl:=uK hq;refine⟨p,⟨g1,om⟩,?_,hp2⟩;obtain⟨j1,j2⟩:=Lr l [];have e0:cz ([]:J aH)=0:=rfl;have hj1:cz (nG l)<=5000000:=by unfold nG;omega
 have hj2:(nG l).length<=26000:=by unfold nG;grind
 rw [<-hp1];unfold iK;rw [Ko F l om om om om,Ko F (nG l) om om om om];have:=WU l [];rw [List.flatMap_nil,pY] at this;unfold nG;rw [this]
theorem VR(F:Nat)(hF:100000000<=F):Ua F:=by
 intro op v l h6 h9 hv h1 h2;obtain⟨p,⟨g1,g2⟩,e1,e2⟩:=ajF F l hF h1 h2;have hs:=fun b=>ahx F p v b om om om om g1;have hq:=fun b=>afC F p v b om om om om g1;have sl0:sl v 0 (v.length:Int)=v:=by unfold sl;simp
 have hS:∀b,T2 (fun a b:Bs=>a=b/\b.length<=v.length) ((oV F p v b).bind fun x3=>
  cond x3.2
  (rq ((decide (0<=aB ((v.length:Int)-x3.1)))&&(decide (aB ((v.length:Int)-x3.1)<=(v.length:Int)))) (some (sl v 0 (aB ((v.length:Int)-x3.1)))))
  (some v)) ((rX F p v b).bind fun x2=>
  rq ((decide (0<=aB ((v.length:Int)-x2.1)))&&(decide (aB ((v.length:Int)-x2.1)<=(v.length:Int)))) (some (sl v 0 (aB ((v.length:Int)-x2.1))))):=by
  intro b;obtain⟨⟨i,f⟩,⟨j,rfl,h1,h2⟩,r1,r2⟩:=hs b;rw [r1,r2,aC,aC];rw [bG om,bR om om]
  cases f with
  | true=>exact⟨_,_,⟨rfl,by unfold sl;simp⟩,rfl,rfl⟩
  | false=>
   refine⟨_,_,⟨?_,?_⟩,rfl,rfl⟩
   ·simp_all
   ·unfold sl;simp
 have hP:∀b,T2 (fun a b:Bs=>a=b/\b.length<=v.length) ((oW F p v b).bind fun x4=>
  cond x4.2
  (rq ((decide (0<=x4.1))&&((decide (x4.1<=(v.length:Int)))&&(decide ((v.length:Int)<=(v.length:Int))))) (some (sl v x4.1 (v.length:Int))))
  (some v)) ((rY F p v b).bind fun x4=>
  rq ((decide (0<=x4.1))&&((decide (x4.1<=(v.length:Int)))&&(decide ((v.length:Int)<=(v.length:Int))))) (some (sl v x4.1 (v.length:Int)))):=by
  intro b;obtain⟨⟨i,f⟩,⟨j,rfl,h1,h2⟩,r1,r2⟩:=hq b;rw [r1,r2,aC,aC];rw [cD (by simp_all)]
  cases f with
  | true=>exact⟨_,_,⟨rfl,by unfold sl;simp⟩,rfl,rfl⟩
  | false=>
   obtain rfl:=h2 rfl;refine⟨_,_,⟨?_,?_⟩,rfl,rfl⟩
   ·exact sl0.symm
   ·unfold sl;simp
 have jjl:∀ {σ R:Type}(a:σ)(G:σ->O R),jj (some (.inl a)) G=G a:=fun _ _=>rfl;have jjr:∀ {σ R:Type}(a:R)(G:σ->O R),jj (some (.inr a)) G=some a:=fun _ _=>rfl;have hd:∀b,T2 (fun a b:Bs=>a=b/\b.length<=v.length) (jj (σ:=Bool) (R:=Bs) (jj (σ:=Bool) (R:=Bool ⊕ Bs) (some (.inl b)) fun x2=>
  (oV F p v x2).bind fun x3=>
  cond x3.2
  (rq ((decide (0<=aB ((v.length:Int)-x3.1)))&&(decide (aB ((v.length:Int)-x3.1)<=(v.length:Int)))) (some (.inr (sl v 0 (aB ((v.length:Int)-x3.1))))))
  (some (.inr v))) fun x1=>
  (oW F p v x1).bind fun x4=>
  cond x4.2
  (rq ((decide (0<=x4.1))&&((decide (x4.1<=(v.length:Int)))&&(decide ((v.length:Int)<=(v.length:Int))))) (some (sl v x4.1 (v.length:Int))))
  (some v)) ((rX F p v b).bind fun x2=>
  rq ((decide (0<=aB ((v.length:Int)-x2.1)))&&(decide (aB ((v.length:Int)-x2.1)<=(v.length:Int)))) (some (sl v 0 (aB ((v.length:Int)-x2.1))))):=by
  intro b;rw [jjl];have:=hS b;obtain⟨r,-,r1,-⟩:=hs b;rw [r1,aC] at this⊢
  cases h:r.2 with
  | false=>simp_all
  | true=>
   rw [h,bq] at this;unfold rq at this⊢
   cases h3:((decide (0<=aB ((v.length:Int)-r.1)))&&(decide (aB ((v.length:Int)-r.1)<=(v.length:Int)))) with
   | true=>simp_all
   | false=>rw [h3] at this;exact this
 unfold E8 E2
 grind
theorem anC(F:Nat)(b c:Int)(s:Bs)(hF:s.length<F)(hs:s.length<=5000):∃k,E3 F b c s=some k:=by
 have:aA (fun _=>True) (E3 F b c s):=by
  refine aA.cb (fun _=>aA.ok trivial) fun _=>?_;refine aA.lp (fun i=>∃n:Nat,i=(n:Int)/\n<=s.length) (fun i=>s.length-i.toNat) ⟨0,rfl,om⟩ (by simp_all) ?_;rintro _ ⟨n,rfl,hn⟩ rc hrc;refine aA.cd (fun h=>?_) fun _=>aA.ok trivial;rw [bR om om,bR om om,bh om];simp [aK];exact aA.cb (fun _=>aA.ok trivial) fun _=>aA.cb (fun _=>aA.ok trivial) fun _=>hrc _ ⟨n+1,rfl,om⟩ (by grind)
 obtain⟨r,-,h⟩:=this;exact⟨r,h⟩
def EL(k:Nat)(l:J cG):Prop:=l.length<=k/\∀e∈l,e.fI.length<=1
theorem EL.snoc{k:Nat}{l:J cG}(h:EL k l){e:cG}(he:e.fI.length<=1):EL (k+1) (l++[e]):=⟨by have:=h.1;simp;omega,fun x hx=>by
 rcases wX.1 hx with hx|hx
 ·exact h.2 x hx
 simp_all⟩
theorem EL.mono{k j:Nat}{l:J cG}(h:EL k l)(hj:k<=j):EL j l:=⟨by have:=h.1;omega,h.2⟩
theorem anD{l:J aH}{k:Nat}(h:k<l.length):cz (l.take (k+1))=cz (l.take k)+(l.getD k dm).fText.length:=by
 rw [qB h,BF,gd h];simp [cz]
theorem ajG(l:J aH)(k:Nat):cz (l.take k)<=cz l:=by
 grind [BF,List.take_append_drop]
theorem anE(F:Nat)(l:J aH)(s:Bs)(hF:l.length+cz l+5000<F)(h1:l.length<=1000000)(h2:cz l<=10000000)(hs:s.length<=5000):aA (EL (l.length+cz l)) (B3 F l s):=by
 refine aA.lp (fun z=>∃k:Nat,z.2=(k:Int)/\k<=l.length/\EL (k+cz (l.take k)) z.1) (fun z=>l.length-z.2.toNat) ⟨0,rfl,om,by simp [EL]⟩ (by grind) ?_;rintro⟨o,_⟩ ⟨k,rfl,h3,h4⟩ rc hrc;refine aA.cd (fun h=>?_) fun h=>aA.ok (h4.mono (by grind));have hk:k<l.length:=om;have hz:=anD hk;have ht:=ajG l (k+1);have ho:=h4.1;have hm:l.length-Int.toNat ((k+1:Nat):Int)<l.length-Int.toNat (k:Int):=om;rw [bR om om,bh om,bK];generalize l.getD k dm=r at hz
 have add:∀(c d:Int),aA (EL (l.length+cz l)) (rq ((decide (o.length+([cG.mk [] c d]:J cG).length<=9223372036854775807))&&(decide ((o.length+([cG.mk [] c d]:J cG).length)*32<=140737488355328))) (rc (o++[cG.mk [] c d],((k+1:Nat):Int)))):=fun c d=>
  aA.rq (nJ (by grind) de) (hrc _ ⟨k+1,rfl,hk,(h4.snoc (Nat.zero_le _)).mono om⟩ hm)
 simp only [aK];refine aA.cb (fun _=>add _ _) fun _=>aA.cb (fun _=>add _ _) fun _=>aA.cb (fun _=>?_) fun _=>hrc _ ⟨k+1,rfl,hk,h4.mono om⟩ hm;refine aA.lp (fun z=>∃i:Nat,z.2=(i:Int)/\i<=r.fText.length/\EL (k+cz (l.take k)+i) z.1) (fun z=>r.fText.length-z.2.toNat) ⟨0,rfl,om,h4⟩ (by grind) ?_;rintro⟨o,_⟩ ⟨i,rfl,i1,i2⟩ rc' Bq;refine aA.cd (fun h=>?_) fun h=>hrc _ ⟨k+1,rfl,hk,i2.mono om⟩ hm;have ho:=i2.1;obtain⟨d,hd⟩:=anC F ((r.fText.getD (Int.toNat (i:Int)) 0).toNat:Int) r.b8 s om hs;rw [bh om,CJ om om om,bR om om,hd];have:=sS r.fText i (i+1);exact aA.rq (nJ (by grind) de) (Bq _ ⟨i+1,rfl,om,i2.snoc (by simp_all)⟩ (by grind))
theorem ahy(F:Nat)(l:J cG)(a:Nat)(hF:l.length<F)(hl:l.length<=100000000)(ha:a<=l.length):aA (fun r=>∃e:Nat,r=(e:Int)/\a<=e/\e<=l.length) (E4 F l (a:Int)):=by
 refine aA.lp (fun i=>∃n:Nat,i=(n:Int)/\a<=n/\n<=l.length) (fun i=>l.length-i.toNat) ⟨a,rfl,om,ha⟩ (by grind) ?_;rintro _ ⟨n,rfl,h1,h2⟩ rc hrc;by_cases h:n<l.length
 ·rw [cO om,bR om om,bh om]
  exact aA.cb (fun _=>hrc _ ⟨n+1,rfl,om,om⟩ (by grind)) fun _=>aA.ok ⟨n,rfl,h1,h2⟩
 ·grind [aA.ok]
theorem ajH(F:Nat){k:Nat}(l:J cG)(h:EL k l)(hF:k<F)(hk:k<=100000000):aA (fun r:J (J cG)=>r.length<=k+1/\∀f∈r,EL k f) (AB F l):=by
 have hl:=h.1;unfold AB;refine aA.lp (fun z:J (J cG)×J cG×Int=>∃i:Nat,z.2.2=(i:Int)/\i<=l.length/\z.1.length<=i/\(∀f∈z.1,EL k f)/\EL i z.2.1) (fun z=>l.length-z.2.2.toNat) ⟨0,rfl,om,si,(fun _ h=>nomatch h),by simp [EL]⟩ (by grind) ?_;rintro⟨o,f,_⟩ ⟨i,rfl,h1,h2,h3,h4⟩ rc hrc;dsimp only at h2 h3 h4 hrc⊢;have hfl:=h4.1;have hm:∀j:Nat,i<j->j<=l.length->l.length-Int.toNat (j:Int)<l.length-Int.toNat (i:Int):=fun j h1 h2=>by omega
 have Dr:∀x∈o++[f],EL k x:=fun x hx=>by
  rcases wX.1 hx with hx|hx
  ·exact h3 x hx
  ·obtain rfl:=MD.1 hx;exact h4.mono om
 refine aA.cd (fun h'=>?_) fun _=>aA.cd (fun _=>aA.rq (nJ (by grind) de) (aA.ok ⟨bE,Dr⟩)) fun _=>aA.ok ⟨by grind,h3⟩;have hi:i<l.length:=om;rw [bR om om,bh (i:=i) om,bR om om,bK,gd hi];refine aA.cb (fun _=>aA.rq (nJ (by grind) de) (hrc _ ⟨i+1,rfl,hi,by dsimp only;omega,h3,h4.snoc (h.2 _ (List.getElem_mem hi))⟩ (hm _ om hi))) fun _=>?_;refine aA.bd (ahy F l i om om om) fun r ⟨e,e1,e2,e3⟩=>?_;rw [e1];refine aA.bd (P:=fun z:Bool×Int=>∃j:Nat,z.2=(j:Int)/\i<j/\j<=l.length) ?_ fun⟨b,_⟩ ⟨j,e4,j1,j2⟩=>?_
 ·refine aA.bd (P:=fun b=>b=true->e<l.length) (aA.cd (fun h=>aA.rq (jO om om) (aA.ok fun _=>om)) fun _=>aA.ok fun h=>nomatch h) fun b hb=>aA.cb (fun h=>?_) fun _=>?_
  ·have:=hb h
   rw [bh om];exact aA.bd (ahy F l (e+1) om om om) fun r ⟨j,j1,j2,j3⟩=>aA.ok ⟨j,j1,om,j3⟩
  ·by_cases he:e=i
   ·grind [aA.ok]
   ·rw [show ((e:Int)==(i:Int))=false from by simp;omega]
    grind [aA.ok]
 ·dsimp only at e4⊢
  subst e4;refine aA.cb (fun _=>aA.rq (nJ (by grind) de) (hrc _ ⟨j,rfl,j2,bE,Dr,by simp [EL]⟩ (hm j j1 j2))) fun _=>hrc _ ⟨j,rfl,j2,by dsimp only;omega,h3,h4.mono om⟩ (hm j j1 j2)
theorem ac2:∀(l:J aH)(k:Nat)(r:aH),k<l.length->cz (l.set k r)+(l.getD k dm).fText.length=cz l+r.fText.length
 | [],k,r,h=>absurd h (adb _)
 | a::l,0,r,h=>by simp [cz];omega
 | a::l,k+1,r,h=>by
  have:=ac2 l k r (by simpa using h);simp [cz] at this⊢;omega
theorem anF(F:Nat){k:Nat}(l:J cG)(h:EL k l)(hF:k<F)(hk:k<=100000000):aA (fun r:J aH=>r.length<=k/\cz r<=k) (Lg F l):=by
 have hl:=h.1;refine aA.lp (fun z:Int×J aH=>∃i:Nat,z.1=(i:Int)/\i<=l.length/\z.2.length<=i/\cz z.2<=i) (fun z=>l.length-z.1.toNat) ⟨0,rfl,om,si,by simp [cz]⟩ (by grind) ?_;rintro⟨_,o⟩ ⟨i,rfl,h1,h2,h3⟩ rc hrc;dsimp only at h2 h3 hrc⊢;refine aA.cd (fun h'=>?_) fun _=>aA.ok ⟨by grind,by show cz o<=_;omega⟩;have hi:i<l.length:=om;have hm:l.length-Int.toNat ((i+1:Nat):Int)<l.length-Int.toNat (i:Int):=om;have ht:=h.2 _ (kz hi);refine aA.bd (P:=fun z:Bool×J aH=>z.2=o/\(z.1=true->0<o.length)) ?_ fun⟨b,o2⟩ ⟨e,hb⟩=>?_
 ·refine aA.cd (fun h0=>?_) fun _=>aA.ok ⟨rfl,fun h=>nomatch h⟩
  rw [w5 om om]
  grind [aA.rq,jO,aA.ok]
 have e:o=o2:=e.symm;subst e;rw [bh (i:=i) om];have eg:l.getD i oD=l[i]:=gd hi;simp only [bK,eg];refine aA.cb (fun hb'=>?_) fun _=>?_
 ·have h0:=hb hb'
  have hs:=ac2 o (o.length-1) (aH.mk ((o.getD (o.length-1) dm).fText++l[i].fI) (o.getD (o.length-1) dm).b8) om;rw [w5 om h0];simp only [bK];have hg:(o.getD (o.length-1) dm).fText.length<=cz o:=by rw [gd om];exact akI (kz _)
  grind [aA.rq,jO,decide_eq_true]
 ·refine aA.rq (jO om om) (aA.rq (jO om om) (aA.rq (nJ (by grind) de) (hrc _ ⟨i+1,rfl,hi,bE,?_⟩ hm)))
  rw [BF];show cz o+(l[i].fI.length+0)<=_;omega
theorem ajI(F:Nat)(l:J aH)(s:Bs)(hF:100000000<=F)(h1:l.length<=100000)(h2:cz l<=5000000)(hs:s.length<=5000):aA (fun r=>r.length<=6000000/\∀f∈r,f.length<=6000000/\cz f<=6000000) (Gx F l s):=by
 refine aA.bd (anE F l s om om om hs) fun es Y4=>aA.bd (ajH F es Y4 om om) fun fs ⟨hf1,hf2⟩=>?_;refine aA.lp (fun z=>∃k:Nat,z.2=(k:Int)/\k<=fs.length/\z.1.length<=k/\∀f∈z.1,f.length<=6000000/\cz f<=6000000) (fun z=>fs.length-z.2.toNat) ⟨0,rfl,om,si,fun _ h=>nomatch h⟩ (by grind) ?_;rintro⟨o,_⟩ ⟨k,rfl,h3,h4,h5⟩ rc hrc;refine aA.cd (fun h=>?_) fun _=>aA.ok ⟨by grind,h5⟩;have hk:k<fs.length:=om;rw [bR om om,bh om,bK,gd hk];refine aA.bd (anF F _ (hf2 _ (List.getElem_mem hk)) om om) fun r hr=>aA.rq (nJ (by grind) de) (hrc _ ⟨k+1,rfl,hk,bE,fun f hf=>?_⟩ (by grind))
 grind
theorem ahz(F:Nat)(r:J aH)(hF:100000000<=F)(h1:r.length<=10000000)(h2:cz r<=10000000):∃b,tF F r=some b:=by
 have hcl:=ah4 r
 obtain⟨b,-,h⟩:=adW (F:=F) (r:=r) om om om om fun c hc=>by
  have:=ams r c hc;obtain⟨p,⟨g1,g2⟩,h⟩:=YP F c om om om om;obtain⟨x,hx⟩:=YQ F p om om g1;exact⟨p,x,h,hx⟩
 exact⟨b,h⟩
theorem alO(F:Nat)(l:J TPart)(p:dh){s:aX}(hN:NC<=F)(hF:100000000<=F)(hl:eN l<=1000)(hs:nF s)(hst:stop s=false):aA (fun r=>RB (eN l) r.1/\nF r.2) (ri F l p s):=by
 obtain⟨a,b,⟨h1,h2,-⟩,-,e⟩:=afx (fl:=[]) hN hF (VR F hF) F F l (cM.mk p.fq p.jV 0) p s ⟨rfl,rfl⟩ hs hst hl om om;exact⟨b,⟨h2,h1⟩,e⟩
theorem ahA(F:Nat)(e:dM)(w:J fZ)(a:J fh)(hN:NC<=F)(hF:100000000<=F)(hw:w.length<=100)(hp:∀x∈w,eN x.fParts<=1000)(he:OH e)(hA:uw e.bN)(ha:(∀x∈a,x.fText.length<=60)/\a.length<=2000):∃b,tO F e w a=some b:=by
 have:aA (fun _=>True) (tO F e w a):=by
  unfold tO qM;refine aA.lp (fun z=>∃k:Nat,z.2.1=(k:Int)/\k<=w.length/\nF z.2.2) (fun z=>w.length-z.2.1.toNat) ⟨0,rfl,om,⟨he,ha.1,ha.2,0,rfl,Nat.zero_le _⟩,hA,fun _=>rfl⟩ (by grind) ?_;rintro⟨n,_,s⟩ ⟨k,rfl,h1,h2⟩ rc hrc;dsimp only at h2 hrc⊢;refine aA.bd (P:=fun b=>b=true->k<w.length/\stop s=false) (aA.cd (fun h=>?_) fun _=>aA.ok fun h=>nomatch h) fun b hb=>aA.cb (fun h=>?_) fun _=>aA.ok trivial
  ·simp_all [vS,aA.ok]
  obtain⟨hk,hst⟩:=hb h;rw [bR om om,bh om,bK,gd hk];have hpk:=hp _ (kz hk);refine aA.bd (alO F _ _ hN hF hpk h2 hst) fun r ⟨r1,r2⟩=>?_;have hV:=r2.1.1.1;have hvl:=hV.1;have q1:=r1.1;have q2:=r1.2;refine aA.bd ?_ fun ifs aqb=>aA.bd (ajI F r.1 ifs hF om om aqb) fun fs ⟨f1,f2⟩=>?_
  ·unfold Ot
   rw [ya F _ _ om om];exact aA.cb (fun _=>aA.ok (by grind [OP])) fun _=>aA.ok de
  refine aA.lp (fun z=>∃i:Nat,z.2=(i:Int)/\i<=fs.length) (fun z=>fs.length-z.2.toNat) ⟨0,rfl,om⟩ (by grind) ?_;rintro⟨n',_⟩ ⟨i,rfl,i1⟩ rc' Bq;refine aA.cd (fun h=>?_) fun _=>hrc _ ⟨k+1,rfl,hk,r2⟩ (by grind);have hi:i<fs.length:=om;have hfi:=f2 _ (kz hi);obtain⟨b,hb⟩:=ahz F fs[i] hF om om;rw [bR om om,bh om,bK,gd hi,aa0 F _ om om om,aC,bR om om,hb,aC,aK];exact aA.cb (fun _=>aA.ok trivial) fun _=>Bq _ ⟨i+1,rfl,om⟩ (by grind)
 obtain⟨b,-,h⟩:=this;exact⟨b,h⟩
theorem aA.sc{R:Type}{Q:R->Prop}{c:Bool}{x y:R}(a:c=true->Q x)(b:c=false->Q y):aA Q (some (cond c x y)):=by
 grind [aA.ok]
theorem alP(F:Nat)(e:dM)(hF:100<F):aA (fun b=>b=true->(e.bN.length<=12/\∀v∈e.bN,v.fName.length<=60/\v.bL.length<=60)/\e.cC.length<=12/\(∀x∈e.cC,x.length<=60)/\e.fName.length<=60) (CA F e):=by
 unfold CA;simp only [aK,aC];refine aA.cb (fun _=>aA.ok fun h=>nomatch h) fun hc=>?_;simp at hc;refine aA.lp (fun i=>∃k:Nat,i=(k:Int)/\k<=e.bN.length/\∀v∈e.bN.take k,v.fName.length<=60/\v.bL.length<=60) (fun i=>e.bN.length-i.toNat) ⟨0,rfl,om,si⟩ (by grind) ?_;rintro _ ⟨k,rfl,h1,h2⟩ rc hrc;refine aA.cd (fun h=>?_) fun h=>?_
 ·have hk:k<e.bN.length:=om
  rw [bR om om,bR om om,bh om,bK,gd hk,aK,aC];refine aA.cb (fun _=>aA.ok fun h=>nomatch h) fun hv=>hrc _ ⟨k+1,rfl,hk,fun v iZ=>?_⟩ (by grind)
  grind [List.take_succ_eq_append_getElem,List.mem_singleton,cT,Bool.or_eq_false_iff,decide_eq_false_iff_not]
 ·have h2:∀v∈e.bN,v.fName.length<=60/\v.bL.length<=60:=by grind
  refine aA.lp (fun i=>∃k:Nat,i=(k:Int)/\k<=e.cC.length/\∀v∈e.cC.take k,v.length<=60) (fun i=>e.cC.length-i.toNat) ⟨0,rfl,om,si⟩ (by grind) ?_;rintro _ ⟨k,rfl,p1,p2⟩ rc' Bq;refine aA.cd (fun h=>?_) fun h=>aA.ok fun _=>⟨⟨om,h2⟩,om,by grind,om⟩;have hk:k<e.cC.length:=om;rw [bR om om,bh om,bK,gd hk];refine aA.cd (fun _=>aA.ok fun h=>nomatch h) fun hv=>Bq _ ⟨k+1,rfl,hk,fun v iZ=>?_⟩ (by grind)
  grind [List.take_succ_eq_append_getElem,List.mem_singleton]
theorem alQ(F:Nat)(l:J bC)(hF:200<F):aA (fun r=>r=0->uw l) (CB F l):=by
 unfold CB;refine aA.cd (fun _=>aA.ok fun h=>nomatch h) fun hl=>?_;refine aA.lp (fun i:Int=>∃k:Nat,i=(k:Int)/\k<=l.length/\uw (l.take k)) (fun i=>l.length-i.toNat) ⟨0,rfl,om,List.Pairwise.nil⟩ (by grind) ?_;rintro _ ⟨k,rfl,h1,hA⟩ rc hrc;refine aA.cd (fun h=>?_) fun h=>aA.ok fun _=>by grind
 have hk:k<l.length:=om
 have lt:aA (fun b:Bool=>b=false->k=0\/(l.getD (k-1) dW).fName<(l.getD k dW).fName) (cond (decide (0<(k:Int))) (rq ((decide (0<=aB ((k:Int)-1)))&&(decide (aB ((k:Int)-1)<(l.length:Int)))) (rq ((decide (0<=(k:Int)))&&(decide ((k:Int)<(l.length:Int)))) (some (!(Op.bytesLess ((l.getD (Int.toNat (aB ((k:Int)-1))) dW).fName) ((l.getD (Int.toNat (k:Int)) dW).fName)))))) (some false)):=by
  refine aA.cd (fun h0=>?_) fun _=>aA.ok fun _=>.inl om;rw [w5 om om]
  grind [aA.rq,jO,aA.ok,Kn]
 refine aA.rq (jO om om) (aA.bd (El F _ om) fun b _=>aA.cb (fun _=>aA.ok fun h=>nomatch h) fun _=>aA.rq (jO om om) (aA.cd (fun _=>aA.ok fun h=>nomatch h) fun _=>?_));refine aA.bd (P:=fun b:Bool=>b=false->k=0\/(l.getD (k-1) dW).fName<(l.getD k dW).fName) (aA.rq (jO om om) (aA.cb (fun _=>aA.rq (jO om om) (aA.cb (fun _=>aA.ok fun h=>nomatch h) fun _=>lt)) fun _=>lt)) fun b hb=>aA.cb (fun _=>aA.ok fun h=>nomatch h) fun hb0=>?_;rw [bh om];refine hrc _ ⟨k+1,rfl,hk,?_⟩ (by grind);unfold uw at hA⊢;rw [qB hk,List.pairwise_append];refine⟨hA,ade _ _,fun a ha c hc=>?_⟩;obtain rfl:=MD.1 hc;obtain⟨m,hm,rfl⟩:=lB ha;have hm2:m<k:=by grind
 rcases hb hb0 with h0|h0
 ·omega
 ·rw [gd hk,gd (show k-1<l.length by omega)] at h0
  by_cases e:m=k-1
  ·simp_all
  ·have:=(List.pairwise_iff_getElem.1 hA) m (k-1) hm (by grind) om
   grind
def ajJ(e:dM):Prop:=((e.bN.length<=12/\∀v∈e.bN,v.fName.length<=60/\v.bL.length<=60)/\e.cC.length<=12/\(∀x∈e.cC,x.length<=60)/\e.fName.length<=60)/\e.tC=[]/\e.nL=[]/\e.tD=[]/\En e.Kk=true/\(0<=e.iA/\e.iA<=255)/\(0<=e.fH/\e.fH<=255)/\0<=e.Bz/\0<=e.oh/\uw e.bN
theorem aa6{α:Type}{l:J α}(h:¬ 0<(l.length:Int)):l=[]:=adj.1 om
theorem anG(F:Nat)(e:dM)(hF:1000<F):aA (fun b=>b=true->ajJ e) (E1 F e):=by
 unfold E1;obtain⟨b1,h1,e1⟩:=alP F e om;obtain⟨b2,o5,e2⟩:=alQ F e.bN om;rw [e1,e2,YF F e.Kk om];simp only [aK,aC];refine aA.sc (fun _=>fun h=>nomatch h) fun hc=>fun ht=>?_;simp only [cT,cF,XL,cx,ajM,Bool.not_eq_false',fX] at hc ht;exact⟨h1 hc.1.1.1.1.1,aa6 hc.1.1.1.2,aa6 hc.1.1.2,aa6 hc.1.2,hc.2,om,om,om,om,o5 (by simpa using hc.1.1.1.1.2)⟩
theorem alR(F:Nat)(l:J Bs)(hF:10000<F):aA (fun r=>r.1.length<=8/\∀w∈r.1,eN w.fParts<=160) (ue F l):=by
 refine aA.lp (fun z=>∃k:Nat,z.2=(k:Int)/\k<=8/\z.1.length<=k/\∀w∈z.1,eN w.fParts<=160) (fun z=>8-z.2.toNat) ⟨0,rfl,om,si,fun _ h=>nomatch h⟩ (by show 8-0<F;omega) ?_;rintro⟨o,_⟩ ⟨k,rfl,h1,h2,h3⟩ rc hrc;rw [aK];refine aA.cb (fun hc=>?_) fun _=>aA.ok ⟨by grind,h3⟩;rw [cF,cx] at hc;have c1:=wS hc.1;have c2:=wS hc.2;have no:aA (fun r:J fZ×Bool=>r.1.length<=8/\∀w∈r.1,eN w.fParts<=160) (some ([],false)):=aA.ok ⟨si,fun _ h=>nomatch h⟩;refine aA.rq (jO om om) (aA.cd (fun _=>no) fun h80=>aA.rq (jO om om) (aA.bd (al8 F _ om om) fun r hr=>Hs (fun _=>no) fun _=>?_));rw [bh om];refine aA.rq (nJ (by grind) de) (hrc _ ⟨k+1,rfl,om,bE,fun w hw=>?_⟩ (by grind))
 grind
theorem ac3{e:dM}(h:ajJ e)(h1:K.gw e.Bz)(h2:K.gw e.oh):OH e:=by
 obtain⟨⟨⟨a1,a2⟩,a3,a4,a5⟩,f1,f2,f3,-,-,h6,-⟩:=h;exact⟨⟨om,fun v hv=>by have:=a2 v hv;omega⟩,a3,a4,a5,⟨om,om⟩,h1,h2,f1,f2,f3⟩
def Rdy(j:uO)(w:J fZ):Prop:=ajJ j.ou/\VL j.o6/\j.o6.length<=40/\(j.ke.length<=12/\∀a∈j.ke,a.fText.length<=60)/\w.length<=8/\∀x∈w,eN x.fParts<=160
theorem alS(F:Nat)(j:uO)(hN:NC<=F)(hF:100000000<=F)(h1:K.gw j.ou.Bz)(h2:K.gw j.ou.oh):aA (fun r=>r.2=true->Rdy j r.1) (CD F j):=by
 unfold CD;obtain⟨b,hb,e1⟩:=anG F j.ou om;obtain⟨c,hc,e2⟩:=ah0 F j.o6 om;rw [e1,e2];simp only [aK,aC];refine aA.cb (fun _=>aA.ok fun h=>nomatch h) fun hx=>?_;simp at hx;have hfit:=hb hx.1.1.1;have hsm:=hc hx.1.2;have hge:=ac3 hfit h1 h2;refine aA.lp (fun i=>∃k:Nat,i=(k:Int)/\k<=j.ke.length/\∀a∈j.ke.take k,a.fText.length<=60) (fun i=>j.ke.length-i.toNat) ⟨0,rfl,om,si⟩ (by grind) ?_;rintro _ ⟨k,rfl,k1,k2⟩ rc hrc;refine aA.cd (fun h=>?_) fun h=>?_
 ·have hk:k<j.ke.length:=om
  rw [bR om om,bh om,bK];refine aA.cd (fun _=>aA.ok fun h=>nomatch h) fun hv=>hrc _ ⟨k+1,rfl,hk,fun v iZ=>?_⟩ (by grind)
  grind [List.take_succ_eq_append_getElem,List.mem_singleton]
 ·have k2:∀a∈j.ke,a.fText.length<=60:=by grind
  refine aA.bd (alR F j.Jp om) fun r ⟨r1,r2⟩=>?_;rw [af0 F j.o6 om hsm];simp [aK];obtain⟨bd,hbd⟩:=ahA F j.ou r.1 j.ke hN hF om (fun x hx=>by have:=r2 x hx;omega) hge hfit.2.2.2.2.2.2.2.2.2 ⟨k2,om⟩;rw [hbd,aC,aK];refine aA.sc (fun _=>fun h=>nomatch h) fun hy=>fun _=>?_;have hv:gX j.o6=0:=by simp_all
  exact⟨hfit,(af2 _).1 hv,om,⟨om,k2⟩,r1,r2⟩
theorem alT{F k:Nat}(h:k<=F):∃n,F=n+k:=⟨F-k,om⟩
theorem ahB(F:Nat)(e:dM)(hF:10<=F)(h1:e.bN.length<=1000)(h2:e.cC.length<=1000)(h3:e.tC=[])(h4:e.nL=[])(h5:e.tD=[]):qz F e=some e:=by
 obtain⟨m,rfl⟩:=alT hF;unfold qz yO vO vP vQ vR;rw [h3,h4,h5,iB om de,iB om de];obtain⟨a1,a2,a3,a4,a5,a6,a7,a8,a9,a10,a11,a12,a13,a14⟩:=e;dsimp only at h3 h4 h5;subst h3 h4 h5;rfl
def aqc:dM:=dM.mk [] [] [] [] [] [] 0 0 0 0 [] (lU.mk 0 0) 0 false
def Lt(s:aX)(fs:J Bs):ei×Int:=cond (s.fe != 0) (ei.mk [] aqc false [] s.fm 0,s.fe) (ei.mk (cond s.kQ [] fs) s.ck s.kQ s.tn [] s.jD,0)
theorem ahC(F:Nat){e:dM}(h:OH e)(hF:10<=F):qz F e=some e:=ahB F e hF (by have:=h.1.1;omega) (by have:=h.2.1;omega) h.2.2.2.2.2.2.2.1 h.2.2.2.2.2.2.2.2.1 h.2.2.2.2.2.2.2.2.2
theorem ahD(F:Nat)(fl:J bu){s:aX}(h:nF s)(hs:stop s=false)(hF:10<=F)(fs:J Bs):dJ F fs true (gO fl s)=some (Lt s fs):=by
 obtain⟨h1,h2⟩:=acW hs;unfold dJ;rw [bq,show (gO fl s).ck=s.ck from rfl,ahC F h.1.1 hF,aC];unfold Lt;rw [h1,h2,h.2.2 h2];rfl
theorem Rz(F:Nat){s:aX}{x:aM}(h:nF s)(hx:Fin x s)(hF:10<=F)(fs gs:J Bs)(hs:stop s=true):dJ F fs false x=some (Lt s gs):=by
 unfold dJ Lt;rw [aS];rcases hx with⟨h1,h2,h3,h4⟩|⟨h1,h2,h3,h4,h5⟩
 ·rw [h2,h3,h4,show (s.fe != 0)=true by simpa using h1];rfl
 ·have hw:s.kQ=true:=by
   unfold stop at hs;rw [h1] at hs;exact hs
  rw [h2,h4,ahC F h.1.1 hF,h1,hw,h3,h5];rfl
def s0(e:dM)(a:J fh):aX:=aX.mk e a 0 (-1) 0 [] false []
theorem anH{e:dM}{a:J fh}(h:OH e)(hA:uw e.bN)(h1:∀x∈a,x.fText.length<=60)(h2:a.length<=2000):nF (s0 e a):=⟨⟨h,h1,h2,0,rfl,fO _⟩,hA,fun _=>rfl⟩
theorem ao1(F:Nat)(l:J aH)(hF:l.length<F)(h1:l.length<=1000000)(h2:cz l<=100000000):mL F l=oF F l:=by
 rw [FP F l hF om h2,aa0 F l hF om om];rfl
section
variable {F : Nat} {fl : J bu}
theorem aqd(hN:NC<=F)(hF:100000000<=F)(w:fZ)(hw:eN w.fParts<=200){s:aX}(h:nF s)(hs:stop s=false):T2 (fun a b=>RV fl a b/\b.1.length<=5000*eN w.fParts) (sr F w.fParts (cM.mk false false 0) (gO fl s)) (Aw F w.fParts false s):=by
 obtain⟨n,rfl⟩:∃n,F=n+1:=⟨F-1,om⟩;exact acZ (n:=n) hF (afx hN hF (VR _ hF) n) (n+1) w.fParts (cM.mk false false 0) false s rfl h hs om om om
end
theorem alU:CG 60=some true:=by
 unfold CG
 try simp only [KK]
 kernel_rfl
def SX(x:ei):Prop:=x.wH.length<=1000/\NoF x.ou/\x.ou.bN.length<=1000/\x.ou.cC.length<=1000
theorem J9{s:aX}(h:nF s){fs:J Bs}(hf:fs.length<=1000):SX (Lt s fs).1:=by
 have h1:=h.1.1.1.1;have h2:=h.1.1.2.1;unfold Lt
 cases (s.fe != 0) with
 | true=>exact⟨fO _,⟨rfl,rfl,rfl⟩,fO _,fO _⟩
 | false=>exact⟨by show (cond s.kQ [] fs).length<=_;cases s.kQ<;>simp;exact hf,h.1.1.2.2.2.2.2.2.2,by show s.ck.bN.length<=_;omega,by show s.ck.cC.length<=_;omega⟩
theorem aa7(F n:Nat)(hF:n<F)(hn:n<=1000000)(p:Int->Bool)(hp:∀x,p x=false):bV (σ:=Int) (R:=Bool) (fun bt x1=>cond (decide (x1<(n:Int))) (rq ((decide (0<=x1))&&(decide (x1<(n:Int)))) (rq ((decide (0<=x1))&&(decide (x1<(n:Int)))) (cond (p x1) (some false) (bt (aB (x1+1)))))) (some true)) F 0=some true:=by
 refine dw (fun s:Int=>∃k:Nat,s=(k:Int)/\k<=n) (fun s=>n-s.toNat) ?_ F _ ⟨0,rfl,om⟩ bE;rintro _ ⟨k,rfl,hk⟩;by_cases hk:k<n
 ·left
  refine⟨_,⟨k+1,rfl,om⟩,bE,fun rc=>?_⟩;rw [cO om,cq hk,cq hk,hp,aS,cJ om]
 ·right
  intro rc;rw [cf om]
theorem akp(F:Nat)(l:J Bs)(hF:l.length<F)(h:l.length<=1000000):nE F l l=some true:=by
 unfold nE;rw [ME,aS];exact aa7 F l.length hF h (fun x1=>!((l.getD (Int.toNat x1) [])==(l.getD (Int.toNat x1) []))) (fun x=>by simp)
theorem anI(F:Nat)(l:J bC)(hF:l.length<F)(h:l.length<=1000000):Fk F l l=some true:=by
 unfold Fk;rw [ME,aS];exact aa7 F l.length hF h (fun x1=>!(((l.getD (Int.toNat x1) dW).fName==(l.getD (Int.toNat x1) dW).fName)&&(((l.getD (Int.toNat x1) dW).bL==(l.getD (Int.toNat x1) dW).bL)&&(((l.getD (Int.toNat x1) dW).cE==(l.getD (Int.toNat x1) dW).cE)&&(((l.getD (Int.toNat x1) dW).uc==(l.getD (Int.toNat x1) dW).uc)&&(((l.getD (Int.toNat x1) dW).lq==(l.getD (Int.toNat x1) dW).lq)&&true)))))) (fun x=>by simp)
theorem akq(F:Nat){x:ei}(hF:1000<F)(h:SX x):AN F x x=some true:=by
 obtain⟨h1,⟨f1,f2,f3⟩,h2,h3⟩:=h
 have e:yw F x.ou x.ou=some true:=by
  unfold yw;rw [f1,f2,f3,anI F _ om om,akp F _ om om];simp
 unfold AN;rw [akp F _ om om,e];simp
def RF(a b:ei×Int):Prop:=a=b/\SX a.1
theorem Lu(F:Nat)(fs:J Bs)(s:aX):jK F fs s=some (Lt s fs):=by
 unfold jK Lt;cases s.fe != 0<;>cases s.kQ<;>rfl
theorem ao2(F:Nat)(s:Bs)(p:Int)(hF:500000<F):aA (fun r=>eN r.1<=2*s.length) (cond (decide (16384<(s.length:Int))) (some ([],0,3)) ((I3 F s 0 p 1 0).bind fun x1=>cond (x1.fE != 0) (some ([],x1.ML,x1.fE)) (some (x1.fParts,0,0)))):=by
 refine aA.cb (fun _=>aA.ok (by simp [eN])) fun hc=>?_;have sD:=XM hc;refine aA.bd ((MM om om F).1 0 p 1 0 om om) fun r q=>Hs (fun h=>aA.ok (by simp [eN])) fun h0=>?_;obtain⟨e,e1,e2,e3,e4,-⟩:=q h0
 grind [aA.ok]
section
variable {F : Nat} {fl : J bu}
theorem ao3(hN:NC<=F)(hF:100000000<=F)(w:fZ)(hw:eN w.fParts<=200){e:dM}{a:J fh}(he:OH e)(hA:uw e.bN)(h1:∀x∈a,x.fText.length<=60)(h2:a.length<=2000):
  T2 RF ((sr F w.fParts (cM.mk false false 0) (aM.mk e fl a (-1) false [] [] 0)).bind fun x=>dJ F [x.1] x.2.1 x.2.2) ((Aw F w.fParts false (aX.mk e a 0 (-1) 0 [] false [])).bind fun y=>jK F [y.1] y.2):=by
 refine T2.bd (aqd hN hF w hw (anH he hA h1 h2) rfl) ?_;rintro⟨t,ok,x⟩ ⟨t',s'⟩ ⟨⟨⟨g1,g2,g3⟩,-⟩,-⟩;rw [Lu];rcases g3 with⟨k1,k2⟩|⟨k1,k2,k3,-⟩
 ·cases k2
  rw [ahD F fl g1 k1 om];exact T2.ok ⟨rfl,J9 g1 si⟩
 ·subst k2
  rw [Rz F g1 k3 om [t] [t'] k1];exact T2.ok ⟨rfl,J9 g1 si⟩
theorem ao4(hN:NC<=F)(hF:100000000<=F)(w:fZ)(hw:eN w.fParts<=500){e:dM}{a:J fh}(he:OH e)(hA:uw e.bN)(h1:∀x∈a,x.fText.length<=60)(h2:a.length<=2000):
  T2 RF ((sn F w.fParts (cM.mk true false 0) (aM.mk e fl a (-1) false [] [] 0)).bind fun x=>(mL F x.1).bind fun t=>
    (cond (cond x.2.1 (decide (16384<(t.length:Int))) false) (dP F 3 x.2.2) (some (x.2.1,x.2.2)):O (Bool×aM)).bind fun y=>dJ F [t] y.1 y.2)
   ((ri F w.fParts (dh.mk true false false) (aX.mk e a 0 (-1) 0 [] false [])).bind fun x=>(oF F x.1).bind fun t=>
     (cond (decide (16384<(t.length:Int))) (eL F 3 [] x.2) (some x.2):O aX).bind fun y=>jK F [t] y):=by
 refine T2.bd (afx hN hF (VR _ hF) F F w.fParts (cM.mk true false 0) (dh.mk true false false) (s0 e a) (by simp [Mo]) (anH he hA h1 h2) rfl om om om) ?_;rintro⟨r,ok,x⟩ ⟨r',s⟩ ⟨g1,g2,g3⟩;dsimp only at g1 g2 g3⊢;have b1:=g2.1;have b2:=g2.2;have hT:oF F r'=some (zB r'):=by rw [<-ao1 F _ om om om,FP F _ om om om]
 rw [hT,aC];rcases g3 with⟨k1,k2,k3⟩|⟨k1,k2,k3,k4⟩
 ·cases k2
  have hl:r.length=r'.length:=by have:=congrArg List.length k3.1;simpa using this
  have hz:=acY k3.1;rw [FP F r om om om,VQ k3.1,aC];rw [bq]
  cases hb:decide (16384<((zB r').length:Int)) with
  | true=>
   rw [bq,bq,aoY,tT,aC,aC];obtain⟨f1,f2⟩:=failed (e:=3) k1 de;have hg:=Lq g1 3 [];rw [Lu];have hq:dJ F [zB r'] false (aM.mk (gO fl s).ck (gO fl s).TF (gO fl s).ek (gO fl s).jD (gO fl s).kQ (gO fl s).tn (gO fl s).fm 3)=some (Lt _ [zB r']):=Rz F hg f2 om _ _ f1;rw [hq]
   exact T2.ok ⟨rfl,J9 hg si⟩
  | false=>
   rw [aS,aS,aC,aC,Lu,ahD F fl g1 k1 om];exact T2.ok ⟨rfl,J9 g1 si⟩
 ·subst k2
  subst k4;rw [FP F [] bE si (by simp [cz]),aC];rw [aS,aS,aC,Rz F g1 k3 om _ [zB r'] k1]
  have hs:(cond (decide (16384<((zB r').length:Int))) (eL F 3 [] s) (some s):O aX)=some s:=by
   simp_all [tT]
  rw [hs,aC,Lu];exact T2.ok ⟨rfl,J9 g1 si⟩
end
section
variable {F : Nat} {fl : J bu}
theorem ao5(hN:NC<=F)(hF:100000000<=F)(w:fZ)(hw:eN w.fParts<=200){e:dM}{a:J fh}(he:OH e)(hA:uw e.bN)(h1:∀x∈a,x.fText.length<=60)(h2:a.length<=2000):T2 RF (xX F e fl w a) (Fj F e fl w a):=by
 obtain⟨x,y,h,e1,e2⟩:=ao3 (fl:=fl) hN hF w hw he hA h1 h2;obtain⟨p,p1,p2⟩:=Iu.1 e1;obtain⟨q,q1,q2⟩:=Iu.1 e2;refine⟨x,y,h,?_,?_⟩
 ·unfold xX sg
  rw [aC];dsimp only;rw [p1,aC,p2,aC]
 ·unfold Fj qM
  rw [aC];dsimp only;rw [q1,aC,q2,aC]
theorem ao6(hN:NC<=F)(hF:100000000<=F)(w:fZ)(hw:eN w.fParts<=500){e:dM}{a:J fh}(he:OH e)(hA:uw e.bN)(h1:∀x∈a,x.fText.length<=60)(h2:a.length<=2000):T2 RF (CH F e fl w a) (Fl F e fl w a):=by
 obtain⟨x,y,h,e1,e2⟩:=ao4 (fl:=fl) hN hF w hw he hA h1 h2;obtain⟨p,p1,p2⟩:=Iu.1 e1;obtain⟨t,t1,t2⟩:=Iu.1 p2;obtain⟨z,z1,z2⟩:=Iu.1 t2;obtain⟨q,q1,q2⟩:=Iu.1 e2;obtain⟨u,u1,u2⟩:=Iu.1 q2;obtain⟨v,v1,v2⟩:=Iu.1 u2;refine⟨x,y,h,?_,?_⟩
 ·unfold CH sg
  rw [aC];dsimp only
  have e7:((cond p.2.1 (some (decide (16384<(t.length:Int)))) (some false):O Bool).bind fun x5=>cond x5 ((dP F 3 p.2.2).bind fun x6=>some (x6.1,x6.2)) (some (p.2.1,p.2.2)):O (Bool×aM))=some z:=by
   rw [<-z1];cases p.2.1<;>rfl
  rw [p1,aC,t1,aC,e7,aC,z2,aC]
 ·unfold Fl qM
  rw [aC];dsimp only
  have e7:(cond (decide (16384<(u.length:Int))) ((eL F 3 [] q.2).bind fun x5=>some x5) (some q.2):O aX)=some v:=by
   rw [<-v1];cases decide (16384<(u.length:Int))
   ·rfl
   ·rw [bq,bq];cases eL F 3 [] q.2<;>rfl
  rw [q1,aC,u1,aC,e7,aC,v2,aC]
end
theorem expandTexts(j:uO)(here:Bs)(h1:K.gw j.ou.Bz)(h2:K.gw j.ou.oh):∃F,j9 F j here=some true:=by
 obtain⟨F,hN,hF⟩:∃F,NC<=F/\100000000<=F:=⟨NC+100000000,om,om⟩;refine⟨F,?_⟩;obtain⟨r,hr,e⟩:=alS F j hN hF h1 h2;obtain⟨p,hp,ep⟩:=ao2 F here 5 om;have ep:Lh F here=some p:=ep;unfold j9;simp only [KK];rw [e,aC,alU,ep];simp only [aC]
 cases hb:r.2 with
 | false=>rfl
 | true=>
  obtain⟨hfit,-,-,⟨a1,a2⟩,w1,w2⟩:=hr hb;have hge:=ac3 hfit h1 h2;have hA:=hfit.2.2.2.2.2.2.2.2.2;rw [ku,aS,aC]
  cases hl:decide (200<(here.length:Int)) with
  | true=>rfl
  | false=>
   have hl:=XM hl;rw [aS,aC]
   cases hz:(p.2.2 != 0) with
   | true=>rfl
   | false=>
    rw [aS];refine dw (fun s:Int=>∃k:Nat,s=(k:Int)/\k<=r.1.length) (fun s=>r.1.length-s.toNat) ?_ F _ ⟨0,rfl,om⟩ bE;rintro _ ⟨k,rfl,hk⟩;by_cases hk:k<r.1.length
    ·left
     refine⟨_,⟨k+1,rfl,om⟩,bE,fun rc=>?_⟩;obtain⟨x,y,⟨hxy,hs⟩,p1,p2⟩:=ao5 (fl:=j.o6) hN hF (r.1.getD k xu) (by rw [gd hk];have:=w2 _ (kz hk);omega) hge hA a2 om;subst hxy;rw [cO om,cq hk,cq hk,bK,p1,p2];have s2:=akq F om hs;simp only [aC,s2,ku,aS,ME];rw [cJ om]
    ·right
     intro rc;obtain⟨x,y,⟨hxy,hs⟩,p1,p2⟩:=ao6 (fl:=j.o6) hN hF (fZ.mk 0 p.1) (by show eN p.1<=500;omega) hge hA a2 om;subst hxy;have s2:=akq F om hs;rw [cf om,p1,p2];simp only [aC,s2,bq,FD]
end Go.Proofs.YthmndfnkdgmenaaGreatDoor
