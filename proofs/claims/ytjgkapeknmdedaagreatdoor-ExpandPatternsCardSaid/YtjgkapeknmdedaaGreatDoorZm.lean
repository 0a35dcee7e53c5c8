import Derived.Test.YtjgkapeknmdedaaGreatDoorEf
import Derived.Test.YtjgkapeknmdedaaGreatDoorTx
import Derived.Test.YtjgkapeknmdedaaGreatDoorSo
import Derived.Test.YtjgkapeknmdedaaGreatDoorPe
set_option linter.all false
namespace Go.Proofs.YtjgkapeknmdedaaGreatDoor
open Go.RT
set_option maxRecDepth 100000
def GD{α:Type}(S:α->Prop):Prop:=∀P:α->Nat->Prop,(∀a n m,n<=m->P a n->P a m)->(∀a,S a->∃N,P a N)->∃N,∀a,S a->P a N
theorem aaL:∀(k:Nat),GD (fun n=>n<k)
 | 0=>fun P hm h=>⟨0,fun a ha=>absurd ha (adb _)⟩
 | k+1=>fun P hm h=>by
  obtain⟨N,hN⟩:=aaL k P hm fun a ha=>h a om;obtain⟨M,hM⟩:=h k om;refine⟨N+M,fun a ha=>?_⟩;by_cases e:a=k
  ·grind
  ·exact hm _ N _ om (hN a om)
theorem Rh{α β:Type}{S:α->Prop}{T:β->Prop}(hS:GD S)(f:α->β)(hf:∀b,T b->∃a,S a/\f a=b):GD T:=fun P hm h=>by
 obtain⟨N,hN⟩:=hS (fun a n=>T (f a)->P (f a) n) (fun a n m hnm h1 h2=>hm _ n m hnm (h1 h2)) (fun a ha=>by
  by_cases ht:T (f a)
  ·simp_all
  simp_all)
 refine⟨N,fun b hb=>?_⟩
 grind
theorem alk:GD (fun _:UInt8=>True):=Rh (aaL 256) UInt8.ofNat fun b _=>⟨b.toNat,b.toNat_lt,si⟩
theorem On{α β:Type}{S:α->Prop}{T:β->Prop}(hS:GD S)(hT:GD T):GD (fun p:α×β=>S p.1/\T p.2):=fun P hm h=>by
 obtain⟨N,hN⟩:=hS (fun a n=>∀b,T b->P (a,b) n) (fun a n m hnm h1 b hb=>hm _ n m hnm (h1 b hb)) fun a ha=>hT (fun b n=>P (a,b) n) (fun b n m hnm h1=>hm _ n m hnm h1) fun b hb=>h (a,b) ⟨ha,hb⟩;exact⟨N,fun p hp=>hN p.1 hp.1 p.2 hp.2⟩
theorem Oo{α:Type}{S:α->Prop}(hS:GD S):∀(k:Nat),GD (fun l:J α=>l.length<=k/\∀a∈l,S a)
 | 0=>fun P hm h=>by
  simp_all
 | k+1=>fun P hm h=>by
  obtain⟨M,hM⟩:=h [] ⟨eR _,fun _ h=>nomatch h⟩
  obtain⟨N,hN⟩:=On hS (Oo hS k) (fun p n=>P (p.1::p.2) n) (fun p n m hnm h1=>hm _ n m hnm h1) fun p hp=>h _ ⟨by simp_all,fun a ha=>by
   grind⟩
  refine⟨N+M,fun l hl=>?_⟩
  cases l with
  | nil=>grind
  | cons a t=>exact hm _ N _ om (hN (a,t) ⟨hl.2 a (Mp),by simp_all,fun x hx=>hl.2 x (pQ _ hx)⟩)
theorem Ri(k:Nat):GD (fun s:Bs=>s.length<=k):=Rh (Oo alk k) id fun s hs=>⟨s,⟨hs,fun _ _=>trivial⟩,rfl⟩
theorem ajl:GD (fun l:J b8=>l.length<=128/\∀b∈l,b.fName.length<=60/\b.bK.length<=4096):=
 Oo (Rh (On (Ri 60) (Ri 4096)) (fun p=>b8.mk p.1 p.2) fun b hb=>⟨(b.fName,b.bK),hb,rfl⟩) 128
end Go.Proofs.YtjgkapeknmdedaaGreatDoor
namespace Go.Proofs.YtjgkapeknmdedaaGreatDoor.K
open Go.RT
theorem alm{e:TExpr}(ho:ia e){l:J cz}(hl:l.length<=1000)(hb:QZ l):gi (vS e l).1:=by
 have z:gi 0:=by unfold gi;decide
 unfold vS
 cases hv:(gQ e 0 != 0) with
 | true=>exact z
 | false=>
  have iX:gQ e 0=0:=by simpa using hv
  have g:Good e:=⟨Hu e 0 iX,ho,Tt e (Hu e 0 iX)⟩;obtain⟨k1,k2⟩:=NO e g _ _ (FX hb)
  grind
theorem ajm{I:Env->Prop}(hI:∀m k n,I m->I (jk cL m k (Lib.itoa n))):∀(e:TExpr)(m:Env),I m->I (ku e m).2.2:=by
 intro e
 induction e using TExpr.ind with
 | h op n name kids ih=>
  intro m hm;rw [Tr];show I (evB op n name (kids.map ku) m).2.2
  have hk:∀(i:Nat)(m:Env),I m->I ((kids.map ku).getD i dK m).2.2:=fun i m hm=>by
   by_cases h:i<kids.length
   ·simp_all
   ·rw [Ov,Qm (by simpa using h)];exact hm
  unfold evB IA NN aap
  grind
theorem ahh(e:TExpr)(l:J cz):∀b∈(vS e l).2.1,b.bK≠[]\/b∈l:=by
 have nd:∀u:Nat,Lib.decDigits u≠[]:=fun u=>by
  rw [Lib.decDigits];split<;>simp
 have nn:∀n:Int,Lib.itoa n≠[]:=fun n=>by
  unfold Lib.itoa
  grind
 have hI:=ajm (I:=fun m=>∀p∈m,p.2≠[]\/cz.mk p.1 p.2∈l) (fun m k n h p hp=>by
  rcases QW hp with rfl|hp
  ·exact .inl (nn n)
  ·exact h p hp) e (sU l) (by
  unfold sU
  have key:∀(k:J cz)(m:Env),(∀b∈k,b∈l)->(∀p∈m,p.2≠[]\/cz.mk p.1 p.2∈l)->∀p∈k.foldl (fun m b=>jk cL m b.fName b.bK) m,p.2≠[]\/cz.mk p.1 p.2∈l:=by
   intro k
   induction k with
   | nil=>intro m _ h;exact h
   | cons b k ih=>
    intro m hk h;refine ih _ (fun c hc=>hk c (pQ _ hc)) fun p hp=>?_;rcases QW hp with rfl|hp
    ·simp_all
    ·exact h p hp
  grind)
 intro b hb;unfold vS at hb;revert hb;cases (gQ e 0 != 0)
 ·cases ((ku e (sU l)).2.1 != 0)
  ·intro hb
   obtain⟨k,hk,rfl⟩:=(BN _ _).1 hb;rcases KL (ku e (sU l)).2.2 k ([]:Bs) with⟨p,hp,h1,h2⟩|⟨h1,_⟩
   ·have:=hI p hp
    rw [h1,h2] at this;exact this
   ·exact absurd hk h1
  ·intro hb;cases hb
 ·intro hb;cases hb
def T3(N:Nat)(s:Bs)(b:J cz):Prop:=∃r:Int×J cz×Int,(gi r.1/\r.2.1.length<=100000/\∀c∈r.2.1,c.bK≠[]\/c∈b)/\∀F,N<=F->CX F s b=some r/\Ao F s b=some r
theorem aln(s:Bs)(b:J cz)(hs:s.length<=4096)(hl:b.length<=128)(hb:QZ b):∃N,T3 N s b:=by
 obtain⟨x,⟨ho,hn⟩,hp⟩:=abU s hs;have h1:=aas ho om hb hn;have h2:=abS ho om hb hn;obtain⟨N,hN⟩:=hp.and (h1.and h2);refine⟨N,cond (x.2.2 != 0) (0,[],x.2.2) (vS x.1 b),?_,fun F hF=>?_⟩
 ·cases (x.2.2 != 0) with
  | true=>exact⟨show gi 0 by unfold gi;decide,eR _,fun _ h=>nomatch h⟩
  | false=>grind [alm,ag2,ahh]
 ·unfold CX Ao
  grind [TExpr.eta]
theorem aaM:∃N,∀(s:Bs)(b:J cz),s.length<=4096->b.length<=128->QZ b->T3 N s b:=by
 obtain⟨N,hN⟩:=On (Ri 4096) ajl (fun p n=>T3 n p.1 p.2) (fun p n m hnm ⟨r,h1,h2⟩=>⟨r,h1,fun F hF=>h2 F om⟩) fun p hp=>aln p.1 p.2 hp.1 hp.2.1 hp.2.2;exact⟨N,fun s b h1 h2 h3=>hN (s,b) ⟨h1,h2,h3⟩⟩
noncomputable def NC:Nat:=Classical.choose aaM
theorem Vz:∀(s:Bs)(b:J cz),s.length<=4096->b.length<=128->QZ b->T3 NC s b:=Classical.choose_spec aaM
end Go.Proofs.YtjgkapeknmdedaaGreatDoor.K
namespace Go.Proofs.YtjgkapeknmdedaaGreatDoor
open Go.RT
noncomputable def NC:Nat:=K.NC
abbrev CF(l:J b8):Prop:=∀b,b∈l->b.fName.length<=60/\b.bK.length<=4096
theorem Vz(s:Bs)(b:J b8)(h1:s.length<=4096)(h2:b.length<=128)(h3:CF b):∃r:Int×J b8×Int,(K.gi r.1/\r.2.1.length<=100000/\∀c∈r.2.1,c.bK≠[]\/c∈b)/\∀F,NC<=F->CX F s b=some r/\Ao F s b=some r:=K.Vz s b h1 h2 h3
set_option maxRecDepth 100000
def yF(l:J bC):Prop:=l.Pairwise fun a b=>a.fName<b.fName
theorem Rj{F:Nat}(l:J bC)(p:bC->Bool){m:bC->O Bool}(hm:∀v,m v=some (p v))(hF:l.length<F)(hl:l.length<=1000):
  bV (σ:=Int) (fun bp x1=>cond (decide (x1<(l.length:Int))) (rq ((decide (0<=x1))&&(decide (x1<(l.length:Int)))) ((m (l.getD (Int.toNat x1) dP)).bind fun x3=>cond x3 (some x1) (bp (aB (x1+1))))) (some (-1))) F 0=some ((l.findIdx? p).elim (-1) fun i=>(i:Int)):=by
 rw [qf l (fun i=>(i:Int)) p (fun i _=>some (i:Int)) (some (-1)) (s:=(0:Int)) hF rfl (fun i h rc=>?_) (fun rc=>?_)]
 ·rw [Qw _ _ _ dP];cases l.findIdx? p<;>simp
 ·rw [cM om,bU om om,bL,gd h,hm,aD,bn om]
 ·rw [cf om]
theorem Rk(p:bC->Bool):∀l:J bC,l.find? p=(l.findIdx? p).map fun i=>l.getD i dP
 | []=>rfl
 | x::l=>by
  rw [Ml,Xu,Rk p l];cases p x
  ·cases List.findIdx? p l<;>simp
  ·rfl
theorem La{p:bC->Bool}{l:J bC}{i:Nat}(h:l.findIdx? p=some i):i<l.length/\p (l.getD i dP)=true:=by
 grind [List.findIdx?_eq_some_iff_getElem,gd]
theorem ajn(F:Nat)(l:J bC)(n:Bs)(hF:l.length<F)(hl:l.length<=1000):yC F l n=some (ji l n):=by
 unfold yC Oc ji;rw [Rj l (fun v=>v.fName==n) (m:=fun v=>K4 F v n) (fun v=>rfl) hF hl,Rk]
 cases h:l.findIdx? fun v=>v.fName==n with
 | none=>rfl
 | some i=>
  obtain⟨h1,-⟩:=La h
  simp_all [cM,rq,bU]
theorem O8(F:Nat)(l:J bC)(i k:Nat)(v:bC)(hi:i+k<=l.length)(hl:l.length<=1000):qI F l (i:Int) (k:Int) [v]=some (l.take i++v::l.drop (i+k)):=by
 unfold qI;have e1:aB ((l.length:Int)+(([v]:J bC).length:Int))=((l.length+1:Nat):Int):=bI bE;have e2:aB ((i:Int)+(k:Int))=((i+k:Nat):Int):=bI om;have s1:sl l 0 (i:Int)=l.take i:=by simp [sl]
 have s2:sl l ((i+k:Nat):Int) (l.length:Int)=l.drop (i+k):=by grind [sl,Int.toNat_natCast,List.take_length]
 grind [cE,bU,nD,I6]
def gX(l:J bC)(n:Bs):Nat×Bool:=match l.findIdx? fun v=>v.fName==n with
 | some i=>(i,true)
 | none=>match l.findIdx? fun v=>!(Op.bytesLess v.fName n||v.fName==n) with
  | some i=>(i,false)
  | none=>(l.length,false)
theorem ahi(F:Nat)(l:J bC)(n:Bs)(hF:l.length<F)(hl:l.length<=1000):Ay F l n=some ((((gX l n).1:Nat):Int),(gX l n).2):=by
 unfold Ay IM IP gX;rw [Rj l (fun v=>v.fName==n) (m:=fun v=>Gf F v n) (fun v=>rfl) hF hl,Rj l (fun v=>!(Op.bytesLess v.fName n||v.fName==n)) (m:=fun v=>Gg F v n) (fun v=>rfl) hF hl]
 grind
theorem aaN(l:J bC)(n:Bs):(gX l n).1+cond (gX l n).2 1 0<=l.length:=by
 unfold gX;split
 ·rename_i i h
  exact (La h).1
 ·split
  ·rename_i i h
   exact Nat.le_of_lt (La h).1
  ·exact dY _
theorem WC{l:J bC}{n:Bs}:ji l n=cond (gX l n).2 (l.getD (gX l n).1 dP,true) (bC.mk [] [] false false false,false):=by
 unfold gX ji
 grind [Rk]
theorem T4{l:J bC}{n:Bs}(h:(gX l n).2=true):(l.getD (gX l n).1 dP).fName=n:=by
 unfold gX at h⊢
 grind [La]
theorem C6(v:bC):∀(l:J bC),(∀x∈l,¬ x.fName=v.fName)->mj v l true=l
 | [],_=>rfl
 | x::l,h=>by
  have h1:(x.fName==v.fName)=false:=by simpa using h x Mp
  simp only [mj,h1,Bool.true_or];rw [C6 v l fun y hy=>h y (pQ _ hy)];rfl
theorem Fj(v:bC):∀ {l:J bC},yF l->mj v l false=l.take (gX l v.fName).1++v::l.drop ((gX l v.fName).1+cond (gX l v.fName).2 1 0)
 | [],_=>rfl
 | x::l,h=>by
  obtain⟨h1,h2⟩:=wE.1 h;rcases Tf x.fName v.fName with hx|hx|hx
  ·have b1:=(Kb _ _).2 hx
   have b2:(x.fName==v.fName)=false:=by simpa using fun e:x.fName=v.fName=>lD _ (e▸hx)
   have:=Fj v h2
   have e:gX (x::l) v.fName=((gX l v.fName).1+1,(gX l v.fName).2):=by
    unfold gX;rw [Xu,Xu,b2,b1]
    cases l.findIdx? fun y=>y.fName==v.fName with
    | some i=>simp
    | none=>cases l.findIdx? fun y=>!(Op.bytesLess y.fName v.fName||y.fName==v.fName)<;>simp
   rw [e];simp only [mj,b1,b2];rw [show (false || !true)=false from rfl,this,show (gX l v.fName).1+1+cond (gX l v.fName).2 1 0=((gX l v.fName).1+cond (gX l v.fName).2 1 0)+1 by omega];rfl
  ·have b1:Op.bytesLess x.fName v.fName=false:=(Cy _ _).2 (by simp_all)
   have b2:(x.fName==v.fName)=true:=by simpa using hx
   have e:gX (x::l) v.fName=(0,true):=by unfold gX;grind
   simp only [mj]
   grind [C6,lD]
  ·have b1:=(Cy _ _).2 fun h=>lD _ (qh h hx)
   have b2:(x.fName==v.fName)=false:=by grind
   have hy:∀y∈l,¬ y.fName=v.fName:=fun y hy e=>lD v.fName (qh hx (by grind))
   have e:gX (x::l) v.fName=(0,false):=by
    unfold gX
    grind
   simp [mj,b2]
   simp_all [C6]
theorem Rl{v:bC}:∀ {l:J bC},yF l->yF (mj v l false)
 | [],_=>by unfold yF;exact ade _ _
 | x::l,h=>by
  obtain⟨h1,h2⟩:=wE.1 h;rcases Tf x.fName v.fName with hx|hx|hx
  ·have b1:=(Kb _ _).2 hx
   have b2:(x.fName==v.fName)=false:=by simpa using fun e:x.fName=v.fName=>lD _ (e▸hx)
   simp [mj,b1,b2];refine wE.2 ⟨fun y hy=>?_,Rl h2⟩;rcases Qs v l _ y hy with rfl|hy
   ·exact hx
   ·exact h1 y hy
  ·have b1:Op.bytesLess x.fName v.fName=false:=(Cy _ _).2 (by simp_all)
   have b2:(x.fName==v.fName)=true:=by simpa using hx
   simp only [mj,b1,b2];rw [show (false || !false)=true from rfl,C6 v l fun y hy e=>lD _ (by have:=h1 y hy;rw [hx,e] at this;exact this)];exact wE.2 ⟨fun y hy=>by simp_all,h2⟩
  ·have b1:=(Cy _ _).2 fun h=>lD _ (qh h hx)
   have b2:(x.fName==v.fName)=false:=by grind
   simp only [mj,b1,b2];rw [show (false || !false)=true from rfl,C6 v l fun y hy e=>lD v.fName (qh hx (by grind))];refine wE.2 ⟨fun y hy=>?_,h⟩;rcases gY.1 hy with rfl|hy
   ·exact hx
   ·exact qh hx (h1 y hy)
def GA(l:J bC):Prop:=GV l/\yF l
theorem GA.len{l:J bC}(h:GA l):l.length<=128:=h.1.1
theorem apR(F:Nat){l:J bC}(h:GA l)(n v:Bs)(hF:1000<F):∃r,GA r.1/\rX F l n v=some r/\Gh F l n v=some r:=by
 have hl:=h.1.1;obtain⟨r0,h0,e0⟩:=anR F h.1 n v hF;refine⟨r0,?_⟩;obtain⟨b,hb,eb⟩:=Ec F n om;unfold rX at e0⊢;unfold Gh;rw [K.FQ F n om,eb];rw [xH F l n om om] at e0⊢;rw [eb] at e0
 cases b with
 | false=>
  grind
 | true=>
  have hle:=aaN l n;have hgt:=WC (l:=l) (n:=n);have hnm:=T4 (l:=l) (n:=n);have hat:=fun a (b c d:Bool)=>(OE F l (bC.mk n a b c d) om om).trans (congrArg some (Fj (bC.mk n a b c d) h.2));have wM:=fun a (b c d:Bool)=>Fj (bC.mk n a b c d) h.2▸Rl h.2;rw [ahi F l n om om];rw [hgt] at e0⊢;dsimp only at hat wM hnm⊢;generalize gX l n=q at hle hgt hnm hat wM e0⊢;obtain⟨i,b⟩:=q
  cases b with
  | false=>
   dsimp at hle hat wM e0⊢;by_cases h4:4096<v.length
   ·grind
   rw [cf om] at e0⊢;rw [cf om];simp at e0⊢;by_cases h5:128<=l.length
   ·grind
   rw [cf om] at e0⊢;rw [hat] at e0⊢;cases e0;refine⟨⟨h0,wM _ _ _ _⟩,rfl,?_⟩;rw [cf om,show ((0:Int))=((0:Nat):Int) from rfl,O8 F l i 0 _ om om]
   rfl
  | true=>
   dsimp only [cond_false,cond_true,Option.bind_some] at hle hat wM hnm e0⊢;rw [bU om om,bL];generalize l.getD i dP=o at hnm e0⊢
   cases hr:o.kU with
   | true=>
    grind
   | false=>
   rw [hr] at e0;by_cases h4:4096<v.length
   ·grind
   rw [cf om] at e0⊢;rw [cf om];rw [hat] at e0⊢;cases e0;refine⟨⟨h0,wM _ _ _ _⟩,rfl,?_⟩;rw [bU om om,show ((1:Int))=((1:Nat):Int) from rfl,O8 F l i 1 _ om om]
   simp_all
theorem aoL(F:Nat){l:J bC}(h:GA l)(n:Bs)(a b:Bool)(hF:1000<F):∃r,GA r.1/\nZ F l n a b=some r/\CY F l n a b=some r:=by
 have hl:=h.1.1;obtain⟨r0,h0,e0⟩:=al0 F h.1 n a b hF;refine⟨r0,?_⟩;obtain⟨c,hb,eb⟩:=Ec F n om;unfold nZ at e0⊢;unfold CY;rw [K.FQ F n om,eb];rw [eb] at e0
 cases c with
 | false=>
  grind
 | true=>
  rw [xH F l n om om] at e0⊢;have hle:=aaN l n;have hgt:=WC (l:=l) (n:=n);have hnm:=T4 (l:=l) (n:=n);have hat:=fun a (b c d:Bool)=>(OE F l (bC.mk n a b c d) om om).trans (congrArg some (Fj (bC.mk n a b c d) h.2));have wM:=fun a (b c d:Bool)=>Fj (bC.mk n a b c d) h.2▸Rl h.2;rw [ahi F l n om om];rw [hgt] at e0⊢;dsimp only at hat wM hnm⊢;generalize gX l n=q at hle hgt hnm hat wM e0⊢;obtain⟨i,c⟩:=q
  cases c with
  | false=>
   dsimp at hle hat wM e0⊢;simp at e0⊢;by_cases h5:128<=l.length
   ·grind
   rw [cf om] at e0⊢;rw [hat] at e0⊢;cases e0;refine⟨⟨h0,wM _ _ _ _⟩,rfl,?_⟩;rw [cf om,show ((0:Int))=((0:Nat):Int) from rfl,O8 F l i 0 _ om om]
   rfl
  | true=>
   dsimp only [cond_false,cond_true,Option.bind_some] at hle hat wM hnm e0⊢;rw [bU om om];simp [aK] at e0⊢;rw [hat] at e0⊢;cases e0;refine⟨⟨h0,wM _ _ _ _⟩,rfl,?_⟩;rw [show ((1:Int))=((1:Nat):Int) from rfl,O8 F l i 1 _ om om]
   simp_all
def pL:Nat->Bs->Nat
 | a,[]=>a
 | a,b::l=>pL (10*a+(b.toNat-48)) l
def A9(b:UInt8):Bool:=decide (48<=b.toNat)&&decide (b.toNat<=57)
theorem VA:∀(l:Bs)(a:Nat),a*10^l.length<=pL a l
 | [],a=>Nat.le_of_eq (Rq a)
 | b::l,a=>by
  have:=VA l (10*a+(b.toNat-48))
  have h2:a*10^(l.length+1)<=(10*a+(b.toNat-48))*10^l.length:=by
   rw [Nat.pow_succ,Xz (10^l.length)]
   grind
  show a*10^(l.length+1)<=pL (10*a+(b.toNat-48)) l
  grind
theorem alo(l:Bs)(a:Nat):a<=pL a l:=by
 have:=VA l a;have h:=ac8 a (Nat.pow_pos (n:=l.length) (by decide:0<10));omega
theorem Rm:∀(l m:Bs)(a:Nat),pL a (l++m)=pL (pL a l) m
 | [],m,a=>rfl
 | b::l,m,a=>Rm l m _
theorem WD(s:Bs){k:Nat}(h:k<s.length):pL 0 (s.take (k+1))=10*pL 0 (s.take k)+(s[k].toNat-48):=by
 rw [pR h,Rm];rfl
theorem ahj(s:Bs)(k:Nat):pL 0 (s.take k)<=pL 0 s:=by
 grind [List.take_append_drop,Rm,alo]
def AH(s:Bs):Int×Bool:=if s.all A9=true/\pL 0 s<=2147483647 then ((pL 0 s:Nat),true) else (0,false)
theorem aaO{s:Bs}{k:Nat}(h:k<s.length)(ha:(s.take k).all A9=true)(hd:A9 s[k]=true):(s.take (k+1)).all A9=true:=by
 grind [List.take_succ_eq_append_getElem]
theorem VB{s:Bs}{k:Nat}(h:k<s.length)(hd:A9 s[k]=false):AH s=(0,false):=by
 unfold AH
 grind
theorem apS(F:Nat)(s:Bs)(hF:s.length<F)(hl:s.length<=1000)(h0:s≠[])(h1:s.getD 0 0≠48):pG F s=some (AH s):=by
 have:aA (fun r=>r=AH s) (pG F s):=by
  unfold pG
  have e1:(s==[48])=false:=by
   grind
  have e2:(s==[])=false:=by simpa using h0
  have e3:(((s.getD 0 0).toNat:Int)==48)=false:=by
   have:(s.getD 0 0).toNat≠48:=fun h=>h1 (by apply UInt8.toNat_inj.1;rw [h];rfl)
   grind
  have:=y6.2 h0;rw [e1,e2,aO,aO,qZ om,e3,aD,aO];refine aA.lp (fun z:Int×Bs×Int=>z.2.1=s/\∃k:Nat,z.2.2=(k:Int)/\k<=s.length/\(s.take k).all A9=true/\z.1=(pL 0 (s.take k):Nat)/\pL 0 (s.take k)<=2147483647) (fun z=>s.length-z.2.2.toNat) ⟨rfl,0,rfl,om,rfl,rfl,eR _⟩ (by simp_all) ?_;rintro⟨x,s',p⟩ ⟨q1,k,q2,h2,h3,q3,h4⟩ rc hrc;have q1:=q1.symm;subst q1 q2 q3;rw [bL];by_cases hk:k<s.length
  ·have hb:Nat.blt k s.length=true:=Nat.ble_eq_true_of_le hk
   rw [hb,bf,K.agM,aD];have hgd:s.getD k 0=s[k]:=gd hk;by_cases hs:(s.getD k 0).toNat<128
   ·rw [K.NG hs]
    have hdd:K.eT ((s.getD k 0).toNat:Int)=A9 s[k]:=by
     unfold K.eT A9;grind
    rw [hdd]
    cases hd:A9 s[k] with
    | false=>grind [aA.ok,VB]
    | true=>
     have hd':=hd;unfold A9 at hd';rw [cw,fq,fq] at hd';have ev:=WD s hk
     have e5:aB ((aB (10*((pL 0 (s.take k):Nat):Int)))+(aB (IntKind.wrap .i32 (((s.getD k 0).toNat:Int)-48))))=((pL 0 (s.take (k+1)):Nat):Int):=by
      rw [hgd,show IntKind.wrap .i32 ((s[k].toNat:Int)-48)=(s[k].toNat:Int)-48 from IntWalk.i32_in _ om,bI (x:=(s[k].toNat:Int)-48) om,bI (x:=10*_) om,bI om,ev];omega
     dsimp only;rw [e5];refine aA.cd (fun h=>aA.ok ?_) fun h=>hrc _ ⟨rfl,k+1,rfl,hk,aaO hk h3 hd,rfl,om⟩ (by grind);have:=ahj s (k+1);unfold AH;rw [if_neg om]
   ·have:=K.Wr hs
    have:K.eT ((dec s k).1:Int)=false:=by
     unfold K.eT;grind
    rw [this];refine aA.ok (VB hk ?_).symm;unfold A9;grind
  ·have hb:Nat.blt k s.length=false:=by
    cases h:Nat.blt k s.length with
    | false=>rfl
    | true=>exact absurd (kZ h) hk
   rw [hb,aO];refine aA.ok ?_;unfold AH
   grind
 obtain⟨r,h,e⟩:=this;rw [e,h]
theorem apT(F:Nat)(s:Bs)(hF:s.length<F)(hl:s.length<=1000)(h0:s≠[])(h1:s.getD 0 0≠48):lq F s=some (AH s):=by
 have:aA (fun r=>r=AH s) (lq F s):=by
  unfold lq;have e2:(s==[])=false:=by simpa using h0
  have e3:(((s.getD 0 0).toNat:Int)==48)=false:=by
   have:(s.getD 0 0).toNat≠48:=fun h=>h1 (by apply UInt8.toNat_inj.1;rw [h];rfl)
   grind
  have hp:=y6.2 h0;rw [e2,aO,aD];refine aA.bd (P:=fun b=>b=decide (10<s.length)) (aA.cd (fun h=>aA.ok (by grind)) fun h=>?_) fun b hb=>?_
  ·grind [qZ,aA.ok,decide_eq_false]
  subst hb;refine aA.cd (fun h=>aA.ok ?_) fun h=>?_
  ·unfold AH
   rw [if_neg fun hh=>?_];have hall:=mL.1 hh.1
   obtain⟨a,l,rfl⟩:∃a l,s=a::l:=by cases s with
    | nil=>exact absurd rfl h0
    | cons a l=>exact⟨a,l,rfl⟩
   have ha:=hall a Mp;unfold A9 at ha;rw [cw,fq,fq] at ha;have hne:a.toNat≠48:=fun h=>h1 (by simp_all);have h5:=VA l (10*0+(a.toNat-48));have h6:10^10<=10^l.length:=Nat.pow_le_pow_right de (by simp at h;omega);have h7:1*10^l.length<=(10*0+(a.toNat-48))*10^l.length:=ye _ om;have h8:pL 0 (a::l)=pL (10*0+(a.toNat-48)) l:=rfl
   grind
  ·refine aA.lp (fun z:Int×Int=>∃k:Nat,z.2=(k:Int)/\k<=s.length/\(s.take k).all A9=true/\z.1=(pL 0 (s.take k):Nat)/\pL 0 (s.take k)<10^k) (fun z=>s.length-z.2.toNat) ⟨0,rfl,om,rfl,rfl,Nat.one_pos⟩ (by simp_all) ?_
   rintro⟨x,p⟩ ⟨k,q2,h2,h3,q3,h4⟩ rc hrc;dsimp only at q2 q3 hrc⊢;subst q2 q3;refine aA.cd (fun hk=>?_) fun hk=>?_
   ·have hk:k<s.length:=om
    have hgd:s.getD k 0=s[k]:=gd hk;rw [bU om om,bL,K.Ti,aD,hgd]
    have hdd:K.eT (s[k].toNat:Int)=A9 s[k]:=by
     unfold K.eT A9
     grind
    rw [hdd]
    cases hd:A9 s[k] with
    | false=>grind [aA.ok,VB]
    | true=>
     have hd':=hd;unfold A9 at hd';rw [cw,fq,fq] at hd';have ev:=WD s hk;have h10:10^k<=10^9:=Nat.pow_le_pow_right de om
     have e5:aB ((aB (10*((pL 0 (s.take k):Nat):Int)))+(aB (IntKind.wrap .u8 ((s[k].toNat:Int)-48))))=((pL 0 (s.take (k+1)):Nat):Int):=by
      rw [show IntKind.wrap .u8 ((s[k].toNat:Int)-48)=(s[k].toNat:Int)-48 from by
       show ((s[k].toNat:Int)-48)%256=_;omega,bI (x:=(s[k].toNat:Int)-48) om,bI (x:=10*_) om,bI om,ev]
      omega
     rw [jD,aO,bU om om,e5,bn om];refine hrc _ ⟨k+1,rfl,hk,aaO hk h3 hd,rfl,?_⟩ (by grind)
     grind
   ·rw [H9 om] at h3 h4⊢
    unfold AH;refine aA.cd (fun h=>aA.ok ?_) fun h=>aA.ok ?_
    ·rw [if_neg om]
    grind
 obtain⟨r,h,e⟩:=this;rw [e,h]
def NoF(e:dX):Prop:=e.tf=[]/\e.nF=[]/\e.tg=[]
def WE(e:dX):Prop:=GV e.bR/\e.cD.length<=12/\(∀x∈e.cD,x.length<=60)/\e.fName.length<=60/\K.gi e.fC/\K.gi e.Bo/\K.gi e.oa/\NoF e
def GS(s:aY):Prop:=WE s.cm/\(∀a∈s.ec,a.fText.length<=60)/\s.ec.length<=100/\∃u:Nat,s.fused=(u:Int)/\u<=s.ec.length
def stop(s:aY):Bool:=s.fe != 0||s.kI
def RB(k:Nat)(l:J aH):Prop:=l.length<=26*k/\cA l<=5000*k
theorem RB.one{k:Nat}{t:Bs}{c:Int}(hk:1<=k)(h:t.length<=5000*k):RB k [aH.mk t c]:=⟨bE,by simp [cA];omega⟩
theorem RB.nil{k:Nat}:RB k []:=⟨si,by simp [cA]⟩
theorem RB.mono{k j:Nat}{l:J aH}(h:RB k l)(hj:k<=j):RB j l:=⟨by have:=h.1;omega,by have:=h.2;omega⟩
theorem RB.app{k j:Nat}{l m:J aH}(h:RB k l)(h':RB j m):RB (k+j) (l++m):=⟨by have:=h.1;have:=h'.1;grind,by have:=h.2;have:=h'.2;rw [Bu];omega⟩
theorem oH(F:Nat)(s:aY):gy F s=some (stop s):=by unfold gy;rw [aK];rfl
theorem tI(F:Nat)(e:Int)(m:Bs)(s:aY):gu F e m s=some (cond (stop s) s {s with fe:=e,eV:=m}):=by
 unfold gu;grind [oH]
theorem ahk{s:aY}{e:Int}(he:e≠0)(m:Bs):stop (cond (stop s) s {s with fe:=e,eV:=m})=true:=by
 cases h:stop s with
 | true=>exact h
 | false=>show (e != 0||_)=true;simp_all
theorem O9(F:Nat)(p:cZ):∃c,ei F p=some c:=by unfold ei;simp_all [aK]
theorem ank(F:Nat)(p:cZ):∃c,pE F p=some c:=by unfold pE;simp_all [aK]
theorem ajo(F:Nat)(e:Int):aA (fun r=>r.length<=100) (Ap F e):=by
 exact aA.cb (fun _=>aA.ok de) fun _=>aA.cb (fun _=>aA.ok de) fun _=>aA.cb (fun _=>aA.ok de) fun _=>aA.cb (fun _=>aA.ok de) fun _=>aA.ok de
theorem ajp(F:Nat)(o:Int)(c s:Bool)(v:Bs):∃r,rT F o c s v=some r:=by unfold rT;simp_all [aK,aD]
theorem aj9(F:Nat)(p:TPart):∃b,vg F p=some b:=by unfold vg;simp_all [aK,aD]
theorem aoM(F:Nat)(n:Int)(hF:30<=F)(h:K.gi n):∃r,r.length<=60/\dy F n=some r:=⟨_,K.vR h,K.Jy F hF h⟩
theorem aaP(F:Nat)(l:J aH)(hF:l.length<F)(h1:l.length<=1000000000)(h2:cA l<=1000000000):qt F l=some (l.flatMap fun r=>r.fText):=by
 have:aA (fun r=>r=l.flatMap fun r=>r.fText) (qt F l):=by
  have hsz:∀k,((l.take k).flatMap fun r=>r.fText).length<=cA l:=fun k=>by
   have h:(l.flatMap fun r=>r.fText)=((l.take k).flatMap fun r=>r.fText)++((l.drop k).flatMap fun r=>r.fText):=by rw [<-adf,Ow]
   have h2:cA l=(l.flatMap fun r=>r.fText).length:=by unfold cA;rw [List.length_flatMap]
   simp_all
  refine aA.lp (fun z=>∃k:Nat,z.2=(k:Int)/\k<=l.length/\z.1=(l.take k).flatMap fun r=>r.fText) (fun z=>l.length-z.2.toNat) ⟨0,rfl,om,si⟩ (by simp_all) ?_;rintro⟨_,_⟩ ⟨k,rfl,h3,rfl⟩ rc hrc;dsimp only at hrc⊢;refine aA.cd (fun h=>?_) fun h=>aA.ok (by grind);have hk:k<l.length:=om;have e1:((l.take (k+1)).flatMap fun r=>r.fText)=((l.take k).flatMap fun r=>r.fText)++l[k].fText:=by rw [agI _ _ _ hk]
  have h5:=hsz (k+1);rw [e1,yb] at h5;rw [bU om om,bL,gd hk,bn om];exact aA.rq (decide_eq_true om) (hrc _ ⟨k+1,rfl,hk,e1.symm⟩ (by grind))
 obtain⟨r,h,e⟩:=this;rw [e,h]
theorem aoN(F:Nat)(n:Bs)(hF:n.length<F)(hn:n.length<=1000):∃r,gv F n=some r:=by
 by_cases h:n=[]
 ·subst h;exact⟨0,rfl⟩
 have:=y6.2 h;obtain⟨d,hd⟩:=Ui F n hF hn;unfold gv;rw [qZ om]
 simp_all [aD,aK]
theorem alp(F:Nat){e:dX}(h:WE e)(n:Bs)(hF:1000<F)(hn:n.length<=1000):aA (fun r=>r.1.length<=4096) (jL F e n):=by
 obtain⟨hV,hP,hP',hN,h1,h2,h3,-⟩:=h;have hl:=hV.1;unfold jL;obtain⟨p,hp⟩:=aoN F n om om;rw [hp,aD,xH F e.bR n om om];refine aA.bd (Ec F n om) fun b _=>aA.cb (fun _=>?_) fun _=>?_
 ·exact aA.cb (fun _=>aA.ok de) fun _=>aA.ok (OD hV n).2
 rw [aK];refine aA.cb (fun hc=>?_) fun _=>?_
 ·rw [cF,cw] at hc
  have c1:=yX hc.1;have c2:=yX hc.2;rw [bI om];refine aA.rq (jM om om) (aA.ok ?_);have hk:(p-1).toNat<e.cD.length:=om;rw [gd hk]
  grind
 refine aA.cb (fun _=>aA.ok (by grind)) fun _=>?_
 have dec:∀(m:Int),K.gi m->aA (fun r=>r.1.length<=4096) ((dy F m).bind fun x=>some (x,true)):=fun m hm=>by
  obtain⟨r,h1,h2⟩:=aoM F m om hm
  grind [aA.ok]
 refine aA.cb (fun _=>dec _ ⟨om,om⟩) fun _=>aA.cb (fun _=>dec _ h1) fun _=>aA.cb (fun _=>?_) fun _=>aA.cb (fun _=>dec _ h2) fun _=>?_
 ·grind [aA.bd,aks,aA.ok]
 rw [aK];refine aA.cb (fun _=>dec _ h3) fun _=>aA.cb (fun _=>?_) fun _=>aA.cb (fun _=>?_) fun _=>aA.ok de
 ·grind [aA.bd,afE,aA.ok]
 grind [aA.bd,afF,afE,aA.ok]
theorem alq(F:Nat){s:aY}(h:GS s)(n v:Bs)(p:cZ)(hv:v.length<=4096)(hF:1000<F):aA (RB 1) (lK F n v p s):=by
 obtain⟨⟨hV,hP,hP',-⟩,-⟩:=h;unfold lK;simp only [aK];obtain⟨c,hc⟩:=O9 F p;rw [hc];refine aA.cb (fun _=>aA.ok (RB.one om om)) fun _=>?_;refine aA.lp (fun z=>∃k:Nat,z.2=(k:Int)/\k<=s.cm.cD.length/\z.1.length<=2*k/\cA z.1<=60*k) (fun z=>s.cm.cD.length-z.2.toNat) ⟨0,rfl,om,si,by simp [cA]⟩ (by grind) ?_;rintro⟨o,_⟩ ⟨k,rfl,h1,h2,h3⟩ rc hrc;refine aA.cd (fun h=>?_) fun _=>aA.ok ⟨om,om⟩;have hk:k<s.cm.cD.length:=om;have hx:=hP' _ (jN hk);refine aA.bd (P:=fun u=>u.length<=2*k+1/\cA u<=60*k) (aA.cd (fun _=>aA.rq (nD (by grind) de) (aA.ok ⟨bE,by rw [Bu];show cA o+0<=_;omega⟩)) fun _=>aA.ok ⟨om,h3⟩) fun u hu=>?_;rw [bU om om,bL,gd hk,bn om];refine aA.rq (nD (by grind) de) (hrc _ ⟨k+1,rfl,hk,?_,?_⟩ (by grind))
 ·grind
 ·show cA (u++[aH.mk s.cm.cD[k] c])<=_;rw [Bu];simp [cA] at hu⊢;omega
theorem anl(F:Nat)(o:Int):Cs F o=tK F o:=rfl
theorem ahl(g x:Bs):∀l:J Bs,l≠[]->Lib.join (l++[x]) g=Lib.join l g++(g++x)
 | [],h=>absurd rfl h
 | a::l,_=>by
  rw [yh,Lib.join_cons,Lib.join_cons];unfold Lib.joinTail;simp
theorem WG(l:J Bs)(g:Bs)(n:Nat)(hg:g.length<=1)(h:∀a∈l,a.length<=n):(Lib.join l g).length<=(n+1)*l.length:=by
 cases l with
 | nil=>simp [Lib.join_nil]
 | cons a r=>
  rw [Lib.join_cons]
  have h2:∀r:J Bs,(∀c∈r,c.length<=n)->(Lib.joinTail g r).length<=(n+1)*r.length:=fun r=>by
   unfold Lib.joinTail
   induction r with
   | nil=>intro _;simp
   | cons b r ih=>grind [List.mem_cons_self,List.mem_cons_of_mem,List.flatten_cons,List.length_append,List.length_cons,Nat.mul_succ]
  grind [List.mem_cons_of_mem,List.length_append,List.length_cons,Nat.mul_succ]
theorem aoO(F:Nat)(l:J Bs)(g:Bs)(hF:100<F)(h1:l.length<=12)(h2:∀x∈l,x.length<=60)(hg:g.length<=1):Es F l g=some (Lib.join l g)/\qg F l g=some (Lib.join l g):=by
 have hlen:=WG l g 60 hg h2;constructor
 ·grind [Es,bU]
 have:aA (fun r=>r=Lib.join l g) (qg F l g):=by
  refine aA.lp (fun z=>∃k:Nat,z.2=(k:Int)/\k<=l.length/\z.1=Lib.join (l.take k) g) (fun z=>l.length-z.2.toNat) ⟨0,rfl,om,by simp [Lib.join_nil]⟩ (by grind) ?_;rintro⟨o,p⟩ ⟨k,q1,h3,q2⟩ rc hrc;dsimp only at q1 q2 hrc⊢;subst q1 q2
  have hj:(Lib.join (l.take k) g).length<=61*12:=by
   have a:=WG (l.take k) g 60 hg fun x hx=>h2 x (adg hx)
   grind
  refine aA.cd (fun h=>?_) fun h=>aA.ok (by grind);have hk:k<l.length:=om;have hx:=h2 _ (jN hk)
  have e1:Lib.join (l.take (k+1)) g=(if 0<k then Lib.join (l.take k) g++g else Lib.join (l.take k) g)++l[k]:=by
   rw [pR hk];by_cases h0:0<k
   ·rw [if_pos h0,ahl _ _ _ (fun e=>by have:=congrArg List.length e;simp_all),Fo]
   ·obtain rfl:k=0:=om
    simp [Lib.join_nil,Lib.join_cons,Lib.joinTail]
  refine aA.bd (P:=fun u=>u=if 0<k then Lib.join (l.take k) g++g else Lib.join (l.take k) g) (aA.cd (fun h0=>aA.rq (dN om) (aA.ok (by rw [if_pos om]))) fun h0=>aA.ok (by rw [if_neg om])) fun u hu=>?_;have hul:u.length<=61*12+1:=by grind
  rw [bU om om,bL,gd hk,bn om];refine aA.rq (decide_eq_true om) (hrc _ ⟨k+1,rfl,hk,by dsimp only;rw [e1,hu]⟩ (by grind))
 obtain⟨r,h,e⟩:=this;rw [e,h]
def spec(n:Bs):Bool:=[[64],[42],[35],[63],[45],[36],[33],[48]].contains n
theorem ahm:∀n:Fin 256,decide (0<=Lib.indexByte [64,42,35,63,45,36,33,48] (UInt8.ofNat n.val))=spec [UInt8.ofNat n.val]:=by decide +kernel
theorem aaQ{n:Bs}(h:spec n=true):n.length=1:=by
 unfold spec at h;simp at h
 grind
theorem aoP(F:Nat)(n:Bs):xW F n=some (spec n):=by
 unfold xW;by_cases h:n.length=1
 ·obtain⟨b,rfl⟩:=Xv.1 h
  have hb:=ahm ⟨b.toNat,b.toNat_lt⟩
  have e:stringslite_Index F [64,42,35,63,45,36,33,48] [b]=some (Lib.indexByte [64,42,35,63,45,36,33,48] b):=by
   unfold stringslite_Index stringslite_IndexByte
   have e1:(([b]:Bs)==[64,42,35,63,45,36,33,48])=false:=by
    simp_all
   simp;show ((ibF F _ _).bind _)=_
   simp_all [ibF,bL]
  unfold strings_Contains strings_Index
  simp_all
 grind [beq_eq_false_iff_ne,aaQ]
theorem afq(F:Nat)(hF:30<=F){n:Int}(h:K.gi n):oq F n=some (Lib.itoa n):=by
 unfold oq;rw [bU h.1 h.2]
theorem apU(F:Nat)(e:dX)(hF:1000<F)(hl:e.bR.length<=128):qu F e=sJ F e.bR:=by
 unfold qu mC sJ;rw [ajn F _ _ om om,xH F _ _ om om]
 have hb:(ji e.bR [73,70,83]).2=false->(ji e.bR [73,70,83]).1=bC.mk [] [] false false false:=by
  unfold ji;cases e.bR.find? _<;>simp
 grind
theorem apV(F:Nat)(e:dX)(n:Bs)(hF:1000<F)(hl:e.bR.length<=128):mC F e n=some (cond (ji e.bR n).1.cH ((ji e.bR n).1.bK,true) ([],false)):=by
 unfold mC;rw [ajn F _ _ om om]
 have hb:(ji e.bR n).2=false->(ji e.bR n).1=bC.mk [] [] false false false:=by
  unfold ji;cases e.bR.find? _<;>simp
 grind
theorem anm(F:Nat){e:dX}(h:WE e)(n:Bs)(hF:2000<F)(hn:n.length<=1000):xB F e n=jL F e n:=by
 obtain⟨hV,hP,hP',hN,r1,r2,r3,-⟩:=h;have hl:=hV.1;have hj:=fun g hg=>aoO F e.cD g om hP hP' hg;have R:K.gi (e.cD.length:Int):=⟨om,om⟩;have I:=fun {x:Int}(h:K.gi x)=>afq F om h;have D:=fun {x:Int}(h:K.gi x)=>K.Jy F om h;unfold xB;rw [aoP,aD]
 cases hs:spec n with
 | true=>
  rw [bf,qZ (by have:=aaQ hs;omega)];unfold spec at hs;simp only [XD,gY,Bb,Bc] at hs;have fin:∀x:O (Bs×Bool),(x.bind fun x2=>some (x2.1,x2.2))=x:=fun x=>by cases x<;>rfl
  rw [fin];unfold vm jL gv;obtain⟨g,hg,eg⟩:=afF F hV om;obtain⟨m,rfl⟩:∃m,F=m+100:=⟨F-100,om⟩;rcases hs with rfl|rfl|rfl|rfl|rfl|rfl|rfl|rfl
  ·show ((Es (m+100) e.cD [32]).bind _)=((qg (m+100) e.cD [32]).bind _)
   rw [(hj [32] de).1,(hj [32] de).2]
  ·show ((qu (m+100) e).bind _)=((sJ (m+100) e.bR).bind _)
   grind [apU]
  ·show ((oq (m+100) _).bind _)=((dy (m+100) _).bind _)
   rw [I R,D R]
  ·show ((oq (m+100) _).bind _)=((dy (m+100) _).bind _)
   rw [I r1,D r1]
  ·show ((Cs (m+100) _).bind _)=((tK (m+100) _).bind _)
   rw [anl]
  ·show ((oq (m+100) _).bind _)=((dy (m+100) _).bind _)
   rw [I r2,D r2]
  ·show cond (e.oa==0) (some ([],false)) ((oq (m+100) e.oa).bind _)=(Option.bind (some (e.oa != 0)) fun x9=>cond x9 ((dy (m+100) e.oa).bind fun bX=>some (bX,true)) (some ([],false)))
   grind
  ·rfl
 | false=>
  rw [aO]
  have ne:∀x,x∈([[64],[42],[35],[63],[45],[36],[33],[48]]:J Bs)->(n==x)=false:=fun x hx=>by
   rw [fO];intro h;subst h;have:spec n=true:=by unfold spec;exact XD.2 hx
   rw [this] at hs;cases hs
  have ends:∀(p:Int),¬ (0<p/\p<=e.cD.length)->gv F n=some p->eP F n=some false->jL F e n=some ([],false):=by
   intro p hp h1 h2;unfold jL;rw [h1,aD,h2,aD,aO,aK,aD]
   rw [show (cond (decide (0<p)) (decide (p<=(e.cD.length:Int))) false)=false from by
    simp_all]
   rw [ne [48] de,ne [35] de,ne [63] de,ne [45] de,ne [36] de,ne [33] de,ne [64] de,ne [42] de];rfl
  have aka:∀b,eP F n=some b->gv F n=some 0->((kF F n).bind fun x5=>cond (!x5) (some ([],false)) ((mC F e n).bind fun x6=>some (x6.1,x6.2)))=jL F e n:=by
   intro b hb hp;rw [K.FQ F n om,hb,aD]
   cases b with
   | false=>rw [ends 0 om hp hb];rfl
   | true=>
    unfold jL;rw [hp,aD,hb,aD,bf,apV F e n om hl,xH F _ _ om om,aD,aD];cases (ji e.bR n).1.cH<;>rfl
  obtain⟨b,-,hb⟩:=Ec F n om;by_cases h0:n=[]
  ·subst h0
   exact aka b hb rfl
  by_cases h1:n.getD 0 0=48
  ·have hp:=y6.2 h0
   have hc:(((n.getD 0 0).toNat:Int)==48)=true:=by rw [h1];rfl
   have e1:pG F n=some (0,false):=by
    unfold pG;rw [ne [48] de,aO,show (n==[])=false from by simpa using h0,aO,qZ om,hc,aD];rfl
   obtain⟨d,hd⟩:=Ui F n om om
   have e2:gv F n=some 0:=by
    unfold gv;rw [hd,qZ om,hc]
    grind
   rw [e1,aD];exact aka b hb e2
  ·have hp:=y6.2 h0
   have hc:(((n.getD 0 0).toNat:Int)==48)=false:=by
    rw [beq_eq_false_iff_ne];intro h;exact h1 (by apply UInt8.toNat_inj.1;grind)
   rw [apS F n om hn h0 h1,aD]
   have e2:gv F n=some (cond (AH n).2 (AH n).1 0):=by
    unfold gv;rw [apT F n om hn h0 h1,qZ om,hc,aD];simp only [aK,aD];unfold AH
    grind
   cases hd:(AH n).2 with
   | false=>
    simp_all
   | true=>
    rw [hd,bf] at e2;rw [bf]
    have hnm:eP F n=some false:=by
     unfold AH at hd;split at hd
     ·rename_i hh
      have h8:=mL.1 hh.1 _ (jN (n:=0) hp);unfold A9 at h8;rw [cw,fq,fq] at h8;unfold eP;rw [show (n==[])=false from by simpa using h0,aO,aD,qZ om,K.Ti]
      have:K.eT ((n.getD 0 0).toNat:Int)=true:=by
       unfold K.eT;grind
      simp_all
     ·cases hd
    have Wm:0<=(AH n).1/\(AH n).1<=2147483647:=by
     unfold AH;grind
    generalize (AH n).1=d at e2 Wm⊢;rw [aK,aD];by_cases wO:0<d/\d<=e.cD.length
    ·rw [show (cond (decide (d<1)) true (decide ((e.cD.length:Int)<d)))=false from by grind,cond_false]
     unfold jL
     simp_all
    grind
def T2{A B:Type}(Q:A->B->Prop)(x:O A)(y:O B):Prop:=∃a b,Q a b/\x=some a/\y=some b
section
variable {A B C D σ τ : Type} {Q : A -> B -> Prop}
theorem T2.ok{a:A}{b:B}(h:Q a b):T2 Q (some a) (some b):=⟨a,b,h,rfl,rfl⟩
theorem T2.mono{P:A->B->Prop}{x:O A}{y:O B}(h:T2 P x y)(f:∀a b,P a b->Q a b):T2 Q x y:=by
 obtain⟨a,b,h,e⟩:=h;exact⟨a,b,f a b h,e⟩
theorem T2.bd{P:C->D->Prop}{x:O C}{y:O D}{f:C->O A}{g:D->O B}(h:T2 P x y)(k:∀a b,P a b->T2 Q (f a) (g b)):T2 Q (x.bind f) (y.bind g):=by
 obtain⟨a,b,h,rfl,rfl⟩:=h;exact k a b h
theorem T2.l{P:C->Prop}{x:O C}{y:O B}{f:C->O A}(h:aA P x)(k:∀a,P a->T2 Q (f a) y):T2 Q (x.bind f) y:=by
 obtain⟨a,h,rfl⟩:=h;exact k a h
theorem T2.r{P:D->Prop}{x:O A}{y:O D}{g:D->O B}(h:aA P y)(k:∀b,P b->T2 Q x (g b)):T2 Q x (y.bind g):=by
 obtain⟨a,h,rfl⟩:=h;exact k a h
theorem T2.ql{c:Bool}{x:O A}{y:O B}(h:c=true)(k:T2 Q x y):T2 Q (rq c x) y:=by subst h;exact k
theorem T2.qr{c:Bool}{x:O A}{y:O B}(h:c=true)(k:T2 Q x y):T2 Q x (rq c y):=by subst h;exact k
theorem T2.cb{c:Bool}{x x':O A}{y y':O B}(a:c=true->T2 Q x y)(b:c=false->T2 Q x' y'):T2 Q (cond c x x') (cond c y y'):=by
 cases c
 ·exact b rfl
 ·exact a rfl
theorem T2.cl{c:Bool}{x x':O A}{y:O B}(a:c=true->T2 Q x y)(b:c=false->T2 Q x' y):T2 Q (cond c x x') y:=by
 cases c
 ·exact b rfl
 ·exact a rfl
theorem T2.cr{c:Bool}{x:O A}{y y':O B}(a:c=true->T2 Q x y)(b:c=false->T2 Q x y'):T2 Q x (cond c y y'):=by
 cases c
 ·exact b rfl
 ·exact a rfl
theorem T2.lp{b1:(σ->O A)->σ->O A}{b2:(τ->O B)->τ->O B}(P:σ->τ->Prop)(m:σ->Nat){F:Nat}{s:σ}{t:τ}(h0:P s t)(hF:m s<F)
  (hs:∀s t,P s t->∀r1 r2,(∀s' t',P s' t'->m s'<m s->T2 Q (r1 s') (r2 t'))->T2 Q (b1 r1 s) (b2 r2 t)):T2 Q (bV b1 F s) (bV b2 F t):=by
 induction F generalizing s t with
 | zero=>omega
 | succ F ih=>exact hs s t h0 (bV b1 F) (bV b2 F) fun s' t' h1 h2=>ih h1 om
end
def nu(s:aY):Prop:=GS s/\yF s.cm.bR/\(s.kI=false->s.sX=[])
def gK(fl:J bu)(s:aY):aM:=aM.mk s.cm fl (s.ec.drop s.fused.toNat) s.jz false [] [] 0
def Fin(x:aM)(s:aY):Prop:=(s.fe≠0/\x.kI=false/\x.yB=s.fe/\x.eV=s.eV)\/(s.fe=0/\x.kI=true/\x.sX=s.sX/\x.cm=s.cm/\x.jz=s.jz)
def RR{A:Type}(fl:J bu)(I:J A->Prop)(a:J A×Bool×aM)(b:J A×aY):Prop:=nu b.2/\I b.1/\((stop b.2=false/\a=(b.1,true,gK fl b.2))\/(stop b.2=true/\a.2.1=false/\Fin a.2.2 b.2/\a.1=[]))
def RA(fl:J bu)(a:Bool×aM)(b:aY):Prop:=nu b/\((stop b=false/\a=(true,gK fl b))\/(stop b=true/\a.1=false/\Fin a.2 b))
theorem RR.go{A:Type}{fl:J bu}{I:J A->Prop}{r:J A}{s:aY}(h:nu s)(hi:I r)(hs:stop s=false):RR fl I (r,true,gK fl s) (r,s):=⟨h,hi,.inl ⟨hs,rfl⟩⟩
theorem acP{s:aY}(h:stop s=false):s.fe=0/\s.kI=false:=by
 unfold stop at h;rw [Rx] at h;exact⟨by simpa using h.1,h.2⟩
theorem ann{s:aY}{e:Int}{m:Bs}(he:e≠0):stop {s with fe:=e,eV:=m} = true:=by
 show (e != 0||s.kI)=true;rw [show (e != 0)=true from by simpa using he];rfl
theorem failed{fl:J bu}{s:aY}{e:Int}{m:Bs}(hs:stop s=false)(he:e≠0):stop (cond (stop s) s {s with fe:=e,eV:=m})=true/\Fin {gK fl s with yB:=e,eV:=m} (cond (stop s) s {s with fe:=e,eV:=m}):=by
 rw [hs,aO];exact⟨ann he,.inl ⟨he,rfl,rfl,rfl⟩⟩
theorem Lb{s:aY}(h:nu s)(e:Int)(m:Bs):nu (cond (stop s) s {s with fe:=e,eV:=m}):=by cases stop s<;>exact h
theorem RR.err{A:Type}{fl:J bu}{I:J A->Prop}{r:J A}{s:aY}{e:Int}{m:Bs}{x:aM}(h:nu s)(hi:I r)(hs:stop s=false)(he:e≠0)(hx:x={gK fl s with yB:=e,eV:=m}):RR fl I ([],false,x) (r,cond (stop s) s {s with fe:=e,eV:=m}):=by
 subst hx;have:=failed (fl:=fl) (m:=m) hs he;exact⟨Lb h _ _,hi,.inr ⟨this.1,rfl,this.2,rfl⟩⟩
theorem JX(F:Nat)(m:Bs)(x:aM):gE F m x=some (false,{x with eV:=m,yB:=32}):=rfl
theorem akb(F:Nat)(e:Int)(x:aM):eE F e x=some (false,{x with yB:=e}):=rfl
theorem ahn(v:bC){l:J bC}(h:yF l):v∈mj v l false:=by rw [Fj v h];simp
theorem get_mem{l:J bC}{n:Bs}{v:bC}(h:v∈l)(hn:v.fName=n):(ji l n).2=true:=by
 unfold ji
 cases e:l.find? fun v=>v.fName==n with
 | none=>have:=List.find?_eq_none.1 e v h;simp [hn] at this
 | some x=>rfl
theorem ajq(F:Nat){l:J bC}(h:GA l)(n v:Bs)(hF:1000<F){r:J bC×Int}(e:rX F l n v=some r)(h0:r.2=0):eP F n=some true/\(ji r.1 n).2=true:=by
 have hl:=h.len;obtain⟨b,hb,eb⟩:=Ec F n om;unfold rX at e;rw [xH F l n om om,aD,eb,aD] at e
 cases b with
 | false=>rw [qV,bf] at e;cases e;cases h0
 | true=>
  refine⟨eb,?_⟩;rw [jD,aO] at e
  cases hr:(ji l n).1.kU with
  | true=>rw [hr,bf] at e;cases e;cases h0
  | false=>
   rw [hr,aO] at e;by_cases h4:4096<v.length
   ·rw [cM om] at e;cases e;cases h0
   rw [cf om,aK,aD] at e
   cases h5:(cond (!(ji l n).2) (decide (128<=(l.length:Int))) false) with
   | true=>rw [h5,bf] at e;cases e;cases h0
   | false=>
    rw [h5,aO,OE F l _ om om,aD] at e;cases e;exact get_mem (ahn _ h.2) rfl
theorem alr(F:Nat){l:J bC}(h:GA l)(n:Bs)(hF:1000<F)(h1:eP F n=some true)(h2:(ji l n).2=true){r:J bC×Int}(e:nZ F l n true false=some r):r.2=0:=by
 have hl:=h.len;unfold nZ at e;rw [h1,aD,jD,aO,xH F l n om om,aD,h2,jD,aO,aD,aO,aK,aD,aK,aD,OE F l _ om om] at e;cases e;rfl
theorem acQ(F:Nat)(fl:J bu){s:aY}(h:nu s)(hs:stop s=false)(n v:Bs)(hF:1000<F):T2 (RA fl) (jg F n v (gK fl s)) (gW F n v s):=by
 have hA:GA s.cm.bR:=⟨h.1.1.1,h.2.1⟩;obtain⟨r,hr,e1,e2⟩:=apR F hA n v hF;unfold jg gW;rw [oH,aD,hs,aO,e1,show Gh F (gK fl s).cm.bR n v=some r from e2,aD,aD];have go:∀l:J bC,GA l->T2 (RA fl) (cond ((0:Int) != 0) ((eE F 0 (gK fl s)).bind fun x5=>some (x5.1,x5.2)) (some (true,{gK fl s with cm:={(gK fl s).cm with bR:=l}}))) (some {s with cm:={s.cm with bR:=l}}):=fun l hl=>T2.ok ⟨⟨⟨⟨hl.1,h.1.1.2⟩,h.1.2⟩,hl.2,h.2.2⟩,.inl ⟨hs,rfl⟩⟩;by_cases h0:r.2=0
 ·rw [h0]
  show T2 _ (((cond ((mM .i64 s.cm.iu 32) != 0) ((CY F r.1 n true false).bind fun x4=>some (x4.1,x4.2)) (some (r.1,0)):O (J bC×Int)).bind _)) ((cond ((mM .i64 s.cm.iu 32) != 0) ((nZ F r.1 n true false).bind fun x5=>some x5.1) (some r.1):O (J bC)).bind _)
  cases hb:((mM .i64 s.cm.iu 32) != 0) with
  | false=>exact go r.1 hr
  | true=>
   obtain⟨q,hq,e3,e4⟩:=aoL F hr n true false hF;obtain⟨k1,k2⟩:=ajq F hA n v hF e1 h0;have YU:=alr F hr n hF k1 k2 e3;rw [bf,bf,e3,e4];show T2 _ (cond (q.2 != 0) _ _) _;rw [YU];exact go q.1 hq
 ·have hne:(r.2 != 0)=true:=by simpa using h0
  have ah2:(r.2==0)=false:=by simpa using h0
  rw [hne,ah2,bf,aO,aD,aO,aD];show T2 _ (cond (r.2 != 0) _ _) _;rw [hne,bf,akb,tI];have:=failed (fl:=fl) (m:=[]) hs h0;exact T2.ok ⟨Lb h _ _,.inr ⟨this.1,rfl,this.2⟩⟩
theorem apW(F:Nat)(fl:J bu){s:aY}(h:nu s)(hs:stop s=false)(x:TPart)(m:dh)(p:cZ)(hm:m.eW=p.eW)(hF:1000<F):T2 (RR fl (RB 1)) (lY F x m (gK fl s)) ((pN F x.fText s).bind fun x7=>(ei F p).bind fun x8=>some ([aH.mk x7.1 x8],x7.2)):=by
 obtain⟨⟨hE,hA,hL,u,hu,hul⟩,wM⟩:=h;have hv:dS F m=ei F p:=by unfold dS ei;rw [hm]
 obtain⟨c,hc⟩:=O9 F p;unfold lY pN;rw [hv,hc,hu];have hx:(gK fl s).ec=s.ec.drop u:=by unfold gK;rw [hu,bL]
 rw [hx];by_cases hk:u<s.ec.length
 ·have hd:s.ec.drop u=s.ec[u]::s.ec.drop (u+1):=y5 hk
  have e0:(((s.ec.drop u).length:Int)==0)=false:=by rw [fO,yg];omega
  have e1:sl (s.ec.drop u) 1 ((s.ec.drop u).length:Int)=s.ec.drop (u+1):=by
   unfold sl;rw [bL,yf,ac7];rfl
  have e2:(s.ec.drop u).getD 0 Bp=s.ec[u]:=by rw [hd];rfl
  have hln:0<(s.ec.drop u).length:=by rw [yg];omega
  rw [e0,aO,qZ om,bU om om,e1,e2,cf om,bU om om,bL,gd hk];have ha:=hA _ (jN hk);generalize s.ec[u]=a at ha⊢
  have key:T2 (fun (t:Bs)(y:Bs×aY)=>t.length<=60/\y=(t,{s with fused:=(((u+1:Nat)):Int),jz:=a.fC})) (qU F a.fText [10]) (bV (σ:=Int) (R:=Bs×aY) (fun bp x1=>
    (cond (decide (0<x1))
    (rq ((decide (0<=aB (x1-1)))&&(decide (aB (x1-1)<((a.fText).length:Int)))) (some (((a.fText.getD (Int.toNat (aB (x1-1))) 0).toNat:Int)==10)))
    (some false):Option Bool).bind fun x3=>
    cond x3
    (bp (aB (x1-1)))
    (rq ((decide (0<=x1))&&(decide (x1<=(a.fText.length:Int)))) (some (sl a.fText 0 x1,{s with fused:=aB ((u:Int)+1),jz:=a.fC})))) F (a.fText.length:Int)):=by
   have fin:∀k:Nat,k<=a.fText.length->T2 (fun (t:Bs)(y:Bs×aY)=>t.length<=60/\y=(t,{s with fused:=(((u+1:Nat)):Int),jz:=a.fC})) (some (a.fText.take k)) (rq ((decide (0<=(k:Int)))&&(decide ((k:Int)<=(a.fText.length:Int)))) (some (sl a.fText 0 (k:Int),{s with fused:=aB ((u:Int)+1),jz:=a.fC}))):=fun k hk=>by
    refine T2.qr (jM om om) (T2.ok ⟨by rw [Fm];omega,?_⟩);rw [bn om];unfold sl;rw [bL];rfl
   unfold qU;by_cases hz:a.fText=[]
   ·rw [hz] at fin⊢
    obtain⟨f,rfl⟩:∃f,F=f+1:=⟨F-1,om⟩;exact fin 0 (dY _)
   rw [show (a.fText==[])=false from by simpa using hz];show T2 _ ((nr F a.fText 10).bind fun x3=>some x3) _;have ret:∀x:Option Bs,(x.bind fun x3=>some x3)=x:=fun x=>by cases x<;>rfl
   rw [ret];unfold nr;refine T2.lp (fun (t:Bs)(i:Int)=>∃k:Nat,i=(k:Int)/\k<=a.fText.length/\t=a.fText.take k) (fun t=>t.length) ⟨_,rfl,dY _,by rw [yf]⟩ om ?_;rintro t i ⟨k,rfl,h1,rfl⟩ r1 r2 hrc;have hlk:(a.fText.take k).length=k:=List.length_take_of_le h1;rw [hlk];by_cases h0:0<k
   ·rw [uE om om,cM om,bU om om,cM om,bU om om,aD,bU om om,aD,bL]
    have eg:(a.fText.take k).getD (k-1) 0=a.fText.getD (k-1) 0:=by rw [Ov,Ov,ajD om]
    rw [eg];refine T2.cb (fun _=>?_) fun _=>fin k h1
    have es:sl (a.fText.take k) 0 ((k-1:Nat):Int)=a.fText.take (k-1):=by
     unfold sl;rw [bL,Rv,XE om];rfl
    rw [es];exact hrc _ _ ⟨k-1,rfl,om,rfl⟩ (by rw [Fm,hlk];omega)
   ·rw [cf om,aD,aO,cf om,aD,aO]
    exact fin k h1
  refine T2.bd key fun t y ⟨ht,hy⟩=>?_;subst hy;rw [aD,aD];refine T2.ok ⟨⟨⟨hE,hA,hL,u+1,rfl,hk⟩,wM⟩,RB.one om (by show t.length<=_;omega),.inl ⟨hs,?_⟩⟩;unfold gK;dsimp only;rw [bL]
 ·have e0:(((s.ec.drop u).length:Int)==0)=true:=by rw [oO,yg];omega
  rw [e0,bf,cM om,aD,aD];obtain⟨s1,s2⟩:=acP hs;refine T2.ok ⟨⟨⟨hE,hA,hL,u,rfl,hul⟩,wM.1,fun h=>nomatch h⟩,RB.one om (eR _),.inr ⟨?_,rfl,.inr ⟨s1,rfl,rfl,rfl,rfl⟩,rfl⟩⟩;show (s.fe != 0||true)=true;rw [XF]
theorem uX(k v q z:Bs)(m:J (Bs×Bs)):fI cL (jk cL m k v) q z=if k=q then v else fI cL m q z:=by
 unfold jk fI cL
 cases ha:m.any fun p=>p.1==k with
 | false=>
  grind
 | true=>
  rw [bf]
  have hf:((fun p=>p.1==q) ∘ fun p=>bif p.1==k then (k,v) else p)=fun p=>p.1==q:=by
   grind
  cases e:m.find? fun p=>p.1==q with
  | none=>
   grind
  | some p=>
   grind
def rW(l:J bC):J b8:=l.flatMap fun v=>cond v.cH [b8.mk v.fName v.bK] []
def DB(b:J b8):J (Bs×Bs):=b.foldl (fun m x=>jk cL m x.fName x.bK) []
theorem ajr(l:J bC){k:Nat}(h:k<l.length):rW (l.take (k+1))=rW (l.take k)++cond l[k].cH [b8.mk l[k].fName l[k].bK] []:=by
 unfold rW;grind [List.take_succ_eq_append_getElem]
theorem als{l:J bC}{b:b8}(h:b∈rW l):∃v∈l,b=b8.mk v.fName v.bK:=by
 unfold rW at h
 grind
theorem VC:∀l:J bC,(rW l).length<=l.length
 | []=>dY _
 | v::l=>by
  have:=VC l;unfold rW at this⊢
  grind
theorem alu{l:J bC}(h:yF l):(rW l).Pairwise fun a b=>a.fName<b.fName:=by
 induction l with
 | nil=>exact .nil
 | cons v l ih=>
  obtain⟨h1,h2⟩:=wE.1 h;unfold rW
  grind
theorem alv{l:J bC}(h:GV l):CF (rW l):=fun b hb=>by
 obtain⟨v,hv,rfl⟩:=als hb;exact h.2 v hv
theorem alw{b:J b8}(h:b.Pairwise fun x y=>x.fName<y.fName)(hb:CF b):K.sr (DB b)=b:=by
 have hE:=K.FX hb;refine UZ (f:=fun x:b8=>x.fName) (K.U2 hE.nd) h fun x=>?_
 have key:∀(k:J b8)(m:J (Bs×Bs)),(k.Pairwise fun x y=>x.fName<y.fName)->∀q:Bs,fI cL (k.foldl (fun m x=>jk cL m x.fName x.bK) m) q []=(match k.find? fun x=>x.fName==q with|some x=>x.bK|none=>fI cL m q []):=by
  intro k
  induction k with
  | nil=>intro m _ q;rfl
  | cons a k ih=>
   intro m hk q;obtain⟨h1,h2⟩:=wE.1 hk;rw [Da,ih _ h2 q,Ml]
   cases e:k.find? fun x=>x.fName==q with
   | some y=>
    grind
   | none=>
    cases hq:(a.fName==q) with
    | true=>simp_all [oO,uX,if_pos]
    | false=>simp_all [uX,if_neg]
 have kk:∀(k:J b8)(m:J (Bs×Bs))(q:Bs),q∈(k.foldl (fun m x=>jk cL m x.fName x.bK) m).map (·.1)↔q∈m.map (·.1)\/∃x∈k,x.fName=q:=by
  intro k
  induction k with
  | nil=>intro m q;simp
  | cons a k ih=>
   grind [xM,List.mem_cons_self,List.mem_cons_of_mem]
 have fnd:∀y∈b,b.find? (fun x=>x.fName==y.fName)=some y:=fun y hy=>by
  cases e:b.find? fun x=>x.fName==y.fName with
  | none=>grind
  | some z=>
   have hq:(z.fName==y.fName)=true:=XG (p:=fun x:b8=>x.fName==y.fName) e
   grind [List.pairwise_iff_getElem,List.getElem_of_mem,Nat.lt_trichotomy,lD]
 rw [K.BN];constructor
 ·rintro⟨k,hk,rfl⟩
  rcases (kk b [] k).1 hk with h|⟨y,hy,rfl⟩
  ·cases h
  ·have:=key b [] h y.fName
   rw [fnd y hy] at this;unfold K.Bk;rw [show fI cL (DB b) y.fName []=y.bK from this];exact hy
 ·intro hx
  refine⟨x.fName,(kk b [] _).2 (.inr ⟨x,hx,rfl⟩),?_⟩;have:=key b [] h x.fName;rw [fnd x hx] at this;unfold K.Bk;rw [show fI cL (DB b) x.fName []=x.bK from this]
theorem aaR(m:J (Bs×Bs))(k:Bs):Di cL m k=true↔k∈m.map (·.1):=by
 simp_all [Di,cL,Ou,xZ]
theorem T2.lpe{A B σ τ ι:Type}{Q:A->B->Prop}{b1:(σ->O A)->σ->O A}{b2:(τ->O B)->τ->O B}(P:σ->τ->Prop)(m:σ->Nat)(E:ι->τ->Prop)(m2:τ->Nat)(R:ι->B->Prop){F:Nat}{s:σ}{t:τ}(h0:P s t)(hF:m s<F)
  (hs:∀s t,P s t->∀r1 r2,(∀s' t',P s' t'->m s'<m s->T2 Q (r1 s') (r2 t'))->(∀i t',E i t'->m2 t'<m s->aA (R i) (r2 t'))->T2 Q (b1 r1 s) (b2 r2 t))
  (he:∀i t,E i t->∀r2,(∀t',E i t'->m2 t'<m2 t->aA (R i) (r2 t'))->aA (R i) (b2 r2 t)):T2 Q (bV b1 F s) (bV b2 F t):=by
 induction F generalizing s t with
 | zero=>omega
 | succ F ih=>exact hs s t h0 (bV b1 F) (bV b2 F) (fun s' t' h1 h2=>ih h1 om) fun i t' h1 h2=>aA.lp (E i) m2 h1 om (he i)
theorem T2.map{A B D:Type}{Q:A->B->Prop}{x:O A}{y:O D}(f:D->B)(h:T2 (fun a d=>Q a (f d)) x y):T2 Q x (y.bind fun d=>some (f d)):=by
 obtain⟨a,d,h,e1,rfl⟩:=h;exact⟨a,f d,h,e1,rfl⟩
theorem alx(F:Nat)(e:Int):Dw F e=Ap F e:=rfl
def RV(fl:J bu)(a:Bs×Bool×aM)(b:Bs×aY):Prop:=RR fl (fun t=>t.length<=10000000) a b/\(stop b.2=false->b.1.length<=4096)
theorem akc(F:Nat){s:aY}(h:stop s=true)(n v:Bs):gW F n v s=some s:=by
 unfold gW;simp_all [oH,aD]
theorem ano{F:Nat}(hN:NC<=F)(hF:100000000<=F)(fl:J bu)(g1:dM)(g2:iq)(x:TPart)(m:dh)(p:cZ)(hm:m.eW=p.eW)(s:aY)
  (hv:T2 (RV fl) (g1.2.2.2.2.1 x.fParts (dh.mk true false 0) (gK fl s)) (g2.2.2.2.1 x.fParts true s)) :
  T2 (RR fl (RB 1)) (mD F g1 x m (gK fl s)) ((tX F g2 x.fParts s).bind fun x9=>(ei F p).bind fun bX=>some ([aH.mk x9.1 bX],x9.2)):=by
 obtain⟨c,hc⟩:=O9 F p;have iX:dS F m=some c:=by rw [<-hc];unfold dS ei;rw [hm]
 unfold mD tX;rw [hc];obtain⟨⟨t0,ok,x'⟩,⟨t,s'⟩,⟨⟨hg,hi,hh⟩,hlen⟩,e1,e2⟩:=hv;rw [e1,e2];dsimp only at hg hi hh hlen;refine T2.map (fun x9:Bs×aY=>([aH.mk x9.1 c],x9.2)) ?_;rw [aD,aD];dsimp only;rw [oH,aD];rcases hh with⟨hs,hh⟩|⟨hs,hok,afr,-⟩
 ·cases hh
  have ht:=hlen hs;have hV:=hg.1.1.1;have hvl:=hV.1;rw [hs,jD,aO,aO,show (gK fl s').cm=s'.cm from rfl];have hb:=alv hV;have Jd:=VC s'.cm.bR;have hba:=alu hg.2.1;refine T2.lp (fun (z:J b8×Int×J (Bs×Bs))(y:J b8×Int)=>∃k:Nat,k<=s'.cm.bR.length/\z=(rW (s'.cm.bR.take k),(k:Int),DB (rW (s'.cm.bR.take k)))/\y=(rW (s'.cm.bR.take k),(k:Int))) (fun z=>s'.cm.bR.length-z.2.1.toNat) ⟨0,eR _,rfl,rfl⟩ (by show s'.cm.bR.length-0<F;omega) ?_;rintro _ _ ⟨k,hk,rfl,rfl⟩ q1 q2 hrc;dsimp only at hrc⊢;have hkl:(rW (s'.cm.bR.take k)).length<=k:=by have:=VC (s'.cm.bR.take k);rw [Fm] at this;omega
  by_cases hk1:k<s'.cm.bR.length
  ·have nx:=hrc _ _ ⟨k+1,hk1,rfl,rfl⟩ (by grind)
   have es:=ajr s'.cm.bR hk1;rw [cM om,cM om];refine T2.ql (jM om om) (T2.qr (jM om om) ?_);rw [bn om,bL,gd hk1];have cp:∀(v:b8),((decide ((rW (s'.cm.bR.take k)).length+([v]:J b8).length<=9223372036854775807))&&(decide (((rW (s'.cm.bR.take k)).length+([v]:J b8).length)*32<=140737488355328)))=true:=fun v=>nD (by grind) de;refine T2.cb (fun lT=>?_) fun lT=>?_
   ·rw [lT,bf] at es
    rw [es] at nx;refine T2.ql (cp _) (T2.qr (cp _) ?_);unfold DB at nx;rw [T8] at nx;exact nx
   simp_all
  ·rw [cf om,cf om,H9 om]
   have hE:=alw hba hb
   have hkeys:∀n:Bs,Di cL (DB (rW s'.cm.bR)) n=true↔∃a∈rW s'.cm.bR,a.fName=n:=fun n=>by
    rw [aaR];have:∀x,x∈rW s'.cm.bR↔∃k,k∈(DB (rW s'.cm.bR)).map (·.1)/\x=K.Bk (DB (rW s'.cm.bR)) k:=fun x=>by rw [<-K.BN,hE]
    constructor
    ·intro h;exact⟨_,(this _).2 ⟨n,h,rfl⟩,rfl⟩
    ·rintro⟨a,ha,rfl⟩
     obtain⟨k,h1,h2⟩:=(this a).1 ha;rw [h2];exact h1
   have Yd:∀n,pe F (rW s'.cm.bR) n=some (fI cL (DB (rW s'.cm.bR)) n []):=fun n=>by
    rw [K.NL F _ n om om,<-K.NM,hE]
   have akd:∀n,Di cL (DB (rW s'.cm.bR)) n=false->fI cL (DB (rW s'.cm.bR)) n []=[]:=fun n h=>by
    grind [KL,aaR]
   generalize DB (rW s'.cm.bR)=mp at hkeys Yd akd⊢;generalize rW s'.cm.bR=b at hb Jd hkeys Yd⊢;obtain⟨r,⟨hR,hL,hne⟩,hr⟩:=Vz t0 b ht om hb;rw [(hr F hN).1,(hr F hN).2,aD,aD];refine T2.cb (fun he=>?_) fun he=>?_
   ·have he0:r.2.2≠0:=by simpa using he
    obtain⟨w,hw,ew⟩:=ajo F r.2.2;rw [alx,ew,aD,aD];have l1:decide (t0.length+([58,32]:Bs).length<=9223372036854775807)=true:=dN (by show t0.length+2<=_;omega);have l2:decide ((t0++([58,32]:Bs)).length+w.length<=9223372036854775807)=true:=decide_eq_true (by grind);refine T2.ql l1 (T2.qr l1 (T2.ql l2 (T2.qr l2 ?_)));rw [JX,tI];exact T2.ok (RR.err hg (RB.one om (eR _)) hs de rfl)
   ·refine T2.lpe (fun (z:Int×aM)(y:Int×aY)=>∃(k:Nat)(u:aY),k<=r.2.1.length/\nu u/\stop u=false/\z=((k:Int),gK fl u)/\y=((k:Int),u)) (fun z=>r.2.1.length-z.1.toNat) (fun (u:aY)(y:Int×aY)=>stop u=true/\y.2=u/\∃k:Nat,y.1=(k:Int)/\k<=r.2.1.length) (fun y=>r.2.1.length-y.1.toNat) (fun u (y:Bs×aY)=>y.2=u/\y.1.length<=60) ⟨0,s',eR _,hg,hs,rfl,rfl⟩ (by show r.2.1.length-0<F;omega) ?_ ?_
    ·rintro _ _ ⟨k,u,hk,hu,hsu,rfl,rfl⟩ q1 q2 hrc hex
     dsimp only at hrc hex⊢;by_cases hk1:k<r.2.1.length
     ·have hm:r.2.1.length-Int.toNat ((k+1:Nat):Int)<r.2.1.length-Int.toNat (k:Int):=om
      rw [cM om,cM om,bU om om,bU om om,bU om om,bn om,bL,gd hk1,Yd,aD];have hc1:=hne _ (jN hk1);generalize r.2.1[k]=a at hc1⊢
      have go:T2 (fun a d=>RR fl (RB 1) a ([aH.mk d.1 c],d.2)) ((jg F a.fName a.bK (gK fl u)).bind fun bX=>cond (!bX.1) (some ([],false,bX.2)) (q1 (((k+1:Nat):Int),bX.2)))
        ((gW F a.fName a.bK u).bind fun fB=>q2 (((k+1:Nat):Int),fB)):=by
       refine T2.bd (acQ F fl hu hsu a.fName a.bK om) ?_;rintro⟨ok,x2⟩ u2 ⟨hu2,⟨h1,h2⟩|⟨h1,h2,h3⟩⟩
       ·grind
       ·dsimp only at h2 h3
        subst h2;rw [qV,bf];obtain⟨y,⟨hy1,hy2⟩,hy⟩:=hex u2 (((k+1:Nat):Int),u2) ⟨h1,rfl,k+1,rfl,hk1⟩ hm;rw [hy];refine T2.ok ⟨?_,RB.one om om,.inr ⟨?_,rfl,?_,rfl⟩⟩
        ·show nu y.2;rw [hy1];exact hu2
        ·show stop y.2=true;rw [hy1];exact h1
        ·show Fin x2 y.2;rw [hy1];exact h3
      cases apX:Di cL mp a.fName with
      | true=>
       rw [bf,aD]
       cases qb:(fI cL mp a.fName []==a.bK) with
       | true=>grind
       | false=>
        rw [aO,qV,bf,bU om om,bU om om]
        exact go
      | false=>
       rw [aO,aD,aO,akd _ apX]
       have hnil:a.bK≠[]:=hc1.resolve_right fun h=>by
        grind
       have:(([]:Bs)==a.bK)=false:=by grind
       rw [this,qV,bf,bU om om,bU om om];exact go
     ·rw [cf om,cf om,afq F om hR,K.Jy F om hR,aD,aD,iX]
      have:=K.vR hR;exact T2.ok ⟨hu,RB.one om (by show (Lib.itoa r.1).length<=_;omega),.inl ⟨hsu,rfl⟩⟩
    ·rintro u ⟨_,_⟩ ⟨h1,rfl,k,rfl,hk⟩ q2 hrc
     dsimp only at h1 hrc⊢;refine aA.cd (fun h=>?_) fun _=>?_
     ·have hm:r.2.1.length-Int.toNat ((k+1:Nat):Int)<r.2.1.length-Int.toNat (k:Int):=om
      rw [bU om om,bU om om,bn om,bL,Yd,aD];refine aA.cb (fun _=>?_) fun _=>hrc _ ⟨h1,rfl,k+1,rfl,om⟩ hm
      grind [bU,akc]
     ·rw [K.Jy F om hR]
      exact aA.ok ⟨rfl,K.vR hR⟩
 ·have hok:ok=false:=hok
  subst hok;rw [hs,bf,qV,bf];exact T2.ok ⟨hg,RB.one om (eR _),.inr ⟨hs,rfl,afr,rfl⟩⟩
def COk(m:dh)(p:cZ):Prop:=m.eW=false->m.mg=cond p.BP 2 0
def Mo(m:dh)(p:cZ):Prop:=m.eW=p.eW/\m.jU=p.jU
def JR(m:dh)(p:cZ)(a b:J aH):Prop:=a.map (·.fText)=b.map (·.fText)/\(COk m p->a=b)
def RJ(fl:J bu)(k:Nat)(m:dh)(p:cZ)(a:J aH×Bool×aM)(b:J aH×aY):Prop:=nu b.2/\RB k b.1/\((stop b.2=false/\a.2=(true,gK fl b.2)/\JR m p a.1 b.1)\/(stop b.2=true/\a.2.1=false/\Fin a.2.2 b.2/\a.1=[]))
theorem JR.eq{m:dh}{p:cZ}(a:J aH):JR m p a a:=⟨rfl,fun _=>rfl⟩
theorem RR.j{fl:J bu}{k j:Nat}{m:dh}{p:cZ}{a:J aH×Bool×aM}{b:J aH×aY}(h:RR fl (RB k) a b)(hk:k<=j):RJ fl j m p a b:=by
 obtain⟨h1,h2,⟨h3,h4⟩|h3⟩:=h
 ·exact⟨h1,h2.mono hk,.inl ⟨h3,by rw [h4],by rw [h4];exact JR.eq _⟩⟩
 ·exact⟨h1,h2.mono hk,.inr h3⟩
theorem RJ.rr{fl:J bu}{k:Nat}{m:dh}{p:cZ}{a:J aH×Bool×aM}{b:J aH×aY}(h:RJ fl k m p a b)(hc:COk m p):RR fl (RB k) a b:=by
 obtain⟨h1,h2,⟨h3,h4,h5⟩|h3⟩:=h
 ·exact⟨h1,h2,.inl ⟨h3,Prod.ext (h5.2 hc) h4⟩⟩
 ·exact⟨h1,h2,.inr h3⟩
theorem RJ.go{fl:J bu}{k:Nat}{m:dh}{p:cZ}{r:J aH}{s:aY}(h:nu s)(hi:RB k r)(hs:stop s=false):RJ fl k m p (r,true,gK fl s) (r,s):=⟨h,hi,.inl ⟨hs,rfl,JR.eq _⟩⟩
theorem ake(F:Nat){m:dh}{p:cZ}(h:m.eW=p.eW):dS F m=ei F p:=by unfold dS ei;rw [h]
def X1(fl:J bu)(F n:Nat):Prop:=∀(N:Nat)(l:J TPart)(m:dh)(p:cZ)(s:aY),Mo m p->nu s->stop s=false->gq l<=1000->9*gq l+9<=n->6*gq l+6<=N->T2 (RJ fl (gq l) m p) ((aV F n).1 l m (gK fl s)) ((bN F N).1 l p s)
def X2(fl:J bu)(F n:Nat):Prop:=∀(N:Nat)(x:TPart)(m:dh)(p:cZ)(s:aY),Mo m p->nu s->stop s=false->wP x<=1000->9*wP x+8<=n->6*wP x+5<=N->T2 (RJ fl (wP x) m p) ((aV F n).2.1 x m (gK fl s)) ((bN F N).2.1 x p s)
def XV(fl:J bu)(F n:Nat):Prop:=∀(N:Nat)(l:J TPart)(m:dh)(q:Bool)(s:aY),m.eW=q->nu s->stop s=false->gq l<=1000->9*gq l+10<=n->6*gq l+7<=N->T2 (fun a b=>RV fl a b/\b.1.length<=5000*gq l) ((aV F n).2.2.2.2.1 l m (gK fl s)) ((bN F N).2.2.2.1 l q s)
section
variable {F n : Nat} {fl : J bu}
theorem aly(hF:100000000<=F)(h2:X2 fl F n):X1 fl F (n+1):=by
 intro N l m p s hm hs hst hl hn hN;obtain⟨N,rfl⟩:∃k,N=k+1:=⟨N-1,om⟩;have hll:=I5 l;show T2 _ (wk F (aV F n) l m (gK fl s)) (AQ F (bN F N) l p s)
 refine T2.lpe (fun (z:J aH×Int×aM)(y:J aH×Int×aY)=>∃k:Nat,k<=l.length/\z.2=((k:Int),gK fl y.2.2)/\y.2.1=(k:Int)/\JR m p z.1 y.1/\RB (gq (l.take k)) y.1/\nu y.2.2/\stop y.2.2=false) (fun z=>l.length-z.2.1.toNat)
  (fun (u:aY×J aH)(y:J aH×Int×aY)=>stop u.1=true/\y.1=u.2/\y.2.2=u.1/\∃k:Nat,y.2.1=(k:Int)/\k<=l.length) (fun y=>l.length-y.2.1.toNat) (fun u (y:J aH×aY)=>y=(u.2,u.1)) ⟨0,Nat.zero_le _,rfl,rfl,JR.eq _,RB.nil,hs,hst⟩ (by grind) ?_ ?_
 ·rintro⟨a,i,x⟩ ⟨o,i',s⟩ ⟨k,h3,h4,h5,h6,h7,h8,h9⟩ q1 q2 hrc hex
  dsimp only at h4 h5 h6 h7 h8 h9 hrc hex⊢;cases h4;subst h5;have hwk:=J6 l k;rw [oH,h9];have jl:a.length=o.length:=by have:=congrArg List.length h6.1;simpa using this
  by_cases hk:k<l.length
  ·have hwm:=ab7 hk
   have ha:=RN hk;have VI:l.length-Int.toNat ((k+1:Nat):Int)<l.length-Int.toNat (k:Int):=om;rw [cM om,cM om,aD,aD,qV,bf,bU om om,bU om om,bn om,bL,TPart.eta];refine T2.bd (h2 N (l.getD k kO) m p s hm h8 h9 om om om) ?_;rintro⟨r,ok,x'⟩ ⟨r',s'⟩ ⟨g1,g2,g3⟩;dsimp only at g1 g2 g3⊢;have h10:=RB.app h7 g2;rw [<-ha] at h10;have zu:=J6 l (k+1);have h11:=h10.1;rw [yb] at h11;have sz:∀a b:Nat,a+b<=26*1000->((decide (a+b<=9223372036854775807))&&(decide ((a+b)*24<=140737488355328)))=true:=fun a b h=>jM om om;rcases g3 with⟨k1,k2,k3⟩|⟨k1,k2,k3,-⟩
   ·cases k2
    have jr:r.length=r'.length:=by have:=congrArg List.length k3.1;simpa using this
    refine T2.ql (sz _ _ om) (T2.qr (sz _ _ om) (hrc _ _ ⟨k+1,hk,rfl,rfl,⟨?_,fun hc=>by rw [h6.2 hc,k3.2 hc]⟩,h10,g1,k1⟩ VI));rw [JZ,JZ,h6.1,k3.1]
   ·subst k2
    refine T2.qr (sz _ _ om) ?_;obtain⟨y,rfl,hy⟩:=hex (s',o++r') (o++r',((k+1:Nat):Int),s') ⟨k1,rfl,rfl,k+1,rfl,hk⟩ VI;rw [hy];exact T2.ok ⟨g1,h10.mono om,.inr ⟨k1,rfl,k3,rfl⟩⟩
  ·rw [cf om,cf om,aD,aO]
   rw [H9 om] at h7;exact T2.ok ⟨h8,h7,.inl ⟨h9,rfl,h6⟩⟩
 simp_all [oH,aA.ok]
theorem acR{a b:J aH}(h:a.map (·.fText)=b.map (·.fText)):CA a=CA b:=by
 unfold CA
 grind
theorem alz{a b:J aH}(h:a.map (·.fText)=b.map (·.fText)):cA a=cA b:=by rw [<-Fb,<-Fb,acR h]
theorem alA(hF:100000000<=F)(h1:X1 fl F n):XV fl F (n+1):=by
 intro N l m q s hm hs hst hl hn hN;obtain⟨N,rfl⟩:∃k,N=k+1:=⟨N-1,om⟩;show T2 _ (wz F (aV F n) l m (gK fl s)) (DT F (bN F N) l q s);refine T2.bd (h1 N l {m with jU:=false} (cZ.mk q false false) s ⟨hm,rfl⟩ hs hst hl om om) ?_;rintro⟨r,ok,x'⟩ ⟨r',s'⟩ ⟨g1,g2,g3⟩;dsimp only at g1 g2 g3⊢;have z1:=g2.1;have z2:=g2.2;have e18:=aaP F r' om om om;have etx:(r'.flatMap fun r=>r.fText)=CA r':=rfl;rw [e18];have hlen:=Fb r';rcases g3 with⟨k1,k2,k3⟩|⟨k1,k2,k3,-⟩
 ·cases k2
  have jr:r.length=r'.length:=by have:=congrArg List.length k3.1;simpa using this
  have js:=alz k3.1;rw [jD,aO,Qz F r om om om,acR k3.1];refine T2.cb (fun h=>?_) fun h=>T2.ok ⟨⟨⟨g1,by grind,.inl ⟨k1,rfl⟩⟩,fun _=>?_⟩,by simp_all⟩
  ·rw [tI]
   refine T2.ok ⟨⟨RR.err g1 (by grind) k1 de rfl,fun h=>?_⟩,by simp_all⟩
   grind [ahk]
  grind
 ·subst k2
  rw [qV,bf,tI,k1,bf];refine T2.cr (fun _=>T2.ok ?_) fun _=>T2.ok ?_
  all_goals exact⟨⟨⟨g1,by grind,.inr ⟨k1,rfl,k3,rfl⟩⟩,fun h=>by rw [k1] at h;cases h⟩,by simp_all⟩
end
theorem aA.eqv{R:Type}{x:O R}{v:R}(h:aA (fun r=>r=v) x):x=some v:=by
 obtain⟨r,h,e⟩:=h;rw [e,h]
def lJ(o:J aH)(r:aH):J aH:=cond (r.fText==[]) o (cond (decide (0<o.length)&&((o.getD (o.length-1) cx).bO==r.bO)) (o.set (o.length-1) (aH.mk ((o.getD (o.length-1) cx).fText++r.fText) (o.getD (o.length-1) cx).bO)) (o++[r]))
def ic(l:J aH):J aH:=l.foldl lJ []
theorem aaS:∀(l:J aH)(k:Nat)(t:Bs)(c:Int),k<l.length->cA (l.set k (aH.mk ((l.getD k cx).fText++t) c))=cA l+t.length
 | [],k,t,c,h=>absurd h (adb _)
 | a::l,0,t,c,h=>by
  unfold cA
  grind
 | a::l,k+1,t,c,h=>by
  have:=aaS l k t c (by simpa using h);show cA (a::l.set k (aH.mk ((l.getD k cx).fText++t) c))=_;unfold cA at this⊢;simp only [ld,XH];omega
theorem ajs(o:J aH)(r:aH):cA (lJ o r)=cA o+r.fText.length/\(lJ o r).length<=o.length+1:=by
 unfold lJ
 cases h1:(r.fText==[]) with
 | true=>
  simp_all
 | false=>
  cases h2:(decide (0<o.length)&&((o.getD (o.length-1) cx).bO==r.bO)) with
  | true=>
   grind [aaS,List.length_set]
  | false=>
   refine⟨?_,by simp_all⟩;show cA (o++[r])=_;rw [Bu];simp [cA]
theorem AJ:∀(l o:J aH),cA (l.foldl lJ o)=cA o+cA l/\(l.foldl lJ o).length<=o.length+l.length
 | [],o=>⟨by simp [cA],si⟩
 | r::l,o=>by
  obtain⟨h1,h2⟩:=AJ l (lJ o r);obtain⟨h3,h4⟩:=ajs o r;rw [Da];refine⟨by rw [h1,h3];simp [cA];omega,bE⟩
theorem acS(F:Nat)(l:J aH){R:Type}(f:J aH->R)(hF:l.length<F)(h1:l.length<=1000000)(h2:cA l<=100000000):
  bV (σ:=Int×(J aH)) (R:=R) (fun gC x2=>
   cond (decide (x2.1<(l.length:Int)))
   (rq ((decide (0<=x2.1))&&(decide (x2.1<(l.length:Int)))) (cond (((l.getD (Int.toNat x2.1) cx).fText)==[])
   (gC (aB (x2.1+1),x2.2))
   ((cond (decide (0<=aB ((x2.2.length:Int)-1)))
   (rq ((decide (0<=aB ((x2.2.length:Int)-1)))&&(decide (aB ((x2.2.length:Int)-1)<(x2.2.length:Int)))) (some (((x2.2.getD (Int.toNat (aB ((x2.2.length:Int)-1))) cx).bO)==((l.getD (Int.toNat x2.1) cx).bO),x2.2)))
   (some (false,x2.2)):O (Bool×(J aH))).bind fun x4=>
   cond x4.1
   (rq ((decide (0<=aB ((x2.2.length:Int)-1)))&&(decide (aB ((x2.2.length:Int)-1)<(x4.2.length:Int)))) (rq (decide (((x4.2.getD (Int.toNat (aB ((x2.2.length:Int)-1))) cx).fText).length+((l.getD (Int.toNat x2.1) cx).fText).length<=9223372036854775807)) (rq ((decide (0<=aB ((x2.2.length:Int)-1)))&&(decide (aB ((x2.2.length:Int)-1)<(x4.2.length:Int)))) (gC (aB (x2.1+1),x4.2.set (Int.toNat (aB ((x2.2.length:Int)-1))) (aH.mk (((x4.2.getD (Int.toNat (aB ((x2.2.length:Int)-1))) cx).fText)++((l.getD (Int.toNat x2.1) cx).fText)) ((x4.2.getD (Int.toNat (aB ((x2.2.length:Int)-1))) cx).bO)))))))
   (rq ((decide (x4.2.length+([(l.getD (Int.toNat x2.1) cx)]:J aH).length<=9223372036854775807))&&(decide ((x4.2.length+([(l.getD (Int.toNat x2.1) cx)]:J aH).length)*24<=140737488355328))) (gC (aB (x2.1+1),x4.2++([(l.getD (Int.toNat x2.1) cx)]:J aH)))))))
   (some (f x2.2))) F (0,([]:J aH))=some (f (ic l)):=by
 refine aA.eqv ?_;refine aA.lp (fun z:Int×J aH=>∃k:Nat,z.1=(k:Int)/\k<=l.length/\z.2=ic (l.take k)) (fun z=>l.length-z.1.toNat) ⟨0,rfl,eR _,rfl⟩ (by simp_all) ?_;rintro⟨i,o⟩ ⟨k,q1,hk,q2⟩ rc hrc;dsimp only at q1 q2 hrc⊢;subst q1;refine aA.cd (fun h=>?_) fun h=>?_
 ·have hk:k<l.length:=om
  have hm:l.length-Int.toNat ((k+1:Nat):Int)<l.length-Int.toNat (k:Int):=om
  have es:ic (l.take (k+1))=lJ o l[k]:=by
   unfold ic;rw [pR hk,T8,q2];rfl
  obtain⟨b1,b2⟩:=AJ (l.take k) [];rw [show (l.take k).foldl lJ []=o from q2.symm] at b1 b2;have b3:=tJ l k;have b5:=tJ l (k+1);have b6:=pY l k hk;have z0:cA ([]:J aH)=0:=rfl;simp only [JY] at b2;have nx:∀o',o'=lJ o l[k]->aA (fun r=>r=f (ic l)) (rc (((k+1:Nat):Int),o')):=fun o' ho=>hrc _ ⟨k+1,rfl,hk,by rw [es];exact ho⟩ hm;rw [bU om om,bn om,bL,gd hk];generalize l[k]=a at nx b6⊢;refine aA.cb (fun ha=>nx o (by unfold lJ;rw [ha];rfl)) fun ha=>?_;by_cases h0:0<o.length
  ·have e1:aB ((o.length:Int)-1)=((o.length-1:Nat):Int):=by grind [bI]
   rw [e1,cM om,bU om om,bL,aD]
   refine aA.cb (fun hc=>?_) fun hc=>aA.rq (nD (by grind) de) (nx _ (by
    unfold lJ;grind))
   have hle:(o.getD (o.length-1) cx).fText.length<=cA o:=by
    have hlt:o.length-1<o.length:=om;rw [gd hlt];have:=pY o (o.length-1) hlt
    grind
   refine aA.rq (jM om (by dsimp only;omega)) (aA.rq (decide_eq_true (by dsimp only;omega)) (aA.rq (jM om (by dsimp only;omega)) (nx _ ?_)));unfold lJ;grind
  ·have e1:aB ((o.length:Int)-1)=-1:=by simp_all [bI]
   rw [e1,cf om,aD];exact aA.rq (nD (by simp_all) de) (nx _ (by unfold lJ;grind))
 simp_all [H9,aA.ok]
def RPt(fl:J bu)(k:Nat)(a:J aH×Bool×aM)(b:J aH×aY):Prop:=nu b.2/\RB k b.1/\((stop b.2=false/\a=(ic b.1,true,gK fl b.2))\/(stop b.2=true/\a.2.1=false/\Fin a.2.2 b.2))
theorem akf(F:Nat)(t:Bs):tT F t=some ((t==[64])||(t==[42])):=by unfold tT;rw [aK];rfl
theorem alB(F:Nat)(o:Int)(c s:Bool)(v:Bs):AA F o c s v=rT F o c s v:=by
 unfold AA rT;simp only [aK,aD]
 grind
section
variable {F n : Nat} {fl : J bu}
theorem WH(hF:100000000<=F)(h1:X1 fl F n)(N:Nat)(l:J TPart)(s:aY)(hs:nu s)(hst:stop s=false)(hl:gq l<=1000)(hn:9*gq l+9<=n)(hN:6*gq l+6<=N):
  T2 (RPt fl (gq l)) ((aV F (n+1)).2.2.2.2.2.2.1 l (gK fl s)) ((bN F N).1 l (cZ.mk false false false) s):=by
 show T2 _ (oy F (aV F n) l (gK fl s)) _;unfold oy;obtain⟨⟨r,ok,x'⟩,⟨r',s'⟩,h,e1,e2⟩:=h1 N l (dh.mk false false 0) (cZ.mk false false false) s ⟨rfl,rfl⟩ hs hst hl hn hN;have h:=h.rr (fun _=>rfl);rw [e1,e2,aD];obtain⟨g1,g2,⟨k1,k2⟩|⟨k1,k2,k3,k4⟩⟩:=h
 ·cases k2
  have z1:=g2.1;have z2:=g2.2;dsimp only at z1 z2⊢;rw [acS F _ (fun o=>(o,true,gK fl s')) om om om];exact T2.ok ⟨g1,g2,.inl ⟨k1,rfl⟩⟩
 ·have k4:=k4
  subst k2 k4;rw [acS F [] (fun o=>(o,false,x')) bE si (by simp [cA])];exact T2.ok ⟨g1,g2,.inr ⟨k1,rfl,k3⟩⟩
theorem aho(hF:100000000<=F)(hv:XV fl F n)(N:Nat)(x:TPart)(m:dh)(p:cZ)(s:aY)(hm:m.eW=p.eW)(hs:nu s)(hst:stop s=false)(hl:wP x<=1000)(hn:9*gq x.fParts+10<=n)(hN:6*gq x.fParts+7<=N):
  T2 (fun a b=>nu b/\stop b=true/\a.1=false/\Fin a.2 b) ((aV F (n+1)).2.2.2.2.2.2.2.2 x m (gK fl s)) ((bN F (N+1)).2.2.2.2.2 x p s):=by
 have hw:=I4 x;show T2 _ (oz F (aV F n) x m (gK fl s)) (tZ F (bN F N) x p s);unfold oz tZ;rw [aK,aD];have l1:decide (x.fText.length+([58,32]:Bs).length<=9223372036854775807)=true:=decide_eq_true (by grind);have bad:∀(t:Bs)(u:aY),nu u->stop u=false->nu (cond (stop u) u {u with fe:=32,eV:=t})/\stop (cond (stop u) u {u with fe:=32,eV:=t})=true/\Fin {gK fl u with eV:=t,yB:=32} (cond (stop u) u {u with fe:=32,eV:=t}):=fun t u hu hsu=>⟨Lb hu _ _,(failed (fl:=fl) hsu de).1,(failed hsu de).2⟩;by_cases h0:0<x.fParts.length
 ·rw [cM om]
  obtain⟨⟨t0,ok,x'⟩,⟨t,s'⟩,⟨⟨⟨hg,hi,hh⟩,hlen⟩,-⟩,e1,e2⟩:=hv N x.fParts m p.eW s hm hs hst om hn hN;rw [e2];rcases hh with⟨k1,k2⟩|⟨k1,k2,k3,k4⟩
  ·cases k2
   grind [T2.ql,T2.qr,JX,tI,T2.ok]
  ·subst k2
   grind [T2.qr,tI,T2.ok]
 ·rw [cf om,cf om]
  cases x.fColon with
  | true=>
   refine T2.ql (dN (by show x.fText.length+27<=_;omega)) (T2.qr l1 (T2.qr (dN (by rw [yb];show x.fText.length+2+25<=_;omega)) ?_))
   simp_all [JX,tI,T2.ok]
  | false=>
   refine T2.ql (dN (by show x.fText.length+19<=_;omega)) (T2.qr l1 (T2.qr (dN (by rw [yb];show x.fText.length+2+17<=_;omega)) ?_))
   simp_all [JX,tI,T2.ok]
end
def T5(F:Nat):Prop:=∀(op:Int)(v:Bs)(l:J aH),6<=op->op<=9->v.length<=4096->l.length<=26000->cA l<=5000000 ->
 T2 (fun a b=>a=b/\b.length<=v.length) ((iG F (ic l)).bind fun p=>EY F op v p) ((jJ F l).bind fun p=>ER F op v p)
theorem T2.bd2{A B C D X Y:Type}{Q:A->B->Prop}{P:C->D->Prop}{x:O X}{y:O Y}{f:X->O C}{g:Y->O D}{h:C->O A}{h':D->O B}(t:T2 P (x.bind f) (y.bind g))(k:∀a b,P a b->T2 Q (h a) (h' b)):T2 Q (x.bind fun a=>(f a).bind h) (y.bind fun b=>(g b).bind h'):=by
 rw [<-XI,<-XI];exact T2.bd t k
theorem aoQ{D X Y:Type}{y:O X}{g:X->O D}{h:D->O Y}{b:D}(e:(y.bind g)=some b):(y.bind fun b=>(g b).bind h)=h b:=by
 rw [<-XI,e];rfl
theorem pid{A B C:Type}(y:O (A×B×C)):(y.bind fun x=>some (x.1,x.2.1,x.2.2))=y:=by cases y<;>rfl
theorem anp{A B:Type}(y:O (A×B)):(y.bind fun x=>some (x.1,x.2))=y:=by cases y<;>rfl
theorem trB(o:Int):(cond (o==6) (o==6) (cond (o==7) (o==7) (cond (o==8) (o==8) (o==9))))=cond (decide (6<=o)) (decide (o<=9)) false:=by
 rw [cF]
 grind
theorem alC(F:Nat)(fl:J bu){s:aY}(h:nu s)(n v:Bs)(m:dh)(p:cZ)(hm:Mo m p)(hv:v.length<=4096)(hF:1000<F):T2 (fun a b=>a=b/\RB 1 b) (mJ F n v m (gK fl s)) (lK F n v p s):=by
 obtain⟨r,hr,er⟩:=alq F h.1 n v p hv hF;refine⟨r,r,⟨rfl,hr⟩,?_,er⟩;rw [<-er];obtain⟨m1,m2⟩:=hm;unfold mJ lK;rw [akf,ake F m1,m1,m2,show (gK fl s).cm=s.cm from rfl];simp only [aK,aD];obtain⟨c,hc⟩:=O9 F p
 have e:cond (cond (!p.jU) true (!((n==[64])||(n==[42])))) true (cond (n==[42]) p.eW false)=cond (cond (!p.jU) true (cond (!(n==[64])) (!(n==[42])) false)) true (cond p.eW (n==[42]) false):=by
  grind
 rw [e]
 cases (cond (cond (!p.jU) true (cond (!(n==[64])) (!(n==[42])) false)) true (cond p.eW (n==[42]) false)) with
 | true=>rfl
 | false=>
  rw [aO];congr 1
  funext rc z
  cases hd:decide (z.2<(s.cm.cD.length:Int)) with
  | false=>rfl
  | true=>
   cases h0:decide (0<=z.2) with
   | false=>
    grind
   | true=>
    rfl
section
variable {F n : Nat} {fl : J bu}
theorem alD(hF:100000000<=F)(hT:T5 F)(h1:∀k,k<n->X1 fl F k)(hV:∀k,k<n->XV fl F k)(N:Nat)(x:TPart)(m:dh)(p:cZ)(s:aY)(hm:Mo m p)(hs:nu s)(hst:stop s=false)(hx:wP x<=1000)(hn:9*wP x+7<=n)(hN:6*wP x+4<=N):
  T2 (RJ fl (wP x) m p) ((aV F n).2.2.2.2.2.1 x m (gK fl s)) ((bN F N).2.2.2.2.1 x p s):=by
 have hw:=I4 x;obtain⟨j,rfl⟩:∃j,n=j+3:=⟨n-3,om⟩;obtain⟨M,rfl⟩:∃j,N=j+2:=⟨N-2,om⟩;show T2 _ (mV F (aV F (j+2)) x m (gK fl s)) (tY F (bN F (M+1)) x p s);unfold mV tY;obtain⟨⟨v,st⟩,hv,ev⟩:=alp F hs.1.1 x.fText om om;rw [show xB F (gK fl s).cm x.fText=jL F s.cm x.fText from anm F hs.1.1 x.fText om om,ev,aD,aD];obtain⟨c,hc⟩:=O9 F p;have hmc:dS F m=some c:=by rw [ake F hm.1,hc]
 have htr:Cq F x.fOp=some (cond (decide (6<=x.fOp)) (decide (x.fOp<=9)) false):=by unfold Cq;rw [aK];rfl
 simp only [akf,htr,hc,hmc,aK,aD,trB,cT];dsimp only at hv⊢;rw [show (gK fl s).cm=s.cm from rfl];generalize htB:cond (decide (6<=x.fOp)) (decide (x.fOp<=9)) false=tr;generalize hnb:((mM .i64 s.cm.iu 2) != 0)=nb;have l1:decide (x.fText.length+([58,32,112,97,114,97,109,101,116,101,114,32,110,111,116,32,115,101,116]:Bs).length<=9223372036854775807)=true:=dN (by show x.fText.length+19<=_;omega)
 have key:∀A B:O (Unit ⊕ (J aH×Bool×aM)),(cond (cond (x.fOp==0) (x.fOp==0) (cond (x.fOp==5) (x.fOp==5) tr)) (cond (cond (cond nb (!st) false) (!((x.fText==[64])||(x.fText==[42]))) false) A B) B)=cond (cond (cond (cond nb (!((x.fText==[64])||(x.fText==[42]))) false) (!st) false) ((x.fOp==0)||((x.fOp==5)||tr)) false) A B:=fun A B=>by
  grind
 rw [key];have one:∀(t:Bs)(u:aY),t.length<=5000*wP x->nu u->stop u=false->T2 (RJ fl (wP x) m p) ((gz F t c).bind fun fy=>some (fy,true,gK fl u)) (some ([aH.mk t c],u)):=fun t u ht hu hsu=>T2.ok (RJ.go hu (RB.one om ht) hsu)
 cases (cond (cond (cond nb (!((x.fText==[64])||(x.fText==[42]))) false) (!st) false) ((x.fOp==0)||((x.fOp==5)||tr)) false) with
 | true=>
  rw [bf,bf,cE l1,cE l1,JX,tI]
  exact T2.ok (RR.j (RR.err hs (RB.nil (k:=1)) hst de rfl) om)
 | false=>
  rw [aO,aO];show T2 _ (cond (x.fOp==5) _ _) _;have R:∀k:Nat,k<=1000000->K.gi (k:Int):=fun k hk=>⟨om,om⟩
  have dec:∀k:Nat,k<=1000000->T2 (RJ fl (wP x) m p) ((oq F (k:Int)).bind fun fB=>(gz F fB c).bind fun fy=>some (fy,true,gK fl s)) ((dy F (k:Int)).bind fun x9=>some ([aH.mk x9 c],s)):=fun k hk=>by
   grind [K.vR,afq,K.Jy]
  cases h5:(x.fOp==5) with
  | true=>
   rw [bf,bf,bf];have hp:=hs.1.1.2.1;show T2 _ ((oq F (cond ((x.fText==[64])||(x.fText==[42])) (s.cm.cD.length:Int) (v.length:Int))).bind _) _
   grind
  | false=>
   rw [aO,aO,aO,aO]
   cases tr with
   | true=>
    rw [bf,bf]
    have hop:6<=x.fOp/\x.fOp<=9:=by
     simp_all
    refine T2.bd (WH hF (h1 (j+1) om) (M+1) x.fParts s hs hst om om om) ?_;rintro⟨r,ok,x'⟩ ⟨r',s'⟩ ⟨g1,g2,g3⟩;dsimp only at g1 g2 g3⊢;have z1:=g2.1;have z2:=g2.2;have hTr:=hT x.fOp v r' hop.1 hop.2 hv om om;rcases g3 with⟨k1,k2⟩|⟨k1,k2,k3⟩
    ·cases k2
     rw [jD,aO];refine T2.bd2 hTr ?_
     grind
    ·have k2:ok=false:=k2
     subst k2;rw [qV,bf];obtain⟨a,b,⟨-,hb⟩,-,e2⟩:=hTr;rw [aoQ e2]
     exact T2.ok ⟨g1,RB.one om om,.inr ⟨k1,rfl,k3,rfl⟩⟩
   | false=>
    rw [aO,aO,TPart.eta,pid];show T2 _ (pI F (aV F (j+1)) x m v st (gK fl s)) _;unfold pI;rw [alB];obtain⟨ch,hch⟩:=ajp F x.fOp x.fColon st v;rw [hch,aD,aD,hmc];simp only [pid,anp,TPart.eta];refine T2.cb (fun _=>?_) fun _=>T2.cb (fun _=>one [] s (eR _) hs hst) fun _=>T2.cb (fun _=>?_) fun _=>T2.cb (fun _=>?_) fun _=>?_
    ·refine T2.mono (h1 (j+1) om (M+1) x.fParts {m with mg:=2} {p with BP:=true} s hm hs hst om om om) ?_
     rintro a b h;exact RR.j (h.rr fun _=>rfl) om
    ·rw [K.FQ F _ om]
     obtain⟨nm,-,enm⟩:=Ec F x.fText om;rw [enm,aD,aD];have l3:decide (x.fText.length+([58,32,99,97,110,110,111,116,32,97,115,115,105,103,110]:Bs).length<=9223372036854775807)=true:=dN (by show x.fText.length+15<=_;omega);refine T2.cb (fun _=>?_) fun _=>?_
     ·rw [cE l3,cE l3,JX,tI]
      exact T2.ok (RR.j (RR.err hs (RB.nil (k:=1)) hst de rfl) om)
     ·refine T2.bd (hV (j+1) om (M+1) x.fParts m p.eW s hm.1 hs hst om om om) ?_
      rintro⟨t0,ok,x'⟩ ⟨t,s'⟩ ⟨⟨⟨g1,g2,g3⟩,g4⟩,g5⟩;dsimp only at g1 g2 g3 g4 g5⊢
      have ht:t.length<=5000*wP x:=by
       grind
      rcases g3 with⟨k1,k2⟩|⟨k1,k2,k3,k4⟩
      ·cases k2
       rw [jD,aO];refine T2.l (P:=fun y:Bool×aM=>∃s2,gW F x.fText t0 s'=some s2/\nu s2/\((stop s2=false/\y=(false,gK fl s2))\/(stop s2=true/\y.1=true/\Fin y.2 s2))) ?_ ?_
       ·obtain⟨⟨a1,a2⟩,s2,⟨b1,b2⟩,e1,e2⟩:=acQ F fl g1 k1 x.fText t0 om
        simp_all [aD,aA.ok]
       ·rintro⟨a1,a2⟩ ⟨s2,e2,b1,b2⟩
        rw [e2,aD];rcases b2 with⟨b2,b3⟩|⟨b2,b3,b4⟩
        ·simp_all
        ·have b3:a1=true:=b3
         subst b3;exact T2.ok ⟨b1,RB.one om ht,.inr ⟨b2,rfl,b4,rfl⟩⟩
      ·have k2:ok=false:=k2
       subst k2;rw [qV,bf,aD,akc F k1,aD];exact T2.ok ⟨g1,RB.one om ht,.inr ⟨k1,rfl,k3,rfl⟩⟩
    ·refine T2.bd (aho hF (hV j om) M x m p s hm.1 hs hst hx om om) ?_
     rintro⟨a1,a2⟩ s2 ⟨b1,b2,b3,b4⟩;have b3:a1=false:=b3;subst b3;exact T2.ok ⟨b1,RB.nil,.inr ⟨b2,rfl,b4,rfl⟩⟩
    ·refine T2.bd (alC F fl hs x.fText v m p hm hv om) ?_
     rintro a b ⟨rfl,hb⟩;exact T2.ok (RJ.go hs (hb.mono om) hst)
end
theorem apY{R:Type}(F:Nat)(p:TPart)(f:Bool->O R):((cond (p.fKind==4) (some (p.fText==([64]:Bs))) (some false):O Bool).bind fun x4=>(cond x4 (some (p.fOp==0)) (some false):O Bool).bind f)=(vg F p).bind f:=by
 unfold vg
 grind
theorem aoR(F:Nat){l:J bC}(hl:l.length<=128)(hF:1000<F){R:Type}(n:Bs)(A:bC->O R)(B:O R):((yC F l n).bind fun x5=>(cond x5.2 (some x5.1.cH) (some false):O Bool).bind fun x6=>cond x6 (A x5.1) B)=cond (ji l n).1.cH (A (ji l n).1) B:=by
 rw [ajn F _ _ om om]
 have hb:(ji l n).2=false->(ji l n).1=bC.mk [] [] false false false:=by
  unfold ji;cases l.find? _<;>simp
 grind
section
variable {F n : Nat} {fl : J bu}
theorem anq(hN':NC<=F)(hF:100000000<=F)(hT:T5 F)(h1:∀k,k<n->X1 fl F k)(hV:∀k,k<n->XV fl F k):X2 fl F n:=by
 intro N x m p s hm hs hst hx hn hN;have hw:=I4 x;obtain⟨j,rfl⟩:∃j,n=j+2:=⟨n-2,om⟩;obtain⟨M,rfl⟩:∃j,N=j+2:=⟨N-2,om⟩;show T2 _ (qJ F (aV F (j+1)) x m (gK fl s)) (vi F (bN F (M+1)) x p s);unfold qJ vi;obtain⟨c,hc⟩:=O9 F p;obtain⟨d,hd⟩:=ank F p;simp only [pid,TPart.eta];have one:∀(t:Bs)(c:Int),t.length<=5000*wP x->T2 (RJ fl (wP x) m p) ((gz F t c).bind fun fy=>some (fy,true,gK fl s)) (some ([aH.mk t c],s)):=fun t c ht=>T2.ok (RJ.go hs (RB.one om ht) hst);refine T2.cb (fun _=>?_) fun _=>T2.cb (fun _=>one _ _ om) fun _=>T2.cb (fun _=>?_) fun _=>T2.cb (fun _=>?_) fun _=>T2.cb (fun _=>?_) fun _=>T2.cb (fun _=>?_) fun _=>T2.cb (fun _=>?_) fun _=>T2.ok (RJ.go hs RB.nil hst)
 ·
  have hl:∃d',pO F m=some d'/\(COk m p->d'=d):=by
   unfold pO;unfold pE at hd;rw [<-hm.1] at hd;unfold COk
   grind
  obtain⟨d',hd',he⟩:=hl;rw [hd,hd',aD,aD];exact T2.ok ⟨hs,RB.one om (by grind),.inl ⟨hst,rfl,rfl,fun h=>by rw [he h]⟩⟩
 ·
  show T2 _ (pH F (aV F j) x m (gK fl s)) _;unfold pH;have hkl:=I5 x.fParts
  have rl:∀(r:J aH)(u:aY),aA (fun y=>y=(r,u)\/(r=[]/\y=([aH.mk [] 1],u))) (bV (σ:=Int) (R:=(J aH)×aY) (fun j7 x3=>
    cond (decide (x3<(x.fParts.length:Int)))
    (rq ((decide (0<=x3))&&(decide (x3<(x.fParts.length:Int)))) ((vg F (x.fParts.getD (Int.toNat x3) kO)).bind fun x5=>
    cond x5
    (some (r,u))
    (j7 (aB (x3+1)))))
    (cond ((r.length:Int)==0)
    (some (([(aH.mk [] 1)]:J aH),u))
    (some (r,u)))) F 0):=fun r u=>by
   refine aA.lp (fun i:Int=>∃k:Nat,i=(k:Int)/\k<=x.fParts.length) (fun i=>x.fParts.length-i.toNat) ⟨0,rfl,om⟩ (by grind) ?_;rintro _ ⟨k,rfl,hk⟩ rc hrc;refine aA.cd (fun h=>?_) fun _=>aA.cb (fun h=>aA.ok (.inr ⟨adh.1 (by simp_all),rfl⟩)) fun _=>aA.ok (.inl rfl);obtain⟨b,hb⟩:=aj9 F (x.fParts.getD (Int.toNat (k:Int)) kO);rw [bU om om,hb,aD,bn om];exact aA.cb (fun _=>aA.ok (.inl rfl)) fun _=>hrc _ ⟨k+1,rfl,om⟩ (by grind)
  refine T2.bd (h1 j om (M+1) x.fParts (dh.mk true m.jU 0) (cZ.mk true false p.jU) s ⟨rfl,hm.2⟩ hs hst om om om) ?_;intro a b h;have h:=h.rr (fun h=>nomatch h);obtain⟨r,ok,x'⟩:=a;obtain⟨r',s'⟩:=b;obtain⟨g1,g2,⟨k1,k2⟩|⟨k1,k2,k3,k4⟩⟩:=h
  ·cases k2
   dsimp only at g1 g2 k1⊢;rw [jD,aO];by_cases h0:0<r'.length
   ·rw [cM om]
    obtain⟨y,hy,e⟩:=rl r' s';rw [e];rcases hy with rfl|⟨h,_⟩
    ·exact T2.ok (RJ.go g1 (g2.mono om) k1)
    simp_all
   ·rw [cf om]
    have hnil:r'=[]:=adh.1 om;subst hnil;refine T2.lp (fun (i i':Int)=>∃k:Nat,i=(k:Int)/\i'=(k:Int)/\k<=x.fParts.length) (fun i=>x.fParts.length-i.toNat) ⟨0,rfl,rfl,om⟩ (by grind) ?_;rintro _ _ ⟨k,rfl,rfl,hk⟩ q1 q2 hrc;refine T2.cb (fun h=>?_) fun _=>T2.ok (RJ.go g1 (RB.one om (eR _)) k1);have h:=yX h;have e:=apY (R:=J aH×Bool×aM) F (x.fParts.getD (Int.toNat (k:Int)) kO);obtain⟨b,hb⟩:=aj9 F (x.fParts.getD (Int.toNat (k:Int)) kO);refine T2.ql (jM om om) (T2.qr (jM om om) ?_);rw [e,hb,aD,aD,bn om];exact T2.cb (fun _=>T2.ok (RJ.go g1 RB.nil k1)) fun _=>hrc _ _ ⟨k+1,rfl,rfl,om⟩ (by grind)
  ·have k2:ok=false:=k2
   have k4:r=[]:=k4;subst k2 k4;dsimp only at g1 g2 k1 k3⊢;rw [qV,bf];obtain⟨y,hy,e⟩:=rl r' s';rw [e];rcases hy with rfl|⟨_,rfl⟩
   ·exact T2.ok ⟨g1,g2.mono om,.inr ⟨k1,rfl,k3,rfl⟩⟩
   ·exact T2.ok ⟨g1,RB.one om (eR _),.inr ⟨k1,rfl,k3,rfl⟩⟩
 ·
  have hl:=hs.1.1.1.1;have hv:=(OD hs.1.1.1 [72,79,77,69]).2;have e:=aoR F (l:=s.cm.bR) hl om [72,79,77,69] (fun v=>(gz F v.bK 1).bind fun x7=>some (x7,true,gK fl s)) ((gz F [126] 0).bind fun x8=>some (x8,true,gK fl s));rw [show (gK fl s).cm=s.cm from rfl,e,xH F s.cm.bR _ om om,aD]
  grind
 ·
  exact (apW F fl hs hst x m p hm.1 om).mono fun a b h=>RR.j h om
 ·
  have:=ano hN' hF fl (aV F j) (bN F M) x m p hm.1 s ((hV j om M x.fParts (dh.mk true false 0) true s rfl hs hst om om om).mono fun a b h=>h.1);exact this.mono fun a b h=>RR.j h om
 grind [alD,anp]
theorem akg(hN':NC<=F)(hF:100000000<=F)(hT:T5 F):∀n,X1 fl F n:=by
 intro n
 induction n using Nat.strongRecOn with
 | ind n ih=>
  cases n with
  | zero=>intro N l m p s _ _ _ _ h _;omega
  | succ n=>
   have hV:∀k,k<n+1->XV fl F k:=fun k hk=>by
    cases k with
    | zero=>intro N l m q s _ _ _ _ h _;omega
    | succ k=>grind [alA]
   grind [aly,anq]
end
def afs(it:aF)(t:Bs):Prop:=it.fKind=3\/∃b,t=[b]/\QD it (b.toNat:Int)=true
def Mt:J aF->Bs->Prop
 | [],s=>s=[]
 | it::p,s=>∃a b,s=a++b/\afs it a/\Mt p b
theorem Pa:∀(p:J aF)(it:aF)(s:Bs),Mt (p++[it]) s↔∃a b,s=a++b/\Mt p a/\afs it b
 | [],it,s=>by
  constructor
  ·rintro⟨a,b,rfl,h,rfl⟩;exact⟨[],a,si,rfl,h⟩
  ·rintro⟨a,b,rfl,rfl,h⟩;exact⟨b,[],si,h,rfl⟩
 | x::p,it,s=>by
  constructor
  ·rintro⟨a,b,rfl,h,hb⟩
   obtain⟨c,d,rfl,h1,h2⟩:=(Pa p it b).1 hb;exact⟨a++c,d,si,⟨a,c,rfl,h,h1⟩,h2⟩
  ·rintro⟨a,b,rfl,⟨c,d,rfl,h1,h2⟩,h3⟩
   exact⟨c,d++b,si,h1,(Pa p it _).2 ⟨d,b,rfl,h2,h3⟩⟩
theorem ajt{it:aF}{t:Bs}(h:afs it t):afs it t.reverse:=by
 rcases h with h|⟨b,rfl,h⟩
 ·exact .inl h
 ·exact .inr ⟨b,rfl,h⟩
theorem aaT:∀(p:J aF)(s:Bs),Mt p s->Mt p.reverse s.reverse
 | [],s,h=>by
  obtain rfl:s=[]:=h
  rfl
 | it::p,s,h=>by
  obtain⟨a,b,rfl,h1,h2⟩:=h;rw [List.reverse_cons,List.reverse_append];exact (Pa _ _ _).2 ⟨_,_,rfl,aaT p b h2,ajt h1⟩
theorem acT(f:Nat->Bool):∀k,upE f k=true↔∃j,j<=k/\f j=true
 | 0=>⟨fun h=>⟨0,dY _,h⟩,fun⟨j,h,e⟩=>by rwa [show j=0 by omega] at e⟩
 | k+1=>by
  rw [upE,Ia,acT f k];constructor
  ·rintro (h|⟨j,h,e⟩)
   ·exact⟨k+1,dY _,h⟩
   ·exact⟨j,om,e⟩
  ·rintro⟨j,h,e⟩
   by_cases hj:j=k+1
   ·subst hj;exact .inl e
   ·exact .inr ⟨j,om,e⟩
theorem Oq(p:J aF)(s:Bs):∀i,i<=p.length->∀k,k<=s.length->(EE p s i k=true↔Mt (p.take i) (s.take k))
 | 0,_,k,hk=>by
  show (k==0)=true↔s.take k=[];rw [List.take_eq_nil_iff]
  grind
 | i+1,hi,k,hk=>by
  have hki:R4 p i=p[i]:=by unfold R4;rw [gd om]
  rw [pR (show i<p.length by omega),Pa,EE]
  cases hs:lQ p i with
  | true=>
   rw [bf,acT];have h3:p[i].fKind=3:=by unfold lQ at hs;simp_all
   constructor
   ·rintro⟨j,hj,e⟩
    refine⟨s.take j,(s.take k).drop j,?_,(Oq p s i om j om).1 e,.inl h3⟩
    grind [Nat.min_eq_left,List.take_append_drop]
   ·rintro⟨a,b,e,h1,-⟩
    have hl:=congrArg List.length e;rw [Fm,yb] at hl;refine⟨a.length,om,(Oq p s i om _ om).2 ?_⟩
    grind [Nat.min_eq_left,List.take_left]
  | false=>
   have h3:p[i].fKind≠3:=by unfold lQ at hs;simp_all
   cases k with
   | zero=>
    refine⟨fun h=>(by cases h),?_⟩;rintro⟨a,b,e,-,h|⟨c,rfl,h⟩⟩
    ·exact absurd h h3
    ·simp at e
   | succ k=>
    have hsk:s.take (k+1)=s.take k++[s[k]]:=pR om;show (EE p s i k&&MM p s i k)=true↔_;rw [cw,Oq p s i om k om,hsk];unfold MM;rw [hki,gd (show k<s.length by omega)];constructor
    ·rintro⟨h1,h2⟩
     exact⟨_,_,rfl,h1,.inr ⟨_,rfl,h2⟩⟩
    ·rintro⟨a,b,e,h1,h|⟨c,rfl,h⟩⟩
     ·exact absurd h h3
     grind [List.append_inj']
theorem anr(p:J aF)(s:Bs){k:Nat}(hk:k<=s.length):EE p.reverse s.reverse p.reverse.length k=EE p (s.drop (s.length-k)) p.length (s.drop (s.length-k)).length:=by
 rw [sC,Oq _ _ _ (dY _) _ (by simpa using hk),Oq _ _ _ (dY _) _ (dY _),yf,yf,yf,List.take_reverse];exact⟨fun h=>by simpa using aaT _ _ h,fun h=>aaT _ _ h⟩
def dJ(long:Bool)(g:Nat->Bool):Nat->Int×Bool
 | 0=>(0,false)
 | k+1=>cond (g k&&cond long true (!(dJ long g k).2)) ((k:Int),true) (dJ long g k)
theorem HZ(b:Bool){f g:Nat->Bool}:∀k,(∀j,j<k->f j=g j)->dJ b f k=dJ b g k
 | 0,_=>rfl
 | k+1,h=>by rw [dJ,dJ,h k om,HZ b k fun j hj=>h j om]
theorem Lc(b:Bool)(g:Nat->Bool)(k:Nat)(h:∀j,k<=j->g j=false):∀d,dJ b g (k+d)=dJ b g k
 | 0=>rfl
 | d+1=>by rw [<-Ue,dJ,h _ om,Lc b g k h d];rfl
theorem WI(g:Nat->Bool)(k:Nat)(h:(dJ false g k).2=true):∀d,dJ false g (k+d)=dJ false g k
 | 0=>rfl
 | d+1=>by rw [<-Ue,dJ,WI g k h d,h,aO,jD,Ry,aO]
theorem aaU(b:Bool)(g:Nat->Bool):∀k,∃j:Nat,(dJ b g k).1=(j:Int)/\j<=k-1/\((dJ b g k).2=false->j=0)
 | 0=>⟨0,rfl,dY _,fun _=>rfl⟩
 | k+1=>by
  obtain⟨j,h1,h2,h3⟩:=aaU b g k;rw [dJ]
  grind
theorem WJ(F:Nat)(p:J aF)(n:Bs)(long:Bool)(hF:p.length+300<F)(qL:n.length<F)(hn:n.length<50000000)(hp:p.length<50000000)(hit:∀it∈p,mo it){v:Bool}(hv:lP F p=some v):
  oK F p n 0 long=some (dJ long (fun k=>v&&EE p n p.length k) (n.length+1)):=by
 unfold oK;rw [hv,aD]
 cases v with
 | false=>
  have:=Lc long (fun k=>false&&EE p n p.length k) 0 (fun _ _=>rfl) (n.length+1);rw [pP] at this
  rw [this];rfl
 | true=>
  have hw:aB ((p.length:Int)+1)=((p.length+1:Nat):Int):=cG om;have hlen:∀g:Nat->Bool,(iw (p.length+1) g).length=p.length+1:=fun g=>Bv _ g;rw [hw,jD,aO,cE (by rw [dT om,dT om,dT om,dT om,dT om];rfl),bL,qZ si,QC,Fz];rw [kE (g:=fun j=>j==0) fun j _=>by cases (j==0)<;>rfl,VQ F p _ om hp,aD,kE fun j _=>ahY p n j]
  have hsw:∀x:O (Int×Bool),x=some (dJ long (EE p n p.length) (n.length+1))->(x.bind fun x3=>some (x3.1,x3.2))=some (dJ long (EE p n p.length) (n.length+1)):=by
   rintro x rfl;rfl
  refine hsw _ (cW (fun s=>∃k:Nat,s=(iw (p.length+1) (fun j=>EP p n j k),(dJ long (EE p n p.length) k).1,(dJ long (EE p n p.length) k).2,(k:Int))/\k<=n.length/\(long=false->(dJ long (EE p n p.length) k).2=false)) (fun s=>n.length-s.2.2.2.toNat) ?_ F _ ⟨0,rfl,om,fun _=>rfl⟩ bE);rintro s ⟨k,rfl,hk,hsh⟩;rw [bU om (by rw [hlen];omega),bL p.length,bL k,vD _ om,af8,aK]
  have hS:dJ long (EE p n p.length) (k+1)=cond (EE p n p.length k) ((k:Int),true) (dJ long (EE p n p.length) k):=by
   rw [dJ]
   grind
  have hend:∀d,(∀j,k<j->j<=n.length->EE p n p.length j=false)->k+1+d=n.length+1->dJ long (EE p n p.length) (n.length+1)=dJ long (EE p n p.length) (k+1):=by
   intro d h1 h2;rw [HZ long (n.length+1) (g:=fun j=>EE p n p.length j&&decide (j<=n.length)) fun j hj=>by grind,HZ long (k+1) (g:=fun j=>EE p n p.length j&&decide (j<=n.length)) fun j hj=>by grind,<-h2];refine Lc _ _ _ (fun j hj=>?_) d
   grind
  by_cases afr:(EE p n p.length k && !long)=true
  ·right
   rw [cw] at afr;obtain⟨h1,h2⟩:=afr;have hl:long=false:=by simpa using h2
   subst hl;intro rc;rw [h1];rw [h1,bf] at hS;have:=WI (EE p n p.length) (k+1) (by rw [hS]) (n.length-k);rw [show k+1+(n.length-k)=n.length+1 by omega,hS] at this;rw [this];rfl
  ·have hstep:∀G:Int×Bool->O (Int×Bool),(jj (σ:=Int×Bool) ((some (cond (EE p n p.length k) (decide ((0:Int)<=(k:Int))) false):O Bool).bind fun x7=>cond x7 (cond (!long) (some (.inr ((k:Int),true))) (some (.inl ((k:Int),true)))) (some (.inl ((dJ long (EE p n p.length) k).1,(dJ long (EE p n p.length) k).2)))) G)=G (dJ long (EE p n p.length) (k+1)):=by
    intro G;rw [hS,aD]
    cases h1:EE p n p.length k with
    | false=>rfl
    | true=>
     have:long=true:=by
      simp_all
     rw [this];rfl
   by_cases hkn:k<n.length
   ·obtain⟨c,hc1,hc⟩:=abc F (iw (p.length+1) (fun j=>EP p n j k)) (by rw [hlen];omega) (by rw [hlen];omega)
    cases c with
    | false=>
     have hz:∀j,k<j->j<=n.length->EE p n p.length j=false:=by
      intro j h1 h2
      have:=Uw p n k (fun i hi=>by
       have:=hc1 rfl i (by rw [hlen];omega)
       grind [vD]) (j-k) p.length (Nat.le_refl _)
      grind [af8]
     rw [hend (n.length-k) hz om]
     simp_all
    | true=>
     left;refine⟨(iw (p.length+1) (fun j=>EP p n j (k+1)),(dJ long (EE p n p.length) (k+1)).1,(dJ long (EE p n p.length) (k+1)).2,((k+1:Nat):Int)),⟨k+1,rfl,om,fun hl=>?_⟩,bE,fun rc=>?_⟩
     ·simp_all
     ·refine (hstep _).trans ?_
      rw [show ((k:Int)==(n.length:Int))=false by simp;omega,aO,hc,aD,aD,jD,aO,bZ hkn,adY F p n _ k hF hp hit,aD,cG om]
      grind [kE,acm]
   grind
theorem aft(F:Nat)(p:J aF)(n:Bs)(long:Bool)(hF:p.length+300<F)(qL:n.length+1<F)(hn:n.length<50000000)(hp:p.length<50000000)(hit:∀it∈p,mo it){v:Bool}(hv:kj F p=some v):
  rS F p n long=some (dJ long (fun k=>v&&EE p n p.length k) (n.length+1)):=by
 unfold rS;rw [hv,aD]
 cases v with
 | false=>
  have:=Lc long (fun k=>false&&EE p n p.length k) 0 (fun _ _=>rfl) (n.length+1);rw [pP] at this
  rw [this];rfl
 | true=>
  rw [jD,acn F p n hF qL hn hp hit];refine cW (fun s=>∃k:Nat,s=((dJ long (EE p n p.length) k).1,(dJ long (EE p n p.length) k).2,(k:Int))/\k<=n.length+1) (fun s=>n.length+1-s.2.2.toNat) ?_ F _ ⟨0,rfl,om⟩ bE;rintro s ⟨k,rfl,hk⟩;dsimp only;by_cases hk2:k<=n.length
  ·left
   refine⟨_,⟨k+1,rfl,om⟩,bE,fun rc=>?_⟩;rw [bU om (by rw [Bv];omega),vD _ om,cG om,dJ]
   grind
  grind
theorem afu(F:Nat)(p:J aF)(n:Bs)(long:Bool)(hF:p.length+300<F)(qL:n.length+1<F)(hn:n.length<50000000)(hp:p.length<50000000)(hit:∀it∈p,mo it){v:Bool}(hv:lP F p=some v):
  rR F p n long=some (dJ long (fun k=>v&&EE p (n.drop (n.length-k)) p.length (n.drop (n.length-k)).length) (n.length+1)):=by
 generalize hg:(fun k=>v&&EE p (n.drop (n.length-k)) p.length (n.drop (n.length-k)).length)=g;refine cW (fun s=>∃k:Nat,s=((dJ long g k).1,(dJ long g k).2,(k:Int))/\k<=n.length+1) (fun s=>n.length+1-s.2.2.toNat) ?_ F _ ⟨0,rfl,om⟩ bE;rintro s ⟨k,rfl,hk⟩;dsimp only;by_cases hk2:k<=n.length
 ·left
  refine⟨_,⟨k+1,rfl,om⟩,bE,fun rc=>?_⟩
  have PC:sl n (aB ((n.length:Int)-(k:Int))) (n.length:Int)=n.drop (n.length-k):=by
   rw [bI om];unfold sl;simp
  rw [PC,bI om,cE (by grind),agb F p _ hF (by grind) (by grind) hp hit hv,aK,Option.bind_some,Option.bind_some,cG om,dJ]
  grind
 grind
theorem afv(F:Nat)(x:J aF)(hF:x.length<F)(hx:x.length<50000000):slices_Reverse F x=some x.reverse:=by
 unfold slices_Reverse;have h0:aB ((x.length:Int)-1)=(x.length:Int)-1:=bI om;rw [h0];refine cW (fun s:Int×Int×J aF=>∃k:Nat,s.1=(k:Int)/\s.2.1=(x.length:Int)-1-(k:Int)/\2*k<=x.length+1/\s.2.2.length=x.length/\∀m,m<x.length->s.2.2.getD m fK=cond (decide (m<k)||decide (x.length<=m+k)) (x.getD (x.length-1-m) fK) (x.getD m fK)) (fun s=>x.length-s.1.toNat) ?_ F _ ⟨0,rfl,si,om,rfl,fun m hm=>by grind⟩ bE;rintro⟨i,j,l⟩ ⟨k,h1,h2,h3,h4,h5⟩;dsimp only at h1 h2 h4 h5⊢;subst h1 h2;by_cases hk:(k:Int)<(x.length:Int)-1-(k:Int)
 ·left
  have hj:(x.length:Int)-1-(k:Int)=((x.length-1-k:Nat):Int):=om;rw [hj];refine⟨(((k+1:Nat):Int),((x.length-1-k-1:Nat):Int),(l.set k (l.getD (x.length-1-k) fK)).set (x.length-1-k) (l.getD k fK)),⟨k+1,rfl,by dsimp only;omega,om,by simp_all,fun m hm=>?_⟩,bE,fun rc=>?_⟩
  ·dsimp only
   grind
  ·rw [cM om,bU om om,bU om om,bU om om,bU om (by grind),Int.toNat_natCast,Int.toNat_natCast,cG om,uE om om]
 ·right
  intro rc;rw [cf hk];refine congrArg some (yY (by simp_all) fun m VI hm2=>?_)
  grind
theorem ahp(F:Nat)(x:J aF)(hx:x.length<50000000):Az F x=some x:=by
 unfold Az
 grind [Kz,rq,gT]
def DC(F:Nat)(it:aF):Bool:=cond (cond (cond (cond (decide (it.fKind<1)) true (decide (4<it.fKind))) true ((it.fText.length:Int) != cond (it.fKind==1) 1 0)) true (cond (it.fKind != 4) (cond it.Br true (decide (0<(it.cH.length:Int)))) false)) true (!((mY F it.cH).getD false))
theorem Ot(F:Nat)(p:J aF)(hF:p.length+300<F)(hp:p.length<50000000)(hit:∀it∈p,mo it):kj F p=some (!p.any (DC F)):=by
 unfold kj;refine cW (fun s:Int=>∃k:Nat,s=(k:Int)/\k<=p.length/\(p.take k).any (DC F)=false) (fun s=>p.length-s.toNat) ?_ F _ ⟨0,rfl,om,rfl⟩ bE;rintro _ ⟨k,rfl,hk,hn⟩;by_cases hk:k<p.length
 ·have hI:=hit _ (jN hk)
  have hl:=hI.2.2;obtain⟨c,hc⟩:=Bt F p[k].cH om om;have hb:∀rc:Int->O Bool,cond (DC F p[k]) (some false) (rc ((k+1:Nat):Int))=_:=fun rc=>rfl;unfold DC at hb;rw [hc] at hb;have e:(p.take (k+1)).any (DC F)=DC F p[k]:=by grind [List.take_succ_eq_append_getElem]
  cases hv:DC F p[k] with
  | true=>
   right;intro rc;rw [cM (show (k:Int)<(p.length:Int) by omega),bZ hk,bL,gd hk];rw [show p.any (DC F)=true from Ou.2 ⟨_,jN hk,hv⟩];unfold DC at hv
   grind
  | false=>
   left;refine⟨_,⟨k+1,rfl,om,by rw [e,hv]⟩,bE,fun rc=>?_⟩;rw [cM (show (k:Int)<(p.length:Int) by omega),bZ hk,bL,gd hk];unfold DC at hv
   grind [cG]
 grind
theorem ahq(F:Nat)(p:J aF)(n:Bs)(long:Bool)(hF:p.length+300<F)(qL:n.length+1<F)(hn:n.length<50000000)(hp:p.length<50000000)(hit:∀it∈p,mo it):
  ∃r:Int×Bool,(∃j:Nat,r.1=(j:Int)/\j<=n.length/\(r.2=false->j=0))/\oM F p n long=some r/\rR F p n long=some r:=by
 have hv:=Ot F p hF hp hit;rw [<-G6 F p hF hp hit] at hv;have aju:=fun it h=>hit it (List.mem_reverse.1 h);have hlr:p.reverse.length=p.length:=List.length_reverse;have hvr:=Ot F p.reverse (by rw [hlr];exact hF) (by rw [hlr];exact hp) aju;rw [<-G6 F p.reverse (by rw [hlr];exact hF) (by rw [hlr];exact hp) aju] at hvr;refine⟨_,?_,?_,afu F p n long hF qL hn hp hit hv⟩
 ·obtain⟨j,h1,h2,h3⟩:=aaU long (fun k=>(!p.any (DC F))&&EE p (n.drop (n.length-k)) p.length (n.drop (n.length-k)).length) (n.length+1)
  grind
 ·unfold oM
  rw [ahp F p hp,aD,afv F p om hp,aD,qZ om,WJ F p.reverse n.reverse long (by rw [hlr];exact hF) bE (by simpa using hn) (by rw [hlr];exact hp) aju hvr]
  grind [List.length_reverse,HZ,anr]
theorem afw(F:Nat)(p:J aF)(n:Bs)(long:Bool)(hF:p.length+300<F)(qL:n.length+1<F)(hn:n.length<50000000)(hp:p.length<50000000)(hit:∀it∈p,mo it):
  ∃r:Int×Bool,(∃j:Nat,r.1=(j:Int)/\j<=n.length/\(r.2=false->j=0))/\oN F p n long=some r/\rS F p n long=some r:=by
 have hv:=Ot F p hF hp hit;have qb:=hv;rw [<-G6 F p hF hp hit] at qb;refine⟨_,?_,?_,aft F p n long hF qL hn hp hit hv⟩
 ·obtain⟨j,h1,h2,h3⟩:=aaU long (fun k=>(!p.any (DC F))&&EE p n p.length k) (n.length+1)
  grind
 ·unfold oN
  grind [WJ]
theorem alE(a b:Bs)(c:Int):ri (aH.mk (a++b) c)=ri (aH.mk a c)++ri (aH.mk b c):=by
 unfold ri
 grind
theorem ajv(o:J aH)(r:aH):(lJ o r).flatMap ri=o.flatMap ri++ri r:=by
 obtain⟨t,c⟩:=r;unfold lJ
 cases h1:(t==[]) with
 | true=>
  have:ri (aH.mk [] c)=[]:=by unfold ri;simp_all
  simp_all
 | false=>
  rw [aO]
  cases h2:(decide (0<o.length)&&((o.getD (o.length-1) cx).bO==c)) with
  | true=>
   rw [cw,fq] at h2;have hk:o.length-1<o.length:=om;have hc:=eq_of_beq h2.2
   have ho:o=o.take (o.length-1)++[o.getD (o.length-1) cx]:=by
    rw [gd hk,<-pR hk,show o.length-1+1=o.length by omega,yf]
   rw [bf,ajE,if_pos hk,show o.length-1+1=o.length by omega,Ql,adf,List.flatMap_singleton,alE]
   conv=>rhs;rw [ho]
   rw [adf,List.flatMap_singleton,Fo]
   rw [<-hc]
  | false=>simp_all
theorem WK:∀(l o:J aH),(l.foldl lJ o).flatMap ri=o.flatMap ri++l.flatMap ri
 | [],o=>by simp
 | r::l,o=>by rw [Da,WK l,ajv,Rz,Fo]
theorem ajw(F:Nat)(l:J aH)(hF:100000000<=F)(h1:l.length<=26000)(h2:cA l<=5000000):∃p,((∀it∈p,mo it)/\p.length<=5000000)/\iG F (ic l)=some p/\jJ F l=some p:=by
 obtain⟨p,hp1,hp2⟩:=adW F l om om om om;obtain⟨q,⟨g1,g2⟩,hq⟩:=aa9 F l om om om om;rw [hp1] at hq;obtain rfl:=uv hq;refine⟨p,⟨g1,om⟩,?_,hp2⟩;obtain⟨j1,j2⟩:=AJ l [];have e0:cA ([]:J aH)=0:=rfl;have hj1:cA (ic l)<=5000000:=by unfold ic;omega
 have hj2:(ic l).length<=26000:=by unfold ic;grind
 rw [<-hp1];unfold iG;rw [Kc F l om om om om,Kc F (ic l) om om om om];have:=WK l [];rw [List.flatMap_nil,pS] at this;unfold ic;rw [this]
theorem acU(F:Nat)(hF:100000000<=F):T5 F:=by
 intro op v l h6 h9 hv h1 h2;obtain⟨p,⟨g1,g2⟩,e1,e2⟩:=ajw F l hF h1 h2;have hs:=fun b=>ahq F p v b om om om om g1;have hq:=fun b=>afw F p v b om om om om g1;have sl0:sl v 0 (v.length:Int)=v:=by unfold sl;simp
 have hS:∀b,T2 (fun a b:Bs=>a=b/\b.length<=v.length) ((oM F p v b).bind fun x3=>
  cond x3.2
  (rq ((decide (0<=aB ((v.length:Int)-x3.1)))&&(decide (aB ((v.length:Int)-x3.1)<=(v.length:Int)))) (some (sl v 0 (aB ((v.length:Int)-x3.1)))))
  (some v)) ((rR F p v b).bind fun x2=>
  rq ((decide (0<=aB ((v.length:Int)-x2.1)))&&(decide (aB ((v.length:Int)-x2.1)<=(v.length:Int)))) (some (sl v 0 (aB ((v.length:Int)-x2.1))))):=by
  intro b;obtain⟨⟨i,f⟩,⟨j,rfl,h1,h2⟩,r1,r2⟩:=hs b;rw [r1,r2,aD,aD];rw [bI om,bU om om]
  cases f with
  | true=>exact⟨_,_,⟨rfl,by unfold sl;simp⟩,rfl,rfl⟩
  | false=>
   refine⟨_,_,⟨?_,?_⟩,rfl,rfl⟩
   ·simp_all
   ·unfold sl;simp
 have hP:∀b,T2 (fun a b:Bs=>a=b/\b.length<=v.length) ((oN F p v b).bind fun x4=>
  cond x4.2
  (rq ((decide (0<=x4.1))&&((decide (x4.1<=(v.length:Int)))&&(decide ((v.length:Int)<=(v.length:Int))))) (some (sl v x4.1 (v.length:Int))))
  (some v)) ((rS F p v b).bind fun x4=>
  rq ((decide (0<=x4.1))&&((decide (x4.1<=(v.length:Int)))&&(decide ((v.length:Int)<=(v.length:Int))))) (some (sl v x4.1 (v.length:Int)))):=by
  intro b;obtain⟨⟨i,f⟩,⟨j,rfl,h1,h2⟩,r1,r2⟩:=hq b;rw [r1,r2,aD,aD];rw [cE (by simp_all)]
  cases f with
  | true=>exact⟨_,_,⟨rfl,by unfold sl;simp⟩,rfl,rfl⟩
  | false=>
   obtain rfl:=h2 rfl;refine⟨_,_,⟨?_,?_⟩,rfl,rfl⟩
   ·exact sl0.symm
   ·unfold sl;simp
 have jjl:∀ {σ R:Type}(a:σ)(G:σ->O R),jj (some (.inl a)) G=G a:=fun _ _=>rfl;have jjr:∀ {σ R:Type}(a:R)(G:σ->O R),jj (some (.inr a)) G=some a:=fun _ _=>rfl;have hd:∀b,T2 (fun a b:Bs=>a=b/\b.length<=v.length) (jj (σ:=Bool) (R:=Bs) (jj (σ:=Bool) (R:=Bool ⊕ Bs) (some (.inl b)) fun x2=>
  (oM F p v x2).bind fun x3=>
  cond x3.2
  (rq ((decide (0<=aB ((v.length:Int)-x3.1)))&&(decide (aB ((v.length:Int)-x3.1)<=(v.length:Int)))) (some (.inr (sl v 0 (aB ((v.length:Int)-x3.1))))))
  (some (.inr v))) fun x1=>
  (oN F p v x1).bind fun x4=>
  cond x4.2
  (rq ((decide (0<=x4.1))&&((decide (x4.1<=(v.length:Int)))&&(decide ((v.length:Int)<=(v.length:Int))))) (some (sl v x4.1 (v.length:Int))))
  (some v)) ((rR F p v b).bind fun x2=>
  rq ((decide (0<=aB ((v.length:Int)-x2.1)))&&(decide (aB ((v.length:Int)-x2.1)<=(v.length:Int)))) (some (sl v 0 (aB ((v.length:Int)-x2.1))))):=by
  intro b;rw [jjl];have:=hS b;obtain⟨r,-,r1,-⟩:=hs b;rw [r1,aD] at this⊢
  cases h:r.2 with
  | false=>simp_all
  | true=>
   rw [h,bf] at this;unfold rq at this⊢
   cases h3:((decide (0<=aB ((v.length:Int)-r.1)))&&(decide (aB ((v.length:Int)-r.1)<=(v.length:Int)))) with
   | true=>simp_all
   | false=>rw [h3] at this;exact this
 unfold EY ER
 grind
theorem ans(F:Nat)(b c:Int)(s:Bs)(hF:s.length<F)(hs:s.length<=5000):∃k,ES F b c s=some k:=by
 have:aA (fun _=>True) (ES F b c s):=by
  refine aA.cb (fun _=>aA.ok trivial) fun _=>?_;refine aA.lp (fun i=>∃n:Nat,i=(n:Int)/\n<=s.length) (fun i=>s.length-i.toNat) ⟨0,rfl,om⟩ (by simp_all) ?_;rintro _ ⟨n,rfl,hn⟩ rc hrc;refine aA.cd (fun h=>?_) fun _=>aA.ok trivial;rw [bU om om,bU om om,bn om];simp [aK];exact aA.cb (fun _=>aA.ok trivial) fun _=>aA.cb (fun _=>aA.ok trivial) fun _=>hrc _ ⟨n+1,rfl,om⟩ (by grind)
 obtain⟨r,-,h⟩:=this;exact⟨r,h⟩
def EL(k:Nat)(l:J cJ):Prop:=l.length<=k/\∀e∈l,e.fD.length<=1
theorem EL.snoc{k:Nat}{l:J cJ}(h:EL k l){e:cJ}(he:e.fD.length<=1):EL (k+1) (l++[e]):=⟨by have:=h.1;simp;omega,fun x hx=>by
 rcases uw.1 hx with hx|hx
 ·exact h.2 x hx
 simp_all⟩
theorem EL.mono{k j:Nat}{l:J cJ}(h:EL k l)(hj:k<=j):EL j l:=⟨by have:=h.1;omega,h.2⟩
theorem ant{l:J aH}{k:Nat}(h:k<l.length):cA (l.take (k+1))=cA (l.take k)+(l.getD k cx).fText.length:=by
 rw [pR h,Bu,gd h];simp [cA]
theorem aaV(l:J aH)(k:Nat):cA (l.take k)<=cA l:=by
 grind [Bu,List.take_append_drop]
theorem anu(F:Nat)(l:J aH)(s:Bs)(hF:l.length+cA l+5000<F)(h1:l.length<=1000000)(h2:cA l<=10000000)(hs:s.length<=5000):aA (EL (l.length+cA l)) (BR F l s):=by
 refine aA.lp (fun z=>∃k:Nat,z.2=(k:Int)/\k<=l.length/\EL (k+cA (l.take k)) z.1) (fun z=>l.length-z.2.toNat) ⟨0,rfl,om,by simp [EL]⟩ (by grind) ?_;rintro⟨o,_⟩ ⟨k,rfl,h3,h4⟩ rc hrc;refine aA.cd (fun h=>?_) fun h=>aA.ok (h4.mono (by grind));have hk:k<l.length:=om;have hz:=ant hk;have ht:=aaV l (k+1);have ho:=h4.1;have hm:l.length-Int.toNat ((k+1:Nat):Int)<l.length-Int.toNat (k:Int):=om;rw [bU om om,bn om,bL];generalize l.getD k cx=r at hz
 have add:∀(c d:Int),aA (EL (l.length+cA l)) (rq ((decide (o.length+([cJ.mk [] c d]:J cJ).length<=9223372036854775807))&&(decide ((o.length+([cJ.mk [] c d]:J cJ).length)*32<=140737488355328))) (rc (o++[cJ.mk [] c d],((k+1:Nat):Int)))):=fun c d=>
  aA.rq (nD (by grind) de) (hrc _ ⟨k+1,rfl,hk,(h4.snoc (Nat.zero_le _)).mono om⟩ hm)
 simp only [aK];refine aA.cb (fun _=>add _ _) fun _=>aA.cb (fun _=>add _ _) fun _=>aA.cb (fun _=>?_) fun _=>hrc _ ⟨k+1,rfl,hk,h4.mono om⟩ hm;refine aA.lp (fun z=>∃i:Nat,z.2=(i:Int)/\i<=r.fText.length/\EL (k+cA (l.take k)+i) z.1) (fun z=>r.fText.length-z.2.toNat) ⟨0,rfl,om,h4⟩ (by grind) ?_;rintro⟨o,_⟩ ⟨i,rfl,i1,i2⟩ rc' Ig;refine aA.cd (fun h=>?_) fun h=>hrc _ ⟨k+1,rfl,hk,i2.mono om⟩ hm;have ho:=i2.1;obtain⟨d,hd⟩:=ans F ((r.fText.getD (Int.toNat (i:Int)) 0).toNat:Int) r.bO s om hs;rw [bn om,Cw om om om,bU om om,hd];have:=sG r.fText i (i+1);exact aA.rq (nD (by grind) de) (Ig _ ⟨i+1,rfl,om,i2.snoc (by simp_all)⟩ (by grind))
theorem ahr(F:Nat)(l:J cJ)(a:Nat)(hF:l.length<F)(hl:l.length<=100000000)(ha:a<=l.length):aA (fun r=>∃e:Nat,r=(e:Int)/\a<=e/\e<=l.length) (ET F l (a:Int)):=by
 refine aA.lp (fun i=>∃n:Nat,i=(n:Int)/\a<=n/\n<=l.length) (fun i=>l.length-i.toNat) ⟨a,rfl,om,ha⟩ (by grind) ?_;rintro _ ⟨n,rfl,h1,h2⟩ rc hrc;by_cases h:n<l.length
 ·rw [cM om,bU om om,bn om]
  exact aA.cb (fun _=>hrc _ ⟨n+1,rfl,om,om⟩ (by grind)) fun _=>aA.ok ⟨n,rfl,h1,h2⟩
 ·grind [aA.ok]
theorem ajx(F:Nat){k:Nat}(l:J cJ)(h:EL k l)(hF:k<F)(hk:k<=100000000):aA (fun r:J (J cJ)=>r.length<=k+1/\∀f∈r,EL k f) (Av F l):=by
 have hl:=h.1;unfold Av;refine aA.lp (fun z:J (J cJ)×J cJ×Int=>∃i:Nat,z.2.2=(i:Int)/\i<=l.length/\z.1.length<=i/\(∀f∈z.1,EL k f)/\EL i z.2.1) (fun z=>l.length-z.2.2.toNat) ⟨0,rfl,om,si,(fun _ h=>nomatch h),by simp [EL]⟩ (by grind) ?_;rintro⟨o,f,_⟩ ⟨i,rfl,h1,h2,h3,h4⟩ rc hrc;dsimp only at h2 h3 h4 hrc⊢;have hfl:=h4.1;have hm:∀j:Nat,i<j->j<=l.length->l.length-Int.toNat (j:Int)<l.length-Int.toNat (i:Int):=fun j h1 h2=>by omega
 have Df:∀x∈o++[f],EL k x:=fun x hx=>by
  rcases uw.1 hx with hx|hx
  ·exact h3 x hx
  ·obtain rfl:=J0.1 hx;exact h4.mono om
 refine aA.cd (fun h'=>?_) fun _=>aA.cd (fun _=>aA.rq (nD (by grind) de) (aA.ok ⟨bE,Df⟩)) fun _=>aA.ok ⟨by grind,h3⟩;have hi:i<l.length:=om;rw [bU om om,bn (i:=i) om,bU om om,bL,gd hi];refine aA.cb (fun _=>aA.rq (nD (by grind) de) (hrc _ ⟨i+1,rfl,hi,by dsimp only;omega,h3,h4.snoc (h.2 _ (List.getElem_mem hi))⟩ (hm _ om hi))) fun _=>?_;refine aA.bd (ahr F l i om om om) fun r ⟨e,e1,e2,e3⟩=>?_;rw [e1];refine aA.bd (P:=fun z:Bool×Int=>∃j:Nat,z.2=(j:Int)/\i<j/\j<=l.length) ?_ fun⟨b,_⟩ ⟨j,e4,j1,j2⟩=>?_
 ·refine aA.bd (P:=fun b=>b=true->e<l.length) (aA.cd (fun h=>aA.rq (jM om om) (aA.ok fun _=>om)) fun _=>aA.ok fun h=>nomatch h) fun b hb=>aA.cb (fun h=>?_) fun _=>?_
  ·have:=hb h
   rw [bn om];exact aA.bd (ahr F l (e+1) om om om) fun r ⟨j,j1,j2,j3⟩=>aA.ok ⟨j,j1,om,j3⟩
  ·by_cases he:e=i
   ·grind [aA.ok]
   ·rw [show ((e:Int)==(i:Int))=false from by simp;omega]
    grind [aA.ok]
 ·dsimp only at e4⊢
  subst e4;refine aA.cb (fun _=>aA.rq (nD (by grind) de) (hrc _ ⟨j,rfl,j2,bE,Df,by simp [EL]⟩ (hm j j1 j2))) fun _=>hrc _ ⟨j,rfl,j2,by dsimp only;omega,h3,h4.mono om⟩ (hm j j1 j2)
theorem acV:∀(l:J aH)(k:Nat)(r:aH),k<l.length->cA (l.set k r)+(l.getD k cx).fText.length=cA l+r.fText.length
 | [],k,r,h=>absurd h (adb _)
 | a::l,0,r,h=>by simp [cA];omega
 | a::l,k+1,r,h=>by
  have:=acV l k r (by simpa using h);simp [cA] at this⊢;omega
theorem anv(F:Nat){k:Nat}(l:J cJ)(h:EL k l)(hF:k<F)(hk:k<=100000000):aA (fun r:J aH=>r.length<=k/\cA r<=k) (K3 F l):=by
 have hl:=h.1;refine aA.lp (fun z:Int×J aH=>∃i:Nat,z.1=(i:Int)/\i<=l.length/\z.2.length<=i/\cA z.2<=i) (fun z=>l.length-z.1.toNat) ⟨0,rfl,om,si,by simp [cA]⟩ (by grind) ?_;rintro⟨_,o⟩ ⟨i,rfl,h1,h2,h3⟩ rc hrc;dsimp only at h2 h3 hrc⊢;refine aA.cd (fun h'=>?_) fun _=>aA.ok ⟨by grind,by show cA o<=_;omega⟩;have hi:i<l.length:=om;have hm:l.length-Int.toNat ((i+1:Nat):Int)<l.length-Int.toNat (i:Int):=om;have ht:=h.2 _ (jN hi);refine aA.bd (P:=fun z:Bool×J aH=>z.2=o/\(z.1=true->0<o.length)) ?_ fun⟨b,o2⟩ ⟨e,hb⟩=>?_
 ·refine aA.cd (fun h0=>?_) fun _=>aA.ok ⟨rfl,fun h=>nomatch h⟩
  rw [uE om om]
  grind [aA.rq,jM,aA.ok]
 have e:o=o2:=e.symm;subst e;rw [bn (i:=i) om];have eg:l.getD i ov=l[i]:=gd hi;simp only [bL,eg];refine aA.cb (fun hb'=>?_) fun _=>?_
 ·have h0:=hb hb'
  have hs:=acV o (o.length-1) (aH.mk ((o.getD (o.length-1) cx).fText++l[i].fD) (o.getD (o.length-1) cx).bO) om;rw [uE om h0];simp only [bL];have hg:(o.getD (o.length-1) cx).fText.length<=cA o:=by rw [gd om];exact Ut (jN _)
  grind [aA.rq,jM,decide_eq_true]
 ·refine aA.rq (jM om om) (aA.rq (jM om om) (aA.rq (nD (by grind) de) (hrc _ ⟨i+1,rfl,hi,bE,?_⟩ hm)))
  rw [Bu];show cA o+(l[i].fD.length+0)<=_;omega
theorem ajy(F:Nat)(l:J aH)(s:Bs)(hF:100000000<=F)(h1:l.length<=100000)(h2:cA l<=5000000)(hs:s.length<=5000):aA (fun r=>r.length<=6000000/\∀f∈r,f.length<=6000000/\cA f<=6000000) (Gb F l s):=by
 refine aA.bd (anu F l s om om om hs) fun es YT=>aA.bd (ajx F es YT om om) fun fs ⟨hf1,hf2⟩=>?_;refine aA.lp (fun z=>∃k:Nat,z.2=(k:Int)/\k<=fs.length/\z.1.length<=k/\∀f∈z.1,f.length<=6000000/\cA f<=6000000) (fun z=>fs.length-z.2.toNat) ⟨0,rfl,om,si,fun _ h=>nomatch h⟩ (by grind) ?_;rintro⟨o,_⟩ ⟨k,rfl,h3,h4,h5⟩ rc hrc;refine aA.cd (fun h=>?_) fun _=>aA.ok ⟨by grind,h5⟩;have hk:k<fs.length:=om;rw [bU om om,bn om,bL,gd hk];refine aA.bd (anv F _ (hf2 _ (List.getElem_mem hk)) om om) fun r hr=>aA.rq (nD (by grind) de) (hrc _ ⟨k+1,rfl,hk,bE,fun f hf=>?_⟩ (by grind))
 grind
theorem ahs(F:Nat)(r:J aH)(hF:100000000<=F)(h1:r.length<=10000000)(h2:cA r<=10000000):∃b,tj F r=some b:=by
 have hcl:=ahW r
 obtain⟨b,-,h⟩:=adP (F:=F) (r:=r) om om om om fun c hc=>by
  have:=ami r c hc;obtain⟨p,⟨g1,g2⟩,h⟩:=YE F c om om om om;obtain⟨x,hx⟩:=YF F p om om g1;exact⟨p,x,h,hx⟩
 exact⟨b,h⟩
theorem alF(F:Nat)(l:J TPart)(p:cZ){s:aY}(hN:NC<=F)(hF:100000000<=F)(hl:gq l<=1000)(hs:nu s)(hst:stop s=false):aA (fun r=>RB (gq l) r.1/\nu r.2) (nX F l p s):=by
 obtain⟨a,b,⟨h1,h2,-⟩,-,e⟩:=akg (fl:=[]) hN hF (acU F hF) F F l (dh.mk p.eW p.jU 0) p s ⟨rfl,rfl⟩ hs hst hl om om;exact⟨b,⟨h2,h1⟩,e⟩
theorem aht(F:Nat)(e:dX)(w:J iE)(a:J ga)(hN:NC<=F)(hF:100000000<=F)(hw:w.length<=100)(hp:∀x∈w,gq x.fParts<=1000)(he:WE e)(hA:yF e.bR)(ha:(∀x∈a,x.fText.length<=60)/\a.length<=100):∃b,tE F e w a=some b:=by
 have:aA (fun _=>True) (tE F e w a):=by
  unfold tE xw;refine aA.lp (fun z=>∃k:Nat,z.2.1=(k:Int)/\k<=w.length/\nu z.2.2) (fun z=>w.length-z.2.1.toNat) ⟨0,rfl,om,⟨he,ha.1,ha.2,0,rfl,Nat.zero_le _⟩,hA,fun _=>rfl⟩ (by grind) ?_;rintro⟨n,_,s⟩ ⟨k,rfl,h1,h2⟩ rc hrc;dsimp only at h2 hrc⊢;refine aA.bd (P:=fun b=>b=true->k<w.length/\stop s=false) (aA.cd (fun h=>?_) fun _=>aA.ok fun h=>nomatch h) fun b hb=>aA.cb (fun h=>?_) fun _=>aA.ok trivial
  ·simp_all [oH,aA.ok]
  obtain⟨hk,hst⟩:=hb h;rw [bU om om,bn om,bL,gd hk];have hpk:=hp _ (jN hk);refine aA.bd (alF F _ _ hN hF hpk h2 hst) fun r ⟨r1,r2⟩=>?_;have hV:=r2.1.1.1;have hvl:=hV.1;have q1:=r1.1;have q2:=r1.2;refine aA.bd ?_ fun ifs apZ=>aA.bd (ajy F r.1 ifs hF om om apZ) fun fs ⟨f1,f2⟩=>?_
  ·unfold Ob
   rw [xH F _ _ om om];exact aA.cb (fun _=>aA.ok (by grind [OD])) fun _=>aA.ok de
  refine aA.lp (fun z=>∃i:Nat,z.2=(i:Int)/\i<=fs.length) (fun z=>fs.length-z.2.toNat) ⟨0,rfl,om⟩ (by grind) ?_;rintro⟨n',_⟩ ⟨i,rfl,i1⟩ rc' Ig;refine aA.cd (fun h=>?_) fun _=>hrc _ ⟨k+1,rfl,hk,r2⟩ (by grind);have hi:i<fs.length:=om;have hfi:=f2 _ (jN hi);obtain⟨b,hb⟩:=ahs F fs[i] hF om om;rw [bU om om,bn om,bL,gd hi,aaP F _ om om om,aD,bU om om,hb,aD,aK];exact aA.cb (fun _=>aA.ok trivial) fun _=>Ig _ ⟨i+1,rfl,om⟩ (by grind)
 obtain⟨b,-,h⟩:=this;exact⟨b,h⟩
theorem aA.sc{R:Type}{Q:R->Prop}{c:Bool}{x y:R}(a:c=true->Q x)(b:c=false->Q y):aA Q (some (cond c x y)):=by
 grind [aA.ok]
theorem alG(F:Nat)(e:dX)(hF:100<F):aA (fun b=>b=true->(e.bR.length<=12/\∀v∈e.bR,v.fName.length<=60/\v.bK.length<=60)/\e.cD.length<=12/\(∀x∈e.cD,x.length<=60)/\e.fName.length<=60) (Co F e):=by
 unfold Co;simp only [aK,aD];refine aA.cb (fun _=>aA.ok fun h=>nomatch h) fun hc=>?_;simp at hc;refine aA.lp (fun i=>∃k:Nat,i=(k:Int)/\k<=e.bR.length/\∀v∈e.bR.take k,v.fName.length<=60/\v.bK.length<=60) (fun i=>e.bR.length-i.toNat) ⟨0,rfl,om,si⟩ (by grind) ?_;rintro _ ⟨k,rfl,h1,h2⟩ rc hrc;refine aA.cd (fun h=>?_) fun h=>?_
 ·have hk:k<e.bR.length:=om
  rw [bU om om,bU om om,bn om,bL,gd hk,aK,aD];refine aA.cb (fun _=>aA.ok fun h=>nomatch h) fun hv=>hrc _ ⟨k+1,rfl,hk,fun v iX=>?_⟩ (by grind)
  grind [List.take_succ_eq_append_getElem,List.mem_singleton,cT,Bool.or_eq_false_iff,decide_eq_false_iff_not]
 ·have h2:∀v∈e.bR,v.fName.length<=60/\v.bK.length<=60:=by grind
  refine aA.lp (fun i=>∃k:Nat,i=(k:Int)/\k<=e.cD.length/\∀v∈e.cD.take k,v.length<=60) (fun i=>e.cD.length-i.toNat) ⟨0,rfl,om,si⟩ (by grind) ?_;rintro _ ⟨k,rfl,p1,p2⟩ rc' Ig;refine aA.cd (fun h=>?_) fun h=>aA.ok fun _=>⟨⟨om,h2⟩,om,by grind,om⟩;have hk:k<e.cD.length:=om;rw [bU om om,bn om,bL,gd hk];refine aA.cd (fun _=>aA.ok fun h=>nomatch h) fun hv=>Ig _ ⟨k+1,rfl,hk,fun v iX=>?_⟩ (by grind)
  grind [List.take_succ_eq_append_getElem,List.mem_singleton]
theorem alH(F:Nat)(l:J bC)(hF:200<F):aA (fun r=>r=0->yF l) (Cp F l):=by
 unfold Cp;refine aA.cd (fun _=>aA.ok fun h=>nomatch h) fun hl=>?_;refine aA.lp (fun i:Int=>∃k:Nat,i=(k:Int)/\k<=l.length/\yF (l.take k)) (fun i=>l.length-i.toNat) ⟨0,rfl,om,List.Pairwise.nil⟩ (by grind) ?_;rintro _ ⟨k,rfl,h1,hA⟩ rc hrc;refine aA.cd (fun h=>?_) fun h=>aA.ok fun _=>by grind
 have hk:k<l.length:=om
 have lt:aA (fun b:Bool=>b=false->k=0\/(l.getD (k-1) dP).fName<(l.getD k dP).fName) (cond (decide (0<(k:Int))) (rq ((decide (0<=aB ((k:Int)-1)))&&(decide (aB ((k:Int)-1)<(l.length:Int)))) (rq ((decide (0<=(k:Int)))&&(decide ((k:Int)<(l.length:Int)))) (some (!(Op.bytesLess ((l.getD (Int.toNat (aB ((k:Int)-1))) dP).fName) ((l.getD (Int.toNat (k:Int)) dP).fName)))))) (some false)):=by
  refine aA.cd (fun h0=>?_) fun _=>aA.ok fun _=>.inl om;rw [uE om om]
  grind [aA.rq,jM,aA.ok,Kb]
 refine aA.rq (jM om om) (aA.bd (Ec F _ om) fun b _=>aA.cb (fun _=>aA.ok fun h=>nomatch h) fun _=>aA.rq (jM om om) (aA.cd (fun _=>aA.ok fun h=>nomatch h) fun _=>?_));refine aA.bd (P:=fun b:Bool=>b=false->k=0\/(l.getD (k-1) dP).fName<(l.getD k dP).fName) (aA.rq (jM om om) (aA.cb (fun _=>aA.rq (jM om om) (aA.cb (fun _=>aA.ok fun h=>nomatch h) fun _=>lt)) fun _=>lt)) fun b hb=>aA.cb (fun _=>aA.ok fun h=>nomatch h) fun hb0=>?_;rw [bn om];refine hrc _ ⟨k+1,rfl,hk,?_⟩ (by grind);unfold yF at hA⊢;rw [pR hk,List.pairwise_append];refine⟨hA,ade _ _,fun a ha c hc=>?_⟩;obtain rfl:=J0.1 hc;obtain⟨m,hm,rfl⟩:=kY ha;have hm2:m<k:=by grind
 rcases hb hb0 with h0|h0
 ·omega
 ·rw [gd hk,gd (show k-1<l.length by omega)] at h0
  by_cases e:m=k-1
  ·simp_all
  ·have:=(List.pairwise_iff_getElem.1 hA) m (k-1) hm (by grind) om
   grind
def ajz(e:dX):Prop:=((e.bR.length<=12/\∀v∈e.bR,v.fName.length<=60/\v.bK.length<=60)/\e.cD.length<=12/\(∀x∈e.cD,x.length<=60)/\e.fName.length<=60)/\e.tf=[]/\e.nF=[]/\e.tg=[]/\Ee e.J8=true/\(0<=e.iu/\e.iu<=255)/\(0<=e.fC/\e.fC<=255)/\0<=e.Bo/\0<=e.oa/\yF e.bR
theorem aaW{α:Type}{l:J α}(h:¬ 0<(l.length:Int)):l=[]:=adh.1 om
theorem anw(F:Nat)(e:dX)(hF:1000<F):aA (fun b=>b=true->ajz e) (EO F e):=by
 unfold EO;obtain⟨b1,h1,e1⟩:=alG F e om;obtain⟨b2,oV,e2⟩:=alH F e.bR om;rw [e1,e2,Yt F e.J8 om];simp only [aK,aD];refine aA.sc (fun _=>fun h=>nomatch h) fun hc=>fun ht=>?_;simp only [cT,cF,Rx,cw,Mq,adi,fq] at hc ht;exact⟨h1 hc.1.1.1.1.1,aaW hc.1.1.1.2,aaW hc.1.1.2,aaW hc.1.2,hc.2,om,om,om,om,oV (by simpa using hc.1.1.1.1.2)⟩
theorem alI(F:Nat)(l:J Bs)(hF:10000<F):aA (fun r=>r.1.length<=8/\∀w∈r.1,gq w.fParts<=160) (tS F l):=by
 refine aA.lp (fun z=>∃k:Nat,z.2=(k:Int)/\k<=8/\z.1.length<=k/\∀w∈z.1,gq w.fParts<=160) (fun z=>8-z.2.toNat) ⟨0,rfl,om,si,fun _ h=>nomatch h⟩ (by show 8-0<F;omega) ?_;rintro⟨o,_⟩ ⟨k,rfl,h1,h2,h3⟩ rc hrc;rw [aK];refine aA.cb (fun hc=>?_) fun _=>aA.ok ⟨by grind,h3⟩;rw [cF,cw] at hc;have c1:=yX hc.1;have c2:=yX hc.2;have no:aA (fun r:J iE×Bool=>r.1.length<=8/\∀w∈r.1,gq w.fParts<=160) (some ([],false)):=aA.ok ⟨si,fun _ h=>nomatch h⟩;refine aA.rq (jM om om) (aA.cd (fun _=>no) fun h80=>aA.rq (jM om om) (aA.bd (alZ F _ om om) fun r hr=>I3 (fun _=>no) fun _=>?_));rw [bn om];refine aA.rq (nD (by grind) de) (hrc _ ⟨k+1,rfl,om,bE,fun w hw=>?_⟩ (by grind))
 grind
theorem acW{e:dX}(h:ajz e)(h1:K.gi e.Bo)(h2:K.gi e.oa):WE e:=by
 obtain⟨⟨⟨a1,a2⟩,a3,a4,a5⟩,f1,f2,f3,-,-,h6,-⟩:=h;exact⟨⟨om,fun v hv=>by have:=a2 v hv;omega⟩,a3,a4,a5,⟨om,om⟩,h1,h2,f1,f2,f3⟩
def Rdy(j:uy)(w:J iE):Prop:=ajz j.nG/\VL j.oW/\j.oW.length<=40/\(j.jE.length<=12/\∀a∈j.jE,a.fText.length<=60)/\w.length<=8/\∀x∈w,gq x.fParts<=160
theorem alJ(F:Nat)(j:uy)(hN:NC<=F)(hF:100000000<=F)(h1:K.gi j.nG.Bo)(h2:K.gi j.nG.oa):aA (fun r=>r.2=true->Rdy j r.1) (Cr F j):=by
 unfold Cr;obtain⟨b,hb,e1⟩:=anw F j.nG om;obtain⟨c,hc,e2⟩:=ahS F j.oW om;rw [e1,e2];simp only [aK,aD];refine aA.cb (fun _=>aA.ok fun h=>nomatch h) fun hx=>?_;simp at hx;have hfit:=hb hx.1.1.1;have hsm:=hc hx.1.2;have hge:=acW hfit h1 h2;refine aA.lp (fun i=>∃k:Nat,i=(k:Int)/\k<=j.jE.length/\∀a∈j.jE.take k,a.fText.length<=60) (fun i=>j.jE.length-i.toNat) ⟨0,rfl,om,si⟩ (by grind) ?_;rintro _ ⟨k,rfl,k1,k2⟩ rc hrc;refine aA.cd (fun h=>?_) fun h=>?_
 ·have hk:k<j.jE.length:=om
  rw [bU om om,bn om,bL];refine aA.cd (fun _=>aA.ok fun h=>nomatch h) fun hv=>hrc _ ⟨k+1,rfl,hk,fun v iX=>?_⟩ (by grind)
  grind [List.take_succ_eq_append_getElem,List.mem_singleton]
 ·have k2:∀a∈j.jE,a.fText.length<=60:=by grind
  refine aA.bd (alI F j.Jb om) fun r ⟨r1,r2⟩=>?_;rw [afU F j.oW om hsm];simp [aK];obtain⟨bd,hbd⟩:=aht F j.nG r.1 j.jE hN hF om (fun x hx=>by have:=r2 x hx;omega) hge hfit.2.2.2.2.2.2.2.2.2 ⟨k2,om⟩;rw [hbd,aD,aK];refine aA.sc (fun _=>fun h=>nomatch h) fun hy=>fun _=>?_;have hv:gQ j.oW=0:=by simp_all
  exact⟨hfit,(afW _).1 hv,om,⟨om,k2⟩,r1,r2⟩
theorem alK{F k:Nat}(h:k<=F):∃n,F=n+k:=⟨F-k,om⟩
theorem ahu(F:Nat)(e:dX)(hF:10<=F)(h1:e.bR.length<=1000)(h2:e.cD.length<=1000)(h3:e.tf=[])(h4:e.nF=[])(h5:e.tg=[]):qv F e=some e:=by
 obtain⟨m,rfl⟩:=alK hF;unfold qv yE vq vr vu vw;rw [h3,h4,h5,gT om de,gT om de];obtain⟨a1,a2,a3,a4,a5,a6,a7,a8,a9,a10,a11,a12,a13,a14⟩:=e;dsimp only at h3 h4 h5;subst h3 h4 h5;rfl
def ap0:dX:=dX.mk [] [] [] [] [] [] 0 0 0 0 [] (lN.mk 0 0) 0 false
def Ld(s:aY)(fs:J Bs):eD×Int:=cond (s.fe != 0) (eD.mk [] ap0 false [] s.eV 0,s.fe) (eD.mk (cond s.kI [] fs) s.cm s.kI s.sX [] s.jz,0)
theorem ahv(F:Nat){e:dX}(h:WE e)(hF:10<=F):qv F e=some e:=ahu F e hF (by have:=h.1.1;omega) (by have:=h.2.1;omega) h.2.2.2.2.2.2.2.1 h.2.2.2.2.2.2.2.2.1 h.2.2.2.2.2.2.2.2.2
theorem anx(F:Nat)(fl:J bu){s:aY}(h:nu s)(hs:stop s=false)(hF:10<=F)(fs:J Bs):ez F fs true (gK fl s)=some (Ld s fs):=by
 obtain⟨h1,h2⟩:=acP hs;unfold ez;rw [bf,show (gK fl s).cm=s.cm from rfl,ahv F h.1.1 hF,aD];unfold Ld;rw [h1,h2,h.2.2 h2];rfl
theorem aaX(F:Nat){s:aY}{x:aM}(h:nu s)(hx:Fin x s)(hF:10<=F)(fs gs:J Bs)(hs:stop s=true):ez F fs false x=some (Ld s gs):=by
 unfold ez Ld;rw [aO];rcases hx with⟨h1,h2,h3,h4⟩|⟨h1,h2,h3,h4,h5⟩
 ·rw [h2,h3,h4,show (s.fe != 0)=true by simpa using h1];rfl
 ·have hw:s.kI=true:=by
   unfold stop at hs;rw [h1] at hs;exact hs
  rw [h2,h4,ahv F h.1.1 hF,h1,hw,h3,h5];rfl
def s0(e:dX)(a:J ga):aY:=aY.mk e a 0 (-1) 0 [] false []
theorem ap1{e:dX}{a:J ga}(h:WE e)(hA:yF e.bR)(h1:∀x∈a,x.fText.length<=60)(h2:a.length<=100):nu (s0 e a):=⟨⟨h,h1,h2,0,rfl,eR _⟩,hA,fun _=>rfl⟩
theorem akh(F:Nat)(l:J aH)(hF:l.length<F)(h1:l.length<=1000000)(h2:cA l<=100000000):oe F l=qt F l:=by
 rw [Qz F l hF om h2,aaP F l hF om om];rfl
section
variable {F : Nat} {fl : J bu}
theorem ap2(hN:NC<=F)(hF:100000000<=F)(w:iE)(hw:gq w.fParts<=200){s:aY}(h:nu s)(hs:stop s=false):T2 (RPt fl (gq w.fParts)) (pX F w.fParts (gK fl s)) (nX F w.fParts (cZ.mk false false false) s):=by
 obtain⟨n,rfl⟩:∃n,F=n+1:=⟨F-1,om⟩;exact WH (n:=n) hF (akg hN hF (acU _ hF) n) (n+1) w.fParts s h hs om om om
end
theorem alL:Cu 60=some true:=by
 unfold Cu;simp only [Kz]
 kernel_rfl
theorem Ro(F:Nat)(fs:J Bs)(s:aY):qw F fs s=some (Ld s fs):=by
 unfold qw Ld;cases s.fe != 0<;>cases s.kI<;>rfl
theorem aoS(F:Nat)(l:J aH)(hF:l.length<F)(h1:l.length<=1000000)(h2:cA l<=100000000):AG F l=some (ic l):=by
 unfold AG;refine cW (fun s:Int×J aH=>∃k:Nat,s=((k:Int),(l.take k).foldl lJ [])/\k<=l.length) (fun s=>l.length-s.1.toNat) ?_ F _ ⟨0,rfl,om⟩ bE;rintro _ ⟨k,rfl,hk⟩;dsimp only;by_cases hk:k<l.length
 ·left
  refine⟨_,⟨k+1,rfl,om⟩,bE,fun rc=>?_⟩;obtain⟨z1,z2⟩:=AJ (l.take k) [];have e0:cA ([]:J aH)=0:=rfl;have hz:=aaV l k;rw [Fm] at z2;have hfl:(l.take (k+1)).foldl lJ []=lJ ((l.take k).foldl lJ []) l[k]:=by rw [pR hk,T8];rfl
  have hm:=Ut (jN hk);rw [cM om,bZ hk,bL,gd hk,cG om,hfl];generalize hO:(l.take k).foldl lJ []=o at z1 z2⊢;have hol:o.length<=1000000:=by simp only [JY] at z2;omega
  unfold lJ
  cases (l[k].fText==[]) with
  | true=>rfl
  | false=>
   rw [aO,aO];by_cases h0:0<o.length
   ·have hmo:(o.getD (o.length-1) cx).fText.length<=cA o:=by rw [gd om];exact Ut (jN om)
    have e1:aB ((o.length:Int)-1)=((o.length-1:Nat):Int):=uE om h0;rw [e1,cM om,bZ om,bZ hk,bL,aD,dT h0,Ib];dsimp only
    cases ((o.getD (o.length-1) cx).bO==l[k].bO) with
    | true=>rw [bf,bf,bZ om,bZ hk,qZ om,bZ om]
    | false=>rw [aO,aO,bZ hk,gT (by show o.length+1<=_;omega) de]
   ·rw [cf om,aD]
    dsimp only;rw [aO,bZ hk,gT (by show o.length+1<=_;omega) de,dF h0];rfl
 ·right
  obtain rfl:k=l.length:=om;intro rc;rw [cf om,yf];rfl
def SX(x:eD):Prop:=x.vX.length<=1000/\NoF x.nG/\x.nG.bR.length<=1000/\x.nG.cD.length<=1000
theorem VE{s:aY}(h:nu s){fs:J Bs}(hf:fs.length<=1000):SX (Ld s fs).1:=by
 have h1:=h.1.1.1.1;have h2:=h.1.1.2.1;unfold Ld
 cases (s.fe != 0) with
 | true=>exact⟨eR _,⟨rfl,rfl,rfl⟩,eR _,eR _⟩
 | false=>exact⟨by show (cond s.kI [] fs).length<=_;cases s.kI<;>simp;exact hf,h.1.1.2.2.2.2.2.2.2,by show s.cm.bR.length<=_;omega,by show s.cm.cD.length<=_;omega⟩
theorem Rp(F n:Nat)(hF:n<F)(hn:n<=1000000)(p:Int->Bool)(hp:∀x,p x=false):bV (σ:=Int) (R:=Bool) (fun bp x1=>cond (decide (x1<(n:Int))) (rq ((decide (0<=x1))&&(decide (x1<(n:Int)))) (rq ((decide (0<=x1))&&(decide (x1<(n:Int)))) (cond (p x1) (some false) (bp (aB (x1+1)))))) (some true)) F 0=some true:=by
 refine cW (fun s:Int=>∃k:Nat,s=(k:Int)/\k<=n) (fun s=>n-s.toNat) ?_ F _ ⟨0,rfl,om⟩ bE;rintro _ ⟨k,rfl,hk⟩;by_cases hk:k<n
 ·left
  refine⟨_,⟨k+1,rfl,om⟩,bE,fun rc=>?_⟩;rw [cM om,bZ hk,bZ hk,hp,aO,cG om]
 ·right
  intro rc;rw [cf om]
theorem aki(F:Nat)(l:J Bs)(hF:l.length<F)(h:l.length<=1000000):nt F l l=some true:=by
 unfold nt;rw [J1,aO];exact Rp F l.length hF h (fun x1=>!((l.getD (Int.toNat x1) [])==(l.getD (Int.toNat x1) []))) (fun x=>by simp)
theorem anz(F:Nat)(l:J bC)(hF:l.length<F)(h:l.length<=1000000):E7 F l l=some true:=by
 unfold E7;rw [J1,aO];exact Rp F l.length hF h (fun x1=>!(((l.getD (Int.toNat x1) dP).fName==(l.getD (Int.toNat x1) dP).fName)&&(((l.getD (Int.toNat x1) dP).bK==(l.getD (Int.toNat x1) dP).bK)&&(((l.getD (Int.toNat x1) dP).cH==(l.getD (Int.toNat x1) dP).cH)&&(((l.getD (Int.toNat x1) dP).tQ==(l.getD (Int.toNat x1) dP).tQ)&&(((l.getD (Int.toNat x1) dP).kU==(l.getD (Int.toNat x1) dP).kU)&&true)))))) (fun x=>by simp)
theorem aoT(F:Nat)(l:J aH)(hF:l.length<F)(h:l.length<=1000000):vZ F l l=some true:=by
 unfold vZ;rw [J1,aO];exact Rp F l.length hF h (fun x1=>!(((l.getD (Int.toNat x1) cx).fText==(l.getD (Int.toNat x1) cx).fText)&&(((l.getD (Int.toNat x1) cx).bO==(l.getD (Int.toNat x1) cx).bO)&&true))) (fun x=>by simp)
theorem aoU(F:Nat){x:eD}(hF:1000<F)(h:SX x):E8 F x x=some true:=by
 obtain⟨h1,⟨f1,f2,f3⟩,h2,h3⟩:=h
 have e:xY F x.nG x.nG=some true:=by
  unfold xY;rw [f1,f2,f3,anz F _ om om,aki F _ om om];simp
 unfold E8;rw [aki F _ om om,e];simp
theorem ajA{F:Nat}(hN:NC<=F)(hF:100000000<=F)(fl:J bu){e:dX}{a:J ga}(w:iE)(hw:gq w.fParts<=200)(he:WE e)(hA:yF e.bR)(h1:∀x∈a,x.fText.length<=60)(h2:a.length<=100):
  ∃r,(r.1.length<=100000/\SX r.2.1)/\vY F e fl w a=some r/\xX F e fl w a=some r:=by
 obtain⟨⟨r,ok,x⟩,⟨r',s⟩,⟨g1,g2,g3⟩,e1,e2⟩:=ap2 (fl:=fl) hN hF w hw (ap1 he hA h1 h2) rfl;unfold vY xX vj xw;dsimp only [Option.bind_some];dsimp only at g1 g2 g3;rw [show pX F w.fParts (aM.mk e fl a (-1) false [] [] 0)=some (r,ok,x) from e1,show nX F w.fParts (cZ.mk false false false) (aY.mk e a 0 (-1) 0 [] false [])=some (r',s) from e2,aD,aD];have b1:=g2.1;have b2:=g2.2;obtain⟨z1,z2⟩:=AJ r' [];have e0:cA ([]:J aH)=0:=rfl;have hj1:cA (ic r')<=1000000:=by unfold ic;omega
 have hj2:(ic r').length<=100000:=by unfold ic;simp only [JY] at z2;omega
 have hT:qt F (ic r')=some (CA (ic r')):=by rw [<-akh F _ om om om,Qz F _ om om om]
 dsimp only;rw [aoS F r' om om om,aD,hT,aD];rcases g3 with⟨k1,k2⟩|⟨k1,k2,k3⟩
 ·cases k2
  rw [akh F _ om om om,hT,bf,aD,aD]
  cases hb:decide (4096<((CA (ic r')).length:Int)) with
  | true=>
   rw [bf,bf,akb,tI,aD,aD,aD,aD];obtain⟨f1,f2⟩:=failed (fl:=fl) (e:=3) (m:=[]) k1 de;have hg:=Lb g1 3 [];rw [Ro,oH,aD,aD,f1,bf];dsimp only;have hq:ez F [] false (aM.mk (gK fl s).cm (gK fl s).TA (gK fl s).ec (gK fl s).jz (gK fl s).kI (gK fl s).sX (gK fl s).eV 3)=some (Ld _ []):=aaX F hg f2 om [] [] f1;rw [qV,bf,aD,hq]
   exact⟨_,⟨eR _,VE hg (eR _)⟩,rfl,rfl⟩
  | false=>
   rw [aO,aO,aD,aD,Ro,oH,aD,aD,k1,aO];dsimp only;rw [jD,aO,aD,anx F fl g1 k1 om];exact⟨_,⟨hj2,VE g1 (eR _)⟩,rfl,rfl⟩
 ·have k2:ok=false:=k2
  subst k2;rw [aO,aD,aO,aD];rw [qV,bf,aD,aaX F g1 k3 om [] [] k1]
  have hs:(cond (decide (4096<((CA (ic r')).length:Int))) ((gu F 3 [] s).bind fun x6=>some x6) (some s):O aY)=some s:=by
   rw [tI,k1];cases decide (4096<((CA (ic r')).length:Int))<;>rfl
  simp only [hs,aD,Ro,oH,k1,bf];exact⟨_,⟨eR _,VE g1 (eR _)⟩,rfl,rfl⟩
theorem expandPatterns(j:uy)(h1:K.gi j.nG.Bo)(h2:K.gi j.nG.oa):∃F,iP F j=some true:=by
 obtain⟨F,hN,hF⟩:∃F,NC<=F/\100000000<=F:=⟨NC+100000000,om,om⟩;refine⟨F,?_⟩;obtain⟨r,hr,e⟩:=alJ F j hN hF h1 h2;unfold iP;simp only [Kz];rw [e,aD,alL]
 cases hb:r.2 with
 | false=>rfl
 | true=>
  obtain⟨hfit,-,-,⟨a1,a2⟩,w1,w2⟩:=hr hb;have hge:=acW hfit h1 h2;have hA:=hfit.2.2.2.2.2.2.2.2.2;rw [jD,aO];refine cW (fun s:Int=>∃k:Nat,s=(k:Int)/\k<=r.1.length) (fun s=>r.1.length-s.toNat) ?_ F _ ⟨0,rfl,om⟩ bE;rintro _ ⟨k,rfl,hk⟩;by_cases hk:k<r.1.length
  ·left
   refine⟨_,⟨k+1,rfl,om⟩,bE,fun rc=>?_⟩;obtain⟨⟨q1,q2,q3⟩,⟨z1,z2⟩,p1,p2⟩:=ajA hN hF j.oW (r.1.getD k wS) (by rw [gd hk];have:=w2 _ (jN hk);omega) hge hA a2 om;rw [cM om,bZ hk,bZ hk,bL,p1,p2];have s1:=aoT F q1 (by have:q1.length<=100000:=z1;omega) (by have:q1.length<=100000:=z1;omega);have s2:=aoU F om z2;dsimp only at s2;simp only [aD,s1,jD,aO,s2,J1,bf];rw [cG om]
  ·right
   intro rc;rw [cf om];rfl
end Go.Proofs.YtjgkapeknmdedaaGreatDoor
