import Derived.Test.YthmndfnkdgmenaaGreatDoorZ2
import Derived.Test.YthmndfnkdgmenaaGreatDoorSo
import Derived.Test.YthmndfnkdgmenaaGreatDoorPe
set_option linter.all false
namespace Go.Proofs.YthmndfnkdgmenaaGreatDoor
open Go.RT
set_option maxRecDepth 100000
theorem Jj(F:Nat)(c:Int):kA F c=some (decide (48<=c)&&decide (c<=57)):=by
 unfold kA;rw [aK,cF];rfl
theorem aks(F:Nat)(c:Int):ry F c=some ((decide (97<=c)&&decide (c<=122))||(decide (65<=c)&&decide (c<=90))):=by
 unfold ry;grind
def anS(c:Int):Bool:=((decide (97<=c)&&decide (c<=122))||(decide (65<=c)&&decide (c<=90)))||(decide (48<=c)&&decide (c<=57))||c==95
theorem XX(F:Nat)(c:Int):oe F c=some (anS c):=by
 unfold oe;rw [aks];simp [Jj,aK];rfl
theorem apb(F:Nat)(l:Bs)(c:Int)(hF:l.length<F)(hl:l.length<=1000):∃b,Hr F l c=some b:=by
 have:aA (fun _=>True) (Hr F l c):=by
  refine aA.lp (fun i=>∃n:Nat,i=(n:Int)/\n<=l.length) (fun i=>l.length-i.toNat) ⟨0,rfl,om⟩ (by simp_all) ?_;rintro _ ⟨n,rfl,hn⟩ rc hrc;refine aA.cd (fun h=>?_) fun _=>aA.ok trivial;refine aA.rq (jN om om) (aA.cb (fun _=>aA.ok trivial) fun _=>?_);rw [bh om];exact hrc _ ⟨n+1,rfl,om⟩ (by grind)
 obtain⟨b,-,h⟩:=this;exact⟨b,h⟩
theorem Kh(F:Nat)(c:Int)(hF:10<F):∃b,lT F c=some b:=by
 obtain⟨b,hb⟩:=apb F [64,42,35,63,45,36,33] c (by show 7<F;omega) de;unfold lT
 simp_all [Jj,aD,aK]
def EX(s:Bs)(a:Nat)(b:Bool):Prop:=(b=true->a+1<s.length/\s.getD a 0=36)/\(s.getD a 0=36->s.getD (a+1) 0=40->b=true)
theorem apc{s:Bs}{a:Nat}(h:s.getD a 0=40):a<s.length:=by
 grind
theorem al0(F:Nat)(s:Bs)(a:Nat)(hF:10<F)(hl:s.length<=1000)(ha:a<s.length):aA (EX s a) (qh F s (a:Int)):=by
 unfold qh;rw [bh om];by_cases h:a+1<s.length
 ·rw [cf om,bR om om,Ym _ 36 de]
  refine aA.cb (fun h0=>aA.ok ⟨fun h=>(nomatch h),fun h'=>?_⟩) fun h0=>?_
  ·simp_all
  have h0:s.getD a 0=36:=by simpa using h0
  rw [bR om om,XX];obtain⟨b,hb⟩:=Kh F ((s.getD (Int.toNat ((a+1:Nat):Int)) 0).toNat:Int) hF;rw [hb];simp [aK];refine aA.ok ⟨fun _=>⟨h,h0⟩,fun _ h4=>?_⟩
  simp_all
 ·rw [cO om]
  exact aA.ok ⟨fun h=>(nomatch h),fun _ h4=>absurd (apc h4) h⟩
theorem ady(F:Nat)(s:Bs)(a:Nat)(hF:s.length<F)(hl:s.length<=1000)(ha:a<=s.length):aA (fun r=>∃e:Nat,r=(e:Int)/\a<=e/\e<=s.length) (vR F s (a:Int)):=by
 refine aA.lp (fun i=>∃n:Nat,i=(n:Int)/\a<=n/\n<=s.length) (fun i=>s.length-i.toNat) ⟨a,rfl,om,ha⟩ (by grind) ?_;rintro _ ⟨n,rfl,h1,h2⟩ rc hrc;by_cases h:n<s.length
 ·rw [cO om,bR om om,XX]
  refine aA.cb (fun _=>?_) fun _=>aA.ok ⟨n,rfl,h1,h2⟩;rw [bh om];exact hrc _ ⟨n+1,rfl,om,om⟩ (by grind)
 ·grind [aA.ok]
theorem ahJ(F:Nat)(s:Bs)(a:Nat)(hF:s.length<F)(hl:s.length<=1000)(ha:a<=s.length):aA (fun r=>∃e:Nat,r=(e:Int)/\a<=e/\e<=s.length/\(s.getD a 0≠10->a<s.length->a<e)) (Dl F s (a:Int)):=by
 refine aA.lp (fun i=>∃n:Nat,i=(n:Int)/\a<=n/\n<=s.length) (fun i=>s.length-i.toNat) ⟨a,rfl,om,ha⟩ (by grind) ?_;rintro _ ⟨n,rfl,h1,h2⟩ rc hrc;by_cases h:n<s.length
 ·rw [cO om,bR om om]
  refine aA.cb (fun _=>?_) fun h0=>aA.ok ⟨n,rfl,h1,h2,fun h3 _=>?_⟩
  ·rw [bh om]
   exact hrc _ ⟨n+1,rfl,om,om⟩ (by grind)
  ·by_cases e:a=n
   ·simp_all [bQ,Ym]
   ·omega
 ·grind [aA.ok]
theorem ab9(F:Nat)(s:Bs)(a:Nat)(hl:s.length<=1000)(ha:a<=s.length):aA (fun b=>b=true->a+1<s.length) (zh F s (a:Int)):=by
 unfold zh;rw [bh om];by_cases h:a+1<s.length
 ·rw [cO om,bR om om,aD,bR om om,aK]
  exact aA.ok fun _=>h
 ·rw [cf om]
  simp_all [aA.ok]
theorem afE(F:Nat)(c:Int):xh F c=some (c==9||c==32):=by unfold xh;rw [aK];rfl
theorem al1(F:Nat)(c:Int):∃b,uP F c=some b:=by unfold uP;simp_all [aK,cT,aD]
def PQ(s:Bs)(a k:Nat)(r:Int×Int):Prop:=r.2=0->∃e:Nat,r.1=(e:Int)/\a+k<=e/\e<=s.length
theorem PQ.err{s:Bs}{a k:Nat}{x e:Int}(h:e≠0):PQ s a k (x,e):=fun h'=>absurd h' h
theorem PQ.le{s:Bs}{a k j:Nat}{r:Int×Int}(h:PQ s a k r)(hj:j<=k):PQ s a j r:=fun e=>by
 obtain⟨e,h1,h2,h3⟩:=h e;grind
theorem aA.pair{A B:Type}{x:O (A×B)}{Q:A×B->Prop}(h:aA Q x):aA Q (x.bind fun y=>some (y.1,y.2)):=by
 obtain⟨r,h,rfl⟩:=h;exact⟨_,h,rfl⟩
theorem akt(F:Nat)(s:Bs)(a:Nat)(hF:s.length<F)(hl:s.length<=1000)(ha:a<s.length):aA (PQ s a 2) (zi F s (a:Int)):=by
 unfold zi;rw [bh om];refine aA.lp (fun i=>∃n:Nat,i=(n:Int)/\a+1<=n/\n<=s.length) (fun i=>s.length-i.toNat) ⟨a+1,rfl,om,ha⟩ (by grind) ?_;rintro _ ⟨n,rfl,h1,h2⟩ rc hrc;refine aA.cd (fun h=>?_) fun _=>aA.ok (PQ.err de);rw [bR om om,bh om];exact aA.cb (fun _=>aA.ok fun _=>⟨n+1,rfl,om,om⟩) fun _=>hrc _ ⟨n+1,rfl,om,om⟩ (by grind)
theorem al2(F:Nat)(s:Bs)(a:Nat)(hF:s.length+2<F)(hl:s.length<=1000)(ha:a<s.length):aA (PQ s a 2) (sP F s (a:Int)):=by
 unfold sP;rw [bh om];refine aA.lp (fun i=>∃n:Nat,i=(n:Int)/\a+1<=n/\n<=s.length+1) (fun i=>s.length+1-i.toNat) ⟨a+1,rfl,om,om⟩ (by grind) ?_;rintro _ ⟨n,rfl,h1,h2⟩ rc hrc;refine aA.cd (fun h=>?_) fun _=>aA.ok (PQ.err de);rw [bR om om,bh om];refine aA.cb (fun _=>aA.ok fun _=>⟨n+1,rfl,om,om⟩) fun _=>?_;rw [bR om om,aK];refine aA.cb (fun _=>aA.ok (PQ.err de)) fun hb=>?_;rw [bR om om];refine aA.cb (fun h9=>?_) fun _=>hrc _ ⟨n+1,rfl,om,om⟩ (by grind);rw [bh om];exact hrc _ ⟨n+2,rfl,om,om⟩ (by grind)
def P1(F:Nat)(s:Bs)(n:Nat):Prop:=∀(a:Nat)(p:Int),a<s.length->4*(s.length-a)+4<=n->aA (fun r=>PQ s a 1 r/\(s.getD a 0=39->p=0->PQ s a 2 r)/\(s.getD a 0=96->PQ s a 2 r)/\(s.getD a 0=36->s.getD (a+1) 0=40->PQ s a 3 r)) ((cV F n).1 s (a:Int) p)
def P2(F:Nat)(s:Bs)(n:Nat):Prop:=∀(a:Nat)(p:Int),a+1<s.length->4*(s.length-a)+3<=n->aA (fun r=>PQ s a 1 r/\(s.getD (a+1) 0=40->PQ s a 3 r)) ((cV F n).2.1 s (a:Int) p)
def P3(F:Nat)(s:Bs)(n:Nat):Prop:=∀(a:Nat)(p:Int),a+1<s.length->4*(s.length-a)+2<=n->aA (PQ s a 3) ((cV F n).2.2.1 s (a:Int) p)
def P4(F:Nat)(s:Bs)(n:Nat):Prop:=∀(a:Nat),a+2<s.length->4*(s.length-a)+2<=n->aA (PQ s a 3) ((cV F n).2.2.2.1 s (a:Int))
def P5(F:Nat)(s:Bs)(n:Nat):Prop:=∀(a:Nat),a+1<s.length->4*(s.length-a)+2<=n->aA (PQ s a 3) ((cV F n).2.2.2.2.1 s (a:Int))
def P6(F:Nat)(s:Bs)(n:Nat):Prop:=∀(a:Nat),a<s.length->4*(s.length-a)+2<=n->aA (PQ s a 2) ((cV F n).2.2.2.2.2 s (a:Int))
section
variable {F : Nat} {s : Bs} {n : Nat}
theorem afF(hF:s.length+20<F)(hl:s.length<=200000)(h2:P2 F s n)(h6:P6 F s n):P1 F s (n+1):=by
 intro a p ha hn;show aA _ (FJ F (cV F n) s (a:Int) p);unfold FJ;rw [bR om om,bh om,aK,aD]
 have hb:∀(k:Nat),k<256->∀b:Bool,((((s.getD (Int.toNat (a:Int)) 0).toNat:Int)==(no_index (OfNat.ofNat k:Int)))=b->(s.getD a 0==(OfNat.ofNat k:UInt8))=b):=by
  intro k hk b h;rw [bQ,qT _ k hk] at h;exact h
 refine aA.cb (fun _=>aA.ok ⟨PQ.err de,fun _ _=>PQ.err de,fun _=>PQ.err de,fun _ _=>PQ.err de⟩) fun hx=>?_;refine aA.cb (fun h=>?_) fun g1=>?_
 ·have:=hb 92 de _ h
  have e:s.getD a 0=92:=by simpa using this
  rw [h] at hx;have hx':(((a+1:Nat):Int)==(s.length:Int))=false:=hx;have hne:a+1≠s.length:=fun e=>by rw [e] at hx';simp at hx'
  rw [bG om];have q:PQ s a 2 ((a:Int)+2,0):=fun _=>⟨a+2,rfl,om,om⟩;exact aA.ok ⟨q.le om,fun _ _=>q,fun _=>q,fun h=>by rw [e] at h;exact absurd h de⟩
 refine aA.cb (fun h=>?_) fun g2=>?_
 ·have e:s.getD a 0=96:=by simpa using hb 96 de _ h
  exact ((al2 F s a om hl ha).mono fun r q=>⟨q.le om,fun _ _=>q,fun _=>q,fun h=>by rw [e] at h;exact absurd h de⟩).pair
 have n96:s.getD a 0≠96:=fun e=>by have:=hb 96 de _ g2;rw [e] at this;exact absurd this de
 refine aA.bd (al0 F s a om hl ha) fun b hE=>?_;refine aA.cb (fun h=>?_) fun g3=>?_
 ·obtain⟨h1,h3⟩:=hE.1 h
  exact ((h2 a p h1 om).mono fun r q=>⟨q.1,fun h=>by rw [h3] at h;exact absurd h de,fun h=>by rw [h3] at h;exact absurd h de,fun _ h=>q.2 h⟩).pair
 have n40:s.getD a 0=36->s.getD (a+1) 0=40->False:=fun h h'=>by have:=hE.2 h h';rw [g3] at this;cases this
 simp only [aK,aD,cF];refine aA.cb (fun h=>?_) fun g4=>?_
 ·exact ((akt F s a om hl ha).mono fun r q=>⟨q.le om,fun _ _=>q,fun _=>q,fun h h'=>(n40 h h').elim⟩).pair
 refine aA.cb (fun h=>?_) fun g5=>?_
 ·rw [cx] at h
  have e:s.getD a 0=34:=by simpa using hb 34 de _ h.1
  exact ((h6 a ha om).mono fun r q=>⟨q.le om,fun _ _=>q,fun _=>q,fun h h'=>(n40 h h').elim⟩).pair
 refine aA.ok ⟨fun _=>⟨a+1,rfl,om,om⟩,fun h e=>?_,fun h=>(n96 h).elim,fun h h'=>(n40 h h').elim⟩;rw [bQ,h,e] at g4;exact absurd g4 de
theorem ahK(hF:s.length+20<F)(hl:s.length<=200000)(h3:P3 F s n)(h4:P4 F s n)(h5:P5 F s n):P2 F s (n+1):=by
 intro a p ha hn;show aA _ (wX F (cV F n) s (a:Int) p);unfold wX;rw [bh om,bR om om,bG om,show (a:Int)+2=((a+2:Nat):Int) from rfl];refine aA.cb (fun _=>((h3 a p ha om).mono fun r q=>⟨q.le om,fun _=>q⟩).pair) fun _=>?_;rw [aK,aD,cF]
 have main:aA (fun r=>PQ s a 1 r/\(s.getD (a+1) 0=40->PQ s a 3 r)) (cond (((s.getD (Int.toNat ((a+1:Nat):Int)) 0).toNat:Int)==40)
   (((cV F n).2.2.2.2.1 s (a:Int)).bind fun x5=>some (x5.1,x5.2))
   ((lT F ((s.getD (Int.toNat ((a+1:Nat):Int)) 0).toNat:Int)).bind fun x6=>cond x6 (some (((a+2:Nat):Int),0)) ((vR F s ((a+1:Nat):Int)).bind fun x7=>some (x7,0)))):=by
  refine aA.cb (fun _=>((h5 a ha om).mono fun r q=>⟨q.le om,fun _=>q⟩).pair) fun g=>?_;have n40:s.getD (a+1) 0=40->False:=fun h=>by rw [bQ,h] at g;exact absurd g de
  obtain⟨b,hb⟩:=Kh F ((s.getD (Int.toNat ((a+1:Nat):Int)) 0).toNat:Int) om;rw [hb,aD];refine aA.cb (fun _=>aA.ok ⟨fun _=>⟨a+2,rfl,om,om⟩,fun h=>(n40 h).elim⟩) fun _=>?_;refine aA.bd (ady F s (a+1) om hl om) fun r ⟨e,h1,h2,h3⟩=>aA.ok ⟨fun _=>⟨e,h1,om,h3⟩,fun h=>(n40 h).elim⟩
 by_cases h:a+2<s.length
 ·rw [show decide (((a+2:Nat):Int)<(s.length:Int))=true from dT om,Bool.and_true,Bool.and_true,sw om,aK,aD]
  exact aA.cb (fun _=>((h4 a h om).mono fun r q=>⟨q.le om,fun _=>q⟩).pair) fun _=>main
 ·rw [show decide (((a+2:Nat):Int)<(s.length:Int))=false from dF om,Ui,aS,aD,aS]
  exact main
theorem step1(h1:P1 F s n){i:Nat}{p:Int}(hi:i<s.length)(hn:4*(s.length-i)+4<=n){R:Type}{Q:R->Prop}{k:Int×Int->O R}(hk:∀r,PQ s i 1 r->aA Q (k r)):aA Q (((cV F n).1 s (i:Int) p).bind k):=
 aA.bd (h1 i p hi hn) fun r q=>hk r q.1
theorem Hs{x:Int}{R:Type}{Q:R->Prop}{A B:O R}(a:x≠0->aA Q A)(b:x=0->aA Q B):aA Q (cond (x != 0) A B):=by
 by_cases h:x=0
 ·subst h;exact b rfl
 ·rw [show (x != 0)=true from by simpa using h];exact a h
theorem adz(hF:s.length+20<F)(hl:s.length<=200000)(h1:P1 F s n):P3 F s (n+1):=by
 intro a p ha hn;show aA _ (Bl F (cV F n) s (a:Int) p);unfold Bl;rw [bG om,show (a:Int)+2=((a+2:Nat):Int) from rfl];refine aA.lp (fun i:Int=>∃n:Nat,i=(n:Int)/\a+2<=n/\n<=s.length) (fun i=>s.length-i.toNat) ⟨a+2,rfl,om,ha⟩ (by rw [bQ];omega) ?_;rintro _ ⟨i,rfl,g1,g2⟩ rc hrc;refine aA.cd (fun h=>?_) fun _=>aA.ok (PQ.err de);rw [bR om om,bh om];refine aA.cb (fun _=>aA.ok fun _=>⟨i+1,rfl,om,om⟩) fun _=>?_;rw [bR om om,aK,aD];refine aA.cb (fun _=>aA.ok (PQ.err de)) fun _=>step1 h1 om om fun r q=>Hs (fun h=>aA.ok (PQ.err h)) fun h=>?_;obtain⟨e,e1,e2,e3⟩:=q h;rw [e1];exact hrc _ ⟨e,rfl,om,e3⟩ (by rw [bQ,bQ];omega)
theorem ahL(hF:s.length+20<F)(hl:s.length<=200000)(h1:P1 F s n):P6 F s (n+1):=by
 intro a ha hn;show aA _ (Bn F (cV F n) s (a:Int));unfold Bn;rw [bh om];refine aA.lp (fun i:Int=>∃n:Nat,i=(n:Int)/\a+1<=n/\n<=s.length) (fun i=>s.length-i.toNat) ⟨a+1,rfl,om,ha⟩ (by rw [bQ];omega) ?_;rintro _ ⟨i,rfl,g1,g2⟩ rc hrc;refine aA.cd (fun h=>?_) fun _=>aA.ok (PQ.err de);rw [bR om om,bh om];refine aA.cb (fun _=>aA.ok fun _=>⟨i+1,rfl,om,om⟩) fun _=>step1 h1 om om fun r q=>Hs (fun h=>aA.ok (PQ.err h)) fun h=>?_;obtain⟨e,e1,e2,e3⟩:=q h;rw [e1];exact hrc _ ⟨e,rfl,om,e3⟩ (by rw [bQ,bQ];omega)
theorem adA(hF:s.length+20<F)(hl:s.length<=200000)(h1:P1 F s n):P4 F s (n+1):=by
 intro a ha hn;show aA _ (uQ F (cV F n) s (a:Int));unfold uQ;rw [bG om,show (a:Int)+3=((a+3:Nat):Int) from rfl];refine aA.lp (fun i:Int×Int=>∃n:Nat,i.1=(n:Int)/\a+3<=n/\n<=s.length) (fun i=>s.length-i.1.toNat) ⟨a+3,rfl,om,ha⟩ (by show s.length-((a+3:Nat):Int).toNat<F;rw [bQ];omega) ?_;rintro⟨_,o⟩ ⟨i,rfl,g1,g2⟩ rc hrc;dsimp only at g1 g2 hrc⊢;refine aA.cd (fun h=>?_) fun _=>aA.ok (PQ.err de);rw [bR om om,bh om];refine aA.jj (P:=fun x=>∀r,x=.inr r->PQ s a 3 r) ?_ (fun o' _=>?_) fun r h=>h r rfl
 ·have ok:∀o':Int,aA (fun x:Int ⊕ (Int×Int)=>∀r,x=.inr r->PQ s a 3 r) (some (.inl o')):=fun o'=>aA.ok fun r h=>nomatch h
  refine aA.cb (fun _=>ok _) fun _=>?_;rw [aK,aD];refine aA.cb (fun _=>ok _) fun _=>?_;rw [aK,aD,cF];refine aA.cb (fun _=>aA.ok fun r e=>by cases e;exact PQ.err de) fun hx=>?_
  have fin:aA (fun x:Int ⊕ (Int×Int)=>∀r,x=.inr r->PQ s a 3 r) (cond (((s.getD (Int.toNat (i:Int)) 0).toNat:Int)==41) (some (.inr ((i:Int),6))) (some (.inl o))):=
   aA.cb (fun _=>aA.ok fun r e=>by cases e;exact PQ.err de) fun _=>ok _
  cases hc:(((s.getD (Int.toNat (i:Int)) 0).toNat:Int)==41) with
  | false=>rw [hc] at fin;exact fin
  | true=>
   rw [hc] at hx fin
   have hne:i+1≠s.length:=fun e=>by
    have hx:(((i+1:Nat):Int)==(s.length:Int))=false:=hx;rw [e] at hx;simp at hx
   rw [bu,bR om om,aD];refine aA.cb (fun _=>aA.ok fun r e=>?_) fun _=>fin;cases e;rw [bG om];exact fun _=>⟨i+2,rfl,om,om⟩
 ·refine step1 h1 om om fun r q=>Hs (fun h=>aA.ok (PQ.err h)) fun h=>?_
  obtain⟨e,e1,e2,e3⟩:=q h;rw [e1];exact hrc _ ⟨e,rfl,om,e3⟩ (by show s.length-((e:Nat):Int).toNat<s.length-((i:Nat):Int).toNat;rw [bQ,bQ];omega)
theorem aA.ret{σ R:Type}{x:O R}{Q:R->Prop}(h:aA Q x):aA (fun z:σ ⊕ R=>∃r,Q r/\z=.inr r) (yz x):=by
 obtain⟨r,h,rfl⟩:=h;exact⟨.inr r,⟨r,h,rfl⟩,rfl⟩
theorem ahM(hF:s.length+20<F)(hl:s.length<=200000)(h1:P1 F s n):P5 F s (n+1):=by
 intro a ha hn;show aA _ (zj F (cV F n) s (a:Int));unfold zj;rw [bG om,show (a:Int)+2=((a+2:Nat):Int) from rfl];refine aA.lp (fun i:Int×Int×Bool=>∃n:Nat,i.1=(n:Int)/\a+2<=n/\n<=s.length) (fun i=>s.length-i.1.toNat) ⟨a+2,rfl,om,ha⟩ (by show s.length-((a+2:Nat):Int).toNat<F;rw [bQ];omega) ?_;rintro⟨_,o,bg⟩ ⟨i,rfl,g1,g2⟩ rc hrc;dsimp only at g1 g2 hrc⊢
 have Bo:∀(e:Nat) o' b',i<e->e<=s.length->aA (PQ s a 3) (rc ((e:Int),o',b')):=fun e o' b' h1 h2=>
  hrc _ ⟨e,rfl,om,h2⟩ (by show s.length-((e:Nat):Int).toNat<s.length-((i:Nat):Int).toNat;rw [bQ,bQ];omega)
 refine aA.cd (fun h=>?_) fun _=>aA.ok (PQ.err de);have h:i<s.length:=om;rw [bR om om,bh om];refine aA.jj (P:=fun x=>(∀z,x=.inl z->z.1=(i:Int))/\∀r,x=.inr r->PQ s a 3 r) ?_ (fun z hz=>?_) fun r h=>h.2 r rfl
 ·have ok:∀o':Int,aA (fun x:(Int×Int) ⊕ (Int×Int)=>(∀z,x=.inl z->z.1=(i:Int))/\∀r,x=.inr r->PQ s a 3 r) (some (.inl ((i:Int),o'))):=fun o'=>aA.ok ⟨fun z e=>by cases e;rfl,fun r h=>nomatch h⟩
  have rt:∀ {x:Option (Int×Int)},aA (PQ s a 3) x->aA (fun x:(Int×Int) ⊕ (Int×Int)=>(∀z,x=.inl z->z.1=(i:Int))/\∀r,x=.inr r->PQ s a 3 r) (yz x):=fun h=>h.ret.mono fun z ⟨r,q,e⟩=>by
   subst e;exact⟨fun z e=>(nomatch e),fun r' e=>by cases e;exact q⟩
  rw [aK,aD];refine aA.cb (fun hc=>?_) fun _=>?_
  ·have h35:s.getD i 0=35:=by
    rw [cF,cx,bQ,qT _ 35 de] at hc;simpa using hc.2
   refine aA.bd (ahJ F s i om hl om) fun r ⟨e,e1,e2,e3,e4⟩=>rt ?_;rw [e1];exact Bo e _ _ (e4 (by rw [h35];decide) h) e3
  refine aA.bd (ab9 F s i hl om) fun b hb=>aA.cb (fun hb'=>rt ?_) fun _=>?_
  ·have:=hb hb'
   rw [bG om];exact Bo (i+2) _ _ om om
  rw [aK,aD];refine aA.cb (fun _=>aA.ok ⟨fun z e=>(nomatch e),fun r e=>?_⟩) fun _=>aA.cb (fun _=>ok _) fun _=>aA.cb (fun _=>ok _) fun _=>ok _;cases e;exact fun _=>⟨i+1,rfl,om,om⟩
 ·obtain⟨ob,Lw⟩:=al1 F ((s.getD (Int.toNat (i:Int)) 0).toNat:Int)
  rw [afE,Lw];simp only [aD,aK];obtain⟨z1,z2⟩:=z;obtain rfl:z1=(i:Int):=hz.1 _ rfl;refine step1 h1 h om fun r q=>Hs (fun h=>aA.ok (PQ.err h)) fun h=>?_;obtain⟨e,e1,e2,e3⟩:=q h;rw [e1];exact Bo e _ _ om e3
theorem acd(hF:s.length+20<F)(hl:s.length<=200000):∀n,P1 F s n/\P2 F s n/\P3 F s n/\P4 F s n/\P5 F s n/\P6 F s n
 | 0=>⟨fun _ _ _ h=>om,fun _ _ _ h=>om,fun _ _ _ h=>om,fun _ _ h=>om,fun _ _ h=>om,fun _ _ h=>om⟩
 | n+1=>by
  obtain⟨h1,h2,h3,h4,h5,h6⟩:=acd hF hl n;exact⟨afF hF hl h2 h6,ahK hF hl h3 h4 h5,adz hF hl h1,adA hF hl h1,ahM hF hl h1,ahL hF hl h1⟩
end
theorem Ki(F:Nat)(s:Bs)(a:Nat)(p:Int)(hF:4*s.length+20<F)(hl:s.length<=200000)(ha:a<s.length):
  aA (fun r=>PQ s a 1 r/\(s.getD a 0=39->p=0->PQ s a 2 r)/\(s.getD a 0=96->PQ s a 2 r)/\(s.getD a 0=36->s.getD (a+1) 0=40->PQ s a 3 r)) (zk F s (a:Int) p):=
 (acd om hl F).1 a p ha om
mutual
def wP:TPart->Nat
 | .mk _ t _ _ ps=>1+t.length+eN ps
def eN:J TPart->Nat
 | []=>0
 | p::l=>wP p+eN l
end
theorem yO:∀(l m:J TPart),eN (l++m)=eN l+eN m
 | [],m=>by simp [eN]
 | p::l,m=>by simp only [wV,eN,yO l m];omega
theorem Jk(p:TPart):1+p.fText.length+eN p.fParts=wP p:=by cases p;rfl
theorem Fl:∀(l:J TPart),l.length<=eN l
 | []=>by simp [eN]
 | p::l=>by have:=Fl l;have:=Jk p;simp only [Bf,eN];omega
theorem FK(l:J TPart)(k:Nat):eN (l.take k)+eN (l.drop k)=eN l:=by rw [<-yO,Uf]
theorem RX{l:J TPart}{k:Nat}(h:k<l.length):eN (l.take (k+1))=eN (l.take k)+wP (l.getD k jY):=by
 rw [qA h,yO,gd h];simp only [eN];omega
theorem Uq{l:J TPart}{k:Nat}(h:k<l.length):wP (l.getD k jY)<=eN l:=by
 have h1:=RX h;have h2:=FK l (k+1);omega
theorem cI'(c:Bool):cond c false false=false:=by cases c<;>rfl
theorem adB(F:Nat)(p:TPart)(e:Int):gF F p e=some (dY.mk [p] e 0):=by cases p;rfl
theorem sQ(s:Bs)(i j:Nat):(sl s (i:Int) (j:Int)).length<=j-i:=by
 unfold sl;rw [Kc,MC,bQ,bQ];omega
theorem adC(F:Nat)(p:Int):nI F p=some (p==0||p==1):=by unfold nI;rw [aK,cT];rfl
theorem apd(F:Nat)(c p:Int):∃b,xX F c p=some b:=by
 unfold xX;simp only [aK,cT,aD];exact⟨_,rfl⟩
theorem anT(F:Nat)(s:Bs)(a:Nat)(p o:Int)(ha:a<s.length):∃b,Ei F s (a:Int) p o=some b:=by
 unfold Ei;rw [bR om om,bR om om,bR om om];simp only [aK,cT,aD];exact⟨_,rfl⟩
theorem Ur(F:Nat)(s:Bs)(a:Nat)(hl:s.length<=200000)(ha:a<=s.length):aA (fun b=>b=true->a+1<s.length) (uR F s (a:Int)):=ab9 F s a hl ha
theorem al3(F:Nat)(s:Bs)(a:Nat)(p:Int)(hF:s.length<F)(hl:s.length<=200000)(ha:a<s.length):∃b,xj F s (a:Int) p=some b:=by
 have:aA (fun _=>True) (xj F s (a:Int) p):=by
  unfold xj;rw [adC,aD,bh om,bR om om];simp only [aK,aD];refine aA.cb (fun _=>aA.ok trivial) fun _=>?_;refine aA.lp (fun i:Int=>∃n:Nat,i=(n:Int)/\a+1<=n/\n<=s.length) (fun i=>s.length-i.toNat) ⟨a+1,rfl,om,ha⟩ (by rw [bQ];omega) ?_;rintro _ ⟨n,rfl,h1,h2⟩ rc hrc;refine aA.bd (Ur F s n hl h2) fun b hb=>aA.cb (fun h=>?_) fun _=>?_
  ·have:=hb h
   rw [bG om];exact hrc _ ⟨n+2,rfl,om,om⟩ (by rw [bQ,show ((n:Int)+2)=((n+2:Nat):Int) from rfl,bQ];omega)
  ·by_cases h:n<s.length
   ·rw [cf om,bR om om,bR om om]
    simp only [aK,aD];exact aA.ok trivial
   ·rw [cO om]
    exact aA.ok trivial
 obtain⟨b,-,h⟩:=this;exact⟨b,h⟩
def RQ(s:Bs)(a:Nat)(r:dY):Prop:=r.fE=0->∃e:Nat,r.ML=(e:Int)/\a+1<=e/\e<=s.length/\r.fParts.length<=1/\eN r.fParts<=2*(e-a)
theorem RQ.err{s:Bs}{a:Nat}{l:J TPart}{x e:Int}(h:e≠0):RQ s a ⟨l,x,e⟩:=fun h'=>absurd h' h
theorem RQ.one{s:Bs}{a e:Nat}{p:TPart}(h1:a+1<=e)(h2:e<=s.length)(h3:wP p<=2*(e-a)):RQ s a ⟨[p],(e:Int),0⟩:=fun _=>⟨e,rfl,h1,h2,si,by simp only [eN];omega⟩
theorem wT(k:Int)(t:Bs)(o:Int)(c:Bool):wP (.mk k t o c [])=1+t.length:=by simp [wP,eN]
theorem wN(k:Int)(t:Bs)(o:Int)(c:Bool)(l:J TPart):wP (.mk k t o c l)=1+t.length+eN l:=rfl
theorem aA.so{A:Type}{x:O A}{Q:A->Prop}(h:aA Q x):aA Q (x.bind fun y=>some y):=by rw [anU];exact h
theorem aku(F:Nat)(s:Bs)(a:Nat)(p:Int)(hl:s.length<=200000)(ha:a<s.length):aA (RQ s a) (uw F s (a:Int) p):=by
 unfold uw;rw [bh om,bG om,show (a:Int)+2=((a+2:Nat):Int) from rfl]
 have one:∀ {k o:Int}{c:Bool}{t:Bs}{e:Nat},a+1<=e->e<=s.length->1+t.length<=2*(e-a)->aA (RQ s a) ((gF F (.mk k t o c []) (e:Int)).bind fun x=>some x):=fun h1 h2 h3=>by
  rw [adB];exact aA.ok (RQ.one h1 h2 (by rw [wT];exact h3))
 by_cases h:a+1=s.length
 ·rw [show (((a+1:Nat):Int)==(s.length:Int))=true from by rw [h];simp,bu]
  exact aA.cb (fun _=>one om om (by show 1+1<=_;omega)) fun _=>aA.ok (RQ.err de)
 ·rw [show (((a+1:Nat):Int)==(s.length:Int))=false from by simp;omega,aS,bR om om]
  have h1:=sQ s (a+1) (a+2);have h2:=sQ s a (a+2);refine aA.cb (fun _=>aA.ok fun _=>⟨a+2,rfl,om,om,si,by simp [eN]⟩) fun _=>?_;rw [adC,aD];refine aA.cb (fun _=>aA.rq (Jl om om om) (one om om om)) fun _=>?_;obtain⟨b,hb⟩:=apd F ((s.getD (Int.toNat ((a+1:Nat):Int)) 0).toNat:Int) p;rw [hb,aD];refine aA.cb (fun _=>aA.rq (Jl om om om) (one om om om)) fun _=>?_;simp only [aK,aD];refine aA.cb (fun _=>aA.ok (RQ.err de)) fun _=>?_;rw [CH om om om];exact one om om om
theorem ace(F:Nat)(t:Bs)(hF:4*t.length+40<F)(hl:t.length<=150000):∃b,rz F t=some b:=by
 have:aA (fun _=>True) (rz F t):=by
  unfold rz;have hL:(([36,40]:Bs)++t++([41]:Bs)).length=t.length+3:=by simp
  rw [sw (by show 2+t.length<=_;omega),sw (by rw [uI];show 2+t.length+1<=_;omega)];have hp:=Ki F ((([36,40]:Bs)++t)++([41]:Bs)) 0 0 om om om;refine aA.bd hp fun r _=>?_;by_cases h:t=[]
  ·subst h
   simp only [aK,aD];rw [show (([]:Bs)==[])=true from rfl];simp only [bu,aK,aD];exact aA.ok trivial
  ·have:0<t.length:=y9.2 h
   rw [sw om];simp only [aK,aD];exact aA.ok trivial
 obtain⟨b,-,h⟩:=this;exact⟨b,h⟩
theorem al4(F:Nat)(s:Bs)(a:Nat)(hF:4*s.length+100<F)(hl:s.length<=100000)(ha:a<s.length)(h96:s.getD a 0=96):aA (RQ s a) (sR F s (a:Int)):=by
 unfold sR;refine aA.bd (Ki F s a 0 om om ha) fun r q=>Hs (fun h=>aA.ok (RQ.err h)) fun h=>?_;obtain⟨e,e1,e2,e3⟩:=q.2.2.1 h96 h;rw [e1,wY om om,bh om];refine aA.lp (fun z:Bs×Int=>∃n:Nat,z.2=(n:Int)/\a+1<=n/\n<=e/\z.1.length<=e-a-2/\z.1.length+a+1<=n) (fun z=>e-z.2.toNat) ⟨a+1,rfl,om,om,si,si⟩ (by show e-Int.toNat ((a+1:Nat):Int)<F;omega) ?_
 ·rintro⟨t,_⟩ ⟨n,rfl,g1,g2,g3,g4⟩ rc hrc
  dsimp only at g3 g4 hrc⊢
  have ok:∀b:Bool,∃m:Nat,cond b (((n+1:Nat):Int)) (n:Int)=(m:Int)/\n<=m/\m<=n+1:=fun b=>by
   cases b
   ·exact⟨n,rfl,om,om⟩
   ·exact⟨n+1,rfl,om,om⟩
  refine aA.cd (fun h=>?_) fun h=>?_
  ·rw [bR om om,bh om,bR om om,bR om om,bR om om]
   simp only [aK,aD];generalize hb:(cond (((s.getD (Int.toNat (n:Int)) 0).toNat:Int)==92) _ false:Bool)=b;obtain⟨m,hm,VU,hm2⟩:=ok b;rw [hm,bh om];have hs:=sQ s m (m+1);refine aA.rq (Jl om om om) (aA.rq (dQ om) (hrc _ ⟨m+1,rfl,om,om,?_,?_⟩ ?_))
   ·show (t++sl s (m:Int) ((m+1:Nat):Int)).length<=_
    rw [uI];omega
   ·show (t++sl s (m:Int) ((m+1:Nat):Int)).length+a+1<=_
    rw [uI];omega
   ·show e-Int.toNat ((m+1:Nat):Int)<e-Int.toNat (n:Int);omega
  ·refine aA.bd (P:=fun u:Bs=>u.length<=e-a-1) ?_ fun u hu=>?_
   ·refine aA.bd (P:=fun _=>True) ?_ fun b _=>aA.cb (fun _=>aA.rq (dQ (by show 1+t.length<=_;omega)) (aA.ok (by show ([32]++t).length<=_;simp;omega))) fun _=>aA.ok om
    by_cases ht:t=[]
    ·subst ht;exact aA.ok trivial
    ·have:0<t.length:=y9.2 ht
     rw [sw om,aK];exact aA.ok trivial
   refine aA.bd (P:=fun u:Bs=>u.length<=e-a) ?_ fun v hv=>?_
   ·obtain⟨b,hb⟩:=ace F u om om
    rw [hb,aD];exact aA.cb (fun _=>aA.rq (dQ (by show u.length+1<=_;omega)) (aA.ok (by show (u++[10]).length<=_;simp;omega))) fun _=>aA.ok om
   obtain⟨b,hb⟩:=ace F v om om;rw [hb,aD];refine aA.cb (fun _=>aA.ok (RQ.err de)) fun _=>?_;rw [adB];exact aA.ok (RQ.one om om (by rw [wT];omega))
theorem Us(F:Nat)(s:Bs)(hF:s.length<F)(hl:s.length<=200000):∃r,lE F s=some r:=by
 have:aA (fun _=>True) (lE F s):=by
  unfold lE;by_cases h:s=[]
  ·subst h;exact aA.ok trivial
  have:0<s.length:=y9.2 h;rw [sw om];simp only [aK,aD];refine aA.cb (fun _=>aA.ok trivial) fun _=>?_;refine aA.lp (fun i:Int×Int=>∃n:Nat,i.2=(n:Int)/\n<=s.length) (fun i=>s.length-i.2.toNat) ⟨0,rfl,om⟩ (by show s.length-0<F;omega) ?_;rintro⟨v,_⟩ ⟨n,rfl,hn⟩ rc hrc;dsimp only at hrc⊢;refine aA.cd (fun h=>?_) fun _=>aA.ok trivial;rw [bR om om,Jj,aD,bh om];refine aA.cb (fun _=>aA.ok trivial) fun _=>aA.rq (jN om om) (hrc _ ⟨n+1,rfl,om⟩ (by show s.length-Int.toNat ((n+1:Nat):Int)<s.length-Int.toNat (n:Int);omega))
 obtain⟨b,-,h⟩:=this;exact⟨b,h⟩
theorem Yn(F:Nat)(s:Bs)(a:Nat)(hF:s.length+20<F)(hl:s.length<=200000)(ha:a<=s.length):aA (fun r=>∃e:Nat,r=(e:Int)/\a<=e/\e<=s.length) (nk F s (a:Int)):=by
 unfold nk;by_cases h:a<s.length
 ·rw [cf om,bR om om,Jj,aD,bR om om,XX,aD,bR om om,bh om]
  refine aA.cb (fun _=>?_) fun _=>aA.cb (fun _=>(ady F s a om hl ha).so) fun _=>?_
  ·refine aA.lp (fun i:Int=>∃n:Nat,i=(n:Int)/\a+1<=n/\n<=s.length) (fun i=>s.length-i.toNat) ⟨a+1,rfl,om,h⟩ (by rw [bQ];omega) ?_
   rintro _ ⟨n,rfl,h1,h2⟩ rc hrc;by_cases hn:n<s.length
   ·rw [cO om,bR om om,Jj,aD,aD,bh om]
    refine aA.cb (fun _=>aA.rq (Jl om om om) ?_) fun _=>aA.ok ⟨n,rfl,om,h2⟩;have hs:=sQ s a (n+1);obtain⟨r,hr⟩:=Us F (sl s (a:Int) ((n+1:Nat):Int)) om om;rw [hr,aD];exact aA.cb (fun _=>aA.ok ⟨n,rfl,om,h2⟩) fun _=>hrc _ ⟨n+1,rfl,om,om⟩ (by rw [bQ,bQ];omega)
   ·rw [cf om]
    exact aA.ok ⟨n,rfl,om,h2⟩
  ·obtain⟨b,hb⟩:=Kh F ((s.getD (Int.toNat (a:Int)) 0).toNat:Int) om
   rw [hb,aD];exact aA.cb (fun _=>aA.ok ⟨a+1,rfl,om,om⟩) fun _=>aA.ok ⟨a,rfl,om,om⟩
 ·rw [cO om]
  exact aA.ok ⟨a,rfl,om,ha⟩
theorem op8(F:Nat)(s:Bs)(a:Nat)(hl:s.length<=200000)(ha:a<s.length):aA (fun r=>r.1≠0->∃n:Nat,r.2.2=(n:Int)/\1<=n/\a+n<=s.length) (vS F s (a:Int)):=by
 unfold vS;rw [bR om om];have z:aA (fun r:Int×Bool×Int=>r.1≠0->∃n:Nat,r.2.2=(n:Int)/\1<=n/\a+n<=s.length) (some (0,false,0)):=aA.ok fun h=>absurd rfl h;have ok:∀(o:Int)(b:Bool)(n:Nat),1<=n->a+n<=s.length->aA (fun r:Int×Bool×Int=>r.1≠0->∃n:Nat,r.2.2=(n:Int)/\1<=n/\a+n<=s.length) (some (o,b,(n:Int))):=fun o b n h1 h2=>aA.ok fun _=>⟨n,rfl,h1,h2⟩
 cases hc:(((s.getD (Int.toNat (a:Int)) 0).toNat:Int)==58) with
 | true=>
  rw [bu,aD,bh om];simp only [bu];refine aA.cd (fun _=>z) fun h=>?_;rw [show aB (aB (((a+1:Nat):Int)-(a:Int))+1)=((2:Nat):Int) from by rw [bG (x:=((a+1:Nat):Int)-(a:Int)) om,bG om];omega]
  exact aA.rq (jN om om) (aA.cb (fun _=>ok _ _ 2 om om) fun _=>aA.rq (jN om om) (aA.cb (fun _=>ok _ _ 2 om om) fun _=>aA.rq (jN om om) (aA.cb (fun _=>ok _ _ 2 om om) fun _=>aA.rq (jN om om) (aA.cb (fun _=>ok _ _ 2 om om) fun _=>z))))
 | false=>
  rw [aS,aD];simp only [aS];rw [cf om,show aB (aB ((a:Int)-(a:Int))+1)=((1:Nat):Int) from by rw [bG (x:=(a:Int)-(a:Int)) om,bG om];omega,bh om];refine aA.rq (jN om om) (aA.cb (fun _=>ok _ _ 1 om om) fun _=>aA.rq (jN om om) (aA.cb (fun _=>ok _ _ 1 om om) fun _=>aA.rq (jN om om) (aA.cb (fun _=>ok _ _ 1 om om) fun _=>aA.rq (jN om om) (aA.cb (fun _=>ok _ _ 1 om om) fun _=>?_))))
  have two:∀(k:Int){A B:O (Int×Bool×Int)},(a+1<s.length->aA (fun r:Int×Bool×Int=>r.1≠0->∃n:Nat,r.2.2=(n:Int)/\1<=n/\a+n<=s.length) A)->aA (fun r:Int×Bool×Int=>r.1≠0->∃n:Nat,r.2.2=(n:Int)/\1<=n/\a+n<=s.length) B ->
    aA (fun r:Int×Bool×Int=>r.1≠0->∃n:Nat,r.2.2=(n:Int)/\1<=n/\a+n<=s.length) ((rq ((decide (0<=(a:Int)))&&(decide ((a:Int)<(s.length:Int)))) (cond (((s.getD (Int.toNat (a:Int)) 0).toNat:Int)==k) (some (decide (((a+1:Nat):Int)<(s.length:Int)))) (some false)):O Bool).bind fun x2=>
     (cond x2 (rq ((decide (0<=((a+1:Nat):Int)))&&(decide (((a+1:Nat):Int)<(s.length:Int)))) (some (((s.getD (Int.toNat ((a+1:Nat):Int)) 0).toNat:Int)==k))) (some false):O Bool).bind fun x3=>cond x3 A B):=by
   intro k A B hA hB;rw [bR om om,aK,aD];by_cases h:a+1<s.length
   ·rw [bR om om,aK,aD]
    exact aA.cb (fun _=>hA h) fun _=>hB
   ·rw [dF (p:=(((a+1:Nat):Int)<(s.length:Int))) om,cI' ,aS]
    exact hB
  refine two 37 (fun h=>ok _ _ 2 om om) (aA.rq (jN om om) (aA.cb (fun _=>ok _ _ 1 om om) fun _=>two 35 (fun h=>ok _ _ 2 om om) (aA.rq (jN om om) (aA.cb (fun _=>ok _ _ 1 om om) fun _=>z))))
theorem akv(F:Nat)(p:Int):∃q,(q=1\/q=3\/q=6)/\zl F p=some q:=by
 unfold zl;simp only [aK,aD];refine⟨_,?_,rfl⟩;generalize (cond (p==0) (p==0) (p==1))=b1;cases b1
 ·cases (p==2)
  ·cases (p==3)
   ·exact .inr (.inr rfl)
   ·exact .inr (.inl rfl)
  ·exact .inr (.inl rfl)
 ·exact .inl rfl
theorem akw(F:Nat)(p:Int):∃q,zm F p=some q:=by
 unfold zm;simp only [aK,aD];exact⟨_,rfl⟩
theorem anV(F:Nat)(l:J TPart)(t:Bs)(hl:eN l<=1000000)(ht:t.length<=1000000):aA (fun r=>eN r<=eN l+1+t.length) (Ej F l t):=by
 have h1:=Fl l;unfold Ej;by_cases h:0<l.length
 ·rw [cO om,wY om h,bR om om,aD]
  refine aA.cb (fun _=>?_) fun _=>aA.rq (nJ (by show l.length+1<=_;omega) de) (aA.ok (by rw [yO];simp only [eN,wT];omega));have e1:sl l 0 ((l.length-1:Nat):Int)=l.take (l.length-1):=by simp [sl]
  have hw:=RX (l:=l) (k:=l.length-1) om;have hp:=Jk (l.getD (l.length-1) jY);have h2:eN (l.take (l.length-1))+eN (l.drop (l.length-1))=eN l:=FK l _;have h3:wP (l.getD (l.length-1) jY)<=eN l:=Uq om;have h4:(l.take (l.length-1+1))=l:=Iw om;rw [h4] at hw;simp only [e1,bQ];have hL:(([]:J TPart)++l.take (l.length-1)).length=l.length-1:=by simp
  have hL':(([]:J TPart).length+(l.take (l.length-1)).length)=l.length-1:=by simp
  refine aA.rq (jN om om) (aA.rq (nJ (by rw [hL'];omega) de) (aA.rq (jN om om) ?_));refine aA.rq (dQ om) (aA.rq (nJ (by rw [hL];show l.length-1+1<=_;omega) de) (aA.ok ?_));rw [yO,pX];simp only [eN,wT,uI];omega
 ·rw [cf om,aD,aS]
  exact aA.rq (nJ (by show l.length+1<=_;omega) de) (aA.ok (by rw [yO];simp only [eN,wT];omega))
def PL(p:Int):Prop:=p=1\/p=2\/p=3\/p=6
def RP(s:Bs)(a:Nat)(p:Int)(r:dY):Prop:=r.fE=0->∃e:Nat,r.ML=(e:Int)/\a<=e/\e<=s.length/\eN r.fParts<=2*(e-a)/\(PL p->e<s.length)/\(p=4->e+1<s.length)
theorem RP.err{s:Bs}{a:Nat}{p:Int}{l:J TPart}{x e:Int}(h:e≠0):RP s a p ⟨l,x,e⟩:=fun h'=>absurd h' h
def Q1(F:Nat)(s:Bs)(n:Nat):Prop:=∀(a:Nat)(p lv fr:Int),a<=s.length->6*(s.length-a)+6<=n->aA (RP s a p) ((cU F n).1 s (a:Int) p lv fr)
def Q2(F:Nat)(s:Bs)(n:Nat):Prop:=∀(a:Nat)(p lv:Int),a<s.length->6*(s.length-a)+5<=n->aA (RQ s a) ((cU F n).2.1 s (a:Int) p lv)
def Q3(F:Nat)(s:Bs)(n:Nat):Prop:=∀(a:Nat)(p lv:Int),a<s.length->s.getD a 0=36->6*(s.length-a)+4<=n->aA (RQ s a) ((cU F n).2.2.1 s (a:Int) p lv)
def Q4(F:Nat)(s:Bs)(n:Nat):Prop:=∀(a:Nat)(p lv:Int),a+1<s.length->s.getD a 0=36->6*(s.length-a)+3<=n->aA (RQ s a) ((cU F n).2.2.2.1 s (a:Int) p lv)
def Q5(F:Nat)(s:Bs)(n:Nat):Prop:=∀(a:Nat)(p lv:Int),a+1<s.length->6*(s.length-a)+2<=n->aA (RQ s a) ((cU F n).2.2.2.2.1 s (a:Int) p lv)
def Q6(F:Nat)(s:Bs)(n:Nat):Prop:=∀(a:Nat)(lv:Int),a<s.length->6*(s.length-a)+2<=n->aA (RQ s a) ((cU F n).2.2.2.2.2 s (a:Int) lv)
section
variable {F : Nat} {s : Bs} {n : Nat}
theorem sS{a:Nat}{x e:Int}(h:e≠0):aA (RQ s a) ((dL F x e).bind fun y=>some y):=aA.ok (RQ.err h)
theorem IA{a e:Nat}{p:TPart}(h1:a+1<=e)(h2:e<=s.length)(h3:wP p<=2*(e-a)):aA (RQ s a) ((gF F p (e:Int)).bind fun y=>some y):=by
 rw [adB];exact aA.ok (RQ.one h1 h2 h3)
theorem adD(hF:4*s.length+2000<F)(hl:s.length<=100000)(h2:Q2 F s n):Q1 F s (n+1):=by
 intro a p lv fr ha hn;show aA _ (Dm F (cU F n) s (a:Int) p lv fr);unfold Dm;refine aA.lp (fun z:Int×J TPart×Int=>∃m:Nat,z.1=(m:Int)/\a<=m/\m<=s.length/\eN z.2.1<=2*(m-a)) (fun z=>s.length-z.1.toNat) ⟨a,rfl,om,ha,by simp [eN]⟩ (by show s.length-Int.toNat (a:Int)<F;omega) ?_;rintro⟨_,l,op⟩ ⟨m,rfl,g1,g2,g3⟩ rc hrc;dsimp only at g3 hrc⊢;have hlen:=Fl l;refine aA.cd (fun h=>?_) fun h=>?_
 ·have h:m<s.length:=om
  obtain⟨b,hb⟩:=anT F s m p op h;rw [hb,aD,bh om,aK,aD];refine aA.cb (fun _=>?_) fun _=>?_
  ·refine aA.cb (fun _=>aA.ok (RP.err de)) fun h4=>?_
   have hp4:p=4->m+1<s.length:=fun e=>by
    subst e;have h4:(((m+1:Nat):Int)==(s.length:Int))=false:=h4;have:m+1≠s.length:=fun e=>by rw [e] at h4;simp at h4
    omega
   refine aA.bd (P:=fun _=>True) ?_ fun b _=>aA.cb (fun _=>aA.ok (RP.err de)) fun _=>aA.ok fun _=>⟨m,rfl,g1,g2,g3,fun _=>h,hp4⟩
   cases e4:(p==4) with
   | false=>exact aA.ok trivial
   | true=>have:=hp4 (by simpa using e4);exact aA.rq (jN om om) (aA.ok trivial)
  ·obtain⟨tb,htb⟩:=al3 F s m p om om h
   rw [htb];simp only [aD,aK];refine aA.cb (fun _=>aA.rq (nJ (by show l.length+1<=_;omega) de) (hrc _ ⟨m+1,rfl,om,om,?_⟩ ?_)) fun _=>?_
   ·show eN (l++[TPart.mk 7 [] 0 false []])<=_
    rw [yO];simp only [eN,wT,Ka];omega
   ·show s.length-Int.toNat ((m+1:Nat):Int)<s.length-Int.toNat (m:Int);omega
   rw [bR om om,bR om om];simp only [aD,aK];refine aA.bd (h2 m p lv h om) fun r q=>Hs (fun h=>aA.ok fun e=>absurd e h) fun h0=>?_;obtain⟨e,e1,e2,e3,e4,e5⟩:=q h0;refine aA.lp (fun z:J TPart×Int=>∃k:Nat,z.2=(k:Int)/\k<=r.fParts.length/\eN z.1<=eN l+eN (r.fParts.take k)) (fun z=>r.fParts.length-z.2.toNat) ⟨0,rfl,om,si⟩ (by show r.fParts.length-0<F;omega) ?_;rintro⟨l',_⟩ ⟨k,rfl,k1,k2⟩ rc' Bo;dsimp only at k2 Bo⊢;have hwt:=FK r.fParts k;have hlen':=Fl l';refine aA.cd (fun h=>?_) fun h=>?_
   ·have hk:k<r.fParts.length:=om
    have hwk:=RX hk;have hp:=Jk (r.fParts.getD k jY);have hm:=Uq hk;rw [bR om om,bh om,bR om om,bR om om];simp only [bQ];refine aA.cb (fun _=>aA.bd (anV F l' _ om om) fun u hu=>Bo _ ⟨k+1,rfl,hk,by dsimp only;omega⟩ ?_) fun _=>aA.rq (nJ (by show l'.length+1<=_;omega) de) (Bo _ ⟨k+1,rfl,hk,?_⟩ ?_)
    ·show r.fParts.length-Int.toNat ((k+1:Nat):Int)<r.fParts.length-Int.toNat (k:Int);omega
    ·show eN (l'++[r.fParts.getD k jY])<=_
     rw [yO];simp only [eN];omega
    ·show r.fParts.length-Int.toNat ((k+1:Nat):Int)<r.fParts.length-Int.toNat (k:Int);omega
   ·rw [e1]
    exact hrc _ ⟨e,rfl,om,e3,by dsimp only;omega⟩ (by show s.length-Int.toNat (e:Int)<s.length-Int.toNat (m:Int);omega)
 ·rw [aK,aD]
  refine aA.cb (fun hp=>aA.ok fun _=>⟨m,rfl,g1,g2,g3,fun h=>?_,fun h=>?_⟩) fun _=>aA.ok (RP.err de)
  ·exfalso;rcases h with rfl|rfl|rfl|rfl<;>exact absurd hp de
  ·subst h;exact absurd hp de
theorem afG(hF:4*s.length+2000<F)(hl:s.length<=100000)(h3:Q3 F s n)(h6:Q6 F s n):Q2 F s (n+1):=by
 intro a p lv ha hn;show aA _ (FL F (cU F n) s (a:Int) p lv);unfold FL;rw [bR om om];refine aA.cb (fun _=>(aku F s a p om ha).so) fun _=>aA.cb (fun h=>(al4 F s a om hl ha ?_).so) fun _=>aA.cb (fun h=>(h3 a p lv ha ?_ om).so) fun _=>?_
 ·rw [bQ,qT _ 96 de] at h;simpa using h
 ·rw [bQ,qT _ 36 de] at h;simpa using h
 obtain⟨ob,Lw⟩:=al1 F ((s.getD (Int.toNat (a:Int)) 0).toNat:Int);rw [adC,afE,Lw];simp only [aD,aK];refine aA.cb (fun _=>(h6 a lv ha om).so) fun _=>aA.cb (fun _=>sS de) fun _=>aA.cb (fun _=>sS de) fun _=>?_;rw [bh om];have hs:=sQ s a (a+1);exact aA.rq (Jl om om om) (IA om om (by rw [wT];omega))
theorem aa4(hF:4*s.length+2000<F)(hl:s.length<=100000)(h4:Q4 F s n):Q3 F s (n+1):=by
 intro a p lv ha Yo hn;show aA _ (Bp F (cU F n) s (a:Int) p lv);unfold Bp;refine aA.bd (al0 F s a om om ha) fun b hb=>aA.cb (fun h=>(h4 a p lv (hb.1 h).1 Yo om).so) fun _=>?_;rw [adC,aD,bh om];refine aA.bd (P:=fun _=>True) ?_ fun _ _=>aA.cb (fun _=>sS de) fun _=>IA om om (by show 1+1<=_;omega);refine aA.cb (fun _=>?_) fun _=>aA.ok trivial;have hj:=(Ur F s (a+1) om om).tr;exact aA.cd (fun h=>aA.rq (jN om om) (aA.cb (fun _=>aA.ok trivial) fun _=>hj.so)) fun _=>hj.so
theorem adE(hF:4*s.length+2000<F)(hl:s.length<=100000)(h1:Q1 F s n)(h5:Q5 F s n):Q4 F s (n+1):=by
 intro a p lv ha Yo hn;show aA _ (wZ F (cU F n) s (a:Int) p lv);unfold wZ;rw [bh om,bR om om,bG (x:=(a:Int)+2) om,show (a:Int)+2=((a+2:Nat):Int) from rfl];refine aA.cb (fun _=>(h5 a p lv ha om).so) fun _=>?_;rw [aK,aD];refine aA.bd (P:=fun b=>b=true->a+2<s.length) ?_ fun b hb=>aA.cb (fun h=>?_) fun _=>?_
 ·refine aA.cb (fun h=>?_) fun _=>aA.ok fun h=>nomatch h
  rw [cF,cx] at h;have:=wR h.2;exact aA.rq (jN om om) (aA.ok fun _=>om)
 ·have h2:=hb h
  refine aA.cd (fun _=>sS de) fun _=>?_;rw [bG (x:=(a:Int)+3) om,show (a:Int)+3=((a+3:Nat):Int) from rfl];refine aA.bd (h1 (a+3) 4 _ _ om om) fun r q=>Hs (fun h=>aA.ok fun e=>absurd e h) fun h0=>?_;obtain⟨e,e1,e2,e3,e4,-,e6⟩:=q h0;have:=e6 rfl;rw [e1,bG om,show (e:Int)+2=((e+2:Nat):Int) from rfl];exact IA om om (by rw [wN];simp only [Ka];omega)
 ·refine aA.cb (fun h40=>?_) fun _=>?_
  ·have h40:s.getD (a+1) 0=40:=by rw [bQ,qT _ 40 de] at h40;simpa using h40
   obtain⟨q,hq⟩:=akw F p;rw [hq,aD];refine aA.bd (Ki F s a q om om om) fun r hr=>Hs (fun h=>aA.ok (RQ.err h)) fun h0=>?_;obtain⟨e,e1,e2,e3⟩:=hr.2.2.2 Yo h40 h0;rw [e1,wY om om];have hs:=sQ s (a+2) (e-1);exact aA.rq (Jl om om om) (IA om om (by rw [wT];omega))
  ·obtain⟨b,hb⟩:=Kh F ((s.getD (Int.toNat ((a+1:Nat):Int)) 0).toNat:Int) om
   rw [hb,aD];have hs:=sQ s (a+1) (a+2);refine aA.cb (fun _=>aA.rq (Jl om om om) (IA om om (by rw [wT];omega))) fun _=>?_;refine aA.bd (ady F s (a+1) om om om) fun r ⟨e,e1,e2,e3⟩=>?_;rw [e1];have hs:=sQ s (a+1) e;exact aA.cd (fun _=>sS de) fun _=>aA.rq (Jl om om om) (IA om om (by rw [wT];omega))
theorem aa5(hF:4*s.length+2000<F)(hl:s.length<=100000)(h1:Q1 F s n):Q6 F s (n+1):=by
 intro a lv ha hn;show aA _ (Bq F (cU F n) s (a:Int) lv);unfold Bq;rw [bR om om,bh om];refine aA.cb (fun h39=>?_) fun _=>aA.cd (fun _=>sS de) fun _=>?_
 ·have h39:s.getD a 0=39:=by rw [bQ,qT _ 39 de] at h39;simpa using h39
  refine aA.bd (Ki F s a 0 om om ha) fun r hr=>Hs (fun h=>aA.ok (RQ.err h)) fun h0=>?_;obtain⟨e,e1,e2,e3⟩:=hr.2.1 h39 rfl h0;rw [e1,wY om om];have hs:=sQ s (a+1) (e-1);exact aA.rq (Jl om om om) (IA om om (by rw [wT];omega))
 ·refine aA.bd (h1 (a+1) 2 _ _ om om) fun r q=>Hs (fun h=>aA.ok fun e=>absurd e h) fun h0=>?_
  obtain⟨e,e1,e2,e3,e4,e5,-⟩:=q h0;have:=e5 (.inr (.inl rfl));rw [e1,bh om];exact IA om om (by rw [wN];simp only [Ka];omega)
theorem aa6(hF:4*s.length+2000<F)(hl:s.length<=100000)(h1:Q1 F s n):Q5 F s (n+1):=by
 intro a p lv ha hn;show aA _ (Br F (cU F n) s (a:Int) p lv);unfold Br;rw [bG (x:=(a:Int)+2) om,show (a:Int)+2=((a+2:Nat):Int) from rfl,bh om];refine aA.jj (P:=fun x=>∀r,x=.inr r->RQ s a r) ?_ (fun _ _=>?_) fun r h=>h r rfl
 ·have ok:aA (fun x:Unit ⊕ dY=>∀r,x=.inr r->RQ s a r) (some (.inl ())):=aA.ok fun r h=>nomatch h
  have er:∀ {x e:Int},e≠0->aA (fun x:Unit ⊕ dY=>∀r,x=.inr r->RQ s a r) ((dL F x e).bind fun y=>some (.inr y)):=fun h=>aA.ok fun r e=>by cases e;exact RQ.err h
  refine aA.bd (P:=fun b=>b=true->a+2<s.length) (aA.cd (fun h=>aA.rq (jN om om) (aA.ok fun _=>om)) fun _=>aA.ok fun h=>nomatch h) fun b hb=>aA.cb (fun h=>?_) fun _=>ok;have h2:=hb h;refine aA.bd (Yn F s (a+3) om om om) fun r ⟨e,e1,e2,e3⟩=>?_;rw [e1];refine aA.cd (fun _=>er de) fun _=>?_;have e0:(((a+2:Nat):Int)+1)=((a+2+1:Nat):Int):=rfl;refine aA.bd (P:=fun b=>b=true->a+3<e/\e<s.length) ?_ fun b hb=>?_
  ·refine aA.cd (fun h=>?_) fun _=>aA.ok fun h=>nomatch h
   exact aA.ok fun h'=>⟨om,by have:=wR h';omega⟩
  refine aA.bd (P:=fun b=>b=true->a+3<e/\e<s.length) (aA.cb (fun h=>aA.rq (jN om (by have:=hb h;omega)) (aA.ok fun _=>hb h)) fun _=>aA.ok fun h=>nomatch h) fun b hb=>aA.cb (fun h=>?_) fun _=>?_
  ·have:=hb h
   have hs:=sQ s (a+2+1) e;rw [bh om,adB];exact aA.rq (Jl om om om) (aA.ok fun r h=>by cases h;exact RQ.one om om (by rw [wT];omega))
  ·refine aA.bd (P:=fun _=>True) (aA.cd (fun _=>aA.ok trivial) fun _=>aA.ok trivial) fun _ _=>aA.cb (fun _=>er de) fun _=>ok
 refine aA.bd (Yn F s (a+2) om om om) fun r ⟨e,e1,e2,e3⟩=>?_;rw [e1];refine aA.cd (fun _=>sS de) fun _=>?_;rw [aK,aD];refine aA.cb (fun _=>sS de) fun hx=>?_
 have he:e<s.length:=by
  rw [cT,XG] at hx;have hx:((e:Int)==(s.length:Int))=false:=hx.2;have:e≠s.length:=fun e=>by rw [e] at hx;simp at hx
  omega
 have h2:a+2<s.length:=om;refine aA.cb (fun _=>sS de) fun _=>aA.rq (Jl om om om) (aA.rq (jN om om) (aA.cb (fun _=>?_) fun _=>?_))
 ·rw [bh om]
  have hs:=sQ s (a+2) e;exact IA om om (by show wP (.mk 4 (sl s ((a+2:Nat):Int) (e:Int)) 0 false [])<=_;rw [wT];omega)
 refine aA.bd (op8 F s e om he) fun⟨o1,o2,o3⟩ ho=>?_;dsimp only at ho⊢;by_cases RY:o1=0
 ·subst RY
  show aA _ (Option.bind _ _);rw [bR om om,aK,aD];refine aA.cb (fun _=>sS de) fun _=>aA.rq (jN om om) (aA.cb (fun _=>sS de) fun _=>aA.rq (jN om om) (aA.cb (fun _=>?_) fun _=>sS de));exact aA.bd (Yn F s (a+3) om om om) fun r _=>sS de
 ·obtain⟨k,k1,k2,k3⟩:=ho RY
  clear ho;subst k1;rw [show (o1==0)=false from by simpa using RY,aS,bG (x:=(e:Int)+(k:Int)) om,show (e:Int)+(k:Int)=((e+k:Nat):Int) from rfl];refine aA.cd (fun _=>sS de) fun _=>aA.bd (Ur F s (e+k) om om) fun b _=>aA.cb (fun _=>sS de) fun _=>?_;obtain⟨q,hq,Yp⟩:=akv F p;rw [Yp,aD];refine aA.bd (h1 (e+k) q _ _ om om) fun r hr=>Hs (fun h=>aA.ok fun e=>absurd e h) fun h0=>?_;obtain⟨f,f1,f2,f3,f4,f5,-⟩:=hr h0;have:=f5 (by unfold PL;omega);rw [f1,bh om];have hs:=sQ s (a+2) e;exact IA om om (by show wP (.mk 4 (sl s ((a+2:Nat):Int) (e:Int)) o1 o2 r.fParts)<=_;rw [wN];omega)
theorem MM(hF:4*s.length+2000<F)(hl:s.length<=100000):∀n,Q1 F s n/\Q2 F s n/\Q3 F s n/\Q4 F s n/\Q5 F s n/\Q6 F s n
 | 0=>⟨fun _ _ _ _ _ h=>om,fun _ _ _ _ h=>om,fun _ _ _ _ _ h=>om,fun _ _ _ _ _ h=>om,fun _ _ _ _ h=>om,fun _ _ _ h=>om⟩
 | n+1=>by
  obtain⟨h1,h2,h3,h4,h5,h6⟩:=MM hF hl n;exact⟨adD hF hl h2,afG hF hl h3 h6,aa4 hF hl h4,adE hF hl h1 h5,aa6 hF hl h1,aa5 hF hl h1⟩
end
theorem al5(F:Nat)(s:Bs)(hF:8000<F)(hl:s.length<=800):aA (fun r=>eN r.1<=2*s.length) (Ca F s):=by
 unfold Ca;rw [cf om];refine aA.bd ((MM (F:=F) (s:=s) om om F).1 0 0 1 0 om om) fun r q=>Hs (fun h=>aA.ok (by simp [eN])) fun h0=>?_;obtain⟨e,e1,e2,e3,e4,-⟩:=q h0;exact aA.ok (by show eN r.fParts<=_;omega)
theorem Ek(F:Nat)(s:Bs)(hF:40<F):aA (fun b=>b=true->s.length<=32) (eY F s):=by
 unfold eY;by_cases h:s=[]
 ·simp_all [aA.ok]
 have:=y9.2 h;rw [sw om,Jj];simp only [aK,aD];by_cases h2:s.length<=32
 ·refine aA.cb (fun _=>aA.ok fun h=>nomatch h) fun _=>?_
  refine aA.lp (fun i=>∃n:Nat,i=(n:Int)/\n<=s.length) (fun i=>s.length-i.toNat) ⟨0,rfl,om⟩ (by grind) ?_;rintro _ ⟨n,rfl,hn⟩ rc hrc;refine aA.cd (fun h=>?_) fun _=>aA.ok fun _=>h2;rw [bR om om,XX,bh om];exact aA.cb (fun _=>aA.ok fun h=>nomatch h) fun _=>hrc _ ⟨n+1,rfl,om⟩ (by grind)
 grind [dT,aA.ok]
def j9(l:J bD)(n:Bs):bD×Bool:=(l.find? fun v=>v.fName==n).elim (bD.mk [] [] false false false,false) fun v=>(v,true)
theorem xY(F:Nat)(l:J bD)(n:Bs)(hF:l.length<F)(hl:l.length<=1000):qi F l n=some (j9 l n):=by
 unfold qi;rw [qj l (fun i=>(i:Int)) (fun v=>v.fName==n) (fun i v=>some (v,true)) (some (bD.mk [] [] false false false,false)) (s:=(0:Int)) hF rfl (fun i h rc=>?_) (fun rc=>?_)]
 ·rw [MN];unfold j9;cases l.find? _<;>rfl
 ·rw [cO om,bR om om,bR om om,bQ,gd h,bh om]
 ·rw [cf om]
def GV(l:J bD):Prop:=l.length<=128/\∀v∈l,v.fName.length<=60/\v.bK.length<=4096
theorem OP{l:J bD}(h:GV l)(n:Bs):(j9 l n).1.fName.length<=60/\(j9 l n).1.bK.length<=4096:=by
 unfold j9
 cases e:l.find? fun v=>v.fName==n with
 | none=>simp_all
 | some v=>exact h.2 v (XM e)
def mz(v:bD):J bD->Bool->J bD
 | [],d=>cond d [] [v]
 | x::l,d=>cond (!d && !(Op.bytesLess x.fName v.fName)) [v] []++(cond (x.fName==v.fName) [] [x]++mz v l (d || !(Op.bytesLess x.fName v.fName)))
theorem Yq(v:bD):∀(l:J bD)(d:Bool),(mz v l d).length=(cond d 0 1)+(l.filter fun x=>!(x.fName==v.fName)).length
 | [],d=>by cases d<;>rfl
 | x::l,d=>by
  simp only [mz,uI,Yq v l,List.filter_cons];cases d<;>cases (x.fName==v.fName)<;>cases (Op.bytesLess x.fName v.fName)<;>simp<;>omega
theorem QC(v:bD):∀(l:J bD)(d:Bool),∀x∈mz v l d,x=v\/x∈l
 | [],d,x,h=>by cases d<;>simp [mz] at h;exact .inl h
 | y::l,d,x,h=>by
  simp [mz] at h;rcases h with h|h|h
  ·revert h;cases (!d && !(Op.bytesLess y.fName v.fName))<;>simp
   exact fun h=>.inl h
  ·revert h;cases (y.fName==v.fName)<;>simp
   exact fun h=>.inr (.inl h)
  ·rcases QC v l _ x h with h|h
   ·exact .inl h
   ·exact .inr (pW _ h)
theorem OQ(F:Nat)(l:J bD)(v:bD)(hF:l.length<F)(hl:l.length<=1000):yP F l v=some (mz v l false):=by
 have:aA (fun r=>r=mz v l false) (yP F l v):=by
  unfold yP;refine aA.lp (fun z:J bD×Bool×Int=>∃k:Nat,z.2.2=(k:Int)/\k<=l.length/\z.1.length<=2*k/\z.1++mz v (l.drop k) z.2.1=mz v l false) (fun z=>l.length-z.2.2.toNat) ⟨0,rfl,om,si,si⟩ (by simp_all) ?_;rintro⟨o,d,_⟩ ⟨k,rfl,h1,h2,h3⟩ rc hrc;dsimp only at h2 h3 hrc⊢;refine aA.cd (fun h=>?_) fun h=>?_
  ·have hk:k<l.length:=om
   rw [MB hk] at h3;simp only [mz] at h3;rw [bR om om,bh om,bQ,gd hk];simp only [aK,aD,cF]
   have go:∀(o':J bD)(d':Bool),o'.length<=2*k+1->o'++(cond (l[k].fName==v.fName) [] [l[k]]++mz v (l.drop (k+1)) d')=mz v l false ->
     aA (fun r=>r=mz v l false) (cond (!(l[k].fName==v.fName)) (rq ((decide (0<=(k:Int)))&&(decide ((k:Int)<(l.length:Int)))) (rq ((decide (o'.length+([l[k]]:J bD).length<=9223372036854775807))&&(decide ((o'.length+([l[k]]:J bD).length)*40<=140737488355328))) (rc (o'++([l[k]]:J bD),d',((k+1:Nat):Int))))) (rc (o',d',((k+1:Nat):Int)))):=by
    intro o' d' ho he;have hm:l.length-Int.toNat ((k+1:Nat):Int)<l.length-Int.toNat (k:Int):=by grind
    cases e:(l[k].fName==v.fName) with
    | true=>
     grind
    | false=>
     grind [aA.rq,jN,nJ]
   cases e:(!d && !(Op.bytesLess l[k].fName v.fName)) with
   | true=>
    rw [e] at h3;rw [cx] at e;have hd:d=false:=by simpa using e.1
    subst hd;rw [cond_true,cD (nJ (by grind) de),Option.bind_some];rw [e.2,Bool.or_true] at h3
    grind [aA.rq,jN]
   | false=>
    rw [e] at h3
    have hd:(d || !(Op.bytesLess l[k].fName v.fName))=d:=by
     cases d
     ·simpa using e
     ·rfl
    grind [aA.rq,jN]
  ·obtain rfl:k=l.length:=om
   rw [Qu] at h3;simp only [mz] at h3
   grind [aA.ok,aA.rq,nJ]
 obtain⟨r,h,e⟩:=this;rw [e,h]
theorem acf{l:J bD}(h:GV l){v:bD}(hn:v.fName.length<=60/\v.bK.length<=4096)(hc:(j9 l v.fName).2=true\/l.length<128):GV (mz v l false):=by
 refine⟨?_,fun x hx=>?_⟩
 ·rw [Yq]
  show 1+_<=_;have h1:(l.filter fun x=>!(x.fName==v.fName)).length<=l.length:=List.length_filter_le _ _;rcases hc with hc|hc
  ·unfold j9 at hc
   cases e:l.find? fun x=>x.fName==v.fName with
   | none=>simp_all
   | some y=>
    have:(l.filter fun x=>!(x.fName==v.fName)).length<l.length:=by
     grind [Nat.lt_or_ge,List.length_filter_eq_length_iff,Nat.le_antisymm]
    have:=h.1;omega
  ·omega
 ·rcases QC v l false x hx with rfl|hx
  ·exact hn
  ·exact h.2 x hx
theorem anW(F:Nat){l:J bD}(h:GV l)(n v:Bs)(hF:1000<F):aA (fun r=>GV r.1) (sx F l n v):=by
 have hl:=h.1;unfold sx;rw [xY F l n om om,aD];refine aA.bd (Ek F n om) fun b hb=>aA.cb (fun _=>aA.ok h) fun hb'=>aA.cb (fun _=>aA.ok h) fun _=>aA.cd (fun _=>aA.ok h) fun hv=>?_
 grind [OQ,aA.ok,acf,of_decide_eq_false]
theorem al6(F:Nat){l:J bD}(h:GV l)(n:Bs)(a b:Bool)(hF:1000<F):aA (fun r=>GV r.1) (qm F l n a b):=by
 have hl:=h.1;refine aA.bd (Ek F n om) fun b hb=>aA.cb (fun _=>aA.ok h) fun hb'=>?_;rw [xY F l n om om,aD,aK,aD];rw [aK,aD,aK,aD,OQ F l _ om om]
 grind [aA.ok,acf,OP,of_decide_eq_false]
theorem afH(F:Nat)(l:J Bs)(g:Bs)(hF:l.length<F)(h1:l.length<=100)(h2:∀x∈l,x.length<=60)(hg:g.length<=1):aA (fun r=>r.length<=61*l.length) (sU F l g):=by
 refine aA.lp (fun z=>∃k:Nat,z.2=(k:Int)/\k<=l.length/\z.1.length<=61*k) (fun z=>l.length-z.2.toNat) ⟨0,rfl,om,si⟩ (by simp_all) ?_;rintro⟨o,_⟩ ⟨k,rfl,h3,h4⟩ rc hrc;dsimp only at h4 hrc⊢;refine aA.cd (fun h=>?_) fun _=>aA.ok (by grind);have hk:k<l.length:=om;refine aA.bd (P:=fun u=>u.length<=o.length+1) (aA.cd (fun _=>aA.rq (dQ om) (aA.ok (by simp_all))) fun _=>aA.ok om) fun u hu=>?_;have hx:=h2 _ (kz hk);rw [bR om om,bQ,gd hk,bh om];exact aA.rq (decide_eq_true om) (hrc _ ⟨k+1,rfl,hk,by grind⟩ (by grind))
theorem afI(F:Nat){l:J bD}(h:GV l)(hF:1000<F):aA (fun r=>r.length<=1) (sV F l):=by
 have hl:=h.1;unfold sV;rw [xY F l _ om om];refine aA.cb (fun _=>aA.ok de) fun _=>?_
 cases e:((j9 l [73,70,83]).1.bK==[]) with
 | true=>exact aA.ok (fX _)
 | false=>
  have:(j9 l [73,70,83]).1.bK≠[]:=by simpa using e
  have:=y9.2 this;exact aA.rq (dQ om) (aA.ok (sQ _ 0 1))
theorem akx(F:Nat)(o:Int)(hF:20<F):aA (fun r=>r.length<=8) (xl F o):=by
 refine aA.lp (fun z=>∃k:Nat,z.2=(k:Int)/\k<=8/\z.1.length<=k) (fun z=>8-z.2.toNat) ⟨0,rfl,om,si⟩ (by show 8-0<F;omega) ?_;rintro⟨u,_⟩ ⟨k,rfl,h3,h4⟩ rc hrc;dsimp only at h4 hrc⊢;have L1:([32,128,1,8,64,16,2,4]:J Int).length=8:=rfl;have L2:([97,67,101,102,109,110,117,120]:Bs).length=8:=rfl;refine aA.cd (fun h=>?_) fun _=>aA.ok (by grind);rw [bR om om,bh om];have hs:=sQ [97,67,101,102,109,110,117,120] k (k+1);have hm:8-Int.toNat ((k+1:Nat):Int)<8-Int.toNat (k:Int):=om;exact aA.cb (fun _=>aA.rq (Jl om om om) (aA.rq (decide_eq_true om) (hrc _ ⟨k+1,rfl,om,by grind⟩ hm))) fun _=>hrc _ ⟨k+1,rfl,om,by dsimp only;omega⟩ hm
end Go.Proofs.YthmndfnkdgmenaaGreatDoor
