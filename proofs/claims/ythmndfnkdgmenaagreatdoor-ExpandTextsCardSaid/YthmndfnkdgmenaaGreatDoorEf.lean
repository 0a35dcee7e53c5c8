import Derived.Test.YthmndfnkdgmenaaGreatDoorZ2
import Derived.Test.YthmndfnkdgmenaaGreatDoorSo
import Derived.Test.YthmndfnkdgmenaaGreatDoorPe
set_option linter.all false
namespace Go.Proofs.YthmndfnkdgmenaaGreatDoor
open Go.RT
set_option maxRecDepth 100000
theorem Jj(F:Nat)(c:Int):kA F c=some (decide (48<=c)&&decide (c<=57)):=by
 unfold kA;rw [aK,cF];rfl
theorem akv(F:Nat)(c:Int):rz F c=some ((decide (97<=c)&&decide (c<=122))||(decide (65<=c)&&decide (c<=90))):=by
 unfold rz;simp only [aK,cF,cT,aC]
def anV(c:Int):Bool:=((decide (97<=c)&&decide (c<=122))||(decide (65<=c)&&decide (c<=90)))||(decide (48<=c)&&decide (c<=57))||c==95
theorem X4(F:Nat)(c:Int):oe F c=some (anV c):=by
 unfold oe;rw [akv];simp only [Jj,aK,cF,cT,aC];rfl
theorem ape(F:Nat)(l:Bs)(c:Int)(hF:l.length<F)(hl:l.length<=200000):∃b,yP F l c=some b:=by
 unfold yP
 have:aA (fun _:Bool=>True) (yP F l c):=by
  unfold yP;refine aA.lp (fun i:Int=>∃n:Nat,i=(n:Int)/\n<=l.length) (fun i=>l.length-i.toNat) ⟨0,rfl,om⟩ (by show l.length-0<F;omega) ?_;rintro _ ⟨n,rfl,hn⟩ rc hrc;refine aA.cd (fun h=>?_) fun _=>aA.ok trivial;refine aA.rq (jO om om) (aA.cb (fun _=>aA.ok trivial) fun _=>?_);rw [bh om];exact hrc _ ⟨n+1,rfl,om⟩ (by rw [bK,bK];omega)
 obtain⟨b,-,h⟩:=this;exact⟨b,h⟩
theorem Kh(F:Nat)(c:Int)(hF:10<F):∃b,lT F c=some b:=by
 obtain⟨b,hb⟩:=ape F [64,42,35,63,45,36,33] c (by show 7<F;omega) de;unfold lT;rw [Jj,aC,hb,aC,aK];exact⟨_,rfl⟩
def EX(s:Bs)(a:Nat)(b:Bool):Prop:=(b=true->a+1<s.length/\s.getD a 0=36)/\(s.getD a 0=36->s.getD (a+1) 0=40->b=true)
theorem apf{s:Bs}{a:Nat}(h:s.getD a 0=40):a<s.length:=by
 by_cases e:a<s.length
 ·exact e
 ·rw [XC,Qt om] at h;exact absurd h de
theorem al3(F:Nat)(s:Bs)(a:Nat)(hF:10<F)(hl:s.length<=200000)(ha:a<s.length):aA (EX s a) (qi F s (a:Int)):=by
 unfold qi;rw [bh om];by_cases h:a+1<s.length
 ·rw [cf om,bR om om,aC,bK,Yr _ 36 de]
  refine aA.cb (fun h0=>aA.ok ⟨fun h=>(nomatch h),fun h'=>?_⟩) fun h0=>?_
  ·have h0:(!(s.getD a 0==(36:UInt8)))=true:=h0
   rw [h'] at h0;exact absurd h0 de
  have h0:(!(s.getD a 0==(36:UInt8)))=false:=h0;have h0:s.getD a 0=36:=by simpa using h0
  rw [bR om om,X4];obtain⟨b,hb⟩:=Kh F ((s.getD (Int.toNat ((a+1:Nat):Int)) 0).toNat:Int) hF;rw [hb];simp only [aK,aC,cT];refine aA.ok ⟨fun _=>⟨h,h0⟩,fun _ h4=>?_⟩;rw [bK,h4];exact XH _
 ·rw [cO om,aC]
  exact aA.ok ⟨fun h=>(nomatch h),fun _ h4=>absurd (apf h4) h⟩
theorem adB(F:Nat)(s:Bs)(a:Nat)(hF:s.length<F)(hl:s.length<=200000)(ha:a<=s.length):aA (fun r=>∃e:Nat,r=(e:Int)/\a<=e/\e<=s.length) (sQ F s (a:Int)):=by
 unfold sQ;refine aA.lp (fun i:Int=>∃n:Nat,i=(n:Int)/\a<=n/\n<=s.length) (fun i=>s.length-i.toNat) ⟨a,rfl,om,ha⟩ (by rw [bK];omega) ?_;rintro _ ⟨n,rfl,h1,h2⟩ rc hrc;by_cases h:n<s.length
 ·rw [cO om,bR om om,X4,aC,aC]
  refine aA.cb (fun _=>?_) fun _=>aA.ok ⟨n,rfl,h1,h2⟩;rw [bh om];exact hrc _ ⟨n+1,rfl,om,om⟩ (by rw [bK,bK];omega)
 ·rw [cf om,aC]
  exact aA.ok ⟨n,rfl,h1,h2⟩
theorem ahM(F:Nat)(s:Bs)(a:Nat)(hF:s.length<F)(hl:s.length<=200000)(ha:a<=s.length):aA (fun r=>∃e:Nat,r=(e:Int)/\a<=e/\e<=s.length/\(s.getD a 0≠10->a<s.length->a<e)) (xY F s (a:Int)):=by
 unfold xY;refine aA.lp (fun i:Int=>∃n:Nat,i=(n:Int)/\a<=n/\n<=s.length) (fun i=>s.length-i.toNat) ⟨a,rfl,om,ha⟩ (by rw [bK];omega) ?_;rintro _ ⟨n,rfl,h1,h2⟩ rc hrc;by_cases h:n<s.length
 ·rw [cO om,bR om om,aC]
  refine aA.cb (fun _=>?_) fun h0=>aA.ok ⟨n,rfl,h1,h2,fun h3 _=>?_⟩
  ·rw [bh om]
   exact hrc _ ⟨n+1,rfl,om,om⟩ (by rw [bK,bK];omega)
  ·by_cases e:a=n
   ·subst e
    rw [bK,Yr _ 10 de] at h0;exact absurd (by simpa using h0) h3
   ·omega
 ·rw [cf om,aC]
  exact aA.ok ⟨n,rfl,h1,h2,fun _ h4=>om⟩
theorem ach(F:Nat)(s:Bs)(a:Nat)(hl:s.length<=200000)(ha:a<=s.length):aA (fun b=>b=true->a+1<s.length) (zj F s (a:Int)):=by
 unfold zj;rw [bh om];by_cases h:a+1<s.length
 ·rw [cO om,bR om om,aC,bR om om,aK]
  exact aA.ok fun _=>h
 ·rw [cf om]
  exact aA.ok fun h=>nomatch h
theorem afH(F:Nat)(c:Int):xl F c=some (c==9||c==32):=by unfold xl;rw [aK,cT];rfl
theorem al4(F:Nat)(c:Int):∃b,uR F c=some b:=by unfold uR;simp only [aK,cT,aC];exact⟨_,rfl⟩
def PQ(s:Bs)(a k:Nat)(r:Int×Int):Prop:=r.2=0->∃e:Nat,r.1=(e:Int)/\a+k<=e/\e<=s.length
theorem PQ.err{s:Bs}{a k:Nat}{x e:Int}(h:e≠0):PQ s a k (x,e):=fun h'=>absurd h' h
theorem PQ.le{s:Bs}{a k j:Nat}{r:Int×Int}(h:PQ s a k r)(hj:j<=k):PQ s a j r:=fun e=>by
 obtain⟨e,h1,h2,h3⟩:=h e;exact⟨e,h1,om,h3⟩
theorem aA.pair{A B:Type}{x:O (A×B)}{Q:A×B->Prop}(h:aA Q x):aA Q (x.bind fun y=>some (y.1,y.2)):=by
 obtain⟨r,h,rfl⟩:=h;exact⟨_,h,rfl⟩
theorem akw(F:Nat)(s:Bs)(a:Nat)(hF:s.length<F)(hl:s.length<=200000)(ha:a<s.length):aA (PQ s a 2) (zk F s (a:Int)):=by
 unfold zk;rw [bh om];refine aA.lp (fun i:Int=>∃n:Nat,i=(n:Int)/\a+1<=n/\n<=s.length) (fun i=>s.length-i.toNat) ⟨a+1,rfl,om,ha⟩ (by rw [bK];omega) ?_;rintro _ ⟨n,rfl,h1,h2⟩ rc hrc;refine aA.cd (fun h=>?_) fun _=>aA.ok (PQ.err de);rw [bR om om,bh om];exact aA.cb (fun _=>aA.ok fun _=>⟨n+1,rfl,om,om⟩) fun _=>hrc _ ⟨n+1,rfl,om,om⟩ (by rw [bK,bK];omega)
theorem al5(F:Nat)(s:Bs)(a:Nat)(hF:s.length+2<F)(hl:s.length<=200000)(ha:a<s.length):aA (PQ s a 2) (sR F s (a:Int)):=by
 unfold sR;rw [bh om];refine aA.lp (fun i:Int=>∃n:Nat,i=(n:Int)/\a+1<=n/\n<=s.length+1) (fun i=>s.length+1-i.toNat) ⟨a+1,rfl,om,om⟩ (by rw [bK];omega) ?_;rintro _ ⟨n,rfl,h1,h2⟩ rc hrc;refine aA.cd (fun h=>?_) fun _=>aA.ok (PQ.err de);rw [bR om om,bh om];refine aA.cb (fun _=>aA.ok fun _=>⟨n+1,rfl,om,om⟩) fun _=>?_;rw [bR om om,aK,aC];refine aA.cb (fun _=>aA.ok (PQ.err de)) fun hb=>?_;rw [bR om om];refine aA.cb (fun h9=>?_) fun _=>hrc _ ⟨n+1,rfl,om,om⟩ (by rw [bK,bK];omega);rw [bh om];exact hrc _ ⟨n+2,rfl,om,om⟩ (by rw [bK,bK];omega)
def P1(F:Nat)(s:Bs)(n:Nat):Prop:=∀(a:Nat)(p:Int),a<s.length->4*(s.length-a)+4<=n->aA (fun r=>PQ s a 1 r/\(s.getD a 0=39->p=0->PQ s a 2 r)/\(s.getD a 0=96->PQ s a 2 r)/\(s.getD a 0=36->s.getD (a+1) 0=40->PQ s a 3 r)) ((cV F n).1 s (a:Int) p)
def P2(F:Nat)(s:Bs)(n:Nat):Prop:=∀(a:Nat)(p:Int),a+1<s.length->4*(s.length-a)+3<=n->aA (fun r=>PQ s a 1 r/\(s.getD (a+1) 0=40->PQ s a 3 r)) ((cV F n).2.1 s (a:Int) p)
def P3(F:Nat)(s:Bs)(n:Nat):Prop:=∀(a:Nat)(p:Int),a+1<s.length->4*(s.length-a)+2<=n->aA (PQ s a 3) ((cV F n).2.2.1 s (a:Int) p)
def P4(F:Nat)(s:Bs)(n:Nat):Prop:=∀(a:Nat),a+2<s.length->4*(s.length-a)+2<=n->aA (PQ s a 3) ((cV F n).2.2.2.1 s (a:Int))
def P5(F:Nat)(s:Bs)(n:Nat):Prop:=∀(a:Nat),a+1<s.length->4*(s.length-a)+2<=n->aA (PQ s a 3) ((cV F n).2.2.2.2.1 s (a:Int))
def P6(F:Nat)(s:Bs)(n:Nat):Prop:=∀(a:Nat),a<s.length->4*(s.length-a)+2<=n->aA (PQ s a 2) ((cV F n).2.2.2.2.2 s (a:Int))
section
variable {F : Nat} {s : Bs} {n : Nat}
theorem afI(hF:s.length+20<F)(hl:s.length<=200000)(h2:P2 F s n)(h6:P6 F s n):P1 F s (n+1):=by
 intro a p ha hn;show aA _ (FK F (cV F n) s (a:Int) p);unfold FK;rw [bR om om,bh om,aK,aC]
 have hb:∀(k:Nat),k<256->∀b:Bool,((((s.getD (Int.toNat (a:Int)) 0).toNat:Int)==(no_index (OfNat.ofNat k:Int)))=b->(s.getD a 0==(OfNat.ofNat k:UInt8))=b):=by
  intro k hk b h;rw [bK,qU _ k hk] at h;exact h
 refine aA.cb (fun _=>aA.ok ⟨PQ.err de,fun _ _=>PQ.err de,fun _=>PQ.err de,fun _ _=>PQ.err de⟩) fun hx=>?_;refine aA.cb (fun h=>?_) fun g1=>?_
 ·have:=hb 92 de _ h
  have e:s.getD a 0=92:=by simpa using this
  rw [h] at hx;have hx':(((a+1:Nat):Int)==(s.length:Int))=false:=hx;have hne:a+1≠s.length:=fun e=>by rw [e] at hx';simp at hx'
  rw [bG om];have q:PQ s a 2 ((a:Int)+2,0):=fun _=>⟨a+2,rfl,om,om⟩;exact aA.ok ⟨q.le om,fun _ _=>q,fun _=>q,fun h=>by rw [e] at h;exact absurd h de⟩
 refine aA.cb (fun h=>?_) fun g2=>?_
 ·have e:s.getD a 0=96:=by simpa using hb 96 de _ h
  exact ((al5 F s a om hl ha).mono fun r q=>⟨q.le om,fun _ _=>q,fun _=>q,fun h=>by rw [e] at h;exact absurd h de⟩).pair
 have n96:s.getD a 0≠96:=fun e=>by have:=hb 96 de _ g2;rw [e] at this;exact absurd this de
 refine aA.bd (al3 F s a om hl ha) fun b hE=>?_;refine aA.cb (fun h=>?_) fun g3=>?_
 ·obtain⟨h1,h3⟩:=hE.1 h
  exact ((h2 a p h1 om).mono fun r q=>⟨q.1,fun h=>by rw [h3] at h;exact absurd h de,fun h=>by rw [h3] at h;exact absurd h de,fun _ h=>q.2 h⟩).pair
 have n40:s.getD a 0=36->s.getD (a+1) 0=40->False:=fun h h'=>by have:=hE.2 h h';rw [g3] at this;cases this
 simp only [aK,aC,cF];refine aA.cb (fun h=>?_) fun g4=>?_
 ·exact ((akw F s a om hl ha).mono fun r q=>⟨q.le om,fun _ _=>q,fun _=>q,fun h h'=>(n40 h h').elim⟩).pair
 refine aA.cb (fun h=>?_) fun g5=>?_
 ·rw [cx] at h
  have e:s.getD a 0=34:=by simpa using hb 34 de _ h.1
  exact ((h6 a ha om).mono fun r q=>⟨q.le om,fun _ _=>q,fun _=>q,fun h h'=>(n40 h h').elim⟩).pair
 refine aA.ok ⟨fun _=>⟨a+1,rfl,om,om⟩,fun h e=>?_,fun h=>(n96 h).elim,fun h h'=>(n40 h h').elim⟩;rw [bK,h,e] at g4;exact absurd g4 de
theorem ahN(hF:s.length+20<F)(hl:s.length<=200000)(h3:P3 F s n)(h4:P4 F s n)(h5:P5 F s n):P2 F s (n+1):=by
 intro a p ha hn;show aA _ (wZ F (cV F n) s (a:Int) p);unfold wZ;rw [bh om,bR om om,bG om,show (a:Int)+2=((a+2:Nat):Int) from rfl];refine aA.cb (fun _=>((h3 a p ha om).mono fun r q=>⟨q.le om,fun _=>q⟩).pair) fun _=>?_;rw [aK,aC,cF]
 have main:aA (fun r=>PQ s a 1 r/\(s.getD (a+1) 0=40->PQ s a 3 r)) (cond (((s.getD (Int.toNat ((a+1:Nat):Int)) 0).toNat:Int)==40)
   (((cV F n).2.2.2.2.1 s (a:Int)).bind fun x5=>some (x5.1,x5.2))
   ((lT F ((s.getD (Int.toNat ((a+1:Nat):Int)) 0).toNat:Int)).bind fun x6=>cond x6 (some (((a+2:Nat):Int),0)) ((sQ F s ((a+1:Nat):Int)).bind fun x7=>some (x7,0)))):=by
  refine aA.cb (fun _=>((h5 a ha om).mono fun r q=>⟨q.le om,fun _=>q⟩).pair) fun g=>?_;have n40:s.getD (a+1) 0=40->False:=fun h=>by rw [bK,h] at g;exact absurd g de
  obtain⟨b,hb⟩:=Kh F ((s.getD (Int.toNat ((a+1:Nat):Int)) 0).toNat:Int) om;rw [hb,aC];refine aA.cb (fun _=>aA.ok ⟨fun _=>⟨a+2,rfl,om,om⟩,fun h=>(n40 h).elim⟩) fun _=>?_;refine aA.bd (adB F s (a+1) om hl om) fun r ⟨e,h1,h2,h3⟩=>aA.ok ⟨fun _=>⟨e,h1,om,h3⟩,fun h=>(n40 h).elim⟩
 by_cases h:a+2<s.length
 ·rw [show decide (((a+2:Nat):Int)<(s.length:Int))=true from dT om,Bool.and_true,Bool.and_true,sx om,aK,aC]
  exact aA.cb (fun _=>((h4 a h om).mono fun r q=>⟨q.le om,fun _=>q⟩).pair) fun _=>main
 ·rw [show decide (((a+2:Nat):Int)<(s.length:Int))=false from dF om,Uk,aS,aC,aS]
  exact main
theorem step1(h1:P1 F s n){i:Nat}{p:Int}(hi:i<s.length)(hn:4*(s.length-i)+4<=n){R:Type}{Q:R->Prop}{k:Int×Int->O R}(hk:∀r,PQ s i 1 r->aA Q (k r)):aA Q (((cV F n).1 s (i:Int) p).bind k):=
 aA.bd (h1 i p hi hn) fun r q=>hk r q.1
theorem Hs{x:Int}{R:Type}{Q:R->Prop}{A B:O R}(a:x≠0->aA Q A)(b:x=0->aA Q B):aA Q (cond (x != 0) A B):=by
 by_cases h:x=0
 ·subst h;exact b rfl
 ·rw [show (x != 0)=true from by simpa using h];exact a h
theorem adC(hF:s.length+20<F)(hl:s.length<=200000)(h1:P1 F s n):P3 F s (n+1):=by
 intro a p ha hn;show aA _ (Bo F (cV F n) s (a:Int) p);unfold Bo;rw [bG om,show (a:Int)+2=((a+2:Nat):Int) from rfl];refine aA.lp (fun i:Int=>∃n:Nat,i=(n:Int)/\a+2<=n/\n<=s.length) (fun i=>s.length-i.toNat) ⟨a+2,rfl,om,ha⟩ (by rw [bK];omega) ?_;rintro _ ⟨i,rfl,g1,g2⟩ rc hrc;refine aA.cd (fun h=>?_) fun _=>aA.ok (PQ.err de);rw [bR om om,bh om];refine aA.cb (fun _=>aA.ok fun _=>⟨i+1,rfl,om,om⟩) fun _=>?_;rw [bR om om,aK,aC];refine aA.cb (fun _=>aA.ok (PQ.err de)) fun _=>step1 h1 om om fun r q=>Hs (fun h=>aA.ok (PQ.err h)) fun h=>?_;obtain⟨e,e1,e2,e3⟩:=q h;rw [e1];exact hrc _ ⟨e,rfl,om,e3⟩ (by rw [bK,bK];omega)
theorem ahO(hF:s.length+20<F)(hl:s.length<=200000)(h1:P1 F s n):P6 F s (n+1):=by
 intro a ha hn;show aA _ (Bp F (cV F n) s (a:Int));unfold Bp;rw [bh om];refine aA.lp (fun i:Int=>∃n:Nat,i=(n:Int)/\a+1<=n/\n<=s.length) (fun i=>s.length-i.toNat) ⟨a+1,rfl,om,ha⟩ (by rw [bK];omega) ?_;rintro _ ⟨i,rfl,g1,g2⟩ rc hrc;refine aA.cd (fun h=>?_) fun _=>aA.ok (PQ.err de);rw [bR om om,bh om];refine aA.cb (fun _=>aA.ok fun _=>⟨i+1,rfl,om,om⟩) fun _=>step1 h1 om om fun r q=>Hs (fun h=>aA.ok (PQ.err h)) fun h=>?_;obtain⟨e,e1,e2,e3⟩:=q h;rw [e1];exact hrc _ ⟨e,rfl,om,e3⟩ (by rw [bK,bK];omega)
theorem adD(hF:s.length+20<F)(hl:s.length<=200000)(h1:P1 F s n):P4 F s (n+1):=by
 intro a ha hn;show aA _ (uS F (cV F n) s (a:Int));unfold uS;rw [bG om,show (a:Int)+3=((a+3:Nat):Int) from rfl];refine aA.lp (fun i:Int×Int=>∃n:Nat,i.1=(n:Int)/\a+3<=n/\n<=s.length) (fun i=>s.length-i.1.toNat) ⟨a+3,rfl,om,ha⟩ (by show s.length-((a+3:Nat):Int).toNat<F;rw [bK];omega) ?_;rintro⟨_,o⟩ ⟨i,rfl,g1,g2⟩ rc hrc;dsimp only at g1 g2 hrc⊢;refine aA.cd (fun h=>?_) fun _=>aA.ok (PQ.err de);rw [bR om om,bh om];refine aA.jj (P:=fun x=>∀r,x=.inr r->PQ s a 3 r) ?_ (fun o' _=>?_) fun r h=>h r rfl
 ·have ok:∀o':Int,aA (fun x:Int ⊕ (Int×Int)=>∀r,x=.inr r->PQ s a 3 r) (some (.inl o')):=fun o'=>aA.ok fun r h=>nomatch h
  refine aA.cb (fun _=>ok _) fun _=>?_;rw [aK,aC];refine aA.cb (fun _=>ok _) fun _=>?_;rw [aK,aC,cF];refine aA.cb (fun _=>aA.ok fun r e=>by cases e;exact PQ.err de) fun hx=>?_
  have fin:aA (fun x:Int ⊕ (Int×Int)=>∀r,x=.inr r->PQ s a 3 r) (cond (((s.getD (Int.toNat (i:Int)) 0).toNat:Int)==41) (some (.inr ((i:Int),6))) (some (.inl o))):=
   aA.cb (fun _=>aA.ok fun r e=>by cases e;exact PQ.err de) fun _=>ok _
  cases hc:(((s.getD (Int.toNat (i:Int)) 0).toNat:Int)==41) with
  | false=>rw [hc] at fin;exact fin
  | true=>
   rw [hc] at hx fin
   have hne:i+1≠s.length:=fun e=>by
    have hx:(((i+1:Nat):Int)==(s.length:Int))=false:=hx;rw [e] at hx;simp at hx
   rw [bq,bR om om,aC];refine aA.cb (fun _=>aA.ok fun r e=>?_) fun _=>fin;cases e;rw [bG om];exact fun _=>⟨i+2,rfl,om,om⟩
 ·refine step1 h1 om om fun r q=>Hs (fun h=>aA.ok (PQ.err h)) fun h=>?_
  obtain⟨e,e1,e2,e3⟩:=q h;rw [e1];exact hrc _ ⟨e,rfl,om,e3⟩ (by show s.length-((e:Nat):Int).toNat<s.length-((i:Nat):Int).toNat;rw [bK,bK];omega)
theorem aA.ret{σ R:Type}{x:O R}{Q:R->Prop}(h:aA Q x):aA (fun z:σ ⊕ R=>∃r,Q r/\z=.inr r) (yA x):=by
 obtain⟨r,h,rfl⟩:=h;exact⟨.inr r,⟨r,h,rfl⟩,rfl⟩
theorem ahP(hF:s.length+20<F)(hl:s.length<=200000)(h1:P1 F s n):P5 F s (n+1):=by
 intro a ha hn;show aA _ (zl F (cV F n) s (a:Int));unfold zl;rw [bG om,show (a:Int)+2=((a+2:Nat):Int) from rfl];refine aA.lp (fun i:Int×Int×Bool=>∃n:Nat,i.1=(n:Int)/\a+2<=n/\n<=s.length) (fun i=>s.length-i.1.toNat) ⟨a+2,rfl,om,ha⟩ (by show s.length-((a+2:Nat):Int).toNat<F;rw [bK];omega) ?_;rintro⟨_,o,bg⟩ ⟨i,rfl,g1,g2⟩ rc hrc;dsimp only at g1 g2 hrc⊢
 have Bq:∀(e:Nat) o' b',i<e->e<=s.length->aA (PQ s a 3) (rc ((e:Int),o',b')):=fun e o' b' h1 h2=>
  hrc _ ⟨e,rfl,om,h2⟩ (by show s.length-((e:Nat):Int).toNat<s.length-((i:Nat):Int).toNat;rw [bK,bK];omega)
 refine aA.cd (fun h=>?_) fun _=>aA.ok (PQ.err de);have h:i<s.length:=om;rw [bR om om,bh om];refine aA.jj (P:=fun x=>(∀z,x=.inl z->z.1=(i:Int))/\∀r,x=.inr r->PQ s a 3 r) ?_ (fun z hz=>?_) fun r h=>h.2 r rfl
 ·have ok:∀o':Int,aA (fun x:(Int×Int) ⊕ (Int×Int)=>(∀z,x=.inl z->z.1=(i:Int))/\∀r,x=.inr r->PQ s a 3 r) (some (.inl ((i:Int),o'))):=fun o'=>aA.ok ⟨fun z e=>by cases e;rfl,fun r h=>nomatch h⟩
  have rt:∀ {x:Option (Int×Int)},aA (PQ s a 3) x->aA (fun x:(Int×Int) ⊕ (Int×Int)=>(∀z,x=.inl z->z.1=(i:Int))/\∀r,x=.inr r->PQ s a 3 r) (yA x):=fun h=>h.ret.mono fun z ⟨r,q,e⟩=>by
   subst e;exact⟨fun z e=>(nomatch e),fun r' e=>by cases e;exact q⟩
  rw [aK,aC];refine aA.cb (fun hc=>?_) fun _=>?_
  ·have h35:s.getD i 0=35:=by
    rw [cF,cx,bK,qU _ 35 de] at hc;simpa using hc.2
   refine aA.bd (ahM F s i om hl om) fun r ⟨e,e1,e2,e3,e4⟩=>rt ?_;rw [e1];exact Bq e _ _ (e4 (by rw [h35];decide) h) e3
  refine aA.bd (ach F s i hl om) fun b hb=>aA.cb (fun hb'=>rt ?_) fun _=>?_
  ·have:=hb hb'
   rw [bG om];exact Bq (i+2) _ _ om om
  rw [aK,aC];refine aA.cb (fun _=>aA.ok ⟨fun z e=>(nomatch e),fun r e=>?_⟩) fun _=>aA.cb (fun _=>ok _) fun _=>aA.cb (fun _=>ok _) fun _=>ok _;cases e;exact fun _=>⟨i+1,rfl,om,om⟩
 ·obtain⟨ob,Lw⟩:=al4 F ((s.getD (Int.toNat (i:Int)) 0).toNat:Int)
  rw [afH,Lw];simp only [aC,aK];obtain⟨z1,z2⟩:=z;obtain rfl:z1=(i:Int):=hz.1 _ rfl;refine step1 h1 h om fun r q=>Hs (fun h=>aA.ok (PQ.err h)) fun h=>?_;obtain⟨e,e1,e2,e3⟩:=q h;rw [e1];exact Bq e _ _ om e3
theorem aci(hF:s.length+20<F)(hl:s.length<=200000):∀n,P1 F s n/\P2 F s n/\P3 F s n/\P4 F s n/\P5 F s n/\P6 F s n
 | 0=>⟨fun _ _ _ h=>om,fun _ _ _ h=>om,fun _ _ _ h=>om,fun _ _ h=>om,fun _ _ h=>om,fun _ _ h=>om⟩
 | n+1=>by
  obtain⟨h1,h2,h3,h4,h5,h6⟩:=aci hF hl n;exact⟨afI hF hl h2 h6,ahN hF hl h3 h4 h5,adC hF hl h1,adD hF hl h1,ahP hF hl h1,ahO hF hl h1⟩
end
theorem Ki(F:Nat)(s:Bs)(a:Nat)(p:Int)(hF:4*s.length+20<F)(hl:s.length<=200000)(ha:a<s.length):
  aA (fun r=>PQ s a 1 r/\(s.getD a 0=39->p=0->PQ s a 2 r)/\(s.getD a 0=96->PQ s a 2 r)/\(s.getD a 0=36->s.getD (a+1) 0=40->PQ s a 3 r)) (zm F s (a:Int) p):=
 (aci om hl F).1 a p ha om
mutual
def wP:TPart->Nat
 | .mk _ t _ _ ps=>1+t.length+eN ps
def eN:J TPart->Nat
 | []=>0
 | p::l=>wP p+eN l
end
theorem yQ:∀(l m:J TPart),eN (l++m)=eN l+eN m
 | [],m=>by simp [eN]
 | p::l,m=>by simp only [wW,eN,yQ l m];omega
theorem Jk(p:TPart):1+p.fText.length+eN p.fParts=wP p:=by cases p;rfl
theorem Fm:∀(l:J TPart),l.length<=eN l
 | []=>by simp [eN]
 | p::l=>by have:=Fm l;have:=Jk p;simp only [Bh,eN];omega
theorem FL(l:J TPart)(k:Nat):eN (l.take k)+eN (l.drop k)=eN l:=by rw [<-yQ,Uh]
theorem R1{l:J TPart}{k:Nat}(h:k<l.length):eN (l.take (k+1))=eN (l.take k)+wP (l.getD k jZ):=by
 rw [qB h,yQ,gd h];simp only [eN];omega
theorem Us{l:J TPart}{k:Nat}(h:k<l.length):wP (l.getD k jZ)<=eN l:=by
 have h1:=R1 h;have h2:=FL l (k+1);omega
theorem cI'(c:Bool):cond c false false=false:=by cases c<;>rfl
theorem adE(F:Nat)(p:TPart)(e:Int):gF F p e=some (dY.mk [p] e 0):=by cases p;rfl
theorem sS(s:Bs)(i j:Nat):(sl s (i:Int) (j:Int)).length<=j-i:=by
 unfold sl;rw [Kc,MC,bK,bK];omega
theorem adF(F:Nat)(p:Int):nI F p=some (p==0||p==1):=by unfold nI;rw [aK,cT];rfl
theorem apg(F:Nat)(c p:Int):∃b,xZ F c p=some b:=by
 unfold xZ;simp only [aK,cT,aC];exact⟨_,rfl⟩
theorem anW(F:Nat)(s:Bs)(a:Nat)(p o:Int)(ha:a<s.length):∃b,Ej F s (a:Int) p o=some b:=by
 unfold Ej;rw [bR om om,bR om om,bR om om];simp only [aK,cT,aC];exact⟨_,rfl⟩
theorem Ut(F:Nat)(s:Bs)(a:Nat)(hl:s.length<=200000)(ha:a<=s.length):aA (fun b=>b=true->a+1<s.length) (uT F s (a:Int)):=ach F s a hl ha
theorem al6(F:Nat)(s:Bs)(a:Nat)(p:Int)(hF:s.length<F)(hl:s.length<=200000)(ha:a<s.length):∃b,xo F s (a:Int) p=some b:=by
 have:aA (fun _=>True) (xo F s (a:Int) p):=by
  unfold xo;rw [adF,aC,bh om,bR om om];simp only [aK,aC];refine aA.cb (fun _=>aA.ok trivial) fun _=>?_;refine aA.lp (fun i:Int=>∃n:Nat,i=(n:Int)/\a+1<=n/\n<=s.length) (fun i=>s.length-i.toNat) ⟨a+1,rfl,om,ha⟩ (by rw [bK];omega) ?_;rintro _ ⟨n,rfl,h1,h2⟩ rc hrc;refine aA.bd (Ut F s n hl h2) fun b hb=>aA.cb (fun h=>?_) fun _=>?_
  ·have:=hb h
   rw [bG om];exact hrc _ ⟨n+2,rfl,om,om⟩ (by rw [bK,show ((n:Int)+2)=((n+2:Nat):Int) from rfl,bK];omega)
  ·by_cases h:n<s.length
   ·rw [cf om,bR om om,bR om om]
    simp only [aK,aC];exact aA.ok trivial
   ·rw [cO om]
    exact aA.ok trivial
 obtain⟨b,-,h⟩:=this;exact⟨b,h⟩
def RQ(s:Bs)(a:Nat)(r:dY):Prop:=r.fE=0->∃e:Nat,r.ML=(e:Int)/\a+1<=e/\e<=s.length/\r.fParts.length<=1/\eN r.fParts<=2*(e-a)
theorem RQ.err{s:Bs}{a:Nat}{l:J TPart}{x e:Int}(h:e≠0):RQ s a ⟨l,x,e⟩:=fun h'=>absurd h' h
theorem RQ.one{s:Bs}{a e:Nat}{p:TPart}(h1:a+1<=e)(h2:e<=s.length)(h3:wP p<=2*(e-a)):RQ s a ⟨[p],(e:Int),0⟩:=fun _=>⟨e,rfl,h1,h2,si,by simp only [eN];omega⟩
theorem wT(k:Int)(t:Bs)(o:Int)(c:Bool):wP (.mk k t o c [])=1+t.length:=by simp [wP,eN]
theorem wN(k:Int)(t:Bs)(o:Int)(c:Bool)(l:J TPart):wP (.mk k t o c l)=1+t.length+eN l:=rfl
theorem aA.so{A:Type}{x:O A}{Q:A->Prop}(h:aA Q x):aA Q (x.bind fun y=>some y):=by rw [anX];exact h
theorem akx(F:Nat)(s:Bs)(a:Nat)(p:Int)(hl:s.length<=200000)(ha:a<s.length):aA (RQ s a) (uz F s (a:Int) p):=by
 unfold uz;rw [bh om,bG om,show (a:Int)+2=((a+2:Nat):Int) from rfl]
 have one:∀ {k o:Int}{c:Bool}{t:Bs}{e:Nat},a+1<=e->e<=s.length->1+t.length<=2*(e-a)->aA (RQ s a) ((gF F (.mk k t o c []) (e:Int)).bind fun x=>some x):=fun h1 h2 h3=>by
  rw [adE];exact aA.ok (RQ.one h1 h2 (by rw [wT];exact h3))
 by_cases h:a+1=s.length
 ·rw [show (((a+1:Nat):Int)==(s.length:Int))=true from by rw [h];simp,bq]
  exact aA.cb (fun _=>one om om (by show 1+1<=_;omega)) fun _=>aA.ok (RQ.err de)
 ·rw [show (((a+1:Nat):Int)==(s.length:Int))=false from by simp;omega,aS,bR om om]
  have h1:=sS s (a+1) (a+2);have h2:=sS s a (a+2);refine aA.cb (fun _=>aA.ok fun _=>⟨a+2,rfl,om,om,si,by simp [eN]⟩) fun _=>?_;rw [adF,aC];refine aA.cb (fun _=>aA.rq (Jl om om om) (one om om om)) fun _=>?_;obtain⟨b,hb⟩:=apg F ((s.getD (Int.toNat ((a+1:Nat):Int)) 0).toNat:Int) p;rw [hb,aC];refine aA.cb (fun _=>aA.rq (Jl om om om) (one om om om)) fun _=>?_;simp only [aK,aC];refine aA.cb (fun _=>aA.ok (RQ.err de)) fun _=>?_;rw [CJ om om om];exact one om om om
theorem acj(F:Nat)(t:Bs)(hF:4*t.length+40<F)(hl:t.length<=150000):∃b,rA F t=some b:=by
 have:aA (fun _=>True) (rA F t):=by
  unfold rA;have hL:(([36,40]:Bs)++t++([41]:Bs)).length=t.length+3:=by simp
  rw [sx (by show 2+t.length<=_;omega),sx (by rw [ug];show 2+t.length+1<=_;omega)];have hp:=Ki F ((([36,40]:Bs)++t)++([41]:Bs)) 0 0 om om om;refine aA.bd hp fun r _=>?_;by_cases h:t=[]
  ·subst h
   simp only [aK,aC];rw [show (([]:Bs)==[])=true from rfl];simp only [bq,aK,aC];exact aA.ok trivial
  ·have:0<t.length:=zb.2 h
   rw [sx om];simp only [aK,aC];exact aA.ok trivial
 obtain⟨b,-,h⟩:=this;exact⟨b,h⟩
theorem al7(F:Nat)(s:Bs)(a:Nat)(hF:4*s.length+100<F)(hl:s.length<=100000)(ha:a<s.length)(h96:s.getD a 0=96):aA (RQ s a) (sU F s (a:Int)):=by
 unfold sU;refine aA.bd (Ki F s a 0 om om ha) fun r q=>Hs (fun h=>aA.ok (RQ.err h)) fun h=>?_;obtain⟨e,e1,e2,e3⟩:=q.2.2.1 h96 h;rw [e1,w5 om om,bh om];refine aA.lp (fun z:Bs×Int=>∃n:Nat,z.2=(n:Int)/\a+1<=n/\n<=e/\z.1.length<=e-a-2/\z.1.length+a+1<=n) (fun z=>e-z.2.toNat) ⟨a+1,rfl,om,om,si,si⟩ (by show e-Int.toNat ((a+1:Nat):Int)<F;omega) ?_
 ·rintro⟨t,_⟩ ⟨n,rfl,g1,g2,g3,g4⟩ rc hrc
  dsimp only at g3 g4 hrc⊢
  have ok:∀b:Bool,∃m:Nat,cond b (((n+1:Nat):Int)) (n:Int)=(m:Int)/\n<=m/\m<=n+1:=fun b=>by
   cases b
   ·exact⟨n,rfl,om,om⟩
   ·exact⟨n+1,rfl,om,om⟩
  refine aA.cd (fun h=>?_) fun h=>?_
  ·rw [bR om om,bh om,bR om om,bR om om,bR om om]
   simp only [aK,aC];generalize hb:(cond (((s.getD (Int.toNat (n:Int)) 0).toNat:Int)==92) _ false:Bool)=b;obtain⟨m,hm,VW,hm2⟩:=ok b;rw [hm,bh om];have hs:=sS s m (m+1);refine aA.rq (Jl om om om) (aA.rq (dQ om) (hrc _ ⟨m+1,rfl,om,om,?_,?_⟩ ?_))
   ·show (t++sl s (m:Int) ((m+1:Nat):Int)).length<=_
    rw [ug];omega
   ·show (t++sl s (m:Int) ((m+1:Nat):Int)).length+a+1<=_
    rw [ug];omega
   ·show e-Int.toNat ((m+1:Nat):Int)<e-Int.toNat (n:Int);omega
  ·refine aA.bd (P:=fun u:Bs=>u.length<=e-a-1) ?_ fun u hu=>?_
   ·refine aA.bd (P:=fun _=>True) ?_ fun b _=>aA.cb (fun _=>aA.rq (dQ (by show 1+t.length<=_;omega)) (aA.ok (by show ([32]++t).length<=_;simp;omega))) fun _=>aA.ok om
    by_cases ht:t=[]
    ·subst ht;exact aA.ok trivial
    ·have:0<t.length:=zb.2 ht
     rw [sx om,aK];exact aA.ok trivial
   refine aA.bd (P:=fun u:Bs=>u.length<=e-a) ?_ fun v hv=>?_
   ·obtain⟨b,hb⟩:=acj F u om om
    rw [hb,aC];exact aA.cb (fun _=>aA.rq (dQ (by show u.length+1<=_;omega)) (aA.ok (by show (u++[10]).length<=_;simp;omega))) fun _=>aA.ok om
   obtain⟨b,hb⟩:=acj F v om om;rw [hb,aC];refine aA.cb (fun _=>aA.ok (RQ.err de)) fun _=>?_;rw [adE];exact aA.ok (RQ.one om om (by rw [wT];omega))
theorem Uu(F:Nat)(s:Bs)(hF:s.length<F)(hl:s.length<=200000):∃r,lE F s=some r:=by
 have:aA (fun _=>True) (lE F s):=by
  unfold lE;by_cases h:s=[]
  ·subst h;exact aA.ok trivial
  have:0<s.length:=zb.2 h;rw [sx om];simp only [aK,aC];refine aA.cb (fun _=>aA.ok trivial) fun _=>?_;refine aA.lp (fun i:Int×Int=>∃n:Nat,i.2=(n:Int)/\n<=s.length) (fun i=>s.length-i.2.toNat) ⟨0,rfl,om⟩ (by show s.length-0<F;omega) ?_;rintro⟨v,_⟩ ⟨n,rfl,hn⟩ rc hrc;dsimp only at hrc⊢;refine aA.cd (fun h=>?_) fun _=>aA.ok trivial;rw [bR om om,Jj,aC,bh om];refine aA.cb (fun _=>aA.ok trivial) fun _=>aA.rq (jO om om) (hrc _ ⟨n+1,rfl,om⟩ (by show s.length-Int.toNat ((n+1:Nat):Int)<s.length-Int.toNat (n:Int);omega))
 obtain⟨b,-,h⟩:=this;exact⟨b,h⟩
theorem Ys(F:Nat)(s:Bs)(a:Nat)(hF:s.length+20<F)(hl:s.length<=200000)(ha:a<=s.length):aA (fun r=>∃e:Nat,r=(e:Int)/\a<=e/\e<=s.length) (nk F s (a:Int)):=by
 unfold nk;by_cases h:a<s.length
 ·rw [cf om,bR om om,Jj,aC,bR om om,X4,aC,bR om om,bh om]
  refine aA.cb (fun _=>?_) fun _=>aA.cb (fun _=>(adB F s a om hl ha).so) fun _=>?_
  ·refine aA.lp (fun i:Int=>∃n:Nat,i=(n:Int)/\a+1<=n/\n<=s.length) (fun i=>s.length-i.toNat) ⟨a+1,rfl,om,h⟩ (by rw [bK];omega) ?_
   rintro _ ⟨n,rfl,h1,h2⟩ rc hrc;by_cases hn:n<s.length
   ·rw [cO om,bR om om,Jj,aC,aC,bh om]
    refine aA.cb (fun _=>aA.rq (Jl om om om) ?_) fun _=>aA.ok ⟨n,rfl,om,h2⟩;have hs:=sS s a (n+1);obtain⟨r,hr⟩:=Uu F (sl s (a:Int) ((n+1:Nat):Int)) om om;rw [hr,aC];exact aA.cb (fun _=>aA.ok ⟨n,rfl,om,h2⟩) fun _=>hrc _ ⟨n+1,rfl,om,om⟩ (by rw [bK,bK];omega)
   ·rw [cf om]
    exact aA.ok ⟨n,rfl,om,h2⟩
  ·obtain⟨b,hb⟩:=Kh F ((s.getD (Int.toNat (a:Int)) 0).toNat:Int) om
   rw [hb,aC];exact aA.cb (fun _=>aA.ok ⟨a+1,rfl,om,om⟩) fun _=>aA.ok ⟨a,rfl,om,om⟩
 ·rw [cO om]
  exact aA.ok ⟨a,rfl,om,ha⟩
theorem op8(F:Nat)(s:Bs)(a:Nat)(hl:s.length<=200000)(ha:a<s.length):aA (fun r=>r.1≠0->∃n:Nat,r.2.2=(n:Int)/\1<=n/\a+n<=s.length) (vT F s (a:Int)):=by
 unfold vT;rw [bR om om];have z:aA (fun r:Int×Bool×Int=>r.1≠0->∃n:Nat,r.2.2=(n:Int)/\1<=n/\a+n<=s.length) (some (0,false,0)):=aA.ok fun h=>absurd rfl h;have ok:∀(o:Int)(b:Bool)(n:Nat),1<=n->a+n<=s.length->aA (fun r:Int×Bool×Int=>r.1≠0->∃n:Nat,r.2.2=(n:Int)/\1<=n/\a+n<=s.length) (some (o,b,(n:Int))):=fun o b n h1 h2=>aA.ok fun _=>⟨n,rfl,h1,h2⟩
 cases hc:(((s.getD (Int.toNat (a:Int)) 0).toNat:Int)==58) with
 | true=>
  rw [bq,aC,bh om];simp only [bq];refine aA.cd (fun _=>z) fun h=>?_;rw [show aB (aB (((a+1:Nat):Int)-(a:Int))+1)=((2:Nat):Int) from by rw [bG (x:=((a+1:Nat):Int)-(a:Int)) om,bG om];omega]
  exact aA.rq (jO om om) (aA.cb (fun _=>ok _ _ 2 om om) fun _=>aA.rq (jO om om) (aA.cb (fun _=>ok _ _ 2 om om) fun _=>aA.rq (jO om om) (aA.cb (fun _=>ok _ _ 2 om om) fun _=>aA.rq (jO om om) (aA.cb (fun _=>ok _ _ 2 om om) fun _=>z))))
 | false=>
  rw [aS,aC];simp only [aS];rw [cf om,show aB (aB ((a:Int)-(a:Int))+1)=((1:Nat):Int) from by rw [bG (x:=(a:Int)-(a:Int)) om,bG om];omega,bh om];refine aA.rq (jO om om) (aA.cb (fun _=>ok _ _ 1 om om) fun _=>aA.rq (jO om om) (aA.cb (fun _=>ok _ _ 1 om om) fun _=>aA.rq (jO om om) (aA.cb (fun _=>ok _ _ 1 om om) fun _=>aA.rq (jO om om) (aA.cb (fun _=>ok _ _ 1 om om) fun _=>?_))))
  have two:∀(k:Int){A B:O (Int×Bool×Int)},(a+1<s.length->aA (fun r:Int×Bool×Int=>r.1≠0->∃n:Nat,r.2.2=(n:Int)/\1<=n/\a+n<=s.length) A)->aA (fun r:Int×Bool×Int=>r.1≠0->∃n:Nat,r.2.2=(n:Int)/\1<=n/\a+n<=s.length) B ->
    aA (fun r:Int×Bool×Int=>r.1≠0->∃n:Nat,r.2.2=(n:Int)/\1<=n/\a+n<=s.length) ((rq ((decide (0<=(a:Int)))&&(decide ((a:Int)<(s.length:Int)))) (cond (((s.getD (Int.toNat (a:Int)) 0).toNat:Int)==k) (some (decide (((a+1:Nat):Int)<(s.length:Int)))) (some false)):O Bool).bind fun x2=>
     (cond x2 (rq ((decide (0<=((a+1:Nat):Int)))&&(decide (((a+1:Nat):Int)<(s.length:Int)))) (some (((s.getD (Int.toNat ((a+1:Nat):Int)) 0).toNat:Int)==k))) (some false):O Bool).bind fun x3=>cond x3 A B):=by
   intro k A B hA hB;rw [bR om om,aK,aC];by_cases h:a+1<s.length
   ·rw [bR om om,aK,aC]
    exact aA.cb (fun _=>hA h) fun _=>hB
   ·rw [dF (p:=(((a+1:Nat):Int)<(s.length:Int))) om,cI' ,aS]
    exact hB
  refine two 37 (fun h=>ok _ _ 2 om om) (aA.rq (jO om om) (aA.cb (fun _=>ok _ _ 1 om om) fun _=>two 35 (fun h=>ok _ _ 2 om om) (aA.rq (jO om om) (aA.cb (fun _=>ok _ _ 1 om om) fun _=>z))))
theorem aky(F:Nat)(p:Int):∃q,(q=1\/q=3\/q=6)/\zn F p=some q:=by
 unfold zn;simp only [aK,aC];refine⟨_,?_,rfl⟩;generalize (cond (p==0) (p==0) (p==1))=b1;cases b1
 ·cases (p==2)
  ·cases (p==3)
   ·exact .inr (.inr rfl)
   ·exact .inr (.inl rfl)
  ·exact .inr (.inl rfl)
 ·exact .inl rfl
theorem akz(F:Nat)(p:Int):∃q,zo F p=some q:=by
 unfold zo;simp only [aK,aC];exact⟨_,rfl⟩
theorem anY(F:Nat)(l:J TPart)(t:Bs)(hl:eN l<=1000000)(ht:t.length<=1000000):aA (fun r=>eN r<=eN l+1+t.length) (Ek F l t):=by
 have h1:=Fm l;unfold Ek;by_cases h:0<l.length
 ·rw [cO om,w5 om h,bR om om,aC]
  refine aA.cb (fun _=>?_) fun _=>aA.rq (nJ (by show l.length+1<=_;omega) de) (aA.ok (by rw [yQ];simp only [eN,wT];omega));have e1:sl l 0 ((l.length-1:Nat):Int)=l.take (l.length-1):=by simp [sl]
  have hw:=R1 (l:=l) (k:=l.length-1) om;have hp:=Jk (l.getD (l.length-1) jZ);have h2:eN (l.take (l.length-1))+eN (l.drop (l.length-1))=eN l:=FL l _;have h3:wP (l.getD (l.length-1) jZ)<=eN l:=Us om;have h4:(l.take (l.length-1+1))=l:=Iw om;rw [h4] at hw;simp only [e1,bK];have hL:(([]:J TPart)++l.take (l.length-1)).length=l.length-1:=by simp
  have hL':(([]:J TPart).length+(l.take (l.length-1)).length)=l.length-1:=by simp
  refine aA.rq (jO om om) (aA.rq (nJ (by rw [hL'];omega) de) (aA.rq (jO om om) ?_));refine aA.rq (dQ om) (aA.rq (nJ (by rw [hL];show l.length-1+1<=_;omega) de) (aA.ok ?_));rw [yQ,pY];simp only [eN,wT,ug];omega
 ·rw [cf om,aC,aS]
  exact aA.rq (nJ (by show l.length+1<=_;omega) de) (aA.ok (by rw [yQ];simp only [eN,wT];omega))
def PL(p:Int):Prop:=p=1\/p=2\/p=3\/p=6
def RP(s:Bs)(a:Nat)(p:Int)(r:dY):Prop:=r.fE=0->∃e:Nat,r.ML=(e:Int)/\a<=e/\e<=s.length/\eN r.fParts<=2*(e-a)/\(PL p->e<s.length)/\(p=4->e+1<s.length)
theorem RP.err{s:Bs}{a:Nat}{p:Int}{l:J TPart}{x e:Int}(h:e≠0):RP s a p ⟨l,x,e⟩:=fun h'=>absurd h' h
def Q1(F:Nat)(s:Bs)(n:Nat):Prop:=∀(a:Nat)(p lv fr:Int),a<=s.length->6*(s.length-a)+6<=n->aA (RP s a p) ((cU F n).1 s (a:Int) p lv fr)
def Q2(F:Nat)(s:Bs)(n:Nat):Prop:=∀(a:Nat)(p lv:Int),a<s.length->6*(s.length-a)+5<=n->aA (RQ s a) ((cU F n).2.1 s (a:Int) p lv)
def Q3(F:Nat)(s:Bs)(n:Nat):Prop:=∀(a:Nat)(p lv:Int),a<s.length->s.getD a 0=36->6*(s.length-a)+4<=n->aA (RQ s a) ((cU F n).2.2.1 s (a:Int) p lv)
def Q4(F:Nat)(s:Bs)(n:Nat):Prop:=∀(a:Nat)(p lv:Int),a+1<s.length->s.getD a 0=36->6*(s.length-a)+3<=n->aA (RQ s a) ((cU F n).2.2.2.1 s (a:Int) p lv)
def Q5(F:Nat)(s:Bs)(n:Nat):Prop:=∀(a:Nat)(p lv:Int),a+1<s.length->6*(s.length-a)+2<=n->aA (RQ s a) ((cU F n).2.2.2.2.1 s (a:Int) p lv)
def Q6(F:Nat)(s:Bs)(n:Nat):Prop:=∀(a:Nat)(lv:Int),a<s.length->6*(s.length-a)+2<=n->aA (RQ s a) ((cU F n).2.2.2.2.2 s (a:Int) lv)
section
variable {F : Nat} {s : Bs} {n : Nat}
theorem sV{a:Nat}{x e:Int}(h:e≠0):aA (RQ s a) ((dL F x e).bind fun y=>some y):=aA.ok (RQ.err h)
theorem IA{a e:Nat}{p:TPart}(h1:a+1<=e)(h2:e<=s.length)(h3:wP p<=2*(e-a)):aA (RQ s a) ((gF F p (e:Int)).bind fun y=>some y):=by
 rw [adE];exact aA.ok (RQ.one h1 h2 h3)
theorem adG(hF:4*s.length+2000<F)(hl:s.length<=100000)(h2:Q2 F s n):Q1 F s (n+1):=by
 intro a p lv fr ha hn;show aA _ (Dn F (cU F n) s (a:Int) p lv fr);unfold Dn;refine aA.lp (fun z:Int×J TPart×Int=>∃m:Nat,z.1=(m:Int)/\a<=m/\m<=s.length/\eN z.2.1<=2*(m-a)) (fun z=>s.length-z.1.toNat) ⟨a,rfl,om,ha,by simp [eN]⟩ (by show s.length-Int.toNat (a:Int)<F;omega) ?_;rintro⟨_,l,op⟩ ⟨m,rfl,g1,g2,g3⟩ rc hrc;dsimp only at g3 hrc⊢;have hlen:=Fm l;refine aA.cd (fun h=>?_) fun h=>?_
 ·have h:m<s.length:=om
  obtain⟨b,hb⟩:=anW F s m p op h;rw [hb,aC,bh om,aK,aC];refine aA.cb (fun _=>?_) fun _=>?_
  ·refine aA.cb (fun _=>aA.ok (RP.err de)) fun h4=>?_
   have hp4:p=4->m+1<s.length:=fun e=>by
    subst e;have h4:(((m+1:Nat):Int)==(s.length:Int))=false:=h4;have:m+1≠s.length:=fun e=>by rw [e] at h4;simp at h4
    omega
   refine aA.bd (P:=fun _=>True) ?_ fun b _=>aA.cb (fun _=>aA.ok (RP.err de)) fun _=>aA.ok fun _=>⟨m,rfl,g1,g2,g3,fun _=>h,hp4⟩
   cases e4:(p==4) with
   | false=>exact aA.ok trivial
   | true=>have:=hp4 (by simpa using e4);exact aA.rq (jO om om) (aA.ok trivial)
  ·obtain⟨tb,htb⟩:=al6 F s m p om om h
   rw [htb];simp only [aC,aK];refine aA.cb (fun _=>aA.rq (nJ (by show l.length+1<=_;omega) de) (hrc _ ⟨m+1,rfl,om,om,?_⟩ ?_)) fun _=>?_
   ·show eN (l++[TPart.mk 7 [] 0 false []])<=_
    rw [yQ];simp only [eN,wT,Ka];omega
   ·show s.length-Int.toNat ((m+1:Nat):Int)<s.length-Int.toNat (m:Int);omega
   rw [bR om om,bR om om];simp only [aC,aK];refine aA.bd (h2 m p lv h om) fun r q=>Hs (fun h=>aA.ok fun e=>absurd e h) fun h0=>?_;obtain⟨e,e1,e2,e3,e4,e5⟩:=q h0;refine aA.lp (fun z:J TPart×Int=>∃k:Nat,z.2=(k:Int)/\k<=r.fParts.length/\eN z.1<=eN l+eN (r.fParts.take k)) (fun z=>r.fParts.length-z.2.toNat) ⟨0,rfl,om,si⟩ (by show r.fParts.length-0<F;omega) ?_;rintro⟨l',_⟩ ⟨k,rfl,k1,k2⟩ rc' Bq;dsimp only at k2 Bq⊢;have hwt:=FL r.fParts k;have hlen':=Fm l';refine aA.cd (fun h=>?_) fun h=>?_
   ·have hk:k<r.fParts.length:=om
    have hwk:=R1 hk;have hp:=Jk (r.fParts.getD k jZ);have hm:=Us hk;rw [bR om om,bh om,bR om om,bR om om];simp only [bK];refine aA.cb (fun _=>aA.bd (anY F l' _ om om) fun u hu=>Bq _ ⟨k+1,rfl,hk,by dsimp only;omega⟩ ?_) fun _=>aA.rq (nJ (by show l'.length+1<=_;omega) de) (Bq _ ⟨k+1,rfl,hk,?_⟩ ?_)
    ·show r.fParts.length-Int.toNat ((k+1:Nat):Int)<r.fParts.length-Int.toNat (k:Int);omega
    ·show eN (l'++[r.fParts.getD k jZ])<=_
     rw [yQ];simp only [eN];omega
    ·show r.fParts.length-Int.toNat ((k+1:Nat):Int)<r.fParts.length-Int.toNat (k:Int);omega
   ·rw [e1]
    exact hrc _ ⟨e,rfl,om,e3,by dsimp only;omega⟩ (by show s.length-Int.toNat (e:Int)<s.length-Int.toNat (m:Int);omega)
 ·rw [aK,aC]
  refine aA.cb (fun hp=>aA.ok fun _=>⟨m,rfl,g1,g2,g3,fun h=>?_,fun h=>?_⟩) fun _=>aA.ok (RP.err de)
  ·exfalso;rcases h with rfl|rfl|rfl|rfl<;>exact absurd hp de
  ·subst h;exact absurd hp de
theorem afJ(hF:4*s.length+2000<F)(hl:s.length<=100000)(h3:Q3 F s n)(h6:Q6 F s n):Q2 F s (n+1):=by
 intro a p lv ha hn;show aA _ (FM F (cU F n) s (a:Int) p lv);unfold FM;rw [bR om om];refine aA.cb (fun _=>(akx F s a p om ha).so) fun _=>aA.cb (fun h=>(al7 F s a om hl ha ?_).so) fun _=>aA.cb (fun h=>(h3 a p lv ha ?_ om).so) fun _=>?_
 ·rw [bK,qU _ 96 de] at h;simpa using h
 ·rw [bK,qU _ 36 de] at h;simpa using h
 obtain⟨ob,Lw⟩:=al4 F ((s.getD (Int.toNat (a:Int)) 0).toNat:Int);rw [adF,afH,Lw];simp only [aC,aK];refine aA.cb (fun _=>(h6 a lv ha om).so) fun _=>aA.cb (fun _=>sV de) fun _=>aA.cb (fun _=>sV de) fun _=>?_;rw [bh om];have hs:=sS s a (a+1);exact aA.rq (Jl om om om) (IA om om (by rw [wT];omega))
theorem aa9(hF:4*s.length+2000<F)(hl:s.length<=100000)(h4:Q4 F s n):Q3 F s (n+1):=by
 intro a p lv ha Yt hn;show aA _ (Br F (cU F n) s (a:Int) p lv);unfold Br;refine aA.bd (al3 F s a om om ha) fun b hb=>aA.cb (fun h=>(h4 a p lv (hb.1 h).1 Yt om).so) fun _=>?_;rw [adF,aC,bh om];refine aA.bd (P:=fun _=>True) ?_ fun _ _=>aA.cb (fun _=>sV de) fun _=>IA om om (by show 1+1<=_;omega);refine aA.cb (fun _=>?_) fun _=>aA.ok trivial;have hj:=(Ut F s (a+1) om om).tr;exact aA.cd (fun h=>aA.rq (jO om om) (aA.cb (fun _=>aA.ok trivial) fun _=>hj.so)) fun _=>hj.so
theorem adH(hF:4*s.length+2000<F)(hl:s.length<=100000)(h1:Q1 F s n)(h5:Q5 F s n):Q4 F s (n+1):=by
 intro a p lv ha Yt hn;show aA _ (w6 F (cU F n) s (a:Int) p lv);unfold w6;rw [bh om,bR om om,bG (x:=(a:Int)+2) om,show (a:Int)+2=((a+2:Nat):Int) from rfl];refine aA.cb (fun _=>(h5 a p lv ha om).so) fun _=>?_;rw [aK,aC];refine aA.bd (P:=fun b=>b=true->a+2<s.length) ?_ fun b hb=>aA.cb (fun h=>?_) fun _=>?_
 ·refine aA.cb (fun h=>?_) fun _=>aA.ok fun h=>nomatch h
  rw [cF,cx] at h;have:=wS h.2;exact aA.rq (jO om om) (aA.ok fun _=>om)
 ·have h2:=hb h
  refine aA.cd (fun _=>sV de) fun _=>?_;rw [bG (x:=(a:Int)+3) om,show (a:Int)+3=((a+3:Nat):Int) from rfl];refine aA.bd (h1 (a+3) 4 _ _ om om) fun r q=>Hs (fun h=>aA.ok fun e=>absurd e h) fun h0=>?_;obtain⟨e,e1,e2,e3,e4,-,e6⟩:=q h0;have:=e6 rfl;rw [e1,bG om,show (e:Int)+2=((e+2:Nat):Int) from rfl];exact IA om om (by rw [wN];simp only [Ka];omega)
 ·refine aA.cb (fun h40=>?_) fun _=>?_
  ·have h40:s.getD (a+1) 0=40:=by rw [bK,qU _ 40 de] at h40;simpa using h40
   obtain⟨q,hq⟩:=akz F p;rw [hq,aC];refine aA.bd (Ki F s a q om om om) fun r hr=>Hs (fun h=>aA.ok (RQ.err h)) fun h0=>?_;obtain⟨e,e1,e2,e3⟩:=hr.2.2.2 Yt h40 h0;rw [e1,w5 om om];have hs:=sS s (a+2) (e-1);exact aA.rq (Jl om om om) (IA om om (by rw [wT];omega))
  ·obtain⟨b,hb⟩:=Kh F ((s.getD (Int.toNat ((a+1:Nat):Int)) 0).toNat:Int) om
   rw [hb,aC];have hs:=sS s (a+1) (a+2);refine aA.cb (fun _=>aA.rq (Jl om om om) (IA om om (by rw [wT];omega))) fun _=>?_;refine aA.bd (adB F s (a+1) om om om) fun r ⟨e,e1,e2,e3⟩=>?_;rw [e1];have hs:=sS s (a+1) e;exact aA.cd (fun _=>sV de) fun _=>aA.rq (Jl om om om) (IA om om (by rw [wT];omega))
theorem aba(hF:4*s.length+2000<F)(hl:s.length<=100000)(h1:Q1 F s n):Q6 F s (n+1):=by
 intro a lv ha hn;show aA _ (Bt F (cU F n) s (a:Int) lv);unfold Bt;rw [bR om om,bh om];refine aA.cb (fun h39=>?_) fun _=>aA.cd (fun _=>sV de) fun _=>?_
 ·have h39:s.getD a 0=39:=by rw [bK,qU _ 39 de] at h39;simpa using h39
  refine aA.bd (Ki F s a 0 om om ha) fun r hr=>Hs (fun h=>aA.ok (RQ.err h)) fun h0=>?_;obtain⟨e,e1,e2,e3⟩:=hr.2.1 h39 rfl h0;rw [e1,w5 om om];have hs:=sS s (a+1) (e-1);exact aA.rq (Jl om om om) (IA om om (by rw [wT];omega))
 ·refine aA.bd (h1 (a+1) 2 _ _ om om) fun r q=>Hs (fun h=>aA.ok fun e=>absurd e h) fun h0=>?_
  obtain⟨e,e1,e2,e3,e4,e5,-⟩:=q h0;have:=e5 (.inr (.inl rfl));rw [e1,bh om];exact IA om om (by rw [wN];simp only [Ka];omega)
theorem abb(hF:4*s.length+2000<F)(hl:s.length<=100000)(h1:Q1 F s n):Q5 F s (n+1):=by
 intro a p lv ha hn;show aA _ (Bu F (cU F n) s (a:Int) p lv);unfold Bu;rw [bG (x:=(a:Int)+2) om,show (a:Int)+2=((a+2:Nat):Int) from rfl,bh om];refine aA.jj (P:=fun x=>∀r,x=.inr r->RQ s a r) ?_ (fun _ _=>?_) fun r h=>h r rfl
 ·have ok:aA (fun x:Unit ⊕ dY=>∀r,x=.inr r->RQ s a r) (some (.inl ())):=aA.ok fun r h=>nomatch h
  have er:∀ {x e:Int},e≠0->aA (fun x:Unit ⊕ dY=>∀r,x=.inr r->RQ s a r) ((dL F x e).bind fun y=>some (.inr y)):=fun h=>aA.ok fun r e=>by cases e;exact RQ.err h
  refine aA.bd (P:=fun b=>b=true->a+2<s.length) (aA.cd (fun h=>aA.rq (jO om om) (aA.ok fun _=>om)) fun _=>aA.ok fun h=>nomatch h) fun b hb=>aA.cb (fun h=>?_) fun _=>ok;have h2:=hb h;refine aA.bd (Ys F s (a+3) om om om) fun r ⟨e,e1,e2,e3⟩=>?_;rw [e1];refine aA.cd (fun _=>er de) fun _=>?_;have e0:(((a+2:Nat):Int)+1)=((a+2+1:Nat):Int):=rfl;refine aA.bd (P:=fun b=>b=true->a+3<e/\e<s.length) ?_ fun b hb=>?_
  ·refine aA.cd (fun h=>?_) fun _=>aA.ok fun h=>nomatch h
   exact aA.ok fun h'=>⟨om,by have:=wS h';omega⟩
  refine aA.bd (P:=fun b=>b=true->a+3<e/\e<s.length) (aA.cb (fun h=>aA.rq (jO om (by have:=hb h;omega)) (aA.ok fun _=>hb h)) fun _=>aA.ok fun h=>nomatch h) fun b hb=>aA.cb (fun h=>?_) fun _=>?_
  ·have:=hb h
   have hs:=sS s (a+2+1) e;rw [bh om,adE];exact aA.rq (Jl om om om) (aA.ok fun r h=>by cases h;exact RQ.one om om (by rw [wT];omega))
  ·refine aA.bd (P:=fun _=>True) (aA.cd (fun _=>aA.ok trivial) fun _=>aA.ok trivial) fun _ _=>aA.cb (fun _=>er de) fun _=>ok
 refine aA.bd (Ys F s (a+2) om om om) fun r ⟨e,e1,e2,e3⟩=>?_;rw [e1];refine aA.cd (fun _=>sV de) fun _=>?_;rw [aK,aC];refine aA.cb (fun _=>sV de) fun hx=>?_
 have he:e<s.length:=by
  rw [cT,XL] at hx;have hx:((e:Int)==(s.length:Int))=false:=hx.2;have:e≠s.length:=fun e=>by rw [e] at hx;simp at hx
  omega
 have h2:a+2<s.length:=om;refine aA.cb (fun _=>sV de) fun _=>aA.rq (Jl om om om) (aA.rq (jO om om) (aA.cb (fun _=>?_) fun _=>?_))
 ·rw [bh om]
  have hs:=sS s (a+2) e;exact IA om om (by show wP (.mk 4 (sl s ((a+2:Nat):Int) (e:Int)) 0 false [])<=_;rw [wT];omega)
 refine aA.bd (op8 F s e om he) fun⟨o1,o2,o3⟩ ho=>?_;dsimp only at ho⊢;by_cases R2:o1=0
 ·subst R2
  show aA _ (Option.bind _ _);rw [bR om om,aK,aC];refine aA.cb (fun _=>sV de) fun _=>aA.rq (jO om om) (aA.cb (fun _=>sV de) fun _=>aA.rq (jO om om) (aA.cb (fun _=>?_) fun _=>sV de));exact aA.bd (Ys F s (a+3) om om om) fun r _=>sV de
 ·obtain⟨k,k1,k2,k3⟩:=ho R2
  clear ho;subst k1;rw [show (o1==0)=false from by simpa using R2,aS,bG (x:=(e:Int)+(k:Int)) om,show (e:Int)+(k:Int)=((e+k:Nat):Int) from rfl];refine aA.cd (fun _=>sV de) fun _=>aA.bd (Ut F s (e+k) om om) fun b _=>aA.cb (fun _=>sV de) fun _=>?_;obtain⟨q,hq,Yu⟩:=aky F p;rw [Yu,aC];refine aA.bd (h1 (e+k) q _ _ om om) fun r hr=>Hs (fun h=>aA.ok fun e=>absurd e h) fun h0=>?_;obtain⟨f,f1,f2,f3,f4,f5,-⟩:=hr h0;have:=f5 (by unfold PL;omega);rw [f1,bh om];have hs:=sS s (a+2) e;exact IA om om (by show wP (.mk 4 (sl s ((a+2:Nat):Int) (e:Int)) o1 o2 r.fParts)<=_;rw [wN];omega)
theorem MM(hF:4*s.length+2000<F)(hl:s.length<=100000):∀n,Q1 F s n/\Q2 F s n/\Q3 F s n/\Q4 F s n/\Q5 F s n/\Q6 F s n
 | 0=>⟨fun _ _ _ _ _ h=>om,fun _ _ _ _ h=>om,fun _ _ _ _ _ h=>om,fun _ _ _ _ _ h=>om,fun _ _ _ _ h=>om,fun _ _ _ h=>om⟩
 | n+1=>by
  obtain⟨h1,h2,h3,h4,h5,h6⟩:=MM hF hl n;exact⟨adG hF hl h2,afJ hF hl h3 h6,aa9 hF hl h4,adH hF hl h1 h5,abb hF hl h1,aba hF hl h1⟩
end
theorem al8(F:Nat)(s:Bs)(hF:8000<F)(hl:s.length<=800):aA (fun r=>eN r.1<=2*s.length) (Cc F s):=by
 unfold Cc;rw [cf om];refine aA.bd ((MM (F:=F) (s:=s) om om F).1 0 0 1 0 om om) fun r q=>Hs (fun h=>aA.ok (by simp [eN])) fun h0=>?_;obtain⟨e,e1,e2,e3,e4,-⟩:=q h0;exact aA.ok (by show eN r.fParts<=_;omega)
theorem El(F:Nat)(s:Bs)(hF:40<F):aA (fun b=>b=true->s.length<=32) (eY F s):=by
 unfold eY;by_cases h:s=[]
 ·subst h;exact aA.ok fun _=>by decide
 have:0<s.length:=zb.2 h;rw [sx om,Jj];simp only [aK,aC];by_cases h2:s.length<=32
 ·refine aA.cb (fun _=>aA.ok fun h=>nomatch h) fun _=>?_
  refine aA.lp (fun i:Int=>∃n:Nat,i=(n:Int)/\n<=s.length) (fun i=>s.length-i.toNat) ⟨0,rfl,om⟩ (by show s.length-0<F;omega) ?_;rintro _ ⟨n,rfl,hn⟩ rc hrc;refine aA.cd (fun h=>?_) fun _=>aA.ok fun _=>h2;rw [bR om om,X4,aC,bh om];exact aA.cb (fun _=>aA.ok fun h=>nomatch h) fun _=>hrc _ ⟨n+1,rfl,om⟩ (by rw [bK,bK];omega)
 ·rw [show (decide (32<(s.length:Int)))=true from dT om,show (s==[])=false from by simpa using h]
  exact aA.ok fun h=>nomatch h
def jo(l:J bC)(n:Bs):bC×Bool:=(l.find? fun v=>v.fName==n).elim (bC.mk [] [] false false false,false) fun v=>(v,true)
theorem ya(F:Nat)(l:J bC)(n:Bs)(hF:l.length<F)(hl:l.length<=1000):qj F l n=some (jo l n):=by
 unfold qj;rw [qm l (fun i=>(i:Int)) (fun v=>v.fName==n) (fun i v=>some (v,true)) (some (bC.mk [] [] false false false,false)) (s:=(0:Int)) hF rfl (fun i h rc=>?_) (fun rc=>?_)]
 ·rw [MN];unfold jo;cases l.find? _<;>rfl
 ·rw [cO om,bR om om,bR om om,bK,gd h,bh om]
 ·rw [cf om]
def GV(l:J bC):Prop:=l.length<=128/\∀v∈l,v.fName.length<=60/\v.bL.length<=4096
theorem OP{l:J bC}(h:GV l)(n:Bs):(jo l n).1.fName.length<=60/\(jo l n).1.bL.length<=4096:=by
 unfold jo
 cases e:l.find? fun v=>v.fName==n with
 | none=>exact⟨fO _,fO _⟩
 | some v=>exact h.2 v (RI e)
def mz(v:bC):J bC->Bool->J bC
 | [],d=>cond d [] [v]
 | x::l,d=>cond (!d && !(Op.bytesLess x.fName v.fName)) [v] []++(cond (x.fName==v.fName) [] [x]++mz v l (d || !(Op.bytesLess x.fName v.fName)))
theorem Yv(v:bC):∀(l:J bC)(d:Bool),(mz v l d).length=(cond d 0 1)+(l.filter fun x=>!(x.fName==v.fName)).length
 | [],d=>by cases d<;>rfl
 | x::l,d=>by
  simp only [mz,ug,Yv v l,List.filter_cons];cases d<;>cases (x.fName==v.fName)<;>cases (Op.bytesLess x.fName v.fName)<;>simp<;>omega
theorem QD(v:bC):∀(l:J bC)(d:Bool),∀x∈mz v l d,x=v\/x∈l
 | [],d,x,h=>by cases d<;>simp [mz] at h;exact .inl h
 | y::l,d,x,h=>by
  simp only [mz,wX] at h;rcases h with h|h|h
  ·revert h;cases (!d && !(Op.bytesLess y.fName v.fName))<;>simp
   exact fun h=>.inl h
  ·revert h;cases (y.fName==v.fName)<;>simp
   exact fun h=>.inr (.inl h)
  ·rcases QD v l _ x h with h|h
   ·exact .inl h
   ·exact .inr (pX _ h)
theorem OQ(F:Nat)(l:J bC)(v:bC)(hF:l.length<F)(hl:l.length<=1000):yR F l v=some (mz v l false):=by
 have:aA (fun r=>r=mz v l false) (yR F l v):=by
  unfold yR;refine aA.lp (fun z:J bC×Bool×Int=>∃k:Nat,z.2.2=(k:Int)/\k<=l.length/\z.1.length<=2*k/\z.1++mz v (l.drop k) z.2.1=mz v l false) (fun z=>l.length-z.2.2.toNat) ⟨0,rfl,om,si,si⟩ (by show l.length-0<F;omega) ?_;rintro⟨o,d,_⟩ ⟨k,rfl,h1,h2,h3⟩ rc hrc;dsimp only at h2 h3 hrc⊢;refine aA.cd (fun h=>?_) fun h=>?_
  ·have hk:k<l.length:=om
   rw [MB hk] at h3;simp only [mz] at h3;rw [bR om om,bh om,bK,gd hk];simp only [aK,aC,cF]
   have go:∀(o':J bC)(d':Bool),o'.length<=2*k+1->o'++(cond (l[k].fName==v.fName) [] [l[k]]++mz v (l.drop (k+1)) d')=mz v l false ->
     aA (fun r=>r=mz v l false) (cond (!(l[k].fName==v.fName)) (rq ((decide (0<=(k:Int)))&&(decide ((k:Int)<(l.length:Int)))) (rq ((decide (o'.length+([l[k]]:J bC).length<=9223372036854775807))&&(decide ((o'.length+([l[k]]:J bC).length)*40<=140737488355328))) (rc (o'++([l[k]]:J bC),d',((k+1:Nat):Int))))) (rc (o',d',((k+1:Nat):Int)))):=by
    intro o' d' ho he;have hm:l.length-Int.toNat ((k+1:Nat):Int)<l.length-Int.toNat (k:Int):=by rw [bK,bK];omega
    cases e:(l[k].fName==v.fName) with
    | true=>
     rw [e] at he
     exact hrc _ ⟨k+1,rfl,hk,by dsimp only;omega,by simpa using he⟩ hm
    | false=>
     rw [e] at he;exact aA.rq (jO om om) (aA.rq (nJ (by show o'.length+1<=_;omega) de) (hrc _ ⟨k+1,rfl,hk,bE,by simpa using he⟩ hm))
   cases e:(!d && !(Op.bytesLess l[k].fName v.fName)) with
   | true=>
    rw [e] at h3;rw [cx] at e;have hd:d=false:=by simpa using e.1
    subst hd;rw [bq,cD (nJ (by show o.length+1<=_;omega) de),aC];rw [e.2,XH] at h3;refine aA.rq (jO om om) ?_
    exact go _ _ bE (by simpa using h3)
   | false=>
    rw [e] at h3;rw [aS,aC]
    have hd:(d || !(Op.bytesLess l[k].fName v.fName))=d:=by
     cases d
     ·simpa using e
     ·rfl
    rw [hd] at h3;refine aA.rq (jO om om) ?_;exact go o d om (by simpa using h3)
  ·obtain rfl:k=l.length:=om
   rw [Qv] at h3;simp only [mz] at h3
   cases d with
   | true=>exact aA.ok (by simpa using h3)
   | false=>exact aA.rq (nJ (by show o.length+1<=_;omega) de) (aA.ok (by simpa using h3))
 obtain⟨r,h,e⟩:=this;rw [e,h]
theorem ack{l:J bC}(h:GV l){v:bC}(hn:v.fName.length<=60/\v.bL.length<=4096)(hc:(jo l v.fName).2=true\/l.length<128):GV (mz v l false):=by
 refine⟨?_,fun x hx=>?_⟩
 ·rw [Yv]
  show 1+_<=_;have h1:(l.filter fun x=>!(x.fName==v.fName)).length<=l.length:=List.length_filter_le _ _;rcases hc with hc|hc
  ·unfold jo at hc
   cases e:l.find? fun x=>x.fName==v.fName with
   | none=>rw [e] at hc;exact absurd hc de
   | some y=>
    have hy:=RI e;have hp:(y.fName==v.fName)=true:=XI (p:=fun x:bC=>x.fName==v.fName) e
    have:(l.filter fun x=>!(x.fName==v.fName)).length<l.length:=by
     rcases XT (l.filter fun x=>!(x.fName==v.fName)).length l.length with h|h
     ·exact h
     ·have:=List.length_filter_eq_length_iff.1 (RN h1 h) y hy
      rw [hp] at this;exact absurd this de
    have:=h.1;omega
  ·omega
 ·rcases QD v l false x hx with rfl|hx
  ·exact hn
  ·exact h.2 x hx
theorem anZ(F:Nat){l:J bC}(h:GV l)(n v:Bs)(hF:1000<F):aA (fun r=>GV r.1) (sA F l n v):=by
 have hl:=h.1;unfold sA;rw [ya F l n om om,aC];refine aA.bd (El F n om) fun b hb=>aA.cb (fun _=>aA.ok h) fun hb'=>aA.cb (fun _=>aA.ok h) fun _=>aA.cd (fun _=>aA.ok h) fun hv=>?_;have hn:n.length<=32:=hb (by simpa using hb');rw [aK,aC];refine aA.cb (fun _=>aA.ok h) fun hc=>?_;rw [OQ F l _ om om,aC];refine aA.ok (ack h ⟨by show n.length<=60;omega,by show v.length<=4096;omega⟩ ?_);show (jo l n).2=true\/_
 cases e:(jo l n).2 with
 | true=>exact .inl rfl
 | false=>rw [e] at hc;exact .inr (by have:decide (128<=(l.length:Int))=false:=hc;have:=XM this;omega)
theorem al9(F:Nat){l:J bC}(h:GV l)(n:Bs)(a b:Bool)(hF:1000<F):aA (fun r=>GV r.1) (og F l n a b):=by
 have hl:=h.1;unfold og;refine aA.bd (El F n om) fun b hb=>aA.cb (fun _=>aA.ok h) fun hb'=>?_;have hn:n.length<=32:=hb (by simpa using hb');rw [ya F l n om om,aC,aK,aC];refine aA.cb (fun _=>aA.ok h) fun hc=>?_;rw [aK,aC,aK,aC,OQ F l _ om om,aC];refine aA.ok (ack h ⟨by show n.length<=60;omega,(OP h n).2⟩ ?_);show (jo l n).2=true\/_
 cases e:(jo l n).2 with
 | true=>exact .inl rfl
 | false=>rw [e] at hc;exact .inr (by have:decide (128<=(l.length:Int))=false:=hc;have:=XM this;omega)
theorem afK(F:Nat)(l:J Bs)(g:Bs)(hF:l.length<F)(h1:l.length<=100)(h2:∀x∈l,x.length<=60)(hg:g.length<=1):aA (fun r=>r.length<=61*l.length) (qn F l g):=by
 unfold qn;refine aA.lp (fun z:Bs×Int=>∃k:Nat,z.2=(k:Int)/\k<=l.length/\z.1.length<=61*k) (fun z=>l.length-z.2.toNat) ⟨0,rfl,om,si⟩ (by show l.length-0<F;omega) ?_;rintro⟨o,_⟩ ⟨k,rfl,h3,h4⟩ rc hrc;dsimp only at h4 hrc⊢;refine aA.cd (fun h=>?_) fun _=>aA.ok (by show o.length<=_;omega);have hk:k<l.length:=om;refine aA.bd (P:=fun u:Bs=>u.length<=o.length+1) (aA.cd (fun _=>aA.rq (dQ om) (aA.ok (by rw [ug];omega))) fun _=>aA.ok om) fun u hu=>?_;have hx:=h2 _ (kz hk);rw [bR om om,bK,gd hk,bh om];exact aA.rq (decide_eq_true om) (hrc _ ⟨k+1,rfl,hk,by dsimp only;rw [List.length_append];omega⟩ (by show l.length-Int.toNat ((k+1:Nat):Int)<l.length-Int.toNat (k:Int);omega))
theorem afL(F:Nat){l:J bC}(h:GV l)(hF:1000<F):aA (fun r=>r.length<=1) (sW F l):=by
 have hl:=h.1;unfold sW;rw [ya F l _ om om,aC];refine aA.cb (fun _=>aA.ok de) fun _=>?_
 cases e:((jo l [73,70,83]).1.bL==[]) with
 | true=>exact aA.ok (fO _)
 | false=>
  have:(jo l [73,70,83]).1.bL≠[]:=by simpa using e
  have:=zb.2 this;exact aA.rq (dQ om) (aA.ok (sS _ 0 1))
theorem akA(F:Nat)(o:Int)(hF:20<F):aA (fun r=>r.length<=8) (tV F o):=by
 unfold tV;refine aA.lp (fun z:Bs×Int=>∃k:Nat,z.2=(k:Int)/\k<=8/\z.1.length<=k) (fun z=>8-z.2.toNat) ⟨0,rfl,om,si⟩ (by show 8-0<F;omega) ?_;rintro⟨u,_⟩ ⟨k,rfl,h3,h4⟩ rc hrc;dsimp only at h4 hrc⊢;have L1:([32,128,1,8,64,16,2,4]:J Int).length=8:=rfl;have L2:([97,67,101,102,109,110,117,120]:Bs).length=8:=rfl;refine aA.cd (fun h=>?_) fun _=>aA.ok (by show u.length<=_;omega);rw [bR om om,bh om];have hs:=sS [97,67,101,102,109,110,117,120] k (k+1);have hm:8-Int.toNat ((k+1:Nat):Int)<8-Int.toNat (k:Int):=om;exact aA.cb (fun _=>aA.rq (Jl om om om) (aA.rq (decide_eq_true om) (hrc _ ⟨k+1,rfl,om,by dsimp only;rw [List.length_append];omega⟩ hm))) fun _=>hrc _ ⟨k+1,rfl,om,by dsimp only;omega⟩ hm
end Go.Proofs.YthmndfnkdgmenaaGreatDoor
