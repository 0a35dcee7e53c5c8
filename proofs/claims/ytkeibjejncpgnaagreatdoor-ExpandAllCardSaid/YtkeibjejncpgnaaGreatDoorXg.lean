import Derived.Test.YtkeibjejncpgnaaGreatDoorZ2
import Derived.Test.YtkeibjejncpgnaaGreatDoorSo
import Derived.Test.YtkeibjejncpgnaaGreatDoorPe
set_option linter.all false
namespace Go.Proofs.YtkeibjejncpgnaaGreatDoor
open Go.RT
set_option maxRecDepth 100000
theorem FG (F:Nat) (c:Int):ju F c=some (decide (48≤c)&&decide (c≤57)):=by
 unfold ju;rw [ax,cF];rfl
theorem ajQ (F:Nat) (c:Int):vJ F c=some ((decide (97≤c)&&decide (c≤122))||(decide (65≤c)&&decide (c≤90))):=by
 unfold vJ;simp only [ax,cF,cT,aE]
def am1 (c:Int):Bool:=((decide (97≤c)&&decide (c≤122))||(decide (65≤c)&&decide (c≤90)))||(decide (48≤c)&&decide (c≤57))||c==95
theorem Yd (F:Nat) (c:Int):oY F c=some (am1 c):=by
 unfold oY;rw [ajQ];simp only [FG,ax,cF,cT,aE];rfl
theorem anY (F:Nat) (l:Bs) (c:Int) (hF:l.length<F) (hl:l.length≤1000):∃b,uJ F l c=some b:=by
 unfold uJ
 have:af (fun _:Bool=>True) (uJ F l c):=by
  unfold uJ;refine af.lp (fun i:Int=>∃n:Nat,i=(n:Int)∧n≤l.length) (fun i=>l.length - i.toNat) ⟨0,rfl,om⟩ (by show l.length - 0<F;omega) ?_;rintro _ ⟨n,rfl,hn⟩ rc hrc;refine af.cd (fun h=>?_) fun _=>af.ok trivial;refine af.rq (cM om om) (af.cb (fun _=>af.ok trivial) fun _=>?_);rw [aM om];exact hrc _ ⟨n+1,rfl,om⟩ (by rw [bf,bf];omega)
 obtain⟨b,-,h⟩:=this;exact⟨b,h⟩
theorem G6 (F:Nat) (c:Int) (hF:10<F):∃b,iS F c=some b:=by
 obtain⟨b,hb⟩:=anY F [64,42,35,63,45,36,33] c (by show 7<F;omega) de;unfold iS;rw [FG,aE,hb,aE,ax];exact⟨_,rfl⟩
def EX (s:Bs) (a:Nat) (b:Bool):Prop:=(b=true→a+1<s.length∧s.getD a 0=36)∧(s.getD a 0=36→s.getD (a+1) 0=40→b=true)
theorem anZ {s:Bs} {a:Nat} (h:s.getD a 0=40):a<s.length:=by
 by_cases e:a<s.length
 ·exact e
 ·rw [ais,uX om] at h;exact absurd h de
theorem alz (F:Nat) (s:Bs) (a:Nat) (hF:10<F) (hl:s.length≤1000) (ha:a<s.length):af (EX s a) (mh F s (a:Int)):=by
 unfold mh;rw [aM om];by_cases h:a+1<s.length
 ·rw [cf om,bu om om,aE,bf,Pf _ 36 de]
  refine af.cb (fun h0=>af.ok ⟨fun h=>(nomatch h),fun h'=>?_⟩) fun h0=>?_
  ·have h0:(!(s.getD a 0==(36:UInt8)))=true:=h0
   rw [h'] at h0;exact absurd h0 de
  have h0:(!(s.getD a 0==(36:UInt8)))=false:=h0;have h0:s.getD a 0=36:=by simpa using h0
  rw [bu om om,Yd];obtain⟨b,hb⟩:=G6 F ((s.getD (Int.toNat ((a+1:Nat):Int)) 0).toNat:Int) hF;rw [hb];simp only [ax,aE,cT];refine af.ok ⟨fun _=>⟨h,h0⟩,fun _ h4=>?_⟩;rw [bf,h4];exact Bool.or_true _
 ·rw [ctq om,aE]
  exact af.ok ⟨fun h=>(nomatch h),fun _ h4=>absurd (anZ h4) h⟩
theorem afc (F:Nat) (s:Bs) (a:Nat) (hF:s.length<F) (hl:s.length≤1000) (ha:a≤s.length):af (fun r=>∃e:Nat,r=(e:Int)∧a≤e∧e≤s.length) (oZ F s (a:Int)):=by
 unfold oZ;refine af.lp (fun i:Int=>∃n:Nat,i=(n:Int)∧a≤n∧n≤s.length) (fun i=>s.length - i.toNat) ⟨a,rfl,om,ha⟩ (by rw [bf];omega) ?_;rintro _ ⟨n,rfl,h1,h2⟩ rc hrc;by_cases h:n<s.length
 ·rw [ctq om,bu om om,Yd,aE,aE]
  refine af.cb (fun _=>?_) fun _=>af.ok ⟨n,rfl,h1,h2⟩;rw [aM om];exact hrc _ ⟨n+1,rfl,om,om⟩ (by rw [bf,bf];omega)
 ·rw [cf om,aE]
  exact af.ok ⟨n,rfl,h1,h2⟩
theorem aia (F:Nat) (s:Bs) (a:Nat) (hF:s.length<F) (hl:s.length≤1000) (ha:a≤s.length):af (fun r=>∃e:Nat,r=(e:Int)∧a≤e∧e≤s.length∧(s.getD a 0≠10→a<s.length→a<e)) (ue F s (a:Int)):=by
 unfold ue;refine af.lp (fun i:Int=>∃n:Nat,i=(n:Int)∧a≤n∧n≤s.length) (fun i=>s.length - i.toNat) ⟨a,rfl,om,ha⟩ (by rw [bf];omega) ?_;rintro _ ⟨n,rfl,h1,h2⟩ rc hrc;by_cases h:n<s.length
 ·rw [ctq om,bu om om,aE]
  refine af.cb (fun _=>?_) fun h0=>af.ok ⟨n,rfl,h1,h2,fun h3 _=>?_⟩
  ·rw [aM om]
   exact hrc _ ⟨n+1,rfl,om,om⟩ (by rw [bf,bf];omega)
  ·by_cases e:a=n
   ·subst e
    rw [bf,Pf _ 10 de] at h0;exact absurd (by simpa using h0) h3
   ·omega
 ·rw [cf om,aE]
  exact af.ok ⟨n,rfl,h1,h2,fun _ h4=>om⟩
theorem ac2 (F:Nat) (s:Bs) (a:Nat) (hl:s.length≤1000) (ha:a≤s.length):af (fun b=>b=true→a+1<s.length) (vK F s (a:Int)):=by
 unfold vK;rw [aM om];by_cases h:a+1<s.length
 ·rw [ctq om,bu om om,aE,bu om om,ax]
  exact af.ok fun _=>h
 ·rw [cf om]
  exact af.ok fun h=>nomatch h
theorem agr (F:Nat) (c:Int):tF F c=some (c==9||c==32):=by unfold tF;rw [ax,cT];rfl
theorem alA (F:Nat) (c:Int):∃b,qY F c=some b:=by unfold qY;simp only [ax,cT,aE];exact⟨_,rfl⟩
def PQ (s:Bs) (a k:Nat) (r:Int × Int):Prop:=r.2=0→∃e:Nat,r.1=(e:Int)∧a+k≤e∧e≤s.length
theorem PQ.err {s:Bs} {a k:Nat} {x e:Int} (h:e≠0):PQ s a k (x,e):=fun h'=>absurd h' h
theorem PQ.le {s:Bs} {a k j:Nat} {r:Int × Int} (h:PQ s a k r) (hj:j≤k):PQ s a j r:=fun e=>by
 obtain⟨e,h1,h2,h3⟩:=h e;exact⟨e,h1,om,h3⟩
theorem af.pair {A B:Type} {x:Option (A × B)} {Q:A × B→Prop} (h:af Q x):af Q (x.bind fun y=>some (y.1,y.2)):=by
 obtain⟨r,h,rfl⟩:=h;exact⟨_,h,rfl⟩
theorem ajR (F:Nat) (s:Bs) (a:Nat) (hF:s.length<F) (hl:s.length≤1000) (ha:a<s.length):af (PQ s a 2) (vL F s (a:Int)):=by
 unfold vL;rw [aM om];refine af.lp (fun i:Int=>∃n:Nat,i=(n:Int)∧a+1≤n∧n≤s.length) (fun i=>s.length - i.toNat) ⟨a+1,rfl,om,ha⟩ (by rw [bf];omega) ?_;rintro _ ⟨n,rfl,h1,h2⟩ rc hrc;refine af.cd (fun h=>?_) fun _=>af.ok (PQ.err de);rw [bu om om,aM om];exact af.cb (fun _=>af.ok fun _=>⟨n+1,rfl,om,om⟩) fun _=>hrc _ ⟨n+1,rfl,om,om⟩ (by rw [bf,bf];omega)
theorem alB (F:Nat) (s:Bs) (a:Nat) (hF:s.length+2<F) (hl:s.length≤1000) (ha:a<s.length):af (PQ s a 2) (o4 F s (a:Int)):=by
 unfold o4;rw [aM om];refine af.lp (fun i:Int=>∃n:Nat,i=(n:Int)∧a+1≤n∧n≤s.length+1) (fun i=>s.length+1 - i.toNat) ⟨a+1,rfl,om,om⟩ (by rw [bf];omega) ?_;rintro _ ⟨n,rfl,h1,h2⟩ rc hrc;refine af.cd (fun h=>?_) fun _=>af.ok (PQ.err de);rw [bu om om,aM om];refine af.cb (fun _=>af.ok fun _=>⟨n+1,rfl,om,om⟩) fun _=>?_;rw [bu om om,ax,aE];refine af.cb (fun _=>af.ok (PQ.err de)) fun hb=>?_;rw [bu om om];refine af.cb (fun h9=>?_) fun _=>hrc _ ⟨n+1,rfl,om,om⟩ (by rw [bf,bf];omega);rw [aM om];exact hrc _ ⟨n+2,rfl,om,om⟩ (by rw [bf,bf];omega)
def P1 (F:Nat) (s:Bs) (n:Nat):Prop:=∀(a:Nat) (p:Int),a<s.length→4 * (s.length - a)+4≤n→af (fun r=>PQ s a 1 r∧(s.getD a 0=39→p=0→PQ s a 2 r)∧(s.getD a 0=96→PQ s a 2 r)∧(s.getD a 0=36→s.getD (a+1) 0=40→PQ s a 3 r)) ((bP F n).1 s (a:Int) p)
def P2 (F:Nat) (s:Bs) (n:Nat):Prop:=∀(a:Nat) (p:Int),a+1<s.length→4 * (s.length - a)+3≤n→af (fun r=>PQ s a 1 r∧(s.getD (a+1) 0=40→PQ s a 3 r)) ((bP F n).2.1 s (a:Int) p)
def P3 (F:Nat) (s:Bs) (n:Nat):Prop:=∀(a:Nat) (p:Int),a+1<s.length→4 * (s.length - a)+2≤n→af (PQ s a 3) ((bP F n).2.2.1 s (a:Int) p)
def P4 (F:Nat) (s:Bs) (n:Nat):Prop:=∀(a:Nat),a+2<s.length→4 * (s.length - a)+2≤n→af (PQ s a 3) ((bP F n).2.2.2.1 s (a:Int))
def P5 (F:Nat) (s:Bs) (n:Nat):Prop:=∀(a:Nat),a+1<s.length→4 * (s.length - a)+2≤n→af (PQ s a 3) ((bP F n).2.2.2.2.1 s (a:Int))
def P6 (F:Nat) (s:Bs) (n:Nat):Prop:=∀(a:Nat),a<s.length→4 * (s.length - a)+2≤n→af (PQ s a 2) ((bP F n).2.2.2.2.2 s (a:Int))
section
variable {F : Nat} {s : Bs} {n : Nat}
theorem ags (hF:s.length+20<F) (hl:s.length≤1000) (h2:P2 F s n) (h6:P6 F s n):P1 F s (n+1):=by
 intro a p ha hn;show af _ (B3 F (bP F n) s (a:Int) p);unfold B3;rw [bu om om,aM om,ax,aE]
 have hb:∀(k:Nat),k<256→∀b:Bool,((((s.getD (Int.toNat (a:Int)) 0).toNat:Int)==(no_index (OfNat.ofNat k:Int)))=b→(s.getD a 0==(OfNat.ofNat k:UInt8))=b):=by
  intro k hk b h;rw [bf,mW _ k hk] at h;exact h
 refine af.cb (fun _=>af.ok ⟨PQ.err de,fun _ _=>PQ.err de,fun _=>PQ.err de,fun _ _=>PQ.err de⟩) fun hx=>?_;refine af.cb (fun h=>?_) fun g1=>?_
 ·have:=hb 92 de _ h
  have e:s.getD a 0=92:=by simpa using this
  rw [h] at hx;have hx':(((a+1:Nat):Int)==(s.length:Int))=false:=hx;have hne:a+1≠s.length:=fun e=>by rw [e] at hx';simp at hx'
  rw [cr om];have q:PQ s a 2 ((a:Int)+2,0):=fun _=>⟨a+2,rfl,om,om⟩;exact af.ok ⟨q.le om,fun _ _=>q,fun _=>q,fun h=>by rw [e] at h;exact absurd h de⟩
 refine af.cb (fun h=>?_) fun g2=>?_
 ·have e:s.getD a 0=96:=by simpa using hb 96 de _ h
  exact ((alB F s a om hl ha).mono fun r q=>⟨q.le om,fun _ _=>q,fun _=>q,fun h=>by rw [e] at h;exact absurd h de⟩).pair
 have n96:s.getD a 0≠96:=fun e=>by have:=hb 96 de _ g2;rw [e] at this;exact absurd this de
 refine af.bd (alz F s a om hl ha) fun b hE=>?_;refine af.cb (fun h=>?_) fun g3=>?_
 ·obtain⟨h1,h3⟩:=hE.1 h
  exact ((h2 a p h1 om).mono fun r q=>⟨q.1,fun h=>by rw [h3] at h;exact absurd h de,fun h=>by rw [h3] at h;exact absurd h de,fun _ h=>q.2 h⟩).pair
 have n40:s.getD a 0=36→s.getD (a+1) 0=40→False:=fun h h'=>by have:=hE.2 h h';rw [g3] at this;cases this
 simp only [ax,aE,cF];refine af.cb (fun h=>?_) fun g4=>?_
 ·exact ((ajR F s a om hl ha).mono fun r q=>⟨q.le om,fun _ _=>q,fun _=>q,fun h h'=>(n40 h h').elim⟩).pair
 refine af.cb (fun h=>?_) fun g5=>?_
 ·rw [aV] at h
  have e:s.getD a 0=34:=by simpa using hb 34 de _ h.1
  exact ((h6 a ha om).mono fun r q=>⟨q.le om,fun _ _=>q,fun _=>q,fun h h'=>(n40 h h').elim⟩).pair
 refine af.ok ⟨fun _=>⟨a+1,rfl,om,om⟩,fun h e=>?_,fun h=>(n96 h).elim,fun h h'=>(n40 h h').elim⟩;rw [bf,h,e] at g4;exact absurd g4 de
theorem aib (hF:s.length+20<F) (hl:s.length≤1000) (h3:P3 F s n) (h4:P4 F s n) (h5:P5 F s n):P2 F s (n+1):=by
 intro a p ha hn;show af _ (sX F (bP F n) s (a:Int) p);unfold sX;rw [aM om,bu om om,cr om,show (a:Int)+2=((a+2:Nat):Int) from rfl];refine af.cb (fun _=>((h3 a p ha om).mono fun r q=>⟨q.le om,fun _=>q⟩).pair) fun _=>?_;rw [ax,aE,cF]
 have main:af (fun r=>PQ s a 1 r∧(s.getD (a+1) 0=40→PQ s a 3 r)) (cond (((s.getD (Int.toNat ((a+1:Nat):Int)) 0).toNat:Int)==40)
   (((bP F n).2.2.2.2.1 s (a:Int)).bind fun x5=>some (x5.1,x5.2))
   ((iS F ((s.getD (Int.toNat ((a+1:Nat):Int)) 0).toNat:Int)).bind fun x6=>cond x6 (some (((a+2:Nat):Int),0)) ((oZ F s ((a+1:Nat):Int)).bind fun x7=>some (x7,0)))):=by
  refine af.cb (fun _=>((h5 a ha om).mono fun r q=>⟨q.le om,fun _=>q⟩).pair) fun g=>?_;have n40:s.getD (a+1) 0=40→False:=fun h=>by rw [bf,h] at g;exact absurd g de
  obtain⟨b,hb⟩:=G6 F ((s.getD (Int.toNat ((a+1:Nat):Int)) 0).toNat:Int) om;rw [hb,aE];refine af.cb (fun _=>af.ok ⟨fun _=>⟨a+2,rfl,om,om⟩,fun h=>(n40 h).elim⟩) fun _=>?_;refine af.bd (afc F s (a+1) om hl om) fun r ⟨e,h1,h2,h3⟩=>af.ok ⟨fun _=>⟨e,h1,om,h3⟩,fun h=>(n40 h).elim⟩
 by_cases h:a+2<s.length
 ·rw [show decide (((a+2:Nat):Int)<(s.length:Int))=true from dT om,XL,XL,mS om,ax,aE]
  exact af.cb (fun _=>((h4 a h om).mono fun r q=>⟨q.le om,fun _=>q⟩).pair) fun _=>main
 ·rw [show decide (((a+2:Nat):Int)<(s.length:Int))=false from dF om,Bool.and_false,cond_false,aE,cond_false]
  exact main
theorem step1 (h1:P1 F s n) {i:Nat} {p:Int} (hi:i<s.length) (hn:4 * (s.length - i)+4≤n) {R:Type} {Q:R→Prop} {k:Int × Int→Option R} (hk:∀r,PQ s i 1 r→af Q (k r)):af Q (((bP F n).1 s (i:Int) p).bind k) :=
 af.bd (h1 i p hi hn) fun r q=>hk r q.1
theorem zi {x:Int} {R:Type} {Q:R→Prop} {A B:Option R} (a:x≠0→af Q A) (b:x=0→af Q B):af Q (cond (x != 0) A B):=by
 by_cases h:x=0
 ·subst h;exact b rfl
 ·rw [show (x != 0)=true from by simpa using h];exact a h
theorem afd (hF:s.length+20<F) (hl:s.length≤1000) (h1:P1 F s n):P3 F s (n+1):=by
 intro a p ha hn;show af _ (xP F (bP F n) s (a:Int) p);unfold xP;rw [cr om,show (a:Int)+2=((a+2:Nat):Int) from rfl];refine af.lp (fun i:Int=>∃n:Nat,i=(n:Int)∧a+2≤n∧n≤s.length) (fun i=>s.length - i.toNat) ⟨a+2,rfl,om,ha⟩ (by rw [bf];omega) ?_;rintro _ ⟨i,rfl,g1,g2⟩ rc hrc;refine af.cd (fun h=>?_) fun _=>af.ok (PQ.err de);rw [bu om om,aM om];refine af.cb (fun _=>af.ok fun _=>⟨i+1,rfl,om,om⟩) fun _=>?_;rw [bu om om,ax,aE];refine af.cb (fun _=>af.ok (PQ.err de)) fun _=>step1 h1 om om fun r q=>zi (fun h=>af.ok (PQ.err h)) fun h=>?_;obtain⟨e,e1,e2,e3⟩:=q h;rw [e1];exact hrc _ ⟨e,rfl,om,e3⟩ (by rw [bf,bf];omega)
theorem aic (hF:s.length+20<F) (hl:s.length≤1000) (h1:P1 F s n):P6 F s (n+1):=by
 intro a ha hn;show af _ (xQ F (bP F n) s (a:Int));unfold xQ;rw [aM om];refine af.lp (fun i:Int=>∃n:Nat,i=(n:Int)∧a+1≤n∧n≤s.length) (fun i=>s.length - i.toNat) ⟨a+1,rfl,om,ha⟩ (by rw [bf];omega) ?_;rintro _ ⟨i,rfl,g1,g2⟩ rc hrc;refine af.cd (fun h=>?_) fun _=>af.ok (PQ.err de);rw [bu om om,aM om];refine af.cb (fun _=>af.ok fun _=>⟨i+1,rfl,om,om⟩) fun _=>step1 h1 om om fun r q=>zi (fun h=>af.ok (PQ.err h)) fun h=>?_;obtain⟨e,e1,e2,e3⟩:=q h;rw [e1];exact hrc _ ⟨e,rfl,om,e3⟩ (by rw [bf,bf];omega)
theorem afe (hF:s.length+20<F) (hl:s.length≤1000) (h1:P1 F s n):P4 F s (n+1):=by
 intro a ha hn;show af _ (qZ F (bP F n) s (a:Int));unfold qZ;rw [cr om,show (a:Int)+3=((a+3:Nat):Int) from rfl];refine af.lp (fun i:Int × Int=>∃n:Nat,i.1=(n:Int)∧a+3≤n∧n≤s.length) (fun i=>s.length - i.1.toNat) ⟨a+3,rfl,om,ha⟩ (by show s.length - ((a+3:Nat):Int).toNat<F;rw [bf];omega) ?_;rintro⟨_,o⟩ ⟨i,rfl,g1,g2⟩ rc hrc;dsimp only at g1 g2 hrc ⊢;refine af.cd (fun h=>?_) fun _=>af.ok (PQ.err de);rw [bu om om,aM om];refine af.jj (P:=fun x=>∀r,x=.inr r→PQ s a 3 r) ?_ (fun o' _=>?_) fun r h=>h r rfl
 ·have ok:∀o':Int,af (fun x:Int ⊕ (Int × Int)=>∀r,x=.inr r→PQ s a 3 r) (some (.inl o')):=fun o'=>af.ok fun r h=>nomatch h
  refine af.cb (fun _=>ok _) fun _=>?_;rw [ax,aE];refine af.cb (fun _=>ok _) fun _=>?_;rw [ax,aE,cF];refine af.cb (fun _=>af.ok fun r e=>by cases e;exact PQ.err de) fun hx=>?_
  have fin:af (fun x:Int ⊕ (Int × Int)=>∀r,x=.inr r→PQ s a 3 r) (cond (((s.getD (Int.toNat (i:Int)) 0).toNat:Int)==41) (some (.inr ((i:Int),6))) (some (.inl o))) :=
   af.cb (fun _=>af.ok fun r e=>by cases e;exact PQ.err de) fun _=>ok _
  cases hc:(((s.getD (Int.toNat (i:Int)) 0).toNat:Int)==41) with
  | false=>rw [hc] at fin;exact fin
  | true =>
   rw [hc] at hx fin
   have hne:i+1≠s.length:=fun e=>by
    have hx:(((i+1:Nat):Int)==(s.length:Int))=false:=hx;rw [e] at hx;simp at hx
   rw [cond_true,bu om om,aE];refine af.cb (fun _=>af.ok fun r e=>?_) fun _=>fin;cases e;rw [cr om];exact fun _=>⟨i+2,rfl,om,om⟩
 ·refine step1 h1 om om fun r q=>zi (fun h=>af.ok (PQ.err h)) fun h=>?_
  obtain⟨e,e1,e2,e3⟩:=q h;rw [e1];exact hrc _ ⟨e,rfl,om,e3⟩ (by show s.length - ((e:Nat):Int).toNat<s.length - ((i:Nat):Int).toNat;rw [bf,bf];omega)
theorem af.ret {σ R:Type} {x:Option R} {Q:R→Prop} (h:af Q x):af (fun z:σ ⊕ R=>∃r,Q r∧z=.inr r) (uz x):=by
 obtain⟨r,h,rfl⟩:=h;exact⟨.inr r,⟨r,h,rfl⟩,rfl⟩
theorem aid (hF:s.length+20<F) (hl:s.length≤1000) (h1:P1 F s n):P5 F s (n+1):=by
 intro a ha hn;show af _ (vM F (bP F n) s (a:Int));unfold vM;rw [cr om,show (a:Int)+2=((a+2:Nat):Int) from rfl];refine af.lp (fun i:Int × Int × Bool=>∃n:Nat,i.1=(n:Int)∧a+2≤n∧n≤s.length) (fun i=>s.length - i.1.toNat) ⟨a+2,rfl,om,ha⟩ (by show s.length - ((a+2:Nat):Int).toNat<F;rw [bf];omega) ?_;rintro⟨_,o,bg⟩ ⟨i,rfl,g1,g2⟩ rc hrc;dsimp only at g1 g2 hrc ⊢
 have gF:∀(e:Nat) o' b',i<e→e≤s.length→af (PQ s a 3) (rc ((e:Int),o',b')):=fun e o' b' h1 h2 =>
  hrc _ ⟨e,rfl,om,h2⟩ (by show s.length - ((e:Nat):Int).toNat<s.length - ((i:Nat):Int).toNat;rw [bf,bf];omega)
 refine af.cd (fun h=>?_) fun _=>af.ok (PQ.err de);have h:i<s.length:=om;rw [bu om om,aM om];refine af.jj (P:=fun x=>(∀z,x=.inl z→z.1=(i:Int))∧∀r,x=.inr r→PQ s a 3 r) ?_ (fun z hz=>?_) fun r h=>h.2 r rfl
 ·have ok:∀o':Int,af (fun x:(Int × Int) ⊕ (Int × Int)=>(∀z,x=.inl z→z.1=(i:Int))∧∀r,x=.inr r→PQ s a 3 r) (some (.inl ((i:Int),o'))):=fun o'=>af.ok ⟨fun z e=>by cases e;rfl,fun r h=>nomatch h⟩
  have rt:∀ {x:Option (Int × Int)},af (PQ s a 3) x→af (fun x:(Int × Int) ⊕ (Int × Int)=>(∀z,x=.inl z→z.1=(i:Int))∧∀r,x=.inr r→PQ s a 3 r) (uz x):=fun h=>h.ret.mono fun z ⟨r,q,e⟩=>by
   subst e;exact⟨fun z e=>(nomatch e),fun r' e=>by cases e;exact q⟩
  rw [ax,aE];refine af.cb (fun hc=>?_) fun _=>?_
  ·have h35:s.getD i 0=35:=by
    rw [cF,aV,bf,mW _ 35 de] at hc;simpa using hc.2
   refine af.bd (aia F s i om hl om) fun r ⟨e,e1,e2,e3,e4⟩=>rt ?_;rw [e1];exact gF e _ _ (e4 (by rw [h35];decide) h) e3
  refine af.bd (ac2 F s i hl om) fun b hb=>af.cb (fun hb'=>rt ?_) fun _=>?_
  ·have:=hb hb'
   rw [cr om];exact gF (i+2) _ _ om om
  rw [ax,aE];refine af.cb (fun _=>af.ok ⟨fun z e=>(nomatch e),fun r e=>?_⟩) fun _=>af.cb (fun _=>ok _) fun _=>af.cb (fun _=>ok _) fun _=>ok _;cases e;exact fun _=>⟨i+1,rfl,om,om⟩
 ·obtain⟨ob,HX⟩:=alA F ((s.getD (Int.toNat (i:Int)) 0).toNat:Int)
  rw [agr,HX];simp only [aE,ax];obtain⟨z1,z2⟩:=z;obtain rfl:z1=(i:Int):=hz.1 _ rfl;refine step1 h1 h om fun r q=>zi (fun h=>af.ok (PQ.err h)) fun h=>?_;obtain⟨e,e1,e2,e3⟩:=q h;rw [e1];exact gF e _ _ om e3
theorem ac3 (hF:s.length+20<F) (hl:s.length≤1000):∀n,P1 F s n∧P2 F s n∧P3 F s n∧P4 F s n∧P5 F s n∧P6 F s n
 | 0=>⟨fun _ _ _ h=>om,fun _ _ _ h=>om,fun _ _ _ h=>om,fun _ _ h=>om,fun _ _ h=>om,fun _ _ h=>om⟩
 | n+1=>by
  obtain⟨h1,h2,h3,h4,h5,h6⟩:=ac3 hF hl n;exact⟨ags hF hl h2 h6,aib hF hl h3 h4 h5,afd hF hl h1,afe hF hl h1,aid hF hl h1,aic hF hl h1⟩
end
theorem G7 (F:Nat) (s:Bs) (a:Nat) (p:Int) (hF:4 * s.length+20<F) (hl:s.length≤1000) (ha:a<s.length) :
  af (fun r=>PQ s a 1 r∧(s.getD a 0=39→p=0→PQ s a 2 r)∧(s.getD a 0=96→PQ s a 2 r)∧(s.getD a 0=36→s.getD (a+1) 0=40→PQ s a 3 r)) (sn F s (a:Int) p) :=
 (ac3 om hl F).1 a p ha om
mutual
def wP:TPart→Nat
 | .mk _ t _ _ ps=>1+t.length+dP ps
def dP:List TPart→Nat
 | []=>0
 | p::l=>wP p+dP l
end
theorem uK:∀(l m:List TPart),dP (l++m)=dP l+dP m
 | [],m=>by simp [dP]
 | p::l,m=>by simp only [je,dP,uK l m];omega
theorem FH (p:TPart):1+p.fText.length+dP p.fParts=wP p:=by cases p;rfl
theorem Bp:∀(l:List TPart),l.length≤dP l
 | []=>by simp [dP]
 | p::l=>by have:=Bp l;have:=FH p;simp only [jd,dP];omega
theorem B4 (l:List TPart) (k:Nat):dP (l.take k)+dP (l.drop k)=dP l:=by rw [←uK,um]
theorem QC {l:List TPart} {k:Nat} (h:k<l.length):dP (l.take (k+1))=dP (l.take k)+wP (l.getD k dn):=by
 rw [jT h,uK,gd h];simp only [dP];omega
theorem SZ {l:List TPart} {k:Nat} (h:k<l.length):wP (l.getD k dn)≤dP l:=by
 have h1:=QC h;have h2:=B4 l (k+1);omega
theorem cI' (c:Bool):cond c false false=false:=by cases c<;>rfl
theorem aff (F:Nat) (p:TPart) (e:Int):dZ F p e=some (bU.mk [p] e 0):=by cases p;rfl
theorem iH (s:Bs) (i j:Nat):(sl s (i:Int) (j:Int)).length≤j - i:=by
 unfold sl;rw [xw,gB,bf,bf];omega
theorem afg (F:Nat) (p:Int):jX F p=some (p==0||p==1):=by unfold jX;rw [ax,cT];rfl
theorem an0 (F:Nat) (c p:Int):∃b,uf F c p=some b:=by
 unfold uf;simp only [ax,cT,aE];exact⟨_,rfl⟩
theorem am2 (F:Nat) (s:Bs) (a:Nat) (p o:Int) (ha:a<s.length):∃b,AV F s (a:Int) p o=some b:=by
 unfold AV;rw [bu om om,bu om om,bu om om];simp only [ax,cT,aE];exact⟨_,rfl⟩
theorem S0 (F:Nat) (s:Bs) (a:Nat) (hl:s.length≤1000) (ha:a≤s.length):af (fun b=>b=true→a+1<s.length) (nQ F s (a:Int)):=ac2 F s a hl ha
theorem alC (F:Nat) (s:Bs) (a:Nat) (p:Int) (hF:s.length<F) (hl:s.length≤1000) (ha:a<s.length):∃b,tG F s (a:Int) p=some b:=by
 have:af (fun _=>True) (tG F s (a:Int) p):=by
  unfold tG;rw [afg,aE,aM om,bu om om];simp only [ax,aE];refine af.cb (fun _=>af.ok trivial) fun _=>?_;refine af.lp (fun i:Int=>∃n:Nat,i=(n:Int)∧a+1≤n∧n≤s.length) (fun i=>s.length - i.toNat) ⟨a+1,rfl,om,ha⟩ (by rw [bf];omega) ?_;rintro _ ⟨n,rfl,h1,h2⟩ rc hrc;refine af.bd (S0 F s n hl h2) fun b hb=>af.cb (fun h=>?_) fun _=>?_
  ·have:=hb h
   rw [cr om];exact hrc _ ⟨n+2,rfl,om,om⟩ (by rw [bf,show ((n:Int)+2)=((n+2:Nat):Int) from rfl,bf];omega)
  ·by_cases h:n<s.length
   ·rw [cf om,bu om om,bu om om]
    simp only [ax,aE];exact af.ok trivial
   ·rw [ctq om]
    exact af.ok trivial
 obtain⟨b,-,h⟩:=this;exact⟨b,h⟩
def RQ (s:Bs) (a:Nat) (r:bU):Prop:=r.fE=0→∃e:Nat,r.QA=(e:Int)∧a+1≤e∧e≤s.length∧r.fParts.length≤1∧dP r.fParts≤2 * (e - a)
theorem RQ.err {s:Bs} {a:Nat} {l:List TPart} {x e:Int} (h:e≠0):RQ s a ⟨l,x,e⟩:=fun h'=>absurd h' h
theorem RQ.one {s:Bs} {a e:Nat} {p:TPart} (h1:a+1≤e) (h2:e≤s.length) (h3:wP p≤2 * (e - a)):RQ s a ⟨[p],(e:Int),0⟩:=fun _=>⟨e,rfl,h1,h2,si,by simp only [dP];omega⟩
theorem wT (k:Int) (t:Bs) (o:Int) (c:Bool):wP (.mk k t o c [])=1+t.length:=by simp [wP,dP]
theorem wN (k:Int) (t:Bs) (o:Int) (c:Bool) (l:List TPart):wP (.mk k t o c l)=1+t.length+dP l:=rfl
theorem af.so {A:Type} {x:Option A} {Q:A→Prop} (h:af Q x):af Q (x.bind fun y=>some y):=by rw [amW];exact h
theorem ajS (F:Nat) (s:Bs) (a:Nat) (p:Int) (hl:s.length≤1000) (ha:a<s.length):af (RQ s a) (qn F s (a:Int) p):=by
 unfold qn;rw [aM om,cr om,show (a:Int)+2=((a+2:Nat):Int) from rfl]
 have one:∀ {k o:Int} {c:Bool} {t:Bs} {e:Nat},a+1≤e→e≤s.length→1+t.length≤2 * (e - a)→af (RQ s a) ((dZ F (.mk k t o c []) (e:Int)).bind fun x=>some x):=fun h1 h2 h3=>by
  rw [aff];exact af.ok (RQ.one h1 h2 (by rw [wT];exact h3))
 by_cases h:a+1=s.length
 ·rw [show (((a+1:Nat):Int)==(s.length:Int))=true from by rw [h];simp,cond_true]
  exact af.cb (fun _=>one om om (by show 1+1≤_;omega)) fun _=>af.ok (RQ.err de)
 ·rw [show (((a+1:Nat):Int)==(s.length:Int))=false from by simp;omega,cond_false,bu om om]
  have h1:=iH s (a+1) (a+2);have h2:=iH s a (a+2);refine af.cb (fun _=>af.ok fun _=>⟨a+2,rfl,om,om,si,by simp [dP]⟩) fun _=>?_;rw [afg,aE];refine af.cb (fun _=>af.rq (vI om om om) (one om om om)) fun _=>?_;obtain⟨b,hb⟩:=an0 F ((s.getD (Int.toNat ((a+1:Nat):Int)) 0).toNat:Int) p;rw [hb,aE];refine af.cb (fun _=>af.rq (vI om om om) (one om om om)) fun _=>?_;simp only [ax,aE];refine af.cb (fun _=>af.ok (RQ.err de)) fun _=>?_;rw [Yl om om om];exact one om om om
theorem ac4 (F:Nat) (t:Bs) (hF:4 * t.length+40<F) (hl:t.length≤900):∃b,nS F t=some b:=by
 have:af (fun _=>True) (nS F t):=by
  unfold nS;have hL:(([36,40]:Bs)++t++([41]:Bs)).length=t.length+3:=by simp
  rw [mS (by show 2+t.length≤_;omega),mS (by rw [eW];show 2+t.length+1≤_;omega)];have hp:=G7 F ((([36,40]:Bs)++t)++([41]:Bs)) 0 0 om om om;refine af.bd hp fun r _=>?_;by_cases h:t=[]
  ·subst h
   simp only [ax,aE];rw [show (([]:Bs)==[])=true from rfl];simp only [cond_true,ax,aE];exact af.ok trivial
  ·have:0<t.length:=uq.2 h
   rw [mS om];simp only [ax,aE];exact af.ok trivial
 obtain⟨b,-,h⟩:=this;exact⟨b,h⟩
theorem alD (F:Nat) (s:Bs) (a:Nat) (hF:4 * s.length+100<F) (hl:s.length≤800) (ha:a<s.length) (h96:s.getD a 0=96):af (RQ s a) (o5 F s (a:Int)):=by
 unfold o5;refine af.bd (G7 F s a 0 om om ha) fun r q=>zi (fun h=>af.ok (RQ.err h)) fun h=>?_;obtain⟨e,e1,e2,e3⟩:=q.2.2.1 h96 h;rw [e1,qJ om om,aM om];refine af.lp (fun z:Bs × Int=>∃n:Nat,z.2=(n:Int)∧a+1≤n∧n≤e∧z.1.length≤e - a - 2∧z.1.length+a+1≤n) (fun z=>e - z.2.toNat) ⟨a+1,rfl,om,om,si,si⟩ (by show e - Int.toNat ((a+1:Nat):Int)<F;omega) ?_
 ·rintro⟨t,_⟩ ⟨n,rfl,g1,g2,g3,g4⟩ rc hrc
  dsimp only at g3 g4 hrc ⊢
  have ok:∀b:Bool,∃m:Nat,cond b (((n+1:Nat):Int)) (n:Int)=(m:Int)∧n≤m∧m≤n+1:=fun b=>by
   cases b
   ·exact⟨n,rfl,om,om⟩
   ·exact⟨n+1,rfl,om,om⟩
  refine af.cd (fun h=>?_) fun h=>?_
  ·rw [bu om om,aM om,bu om om,bu om om,bu om om]
   simp only [ax,aE];generalize hb:(cond (((s.getD (Int.toNat (n:Int)) 0).toNat:Int)==92) _ false:Bool)=b;obtain⟨m,hm,hm1,hm2⟩:=ok b;rw [hm,aM om];have hs:=iH s m (m+1);refine af.rq (vI om om om) (af.rq (decide_eq_true om) (hrc _ ⟨m+1,rfl,om,om,?_,?_⟩ ?_))
   ·show (t++sl s (m:Int) ((m+1:Nat):Int)).length≤_
    rw [eW];omega
   ·show (t++sl s (m:Int) ((m+1:Nat):Int)).length+a+1≤_
    rw [eW];omega
   ·show e - Int.toNat ((m+1:Nat):Int)<e - Int.toNat (n:Int);omega
  ·refine af.bd (P:=fun u:Bs=>u.length≤e - a - 1) ?_ fun u hu=>?_
   ·refine af.bd (P:=fun _=>True) ?_ fun b _=>af.cb (fun _=>af.rq (decide_eq_true (by show 1+t.length≤_;omega)) (af.ok (by show ([32]++t).length≤_;simp;omega))) fun _=>af.ok om
    by_cases ht:t=[]
    ·subst ht;exact af.ok trivial
    ·have:0<t.length:=uq.2 ht
     rw [mS om,ax];exact af.ok trivial
   refine af.bd (P:=fun u:Bs=>u.length≤e - a) ?_ fun v hv=>?_
   ·obtain⟨b,hb⟩:=ac4 F u om om
    rw [hb,aE];exact af.cb (fun _=>af.rq (decide_eq_true (by show u.length+1≤_;omega)) (af.ok (by show (u++[10]).length≤_;simp;omega))) fun _=>af.ok om
   obtain⟨b,hb⟩:=ac4 F v om om;rw [hb,aE];refine af.cb (fun _=>af.ok (RQ.err de)) fun _=>?_;rw [aff];exact af.ok (RQ.one om om (by rw [wT];omega))
theorem ac5 (F:Nat) (s:Bs) (hF:s.length<F) (hl:s.length≤1000):∃r,nT F s=some r:=by
 have:af (fun _=>True) (nT F s):=by
  unfold nT;by_cases h:s=[]
  ·subst h;exact af.ok trivial
  have:0<s.length:=uq.2 h;rw [mS om];simp only [ax,aE];refine af.cb (fun _=>af.ok trivial) fun _=>?_;refine af.lp (fun i:Int × Int=>∃n:Nat,i.2=(n:Int)∧n≤s.length) (fun i=>s.length - i.2.toNat) ⟨0,rfl,om⟩ (by show s.length - 0<F;omega) ?_;rintro⟨v,_⟩ ⟨n,rfl,hn⟩ rc hrc;dsimp only at hrc ⊢;refine af.cd (fun h=>?_) fun _=>af.ok trivial;rw [bu om om,FG,aE,aM om];refine af.cb (fun _=>af.ok trivial) fun _=>af.rq (cM om om) (hrc _ ⟨n+1,rfl,om⟩ (by show s.length - Int.toNat ((n+1:Nat):Int)<s.length - Int.toNat (n:Int);omega))
 obtain⟨b,-,h⟩:=this;exact⟨b,h⟩
theorem Z8 (F:Nat) (s:Bs) (a:Nat) (hF:s.length+20<F) (hl:s.length≤1000) (ha:a≤s.length):af (fun r=>∃e:Nat,r=(e:Int)∧a≤e∧e≤s.length) (jN F s (a:Int)):=by
 unfold jN;by_cases h:a<s.length
 ·rw [cf om,bu om om,FG,aE,bu om om,Yd,aE,bu om om,aM om]
  refine af.cb (fun _=>?_) fun _=>af.cb (fun _=>(afc F s a om hl ha).so) fun _=>?_
  ·refine af.lp (fun i:Int=>∃n:Nat,i=(n:Int)∧a+1≤n∧n≤s.length) (fun i=>s.length - i.toNat) ⟨a+1,rfl,om,h⟩ (by rw [bf];omega) ?_
   rintro _ ⟨n,rfl,h1,h2⟩ rc hrc;by_cases hn:n<s.length
   ·rw [ctq om,bu om om,FG,aE,aE,aM om]
    refine af.cb (fun _=>af.rq (vI om om om) ?_) fun _=>af.ok ⟨n,rfl,om,h2⟩;have hs:=iH s a (n+1);obtain⟨r,hr⟩:=ac5 F (sl s (a:Int) ((n+1:Nat):Int)) om om;rw [hr,aE];exact af.cb (fun _=>af.ok ⟨n,rfl,om,h2⟩) fun _=>hrc _ ⟨n+1,rfl,om,om⟩ (by rw [bf,bf];omega)
   ·rw [cf om]
    exact af.ok ⟨n,rfl,om,h2⟩
  ·obtain⟨b,hb⟩:=G6 F ((s.getD (Int.toNat (a:Int)) 0).toNat:Int) om
   rw [hb,aE];exact af.cb (fun _=>af.ok ⟨a+1,rfl,om,om⟩) fun _=>af.ok ⟨a,rfl,om,om⟩
 ·rw [ctq om]
  exact af.ok ⟨a,rfl,om,ha⟩
theorem op8 (F:Nat) (s:Bs) (a:Nat) (hl:s.length≤1000) (ha:a<s.length):af (fun r=>r.1≠0→∃n:Nat,r.2.2=(n:Int)∧1≤n∧a+n≤s.length) (sr F s (a:Int)):=by
 unfold sr;rw [bu om om];have z:af (fun r:Int × Bool × Int=>r.1≠0→∃n:Nat,r.2.2=(n:Int)∧1≤n∧a+n≤s.length) (some (0,false,0)):=af.ok fun h=>absurd rfl h;have ok:∀(o:Int) (b:Bool) (n:Nat),1≤n→a+n≤s.length→af (fun r:Int × Bool × Int=>r.1≠0→∃n:Nat,r.2.2=(n:Int)∧1≤n∧a+n≤s.length) (some (o,b,(n:Int))):=fun o b n h1 h2=>af.ok fun _=>⟨n,rfl,h1,h2⟩
 cases hc:(((s.getD (Int.toNat (a:Int)) 0).toNat:Int)==58) with
 | true =>
  rw [cond_true,aE,aM om];simp only [cond_true];refine af.cd (fun _=>z) fun h=>?_;rw [show ag (ag (((a+1:Nat):Int) - (a:Int))+1)=((2:Nat):Int) from by rw [cr (x:=((a+1:Nat):Int) - (a:Int)) om,cr om];omega]
  exact af.rq (cM om om) (af.cb (fun _=>ok _ _ 2 om om) fun _=>af.rq (cM om om) (af.cb (fun _=>ok _ _ 2 om om) fun _=>af.rq (cM om om) (af.cb (fun _=>ok _ _ 2 om om) fun _=>af.rq (cM om om) (af.cb (fun _=>ok _ _ 2 om om) fun _=>z))))
 | false =>
  rw [cond_false,aE];simp only [cond_false];rw [cf om,show ag (ag ((a:Int) - (a:Int))+1)=((1:Nat):Int) from by rw [cr (x:=(a:Int) - (a:Int)) om,cr om];omega,aM om];refine af.rq (cM om om) (af.cb (fun _=>ok _ _ 1 om om) fun _=>af.rq (cM om om) (af.cb (fun _=>ok _ _ 1 om om) fun _=>af.rq (cM om om) (af.cb (fun _=>ok _ _ 1 om om) fun _=>af.rq (cM om om) (af.cb (fun _=>ok _ _ 1 om om) fun _=>?_))))
  have two:∀(k:Int) {A B:Option (Int × Bool × Int)},(a+1<s.length→af (fun r:Int × Bool × Int=>r.1≠0→∃n:Nat,r.2.2=(n:Int)∧1≤n∧a+n≤s.length) A)→af (fun r:Int × Bool × Int=>r.1≠0→∃n:Nat,r.2.2=(n:Int)∧1≤n∧a+n≤s.length) B →
    af (fun r:Int × Bool × Int=>r.1≠0→∃n:Nat,r.2.2=(n:Int)∧1≤n∧a+n≤s.length) ((rq ((decide (0≤(a:Int)))&&(decide ((a:Int)<(s.length:Int)))) (cond (((s.getD (Int.toNat (a:Int)) 0).toNat:Int)==k) (some (decide (((a+1:Nat):Int)<(s.length:Int)))) (some false)):Option Bool).bind fun x2 =>
     (cond x2 (rq ((decide (0≤((a+1:Nat):Int)))&&(decide (((a+1:Nat):Int)<(s.length:Int)))) (some (((s.getD (Int.toNat ((a+1:Nat):Int)) 0).toNat:Int)==k))) (some false):Option Bool).bind fun x3=>cond x3 A B):=by
   intro k A B hA hB;rw [bu om om,ax,aE];by_cases h:a+1<s.length
   ·rw [bu om om,ax,aE]
    exact af.cb (fun _=>hA h) fun _=>hB
   ·rw [dF (p:=(((a+1:Nat):Int)<(s.length:Int))) om,cI' ,cond_false]
    exact hB
  refine two 37 (fun h=>ok _ _ 2 om om) (af.rq (cM om om) (af.cb (fun _=>ok _ _ 1 om om) fun _=>two 35 (fun h=>ok _ _ 2 om om) (af.rq (cM om om) (af.cb (fun _=>ok _ _ 1 om om) fun _=>z))))
theorem ajT (F:Nat) (p:Int):∃q,(q=1∨q=3∨q=6)∧vN F p=some q:=by
 unfold vN;simp only [ax,aE];refine⟨_,?_,rfl⟩;generalize (cond (p==0) (p==0) (p==1))=b1;cases b1
 ·cases (p==2)
  ·cases (p==3)
   ·exact .inr (.inr rfl)
   ·exact .inr (.inl rfl)
  ·exact .inr (.inl rfl)
 ·exact .inl rfl
theorem ajU (F:Nat) (p:Int):∃q,vO F p=some q:=by
 unfold vO;simp only [ax,aE];exact⟨_,rfl⟩
theorem am3 (F:Nat) (l:List TPart) (t:Bs) (hl:dP l≤10000) (ht:t.length≤10000):af (fun r=>dP r≤dP l+1+t.length) (AX F l t):=by
 have h1:=Bp l;unfold AX;by_cases h:0<l.length
 ·rw [ctq om,qJ om h,bu om om,aE]
  refine af.cb (fun _=>?_) fun _=>af.rq (gP (by show l.length+1≤_;omega) de) (af.ok (by rw [uK];simp only [dP,wT];omega));have e1:sl l 0 ((l.length - 1:Nat):Int)=l.take (l.length - 1):=by simp [sl]
  have hw:=QC (l:=l) (k:=l.length - 1) om;have hp:=FH (l.getD (l.length - 1) dn);have h2:dP (l.take (l.length - 1))+dP (l.drop (l.length - 1))=dP l:=B4 l _;have h3:wP (l.getD (l.length - 1) dn)≤dP l:=SZ om;have h4:(l.take (l.length - 1+1))=l:=mw om;rw [h4] at hw;simp only [e1,bf];have hL:(([]:List TPart)++l.take (l.length - 1)).length=l.length - 1:=by simp
  have hL':(([]:List TPart).length+(l.take (l.length - 1)).length)=l.length - 1:=by simp
  refine af.rq (cM om om) (af.rq (gP (by rw [hL'];omega) de) (af.rq (cM om om) ?_));refine af.rq (decide_eq_true om) (af.rq (gP (by rw [hL];show l.length - 1+1≤_;omega) de) (af.ok ?_));rw [uK,iV];simp only [dP,wT,eW];omega
 ·rw [cf om,aE,cond_false]
  exact af.rq (gP (by show l.length+1≤_;omega) de) (af.ok (by rw [uK];simp only [dP,wT];omega))
def PL (p:Int):Prop:=p=1∨p=2∨p=3∨p=6
def RP (s:Bs) (a:Nat) (p:Int) (r:bU):Prop:=r.fE=0→∃e:Nat,r.QA=(e:Int)∧a≤e∧e≤s.length∧dP r.fParts≤2 * (e - a)∧(PL p→e<s.length)∧(p=4→e+1<s.length)
theorem RP.err {s:Bs} {a:Nat} {p:Int} {l:List TPart} {x e:Int} (h:e≠0):RP s a p ⟨l,x,e⟩:=fun h'=>absurd h' h
def Q1 (F:Nat) (s:Bs) (n:Nat):Prop:=∀(a:Nat) (p lv fr:Int),a≤s.length→6 * (s.length - a)+6≤n→af (RP s a p) ((bO F n).1 s (a:Int) p lv fr)
def Q2 (F:Nat) (s:Bs) (n:Nat):Prop:=∀(a:Nat) (p lv:Int),a<s.length→6 * (s.length - a)+5≤n→af (RQ s a) ((bO F n).2.1 s (a:Int) p lv)
def Q3 (F:Nat) (s:Bs) (n:Nat):Prop:=∀(a:Nat) (p lv:Int),a<s.length→s.getD a 0=36→6 * (s.length - a)+4≤n→af (RQ s a) ((bO F n).2.2.1 s (a:Int) p lv)
def Q4 (F:Nat) (s:Bs) (n:Nat):Prop:=∀(a:Nat) (p lv:Int),a+1<s.length→s.getD a 0=36→6 * (s.length - a)+3≤n→af (RQ s a) ((bO F n).2.2.2.1 s (a:Int) p lv)
def Q5 (F:Nat) (s:Bs) (n:Nat):Prop:=∀(a:Nat) (p lv:Int),a+1<s.length→6 * (s.length - a)+2≤n→af (RQ s a) ((bO F n).2.2.2.2.1 s (a:Int) p lv)
def Q6 (F:Nat) (s:Bs) (n:Nat):Prop:=∀(a:Nat) (lv:Int),a<s.length→6 * (s.length - a)+2≤n→af (RQ s a) ((bO F n).2.2.2.2.2 s (a:Int) lv)
section
variable {F : Nat} {s : Bs} {n : Nat}
theorem o6 {a:Nat} {x e:Int} (h:e≠0):af (RQ s a) ((bX F x e).bind fun y=>some y):=af.ok (RQ.err h)
theorem EA {a e:Nat} {p:TPart} (h1:a+1≤e) (h2:e≤s.length) (h3:wP p≤2 * (e - a)):af (RQ s a) ((dZ F p (e:Int)).bind fun y=>some y):=by
 rw [aff];exact af.ok (RQ.one h1 h2 h3)
theorem afh (hF:4 * s.length+2000<F) (hl:s.length≤800) (h2:Q2 F s n):Q1 F s (n+1):=by
 intro a p lv fr ha hn;show af _ (zV F (bO F n) s (a:Int) p lv fr);unfold zV;refine af.lp (fun z:Int × List TPart × Int=>∃m:Nat,z.1=(m:Int)∧a≤m∧m≤s.length∧dP z.2.1≤2 * (m - a)) (fun z=>s.length - z.1.toNat) ⟨a,rfl,om,ha,by simp [dP]⟩ (by show s.length - Int.toNat (a:Int)<F;omega) ?_;rintro⟨_,l,op⟩ ⟨m,rfl,g1,g2,g3⟩ rc hrc;dsimp only at g3 hrc ⊢;have hlen:=Bp l;refine af.cd (fun h=>?_) fun h=>?_
 ·have h:m<s.length:=om
  obtain⟨b,hb⟩:=am2 F s m p op h;rw [hb,aE,aM om,ax,aE];refine af.cb (fun _=>?_) fun _=>?_
  ·refine af.cb (fun _=>af.ok (RP.err de)) fun h4=>?_
   have hp4:p=4→m+1<s.length:=fun e=>by
    subst e;have h4:(((m+1:Nat):Int)==(s.length:Int))=false:=h4;have:m+1≠s.length:=fun e=>by rw [e] at h4;simp at h4
    omega
   refine af.bd (P:=fun _=>True) ?_ fun b _=>af.cb (fun _=>af.ok (RP.err de)) fun _=>af.ok fun _=>⟨m,rfl,g1,g2,g3,fun _=>h,hp4⟩
   cases e4:(p==4) with
   | false=>exact af.ok trivial
   | true=>have:=hp4 (by simpa using e4);exact af.rq (cM om om) (af.ok trivial)
  ·obtain⟨tb,htb⟩:=alC F s m p om om h
   rw [htb];simp only [aE,ax];refine af.cb (fun _=>af.rq (gP (by show l.length+1≤_;omega) de) (hrc _ ⟨m+1,rfl,om,om,?_⟩ ?_)) fun _=>?_
   ·show dP (l++[TPart.mk 7 [] 0 false []])≤_
    rw [uK];simp only [dP,wT,kg];omega
   ·show s.length - Int.toNat ((m+1:Nat):Int)<s.length - Int.toNat (m:Int);omega
   rw [bu om om,bu om om];simp only [aE,ax];refine af.bd (h2 m p lv h om) fun r q=>zi (fun h=>af.ok fun e=>absurd e h) fun h0=>?_;obtain⟨e,e1,e2,e3,e4,e5⟩:=q h0;refine af.lp (fun z:List TPart × Int=>∃k:Nat,z.2=(k:Int)∧k≤r.fParts.length∧dP z.1≤dP l+dP (r.fParts.take k)) (fun z=>r.fParts.length - z.2.toNat) ⟨0,rfl,om,si⟩ (by show r.fParts.length - 0<F;omega) ?_;rintro⟨l',_⟩ ⟨k,rfl,k1,k2⟩ rc' gF;dsimp only at k2 gF ⊢;have hwt:=B4 r.fParts k;have hlen':=Bp l';refine af.cd (fun h=>?_) fun h=>?_
   ·have hk:k<r.fParts.length:=om
    have hwk:=QC hk;have hp:=FH (r.fParts.getD k dn);have hm:=SZ hk;rw [bu om om,aM om,bu om om,bu om om];simp only [bf];refine af.cb (fun _=>af.bd (am3 F l' _ om om) fun u hu=>gF _ ⟨k+1,rfl,hk,by dsimp only;omega⟩ ?_) fun _=>af.rq (gP (by show l'.length+1≤_;omega) de) (gF _ ⟨k+1,rfl,hk,?_⟩ ?_)
    ·show r.fParts.length - Int.toNat ((k+1:Nat):Int)<r.fParts.length - Int.toNat (k:Int);omega
    ·show dP (l'++[r.fParts.getD k dn])≤_
     rw [uK];simp only [dP];omega
    ·show r.fParts.length - Int.toNat ((k+1:Nat):Int)<r.fParts.length - Int.toNat (k:Int);omega
   ·rw [e1]
    exact hrc _ ⟨e,rfl,om,e3,by dsimp only;omega⟩ (by show s.length - Int.toNat (e:Int)<s.length - Int.toNat (m:Int);omega)
 ·rw [ax,aE]
  refine af.cb (fun hp=>af.ok fun _=>⟨m,rfl,g1,g2,g3,fun h=>?_,fun h=>?_⟩) fun _=>af.ok (RP.err de)
  ·exfalso;rcases h with rfl | rfl | rfl | rfl<;>exact absurd hp de
  ·subst h;exact absurd hp de
theorem agt (hF:4 * s.length+2000<F) (hl:s.length≤800) (h3:Q3 F s n) (h6:Q6 F s n):Q2 F s (n+1):=by
 intro a p lv ha hn;show af _ (B5 F (bO F n) s (a:Int) p lv);unfold B5;rw [bu om om];refine af.cb (fun _=>(ajS F s a p om ha).so) fun _=>af.cb (fun h=>(alD F s a om hl ha ?_).so) fun _=>af.cb (fun h=>(h3 a p lv ha ?_ om).so) fun _=>?_
 ·rw [bf,mW _ 96 de] at h;simpa using h
 ·rw [bf,mW _ 36 de] at h;simpa using h
 obtain⟨ob,HX⟩:=alA F ((s.getD (Int.toNat (a:Int)) 0).toNat:Int);rw [afg,agr,HX];simp only [aE,ax];refine af.cb (fun _=>(h6 a lv ha om).so) fun _=>af.cb (fun _=>o6 de) fun _=>af.cb (fun _=>o6 de) fun _=>?_;rw [aM om];have hs:=iH s a (a+1);exact af.rq (vI om om om) (EA om om (by rw [wT];omega))
theorem ab1 (hF:4 * s.length+2000<F) (hl:s.length≤800) (h4:Q4 F s n):Q3 F s (n+1):=by
 intro a p lv ha h36 hn;show af _ (xR F (bO F n) s (a:Int) p lv);unfold xR;refine af.bd (alz F s a om om ha) fun b hb=>af.cb (fun h=>(h4 a p lv (hb.1 h).1 h36 om).so) fun _=>?_;rw [afg,aE,aM om];refine af.bd (P:=fun _=>True) ?_ fun _ _=>af.cb (fun _=>o6 de) fun _=>EA om om (by show 1+1≤_;omega);refine af.cb (fun _=>?_) fun _=>af.ok trivial;have hj:=(S0 F s (a+1) om om).tr;exact af.cd (fun h=>af.rq (cM om om) (af.cb (fun _=>af.ok trivial) fun _=>hj.so)) fun _=>hj.so
theorem afi (hF:4 * s.length+2000<F) (hl:s.length≤800) (h1:Q1 F s n) (h5:Q5 F s n):Q4 F s (n+1):=by
 intro a p lv ha h36 hn;show af _ (sY F (bO F n) s (a:Int) p lv);unfold sY;rw [aM om,bu om om,cr (x:=(a:Int)+2) om,show (a:Int)+2=((a+2:Nat):Int) from rfl];refine af.cb (fun _=>(h5 a p lv ha om).so) fun _=>?_;rw [ax,aE];refine af.bd (P:=fun b=>b=true→a+2<s.length) ?_ fun b hb=>af.cb (fun h=>?_) fun _=>?_
 ·refine af.cb (fun h=>?_) fun _=>af.ok fun h=>nomatch h
  rw [cF,aV] at h;have:=of_decide_eq_true h.2;exact af.rq (cM om om) (af.ok fun _=>om)
 ·have h2:=hb h
  refine af.cd (fun _=>o6 de) fun _=>?_;rw [cr (x:=(a:Int)+3) om,show (a:Int)+3=((a+3:Nat):Int) from rfl];refine af.bd (h1 (a+3) 4 _ _ om om) fun r q=>zi (fun h=>af.ok fun e=>absurd e h) fun h0=>?_;obtain⟨e,e1,e2,e3,e4,-,e6⟩:=q h0;have:=e6 rfl;rw [e1,cr om,show (e:Int)+2=((e+2:Nat):Int) from rfl];exact EA om om (by rw [wN];simp only [kg];omega)
 ·refine af.cb (fun h40=>?_) fun _=>?_
  ·have h40:s.getD (a+1) 0=40:=by rw [bf,mW _ 40 de] at h40;simpa using h40
   obtain⟨q,hq⟩:=ajU F p;rw [hq,aE];refine af.bd (G7 F s a q om om om) fun r hr=>zi (fun h=>af.ok (RQ.err h)) fun h0=>?_;obtain⟨e,e1,e2,e3⟩:=hr.2.2.2 h36 h40 h0;rw [e1,qJ om om];have hs:=iH s (a+2) (e - 1);exact af.rq (vI om om om) (EA om om (by rw [wT];omega))
  ·obtain⟨b,hb⟩:=G6 F ((s.getD (Int.toNat ((a+1:Nat):Int)) 0).toNat:Int) om
   rw [hb,aE];have hs:=iH s (a+1) (a+2);refine af.cb (fun _=>af.rq (vI om om om) (EA om om (by rw [wT];omega))) fun _=>?_;refine af.bd (afc F s (a+1) om om om) fun r ⟨e,e1,e2,e3⟩=>?_;rw [e1];have hs:=iH s (a+1) e;exact af.cd (fun _=>o6 de) fun _=>af.rq (vI om om om) (EA om om (by rw [wT];omega))
theorem ab2 (hF:4 * s.length+2000<F) (hl:s.length≤800) (h1:Q1 F s n):Q6 F s (n+1):=by
 intro a lv ha hn;show af _ (xS F (bO F n) s (a:Int) lv);unfold xS;rw [bu om om,aM om];refine af.cb (fun h39=>?_) fun _=>af.cd (fun _=>o6 de) fun _=>?_
 ·have h39:s.getD a 0=39:=by rw [bf,mW _ 39 de] at h39;simpa using h39
  refine af.bd (G7 F s a 0 om om ha) fun r hr=>zi (fun h=>af.ok (RQ.err h)) fun h0=>?_;obtain⟨e,e1,e2,e3⟩:=hr.2.1 h39 rfl h0;rw [e1,qJ om om];have hs:=iH s (a+1) (e - 1);exact af.rq (vI om om om) (EA om om (by rw [wT];omega))
 ·refine af.bd (h1 (a+1) 2 _ _ om om) fun r q=>zi (fun h=>af.ok fun e=>absurd e h) fun h0=>?_
  obtain⟨e,e1,e2,e3,e4,e5,-⟩:=q h0;have:=e5 (.inr (.inl rfl));rw [e1,aM om];exact EA om om (by rw [wN];simp only [kg];omega)
theorem ab3 (hF:4 * s.length+2000<F) (hl:s.length≤800) (h1:Q1 F s n):Q5 F s (n+1):=by
 intro a p lv ha hn;show af _ (xU F (bO F n) s (a:Int) p lv);unfold xU;rw [cr (x:=(a:Int)+2) om,show (a:Int)+2=((a+2:Nat):Int) from rfl,aM om];refine af.jj (P:=fun x=>∀r,x=.inr r→RQ s a r) ?_ (fun _ _=>?_) fun r h=>h r rfl
 ·have ok:af (fun x:Unit ⊕ bU=>∀r,x=.inr r→RQ s a r) (some (.inl ())):=af.ok fun r h=>nomatch h
  have er:∀ {x e:Int},e≠0→af (fun x:Unit ⊕ bU=>∀r,x=.inr r→RQ s a r) ((bX F x e).bind fun y=>some (.inr y)):=fun h=>af.ok fun r e=>by cases e;exact RQ.err h
  refine af.bd (P:=fun b=>b=true→a+2<s.length) (af.cd (fun h=>af.rq (cM om om) (af.ok fun _=>om)) fun _=>af.ok fun h=>nomatch h) fun b hb=>af.cb (fun h=>?_) fun _=>ok;have h2:=hb h;refine af.bd (Z8 F s (a+3) om om om) fun r ⟨e,e1,e2,e3⟩=>?_;rw [e1];refine af.cd (fun _=>er de) fun _=>?_;have e0:(((a+2:Nat):Int)+1)=((a+2+1:Nat):Int):=rfl;refine af.bd (P:=fun b=>b=true→a+3<e∧e<s.length) ?_ fun b hb=>?_
  ·refine af.cd (fun h=>?_) fun _=>af.ok fun h=>nomatch h
   exact af.ok fun h'=>⟨om,by have:=of_decide_eq_true h';omega⟩
  refine af.bd (P:=fun b=>b=true→a+3<e∧e<s.length) (af.cb (fun h=>af.rq (cM om (by have:=hb h;omega)) (af.ok fun _=>hb h)) fun _=>af.ok fun h=>nomatch h) fun b hb=>af.cb (fun h=>?_) fun _=>?_
  ·have:=hb h
   have hs:=iH s (a+2+1) e;rw [aM om,aff];exact af.rq (vI om om om) (af.ok fun r h=>by cases h;exact RQ.one om om (by rw [wT];omega))
  ·refine af.bd (P:=fun _=>True) (af.cd (fun _=>af.ok trivial) fun _=>af.ok trivial) fun _ _=>af.cb (fun _=>er de) fun _=>ok
 refine af.bd (Z8 F s (a+2) om om om) fun r ⟨e,e1,e2,e3⟩=>?_;rw [e1];refine af.cd (fun _=>o6 de) fun _=>?_;rw [ax,aE];refine af.cb (fun _=>o6 de) fun hx=>?_
 have he:e<s.length:=by
  rw [cT,zG] at hx;have hx:((e:Int)==(s.length:Int))=false:=hx.2;have:e≠s.length:=fun e=>by rw [e] at hx;simp at hx
  omega
 have h2:a+2<s.length:=om;refine af.cb (fun _=>o6 de) fun _=>af.rq (vI om om om) (af.rq (cM om om) (af.cb (fun _=>?_) fun _=>?_))
 ·rw [aM om]
  have hs:=iH s (a+2) e;exact EA om om (by show wP (.mk 4 (sl s ((a+2:Nat):Int) (e:Int)) 0 false [])≤_;rw [wT];omega)
 refine af.bd (op8 F s e om he) fun⟨o1,o2,o3⟩ ho=>?_;dsimp only at ho ⊢;by_cases M5:o1=0
 ·subst M5
  show af _ (Option.bind _ _);rw [bu om om,ax,aE];refine af.cb (fun _=>o6 de) fun _=>af.rq (cM om om) (af.cb (fun _=>o6 de) fun _=>af.rq (cM om om) (af.cb (fun _=>?_) fun _=>o6 de));exact af.bd (Z8 F s (a+3) om om om) fun r _=>o6 de
 ·obtain⟨k,k1,k2,k3⟩:=ho M5
  clear ho;subst k1;rw [show (o1==0)=false from by simpa using M5,cond_false,cr (x:=(e:Int)+(k:Int)) om,show (e:Int)+(k:Int)=((e+k:Nat):Int) from rfl];refine af.cd (fun _=>o6 de) fun _=>af.bd (S0 F s (e+k) om om) fun b _=>af.cb (fun _=>o6 de) fun _=>?_;obtain⟨q,hq,U6⟩:=ajT F p;rw [U6,aE];refine af.bd (h1 (e+k) q _ _ om om) fun r hr=>zi (fun h=>af.ok fun e=>absurd e h) fun h0=>?_;obtain⟨f,f1,f2,f3,f4,f5,-⟩:=hr h0;have:=f5 (by unfold PL;omega);rw [f1,aM om];have hs:=iH s (a+2) e;exact EA om om (by show wP (.mk 4 (sl s ((a+2:Nat):Int) (e:Int)) o1 o2 r.fParts)≤_;rw [wN];omega)
theorem VH (hF:4 * s.length+2000<F) (hl:s.length≤800):∀n,Q1 F s n∧Q2 F s n∧Q3 F s n∧Q4 F s n∧Q5 F s n∧Q6 F s n
 | 0=>⟨fun _ _ _ _ _ h=>om,fun _ _ _ _ h=>om,fun _ _ _ _ _ h=>om,fun _ _ _ _ _ h=>om,fun _ _ _ _ h=>om,fun _ _ _ h=>om⟩
 | n+1=>by
  obtain⟨h1,h2,h3,h4,h5,h6⟩:=VH hF hl n;exact⟨afh hF hl h2,agt hF hl h3 h6,ab1 hF hl h4,afi hF hl h1 h5,ab3 hF hl h1,ab2 hF hl h1⟩
end
theorem alE (F:Nat) (s:Bs) (hF:8000<F) (hl:s.length≤800):af (fun r=>dP r.1≤2 * s.length) (yJ F s):=by
 unfold yJ;rw [cf om];refine af.bd ((VH (F:=F) (s:=s) om hl F).1 0 0 1 0 om om) fun r q=>zi (fun h=>af.ok (by simp [dP])) fun h0=>?_;obtain⟨e,e1,e2,e3,e4,-⟩:=q h0;exact af.ok (by show dP r.fParts≤_;omega)
theorem DG (F:Nat) (s:Bs) (hF:40<F):af (fun b=>b=true→s.length≤32) (iI F s):=by
 unfold iI;by_cases h:s=[]
 ·subst h;exact af.ok fun _=>by decide
 have:0<s.length:=uq.2 h;rw [mS om,FG];simp only [ax,aE];by_cases h2:s.length≤32
 ·refine af.cb (fun _=>af.ok fun h=>nomatch h) fun _=>?_
  refine af.lp (fun i:Int=>∃n:Nat,i=(n:Int)∧n≤s.length) (fun i=>s.length - i.toNat) ⟨0,rfl,om⟩ (by show s.length - 0<F;omega) ?_;rintro _ ⟨n,rfl,hn⟩ rc hrc;refine af.cd (fun h=>?_) fun _=>af.ok fun _=>h2;rw [bu om om,Yd,aE,aM om];exact af.cb (fun _=>af.ok fun h=>nomatch h) fun _=>hrc _ ⟨n+1,rfl,om⟩ (by rw [bf,bf];omega)
 ·rw [show (decide (32<(s.length:Int)))=true from dT om,show (s==[])=false from by simpa using h]
  exact af.ok fun h=>nomatch h
def sZ (l:List bq) (n:Bs):bq × Bool:=(l.find? fun v=>v.fName==n).elim (bq.mk [] [] false false false,false) fun v=>(v,true)
theorem L4 (F:Nat) (l:List bq) (n:Bs) (hF:l.length<F) (hl:l.length≤1000):mj F l n=some (sZ l n):=by
 unfold mj;rw [oM l (fun i=>(i:Int)) (fun v=>v.fName==n) (fun i v=>some (v,true)) (some (bq.mk [] [] false false false,false)) (s:=(0:Int)) hF rfl (fun i h rc=>?_) (fun rc=>?_)]
 ·rw [VC];unfold sZ;cases l.find? _<;>rfl
 ·rw [ctq om,bu om om,bu om om,bf,gd h,aM om]
 ·rw [cf om]
def GV (l:List bq):Prop:=l.length≤128∧∀v∈l,v.fName.length≤60∧v.bN.length≤4096
theorem L5 {l:List bq} (h:GV l) (n:Bs):(sZ l n).1.fName.length≤60∧(sZ l n).1.bN.length≤4096:=by
 unfold sZ
 cases e:l.find? fun v=>v.fName==n with
 | none=>exact⟨fT _,fT _⟩
 | some v=>exact h.2 v (ait e)
def s7 (v:bq):List bq→Bool→List bq
 | [],d=>cond d [] [v]
 | x::l,d=>cond (!d && !(Op.bytesLess x.fName v.fName)) [v] []++(cond (x.fName==v.fName) [] [x]++s7 v l (d || !(Op.bytesLess x.fName v.fName)))
theorem Z9 (v:bq):∀(l:List bq) (d:Bool),(s7 v l d).length=(cond d 0 1)+(l.filter fun x=>!(x.fName==v.fName)).length
 | [],d=>by cases d<;>rfl
 | x::l,d=>by
  simp only [s7,eW,Z9 v l,List.filter_cons];cases d<;>cases (x.fName==v.fName)<;>cases (Op.bytesLess x.fName v.fName)<;>simp<;>omega
theorem aaa (v:bq):∀(l:List bq) (d:Bool),∀x∈s7 v l d,x=v∨x∈l
 | [],d,x,h=>by cases d<;>simp [s7] at h;exact .inl h
 | y::l,d,x,h=>by
  simp only [s7,gz] at h;rcases h with h | h | h
  ·revert h;cases (!d && !(Op.bytesLess y.fName v.fName))<;>simp
   exact fun h=>.inl h
  ·revert h;cases (y.fName==v.fName)<;>simp
   exact fun h=>.inr (.inl h)
  ·rcases aaa v l _ x h with h | h
   ·exact .inl h
   ·exact .inr (jS _ h)
theorem ai2 (F:Nat) (l:List bq) (v:bq) (hF:l.length<F) (hl:l.length≤1000):uL F l v=some (s7 v l false):=by
 have:af (fun r=>r=s7 v l false) (uL F l v):=by
  unfold uL;refine af.lp (fun z:List bq × Bool × Int=>∃k:Nat,z.2.2=(k:Int)∧k≤l.length∧z.1.length≤2 * k∧z.1++s7 v (l.drop k) z.2.1=s7 v l false) (fun z=>l.length - z.2.2.toNat) ⟨0,rfl,om,si,si⟩ (by show l.length - 0<F;omega) ?_;rintro⟨o,d,_⟩ ⟨k,rfl,h1,h2,h3⟩ rc hrc;dsimp only at h2 h3 hrc ⊢;refine af.cd (fun h=>?_) fun h=>?_
  ·have hk:k<l.length:=om
   rw [adt hk] at h3;simp only [s7] at h3;rw [bu om om,aM om,bf,gd hk];simp only [ax,aE,cF]
   have go:∀(o':List bq) (d':Bool),o'.length≤2 * k+1→o'++(cond (l[k].fName==v.fName) [] [l[k]]++s7 v (l.drop (k+1)) d')=s7 v l false →
     af (fun r=>r=s7 v l false) (cond (!(l[k].fName==v.fName)) (rq ((decide (0≤(k:Int)))&&(decide ((k:Int)<(l.length:Int)))) (rq ((decide (o'.length+([l[k]]:List bq).length≤9223372036854775807))&&(decide ((o'.length+([l[k]]:List bq).length) * 40≤140737488355328))) (rc (o'++([l[k]]:List bq),d',((k+1:Nat):Int))))) (rc (o',d',((k+1:Nat):Int)))):=by
    intro o' d' ho he;have hm:l.length - Int.toNat ((k+1:Nat):Int)<l.length - Int.toNat (k:Int):=by rw [bf,bf];omega
    cases e:(l[k].fName==v.fName) with
    | true =>
     rw [e] at he
     exact hrc _ ⟨k+1,rfl,hk,by dsimp only;omega,by simpa using he⟩ hm
    | false =>
     rw [e] at he;exact af.rq (cM om om) (af.rq (gP (by show o'.length+1≤_;omega) de) (hrc _ ⟨k+1,rfl,hk,bx,by simpa using he⟩ hm))
   cases e:(!d && !(Op.bytesLess l[k].fName v.fName)) with
   | true =>
    rw [e] at h3;rw [aV] at e;have hd:d=false:=by simpa using e.1
    subst hd;rw [cond_true,eu (gP (by show o.length+1≤_;omega) de),aE];rw [e.2,Bool.or_true] at h3;refine af.rq (cM om om) ?_
    exact go _ _ bx (by simpa using h3)
   | false =>
    rw [e] at h3;rw [cond_false,aE]
    have hd:(d || !(Op.bytesLess l[k].fName v.fName))=d:=by
     cases d
     ·simpa using e
     ·rfl
    rw [hd] at h3;refine af.rq (cM om om) ?_;exact go o d om (by simpa using h3)
  ·obtain rfl:k=l.length:=om
   rw [adu] at h3;simp only [s7] at h3
   cases d with
   | true=>exact af.ok (by simpa using h3)
   | false=>exact af.rq (gP (by show o.length+1≤_;omega) de) (af.ok (by simpa using h3))
 obtain⟨r,h,e⟩:=this;rw [e,h]
theorem ac6 {l:List bq} (h:GV l) {v:bq} (hn:v.fName.length≤60∧v.bN.length≤4096) (hc:(sZ l v.fName).2=true∨l.length<128):GV (s7 v l false):=by
 refine⟨?_,fun x hx=>?_⟩
 ·rw [Z9]
  show 1+_≤_;have h1:(l.filter fun x=>!(x.fName==v.fName)).length≤l.length:=List.length_filter_le _ _;rcases hc with hc | hc
  ·unfold sZ at hc
   cases e:l.find? fun x=>x.fName==v.fName with
   | none=>rw [e] at hc;exact absurd hc de
   | some y =>
    have hy:=ait e;have hp:(y.fName==v.fName)=true:=List.find?_some (p:=fun x:bq=>x.fName==v.fName) e
    have:(l.filter fun x=>!(x.fName==v.fName)).length<l.length:=by
     rcases ur (l.filter fun x=>!(x.fName==v.fName)).length l.length with h | h
     ·exact h
     ·have:=List.length_filter_eq_length_iff.1 (NF h1 h) y hy
      rw [hp] at this;exact absurd this de
    have:=h.1;omega
  ·omega
 ·rcases aaa v l false x hx with rfl | hx
  ·exact hn
  ·exact h.2 x hx
theorem am4 (F:Nat) {l:List bq} (h:GV l) (n v:Bs) (hF:1000<F):af (fun r=>GV r.1) (DH F l n v):=by
 have hl:=h.1;unfold DH;rw [L4 F l n om om,aE];refine af.bd (DG F n om) fun b hb=>af.cb (fun _=>af.ok h) fun hb'=>af.cb (fun _=>af.ok h) fun _=>af.cd (fun _=>af.ok h) fun hv=>?_;have hn:n.length≤32:=hb (by simpa using hb');rw [ax,aE];refine af.cb (fun _=>af.ok h) fun hc=>?_;rw [ai2 F l _ om om,aE];refine af.ok (ac6 h ⟨by show n.length≤60;omega,by show v.length≤4096;omega⟩ ?_);show (sZ l n).2=true∨_
 cases e:(sZ l n).2 with
 | true=>exact .inl rfl
 | false=>rw [e] at hc;exact .inr (by have:decide (128≤(l.length:Int))=false:=hc;have:=of_decide_eq_false this;omega)
theorem alF (F:Nat) {l:List bq} (h:GV l) (n:Bs) (a b:Bool) (hF:1000<F):af (fun r=>GV r.1) (AY F l n a b):=by
 have hl:=h.1;unfold AY;refine af.bd (DG F n om) fun b hb=>af.cb (fun _=>af.ok h) fun hb'=>?_;have hn:n.length≤32:=hb (by simpa using hb');rw [L4 F l n om om,aE,ax,aE];refine af.cb (fun _=>af.ok h) fun hc=>?_;rw [ax,aE,ax,aE,ai2 F l _ om om,aE];refine af.ok (ac6 h ⟨by show n.length≤60;omega,(L5 h n).2⟩ ?_);show (sZ l n).2=true∨_
 cases e:(sZ l n).2 with
 | true=>exact .inl rfl
 | false=>rw [e] at hc;exact .inr (by have:decide (128≤(l.length:Int))=false:=hc;have:=of_decide_eq_false this;omega)
theorem agu (F:Nat) (l:List Bs) (g:Bs) (hF:l.length<F) (h1:l.length≤100) (h2:∀x∈l,x.length≤60) (hg:g.length≤1):af (fun r=>r.length≤61 * l.length) (vP F l g):=by
 unfold vP;refine af.lp (fun z:Bs × Int=>∃k:Nat,z.2=(k:Int)∧k≤l.length∧z.1.length≤61 * k) (fun z=>l.length - z.2.toNat) ⟨0,rfl,om,si⟩ (by show l.length - 0<F;omega) ?_;rintro⟨o,_⟩ ⟨k,rfl,h3,h4⟩ rc hrc;dsimp only at h4 hrc ⊢;refine af.cd (fun h=>?_) fun _=>af.ok (by show o.length≤_;omega);have hk:k<l.length:=om;refine af.bd (P:=fun u:Bs=>u.length≤o.length+1) (af.cd (fun _=>af.rq (decide_eq_true om) (af.ok (by rw [eW];omega))) fun _=>af.ok om) fun u hu=>?_;have hx:=h2 _ (ei hk);rw [bu om om,bf,gd hk,aM om];exact af.rq (decide_eq_true om) (hrc _ ⟨k+1,rfl,hk,by dsimp only;rw [List.length_append];omega⟩ (by show l.length - Int.toNat ((k+1:Nat):Int)<l.length - Int.toNat (k:Int);omega))
theorem alG (F:Nat) {l:List bq} (h:GV l) (hF:1000<F):af (fun r=>r.length≤1) (AZ F l):=by
 have hl:=h.1;unfold AZ;rw [L4 F l _ om om,aE];refine af.cb (fun _=>af.ok de) fun _=>?_
 cases e:((sZ l [73,70,83]).1.bN==[]) with
 | true=>exact af.ok (fT _)
 | false =>
  have:(sZ l [73,70,83]).1.bN≠[]:=by simpa using e
  have:=uq.2 this;exact af.rq (decide_eq_true om) (af.ok (iH _ 0 1))
theorem ajV (F:Nat) (o:Int) (hF:20<F):af (fun r=>r.length≤8) (yK F o):=by
 unfold yK;refine af.lp (fun z:Bs × Int=>∃k:Nat,z.2=(k:Int)∧k≤8∧z.1.length≤k) (fun z=>8 - z.2.toNat) ⟨0,rfl,om,si⟩ (by show 8 - 0<F;omega) ?_;rintro⟨u,_⟩ ⟨k,rfl,h3,h4⟩ rc hrc;dsimp only at h4 hrc ⊢;have L1:([32,128,1,8,64,16,2,4]:List Int).length=8:=rfl;have L2:([97,67,101,102,109,110,117,120]:Bs).length=8:=rfl;refine af.cd (fun h=>?_) fun _=>af.ok (by show u.length≤_;omega);rw [bu om om,aM om];have hs:=iH [97,67,101,102,109,110,117,120] k (k+1);have hm:8 - Int.toNat ((k+1:Nat):Int)<8 - Int.toNat (k:Int):=om;exact af.cb (fun _=>af.rq (vI om om om) (af.rq (decide_eq_true om) (hrc _ ⟨k+1,rfl,om,by dsimp only;rw [List.length_append];omega⟩ hm))) fun _=>hrc _ ⟨k+1,rfl,om,by dsimp only;omega⟩ hm
theorem agv (F:Nat) (it:av) (b:Int) (h:vj it) (hF:300<F):∃r,yL F it b=some r:=by
 unfold yL
 cases h1:(it.fKind==1) with
 | true =>
  have:=h.1 (by simpa using h1)
  rw [cond_true,mS om];exact⟨_,rfl⟩
 | false =>
  rw [cond_false];obtain⟨r,hr⟩:=acH F it.fq b (by have:=h.2.2;omega) (by have:=h.2.2;omega);rw [hr,aE,ax];exact⟨_,rfl⟩
theorem rq5 {R:Type} {p q r u v:Prop} {i:Decidable p} {j:Decidable q} {l:Decidable r} {m:Decidable u} {n:Decidable v} {k:Option R} (h:p) (h':q) (h2:r) (h3:u) (h4:v) :
  rq (@decide p i&&(@decide q j&&(@decide r l&&(@decide u m && @decide v n)))) k=k:=eu (by rw [decide_eq_true h,decide_eq_true h',decide_eq_true h2,decide_eq_true h3,decide_eq_true h4];rfl)
theorem VI (F:Nat) (p:List av) (s:Bs) (hp:p.length≤40000000) (hs:s.length≤40000000) (hit:∀it∈p,vj it) (hF:p.length+s.length+400<F):af (fun r:List Bool=>r.length=s.length+1) (vQ F p s):=by
 unfold vQ;rw [aM om,rq5 om om om om om,bf];rw [mS (by rw [XC];omega)];refine af.lp (fun z:List Bool × Int=>∃k:Nat,z.2=(k:Int)∧k≤p.length∧z.1.length=s.length+1) (fun z=>p.length - z.2.toNat) ⟨0,rfl,om,si⟩ (by show p.length - 0<F;omega) ?_;rintro⟨row,_⟩ ⟨i,rfl,h1,h2⟩ rc hrc;dsimp only at h2 hrc ⊢;refine af.cd (fun h=>?_) fun _=>af.ok h2;have hi:i<p.length:=om;rw [rq5 om om om om om,aM (i:=i) om];refine af.lp (fun z:Int × List Bool=>∃k:Nat,z.1=(k:Int)∧k≤s.length+1∧z.2.length=s.length+1) (fun z=>s.length+1 - z.1.toNat) ⟨0,rfl,om,si⟩ (by show s.length+1 - 0<F;omega) ?_;rintro⟨_,nx⟩ ⟨k,rfl,k1,k2⟩ rc' gF;dsimp only at k2 gF ⊢;have go:∀b,af (fun r:List Bool=>r.length=s.length+1) (rc' (((k+1:Nat):Int),nx.set k b))→True:=fun _ _=>trivial;refine af.cd (fun h=>?_) fun _=>hrc _ ⟨i+1,rfl,hi,k2⟩ (by show p.length - Int.toNat ((i+1:Nat):Int)<p.length - Int.toNat (i:Int);omega);have hk:k<s.length+1:=om
 have nxt:∀b,af (fun r:List Bool=>r.length=s.length+1) (rc' (((k+1:Nat):Int),nx.set k b)):=fun b =>
  gF _ ⟨k+1,rfl,om,by dsimp only;rw [List.length_set];exact k2⟩ (by show s.length+1 - Int.toNat ((k+1:Nat):Int)<s.length+1 - Int.toNat (k:Int);omega)
 rw [bu om om,aM (i:=k) om];simp only [bf];refine af.cb (fun _=>?_) fun _=>?_
 ·refine af.bd (P:=fun z:Int × Bool × List Bool=>z.1=(k:Int)∧z.2.2=nx) (af.rq (cM om om) (af.cb (fun _=>af.ok ⟨rfl,rfl⟩) fun _=>af.cd (fun h=>?_) fun _=>af.ok ⟨rfl,rfl⟩)) ?_
  ·rw [qJ om om]
   exact af.rq (cM om om) (af.ok ⟨rfl,rfl⟩)
  ·rintro⟨z1,b,z2⟩ ⟨rfl,rfl⟩
   exact af.rq (cM om om) (nxt b)
 ·refine af.cd (fun h=>?_) fun _=>af.rq (cM om om) (nxt false)
  rw [qJ om om];refine af.rq (cM om om) (af.cb (fun _=>af.rq (cM om om) (af.rq (cM om om) ?_)) fun _=>af.rq (cM om om) (nxt false));obtain⟨b,hb⟩:=agv F (p.getD i bE) ((s.getD (Int.toNat ((k - 1:Nat):Int)) 0).toNat:Int) (by rw [gd hi];exact hit _ (ei hi)) om;rw [bf] at hb;rw [bf,hb,aE];exact af.rq (cM om om) (nxt b)
theorem afj (F:Nat) (p:List av) (s:Bs) (hp:p.length≤40000000) (hs:s.length≤40000000) (hit:∀it∈p,vj it) (hF:p.length+s.length+400<F):af (fun _=>True) (yM F p s):=by
 unfold yM;obtain⟨b,hb⟩:=Gx F p om om hit;rw [hb,aE];refine (af.cb (fun _=>af.bd (VI F p s hp hs hit hF) fun r hr=>af.rq (cM om om) (af.ok trivial)) fun _=>af.ok trivial).so
theorem ab4 (F:Nat) (p:List av) (s:Bs) (lg:Bool) (hp:p.length≤40000000) (hs:s.length≤40000000) (hit:∀it∈p,vj it) (hF:p.length+s.length+400<F) :
  af (fun r=>∃e:Nat,r.1=(e:Int)∧e≤s.length) (vR F p s lg):=by
 unfold vR;obtain⟨b,hb⟩:=Gx F p om om hit;rw [hb,aE];refine af.cb (fun _=>af.ok ⟨0,rfl,om⟩) fun _=>af.bd (VI F p s hp hs hit hF) fun row hrow=>?_;refine af.lp (fun z:Int × Bool × Int=>∃k:Nat,z.2.2=(k:Int)∧k≤s.length+1∧∃e:Nat,z.1=(e:Int)∧e≤s.length) (fun z=>s.length+1 - z.2.2.toNat) ⟨0,rfl,om,0,rfl,om⟩ (by show s.length+1 - 0<F;omega) ?_;rintro⟨_,ok,_⟩ ⟨k,rfl,h1,e,rfl,h2⟩ rc hrc;dsimp only at hrc ⊢;refine af.cd (fun h=>?_) fun _=>af.ok ⟨e,rfl,h2⟩;have hm:s.length+1 - Int.toNat ((k+1:Nat):Int)<s.length+1 - Int.toNat (k:Int):=om;rw [bu om om,aM om];refine af.bd (P:=fun _=>True) (af.cb (fun _=>af.cb (fun _=>af.ok trivial) fun _=>af.ok trivial) fun _=>af.ok trivial) fun b _=>?_;exact af.cb (fun _=>hrc _ ⟨k+1,rfl,om,k,rfl,om⟩ hm) fun _=>hrc _ ⟨k+1,rfl,om,e,rfl,h2⟩ hm
theorem ab5 (F:Nat) (p:List av) (s:Bs) (lg:Bool) (hp:p.length≤40000000) (hs:s.length≤40000000) (hit:∀it∈p,vj it) (hF:p.length+s.length+400<F) :
  af (fun r=>∃e:Nat,r.1=(e:Int)∧e≤s.length) (vS F p s lg):=by
 unfold vS;refine af.lp (fun z:Int × Bool × Int=>∃k:Nat,z.2.2=(k:Int)∧k≤s.length+1∧∃e:Nat,z.1=(e:Int)∧e≤s.length) (fun z=>s.length+1 - z.2.2.toNat) ⟨0,rfl,om,0,rfl,om⟩ (by show s.length+1 - 0<F;omega) ?_;rintro⟨_,ok,_⟩ ⟨k,rfl,h1,e,rfl,h2⟩ rc hrc;dsimp only at hrc ⊢;refine af.cd (fun h=>?_) fun _=>af.ok ⟨e,rfl,h2⟩;have hm:s.length+1 - Int.toNat ((k+1:Nat):Int)<s.length+1 - Int.toNat (k:Int):=om;rw [aM om,cr om,show (s.length:Int) - (k:Int)=((s.length - k:Nat):Int) from by omega];rw [ax,aE];refine af.bd (P:=fun _=>True) (af.cb (fun _=>af.rq (vI om om om) ?_) fun _=>af.ok trivial) fun b _=>?_
 ·have:=iH s (s.length - k) s.length
  exact (afj F p _ hp om hit om).so
 exact af.cb (fun _=>hrc _ ⟨k+1,rfl,om,k,rfl,om⟩ hm) fun _=>hrc _ ⟨k+1,rfl,om,e,rfl,h2⟩ hm
theorem alH (F:Nat) (o:Int) (p:List av) (s:Bs) (hp:p.length≤40000000) (hs:s.length≤40000000) (hit:∀it∈p,vj it) (hF:p.length+s.length+400<F):af (fun r=>r.length≤s.length) (A2 F o s p):=by
 unfold A2;rw [ax,aE,ax,aE];refine af.cb (fun _=>?_) fun _=>af.cb (fun _=>?_) fun _=>af.ok (bM _)
 ·refine af.bd (ab5 F p s _ hp hs hit hF) fun r ⟨e,h1,h2⟩=>?_
  rw [h1,cr om,show (s.length:Int) - (e:Int)=((s.length - e:Nat):Int) from by omega];exact af.rq (cM om om) (af.ok (by have:=iH s 0 (s.length - e);show (sl s ((0:Nat):Int) _).length≤_;omega))
 ·refine af.bd (ab4 F p s _ hp hs hit hF) fun r ⟨e,h1,h2⟩=>?_
  rw [h1];exact af.rq (vI om om om) (af.ok (by have:=iH s e s.length;omega))
mutual
def wE:TExpr→Nat
 | .mk _ _ _ ks=>1+sF ks
def sF:List TExpr→Nat
 | []=>0
 | k::l=>wE k+sF l
end
theorem QD (e:TExpr):wE e=1+sF e.fKids:=by cases e;rfl
theorem A3 (o n:Int) (m:Bs) (l:List TExpr):wE (.mk o n m l)=1+sF l:=rfl
theorem S7:∀(l:List TExpr),l.length≤sF l
 | []=>by simp [sF]
 | p::l=>by have:=S7 l;have:=QD p;simp only [jd,sF];omega
theorem FI:∀ {l:List TExpr} {k:Nat},k<l.length→wE (l.getD k dU)≤sF l
 | [],k,h=>absurd h (XM _)
 | p::l,0,h=>by show wE p≤_;simp only [sF];omega
 | p::l,k+1,h=>by have:=FI (l:=l) (k:=k) (by simpa using h);show wE (l.getD k dU)≤_;simp only [sF];omega
theorem S8 (F:Nat) (c:Int):∃b,nU F c=some b:=by unfold nU;simp only [ax,aE];exact⟨_,rfl⟩
theorem agw (F:Nat) (c:Int):∃b,tH F c=some b:=by unfold tH;simp only [ax,aE];exact⟨_,rfl⟩
theorem agx (F:Nat) (c b:Int):∃v,tI F c b=some v:=by
 obtain⟨d,hd⟩:=agw F c;unfold tI;rw [hd];simp only [ax,aE];exact⟨_,rfl⟩
theorem alI {b:Int} (h:b=16∨b=8∨b=10):(!((IntKind.wrap .u64 b)==0))=true:=by rcases h with rfl | rfl | rfl<;>decide
theorem agy (F:Nat) (s:Bs) (hF:s.length<F) (hs:s.length≤100000):af (fun _=>True) (nV F s):=by
 unfold nV;have hfull:∀k:Nat,(sl s (k:Int) (s.length:Int)).length≤s.length:=fun k=>by have:=iH s k s.length;omega
 refine af.bd (P:=fun z:Bs × Int=>z.1.length≤s.length∧(z.2=16∨z.2=8∨z.2=10)) ?_ fun⟨u,b⟩ ⟨hu,hb⟩=>?_
 ·refine af.bd (P:=fun b=>b=true→2<s.length) (af.cd (fun h=>af.rq (decide_eq_true om) (af.ok fun _=>om)) fun _=>af.ok fun h=>nomatch h) fun b hb=>?_
  refine af.bd (P:=fun b=>b=true→2<s.length) (af.cb (fun h=>?_) fun _=>af.ok fun h=>nomatch h) fun b hb=>af.cb (fun h=>?_) fun _=>?_
  ·have:=hb h
   exact af.rq (decide_eq_true om) (af.cb (fun _=>af.ok fun _=>this) fun _=>af.rq (decide_eq_true om) (af.ok fun _=>this))
  ·have:=hb h
   exact af.rq (cM om om) (af.ok ⟨hfull 2,.inl rfl⟩)
  ·refine af.bd (P:=fun b=>b=true→1<s.length) (af.cd (fun h=>af.rq (decide_eq_true om) (af.ok fun _=>om)) fun _=>af.ok fun h=>nomatch h) fun b hb=>af.cb (fun h=>?_) fun _=>af.ok ⟨bM _,.inr (.inr rfl)⟩
   have:=hb h;exact af.rq (cM om om) (af.ok ⟨hfull 1,.inr (.inl rfl)⟩)
 ·dsimp only at hu hb ⊢
  refine af.cb (fun _=>af.ok trivial) fun _=>?_;refine af.lp (fun i:Int=>∃k:Nat,i=(k:Int)∧k≤u.length) (fun i=>u.length - i.toNat) ⟨0,rfl,om⟩ (by show u.length - 0<F;omega) ?_;rintro _ ⟨k,rfl,hk⟩ rc hrc;refine af.cd (fun h=>?_) fun h=>?_
  ·obtain⟨v,hv⟩:=agx F ((u.getD (Int.toNat (k:Int)) 0).toNat:Int) b
   rw [bu om om,hv,aE,aM om];exact af.cd (fun _=>af.ok trivial) fun _=>hrc _ ⟨k+1,rfl,om⟩ (by rw [bf,bf];omega)
  ·refine af.lp (fun z:Int × Int=>∃k:Nat,z.2=(k:Int)∧k≤u.length) (fun z=>u.length - z.2.toNat) ⟨0,rfl,om⟩ (by show u.length - 0<F;omega) ?_
   rintro⟨n,_⟩ ⟨k,rfl,hk⟩ rc' gF;dsimp only at gF ⊢;refine af.cd (fun h=>?_) fun _=>af.ok trivial;obtain⟨v,hv⟩:=agx F ((u.getD (Int.toNat (k:Int)) 0).toNat:Int) b;rw [bu om om,hv,aE,aM om];exact af.rq (alI hb) (af.cd (fun _=>af.ok trivial) fun _=>gF _ ⟨k+1,rfl,om⟩ (by show u.length - Int.toNat ((k+1:Nat):Int)<u.length - Int.toNat (k:Int);omega))
def RS (s:Bs) (a:Nat) (r:Bs × Int × Int × Int):Prop:=r.1=s∧∃m:Nat,r.2.1=(m:Int)∧a≤m∧m≤s.length
theorem L6 (F:Nat) (s:Bs) (a e0 p0 e p:Int):∃e' p',dD F e p s a e0 p0=some (s,a,e',p'):=by
 unfold dD;cases (e0==0)
 ·exact⟨e0,p0,rfl⟩
 ·exact⟨e,p,rfl⟩
theorem FJ (F:Nat) (s:Bs) (a:Nat) (e p:Int) (hF:s.length<F) (hs:s.length≤100000) (ha:a≤s.length):af (fun r=>RS s a r∧r.2.2=(e,p)) (eR F s (a:Int) e p):=by
 unfold eR;refine af.lp (fun z:Bs × Int × Int × Int=>RS s a z∧z.2.2=(e,p)) (fun z=>s.length - z.2.1.toNat) ⟨⟨rfl,a,rfl,om,ha⟩,rfl⟩ (by show s.length - Int.toNat (a:Int)<F;omega) ?_;rintro⟨s1,a1,e1,p1⟩ ⟨⟨q1,m,q2,h1,h2⟩,h3⟩ rc hrc;dsimp only at q1 q2 h3 hrc ⊢;subst q1 q2;cases h3;by_cases h:m<s1.length
 ·rw [ctq om,bu om om,bu om om,bu om om]
  simp only [ax,aE];refine af.cb (fun _=>?_) fun _=>af.ok ⟨⟨rfl,m,rfl,h1,h2⟩,rfl⟩;rw [aM om];exact hrc _ ⟨⟨rfl,m+1,rfl,om,h⟩,rfl⟩ (by show s1.length - Int.toNat ((m+1:Nat):Int)<s1.length - Int.toNat (m:Int);omega)
 ·rw [cf om]
  exact af.ok ⟨⟨rfl,m,rfl,h1,h2⟩,rfl⟩
theorem ai3 (F:Nat) (s:Bs) (a:Nat) (e p:Int) (hF:s.length<F) (hs:s.length≤100000) (ha:a≤s.length):af (fun w=>a+w.length≤s.length) (ke F s (a:Int) e p):=by
 unfold ke;refine af.lp (fun i:Int=>∃n:Nat,i=(n:Int)∧a≤n∧n≤s.length) (fun i=>s.length - i.toNat) ⟨a,rfl,om,ha⟩ (by rw [bf];omega) ?_;rintro _ ⟨n,rfl,h1,h2⟩ rc hrc
 have fin:af (fun w:Bs=>a+w.length≤s.length) (rq ((decide (0≤(a:Int)))&&((decide ((a:Int)≤(n:Int)))&&(decide ((n:Int)≤(s.length:Int))))) (some (sl s (a:Int) (n:Int)))) :=
  af.rq (vI om om om) (af.ok (by have:=iH s a n;omega))
 by_cases h:n<s.length
 ·obtain⟨b,hb⟩:=S8 F ((s.getD (Int.toNat (n:Int)) 0).toNat:Int)
  obtain⟨d,hd⟩:=agw F ((s.getD (Int.toNat (n:Int)) 0).toNat:Int);rw [ctq om,bu om om,hb,aE,bu om om,hd];simp only [ax,aE];refine af.cb (fun _=>?_) fun _=>fin;rw [aM om];exact hrc _ ⟨n+1,rfl,om,h⟩ (by rw [bf,bf];omega)
 ·rw [cf om]
  exact fin
def aie:List Bs:=(qo 0).getD []
theorem ajW (F:Nat):qo F=some aie:=rfl
theorem Ye (F:Nat) (s:Bs) (a:Nat) (e p:Int) (hF:s.length+100<F) (hs:s.length≤100000) (ha:a≤s.length):af (fun r=>∃m:Nat,r.2=(s,(m:Int),e,p)∧a≤m∧m+r.1.length≤s.length) (ff F s (a:Int) e p):=by
 unfold ff;refine af.bd (FJ F s a e p om hs ha) fun⟨s1,_,_,_⟩ ⟨⟨q1,m,q2,h1,h2⟩,h3⟩=>?_;dsimp only at q1 q2 h3 ⊢;subst q1 q2;cases h3;rw [ajW,aE];have hl:aie.length=35:=rfl;refine af.lp (fun i:Int=>∃k:Nat,i=(k:Int)∧k≤35) (fun i=>35 - i.toNat) ⟨0,rfl,om⟩ (by show 35 - 0<F;omega) ?_;rintro _ ⟨k,rfl,hk⟩ rc hrc;refine af.cd (fun h=>?_) fun _=>af.ok ⟨m,rfl,h1,by simpa using h2⟩;rw [cr (x:=(s1.length:Int) - (m:Int)) om,aM om];have nx:=hrc _ ⟨k+1,rfl,om⟩ (by rw [bf,bf];omega);generalize aie.getD (Int.toNat (k:Int)) []=o;refine af.rq (cM om om) (af.bd (P:=fun b=>b=true→m+o.length≤s1.length) (af.cd (fun h=>?_) fun _=>af.ok fun h=>nomatch h) fun b hb=>af.cb (fun h=>af.rq (cM om om) (af.ok ⟨m,rfl,h1,hb h⟩)) fun _=>nx);rw [cr om];exact af.rq (vI om om om) (af.rq (cM om om) (af.ok fun _=>om))
theorem is5 (F:Nat) (op s:Bs) (a:Nat) (e p:Int) (hF:s.length+100<F) (hs:s.length≤100000) (ha:a≤s.length):af (fun r=>∃m:Nat,r.2=(s,(m:Int),e,p)∧a≤m∧m≤s.length∧(r.1=true→a+op.length≤m)) (iJ F op s (a:Int) e p):=by
 unfold iJ;refine af.bd (P:=fun r:Bool × Bs × Int × Int × Int=>∃m:Nat,r.2=(s,(m:Int),e,p)∧a≤m∧m≤s.length∧(r.1=false→m+op.length≤s.length)) ?_ fun⟨b,_⟩ ⟨m,hm,h1,h2,h3⟩=>?_
 ·refine zi (fun _=>af.ok ⟨a,rfl,om,ha,fun h=>nomatch h⟩) fun _=>af.bd (Ye F s a e p hF hs ha) fun⟨o,_⟩ ⟨m,hm,h1,h2⟩=>?_
  dsimp only at hm h2 ⊢;subst hm;refine af.ok ⟨m,rfl,h1,om,fun h=>?_⟩;have h:(!(o==op))=false:=h;have:o=op:=by simpa using h
  rw [←this];exact h2
 ·dsimp only at hm h3 ⊢
  subst hm;dsimp only;refine af.cb (fun _=>af.ok ⟨m,rfl,h1,h2,fun h=>nomatch h⟩) fun hb=>?_;have:=h3 hb;rw [cr om];exact af.ok ⟨m+op.length,rfl,om,om,fun _=>om⟩
theorem ai4 (F:Nat) (s:Bs) (hF:20<F):af (fun r=>0≤r→s≠[]) (mo F s):=by
 unfold mo;have L1:([[61],[43,61],[45,61],[42,61],[47,61],[37,61],[60,60,61],[62,62,61],[38,61],[94,61],[124,61]]:List Bs).length=11:=rfl;have L2:([0,10,11,7,8,9,12,13,20,21,22]:List Int).length=11:=rfl;refine af.lp (fun i:Int=>∃k:Nat,i=(k:Int)∧k≤11) (fun i=>11 - i.toNat) ⟨0,rfl,om⟩ (by show 11 - 0<F;omega) ?_;rintro _ ⟨k,rfl,hk⟩ rc hrc;refine af.cd (fun h=>?_) fun _=>af.ok fun h=>absurd h de;have hk:k<11:=om;refine af.rq (cM om om) (af.cb (fun h=>af.rq (cM om om) (af.ok fun _=>?_)) fun _=>?_)
 ·have h:(([[61],[43,61],[45,61],[42,61],[47,61],[37,61],[60,60,61],[62,62,61],[38,61],[94,61],[124,61]]:List Bs).getD (Int.toNat (k:Int)) [])=s:=by simpa using h
  rw [←h,bf,gd om];have:∀x∈([[61],[43,61],[45,61],[42,61],[47,61],[37,61],[60,60,61],[62,62,61],[38,61],[94,61],[124,61]]:List Bs),x≠[]:=by decide
  exact this _ (ei _)
 ·rw [aM om]
  exact hrc _ ⟨k+1,rfl,om⟩ (by rw [bf,bf];omega)
theorem ai5 (F k:Nat) (h1:3≤k) (h2:k≤24):∃x,x≠[]∧vT F (k:Int)=some x:=by
 have hne:∀x∈([[45],[43],[33],[126],[42],[47],[37],[43],[45],[60,60],[62,62],[60],[62],[60,61],[62,61],[61,61],[33,61],[38],[94],[124],[38,38],[124,124]]:List Bs),x≠[]:=by decide
 have L:([[45],[43],[33],[126],[42],[47],[37],[43],[45],[60,60],[62,62],[60],[62],[60,61],[62,61],[61,61],[33,61],[38],[94],[124],[38,38],[124,124]]:List Bs).length=22:=rfl;unfold vT;rw [cf om,aE,cf om,cr om,show (k:Int) - 3=((k - 3:Nat):Int) from by omega,bu om om,bf,gd om];exact⟨_,hne _ (ei _),rfl⟩
theorem alJ (F:Nat) (o:Int):∃r,yN F o=some r:=by unfold yN;simp only [ax,aE];exact⟨_,rfl⟩
theorem an1 (F:Nat) (s:Bs) (l:Int) (hF:30<F):af (fun r=>r≠0→s≠[]) (vU F s l):=by
 unfold vU;refine af.lp (fun i:Int=>∃k:Nat,i=(k:Int)∧7≤k∧k≤25) (fun i=>25 - i.toNat) ⟨7,rfl,om,om⟩ (by show 25 - 7<F;omega) ?_;rintro _ ⟨k,rfl,h1,h2⟩ rc hrc;refine af.cd (fun h=>?_) fun _=>af.ok fun h=>absurd rfl h;obtain⟨x,hx,hs⟩:=ai5 F k om om;obtain⟨r,hr⟩:=alJ F (k:Int);rw [hs,aE,hr,aE,ax,aE];refine af.cb (fun hc=>af.ok fun _=>?_) fun _=>?_
 ·rw [cF,aV] at hc
  have:x=s:=by simpa using hc.1
  rw [←this];exact hx
 ·rw [aM om]
  exact hrc _ ⟨k+1,rfl,om,om⟩ (by rw [bf,bf];omega)
def TQ (s:Bs) (a:Nat) (r:TExpr × Bs × Int × Int × Int):Prop:=r.2.1=s∧∃m:Nat,r.2.2.1=(m:Int)∧a≤m∧m≤s.length∧wE r.1≤2 * (m - a)+1
def E1 (F:Nat) (s:Bs) (n:Nat):Prop:=∀(a:Nat) (e p:Int),a≤s.length→20 * (s.length - a)+17≤n→af (TQ s a) ((bC F n).1 s (a:Int) e p)
def E2 (F:Nat) (s:Bs) (n:Nat):Prop:=∀(a:Nat) (e p:Int),a≤s.length→20 * (s.length - a)+16≤n→af (TQ s a) ((bC F n).2.1 s (a:Int) e p)
def E3 (F:Nat) (s:Bs) (n:Nat):Prop:=∀(l a:Nat) (e p:Int),3≤l→l≤13→a≤s.length→20 * (s.length - a)+(16 - l)≤n→af (TQ s a) ((bC F n).2.2.1 (l:Int) s (a:Int) e p)
def E4 (F:Nat) (s:Bs) (n:Nat):Prop:=∀(a:Nat) (e p:Int),a≤s.length→20 * (s.length - a)+2≤n→af (TQ s a) ((bC F n).2.2.2.1 s (a:Int) e p)
def E5 (F:Nat) (s:Bs) (n:Nat):Prop:=∀(a:Nat) (e p:Int),a≤s.length→20 * (s.length - a)+1≤n→af (TQ s a) ((bC F n).2.2.2.2 s (a:Int) e p)
theorem TQ.mk {s:Bs} {a m:Nat} {t:TExpr} {e p:Int} (h1:a≤m) (h2:m≤s.length) (h3:wE t≤2 * (m - a)+1):TQ s a (t,s,(m:Int),e,p):=⟨rfl,m,rfl,h1,h2,h3⟩
section
variable {F : Nat} {s : Bs} {n : Nat}
theorem aif (hF:s.length+200<F) (hs:s.length≤100000) (h1:E1 F s n) (h2:E2 F s n):E1 F s (n+1):=by
 intro a e p ha hn;show af _ (q8 F (bC F n) s (a:Int) e p);unfold q8;refine af.bd (FJ F s a e p om hs ha) fun⟨s1,_,_,_⟩ ⟨⟨q1,m,q2,m1,m2⟩,h3⟩=>?_;dsimp only at q1 q2 h3 ⊢;subst q1 q2;cases h3;refine af.bd (ai3 F s1 m e p om hs m2) fun w hw=>?_;refine af.jj (P:=fun x=>(∀z,x=.inl z→∃e' p',z=(s1,(m:Int),e',p'))∧∀r,x=.inr r→TQ s1 a r) ?_ (fun z hz=>?_) fun r h=>h.2 r rfl
 ·have ok:∀e' p':Int,af (fun x:(Bs × Int × Int × Int) ⊕ (TExpr × Bs × Int × Int × Int)=>(∀z,x=.inl z→∃e' p',z=(s1,(m:Int),e',p'))∧∀r,x=.inr r→TQ s1 a r) (some (.inl (s1,(m:Int),e',p'))):=fun e' p'=>af.ok ⟨fun z h=>by cases h;exact⟨e',p',rfl⟩,fun r h=>nomatch h⟩
  refine af.bd (P:=fun b=>b=true→0<w.length) (af.cb (fun h=>?_) fun _=>af.ok fun h=>nomatch h) fun b hb=>af.cb (fun h=>?_) fun _=>ok e p
  ·have:w≠[]:=by simpa using h
   have:=uq.2 this;obtain⟨c,hc⟩:=S8 F ((w.getD 0 0).toNat:Int);rw [hc];exact af.rq (decide_eq_true om) (af.ok fun _=>this)
  ·have hw0:=hb h
   rw [cr om,show (m:Int)+(w.length:Int)=((m+w.length:Nat):Int) from rfl];refine af.bd (Ye F s1 (m+w.length) e p om hs om) fun⟨o,_⟩ ⟨k,hk,k1,k2⟩=>?_;dsimp only at hk k2 ⊢;subst hk;dsimp only;refine af.bd (ai4 F o om) fun x hx=>af.cd (fun h0=>?_) fun _=>ok e p;have ho:=uq.2 (hx h0);refine af.bd (P:=fun z=>∃e' p',z=(s1,(k:Int),e',p')) (af.bd (DG F w om) fun b _=>af.cb (fun _=>?_) fun _=>af.ok ⟨e,p,rfl⟩) fun z ⟨e2,p2,hz⟩=>?_
   ·obtain⟨e2,p2,h⟩:=L6 F s1 (k:Int) e p 10 (m:Int)
    rw [h];exact af.ok ⟨e2,p2,rfl⟩
   ·subst hz
    refine af.bd (ai4 F o om) fun x' _=>?_;dsimp only;rw [cr (x:=(k:Int)+(o.length:Int)) om,show (k:Int)+(o.length:Int)=((k+o.length:Nat):Int) from rfl];refine af.bd (h1 (k+o.length) e2 p2 om om) fun r ⟨r1,g,r2,r3,r4,r5⟩=>af.ok ⟨fun z h=>(nomatch h),fun r' h=>?_⟩;cases h;refine⟨r1,g,r2,om,r4,?_⟩;show wE (.mk 26 x' w [r.1])≤_;rw [A3];simp only [sF];omega
 ·obtain⟨e',p',rfl⟩:=hz.1 z rfl
  refine af.bd (h2 m e' p' m2 om) fun r ⟨r1,k,r2,r3,r4,r5⟩=>af.ok ?_;rw [TExpr.eta];exact⟨r1,k,r2,om,r4,by show wE r.1≤_;omega⟩
theorem agz (hF:s.length+200<F) (hs:s.length≤100000) (h1:E1 F s n) (h2:E2 F s n) (h3:E3 F s n):E2 F s (n+1):=by
 intro a e p ha hn;show af _ (qb F (bC F n) s (a:Int) e p);unfold qb;refine af.bd (h3 3 a e p om om ha om) fun⟨t,_,_,e1,p1⟩ ⟨r1,m,r2,r3,r4,r5⟩=>?_;dsimp only at r1 r2 r5 ⊢;subst r1 r2;refine af.bd (is5 F [63] _ m e1 p1 om hs r4) fun⟨b,_⟩ ⟨k,hk,k1,k2,k3⟩=>?_;dsimp only at hk k3 ⊢;subst hk;refine af.cb (fun _=>af.ok ?_) fun hb=>?_
 ·show TQ _ a (TExpr.mk t.fOp t.fN t.fName t.fKids,_)
  rw [TExpr.eta];exact TQ.mk om k2 om
 have k3:=k3 (by simpa using hb);dsimp only at k3 ⊢;simp only [jd,kg] at k3;refine af.bd (h1 k e1 p1 k2 om) fun⟨t2,_,_,e2,p2⟩ ⟨g1,g,g2,g3,g4,g5⟩=>?_;dsimp only at g1 g2 g5 ⊢;subst g1 g2;refine af.bd (is5 F [58] _ g e2 p2 om hs g4) fun⟨b,_⟩ ⟨q,hq,q1,q2,q3⟩=>?_;dsimp only at hq q3 ⊢;subst hq;refine af.cb (fun _=>?_) fun hb=>?_
 ·obtain⟨e3,p3,h⟩:=L6 F _ (q:Int) e2 p2 6 (q:Int)
  dsimp only;rw [h];refine af.ok ?_;show TQ _ a (TExpr.mk t.fOp t.fN t.fName t.fKids,_);rw [TExpr.eta];exact TQ.mk om q2 om
 have q3:=q3 (by simpa using hb);dsimp only at q3 ⊢;simp only [jd,kg] at q3;refine af.bd (h2 q e2 p2 q2 om) fun⟨t3,_,_,e3,p3⟩ ⟨w1,w,w2,w3,w4,w5⟩=>af.ok ?_;dsimp only at w1 w2 w5 ⊢;subst w1 w2;show TQ _ a (TExpr.mk 25 0 [] [TExpr.mk t.fOp t.fN t.fName t.fKids,TExpr.mk t2.fOp t2.fN t2.fName t2.fKids,t3],_);rw [TExpr.eta,TExpr.eta];exact TQ.mk om w4 (by rw [A3];simp only [sF];omega)
theorem afk (hF:s.length+200<F) (hs:s.length≤100000) (h3:E3 F s n) (h4:E4 F s n):E3 F s (n+1):=by
 intro l a e p l3 l13 ha hn;show af _ (o7 F (bC F n) (l:Int) s (a:Int) e p);unfold o7;refine af.cd (fun h=>?_) fun h=>?_
 ·refine af.bd (h4 a e p ha om) fun⟨t,_,_,e1,p1⟩ ⟨r1,m,r2,r3,r4,r5⟩=>af.ok ?_
  dsimp only at r1 r2 r5 ⊢;subst r1 r2;rw [TExpr.eta];exact TQ.mk r3 r4 r5
 have hl:ag ((l:Int)+1)=((l+1:Nat):Int):=aM om;rw [hl];refine af.bd (h3 (l+1) a e p om om ha om) fun⟨t,s1,a1,e1,p1⟩ ⟨r1,m,r2,r3,r4,r5⟩=>?_;dsimp only at r1 r2 r5 ⊢;subst r1 r2;refine af.lp (fun z:Bs × Int × Int × Int × Int × Int × Bs × List TExpr=>z.1=s1∧∃m:Nat,z.2.1=(m:Int)∧a≤m∧m≤s1.length∧wE (.mk z.2.2.2.2.1 z.2.2.2.2.2.1 z.2.2.2.2.2.2.1 z.2.2.2.2.2.2.2)≤2 * (m - a)+1) (fun z=>z.1.length - z.2.1.toNat) ⟨rfl,m,rfl,r3,r4,by dsimp only;rw [TExpr.eta];exact r5⟩ (by dsimp only;rw [Int.toNat_natCast];omega) ?_;rintro⟨s2,_,e2,p2,op,nn,nm,ks⟩ ⟨g1,g,g2,g3,g4,g5⟩ rc hrc;dsimp only at g1 g2 g4 g5 hrc ⊢;subst g1 g2;have done:∀ {e3 p3:Int} {q:Nat},g≤q→q≤s2.length→af (TQ s2 a) (some (TExpr.mk op nn nm ks,s2,(q:Int),e3,p3)):=fun h h'=>af.ok (TQ.mk om h' om);refine af.cb (fun _=>?_) fun _=>done (bM _) g4;refine af.bd (Ye F s2 g e2 p2 om hs g4) fun⟨o,_⟩ ⟨q,hq,q1,q2⟩=>?_;dsimp only at hq q2 ⊢;subst hq;dsimp only;refine af.bd (an1 F o (l:Int) om) fun x hx=>?_;by_cases h0:x=0
 ·subst h0;exact done q1 om
 ·rw [show (x==0)=false from by simpa using h0,cond_false,cr om,show (q:Int)+(o.length:Int)=((q+o.length:Nat):Int) from rfl]
  have ho:=uq.2 (hx h0);refine af.bd (h3 (l+1) (q+o.length) e2 p2 om om om om) fun⟨t7,_,_,e7,p7⟩ ⟨w1,w,w2,w3,w4,w5⟩=>?_;dsimp only at w1 w2 w5 ⊢;subst w1 w2;refine hrc _ ⟨rfl,w,rfl,om,w4,?_⟩ (by dsimp only;rw [Int.toNat_natCast,Int.toNat_natCast];omega);show wE (TExpr.mk x 0 [] [TExpr.mk op nn nm ks,t7])≤_;rw [A3];simp only [sF];omega
theorem afl (hF:s.length+200<F) (hs:s.length≤100000) (h4:E4 F s n) (h5:E5 F s n):E4 F s (n+1):=by
 intro a e p ha hn;show af _ (o8 F (bC F n) s (a:Int) e p);unfold o8;refine af.bd (Ye F s a e p om hs ha) fun⟨o,_⟩ ⟨q,hq,q1,q2⟩=>?_;dsimp only at hq q2 ⊢;subst hq;dsimp only
 have an2:af (TQ s a) (((bC F n).2.2.2.2 s (q:Int) e p).bind fun x7=>some (TExpr.mk x7.1.fOp x7.1.fN x7.1.fName x7.1.fKids,x7.2.1,x7.2.2.1,x7.2.2.2.1,x7.2.2.2.2)):=by
  refine af.bd (h5 q e p om om) fun⟨t,_,_,e1,p1⟩ ⟨r1,m,r2,r3,r4,r5⟩=>af.ok ?_;dsimp only at r1 r2 r5 ⊢;subst r1 r2;rw [TExpr.eta];exact TQ.mk om r4 om
 refine af.lp (fun i:Int=>∃k:Nat,i=(k:Int)∧3≤k∧k≤7) (fun i=>7 - i.toNat) ⟨3,rfl,om,om⟩ (by show 7 - 3<F;omega) ?_;rintro _ ⟨k,rfl,k1,k2⟩ rc hrc;rw [ax,aE];refine af.cb (fun hc=>?_) fun _=>an2;rw [cF,aV] at hc;have k3:=of_decide_eq_true hc.1;obtain⟨x,hx,hsx⟩:=ai5 F k k1 om;rw [hsx,aE,aM (i:=k) om];refine af.cb (fun h=>?_) fun _=>hrc _ ⟨k+1,rfl,om,om⟩ (by rw [bf,bf];omega);have h:o=x:=by simpa using h
 have ho:0<o.length:=by rw [h];exact uq.2 hx
 rw [cr om,show (q:Int)+(o.length:Int)=((q+o.length:Nat):Int) from rfl];refine af.bd (h4 (q+o.length) e p om om) fun⟨t,_,_,e1,p1⟩ ⟨r1,m,r2,r3,r4,r5⟩=>af.ok ?_;dsimp only at r1 r2 r5 ⊢;subst r1 r2;show TQ _ a (TExpr.mk (k:Int) 0 [] [t],_);exact TQ.mk om r4 (by rw [A3];simp only [sF];omega)
theorem agA (hF:s.length+200<F) (hs:s.length≤100000) (h1:E1 F s n):E5 F s (n+1):=by
 intro a e p ha hn;show af _ (mL F (bC F n) s (a:Int) e p);unfold mL;refine af.bd (is5 F [40] s a e p om hs ha) fun⟨b,_⟩ ⟨k,hk,k1,k2,k3⟩=>?_;dsimp only at hk k3 ⊢;subst hk;dsimp only;refine af.cb (fun hb=>?_) fun _=>?_
 ·have k3:=k3 hb
  simp only [jd,kg] at k3;refine af.bd (h1 k e p k2 om) fun⟨t,_,_,e1,p1⟩ ⟨r1,m,r2,r3,r4,r5⟩=>?_;dsimp only at r1 r2 r5 ⊢;subst r1 r2;refine af.bd (is5 F [41] _ m e1 p1 om hs r4) fun⟨b,_⟩ ⟨q,hq,q1,q2,q3⟩=>?_;dsimp only at hq q3 ⊢;subst hq;dsimp only;refine af.cb (fun _=>?_) fun _=>?_
  ·obtain⟨e3,p3,h⟩:=L6 F _ (q:Int) e1 p1 6 (q:Int)
   rw [h];refine af.ok ?_;show TQ _ a (TExpr.mk t.fOp t.fN t.fName t.fKids,_);rw [TExpr.eta];exact TQ.mk om q2 om
  ·refine af.ok ?_
   show TQ _ a (TExpr.mk t.fOp t.fN t.fName t.fKids,_);rw [TExpr.eta];exact TQ.mk om q2 om
 ·refine af.bd (FJ F s k e p om hs k2) fun⟨s1,_,_,_⟩ ⟨⟨q1,m,q2,m1,m2⟩,q3⟩=>?_
  dsimp only at q1 q2 q3 ⊢;subst q1 q2;cases q3;refine af.bd (ai3 F s1 m e p om hs m2) fun w hw=>?_;have z:∀(e' p':Int),TQ s1 a (TExpr.mk 0 0 [] [],s1,(m:Int),e',p'):=fun e' p'=>TQ.mk om m2 (by rw [A3];simp only [sF];omega)
  have fl:∀(x:Int),af (TQ s1 a) ((dD F x (m:Int) s1 (m:Int) e p).bind fun x7=>some (TExpr.mk ((TExpr.mk 0 0 [] []).fOp) ((TExpr.mk 0 0 [] []).fN) ((TExpr.mk 0 0 [] []).fName) ((TExpr.mk 0 0 [] []).fKids),x7.1,x7.2.1,x7.2.2.1,x7.2.2.2)):=fun x=>by
   obtain⟨e3,p3,h⟩:=L6 F s1 (m:Int) e p x (m:Int);rw [h];exact af.ok (z e3 p3)
  refine zi (fun _=>af.ok (z e p)) fun _=>?_
  cases hw0:(w==[]) with
  | true=>exact fl 6
  | false =>
   have:w≠[]:=by simpa using hw0
   have:=uq.2 this;obtain⟨c,hc⟩:=S8 F ((w.getD 0 0).toNat:Int);have e1:ag ((m:Int)+(w.length:Int))=((m+w.length:Nat):Int):=cr om;rw [cond_false,mS om,hc,aE];refine af.cb (fun _=>?_) fun _=>?_
   ·refine af.bd (P:=fun z=>∃e' p',z=(s1,(m:Int),e',p')) (af.bd (DG F w om) fun b _=>af.cb (fun _=>?_) fun _=>af.ok ⟨e,p,rfl⟩) fun z ⟨e2,p2,hz⟩=>?_
    ·obtain⟨e2,p2,h⟩:=L6 F s1 (m:Int) e p 10 (m:Int)
     rw [h];exact af.ok ⟨e2,p2,rfl⟩
    ·subst hz
     dsimp only;rw [e1];refine af.ok ?_;show TQ _ a (TExpr.mk 2 0 w [],_);exact TQ.mk om om (by rw [A3];simp only [sF];omega)
   ·refine af.bd (agy F w om om) fun v _=>?_
    simp only [ax,aE];refine af.cb (fun _=>fl _) fun _=>af.ok ?_;rw [e1];show TQ _ a (TExpr.mk 1 _ [] [],_);exact TQ.mk om om (by rw [A3];simp only [sF];omega)
theorem agB (hF:s.length+200<F) (hs:s.length≤100000):∀n,E1 F s n∧E2 F s n∧E3 F s n∧E4 F s n∧E5 F s n
 | 0=>⟨fun a e p h1 h2=>om,fun a e p h1 h2=>om,fun l a e p h3 h4 h1 h2=>om,fun a e p h1 h2=>om,fun a e p h1 h2=>om⟩
 | n+1=>by
  obtain⟨h1,h2,h3,h4,h5⟩:=agB hF hs n;exact⟨aif hF hs h1 h2,agz hF hs h1 h2 h3,afk hF hs h3 h4,afl hF hs h4 h5,agA hF hs h1⟩
end
theorem ac7 (F:Nat):∀(n:Nat) (e:TExpr),wE e<n→wE e<F→wE e≤1000000→af (fun _=>True) (nW F n e)
 | 0,e,h,_,_=>by omega
 | n+1,e,h,hF,hs=>by
  show af _ (xW F (nW F n) e);unfold xW;have hl:=S7 e.fKids;have he:=QD e;refine af.lp (fun z:Int × Int=>∃k:Nat,z.2=(k:Int)∧k≤e.fKids.length) (fun z=>e.fKids.length - z.2.toNat) ⟨0,rfl,om⟩ (by show e.fKids.length - 0<F;omega) ?_;rintro⟨x,_⟩ ⟨k,rfl,hk⟩ rc hrc;dsimp only at hrc ⊢;refine af.cd (fun h=>?_) fun _=>af.ok trivial;have hk:k<e.fKids.length:=om;have:=FI hk;rw [bu om om,aM om,bf];refine af.bd (ac7 F n _ om om om) fun y _=>hrc _ ⟨k+1,rfl,hk⟩ (by show e.fKids.length - Int.toNat ((k+1:Nat):Int)<e.fKids.length - Int.toNat (k:Int);omega)
theorem alK (F:Nat) (s:Bs) (hs:s.length≤100000) (hF:10000000≤F):af (fun r=>wE r.1≤20000) (yO F s):=by
 have z:wE (.mk 0 0 [] [])≤20000:=by rw [A3];simp only [sF];omega
 have z1:wE (.mk 1 0 [] [])≤20000:=by rw [A3];simp only [sF];omega
 unfold yO;refine af.cd (fun _=>af.ok z) fun h=>?_;refine af.bd (FJ F s 0 0 0 om hs om) fun⟨s1,_,_,_⟩ ⟨⟨q1,m,q2,m1,m2⟩,q3⟩=>?_;dsimp only at q1 q2 q3 ⊢;subst q1 q2;cases q3;refine af.cb (fun _=>af.ok z1) fun _=>?_;refine af.bd ((agB (n:=F) (F:=F) (s:=s1) om hs).1 m 0 0 m2 om) fun⟨t,s2,_,e,p⟩ ⟨r1,g,r2,r3,r4,r5⟩=>?_;dsimp only at r1 r2 r5 ⊢;subst r1 r2;refine af.bd (FJ F _ g e p om hs r4) fun⟨s3,_,_,_⟩ ⟨⟨q1,k,q2,k1,k2⟩,q3⟩=>?_;dsimp only at q1 q2 q3 ⊢;subst q1 q2;cases q3;refine af.bd (P:=fun _=>True) (af.cd (fun _=>?_) fun _=>af.ok trivial) fun w _=>af.cb (fun _=>af.ok z) fun _=>?_
 ·obtain⟨e',p',h⟩:=L6 F s3 (k:Int) e p 6 (k:Int)
  rw [h];exact af.ok trivial
 rw [TExpr.eta];exact af.bd (ac7 F F t om om om) fun _ _=>af.cd (fun _=>af.ok z) fun _=>af.ok (by show wE (.mk t.fOp t.fN t.fName t.fKids)≤_;rw [TExpr.eta];omega)
theorem ajX:∀ {l:List TExpr} {k:Nat},0<k→k<l.length→wE (l.getD 0 dU)+wE (l.getD k dU)≤sF l
 | [],k,_,h=>absurd h (XM _)
 | p::l,0,h,_=>absurd h (mA _)
 | p::l,k+1,_,h=>by have:=FI (l:=l) (k:=k) (by simpa using h);show wE p+wE (l.getD k dU)≤_;simp only [sF];omega
inductive VE:TExpr→Prop
 | mk {e:TExpr} (h:(e.fOp=1∨e.fOp=2)∨0<e.fKids.length) (h2:e.fOp=25→e.fKids.length=3) (h3:¬(e.fOp=1∨e.fOp=2)→¬(3≤e.fOp∧e.fOp≤6)→e.fOp≠26→e.fOp≠25→1<e.fKids.length) (k:∀i:Nat,i<e.fKids.length→VE (e.fKids.getD i dU)):VE e
def kd (o:Int):Int:=cond (o==1||o==2) 0 (cond ((decide (3≤o)&&decide (o≤6))||o==26) 1 (cond (decide (7≤o)&&decide (o≤24)) 2 (cond (o==25) 3 (-1))))
theorem am5 (F:Nat) (o:Int):A4 F o=some (kd o):=by
 unfold A4 kd;simp only [ax,aE];cases (o==1)<;>cases (o==2)<;>cases (decide (3≤o))<;>cases (decide (o≤6))<;>cases (o==26)<;>cases (decide (7≤o))<;>cases (decide (o≤24))<;>cases (o==25)<;>rfl
theorem am6 {e:TExpr} (h:(e.fKids.length:Int)=kd e.fOp) (k:∀i:Nat,i<e.fKids.length→VE (e.fKids.getD i dU)):VE e:=by
 by_cases a:e.fOp=1∨e.fOp=2
 ·exact⟨.inl a,fun h=>om,fun h=>absurd a h,k⟩
 have a1:(e.fOp==1||e.fOp==2)=false:=by rw [zG];exact⟨beq_eq_false_iff_ne.2 fun h=>a (.inl h),beq_eq_false_iff_ne.2 fun h=>a (.inr h)⟩
 unfold kd at h;rw [a1,cond_false] at h;by_cases b:(3≤e.fOp∧e.fOp≤6)∨e.fOp=26
 ·have b1:((decide (3≤e.fOp)&&decide (e.fOp≤6))||e.fOp==26)=true:=by rw [Ef,aV,decide_eq_true_iff,decide_eq_true_iff,beq_iff_eq];exact b
  rw [b1,cond_true] at h;exact⟨.inr om,fun h=>om,fun _ h1 h2=>om,k⟩
 have b1:((decide (3≤e.fOp)&&decide (e.fOp≤6))||e.fOp==26)=false:=by
  rw [O2,ne_eq,Ef,aV,decide_eq_true_iff,decide_eq_true_iff,beq_iff_eq];exact b
 rw [b1,cond_false] at h;by_cases c:7≤e.fOp∧e.fOp≤24
 ·have c1:(decide (7≤e.fOp)&&decide (e.fOp≤24))=true:=by rw [aV,decide_eq_true_iff,decide_eq_true_iff];exact c
  rw [c1,cond_true] at h;exact⟨.inr om,fun h=>om,fun _ _ _ _=>om,k⟩
 have c1:(decide (7≤e.fOp)&&decide (e.fOp≤24))=false:=by
  rw [O2,ne_eq,aV,decide_eq_true_iff,decide_eq_true_iff];exact c
 rw [c1,cond_false] at h;by_cases d:e.fOp=25
 ·rw [d] at h
  have h:(e.fKids.length:Int)=3:=h;exact⟨.inr om,fun _=>om,fun _ _ _ h=>absurd d h,k⟩
 ·rw [beq_eq_false_iff_ne.2 d,cond_false] at h
  omega
theorem am7 (F:Nat) (o:Int):∃b,su F o=some b:=by unfold su;simp only [ax,aE];exact⟨_,rfl⟩
theorem agC (F:Nat):∀(n:Nat) (e:TExpr) (d:Nat),wE e<n→wE e<F→wE e≤1000000→40<F→d≤32→af (fun r=>r=0→VE e) (pQ F n e (d:Int))
 | 0,e,d,h,_,_,_,_=>by omega
 | n+1,e,d,h,hF,hs,tq,hd=>by
  show af _ (zW F (pQ F n) e (d:Int));unfold zW;have hl:=S7 e.fKids;have he:=QD e;have no:∀ {x:Int},x≠0→af (fun r=>r=0→VE e) (some x):=fun h=>af.ok fun h'=>absurd h' h;refine af.cd (fun _=>no de) fun h32=>?_;rw [am5];simp only [ax,aE];refine af.cb (fun _=>no de) fun hk=>af.cb (fun _=>no de) fun _=>?_;have hk:(e.fKids.length:Int)=kd e.fOp:=by simpa using hk
  obtain⟨b,hb⟩:=am7 F e.fN;rw [hb];simp only [ax,aE];refine af.cb (fun _=>no de) fun _=>af.bd (P:=fun _=>True) (af.cb (fun _=>af.bd (DG F _ tq) fun _ _=>af.ok trivial) fun _=>af.ok trivial) fun _ _=>af.cb (fun _=>no de) fun _=>?_;refine af.lp (fun z:Int=>∃k:Nat,z=(k:Int)∧k≤e.fKids.length∧∀i:Nat,i<k→VE (e.fKids.getD i dU)) (fun z=>e.fKids.length - z.toNat) ⟨0,rfl,om,fun i h=>absurd h (XM _)⟩ (by show e.fKids.length - 0<F;omega) ?_;rintro _ ⟨k,rfl,hk2,hv⟩ rc hrc;refine af.cd (fun h=>?_) fun h=>af.ok fun _=>am6 hk fun i hi=>hv i om;have YC:k<e.fKids.length:=om;have:=FI YC;rw [bu om om,aM om,aM om,bf];refine af.bd (agC F n _ (d+1) om om om tq om) fun y hy=>af.cb (fun h=>no (by simpa using h)) fun h0=>hrc _ ⟨k+1,rfl,YC,fun i hi=>?_⟩ (by rw [bf,bf];omega);by_cases e:i=k
  ·subst e;exact hy (by simpa using h0)
  ·exact hv i om
def VB (n:Nat) (l:List aO):Prop:=l.length≤n∧∀b∈l,b.bN.length≤4096
theorem VB.get {n:Nat} {l:List aO} (h:VB n l) {k:Nat} (hk:k<l.length):(l.getD k eX).bN.length≤4096:=by rw [gd hk];exact h.2 _ (ei _)
theorem VB.snoc {n m:Nat} {l:List aO} {b:aO} (h:VB n l) (hb:b.bN.length≤4096) (hm:n+1≤m):VB m (l++[b]):=⟨by have:=h.1;simp;omega,fun x hx=>by
 rcases gz.1 hx with h1 | h1
 ·exact h.2 _ h1
 ·rw [iw.1 h1];exact hb⟩
theorem VB.mono {n m:Nat} {l:List aO} (h:VB n l) (hm:n≤m):VB m l:=⟨by have:=h.1;omega,h.2⟩
theorem ai6 (F:Nat) (l:List aO) (a b:Bs) {n:Nat} (h:VB n l) (hn:n<F) (hn2:n≤1000000) (hb:b.length≤4096):af (VB (n+1)) (vV F l a b):=by
 unfold vV;have hn0:=h.1;refine af.lp (fun z:List aO × Bool × Int=>∃k:Nat,z.2.2=(k:Int)∧k≤l.length∧VB (k+cond z.2.1 1 0) z.1) (fun z=>l.length - z.2.2.toNat) ⟨0,rfl,om,si,fun _ h=>nomatch h⟩ (by show l.length - 0<F;omega) ?_;rintro⟨o,f,_⟩ ⟨k,rfl,hk,hv⟩ rc hrc;dsimp only at hv hrc ⊢;have ho:=hv.1;have hc:cond f 1 0≤1:=by cases f<;>decide
 refine af.cd (fun h1=>?_) fun h1=>?_
 ·have hk1:k<l.length:=om
  rw [aM om];refine af.bd (P:=fun z:List aO × Bool=>VB (k+cond z.2 1 0) z.1) (af.bd (P:=fun c=>c=true→f=false) (af.cb (fun h=>af.rq (cM om om) (af.ok fun _=>by simpa using h)) fun _=>af.ok fun h=>nomatch h) fun c fJ=>af.cb (fun h=>?_) fun _=>af.ok hv) fun z hz=>af.rq (cM om om) ?_
  ·have:=fJ h
   subst this;exact af.rq (cM bx bx) (af.ok (hv.snoc hb si))
  ·have BJ:=hz.1
   have hc2:cond z.2 1 0≤1:=by cases z.2<;>decide
   have m:∀ {x:List aO},VB (k+1+cond z.2 1 0) x→af (VB (n+1)) (rc (x,z.2,((k+1:Nat):Int))):=fun h=>hrc _ ⟨k+1,rfl,hk1,h⟩ (by show l.length - Int.toNat ((k+1:Nat):Int)<l.length - Int.toNat (k:Int);omega);refine af.cb (fun _=>af.rq (cM om om) (af.rq (cM bx bx) (m (hz.snoc (by rw [bf];exact h.get hk1) om)))) fun _=>m (hz.mono om)
 ·refine af.cb (fun _=>af.rq (cM bx bx) (af.ok ?_)) fun _=>af.ok (hv.mono om)
  have hf:f=false:=by simpa using ‹(!f)=true›
  subst hf;exact hv.snoc hb bx
theorem am8 (F:Nat) (l:List aO) {n:Nat} (h:VB n l) (hn:n+1<F) (hn2:n<1000000):af (VB n) (vW F l):=by
 unfold vW;have hn0:=h.1;refine af.lp (fun z:List aO × Int=>∃k:Nat,z.2=(k:Int)∧k≤l.length∧VB k z.1) (fun z=>l.length - z.2.toNat) ⟨0,rfl,om,fT _,fun _ h=>nomatch h⟩ (by show l.length - 0<F;omega) ?_;rintro⟨o,_⟩ ⟨k,rfl,hk,hv⟩ rc hrc;dsimp only at hv hrc ⊢;refine af.cd (fun h1=>?_) fun h1=>af.ok (hv.mono om);have hk1:k<l.length:=om;rw [bu om om,bu om om,aM om,bf];exact af.bd (ai6 F o _ _ hv om om (h.get hk1)) fun z hz=>hrc _ ⟨k+1,rfl,hk1,hz⟩ (by show l.length - Int.toNat ((k+1:Nat):Int)<l.length - Int.toNat (k:Int);omega)
theorem afm (F:Nat) (l:List aO) (a:Bs) (hF:l.length<F) (hl:l.length≤10000000):af (fun r=>(∀b∈l,b.bN.length≤4096)→r.length≤4096) (nX F l a):=by
 unfold nX;rw [cr om];refine af.lp (fun i:Int=>-1≤i∧i<l.length) (fun i=>(i+1).toNat) ⟨om,om⟩ om ?_;rintro i ⟨h1,h2⟩ rc hrc;refine af.cd (fun h=>?_) fun _=>af.ok fun _=>fT _;refine af.rq (cM h h2) (af.cb (fun _=>af.rq (cM h h2) (af.ok fun hb=>?_)) fun _=>?_)
 ·rw [gd om];exact hb _ (ei _)
 rw [cr om];exact hrc _ ⟨om,om⟩ om
theorem agD (F:Nat) (s:Bs) (hF:s.length<F) (hs:s.length≤100000):af (fun _=>True) (tJ F s):=by
 unfold tJ;refine af.cb (fun _=>af.ok trivial) fun h=>?_;have:s≠[]:=by simpa using h
 have:=uq.2 this;rw [mS om,mS om];simp only [ax,aE];refine af.bd (P:=fun t=>t.length≤s.length) (af.bd (P:=fun _=>True) (af.cb (fun _=>af.ok trivial) fun _=>af.rq (decide_eq_true om) (af.ok trivial)) fun _ _=>af.cb (fun _=>af.rq (cM om om) (af.ok (by have:=iH s 1 s.length;exact kj this om))) fun _=>af.ok (bM _)) fun t ht=>?_;refine af.bd (P:=fun _=>True) ?_ fun v _=>af.ok trivial;unfold xX;refine af.bd (P:=fun b=>b=false→0<t.length) ?_ fun b hb=>af.bd (P:=fun _=>True) (af.cb (fun _=>af.ok trivial) fun h=>af.rq (decide_eq_true (by have:=hb h;omega)) (af.ok trivial)) fun _ _=>af.cb (fun _=>af.ok trivial) fun _=>af.bd (agy F t om om) fun _ _=>af.ok trivial;refine af.cb (fun _=>af.ok fun h=>nomatch h) fun h=>?_;have:t≠[]:=by simpa using h
 have:=uq.2 this;exact af.rq (decide_eq_true om) (af.ok fun _=>this)
theorem an3 (F:Nat) (o v:Int):∃r,DI F o v=some r:=by unfold DI mM;simp only [ax,aE];exact⟨_,rfl⟩
theorem alL (F:Nat) (o a b:Int):af (fun _=>True) (zj F o a b):=by
 have u:∀x:Int,(0:Int)≤IntKind.wrap .u64 x:=fun x=>by
  show (0:Int)≤x % 18446744073709551616;omega
 unfold zj EB mM;simp only [ax,aE];refine af.cb (fun _=>af.ok trivial) fun h=>af.cb (fun _=>af.ok trivial) fun _=>af.cb (fun h8=>af.rq ?_ (af.ok trivial)) fun h8=>af.cb (fun h9=>af.rq ?_ (af.ok trivial)) fun _=>?_
 ·simpa [h8] using h
 ·simpa [h9,h8] using h
 refine af.cb (fun _=>af.ok trivial) fun _=>af.cb (fun _=>af.ok trivial) fun _=>af.cb (fun _=>af.rq (decide_eq_true (u _)) (af.ok trivial)) fun _=>af.cb (fun _=>af.rq (decide_eq_true (u _)) (af.ok trivial)) fun _=>af.ok trivial
theorem ac8 (F:Nat) (v:Int) (hF:30<F) (h0:0≤v) (h:v<18446744073709551616):af (fun r=>r.length≤20) (q9 F v):=by
 unfold q9;refine af.lp (fun z:Int × Bs=>z.1<18446744073709551616∧z.2.length≤19∧0≤z.1∧z.1<(10:Int) ^ (20 - z.2.length)) (fun z=>20 - z.2.length) ⟨h,fT _,h0,Int.lt_of_lt_of_le h (show (18446744073709551616:Int)≤10 ^ 20 by decide)⟩ (by show 20 - 0<F;omega) ?_;rintro⟨v,s⟩ ⟨h3,hk,h1,h2⟩ rc hrc;dsimp only at h1 h2 h3 hk hrc ⊢;have one:∀x:Int,(bh ([x]:List Int)).length=1:=fun x=>rfl;refine af.cd (fun h=>?_) fun h=>?_
 ·have hk2:s.length≤18:=by
   apply O3;intro hh;have:s.length=19:=om;rw [this] at h2;have h2:v<10:=h2;omega
  have e:(10:Int) ^ (20 - s.length)=10 ^ (20 - (s.length+1)) * 10:=by rw [←Int.pow_succ];congr 1;omega
  have d:IntKind.wrap .u64 (Int.tdiv v 10)=v / 10:=by
   have:Int.tdiv v 10=v / 10:=Int.tdiv_eq_ediv_of_nonneg h1;show Int.tdiv v 10 % 18446744073709551616=_;omega
  rw [d];refine af.rq (decide_eq_true (by rw [one];omega)) (hrc _ ⟨by show v / 10<_;omega,by show (_++s).length≤19;rw [eW,one];omega,by show 0≤v / 10;omega,?_⟩ (by show 20 - (_++s).length<_;rw [eW,one];omega));show v / 10<(10:Int) ^ (20 - (_++s).length);rw [eW,one,XN 1];omega
 ·exact af.rq (decide_eq_true (by rw [one];omega)) (af.ok (by rw [eW,one];omega))
theorem alM (F:Nat) (v:Int) (hF:30<F):af (fun r=>r.length≤21) (dQ F v):=by
 have u:∀x:Int,(0:Int)≤IntKind.wrap .u64 x∧IntKind.wrap .u64 x<18446744073709551616:=fun x=>by
  show (0:Int)≤x % 18446744073709551616∧x % 18446744073709551616<18446744073709551616;omega
 unfold dQ;refine af.cd (fun _=>af.bd (ac8 F _ hF (u _).1 (u _).2) fun x hx=>af.rq (decide_eq_true bx) (af.ok bx)) fun _=>af.bd (ac8 F _ hF (u _).1 (u _).2) fun x hx=>af.ok om
def EV (n:Nat) (r:Int × List aO × Int):Prop:=VB n r.2.1
theorem an4 (F:Nat) (e:TExpr) (v:Int) (l:List aO) {n:Nat} (h:VB n l) (hn:n<F) (hF:10000<F) (hn2:n≤1000000):af (EV (n+1)) (DJ F e v l):=by
 unfold DJ;have m:VB (n+1) l:=h.mono om;have h0:=h.1;refine af.jj (P:=fun x=>∀r,x=.inr r→EV (n+1) r) ?_ (fun v _=>?_) fun r h=>h r rfl
 ·refine af.cb (fun _=>af.bd (afm F l e.fName om om) fun t ht=>af.bd (agD F t (by have:=ht h.2;omega) (by have:=ht h.2;omega)) fun x _=>af.cb (fun _=>af.ok fun r hr=>by cases hr;exact m) fun _=>af.bd (alL F _ _ _) fun y _=>af.cb (fun _=>af.ok fun r hr=>by cases hr;exact m) fun _=>af.ok fun r hr=>nomatch hr) fun _=>af.ok fun r hr=>nomatch hr
 ·exact af.bd (alM F v om) fun t ht=>af.bd (ai6 F l e.fName t h hn hn2 om) fun z hz=>af.ok hz
theorem QE (F:Nat) (hF:2000000≤F):∀(n:Nat) (e:TExpr) (l:List aO) (c:Nat),wE e<n→VE e→VB c l→c+wE e≤1000000→af (EV (c+wE e)) (ri F n e l)
 | 0,e,_,_,h,_,_,_=>by omega
 | n+1,e,l,c,h,hv,hl,hc=>by
  show af _ (B6 F (ri F n) e l);unfold B6;have he:=QD e;have h0:=hl.1;have up:∀ {x:List aO} {c':Nat},VB c' x→c'≤c+wE e→∀a b,af (EV (c+wE e)) (some (a,x,b)):=fun h h' a b=>af.ok (h.mono h');obtain⟨v1,v2,v3,v4⟩:=hv;refine af.cb (fun _=>up hl om _ _) fun e1=>af.cb (fun _=>af.bd (afm F l e.fName om om) fun t ht=>af.bd (agD F t (by have:=ht hl.2;omega) (by have:=ht hl.2;omega)) fun x _=>af.cb (fun _=>up hl om _ _) fun _=>up hl om _ _) fun e2=>?_;have e12:¬(e.fOp=1∨e.fOp=2):=by simp at e1 e2;omega
  have k0:0<e.fKids.length:=v1.resolve_left e12;have w0:=FI k0;rw [mS om];refine af.bd (QE F hF n _ l c om (v4 0 k0) hl om) fun x hx=>?_;have hx:VB (c+wE (e.fKids.getD 0 dU)) x.2.1:=hx;have hx0:=hx.1;have two:∀ {k:Nat},0<k→k<e.fKids.length→wE (e.fKids.getD 0 dU)+wE (e.fKids.getD k dU)≤sF e.fKids:=fun h h'=>ajX h h';simp only [ax,aE];refine af.cb (fun _=>up hx om _ _) fun _=>af.cb (fun _=>?_) fun n36=>af.cb (fun _=>?_) fun n26=>af.cb (fun h25=>?_) fun _=>af.cb (fun h25=>?_) fun n25=>?_
  ·obtain⟨y,hy⟩:=an3 F e.fOp x.1
   rw [hy];exact up hx om _ _
  ·exact af.bd (an4 F _ _ _ hx om om om) fun z hz=>up (show VB _ z.2.1 from hz) om _ _
  ·have k3:=v2 (by simp at h25;exact h25.1)
   have:=two (k:=1) om om;rw [mS om];exact af.bd (QE F hF n _ _ _ om (v4 1 om) hx om) fun z hz=>up (show VB _ z.2.1 from hz) om _ _
  ·have k3:=v2 (by simpa using h25)
   have:=two (k:=2) om om;rw [mS om];exact af.bd (QE F hF n _ _ _ om (v4 2 om) hx om) fun z hz=>up (show VB _ z.2.1 from hz) om _ _
  refine af.cb (fun _=>up hx om _ _) fun _=>af.cb (fun _=>up hx om _ _) fun _=>?_;have k3:=v3 e12 (by simp at n36;omega) (by simpa using n26) (by simpa using n25);have:=two (k:=1) om om;rw [mS om];refine af.bd (QE F hF n _ _ _ om (v4 1 om) hx om) fun z hz=>?_;have hz:VB _ z.2.1:=hz;refine af.cb (fun _=>up hz om _ _) fun _=>af.cb (fun _=>?_) fun _=>?_
  ·unfold mM
   simp only [ax,aE];exact up hz om _ _
  ·exact af.bd (alL F _ _ _) fun y _=>up hz om _ _
theorem am9 (F:Nat) (s:Bs) (l:List aO) (hF:10000000≤F) (hs:s.length≤100000) (hl:VB 1000 l):af (fun r=>r.2.1.length≤100000) (A5 F s l):=by
 unfold A5 G8 EC;refine af.bd (alK F s hs hF) fun x hx=>af.cb (fun _=>af.ok (fT _)) fun _=>?_;rw [TExpr.eta];refine af.bd (P:=fun r:Int × List aO × Int=>r.2.1.length≤100000) (af.bd (P:=fun r=>r=0→VE x.1) ?_ fun v hv=>af.cb (fun _=>af.ok (fT _)) fun h=>af.bd (am8 F l hl om om) fun m hm=>af.bd (P:=fun r:Int × List aO × Int=>r.2.1.length≤100000) ?_ fun r hr=>af.cb (fun _=>af.ok (fT _)) fun _=>af.ok hr) fun r hr=>af.ok hr
 ·simp only [TExpr.eta]
  exact af.bd (agC F F x.1 0 om om om om om) fun r hr=>af.ok hr
 ·simp only [TExpr.eta]
  exact (QE F om F x.1 m 1000 om (hv (by simpa using h)) hm om).mono fun r hr=>by have:=hr.1;omega
def GEn (e:cG):Prop:=GV e.bG∧e.aJ.length≤12∧(∀x∈e.aJ,x.length≤60)∧e.fName.length≤60
def GS (s:aX):Prop:=GEn s.bF∧(∀a∈s.cO,a.fText.length≤60)∧s.cO.length≤100∧∃u:Nat,s.fused=(u:Int)∧u≤s.cO.length
def stop (s:aX):Bool:=s.fe != 0||s.yI
def RB (k:Nat) (l:List ah):Prop:=l.length≤26 * k∧bJ l≤5000 * k
theorem RB.one {k:Nat} {t:Bs} {c:Int} (hk:1≤k) (h:t.length≤5000 * k):RB k [ah.mk t c]:=⟨bx,by simp [bJ];omega⟩
theorem RB.nil {k:Nat}:RB k []:=⟨si,by simp [bJ]⟩
theorem RB.mono {k j:Nat} {l:List ah} (h:RB k l) (hj:k≤j):RB j l:=⟨by have:=h.1;omega,by have:=h.2;omega⟩
theorem RB.app {k j:Nat} {l m:List ah} (h:RB k l) (h':RB j m):RB (k+j) (l++m):=⟨by have:=h.1;have:=h'.1;rw [eW];omega,by have:=h.2;have:=h'.2;rw [xE];omega⟩
theorem zk (F:Nat) (s:aX):eS F s=some (stop s):=by unfold eS;rw [ax,cT];rfl
theorem FK (F:Nat) (e:Int) (m:Bs) (s:aX):fH F e m s=some (cond (stop s) s { s with fe:=e,jW:=m }):=by
 unfold fH;rw [zk,aE];cases stop s<;>rfl
theorem Bq {s:aX} (h:GS s) (e:Int) (m:Bs):GS (cond (stop s) s { s with fe:=e,jW:=m }):=by cases stop s<;>exact h
theorem agE {s:aX} {e:Int} (he:e≠0) (m:Bs):stop (cond (stop s) s { s with fe:=e,jW:=m })=true:=by
 cases h:stop s with
 | true=>exact h
 | false=>show (e != 0||_)=true;rw [show (e != 0)=true from by simpa using he];rfl
theorem afn (F:Nat) (p:dB):∃c,cB F p=some c:=by unfold cB;rw [ax];exact⟨_,rfl⟩
theorem alN (F:Nat) (p:dB):∃c,o9 F p=some c:=by unfold o9;simp only [ax];exact⟨_,rfl⟩
theorem aih (F:Nat) (e:Int):af (fun r=>r.length≤100) (vX F e):=by
 unfold vX;exact af.cb (fun _=>af.ok de) fun _=>af.cb (fun _=>af.ok de) fun _=>af.cb (fun _=>af.ok de) fun _=>af.cb (fun _=>af.ok de) fun _=>af.ok de
theorem ajY (F:Nat) (o:Int):∃b,tK F o=some b:=by unfold tK;rw [ax];exact⟨_,rfl⟩
theorem aii (F:Nat) (o:Int) (c s:Bool) (v:Bs):∃r,vY F o c s v=some r:=by unfold vY;simp only [ax,aE];exact⟨_,rfl⟩
theorem ana (F:Nat) (p:TPart):∃b,DK F p=some b:=by unfold DK;simp only [ax,aE];exact⟨_,rfl⟩
theorem afo (F:Nat) (n:Int) (hF:31≤F):∃r,r.length≤60∧dQ F n=some r:=by obtain⟨r,h,e⟩:=alM F n hF;exact⟨r,om,e⟩
theorem agF (F:Nat) (l:List ah) (hF:l.length<F) (h1:l.length≤1000000000) (h2:bJ l≤1000000000):sw F l=some (l.flatMap fun r=>r.fText):=by
 have:af (fun r=>r=l.flatMap fun r=>r.fText) (sw F l):=by
  unfold sw
  have hsz:∀k,((l.take k).flatMap fun r=>r.fText).length≤bJ l:=fun k=>by
   have h:(l.flatMap fun r=>r.fText)=((l.take k).flatMap fun r=>r.fText)++((l.drop k).flatMap fun r=>r.fText):=by rw [←NG,um]
   have h2:bJ l=(l.flatMap fun r=>r.fText).length:=by unfold bJ;rw [adv]
   rw [h2,h,eW];omega
  refine af.lp (fun z:Bs × Int=>∃k:Nat,z.2=(k:Int)∧k≤l.length∧z.1=(l.take k).flatMap fun r=>r.fText) (fun z=>l.length - z.2.toNat) ⟨0,rfl,om,si⟩ (by show l.length - 0<F;omega) ?_;rintro⟨_,_⟩ ⟨k,rfl,h3,rfl⟩ rc hrc;dsimp only at hrc ⊢;refine af.cd (fun h=>?_) fun h=>af.ok (by rw [mw om]);have hk:k<l.length:=om;have e1:((l.take (k+1)).flatMap fun r=>r.fText)=((l.take k).flatMap fun r=>r.fText)++l[k].fText:=by rw [Kw _ _ _ hk]
  have h5:=hsz (k+1);rw [e1,eW] at h5;rw [bu om om,bf,gd hk,aM om];exact af.rq (decide_eq_true om) (hrc _ ⟨k+1,rfl,hk,e1.symm⟩ (by show l.length - Int.toNat ((k+1:Nat):Int)<l.length - Int.toNat (k:Int);omega))
 obtain⟨r,h,e⟩:=this;rw [e,h]
theorem aij (l:List ah):(l.flatMap fun r=>r.fText).length=bJ l:=by unfold bJ;rw [adv]
theorem aab (F:Nat) {s:aX} (h:GS s) (n v:Bs) (hF:1000<F):af GS (jF F n v s):=by
 unfold jF;rw [zk,aE];refine af.cb (fun _=>af.ok h) fun _=>af.bd (am4 F h.1.1 n v hF) fun r hr=>zi (fun h0=>?_) fun h0=>?_
 ·rw [FK];exact af.ok (Bq h _ _)
 ·refine af.bd (P:=GV) (af.cb (fun _=>af.bd (alF F hr n true false hF) fun r' hr'=>af.ok hr') fun _=>af.ok hr) fun l hl=>af.ok ?_
  exact⟨⟨hl,h.1.2⟩,h.2⟩
theorem anb (F:Nat) {s:aX} (h:GS s) (t:Bs) (hF:1000<F):af (fun r=>r.1.length≤60∧GS r.2) (lz F t s):=by
 obtain⟨hE,hA,hL,u,hu,hul⟩:=h;unfold lz;rw [hu];refine af.cd (fun h=>af.ok ⟨fT _,hE,hA,hL,u,rfl,hul⟩) fun h=>?_;have hul:u<s.cO.length:=om;rw [bu om om,bf,gd hul];have ha:=hA _ (ei hul);generalize s.cO[u]=a at ha;refine af.lp (fun i:Int=>∃n:Nat,i=(n:Int)∧n≤a.fText.length) (fun i=>i.toNat) ⟨_,rfl,bM _⟩ (by rw [bf];omega) ?_;rintro _ ⟨n,rfl,hn⟩ rc hrc;refine af.bd (P:=fun b=>b=true→0<n) (af.cd (fun h=>?_) fun _=>af.ok fun h=>nomatch h) fun b hb=>af.cb (fun h=>?_) fun _=>?_
 ·rw [qJ om om]
  exact af.rq (cM om om) (af.ok fun _=>om)
 ·have:=hb h
  rw [qJ om om];exact hrc _ ⟨n - 1,rfl,om⟩ (by rw [bf,bf];omega)
 ·have:=iH a.fText 0 n
  refine af.rq (cM om om) (af.ok ⟨by show (sl a.fText ((0:Nat):Int) (n:Int)).length≤60;omega,hE,hA,hL,u+1,?_,hul⟩);show ag ((u:Int)+1)=_;rw [aM om]
theorem anc (F:Nat) (n:Bs) (hF:n.length<F) (hn:n.length≤1000):∃r,pe F n=some r:=by
 by_cases h:n=[]
 ·subst h;exact⟨0,rfl⟩
 have:0<n.length:=uq.2 h;obtain⟨d,hd⟩:=ac5 F n hF hn;unfold pe;rw [hd,mS om];simp only [aE,ax];exact⟨_,rfl⟩
theorem ajZ (F:Nat) {e:cG} (h:GEn e) (n:Bs) (hF:1000<F) (hn:n.length≤1000):af (fun r=>r.1.length≤4096) (yP F e n):=by
 obtain⟨hV,hP,hP',hN⟩:=h;have hl:=hV.1;unfold yP;obtain⟨p,hp⟩:=anc F n om om;rw [hp,aE,L4 F e.bG n om om];refine af.bd (DG F n om) fun b _=>af.cb (fun _=>?_) fun _=>?_
 ·rw [aE]
  exact af.cb (fun _=>af.ok de) fun _=>af.ok (L5 hV n).2
 rw [ax,aE];refine af.cb (fun hc=>?_) fun _=>?_
 ·rw [cF,aV] at hc
  have c1:=of_decide_eq_true hc.1;have c2:=of_decide_eq_true hc.2;rw [cr om];refine af.rq (cM om om) (af.ok ?_);have hk:(p - 1).toNat<e.aJ.length:=om;show (e.aJ.getD (p - 1).toNat []).length≤_;rw [gd hk];have:=hP' _ (ei hk);omega
 refine af.cb (fun _=>af.ok (by show e.fName.length≤_;omega)) fun _=>?_
 have dec:∀(m:Int),af (fun r:Bs × Bool=>r.1.length≤4096) ((dQ F m).bind fun x=>some (x,true)):=fun m=>by
  obtain⟨r,h1,h2⟩:=afo F m om;rw [h2];exact af.ok (by show r.length≤_;omega)
 refine af.cb (fun _=>dec _) fun _=>af.cb (fun _=>dec _) fun _=>af.cb (fun _=>?_) fun _=>af.cb (fun _=>dec _) fun _=>?_
 ·exact af.bd (ajV F e.hU om) fun r hr=>af.ok (by show r.length≤_;omega)
 rw [ax,aE];refine af.cb (fun _=>dec _) fun _=>af.cb (fun _=>?_) fun _=>af.cb (fun _=>?_) fun _=>af.ok de
 ·exact af.bd (agu F e.aJ [32] om om hP' de) fun r hr=>af.ok (by show r.length≤_;omega)
 ·exact af.bd (alG F hV hF) fun g hg=>af.bd (agu F e.aJ g om om hP' hg) fun r hr=>af.ok (by show r.length≤_;omega)
theorem aj0 (F:Nat) {s:aX} (h:GS s) (n v:Bs) (p:dB) (hv:v.length≤4096) (hF:1000<F):af (RB 1) (mZ F n v p s):=by
 obtain⟨⟨hV,hP,hP',-⟩,-⟩:=h;unfold mZ;simp only [ax,aE];obtain⟨c,hc⟩:=afn F p;rw [hc];refine af.cb (fun _=>af.ok (RB.one om om)) fun _=>?_;refine af.lp (fun z:List ah × Int=>∃k:Nat,z.2=(k:Int)∧k≤s.bF.aJ.length∧z.1.length≤2 * k∧bJ z.1≤60 * k) (fun z=>s.bF.aJ.length - z.2.toNat) ⟨0,rfl,om,si,by simp [bJ]⟩ (by show s.bF.aJ.length - 0<F;omega) ?_;rintro⟨o,_⟩ ⟨k,rfl,h1,h2,h3⟩ rc hrc;dsimp only at h2 h3 hrc ⊢;refine af.cd (fun h=>?_) fun _=>af.ok ⟨om,om⟩;have hk:k<s.bF.aJ.length:=om;have hx:=hP' _ (ei hk);refine af.bd (P:=fun u:List ah=>u.length≤2 * k+1∧bJ u≤60 * k) (af.cd (fun _=>af.rq (gP (by show o.length+1≤_;omega) de) (af.ok ⟨bx,by rw [xE];show bJ o+0≤_;omega⟩)) fun _=>af.ok ⟨om,h3⟩) fun u hu=>?_;rw [bu om om,aE,bf,gd hk,aM om];refine af.rq (gP (by show u.length+1≤_;omega) de) (hrc _ ⟨k+1,rfl,hk,?_,?_⟩ (by show s.bF.aJ.length - Int.toNat ((k+1:Nat):Int)<s.bF.aJ.length - Int.toNat (k:Int);omega))
 ·show (u++[ah.mk s.bF.aJ[k] c]).length≤_;simp;omega
 ·show bJ (u++[ah.mk s.bF.aJ[k] c])≤_;rw [xE];simp [bJ] at hu ⊢;omega
def S1 (F n:Nat):Prop:=∀(l:List TPart) (p:dB) (s:aX),dP l≤1000→6 * dP l+6≤n→GS s→af (fun r=>RB (dP l) r.1∧GS r.2) ((bp F n).1 l p s)
def S2 (F n:Nat):Prop:=∀(x:TPart) (p:dB) (s:aX),wP x≤1000→6 * wP x+5≤n→GS s→af (fun r=>RB (wP x) r.1∧GS r.2) ((bp F n).2.1 x p s)
def S3 (F n:Nat):Prop:=∀(l:List TPart) (s:aX),dP l≤1000→6 * dP l+8≤n→GS s→af (fun r=>r.1.length≤5000∧GS r.2) ((bp F n).2.2.1 l s)
def S4 (F n:Nat):Prop:=∀(l:List TPart) (q:Bool) (s:aX),dP l≤1000→6 * dP l+7≤n→GS s→af (fun r=>r.1.length≤5000 * dP l∧(stop r.2=false→r.1.length≤4096)∧GS r.2) ((bp F n).2.2.2.1 l q s)
def S5 (F n:Nat):Prop:=∀(x:TPart) (p:dB) (s:aX),wP x≤1000→6 * wP x+4≤n→GS s→af (fun r=>RB (wP x) r.1∧GS r.2) ((bp F n).2.2.2.2.1 x p s)
def S6 (F n:Nat):Prop:=∀(x:TPart) (p:dB) (s:aX),wP x≤1000→6 * wP x+3≤n→GS s→af GS ((bp F n).2.2.2.2.2 x p s)
section
variable {F n : Nat}
theorem aj1 (hF:100000000≤F) (h2:S2 F n):S1 F (n+1):=by
 intro l p s hl hn hs;have Y3:=Bp l;show af _ (qc F (bp F n) l p s);unfold qc;refine af.lp (fun z:List ah × Int × aX=>∃k:Nat,z.2.1=(k:Int)∧k≤l.length∧RB (dP (l.take k)) z.1∧GS z.2.2) (fun z=>l.length - z.2.1.toNat) ⟨0,rfl,om,RB.nil,hs⟩ (by show l.length - 0<F;omega) ?_;rintro⟨o,_,s⟩ ⟨k,rfl,h3,h4,h5⟩ rc hrc;dsimp only at h4 h5 hrc ⊢;have hwk:=B4 l k;refine af.bd (P:=fun b=>b=true→k<l.length) (af.cd (fun h=>?_) fun _=>af.ok fun h=>nomatch h) fun b hb=>af.cb (fun h=>?_) fun _=>af.ok ⟨h4.mono om,h5⟩
 ·rw [zk];exact af.ok fun _=>by omega
 have hk:=hb h;have hm:=SZ hk;have ha:=QC hk;rw [bu om om,aM om,bf];refine af.bd (h2 (l.getD k dn) p s om om h5) fun r ⟨r1,r2⟩=>?_;have h6:=RB.app h4 r1;rw [←ha] at h6;have:=B4 l (k+1);have h7:=h6.1;rw [eW] at h7;exact af.rq (cM om om) (hrc _ ⟨k+1,rfl,hk,h6,r2⟩ (by show l.length - Int.toNat ((k+1:Nat):Int)<l.length - Int.toNat (k:Int);omega))
theorem alO (hF:100000000≤F) (h1:S1 F n) (h3:S3 F n) (h5:S5 F n):S2 F (n+1):=by
 intro x p s hx hn hs;have hw:=FH x;show af _ (rj F (bp F n) x p s);unfold rj;have one:∀ {t:Bs} {c:Int} {s':aX},t.length≤5000→GS s'→af (fun r:List ah × aX=>RB (wP x) r.1∧GS r.2) (some ([ah.mk t c],s')):=fun h h'=>af.ok ⟨RB.one om om,h'⟩;obtain⟨c,hc⟩:=afn F p;obtain⟨d,hd⟩:=alN F p;rw [hd];refine af.cb (fun _=>one om hs) fun _=>af.cb (fun _=>one om hs) fun _=>af.cb (fun _=>?_) fun _=>af.cb (fun _=>?_) fun _=>af.cb (fun _=>?_) fun _=>af.cb (fun _=>?_) fun _=>af.cb (fun _=>?_) fun _=>af.ok ⟨RB.nil,hs⟩
 ·refine af.bd (h1 x.fParts _ s om om hs) fun r ⟨r1,r2⟩=>?_
  have hl:=Bp x.fParts;refine af.lp (fun i:Int=>∃k:Nat,i=(k:Int)∧k≤x.fParts.length) (fun i=>x.fParts.length - i.toNat) ⟨0,rfl,om⟩ (by show x.fParts.length - 0<F;omega) ?_;rintro _ ⟨k,rfl,hk⟩ rc hrc;refine af.cd (fun h=>?_) fun _=>af.cb (fun _=>one si r2) fun _=>af.ok ⟨r1.mono om,r2⟩;obtain⟨b,hb⟩:=ana F (x.fParts.getD (Int.toNat (k:Int)) dn);rw [bu om om,hb,aE,aM om];exact af.cb (fun _=>af.ok ⟨r1.mono om,r2⟩) fun _=>hrc _ ⟨k+1,rfl,om⟩ (by rw [bf,bf];omega)
 ·have hV:=hs.1.1;have:=hV.1
  rw [L4 F s.bF.bG _ om om,aE];have:=(L5 hV [72,79,77,69]).2;exact af.cb (fun _=>one om hs) fun _=>one de hs
 ·refine af.bd (anb F hs x.fText om) fun r ⟨r1,r2⟩=>?_
  rw [hc];exact one om r2
 ·refine af.bd (h3 x.fParts s om om hs) fun r ⟨r1,r2⟩=>?_
  rw [hc];exact one om r2
 ·rw [TPart.eta]
  exact (h5 x p s hx om hs).pair
theorem ane (hF:100000000≤F) (h1:S1 F n):S4 F (n+1):=by
 intro l q s hl hn hs;show af _ (s8 F (bp F n) l q s);unfold s8;refine af.bd (h1 l _ s hl om hs) fun r ⟨r1,r2⟩=>?_;rw [agF F r.1 (by have:=r1.1;omega) (by have:=r1.1;omega) (by have:=r1.2;omega),aE];have hf:=aij r.1;have hz:=r1.2;refine af.cd (fun h=>?_) fun h=>af.ok ⟨by show (r.1.flatMap fun r=>r.fText).length≤_;omega,fun _=>by show (r.1.flatMap fun r=>r.fText).length≤_;omega,r2⟩;rw [FK];refine af.ok ⟨by show (r.1.flatMap fun r=>r.fText).length≤_;omega,fun h=>?_,Bq r2 _ _⟩;have h:stop (cond (stop r.2) r.2 { r.2 with fe:=3,jW:=[] })=false:=h;rw [agE de] at h;exact absurd h de
theorem aj2 (hF:100000000≤F) (h4:S4 F n):S6 F (n+1):=by
 intro x p s hx hn hs;have hw:=FH x;show af _ (qd F (bp F n) x p s);unfold qd;rw [ax,aE];refine af.bd (P:=fun r:Bs × aX=>r.1.length≤10000000∧GS r.2) (af.cd (fun _=>?_) fun _=>af.ok ⟨?_,hs⟩) fun r ⟨r1,r2⟩=>?_
 ·exact (af.mono (h4 x.fParts p.jm s om om hs) fun r h=>⟨by have:=h.1;omega,h.2.2⟩).pair
 ·cases x.fColon
  ·exact (by decide:([112,97,114,97,109,101,116,101,114,32,110,111,116,32,115,101,116]:Bs).length≤10000000)
  ·exact (by decide:([112,97,114,97,109,101,116,101,114,32,110,117,108,108,32,111,114,32,110,111,116,32,115,101,116]:Bs).length≤10000000)
 ·refine af.rq (decide_eq_true (by show x.fText.length+2≤_;omega)) (af.rq (decide_eq_true (by rw [eW];show x.fText.length+2+_≤_;omega)) ?_)
  rw [FK];exact af.ok (Bq r2 _ _)
theorem aj3 (hF:100000000≤F) (h4:S4 F n):S3 F (n+1):=by
 intro l s hl hn hs;show af _ (qf F (bp F n) l s);unfold qf;refine af.bd (h4 l true s hl om hs) fun⟨t,s⟩ ⟨_,r1,r2⟩=>?_;dsimp only at r1 r2 ⊢;rw [zk,aE];refine af.cb (fun _=>af.ok ⟨fT _,r2⟩) fun nK=>?_;have ht:=r1 nK;have hV:=r2.1.1;have hvl:=hV.1;refine af.lp (fun z:List aO × Int=>∃k:Nat,z.2=(k:Int)∧k≤s.bF.bG.length∧z.1.length≤k∧(∀b∈z.1,b.bN.length≤4096)) (fun z=>s.bF.bG.length - z.2.toNat) ⟨0,rfl,om,si,fun _ h=>nomatch h⟩ (by show s.bF.bG.length - 0<F;omega) ?_;rintro⟨b,_⟩ ⟨k,rfl,h1,h2,h3⟩ rc hrc;dsimp only at h2 h3 hrc ⊢;refine af.cd (fun h=>?_) fun _=>?_
 ·have hk:k<s.bF.bG.length:=om
  have hm:s.bF.bG.length - Int.toNat ((k+1:Nat):Int)<s.bF.bG.length - Int.toNat (k:Int):=om;rw [bu om om,aM om,bf,gd hk];refine af.cb (fun _=>af.rq (gP (by show b.length+1≤_;omega) de) (hrc _ ⟨k+1,rfl,hk,bx,?_⟩ hm)) fun _=>hrc _ ⟨k+1,rfl,hk,by dsimp only;omega,h3⟩ hm;intro y hy;rcases gz.1 hy with hy | hy
  ·exact h3 y hy
  ·obtain rfl:=iw.1 hy
   exact (hV.2 _ (ei hk)).2
 ·obtain⟨r,hL,hr⟩:=am9 F t b om om ⟨om,h3⟩
  rw [hr,aE];refine zi (fun _=>?_) fun _=>?_
  ·refine af.rq (decide_eq_true (by show t.length+2≤_;omega)) (af.bd (aih F _) fun m hm=>af.rq (decide_eq_true (by rw [eW];show t.length+2+m.length≤_;omega)) ?_)
   rw [FK];exact af.ok ⟨fT _,Bq r2 _ _⟩
  ·refine af.lp (fun z:Int × aX=>∃k:Nat,z.1=(k:Int)∧k≤r.2.1.length∧GS z.2) (fun z=>r.2.1.length - z.1.toNat) ⟨0,rfl,om,r2⟩ (by show r.2.1.length - 0<F;omega) ?_
   rintro⟨_,s'⟩ ⟨k,rfl,k1,k2⟩ rc' gF;dsimp only at k2 gF ⊢;refine af.cd (fun h=>?_) fun _=>?_
   ·have hm:r.2.1.length - Int.toNat ((k+1:Nat):Int)<r.2.1.length - Int.toNat (k:Int):=om
    rw [aM om];refine af.rq (cM om om) (af.rq (cM om om) (af.bd (afm F b _ om om) fun v _=>af.cb (fun _=>af.rq (cM om om) (af.rq (cM om om) (af.bd (aab F k2 _ _ om) fun s2 hs2=>gF _ ⟨k+1,rfl,om,hs2⟩ hm))) fun _=>gF _ ⟨k+1,rfl,om,k2⟩ hm))
   ·obtain⟨v,hv,cx⟩:=afo F r.1 om
    rw [cx,aE];exact af.ok ⟨by show v.length≤_;omega,k2⟩
theorem aj4 (hF:100000000≤F) (h1:S1 F n) (h4:S4 F n) (h6:S6 F n):S5 F (n+1):=by
 intro x p s hx hn hs;have hw:=FH x;show af _ (qg F (bp F n) x p s);unfold qg;refine af.bd (ajZ F hs.1 x.fText om om) fun⟨v,st⟩ hv=>?_;dsimp only at hv ⊢;obtain⟨tb,htb⟩:=ajY F x.fOp;obtain⟨ch,hch⟩:=aii F x.fOp x.fColon st v;obtain⟨c,hc⟩:=afn F p;have one:∀ {t:Bs} {c:Int} {s':aX},t.length≤5000→GS s'→af (fun r:List ah × aX=>RB (wP x) r.1∧GS r.2) (some ([ah.mk t c],s')):=fun h h'=>af.ok ⟨RB.one om om,h'⟩
 have dec:∀(m:Nat),m≤1000000→af (fun r:List ah × aX=>RB (wP x) r.1∧GS r.2) ((dQ F (m:Int)).bind fun y=>(cB F p).bind fun z=>some ([ah.mk y z],s)):=fun m hm=>by
  obtain⟨y,hy,hy'⟩:=afo F (m:Int) om;rw [hy',hc];exact one om hs
 rw [htb,hch];simp only [ax,aE];refine af.cb (fun _=>af.rq (decide_eq_true bx) ?_) fun _=>af.cb (fun _=>?_) fun _=>af.cb (fun _=>?_) fun _=>af.cb (fun _=>?_) fun _=>af.cb (fun _=>?_) fun _=>af.cb (fun _=>?_) fun _=>af.cb (fun _=>?_) fun _=>af.cb (fun _=>?_) fun _=>?_
 ·rw [FK];exact af.ok ⟨RB.nil,Bq hs _ _⟩
 ·exact dec s.bF.aJ.length (by have:=hs.1.2.1;omega)
 ·exact dec v.length om
 ·refine af.bd (h1 x.fParts _ s om om hs) fun r ⟨r1,r2⟩=>?_
  have q1:=r1.1;have q2:=r1.2;obtain⟨it,⟨i1,i2⟩,i3⟩:=JL F r.1 om om om om;rw [i3,aE];refine af.bd (alH F x.fOp it v om om i1 om) fun u hu=>?_;rw [hc];exact one om r2
 ·exact (af.mono (h1 x.fParts _ s om om hs) fun r h=>⟨h.1.mono om,h.2⟩).pair
 ·rw [hc];exact one (fT _) hs
 ·refine af.bd (DG F x.fText om) fun b _=>af.cb (fun _=>af.rq (decide_eq_true bx) ?_) fun _=>?_
  ·rw [FK];exact af.ok ⟨RB.nil,Bq hs _ _⟩
  ·refine af.bd (h4 x.fParts p.jm s om om hs) fun r ⟨r1,r2,r3⟩=>af.bd (aab F r3 x.fText r.1 om) fun s2 hs2=>?_
   rw [hc,aE];refine af.ok ⟨?_,hs2⟩;by_cases h0:dP x.fParts=0
   ·rw [h0] at r1;exact RB.one om om
   ·exact RB.one om om
 ·rw [TPart.eta]
  exact af.bd (h6 x p s om om hs) fun s2 hs2=>af.ok ⟨RB.nil,hs2⟩
 ·exact af.bd (aj0 F hs x.fText v p hv om) fun r hr=>af.ok ⟨hr.mono om,hs⟩
theorem ai7 (hF:100000000≤F):∀n,S1 F n∧S2 F n∧S3 F n∧S4 F n∧S5 F n∧S6 F n
 | 0=>⟨fun _ _ _ _ h _=>om,fun _ _ _ _ h _=>om,fun _ _ _ h _=>om,fun _ _ _ _ h _=>om,fun _ _ _ _ h _=>om,fun _ _ _ _ h _=>om⟩
 | n+1=>by
  obtain⟨h1,h2,h3,h4,h5,h6⟩:=ai7 hF n;exact⟨aj1 hF h2,alO hF h1 h3 h5,aj3 hF h4,ane hF h1,aj4 hF h1 h4 h6,aj2 hF h4⟩
end
theorem aj5 (F:Nat) (l:List TPart) (p:dB) {s:aX} (hF:100000000≤F) (hl:dP l≤1000) (hs:GS s):af (fun r=>RB (dP l) r.1∧GS r.2) (tc F l p s) :=
 (ai7 hF F).1 l p s hl om hs
theorem alP (F:Nat) (b c:Int) (s:Bs) (hF:s.length<F) (hs:s.length≤5000):∃k,vZ F b c s=some k:=by
 have:af (fun _=>True) (vZ F b c s):=by
  unfold vZ;refine af.cb (fun _=>af.ok trivial) fun _=>?_;refine af.lp (fun i:Int=>∃n:Nat,i=(n:Int)∧n≤s.length) (fun i=>s.length - i.toNat) ⟨0,rfl,om⟩ (by show s.length - 0<F;omega) ?_;rintro _ ⟨n,rfl,hn⟩ rc hrc;refine af.cd (fun h=>?_) fun _=>af.ok trivial;rw [bu om om,bu om om,aM om];simp only [ax,aE];exact af.cb (fun _=>af.ok trivial) fun _=>af.cb (fun _=>af.ok trivial) fun _=>hrc _ ⟨n+1,rfl,om⟩ (by rw [bf,bf];omega)
 obtain⟨r,-,h⟩:=this;exact⟨r,h⟩
def EL (k:Nat) (l:List aR):Prop:=l.length≤k∧∀e∈l,e.bR.length≤1
theorem EL.snoc {k:Nat} {l:List aR} (h:EL k l) {e:aR} (he:e.bR.length≤1):EL (k+1) (l++[e]):=⟨by have:=h.1;simp;omega,fun x hx=>by
 rcases gz.1 hx with hx | hx
 ·exact h.2 x hx
 ·obtain rfl:=iw.1 hx;exact he⟩
theorem EL.mono {k j:Nat} {l:List aR} (h:EL k l) (hj:k≤j):EL j l:=⟨by have:=h.1;omega,h.2⟩
theorem alQ {l:List ah} {k:Nat} (h:k<l.length):bJ (l.take (k+1))=bJ (l.take k)+(l.getD k aY).fText.length:=by
 rw [jT h,xE,gd h];simp [bJ]
theorem Oi (l:List ah) (k:Nat):bJ (l.take k)≤bJ l:=by
 have:=xE (l.take k) (l.drop k);rw [um] at this;omega
theorem alR (F:Nat) (l:List ah) (s:Bs) (hF:l.length+bJ l+5000<F) (h1:l.length≤1000000) (h2:bJ l≤10000000) (hs:s.length≤5000):af (EL (l.length+bJ l)) (sx F l s):=by
 unfold sx;refine af.lp (fun z:List aR × Int=>∃k:Nat,z.2=(k:Int)∧k≤l.length∧EL (k+bJ (l.take k)) z.1) (fun z=>l.length - z.2.toNat) ⟨0,rfl,om,by simp [bJ,EL]⟩ (by show l.length - 0<F;omega) ?_;rintro⟨o,_⟩ ⟨k,rfl,h3,h4⟩ rc hrc;dsimp only at h4 hrc ⊢;refine af.cd (fun h=>?_) fun h=>af.ok (h4.mono (by have:=Oi l k;omega));have hk:k<l.length:=om;have hz:=alQ hk;have ht:=Oi l (k+1);have ho:=h4.1;have hm:l.length - Int.toNat ((k+1:Nat):Int)<l.length - Int.toNat (k:Int):=om;rw [bu om om,aM (i:=k) om,bf];generalize l.getD k aY=r at hz
 have add:∀(c d:Int),af (EL (l.length+bJ l)) (rq ((decide (o.length+([aR.mk [] c d]:List aR).length≤9223372036854775807))&&(decide ((o.length+([aR.mk [] c d]:List aR).length) * 32≤140737488355328))) (rc (o++[aR.mk [] c d],((k+1:Nat):Int)))):=fun c d =>
  af.rq (gP (by show o.length+1≤_;omega) de) (hrc _ ⟨k+1,rfl,hk,(h4.snoc (fT _)).mono om⟩ hm)
 simp only [ax,aE];refine af.cb (fun _=>add _ _) fun _=>af.cb (fun _=>add _ _) fun _=>af.cb (fun _=>?_) fun _=>hrc _ ⟨k+1,rfl,hk,h4.mono om⟩ hm;refine af.lp (fun z:List aR × Int=>∃i:Nat,z.2=(i:Int)∧i≤r.fText.length∧EL (k+bJ (l.take k)+i) z.1) (fun z=>r.fText.length - z.2.toNat) ⟨0,rfl,om,h4⟩ (by show r.fText.length - 0<F;omega) ?_;rintro⟨o,_⟩ ⟨i,rfl,i1,i2⟩ rc' gF;dsimp only at i2 gF ⊢;refine af.cd (fun h=>?_) fun h=>hrc _ ⟨k+1,rfl,hk,i2.mono om⟩ hm;have ho:=i2.1;obtain⟨d,hd⟩:=alP F ((r.fText.getD (Int.toNat (i:Int)) 0).toNat:Int) r.aC s om hs;rw [aM om,Yl om om om,bu om om,hd,aE];have:=iH r.fText i (i+1);exact af.rq (gP (by show o.length+1≤_;omega) de) (gF _ ⟨i+1,rfl,om,i2.snoc (by show (sl r.fText (i:Int) ((i+1:Nat):Int)).length≤1;omega)⟩ (by show r.fText.length - Int.toNat ((i+1:Nat):Int)<r.fText.length - Int.toNat (i:Int);omega))
theorem agG (F:Nat) (l:List aR) (a:Nat) (hF:l.length<F) (hl:l.length≤100000000) (ha:a≤l.length):af (fun r=>∃e:Nat,r=(e:Int)∧a≤e∧e≤l.length) (v7 F l (a:Int)):=by
 unfold v7;refine af.lp (fun i:Int=>∃n:Nat,i=(n:Int)∧a≤n∧n≤l.length) (fun i=>l.length - i.toNat) ⟨a,rfl,om,ha⟩ (by rw [bf];omega) ?_;rintro _ ⟨n,rfl,h1,h2⟩ rc hrc;by_cases h:n<l.length
 ·rw [ctq om,bu om om,aE,aM om]
  exact af.cb (fun _=>hrc _ ⟨n+1,rfl,om,om⟩ (by rw [bf,bf];omega)) fun _=>af.ok ⟨n,rfl,h1,h2⟩
 ·rw [cf om]
  exact af.ok ⟨n,rfl,h1,h2⟩
theorem aik (F:Nat) {k:Nat} (l:List aR) (h:EL k l) (hF:k<F) (hk:k≤100000000):af (fun r:List (List aR)=>r.length≤k+1∧∀f∈r,EL k f) (v8 F l):=by
 have hl:=h.1;unfold v8;refine af.lp (fun z:List (List aR) × List aR × Int=>∃i:Nat,z.2.2=(i:Int)∧i≤l.length∧z.1.length≤i∧(∀f∈z.1,EL k f)∧EL i z.2.1) (fun z=>l.length - z.2.2.toNat) ⟨0,rfl,om,si,(fun _ h=>nomatch h),by simp [EL]⟩ (by show l.length - 0<F;omega) ?_;rintro⟨o,f,_⟩ ⟨i,rfl,h1,h2,h3,h4⟩ rc hrc;dsimp only at h2 h3 h4 hrc ⊢;have hfl:=h4.1;have hm:∀j:Nat,i<j→j≤l.length→l.length - Int.toNat (j:Int)<l.length - Int.toNat (i:Int):=fun j h1 h2=>by omega
 have NY:∀x∈o++[f],EL k x:=fun x hx=>by
  rcases gz.1 hx with hx | hx
  ·exact h3 x hx
  ·obtain rfl:=iw.1 hx;exact h4.mono om
 refine af.cd (fun h'=>?_) fun _=>af.cd (fun _=>af.rq (gP (by show o.length+1≤_;omega) de) (af.ok ⟨bx,NY⟩)) fun _=>af.ok ⟨by show o.length≤_;omega,h3⟩;have hi:i<l.length:=om;rw [bu om om,aM (i:=i) om,bu om om,bf,gd hi];refine af.cb (fun _=>af.rq (gP (by show f.length+1≤_;omega) de) (hrc _ ⟨i+1,rfl,hi,by dsimp only;omega,h3,h4.snoc (h.2 _ (List.getElem_mem hi))⟩ (hm _ om hi))) fun _=>?_;refine af.bd (agG F l i om om om) fun r ⟨e,e1,e2,e3⟩=>?_;rw [e1];refine af.bd (P:=fun z:Bool × Int=>∃j:Nat,z.2=(j:Int)∧i<j∧j≤l.length) ?_ fun⟨b,_⟩ ⟨j,e4,j1,j2⟩=>?_
 ·refine af.bd (P:=fun b=>b=true→e<l.length) (af.cd (fun h=>af.rq (cM om om) (af.ok fun _=>om)) fun _=>af.ok fun h=>nomatch h) fun b hb=>af.cb (fun h=>?_) fun _=>?_
  ·have:=hb h
   rw [aM om];exact af.bd (agG F l (e+1) om om om) fun r ⟨j,j1,j2,j3⟩=>af.ok ⟨j,j1,om,j3⟩
  ·by_cases he:e=i
   ·subst he
    rw [show ((e:Int)==(e:Int))=true from by simp];exact af.ok ⟨e+1,rfl,om,hi⟩
   ·rw [show ((e:Int)==(i:Int))=false from by simp;omega]
    exact af.ok ⟨e,rfl,om,e3⟩
 ·dsimp only at e4 ⊢
  subst e4;refine af.cb (fun _=>af.rq (gP (by show o.length+1≤_;omega) de) (hrc _ ⟨j,rfl,j2,bx,NY,by simp [EL]⟩ (hm j j1 j2))) fun _=>hrc _ ⟨j,rfl,j2,by dsimp only;omega,h3,h4.mono om⟩ (hm j j1 j2)
theorem ac9:∀(l:List ah) (k:Nat) (r:ah),k<l.length→bJ (l.set k r)+(l.getD k aY).fText.length=bJ l+r.fText.length
 | [],k,r,h=>absurd h (XM _)
 | a::l,0,r,h=>by simp [bJ];omega
 | a::l,k+1,r,h=>by
  have:=ac9 l k r (by simpa using h);simp only [List.set_cons_succ,List.getD_cons_succ];simp [bJ] at this ⊢;omega
theorem alS (F:Nat) {k:Nat} (l:List aR) (h:EL k l) (hF:k<F) (hk:k≤100000000):af (fun r:List ah=>r.length≤k∧bJ r≤k) (A6 F l):=by
 have hl:=h.1;unfold A6;refine af.lp (fun z:Int × List ah=>∃i:Nat,z.1=(i:Int)∧i≤l.length∧z.2.length≤i∧bJ z.2≤i) (fun z=>l.length - z.1.toNat) ⟨0,rfl,om,si,by simp [bJ]⟩ (by show l.length - 0<F;omega) ?_;rintro⟨_,o⟩ ⟨i,rfl,h1,h2,h3⟩ rc hrc;dsimp only at h2 h3 hrc ⊢;refine af.cd (fun h'=>?_) fun _=>af.ok ⟨by show o.length≤_;omega,by show bJ o≤_;omega⟩;have hi:i<l.length:=om;have hm:l.length - Int.toNat ((i+1:Nat):Int)<l.length - Int.toNat (i:Int):=om;have ht:=h.2 _ (ei hi);refine af.bd (P:=fun z:Bool × List ah=>z.2=o∧(z.1=true→0<o.length)) ?_ fun⟨b,o2⟩ ⟨e,hb⟩=>?_
 ·refine af.cd (fun h0=>?_) fun _=>af.ok ⟨rfl,fun h=>nomatch h⟩
  rw [qJ om om];exact af.rq (cM om om) (af.rq (cM om om) (af.ok ⟨rfl,fun _=>om⟩))
 have e:o=o2:=e.symm;subst e;rw [aM (i:=i) om];have eg:l.getD i eB=l[i]:=gd hi;simp only [bf,eg];refine af.cb (fun hb'=>?_) fun _=>?_
 ·have h0:=hb hb'
  have hs:=ac9 o (o.length - 1) (ah.mk ((o.getD (o.length - 1) aY).fText++l[i].bR) (o.getD (o.length - 1) aY).aC) om;have hs':((o.getD (o.length - 1) aY).fText++l[i].bR).length=(o.getD (o.length - 1) aY).fText.length+l[i].bR.length:=eW;rw [qJ om h0];simp only [bf];have hg:(o.getD (o.length - 1) aY).fText.length≤bJ o:=by rw [gd om];exact Fh (ei _)
  refine af.rq (cM om om) (af.rq (cM om om) (af.rq (decide_eq_true om) (af.rq (cM om om) (hrc _ ⟨i+1,rfl,hi,bx,?_⟩ hm))));show bJ (o.set _ _)≤_;have e:(ah.mk ((o.getD (o.length - 1) aY).fText++l[i].bR) (o.getD (o.length - 1) aY).aC).fText.length=(o.getD (o.length - 1) aY).fText.length+l[i].bR.length:=hs';rw [e] at hs;omega
 ·refine af.rq (cM om om) (af.rq (cM om om) (af.rq (gP (by show o.length+1≤_;omega) de) (hrc _ ⟨i+1,rfl,hi,bx,?_⟩ hm)))
  show bJ (o++[ah.mk l[i].bR l[i].dh])≤_;rw [xE];show bJ o+(l[i].bR.length+0)≤_;omega
theorem ail (F:Nat) (l:List ah) (s:Bs) (hF:100000000≤F) (h1:l.length≤100000) (h2:bJ l≤5000000) (hs:s.length≤5000):af (fun r:List (List ah)=>r.length≤6000000∧∀f∈r,f.length≤6000000∧bJ f≤6000000) (we F l s):=by
 unfold we;refine af.bd (alR F l s om om om hs) fun es HY=>af.bd (aik F es HY om om) fun fs ⟨hf1,hf2⟩=>?_;refine af.lp (fun z:List (List ah) × Int=>∃k:Nat,z.2=(k:Int)∧k≤fs.length∧z.1.length≤k∧∀f∈z.1,f.length≤6000000∧bJ f≤6000000) (fun z=>fs.length - z.2.toNat) ⟨0,rfl,om,si,fun _ h=>nomatch h⟩ (by show fs.length - 0<F;omega) ?_;rintro⟨o,_⟩ ⟨k,rfl,h3,h4,h5⟩ rc hrc;dsimp only at h4 h5 hrc ⊢;refine af.cd (fun h=>?_) fun _=>af.ok ⟨by show o.length≤_;omega,h5⟩;have hk:k<fs.length:=om;rw [bu om om,aM om,bf,gd hk];refine af.bd (alS F _ (hf2 _ (ei hk)) om om) fun r hr=>af.rq (gP (by show o.length+1≤_;omega) de) (hrc _ ⟨k+1,rfl,hk,bx,fun f hf=>?_⟩ (by show fs.length - Int.toNat ((k+1:Nat):Int)<fs.length - Int.toNat (k:Int);omega));rcases gz.1 hf with hf | hf
 ·exact h5 f hf
 ·obtain rfl:=iw.1 hf;omega
theorem agH (F:Nat) (r:List ah) (hF:100000000≤F) (h1:r.length≤10000000) (h2:bJ r≤10000000):∃b,pK F r=some b:=by
 have hcl:=ahj r
 obtain⟨b,-,h⟩:=adU (F:=F) (r:=r) om om om om fun c hc=>by
  have:=akL r c hc;obtain⟨p,⟨g1,g2⟩,h⟩:=JL F c om om om om;obtain⟨x,hx⟩:=YE F p om om g1;exact⟨p,x,h,hx⟩
 exact⟨b,h⟩
theorem agI (F:Nat) (e:cG) (w:List cD) (a:List cZ) (hF:100000000≤F) (hw:w.length≤100) (hp:∀x∈w,dP x.fParts≤1000) (he:GEn e) (ha:(∀x∈a,x.fText.length≤60)∧a.length≤100):∃b,pR F e w a=some b:=by
 have:af (fun _=>True) (pR F e w a):=by
  unfold pR EE;rw [aE];refine af.lp (fun z:Int × Int × aX=>∃k:Nat,z.2.1=(k:Int)∧k≤w.length∧GS z.2.2) (fun z=>w.length - z.2.1.toNat) ⟨0,rfl,om,he,ha.1,ha.2,0,rfl,fT _⟩ (by show w.length - 0<F;omega) ?_;rintro⟨n,_,s⟩ ⟨k,rfl,h1,h2⟩ rc hrc;dsimp only at h2 hrc ⊢;refine af.bd (P:=fun b=>b=true→k<w.length) (af.cd (fun h=>?_) fun _=>af.ok fun h=>nomatch h) fun b hb=>af.cb (fun h=>?_) fun _=>af.ok trivial
  ·rw [zk];exact af.ok fun _=>by omega
  have hk:=hb h;rw [bu om om,aM om,bf,gd hk];have hpk:=hp _ (ei hk);refine af.bd (aj5 F _ _ hF hpk h2) fun r ⟨r1,r2⟩=>?_;have hV:=r2.1.1;have hvl:=hV.1;have q1:=r1.1;have q2:=r1.2;refine af.bd (P:=fun x:Bs=>x.length≤5000) ?_ fun ifs an5=>af.bd (ail F r.1 ifs hF om om an5) fun fs ⟨f1,f2⟩=>?_
  ·unfold Ky
   rw [L4 F _ _ om om,aE];exact af.cb (fun _=>af.ok (by have:=(L5 hV [73,70,83]).2;omega)) fun _=>af.ok de
  refine af.lp (fun z:Int × Int=>∃i:Nat,z.2=(i:Int)∧i≤fs.length) (fun z=>fs.length - z.2.toNat) ⟨0,rfl,om⟩ (by show fs.length - 0<F;omega) ?_;rintro⟨n',_⟩ ⟨i,rfl,i1⟩ rc' gF;dsimp only at gF ⊢;refine af.cd (fun h=>?_) fun _=>hrc _ ⟨k+1,rfl,hk,r2⟩ (by show w.length - Int.toNat ((k+1:Nat):Int)<w.length - Int.toNat (k:Int);omega);have hi:i<fs.length:=om;have hfi:=f2 _ (ei hi);obtain⟨b,hb⟩:=agH F fs[i] hF om om;rw [bu om om,aM om,bf,gd hi,agF F _ om om om,aE,bu om om,hb,aE,ax,aE];exact af.cb (fun _=>af.ok trivial) fun _=>gF _ ⟨i+1,rfl,om⟩ (by show fs.length - Int.toNat ((i+1:Nat):Int)<fs.length - Int.toNat (i:Int);omega)
 obtain⟨b,-,h⟩:=this;exact⟨b,h⟩
theorem af.sc {R:Type} {Q:R→Prop} {c:Bool} {x y:R} (a:c=true→Q x) (b:c=false→Q y):af Q (some (cond c x y)):=by
 cases c
 ·exact af.ok (b rfl)
 ·exact af.ok (a rfl)
theorem aj6 (F:Nat) (e:cG) (hF:100<F):af (fun b=>b=true→(e.bG.length≤12∧∀v∈e.bG,v.fName.length≤60∧v.bN.length≤60)∧e.aJ.length≤12∧(∀x∈e.aJ,x.length≤60)∧e.fName.length≤60) (yQ F e):=by
 unfold yQ;simp only [ax,aE];refine af.cb (fun _=>af.ok fun h=>nomatch h) fun hc=>?_;simp only [cT,zG,decide_eq_false_iff_not] at hc;obtain⟨⟨c1,c2⟩,c3⟩:=hc;refine af.lp (fun i:Int=>∃k:Nat,i=(k:Int)∧k≤e.bG.length∧∀v∈e.bG.take k,v.fName.length≤60∧v.bN.length≤60) (fun i=>e.bG.length - i.toNat) ⟨0,rfl,om,si⟩ (by show e.bG.length - 0<F;omega) ?_;rintro _ ⟨k,rfl,h1,h2⟩ rc hrc;refine af.cd (fun h=>?_) fun h=>?_
 ·have hk:k<e.bG.length:=om
  rw [bu om om,bu om om,aM om,bf,gd hk,ax,aE];refine af.cb (fun _=>af.ok fun h=>nomatch h) fun hv=>hrc _ ⟨k+1,rfl,hk,fun v cx=>?_⟩ (by rw [bf,bf];omega);rw [jT hk] at cx;rcases gz.1 cx with cx | cx
  ·exact h2 v cx
  ·obtain rfl:=iw.1 cx
   simp only [cT,zG,decide_eq_false_iff_not] at hv;omega
 ·have h2:∀v∈e.bG,v.fName.length≤60∧v.bN.length≤60:=by rw [mw om] at h2;exact h2
  refine af.lp (fun i:Int=>∃k:Nat,i=(k:Int)∧k≤e.aJ.length∧∀v∈e.aJ.take k,v.length≤60) (fun i=>e.aJ.length - i.toNat) ⟨0,rfl,om,si⟩ (by show e.aJ.length - 0<F;omega) ?_;rintro _ ⟨k,rfl,p1,p2⟩ rc' gF;refine af.cd (fun h=>?_) fun h=>af.ok fun _=>⟨⟨om,h2⟩,om,by rw [mw om] at p2;exact p2,om⟩;have hk:k<e.aJ.length:=om;rw [bu om om,aM om,bf,gd hk];refine af.cd (fun _=>af.ok fun h=>nomatch h) fun hv=>gF _ ⟨k+1,rfl,hk,fun v cx=>?_⟩ (by rw [bf,bf];omega);rw [jT hk] at cx;rcases gz.1 cx with cx | cx
  ·exact p2 v cx
  ·obtain rfl:=iw.1 cx;omega
theorem aj7 (F:Nat) (l:List bq) (hF:200<F):af (fun _=>True) (yR F l):=by
 unfold yR;refine af.cd (fun _=>af.ok trivial) fun hl=>?_;refine af.lp (fun i:Int=>∃k:Nat,i=(k:Int)∧k≤l.length) (fun i=>l.length - i.toNat) ⟨0,rfl,om⟩ (by show l.length - 0<F;omega) ?_;rintro _ ⟨k,rfl,h1⟩ rc hrc;refine af.cd (fun h=>?_) fun h=>af.ok trivial;have hk:k<l.length:=om
 have lt:af (fun _:Bool=>True) (cond (decide (0<(k:Int))) (rq ((decide (0≤ag ((k:Int) - 1)))&&(decide (ag ((k:Int) - 1)<(l.length:Int)))) (rq ((decide (0≤(k:Int)))&&(decide ((k:Int)<(l.length:Int)))) (some (!(Op.bytesLess ((l.getD (Int.toNat (ag ((k:Int) - 1))) cQ).fName) ((l.getD (Int.toNat (k:Int)) cQ).fName)))))) (some false)):=by
  refine af.cd (fun h0=>?_) fun _=>af.ok trivial;rw [qJ om om];exact af.rq (cM om om) (af.rq (cM om om) (af.ok trivial))
 refine af.rq (cM om om) (af.bd (DG F _ om) fun b _=>af.cb (fun _=>af.ok trivial) fun _=>af.rq (cM om om) (af.cd (fun _=>af.ok trivial) fun _=>?_));refine af.bd (P:=fun _=>True) (af.rq (cM om om) (af.cb (fun _=>af.rq (cM om om) (af.cb (fun _=>af.ok trivial) fun _=>lt)) fun _=>lt)) fun b _=>af.cb (fun _=>af.ok trivial) fun _=>?_;rw [aM om];exact hrc _ ⟨k+1,rfl,hk⟩ (by rw [bf,bf];omega)
def aim (e:cG):Prop:=((e.bG.length≤12∧∀v∈e.bG,v.fName.length≤60∧v.bN.length≤60)∧e.aJ.length≤12∧(∀x∈e.aJ,x.length≤60)∧e.fName.length≤60)∧e.ve=[]∧e.oJ=[]∧e.vf=[]∧jI e.JD=true∧(0≤e.hU∧e.hU≤255)∧(0≤e.gm∧e.gm≤255)∧0≤e.NS∧0≤e.AB
theorem aac {α:Type} {l:List α} (h:¬ 0<(l.length:Int)):l=[]:=List.length_eq_zero_iff.1 om
theorem alT (F:Nat) (e:cG) (hF:1000<F):af (fun b=>b=true→aim e) (A7 F e):=by
 unfold A7;obtain⟨b1,h1,e1⟩:=aj6 F e om;obtain⟨b2,-,e2⟩:=aj7 F e.bG om;rw [e1,e2,Yv F e.JD om];simp only [ax,aE];refine af.sc (fun _=>fun h=>nomatch h) fun hc=>fun ht=>?_;simp only [cT,cF,zG,aV,decide_eq_false_iff_not,XO,decide_eq_true_eq] at hc ht;exact⟨h1 hc.1.1.1.1.1,aac hc.1.1.1.2,aac hc.1.1.2,aac hc.1.2,hc.2,om,om,om,om⟩
theorem aj8 (F:Nat) (l:List Bs) (hF:10000<F):af (fun r=>r.1.length≤8∧∀w∈r.1,dP w.fParts≤160) (mN F l):=by
 unfold mN;refine af.lp (fun z:List cD × Int=>∃k:Nat,z.2=(k:Int)∧k≤8∧z.1.length≤k∧∀w∈z.1,dP w.fParts≤160) (fun z=>8 - z.2.toNat) ⟨0,rfl,om,si,fun _ h=>nomatch h⟩ (by show 8 - 0<F;omega) ?_;rintro⟨o,_⟩ ⟨k,rfl,h1,h2,h3⟩ rc hrc;dsimp only at h2 h3 hrc ⊢;rw [ax,aE];refine af.cb (fun hc=>?_) fun _=>af.ok ⟨by show o.length≤_;omega,h3⟩;rw [cF,aV] at hc;have c1:=of_decide_eq_true hc.1;have c2:=of_decide_eq_true hc.2;have hk:k<l.length:=om;have no:af (fun r:List cD × Bool=>r.1.length≤8∧∀w∈r.1,dP w.fParts≤160) (some ([],false)):=af.ok ⟨si,fun _ h=>nomatch h⟩;refine af.rq (cM om om) (af.cd (fun _=>no) fun h80=>af.rq (cM om om) (af.bd (alE F _ om om) fun r hr=>zi (fun _=>no) fun _=>?_));rw [aM om];refine af.rq (gP (by show o.length+1≤_;omega) de) (hrc _ ⟨k+1,rfl,om,bx,fun w hw=>?_⟩ (by show 8 - Int.toNat ((k+1:Nat):Int)<8 - Int.toNat (k:Int);omega));rcases gz.1 hw with hw | hw
 ·exact h3 w hw
 ·obtain rfl:=iw.1 hw
  show dP r.1≤_;omega
theorem aj9 {e:cG} (h:aim e):GEn e:=by
 obtain⟨⟨⟨a1,a2⟩,a3,a4,a5⟩,-⟩:=h;exact⟨⟨om,fun v hv=>by have:=a2 v hv;omega⟩,a3,a4,a5⟩
def Rdy (j:qF) (w:List cD):Prop:=aim j.dS∧VL j.fY∧j.fY.length≤40∧(j.fV.length≤12∧∀a∈j.fV,a.fText.length≤60)∧w.length≤8∧∀x∈w,dP x.fParts≤160
theorem aka (F:Nat) (j:qF) (hF:100000000≤F):af (fun r=>r.2=true→Rdy j r.1) (yS F j):=by
 unfold yS;obtain⟨b,hb,e1⟩:=alT F j.dS om;obtain⟨c,hc,e2⟩:=ahb F j.fY om;rw [e1,e2];simp only [ax,aE];refine af.cb (fun _=>af.ok fun h=>nomatch h) fun hx=>?_;simp only [cT,zG,decide_eq_false_iff_not,XO] at hx;have hfit:=hb hx.1.1.1;have hsm:=hc hx.1.2;have hge:=aj9 hfit;refine af.lp (fun i:Int=>∃k:Nat,i=(k:Int)∧k≤j.fV.length∧∀a∈j.fV.take k,a.fText.length≤60) (fun i=>j.fV.length - i.toNat) ⟨0,rfl,om,si⟩ (by show j.fV.length - 0<F;omega) ?_;rintro _ ⟨k,rfl,k1,k2⟩ rc hrc;refine af.cd (fun h=>?_) fun h=>?_
 ·have hk:k<j.fV.length:=om
  rw [bu om om,aM om,bf,gd hk];refine af.cd (fun _=>af.ok fun h=>nomatch h) fun hv=>hrc _ ⟨k+1,rfl,hk,fun v cx=>?_⟩ (by rw [bf,bf];omega);rw [jT hk] at cx;rcases gz.1 cx with cx | cx
  ·exact k2 v cx
  ·obtain rfl:=iw.1 cx;omega
 ·have k2:∀a∈j.fV,a.fText.length≤60:=by rw [mw om] at k2;exact k2
  refine af.bd (aj8 F j.Fe om) fun r ⟨r1,r2⟩=>?_;rw [afL F j.fY om hsm];simp only [ax,aE];obtain⟨bd,hbd⟩:=agI F j.dS r.1 j.fV hF om (fun x hx=>by have:=r2 x hx;omega) hge ⟨k2,om⟩;rw [hbd,aE,ax,aE];refine af.sc (fun _=>fun h=>nomatch h) fun hy=>fun _=>?_;simp only [cT,zG] at hy;have hv:JH j.fY=0:=by have:=hy.1.2;simpa using this
  exact⟨hfit,(afN _).1 hv,om,⟨om,k2⟩,r1,r2⟩
def lC (r:ah):List ay:=cond (r.aC==3) [ay.mk [] 3] (cond (r.aC==0||(r.aC==1||r.aC==2)) (cond (r.fText==[]&&r.aC==1) [ay.mk [] 1] []++r.fText.map fun b=>ay.mk [b] r.aC) [])
theorem akb (r:ah):(lC r).length≤r.fText.length+1:=by
 unfold lC;cases (r.aC==3)<;>cases (r.aC==0||(r.aC==1||r.aC==2))<;>cases (r.fText==[]&&r.aC==1)<;>simp
theorem ada (l:List ah):(l.flatMap lC).length≤bJ l+l.length:=by
 induction l with
 | nil=>simp [bJ]
 | cons a l ih=>have:=akb a;simp only [zI,eW,jd];simp [bJ] at ih ⊢;omega
theorem akc {s:Bs} {i:Nat} (h:i<s.length):sl s (i:Int) ((i+1:Nat):Int)=[s[i]]:=by
 unfold sl;rw [bf,bf,jT h,aiu (by rw [gB];omega),Ny (by rw [gB];omega)];rfl
theorem anf (F:Nat) (l:List ah) (hF:l.length+bJ l<F) (h1:l.length≤100000000) (h2:bJ l≤100000000):nY F l=some (l.flatMap lC):=by
 have:af (fun r=>r=l.flatMap lC) (nY F l):=by
  unfold nY;refine af.lp (fun z:List ay × Int=>∃k:Nat,z.2=(k:Int)∧k≤l.length∧z.1=(l.take k).flatMap lC) (fun z=>l.length - z.2.toNat) ⟨0,rfl,om,si⟩ (by show l.length - 0<F;omega) ?_;rintro⟨o,_⟩ ⟨k,rfl,h3,h4⟩ rc hrc;dsimp only at h4 hrc ⊢;refine af.cd (fun h=>?_) fun h=>af.ok (by rw [h4,mw om]);have hk:k<l.length:=om;have hm:l.length - Int.toNat ((k+1:Nat):Int)<l.length - Int.toNat (k:Int):=om;have e1:(l.take (k+1)).flatMap lC=o++lC l[k]:=by rw [h4,Kw _ _ _ hk]
  have ho:o.length≤bJ l+l.length:=by
   have:=ada (l.take k);have h5:=Oi l k;rw [←h4,gB] at this;omega
  have ht:l[k].fText.length≤bJ l:=Fh (ei hk);rw [bu om om,aM (i:=k) om,bf,gd hk];generalize l[k]=r at e1 ht;obtain⟨q,hq⟩:∃q,q=lC r:=⟨_,rfl⟩;rw [←hq] at e1;unfold lC at hq
  cases c3:(r.aC==3) with
  | true =>
   rw [c3,cond_true] at hq;subst hq
   exact af.rq (gP (by show o.length+1≤_;omega) de) (hrc _ ⟨k+1,rfl,hk,e1.symm⟩ hm)
  | false =>
   rw [c3,cond_false] at hq;simp only [ax,aE,cond_false]
   have ec:(cond (r.aC==0) (r.aC==0) (cond (r.aC==1) (r.aC==1) (r.aC==2)))=(r.aC==0||(r.aC==1||r.aC==2)):=by
    cases (r.aC==0)<;>cases (r.aC==1)<;>rfl
   rw [ec]
   cases cc:(r.aC==0||(r.aC==1||r.aC==2)) with
   | false=>rw [cc,cond_false] at hq;subst hq;exact hrc _ ⟨k+1,rfl,hk,by rw [e1];simp⟩ hm
   | true =>
    rw [cc,cond_true] at hq;subst hq;simp only [cond_true];have ed:(cond (r.fText==[]) (r.aC==1) false)=(r.fText==[]&&r.aC==1):=by cases (r.fText==[])<;>rfl
    rw [ed];refine af.bd (P:=fun o':List ay=>o'=o++cond (r.fText==[]&&r.aC==1) [ay.mk [] 1] []) ?_ ?_
    ·cases (r.fText==[]&&r.aC==1) with
     | true=>exact af.rq (gP (by show o.length+1≤_;omega) de) (af.ok rfl)
     | false=>exact af.ok si
    ·rintro o' ho'
     have hol:o'.length≤o.length+1:=by rw [ho'];cases (r.fText==[]&&r.aC==1)<;>simp
     refine af.lp (fun z:List ay × Int=>∃i:Nat,z.2=(i:Int)∧i≤r.fText.length∧z.1=o'++(r.fText.take i).map fun b=>ay.mk [b] r.aC) (fun z=>r.fText.length - z.2.toNat) ⟨0,rfl,om,si⟩ (by show r.fText.length - 0<F;omega) ?_;rintro⟨o2,_⟩ ⟨i,rfl,i1,i2⟩ rc' gF;dsimp only at i2 gF ⊢;have hl2:o2.length≤o'.length+r.fText.length:=by rw [i2];simp;omega
     refine af.cd (fun h=>?_) fun h=>hrc _ ⟨k+1,rfl,hk,by rw [e1];show o2=_;rw [i2,ho',mw om,iu]⟩ hm;have hi:i<r.fText.length:=om;rw [aM om,Yl om om om,akc hi];exact af.rq (gP (by show o2.length+1≤_;omega) de) (gF _ ⟨i+1,rfl,om,by show o2++_=_;rw [i2,jT hi,zH,iu];rfl⟩ (by show r.fText.length - Int.toNat ((i+1:Nat):Int)<r.fText.length - Int.toNat (i:Int);omega))
 obtain⟨r,h,e⟩:=this;rw [e,h]
def G9 (f:List (List ay)) (n:List ay):List (List ay):=cond (n==[]) f (f++[n])
def wg:List ay→List (List ay)→List ay→List (List ay)
 | [],f,n=>G9 f n
 | x::l,f,n=>cond (x.dh==3) (wg l (G9 f n) []) (wg l f (n++[x]))
theorem alU (F:Nat) (f:List (List ay)) (n:List ay) (hf:f.length≤100000000):jo F false n f=some ([],G9 f n):=by
 unfold jo G9
 cases n with
 | nil=>rfl
 | cons a t =>
  rw [cond_false,aE,dT si,cond_true,iY (by show f.length+1≤_;omega) de];rfl
theorem ai8 (F:Nat) (x:ay) (s:Bs) (h:(x.dh==2)=false):jO F x s=some false:=by unfold jO;rw [h];rfl
theorem akd (F:Nat) (x:ay) (s:Bs) (h:(x.dh==2)=false):p4 F x s=some false:=by unfold p4;rw [ai8 F x s h];rfl
theorem ain (F:Nat) (l:List ay) (s:Bs) (hF:l.length<F) (hl:l.length≤10000000) (h:∀x∈l,(x.dh==2)=false):ru F l s=some (wg l [] []):=by
 have:af (fun r=>r=wg l [] []) (ru F l s):=by
  unfold ru;refine af.lp (fun z:List ay × List (List ay) × List ay=>(∀x∈z.1,(x.dh==2)=false)∧z.1.length+z.2.1.length+z.2.2.length≤l.length∧wg z.1 z.2.1 z.2.2=wg l [] []) (fun z=>z.1.length) ⟨h,si,rfl⟩ hF ?_;rintro⟨m,f,n⟩ ⟨h1,h2,h3⟩ rc hrc;dsimp only at h1 h2 h3 hrc ⊢
  cases m with
  | nil =>
   rw [cf si,alU F f n om]
   exact af.ok h3
  | cons x m =>
   have hx:=h1 x nr;have hm:=fun y hy=>h1 y (jS x hy);simp only [jd] at h2 hrc;have hlen:((x::m:List ay).length:Int)=(m.length:Int)+1:=by simp
   have es:sl (x::m) 1 ((x::m:List ay).length:Int)=m:=by unfold sl;simp
   rw [ctq om,mS om,show (x::m).getD 0 dy=x from rfl,es,akd F x s hx,ai8 F x s hx];simp only [wg] at h3
   cases c3:(x.dh==3) with
   | true =>
    rw [c3] at h3;rw [cond_true,alU F f n om,aE];refine af.rq (vI om om om) (hrc _ ⟨hm,?_,h3⟩ (zF _));show m.length+(G9 f n).length+0≤_;unfold G9
    cases n with
    | nil=>show m.length+f.length+0≤_;simp at h2;omega
    | cons a t=>show m.length+(f++[a::t]).length+0≤_;simp at h2 ⊢;omega
   | false =>
    rw [c3] at h3;simp only [aE,cond_false];exact af.rq (gP (by show n.length+1≤_;omega) de) (af.rq (vI om om om) (hrc _ ⟨hm,by show m.length+f.length+(n++[x]).length≤_;simp;omega,h3⟩ (zF _)))
 obtain⟨r,h,e⟩:=this;rw [e,h]
def Am (l:List ay):Bs:=l.flatMap fun e=>e.bR
theorem ang (F:Nat) (l:List ay) (hF:l.length<F) (h1:l.length≤100000000) (h2:∀e∈l,e.bR.length≤1):wh F l=some (Am l):=by
 have hb:∀k,(Am (l.take k)).length≤k:=fun k=>by
  unfold Am;rw [adv]
  have:∀m:List ay,(∀e∈m,e.bR.length≤1)→(m.map fun a=>a.bR.length).sum≤m.length:=fun m=>by
   induction m with
   | nil=>simp
   | cons a m ih=>intro h;have:=h a nr;have:=ih fun e he=>h e (jS _ he);simp;omega
  have:=this (l.take k) fun e he=>h2 e (Sc he);rw [gB] at this;omega
 have:af (fun r=>r=Am l) (wh F l):=by
  unfold wh;refine af.lp (fun x:Int × Bool × List Int=>∃k:Nat,x.1=(k:Int)∧k≤l.length∧x.2.2=bI (Am (l.take k))) (fun x=>l.length - x.1.toNat) ⟨0,rfl,om,by simp [Am,bI]⟩ (by show l.length - 0<F;omega) ?_;rintro⟨_,c,buf⟩ ⟨k,rfl,h3,h4⟩ rc hrc;dsimp only at h4 hrc ⊢;have wU:buf.length≤k:=by rw [h4,bI,oC];exact hb k
  refine af.cd (fun h=>?_) fun h=>?_
  ·have hk:k<l.length:=om
   have hx:=h2 _ (ei hk);rw [bu om om,bf,gd hk,akD F _ c buf om,aE,aM om];refine hrc _ ⟨k+1,rfl,hk,?_⟩ (by show l.length - Int.toNat ((k+1:Nat):Int)<l.length - Int.toNat (k:Int);omega);show buf++bI l[k].bR=_;unfold Am;rw [h4,Kw _ _ _ hk];simp [bI,Am]
  ·rw [mw om] at h4
   subst h4;have:(bI (Am l)).length≤k:=wU;unfold gT;rw [eu (by rw [decide_eq_true rfl,U1,decide_eq_true om];rfl),NX];exact af.ok rfl
 obtain⟨r,h,e⟩:=this;rw [e,h]
theorem alV (F:Nat) (l:List ay) (c:Int) (hF:l.length+1<F) (h1:l.length≤10000000) (h2:∀e∈l,e.bR.length≤1∧e.dh=c) (h0:l≠[]):wj F l=some [ah.mk (Am l) c]:=by
 have hpos:0<l.length:=uq.2 h0;have hc0:(l.getD 0 dy).dh=c:=by rw [gd hpos];exact (h2 _ (ei hpos)).2
 have:af (fun r=>r=[ah.mk (Am l) c]) (wj F l):=by
  unfold wj;refine af.lp (fun z:List ay × List ah=>z=(l,[])∨z=([],[ah.mk (Am l) c])) (fun z=>z.1.length) (.inl rfl) (by show l.length<F;omega) ?_;rintro z (rfl | rfl) rc hrc
  ·dsimp only at hrc ⊢
   rw [ctq om];refine af.lp (fun i:Int=>∃k:Nat,i=(k:Int)∧1≤k∧k≤l.length) (fun i=>l.length - i.toNat) ⟨1,rfl,om,om⟩ (by show l.length - 1<F;omega) ?_;rintro _ ⟨k,rfl,k1,k2⟩ rc' gF;by_cases hk:k<l.length
   ·rw [ctq om,bu om om,mS om,aE,bf,gd hk,hc0,(h2 _ (ei hk)).2,show (c==c)=true from by simp,cond_true,aM om]
    exact gF _ ⟨k+1,rfl,om,hk⟩ (by rw [bf,bf];omega)
   ·obtain rfl:k=l.length:=om
    have e1:sl l 0 (l.length:Int)=l:=by unfold sl;simp
    have e2:sl l (l.length:Int) (l.length:Int)=[]:=by unfold sl;simp
    rw [cf om,aE,cond_false,bu om om,mS om,e1,e2,ang F l om om (fun e he=>(h2 e he).1),aE,hc0];refine af.rq (gP (by show 0+1≤_;omega) de) (af.rq (vI om om om) (hrc _ (.inr rfl) (by show 0<l.length;omega)))
  ·exact af.ok rfl
 obtain⟨r,h,e⟩:=this;rw [e,h]
def bZ:List (List ah)→List ah
 | []=>[]
 | [g]=>g
 | g::g2::gs=>g++ah.mk [] 3::bZ (g2::gs)
def QG (g:List ah):Prop:=g≠[]∧∀r∈g,r.aC=1
theorem QF {r:ah} (h:r.aC=1):lC r≠[]∧(∀e∈lC r,e.bR.length≤1∧e.dh=1)∧Am (lC r)=r.fText:=by
 obtain⟨t,c⟩:=r;dsimp only at h;subst h
 cases t with
 | nil=>exact⟨by decide,fun e he=>by obtain rfl:=iw.1 he;exact⟨fT _,rfl⟩,rfl⟩
 | cons a t =>
  have e:lC (ah.mk (a::t) 1)=(a::t).map fun b=>ay.mk [b] 1:=rfl;rw [e];refine⟨si,fun x hx=>?_,?_⟩
  ·obtain⟨b,_,rfl⟩:=p8.1 hx;exact⟨bM _,rfl⟩
  ·unfold Am
   have:∀l:Bs,((l.map fun b=>ay.mk [b] 1).flatMap fun e=>e.bR)=l:=fun l=>by
    induction l with
    | nil=>rfl
    | cons b l ih=>simp only [eV,zI,ih];rfl
   exact this _
theorem elG {g:List ah} (h:∀r∈g,r.aC=1):(∀e∈g.flatMap lC,e.bR.length≤1∧e.dh=1)∧Am (g.flatMap lC)=g.flatMap fun r=>r.fText:=by
 induction g with
 | nil=>exact⟨fun _ h=>(nomatch h),rfl⟩
 | cons a g ih =>
  obtain⟨h1,h2⟩:=ih fun r hr=>h r (jS _ hr);obtain⟨h3,h4,h5⟩:=QF (h a nr);refine⟨fun e he=>?_,?_⟩
  ·simp only [zI,gz] at he
   rcases he with he | he
   ·exact h4 e he
   ·exact h1 e he
  ·unfold Am at h2 h5 ⊢
   simp only [zI,NG,h2,h5]
theorem Oj:∀(a l:List ay) (f:List (List ay)) (n:List ay),(∀x∈a,x.dh=1)→wg (a++l) f n=wg l f (n++a)
 | [],l,f,n,h=>by simp
 | x::a,l,f,n,h=>by
  have:=h x nr;simp only [je,wg];rw [show (x.dh==3)=false from by rw [this];rfl,cond_false,Oj a l f (n++[x]) fun y hy=>h y (jS _ hy),iu];rfl
theorem adb {f:List (List ay)} {n:List ay} (h:n≠[]):G9 f n=f++[n]:=by
 unfold G9
 cases n with
 | nil=>exact absurd rfl h
 | cons a t=>rfl
theorem ade:∀(gs:List (List ah)) (f:List (List ay)),(∀g∈gs,QG g)→wg ((bZ gs).flatMap lC) f []=f++gs.map fun g=>g.flatMap lC
 | [],f,h=>by simp [bZ,wg,G9]
 | [g],f,h=>by
  obtain⟨h0,h1⟩:=h g nr
  have hn:g.flatMap lC≠[]:=by
   cases g with
   | nil=>exact absurd rfl h0
   | cons a g=>simp only [zI];intro e;exact (QF (h1 a nr)).1 (adw.1 e).1
  have:=Oj (g.flatMap lC) [] f [] fun x hx=>((elG h1).1 x hx).2;simp only [bZ];rw [qC] at this;rw [this];simp only [wg,iV,eV,ni]
  exact adb hn
 | g::g2::gs,f,h=>by
  obtain⟨h0,h1⟩:=h g nr
  have hn:g.flatMap lC≠[]:=by
   cases g with
   | nil=>exact absurd rfl h0
   | cons a g=>simp only [zI];intro e;exact (QF (h1 a nr)).1 (adw.1 e).1
  have e3:lC (ah.mk [] 3)=[ay.mk [] 3]:=rfl;simp only [bZ,NG,zI,e3];rw [Oj _ _ f [] fun x hx=>((elG h1).1 x hx).2];simp only [je,iV,wg];rw [show ((3:Int)==3)=true from rfl,cond_true,adb hn,ade (g2::gs) _ fun x hx=>h x (jS _ hx)];simp
theorem VJ:∀(gs:List (List ah)),(∀g∈gs,QG g)→∀r∈bZ gs,r.aC=1∨r=ah.mk [] 3
 | [],h,r,hr=>nomatch hr
 | [g],h,r,hr=>.inl ((h g nr).2 r hr)
 | g::g2::gs,h,r,hr=>by
  simp only [bZ,gz,fK] at hr;rcases hr with hr | rfl | hr
  ·exact .inl ((h g nr).2 r hr)
  ·exact .inr rfl
  ·exact VJ (g2::gs) (fun x hx=>h x (jS _ hx)) r hr
theorem aio (F:Nat) (gs:List (List ah)) (s:Bs) (hF:100000000≤F) (hg:∀g∈gs,QG g) (h1:(bZ gs).length≤100000) (h2:bJ (bZ gs)≤5000000) (J3:gs.length≤100000) :
  ry F (bZ gs) s=some (gs.map fun g=>[ah.mk (g.flatMap fun r=>r.fText) 1]):=by
 have hE:=ada (bZ gs)
 have hcl:∀x∈(bZ gs).flatMap lC,(x.dh==2)=false:=fun x hx=>by
  obtain⟨r,hr,hx⟩:=List.mem_flatMap.1 hx;rcases VJ gs hg r hr with h | rfl
  ·rw [((QF h).2.1 x hx).2];rfl
  ·obtain rfl:=iw.1 (show x∈[ay.mk [] 3] from hx);rfl
 have hdv:=ade gs [] hg
 have hlen:∀g∈gs,(g.flatMap lC).length≤6000000:=by
  have:∀(gs:List (List ah)),∀g∈gs,(g.flatMap lC).length≤((bZ gs).flatMap lC).length:=fun gs=>by
   induction gs with
   | nil=>intro g hg;cases hg
   | cons a gs ih =>
    intro g hg
    cases gs with
    | nil=>obtain rfl:=iw.1 hg;exact bM _
    | cons b gs =>
     simp only [bZ,NG,zI,eW];rcases fK.1 hg with rfl | hg
     ·omega
     ·have:=ih g hg;omega
  intro g hg';have:=this gs g hg';omega
 have main:af (fun r=>r=gs.map fun g=>[ah.mk (g.flatMap fun r=>r.fText) 1]) (ry F (bZ gs) s):=by
  unfold ry;rw [anf F _ om om om,aE,ain F _ s om om hcl,aE,hdv,iV];refine af.lp (fun z:List (List ah) × Int=>∃k:Nat,z.2=(k:Int)∧k≤gs.length∧z.1=(gs.take k).map fun g=>[ah.mk (g.flatMap fun r=>r.fText) 1]) (fun z=>gs.length - z.2.toNat) ⟨0,rfl,om,si⟩ (by show gs.length - 0<F;omega) ?_;rintro⟨o,_⟩ ⟨k,rfl,k1,k2⟩ rc hrc;dsimp only at k2 hrc ⊢;have hml:((gs.map fun g=>g.flatMap lC).length:Int)=(gs.length:Int):=by simp
  refine af.cd (fun h=>?_) fun h=>af.ok (by rw [k2,mw om]);have hk:k<gs.length:=om;have hm:=hg _ (ei hk);obtain⟨g1,g2⟩:=elG hm.2
  have hn:gs[k].flatMap lC≠[]:=by
   obtain⟨h0,h1⟩:=hm;revert h0 h1;generalize gs[k]=g;intro h0 h1
   cases g with
   | nil=>exact absurd rfl h0
   | cons a g=>simp only [zI];intro e;exact (QF (h1 a nr)).1 (adw.1 e).1
  have e1:(gs.map fun g=>g.flatMap lC).getD k []=gs[k].flatMap lC:=by rw [gd (by simpa using hk),Jp]
  have hL:=hlen _ (ei hk);have hol:o.length≤gs.length:=by rw [k2];simp;omega
  rw [bu om om,aM om,bf,e1,alV F _ 1 om om g1 hn,aE,g2];refine af.rq (gP (by show o.length+1≤_;omega) de) (hrc _ ⟨k+1,rfl,hk,?_⟩ (by show gs.length - Int.toNat ((k+1:Nat):Int)<gs.length - Int.toNat (k:Int);omega));show o++_=_;rw [k2,jT hk,zH];rfl
 obtain⟨r,h,e⟩:=main;rw [e,h]
theorem alW (F:Nat) (l:List bq) (n:Bs) (hF:l.length<F) (hl:l.length≤1000):xY F l n=some (sZ l n):=by
 have hf:DL F l n=some ((l.findIdx? fun v=>v.fName==n).elim (-1) fun i=>(i:Int)):=by
  unfold DL;rw [oM l (fun i=>(i:Int)) (fun v=>v.fName==n) (fun i v=>some (i:Int)) (some (-1)) (s:=(0:Int)) hF rfl (fun i h rc=>?_) (fun rc=>?_)]
  ·rw [NV _ _ _ cQ]
   cases l.findIdx? _<;>simp
  ·unfold He
   rw [ctq om,bu om om,bf,gd h,aE,aM om]
  ·rw [cf om]
 unfold xY;rw [hf,aE];unfold sZ
 cases e:l.findIdx? fun v=>v.fName==n with
 | none =>
  have:l.find? (fun v=>v.fName==n)=none:=by
   rw [List.find?_eq_none];intro x hx;have:=List.findIdx?_eq_none_iff.1 e x hx;simpa using this
  rw [this];rfl
 | some i =>
  obtain⟨hi,hp,hq⟩:=List.findIdx?_eq_some_iff_getElem.1 e
  have:l.find? (fun v=>v.fName==n)=some l[i]:=by
   rw [aiv];exact⟨hp,i,hi,rfl,fun j hj=>by have:=hq j hj;simpa using this⟩
  rw [this];show cond (decide (0≤(i:Int))) _ _=_;rw [ctq om];show rq (decide (0≤(i:Int))&&decide ((i:Int)<(l.length:Int))) (some (l.getD (Int.toNat (i:Int)) cQ,true))=_;rw [bu om om,bf,gd hi];rfl
theorem VK (l:List Bs) (g:Bs) (n:Nat) (hg:g.length≤1) (h:∀a∈l,a.length≤n):(Lib.join l g).length≤(n+1) * l.length:=by
 cases l with
 | nil=>simp [Lib.join_nil]
 | cons a r =>
  rw [Lib.join_cons];have h1:=h a si
  have h2:∀r:List Bs,(∀c∈r,c.length≤n)→(Lib.joinTail g r).length≤(n+1) * r.length:=fun r=>by
   unfold Lib.joinTail
   induction r with
   | nil=>intro _;simp
   | cons b r ih=>intro h;have h3:=h b nr;have h4:=ih fun c hc=>h c (jS _ hc);simp only [eV,adx,eW,jd,Nat.mul_succ];omega
  have:=h2 r fun c hc=>h c (jS _ hc);simp only [eW,jd,Nat.mul_succ];omega
theorem agJ (F:Nat) (l:List Bs) (g:Bs) (hg:g.length≤1) (h:∀a∈l,a.length≤60) (hl:l.length≤12):rO F l g=some (Lib.join l g):=by
 have:=VK l g 60 hg h;have:(60+1) * l.length≤61 * 12:=Nat.mul_le_mul_left 61 hl;unfold rO;rw [bu om om]
theorem alX (F:Nat) (p:Bs) (hF:20000≤F) (hp:p.length≤5000):PcK F akG (fun _=>true) [ah.mk p 1]:=by
 have hsz:bJ [ah.mk p 1]=p.length:=by simp [bJ]
 have h4:([ah.mk p 1].flatMap wS).length≤bJ [ah.mk p 1]:=Fg _ Sp _;refine⟨afQ F _ bx om si om (anq fun r hr=>by obtain rfl:=iw.1 hr;rfl),⟨(([ah.mk p 1].flatMap wS).map (·.fb)).flatMap fun b=>bh [b],?_⟩,bx,si,om⟩;show iE F (([ah.mk p 1].flatMap wS).map fun e=>pb e.fb)=_;rw [show (([ah.mk p 1].flatMap wS).map fun e=>pb e.fb)=(([ah.mk p 1].flatMap wS).map (·.fb)).map pb by rw [qE];rfl];exact afR F _ (by rw [oC];omega) (by rw [oC];omega)
theorem agK (F:Nat) (l:List aL) (cwd s:Bs) (hF:20000≤F) (hc:jI cwd=true) (hs:s.length≤5000):qp F l cwd [ah.mk s 1]=some ([s],0):=by
 have hsz:bJ [ah.mk s 1]=s.length:=by simp [bJ]
 have hpl:=yY s;have hP:=acK s 1 rfl
 have hpc:iP F [ah.mk s 1] l [] true [] [] []=some (l,_,_,_,[]):=pieces_eq (F:=F) (pat:=akG) (lit:=fun _=>true) (l:=[ah.mk s 1]) (fs:=l) (dead:=[]) bx om si om (by rw [hP,oC];omega) (akF s 1 rfl) (fun t ht=>by
  rw [hP] at ht;obtain⟨p,hp,rfl⟩:=p8.1 ht;have:=HR s p hp;exact alX F p hF om)
 unfold qp;rw [ahc F cwd [47] om si,adW hc];show ((iP F [ah.mk s 1] l [] true [] [] []).bind _)=_;rw [hpc,aE];dsimp only;rw [hP,afS,ahh F _ om (by rw [AF];omega),aE,AF,show (((bA s).map fun p=>[ah.mk p 1]).all fun _=>true)=true by simp];rfl
theorem agL (F:Nat) (w:cD) (st st':aH) (gs:List (List ah)) (hF:100000000≤F) (hr:jP F w.fParts (cm.mk false true 0) st=some (bZ gs,true,st'))
  (hv:st'.bF.bG.length≤1000) (hc:jI st'.bF.JD=true) (hg:∀g∈gs,QG g) (h1:(bZ gs).length≤100000) (h2:bJ (bZ gs)≤5000000) (J3:gs.length≤512) (ht:∀g∈gs,(g.flatMap fun r=>r.fText).length≤4096) :
  gG F w st=some (gs.map fun g=>g.flatMap fun r=>r.fText,true,st'):=by
 have main:af (fun r=>r=(gs.map fun g=>g.flatMap fun r=>r.fText,true,st')) (gG F w st):=by
  unfold gG;rw [hr,aE];show af _ (Option.bind _ _);rw [alW F st'.bF.bG _ om hv];simp only [aE,ax];rw [aio F gs _ hF hg h1 h2 om];simp only [aE];have hml:(((gs.map fun g=>[ah.mk (g.flatMap fun r=>r.fText) 1]).length:Nat):Int)=(gs.length:Int):=by simp
  have hat:∀(k:Nat) (h:k<gs.length),(gs.map fun g=>[ah.mk (g.flatMap fun r=>r.fText) 1]).getD k []=[ah.mk (gs[k].flatMap fun r=>r.fText) 1]:=fun k h=>by rw [gd (by simpa using h),Jp]
  have tB:∀(k:Nat) (h:k<gs.length),lU F [ah.mk (gs[k].flatMap fun r=>r.fText) 1]=some (gs[k].flatMap fun r=>r.fText):=fun k h=>by
   have:=ht _ (ei h);have h3:bJ [ah.mk (gs[k].flatMap fun r=>r.fText) 1]=(gs[k].flatMap fun r=>r.fText).length:=by simp [bJ]
   rw [acI F _ bx si (by rw [h3];omega),acL]
  refine af.lp (fun i:Int=>∃k:Nat,i=(k:Int)∧k≤gs.length) (fun i=>gs.length - i.toNat) ⟨0,rfl,om⟩ (by show gs.length - 0<F;omega) ?_;rintro _ ⟨k,rfl,hk⟩ rc hrc;refine af.cd (fun h=>?_) fun h=>?_
  ·have hk:k<gs.length:=om
   have:=ht _ (ei hk);rw [bu om om,aM om,bf,hat k hk,tB k hk,aE,cf om];exact hrc _ ⟨k+1,rfl,hk⟩ (by rw [bf,bf];omega)
  ·refine af.lp (fun z:List Bs × Int=>∃k:Nat,z.2=(k:Int)∧k≤gs.length∧z.1=(gs.take k).map fun g=>g.flatMap fun r=>r.fText) (fun z=>gs.length - z.2.toNat) ⟨0,rfl,om,si⟩ (by show gs.length - 0<F;omega) ?_
   rintro⟨o,_⟩ ⟨k,rfl,hk,ho⟩ rc' gF;dsimp only at ho gF ⊢;have hol:o.length=k:=by rw [ho];simp;omega
   refine af.cd (fun h=>?_) fun h=>af.ok (by rw [ho,mw om]);have hk:k<gs.length:=om;have hm:gs.length - Int.toNat ((k+1:Nat):Int)<gs.length - Int.toNat (k:Int):=om;have hn:o++[gs[k].flatMap fun r=>r.fText]=(gs.take (k+1)).map fun g=>g.flatMap fun r=>r.fText:=by rw [ho,jT hk,zH];rfl
   have:=ht _ (ei hk);rw [bu om om,aM om,bf,hat k hk,tB k hk,agK F _ _ _ om hc om,aE];refine af.cb (fun _=>af.rq (gP (by show o.length+1≤_;omega) de) (gF _ ⟨k+1,rfl,hk,hn⟩ hm)) fun _=>?_;show af _ (rq _ (cond (decide (512<((o++[gs[k].flatMap fun r=>r.fText]).length:Int))) _ _));have aoi:((o++[gs[k].flatMap fun r=>r.fText]).length:Int)=(k:Int)+1:=by simp;omega
   rw [cf om];exact af.rq (gP (by show o.length+1≤_;omega) de) (gF _ ⟨k+1,rfl,hk,hn⟩ hm)
 obtain⟨r,h,e⟩:=main;rw [e,h]
theorem GN {R:Type} (a:Option R):agree a a=a:=by unfold agree;exact if_pos rfl
theorem adf:tL 60=some true:=by
 unfold tL;simp only [GN]
 kernel_rfl
theorem agM (F:Nat):ug (F+100) [64]=some true:=by kernel_rfl
theorem agN (F:Nat):ug (F+100) [42]=some true:=by kernel_rfl
theorem S9 {F k:Nat} (h:k≤F):∃n,F=n+k:=⟨F - k,om⟩
theorem ake (F:Nat) (e:cG) (hF:100≤F) (hP:e.aJ.length≤12∧∀x∈e.aJ,x.length≤60):kH F e [64]=some (Lib.join e.aJ [32],decide (0<(e.aJ.length:Int))):=by
 obtain⟨n,rfl⟩:=S9 hF;unfold kH;rw [agM];show ((mq (n+100) e 64).bind fun x2=>some (x2.1,x2.2))=_;show (((rO (n+100) e.aJ [32]).bind fun x1=>some (x1,decide (0<(e.aJ.length:Int)))).bind fun x2=>some (x2.1,x2.2))=_;rw [agJ _ _ _ de hP.2 hP.1];rfl
theorem an6 (F:Nat) (e:cG) (hF:1000<F) (hV:e.bG.length≤1000):∃g,g.length≤1∧jQ F e=some g:=by
 have:af (fun g=>g.length≤1) (jQ F e):=by
  unfold jQ sy;rw [alW F e.bG _ om hV,aE,ax,aE,ax,aE];generalize cond _ ((sZ e.bG [73,70,83]).1.bN,true) ([],false)=q;refine af.cb (fun _=>af.ok de) fun _=>?_
  cases h:(q.1==[]) with
  | true=>exact af.ok (fT _)
  | false =>
   have:q.1≠[]:=by simpa using h
   have:=uq.2 this;exact af.rq (decide_eq_true om) (af.ok (iH _ 0 1))
 obtain⟨g,h,e⟩:=this;exact⟨g,h,e⟩
theorem akf (F:Nat) (e:cG) (hF:1000<F) (hV:e.bG.length≤1000) (hP:e.aJ.length≤12∧∀x∈e.aJ,x.length≤60):∃g:Bs,g.length≤1∧kH F e [42]=some (Lib.join e.aJ g,decide (0<(e.aJ.length:Int))):=by
 obtain⟨g,hg,hs⟩:=an6 F e hF hV;obtain⟨n,rfl⟩:=S9 (k:=100) (F:=F) om;refine⟨g,hg,?_⟩;unfold kH;rw [agN];show ((mq (n+100) e 42).bind fun x2=>some (x2.1,x2.2))=_;show (((jQ (n+100) e).bind fun x2=>(rO (n+100) e.aJ x2).bind fun x3=>some (x3,decide (0<(e.aJ.length:Int)))).bind fun x2=>some (x2.1,x2.2))=_;rw [hs,aE,agJ _ _ _ hg hP.2 hP.1];rfl
theorem QH:∀(gs:List (List ah)) (g:List ah),gs≠[]→bZ (gs++[g])=bZ gs++ah.mk [] 3::g
 | [],g,h=>absurd rfl h
 | [a],g,h=>rfl
 | a::b::gs,g,h=>by
  have:=QH (b::gs) g si;simp only [je,bZ] at this ⊢;rw [this];simp
theorem aip (F:Nat) (v:Bs) (st:aH) (hF:100<F) (hP:st.bF.aJ.length≤12):eL F [64] v (cm.mk true true 0) st=some (bZ (st.bF.aJ.map fun p=>[ah.mk p 1])):=by
 have:af (fun r=>r=bZ (st.bF.aJ.map fun p=>[ah.mk p 1])) (eL F [64] v (cm.mk true true 0) st):=by
  unfold eL
  have hml:∀k,(bZ ((st.bF.aJ.take k).map fun p=>[ah.mk p 1])).length≤2 * k:=fun k=>by
   have:∀l:List Bs,(bZ (l.map fun p=>[ah.mk p 1])).length≤2 * l.length:=fun l=>by
    induction l with
    | nil=>simp [bZ]
    | cons a l ih =>
     cases l with
     | nil=>simp [bZ]
     | cons b l=>simp only [eV,bZ,eW,jd] at ih ⊢;simp only [kg];omega
   have h:=this (st.bF.aJ.take k);rw [gB] at h;omega
  show af _ (aF _ F _);refine af.lp (fun z:List ah × Int=>∃k:Nat,z.2=(k:Int)∧k≤st.bF.aJ.length∧z.1=bZ ((st.bF.aJ.take k).map fun p=>[ah.mk p 1])) (fun z=>st.bF.aJ.length - z.2.toNat) ⟨0,rfl,om,by simp [bZ]⟩ (by show st.bF.aJ.length - 0<F;omega) ?_;rintro⟨o,_⟩ ⟨k,rfl,hk,ho⟩ rc hrc;dsimp only at ho hrc ⊢;have hol:o.length≤2 * k:=by rw [ho];exact hml k
  refine af.cd (fun h=>?_) fun h=>af.ok (by rw [ho,mw om]);have hk:k<st.bF.aJ.length:=om;have hm:st.bF.aJ.length - Int.toNat ((k+1:Nat):Int)<st.bF.aJ.length - Int.toNat (k:Int):=om;refine af.rq (cM om om) (af.bd (P:=fun u:List ah=>u=cond (decide (0<(k:Int))) (o++[ah.mk [] 3]) o) (af.cd (fun h=>?_) fun h=>?_) fun u hu=>?_)
  ·rw [dT h];exact af.rq (gP (by show o.length+1≤_;omega) de) (af.ok rfl)
  ·rw [dF h];exact af.ok rfl
  have hul:u.length≤o.length+1:=by rw [hu];cases decide (0<(k:Int))<;>simp
  rw [aM om,bf,gd hk];show af _ (rq _ (rc (u++[ah.mk st.bF.aJ[k] 1],((k+1:Nat):Int))));refine af.rq (gP (by show u.length+1≤_;omega) de) (hrc _ ⟨k+1,rfl,hk,?_⟩ hm);show u++[ah.mk st.bF.aJ[k] 1]=_;rw [jT hk,zH,hu,ho];by_cases h0:k=0
  ·subst h0;rfl
  ·rw [dT om]
   show _=bZ (_++[[ah.mk st.bF.aJ[k] 1]])
   rw [QH _ _ (by
    intro e;have:=congrArg List.length e;rw [oC,gB,kg] at this;omega)]
   simp
 obtain⟨r,h,e⟩:=this;rw [e,h]
theorem VM {F:Nat} {r:cR} {x:TPart} {p:cm} {s:aH} (hF:10≤F) {y:List ah × Bool × aH} (h:r.2.1 x p s=some y) (hy:y.1.length≤1000000) :
  gL F r [x] p s=some (cond (!y.2.1) ([],false,y.2.2) (y.1,true,y.2.2)):=by
 have:af (fun z=>z=cond (!y.2.1) ([],false,y.2.2) (y.1,true,y.2.2)) (gL F r [x] p s):=by
  unfold gL;refine af.lp (fun z:List ah × Int × aH=>z=([],0,s)∨(y.2.1=true∧z=(y.1,1,y.2.2))) (fun z=>2 - z.2.1.toNat) (.inl rfl) (by show 2 - 0<F;omega) ?_;rintro z (rfl | ⟨hb,rfl⟩) rc hrc
  ·dsimp only at hrc ⊢
   rw [ctq si,bu om si,show ([x].getD (Int.toNat 0) dn)=x from rfl,TPart.eta,h,aE]
   cases hb:y.2.1 with
   | false=>exact af.ok rfl
   | true =>
    refine af.rq (gP (by show 0+y.1.length≤_;omega) de) ?_;have h2:=hrc _ (.inr ⟨hb,rfl⟩) (by show 2 - 1<2 - 0;omega);rw [hb] at h2;exact h2
  ·dsimp only at hrc ⊢
   rw [cf si,hb];exact af.ok rfl
 obtain⟨r,h,e⟩:=this;rw [e,h]
theorem ai9 (F n:Nat) (x:TPart) (m:cm) (s:aH):(aK F (n+1)).2.1 x m s=jw F (aK F n) x m s:=rfl
theorem adg {F n:Nat} {t:Bs} {v:Bs} {set:Bool} {rs:List ah} {st:aH} (hF:10≤F) (hl:p5 F t=some true) (hv:kH F st.bF t=some (v,set)) (hi:eL F t v (cm.mk true true 0) st=some rs) (hr:rs.length≤1000000) :
  (aK F (n+7)).1 [TPart.mk 3 [] 0 false [TPart.mk 4 t 0 false []]] (cm.mk false true 0) st=some (cond (decide (0<(rs.length:Int))) rs (cond (t==[64]) [] [ah.mk [] 1]),true,st):=by
 have h1:(aK F (n+1)).2.2.2.2.2.2 (TPart.mk 4 t 0 false []) (cm.mk true true 0) v set st=some (rs,true,st):=by
  show kV F (aK F n) _ _ _ _ _=_;unfold kV;have:wk F 0 false set v=some 0:=by cases set<;>rfl
  show ((wk F 0 false set v).bind _)=_;rw [this];show ((eL F t v (cm.mk true true 0) st).bind _)=_;rw [hi];rfl
 have h2:(aK F (n+1+1)).2.2.2.2.2.1 (TPart.mk 4 t 0 false []) (cm.mk true true 0) st=some (rs,true,st):=by
  show jG F (aK F (n+1)) _ _ _=_;unfold jG;show ((kH F st.bF t).bind _)=_;rw [hv,aE];generalize ((nE .i64 st.bF.hU 2) != 0)=b;show (((cond b (some (!set)) (some false):Option Bool).bind fun x2=>(cond x2 ((p5 F t).bind fun x4=>some (!x4)) (some false):Option Bool).bind _))=_;rw [hl,ax,aE,aE];have:(cond (cond b (!set) false) (some (!true)) (some false):Option Bool)=some false:=by cases b<;>cases set<;>rfl
  rw [this];show (((aK F (n+1)).2.2.2.2.2.2 (TPart.mk 4 t 0 false []) (cm.mk true true 0) v set st).bind _)=_;rw [h1];rfl
 have h3:(aK F (n+1+1+1)).2.1 (TPart.mk 4 t 0 false []) (cm.mk true true 0) st=some (rs,true,st):=by
  rw [ai9];unfold jw;show (((aK F (n+1+1)).2.2.2.2.2.1 (TPart.mk 4 t 0 false []) (cm.mk true true 0) st).bind _)=_;rw [h2];rfl
 have h4:(aK F (n+1+1+1+1)).1 [TPart.mk 4 t 0 false []] (cm.mk true true 0) st=some (rs,true,st):=by
  show gL F (aK F (n+1+1+1)) _ _ _=_;rw [VM hF h3 hr];rfl
 have h5:(aK F (n+1+1+1+1+1)).2.2.1 (TPart.mk 3 [] 0 false [TPart.mk 4 t 0 false []]) (cm.mk false true 0) st=some (cond (decide (0<(rs.length:Int))) rs (cond (t==[64]) [] [ah.mk [] 1]),true,st):=by
  show kW F (aK F (n+1+1+1+1)) _ _ _=_;unfold kW;show (((aK F (n+1+1+1+1)).1 [TPart.mk 4 t 0 false []] (cm.mk true true 0) st).bind _)=_;rw [h4,aE];show cond (decide (0<(rs.length:Int))) _ _=_;by_cases h0:0<rs.length
  ·rw [ctq om,ctq om]
  ·rw [cf om,cf om]
   have:af (fun z=>z=(cond (t==[64]) [] [ah.mk [] 1],true,st)) (aF (σ:=Int) (R:=(List ah) × Bool × aH) (fun gp x2 =>
     cond (decide (x2<(([TPart.mk 4 t 0 false []]:List TPart).length:Int)))
     (rq ((decide (0≤x2))&&(decide (x2<(([TPart.mk 4 t 0 false []]:List TPart).length:Int)))) ((cond (((([TPart.mk 4 t 0 false []]:List TPart).getD (Int.toNat x2) dn).fKind)==4)
     (some (((([TPart.mk 4 t 0 false []]:List TPart).getD (Int.toNat x2) dn).fText)==([64]:Bs)))
     (some false):Option Bool).bind fun x4 =>
     (cond x4
     (some (((([TPart.mk 4 t 0 false []]:List TPart).getD (Int.toNat x2) dn).fOp)==0))
     (some false):Option Bool).bind fun x5 =>
     cond x5
     (some ([],true,st))
     (gp (ag (x2+1)))))
     ((gH F [] 1).bind fun x6 =>
     some (x6,true,st))) F 0):=by
    refine af.lp (fun i:Int=>i=0∨((t==[64])=false∧i=1)) (fun i=>2 - i.toNat) (.inl rfl) (by show 2 - 0<F;omega) ?_;rintro i (rfl | ⟨hb,rfl⟩) rc hrc
    ·rw [ctq si,bu om si]
     show af _ ((some (t==[64])).bind _);rw [aE]
     cases hb:(t==[64]) with
     | true=>exact af.ok rfl
     | false =>
      have h2:=hrc 1 (.inr ⟨hb,rfl⟩) de;rw [hb] at h2;exact h2
    ·rw [cf si,hb]
     exact af.ok rfl
   obtain⟨z,h,e⟩:=this;subst h;exact e
 have h6:(aK F (n+1+1+1+1+1+1)).2.1 (TPart.mk 3 [] 0 false [TPart.mk 4 t 0 false []]) (cm.mk false true 0) st=some (cond (decide (0<(rs.length:Int))) rs (cond (t==[64]) [] [ah.mk [] 1]),true,st):=by
  rw [ai9];unfold jw;show (((aK F (n+1+1+1+1+1)).2.2.1 (TPart.mk 3 [] 0 false [TPart.mk 4 t 0 false []]) (cm.mk false true 0) st).bind _)=_;rw [h5];rfl
 have h7:=VM (p:=cm.mk false true 0) hF h6 (by
  show (cond (decide (0<(rs.length:Int))) rs (cond (t==[64]) [] [ah.mk [] 1])).length≤1000000
  cases decide (0<(rs.length:Int)) with
  | true=>exact hr
  | false=>cases (t==[64])<;>simp)
 exact h7
theorem aad:∀(l:List Bs),(∀x∈l,x.length≤60)→(bZ (l.map fun p=>[ah.mk p 1])).length≤2 * l.length∧bJ (bZ (l.map fun p=>[ah.mk p 1]))≤60 * l.length∧(l≠[]→0<(bZ (l.map fun p=>[ah.mk p 1])).length)
 | [],h=>⟨by simp [bZ],by simp [bZ,bJ],fun h=>absurd rfl h⟩
 | [a],h=>⟨by simp [bZ],by have:=h a nr;simp [bZ,bJ];omega,fun _=>by simp [bZ]⟩
 | a::b::l,h=>by
  obtain⟨h1,h2,h3⟩:=aad (b::l) fun x hx=>h x (jS _ hx);have:=h a nr;refine⟨?_,?_,fun _=>?_⟩
  ·simp only [eV,bZ,eW,jd,kg] at h1 ⊢;omega
  ·simp only [eV,bZ] at h2 ⊢
   rw [xE];simp [bJ] at h2 ⊢;omega
  ·simp [bZ]
theorem VN {F:Nat} {e:cG} {l:List aL} {w:cD} {fs:List Bs} (hF:100≤F) (hw:gG F w (aH.mk e l [] (-1) false [] [] 0)=some (fs,true,aH.mk e l [] (-1) false [] [] 0)) (hl:fs.length≤512)
  (hc:iK F e=some e):dV F e l [w] []=some (dX.mk fs e false [] [] (-1),0):=by
 have:af (fun z=>z=(dX.mk fs e false [] [] (-1),0)) (dV F e l [w] []):=by
  unfold dV wm;rw [aE];refine af.lp (fun z:List Bs × Int × aH=>z=([],0,aH.mk e l [] (-1) false [] [] 0)∨z=(fs,1,aH.mk e l [] (-1) false [] [] 0)) (fun z=>2 - z.2.1.toNat) (.inl rfl) (by show 2 - 0<F;omega) ?_;rintro z (rfl | rfl) rc hrc
  ·dsimp only at hrc ⊢
   rw [ctq si,bu om si,show ([w].getD (Int.toNat 0) tn)=w from rfl,hw,aE];have h5:ag ((([]:List Bs).length:Int)+(fs.length:Int))=(fs.length:Int):=by rw [cr bx];simp
   show af _ ((((cond true (some (decide (512<ag ((([]:List Bs).length:Int)+(fs.length:Int))))) (some false):Option Bool).bind _):Option (Bool × aH)).bind _);rw [h5,cond_true,dF om];show af _ (rq _ _);exact af.rq (gP (by show 0+fs.length≤_;omega) de) (hrc _ (.inr rfl) (by show 2 - 1<2 - 0;omega))
  ·dsimp only at hrc ⊢
   rw [cf si];unfold gV;rw [cond_true];show af _ (((((iK F e).bind _):Option (dX × Int))).bind _);rw [hc];exact af.ok rfl
 obtain⟨r,h,e⟩:=this;rw [e,h]
theorem agO (F:Nat) (e:cG) (hF:10≤F) (h1:e.bG.length≤1000) (h2:e.aJ.length≤1000) (h3:e.ve=[]) (h4:e.oJ=[]) (h5:e.vf=[]):iK F e=some e:=by
 obtain⟨m,rfl⟩:=S9 hF;unfold iK uB rz rA rB rC;rw [h3,h4,h5,iY om de,iY om de];obtain⟨a1,a2,a3,a4,a5,a6,a7,a8,a9,a10,a11,a12,a13,a14⟩:=e;dsimp only at h3 h4 h5;subst h3 h4 h5;rfl
theorem expandAll (j:qF):∃F,iC F j=some true:=by
 obtain⟨F,hF⟩:∃F,100000000≤F:=⟨_,bM _⟩;refine⟨F,?_⟩;obtain⟨r,hr,e⟩:=aka F j hF;unfold iC;rw [e,aE]
 cases hb:r.2 with
 | false=>rw [ady,cond_true,adf];rfl
 | true =>
  obtain⟨⟨⟨⟨v1,v2⟩,p1,p2,n1⟩,f1,f2,f3,hc,-⟩,-⟩:=hr hb;have hcl:=agO F j.dS om om om f1 f2 f3;obtain⟨s1,s2,s3⟩:=aad j.dS.aJ p2;have hF':F=(F - 7)+7:=om
  have k1:jP F [TPart.mk 3 [] 0 false [TPart.mk 4 [64] 0 false []]] (cm.mk false true 0) (aH.mk j.dS j.fY [] (-1) false [] [] 0)=some (bZ (j.dS.aJ.map fun p=>[ah.mk p 1]),true,aH.mk j.dS j.fY [] (-1) false [] [] 0):=by
   have h:=adg (F:=F) (n:=F - 7) (t:=[64]) (st:=aH.mk j.dS j.fY [] (-1) false [] [] 0) om rfl (ake F j.dS om ⟨p1,p2⟩) (aip F _ _ om p1) (by show (bZ (j.dS.aJ.map fun p=>[ah.mk p 1])).length≤_;omega);rw [←hF'] at h
   have e:cond (decide (0<((bZ (j.dS.aJ.map fun p=>[ah.mk p 1])).length:Int))) (bZ (j.dS.aJ.map fun p=>[ah.mk p 1])) (cond (([64]:Bs)==[64]) [] [ah.mk [] 1])=bZ (j.dS.aJ.map fun p=>[ah.mk p 1]):=by
    by_cases h0:j.dS.aJ=[]
    ·rw [h0];rfl
    ·have:=s3 h0
     rw [dT om];rfl
   rw [←e];exact h
  have w1:=agL F (cD.mk 0 [TPart.mk 3 [] 0 false [TPart.mk 4 [64] 0 false []]]) _ _ (j.dS.aJ.map fun p=>[ah.mk p 1]) hF k1 (by show j.dS.bG.length≤1000;omega) hc (fun g hg=>by
   obtain⟨p,_,rfl⟩:=p8.1 hg;exact⟨si,fun r hr=>by obtain rfl:=iw.1 hr;rfl⟩) om om (by rw [oC];omega) (fun g hg=>by
   obtain⟨p,hp,rfl⟩:=p8.1 hg;have:=p2 p hp;simp;omega)
  have e1:((j.dS.aJ.map fun p=>[ah.mk p 1]).map fun g=>g.flatMap fun r=>r.fText)=j.dS.aJ:=by
   rw [qE]
   conv=>rhs;rw [←NH j.dS.aJ]
   exact XP fun p _=>by simp
  rw [e1] at w1;have W1:=VN om w1 om hcl;obtain⟨g,hg,hv⟩:=akf F j.dS om om ⟨p1,p2⟩;have hjl:=VK j.dS.aJ g 60 hg p2;have hjm:(60+1) * j.dS.aJ.length≤61 * 12:=Nat.mul_le_mul_left 61 p1;have k2:=adg (F:=F) (n:=F - 7) (t:=[42]) (st:=aH.mk j.dS j.fY [] (-1) false [] [] 0) (rs:=[ah.mk (Lib.join j.dS.aJ g) 1]) om rfl hv rfl si;rw [←hF'] at k2
  have w2:=agL F (cD.mk 0 [TPart.mk 3 [] 0 false [TPart.mk 4 [42] 0 false []]]) _ _ [[ah.mk (Lib.join j.dS.aJ g) 1]] hF k2 (by show j.dS.bG.length≤1000;omega) hc (fun g hg=>by
   obtain rfl:=iw.1 hg;exact⟨si,fun r hr=>by obtain rfl:=iw.1 hr;rfl⟩) (by simp [bZ]) (by simp [bZ,bJ];omega) si (fun x hx=>by
   obtain rfl:=iw.1 hx;simp;omega)
  have W2:=VN om w2 si hcl
  have same:∀(F:Nat) (l:List Bs),l.length<F→l.length≤1000→iL F l l=some true:=fun F l hF hl=>by
   have:af (fun b=>b=true) (iL F l l):=by
    unfold iL;rw [show ((l.length:Int) != (l.length:Int))=false from by simp,cond_false];refine af.lp (fun i:Int=>∃k:Nat,i=(k:Int)∧k≤l.length) (fun i=>l.length - i.toNat) ⟨0,rfl,om⟩ (by show l.length - 0<F;omega) ?_;rintro _ ⟨k,rfl,hk⟩ rc hrc;refine af.cd (fun h=>?_) fun _=>af.ok rfl;rw [bu om om,bu om om,show ((l.getD (Int.toNat (k:Int)) [])==(l.getD (Int.toNat (k:Int)) []))=true from by simp,aM om];exact hrc _ ⟨k+1,rfl,om⟩ (by rw [bf,bf];omega)
   obtain⟨b,h,e⟩:=this;rw [e,h]
  simp only [GN];rw [Bv,cond_false];show (((dV F j.dS j.fY [cD.mk 0 [TPart.mk 3 [] 0 false [TPart.mk 4 [64] 0 false []]]] []).bind fun x5=>some (x5.2,x5.1)).bind fun x3=>_)=_;rw [W1,aE,aE];show (((dV F j.dS j.fY [cD.mk 0 [TPart.mk 3 [] 0 false [TPart.mk 4 [42] 0 false []]]] []).bind fun x5=>some (x5.2,x5.1)).bind fun x3=>_)=_;rw [W2,aE,aE];show ((iL F j.dS.aJ j.dS.aJ).bind _).bind _=_;rw [same F _ om om,adf];rfl
end Go.Proofs.YtkeibjejncpgnaaGreatDoor
