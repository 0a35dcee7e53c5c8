import Derived.Test.YtjgkapeknmdedaaGreatDoorZ2
import Derived.Test.YtjgkapeknmdedaaGreatDoorSo
import Derived.Test.YtjgkapeknmdedaaGreatDoorPe
set_option linter.all false
namespace Go.Proofs.YtjgkapeknmdedaaGreatDoor
open Go.RT
set_option maxRecDepth 100000
theorem I2(F:Nat)(c:Int):kg F c=some (decide (48<=c)&&decide (c<=57)):=by
 unfold kg;rw [aK,cF];rfl
theorem akn(F:Nat)(c:Int):qY F c=some ((decide (97<=c)&&decide (c<=122))||(decide (65<=c)&&decide (c<=90))):=by
 unfold qY;simp only [aK,cF,cT,aD]
def anN(c:Int):Bool:=((decide (97<=c)&&decide (c<=122))||(decide (65<=c)&&decide (c<=90)))||(decide (48<=c)&&decide (c<=57))||c==95
theorem XQ(F:Nat)(c:Int):nY F c=some (anN c):=by
 unfold nY;rw [akn];simp only [I2,aK,cF,cT,aD];rfl
theorem ao2(F:Nat)(l:Bs)(c:Int)(hF:l.length<F)(hl:l.length<=1000):∃b,yG F l c=some b:=by
 unfold yG
 have:aA (fun _:Bool=>True) (yG F l c):=by
  unfold yG;refine aA.lp (fun i:Int=>∃n:Nat,i=(n:Int)/\n<=l.length) (fun i=>l.length-i.toNat) ⟨0,rfl,om⟩ (by show l.length-0<F;omega) ?_;rintro _ ⟨n,rfl,hn⟩ rc hrc;refine aA.cd (fun h=>?_) fun _=>aA.ok trivial;refine aA.rq (jM om om) (aA.cb (fun _=>aA.ok trivial) fun _=>?_);rw [bn om];exact hrc _ ⟨n+1,rfl,om⟩ (by rw [bL,bL];omega)
 obtain⟨b,-,h⟩:=this;exact⟨b,h⟩
theorem J4(F:Nat)(c:Int)(hF:10<F):∃b,lM F c=some b:=by
 obtain⟨b,hb⟩:=ao2 F [64,42,35,63,45,36,33] c (by show 7<F;omega) de;unfold lM;rw [I2,aD,hb,aD,aK];exact⟨_,rfl⟩
def EX(s:Bs)(a:Nat)(b:Bool):Prop:=(b=true->a+1<s.length/\s.getD a 0=36)/\(s.getD a 0=36->s.getD (a+1) 0=40->b=true)
theorem ao3{s:Bs}{a:Nat}(h:s.getD a 0=40):a<s.length:=by
 by_cases e:a<s.length
 ·exact e
 ·rw [Ov,Qm om] at h;exact absurd h de
theorem alU(F:Nat)(s:Bs)(a:Nat)(hF:10<F)(hl:s.length<=1000)(ha:a<s.length):aA (EX s a) (qc F s (a:Int)):=by
 unfold qc;rw [bn om];by_cases h:a+1<s.length
 ·rw [cf om,bU om om,aD,bL,Yg _ 36 de]
  refine aA.cb (fun h0=>aA.ok ⟨fun h=>(nomatch h),fun h'=>?_⟩) fun h0=>?_
  ·have h0:(!(s.getD a 0==(36:UInt8)))=true:=h0
   rw [h'] at h0;exact absurd h0 de
  have h0:(!(s.getD a 0==(36:UInt8)))=false:=h0;have h0:s.getD a 0=36:=by simpa using h0
  rw [bU om om,XQ];obtain⟨b,hb⟩:=J4 F ((s.getD (Int.toNat ((a+1:Nat):Int)) 0).toNat:Int) hF;rw [hb];simp only [aK,aD,cT];refine aA.ok ⟨fun _=>⟨h,h0⟩,fun _ h4=>?_⟩;rw [bL,h4];exact XF _
 ·rw [cM om,aD]
  exact aA.ok ⟨fun h=>(nomatch h),fun _ h4=>absurd (ao3 h4) h⟩
theorem adu(F:Nat)(s:Bs)(a:Nat)(hF:s.length<F)(hl:s.length<=1000)(ha:a<=s.length):aA (fun r=>∃e:Nat,r=(e:Int)/\a<=e/\e<=s.length) (sE F s (a:Int)):=by
 unfold sE;refine aA.lp (fun i:Int=>∃n:Nat,i=(n:Int)/\a<=n/\n<=s.length) (fun i=>s.length-i.toNat) ⟨a,rfl,om,ha⟩ (by rw [bL];omega) ?_;rintro _ ⟨n,rfl,h1,h2⟩ rc hrc;by_cases h:n<s.length
 ·rw [cM om,bU om om,XQ,aD,aD]
  refine aA.cb (fun _=>?_) fun _=>aA.ok ⟨n,rfl,h1,h2⟩;rw [bn om];exact hrc _ ⟨n+1,rfl,om,om⟩ (by rw [bL,bL];omega)
 ·rw [cf om,aD]
  exact aA.ok ⟨n,rfl,h1,h2⟩
theorem ahE(F:Nat)(s:Bs)(a:Nat)(hF:s.length<F)(hl:s.length<=1000)(ha:a<=s.length):aA (fun r=>∃e:Nat,r=(e:Int)/\a<=e/\e<=s.length/\(s.getD a 0≠10->a<s.length->a<e)) (xF F s (a:Int)):=by
 unfold xF;refine aA.lp (fun i:Int=>∃n:Nat,i=(n:Int)/\a<=n/\n<=s.length) (fun i=>s.length-i.toNat) ⟨a,rfl,om,ha⟩ (by rw [bL];omega) ?_;rintro _ ⟨n,rfl,h1,h2⟩ rc hrc;by_cases h:n<s.length
 ·rw [cM om,bU om om,aD]
  refine aA.cb (fun _=>?_) fun h0=>aA.ok ⟨n,rfl,h1,h2,fun h3 _=>?_⟩
  ·rw [bn om]
   exact hrc _ ⟨n+1,rfl,om,om⟩ (by rw [bL,bL];omega)
  ·by_cases e:a=n
   ·subst e
    rw [bL,Yg _ 10 de] at h0;exact absurd (by simpa using h0) h3
   ·omega
 ·rw [cf om,aD]
  exact aA.ok ⟨n,rfl,h1,h2,fun _ h4=>om⟩
theorem ab5(F:Nat)(s:Bs)(a:Nat)(hl:s.length<=1000)(ha:a<=s.length):aA (fun b=>b=true->a+1<s.length) (zf F s (a:Int)):=by
 unfold zf;rw [bn om];by_cases h:a+1<s.length
 ·rw [cM om,bU om om,aD,bU om om,aK]
  exact aA.ok fun _=>h
 ·rw [cf om]
  exact aA.ok fun h=>nomatch h
theorem afB(F:Nat)(c:Int):wQ F c=some (c==9||c==32):=by unfold wQ;rw [aK,cT];rfl
theorem alV(F:Nat)(c:Int):∃b,uB F c=some b:=by unfold uB;simp only [aK,cT,aD];exact⟨_,rfl⟩
def PQ(s:Bs)(a k:Nat)(r:Int×Int):Prop:=r.2=0->∃e:Nat,r.1=(e:Int)/\a+k<=e/\e<=s.length
theorem PQ.err{s:Bs}{a k:Nat}{x e:Int}(h:e≠0):PQ s a k (x,e):=fun h'=>absurd h' h
theorem PQ.le{s:Bs}{a k j:Nat}{r:Int×Int}(h:PQ s a k r)(hj:j<=k):PQ s a j r:=fun e=>by
 obtain⟨e,h1,h2,h3⟩:=h e;exact⟨e,h1,om,h3⟩
theorem aA.pair{A B:Type}{x:O (A×B)}{Q:A×B->Prop}(h:aA Q x):aA Q (x.bind fun y=>some (y.1,y.2)):=by
 obtain⟨r,h,rfl⟩:=h;exact⟨_,h,rfl⟩
theorem ako(F:Nat)(s:Bs)(a:Nat)(hF:s.length<F)(hl:s.length<=1000)(ha:a<s.length):aA (PQ s a 2) (zg F s (a:Int)):=by
 unfold zg;rw [bn om];refine aA.lp (fun i:Int=>∃n:Nat,i=(n:Int)/\a+1<=n/\n<=s.length) (fun i=>s.length-i.toNat) ⟨a+1,rfl,om,ha⟩ (by rw [bL];omega) ?_;rintro _ ⟨n,rfl,h1,h2⟩ rc hrc;refine aA.cd (fun h=>?_) fun _=>aA.ok (PQ.err de);rw [bU om om,bn om];exact aA.cb (fun _=>aA.ok fun _=>⟨n+1,rfl,om,om⟩) fun _=>hrc _ ⟨n+1,rfl,om,om⟩ (by rw [bL,bL];omega)
theorem alW(F:Nat)(s:Bs)(a:Nat)(hF:s.length+2<F)(hl:s.length<=1000)(ha:a<s.length):aA (PQ s a 2) (sF F s (a:Int)):=by
 unfold sF;rw [bn om];refine aA.lp (fun i:Int=>∃n:Nat,i=(n:Int)/\a+1<=n/\n<=s.length+1) (fun i=>s.length+1-i.toNat) ⟨a+1,rfl,om,om⟩ (by rw [bL];omega) ?_;rintro _ ⟨n,rfl,h1,h2⟩ rc hrc;refine aA.cd (fun h=>?_) fun _=>aA.ok (PQ.err de);rw [bU om om,bn om];refine aA.cb (fun _=>aA.ok fun _=>⟨n+1,rfl,om,om⟩) fun _=>?_;rw [bU om om,aK,aD];refine aA.cb (fun _=>aA.ok (PQ.err de)) fun hb=>?_;rw [bU om om];refine aA.cb (fun h9=>?_) fun _=>hrc _ ⟨n+1,rfl,om,om⟩ (by rw [bL,bL];omega);rw [bn om];exact hrc _ ⟨n+2,rfl,om,om⟩ (by rw [bL,bL];omega)
def P1(F:Nat)(s:Bs)(n:Nat):Prop:=∀(a:Nat)(p:Int),a<s.length->4*(s.length-a)+4<=n->aA (fun r=>PQ s a 1 r/\(s.getD a 0=39->p=0->PQ s a 2 r)/\(s.getD a 0=96->PQ s a 2 r)/\(s.getD a 0=36->s.getD (a+1) 0=40->PQ s a 3 r)) ((cU F n).1 s (a:Int) p)
def P2(F:Nat)(s:Bs)(n:Nat):Prop:=∀(a:Nat)(p:Int),a+1<s.length->4*(s.length-a)+3<=n->aA (fun r=>PQ s a 1 r/\(s.getD (a+1) 0=40->PQ s a 3 r)) ((cU F n).2.1 s (a:Int) p)
def P3(F:Nat)(s:Bs)(n:Nat):Prop:=∀(a:Nat)(p:Int),a+1<s.length->4*(s.length-a)+2<=n->aA (PQ s a 3) ((cU F n).2.2.1 s (a:Int) p)
def P4(F:Nat)(s:Bs)(n:Nat):Prop:=∀(a:Nat),a+2<s.length->4*(s.length-a)+2<=n->aA (PQ s a 3) ((cU F n).2.2.2.1 s (a:Int))
def P5(F:Nat)(s:Bs)(n:Nat):Prop:=∀(a:Nat),a+1<s.length->4*(s.length-a)+2<=n->aA (PQ s a 3) ((cU F n).2.2.2.2.1 s (a:Int))
def P6(F:Nat)(s:Bs)(n:Nat):Prop:=∀(a:Nat),a<s.length->4*(s.length-a)+2<=n->aA (PQ s a 2) ((cU F n).2.2.2.2.2 s (a:Int))
section
variable {F : Nat} {s : Bs} {n : Nat}
theorem afC(hF:s.length+20<F)(hl:s.length<=1000)(h2:P2 F s n)(h6:P6 F s n):P1 F s (n+1):=by
 intro a p ha hn;show aA _ (Ft F (cU F n) s (a:Int) p);unfold Ft;rw [bU om om,bn om,aK]
 have hb:∀(k:Nat),k<256->∀b:Bool,((((s.getD (Int.toNat (a:Int)) 0).toNat:Int)==(no_index (OfNat.ofNat k:Int)))=b->(s.getD a 0==(OfNat.ofNat k:UInt8))=b):=by
  simp_all [bL,qN]
 refine aA.cb (fun _=>aA.ok ⟨PQ.err de,fun _ _=>PQ.err de,fun _=>PQ.err de,fun _ _=>PQ.err de⟩) fun hx=>?_;refine aA.cb (fun h=>?_) fun g1=>?_
 ·have:=hb 92 de _ h
  have hne:a+1≠s.length:=fun e=>by simp_all
  rw [bI om];have q:PQ s a 2 ((a:Int)+2,0):=fun _=>⟨a+2,rfl,om,om⟩;exact aA.ok ⟨q.le om,fun _ _=>q,fun _=>q,fun h=>by simp_all⟩
 refine aA.cb (fun h=>?_) fun g2=>?_
 ·exact ((alW F s a om hl ha).mono fun r q=>⟨q.le om,fun _ _=>q,fun _=>q,fun h=>by simp_all⟩).pair
 have n96:s.getD a 0≠96:=fun e=>by simp_all
 refine aA.bd (alU F s a om hl ha) fun b hE=>?_;refine aA.cb (fun h=>?_) fun g3=>?_
 ·obtain⟨h1,h3⟩:=hE.1 h
  exact ((h2 a p h1 om).mono fun r q=>⟨q.1,fun h=>by simp_all,fun h=>by simp_all,fun _ h=>q.2 h⟩).pair
 have n40:s.getD a 0=36->s.getD (a+1) 0=40->False:=fun h h'=>by have:=hE.2 h h';simp_all
 simp [aK];refine aA.cb (fun h=>?_) fun g4=>?_
 ·exact ((ako F s a om hl ha).mono fun r q=>⟨q.le om,fun _ _=>q,fun _=>q,fun h h'=>(n40 h h').elim⟩).pair
 refine aA.cb (fun h=>?_) fun g5=>?_
 ·rw [cw] at h
  exact ((h6 a ha om).mono fun r q=>⟨q.le om,fun _ _=>q,fun _=>q,fun h h'=>(n40 h h').elim⟩).pair
 refine aA.ok ⟨fun _=>⟨a+1,rfl,om,om⟩,fun h e=>?_,fun h=>(n96 h).elim,fun h h'=>(n40 h h').elim⟩
 simp_all
theorem ahF(hF:s.length+20<F)(hl:s.length<=1000)(h3:P3 F s n)(h4:P4 F s n)(h5:P5 F s n):P2 F s (n+1):=by
 intro a p ha hn;show aA _ (wG F (cU F n) s (a:Int) p);unfold wG;rw [bn om,bU om om,bI om,show (a:Int)+2=((a+2:Nat):Int) from rfl];refine aA.cb (fun _=>((h3 a p ha om).mono fun r q=>⟨q.le om,fun _=>q⟩).pair) fun _=>?_;rw [aK,aD,cF]
 have main:aA (fun r=>PQ s a 1 r/\(s.getD (a+1) 0=40->PQ s a 3 r)) (cond (((s.getD (Int.toNat ((a+1:Nat):Int)) 0).toNat:Int)==40)
   (((cU F n).2.2.2.2.1 s (a:Int)).bind fun x5=>some (x5.1,x5.2))
   ((lM F ((s.getD (Int.toNat ((a+1:Nat):Int)) 0).toNat:Int)).bind fun x6=>cond x6 (some (((a+2:Nat):Int),0)) ((sE F s ((a+1:Nat):Int)).bind fun x7=>some (x7,0)))):=by
  refine aA.cb (fun _=>((h5 a ha om).mono fun r q=>⟨q.le om,fun _=>q⟩).pair) fun g=>?_;have n40:s.getD (a+1) 0=40->False:=fun h=>by simp_all
  obtain⟨b,hb⟩:=J4 F ((s.getD (Int.toNat ((a+1:Nat):Int)) 0).toNat:Int) om;rw [hb];refine aA.cb (fun _=>aA.ok ⟨fun _=>⟨a+2,rfl,om,om⟩,fun h=>(n40 h).elim⟩) fun _=>?_;refine aA.bd (adu F s (a+1) om hl om) fun r ⟨e,h1,h2,h3⟩=>aA.ok ⟨fun _=>⟨e,h1,om,h3⟩,fun h=>(n40 h).elim⟩
 by_cases h:a+2<s.length
 ·rw [show decide (((a+2:Nat):Int)<(s.length:Int))=true from dT om,Bool.and_true,Bool.and_true,qZ om,aK]
  exact aA.cb (fun _=>((h4 a h om).mono fun r q=>⟨q.le om,fun _=>q⟩).pair) fun _=>main
 grind
theorem step1(h1:P1 F s n){i:Nat}{p:Int}(hi:i<s.length)(hn:4*(s.length-i)+4<=n){R:Type}{Q:R->Prop}{k:Int×Int->O R}(hk:∀r,PQ s i 1 r->aA Q (k r)):aA Q (((cU F n).1 s (i:Int) p).bind k):=
 aA.bd (h1 i p hi hn) fun r q=>hk r q.1
theorem I3{x:Int}{R:Type}{Q:R->Prop}{A B:O R}(a:x≠0->aA Q A)(b:x=0->aA Q B):aA Q (cond (x != 0) A B):=by
 grind
theorem adv(hF:s.length+20<F)(hl:s.length<=1000)(h1:P1 F s n):P3 F s (n+1):=by
 intro a p ha hn;show aA _ (Bf F (cU F n) s (a:Int) p);unfold Bf;rw [bI om];refine aA.lp (fun i=>∃n:Nat,i=(n:Int)/\a+2<=n/\n<=s.length) (fun i=>s.length-i.toNat) ⟨a+2,rfl,om,ha⟩ (by grind) ?_;rintro _ ⟨i,rfl,g1,g2⟩ rc hrc;refine aA.cd (fun h=>?_) fun _=>aA.ok (PQ.err de);rw [bU om om,bn om];refine aA.cb (fun _=>aA.ok fun _=>⟨i+1,rfl,om,om⟩) fun _=>?_;rw [bU om om,aK];refine aA.cb (fun _=>aA.ok (PQ.err de)) fun _=>step1 h1 om om fun r q=>I3 (fun h=>aA.ok (PQ.err h)) fun h=>?_;obtain⟨e,e1,e2,e3⟩:=q h;rw [e1];exact hrc _ ⟨e,rfl,om,e3⟩ (by grind)
theorem ahG(hF:s.length+20<F)(hl:s.length<=1000)(h1:P1 F s n):P6 F s (n+1):=by
 intro a ha hn;show aA _ (Bg F (cU F n) s (a:Int));unfold Bg;rw [bn om];refine aA.lp (fun i=>∃n:Nat,i=(n:Int)/\a+1<=n/\n<=s.length) (fun i=>s.length-i.toNat) ⟨a+1,rfl,om,ha⟩ (by grind) ?_;rintro _ ⟨i,rfl,g1,g2⟩ rc hrc;refine aA.cd (fun h=>?_) fun _=>aA.ok (PQ.err de);rw [bU om om,bn om];refine aA.cb (fun _=>aA.ok fun _=>⟨i+1,rfl,om,om⟩) fun _=>step1 h1 om om fun r q=>I3 (fun h=>aA.ok (PQ.err h)) fun h=>?_;obtain⟨e,e1,e2,e3⟩:=q h;rw [e1];exact hrc _ ⟨e,rfl,om,e3⟩ (by grind)
theorem adw(hF:s.length+20<F)(hl:s.length<=1000)(h1:P1 F s n):P4 F s (n+1):=by
 intro a ha hn;show aA _ (uC F (cU F n) s (a:Int));unfold uC;rw [bI om];refine aA.lp (fun i=>∃n:Nat,i.1=(n:Int)/\a+3<=n/\n<=s.length) (fun i=>s.length-i.1.toNat) ⟨a+3,rfl,om,ha⟩ (by grind) ?_;rintro⟨_,o⟩ ⟨i,rfl,g1,g2⟩ rc hrc;refine aA.cd (fun h=>?_) fun _=>aA.ok (PQ.err de);rw [bU om om,bn om];refine aA.jj (P:=fun x=>∀r,x=.inr r->PQ s a 3 r) ?_ (fun o' _=>?_) fun r h=>h r rfl
 ·have ok:∀o':Int,aA (fun x:Int ⊕ (Int×Int)=>∀r,x=.inr r->PQ s a 3 r) (some (.inl o')):=fun o'=>aA.ok fun r h=>nomatch h
  refine aA.cb (fun _=>ok _) fun _=>?_;rw [aK];refine aA.cb (fun _=>ok _) fun _=>?_;rw [aK];refine aA.cb (fun _=>aA.ok fun r e=>by grind [PQ.err]) fun hx=>?_
  have fin:aA (fun x:Int ⊕ (Int×Int)=>∀r,x=.inr r->PQ s a 3 r) (cond (((s.getD (Int.toNat (i:Int)) 0).toNat:Int)==41) (some (.inr ((i:Int),6))) (some (.inl o))):=
   aA.cb (fun _=>aA.ok fun r e=>by grind [PQ.err]) fun _=>ok _
  cases hc:(((s.getD (Int.toNat (i:Int)) 0).toNat:Int)==41) with
  | false=>rw [hc] at fin;exact fin
  | true=>
   rw [hc] at hx fin
   have hne:i+1≠s.length:=fun e=>by
    simp_all
   rw [bU om om];refine aA.cb (fun _=>aA.ok fun r e=>?_) fun _=>fin;cases e;rw [bI om];exact fun _=>⟨i+2,rfl,om,om⟩
 ·refine step1 h1 om om fun r q=>I3 (fun h=>aA.ok (PQ.err h)) fun h=>?_
  obtain⟨e,e1,e2,e3⟩:=q h;rw [e1];exact hrc _ ⟨e,rfl,om,e3⟩ (by grind)
theorem aA.ret{σ R:Type}{x:O R}{Q:R->Prop}(h:aA Q x):aA (fun z:σ ⊕ R=>∃r,Q r/\z=.inr r) (yj x):=by
 obtain⟨r,h,rfl⟩:=h;exact⟨.inr r,⟨r,h,rfl⟩,rfl⟩
theorem ahH(hF:s.length+20<F)(hl:s.length<=1000)(h1:P1 F s n):P5 F s (n+1):=by
 intro a ha hn;show aA _ (zh F (cU F n) s (a:Int));unfold zh;rw [bI om];refine aA.lp (fun i=>∃n:Nat,i.1=(n:Int)/\a+2<=n/\n<=s.length) (fun i=>s.length-i.1.toNat) ⟨a+2,rfl,om,ha⟩ (by grind) ?_;rintro⟨_,o,bg⟩ ⟨i,rfl,g1,g2⟩ rc hrc
 have Ig:∀(e:Nat) o' b',i<e->e<=s.length->aA (PQ s a 3) (rc ((e:Int),o',b')):=fun e o' b' h1 h2=>
  hrc _ ⟨e,rfl,om,h2⟩ (by grind)
 refine aA.cd (fun h=>?_) fun _=>aA.ok (PQ.err de);have h:i<s.length:=om;rw [bU om om,bn om];refine aA.jj (P:=fun x=>(∀z,x=.inl z->z.1=(i:Int))/\∀r,x=.inr r->PQ s a 3 r) ?_ (fun z hz=>?_) fun r h=>h.2 r rfl
 ·have ok:∀o':Int,aA (fun x:(Int×Int) ⊕ (Int×Int)=>(∀z,x=.inl z->z.1=(i:Int))/\∀r,x=.inr r->PQ s a 3 r) (some (.inl ((i:Int),o'))):=fun o'=>aA.ok ⟨fun z e=>by cases e;rfl,fun r h=>nomatch h⟩
  have rt:∀ {x:Option (Int×Int)},aA (PQ s a 3) x->aA (fun x:(Int×Int) ⊕ (Int×Int)=>(∀z,x=.inl z->z.1=(i:Int))/\∀r,x=.inr r->PQ s a 3 r) (yj x):=fun h=>h.ret.mono fun z ⟨r,q,e⟩=>by
   simp_all
  rw [aK];refine aA.cb (fun hc=>?_) fun _=>?_
  ·have h35:s.getD i 0=35:=by
    simp_all [cF,cw,bL,qN]
   grind [aA.bd,ahE]
  refine aA.bd (ab5 F s i hl om) fun b hb=>aA.cb (fun hb'=>rt ?_) fun _=>?_
  ·grind [bI]
  rw [aK];refine aA.cb (fun _=>aA.ok ⟨fun z e=>(nomatch e),fun r e=>?_⟩) fun _=>aA.cb (fun _=>ok _) fun _=>aA.cb (fun _=>ok _) fun _=>ok _;cases e;exact fun _=>⟨i+1,rfl,om,om⟩
 ·obtain⟨ob,Lg⟩:=alV F ((s.getD (Int.toNat (i:Int)) 0).toNat:Int)
  rw [afB,Lg];simp [aK];obtain⟨z1,z2⟩:=z;obtain rfl:z1=(i:Int):=hz.1 _ rfl;refine step1 h1 h om fun r q=>I3 (fun h=>aA.ok (PQ.err h)) fun h=>?_;obtain⟨e,e1,e2,e3⟩:=q h
  grind
theorem ab6(hF:s.length+20<F)(hl:s.length<=1000):∀n,P1 F s n/\P2 F s n/\P3 F s n/\P4 F s n/\P5 F s n/\P6 F s n
 | 0=>⟨fun _ _ _ h=>om,fun _ _ _ h=>om,fun _ _ _ h=>om,fun _ _ h=>om,fun _ _ h=>om,fun _ _ h=>om⟩
 | n+1=>by
  obtain⟨h1,h2,h3,h4,h5,h6⟩:=ab6 hF hl n;exact⟨afC hF hl h2 h6,ahF hF hl h3 h4 h5,adv hF hl h1,adw hF hl h1,ahH hF hl h1,ahG hF hl h1⟩
end
theorem J5(F:Nat)(s:Bs)(a:Nat)(p:Int)(hF:4*s.length+20<F)(hl:s.length<=1000)(ha:a<s.length):
  aA (fun r=>PQ s a 1 r/\(s.getD a 0=39->p=0->PQ s a 2 r)/\(s.getD a 0=96->PQ s a 2 r)/\(s.getD a 0=36->s.getD (a+1) 0=40->PQ s a 3 r)) (zi F s (a:Int) p):=
 (ab6 om hl F).1 a p ha om
mutual
def wP:TPart->Nat
 | .mk _ t _ _ ps=>1+t.length+gq ps
def gq:J TPart->Nat
 | []=>0
 | p::l=>wP p+gq l
end
theorem yH:∀(l m:J TPart),gq (l++m)=gq l+gq m
 | [],m=>by simp [gq]
 | p::l,m=>by simp [gq,yH l m];omega
theorem I4(p:TPart):1+p.fText.length+gq p.fParts=wP p:=by cases p;rfl
theorem I5:∀(l:J TPart),l.length<=gq l
 | []=>by simp
 | p::l=>by have:=I5 l;have:=I4 p;simp [gq];omega
theorem J6(l:J TPart)(k:Nat):gq (l.take k)+gq (l.drop k)=gq l:=by rw [<-yH,Ow]
theorem RN{l:J TPart}{k:Nat}(h:k<l.length):gq (l.take (k+1))=gq (l.take k)+wP (l.getD k kO):=by
 rw [pR h,yH,gd h];simp only [gq];omega
theorem ab7{l:J TPart}{k:Nat}(h:k<l.length):wP (l.getD k kO)<=gq l:=by
 have h1:=RN h;have h2:=J6 l (k+1);omega
theorem adx(F:Nat)(p:TPart)(e:Int):gA F p e=some (dV.mk [p] e 0):=by cases p;rfl
theorem sG(s:Bs)(i j:Nat):(sl s (i:Int) (j:Int)).length<=j-i:=by
 grind [sl,List.length_drop,List.length_take,Int.toNat_natCast]
theorem ady(F:Nat)(p:Int):ny F p=some (p==0||p==1):=by unfold ny;rw [aK];rfl
theorem ao4(F:Nat)(c p:Int):∃b,xG F c p=some b:=by
 unfold xG;simp_all [aK,cT,aD]
theorem anO(F:Nat)(s:Bs)(a:Nat)(p o:Int)(ha:a<s.length):∃b,Ea F s (a:Int) p o=some b:=by
 unfold Ea;rw [bU om om,bU om om,bU om om]
 simp_all [aK,cT,aD]
theorem Uh(F:Nat)(s:Bs)(a:Nat)(hl:s.length<=1000)(ha:a<=s.length):aA (fun b=>b=true->a+1<s.length) (uD F s (a:Int)):=ab5 F s a hl ha
theorem alX(F:Nat)(s:Bs)(a:Nat)(p:Int)(hF:s.length<F)(hl:s.length<=1000)(ha:a<s.length):∃b,wR F s (a:Int) p=some b:=by
 have:aA (fun _=>True) (wR F s (a:Int) p):=by
  unfold wR;rw [ady,bn om,bU om om];simp [aK];refine aA.cb (fun _=>aA.ok trivial) fun _=>?_;refine aA.lp (fun i=>∃n:Nat,i=(n:Int)/\a+1<=n/\n<=s.length) (fun i=>s.length-i.toNat) ⟨a+1,rfl,om,ha⟩ (by grind) ?_;rintro _ ⟨n,rfl,h1,h2⟩ rc hrc;refine aA.bd (Uh F s n hl h2) fun b hb=>aA.cb (fun h=>?_) fun _=>?_
  ·have:=hb h
   rw [bI om];exact hrc _ ⟨n+2,rfl,om,om⟩ (by grind)
  ·by_cases h:n<s.length
   ·rw [bU om om,bU om om]
    simp_all [aK,aD,aA.ok,trivial]
   simp_all [cM,aA.ok,trivial]
 obtain⟨b,-,h⟩:=this;exact⟨b,h⟩
def RQ(s:Bs)(a:Nat)(r:dV):Prop:=r.fE=0->∃e:Nat,r.RO=(e:Int)/\a+1<=e/\e<=s.length/\r.fParts.length<=1/\gq r.fParts<=2*(e-a)
theorem RQ.err{s:Bs}{a:Nat}{l:J TPart}{x e:Int}(h:e≠0):RQ s a ⟨l,x,e⟩:=fun h'=>absurd h' h
theorem RQ.one{s:Bs}{a e:Nat}{p:TPart}(h1:a+1<=e)(h2:e<=s.length)(h3:wP p<=2*(e-a)):RQ s a ⟨[p],(e:Int),0⟩:=fun _=>⟨e,rfl,h1,h2,si,by simp [gq];omega⟩
theorem wT(k:Int)(t:Bs)(o:Int)(c:Bool):wP (.mk k t o c [])=1+t.length:=by simp [wP,gq]
theorem wN(k:Int)(t:Bs)(o:Int)(c:Bool)(l:J TPart):wP (.mk k t o c l)=1+t.length+gq l:=rfl
theorem aA.so{A:Type}{x:O A}{Q:A->Prop}(h:aA Q x):aA Q (x.bind fun y=>some y):=by rw [anP];exact h
theorem akp(F:Nat)(s:Bs)(a:Nat)(p:Int)(hl:s.length<=1000)(ha:a<s.length):aA (RQ s a) (ud F s (a:Int) p):=by
 unfold ud;rw [bn om,bI om,show (a:Int)+2=((a+2:Nat):Int) from rfl]
 have one:∀ {k o:Int}{c:Bool}{t:Bs}{e:Nat},a+1<=e->e<=s.length->1+t.length<=2*(e-a)->aA (RQ s a) ((gA F (.mk k t o c []) (e:Int)).bind fun x=>some x):=fun h1 h2 h3=>by
  simp_all [adx,aA.ok,RQ.one,wT]
 by_cases h:a+1=s.length
 ·rw [show (((a+1:Nat):Int)==(s.length:Int))=true from by rw [h];simp,bf]
  exact aA.cb (fun _=>one om om (by show 1+1<=_;omega)) fun _=>aA.ok (RQ.err de)
 ·rw [show (((a+1:Nat):Int)==(s.length:Int))=false from by simp;omega,aO,bU om om]
  have h1:=sG s (a+1) (a+2);have h2:=sG s a (a+2);refine aA.cb (fun _=>aA.ok fun _=>⟨a+2,rfl,om,om,si,by simp [gq]⟩) fun _=>?_;rw [ady];refine aA.cb (fun _=>aA.rq (I6 om om om) (one om om om)) fun _=>?_;obtain⟨b,hb⟩:=ao4 F ((s.getD (Int.toNat ((a+1:Nat):Int)) 0).toNat:Int) p;rw [hb];refine aA.cb (fun _=>aA.rq (I6 om om om) (one om om om)) fun _=>?_;simp only [aK];refine aA.cb (fun _=>aA.ok (RQ.err de)) fun _=>?_;rw [Cw om om om];exact one om om om
theorem ab8(F:Nat)(t:Bs)(hF:4*t.length+40<F)(hl:t.length<=900):∃b,q8 F t=some b:=by
 have:aA (fun _=>True) (q8 F t):=by
  unfold q8;have hL:(([36,40]:Bs)++t++([41]:Bs)).length=t.length+3:=by simp
  rw [qZ (by grind),qZ (by grind)];have hp:=J5 F ((([36,40]:Bs)++t)++([41]:Bs)) 0 0 om om om;refine aA.bd hp fun r _=>?_;by_cases h:t=[]
  ·simp_all [aK,aD,bf,aA.ok,trivial]
  ·have:=y6.2 h
   rw [qZ om]
   simp_all [aK,aD,aA.ok,trivial]
 obtain⟨b,-,h⟩:=this;exact⟨b,h⟩
theorem alY(F:Nat)(s:Bs)(a:Nat)(hF:4*s.length+100<F)(hl:s.length<=800)(ha:a<s.length)(h96:s.getD a 0=96):aA (RQ s a) (sH F s (a:Int)):=by
 unfold sH;refine aA.bd (J5 F s a 0 om om ha) fun r q=>I3 (fun h=>aA.ok (RQ.err h)) fun h=>?_;obtain⟨e,e1,e2,e3⟩:=q.2.2.1 h96 h;rw [e1,uE om om,bn om];refine aA.lp (fun z:Bs×Int=>∃n:Nat,z.2=(n:Int)/\a+1<=n/\n<=e/\z.1.length<=e-a-2/\z.1.length+a+1<=n) (fun z=>e-z.2.toNat) ⟨a+1,rfl,om,om,si,si⟩ (by grind) ?_
 ·rintro⟨t,_⟩ ⟨n,rfl,g1,g2,g3,g4⟩ rc hrc
  dsimp only at g3 g4 hrc⊢
  have ok:∀b:Bool,∃m:Nat,cond b (((n+1:Nat):Int)) (n:Int)=(m:Int)/\n<=m/\m<=n+1:=fun b=>by
   cases b
   ·grind
   grind
  refine aA.cd (fun h=>?_) fun h=>?_
  ·rw [bU om om,bn om,bU om om,bU om om,bU om om]
   simp only [aK,aD];generalize hb:(cond (((s.getD (Int.toNat (n:Int)) 0).toNat:Int)==92) _ false:Bool)=b;obtain⟨m,hm,VI,hm2⟩:=ok b;rw [hm,bn om];have hs:=sG s m (m+1);refine aA.rq (I6 om om om) (aA.rq (dN om) (hrc _ ⟨m+1,rfl,om,om,?_,?_⟩ ?_))
   ·grind
   ·grind
   grind
  ·refine aA.bd (P:=fun u:Bs=>u.length<=e-a-1) ?_ fun u hu=>?_
   ·refine aA.bd (P:=fun _=>True) ?_ fun b _=>aA.cb (fun _=>aA.rq (decide_eq_true (by grind)) (aA.ok (by grind))) fun _=>aA.ok om
    by_cases ht:t=[]
    ·simp_all [aA.ok,trivial]
    ·have:0<t.length:=y6.2 ht
     rw [qZ om,aK];exact aA.ok trivial
   refine aA.bd (P:=fun u:Bs=>u.length<=e-a) ?_ fun v hv=>?_
   ·obtain⟨b,hb⟩:=ab8 F u om om
    rw [hb,aD];exact aA.cb (fun _=>aA.rq (decide_eq_true (by grind)) (aA.ok (by grind))) fun _=>aA.ok om
   obtain⟨b,hb⟩:=ab8 F v om om;rw [hb,aD];refine aA.cb (fun _=>aA.ok (RQ.err de)) fun _=>?_
   grind [adx,aA.ok,RQ.one,wT]
theorem Ui(F:Nat)(s:Bs)(hF:s.length<F)(hl:s.length<=1000):∃r,lq F s=some r:=by
 have:aA (fun _=>True) (lq F s):=by
  unfold lq;by_cases h:s=[]
  ·simp_all [aA.ok,trivial]
  have:=y6.2 h;rw [qZ om];simp only [aK];refine aA.cb (fun _=>aA.ok trivial) fun _=>?_;refine aA.lp (fun i=>∃n:Nat,i.2=(n:Int)/\n<=s.length) (fun i=>s.length-i.2.toNat) ⟨0,rfl,om⟩ (by simp_all) ?_;rintro⟨v,_⟩ ⟨n,rfl,hn⟩ rc hrc;refine aA.cd (fun h=>?_) fun _=>aA.ok trivial;rw [bU om om,I2,bn om];refine aA.cb (fun _=>aA.ok trivial) fun _=>aA.rq (jM om om) (hrc _ ⟨n+1,rfl,om⟩ (by grind))
 obtain⟨b,-,h⟩:=this;exact⟨b,h⟩
theorem Yh(F:Nat)(s:Bs)(a:Nat)(hF:s.length+20<F)(hl:s.length<=1000)(ha:a<=s.length):aA (fun r=>∃e:Nat,r=(e:Int)/\a<=e/\e<=s.length) (mW F s (a:Int)):=by
 unfold mW;by_cases h:a<s.length
 ·rw [cf om,bU om om,I2,bU om om,XQ,bU om om,bn om]
  refine aA.cb (fun _=>?_) fun _=>aA.cb (fun _=>(adu F s a om hl ha).so) fun _=>?_
  ·refine aA.lp (fun i=>∃n:Nat,i=(n:Int)/\a+1<=n/\n<=s.length) (fun i=>s.length-i.toNat) ⟨a+1,rfl,om,h⟩ (by grind) ?_
   rintro _ ⟨n,rfl,h1,h2⟩ rc hrc;by_cases hn:n<s.length
   ·rw [cM om,bU om om,I2,bn om]
    refine aA.cb (fun _=>aA.rq (I6 om om om) ?_) fun _=>aA.ok ⟨n,rfl,om,h2⟩;have hs:=sG s a (n+1);obtain⟨r,hr⟩:=Ui F (sl s (a:Int) ((n+1:Nat):Int)) om om;rw [hr];exact aA.cb (fun _=>aA.ok ⟨n,rfl,om,h2⟩) fun _=>hrc _ ⟨n+1,rfl,om,om⟩ (by grind)
   ·grind [aA.ok]
  ·obtain⟨b,hb⟩:=J4 F ((s.getD (Int.toNat (a:Int)) 0).toNat:Int) om
   rw [hb];exact aA.cb (fun _=>aA.ok ⟨a+1,rfl,om,om⟩) fun _=>aA.ok ⟨a,rfl,om,om⟩
 ·grind [aA.ok]
theorem op8(F:Nat)(s:Bs)(a:Nat)(hl:s.length<=1000)(ha:a<s.length):aA (fun r=>r.1≠0->∃n:Nat,r.2.2=(n:Int)/\1<=n/\a+n<=s.length) (vz F s (a:Int)):=by
 unfold vz;rw [bU om om];have z:aA (fun r:Int×Bool×Int=>r.1≠0->∃n:Nat,r.2.2=(n:Int)/\1<=n/\a+n<=s.length) (some (0,false,0)):=aA.ok fun h=>absurd rfl h;have ok:∀(o:Int)(b:Bool)(n:Nat),1<=n->a+n<=s.length->aA (fun r=>r.1≠0->∃n:Nat,r.2.2=(n:Int)/\1<=n/\a+n<=s.length) (some (o,b,(n:Int))):=fun o b n h1 h2=>aA.ok fun _=>⟨n,rfl,h1,h2⟩
 cases hc:(((s.getD (Int.toNat (a:Int)) 0).toNat:Int)==58) with
 | true=>
  rw [bf,bn om];refine aA.cd (fun _=>z) fun h=>?_;rw [show aB (aB (((a+1:Nat):Int)-(a:Int))+1)=((2:Nat):Int) from by grind [bI]]
  exact aA.rq (jM om om) (aA.cb (fun _=>ok _ _ 2 om om) fun _=>aA.rq (jM om om) (aA.cb (fun _=>ok _ _ 2 om om) fun _=>aA.rq (jM om om) (aA.cb (fun _=>ok _ _ 2 om om) fun _=>aA.rq (jM om om) (aA.cb (fun _=>ok _ _ 2 om om) fun _=>z))))
 | false=>
  rw [aO,aD];rw [cf om,show aB (aB ((a:Int)-(a:Int))+1)=((1:Nat):Int) from by simp_all [bI],bn om];refine aA.rq (jM om om) (aA.cb (fun _=>ok _ _ 1 om om) fun _=>aA.rq (jM om om) (aA.cb (fun _=>ok _ _ 1 om om) fun _=>aA.rq (jM om om) (aA.cb (fun _=>ok _ _ 1 om om) fun _=>aA.rq (jM om om) (aA.cb (fun _=>ok _ _ 1 om om) fun _=>?_))))
  have two:∀(k:Int){A B:O (Int×Bool×Int)},(a+1<s.length->aA (fun r=>r.1≠0->∃n:Nat,r.2.2=(n:Int)/\1<=n/\a+n<=s.length) A)->aA (fun r=>r.1≠0->∃n:Nat,r.2.2=(n:Int)/\1<=n/\a+n<=s.length) B ->
    aA (fun r=>r.1≠0->∃n:Nat,r.2.2=(n:Int)/\1<=n/\a+n<=s.length) ((rq ((decide (0<=(a:Int)))&&(decide ((a:Int)<(s.length:Int)))) (cond (((s.getD (Int.toNat (a:Int)) 0).toNat:Int)==k) (some (decide (((a+1:Nat):Int)<(s.length:Int)))) (some false)):O Bool).bind fun x2=>
     (cond x2 (rq ((decide (0<=((a+1:Nat):Int)))&&(decide (((a+1:Nat):Int)<(s.length:Int)))) (some (((s.getD (Int.toNat ((a+1:Nat):Int)) 0).toNat:Int)==k))) (some false):O Bool).bind fun x3=>cond x3 A B):=by
   intro k A B hA hB;rw [bU om om,aK,aD];by_cases h:a+1<s.length
   ·rw [bU om om]
    grind
   grind
  refine two 37 (fun h=>ok _ _ 2 om om) (aA.rq (jM om om) (aA.cb (fun _=>ok _ _ 1 om om) fun _=>two 35 (fun h=>ok _ _ 2 om om) (aA.rq (jM om om) (aA.cb (fun _=>ok _ _ 1 om om) fun _=>z))))
theorem akq(F:Nat)(p:Int):∃q,(q=1\/q=3\/q=6)/\zj F p=some q:=by
 unfold zj
 grind
theorem akr(F:Nat)(p:Int):∃q,zk F p=some q:=by
 unfold zk
 simp_all [aK,aD]
theorem anQ(F:Nat)(l:J TPart)(t:Bs)(hl:gq l<=10000)(ht:t.length<=10000):aA (fun r=>gq r<=gq l+1+t.length) (Eb F l t):=by
 have h1:=I5 l;unfold Eb;by_cases h:0<l.length
 ·rw [cM om,uE om h,bU om om,aD]
  refine aA.cb (fun _=>?_) fun _=>aA.rq (nD (by grind) de) (aA.ok (by rw [yH];simp [gq,wT];omega));have e1:sl l 0 ((l.length-1:Nat):Int)=l.take (l.length-1):=by simp [sl]
  have hw:=RN (l:=l) (k:=l.length-1) om;have hp:=I4 (l.getD (l.length-1) kO);have h4:(l.take (l.length-1+1))=l:=H9 om;rw [h4] at hw;simp only [e1,bL];have hL':(([]:J TPart).length+(l.take (l.length-1)).length)=l.length-1:=by simp
  refine aA.rq (jM om om) (aA.rq (nD (by rw [hL'];omega) de) (aA.rq (jM om om) ?_));refine aA.rq (decide_eq_true om) (aA.rq (nD (by grind) de) (aA.ok ?_));rw [yH,pS];simp only [gq,wT,yb];omega
 ·rw [cf om,aD,aO]
  exact aA.rq (nD (by simp_all) de) (aA.ok (by rw [yH];simp [gq,wT];omega))
def PL(p:Int):Prop:=p=1\/p=2\/p=3\/p=6
def RP(s:Bs)(a:Nat)(p:Int)(r:dV):Prop:=r.fE=0->∃e:Nat,r.RO=(e:Int)/\a<=e/\e<=s.length/\gq r.fParts<=2*(e-a)/\(PL p->e<s.length)/\(p=4->e+1<s.length)
theorem RP.err{s:Bs}{a:Nat}{p:Int}{l:J TPart}{x e:Int}(h:e≠0):RP s a p ⟨l,x,e⟩:=fun h'=>absurd h' h
def Q1(F:Nat)(s:Bs)(n:Nat):Prop:=∀(a:Nat)(p lv fr:Int),a<=s.length->6*(s.length-a)+6<=n->aA (RP s a p) ((cQ F n).1 s (a:Int) p lv fr)
def Q2(F:Nat)(s:Bs)(n:Nat):Prop:=∀(a:Nat)(p lv:Int),a<s.length->6*(s.length-a)+5<=n->aA (RQ s a) ((cQ F n).2.1 s (a:Int) p lv)
def Q3(F:Nat)(s:Bs)(n:Nat):Prop:=∀(a:Nat)(p lv:Int),a<s.length->s.getD a 0=36->6*(s.length-a)+4<=n->aA (RQ s a) ((cQ F n).2.2.1 s (a:Int) p lv)
def Q4(F:Nat)(s:Bs)(n:Nat):Prop:=∀(a:Nat)(p lv:Int),a+1<s.length->s.getD a 0=36->6*(s.length-a)+3<=n->aA (RQ s a) ((cQ F n).2.2.2.1 s (a:Int) p lv)
def Q5(F:Nat)(s:Bs)(n:Nat):Prop:=∀(a:Nat)(p lv:Int),a+1<s.length->6*(s.length-a)+2<=n->aA (RQ s a) ((cQ F n).2.2.2.2.1 s (a:Int) p lv)
def Q6(F:Nat)(s:Bs)(n:Nat):Prop:=∀(a:Nat)(lv:Int),a<s.length->6*(s.length-a)+2<=n->aA (RQ s a) ((cQ F n).2.2.2.2.2 s (a:Int) lv)
section
variable {F : Nat} {s : Bs} {n : Nat}
theorem sI{a:Nat}{x e:Int}(h:e≠0):aA (RQ s a) ((dH F x e).bind fun y=>some y):=aA.ok (RQ.err h)
theorem Ih{a e:Nat}{p:TPart}(h1:a+1<=e)(h2:e<=s.length)(h3:wP p<=2*(e-a)):aA (RQ s a) ((gA F p (e:Int)).bind fun y=>some y):=by
 simp_all [adx,aA.ok,RQ.one]
theorem adz(hF:4*s.length+2000<F)(hl:s.length<=800)(h2:Q2 F s n):Q1 F s (n+1):=by
 intro a p lv fr ha hn;show aA _ (Lh F (cQ F n) s (a:Int) p lv fr);refine aA.lp (fun z:Int×J TPart×Int=>∃m:Nat,z.1=(m:Int)/\a<=m/\m<=s.length/\gq z.2.1<=2*(m-a)) (fun z=>s.length-z.1.toNat) ⟨a,rfl,om,ha,by simp [gq]⟩ (by grind) ?_;rintro⟨_,l,op⟩ ⟨m,rfl,g1,g2,g3⟩ rc hrc;dsimp only at g3 hrc⊢;refine aA.cd (fun h=>?_) fun h=>?_
 ·have h:m<s.length:=om
  obtain⟨b,hb⟩:=anO F s m p op h;rw [hb,aD,bn om,aK,aD];refine aA.cb (fun _=>?_) fun _=>?_
  ·refine aA.cb (fun _=>aA.ok (RP.err de)) fun h4=>?_
   have hp4:p=4->m+1<s.length:=fun e=>by
    grind
   refine aA.bd (P:=fun _=>True) ?_ fun b _=>aA.cb (fun _=>aA.ok (RP.err de)) fun _=>aA.ok fun _=>⟨m,rfl,g1,g2,g3,fun _=>h,hp4⟩
   cases e4:(p==4) with
   | false=>exact aA.ok trivial
   | true=>have:=hp4 (by simpa using e4);exact aA.rq (jM om om) (aA.ok trivial)
  ·obtain⟨tb,htb⟩:=alX F s m p om om h
   rw [htb];simp only [aD,aK];refine aA.cb (fun _=>aA.rq (nD (by simp_all) de) (hrc _ ⟨m+1,rfl,om,om,?_⟩ ?_)) fun _=>?_
   ·rw [yH];simp only [gq,wT,JY];omega
   ·grind
   rw [bU om om,bU om om];simp only [aD,aK];refine aA.bd (h2 m p lv h om) fun r q=>I3 (fun h=>aA.ok fun e=>absurd e h) fun h0=>?_;obtain⟨e,e1,e2,e3,e4,e5⟩:=q h0;refine aA.lp (fun z:J TPart×Int=>∃k:Nat,z.2=(k:Int)/\k<=r.fParts.length/\gq z.1<=gq l+gq (r.fParts.take k)) (fun z=>r.fParts.length-z.2.toNat) ⟨0,rfl,om,si⟩ (by grind) ?_;rintro⟨l',_⟩ ⟨k,rfl,k1,k2⟩ rc' Ig;dsimp only at k2 Ig⊢;have hwt:=J6 r.fParts k;have hlen':=I5 l';refine aA.cd (fun h=>?_) fun h=>?_
   ·have hk:k<r.fParts.length:=om
    have hwk:=RN hk;have hp:=I4 (r.fParts.getD k kO);have hm:=ab7 hk;rw [bU om om,bn om,bU om om,bU om om];simp only [bL];refine aA.cb (fun _=>aA.bd (anQ F l' _ om om) fun u hu=>Ig _ ⟨k+1,rfl,hk,by dsimp only;omega⟩ ?_) fun _=>aA.rq (nD (by grind) de) (Ig _ ⟨k+1,rfl,hk,?_⟩ ?_)
    ·grind
    ·rw [yH];simp only [gq];omega
    grind
   ·rw [e1]
    exact hrc _ ⟨e,rfl,om,e3,by dsimp only;omega⟩ (by grind)
 ·rw [aK,aD]
  refine aA.cb (fun hp=>aA.ok fun _=>⟨m,rfl,g1,g2,g3,fun h=>?_,fun h=>?_⟩) fun _=>aA.ok (RP.err de)
  ·exfalso;rcases h with rfl|rfl|rfl|rfl<;>exact absurd hp de
  simp_all
theorem afD(hF:4*s.length+2000<F)(hl:s.length<=800)(h3:Q3 F s n)(h6:Q6 F s n):Q2 F s (n+1):=by
 intro a p lv ha hn;show aA _ (Fu F (cQ F n) s (a:Int) p lv);unfold Fu;rw [bU om om];refine aA.cb (fun _=>(akp F s a p om ha).so) fun _=>aA.cb (fun h=>(alY F s a om hl ha ?_).so) fun _=>aA.cb (fun h=>(h3 a p lv ha ?_ om).so) fun _=>?_
 ·simp_all [bL,qN]
 ·simp_all [bL,qN]
 obtain⟨ob,Lg⟩:=alV F ((s.getD (Int.toNat (a:Int)) 0).toNat:Int);rw [ady,afB,Lg];simp only [aD,aK];refine aA.cb (fun _=>(h6 a lv ha om).so) fun _=>aA.cb (fun _=>sI de) fun _=>aA.cb (fun _=>sI de) fun _=>?_;rw [bn om];have hs:=sG s a (a+1);exact aA.rq (I6 om om om) (Ih om om (by rw [wT];omega))
theorem aaZ(hF:4*s.length+2000<F)(hl:s.length<=800)(h4:Q4 F s n):Q3 F s (n+1):=by
 intro a p lv ha Yi hn;show aA _ (I7 F (cQ F n) s (a:Int) p lv);refine aA.bd (alU F s a om om ha) fun b hb=>aA.cb (fun h=>(h4 a p lv (hb.1 h).1 Yi om).so) fun _=>?_;rw [ady,bn om];refine aA.bd (P:=fun _=>True) ?_ fun _ _=>aA.cb (fun _=>sI de) fun _=>Ih om om (by show 1+1<=_;omega);refine aA.cb (fun _=>?_) fun _=>aA.ok trivial;have hj:=(Uh F s (a+1) om om).tr;exact aA.cd (fun h=>aA.rq (jM om om) (aA.cb (fun _=>aA.ok trivial) fun _=>hj.so)) fun _=>hj.so
theorem adA(hF:4*s.length+2000<F)(hl:s.length<=800)(h1:Q1 F s n)(h5:Q5 F s n):Q4 F s (n+1):=by
 intro a p lv ha Yi hn;show aA _ (wH F (cQ F n) s (a:Int) p lv);unfold wH;rw [bn om,bU om om,bI om,show (a:Int)+2=((a+2:Nat):Int) from rfl];refine aA.cb (fun _=>(h5 a p lv ha om).so) fun _=>?_;rw [aK,aD];refine aA.bd (P:=fun b=>b=true->a+2<s.length) ?_ fun b hb=>aA.cb (fun h=>?_) fun _=>?_
 ·refine aA.cb (fun h=>?_) fun _=>aA.ok fun h=>nomatch h
  rw [cF] at h
  grind [aA.rq,jM,aA.ok]
 ·have h2:=hb h
  refine aA.cd (fun _=>sI de) fun _=>?_;rw [bI om];refine aA.bd (h1 (a+3) 4 _ _ om om) fun r q=>I3 (fun h=>aA.ok fun e=>absurd e h) fun h0=>?_;obtain⟨e,e1,e2,e3,e4,-,e6⟩:=q h0;rw [e1,bI om,show (e:Int)+2=((e+2:Nat):Int) from rfl];exact Ih om om (by grind [wN,List.length_nil])
 ·refine aA.cb (fun h40=>?_) fun _=>?_
  ·have h40:s.getD (a+1) 0=40:=by simp_all [bL,qN]
   obtain⟨q,hq⟩:=akr F p;rw [hq,aD];refine aA.bd (J5 F s a q om om om) fun r hr=>I3 (fun h=>aA.ok (RQ.err h)) fun h0=>?_;obtain⟨e,e1,e2,e3⟩:=hr.2.2.2 Yi h40 h0;rw [e1,uE om om];have hs:=sG s (a+2) (e-1)
   grind [aA.rq,I6,Ih,wT]
  ·obtain⟨b,hb⟩:=J4 F ((s.getD (Int.toNat ((a+1:Nat):Int)) 0).toNat:Int) om
   rw [hb];have hs:=sG s (a+1) (a+2);refine aA.cb (fun _=>aA.rq (I6 om om om) (Ih om om (by rw [wT];omega))) fun _=>?_;refine aA.bd (adu F s (a+1) om om om) fun r ⟨e,e1,e2,e3⟩=>?_;rw [e1];have hs:=sG s (a+1) e;exact aA.cd (fun _=>sI de) fun _=>aA.rq (I6 om om om) (Ih om om (by rw [wT];omega))
theorem aa0(hF:4*s.length+2000<F)(hl:s.length<=800)(h1:Q1 F s n):Q6 F s (n+1):=by
 intro a lv ha hn;show aA _ (Bh F (cQ F n) s (a:Int) lv);unfold Bh;rw [bU om om,bn om];refine aA.cb (fun h39=>?_) fun _=>aA.cd (fun _=>sI de) fun _=>?_
 ·have h39:s.getD a 0=39:=by simp_all [bL,qN]
  refine aA.bd (J5 F s a 0 om om ha) fun r hr=>I3 (fun h=>aA.ok (RQ.err h)) fun h0=>?_;obtain⟨e,e1,e2,e3⟩:=hr.2.1 h39 rfl h0;rw [e1,uE om om];have hs:=sG s (a+1) (e-1)
  grind [aA.rq,I6,Ih,wT]
 ·refine aA.bd (h1 (a+1) 2 _ _ om om) fun r q=>I3 (fun h=>aA.ok fun e=>absurd e h) fun h0=>?_
  obtain⟨e,e1,e2,e3,e4,e5,-⟩:=q h0;have:=e5 (.inr (.inl rfl));rw [e1,bn om];exact Ih om om (by grind [wN,List.length_nil])
theorem aa1(hF:4*s.length+2000<F)(hl:s.length<=800)(h1:Q1 F s n):Q5 F s (n+1):=by
 intro a p lv ha hn;show aA _ (Bi F (cQ F n) s (a:Int) p lv);unfold Bi;rw [bI om,show (a:Int)+2=((a+2:Nat):Int) from rfl,bn om];refine aA.jj (P:=fun x=>∀r,x=.inr r->RQ s a r) ?_ (fun _ _=>?_) fun r h=>h r rfl
 ·have ok:aA (fun x:Unit ⊕ dV=>∀r,x=.inr r->RQ s a r) (some (.inl ())):=aA.ok fun r h=>nomatch h
  have er:∀ {x e:Int},e≠0->aA (fun x:Unit ⊕ dV=>∀r,x=.inr r->RQ s a r) ((dH F x e).bind fun y=>some (.inr y)):=fun h=>aA.ok fun r e=>by cases e;exact RQ.err h
  refine aA.bd (P:=fun b=>b=true->a+2<s.length) (aA.cd (fun h=>aA.rq (jM om om) (aA.ok fun _=>om)) fun _=>aA.ok fun h=>nomatch h) fun b hb=>aA.cb (fun h=>?_) fun _=>ok;have h2:=hb h;refine aA.bd (Yh F s (a+3) om om om) fun r ⟨e,e1,e2,e3⟩=>?_;rw [e1];refine aA.cd (fun _=>er de) fun _=>?_;refine aA.bd (P:=fun b=>b=true->a+3<e/\e<s.length) ?_ fun b hb=>?_
  ·refine aA.cd (fun h=>?_) fun _=>aA.ok fun h=>nomatch h
   exact aA.ok fun h'=>⟨om,by simp_all⟩
  refine aA.bd (P:=fun b=>b=true->a+3<e/\e<s.length) (aA.cb (fun h=>aA.rq (jM om (by have:=hb h;omega)) (aA.ok fun _=>hb h)) fun _=>aA.ok fun h=>nomatch h) fun b hb=>aA.cb (fun h=>?_) fun _=>?_
  ·have:=hb h
   have hs:=sG s (a+2+1) e;rw [bn om,adx];exact aA.rq (I6 om om om) (aA.ok fun r h=>by cases h;exact RQ.one om om (by rw [wT];omega))
  grind
 refine aA.bd (Yh F s (a+2) om om om) fun r ⟨e,e1,e2,e3⟩=>?_;rw [e1];refine aA.cd (fun _=>sI de) fun _=>?_;rw [aK,aD];refine aA.cb (fun _=>sI de) fun hx=>?_
 have he:e<s.length:=by
  grind
 refine aA.cb (fun _=>sI de) fun _=>aA.rq (I6 om om om) (aA.rq (jM om om) (aA.cb (fun _=>?_) fun _=>?_))
 ·rw [bn om]
  have hs:=sG s (a+2) e;exact Ih om om (by show wP (.mk 4 (sl s ((a+2:Nat):Int) (e:Int)) 0 false [])<=_;rw [wT];omega)
 refine aA.bd (op8 F s e om he) fun⟨o1,o2,o3⟩ ho=>?_;by_cases RU:o1=0
 ·subst RU
  show aA _ (Option.bind _ _);rw [bU om om,aK,aD];refine aA.cb (fun _=>sI de) fun _=>aA.rq (jM om om) (aA.cb (fun _=>sI de) fun _=>aA.rq (jM om om) (aA.cb (fun _=>?_) fun _=>sI de));exact aA.bd (Yh F s (a+3) om om om) fun r _=>sI de
 ·obtain⟨k,k1,k2,k3⟩:=ho RU
  clear ho;subst k1;rw [show (o1==0)=false from by simpa using RU,aO,bI (x:=(e:Int)+(k:Int)) om];refine aA.cd (fun _=>sI de) fun _=>aA.bd (Uh F s (e+k) om om) fun b _=>aA.cb (fun _=>sI de) fun _=>?_;obtain⟨q,hq,Yj⟩:=akq F p;rw [Yj,aD];refine aA.bd (h1 (e+k) q _ _ om om) fun r hr=>I3 (fun h=>aA.ok fun e=>absurd e h) fun h0=>?_;obtain⟨f,f1,f2,f3,f4,f5,-⟩:=hr h0;have:=f5 (by unfold PL;omega);rw [f1,bn om];have hs:=sG s (a+2) e;exact Ih om om (by show wP (.mk 4 (sl s ((a+2:Nat):Int) (e:Int)) o1 o2 r.fParts)<=_;rw [wN];omega)
theorem VJ(hF:4*s.length+2000<F)(hl:s.length<=800):∀n,Q1 F s n/\Q2 F s n/\Q3 F s n/\Q4 F s n/\Q5 F s n/\Q6 F s n
 | 0=>⟨fun _ _ _ _ _ h=>om,fun _ _ _ _ h=>om,fun _ _ _ _ _ h=>om,fun _ _ _ _ _ h=>om,fun _ _ _ _ h=>om,fun _ _ _ h=>om⟩
 | n+1=>by
  obtain⟨h1,h2,h3,h4,h5,h6⟩:=VJ hF hl n;exact⟨adz hF hl h2,afD hF hl h3 h6,aaZ hF hl h4,adA hF hl h1 h5,aa1 hF hl h1,aa0 hF hl h1⟩
end
theorem alZ(F:Nat)(s:Bs)(hF:8000<F)(hl:s.length<=800):aA (fun r=>gq r.1<=2*s.length) (B2 F s):=by
 unfold B2;rw [cf om];refine aA.bd ((VJ om hl F).1 0 0 1 0 om om) fun r q=>I3 (fun h=>aA.ok (by simp [gq])) fun h0=>?_;obtain⟨e,e1,e2,e3,e4,-⟩:=q h0
 grind [aA.ok]
theorem Ec(F:Nat)(s:Bs)(hF:40<F):aA (fun b=>b=true->s.length<=32) (eP F s):=by
 unfold eP;by_cases h:s=[]
 ·subst h;exact aA.ok fun _=>by decide
 have:0<s.length:=y6.2 h;rw [qZ om,I2];simp only [aK,aD];by_cases h2:s.length<=32
 ·refine aA.cb (fun _=>aA.ok fun h=>nomatch h) fun _=>?_
  refine aA.lp (fun i:Int=>∃n:Nat,i=(n:Int)/\n<=s.length) (fun i=>s.length-i.toNat) ⟨0,rfl,om⟩ (by show s.length-0<F;omega) ?_;rintro _ ⟨n,rfl,hn⟩ rc hrc;refine aA.cd (fun h=>?_) fun _=>aA.ok fun _=>h2;rw [bU om om,XQ,aD,bn om];exact aA.cb (fun _=>aA.ok fun h=>nomatch h) fun _=>hrc _ ⟨n+1,rfl,om⟩ (by rw [bL,bL];omega)
 ·rw [show (decide (32<(s.length:Int)))=true from dT om,show (s==[])=false from by simpa using h]
  exact aA.ok fun h=>nomatch h
def ji(l:J bC)(n:Bs):bC×Bool:=(l.find? fun v=>v.fName==n).elim (bC.mk [] [] false false false,false) fun v=>(v,true)
theorem xH(F:Nat)(l:J bC)(n:Bs)(hF:l.length<F)(hl:l.length<=1000):qd F l n=some (ji l n):=by
 unfold qd;rw [qf l (fun i=>(i:Int)) (fun v=>v.fName==n) (fun i v=>some (v,true)) (some (bC.mk [] [] false false false,false)) (s:=(0:Int)) hF rfl (fun i h rc=>?_) (fun rc=>?_)]
 ·rw [Mx];unfold ji;cases l.find? _<;>rfl
 ·rw [cM om,bU om om,bU om om,bL,gd h,bn om]
 ·rw [cf om]
def GV(l:J bC):Prop:=l.length<=128/\∀v∈l,v.fName.length<=60/\v.bK.length<=4096
theorem OD{l:J bC}(h:GV l)(n:Bs):(ji l n).1.fName.length<=60/\(ji l n).1.bK.length<=4096:=by
 unfold ji
 cases e:l.find? fun v=>v.fName==n with
 | none=>exact⟨eR _,eR _⟩
 | some v=>exact h.2 v (RC e)
def mj(v:bC):J bC->Bool->J bC
 | [],d=>cond d [] [v]
 | x::l,d=>cond (!d && !(Op.bytesLess x.fName v.fName)) [v] []++(cond (x.fName==v.fName) [] [x]++mj v l (d || !(Op.bytesLess x.fName v.fName)))
theorem Yk(v:bC):∀(l:J bC)(d:Bool),(mj v l d).length=(cond d 0 1)+(l.filter fun x=>!(x.fName==v.fName)).length
 | [],d=>by cases d<;>rfl
 | x::l,d=>by
  simp only [mj,yb,Yk v l,List.filter_cons];cases d<;>cases (x.fName==v.fName)<;>cases (Op.bytesLess x.fName v.fName)<;>simp<;>omega
theorem Qs(v:bC):∀(l:J bC)(d:Bool),∀x∈mj v l d,x=v\/x∈l
 | [],d,x,h=>by cases d<;>simp [mj] at h;exact .inl h
 | y::l,d,x,h=>by
  simp only [mj,uw] at h;rcases h with h|h|h
  ·revert h;cases (!d && !(Op.bytesLess y.fName v.fName))<;>simp
   exact fun h=>.inl h
  ·revert h;cases (y.fName==v.fName)<;>simp
   exact fun h=>.inr (.inl h)
  ·rcases Qs v l _ x h with h|h
   ·exact .inl h
   ·exact .inr (pQ _ h)
theorem OE(F:Nat)(l:J bC)(v:bC)(hF:l.length<F)(hl:l.length<=1000):yI F l v=some (mj v l false):=by
 have:aA (fun r=>r=mj v l false) (yI F l v):=by
  unfold yI;refine aA.lp (fun z:J bC×Bool×Int=>∃k:Nat,z.2.2=(k:Int)/\k<=l.length/\z.1.length<=2*k/\z.1++mj v (l.drop k) z.2.1=mj v l false) (fun z=>l.length-z.2.2.toNat) ⟨0,rfl,om,si,si⟩ (by show l.length-0<F;omega) ?_;rintro⟨o,d,_⟩ ⟨k,rfl,h1,h2,h3⟩ rc hrc;dsimp only at h2 h3 hrc⊢;refine aA.cd (fun h=>?_) fun h=>?_
  ·have hk:k<l.length:=om
   rw [y5 hk] at h3;simp only [mj] at h3;rw [bU om om,bn om,bL,gd hk];simp only [aK,aD,cF]
   have go:∀(o':J bC)(d':Bool),o'.length<=2*k+1->o'++(cond (l[k].fName==v.fName) [] [l[k]]++mj v (l.drop (k+1)) d')=mj v l false ->
     aA (fun r=>r=mj v l false) (cond (!(l[k].fName==v.fName)) (rq ((decide (0<=(k:Int)))&&(decide ((k:Int)<(l.length:Int)))) (rq ((decide (o'.length+([l[k]]:J bC).length<=9223372036854775807))&&(decide ((o'.length+([l[k]]:J bC).length)*40<=140737488355328))) (rc (o'++([l[k]]:J bC),d',((k+1:Nat):Int))))) (rc (o',d',((k+1:Nat):Int)))):=by
    intro o' d' ho he;have hm:l.length-Int.toNat ((k+1:Nat):Int)<l.length-Int.toNat (k:Int):=by rw [bL,bL];omega
    cases e:(l[k].fName==v.fName) with
    | true=>
     rw [e] at he
     exact hrc _ ⟨k+1,rfl,hk,by dsimp only;omega,by simpa using he⟩ hm
    | false=>
     rw [e] at he;exact aA.rq (jM om om) (aA.rq (nD (by show o'.length+1<=_;omega) de) (hrc _ ⟨k+1,rfl,hk,bE,by simpa using he⟩ hm))
   cases e:(!d && !(Op.bytesLess l[k].fName v.fName)) with
   | true=>
    rw [e] at h3;rw [cw] at e;have hd:d=false:=by simpa using e.1
    subst hd;rw [bf,cE (nD (by show o.length+1<=_;omega) de),aD];rw [e.2,XF] at h3;refine aA.rq (jM om om) ?_
    exact go _ _ bE (by simpa using h3)
   | false=>
    rw [e] at h3;rw [aO,aD]
    have hd:(d || !(Op.bytesLess l[k].fName v.fName))=d:=by
     cases d
     ·simpa using e
     ·rfl
    rw [hd] at h3;refine aA.rq (jM om om) ?_;exact go o d om (by simpa using h3)
  ·obtain rfl:k=l.length:=om
   rw [Ql] at h3;simp only [mj] at h3
   cases d with
   | true=>exact aA.ok (by simpa using h3)
   | false=>exact aA.rq (nD (by show o.length+1<=_;omega) de) (aA.ok (by simpa using h3))
 obtain⟨r,h,e⟩:=this;rw [e,h]
theorem ab9{l:J bC}(h:GV l){v:bC}(hn:v.fName.length<=60/\v.bK.length<=4096)(hc:(ji l v.fName).2=true\/l.length<128):GV (mj v l false):=by
 refine⟨?_,fun x hx=>?_⟩
 ·rw [Yk]
  show 1+_<=_;have h1:(l.filter fun x=>!(x.fName==v.fName)).length<=l.length:=List.length_filter_le _ _;rcases hc with hc|hc
  ·unfold ji at hc
   cases e:l.find? fun x=>x.fName==v.fName with
   | none=>rw [e] at hc;exact absurd hc de
   | some y=>
    have hy:=RC e;have hp:(y.fName==v.fName)=true:=XG (p:=fun x:bC=>x.fName==v.fName) e
    have:(l.filter fun x=>!(x.fName==v.fName)).length<l.length:=by
     rcases XJ (l.filter fun x=>!(x.fName==v.fName)).length l.length with h|h
     ·exact h
     ·have:=List.length_filter_eq_length_iff.1 (Rr h1 h) y hy
      rw [hp] at this;exact absurd this de
    have:=h.1;omega
  ·omega
 ·rcases Qs v l false x hx with rfl|hx
  ·exact hn
  ·exact h.2 x hx
theorem anR(F:Nat){l:J bC}(h:GV l)(n v:Bs)(hF:1000<F):aA (fun r=>GV r.1) (rX F l n v):=by
 have hl:=h.1;unfold rX;rw [xH F l n om om,aD];refine aA.bd (Ec F n om) fun b hb=>aA.cb (fun _=>aA.ok h) fun hb'=>aA.cb (fun _=>aA.ok h) fun _=>aA.cd (fun _=>aA.ok h) fun hv=>?_;have hn:n.length<=32:=hb (by simpa using hb');rw [aK,aD];refine aA.cb (fun _=>aA.ok h) fun hc=>?_;rw [OE F l _ om om,aD];refine aA.ok (ab9 h ⟨by show n.length<=60;omega,by show v.length<=4096;omega⟩ ?_);show (ji l n).2=true\/_
 cases e:(ji l n).2 with
 | true=>exact .inl rfl
 | false=>rw [e] at hc;exact .inr (by have:decide (128<=(l.length:Int))=false:=hc;have:=of_decide_eq_false this;omega)
theorem al0(F:Nat){l:J bC}(h:GV l)(n:Bs)(a b:Bool)(hF:1000<F):aA (fun r=>GV r.1) (nZ F l n a b):=by
 have hl:=h.1;unfold nZ;refine aA.bd (Ec F n om) fun b hb=>aA.cb (fun _=>aA.ok h) fun hb'=>?_;have hn:n.length<=32:=hb (by simpa using hb');rw [xH F l n om om,aD,aK,aD];refine aA.cb (fun _=>aA.ok h) fun hc=>?_;rw [aK,aD,aK,aD,OE F l _ om om,aD];refine aA.ok (ab9 h ⟨by show n.length<=60;omega,(OD h n).2⟩ ?_);show (ji l n).2=true\/_
 cases e:(ji l n).2 with
 | true=>exact .inl rfl
 | false=>rw [e] at hc;exact .inr (by have:decide (128<=(l.length:Int))=false:=hc;have:=of_decide_eq_false this;omega)
theorem afE(F:Nat)(l:J Bs)(g:Bs)(hF:l.length<F)(h1:l.length<=100)(h2:∀x∈l,x.length<=60)(hg:g.length<=1):aA (fun r=>r.length<=61*l.length) (qg F l g):=by
 unfold qg;refine aA.lp (fun z:Bs×Int=>∃k:Nat,z.2=(k:Int)/\k<=l.length/\z.1.length<=61*k) (fun z=>l.length-z.2.toNat) ⟨0,rfl,om,si⟩ (by show l.length-0<F;omega) ?_;rintro⟨o,_⟩ ⟨k,rfl,h3,h4⟩ rc hrc;dsimp only at h4 hrc⊢;refine aA.cd (fun h=>?_) fun _=>aA.ok (by show o.length<=_;omega);have hk:k<l.length:=om;refine aA.bd (P:=fun u:Bs=>u.length<=o.length+1) (aA.cd (fun _=>aA.rq (dN om) (aA.ok (by rw [yb];omega))) fun _=>aA.ok om) fun u hu=>?_;have hx:=h2 _ (jN hk);rw [bU om om,bL,gd hk,bn om];exact aA.rq (decide_eq_true om) (hrc _ ⟨k+1,rfl,hk,by dsimp only;rw [List.length_append];omega⟩ (by show l.length-Int.toNat ((k+1:Nat):Int)<l.length-Int.toNat (k:Int);omega))
theorem afF(F:Nat){l:J bC}(h:GV l)(hF:1000<F):aA (fun r=>r.length<=1) (sJ F l):=by
 have hl:=h.1;unfold sJ;rw [xH F l _ om om,aD];refine aA.cb (fun _=>aA.ok de) fun _=>?_
 cases e:((ji l [73,70,83]).1.bK==[]) with
 | true=>exact aA.ok (eR _)
 | false=>
  have:(ji l [73,70,83]).1.bK≠[]:=by simpa using e
  have:=y6.2 this;exact aA.rq (dN om) (aA.ok (sG _ 0 1))
theorem aks(F:Nat)(o:Int)(hF:20<F):aA (fun r=>r.length<=8) (tK F o):=by
 unfold tK;refine aA.lp (fun z:Bs×Int=>∃k:Nat,z.2=(k:Int)/\k<=8/\z.1.length<=k) (fun z=>8-z.2.toNat) ⟨0,rfl,om,si⟩ (by show 8-0<F;omega) ?_;rintro⟨u,_⟩ ⟨k,rfl,h3,h4⟩ rc hrc;dsimp only at h4 hrc⊢;have L1:([32,128,1,8,64,16,2,4]:J Int).length=8:=rfl;have L2:([97,67,101,102,109,110,117,120]:Bs).length=8:=rfl;refine aA.cd (fun h=>?_) fun _=>aA.ok (by show u.length<=_;omega);rw [bU om om,bn om];have hs:=sG [97,67,101,102,109,110,117,120] k (k+1);have hm:8-Int.toNat ((k+1:Nat):Int)<8-Int.toNat (k:Int):=om;exact aA.cb (fun _=>aA.rq (I6 om om om) (aA.rq (decide_eq_true om) (hrc _ ⟨k+1,rfl,om,by dsimp only;rw [List.length_append];omega⟩ hm))) fun _=>hrc _ ⟨k+1,rfl,om,by dsimp only;omega⟩ hm
end Go.Proofs.YtjgkapeknmdedaaGreatDoor
