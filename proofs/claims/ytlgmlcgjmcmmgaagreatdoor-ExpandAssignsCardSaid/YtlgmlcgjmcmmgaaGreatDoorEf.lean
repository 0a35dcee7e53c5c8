import Derived.Test.YtlgmlcgjmcmmgaaGreatDoorZ2
import Derived.Test.YtlgmlcgjmcmmgaaGreatDoorSo
import Derived.Test.YtlgmlcgjmcmmgaaGreatDoorPe
set_option linter.all false
namespace Go.Proofs.YtlgmlcgjmcmmgaaGreatDoor
open Go.RT
set_option maxRecDepth 100000
theorem I6(F:Nat)(c:Int):kq F c=some (decide (48<=c)&&decide (c<=57)):=by
 unfold kq;rw [aK,cF];rfl
theorem ako(F:Nat)(c:Int):q9 F c=some ((decide (97<=c)&&decide (c<=122))||(decide (65<=c)&&decide (c<=90))):=by
 unfold q9;grind
def anP(c:Int):Bool:=((decide (97<=c)&&decide (c<=122))||(decide (65<=c)&&decide (c<=90)))||(decide (48<=c)&&decide (c<=57))||c==95
theorem XL(F:Nat)(c:Int):oe F c=some (anP c):=by
 unfold oe;rw [ako];simp [I6,aK];rfl
theorem ao4(F:Nat)(l:Bs)(c:Int)(hF:l.length<F)(hl:l.length<=1000):∃b,He F l c=some b:=by
 have:aA (fun _=>True) (He F l c):=by
  refine aA.lp (fun i=>∃n:Nat,i=(n:Int)/\n<=l.length) (fun i=>l.length-i.toNat) ⟨0,rfl,om⟩ (by simp_all) ?_;rintro _ ⟨n,rfl,hn⟩ rc hrc;refine aA.cd (fun h=>?_) fun _=>aA.ok trivial;refine aA.rq (jN om om) (aA.cb (fun _=>aA.ok trivial) fun _=>?_);rw [bh om];exact hrc _ ⟨n+1,rfl,om⟩ (by grind)
 obtain⟨b,-,h⟩:=this;exact⟨b,h⟩
theorem J7(F:Nat)(c:Int)(hF:10<F):∃b,lS F c=some b:=by
 obtain⟨b,hb⟩:=ao4 F [64,42,35,63,45,36,33] c (by show 7<F;omega) de;unfold lS
 simp_all [I6,aH,aK]
def EX(s:Bs)(a:Nat)(b:Bool):Prop:=(b=true->a+1<s.length/\s.getD a 0=36)/\(s.getD a 0=36->s.getD (a+1) 0=40->b=true)
theorem ao5{s:Bs}{a:Nat}(h:s.getD a 0=40):a<s.length:=by
 grind
theorem alX(F:Nat)(s:Bs)(a:Nat)(hF:10<F)(hl:s.length<=1000)(ha:a<s.length):aA (EX s a) (qf F s (a:Int)):=by
 unfold qf;rw [bh om];by_cases h:a+1<s.length
 ·rw [cf om,bQ om om,Yb _ 36 de]
  refine aA.cb (fun h0=>aA.ok ⟨fun h=>(nomatch h),fun h'=>?_⟩) fun h0=>?_
  ·simp_all
  have h0:s.getD a 0=36:=by simpa using h0
  rw [bQ om om,XL];obtain⟨b,hb⟩:=J7 F ((s.getD (Int.toNat ((a+1:Nat):Int)) 0).toNat:Int) hF;rw [hb];simp [aK];refine aA.ok ⟨fun _=>⟨h,h0⟩,fun _ h4=>?_⟩
  simp_all
 ·rw [cM om]
  exact aA.ok ⟨fun h=>(nomatch h),fun _ h4=>absurd (ao5 h4) h⟩
theorem adt(F:Nat)(s:Bs)(a:Nat)(hF:s.length<F)(hl:s.length<=1000)(ha:a<=s.length):aA (fun r=>∃e:Nat,r=(e:Int)/\a<=e/\e<=s.length) (vE F s (a:Int)):=by
 refine aA.lp (fun i=>∃n:Nat,i=(n:Int)/\a<=n/\n<=s.length) (fun i=>s.length-i.toNat) ⟨a,rfl,om,ha⟩ (by grind) ?_;rintro _ ⟨n,rfl,h1,h2⟩ rc hrc;by_cases h:n<s.length
 ·rw [cM om,bQ om om,XL]
  refine aA.cb (fun _=>?_) fun _=>aA.ok ⟨n,rfl,h1,h2⟩;rw [bh om];exact hrc _ ⟨n+1,rfl,om,om⟩ (by grind)
 ·grind [aA.ok]
theorem ahE(F:Nat)(s:Bs)(a:Nat)(hF:s.length<F)(hl:s.length<=1000)(ha:a<=s.length):aA (fun r=>∃e:Nat,r=(e:Int)/\a<=e/\e<=s.length/\(s.getD a 0≠10->a<s.length->a<e)) (Dg F s (a:Int)):=by
 refine aA.lp (fun i=>∃n:Nat,i=(n:Int)/\a<=n/\n<=s.length) (fun i=>s.length-i.toNat) ⟨a,rfl,om,ha⟩ (by grind) ?_;rintro _ ⟨n,rfl,h1,h2⟩ rc hrc;by_cases h:n<s.length
 ·rw [cM om,bQ om om]
  refine aA.cb (fun _=>?_) fun h0=>aA.ok ⟨n,rfl,h1,h2,fun h3 _=>?_⟩
  ·rw [bh om]
   exact hrc _ ⟨n+1,rfl,om,om⟩ (by grind)
  ·by_cases e:a=n
   ·simp_all [ck,Yb]
   ·omega
 ·grind [aA.ok]
theorem ab0(F:Nat)(s:Bs)(a:Nat)(hl:s.length<=1000)(ha:a<=s.length):aA (fun b=>b=true->a+1<s.length) (zb F s (a:Int)):=by
 unfold zb;rw [bh om];by_cases h:a+1<s.length
 ·rw [cM om,bQ om om,aH,bQ om om,aK]
  exact aA.ok fun _=>h
 ·rw [cf om]
  simp_all [aA.ok]
theorem afz(F:Nat)(c:Int):wX F c=some (c==9||c==32):=by unfold wX;rw [aK];rfl
theorem alY(F:Nat)(c:Int):∃b,uF F c=some b:=by unfold uF;simp_all [aK,cT,aH]
def PQ(s:Bs)(a k:Nat)(r:Int×Int):Prop:=r.2=0->∃e:Nat,r.1=(e:Int)/\a+k<=e/\e<=s.length
theorem PQ.err{s:Bs}{a k:Nat}{x e:Int}(h:e≠0):PQ s a k (x,e):=fun h'=>absurd h' h
theorem PQ.le{s:Bs}{a k j:Nat}{r:Int×Int}(h:PQ s a k r)(hj:j<=k):PQ s a j r:=fun e=>by
 obtain⟨e,h1,h2,h3⟩:=h e;grind
theorem aA.pair{A B:Type}{x:O (A×B)}{Q:A×B->Prop}(h:aA Q x):aA Q (x.bind fun y=>some (y.1,y.2)):=by
 obtain⟨r,h,rfl⟩:=h;exact⟨_,h,rfl⟩
theorem akp(F:Nat)(s:Bs)(a:Nat)(hF:s.length<F)(hl:s.length<=1000)(ha:a<s.length):aA (PQ s a 2) (ze F s (a:Int)):=by
 unfold ze;rw [bh om];refine aA.lp (fun i=>∃n:Nat,i=(n:Int)/\a+1<=n/\n<=s.length) (fun i=>s.length-i.toNat) ⟨a+1,rfl,om,ha⟩ (by grind) ?_;rintro _ ⟨n,rfl,h1,h2⟩ rc hrc;refine aA.cd (fun h=>?_) fun _=>aA.ok (PQ.err de);rw [bQ om om,bh om];exact aA.cb (fun _=>aA.ok fun _=>⟨n+1,rfl,om,om⟩) fun _=>hrc _ ⟨n+1,rfl,om,om⟩ (by grind)
theorem alZ(F:Nat)(s:Bs)(a:Nat)(hF:s.length+2<F)(hl:s.length<=1000)(ha:a<s.length):aA (PQ s a 2) (sH F s (a:Int)):=by
 unfold sH;rw [bh om];refine aA.lp (fun i=>∃n:Nat,i=(n:Int)/\a+1<=n/\n<=s.length+1) (fun i=>s.length+1-i.toNat) ⟨a+1,rfl,om,om⟩ (by grind) ?_;rintro _ ⟨n,rfl,h1,h2⟩ rc hrc;refine aA.cd (fun h=>?_) fun _=>aA.ok (PQ.err de);rw [bQ om om,bh om];refine aA.cb (fun _=>aA.ok fun _=>⟨n+1,rfl,om,om⟩) fun _=>?_;rw [bQ om om,aK];refine aA.cb (fun _=>aA.ok (PQ.err de)) fun hb=>?_;rw [bQ om om];refine aA.cb (fun h9=>?_) fun _=>hrc _ ⟨n+1,rfl,om,om⟩ (by grind);rw [bh om];exact hrc _ ⟨n+2,rfl,om,om⟩ (by grind)
def P1(F:Nat)(s:Bs)(n:Nat):Prop:=∀(a:Nat)(p:Int),a<s.length->4*(s.length-a)+4<=n->aA (fun r=>PQ s a 1 r/\(s.getD a 0=39->p=0->PQ s a 2 r)/\(s.getD a 0=96->PQ s a 2 r)/\(s.getD a 0=36->s.getD (a+1) 0=40->PQ s a 3 r)) ((cV F n).1 s (a:Int) p)
def P2(F:Nat)(s:Bs)(n:Nat):Prop:=∀(a:Nat)(p:Int),a+1<s.length->4*(s.length-a)+3<=n->aA (fun r=>PQ s a 1 r/\(s.getD (a+1) 0=40->PQ s a 3 r)) ((cV F n).2.1 s (a:Int) p)
def P3(F:Nat)(s:Bs)(n:Nat):Prop:=∀(a:Nat)(p:Int),a+1<s.length->4*(s.length-a)+2<=n->aA (PQ s a 3) ((cV F n).2.2.1 s (a:Int) p)
def P4(F:Nat)(s:Bs)(n:Nat):Prop:=∀(a:Nat),a+2<s.length->4*(s.length-a)+2<=n->aA (PQ s a 3) ((cV F n).2.2.2.1 s (a:Int))
def P5(F:Nat)(s:Bs)(n:Nat):Prop:=∀(a:Nat),a+1<s.length->4*(s.length-a)+2<=n->aA (PQ s a 3) ((cV F n).2.2.2.2.1 s (a:Int))
def P6(F:Nat)(s:Bs)(n:Nat):Prop:=∀(a:Nat),a<s.length->4*(s.length-a)+2<=n->aA (PQ s a 2) ((cV F n).2.2.2.2.2 s (a:Int))
section
variable {F : Nat} {s : Bs} {n : Nat}
theorem afA(hF:s.length+20<F)(hl:s.length<=1000)(h2:P2 F s n)(h6:P6 F s n):P1 F s (n+1):=by
 intro a p ha hn;show aA _ (FB F (cV F n) s (a:Int) p);unfold FB;rw [bQ om om,bh om,aK]
 have hb:∀(k:Nat),k<256->∀b:Bool,((((s.getD (Int.toNat (a:Int)) 0).toNat:Int)==(no_index (OfNat.ofNat k:Int)))=b->(s.getD a 0==(OfNat.ofNat k:UInt8))=b):=by
  simp_all [ck,qR]
 refine aA.cb (fun _=>aA.ok ⟨PQ.err de,fun _ _=>PQ.err de,fun _=>PQ.err de,fun _ _=>PQ.err de⟩) fun hx=>?_;refine aA.cb (fun h=>?_) fun g1=>?_
 ·have:=hb 92 de _ h
  have hne:a+1≠s.length:=fun e=>by simp_all
  rw [bI om];have q:PQ s a 2 ((a:Int)+2,0):=fun _=>⟨a+2,rfl,om,om⟩;exact aA.ok ⟨q.le om,fun _ _=>q,fun _=>q,fun h=>by simp_all⟩
 refine aA.cb (fun h=>?_) fun g2=>?_
 ·exact ((alZ F s a om hl ha).mono fun r q=>⟨q.le om,fun _ _=>q,fun _=>q,fun h=>by simp_all⟩).pair
 have n96:s.getD a 0≠96:=fun e=>by simp_all
 refine aA.bd (alX F s a om hl ha) fun b hE=>?_;refine aA.cb (fun h=>?_) fun g3=>?_
 ·obtain⟨h1,h3⟩:=hE.1 h
  exact ((h2 a p h1 om).mono fun r q=>⟨q.1,fun h=>by simp_all,fun h=>by simp_all,fun _ h=>q.2 h⟩).pair
 have n40:s.getD a 0=36->s.getD (a+1) 0=40->False:=fun h h'=>by have:=hE.2 h h';simp_all
 simp [aK];refine aA.cb (fun h=>?_) fun g4=>?_
 ·exact ((akp F s a om hl ha).mono fun r q=>⟨q.le om,fun _ _=>q,fun _=>q,fun h h'=>(n40 h h').elim⟩).pair
 refine aA.cb (fun h=>?_) fun g5=>?_
 ·rw [cx] at h
  exact ((h6 a ha om).mono fun r q=>⟨q.le om,fun _ _=>q,fun _=>q,fun h h'=>(n40 h h').elim⟩).pair
 refine aA.ok ⟨fun _=>⟨a+1,rfl,om,om⟩,fun h e=>?_,fun h=>(n96 h).elim,fun h h'=>(n40 h h').elim⟩
 simp_all
theorem ahF(hF:s.length+20<F)(hl:s.length<=1000)(h3:P3 F s n)(h4:P4 F s n)(h5:P5 F s n):P2 F s (n+1):=by
 intro a p ha hn;show aA _ (wL F (cV F n) s (a:Int) p);unfold wL;rw [bh om,bQ om om,bI om,show (a:Int)+2=((a+2:Nat):Int) from rfl];refine aA.cb (fun _=>((h3 a p ha om).mono fun r q=>⟨q.le om,fun _=>q⟩).pair) fun _=>?_;rw [aK,aH,cF]
 have main:aA (fun r=>PQ s a 1 r/\(s.getD (a+1) 0=40->PQ s a 3 r)) (cond (((s.getD (Int.toNat ((a+1:Nat):Int)) 0).toNat:Int)==40)
   (((cV F n).2.2.2.2.1 s (a:Int)).bind fun x5=>some (x5.1,x5.2))
   ((lS F ((s.getD (Int.toNat ((a+1:Nat):Int)) 0).toNat:Int)).bind fun x6=>cond x6 (some (((a+2:Nat):Int),0)) ((vE F s ((a+1:Nat):Int)).bind fun x7=>some (x7,0)))):=by
  refine aA.cb (fun _=>((h5 a ha om).mono fun r q=>⟨q.le om,fun _=>q⟩).pair) fun g=>?_;have n40:s.getD (a+1) 0=40->False:=fun h=>by simp_all
  obtain⟨b,hb⟩:=J7 F ((s.getD (Int.toNat ((a+1:Nat):Int)) 0).toNat:Int) om;rw [hb];refine aA.cb (fun _=>aA.ok ⟨fun _=>⟨a+2,rfl,om,om⟩,fun h=>(n40 h).elim⟩) fun _=>?_;refine aA.bd (adt F s (a+1) om hl om) fun r ⟨e,h1,h2,h3⟩=>aA.ok ⟨fun _=>⟨e,h1,om,h3⟩,fun h=>(n40 h).elim⟩
 by_cases h:a+2<s.length
 ·rw [show decide (((a+2:Nat):Int)<(s.length:Int))=true from dT om,Bool.and_true,Bool.and_true,r7 om,aK]
  exact aA.cb (fun _=>((h4 a h om).mono fun r q=>⟨q.le om,fun _=>q⟩).pair) fun _=>main
 grind
theorem step1(h1:P1 F s n){i:Nat}{p:Int}(hi:i<s.length)(hn:4*(s.length-i)+4<=n){R:Type}{Q:R->Prop}{k:Int×Int->O R}(hk:∀r,PQ s i 1 r->aA Q (k r)):aA Q (((cV F n).1 s (i:Int) p).bind k):=
 aA.bd (h1 i p hi hn) fun r q=>hk r q.1
theorem I7{x:Int}{R:Type}{Q:R->Prop}{A B:O R}(a:x≠0->aA Q A)(b:x=0->aA Q B):aA Q (cond (x != 0) A B):=by
 grind
theorem adu(hF:s.length+20<F)(hl:s.length<=1000)(h1:P1 F s n):P3 F s (n+1):=by
 intro a p ha hn;show aA _ (Bh F (cV F n) s (a:Int) p);unfold Bh;rw [bI om];refine aA.lp (fun i=>∃n:Nat,i=(n:Int)/\a+2<=n/\n<=s.length) (fun i=>s.length-i.toNat) ⟨a+2,rfl,om,ha⟩ (by grind) ?_;rintro _ ⟨i,rfl,g1,g2⟩ rc hrc;refine aA.cd (fun h=>?_) fun _=>aA.ok (PQ.err de);rw [bQ om om,bh om];refine aA.cb (fun _=>aA.ok fun _=>⟨i+1,rfl,om,om⟩) fun _=>?_;rw [bQ om om,aK];refine aA.cb (fun _=>aA.ok (PQ.err de)) fun _=>step1 h1 om om fun r q=>I7 (fun h=>aA.ok (PQ.err h)) fun h=>?_;obtain⟨e,e1,e2,e3⟩:=q h;rw [e1];exact hrc _ ⟨e,rfl,om,e3⟩ (by grind)
theorem ahG(hF:s.length+20<F)(hl:s.length<=1000)(h1:P1 F s n):P6 F s (n+1):=by
 intro a ha hn;show aA _ (Bi F (cV F n) s (a:Int));unfold Bi;rw [bh om];refine aA.lp (fun i=>∃n:Nat,i=(n:Int)/\a+1<=n/\n<=s.length) (fun i=>s.length-i.toNat) ⟨a+1,rfl,om,ha⟩ (by grind) ?_;rintro _ ⟨i,rfl,g1,g2⟩ rc hrc;refine aA.cd (fun h=>?_) fun _=>aA.ok (PQ.err de);rw [bQ om om,bh om];refine aA.cb (fun _=>aA.ok fun _=>⟨i+1,rfl,om,om⟩) fun _=>step1 h1 om om fun r q=>I7 (fun h=>aA.ok (PQ.err h)) fun h=>?_;obtain⟨e,e1,e2,e3⟩:=q h;rw [e1];exact hrc _ ⟨e,rfl,om,e3⟩ (by grind)
theorem adv(hF:s.length+20<F)(hl:s.length<=1000)(h1:P1 F s n):P4 F s (n+1):=by
 intro a ha hn;show aA _ (uG F (cV F n) s (a:Int));unfold uG;rw [bI om];refine aA.lp (fun i=>∃n:Nat,i.1=(n:Int)/\a+3<=n/\n<=s.length) (fun i=>s.length-i.1.toNat) ⟨a+3,rfl,om,ha⟩ (by grind) ?_;rintro⟨_,o⟩ ⟨i,rfl,g1,g2⟩ rc hrc;refine aA.cd (fun h=>?_) fun _=>aA.ok (PQ.err de);rw [bQ om om,bh om];refine aA.jj (P:=fun x=>∀r,x=.inr r->PQ s a 3 r) ?_ (fun o' _=>?_) fun r h=>h r rfl
 ·have ok:∀o':Int,aA (fun x:Int ⊕ (Int×Int)=>∀r,x=.inr r->PQ s a 3 r) (some (.inl o')):=fun o'=>aA.ok fun r h=>nomatch h
  refine aA.cb (fun _=>ok _) fun _=>?_;rw [aK];refine aA.cb (fun _=>ok _) fun _=>?_;rw [aK];refine aA.cb (fun _=>aA.ok fun r e=>by grind [PQ.err]) fun hx=>?_
  have fin:aA (fun x:Int ⊕ (Int×Int)=>∀r,x=.inr r->PQ s a 3 r) (cond (((s.getD (Int.toNat (i:Int)) 0).toNat:Int)==41) (some (.inr ((i:Int),6))) (some (.inl o))):=
   aA.cb (fun _=>aA.ok fun r e=>by grind [PQ.err]) fun _=>ok _
  cases hc:(((s.getD (Int.toNat (i:Int)) 0).toNat:Int)==41) with
  | false=>rw [hc] at fin;exact fin
  | true=>
   rw [hc] at hx fin
   have hne:i+1≠s.length:=fun e=>by
    simp_all
   rw [bQ om om];refine aA.cb (fun _=>aA.ok fun r e=>?_) fun _=>fin;cases e;rw [bI om];exact fun _=>⟨i+2,rfl,om,om⟩
 ·refine step1 h1 om om fun r q=>I7 (fun h=>aA.ok (PQ.err h)) fun h=>?_
  obtain⟨e,e1,e2,e3⟩:=q h;rw [e1];exact hrc _ ⟨e,rfl,om,e3⟩ (by grind)
theorem aA.ret{σ R:Type}{x:O R}{Q:R->Prop}(h:aA Q x):aA (fun z:σ ⊕ R=>∃r,Q r/\z=.inr r) (yu x):=by
 obtain⟨r,h,rfl⟩:=h;exact⟨.inr r,⟨r,h,rfl⟩,rfl⟩
theorem ahH(hF:s.length+20<F)(hl:s.length<=1000)(h1:P1 F s n):P5 F s (n+1):=by
 intro a ha hn;show aA _ (zf F (cV F n) s (a:Int));unfold zf;rw [bI om];refine aA.lp (fun i=>∃n:Nat,i.1=(n:Int)/\a+2<=n/\n<=s.length) (fun i=>s.length-i.1.toNat) ⟨a+2,rfl,om,ha⟩ (by grind) ?_;rintro⟨_,o,bg⟩ ⟨i,rfl,g1,g2⟩ rc hrc
 have Ip:∀(e:Nat) o' b',i<e->e<=s.length->aA (PQ s a 3) (rc ((e:Int),o',b')):=fun e o' b' h1 h2=>
  hrc _ ⟨e,rfl,om,h2⟩ (by grind)
 refine aA.cd (fun h=>?_) fun _=>aA.ok (PQ.err de);have h:i<s.length:=om;rw [bQ om om,bh om];refine aA.jj (P:=fun x=>(∀z,x=.inl z->z.1=(i:Int))/\∀r,x=.inr r->PQ s a 3 r) ?_ (fun z hz=>?_) fun r h=>h.2 r rfl
 ·have ok:∀o':Int,aA (fun x:(Int×Int) ⊕ (Int×Int)=>(∀z,x=.inl z->z.1=(i:Int))/\∀r,x=.inr r->PQ s a 3 r) (some (.inl ((i:Int),o'))):=fun o'=>aA.ok ⟨fun z e=>by cases e;rfl,fun r h=>nomatch h⟩
  have rt:∀ {x:Option (Int×Int)},aA (PQ s a 3) x->aA (fun x:(Int×Int) ⊕ (Int×Int)=>(∀z,x=.inl z->z.1=(i:Int))/\∀r,x=.inr r->PQ s a 3 r) (yu x):=fun h=>h.ret.mono fun z ⟨r,q,e⟩=>by
   simp_all
  rw [aK];refine aA.cb (fun hc=>?_) fun _=>?_
  ·have h35:s.getD i 0=35:=by
    simp_all [cF,cx,ck,qR]
   grind [aA.bd,ahE]
  refine aA.bd (ab0 F s i hl om) fun b hb=>aA.cb (fun hb'=>rt ?_) fun _=>?_
  ·grind [bI]
  rw [aK];refine aA.cb (fun _=>aA.ok ⟨fun z e=>(nomatch e),fun r e=>?_⟩) fun _=>aA.cb (fun _=>ok _) fun _=>aA.cb (fun _=>ok _) fun _=>ok _;cases e;exact fun _=>⟨i+1,rfl,om,om⟩
 ·obtain⟨ob,Li⟩:=alY F ((s.getD (Int.toNat (i:Int)) 0).toNat:Int)
  rw [afz,Li];simp [aK];obtain⟨z1,z2⟩:=z;obtain rfl:z1=(i:Int):=hz.1 _ rfl;refine step1 h1 h om fun r q=>I7 (fun h=>aA.ok (PQ.err h)) fun h=>?_;obtain⟨e,e1,e2,e3⟩:=q h
  grind
theorem ab1(hF:s.length+20<F)(hl:s.length<=1000):∀n,P1 F s n/\P2 F s n/\P3 F s n/\P4 F s n/\P5 F s n/\P6 F s n
 | 0=>⟨fun _ _ _ h=>om,fun _ _ _ h=>om,fun _ _ _ h=>om,fun _ _ h=>om,fun _ _ h=>om,fun _ _ h=>om⟩
 | n+1=>by
  obtain⟨h1,h2,h3,h4,h5,h6⟩:=ab1 hF hl n;exact⟨afA hF hl h2 h6,ahF hF hl h3 h4 h5,adu hF hl h1,adv hF hl h1,ahH hF hl h1,ahG hF hl h1⟩
end
theorem J8(F:Nat)(s:Bs)(a:Nat)(p:Int)(hF:4*s.length+20<F)(hl:s.length<=1000)(ha:a<s.length):
  aA (fun r=>PQ s a 1 r/\(s.getD a 0=39->p=0->PQ s a 2 r)/\(s.getD a 0=96->PQ s a 2 r)/\(s.getD a 0=36->s.getD (a+1) 0=40->PQ s a 3 r)) (zg F s (a:Int) p):=
 (ab1 om hl F).1 a p ha om
mutual
def wP:TPart->Nat
 | .mk _ t _ _ ps=>1+t.length+fU ps
def fU:J TPart->Nat
 | []=>0
 | p::l=>wP p+fU l
end
theorem yK:∀(l m:J TPart),fU (l++m)=fU l+fU m
 | [],m=>by simp [fU]
 | p::l,m=>by simp [fU,yK l m];omega
theorem I8(p:TPart):1+p.fText.length+fU p.fParts=wP p:=by cases p;rfl
theorem I9:∀(l:J TPart),l.length<=fU l
 | []=>by simp
 | p::l=>by have:=I9 l;have:=I8 p;simp [fU];omega
theorem J9(l:J TPart)(k:Nat):fU (l.take k)+fU (l.drop k)=fU l:=by rw [<-yK,Ua]
theorem RC{l:J TPart}{k:Nat}(h:k<l.length):fU (l.take (k+1))=fU (l.take k)+wP (l.getD k kT):=by
 rw [qA h,yK,gd h];simp only [fU];omega
theorem ab2{l:J TPart}{k:Nat}(h:k<l.length):wP (l.getD k kT)<=fU l:=by
 have h1:=RC h;have h2:=J9 l (k+1);omega
theorem adw(F:Nat)(p:TPart)(e:Int):gH F p e=some (dV.mk [p] e 0):=by cases p;rfl
theorem sI(s:Bs)(i j:Nat):(sl s (i:Int) (j:Int)).length<=j-i:=by
 grind [sl,List.length_drop,List.length_take,Int.toNat_natCast]
theorem adx(F:Nat)(p:Int):nH F p=some (p==0||p==1):=by unfold nH;rw [aK];rfl
theorem ao6(F:Nat)(c p:Int):∃b,xO F c p=some b:=by
 unfold xO;simp_all [aK,cT,aH]
theorem anQ(F:Nat)(s:Bs)(a:Nat)(p o:Int)(ha:a<s.length):∃b,Eb F s (a:Int) p o=some b:=by
 unfold Eb;rw [bQ om om,bQ om om,bQ om om]
 simp_all [aK,cT,aH]
theorem Ug(F:Nat)(s:Bs)(a:Nat)(hl:s.length<=1000)(ha:a<=s.length):aA (fun b=>b=true->a+1<s.length) (uH F s (a:Int)):=ab0 F s a hl ha
theorem al0(F:Nat)(s:Bs)(a:Nat)(p:Int)(hF:s.length<F)(hl:s.length<=1000)(ha:a<s.length):∃b,wY F s (a:Int) p=some b:=by
 have:aA (fun _=>True) (wY F s (a:Int) p):=by
  unfold wY;rw [adx,bh om,bQ om om];simp [aK];refine aA.cb (fun _=>aA.ok trivial) fun _=>?_;refine aA.lp (fun i=>∃n:Nat,i=(n:Int)/\a+1<=n/\n<=s.length) (fun i=>s.length-i.toNat) ⟨a+1,rfl,om,ha⟩ (by grind) ?_;rintro _ ⟨n,rfl,h1,h2⟩ rc hrc;refine aA.bd (Ug F s n hl h2) fun b hb=>aA.cb (fun h=>?_) fun _=>?_
  ·have:=hb h
   rw [bI om];exact hrc _ ⟨n+2,rfl,om,om⟩ (by grind)
  ·by_cases h:n<s.length
   ·rw [bQ om om,bQ om om]
    simp_all [aK,aH,aA.ok,trivial]
   simp_all [cM,aA.ok,trivial]
 obtain⟨b,-,h⟩:=this;exact⟨b,h⟩
def RQ(s:Bs)(a:Nat)(r:dV):Prop:=r.fE=0->∃e:Nat,r.RE=(e:Int)/\a+1<=e/\e<=s.length/\r.fParts.length<=1/\fU r.fParts<=2*(e-a)
theorem RQ.err{s:Bs}{a:Nat}{l:J TPart}{x e:Int}(h:e≠0):RQ s a ⟨l,x,e⟩:=fun h'=>absurd h' h
theorem RQ.one{s:Bs}{a e:Nat}{p:TPart}(h1:a+1<=e)(h2:e<=s.length)(h3:wP p<=2*(e-a)):RQ s a ⟨[p],(e:Int),0⟩:=fun _=>⟨e,rfl,h1,h2,si,by simp [fU];omega⟩
theorem wT(k:Int)(t:Bs)(o:Int)(c:Bool):wP (.mk k t o c [])=1+t.length:=by simp [wP,fU]
theorem wN(k:Int)(t:Bs)(o:Int)(c:Bool)(l:J TPart):wP (.mk k t o c l)=1+t.length+fU l:=rfl
theorem aA.so{A:Type}{x:O A}{Q:A->Prop}(h:aA Q x):aA Q (x.bind fun y=>some y):=by rw [anR];exact h
theorem akq(F:Nat)(s:Bs)(a:Nat)(p:Int)(hl:s.length<=1000)(ha:a<s.length):aA (RQ s a) (ug F s (a:Int) p):=by
 unfold ug;rw [bh om,bI om,show (a:Int)+2=((a+2:Nat):Int) from rfl]
 have one:∀ {k o:Int}{c:Bool}{t:Bs}{e:Nat},a+1<=e->e<=s.length->1+t.length<=2*(e-a)->aA (RQ s a) ((gH F (.mk k t o c []) (e:Int)).bind fun x=>some x):=fun h1 h2 h3=>by
  simp_all [adw,aA.ok,RQ.one,wT]
 by_cases h:a+1=s.length
 ·rw [show (((a+1:Nat):Int)==(s.length:Int))=true from by rw [h];simp,bw]
  exact aA.cb (fun _=>one om om (by show 1+1<=_;omega)) fun _=>aA.ok (RQ.err de)
 ·rw [show (((a+1:Nat):Int)==(s.length:Int))=false from by simp;omega,aU,bQ om om]
  have h1:=sI s (a+1) (a+2);have h2:=sI s a (a+2);refine aA.cb (fun _=>aA.ok fun _=>⟨a+2,rfl,om,om,si,by simp [fU]⟩) fun _=>?_;rw [adx];refine aA.cb (fun _=>aA.rq (Ja om om om) (one om om om)) fun _=>?_;obtain⟨b,hb⟩:=ao6 F ((s.getD (Int.toNat ((a+1:Nat):Int)) 0).toNat:Int) p;rw [hb];refine aA.cb (fun _=>aA.rq (Ja om om om) (one om om om)) fun _=>?_;simp only [aK];refine aA.cb (fun _=>aA.ok (RQ.err de)) fun _=>?_;rw [CB om om om];exact one om om om
theorem ab3(F:Nat)(t:Bs)(hF:4*t.length+40<F)(hl:t.length<=900):∃b,ri F t=some b:=by
 have:aA (fun _=>True) (ri F t):=by
  unfold ri;have hL:(([36,40]:Bs)++t++([41]:Bs)).length=t.length+3:=by simp
  rw [r7 (by grind),r7 (by grind)];have hp:=J8 F ((([36,40]:Bs)++t)++([41]:Bs)) 0 0 om om om;refine aA.bd hp fun r _=>?_;by_cases h:t=[]
  ·simp_all [aK,aH,bw,aA.ok,trivial]
  ·have:=yZ.2 h
   rw [r7 om]
   simp_all [aK,aH,aA.ok,trivial]
 obtain⟨b,-,h⟩:=this;exact⟨b,h⟩
theorem al1(F:Nat)(s:Bs)(a:Nat)(hF:4*s.length+100<F)(hl:s.length<=800)(ha:a<s.length)(h96:s.getD a 0=96):aA (RQ s a) (sJ F s (a:Int)):=by
 unfold sJ;refine aA.bd (J8 F s a 0 om om ha) fun r q=>I7 (fun h=>aA.ok (RQ.err h)) fun h=>?_;obtain⟨e,e1,e2,e3⟩:=q.2.2.1 h96 h;rw [e1,wM om om,bh om];refine aA.lp (fun z:Bs×Int=>∃n:Nat,z.2=(n:Int)/\a+1<=n/\n<=e/\z.1.length<=e-a-2/\z.1.length+a+1<=n) (fun z=>e-z.2.toNat) ⟨a+1,rfl,om,om,si,si⟩ (by grind) ?_
 ·rintro⟨t,_⟩ ⟨n,rfl,g1,g2,g3,g4⟩ rc hrc
  dsimp only at g3 g4 hrc⊢
  have ok:∀b:Bool,∃m:Nat,cond b (((n+1:Nat):Int)) (n:Int)=(m:Int)/\n<=m/\m<=n+1:=fun b=>by
   cases b
   ·grind
   grind
  refine aA.cd (fun h=>?_) fun h=>?_
  ·rw [bQ om om,bh om,bQ om om,bQ om om,bQ om om]
   simp only [aK,aH];generalize hb:(cond (((s.getD (Int.toNat (n:Int)) 0).toNat:Int)==92) _ false:Bool)=b;obtain⟨m,hm,Pu,hm2⟩:=ok b;rw [hm,bh om];have hs:=sI s m (m+1);refine aA.rq (Ja om om om) (aA.rq (dQ om) (hrc _ ⟨m+1,rfl,om,om,?_,?_⟩ ?_))
   ·grind
   ·grind
   grind
  ·refine aA.bd (P:=fun u:Bs=>u.length<=e-a-1) ?_ fun u hu=>?_
   ·refine aA.bd (P:=fun _=>True) ?_ fun b _=>aA.cb (fun _=>aA.rq (decide_eq_true (by grind)) (aA.ok (by grind))) fun _=>aA.ok om
    by_cases ht:t=[]
    ·simp_all [aA.ok,trivial]
    ·have:0<t.length:=yZ.2 ht
     rw [r7 om,aK];exact aA.ok trivial
   refine aA.bd (P:=fun u:Bs=>u.length<=e-a) ?_ fun v hv=>?_
   ·obtain⟨b,hb⟩:=ab3 F u om om
    rw [hb,aH];exact aA.cb (fun _=>aA.rq (decide_eq_true (by grind)) (aA.ok (by grind))) fun _=>aA.ok om
   obtain⟨b,hb⟩:=ab3 F v om om;rw [hb,aH];refine aA.cb (fun _=>aA.ok (RQ.err de)) fun _=>?_
   grind [adw,aA.ok,RQ.one,wT]
theorem Uh(F:Nat)(s:Bs)(hF:s.length<F)(hl:s.length<=1000):∃r,lD F s=some r:=by
 have:aA (fun _=>True) (lD F s):=by
  unfold lD;by_cases h:s=[]
  ·simp_all [aA.ok,trivial]
  have:=yZ.2 h;rw [r7 om];simp only [aK];refine aA.cb (fun _=>aA.ok trivial) fun _=>?_;refine aA.lp (fun i=>∃n:Nat,i.2=(n:Int)/\n<=s.length) (fun i=>s.length-i.2.toNat) ⟨0,rfl,om⟩ (by simp_all) ?_;rintro⟨v,_⟩ ⟨n,rfl,hn⟩ rc hrc;refine aA.cd (fun h=>?_) fun _=>aA.ok trivial;rw [bQ om om,I6,bh om];refine aA.cb (fun _=>aA.ok trivial) fun _=>aA.rq (jN om om) (hrc _ ⟨n+1,rfl,om⟩ (by grind))
 obtain⟨b,-,h⟩:=this;exact⟨b,h⟩
theorem Yc(F:Nat)(s:Bs)(a:Nat)(hF:s.length+20<F)(hl:s.length<=1000)(ha:a<=s.length):aA (fun r=>∃e:Nat,r=(e:Int)/\a<=e/\e<=s.length) (nj F s (a:Int)):=by
 unfold nj;by_cases h:a<s.length
 ·rw [cf om,bQ om om,I6,bQ om om,XL,bQ om om,bh om]
  refine aA.cb (fun _=>?_) fun _=>aA.cb (fun _=>(adt F s a om hl ha).so) fun _=>?_
  ·refine aA.lp (fun i=>∃n:Nat,i=(n:Int)/\a+1<=n/\n<=s.length) (fun i=>s.length-i.toNat) ⟨a+1,rfl,om,h⟩ (by grind) ?_
   rintro _ ⟨n,rfl,h1,h2⟩ rc hrc;by_cases hn:n<s.length
   ·rw [cM om,bQ om om,I6,bh om]
    refine aA.cb (fun _=>aA.rq (Ja om om om) ?_) fun _=>aA.ok ⟨n,rfl,om,h2⟩;have hs:=sI s a (n+1);obtain⟨r,hr⟩:=Uh F (sl s (a:Int) ((n+1:Nat):Int)) om om;rw [hr];exact aA.cb (fun _=>aA.ok ⟨n,rfl,om,h2⟩) fun _=>hrc _ ⟨n+1,rfl,om,om⟩ (by grind)
   ·grind [aA.ok]
  ·obtain⟨b,hb⟩:=J7 F ((s.getD (Int.toNat (a:Int)) 0).toNat:Int) om
   rw [hb];exact aA.cb (fun _=>aA.ok ⟨a+1,rfl,om,om⟩) fun _=>aA.ok ⟨a,rfl,om,om⟩
 ·grind [aA.ok]
theorem op8(F:Nat)(s:Bs)(a:Nat)(hl:s.length<=1000)(ha:a<s.length):aA (fun r=>r.1≠0->∃n:Nat,r.2.2=(n:Int)/\1<=n/\a+n<=s.length) (vF F s (a:Int)):=by
 unfold vF;rw [bQ om om];have z:aA (fun r:Int×Bool×Int=>r.1≠0->∃n:Nat,r.2.2=(n:Int)/\1<=n/\a+n<=s.length) (some (0,false,0)):=aA.ok fun h=>absurd rfl h;have ok:∀(o:Int)(b:Bool)(n:Nat),1<=n->a+n<=s.length->aA (fun r=>r.1≠0->∃n:Nat,r.2.2=(n:Int)/\1<=n/\a+n<=s.length) (some (o,b,(n:Int))):=fun o b n h1 h2=>aA.ok fun _=>⟨n,rfl,h1,h2⟩
 cases hc:(((s.getD (Int.toNat (a:Int)) 0).toNat:Int)==58) with
 | true=>
  rw [bw,bh om];refine aA.cd (fun _=>z) fun h=>?_;rw [show aB (aB (((a+1:Nat):Int)-(a:Int))+1)=((2:Nat):Int) from by grind [bI]]
  exact aA.rq (jN om om) (aA.cb (fun _=>ok _ _ 2 om om) fun _=>aA.rq (jN om om) (aA.cb (fun _=>ok _ _ 2 om om) fun _=>aA.rq (jN om om) (aA.cb (fun _=>ok _ _ 2 om om) fun _=>aA.rq (jN om om) (aA.cb (fun _=>ok _ _ 2 om om) fun _=>z))))
 | false=>
  rw [aU,aH];rw [cf om,show aB (aB ((a:Int)-(a:Int))+1)=((1:Nat):Int) from by simp_all [bI],bh om];refine aA.rq (jN om om) (aA.cb (fun _=>ok _ _ 1 om om) fun _=>aA.rq (jN om om) (aA.cb (fun _=>ok _ _ 1 om om) fun _=>aA.rq (jN om om) (aA.cb (fun _=>ok _ _ 1 om om) fun _=>aA.rq (jN om om) (aA.cb (fun _=>ok _ _ 1 om om) fun _=>?_))))
  have two:∀(k:Int){A B:O (Int×Bool×Int)},(a+1<s.length->aA (fun r=>r.1≠0->∃n:Nat,r.2.2=(n:Int)/\1<=n/\a+n<=s.length) A)->aA (fun r=>r.1≠0->∃n:Nat,r.2.2=(n:Int)/\1<=n/\a+n<=s.length) B ->
    aA (fun r=>r.1≠0->∃n:Nat,r.2.2=(n:Int)/\1<=n/\a+n<=s.length) ((rq ((decide (0<=(a:Int)))&&(decide ((a:Int)<(s.length:Int)))) (cond (((s.getD (Int.toNat (a:Int)) 0).toNat:Int)==k) (some (decide (((a+1:Nat):Int)<(s.length:Int)))) (some false)):O Bool).bind fun x2=>
     (cond x2 (rq ((decide (0<=((a+1:Nat):Int)))&&(decide (((a+1:Nat):Int)<(s.length:Int)))) (some (((s.getD (Int.toNat ((a+1:Nat):Int)) 0).toNat:Int)==k))) (some false):O Bool).bind fun x3=>cond x3 A B):=by
   intro k A B hA hB;rw [bQ om om,aK,aH];by_cases h:a+1<s.length
   ·rw [bQ om om]
    grind
   grind
  refine two 37 (fun h=>ok _ _ 2 om om) (aA.rq (jN om om) (aA.cb (fun _=>ok _ _ 1 om om) fun _=>two 35 (fun h=>ok _ _ 2 om om) (aA.rq (jN om om) (aA.cb (fun _=>ok _ _ 1 om om) fun _=>z))))
theorem akr(F:Nat)(p:Int):∃q,(q=1\/q=3\/q=6)/\zh F p=some q:=by
 unfold zh
 grind
theorem aks(F:Nat)(p:Int):∃q,zi F p=some q:=by
 unfold zi
 simp_all [aK,aH]
theorem anS(F:Nat)(l:J TPart)(t:Bs)(hl:fU l<=10000)(ht:t.length<=10000):aA (fun r=>fU r<=fU l+1+t.length) (Ec F l t):=by
 have h1:=I9 l;unfold Ec;by_cases h:0<l.length
 ·rw [cM om,wM om h,bQ om om,aH]
  refine aA.cb (fun _=>?_) fun _=>aA.rq (nI (by grind) de) (aA.ok (by rw [yK];simp [fU,wT];omega));have e1:sl l 0 ((l.length-1:Nat):Int)=l.take (l.length-1):=by simp [sl]
  have hw:=RC (l:=l) (k:=l.length-1) om;have hp:=I8 (l.getD (l.length-1) kT);have h4:(l.take (l.length-1+1))=l:=Ii om;rw [h4] at hw;simp only [e1,ck];have hL':(([]:J TPart).length+(l.take (l.length-1)).length)=l.length-1:=by simp
  refine aA.rq (jN om om) (aA.rq (nI (by rw [hL'];omega) de) (aA.rq (jN om om) ?_));refine aA.rq (decide_eq_true om) (aA.rq (nI (by grind) de) (aA.ok ?_));rw [yK,pV];simp only [fU,wT,yq];omega
 ·rw [cf om,aH,aU]
  exact aA.rq (nI (by simp_all) de) (aA.ok (by rw [yK];simp [fU,wT];omega))
def PL(p:Int):Prop:=p=1\/p=2\/p=3\/p=6
def RP(s:Bs)(a:Nat)(p:Int)(r:dV):Prop:=r.fE=0->∃e:Nat,r.RE=(e:Int)/\a<=e/\e<=s.length/\fU r.fParts<=2*(e-a)/\(PL p->e<s.length)/\(p=4->e+1<s.length)
theorem RP.err{s:Bs}{a:Nat}{p:Int}{l:J TPart}{x e:Int}(h:e≠0):RP s a p ⟨l,x,e⟩:=fun h'=>absurd h' h
def Q1(F:Nat)(s:Bs)(n:Nat):Prop:=∀(a:Nat)(p lv fr:Int),a<=s.length->6*(s.length-a)+6<=n->aA (RP s a p) ((cU F n).1 s (a:Int) p lv fr)
def Q2(F:Nat)(s:Bs)(n:Nat):Prop:=∀(a:Nat)(p lv:Int),a<s.length->6*(s.length-a)+5<=n->aA (RQ s a) ((cU F n).2.1 s (a:Int) p lv)
def Q3(F:Nat)(s:Bs)(n:Nat):Prop:=∀(a:Nat)(p lv:Int),a<s.length->s.getD a 0=36->6*(s.length-a)+4<=n->aA (RQ s a) ((cU F n).2.2.1 s (a:Int) p lv)
def Q4(F:Nat)(s:Bs)(n:Nat):Prop:=∀(a:Nat)(p lv:Int),a+1<s.length->s.getD a 0=36->6*(s.length-a)+3<=n->aA (RQ s a) ((cU F n).2.2.2.1 s (a:Int) p lv)
def Q5(F:Nat)(s:Bs)(n:Nat):Prop:=∀(a:Nat)(p lv:Int),a+1<s.length->6*(s.length-a)+2<=n->aA (RQ s a) ((cU F n).2.2.2.2.1 s (a:Int) p lv)
def Q6(F:Nat)(s:Bs)(n:Nat):Prop:=∀(a:Nat)(lv:Int),a<s.length->6*(s.length-a)+2<=n->aA (RQ s a) ((cU F n).2.2.2.2.2 s (a:Int) lv)
section
variable {F : Nat} {s : Bs} {n : Nat}
theorem sK{a:Nat}{x e:Int}(h:e≠0):aA (RQ s a) ((dJ F x e).bind fun y=>some y):=aA.ok (RQ.err h)
theorem Iq{a e:Nat}{p:TPart}(h1:a+1<=e)(h2:e<=s.length)(h3:wP p<=2*(e-a)):aA (RQ s a) ((gH F p (e:Int)).bind fun y=>some y):=by
 simp_all [adw,aA.ok,RQ.one]
theorem ady(hF:4*s.length+2000<F)(hl:s.length<=800)(h2:Q2 F s n):Q1 F s (n+1):=by
 intro a p lv fr ha hn;show aA _ (Lj F (cU F n) s (a:Int) p lv fr);refine aA.lp (fun z:Int×J TPart×Int=>∃m:Nat,z.1=(m:Int)/\a<=m/\m<=s.length/\fU z.2.1<=2*(m-a)) (fun z=>s.length-z.1.toNat) ⟨a,rfl,om,ha,by simp [fU]⟩ (by grind) ?_;rintro⟨_,l,op⟩ ⟨m,rfl,g1,g2,g3⟩ rc hrc;dsimp only at g3 hrc⊢;refine aA.cd (fun h=>?_) fun h=>?_
 ·have h:m<s.length:=om
  obtain⟨b,hb⟩:=anQ F s m p op h;rw [hb,aH,bh om,aK,aH];refine aA.cb (fun _=>?_) fun _=>?_
  ·refine aA.cb (fun _=>aA.ok (RP.err de)) fun h4=>?_
   have hp4:p=4->m+1<s.length:=fun e=>by
    grind
   refine aA.bd (P:=fun _=>True) ?_ fun b _=>aA.cb (fun _=>aA.ok (RP.err de)) fun _=>aA.ok fun _=>⟨m,rfl,g1,g2,g3,fun _=>h,hp4⟩
   cases e4:(p==4) with
   | false=>exact aA.ok trivial
   | true=>have:=hp4 (by simpa using e4);exact aA.rq (jN om om) (aA.ok trivial)
  ·obtain⟨tb,htb⟩:=al0 F s m p om om h
   rw [htb];simp only [aH,aK];refine aA.cb (fun _=>aA.rq (nI (by simp_all) de) (hrc _ ⟨m+1,rfl,om,om,?_⟩ ?_)) fun _=>?_
   ·rw [yK];simp only [fU,wT,Qh];omega
   ·grind
   rw [bQ om om,bQ om om];simp only [aH,aK];refine aA.bd (h2 m p lv h om) fun r q=>I7 (fun h=>aA.ok fun e=>absurd e h) fun h0=>?_;obtain⟨e,e1,e2,e3,e4,e5⟩:=q h0;refine aA.lp (fun z:J TPart×Int=>∃k:Nat,z.2=(k:Int)/\k<=r.fParts.length/\fU z.1<=fU l+fU (r.fParts.take k)) (fun z=>r.fParts.length-z.2.toNat) ⟨0,rfl,om,si⟩ (by grind) ?_;rintro⟨l',_⟩ ⟨k,rfl,k1,k2⟩ rc' Ip;dsimp only at k2 Ip⊢;have hwt:=J9 r.fParts k;have hlen':=I9 l';refine aA.cd (fun h=>?_) fun h=>?_
   ·have hk:k<r.fParts.length:=om
    have hwk:=RC hk;have hp:=I8 (r.fParts.getD k kT);have hm:=ab2 hk;rw [bQ om om,bh om,bQ om om,bQ om om];simp only [ck];refine aA.cb (fun _=>aA.bd (anS F l' _ om om) fun u hu=>Ip _ ⟨k+1,rfl,hk,by dsimp only;omega⟩ ?_) fun _=>aA.rq (nI (by grind) de) (Ip _ ⟨k+1,rfl,hk,?_⟩ ?_)
    ·grind
    ·rw [yK];simp only [fU];omega
    grind
   ·rw [e1]
    exact hrc _ ⟨e,rfl,om,e3,by dsimp only;omega⟩ (by grind)
 ·rw [aK,aH]
  refine aA.cb (fun hp=>aA.ok fun _=>⟨m,rfl,g1,g2,g3,fun h=>?_,fun h=>?_⟩) fun _=>aA.ok (RP.err de)
  ·exfalso;rcases h with rfl|rfl|rfl|rfl<;>exact absurd hp de
  simp_all
theorem afB(hF:4*s.length+2000<F)(hl:s.length<=800)(h3:Q3 F s n)(h6:Q6 F s n):Q2 F s (n+1):=by
 intro a p lv ha hn;show aA _ (FC F (cU F n) s (a:Int) p lv);unfold FC;rw [bQ om om];refine aA.cb (fun _=>(akq F s a p om ha).so) fun _=>aA.cb (fun h=>(al1 F s a om hl ha ?_).so) fun _=>aA.cb (fun h=>(h3 a p lv ha ?_ om).so) fun _=>?_
 ·simp_all [ck,qR]
 ·simp_all [ck,qR]
 obtain⟨ob,Li⟩:=alY F ((s.getD (Int.toNat (a:Int)) 0).toNat:Int);rw [adx,afz,Li];simp only [aH,aK];refine aA.cb (fun _=>(h6 a lv ha om).so) fun _=>aA.cb (fun _=>sK de) fun _=>aA.cb (fun _=>sK de) fun _=>?_;rw [bh om];have hs:=sI s a (a+1);exact aA.rq (Ja om om om) (Iq om om (by rw [wT];omega))
theorem aaT(hF:4*s.length+2000<F)(hl:s.length<=800)(h4:Q4 F s n):Q3 F s (n+1):=by
 intro a p lv ha Yd hn;show aA _ (Jb F (cU F n) s (a:Int) p lv);refine aA.bd (alX F s a om om ha) fun b hb=>aA.cb (fun h=>(h4 a p lv (hb.1 h).1 Yd om).so) fun _=>?_;rw [adx,bh om];refine aA.bd (P:=fun _=>True) ?_ fun _ _=>aA.cb (fun _=>sK de) fun _=>Iq om om (by show 1+1<=_;omega);refine aA.cb (fun _=>?_) fun _=>aA.ok trivial;have hj:=(Ug F s (a+1) om om).tr;exact aA.cd (fun h=>aA.rq (jN om om) (aA.cb (fun _=>aA.ok trivial) fun _=>hj.so)) fun _=>hj.so
theorem adz(hF:4*s.length+2000<F)(hl:s.length<=800)(h1:Q1 F s n)(h5:Q5 F s n):Q4 F s (n+1):=by
 intro a p lv ha Yd hn;show aA _ (wO F (cU F n) s (a:Int) p lv);unfold wO;rw [bh om,bQ om om,bI om,show (a:Int)+2=((a+2:Nat):Int) from rfl];refine aA.cb (fun _=>(h5 a p lv ha om).so) fun _=>?_;rw [aK,aH];refine aA.bd (P:=fun b=>b=true->a+2<s.length) ?_ fun b hb=>aA.cb (fun h=>?_) fun _=>?_
 ·refine aA.cb (fun h=>?_) fun _=>aA.ok fun h=>nomatch h
  rw [cF] at h
  grind [aA.rq,jN,aA.ok]
 ·have h2:=hb h
  refine aA.cd (fun _=>sK de) fun _=>?_;rw [bI om];refine aA.bd (h1 (a+3) 4 _ _ om om) fun r q=>I7 (fun h=>aA.ok fun e=>absurd e h) fun h0=>?_;obtain⟨e,e1,e2,e3,e4,-,e6⟩:=q h0;rw [e1,bI om,show (e:Int)+2=((e+2:Nat):Int) from rfl];exact Iq om om (by grind [wN,List.length_nil])
 ·refine aA.cb (fun h40=>?_) fun _=>?_
  ·have h40:s.getD (a+1) 0=40:=by simp_all [ck,qR]
   obtain⟨q,hq⟩:=aks F p;rw [hq,aH];refine aA.bd (J8 F s a q om om om) fun r hr=>I7 (fun h=>aA.ok (RQ.err h)) fun h0=>?_;obtain⟨e,e1,e2,e3⟩:=hr.2.2.2 Yd h40 h0;rw [e1,wM om om];have hs:=sI s (a+2) (e-1)
   grind [aA.rq,Ja,Iq,wT]
  ·obtain⟨b,hb⟩:=J7 F ((s.getD (Int.toNat ((a+1:Nat):Int)) 0).toNat:Int) om
   rw [hb];have hs:=sI s (a+1) (a+2);refine aA.cb (fun _=>aA.rq (Ja om om om) (Iq om om (by rw [wT];omega))) fun _=>?_;refine aA.bd (adt F s (a+1) om om om) fun r ⟨e,e1,e2,e3⟩=>?_;rw [e1];have hs:=sI s (a+1) e;exact aA.cd (fun _=>sK de) fun _=>aA.rq (Ja om om om) (Iq om om (by rw [wT];omega))
theorem aaU(hF:4*s.length+2000<F)(hl:s.length<=800)(h1:Q1 F s n):Q6 F s (n+1):=by
 intro a lv ha hn;show aA _ (Bj F (cU F n) s (a:Int) lv);unfold Bj;rw [bQ om om,bh om];refine aA.cb (fun h39=>?_) fun _=>aA.cd (fun _=>sK de) fun _=>?_
 ·have h39:s.getD a 0=39:=by simp_all [ck,qR]
  refine aA.bd (J8 F s a 0 om om ha) fun r hr=>I7 (fun h=>aA.ok (RQ.err h)) fun h0=>?_;obtain⟨e,e1,e2,e3⟩:=hr.2.1 h39 rfl h0;rw [e1,wM om om];have hs:=sI s (a+1) (e-1)
  grind [aA.rq,Ja,Iq,wT]
 ·refine aA.bd (h1 (a+1) 2 _ _ om om) fun r q=>I7 (fun h=>aA.ok fun e=>absurd e h) fun h0=>?_
  obtain⟨e,e1,e2,e3,e4,e5,-⟩:=q h0;have:=e5 (.inr (.inl rfl));rw [e1,bh om];exact Iq om om (by grind [wN,List.length_nil])
theorem aaV(hF:4*s.length+2000<F)(hl:s.length<=800)(h1:Q1 F s n):Q5 F s (n+1):=by
 intro a p lv ha hn;show aA _ (Bl F (cU F n) s (a:Int) p lv);unfold Bl;rw [bI om,show (a:Int)+2=((a+2:Nat):Int) from rfl,bh om];refine aA.jj (P:=fun x=>∀r,x=.inr r->RQ s a r) ?_ (fun _ _=>?_) fun r h=>h r rfl
 ·have ok:aA (fun x:Unit ⊕ dV=>∀r,x=.inr r->RQ s a r) (some (.inl ())):=aA.ok fun r h=>nomatch h
  have er:∀ {x e:Int},e≠0->aA (fun x:Unit ⊕ dV=>∀r,x=.inr r->RQ s a r) ((dJ F x e).bind fun y=>some (.inr y)):=fun h=>aA.ok fun r e=>by cases e;exact RQ.err h
  refine aA.bd (P:=fun b=>b=true->a+2<s.length) (aA.cd (fun h=>aA.rq (jN om om) (aA.ok fun _=>om)) fun _=>aA.ok fun h=>nomatch h) fun b hb=>aA.cb (fun h=>?_) fun _=>ok;have h2:=hb h;refine aA.bd (Yc F s (a+3) om om om) fun r ⟨e,e1,e2,e3⟩=>?_;rw [e1];refine aA.cd (fun _=>er de) fun _=>?_;refine aA.bd (P:=fun b=>b=true->a+3<e/\e<s.length) ?_ fun b hb=>?_
  ·refine aA.cd (fun h=>?_) fun _=>aA.ok fun h=>nomatch h
   exact aA.ok fun h'=>⟨om,by simp_all⟩
  refine aA.bd (P:=fun b=>b=true->a+3<e/\e<s.length) (aA.cb (fun h=>aA.rq (jN om (by have:=hb h;omega)) (aA.ok fun _=>hb h)) fun _=>aA.ok fun h=>nomatch h) fun b hb=>aA.cb (fun h=>?_) fun _=>?_
  ·have:=hb h
   have hs:=sI s (a+2+1) e;rw [bh om,adw];exact aA.rq (Ja om om om) (aA.ok fun r h=>by cases h;exact RQ.one om om (by rw [wT];omega))
  grind
 refine aA.bd (Yc F s (a+2) om om om) fun r ⟨e,e1,e2,e3⟩=>?_;rw [e1];refine aA.cd (fun _=>sK de) fun _=>?_;rw [aK,aH];refine aA.cb (fun _=>sK de) fun hx=>?_
 have he:e<s.length:=by
  grind
 refine aA.cb (fun _=>sK de) fun _=>aA.rq (Ja om om om) (aA.rq (jN om om) (aA.cb (fun _=>?_) fun _=>?_))
 ·rw [bh om]
  have hs:=sI s (a+2) e;exact Iq om om (by show wP (.mk 4 (sl s ((a+2:Nat):Int) (e:Int)) 0 false [])<=_;rw [wT];omega)
 refine aA.bd (op8 F s e om he) fun⟨o1,o2,o3⟩ ho=>?_;by_cases RG:o1=0
 ·subst RG
  show aA _ (Option.bind _ _);rw [bQ om om,aK,aH];refine aA.cb (fun _=>sK de) fun _=>aA.rq (jN om om) (aA.cb (fun _=>sK de) fun _=>aA.rq (jN om om) (aA.cb (fun _=>?_) fun _=>sK de));exact aA.bd (Yc F s (a+3) om om om) fun r _=>sK de
 ·obtain⟨k,k1,k2,k3⟩:=ho RG
  clear ho;subst k1;rw [show (o1==0)=false from by simpa using RG,aU,bI (x:=(e:Int)+(k:Int)) om];refine aA.cd (fun _=>sK de) fun _=>aA.bd (Ug F s (e+k) om om) fun b _=>aA.cb (fun _=>sK de) fun _=>?_;obtain⟨q,hq,Ye⟩:=akr F p;rw [Ye,aH];refine aA.bd (h1 (e+k) q _ _ om om) fun r hr=>I7 (fun h=>aA.ok fun e=>absurd e h) fun h0=>?_;obtain⟨f,f1,f2,f3,f4,f5,-⟩:=hr h0;have:=f5 (by unfold PL;omega);rw [f1,bh om];have hs:=sI s (a+2) e;exact Iq om om (by show wP (.mk 4 (sl s ((a+2:Nat):Int) (e:Int)) o1 o2 r.fParts)<=_;rw [wN];omega)
theorem VG(hF:4*s.length+2000<F)(hl:s.length<=800):∀n,Q1 F s n/\Q2 F s n/\Q3 F s n/\Q4 F s n/\Q5 F s n/\Q6 F s n
 | 0=>⟨fun _ _ _ _ _ h=>om,fun _ _ _ _ h=>om,fun _ _ _ _ _ h=>om,fun _ _ _ _ _ h=>om,fun _ _ _ _ h=>om,fun _ _ _ h=>om⟩
 | n+1=>by
  obtain⟨h1,h2,h3,h4,h5,h6⟩:=VG hF hl n;exact⟨ady hF hl h2,afB hF hl h3 h6,aaT hF hl h4,adz hF hl h1 h5,aaV hF hl h1,aaU hF hl h1⟩
end
theorem al2(F:Nat)(s:Bs)(hF:8000<F)(hl:s.length<=800):aA (fun r=>fU r.1<=2*s.length) (B5 F s):=by
 unfold B5;rw [cf om];refine aA.bd ((VG om hl F).1 0 0 1 0 om om) fun r q=>I7 (fun h=>aA.ok (by simp [fU])) fun h0=>?_;obtain⟨e,e1,e2,e3,e4,-⟩:=q h0
 grind [aA.ok]
theorem Ed(F:Nat)(s:Bs)(hF:40<F):aA (fun b=>b=true->s.length<=32) (eU F s):=by
 unfold eU;by_cases h:s=[]
 ·simp_all [aA.ok]
 have:=yZ.2 h;rw [r7 om,I6];simp only [aK,aH];by_cases h2:s.length<=32
 ·refine aA.cb (fun _=>aA.ok fun h=>nomatch h) fun _=>?_
  refine aA.lp (fun i=>∃n:Nat,i=(n:Int)/\n<=s.length) (fun i=>s.length-i.toNat) ⟨0,rfl,om⟩ (by grind) ?_;rintro _ ⟨n,rfl,hn⟩ rc hrc;refine aA.cd (fun h=>?_) fun _=>aA.ok fun _=>h2;rw [bQ om om,XL,bh om];exact aA.cb (fun _=>aA.ok fun h=>nomatch h) fun _=>hrc _ ⟨n+1,rfl,om⟩ (by grind)
 grind [dT,aA.ok]
def j8(l:J bD)(n:Bs):bD×Bool:=(l.find? fun v=>v.fName==n).elim (bD.mk [] [] false false false,false) fun v=>(v,true)
theorem xP(F:Nat)(l:J bD)(n:Bs)(hF:l.length<F)(hl:l.length<=1000):qg F l n=some (j8 l n):=by
 unfold qg;rw [qh l (fun i=>(i:Int)) (fun v=>v.fName==n) (fun i v=>some (v,true)) (some (bD.mk [] [] false false false,false)) (s:=(0:Int)) hF rfl (fun i h rc=>?_) (fun rc=>?_)]
 ·rw [Mx];unfold j8;cases l.find? _<;>rfl
 ·rw [cM om,bQ om om,bQ om om,ck,gd h,bh om]
 ·rw [cf om]
def GV(l:J bD):Prop:=l.length<=128/\∀v∈l,v.fName.length<=60/\v.bJ.length<=4096
theorem Ow{l:J bD}(h:GV l)(n:Bs):(j8 l n).1.fName.length<=60/\(j8 l n).1.bJ.length<=4096:=by
 unfold j8
 cases e:l.find? fun v=>v.fName==n with
 | none=>simp_all
 | some v=>exact h.2 v (XD e)
def mz(v:bD):J bD->Bool->J bD
 | [],d=>cond d [] [v]
 | x::l,d=>cond (!d && !(Op.bytesLess x.fName v.fName)) [v] []++(cond (x.fName==v.fName) [] [x]++mz v l (d || !(Op.bytesLess x.fName v.fName)))
theorem Yf(v:bD):∀(l:J bD)(d:Bool),(mz v l d).length=(cond d 0 1)+(l.filter fun x=>!(x.fName==v.fName)).length
 | [],d=>by cases d<;>rfl
 | x::l,d=>by
  simp only [mz,yq,Yf v l,List.filter_cons];cases d<;>cases (x.fName==v.fName)<;>cases (Op.bytesLess x.fName v.fName)<;>simp<;>omega
theorem Qq(v:bD):∀(l:J bD)(d:Bool),∀x∈mz v l d,x=v\/x∈l
 | [],d,x,h=>by cases d<;>simp [mz] at h;exact .inl h
 | y::l,d,x,h=>by
  simp [mz] at h;rcases h with h|h|h
  ·revert h;cases (!d && !(Op.bytesLess y.fName v.fName))<;>simp
   exact fun h=>.inl h
  ·revert h;cases (y.fName==v.fName)<;>simp
   exact fun h=>.inr (.inl h)
  ·rcases Qq v l _ x h with h|h
   ·exact .inl h
   ·exact .inr (pT _ h)
theorem Ox(F:Nat)(l:J bD)(v:bD)(hF:l.length<F)(hl:l.length<=1000):yL F l v=some (mz v l false):=by
 have:aA (fun r=>r=mz v l false) (yL F l v):=by
  unfold yL;refine aA.lp (fun z:J bD×Bool×Int=>∃k:Nat,z.2.2=(k:Int)/\k<=l.length/\z.1.length<=2*k/\z.1++mz v (l.drop k) z.2.1=mz v l false) (fun z=>l.length-z.2.2.toNat) ⟨0,rfl,om,si,si⟩ (by simp_all) ?_;rintro⟨o,d,_⟩ ⟨k,rfl,h1,h2,h3⟩ rc hrc;dsimp only at h2 h3 hrc⊢;refine aA.cd (fun h=>?_) fun h=>?_
  ·have hk:k<l.length:=om
   rw [Mn hk] at h3;simp only [mz] at h3;rw [bQ om om,bh om,ck,gd hk];simp only [aK,aH,cF]
   have go:∀(o':J bD)(d':Bool),o'.length<=2*k+1->o'++(cond (l[k].fName==v.fName) [] [l[k]]++mz v (l.drop (k+1)) d')=mz v l false ->
     aA (fun r=>r=mz v l false) (cond (!(l[k].fName==v.fName)) (rq ((decide (0<=(k:Int)))&&(decide ((k:Int)<(l.length:Int)))) (rq ((decide (o'.length+([l[k]]:J bD).length<=9223372036854775807))&&(decide ((o'.length+([l[k]]:J bD).length)*40<=140737488355328))) (rc (o'++([l[k]]:J bD),d',((k+1:Nat):Int))))) (rc (o',d',((k+1:Nat):Int)))):=by
    intro o' d' ho he;have hm:l.length-Int.toNat ((k+1:Nat):Int)<l.length-Int.toNat (k:Int):=by grind
    cases e:(l[k].fName==v.fName) with
    | true=>
     grind
    | false=>
     grind [aA.rq,jN,nI]
   cases e:(!d && !(Op.bytesLess l[k].fName v.fName)) with
   | true=>
    rw [e] at h3;rw [cx] at e;have hd:d=false:=by simpa using e.1
    subst hd;rw [cond_true,cE (nI (by grind) de),Option.bind_some];rw [e.2,Bool.or_true] at h3
    grind [aA.rq,jN]
   | false=>
    rw [e] at h3
    have hd:(d || !(Op.bytesLess l[k].fName v.fName))=d:=by
     cases d
     ·simpa using e
     ·rfl
    grind [aA.rq,jN]
  ·obtain rfl:k=l.length:=om
   rw [Qf] at h3;simp only [mz] at h3
   grind [aA.ok,aA.rq,nI]
 obtain⟨r,h,e⟩:=this;rw [e,h]
theorem ab4{l:J bD}(h:GV l){v:bD}(hn:v.fName.length<=60/\v.bJ.length<=4096)(hc:(j8 l v.fName).2=true\/l.length<128):GV (mz v l false):=by
 refine⟨?_,fun x hx=>?_⟩
 ·rw [Yf]
  show 1+_<=_;have h1:(l.filter fun x=>!(x.fName==v.fName)).length<=l.length:=List.length_filter_le _ _;rcases hc with hc|hc
  ·unfold j8 at hc
   cases e:l.find? fun x=>x.fName==v.fName with
   | none=>simp_all
   | some y=>
    have:(l.filter fun x=>!(x.fName==v.fName)).length<l.length:=by
     grind [Nat.lt_or_ge,List.length_filter_eq_length_iff,Nat.le_antisymm]
    have:=h.1;omega
  ·omega
 ·rcases Qq v l false x hx with rfl|hx
  ·exact hn
  ·exact h.2 x hx
theorem anT(F:Nat){l:J bD}(h:GV l)(n v:Bs)(hF:1000<F):aA (fun r=>GV r.1) (sg F l n v):=by
 have hl:=h.1;unfold sg;rw [xP F l n om om,aH];refine aA.bd (Ed F n om) fun b hb=>aA.cb (fun _=>aA.ok h) fun hb'=>aA.cb (fun _=>aA.ok h) fun _=>aA.cd (fun _=>aA.ok h) fun hv=>?_
 grind [Ox,aA.ok,ab4,of_decide_eq_false]
theorem al3(F:Nat){l:J bD}(h:GV l)(n:Bs)(a b:Bool)(hF:1000<F):aA (fun r=>GV r.1) (qi F l n a b):=by
 have hl:=h.1;refine aA.bd (Ed F n om) fun b hb=>aA.cb (fun _=>aA.ok h) fun hb'=>?_;rw [xP F l n om om,aH,aK,aH];rw [aK,aH,aK,aH,Ox F l _ om om]
 grind [aA.ok,ab4,Ow,of_decide_eq_false]
theorem afC(F:Nat)(l:J Bs)(g:Bs)(hF:l.length<F)(h1:l.length<=100)(h2:∀x∈l,x.length<=60)(hg:g.length<=1):aA (fun r=>r.length<=61*l.length) (sM F l g):=by
 refine aA.lp (fun z=>∃k:Nat,z.2=(k:Int)/\k<=l.length/\z.1.length<=61*k) (fun z=>l.length-z.2.toNat) ⟨0,rfl,om,si⟩ (by simp_all) ?_;rintro⟨o,_⟩ ⟨k,rfl,h3,h4⟩ rc hrc;dsimp only at h4 hrc⊢;refine aA.cd (fun h=>?_) fun _=>aA.ok (by grind);have hk:k<l.length:=om;refine aA.bd (P:=fun u=>u.length<=o.length+1) (aA.cd (fun _=>aA.rq (dQ om) (aA.ok (by simp_all))) fun _=>aA.ok om) fun u hu=>?_;have hx:=h2 _ (ko hk);rw [bQ om om,ck,gd hk,bh om];exact aA.rq (decide_eq_true om) (hrc _ ⟨k+1,rfl,hk,by grind⟩ (by grind))
theorem afD(F:Nat){l:J bD}(h:GV l)(hF:1000<F):aA (fun r=>r.length<=1) (sN F l):=by
 have hl:=h.1;unfold sN;rw [xP F l _ om om];refine aA.cb (fun _=>aA.ok de) fun _=>?_
 cases e:((j8 l [73,70,83]).1.bJ==[]) with
 | true=>exact aA.ok (fL _)
 | false=>
  have:(j8 l [73,70,83]).1.bJ≠[]:=by simpa using e
  have:=yZ.2 this;exact aA.rq (dQ om) (aA.ok (sI _ 0 1))
theorem akt(F:Nat)(o:Int)(hF:20<F):aA (fun r=>r.length<=8) (wZ F o):=by
 refine aA.lp (fun z=>∃k:Nat,z.2=(k:Int)/\k<=8/\z.1.length<=k) (fun z=>8-z.2.toNat) ⟨0,rfl,om,si⟩ (by show 8-0<F;omega) ?_;rintro⟨u,_⟩ ⟨k,rfl,h3,h4⟩ rc hrc;dsimp only at h4 hrc⊢;have L1:([32,128,1,8,64,16,2,4]:J Int).length=8:=rfl;have L2:([97,67,101,102,109,110,117,120]:Bs).length=8:=rfl;refine aA.cd (fun h=>?_) fun _=>aA.ok (by grind);rw [bQ om om,bh om];have hs:=sI [97,67,101,102,109,110,117,120] k (k+1);have hm:8-Int.toNat ((k+1:Nat):Int)<8-Int.toNat (k:Int):=om;exact aA.cb (fun _=>aA.rq (Ja om om om) (aA.rq (decide_eq_true om) (hrc _ ⟨k+1,rfl,om,by grind⟩ hm))) fun _=>hrc _ ⟨k+1,rfl,om,by dsimp only;omega⟩ hm
end Go.Proofs.YtlgmlcgjmcmmgaaGreatDoor
