import Derived.Test.YtpgbhdldcmcenaaGreatDoorZ2
import Derived.Test.YtpgbhdldcmcenaaGreatDoorSo
import Derived.Test.YtpgbhdldcmcenaaGreatDoorPe
set_option linter.all false
namespace Go.Proofs.YtpgbhdldcmcenaaGreatDoor
open Go.RT
set_option maxRecDepth 100000
theorem JN(F:Nat)(c:Int):kN F c=some (decide (48<=c)&&decide (c<=57)):=by
 unfold kN wx;rw [aH,cF];rfl
theorem alK(F:Nat)(c:Int):sx F c=some ((decide (97<=c)&&decide (c<=122))||(decide (65<=c)&&decide (c<=90))):=by
 unfold sx wx;grind
def ape(c:Int):Bool:=((decide (97<=c)&&decide (c<=122))||(decide (65<=c)&&decide (c<=90)))||(decide (48<=c)&&decide (c<=57))||c==95
theorem YO(F:Nat)(c:Int):pq F c=some (ape c):=by
 unfold pq wx;rw [alK];simp [JN,aH];rfl
theorem aqD(F:Nat)(l:Bs)(c:Int)(hF:l.length<F)(hl:l.length<=1000):∃b,HU F l c=some b:=by
 have:aA (fun _=>True) (HU F l c):=by
  refine aA.lp (fun i=>∃n:Nat,i=(n:Int)/\n<=l.length) (fun i=>l.length-i.toNat) ⟨0,rfl,om⟩ (by simp_all) ?_;rintro _ ⟨n,rfl,hn⟩ rc hrc;refine aA.cd (fun h=>?_) fun _=>aA.ok trivial;refine aA.rq (lF om om) (aA.cb (fun _=>aA.ok trivial) fun _=>?_);rw [bx om];exact hrc _ ⟨n+1,rfl,om⟩ (by grind)
 obtain⟨b,-,h⟩:=this;exact⟨b,h⟩
theorem KO(F:Nat)(c:Int)(hF:10<F):∃b,mC F c=some b:=by
 obtain⟨b,hb⟩:=aqD F [64,42,35,63,45,36,33] c (by show 7<F;omega) de;unfold mC wx
 simp_all [JN,aC,aH]
def EX(s:Bs)(a:Nat)(b:Bool):Prop:=(b=true->a+1<s.length/\s.getD a 0=36)/\(s.getD a 0=36->s.getD (a+1) 0=40->b=true)
variable{s:Bs}{a:Nat}
theorem aqE(h:s.getD a 0=40):a<s.length:=by
 grind
theorem ano(F:Nat)(s:Bs)(a:Nat)(hF:10<F)(hl:s.length<=1000)(ha:a<s.length):aA (EX s a) (qT F s (a:Int)):=by
 unfold qT wx;rw [bx om];by_cases h:a+1<s.length
 ·rw [cf om,b9 om om,Zc _ 36 de]
  refine aA.cb (fun h0=>aA.ok ⟨fun h=>(nomatch h),fun h'=>?_⟩) fun h0=>?_
  ·simp_all
  have h0:s.getD a 0=36:=by simpa using h0
  rw [b9 om om,YO];obtain⟨b,hb⟩:=KO F ((s.getD (Int.toNat ((a+1:Nat):Int)) 0).toNat:Int) hF;rw [hb];simp [aH];refine aA.ok ⟨fun _=>⟨h,h0⟩,fun _ h4=>?_⟩
  simp_all
 ·rw [cz om]
  exact aA.ok ⟨fun h=>(nomatch h),fun _ h4=>absurd (aqE h4) h⟩
theorem aet(F:Nat)(s:Bs)(a:Nat)(hF:s.length<F)(hl:s.length<=1000)(ha:a<=s.length):aA (fun r=>∃e:Nat,r=(e:Int)/\a<=e/\e<=s.length) (w5 F s (a:Int)):=by
 refine aA.lp (fun i=>∃n:Nat,i=(n:Int)/\a<=n/\n<=s.length) (fun i=>s.length-i.toNat) ⟨a,rfl,om,ha⟩ (by grind) ?_;rintro _ ⟨n,rfl,h1,h2⟩ rc hrc;by_cases h:n<s.length
 ·rw [cz om,b9 om om,YO]
  refine aA.cb (fun _=>?_) fun _=>aA.ok ⟨n,rfl,h1,h2⟩;rw [bx om];exact hrc _ ⟨n+1,rfl,om,om⟩ (by grind)
 ·grind [aA.ok]
theorem aiP(F:Nat)(s:Bs)(a:Nat)(hF:s.length<F)(hl:s.length<=1000)(ha:a<=s.length):aA (fun r=>∃e:Nat,r=(e:Int)/\a<=e/\e<=s.length/\(s.getD a 0≠10->a<s.length->a<e)) (D7 F s (a:Int)):=by
 refine aA.lp (fun i=>∃n:Nat,i=(n:Int)/\a<=n/\n<=s.length) (fun i=>s.length-i.toNat) ⟨a,rfl,om,ha⟩ (by grind) ?_;rintro _ ⟨n,rfl,h1,h2⟩ rc hrc;by_cases h:n<s.length
 ·rw [cz om,b9 om om]
  refine aA.cb (fun _=>?_) fun h0=>aA.ok ⟨n,rfl,h1,h2,fun h3 _=>?_⟩
  ·rw [bx om]
   exact hrc _ ⟨n+1,rfl,om,om⟩ (by grind)
  ·by_cases e:a=n
   ·simp_all [bZ,Zc]
   ·omega
 ·grind [aA.ok]
theorem ac2(F:Nat)(s:Bs)(a:Nat)(hl:s.length<=1000)(ha:a<=s.length):aA (fun b=>b=true->a+1<s.length) (Ao F s (a:Int)):=by
 unfold Ao wx;rw [bx om];by_cases h:a+1<s.length
 ·rw [cz om,b9 om om,aC,b9 om om,aH]
  exact aA.ok fun _=>h
 ·rw [cf om]
  simp_all [aA.ok]
theorem agA(F:Nat)(c:Int):yy F c=some (c==9||c==32):=by unfold yy wx;rw [aH];rfl
theorem anp(F:Nat)(c:Int):∃b,vA F c=some b:=by unfold vA wx;simp_all [aH,cT,aC]
def PQ(s:Bs)(a k:Nat)(r:Int×Int):Prop:=r.2=0->∃e:Nat,r.1=(e:Int)/\a+k<=e/\e<=s.length
variable{k:Nat}{x e:Int}
theorem PQ.err(h:e≠0):PQ s a k (x,e):=fun h'=>absurd h' h
theorem PQ.le{j:Nat}{r:Int×Int}(h:PQ s a k r)(hj:j<=k):PQ s a j r:=fun e=>by
 obtain⟨e,h1,h2,h3⟩:=h e;grind
theorem aA.pair{A B:Type}{x:O (A×B)}{Q:A×B->Prop}(h:aA Q x):aA Q (x.bind fun y=>some (y.1,y.2)):=by
 obtain⟨r,h,rfl⟩:=h;exact⟨_,h,rfl⟩
theorem alL(F:Nat)(s:Bs)(a:Nat)(hF:s.length<F)(hl:s.length<=1000)(ha:a<s.length):aA (PQ s a 2) (Ap F s (a:Int)):=by
 unfold Ap wx;rw [bx om];refine aA.lp (fun i=>∃n:Nat,i=(n:Int)/\a+1<=n/\n<=s.length) (fun i=>s.length-i.toNat) ⟨a+1,rfl,om,ha⟩ (by grind) ?_;rintro _ ⟨n,rfl,h1,h2⟩ rc hrc;refine aA.cd (fun h=>?_) fun _=>aA.ok (PQ.err de);rw [b9 om om,bx om];exact aA.cb (fun _=>aA.ok fun _=>⟨n+1,rfl,om,om⟩) fun _=>hrc _ ⟨n+1,rfl,om,om⟩ (by grind)
theorem anq(F:Nat)(s:Bs)(a:Nat)(hF:s.length+2<F)(hl:s.length<=1000)(ha:a<s.length):aA (PQ s a 2) (tO F s (a:Int)):=by
 unfold tO wx;rw [bx om];refine aA.lp (fun i=>∃n:Nat,i=(n:Int)/\a+1<=n/\n<=s.length+1) (fun i=>s.length+1-i.toNat) ⟨a+1,rfl,om,om⟩ (by grind) ?_;rintro _ ⟨n,rfl,h1,h2⟩ rc hrc;refine aA.cd (fun h=>?_) fun _=>aA.ok (PQ.err de);rw [b9 om om,bx om];refine aA.cb (fun _=>aA.ok fun _=>⟨n+1,rfl,om,om⟩) fun _=>?_;rw [b9 om om,aH];refine aA.cb (fun _=>aA.ok (PQ.err de)) fun hb=>?_;rw [b9 om om];refine aA.cb (fun h9=>?_) fun _=>hrc _ ⟨n+1,rfl,om,om⟩ (by grind);rw [bx om];exact hrc _ ⟨n+2,rfl,om,om⟩ (by grind)
def P1(F:Nat)(s:Bs)(n:Nat):Prop:=∀(a:Nat)(p:Int),a<s.length->4*(s.length-a)+4<=n->aA (fun r=>PQ s a 1 r/\(s.getD a 0=39->p=0->PQ s a 2 r)/\(s.getD a 0=96->PQ s a 2 r)/\(s.getD a 0=36->s.getD (a+1) 0=40->PQ s a 3 r)) ((dn F n).1 s (a:Int) p)
def P2(F:Nat)(s:Bs)(n:Nat):Prop:=∀(a:Nat)(p:Int),a+1<s.length->4*(s.length-a)+3<=n->aA (fun r=>PQ s a 1 r/\(s.getD (a+1) 0=40->PQ s a 3 r)) ((dn F n).2.1 s (a:Int) p)
def P3(F:Nat)(s:Bs)(n:Nat):Prop:=∀(a:Nat)(p:Int),a+1<s.length->4*(s.length-a)+2<=n->aA (PQ s a 3) ((dn F n).2.2.1 s (a:Int) p)
def P4(F:Nat)(s:Bs)(n:Nat):Prop:=∀(a:Nat),a+2<s.length->4*(s.length-a)+2<=n->aA (PQ s a 3) ((dn F n).2.2.2.1 s (a:Int))
def P5(F:Nat)(s:Bs)(n:Nat):Prop:=∀(a:Nat),a+1<s.length->4*(s.length-a)+2<=n->aA (PQ s a 3) ((dn F n).2.2.2.2.1 s (a:Int))
def P6(F:Nat)(s:Bs)(n:Nat):Prop:=∀(a:Nat),a<s.length->4*(s.length-a)+2<=n->aA (PQ s a 2) ((dn F n).2.2.2.2.2 s (a:Int))
variable{F n:Nat}{R:Type}{Q:R->Prop}
theorem agB(hF:s.length+20<F)(hl:s.length<=1000)(h2:P2 F s n)(h6:P6 F s n):P1 F s (n+1):=by
 intro a p ha hn;show aA _ (Gk F (dn F n) s (a:Int) p);unfold Gk wx;rw [b9 om om,bx om,aH]
 have hb:∀(k:Nat),k<256->∀b:Bool,((((s.getD (Int.toNat (a:Int)) 0).toNat:Int)==(no_index (OfNat.ofNat k:Int)))=b->(s.getD a 0==(OfNat.ofNat k:UInt8))=b):=by
  simp_all [bZ,pn]
 refine aA.cb (fun _=>aA.ok ⟨PQ.err de,fun _ _=>PQ.err de,fun _=>PQ.err de,fun _ _=>PQ.err de⟩) fun hx=>?_;refine aA.cb (fun h=>?_) fun g1=>?_
 ·have:=hb 92 de _ h
  have hne:a+1≠s.length:=fun e=>by simp_all
  rw [bN om];have q:PQ s a 2 ((a:Int)+2,0):=fun _=>⟨a+2,rfl,om,om⟩;exact aA.ok ⟨q.le om,fun _ _=>q,fun _=>q,fun h=>by simp_all⟩
 refine aA.cb (fun h=>?_) fun g2=>?_
 ·exact ((anq F s a om hl ha).mono fun r q=>⟨q.le om,fun _ _=>q,fun _=>q,fun h=>by simp_all⟩).pair
 have n96:s.getD a 0≠96:=fun e=>by simp_all
 refine aA.bd (ano F s a om hl ha) fun b hE=>?_;refine aA.cb (fun h=>?_) fun g3=>?_
 ·obtain⟨h1,h3⟩:=hE.1 h
  exact ((h2 a p h1 om).mono fun r q=>⟨q.1,fun h=>by simp_all,fun h=>by simp_all,fun _ h=>q.2 h⟩).pair
 have n40:s.getD a 0=36->s.getD (a+1) 0=40->False:=fun h h'=>by have:=hE.2 h h';simp_all
 simp [aH];refine aA.cb (fun h=>?_) fun g4=>?_
 ·exact ((alL F s a om hl ha).mono fun r q=>⟨q.le om,fun _ _=>q,fun _=>q,fun h h'=>(n40 h h').elim⟩).pair
 refine aA.cb (fun h=>?_) fun g5=>?_
 ·rw [cE] at h
  exact ((h6 a ha om).mono fun r q=>⟨q.le om,fun _ _=>q,fun _=>q,fun h h'=>(n40 h h').elim⟩).pair
 refine aA.ok ⟨fun _=>⟨a+1,rfl,om,om⟩,fun h e=>?_,fun h=>(n96 h).elim,fun h h'=>(n40 h h').elim⟩
 simp_all
theorem aiQ(hF:s.length+20<F)(hl:s.length<=1000)(h3:P3 F s n)(h4:P4 F s n)(h5:P5 F s n):P2 F s (n+1):=by
 intro a p ha hn;show aA _ (yo F (dn F n) s (a:Int) p);unfold yo wx;rw [bx om,b9 om om,bN om,show (a:Int)+2=((a+2:Nat):Int) from rfl];refine aA.cb (fun _=>((h3 a p ha om).mono fun r q=>⟨q.le om,fun _=>q⟩).pair) fun _=>?_;rw [aH,aC,cF]
 have main:aA (fun r=>PQ s a 1 r/\(s.getD (a+1) 0=40->PQ s a 3 r)) (cond (((s.getD (Int.toNat ((a+1:Nat):Int)) 0).toNat:Int)==40)
   (((dn F n).2.2.2.2.1 s (a:Int)).bind fun x5=>some (x5.1,x5.2))
   ((mC F ((s.getD (Int.toNat ((a+1:Nat):Int)) 0).toNat:Int)).bind fun x6=>cond x6 (some (((a+2:Nat):Int),0)) ((w5 F s ((a+1:Nat):Int)).bind fun x7=>some (x7,0)))):=by
  refine aA.cb (fun _=>((h5 a ha om).mono fun r q=>⟨q.le om,fun _=>q⟩).pair) fun g=>?_;have n40:s.getD (a+1) 0=40->False:=fun h=>by simp_all
  obtain⟨b,hb⟩:=KO F ((s.getD (Int.toNat ((a+1:Nat):Int)) 0).toNat:Int) om;rw [hb];refine aA.cb (fun _=>aA.ok ⟨fun _=>⟨a+2,rfl,om,om⟩,fun h=>(n40 h).elim⟩) fun _=>?_;refine aA.bd (aet F s (a+1) om hl om) fun r ⟨e,h1,h2,h3⟩=>aA.ok ⟨fun _=>⟨e,h1,om,h3⟩,fun h=>(n40 h).elim⟩
 by_cases h:a+2<s.length
 ·rw [show decide (((a+2:Nat):Int)<(s.length:Int))=true from dT om,Bool.and_true,Bool.and_true,oY om,aH]
  exact aA.cb (fun _=>((h4 a h om).mono fun r q=>⟨q.le om,fun _=>q⟩).pair) fun _=>main
 grind
theorem step1(h1:P1 F s n){i:Nat}{p:Int}(hi:i<s.length)(hn:4*(s.length-i)+4<=n){k:Int×Int->O R}(hk:∀r,PQ s i 1 r->aA Q (k r)):aA Q (((dn F n).1 s (i:Int) p).bind k):=
 aA.bd (h1 i p hi hn) fun r q=>hk r q.1
theorem JO{A B:O R}(a:x≠0->aA Q A)(b:x=0->aA Q B):aA Q (cond (x != 0) A B):=by
 grind
theorem aeu(hF:s.length+20<F)(hl:s.length<=1000)(h1:P1 F s n):P3 F s (n+1):=by
 intro a p ha hn;show aA _ (Cd F (dn F n) s (a:Int) p);unfold Cd wx;rw [bN om];refine aA.lp (fun i=>∃n:Nat,i=(n:Int)/\a+2<=n/\n<=s.length) (fun i=>s.length-i.toNat) ⟨a+2,rfl,om,ha⟩ (by grind) ?_;rintro _ ⟨i,rfl,g1,g2⟩ rc hrc;refine aA.cd (fun h=>?_) fun _=>aA.ok (PQ.err de);rw [b9 om om,bx om];refine aA.cb (fun _=>aA.ok fun _=>⟨i+1,rfl,om,om⟩) fun _=>?_;rw [b9 om om,aH];refine aA.cb (fun _=>aA.ok (PQ.err de)) fun _=>step1 h1 om om fun r q=>JO (fun h=>aA.ok (PQ.err h)) fun h=>?_;obtain⟨e,e1,e2,e3⟩:=q h;rw [e1];exact hrc _ ⟨e,rfl,om,e3⟩ (by grind)
theorem aiR(hF:s.length+20<F)(hl:s.length<=1000)(h1:P1 F s n):P6 F s (n+1):=by
 intro a ha hn;show aA _ (Ce F (dn F n) s (a:Int));unfold Ce wx;rw [bx om];refine aA.lp (fun i=>∃n:Nat,i=(n:Int)/\a+1<=n/\n<=s.length) (fun i=>s.length-i.toNat) ⟨a+1,rfl,om,ha⟩ (by grind) ?_;rintro _ ⟨i,rfl,g1,g2⟩ rc hrc;refine aA.cd (fun h=>?_) fun _=>aA.ok (PQ.err de);rw [b9 om om,bx om];refine aA.cb (fun _=>aA.ok fun _=>⟨i+1,rfl,om,om⟩) fun _=>step1 h1 om om fun r q=>JO (fun h=>aA.ok (PQ.err h)) fun h=>?_;obtain⟨e,e1,e2,e3⟩:=q h;rw [e1];exact hrc _ ⟨e,rfl,om,e3⟩ (by grind)
theorem aev(hF:s.length+20<F)(hl:s.length<=1000)(h1:P1 F s n):P4 F s (n+1):=by
 intro a ha hn;show aA _ (vC F (dn F n) s (a:Int));unfold vC wx;rw [bN om];refine aA.lp (fun i=>∃n:Nat,i.1=(n:Int)/\a+3<=n/\n<=s.length) (fun i=>s.length-i.1.toNat) ⟨a+3,rfl,om,ha⟩ (by grind) ?_;rintro⟨_,o⟩ ⟨i,rfl,g1,g2⟩ rc hrc;refine aA.cd (fun h=>?_) fun _=>aA.ok (PQ.err de);rw [b9 om om,bx om];refine aA.jj (P:=fun x=>∀r,x=.inr r->PQ s a 3 r) ?_ (fun o' _=>?_) fun r h=>h r rfl
 ·have ok:∀o':Int,aA (fun x:Int ⊕ (Int×Int)=>∀r,x=.inr r->PQ s a 3 r) (some (.inl o')):=fun o'=>aA.ok fun r h=>nomatch h
  refine aA.cb (fun _=>ok _) fun _=>?_;rw [aH];refine aA.cb (fun _=>ok _) fun _=>?_;rw [aH];refine aA.cb (fun _=>aA.ok fun r e=>by grind [PQ.err]) fun hx=>?_
  have fin:aA (fun x:Int ⊕ (Int×Int)=>∀r,x=.inr r->PQ s a 3 r) (cond (((s.getD (Int.toNat (i:Int)) 0).toNat:Int)==41) (some (.inr ((i:Int),6))) (some (.inl o))):=
   aA.cb (fun _=>aA.ok fun r e=>by grind [PQ.err]) fun _=>ok _
  cases hc:(((s.getD (Int.toNat (i:Int)) 0).toNat:Int)==41) with
  | false=>rw [hc] at fin;exact fin
  | true=>
   rw [hc] at hx fin
   have hne:i+1≠s.length:=fun e=>by
    simp_all
   rw [b9 om om];refine aA.cb (fun _=>aA.ok fun r e=>?_) fun _=>fin;cases e;rw [bN om];exact fun _=>⟨i+2,rfl,om,om⟩
 ·refine step1 h1 om om fun r q=>JO (fun h=>aA.ok (PQ.err h)) fun h=>?_
  obtain⟨e,e1,e2,e3⟩:=q h;rw [e1];exact hrc _ ⟨e,rfl,om,e3⟩ (by grind)
theorem aA.ret{σ R:Type}{x:O R}{Q:R->Prop}(h:aA Q x):aA (fun z:σ ⊕ R=>∃r,Q r/\z=.inr r) (zA x):=by
 obtain⟨r,h,rfl⟩:=h;exact⟨.inr r,⟨r,h,rfl⟩,rfl⟩
theorem aiS(hF:s.length+20<F)(hl:s.length<=1000)(h1:P1 F s n):P5 F s (n+1):=by
 intro a ha hn;show aA _ (Aq F (dn F n) s (a:Int));unfold Aq wx;rw [bN om];refine aA.lp (fun i=>∃n:Nat,i.1=(n:Int)/\a+2<=n/\n<=s.length) (fun i=>s.length-i.1.toNat) ⟨a+2,rfl,om,ha⟩ (by grind) ?_;rintro⟨_,o,bg⟩ ⟨i,rfl,g1,g2⟩ rc hrc
 have ni:∀(e:Nat) o' b',i<e->e<=s.length->aA (PQ s a 3) (rc ((e:Int),o',b')):=fun e o' b' h1 h2=>
  hrc _ ⟨e,rfl,om,h2⟩ (by grind)
 refine aA.cd (fun h=>?_) fun _=>aA.ok (PQ.err de);have h:i<s.length:=om;rw [b9 om om,bx om];refine aA.jj (P:=fun x=>(∀z,x=.inl z->z.1=(i:Int))/\∀r,x=.inr r->PQ s a 3 r) ?_ (fun z hz=>?_) fun r h=>h.2 r rfl
 ·have ok:∀o':Int,aA (fun x:(Int×Int) ⊕ (Int×Int)=>(∀z,x=.inl z->z.1=(i:Int))/\∀r,x=.inr r->PQ s a 3 r) (some (.inl ((i:Int),o'))):=fun o'=>aA.ok ⟨fun z e=>by cases e;rfl,fun r h=>nomatch h⟩
  have rt:∀ {x:Option (Int×Int)},aA (PQ s a 3) x->aA (fun x:(Int×Int) ⊕ (Int×Int)=>(∀z,x=.inl z->z.1=(i:Int))/\∀r,x=.inr r->PQ s a 3 r) (zA x):=fun h=>h.ret.mono fun z ⟨r,q,e⟩=>by
   simp_all
  rw [aH];refine aA.cb (fun hc=>?_) fun _=>?_
  ·have h35:s.getD i 0=35:=by
    simp_all [cF,cE,bZ,pn]
   grind [aA.bd,aiP]
  refine aA.bd (ac2 F s i hl om) fun b hb=>aA.cb (fun hb'=>rt ?_) fun _=>?_
  ·grind [bN]
  rw [aH];refine aA.cb (fun _=>aA.ok ⟨fun z e=>(nomatch e),fun r e=>?_⟩) fun _=>aA.cb (fun _=>ok _) fun _=>aA.cb (fun _=>ok _) fun _=>ok _;cases e;exact fun _=>⟨i+1,rfl,om,om⟩
 ·obtain⟨ob,L9⟩:=anp F ((s.getD (Int.toNat (i:Int)) 0).toNat:Int)
  rw [agA,L9];simp [aH];obtain⟨z1,z2⟩:=z;obtain rfl:z1=(i:Int):=hz.1 _ rfl;refine step1 h1 h om fun r q=>JO (fun h=>aA.ok (PQ.err h)) fun h=>?_;obtain⟨e,e1,e2,e3⟩:=q h
  grind
theorem ac3(hF:s.length+20<F)(hl:s.length<=1000):∀n,P1 F s n/\P2 F s n/\P3 F s n/\P4 F s n/\P5 F s n/\P6 F s n
 | 0=>⟨fun _ _ _ h=>om,fun _ _ _ h=>om,fun _ _ _ h=>om,fun _ _ h=>om,fun _ _ h=>om,fun _ _ h=>om⟩
 | n+1=>by
  obtain⟨h1,h2,h3,h4,h5,h6⟩:=ac3 hF hl n;exact⟨agB hF hl h2 h6,aiQ hF hl h3 h4 h5,aeu hF hl h1,aev hF hl h1,aiS hF hl h1,aiR hF hl h1⟩
theorem KP(F:Nat)(s:Bs)(a:Nat)(p:Int)(hF:4*s.length+20<F)(hl:s.length<=1000)(ha:a<s.length):
  aA (fun r=>PQ s a 1 r/\(s.getD a 0=39->p=0->PQ s a 2 r)/\(s.getD a 0=96->PQ s a 2 r)/\(s.getD a 0=36->s.getD (a+1) 0=40->PQ s a 3 r)) (Ar F s (a:Int) p):=
 (ac3 om hl F).1 a p ha om
mutual
def wP:TPart->Nat
 | .mk _ t _ _ ps=>1+t.length+fm ps
def fm:J TPart->Nat
 | []=>0
 | p::l=>wP p+fm l
end
theorem zQ:∀(l m:J TPart),fm (l++m)=fm l+fm m
 | [],m=>by simp [fm]
 | p::l,m=>by simp [fm,zQ l m];omega
theorem Dl(p:TPart):1+p.fText.length+fm p.fParts=wP p:=by cases p;rfl
theorem zR:∀(l:J TPart),l.length<=fm l
 | []=>by simp
 | p::l=>by have:=zR l;have:=Dl p;simp [fm];omega
theorem zB(l:J TPart)(k:Nat):fm (l.take k)+fm (l.drop k)=fm l:=by rw [<-zQ,Ru]
theorem JP{l:J TPart}(h:k<l.length):fm (l.take (k+1))=fm (l.take k)+wP (l.getD k iM):=by
 rw [lB h,zQ,gd h];simp only [fm];omega
theorem U7{l:J TPart}(h:k<l.length):wP (l.getD k iM)<=fm l:=by
 have h1:=JP h;have h2:=zB l (k+1);omega
theorem aew(F:Nat)(p:TPart)(e:Int):fO F p e=some (dL.mk [p] e 0):=by cases p;rfl
theorem vf(s:Bs)(i j:Nat):(sl s (i:Int) (j:Int)).length<=j-i:=by
 grind [sl,List.length_drop,List.length_take,Int.toNat_natCast]
theorem aex(F:Nat)(p:Int):oF F p=some (p==0||p==1):=by unfold oF wx;rw [aH];rfl
theorem aqF(F:Nat)(c p:Int):∃b,y6 F c p=some b:=by
 unfold y6 wx;simp_all [aH,cT,aC]
theorem apf(F:Nat)(s:Bs)(a:Nat)(p o:Int)(ha:a<s.length):∃b,E1 F s (a:Int) p o=some b:=by
 unfold E1 wx;rw [b9 om om,b9 om om,b9 om om]
 simp_all [aH,cT,aC]
theorem U8(F:Nat)(s:Bs)(a:Nat)(hl:s.length<=1000)(ha:a<=s.length):aA (fun b=>b=true->a+1<s.length) (vD F s (a:Int)):=ac2 F s a hl ha
theorem anr(F:Nat)(s:Bs)(a:Nat)(p:Int)(hF:s.length<F)(hl:s.length<=1000)(ha:a<s.length):∃b,yz F s (a:Int) p=some b:=by
 have:aA (fun _=>True) (yz F s (a:Int) p):=by
  unfold yz wx;rw [aex,bx om,b9 om om];simp [aH];refine aA.cb (fun _=>aA.ok trivial) fun _=>?_;refine aA.lp (fun i=>∃n:Nat,i=(n:Int)/\a+1<=n/\n<=s.length) (fun i=>s.length-i.toNat) ⟨a+1,rfl,om,ha⟩ (by grind) ?_;rintro _ ⟨n,rfl,h1,h2⟩ rc hrc;refine aA.bd (U8 F s n hl h2) fun b hb=>aA.cb (fun h=>?_) fun _=>?_
  ·have:=hb h
   rw [bN om];exact hrc _ ⟨n+2,rfl,om,om⟩ (by grind)
  ·by_cases h:n<s.length
   ·rw [b9 om om,b9 om om]
    simp_all [aH,aC,aA.ok,trivial]
   simp_all [cz,aA.ok,trivial]
 obtain⟨b,-,h⟩:=this;exact⟨b,h⟩
def RQ(s:Bs)(a:Nat)(r:dL):Prop:=r.fE=0->∃e:Nat,r.QF=(e:Int)/\a+1<=e/\e<=s.length/\r.fParts.length<=1/\fm r.fParts<=2*(e-a)
theorem RQ.err{l:J TPart}(h:e≠0):RQ s a ⟨l,x,e⟩:=fun h'=>absurd h' h
theorem RQ.one{e:Nat}{p:TPart}(h1:a+1<=e)(h2:e<=s.length)(h3:wP p<=2*(e-a)):RQ s a ⟨[p],(e:Int),0⟩:=fun _=>⟨e,rfl,h1,h2,si,by simp [fm];omega⟩
theorem wT(k:Int)(t:Bs)(o:Int)(c:Bool):wP (.mk k t o c [])=1+t.length:=by simp [wP,fm]
theorem wN(k:Int)(t:Bs)(o:Int)(c:Bool)(l:J TPart):wP (.mk k t o c l)=1+t.length+fm l:=rfl
theorem aA.so{A:Type}{x:O A}{Q:A->Prop}(h:aA Q x):aA Q (x.bind fun y=>some y):=by rw [apg];exact h
theorem alM(F:Nat)(s:Bs)(a:Nat)(p:Int)(hl:s.length<=1000)(ha:a<s.length):aA (RQ s a) (nZ F s (a:Int) p):=by
 unfold nZ wx;rw [bx om,bN om,show (a:Int)+2=((a+2:Nat):Int) from rfl]
 have one:∀ {k o:Int}{c:Bool}{t:Bs}{e:Nat},a+1<=e->e<=s.length->1+t.length<=2*(e-a)->aA (RQ s a) ((fO F (.mk k t o c []) (e:Int)).bind fun x=>some x):=fun h1 h2 h3=>by
  simp_all [aew,aA.ok,RQ.one,wT]
 by_cases h:a+1=s.length
 ·rw [show (((a+1:Nat):Int)==(s.length:Int))=true from by rw [h];simp,aZ]
  exact aA.cb (fun _=>one om om (by show 1+1<=_;omega)) fun _=>aA.ok (RQ.err de)
 ·rw [show (((a+1:Nat):Int)==(s.length:Int))=false from by simp;omega,aK,b9 om om]
  have h1:=vf s (a+1) (a+2);have h2:=vf s a (a+2);refine aA.cb (fun _=>aA.ok fun _=>⟨a+2,rfl,om,om,si,by simp [fm]⟩) fun _=>?_;rw [aex];refine aA.cb (fun _=>aA.rq (JQ om om om) (one om om om)) fun _=>?_;obtain⟨b,hb⟩:=aqF F ((s.getD (Int.toNat ((a+1:Nat):Int)) 0).toNat:Int) p;rw [hb];refine aA.cb (fun _=>aA.rq (JQ om om om) (one om om om)) fun _=>?_;simp only [aH];refine aA.cb (fun _=>aA.ok (RQ.err de)) fun _=>?_;rw [xS om om om];exact one om om om
theorem ac4(F:Nat)(t:Bs)(hF:4*t.length+40<F)(hl:t.length<=900):∃b,sA F t=some b:=by
 have:aA (fun _=>True) (sA F t):=by
  unfold sA wx;have hL:(([36,40]:Bs)++t++([41]:Bs)).length=t.length+3:=by simp
  rw [oY (by grind),oY (by grind)];have hp:=KP F ((([36,40]:Bs)++t)++([41]:Bs)) 0 0 om om om;refine aA.bd hp fun r _=>?_;by_cases h:t=[]
  ·simp_all [aH,aC,aZ,aA.ok,trivial]
  ·have:=zu.2 h
   rw [oY om]
   simp_all [aH,aC,aA.ok,trivial]
 obtain⟨b,-,h⟩:=this;exact⟨b,h⟩
theorem ans(F:Nat)(s:Bs)(a:Nat)(hF:4*s.length+100<F)(hl:s.length<=800)(ha:a<s.length)(h96:s.getD a 0=96):aA (RQ s a) (nj F s (a:Int)):=by
 unfold nj wx;refine aA.bd (KP F s a 0 om om ha) fun r q=>JO (fun h=>aA.ok (RQ.err h)) fun h=>?_;obtain⟨e,e1,e2,e3⟩:=q.2.2.1 h96 h;rw [e1,zC om om,bx om];refine aA.lp (fun z:Bs×Int=>∃n:Nat,z.2=(n:Int)/\a+1<=n/\n<=e/\z.1.length<=e-a-2/\z.1.length+a+1<=n) (fun z=>e-z.2.toNat) ⟨a+1,rfl,om,om,si,si⟩ (by grind) ?_
 ·rintro⟨t,_⟩ ⟨n,rfl,g1,g2,g3,g4⟩ rc hrc
  dsimp only at g3 g4 hrc⊢
  have ok:∀b:Bool,∃m:Nat,cond b (((n+1:Nat):Int)) (n:Int)=(m:Int)/\n<=m/\m<=n+1:=fun b=>by
   cases b
   ·grind
   grind
  refine aA.cd (fun h=>?_) fun h=>?_
  ·rw [b9 om om,bx om,b9 om om,b9 om om,b9 om om]
   simp only [aH,aC];generalize hb:(cond (((s.getD (Int.toNat (n:Int)) 0).toNat:Int)==92) _ false:Bool)=b;obtain⟨m,hm,WD,hm2⟩:=ok b;rw [hm,bx om];have hs:=vf s m (m+1);refine aA.rq (JQ om om om) (aA.rq (dW om) (hrc _ ⟨m+1,rfl,om,om,?_,?_⟩ ?_))
   ·grind
   ·grind
   grind
  ·refine aA.bd (P:=fun u:Bs=>u.length<=e-a-1) ?_ fun u hu=>?_
   ·refine aA.bd (P:=fun _=>True) ?_ fun b _=>aA.cb (fun _=>aA.rq (decide_eq_true (by grind)) (aA.ok (by grind))) fun _=>aA.ok om
    by_cases ht:t=[]
    ·simp_all [aA.ok,trivial]
    ·have:0<t.length:=zu.2 ht
     rw [oY om,aH];exact aA.ok trivial
   refine aA.bd (P:=fun u:Bs=>u.length<=e-a) ?_ fun v hv=>?_
   ·obtain⟨b,hb⟩:=ac4 F u om om
    rw [hb,aC];exact aA.cb (fun _=>aA.rq (decide_eq_true (by grind)) (aA.ok (by grind))) fun _=>aA.ok om
   obtain⟨b,hb⟩:=ac4 F v om om;rw [hb,aC];refine aA.cb (fun _=>aA.ok (RQ.err de)) fun _=>?_
   grind [aew,aA.ok,RQ.one,wT]
theorem U9(F:Nat)(s:Bs)(hF:s.length<F)(hl:s.length<=1000):∃r,lX F s=some r:=by
 have:aA (fun _=>True) (lX F s):=by
  unfold lX wx;by_cases h:s=[]
  ·simp_all [aA.ok,trivial]
  have:=zu.2 h;rw [oY om];simp only [aH];refine aA.cb (fun _=>aA.ok trivial) fun _=>?_;refine aA.lp (fun i=>∃n:Nat,i.2=(n:Int)/\n<=s.length) (fun i=>s.length-i.2.toNat) ⟨0,rfl,om⟩ (by simp_all) ?_;rintro⟨v,_⟩ ⟨n,rfl,hn⟩ rc hrc;refine aA.cd (fun h=>?_) fun _=>aA.ok trivial;rw [b9 om om,JN,bx om];refine aA.cb (fun _=>aA.ok trivial) fun _=>aA.rq (lF om om) (hrc _ ⟨n+1,rfl,om⟩ (by grind))
 obtain⟨b,-,h⟩:=this;exact⟨b,h⟩
theorem Zd(F:Nat)(s:Bs)(a:Nat)(hF:s.length+20<F)(hl:s.length<=1000)(ha:a<=s.length):aA (fun r=>∃e:Nat,r=(e:Int)/\a<=e/\e<=s.length) (oa F s (a:Int)):=by
 unfold oa wx;by_cases h:a<s.length
 ·rw [cf om,b9 om om,JN,b9 om om,YO,b9 om om,bx om]
  refine aA.cb (fun _=>?_) fun _=>aA.cb (fun _=>(aet F s a om hl ha).so) fun _=>?_
  ·refine aA.lp (fun i=>∃n:Nat,i=(n:Int)/\a+1<=n/\n<=s.length) (fun i=>s.length-i.toNat) ⟨a+1,rfl,om,h⟩ (by grind) ?_
   rintro _ ⟨n,rfl,h1,h2⟩ rc hrc;by_cases hn:n<s.length
   ·rw [cz om,b9 om om,JN,bx om]
    refine aA.cb (fun _=>aA.rq (JQ om om om) ?_) fun _=>aA.ok ⟨n,rfl,om,h2⟩;have hs:=vf s a (n+1);obtain⟨r,hr⟩:=U9 F (sl s (a:Int) ((n+1:Nat):Int)) om om;rw [hr];exact aA.cb (fun _=>aA.ok ⟨n,rfl,om,h2⟩) fun _=>hrc _ ⟨n+1,rfl,om,om⟩ (by grind)
   ·grind [aA.ok]
  ·obtain⟨b,hb⟩:=KO F ((s.getD (Int.toNat (a:Int)) 0).toNat:Int) om
   rw [hb];exact aA.cb (fun _=>aA.ok ⟨a+1,rfl,om,om⟩) fun _=>aA.ok ⟨a,rfl,om,om⟩
 ·grind [aA.ok]
theorem op8(F:Nat)(s:Bs)(a:Nat)(hl:s.length<=1000)(ha:a<s.length):aA (fun r=>r.1≠0->∃n:Nat,r.2.2=(n:Int)/\1<=n/\a+n<=s.length) (w6 F s (a:Int)):=by
 unfold w6 wx;rw [b9 om om];have z:aA (fun r:Int×Bool×Int=>r.1≠0->∃n:Nat,r.2.2=(n:Int)/\1<=n/\a+n<=s.length) (some (0,false,0)):=aA.ok fun h=>absurd rfl h;have ok:∀(o:Int)(b:Bool)(n:Nat),1<=n->a+n<=s.length->aA (fun r=>r.1≠0->∃n:Nat,r.2.2=(n:Int)/\1<=n/\a+n<=s.length) (some (o,b,(n:Int))):=fun o b n h1 h2=>aA.ok fun _=>⟨n,rfl,h1,h2⟩
 cases hc:(((s.getD (Int.toNat (a:Int)) 0).toNat:Int)==58) with
 | true=>
  rw [aZ,bx om];refine aA.cd (fun _=>z) fun h=>?_;rw [show aB (aB (((a+1:Nat):Int)-(a:Int))+1)=((2:Nat):Int) from by grind [bN]]
  exact aA.rq (lF om om) (aA.cb (fun _=>ok _ _ 2 om om) fun _=>aA.rq (lF om om) (aA.cb (fun _=>ok _ _ 2 om om) fun _=>aA.rq (lF om om) (aA.cb (fun _=>ok _ _ 2 om om) fun _=>aA.rq (lF om om) (aA.cb (fun _=>ok _ _ 2 om om) fun _=>z))))
 | false=>
  rw [aK,aC];rw [cf om,show aB (aB ((a:Int)-(a:Int))+1)=((1:Nat):Int) from by simp_all [bN],bx om];refine aA.rq (lF om om) (aA.cb (fun _=>ok _ _ 1 om om) fun _=>aA.rq (lF om om) (aA.cb (fun _=>ok _ _ 1 om om) fun _=>aA.rq (lF om om) (aA.cb (fun _=>ok _ _ 1 om om) fun _=>aA.rq (lF om om) (aA.cb (fun _=>ok _ _ 1 om om) fun _=>?_))))
  have two:∀(k:Int){A B:O (Int×Bool×Int)},(a+1<s.length->aA (fun r=>r.1≠0->∃n:Nat,r.2.2=(n:Int)/\1<=n/\a+n<=s.length) A)->aA (fun r=>r.1≠0->∃n:Nat,r.2.2=(n:Int)/\1<=n/\a+n<=s.length) B ->
    aA (fun r=>r.1≠0->∃n:Nat,r.2.2=(n:Int)/\1<=n/\a+n<=s.length) ((rq ((decide (0<=(a:Int)))&&(decide ((a:Int)<(s.length:Int)))) (cond (((s.getD (Int.toNat (a:Int)) 0).toNat:Int)==k) (some (decide (((a+1:Nat):Int)<(s.length:Int)))) (some false)):O Bool).bind fun x2=>
     (cond x2 (rq ((decide (0<=((a+1:Nat):Int)))&&(decide (((a+1:Nat):Int)<(s.length:Int)))) (some (((s.getD (Int.toNat ((a+1:Nat):Int)) 0).toNat:Int)==k))) (some false):O Bool).bind fun x3=>cond x3 A B):=by
   intro k A B hA hB;rw [b9 om om,aH,aC];by_cases h:a+1<s.length
   ·rw [b9 om om]
    grind
   grind
  refine two 37 (fun h=>ok _ _ 2 om om) (aA.rq (lF om om) (aA.cb (fun _=>ok _ _ 1 om om) fun _=>two 35 (fun h=>ok _ _ 2 om om) (aA.rq (lF om om) (aA.cb (fun _=>ok _ _ 1 om om) fun _=>z))))
theorem alN(F:Nat)(p:Int):∃q,(q=1\/q=3\/q=6)/\As F p=some q:=by
 unfold As wx
 grind
theorem alO(F:Nat)(p:Int):∃q,Au F p=some q:=by
 unfold Au wx
 simp_all [aH,aC]
theorem aph(F:Nat)(l:J TPart)(t:Bs)(hl:fm l<=10000)(ht:t.length<=10000):aA (fun r=>fm r<=fm l+1+t.length) (w8 F l t):=by
 have h1:=zR l;unfold w8 wx;by_cases h:0<l.length
 ·rw [cz om,zC om h,b9 om om,aC]
  refine aA.cb (fun _=>?_) fun _=>aA.rq (nO (by grind) de) (aA.ok (by rw [zQ];simp [fm,wT];omega));have e1:sl l 0 ((l.length-1:Nat):Int)=l.take (l.length-1):=by simp [sl]
  have hw:=JP (l:=l) (k:=l.length-1) om;have hp:=Dl (l.getD (l.length-1) iM);have h4:(l.take (l.length-1+1))=l:=tL om;rw [h4] at hw;simp only [e1,bZ];have hL':(([]:J TPart).length+(l.take (l.length-1)).length)=l.length-1:=by simp
  refine aA.rq (lF om om) (aA.rq (nO (by rw [hL'];omega) de) (aA.rq (lF om om) ?_));refine aA.rq (decide_eq_true om) (aA.rq (nO (by grind) de) (aA.ok ?_));rw [zQ,o9];simp only [fm,wT,tM];omega
 ·rw [cf om,aC,aK]
  exact aA.rq (nO (by simp_all) de) (aA.ok (by rw [zQ];simp [fm,wT];omega))
def PL(p:Int):Prop:=p=1\/p=2\/p=3\/p=6
def RP(s:Bs)(a:Nat)(p:Int)(r:dL):Prop:=r.fE=0->∃e:Nat,r.QF=(e:Int)/\a<=e/\e<=s.length/\fm r.fParts<=2*(e-a)/\(PL p->e<s.length)/\(p=4->e+1<s.length)
theorem RP.err{p:Int}{l:J TPart}(h:e≠0):RP s a p ⟨l,x,e⟩:=fun h'=>absurd h' h
def Q1(F:Nat)(s:Bs)(n:Nat):Prop:=∀(a:Nat)(p lv fr:Int),a<=s.length->6*(s.length-a)+6<=n->aA (RP s a p) ((bV F n).1 s (a:Int) p lv fr)
def Q2(F:Nat)(s:Bs)(n:Nat):Prop:=∀(a:Nat)(p lv:Int),a<s.length->6*(s.length-a)+5<=n->aA (RQ s a) ((bV F n).2.1 s (a:Int) p lv)
def Q3(F:Nat)(s:Bs)(n:Nat):Prop:=∀(a:Nat)(p lv:Int),a<s.length->s.getD a 0=36->6*(s.length-a)+4<=n->aA (RQ s a) ((bV F n).2.2.1 s (a:Int) p lv)
def Q4(F:Nat)(s:Bs)(n:Nat):Prop:=∀(a:Nat)(p lv:Int),a+1<s.length->s.getD a 0=36->6*(s.length-a)+3<=n->aA (RQ s a) ((bV F n).2.2.2.1 s (a:Int) p lv)
def Q5(F:Nat)(s:Bs)(n:Nat):Prop:=∀(a:Nat)(p lv:Int),a+1<s.length->6*(s.length-a)+2<=n->aA (RQ s a) ((bV F n).2.2.2.2.1 s (a:Int) p lv)
def Q6(F:Nat)(s:Bs)(n:Nat):Prop:=∀(a:Nat)(lv:Int),a<s.length->6*(s.length-a)+2<=n->aA (RQ s a) ((bV F n).2.2.2.2.2 s (a:Int) lv)
theorem tP(h:e≠0):aA (RQ s a) ((dM F x e).bind fun y=>some y):=aA.ok (RQ.err h)
theorem I9{e:Nat}{p:TPart}(h1:a+1<=e)(h2:e<=s.length)(h3:wP p<=2*(e-a)):aA (RQ s a) ((fO F p (e:Int)).bind fun y=>some y):=by
 simp_all [aew,aA.ok,RQ.one]
theorem aey(hF:4*s.length+2000<F)(hl:s.length<=800)(h2:Q2 F s n):Q1 F s (n+1):=by
 intro a p lv fr ha hn;show aA _ (y7 F (bV F n) s (a:Int) p lv fr);refine aA.lp (fun z:Int×J TPart×Int=>∃m:Nat,z.1=(m:Int)/\a<=m/\m<=s.length/\fm z.2.1<=2*(m-a)) (fun z=>s.length-z.1.toNat) ⟨a,rfl,om,ha,by simp [fm]⟩ (by grind) ?_;rintro⟨_,l,op⟩ ⟨m,rfl,g1,g2,g3⟩ rc hrc;dsimp only at g3 hrc⊢;refine aA.cd (fun h=>?_) fun h=>?_
 ·have h:m<s.length:=om
  obtain⟨b,hb⟩:=apf F s m p op h;rw [hb,aC,bx om,aH,aC];refine aA.cb (fun _=>?_) fun _=>?_
  ·refine aA.cb (fun _=>aA.ok (RP.err de)) fun h4=>?_
   have hp4:p=4->m+1<s.length:=fun e=>by
    grind
   refine aA.bd (P:=fun _=>True) ?_ fun b _=>aA.cb (fun _=>aA.ok (RP.err de)) fun _=>aA.ok fun _=>⟨m,rfl,g1,g2,g3,fun _=>h,hp4⟩
   cases e4:(p==4) with
   | false=>exact aA.ok trivial
   | true=>have:=hp4 (by simpa using e4);exact aA.rq (lF om om) (aA.ok trivial)
  ·obtain⟨tb,htb⟩:=anr F s m p om om h
   rw [htb];simp only [aC,aH];refine aA.cb (fun _=>aA.rq (nO (by simp_all) de) (hrc _ ⟨m+1,rfl,om,om,?_⟩ ?_)) fun _=>?_
   ·rw [zQ];simp only [fm,wT,D4];omega
   ·grind
   rw [b9 om om,b9 om om];simp only [aC,aH];refine aA.bd (h2 m p lv h om) fun r q=>JO (fun h=>aA.ok fun e=>absurd e h) fun h0=>?_;obtain⟨e,e1,e2,e3,e4,e5⟩:=q h0;refine aA.lp (fun z:J TPart×Int=>∃k:Nat,z.2=(k:Int)/\k<=r.fParts.length/\fm z.1<=fm l+fm (r.fParts.take k)) (fun z=>r.fParts.length-z.2.toNat) ⟨0,rfl,om,si⟩ (by grind) ?_;rintro⟨l',_⟩ ⟨k,rfl,k1,k2⟩ rc' ni;dsimp only at k2 ni⊢;have hwt:=zB r.fParts k;have hlen':=zR l';refine aA.cd (fun h=>?_) fun h=>?_
   ·have hk:k<r.fParts.length:=om
    have hwk:=JP hk;have hp:=Dl (r.fParts.getD k iM);have hm:=U7 hk;rw [b9 om om,bx om,b9 om om,b9 om om];simp only [bZ];refine aA.cb (fun _=>aA.bd (aph F l' _ om om) fun u hu=>ni _ ⟨k+1,rfl,hk,by dsimp only;omega⟩ ?_) fun _=>aA.rq (nO (by grind) de) (ni _ ⟨k+1,rfl,hk,?_⟩ ?_)
    ·grind
    ·rw [zQ];simp only [fm];omega
    grind
   ·rw [e1]
    exact hrc _ ⟨e,rfl,om,e3,by dsimp only;omega⟩ (by grind)
 ·rw [aH,aC]
  refine aA.cb (fun hp=>aA.ok fun _=>⟨m,rfl,g1,g2,g3,fun h=>?_,fun h=>?_⟩) fun _=>aA.ok (RP.err de)
  ·exfalso;rcases h with rfl|rfl|rfl|rfl<;>exact absurd hp de
  simp_all
theorem agC(hF:4*s.length+2000<F)(hl:s.length<=800)(h3:Q3 F s n)(h6:Q6 F s n):Q2 F s (n+1):=by
 intro a p lv ha hn;show aA _ (vE F (bV F n) s (a:Int) p lv);unfold vE wx;rw [b9 om om];refine aA.cb (fun _=>(alM F s a p om ha).so) fun _=>aA.cb (fun h=>(ans F s a om hl ha ?_).so) fun _=>aA.cb (fun h=>(h3 a p lv ha ?_ om).so) fun _=>?_
 ·simp_all [bZ,pn]
 ·simp_all [bZ,pn]
 obtain⟨ob,L9⟩:=anp F ((s.getD (Int.toNat (a:Int)) 0).toNat:Int);rw [aex,agA,L9];simp only [aC,aH];refine aA.cb (fun _=>(h6 a lv ha om).so) fun _=>aA.cb (fun _=>tP de) fun _=>aA.cb (fun _=>tP de) fun _=>?_;rw [bx om];have hs:=vf s a (a+1);exact aA.rq (JQ om om om) (I9 om om (by rw [wT];omega))
theorem abS(hF:4*s.length+2000<F)(hl:s.length<=800)(h4:Q4 F s n):Q3 F s (n+1):=by
 intro a p lv ha Ze hn;show aA _ (w9 F (bV F n) s (a:Int) p lv);refine aA.bd (ano F s a om om ha) fun b hb=>aA.cb (fun h=>(h4 a p lv (hb.1 h).1 Ze om).so) fun _=>?_;rw [aex,bx om];refine aA.bd (P:=fun _=>True) ?_ fun _ _=>aA.cb (fun _=>tP de) fun _=>I9 om om (by show 1+1<=_;omega);refine aA.cb (fun _=>?_) fun _=>aA.ok trivial;have hj:=(U8 F s (a+1) om om).tr;exact aA.cd (fun h=>aA.rq (lF om om) (aA.cb (fun _=>aA.ok trivial) fun _=>hj.so)) fun _=>hj.so
theorem aez(hF:4*s.length+2000<F)(hl:s.length<=800)(h1:Q1 F s n)(h5:Q5 F s n):Q4 F s (n+1):=by
 intro a p lv ha Ze hn;show aA _ (oZ F (bV F n) s (a:Int) p lv);unfold oZ wx;rw [bx om,b9 om om,bN om,show (a:Int)+2=((a+2:Nat):Int) from rfl];refine aA.cb (fun _=>(h5 a p lv ha om).so) fun _=>?_;rw [aH,aC];refine aA.bd (P:=fun b=>b=true->a+2<s.length) ?_ fun b hb=>aA.cb (fun h=>?_) fun _=>?_
 ·refine aA.cb (fun h=>?_) fun _=>aA.ok fun h=>nomatch h
  rw [cF] at h
  grind [aA.rq,lF,aA.ok]
 ·have h2:=hb h
  refine aA.cd (fun _=>tP de) fun _=>?_;rw [bN om];refine aA.bd (h1 (a+3) 4 _ _ om om) fun r q=>JO (fun h=>aA.ok fun e=>absurd e h) fun h0=>?_;obtain⟨e,e1,e2,e3,e4,-,e6⟩:=q h0;rw [e1,bN om,show (e:Int)+2=((e+2:Nat):Int) from rfl];exact I9 om om (by grind [wN,List.length_nil])
 ·refine aA.cb (fun h40=>?_) fun _=>?_
  ·have h40:s.getD (a+1) 0=40:=by simp_all [bZ,pn]
   obtain⟨q,hq⟩:=alO F p;rw [hq,aC];refine aA.bd (KP F s a q om om om) fun r hr=>JO (fun h=>aA.ok (RQ.err h)) fun h0=>?_;obtain⟨e,e1,e2,e3⟩:=hr.2.2.2 Ze h40 h0;rw [e1,zC om om];have hs:=vf s (a+2) (e-1)
   grind [aA.rq,JQ,I9,wT]
  ·obtain⟨b,hb⟩:=KO F ((s.getD (Int.toNat ((a+1:Nat):Int)) 0).toNat:Int) om
   rw [hb];have hs:=vf s (a+1) (a+2);refine aA.cb (fun _=>aA.rq (JQ om om om) (I9 om om (by rw [wT];omega))) fun _=>?_;refine aA.bd (aet F s (a+1) om om om) fun r ⟨e,e1,e2,e3⟩=>?_;rw [e1];have hs:=vf s (a+1) e;exact aA.cd (fun _=>tP de) fun _=>aA.rq (JQ om om om) (I9 om om (by rw [wT];omega))
theorem abT(hF:4*s.length+2000<F)(hl:s.length<=800)(h1:Q1 F s n):Q6 F s (n+1):=by
 intro a lv ha hn;show aA _ (sB F (bV F n) s (a:Int) lv);unfold sB wx;rw [b9 om om,bx om];refine aA.cb (fun h39=>?_) fun _=>aA.cd (fun _=>tP de) fun _=>?_
 ·have h39:s.getD a 0=39:=by simp_all [bZ,pn]
  refine aA.bd (KP F s a 0 om om ha) fun r hr=>JO (fun h=>aA.ok (RQ.err h)) fun h0=>?_;obtain⟨e,e1,e2,e3⟩:=hr.2.1 h39 rfl h0;rw [e1,zC om om];have hs:=vf s (a+1) (e-1)
  grind [aA.rq,JQ,I9,wT]
 ·refine aA.bd (h1 (a+1) 2 _ _ om om) fun r q=>JO (fun h=>aA.ok fun e=>absurd e h) fun h0=>?_
  obtain⟨e,e1,e2,e3,e4,e5,-⟩:=q h0;have:=e5 (.inr (.inl rfl));rw [e1,bx om];exact I9 om om (by grind [wN,List.length_nil])
theorem abU(hF:4*s.length+2000<F)(hl:s.length<=800)(h1:Q1 F s n):Q5 F s (n+1):=by
 intro a p lv ha hn;show aA _ (sC F (bV F n) s (a:Int) p lv);unfold sC wx;rw [bN om,show (a:Int)+2=((a+2:Nat):Int) from rfl,bx om];refine aA.jj (P:=fun x=>∀r,x=.inr r->RQ s a r) ?_ (fun _ _=>?_) fun r h=>h r rfl
 ·have ok:aA (fun x:Unit ⊕ dL=>∀r,x=.inr r->RQ s a r) (some (.inl ())):=aA.ok fun r h=>nomatch h
  have er:∀ {x e:Int},e≠0->aA (fun x:Unit ⊕ dL=>∀r,x=.inr r->RQ s a r) ((dM F x e).bind fun y=>some (.inr y)):=fun h=>aA.ok fun r e=>by cases e;exact RQ.err h
  refine aA.bd (P:=fun b=>b=true->a+2<s.length) (aA.cd (fun h=>aA.rq (lF om om) (aA.ok fun _=>om)) fun _=>aA.ok fun h=>nomatch h) fun b hb=>aA.cb (fun h=>?_) fun _=>ok;have h2:=hb h;refine aA.bd (Zd F s (a+3) om om om) fun r ⟨e,e1,e2,e3⟩=>?_;rw [e1];refine aA.cd (fun _=>er de) fun _=>?_;refine aA.bd (P:=fun b=>b=true->a+3<e/\e<s.length) ?_ fun b hb=>?_
  ·refine aA.cd (fun h=>?_) fun _=>aA.ok fun h=>nomatch h
   exact aA.ok fun h'=>⟨om,by simp_all⟩
  refine aA.bd (P:=fun b=>b=true->a+3<e/\e<s.length) (aA.cb (fun h=>aA.rq (lF om (by have:=hb h;omega)) (aA.ok fun _=>hb h)) fun _=>aA.ok fun h=>nomatch h) fun b hb=>aA.cb (fun h=>?_) fun _=>?_
  ·have:=hb h
   have hs:=vf s (a+2+1) e;rw [bx om,aew];exact aA.rq (JQ om om om) (aA.ok fun r h=>by cases h;exact RQ.one om om (by rw [wT];omega))
  grind
 refine aA.bd (Zd F s (a+2) om om om) fun r ⟨e,e1,e2,e3⟩=>?_;rw [e1];refine aA.cd (fun _=>tP de) fun _=>?_;rw [aH,aC];refine aA.cb (fun _=>tP de) fun hx=>?_
 have he:e<s.length:=by
  grind
 refine aA.cb (fun _=>tP de) fun _=>aA.rq (JQ om om om) (aA.rq (lF om om) (aA.cb (fun _=>?_) fun _=>?_))
 ·rw [bx om]
  have hs:=vf s (a+2) e;exact I9 om om (by show wP (.mk 4 (sl s ((a+2:Nat):Int) (e:Int)) 0 false [])<=_;rw [wT];omega)
 refine aA.bd (op8 F s e om he) fun⟨o1,o2,o3⟩ ho=>?_;by_cases SV:o1=0
 ·subst SV
  show aA _ (Option.bind _ _);rw [b9 om om,aH,aC];refine aA.cb (fun _=>tP de) fun _=>aA.rq (lF om om) (aA.cb (fun _=>tP de) fun _=>aA.rq (lF om om) (aA.cb (fun _=>?_) fun _=>tP de));exact aA.bd (Zd F s (a+3) om om om) fun r _=>tP de
 ·obtain⟨k,k1,k2,k3⟩:=ho SV
  clear ho;subst k1;rw [show (o1==0)=false from by simpa using SV,aK,bN (x:=(e:Int)+(k:Int)) om];refine aA.cd (fun _=>tP de) fun _=>aA.bd (U8 F s (e+k) om om) fun b _=>aA.cb (fun _=>tP de) fun _=>?_;obtain⟨q,hq,Zf⟩:=alN F p;rw [Zf,aC];refine aA.bd (h1 (e+k) q _ _ om om) fun r hr=>JO (fun h=>aA.ok fun e=>absurd e h) fun h0=>?_;obtain⟨f,f1,f2,f3,f4,f5,-⟩:=hr h0;have:=f5 (by unfold PL;omega);rw [f1,bx om];have hs:=vf s (a+2) e;exact I9 om om (by show wP (.mk 4 (sl s ((a+2:Nat):Int) (e:Int)) o1 o2 r.fParts)<=_;rw [wN];omega)
theorem WG(hF:4*s.length+2000<F)(hl:s.length<=800):∀n,Q1 F s n/\Q2 F s n/\Q3 F s n/\Q4 F s n/\Q5 F s n/\Q6 F s n
 | 0=>⟨fun _ _ _ _ _ h=>om,fun _ _ _ _ h=>om,fun _ _ _ _ _ h=>om,fun _ _ _ _ _ h=>om,fun _ _ _ _ h=>om,fun _ _ _ h=>om⟩
 | n+1=>by
  obtain⟨h1,h2,h3,h4,h5,h6⟩:=WG hF hl n;exact⟨aey hF hl h2,agC hF hl h3 h6,abS hF hl h4,aez hF hl h1 h5,abU hF hl h1,abT hF hl h1⟩
theorem ant(F:Nat)(s:Bs)(hF:8000<F)(hl:s.length<=800):aA (fun r=>fm r.1<=2*s.length) (uL F s):=by
 unfold uL wx;rw [cf om];refine aA.bd ((WG om hl F).1 0 0 1 0 om om) fun r q=>JO (fun h=>aA.ok (by simp [fm])) fun h0=>?_;obtain⟨e,e1,e2,e3,e4,-⟩:=q h0
 grind [aA.ok]
theorem E2(F:Nat)(s:Bs)(hF:40<F):aA (fun b=>b=true->s.length<=32) (fA F s):=by
 unfold fA wx;by_cases h:s=[]
 ·simp_all [aA.ok]
 have:=zu.2 h;rw [oY om,JN];simp only [aH,aC];by_cases h2:s.length<=32
 ·refine aA.cb (fun _=>aA.ok fun h=>nomatch h) fun _=>?_
  refine aA.lp (fun i=>∃n:Nat,i=(n:Int)/\n<=s.length) (fun i=>s.length-i.toNat) ⟨0,rfl,om⟩ (by grind) ?_;rintro _ ⟨n,rfl,hn⟩ rc hrc;refine aA.cd (fun h=>?_) fun _=>aA.ok fun _=>h2;rw [b9 om om,YO,bx om];exact aA.cb (fun _=>aA.ok fun h=>nomatch h) fun _=>hrc _ ⟨n+1,rfl,om⟩ (by grind)
 grind [dT,aA.ok]
def jH(l:J bO)(n:Bs):bO×Bool:=(l.find? fun v=>v.fName==n).elim (bO.mk [] [] false false false,false) fun v=>(v,true)
theorem y9(F:Nat)(l:J bO)(n:Bs)(hF:l.length<F)(hl:l.length<=1000):qU F l n=some (jH l n):=by
 unfold qU wx;rw [qV l (fun i=>(i:Int)) (fun v=>v.fName==n) (fun i v=>some (v,true)) (some (bO.mk [] [] false false false,false)) (s:=(0:Int)) hF rfl (fun i h rc=>?_) (fun rc=>?_)]
 ·rw [Nk];unfold jH;cases l.find? _<;>rfl
 ·rw [cz om,b9 om om,b9 om om,bZ,gd h,bx om]
 ·rw [cf om]
def GV(l:J bO):Prop:=l.length<=128/\∀v∈l,v.fName.length<=60/\v.bS.length<=4096
variable{l:J bO}
theorem Pu(h:GV l)(n:Bs):(jH l n).1.fName.length<=60/\(jH l n).1.bS.length<=4096:=by
 unfold jH
 cases e:l.find? fun v=>v.fName==n with
 | none=>simp_all
 | some v=>exact h.2 v (Yv e)
def nk(v:bO):J bO->Bool->J bO
 | [],d=>cond d [] [v]
 | x::l,d=>cond (!d && !(Op.bytesLess x.fName v.fName)) [v] []++(cond (x.fName==v.fName) [] [x]++nk v l (d || !(Op.bytesLess x.fName v.fName)))
theorem Zg(v:bO):∀(l:J bO)(d:Bool),(nk v l d).length=(cond d 0 1)+(l.filter fun x=>!(x.fName==v.fName)).length
 | [],d=>by cases d<;>rfl
 | x::l,d=>by
  simp only [nk,tM,Zg v l,List.filter_cons];cases d<;>cases (x.fName==v.fName)<;>cases (Op.bytesLess x.fName v.fName)<;>simp<;>omega
theorem RF(v:bO):∀(l:J bO)(d:Bool),∀x∈nk v l d,x=v\/x∈l
 | [],d,x,h=>by cases d<;>simp [nk] at h;exact .inl h
 | y::l,d,x,h=>by
  simp [nk] at h;rcases h with h|h|h
  ·revert h;cases (!d && !(Op.bytesLess y.fName v.fName))<;>simp
   exact fun h=>.inl h
  ·revert h;cases (y.fName==v.fName)<;>simp
   exact fun h=>.inr (.inl h)
  ·rcases RF v l _ x h with h|h
   ·exact .inl h
   ·exact .inr (kf _ h)
theorem Pv(F:Nat)(l:J bO)(v:bO)(hF:l.length<F)(hl:l.length<=1000):zS F l v=some (nk v l false):=by
 have:aA (fun r=>r=nk v l false) (zS F l v):=by
  unfold zS wx;refine aA.lp (fun z:J bO×Bool×Int=>∃k:Nat,z.2.2=(k:Int)/\k<=l.length/\z.1.length<=2*k/\z.1++nk v (l.drop k) z.2.1=nk v l false) (fun z=>l.length-z.2.2.toNat) ⟨0,rfl,om,si,si⟩ (by simp_all) ?_;rintro⟨o,d,_⟩ ⟨k,rfl,h1,h2,h3⟩ rc hrc;dsimp only at h2 h3 hrc⊢;refine aA.cd (fun h=>?_) fun h=>?_
  ·have hk:k<l.length:=om
   rw [vo hk] at h3;simp only [nk] at h3;rw [b9 om om,bx om,bZ,gd hk];simp only [aH,aC,cF]
   have go:∀(o':J bO)(d':Bool),o'.length<=2*k+1->o'++(cond (l[k].fName==v.fName) [] [l[k]]++nk v (l.drop (k+1)) d')=nk v l false ->
     aA (fun r=>r=nk v l false) (cond (!(l[k].fName==v.fName)) (rq ((decide (0<=(k:Int)))&&(decide ((k:Int)<(l.length:Int)))) (rq ((decide (o'.length+([l[k]]:J bO).length<=9223372036854775807))&&(decide ((o'.length+([l[k]]:J bO).length)*40<=140737488355328))) (rc (o'++([l[k]]:J bO),d',((k+1:Nat):Int))))) (rc (o',d',((k+1:Nat):Int)))):=by
    intro o' d' ho he;have hm:l.length-Int.toNat ((k+1:Nat):Int)<l.length-Int.toNat (k:Int):=by grind
    cases e:(l[k].fName==v.fName) with
    | true=>
     grind
    | false=>
     grind [aA.rq,lF,nO]
   cases e:(!d && !(Op.bytesLess l[k].fName v.fName)) with
   | true=>
    rw [e] at h3;rw [cE] at e;have hd:d=false:=by simpa using e.1
    subst hd;rw [cond_true,cC (nO (by grind) de),Option.bind_some];rw [e.2,Bool.or_true] at h3
    grind [aA.rq,lF]
   | false=>
    rw [e] at h3
    have hd:(d || !(Op.bytesLess l[k].fName v.fName))=d:=by
     cases d
     ·simpa using e
     ·rfl
    grind [aA.rq,lF]
  ·obtain rfl:k=l.length:=om
   rw [M6] at h3;simp only [nk] at h3
   grind [aA.ok,aA.rq,nO]
 obtain⟨r,h,e⟩:=this;rw [e,h]
theorem ac5(h:GV l){v:bO}(hn:v.fName.length<=60/\v.bS.length<=4096)(hc:(jH l v.fName).2=true\/l.length<128):GV (nk v l false):=by
 refine⟨?_,fun x hx=>?_⟩
 ·rw [Zg]
  show 1+_<=_;have h1:(l.filter fun x=>!(x.fName==v.fName)).length<=l.length:=List.length_filter_le _ _;rcases hc with hc|hc
  ·unfold jH at hc
   cases e:l.find? fun x=>x.fName==v.fName with
   | none=>simp_all
   | some y=>
    have:(l.filter fun x=>!(x.fName==v.fName)).length<l.length:=by
     grind [Nat.lt_or_ge,List.length_filter_eq_length_iff,Nat.le_antisymm]
    have:=h.1;omega
  ·omega
 ·rcases RF v l false x hx with rfl|hx
  ·exact hn
  ·exact h.2 x hx
theorem api(F:Nat)(h:GV l)(n v:Bs)(hF:1000<F):aA (fun r=>GV r.1) (tv F l n v):=by
 have hl:=h.1;unfold tv wx;rw [y9 F l n om om,aC];refine aA.bd (E2 F n om) fun b hb=>aA.cb (fun _=>aA.ok h) fun hb'=>aA.cb (fun _=>aA.ok h) fun _=>aA.cd (fun _=>aA.ok h) fun hv=>?_
 grind [Pv,aA.ok,ac5,of_decide_eq_false]
theorem anu(F:Nat)(h:GV l)(n:Bs)(a b:Bool)(hF:1000<F):aA (fun r=>GV r.1) (qW F l n a b):=by
 have hl:=h.1;refine aA.bd (E2 F n om) fun b hb=>aA.cb (fun _=>aA.ok h) fun hb'=>?_;rw [y9 F l n om om,aC,aH,aC];rw [aH,aC,aH,aC,Pv F l _ om om]
 grind [aA.ok,ac5,Pu,of_decide_eq_false]
theorem agD(F:Nat)(l:J Bs)(g:Bs)(hF:l.length<F)(h1:l.length<=100)(h2:∀x∈l,x.length<=60)(hg:g.length<=1):aA (fun r=>r.length<=61*l.length) (tQ F l g):=by
 refine aA.lp (fun z=>∃k:Nat,z.2=(k:Int)/\k<=l.length/\z.1.length<=61*k) (fun z=>l.length-z.2.toNat) ⟨0,rfl,om,si⟩ (by simp_all) ?_;rintro⟨o,_⟩ ⟨k,rfl,h3,h4⟩ rc hrc;dsimp only at h4 hrc⊢;refine aA.cd (fun h=>?_) fun _=>aA.ok (by grind);have hk:k<l.length:=om;refine aA.bd (P:=fun u=>u.length<=o.length+1) (aA.cd (fun _=>aA.rq (dW om) (aA.ok (by simp_all))) fun _=>aA.ok om) fun u hu=>?_;have hx:=h2 _ (gU hk);rw [b9 om om,bZ,gd hk,bx om];exact aA.rq (decide_eq_true om) (hrc _ ⟨k+1,rfl,hk,by grind⟩ (by grind))
theorem agE(F:Nat)(h:GV l)(hF:1000<F):aA (fun r=>r.length<=1) (tS F l):=by
 have hl:=h.1;unfold tS wx;rw [y9 F l _ om om];refine aA.cb (fun _=>aA.ok de) fun _=>?_
 cases e:((jH l [73,70,83]).1.bS==[]) with
 | true=>exact aA.ok (eA _)
 | false=>
  have:(jH l [73,70,83]).1.bS≠[]:=by simpa using e
  have:=zu.2 this;exact aA.rq (dW om) (aA.ok (vf _ 0 1))
theorem alP(F:Nat)(o:Int)(hF:20<F):aA (fun r=>r.length<=8) (yA F o):=by
 refine aA.lp (fun z=>∃k:Nat,z.2=(k:Int)/\k<=8/\z.1.length<=k) (fun z=>8-z.2.toNat) ⟨0,rfl,om,si⟩ (by show 8-0<F;omega) ?_;rintro⟨u,_⟩ ⟨k,rfl,h3,h4⟩ rc hrc;dsimp only at h4 hrc⊢;have L1:([32,128,1,8,64,16,2,4]:J Int).length=8:=rfl;have L2:([97,67,101,102,109,110,117,120]:Bs).length=8:=rfl;refine aA.cd (fun h=>?_) fun _=>aA.ok (by grind);rw [b9 om om,bx om];have hs:=vf [97,67,101,102,109,110,117,120] k (k+1);have hm:8-Int.toNat ((k+1:Nat):Int)<8-Int.toNat (k:Int):=om;exact aA.cb (fun _=>aA.rq (JQ om om om) (aA.rq (decide_eq_true om) (hrc _ ⟨k+1,rfl,om,by grind⟩ hm))) fun _=>hrc _ ⟨k+1,rfl,om,by dsimp only;omega⟩ hm
end Go.Proofs.YtpgbhdldcmcenaaGreatDoor
