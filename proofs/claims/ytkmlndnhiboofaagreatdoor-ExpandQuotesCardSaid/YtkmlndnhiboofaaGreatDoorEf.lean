import Derived.Test.YtkmlndnhiboofaaGreatDoorZ2
import Derived.Test.YtkmlndnhiboofaaGreatDoorSo
import Derived.Test.YtkmlndnhiboofaaGreatDoorPe
open Option renaming some->W0
open Bool renaming true->WF,false->UV
open Decidable renaming decide->T1
open Int renaming toNat->Ts
set_option linter.all false
namespace Go.Proofs.YtkmlndnhiboofaaGreatDoor
open Go.RT
set_option maxRecDepth 100000
theorem J7(F:Nat)(c:Int):kQ F c=W0 (T1 (48<=c)&&T1 (c<=57)):=by
 unfold kQ wx;rw[aH,cF];rfl
theorem amA(F:Nat)(c:Int):sN F c=W0 ((T1 (97<=c)&&T1 (c<=122))||(T1 (65<=c)&&T1 (c<=90))):=by
 unfold sN wx;grind
def aql(c:Int):Bool:=((T1 (97<=c)&&T1 (c<=122))||(T1 (65<=c)&&T1 (c<=90)))||(T1 (48<=c)&&T1 (c<=57))||c==95
theorem Zz(F:Nat)(c:Int):pG F c=W0 (aql c):=by
 unfold pG wx;rw[amA];simp[J7,aH];rfl
theorem arY(F:Nat)(l:Bs)(c:Int)(hF:l.length<F)(hl:l.length<=1000):∃b,Ij F l c=W0 b:=by
 have:aA (λ_=>True) (Ij F l c):=by
  refine aA.lp (λi=>∃n:Nat,i=(n:Int)/\n<=l.length) (λi=>l.length-i.toNat) ⟨0,rfl,om⟩ (by simp_all) ?_;rintro _ ⟨n,rfl,hn⟩ rc hrc;refine aA.cd (λh=>?_) λ_=>aA.ok trivial;refine aA.rq (lM om om) (aA.cb (λ_=>aA.ok trivial) λ_=>?_);rw[bz om];exact hrc _ ⟨n+1,rfl,om⟩ (by grind)
 obtain⟨b,-,h⟩:=this;exact⟨b,h⟩
theorem K4(F:Nat)(c:Int)(hF:10<F):∃b,mH F c=W0 b:=by
 obtain⟨b,hb⟩:=arY F [64,42,35,63,45,36,33] c (by show 7<F;omega) de;unfold mH wx
 simp_all[J7,aD,aH]
def EX(s:Bs)(a:Nat)(b:Bool):Prop:=(b=WF->a+1<s.length/\s.getD a 0=36)/\(s.getD a 0=36->s.getD (a+1) 0=40->b=WF)
variable{s:Bs}{a:Nat}
theorem arZ(h:s.getD a 0=40):a<s.length:=by
 grind
theorem aoo(F:Nat)(s:Bs)(a:Nat)(hF:10<F)(hl:s.length<=1000)(ha:a<s.length):aA (EX s a) (rj F s (a:Int)):=by
 unfold rj wx;rw[bz om];by_cases h:a+1<s.length
 ·rw[cf om,bZ om om,Tx _ 36 de]
  refine aA.cb (λh0=>aA.ok ⟨λh=>(nomatch h),λh'=>?_⟩) λh0=>?_
  ·simp_all
  have h0:s.getD a 0=36:=by simpa using h0
  rw[bZ om om,Zz];obtain⟨b,hb⟩:=K4 F ((s.getD (Ts ((a+1:Nat):Int)) 0).toNat:Int) hF;rw[hb];simp[aH];refine aA.ok ⟨λ_=>⟨h,h0⟩,λ_ h4=>?_⟩
  simp_all
 ·rw[cC om]
  exact aA.ok ⟨λh=>(nomatch h),λ_ h4=>absurd (arZ h4) h⟩
theorem ae8(F:Nat)(s:Bs)(a:Nat)(hF:s.length<F)(hl:s.length<=1000)(ha:a<=s.length):aA (λr=>∃e:Nat,r=(e:Int)/\a<=e/\e<=s.length) (xI F s (a:Int)):=by
 refine aA.lp (λi=>∃n:Nat,i=(n:Int)/\a<=n/\n<=s.length) (λi=>s.length-i.toNat) ⟨a,rfl,om,ha⟩ (by grind) ?_;rintro _ ⟨n,rfl,h1,h2⟩ rc hrc;by_cases h:n<s.length
 ·rw[cC om,bZ om om,Zz]
  refine aA.cb (λ_=>?_) λ_=>aA.ok ⟨n,rfl,h1,h2⟩;rw[bz om];exact hrc _ ⟨n+1,rfl,om,om⟩ (by grind)
 ·grind[aA.ok]
theorem ajC(F:Nat)(s:Bs)(a:Nat)(hF:s.length<F)(hl:s.length<=1000)(ha:a<=s.length):aA (λr=>∃e:Nat,r=(e:Int)/\a<=e/\e<=s.length/\(s.getD a 0≠10->a<s.length->a<e)) (Em F s (a:Int)):=by
 refine aA.lp (λi=>∃n:Nat,i=(n:Int)/\a<=n/\n<=s.length) (λi=>s.length-i.toNat) ⟨a,rfl,om,ha⟩ (by grind) ?_;rintro _ ⟨n,rfl,h1,h2⟩ rc hrc;by_cases h:n<s.length
 ·rw[cC om,bZ om om]
  refine aA.cb (λ_=>?_) λh0=>aA.ok ⟨n,rfl,h1,h2,λh3 _=>?_⟩
  ·rw[bz om]
   exact hrc _ ⟨n+1,rfl,om,om⟩ (by grind)
  ·by_cases e:a=n
   ·simp_all[b9,Tx]
   ·omega
 ·grind[aA.ok]
theorem adK(F:Nat)(s:Bs)(a:Nat)(hl:s.length<=1000)(ha:a<=s.length):aA (λb=>b=WF->a+1<s.length) (AD F s (a:Int)):=by
 unfold AD wx;rw[bz om];by_cases h:a+1<s.length
 ·rw[cC om,bZ om om,aD,bZ om om,aH]
  exact aA.ok λ_=>h
 ·rw[cf om]
  simp_all[aA.ok]
theorem ahf(F:Nat)(c:Int):yN F c=W0 (c==9||c==32):=by unfold yN wx;rw[aH];rfl
theorem aop(F:Nat)(c:Int):∃b,vX F c=W0 b:=by unfold vX wx;simp_all[aH,cT,aD]
def PQ(s:Bs)(a k:Nat)(r:Int×Int):Prop:=r.2=0->∃e:Nat,r.1=(e:Int)/\a+k<=e/\e<=s.length
variable{k:Nat}{x e:Int}
theorem PQ.err(h:e≠0):PQ s a k (x,e):=λh'=>absurd h' h
theorem PQ.le{j:Nat}{r:Int×Int}(h:PQ s a k r)(hj:j<=k):PQ s a j r:=λe=>by
 obtain⟨e,h1,h2,h3⟩:=h e;grind
theorem aA.pair{A B:Type}{x:O (A×B)}{Q:A×B->Prop}(h:aA Q x):aA Q (x.bind λy=>W0 (y.1,y.2)):=by
 obtain⟨r,h,rfl⟩:=h;exact⟨_,h,rfl⟩
theorem amB(F:Nat)(s:Bs)(a:Nat)(hF:s.length<F)(hl:s.length<=1000)(ha:a<s.length):aA (PQ s a 2) (AE F s (a:Int)):=by
 unfold AE wx;rw[bz om];refine aA.lp (λi=>∃n:Nat,i=(n:Int)/\a+1<=n/\n<=s.length) (λi=>s.length-i.toNat) ⟨a+1,rfl,om,ha⟩ (by grind) ?_;rintro _ ⟨n,rfl,h1,h2⟩ rc hrc;refine aA.cd (λh=>?_) λ_=>aA.ok (PQ.err de);rw[bZ om om,bz om];exact aA.cb (λ_=>aA.ok λ_=>⟨n+1,rfl,om,om⟩) λ_=>hrc _ ⟨n+1,rfl,om,om⟩ (by grind)
theorem aoq(F:Nat)(s:Bs)(a:Nat)(hF:s.length+2<F)(hl:s.length<=1000)(ha:a<s.length):aA (PQ s a 2) (ue F s (a:Int)):=by
 unfold ue wx;rw[bz om];refine aA.lp (λi=>∃n:Nat,i=(n:Int)/\a+1<=n/\n<=s.length+1) (λi=>s.length+1-i.toNat) ⟨a+1,rfl,om,om⟩ (by grind) ?_;rintro _ ⟨n,rfl,h1,h2⟩ rc hrc;refine aA.cd (λh=>?_) λ_=>aA.ok (PQ.err de);rw[bZ om om,bz om];refine aA.cb (λ_=>aA.ok λ_=>⟨n+1,rfl,om,om⟩) λ_=>?_;rw[bZ om om,aH];refine aA.cb (λ_=>aA.ok (PQ.err de)) λhb=>?_;rw[bZ om om];refine aA.cb (λh9=>?_) λ_=>hrc _ ⟨n+1,rfl,om,om⟩ (by grind);rw[bz om];exact hrc _ ⟨n+2,rfl,om,om⟩ (by grind)
def P1(F:Nat)(s:Bs)(n:Nat):Prop:=∀(a:Nat)(p:Int),a<s.length->4*(s.length-a)+4<=n->aA (λr=>PQ s a 1 r/\(s.getD a 0=39->p=0->PQ s a 2 r)/\(s.getD a 0=96->PQ s a 2 r)/\(s.getD a 0=36->s.getD (a+1) 0=40->PQ s a 3 r)) ((dx F n).1 s (a:Int) p)
def P2(F:Nat)(s:Bs)(n:Nat):Prop:=∀(a:Nat)(p:Int),a+1<s.length->4*(s.length-a)+3<=n->aA (λr=>PQ s a 1 r/\(s.getD (a+1) 0=40->PQ s a 3 r)) ((dx F n).2.1 s (a:Int) p)
def P3(F:Nat)(s:Bs)(n:Nat):Prop:=∀(a:Nat)(p:Int),a+1<s.length->4*(s.length-a)+2<=n->aA (PQ s a 3) ((dx F n).2.2.1 s (a:Int) p)
def P4(F:Nat)(s:Bs)(n:Nat):Prop:=∀(a:Nat),a+2<s.length->4*(s.length-a)+2<=n->aA (PQ s a 3) ((dx F n).2.2.2.1 s (a:Int))
def P5(F:Nat)(s:Bs)(n:Nat):Prop:=∀(a:Nat),a+1<s.length->4*(s.length-a)+2<=n->aA (PQ s a 3) ((dx F n).2.2.2.2.1 s (a:Int))
def P6(F:Nat)(s:Bs)(n:Nat):Prop:=∀(a:Nat),a<s.length->4*(s.length-a)+2<=n->aA (PQ s a 2) ((dx F n).2.2.2.2.2 s (a:Int))
variable{F n:Nat}{R:Type}{Q:R->Prop}
theorem ahg(hF:s.length+20<F)(hl:s.length<=1000)(h2:P2 F s n)(h6:P6 F s n):P1 F s (n+1):=by
 intro a p ha hn;show aA _ (Gx F (dx F n) s (a:Int) p);unfold Gx wx;rw[bZ om om,bz om,aH]
 have hb:∀(k:Nat),k<256->∀b:Bool,((((s.getD (Ts (a:Int)) 0).toNat:Int)==(no_index (OfNat.ofNat k:Int)))=b->(s.getD a 0==(OfNat.ofNat k:UInt8))=b):=by
  simp_all[b9,pF]
 refine aA.cb (λ_=>aA.ok ⟨PQ.err de,λ_ _=>PQ.err de,λ_=>PQ.err de,λ_ _=>PQ.err de⟩) λhx=>?_;refine aA.cb (λh=>?_) λg1=>?_
 ·have:=hb 92 de _ h
  have hne:a+1≠s.length:=λe=>by simp_all
  rw[bN om];have q:PQ s a 2 ((a:Int)+2,0):=λ_=>⟨a+2,rfl,om,om⟩;exact aA.ok ⟨q.le om,λ_ _=>q,λ_=>q,λh=>by simp_all⟩
 refine aA.cb (λh=>?_) λg2=>?_
 ·exact((aoq F s a om hl ha).mono λr q=>⟨q.le om,λ_ _=>q,λ_=>q,λh=>by simp_all⟩).pair
 have n96:s.getD a 0≠96:=λe=>by simp_all
 refine aA.bd (aoo F s a om hl ha) λb hE=>?_;refine aA.cb (λh=>?_) λg3=>?_
 ·obtain⟨h1,h3⟩:=hE.1 h
  exact((h2 a p h1 om).mono λr q=>⟨q.1,λh=>by simp_all,λh=>by simp_all,λ_ h=>q.2 h⟩).pair
 have n40:s.getD a 0=36->s.getD (a+1) 0=40->False:=λh h'=>by have:=hE.2 h h';simp_all
 simp[aH];refine aA.cb (λh=>?_) λg4=>?_
 ·exact((amB F s a om hl ha).mono λr q=>⟨q.le om,λ_ _=>q,λ_=>q,λh h'=>(n40 h h').elim⟩).pair
 refine aA.cb (λh=>?_) λg5=>?_
 ·rw[cH]at h
  exact((h6 a ha om).mono λr q=>⟨q.le om,λ_ _=>q,λ_=>q,λh h'=>(n40 h h').elim⟩).pair
 refine aA.ok ⟨λ_=>⟨a+1,rfl,om,om⟩,λh e=>?_,λh=>(n96 h).elim,λh h'=>(n40 h h').elim⟩
 simp_all
theorem ajD(hF:s.length+20<F)(hl:s.length<=1000)(h3:P3 F s n)(h4:P4 F s n)(h5:P5 F s n):P2 F s (n+1):=by
 intro a p ha hn;show aA _ (yF F (dx F n) s (a:Int) p);unfold yF wx;rw[bz om,bZ om om,bN om,show(a:Int)+2=((a+2:Nat):Int)from rfl];refine aA.cb (λ_=>((h3 a p ha om).mono λr q=>⟨q.le om,λ_=>q⟩).pair) λ_=>?_;rw[aH,aD,cF]
 have main:aA (λr=>PQ s a 1 r/\(s.getD (a+1) 0=40->PQ s a 3 r)) (cond (((s.getD (Ts ((a+1:Nat):Int)) 0).toNat:Int)==40)
   (((dx F n).2.2.2.2.1 s (a:Int)).bind λx5=>W0 (x5.1,x5.2))
   ((mH F ((s.getD (Ts ((a+1:Nat):Int)) 0).toNat:Int)).bind λx6=>cond x6 (W0 (((a+2:Nat):Int),0)) ((xI F s ((a+1:Nat):Int)).bind λx7=>W0 (x7,0)))):=by
  refine aA.cb (λ_=>((h5 a ha om).mono λr q=>⟨q.le om,λ_=>q⟩).pair) λg=>?_;have n40:s.getD (a+1) 0=40->False:=λh=>by simp_all
  obtain⟨b,hb⟩:=K4 F ((s.getD (Ts ((a+1:Nat):Int)) 0).toNat:Int) om;rw[hb];refine aA.cb (λ_=>aA.ok ⟨λ_=>⟨a+2,rfl,om,om⟩,λh=>(n40 h).elim⟩) λ_=>?_;refine aA.bd (ae8 F s (a+1) om hl om) λr ⟨e,h1,h2,h3⟩=>aA.ok ⟨λ_=>⟨e,h1,om,h3⟩,λh=>(n40 h).elim⟩
 by_cases h:a+2<s.length
 ·rw[show T1 (((a+2:Nat):Int)<(s.length:Int))=WF from dT om,Bool.and_true,Bool.and_true,mW om,aH]
  exact aA.cb (λ_=>((h4 a h om).mono λr q=>⟨q.le om,λ_=>q⟩).pair) λ_=>main
 grind
theorem step1(h1:P1 F s n){i:Nat}{p:Int}(hi:i<s.length)(hn:4*(s.length-i)+4<=n){k:Int×Int->O R}(hk:∀r,PQ s i 1 r->aA Q (k r)):aA Q (((dx F n).1 s (i:Int) p).bind k):=
 aA.bd (h1 i p hi hn) λr q=>hk r q.1
theorem J8{A B:O R}(a:x≠0->aA Q A)(b:x=0->aA Q B):aA Q (cond (x != 0) A B):=by
 grind
theorem ae9(hF:s.length+20<F)(hl:s.length<=1000)(h1:P1 F s n):P3 F s (n+1):=by
 intro a p ha hn;show aA _ (Cr F (dx F n) s (a:Int) p);unfold Cr wx;rw[bN om];refine aA.lp (λi=>∃n:Nat,i=(n:Int)/\a+2<=n/\n<=s.length) (λi=>s.length-i.toNat) ⟨a+2,rfl,om,ha⟩ (by grind) ?_;rintro _ ⟨i,rfl,g1,g2⟩ rc hrc;refine aA.cd (λh=>?_) λ_=>aA.ok (PQ.err de);rw[bZ om om,bz om];refine aA.cb (λ_=>aA.ok λ_=>⟨i+1,rfl,om,om⟩) λ_=>?_;rw[bZ om om,aH];refine aA.cb (λ_=>aA.ok (PQ.err de)) λ_=>step1 h1 om om λr q=>J8 (λh=>aA.ok (PQ.err h)) λh=>?_;obtain⟨e,e1,e2,e3⟩:=q h;rw[e1];exact hrc _ ⟨e,rfl,om,e3⟩ (by grind)
theorem ajE(hF:s.length+20<F)(hl:s.length<=1000)(h1:P1 F s n):P6 F s (n+1):=by
 intro a ha hn;show aA _ (Cs F (dx F n) s (a:Int));unfold Cs wx;rw[bz om];refine aA.lp (λi=>∃n:Nat,i=(n:Int)/\a+1<=n/\n<=s.length) (λi=>s.length-i.toNat) ⟨a+1,rfl,om,ha⟩ (by grind) ?_;rintro _ ⟨i,rfl,g1,g2⟩ rc hrc;refine aA.cd (λh=>?_) λ_=>aA.ok (PQ.err de);rw[bZ om om,bz om];refine aA.cb (λ_=>aA.ok λ_=>⟨i+1,rfl,om,om⟩) λ_=>step1 h1 om om λr q=>J8 (λh=>aA.ok (PQ.err h)) λh=>?_;obtain⟨e,e1,e2,e3⟩:=q h;rw[e1];exact hrc _ ⟨e,rfl,om,e3⟩ (by grind)
theorem afa(hF:s.length+20<F)(hl:s.length<=1000)(h1:P1 F s n):P4 F s (n+1):=by
 intro a ha hn;show aA _ (vY F (dx F n) s (a:Int));unfold vY wx;rw[bN om];refine aA.lp (λi=>∃n:Nat,i.1=(n:Int)/\a+3<=n/\n<=s.length) (λi=>s.length-i.1.toNat) ⟨a+3,rfl,om,ha⟩ (by grind) ?_;rintro⟨_,o⟩ ⟨i,rfl,g1,g2⟩ rc hrc;refine aA.cd (λh=>?_) λ_=>aA.ok (PQ.err de);rw[bZ om om,bz om];refine aA.jj (P:=λx=>∀r,x=.inr r->PQ s a 3 r) ?_ (λo' _=>?_) λr h=>h r rfl
 ·have ok:∀o':Int,aA (λx:Int ⊕ (Int×Int)=>∀r,x=.inr r->PQ s a 3 r) (W0 (.inl o')):=λo'=>aA.ok λr h=>nomatch h
  refine aA.cb (λ_=>ok _) λ_=>?_;rw[aH];refine aA.cb (λ_=>ok _) λ_=>?_;rw[aH];refine aA.cb (λ_=>aA.ok λr e=>by grind[PQ.err]) λhx=>?_
  have fin:aA (λx:Int ⊕ (Int×Int)=>∀r,x=.inr r->PQ s a 3 r) (cond (((s.getD (Ts (i:Int)) 0).toNat:Int)==41) (W0 (.inr ((i:Int),6))) (W0 (.inl o))):=
   aA.cb (λ_=>aA.ok λr e=>by grind[PQ.err]) λ_=>ok _
  cases hc:(((s.getD (Ts (i:Int)) 0).toNat:Int)==41)with
  | false=>rw[hc]at fin;exact fin
  | true=>
   rw[hc]at hx fin
   have hne:i+1≠s.length:=λe=>by
    simp_all
   rw[bZ om om];refine aA.cb (λ_=>aA.ok λr e=>?_) λ_=>fin;cases e;rw[bN om];exact λ_=>⟨i+2,rfl,om,om⟩
 ·refine step1 h1 om om λr q=>J8 (λh=>aA.ok (PQ.err h)) λh=>?_
  obtain⟨e,e1,e2,e3⟩:=q h;rw[e1];exact hrc _ ⟨e,rfl,om,e3⟩ (by grind)
theorem aA.ret{σ R:Type}{x:O R}{Q:R->Prop}(h:aA Q x):aA (λz:σ ⊕ R=>∃r,Q r/\z=.inr r) (zR x):=by
 obtain⟨r,h,rfl⟩:=h;exact⟨.inr r,⟨r,h,rfl⟩,rfl⟩
theorem ajF(hF:s.length+20<F)(hl:s.length<=1000)(h1:P1 F s n):P5 F s (n+1):=by
 intro a ha hn;show aA _ (AF F (dx F n) s (a:Int));unfold AF wx;rw[bN om];refine aA.lp (λi=>∃n:Nat,i.1=(n:Int)/\a+2<=n/\n<=s.length) (λi=>s.length-i.1.toNat) ⟨a+2,rfl,om,ha⟩ (by grind) ?_;rintro⟨_,o,bg⟩ ⟨i,rfl,g1,g2⟩ rc hrc
 have pH:∀(e:Nat) o' b',i<e->e<=s.length->aA (PQ s a 3) (rc ((e:Int),o',b')):=λe o' b' h1 h2=>
  hrc _ ⟨e,rfl,om,h2⟩ (by grind)
 refine aA.cd (λh=>?_) λ_=>aA.ok (PQ.err de);have h:i<s.length:=om;rw[bZ om om,bz om];refine aA.jj (P:=λx=>(∀z,x=.inl z->z.1=(i:Int))/\∀r,x=.inr r->PQ s a 3 r) ?_ (λz hz=>?_) λr h=>h.2 r rfl
 ·have ok:∀o':Int,aA (λx:(Int×Int) ⊕ (Int×Int)=>(∀z,x=.inl z->z.1=(i:Int))/\∀r,x=.inr r->PQ s a 3 r) (W0 (.inl ((i:Int),o'))):=λo'=>aA.ok ⟨λz e=>by cases e;rfl,λr h=>nomatch h⟩
  have rt:∀ {x:Option (Int×Int)},aA (PQ s a 3) x->aA (λx:(Int×Int) ⊕ (Int×Int)=>(∀z,x=.inl z->z.1=(i:Int))/\∀r,x=.inr r->PQ s a 3 r) (zR x):=λh=>h.ret.mono λz ⟨r,q,e⟩=>by
   simp_all
  rw[aH];refine aA.cb (λhc=>?_) λ_=>?_
  ·have h35:s.getD i 0=35:=by
    simp_all[cF,cH,b9,pF]
   grind[aA.bd,ajC]
  refine aA.bd (adK F s i hl om) λb hb=>aA.cb (λhb'=>rt ?_) λ_=>?_
  ·grind[bN]
  rw[aH];refine aA.cb (λ_=>aA.ok ⟨λz e=>(nomatch e),λr e=>?_⟩) λ_=>aA.cb (λ_=>ok _) λ_=>aA.cb (λ_=>ok _) λ_=>ok _;cases e;exact λ_=>⟨i+1,rfl,om,om⟩
 ·obtain⟨ob,Mq⟩:=aop F ((s.getD (Ts (i:Int)) 0).toNat:Int)
  rw[ahf,Mq];simp[aH];obtain⟨z1,z2⟩:=z;obtain rfl:z1=(i:Int):=hz.1 _ rfl;refine step1 h1 h om λr q=>J8 (λh=>aA.ok (PQ.err h)) λh=>?_;obtain⟨e,e1,e2,e3⟩:=q h
  grind
theorem adL(hF:s.length+20<F)(hl:s.length<=1000):∀n,P1 F s n/\P2 F s n/\P3 F s n/\P4 F s n/\P5 F s n/\P6 F s n
 | 0=>⟨λ_ _ _ h=>om,λ_ _ _ h=>om,λ_ _ _ h=>om,λ_ _ h=>om,λ_ _ h=>om,λ_ _ h=>om⟩
 | n+1=>by
  obtain⟨h1,h2,h3,h4,h5,h6⟩:=adL hF hl n;exact⟨ahg hF hl h2 h6,ajD hF hl h3 h4 h5,ae9 hF hl h1,afa hF hl h1,ajF hF hl h1,ajE hF hl h1⟩
theorem K5(F:Nat)(s:Bs)(a:Nat)(p:Int)(hF:4*s.length+20<F)(hl:s.length<=1000)(ha:a<s.length):
  aA (λr=>PQ s a 1 r/\(s.getD a 0=39->p=0->PQ s a 2 r)/\(s.getD a 0=96->PQ s a 2 r)/\(s.getD a 0=36->s.getD (a+1) 0=40->PQ s a 3 r)) (AG F s (a:Int) p):=
 (adL om hl F).1 a p ha om
mutual
def wP:TPart->Nat
 | .mk _ t _ _ ps=>1+t.length+fL ps
def fL:J TPart->Nat
 | []=>0
 | p::l=>wP p+fL l
end
theorem Ad:∀(l m:J TPart),fL (l++m)=fL l+fL m
 | [],m=>by simp[fL]
 | p::l,m=>by simp[fL,Ad l m];omega
theorem Gy(p:TPart):1+p.fText.length+fL p.fParts=wP p:=by cases p;rfl
theorem Ct:∀(l:J TPart),l.length<=fL l
 | []=>by simp
 | p::l=>by have:=Ct l;have:=Gy p;simp[fL];omega
theorem Gz(l:J TPart)(k:Nat):fL (l.take k)+fL (l.drop k)=fL l:=by rw[<-Ad,KY]
theorem Tz{l:J TPart}(h:k<l.length):fL (l.take (k+1))=fL (l.take k)+wP (l.getD k iP):=by
 rw[mh h,Ad,gd h];simp only[fL];omega
theorem VI{l:J TPart}(h:k<l.length):wP (l.getD k iP)<=fL l:=by
 have h1:=Tz h;have h2:=Gz l (k+1);omega
theorem afb(F:Nat)(p:TPart)(e:Int):eD F p e=W0 (dy.mk [p] e 0):=by cases p;rfl
theorem vu(s:Bs)(i j:Nat):(sl s (i:Int) (j:Int)).length<=j-i:=by
 grind[sl,List.length_drop,List.length_take,Int.toNat_natCast]
theorem afc(F:Nat)(p:Int):lu F p=W0 (p==0||p==1):=by unfold lu wx;rw[aH];rfl
theorem ar0(F:Nat)(c p:Int):∃b,zw F c p=W0 b:=by
 unfold zw wx;simp_all[aH,cT,aD]
theorem aqm(F:Nat)(s:Bs)(a:Nat)(p o:Int)(ha:a<s.length):∃b,Fg F s (a:Int) p o=W0 b:=by
 unfold Fg wx;rw[bZ om om,bZ om om,bZ om om]
 simp_all[aH,cT,aD]
theorem VJ(F:Nat)(s:Bs)(a:Nat)(hl:s.length<=1000)(ha:a<=s.length):aA (λb=>b=WF->a+1<s.length) (vZ F s (a:Int)):=adK F s a hl ha
theorem aor(F:Nat)(s:Bs)(a:Nat)(p:Int)(hF:s.length<F)(hl:s.length<=1000)(ha:a<s.length):∃b,rS F s (a:Int) p=W0 b:=by
 have:aA (λ_=>True) (rS F s (a:Int) p):=by
  unfold rS wx;rw[afc,bz om,bZ om om];simp[aH];refine aA.cb (λ_=>aA.ok trivial) λ_=>?_;refine aA.lp (λi=>∃n:Nat,i=(n:Int)/\a+1<=n/\n<=s.length) (λi=>s.length-i.toNat) ⟨a+1,rfl,om,ha⟩ (by grind) ?_;rintro _ ⟨n,rfl,h1,h2⟩ rc hrc;refine aA.bd (VJ F s n hl h2) λb hb=>aA.cb (λh=>?_) λ_=>?_
  ·have:=hb h
   rw[bN om];exact hrc _ ⟨n+2,rfl,om,om⟩ (by grind)
  ·by_cases h:n<s.length
   ·rw[bZ om om,bZ om om]
    simp_all[aH,aD,aA.ok,trivial]
   simp_all[cC,aA.ok,trivial]
 obtain⟨b,-,h⟩:=this;exact⟨b,h⟩
def RQ(s:Bs)(a:Nat)(r:dy):Prop:=r.fE=0->∃e:Nat,r.Mr=(e:Int)/\a+1<=e/\e<=s.length/\r.fParts.length<=1/\fL r.fParts<=2*(e-a)
theorem RQ.err{l:J TPart}(h:e≠0):RQ s a ⟨l,x,e⟩:=λh'=>absurd h' h
theorem RQ.one{e:Nat}{p:TPart}(h1:a+1<=e)(h2:e<=s.length)(h3:wP p<=2*(e-a)):RQ s a ⟨[p],(e:Int),0⟩:=λ_=>⟨e,rfl,h1,h2,si,by simp[fL];omega⟩
theorem wT(k:Int)(t:Bs)(o:Int)(c:Bool):wP (.mk k t o c [])=1+t.length:=by simp[wP,fL]
theorem wN(k:Int)(t:Bs)(o:Int)(c:Bool)(l:J TPart):wP (.mk k t o c l)=1+t.length+fL l:=rfl
theorem aA.so{A:Type}{x:O A}{Q:A->Prop}(h:aA Q x):aA Q (x.bind λy=>W0 y):=by rw[aqn];exact h
theorem amC(F:Nat)(s:Bs)(a:Nat)(p:Int)(hl:s.length<=1000)(ha:a<s.length):aA (RQ s a) (oh F s (a:Int) p):=by
 unfold oh wx;rw[bz om,bN om,show(a:Int)+2=((a+2:Nat):Int)from rfl]
 have one:∀ {k o:Int}{c:Bool}{t:Bs}{e:Nat},a+1<=e->e<=s.length->1+t.length<=2*(e-a)->aA (RQ s a) ((eD F (.mk k t o c []) (e:Int)).bind λx=>W0 x):=λh1 h2 h3=>by
  simp_all[afb,aA.ok,RQ.one,wT]
 by_cases h:a+1=s.length
 ·rw[show(((a+1:Nat):Int)==(s.length:Int))=WF from by rw[h];simp,aY]
  exact aA.cb (λ_=>one om om (by show 1+1<=_;omega)) λ_=>aA.ok (RQ.err de)
 ·rw[show(((a+1:Nat):Int)==(s.length:Int))=UV from by simp;omega,aM,bZ om om]
  have h1:=vu s (a+1) (a+2);have h2:=vu s a (a+2);refine aA.cb (λ_=>aA.ok λ_=>⟨a+2,rfl,om,om,si,by simp[fL]⟩) λ_=>?_;rw[afc];refine aA.cb (λ_=>aA.rq (Ka om om om) (one om om om)) λ_=>?_;obtain⟨b,hb⟩:=ar0 F ((s.getD (Ts ((a+1:Nat):Int)) 0).toNat:Int) p;rw[hb];refine aA.cb (λ_=>aA.rq (Ka om om om) (one om om om)) λ_=>?_;simp only[aH];refine aA.cb (λ_=>aA.ok (RQ.err de)) λ_=>?_;rw[vV om om om];exact one om om om
theorem adM(F:Nat)(t:Bs)(hF:4*t.length+40<F)(hl:t.length<=900):∃b,sO F t=W0 b:=by
 have:aA (λ_=>True) (sO F t):=by
  unfold sO wx;have hL:(([36,40]:Bs)++t++([41]:Bs)).length=t.length+3:=by simp
  rw[mW (by grind),mW (by grind)];have hp:=K5 F ((([36,40]:Bs)++t)++([41]:Bs)) 0 0 om om om;refine aA.bd hp λr _=>?_;by_cases h:t=[]
  ·simp_all[aH,aD,aY,aA.ok,trivial]
  ·have:=Aw.2 h
   rw[mW om]
   simp_all[aH,aD,aA.ok,trivial]
 obtain⟨b,-,h⟩:=this;exact⟨b,h⟩
theorem aos(F:Nat)(s:Bs)(a:Nat)(hF:4*s.length+100<F)(hl:s.length<=800)(ha:a<s.length)(h96:s.getD a 0=96):aA (RQ s a) (nj F s (a:Int)):=by
 unfold nj wx;refine aA.bd (K5 F s a 0 om om ha) λr q=>J8 (λh=>aA.ok (RQ.err h)) λh=>?_;obtain⟨e,e1,e2,e3⟩:=q.2.2.1 h96 h;rw[e1,vm om om,bz om];refine aA.lp (λz:Bs×Int=>∃n:Nat,z.2=(n:Int)/\a+1<=n/\n<=e/\z.1.length<=e-a-2/\z.1.length+a+1<=n) (λz=>e-z.2.toNat) ⟨a+1,rfl,om,om,si,si⟩ (by grind) ?_
 ·rintro⟨t,_⟩ ⟨n,rfl,g1,g2,g3,g4⟩ rc hrc
  dsimp only at g3 g4 hrc⊢
  have ok:∀b:Bool,∃m:Nat,cond b (((n+1:Nat):Int)) (n:Int)=(m:Int)/\n<=m/\m<=n+1:=λb=>by
   cases b
   ·grind
   grind
  refine aA.cd (λh=>?_) λh=>?_
  ·rw[bZ om om,bz om,bZ om om,bZ om om,bZ om om]
   simp only[aH,aD];generalize hb:(cond (((s.getD (Ts (n:Int)) 0).toNat:Int)==92) _ UV:Bool)=b;obtain⟨m,hm,Xs,hm2⟩:=ok b;rw[hm,bz om];have hs:=vu s m (m+1);refine aA.rq (Ka om om om) (aA.rq (ei om) (hrc _ ⟨m+1,rfl,om,om,?_,?_⟩ ?_))
   ·grind
   ·grind
   grind
  ·refine aA.bd (P:=λu:Bs=>u.length<=e-a-1) ?_ λu hu=>?_
   ·refine aA.bd (P:=λ_=>True) ?_ λb _=>aA.cb (λ_=>aA.rq (decide_eq_true (by grind)) (aA.ok (by grind))) λ_=>aA.ok om
    by_cases ht:t=[]
    ·simp_all[aA.ok,trivial]
    ·have:0<t.length:=Aw.2 ht
     rw[mW om,aH];exact aA.ok trivial
   refine aA.bd (P:=λu:Bs=>u.length<=e-a) ?_ λv hv=>?_
   ·obtain⟨b,hb⟩:=adM F u om om
    rw[hb,aD];exact aA.cb (λ_=>aA.rq (decide_eq_true (by grind)) (aA.ok (by grind))) λ_=>aA.ok om
   obtain⟨b,hb⟩:=adM F v om om;rw[hb,aD];refine aA.cb (λ_=>aA.ok (RQ.err de)) λ_=>?_
   grind[afb,aA.ok,RQ.one,wT]
theorem VK(F:Nat)(s:Bs)(hF:s.length<F)(hl:s.length<=1000):∃r,mj F s=W0 r:=by
 have:aA (λ_=>True) (mj F s):=by
  unfold mj wx;by_cases h:s=[]
  ·simp_all[aA.ok,trivial]
  have:=Aw.2 h;rw[mW om];simp only[aH];refine aA.cb (λ_=>aA.ok trivial) λ_=>?_;refine aA.lp (λi=>∃n:Nat,i.2=(n:Int)/\n<=s.length) (λi=>s.length-i.2.toNat) ⟨0,rfl,om⟩ (by simp_all) ?_;rintro⟨v,_⟩ ⟨n,rfl,hn⟩ rc hrc;refine aA.cd (λh=>?_) λ_=>aA.ok trivial;rw[bZ om om,J7,bz om];refine aA.cb (λ_=>aA.ok trivial) λ_=>aA.rq (lM om om) (hrc _ ⟨n+1,rfl,om⟩ (by grind))
 obtain⟨b,-,h⟩:=this;exact⟨b,h⟩
theorem ZX(F:Nat)(s:Bs)(a:Nat)(hF:s.length+20<F)(hl:s.length<=1000)(ha:a<=s.length):aA (λr=>∃e:Nat,r=(e:Int)/\a<=e/\e<=s.length) (oq F s (a:Int)):=by
 unfold oq wx;by_cases h:a<s.length
 ·rw[cf om,bZ om om,J7,bZ om om,Zz,bZ om om,bz om]
  refine aA.cb (λ_=>?_) λ_=>aA.cb (λ_=>(ae8 F s a om hl ha).so) λ_=>?_
  ·refine aA.lp (λi=>∃n:Nat,i=(n:Int)/\a+1<=n/\n<=s.length) (λi=>s.length-i.toNat) ⟨a+1,rfl,om,h⟩ (by grind) ?_
   rintro _ ⟨n,rfl,h1,h2⟩ rc hrc;by_cases hn:n<s.length
   ·rw[cC om,bZ om om,J7,bz om]
    refine aA.cb (λ_=>aA.rq (Ka om om om) ?_) λ_=>aA.ok ⟨n,rfl,om,h2⟩;have hs:=vu s a (n+1);obtain⟨r,hr⟩:=VK F (sl s (a:Int) ((n+1:Nat):Int)) om om;rw[hr];exact aA.cb (λ_=>aA.ok ⟨n,rfl,om,h2⟩) λ_=>hrc _ ⟨n+1,rfl,om,om⟩ (by grind)
   ·grind[aA.ok]
  ·obtain⟨b,hb⟩:=K4 F ((s.getD (Ts (a:Int)) 0).toNat:Int) om
   rw[hb];exact aA.cb (λ_=>aA.ok ⟨a+1,rfl,om,om⟩) λ_=>aA.ok ⟨a,rfl,om,om⟩
 ·grind[aA.ok]
theorem op8(F:Nat)(s:Bs)(a:Nat)(hl:s.length<=1000)(ha:a<s.length):aA (λr=>r.1≠0->∃n:Nat,r.2.2=(n:Int)/\1<=n/\a+n<=s.length) (xJ F s (a:Int)):=by
 unfold xJ wx;rw[bZ om om];have z:aA (λr:Int×Bool×Int=>r.1≠0->∃n:Nat,r.2.2=(n:Int)/\1<=n/\a+n<=s.length) (W0 (0,UV,0)):=aA.ok λh=>absurd rfl h;have ok:∀(o:Int)(b:Bool)(n:Nat),1<=n->a+n<=s.length->aA (λr=>r.1≠0->∃n:Nat,r.2.2=(n:Int)/\1<=n/\a+n<=s.length) (W0 (o,b,(n:Int))):=λo b n h1 h2=>aA.ok λ_=>⟨n,rfl,h1,h2⟩
 cases hc:(((s.getD (Ts (a:Int)) 0).toNat:Int)==58)with
 | true=>
  rw[aY,bz om];refine aA.cd (λ_=>z) λh=>?_;rw[show aC (aC (((a+1:Nat):Int)-(a:Int))+1)=((2:Nat):Int)from by grind[bN]]
  exact aA.rq (lM om om) (aA.cb (λ_=>ok _ _ 2 om om) λ_=>aA.rq (lM om om) (aA.cb (λ_=>ok _ _ 2 om om) λ_=>aA.rq (lM om om) (aA.cb (λ_=>ok _ _ 2 om om) λ_=>aA.rq (lM om om) (aA.cb (λ_=>ok _ _ 2 om om) λ_=>z))))
 | false=>
  rw[aM,aD];rw[cf om,show aC (aC ((a:Int)-(a:Int))+1)=((1:Nat):Int)from by simp_all[bN],bz om];refine aA.rq (lM om om) (aA.cb (λ_=>ok _ _ 1 om om) λ_=>aA.rq (lM om om) (aA.cb (λ_=>ok _ _ 1 om om) λ_=>aA.rq (lM om om) (aA.cb (λ_=>ok _ _ 1 om om) λ_=>aA.rq (lM om om) (aA.cb (λ_=>ok _ _ 1 om om) λ_=>?_))))
  have two:∀(k:Int){A B:O (Int×Bool×Int)},(a+1<s.length->aA (λr=>r.1≠0->∃n:Nat,r.2.2=(n:Int)/\1<=n/\a+n<=s.length) A)->aA (λr=>r.1≠0->∃n:Nat,r.2.2=(n:Int)/\1<=n/\a+n<=s.length) B ->
    aA (λr=>r.1≠0->∃n:Nat,r.2.2=(n:Int)/\1<=n/\a+n<=s.length) ((rq ((T1 (0<=(a:Int)))&&(T1 ((a:Int)<(s.length:Int)))) (cond (((s.getD (Ts (a:Int)) 0).toNat:Int)==k) (W0 (T1 (((a+1:Nat):Int)<(s.length:Int)))) (W0 UV)):O Bool).bind λx2=>
     (cond x2 (rq ((T1 (0<=((a+1:Nat):Int)))&&(T1 (((a+1:Nat):Int)<(s.length:Int)))) (W0 (((s.getD (Ts ((a+1:Nat):Int)) 0).toNat:Int)==k))) (W0 UV):O Bool).bind λx3=>cond x3 A B):=by
   intro k A B hA hB;rw[bZ om om,aH,aD];by_cases h:a+1<s.length
   ·rw[bZ om om]
    grind
   grind
  refine two 37 (λh=>ok _ _ 2 om om) (aA.rq (lM om om) (aA.cb (λ_=>ok _ _ 1 om om) λ_=>two 35 (λh=>ok _ _ 2 om om) (aA.rq (lM om om) (aA.cb (λ_=>ok _ _ 1 om om) λ_=>z))))
theorem amD(F:Nat)(p:Int):∃q,(q=1\/q=3\/q=6)/\qg F p=W0 q:=by
 unfold qg wx
 grind
theorem amE(F:Nat)(p:Int):∃q,AH F p=W0 q:=by
 unfold AH wx
 simp_all[aH,aD]
theorem aqo(F:Nat)(l:J TPart)(t:Bs)(hl:fL l<=10000)(ht:t.length<=10000):aA (λr=>fL r<=fL l+1+t.length) (AJ F l t):=by
 have h1:=Ct l;unfold AJ wx;by_cases h:0<l.length
 ·rw[cC om,vm om h,bZ om om,aD]
  refine aA.cb (λ_=>?_) λ_=>aA.rq (pI (by grind) de) (aA.ok (by rw[Ad];simp[fL,wT];omega));have e1:sl l 0 ((l.length-1:Nat):Int)=l.take (l.length-1):=by simp[sl]
  have hw:=Tz (l:=l) (k:=l.length-1) om;have hp:=Gy (l.getD (l.length-1) iP);have h4:(l.take (l.length-1+1))=l:=vN om;rw[h4]at hw;simp only[e1,b9];have hL':(([]:J TPart).length+(l.take (l.length-1)).length)=l.length-1:=by simp
  refine aA.rq (lM om om) (aA.rq (pI (by rw[hL'];omega) de) (aA.rq (lM om om) ?_));refine aA.rq (decide_eq_true om) (aA.rq (pI (by grind) de) (aA.ok ?_));rw[Ad,p9];simp only[fL,wT,vi];omega
 ·rw[cf om,aD,aM]
  exact aA.rq (pI (by simp_all) de) (aA.ok (by rw[Ad];simp[fL,wT];omega))
def PL(p:Int):Prop:=p=1\/p=2\/p=3\/p=6
def RP(s:Bs)(a:Nat)(p:Int)(r:dy):Prop:=r.fE=0->∃e:Nat,r.Mr=(e:Int)/\a<=e/\e<=s.length/\fL r.fParts<=2*(e-a)/\(PL p->e<s.length)/\(p=4->e+1<s.length)
theorem RP.err{p:Int}{l:J TPart}(h:e≠0):RP s a p ⟨l,x,e⟩:=λh'=>absurd h' h
def Q1(F:Nat)(s:Bs)(n:Nat):Prop:=∀(a:Nat)(p lv fr:Int),a<=s.length->6*(s.length-a)+6<=n->aA (RP s a p) ((bQ F n).1 s (a:Int) p lv fr)
def Q2(F:Nat)(s:Bs)(n:Nat):Prop:=∀(a:Nat)(p lv:Int),a<s.length->6*(s.length-a)+5<=n->aA (RQ s a) ((bQ F n).2.1 s (a:Int) p lv)
def Q3(F:Nat)(s:Bs)(n:Nat):Prop:=∀(a:Nat)(p lv:Int),a<s.length->s.getD a 0=36->6*(s.length-a)+4<=n->aA (RQ s a) ((bQ F n).2.2.1 s (a:Int) p lv)
def Q4(F:Nat)(s:Bs)(n:Nat):Prop:=∀(a:Nat)(p lv:Int),a+1<s.length->s.getD a 0=36->6*(s.length-a)+3<=n->aA (RQ s a) ((bQ F n).2.2.2.1 s (a:Int) p lv)
def Q5(F:Nat)(s:Bs)(n:Nat):Prop:=∀(a:Nat)(p lv:Int),a+1<s.length->6*(s.length-a)+2<=n->aA (RQ s a) ((bQ F n).2.2.2.2.1 s (a:Int) p lv)
def Q6(F:Nat)(s:Bs)(n:Nat):Prop:=∀(a:Nat)(lv:Int),a<s.length->6*(s.length-a)+2<=n->aA (RQ s a) ((bQ F n).2.2.2.2.2 s (a:Int) lv)
theorem uf(h:e≠0):aA (RQ s a) ((dM F x e).bind λy=>W0 y):=aA.ok (RQ.err h)
theorem Jv{e:Nat}{p:TPart}(h1:a+1<=e)(h2:e<=s.length)(h3:wP p<=2*(e-a)):aA (RQ s a) ((eD F p (e:Int)).bind λy=>W0 y):=by
 simp_all[afb,aA.ok,RQ.one]
theorem afd(hF:4*s.length+2000<F)(hl:s.length<=800)(h2:Q2 F s n):Q1 F s (n+1):=by
 intro a p lv fr ha hn;show aA _ (zx F (bQ F n) s (a:Int) p lv fr);refine aA.lp (λz:Int×J TPart×Int=>∃m:Nat,z.1=(m:Int)/\a<=m/\m<=s.length/\fL z.2.1<=2*(m-a)) (λz=>s.length-z.1.toNat) ⟨a,rfl,om,ha,by simp[fL]⟩ (by grind) ?_;rintro⟨_,l,op⟩ ⟨m,rfl,g1,g2,g3⟩ rc hrc;dsimp only at g3 hrc⊢;refine aA.cd (λh=>?_) λh=>?_
 ·have h:m<s.length:=om
  obtain⟨b,hb⟩:=aqm F s m p op h;rw[hb,aD,bz om,aH,aD];refine aA.cb (λ_=>?_) λ_=>?_
  ·refine aA.cb (λ_=>aA.ok (RP.err de)) λh4=>?_
   have hp4:p=4->m+1<s.length:=λe=>by
    grind
   refine aA.bd (P:=λ_=>True) ?_ λb _=>aA.cb (λ_=>aA.ok (RP.err de)) λ_=>aA.ok λ_=>⟨m,rfl,g1,g2,g3,λ_=>h,hp4⟩
   cases e4:(p==4)with
   | false=>exact aA.ok trivial
   | true=>have:=hp4 (by simpa using e4);exact aA.rq (lM om om) (aA.ok trivial)
  ·obtain⟨tb,htb⟩:=aor F s m p om om h
   rw[htb];simp only[aD,aH];refine aA.cb (λ_=>aA.rq (pI (by simp_all) de) (hrc _ ⟨m+1,rfl,om,om,?_⟩ ?_)) λ_=>?_
   ·rw[Ad];simp only[fL,wT,Ax];omega
   ·grind
   rw[bZ om om,bZ om om];simp only[aD,aH];refine aA.bd (h2 m p lv h om) λr q=>J8 (λh=>aA.ok λe=>absurd e h) λh0=>?_;obtain⟨e,e1,e2,e3,e4,e5⟩:=q h0;refine aA.lp (λz:J TPart×Int=>∃k:Nat,z.2=(k:Int)/\k<=r.fParts.length/\fL z.1<=fL l+fL (r.fParts.take k)) (λz=>r.fParts.length-z.2.toNat) ⟨0,rfl,om,si⟩ (by grind) ?_;rintro⟨l',_⟩ ⟨k,rfl,k1,k2⟩ rc' pH;dsimp only at k2 pH⊢;have hwt:=Gz r.fParts k;have hlen':=Ct l';refine aA.cd (λh=>?_) λh=>?_
   ·have hk:k<r.fParts.length:=om
    have hwk:=Tz hk;have hp:=Gy (r.fParts.getD k iP);have hm:=VI hk;rw[bZ om om,bz om,bZ om om,bZ om om];simp only[b9];refine aA.cb (λ_=>aA.bd (aqo F l' _ om om) λu hu=>pH _ ⟨k+1,rfl,hk,by dsimp only;omega⟩ ?_) λ_=>aA.rq (pI (by grind) de) (pH _ ⟨k+1,rfl,hk,?_⟩ ?_)
    ·grind
    ·rw[Ad];simp only[fL];omega
    grind
   ·rw[e1]
    exact hrc _ ⟨e,rfl,om,e3,by dsimp only;omega⟩ (by grind)
 ·rw[aH,aD]
  refine aA.cb (λhp=>aA.ok λ_=>⟨m,rfl,g1,g2,g3,λh=>?_,λh=>?_⟩) λ_=>aA.ok (RP.err de)
  ·exfalso;rcases h with rfl|rfl|rfl|rfl<;>exact absurd hp de
  simp_all
theorem ahh(hF:4*s.length+2000<F)(hl:s.length<=800)(h3:Q3 F s n)(h6:Q6 F s n):Q2 F s (n+1):=by
 intro a p lv ha hn;show aA _ (v7 F (bQ F n) s (a:Int) p lv);unfold v7 wx;rw[bZ om om];refine aA.cb (λ_=>(amC F s a p om ha).so) λ_=>aA.cb (λh=>(aos F s a om hl ha ?_).so) λ_=>aA.cb (λh=>(h3 a p lv ha ?_ om).so) λ_=>?_
 ·simp_all[b9,pF]
 ·simp_all[b9,pF]
 obtain⟨ob,Mq⟩:=aop F ((s.getD (Ts (a:Int)) 0).toNat:Int);rw[afc,ahf,Mq];simp only[aD,aH];refine aA.cb (λ_=>(h6 a lv ha om).so) λ_=>aA.cb (λ_=>uf de) λ_=>aA.cb (λ_=>uf de) λ_=>?_;rw[bz om];have hs:=vu s a (a+1);exact aA.rq (Ka om om om) (Jv om om (by rw[wT];omega))
theorem acA(hF:4*s.length+2000<F)(hl:s.length<=800)(h4:Q4 F s n):Q3 F s (n+1):=by
 intro a p lv ha ZY hn;show aA _ (xK F (bQ F n) s (a:Int) p lv);refine aA.bd (aoo F s a om om ha) λb hb=>aA.cb (λh=>(h4 a p lv (hb.1 h).1 ZY om).so) λ_=>?_;rw[afc,bz om];refine aA.bd (P:=λ_=>True) ?_ λ_ _=>aA.cb (λ_=>uf de) λ_=>Jv om om (by show 1+1<=_;omega);refine aA.cb (λ_=>?_) λ_=>aA.ok trivial;have hj:=(VJ F s (a+1) om om).tr;exact aA.cd (λh=>aA.rq (lM om om) (aA.cb (λ_=>aA.ok trivial) λ_=>hj.so)) λ_=>hj.so
theorem afe(hF:4*s.length+2000<F)(hl:s.length<=800)(h1:Q1 F s n)(h5:Q5 F s n):Q4 F s (n+1):=by
 intro a p lv ha ZY hn;show aA _ (o5 F (bQ F n) s (a:Int) p lv);unfold o5 wx;rw[bz om,bZ om om,bN om,show(a:Int)+2=((a+2:Nat):Int)from rfl];refine aA.cb (λ_=>(h5 a p lv ha om).so) λ_=>?_;rw[aH,aD];refine aA.bd (P:=λb=>b=WF->a+2<s.length) ?_ λb hb=>aA.cb (λh=>?_) λ_=>?_
 ·refine aA.cb (λh=>?_) λ_=>aA.ok λh=>nomatch h
  rw[cF]at h
  grind[aA.rq,lM,aA.ok]
 ·have h2:=hb h
  refine aA.cd (λ_=>uf de) λ_=>?_;rw[bN om];refine aA.bd (h1 (a+3) 4 _ _ om om) λr q=>J8 (λh=>aA.ok λe=>absurd e h) λh0=>?_;obtain⟨e,e1,e2,e3,e4,-,e6⟩:=q h0;rw[e1,bN om,show(e:Int)+2=((e+2:Nat):Int)from rfl];exact Jv om om (by grind[wN,List.length_nil])
 ·refine aA.cb (λh40=>?_) λ_=>?_
  ·have h40:s.getD (a+1) 0=40:=by simp_all[b9,pF]
   obtain⟨q,hq⟩:=amE F p;rw[hq,aD];refine aA.bd (K5 F s a q om om om) λr hr=>J8 (λh=>aA.ok (RQ.err h)) λh0=>?_;obtain⟨e,e1,e2,e3⟩:=hr.2.2.2 ZY h40 h0;rw[e1,vm om om];have hs:=vu s (a+2) (e-1)
   grind[aA.rq,Ka,Jv,wT]
  ·obtain⟨b,hb⟩:=K4 F ((s.getD (Ts ((a+1:Nat):Int)) 0).toNat:Int) om
   rw[hb];have hs:=vu s (a+1) (a+2);refine aA.cb (λ_=>aA.rq (Ka om om om) (Jv om om (by rw[wT];omega))) λ_=>?_;refine aA.bd (ae8 F s (a+1) om om om) λr ⟨e,e1,e2,e3⟩=>?_;rw[e1];have hs:=vu s (a+1) e;exact aA.cd (λ_=>uf de) λ_=>aA.rq (Ka om om om) (Jv om om (by rw[wT];omega))
theorem acB(hF:4*s.length+2000<F)(hl:s.length<=800)(h1:Q1 F s n):Q6 F s (n+1):=by
 intro a lv ha hn;show aA _ (sP F (bQ F n) s (a:Int) lv);unfold sP wx;rw[bZ om om,bz om];refine aA.cb (λh39=>?_) λ_=>aA.cd (λ_=>uf de) λ_=>?_
 ·have h39:s.getD a 0=39:=by simp_all[b9,pF]
  refine aA.bd (K5 F s a 0 om om ha) λr hr=>J8 (λh=>aA.ok (RQ.err h)) λh0=>?_;obtain⟨e,e1,e2,e3⟩:=hr.2.1 h39 rfl h0;rw[e1,vm om om];have hs:=vu s (a+1) (e-1)
  grind[aA.rq,Ka,Jv,wT]
 ·refine aA.bd (h1 (a+1) 2 _ _ om om) λr q=>J8 (λh=>aA.ok λe=>absurd e h) λh0=>?_
  obtain⟨e,e1,e2,e3,e4,e5,-⟩:=q h0;have:=e5 (.inr (.inl rfl));rw[e1,bz om];exact Jv om om (by grind[wN,List.length_nil])
theorem acC(hF:4*s.length+2000<F)(hl:s.length<=800)(h1:Q1 F s n):Q5 F s (n+1):=by
 intro a p lv ha hn;show aA _ (sQ F (bQ F n) s (a:Int) p lv);unfold sQ wx;rw[bN om,show(a:Int)+2=((a+2:Nat):Int)from rfl,bz om];refine aA.jj (P:=λx=>∀r,x=.inr r->RQ s a r) ?_ (λ_ _=>?_) λr h=>h r rfl
 ·have ok:aA (λx:Unit ⊕ dy=>∀r,x=.inr r->RQ s a r) (W0 (.inl ())):=aA.ok λr h=>nomatch h
  have er:∀ {x e:Int},e≠0->aA (λx:Unit ⊕ dy=>∀r,x=.inr r->RQ s a r) ((dM F x e).bind λy=>W0 (.inr y)):=λh=>aA.ok λr e=>by cases e;exact RQ.err h
  refine aA.bd (P:=λb=>b=WF->a+2<s.length) (aA.cd (λh=>aA.rq (lM om om) (aA.ok λ_=>om)) λ_=>aA.ok λh=>nomatch h) λb hb=>aA.cb (λh=>?_) λ_=>ok;have h2:=hb h;refine aA.bd (ZX F s (a+3) om om om) λr ⟨e,e1,e2,e3⟩=>?_;rw[e1];refine aA.cd (λ_=>er de) λ_=>?_;refine aA.bd (P:=λb=>b=WF->a+3<e/\e<s.length) ?_ λb hb=>?_
  ·refine aA.cd (λh=>?_) λ_=>aA.ok λh=>nomatch h
   exact aA.ok λh'=>⟨om,by simp_all⟩
  refine aA.bd (P:=λb=>b=WF->a+3<e/\e<s.length) (aA.cb (λh=>aA.rq (lM om (by have:=hb h;omega)) (aA.ok λ_=>hb h)) λ_=>aA.ok λh=>nomatch h) λb hb=>aA.cb (λh=>?_) λ_=>?_
  ·have:=hb h
   have hs:=vu s (a+2+1) e;rw[bz om,afb];exact aA.rq (Ka om om om) (aA.ok λr h=>by cases h;exact RQ.one om om (by rw[wT];omega))
  grind
 refine aA.bd (ZX F s (a+2) om om om) λr ⟨e,e1,e2,e3⟩=>?_;rw[e1];refine aA.cd (λ_=>uf de) λ_=>?_;rw[aH,aD];refine aA.cb (λ_=>uf de) λhx=>?_
 have he:e<s.length:=by
  grind
 refine aA.cb (λ_=>uf de) λ_=>aA.rq (Ka om om om) (aA.rq (lM om om) (aA.cb (λ_=>?_) λ_=>?_))
 ·rw[bz om]
  have hs:=vu s (a+2) e;exact Jv om om (by show wP (.mk 4 (sl s ((a+2:Nat):Int) (e:Int)) 0 UV [])<=_;rw[wT];omega)
 refine aA.bd (op8 F s e om he) λ⟨o1,o2,o3⟩ ho=>?_;by_cases TA:o1=0
 ·subst TA
  show aA _ (Option.bind _ _);rw[bZ om om,aH,aD];refine aA.cb (λ_=>uf de) λ_=>aA.rq (lM om om) (aA.cb (λ_=>uf de) λ_=>aA.rq (lM om om) (aA.cb (λ_=>?_) λ_=>uf de));exact aA.bd (ZX F s (a+3) om om om) λr _=>uf de
 ·obtain⟨k,k1,k2,k3⟩:=ho TA
  clear ho;subst k1;rw[show(o1==0)=UV from by simpa using TA,aM,bN (x:=(e:Int)+(k:Int)) om];refine aA.cd (λ_=>uf de) λ_=>aA.bd (VJ F s (e+k) om om) λb _=>aA.cb (λ_=>uf de) λ_=>?_;obtain⟨q,hq,ZZ⟩:=amD F p;rw[ZZ,aD];refine aA.bd (h1 (e+k) q _ _ om om) λr hr=>J8 (λh=>aA.ok λe=>absurd e h) λh0=>?_;obtain⟨f,f1,f2,f3,f4,f5,-⟩:=hr h0;have:=f5 (by unfold PL;omega);rw[f1,bz om];have hs:=vu s (a+2) e;exact Jv om om (by show wP (.mk 4 (sl s ((a+2:Nat):Int) (e:Int)) o1 o2 r.fParts)<=_;rw[wN];omega)
theorem Xt(hF:4*s.length+2000<F)(hl:s.length<=800):∀n,Q1 F s n/\Q2 F s n/\Q3 F s n/\Q4 F s n/\Q5 F s n/\Q6 F s n
 | 0=>⟨λ_ _ _ _ _ h=>om,λ_ _ _ _ h=>om,λ_ _ _ _ _ h=>om,λ_ _ _ _ _ h=>om,λ_ _ _ _ h=>om,λ_ _ _ h=>om⟩
 | n+1=>by
  obtain⟨h1,h2,h3,h4,h5,h6⟩:=Xt hF hl n;exact⟨afd hF hl h2,ahh hF hl h3 h6,acA hF hl h4,afe hF hl h1 h5,acC hF hl h1,acB hF hl h1⟩
theorem aot(F:Nat)(s:Bs)(hF:8000<F)(hl:s.length<=800):aA (λr=>fL r.1<=2*s.length) (yO F s):=by
 unfold yO wx;rw[cf om];refine aA.bd ((Xt om hl F).1 0 0 1 0 om om) λr q=>J8 (λh=>aA.ok (by simp[fL])) λh0=>?_;obtain⟨e,e1,e2,e3,e4,-⟩:=q h0
 grind[aA.ok]
theorem Fh(F:Nat)(s:Bs)(hF:40<F):aA (λb=>b=WF->s.length<=32) (fy F s):=by
 unfold fy wx;by_cases h:s=[]
 ·simp_all[aA.ok]
 have:=Aw.2 h;rw[mW om,J7];simp only[aH,aD];by_cases h2:s.length<=32
 ·refine aA.cb (λ_=>aA.ok λh=>nomatch h) λ_=>?_
  refine aA.lp (λi=>∃n:Nat,i=(n:Int)/\n<=s.length) (λi=>s.length-i.toNat) ⟨0,rfl,om⟩ (by grind) ?_;rintro _ ⟨n,rfl,hn⟩ rc hrc;refine aA.cd (λh=>?_) λ_=>aA.ok λ_=>h2;rw[bZ om om,Zz,bz om];exact aA.cb (λ_=>aA.ok λh=>nomatch h) λ_=>hrc _ ⟨n+1,rfl,om⟩ (by grind)
 grind[dT,aA.ok]
def j7(l:J bO)(n:Bs):bO×Bool:=(l.find? λv=>v.fName==n).elim (bO.mk [] [] UV UV UV,UV) λv=>(v,WF)
theorem zy(F:Nat)(l:J bO)(n:Bs)(hF:l.length<F)(hl:l.length<=1000):ry F l n=W0 (j7 l n):=by
 unfold ry wx;rw[pJ l (λi=>(i:Int)) (λv=>v.fName==n) (λi v=>W0 (v,WF)) (W0 (bO.mk [] [] UV UV UV,UV)) (s:=(0:Int)) hF rfl (λi h rc=>?_) (λrc=>?_)]
 ·rw[NK];unfold j7;cases l.find? _<;>rfl
 ·rw[cC om,bZ om om,bZ om om,b9,gd h,bz om]
 ·rw[cf om]
def GV(l:J bO):Prop:=l.length<=128/\∀v∈l,v.fName.length<=60/\v.bS.length<=4096
variable{l:J bO}
theorem PY(h:GV l)(n:Bs):(j7 l n).1.fName.length<=60/\(j7 l n).1.bS.length<=4096:=by
 unfold j7
 cases e:l.find? λv=>v.fName==n with
 | none=>simp_all
 | some v=>exact h.2 v (Zk e)
def nk(v:bO):J bO->Bool->J bO
 | [],d=>cond d [] [v]
 | x::l,d=>cond (!d && !(Op.bytesLess x.fName v.fName)) [v] []++(cond (x.fName==v.fName) [] [x]++nk v l (d || !(Op.bytesLess x.fName v.fName)))
theorem Z0(v:bO):∀(l:J bO)(d:Bool),(nk v l d).length=(cond d 0 1)+(l.filter λx=>!(x.fName==v.fName)).length
 | [],d=>by cases d<;>rfl
 | x::l,d=>by
  simp only[nk,vi,Z0 v l,List.filter_cons];cases d<;>cases (x.fName==v.fName)<;>cases (Op.bytesLess x.fName v.fName)<;>simp<;>omega
theorem Sg(v:bO):∀(l:J bO)(d:Bool),∀x∈nk v l d,x=v\/x∈l
 | [],d,x,h=>by cases d<;>simp[nk]at h;exact .inl h
 | y::l,d,x,h=>by
  simp[nk]at h;rcases h with h|h|h
  ·revert h;cases (!d && !(Op.bytesLess y.fName v.fName))<;>simp
   exact λh=>.inl h
  ·revert h;cases (y.fName==v.fName)<;>simp
   exact λh=>.inr (.inl h)
  ·rcases Sg v l _ x h with h|h
   ·exact .inl h
   ·exact .inr (ku _ h)
theorem PZ(F:Nat)(l:J bO)(v:bO)(hF:l.length<F)(hl:l.length<=1000):Ae F l v=W0 (nk v l UV):=by
 have:aA (λr=>r=nk v l UV) (Ae F l v):=by
  unfold Ae wx;refine aA.lp (λz:J bO×Bool×Int=>∃k:Nat,z.2.2=(k:Int)/\k<=l.length/\z.1.length<=2*k/\z.1++nk v (l.drop k) z.2.1=nk v l UV) (λz=>l.length-z.2.2.toNat) ⟨0,rfl,om,si,si⟩ (by simp_all) ?_;rintro⟨o,d,_⟩ ⟨k,rfl,h1,h2,h3⟩ rc hrc;dsimp only at h2 h3 hrc⊢;refine aA.cd (λh=>?_) λh=>?_
  ·have hk:k<l.length:=om
   rw[ua hk]at h3;simp only[nk]at h3;rw[bZ om om,bz om,b9,gd hk];simp only[aH,aD,cF]
   have go:∀(o':J bO)(d':Bool),o'.length<=2*k+1->o'++(cond (l[k].fName==v.fName) [] [l[k]]++nk v (l.drop (k+1)) d')=nk v l UV ->
     aA (λr=>r=nk v l UV) (cond (!(l[k].fName==v.fName)) (rq ((T1 (0<=(k:Int)))&&(T1 ((k:Int)<(l.length:Int)))) (rq ((T1 (o'.length+([l[k]]:J bO).length<=9223372036854775807))&&(T1 ((o'.length+([l[k]]:J bO).length)*40<=140737488355328))) (rc (o'++([l[k]]:J bO),d',((k+1:Nat):Int))))) (rc (o',d',((k+1:Nat):Int)))):=by
    intro o' d' ho he;have hm:l.length-Int.toNat ((k+1:Nat):Int)<l.length-Int.toNat (k:Int):=by grind
    cases e:(l[k].fName==v.fName)with
    | true=>
     grind
    | false=>
     grind[aA.rq,lM,pI]
   cases e:(!d && !(Op.bytesLess l[k].fName v.fName))with
   | true=>
    rw[e]at h3;rw[cH]at e;have hd:d=UV:=by simpa using e.1
    subst hd;rw[cond_true,cq (pI (by grind) de),Option.bind_some];rw[e.2,Bool.or_true]at h3
    grind[aA.rq,lM]
   | false=>
    rw[e]at h3
    have hd:(d || !(Op.bytesLess l[k].fName v.fName))=d:=by
     cases d
     ·simpa using e
     ·rfl
    grind[aA.rq,lM]
  ·obtain rfl:k=l.length:=om
   rw[KZ]at h3;simp only[nk]at h3
   grind[aA.ok,aA.rq,pI]
 obtain⟨r,h,e⟩:=this;rw[e,h]
theorem adN(h:GV l){v:bO}(hn:v.fName.length<=60/\v.bS.length<=4096)(hc:(j7 l v.fName).2=WF\/l.length<128):GV (nk v l UV):=by
 refine⟨?_,λx hx=>?_⟩
 ·rw[Z0]
  show 1+_<=_;have h1:(l.filter λx=>!(x.fName==v.fName)).length<=l.length:=List.length_filter_le _ _;rcases hc with hc|hc
  ·unfold j7 at hc
   cases e:l.find? λx=>x.fName==v.fName with
   | none=>simp_all
   | some y=>
    have:(l.filter λx=>!(x.fName==v.fName)).length<l.length:=by
     grind[Nat.lt_or_ge,List.length_filter_eq_length_iff,Nat.le_antisymm]
    have:=h.1;omega
  ·omega
 ·rcases Sg v l UV x hx with rfl|hx
  ·exact hn
  ·exact h.2 x hx
theorem aqp(F:Nat)(h:GV l)(n v:Bs)(hF:1000<F):aA (λr=>GV r.1) (tM F l n v):=by
 have hl:=h.1;unfold tM wx;rw[zy F l n om om,aD];refine aA.bd (Fh F n om) λb hb=>aA.cb (λ_=>aA.ok h) λhb'=>aA.cb (λ_=>aA.ok h) λ_=>aA.cd (λ_=>aA.ok h) λhv=>?_
 grind[PZ,aA.ok,adN,of_decide_eq_false]
theorem aou(F:Nat)(h:GV l)(n:Bs)(a b:Bool)(hF:1000<F):aA (λr=>GV r.1) (rz F l n a b):=by
 have hl:=h.1;refine aA.bd (Fh F n om) λb hb=>aA.cb (λ_=>aA.ok h) λhb'=>?_;rw[zy F l n om om,aD,aH,aD];rw[aH,aD,aH,aD,PZ F l _ om om]
 grind[aA.ok,adN,PY,of_decide_eq_false]
theorem ahi(F:Nat)(l:J Bs)(g:Bs)(hF:l.length<F)(h1:l.length<=100)(h2:∀x∈l,x.length<=60)(hg:g.length<=1):aA (λr=>r.length<=61*l.length) (ug F l g):=by
 refine aA.lp (λz=>∃k:Nat,z.2=(k:Int)/\k<=l.length/\z.1.length<=61*k) (λz=>l.length-z.2.toNat) ⟨0,rfl,om,si⟩ (by simp_all) ?_;rintro⟨o,_⟩ ⟨k,rfl,h3,h4⟩ rc hrc;dsimp only at h4 hrc⊢;refine aA.cd (λh=>?_) λ_=>aA.ok (by grind);have hk:k<l.length:=om;refine aA.bd (P:=λu=>u.length<=o.length+1) (aA.cd (λ_=>aA.rq (ei om) (aA.ok (by simp_all))) λ_=>aA.ok om) λu hu=>?_;have hx:=h2 _ (iJ hk);rw[bZ om om,b9,gd hk,bz om];exact aA.rq (decide_eq_true om) (hrc _ ⟨k+1,rfl,hk,by grind⟩ (by grind))
theorem ahj(F:Nat)(h:GV l)(hF:1000<F):aA (λr=>r.length<=1) (uh F l):=by
 have hl:=h.1;unfold uh wx;rw[zy F l _ om om];refine aA.cb (λ_=>aA.ok de) λ_=>?_
 cases e:((j7 l [73,70,83]).1.bS==[])with
 | true=>exact aA.ok (gj _)
 | false=>
  have:(j7 l [73,70,83]).1.bS≠[]:=by simpa using e
  have:=Aw.2 this;exact aA.rq (ei om) (aA.ok (vu _ 0 1))
theorem amF(F:Nat)(o:Int)(hF:20<F):aA (λr=>r.length<=8) (yP F o):=by
 refine aA.lp (λz=>∃k:Nat,z.2=(k:Int)/\k<=8/\z.1.length<=k) (λz=>8-z.2.toNat) ⟨0,rfl,om,si⟩ (by show 8-0<F;omega) ?_;rintro⟨u,_⟩ ⟨k,rfl,h3,h4⟩ rc hrc;dsimp only at h4 hrc⊢;have L1:([32,128,1,8,64,16,2,4]:J Int).length=8:=rfl;have L2:([97,67,101,102,109,110,117,120]:Bs).length=8:=rfl;refine aA.cd (λh=>?_) λ_=>aA.ok (by grind);rw[bZ om om,bz om];have hs:=vu [97,67,101,102,109,110,117,120] k (k+1);have hm:8-Int.toNat ((k+1:Nat):Int)<8-Int.toNat (k:Int):=om;exact aA.cb (λ_=>aA.rq (Ka om om om) (aA.rq (decide_eq_true om) (hrc _ ⟨k+1,rfl,om,by grind⟩ hm))) λ_=>hrc _ ⟨k+1,rfl,om,by dsimp only;omega⟩ hm
end Go.Proofs.YtkmlndnhiboofaaGreatDoor
