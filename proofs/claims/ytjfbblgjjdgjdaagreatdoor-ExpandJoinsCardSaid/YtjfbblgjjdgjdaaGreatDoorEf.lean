import Derived.Test.YtjfbblgjjdgjdaaGreatDoorPe
open Go.Op renaming bytesLess->pD
open Option renaming some->iN
open Bool renaming true->hJ,false->eQ
open Decidable renaming decide->eK
open Int renaming toNat->eJ
open List renaming length->Ts
set_option linter.all false
namespace Go.Proofs.YtjfbblgjjdgjdaaGreatDoor
open Go.RT
set_option maxRecDepth 100000
theorem K6(F:Nat)(c:Int):lZ F c=iN (eK (48<=c)&&eK (c<=57)):=by unfold lZ wx;rw[aH,cF];rfl
theorem apg(F:Nat)(c:Int):tM F c=iN ((eK (97<=c)&&eK (c<=122))||(eK (65<=c)&&eK (c<=90))):=by unfold tM wx;grind
def atg(c:Int):Bool:=((eK (97<=c)&&eK (c<=122))||(eK (65<=c)&&eK (c<=90)))||(eK (48<=c)&&eK (c<=57))||c==95
theorem abm(F:Nat)(c:Int):qp F c=iN (atg c):=by unfold qp wx;rw[apg];simp[K6,aH];rfl
theorem auS(F:Nat)(l:Bs)(c:Int)(hF:Ts l<F)(hl:Ts l<=1000):∃b,Ji F l c=iN b:=by
 have:aA (λ_=>True) (Ji F l c):=by refine aA.lp (λi=>∃n:Nat,i=(n:Int)/\n<=Ts l) (λi=>Ts l-i.toNat) ⟨0,rfl,om⟩ (by simp_all) ?_;rintro _ ⟨n,rfl,hn⟩ rc hrc;refine aA.cd (λh=>?_) λ_=>aA.ok trivial;refine aA.rq (mM om om) (aA.cb (λ_=>aA.ok trivial) λ_=>?_);rw[bH om];exact hrc _ ⟨n+1,rfl,om⟩ (by grind)
 obtain⟨b,-,h⟩:=this;exact⟨b,h⟩
theorem Mp(F:Nat)(c:Int)(hF:10<F):∃b,nQ F c=iN b:=by obtain⟨b,hb⟩:=auS F [64,42,35,63,45,36,33] c (by show 7<F;omega) de;unfold nQ wx;simp_all[K6,aE,aH]
def EX(s:Bs)(a:Nat)(b:Bool):Prop:=(b=hJ->a+1<Ts s/\s.getD a 0=36)/\(s.getD a 0=36->s.getD (a+1) 0=40->b=hJ)
variable{s:Bs}{a:Nat}
theorem auT(h:s.getD a 0=40):a<Ts s:=by grind
theorem aq7(F:Nat)(s:Bs)(a:Nat)(hF:10<F)(hl:Ts s<=1000)(ha:a<Ts s):aA (EX s a) (sF F s (a:Int)):=by
 unfold sF wx;rw[bH om];by_cases h:a+1<Ts s
 ·rw[cf om,ck om om,U9 _ 36 de];refine aA.cb (λh0=>aA.ok ⟨λh=>(nomatch h),λh'=>?_⟩) λh0=>?_
  ·simp_all
  have h0:s.getD a 0=36:=by simpa using h0
  rw[ck om om,abm];obtain⟨b,hb⟩:=Mp F ((s.getD (eJ ((a+1:Nat):Int)) 0).toNat:Int) hF;rw[hb];simp[aH];refine aA.ok ⟨λ_=>⟨h,h0⟩,λ_ h4=>?_⟩;simp_all
 ·rw[cq om];exact aA.ok ⟨λh=>(nomatch h),λ_ h4=>absurd (auT h4) h⟩
theorem ahj(F:Nat)(s:Bs)(a:Nat)(hF:Ts s<F)(hl:Ts s<=1000)(ha:a<=Ts s):aA (λr=>∃e:Nat,r=(e:Int)/\a<=e/\e<=Ts s) (yu F s (a:Int)):=by
 refine aA.lp (λi=>∃n:Nat,i=(n:Int)/\a<=n/\n<=Ts s) (λi=>Ts s-i.toNat) ⟨a,rfl,om,ha⟩ (by grind) ?_;rintro _ ⟨n,rfl,h1,h2⟩ rc hrc;by_cases h:n<Ts s
 ·rw[cq om,ck om om,abm];refine aA.cb (λ_=>?_) λ_=>aA.ok ⟨n,rfl,h1,h2⟩;rw[bH om];exact hrc _ ⟨n+1,rfl,om,om⟩ (by grind)
 ·grind[aA.ok]
theorem al0(F:Nat)(s:Bs)(a:Nat)(hF:Ts s<F)(hl:Ts s<=1000)(ha:a<=Ts s):aA (λr=>∃e:Nat,r=(e:Int)/\a<=e/\e<=Ts s/\(s.getD a 0≠10->a<Ts s->a<e)) (Ft F s (a:Int)):=by
 refine aA.lp (λi=>∃n:Nat,i=(n:Int)/\a<=n/\n<=Ts s) (λi=>Ts s-i.toNat) ⟨a,rfl,om,ha⟩ (by grind) ?_;rintro _ ⟨n,rfl,h1,h2⟩ rc hrc;by_cases h:n<Ts s
 ·rw[cq om,ck om om];refine aA.cb (λ_=>?_) λh0=>aA.ok ⟨n,rfl,h1,h2,λh3 _=>?_⟩
  ·rw[bH om];exact hrc _ ⟨n+1,rfl,om,om⟩ (by grind)
  ·by_cases e:a=n
   ·simp_all[cg,U9]
   ·omega
 ·grind[aA.ok]
theorem afN(F:Nat)(s:Bs)(a:Nat)(hl:Ts s<=1000)(ha:a<=Ts s):aA (λb=>b=hJ->a+1<Ts s) (Bt F s (a:Int)):=by
 unfold Bt wx;rw[bH om];by_cases h:a+1<Ts s
 ·rw[cq om,ck om om,aE,ck om om,aH];exact aA.ok λ_=>h
 ·rw[cf om];simp_all[aA.ok]
theorem ajB(F:Nat)(c:Int):zy F c=iN (c==9||c==32):=by unfold zy wx;rw[aH];rfl
theorem aq8(F:Nat)(c:Int):∃b,wZ F c=iN b:=by unfold wZ wx;simp_all[aH,cT,aE]
def PQ(s:Bs)(a k:Nat)(r:Int×Int):Prop:=r.2=0->∃e:Nat,r.1=(e:Int)/\a+k<=e/\e<=Ts s
variable{k:Nat}{x e:Int}
theorem PQ.err(h:e≠0):PQ s a k (x,e):=λh'=>absurd h' h
theorem PQ.le{j:Nat}{r:Int×Int}(h:PQ s a k r)(hj:j<=k):PQ s a j r:=λe=>by obtain⟨e,h1,h2,h3⟩:=h e;grind
theorem aA.pair{A B:Type}{x:O (A×B)}{Q:A×B->Prop}(h:aA Q x):aA Q (x.bind λy=>iN (y.1,y.2)):=by obtain⟨r,h,rfl⟩:=h;exact⟨_,h,rfl⟩
theorem aph(F:Nat)(s:Bs)(a:Nat)(hF:Ts s<F)(hl:Ts s<=1000)(ha:a<Ts s):aA (PQ s a 2) (Bu F s (a:Int)):=by unfold Bu wx;rw[bH om];refine aA.lp (λi=>∃n:Nat,i=(n:Int)/\a+1<=n/\n<=Ts s) (λi=>Ts s-i.toNat) ⟨a+1,rfl,om,ha⟩ (by grind) ?_;rintro _ ⟨n,rfl,h1,h2⟩ rc hrc;refine aA.cd (λh=>?_) λ_=>aA.ok (PQ.err de);rw[ck om om,bH om];exact aA.cb (λ_=>aA.ok λ_=>⟨n+1,rfl,om,om⟩) λ_=>hrc _ ⟨n+1,rfl,om,om⟩ (by grind)
theorem aq9(F:Nat)(s:Bs)(a:Nat)(hF:Ts s+2<F)(hl:Ts s<=1000)(ha:a<Ts s):aA (PQ s a 2) (uN F s (a:Int)):=by unfold uN wx;rw[bH om];refine aA.lp (λi=>∃n:Nat,i=(n:Int)/\a+1<=n/\n<=Ts s+1) (λi=>Ts s+1-i.toNat) ⟨a+1,rfl,om,om⟩ (by grind) ?_;rintro _ ⟨n,rfl,h1,h2⟩ rc hrc;refine aA.cd (λh=>?_) λ_=>aA.ok (PQ.err de);rw[ck om om,bH om];refine aA.cb (λ_=>aA.ok λ_=>⟨n+1,rfl,om,om⟩) λ_=>?_;rw[ck om om,aH];refine aA.cb (λ_=>aA.ok (PQ.err de)) λhb=>?_;rw[ck om om];refine aA.cb (λh9=>?_) λ_=>hrc _ ⟨n+1,rfl,om,om⟩ (by grind);rw[bH om];exact hrc _ ⟨n+2,rfl,om,om⟩ (by grind)
def P1(F:Nat)(s:Bs)(n:Nat):Prop:=∀(a:Nat)(p:Int),a<Ts s->4*(Ts s-a)+4<=n->aA (λr=>PQ s a 1 r/\(s.getD a 0=39->p=0->PQ s a 2 r)/\(s.getD a 0=96->PQ s a 2 r)/\(s.getD a 0=36->s.getD (a+1) 0=40->PQ s a 3 r)) ((dB F n).1 s (a:Int) p)
def P2(F:Nat)(s:Bs)(n:Nat):Prop:=∀(a:Nat)(p:Int),a+1<Ts s->4*(Ts s-a)+3<=n->aA (λr=>PQ s a 1 r/\(s.getD (a+1) 0=40->PQ s a 3 r)) ((dB F n).2.1 s (a:Int) p)
def P3(F:Nat)(s:Bs)(n:Nat):Prop:=∀(a:Nat)(p:Int),a+1<Ts s->4*(Ts s-a)+2<=n->aA (PQ s a 3) ((dB F n).2.2.1 s (a:Int) p)
def P4(F:Nat)(s:Bs)(n:Nat):Prop:=∀(a:Nat),a+2<Ts s->4*(Ts s-a)+2<=n->aA (PQ s a 3) ((dB F n).2.2.2.1 s (a:Int))
def P5(F:Nat)(s:Bs)(n:Nat):Prop:=∀(a:Nat),a+1<Ts s->4*(Ts s-a)+2<=n->aA (PQ s a 3) ((dB F n).2.2.2.2.1 s (a:Int))
def P6(F:Nat)(s:Bs)(n:Nat):Prop:=∀(a:Nat),a<Ts s->4*(Ts s-a)+2<=n->aA (PQ s a 2) ((dB F n).2.2.2.2.2 s (a:Int))
variable{F n:Nat}{R:Type}{Q:R->Prop}
theorem ajC(hF:Ts s+20<F)(hl:Ts s<=1000)(h2:P2 F s n)(h6:P6 F s n):P1 F s (n+1):=by
 intro a p ha hn;show aA _ (HH F (dB F n) s (a:Int) p);unfold HH wx;rw[ck om om,bH om,aH];have hb:∀(k:Nat),k<256->∀b:Bool,((((s.getD (eJ (a:Int)) 0).toNat:Int)==(no_index (OfNat.ofNat k:Int)))=b->(s.getD a 0==(OfNat.ofNat k:UInt8))=b):=by simp_all[cg,qo]
 refine aA.cb (λ_=>aA.ok ⟨PQ.err de,λ_ _=>PQ.err de,λ_=>PQ.err de,λ_ _=>PQ.err de⟩) λhx=>?_;refine aA.cb (λh=>?_) λg1=>?_
 ·have:=hb 92 de _ h;have hne:a+1≠Ts s:=λe=>by simp_all
  rw[bL om];have q:PQ s a 2 ((a:Int)+2,0):=λ_=>⟨a+2,rfl,om,om⟩;exact aA.ok ⟨q.le om,λ_ _=>q,λ_=>q,λh=>by simp_all⟩
 refine aA.cb (λh=>?_) λg2=>?_
 ·exact((aq9 F s a om hl ha).mono λr q=>⟨q.le om,λ_ _=>q,λ_=>q,λh=>by simp_all⟩).pair
 have n96:s.getD a 0≠96:=λe=>by simp_all
 refine aA.bd (aq7 F s a om hl ha) λb hE=>?_;refine aA.cb (λh=>?_) λg3=>?_
 ·obtain⟨h1,h3⟩:=hE.1 h;exact((h2 a p h1 om).mono λr q=>⟨q.1,λh=>by simp_all,λh=>by simp_all,λ_ h=>q.2 h⟩).pair
 have n40:s.getD a 0=36->s.getD (a+1) 0=40->False:=λh h'=>by have:=hE.2 h h';simp_all
 simp[aH];refine aA.cb (λh=>?_) λg4=>?_
 ·exact((aph F s a om hl ha).mono λr q=>⟨q.le om,λ_ _=>q,λ_=>q,λh h'=>(n40 h h').elim⟩).pair
 refine aA.cb (λh=>?_) λg5=>?_
 ·rw[cK]at h;exact((h6 a ha om).mono λr q=>⟨q.le om,λ_ _=>q,λ_=>q,λh h'=>(n40 h h').elim⟩).pair
 refine aA.ok ⟨λ_=>⟨a+1,rfl,om,om⟩,λh e=>?_,λh=>(n96 h).elim,λh h'=>(n40 h h').elim⟩;simp_all
theorem al1(hF:Ts s+20<F)(hl:Ts s<=1000)(h3:P3 F s n)(h4:P4 F s n)(h5:P5 F s n):P2 F s (n+1):=by
 intro a p ha hn;show aA _ (zk F (dB F n) s (a:Int) p);unfold zk wx;rw[bH om,ck om om,bL om,show(a:Int)+2=((a+2:Nat):Int)from rfl];refine aA.cb (λ_=>((h3 a p ha om).mono λr q=>⟨q.le om,λ_=>q⟩).pair) λ_=>?_;rw[aH,aE,cF]
 have main:aA (λr=>PQ s a 1 r/\(s.getD (a+1) 0=40->PQ s a 3 r)) (cond (((s.getD (eJ ((a+1:Nat):Int)) 0).toNat:Int)==40)
   (((dB F n).2.2.2.2.1 s (a:Int)).bind λx5=>iN (x5.1,x5.2))
   ((nQ F ((s.getD (eJ ((a+1:Nat):Int)) 0).toNat:Int)).bind λx6=>cond x6 (iN (((a+2:Nat):Int),0)) ((yu F s ((a+1:Nat):Int)).bind λx7=>iN (x7,0)))):=by
  refine aA.cb (λ_=>((h5 a ha om).mono λr q=>⟨q.le om,λ_=>q⟩).pair) λg=>?_;have n40:s.getD (a+1) 0=40->False:=λh=>by simp_all
  obtain⟨b,hb⟩:=Mp F ((s.getD (eJ ((a+1:Nat):Int)) 0).toNat:Int) om;rw[hb];refine aA.cb (λ_=>aA.ok ⟨λ_=>⟨a+2,rfl,om,om⟩,λh=>(n40 h).elim⟩) λ_=>?_;refine aA.bd (ahj F s (a+1) om hl om) λr ⟨e,h1,h2,h3⟩=>aA.ok ⟨λ_=>⟨e,h1,om,h3⟩,λh=>(n40 h).elim⟩
 by_cases h:a+2<Ts s
 ·rw[show eK (((a+2:Nat):Int)<(Ts s:Int))=hJ from dT om,Bool.and_true,Bool.and_true,kK om,aH];exact aA.cb (λ_=>((h4 a h om).mono λr q=>⟨q.le om,λ_=>q⟩).pair) λ_=>main
 grind
def step1(h1:P1 F s n){i:Nat}{p:Int}(hi:i<Ts s)(hn:4*(Ts s-i)+4<=n){k:Int×Int->O R}(hk:∀r,PQ s i 1 r->aA Q (k r)):aA Q (((dB F n).1 s (i:Int) p).bind k):=aA.bd (h1 i p hi hn) λr q=>hk r q.1
theorem K7{A B:O R}(a:x≠0->aA Q A)(b:x=0->aA Q B):aA Q (cond (x != 0) A B):=by grind
theorem ahk(hF:Ts s+20<F)(hl:Ts s<=1000)(h1:P1 F s n):P3 F s (n+1):=by intro a p ha hn;show aA _ (Dg F (dB F n) s (a:Int) p);unfold Dg wx;rw[bL om];refine aA.lp (λi=>∃n:Nat,i=(n:Int)/\a+2<=n/\n<=Ts s) (λi=>Ts s-i.toNat) ⟨a+2,rfl,om,ha⟩ (by grind) ?_;rintro _ ⟨i,rfl,g1,g2⟩ rc hrc;refine aA.cd (λh=>?_) λ_=>aA.ok (PQ.err de);rw[ck om om,bH om];refine aA.cb (λ_=>aA.ok λ_=>⟨i+1,rfl,om,om⟩) λ_=>?_;rw[ck om om,aH];refine aA.cb (λ_=>aA.ok (PQ.err de)) λ_=>step1 h1 om om λr q=>K7 (λh=>aA.ok (PQ.err h)) λh=>?_;obtain⟨e,e1,e2,e3⟩:=q h;rw[e1];exact hrc _ ⟨e,rfl,om,e3⟩ (by grind)
theorem al2(hF:Ts s+20<F)(hl:Ts s<=1000)(h1:P1 F s n):P6 F s (n+1):=by intro a ha hn;show aA _ (Dh F (dB F n) s (a:Int));unfold Dh wx;rw[bH om];refine aA.lp (λi=>∃n:Nat,i=(n:Int)/\a+1<=n/\n<=Ts s) (λi=>Ts s-i.toNat) ⟨a+1,rfl,om,ha⟩ (by grind) ?_;rintro _ ⟨i,rfl,g1,g2⟩ rc hrc;refine aA.cd (λh=>?_) λ_=>aA.ok (PQ.err de);rw[ck om om,bH om];refine aA.cb (λ_=>aA.ok λ_=>⟨i+1,rfl,om,om⟩) λ_=>step1 h1 om om λr q=>K7 (λh=>aA.ok (PQ.err h)) λh=>?_;obtain⟨e,e1,e2,e3⟩:=q h;rw[e1];exact hrc _ ⟨e,rfl,om,e3⟩ (by grind)
theorem ahl(hF:Ts s+20<F)(hl:Ts s<=1000)(h1:P1 F s n):P4 F s (n+1):=by
 intro a ha hn;show aA _ (w5 F (dB F n) s (a:Int));unfold w5 wx;rw[bL om];refine aA.lp (λi=>∃n:Nat,i.1=(n:Int)/\a+3<=n/\n<=Ts s) (λi=>Ts s-i.1.toNat) ⟨a+3,rfl,om,ha⟩ (by grind) ?_;rintro⟨_,o⟩ ⟨i,rfl,g1,g2⟩ rc hrc;refine aA.cd (λh=>?_) λ_=>aA.ok (PQ.err de);rw[ck om om,bH om];refine aA.jj (P:=λx=>∀r,x=.inr r->PQ s a 3 r) ?_ (λo' _=>?_) λr h=>h r rfl
 ·have ok:∀o':Int,aA (λx:Int ⊕ (Int×Int)=>∀r,x=.inr r->PQ s a 3 r) (iN (.inl o')):=λo'=>aA.ok λr h=>nomatch h
  refine aA.cb (λ_=>ok _) λ_=>?_;rw[aH];refine aA.cb (λ_=>ok _) λ_=>?_;rw[aH];refine aA.cb (λ_=>aA.ok λr e=>by grind[PQ.err]) λhx=>?_;have fin:aA (λx:Int ⊕ (Int×Int)=>∀r,x=.inr r->PQ s a 3 r) (cond (((s.getD (eJ (i:Int)) 0).toNat:Int)==41) (iN (.inr ((i:Int),6))) (iN (.inl o))):=aA.cb (λ_=>aA.ok λr e=>by grind[PQ.err]) λ_=>ok _;cases hc:(((s.getD (eJ (i:Int)) 0).toNat:Int)==41)with
  | false=>rw[hc]at fin;exact fin|true=>
   rw[hc]at hx fin;have hne:i+1≠Ts s:=λe=>by simp_all
   rw[ck om om];refine aA.cb (λ_=>aA.ok λr e=>?_) λ_=>fin;cases e;rw[bL om];exact λ_=>⟨i+2,rfl,om,om⟩
 ·refine step1 h1 om om λr q=>K7 (λh=>aA.ok (PQ.err h)) λh=>?_;obtain⟨e,e1,e2,e3⟩:=q h;rw[e1];exact hrc _ ⟨e,rfl,om,e3⟩ (by grind)
theorem aA.ret{σ R:Type}{x:O R}{Q:R->Prop}(h:aA Q x):aA (λz:σ ⊕ R=>∃r,Q r/\z=.inr r) (Aw x):=by obtain⟨r,h,rfl⟩:=h;exact⟨.inr r,⟨r,h,rfl⟩,rfl⟩
theorem al3(hF:Ts s+20<F)(hl:Ts s<=1000)(h1:P1 F s n):P5 F s (n+1):=by
 intro a ha hn;show aA _ (Bv F (dB F n) s (a:Int));unfold Bv wx;rw[bL om];refine aA.lp (λi=>∃n:Nat,i.1=(n:Int)/\a+2<=n/\n<=Ts s) (λi=>Ts s-i.1.toNat) ⟨a+2,rfl,om,ha⟩ (by grind) ?_;rintro⟨_,o,bg⟩ ⟨i,rfl,g1,g2⟩ rc hrc;have uO:∀(e:Nat) o' b',i<e->e<=Ts s->aA (PQ s a 3) (rc ((e:Int),o',b')):=λe o' b' h1 h2=>hrc _ ⟨e,rfl,om,h2⟩ (by grind);refine aA.cd (λh=>?_) λ_=>aA.ok (PQ.err de);have h:i<Ts s:=om;rw[ck om om,bH om];refine aA.jj (P:=λx=>(∀z,x=.inl z->z.1=(i:Int))/\∀r,x=.inr r->PQ s a 3 r) ?_ (λz hz=>?_) λr h=>h.2 r rfl
 ·have ok:∀o':Int,aA (λx:(Int×Int) ⊕ (Int×Int)=>(∀z,x=.inl z->z.1=(i:Int))/\∀r,x=.inr r->PQ s a 3 r) (iN (.inl ((i:Int),o'))):=λo'=>aA.ok ⟨λz e=>by cases e;rfl,λr h=>nomatch h⟩;have rt:∀ {x:Option (Int×Int)},aA (PQ s a 3) x->aA (λx:(Int×Int) ⊕ (Int×Int)=>(∀z,x=.inl z->z.1=(i:Int))/\∀r,x=.inr r->PQ s a 3 r) (Aw x):=λh=>h.ret.mono λz ⟨r,q,e⟩=>by simp_all
  rw[aH];refine aA.cb (λhc=>?_) λ_=>?_
  ·have h35:s.getD i 0=35:=by simp_all[cF,cK,cg,qo]
   grind[aA.bd,al0]
  refine aA.bd (afN F s i hl om) λb hb=>aA.cb (λhb'=>rt ?_) λ_=>?_
  ·grind[bL]
  rw[aH];refine aA.cb (λ_=>aA.ok ⟨λz e=>(nomatch e),λr e=>?_⟩) λ_=>aA.cb (λ_=>ok _) λ_=>aA.cb (λ_=>ok _) λ_=>ok _;cases e;exact λ_=>⟨i+1,rfl,om,om⟩
 ·obtain⟨ob,NN⟩:=aq8 F ((s.getD (eJ (i:Int)) 0).toNat:Int);rw[ajB,NN];simp[aH];obtain⟨z1,z2⟩:=z;obtain rfl:z1=(i:Int):=hz.1 _ rfl;refine step1 h1 h om λr q=>K7 (λh=>aA.ok (PQ.err h)) λh=>?_;obtain⟨e,e1,e2,e3⟩:=q h;grind
theorem afO(hF:Ts s+20<F)(hl:Ts s<=1000):∀n,P1 F s n/\P2 F s n/\P3 F s n/\P4 F s n/\P5 F s n/\P6 F s n
 | 0=>⟨λ_ _ _ h=>om,λ_ _ _ h=>om,λ_ _ _ h=>om,λ_ _ h=>om,λ_ _ h=>om,λ_ _ h=>om⟩|n+1=>by obtain⟨h1,h2,h3,h4,h5,h6⟩:=afO hF hl n;exact⟨ajC hF hl h2 h6,al1 hF hl h3 h4 h5,ahk hF hl h1,ahl hF hl h1,al3 hF hl h1,al2 hF hl h1⟩
theorem Mq(F:Nat)(s:Bs)(a:Nat)(p:Int)(hF:4*Ts s+20<F)(hl:Ts s<=1000)(ha:a<Ts s):
  aA (λr=>PQ s a 1 r/\(s.getD a 0=39->p=0->PQ s a 2 r)/\(s.getD a 0=96->PQ s a 2 r)/\(s.getD a 0=36->s.getD (a+1) 0=40->PQ s a 3 r)) (Bw F s (a:Int) p):=
 (afO om hl F).1 a p ha om
mutual
def wP:d6->Nat|.mk _ t _ _ ps=>1+Ts t+eO ps
def eO:J d6->Nat|[]=>0|p::l=>wP p+eO l
end
theorem AP:∀(l m:J d6),eO (l++m)=eO l+eO m|[],m=>by simp[eO]|p::l,m=>by simp[eO,AP l m];omega
theorem EF(p:d6):1+Ts p.fText+eO p.fParts=wP p:=by cases p;rfl
theorem Di:∀(l:J d6),Ts l<=eO l|[]=>by simp|p::l=>by have:=Di l;have:=EF p;simp[eO];omega
theorem HI(l:J d6)(k:Nat):eO (l.take k)+eO (l.drop k)=eO l:=by rw[<-AP,Hz]
theorem Va{l:J d6}(h:k<Ts l):eO (l.take (k+1))=eO (l.take k)+wP (l.getD k kz):=by rw[lF h,AP,gd h];simp only[eO];omega
theorem Rw{l:J d6}(h:k<Ts l):wP (l.getD k kz)<=eO l:=by have h1:=Va h;have h2:=HI l (k+1);omega
theorem ahm(F:Nat)(p:d6)(e:Int):iH F p e=iN (eE.mk [p] e 0):=by cases p;rfl
theorem wB(s:Bs)(i j:Nat):(sl s (i:Int) (j:Int)).length<=j-i:=by grind[sl,List.length_drop,List.length_take,Int.toNat_natCast]
theorem ahn(F:Nat)(p:Int):pR F p=iN (p==0||p==1):=by unfold pR wx;rw[aH];rfl
theorem auU(F:Nat)(c p:Int):∃b,Aa F c p=iN b:=by unfold Aa wx;simp_all[aH,cT,aE]
theorem ath(F:Nat)(s:Bs)(a:Nat)(p o:Int)(ha:a<Ts s):∃b,Gg F s (a:Int) p o=iN b:=by unfold Gg wx;rw[ck om om,ck om om,ck om om];simp_all[aH,cT,aE]
def Xt(F:Nat)(s:Bs)(a:Nat)(hl:Ts s<=1000)(ha:a<=Ts s):aA (λb=>b=hJ->a+1<Ts s) (w6 F s (a:Int)):=afN F s a hl ha
theorem ara(F:Nat)(s:Bs)(a:Nat)(p:Int)(hF:Ts s<F)(hl:Ts s<=1000)(ha:a<Ts s):∃b,zA F s (a:Int) p=iN b:=by
 have:aA (λ_=>True) (zA F s (a:Int) p):=by
  unfold zA wx;rw[ahn,bH om,ck om om];simp[aH];refine aA.cb (λ_=>aA.ok trivial) λ_=>?_;refine aA.lp (λi=>∃n:Nat,i=(n:Int)/\a+1<=n/\n<=Ts s) (λi=>Ts s-i.toNat) ⟨a+1,rfl,om,ha⟩ (by grind) ?_;rintro _ ⟨n,rfl,h1,h2⟩ rc hrc;refine aA.bd (Xt F s n hl h2) λb hb=>aA.cb (λh=>?_) λ_=>?_
  ·have:=hb h;rw[bL om];exact hrc _ ⟨n+2,rfl,om,om⟩ (by grind)
  ·by_cases h:n<Ts s
   ·rw[ck om om,ck om om];simp_all[aH,aE,aA.ok,trivial]
   simp_all[cq,aA.ok,trivial]
 obtain⟨b,-,h⟩:=this;exact⟨b,h⟩
def RQ(s:Bs)(a:Nat)(r:eE):Prop:=r.fE=0->∃e:Nat,r.SU=(e:Int)/\a+1<=e/\e<=Ts s/\r.fParts.length<=1/\eO r.fParts<=2*(e-a)
theorem RQ.err{l:J d6}(h:e≠0):RQ s a ⟨l,x,e⟩:=λh'=>absurd h' h
theorem RQ.one{e:Nat}{p:d6}(h1:a+1<=e)(h2:e<=Ts s)(h3:wP p<=2*(e-a)):RQ s a ⟨[p],(e:Int),0⟩:=λ_=>⟨e,rfl,h1,h2,si,by simp[eO];omega⟩
theorem wT(k:Int)(t:Bs)(o:Int)(c:Bool):wP (.mk k t o c [])=1+Ts t:=by simp[wP,eO]
theorem wN(k:Int)(t:Bs)(o:Int)(c:Bool)(l:J d6):wP (.mk k t o c l)=1+Ts t+eO l:=rfl
theorem aA.so{A:Type}{x:O A}{Q:A->Prop}(h:aA Q x):aA Q (x.bind λy=>iN y):=by rw[ati];exact h
theorem api(F:Nat)(s:Bs)(a:Nat)(p:Int)(hl:Ts s<=1000)(ha:a<Ts s):aA (RQ s a) (wC F s (a:Int) p):=by
 unfold wC wx;rw[bH om,bL om,show(a:Int)+2=((a+2:Nat):Int)from rfl];have one:∀ {k o:Int}{c:Bool}{t:Bs}{e:Nat},a+1<=e->e<=Ts s->1+Ts t<=2*(e-a)->aA (RQ s a) ((iH F (.mk k t o c []) (e:Int)).bind λx=>iN x):=λh1 h2 h3=>by simp_all[ahm,aA.ok,RQ.one,wT]
 by_cases h:a+1=Ts s
 ·rw[show(((a+1:Nat):Int)==(Ts s:Int))=hJ from by rw[h];simp,aU];exact aA.cb (λ_=>one om om (by show 1+1<=_;omega)) λ_=>aA.ok (RQ.err de)
 ·rw[show(((a+1:Nat):Int)==(Ts s:Int))=eQ from by simp;omega,aJ,ck om om];have h1:=wB s (a+1) (a+2);have h2:=wB s a (a+2);refine aA.cb (λ_=>aA.ok λ_=>⟨a+2,rfl,om,om,si,by simp[eO]⟩) λ_=>?_;rw[ahn];refine aA.cb (λ_=>aA.rq (K8 om om om) (one om om om)) λ_=>?_;obtain⟨b,hb⟩:=auU F ((s.getD (eJ ((a+1:Nat):Int)) 0).toNat:Int) p;rw[hb];refine aA.cb (λ_=>aA.rq (K8 om om om) (one om om om)) λ_=>?_;simp only[aH];refine aA.cb (λ_=>aA.ok (RQ.err de)) λ_=>?_;rw[wA om om om];exact one om om om
theorem afP(F:Nat)(t:Bs)(hF:4*Ts t+40<F)(hl:Ts t<=900):∃b,tN F t=iN b:=by
 have:aA (λ_=>True) (tN F t):=by
  unfold tN wx;have hL:(([36,40]:Bs)++t++([41]:Bs)).length=Ts t+3:=by simp
  rw[kK (by grind),kK (by grind)];have hp:=Mq F ((([36,40]:Bs)++t)++([41]:Bs)) 0 0 om om om;refine aA.bd hp λr _=>?_;by_cases h:t=[]
  ·simp_all[aH,aE,aU,aA.ok,trivial]
  ·have:=Bn.2 h;rw[kK om];simp_all[aH,aE,aA.ok,trivial]
 obtain⟨b,-,h⟩:=this;exact⟨b,h⟩
theorem arb(F:Nat)(s:Bs)(a:Nat)(hF:4*Ts s+100<F)(hl:Ts s<=800)(ha:a<Ts s)(h96:s.getD a 0=96):aA (RQ s a) (uP F s (a:Int)):=by
 unfold uP wx;refine aA.bd (Mq F s a 0 om om ha) λr q=>K7 (λh=>aA.ok (RQ.err h)) λh=>?_;obtain⟨e,e1,e2,e3⟩:=q.2.2.1 h96 h;rw[e1,uQ om om,bH om];refine aA.lp (λz:Bs×Int=>∃n:Nat,z.2=(n:Int)/\a+1<=n/\n<=e/\z.1.length<=e-a-2/\z.1.length+a+1<=n) (λz=>e-z.2.toNat) ⟨a+1,rfl,om,om,si,si⟩ (by grind) ?_
 ·rintro⟨t,_⟩ ⟨n,rfl,g1,g2,g3,g4⟩ rc hrc;dsimp only at g3 g4 hrc⊢;have ok:∀b:Bool,∃m:Nat,cond b (((n+1:Nat):Int)) (n:Int)=(m:Int)/\n<=m/\m<=n+1:=λb=>by
   cases b
   ·grind
   grind
  refine aA.cd (λh=>?_) λh=>?_
  ·rw[ck om om,bH om,ck om om,ck om om,ck om om];simp only[aH,aE];generalize hb:(cond (((s.getD (eJ (n:Int)) 0).toNat:Int)==92) _ eQ:Bool)=b;obtain⟨m,hm,Y7,hm2⟩:=ok b;rw[hm,bH om];have hs:=wB s m (m+1);refine aA.rq (K8 om om om) (aA.rq (eN om) (hrc _ ⟨m+1,rfl,om,om,?_,?_⟩ ?_))
   ·grind
   ·grind
   grind
  ·refine aA.bd (P:=λu:Bs=>Ts u<=e-a-1) ?_ λu hu=>?_
   ·refine aA.bd (P:=λ_=>True) ?_ λb _=>aA.cb (λ_=>aA.rq (decide_eq_true (by grind)) (aA.ok (by grind))) λ_=>aA.ok om;by_cases ht:t=[]
    ·simp_all[aA.ok,trivial]
    ·have:0<Ts t:=Bn.2 ht;rw[kK om,aH];exact aA.ok trivial
   refine aA.bd (P:=λu:Bs=>Ts u<=e-a) ?_ λv hv=>?_
   ·obtain⟨b,hb⟩:=afP F u om om;rw[hb,aE];exact aA.cb (λ_=>aA.rq (decide_eq_true (by grind)) (aA.ok (by grind))) λ_=>aA.ok om
   obtain⟨b,hb⟩:=afP F v om om;rw[hb,aE];refine aA.cb (λ_=>aA.ok (RQ.err de)) λ_=>?_;grind[ahm,aA.ok,RQ.one,wT]
theorem Xu(F:Nat)(s:Bs)(hF:Ts s<F)(hl:Ts s<=1000):∃r,nq F s=iN r:=by
 have:aA (λ_=>True) (nq F s):=by
  unfold nq wx;by_cases h:s=[]
  ·simp_all[aA.ok,trivial]
  have:=Bn.2 h;rw[kK om];simp only[aH];refine aA.cb (λ_=>aA.ok trivial) λ_=>?_;refine aA.lp (λi=>∃n:Nat,i.2=(n:Int)/\n<=Ts s) (λi=>Ts s-i.2.toNat) ⟨0,rfl,om⟩ (by simp_all) ?_;rintro⟨v,_⟩ ⟨n,rfl,hn⟩ rc hrc;refine aA.cd (λh=>?_) λ_=>aA.ok trivial;rw[ck om om,K6,bH om];refine aA.cb (λ_=>aA.ok trivial) λ_=>aA.rq (mM om om) (hrc _ ⟨n+1,rfl,om⟩ (by grind))
 obtain⟨b,-,h⟩:=this;exact⟨b,h⟩
theorem abK(F:Nat)(s:Bs)(a:Nat)(hF:Ts s+20<F)(hl:Ts s<=1000)(ha:a<=Ts s):aA (λr=>∃e:Nat,r=(e:Int)/\a<=e/\e<=Ts s) (pn F s (a:Int)):=by
 unfold pn wx;by_cases h:a<Ts s
 ·rw[cf om,ck om om,K6,ck om om,abm,ck om om,bH om];refine aA.cb (λ_=>?_) λ_=>aA.cb (λ_=>(ahj F s a om hl ha).so) λ_=>?_
  ·refine aA.lp (λi=>∃n:Nat,i=(n:Int)/\a+1<=n/\n<=Ts s) (λi=>Ts s-i.toNat) ⟨a+1,rfl,om,h⟩ (by grind) ?_;rintro _ ⟨n,rfl,h1,h2⟩ rc hrc;by_cases hn:n<Ts s
   ·rw[cq om,ck om om,K6,bH om];refine aA.cb (λ_=>aA.rq (K8 om om om) ?_) λ_=>aA.ok ⟨n,rfl,om,h2⟩;have hs:=wB s a (n+1);obtain⟨r,hr⟩:=Xu F (sl s (a:Int) ((n+1:Nat):Int)) om om;rw[hr];exact aA.cb (λ_=>aA.ok ⟨n,rfl,om,h2⟩) λ_=>hrc _ ⟨n+1,rfl,om,om⟩ (by grind)
   ·grind[aA.ok]
  ·obtain⟨b,hb⟩:=Mp F ((s.getD (eJ (a:Int)) 0).toNat:Int) om;rw[hb];exact aA.cb (λ_=>aA.ok ⟨a+1,rfl,om,om⟩) λ_=>aA.ok ⟨a,rfl,om,om⟩
 ·grind[aA.ok]
theorem op8(F:Nat)(s:Bs)(a:Nat)(hl:Ts s<=1000)(ha:a<Ts s):aA (λr=>r.1≠0->∃n:Nat,r.2.2=(n:Int)/\1<=n/\a+n<=Ts s) (yw F s (a:Int)):=by
 unfold yw wx;rw[ck om om];have z:aA (λr:Int×Bool×Int=>r.1≠0->∃n:Nat,r.2.2=(n:Int)/\1<=n/\a+n<=Ts s) (iN (0,eQ,0)):=aA.ok λh=>absurd rfl h;have ok:∀(o:Int)(b:Bool)(n:Nat),1<=n->a+n<=Ts s->aA (λr=>r.1≠0->∃n:Nat,r.2.2=(n:Int)/\1<=n/\a+n<=Ts s) (iN (o,b,(n:Int))):=λo b n h1 h2=>aA.ok λ_=>⟨n,rfl,h1,h2⟩;cases hc:(((s.getD (eJ (a:Int)) 0).toNat:Int)==58)with
 | true=>rw[aU,bH om];refine aA.cd (λ_=>z) λh=>?_;rw[show aD (aD (((a+1:Nat):Int)-(a:Int))+1)=((2:Nat):Int)from by grind[bL]];exact aA.rq (mM om om) (aA.cb (λ_=>ok _ _ 2 om om) λ_=>aA.rq (mM om om) (aA.cb (λ_=>ok _ _ 2 om om) λ_=>aA.rq (mM om om) (aA.cb (λ_=>ok _ _ 2 om om) λ_=>aA.rq (mM om om) (aA.cb (λ_=>ok _ _ 2 om om) λ_=>z))))
 | false=>
  rw[aJ,aE];rw[cf om,show aD (aD ((a:Int)-(a:Int))+1)=((1:Nat):Int)from by simp_all[bL],bH om];refine aA.rq (mM om om) (aA.cb (λ_=>ok _ _ 1 om om) λ_=>aA.rq (mM om om) (aA.cb (λ_=>ok _ _ 1 om om) λ_=>aA.rq (mM om om) (aA.cb (λ_=>ok _ _ 1 om om) λ_=>aA.rq (mM om om) (aA.cb (λ_=>ok _ _ 1 om om) λ_=>?_))));have two:∀(k:Int){A B:O (Int×Bool×Int)},(a+1<Ts s->aA (λr=>r.1≠0->∃n:Nat,r.2.2=(n:Int)/\1<=n/\a+n<=Ts s) A)->aA (λr=>r.1≠0->∃n:Nat,r.2.2=(n:Int)/\1<=n/\a+n<=Ts s) B ->
    aA (λr=>r.1≠0->∃n:Nat,r.2.2=(n:Int)/\1<=n/\a+n<=Ts s) ((rq ((eK (0<=(a:Int)))&&(eK ((a:Int)<(Ts s:Int)))) (cond (((s.getD (eJ (a:Int)) 0).toNat:Int)==k) (iN (eK (((a+1:Nat):Int)<(Ts s:Int)))) (iN eQ)):O Bool).bind λx2=>
     (cond x2 (rq ((eK (0<=((a+1:Nat):Int)))&&(eK (((a+1:Nat):Int)<(Ts s:Int)))) (iN (((s.getD (eJ ((a+1:Nat):Int)) 0).toNat:Int)==k))) (iN eQ):O Bool).bind λx3=>cond x3 A B):=by
   intro k A B hA hB;rw[ck om om,aH,aE];by_cases h:a+1<Ts s
   ·rw[ck om om];grind
   grind
  refine two 37 (λh=>ok _ _ 2 om om) (aA.rq (mM om om) (aA.cb (λ_=>ok _ _ 1 om om) λ_=>two 35 (λh=>ok _ _ 2 om om) (aA.rq (mM om om) (aA.cb (λ_=>ok _ _ 1 om om) λ_=>z))))
theorem apj(F:Nat)(p:Int):∃q,(q=1\/q=3\/q=6)/\Bx F p=iN q:=by unfold Bx wx;grind
theorem apk(F:Nat)(p:Int):∃q,Bz F p=iN q:=by unfold Bz wx;simp_all[aH,aE]
theorem atj(F:Nat)(l:J d6)(t:Bs)(hl:eO l<=10000)(ht:Ts t<=10000):aA (λr=>eO r<=eO l+1+Ts t) (Gh F l t):=by
 have h1:=Di l;unfold Gh wx;by_cases h:0<Ts l
 ·rw[cq om,uQ om h,ck om om,aE];refine aA.cb (λ_=>?_) λ_=>aA.rq (oV (by grind) de) (aA.ok (by rw[AP];simp[eO,wT];omega));have e1:sl l 0 ((Ts l-1:Nat):Int)=l.take (Ts l-1):=by simp[sl]
  have hw:=Va (l:=l) (k:=Ts l-1) om;have hp:=EF (l.getD (Ts l-1) kz);have h4:(l.take (Ts l-1+1))=l:=uK om;rw[h4]at hw;simp only[e1,cg];have hL':(Ts ([]:J d6)+Ts (l.take (Ts l-1)))=Ts l-1:=by simp
  refine aA.rq (mM om om) (aA.rq (oV (by rw[hL'];omega) de) (aA.rq (mM om om) ?_));refine aA.rq (decide_eq_true om) (aA.rq (oV (by grind) de) (aA.ok ?_));rw[AP,pN];simp only[eO,wT,nX];omega
 ·rw[cf om,aE,aJ];exact aA.rq (oV (by simp_all) de) (aA.ok (by rw[AP];simp[eO,wT];omega))
def PL(p:Int):Prop:=p=1\/p=2\/p=3\/p=6
def RP(s:Bs)(a:Nat)(p:Int)(r:eE):Prop:=r.fE=0->∃e:Nat,r.SU=(e:Int)/\a<=e/\e<=Ts s/\eO r.fParts<=2*(e-a)/\(PL p->e<Ts s)/\(p=4->e+1<Ts s)
theorem RP.err{p:Int}{l:J d6}(h:e≠0):RP s a p ⟨l,x,e⟩:=λh'=>absurd h' h
def Q1(F:Nat)(s:Bs)(n:Nat):Prop:=∀(a:Nat)(p lv fr:Int),a<=Ts s->6*(Ts s-a)+6<=n->aA (RP s a p) ((dy F n).1 s (a:Int) p lv fr)
def Q2(F:Nat)(s:Bs)(n:Nat):Prop:=∀(a:Nat)(p lv:Int),a<Ts s->6*(Ts s-a)+5<=n->aA (RQ s a) ((dy F n).2.1 s (a:Int) p lv)
def Q3(F:Nat)(s:Bs)(n:Nat):Prop:=∀(a:Nat)(p lv:Int),a<Ts s->s.getD a 0=36->6*(Ts s-a)+4<=n->aA (RQ s a) ((dy F n).2.2.1 s (a:Int) p lv)
def Q4(F:Nat)(s:Bs)(n:Nat):Prop:=∀(a:Nat)(p lv:Int),a+1<Ts s->s.getD a 0=36->6*(Ts s-a)+3<=n->aA (RQ s a) ((dy F n).2.2.2.1 s (a:Int) p lv)
def Q5(F:Nat)(s:Bs)(n:Nat):Prop:=∀(a:Nat)(p lv:Int),a+1<Ts s->6*(Ts s-a)+2<=n->aA (RQ s a) ((dy F n).2.2.2.2.1 s (a:Int) p lv)
def Q6(F:Nat)(s:Bs)(n:Nat):Prop:=∀(a:Nat)(lv:Int),a<Ts s->6*(Ts s-a)+2<=n->aA (RQ s a) ((dy F n).2.2.2.2.2 s (a:Int) lv)
def uR(h:e≠0):aA (RQ s a) ((ep F x e).bind λy=>iN y):=aA.ok (RQ.err h)
theorem Kr{e:Nat}{p:d6}(h1:a+1<=e)(h2:e<=Ts s)(h3:wP p<=2*(e-a)):aA (RQ s a) ((iH F p (e:Int)).bind λy=>iN y):=by simp_all[ahm,aA.ok,RQ.one]
theorem aho(hF:4*Ts s+2000<F)(hl:Ts s<=800)(h2:Q2 F s n):Q1 F s (n+1):=by
 intro a p lv fr ha hn;show aA _ (NO F (dy F n) s (a:Int) p lv fr);refine aA.lp (λz:Int×J d6×Int=>∃m:Nat,z.1=(m:Int)/\a<=m/\m<=Ts s/\eO z.2.1<=2*(m-a)) (λz=>Ts s-z.1.toNat) ⟨a,rfl,om,ha,by simp[eO]⟩ (by grind) ?_;rintro⟨_,l,op⟩ ⟨m,rfl,g1,g2,g3⟩ rc hrc;dsimp only at g3 hrc⊢;refine aA.cd (λh=>?_) λh=>?_
 ·have h:m<Ts s:=om;obtain⟨b,hb⟩:=ath F s m p op h;rw[hb,aE,bH om,aH,aE];refine aA.cb (λ_=>?_) λ_=>?_
  ·refine aA.cb (λ_=>aA.ok (RP.err de)) λh4=>?_;have hp4:p=4->m+1<Ts s:=λe=>by grind
   refine aA.bd (P:=λ_=>True) ?_ λb _=>aA.cb (λ_=>aA.ok (RP.err de)) λ_=>aA.ok λ_=>⟨m,rfl,g1,g2,g3,λ_=>h,hp4⟩;cases e4:(p==4)with|false=>exact aA.ok trivial|true=>have:=hp4 (by simpa using e4);exact aA.rq (mM om om) (aA.ok trivial)
  ·obtain⟨tb,htb⟩:=ara F s m p om om h;rw[htb];simp only[aE,aH];refine aA.cb (λ_=>aA.rq (oV (by simp_all) de) (hrc _ ⟨m+1,rfl,om,om,?_⟩ ?_)) λ_=>?_
   ·rw[AP];simp only[eO,wT,Dc];omega
   ·grind
   rw[ck om om,ck om om];simp only[aE,aH];refine aA.bd (h2 m p lv h om) λr q=>K7 (λh=>aA.ok λe=>absurd e h) λh0=>?_;obtain⟨e,e1,e2,e3,e4,e5⟩:=q h0;refine aA.lp (λz:J d6×Int=>∃k:Nat,z.2=(k:Int)/\k<=Ts r.fParts/\eO z.1<=eO l+eO (r.fParts.take k)) (λz=>Ts r.fParts-z.2.toNat) ⟨0,rfl,om,si⟩ (by grind) ?_;rintro⟨l',_⟩ ⟨k,rfl,k1,k2⟩ rc' uO;dsimp only at k2 uO⊢;have hwt:=HI r.fParts k;have hlen':=Di l';refine aA.cd (λh=>?_) λh=>?_
   ·have hk:k<Ts r.fParts:=om;have hwk:=Va hk;have hp:=EF (r.fParts.getD k kz);have hm:=Rw hk;rw[ck om om,bH om,ck om om,ck om om];simp only[cg];refine aA.cb (λ_=>aA.bd (atj F l' _ om om) λu hu=>uO _ ⟨k+1,rfl,hk,by dsimp only;omega⟩ ?_) λ_=>aA.rq (oV (by grind) de) (uO _ ⟨k+1,rfl,hk,?_⟩ ?_)
    ·grind
    ·rw[AP];simp only[eO];omega
    grind
   ·rw[e1];exact hrc _ ⟨e,rfl,om,e3,by dsimp only;omega⟩ (by grind)
 ·rw[aH,aE];refine aA.cb (λhp=>aA.ok λ_=>⟨m,rfl,g1,g2,g3,λh=>?_,λh=>?_⟩) λ_=>aA.ok (RP.err de)
  ·exfalso;rcases h with rfl|rfl|rfl|rfl<;>exact absurd hp de
  simp_all
theorem ajD(hF:4*Ts s+2000<F)(hl:Ts s<=800)(h3:Q3 F s n)(h6:Q6 F s n):Q2 F s (n+1):=by
 intro a p lv ha hn;show aA _ (HJ F (dy F n) s (a:Int) p lv);unfold HJ wx;rw[ck om om];refine aA.cb (λ_=>(api F s a p om ha).so) λ_=>aA.cb (λh=>(arb F s a om hl ha ?_).so) λ_=>aA.cb (λh=>(h3 a p lv ha ?_ om).so) λ_=>?_
 ·simp_all[cg,qo]
 ·simp_all[cg,qo]
 obtain⟨ob,NN⟩:=aq8 F ((s.getD (eJ (a:Int)) 0).toNat:Int);rw[ahn,ajB,NN];simp only[aE,aH];refine aA.cb (λ_=>(h6 a lv ha om).so) λ_=>aA.cb (λ_=>uR de) λ_=>aA.cb (λ_=>uR de) λ_=>?_;rw[bH om];have hs:=wB s a (a+1);exact aA.rq (K8 om om om) (Kr om om (by rw[wT];omega))
theorem aeD(hF:4*Ts s+2000<F)(hl:Ts s<=800)(h4:Q4 F s n):Q3 F s (n+1):=by intro a p lv ha h36 hn;show aA _ (K9 F (dy F n) s (a:Int) p lv);refine aA.bd (aq7 F s a om om ha) λb hb=>aA.cb (λh=>(h4 a p lv (hb.1 h).1 h36 om).so) λ_=>?_;rw[ahn,bH om];refine aA.bd (P:=λ_=>True) ?_ λ_ _=>aA.cb (λ_=>uR de) λ_=>Kr om om (by show 1+1<=_;omega);refine aA.cb (λ_=>?_) λ_=>aA.ok trivial;have hj:=(Xt F s (a+1) om om).tr;exact aA.cd (λh=>aA.rq (mM om om) (aA.cb (λ_=>aA.ok trivial) λ_=>hj.so)) λ_=>hj.so
theorem ahp(hF:4*Ts s+2000<F)(hl:Ts s<=800)(h1:Q1 F s n)(h5:Q5 F s n):Q4 F s (n+1):=by
 intro a p lv ha h36 hn;show aA _ (zl F (dy F n) s (a:Int) p lv);unfold zl wx;rw[bH om,ck om om,bL om,show(a:Int)+2=((a+2:Nat):Int)from rfl];refine aA.cb (λ_=>(h5 a p lv ha om).so) λ_=>?_;rw[aH,aE];refine aA.bd (P:=λb=>b=hJ->a+2<Ts s) ?_ λb hb=>aA.cb (λh=>?_) λ_=>?_
 ·refine aA.cb (λh=>?_) λ_=>aA.ok λh=>nomatch h
  rw[cF]at h;grind[aA.rq,mM,aA.ok]
 ·have h2:=hb h;refine aA.cd (λ_=>uR de) λ_=>?_;rw[bL om];refine aA.bd (h1 (a+3) 4 _ _ om om) λr q=>K7 (λh=>aA.ok λe=>absurd e h) λh0=>?_;obtain⟨e,e1,e2,e3,e4,-,e6⟩:=q h0;rw[e1,bL om,show(e:Int)+2=((e+2:Nat):Int)from rfl];exact Kr om om (by grind[wN,List.length_nil])
 ·refine aA.cb (λvo=>?_) λ_=>?_
  ·have vo:s.getD (a+1) 0=40:=by simp_all[cg,qo]
   obtain⟨q,hq⟩:=apk F p;rw[hq,aE];refine aA.bd (Mq F s a q om om om) λr hr=>K7 (λh=>aA.ok (RQ.err h)) λh0=>?_;obtain⟨e,e1,e2,e3⟩:=hr.2.2.2 h36 vo h0;rw[e1,uQ om om];have hs:=wB s (a+2) (e-1);grind[aA.rq,K8,Kr,wT]
  ·obtain⟨b,hb⟩:=Mp F ((s.getD (eJ ((a+1:Nat):Int)) 0).toNat:Int) om;rw[hb];have hs:=wB s (a+1) (a+2);refine aA.cb (λ_=>aA.rq (K8 om om om) (Kr om om (by rw[wT];omega))) λ_=>?_;refine aA.bd (ahj F s (a+1) om om om) λr ⟨e,e1,e2,e3⟩=>?_;rw[e1];have hs:=wB s (a+1) e;exact aA.cd (λ_=>uR de) λ_=>aA.rq (K8 om om om) (Kr om om (by rw[wT];omega))
theorem aeE(hF:4*Ts s+2000<F)(hl:Ts s<=800)(h1:Q1 F s n):Q6 F s (n+1):=by
 intro a lv ha hn;show aA _ (Dj F (dy F n) s (a:Int) lv);unfold Dj wx;rw[ck om om,bH om];refine aA.cb (λh39=>?_) λ_=>aA.cd (λ_=>uR de) λ_=>?_
 ·have h39:s.getD a 0=39:=by simp_all[cg,qo]
  refine aA.bd (Mq F s a 0 om om ha) λr hr=>K7 (λh=>aA.ok (RQ.err h)) λh0=>?_;obtain⟨e,e1,e2,e3⟩:=hr.2.1 h39 rfl h0;rw[e1,uQ om om];have hs:=wB s (a+1) (e-1);grind[aA.rq,K8,Kr,wT]
 ·refine aA.bd (h1 (a+1) 2 _ _ om om) λr q=>K7 (λh=>aA.ok λe=>absurd e h) λh0=>?_;obtain⟨e,e1,e2,e3,e4,e5,-⟩:=q h0;have:=e5 (.inr (.inl rfl));rw[e1,bH om];exact Kr om om (by grind[wN,List.length_nil])
theorem aeF(hF:4*Ts s+2000<F)(hl:Ts s<=800)(h1:Q1 F s n):Q5 F s (n+1):=by
 intro a p lv ha hn;show aA _ (Dk F (dy F n) s (a:Int) p lv);unfold Dk wx;rw[bL om,show(a:Int)+2=((a+2:Nat):Int)from rfl,bH om];refine aA.jj (P:=λx=>∀r,x=.inr r->RQ s a r) ?_ (λ_ _=>?_) λr h=>h r rfl
 ·have ok:aA (λx:Unit ⊕ eE=>∀r,x=.inr r->RQ s a r) (iN (.inl ())):=aA.ok λr h=>nomatch h
  have er:∀ {x e:Int},e≠0->aA (λx:Unit ⊕ eE=>∀r,x=.inr r->RQ s a r) ((ep F x e).bind λy=>iN (.inr y)):=λh=>aA.ok λr e=>by cases e;exact RQ.err h
  refine aA.bd (P:=λb=>b=hJ->a+2<Ts s) (aA.cd (λh=>aA.rq (mM om om) (aA.ok λ_=>om)) λ_=>aA.ok λh=>nomatch h) λb hb=>aA.cb (λh=>?_) λ_=>ok;have h2:=hb h;refine aA.bd (abK F s (a+3) om om om) λr ⟨e,e1,e2,e3⟩=>?_;rw[e1];refine aA.cd (λ_=>er de) λ_=>?_;refine aA.bd (P:=λb=>b=hJ->a+3<e/\e<Ts s) ?_ λb hb=>?_
  ·refine aA.cd (λh=>?_) λ_=>aA.ok λh=>nomatch h
   exact aA.ok λh'=>⟨om,by simp_all⟩
  refine aA.bd (P:=λb=>b=hJ->a+3<e/\e<Ts s) (aA.cb (λh=>aA.rq (mM om (by have:=hb h;omega)) (aA.ok λ_=>hb h)) λ_=>aA.ok λh=>nomatch h) λb hb=>aA.cb (λh=>?_) λ_=>?_
  ·have:=hb h;have hs:=wB s (a+2+1) e;rw[bH om,ahm];exact aA.rq (K8 om om om) (aA.ok λr h=>by cases h;exact RQ.one om om (by rw[wT];omega))
  grind
 refine aA.bd (abK F s (a+2) om om om) λr ⟨e,e1,e2,e3⟩=>?_;rw[e1];refine aA.cd (λ_=>uR de) λ_=>?_;rw[aH,aE];refine aA.cb (λ_=>uR de) λhx=>?_;have he:e<Ts s:=by grind
 refine aA.cb (λ_=>uR de) λ_=>aA.rq (K8 om om om) (aA.rq (mM om om) (aA.cb (λ_=>?_) λ_=>?_))
 ·rw[bH om];have hs:=wB s (a+2) e;exact Kr om om (by show wP (.mk 4 (sl s ((a+2:Nat):Int) (e:Int)) 0 eQ [])<=_;rw[wT];omega)
 refine aA.bd (op8 F s e om he) λ⟨o1,o2,o3⟩ ho=>?_;by_cases Vb:o1=0
 ·subst Vb;show aA _ (Option.bind _ _);rw[ck om om,aH,aE];refine aA.cb (λ_=>uR de) λ_=>aA.rq (mM om om) (aA.cb (λ_=>uR de) λ_=>aA.rq (mM om om) (aA.cb (λ_=>?_) λ_=>uR de));exact aA.bd (abK F s (a+3) om om om) λr _=>uR de
 ·obtain⟨k,k1,k2,k3⟩:=ho Vb;clear ho;subst k1;rw[show(o1==0)=eQ from by simpa using Vb,aJ,bL (x:=(e:Int)+(k:Int)) om];refine aA.cd (λ_=>uR de) λ_=>aA.bd (Xt F s (e+k) om om) λb _=>aA.cb (λ_=>uR de) λ_=>?_;obtain⟨q,hq,Vc⟩:=apj F p;rw[Vc,aE];refine aA.bd (h1 (e+k) q _ _ om om) λr hr=>K7 (λh=>aA.ok λe=>absurd e h) λh0=>?_;obtain⟨f,f1,f2,f3,f4,f5,-⟩:=hr h0;have:=f5 (by unfold PL;omega);rw[f1,bH om];have hs:=wB s (a+2) e;exact Kr om om (by show wP (.mk 4 (sl s ((a+2:Nat):Int) (e:Int)) o1 o2 r.fParts)<=_;rw[wN];omega)
theorem Y8(hF:4*Ts s+2000<F)(hl:Ts s<=800):∀n,Q1 F s n/\Q2 F s n/\Q3 F s n/\Q4 F s n/\Q5 F s n/\Q6 F s n
 | 0=>⟨λ_ _ _ _ _ h=>om,λ_ _ _ _ h=>om,λ_ _ _ _ _ h=>om,λ_ _ _ _ _ h=>om,λ_ _ _ _ h=>om,λ_ _ _ h=>om⟩|n+1=>by obtain⟨h1,h2,h3,h4,h5,h6⟩:=Y8 hF hl n;exact⟨aho hF hl h2,ajD hF hl h3 h6,aeD hF hl h4,ahp hF hl h1 h5,aeF hF hl h1,aeE hF hl h1⟩
theorem arc(F:Nat)(s:Bs)(hF:8000<F)(hl:Ts s<=800):aA (λr=>eO r.1<=2*Ts s) (D6 F s):=by unfold D6 wx;rw[cf om];refine aA.bd ((Y8 om hl F).1 0 0 1 0 om om) λr q=>K7 (λh=>aA.ok (by simp[eO])) λh0=>?_;obtain⟨e,e1,e2,e3,e4,-⟩:=q h0;grind[aA.ok]
theorem Gi(F:Nat)(s:Bs)(hF:40<F):aA (λb=>b=hJ->Ts s<=32) (fL F s):=by
 unfold fL wx;by_cases h:s=[]
 ·simp_all[aA.ok]
 have:=Bn.2 h;rw[kK om,K6];simp only[aH,aE];by_cases h2:Ts s<=32
 ·refine aA.cb (λ_=>aA.ok λh=>nomatch h) λ_=>?_;refine aA.lp (λi=>∃n:Nat,i=(n:Int)/\n<=Ts s) (λi=>Ts s-i.toNat) ⟨0,rfl,om⟩ (by grind) ?_;rintro _ ⟨n,rfl,hn⟩ rc hrc;refine aA.cd (λh=>?_) λ_=>aA.ok λ_=>h2;rw[ck om om,abm,bH om];exact aA.cb (λ_=>aA.ok λh=>nomatch h) λ_=>hrc _ ⟨n+1,rfl,om⟩ (by grind)
 grind[dT,aA.ok]
def jK(l:J bP)(n:Bs):bP×Bool:=(l.find? λv=>v.fName==n).elim (bP.mk [] [] eQ eQ eQ,eQ) λv=>(v,hJ)
theorem Ab(F:Nat)(l:J bP)(n:Bs)(hF:Ts l<F)(hl:Ts l<=1000):sG F l n=iN (jK l n):=by
 unfold sG wx;rw[oK l (λi=>(i:Int)) (λv=>v.fName==n) (λi v=>iN (v,hJ)) (iN (bP.mk [] [] eQ eQ eQ,eQ)) (s:=(0:Int)) hF rfl (λi h rc=>?_) (λrc=>?_)]
 ·rw[Jj];unfold jK;cases l.find? _<;>rfl
 ·rw[cq om,ck om om,ck om om,cg,gd h,bH om]
 ·rw[cf om]
def GV(l:J bP):Prop:=Ts l<=128/\∀v∈l,Ts v.fName<=60/\v.cj.length<=4096
variable{l:J bP}
theorem Rx(h:GV l)(n:Bs):(jK l n).1.fName.length<=60/\(jK l n).1.cj.length<=4096:=by unfold jK;cases e:l.find? λv=>v.fName==n with|none=>simp_all|some v=>exact h.2 v (UP e)
def ou(v:bP):J bP->Bool->J bP|[],d=>cond d [] [v]|x::l,d=>cond (!d && !(pD x.fName v.fName)) [v] []++(cond (x.fName==v.fName) [] [x]++ou v l (d || !(pD x.fName v.fName)))
theorem abL(v:bP):∀(l:J bP)(d:Bool),Ts (ou v l d)=(cond d 0 1)+Ts (l.filter λx=>!(x.fName==v.fName))
 | [],d=>by cases d<;>rfl
 | x::l,d=>by simp only[ou,nX,abL v l,List.filter_cons];cases d<;>cases (x.fName==v.fName)<;>cases (pD x.fName v.fName)<;>simp<;>omega
theorem TQ(v:bP):∀(l:J bP)(d:Bool),∀x∈ou v l d,x=v\/x∈l
 | [],d,x,h=>by cases d<;>simp[ou]at h;exact .inl h
 | y::l,d,x,h=>by
  simp[ou]at h;rcases h with h|h|h
  ·revert h;cases (!d && !(pD y.fName v.fName))<;>simp;exact λh=>.inl h
  ·revert h;cases (y.fName==v.fName)<;>simp;exact λh=>.inr (.inl h)
  ·rcases TQ v l _ x h with h|h
   ·exact .inl h
   ·exact .inr (kV _ h)
theorem Ry(F:Nat)(l:J bP)(v:bP)(hF:Ts l<F)(hl:Ts l<=1000):AQ F l v=iN (ou v l eQ):=by
 have:aA (λr=>r=ou v l eQ) (AQ F l v):=by
  unfold AQ wx;refine aA.lp (λz:J bP×Bool×Int=>∃k:Nat,z.2.2=(k:Int)/\k<=Ts l/\z.1.length<=2*k/\z.1++ou v (l.drop k) z.2.1=ou v l eQ) (λz=>Ts l-z.2.2.toNat) ⟨0,rfl,om,si,si⟩ (by simp_all) ?_;rintro⟨o,d,_⟩ ⟨k,rfl,h1,h2,h3⟩ rc hrc;dsimp only at h2 h3 hrc⊢;refine aA.cd (λh=>?_) λh=>?_
  ·have hk:k<Ts l:=om;rw[sY hk]at h3;simp only[ou]at h3;rw[ck om om,bH om,cg,gd hk];simp only[aH,aE,cF];have go:∀(o':J bP)(d':Bool),Ts o'<=2*k+1->o'++(cond (l[k].fName==v.fName) [] [l[k]]++ou v (l.drop (k+1)) d')=ou v l eQ ->
     aA (λr=>r=ou v l eQ) (cond (!(l[k].fName==v.fName)) (rq ((eK (0<=(k:Int)))&&(eK ((k:Int)<(Ts l:Int)))) (rq ((eK (Ts o'+Ts ([l[k]]:J bP)<=9223372036854775807))&&(eK ((Ts o'+Ts ([l[k]]:J bP))*40<=140737488355328))) (rc (o'++([l[k]]:J bP),d',((k+1:Nat):Int))))) (rc (o',d',((k+1:Nat):Int)))):=by
    intro o' d' ho he;have hm:Ts l-Int.toNat ((k+1:Nat):Int)<Ts l-Int.toNat (k:Int):=by grind
    cases e:(l[k].fName==v.fName)with|true=>grind|false=>grind[aA.rq,mM,oV]
   cases e:(!d && !(pD l[k].fName v.fName))with
   | true=>
    rw[e]at h3;rw[cK]at e;have hd:d=eQ:=by simpa using e.1
    subst hd;rw[cond_true,cE (oV (by grind) de),Option.bind_some];rw[e.2,Bool.or_true]at h3;grind[aA.rq,mM]
   | false=>
    rw[e]at h3;have hd:(d || !(pD l[k].fName v.fName))=d:=by
     cases d
     ·simpa using e
     ·rfl
    grind[aA.rq,mM]
  ·obtain rfl:k=Ts l:=om;rw[Ma]at h3;simp only[ou]at h3;grind[aA.ok,aA.rq,oV]
 obtain⟨r,h,e⟩:=this;rw[e,h]
theorem afQ(h:GV l){v:bP}(hn:Ts v.fName<=60/\v.cj.length<=4096)(hc:(jK l v.fName).2=hJ\/Ts l<128):GV (ou v l eQ):=by
 refine⟨?_,λx hx=>?_⟩
 ·rw[abL];show 1+_<=_;have h1:(l.filter λx=>!(x.fName==v.fName)).length<=Ts l:=aaV _ _;rcases hc with hc|hc
  ·unfold jK at hc;cases e:l.find? λx=>x.fName==v.fName with
   | none=>simp_all|some y=>
    have:(l.filter λx=>!(x.fName==v.fName)).length<Ts l:=by grind[Nat.lt_or_ge,List.length_filter_eq_length_iff,Nat.le_antisymm]
    have:=h.1;omega
  ·omega
 ·rcases TQ v l eQ x hx with rfl|hx
  ·exact hn
  ·exact h.2 x hx
theorem atk(F:Nat)(h:GV l)(n v:Bs)(hF:1000<F):aA (λr=>GV r.1) (uA F l n v):=by have hl:=h.1;unfold uA wx;rw[Ab F l n om om,aE];refine aA.bd (Gi F n om) λb hb=>aA.cb (λ_=>aA.ok h) λhb'=>aA.cb (λ_=>aA.ok h) λ_=>aA.cd (λ_=>aA.ok h) λhv=>?_;grind[Ry,aA.ok,afQ,of_decide_eq_false]
theorem ard(F:Nat)(h:GV l)(n:Bs)(a b:Bool)(hF:1000<F):aA (λr=>GV r.1) (sH F l n a b):=by have hl:=h.1;refine aA.bd (Gi F n om) λb hb=>aA.cb (λ_=>aA.ok h) λhb'=>?_;rw[Ab F l n om om,aE,aH,aE];rw[aH,aE,aH,aE,Ry F l _ om om];grind[aA.ok,afQ,Rx,of_decide_eq_false]
theorem ajE(F:Nat)(l:J Bs)(g:Bs)(hF:Ts l<F)(h1:Ts l<=100)(h2:∀x∈l,Ts x<=60)(hg:Ts g<=1):aA (λr=>Ts r<=61*Ts l) (uS F l g):=by refine aA.lp (λz=>∃k:Nat,z.2=(k:Int)/\k<=Ts l/\z.1.length<=61*k) (λz=>Ts l-z.2.toNat) ⟨0,rfl,om,si⟩ (by simp_all) ?_;rintro⟨o,_⟩ ⟨k,rfl,h3,h4⟩ rc hrc;dsimp only at h4 hrc⊢;refine aA.cd (λh=>?_) λ_=>aA.ok (by grind);have hk:k<Ts l:=om;refine aA.bd (P:=λu=>Ts u<=Ts o+1) (aA.cd (λ_=>aA.rq (eN om) (aA.ok (by simp_all))) λ_=>aA.ok om) λu hu=>?_;have hx:=h2 _ (fm hk);rw[ck om om,cg,gd hk,bH om];exact aA.rq (decide_eq_true om) (hrc _ ⟨k+1,rfl,hk,by grind⟩ (by grind))
theorem ajF(F:Nat)(h:GV l)(hF:1000<F):aA (λr=>Ts r<=1) (uT F l):=by
 have hl:=h.1;unfold uT wx;rw[Ab F l _ om om];refine aA.cb (λ_=>aA.ok de) λ_=>?_;cases e:((jK l [73,70,83]).1.cj==[])with
 | true=>exact aA.ok (fq _)|false=>
  have:(jK l [73,70,83]).1.cj≠[]:=by simpa using e
  have:=Bn.2 this;exact aA.rq (eN om) (aA.ok (wB _ 0 1))
theorem apl(F:Nat)(o:Int)(hF:20<F):aA (λr=>Ts r<=8) (zB F o):=by refine aA.lp (λz=>∃k:Nat,z.2=(k:Int)/\k<=8/\z.1.length<=k) (λz=>8-z.2.toNat) ⟨0,rfl,om,si⟩ (by show 8-0<F;omega) ?_;rintro⟨u,_⟩ ⟨k,rfl,h3,h4⟩ rc hrc;dsimp only at h4 hrc⊢;have L1:([32,128,1,8,64,16,2,4]:J Int).length=8:=rfl;have L2:([97,67,101,102,109,110,117,120]:Bs).length=8:=rfl;refine aA.cd (λh=>?_) λ_=>aA.ok (by grind);rw[ck om om,bH om];have hs:=wB [97,67,101,102,109,110,117,120] k (k+1);have hm:8-Int.toNat ((k+1:Nat):Int)<8-Int.toNat (k:Int):=om;exact aA.cb (λ_=>aA.rq (K8 om om om) (aA.rq (decide_eq_true om) (hrc _ ⟨k+1,rfl,om,by grind⟩ hm))) λ_=>hrc _ ⟨k+1,rfl,om,by dsimp only;omega⟩ hm
