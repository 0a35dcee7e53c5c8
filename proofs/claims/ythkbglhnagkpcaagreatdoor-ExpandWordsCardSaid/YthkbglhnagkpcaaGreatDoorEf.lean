import Derived.Test.YthkbglhnagkpcaaGreatDoorPe
open Go.Op renaming bytesLess->pD
open Option renaming some->iN
open Bool renaming true->eQ,false->eK
open Decidable renaming decide->eJ
open Int renaming toNat->eI
open List renaming length->Sx
set_option linter.all false
namespace Go.Proofs.YthkbglhnagkpcaaGreatDoor
open Go.RT
set_option maxRecDepth 100000
theorem LM(F:Nat)(c:Int):mc F c=iN (eJ (48<=c)&&eJ (c<=57)):=by unfold mc wx;rw[aG,cF];rfl
theorem apM(F:Nat)(c:Int):tZ F c=iN ((eJ (97<=c)&&eJ (c<=122))||(eJ (65<=c)&&eJ (c<=90))):=by unfold tZ wx;grind
def atF(c:Int):Bool:=((eJ (97<=c)&&eJ (c<=122))||(eJ (65<=c)&&eJ (c<=90)))||(eJ (48<=c)&&eJ (c<=57))||c==95
theorem abU(F:Nat)(c:Int):qx F c=iN (atF c):=by unfold qx wx;rw[apM];simp[LM,aG];rfl
theorem avc(F:Nat)(l:Bs)(c:Int)(hF:Sx l<F)(hl:Sx l<=1000):∃b,JP F l c=iN b:=by
 have:aB (λ_=>True) (JP F l c):=by refine aB.lp (λi=>∃n:Nat,i=(n:Int)/\n<=Sx l) (λi=>Sx l-i.toNat) ⟨0,rfl,om⟩ (by simp_all) ?_;rintro _ ⟨n,rfl,hn⟩ rc hrc;refine aB.cd (λh=>?_) λ_=>aB.ok trivial;refine aB.rq (mL om om) (aB.cb (λ_=>aB.ok trivial) λ_=>?_);rw[bF om];exact hrc _ ⟨n+1,rfl,om⟩ (by grind)
 obtain⟨b,-,h⟩:=this;exact⟨b,h⟩
theorem M7(F:Nat)(c:Int)(hF:10<F):∃b,nP F c=iN b:=by obtain⟨b,hb⟩:=avc F [64,42,35,63,45,36,33] c (by show 7<F;omega) de;unfold nP wx;simp_all[LM,aC,aG]
def EX(s:Bs)(a:Nat)(b:Bool):Prop:=(b=eQ->a+1<Sx s/\s.getD a 0=36)/\(s.getD a 0=36->s.getD (a+1) 0=40->b=eQ)
variable{s:Bs}{a:Nat}
theorem avd(h:s.getD a 0=40):a<Sx s:=by grind
theorem arx(F:Nat)(s:Bs)(a:Nat)(hF:10<F)(hl:Sx s<=1000)(ha:a<Sx s):aB (EX s a) (sU F s (a:Int)):=by
 unfold sU wx;rw[bF om];by_cases h:a+1<Sx s
 .rw[cf om,bX om om,VR _ 36 de];refine aB.cb (λh0=>aB.ok ⟨λh=>(nomatch h),λh'=>?_⟩) λh0=>?_
  .simp_all
  have h0:s.getD a 0=36:=by simpa using h0
  rw[bX om om,abU];obtain⟨b,hb⟩:=M7 F ((s.getD (eI ((a+1:Nat):Int)) 0).toNat:Int) hF;rw[hb];simp[aG];refine aB.ok ⟨λ_=>⟨h,h0⟩,λ_ h4=>?_⟩;simp_all
 .rw[b9 om];exact aB.ok ⟨λh=>(nomatch h),λ_ h4=>absurd (avd h4) h⟩
theorem ahS(F:Nat)(s:Bs)(a:Nat)(hF:Sx s<F)(hl:Sx s<=1000)(ha:a<=Sx s):aB (λr=>∃e:Nat,r=(e:Int)/\a<=e/\e<=Sx s) (yR F s (a:Int)):=by
 refine aB.lp (λi=>∃n:Nat,i=(n:Int)/\a<=n/\n<=Sx s) (λi=>Sx s-i.toNat) ⟨a,rfl,om,ha⟩ (by grind) ?_;rintro _ ⟨n,rfl,h1,h2⟩ rc hrc;by_cases h:n<Sx s
 .rw[b9 om,bX om om,abU];refine aB.cb (λ_=>?_) λ_=>aB.ok ⟨n,rfl,h1,h2⟩;rw[bF om];exact hrc _ ⟨n+1,rfl,om,om⟩ (by grind)
 .grind[aB.ok]
theorem amx(F:Nat)(s:Bs)(a:Nat)(hF:Sx s<F)(hl:Sx s<=1000)(ha:a<=Sx s):aB (λr=>∃e:Nat,r=(e:Int)/\a<=e/\e<=Sx s/\(s.getD a 0≠10->a<Sx s->a<e)) (FM F s (a:Int)):=by
 refine aB.lp (λi=>∃n:Nat,i=(n:Int)/\a<=n/\n<=Sx s) (λi=>Sx s-i.toNat) ⟨a,rfl,om,ha⟩ (by grind) ?_;rintro _ ⟨n,rfl,h1,h2⟩ rc hrc;by_cases h:n<Sx s
 .rw[b9 om,bX om om];refine aB.cb (λ_=>?_) λh0=>aB.ok ⟨n,rfl,h1,h2,λh3 _=>?_⟩
  .rw[bF om];exact hrc _ ⟨n+1,rfl,om,om⟩ (by grind)
  .by_cases e:a=n
   .simp_all[bN,VR]
   .omega
 .grind[aB.ok]
theorem agp(F:Nat)(s:Bs)(a:Nat)(hl:Sx s<=1000)(ha:a<=Sx s):aB (λb=>b=eQ->a+1<Sx s) (BO F s (a:Int)):=by
 unfold BO wx;rw[bF om];by_cases h:a+1<Sx s
 .rw[b9 om,bX om om,aC,bX om om,aG];exact aB.ok λ_=>h
 .rw[cf om];simp_all[aB.ok]
theorem aj7(F:Nat)(c:Int):zM F c=iN (c==9||c==32):=by unfold zM wx;rw[aG];rfl
theorem ary(F:Nat)(c:Int):∃b,xF F c=iN b:=by unfold xF wx;simp_all[aG,cT,aC]
def PQ(s:Bs)(a k:Nat)(r:Int×Int):Prop:=r.2=0->∃e:Nat,r.1=(e:Int)/\a+k<=e/\e<=Sx s
variable{k:Nat}{x e:Int}
theorem PQ.err(h:e≠0):PQ s a k (x,e):=λh'=>absurd h' h
theorem PQ.le{j:Nat}{r:Int×Int}(h:PQ s a k r)(hj:j<=k):PQ s a j r:=λe=>by obtain⟨e,h1,h2,h3⟩:=h e;grind
theorem aB.pair{A B:Type}{x:O (A×B)}{Q:A×B->Prop}(h:aB Q x):aB Q (x.bind λy=>iN (y.1,y.2)):=by obtain⟨r,h,rfl⟩:=h;exact⟨_,h,rfl⟩
theorem apN(F:Nat)(s:Bs)(a:Nat)(hF:Sx s<F)(hl:Sx s<=1000)(ha:a<Sx s):aB (PQ s a 2) (BP F s (a:Int)):=by unfold BP wx;rw[bF om];refine aB.lp (λi=>∃n:Nat,i=(n:Int)/\a+1<=n/\n<=Sx s) (λi=>Sx s-i.toNat) ⟨a+1,rfl,om,ha⟩ (by grind) ?_;rintro _ ⟨n,rfl,h1,h2⟩ rc hrc;refine aB.cd (λh=>?_) λ_=>aB.ok (PQ.err de);rw[bX om om,bF om];exact aB.cb (λ_=>aB.ok λ_=>⟨n+1,rfl,om,om⟩) λ_=>hrc _ ⟨n+1,rfl,om,om⟩ (by grind)
theorem arz(F:Nat)(s:Bs)(a:Nat)(hF:Sx s+2<F)(hl:Sx s<=1000)(ha:a<Sx s):aB (PQ s a 2) (vf F s (a:Int)):=by unfold vf wx;rw[bF om];refine aB.lp (λi=>∃n:Nat,i=(n:Int)/\a+1<=n/\n<=Sx s+1) (λi=>Sx s+1-i.toNat) ⟨a+1,rfl,om,om⟩ (by grind) ?_;rintro _ ⟨n,rfl,h1,h2⟩ rc hrc;refine aB.cd (λh=>?_) λ_=>aB.ok (PQ.err de);rw[bX om om,bF om];refine aB.cb (λ_=>aB.ok λ_=>⟨n+1,rfl,om,om⟩) λ_=>?_;rw[bX om om,aG];refine aB.cb (λ_=>aB.ok (PQ.err de)) λhb=>?_;rw[bX om om];refine aB.cb (λh9=>?_) λ_=>hrc _ ⟨n+1,rfl,om,om⟩ (by grind);rw[bF om];exact hrc _ ⟨n+2,rfl,om,om⟩ (by grind)
def P1(F:Nat)(s:Bs)(n:Nat):Prop:=∀(a:Nat)(p:Int),a<Sx s->4*(Sx s-a)+4<=n->aB (λr=>PQ s a 1 r/\(s.getD a 0=39->p=0->PQ s a 2 r)/\(s.getD a 0=96->PQ s a 2 r)/\(s.getD a 0=36->s.getD (a+1) 0=40->PQ s a 3 r)) ((dH F n).1 s (a:Int) p)
def P2(F:Nat)(s:Bs)(n:Nat):Prop:=∀(a:Nat)(p:Int),a+1<Sx s->4*(Sx s-a)+3<=n->aB (λr=>PQ s a 1 r/\(s.getD (a+1) 0=40->PQ s a 3 r)) ((dH F n).2.1 s (a:Int) p)
def P3(F:Nat)(s:Bs)(n:Nat):Prop:=∀(a:Nat)(p:Int),a+1<Sx s->4*(Sx s-a)+2<=n->aB (PQ s a 3) ((dH F n).2.2.1 s (a:Int) p)
def P4(F:Nat)(s:Bs)(n:Nat):Prop:=∀(a:Nat),a+2<Sx s->4*(Sx s-a)+2<=n->aB (PQ s a 3) ((dH F n).2.2.2.1 s (a:Int))
def P5(F:Nat)(s:Bs)(n:Nat):Prop:=∀(a:Nat),a+1<Sx s->4*(Sx s-a)+2<=n->aB (PQ s a 3) ((dH F n).2.2.2.2.1 s (a:Int))
def P6(F:Nat)(s:Bs)(n:Nat):Prop:=∀(a:Nat),a<Sx s->4*(Sx s-a)+2<=n->aB (PQ s a 2) ((dH F n).2.2.2.2.2 s (a:Int))
variable{F n:Nat}{R:Type}{Q:R->Prop}
theorem aj8(hF:Sx s+20<F)(hl:Sx s<=1000)(h2:P2 F s n)(h6:P6 F s n):P1 F s (n+1):=by
 intro a p ha hn;show aB _ (Ij F (dH F n) s (a:Int) p);unfold Ij wx;rw[bX om om,bF om,aG];have hb:∀(k:Nat),k<256->∀b:Bool,((((s.getD (eI (a:Int)) 0).toNat:Int)==(no_index (OfNat.ofNat k:Int)))=b->(s.getD a 0==(OfNat.ofNat k:UInt8))=b):=by simp_all[bN,oP]
 refine aB.cb (λ_=>aB.ok ⟨PQ.err de,λ_ _=>PQ.err de,λ_=>PQ.err de,λ_ _=>PQ.err de⟩) λhx=>?_;refine aB.cb (λh=>?_) λg1=>?_
 .have:=hb 92 de _ h;have hne:a+1≠Sx s:=λe=>by simp_all
  rw[bQ om];have q:PQ s a 2 ((a:Int)+2,0):=λ_=>⟨a+2,rfl,om,om⟩;exact aB.ok ⟨q.le om,λ_ _=>q,λ_=>q,λh=>by simp_all⟩
 refine aB.cb (λh=>?_) λg2=>?_
 .exact((arz F s a om hl ha).mono λr q=>⟨q.le om,λ_ _=>q,λ_=>q,λh=>by simp_all⟩).pair
 have n96:s.getD a 0≠96:=λe=>by simp_all
 refine aB.bd (arx F s a om hl ha) λb hE=>?_;refine aB.cb (λh=>?_) λg3=>?_
 .obtain⟨h1,h3⟩:=hE.1 h;exact((h2 a p h1 om).mono λr q=>⟨q.1,λh=>by simp_all,λh=>by simp_all,λ_ h=>q.2 h⟩).pair
 have n40:s.getD a 0=36->s.getD (a+1) 0=40->False:=λh h'=>by have:=hE.2 h h';simp_all
 simp[aG];refine aB.cb (λh=>?_) λg4=>?_
 .exact((apN F s a om hl ha).mono λr q=>⟨q.le om,λ_ _=>q,λ_=>q,λh h'=>(n40 h h').elim⟩).pair
 refine aB.cb (λh=>?_) λg5=>?_
 .rw[cH]at h;exact((h6 a ha om).mono λr q=>⟨q.le om,λ_ _=>q,λ_=>q,λh h'=>(n40 h h').elim⟩).pair
 refine aB.ok ⟨λ_=>⟨a+1,rfl,om,om⟩,λh e=>?_,λh=>(n96 h).elim,λh h'=>(n40 h h').elim⟩;simp_all
theorem amy(hF:Sx s+20<F)(hl:Sx s<=1000)(h3:P3 F s n)(h4:P4 F s n)(h5:P5 F s n):P2 F s (n+1):=by
 intro a p ha hn;show aB _ (zG F (dH F n) s (a:Int) p);unfold zG wx;rw[bF om,bX om om,bQ om,show(a:Int)+2=((a+2:Nat):Int)from rfl];refine aB.cb (λ_=>((h3 a p ha om).mono λr q=>⟨q.le om,λ_=>q⟩).pair) λ_=>?_;rw[aG,aC,cF]
 have main:aB (λr=>PQ s a 1 r/\(s.getD (a+1) 0=40->PQ s a 3 r)) (cond (((s.getD (eI ((a+1:Nat):Int)) 0).toNat:Int)==40)
   (((dH F n).2.2.2.2.1 s (a:Int)).bind λx5=>iN (x5.1,x5.2))
   ((nP F ((s.getD (eI ((a+1:Nat):Int)) 0).toNat:Int)).bind λx6=>cond x6 (iN (((a+2:Nat):Int),0)) ((yR F s ((a+1:Nat):Int)).bind λx7=>iN (x7,0)))):=by
  refine aB.cb (λ_=>((h5 a ha om).mono λr q=>⟨q.le om,λ_=>q⟩).pair) λg=>?_;have n40:s.getD (a+1) 0=40->False:=λh=>by simp_all
  obtain⟨b,hb⟩:=M7 F ((s.getD (eI ((a+1:Nat):Int)) 0).toNat:Int) om;rw[hb];refine aB.cb (λ_=>aB.ok ⟨λ_=>⟨a+2,rfl,om,om⟩,λh=>(n40 h).elim⟩) λ_=>?_;refine aB.bd (ahS F s (a+1) om hl om) λr ⟨e,h1,h2,h3⟩=>aB.ok ⟨λ_=>⟨e,h1,om,h3⟩,λh=>(n40 h).elim⟩
 by_cases h:a+2<Sx s
 .rw[show eJ (((a+2:Nat):Int)<(Sx s:Int))=eQ from dT om,abE,abE,jP om,aG];exact aB.cb (λ_=>((h4 a h om).mono λr q=>⟨q.le om,λ_=>q⟩).pair) λ_=>main
 grind
def step1(h1:P1 F s n){i:Nat}{p:Int}(hi:i<Sx s)(hn:4*(Sx s-i)+4<=n){k:Int×Int->O R}(hk:∀r,PQ s i 1 r->aB Q (k r)):aB Q (((dH F n).1 s (i:Int) p).bind k):=aB.bd (h1 i p hi hn) λr q=>hk r q.1
theorem LN{A B:O R}(a:x≠0->aB Q A)(b:x=0->aB Q B):aB Q (cond (x != 0) A B):=by grind
theorem ahT(hF:Sx s+20<F)(hl:Sx s<=1000)(h1:P1 F s n):P3 F s (n+1):=by intro a p ha hn;show aB _ (DF F (dH F n) s (a:Int) p);unfold DF wx;rw[bQ om];refine aB.lp (λi=>∃n:Nat,i=(n:Int)/\a+2<=n/\n<=Sx s) (λi=>Sx s-i.toNat) ⟨a+2,rfl,om,ha⟩ (by grind) ?_;rintro _ ⟨i,rfl,g1,g2⟩ rc hrc;refine aB.cd (λh=>?_) λ_=>aB.ok (PQ.err de);rw[bX om om,bF om];refine aB.cb (λ_=>aB.ok λ_=>⟨i+1,rfl,om,om⟩) λ_=>?_;rw[bX om om,aG];refine aB.cb (λ_=>aB.ok (PQ.err de)) λ_=>step1 h1 om om λr q=>LN (λh=>aB.ok (PQ.err h)) λh=>?_;obtain⟨e,e1,e2,e3⟩:=q h;rw[e1];exact hrc _ ⟨e,rfl,om,e3⟩ (by grind)
theorem amz(hF:Sx s+20<F)(hl:Sx s<=1000)(h1:P1 F s n):P6 F s (n+1):=by intro a ha hn;show aB _ (DG F (dH F n) s (a:Int));unfold DG wx;rw[bF om];refine aB.lp (λi=>∃n:Nat,i=(n:Int)/\a+1<=n/\n<=Sx s) (λi=>Sx s-i.toNat) ⟨a+1,rfl,om,ha⟩ (by grind) ?_;rintro _ ⟨i,rfl,g1,g2⟩ rc hrc;refine aB.cd (λh=>?_) λ_=>aB.ok (PQ.err de);rw[bX om om,bF om];refine aB.cb (λ_=>aB.ok λ_=>⟨i+1,rfl,om,om⟩) λ_=>step1 h1 om om λr q=>LN (λh=>aB.ok (PQ.err h)) λh=>?_;obtain⟨e,e1,e2,e3⟩:=q h;rw[e1];exact hrc _ ⟨e,rfl,om,e3⟩ (by grind)
theorem ahU(hF:Sx s+20<F)(hl:Sx s<=1000)(h1:P1 F s n):P4 F s (n+1):=by
 intro a ha hn;show aB _ (xG F (dH F n) s (a:Int));unfold xG wx;rw[bQ om];refine aB.lp (λi=>∃n:Nat,i.1=(n:Int)/\a+3<=n/\n<=Sx s) (λi=>Sx s-i.1.toNat) ⟨a+3,rfl,om,ha⟩ (by grind) ?_;rintro⟨_,o⟩ ⟨i,rfl,g1,g2⟩ rc hrc;refine aB.cd (λh=>?_) λ_=>aB.ok (PQ.err de);rw[bX om om,bF om];refine aB.jj (P:=λx=>∀r,x=.inr r->PQ s a 3 r) ?_ (λo' _=>?_) λr h=>h r rfl
 .have ok:∀o':Int,aB (λx:Int ⊕ (Int×Int)=>∀r,x=.inr r->PQ s a 3 r) (iN (.inl o')):=λo'=>aB.ok λr h=>nomatch h
  refine aB.cb (λ_=>ok _) λ_=>?_;rw[aG];refine aB.cb (λ_=>ok _) λ_=>?_;rw[aG];refine aB.cb (λ_=>aB.ok λr e=>by grind[PQ.err]) λhx=>?_;have fin:aB (λx:Int ⊕ (Int×Int)=>∀r,x=.inr r->PQ s a 3 r) (cond (((s.getD (eI (i:Int)) 0).toNat:Int)==41) (iN (.inr ((i:Int),6))) (iN (.inl o))):=aB.cb (λ_=>aB.ok λr e=>by grind[PQ.err]) λ_=>ok _;cases hc:(((s.getD (eI (i:Int)) 0).toNat:Int)==41)with
  | false=>rw[hc]at fin;exact fin|true=>
   rw[hc]at hx fin;have hne:i+1≠Sx s:=λe=>by simp_all
   rw[bX om om];refine aB.cb (λ_=>aB.ok λr e=>?_) λ_=>fin;cases e;rw[bQ om];exact λ_=>⟨i+2,rfl,om,om⟩
 .refine step1 h1 om om λr q=>LN (λh=>aB.ok (PQ.err h)) λh=>?_;obtain⟨e,e1,e2,e3⟩:=q h;rw[e1];exact hrc _ ⟨e,rfl,om,e3⟩ (by grind)
theorem aB.ret{σ R:Type}{x:O R}{Q:R->Prop}(h:aB Q x):aB (λz:σ ⊕ R=>∃r,Q r/\z=.inr r) (AL x):=by obtain⟨r,h,rfl⟩:=h;exact⟨.inr r,⟨r,h,rfl⟩,rfl⟩
theorem amA(hF:Sx s+20<F)(hl:Sx s<=1000)(h1:P1 F s n):P5 F s (n+1):=by
 intro a ha hn;show aB _ (BQ F (dH F n) s (a:Int));unfold BQ wx;rw[bQ om];refine aB.lp (λi=>∃n:Nat,i.1=(n:Int)/\a+2<=n/\n<=Sx s) (λi=>Sx s-i.1.toNat) ⟨a+2,rfl,om,ha⟩ (by grind) ?_;rintro⟨_,o,bg⟩ ⟨i,rfl,g1,g2⟩ rc hrc;have vg:∀(e:Nat) o' b',i<e->e<=Sx s->aB (PQ s a 3) (rc ((e:Int),o',b')):=λe o' b' h1 h2=>hrc _ ⟨e,rfl,om,h2⟩ (by grind);refine aB.cd (λh=>?_) λ_=>aB.ok (PQ.err de);have h:i<Sx s:=om;rw[bX om om,bF om];refine aB.jj (P:=λx=>(∀z,x=.inl z->z.1=(i:Int))/\∀r,x=.inr r->PQ s a 3 r) ?_ (λz hz=>?_) λr h=>h.2 r rfl
 .have ok:∀o':Int,aB (λx:(Int×Int) ⊕ (Int×Int)=>(∀z,x=.inl z->z.1=(i:Int))/\∀r,x=.inr r->PQ s a 3 r) (iN (.inl ((i:Int),o'))):=λo'=>aB.ok ⟨λz e=>by cases e;rfl,λr h=>nomatch h⟩;have rt:∀ {x:Option (Int×Int)},aB (PQ s a 3) x->aB (λx:(Int×Int) ⊕ (Int×Int)=>(∀z,x=.inl z->z.1=(i:Int))/\∀r,x=.inr r->PQ s a 3 r) (AL x):=λh=>h.ret.mono λz ⟨r,q,e⟩=>by simp_all
  rw[aG];refine aB.cb (λhc=>?_) λ_=>?_
  .have h35:s.getD i 0=35:=by simp_all[cF,cH,bN,oP]
   grind[aB.bd,amx]
  refine aB.bd (agp F s i hl om) λb hb=>aB.cb (λhb'=>rt ?_) λ_=>?_
  .grind[bQ]
  rw[aG];refine aB.cb (λ_=>aB.ok ⟨λz e=>(nomatch e),λr e=>?_⟩) λ_=>aB.cb (λ_=>ok _) λ_=>aB.cb (λ_=>ok _) λ_=>ok _;cases e;exact λ_=>⟨i+1,rfl,om,om⟩
 .obtain⟨ob,OD⟩:=ary F ((s.getD (eI (i:Int)) 0).toNat:Int);rw[aj7,OD];simp[aG];obtain⟨z1,z2⟩:=z;obtain rfl:z1=(i:Int):=hz.1 _ rfl;refine step1 h1 h om λr q=>LN (λh=>aB.ok (PQ.err h)) λh=>?_;obtain⟨e,e1,e2,e3⟩:=q h;grind
theorem agq(hF:Sx s+20<F)(hl:Sx s<=1000):∀n,P1 F s n/\P2 F s n/\P3 F s n/\P4 F s n/\P5 F s n/\P6 F s n
 | 0=>⟨λ_ _ _ h=>om,λ_ _ _ h=>om,λ_ _ _ h=>om,λ_ _ h=>om,λ_ _ h=>om,λ_ _ h=>om⟩|n+1=>by obtain⟨h1,h2,h3,h4,h5,h6⟩:=agq hF hl n;exact⟨aj8 hF hl h2 h6,amy hF hl h3 h4 h5,ahT hF hl h1,ahU hF hl h1,amA hF hl h1,amz hF hl h1⟩
theorem M8(F:Nat)(s:Bs)(a:Nat)(p:Int)(hF:4*Sx s+20<F)(hl:Sx s<=1000)(ha:a<Sx s):
  aB (λr=>PQ s a 1 r/\(s.getD a 0=39->p=0->PQ s a 2 r)/\(s.getD a 0=96->PQ s a 2 r)/\(s.getD a 0=36->s.getD (a+1) 0=40->PQ s a 3 r)) (BR F s (a:Int) p):=
 (agq om hl F).1 a p ha om
mutual
def wP:d6->Nat|.mk _ t _ _ ps=>1+Sx t+gv ps
def gv:J d6->Nat|[]=>0|p::l=>wP p+gv l
end
theorem Bh:∀(l m:J d6),gv (l++m)=gv l+gv m|[],m=>by simp[gv]|p::l,m=>by simp[gv,Bh l m];omega
theorem LO(p:d6):1+Sx p.fText+gv p.fParts=wP p:=by cases p;rfl
theorem LP:∀(l:J d6),Sx l<=gv l|[]=>by simp|p::l=>by have:=LP l;have:=LO p;simp[gv];omega
theorem M9(l:J d6)(k:Nat):gv (l.take k)+gv (l.drop k)=gv l:=by rw[<-Bh,DB]
theorem VS{l:J d6}(h:k<Sx l):gv (l.take (k+1))=gv (l.take k)+wP (l.getD k mM):=by rw[ku h,Bh,gd h];simp only[gv];omega
theorem agr{l:J d6}(h:k<Sx l):wP (l.getD k mM)<=gv l:=by have h1:=VS h;have h2:=M9 l (k+1);omega
theorem ahV(F:Nat)(p:d6)(e:Int):iH F p e=iN (eO.mk [p] e 0):=by cases p;rfl
theorem wV(s:Bs)(i j:Nat):(sl s (i:Int) (j:Int)).length<=j-i:=by grind[sl,List.length_drop,List.length_take,Int.toNat_natCast]
theorem ahW(F:Nat)(p:Int):p4 F p=iN (p==0||p==1):=by unfold p4 wx;rw[aG];rfl
theorem ave(F:Nat)(c p:Int):∃b,An F c p=iN b:=by unfold An wx;simp_all[aG,cT,aC]
theorem atG(F:Nat)(s:Bs)(a:Nat)(p o:Int)(ha:a<Sx s):∃b,GH F s (a:Int) p o=iN b:=by unfold GH wx;rw[bX om om,bX om om,bX om om];simp_all[aG,cT,aC]
def Yh(F:Nat)(s:Bs)(a:Nat)(hl:Sx s<=1000)(ha:a<=Sx s):aB (λb=>b=eQ->a+1<Sx s) (xH F s (a:Int)):=agp F s a hl ha
theorem arA(F:Nat)(s:Bs)(a:Nat)(p:Int)(hF:Sx s<F)(hl:Sx s<=1000)(ha:a<Sx s):∃b,zN F s (a:Int) p=iN b:=by
 have:aB (λ_=>True) (zN F s (a:Int) p):=by
  unfold zN wx;rw[ahW,bF om,bX om om];simp[aG];refine aB.cb (λ_=>aB.ok trivial) λ_=>?_;refine aB.lp (λi=>∃n:Nat,i=(n:Int)/\a+1<=n/\n<=Sx s) (λi=>Sx s-i.toNat) ⟨a+1,rfl,om,ha⟩ (by grind) ?_;rintro _ ⟨n,rfl,h1,h2⟩ rc hrc;refine aB.bd (Yh F s n hl h2) λb hb=>aB.cb (λh=>?_) λ_=>?_
  .have:=hb h;rw[bQ om];exact hrc _ ⟨n+2,rfl,om,om⟩ (by grind)
  .by_cases h:n<Sx s
   .rw[bX om om,bX om om];simp_all[aG,aC,aB.ok,trivial]
   simp_all[b9,aB.ok,trivial]
 obtain⟨b,-,h⟩:=this;exact⟨b,h⟩
def RQ(s:Bs)(a:Nat)(r:eO):Prop:=r.fE=0->∃e:Nat,r.TQ=(e:Int)/\a+1<=e/\e<=Sx s/\r.fParts.length<=1/\gv r.fParts<=2*(e-a)
theorem RQ.err{l:J d6}(h:e≠0):RQ s a ⟨l,x,e⟩:=λh'=>absurd h' h
theorem RQ.one{e:Nat}{p:d6}(h1:a+1<=e)(h2:e<=Sx s)(h3:wP p<=2*(e-a)):RQ s a ⟨[p],(e:Int),0⟩:=λ_=>⟨e,rfl,h1,h2,si,by simp[gv];omega⟩
theorem wT(k:Int)(t:Bs)(o:Int)(c:Bool):wP (.mk k t o c [])=1+Sx t:=by simp[wP,gv]
theorem wN(k:Int)(t:Bs)(o:Int)(c:Bool)(l:J d6):wP (.mk k t o c l)=1+Sx t+gv l:=rfl
theorem aB.so{A:Type}{x:O A}{Q:A->Prop}(h:aB Q x):aB Q (x.bind λy=>iN y):=by rw[atH];exact h
theorem apO(F:Nat)(s:Bs)(a:Nat)(p:Int)(hl:Sx s<=1000)(ha:a<Sx s):aB (RQ s a) (wW F s (a:Int) p):=by
 unfold wW wx;rw[bF om,bQ om,show(a:Int)+2=((a+2:Nat):Int)from rfl];have one:∀ {k o:Int}{c:Bool}{t:Bs}{e:Nat},a+1<=e->e<=Sx s->1+Sx t<=2*(e-a)->aB (RQ s a) ((iH F (.mk k t o c []) (e:Int)).bind λx=>iN x):=λh1 h2 h3=>by simp_all[ahV,aB.ok,RQ.one,wT]
 by_cases h:a+1=Sx s
 .rw[show(((a+1:Nat):Int)==(Sx s:Int))=eQ from by rw[h];simp,aQ];exact aB.cb (λ_=>one om om (by show 1+1<=_;omega)) λ_=>aB.ok (RQ.err de)
 .rw[show(((a+1:Nat):Int)==(Sx s:Int))=eK from by simp;omega,aI,bX om om];have h1:=wV s (a+1) (a+2);have h2:=wV s a (a+2);refine aB.cb (λ_=>aB.ok λ_=>⟨a+2,rfl,om,om,si,by simp[gv]⟩) λ_=>?_;rw[ahW];refine aB.cb (λ_=>aB.rq (LQ om om om) (one om om om)) λ_=>?_;obtain⟨b,hb⟩:=ave F ((s.getD (eI ((a+1:Nat):Int)) 0).toNat:Int) p;rw[hb];refine aB.cb (λ_=>aB.rq (LQ om om om) (one om om om)) λ_=>?_;simp only[aG];refine aB.cb (λ_=>aB.ok (RQ.err de)) λ_=>?_;rw[vO om om om];exact one om om om
theorem ags(F:Nat)(t:Bs)(hF:4*Sx t+40<F)(hl:Sx t<=900):∃b,ua F t=iN b:=by
 have:aB (λ_=>True) (ua F t):=by
  unfold ua wx;have hL:(([36,40]:Bs)++t++([41]:Bs)).length=Sx t+3:=by simp
  rw[jP (by grind),jP (by grind)];have hp:=M8 F ((([36,40]:Bs)++t)++([41]:Bs)) 0 0 om om om;refine aB.bd hp λr _=>?_;by_cases h:t=[]
  .simp_all[aG,aC,aQ,aB.ok,trivial]
  .have:=AJ.2 h;rw[jP om];simp_all[aG,aC,aB.ok,trivial]
 obtain⟨b,-,h⟩:=this;exact⟨b,h⟩
theorem arB(F:Nat)(s:Bs)(a:Nat)(hF:4*Sx s+100<F)(hl:Sx s<=800)(ha:a<Sx s)(h96:s.getD a 0=96):aB (RQ s a) (vh F s (a:Int)):=by
 unfold vh wx;refine aB.bd (M8 F s a 0 om om ha) λr q=>LN (λh=>aB.ok (RQ.err h)) λh=>?_;obtain⟨e,e1,e2,e3⟩:=q.2.2.1 h96 h;rw[e1,vi om om,bF om];refine aB.lp (λz:Bs×Int=>∃n:Nat,z.2=(n:Int)/\a+1<=n/\n<=e/\z.1.length<=e-a-2/\z.1.length+a+1<=n) (λz=>e-z.2.toNat) ⟨a+1,rfl,om,om,si,si⟩ (by grind) ?_
 .rintro⟨t,_⟩ ⟨n,rfl,g1,g2,g3,g4⟩ rc hrc;dsimp only at g3 g4 hrc⊢;have ok:∀b:Bool,∃m:Nat,cond b (((n+1:Nat):Int)) (n:Int)=(m:Int)/\n<=m/\m<=n+1:=λb=>by
   cases b
   .grind
   grind
  refine aB.cd (λh=>?_) λh=>?_
  .rw[bX om om,bF om,bX om om,bX om om,bX om om];simp only[aG,aC];generalize hb:(cond (((s.getD (eI (n:Int)) 0).toNat:Int)==92) _ eK:Bool)=b;obtain⟨m,hm,ZU,hm2⟩:=ok b;rw[hm,bF om];have hs:=wV s m (m+1);refine aB.rq (LQ om om om) (aB.rq (eT om) (hrc _ ⟨m+1,rfl,om,om,?_,?_⟩ ?_))
   .grind
   .grind
   grind
  .refine aB.bd (P:=λu:Bs=>Sx u<=e-a-1) ?_ λu hu=>?_
   .refine aB.bd (P:=λ_=>True) ?_ λb _=>aB.cb (λ_=>aB.rq (decide_eq_true (by grind)) (aB.ok (by grind))) λ_=>aB.ok om;by_cases ht:t=[]
    .simp_all[aB.ok,trivial]
    .have:0<Sx t:=AJ.2 ht;rw[jP om,aG];exact aB.ok trivial
   refine aB.bd (P:=λu:Bs=>Sx u<=e-a) ?_ λv hv=>?_
   .obtain⟨b,hb⟩:=ags F u om om;rw[hb,aC];exact aB.cb (λ_=>aB.rq (decide_eq_true (by grind)) (aB.ok (by grind))) λ_=>aB.ok om
   obtain⟨b,hb⟩:=ags F v om om;rw[hb,aC];refine aB.cb (λ_=>aB.ok (RQ.err de)) λ_=>?_;grind[ahV,aB.ok,RQ.one,wT]
theorem Yi(F:Nat)(s:Bs)(hF:Sx s<F)(hl:Sx s<=1000):∃r,nv F s=iN r:=by
 have:aB (λ_=>True) (nv F s):=by
  unfold nv wx;by_cases h:s=[]
  .simp_all[aB.ok,trivial]
  have:=AJ.2 h;rw[jP om];simp only[aG];refine aB.cb (λ_=>aB.ok trivial) λ_=>?_;refine aB.lp (λi=>∃n:Nat,i.2=(n:Int)/\n<=Sx s) (λi=>Sx s-i.2.toNat) ⟨0,rfl,om⟩ (by simp_all) ?_;rintro⟨v,_⟩ ⟨n,rfl,hn⟩ rc hrc;refine aB.cd (λh=>?_) λ_=>aB.ok trivial;rw[bX om om,LM,bF om];refine aB.cb (λ_=>aB.ok trivial) λ_=>aB.rq (mL om om) (hrc _ ⟨n+1,rfl,om⟩ (by grind))
 obtain⟨b,-,h⟩:=this;exact⟨b,h⟩
theorem aci(F:Nat)(s:Bs)(a:Nat)(hF:Sx s+20<F)(hl:Sx s<=1000)(ha:a<=Sx s):aB (λr=>∃e:Nat,r=(e:Int)/\a<=e/\e<=Sx s) (pJ F s (a:Int)):=by
 unfold pJ wx;by_cases h:a<Sx s
 .rw[cf om,bX om om,LM,bX om om,abU,bX om om,bF om];refine aB.cb (λ_=>?_) λ_=>aB.cb (λ_=>(ahS F s a om hl ha).so) λ_=>?_
  .refine aB.lp (λi=>∃n:Nat,i=(n:Int)/\a+1<=n/\n<=Sx s) (λi=>Sx s-i.toNat) ⟨a+1,rfl,om,h⟩ (by grind) ?_;rintro _ ⟨n,rfl,h1,h2⟩ rc hrc;by_cases hn:n<Sx s
   .rw[b9 om,bX om om,LM,bF om];refine aB.cb (λ_=>aB.rq (LQ om om om) ?_) λ_=>aB.ok ⟨n,rfl,om,h2⟩;have hs:=wV s a (n+1);obtain⟨r,hr⟩:=Yi F (sl s (a:Int) ((n+1:Nat):Int)) om om;rw[hr];exact aB.cb (λ_=>aB.ok ⟨n,rfl,om,h2⟩) λ_=>hrc _ ⟨n+1,rfl,om,om⟩ (by grind)
   .grind[aB.ok]
  .obtain⟨b,hb⟩:=M7 F ((s.getD (eI (a:Int)) 0).toNat:Int) om;rw[hb];exact aB.cb (λ_=>aB.ok ⟨a+1,rfl,om,om⟩) λ_=>aB.ok ⟨a,rfl,om,om⟩
 .grind[aB.ok]
theorem op8(F:Nat)(s:Bs)(a:Nat)(hl:Sx s<=1000)(ha:a<Sx s):aB (λr=>r.1≠0->∃n:Nat,r.2.2=(n:Int)/\1<=n/\a+n<=Sx s) (yS F s (a:Int)):=by
 unfold yS wx;rw[bX om om];have z:aB (λr:Int×Bool×Int=>r.1≠0->∃n:Nat,r.2.2=(n:Int)/\1<=n/\a+n<=Sx s) (iN (0,eK,0)):=aB.ok λh=>absurd rfl h;have ok:∀(o:Int)(b:Bool)(n:Nat),1<=n->a+n<=Sx s->aB (λr=>r.1≠0->∃n:Nat,r.2.2=(n:Int)/\1<=n/\a+n<=Sx s) (iN (o,b,(n:Int))):=λo b n h1 h2=>aB.ok λ_=>⟨n,rfl,h1,h2⟩;cases hc:(((s.getD (eI (a:Int)) 0).toNat:Int)==58)with
 | true=>rw[aQ,bF om];refine aB.cd (λ_=>z) λh=>?_;rw[show aE (aE (((a+1:Nat):Int)-(a:Int))+1)=((2:Nat):Int)from by grind[bQ]];exact aB.rq (mL om om) (aB.cb (λ_=>ok _ _ 2 om om) λ_=>aB.rq (mL om om) (aB.cb (λ_=>ok _ _ 2 om om) λ_=>aB.rq (mL om om) (aB.cb (λ_=>ok _ _ 2 om om) λ_=>aB.rq (mL om om) (aB.cb (λ_=>ok _ _ 2 om om) λ_=>z))))
 | false=>
  rw[aI,aC];rw[cf om,show aE (aE ((a:Int)-(a:Int))+1)=((1:Nat):Int)from by simp_all[bQ],bF om];refine aB.rq (mL om om) (aB.cb (λ_=>ok _ _ 1 om om) λ_=>aB.rq (mL om om) (aB.cb (λ_=>ok _ _ 1 om om) λ_=>aB.rq (mL om om) (aB.cb (λ_=>ok _ _ 1 om om) λ_=>aB.rq (mL om om) (aB.cb (λ_=>ok _ _ 1 om om) λ_=>?_))));have two:∀(k:Int){A B:O (Int×Bool×Int)},(a+1<Sx s->aB (λr=>r.1≠0->∃n:Nat,r.2.2=(n:Int)/\1<=n/\a+n<=Sx s) A)->aB (λr=>r.1≠0->∃n:Nat,r.2.2=(n:Int)/\1<=n/\a+n<=Sx s) B ->
    aB (λr=>r.1≠0->∃n:Nat,r.2.2=(n:Int)/\1<=n/\a+n<=Sx s) ((rq ((eJ (0<=(a:Int)))&&(eJ ((a:Int)<(Sx s:Int)))) (cond (((s.getD (eI (a:Int)) 0).toNat:Int)==k) (iN (eJ (((a+1:Nat):Int)<(Sx s:Int)))) (iN eK)):O Bool).bind λx2=>
     (cond x2 (rq ((eJ (0<=((a+1:Nat):Int)))&&(eJ (((a+1:Nat):Int)<(Sx s:Int)))) (iN (((s.getD (eI ((a+1:Nat):Int)) 0).toNat:Int)==k))) (iN eK):O Bool).bind λx3=>cond x3 A B):=by
   intro k A B hA hB;rw[bX om om,aG,aC];by_cases h:a+1<Sx s
   .rw[bX om om];grind
   grind
  refine two 37 (λh=>ok _ _ 2 om om) (aB.rq (mL om om) (aB.cb (λ_=>ok _ _ 1 om om) λ_=>two 35 (λh=>ok _ _ 2 om om) (aB.rq (mL om om) (aB.cb (λ_=>ok _ _ 1 om om) λ_=>z))))
theorem apP(F:Nat)(p:Int):∃q,(q=1\/q=3\/q=6)/\BS F p=iN q:=by unfold BS wx;grind
theorem apQ(F:Nat)(p:Int):∃q,BU F p=iN q:=by unfold BU wx;simp_all[aG,aC]
theorem atI(F:Nat)(l:J d6)(t:Bs)(hl:gv l<=10000)(ht:Sx t<=10000):aB (λr=>gv r<=gv l+1+Sx t) (GJ F l t):=by
 have h1:=LP l;unfold GJ wx;by_cases h:0<Sx l
 .rw[b9 om,vi om h,bX om om,aC];refine aB.cb (λ_=>?_) λ_=>aB.rq (o5 (by grind) de) (aB.ok (by rw[Bh];simp[gv,wT];omega));have e1:sl l 0 ((Sx l-1:Nat):Int)=l.take (Sx l-1):=by simp[sl]
  have hw:=VS (l:=l) (k:=Sx l-1) om;have hp:=LO (l.getD (Sx l-1) mM);have h4:(l.take (Sx l-1+1))=l:=va om;rw[h4]at hw;simp only[e1,bN];have hL':(Sx ([]:J d6)+Sx (l.take (Sx l-1)))=Sx l-1:=by simp
  refine aB.rq (mL om om) (aB.rq (o5 (by rw[hL'];omega) de) (aB.rq (mL om om) ?_));refine aB.rq (decide_eq_true om) (aB.rq (o5 (by grind) de) (aB.ok ?_));rw[Bh,pY];simp only[gv,wT,ov];omega
 .rw[cf om,aC,aI];exact aB.rq (o5 (by simp_all) de) (aB.ok (by rw[Bh];simp[gv,wT];omega))
def PL(p:Int):Prop:=p=1\/p=2\/p=3\/p=6
def RP(s:Bs)(a:Nat)(p:Int)(r:eO):Prop:=r.fE=0->∃e:Nat,r.TQ=(e:Int)/\a<=e/\e<=Sx s/\gv r.fParts<=2*(e-a)/\(PL p->e<Sx s)/\(p=4->e+1<Sx s)
theorem RP.err{p:Int}{l:J d6}(h:e≠0):RP s a p ⟨l,x,e⟩:=λh'=>absurd h' h
def Q1(F:Nat)(s:Bs)(n:Nat):Prop:=∀(a:Nat)(p lv fr:Int),a<=Sx s->6*(Sx s-a)+6<=n->aB (RP s a p) ((dG F n).1 s (a:Int) p lv fr)
def Q2(F:Nat)(s:Bs)(n:Nat):Prop:=∀(a:Nat)(p lv:Int),a<Sx s->6*(Sx s-a)+5<=n->aB (RQ s a) ((dG F n).2.1 s (a:Int) p lv)
def Q3(F:Nat)(s:Bs)(n:Nat):Prop:=∀(a:Nat)(p lv:Int),a<Sx s->s.getD a 0=36->6*(Sx s-a)+4<=n->aB (RQ s a) ((dG F n).2.2.1 s (a:Int) p lv)
def Q4(F:Nat)(s:Bs)(n:Nat):Prop:=∀(a:Nat)(p lv:Int),a+1<Sx s->s.getD a 0=36->6*(Sx s-a)+3<=n->aB (RQ s a) ((dG F n).2.2.2.1 s (a:Int) p lv)
def Q5(F:Nat)(s:Bs)(n:Nat):Prop:=∀(a:Nat)(p lv:Int),a+1<Sx s->6*(Sx s-a)+2<=n->aB (RQ s a) ((dG F n).2.2.2.2.1 s (a:Int) p lv)
def Q6(F:Nat)(s:Bs)(n:Nat):Prop:=∀(a:Nat)(lv:Int),a<Sx s->6*(Sx s-a)+2<=n->aB (RQ s a) ((dG F n).2.2.2.2.2 s (a:Int) lv)
def vj(h:e≠0):aB (RQ s a) ((ey F x e).bind λy=>iN y):=aB.ok (RQ.err h)
theorem K1{e:Nat}{p:d6}(h1:a+1<=e)(h2:e<=Sx s)(h3:wP p<=2*(e-a)):aB (RQ s a) ((iH F p (e:Int)).bind λy=>iN y):=by simp_all[ahV,aB.ok,RQ.one]
theorem ahX(hF:4*Sx s+2000<F)(hl:Sx s<=800)(h2:Q2 F s n):Q1 F s (n+1):=by
 intro a p lv fr ha hn;show aB _ (OE F (dG F n) s (a:Int) p lv fr);refine aB.lp (λz:Int×J d6×Int=>∃m:Nat,z.1=(m:Int)/\a<=m/\m<=Sx s/\gv z.2.1<=2*(m-a)) (λz=>Sx s-z.1.toNat) ⟨a,rfl,om,ha,by simp[gv]⟩ (by grind) ?_;rintro⟨_,l,op⟩ ⟨m,rfl,g1,g2,g3⟩ rc hrc;dsimp only at g3 hrc⊢;refine aB.cd (λh=>?_) λh=>?_
 .have h:m<Sx s:=om;obtain⟨b,hb⟩:=atG F s m p op h;rw[hb,aC,bF om,aG,aC];refine aB.cb (λ_=>?_) λ_=>?_
  .refine aB.cb (λ_=>aB.ok (RP.err de)) λh4=>?_;have hp4:p=4->m+1<Sx s:=λe=>by grind
   refine aB.bd (P:=λ_=>True) ?_ λb _=>aB.cb (λ_=>aB.ok (RP.err de)) λ_=>aB.ok λ_=>⟨m,rfl,g1,g2,g3,λ_=>h,hp4⟩;cases e4:(p==4)with|false=>exact aB.ok trivial|true=>have:=hp4 (by simpa using e4);exact aB.rq (mL om om) (aB.ok trivial)
  .obtain⟨tb,htb⟩:=arA F s m p om om h;rw[htb];simp only[aC,aG];refine aB.cb (λ_=>aB.rq (o5 (by simp_all) de) (hrc _ ⟨m+1,rfl,om,om,?_⟩ ?_)) λ_=>?_
   .rw[Bh];simp only[gv,wT,H9];omega
   .grind
   rw[bX om om,bX om om];simp only[aC,aG];refine aB.bd (h2 m p lv h om) λr q=>LN (λh=>aB.ok λe=>absurd e h) λh0=>?_;obtain⟨e,e1,e2,e3,e4,e5⟩:=q h0;refine aB.lp (λz:J d6×Int=>∃k:Nat,z.2=(k:Int)/\k<=Sx r.fParts/\gv z.1<=gv l+gv (r.fParts.take k)) (λz=>Sx r.fParts-z.2.toNat) ⟨0,rfl,om,si⟩ (by grind) ?_;rintro⟨l',_⟩ ⟨k,rfl,k1,k2⟩ rc' vg;dsimp only at k2 vg⊢;have hwt:=M9 r.fParts k;have hlen':=LP l';refine aB.cd (λh=>?_) λh=>?_
   .have hk:k<Sx r.fParts:=om;have hwk:=VS hk;have hp:=LO (r.fParts.getD k mM);have hm:=agr hk;rw[bX om om,bF om,bX om om,bX om om];simp only[bN];refine aB.cb (λ_=>aB.bd (atI F l' _ om om) λu hu=>vg _ ⟨k+1,rfl,hk,by dsimp only;omega⟩ ?_) λ_=>aB.rq (o5 (by grind) de) (vg _ ⟨k+1,rfl,hk,?_⟩ ?_)
    .grind
    .rw[Bh];simp only[gv];omega
    grind
   .rw[e1];exact hrc _ ⟨e,rfl,om,e3,by dsimp only;omega⟩ (by grind)
 .rw[aG,aC];refine aB.cb (λhp=>aB.ok λ_=>⟨m,rfl,g1,g2,g3,λh=>?_,λh=>?_⟩) λ_=>aB.ok (RP.err de)
  .exfalso;rcases h with rfl|rfl|rfl|rfl<;>exact absurd hp de
  simp_all
theorem aj9(hF:4*Sx s+2000<F)(hl:Sx s<=800)(h3:Q3 F s n)(h6:Q6 F s n):Q2 F s (n+1):=by
 intro a p lv ha hn;show aB _ (Ik F (dG F n) s (a:Int) p lv);unfold Ik wx;rw[bX om om];refine aB.cb (λ_=>(apO F s a p om ha).so) λ_=>aB.cb (λh=>(arB F s a om hl ha ?_).so) λ_=>aB.cb (λh=>(h3 a p lv ha ?_ om).so) λ_=>?_
 .simp_all[bN,oP]
 .simp_all[bN,oP]
 obtain⟨ob,OD⟩:=ary F ((s.getD (eI (a:Int)) 0).toNat:Int);rw[ahW,aj7,OD];simp only[aC,aG];refine aB.cb (λ_=>(h6 a lv ha om).so) λ_=>aB.cb (λ_=>vj de) λ_=>aB.cb (λ_=>vj de) λ_=>?_;rw[bF om];have hs:=wV s a (a+1);exact aB.rq (LQ om om om) (K1 om om (by rw[wT];omega))
theorem afe(hF:4*Sx s+2000<F)(hl:Sx s<=800)(h4:Q4 F s n):Q3 F s (n+1):=by intro a p lv ha h36 hn;show aB _ (LR F (dG F n) s (a:Int) p lv);refine aB.bd (arx F s a om om ha) λb hb=>aB.cb (λh=>(h4 a p lv (hb.1 h).1 h36 om).so) λ_=>?_;rw[ahW,bF om];refine aB.bd (P:=λ_=>True) ?_ λ_ _=>aB.cb (λ_=>vj de) λ_=>K1 om om (by show 1+1<=_;omega);refine aB.cb (λ_=>?_) λ_=>aB.ok trivial;have hj:=(Yh F s (a+1) om om).tr;exact aB.cd (λh=>aB.rq (mL om om) (aB.cb (λ_=>aB.ok trivial) λ_=>hj.so)) λ_=>hj.so
theorem ahY(hF:4*Sx s+2000<F)(hl:Sx s<=800)(h1:Q1 F s n)(h5:Q5 F s n):Q4 F s (n+1):=by
 intro a p lv ha h36 hn;show aB _ (zH F (dG F n) s (a:Int) p lv);unfold zH wx;rw[bF om,bX om om,bQ om,show(a:Int)+2=((a+2:Nat):Int)from rfl];refine aB.cb (λ_=>(h5 a p lv ha om).so) λ_=>?_;rw[aG,aC];refine aB.bd (P:=λb=>b=eQ->a+2<Sx s) ?_ λb hb=>aB.cb (λh=>?_) λ_=>?_
 .refine aB.cb (λh=>?_) λ_=>aB.ok λh=>nomatch h
  rw[cF]at h;grind[aB.rq,mL,aB.ok]
 .have h2:=hb h;refine aB.cd (λ_=>vj de) λ_=>?_;rw[bQ om];refine aB.bd (h1 (a+3) 4 _ _ om om) λr q=>LN (λh=>aB.ok λe=>absurd e h) λh0=>?_;obtain⟨e,e1,e2,e3,e4,-,e6⟩:=q h0;rw[e1,bQ om,show(e:Int)+2=((e+2:Nat):Int)from rfl];exact K1 om om (by grind[wN,List.length_nil])
 .refine aB.cb (λo6=>?_) λ_=>?_
  .have o6:s.getD (a+1) 0=40:=by simp_all[bN,oP]
   obtain⟨q,hq⟩:=apQ F p;rw[hq,aC];refine aB.bd (M8 F s a q om om om) λr hr=>LN (λh=>aB.ok (RQ.err h)) λh0=>?_;obtain⟨e,e1,e2,e3⟩:=hr.2.2.2 h36 o6 h0;rw[e1,vi om om];have hs:=wV s (a+2) (e-1);grind[aB.rq,LQ,K1,wT]
  .obtain⟨b,hb⟩:=M7 F ((s.getD (eI ((a+1:Nat):Int)) 0).toNat:Int) om;rw[hb];have hs:=wV s (a+1) (a+2);refine aB.cb (λ_=>aB.rq (LQ om om om) (K1 om om (by rw[wT];omega))) λ_=>?_;refine aB.bd (ahS F s (a+1) om om om) λr ⟨e,e1,e2,e3⟩=>?_;rw[e1];have hs:=wV s (a+1) e;exact aB.cd (λ_=>vj de) λ_=>aB.rq (LQ om om om) (K1 om om (by rw[wT];omega))
theorem aff(hF:4*Sx s+2000<F)(hl:Sx s<=800)(h1:Q1 F s n):Q6 F s (n+1):=by
 intro a lv ha hn;show aB _ (DH F (dG F n) s (a:Int) lv);unfold DH wx;rw[bX om om,bF om];refine aB.cb (λh39=>?_) λ_=>aB.cd (λ_=>vj de) λ_=>?_
 .have h39:s.getD a 0=39:=by simp_all[bN,oP]
  refine aB.bd (M8 F s a 0 om om ha) λr hr=>LN (λh=>aB.ok (RQ.err h)) λh0=>?_;obtain⟨e,e1,e2,e3⟩:=hr.2.1 h39 rfl h0;rw[e1,vi om om];have hs:=wV s (a+1) (e-1);grind[aB.rq,LQ,K1,wT]
 .refine aB.bd (h1 (a+1) 2 _ _ om om) λr q=>LN (λh=>aB.ok λe=>absurd e h) λh0=>?_;obtain⟨e,e1,e2,e3,e4,e5,-⟩:=q h0;have:=e5 (.inr (.inl rfl));rw[e1,bF om];exact K1 om om (by grind[wN,List.length_nil])
theorem afg(hF:4*Sx s+2000<F)(hl:Sx s<=800)(h1:Q1 F s n):Q5 F s (n+1):=by
 intro a p lv ha hn;show aB _ (DI F (dG F n) s (a:Int) p lv);unfold DI wx;rw[bQ om,show(a:Int)+2=((a+2:Nat):Int)from rfl,bF om];refine aB.jj (P:=λx=>∀r,x=.inr r->RQ s a r) ?_ (λ_ _=>?_) λr h=>h r rfl
 .have ok:aB (λx:Unit ⊕ eO=>∀r,x=.inr r->RQ s a r) (iN (.inl ())):=aB.ok λr h=>nomatch h
  have er:∀ {x e:Int},e≠0->aB (λx:Unit ⊕ eO=>∀r,x=.inr r->RQ s a r) ((ey F x e).bind λy=>iN (.inr y)):=λh=>aB.ok λr e=>by cases e;exact RQ.err h
  refine aB.bd (P:=λb=>b=eQ->a+2<Sx s) (aB.cd (λh=>aB.rq (mL om om) (aB.ok λ_=>om)) λ_=>aB.ok λh=>nomatch h) λb hb=>aB.cb (λh=>?_) λ_=>ok;have h2:=hb h;refine aB.bd (aci F s (a+3) om om om) λr ⟨e,e1,e2,e3⟩=>?_;rw[e1];refine aB.cd (λ_=>er de) λ_=>?_;refine aB.bd (P:=λb=>b=eQ->a+3<e/\e<Sx s) ?_ λb hb=>?_
  .refine aB.cd (λh=>?_) λ_=>aB.ok λh=>nomatch h
   exact aB.ok λh'=>⟨om,by simp_all⟩
  refine aB.bd (P:=λb=>b=eQ->a+3<e/\e<Sx s) (aB.cb (λh=>aB.rq (mL om (by have:=hb h;omega)) (aB.ok λ_=>hb h)) λ_=>aB.ok λh=>nomatch h) λb hb=>aB.cb (λh=>?_) λ_=>?_
  .have:=hb h;have hs:=wV s (a+2+1) e;rw[bF om,ahV];exact aB.rq (LQ om om om) (aB.ok λr h=>by cases h;exact RQ.one om om (by rw[wT];omega))
  grind
 refine aB.bd (aci F s (a+2) om om om) λr ⟨e,e1,e2,e3⟩=>?_;rw[e1];refine aB.cd (λ_=>vj de) λ_=>?_;rw[aG,aC];refine aB.cb (λ_=>vj de) λhx=>?_;have he:e<Sx s:=by grind
 refine aB.cb (λ_=>vj de) λ_=>aB.rq (LQ om om om) (aB.rq (mL om om) (aB.cb (λ_=>?_) λ_=>?_))
 .rw[bF om];have hs:=wV s (a+2) e;exact K1 om om (by show wP (.mk 4 (sl s ((a+2:Nat):Int) (e:Int)) 0 eK [])<=_;rw[wT];omega)
 refine aB.bd (op8 F s e om he) λ⟨o1,o2,o3⟩ ho=>?_;by_cases VU:o1=0
 .subst VU;show aB _ (Option.bind _ _);rw[bX om om,aG,aC];refine aB.cb (λ_=>vj de) λ_=>aB.rq (mL om om) (aB.cb (λ_=>vj de) λ_=>aB.rq (mL om om) (aB.cb (λ_=>?_) λ_=>vj de));exact aB.bd (aci F s (a+3) om om om) λr _=>vj de
 .obtain⟨k,k1,k2,k3⟩:=ho VU;clear ho;subst k1;rw[show(o1==0)=eK from by simpa using VU,aI,bQ (x:=(e:Int)+(k:Int)) om];refine aB.cd (λ_=>vj de) λ_=>aB.bd (Yh F s (e+k) om om) λb _=>aB.cb (λ_=>vj de) λ_=>?_;obtain⟨q,hq,VV⟩:=apP F p;rw[VV,aC];refine aB.bd (h1 (e+k) q _ _ om om) λr hr=>LN (λh=>aB.ok λe=>absurd e h) λh0=>?_;obtain⟨f,f1,f2,f3,f4,f5,-⟩:=hr h0;have:=f5 (by unfold PL;omega);rw[f1,bF om];have hs:=wV s (a+2) e;exact K1 om om (by show wP (.mk 4 (sl s ((a+2:Nat):Int) (e:Int)) o1 o2 r.fParts)<=_;rw[wN];omega)
theorem ZV(hF:4*Sx s+2000<F)(hl:Sx s<=800):∀n,Q1 F s n/\Q2 F s n/\Q3 F s n/\Q4 F s n/\Q5 F s n/\Q6 F s n
 | 0=>⟨λ_ _ _ _ _ h=>om,λ_ _ _ _ h=>om,λ_ _ _ _ _ h=>om,λ_ _ _ _ _ h=>om,λ_ _ _ _ h=>om,λ_ _ _ h=>om⟩|n+1=>by obtain⟨h1,h2,h3,h4,h5,h6⟩:=ZV hF hl n;exact⟨ahX hF hl h2,aj9 hF hl h3 h6,afe hF hl h4,ahY hF hl h1 h5,afg hF hl h1,aff hF hl h1⟩
theorem arC(F:Nat)(s:Bs)(hF:8000<F)(hl:Sx s<=800):aB (λr=>gv r.1<=2*Sx s) (Eu F s):=by unfold Eu wx;rw[cf om];refine aB.bd ((ZV om hl F).1 0 0 1 0 om om) λr q=>LN (λh=>aB.ok (by simp[gv])) λh0=>?_;obtain⟨e,e1,e2,e3,e4,-⟩:=q h0;grind[aB.ok]
theorem GK(F:Nat)(s:Bs)(hF:40<F):aB (λb=>b=eQ->Sx s<=32) (fQ F s):=by
 unfold fQ wx;by_cases h:s=[]
 .simp_all[aB.ok]
 have:=AJ.2 h;rw[jP om,LM];simp only[aG,aC];by_cases h2:Sx s<=32
 .refine aB.cb (λ_=>aB.ok λh=>nomatch h) λ_=>?_;refine aB.lp (λi=>∃n:Nat,i=(n:Int)/\n<=Sx s) (λi=>Sx s-i.toNat) ⟨0,rfl,om⟩ (by grind) ?_;rintro _ ⟨n,rfl,hn⟩ rc hrc;refine aB.cd (λh=>?_) λ_=>aB.ok λ_=>h2;rw[bX om om,abU,bF om];exact aB.cb (λ_=>aB.ok λh=>nomatch h) λ_=>hrc _ ⟨n+1,rfl,om⟩ (by grind)
 grind[dT,aB.ok]
def jG(l:J bP)(n:Bs):bP×Bool:=(l.find? λv=>v.fName==n).elim (bP.mk [] [] eK eK eK,eK) λv=>(v,eQ)
theorem Ao(F:Nat)(l:J bP)(n:Bs)(hF:Sx l<F)(hl:Sx l<=1000):sV F l n=iN (jG l n):=by
 unfold sV wx;rw[oQ l (λi=>(i:Int)) (λv=>v.fName==n) (λi v=>iN (v,eQ)) (iN (bP.mk [] [] eK eK eK,eK)) (s:=(0:Int)) hF rfl (λi h rc=>?_) (λrc=>?_)]
 .rw[JQ];unfold jG;cases l.find? _<;>rfl
 .rw[b9 om,bX om om,bX om om,bN,gd h,bF om]
 .rw[cf om]
def GV(l:J bP):Prop:=Sx l<=128/\∀v∈l,Sx v.fName<=60/\v.cg.length<=4096
variable{l:J bP}
theorem SI(h:GV l)(n:Bs):(jG l n).1.fName.length<=60/\(jG l n).1.cg.length<=4096:=by unfold jG;cases e:l.find? λv=>v.fName==n with|none=>simp_all|some v=>exact h.2 v (VK e)
def ox(v:bP):J bP->Bool->J bP|[],d=>cond d [] [v]|x::l,d=>cond (!d && !(pD x.fName v.fName)) [v] []++(cond (x.fName==v.fName) [] [x]++ox v l (d || !(pD x.fName v.fName)))
theorem acj(v:bP):∀(l:J bP)(d:Bool),Sx (ox v l d)=(cond d 0 1)+Sx (l.filter λx=>!(x.fName==v.fName))
 | [],d=>by cases d<;>rfl
 | x::l,d=>by simp only[ox,ov,acj v l,abC];cases d<;>cases (x.fName==v.fName)<;>cases (pD x.fName v.fName)<;>simp<;>omega
theorem UH(v:bP):∀(l:J bP)(d:Bool),∀x∈ox v l d,x=v\/x∈l
 | [],d,x,h=>by cases d<;>simp[ox]at h;exact .inl h
 | y::l,d,x,h=>by
  simp[ox]at h;rcases h with h|h|h
  .revert h;cases (!d && !(pD y.fName v.fName))<;>simp;exact λh=>.inl h
  .revert h;cases (y.fName==v.fName)<;>simp;exact λh=>.inr (.inl h)
  .rcases UH v l _ x h with h|h
   .exact .inl h
   .exact .inr (nt _ h)
theorem SJ(F:Nat)(l:J bP)(v:bP)(hF:Sx l<F)(hl:Sx l<=1000):Bi F l v=iN (ox v l eK):=by
 have:aB (λr=>r=ox v l eK) (Bi F l v):=by
  unfold Bi wx;refine aB.lp (λz:J bP×Bool×Int=>∃k:Nat,z.2.2=(k:Int)/\k<=Sx l/\z.1.length<=2*k/\z.1++ox v (l.drop k) z.2.1=ox v l eK) (λz=>Sx l-z.2.2.toNat) ⟨0,rfl,om,si,si⟩ (by simp_all) ?_;rintro⟨o,d,_⟩ ⟨k,rfl,h1,h2,h3⟩ rc hrc;dsimp only at h2 h3 hrc⊢;refine aB.cd (λh=>?_) λh=>?_
  .have hk:k<Sx l:=om;rw[tu hk]at h3;simp only[ox]at h3;rw[bX om om,bF om,bN,gd hk];simp only[aG,aC,cF];have go:∀(o':J bP)(d':Bool),Sx o'<=2*k+1->o'++(cond (l[k].fName==v.fName) [] [l[k]]++ox v (l.drop (k+1)) d')=ox v l eK ->
     aB (λr=>r=ox v l eK) (cond (!(l[k].fName==v.fName)) (rq ((eJ (0<=(k:Int)))&&(eJ ((k:Int)<(Sx l:Int)))) (rq ((eJ (Sx o'+Sx ([l[k]]:J bP)<=9223372036854775807))&&(eJ ((Sx o'+Sx ([l[k]]:J bP))*40<=140737488355328))) (rc (o'++([l[k]]:J bP),d',((k+1:Nat):Int))))) (rc (o',d',((k+1:Nat):Int)))):=by
    intro o' d' ho he;have hm:Sx l-Int.toNat ((k+1:Nat):Int)<Sx l-Int.toNat (k:Int):=by grind
    cases e:(l[k].fName==v.fName)with|true=>grind|false=>grind[aB.rq,mL,o5]
   cases e:(!d && !(pD l[k].fName v.fName))with
   | true=>
    rw[e]at h3;rw[cH]at e;have hd:d=eK:=by simpa using e.1
    subst hd;rw[cond_true,cy (o5 (by grind) de),Option.bind_some];rw[e.2,Bool.or_true]at h3;grind[aB.rq,mL]
   | false=>
    rw[e]at h3;have hd:(d || !(pD l[k].fName v.fName))=d:=by
     cases d
     .simpa using e
     .rfl
    grind[aB.rq,mL]
  .obtain rfl:k=Sx l:=om;rw[MV]at h3;simp only[ox]at h3;grind[aB.ok,aB.rq,o5]
 obtain⟨r,h,e⟩:=this;rw[e,h]
theorem agt(h:GV l){v:bP}(hn:Sx v.fName<=60/\v.cg.length<=4096)(hc:(jG l v.fName).2=eQ\/Sx l<128):GV (ox v l eK):=by
 refine⟨?_,λx hx=>?_⟩
 .rw[acj];show 1+_<=_;have h1:(l.filter λx=>!(x.fName==v.fName)).length<=Sx l:=MY _ _;rcases hc with hc|hc
  .unfold jG at hc;cases e:l.find? λx=>x.fName==v.fName with
   | none=>simp_all|some y=>
    have:(l.filter λx=>!(x.fName==v.fName)).length<Sx l:=by grind[Nat.lt_or_ge,List.length_filter_eq_length_iff,Nat.le_antisymm]
    have:=h.1;omega
  .omega
 .rcases UH v l eK x hx with rfl|hx
  .exact hn
  .exact h.2 x hx
theorem atJ(F:Nat)(h:GV l)(n v:Bs)(hF:1000<F):aB (λr=>GV r.1) (uQ F l n v):=by have hl:=h.1;unfold uQ wx;rw[Ao F l n om om,aC];refine aB.bd (GK F n om) λb hb=>aB.cb (λ_=>aB.ok h) λhb'=>aB.cb (λ_=>aB.ok h) λ_=>aB.cd (λ_=>aB.ok h) λhv=>?_;grind[SJ,aB.ok,agt,of_decide_eq_false]
theorem arD(F:Nat)(h:GV l)(n:Bs)(a b:Bool)(hF:1000<F):aB (λr=>GV r.1) (sW F l n a b):=by have hl:=h.1;refine aB.bd (GK F n om) λb hb=>aB.cb (λ_=>aB.ok h) λhb'=>?_;rw[Ao F l n om om,aC,aG,aC];rw[aG,aC,aG,aC,SJ F l _ om om];grind[aB.ok,agt,SI,of_decide_eq_false]
theorem aka(F:Nat)(l:J Bs)(g:Bs)(hF:Sx l<F)(h1:Sx l<=100)(h2:∀x∈l,Sx x<=60)(hg:Sx g<=1):aB (λr=>Sx r<=61*Sx l) (vk F l g):=by refine aB.lp (λz=>∃k:Nat,z.2=(k:Int)/\k<=Sx l/\z.1.length<=61*k) (λz=>Sx l-z.2.toNat) ⟨0,rfl,om,si⟩ (by simp_all) ?_;rintro⟨o,_⟩ ⟨k,rfl,h3,h4⟩ rc hrc;dsimp only at h4 hrc⊢;refine aB.cd (λh=>?_) λ_=>aB.ok (by grind);have hk:k<Sx l:=om;refine aB.bd (P:=λu=>Sx u<=Sx o+1) (aB.cd (λ_=>aB.rq (eT om) (aB.ok (by simp_all))) λ_=>aB.ok om) λu hu=>?_;have hx:=h2 _ (fW hk);rw[bX om om,bN,gd hk,bF om];exact aB.rq (decide_eq_true om) (hrc _ ⟨k+1,rfl,hk,by grind⟩ (by grind))
theorem akb(F:Nat)(h:GV l)(hF:1000<F):aB (λr=>Sx r<=1) (vl F l):=by
 have hl:=h.1;unfold vl wx;rw[Ao F l _ om om];refine aB.cb (λ_=>aB.ok de) λ_=>?_;cases e:((jG l [73,70,83]).1.cg==[])with
 | true=>exact aB.ok (fF _)|false=>
  have:(jG l [73,70,83]).1.cg≠[]:=by simpa using e
  have:=AJ.2 this;exact aB.rq (eT om) (aB.ok (wV _ 0 1))
theorem apR(F:Nat)(o:Int)(hF:20<F):aB (λr=>Sx r<=8) (zO F o):=by refine aB.lp (λz=>∃k:Nat,z.2=(k:Int)/\k<=8/\z.1.length<=k) (λz=>8-z.2.toNat) ⟨0,rfl,om,si⟩ (by show 8-0<F;omega) ?_;rintro⟨u,_⟩ ⟨k,rfl,h3,h4⟩ rc hrc;dsimp only at h4 hrc⊢;have L1:([32,128,1,8,64,16,2,4]:J Int).length=8:=rfl;have L2:([97,67,101,102,109,110,117,120]:Bs).length=8:=rfl;refine aB.cd (λh=>?_) λ_=>aB.ok (by grind);rw[bX om om,bF om];have hs:=wV [97,67,101,102,109,110,117,120] k (k+1);have hm:8-Int.toNat ((k+1:Nat):Int)<8-Int.toNat (k:Int):=om;exact aB.cb (λ_=>aB.rq (LQ om om om) (aB.rq (decide_eq_true om) (hrc _ ⟨k+1,rfl,om,by grind⟩ hm))) λ_=>hrc _ ⟨k+1,rfl,om,by dsimp only;omega⟩ hm
