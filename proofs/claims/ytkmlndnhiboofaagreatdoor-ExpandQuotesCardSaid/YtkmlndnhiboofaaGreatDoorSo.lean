import Derived.Test.YtkmlndnhiboofaaGreatDoorRh
import Derived.Test.YtkmlndnhiboofaaGreatDoorRk
import Derived.Sort.Walk0
open Option renaming some->W0
open Bool renaming true->WF,false->UV
open Decidable renaming decide->T1
set_option linter.all false
namespace Go.RT
theorem bN{x:Int}(h:-9223372036854775808<=x/\x<=9223372036854775807):aC x=x:=IntWalk.i64_in _ om
variable{i:Nat}
theorem bz(h:i<9223372036854775807):aC ((i:Int)+1)=((i+1:Nat):Int):=by
 rw[bN om];omega
def iter{R:Type}(f:Nat->O R->O R)(z:O R):Nat->Nat->O R
 | 0,_=>z
 | k+1,i=>f i (iter f z k (i+1))
theorem UY{R:Type}{body:(Int->O R)->Int->O R}{n:Nat}{z:O R}{f:Nat->O R->O R}
  (hs:∀(i:Nat) rc,i<n->body rc (i:Int)=f i (rc ((i+1:Nat):Int))) (he:∀rc,body rc (n:Int)=z):∀(k i F:Nat),i+k=n->k<F->bW body F (i:Int)=iter f z k i
 | 0,i,F,h,hF=>by
  cases F with
  | zero=>omega
  | succ F=>
   have:i=n:=om;subst this
   exact he _
 | k+1,i,F,h,hF=>by
  cases F with
  | zero=>omega
  | succ F=>
   simp only[bW,iter];rw[hs i _ om,UY hs he k (i+1) F om om]
variable{R:Type}{n:Nat}{z:O R}{f:Nat->O R->O R}
theorem adr{body:(Int->O R)->Int->O R}
  (hs:∀(i:Nat) rc,i<n->body rc (i:Int)=f i (rc ((i+1:Nat):Int))) (he:∀rc,body rc (n:Int)=z) (F:Nat) (hF:n<F):bW body F 0=iter f z n 0:=
 UY hs he n 0 F om hF
def qq{α τ R:Type}(f:τ->α->O (τ ⊕ R))(fin:τ->O R):J α->τ->O R
 | [],t=>fin t
 | a::l,t=>(f t a).bind (sm (λt'=>qq f fin l t') λr=>W0 r)
theorem IG{α τ σ R:Type}{body:(σ->O R)->σ->O R}{l:J α}{st:Nat->τ->σ}{f:τ->α->O (τ ⊕ R)}{fin:τ->O R}
  (hs:∀(i:Nat)(h:i<l.length) t rc,body rc (st i t)=(f t l[i]).bind (sm (λt'=>rc (st (i+1) t')) λr=>W0 r))
  (he:∀t rc,body rc (st l.length t)=fin t):∀(k i F:Nat)(t:τ),i+k=l.length->k<F->bW body F (st i t)=qq f fin (l.drop i) t
 | 0,i,F,t,h,hF=>by
  cases F with
  | zero=>omega
  | succ F=>
   obtain rfl:i=l.length:=om;rw[KZ]
   exact he t _
 | k+1,i,F,t,h,hF=>by
  cases F with
  | zero=>omega
  | succ F=>
   rw[ua om];show body (bW body F) (st i t)=(f t l[i]).bind _;rw[hs i om];congr 1
   funext x
   cases x with
   | inl t'=>exact IG hs he k (i+1) F t' om om
   | inr r=>rfl
variable{α τ σ:Type}{F:Nat}{s:σ}{body:(σ->O R)->σ->O R}
theorem rI(l:J α)(st:Nat->τ->σ)(f:τ->α->O (τ ⊕ R))(fin:τ->O R){t:τ}
  (hF:l.length<F) (h0:s=st 0 t)
  (hs:∀(i:Nat)(h:i<l.length) t rc,body rc (st i t)=(f t l[i]).bind (sm (λt'=>rc (st (i+1) t')) λr=>W0 r))
  (he:∀t rc,body rc (st l.length t)=fin t):bW body F s=qq f fin l t:=by
 rw[h0,IG hs he l.length 0 F t om hF,PN]
theorem Kv{σ R:Type}{body:(σ->O R)->σ->O R}{z:O R}(st:Nat->σ){n:Nat}(hs:∀(i:Nat) rc,i<n->body rc (st i)=rc (st (i+1)))(he:∀rc,body rc (st n)=z):
  ∀(k i F:Nat),i+k=n->k<F->bW body F (st i)=z
 | 0,i,F,h,hF=>by
  cases F with
  | zero=>omega
  | succ F=>
   obtain rfl:i=n:=om
   exact he _
 | k+1,i,F,h,hF=>by
  cases F with
  | zero=>omega
  | succ F=>
   show body (bW body F) (st i)=z;rw[hs i _ om];exact Kv st hs he k (i+1) F om om
theorem OT(st:Nat->σ)(n:Nat)(hF:n<F)(h0:s=st 0)(hs:∀(i:Nat) rc,i<n->body rc (st i)=rc (st (i+1)))(he:∀rc,body rc (st n)=z):
  bW body F s=z:=by
 rw[h0];exact Kv st hs he n 0 F om hF
theorem CU{α β:Type}[BEq α][LawfulBEq α](k x:α)(v:β)(hx:(k==x)=UV):∀(m:J (α×β)),(m.map λp=>bif p.1==k then(k,v)else p).find? (λp=>p.1==x)=m.find? λp=>p.1==x
 | []=>rfl
 | p::m=>by
  simp only[jY,ND]
  cases hp:(p.1==k)with
  | true=>
   obtain rfl:=eq_of_beq hp;simp only[aY,hx]
   simp_all[CU]
  | false=>
   simp_all[aM,CU]
variable{β:Type}
theorem wS[BEq α][LawfulBEq α](m:J (α×β))(k x:α)(v z:β):fY cW (jN cW m k v) x z=cond (k==x) v (fY cW m x z):=by
 unfold fY jN cW
 cases h:m.any (λp=>p.1==k)with
 | true=>
  simp only[aY]
  cases hx:(k==x)with
  | true=>
   grind
  | false=>rw[CU k x v hx m];rfl
 | false=>
  grind
def bL(p:Nat->Nat->Prop):Prop:=∃N,∀F n,N<=F->N<=n->p F n
variable{p:Nat->Nat->Prop}
theorem bL.of(h:∀F n,p F n):bL p:=⟨0,λF n _ _=>h F n⟩
theorem bL.ge(k:Nat)(h:∀F n,k<=F->k<=n->p F n):bL p:=⟨k,h⟩
variable{q:Nat->Nat->Prop}
theorem bL.mono(h:bL p)(f:∀F n,p F n->q F n):bL q:=by
 obtain⟨N,h⟩:=h;exact⟨N,λF n a b=>f F n (h F n a b)⟩
theorem bL.and(h:bL p)(g:bL q):bL λF n=>p F n/\q F n:=by
 obtain⟨N,h⟩:=h;obtain⟨M,g⟩:=g;exact⟨N+M,λF n a b=>⟨h F n om om,g F n om om⟩⟩
variable{r:Nat->Nat->Prop}
theorem bL.kV(h:bL p)(g:bL q)(f:∀F n,p F n->q F n->r F n):bL r:=
 (h.and g).mono λF n x=>f F n x.1 x.2
theorem bL.CV{s:Nat->Nat->Prop}(h:bL p)(g:bL q)(k:bL r)(f:∀F n,p F n->q F n->r F n->s F n):bL s:=
 ((h.and g).and k).mono λF n x=>f F n x.1.1 x.1.2 x.2
theorem bL.succ{p:Nat->Nat->Prop}(h:bL λF n=>p F (n+1)):bL p:=by
 obtain⟨N,h⟩:=h;refine⟨N+1,λF n a b=>?_⟩
 cases n with
 | zero=>omega
 | succ n=>exact h F n om om
theorem bL.fst(h:bL p):bL λF _=>p F F:=by
 obtain⟨N,h⟩:=h;exact⟨N,λF n a b=>h F F a a⟩
theorem bL.all{α:Type}{p:α->Nat->Nat->Prop}:∀ {l:J α},(∀a,a∈l->bL (p a))->bL λF n=>∀a,a∈l->p a F n
 | [],_=>bL.of λF n a h=>by cases h
 | x::l,h=>(h x si).kV (bL.all λa ha=>h a (ku _ ha)) λF n h1 h2 a ha=>by
   grind
theorem yq{inst:Decidable ((i:Int)<(n:Int))}(h:i<n):@T1 ((i:Int)<(n:Int)) inst=WF:=ei om
theorem He{inst:Decidable ((n:Int)<(n:Int))}:@T1 ((n:Int)<(n:Int)) inst=UV:=uc om
theorem Cd{inst:Decidable (0<=(i:Int))}:@T1 (0<=(i:Int)) inst=WF:=ei om
theorem gd{l:J α}{d:α}(h:i<l.length):l.getD i d=l[i]:=by simp[h]
theorem gL(k:O R):rq WF k=k:=rfl
variable{k:O R}
theorem cq{c:Bool}(h:c=WF):rq c k=k:=by subst h;rfl
theorem Dm(l:J α)(st:Nat->τ->σ)(g:τ->α->τ)(Inv:Nat->τ->Prop){t:τ}
  (hF:l.length<F) (h0:s=st 0 t) (hI:Inv 0 t)
  (hs:∀(i:Nat)(h:i<l.length) t rc,Inv i t->body rc (st i t)=rc (st (i+1) (g t l[i])))
  (hi:∀(i:Nat)(h:i<l.length) t,Inv i t->Inv (i+1) (g t l[i]))
  (he:∀rc,Inv l.length (l.foldl g t)->body rc (st l.length (l.foldl g t))=z):bW body F s=z:=by
 subst h0
 have key:∀(k i F:Nat)(t':τ),Inv i t'->i+k=l.length->k<F->(l.drop i).foldl g t'=l.foldl g t->bW body F (st i t')=z:=by
  intro k
  induction k with
  | zero=>
   intro i F t' hI' h hF h2
   cases F with
   | zero=>omega
   | succ F=>
    obtain rfl:i=l.length:=om;rw[KZ]at h2;simp only[List.foldl_nil]at h2;subst h2
    exact he _ hI'
  | succ k ih=>
   intro i F t' hI' h hF h2
   cases F with
   | zero=>omega
   | succ F=>
    show body (bW body F) (st i t')=z;rw[hs i om t' _ hI'];rw[ua om]at h2;exact ih (i+1) F _ (hi i om t' hI') om om h2
 exact key l.length 0 F t hI om hF (by rw[PN])
theorem bL.up(h:bL p):bL λF n=>p F (n+1):=by
 obtain⟨N,h⟩:=h;exact⟨N,λF n a b=>h F (n+1) a om⟩
theorem pI{k:Nat}(h:n<=1000000000)(hk:k<=100000):(T1 (n<=9223372036854775807)&&T1 (n*k<=140737488355328))=WF:=by
 have:n*k<=1000000000*100000:=Nat.mul_le_mul h hk;rw[ei om,ei om];rfl
theorem ez{k:Nat}(h:n<=1000000000)(hk:k<=100000)(x:O R):rq (T1 (n<=9223372036854775807)&&T1 (n*k<=140737488355328)) x=x:=cq (pI h hk)
theorem ahG(h:n<=1000000000)(x:O R):rq (T1 (n<=9223372036854775807)) x=x:=cq (ei om)
theorem bR(h:i<n)(x:O R):rq (T1 (0<=(i:Int))&&T1 ((i:Int)<(n:Int))) x=x:=cq (by rw[ei om,ei om];rfl)
theorem aH(c:Bool)(x y:α):cond c (W0 x) (W0 y)=W0 (cond c x y):=by cases c<;>rfl
theorem cT(c b:Bool):cond c WF b=(c||b):=by cases c<;>rfl
theorem cF(c b:Bool):cond c b UV=(c&&b):=by cases c<;>rfl
theorem cI(c:Bool):cond c WF UV=c:=by cases c<;>rfl
theorem aqn(x:O α):(x.bind λy=>W0 y)=x:=by cases x<;>rfl
theorem pF(b:UInt8)(k:Nat)(hk:k<256):(((b.toNat:Int))==(no_index (OfNat.ofNat k:Int)))=(b==(OfNat.ofNat k:UInt8)):=by
 rw[qb];simp;constructor
 ·intro h
  have h':(b.toNat:Int)=(k:Int):=h;have h:b.toNat=k:=om;show b=UInt8.ofNat k;rw[<-h];simp
 ·intro h
  have h':=h;subst h';show(((UInt8.ofNat k).toNat:Nat):Int)=(k:Int);rw[UInt8.toNat_ofNat',Zd hk]
theorem Tx(b:UInt8)(k:Nat)(hk:k<256):(((b.toNat:Int)) != (no_index (OfNat.ofNat k:Int)))=!(b==(OfNat.ofNat k:UInt8)):=by
 rw[bne,pF b k hk]
theorem cy(h:i<9223372036854775807):aC ((i:Int)+1)=((i+1:Nat):Int):=bz h
theorem vm(h:i<9223372036854775807)(h0:0<i):aC ((i:Int)-1)=((i-1:Nat):Int):=by grind[bN]
theorem mW{p:Prop}{i:Decidable p}(h:p):rq (@T1 p i) k=k:=cq (ei h)
theorem bZ{p q:Prop}{i:Decidable p}{j:Decidable q}(h:p)(h':q):rq (@T1 p i && @T1 q j) k=k:=cq (by simp_all)
theorem vV{p q r:Prop}{i:Decidable p}{j:Decidable q}{l:Decidable r}(h:p)(h':q)(h2:r):rq (@T1 p i&&(@T1 q j && @T1 r l)) k=k:=cq (by simp_all)
theorem dT{p:Prop}{i:Decidable p}(h:p):@T1 p i=WF:=ei h
theorem dF{p:Prop}{i:Decidable p}(h:¬ p):@T1 p i=UV:=uc h
theorem cC{p:Prop}{i:Decidable p}{x y:α}(h:p):cond (@T1 p i) x y=x:=by simp_all
theorem cf{p:Prop}{i:Decidable p}{x y:α}(h:¬ p):cond (@T1 p i) x y=y:=by simp_all
def LN{α R:Type}(p:α->Bool)(r:Nat->α->O R)(fin:O R):J α->Nat->O R
 | [],_=>fin
 | a::l,i=>cond (p a) (r i a) (LN p r fin l (i+1))
theorem pJ(l:J α)(st:Nat->σ)(p:α->Bool)(r:Nat->α->O R)(fin:O R)
  (hF:l.length<F) (h0:s=st 0)
  (hs:∀(i:Nat)(h:i<l.length) rc,body rc (st i)=cond (p l[i]) (r i l[i]) (rc (st (i+1))))
  (he:∀rc,body rc (st l.length)=fin):bW body F s=LN p r fin l 0:=by
 have key:∀(k i F:Nat),i+k=l.length->k<F->bW body F (st i)=LN p r fin (l.drop i) i:=by
  intro k
  induction k with
  | zero=>
   intro i F h hF
   cases F with
   | zero=>omega
   | succ F=>
    obtain rfl:i=l.length:=om;rw[KZ]
    exact he _
  | succ k ih=>
   intro i F h hF
   cases F with
   | zero=>omega
   | succ F=>
    rw[ua om];show body (bW body F) (st i)=cond (p l[i]) (r i l[i]) _
    grind
 simp_all
theorem Cz{α R:Type}(p:α->Bool)(r fin:O R):∀(l:J α)(i:Nat),LN p (λ_ _=>r) fin l i=cond (l.any p) r fin
 | [],i=>rfl
 | a::l,i=>by
  simp[LN];rw[Cz p r fin l];cases p a<;>rfl
theorem NK{α R:Type}(p:α->Bool)(g:α->O R)(fin:O R):∀(l:J α)(i:Nat),LN p (λ_ a=>g a) fin l i=(l.find? p).elim fin g
 | [],i=>rfl
 | a::l,i=>by
  simp[LN,ND];rw[NK p g fin l];cases p a<;>rfl
theorem Sm{α R:Type}(p:α->Bool)(r:Nat->α->O R)(fin:O R)(d:α):∀(l:J α)(i:Nat),LN p r fin l i=(l.findIdx? p).elim fin λj=>r (i+j) (l.getD j d)
 | [],i=>rfl
 | a::l,i=>by
  simp[LN,Zt];rw[Sm p r fin d l]
  cases h:p a with
  | true=>simp
  | false=>
   cases l.findIdx? p with
   | none=>rfl
   | some j=>grind
theorem II(f:α->J β)(l:J α)(i:Nat)(h:i<l.length):(l.take (i+1)).flatMap f=(l.take i).flatMap f++f l[i]:=by
 grind[List.take_succ_eq_append_getElem]
theorem cG{σ R:Type}{body:(σ->O R)->σ->O R}{z:O R}(P:σ->Prop)(m:σ->Nat)
  (hs:∀s,P s->(∃s',P s'/\m s'<m s/\∀rc,body rc s=rc s')\/∀rc,body rc s=z):∀(F:Nat)(s:σ),P s->m s<F->bW body F s=z
 | 0,s,_,h=>by omega
 | F+1,s,hP,h=>by
  show body (bW body F) s=z;rcases hs s hP with⟨s',h1,h2,h3⟩|h3
  ·rw[h3];exact cG P m hs F s' h1 om
  ·exact h3 _
theorem Fk{σ R:Type}{body:(σ->O R)->σ->O R}(Q:R->Prop)(P:σ->Prop)(m:σ->Nat)
  (hs:∀s,P s->(∃s',P s'/\m s'<m s/\∀rc,body rc s=rc s')\/∃r,Q r/\∀rc,body rc s=W0 r):∀(F:Nat)(s:σ),P s->m s<F->∃r,Q r/\bW body F s=W0 r
 | 0,s,_,h=>by omega
 | F+1,s,hP,h=>by
  show ∃r,Q r/\body (bW body F) s=W0 r;rcases hs s hP with⟨s',h1,h2,h3⟩|⟨r,h1,h3⟩
  ·rw[h3];exact Fk Q P m hs F s' h1 om
  simp_all
end Go.RT
namespace Go.Proofs.YtkmlndnhiboofaaGreatDoor
open Go.RT
set_option maxRecDepth 100000
def aA{R:Type}(Q:R->Prop)(x:O R):Prop:=∃r,Q r/\x=W0 r
variable{R S σ:Type}{Q:R -> Prop}{x y:O R}{p:Prop}{i:Decidable p}
theorem aA.ok{r:R}(h:Q r):aA Q (W0 r):=⟨r,h,rfl⟩
theorem aA.mono{P:R->Prop}(h:aA P x)(f:∀r,P r->Q r):aA Q x:=by
 obtain⟨r,h,e⟩:=h;exact⟨r,f r h,e⟩
theorem aA.bd{x:O S}{f:S->O R}{P:S->Prop}(h:aA P x)(k:∀r,P r->aA Q (f r)):aA Q (x.bind f):=by
 obtain⟨r,h,rfl⟩:=h;exact k r h
theorem aA.rq{c:Bool}(h:c=WF)(k:aA Q x):aA Q (rq c x):=by subst h;exact k
theorem aA.cd(a:p->aA Q x)(b:¬p->aA Q y):aA Q (cond (@T1 p i) x y):=by
 by_cases h:p
 ·rw[cC h];exact a h
 ·rw[cf h];exact b h
theorem aA.cb{c:Bool}(a:c=WF->aA Q x)(b:c=UV->aA Q y):aA Q (cond c x y):=by
 cases c
 ·exact b rfl
 ·exact a rfl
theorem aA.lp{body:(σ->O R)->σ->O R}(P:σ->Prop)(m:σ->Nat){F:Nat}{s:σ}(h0:P s)(hF:m s<F)
  (hs:∀s,P s->∀rc,(∀s',P s'->m s'<m s->aA Q (rc s'))->aA Q (body rc s)):aA Q (bW body F s):=by
 induction F generalizing s with
 | zero=>omega
 | succ F ih=>exact hs s h0 (bW body F) λs' h1 h2=>ih h1 om
theorem aA.jj{X:O (σ ⊕ R)}{f:σ->O R}{P:σ ⊕ R->Prop}(h:aA P X)(k:∀s,P (.inl s)->aA Q (f s))(e:∀r,P (.inr r)->Q r):aA Q (jj X f):=by
 obtain⟨r,h,rfl⟩:=h
 cases r with
 | inl s=>exact k s h
 | inr r=>exact⟨r,e r h,rfl⟩
theorem aA.get(h:aA Q x):∃r,Q r/\x=W0 r:=h
theorem aA.tr(h:aA Q x):aA (λ_=>True) x:=h.mono λ_ _=>trivial
theorem lM{q:Prop}{j:Decidable q}(h:p)(h':q):(@T1 p i && @T1 q j)=WF:=by rw[ei h,ei h'];rfl
theorem Ka{q r:Prop}{j:Decidable q}{k:Decidable r}(h:p)(h':q)(h2:r):(@T1 p i&&(@T1 q j && @T1 r k))=WF:=by rw[ei h,ei h',ei h2];rfl
end Go.Proofs.YtkmlndnhiboofaaGreatDoor
namespace Go.RT
theorem get_at(l:J UInt8)(k:Nat):(ByteArray.mk ⟨l⟩).get! k=l.getD k 0:=by
 simp[ByteArray.get!,List.getD,getElem!_def];cases l[k]? <;> rfl
variable{l:J UInt8}
theorem Af{p:Nat}(h:(l.getD p 0).toNat<128):dec l p=((l.getD p 0).toNat,1):=by
 unfold dec Utf8.decode;simp only[get_at,Gm];rw[if_pos h]
theorem size_mk(l:J UInt8):(ByteArray.mk ⟨l⟩).size=l.length:=rfl
theorem ajN{p:Nat}(h:¬ (l.getD p 0).toNat<128):128<=(dec l p).1/\1<=(dec l p).2/\(p<l.length->p+(dec l p).2<=l.length)/\∀k,k<(dec l p).2->128<=(l.getD (p+k) 0).toNat:=by
 unfold dec Utf8.decode;simp only[get_at,Gm,size_mk];rw[if_neg h];split
 ·rename_i h1
  simp only[cH,p7,eT]at h1;split
  ·refine⟨by dsimp only;omega,by dsimp only;omega,λ_=>by dsimp only;omega,λk hk=>?_⟩
   have:k=0\/k=1:=by dsimp only at hk;omega
   rcases this with rfl|rfl
   ·rw[Gm];omega
   ·omega
  ·exact⟨by decide,by decide,λ_=>by dsimp only;omega,λk hk=>by(have e:k=0:=by dsimp only at hk;omega);subst e;rw[Nat.add_zero];omega⟩
 ·split
  ·rename_i h1
   simp only[cH,p7,eT]at h1;split
   ·rename_i h2
    simp only[cH,eT]at h2;refine⟨by dsimp only;omega,by dsimp only;omega,λ_=>by dsimp only;omega,λk hk=>?_⟩;have:k=0\/k=1\/k=2:=by dsimp only at hk;omega
    rcases this with rfl|rfl|rfl
    ·rw[Gm];omega
    ·omega
    ·omega
   ·exact⟨by decide,by decide,λ_=>by dsimp only;omega,λk hk=>by(have e:k=0:=by dsimp only at hk;omega);subst e;rw[Nat.add_zero];omega⟩
  ·split
   ·rename_i h1
    simp only[cH,p7,eT]at h1;split
    ·rename_i h2
     simp only[cH,eT]at h2;refine⟨by dsimp only;omega,by dsimp only;omega,λ_=>by dsimp only;omega,λk hk=>?_⟩;have:k=0\/k=1\/k=2\/k=3:=by dsimp only at hk;omega
     rcases this with rfl|rfl|rfl|rfl
     ·rw[Gm];omega
     ·omega
     ·omega
     ·omega
    ·exact⟨by decide,by decide,λ_=>by dsimp only;omega,λk hk=>by(have e:k=0:=by dsimp only at hk;omega);subst e;rw[Nat.add_zero];omega⟩
   ·exact⟨by decide,by decide,λ_=>by dsimp only;omega,λk hk=>by(have e:k=0:=by dsimp only at hk;omega);subst e;rw[Nat.add_zero];omega⟩
def SM(c:Nat):J UInt8:=
 if c<128 then [UInt8.ofNat c]
 else if c<2048 then [UInt8.ofNat (192+c / 64),UInt8.ofNat (128+c%64)]
 else if c<65536 then [UInt8.ofNat (224+c / 4096),UInt8.ofNat (128+c / 64%64),UInt8.ofNat (128+c%64)]
 else [UInt8.ofNat (240+c / 262144),UInt8.ofNat (128+c / 4096%64),UInt8.ofNat (128+c / 64%64),UInt8.ofNat (128+c%64)]
theorem agz(r:Int):mF r=SM (if Utf8.valid r=WF then r.toNat else Utf8.runeError):=by
 unfold mF Utf8.encode SM;generalize(if Utf8.valid r=WF then r.toNat else Utf8.runeError)=c;dsimp only;by_cases h1:c<128
 ·rw[if_pos h1,if_pos h1]
 ·rw[if_neg h1,if_neg h1]
  by_cases h2:c<2048
  ·rw[if_pos h2,if_pos h2]
  ·rw[if_neg h2,if_neg h2]
   by_cases h3:c<65536
   ·rw[if_pos h3,if_pos h3]
   ·rw[if_neg h3,if_neg h3]
theorem akM{c:Nat}(h:128<=c):2<=(SM c).length/\(SM c).length<=4/\128<=((SM c).getD ((SM c).length-1) 0).toNat:=by
 have hb:(UInt8.ofNat (128+c%64)).toNat=128+c%64:=by
  rw[UInt8.toNat_ofNat'];exact Zd om
 have h1:¬ c<128:=om;unfold SM;rw[if_neg h1];by_cases h2:c<2048
 ·rw[if_pos h2]
  refine⟨si,si,?_⟩;show 128<=(UInt8.ofNat (128+c%64)).toNat;omega
 ·rw[if_neg h2]
  by_cases h3:c<65536
  ·rw[if_pos h3]
   refine⟨si,si,?_⟩;show 128<=(UInt8.ofNat (128+c%64)).toNat;omega
  ·rw[if_neg h3]
   refine⟨si,si,?_⟩;show 128<=(UInt8.ofNat (128+c%64)).toNat;omega
theorem acI{r:Nat}(h:128<=r):2<=(mF (r:Int)).length/\(mF (r:Int)).length<=4/\128<=((mF (r:Int)).getD ((mF (r:Int)).length-1) 0).toNat:=by
 rw[agz];apply akM;by_cases hv:Utf8.valid (r:Int)=WF
 ·rw[if_pos hv];omega
 ·rw[if_neg hv,Utf8.runeError];omega
theorem K8(a b:J UInt8):Op.bytesLess a b=WF↔a<b:=by rw[Go.Proofs.bytesLess_eq];simp
theorem mw(a:J UInt8):¬ a<a:=List.lt_irrefl a
theorem rB{a b c:J UInt8}(h:a<b)(h':b<c):a<c:=List.lt_trans h h'
theorem UZ(a b:J UInt8):a<b\/a=b\/b<a:=by
 grind
theorem DG(a b:J UInt8):Op.bytesLess a b=UV↔¬ a<b:=by rw[<-K8];simp
theorem aqA(a b:J UInt8):(!(Op.bytesLess a b))=(Op.bytesLess b a||b==a):=by
 grind[UZ,K8,DG,mw,rB]
theorem Bx(l:J (J UInt8)):(sF l).Perm l:=Dl l
theorem ain{l:J (J UInt8)}(h:l.Nodup):(sF l).Pairwise (· < ·):=by
 have h1:=LM l;have h2:=(Bx l).nodup_iff.2 h;refine(h1.and h2).imp λ{a b} hab=>?_
 grind
theorem Wv{α:Type}{f:α->J UInt8}:∀ {a b:J α},a.Pairwise (λx y=>f x<f y)->b.Pairwise (λx y=>f x<f y)->(∀x,x∈a↔x∈b)->a=b
 | [],[],_,_,_=>rfl
 | [],y::b,_,_,h=>by have:=(h y).2 si;cases this
 | x::a,[],_,_,h=>by have:=(h x).1 si;cases this
 | x::a,y::b,ha,hb,h=>by
  rw[yE]at ha hb
  have hxy:x=y:=by
   grind
  subst hxy;rw[Wv ha.2 hb.2 λz=>?_]
  grind
variable{α β:Type}
theorem zG[BEq α][LawfulBEq α](m:J (α×β))(k:α)(v:β)(x:α):x∈(jN cW m k v).map (·.1)↔x=k\/x∈m.map (·.1):=by
 unfold jN cW
 grind
variable{m:J (α×β)}
theorem U0[BEq α][LawfulBEq α](hm:(m.map (·.1)).Nodup)(k:α)(v:β):((jN cW m k v).map (·.1)).Nodup:=by
 unfold jN cW
 grind
theorem akN[BEq α](m:J (α×β))(k:α)(v:β):(jN cW m k v).length<=m.length+1:=by
 grind[jN,cW]
theorem SN[BEq α]{k:α}{v:β}{p:α×β}(h:p∈jN cW m k v):p=(k,v)\/p∈m:=by
 unfold jN at h
 grind
theorem LO[BEq α][LawfulBEq α](m:J (α×β))(k:α)(z:β):(∃p,p∈m/\p.1=k/\p.2=fY cW m k z)\/(k∉m.map (·.1)/\fY cW m k z=z):=by
 unfold fY cW
 grind
end Go.RT
