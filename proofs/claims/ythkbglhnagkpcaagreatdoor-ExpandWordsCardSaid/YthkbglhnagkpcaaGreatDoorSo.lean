import Derived.Test.YthkbglhnagkpcaaGreatDoorRk
import Derived.Sort.Walk0
open Go.Op renaming bytesLess->pD
open UInt8 renaming ofNat->lL
open Option renaming some->iN
open Bool renaming true->eQ,false->eK
open Decidable renaming decide->eJ
open Nat renaming blt->bY
open List renaming length->Sx
set_option linter.all false
namespace Go.RT
theorem bQ{x:Int}(h:-9223372036854775808<=x/\x<=9223372036854775807):aE x=x:=IntWalk.i64_in _ om
variable{i:Nat}
theorem bF(h:i<9223372036854775807):aE ((i:Int)+1)=((i+1:Nat):Int):=by rw[bQ om];omega
def iter{R:Type}(f:Nat->O R->O R)(z:O R):Nat->Nat->O R|0,_=>z|k+1,i=>f i (iter f z k (i+1))
theorem Xu{R:Type}{body:(Int->O R)->Int->O R}{n:Nat}{z:O R}{f:Nat->O R->O R}
  (hs:∀(i:Nat) rc,i<n->body rc (i:Int)=f i (rc ((i+1:Nat):Int))) (he:∀rc,body rc (n:Int)=z):∀(k i F:Nat),i+k=n->k<F->ck body F (i:Int)=iter f z k i
 | 0,i,F,h,hF=>by cases F with|zero=>omega|succ F=>have:i=n:=om;subst this;exact he _
 | k+1,i,F,h,hF=>by cases F with|zero=>omega|succ F=>simp only[ck,iter];rw[hs i _ om,Xu hs he k (i+1) F om om]
variable{R:Type}{n:Nat}{z:O R}{f:Nat->O R->O R}
theorem af3{body:(Int->O R)->Int->O R}
  (hs:∀(i:Nat) rc,i<n->body rc (i:Int)=f i (rc ((i+1:Nat):Int))) (he:∀rc,body rc (n:Int)=z) (F:Nat) (hF:n<F):ck body F 0=iter f z n 0:=
 Xu hs he n 0 F om hF
def rK{α τ R:Type}(f:τ->α->O (τ ⊕ R))(fin:τ->O R):J α->τ->O R|[],t=>fin t|a::l,t=>(f t a).bind (sm (λt'=>rK f fin l t') λr=>iN r)
theorem Kk{α τ σ R:Type}{body:(σ->O R)->σ->O R}{l:J α}{st:Nat->τ->σ}{f:τ->α->O (τ ⊕ R)}{fin:τ->O R}
  (hs:∀(i:Nat)(h:i<Sx l) t rc,body rc (st i t)=(f t l[i]).bind (sm (λt'=>rc (st (i+1) t')) λr=>iN r))
  (he:∀t rc,body rc (st l.length t)=fin t):∀(k i F:Nat)(t:τ),i+k=Sx l->k<F->ck body F (st i t)=rK f fin (l.drop i) t
 | 0,i,F,t,h,hF=>by
  cases F with
  | zero=>omega|succ F=>obtain rfl:i=Sx l:=om;rw[MV];exact he t _
 | k+1,i,F,t,h,hF=>by
  cases F with
  | zero=>omega|succ F=>rw[tu om];show body (ck body F) (st i t)=(f t l[i]).bind _;rw[hs i om];congr 1;funext x;cases x with|inl t'=>exact Kk hs he k (i+1) F t' om om|inr r=>rfl
variable{α τ σ:Type}{F:Nat}{s:σ}{body:(σ->O R)->σ->O R}
theorem tc(l:J α)(st:Nat->τ->σ)(f:τ->α->O (τ ⊕ R))(fin:τ->O R){t:τ}
  (hF:Sx l<F) (h0:s=st 0 t)
  (hs:∀(i:Nat)(h:i<Sx l) t rc,body rc (st i t)=(f t l[i]).bind (sm (λt'=>rc (st (i+1) t')) λr=>iN r))
  (he:∀t rc,body rc (st l.length t)=fin t):ck body F s=rK f fin l t:=by
 rw[h0,Kk hs he l.length 0 F t om hF,M3]
theorem Mf{σ R:Type}{body:(σ->O R)->σ->O R}{z:O R}(st:Nat->σ){n:Nat}(hs:∀(i:Nat) rc,i<n->body rc (st i)=rc (st (i+1)))(he:∀rc,body rc (st n)=z):
  ∀(k i F:Nat),i+k=n->k<F->ck body F (st i)=z
 | 0,i,F,h,hF=>by
  cases F with
  | zero=>omega|succ F=>obtain rfl:i=n:=om;exact he _
 | k+1,i,F,h,hF=>by
  cases F with
  | zero=>omega|succ F=>show body (ck body F) (st i)=z;rw[hs i _ om];exact Mf st hs he k (i+1) F om om
theorem Kl(st:Nat->σ)(n:Nat)(hF:n<F)(h0:s=st 0)(hs:∀(i:Nat) rc,i<n->body rc (st i)=rc (st (i+1)))(he:∀rc,body rc (st n)=z):
  ck body F s=z:=by
 rw[h0];exact Mf st hs he n 0 F om hF
theorem Ea{α β:Type}[BEq α][LawfulBEq α](k x:α)(v:β)(hx:(k==x)=eK):∀(m:J (α×β)),(m.map λp=>bif p.1==k then(k,v)else p).find? (λp=>p.1==x)=m.find? λp=>p.1==x
 | []=>rfl|p::m=>by
  simp only[jb,PM];cases hp:(p.1==k)with
  | true=>obtain rfl:=eq_of_beq hp;simp only[aQ,hx];simp_all[Ea]
  | false=>simp_all[aI,Ea]
variable{β:Type}
theorem uR[BEq α][LawfulBEq α](m:J (α×β))(k x:α)(v z:β):gp dc (jJ dc m k v) x z=cond (k==x) v (gp dc m x z):=by
 unfold gp jJ dc;cases h:m.any (λp=>p.1==k)with
 | true=>simp only[aQ];cases hx:(k==x)with|true=>grind|false=>rw[Ea k x v hx m];rfl
 | false=>grind
def bU(p:Nat->Nat->Prop):Prop:=∃N,∀F n,N<=F->N<=n->p F n
variable{p:Nat->Nat->Prop}
def bU.of(h:∀F n,p F n):bU p:=⟨0,λF n _ _=>h F n⟩
def bU.ge(k:Nat)(h:∀F n,k<=F->k<=n->p F n):bU p:=⟨k,h⟩
variable{q:Nat->Nat->Prop}
theorem bU.mono(h:bU p)(f:∀F n,p F n->q F n):bU q:=by obtain⟨N,h⟩:=h;exact⟨N,λF n a b=>f F n (h F n a b)⟩
theorem bU.and(h:bU p)(g:bU q):bU λF n=>p F n/\q F n:=by obtain⟨N,h⟩:=h;obtain⟨M,g⟩:=g;exact⟨N+M,λF n a b=>⟨h F n om om,g F n om om⟩⟩
variable{r:Nat->Nat->Prop}
def bU.mo(h:bU p)(g:bU q)(f:∀F n,p F n->q F n->r F n):bU r:=(h.and g).mono λF n x=>f F n x.1 x.2
def bU.Eb{s:Nat->Nat->Prop}(h:bU p)(g:bU q)(k:bU r)(f:∀F n,p F n->q F n->r F n->s F n):bU s:=((h.and g).and k).mono λF n x=>f F n x.1.1 x.1.2 x.2
theorem bU.succ{p:Nat->Nat->Prop}(h:bU λF n=>p F (n+1)):bU p:=by obtain⟨N,h⟩:=h;refine⟨N+1,λF n a b=>?_⟩;cases n with|zero=>omega|succ n=>exact h F n om om
theorem bU.fst(h:bU p):bU λF _=>p F F:=by obtain⟨N,h⟩:=h;exact⟨N,λF n a b=>h F F a a⟩
theorem bU.all{α:Type}{p:α->Nat->Nat->Prop}:∀ {l:J α},(∀a,a∈l->bU (p a))->bU λF n=>∀a,a∈l->p a F n
 | [],_=>bU.of λF n a h=>by cases h
 | x::l,h=>(h x si).mo (bU.all λa ha=>h a (nt _ ha)) λF n h1 h2 a ha=>by grind
theorem zw{inst:Decidable ((i:Int)<(n:Int))}(h:i<n):@eJ ((i:Int)<(n:Int)) inst=eQ:=eT om
theorem IQ{inst:Decidable ((n:Int)<(n:Int))}:@eJ ((n:Int)<(n:Int)) inst=eK:=vb om
theorem Dn{inst:Decidable (0<=(i:Int))}:@eJ (0<=(i:Int)) inst=eQ:=eT om
theorem gd{l:J α}{d:α}(h:i<Sx l):l.getD i d=l[i]:=by simp[h]
def iz(k:O R):rq eQ k=k:=rfl
variable{k:O R}
theorem cy{c:Bool}(h:c=eQ):rq c k=k:=by subst h;rfl
theorem EK(l:J α)(st:Nat->τ->σ)(g:τ->α->τ)(Inv:Nat->τ->Prop){t:τ}
  (hF:Sx l<F) (h0:s=st 0 t) (hI:Inv 0 t)
  (hs:∀(i:Nat)(h:i<Sx l) t rc,Inv i t->body rc (st i t)=rc (st (i+1) (g t l[i])))
  (hi:∀(i:Nat)(h:i<Sx l) t,Inv i t->Inv (i+1) (g t l[i]))
  (he:∀rc,Inv l.length (l.foldl g t)->body rc (st l.length (l.foldl g t))=z):ck body F s=z:=by
 subst h0;have key:∀(k i F:Nat)(t':τ),Inv i t'->i+k=Sx l->k<F->(l.drop i).foldl g t'=l.foldl g t->ck body F (st i t')=z:=by
  intro k
  induction k with
  | zero=>
   intro i F t' hI' h hF h2;cases F with
   | zero=>omega|succ F=>obtain rfl:i=Sx l:=om;rw[MV]at h2;simp only[List.foldl_nil]at h2;subst h2;exact he _ hI'
  | succ k ih=>
   intro i F t' hI' h hF h2;cases F with
   | zero=>omega|succ F=>show body (ck body F) (st i t')=z;rw[hs i om t' _ hI'];rw[tu om]at h2;exact ih (i+1) F _ (hi i om t' hI') om om h2
 exact key l.length 0 F t hI om hF (by rw[M3])
theorem bU.up(h:bU p):bU λF n=>p F (n+1):=by obtain⟨N,h⟩:=h;exact⟨N,λF n a b=>h F (n+1) a om⟩
theorem o5{k:Nat}(h:n<=1000000000)(hk:k<=100000):(eJ (n<=9223372036854775807)&&eJ (n*k<=140737488355328))=eQ:=by have:n*k<=1000000000*100000:=Nat.mul_le_mul h hk;rw[eT om,eT om];rfl
theorem dn{k:Nat}(h:n<=1000000000)(hk:k<=100000)(x:O R):rq (eJ (n<=9223372036854775807)&&eJ (n*k<=140737488355328)) x=x:=cy (o5 h hk)
theorem vU(h:n<=1000000000)(x:O R):rq (eJ (n<=9223372036854775807)) x=x:=cy (eT om)
theorem bp(h:i<n)(x:O R):rq (eJ (0<=(i:Int))&&eJ ((i:Int)<(n:Int))) x=x:=cy (by rw[eT om,eT om];rfl)
theorem aG(c:Bool)(x y:α):cond c (iN x) (iN y)=iN (cond c x y):=by cases c<;>rfl
theorem cT(c b:Bool):cond c eQ b=(c||b):=by cases c<;>rfl
theorem cF(c b:Bool):cond c b eK=(c&&b):=by cases c<;>rfl
theorem cI(c:Bool):cond c eQ eK=c:=by cases c<;>rfl
theorem atH(x:O α):(x.bind λy=>iN y)=x:=by cases x<;>rfl
theorem oP(b:UInt8)(k:Nat)(hk:k<256):(((b.toNat:Int))==(no_index (OfNat.ofNat k:Int)))=(b==(OfNat.ofNat k:UInt8)):=by
 rw[tW];simp;constructor
 .intro h;have h':(b.toNat:Int)=(k:Int):=h;have h:b.toNat=k:=om;show b=lL k;rw[<-h];simp
 .intro h;have h':=h;subst h';show(((lL k).toNat:Nat):Int)=(k:Int);rw[UInt8.toNat_ofNat',ahF hk]
theorem VR(b:UInt8)(k:Nat)(hk:k<256):(((b.toNat:Int)) != (no_index (OfNat.ofNat k:Int)))=!(b==(OfNat.ofNat k:UInt8)):=by rw[bne,oP b k hk]
theorem bM(h:i<9223372036854775807):aE ((i:Int)+1)=((i+1:Nat):Int):=bF h
theorem vi(h:i<9223372036854775807)(h0:0<i):aE ((i:Int)-1)=((i-1:Nat):Int):=by grind[bQ]
theorem jP{p:Prop}{i:Decidable p}(h:p):rq (@eJ p i) k=k:=cy (eT h)
theorem bX{p q:Prop}{i:Decidable p}{j:Decidable q}(h:p)(h':q):rq (@eJ p i && @eJ q j) k=k:=cy (by simp_all)
theorem vO{p q r:Prop}{i:Decidable p}{j:Decidable q}{l:Decidable r}(h:p)(h':q)(h2:r):rq (@eJ p i&&(@eJ q j && @eJ r l)) k=k:=cy (by simp_all)
theorem dT{p:Prop}{i:Decidable p}(h:p):@eJ p i=eQ:=eT h
def dF{p:Prop}{i:Decidable p}(h:¬ p):@eJ p i=eK:=vb h
theorem b9{p:Prop}{i:Decidable p}{x y:α}(h:p):cond (@eJ p i) x y=x:=by simp_all
theorem cf{p:Prop}{i:Decidable p}{x y:α}(h:¬ p):cond (@eJ p i) x y=y:=by simp_all
def atT(h:i<n):bY i n=eQ:=abr h
theorem atS(h:¬ i<n):bY i n=eK:=by cases e:bY i n with|false=>rfl|true=>exact absurd (lY e) h
def NW{α R:Type}(p:α->Bool)(r:Nat->α->O R)(fin:O R):J α->Nat->O R|[],_=>fin|a::l,i=>cond (p a) (r i a) (NW p r fin l (i+1))
theorem oQ(l:J α)(st:Nat->σ)(p:α->Bool)(r:Nat->α->O R)(fin:O R)
  (hF:Sx l<F) (h0:s=st 0)
  (hs:∀(i:Nat)(h:i<Sx l) rc,body rc (st i)=cond (p l[i]) (r i l[i]) (rc (st (i+1))))
  (he:∀rc,body rc (st l.length)=fin):ck body F s=NW p r fin l 0:=by
 have key:∀(k i F:Nat),i+k=Sx l->k<F->ck body F (st i)=NW p r fin (l.drop i) i:=by
  intro k
  induction k with
  | zero=>
   intro i F h hF;cases F with
   | zero=>omega|succ F=>obtain rfl:i=Sx l:=om;rw[MV];exact he _
  | succ k ih=>
   intro i F h hF;cases F with
   | zero=>omega|succ F=>rw[tu om];show body (ck body F) (st i)=cond (p l[i]) (r i l[i]) _;grind
 simp_all
theorem DP{α R:Type}(p:α->Bool)(r fin:O R):∀(l:J α)(i:Nat),NW p (λ_ _=>r) fin l i=cond (l.any p) r fin
 | [],i=>rfl|a::l,i=>by simp[NW];rw[DP p r fin l];cases p a<;>rfl
theorem JQ{α R:Type}(p:α->Bool)(g:α->O R)(fin:O R):∀(l:J α)(i:Nat),NW p (λ_ a=>g a) fin l i=(l.find? p).elim fin g
 | [],i=>rfl|a::l,i=>by simp[NW,PM];rw[JQ p g fin l];cases p a<;>rfl
theorem UN{α R:Type}(p:α->Bool)(r:Nat->α->O R)(fin:O R)(d:α):∀(l:J α)(i:Nat),NW p r fin l i=(l.findIdx? p).elim fin λj=>r (i+j) (l.getD j d)
 | [],i=>rfl|a::l,i=>by
  simp[NW,abp];rw[UN p r fin d l];cases h:p a with
  | true=>simp|false=>cases l.findIdx? p with|none=>rfl|some j=>grind
theorem uV(f:α->J β)(l:J α)(i:Nat)(h:i<Sx l):(l.take (i+1)).flatMap f=(l.take i).flatMap f++f l[i]:=by grind[List.take_succ_eq_append_getElem]
theorem Ys{α β:Type}(f:α->J β)(k:Nat)(hk:∀a,Sx (f a)<=k):∀(l:J α),Sx (l.flatMap f)<=k*Sx l|[]=>by simp|a::l=>by have:=Ys f k hk l;have:=hk a;simp only[q8,ov,sB,Nat.mul_add,Sp];omega
theorem V1{β:Type}(l:J α)(st:Nat->J β->σ)(f:α->J β)
  (hF:Sx l<F) (h0:s=st 0 [])
  (hs:∀(i:Nat)(h:i<Sx l) rc (o:J β),o=(l.take i).flatMap f->body rc (st i o)=rc (st (i+1) (o++f l[i])))
  (he:∀rc,body rc (st l.length (l.flatMap f))=z):ck body F s=z:=by
 refine Kl (λi=>st i ((l.take i).flatMap f)) l.length hF (by simpa using h0) (λi rc h=>?_) (λrc=>?_)
 .rw[hs i h rc _ rfl,uV f l i h]
 .rw[nW];exact he rc
theorem TW{α β:Type}(p:α->Bool)(g:α->β):∀(l:J α),(l.flatMap λa=>cond (p a) [g a] [])=(l.filter p).map g
 | []=>rfl|a::l=>by rw[q8,TW p g l,abC];cases p a<;>simp
theorem bW{σ R:Type}{body:(σ->O R)->σ->O R}{z:O R}(P:σ->Prop)(m:σ->Nat)
  (hs:∀s,P s->(∃s',P s'/\m s'<m s/\∀rc,body rc s=rc s')\/∀rc,body rc s=z):∀(F:Nat)(s:σ),P s->m s<F->ck body F s=z
 | 0,s,_,h=>by omega|F+1,s,hP,h=>by
  show body (ck body F) s=z;rcases hs s hP with⟨s',h1,h2,h3⟩|h3
  .rw[h3];exact bW P m hs F s' h1 om
  .exact h3 _
theorem yV{σ R:Type}{body:(σ->O R)->σ->O R}(Q:R->Prop)(P:σ->Prop)(m:σ->Nat)
  (hs:∀s,P s->(∃s',P s'/\m s'<m s/\∀rc,body rc s=rc s')\/∃r,Q r/\∀rc,body rc s=iN r):∀(F:Nat)(s:σ),P s->m s<F->∃r,Q r/\ck body F s=iN r
 | 0,s,_,h=>by omega|F+1,s,hP,h=>by
  show ∃r,Q r/\body (ck body F) s=iN r;rcases hs s hP with⟨s',h1,h2,h3⟩|⟨r,h1,h3⟩
  .rw[h3];exact yV Q P m hs F s' h1 om
  simp_all
end Go.RT
namespace Go.Proofs.YthkbglhnagkpcaaGreatDoor
open Go.RT
set_option maxRecDepth 100000
def aB{R:Type}(Q:R->Prop)(x:O R):Prop:=∃r,Q r/\x=iN r
variable{R S σ:Type}{Q:R -> Prop}{x y:O R}{p:Prop}{i:Decidable p}
theorem aB.ok{r:R}(h:Q r):aB Q (iN r):=⟨r,h,rfl⟩
theorem aB.mono{P:R->Prop}(h:aB P x)(f:∀r,P r->Q r):aB Q x:=by obtain⟨r,h,e⟩:=h;exact⟨r,f r h,e⟩
theorem aB.bd{x:O S}{f:S->O R}{P:S->Prop}(h:aB P x)(k:∀r,P r->aB Q (f r)):aB Q (x.bind f):=by obtain⟨r,h,rfl⟩:=h;exact k r h
theorem aB.rq{c:Bool}(h:c=eQ)(k:aB Q x):aB Q (rq c x):=by subst h;exact k
theorem aB.cd(a:p->aB Q x)(b:¬p->aB Q y):aB Q (cond (@eJ p i) x y):=by grind
theorem aB.cb{c:Bool}(a:c=eQ->aB Q x)(b:c=eK->aB Q y):aB Q (cond c x y):=by grind
theorem aB.lp{body:(σ->O R)->σ->O R}(P:σ->Prop)(m:σ->Nat){F:Nat}{s:σ}(h0:P s)(hF:m s<F)
  (hs:∀s,P s->∀rc,(∀s',P s'->m s'<m s->aB Q (rc s'))->aB Q (body rc s)):aB Q (ck body F s):=by
 induction F generalizing s with|zero=>omega|succ F ih=>grind[ck]
theorem aB.jj{X:O (σ ⊕ R)}{f:σ->O R}{P:σ ⊕ R->Prop}(h:aB P X)(k:∀s,P (.inl s)->aB Q (f s))(e:∀r,P (.inr r)->Q r):aB Q (jj X f):=by obtain⟨r,h,rfl⟩:=h;cases r with|inl s=>exact k s h|inr r=>exact⟨r,e r h,rfl⟩
def aB.get(h:aB Q x):∃r,Q r/\x=iN r:=h
def aB.tr(h:aB Q x):aB (λ_=>True) x:=h.mono λ_ _=>trivial
theorem mL{q:Prop}{j:Decidable q}(h:p)(h':q):(@eJ p i && @eJ q j)=eQ:=by simp_all
theorem LQ{q r:Prop}{j:Decidable q}{k:Decidable r}(h:p)(h':q)(h2:r):(@eJ p i&&(@eJ q j && @eJ r k))=eQ:=by simp_all
end Go.Proofs.YthkbglhnagkpcaaGreatDoor
namespace Go.RT
theorem get_at(l:J UInt8)(k:Nat):(ByteArray.mk ⟨l⟩).get! k=l.getD k 0:=by simp[ByteArray.get!];cases l[k]? <;> rfl
variable{l:J UInt8}
theorem Bj{p:Nat}(h:(l.getD p 0).toNat<128):dec l p=((l.getD p 0).toNat,1):=by unfold dec Utf8.decode;simp_all[get_at,PJ,if_pos]
def size_mk(l:J UInt8):(ByteArray.mk ⟨l⟩).size=Sx l:=rfl
theorem amI{p:Nat}(h:¬ (l.getD p 0).toNat<128):128<=(dec l p).1/\1<=(dec l p).2/\(p<Sx l->p+(dec l p).2<=Sx l)/\∀k,k<(dec l p).2->128<=(l.getD (p+k) 0).toNat:=by
 unfold dec Utf8.decode;simp only[get_at,PJ,size_mk];rw[if_neg h];split
 .rename_i h1;split
  .grind
  .exact⟨by decide,by decide,λ_=>by dsimp only;omega,λk hk=>by simp_all⟩
 .split
  .rename_i h1;split
   .grind
   .exact⟨by decide,by decide,λ_=>by dsimp only;omega,λk hk=>by simp_all⟩
  .split
   .rename_i h1;split
    .grind
    .exact⟨by decide,by decide,λ_=>by dsimp only;omega,λk hk=>by simp_all⟩
   .exact⟨by decide,by decide,λ_=>by dsimp only;omega,λk hk=>by simp_all⟩
def Vb(c:Nat):J UInt8:=
 if c<128 then [lL c]
 else if c<2048 then [lL (192+c / 64),lL (128+c%64)]
 else if c<65536 then [lL (224+c / 4096),lL (128+c / 64%64),lL (128+c%64)]
 else [lL (240+c / 262144),lL (128+c / 4096%64),lL (128+c / 64%64),lL (128+c%64)]
theorem ajm(r:Int):nM r=Vb (if Utf8.valid r=eQ then r.toNat else Utf8.runeError):=by unfold nM Utf8.encode Vb;grind
theorem anN{c:Nat}(h:128<=c):2<=Sx (Vb c)/\(Vb c).length<=4/\128<=((Vb c).getD (Sx (Vb c)-1) 0).toNat:=by
 have hb:(lL (128+c%64)).toNat=128+c%64:=by grind[UInt8.toNat_ofNat',Nat.mod_eq_of_lt]
 unfold Vb;grind
theorem afm{r:Nat}(h:128<=r):2<=Sx (nM (r:Int))/\(nM (r:Int)).length<=4/\128<=((nM (r:Int)).getD (Sx (nM (r:Int))-1) 0).toNat:=by
 rw[ajm];apply anN;by_cases hv:Utf8.valid (r:Int)=eQ
 .rw[if_pos hv];omega
 .rw[if_neg hv,Utf8.runeError];omega
theorem JY(a b:J UInt8):pD a b=eQ↔a<b:=by rw[Go.Proofs.bytesLess_eq];simp
theorem nF(a:J UInt8):¬ a<a:=List.lt_irrefl a
theorem o8{a b c:J UInt8}(h:a<b)(h':b<c):a<c:=List.lt_trans h h'
theorem Rj(a b:J UInt8):a<b\/a=b\/b<a:=by grind
theorem B6(a b:J UInt8):pD a b=eK↔¬ a<b:=by rw[<-JY];simp
theorem atX(a b:J UInt8):(!(pD a b))=(pD b a||b==a):=by grind[Rj,JY,B6,nF,o8]
theorem sY(l:J (J UInt8)):(pK l).Perm l:=EJ l
theorem Qh{l:J (J UInt8)}(h:l.Nodup):(pK l).Pairwise (· < ·):=by have h1:=NV l;have h2:=(sY l).nodup_iff.2 h;refine(h1.and h2).imp λ{a b} hab=>?_;grind
theorem LX{α:Type}{f:α->J UInt8}:∀ {a b:J α},a.Pairwise (λx y=>f x<f y)->b.Pairwise (λx y=>f x<f y)->(∀x,x∈a↔x∈b)->a=b
 | [],[],_,_,_=>rfl|[],y::b,_,_,h=>by have:=(h y).2 si;cases this
 | x::a,[],_,_,h=>by have:=(h x).1 si;cases this
 | x::a,y::b,ha,hb,h=>by
  rw[xw]at ha hb;have hxy:x=y:=by grind
  subst hxy;rw[LX ha.2 hb.2 λz=>?_];grind
variable{α β:Type}
theorem Aw[BEq α][LawfulBEq α](m:J (α×β))(k:α)(v:β)(x:α):x∈(jJ dc m k v).map (·.1)↔x=k\/x∈m.map (·.1):=by unfold jJ dc;grind
variable{m:J (α×β)}
theorem Xv[BEq α][LawfulBEq α](hm:(m.map (·.1)).Nodup)(k:α)(v:β):((jJ dc m k v).map (·.1)).Nodup:=by unfold jJ dc;grind
theorem anO[BEq α](m:J (α×β))(k:α)(v:β):(jJ dc m k v).length<=Sx m+1:=by grind[jJ,dc]
theorem Vc[BEq α]{k:α}{v:β}{p:α×β}(h:p∈jJ dc m k v):p=(k,v)\/p∈m:=by unfold jJ at h;grind
theorem NX[BEq α][LawfulBEq α](m:J (α×β))(k:α)(z:β):(∃p,p∈m/\p.1=k/\p.2=gp dc m k z)\/(k∉m.map (·.1)/\gp dc m k z=z):=by unfold gp dc;grind
