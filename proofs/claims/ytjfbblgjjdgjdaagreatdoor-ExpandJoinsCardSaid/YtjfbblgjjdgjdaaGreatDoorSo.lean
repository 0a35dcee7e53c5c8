import Derived.Test.YtjfbblgjjdgjdaaGreatDoorRk
import Derived.Sort.Walk0
open Go.Op renaming bytesLess->pD
open UInt8 renaming ofNat->lL
open Option renaming some->iN
open Bool renaming true->hJ,false->eQ
open Decidable renaming decide->eK
open Nat renaming blt->dE
open List renaming length->Ts
set_option linter.all false
namespace Go.RT
theorem bL{x:Int}(h:-9223372036854775808<=x/\x<=9223372036854775807):aD x=x:=IntWalk.i64_in _ om
variable{i:Nat}
theorem bH(h:i<9223372036854775807):aD ((i:Int)+1)=((i+1:Nat):Int):=by rw[bL om];omega
def iter{R:Type}(f:Nat->O R->O R)(z:O R):Nat->Nat->O R|0,_=>z|k+1,i=>f i (iter f z k (i+1))
theorem Wy{R:Type}{body:(Int->O R)->Int->O R}{n:Nat}{z:O R}{f:Nat->O R->O R}
  (hs:∀(i:Nat) rc,i<n->body rc (i:Int)=f i (rc ((i+1:Nat):Int))) (he:∀rc,body rc (n:Int)=z):∀(k i F:Nat),i+k=n->k<F->bX body F (i:Int)=iter f z k i
 | 0,i,F,h,hF=>by cases F with|zero=>omega|succ F=>have:i=n:=om;subst this;exact he _
 | k+1,i,F,h,hF=>by cases F with|zero=>omega|succ F=>simp only[bX,iter];rw[hs i _ om,Wy hs he k (i+1) F om om]
variable{R:Type}{n:Nat}{z:O R}{f:Nat->O R->O R}
theorem aft{body:(Int->O R)->Int->O R}
  (hs:∀(i:Nat) rc,i<n->body rc (i:Int)=f i (rc ((i+1:Nat):Int))) (he:∀rc,body rc (n:Int)=z) (F:Nat) (hF:n<F):bX body F 0=iter f z n 0:=
 Wy hs he n 0 F om hF
def rz{α τ R:Type}(f:τ->α->O (τ ⊕ R))(fin:τ->O R):J α->τ->O R|[],t=>fin t|a::l,t=>(f t a).bind (sm (λt'=>rz f fin l t') λr=>iN r)
theorem JI{α τ σ R:Type}{body:(σ->O R)->σ->O R}{l:J α}{st:Nat->τ->σ}{f:τ->α->O (τ ⊕ R)}{fin:τ->O R}
  (hs:∀(i:Nat)(h:i<Ts l) t rc,body rc (st i t)=(f t l[i]).bind (sm (λt'=>rc (st (i+1) t')) λr=>iN r))
  (he:∀t rc,body rc (st l.length t)=fin t):∀(k i F:Nat)(t:τ),i+k=Ts l->k<F->bX body F (st i t)=rz f fin (l.drop i) t
 | 0,i,F,t,h,hF=>by
  cases F with
  | zero=>omega|succ F=>obtain rfl:i=Ts l:=om;rw[Ma];exact he t _
 | k+1,i,F,t,h,hF=>by
  cases F with
  | zero=>omega|succ F=>rw[sY om];show body (bX body F) (st i t)=(f t l[i]).bind _;rw[hs i om];congr 1;funext x;cases x with|inl t'=>exact JI hs he k (i+1) F t' om om|inr r=>rfl
variable{α τ σ:Type}{F:Nat}{s:σ}{body:(σ->O R)->σ->O R}
theorem sR(l:J α)(st:Nat->τ->σ)(f:τ->α->O (τ ⊕ R))(fin:τ->O R){t:τ}
  (hF:Ts l<F) (h0:s=st 0 t)
  (hs:∀(i:Nat)(h:i<Ts l) t rc,body rc (st i t)=(f t l[i]).bind (sm (λt'=>rc (st (i+1) t')) λr=>iN r))
  (he:∀t rc,body rc (st l.length t)=fin t):bX body F s=rz f fin l t:=by
 rw[h0,JI hs he l.length 0 F t om hF,TF]
theorem Lz{σ R:Type}{body:(σ->O R)->σ->O R}{z:O R}(st:Nat->σ){n:Nat}(hs:∀(i:Nat) rc,i<n->body rc (st i)=rc (st (i+1)))(he:∀rc,body rc (st n)=z):
  ∀(k i F:Nat),i+k=n->k<F->bX body F (st i)=z
 | 0,i,F,h,hF=>by
  cases F with
  | zero=>omega|succ F=>obtain rfl:i=n:=om;exact he _
 | k+1,i,F,h,hF=>by
  cases F with
  | zero=>omega|succ F=>show body (bX body F) (st i)=z;rw[hs i _ om];exact Lz st hs he k (i+1) F om om
theorem JJ(st:Nat->σ)(n:Nat)(hF:n<F)(h0:s=st 0)(hs:∀(i:Nat) rc,i<n->body rc (st i)=rc (st (i+1)))(he:∀rc,body rc (st n)=z):
  bX body F s=z:=by
 rw[h0];exact Lz st hs he n 0 F om hF
theorem DJ{α β:Type}[BEq α][LawfulBEq α](k x:α)(v:β)(hx:(k==x)=eQ):∀(m:J (α×β)),(m.map λp=>bif p.1==k then(k,v)else p).find? (λp=>p.1==x)=m.find? λp=>p.1==x
 | []=>rfl|p::m=>by
  simp only[jI,OQ];cases hp:(p.1==k)with
  | true=>obtain rfl:=eq_of_beq hp;simp only[aU,hx];simp_all[DJ]
  | false=>simp_all[aJ,DJ]
variable{β:Type}
theorem uB[BEq α][LawfulBEq α](m:J (α×β))(k x:α)(v z:β):fX dc (jM dc m k v) x z=cond (k==x) v (fX dc m x z):=by
 unfold fX jM dc;cases h:m.any (λp=>p.1==k)with
 | true=>simp only[aU];cases hx:(k==x)with|true=>grind|false=>rw[DJ k x v hx m];rfl
 | false=>grind
def bS(p:Nat->Nat->Prop):Prop:=∃N,∀F n,N<=F->N<=n->p F n
variable{p:Nat->Nat->Prop}
def bS.of(h:∀F n,p F n):bS p:=⟨0,λF n _ _=>h F n⟩
def bS.ge(k:Nat)(h:∀F n,k<=F->k<=n->p F n):bS p:=⟨k,h⟩
variable{q:Nat->Nat->Prop}
theorem bS.mono(h:bS p)(f:∀F n,p F n->q F n):bS q:=by obtain⟨N,h⟩:=h;exact⟨N,λF n a b=>f F n (h F n a b)⟩
theorem bS.and(h:bS p)(g:bS q):bS λF n=>p F n/\q F n:=by obtain⟨N,h⟩:=h;obtain⟨M,g⟩:=g;exact⟨N+M,λF n a b=>⟨h F n om om,g F n om om⟩⟩
variable{r:Nat->Nat->Prop}
def bS.mq(h:bS p)(g:bS q)(f:∀F n,p F n->q F n->r F n):bS r:=(h.and g).mono λF n x=>f F n x.1 x.2
def bS.DK{s:Nat->Nat->Prop}(h:bS p)(g:bS q)(k:bS r)(f:∀F n,p F n->q F n->r F n->s F n):bS s:=((h.and g).and k).mono λF n x=>f F n x.1.1 x.1.2 x.2
theorem bS.succ{p:Nat->Nat->Prop}(h:bS λF n=>p F (n+1)):bS p:=by obtain⟨N,h⟩:=h;refine⟨N+1,λF n a b=>?_⟩;cases n with|zero=>omega|succ n=>exact h F n om om
theorem bS.fst(h:bS p):bS λF _=>p F F:=by obtain⟨N,h⟩:=h;exact⟨N,λF n a b=>h F F a a⟩
theorem bS.all{α:Type}{p:α->Nat->Nat->Prop}:∀ {l:J α},(∀a,a∈l->bS (p a))->bS λF n=>∀a,a∈l->p a F n
 | [],_=>bS.of λF n a h=>by cases h
 | x::l,h=>(h x si).mq (bS.all λa ha=>h a (kV _ ha)) λF n h1 h2 a ha=>by grind
theorem yZ{inst:Decidable ((i:Int)<(n:Int))}(h:i<n):@eK ((i:Int)<(n:Int)) inst=hJ:=eN om
theorem Ij{inst:Decidable ((n:Int)<(n:Int))}:@eK ((n:Int)<(n:Int)) inst=eQ:=sZ om
theorem C3{inst:Decidable (0<=(i:Int))}:@eK (0<=(i:Int)) inst=hJ:=eN om
theorem gd{l:J α}{d:α}(h:i<Ts l):l.getD i d=l[i]:=by simp[h]
def ir(k:O R):rq hJ k=k:=rfl
variable{k:O R}
theorem cE{c:Bool}(h:c=hJ):rq c k=k:=by subst h;rfl
theorem Ek(l:J α)(st:Nat->τ->σ)(g:τ->α->τ)(Inv:Nat->τ->Prop){t:τ}
  (hF:Ts l<F) (h0:s=st 0 t) (hI:Inv 0 t)
  (hs:∀(i:Nat)(h:i<Ts l) t rc,Inv i t->body rc (st i t)=rc (st (i+1) (g t l[i])))
  (hi:∀(i:Nat)(h:i<Ts l) t,Inv i t->Inv (i+1) (g t l[i]))
  (he:∀rc,Inv l.length (l.foldl g t)->body rc (st l.length (l.foldl g t))=z):bX body F s=z:=by
 subst h0;have key:∀(k i F:Nat)(t':τ),Inv i t'->i+k=Ts l->k<F->(l.drop i).foldl g t'=l.foldl g t->bX body F (st i t')=z:=by
  intro k
  induction k with
  | zero=>
   intro i F t' hI' h hF h2;cases F with
   | zero=>omega|succ F=>obtain rfl:i=Ts l:=om;rw[Ma]at h2;simp only[List.foldl_nil]at h2;subst h2;exact he _ hI'
  | succ k ih=>
   intro i F t' hI' h hF h2;cases F with
   | zero=>omega|succ F=>show body (bX body F) (st i t')=z;rw[hs i om t' _ hI'];rw[sY om]at h2;exact ih (i+1) F _ (hi i om t' hI') om om h2
 exact key l.length 0 F t hI om hF (by rw[TF])
theorem bS.up(h:bS p):bS λF n=>p F (n+1):=by obtain⟨N,h⟩:=h;exact⟨N,λF n a b=>h F (n+1) a om⟩
theorem oV{k:Nat}(h:n<=1000000000)(hk:k<=100000):(eK (n<=9223372036854775807)&&eK (n*k<=140737488355328))=hJ:=by have:n*k<=1000000000*100000:=Nat.mul_le_mul h hk;rw[eN om,eN om];rfl
theorem dD{k:Nat}(h:n<=1000000000)(hk:k<=100000)(x:O R):rq (eK (n<=9223372036854775807)&&eK (n*k<=140737488355328)) x=x:=cE (oV h hk)
theorem ab3(h:n<=1000000000)(x:O R):rq (eK (n<=9223372036854775807)) x=x:=cE (eN om)
theorem bC(h:i<n)(x:O R):rq (eK (0<=(i:Int))&&eK ((i:Int)<(n:Int))) x=x:=cE (by rw[eN om,eN om];rfl)
theorem aH(c:Bool)(x y:α):cond c (iN x) (iN y)=iN (cond c x y):=by cases c<;>rfl
theorem cT(c b:Bool):cond c hJ b=(c||b):=by cases c<;>rfl
theorem cF(c b:Bool):cond c b eQ=(c&&b):=by cases c<;>rfl
theorem cI(c:Bool):cond c hJ eQ=c:=by cases c<;>rfl
theorem ati(x:O α):(x.bind λy=>iN y)=x:=by cases x<;>rfl
theorem qo(b:UInt8)(k:Nat)(hk:k<256):(((b.toNat:Int))==(no_index (OfNat.ofNat k:Int)))=(b==(OfNat.ofNat k:UInt8)):=by
 rw[tH];simp;constructor
 ·intro h;have h':(b.toNat:Int)=(k:Int):=h;have h:b.toNat=k:=om;show b=lL k;rw[<-h];simp
 ·intro h;have h':=h;subst h';show(((lL k).toNat:Nat):Int)=(k:Int);rw[UInt8.toNat_ofNat',agH hk]
theorem U9(b:UInt8)(k:Nat)(hk:k<256):(((b.toNat:Int)) != (no_index (OfNat.ofNat k:Int)))=!(b==(OfNat.ofNat k:UInt8)):=by rw[bne,qo b k hk]
theorem bW(h:i<9223372036854775807):aD ((i:Int)+1)=((i+1:Nat):Int):=bH h
theorem uQ(h:i<9223372036854775807)(h0:0<i):aD ((i:Int)-1)=((i-1:Nat):Int):=by grind[bL]
theorem kK{p:Prop}{i:Decidable p}(h:p):rq (@eK p i) k=k:=cE (eN h)
theorem ck{p q:Prop}{i:Decidable p}{j:Decidable q}(h:p)(h':q):rq (@eK p i && @eK q j) k=k:=cE (by simp_all)
theorem wA{p q r:Prop}{i:Decidable p}{j:Decidable q}{l:Decidable r}(h:p)(h':q)(h2:r):rq (@eK p i&&(@eK q j && @eK r l)) k=k:=cE (by simp_all)
theorem dT{p:Prop}{i:Decidable p}(h:p):@eK p i=hJ:=eN h
def dF{p:Prop}{i:Decidable p}(h:¬ p):@eK p i=eQ:=sZ h
theorem cq{p:Prop}{i:Decidable p}{x y:α}(h:p):cond (@eK p i) x y=x:=by simp_all
theorem cf{p:Prop}{i:Decidable p}{x y:α}(h:¬ p):cond (@eK p i) x y=y:=by simp_all
def atv(h:i<n):dE i n=hJ:=aaT h
theorem atu(h:¬ i<n):dE i n=eQ:=by cases e:dE i n with|false=>rfl|true=>exact absurd (lY e) h
def M9{α R:Type}(p:α->Bool)(r:Nat->α->O R)(fin:O R):J α->Nat->O R|[],_=>fin|a::l,i=>cond (p a) (r i a) (M9 p r fin l (i+1))
theorem oK(l:J α)(st:Nat->σ)(p:α->Bool)(r:Nat->α->O R)(fin:O R)
  (hF:Ts l<F) (h0:s=st 0)
  (hs:∀(i:Nat)(h:i<Ts l) rc,body rc (st i)=cond (p l[i]) (r i l[i]) (rc (st (i+1))))
  (he:∀rc,body rc (st l.length)=fin):bX body F s=M9 p r fin l 0:=by
 have key:∀(k i F:Nat),i+k=Ts l->k<F->bX body F (st i)=M9 p r fin (l.drop i) i:=by
  intro k
  induction k with
  | zero=>
   intro i F h hF;cases F with
   | zero=>omega|succ F=>obtain rfl:i=Ts l:=om;rw[Ma];exact he _
  | succ k ih=>
   intro i F h hF;cases F with
   | zero=>omega|succ F=>rw[sY om];show body (bX body F) (st i)=cond (p l[i]) (r i l[i]) _;grind
 simp_all
theorem Dq{α R:Type}(p:α->Bool)(r fin:O R):∀(l:J α)(i:Nat),M9 p (λ_ _=>r) fin l i=cond (l.any p) r fin
 | [],i=>rfl|a::l,i=>by simp[M9];rw[Dq p r fin l];cases p a<;>rfl
theorem Jj{α R:Type}(p:α->Bool)(g:α->O R)(fin:O R):∀(l:J α)(i:Nat),M9 p (λ_ a=>g a) fin l i=(l.find? p).elim fin g
 | [],i=>rfl|a::l,i=>by simp[M9,OQ];rw[Jj p g fin l];cases p a<;>rfl
theorem TX{α R:Type}(p:α->Bool)(r:Nat->α->O R)(fin:O R)(d:α):∀(l:J α)(i:Nat),M9 p r fin l i=(l.findIdx? p).elim fin λj=>r (i+j) (l.getD j d)
 | [],i=>rfl|a::l,i=>by
  simp[M9,aaU];rw[TX p r fin d l];cases h:p a with
  | true=>simp|false=>cases l.findIdx? p with|none=>rfl|some j=>grind
theorem Bb(f:α->J β)(l:J α)(i:Nat)(h:i<Ts l):(l.take (i+1)).flatMap f=(l.take i).flatMap f++f l[i]:=by grind[List.take_succ_eq_append_getElem]
theorem XF{α β:Type}(f:α->J β)(k:Nat)(hk:∀a,Ts (f a)<=k):∀(l:J α),Ts (l.flatMap f)<=k*Ts l|[]=>by simp|a::l=>by have:=XF f k hk l;have:=hk a;simp only[vZ,nX,qi,Nat.mul_add,Rc];omega
theorem ahy{β:Type}(l:J α)(st:Nat->J β->σ)(f:α->J β)
  (hF:Ts l<F) (h0:s=st 0 [])
  (hs:∀(i:Nat)(h:i<Ts l) rc (o:J β),o=(l.take i).flatMap f->body rc (st i o)=rc (st (i+1) (o++f l[i])))
  (he:∀rc,body rc (st l.length (l.flatMap f))=z):bX body F s=z:=by
 refine JJ (λi=>st i ((l.take i).flatMap f)) l.length hF (by simpa using h0) (λi rc h=>?_) (λrc=>?_)
 ·rw[hs i h rc _ rfl,Bb f l i h]
 ·rw[s7];exact he rc
theorem SZ{α β:Type}(p:α->Bool)(g:α->β):∀(l:J α),(l.flatMap λa=>cond (p a) [g a] [])=(l.filter p).map g
 | []=>rfl|a::l=>by rw[vZ,SZ p g l,List.filter_cons];cases p a<;>simp
theorem cy{σ R:Type}{body:(σ->O R)->σ->O R}{z:O R}(P:σ->Prop)(m:σ->Nat)
  (hs:∀s,P s->(∃s',P s'/\m s'<m s/\∀rc,body rc s=rc s')\/∀rc,body rc s=z):∀(F:Nat)(s:σ),P s->m s<F->bX body F s=z
 | 0,s,_,h=>by omega|F+1,s,hP,h=>by
  show body (bX body F) s=z;rcases hs s hP with⟨s',h1,h2,h3⟩|h3
  ·rw[h3];exact cy P m hs F s' h1 om
  ·exact h3 _
theorem BH{σ R:Type}{body:(σ->O R)->σ->O R}(Q:R->Prop)(P:σ->Prop)(m:σ->Nat)
  (hs:∀s,P s->(∃s',P s'/\m s'<m s/\∀rc,body rc s=rc s')\/∃r,Q r/\∀rc,body rc s=iN r):∀(F:Nat)(s:σ),P s->m s<F->∃r,Q r/\bX body F s=iN r
 | 0,s,_,h=>by omega|F+1,s,hP,h=>by
  show ∃r,Q r/\body (bX body F) s=iN r;rcases hs s hP with⟨s',h1,h2,h3⟩|⟨r,h1,h3⟩
  ·rw[h3];exact BH Q P m hs F s' h1 om
  simp_all
end Go.RT
namespace Go.Proofs.YtjfbblgjjdgjdaaGreatDoor
open Go.RT
set_option maxRecDepth 100000
def aA{R:Type}(Q:R->Prop)(x:O R):Prop:=∃r,Q r/\x=iN r
variable{R S σ:Type}{Q:R -> Prop}{x y:O R}{p:Prop}{i:Decidable p}
theorem aA.ok{r:R}(h:Q r):aA Q (iN r):=⟨r,h,rfl⟩
theorem aA.mono{P:R->Prop}(h:aA P x)(f:∀r,P r->Q r):aA Q x:=by obtain⟨r,h,e⟩:=h;exact⟨r,f r h,e⟩
theorem aA.bd{x:O S}{f:S->O R}{P:S->Prop}(h:aA P x)(k:∀r,P r->aA Q (f r)):aA Q (x.bind f):=by obtain⟨r,h,rfl⟩:=h;exact k r h
theorem aA.rq{c:Bool}(h:c=hJ)(k:aA Q x):aA Q (rq c x):=by subst h;exact k
theorem aA.cd(a:p->aA Q x)(b:¬p->aA Q y):aA Q (cond (@eK p i) x y):=by grind
theorem aA.cb{c:Bool}(a:c=hJ->aA Q x)(b:c=eQ->aA Q y):aA Q (cond c x y):=by grind
theorem aA.lp{body:(σ->O R)->σ->O R}(P:σ->Prop)(m:σ->Nat){F:Nat}{s:σ}(h0:P s)(hF:m s<F)
  (hs:∀s,P s->∀rc,(∀s',P s'->m s'<m s->aA Q (rc s'))->aA Q (body rc s)):aA Q (bX body F s):=by
 induction F generalizing s with|zero=>omega|succ F ih=>grind[bX]
theorem aA.jj{X:O (σ ⊕ R)}{f:σ->O R}{P:σ ⊕ R->Prop}(h:aA P X)(k:∀s,P (.inl s)->aA Q (f s))(e:∀r,P (.inr r)->Q r):aA Q (jj X f):=by obtain⟨r,h,rfl⟩:=h;cases r with|inl s=>exact k s h|inr r=>exact⟨r,e r h,rfl⟩
def aA.get(h:aA Q x):∃r,Q r/\x=iN r:=h
def aA.tr(h:aA Q x):aA (λ_=>True) x:=h.mono λ_ _=>trivial
theorem mM{q:Prop}{j:Decidable q}(h:p)(h':q):(@eK p i && @eK q j)=hJ:=by simp_all
theorem K8{q r:Prop}{j:Decidable q}{k:Decidable r}(h:p)(h':q)(h2:r):(@eK p i&&(@eK q j && @eK r k))=hJ:=by simp_all
end Go.Proofs.YtjfbblgjjdgjdaaGreatDoor
namespace Go.RT
theorem get_at(l:J UInt8)(k:Nat):(ByteArray.mk ⟨l⟩).get! k=l.getD k 0:=by simp[ByteArray.get!];cases l[k]? <;> rfl
variable{l:J UInt8}
theorem AR{p:Nat}(h:(l.getD p 0).toNat<128):dec l p=((l.getD p 0).toNat,1):=by unfold dec Utf8.decode;simp_all[get_at,OR,if_pos]
def size_mk(l:J UInt8):(ByteArray.mk ⟨l⟩).size=Ts l:=rfl
theorem amb{p:Nat}(h:¬ (l.getD p 0).toNat<128):128<=(dec l p).1/\1<=(dec l p).2/\(p<Ts l->p+(dec l p).2<=Ts l)/\∀k,k<(dec l p).2->128<=(l.getD (p+k) 0).toNat:=by
 unfold dec Utf8.decode;simp only[get_at,OR,size_mk];rw[if_neg h];split
 ·rename_i h1;split
  ·grind
  ·exact⟨by decide,by decide,λ_=>by dsimp only;omega,λk hk=>by simp_all⟩
 ·split
  ·rename_i h1;split
   ·grind
   ·exact⟨by decide,by decide,λ_=>by dsimp only;omega,λk hk=>by simp_all⟩
  ·split
   ·rename_i h1;split
    ·grind
    ·exact⟨by decide,by decide,λ_=>by dsimp only;omega,λk hk=>by simp_all⟩
   ·exact⟨by decide,by decide,λ_=>by dsimp only;omega,λk hk=>by simp_all⟩
def Ur(c:Nat):J UInt8:=
 if c<128 then [lL c]
 else if c<2048 then [lL (192+c / 64),lL (128+c%64)]
 else if c<65536 then [lL (224+c / 4096),lL (128+c / 64%64),lL (128+c%64)]
 else [lL (240+c / 262144),lL (128+c / 4096%64),lL (128+c / 64%64),lL (128+c%64)]
theorem aiP(r:Int):nL r=Ur (if Utf8.valid r=hJ then r.toNat else Utf8.runeError):=by unfold nL Utf8.encode Ur;grind
theorem ani{c:Nat}(h:128<=c):2<=Ts (Ur c)/\(Ur c).length<=4/\128<=((Ur c).getD (Ts (Ur c)-1) 0).toNat:=by
 have hb:(lL (128+c%64)).toNat=128+c%64:=by grind[UInt8.toNat_ofNat',Nat.mod_eq_of_lt]
 unfold Ur;grind
theorem aeL{r:Nat}(h:128<=r):2<=Ts (nL (r:Int))/\(nL (r:Int)).length<=4/\128<=((nL (r:Int)).getD (Ts (nL (r:Int))-1) 0).toNat:=by
 rw[aiP];apply ani;by_cases hv:Utf8.valid (r:Int)=hJ
 ·rw[if_pos hv];omega
 ·rw[if_neg hv,Utf8.runeError];omega
theorem Mw(a b:J UInt8):pD a b=hJ↔a<b:=by rw[Go.Proofs.bytesLess_eq];simp
theorem nD(a:J UInt8):¬ a<a:=List.lt_irrefl a
theorem sM{a b c:J UInt8}(h:a<b)(h':b<c):a<c:=List.lt_trans h h'
theorem Wz(a b:J UInt8):a<b\/a=b\/b<a:=by grind
theorem EH(a b:J UInt8):pD a b=eQ↔¬ a<b:=by rw[<-Mw];simp
theorem atz(a b:J UInt8):(!(pD a b))=(pD b a||b==a):=by grind[Wz,Mw,EH,nD,sM]
theorem uW(l:J (J UInt8)):(rS l).Perm l:=Ej l
theorem Ze{l:J (J UInt8)}(h:l.Nodup):(rS l).Pairwise (· < ·):=by have h1:=M8 l;have h2:=(uW l).nodup_iff.2 h;refine(h1.and h2).imp λ{a b} hab=>?_;grind
theorem RE{α:Type}{f:α->J UInt8}:∀ {a b:J α},a.Pairwise (λx y=>f x<f y)->b.Pairwise (λx y=>f x<f y)->(∀x,x∈a↔x∈b)->a=b
 | [],[],_,_,_=>rfl|[],y::b,_,_,h=>by have:=(h y).2 si;cases this
 | x::a,[],_,_,h=>by have:=(h x).1 si;cases this
 | x::a,y::b,ha,hb,h=>by
  rw[zg]at ha hb;have hxy:x=y:=by grind
  subst hxy;rw[RE ha.2 hb.2 λz=>?_];grind
variable{α β:Type}
theorem Ai[BEq α][LawfulBEq α](m:J (α×β))(k:α)(v:β)(x:α):x∈(jM dc m k v).map (·.1)↔x=k\/x∈m.map (·.1):=by unfold jM dc;grind
variable{m:J (α×β)}
theorem WA[BEq α][LawfulBEq α](hm:(m.map (·.1)).Nodup)(k:α)(v:β):((jM dc m k v).map (·.1)).Nodup:=by unfold jM dc;grind
theorem anj[BEq α](m:J (α×β))(k:α)(v:β):(jM dc m k v).length<=Ts m+1:=by grind[jM,dc]
theorem Us[BEq α]{k:α}{v:β}{p:α×β}(h:p∈jM dc m k v):p=(k,v)\/p∈m:=by unfold jM at h;grind
theorem Na[BEq α][LawfulBEq α](m:J (α×β))(k:α)(z:β):(∃p,p∈m/\p.1=k/\p.2=fX dc m k z)\/(k∉m.map (·.1)/\fX dc m k z=z):=by unfold fX dc;grind
