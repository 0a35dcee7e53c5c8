import Derived.Test.YtpgbhdldcmcenaaGreatDoorRh
import Derived.Test.YtpgbhdldcmcenaaGreatDoorRk
import Derived.Sort.Walk0
set_option linter.all false
namespace Go.RT
theorem bN{x:Int}(h:-9223372036854775808<=x/\x<=9223372036854775807):aB x=x:=IntWalk.i64_in _ om
variable{i:Nat}
theorem bx(h:i<9223372036854775807):aB ((i:Int)+1)=((i+1:Nat):Int):=by
 rw [bN om];omega
def iter{R:Type}(f:Nat->O R->O R)(z:O R):Nat->Nat->O R
 | 0,_=>z
 | k+1,i=>f i (iter f z k (i+1))
theorem Uf{R:Type}{body:(Int->O R)->Int->O R}{n:Nat}{z:O R}{f:Nat->O R->O R}
  (hs:∀(i:Nat) rc,i<n->body rc (i:Int)=f i (rc ((i+1:Nat):Int))) (he:∀rc,body rc (n:Int)=z):∀(k i F:Nat),i+k=n->k<F->b8 body F (i:Int)=iter f z k i
 | 0,i,F,h,hF=>by
  cases F with
  | zero=>omega
  | succ F=>
   have:i=n:=om;subst this
   exact he _
 | k+1,i,F,h,hF=>by
  cases F with
  | zero=>omega
  | succ F=>
   simp only [b8,iter];rw [hs i _ om,Uf hs he k (i+1) F om om]
variable{R:Type}{n:Nat}{z:O R}{f:Nat->O R->O R}
theorem acK{body:(Int->O R)->Int->O R}
  (hs:∀(i:Nat) rc,i<n->body rc (i:Int)=f i (rc ((i+1:Nat):Int))) (he:∀rc,body rc (n:Int)=z) (F:Nat) (hF:n<F):b8 body F 0=iter f z n 0:=
 Uf hs he n 0 F om hF
def qg{α τ R:Type}(f:τ->α->O (τ ⊕ R))(fin:τ->O R):J α->τ->O R
 | [],t=>fin t
 | a::l,t=>(f t a).bind (sm (fun t'=>qg f fin l t') fun r=>some r)
theorem Ik{α τ σ R:Type}{body:(σ->O R)->σ->O R}{l:J α}{st:Nat->τ->σ}{f:τ->α->O (τ ⊕ R)}{fin:τ->O R}
  (hs:∀(i:Nat)(h:i<l.length) t rc,body rc (st i t)=(f t l[i]).bind (sm (fun t'=>rc (st (i+1) t')) fun r=>some r))
  (he:∀t rc,body rc (st l.length t)=fin t):∀(k i F:Nat)(t:τ),i+k=l.length->k<F->b8 body F (st i t)=qg f fin (l.drop i) t
 | 0,i,F,t,h,hF=>by
  cases F with
  | zero=>omega
  | succ F=>
   obtain rfl:i=l.length:=om;rw [M6]
   exact he t _
 | k+1,i,F,t,h,hF=>by
  cases F with
  | zero=>omega
  | succ F=>
   rw [vo om];show body (b8 body F) (st i t)=(f t l[i]).bind _;rw [hs i om];congr 1
   funext x
   cases x with
   | inl t'=>exact Ik hs he k (i+1) F t' om om
   | inr r=>rfl
variable{α τ σ:Type}{F:Nat}{s:σ}{body:(σ->O R)->σ->O R}
theorem ri(l:J α)(st:Nat->τ->σ)(f:τ->α->O (τ ⊕ R))(fin:τ->O R){t:τ}
  (hF:l.length<F) (h0:s=st 0 t)
  (hs:∀(i:Nat)(h:i<l.length) t rc,body rc (st i t)=(f t l[i]).bind (sm (fun t'=>rc (st (i+1) t')) fun r=>some r))
  (he:∀t rc,body rc (st l.length t)=fin t):b8 body F s=qg f fin l t:=by
 rw [h0,Ik hs he l.length 0 F t om hF,UW]
theorem Kg{σ R:Type}{body:(σ->O R)->σ->O R}{z:O R}(st:Nat->σ){n:Nat}(hs:∀(i:Nat) rc,i<n->body rc (st i)=rc (st (i+1)))(he:∀rc,body rc (st n)=z):
  ∀(k i F:Nat),i+k=n->k<F->b8 body F (st i)=z
 | 0,i,F,h,hF=>by
  cases F with
  | zero=>omega
  | succ F=>
   obtain rfl:i=n:=om
   exact he _
 | k+1,i,F,h,hF=>by
  cases F with
  | zero=>omega
  | succ F=>
   show body (b8 body F) (st i)=z;rw [hs i _ om];exact Kg st hs he k (i+1) F om om
theorem Ox(st:Nat->σ)(n:Nat)(hF:n<F)(h0:s=st 0)(hs:∀(i:Nat) rc,i<n->body rc (st i)=rc (st (i+1)))(he:∀rc,body rc (st n)=z):
  b8 body F s=z:=by
 rw [h0];exact Kg st hs he n 0 F om hF
theorem CC{α β:Type}[BEq α][LawfulBEq α](k x:α)(v:β)(hx:(k==x)=false):∀(m:J (α×β)),(m.map fun p=>bif p.1==k then (k,v) else p).find? (fun p=>p.1==x)=m.find? fun p=>p.1==x
 | []=>rfl
 | p::m=>by
  simp only [jU,M7]
  cases hp:(p.1==k) with
  | true=>
   obtain rfl:=eq_of_beq hp;simp only [aZ,hx]
   simp_all [CC]
  | false=>
   simp_all [aK,CC]
variable{β:Type}
theorem v8[BEq α][LawfulBEq α](m:J (α×β))(k x:α)(v z:β):fZ cV (jI cV m k v) x z=cond (k==x) v (fZ cV m x z):=by
 unfold fZ jI cV
 cases h:m.any (fun p=>p.1==k) with
 | true=>
  simp only [aZ]
  cases hx:(k==x) with
  | true=>
   grind
  | false=>rw [CC k x v hx m];rfl
 | false=>
  grind
def bL(p:Nat->Nat->Prop):Prop:=∃N,∀F n,N<=F->N<=n->p F n
variable{p:Nat->Nat->Prop}
theorem bL.of(h:∀F n,p F n):bL p:=⟨0,fun F n _ _=>h F n⟩
theorem bL.ge(k:Nat)(h:∀F n,k<=F->k<=n->p F n):bL p:=⟨k,h⟩
variable{q:Nat->Nat->Prop}
theorem bL.mono(h:bL p)(f:∀F n,p F n->q F n):bL q:=by
 obtain⟨N,h⟩:=h;exact⟨N,fun F n a b=>f F n (h F n a b)⟩
theorem bL.and(h:bL p)(g:bL q):bL fun F n=>p F n/\q F n:=by
 obtain⟨N,h⟩:=h;obtain⟨M,g⟩:=g;exact⟨N+M,fun F n a b=>⟨h F n om om,g F n om om⟩⟩
variable{r:Nat->Nat->Prop}
theorem bL.kS(h:bL p)(g:bL q)(f:∀F n,p F n->q F n->r F n):bL r:=
 (h.and g).mono fun F n x=>f F n x.1 x.2
theorem bL.CD{s:Nat->Nat->Prop}(h:bL p)(g:bL q)(k:bL r)(f:∀F n,p F n->q F n->r F n->s F n):bL s:=
 ((h.and g).and k).mono fun F n x=>f F n x.1.1 x.1.2 x.2
theorem bL.succ{p:Nat->Nat->Prop}(h:bL fun F n=>p F (n+1)):bL p:=by
 obtain⟨N,h⟩:=h;refine⟨N+1,fun F n a b=>?_⟩
 cases n with
 | zero=>omega
 | succ n=>exact h F n om om
theorem bL.fst(h:bL p):bL fun F _=>p F F:=by
 obtain⟨N,h⟩:=h;exact⟨N,fun F n a b=>h F F a a⟩
theorem bL.all{α:Type}{p:α->Nat->Nat->Prop}:∀ {l:J α},(∀a,a∈l->bL (p a))->bL fun F n=>∀a,a∈l->p a F n
 | [],_=>bL.of fun F n a h=>by cases h
 | x::l,h=>(h x si).kS (bL.all fun a ha=>h a (kf _ ha)) fun F n h1 h2 a ha=>by
   grind
theorem xU{inst:Decidable ((i:Int)<(n:Int))}(h:i<n):@decide ((i:Int)<(n:Int)) inst=true:=dW om
theorem GM{inst:Decidable ((n:Int)<(n:Int))}:@decide ((n:Int)<(n:Int)) inst=false:=tK om
theorem B0{inst:Decidable (0<=(i:Int))}:@decide (0<=(i:Int)) inst=true:=dW om
theorem gd{l:J α}{d:α}(h:i<l.length):l.getD i d=l[i]:=by simp [h]
theorem gJ(k:O R):rq true k=k:=rfl
variable{k:O R}
theorem cC{c:Bool}(h:c=true):rq c k=k:=by subst h;rfl
theorem C6(l:J α)(st:Nat->τ->σ)(g:τ->α->τ)(Inv:Nat->τ->Prop){t:τ}
  (hF:l.length<F) (h0:s=st 0 t) (hI:Inv 0 t)
  (hs:∀(i:Nat)(h:i<l.length) t rc,Inv i t->body rc (st i t)=rc (st (i+1) (g t l[i])))
  (hi:∀(i:Nat)(h:i<l.length) t,Inv i t->Inv (i+1) (g t l[i]))
  (he:∀rc,Inv l.length (l.foldl g t)->body rc (st l.length (l.foldl g t))=z):b8 body F s=z:=by
 subst h0
 have key:∀(k i F:Nat)(t':τ),Inv i t'->i+k=l.length->k<F->(l.drop i).foldl g t'=l.foldl g t->b8 body F (st i t')=z:=by
  intro k
  induction k with
  | zero=>
   intro i F t' hI' h hF h2
   cases F with
   | zero=>omega
   | succ F=>
    obtain rfl:i=l.length:=om;rw [M6] at h2;simp only [List.foldl_nil] at h2;subst h2
    exact he _ hI'
  | succ k ih=>
   intro i F t' hI' h hF h2
   cases F with
   | zero=>omega
   | succ F=>
    show body (b8 body F) (st i t')=z;rw [hs i om t' _ hI'];rw [vo om] at h2;exact ih (i+1) F _ (hi i om t' hI') om om h2
 exact key l.length 0 F t hI om hF (by rw [UW])
theorem bL.up(h:bL p):bL fun F n=>p F (n+1):=by
 obtain⟨N,h⟩:=h;exact⟨N,fun F n a b=>h F (n+1) a om⟩
theorem nO{k:Nat}(h:n<=1000000000)(hk:k<=100000):(decide (n<=9223372036854775807)&&decide (n*k<=140737488355328))=true:=by
 have:n*k<=1000000000*100000:=Nat.mul_le_mul h hk;rw [dW om,dW om];rfl
theorem fu{k:Nat}(h:n<=1000000000)(hk:k<=100000)(x:O R):rq (decide (n<=9223372036854775807)&&decide (n*k<=140737488355328)) x=x:=cC (nO h hk)
theorem ag1(h:n<=1000000000)(x:O R):rq (decide (n<=9223372036854775807)) x=x:=cC (dW om)
theorem bP(h:i<n)(x:O R):rq (decide (0<=(i:Int))&&decide ((i:Int)<(n:Int))) x=x:=cC (by rw [dW om,dW om];rfl)
theorem aH(c:Bool)(x y:α):cond c (some x) (some y)=some (cond c x y):=by cases c<;>rfl
theorem cT(c b:Bool):cond c true b=(c||b):=by cases c<;>rfl
theorem cF(c b:Bool):cond c b false=(c&&b):=by cases c<;>rfl
theorem cI(c:Bool):cond c true false=c:=by cases c<;>rfl
theorem apg(x:O α):(x.bind fun y=>some y)=x:=by cases x<;>rfl
theorem pn(b:UInt8)(k:Nat)(hk:k<256):(((b.toNat:Int))==(no_index (OfNat.ofNat k:Int)))=(b==(OfNat.ofNat k:UInt8)):=by
 rw [tJ];simp;constructor
 ·intro h
  have h':(b.toNat:Int)=(k:Int):=h;have h:b.toNat=k:=om;show b=UInt8.ofNat k;rw [<-h];simp
 ·intro h
  have h':=h;subst h';show (((UInt8.ofNat k).toNat:Nat):Int)=(k:Int);rw [UInt8.toNat_ofNat',ad2 hk]
theorem Zc(b:UInt8)(k:Nat)(hk:k<256):(((b.toNat:Int)) != (no_index (OfNat.ofNat k:Int)))=!(b==(OfNat.ofNat k:UInt8)):=by
 rw [bne,pn b k hk]
theorem cw(h:i<9223372036854775807):aB ((i:Int)+1)=((i+1:Nat):Int):=bx h
theorem zC(h:i<9223372036854775807)(h0:0<i):aB ((i:Int)-1)=((i-1:Nat):Int):=by grind [bN]
theorem oY{p:Prop}{i:Decidable p}(h:p):rq (@decide p i) k=k:=cC (dW h)
theorem b9{p q:Prop}{i:Decidable p}{j:Decidable q}(h:p)(h':q):rq (@decide p i && @decide q j) k=k:=cC (by simp_all)
theorem xS{p q r:Prop}{i:Decidable p}{j:Decidable q}{l:Decidable r}(h:p)(h':q)(h2:r):rq (@decide p i&&(@decide q j && @decide r l)) k=k:=cC (by simp_all)
theorem dT{p:Prop}{i:Decidable p}(h:p):@decide p i=true:=dW h
theorem dF{p:Prop}{i:Decidable p}(h:¬ p):@decide p i=false:=tK h
theorem cz{p:Prop}{i:Decidable p}{x y:α}(h:p):cond (@decide p i) x y=x:=by simp_all
theorem cf{p:Prop}{i:Decidable p}{x y:α}(h:¬ p):cond (@decide p i) x y=y:=by simp_all
def Lv{α R:Type}(p:α->Bool)(r:Nat->α->O R)(fin:O R):J α->Nat->O R
 | [],_=>fin
 | a::l,i=>cond (p a) (r i a) (Lv p r fin l (i+1))
theorem qV(l:J α)(st:Nat->σ)(p:α->Bool)(r:Nat->α->O R)(fin:O R)
  (hF:l.length<F) (h0:s=st 0)
  (hs:∀(i:Nat)(h:i<l.length) rc,body rc (st i)=cond (p l[i]) (r i l[i]) (rc (st (i+1))))
  (he:∀rc,body rc (st l.length)=fin):b8 body F s=Lv p r fin l 0:=by
 have key:∀(k i F:Nat),i+k=l.length->k<F->b8 body F (st i)=Lv p r fin (l.drop i) i:=by
  intro k
  induction k with
  | zero=>
   intro i F h hF
   cases F with
   | zero=>omega
   | succ F=>
    obtain rfl:i=l.length:=om;rw [M6]
    exact he _
  | succ k ih=>
   intro i F h hF
   cases F with
   | zero=>omega
   | succ F=>
    rw [vo om];show body (b8 body F) (st i)=cond (p l[i]) (r i l[i]) _
    grind
 simp_all
theorem Gm{α R:Type}(p:α->Bool)(r fin:O R):∀(l:J α)(i:Nat),Lv p (fun _ _=>r) fin l i=cond (l.any p) r fin
 | [],i=>rfl
 | a::l,i=>by
  simp [Lv];rw [Gm p r fin l];cases p a<;>rfl
theorem Nk{α R:Type}(p:α->Bool)(g:α->O R)(fin:O R):∀(l:J α)(i:Nat),Lv p (fun _ a=>g a) fin l i=(l.find? p).elim fin g
 | [],i=>rfl
 | a::l,i=>by
  simp [Lv,M7];rw [Nk p g fin l];cases p a<;>rfl
theorem RL{α R:Type}(p:α->Bool)(r:Nat->α->O R)(fin:O R)(d:α):∀(l:J α)(i:Nat),Lv p r fin l i=(l.findIdx? p).elim fin fun j=>r (i+j) (l.getD j d)
 | [],i=>rfl
 | a::l,i=>by
  simp [Lv,YK];rw [RL p r fin d l]
  cases h:p a with
  | true=>simp
  | false=>
   cases l.findIdx? p with
   | none=>rfl
   | some j=>grind
theorem DA(f:α->J β)(l:J α)(i:Nat)(h:i<l.length):(l.take (i+1)).flatMap f=(l.take i).flatMap f++f l[i]:=by
 grind [List.take_succ_eq_append_getElem]
theorem cN{σ R:Type}{body:(σ->O R)->σ->O R}{z:O R}(P:σ->Prop)(m:σ->Nat)
  (hs:∀s,P s->(∃s',P s'/\m s'<m s/\∀rc,body rc s=rc s')\/∀rc,body rc s=z):∀(F:Nat)(s:σ),P s->m s<F->b8 body F s=z
 | 0,s,_,h=>by omega
 | F+1,s,hP,h=>by
  show body (b8 body F) s=z;rcases hs s hP with⟨s',h1,h2,h3⟩|h3
  ·rw [h3];exact cN P m hs F s' h1 om
  ·exact h3 _
theorem E6{σ R:Type}{body:(σ->O R)->σ->O R}(Q:R->Prop)(P:σ->Prop)(m:σ->Nat)
  (hs:∀s,P s->(∃s',P s'/\m s'<m s/\∀rc,body rc s=rc s')\/∃r,Q r/\∀rc,body rc s=some r):∀(F:Nat)(s:σ),P s->m s<F->∃r,Q r/\b8 body F s=some r
 | 0,s,_,h=>by omega
 | F+1,s,hP,h=>by
  show ∃r,Q r/\body (b8 body F) s=some r;rcases hs s hP with⟨s',h1,h2,h3⟩|⟨r,h1,h3⟩
  ·rw [h3];exact E6 Q P m hs F s' h1 om
  simp_all
end Go.RT
namespace Go.Proofs.YtpgbhdldcmcenaaGreatDoor
open Go.RT
set_option maxRecDepth 100000
def aA{R:Type}(Q:R->Prop)(x:O R):Prop:=∃r,Q r/\x=some r
variable{R S σ:Type}{Q:R -> Prop}{x y:O R}{p:Prop}{i:Decidable p}
theorem aA.ok{r:R}(h:Q r):aA Q (some r):=⟨r,h,rfl⟩
theorem aA.mono{P:R->Prop}(h:aA P x)(f:∀r,P r->Q r):aA Q x:=by
 obtain⟨r,h,e⟩:=h;exact⟨r,f r h,e⟩
theorem aA.bd{x:O S}{f:S->O R}{P:S->Prop}(h:aA P x)(k:∀r,P r->aA Q (f r)):aA Q (x.bind f):=by
 obtain⟨r,h,rfl⟩:=h;exact k r h
theorem aA.rq{c:Bool}(h:c=true)(k:aA Q x):aA Q (rq c x):=by subst h;exact k
theorem aA.cd(a:p->aA Q x)(b:¬p->aA Q y):aA Q (cond (@decide p i) x y):=by
 by_cases h:p
 ·rw [cz h];exact a h
 ·rw [cf h];exact b h
theorem aA.cb{c:Bool}(a:c=true->aA Q x)(b:c=false->aA Q y):aA Q (cond c x y):=by
 cases c
 ·exact b rfl
 ·exact a rfl
theorem aA.lp{body:(σ->O R)->σ->O R}(P:σ->Prop)(m:σ->Nat){F:Nat}{s:σ}(h0:P s)(hF:m s<F)
  (hs:∀s,P s->∀rc,(∀s',P s'->m s'<m s->aA Q (rc s'))->aA Q (body rc s)):aA Q (b8 body F s):=by
 induction F generalizing s with
 | zero=>omega
 | succ F ih=>exact hs s h0 (b8 body F) fun s' h1 h2=>ih h1 om
theorem aA.jj{X:O (σ ⊕ R)}{f:σ->O R}{P:σ ⊕ R->Prop}(h:aA P X)(k:∀s,P (.inl s)->aA Q (f s))(e:∀r,P (.inr r)->Q r):aA Q (jj X f):=by
 obtain⟨r,h,rfl⟩:=h
 cases r with
 | inl s=>exact k s h
 | inr r=>exact⟨r,e r h,rfl⟩
theorem aA.get(h:aA Q x):∃r,Q r/\x=some r:=h
theorem aA.tr(h:aA Q x):aA (fun _=>True) x:=h.mono fun _ _=>trivial
theorem lF{q:Prop}{j:Decidable q}(h:p)(h':q):(@decide p i && @decide q j)=true:=by rw [dW h,dW h'];rfl
theorem JQ{q r:Prop}{j:Decidable q}{k:Decidable r}(h:p)(h':q)(h2:r):(@decide p i&&(@decide q j && @decide r k))=true:=by rw [dW h,dW h',dW h2];rfl
end Go.Proofs.YtpgbhdldcmcenaaGreatDoor
namespace Go.RT
theorem get_at(l:J UInt8)(k:Nat):(ByteArray.mk ⟨l⟩).get! k=l.getD k 0:=by
 simp [ByteArray.get!,List.getD,getElem!_def];cases l[k]? <;> rfl
theorem Oy{l:J UInt8}{p:Nat}(h:(l.getD p 0).toNat<128):dec l p=((l.getD p 0).toNat,1):=by
 unfold dec Utf8.decode;simp only [get_at,UU];rw [if_pos h]
theorem KU(a b:J UInt8):Op.bytesLess a b=true↔a<b:=by rw [Go.Proofs.bytesLess_eq];simp
theorem mj(a:J UInt8):¬ a<a:=List.lt_irrefl a
theorem qX{a b c:J UInt8}(h:a<b)(h':b<c):a<c:=List.lt_trans h h'
theorem Ug(a b:J UInt8):a<b\/a=b\/b<a:=by
 grind
theorem Dm(a b:J UInt8):Op.bytesLess a b=false↔¬ a<b:=by rw [<-KU];simp
theorem aps(a b:J UInt8):(!(Op.bytesLess a b))=(Op.bytesLess b a||b==a):=by
 grind [Ug,KU,Dm,mj,qX]
theorem Bh(l:J (J UInt8)):(rZ l).Perm l:=C5 l
theorem ahG{l:J (J UInt8)}(h:l.Nodup):(rZ l).Pairwise (· < ·):=by
 have h1:=Lu l;have h2:=(Bh l).nodup_iff.2 h;refine (h1.and h2).imp fun {a b} hab=>?_
 grind
theorem VR{α:Type}{f:α->J UInt8}:∀ {a b:J α},a.Pairwise (fun x y=>f x<f y)->b.Pairwise (fun x y=>f x<f y)->(∀x,x∈a↔x∈b)->a=b
 | [],[],_,_,_=>rfl
 | [],y::b,_,_,h=>by have:=(h y).2 si;cases this
 | x::a,[],_,_,h=>by have:=(h x).1 si;cases this
 | x::a,y::b,ha,hb,h=>by
  rw [yh] at ha hb
  have hxy:x=y:=by
   grind
  subst hxy;rw [VR ha.2 hb.2 fun z=>?_]
  grind
variable{α β:Type}
theorem zg[BEq α][LawfulBEq α](m:J (α×β))(k:α)(v:β)(x:α):x∈(jI cV m k v).map (·.1)↔x=k\/x∈m.map (·.1):=by
 unfold jI cV
 grind
variable{m:J (α×β)}
theorem Uh[BEq α][LawfulBEq α](hm:(m.map (·.1)).Nodup)(k:α)(v:β):((jI cV m k v).map (·.1)).Nodup:=by
 unfold jI cV
 grind
theorem ajT[BEq α](m:J (α×β))(k:α)(v:β):(jI cV m k v).length<=m.length+1:=by
 grind [jI,cV]
theorem Sg[BEq α]{k:α}{v:β}{p:α×β}(h:p∈jI cV m k v):p=(k,v)\/p∈m:=by
 unfold jI at h
 grind
theorem Lw[BEq α][LawfulBEq α](m:J (α×β))(k:α)(z:β):(∃p,p∈m/\p.1=k/\p.2=fZ cV m k z)\/(k∉m.map (·.1)/\fZ cV m k z=z):=by
 unfold fZ cV
 grind
end Go.RT
