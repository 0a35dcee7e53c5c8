import Derived.Test.YthmndfnkdgmenaaGreatDoorRh
import Derived.Test.YthmndfnkdgmenaaGreatDoorRk
import Derived.Sort.Walk0
set_option linter.all false
namespace Go.RT
theorem bG{x:Int}(h:-9223372036854775808<=x/\x<=9223372036854775807):aB x=x:=IntWalk.i64_in _ om
theorem bh{i:Nat}(h:i<9223372036854775807):aB ((i:Int)+1)=((i+1:Nat):Int):=by
 rw [bG om];omega
def iter{R:Type}(f:Nat->O R->O R)(z:O R):Nat->Nat->O R
 | 0,_=>z
 | k+1,i=>f i (iter f z k (i+1))
theorem Tj{R:Type}{body:(Int->O R)->Int->O R}{n:Nat}{z:O R}{f:Nat->O R->O R}
  (hs:∀(i:Nat) rc,i<n->body rc (i:Int)=f i (rc ((i+1:Nat):Int))) (he:∀rc,body rc (n:Int)=z):∀(k i F:Nat),i+k=n->k<F->bV body F (i:Int)=iter f z k i
 | 0,i,F,h,hF=>by
  cases F with
  | zero=>omega
  | succ F=>
   have:i=n:=om;subst this
   exact he _
 | k+1,i,F,h,hF=>by
  cases F with
  | zero=>omega
  | succ F=>
   simp only [bV,iter];rw [hs i _ om,Tj hs he k (i+1) F om om]
theorem abX{R:Type}{body:(Int->O R)->Int->O R}{n:Nat}{z:O R}{f:Nat->O R->O R}
  (hs:∀(i:Nat) rc,i<n->body rc (i:Int)=f i (rc ((i+1:Nat):Int))) (he:∀rc,body rc (n:Int)=z) (F:Nat) (hF:n<F):bV body F 0=iter f z n 0:=
 Tj hs he n 0 F om hF
end Go.RT
namespace Go.RT
def pE{α τ R:Type}(f:τ->α->O (τ ⊕ R))(fin:τ->O R):J α->τ->O R
 | [],t=>fin t
 | a::l,t=>(f t a).bind (sm (fun t'=>pE f fin l t') fun r=>some r)
theorem HL{α τ σ R:Type}{body:(σ->O R)->σ->O R}{l:J α}{st:Nat->τ->σ}{f:τ->α->O (τ ⊕ R)}{fin:τ->O R}
  (hs:∀(i:Nat)(h:i<l.length) t rc,body rc (st i t)=(f t l[i]).bind (sm (fun t'=>rc (st (i+1) t')) fun r=>some r))
  (he:∀t rc,body rc (st l.length t)=fin t):∀(k i F:Nat)(t:τ),i+k=l.length->k<F->bV body F (st i t)=pE f fin (l.drop i) t
 | 0,i,F,t,h,hF=>by
  cases F with
  | zero=>omega
  | succ F=>
   obtain rfl:i=l.length:=om;rw [Qv]
   exact he t _
 | k+1,i,F,t,h,hF=>by
  cases F with
  | zero=>omega
  | succ F=>
   rw [MB om];show body (bV body F) (st i t)=(f t l[i]).bind _;rw [hs i om];congr 1
   funext x
   cases x with
   | inl t'=>exact HL hs he k (i+1) F t' om om
   | inr r=>rfl
theorem qv{α τ σ R:Type}{body:(σ->O R)->σ->O R}(l:J α)(st:Nat->τ->σ)(f:τ->α->O (τ ⊕ R))(fin:τ->O R){F:Nat}{t:τ}{s:σ}
  (hF:l.length<F) (h0:s=st 0 t)
  (hs:∀(i:Nat)(h:i<l.length) t rc,body rc (st i t)=(f t l[i]).bind (sm (fun t'=>rc (st (i+1) t')) fun r=>some r))
  (he:∀t rc,body rc (st l.length t)=fin t):bV body F s=pE f fin l t:=by
 rw [h0,HL hs he l.length 0 F t om hF,Ul]
theorem JH{σ R:Type}{body:(σ->O R)->σ->O R}{z:O R}(st:Nat->σ){n:Nat}(hs:∀(i:Nat) rc,i<n->body rc (st i)=rc (st (i+1)))(he:∀rc,body rc (st n)=z):
  ∀(k i F:Nat),i+k=n->k<F->bV body F (st i)=z
 | 0,i,F,h,hF=>by
  cases F with
  | zero=>omega
  | succ F=>
   obtain rfl:i=n:=om
   exact he _
 | k+1,i,F,h,hF=>by
  cases F with
  | zero=>omega
  | succ F=>
   show body (bV body F) (st i)=z;rw [hs i _ om];exact JH st hs he k (i+1) F om om
theorem NU{σ R:Type}{body:(σ->O R)->σ->O R}{z:O R}{s:σ}{F:Nat}(st:Nat->σ)(n:Nat)(hF:n<F)(h0:s=st 0)(hs:∀(i:Nat) rc,i<n->body rc (st i)=rc (st (i+1)))(he:∀rc,body rc (st n)=z):
  bV body F s=z:=by
 rw [h0];exact JH st hs he n 0 F om hF
theorem BS{α β:Type}[BEq α][LawfulBEq α](k x:α)(v:β)(hx:(k==x)=false):∀(m:J (α×β)),(m.map fun p=>bif p.1==k then (k,v) else p).find? (fun p=>p.1==x)=m.find? fun p=>p.1==x
 | []=>rfl
 | p::m=>by
  simp only [lD,MA]
  cases hp:(p.1==k) with
  | true=>
   obtain rfl:=eq_of_beq hp;simp only [bq,hx]
   simp_all [BS]
  | false=>
   simp_all [aS,BS]
theorem vm{α β:Type}[BEq α][LawfulBEq α](m:J (α×β))(k x:α)(v z:β):fQ cK (jq cK m k v) x z=cond (k==x) v (fQ cK m x z):=by
 unfold fQ jq cK
 cases h:m.any (fun p=>p.1==k) with
 | true=>
  simp only [bq]
  cases hx:(k==x) with
  | true=>
   grind
  | false=>rw [BS k x v hx m];rfl
 | false=>
  grind
def bH(p:Nat->Nat->Prop):Prop:=∃N,∀F n,N<=F->N<=n->p F n
theorem bH.of{p:Nat->Nat->Prop}(h:∀F n,p F n):bH p:=⟨0,fun F n _ _=>h F n⟩
theorem bH.ge{p:Nat->Nat->Prop}(k:Nat)(h:∀F n,k<=F->k<=n->p F n):bH p:=⟨k,h⟩
theorem bH.mono{p q:Nat->Nat->Prop}(h:bH p)(f:∀F n,p F n->q F n):bH q:=by
 obtain⟨N,h⟩:=h;exact⟨N,fun F n a b=>f F n (h F n a b)⟩
theorem bH.and{p q:Nat->Nat->Prop}(h:bH p)(g:bH q):bH fun F n=>p F n/\q F n:=by
 obtain⟨N,h⟩:=h;obtain⟨M,g⟩:=g;exact⟨N+M,fun F n a b=>⟨h F n om om,g F n om om⟩⟩
theorem bH.kE{p q r:Nat->Nat->Prop}(h:bH p)(g:bH q)(f:∀F n,p F n->q F n->r F n):bH r:=
 (h.and g).mono fun F n x=>f F n x.1 x.2
theorem bH.BU{p q r s:Nat->Nat->Prop}(h:bH p)(g:bH q)(k:bH r)(f:∀F n,p F n->q F n->r F n->s F n):bH s:=
 ((h.and g).and k).mono fun F n x=>f F n x.1.1 x.1.2 x.2
theorem bH.succ{p:Nat->Nat->Prop}(h:bH fun F n=>p F (n+1)):bH p:=by
 obtain⟨N,h⟩:=h;refine⟨N+1,fun F n a b=>?_⟩
 cases n with
 | zero=>omega
 | succ n=>exact h F n om om
theorem bH.fst{p:Nat->Nat->Prop}(h:bH p):bH fun F _=>p F F:=by
 obtain⟨N,h⟩:=h;exact⟨N,fun F n a b=>h F F a a⟩
theorem bH.all{α:Type}{p:α->Nat->Nat->Prop}:∀ {l:J α},(∀a,a∈l->bH (p a))->bH fun F n=>∀a,a∈l->p a F n
 | [],_=>bH.of fun F n a h=>by cases h
 | x::l,h=>(h x si).kE (bH.all fun a ha=>h a (pX _ ha)) fun F n h1 h2 a ha=>by
   grind
theorem wI{i n:Nat}{inst:Decidable ((i:Int)<(n:Int))}(h:i<n):@decide ((i:Int)<(n:Int)) inst=true:=dQ om
theorem Gd{n:Nat}{inst:Decidable ((n:Int)<(n:Int))}:@decide ((n:Int)<(n:Int)) inst=false:=sO om
theorem AV{i:Nat}{inst:Decidable (0<=(i:Int))}:@decide (0<=(i:Int)) inst=true:=dQ om
theorem gd{α:Type}{l:J α}{i:Nat}{d:α}(h:i<l.length):l.getD i d=l[i]:=by simp [h]
theorem gz{R:Type}(k:O R):rq true k=k:=rfl
theorem cD{R:Type}{c:Bool}{k:O R}(h:c=true):rq c k=k:=by subst h;rfl
end Go.RT
namespace Go.RT
theorem Cp{α τ σ R:Type}{body:(σ->O R)->σ->O R}(l:J α)(st:Nat->τ->σ)(g:τ->α->τ)(Inv:Nat->τ->Prop){z:O R}{F:Nat}{t:τ}{s:σ}
  (hF:l.length<F) (h0:s=st 0 t) (hI:Inv 0 t)
  (hs:∀(i:Nat)(h:i<l.length) t rc,Inv i t->body rc (st i t)=rc (st (i+1) (g t l[i])))
  (hi:∀(i:Nat)(h:i<l.length) t,Inv i t->Inv (i+1) (g t l[i]))
  (he:∀rc,Inv l.length (l.foldl g t)->body rc (st l.length (l.foldl g t))=z):bV body F s=z:=by
 subst h0
 have key:∀(k i F:Nat)(t':τ),Inv i t'->i+k=l.length->k<F->(l.drop i).foldl g t'=l.foldl g t->bV body F (st i t')=z:=by
  intro k
  induction k with
  | zero=>
   intro i F t' hI' h hF h2
   cases F with
   | zero=>omega
   | succ F=>
    obtain rfl:i=l.length:=om;rw [Qv] at h2;simp only [List.foldl_nil] at h2;subst h2
    exact he _ hI'
  | succ k ih=>
   intro i F t' hI' h hF h2
   cases F with
   | zero=>omega
   | succ F=>
    show body (bV body F) (st i t')=z;rw [hs i om t' _ hI'];rw [MB om] at h2;exact ih (i+1) F _ (hi i om t' hI') om om h2
 exact key l.length 0 F t hI om hF (by rw [Ul])
theorem bH.up{p:Nat->Nat->Prop}(h:bH p):bH fun F n=>p F (n+1):=by
 obtain⟨N,h⟩:=h;exact⟨N,fun F n a b=>h F (n+1) a om⟩
theorem nJ{n k:Nat}(h:n<=1000000000)(hk:k<=100000):(decide (n<=9223372036854775807)&&decide (n*k<=140737488355328))=true:=by
 have:n*k<=1000000000*100000:=Nat.mul_le_mul h hk;rw [dQ om,dQ om];rfl
theorem iB{R:Type}{n k:Nat}(h:n<=1000000000)(hk:k<=100000)(x:O R):rq (decide (n<=9223372036854775807)&&decide (n*k<=140737488355328)) x=x:=cD (nJ h hk)
theorem af7{R:Type}{n:Nat}(h:n<=1000000000)(x:O R):rq (decide (n<=9223372036854775807)) x=x:=cD (dQ om)
theorem cq{R:Type}{i n:Nat}(h:i<n)(x:O R):rq (decide (0<=(i:Int))&&decide ((i:Int)<(n:Int))) x=x:=cD (by rw [dQ om,dQ om];rfl)
end Go.RT
namespace Go.RT
theorem aK{α:Type}(c:Bool)(x y:α):cond c (some x) (some y)=some (cond c x y):=by cases c<;>rfl
theorem cT(c b:Bool):cond c true b=(c||b):=by cases c<;>rfl
theorem cF(c b:Bool):cond c b false=(c&&b):=by cases c<;>rfl
theorem cI(c:Bool):cond c true false=c:=by cases c<;>rfl
theorem anX{α:Type}(x:O α):(x.bind fun y=>some y)=x:=by cases x<;>rfl
theorem qU(b:UInt8)(k:Nat)(hk:k<256):(((b.toNat:Int))==(no_index (OfNat.ofNat k:Int)))=(b==(OfNat.ofNat k:UInt8)):=by
 rw [sN];simp;constructor
 ·intro h
  have h':(b.toNat:Int)=(k:Int):=h;have h:b.toNat=k:=om;show b=UInt8.ofNat k;rw [<-h];simp
 ·intro h
  have h':=h;subst h';show (((UInt8.ofNat k).toNat:Nat):Int)=(k:Int);rw [UInt8.toNat_ofNat',adu hk]
theorem Yr(b:UInt8)(k:Nat)(hk:k<256):(((b.toNat:Int)) != (no_index (OfNat.ofNat k:Int)))=!(b==(OfNat.ofNat k:UInt8)):=by
 rw [bne,qU b k hk]
theorem cJ{i:Nat}(h:i<9223372036854775807):aB ((i:Int)+1)=((i+1:Nat):Int):=bh h
theorem w5{i:Nat}(h:i<9223372036854775807)(h0:0<i):aB ((i:Int)-1)=((i-1:Nat):Int):=by grind [bG]
theorem sx{R:Type}{p:Prop}{i:Decidable p}{k:O R}(h:p):rq (@decide p i) k=k:=cD (dQ h)
theorem bR{R:Type}{p q:Prop}{i:Decidable p}{j:Decidable q}{k:O R}(h:p)(h':q):rq (@decide p i && @decide q j) k=k:=cD (by simp_all)
theorem CJ{R:Type}{p q r:Prop}{i:Decidable p}{j:Decidable q}{l:Decidable r}{k:O R}(h:p)(h':q)(h2:r):rq (@decide p i&&(@decide q j && @decide r l)) k=k:=cD (by simp_all)
theorem dT{p:Prop}{i:Decidable p}(h:p):@decide p i=true:=dQ h
theorem dF{p:Prop}{i:Decidable p}(h:¬ p):@decide p i=false:=sO h
theorem cO{α:Type}{p:Prop}{i:Decidable p}{x y:α}(h:p):cond (@decide p i) x y=x:=by simp_all
theorem cf{α:Type}{p:Prop}{i:Decidable p}{x y:α}(h:¬ p):cond (@decide p i) x y=y:=by simp_all
def KV{α R:Type}(p:α->Bool)(r:Nat->α->O R)(fin:O R):J α->Nat->O R
 | [],_=>fin
 | a::l,i=>cond (p a) (r i a) (KV p r fin l (i+1))
theorem qm{α σ R:Type}{body:(σ->O R)->σ->O R}(l:J α)(st:Nat->σ)(p:α->Bool)(r:Nat->α->O R)(fin:O R){F:Nat}{s:σ}
  (hF:l.length<F) (h0:s=st 0)
  (hs:∀(i:Nat)(h:i<l.length) rc,body rc (st i)=cond (p l[i]) (r i l[i]) (rc (st (i+1))))
  (he:∀rc,body rc (st l.length)=fin):bV body F s=KV p r fin l 0:=by
 have key:∀(k i F:Nat),i+k=l.length->k<F->bV body F (st i)=KV p r fin (l.drop i) i:=by
  intro k
  induction k with
  | zero=>
   intro i F h hF
   cases F with
   | zero=>omega
   | succ F=>
    obtain rfl:i=l.length:=om;rw [Qv]
    exact he _
  | succ k ih=>
   intro i F h hF
   cases F with
   | zero=>omega
   | succ F=>
    rw [MB om];show body (bV body F) (st i)=cond (p l[i]) (r i l[i]) _
    grind
 simp_all
theorem FO{α R:Type}(p:α->Bool)(r fin:O R):∀(l:J α)(i:Nat),KV p (fun _ _=>r) fin l i=cond (l.any p) r fin
 | [],i=>rfl
 | a::l,i=>by
  simp [KV];rw [FO p r fin l];cases p a<;>rfl
theorem MN{α R:Type}(p:α->Bool)(g:α->O R)(fin:O R):∀(l:J α)(i:Nat),KV p (fun _ a=>g a) fin l i=(l.find? p).elim fin g
 | [],i=>rfl
 | a::l,i=>by
  simp [KV,MA];rw [MN p g fin l];cases p a<;>rfl
theorem QH{α R:Type}(p:α->Bool)(r:Nat->α->O R)(fin:O R)(d:α):∀(l:J α)(i:Nat),KV p r fin l i=(l.findIdx? p).elim fin fun j=>r (i+j) (l.getD j d)
 | [],i=>rfl
 | a::l,i=>by
  simp [KV,XD];rw [QH p r fin d l]
  cases h:p a with
  | true=>simp
  | false=>
   cases l.findIdx? p with
   | none=>rfl
   | some j=>grind
theorem agO{α β:Type}(f:α->J β)(l:J α)(i:Nat)(h:i<l.length):(l.take (i+1)).flatMap f=(l.take i).flatMap f++f l[i]:=by
 grind [List.take_succ_eq_append_getElem]
theorem dw{σ R:Type}{body:(σ->O R)->σ->O R}{z:O R}(P:σ->Prop)(m:σ->Nat)
  (hs:∀s,P s->(∃s',P s'/\m s'<m s/\∀rc,body rc s=rc s')\/∀rc,body rc s=z):∀(F:Nat)(s:σ),P s->m s<F->bV body F s=z
 | 0,s,_,h=>by omega
 | F+1,s,hP,h=>by
  show body (bV body F) s=z;rcases hs s hP with⟨s',h1,h2,h3⟩|h3
  ·rw [h3];exact dw P m hs F s' h1 om
  ·exact h3 _
theorem Er{σ R:Type}{body:(σ->O R)->σ->O R}(Q:R->Prop)(P:σ->Prop)(m:σ->Nat)
  (hs:∀s,P s->(∃s',P s'/\m s'<m s/\∀rc,body rc s=rc s')\/∃r,Q r/\∀rc,body rc s=some r):∀(F:Nat)(s:σ),P s->m s<F->∃r,Q r/\bV body F s=some r
 | 0,s,_,h=>by omega
 | F+1,s,hP,h=>by
  show ∃r,Q r/\body (bV body F) s=some r;rcases hs s hP with⟨s',h1,h2,h3⟩|⟨r,h1,h3⟩
  ·rw [h3];exact Er Q P m hs F s' h1 om
  simp_all
end Go.RT
namespace Go.Proofs.YthmndfnkdgmenaaGreatDoor
open Go.RT
set_option maxRecDepth 100000
def aA{R:Type}(Q:R->Prop)(x:O R):Prop:=∃r,Q r/\x=some r
section
variable {R S σ : Type} {Q : R -> Prop}
theorem aA.ok{r:R}(h:Q r):aA Q (some r):=⟨r,h,rfl⟩
theorem aA.mono{x:O R}{P:R->Prop}(h:aA P x)(f:∀r,P r->Q r):aA Q x:=by
 obtain⟨r,h,e⟩:=h;exact⟨r,f r h,e⟩
theorem aA.bd{x:O S}{f:S->O R}{P:S->Prop}(h:aA P x)(k:∀r,P r->aA Q (f r)):aA Q (x.bind f):=by
 obtain⟨r,h,rfl⟩:=h;exact k r h
theorem aA.rq{x:O R}{c:Bool}(h:c=true)(k:aA Q x):aA Q (rq c x):=by subst h;exact k
theorem aA.cd{x y:O R}{p:Prop}{i:Decidable p}(a:p->aA Q x)(b:¬p->aA Q y):aA Q (cond (@decide p i) x y):=by
 by_cases h:p
 ·rw [cO h];exact a h
 ·rw [cf h];exact b h
theorem aA.cb{x y:O R}{c:Bool}(a:c=true->aA Q x)(b:c=false->aA Q y):aA Q (cond c x y):=by
 cases c
 ·exact b rfl
 ·exact a rfl
theorem aA.lp{body:(σ->O R)->σ->O R}(P:σ->Prop)(m:σ->Nat){F:Nat}{s:σ}(h0:P s)(hF:m s<F)
  (hs:∀s,P s->∀rc,(∀s',P s'->m s'<m s->aA Q (rc s'))->aA Q (body rc s)):aA Q (bV body F s):=by
 induction F generalizing s with
 | zero=>omega
 | succ F ih=>exact hs s h0 (bV body F) fun s' h1 h2=>ih h1 om
theorem aA.jj{X:O (σ ⊕ R)}{f:σ->O R}{P:σ ⊕ R->Prop}(h:aA P X)(k:∀s,P (.inl s)->aA Q (f s))(e:∀r,P (.inr r)->Q r):aA Q (jj X f):=by
 obtain⟨r,h,rfl⟩:=h
 cases r with
 | inl s=>exact k s h
 | inr r=>exact⟨r,e r h,rfl⟩
theorem aA.get{x:O R}(h:aA Q x):∃r,Q r/\x=some r:=h
theorem aA.tr{x:O R}(h:aA Q x):aA (fun _=>True) x:=h.mono fun _ _=>trivial
end
theorem jO{p q:Prop}{i:Decidable p}{j:Decidable q}(h:p)(h':q):(@decide p i && @decide q j)=true:=by rw [dQ h,dQ h'];rfl
theorem Jl{p q r:Prop}{i:Decidable p}{j:Decidable q}{k:Decidable r}(h:p)(h':q)(h2:r):(@decide p i&&(@decide q j && @decide r k))=true:=by rw [dQ h,dQ h',dQ h2];rfl
end Go.Proofs.YthmndfnkdgmenaaGreatDoor
namespace Go.RT
theorem get_at(l:J UInt8)(k:Nat):(ByteArray.mk ⟨l⟩).get! k=l.getD k 0:=by
 simp [ByteArray.get!,List.getD,getElem!_def];cases l[k]? <;> rfl
theorem NV{l:J UInt8}{p:Nat}(h:(l.getD p 0).toNat<128):dec l p=((l.getD p 0).toNat,1):=by
 unfold dec Utf8.decode;simp only [get_at,Ud];rw [if_pos h]
end Go.RT
namespace Go.RT
theorem Kn(a b:J UInt8):Op.bytesLess a b=true↔a<b:=by rw [Go.Proofs.bytesLess_eq];simp
theorem lJ(a:J UInt8):¬ a<a:=List.lt_irrefl a
theorem qo{a b c:J UInt8}(h:a<b)(h':b<c):a<c:=List.lt_trans h h'
theorem Tk(a b:J UInt8):a<b\/a=b\/b<a:=by
 grind
theorem CK(a b:J UInt8):Op.bytesLess a b=false↔¬ a<b:=by rw [<-Kn];simp
theorem an9(a b:J UInt8):(!(Op.bytesLess a b))=(Op.bytesLess b a||b==a):=by
 grind [Tk,Kn,CK,lJ,qo]
theorem z8(l:J (J UInt8)):(qY l).Perm l:=Co l
theorem agP{l:J (J UInt8)}(h:l.Nodup):(qY l).Pairwise (· < ·):=by
 have h1:=KU l;have h2:=(z8 l).nodup_iff.2 h;refine (h1.and h2).imp fun {a b} hab=>?_
 grind
theorem Va{α:Type}{f:α->J UInt8}:∀ {a b:J α},a.Pairwise (fun x y=>f x<f y)->b.Pairwise (fun x y=>f x<f y)->(∀x,x∈a↔x∈b)->a=b
 | [],[],_,_,_=>rfl
 | [],y::b,_,_,h=>by have:=(h y).2 si;cases this
 | x::a,[],_,_,h=>by have:=(h x).1 si;cases this
 | x::a,y::b,ha,hb,h=>by
  rw [wV] at ha hb
  have hxy:x=y:=by
   grind
  subst hxy;rw [Va ha.2 hb.2 fun z=>?_]
  grind
theorem yh{α β:Type}[BEq α][LawfulBEq α](m:J (α×β))(k:α)(v:β)(x:α):x∈(jq cK m k v).map (·.1)↔x=k\/x∈m.map (·.1):=by
 unfold jq cK
 grind
theorem Tm{α β:Type}[BEq α][LawfulBEq α]{m:J (α×β)}(hm:(m.map (·.1)).Nodup)(k:α)(v:β):((jq cK m k v).map (·.1)).Nodup:=by
 unfold jq cK
 grind
theorem aiR{α β:Type}[BEq α](m:J (α×β))(k:α)(v:β):(jq cK m k v).length<=m.length+1:=by
 grind [jq,cK]
theorem Rc{α β:Type}[BEq α]{m:J (α×β)}{k:α}{v:β}{p:α×β}(h:p∈jq cK m k v):p=(k,v)\/p∈m:=by
 unfold jq at h
 grind
theorem KW{α β:Type}[BEq α][LawfulBEq α](m:J (α×β))(k:α)(z:β):(∃p,p∈m/\p.1=k/\p.2=fQ cK m k z)\/(k∉m.map (·.1)/\fQ cK m k z=z):=by
 unfold fQ cK
 grind
end Go.RT
