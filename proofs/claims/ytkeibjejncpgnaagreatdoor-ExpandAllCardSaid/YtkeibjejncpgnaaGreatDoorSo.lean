import Derived.Test.YtkeibjejncpgnaaGreatDoorRh
import Derived.Test.YtkeibjejncpgnaaGreatDoorRk
import Derived.Sort.Walk0
set_option linter.all false
namespace Go.RT
theorem cr {x:Int} (h:-9223372036854775808≤x∧x≤9223372036854775807):ag x=x:=IntWalk.i64_in _ om
theorem aM {i:Nat} (h:i<9223372036854775807):ag ((i:Int)+1)=((i+1:Nat):Int):=by
 rw [cr om];omega
def iter {R:Type} (f:Nat→Option R→Option R) (z:Option R):Nat→Nat→Option R
 | 0,_=>z
 | k+1,i=>f i (iter f z k (i+1))
end Go.RT
namespace Go.RT
def qm (p:Nat→Nat→Prop):Prop:=∃N,∀F n,N≤F→N≤n→p F n
theorem qm.of {p:Nat→Nat→Prop} (h:∀F n,p F n):qm p:=⟨0,fun F n _ _=>h F n⟩
theorem qm.mono {p q:Nat→Nat→Prop} (h:qm p) (f:∀F n,p F n→q F n):qm q:=by
 obtain⟨N,h⟩:=h;exact⟨N,fun F n a b=>f F n (h F n a b)⟩
theorem qm.and {p q:Nat→Nat→Prop} (h:qm p) (g:qm q):qm fun F n=>p F n∧q F n:=by
 obtain⟨N,h⟩:=h;obtain⟨M,g⟩:=g;exact⟨N+M,fun F n a b=>⟨h F n om om,g F n om om⟩⟩
theorem qm.anU {p q r:Nat→Nat→Prop} (h:qm p) (g:qm q) (f:∀F n,p F n→q F n→r F n):qm r :=
 (h.and g).mono fun F n x=>f F n x.1 x.2
theorem qm.succ {p:Nat→Nat→Prop} (h:qm fun F n=>p F (n+1)):qm p:=by
 obtain⟨N,h⟩:=h;refine⟨N+1,fun F n a b=>?_⟩
 cases n with
 | zero=>omega
 | succ n=>exact h F n om om
theorem qm.all {α:Type} {p:α→Nat→Nat→Prop}:∀ {l:List α},(∀a,a∈l→qm (p a))→qm fun F n=>∀a,a∈l→p a F n
 | [],_=>qm.of fun F n a h=>by cases h
 | x::l,h=>(h x si).anU (qm.all (l:=l) fun a ha=>h a (jS _ ha)) fun F n h1 h2 a ha=>by
   rcases fK.1 ha with rfl | ha
   ·exact h1
   ·exact h2 a ha
theorem gd {α:Type} {l:List α} {i:Nat} {d:α} (h:i<l.length):l.getD i d=l[i]:=by simp [List.getD,h]
theorem eu {R:Type} {c:Bool} {k:Option R} (h:c=true):rq c k=k:=by subst h;rfl
end Go.RT
namespace Go.RT
theorem qm.up {p:Nat→Nat→Prop} (h:qm p):qm fun F n=>p F (n+1):=by
 obtain⟨N,h⟩:=h;exact⟨N,fun F n a b=>h F (n+1) a om⟩
theorem gP {n k:Nat} (h:n≤1000000000) (hk:k≤100000):(decide (n≤9223372036854775807)&&decide (n * k≤140737488355328))=true:=by
 have:n * k≤1000000000 * 100000:=Nat.mul_le_mul h hk;rw [decide_eq_true om,decide_eq_true om];rfl
theorem iY {R:Type} {n k:Nat} (h:n≤1000000000) (hk:k≤100000) (x:Option R):rq (decide (n≤9223372036854775807)&&decide (n * k≤140737488355328)) x=x:=eu (gP h hk)
theorem akC {R:Type} {n:Nat} (h:n≤1000000000) (x:Option R):rq (decide (n≤9223372036854775807)) x=x:=eu (decide_eq_true om)
theorem eT {R:Type} {i n:Nat} (h:i<n) (x:Option R):rq (decide (0≤(i:Int))&&decide ((i:Int)<(n:Int))) x=x:=eu (by rw [decide_eq_true om,decide_eq_true om];rfl)
end Go.RT
namespace Go.RT
theorem ax {α:Type} (c:Bool) (x y:α):cond c (some x) (some y)=some (cond c x y):=by cases c<;>rfl
theorem cT (c b:Bool):cond c true b=(c||b):=by cases c<;>rfl
theorem cF (c b:Bool):cond c b false=(c&&b):=by cases c<;>rfl
theorem cN (c:Bool):cond c false true=!c:=by cases c<;>rfl
theorem amW {α:Type} (x:Option α):(x.bind fun y=>some y)=x:=by cases x<;>rfl
theorem mW (b:UInt8) (k:Nat) (hk:k<256):(((b.toNat:Int))==(no_index (OfNat.ofNat k:Int)))=(b==(OfNat.ofNat k:UInt8)):=by
 rw [Eg];simp only [beq_iff_eq];constructor
 ·intro h
  have h':(b.toNat:Int)=(k:Int):=h;have h:b.toNat=k:=om;show b=UInt8.ofNat k;rw [←h];simp
 ·intro h
  have h':b=UInt8.ofNat k:=h;subst h';show (((UInt8.ofNat k).toNat:Nat):Int)=(k:Int);rw [UInt8.toNat_ofNat',XD hk]
theorem Pf (b:UInt8) (k:Nat) (hk:k<256):(((b.toNat:Int)) != (no_index (OfNat.ofNat k:Int)))=!(b==(OfNat.ofNat k:UInt8)):=by
 rw [bne,mW b k hk]
theorem fo {i:Nat} (h:i<9223372036854775807):ag ((i:Int)+1)=((i+1:Nat):Int):=aM h
theorem qJ {i:Nat} (h:i<9223372036854775807) (h0:0<i):ag ((i:Int) - 1)=((i - 1:Nat):Int):=by rw [cr om];omega
theorem mS {R:Type} {p:Prop} {i:Decidable p} {k:Option R} (h:p):rq (@decide p i) k=k:=eu (decide_eq_true h)
theorem bu {R:Type} {p q:Prop} {i:Decidable p} {j:Decidable q} {k:Option R} (h:p) (h':q):rq (@decide p i && @decide q j) k=k:=eu (by rw [decide_eq_true h,decide_eq_true h'];rfl)
theorem Yl {R:Type} {p q r:Prop} {i:Decidable p} {j:Decidable q} {l:Decidable r} {k:Option R} (h:p) (h':q) (h2:r):rq (@decide p i&&(@decide q j && @decide r l)) k=k:=eu (by rw [decide_eq_true h,decide_eq_true h',decide_eq_true h2];rfl)
theorem dT {p:Prop} {i:Decidable p} (h:p):@decide p i=true:=decide_eq_true h
theorem dF {p:Prop} {i:Decidable p} (h:¬ p):@decide p i=false:=decide_eq_false h
theorem ctq {α:Type} {p:Prop} {i:Decidable p} {x y:α} (h:p):cond (@decide p i) x y=x:=by rw [decide_eq_true h];rfl
theorem cf {α:Type} {p:Prop} {i:Decidable p} {x y:α} (h:¬ p):cond (@decide p i) x y=y:=by rw [decide_eq_false h];rfl
theorem amk {i n:Nat} (h:i<n):Nat.blt i n=true:=adK h
theorem amj {i n:Nat} (h:¬ i<n):Nat.blt i n=false:=by
 cases e:Nat.blt i n with
 | false=>rfl
 | true=>exact absurd (ef e) h
def GZ {α R:Type} (p:α→Bool) (r:Nat→α→Option R) (fin:Option R):List α→Nat→Option R
 | [],_=>fin
 | a::l,i=>cond (p a) (r i a) (GZ p r fin l (i+1))
theorem oM {α σ R:Type} {body:(σ→Option R)→σ→Option R} (l:List α) (st:Nat→σ) (p:α→Bool) (r:Nat→α→Option R) (fin:Option R) {F:Nat} {s:σ}
  (hF:l.length<F) (h0:s=st 0)
  (hs:∀(i:Nat) (h:i<l.length) rc,body rc (st i)=cond (p l[i]) (r i l[i]) (rc (st (i+1))))
  (he:∀rc,body rc (st l.length)=fin):aF body F s=GZ p r fin l 0:=by
 subst h0
 have key:∀(k i F:Nat),i+k=l.length→k<F→aF body F (st i)=GZ p r fin (l.drop i) i:=by
  intro k
  induction k with
  | zero =>
   intro i F h hF
   cases F with
   | zero=>omega
   | succ F =>
    obtain rfl:i=l.length:=om;rw [adu]
    exact he _
  | succ k ih =>
   intro i F h hF
   cases F with
   | zero=>omega
   | succ F =>
    rw [adt om];show body (aF body F) (st i)=cond (p l[i]) (r i l[i]) _;rw [hs i om,ih (i+1) F om om]
 have:=key l.length 0 F om hF;rwa [adI] at this
theorem BE {α R:Type} (p:α→Bool) (r fin:Option R):∀(l:List α) (i:Nat),GZ p (fun _ _=>r) fin l i=cond (l.any p) r fin
 | [],i=>rfl
 | a::l,i=>by
  simp only [GZ,XU];rw [BE p r fin l];cases p a<;>rfl
theorem VC {α R:Type} (p:α→Bool) (g:α→Option R) (fin:Option R):∀(l:List α) (i:Nat),GZ p (fun _ a=>g a) fin l i=(l.find? p).elim fin g
 | [],i=>rfl
 | a::l,i=>by
  simp only [GZ,List.find?_cons];rw [VC p g fin l];cases p a<;>rfl
theorem NV {α R:Type} (p:α→Bool) (r:Nat→α→Option R) (fin:Option R) (d:α):∀(l:List α) (i:Nat),GZ p r fin l i=(l.findIdx? p).elim fin fun j=>r (i+j) (l.getD j d)
 | [],i=>rfl
 | a::l,i=>by
  simp only [GZ,List.findIdx?_cons];rw [NV p r fin d l]
  cases h:p a with
  | true=>simp
  | false =>
   simp only [cond_false,Bw,if_false]
   cases l.findIdx? p with
   | none=>rfl
   | some j=>simp [Br,XN 1 j]
theorem Kw {α β:Type} (f:α→List β) (l:List α) (i:Nat) (h:i<l.length):(l.take (i+1)).flatMap f=(l.take i).flatMap f++f l[i]:=by
 rw [jT h,NG];simp
theorem eG {σ R:Type} {body:(σ→Option R)→σ→Option R} {z:Option R} (P:σ→Prop) (m:σ→Nat)
  (hs:∀s,P s→(∃s',P s'∧m s'<m s∧∀rc,body rc s=rc s')∨∀rc,body rc s=z):∀(F:Nat) (s:σ),P s→m s<F→aF body F s=z
 | 0,s,_,h=>by omega
 | F+1,s,hP,h=>by
  show body (aF body F) s=z;rcases hs s hP with⟨s',h1,h2,h3⟩ | h3
  ·rw [h3];exact eG P m hs F s' h1 om
  ·exact h3 _
theorem Gv {σ R:Type} {body:(σ→Option R)→σ→Option R} (Q:R→Prop) (P:σ→Prop) (m:σ→Nat)
  (hs:∀s,P s→(∃s',P s'∧m s'<m s∧∀rc,body rc s=rc s')∨∃r,Q r∧∀rc,body rc s=some r):∀(F:Nat) (s:σ),P s→m s<F→∃r,Q r∧aF body F s=some r
 | 0,s,_,h=>by omega
 | F+1,s,hP,h=>by
  show ∃r,Q r∧body (aF body F) s=some r;rcases hs s hP with⟨s',h1,h2,h3⟩ | ⟨r,h1,h3⟩
  ·rw [h3];exact Gv Q P m hs F s' h1 om
  ·exact⟨r,h1,h3 _⟩
end Go.RT
namespace Go.Proofs.YtkeibjejncpgnaaGreatDoor
open Go.RT
set_option maxRecDepth 100000
def af {R:Type} (Q:R→Prop) (x:Option R):Prop:=∃r,Q r∧x=some r
section
variable {R S σ : Type} {Q : R → Prop}
theorem af.ok {r:R} (h:Q r):af Q (some r):=⟨r,h,rfl⟩
theorem af.mono {x:Option R} {P:R→Prop} (h:af P x) (f:∀r,P r→Q r):af Q x:=by
 obtain⟨r,h,e⟩:=h;exact⟨r,f r h,e⟩
theorem af.bd {x:Option S} {f:S→Option R} {P:S→Prop} (h:af P x) (k:∀r,P r→af Q (f r)):af Q (x.bind f):=by
 obtain⟨r,h,rfl⟩:=h;exact k r h
theorem af.rq {x:Option R} {c:Bool} (h:c=true) (k:af Q x):af Q (rq c x):=by subst h;exact k
theorem af.cd {x y:Option R} {p:Prop} {i:Decidable p} (a:p→af Q x) (b:¬p→af Q y):af Q (cond (@decide p i) x y):=by
 by_cases h:p
 ·rw [ctq h];exact a h
 ·rw [cf h];exact b h
theorem af.cb {x y:Option R} {c:Bool} (a:c=true→af Q x) (b:c=false→af Q y):af Q (cond c x y):=by
 cases c
 ·exact b rfl
 ·exact a rfl
theorem af.lp {body:(σ→Option R)→σ→Option R} (P:σ→Prop) (m:σ→Nat) {F:Nat} {s:σ} (h0:P s) (hF:m s<F)
  (hs:∀s,P s→∀rc,(∀s',P s'→m s'<m s→af Q (rc s'))→af Q (body rc s)):af Q (aF body F s):=by
 induction F generalizing s with
 | zero=>omega
 | succ F ih=>exact hs s h0 (aF body F) fun s' h1 h2=>ih h1 om
theorem af.jj {X:Option (σ ⊕ R)} {f:σ→Option R} {P:σ ⊕ R→Prop} (h:af P X) (k:∀s,P (.inl s)→af Q (f s)) (e:∀r,P (.inr r)→Q r):af Q (jj X f):=by
 obtain⟨r,h,rfl⟩:=h
 cases r with
 | inl s=>exact k s h
 | inr r=>exact⟨r,e r h,rfl⟩
theorem af.get {x:Option R} (h:af Q x):∃r,Q r∧x=some r:=h
theorem af.tr {x:Option R} (h:af Q x):af (fun _=>True) x:=h.mono fun _ _=>trivial
end
theorem cM {p q:Prop} {i:Decidable p} {j:Decidable q} (h:p) (h':q):(@decide p i && @decide q j)=true:=by rw [decide_eq_true h,decide_eq_true h'];rfl
theorem vI {p q r:Prop} {i:Decidable p} {j:Decidable q} {k:Decidable r} (h:p) (h':q) (h2:r):(@decide p i&&(@decide q j && @decide r k))=true:=by rw [decide_eq_true h,decide_eq_true h',decide_eq_true h2];rfl
end Go.Proofs.YtkeibjejncpgnaaGreatDoor
namespace Go.RT
theorem get_at (l:List UInt8) (k:Nat):(ByteArray.mk ⟨l⟩).get! k=l.getD k 0:=by
 simp [ByteArray.get!,List.getD,getElem!_def];cases l[k]? <;> rfl
theorem JG {l:List UInt8} {p:Nat} (h:(l.getD p 0).toNat<128):dec l p=((l.getD p 0).toNat,1):=by
 unfold dec Utf8.decode;simp only [get_at,lE];rw [if_pos h]
theorem size_mk (l:List UInt8):(ByteArray.mk ⟨l⟩).size=l.length:=rfl
theorem ag4 {l:List UInt8} {p:Nat} (h:¬ (l.getD p 0).toNat<128):128≤(dec l p).1∧1≤(dec l p).2∧(p<l.length→p+(dec l p).2≤l.length)∧∀k,k<(dec l p).2→128≤(l.getD (p+k) 0).toNat:=by
 unfold dec Utf8.decode;simp only [get_at,lE,size_mk];rw [if_neg h];split
 ·rename_i h1
  simp only [aV,beq_iff_eq,decide_eq_true_eq] at h1;split
  ·refine⟨by dsimp only;omega,by dsimp only;omega,fun _=>by dsimp only;omega,fun k hk=>?_⟩
   have:k=0∨k=1:=by dsimp only at hk;omega
   rcases this with rfl | rfl
   ·rw [lE];omega
   ·omega
  ·exact⟨by decide,by decide,fun _=>by dsimp only;omega,fun k hk=>by (have e:k=0:=by dsimp only at hk;omega);subst e;rw [Nat.add_zero];omega⟩
 ·split
  ·rename_i h1
   simp only [aV,beq_iff_eq,decide_eq_true_eq] at h1;split
   ·rename_i h2
    simp only [aV,decide_eq_true_eq] at h2;refine⟨by dsimp only;omega,by dsimp only;omega,fun _=>by dsimp only;omega,fun k hk=>?_⟩;have:k=0∨k=1∨k=2:=by dsimp only at hk;omega
    rcases this with rfl | rfl | rfl
    ·rw [lE];omega
    ·omega
    ·omega
   ·exact⟨by decide,by decide,fun _=>by dsimp only;omega,fun k hk=>by (have e:k=0:=by dsimp only at hk;omega);subst e;rw [Nat.add_zero];omega⟩
  ·split
   ·rename_i h1
    simp only [aV,beq_iff_eq,decide_eq_true_eq] at h1;split
    ·rename_i h2
     simp only [aV,decide_eq_true_eq] at h2;refine⟨by dsimp only;omega,by dsimp only;omega,fun _=>by dsimp only;omega,fun k hk=>?_⟩;have:k=0∨k=1∨k=2∨k=3:=by dsimp only at hk;omega
     rcases this with rfl | rfl | rfl | rfl
     ·rw [lE];omega
     ·omega
     ·omega
     ·omega
    ·exact⟨by decide,by decide,fun _=>by dsimp only;omega,fun k hk=>by (have e:k=0:=by dsimp only at hk;omega);subst e;rw [Nat.add_zero];omega⟩
   ·exact⟨by decide,by decide,fun _=>by dsimp only;omega,fun k hk=>by (have e:k=0:=by dsimp only at hk;omega);subst e;rw [Nat.add_zero];omega⟩
def Of (c:Nat):List UInt8 :=
 if c<128 then [UInt8.ofNat c]
 else if c<2048 then [UInt8.ofNat (192+c / 64),UInt8.ofNat (128+c % 64)]
 else if c<65536 then [UInt8.ofNat (224+c / 4096),UInt8.ofNat (128+c / 64 % 64),UInt8.ofNat (128+c % 64)]
 else [UInt8.ofNat (240+c / 262144),UInt8.ofNat (128+c / 4096 % 64),UInt8.ofNat (128+c / 64 % 64),UInt8.ofNat (128+c % 64)]
theorem ae3 (r:Int):cU r=Of (if Utf8.valid r=true then r.toNat else Utf8.runeError):=by
 unfold cU Utf8.encode Of;generalize (if Utf8.valid r=true then r.toNat else Utf8.runeError)=c;dsimp only;by_cases h1:c<128
 ·rw [if_pos h1,if_pos h1]
 ·rw [if_neg h1,if_neg h1]
  by_cases h2:c<2048
  ·rw [if_pos h2,if_pos h2]
  ·rw [if_neg h2,if_neg h2]
   by_cases h3:c<65536
   ·rw [if_pos h3,if_pos h3]
   ·rw [if_neg h3,if_neg h3]
theorem ah1 {c:Nat} (h:128≤c):2≤(Of c).length∧(Of c).length≤4∧128≤((Of c).getD ((Of c).length - 1) 0).toNat:=by
 have hb:(UInt8.ofNat (128+c % 64)).toNat=128+c % 64:=by
  rw [UInt8.toNat_ofNat'];exact XD om
 have h1:¬ c<128:=om;unfold Of;rw [if_neg h1];by_cases h2:c<2048
 ·rw [if_pos h2]
  refine⟨si,si,?_⟩;show 128≤(UInt8.ofNat (128+c % 64)).toNat;omega
 ·rw [if_neg h2]
  by_cases h3:c<65536
  ·rw [if_pos h3]
   refine⟨si,si,?_⟩;show 128≤(UInt8.ofNat (128+c % 64)).toNat;omega
  ·rw [if_neg h3]
   refine⟨si,si,?_⟩;show 128≤(UInt8.ofNat (128+c % 64)).toNat;omega
theorem abj {r:Nat} (h:128≤r):2≤(cU (r:Int)).length∧(cU (r:Int)).length≤4∧128≤((cU (r:Int)).getD ((cU (r:Int)).length - 1) 0).toNat:=by
 rw [ae3];apply ah1;by_cases hv:Utf8.valid (r:Int)=true
 ·rw [if_pos hv];omega
 ·rw [if_neg hv,Utf8.runeError];omega
end Go.RT
namespace Go.RT
theorem XY (a b:List UInt8):Op.bytesLess a b=true↔a<b:=by rw [Go.Proofs.bytesLess_eq];simp
theorem AU (a:List UInt8):¬ a<a:=List.lt_irrefl a
theorem JJ {a b c:List UInt8} (h:a<b) (h':b<c):a<c:=List.lt_trans h h'
theorem alu (a b:List UInt8):a<b∨a=b∨b<a:=by
 by_cases h:a<b
 ·exact .inl h
 ·by_cases h':b<a
  ·exact .inr (.inr h')
  ·exact .inr (.inl (List.le_antisymm (List.not_lt.1 h') (List.not_lt.1 h)))
theorem Pq (a b:List UInt8):Op.bytesLess a b=false↔¬ a<b:=by rw [←XY];simp
theorem amo (a b:List UInt8):(!(Op.bytesLess a b))=(Op.bytesLess b a||b==a):=by
 rcases alu a b with h | h | h
 ·have h1:=(XY a b).2 h
  have h2:Op.bytesLess b a=false:=(Pq _ _).2 fun h'=>AU _ (JJ h h');have h3:(b==a)=false:=by simp;rintro rfl;exact AU _ h
  simp [h1,h2,h3]
 ·subst h
  have h1:Op.bytesLess a a=false:=(Pq _ _).2 (AU _);simp [h1]
 ·have h1:=(XY b a).2 h
  have h2:Op.bytesLess a b=false:=(Pq _ _).2 fun h'=>AU _ (JJ h h');simp [h1,h2]
end Go.RT
