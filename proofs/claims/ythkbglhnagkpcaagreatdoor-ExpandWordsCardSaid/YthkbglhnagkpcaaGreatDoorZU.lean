import Derived.Test.YthkbglhnagkpcaaGreatDoorEf
import Derived.Test.YthkbglhnagkpcaaGreatDoorTx
open Go.Op renaming bytesLess->pD
open Go.Lib renaming indexByte->lO
open UInt8 renaming ofNat->lL
open Option renaming some->iN,none->iF
open Bool renaming true->eQ,false->eK
open Decidable renaming decide->eJ
open Int renaming toNat->eI
open Go.IntKind renaming wrap->dE
open Nat renaming blt->bY
open List renaming length->Sx
set_option linter.all false
namespace Go.Proofs.YthkbglhnagkpcaaGreatDoor
open Go.RT
set_option maxRecDepth 100000
def Jv{α:Type}(S:α->Prop):Prop:=∀P:α->Nat->Prop,(∀a n m,n<=m->P a n->P a m)->(∀a,S a->∃N,P a N)->∃N,∀a,S a->P a N
theorem aeG:∀(k:Nat),Jv (λn=>n<k)
 | 0=>λP hm h=>⟨0,λa ha=>absurd ha (Nat.not_lt_zero _)⟩|k+1=>λP hm h=>by
  obtain⟨N,hN⟩:=aeG k P hm λa ha=>h a om;obtain⟨M,hM⟩:=h k om;refine⟨N+M,λa ha=>?_⟩;by_cases e:a=k
  .grind
  .exact hm _ N _ om (hN a om)
variable{α:Type}{S:α->Prop}
theorem Vr{β:Type}{T:β->Prop}(hS:Jv S)(f:α->β)(hf:∀b,T b->∃a,S a/\f a=b):Jv T:=λP hm h=>by
 obtain⟨N,hN⟩:=hS (λa n=>T (f a)->P (f a) n) (λa n m hnm h1 h2=>hm _ n m hnm (h1 h2)) (λa ha=>by
  by_cases ht:T (f a)
  .simp_all
  simp_all)
 refine⟨N,λb hb=>?_⟩;grind
theorem aqM:Jv (λ_:UInt8=>True):=Vr (aeG 256) lL λb _=>⟨b.toNat,b.toNat_lt,si⟩
theorem Sc{α β:Type}{S:α->Prop}{T:β->Prop}(hS:Jv S)(hT:Jv T):Jv (λp:α×β=>S p.1/\T p.2):=λP hm h=>by obtain⟨N,hN⟩:=hS (λa n=>∀b,T b->P (a,b) n) (λa n m hnm h1 b hb=>hm _ n m hnm (h1 b hb)) λa ha=>hT (λb n=>P (a,b) n) (λb n m hnm h1=>hm _ n m hnm h1) λb hb=>h (a,b) ⟨ha,hb⟩;exact⟨N,λp hp=>hN p.1 hp.1 p.2 hp.2⟩
theorem Sd{α:Type}{S:α->Prop}(hS:Jv S):∀(k:Nat),Jv (λl:J α=>Sx l<=k/\∀a∈l,S a)
 | 0=>λP hm h=>by simp_all|k+1=>λP hm h=>by
  obtain⟨M,hM⟩:=h [] ⟨fF _,λ_ h=>nomatch h⟩
  obtain⟨N,hN⟩:=Sc hS (Sd hS k) (λp n=>P (p.1::p.2) n) (λp n m hnm h1=>hm _ n m hnm h1) λp hp=>h _ ⟨by simp_all,λa ha=>by
   grind⟩
  refine⟨N+M,λl hl=>?_⟩;cases l with|nil=>grind|cons a t=>exact hm _ N _ om (hN (a,t) ⟨hl.2 a (wK),by simp_all,λx hx=>hl.2 x (nt _ hx)⟩)
def Vs(k:Nat):Jv (λs:Bs=>Sx s<=k):=Vr (Sd aqM k) id λs hs=>⟨s,⟨hs,λ_ _=>trivial⟩,rfl⟩
def aor:Jv (λl:J cA=>Sx l<=128/\∀b∈l,Sx b.fName<=60/\b.cg.length<=4096):=Sd (Vr (Sc (Vs 60) (Vs 4096)) (λp=>cA.mk p.1 p.2) λb hb=>⟨(b.fName,b.cg),hb,rfl⟩) 128
end Go.Proofs.YthkbglhnagkpcaaGreatDoor
namespace Go.Proofs.YthkbglhnagkpcaaGreatDoor.K
open Go.RT
theorem aqN{e:d5}(ho:je e){l:J dh}(hl:Sx l<=1000)(hb:Vg l):ir (zi e l).1:=by
 have z:ir 0:=by unfold ir;decide
 unfold zi;cases hv:(iW e 0 != 0)with
 | true=>exact z|false=>
  have jU:iW e 0=0:=by simpa using hv
  have g:Good e:=⟨Ko e 0 jU,ho,XG e (Ko e 0 jU)⟩;obtain⟨k1,k2⟩:=Rt e g _ _ (IZ hb);grind
theorem aos{I:Env->Prop}(hI:∀m k n,I m->I (jJ dc m k (Lib.itoa n))):∀(e:d5)(m:Env),I m->I (mq e m).2.2:=by
 intro e
 induction e using d5.ind with
 | h op n name kids ih=>
  intro m hm;rw[XF];show I (evB op n name (kids.map mq) m).2.2;have hk:∀(i:Nat)(m:Env),I m->I ((kids.map mq).getD i dK m).2.2:=λi m hm=>by
   by_cases h:i<Sx kids
   .simp_all
   .rw[UA,Ss (by simpa using h)];exact hm
  unfold evB Lq Rr ael;grind
theorem alO(e:d5)(l:J dh):∀b∈(zi e l).2.1,b.cg≠[]\/b∈l:=by
 have nd:∀u:Nat,Lib.decDigits u≠[]:=λu=>by rw[Lib.decDigits];split<;>simp
 have nn:∀n:Int,Lib.itoa n≠[]:=λn=>by unfold Lib.itoa;grind
 have hI:=aos (I:=λm=>∀p∈m,p.2≠[]\/dh.mk p.1 p.2∈l) (λm k n h p hp=>by
  rcases Vc hp with rfl|hp
  .exact .inl (nn n)
  .exact h p hp) e (vD l) (by
  unfold vD;have key:∀(k:J dh)(m:Env),(∀b∈k,b∈l)->(∀p∈m,p.2≠[]\/dh.mk p.1 p.2∈l)->∀p∈k.foldl (λm b=>jJ dc m b.fName b.cg) m,p.2≠[]\/dh.mk p.1 p.2∈l:=by
   intro k
   induction k with
   | nil=>intro m _ h;exact h|cons b k ih=>
    intro m hk h;refine ih _ (λc hc=>hk c (nt _ hc)) λp hp=>?_;rcases Vc hp with rfl|hp
    .simp_all
    .exact h p hp
  grind)
 intro b hb;unfold zi at hb;revert hb;cases (iW e 0 != 0)
 .cases ((mq e (vD l)).2.1 != 0)
  .intro hb;obtain⟨k,hk,rfl⟩:=(Ef _ _).1 hb;rcases NX (mq e (vD l)).2.2 k ([]:Bs)with⟨p,hp,h1,h2⟩|⟨h1,_⟩
   .have:=hI p hp;rw[h1,h2]at this;exact this
   .exact absurd hk h1
  .intro hb;cases hb
 .intro hb;cases hb
def X8(N:Nat)(s:Bs)(b:J dh):Prop:=∃r:Int×J dh×Int,(ir r.1/\r.2.1.length<=100000/\∀c∈r.2.1,c.cg≠[]\/c∈b)/\∀F,N<=F->Fz F s b=iN r/\CX F s b=iN r
theorem aqO(s:Bs)(b:J dh)(hs:Sx s<=4096)(hl:Sx b<=128)(hb:Vg b):∃N,X8 N s b:=by
 obtain⟨x,⟨ho,hn⟩,hp⟩:=aga s hs;have h1:=aeo ho om hb hn;have h2:=af8 ho om hb hn;obtain⟨N,hN⟩:=hp.and (h1.and h2);refine⟨N,cond (x.2.2 != 0) (0,[],x.2.2) (zi x.1 b),?_,λF hF=>?_⟩
 .cases (x.2.2 != 0)with
  | true=>exact⟨show ir 0 by unfold ir;decide,fF _,λ_ h=>nomatch h⟩
  | false=>grind[aqN,alz,alO]
 .unfold Fz CX wx;grind[d5.eta]
theorem aeH:∃N,∀(s:Bs)(b:J dh),Sx s<=4096->Sx b<=128->Vg b->X8 N s b:=by obtain⟨N,hN⟩:=Sc (Vs 4096) aor (λp n=>X8 n p.1 p.2) (λp n m hnm ⟨r,h1,h2⟩=>⟨r,h1,λF hF=>h2 F om⟩) λp hp=>aqO p.1 p.2 hp.1 hp.2.1 hp.2.2;exact⟨N,λs b h1 h2 h3=>hN (s,b) ⟨h1,h2,h3⟩⟩
noncomputable def NC:Nat:=Classical.choose aeH
def ZG:∀(s:Bs)(b:J dh),Sx s<=4096->Sx b<=128->Vg b->X8 NC s b:=Classical.choose_spec aeH
end Go.Proofs.YthkbglhnagkpcaaGreatDoor.K
namespace Go.Proofs.YthkbglhnagkpcaaGreatDoor
open Go.RT
noncomputable def NC:Nat:=K.NC
abbrev Fg(l:J cA):Prop:=∀b,b∈l->Sx b.fName<=60/\b.cg.length<=4096
theorem ZG(s:Bs)(b:J cA)(h1:Sx s<=4096)(h2:Sx b<=128)(h3:Fg b):∃r:Int×J cA×Int,(K.ir r.1/\r.2.1.length<=100000/\∀c∈r.2.1,c.cg≠[]\/c∈b)/\∀F,NC<=F->Fz F s b=iN r/\CX F s b=iN r:=K.ZG s b h1 h2 h3
set_option maxRecDepth 100000
def Dg(l:J bP):Prop:=l.Pairwise λa b=>a.fName<b.fName
variable{F:Nat}
theorem Vt(l:J bP)(p:bP->Bool){m:bP->O Bool}(hm:∀v,m v=iN (p v))(hF:Sx l<F)(hl:Sx l<=1000):
  ck (σ:=Int) (λbA x1=>cond (eJ (x1<(Sx l:Int))) (rq ((eJ (0<=x1))&&(eJ (x1<(Sx l:Int)))) ((m (l.getD (eI x1) eH)).bind λx3=>cond x3 (iN x1) (bA (aE (x1+1))))) (iN (-1))) F 0=iN ((l.findIdx? p).elim (-1) λi=>(i:Int)):=by
 rw[oQ l (λi=>(i:Int)) p (λi _=>iN (i:Int)) (iN (-1)) (s:=(0:Int)) hF rfl (λi h rc=>?_) (λrc=>?_)]
 .rw[UN _ _ _ eH];cases l.findIdx? p<;>simp
 .rw[b9 om,bX om om,bN,gd h,hm,aC,bF om]
 .rw[cf om]
theorem Vu(p:bP->Bool):∀l:J bP,l.find? p=(l.findIdx? p).map λi=>l.getD i eH
 | []=>rfl|x::l=>by
  rw[PM,abp,Vu p l];cases p x
  .cases List.findIdx? p l<;>simp
  .rfl
theorem Om{p:bP->Bool}{l:J bP}{i:Nat}(h:l.findIdx? p=iN i):i<Sx l/\p (l.getD i eH)=eQ:=by grind[List.findIdx?_eq_some_iff_getElem,gd]
theorem ajN(F:Nat)(l:J bP)(n:Bs)(hF:Sx l<F)(hl:Sx l<=1000):yD F l n=iN (jG l n):=by
 unfold yD R3 jG wx;rw[Vt l (λv=>v.fName==n) (m:=λv=>Og F v n) (λv=>rfl) hF hl,Vu];cases h:l.findIdx? λv=>v.fName==n with
 | none=>rfl|some i=>obtain⟨h1,-⟩:=Om h;simp_all[b9,rq,bX]
theorem Tp(F:Nat)(l:J bP)(i k:Nat)(v:bP)(hi:i+k<=Sx l)(hl:Sx l<=1000):tJ F l (i:Int) (k:Int) [v]=iN (l.take i++v::l.drop (i+k)):=by
 unfold tJ wx;have e1:aE ((Sx l:Int)+(Sx ([v]:J bP):Int))=((Sx l+1:Nat):Int):=bQ aM;have e2:aE ((i:Int)+(k:Int))=((i+k:Nat):Int):=bQ om;have s1:sl l 0 (i:Int)=l.take i:=by simp[sl]
 have s2:sl l ((i+k:Nat):Int) (Sx l:Int)=l.drop (i+k):=by grind[sl,Int.toNat_natCast,List.take_length]
 grind[cy,bX,o5,LQ]
def ja(l:J bP)(n:Bs):Nat×Bool:=match l.findIdx? λv=>v.fName==n with
 | some i=>(i,eQ)|none=>match l.findIdx? λv=>!(pD v.fName n||v.fName==n)with
  | some i=>(i,eK)|none=>(Sx l,eK)
theorem alP(F:Nat)(l:J bP)(n:Bs)(hF:Sx l<F)(hl:Sx l<=1000):C9 F l n=iN ((((ja l n).1:Nat):Int),(ja l n).2):=by unfold C9 LA LB ja wx;rw[Vt l (λv=>v.fName==n) (m:=λv=>Jg F v n) (λv=>rfl) hF hl,Vt l (λv=>!(pD v.fName n||v.fName==n)) (m:=λv=>Jh F v n) (λv=>rfl) hF hl];grind
theorem aeI(l:J bP)(n:Bs):(ja l n).1+cond (ja l n).2 1 0<=Sx l:=by
 unfold ja;split
 .rename_i i h;exact(Om h).1
 .split
  .rename_i i h;exact Nat.le_of_lt (Om h).1
  .exact eE _
theorem aaD{l:J bP}{n:Bs}:jG l n=cond (ja l n).2 (l.getD (ja l n).1 eH,eQ) (bP.mk [] [] eK eK eK,eK):=by unfold ja jG;grind[Vu]
theorem X9{l:J bP}{n:Bs}(h:(ja l n).2=eQ):(l.getD (ja l n).1 eH).fName=n:=by unfold ja at h⊢;grind[Om]
theorem FI(v:bP):∀(l:J bP),(∀x∈l,¬ x.fName=v.fName)->ox v l eQ=l
 | [],_=>rfl|x::l,h=>by
  have h1:(x.fName==v.fName)=eK:=by simpa using h x wK
  simp only[ox,h1,Bool.true_or];rw[FI v l λy hy=>h y (nt _ hy)];rfl
theorem H6(v:bP):∀ {l:J bP},Dg l->ox v l eK=l.take (ja l v.fName).1++v::l.drop ((ja l v.fName).1+cond (ja l v.fName).2 1 0)
 | [],_=>rfl|x::l,h=>by
  obtain⟨h1,h2⟩:=xw.1 h;rcases Rj x.fName v.fName with hx|hx|hx
  .have b1:=(JY _ _).2 hx;have b2:(x.fName==v.fName)=eK:=by simpa using λe:x.fName=v.fName=>nF _ (e▸hx)
   have:=H6 v h2;have e:ja (x::l) v.fName=((ja l v.fName).1+1,(ja l v.fName).2):=by
    unfold ja;rw[abp,abp,b2,b1];cases l.findIdx? λy=>y.fName==v.fName with
    | some i=>simp|none=>cases l.findIdx? λy=>!(pD y.fName v.fName||y.fName==v.fName)<;>simp
   rw[e];simp only[ox,b1,b2];rw[show(eK || !eQ)=eK from rfl,this,show(ja l v.fName).1+1+cond (ja l v.fName).2 1 0=((ja l v.fName).1+cond (ja l v.fName).2 1 0)+1 by omega];rfl
  .have b1:pD x.fName v.fName=eK:=(B6 _ _).2 (by simp_all);have b2:(x.fName==v.fName)=eQ:=by simpa using hx
   have e:ja (x::l) v.fName=(0,eQ):=by unfold ja;grind
   simp only[ox];grind[FI,nF]
  .have b1:=(B6 _ _).2 λh=>nF _ (o8 h hx);have b2:(x.fName==v.fName)=eK:=by grind
   have hy:∀y∈l,¬ y.fName=v.fName:=λy hy e=>nF v.fName (o8 hx (by grind));have e:ja (x::l) v.fName=(0,eK):=by unfold ja;grind
   simp[ox,b2];simp_all[FI]
theorem Vv{v:bP}:∀ {l:J bP},Dg l->Dg (ox v l eK)
 | [],_=>by unfold Dg;exact ahu _ _|x::l,h=>by
  obtain⟨h1,h2⟩:=xw.1 h;rcases Rj x.fName v.fName with hx|hx|hx
  .have b1:=(JY _ _).2 hx;have b2:(x.fName==v.fName)=eK:=by simpa using λe:x.fName=v.fName=>nF _ (e▸hx)
   simp[ox,b1,b2];refine xw.2 ⟨λy hy=>?_,Vv h2⟩;rcases UH v l _ y hy with rfl|hy
   .exact hx
   .exact h1 y hy
  .have b1:pD x.fName v.fName=eK:=(B6 _ _).2 (by simp_all);have b2:(x.fName==v.fName)=eQ:=by simpa using hx
   simp only[ox,b1,b2];rw[show(eK || !eK)=eQ from rfl,FI v l λy hy e=>nF _ (by have:=h1 y hy;rw[hx,e]at this;exact this)];exact xw.2 ⟨λy hy=>by simp_all,h2⟩
  .have b1:=(B6 _ _).2 λh=>nF _ (o8 h hx);have b2:(x.fName==v.fName)=eK:=by grind
   simp only[ox,b1,b2];rw[show(eK || !eK)=eQ from rfl,FI v l λy hy e=>nF v.fName (o8 hx (by grind))];refine xw.2 ⟨λy hy=>?_,h⟩;rcases gL.1 hy with rfl|hy
   .exact hx
   .exact o8 hx (h1 y hy)
def GA(l:J bP):Prop:=GV l/\Dg l
def GA.len{l:J bP}(h:GA l):Sx l<=128:=h.1.1
theorem avZ(F:Nat){l:J bP}(h:GA l)(n v:Bs)(hF:1000<F):∃r,GA r.1/\uQ F l n v=iN r/\Ji F l n v=iN r:=by
 have hl:=h.1.1;obtain⟨r0,h0,e0⟩:=atJ F h.1 n v hF;refine⟨r0,?_⟩;obtain⟨b,hb,eb⟩:=GK F n om;unfold uQ wx at e0⊢;unfold Ji;rw[K.IU F n om,eb];rw[Ao F l n om om]at e0⊢;rw[eb]at e0;cases b with
 | false=>grind|true=>
  have hle:=aeI l n;have hgt:=aaD (l:=l) (n:=n);have hnm:=X9 (l:=l) (n:=n);have hat:=λa (b c d:Bool)=>(SJ F l (bP.mk n a b c d) om om).trans (congrArg iN (H6 (bP.mk n a b c d) h.2));have sI:=λa (b c d:Bool)=>H6 (bP.mk n a b c d) h.2▸Vv h.2;rw[alP F l n om om];rw[hgt]at e0⊢;dsimp only at hat sI hnm⊢;generalize ja l n=q at hle hgt hnm hat sI e0⊢;obtain⟨i,b⟩:=q;cases b with
  | false=>
   dsimp at hle hat sI e0⊢;by_cases h4:4096<Sx v
   .grind
   rw[cf om]at e0⊢;rw[cf om];simp at e0⊢;by_cases h5:128<=Sx l
   .grind
   rw[cf om]at e0⊢;rw[hat]at e0⊢;cases e0;refine⟨⟨h0,sI _ _ _ _⟩,rfl,?_⟩;rw[cf om,show((0:Int))=((0:Nat):Int)from rfl,Tp F l i 0 _ om om];rfl
  | true=>
   dsimp only[cond_false,cond_true,Option.bind_some]at hle hat sI hnm e0⊢;rw[bX om om,bN];generalize l.getD i eH=o at hnm e0⊢;cases hr:o.mW with|true=>grind|false=>
   rw[hr]at e0;by_cases h4:4096<Sx v
   .grind
   rw[cf om]at e0⊢;rw[cf om];rw[hat]at e0⊢;cases e0;refine⟨⟨h0,sI _ _ _ _⟩,rfl,?_⟩;rw[bX om om,show((1:Int))=((1:Nat):Int)from rfl,Tp F l i 1 _ om om];simp_all
theorem auL(F:Nat){l:J bP}(h:GA l)(n:Bs)(a b:Bool)(hF:1000<F):∃r,GA r.1/\sW F l n a b=iN r/\FA F l n a b=iN r:=by
 have hl:=h.1.1;obtain⟨r0,h0,e0⟩:=arD F h.1 n a b hF;refine⟨r0,?_⟩;obtain⟨c,hb,eb⟩:=GK F n om;unfold sW wx at e0⊢;unfold FA;rw[K.IU F n om,eb];rw[eb]at e0;cases c with
 | false=>grind|true=>
  rw[Ao F l n om om]at e0⊢;have hle:=aeI l n;have hgt:=aaD (l:=l) (n:=n);have hnm:=X9 (l:=l) (n:=n);have hat:=λa (b c d:Bool)=>(SJ F l (bP.mk n a b c d) om om).trans (congrArg iN (H6 (bP.mk n a b c d) h.2));have sI:=λa (b c d:Bool)=>H6 (bP.mk n a b c d) h.2▸Vv h.2;rw[alP F l n om om];rw[hgt]at e0⊢;dsimp only at hat sI hnm⊢;generalize ja l n=q at hle hgt hnm hat sI e0⊢;obtain⟨i,c⟩:=q;cases c with
  | false=>
   dsimp at hle hat sI e0⊢;simp at e0⊢;by_cases h5:128<=Sx l
   .grind
   rw[cf om]at e0⊢;rw[hat]at e0⊢;cases e0;refine⟨⟨h0,sI _ _ _ _⟩,rfl,?_⟩;rw[cf om,show((0:Int))=((0:Nat):Int)from rfl,Tp F l i 0 _ om om];rfl
  | true=>dsimp only[cond_false,cond_true,Option.bind_some]at hle hat sI hnm e0⊢;rw[bX om om];simp[aG]at e0⊢;rw[hat]at e0⊢;cases e0;refine⟨⟨h0,sI _ _ _ _⟩,rfl,?_⟩;rw[show((1:Int))=((1:Nat):Int)from rfl,Tp F l i 1 _ om om];simp_all
def r7:Nat->Bs->Nat|a,[]=>a|a,b::l=>r7 (10*a+(b.toNat-48)) l
def Dw(b:UInt8):Bool:=eJ (48<=b.toNat)&&eJ (b.toNat<=57)
theorem ZH:∀(l:Bs)(a:Nat),a*10^l.length<=r7 a l
 | [],a=>Nat.le_of_eq (Sp a)|b::l,a=>by
  have:=ZH l (10*a+(b.toNat-48));have h2:a*10^(Sx l+1)<=(10*a+(b.toNat-48))*10^l.length:=by rw[Nat.pow_succ,abq (10^l.length)];grind
  show a*10^(Sx l+1)<=r7 (10*a+(b.toNat-48)) l;grind
theorem aqP(l:Bs)(a:Nat):a<=r7 a l:=by have:=ZH l a;have h:=ahv a (Nat.pow_pos (n:=Sx l) (by decide:0<10));omega
theorem Vw:∀(l m:Bs)(a:Nat),r7 a (l++m)=r7 (r7 a l) m|[],m,a=>rfl|b::l,m,a=>Vw l m _
theorem aaE(s:Bs){k:Nat}(h:k<Sx s):r7 0 (s.take (k+1))=10*r7 0 (s.take k)+(s[k].toNat-48):=by rw[ku h,Vw];rfl
theorem alQ(s:Bs)(k:Nat):r7 0 (s.take k)<=r7 0 s:=by grind[List.take_append_drop,Vw,aqP]
def Dh(s:Bs):Int×Bool:=if s.all Dw=eQ/\r7 0 s<=2147483647 then((r7 0 s:Nat),eQ)else(0,eK)
theorem aeJ{s:Bs}{k:Nat}(h:k<Sx s)(ha:(s.take k).all Dw=eQ)(hd:Dw s[k]=eQ):(s.take (k+1)).all Dw=eQ:=by grind[List.take_succ_eq_append_getElem]
theorem ZI{s:Bs}{k:Nat}(h:k<Sx s)(hd:Dw s[k]=eK):Dh s=(0,eK):=by unfold Dh;grind
theorem av0(F:Nat)(s:Bs)(hF:Sx s<F)(hl:Sx s<=1000)(h0:s≠[])(h1:s.getD 0 0≠48):rU F s=iN (Dh s):=by
 have:aB (λr=>r=Dh s) (rU F s):=by
  unfold rU wx;have e1:(s==[48])=eK:=by grind
  have e2:(s==[])=eK:=by simpa using h0
  have e3:(((s.getD 0 0).toNat:Int)==48)=eK:=by have:(s.getD 0 0).toNat≠48:=λh=>h1 (by apply ahw.1;rw[h];rfl);grind
  have:=AJ.2 h0;rw[e1,e2,aI,aI,jP om,e3,aC,aI];refine aB.lp (λz:Int×Bs×Int=>z.2.1=s/\∃k:Nat,z.2.2=(k:Int)/\k<=Sx s/\(s.take k).all Dw=eQ/\z.1=(r7 0 (s.take k):Nat)/\r7 0 (s.take k)<=2147483647) (λz=>Sx s-z.2.2.toNat) ⟨rfl,0,rfl,om,rfl,rfl,fF _⟩ (by simp_all) ?_;rintro⟨x,s',p⟩ ⟨q1,k,q2,h2,h3,q3,h4⟩ rc hrc;have q1:=q1.symm;subst q1 q2 q3;rw[bN];by_cases hk:k<Sx s
  .have hb:bY k s.length=eQ:=abr hk;rw[hb,aQ,K.ali,aC];have hgd:s.getD k 0=s[k]:=gd hk;by_cases hs:(s.getD k 0).toNat<128
   .rw[K.Bj hs];have hdd:K.gF ((s.getD k 0).toNat:Int)=Dw s[k]:=by unfold K.gF Dw;grind
    rw[hdd];cases hd:Dw s[k]with
    | false=>grind[aB.ok,ZI]|true=>
     have hd':=hd;unfold Dw at hd';rw[cH,fO,fO]at hd';have ev:=aaE s hk;have e5:aE ((aE (10*((r7 0 (s.take k):Nat):Int)))+(aE (dE .i32 (((s.getD k 0).toNat:Int)-48))))=((r7 0 (s.take (k+1)):Nat):Int):=by rw[hgd,show dE .i32 ((s[k].toNat:Int)-48)=(s[k].toNat:Int)-48 from IntWalk.i32_in _ om,bQ (x:=(s[k].toNat:Int)-48) om,bQ (x:=10*_) om,bQ om,ev];omega
     dsimp only;rw[e5];refine aB.cd (λh=>aB.ok ?_) λh=>hrc _ ⟨rfl,k+1,rfl,hk,aeJ hk h3 hd,rfl,om⟩ (by grind);have:=alQ s (k+1);unfold Dh;rw[if_neg om]
   .have:=K.aaw hs;have:K.gF ((dec s k).1:Int)=eK:=by unfold K.gF;grind
    rw[this];refine aB.ok (ZI hk ?_).symm;unfold Dw;grind
  .have hb:bY k s.length=eK:=by cases h:bY k s.length with|false=>rfl|true=>exact absurd (lY h) hk
   rw[hb,aI];refine aB.ok ?_;unfold Dh;grind
 obtain⟨r,h,e⟩:=this;rw[e,h]
theorem av1(F:Nat)(s:Bs)(hF:Sx s<F)(hl:Sx s<=1000)(h0:s≠[])(h1:s.getD 0 0≠48):nv F s=iN (Dh s):=by
 have:aB (λr=>r=Dh s) (nv F s):=by
  unfold nv wx;have e2:(s==[])=eK:=by simpa using h0
  have e3:(((s.getD 0 0).toNat:Int)==48)=eK:=by have:(s.getD 0 0).toNat≠48:=λh=>h1 (by apply ahw.1;rw[h];rfl);grind
  have hp:=AJ.2 h0;rw[e2,aI,aC];refine aB.bd (P:=λb=>b=eJ (10<Sx s)) (aB.cd (λh=>aB.ok (by grind)) λh=>?_) λb hb=>?_
  .grind[jP,aB.ok,decide_eq_false]
  subst hb;refine aB.cd (λh=>aB.ok ?_) λh=>?_
  .unfold Dh;rw[if_neg λhh=>?_];have hall:=pW.1 hh.1;obtain⟨a,l,rfl⟩:∃a l,s=a::l:=by cases s with|nil=>exact absurd rfl h0|cons a l=>exact⟨a,l,rfl⟩
   have ha:=hall a wK;unfold Dw at ha;rw[cH,fO,fO]at ha;have hne:a.toNat≠48:=λh=>h1 (by simp_all);have h5:=ZH l (10*0+(a.toNat-48));have h6:10^10<=10^l.length:=abt de (by simp at h;omega);have h7:1*10^l.length<=(10*0+(a.toNat-48))*10^l.length:=AK _ om;have h8:r7 0 (a::l)=r7 (10*0+(a.toNat-48)) l:=rfl;grind
  .refine aB.lp (λz:Int×Int=>∃k:Nat,z.2=(k:Int)/\k<=Sx s/\(s.take k).all Dw=eQ/\z.1=(r7 0 (s.take k):Nat)/\r7 0 (s.take k)<10^k) (λz=>Sx s-z.2.toNat) ⟨0,rfl,om,rfl,rfl,Nat.one_pos⟩ (by simp_all) ?_;rintro⟨x,p⟩ ⟨k,q2,h2,h3,q3,h4⟩ rc hrc;dsimp only at q2 q3 hrc⊢;subst q2 q3;refine aB.cd (λhk=>?_) λhk=>?_
   .have hk:k<Sx s:=om;have hgd:s.getD k 0=s[k]:=gd hk;rw[bX om om,bN,K.Xx,aC,hgd];have hdd:K.gF (s[k].toNat:Int)=Dw s[k]:=by unfold K.gF Dw;grind
    rw[hdd];cases hd:Dw s[k]with
    | false=>grind[aB.ok,ZI]|true=>
     have hd':=hd;unfold Dw at hd';rw[cH,fO,fO]at hd';have ev:=aaE s hk;have h10:10^k<=10^9:=abt de om;have e5:aE ((aE (10*((r7 0 (s.take k):Nat):Int)))+(aE (dE .u8 ((s[k].toNat:Int)-48))))=((r7 0 (s.take (k+1)):Nat):Int):=by
      rw[show dE .u8 ((s[k].toNat:Int)-48)=(s[k].toNat:Int)-48 from by
       show((s[k].toNat:Int)-48)%256=_;omega,bQ (x:=(s[k].toNat:Int)-48) om,bQ (x:=10*_) om,bQ om,ev]
      omega
     rw[fU,aI,bX om om,e5,bF om];refine hrc _ ⟨k+1,rfl,hk,aeJ hk h3 hd,rfl,?_⟩ (by grind);grind
   .rw[va om]at h3 h4⊢;unfold Dh;refine aB.cd (λh=>aB.ok ?_) λh=>aB.ok ?_
    .rw[if_neg om]
    grind
 obtain⟨r,h,e⟩:=this;rw[e,h]
def NoF(e:eS):Prop:=e.vR=[]/\e.p6=[]/\e.vS=[]
def GEn(e:eS):Prop:=GV e.bR/\e.cZ.length<=12/\(∀x∈e.cZ,Sx x<=60)/\e.fName.length<=60/\K.ir e.gC/\K.ir e.DM/\K.ir e.qy/\NoF e
def GS(s:aY):Prop:=GEn s.bI/\(∀a∈s.fA,Sx a.fText<=60)/\s.fA.length<=2000/\∃u:Nat,s.fused=(u:Int)/\u<=Sx s.fA
def stop(s:aY):Bool:=s.fe != 0||s.nh
def RB(k:Nat)(l:J aA):Prop:=Sx l<=26*k/\bH l<=5000*k
theorem RB.one{k:Nat}{t:Bs}{c:Int}(hk:1<=k)(h:Sx t<=5000*k):RB k [aA.mk t c]:=⟨aM,by simp[bH];omega⟩
theorem RB.nil{k:Nat}:RB k []:=⟨si,by simp[bH]⟩
theorem RB.mono{k j:Nat}{l:J aA}(h:RB k l)(hj:k<=j):RB j l:=⟨by have:=h.1;omega,by have:=h.2;omega⟩
theorem RB.app{k j:Nat}{l m:J aA}(h:RB k l)(h':RB j m):RB (k+j) (l++m):=⟨by have:=h.1;have:=h'.1;grind,by have:=h.2;have:=h'.2;rw[HR];omega⟩
theorem qU(F:Nat)(s:aY):fV F s=iN (stop s):=by unfold fV wx;rw[aG];rfl
theorem yQ(F:Nat)(e:Int)(m:Bs)(s:aY):gJ F e m s=iN (cond (stop s) s {s with fe:=e,fX:=m}):=by unfold gJ wx;grind[qU]
variable{s:aY}
theorem alR{e:Int}(he:e≠0)(m:Bs):stop (cond (stop s) s {s with fe:=e,fX:=m})=eQ:=by
 cases h:stop s with
 | true=>exact h|false=>show(e != 0||_)=eQ;simp_all
theorem Tq(F:Nat)(p:dm):∃c,eX F p=iN c:=by unfold eX wx;simp_all[aG]
theorem as0(F:Nat)(p:dm):∃c,rS F p=iN c:=by unfold rS wx;simp_all[aG]
theorem aot(F:Nat)(e:Int):aB (λr=>Sx r<=100) (CY F e):=by exact aB.cb (λ_=>aB.ok de) λ_=>aB.cb (λ_=>aB.ok de) λ_=>aB.cb (λ_=>aB.ok de) λ_=>aB.cb (λ_=>aB.ok de) λ_=>aB.ok de
theorem aou(F:Nat)(o:Int)(c s:Bool)(v:Bs):∃r,uI F o c s v=iN r:=by unfold uI wx;simp_all[aG,aC]
theorem apr(F:Nat)(p:d6):∃b,yz F p=iN b:=by unfold yz wx;simp_all[aG,aC]
def auM(F:Nat)(n:Int)(hF:30<=F)(h:K.ir n):∃r,Sx r<=60/\dW F n=iN r:=⟨_,K.zh h,K.Mj F hF h⟩
theorem aeK(F:Nat)(l:J aA)(hF:Sx l<F)(h1:Sx l<=1000000000)(h2:bH l<=1000000000):qI F l=iN (l.flatMap λr=>r.fText):=by
 have:aB (λr=>r=l.flatMap λr=>r.fText) (qI F l):=by
  have hsz:∀k,Sx ((l.take k).flatMap λr=>r.fText)<=bH l:=λk=>by
   have h:(l.flatMap λr=>r.fText)=((l.take k).flatMap λr=>r.fText)++((l.drop k).flatMap λr=>r.fText):=by rw[<-Ia,DB]
   have h2:bH l=Sx (l.flatMap λr=>r.fText):=by unfold bH;rw[List.length_flatMap]
   simp_all
  refine aB.lp (λz=>∃k:Nat,z.2=(k:Int)/\k<=Sx l/\z.1=(l.take k).flatMap λr=>r.fText) (λz=>Sx l-z.2.toNat) ⟨0,rfl,om,si⟩ (by simp_all) ?_;rintro⟨_,_⟩ ⟨k,rfl,h3,rfl⟩ rc hrc;dsimp only at hrc⊢;refine aB.cd (λh=>?_) λh=>aB.ok (by grind);have hk:k<Sx l:=om;have e1:((l.take (k+1)).flatMap λr=>r.fText)=((l.take k).flatMap λr=>r.fText)++l[k].fText:=by rw[uV _ _ _ hk]
  have h5:=hsz (k+1);rw[e1,ov]at h5;rw[bX om om,bN,gd hk,bF om];exact aB.rq (decide_eq_true om) (hrc _ ⟨k+1,rfl,hk,e1.symm⟩ (by grind))
 obtain⟨r,h,e⟩:=this;rw[e,h]
theorem auN(F:Nat)(n:Bs)(hF:Sx n<F)(hn:Sx n<=1000):∃r,iC F n=iN r:=by
 by_cases h:n=[]
 .subst h;exact⟨0,rfl⟩
 have:=AJ.2 h;obtain⟨d,hd⟩:=Yi F n hF om;unfold iC wx;rw[jP om];simp_all[aC,aG]
variable{e:eS}
theorem aqQ(F:Nat)(h:GEn e)(n:Bs)(hF:1000<F)(hn:Sx n<=1000):aB (λr=>Sx r.1<=4096) (kY F e n):=by
 obtain⟨hV,hP,hP',hN,h1,h2,h3,-⟩:=h;have hl:=hV.1;unfold kY wx;obtain⟨p,hp⟩:=auN F n om om;rw[hp,aC,Ao F e.bR n om om];refine aB.bd (GK F n om) λb _=>aB.cb (λ_=>?_) λ_=>?_
 .exact aB.cb (λ_=>aB.ok de) λ_=>aB.ok (SI hV n).2
 rw[aG];refine aB.cb (λhc=>?_) λ_=>?_
 .rw[cF,cH]at hc;have c1:=DA hc.1;have c2:=DA hc.2;rw[bQ om];refine aB.rq (mL om om) (aB.ok ?_);have hk:(p-1).toNat<Sx e.cZ:=om;rw[gd hk];grind
 refine aB.cb (λ_=>aB.ok (by grind)) λ_=>?_;have dec:∀(m:Int),K.ir m->aB (λr=>Sx r.1<=4096) ((dW F m).bind λx=>iN (x,eQ)):=λm hm=>by obtain⟨r,h1,h2⟩:=auM F m om hm;grind[aB.ok]
 refine aB.cb (λ_=>dec _ ⟨om,om⟩) λ_=>aB.cb (λ_=>dec _ h1) λ_=>aB.cb (λ_=>?_) λ_=>aB.cb (λ_=>dec _ h2) λ_=>?_
 .grind[aB.bd,apR,aB.ok]
 rw[aG];refine aB.cb (λ_=>dec _ h3) λ_=>aB.cb (λ_=>?_) λ_=>aB.cb (λ_=>?_) λ_=>aB.ok de
 .grind[aB.bd,aka,aB.ok]
 grind[aB.bd,akb,aka,aB.ok]
theorem aqR(F:Nat)(h:GS s)(n v:Bs)(p:dm)(hv:Sx v<=4096)(hF:1000<F):aB (RB 1) (nO F n v p s):=by
 obtain⟨⟨hV,hP,hP',-⟩,-⟩:=h;unfold nO wx;simp only[aG];obtain⟨c,hc⟩:=Tq F p;rw[hc];refine aB.cb (λ_=>aB.ok (RB.one om om)) λ_=>?_;refine aB.lp (λz=>∃k:Nat,z.2=(k:Int)/\k<=Sx s.bI.cZ/\z.1.length<=2*k/\bH z.1<=60*k) (λz=>Sx s.bI.cZ-z.2.toNat) ⟨0,rfl,om,si,by simp[bH]⟩ (by grind) ?_;rintro⟨o,_⟩ ⟨k,rfl,h1,h2,h3⟩ rc hrc;refine aB.cd (λh=>?_) λ_=>aB.ok ⟨om,om⟩;have hk:k<Sx s.bI.cZ:=om;have hx:=hP' _ (fW hk);refine aB.bd (P:=λu=>Sx u<=2*k+1/\bH u<=60*k) (aB.cd (λ_=>aB.rq (o5 (by grind) de) (aB.ok ⟨aM,by rw[HR];show bH o+0<=_;omega⟩)) λ_=>aB.ok ⟨om,h3⟩) λu hu=>?_;rw[bX om om,bN,gd hk,bF om];refine aB.rq (o5 (by grind) de) (hrc _ ⟨k+1,rfl,hk,?_,?_⟩ (by grind))
 .grind
 .show bH (u++[aA.mk s.bI.cZ[k] c])<=_;rw[HR];simp[bH]at hu⊢;omega
def as1(F:Nat)(o:Int):E0 F o=zO F o:=rfl
theorem alS(g x:Bs):∀l:J Bs,l≠[]->Lib.join (l++[x]) g=Lib.join l g++(g++x)|[],h=>absurd rfl h|a::l,_=>by rw[tq,Lib.join_cons,Lib.join_cons];unfold Lib.joinTail;simp
theorem aaF(l:J Bs)(g:Bs)(n:Nat)(hg:Sx g<=1)(h:∀a∈l,a.length<=n):(Lib.join l g).length<=(n+1)*Sx l:=by
 cases l with
 | nil=>simp[Lib.join_nil]|cons a r=>
  rw[Lib.join_cons];have h2:∀r:J Bs,(∀c∈r,Sx c<=n)->Sx (Lib.joinTail g r)<=(n+1)*Sx r:=λr=>by
   unfold Lib.joinTail
   induction r with|nil=>intro _;simp|cons b r ih=>grind[List.mem_cons_self,List.mem_cons_of_mem,List.flatten_cons,List.length_append,List.length_cons,Nat.mul_succ]
  grind[List.mem_cons_of_mem,List.length_append,List.length_cons,Nat.mul_succ]
theorem auO(F:Nat)(l:J Bs)(g:Bs)(hF:100<F)(h1:Sx l<=12)(h2:∀x∈l,Sx x<=60)(hg:Sx g<=1):Aq F l g=iN (Lib.join l g)/\vk F l g=iN (Lib.join l g):=by
 have hlen:=aaF l g 60 hg h2;constructor
 .grind[Aq,bX]
 have:aB (λr=>r=Lib.join l g) (vk F l g):=by
  refine aB.lp (λz=>∃k:Nat,z.2=(k:Int)/\k<=Sx l/\z.1=Lib.join (l.take k) g) (λz=>Sx l-z.2.toNat) ⟨0,rfl,om,by simp[Lib.join_nil]⟩ (by grind) ?_;rintro⟨o,p⟩ ⟨k,q1,h3,q2⟩ rc hrc;dsimp only at q1 q2 hrc⊢;subst q1 q2;have hj:(Lib.join (l.take k) g).length<=61*12:=by have a:=aaF (l.take k) g 60 hg λx hx=>h2 x (MS hx);grind
  refine aB.cd (λh=>?_) λh=>aB.ok (by grind);have hk:k<Sx l:=om;have hx:=h2 _ (fW hk);have e1:Lib.join (l.take (k+1)) g=(if 0<k then Lib.join (l.take k) g++g else Lib.join (l.take k) g)++l[k]:=by
   rw[ku hk];by_cases h0:0<k
   .rw[if_pos h0,alS _ _ _ (λe=>by have:=congrArg Sx e;simp_all),sD]
   .obtain rfl:k=0:=om;simp[Lib.join_nil,Lib.join_cons,Lib.joinTail]
  refine aB.bd (P:=λu=>u=if 0<k then Lib.join (l.take k) g++g else Lib.join (l.take k) g) (aB.cd (λh0=>aB.rq (eT om) (aB.ok (by rw[if_pos om]))) λh0=>aB.ok (by rw[if_neg om])) λu hu=>?_;have hul:Sx u<=61*12+1:=by grind
  rw[bX om om,bN,gd hk,bF om];refine aB.rq (decide_eq_true om) (hrc _ ⟨k+1,rfl,hk,by dsimp only;rw[e1,hu]⟩ (by grind))
 obtain⟨r,h,e⟩:=this;rw[e,h]
def spec(n:Bs):Bool:=[[64],[42],[35],[63],[45],[36],[33],[48]].contains n
theorem alT:∀n:Fin 256,eJ (0<=lO [64,42,35,63,45,36,33,48] (lL n.val))=spec [lL n.val]:=by decide +kernel
theorem aeL{n:Bs}(h:spec n=eQ):Sx n=1:=by unfold spec at h;simp at h;grind
theorem auP(F:Nat)(n:Bs):AF F n=iN (spec n):=by
 unfold AF wx;by_cases h:Sx n=1
 .obtain⟨b,rfl⟩:=abu.1 h;have hb:=alT ⟨b.toNat,b.toNat_lt⟩;have e:stringslite_Index F [64,42,35,63,45,36,33,48] [b]=iN (lO [64,42,35,63,45,36,33,48] b):=by
   unfold stringslite_Index stringslite_IndexByte wx;have e1:(([b]:Bs)==[64,42,35,63,45,36,33,48])=eK:=by simp_all
   simp;show((ZQ F _ _).bind _)=_;simp_all[ZQ,bN]
  unfold strings_Contains strings_Index wx;simp_all
 grind[beq_eq_false_iff_ne,aeL]
theorem ajO(F:Nat)(hF:30<=F){n:Int}(h:K.ir n):qF F n=iN (Lib.itoa n):=by unfold qF;rw[bX h.1 h.2]
theorem av2(F:Nat)(e:eS)(hF:1000<F)(hl:Sx e.bR<=128):tg F e=vl F e.bR:=by
 unfold tg oJ vl wx;rw[ajN F _ _ om om,Ao F _ _ om om];have hb:(jG e.bR [73,70,83]).2=eK->(jG e.bR [73,70,83]).1=bP.mk [] [] eK eK eK:=by unfold jG;cases e.bR.find? _<;>simp
 grind
theorem av3(F:Nat)(e:eS)(n:Bs)(hF:1000<F)(hl:Sx e.bR<=128):oJ F e n=iN (cond (jG e.bR n).1.cJ ((jG e.bR n).1.cg,eQ) ([],eK)):=by
 unfold oJ wx;rw[ajN F _ _ om om];have hb:(jG e.bR n).2=eK->(jG e.bR n).1=bP.mk [] [] eK eK eK:=by unfold jG;cases e.bR.find? _<;>simp
 grind
theorem as2(F:Nat)(h:GEn e)(n:Bs)(hF:2000<F)(hn:Sx n<=1000):Aj F e n=kY F e n:=by
 obtain⟨hV,hP,hP',hN,r1,r2,r3,-⟩:=h;have hl:=hV.1;have hj:=λg hg=>auO F e.cZ g om hP hP' hg;have R:K.ir (Sx e.cZ:Int):=⟨om,om⟩;have I:=λ{x:Int}(h:K.ir x)=>ajO F om h;have D:=λ{x:Int}(h:K.ir x)=>K.Mj F om h;unfold Aj wx;rw[auP,aC];cases hs:spec n with
 | true=>
  rw[aQ,jP (by have:=aeL hs;omega)];unfold spec at hs;simp only[abv,gL,BJ,BK]at hs;have fin:∀x:O (Bs×Bool),(x.bind λx2=>iN (x2.1,x2.2))=x:=λx=>by cases x<;>rfl
  rw[fin];unfold yG kY iC wx;obtain⟨g,hg,eg⟩:=akb F hV om;obtain⟨m,rfl⟩:∃m,F=m+100:=⟨F-100,om⟩;rcases hs with rfl|rfl|rfl|rfl|rfl|rfl|rfl|rfl
  .show((Aq (m+100) e.cZ [32]).bind _)=((vk (m+100) e.cZ [32]).bind _);rw[(hj [32] de).1,(hj [32] de).2]
  .show((tg (m+100) e).bind _)=((vl (m+100) e.bR).bind _);grind[av2]
  .show((qF (m+100) _).bind _)=((dW (m+100) _).bind _);rw[I R,D R]
  .show((qF (m+100) _).bind _)=((dW (m+100) _).bind _);rw[I r1,D r1]
  .show((E0 (m+100) _).bind _)=((zO (m+100) _).bind _);rw[as1]
  .show((qF (m+100) _).bind _)=((dW (m+100) _).bind _);rw[I r2,D r2]
  .show cond (e.qy==0) (iN ([],eK)) ((qF (m+100) e.qy).bind _)=(Option.bind (iN (e.qy != 0)) λx9=>cond x9 ((dW (m+100) e.qy).bind λcw=>iN (cw,eQ)) (iN ([],eK)));grind
  .rfl
 | false=>
  rw[aI];have ne:∀x,x∈([[64],[42],[35],[63],[45],[36],[33],[48]]:J Bs)->(n==x)=eK:=λx hx=>by
   rw[eG];intro h;subst h;have:spec n=eQ:=by unfold spec;exact abv.2 hx
   rw[this]at hs;cases hs
  have ends:∀(p:Int),¬ (0<p/\p<=Sx e.cZ)->iC F n=iN p->fQ F n=iN eK->kY F e n=iN ([],eK):=by
   intro p hp h1 h2;unfold kY wx;rw[h1,aC,h2,aC,aI,aG,aC]
   rw[show(cond (eJ (0<p)) (eJ (p<=(Sx e.cZ:Int))) eK)=eK from by
    simp_all]
   rw[ne [48] de,ne [35] de,ne [63] de,ne [45] de,ne [36] de,ne [33] de,ne [64] de,ne [42] de];rfl
  have aps:∀b,fQ F n=iN b->iC F n=iN 0->((mD F n).bind λx5=>cond (!x5) (iN ([],eK)) ((oJ F e n).bind λx6=>iN (x6.1,x6.2)))=kY F e n:=by
   intro b hb hp;rw[K.IU F n om,hb,aC];cases b with
   | false=>rw[ends 0 om hp hb];rfl|true=>unfold kY wx;rw[hp,aC,hb,aC,aQ,av3 F e n om hl,Ao F _ _ om om,aC,aC];cases (jG e.bR n).1.cJ<;>rfl
  obtain⟨b,-,hb⟩:=GK F n om;by_cases h0:n=[]
  .subst h0;exact aps b hb rfl
  by_cases h1:n.getD 0 0=48
  .have hp:=AJ.2 h0;have hc:(((n.getD 0 0).toNat:Int)==48)=eQ:=by rw[h1];rfl
   have e1:rU F n=iN (0,eK):=by unfold rU wx;rw[ne [48] de,aI,show(n==[])=eK from by simpa using h0,aI,jP om,hc,aC];rfl
   obtain⟨d,hd⟩:=Yi F n om om;have e2:iC F n=iN 0:=by unfold iC wx;rw[hd,jP om,hc];grind
   rw[e1,aC];exact aps b hb e2
  .have hp:=AJ.2 h0;have hc:(((n.getD 0 0).toNat:Int)==48)=eK:=by rw[beq_eq_false_iff_ne];intro h;exact h1 (by apply UInt8.toNat_inj.1;grind)
   rw[av0 F n om hn h0 h1,aC];have e2:iC F n=iN (cond (Dh n).2 (Dh n).1 0):=by unfold iC wx;rw[av1 F n om hn h0 h1,jP om,hc,aC];simp only[aG,aC];unfold Dh;grind
   cases hd:(Dh n).2 with
   | false=>simp_all|true=>
    rw[hd,aQ]at e2;rw[aQ];have hnm:fQ F n=iN eK:=by
     unfold Dh at hd;split at hd
     .rename_i hh;have h8:=pW.1 hh.1 _ (fW (n:=0) hp);unfold Dw at h8;rw[cH,fO,fO]at h8;unfold fQ wx;rw[show(n==[])=eK from by simpa using h0,aI,aC,jP om,K.Xx];have:K.gF ((n.getD 0 0).toNat:Int)=eQ:=by unfold K.gF;grind
      simp_all
     .cases hd
    have Uk:0<=(Dh n).1/\(Dh n).1<=2147483647:=by unfold Dh;grind
    generalize(Dh n).1=d at e2 Uk⊢;rw[aG,aC];by_cases xE:0<d/\d<=Sx e.cZ
    .rw[show(cond (eJ (d<1)) eQ (eJ ((Sx e.cZ:Int)<d)))=eK from by grind,cond_false];unfold kY wx;simp_all
    grind
def T2{A B:Type}(Q:A->B->Prop)(x:O A)(y:O B):Prop:=∃a b,Q a b/\x=iN a/\y=iN b
variable{A B C D σ τ:Type}{P:C->D->Prop}{x:O A}{y:O B}{f:C->O A}{g:D->O B}{x':O A}{y':O B}{b1:(σ->O A)->σ->O A}{b2:(τ->O B)->τ->O B}
section
variable {Q : A -> B -> Prop}
theorem T2.ok{a:A}{b:B}(h:Q a b):T2 Q (iN a) (iN b):=⟨a,b,h,rfl,rfl⟩
theorem T2.mono{P:A->B->Prop}(h:T2 P x y)(f:∀a b,P a b->Q a b):T2 Q x y:=by obtain⟨a,b,h,e⟩:=h;exact⟨a,b,f a b h,e⟩
theorem T2.bd{x:O C}{y:O D}(h:T2 P x y)(k:∀a b,P a b->T2 Q (f a) (g b)):T2 Q (x.bind f) (y.bind g):=by obtain⟨a,b,h,rfl,rfl⟩:=h;exact k a b h
theorem T2.l{P:C->Prop}{x:O C}(h:aB P x)(k:∀a,P a->T2 Q (f a) y):T2 Q (x.bind f) y:=by obtain⟨a,h,rfl⟩:=h;exact k a h
theorem T2.r{P:D->Prop}{y:O D}(h:aB P y)(k:∀b,P b->T2 Q x (g b)):T2 Q x (y.bind g):=by obtain⟨a,h,rfl⟩:=h;exact k a h
theorem T2.ql{c:Bool}(h:c=eQ)(k:T2 Q x y):T2 Q (rq c x) y:=by subst h;exact k
theorem T2.qr{c:Bool}(h:c=eQ)(k:T2 Q x y):T2 Q x (rq c y):=by subst h;exact k
theorem T2.cb{c:Bool}(a:c=eQ->T2 Q x y)(b:c=eK->T2 Q x' y'):T2 Q (cond c x x') (cond c y y'):=by grind
theorem T2.cl{c:Bool}(a:c=eQ->T2 Q x y)(b:c=eK->T2 Q x' y):T2 Q (cond c x x') y:=by grind
theorem T2.cr{c:Bool}(a:c=eQ->T2 Q x y)(b:c=eK->T2 Q x y'):T2 Q x (cond c y y'):=by grind
theorem T2.lp(P:σ->τ->Prop)(m:σ->Nat){s:σ}{t:τ}(h0:P s t)(hF:m s<F)
  (hs:∀s t,P s t->∀r1 r2,(∀s' t',P s' t'->m s'<m s->T2 Q (r1 s') (r2 t'))->T2 Q (b1 r1 s) (b2 r2 t)):T2 Q (ck b1 F s) (ck b2 F t):=by
 induction F generalizing s t with|zero=>omega|succ F ih=>grind[ck]
end
def mG(s:aY):Prop:=GS s/\Dg s.bI.bR/\(s.nh=eK->s.w6=[])
def iL(fl:J aN)(s:aY):aO:=aO.mk s.bI fl (s.fA.drop s.fused.toNat) s.lE eK [] [] 0
def Fin(x:aO)(s:aY):Prop:=(s.fe≠0/\x.nh=eK/\x.yx=s.fe/\x.fX=s.fX)\/(s.fe=0/\x.nh=eQ/\x.w6=s.w6/\x.bI=s.bI/\x.lE=s.lE)
def RR{A:Type}(fl:J aN)(I:J A->Prop)(a:J A×Bool×aO)(b:J A×aY):Prop:=mG b.2/\I b.1/\((stop b.2=eK/\a=(b.1,eQ,iL fl b.2))\/(stop b.2=eQ/\a.2.1=eK/\Fin a.2.2 b.2/\a.1=[]))
def RA(fl:J aN)(a:Bool×aO)(b:aY):Prop:=mG b/\((stop b=eK/\a=(eQ,iL fl b))\/(stop b=eQ/\a.1=eK/\Fin a.2 b))
def RR.go{A:Type}{fl:J aN}{I:J A->Prop}{r:J A}{s:aY}(h:mG s)(hi:I r)(hs:stop s=eK):RR fl I (r,eQ,iL fl s) (r,s):=⟨h,hi,.inl ⟨hs,rfl⟩⟩
theorem ag4(h:stop s=eK):s.fe=0/\s.nh=eK:=by unfold stop at h;simp_all
theorem as3{e:Int}{m:Bs}(he:e≠0):stop {s with fe:=e,fX:=m} = eQ:=by show(e != 0||s.nh)=eQ;simp_all
variable{fl:J aN}
theorem failed{e:Int}{m:Bs}(hs:stop s=eK)(he:e≠0):stop (cond (stop s) s {s with fe:=e,fX:=m})=eQ/\Fin {iL fl s with yx:=e,fX:=m} (cond (stop s) s {s with fe:=e,fX:=m}):=by rw[hs];exact⟨as3 he,.inl ⟨he,rfl,rfl,rfl⟩⟩
theorem On(h:mG s)(e:Int)(m:Bs):mG (cond (stop s) s {s with fe:=e,fX:=m}):=by cases stop s<;>exact h
theorem RR.err{I:J A->Prop}{r:J A}{e:Int}{m:Bs}{x:aO}(h:mG s)(hi:I r)(hs:stop s=eK)(he:e≠0)(hx:x={iL fl s with yx:=e,fX:=m}):RR fl I ([],eK,x) (r,cond (stop s) s {s with fe:=e,fX:=m}):=by subst hx;have:=failed (fl:=fl) (m:=m) hs he;exact⟨On h _ _,hi,.inr ⟨this.1,rfl,this.2,rfl⟩⟩
theorem MK(F:Nat)(m:Bs)(x:aO):iK F m x=iN (eK,{x with fX:=m,yx:=32}):=rfl
def auQ(F:Nat)(e:Int)(x:aO):gr F e x=iN (eK,{x with yx:=e}):=rfl
theorem alU(v:bP){l:J bP}(h:Dg l):v∈ox v l eK:=by rw[H6 v h];simp
theorem get_mem{l:J bP}{n:Bs}{v:bP}(h:v∈l)(hn:v.fName=n):(jG l n).2=eQ:=by unfold jG;cases e:l.find? λv=>v.fName==n with|none=>simp_all|some x=>rfl
theorem aov(F:Nat){l:J bP}(h:GA l)(n v:Bs)(hF:1000<F){r:J bP×Int}(e:uQ F l n v=iN r)(h0:r.2=0):fQ F n=iN eQ/\(jG r.1 n).2=eQ:=by
 have hl:=h.len;obtain⟨b,hb,eb⟩:=GK F n om;unfold uQ wx at e;rw[Ao F l n om om,aC,eb,aC]at e;cases b with
 | false=>grind|true=>
  refine⟨eb,?_⟩;cases hr:(jG l n).1.mW with
  | true=>grind|false=>
   rw[hr]at e;by_cases h4:4096<Sx v
   .grind
   rw[cf om,aG,aC]at e;cases h5:(cond (!(jG l n).2) (eJ (128<=(Sx l:Int))) eK)with
   | true=>grind|false=>rw[h5,SJ F l _ om om]at e;cases e;exact get_mem (alU _ h.2) rfl
theorem aqS(F:Nat){l:J bP}(h:GA l)(n:Bs)(hF:1000<F)(h1:fQ F n=iN eQ)(h2:(jG l n).2=eQ){r:J bP×Int}(e:sW F l n eQ eK=iN r):r.2=0:=by have hl:=h.len;unfold sW wx at e;rw[h1,aC,fU,aI,Ao F l n om om,aC,h2,fU,aI,aC,aG,aC,aG,aC,SJ F l _ om om]at e;cases e;rfl
theorem ag5(F:Nat)(fl:J aN)(h:mG s)(hs:stop s=eK)(n v:Bs)(hF:1000<F):T2 (RA fl) (ke F n v (iL fl s)) (iZ F n v s):=by
 have hA:GA s.bI.bR:=⟨h.1.1.1,h.2.1⟩;obtain⟨r,hr,e1,e2⟩:=avZ F hA n v hF;unfold ke iZ wx;rw[qU,aC,hs,e1,show Ji F (iL fl s).bI.bR n v=iN r from e2,aC,aC];have go:∀l:J bP,GA l->T2 (RA fl) (cond ((0:Int) != 0) ((gr F 0 (iL fl s)).bind λx5=>iN (x5.1,x5.2)) (iN (eQ,{iL fl s with bI:={(iL fl s).bI with bR:=l}}))) (iN {s with bI:={s.bI with bR:=l}}):=λl hl=>T2.ok ⟨⟨⟨⟨hl.1,h.1.1.2⟩,h.1.2⟩,hl.2,h.2.2⟩,.inl ⟨hs,rfl⟩⟩;by_cases h0:r.2=0
 .rw[h0];show T2 _ (((cond ((lP .i64 s.bI.gw 32) != 0) ((FA F r.1 n eQ eK).bind λx4=>iN (x4.1,x4.2)) (iN (r.1,0)):O (J bP×Int)).bind _)) ((cond ((lP .i64 s.bI.gw 32) != 0) ((sW F r.1 n eQ eK).bind λx5=>iN x5.1) (iN r.1):O (J bP)).bind _);cases hb:((lP .i64 s.bI.gw 32) != 0)with
  | false=>exact go r.1 hr|true=>obtain⟨q,hq,e3,e4⟩:=auL F hr n eQ eK hF;obtain⟨k1,k2⟩:=aov F hA n v hF e1 h0;have hq0:=aqS F hr n hF k1 k2 e3;simp_all
 .have hne:(r.2 != 0)=eQ:=by simpa using h0
  have am6:(r.2==0)=eK:=by simpa using h0
  rw[am6,aI,aC,aI,aC];rw[hne,yQ];have:=failed (fl:=fl) (m:=[]) hs h0;exact T2.ok ⟨On h _ _,.inr ⟨this.1,rfl,this.2⟩⟩
theorem av4(F:Nat)(fl:J aN)(h:mG s)(hs:stop s=eK)(x:d6)(m:dM)(p:dm)(hm:m.fY=p.fY)(hF:1000<F):T2 (RR fl (RB 1)) (oc F x m (iL fl s)) ((sn F x.fText s).bind λx7=>(eX F p).bind λx8=>iN ([aA.mk x7.1 x8],x7.2)):=by
 obtain⟨⟨hE,hA,hL,u,hu,hul⟩,sI⟩:=h;have hv:eN F m=eX F p:=by unfold eN eX wx;rw[hm]
 obtain⟨c,hc⟩:=Tq F p;unfold oc sn wx;rw[hv,hc,hu];have hx:(iL fl s).fA=s.fA.drop u:=by unfold iL;simp_all
 rw[hx];by_cases hk:u<Sx s.fA
 .have hd:s.fA.drop u=s.fA[u]::s.fA.drop (u+1):=tu hk;have e0:((Sx (s.fA.drop u):Int)==0)=eK:=by grind
  have e1:sl (s.fA.drop u) 1 (Sx (s.fA.drop u):Int)=s.fA.drop (u+1):=by grind[sl,Int.toNat_natCast,List.take_length,List.drop_drop]
  have e2:(s.fA.drop u).getD 0 DN=s.fA[u]:=by rw[hd];rfl
  have hln:0<Sx (s.fA.drop u):=by grind
  rw[e0,aI,jP om,bX om om,e1,e2,cf om,bX om om,bN,gd hk];have ha:=hA _ (fW hk);generalize s.fA[u]=a at ha⊢
  have key:T2 (λ(t:Bs)(y:Bs×aY)=>Sx t<=60/\y=(t,{s with fused:=(((u+1:Nat)):Int),lE:=a.gC})) (tV F a.fText [10]) (ck (σ:=Int) (R:=Bs×aY) (λbA x1=>
    (cond (eJ (0<x1))
    (rq ((eJ (0<=aE (x1-1)))&&(eJ (aE (x1-1)<(Sx (a.fText):Int)))) (iN (((a.fText.getD (eI (aE (x1-1))) 0).toNat:Int)==10)))
    (iN eK):Option Bool).bind λx3=>
    cond x3
    (bA (aE (x1-1)))
    (rq ((eJ (0<=x1))&&(eJ (x1<=(Sx a.fText:Int)))) (iN (sl a.fText 0 x1,{s with fused:=aE ((u:Int)+1),lE:=a.gC})))) F (Sx a.fText:Int)):=by
   have fin:∀k:Nat,k<=Sx a.fText->T2 (λ(t:Bs)(y:Bs×aY)=>Sx t<=60/\y=(t,{s with fused:=(((u+1:Nat)):Int),lE:=a.gC})) (iN (a.fText.take k)) (rq ((eJ (0<=(k:Int)))&&(eJ ((k:Int)<=(Sx a.fText:Int)))) (iN (sl a.fText 0 (k:Int),{s with fused:=aE ((u:Int)+1),lE:=a.gC}))):=λk hk=>by grind[T2.qr,mL,T2.ok,List.length_take,bF,sl,Int.toNat_natCast]
   unfold tV wx;by_cases hz:a.fText=[]
   .rw[hz]at fin⊢;obtain⟨f,rfl⟩:∃f,F=f+1:=⟨F-1,om⟩;exact fin 0 (eE _)
   rw[show(a.fText==[])=eK from by simpa using hz];show T2 _ ((pS F a.fText 10).bind λx3=>iN x3) _;have ret:∀x:Option Bs,(x.bind λx3=>iN x3)=x:=λx=>by cases x<;>rfl
   rw[ret];unfold pS wx;refine T2.lp (λ(t:Bs)(i:Int)=>∃k:Nat,i=(k:Int)/\k<=Sx a.fText/\t=a.fText.take k) (λt=>Sx t) ⟨_,rfl,eE _,by rw[nW]⟩ om ?_;rintro t i ⟨k,rfl,h1,rfl⟩ r1 r2 hrc;have hlk:(a.fText.take k).length=k:=List.length_take_of_le h1;rw[hlk];by_cases h0:0<k
   .rw[vi om om,b9 om,bX om om,b9 om,bX om om,aC,bX om om,aC,bN];have eg:(a.fText.take k).getD (k-1) 0=a.fText.getD (k-1) 0:=by grind
    rw[eg];refine T2.cb (λ_=>?_) λ_=>fin k h1;grind[sl,Int.toNat_natCast,Nat.min_eq_left,List.length_take]
   grind
  refine T2.bd key λt y ⟨ht,hy⟩=>?_;subst hy;rw[aC,aC];refine T2.ok ⟨⟨⟨hE,hA,hL,u+1,rfl,hk⟩,sI⟩,RB.one om (by grind),.inl ⟨hs,?_⟩⟩;unfold iL;grind
 .have e0:((Sx (s.fA.drop u):Int)==0)=eQ:=by simp_all
  rw[e0,aQ,b9 om,aC,aC];obtain⟨s1,s2⟩:=ag4 hs;refine T2.ok ⟨⟨⟨hE,hA,hL,u,rfl,hul⟩,sI.1,λh=>nomatch h⟩,RB.one om (fF _),.inr ⟨?_,rfl,.inr ⟨s1,rfl,rfl,rfl,rfl⟩,rfl⟩⟩;show(s.fe != 0||true)=eQ;rw[Bool.or_true]
theorem uR(k v q z:Bs)(m:J (Bs×Bs)):gp dc (jJ dc m k v) q z=if k=q then v else gp dc m q z:=by
 unfold jJ gp dc;cases ha:m.any λp=>p.1==k with
 | false=>grind|true=>
  rw[aQ];have hf:((λp=>p.1==q) ∘ λp=>bif p.1==k then(k,v)else p)=λp=>p.1==q:=by grind
  cases e:m.find? λp=>p.1==q with|none=>grind|some p=>grind
def uN(l:J bP):J cA:=l.flatMap λv=>cond v.cJ [cA.mk v.fName v.cg] []
def Gc(b:J cA):J (Bs×Bs):=b.foldl (λm x=>jJ dc m x.fName x.cg) []
theorem aow(l:J bP){k:Nat}(h:k<Sx l):uN (l.take (k+1))=uN (l.take k)++cond l[k].cJ [cA.mk l[k].fName l[k].cg] []:=by unfold uN;grind[List.take_succ_eq_append_getElem]
theorem aqT{l:J bP}{b:cA}(h:b∈uN l):∃v∈l,b=cA.mk v.fName v.cg:=by unfold uN at h;grind
theorem ZJ:∀l:J bP,Sx (uN l)<=Sx l|[]=>eE _|v::l=>by have:=ZJ l;unfold uN at this⊢;grind
theorem aqU{l:J bP}(h:Dg l):(uN l).Pairwise λa b=>a.fName<b.fName:=by
 induction l with
 | nil=>exact .nil|cons v l ih=>obtain⟨h1,h2⟩:=xw.1 h;unfold uN;grind
theorem aqV{l:J bP}(h:GV l):Fg (uN l):=λb hb=>by obtain⟨v,hv,rfl⟩:=aqT hb;exact h.2 v hv
theorem aqW{b:J cA}(h:b.Pairwise λx y=>x.fName<y.fName)(hb:Fg b):K.uX (Gc b)=b:=by
 have hE:=K.IZ hb;refine LX (f:=λx:cA=>x.fName) (K.Y8 hE.nd) h λx=>?_;have key:∀(k:J cA)(m:J (Bs×Bs)),(k.Pairwise λx y=>x.fName<y.fName)->∀q:Bs,gp dc (k.foldl (λm x=>jJ dc m x.fName x.cg) m) q []=(match k.find? λx=>x.fName==q with|some x=>x.cg|none=>gp dc m q []):=by
  intro k
  induction k with
  | nil=>intro m _ q;rfl|cons a k ih=>
   intro m hk q;obtain⟨h1,h2⟩:=xw.1 hk;rw[sE,ih _ h2 q,PM];cases e:k.find? λx=>x.fName==q with
   | some y=>grind|none=>cases hq:(a.fName==q)with|true=>simp_all[tv,uR,if_pos]|false=>simp_all[uR,if_neg]
 have kk:∀(k:J cA)(m:J (Bs×Bs))(q:Bs),q∈(k.foldl (λm x=>jJ dc m x.fName x.cg) m).map (·.1)↔q∈m.map (·.1)\/∃x∈k,x.fName=q:=by
  intro k
  induction k with|nil=>intro m q;simp|cons a k ih=>grind[Aw,List.mem_cons_self,List.mem_cons_of_mem]
 have fnd:∀y∈b,b.find? (λx=>x.fName==y.fName)=iN y:=λy hy=>by cases e:b.find? λx=>x.fName==y.fName with|none=>grind|some z=>have hq:(z.fName==y.fName)=eQ:=abw (p:=λx:cA=>x.fName==y.fName) e;grind[List.pairwise_iff_getElem,List.getElem_of_mem,Nat.lt_trichotomy,nF]
 rw[K.Ef];constructor
 .rintro⟨k,hk,rfl⟩;rcases(kk b [] k).1 hk with h|⟨y,hy,rfl⟩
  .cases h
  .have:=key b [] h y.fName;rw[fnd y hy]at this;unfold K.Bk;rw[show gp dc (Gc b) y.fName []=y.cg from this];exact hy
 .intro hx;refine⟨x.fName,(kk b [] _).2 (.inr ⟨x,hx,rfl⟩),?_⟩;have:=key b [] h x.fName;rw[fnd x hx]at this;unfold K.Bk;rw[show gp dc (Gc b) x.fName []=x.cg from this]
theorem aeM(m:J (Bs×Bs))(k:Bs):FU dc m k=eQ↔k∈m.map (·.1):=by simp_all[FU,dc,UB,kq]
theorem T2.lpe{ι:Type}{Q:A->B->Prop}(P:σ->τ->Prop)(m:σ->Nat)(E:ι->τ->Prop)(m2:τ->Nat)(R:ι->B->Prop){s:σ}{t:τ}(h0:P s t)(hF:m s<F)
  (hs:∀s t,P s t->∀r1 r2,(∀s' t',P s' t'->m s'<m s->T2 Q (r1 s') (r2 t'))->(∀i t',E i t'->m2 t'<m s->aB (R i) (r2 t'))->T2 Q (b1 r1 s) (b2 r2 t))
  (he:∀i t,E i t->∀r2,(∀t',E i t'->m2 t'<m2 t->aB (R i) (r2 t'))->aB (R i) (b2 r2 t)):T2 Q (ck b1 F s) (ck b2 F t):=by
 induction F generalizing s t with|zero=>omega|succ F ih=>exact hs s t h0 (ck b1 F) (ck b2 F) (λs' t' h1 h2=>ih h1 om) λi t' h1 h2=>aB.lp (E i) m2 h1 om (he i)
theorem T2.map{Q:A->B->Prop}{y:O D}(f:D->B)(h:T2 (λa d=>Q a (f d)) x y):T2 Q x (y.bind λd=>iN (f d)):=by obtain⟨a,d,h,e1,rfl⟩:=h;exact⟨a,f d,h,e1,rfl⟩
def aqX(F:Nat)(e:Int):F9 F e=CY F e:=rfl
def RV(fl:J aN)(a:Bs×Bool×aO)(b:Bs×aY):Prop:=RR fl (λt=>Sx t<=10000000) a b/\(stop b.2=eK->Sx b.1<=4096)
theorem apt(F:Nat)(h:stop s=eQ)(n v:Bs):iZ F n v s=iN s:=by unfold iZ wx;simp_all[qU,aC]
theorem as4(hN:NC<=F)(hF:100000000<=F)(fl:J aN)(g1:eD)(g2:ji)(x:d6)(m:dM)(p:dm)(hm:m.fY=p.fY)(s:aY)
  (hv:T2 (RV fl) (g1.2.2.2.2.1 x.fParts (dM.mk eQ eK 0) (iL fl s)) (g2.2.2.2.1 x.fParts eQ s)) :
  T2 (RR fl (RB 1)) (oK F g1 x m (iL fl s)) ((oh F g2 x.fParts s).bind λx9=>(eX F p).bind λcw=>iN ([aA.mk x9.1 cw],x9.2)):=by
 obtain⟨c,hc⟩:=Tq F p;have jU:eN F m=iN c:=by rw[<-hc];unfold eN eX wx;rw[hm]
 unfold oK oh wx;rw[hc];obtain⟨⟨t0,ok,x'⟩,⟨t,s'⟩,⟨⟨hg,hi,hh⟩,hlen⟩,e1,e2⟩:=hv;rw[e1,e2];dsimp only at hg hi hh hlen;refine T2.map (λx9:Bs×aY=>([aA.mk x9.1 c],x9.2)) ?_;rw[aC,aC];dsimp only;rw[qU,aC];rcases hh with⟨hs,hh⟩|⟨hs,hok,Nk,-⟩
 .cases hh;have ht:=hlen hs;have hV:=hg.1.1.1;have hvl:=hV.1;rw[hs,fU,aI,aI,show(iL fl s').bI=s'.bI from rfl];have hb:=aqV hV;have Ir:=ZJ s'.bI.bR;have hba:=aqU hg.2.1;refine T2.lp (λ(z:J cA×Int×J (Bs×Bs))(y:J cA×Int)=>∃k:Nat,k<=Sx s'.bI.bR/\z=(uN (s'.bI.bR.take k),(k:Int),Gc (uN (s'.bI.bR.take k)))/\y=(uN (s'.bI.bR.take k),(k:Int))) (λz=>Sx s'.bI.bR-z.2.1.toNat) ⟨0,fF _,rfl,rfl⟩ (by show s'.bI.bR.length-0<F;omega) ?_;rintro _ _ ⟨k,hk,rfl,rfl⟩ q1 q2 hrc;dsimp only at hrc⊢;have hkl:(uN (s'.bI.bR.take k)).length<=k:=by have:=ZJ (s'.bI.bR.take k);rw[pX]at this;omega
  by_cases hk1:k<Sx s'.bI.bR
  .have nx:=hrc _ _ ⟨k+1,hk1,rfl,rfl⟩ (by grind);have es:=aow s'.bI.bR hk1;rw[b9 om,b9 om];refine T2.ql (mL om om) (T2.qr (mL om om) ?_);rw[bF om,bN,gd hk1];have cp:∀(v:cA),((eJ (Sx (uN (s'.bI.bR.take k))+Sx ([v]:J cA)<=9223372036854775807))&&(eJ ((Sx (uN (s'.bI.bR.take k))+Sx ([v]:J cA))*32<=140737488355328)))=eQ:=λv=>o5 (by grind) de;refine T2.cb (λnX=>?_) λnX=>?_
   .rw[nX,aQ]at es;rw[es]at nx;refine T2.ql (cp _) (T2.qr (cp _) ?_);unfold Gc at nx;rw[PK]at nx;exact nx
   simp_all
  .rw[cf om,cf om,va om];have hE:=aqW hba hb;have hkeys:∀n:Bs,FU dc (Gc (uN s'.bI.bR)) n=eQ↔∃a∈uN s'.bI.bR,a.fName=n:=λn=>by
    rw[aeM];have:∀x,x∈uN s'.bI.bR↔∃k,k∈(Gc (uN s'.bI.bR)).map (·.1)/\x=K.Bk (Gc (uN s'.bI.bR)) k:=λx=>by rw[<-K.Ef,hE]
    constructor
    .intro h;exact⟨_,(this _).2 ⟨n,h,rfl⟩,rfl⟩
    .rintro⟨a,ha,rfl⟩;obtain⟨k,h1,h2⟩:=(this a).1 ha;rw[h2];exact h1
   have ace:∀n,rM F (uN s'.bI.bR) n=iN (gp dc (Gc (uN s'.bI.bR)) n []):=λn=>by rw[K.Ro F _ n om om,<-K.Rp,hE]
   have apu:∀n,FU dc (Gc (uN s'.bI.bR)) n=eK->gp dc (Gc (uN s'.bI.bR)) n []=[]:=λn h=>by grind[NX,aeM]
   generalize Gc (uN s'.bI.bR)=mp at hkeys ace apu⊢;generalize uN s'.bI.bR=b at hb Ir hkeys ace⊢;obtain⟨r,⟨hR,hL,hne⟩,hr⟩:=ZG t0 b ht om hb;rw[(hr F hN).1,(hr F hN).2,aC,aC];refine T2.cb (λhe=>?_) λhe=>?_
   .have he0:r.2.2≠0:=by simpa using he
    obtain⟨w,hw,ew⟩:=aot F r.2.2;rw[aqX,ew,aC,aC];have l1:eJ (Sx t0+Sx ([58,32]:Bs)<=9223372036854775807)=eQ:=eT (by show t0.length+2<=_;omega);have l2:eJ (Sx (t0++([58,32]:Bs))+Sx w<=9223372036854775807)=eQ:=decide_eq_true (by grind);refine T2.ql l1 (T2.qr l1 (T2.ql l2 (T2.qr l2 ?_)));rw[MK,yQ];exact T2.ok (RR.err hg (RB.one om (fF _)) hs de rfl)
   .refine T2.lpe (λ(z:Int×aO)(y:Int×aY)=>∃(k:Nat)(u:aY),k<=Sx r.2.1/\mG u/\stop u=eK/\z=((k:Int),iL fl u)/\y=((k:Int),u)) (λz=>Sx r.2.1-z.1.toNat) (λ(u:aY)(y:Int×aY)=>stop u=eQ/\y.2=u/\∃k:Nat,y.1=(k:Int)/\k<=Sx r.2.1) (λy=>Sx r.2.1-y.1.toNat) (λu (y:Bs×aY)=>y.2=u/\y.1.length<=60) ⟨0,s',fF _,hg,hs,rfl,rfl⟩ (by show r.2.1.length-0<F;omega) ?_ ?_
    .rintro _ _ ⟨k,u,hk,hu,hsu,rfl,rfl⟩ q1 q2 hrc hex;dsimp only at hrc hex⊢;by_cases hk1:k<Sx r.2.1
     .have hm:Sx r.2.1-Int.toNat ((k+1:Nat):Int)<Sx r.2.1-Int.toNat (k:Int):=om;rw[b9 om,b9 om,bX om om,bX om om,bX om om,bF om,bN,gd hk1,ace,aC];have hc1:=hne _ (fW hk1);generalize r.2.1[k]=a at hc1⊢;have go:T2 (λa d=>RR fl (RB 1) a ([aA.mk d.1 c],d.2)) ((ke F a.fName a.cg (iL fl u)).bind λcw=>cond (!cw.1) (iN ([],eK,cw.2)) (q1 (((k+1:Nat):Int),cw.2)))
        ((iZ F a.fName a.cg u).bind λgz=>q2 (((k+1:Nat):Int),gz)):=by
       refine T2.bd (ag5 F fl hu hsu a.fName a.cg om) ?_;rintro⟨ok,x2⟩ u2 ⟨hu2,⟨h1,h2⟩|⟨h1,h2,h3⟩⟩
       .grind
       .dsimp only at h2 h3;subst h2;rw[nu,aQ];obtain⟨y,⟨hy1,hy2⟩,hy⟩:=hex u2 (((k+1:Nat):Int),u2) ⟨h1,rfl,k+1,rfl,hk1⟩ hm;rw[hy];refine T2.ok ⟨?_,RB.one om om,.inr ⟨?_,rfl,?_,rfl⟩⟩
        .show mG y.2;rw[hy1];exact hu2
        .show stop y.2=eQ;rw[hy1];exact h1
        .show Fin x2 y.2;rw[hy1];exact h3
      cases av5:FU dc mp a.fName with
      | true=>rw[aQ,aC];cases sS:(gp dc mp a.fName []==a.cg)with|true=>grind|false=>rw[aI,nu,aQ,bX om om,bX om om];exact go
      | false=>
       rw[aI,aC,aI,apu _ av5];have hnil:a.cg≠[]:=hc1.resolve_right λh=>by grind
       have:(([]:Bs)==a.cg)=eK:=by grind
       rw[this,nu,aQ,bX om om,bX om om];exact go
     .rw[cf om,cf om,ajO F om hR,K.Mj F om hR,aC,aC,jU];have:=K.zh hR;exact T2.ok ⟨hu,RB.one om (by show(Lib.itoa r.1).length<=_;omega),.inl ⟨hsu,rfl⟩⟩
    .rintro u ⟨_,_⟩ ⟨h1,rfl,k,rfl,hk⟩ q2 hrc;dsimp only at h1 hrc⊢;refine aB.cd (λh=>?_) λ_=>?_
     .have hm:Sx r.2.1-Int.toNat ((k+1:Nat):Int)<Sx r.2.1-Int.toNat (k:Int):=om;rw[bX om om,bX om om,bF om,bN,ace,aC];refine aB.cb (λ_=>?_) λ_=>hrc _ ⟨h1,rfl,k+1,rfl,om⟩ hm;grind[bX,apt]
     .rw[K.Mj F om hR];exact aB.ok ⟨rfl,K.zh hR⟩
 .have hok:ok=eK:=hok;subst hok;rw[hs,aQ,nu,aQ];exact T2.ok ⟨hg,RB.one om (fF _),.inr ⟨hs,rfl,Nk,rfl⟩⟩
def COk(m:dM)(p:dm):Prop:=m.fY=eK->m.dZ=cond p.Eh 2 0
def Mo(m:dM)(p:dm):Prop:=m.fY=p.fY/\m.lF=p.lF
def JR(m:dM)(p:dm)(a b:J aA):Prop:=a.map (·.fText)=b.map (·.fText)/\(COk m p->a=b)
def RJ(fl:J aN)(k:Nat)(m:dM)(p:dm)(a:J aA×Bool×aO)(b:J aA×aY):Prop:=mG b.2/\RB k b.1/\((stop b.2=eK/\a.2=(eQ,iL fl b.2)/\JR m p a.1 b.1)\/(stop b.2=eQ/\a.2.1=eK/\Fin a.2.2 b.2/\a.1=[]))
variable{m:dM}{p:dm}
def JR.eq(a:J aA):JR m p a a:=⟨rfl,λ_=>rfl⟩
variable{b:J aA×aY}
theorem RR.j{k j:Nat}{a:J aA×Bool×aO}(h:RR fl (RB k) a b)(hk:k<=j):RJ fl j m p a b:=by
 obtain⟨h1,h2,⟨h3,h4⟩|h3⟩:=h
 .exact⟨h1,h2.mono hk,.inl ⟨h3,by rw[h4],by rw[h4];exact JR.eq _⟩⟩
 .exact⟨h1,h2.mono hk,.inr h3⟩
theorem RJ.rr{k:Nat}{a:J aA×Bool×aO}(h:RJ fl k m p a b)(hc:COk m p):RR fl (RB k) a b:=by
 obtain⟨h1,h2,⟨h3,h4,h5⟩|h3⟩:=h
 .exact⟨h1,h2,.inl ⟨h3,Prod.ext (h5.2 hc) h4⟩⟩
 .exact⟨h1,h2,.inr h3⟩
def RJ.go{fl:J aN}{k:Nat}{m:dM}{p:dm}{r:J aA}{s:aY}(h:mG s)(hi:RB k r)(hs:stop s=eK):RJ fl k m p (r,eQ,iL fl s) (r,s):=⟨h,hi,.inl ⟨hs,rfl,JR.eq _⟩⟩
theorem apv(F:Nat)(h:m.fY=p.fY):eN F m=eX F p:=by unfold eN eX wx;rw[h]
def X1(fl:J aN)(F n:Nat):Prop:=∀(N:Nat)(l:J d6)(m:dM)(p:dm)(s:aY),Mo m p->mG s->stop s=eK->gv l<=1000->9*gv l+9<=n->6*gv l+6<=N->T2 (RJ fl (gv l) m p) ((bf F n).1 l m (iL fl s)) ((bz F N).1 l p s)
def X2(fl:J aN)(F n:Nat):Prop:=∀(N:Nat)(x:d6)(m:dM)(p:dm)(s:aY),Mo m p->mG s->stop s=eK->wP x<=1000->9*wP x+8<=n->6*wP x+5<=N->T2 (RJ fl (wP x) m p) ((bf F n).2.1 x m (iL fl s)) ((bz F N).2.1 x p s)
def XV(fl:J aN)(F n:Nat):Prop:=∀(N:Nat)(l:J d6)(m:dM)(q:Bool)(s:aY),m.fY=q->mG s->stop s=eK->gv l<=1000->9*gv l+10<=n->6*gv l+7<=N->T2 (λa b=>RV fl a b/\b.1.length<=5000*gv l) ((bf F n).2.2.2.2.1 l m (iL fl s)) ((bz F N).2.2.2.1 l q s)
variable{n:Nat}
theorem aqY(hF:100000000<=F)(h2:X2 fl F n):X1 fl F (n+1):=by
 intro N l m p s hm hs hst hl hn hN;obtain⟨N,rfl⟩:∃k,N=k+1:=⟨N-1,om⟩;have hll:=LP l;show T2 _ (zy F (bf F n) l m (iL fl s)) (sr F (bz F N) l p s);refine T2.lpe (λ(z:J aA×Int×aO)(y:J aA×Int×aY)=>∃k:Nat,k<=Sx l/\z.2=((k:Int),iL fl y.2.2)/\y.2.1=(k:Int)/\JR m p z.1 y.1/\RB (gv (l.take k)) y.1/\mG y.2.2/\stop y.2.2=eK) (λz=>Sx l-z.2.1.toNat)
  (λ(u:aY×J aA)(y:J aA×Int×aY)=>stop u.1=eQ/\y.1=u.2/\y.2.2=u.1/\∃k:Nat,y.2.1=(k:Int)/\k<=Sx l) (λy=>Sx l-y.2.1.toNat) (λu (y:J aA×aY)=>y=(u.2,u.1)) ⟨0,Nat.zero_le _,rfl,rfl,JR.eq _,RB.nil,hs,hst⟩ (by grind) ?_ ?_
 .rintro⟨a,i,x⟩ ⟨o,i',s⟩ ⟨k,h3,h4,h5,h6,h7,h8,h9⟩ q1 q2 hrc hex;dsimp only at h4 h5 h6 h7 h8 h9 hrc hex⊢;cases h4;subst h5;have hwk:=M9 l k;rw[qU,h9];have jl:a.length=Sx o:=by have:=congrArg Sx h6.1;simpa using this
  by_cases hk:k<Sx l
  .have hwm:=agr hk;have ha:=VS hk;have ZU:Sx l-Int.toNat ((k+1:Nat):Int)<Sx l-Int.toNat (k:Int):=om;rw[b9 om,b9 om,aC,aC,nu,aQ,bX om om,bX om om,bF om,bN,d6.eta];refine T2.bd (h2 N (l.getD k mM) m p s hm h8 h9 om om om) ?_;rintro⟨r,ok,x'⟩ ⟨r',s'⟩ ⟨g1,g2,g3⟩;dsimp only at g1 g2 g3⊢;have h10:=RB.app h7 g2;rw[<-ha]at h10;have xQ:=M9 l (k+1);have h11:=h10.1;rw[ov]at h11;have sz:∀a b:Nat,a+b<=26*1000->((eJ (a+b<=9223372036854775807))&&(eJ ((a+b)*24<=140737488355328)))=eQ:=λa b h=>mL om om;rcases g3 with⟨k1,k2,k3⟩|⟨k1,k2,k3,-⟩
   .cases k2;have jr:Sx r=Sx r':=by have:=congrArg Sx k3.1;simpa using this
    refine T2.ql (sz _ _ om) (T2.qr (sz _ _ om) (hrc _ _ ⟨k+1,hk,rfl,rfl,⟨?_,λhc=>by rw[h6.2 hc,k3.2 hc]⟩,h10,g1,k1⟩ ZU));rw[lZ,lZ,h6.1,k3.1]
   .subst k2;refine T2.qr (sz _ _ om) ?_;obtain⟨y,rfl,hy⟩:=hex (s',o++r') (o++r',((k+1:Nat):Int),s') ⟨k1,rfl,rfl,k+1,rfl,hk⟩ ZU;rw[hy];exact T2.ok ⟨g1,h10.mono om,.inr ⟨k1,rfl,k3,rfl⟩⟩
  .rw[cf om,cf om,aC,aI];rw[va om]at h7;exact T2.ok ⟨h8,h7,.inl ⟨h9,rfl,h6⟩⟩
 simp_all[qU,aB.ok]
theorem ag6{a b:J aA}(h:a.map (·.fText)=b.map (·.fText)):ef a=ef b:=by unfold ef;grind
theorem aqZ{a b:J aA}(h:a.map (·.fText)=b.map (·.fText)):bH a=bH b:=by rw[<-oA,<-oA,ag6 h]
theorem aq0(hF:100000000<=F)(h1:X1 fl F n):XV fl F (n+1):=by
 intro N l m q s hm hs hst hl hn hN;obtain⟨N,rfl⟩:∃k,N=k+1:=⟨N-1,om⟩;show T2 _ (zA F (bf F n) l m (iL fl s)) (tU F (bz F N) l q s);refine T2.bd (h1 N l {m with lF:=eK} (dm.mk q eK eK) s ⟨hm,rfl⟩ hs hst hl om om) ?_;rintro⟨r,ok,x'⟩ ⟨r',s'⟩ ⟨g1,g2,g3⟩;dsimp only at g1 g2 g3⊢;have z1:=g2.1;have z2:=g2.2;have e18:=aeK F r' om om om;have etx:(r'.flatMap λr=>r.fText)=ef r':=rfl;rw[e18];have hlen:=oA r';rcases g3 with⟨k1,k2,k3⟩|⟨k1,k2,k3,-⟩
 .cases k2;have jr:Sx r=Sx r':=by have:=congrArg Sx k3.1;simpa using this
  have js:=aqZ k3.1;rw[fU,aI,Is F r om om om,ag6 k3.1];refine T2.cb (λh=>?_) λh=>T2.ok ⟨⟨⟨g1,by grind,.inl ⟨k1,rfl⟩⟩,λ_=>?_⟩,by simp_all⟩
  .rw[yQ];refine T2.ok ⟨⟨RR.err g1 (by grind) k1 de rfl,λh=>?_⟩,by simp_all⟩;grind[alR]
  grind
 .subst k2;rw[nu,aQ,yQ,k1,aQ];refine T2.cr (λ_=>T2.ok ?_) λ_=>T2.ok ?_
  all_goals exact⟨⟨⟨g1,by grind,.inr ⟨k1,rfl,k3,rfl⟩⟩,λh=>by rw[k1]at h;cases h⟩,by simp_all⟩
variable{R:Type}
theorem aB.eqv{x:O R}{v:R}(h:aB (λr=>r=v) x):x=iN v:=by obtain⟨r,h,e⟩:=h;rw[e,h]
def tn(o:J aA)(r:aA):J aA:=cond (r.fText==[]) o (cond (eJ (0<Sx o)&&((o.getD (Sx o-1) dw).aH==r.aH)) (o.set (Sx o-1) (aA.mk ((o.getD (Sx o-1) dw).fText++r.fText) (o.getD (Sx o-1) dw).aH)) (o++[r]))
def pV(l:J aA):J aA:=l.foldl tn []
theorem aeN:∀(l:J aA)(k:Nat)(t:Bs)(c:Int),k<Sx l->bH (l.set k (aA.mk ((l.getD k dw).fText++t) c))=bH l+Sx t
 | [],k,t,c,h=>absurd h (Nat.not_lt_zero _)|a::l,0,t,c,h=>by unfold bH;grind|a::l,k+1,t,c,h=>by have:=aeN l k t c (by simpa using h);show bH (a::l.set k (aA.mk ((l.getD k dw).fText++t) c))=_;unfold bH at this⊢;simp only[jb,MT];omega
theorem aox(o:J aA)(r:aA):bH (tn o r)=bH o+Sx r.fText/\(tn o r).length<=Sx o+1:=by
 unfold tn;cases h1:(r.fText==[])with
 | true=>simp_all|false=>
  cases h2:(eJ (0<Sx o)&&((o.getD (Sx o-1) dw).aH==r.aH))with
  | true=>grind[aeN,List.length_set]|false=>refine⟨?_,by simp_all⟩;show bH (o++[r])=_;rw[HR];simp[bH]
theorem Oo:∀(l o:J aA),bH (l.foldl tn o)=bH o+bH l/\(l.foldl tn o).length<=Sx o+Sx l
 | [],o=>⟨by simp[bH],si⟩|r::l,o=>by obtain⟨h1,h2⟩:=Oo l (tn o r);obtain⟨h3,h4⟩:=aox o r;rw[sE];refine⟨by rw[h1,h3];simp[bH];omega,aM⟩
theorem ag7(F:Nat)(l:J aA)(f:J aA->R)(hF:Sx l<F)(h1:Sx l<=1000000)(h2:bH l<=100000000):
  ck (σ:=Int×(J aA)) (R:=R) (λiw x2=>
   cond (eJ (x2.1<(Sx l:Int)))
   (rq ((eJ (0<=x2.1))&&(eJ (x2.1<(Sx l:Int)))) (cond (((l.getD (eI x2.1) dw).fText)==[])
   (iw (aE (x2.1+1),x2.2))
   ((cond (eJ (0<=aE ((Sx x2.2:Int)-1)))
   (rq ((eJ (0<=aE ((Sx x2.2:Int)-1)))&&(eJ (aE ((Sx x2.2:Int)-1)<(Sx x2.2:Int)))) (iN (((x2.2.getD (eI (aE ((Sx x2.2:Int)-1))) dw).aH)==((l.getD (eI x2.1) dw).aH),x2.2)))
   (iN (eK,x2.2)):O (Bool×(J aA))).bind λx4=>
   cond x4.1
   (rq ((eJ (0<=aE ((Sx x2.2:Int)-1)))&&(eJ (aE ((Sx x2.2:Int)-1)<(Sx x4.2:Int)))) (rq (eJ (Sx ((x4.2.getD (eI (aE ((Sx x2.2:Int)-1))) dw).fText)+Sx ((l.getD (eI x2.1) dw).fText)<=9223372036854775807)) (rq ((eJ (0<=aE ((Sx x2.2:Int)-1)))&&(eJ (aE ((Sx x2.2:Int)-1)<(Sx x4.2:Int)))) (iw (aE (x2.1+1),x4.2.set (eI (aE ((Sx x2.2:Int)-1))) (aA.mk (((x4.2.getD (eI (aE ((Sx x2.2:Int)-1))) dw).fText)++((l.getD (eI x2.1) dw).fText)) ((x4.2.getD (eI (aE ((Sx x2.2:Int)-1))) dw).aH)))))))
   (rq ((eJ (Sx x4.2+Sx ([(l.getD (eI x2.1) dw)]:J aA)<=9223372036854775807))&&(eJ ((Sx x4.2+Sx ([(l.getD (eI x2.1) dw)]:J aA))*24<=140737488355328))) (iw (aE (x2.1+1),x4.2++([(l.getD (eI x2.1) dw)]:J aA)))))))
   (iN (f x2.2))) F (0,([]:J aA))=iN (f (pV l)):=by
 refine aB.eqv ?_;refine aB.lp (λz:Int×J aA=>∃k:Nat,z.1=(k:Int)/\k<=Sx l/\z.2=pV (l.take k)) (λz=>Sx l-z.1.toNat) ⟨0,rfl,fF _,rfl⟩ (by simp_all) ?_;rintro⟨i,o⟩ ⟨k,q1,hk,q2⟩ rc hrc;dsimp only at q1 q2 hrc⊢;subst q1;refine aB.cd (λh=>?_) λh=>?_
 .have hk:k<Sx l:=om;have hm:Sx l-Int.toNat ((k+1:Nat):Int)<Sx l-Int.toNat (k:Int):=om;have es:pV (l.take (k+1))=tn o l[k]:=by unfold pV;rw[ku hk,PK,q2];rfl
  obtain⟨b1,b2⟩:=Oo (l.take k) [];rw[show(l.take k).foldl tn []=o from q2.symm]at b1 b2;have b3:=tw l k;have b5:=tw l (k+1);have b6:=pZ l k hk;have z0:bH ([]:J aA)=0:=rfl;simp only[H9]at b2;have nx:∀o',o'=tn o l[k]->aB (λr=>r=f (pV l)) (rc (((k+1:Nat):Int),o')):=λo' ho=>hrc _ ⟨k+1,rfl,hk,by rw[es];exact ho⟩ hm;rw[bX om om,bF om,bN,gd hk];generalize l[k]=a at nx b6⊢;refine aB.cb (λha=>nx o (by unfold tn;rw[ha];rfl)) λha=>?_;by_cases h0:0<Sx o
  .have e1:aE ((Sx o:Int)-1)=((Sx o-1:Nat):Int):=by grind[bQ]
   rw[e1,b9 om,bX om om,bN,aC]
   refine aB.cb (λhc=>?_) λhc=>aB.rq (o5 (by grind) de) (nx _ (by
    unfold tn;grind))
   have hle:(o.getD (Sx o-1) dw).fText.length<=bH o:=by have hlt:Sx o-1<Sx o:=om;rw[gd hlt];have:=pZ o (Sx o-1) hlt;grind
   refine aB.rq (mL om (by dsimp only;omega)) (aB.rq (decide_eq_true (by dsimp only;omega)) (aB.rq (mL om (by dsimp only;omega)) (nx _ ?_)));unfold tn;grind
  .have e1:aE ((Sx o:Int)-1)=-1:=by simp_all[bQ]
   rw[e1,cf om,aC];exact aB.rq (o5 (by simp_all) de) (nx _ (by unfold tn;grind))
 simp_all[va,aB.ok]
def RPt(fl:J aN)(k:Nat)(a:J aA×Bool×aO)(b:J aA×aY):Prop:=mG b.2/\RB k b.1/\((stop b.2=eK/\a=(pV b.1,eQ,iL fl b.2))\/(stop b.2=eQ/\a.2.1=eK/\Fin a.2.2 b.2))
theorem apw(F:Nat)(t:Bs):wI F t=iN ((t==[64])||(t==[42])):=by unfold wI wx;rw[aG];rfl
theorem aq1(F:Nat)(o:Int)(c s:Bool)(v:Bs):Db F o c s v=uI F o c s v:=by unfold Db uI wx;simp only[aG,aC];grind
theorem alV(hF:100000000<=F)(h1:X1 fl F n)(N:Nat)(l:J d6)(s:aY)(hs:mG s)(hst:stop s=eK)(hl:gv l<=1000)(hn:9*gv l+9<=n)(hN:6*gv l+6<=N):
  T2 (RPt fl (gv l)) ((bf F (n+1)).2.2.2.2.2.2.1 l (iL fl s)) ((bz F N).1 l (dm.mk eK eK eK) s):=by
 show T2 _ (qK F (bf F n) l (iL fl s)) _;unfold qK wx;obtain⟨⟨r,ok,x'⟩,⟨r',s'⟩,h,e1,e2⟩:=h1 N l (dM.mk eK eK 0) (dm.mk eK eK eK) s ⟨rfl,rfl⟩ hs hst hl hn hN;have h:=h.rr (λ_=>rfl);rw[e1,e2,aC];obtain⟨g1,g2,⟨k1,k2⟩|⟨k1,k2,k3,k4⟩⟩:=h
 .cases k2;have z1:=g2.1;have z2:=g2.2;dsimp only at z1 z2⊢;rw[ag7 F _ (λo=>(o,eQ,iL fl s')) om om om];exact T2.ok ⟨g1,g2,.inl ⟨k1,rfl⟩⟩
 .have k4:=k4;subst k2 k4;rw[ag7 F [] (λo=>(o,eK,x')) aM si (by simp[bH])];exact T2.ok ⟨g1,g2,.inr ⟨k1,rfl,k3⟩⟩
theorem alW(hF:100000000<=F)(hv:XV fl F n)(N:Nat)(x:d6)(m:dM)(p:dm)(s:aY)(hm:m.fY=p.fY)(hs:mG s)(hst:stop s=eK)(hl:wP x<=1000)(hn:9*gv x.fParts+10<=n)(hN:6*gv x.fParts+7<=N):
  T2 (λa b=>mG b/\stop b=eQ/\a.1=eK/\Fin a.2 b) ((bf F (n+1)).2.2.2.2.2.2.2.2 x m (iL fl s)) ((bz F (N+1)).2.2.2.2.2 x p s):=by
 have hw:=LO x;show T2 _ (qL F (bf F n) x m (iL fl s)) (ou F (bz F N) x p s);unfold qL ou wx;rw[aG,aC];have l1:eJ (Sx x.fText+Sx ([58,32]:Bs)<=9223372036854775807)=eQ:=decide_eq_true (by grind);have bad:∀(t:Bs)(u:aY),mG u->stop u=eK->mG (cond (stop u) u {u with fe:=32,fX:=t})/\stop (cond (stop u) u {u with fe:=32,fX:=t})=eQ/\Fin {iL fl u with fX:=t,yx:=32} (cond (stop u) u {u with fe:=32,fX:=t}):=λt u hu hsu=>⟨On hu _ _,(failed (fl:=fl) hsu de).1,(failed hsu de).2⟩;by_cases h0:0<Sx x.fParts
 .rw[b9 om];obtain⟨⟨t0,ok,x'⟩,⟨t,s'⟩,⟨⟨⟨hg,hi,hh⟩,hlen⟩,-⟩,e1,e2⟩:=hv N x.fParts m p.fY s hm hs hst om hn hN;rw[e2];rcases hh with⟨k1,k2⟩|⟨k1,k2,k3,k4⟩
  .cases k2;grind[T2.ql,T2.qr,MK,yQ,T2.ok]
  .subst k2;grind[T2.qr,yQ,T2.ok]
 .rw[cf om,cf om];cases x.fColon with
  | true=>refine T2.ql (eT (by show x.fText.length+27<=_;omega)) (T2.qr l1 (T2.qr (eT (by rw[ov];show x.fText.length+2+25<=_;omega)) ?_));simp_all[MK,yQ,T2.ok]
  | false=>refine T2.ql (eT (by show x.fText.length+19<=_;omega)) (T2.qr l1 (T2.qr (eT (by rw[ov];show x.fText.length+2+17<=_;omega)) ?_));simp_all[MK,yQ,T2.ok]
def Ya(F:Nat):Prop:=∀(op:Int)(v:Bs)(l:J aA),6<=op->op<=9->Sx v<=4096->Sx l<=26000->bH l<=5000000 ->
 T2 (λa b=>a=b/\b.length<=Sx v) ((eu F (pV l)).bind λp=>HA F op v p) ((fM F l).bind λp=>Hu F op v p)
theorem T2.bd2{X Y:Type}{Q:A->B->Prop}{x:O X}{y:O Y}{f:X->O C}{g:Y->O D}{h:C->O A}{h':D->O B}(t:T2 P (x.bind f) (y.bind g))(k:∀a b,P a b->T2 Q (h a) (h' b)):T2 Q (x.bind λa=>(f a).bind h) (y.bind λb=>(g b).bind h'):=by rw[<-abx,<-abx];exact T2.bd t k
theorem auR{X Y:Type}{y:O X}{g:X->O D}{h:D->O Y}{b:D}(e:(y.bind g)=iN b):(y.bind λb=>(g b).bind h)=h b:=by rw[<-abx,e];rfl
theorem pid(y:O (A×B×C)):(y.bind λx=>iN (x.1,x.2.1,x.2.2))=y:=by cases y<;>rfl
theorem as5(y:O (A×B)):(y.bind λx=>iN (x.1,x.2))=y:=by cases y<;>rfl
theorem trB(o:Int):(cond (o==6) (o==6) (cond (o==7) (o==7) (cond (o==8) (o==8) (o==9))))=cond (eJ (6<=o)) (eJ (o<=9)) eK:=by rw[cF];grind
theorem aq2(F:Nat)(fl:J aN)(h:mG s)(n v:Bs)(m:dM)(p:dm)(hm:Mo m p)(hv:Sx v<=4096)(hF:1000<F):T2 (λa b=>a=b/\RB 1 b) (oZ F n v m (iL fl s)) (nO F n v p s):=by
 obtain⟨r,hr,er⟩:=aqR F h.1 n v p hv hF;refine⟨r,r,⟨rfl,hr⟩,?_,er⟩;rw[<-er];obtain⟨m1,m2⟩:=hm;unfold oZ nO wx;rw[apw,apv F m1,m1,m2,show(iL fl s).bI=s.bI from rfl];simp only[aG,aC];obtain⟨c,hc⟩:=Tq F p;have e:cond (cond (!p.lF) eQ (!((n==[64])||(n==[42])))) eQ (cond (n==[42]) p.fY eK)=cond (cond (!p.lF) eQ (cond (!(n==[64])) (!(n==[42])) eK)) eQ (cond p.fY (n==[42]) eK):=by grind
 rw[e];cases (cond (cond (!p.lF) eQ (cond (!(n==[64])) (!(n==[42])) eK)) eQ (cond p.fY (n==[42]) eK))with
 | true=>rfl|false=>
  rw[aI];congr 1;funext rc z;cases hd:eJ (z.2<(Sx s.bI.cZ:Int))with
  | false=>rfl|true=>cases h0:eJ (0<=z.2)with|false=>grind|true=>rfl
theorem aq3(hF:100000000<=F)(hT:Ya F)(h1:∀k,k<n->X1 fl F k)(hV:∀k,k<n->XV fl F k)(N:Nat)(x:d6)(m:dM)(p:dm)(s:aY)(hm:Mo m p)(hs:mG s)(hst:stop s=eK)(hx:wP x<=1000)(hn:9*wP x+7<=n)(hN:6*wP x+4<=N):
  T2 (RJ fl (wP x) m p) ((bf F n).2.2.2.2.2.1 x m (iL fl s)) ((bz F N).2.2.2.2.1 x p s):=by
 have hw:=LO x;obtain⟨j,rfl⟩:∃j,n=j+3:=⟨n-3,om⟩;obtain⟨M,rfl⟩:∃j,N=j+2:=⟨N-2,om⟩;show T2 _ (pH F (bf F (j+2)) x m (iL fl s)) (oq F (bz F (M+1)) x p s);unfold pH oq wx;obtain⟨⟨v,st⟩,hv,ev⟩:=aqQ F hs.1.1 x.fText om om;rw[show Aj F (iL fl s).bI x.fText=kY F s.bI x.fText from as2 F hs.1.1 x.fText om om,ev,aC,aC];obtain⟨c,hc⟩:=Tq F p;have hmc:eN F m=iN c:=by rw[apv F hm.1,hc]
 have htr:EY F x.fOp=iN (cond (eJ (6<=x.fOp)) (eJ (x.fOp<=9)) eK):=by unfold EY wx;rw[aG];rfl
 simp only[apw,htr,hc,hmc,aG,aC,trB,cT];dsimp only at hv⊢;rw[show(iL fl s).bI=s.bI from rfl];generalize htB:cond (eJ (6<=x.fOp)) (eJ (x.fOp<=9)) eK=tr;generalize hnb:((lP .i64 s.bI.gw 2) != 0)=nb;have l1:eJ (Sx x.fText+Sx ([58,32,112,97,114,97,109,101,116,101,114,32,110,111,116,32,115,101,116]:Bs)<=9223372036854775807)=eQ:=eT (by show x.fText.length+19<=_;omega);have key:∀A B:O (Unit ⊕ (J aA×Bool×aO)),(cond (cond (x.fOp==0) (x.fOp==0) (cond (x.fOp==5) (x.fOp==5) tr)) (cond (cond (cond nb (!st) eK) (!((x.fText==[64])||(x.fText==[42]))) eK) A B) B)=cond (cond (cond (cond nb (!((x.fText==[64])||(x.fText==[42]))) eK) (!st) eK) ((x.fOp==0)||((x.fOp==5)||tr)) eK) A B:=λA B=>by grind
 rw[key];have one:∀(t:Bs)(u:aY),Sx t<=5000*wP x->mG u->stop u=eK->T2 (RJ fl (wP x) m p) ((iE F t c).bind λga=>iN (ga,eQ,iL fl u)) (iN ([aA.mk t c],u)):=λt u ht hu hsu=>T2.ok (RJ.go hu (RB.one om ht) hsu);cases (cond (cond (cond nb (!((x.fText==[64])||(x.fText==[42]))) eK) (!st) eK) ((x.fOp==0)||((x.fOp==5)||tr)) eK)with
 | true=>rw[aQ,aQ,cy l1,cy l1,MK,yQ];exact T2.ok (RR.j (RR.err hs (RB.nil (k:=1)) hst de rfl) om)|false=>
  rw[aI,aI];show T2 _ (cond (x.fOp==5) _ _) _;have R:∀k:Nat,k<=1000000->K.ir (k:Int):=λk hk=>⟨om,om⟩;have dec:∀k:Nat,k<=1000000->T2 (RJ fl (wP x) m p) ((qF F (k:Int)).bind λgz=>(iE F gz c).bind λga=>iN (ga,eQ,iL fl s)) ((dW F (k:Int)).bind λx9=>iN ([aA.mk x9 c],s)):=λk hk=>by grind[K.zh,ajO,K.Mj]
  cases h5:(x.fOp==5)with
  | true=>rw[aQ,aQ,aQ];have hp:=hs.1.1.2.1;show T2 _ ((qF F (cond ((x.fText==[64])||(x.fText==[42])) (Sx s.bI.cZ:Int) (Sx v:Int))).bind _) _;grind
  | false=>
   rw[aI,aI,aI,aI];cases tr with
   | true=>
    rw[aQ,aQ];have hop:6<=x.fOp/\x.fOp<=9:=by simp_all
    refine T2.bd (alV hF (h1 (j+1) om) (M+1) x.fParts s hs hst om om om) ?_;rintro⟨r,ok,x'⟩ ⟨r',s'⟩ ⟨g1,g2,g3⟩;dsimp only at g1 g2 g3⊢;have z1:=g2.1;have z2:=g2.2;have hTr:=hT x.fOp v r' hop.1 hop.2 hv om om;rcases g3 with⟨k1,k2⟩|⟨k1,k2,k3⟩
    .cases k2;rw[fU,aI];refine T2.bd2 hTr ?_;grind
    .have k2:ok=eK:=k2;subst k2;rw[nu,aQ];obtain⟨a,b,⟨-,hb⟩,-,e2⟩:=hTr;rw[auR e2];exact T2.ok ⟨g1,RB.one om om,.inr ⟨k1,rfl,k3,rfl⟩⟩
   | false=>
    rw[aI,aI,d6.eta,pid];show T2 _ (rW F (bf F (j+1)) x m v st (iL fl s)) _;unfold rW wx;rw[aq1];obtain⟨ch,hch⟩:=aou F x.fOp x.fColon st v;rw[hch,aC,aC,hmc];simp only[pid,as5,d6.eta];refine T2.cb (λ_=>?_) λ_=>T2.cb (λ_=>one [] s (fF _) hs hst) λ_=>T2.cb (λ_=>?_) λ_=>T2.cb (λ_=>?_) λ_=>?_
    .refine T2.mono (h1 (j+1) om (M+1) x.fParts {m with dZ:=2} {p with Eh:=eQ} s hm hs hst om om om) ?_;rintro a b h;exact RR.j (h.rr λ_=>rfl) om
    .rw[K.IU F _ om];obtain⟨nm,-,enm⟩:=GK F x.fText om;rw[enm,aC,aC];have l3:eJ (Sx x.fText+Sx ([58,32,99,97,110,110,111,116,32,97,115,115,105,103,110]:Bs)<=9223372036854775807)=eQ:=eT (by show x.fText.length+15<=_;omega);refine T2.cb (λ_=>?_) λ_=>?_
     .rw[cy l3,cy l3,MK,yQ];exact T2.ok (RR.j (RR.err hs (RB.nil (k:=1)) hst de rfl) om)
     .refine T2.bd (hV (j+1) om (M+1) x.fParts m p.fY s hm.1 hs hst om om om) ?_;rintro⟨t0,ok,x'⟩ ⟨t,s'⟩ ⟨⟨⟨g1,g2,g3⟩,g4⟩,g5⟩;dsimp only at g1 g2 g3 g4 g5⊢;have ht:Sx t<=5000*wP x:=by grind
      rcases g3 with⟨k1,k2⟩|⟨k1,k2,k3,k4⟩
      .cases k2;rw[fU,aI];refine T2.l (P:=λy:Bool×aO=>∃s2,iZ F x.fText t0 s'=iN s2/\mG s2/\((stop s2=eK/\y=(eK,iL fl s2))\/(stop s2=eQ/\y.1=eQ/\Fin y.2 s2))) ?_ ?_
       .obtain⟨⟨a1,a2⟩,s2,⟨b1,b2⟩,e1,e2⟩:=ag5 F fl g1 k1 x.fText t0 om;simp_all[aC,aB.ok]
       .rintro⟨a1,a2⟩ ⟨s2,e2,b1,b2⟩;rw[e2,aC];rcases b2 with⟨b2,b3⟩|⟨b2,b3,b4⟩
        .simp_all
        .have b3:a1=eQ:=b3;subst b3;exact T2.ok ⟨b1,RB.one om ht,.inr ⟨b2,rfl,b4,rfl⟩⟩
      .have k2:ok=eK:=k2;subst k2;rw[nu,aQ,aC,apt F k1,aC];exact T2.ok ⟨g1,RB.one om ht,.inr ⟨k1,rfl,k3,rfl⟩⟩
    .refine T2.bd (alW hF (hV j om) M x m p s hm.1 hs hst hx om om) ?_;rintro⟨a1,a2⟩ s2 ⟨b1,b2,b3,b4⟩;have b3:a1=eK:=b3;subst b3;exact T2.ok ⟨b1,RB.nil,.inr ⟨b2,rfl,b4,rfl⟩⟩
    .refine T2.bd (aq2 F fl hs x.fText v m p hm hv om) ?_;rintro a b ⟨rfl,hb⟩;exact T2.ok (RJ.go hs (hb.mono om) hst)
theorem av6(F:Nat)(p:d6)(f:Bool->O R):((cond (p.fKind==4) (iN (p.fText==([64]:Bs))) (iN eK):O Bool).bind λx4=>(cond x4 (iN (p.fOp==0)) (iN eK):O Bool).bind f)=(yz F p).bind f:=by unfold yz wx;grind
theorem auS(F:Nat){l:J bP}(hl:Sx l<=128)(hF:1000<F)(n:Bs)(A:bP->O R)(B:O R):((yD F l n).bind λx5=>(cond x5.2 (iN x5.1.cJ) (iN eK):O Bool).bind λx6=>cond x6 (A x5.1) B)=cond (jG l n).1.cJ (A (jG l n).1) B:=by
 rw[ajN F _ _ om om];have hb:(jG l n).2=eK->(jG l n).1=bP.mk [] [] eK eK eK:=by unfold jG;cases l.find? _<;>simp
 grind
theorem as6(hN':NC<=F)(hF:100000000<=F)(hT:Ya F)(h1:∀k,k<n->X1 fl F k)(hV:∀k,k<n->XV fl F k):X2 fl F n:=by
 intro N x m p s hm hs hst hx hn hN;have hw:=LO x;obtain⟨j,rfl⟩:∃j,n=j+2:=⟨n-2,om⟩;obtain⟨M,rfl⟩:∃j,N=j+2:=⟨N-2,om⟩;show T2 _ (tK F (bf F (j+1)) x m (iL fl s)) (pG F (bz F (M+1)) x p s);unfold tK pG wx;obtain⟨c,hc⟩:=Tq F p;obtain⟨d,hd⟩:=as0 F p;simp only[pid,d6.eta];have one:∀(t:Bs)(c:Int),Sx t<=5000*wP x->T2 (RJ fl (wP x) m p) ((iE F t c).bind λga=>iN (ga,eQ,iL fl s)) (iN ([aA.mk t c],s)):=λt c ht=>T2.ok (RJ.go hs (RB.one om ht) hst);refine T2.cb (λ_=>?_) λ_=>T2.cb (λ_=>one _ _ om) λ_=>T2.cb (λ_=>?_) λ_=>T2.cb (λ_=>?_) λ_=>T2.cb (λ_=>?_) λ_=>T2.cb (λ_=>?_) λ_=>T2.cb (λ_=>?_) λ_=>T2.ok (RJ.go hs RB.nil hst)
 .
  have hl:∃d',su F m=iN d'/\(COk m p->d'=d):=by unfold su wx;unfold rS wx at hd;rw[<-hm.1]at hd;unfold COk;grind
  obtain⟨d',hd',he⟩:=hl;rw[hd,hd',aC,aC];exact T2.ok ⟨hs,RB.one om (by grind),.inl ⟨hst,rfl,rfl,λh=>by rw[he h]⟩⟩
 .
  show T2 _ (rV F (bf F j) x m (iL fl s)) _;unfold rV wx;have hkl:=LP x.fParts
  have rl:∀(r:J aA)(u:aY),aB (λy=>y=(r,u)\/(r=[]/\y=([aA.mk [] 1],u))) (ck (σ:=Int) (R:=(J aA)×aY) (λkP x3=>
    cond (eJ (x3<(Sx x.fParts:Int)))
    (rq ((eJ (0<=x3))&&(eJ (x3<(Sx x.fParts:Int)))) ((yz F (x.fParts.getD (eI x3) mM)).bind λx5=>
    cond x5
    (iN (r,u))
    (kP (aE (x3+1)))))
    (cond ((Sx r:Int)==0)
    (iN (([(aA.mk [] 1)]:J aA),u))
    (iN (r,u)))) F 0):=λr u=>by
   refine aB.lp (λi:Int=>∃k:Nat,i=(k:Int)/\k<=Sx x.fParts) (λi=>Sx x.fParts-i.toNat) ⟨0,rfl,om⟩ (by grind) ?_;rintro _ ⟨k,rfl,hk⟩ rc hrc;refine aB.cd (λh=>?_) λ_=>aB.cb (λh=>aB.ok (.inr ⟨VB.1 (by simp_all),rfl⟩)) λ_=>aB.ok (.inl rfl);obtain⟨b,hb⟩:=apr F (x.fParts.getD (eI (k:Int)) mM);rw[bX om om,hb,aC,bF om];exact aB.cb (λ_=>aB.ok (.inl rfl)) λ_=>hrc _ ⟨k+1,rfl,om⟩ (by grind)
  refine T2.bd (h1 j om (M+1) x.fParts (dM.mk eQ m.lF 0) (dm.mk eQ eK p.lF) s ⟨rfl,hm.2⟩ hs hst om om om) ?_;intro a b h;have h:=h.rr (λh=>nomatch h);obtain⟨r,ok,x'⟩:=a;obtain⟨r',s'⟩:=b;obtain⟨g1,g2,⟨k1,k2⟩|⟨k1,k2,k3,k4⟩⟩:=h
  .cases k2;dsimp only at g1 g2 k1⊢;rw[fU,aI];by_cases h0:0<Sx r'
   .rw[b9 om];obtain⟨y,hy,e⟩:=rl r' s';rw[e];rcases hy with rfl|⟨h,_⟩
    .exact T2.ok (RJ.go g1 (g2.mono om) k1)
    simp_all
   .rw[cf om];have hnil:r'=[]:=VB.1 om;subst hnil;refine T2.lp (λ(i i':Int)=>∃k:Nat,i=(k:Int)/\i'=(k:Int)/\k<=Sx x.fParts) (λi=>Sx x.fParts-i.toNat) ⟨0,rfl,rfl,om⟩ (by grind) ?_;rintro _ _ ⟨k,rfl,rfl,hk⟩ q1 q2 hrc;refine T2.cb (λh=>?_) λ_=>T2.ok (RJ.go g1 (RB.one om (fF _)) k1);have h:=DA h;have e:=av6 (R:=J aA×Bool×aO) F (x.fParts.getD (eI (k:Int)) mM);obtain⟨b,hb⟩:=apr F (x.fParts.getD (eI (k:Int)) mM);refine T2.ql (mL om om) (T2.qr (mL om om) ?_);rw[e,hb,aC,aC,bF om];exact T2.cb (λ_=>T2.ok (RJ.go g1 RB.nil k1)) λ_=>hrc _ _ ⟨k+1,rfl,rfl,om⟩ (by grind)
  .have k2:ok=eK:=k2;have k4:r=[]:=k4;subst k2 k4;dsimp only at g1 g2 k1 k3⊢;rw[nu,aQ];obtain⟨y,hy,e⟩:=rl r' s';rw[e];rcases hy with rfl|⟨_,rfl⟩
   .exact T2.ok ⟨g1,g2.mono om,.inr ⟨k1,rfl,k3,rfl⟩⟩
   .exact T2.ok ⟨g1,RB.one om (fF _),.inr ⟨k1,rfl,k3,rfl⟩⟩
 .
  have hl:=hs.1.1.1.1;have hv:=(SI hs.1.1.1 [72,79,77,69]).2;have e:=auS F (l:=s.bI.bR) hl om [72,79,77,69] (λv=>(iE F v.cg 1).bind λx7=>iN (x7,eQ,iL fl s)) ((iE F [126] 0).bind λx8=>iN (x8,eQ,iL fl s));rw[show(iL fl s).bI=s.bI from rfl,e,Ao F s.bI.bR _ om om,aC];grind
 .
  exact(av4 F fl hs hst x m p hm.1 om).mono λa b h=>RR.j h om
 .
  have:=as4 hN' hF fl (bf F j) (bz F M) x m p hm.1 s ((hV j om M x.fParts (dM.mk eQ eK 0) eQ s rfl hs hst om om om).mono λa b h=>h.1);exact this.mono λa b h=>RR.j h om
 grind[aq3,as5]
theorem apx(hN':NC<=F)(hF:100000000<=F)(hT:Ya F):∀n,X1 fl F n:=by
 intro n
 induction n using Nat.strongRecOn with
 | ind n ih=>
  cases n with
  | zero=>intro N l m p s _ _ _ _ h _;omega|succ n=>
   have hV:∀k,k<n+1->XV fl F k:=λk hk=>by cases k with|zero=>intro N l m q s _ _ _ _ h _;omega|succ k=>grind[aq0]
   grind[aqY,as6]
def ajP(it:aD)(t:Bs):Prop:=it.fKind=3\/∃b,t=[b]/\UU it (b.toNat:Int)=eQ
def Mt:J aD->Bs->Prop|[],s=>s=[]|it::p,s=>∃a b,s=a++b/\ajP it a/\Mt p b
theorem Tr:∀(p:J aD)(it:aD)(s:Bs),Mt (p++[it]) s↔∃a b,s=a++b/\Mt p a/\ajP it b
 | [],it,s=>by
  constructor
  .rintro⟨a,b,rfl,h,rfl⟩;exact⟨[],a,si,rfl,h⟩
  .rintro⟨a,b,rfl,rfl,h⟩;exact⟨b,[],si,h,rfl⟩
 | x::p,it,s=>by
  constructor
  .rintro⟨a,b,rfl,h,hb⟩;obtain⟨c,d,rfl,h1,h2⟩:=(Tr p it b).1 hb;exact⟨a++c,d,si,⟨a,c,rfl,h,h1⟩,h2⟩
  .rintro⟨a,b,rfl,⟨c,d,rfl,h1,h2⟩,h3⟩;exact⟨c,d++b,si,h1,(Tr p it _).2 ⟨d,b,rfl,h2,h3⟩⟩
theorem aoy{it:aD}{t:Bs}(h:ajP it t):ajP it t.reverse:=by
 rcases h with h|⟨b,rfl,h⟩
 .exact .inl h
 .exact .inr ⟨b,rfl,h⟩
theorem aeO:∀(p:J aD)(s:Bs),Mt p s->Mt p.reverse s.reverse
 | [],s,h=>by obtain rfl:s=[]:=h;rfl
 | it::p,s,h=>by obtain⟨a,b,rfl,h1,h2⟩:=h;rw[List.reverse_cons,List.reverse_append];exact(Tr _ _ _).2 ⟨_,_,rfl,aeO p b h2,aoy h1⟩
theorem ag8(f:Nat->Bool):∀k,upE f k=eQ↔∃j,j<=k/\f j=eQ
 | 0=>⟨λh=>⟨0,eE _,h⟩,λ⟨j,h,e⟩=>by rwa [show j=0 by omega]at e⟩
 | k+1=>by
  rw[upE,KW,ag8 f k];constructor
  .rintro (h|⟨j,h,e⟩)
   .exact⟨k+1,eE _,h⟩
   .exact⟨j,om,e⟩
  .rintro⟨j,h,e⟩;by_cases hj:j=k+1
   .subst hj;exact .inl e
   .exact .inr ⟨j,om,e⟩
theorem Se(p:J aD)(s:Bs):∀i,i<=Sx p->∀k,k<=Sx s->(EE p s i k=eQ↔Mt (p.take i) (s.take k))
 | 0,_,k,hk=>by show(k==0)=eQ↔s.take k=[];rw[List.take_eq_nil_iff];grind
 | i+1,hi,k,hk=>by
  have hki:Wd p i=p[i]:=by unfold Wd;rw[gd om]
  rw[ku (show i<p.length by omega),Tr,EE];cases hs:nT p i with
  | true=>
   rw[aQ,ag8];have h3:p[i].fKind=3:=by unfold nT at hs;simp_all
   constructor
   .rintro⟨j,hj,e⟩;refine⟨s.take j,(s.take k).drop j,?_,(Se p s i om j om).1 e,.inl h3⟩;grind[Nat.min_eq_left,List.take_append_drop]
   .rintro⟨a,b,e,h1,-⟩;have hl:=congrArg Sx e;rw[pX,ov]at hl;refine⟨a.length,om,(Se p s i om _ om).2 ?_⟩;grind[Nat.min_eq_left,List.take_left]
  | false=>
   have h3:p[i].fKind≠3:=by unfold nT at hs;simp_all
   cases k with
   | zero=>
    refine⟨λh=>(by cases h),?_⟩;rintro⟨a,b,e,-,h|⟨c,rfl,h⟩⟩
    .exact absurd h h3
    .simp at e
   | succ k=>
    have hsk:s.take (k+1)=s.take k++[s[k]]:=ku om;show(EE p s i k&&Qm p s i k)=eQ↔_;rw[cH,Se p s i om k om,hsk];unfold Qm;rw[hki,gd (show k<s.length by omega)];constructor
    .rintro⟨h1,h2⟩;exact⟨_,_,rfl,h1,.inr ⟨_,rfl,h2⟩⟩
    .rintro⟨a,b,e,h1,h|⟨c,rfl,h⟩⟩
     .exact absurd h h3
     grind[List.append_inj']
theorem as7(p:J aD)(s:Bs){k:Nat}(hk:k<=Sx s):EE p.reverse s.reverse p.reverse.length k=EE p (s.drop (Sx s-k)) p.length (s.drop (Sx s-k)).length:=by rw[tW,Se _ _ _ (eE _) _ (by simpa using hk),Se _ _ _ (eE _) _ (eE _),nW,nW,nW,List.take_reverse];exact⟨λh=>by simpa using aeO _ _ h,λh=>aeO _ _ h⟩
def eA(long:Bool)(g:Nat->Bool):Nat->Int×Bool|0=>(0,eK)|k+1=>cond (g k&&cond long eQ (!(eA long g k).2)) ((k:Int),eQ) (eA long g k)
theorem KS(b:Bool){f g:Nat->Bool}:∀k,(∀j,j<k->f j=g j)->eA b f k=eA b g k|0,_=>rfl|k+1,h=>by rw[eA,eA,h k om,KS b k λj hj=>h j om]
theorem Oq(b:Bool)(g:Nat->Bool)(k:Nat)(h:∀j,k<=j->g j=eK):∀d,eA b g (k+d)=eA b g k|0=>rfl|d+1=>by rw[<-St,eA,h _ om,Oq b g k h d];rfl
theorem aaG(g:Nat->Bool)(k:Nat)(h:(eA eK g k).2=eQ):∀d,eA eK g (k+d)=eA eK g k|0=>rfl|d+1=>by rw[<-St,eA,aaG g k h d,h,aI,fU,MU,aI]
theorem aeP(b:Bool)(g:Nat->Bool):∀k,∃j:Nat,(eA b g k).1=(j:Int)/\j<=k-1/\((eA b g k).2=eK->j=0)
 | 0=>⟨0,rfl,eE _,λ_=>rfl⟩|k+1=>by obtain⟨j,h1,h2,h3⟩:=aeP b g k;rw[eA];grind
variable{v:Bool}
theorem aaH(F:Nat)(p:J aD)(n:Bs)(long:Bool)(hF:Sx p+300<F)(oN:Sx n<F)(hn:Sx n<50000000)(hp:Sx p<50000000)(hit:∀it∈p,jH it)(hv:iR F p=iN v):
  mO F p n 0 long=iN (eA long (λk=>v&&EE p n p.length k) (Sx n+1)):=by
 unfold mO wx;rw[hv,aC];cases v with
 | false=>have:=Oq long (λk=>eK&&EE p n p.length k) 0 (λ_ _=>rfl) (Sx n+1);rw[sC]at this;rw[this];rfl|true=>
  have hw:aE ((Sx p:Int)+1)=((Sx p+1:Nat):Int):=bM om;have hlen:∀g:Nat->Bool,Sx (gQ (Sx p+1) g)=Sx p+1:=λg=>AQ _ g;rw[hw,fU,aI,cy (by rw[dT om,dT om,dT om,dT om,dT om];rfl),bN,jP si,Np,DW];rw[jK (g:=λj=>j==0) λj _=>by cases (j==0)<;>rfl,Qn F p _ om hp,aC,jK λj _=>acT p n j];have hsw:∀x:O (Int×Bool),x=iN (eA long (EE p n p.length) (Sx n+1))->(x.bind λx3=>iN (x3.1,x3.2))=iN (eA long (EE p n p.length) (Sx n+1)):=by rintro x rfl;rfl
  refine hsw _ (bW (λs=>∃k:Nat,s=(gQ (Sx p+1) (λj=>EP p n j k),(eA long (EE p n p.length) k).1,(eA long (EE p n p.length) k).2,(k:Int))/\k<=Sx n/\(long=eK->(eA long (EE p n p.length) k).2=eK)) (λs=>Sx n-s.2.2.2.toNat) ?_ F _ ⟨0,rfl,om,λ_=>rfl⟩ aM);rintro s ⟨k,rfl,hk,hsh⟩;rw[bX om (by rw[hlen];omega),bN p.length,bN k,uj _ om,We,aG];have hS:eA long (EE p n p.length) (k+1)=cond (EE p n p.length k) ((k:Int),eQ) (eA long (EE p n p.length) k):=by rw[eA];grind
  have hend:∀d,(∀j,k<j->j<=Sx n->EE p n p.length j=eK)->k+1+d=Sx n+1->eA long (EE p n p.length) (Sx n+1)=eA long (EE p n p.length) (k+1):=by intro d h1 h2;rw[KS long (Sx n+1) (g:=λj=>EE p n p.length j&&eJ (j<=Sx n)) λj hj=>by grind,KS long (k+1) (g:=λj=>EE p n p.length j&&eJ (j<=Sx n)) λj hj=>by grind,<-h2];refine Oq _ _ _ (λj hj=>?_) d;grind
  by_cases Nk:(EE p n p.length k && !long)=eQ
  .right;rw[cH]at Nk;obtain⟨h1,h2⟩:=Nk;have hl:long=eK:=by simpa using h2
   subst hl;intro rc;rw[h1];rw[h1,aQ]at hS;have:=aaG (EE p n p.length) (k+1) (by rw[hS]) (Sx n-k);rw[show k+1+(Sx n-k)=Sx n+1 by omega,hS]at this;rw[this];rfl
  .have hstep:∀G:Int×Bool->O (Int×Bool),(jj (σ:=Int×Bool) ((iN (cond (EE p n p.length k) (eJ ((0:Int)<=(k:Int))) eK):O Bool).bind λx7=>cond x7 (cond (!long) (iN (.inr ((k:Int),eQ))) (iN (.inl ((k:Int),eQ)))) (iN (.inl ((eA long (EE p n p.length) k).1,(eA long (EE p n p.length) k).2)))) G)=G (eA long (EE p n p.length) (k+1)):=by
    intro G;rw[hS,aC];cases h1:EE p n p.length k with
    | false=>rfl|true=>
     have:long=eQ:=by simp_all
     rw[this];rfl
   by_cases hkn:k<Sx n
   .obtain⟨c,hc1,hc⟩:=T8 F (gQ (Sx p+1) (λj=>EP p n j k)) (by rw[hlen];omega) (by rw[hlen];omega);cases c with
    | false=>
     have hz:∀j,k<j->j<=Sx n->EE p n p.length j=eK:=by
      intro j h1 h2
      have:=SZ p n k (λi hi=>by
       have:=hc1 rfl i (by rw[hlen];omega)
       grind[uj]) (j-k) p.length (Nat.le_refl _)
      grind[We]
     rw[hend (Sx n-k) hz om];simp_all
    | true=>
     left;refine⟨(gQ (Sx p+1) (λj=>EP p n j (k+1)),(eA long (EE p n p.length) (k+1)).1,(eA long (EE p n p.length) (k+1)).2,((k+1:Nat):Int)),⟨k+1,rfl,om,λhl=>?_⟩,aM,λrc=>?_⟩
     .simp_all
     .refine(hstep _).trans ?_;rw[show((k:Int)==(Sx n:Int))=eK by simp;omega,aI,hc,aC,aC,fU,aI,bp hkn,Wf F p n _ k hF hp hit,aC,bM om];grind[jK,YB]
   grind
theorem ajQ(F:Nat)(p:J aD)(n:Bs)(long:Bool)(hF:Sx p+300<F)(oN:Sx n+1<F)(hn:Sx n<50000000)(hp:Sx p<50000000)(hit:∀it∈p,jH it)(hv:kW F p=iN v):
  uH F p n long=iN (eA long (λk=>v&&EE p n p.length k) (Sx n+1)):=by
 unfold uH wx;rw[hv,aC];cases v with
 | false=>have:=Oq long (λk=>eK&&EE p n p.length k) 0 (λ_ _=>rfl) (Sx n+1);rw[sC]at this;rw[this];rfl|true=>
  rw[fU,agF F p n hF oN hn hp hit];refine bW (λs=>∃k:Nat,s=((eA long (EE p n p.length) k).1,(eA long (EE p n p.length) k).2,(k:Int))/\k<=Sx n+1) (λs=>Sx n+1-s.2.2.toNat) ?_ F _ ⟨0,rfl,om⟩ aM;rintro s ⟨k,rfl,hk⟩;dsimp only;by_cases hk2:k<=Sx n
  .left;refine⟨_,⟨k+1,rfl,om⟩,aM,λrc=>?_⟩;rw[bX om (by rw[AQ];omega),uj _ om,bM om,eA];grind
  grind
theorem ajR(F:Nat)(p:J aD)(n:Bs)(long:Bool)(hF:Sx p+300<F)(oN:Sx n+1<F)(hn:Sx n<50000000)(hp:Sx p<50000000)(hit:∀it∈p,jH it)(hv:iR F p=iN v):
  uG F p n long=iN (eA long (λk=>v&&EE p (n.drop (Sx n-k)) p.length (n.drop (Sx n-k)).length) (Sx n+1)):=by
 generalize hg:(λk=>v&&EE p (n.drop (Sx n-k)) p.length (n.drop (Sx n-k)).length)=g;refine bW (λs=>∃k:Nat,s=((eA long g k).1,(eA long g k).2,(k:Int))/\k<=Sx n+1) (λs=>Sx n+1-s.2.2.toNat) ?_ F _ ⟨0,rfl,om⟩ aM;rintro s ⟨k,rfl,hk⟩;dsimp only;by_cases hk2:k<=Sx n
 .left;refine⟨_,⟨k+1,rfl,om⟩,aM,λrc=>?_⟩;have OB:sl n (aE ((Sx n:Int)-(k:Int))) (Sx n:Int)=n.drop (Sx n-k):=by rw[bQ om];unfold sl;simp
  rw[OB,bQ om,cy (by grind),Z8 F p _ hF (by grind) (by grind) hp hit hv,aG,Option.bind_some,Option.bind_some,bM om,eA];grind
 grind
theorem ajS(F:Nat)(x:J aD)(hF:Sx x<F)(hx:Sx x<50000000):slices_Reverse F x=iN x.reverse:=by
 unfold slices_Reverse wx;have h0:aE ((Sx x:Int)-1)=(Sx x:Int)-1:=bQ om;rw[h0];refine bW (λs:Int×Int×J aD=>∃k:Nat,s.1=(k:Int)/\s.2.1=(Sx x:Int)-1-(k:Int)/\2*k<=Sx x+1/\s.2.2.length=Sx x/\∀m,m<Sx x->s.2.2.getD m dL=cond (eJ (m<k)||decide (Sx x<=m+k)) (x.getD (Sx x-1-m) dL) (x.getD m dL)) (λs=>Sx x-s.1.toNat) ?_ F _ ⟨0,rfl,si,om,rfl,λm hm=>by grind⟩ aM;rintro⟨i,j,l⟩ ⟨k,h1,h2,h3,h4,h5⟩;dsimp only at h1 h2 h4 h5⊢;subst h1 h2;by_cases hk:(k:Int)<(Sx x:Int)-1-(k:Int)
 .left;have hj:(Sx x:Int)-1-(k:Int)=((Sx x-1-k:Nat):Int):=om;rw[hj];refine⟨(((k+1:Nat):Int),((Sx x-1-k-1:Nat):Int),(l.set k (l.getD (Sx x-1-k) dL)).set (Sx x-1-k) (l.getD k dL)),⟨k+1,rfl,by dsimp only;omega,om,by simp_all,λm hm=>?_⟩,aM,λrc=>?_⟩
  .dsimp only;grind
  .rw[b9 om,bX om om,bX om om,bX om om,bX om (by grind),Int.toNat_natCast,Int.toNat_natCast,bM om,vi om om]
 .right;intro rc;rw[cf hk];refine congrArg iN (BG (by simp_all) λm ZU hm2=>?_);grind
theorem alX(F:Nat)(x:J aD)(hx:Sx x<50000000):Da F x=iN x:=by unfold Da wx;grind[NK,rq,dn]
def Gd(F:Nat)(it:aD):Bool:=cond (cond (cond (cond (eJ (it.fKind<1)) eQ (eJ (4<it.fKind))) eQ ((Sx it.fText:Int) != cond (it.fKind==1) 1 0)) eQ (cond (it.fKind != 4) (cond it.B8 eQ (eJ (0<(Sx it.cJ:Int)))) eK)) eQ (!((pL F it.cJ).getD eK))
theorem Sf(F:Nat)(p:J aD)(hF:Sx p+300<F)(hp:Sx p<50000000)(hit:∀it∈p,jH it):kW F p=iN (!p.any (Gd F)):=by
 unfold kW wx;refine bW (λs:Int=>∃k:Nat,s=(k:Int)/\k<=Sx p/\(p.take k).any (Gd F)=eK) (λs=>Sx p-s.toNat) ?_ F _ ⟨0,rfl,om,rfl⟩ aM;rintro _ ⟨k,rfl,hk,hn⟩;by_cases hk:k<Sx p
 .have hI:=hit _ (fW hk);have hl:=hI.2.2;obtain⟨c,hc⟩:=DU F p[k].cJ om om;have hb:∀rc:Int->O Bool,cond (Gd F p[k]) (iN eK) (rc ((k+1:Nat):Int))=_:=λrc=>rfl;unfold Gd at hb;rw[hc]at hb;have e:(p.take (k+1)).any (Gd F)=Gd F p[k]:=by grind[List.take_succ_eq_append_getElem]
  cases hv:Gd F p[k]with
  | true=>right;intro rc;rw[b9 (show(k:Int)<(Sx p:Int) by omega),bp hk,bN,gd hk];rw[show p.any (Gd F)=eQ from UB.2 ⟨_,fW hk,hv⟩];unfold Gd at hv;grind
  | false=>left;refine⟨_,⟨k+1,rfl,om,by rw[e,hv]⟩,aM,λrc=>?_⟩;rw[b9 (show(k:Int)<(Sx p:Int) by omega),bp hk,bN,gd hk];unfold Gd at hv;grind[bM]
 grind
theorem alY(F:Nat)(p:J aD)(n:Bs)(long:Bool)(hF:Sx p+300<F)(oN:Sx n+1<F)(hn:Sx n<50000000)(hp:Sx p<50000000)(hit:∀it∈p,jH it):
  ∃r:Int×Bool,(∃j:Nat,r.1=(j:Int)/\j<=Sx n/\(r.2=eK->j=0))/\qY F p n long=iN r/\uG F p n long=iN r:=by
 have hv:=Sf F p hF hp hit;rw[<-E9 F p hF hp hit]at hv;have aoz:=λit h=>hit it (List.mem_reverse.1 h);have hlr:Sx p.reverse=Sx p:=List.length_reverse;have hvr:=Sf F p.reverse (by rw[hlr];exact hF) (by rw[hlr];exact hp) aoz;rw[<-E9 F p.reverse (by rw[hlr];exact hF) (by rw[hlr];exact hp) aoz]at hvr;refine⟨_,?_,?_,ajR F p n long hF oN hn hp hit hv⟩
 .obtain⟨j,h1,h2,h3⟩:=aeP long (λk=>(!p.any (Gd F))&&EE p (n.drop (Sx n-k)) p.length (n.drop (Sx n-k)).length) (Sx n+1);grind
 .unfold qY wx;rw[alX F p hp,aC,ajS F p om hp,aC,jP om,aaH F p.reverse n.reverse long (by rw[hlr];exact hF) aM (by simpa using hn) (by rw[hlr];exact hp) aoz hvr];grind[List.length_reverse,KS,as7]
theorem ajT(F:Nat)(p:J aD)(n:Bs)(long:Bool)(hF:Sx p+300<F)(oN:Sx n+1<F)(hn:Sx n<50000000)(hp:Sx p<50000000)(hit:∀it∈p,jH it):
  ∃r:Int×Bool,(∃j:Nat,r.1=(j:Int)/\j<=Sx n/\(r.2=eK->j=0))/\qZ F p n long=iN r/\uH F p n long=iN r:=by
 have hv:=Sf F p hF hp hit;have sS:=hv;rw[<-E9 F p hF hp hit]at sS;refine⟨_,?_,?_,ajQ F p n long hF oN hn hp hit hv⟩
 .obtain⟨j,h1,h2,h3⟩:=aeP long (λk=>(!p.any (Gd F))&&EE p n p.length k) (Sx n+1);grind
 .unfold qZ wx;grind[aaH]
theorem aq4(a b:Bs)(c:Int):nj (aA.mk (a++b) c)=nj (aA.mk a c)++nj (aA.mk b c):=by unfold nj;grind
theorem aoA(o:J aA)(r:aA):(tn o r).flatMap nj=o.flatMap nj++nj r:=by
 obtain⟨t,c⟩:=r;unfold tn;cases h1:(t==[])with
 | true=>
  have:nj (aA.mk [] c)=[]:=by unfold nj;simp_all
  simp_all
 | false=>
  rw[aI];cases h2:(eJ (0<Sx o)&&((o.getD (Sx o-1) dw).aH==c))with
  | true=>
   rw[cH,fO]at h2;have hk:Sx o-1<Sx o:=om;have hc:=eq_of_beq h2.2;have ho:o=o.take (Sx o-1)++[o.getD (Sx o-1) dw]:=by rw[gd hk,<-ku hk,show o.length-1+1=o.length by omega,nW]
   rw[aQ,aoO,if_pos hk,show o.length-1+1=o.length by omega,MV,Ia,List.flatMap_singleton,aq4]
   conv=>rhs;rw[ho]
   rw[Ia,List.flatMap_singleton,sD];rw[<-hc]
  | false=>simp_all
theorem aaI:∀(l o:J aA),(l.foldl tn o).flatMap nj=o.flatMap nj++l.flatMap nj|[],o=>by simp|r::l,o=>by rw[sE,aaI l,aoA,q8,sD]
theorem aoB(F:Nat)(l:J aA)(hF:100000000<=F)(h1:Sx l<=26000)(h2:bH l<=5000000):∃p,((∀it∈p,jH it)/\p.length<=5000000)/\eu F (pV l)=iN p/\fM F l=iN p:=by
 obtain⟨p,hp1,hp2⟩:=Wc F l om om om om;obtain⟨q,⟨g1,g2⟩,hq⟩:=TY F l om om om om;rw[hp1]at hq;obtain rfl:=o4 hq;refine⟨p,⟨g1,om⟩,?_,hp2⟩;obtain⟨j1,j2⟩:=Oo l [];have e0:bH ([]:J aA)=0:=rfl;have hj1:bH (pV l)<=5000000:=by unfold pV;omega
 have hj2:(pV l).length<=26000:=by unfold pV;grind
 rw[<-hp1];unfold eu wx;rw[DR F l om om om om,DR F (pV l) om om om om];have:=aaI l [];rw[PN,pY]at this;unfold pV;rw[this]
theorem ag9(F:Nat)(hF:100000000<=F):Ya F:=by
 intro op v l h6 h9 hv h1 h2;obtain⟨p,⟨g1,g2⟩,e1,e2⟩:=aoB F l hF h1 h2;have hs:=λb=>alY F p v b om om om om g1;have hq:=λb=>ajT F p v b om om om om g1;have sl0:sl v 0 (Sx v:Int)=v:=by unfold sl;simp
 have hS:∀b,T2 (λa b:Bs=>a=b/\b.length<=Sx v) ((qY F p v b).bind λx3=>
  cond x3.2
  (rq ((eJ (0<=aE ((Sx v:Int)-x3.1)))&&(eJ (aE ((Sx v:Int)-x3.1)<=(Sx v:Int)))) (iN (sl v 0 (aE ((Sx v:Int)-x3.1)))))
  (iN v)) ((uG F p v b).bind λx2=>
  rq ((eJ (0<=aE ((Sx v:Int)-x2.1)))&&(eJ (aE ((Sx v:Int)-x2.1)<=(Sx v:Int)))) (iN (sl v 0 (aE ((Sx v:Int)-x2.1))))):=by
  intro b;obtain⟨⟨i,f⟩,⟨j,rfl,h1,h2⟩,r1,r2⟩:=hs b;rw[r1,r2,aC,aC];rw[bQ om,bX om om];cases f with
  | true=>exact⟨_,_,⟨rfl,by unfold sl;simp⟩,rfl,rfl⟩|false=>
   refine⟨_,_,⟨?_,?_⟩,rfl,rfl⟩
   .simp_all
   .unfold sl;simp
 have hP:∀b,T2 (λa b:Bs=>a=b/\b.length<=Sx v) ((qZ F p v b).bind λx4=>
  cond x4.2
  (rq ((eJ (0<=x4.1))&&((eJ (x4.1<=(Sx v:Int)))&&(eJ ((Sx v:Int)<=(Sx v:Int))))) (iN (sl v x4.1 (Sx v:Int))))
  (iN v)) ((uH F p v b).bind λx4=>
  rq ((eJ (0<=x4.1))&&((eJ (x4.1<=(Sx v:Int)))&&(eJ ((Sx v:Int)<=(Sx v:Int))))) (iN (sl v x4.1 (Sx v:Int)))):=by
  intro b;obtain⟨⟨i,f⟩,⟨j,rfl,h1,h2⟩,r1,r2⟩:=hq b;rw[r1,r2,aC,aC];rw[cy (by simp_all)];cases f with
  | true=>exact⟨_,_,⟨rfl,by unfold sl;simp⟩,rfl,rfl⟩|false=>
   obtain rfl:=h2 rfl;refine⟨_,_,⟨?_,?_⟩,rfl,rfl⟩
   .exact sl0.symm
   .unfold sl;simp
 have jjl:∀ {σ R:Type}(a:σ)(G:σ->O R),jj (iN (.inl a)) G=G a:=λ_ _=>rfl;have jjr:∀ {σ R:Type}(a:R)(G:σ->O R),jj (iN (.inr a)) G=iN a:=λ_ _=>rfl;have hd:∀b,T2 (λa b:Bs=>a=b/\b.length<=Sx v) (jj (σ:=Bool) (R:=Bs) (jj (σ:=Bool) (R:=Bool ⊕ Bs) (iN (.inl b)) λx2=>
  (qY F p v x2).bind λx3=>
  cond x3.2
  (rq ((eJ (0<=aE ((Sx v:Int)-x3.1)))&&(eJ (aE ((Sx v:Int)-x3.1)<=(Sx v:Int)))) (iN (.inr (sl v 0 (aE ((Sx v:Int)-x3.1))))))
  (iN (.inr v))) λx1=>
  (qZ F p v x1).bind λx4=>
  cond x4.2
  (rq ((eJ (0<=x4.1))&&((eJ (x4.1<=(Sx v:Int)))&&(eJ ((Sx v:Int)<=(Sx v:Int))))) (iN (sl v x4.1 (Sx v:Int))))
  (iN v)) ((uG F p v b).bind λx2=>
  rq ((eJ (0<=aE ((Sx v:Int)-x2.1)))&&(eJ (aE ((Sx v:Int)-x2.1)<=(Sx v:Int)))) (iN (sl v 0 (aE ((Sx v:Int)-x2.1))))):=by
  intro b;rw[jjl];have:=hS b;obtain⟨r,-,r1,-⟩:=hs b;rw[r1,aC]at this⊢;cases h:r.2 with
  | false=>simp_all|true=>rw[h,aQ]at this;unfold rq at this⊢;cases h3:((eJ (0<=aE ((Sx v:Int)-r.1)))&&(eJ (aE ((Sx v:Int)-r.1)<=(Sx v:Int))))with|true=>simp_all|false=>rw[h3]at this;exact this
 unfold HA Hu wx;grind
theorem aeQ(l:J aA)(k:Nat):bH (l.take k)<=bH l:=by have:=HR (l.take k) (l.drop k);rw[DB]at this;omega
def qV(r:aA):J bn:=cond (r.aH==3) [bn.mk [] 3] (cond (r.aH==0||(r.aH==1||r.aH==2)) (cond (r.fText==[]&&r.aH==1) [bn.mk [] 1] []++r.fText.map λb=>bn.mk [b] r.aH) [])
theorem aq5(r:aA):(qV r).length<=Sx r.fText+1:=by unfold qV;cases (r.aH==3)<;>cases (r.aH==0||(r.aH==1||r.aH==2))<;>cases (r.fText==[]&&r.aH==1)<;>simp
theorem ML(l:J aA):(l.flatMap qV).length<=bH l+Sx l:=by
 induction l with|nil=>simp[bH]|cons a l ih=>have:=aq5 a;simp only[q8,ov,sB];simp[bH]at ih⊢;omega
theorem aha{s:Bs}{i:Nat}(h:i<Sx s):sl s (i:Int) ((i+1:Nat):Int)=[s[i]]:=by unfold sl;rw[bN,bN,ku h,List.drop_append_of_le_length (by rw[pX];omega),Vz (by rw[pX];omega)];rfl
theorem auT(F:Nat)(l:J aA)(hF:Sx l+bH l<F)(h1:Sx l<=100000000)(h2:bH l<=100000000):uM F l=iN (l.flatMap qV):=by
 have:aB (λr=>r=l.flatMap qV) (uM F l):=by
  unfold uM wx;refine aB.lp (λz:J bn×Int=>∃k:Nat,z.2=(k:Int)/\k<=Sx l/\z.1=(l.take k).flatMap qV) (λz=>Sx l-z.2.toNat) ⟨0,rfl,om,si⟩ (by show l.length-0<F;omega) ?_;rintro⟨o,_⟩ ⟨k,rfl,h3,h4⟩ rc hrc;dsimp only at h4 hrc⊢;refine aB.cd (λh=>?_) λh=>aB.ok (by rw[h4,va om]);have hk:k<Sx l:=om;have hm:Sx l-Int.toNat ((k+1:Nat):Int)<Sx l-Int.toNat (k:Int):=om;have e1:(l.take (k+1)).flatMap qV=o++qV l[k]:=by rw[h4,uV _ _ _ hk]
  have ho:Sx o<=bH l+Sx l:=by have:=ML (l.take k);have h5:=aeQ l k;rw[<-h4,pX]at this;omega
  have ht:l[k].fText.length<=bH l:=SQ (fW hk);rw[bX om om,bF (i:=k) om,bN,gd hk];generalize l[k]=r at e1 ht;obtain⟨q,hq⟩:∃q,q=qV r:=⟨_,rfl⟩;rw[<-hq]at e1;unfold qV at hq;cases c3:(r.aH==3)with
  | true=>rw[c3,aQ]at hq;subst hq;exact aB.rq (o5 (by show o.length+1<=_;omega) de) (hrc _ ⟨k+1,rfl,hk,e1.symm⟩ hm)
  | false=>
   rw[c3,aI]at hq;simp only[aG,aC,aI];have ec:(cond (r.aH==0) (r.aH==0) (cond (r.aH==1) (r.aH==1) (r.aH==2)))=(r.aH==0||(r.aH==1||r.aH==2)):=by cases (r.aH==0)<;>cases (r.aH==1)<;>rfl
   rw[ec];cases cc:(r.aH==0||(r.aH==1||r.aH==2))with
   | false=>rw[cc,aI]at hq;subst hq;exact hrc _ ⟨k+1,rfl,hk,by rw[e1];simp⟩ hm|true=>
    rw[cc,aQ]at hq;subst hq;simp only[aQ];have ed:(cond (r.fText==[]) (r.aH==1) eK)=(r.fText==[]&&r.aH==1):=by cases (r.fText==[])<;>rfl
    rw[ed];refine aB.bd (P:=λo':J bn=>o'=o++cond (r.fText==[]&&r.aH==1) [bn.mk [] 1] []) ?_ ?_
    .cases (r.fText==[]&&r.aH==1)with
     | true=>exact aB.rq (o5 (by show o.length+1<=_;omega) de) (aB.ok rfl)
     | false=>exact aB.ok si
    .rintro o' ho';have hol:Sx o'<=Sx o+1:=by rw[ho'];cases (r.fText==[]&&r.aH==1)<;>simp
     refine aB.lp (λz:J bn×Int=>∃i:Nat,z.2=(i:Int)/\i<=Sx r.fText/\z.1=o'++(r.fText.take i).map λb=>bn.mk [b] r.aH) (λz=>Sx r.fText-z.2.toNat) ⟨0,rfl,om,si⟩ (by show r.fText.length-0<F;omega) ?_;rintro⟨o2,_⟩ ⟨i,rfl,i1,i2⟩ rc' vg;dsimp only at i2 vg⊢;have hl2:Sx o2<=Sx o'+Sx r.fText:=by rw[i2];simp;omega
     refine aB.cd (λh=>?_) λh=>hrc _ ⟨k+1,rfl,hk,by rw[e1];show o2=_;rw[i2,ho',va om,sD]⟩ hm;have hi:i<Sx r.fText:=om;rw[bF om,vO om om om,aha hi];exact aB.rq (o5 (by show o2.length+1<=_;omega) de) (vg _ ⟨i+1,rfl,om,by show o2++_=_;rw[i2,ku hi,lZ,sD];rfl⟩ (by show r.fText.length-Int.toNat ((i+1:Nat):Int)<Sx r.fText-Int.toNat (i:Int);omega))
 obtain⟨r,h,e⟩:=this;rw[e,h]
def Sg(l:J bn):Bs:=l.flatMap λe=>e.aR
theorem auU(F:Nat)(l:J bn)(hF:Sx l<F)(h1:Sx l<=100000000)(h2:∀e∈l,Sx e.aR<=1):zu F l=iN (Sg l):=by
 have hb:∀k,Sx (Sg (l.take k))<=k:=λk=>by
  unfold Sg;rw[List.length_flatMap];have:∀m:J bn,(∀e∈m,Sx e.aR<=1)->(m.map λa=>Sx a.aR).sum<=Sx m:=λm=>by
   induction m with|nil=>simp|cons a m ih=>intro h;have:=h a wK;have:=ih λe he=>h e (nt _ he);simp;omega
  have:=this (l.take k) λe he=>h2 e (MS he);rw[pX]at this;omega
 have:aB (λr=>r=Sg l) (zu F l):=by
  unfold zu wx;refine aB.lp (λx:Int×Bool×J Int=>∃k:Nat,x.1=(k:Int)/\k<=Sx l/\x.2.2=cW (Sg (l.take k))) (λx=>Sx l-x.1.toNat) ⟨0,rfl,om,by simp[Sg,cW]⟩ (by show l.length-0<F;omega) ?_;rintro⟨_,c,buf⟩ ⟨k,rfl,h3,h4⟩ rc hrc;dsimp only at h4 hrc⊢;have Ir:Sx buf<=k:=by rw[h4,cW,gP];exact hb k
  refine aB.cd (λh=>?_) λh=>?_
  .have hk:k<Sx l:=om;have hx:=h2 _ (fW hk);rw[bX om om,bN,gd hk,arP F _ c buf om,aC,bF om];refine hrc _ ⟨k+1,rfl,hk,?_⟩ (by show l.length-Int.toNat ((k+1:Nat):Int)<Sx l-Int.toNat (k:Int);omega);show buf++cW l[k].aR=_;unfold Sg;rw[h4,uV _ _ _ hk];simp[cW,Sg]
  .rw[va om]at h4;subst h4;have:(cW (Sg l)).length<=k:=Ir;unfold mg wx;rw[cy (by rw[eT rfl,Z5,eT om];rfl),Ni];exact aB.ok rfl
 obtain⟨r,h,e⟩:=this;rw[e,h]
def Ot(s:Bs)(b:UInt8)(c:Int):Int:=cond (c==2&&s.contains b) (cond (b==32||(b==9||b==10)) 1 2) 0
def jf(s:Bs)(e:bn):Int:=cond (e.aR==[]) (cond (e.dZ==3) 3 0) (Ot s (e.aR.getD 0 0) e.dZ)
def Uz(s:Bs)(e:bn):bZ:=bZ.mk e.aR e.dZ (jf s e)
theorem auV(F:Nat)(b:UInt8)(c:Int)(s:Bs)(hF:Sx s<F)(hs:Sx s<=100000):Hv F (b.toNat:Int) c s=iN (Ot s b c):=by
 unfold Hv Ot wx;simp only[bne];cases hc:(c==2)with
 | false=>rfl|true=>
  rw[fU,aI,Ib];refine bW (λi:Int=>∃n:Nat,i=(n:Int)/\n<=Sx s/\(s.drop n).contains b=s.contains b) (λi=>Sx s-i.toNat) ?_ F _ ⟨0,rfl,om,si⟩ aM;rintro _ ⟨n,rfl,hn,hd⟩;by_cases hk:n<Sx s
  .have e1:((((s.getD (eI (n:Int)) 0).toNat:Int))==(b.toNat:Int))=(s[n]==b):=by
    rw[bN,gd hk];have:((s[n].toNat:Int)=(b.toNat:Int))↔s[n]=b:=⟨λh=>ahw.1 om,λh=>by rw[h]⟩;by_cases h:s[n]=b
    .rw[h];simp
    .rw[eG.2 h,eG.2 λh'=>h (this.1 h')]
   rw[tu hk,ahx]at hd;have hcm:(b==s[n])=(s[n]==b):=Bool.beq_comm;cases hb:(s[n]==b)with
   | true=>right;intro rc;rw[hcm,hb,Bool.true_or]at hd;rw[b9 om,bp hk,bp hk,e1,hb,<-hd];simp only[aQ,aG,aC,oP b 32 om,oP b 9 om,oP b 10 om];cases (b==32)<;>cases (b==9)<;>cases (b==10)<;>rfl
   | false=>left;rw[hcm,hb,PO]at hd;refine⟨_,⟨n+1,rfl,hk,hd⟩,aM,λrc=>?_⟩;rw[b9 om,bp hk,bp hk,e1,hb,bM om];rfl
  .right;intro rc;rw[cf om,<-hd,Su om];rfl
theorem as8(s:Bs)(r:aA):∀e∈qV r,(e.aR=[]/\(e.dZ=3\/e.dZ=1))\/∃b,e.aR=[b]/\e.dZ=r.aH/\(e.dZ==3)=eK:=by
 intro e he;unfold qV at he;cases c3:(r.aH==3)with
 | true=>rw[c3]at he;obtain rfl:=ni.1 he;exact .inl ⟨rfl,.inl rfl⟩
 | false=>
  rw[c3,aI]at he;cases cc:(r.aH==0||(r.aH==1||r.aH==2))with
  | false=>rw[cc]at he;cases he
  | true=>
   rw[cc,aQ]at he;rcases kZ.1 he with he|he
   .cases hh:(r.fText==[]&&r.aH==1)with
    | false=>rw[hh]at he;cases he
    | true=>rw[hh]at he;obtain rfl:=ni.1 he;exact .inl ⟨rfl,.inr rfl⟩
   .obtain⟨b,-,rfl⟩:=kq.1 he;exact .inr ⟨b,rfl,rfl,c3⟩
def WE(e:bn):Prop:=(e.aR=[]/\(e.dZ=3\/e.dZ=1))\/∃b,e.aR=[b]/\(e.dZ==3)=eK
theorem aeR(l:J aA):∀e∈l.flatMap qV,WE e:=λe he=>by
 obtain⟨r,-,h⟩:=aby.1 he;rcases as8 [] r e h with h|⟨b,h1,-,h2⟩
 .exact .inl h
 .exact .inr ⟨b,h1,h2⟩
theorem aoC(F:Nat)(s:Bs){e:bn}(h:WE e):pT F e s=iN (jf s e==1||jf s e==2):=by
 unfold pT jf Ot wx;rcases h with⟨h1,h2⟩|⟨b,h1,h2⟩
 .rcases h2 with h2|h2<;>rw[h1,h2]<;>rfl
 .rw[h1];have hx:strings_Contains F s [b]=iN (s.contains b):=by
   unfold strings_Contains strings_Index stringslite_Index stringslite_IndexByte sR ZQ wx;have e1:cond (([b]:Bs)==s) 0 (lO s b)=lO s b:=by cases hb:(([b]:Bs)==s)with|false=>rfl|true=>rw[<-eq_of_beq hb];unfold lO;simp
   rw[<-K.Y4];simp only[aG,aC];rw[show((Sx ([b]:Bs):Int)==0)=eK from rfl,show((Sx ([b]:Bs):Int)==1)=eQ from rfl,jP si];simp only[aI,aQ,aC];have e2:(((([b]:Bs).getD 0 0).toNat:Int)).toNat.toUInt8=b:=by simp
   rw[e2,aG,aC,e1];rfl
  rw[hx,show(([b]:Bs)==[])=eK from rfl,show([b]:Bs).getD 0 0=b from rfl];cases (e.dZ==2)
  .rfl
  .cases s.contains b
   .rfl
   .cases (b==32||(b==9||b==10))<;>rfl
theorem aeS(F:Nat)(s:Bs){e:bn}(h:WE e):wJ F e s=iN (jf s e==1):=by
 unfold wJ wx;rw[aoC F s h,aC];unfold jf Ot;rcases h with⟨h1,h2⟩|⟨b,h1,h2⟩
 .rcases h2 with h2|h2<;>rw[h1,h2]<;>rfl
 .rw[h1,show(([b]:Bs)==[])=eK from rfl,show([b]:Bs).getD 0 0=b from rfl];have e1:∀c:UInt8,(([b]:Bs)==[c])=(b==c):=λc=>by simp
  rw[e1,e1,e1];cases (e.dZ==2)
  .rfl
  .cases s.contains b
   .rfl
   .cases (b==32)<;>cases (b==9)<;>cases (b==10)<;>rfl
theorem auW(F:Nat)(l:J aA)(s:Bs)(hF:Sx l+bH l+200000<F)(h1:Sx l<=100000000)(h2:bH l<=100000000)(hs:Sx s<=100000):uJ F l s=iN ((l.flatMap qV).map (Uz s)):=by
 have:aB (λr=>r=(l.flatMap qV).map (Uz s)) (uJ F l s):=by
  unfold uJ wx;refine aB.lp (λz:J bZ×Int=>∃k:Nat,z.2=(k:Int)/\k<=Sx l/\z.1=((l.take k).flatMap qV).map (Uz s)) (λz=>Sx l-z.2.toNat) ⟨0,rfl,om,si⟩ (by show l.length-0<F;omega) ?_;rintro⟨o,_⟩ ⟨k,rfl,h3,h4⟩ rc hrc;dsimp only at h4 hrc⊢;refine aB.cd (λh=>?_) λh=>aB.ok (by rw[h4,va om]);have hk:k<Sx l:=om;have hm:Sx l-Int.toNat ((k+1:Nat):Int)<Sx l-Int.toNat (k:Int):=om;have e1:((l.take (k+1)).flatMap qV).map (Uz s)=o++(qV l[k]).map (Uz s):=by rw[h4,uV _ _ _ hk,lZ]
  have ho:Sx o<=bH l+Sx l:=by have:=ML (l.take k);have h5:=aeQ l k;rw[h4,gP];rw[pX]at this;omega
  have ht:l[k].fText.length<=bH l:=SQ (fW hk);rw[bX om om,bF (i:=k) om,bN,gd hk];generalize l[k]=r at e1 ht;obtain⟨q,hq⟩:∃q,q=qV r:=⟨_,rfl⟩;rw[<-hq]at e1;unfold qV at hq;cases c3:(r.aH==3)with
  | true=>rw[c3,aQ]at hq;subst hq;have h3:=eq_of_beq c3;rw[h3];exact aB.rq (o5 (by show o.length+1<=_;omega) de) (hrc _ ⟨k+1,rfl,hk,e1.symm⟩ hm)
  | false=>
   rw[c3,aI]at hq;simp only[aG,aC,aI];cases hb:(r.fText==[]&&r.aH==1)with
   | true=>rw[hb]at hq;obtain⟨b1,b2⟩:=(cH _ _).mp hb;rw[b1,b2,aQ,aQ];have h1:=eq_of_beq b2;have h0:=eq_of_beq b1;rw[h1]at hq⊢;rw[h0]at hq;subst hq;exact aB.rq (o5 (by show o.length+1<=_;omega) de) (hrc _ ⟨k+1,rfl,hk,e1.symm⟩ hm)
   | false=>
    have mJ:cond (r.aH==1) (r.fText==[]) eK=eK:=by rw[<-hb];cases (r.aH==1)<;>cases (r.fText==[])<;>rfl
    have pn:cond (cond (r.aH==0) eQ (r.aH==1)) eQ (r.aH==2)=(r.aH==0||(r.aH==1||r.aH==2)):=by cases (r.aH==0)<;>cases (r.aH==1)<;>rfl
    rw[hb,aI,pY]at hq;rw[mJ,aI,pn];cases cc:(r.aH==0||(r.aH==1||r.aH==2))with
    | false=>rw[cc,aI]at hq;subst hq;exact hrc _ ⟨k+1,rfl,hk,by rw[e1];simp⟩ hm|true=>
     rw[cc,aQ]at hq;subst hq;rw[aQ];refine aB.lp (λz:J bZ×Int=>∃i:Nat,z.2=(i:Int)/\i<=Sx r.fText/\z.1=o++((r.fText.take i).map λb=>bn.mk [b] r.aH).map (Uz s)) (λz=>Sx r.fText-z.2.toNat) ⟨0,rfl,om,si⟩ (by show r.fText.length-0<F;omega) ?_;rintro⟨o2,_⟩ ⟨i,rfl,i1,i2⟩ rc' vg;dsimp only at i2 vg⊢;have hl2:Sx o2<=Sx o+Sx r.fText:=by rw[i2];simp;omega
     refine aB.cd (λh=>?_) λh=>hrc _ ⟨k+1,rfl,hk,by rw[e1];show o2=_;rw[i2,va om]⟩ hm;have hi:i<Sx r.fText:=om;rw[bF om,vO om om om,bX om om,bN,gd hi,auV F r.fText[i] r.aH s om hs,aC,aha hi];refine aB.rq (o5 (by show o2.length+1<=_;omega) de) (vg _ ⟨i+1,rfl,om,?_⟩ (by show r.fText.length-Int.toNat ((i+1:Nat):Int)<Sx r.fText-Int.toNat (i:Int);omega));show o2++_=_;rw[i2,ku hi,lZ,lZ,sD];rfl
 obtain⟨r,h,e⟩:=this;rw[e,h]
def qf{α:Type}(f:J (J α))(n:J α):J (J α):=match n with | []=>f|a::t=>f++[a::t]
def dS{α:Type}(k:α->Int):Nat->J α->J (J α)->J α->J (J α)|_,[],f,n=>qf f n|m,x::l,f,n=>cond (k x==1) (dS k (cond (m==2) 2 1) l f n) (cond (k x==2) (dS k 2 l (f++[n]) []) (cond (m==1) (cond (k x==3) (dS k 0 l (qf f n) []) (dS k 0 l (qf f n) [x])) (cond (k x==3) (dS k 0 l (qf f n) []) (dS k 0 l f (n++[x])))))
variable{α β:Type}
theorem aeT(g:α->β)(f:J (J α))(n:J α):qf (f.map (List.map g)) (n.map g)=(qf f n).map (List.map g):=by cases n<;>simp[qf]
theorem alZ{α β:Type}(k:α->Int)(k':β->Int)(g:α->β):∀(l:J α)(m:Nat)(f:J (J α))(n:J α),(∀x∈l,k' (g x)=k x)->dS k' m (l.map g) (f.map (List.map g)) (n.map g)=(dS k m l f n).map (List.map g)
 | [],m,f,n,h=>by simp only[BI,dS];exact aeT g f n|x::l,m,f,n,h=>by have hx:=h x wK;have ih:=λm f n=>alZ k k' g l m f n λy hy=>h y (nt _ hy);have i1:=ih 2 (f++[n]) [];have i2:=ih 0 f (n++[x]);have i3:=ih 0 (qf f n) [];have i4:=ih 0 (qf f n) [x];simp only[lZ,jb,BI]at i1 i2 i3 i4;simp only[jb,dS,hx,ih,i1,i2,i3,i4,aeT];cases (k x==1)<;>cases (k x==2)<;>cases (m==1)<;>cases (k x==3)<;>rfl
section
variable (k : α -> Int)
abbrev wE(x:α):Bool:=k x==1
theorem MM(m:Nat)(hm:m=1\/m=2):∀(l:J α)(f:J (J α))(n:J α),dS k m (l.dropWhile (wE k)) f n=dS k m l f n
 | [],f,n=>rfl|x::l,f,n=>by
  rw[MW];cases hx:wE k x with
  | false=>rfl|true=>rw[if_pos rfl,MM m hm l f n];simp only[dS];rw[show(k x==1)=eQ from hx,aQ];rcases hm with rfl|rfl<;>rfl
theorem al0{l:J α}(h:∀x∈l.head?,(k x==1)=eK)(f:J (J α))(n:J α):dS k 2 l f n=dS k 0 l f n:=by cases l with|nil=>rfl|cons x l=>simp only[dS];rw[h x rfl];rfl
theorem ZK{x:α}{l:J α}(hx:(k x==2)=eQ)(m:Nat)(f:J (J α))(n:J α):dS k m (x::l) f n=dS k 2 l (f++[n]) []:=by
 have h1:(k x==1)=eK:=by rw[eq_of_beq hx];rfl
 simp only[dS];rw[h1,hx];rfl
theorem al1{l:J α}(h:∀x∈l.head?,(k x==1)=eK/\(k x==2)=eK)(f:J (J α))(n:J α):dS k 1 l f n=dS k 0 l (qf f n) []:=by
 cases l with
 | nil=>rfl|cons x l=>obtain⟨h1,h2⟩:=h x rfl;simp only[dS];rw[h1,h2];cases (k x==3)<;>rfl
theorem KT(l:J α):∀x∈(l.dropWhile (wE k)).head?,(k x==1)=eK:=by
 induction l with
 | nil=>intro x hx;cases hx
 | cons a l ih=>
  rw[MW];cases ha:wE k a with
  | true=>rw[if_pos rfl];exact ih|false=>intro x hx;obtain rfl:=o4 hx;exact ha
end
theorem Ou(f:J (J α))(n:J α):(qf f n).length<=Sx f+Sx n:=by cases n<;>simp[qf]
theorem al2{α:Type}(k:α->Int):∀(l:J α)(m:Nat)(f:J (J α))(n:J α),Sx (dS k m l f n)<=Sx f+Sx n+Sx l
 | [],m,f,n=>by simp only[dS];exact Ou f n|x::l,m,f,n=>by have ih:=al2 k l;have he:=Ou f n;have i1:=ih 2 (f++[n]) [];have i2:=ih (cond (m==2) 2 1) f n;have i3:=ih 0 (qf f n) [];have i4:=ih 0 (qf f n) [x];have i5:=ih 0 f (n++[x]);simp only[ov,sB,H9]at i1 i2 i3 i4 i5;simp only[dS,sB];cases (k x==1)<;>cases (k x==2)<;>cases (m==1)<;>cases (k x==3)<;>simp only[aQ,aI]<;>omega
theorem aeU{α:Type}(k:α->Int)(μ:α->Nat)(K:Nat)(P:α->Prop):∀(l:J α)(m:Nat)(f:J (J α))(n:J α),(∀g∈f,(g.map μ).sum<=K/\∀x∈g,P x)->(n.map μ).sum+(l.map μ).sum<=K->(∀x∈n,P x)->(∀x∈l,P x)->∀g∈dS k m l f n,(g.map μ).sum<=K/\∀x∈g,P x
 | l,m,f,n,hf,hK,hn,hl=>by
  have he:∀g∈qf f n,(g.map μ).sum<=K/\∀x∈g,P x:=λg hg=>by
   cases n with
   | nil=>exact hf g hg
   | cons a t=>rcases kZ.1 (show g∈f++[a::t]from hg)with hg|hg
               .exact hf g hg
               .obtain rfl:=ni.1 hg;exact⟨om,hn⟩
  cases l with
  | nil=>exact he|cons x l=>
   have hl':=λy hy=>hl y (nt x hy);have ih:=λm f n a b c=>aeU k μ K P l m f n a b c hl';simp only[jb,MT]at hK;have hx:=hl x wK;simp only[dS];cases (k x==1)with
   | true=>exact ih _ f n hf om hn|false=>
    cases (k x==2)with
    | true=>exact ih _ _ _ (λg hg=>by
      rcases kZ.1 hg with hg|hg
      .exact hf g hg
      .obtain rfl:=ni.1 hg;exact⟨om,hn⟩) aM (λ_ h=>nomatch h)
    | false=>
     have g1:=ih 0 (qf f n) [] he aM (λ_ h=>nomatch h);have g2:=ih 0 (qf f n) [x] he aM (λy hy=>by obtain rfl:=ni.1 hy;exact hx)
     have g3:=ih 0 f (n++[x]) hf aM (λy hy=>by
      rcases kZ.1 hy with hy|hy
      .exact hn y hy
      .obtain rfl:=ni.1 hy;exact hx)
     cases (m==1)<;>cases (k x==3)<;>assumption
theorem ahb(l:J α):(l.map λ_=>1).sum=Sx l:=by
 induction l with|nil=>rfl|cons a l ih=>simp only[jb,MT,ih,sB];omega
theorem slA(l:J α)(f:Nat):sl l (f:Int) (Sx l:Int)=l.drop f:=by simp[sl]
theorem slB(l:J α)(k:Nat):sl l 0 (k:Int)=l.take k:=by simp[sl]
def slC(l:J α):sl l 1 (Sx l:Int)=l.drop 1:=slA l 1
theorem apy(F:Nat)(s:Bs)(l:J bn)(h:∀e∈l,WE e)(hF:Sx l<F)(hl:Sx l<=500000000):zo F l s=iN (l.dropWhile (wE (jf s))):=by
 unfold zo wx;refine bW (λi:Int=>∃n:Nat,i=(n:Int)/\n<=Sx l/\(l.drop n).dropWhile (wE (jf s))=l.dropWhile (wE (jf s))) (λi=>Sx l-i.toNat) ?_ F _ ⟨0,rfl,om,rfl⟩ aM;rintro _ ⟨n,rfl,hn,hd⟩;have hR:∀x:O (J bn),rq ((eJ (0<=(n:Int)))&&((eJ ((n:Int)<=(Sx l:Int)))&&((eJ ((Sx l:Int)<=(Sx l:Int)))&&(eJ ((Sx l:Int)<=(Sx l:Int)))))) x=x:=λx=>cy (by rw[dT om,dT om,dT om];rfl);by_cases hk:n<Sx l
 .rw[tu hk,MW]at hd;have hw:=aeS F s (h _ (fW hk));cases hb:wE (jf s) l[n]with
  | true=>left;rw[hb,if_pos rfl]at hd;refine⟨_,⟨n+1,rfl,hk,hd⟩,aM,λrc=>?_⟩;rw[b9 om,bp hk,bN,gd hk,hw,aC,aC,show(jf s l[n]==1)=eQ from hb,aQ,bM om]
  | false=>right;intro rc;rw[hb]at hd;rw[b9 om,bp hk,bN,gd hk,hw,aC,aC,show(jf s l[n]==1)=eK from hb,aI,hR,slA,<-hd,tu hk];rfl
 .right;intro rc;rw[cf om,aC,aI,hR,slA,<-hd,Su om];rfl
theorem av7(F:Nat)(s:Bs)(l:J bn)(h:∀e∈l,WE e):zq F l s=iN (l.head?.any λx=>jf s x==2):=by
 unfold zq wx;cases l with
 | nil=>rfl|cons x l=>
  have hx:=h x wK;rw[b9 si,jP si,jP si,show(x::l).getD 0 nr=x from rfl,aoC F s hx,aeS F s hx];have:(jf s x==1)=eQ->(jf s x==2)=eK:=λh=>by rw[eq_of_beq h];rfl
  show(cond (jf s x==1||jf s x==2) (iN (!(jf s x==1))) (iN eK):O Bool).bind _=iN (jf s x==2);cases h1:(jf s x==1)with
  | true=>rw[this h1];rfl|false=>cases (jf s x==2)<;>rfl
theorem ajU(F:Nat)(f:J (J bn))(n:J bn)(hf:Sx f<=100000000):oM F eK n f=iN ([],qf f n):=by
 unfold oM qf wx;cases n with
 | nil=>rfl|cons a t=>rw[aI,aC,dT si,aQ,dn (by show f.length+1<=_;omega) de]
theorem auX(F:Nat)(f:J (J bn))(n:J bn)(hf:Sx f<=100000000):oM F eQ n f=iN ([],f++[n]):=by unfold oM wx;rw[aQ,aC,aQ,dn (by show f.length+1<=_;omega) de]
theorem kd3{s:Bs}{e:bn}(h:WE e):(e.dZ==3)=(jf s e==3):=by
 unfold jf Ot;rcases h with⟨h1,h2⟩|⟨b,h1,h2⟩
 .rcases h2 with h2|h2<;>rw[h1,h2]<;>rfl
 .rw[h1,h2,show(([b]:Bs)==[])=eK from rfl];cases (e.dZ==2&&s.contains (([b]:Bs).getD 0 0))<;>cases (([b]:Bs).getD 0 0==32||(([b]:Bs).getD 0 0==9||([b]:Bs).getD 0 0==10))<;>rfl
theorem aq6(F:Nat)(s:Bs)(l:J bn)(h:∀e∈l,WE e)(hF:Sx l<F)(hl:Sx l<=50000000):yJ F l s=iN (dS (jf s) 0 l [] []):=by
 have:aB (λr=>r=dS (jf s) 0 l [] []) (yJ F l s):=by
  unfold yJ wx;refine aB.lp (λz:J bn×J (J bn)×J bn=>(∀x∈z.1,WE x)/\z.1.length+Sx z.2.1+Sx z.2.2<=Sx l/\dS (jf s) 0 z.1 z.2.1 z.2.2=dS (jf s) 0 l [] []) (λz=>Sx z.1) ⟨h,si,rfl⟩ hF ?_;rintro⟨m,f,n⟩ ⟨h1,h2,h3⟩ rc hrc;dsimp only at h1 h2 h3 hrc⊢;have hel:=Ou f n;cases m with
  | nil=>rw[cf si,ajU F f n om];exact aB.ok h3|cons x m=>
   have hx:=h1 x wK;have hm:=λy hy=>h1 y (nt x hy);simp only[sB]at h2 hrc;have hlen:(Sx (x::m:J bn):Int)=(Sx m:Int)+1:=by simp
   have hdw:=(List.dropWhile_sublist (wE (jf s)) (l:=m)).length_le;have Wv:∀y∈m.dropWhile (wE (jf s)),WE y:=λy hy=>hm y ((List.dropWhile_sublist _).subset hy);rw[b9 om,jP om,show(x::m).getD 0 nr=x from rfl,slC,show(x::m).drop 1=m from rfl,aeS F s hx,aoC F s hx,kd3 (s:=s) hx];simp only[dS]at h3;cases k3:(jf s x==3)with
   | true=>have e3:=eq_of_beq k3;rw[e3]at h3;rw[aQ,ajU F f n om,aC,vO om om om];exact hrc _ ⟨hm,aM,h3⟩ si|false=>
    rw[k3]at h3;rw[aI,aC,aC];cases k1:(jf s x==1)with
    | true=>
     rw[k1,aQ]at h3;have hsk:zo F (x::m) s=iN (m.dropWhile (wE (jf s))):=by rw[apy F s _ h1 aM aM,MW,show wE (jf s) x=eQ from k1,if_pos rfl]
     have h3':dS (jf s) 1 (m.dropWhile (wE (jf s))) f n=dS (jf s) 0 l [] []:=by rw[MM (jf s) 1 (.inl rfl)];exact h3
     have hdh:=KT (jf s) m;rw[aQ,hsk,aC,av7 F s _ Wv,aC];generalize m.dropWhile (wE (jf s))=r at h3' hdh hdw Wv;cases hr:(r.head?.any λx=>jf s x==2)with
     | true=>
      refine hrc _ ⟨Wv,by dsimp only;omega,?_⟩ (by dsimp only;omega);cases r with
      | nil=>cases hr
      | cons y r=>rw[ZK _ hr]at h3';exact(ZK _ hr 0 f n).trans h3'
     | false=>
      rw[nu,aQ,ajU F f n om,aC];refine hrc _ ⟨Wv,aM,?_⟩ (by dsimp only;omega);rw[al1]at h3'
      .exact h3'
      .intro y hy;refine⟨hdh y hy,?_⟩;cases r with
       | nil=>cases hy
       | cons z r=>obtain rfl:=o4 hy;exact hr
    | false=>
     rw[k1,aI]at h3;cases k2:(jf s x==2)with
     | true=>
      rw[k2,aQ]at h3;rw[aI,PO,aQ,auX F f n om,aC,bX om om,apy F s m hm om om,aC];refine hrc _ ⟨Wv,aM,?_⟩ (by dsimp only;omega);rw[<-MM (jf s) 2 (.inr rfl),al0]at h3
      .exact h3
      .exact KT (jf s) m
     | false=>rw[k2]at h3;rw[aI,Bool.or_self,aI,dn (by show n.length+1<=_;omega) de,vO om om om];exact hrc _ ⟨hm,aM,h3⟩ si
 obtain⟨r,h,e⟩:=this;rw[e,h]
theorem apz(F:Nat)(l:J bZ)(a:Nat)(hF:Sx l<F)(hl:Sx l<=500000000)(ha:a<=Sx l):∃e:Nat,a<=e/\e<=Sx l/\l.drop e=(l.drop a).dropWhile (wE λx=>x.eM)/\C5 F l (a:Int)=iN (e:Int):=by
 have:aB (λr=>∃e:Nat,r=(e:Int)/\a<=e/\e<=Sx l/\l.drop e=(l.drop a).dropWhile (wE λx=>x.eM)) (C5 F l (a:Int)):=by
  refine aB.lp (λi=>∃n:Nat,i=(n:Int)/\a<=n/\n<=Sx l/\(l.drop n).dropWhile (wE λx=>x.eM)=(l.drop a).dropWhile (wE λx=>x.eM)) (λi=>Sx l-i.toNat) ⟨a,rfl,eE _,ha,rfl⟩ aM ?_;rintro _ ⟨n,rfl,h1,h2,h3⟩ rc hrc;by_cases hk:n<Sx l
  .rw[tu hk,MW]at h3;rw[b9 om,bp hk,bN,gd hk,bM om];cases hb:(l[n].eM==1)with
   | true=>rw[show wE (λx=>x.eM) l[n]=eQ from hb]at h3;exact hrc _ ⟨n+1,rfl,om,hk,h3⟩ aM
   | false=>grind[aB.ok,List.drop_eq_getElem_cons]
  .rw[cf om];exact aB.ok ⟨n,rfl,h1,h2,by simp_all[Su]⟩
 obtain⟨r,⟨e,rfl,h1,h2,h3⟩,h⟩:=this;grind
theorem aq7(F:Nat)(l:J bZ)(hk:∀x∈l,x.eM=0\/x.eM=1\/x.eM=2\/x.eM=3)(hF:Sx l<F)(hl:Sx l<=50000000):yB F l=iN (dS (λx=>x.eM) 0 l [] []):=by
 have:aB (λr=>r=dS (λx:bZ=>x.eM) 0 l [] []) (yB F l):=by
  unfold yB wx;refine aB.lp (λz:J (J bZ)×J bZ×Int=>∃a:Nat,z.2.2=(a:Int)/\a<=Sx l/\z.1.length+Sx z.2.1<=a/\dS (λx:bZ=>x.eM) 0 (l.drop a) z.1 z.2.1=dS (λx:bZ=>x.eM) 0 l [] []) (λz=>Sx l-z.2.2.toNat) ⟨0,rfl,om,si,rfl⟩ aM ?_;rintro⟨f,n,_⟩ ⟨a,rfl,h1,h2,h3⟩ rc hrc;dsimp only at h2 h3 hrc⊢;have hel:=Ou f n;have fin:∀(b:Bool)(e:Nat),(b=eQ->dS (λx:bZ=>x.eM) 0 (l.drop e) (f++[n]) []=dS (λx:bZ=>x.eM) 0 l [] [])->(b=eK->n=[]/\dS (λx:bZ=>x.eM) 0 (l.drop e) f []=dS (λx:bZ=>x.eM) 0 l [] [])->a<e->e<=Sx l ->
    aB (λr=>r=dS (λx:bZ=>x.eM) 0 l [] []) (cond b (rq ((eJ (Sx f+Sx ([n]:J (J bZ))<=9223372036854775807))&&(eJ ((Sx f+Sx ([n]:J (J bZ)))*24<=140737488355328))) (rc (f++([n]:J (J bZ)),([]:J bZ),(e:Int)))) (rc (f,n,(e:Int)))):=by
   intro b e xE mJ he hle;cases b with
   | true=>rw[aQ,dn (by show f.length+1<=_;omega) de];exact hrc _ ⟨e,rfl,hle,aM,xE rfl⟩ aM
   | false=>obtain⟨h0,h4⟩:=mJ rfl;rw[aI];subst h0;exact hrc _ ⟨e,rfl,hle,by simp at h2⊢;omega,h4⟩ aM
  have Rf:∀e:Nat,dS (λx:bZ=>x.eM) 0 (l.drop e) (qf f n) []=dS (λx:bZ=>x.eM) 0 l [] []->(eJ (0<(Sx n:Int))=eQ->dS (λx:bZ=>x.eM) 0 (l.drop e) (f++[n]) []=dS (λx:bZ=>x.eM) 0 l [] [])/\(eJ (0<(Sx n:Int))=eK->n=[]/\dS (λx:bZ=>x.eM) 0 (l.drop e) f []=dS (λx:bZ=>x.eM) 0 l [] []):=by intro e he;cases n with|nil=>exact⟨λh=>by simp at h,λ_=>⟨rfl,he⟩⟩|cons y n=>exact⟨λ_=>he,λh=>by simp at h⟩
  by_cases hak:a<Sx l
  .have hda:=tu hak;have WB:=hk _ (fW hak);rw[b9 om,bp hak,bN,gd hak];cases k0:(l[a].eM==0)with
   | true=>have e0:=eq_of_beq k0;rw[aQ,bp hak,dn (by show n.length+1<=_;omega) de,bM om];refine hrc _ ⟨a+1,rfl,hak,aM,?_⟩ aM;rw[<-h3,hda];simp only[dS];rw[e0];rfl
   | false=>
    obtain⟨e,e1,e2,e3,e4⟩:=apz F l a hF om om;rw[aI,e4,aC];have hw:a<e->dS (λx:bZ=>x.eM) 1 (l.drop e) f n=dS (λx:bZ=>x.eM) 0 l [] []:=by intro hlt;rw[hda,MW]at e3;cases hb:wE (λx:bZ=>x.eM) l[a]with|true=>rw[hb,if_pos rfl]at e3;rw[e3,MM _ 1 (.inl rfl),<-h3,hda];simp only[dS];grind|false=>rw[hb]at e3;have:=congrArg Sx e3;grind
    have hnw:a=e->(l[a].eM==1)=eK:=by rintro rfl;rw[hda,MW]at e3;cases hb:wE (λx:bZ=>x.eM) l[a]with|true=>rw[hb,if_pos rfl]at e3;have h5:=congrArg Sx e3;grind[List.dropWhile_sublist]|false=>exact hb
    by_cases hmk:e<Sx l/\(l.getD e oY).eM==2
    .obtain⟨m1,m2⟩:=hmk;obtain⟨g,g1,g2,g3,g4⟩:=apz F l (e+1) hF om om;rw[b9 om,bp m1,aC,bN,m2,aQ,bM om,g4,aC,aC];refine fin eQ g (λ_=>?_) (λh=>nomatch h) om g2;rw[gd m1]at m2;have hde:=tu m1;have h5:dS (λx:bZ=>x.eM) 2 (l.drop (e+1)) (f++[n]) []=dS (λx:bZ=>x.eM) 0 l [] []:=by grind[Nat.lt_or_eq_of_le,ZK]
     rw[<-al0,g3,MM _ 2 (.inr rfl)]
     .exact h5
     .rw[g3];exact KT _ _
    .have hnm:(cond (eJ ((e:Int)<(Sx l:Int))) (rq ((eJ (0<=(e:Int)))&&(eJ ((e:Int)<(Sx l:Int)))) (iN (((l.getD (eI (e:Int)) oY).eM)==2))) (iN eK):Option Bool)=iN eK:=by
      by_cases hlt:e<Sx l
      .rw[b9 om,bp hlt,bN];grind
      .rw[cf om]
     rw[hnm,aC,aI];rcases Nat.lt_or_eq_of_le e1 with hlt|heq
     .rw[show((e:Int)==(a:Int))=eK by simp;omega,aI,aC];have h5:=hw hlt;rw[al1]at h5
      .obtain⟨q1,q2⟩:=Rf e h5;exact fin _ e q1 q2 hlt e2
      .intro y hy;have hh:=KT (λx:bZ=>x.eM) (l.drop a);grind[Nat.lt_or_ge,List.drop_of_length_le,List.drop_eq_getElem_cons,Option.some.inj,gd]
     .subst heq;rw[show((a:Int)==(a:Int))=eQ by simp,aQ,aC,bM om];have k1:=hnw rfl;have k2:(l[a].eM==2)=eK:=by grind
      have k3:l[a].eM=3:=by grind
      rw[hda]at h3;simp only[dS]at h3;rw[k3]at h3;obtain⟨q1,q2⟩:=Rf (a+1) h3;exact fin _ (a+1) q1 q2 om hak
  .obtain rfl:a=Sx l:=om;rw[MV]at h3;simp only[dS]at h3;rw[cf om];cases n with|nil=>exact aB.ok h3|cons y n=>rw[dT si,cond_true,dn (by grind) de];exact aB.ok h3
 obtain⟨r,h,e⟩:=this;rw[e,h]
def stepG(o:J aA)(r:aA):J aA:=cond (eJ (0<Sx o)&&((o.getD (Sx o-1) dw).aH==r.aH)) (o.set (Sx o-1) (aA.mk ((o.getD (Sx o-1) dw).fText++r.fText) (o.getD (Sx o-1) dw).aH)) (o++[r])
def rP(e:bn):aA:=aA.mk e.aR e.dZ
def rR(e:bZ):aA:=aA.mk e.aR e.dZ
theorem Ov(o:J aA)(x r:aA):stepG (o++[x]) r=cond (x.aH==r.aH) (o++[aA.mk (x.fText++r.fText) x.aH]) (o++[x]++[r]):=by unfold stepG;simp_all
theorem aoD(o:J aA)(r:aA):bH (stepG o r)=bH o+Sx r.fText/\(stepG o r).length<=Sx o+1:=by
 rcases VC o with rfl|⟨p,x,rfl⟩
 .simp[stepG,bH]
 .rw[ahy,Ov];cases (x.aH==r.aH)<;>simp[bH]<;>omega
theorem Jw:∀(l o:J aA),bH (l.foldl stepG o)=bH o+bH l/\(l.foldl stepG o).length<=Sx o+Sx l
 | [],o=>by simp[bH]|r::l,o=>by
  obtain⟨h1,h2⟩:=Jw l (stepG o r);obtain⟨h3,h4⟩:=aoD o r;rw[sE];have:bH (r::l)=Sx r.fText+bH l:=by simp[bH]
  simp;omega
theorem aaJ:∀(g o:J aA)(t:Bs)(c:Int),(∀r∈g,r.aH=c)->g.foldl stepG (o++[aA.mk t c])=o++[aA.mk (t++ef g) c]
 | [],o,t,c,h=>by simp[ef]|r::g,o,t,c,h=>by have hr:=h r wK;rw[sE,Ov];rw[hr,show(c==c)=eQ by simp,aQ,aaJ g o _ c λx hx=>h x (nt _ hx)];unfold ef;rw[q8,sD]
theorem auY(F:Nat)(l:J bZ)(h:∀e∈l,Sx e.aR<=1)(hF:Sx l<F)(hl:Sx l<=50000000):Hw F l=iN ((l.map rR).foldl stepG []):=by
 unfold Hw wx;have hsz:∀m:J bZ,(∀e∈m,Sx e.aR<=1)->bH (m.map rR)<=Sx m:=λm=>by
  induction m with
  | nil=>intro _;simp[bH]|cons a m ih=>
   intro hm;have h1:=hm a wK;have:bH ((a::m).map rR)=Sx a.aR+bH (m.map rR):=by simp[bH,rR]
   grind
 refine bW (λz:Int×J aA=>∃k:Nat,z=((k:Int),((l.take k).map rR).foldl stepG [])/\k<=Sx l) (λz=>Sx l-z.1.toNat) ?_ F _ ⟨0,rfl,om⟩ aM;rintro _ ⟨k,rfl,hk⟩;dsimp only;by_cases hk:k<Sx l
 .left;refine⟨_,⟨k+1,rfl,hk⟩,aM,λrc=>?_⟩;obtain⟨z1,z2⟩:=Jw ((l.take k).map rR) [];have z3:=hsz (l.take k) λe he=>h e (MS he);have hx:=h _ (fW hk);rw[pX]at z3;simp only[gP,pX,H9]at z2;have e0:bH ([]:J aA)=0:=rfl;have hfl:((l.take (k+1)).map rR).foldl stepG []=stepG (((l.take k).map rR).foldl stepG []) (rR l[k]):=by grind[List.take_succ_eq_append_getElem]
  rw[b9 om,bN,gd hk,bM om,hfl];generalize((l.take k).map rR).foldl stepG []=o at z1 z2⊢;unfold stepG;by_cases h0:0<Sx o
  .have hmo:(o.getD (Sx o-1) dw).fText.length<=bH o:=by rw[gd om];exact SQ (fW om)
   have e1:aE ((Sx o:Int)-1)=((Sx o-1:Nat):Int):=vi om h0;rw[e1,b9 om,bp om,bp hk,bN,aC,dT h0,Ib];dsimp only;show cond ((o.getD (Sx o-1) dw).aH==l[k].dZ) _ _=rc (_,cond ((o.getD (Sx o-1) dw).aH==l[k].dZ) _ _);cases ((o.getD (Sx o-1) dw).aH==l[k].dZ)with|true=>rw[aQ,aQ,bp om,bp hk,jP om,bp om];rfl|false=>rw[cond_false,cond_false,bp hk,bp hk,dn (by grind) de];rfl
  .rw[cf om,aC];dsimp only;rw[aI,bp hk,bp hk,dn (by simp_all) de,dF h0];rfl
 grind
theorem as9(m:J bn):ef (m.map rP)=Sg m:=by unfold ef Sg;rw[ahz];rfl
theorem auZ(F:Nat)(l:J bn)(h:∀e∈l,Sx e.aR<=1)(hF:Sx l+1<F)(hl:Sx l<=10000000):Dc F l=iN ((l.map rP).foldl stepG []):=by
 have:aB (λr=>r=(l.map rP).foldl stepG []) (Dc F l):=by
  unfold Dc wx;refine aB.lp (λz:J bn×J aA=>∃i:Nat,z.1=l.drop i/\i<=Sx l/\z.2=((l.take i).map rP).foldl stepG []/\(z.2=[]\/∃o' x,z.2=o'++[x]/\∀y∈z.1.head?,(x.aH==y.dZ)=eK)) (λz=>Sx z.1) ⟨0,rfl,om,rfl,.inl rfl⟩ (by show l.length<F;omega) ?_;rintro⟨m,o⟩ ⟨i,h1,h2,h3,h4⟩ rc hrc;dsimp only at h1 h3 h4 hrc⊢;have hm:∀e∈m,Sx e.aR<=1:=λe he=>h e (List.mem_of_mem_drop (h1▸he));have hml:Sx m=Sx l-i:=by rw[h1,BL]
  have hol:Sx o<=i:=by grind[Jw]
  cases hme:m with
  | nil=>simp_all[cf,aB.ok,va]|cons x m'=>
   rw[<-hme];have hpos:0<Sx m:=by rw[hme];simp
   have Uk:m.getD 0 nr=x:=by rw[hme];rfl
   rw[b9 om,Uk];refine aB.lp (λj:Int=>∃n:Nat,j=(n:Int)/\1<=n/\n<=Sx m/\∀e∈m.take n,e.dZ=x.dZ) (λj=>Sx m-j.toNat) ⟨1,rfl,Nat.le_refl _,hpos,λe he=>by grind⟩ (by grind) ?_;rintro _ ⟨n,rfl,n1,n2,n3⟩ rc' vg
   have fin:(∀y∈(m.drop n).head?,(x.dZ==y.dZ)=eK)->aB (λr=>r=(l.map rP).foldl stepG []) (rq ((eJ (0<=(n:Int)))&&(eJ ((n:Int)<=(Sx m:Int)))) (rq (eJ (0<(Sx m:Int))) ((zu F (sl m 0 (n:Int))).bind λx6=>
     rq ((eJ (Sx o+Sx ([(aA.mk x6 (x.dZ))]:J aA)<=9223372036854775807))&&(eJ ((Sx o+Sx ([(aA.mk x6 (x.dZ))]:J aA))*24<=140737488355328))) (rq ((eJ (0<=(n:Int)))&&((eJ ((n:Int)<=(Sx m:Int)))&&(eJ ((Sx m:Int)<=(Sx m:Int))))) (rc (sl m (n:Int) (Sx m:Int),o++([(aA.mk x6 (x.dZ))]:J aA))))))):=by
    intro hy;rw[bX om om,jP om,slB,auU F (m.take n) aM aM λe he=>hm e (List.mem_of_mem_take he),Option.bind_some,dn (by grind) de,vO om om om,slA];refine hrc _ ⟨i+n,by rw[h1,ahA],om,?_,.inr ⟨o,_,rfl,hy⟩⟩ aM;show o++_=_;have ht:l.take (i+n)=l.take i++m.take n:=by grind
    rw[ht,lZ,PK,<-h3,<-as9];have hmt:m.take n=x::m'.take (n-1):=by rw[hme];cases n with|zero=>omega|succ n=>rfl
    rw[hmt]at n3⊢;have hf:stepG o (rP x)=o++[rP x]:=by
     rcases h4 with rfl|⟨o',z,rfl,hz⟩
     .rfl
     .rw[Ov,show(z.aH==(rP x).aH)=eK from hz x (by rw[hme];rfl)];rfl
    rw[jb,sE,hf]
    have:=aaJ ((m'.take (n-1)).map rP) o x.aR x.dZ (λr hr=>by
     obtain⟨e,he,rfl⟩:=kq.1 hr;exact n3 e (nt _ he))
    exact(this.trans (by unfold ef;rw[q8];rfl)).symm
   by_cases hn:n<Sx m
   .rw[b9 om,bp hn,jP om,aC,bN,gd hn];cases hb:(m[n].dZ==x.dZ)with|true=>rw[aQ,bM om];refine vg _ ⟨n+1,rfl,om,hn,λe he=>?_⟩ aM;grind[List.take_succ_eq_append_getElem,List.mem_singleton]|false=>rw[aI];grind[List.drop_eq_getElem_cons,Option.some.inj,Bool.beq_comm]
   grind
 obtain⟨r,h,e⟩:=this;rw[e,h]
def lX(l:J aA)(s:Bs):J (J aA):=(dS (jf s) 0 (l.flatMap qV) [] []).map λg=>(g.map rP).foldl stepG []
theorem aeV{e:bn}(h:WE e):Sx e.aR<=1:=by rcases h with⟨h,-⟩|⟨b,h,-⟩<;>rw[h]<;>simp
theorem aeW(l:J aA)(s:Bs)(h1:Sx l<=1000000)(h2:bH l<=5000000):(dS (jf s) 0 (l.flatMap qV) [] []).length<=6000000/\∀g∈dS (jf s) 0 (l.flatMap qV) [] [],Sx g<=6000000/\∀x∈g,WE x:=by
 have hE:=ML l;have:=al2 (jf s) (l.flatMap qV) 0 [] [];simp only[H9]at this
 exact⟨om,λg hg=>by
  have:=aeU (jf s) (λ_=>1) 6000000 WE (l.flatMap qV) 0 [] [] (λ_ h=>nomatch h) (by grind[ahb,List.length_nil]) (λ_ h=>nomatch h) (aeR l) g hg;rwa [ahb]at this⟩
theorem aq8(F:Nat)(l:J aA)(s:Bs)(hF:100000000<=F)(h1:Sx l<=1000000)(h2:bH l<=5000000):Dd F l s=iN (lX l s):=by
 have hE:=ML l;obtain⟨d1,d2⟩:=aeW l s h1 h2;unfold Dd lX wx;rw[auT F l om om om,aC,aq6 F s _ (aeR l) om om];generalize dS (jf s) 0 (l.flatMap qV) [] []=fs at d1 d2;refine bW (λz=>∃k:Nat,z=((fs.take k).map (λg=>(g.map rP).foldl stepG []),(k:Int))/\k<=Sx fs) (λz=>Sx fs-z.2.toNat) ?_ F _ ⟨0,rfl,om⟩ aM;rintro _ ⟨k,rfl,hk⟩;by_cases hk:k<Sx fs
 .left;refine⟨_,⟨k+1,rfl,hk⟩,aM,λrc=>?_⟩;obtain⟨g1,g2⟩:=d2 _ (fW hk);rw[b9 om,bp hk,bN,gd hk,auZ F _ (λe he=>aeV (g2 e he)) om om,aC,dn aM de,bM om,ku hk,lZ];rfl
 grind
theorem al3(s:Bs)(e:bn):jf s e=0\/jf s e=1\/jf s e=2\/jf s e=3:=by unfold jf Ot;grind
theorem ahc(F:Nat)(l:J aA)(s:Bs)(hF:100000000<=F)(h1:Sx l<=1000000)(h2:bH l<=5000000)(hs:Sx s<=5000):yC F l s=iN (lX l s):=by
 have hE:=ML l;obtain⟨d1,d2⟩:=aeW l s h1 h2;unfold yC lX wx;rw[auW F l s om om om om,Option.bind_some,aq7 F _ (λx hx=>by obtain⟨e,-,rfl⟩:=List.mem_map.1 hx;exact al3 s e) (by grind) (by grind),Option.bind_some];have hmap:=alZ (jf s) (λx=>x.eM) (Uz s) (l.flatMap qV) 0 [] [] λ_ _=>rfl;rw[BI,BI]at hmap;rw[hmap];generalize dS (jf s) 0 (l.flatMap qV) [] []=fs at d1 d2;have hrr:∀g:J bn,(g.map (Uz s)).map rR=g.map rP:=λg=>by rw[xu];rfl
 refine bW (λz=>∃k:Nat,z=((fs.take k).map (λg=>(g.map rP).foldl stepG []),(k:Int))/\k<=Sx fs) (λz=>Sx fs-z.2.toNat) ?_ F _ ⟨0,rfl,om⟩ aM;rintro _ ⟨k,rfl,hk⟩;by_cases hk:k<Sx fs
 .left;refine⟨_,⟨k+1,rfl,hk⟩,aM,λrc=>?_⟩;obtain⟨g1,g2⟩:=d2 _ (fW hk);have e1:(fs.map (List.map (Uz s))).getD k []=fs[k].map (Uz s):=by simp_all
  rw[b9 (by simp_all),bp (by simp_all),Int.toNat_natCast,e1,auY F _ (λe he=>by obtain⟨x,hx,rfl⟩:=List.mem_map.1 he;exact aeV (g2 x hx)) (by grind) (by grind),Option.bind_some,dn aM de,bM om,List.take_succ_eq_append_getElem hk,List.map_append,hrr];rfl
 grind
theorem ata(g:J bn)(h:∀x∈g,WE x):bH (g.map rP)<=Sx g:=by
 induction g with
 | nil=>simp[bH]|cons a m ih=>
  have h1:=aeV (h a wK);have:bH ((a::m).map rP)=Sx a.aR+bH (m.map rP):=by simp[bH,rP]
  grind
theorem Ow(l:J aA)(s:Bs)(h1:Sx l<=1000000)(h2:bH l<=5000000):(lX l s).length<=6000000/\∀f∈lX l s,Sx f<=6000000/\bH f<=6000000:=by obtain⟨d1,d2⟩:=aeW l s h1 h2;unfold lX;refine⟨by simp_all,λf hf=>?_⟩;obtain⟨g,hg,rfl⟩:=kq.1 hf;obtain⟨g1,g2⟩:=d2 g hg;obtain⟨z1,z2⟩:=Jw (g.map rP) [];have:=ata g g2;have e0:bH ([]:J aA)=0:=rfl;grind
def emp(e:bn):Nat:=cond (e.aR==[]) 1 0
theorem ahd:∀l:J aA,((l.flatMap qV).map emp).sum<=Sx l
 | []=>eE _|r::l=>by
  have ih:=ahd l;have h1:∀(c:Int)(t:Bs),((t.map λb=>bn.mk [b] c).map emp).sum=0:=λc t=>by
   induction t with|nil=>rfl|cons b t ih=>simp only[jb,MT,ih];rfl
  have:((qV r).map emp).sum<=1:=by
   unfold qV;cases (r.aH==3)with
   | true=>exact eE _|false=>
    cases (r.aH==0||(r.aH==1||r.aH==2))with
    | false=>exact fF _|true=>rw[aI,aQ,lZ,Sv,h1];cases (r.fText==[]&&r.aH==1)<;>simp[emp]
  grind
theorem agk(l:J aA)(s:Bs):∀f∈lX l s,Sx f<=bH f+Sx l:=by
 intro f hf;obtain⟨g,hg,rfl⟩:=kq.1 hf;obtain⟨h1,h2⟩:=aeU (jf s) emp l.length WE (l.flatMap qV) 0 [] [] (λ_ h=>nomatch h) (by simp_all[ahd,BI,List.sum_nil]) (λ_ h=>nomatch h) (aeR l) g hg;obtain⟨z1,z2⟩:=Jw (g.map rP) [];have h3:∀m:J bn,(∀x∈m,WE x)->Sx m<=bH (m.map rP)+(m.map emp).sum:=λm=>by
  induction m with
  | nil=>intro _;simp|cons a m ih=>
   intro hm;have h5:1<=Sx a.aR+emp a:=by unfold emp;rcases hm a wK with⟨h,-⟩|⟨b,h,-⟩<;>rw[h]<;>simp
   have:bH ((a::m).map rP)=Sx a.aR+bH (m.map rP):=by simp[bH,rP]
   grind
 grind
theorem al4(F:Nat)(r:J aA)(hF:100000000<=F)(h1:Sx r<=10000000)(h2:bH r<=10000000):∃b,qb F r=iN b:=by
 have hcl:=acG r;obtain⟨b,-,h⟩:=aib (F:=F) (r:=r) om om om om λc hc=>by have:=acX r c hc;obtain⟨p,⟨g1,g2⟩,h⟩:=acD F c om om om om;obtain⟨x,hx⟩:=acE F p om om g1;exact⟨p,x,h,hx⟩
 exact⟨b,h⟩
theorem aq9(F:Nat)(l:J d6)(p:dm)(hN:NC<=F)(hF:100000000<=F)(hl:gv l<=1000)(hs:mG s)(hst:stop s=eK):aB (λr=>RB (gv l) r.1/\mG r.2) (gO F l p s):=by obtain⟨a,b,⟨h1,h2,-⟩,-,e⟩:=apx (fl:=[]) hN hF (ag9 F hF) F F l (dM.mk p.fY p.lF 0) p s ⟨rfl,rfl⟩ hs hst hl om om;exact⟨b,⟨h2,h1⟩,e⟩
theorem aB.sc{Q:R->Prop}{c:Bool}{x y:R}(a:c=eQ->Q x)(b:c=eK->Q y):aB Q (iN (cond c x y)):=by grind[aB.ok]
theorem ara(F:Nat)(e:eS)(hF:100<F):aB (λb=>b=eQ->(Sx e.bR<=12/\∀v∈e.bR,Sx v.fName<=60/\v.cg.length<=60)/\e.cZ.length<=12/\(∀x∈e.cZ,Sx x<=60)/\e.fName.length<=60) (EV F e):=by
 unfold EV wx;simp only[aG,aC];refine aB.cb (λ_=>aB.ok λh=>nomatch h) λhc=>?_;simp at hc;refine aB.lp (λi=>∃k:Nat,i=(k:Int)/\k<=Sx e.bR/\∀v∈e.bR.take k,Sx v.fName<=60/\v.cg.length<=60) (λi=>Sx e.bR-i.toNat) ⟨0,rfl,om,si⟩ (by grind) ?_;rintro _ ⟨k,rfl,h1,h2⟩ rc hrc;refine aB.cd (λh=>?_) λh=>?_
 .have hk:k<Sx e.bR:=om;rw[bX om om,bX om om,bF om,bN,gd hk,aG,aC];refine aB.cb (λ_=>aB.ok λh=>nomatch h) λhv=>hrc _ ⟨k+1,rfl,hk,λv jU=>?_⟩ (by grind);grind[List.take_succ_eq_append_getElem,List.mem_singleton,cT,Bool.or_eq_false_iff,decide_eq_false_iff_not]
 .have h2:∀v∈e.bR,Sx v.fName<=60/\v.cg.length<=60:=by grind
  refine aB.lp (λi=>∃k:Nat,i=(k:Int)/\k<=Sx e.cZ/\∀v∈e.cZ.take k,Sx v<=60) (λi=>Sx e.cZ-i.toNat) ⟨0,rfl,om,si⟩ (by grind) ?_;rintro _ ⟨k,rfl,p1,p2⟩ rc' vg;refine aB.cd (λh=>?_) λh=>aB.ok λ_=>⟨⟨om,h2⟩,om,by grind,om⟩;have hk:k<Sx e.cZ:=om;rw[bX om om,bF om,bN,gd hk];refine aB.cd (λ_=>aB.ok λh=>nomatch h) λhv=>vg _ ⟨k+1,rfl,hk,λv jU=>?_⟩ (by grind);grind[List.take_succ_eq_append_getElem,List.mem_singleton]
theorem arb(F:Nat)(l:J bP)(hF:200<F):aB (λr=>r=0->Dg l) (EW F l):=by
 unfold EW wx;refine aB.cd (λ_=>aB.ok λh=>nomatch h) λhl=>?_;refine aB.lp (λi:Int=>∃k:Nat,i=(k:Int)/\k<=Sx l/\Dg (l.take k)) (λi=>Sx l-i.toNat) ⟨0,rfl,om,List.Pairwise.nil⟩ (by grind) ?_;rintro _ ⟨k,rfl,h1,hA⟩ rc hrc;refine aB.cd (λh=>?_) λh=>aB.ok λ_=>by grind
 have hk:k<Sx l:=om;have lt:aB (λb:Bool=>b=eK->k=0\/(l.getD (k-1) eH).fName<(l.getD k eH).fName) (cond (eJ (0<(k:Int))) (rq ((eJ (0<=aE ((k:Int)-1)))&&(eJ (aE ((k:Int)-1)<(Sx l:Int)))) (rq ((eJ (0<=(k:Int)))&&(eJ ((k:Int)<(Sx l:Int)))) (iN (!(pD ((l.getD (eI (aE ((k:Int)-1))) eH).fName) ((l.getD (eI (k:Int)) eH).fName)))))) (iN eK)):=by refine aB.cd (λh0=>?_) λ_=>aB.ok λ_=>.inl om;rw[vi om om];grind[aB.rq,mL,aB.ok,JY]
 refine aB.rq (mL om om) (aB.bd (GK F _ om) λb _=>aB.cb (λ_=>aB.ok λh=>nomatch h) λ_=>aB.rq (mL om om) (aB.cd (λ_=>aB.ok λh=>nomatch h) λ_=>?_));refine aB.bd (P:=λb:Bool=>b=eK->k=0\/(l.getD (k-1) eH).fName<(l.getD k eH).fName) (aB.rq (mL om om) (aB.cb (λ_=>aB.rq (mL om om) (aB.cb (λ_=>aB.ok λh=>nomatch h) λ_=>lt)) λ_=>lt)) λb hb=>aB.cb (λ_=>aB.ok λh=>nomatch h) λhb0=>?_;rw[bF om];refine hrc _ ⟨k+1,rfl,hk,?_⟩ (by grind);unfold Dg at hA⊢;rw[ku hk,List.pairwise_append];refine⟨hA,ahu _ _,λa ha c hc=>?_⟩;obtain rfl:=ni.1 hc;obtain⟨m,hm,rfl⟩:=ko ha;have hm2:m<k:=by grind
 rcases hb hb0 with h0|h0
 .omega
 .rw[gd hk,gd (show k-1<l.length by omega)]at h0;by_cases e:m=k-1
  .simp_all
  .have:=(List.pairwise_iff_getElem.1 hA) m (k-1) hm (by grind) om;grind
def aoE(e:eS):Prop:=((Sx e.bR<=12/\∀v∈e.bR,Sx v.fName<=60/\v.cg.length<=60)/\e.cZ.length<=12/\(∀x∈e.cZ,Sx x<=60)/\e.fName.length<=60)/\e.vR=[]/\e.p6=[]/\e.vS=[]/\gm e.ud=eQ/\(0<=e.gw/\e.gw<=255)/\(0<=e.gC/\e.gC<=255)/\0<=e.DM/\0<=e.qy/\Dg e.bR
theorem aeX{l:J α}(h:¬ 0<(Sx l:Int)):l=[]:=VB.1 om
theorem atb(F:Nat)(e:eS)(hF:1000<F):aB (λb=>b=eQ->aoE e) (Ht F e):=by unfold Ht wx;obtain⟨b1,h1,e1⟩:=ara F e om;obtain⟨b2,mJ,e2⟩:=arb F e.bR om;rw[e1,e2,Nb F e.ud om];simp only[aG,aC];refine aB.sc (λ_=>λh=>nomatch h) λhc=>λht=>?_;simp only[cT,cF,abz,cH,ahB,ahC,fO]at hc ht;exact⟨h1 hc.1.1.1.1.1,aeX hc.1.1.1.2,aeX hc.1.1.2,aeX hc.1.2,hc.2,om,om,om,om,mJ (by simpa using hc.1.1.1.1.2)⟩
theorem arc(F:Nat)(l:J Bs)(hF:10000<F):aB (λr=>Sx r.1<=8/\∀w∈r.1,gv w.fParts<=160) (wH F l):=by refine aB.lp (λz=>∃k:Nat,z.2=(k:Int)/\k<=8/\z.1.length<=k/\∀w∈z.1,gv w.fParts<=160) (λz=>8-z.2.toNat) ⟨0,rfl,om,si,λ_ h=>nomatch h⟩ (by show 8-0<F;omega) ?_;rintro⟨o,_⟩ ⟨k,rfl,h1,h2,h3⟩ rc hrc;rw[aG];refine aB.cb (λhc=>?_) λ_=>aB.ok ⟨by grind,h3⟩;rw[cF,cH]at hc;have c1:=DA hc.1;have c2:=DA hc.2;have no:aB (λr:J gj×Bool=>Sx r.1<=8/\∀w∈r.1,gv w.fParts<=160) (iN ([],eK)):=aB.ok ⟨si,λ_ h=>nomatch h⟩;refine aB.rq (mL om om) (aB.cd (λ_=>no) λh80=>aB.rq (mL om om) (aB.bd (arC F _ om om) λr hr=>LN (λ_=>no) λ_=>?_));rw[bF om];refine aB.rq (o5 (by grind) de) (hrc _ ⟨k+1,rfl,om,aM,λw hw=>?_⟩ (by grind));grind
theorem ahe(h:aoE e)(h1:K.ir e.DM)(h2:K.ir e.qy):GEn e:=by obtain⟨⟨⟨a1,a2⟩,a3,a4,a5⟩,f1,f2,f3,-,-,h6,-⟩:=h;exact⟨⟨om,λv hv=>by have:=a2 v hv;omega⟩,a3,a4,a5,⟨om,om⟩,h1,h2,f1,f2,f3⟩
def Rdy(j:xB)(w:J gj):Prop:=aoE j.oy/\VL j.ry/\j.ry.length<=40/\(Sx j.jq<=12/\∀a∈j.jq,Sx a.fText<=60)/\w.length<=8/\∀x∈w,gv x.fParts<=160
theorem ard{k:Nat}(h:k<=F):∃n,F=n+k:=⟨F-k,om⟩
theorem al5(F:Nat)(e:eS)(hF:10<=F)(h1:Sx e.bR<=1000)(h2:Sx e.cZ<=1000)(h3:e.vR=[])(h4:e.p6=[])(h5:e.vS=[]):th F e=iN e:=by obtain⟨m,rfl⟩:=ard hF;unfold th Bc yL yM yN yO wx;rw[h4,dn om de,dn om de];obtain⟨a1,a2,a3,a4,a5,a6,a7,a8,a9,a10,a11,a12,a13,a14⟩:=e;subst h3 h4 h5;rfl
def av8:eS:=eS.mk [] [] [] [] [] [] 0 0 0 0 [] (nQ.mk 0 0) 0 eK
def Be(s:aY)(fs:J Bs):fR×Int:=cond (s.fe != 0) (fR.mk [] av8 eK [] s.fX 0,s.fe) (fR.mk (cond s.nh [] fs) s.bI s.nh s.w6 [] s.lE,0)
theorem al6(F:Nat)(h:GEn e)(hF:10<=F):th F e=iN e:=al5 F e hF (by have:=h.1.1;omega) (by have:=h.2.1;omega) h.2.2.2.2.2.2.2.1 h.2.2.2.2.2.2.2.2.1 h.2.2.2.2.2.2.2.2.2
theorem atc(F:Nat)(fl:J aN)(h:mG s)(hs:stop s=eK)(hF:10<=F)(fs:J Bs):ia F fs eQ (iL fl s)=iN (Be s fs):=by obtain⟨h1,h2⟩:=ag4 hs;unfold ia wx;rw[show(iL fl s).bI=s.bI from rfl,al6 F h.1.1 hF];unfold Be;rw[h1,h2,h.2.2 h2];rfl
theorem Vx(F:Nat){x:aO}(h:mG s)(hx:Fin x s)(hF:10<=F)(fs gs:J Bs)(hs:stop s=eQ):ia F fs eK x=iN (Be s gs):=by
 unfold ia Be wx;rcases hx with⟨h1,h2,h3,h4⟩|⟨h1,h2,h3,h4,h5⟩
 .rw[h2,h3,h4,show(s.fe != 0)=eQ by simpa using h1];rfl
 .have hw:s.nh=eQ:=by unfold stop at hs;rw[h1]at hs;exact hs
  rw[h2,h4,al6 F h.1.1 hF,h1,hw,h3,h5];rfl
def s0(e:eS)(a:J iI):aY:=aY.mk e a 0 (-1) 0 [] eK []
def atd{a:J iI}(h:GEn e)(hA:Dg e.bR)(h1:∀x∈a,Sx x.fText<=60)(h2:a.length<=2000):mG (s0 e a):=⟨⟨h,h1,h2,0,rfl,fF _⟩,hA,λ_=>rfl⟩
theorem au0(F:Nat)(l:J aA)(hF:Sx l<F)(h1:Sx l<=1000000)(h2:bH l<=100000000):qC F l=qI F l:=by rw[Is F l hF om h2,aeK F l hF om om];rfl
theorem arf:E1 60=iN eQ:=by
 unfold E1 wx
 try simp only[NK]
 kernel_rfl
def SX(x:fR):Prop:=Sx x.zn<=1000/\NoF x.oy/\x.oy.bR.length<=1000/\x.oy.cZ.length<=1000
theorem arh(h:mG s){fs:J Bs}(hf:Sx fs<=1000):SX (Be s fs).1:=by
 have h1:=h.1.1.1.1;have h2:=h.1.1.2.1;unfold Be;cases (s.fe != 0)with
 | true=>exact⟨fF _,⟨rfl,rfl,rfl⟩,fF _,fF _⟩|false=>exact⟨by show(cond s.nh [] fs).length<=_;cases s.nh<;>simp;exact hf,h.1.1.2.2.2.2.2.2.2,by show s.bI.bR.length<=_;omega,by show s.bI.cZ.length<=_;omega⟩
theorem aeY(F n:Nat)(hF:n<F)(hn:n<=1000000)(p:Int->Bool)(hp:∀x,p x=eK):ck (σ:=Int) (R:=Bool) (λbA x1=>cond (eJ (x1<(n:Int))) (rq ((eJ (0<=x1))&&(eJ (x1<(n:Int)))) (rq ((eJ (0<=x1))&&(eJ (x1<(n:Int)))) (cond (p x1) (iN eK) (bA (aE (x1+1)))))) (iN eQ)) F 0=iN eQ:=by
 refine bW (λs:Int=>∃k:Nat,s=(k:Int)/\k<=n) (λs=>n-s.toNat) ?_ F _ ⟨0,rfl,om⟩ aM;rintro _ ⟨k,rfl,hk⟩;by_cases hk:k<n
 .left;refine⟨_,⟨k+1,rfl,om⟩,aM,λrc=>?_⟩;rw[b9 om,bp hk,bp hk,hp,aI,bM om]
 .right;intro rc;rw[cf om]
theorem apA(F:Nat)(l:J Bs)(hF:Sx l<F)(h:Sx l<=1000000):pU F l l=iN eQ:=by unfold pU wx;rw[MX,aI];exact aeY F l.length hF h (λx1=>!((l.getD (eI x1) [])==(l.getD (eI x1) []))) (λx=>by simp)
theorem ate(F:Nat)(l:J bP)(hF:Sx l<F)(h:Sx l<=1000000):HL F l l=iN eQ:=by unfold HL wx;rw[MX,aI];exact aeY F l.length hF h (λx1=>!(((l.getD (eI x1) eH).fName==(l.getD (eI x1) eH).fName)&&(((l.getD (eI x1) eH).cg==(l.getD (eI x1) eH).cg)&&(((l.getD (eI x1) eH).cJ==(l.getD (eI x1) eH).cJ)&&(((l.getD (eI x1) eH).wG==(l.getD (eI x1) eH).wG)&&(((l.getD (eI x1) eH).mW==(l.getD (eI x1) eH).mW)&&eQ)))))) (λx=>by simp)
theorem au1(F:Nat){x:fR}(hF:1000<F)(h:SX x):HM F x x=iN eQ:=by
 obtain⟨h1,⟨f1,f2,f3⟩,h2,h3⟩:=h;have e:AG F x.oy x.oy=iN eQ:=by unfold AG wx;rw[f1,f2,f3,ate F _ om om,apA F _ om om];simp
 unfold HM wx;rw[apA F _ om om,e];simp
def dV{R:Type}(Q:R->Prop)(x:O R):Prop:=∀r,x=iN r->Q r
variable{S:Type}{body:(σ->O R)->σ->O R}
section
variable {Q : R -> Prop}
theorem dV.ok{r:R}(h:Q r):dV Q (iN r):=λ_ e=>by cases e;exact h
def dV.no:dV Q iF:=λ_ e=>nomatch e
theorem dV.rq{x:O R}{c:Bool}(k:dV Q x):dV Q (rq c x):=by cases c;exact dV.no;exact k
theorem dV.cb{x y:O R}{c:Bool}(a:dV Q x)(b:dV Q y):dV Q (cond c x y):=by cases c;exact b;exact a
theorem dV.bb{P:S->Prop}{x:O S}{f:S->O R}(h:dV P x)(k:∀a,P a->dV Q (f a)):dV Q (x.bind f):=λr e=>by obtain⟨a,e1,e2⟩:=aho.1 e;exact k a (h a e1) r e2
theorem dV.bd{x:O S}{f:S->O R}(k:∀a,dV Q (f a)):dV Q (x.bind f):=dV.bb (P:=λ_=>True) (λ_ _=>trivial) λa _=>k a
theorem dV.lp(P:σ->Prop){s:σ}(h0:P s)(hs:∀s,P s->∀rc,(∀s',P s'->dV Q (rc s'))->dV Q (body rc s)):dV Q (ck body F s):=by
 induction F generalizing s with|zero=>exact dV.no|succ F ih=>exact hs s h0 (ck body F) λs' h=>ih h
def dV.lT{s:σ}(hs:∀s rc,(∀s',dV Q (rc s'))->dV Q (body rc s)):dV Q (ck body F s):=dV.lp (λ_=>True) trivial λs _ rc h=>hs s rc λs'=>h s' trivial
end
variable{c:eS}
section
variable {Q : R -> Prop}
def IV(c:eS)(s:aY):Prop:={s.bI with bR:=[]} = c
def dV.bi{x:O (A×aY)}{f:A×aY->O R}(h:dV (λz=>IV c z.2) x)(k:∀a,IV c a.2->dV Q (f a)):dV Q (x.bind f):=dV.bb h k
def dV.bt{x:O aY}{f:aY->O R}(h:dV (IV c) x)(k:∀a,IV c a->dV Q (f a)):dV Q (x.bind f):=dV.bb h k
def dV.ls{body:(Int×aY->O R)->Int×aY->O R}{s:Int×aY}(h0:IV c s.2)(hs:∀s:Int×aY,IV c s.2->∀rc,(∀s':Int×aY,IV c s'.2->dV Q (rc s'))->dV Q (body rc s)):dV Q (ck body F s):=dV.lp (λz=>IV c z.2) h0 hs
theorem dV.au{Q:R->Prop}{x:O R}(h:dV Q x:=by repeat' first|exact dV.no|exact dV.ok ‹_› | exact dV.ok NE.nil|exact dV.ok NT.nil|exact dV.ok (C1.one _)|exact dV.ok C1.nil|exact dV.ok λ_=>rfl|exact fin|exact go|exact go 0|exact go _ _ _ _ _ _ (λx27=>aE (x27.TQ+1))|exact g3|exact hrc _ ‹_› | exact hrc _|exact vg _ ‹_› | exact h1 _ _ _ ‹_› | exact h2 _ _ _ ‹_› | exact h3 _ _ ‹_› | exact h4 _ _ _ ‹_› | exact h5 _ _ _ ‹_› | exact h6 _ _ _ ‹_› | exact awg _ _ _ ‹_› | exact au4 _ _ _ ‹_› | exact awj _ _ ‹_› | exact awh _ _|exact awv _ _ _|exact aww _ _|exact awM _ rfl|exact av9 _ de|exact av9 _ (awx ‹_› (ws1 _))|exact awi _ _|exact awy _ _ _|exact awz _ _ _|exact awN _ rfl|exact h1 _ _ _ _ _|exact h3 _ _ _ _|exact h4 _ _ _ _|exact h5 _ _ _ _|exact h6 _ _ _|exact h6 _ _ _ _|exact h1 _ _ _ h.2|exact h1 _ _ _ h|exact awk _ _ _ _|(refine dV.ok λ_ h=>?_;cases h;done)|(refine dV.ok λ_ h=>?_;cases h;assumption)|refine dV.rg λ_=>?_|refine dV.cb ?_ ?_|refine dV.rq ?_|refine dV.bu (p:=p) ?_ λ_ _=>?_|refine dV.br ?_ λ_ _=>?_|refine dV.bt (c:=c) ?_ λ_ _=>?_|refine dV.bi (c:=c) ?_ λ_ _=>?_|refine dV.bv ?_ λ_ _=>?_|refine dV.bc ?_ λ_ _=>?_|refine dV.bd λ_=>?_|refine dV.ls (c:=c) ‹_› λ_ _ rc' vg=>?_|refine dV.lT λ_ rc hrc=>?_):dV Q x:=h
def J1(c:eS)(F n:Nat):Prop:=(∀l p s,IV c s->dV (λz=>IV c z.2) ((bz F n).1 l p s))/\(∀l p s,IV c s->dV (λz=>IV c z.2) ((bz F n).2.1 l p s))/\(∀l s,IV c s->dV (λz=>IV c z.2) ((bz F n).2.2.1 l s)) /\
 (∀l p s,IV c s->dV (λz=>IV c z.2) ((bz F n).2.2.2.1 l p s))/\(∀l p s,IV c s->dV (λz=>IV c z.2) ((bz F n).2.2.2.2.1 l p s))/\(∀l p s,IV c s->dV (IV c) ((bz F n).2.2.2.2.2 l p s))
theorem al7:∀n,J1 c F n
 | 0=>⟨λ_ _ _ _=>dV.no,λ_ _ _ _=>dV.no,λ_ _ _=>dV.no,λ_ _ _ _=>dV.no,λ_ _ _ _=>dV.no,λ_ _ _ _=>dV.no⟩|n+1=>by
  obtain⟨h1,h2,h3,h4,h5,h6⟩:=al7 n;refine⟨λl p s h=>?_,λl p s h=>?_,λl s h=>?_,λl p s h=>?_,λl p s h=>?_,λl p s h=>?_⟩
  .show dV _ (sr F (bz F n) l p s);unfold sr wx;refine dV.lp (λz=>IV c z.2.2) h λz hz rc hrc=>?_;exact dV.au
  .show dV _ (pG F (bz F n) l p s);unfold pG wx;exact dV.au
  .show dV _ (oh F (bz F n) l s);unfold oh wx;refine dV.bi (h4 _ _ _ h) λz hz=>dV.bd λ_=>dV.cb (dV.ok hz) (dV.lT λ_ rc hrc=>?_);exact dV.au
  .show dV _ (tU F (bz F n) l p s);unfold tU wx;exact dV.au
  .show dV _ (oq F (bz F n) l p s);unfold oq wx;exact dV.au
  .show dV _ (ou F (bz F n) l p s);unfold ou wx;exact dV.au
end
theorem aaK{a b:J Bs}(ha:a≠[])(hb:b≠[])(h1:∀c∈a,p8 c)(h2:∀c∈b,p8 c)(e:di a=di b):a=b:=by grind[B5]
theorem MN:∀(s:Bs),∀p∈cq s,p8 p
 | [],p,hp=>by obtain rfl:=ni.1 hp;intro b hb;cases hb
 | b::l,p,hp=>by
  have ih:=MN l;have hne:=rz l;unfold cq at hp;cases hb:(b==47)with
  | true=>
   rw[hb]at hp;rcases gL.1 hp with rfl|hp
   .intro x hx;cases hx
   .exact ih p hp
  | false=>
   rw[hb]at hp;cases h:cq l with
   | nil=>exact absurd h hne|cons q qs=>
    rw[h]at hp;rcases gL.1 hp with rfl|hp
    .intro x hx;rcases gL.1 hx with rfl|hx
     .simpa using hb
     .exact ih q (by rw[h];simp) x hx
    simp_all
def NoS(o:J (J aA)×J aA):Prop:=(∀c∈o.1,p8 (ef c))/\p8 (ef o.2)
theorem ahf(a b:J aA):ef (a++b)=ef a++ef b:=by unfold ef;rw[Ia]
theorem aoF{a b:Bs}(ha:p8 a)(hb:p8 b):p8 (a++b):=λx hx=>by
 rcases kZ.1 hx with h|h
 .exact ha x h
 .exact hb x h
theorem apB(c:Int):∀(ps:J Bs)(o:J (J aA)×J aA),(∀p∈ps,p8 p)->NoS o->NoS (ps.foldl (Bn c) o)
 | [],o,_,h=>h|q::ps,o,hp,h=>apB c ps _ (λp hq=>hp p (by simp[hq])) ⟨λx hx=>by
   rcases kZ.1 hx with hx|hx
   .exact h.1 x hx
   .obtain rfl:=ni.1 hx;exact h.2,by
   show p8 (ef [aA.mk q c])
   simp_all[SU]⟩
theorem apC:∀(l:J aA)(o:J (J aA)×J aA),NoS o->NoS (l.foldl nS o)
 | [],o,h=>h|r::l,o,h=>apC l _ (by
  unfold nS;cases jg r.aH
  .have hps:=MN r.fText;cases hp:cq r.fText with|nil=>simp_all[rz]|cons p ps=>rw[hp]at hps;refine apB r.aH ps (o.1,o.2++[aA.mk p r.aH]) (λq hq=>hps q (by simp[hq])) ⟨h.1,?_⟩;rw[ahf,SU];exact aoF h.2 (hps p si)
  .exact h)
theorem ZL(l:J aA):∀t∈dD l,p8 (ef t):=by
 have h:=apC l ([],[]) ⟨λc hc=>(by cases hc),λx hx=>(by cases hx)⟩;intro t ht;rcases kZ.1 ht with ht|ht
 .exact h.1 t ht
 .obtain rfl:=ni.1 ht;exact h.2
variable{mt:J aD -> Bs -> Bool}
section
variable {l : J aN}
theorem aeZ(hv:VL l):∀(cs:J aP)(p:Bs),(∀c∈cs,p8 c.aR)->∀w∈W l mt cs p,∀n∈w,p8 n
 | [],p,_,w,hw,n,hn=>by obtain rfl:=ni.1 hw;cases hn
 | c::cs,p,hc,w,hw,n,hn=>by
  have ih:=aeZ hv cs;rw[qp]at hw;cases h1:(!kS l p)<;>rw[h1]at hw
  .cases h2:(!c.dP)<;>rw[h2]at hw
   .grind
   .grind[qN,HQ]
  .cases hw
theorem ajV:∀(cs:J aP)(p:Bs),∀w∈W l mt cs p,Sx w=Sx cs
 | [],p,w,hw=>by obtain rfl:=ni.1 hw;rfl
 | c::cs,p,w,hw=>by have ih:=ajV cs;rw[qp]at hw;grind
theorem ajW{f:Bs->J (J Bs)}:∀ {K:J Bs},K.Nodup->(∀k,(f k).Nodup)->(K.flatMap λn=>(f n).map (n :: ·)).Nodup|[],_,_=>zF|k::K,hK,hf=>by grind
theorem ZM(hv:VL l):∀(cs:J aP)(p:Bs),(W l mt cs p).Nodup
 | [],p=>by show [([]:J Bs)].Nodup;simp
 | c::cs,p=>by
  have ih:=ZM hv cs;rw[qp];cases (!kS l p)
  .cases (!c.dP)
   .grind
   .have hK:(dz l p).Nodup:=(UO hv p).imp λ{a b} hab e=>by grind
    exact ajW (hK.filter _) λk=>ih _
  .exact zF
theorem Sh{f:J Bs->Bs}:∀ {L:J (J Bs)},L.Nodup->(∀a∈L,∀b∈L,f a=f b->a=b)->(L.map f).Nodup
 | [],_,_=>zF|a::L,h,hi=>by obtain⟨h1,h2⟩:=FJ.1 h;rw[jb,FJ];refine⟨λhm=>?_,Sh h2 λx hx y hy=>hi x (by simp[hx]) y (by simp[hy])⟩;obtain⟨b,hb,e⟩:=kq.1 hm;have:=hi a si b (by simp[hb]) e.symm;exact h1 (this▸hb)
theorem ZN:∀(cs:J aP)(p:Bs),Sx (W l mt cs p)<=Sx l^(cs.filter λc=>!c.dP).length\/Sx l=0
 | [],p=>.inl (by simp[W])|c::cs,p=>by
  by_cases h0:Sx l=0
  .exact .inr h0
  have ih:=λq=>(ZN cs q).resolve_right h0;left;rw[qp];cases hd:(!kS l p)
  .cases hl:(!c.dP)
   .grind
   .have hf:((c::cs).filter λc=>!c.dP)=c::cs.filter λc=>!c.dP:=by simp_all
    rw[hf,sB];have h1:=Ys (λn=>(W l mt cs (eP p n)).map (n :: ·)) (Sx l^(cs.filter λc=>!c.dP).length) (λn=>by simp_all) ((dz l p).filter (kM mt c));refine jR h1 (abA _ ?_);unfold dz;grind
  .exact fF _
end
variable{ns:J Bs}
section
variable {l : J aN}
theorem ari{l:J aN}(hv:VL l){n done rest:J Bs}(hn:Names n)(hd:kS l (pathOf n)=eQ)(e:n=done++rest):kS l (pathOf done)=eQ:=by
 have hV:=hv.tree;cases rest with
 | nil=>simp_all|cons c r=>
  unfold kS at hd;cases hf:gy l (pathOf n)with
  | none=>rw[hf]at hd;cases hd
  | some f=>
   obtain⟨h1,h2⟩:=JZ hf;have hdn:Names done:=λx hx=>hn x (by rw[e];simp[hx]);have hp:=hv.path f h1
   obtain⟨p,hp1,hp2,hp3,-⟩:=hV.above (by
    have hl2:(pathOf n).length<=128:=by rw[<-h2];exact hv.small f h1
    refine acw hdn ?_;have:(pathOf done).length<=Sx (pathOf n):=by
     unfold pathOf;have hj:∀(a b:J Bs),Sx (di a)<=Sx (di (a++b)):=by
      intro a
      induction a with
      | nil=>intro b;simp[di]|cons x a ih=>
       intro b;cases a with
       | nil=>cases b with|nil=>simp|cons y b=>simp[di]
       | cons z a=>have:=ih b;simp[di]at this⊢;omega
     simp_all
    omega) h1 (by simp_all[La])
   unfold kS;rw[<-hp2,TX hv.asc hp1];exact hp3
theorem KU{p:Bs}(h:kS l p=eQ):(gy l p).isSome=eQ:=by
 unfold kS at h;cases hf:gy l p with
 | none=>rw[hf]at h;cases h
 | some f=>rfl
theorem al8(hv:VL l){p k:Bs}(h:k∈dz l p):(gy l (eP p k)).isSome=eQ:=by
 obtain⟨f,hf,rfl⟩:=kq.1 h;rw[PR]at hf;have hk:=hf.2;unfold uf at hk;simp only[cH,wL,tv]at hk;obtain⟨-,c,-,-,-,-,e1,e2,-⟩:=Bl (hv.path f hf.1) hk.1;have e3:eP p (mC f.bJ)=f.bJ:=by
  conv=>rhs;rw[e2]
  unfold eP arL;grind
 rw[e3,TX hv.asc hf.1];rfl
theorem ae0(hv:VL l)(hn:Names ns){c:Bs}(hc:p8 c)(hne:c≠[])(h:(gy l (eP (pathOf ns) c)).isSome=eQ):ld c=eQ:=by
 cases hf:gy l (eP (pathOf ns) c)with
 | none=>rw[hf]at h;cases h
 | some f=>
  obtain⟨-,hps,-⟩:=It hv hf;rw[vo hn]at hps;have qq:∀x∈ns++[c],p8 x:=by
   intro x hx;rcases kZ.1 hx with hx|hx
   .exact qN (hn x hx)
   simp_all
  have hpj:cq ((pathOf (ns++[c])).drop 1)=ns++[c]:=B5 (ns++[c]) si qq;have hr:(pathOf (ns++[c])==[47])=eK:=by cases hb:(pathOf (ns++[c])==[47])with|false=>rfl|true=>have e:=eq_of_beq hb;rw[e]at hpj;have:([([]:Bs)]:J Bs)=ns++[c]:=hpj;grind
  obtain⟨h1,-⟩:=yW hps hr;rw[hpj]at h1;exact h1 c si
def ahg(l:J aN)(w ns:J Bs):Prop:=∃ns',o7 w ns=iN ns'/\Names ns'/\(gy l (pathOf ns')).isSome=eQ/\(w.getLast? = iN []->kS l (pathOf ns')=eQ)
theorem ahh(hv:VL l):∀(cs:J aP)(ns:J Bs),Names ns->(∀c∈cs,p8 c.aR)->(gy l (pathOf ns)).isSome=eQ->∀w∈W l mt cs (pathOf ns),ahg l w ns
 | [],ns,hn,_,hs,w,hw=>by obtain rfl:=ni.1 (show w∈[([]:J Bs)]from hw);exact⟨ns,rfl,hn,hs,λh=>by cases h⟩
 | c::cs,ns,hn,hc,hs,w,hw=>by
  have ih:=ahh hv cs;have hcs:∀c∈cs,p8 c.aR:=λx hx=>hc x (by simp[hx]);have hct:=hc c si;have hone:∀(x:Bs)(q:Bs)(n2:J Bs),q=pathOf n2->Names n2->(gy l (pathOf n2)).isSome=eQ->(∀w',o7 (x::w') ns=o7 w' n2)->(x=[]->kS l (pathOf n2)=eQ)->w∈(W l mt cs q).map (x :: ·)->ahg l w ns:=by
   intro x q n2 e h1 h2 h3 h4 hq;subst e;obtain⟨w',hw',rfl⟩:=kq.1 hq;obtain⟨ns',g1,g2,g3,g4⟩:=ih n2 h1 hcs h2 w' hw';refine⟨ns',by rw[h3];exact g1,g2,g3,λaia=>?_⟩;cases w' with
   | nil=>
    have hx:x=[]:=by simpa using aia
    have:n2=ns':=o4 g1;simp_all
   | cons y w'=>simp_all
  rw[qp]at hw;cases h1:(!kS l (pathOf ns))<;>rw[h1]at hw
  .have hd:kS l (pathOf ns)=eQ:=by simpa using h1
   cases h2:(!c.dP)<;>rw[h2]at hw
   .cases h3:(c.aR==[]||c.aR==[46])<;>rw[h3]at hw
    .have hne:c.aR≠[]:=by simp_all
     cases h4:(c.aR==[46,46])<;>rw[h4]at hw
     .cases h5:(gy l (eP (pathOf ns) c.aR)).isNone<;>rw[h5]at hw
      .have hsome:(gy l (eP (pathOf ns) c.aR)).isSome=eQ:=by simp_all
       have hnm:=ae0 hv hn hct hne hsome;refine hone c.aR _ (ns++[c.aR]) (vo hn _) (hn.snoc hnm) (by simp_all[vo]) (λw'=>?_) (λe=>absurd e hne) hw;rw[o7,h3,h4,hnm];rfl
      .cases hw
     .have hdl:kS l (pathOf ns.dropLast)=eQ:=by
       rcases VC ns with rfl|⟨m,x,rfl⟩
       .exact hd
       grind[List.dropLast_concat,ari]
      refine hone c.aR _ ns.dropLast (Iq hn) hn.dropLast (KU hdl) (λw'=>?_) (λe=>absurd e hne) hw;rw[o7,h3,h4];rfl
    .refine hone c.aR _ ns rfl hn hs (λw'=>?_) (λ_=>hd) hw;rw[o7,h3];rfl
   .obtain⟨k,hk,hw⟩:=aby.1 (show w∈((dz l (pathOf ns)).filter (kM mt c)).flatMap _ from hw);have hkm:=(PR.1 hk).1;have hnm:=(HQ hv hkm).1;obtain⟨d1,d2,d3⟩:=Z1 hnm;refine hone k _ (ns++[k]) (vo hn _) (hn.snoc hnm) (by grind[vo,al8]) (λw'=>?_) (λe=>by rw[e]at hnm;cases hnm) hw;rw[o7,d1,d2,d3,hnm];rfl
  .cases hw
end
section
variable {l : J aN}
def NdW(l:J aN)(mt:J aD->Bs->Bool)(cs:J aP)(ns:J Bs):Prop:=((W l mt cs (pathOf ns)).map λw=>o7 w ns).Nodup/\∀w∈W l mt cs (pathOf ns),∃t,o7 w ns=iN (ns++t)
theorem ahi{cs:J aP}{ns:J Bs}(hn:Names ns):∀(K:J Bs),(∀k∈K,ld k=eQ)->K.Nodup->(∀k∈K,NdW l mt cs (ns++[k])) ->
  (((K.flatMap λn=>(W l mt cs (eP (pathOf ns) n)).map (n :: ·))).map λw=>o7 w ns).Nodup/\∀w∈(K.flatMap λn=>(W l mt cs (eP (pathOf ns) n)).map (n :: ·)),∃k∈K,∃t,o7 w ns=iN (ns++k::t)
 | [],_,_,_=>⟨zF,λw hw=>by cases hw⟩
 | k::K,hk,hnd,hI=>by
  obtain⟨h1,h2⟩:=FJ.1 hnd;obtain⟨i1,i2⟩:=ahi hn K (λx hx=>hk x (by simp[hx])) h2 λx hx=>hI x (by simp[hx]);obtain⟨j1,j2⟩:=hI k si;have hkn:=hk k si;obtain⟨d1,d2,d3⟩:=Z1 hkn;have hcl:∀w',o7 (k::w') ns=o7 w' (ns++[k]):=λw'=>by rw[o7,d1,d2,d3,hkn];rfl
  have hj:eP (pathOf ns) k=pathOf (ns++[k]):=vo hn k;have hhead:∀w∈(W l mt cs (eP (pathOf ns) k)).map (k :: ·),∃t,o7 w ns=iN (ns++k::t):=by simp_all
  rw[q8];refine⟨?_,λw hw=>?_⟩
  .rw[lZ,ahD];refine⟨?_,i1,λa ha b hb e=>?_⟩
   .grind
   .subst e;obtain⟨w1,hw1,e1⟩:=kq.1 ha;grind[w2,Option.some.inj,List.append_cancel_left,List.cons.inj]
  grind
theorem atf(hv:VL l):∀(cs:J aP)(ns:J Bs),Names ns->(∀c∈cs,p8 c.aR)->(∀c∈cs,c.dP=eQ->c.aR≠[46,46])->NdW l mt cs ns
 | [],ns,hn,_,_=>⟨by show([o7 [] ns]).Nodup;simp,λw hw=>by
   obtain rfl:=ni.1 (show w∈[([]:J Bs)]from hw)
   exact⟨[],by simp[o7]⟩⟩
 | c::cs,ns,hn,hc,hd=>by
  have ih:=λn2 h=>atf hv cs n2 h (λx hx=>hc x (by simp[hx])) (λx hx=>hd x (by simp[hx]));have hct:=hc c si;have hdt:=hd c si;have hone:∀(q:Bs)(n2 t0:J Bs),q=pathOf n2->Names n2->n2=ns++t0->(∀w',o7 (c.aR::w') ns=o7 w' n2)->((((W l mt cs q).map (c.aR :: ·)).map λw=>o7 w ns).Nodup/\∀w∈(W l mt cs q).map (c.aR :: ·),∃t,o7 w ns=iN (ns++t)):=by intro q n2 t0 e h1 h2 h3;subst e;obtain⟨j1,j2⟩:=ih n2 h1;grind
  have hnil:(([]:J (J Bs)).map λw=>o7 w ns).Nodup/\∀w∈([]:J (J Bs)),∃t,o7 w ns=iN (ns++t):=⟨zF,λw hw=>by cases hw⟩;unfold NdW;rw[qp];cases h1:(!kS l (pathOf ns))
  .cases h2:(!c.dP)
   .have awa:c.dP=eQ:=by simpa using h2
    cases h3:(c.aR==[]||c.aR==[46])
    .have h4:(c.aR==[46,46])=eK:=by simpa using hdt awa
     rw[h4];have hne:c.aR≠[]:=by simp_all
     cases h5:(gy l (eP (pathOf ns) c.aR)).isNone
     .have hsome:(gy l (eP (pathOf ns) c.aR)).isSome=eQ:=by simp_all
      have hnm:=ae0 hv hn hct hne hsome;exact hone _ (ns++[c.aR]) [c.aR] (vo hn _) (hn.snoc hnm) rfl λw'=>by rw[o7,h3,h4,hnm];rfl
     .exact hnil
    .exact hone _ ns [] rfl hn si λw'=>by rw[o7,h3];rfl
   .have hK:(dz l (pathOf ns)).Nodup:=(UO hv _).imp λ{a b} hab e=>by grind
    have hkn:∀k∈(dz l (pathOf ns)).filter (kM mt c),ld k=eQ:=λk hk=>(HQ hv (PR.1 hk).1).1;obtain⟨j1,j2⟩:=ahi (cs:=cs) (mt:=mt) (l:=l) hn _ hkn (hK.filter _) λk hk=>ih (ns++[k]) (hn.snoc (hkn k hk));grind
  .exact hnil
end
theorem al9{α:Type}[BEq α][LawfulBEq α]:∀(a b:J α),a.Nodup->(∀x∈a,x∈b)->a.length<=Sx b
 | [],b,_,_=>by simp|x::a,b,h,hs=>by
  obtain⟨h1,h2⟩:=FJ.1 h;have ih:=al9 a (b.erase x) h2 λy hy=>by grind
  grind
theorem ama{α β:Type}{g:α->β}:∀ {L:J α},(L.map g).Nodup->∀a∈L,∀b∈L,g a=g b->a=b
 | [],_,a,ha,_,_,_=>by cases ha
 | x::L,h,a,ha,b,hb,e=>by
  rw[jb,FJ]at h;rcases gL.1 ha with ha|ha
  .rcases gL.1 hb with hb|hb
   .rw[ha,hb]
   .rw[ha]at e;exact absurd (kq.2 ⟨b,hb,e.symm⟩:g x∈L.map g) h.1
  .rcases gL.1 hb with hb|hb
   .rw[hb]at e;exact absurd (kq.2 ⟨a,ha,e⟩:g x∈L.map g) h.1
   .exact ama h.2 a ha b hb e
theorem ajX{a b:J Bs}(ha:Names a)(hb:Names b)(e:pathOf a=pathOf b):a=b:=by
 have e2:di a=di b:=by simpa[pathOf]using e
 cases a with
 | nil=>cases b with|nil=>rfl|cons y b=>exact absurd e2.symm (SN hb si)
 | cons x a=>cases b with|nil=>exact absurd e2 (SN ha si)|cons y b=>exact aaK si si (λc hc=>qN (ha c hc)) (λc hc=>qN (hb c hc)) e2
theorem ahj{l:J aN}(hv:VL l){cs:J aP}(hn:Names ns)(hc:∀c∈cs,p8 c.aR)(hd:∀c∈cs,c.dP=eQ->c.aR≠[46,46])(hs:(gy l (pathOf ns)).isSome=eQ):(W l mt cs (pathOf ns)).length<=Sx l:=by
 obtain⟨h1,-⟩:=atf (mt:=mt) hv cs ns hn hc hd;have hP:=ahh (mt:=mt) hv cs ns hn hc hs;have hnd:((W l mt cs (pathOf ns)).map λw=>(o7 w ns).elim [] pathOf).Nodup:=by refine Sh (ZM hv cs _) λa ha b hb e=>?_;obtain⟨na,a1,a2,-⟩:=hP a ha;obtain⟨nb,b1,b2,-⟩:=hP b hb;grind[ajX,ama]
 have hsub:∀x∈((W l mt cs (pathOf ns)).map λw=>(o7 w ns).elim [] pathOf),x∈l.map λf=>f.bJ:=by
  intro x hx;obtain⟨w,hw,rfl⟩:=kq.1 hx;obtain⟨n2,a1,a2,a3,-⟩:=hP w hw;cases hf:gy l (pathOf n2)with
  | none=>rw[hf]at a3;cases a3
  | some f=>obtain⟨g1,g2⟩:=JZ hf;grind
 have:=al9 _ _ hnd hsub;simpa using this
def bits(c:J aA):J ei:=c.flatMap Gg
def sg(o:J (J aA)×J aA):J (J ei)×J ei:=(o.1.map bits,bits o.2)
def bst(cl:Int)(o:J (J ei)×J ei)(b:UInt8):J (J ei)×J ei:=cond (b==47) (o.1++[o.2],[]) (o.1,o.2++[ei.mk (b.toNat:Int) (cl != 1)])
theorem Bf(a b:J aA):bits (a++b)=bits a++bits b:=by unfold bits;rw[Ia]
theorem Bg(t:Bs)(cl:Int)(h:jg cl=eK):bits [aA.mk t cl]=t.map λb=>ei.mk (b.toNat:Int) (cl != 1):=by unfold bits;unfold Gg;simp_all
theorem au2(cl:Int)(h:jg cl=eK)(o:J (J aA)×J aA)(b:UInt8):sg (kK cl o b)=bst cl (sg o) b:=by
 unfold kK bst sg;cases (b==47)
 .simp_all[Bf,Bg]
 .show((o.1++[o.2]).map bits,bits [])=_;rw[lZ];rfl
theorem amb(cl:Int)(h:jg cl=eK):∀(t:Bs)(o:J (J aA)×J aA),sg (t.foldl (kK cl) o)=t.foldl (bst cl) (sg o)|[],o=>rfl|b::t,o=>by simp_all[sE,amb,au2]
theorem apD(cl:Int):∀(ps:J Bs)(o o':J (J aA)×J aA),sg o=sg o'->sg (ps.foldl (Bn cl) o)=sg (ps.foldl (Bn cl) o')
 | [],o,o',h=>h|q::ps,o,o',h=>by refine apD cl ps _ _ ?_;have h1:o.1.map bits=o'.1.map bits:=congrArg (·.1) h;have h2:bits o.2=bits o'.2:=congrArg (·.2) h;unfold Bn sg;simp_all
theorem ajY(cl:Int)(h:jg cl=eK):∀(t:Bs)(o:J (J aA)×J aA),sg (pcP cl o (cq t))=t.foldl (bst cl) (sg o)
 | [],o=>by show sg (o.1,o.2++[aA.mk [] cl])=sg o;unfold sg;simp_all[Bf,Bg]
 | b::t,o=>by
  have hne:=rz t;rw[sE];unfold cq;cases hb:(b==47)with
  | true=>
   have ih:=ajY cl h t (o.1++[o.2++[aA.mk [] cl]],[]);have e:sg (o.1++[o.2++[aA.mk [] cl]],[])=bst cl (sg o) b:=by unfold sg bst;rw[hb,lZ,jb,Bf,Bg _ _ h];simp[bits]
   rw[e]at ih;rw[<-ih];cases hp:cq t with|nil=>exact absurd hp hne|cons p ps=>rfl
  | false=>
   have ih:=ajY cl h t (o.1,o.2++[aA.mk [b] cl]);have e:sg (o.1,o.2++[aA.mk [b] cl])=bst cl (sg o) b:=by unfold sg bst;rw[hb,Bf,Bg _ _ h];rfl
   rw[e]at ih;rw[<-ih];cases hp:cq t with|nil=>exact absurd hp hne|cons p ps=>refine apD cl ps _ _ ?_;unfold sg;rw[Bf,Bf,Bf,Bg _ _ h,Bg _ _ h,Bg _ _ h];simp
theorem au3(r:aA)(o o':J (J aA)×J aA)(h:sg o=sg o'):sg (vc o r)=sg (nS o' r):=by unfold vc nS;show sg (cond (jg r.aH) o _)=_;cases hc:jg r.aH with|true=>exact h|false=>simp_all[aI,amb,ajY]
theorem apE:∀(l:J aA)(o o':J (J aA)×J aA),sg o=sg o'->sg (l.foldl vc o)=sg (l.foldl nS o')|[],o,o',h=>h|r::l,o,o',h=>apE l _ _ (au3 r o o' h)
theorem ahk(l:J aA):(iV l).map bits=(dD l).map bits:=by have h:=apE l ([],[]) ([],[]) rfl;have h1:(gA l).1.map bits=(E7 l).1.map bits:=congrArg (·.1) h;have h2:bits (gA l).2=bits (E7 l).2:=congrArg (·.2) h;unfold iV dD;simp_all
theorem abm(F:Nat)(c t:J aA)(e:bits c=bits t)(c1:Sx c<F)(c2:bH c<F)(c3:Sx c<1000000000)(c4:bH c<=1000000000)(t1:Sx t<F)(t2:bH t<F)(t3:Sx t<1000000000)(t4:bH t<=1000000000):fM F c=fM F t:=by unfold fM wx;rw[Ez F c c1 c2 c3 c4,Ez F t t1 t2 t3 t4,show c.flatMap Gg=t.flatMap Gg from e]
theorem ZO(hF:100000000<=F)(c t:J aA)(e:bits c=bits t)(c1:Sx c<=10000)(c2:bH c<=10000)(t1:Sx t<=10000)(t2:bH t<=10000):∃x,fM F c=iN ((cD F) t)/\jo F ((cD F) t)=iN (x,(cL F) t):=by obtain⟨p,h1,h2⟩:=Wc F t om om om om;grind[HS,Option.some.inj,YC,abm,T7]
theorem ae1(F:Nat)(x:J fK)(i:Nat)(hF:Sx x+1000<F)(hx:Sx x<100000)(hc:Qj x)(hi:i<Sx x):
  ∃r:aD×Int×Bool,(r.2.2=eQ->r.1.fKind=4)/\lR F x (i:Int)=iN r:=by
 unfold lR wx;have hw1:aE ((i:Int)+1)=((i+1:Nat):Int):=bM om;rw[hw1,fL,aC,fL,aC,aG,aC,bM om,aG];obtain⟨s0,hs0,hs1,hs2⟩:∃s0:Nat,cond (cond (dY x (i+1) 33) eQ (dY x (i+1) 94)) (((i+1+1:Nat):Int)) ((i+1:Nat):Int)=(s0:Int)/\i<s0/\s0<=i+2:=by
  cases (cond (dY x (i+1) 33) eQ (dY x (i+1) 94))
  .exact⟨i+1,rfl,om,om⟩
  .exact⟨i+2,rfl,om,om⟩
 rw[hs0];refine eR _ (λs=>∃k:Nat,s.1=(k:Int)/\i<k/\k<=Sx x+2/\s.2.2.length=256) (λs=>Sx x+2-s.1.toNat) ?_ F _ ⟨s0,rfl,hs1,om,si⟩ aM;rintro⟨ii,fi,st⟩ ⟨k,h0,hk,hk2,hl⟩ rc hrc;subst h0;by_cases ug:k<Sx x
 .rw[b9 om,fL,aC,aG,aC];have e2:cond (dY x k 93) (!fi,st) (eK,st)=((dY x k 93 && !fi),st):=by cases dY x k 93<;>rfl
  rw[e2];cases (dY x k 93 && !fi)with
  | true=>obtain⟨l,h1,h2⟩:=Z4 F st om hl;simp_all[aQ,cy,aC]
  | false=>obtain⟨r,⟨e,h1,h2,h3,h4⟩,h5⟩:=V3 F x k st om om hc ug hl;rw[aI,h5];exact hrc _ ⟨e,h1,om,om,h4⟩ (by grind)
 simp_all[cf]
theorem abn(F:Nat)(l:J aA)(hF:Sx l<F)(oN:bH l+1000<F)(h1:Sx l<1000000000)(h2:bH l<=10000):∃p:J aD,(p.all Bp=eQ->p=(l.flatMap nj).map λe=>pb e.fb)/\eu F l=iN p:=by
 unfold eu wx;rw[DR F l hF om h1 om,aC];have hx:(l.flatMap nj).length<=bH l:=xP _ HP _;have hc:=UP l;generalize(l.flatMap nj)=x at hx hc;refine eR _ (λs:J aD×Int=>∃k:Nat,s.2=(k:Int)/\k<=Sx x/\s.1.length<=k/\(s.1.all Bp=eQ->s.1=(x.take k).map λe=>pb e.fb)) (λs=>Sx x-s.2.toNat) ?_ F _ ⟨0,rfl,om,si,λ_=>by simp⟩ aM;rintro⟨acc,ii⟩ ⟨k,h0,hk,ha,hit⟩ rc hrc;dsimp only at h0 ha hit⊢;subst h0;have DT:∀(it:aD)(e:Nat),Bp it=eK->k<e->e<=Sx x->∃p:J aD,(p.all Bp=eQ->p=x.map λe=>pb e.fb)/\rc (acc++[it],(e:Int))=iN p:=by intro it e h3 h4 h5;refine hrc _ ⟨e,rfl,h5,aM,λhall=>?_⟩ aM;simp_all
 by_cases ug:k<Sx x
 .rw[b9 om]
  have eU:∃p:J aD,(p.all Bp=eQ->p=x.map λe=>pb e.fb)/\((eZ F x (k:Int) 42).bind λx7=>
    cond x7
    (rq ((eJ (Sx acc+Sx ([(aD.mk 3 [] eK [])]:J aD)<=9223372036854775807))&&(eJ ((Sx acc+Sx ([(aD.mk 3 [] eK [])]:J aD))*56<=140737488355328))) (rc (acc++([(aD.mk 3 [] eK [])]:J aD),aE ((k:Int)+1))))
    ((eZ F x (k:Int) 63).bind λx8=>
    cond x8
    (rq ((eJ (Sx acc+Sx ([(aD.mk 2 [] eK [])]:J aD)<=9223372036854775807))&&(eJ ((Sx acc+Sx ([(aD.mk 2 [] eK [])]:J aD))*56<=140737488355328))) (rc (acc++([(aD.mk 2 [] eK [])]:J aD),aE ((k:Int)+1))))
    (rq ((eJ (0<=(k:Int)))&&(eJ ((k:Int)<(Sx x:Int)))) (rq ((eJ (Sx acc+Sx ([(aD.mk 1 (cu ([(x.getD (eI (k:Int)) cO).fb]:J Int)) eK [])]:J aD)<=9223372036854775807))&&(eJ ((Sx acc+Sx ([(aD.mk 1 (cu ([(x.getD (eI (k:Int)) cO).fb]:J Int)) eK [])]:J aD))*56<=140737488355328))) (rc (acc++([(aD.mk 1 (cu ([(x.getD (eI (k:Int)) cO).fb]:J Int)) eK [])]:J aD),aE ((k:Int)+1)))))))=iN p:=by
   rw[fL,aC,fL,aC,dn aM om,dn aM om,bp ug,dn aM om,bM om,bN];cases dY x k 42 with
   | true=>exact DT _ _ rfl om om|false=>cases dY x k 63 with|true=>exact DT _ _ rfl om om|false=>refine hrc _ ⟨k+1,rfl,om,aM,λhall=>?_⟩ aM;rw[List.all_append,cH]at hall;rw[hit hall.1,ku ug,lZ,gd ug];rfl
  rw[fL,aC];cases dY x k 91 with
  | false=>exact eU|true=>
   obtain⟨r,h3,h4⟩:=K6 F x k om om hc ug;obtain⟨r',h3',h4'⟩:=ae1 F x k om om hc ug;have hrr:r'=r:=o4 (h4'.symm.trans h4);subst hrr;rw[aQ,h4,aC];cases h5:r'.2.2 with
   | false=>exact eU|true=>obtain⟨g1,e,g2,g3,g4⟩:=h3 h5;rw[aQ,dn aM om,g2];obtain⟨p,hp,hq⟩:=DT r'.1 e (by unfold Bp;rw[h3' h5];rfl) g3 g4;rw[hq];exact⟨p,hp,rfl⟩
 grind
def ajZ(o:J (J aA)×J aA):Prop:=(∀c∈o.1,∀r∈c,jg r.aH=eK)/\∀r∈o.2,jg r.aH=eK
theorem amc(c:Int)(hc:jg c=eK):∀(ps:J Bs)(o:J (J aA)×J aA),ajZ o->ajZ (ps.foldl (Bn c) o)
 | [],o,h=>h|q::ps,o,h=>amc c hc ps _ ⟨λx hx=>by
   rcases kZ.1 hx with hx|hx
   .exact h.1 x hx
   .obtain rfl:=ni.1 hx;exact h.2,λr hr=>by
   obtain rfl:=ni.1 hr;exact hc⟩
theorem amd:∀(l:J aA)(o:J (J aA)×J aA),ajZ o->ajZ (l.foldl nS o)
 | [],o,h=>h|r::l,o,h=>amd l _ (by
  unfold nS;cases hc:jg r.aH
  .cases hp:cq r.fText with
   | nil=>simp_all[rz]|cons p ps=>
    refine amc r.aH hc ps (o.1,o.2++[aA.mk p r.aH]) ⟨h.1,λx hx=>?_⟩;rcases kZ.1 hx with hx|hx
    .exact h.2 x hx
    simp_all
  .exact h)
theorem ame(l:J aA):∀t∈dD l,∀r∈t,jg r.aH=eK:=by
 have h:=amd l ([],[]) ⟨λc hc=>(by cases hc),λr hr=>(by cases hr)⟩;intro t ht;rcases kZ.1 ht with ht|ht
 .exact h.1 t ht
 .obtain rfl:=ni.1 ht;exact h.2
theorem amf:∀(t:J aA),(∀r∈t,jg r.aH=eK)->Ca ((t.flatMap nj).map λe=>pb e.fb)=ef t
 | [],_=>rfl|r::t,h=>by
  have ih:=amf t λx hx=>h x (by simp[hx]);have hc:=h r si;rw[q8,lZ];have e:Ca ((nj r).map λe=>pb e.fb)=r.fText:=by
   unfold nj;rw[hc,aI,xu];unfold Ca;rw[ahz]
   conv=>rhs;rw[<-List.flatMap_singleton' r.fText]
   refine congrArg (λf=>List.flatMap f r.fText) (funext λb=>?_);show cu [(b.toNat:Int)]=[b];simp[cu]
  have e2:∀a b:J aD,Ca (a++b)=Ca a++Ca b:=λa b=>by unfold Ca;rw[Ia]
  rw[e2,e,ih];unfold ef;rw[q8]
theorem ae2(hF:100000000<=F)(t:J aA)(h1:Sx t<=10000)(h2:bH t<=10000)(hcl:∀r∈t,jg r.aH=eK)(h:(cL F) t=eQ):jo F ((cD F) t)=iN (ef t,eQ):=by
 obtain⟨g1,g2,g3⟩:=HS hF t h1 h2;obtain⟨b,hb⟩:=E6 F ((cD F) t) om om g2;have hl:=T6 F ((cD F) t) om om g2 hb;obtain⟨x,hx⟩:=YC hF t h1 h2;rw[<-T7 F ((cD F) t) om om g2];rw[hl]at hx;have he:=o4 hx;unfold Ql at he;cases ha:(((cD F) t).all Bp&&b)with
 | false=>simp_all|true=>
  obtain⟨p,hp1,hp2⟩:=abn F t om om om om;have V7:=o4 (hp2.symm.trans g1);have h3:Ca ((cD F) t)=ef t:=by simp_all[amf]
  simp_all
def xl(F:Nat)(t:J aA):Bool:=!(cL F) t
def GF(F:Nat)(t:J aA):Bool:=(cL F) t&&ef t==[46,46]
theorem agl(hF:100000000<=F)(r:J aA)(h1:Sx r<=10000)(h2:bH r<=3000):qb F r=iN (eJ (Sx ((dD r).filter (xl F))<=2)||((dD r).filter (GF F)).length==0):=by
 have hmap:=ahk r;have hlen:(iV r).length=Sx (dD r):=by have:=congrArg Sx hmap;simpa using this
 have hcl:=acG r;have am1:∀k,∀hk:k<Sx (dD r),∃x,fM F ((iV r).getD k [])=iN ((cD F) (dD r)[k])/\jo F ((cD F) (dD r)[k])=iN (x,(cL F) (dD r)[k])/\((cL F) (dD r)[k]=eQ->x=ef (dD r)[k]):=by
  intro k hk;have hk':k<Sx (iV r):=om;have e:bits (iV r)[k]=bits (dD r)[k]:=by have:=congrArg (λL=>L[k]?) hmap;grind
  have c1:=acX r _ (fW hk');have t1:=Wb (l:=r) _ (fW hk);have t2:=(SV (l:=r)).2 _ (fW hk);obtain⟨x,g1,g2⟩:=ZO hF (iV r)[k] (dD r)[k] e om om om om;rw[gd hk'];refine⟨x,g1,g2,λhl=>?_⟩;have h3:=ae2 hF (dD r)[k] om om (ame r _ (fW hk)) hl;simp_all
 unfold qb JN wx;rw[bX om om,aC,hlen];refine bW (λx:Int×Int×Int=>∃k:Nat,x=((Sx (((dD r).take k).filter (xl F)):Int),(Sx (((dD r).take k).filter (GF F)):Int),(k:Int))/\k<=Sx (dD r)) (λx=>Sx (dD r)-x.2.2.toNat) ?_ F _ ⟨0,si,om⟩ aM;rintro x ⟨k,rfl,hk⟩;dsimp only;have hw:=MY (xl F) ((dD r).take k);have hu:=MY (GF F) ((dD r).take k);rw[pX]at hw hu;by_cases hk:k<Sx (dD r)
 .left;obtain⟨x,g1,g2,g3⟩:=am1 k hk;refine⟨_,⟨k+1,rfl,om⟩,aM,λrc=>?_⟩;rw[b9 om,bp hk,bN,g1,aC,g2,aC,bM om,bM om,bM om,ku hk,Sw,Sw];cases hl:(cL F) (dD r)[k]with
  | false=>
   have e1:(xl F) (dD r)[k]=eQ:=by unfold xl;rw[hl];rfl
   have e2:(GF F) (dD r)[k]=eK:=by unfold GF;rw[hl];rfl
   simp[e1,e2]
  | true=>
   have hx:=g3 hl;subst hx;have e1:(xl F) (dD r)[k]=eK:=by unfold xl;rw[hl];rfl
   have e2:(GF F) (dD r)[k]=(ef (dD r)[k]==[46,46]):=by unfold GF;rw[hl];rfl
   grind
 .right;obtain rfl:k=Sx (dD r):=om;intro rc;rw[cf om,aG,aC,nW];congr 1;grind
variable{cwd:Bs}
theorem Yb(hc:gm cwd=eQ)(f:Bs):∃ns,Names ns/\kC cwd f=pathOf ns:=by
 unfold kC;cases (f.take 1==[47])with
 | true=>exact⟨[],λc h=>(by cases h),rfl⟩
 | false=>grind[S0]
theorem arj(hF:100000000<=F){l:J aN}(hv:VL l)(o6:Sx l<=40)(hc:gm cwd=eQ)(r:J aA)(hb:(eJ (Sx ((dD r).filter (xl F))<=2)||((dD r).filter (GF F)).length==0)=eQ)(f:Bs):
  (W l (nk F) (partsOf (cD F) (cL F) r) (kC cwd f)).length<=1600:=by
 rw[KW,fO]at hb;rcases hb with hb|hb
 .have hf:((partsOf (cD F) (cL F) r).filter λc=>!c.dP).length=Sx ((dD r).filter (xl F)):=by unfold partsOf;rw[List.filter_map,gP];rfl
  rcases ZN (l:=l) (mt:=(nk F)) (partsOf (cD F) (cL F) r) (kC cwd f)with h|h
  .rw[hf]at h;have hp:=hv.pos;have h2:=abt hp hb;have h3:=Nat.pow_le_pow_left o6 2;omega
  .have:=hv.pos;omega
 .obtain⟨ns,hn,e⟩:=Yb hc f;rw[e];cases hd:kS l (pathOf ns)with
  | true=>
   refine jR (ahj hv hn (λc hcm=>?_) (λc hcm hl=>?_) (KU hd)) om
   .obtain⟨t,ht,rfl⟩:=kq.1 hcm;exact ZL r t ht
   .obtain⟨t,ht,rfl⟩:=kq.1 hcm;intro e2
    have hm:t∈(dD r).filter (GF F):=PR.2 ⟨ht,by
     unfold GF;rw[show(cL F) t=eQ from hl,show ef t=[46,46]from e2];rfl⟩
    simp_all
  | false=>
   have hne:partsOf (cD F) (cL F) r≠[]:=by unfold partsOf dD;simp
   cases hp:partsOf (cD F) (cL F) r with|nil=>exact absurd hp hne|cons c cs=>simp_all[qp,fF]
def uO(l:J bP):Bs:=cond ((jG l [73,70,83]).2&&(jG l [73,70,83]).1.cJ) (jG l [73,70,83]).1.cg [32,9,10]
theorem awb(F:Nat)(l:J bP)(hF:1000<F)(hl:Sx l<=128):((yD F l ([73,70,83]:Bs)).bind λx3=>(cond x3.2 (iN x3.1.cJ) (iN eK):O Bool).bind λx4=>cond x4 (iN x3.1.cg) (iN ([32,9,10]:Bs)):O Bs)=iN (uO l):=by rw[ajN F _ _ om om];unfold uO;grind
theorem atg(F:Nat)(l:J bP)(hF:1000<F)(hl:Sx l<=128):Fx F l=iN (uO l):=by
 unfold Fx wx;rw[Ao F _ _ om om];unfold uO;have:(jG l [73,70,83]).2=eK->(jG l [73,70,83]).1.cJ=eK:=by
  unfold jG;cases l.find? λv=>v.fName==[73,70,83]with
  | none=>intro _;rfl|some v=>intro h;cases h
 grind
theorem ae3{l:J bP}(h:GV l):(uO l).length<=5000:=by unfold uO;grind[SI]
def BF(F:Nat)(f:J aA):Prop:=Sx f<=10000/\bH f<=3000/\(eJ (Sx ((dD f).filter (xl F))<=2)||((dD f).filter (GF F)).length==0)=eQ
def Dy(F:Nat)(fl:J aN)(e:eS)(f:J aA):J Bs:=cond (lP .i64 e.gw 8 != 0) [ef f] (FP fl (nk F) (cD F) (cL F) e.ud f)
def pI(F:Nat)(fl:J aN)(s:aY)(r:J aA):J Bs:=(lX r (uO s.bI.bR)).flatMap (Dy F fl s.bI)
variable{a:J iI}{w:gj}{o:J Bs}
theorem amg(hF:100000000<=F)(hv:VL fl)(o6:Sx fl<=40)(hc:gm cwd=eQ){f:J aA}(hb:BF F f):pM F fl cwd f=iN (FP fl (nk F) (cD F) (cL F) cwd f,0)/\(FP fl (nk F) (cD F) (cL F) cwd f).length<=1600:=by have hWs:=arj hF hv o6 hc f hb.2.2 (ig f);refine⟨aio hF hv hc hb.1 hb.2.1 om,?_⟩;unfold FP;cases ((dD f).all (cL F)||(W fl (nk F) (partsOf (cD F) (cL F) f) (kC cwd (ig f))).isEmpty)with|true=>simp|false=>rw[aI,(sY _).length_eq,gP];exact hWs
def WO(F:Nat)(fl:J aN)(r:J aA)(s:aY)(z:J Bs×Bool×aO):Prop:=(stop s=eQ/\z.2.1=eK/\Fin z.2.2 s)\/(stop s=eK/\((z.2=(eQ,iL fl s)/\z.1=pI F fl s r/\z.1.length<=7000000)\/(z.2=(eK,{iL fl s with yx:=4})/\512<Sx (pI F fl s r))))
theorem apF(hN:NC<=F)(hF:100000000<=F)(hv:VL fl)(o6:Sx fl<=40)(w:gj)(hw:gv w.fParts<=200)(h:mG s)(hs:stop s=eK)(hc:gm s.bI.ud=eQ):
  ∃y:J aA×aY,gO F w.fParts (dm.mk eK eK eQ) s=iN y/\mG y.2/\gm y.2.bI.ud=eQ/\RB (gv w.fParts) y.1/\((stop y.2=eK->∀f∈lX y.1 (uO y.2.bI.bR),BF F f)->aB (WO F fl y.1 y.2) (nL F w (iL fl s))):=by
 obtain⟨⟨r1,ok1,x1⟩,⟨r',s'⟩,⟨g1,g2,g3⟩,e1,e2⟩:=apx (fl:=fl) hN hF (ag9 _ hF) F F w.fParts (dM.mk eK eQ 0) (dm.mk eK eK eQ) s ⟨rfl,rfl⟩ h hs om om om;have hi:IV {s.bI with bR:=[]} s':=(al7 F).1 _ _ _ rfl _ e2;have tM:gm s'.bI.ud=eQ:=by have q:=congrArg eS.ud (show({s'.bI with bR:=[]}:eS)={s.bI with bR:=[]}from hi);simp_all
 refine⟨(r',s'),e2,g1,tM,g2,λhB=>?_⟩;unfold nL wx;rw[show BE F w.fParts (dM.mk eK eQ 0) (iL fl s)=iN (r1,ok1,x1)from e1,aC];dsimp only at g1 g2 g3 hB⊢;rcases g3 with⟨st,a1,j1⟩|⟨st,a1,a2,-⟩
 .cases a1;have q1:r1=r':=j1.2 λ_=>rfl;subst q1;have hvl:Sx s'.bI.bR<=128:=g1.1.1.1.1;have b1:=g2.1;have b2:=g2.2;have hx:(iL fl s').bI=s'.bI:=rfl;have hxf:(iL fl s').XM=fl:=rfl;simp only[hx,hxf];rw[fU,aI,awb F _ om hvl,aC,aq8 F r1 _ hF om om,aC];obtain⟨f1,f2⟩:=Ow r1 (uO s'.bI.bR) om om;have Cv:=hB st;have hfw:pI F fl s' r1=(lX r1 (uO s'.bI.bR)).flatMap (Dy F fl s'.bI):=rfl;unfold WO;rw[hfw];generalize lX r1 (uO s'.bI.bR)=fs at f1 f2 Cv;have hT:∀k (hk:k<Sx fs),qC F fs[k]=iN (ef fs[k]):=λk hk=>by grind[List.getElem_mem,Is]
  refine aB.lp (λa:Int=>∃k:Nat,a=(k:Int)/\k<=Sx fs) (λa=>Sx fs-a.toNat) ⟨0,rfl,Nat.zero_le _⟩ (by grind) ?_;rintro _ ⟨k,rfl,hk⟩ rc hrc;by_cases hk:k<Sx fs
  .have hb:=(Cv _ (fW hk)).2.1;rw[b9 om,bp hk,bN,gd hk,hT k hk,aC,cf (by rw[oA];omega),bM om];exact hrc _ ⟨k+1,rfl,hk⟩ aM
  .rw[cf om];refine aB.lp (λa:J Bs×Int=>∃k:Nat,a.2=(k:Int)/\k<=Sx fs/\a.1=(fs.take k).flatMap (Dy F fl s'.bI)/\a.1.length<=512+k) (λa=>Sx fs-a.2.toNat) ⟨0,rfl,Nat.zero_le _,rfl,si⟩ (by grind) ?_;rintro⟨o,_⟩ ⟨k,rfl,hk,ho,hl⟩ rc hrc;dsimp only at ho hl hrc⊢;by_cases hk:k<Sx fs
   .have hn:(fs.take (k+1)).flatMap (Dy F fl s'.bI)=o++Dy F fl s'.bI fs[k]:=by simp_all[uV]
    have hle:((fs.take (k+1)).flatMap (Dy F fl s'.bI)).length<=Sx (fs.flatMap (Dy F fl s'.bI)):=by grind[List.take_append_drop,List.length_append]
    rw[b9 om,bp hk,bN,gd hk,bM om];have OI:Dy F fl s'.bI fs[k]=cond (lP .i64 s'.bI.gw 8 != 0) [ef fs[k]] (FP fl (nk F) (cD F) (cL F) s'.bI.ud fs[k]):=rfl;rw[OI]at hn;cases hg:(lP .i64 s'.bI.gw 8 != 0)with
    | true=>rw[hg,aQ]at hn;rw[aQ,hT k hk,aC];exact aB.rq (o5 (by grind) de) (hrc _ ⟨k+1,rfl,hk,hn.symm,aM⟩ aM)|false=>rw[hg,aI]at hn;obtain⟨x1,x2⟩:=amg hF hv o6 tM (Cv _ (fW hk));rw[aI,x1,aC];dsimp only;rw[show((0:Int) != 0)=eK from rfl,aI];refine aB.rq (o5 om de) (aB.cd (λaoG=>aB.ok (.inr ⟨st,.inr ⟨rfl,?_⟩⟩)) λaoG=>hrc _ ⟨k+1,rfl,hk,hn.symm,by dsimp only;omega⟩ aM);grind
   .rw[cf om];grind[aB.ok,List.take_of_length_le]
 .have a1:ok1=eK:=a1;subst a1;exact aB.ok (.inl ⟨st,rfl,a2⟩)
def Ox(s:aY)(e:Int):aY:={s with fe:=e,fX:=[]}
def wR(F:Nat)(fl:J aN):J gj->J Bs->aY->J Bs×aY|[],o,s=>(o,s)|w::l,o,s=>(gO F w.fParts (dm.mk eK eK eQ) s).elim ([],Ox s 4) λy=>cond (stop y.2) ([],y.2) (cond (eJ (512<Sx (o++pI F fl y.2 y.1))) ([],Ox y.2 4) (wR F fl l (o++pI F fl y.2 y.1) y.2))
def BW(F:Nat):J gj->aY->Prop|[],_=>True|w::l,s=>∀y,gO F w.fParts (dm.mk eK eK eQ) s=iN y->stop y.2=eK->(∀f∈lX y.1 (uO y.2.bI.bR),BF F f)/\BW F l y.2
def BX(F:Nat)(fl:J aN):J gj->J Bs->aY->Prop|[],_,_=>True|w::l,o,s=>∀y,gO F w.fParts (dm.mk eK eK eQ) s=iN y->stop y.2=eK->(∀f∈lX y.1 (uO y.2.bI.bR),BF F f)/\(¬ 512<Sx (o++pI F fl y.2 y.1)->BX F fl l (o++pI F fl y.2 y.1) y.2)
theorem apG:∀(l:J gj)(o:J Bs)(s:aY),BW F l s->BX F fl l o s|[],_,_,_=>trivial|w::l,o,s,h=>λy hy hs=>⟨(h y hy hs).1,λ_=>apG l _ _ (h y hy hs).2⟩
def WS(F:Nat)(fl:J aN)(l:J gj)(o:J Bs)(s:aY):Prop:=mG s/\stop s=eK/\gm s.bI.ud=eQ/\BX F fl l o s
theorem Oy(h:mG s)(hs:stop s=eK):mG (Ox s 4)/\stop (Ox s 4)=eQ/\Fin {iL fl s with yx:=4} (Ox s 4):=by obtain⟨f1,f2⟩:=failed (e:=4) hs de;have f3:=On h 4 [];rw[hs]at f1 f2 f3;exact⟨f3,f1,f2⟩
theorem amh(hN:NC<=F)(hF:100000000<=F)(hv:VL fl)(o6:Sx fl<=40)(hw:gv w.fParts<=200){l:J gj}(h:WS F fl (w::l) o s):
  ∃y:J aA×aY,gO F w.fParts (dm.mk eK eK eQ) s=iN y/\mG y.2/\(stop y.2=eK->¬ 512<Sx (o++pI F fl y.2 y.1)->WS F fl l (o++pI F fl y.2 y.1) y.2)/\RB (gv w.fParts) y.1/\aB (WO F fl y.1 y.2) (nL F w (iL fl s)):=by
 obtain⟨h1,h2,h3,h4⟩:=h;obtain⟨y,e1,e2,e3,e4,e5⟩:=apF hN hF hv o6 w hw h1 h2 h3;exact⟨y,e1,e2,λhs h5=>⟨e2,hs,e3,(h4 y e1 hs).2 h5⟩,e4,e5 λhs=>(h4 y e1 hs).1⟩
theorem Si{l:J gj}{y:J aA×aY}(h:gO F w.fParts (dm.mk eK eK eQ) s=iN y):
  wR F fl (w::l) o s=cond (stop y.2) ([],y.2) (cond (eJ (512<Sx (o++pI F fl y.2 y.1))) ([],Ox y.2 4) (wR F fl l (o++pI F fl y.2 y.1) y.2)):=by
 rw[wR,h];rfl
theorem ath(hN:NC<=F)(hF:100000000<=F)(hv:VL fl)(o6:Sx fl<=40)(l:J gj)(hl:Sx l<=1000)(hw:∀y∈l,gv y.fParts<=200)(h:WS F fl l [] (s0 e a)):
  rZ F e fl l a=iN (Be (wR F fl l [] (s0 e a)).2 (wR F fl l [] (s0 e a)).1):=by
 unfold rZ C6 wx;refine bW (λz:J Bs×Int×aO=>∃(k:Nat)(s:aY),k<=Sx l/\z.2=((k:Int),iL fl s)/\WS F fl (l.drop k) z.1 s/\z.1.length<=512/\wR F fl (l.drop k) z.1 s=wR F fl l [] (s0 e a)) (λz=>Sx l-z.2.1.toNat) ?_ F _ ⟨0,s0 e a,fF _,rfl,h,fF _,rfl⟩ aM;rintro⟨o,_⟩ ⟨k,s,h3,h4,h5,h6,h7⟩;dsimp only at h4 h5 h6 h7⊢;cases h4;by_cases hk:k<Sx l
 .have hd:=tu hk;rw[hd]at h5 h7;obtain⟨y,e1,e2,e3,-,⟨fd,ok,x⟩,e4,e5⟩:=amh (fl:=fl) hN hF hv o6 (hw _ (fW hk)) h5;rw[Si e1]at h7;rcases e4 with⟨st,a1,a2⟩|⟨st,⟨a1,a2,a3⟩|⟨a1,a2⟩⟩
  .right;intro rc;subst a1;rw[b9 om,bp hk,bN,gd hk,e5,aC];rw[aI,aC,aI,aC,nu,aQ,Vx F e2 a2 om [] [] st,aC,<-h7,st];rfl
  .cases a1;have a2:fd=pI F fl y.2 y.1:=a2;rw[<-a2]at e3;rw[st,aI,<-a2]at h7;have ati:aE ((Sx o:Int)+(Sx fd:Int))=((Sx o+Sx fd:Nat):Int):=by grind[bQ]
   have hlen:(o++fd).length=Sx o+Sx fd:=ov;by_cases aoG:512<Sx o+Sx fd
   .right;intro rc;rw[dT om,aQ]at h7;obtain⟨f1,f2,f3⟩:=Oy (fl:=fl) e2 st;rw[b9 om,bp hk,bN,gd hk,e5,aC];rw[ati,aQ,aC,b9 om,auQ,aC,aC];rw[nu,aQ,Vx F f1 f3 om [] [] f2,aC,<-h7]
   .left;rw[dF om,aI]at h7;refine⟨(o++fd,((k+1:Nat):Int),iL fl y.2),⟨k+1,y.2,hk,rfl,e3 st om,by grind,h7⟩,aM,λrc=>?_⟩;rw[b9 om,bp hk,bN,gd hk,e5,aC];rw[ati,aQ,aC,cf om,aC];rw[fU,aI,dn om de,bM om]
  .right;intro rc;cases a1;rw[st,cond_false,dT (by grind),cond_true]at h7;obtain⟨f1,f2,f3⟩:=Oy (fl:=fl) e2 st;rw[b9 om,bp hk,bN,gd hk,e5,aC];dsimp only;rw[aI,aC,aI,aC];dsimp only;rw[nu,aQ,Vx F f1 f3 om [] [] f2,aC,<-h7]
 .right;intro rc;rw[Su om]at h7;rw[cf om,atc F fl h5.1 h5.2.1 om,aC,<-h7];rfl
theorem ahl(hN:NC<=F)(hF:100000000<=F)(hv:VL fl)(o6:Sx fl<=40):∀(l:J gj)(o:J Bs)(s:aY),(∀y∈l,gv y.fParts<=200)->WS F fl l o s->Sx o<=512->mG (wR F fl l o s).2/\(wR F fl l o s).1.length<=512/\(stop (wR F fl l o s).2=eK->gm (wR F fl l o s).2.bI.ud=eQ)
 | [],o,s,hw,h,ho=>⟨h.1,ho,λ_=>h.2.2.1⟩|w::l,o,s,hw,h,ho=>by
  obtain⟨y,e1,e2,e3,-,-⟩:=amh hN hF hv o6 (hw _ wK) h;rw[Si e1];cases st:stop y.2 with
  | true=>simp_all|false=>
   by_cases aoG:512<Sx (o++pI F fl y.2 y.1)
   .obtain⟨f1,f2,f3⟩:=Oy (fl:=fl) e2 st;simp_all
   simp_all[dF,ahl,nt]
theorem aoH(F:Nat)(e:eS)(w:J gj)(a:J iI)(hN:NC<=F)(hF:100000000<=F)(hw:Sx w<=100)(hp:∀x∈w,gv x.fParts<=200)(he:GEn e)(hA:Dg e.bR)(ha:(∀x∈a,Sx x.fText<=60)/\a.length<=2000):aB (λb=>b=eQ->BW F w (s0 e a)) (AE F e w a):=by
 unfold AE Ag wx;rw[aC];dsimp only;refine aB.lp (λz:Int×Int×aY=>∃k m:Nat,z.1=(m:Int)/\m<=3000/\z.2.1=(k:Int)/\k<=Sx w/\mG z.2.2/\((stop z.2.2=eK->BW F (w.drop k) z.2.2)->BW F w (s0 e a))) (λz=>Sx w-z.2.1.toNat) ⟨0,0,rfl,om,rfl,om,atd he hA ha.1 ha.2,λh=>h rfl⟩ (by grind) ?_;rintro⟨_,_,s⟩ ⟨k,m,rfl,hm,rfl,hk,hg,hb⟩ rc hrc;dsimp only at hg hb hrc⊢;rw[qU,aC];by_cases vT:k<Sx w/\stop s=eK
 .obtain⟨hk,hs⟩:=vT;rw[b9 om,hs,nu,aC,aQ,bp hk,bN,gd hk];rw[tu hk]at hb;have hwk:=hp _ (fW hk);refine aB.bd (P:=λy=>gO F w[k].fParts (dm.mk eK eK eQ) s=iN y/\RB (gv w[k].fParts) y.1/\mG y.2) ?_ ?_
  .obtain⟨y,h1,h2⟩:=aq9 F w[k].fParts (dm.mk eK eK eQ) hN hF om hg hs;exact⟨y,⟨h2,h1.1,h1.2⟩,h2⟩
  .rintro⟨r,s'⟩ ⟨hr,h2,h3⟩;dsimp only at h2 h3⊢;have b1:=h2.1;have b2:=h2.2;rw[atg F _ om h3.1.1.1.1,aC,ahc F r _ hF om om (ae3 h3.1.1.1),aC];obtain⟨f1,f2⟩:=Ow r (uO s'.bI.bR) om om;have f3:=agk r (uO s'.bI.bR);have mJ:((∀f∈lX r (uO s'.bI.bR),BF F f)->(stop s'=eK->BW F (w.drop (k+1)) s')->BW F w (s0 e a)):=λg1 g2=>hb λ_ y hy hst=>by grind
   clear hb;generalize lX r (uO s'.bI.bR)=fs at f1 f2 f3 mJ;refine aB.lp (λz:Int×Int=>∃i m:Nat,z.1=(m:Int)/\m<=3000/\z.2=(i:Int)/\i<=Sx fs/\∀f∈fs.take i,BF F f) (λz=>Sx fs-z.2.toNat) ⟨0,m,rfl,hm,rfl,om,si⟩ (by grind) ?_;rintro⟨_,_⟩ ⟨i,m,rfl,hm,rfl,hi,hB⟩ rc' vg;dsimp only at hB vg⊢;by_cases hi:i<Sx fs
   .obtain⟨z1,z2⟩:=f2 _ (fW hi);have z3:=f3 _ (fW hi);have hq:aE ((aE ((m:Int)+1))+(Sx (ef fs[i]):Int))=((m+1+bH fs[i]:Nat):Int):=by grind[bM,oA,bQ]
    rw[b9 om,bp hi,bN,gd hi,aeK F _ om om om,aC,bp hi,show(fs[i].flatMap λr=>r.fText)=ef fs[i]from rfl,hq,bM om];by_cases hsz:m+1+bH fs[i]<=3000
    .have hl:fs[i].length<=10000:=om;rw[agl hF fs[i] hl om,aC];cases hv:(eJ (Sx ((dD fs[i]).filter (xl F))<=2)||((dD fs[i]).filter (GF F)).length==0)with
     | false=>grind[aB.ok]|true=>
      rw[fU,aI,aC,cf om];refine vg _ ⟨i+1,m+1+bH fs[i],rfl,hsz,rfl,hi,λf hf=>?_⟩ aM;rw[ku hi]at hf;rcases kZ.1 hf with hf|hf
      .exact hB f hf
      .obtain rfl:=ni.1 hf;exact⟨hl,om,hv⟩
    .obtain⟨b,hb⟩:=al4 F fs[i] hF om om;rw[hb,aC];cases b with|false=>grind[aB.ok]|true=>grind[aB.ok]
   .rw[cf om,bM om];rw[va om]at hB;exact hrc _ ⟨k+1,m,rfl,hm,rfl,hk,h3,mJ hB⟩ aM
 .have:(cond (eJ ((k:Int)<(Sx w:Int))) ((iN (!(stop s)):O Bool)) (iN eK))=iN eK:=by grind
  rw[this,aC,aI];refine aB.ok λ_=>hb λhs=>?_;have:¬ k<Sx w:=λhk=>vT ⟨hk,hs⟩;rw[Su om];trivial
theorem atj(F:Nat)(j:xB)(hN:NC<=F)(hF:100000000<=F)(h1:K.ir j.oy.DM)(h2:K.ir j.oy.qy):aB (λr=>r.2=eQ->Rdy j r.1/\BW F r.1 (s0 j.oy j.jq)) (EZ F j):=by
 unfold EZ wx;obtain⟨b,hb,e1⟩:=atb F j.oy om;obtain⟨c,hc,e2⟩:=amO F j.ry om;rw[e1,e2];simp only[aG,aC];refine aB.cb (λ_=>aB.ok λh=>nomatch h) λhx=>?_;simp at hx;have hfit:=hb hx.1.1.1;have hsm:=hc hx.1.2;have hge:=ahe hfit h1 h2;refine aB.lp (λi=>∃k:Nat,i=(k:Int)/\k<=Sx j.jq/\∀a∈j.jq.take k,Sx a.fText<=60) (λi=>Sx j.jq-i.toNat) ⟨0,rfl,om,si⟩ (by grind) ?_;rintro _ ⟨k,rfl,k1,k2⟩ rc hrc;refine aB.cd (λh=>?_) λh=>?_
 .have hk:k<Sx j.jq:=om;rw[bX om om,bF om,bN];refine aB.cd (λ_=>aB.ok λh=>nomatch h) λhv=>hrc _ ⟨k+1,rfl,hk,λv jU=>?_⟩ (by grind);grind[List.take_succ_eq_append_getElem,List.mem_singleton]
 .have k2:∀a∈j.jq,Sx a.fText<=60:=by grind
  refine aB.bd (arc F j.LW om) λr ⟨r1,r2⟩=>?_;rw[akr F j.ry om hsm];simp[aG];obtain⟨bd,hbw,hbd⟩:=aoH F j.oy r.1 j.jq hN hF om (λx hx=>by have:=r2 x hx;omega) hge hfit.2.2.2.2.2.2.2.2.2 ⟨k2,om⟩;rw[hbd,aC,aG];refine aB.sc (λ_=>λh=>nomatch h) λhy=>λ_=>?_;have hv:iW j.ry=0:=by simp_all
  exact⟨⟨hfit,(aks _).1 hv,om,⟨om,k2⟩,r1,r2⟩,hbw (by simp_all)⟩
theorem ae4(F:Nat)(fs:J Bs)(s:aY):tj F fs s=iN (Be s fs):=by unfold tj Be;cases s.fe != 0<;>cases s.nh<;>rfl
theorem ark(h:stop s=eQ)(a b:J Bs):Be s a=Be s b:=by unfold stop at h;unfold Be;grind
def aoI(F:Nat)(fl:J aN):Prop:=∀(cwd:Bs)(f:J aA),gm cwd=eQ->BF F f->yP F fl cwd f=iN (FP fl (nk F) (cD F) (cL F) cwd f,0)
theorem ajo(hE:aoI F fl)(hN:NC<=F)(hF:100000000<=F)(hv:VL fl)(o6:Sx fl<=40)(hw:gv w.fParts<=200){l:J gj}(h:WS F fl (w::l) o s)(ho:Sx o<=512){y:J aA×aY}(hy:gO F w.fParts (dm.mk eK eK eQ) s=iN y)(g:mG y.2)(hc:gm y.2.bI.ud=eQ)(rb:RB (gv w.fParts) y.1):
  vM F o fl w s=iN (cond (stop y.2) ([],y.2) (o++pI F fl y.2 y.1,cond (eJ (512<Sx (o++pI F fl y.2 y.1))) (Ox y.2 4) y.2)):=by
 unfold vM wx;rw[hy,aC,qU,aC];cases st:stop y.2 with
 | true=>rfl|false=>
  have Cv:=(h.2.2.2 y hy st).1;have hvl:Sx y.2.bI.bR<=128:=g.1.1.1.1;obtain⟨b1,b2⟩:=rb;rw[aI,aI,atg F _ om hvl,aC,ahc F y.1 _ hF om om (ae3 g.1.1.1),aC];obtain⟨f1,f2⟩:=Ow y.1 (uO y.2.bI.bR) om om;have hfw:pI F fl y.2 y.1=(lX y.1 (uO y.2.bI.bR)).flatMap (Dy F fl y.2.bI):=rfl;rw[hfw];generalize lX y.1 (uO y.2.bI.bR)=fs at f1 f2 Cv;have hT:∀k (hk:k<Sx fs),qI F fs[k]=iN (ef fs[k]):=λk hk=>by have:=Cv _ (fW hk);have h1:=this.1;have h2:=this.2.1;rw[<-au0 F _ om om om,Is F _ om om om]
  refine bW (λa:Int×aY=>∃k:Nat,a=((k:Int),y.2)/\k<=Sx fs) (λa=>Sx fs-a.1.toNat) ?_ F _ ⟨0,rfl,Nat.zero_le _⟩ (by grind);rintro _ ⟨k,rfl,hk⟩;dsimp only;by_cases hk:k<Sx fs
  .left;have hb:=(Cv _ (fW hk)).2.1;refine⟨_,⟨k+1,rfl,hk⟩,aM,λrc=>?_⟩;rw[b9 om,bp hk,bN,gd hk,hT k hk,aC,cf (by rw[oA];omega),bM om]
   try rfl
  .right;intro rc;rw[cf om];refine bW (λa:J Bs×Int×aY=>∃k:Nat,a=(o++(fs.take k).flatMap (Dy F fl y.2.bI),(k:Int),y.2)/\k<=Sx fs/\((fs.take k).flatMap (Dy F fl y.2.bI)).length<=1600*k) (λa=>Sx fs-a.2.1.toNat) ?_ F _ ⟨0,si,Nat.zero_le _,si⟩ (by grind);rintro _ ⟨k,rfl,hk,hl⟩;dsimp only;by_cases hk:k<Sx fs
   .left;have hn:o++(fs.take (k+1)).flatMap (Dy F fl y.2.bI)=(o++(fs.take k).flatMap (Dy F fl y.2.bI))++Dy F fl y.2.bI fs[k]:=by simp_all[uV,sD]
    obtain⟨x1,x2⟩:=amg hF hv o6 hc (Cv _ (fW hk));have OI:Dy F fl y.2.bI fs[k]=cond (lP .i64 y.2.bI.gw 8 != 0) [ef fs[k]] (FP fl (nk F) (cD F) (cL F) y.2.bI.ud fs[k]):=rfl;refine⟨(o++(fs.take (k+1)).flatMap (Dy F fl y.2.bI),((k+1:Nat):Int),y.2),⟨k+1,rfl,hk,?_⟩,aM,λrc=>?_⟩
    .grind[uV,List.length_append,lP]
    .rw[hn,OI,b9 om,qU,st,aC,aC,nu,aQ,bp hk,bp hk,bN,gd hk,bM om,hT k hk,hE _ _ hc (Cv _ (fW hk))];have hol:(o++(fs.take k).flatMap (Dy F fl y.2.bI)).length<=512+1600*k:=by grind
     cases (lP .i64 y.2.bI.gw 8 != 0)with
     | true=>rw[aQ,aQ,aC,cy (by simp only[abB,cH,fO];omega)]|false=>rw[aI,aI,aC];dsimp only;rw[show((0:Int) != 0)=eK from rfl,aI,aC,cy (by simp only[cH,fO];omega)]
   .right;intro rc;rw[cf om,aC,aI,va om];by_cases h5:512<Sx (o++fs.flatMap (Dy F fl y.2.bI))
    .rw[b9 om,dT h5,yQ,st];rfl
    grind
theorem atk(hE:aoI F fl)(hN:NC<=F)(hF:100000000<=F)(hv:VL fl)(o6:Sx fl<=40)(l:J gj)(hl:Sx l<=1000)(hw:∀y∈l,gv y.fParts<=200)(h:WS F fl l [] (s0 e a)):
  E2 F e fl l a=iN (Be (wR F fl l [] (s0 e a)).2 (wR F fl l [] (s0 e a)).1):=by
 unfold E2 Ag wx;refine bW (λz:J Bs×Int×aY=>∃k:Nat,z.2.1=(k:Int)/\k<=Sx l/\((stop z.2.2=eQ/\Be z.2.2 z.1=Be (wR F fl l [] (s0 e a)).2 (wR F fl l [] (s0 e a)).1)\/(WS F fl (l.drop k) z.1 z.2.2/\z.1.length<=512/\wR F fl (l.drop k) z.1 z.2.2=wR F fl l [] (s0 e a)))) (λz=>Sx l-z.2.1.toNat) ?_ F _ ⟨0,rfl,fF _,.inr ⟨h,fF _,rfl⟩⟩ aM;rintro⟨o,_,s⟩ ⟨k,rfl,h3,h4⟩;dsimp only at h4⊢;rw[qU,aC];rcases h4 with⟨h5,h6⟩|⟨h5,h6,h7⟩
 .simp_all[ae4]
 .rw[h5.2.1];by_cases hk:k<Sx l
  .left;have hd:=tu hk;rw[hd]at h5 h7;obtain⟨y,e1,e2,e3,e4,-⟩:=apF hN hF hv o6 l[k] (hw _ (fW hk)) h5.1 h5.2.1 h5.2.2.1;have hr:=ajo hE hN hF hv o6 (hw _ (fW hk)) h5 h6 e1 e2 e3 e4;rw[Si e1]at h7;refine⟨_,⟨k+1,rfl,hk,?_⟩,?_,λrc=>by rw[b9 om,nu,aC,aQ,bp hk,bN,gd hk,hr,aC,bM om]⟩
   .cases st:stop y.2 with
    | true=>grind|false=>
     rw[st]at h7;by_cases h9:512<Sx (o++pI F fl y.2 y.1)
     .left;obtain⟨q1,q2,-⟩:=Oy (fl:=fl) e2 st;grind[ark]
     .right;rw[dF h9]at h7⊢;exact⟨⟨e2,st,e3,(h5.2.2.2 y e1 st).2 h9⟩,by grind,h7⟩
   .simp;omega
  .right;intro rc;rw[Su om]at h7;rw[cf om,ae4,<-h7];rfl
theorem aj0(hF:100000000<=F)(t:J aA)(h1:Sx t<=10000)(h2:bH t<=10000)(he:ef t=[]):(cL F) t=eQ:=by
 have h3:bH t=0:=by rw[<-oA,he];rfl
 have h4:(t.flatMap nj)=[]:=by have:=xP nj HP t;exact VB.1 om
 have hq:∀e∈t.flatMap nj,e.lq=eK:=by rw[h4];intro e h;cases h
 have hc:=akt F t om om om om hq;unfold cL cD;rw[hc,h4];obtain⟨k,rfl⟩:∃k,F=k+1:=⟨F-1,om⟩;rfl
def JO(o:J (J aA)×J aA):Bs:=di ((o.1++[o.2]).map ef)
theorem aaL:∀(L:J Bs)(a b:Bs),di (L++[a++b])=di (L++[a])++b|[],a,b=>rfl|x::L,a,b=>by rw[tq,tq,sZ x si,sZ x si,aaL L a b];simp
theorem awc(c:Int)(o:J (J aA)×J aA)(q:Bs):JO (Bn c o q)=JO o++47::q:=by unfold JO Bn;rw[lZ,jb,BI,SU,B4 _ _ si]
theorem apH(c:Int):∀(ps:J Bs)(o:J (J aA)×J aA)(p:Bs)(A:Bs),JO o=A++p->JO (ps.foldl (Bn c) o)=A++di (p::ps)|[],o,p,A,h=>h|q::ps,o,p,A,h=>by rw[sE,apH c ps (Bn c o q) q (A++p++[47]) (by rw[awc,h];simp),sZ p si];simp
def Pj(r:aA):Bs:=cond (jg r.aH) [] r.fText
theorem awd(o:J (J aA)×J aA)(r:aA):JO (nS o r)=JO o++Pj r:=by
 unfold nS Pj;cases jg r.aH
 .rw[aI,aI];have hj:=Ng r.fText;cases hp:cq r.fText with
  | nil=>exact absurd hp (rz _)|cons p ps=>
   rw[hp]at hj;show JO (ps.foldl (Bn r.aH) (o.1,o.2++[aA.mk p r.aH]))=_
   rw[apH r.aH ps _ p (JO o) (by
    unfold JO;rw[lZ,lZ,jb,BI,ahf,SU,aaL];rfl),hj]
 .rw[aQ,aQ,FK]
theorem atl:∀(l:J aA)(o:J (J aA)×J aA),JO (l.foldl nS o)=JO o++l.flatMap Pj|[],o=>by simp|r::l,o=>by rw[sE,atl l,awd,q8,sD]
theorem ae5(r:J aA):ig r=r.flatMap Pj:=by have:=atl r ([],[]);rw[show JO ([],[])=[]from rfl,pY]at this;exact this
theorem aj1(F:Nat)(r:J aA)(hF:Sx r<F)(h1:Sx r<1000000)(h2:bH r<=1000000):HJ F r=iN (ig r):=by
 rw[ae5];unfold HJ wx;have hle:∀k:Nat,Sx ((r.take k).flatMap Pj)<=bH (r.take k):=λk=>xP Pj (λx=>by unfold Pj;cases jg x.aH<;>simp) _;refine bW (λx=>∃k:Nat,x=((r.take k).flatMap Pj,(k:Int))/\k<=Sx r) (λx=>Sx r-x.2.toNat) ?_ F _ ⟨0,rfl,om⟩ aM;rintro x ⟨k,rfl,hk⟩;dsimp only;by_cases hk:k<Sx r
 .left;refine⟨_,⟨k+1,rfl,om⟩,aM,λrc=>?_⟩;have hs:=pZ r k hk;have hl2:=tw r (k+1);have hh:=hle k;rw[b9 om,bp hk,bp hk,bN,gd hk,aG,aC,bp hk,aG,aC,bp hk,vU om,bM om,J0 Pj r k hk];unfold Pj jg;simp only[bne];cases (r[k].aH==0)<;>cases (r[k].aH==1)<;>cases (r[k].aH==2)<;>simp
 .right;obtain rfl:k=Sx r:=om;intro rc;rw[cf om,nW]
def Di(w:J Bs):Nat:=(w.map λn=>Sx n+1).sum
def Dj(cs:J aP):Nat:=(cs.map λc=>Sx c.aR+1).sum
theorem Yc:∀w:J Bs,Sx (di w)<=Di w|[]=>by simp[di,Di]|[a]=>by simp[di,Di]|a::b::w=>by have ih:=Yc (b::w);rw[sZ a si];unfold Di at *;simp only[jb,MT,ov,sB]at *;omega
theorem Yd(x:Bs)(w:J Bs):Di (x::w)=Sx x+1+Di w:=by unfold Di;simp
theorem aj2(c:aP)(cs:J aP):Dj (c::cs)=Sx c.aR+1+Dj cs:=by unfold Dj;simp
section
variable {l : J aN}
theorem aoJ(hv:VL l){q:Bs}(h:(gy l q).isSome=eQ):q.length<=128:=by
 cases hf:gy l q with
 | none=>rw[hf]at h;cases h
 | some f=>exact(It hv hf).1
theorem ahm(hv:VL l):∀(cs:J aP)(p:Bs),∀w∈W l mt cs p,Di w<=Dj cs+40*Sx (cs.filter λc=>!c.dP)
 | [],p,w,hw=>by obtain rfl:=ni.1 (show w∈[([]:J Bs)]from hw);simp[Di]
 | c::cs,p,w,hw=>by
  have ih:=ahm hv cs;rw[aj2,abC];rw[qp]at hw;cases h1:(!kS l p)<;>rw[h1]at hw
  .have hone:∀q,w∈(W l mt cs q).map (c.aR :: ·)->Di w<=Sx c.aR+1+Dj cs+40*Sx (cs.filter λc=>!c.dP):=by intro q hq;obtain⟨w',hw',rfl⟩:=kq.1 hq;have:=ih q w' hw';rw[Yd];omega
   cases h2:(!c.dP)<;>rw[h2]at hw
   .simp only[MZ,PU];cases h3:(c.aR==[]||c.aR==[46])<;>rw[h3]at hw
    .cases h4:(c.aR==[46,46])<;>rw[h4]at hw
     .cases h5:(gy l (eP p c.aR)).isNone<;>rw[h5]at hw
      .exact hone _ hw
      .cases hw
     .exact hone _ hw
    .exact hone _ hw
   .simp only[if_true,sB];obtain⟨k,hk,hw⟩:=aby.1 (show w∈((dz l p).filter (kM mt c)).flatMap _ from hw);obtain⟨w',hw',rfl⟩:=kq.1 hw;have:=ih _ w' hw';have:=(HQ hv (PR.1 hk).1).2;rw[Yd];omega
  .cases hw
end
theorem agm(hF:100000000<=F)(r:J aA):Dj (partsOf (cD F) (cL F) r)<=bH r+Sx (dD r)*1+bH r+1:=by
 have h1:=aih r ([],[]);have e:Dj (partsOf (cD F) (cL F) r)=((dD r).map λt=>bH t+1).sum:=by unfold Dj partsOf;rw[xu];congr 1;refine Sm λt ht=>?_;show(ef t).length+1=_;rw[oA]
 rw[e];unfold dD;rw[lZ,Sv];have:Gh (E7 r)<=bH r:=by have:=h1;simp only[Gh,BI,List.sum_nil,bH]at this;unfold E7 Gh bH;omega
 unfold Gh at this;simp only[jb,BI,MT,List.sum_nil];omega
theorem ami(r:J aA):(ig r).length<=bH r:=by rw[ae5];exact xP Pj (λx=>by unfold Pj;cases jg x.aH<;>simp) r
def tlJ(w:J Bs):Bs:=w.flatMap λn=>47::n
def hJ(b:Bool):J Bs->Bs|[]=>[]|n::w=>cond b (47::n) n++tlJ w
theorem arl:∀w:J Bs,hJ eQ w=tlJ w|[]=>rfl|n::w=>by simp[hJ,tlJ]
theorem ae6:∀w:J Bs,di w=hJ eK w|[]=>rfl|[a]=>by simp[di,hJ,tlJ]|a::b::w=>by rw[sZ a si,ae6 (b::w)];simp[hJ,tlJ]
def Jx(b:Bool)(x:cN):cN:=cond b (cN.mk x.fh (x.aR++[47])) x
theorem Sj(b:Bool)(x:cN):(Jx b x).fh=x.fh:=by cases b<;>rfl
def stp(F:Nat)(l:J aN)(c:aP)(x:cN):J cN:=
 cond (!c.dP) (((dz l x.fh).filter (kM (nk F) c)).map λn=>cN.mk (eP x.fh n) (x.aR++n))
  (cond (c.aR==[]||c.aR==[46]) [cN.mk x.fh (x.aR++c.aR)]
  (cond (c.aR==[46,46]) [cN.mk (ic x.fh) (x.aR++c.aR)]
  (cond (gy l (eP x.fh c.aR)).isNone [] [cN.mk (eP x.fh c.aR) (x.aR++c.aR)])))
def Jy(F:Nat)(l:J aN)(c:aP)(b:Bool)(x:cN):J cN:=cond (kS l x.fh) ((stp F) l c (Jx b x)) []
def Es(F:Nat)(l:J aN):Bool->J aP->J cN->J cN|_,[],xs=>xs|b,c::cs,xs=>Es F l eQ cs (xs.flatMap ((Jy F) l c b))
theorem ae7{F:Nat}(hF:100000000<=F)(l:J aN):∀(b:Bool)(cs:J aP)(xs:J cN),((Es F) l b cs xs).map (λy=>y.aR)=xs.flatMap λx=>(W l (nk F) cs x.fh).map λw=>x.aR++hJ b w
 | b,[],xs=>by
  rw[Es];have:(λx:cN=>(W l (nk F) [] x.fh).map λw=>x.aR++hJ b w)=λx=>[x.aR]:=by funext x;show [x.aR++[]]=_;rw[FK]
  rw[this]
  induction xs with|nil=>rfl|cons x xs ih=>rw[jb,q8,ih];rfl
 | b,c::cs,xs=>by
  rw[Es,ae7 hF l eQ cs,List.flatMap_assoc];congr 1;funext x;have key:∀(n q:Bs)(y:cN),y=cN.mk q ((Jx b x).aR++n)->((W l (nk F) cs y.fh).map λw=>y.aR++hJ eQ w)=((W l (nk F) cs q).map (n :: ·)).map λw=>x.aR++hJ b w:=by rintro n q y rfl;rw[xu];refine Sm λw _=>?_;show((Jx b x).aR++n)++hJ eQ w=x.aR++hJ b (n::w);rw[arl];cases b<;>simp[Jx,hJ]
  have one:∀(n q:Bs),([cN.mk q ((Jx b x).aR++n)].flatMap λy=>(W l (nk F) cs y.fh).map λw=>y.aR++hJ eQ w)=((W l (nk F) cs q).map (n :: ·)).map λw=>x.aR++hJ b w:=by intro n q;rw[q8,PN,FK];exact key n q _ rfl
  unfold Jy stp;rw[Sj,qp];cases kS l x.fh with
  | false=>rfl|true=>
   rw[aQ,fU,aI];cases c.dP with
   | false=>rw[nu,aQ,aQ,ahz,List.map_flatMap];congr 1;funext n;exact key n _ _ rfl|true=>
    rw[fU,aI,aI];cases (c.aR==[]||c.aR==[46])with
    | true=>exact one _ _|false=>
     rw[aI,aI];cases (c.aR==[46,46])with
     | true=>exact one _ _|false=>rw[aI,aI];cases (gy l (eP x.fh c.aR)).isNone with|true=>rfl|false=>exact one _ _
theorem ae8{F:Nat}(hF:100000000<=F)(l:J aN)(c:aP):∀(cs:J aP)(b:Bool)(xs:J cN),(Es F) l b (cs++[c]) xs=((Es F) l b cs xs).flatMap ((Jy F) l c (b || !cs.isEmpty))
 | [],b,xs=>by show(Es F) l eQ [] (xs.flatMap ((Jy F) l c b))=_;rw[Es,Es];simp
 | d::cs,b,xs=>by rw[tq,Es,ae8 hF l c cs eQ,Es];simp
theorem Rq(F:Nat)(a:J Bs)(hn:a.Nodup)(ha:a.length<=10000)(hF:20000<=F):Df F a=iN (pK a):=by
 unfold Df wx;refine bW (λs:J Bs×Int=>∃i:Nat,s.2=(i:Int)/\i<=a.length/\s.1.Pairwise (· < ·)/\(∀x,x∈s.1↔x∈a.take i)/\s.1.length<=i) (λs=>a.length-s.2.toNat) ?_ F _ ⟨0,rfl,om,List.Pairwise.nil,λx=>by simp,si⟩ aM;rintro⟨out,ii⟩ ⟨i,h0,hi,sI,hmem,hlen⟩;dsimp only at h0 sI hmem hlen⊢;subst h0;by_cases hi:i<a.length
 .left;have hk:∃k:Nat,k<=Sx out/\(∀j,∀hj:j<Sx out,j<k->out[j]<a[i])/\(∀hj:k<Sx out,¬ out[k]<a[i]):=by
   have:∀(L:J Bs),∃k:Nat,k<=Sx L/\(∀j,∀hj:j<Sx L,j<k->L[j]<a[i])/\(∀hj:k<Sx L,¬ L[k]<a[i]):=by
    intro L
    induction L with
    | nil=>exact⟨0,si,λj hj=>by simp at hj,λhj=>by simp at hj⟩|cons y L ih=>
     by_cases hy:y<a[i]
     .obtain⟨k,h1,h2,h3⟩:=ih;refine⟨k+1,by simpa using h1,λj hj hjk=>?_,λhj=>?_⟩
      .cases j with|zero=>exact hy|succ j=>exact h2 j (by simpa using hj) om
      .exact h3 (by simpa using hj)
     .exact⟨0,si,λj hj hjk=>om,λhj=>hy⟩
   exact this out
  obtain⟨k,hk1,hk2,ug⟩:=hk;have atm:a[i]∉out:=by intro hm;have:=(hmem _).1 hm;obtain⟨j,hj,e⟩:=ko this;rw[pX]at hj;rw[List.getElem_take]at e;exact VE.1 hn j i om hi om e
  have hgt:∀j,∀hj:j<Sx out,k<=j->a[i]<out[j]:=by
   intro j hj hkj;have hkl:k<Sx out:=om;have h1:=ug hkl;have h2:a[i]<out[k]:=by
    rcases Rj out[k] a[i]with h|h|h
    .exact absurd h h1
    .exact absurd (h▸fW hkl) atm
    .exact h
   rcases Nat.eq_or_lt_of_le hkj with e|e
   .subst e;exact h2
   .exact o8 h2 (VE.1 sI k j hkl hj e)
  refine⟨(out.take k++(a[i]::out.drop k),((i+1:Nat):Int)),⟨i+1,rfl,om,?_,λx=>?_,?_⟩,aM,λrc=>?_⟩
  .rw[List.pairwise_append];refine⟨sI.sublist (abD k out),xw.2 ⟨λy hy=>?_,sI.sublist (List.drop_sublist k out)⟩,λx hx y hy=>?_⟩
   .obtain⟨j,hj,rfl⟩:=ko hy;rw[List.getElem_drop];exact hgt _ (by rw[BL]at hj;omega) om
   .obtain⟨j,hj,rfl⟩:=ko hx;rw[pX]at hj;rw[List.getElem_take];have hlt:=hk2 j om om;rcases gL.1 hy with rfl|hy
    .exact hlt
    .obtain⟨m,hm,rfl⟩:=ko hy;rw[List.getElem_drop];exact o8 hlt (hgt _ (by rw[BL]at hm;omega) om)
  .rw[ku hi];simp only[kZ,gL,ni,BJ,BK];rw[<-hmem x]
   conv=>rhs;rw[<-DB k out]
   rw[kZ];constructor
   .rintro (h|h|h)
    .exact .inl (.inl h)
    .exact .inr h
    .exact .inl (.inr h)
   .rintro ((h|h)|h)
    .exact .inl h
    .exact .inr (.inr h)
    .exact .inr (.inl h)
  .dsimp only;rw[ov,sB,pX,BL];omega
  .rw[b9 om];refine bW (λs:Int=>∃j:Nat,s=(j:Int)/\j<=k) (λs=>k-s.toNat) ?_ F _ ⟨0,rfl,om⟩ aM;rintro s ⟨j,rfl,hj⟩;by_cases hjk:j<k
   .left;refine⟨((j+1:Nat):Int),⟨j+1,rfl,om⟩,aM,λbA=>?_⟩;have hjl:j<Sx out:=om;rw[b9 om,bp hjl,bp hi,bN,bN,gd hjl,gd hi,(JY _ _).2 (hk2 j hjl hjk),aC,aQ,bM om]
   .right;obtain rfl:j=k:=om;intro bA;have e1:(cond (eJ ((j:Int)<(Sx out:Int))) (rq ((eJ (0<=(j:Int)))&&(eJ ((j:Int)<(Sx out:Int)))) (rq ((eJ (0<=(i:Int)))&&(eJ ((i:Int)<(a.length:Int)))) (iN (pD (out.getD (eI (j:Int)) []) (a.getD (eI (i:Int)) []))))) (iN eK):O Bool)=iN eK:=by
     by_cases hjl:j<Sx out
     .rw[b9 om,bp hjl,bp hi,bN,bN,gd hjl,gd hi,(B6 _ _).2 (ug hjl)]
     .rw[cf om]
    have e2:(cond ((j:Int)==(Sx out:Int)) (iN eQ) (rq ((eJ (0<=(j:Int)))&&(eJ ((j:Int)<(Sx out:Int)))) (rq ((eJ (0<=(i:Int)))&&(eJ ((i:Int)<(a.length:Int)))) (iN (!((out.getD (eI (j:Int)) [])==(a.getD (eI (i:Int)) [])))))):O Bool)=iN eQ:=by
     by_cases hjl:j<Sx out
     .rw[show((j:Int)==(Sx out:Int))=eK from eG.2 om,aI,bp hjl,bp hi,bN,bN,gd hjl,gd hi];have:(out[j]==a[i])=eK:=eG.2 λe=>atm (e▸fW hjl);rw[this];rfl
     .rw[show((j:Int)==(Sx out:Int))=eQ from tv.2 om];rfl
    have s1:sl out (j:Int) (Sx out:Int)=out.drop j:=by unfold sl;simp
    have s2:sl out 0 (j:Int)=out.take j:=by unfold sl;simp
    rw[e1,aC,aI,e2,aC,aQ,bp hi,bN,gd hi,s1,s2];rw[vO om om om,dn (by simp<;>omega) (by simp<;>omega),bX om om,dn (by simp<;>omega) (by simp<;>omega),dn (by simp<;>omega) (by simp<;>omega),bM om];rfl
 .right;obtain rfl:i=a.length:=om;intro rc;rw[cf om];have hp:=sY a;rw[nW]at hmem;rw[LX (f:=id) (a:=out) (b:=pK a) sI (Qh hn) λx=>(hmem x).trans hp.mem_iff.symm]
def ae9(o:J (J aA)×J aA):Prop:=(∀c∈o.1,∀r∈c,jg r.aH=eK)/\∀r∈o.2,jg r.aH=eK
theorem amj(cl:Int)(hc:jg cl=eK):∀(t:Bs)(o:J (J aA)×J aA),ae9 o->ae9 (t.foldl (kK cl) o)
 | [],o,h=>h|b::t,o,h=>by
  rw[sE];refine amj cl hc t _ ?_;unfold kK;cases (b==47)with
  | true=>
   refine⟨λc hcm r hr=>?_,λr hr=>by cases hr⟩;rcases kZ.1 hcm with hcm|hcm
   .exact h.1 c hcm r hr
   .obtain rfl:=ni.1 hcm;exact h.2 r hr
  | false=>
   refine⟨h.1,λr hr=>?_⟩;rcases kZ.1 hr with hr|hr
   .exact h.2 r hr
   .obtain rfl:=ni.1 hr;exact hc
theorem amk:∀(l:J aA)(o:J (J aA)×J aA),ae9 o->ae9 (l.foldl vc o)
 | [],o,h=>h|r::l,o,h=>by rw[sE];refine amk l _ ?_;show ae9 (cond (jg r.aH) o (r.fText.foldl (kK r.aH) o));cases hc:jg r.aH with|true=>exact h|false=>exact amj _ hc _ _ h
theorem aoK(l:J aA):∀c∈iV l,∀r∈c,jg r.aH=eK:=by
 have h:=amk l ([],[]) ⟨λc hc=>(by cases hc),λr hr=>(by cases hr)⟩;intro c hc r hr;unfold iV at hc;rcases kZ.1 hc with hc|hc
 .exact h.1 c hc r hr
 .obtain rfl:=ni.1 hc;exact h.2 r hr
theorem Vy:∀t:J aA,(∀r∈t,jg r.aH=eK)->Sx (bits t)=bH t|[],_=>rfl|r::t,h=>by have ih:=Vy t λx hx=>h x (by simp[hx]);unfold bits at *;rw[q8,ov,ih];unfold Gg bH;rw[h r si,aI,gP];simp
theorem afa(F:Nat)(p n:Bs)(h1:Sx p<=1000000)(h2:Sx n<=1000000):Am F p n=iN (eP p n):=by unfold Am eP wx;cases (p==[47])with|true=>rw[aQ,aQ,vU aM]|false=>rw[aI,aI,vU aM,vU aM]
theorem atn(hF:100000000<=F)(t:J aA)(h:(cL F) t=eK):0<Sx ((cD F) t):=by
 obtain⟨k,rfl⟩:∃k,F=k+1:=⟨F-1,om⟩;cases hp:(cD (k+1)) t with
 | nil=>unfold cL at h;rw[hp]at h;exact absurd h (by rw[show iu (k+1) []=iN ([],eQ)from rfl];decide)
 | cons a b=>simp
theorem ato(F:Nat)(l:J aN)(p:Bs)(hF:Sx l<F)(hl:Sx l<1000000000):xj F l p=iN (kS l p):=by unfold xj kS wx;rw[acv F l p hF hl,aC];cases gy l p<;>rfl
theorem step_eq(hF:100000000<=F){l:J aN}(hv:VL l)(o6:Sx l<=40){c t:J aA}(e:bits c=bits t)(hc1:Sx c=bH c)(Iu:bH c<=10000)(ht1:Sx t<=10000)(ht2:bH t<=10000)(pn:∀r∈c,jg r.aH=eK)(htc:∀r∈t,jg r.aH=eK)
  (x:cN) (hd:kS l x.fh=eQ) (hx:Sx x.aR<=1000000):HK F l x c=iN ((stp F) l (rD (cD F) (cL F) t) x):=by
 obtain⟨s,e1,e2⟩:=ZO hF c t e om Iu ht1 ht2;have hlen:Sx c=Sx (ef t):=by have g1:=Vy c pn;have g2:=Vy t htc;rw[e]at g1;rw[oA];omega
 have hz:((Sx c:Int)==0)=(ef t==[]):=by rw[hlen];cases ef t with|nil=>rfl|cons a b=>rw[eG.2 aM];rfl
 have htl:(ef t).length<=10000:=by rw[oA];exact ht2
 have hxp:Sx x.fh<=128:=aoJ hv (KU hd);unfold HK stp wx;rw[e1,aC,e2,aC,hz];show _=iN (cond (!(cL F) t) _ (cond (ef t==[]||ef t==[46]) _ (cond (ef t==[46,46]) _ _)));cases hl:(cL F) t with
 | false=>
  have h0:(ef t==[])=eK:=by
   cases hb:(ef t==[])with
   | false=>rfl|true=>have:=aj0 hF t ht1 ht2 (eq_of_beq hb);rw[hl]at this;cases this
  rw[h0];simp only[aI,aQ,aC,nu];have hls:SO l x.fh=(dz l x.fh,0):=o4 ((agA F l x.fh om hv).symm.trans (acK om hv hd));rw[amT F l x.fh om hv,hls,aC];dsimp only;have hkl:(dz l x.fh).length<=40:=by unfold dz;rw[gP];exact jR (MY _ _) o6
  have hkn:∀n∈dz l x.fh,ld n=eQ/\n.length<=32:=λn hn=>HQ hv hn;generalize dz l x.fh=K at hkl hkn;have hpl:=atn hF t hl;obtain⟨g1,g2,g3⟩:=HS hF t ht1 ht2;have awe:(rq (eJ (0<(Sx ((cD F) t):Int))) (cond ((((cD F) t).getD 0 dL).fKind==1) (rq (eJ (0<(Sx ((cD F) t):Int))) (iN ((((cD F) t).getD 0 dL).fText==([46]:Bs)))) (iN eK)):O Bool)=iN (K7 (rD (cD F) (cL F) t)):=by rw[jP om,jP om,aG];unfold K7;show _=iN (eJ (0<Sx ((cD F) t))&&(((((cD F) t).getD 0 dL).fKind==1)&&((((cD F) t).getD 0 dL).fText==[46])));rw[dT hpl,Ib];cases ((((cD F) t).getD 0 dL).fKind==1)<;>rfl
  rw[awe];refine bW (λs:J cN×Int=>∃k:Nat,s=((((K.take k).filter (kM (nk F) (rD (cD F) (cL F) t))).map λn=>cN.mk (eP x.fh n) (x.aR++n)),(k:Int))/\k<=Sx K) (λs=>Sx K-s.2.toNat) ?_ F _ ⟨0,rfl,om⟩ aM;rintro s ⟨k,rfl,hk⟩;dsimp only;by_cases hk:k<Sx K
  .left;refine⟨_,⟨k+1,rfl,om⟩,aM,λrc=>?_⟩;have hnm:=hkn _ (fW hk);have hnl:=xO hnm.1;have hm:tC F ((cD F) t) K[k]=iN ((nk F) ((cD F) t) K[k]):=by rw[akH F ((cD F) t) K[k] om om om om g2];exact akK hF t ht1 ht2 K[k] om
   have hpre:((((K[k]).getD 0 0).toNat:Int) != 46)=!xS K[k]:=by
    cases hn:K[k]with
    | nil=>rw[hn]at hnl;simp at hnl|cons b n=>show(((b.toNat:Int)) != 46)=!((b::n).take 1==[46]);rw[bne,oP b 46 om];simp
   have hkeep:∀A:Bool,(cond ((nk F) ((cD F) t) K[k]) (cond (((((K[k]).getD 0 0).toNat:Int)) != 46) (iN eQ) (iN A)) (iN eK):O Bool)=iN ((nk F) ((cD F) t) K[k]&&(!xS K[k]||A)):=by intro A;rw[hpre];cases (nk F) ((cD F) t) K[k]<;>cases xS K[k]<;>rfl
   have atp:((nk F) ((cD F) t) K[k]&&(!xS K[k]||K7 (rD (cD F) (cL F) t)))=kM (nk F) (rD (cD F) (cL F) t) K[k]:=by unfold kM;show _=!((xS K[k] && !K7 (rD (cD F) (cL F) t)) || !(nk F) ((cD F) t) K[k]);cases (nk F) ((cD F) t) K[k]<;>cases xS K[k]<;>cases K7 (rD (cD F) (cL F) t)<;>rfl
   rw[b9 om,aC,bp hk,bN,gd hk,hm,aC,bp hk,jP om,hkeep,atp,aC,bp hk,bp hk,vU om,afa F x.fh K[k] om om,aC,bM om];have hfl:(((K.take k).filter (kM (nk F) (rD (cD F) (cL F) t))).map λn=>cN.mk (eP x.fh n) (x.aR++n)).length<=40:=by rw[gP];refine jR (MY _ _) ?_;rw[pX];omega
   rw[dn (by rw[abB];omega) om,ku hk,Sw,lZ,abC];cases kM (nk F) (rD (cD F) (cL F) t) K[k]<;>simp
  .right;obtain rfl:k=Sx K:=om;intro rc;rw[cf om,nW]
 | true=>
  have hs:s=ef t:=by have h1:=ae2 hF t ht1 ht2 htc hl;rw[h1]at e2;exact((Prod.mk.inj (o4 e2)).1).symm
  subst hs;simp only[aQ,aI,aC,fU];have e3:(cond (ef t==[]) (iN eQ) (iN (ef t==[46])):O Bool)=iN (ef t==[]||ef t==[46]):=by cases (ef t==[])<;>rfl
  rw[e3,aC];cases (ef t==[]||ef t==[46])with
  | true=>rw[aQ,aQ,vU om];rfl|false=>
   rw[aI,aI];cases (ef t==[46,46])with
   | true=>rw[aQ,aQ,vU om,Nf F x.fh om om];rfl|false=>rw[aI,aI,afa F x.fh (ef t) om om,aC,acv F l _ om om,aC];show _=iN (cond (gy l (eP x.fh (ef t))).isNone [] [cN.mk (eP x.fh (ef t)) (x.aR++ef t)]);cases gy l (eP x.fh (ef t))with|none=>rfl|some f=>dsimp only[Option.elim,Option.isNone];rw[aQ,vU om];rfl
theorem afb(hF:100000000<=F){l:J aN}(hv:VL l)(o6:Sx l<=40)(hc:gm cwd=eQ)(r:J aA)(hb:(eJ (Sx ((dD r).filter (xl F))<=2)||((dD r).filter (GF F)).length==0)=eQ)(f:Bs)(i:Nat):
  (W l (nk F) ((partsOf (cD F) (cL F) r).take i) (kC cwd f)).length<=1600:=by
 rw[KW,fO,tv]at hb;rcases hb with hb|hb
 .have hf:((partsOf (cD F) (cL F) r).filter λc=>!c.dP).length=Sx ((dD r).filter (xl F)):=by unfold partsOf;rw[List.filter_map,gP];rfl
  have hsub:=((abD i (partsOf (cD F) (cL F) r)).filter λc=>!c.dP).length_le;rcases ZN (l:=l) (mt:=(nk F)) ((partsOf (cD F) (cL F) r).take i) (kC cwd f)with h|h
  .have hp:=hv.pos;have h2:Sx l^(((partsOf (cD F) (cL F) r).take i).filter λc=>!c.dP).length<=Sx l^2:=abt hp om;have h3:Sx l^2<=40^2:=Nat.pow_le_pow_left o6 2;omega
  .have:=hv.pos;omega
 .obtain⟨ns,hn,e⟩:=Yb hc f;rw[e];cases hd:kS l (pathOf ns)with
  | true=>
   refine jR (ahj hv hn (λc hcm=>?_) (λc hcm hl=>?_) (KU hd)) om
   .obtain⟨t,ht,rfl⟩:=kq.1 (MS hcm);exact ZL r t ht
   .obtain⟨t,ht,rfl⟩:=kq.1 (MS hcm);intro e2
    have hm:t∈(dD r).filter (GF F):=PR.2 ⟨ht,by
     unfold GF;rw[show(cL F) t=eQ from hl,show ef t=[46,46]from e2];rfl⟩
    rw[VB.1 hb]at hm;cases hm
  | false=>cases hp:(partsOf (cD F) (cL F) r).take i with|nil=>simp[W]|cons c cs=>rw[qp,hd];exact fF _
theorem aml{F:Nat}(hF:100000000<=F){l:J aN}(hv:VL l){r:J aA}(h2:bH r<=3000)(p:Bs)(i:Nat):∀w∈W l (nk F) ((partsOf (cD F) (cL F) r).take i) p,Di w<=200000:=by
 intro w hw;have h1:=ahm hv _ _ w hw;have hT:=agm hF r;have hp:=(SV (l:=r)).1;have hl:(partsOf (cD F) (cL F) r).length=Sx (dD r):=by unfold partsOf;rw[gP]
 have hs:=((abD i (partsOf (cD F) (cL F) r))).length_le;have hs2:=(MY (λc:aP=>!c.dP) ((partsOf (cD F) (cL F) r).take i));have hs3:Dj ((partsOf (cD F) (cL F) r).take i)<=Dj (partsOf (cD F) (cL F) r):=by
  conv=>rhs;rw[<-DB i (partsOf (cD F) (cL F) r)]
  unfold Dj;rw[lZ,Sv];omega
 omega
def Dz(F:Nat)(l:J aN)(cwd:Bs)(r:J aA)(i:Nat):J cN:=(Es F) l eK ((partsOf (cD F) (cL F) r).take i) [cN.mk (kC cwd (ig r)) []]
theorem Oz(hF:100000000<=F)(l:J aN)(cwd:Bs)(r:J aA)(i:Nat):((Dz F) l cwd r i).map (λy=>y.aR)=(W l (nk F) ((partsOf (cD F) (cL F) r).take i) (kC cwd (ig r))).map di:=by unfold Dz;rw[ae7 hF,q8,PN,FK];refine Sm λw _=>?_;rw[ae6];rfl
theorem aoL(hF:100000000<=F)(l:J aN)(cwd:Bs)(r:J aA)(i:Nat)(h:i<Sx (partsOf (cD F) (cL F) r)):(Dz F) l cwd r (i+1)=((Dz F) l cwd r i).flatMap ((Jy F) l ((partsOf (cD F) (cL F) r)[i]) (eJ (0<i))):=by
 unfold Dz;rw[ku h,ae8 hF];congr 2;cases i with
 | zero=>rfl|succ i=>
  have:(((partsOf (cD F) (cL F) r).take (i+1)).isEmpty)=eK:=by rw[List.isEmpty_eq_false_iff];intro e;have h2:=congrArg Sx e;rw[pX,H9]at h2;omega
  rw[this];simp
def uP(b:Bool)(xs:J cN)(k:Nat):J cN:=(xs.take k).map (Jx b)++xs.drop k
theorem OA(b:Bool)(xs:J cN)(k:Nat):(uP b xs k).length=Sx xs:=by unfold uP;rw[ov,gP,pX,BL];omega
theorem arn(b:Bool)(xs:J cN)(k:Nat)(h:k<Sx xs):(uP b xs k).getD k yy=xs[k]:=by unfold uP;rw[UA,KX (by rw[gP,pX];omega),gP,pX,M0];rw[show k+(k-min k xs.length)=k by omega,fT h];rfl
theorem afc(b:Bool)(xs:J cN)(k:Nat)(h:k<Sx xs):(uP b xs k).set k (Jx b xs[k])=uP b xs (k+1):=by
 unfold uP;have hl:((xs.take k).map (Jx b)).length=k:=by rw[gP,pX];omega
 rw[List.set_append_right _ _ om,hl,Nat.sub_self,ku h,lZ,sD];congr 1;have hd:xs.drop k=xs[k]::xs.drop (k+1):=tu h;rw[hd];rfl
theorem amm(xs:J cN)(k:Nat)(h:k<Sx xs):uP eK xs (k+1)=uP eK xs k:=by unfold uP;rw[ku h,lZ,sD];congr 1;rw[tu h];rfl
theorem aoM(b:Bool)(xs:J cN)(k:Nat)(h:k<Sx xs):(uP b xs (k+1)).getD k yy=Jx b xs[k]:=by rw[<-afc b xs k h,UA,VA (by rw[OA];exact h)];rfl
theorem amn(hF:100000000<=F){l:J aN}(hv:VL l)(o6:Sx l<=40)(hc:gm cwd=eQ){r:J aA}(h1:Sx r<=10000)(h2:bH r<=3000)(hb:(eJ (Sx ((dD r).filter (xl F))<=2)||((dD r).filter (GF F)).length==0)=eQ):
  yP F l cwd r=iN (FP l (nk F) (cD F) (cL F) cwd r,0):=by
 unfold yP JN wx;rw[Nb _ cwd om,aC,hc,fU,aI,bX om om,aC,aj1 _ r om om om];have qP:=ahk r;have hcl:(iV r).length=Sx (dD r):=by have:=congrArg Sx qP;simpa using this
 have hpl:(partsOf (cD F) (cL F) r).length=Sx (dD r):=by unfold partsOf;rw[gP]
 have hps:=(SV (l:=r)).1;have hfl:=ami r;simp only[aC]
 have hst:((cond (!(ig r==[])) (rq (eJ (0<(Sx (ig r):Int))) (iN ((((ig r).getD 0 0).toNat:Int)==47,([(cN.mk cwd [])]:J cN)))) (iN (eK,([(cN.mk cwd [])]:J cN))):O (Bool×(J cN))).bind λx5=>
   cond x5.1 (iN ([(cN.mk ([47]:Bs) [])]:J cN)) (iN x5.2):O (J cN))=iN ((Dz F) l cwd r 0):=by
  show _=iN [cN.mk (kC cwd (ig r)) []];unfold kC;cases hf:ig r with
  | nil=>rfl|cons b n=>rw[show((b::n:Bs)==[])=eK from rfl,nu,aQ,jP (by simp<;>omega),aC];dsimp only;rw[show(((b::n:Bs).getD 0 0).toNat:Int)=(b.toNat:Int)from rfl,oP b 47 om];rw[show((b::n:Bs).take 1==[47])=(b==47) by simp];cases (b==47)<;>rfl
 rw[hst,aC];have hwf:(partsOf (cD F) (cL F) r).take (partsOf (cD F) (cL F) r).length=partsOf (cD F) (cL F) r:=nW;refine bW (λs:Bool×Int×J cN=>∃i:Nat,s=(!((dD r).take i).all (cL F),(i:Int),(Dz F) l cwd r i)/\i<=Sx (iV r)) (λs=>Sx (iV r)-s.2.1.toNat) ?_ F _ ⟨0,rfl,om⟩ aM;rintro s ⟨i,rfl,hi⟩;dsimp only;by_cases hi:i<Sx (iV r)
 .left;refine⟨(!((dD r).take (i+1)).all (cL F),((i+1:Nat):Int),(Dz F) l cwd r (i+1)),⟨i+1,rfl,om⟩,aM,λrc=>?_⟩;have hip:i<Sx (dD r):=om;have hib:bits (iV r)[i]=bits (dD r)[i]:=by have h3:=congrArg (λL=>L[i]?) qP;simp only[MO,fT hi,fT hip,VF]at h3;exact o4 h3
  have hcm:=fW hi;have htm:=fW hip;obtain⟨q1,q2⟩:=acX r _ hcm;have q3:=aoK r _ hcm;have q4:=Wb _ htm;have q5:=(SV (l:=r)).2 _ htm;have q6:=ame r _ htm;obtain⟨sx,e1,e2⟩:=ZO hF (iV r)[i] (dD r)[i] hib om om om om;have hpi:(partsOf (cD F) (cL F) r)[i]'om=rD (cD F) (cL F) (dD r)[i]:=by unfold partsOf;rw[MP]
  have hsp:(!((dD r).take (i+1)).all (cL F))=(!(cL F) (dD r)[i] || !((dD r).take i).all (cL F)):=by rw[ku hip,List.all_append];simp only[Sy,List.all_nil,abE];cases (cL F) (dD r)[i]<;>cases ((dD r).take i).all (cL F)<;>rfl
  have hnx:=aoL hF l cwd r i om;rw[hpi]at hnx;have hFl:((Dz F) l cwd r i).length<=1600:=by have:=congrArg Sx (Oz hF l cwd r i);rw[gP,gP]at this;rw[this];exact afb hF hv o6 hc r hb _ i
  have hFn:((Dz F) l cwd r (i+1)).length<=1600:=by have:=congrArg Sx (Oz hF l cwd r (i+1));rw[gP,gP]at this;rw[this];exact afb hF hv o6 hc r hb _ (i+1)
  have hFt:∀x∈(Dz F) l cwd r i,Sx x.aR<=200000:=by intro x hx;have hm:x.aR∈((Dz F) l cwd r i).map (λy=>y.aR):=ahp hx;rw[Oz hF]at hm;obtain⟨w,hw,e⟩:=kq.1 hm;rw[<-e];exact jR (Yc w) (aml hF hv h2 _ i w hw)
  rw[hsp,hnx];rw[hnx]at hFn;generalize(Dz F) l cwd r i=xs at hFl hFn hFt;rw[b9 om,bp hi,bN,gd hi,e1,aC,e2,aC,bM om];have e3:((cond (!(cL F) (dD r)[i]) (iN (eQ,xs)) (iN (!((dD r).take i).all (cL F),xs))):O (Bool×J cN))=iN (!(cL F) (dD r)[i] || !((dD r).take i).all (cL F),xs):=by cases (cL F) (dD r)[i]<;>rfl
  rw[e3,aC];dsimp only;refine bW (λs:Int×J cN×J cN=>∃k:Nat,s=((k:Int),uP (eJ (0<i)) xs k,(xs.take k).flatMap ((Jy F) l (rD (cD F) (cL F) (dD r)[i]) (eJ (0<i))))/\k<=Sx xs) (λs=>Sx xs-s.1.toNat) ?_ F _ ⟨0,rfl,om⟩ aM;rintro s ⟨k,rfl,hk⟩;dsimp only;by_cases hk:k<Sx xs
  .left;refine⟨_,⟨k+1,rfl,om⟩,aM,λbA=>?_⟩;have hxk:=hFt _ (fW hk);have hul:=OA (eJ (0<i)) xs k
   have hu1:(cond (eJ (0<(i:Int)))
     (rq ((eJ (0<=(k:Int)))&&(eJ ((k:Int)<(Sx (uP (eJ (0<i)) xs k):Int)))) (rq (eJ (Sx (((uP (eJ (0<i)) xs k).getD (eI (k:Int)) yy).aR)+Sx ([47]:Bs)<=9223372036854775807)) (rq ((eJ (0<=(k:Int)))&&(eJ ((k:Int)<(Sx (uP (eJ (0<i)) xs k):Int))))
      (iN ((uP (eJ (0<i)) xs k).set (eI (k:Int)) (cN.mk ((uP (eJ (0<i)) xs k).getD (eI (k:Int)) yy).fh (((uP (eJ (0<i)) xs k).getD (eI (k:Int)) yy).aR++([47]:Bs))),(xs.take k).flatMap ((Jy F) l (rD (cD F) (cL F) (dD r)[i]) (eJ (0<i))))))))
     (iN (uP (eJ (0<i)) xs k,(xs.take k).flatMap ((Jy F) l (rD (cD F) (cL F) (dD r)[i]) (eJ (0<i))))):O ((J cN)×(J cN)))=iN (uP (eJ (0<i)) xs (k+1),(xs.take k).flatMap ((Jy F) l (rD (cD F) (cL F) (dD r)[i]) (eJ (0<i)))):=by
    by_cases h0:0<i
    .rw[b9 (show(0:Int)<(i:Int) by omega),bX om (by rw[hul];omega),bN,arn _ _ _ hk,vU aM,bX om (by rw[hul];omega)];rw[<-afc _ xs k hk,dT h0];rfl
    .rw[cf (show ¬ (0:Int)<(i:Int) by omega),dF h0,amm xs k hk]
   have atq:=OA (eJ (0<i)) xs (k+1);have ON:((xs.take (k+1)).flatMap ((Jy F) l (rD (cD F) (cL F) (dD r)[i]) (eJ (0<i)))).length<=1600:=by
    refine jR ?_ hFn
    conv=>rhs;rw[<-DB (k+1) xs]
    rw[Ia,ov];omega
   rw[ku hk,Ia,q8,PN,FK]at ON⊢;rw[b9 om,hu1,aC];dsimp only;rw[bX om (by rw[atq];omega),bN,aoM _ _ _ hk,Sj,ato _ l _ om om,aC,bM om];unfold Jy at ON⊢;cases hd:kS l xs[k].fh with
   | false=>simp only[hd,aI,FK]|true=>
    rw[hd,aQ]at ON;have eL:(Jx (eJ (0<i)) xs[k]).aR.length<=1000000:=by
     cases eJ (0<i)with
     | false=>show xs[k].aR.length<=_;omega
     | true=>show(xs[k].aR++[47]).length<=_;rw[ov];simp;omega
    rw[aQ,bX om (by rw[atq];omega),bp hi,step_eq hF hv o6 hib om om om om q3 q6 _ (by rw[Sj];exact hd) eL,aC];rw[dn (by rw[ov]at ON;omega) om,aQ]
  .right;obtain rfl:k=Sx xs:=om;intro bA;rw[cf (by rw[OA];omega),nW]
 .right;obtain rfl:i=Sx (iV r):=om;intro rc;have hFx:(Dz F) l cwd r (iV r).length=(Es F) l eK (partsOf (cD F) (cL F) r) [cN.mk (kC cwd (ig r)) []]:=by unfold Dz;rw[hcl,<-hpl,nW]
  have QB:=Oz hF l cwd r (iV r).length;have hta:(partsOf (cD F) (cL F) r).take (iV r).length=partsOf (cD F) (cL F) r:=by rw[hcl,<-hpl,nW]
  have htp:(dD r).take (iV r).length=dD r:=by rw[hcl,nW]
  rw[hta]at QB;have hWs:=afb hF hv o6 hc r hb (ig r) (iV r).length;rw[hta]at hWs;have hFl:((Dz F) l cwd r (iV r).length).length=Sx (W l (nk F) (partsOf (cD F) (cL F) r) (kC cwd (ig r))):=by have:=congrArg Sx QB;rwa [gP,gP]at this
  have hnd:((W l (nk F) (partsOf (cD F) (cL F) r) (kC cwd (ig r))).map di).Nodup:=by
   have hne:dD r≠[]:=by unfold dD;simp
   have qq:∀c∈partsOf (cD F) (cL F) r,p8 c.aR:=by intro c hcm;obtain⟨t,ht,rfl⟩:=kq.1 hcm;exact ZL r t ht
   refine Sh (ZM hv _ _) λa ha b mJ e=>?_;have hla:=ajV _ _ a ha;have hlb:=ajV _ _ b mJ;have hl0:0<Sx (partsOf (cD F) (cL F) r):=by unfold partsOf;rw[gP];exact AJ.2 hne
   exact aaK (by intro h;rw[h]at hla;simp at hla;omega) (by intro h;rw[h]at hlb;simp at hlb;omega) (aeZ hv _ _ qq a ha) (aeZ hv _ _ qq b mJ) e
  rw[cf om,htp];unfold FP;have hem:((W l (nk F) (partsOf (cD F) (cL F) r) (kC cwd (ig r))).isEmpty)=(((Sx ((Dz F) l cwd r (iV r).length):Int))==0):=by rw[hFl];cases W l (nk F) (partsOf (cD F) (cL F) r) (kC cwd (ig r))with|nil=>rfl|cons a b=>rw[eG.2 aM];rfl
  rw[hem];generalize(Dz F) l cwd r (iV r).length=ys at QB hFl;have e4:(cond (!(!(dD r).all (cL F))) (iN (eQ,ys)) (iN ((Sx ys:Int)==0,ys)):O (Bool×J cN))=iN ((dD r).all (cL F)||((Sx ys:Int)==0),ys):=by cases (dD r).all (cL F)<;>rfl
  rw[e4,aC];dsimp only;cases ((dD r).all (cL F)||((Sx ys:Int)==0))with
  | true=>rfl|false=>
   rw[aI,aI,<-QB];refine bW (λs:J Bs×Int×J cN=>∃k:Nat,s=((ys.take k).map (λy=>y.aR),(k:Int),ys)/\k<=Sx ys) (λs=>Sx ys-s.2.1.toNat) ?_ F _ ⟨0,rfl,om⟩ aM;rintro s ⟨k,rfl,hk⟩;dsimp only;by_cases hk:k<Sx ys
   .left;refine⟨_,⟨k+1,rfl,om⟩,aM,λbA=>?_⟩;rw[b9 om,bp hk,bN,gd hk,dn aM om,bM om,ku hk,lZ];rfl
   .right;obtain rfl:k=Sx ys:=om;intro bA;rw[cf om,nW,Rq F _ (by rw[QB];exact hnd) (by rw[gP];omega) om,aC]
def awf(hF:100000000<=F)(hv:VL fl)(o6:Sx fl<=40):aoI F fl:=λ_ _ hc hb=>amn hF hv o6 hc hb.1 hb.2.1 hb.2.2
theorem expandWords(j:xB)(h1:K.ir j.oy.DM)(h2:K.ir j.oy.qy):∃F,lM F j=iN eQ:=by
 obtain⟨F,hN,hF⟩:∃F,NC<=F/\100000000<=F:=⟨NC+100000000,om,om⟩;refine⟨F,?_⟩;obtain⟨r,hr,e⟩:=atj F j hN hF h1 h2;unfold lM wx
 try simp only[NK]
 rw[e,aC,arf];cases hb:r.2 with
 | false=>rfl|true=>
  obtain⟨⟨hfit,hv,o6,⟨a1,a2⟩,w1,w2⟩,hbw⟩:=hr hb;have hge:=ahe hfit h1 h2;have hA:=hfit.2.2.2.2.2.2.2.2.2;have xQ:∀y∈r.1,gv y.fParts<=200:=λy hy=>by have:=w2 y hy;omega
  have hg:=atd hge hA a2 (by omega:Sx j.jq<=2000);have hws:WS F j.ry r.1 [] (s0 j.oy j.jq):=⟨hg,rfl,hfit.2.2.2.2.1,apG _ _ _ hbw⟩;obtain⟨o1,o2,-⟩:=ahl hN hF hv o6 r.1 [] _ xQ hws (fF _);rw[fU,aI,ath hN hF hv o6 r.1 om xQ hws,aC,atk (awf hF hv o6) hN hF hv o6 r.1 om xQ hws,aC,au1 F om (arh o1 om),aC,aQ,Ic];rfl
