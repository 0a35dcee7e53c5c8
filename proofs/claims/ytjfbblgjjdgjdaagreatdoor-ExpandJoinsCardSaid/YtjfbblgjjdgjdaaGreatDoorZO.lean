import Derived.Test.YtjfbblgjjdgjdaaGreatDoorEf
import Derived.Test.YtjfbblgjjdgjdaaGreatDoorTx
open Go.Op renaming bytesLess->pD
open Go.Lib renaming indexByte->lO
open UInt8 renaming ofNat->lL
open Option renaming some->iN,none->iF
open Bool renaming true->hJ,false->eQ
open Decidable renaming decide->eK
open Int renaming toNat->eJ
open Go.IntKind renaming wrap->dO
open Nat renaming blt->dE
open List renaming length->Ts
set_option linter.all false
namespace Go.Proofs.YtjfbblgjjdgjdaaGreatDoor
open Go.RT
set_option maxRecDepth 100000
def I2{α:Type}(S:α->Prop):Prop:=∀P:α->Nat->Prop,(∀a n m,n<=m->P a n->P a m)->(∀a,S a->∃N,P a N)->∃N,∀a,S a->P a N
theorem aec:∀(k:Nat),I2 (λn=>n<k)
 | 0=>λP hm h=>⟨0,λa ha=>absurd ha (ag7 _)⟩|k+1=>λP hm h=>by
  obtain⟨N,hN⟩:=aec k P hm λa ha=>h a om;obtain⟨M,hM⟩:=h k om;refine⟨N+M,λa ha=>?_⟩;by_cases e:a=k
  ·grind
  ·exact hm _ N _ om (hN a om)
variable{α:Type}{S:α->Prop}
theorem UG{β:Type}{T:β->Prop}(hS:I2 S)(f:α->β)(hf:∀b,T b->∃a,S a/\f a=b):I2 T:=λP hm h=>by
 obtain⟨N,hN⟩:=hS (λa n=>T (f a)->P (f a) n) (λa n m hnm h1 h2=>hm _ n m hnm (h1 h2)) (λa ha=>by
  by_cases ht:T (f a)
  ·simp_all
  simp_all)
 refine⟨N,λb hb=>?_⟩;grind
theorem aqk:I2 (λ_:UInt8=>True):=UG (aec 256) lL λb _=>⟨b.toNat,b.toNat_lt,si⟩
theorem QZ{α β:Type}{S:α->Prop}{T:β->Prop}(hS:I2 S)(hT:I2 T):I2 (λp:α×β=>S p.1/\T p.2):=λP hm h=>by obtain⟨N,hN⟩:=hS (λa n=>∀b,T b->P (a,b) n) (λa n m hnm h1 b hb=>hm _ n m hnm (h1 b hb)) λa ha=>hT (λb n=>P (a,b) n) (λb n m hnm h1=>hm _ n m hnm h1) λb hb=>h (a,b) ⟨ha,hb⟩;exact⟨N,λp hp=>hN p.1 hp.1 p.2 hp.2⟩
theorem Q0{α:Type}{S:α->Prop}(hS:I2 S):∀(k:Nat),I2 (λl:J α=>Ts l<=k/\∀a∈l,S a)
 | 0=>λP hm h=>by simp_all|k+1=>λP hm h=>by
  obtain⟨M,hM⟩:=h [] ⟨fq _,λ_ h=>nomatch h⟩
  obtain⟨N,hN⟩:=QZ hS (Q0 hS k) (λp n=>P (p.1::p.2) n) (λp n m hnm h1=>hm _ n m hnm h1) λp hp=>h _ ⟨by simp_all,λa ha=>by
   grind⟩
  refine⟨N+M,λl hl=>?_⟩;cases l with|nil=>grind|cons a t=>exact hm _ N _ om (hN (a,t) ⟨hl.2 a (tJ),by simp_all,λx hx=>hl.2 x (kV _ hx)⟩)
def UH(k:Nat):I2 (λs:Bs=>Ts s<=k):=UG (Q0 aqk k) id λs hs=>⟨s,⟨hs,λ_ _=>trivial⟩,rfl⟩
def anX:I2 (λl:J cC=>Ts l<=128/\∀b∈l,Ts b.fName<=60/\b.cj.length<=4096):=Q0 (UG (QZ (UH 60) (UH 4096)) (λp=>cC.mk p.1 p.2) λb hb=>⟨(b.fName,b.cj),hb,rfl⟩) 128
end Go.Proofs.YtjfbblgjjdgjdaaGreatDoor
namespace Go.Proofs.YtjfbblgjjdgjdaaGreatDoor.K
open Go.RT
theorem aql{e:d5}(ho:je e){l:J dh}(hl:Ts l<=1000)(hb:Uv l):ij (yN e l).1:=by
 have z:ij 0:=by unfold ij;decide
 unfold yN;cases hv:(iX e 0 != 0)with
 | true=>exact z|false=>
  have jT:iX e 0=0:=by simpa using hv
  have g:Good e:=⟨JM e 0 jT,ho,WN e (JM e 0 jT)⟩;obtain⟨k1,k2⟩:=Qr e g _ _ (Iq hb);grind
theorem anY{I:Env->Prop}(hI:∀m k n,I m->I (jM dc m k (Lib.itoa n))):∀(e:d5)(m:Env),I m->I (mu e m).2.2:=by
 intro e
 induction e using d5.ind with
 | h op n name kids ih=>
  intro m hm;rw[WM];show I (evB op n name (kids.map mu) m).2.2;have hk:∀(i:Nat)(m:Env),I m->I ((kids.map mu).getD i dK m).2.2:=λi m hm=>by
   by_cases h:i<Ts kids
   ·simp_all
   ·rw[U0,Ro (by simpa using h)];exact hm
  unfold evB KM Qq adP;grind
theorem ali(e:d5)(l:J dh):∀b∈(yN e l).2.1,b.cj≠[]\/b∈l:=by
 have nd:∀u:Nat,Lib.decDigits u≠[]:=λu=>by rw[Lib.decDigits];split<;>simp
 have nn:∀n:Int,Lib.itoa n≠[]:=λn=>by unfold Lib.itoa;grind
 have hI:=anY (I:=λm=>∀p∈m,p.2≠[]\/dh.mk p.1 p.2∈l) (λm k n h p hp=>by
  rcases Us hp with rfl|hp
  ·exact .inl (nn n)
  ·exact h p hp) e (vh l) (by
  unfold vh;have key:∀(k:J dh)(m:Env),(∀b∈k,b∈l)->(∀p∈m,p.2≠[]\/dh.mk p.1 p.2∈l)->∀p∈k.foldl (λm b=>jM dc m b.fName b.cj) m,p.2≠[]\/dh.mk p.1 p.2∈l:=by
   intro k
   induction k with
   | nil=>intro m _ h;exact h|cons b k ih=>
    intro m hk h;refine ih _ (λc hc=>hk c (kV _ hc)) λp hp=>?_;rcases Us hp with rfl|hp
    ·simp_all
    ·exact h p hp
  grind)
 intro b hb;unfold yN at hb;revert hb;cases (iX e 0 != 0)
 ·cases ((mu e (vh l)).2.1 != 0)
  ·intro hb;obtain⟨k,hk,rfl⟩:=(DP _ _).1 hb;rcases Na (mu e (vh l)).2.2 k ([]:Bs)with⟨p,hp,h1,h2⟩|⟨h1,_⟩
   ·have:=hI p hp;rw[h1,h2]at this;exact this
   ·exact absurd hk h1
  ·intro hb;cases hb
 ·intro hb;cases hb
def Xi(N:Nat)(s:Bs)(b:J dh):Prop:=∃r:Int×J dh×Int,(ij r.1/\r.2.1.length<=100000/\∀c∈r.2.1,c.cj≠[]\/c∈b)/\∀F,N<=F->Fe F s b=iN r/\CA F s b=iN r
theorem aqm(s:Bs)(b:J dh)(hs:Ts s<=4096)(hl:Ts b<=128)(hb:Uv b):∃N,Xi N s b:=by
 obtain⟨x,⟨ho,hn⟩,hp⟩:=afA s hs;have h1:=adS ho om hb hn;have h2:=afy ho om hb hn;obtain⟨N,hN⟩:=hp.and (h1.and h2);refine⟨N,cond (x.2.2 != 0) (0,[],x.2.2) (yN x.1 b),?_,λF hF=>?_⟩
 ·cases (x.2.2 != 0)with
  | true=>exact⟨show ij 0 by unfold ij;decide,fq _,λ_ h=>nomatch h⟩
  | false=>grind[aql,ak3,ali]
 ·unfold Fe CA wx;grind[d5.eta]
theorem aed:∃N,∀(s:Bs)(b:J dh),Ts s<=4096->Ts b<=128->Uv b->Xi N s b:=by obtain⟨N,hN⟩:=QZ (UH 4096) anX (λp n=>Xi n p.1 p.2) (λp n m hnm ⟨r,h1,h2⟩=>⟨r,h1,λF hF=>h2 F om⟩) λp hp=>aqm p.1 p.2 hp.1 hp.2.1 hp.2.2;exact⟨N,λs b h1 h2 h3=>hN (s,b) ⟨h1,h2,h3⟩⟩
noncomputable def NC:Nat:=Classical.choose aed
def YW:∀(s:Bs)(b:J dh),Ts s<=4096->Ts b<=128->Uv b->Xi NC s b:=Classical.choose_spec aed
end Go.Proofs.YtjfbblgjjdgjdaaGreatDoor.K
namespace Go.Proofs.YtjfbblgjjdgjdaaGreatDoor
open Go.RT
noncomputable def NC:Nat:=K.NC
abbrev ET(l:J cC):Prop:=∀b,b∈l->Ts b.fName<=60/\b.cj.length<=4096
theorem YW(s:Bs)(b:J cC)(h1:Ts s<=4096)(h2:Ts b<=128)(h3:ET b):∃r:Int×J cC×Int,(K.ij r.1/\r.2.1.length<=100000/\∀c∈r.2.1,c.cj≠[]\/c∈b)/\∀F,NC<=F->Fe F s b=iN r/\CA F s b=iN r:=K.YW s b h1 h2 h3
set_option maxRecDepth 100000
def zu(l:J bP):Prop:=l.Pairwise λa b=>a.fName<b.fName
variable{F:Nat}
theorem UI(l:J bP)(p:bP->Bool){m:bP->O Bool}(hm:∀v,m v=iN (p v))(hF:Ts l<F)(hl:Ts l<=1000):
  bX (σ:=Int) (λbD x1=>cond (eK (x1<(Ts l:Int))) (rq ((eK (0<=x1))&&(eK (x1<(Ts l:Int)))) ((m (l.getD (eJ x1) eB)).bind λx3=>cond x3 (iN x1) (bD (aD (x1+1))))) (iN (-1))) F 0=iN ((l.findIdx? p).elim (-1) λi=>(i:Int)):=by
 rw[oK l (λi=>(i:Int)) p (λi _=>iN (i:Int)) (iN (-1)) (s:=(0:Int)) hF rfl (λi h rc=>?_) (λrc=>?_)]
 ·rw[TX _ _ _ eB];cases l.findIdx? p<;>simp
 ·rw[cq om,ck om om,cg,gd h,hm,aE,bH om]
 ·rw[cf om]
theorem UJ(p:bP->Bool):∀l:J bP,l.find? p=(l.findIdx? p).map λi=>l.getD i eB
 | []=>rfl|x::l=>by
  rw[OQ,aaU,UJ p l];cases p x
  ·cases List.findIdx? p l<;>simp
  ·rfl
theorem NB{p:bP->Bool}{l:J bP}{i:Nat}(h:l.findIdx? p=iN i):i<Ts l/\p (l.getD i eB)=hJ:=by grind[List.findIdx?_eq_some_iff_getElem,gd]
theorem ajh(F:Nat)(l:J bP)(n:Bs)(hF:Ts l<F)(hl:Ts l<=1000):xZ F l n=iN (jK l n):=by
 unfold xZ QS jK wx;rw[UI l (λv=>v.fName==n) (m:=λv=>Nw F v n) (λv=>rfl) hF hl,UJ];cases h:l.findIdx? λv=>v.fName==n with
 | none=>rfl|some i=>obtain⟨h1,-⟩:=NB h;simp_all[cq,rq,ck]
theorem Si(F:Nat)(l:J bP)(i k:Nat)(v:bP)(hi:i+k<=Ts l)(hl:Ts l<=1000):tu F l (i:Int) (k:Int) [v]=iN (l.take i++v::l.drop (i+k)):=by
 unfold tu wx;have e1:aD ((Ts l:Int)+(Ts ([v]:J bP):Int))=((Ts l+1:Nat):Int):=bL aR;have e2:aD ((i:Int)+(k:Int))=((i+k:Nat):Int):=bL om;have s1:sl l 0 (i:Int)=l.take i:=by simp[sl]
 have s2:sl l ((i+k:Nat):Int) (Ts l:Int)=l.drop (i+k):=by grind[sl,Int.toNat_natCast,List.take_length]
 grind[cE,ck,oV,K8]
def jb(l:J bP)(n:Bs):Nat×Bool:=match l.findIdx? λv=>v.fName==n with
 | some i=>(i,hJ)|none=>match l.findIdx? λv=>!(pD v.fName n||v.fName==n)with
  | some i=>(i,eQ)|none=>(Ts l,eQ)
theorem alj(F:Nat)(l:J bP)(n:Bs)(hF:Ts l<F)(hl:Ts l<=1000):CN F l n=iN ((((jb l n).1:Nat):Int),(jb l n).2):=by unfold CN KW KX jb wx;rw[UI l (λv=>v.fName==n) (m:=λv=>IG F v n) (λv=>rfl) hF hl,UI l (λv=>!(pD v.fName n||v.fName==n)) (m:=λv=>II F v n) (λv=>rfl) hF hl];grind
theorem aee(l:J bP)(n:Bs):(jb l n).1+cond (jb l n).2 1 0<=Ts l:=by
 unfold jb;split
 ·rename_i i h;exact(NB h).1
 ·split
  ·rename_i i h;exact Nat.le_of_lt (NB h).1
  ·exact eo _
theorem Z4{l:J bP}{n:Bs}:jK l n=cond (jb l n).2 (l.getD (jb l n).1 eB,hJ) (bP.mk [] [] eQ eQ eQ,eQ):=by unfold jb jK;grind[UJ]
theorem Xj{l:J bP}{n:Bs}(h:(jb l n).2=hJ):(l.getD (jb l n).1 eB).fName=n:=by unfold jb at h⊢;grind[NB]
theorem Fm(v:bP):∀(l:J bP),(∀x∈l,¬ x.fName=v.fName)->ou v l hJ=l
 | [],_=>rfl|x::l,h=>by
  have h1:(x.fName==v.fName)=eQ:=by simpa using h x tJ
  simp only[ou,h1,Bool.true_or];rw[Fm v l λy hy=>h y (kV _ hy)];rfl
theorem Hx(v:bP):∀ {l:J bP},zu l->ou v l eQ=l.take (jb l v.fName).1++v::l.drop ((jb l v.fName).1+cond (jb l v.fName).2 1 0)
 | [],_=>rfl|x::l,h=>by
  obtain⟨h1,h2⟩:=zg.1 h;rcases Wz x.fName v.fName with hx|hx|hx
  ·have b1:=(Mw _ _).2 hx;have b2:(x.fName==v.fName)=eQ:=by simpa using λe:x.fName=v.fName=>nD _ (e▸hx)
   have:=Hx v h2;have e:jb (x::l) v.fName=((jb l v.fName).1+1,(jb l v.fName).2):=by
    unfold jb;rw[aaU,aaU,b2,b1];cases l.findIdx? λy=>y.fName==v.fName with
    | some i=>simp|none=>cases l.findIdx? λy=>!(pD y.fName v.fName||y.fName==v.fName)<;>simp
   rw[e];simp only[ou,b1,b2];rw[show(eQ || !hJ)=eQ from rfl,this,show(jb l v.fName).1+1+cond (jb l v.fName).2 1 0=((jb l v.fName).1+cond (jb l v.fName).2 1 0)+1 by omega];rfl
  ·have b1:pD x.fName v.fName=eQ:=(EH _ _).2 (by simp_all);have b2:(x.fName==v.fName)=hJ:=by simpa using hx
   have e:jb (x::l) v.fName=(0,hJ):=by unfold jb;grind
   simp only[ou];grind[Fm,nD]
  ·have b1:=(EH _ _).2 λh=>nD _ (sM h hx);have b2:(x.fName==v.fName)=eQ:=by grind
   have hy:∀y∈l,¬ y.fName=v.fName:=λy hy e=>nD v.fName (sM hx (by grind));have e:jb (x::l) v.fName=(0,eQ):=by unfold jb;grind
   simp[ou,b2];simp_all[Fm]
theorem UK{v:bP}:∀ {l:J bP},zu l->zu (ou v l eQ)
 | [],_=>by unfold zu;exact ag8 _ _|x::l,h=>by
  obtain⟨h1,h2⟩:=zg.1 h;rcases Wz x.fName v.fName with hx|hx|hx
  ·have b1:=(Mw _ _).2 hx;have b2:(x.fName==v.fName)=eQ:=by simpa using λe:x.fName=v.fName=>nD _ (e▸hx)
   simp[ou,b1,b2];refine zg.2 ⟨λy hy=>?_,UK h2⟩;rcases TQ v l _ y hy with rfl|hy
   ·exact hx
   ·exact h1 y hy
  ·have b1:pD x.fName v.fName=eQ:=(EH _ _).2 (by simp_all);have b2:(x.fName==v.fName)=hJ:=by simpa using hx
   simp only[ou,b1,b2];rw[show(eQ || !eQ)=hJ from rfl,Fm v l λy hy e=>nD _ (by have:=h1 y hy;rw[hx,e]at this;exact this)];exact zg.2 ⟨λy hy=>by simp_all,h2⟩
  ·have b1:=(EH _ _).2 λh=>nD _ (sM h hx);have b2:(x.fName==v.fName)=eQ:=by grind
   simp only[ou,b1,b2];rw[show(eQ || !eQ)=hJ from rfl,Fm v l λy hy e=>nD v.fName (sM hx (by grind))];refine zg.2 ⟨λy hy=>?_,h⟩;rcases hU.1 hy with rfl|hy
   ·exact hx
   ·exact sM hx (h1 y hy)
def GA(l:J bP):Prop:=GV l/\zu l
def GA.len{l:J bP}(h:GA l):Ts l<=128:=h.1.1
theorem avD(F:Nat){l:J bP}(h:GA l)(n v:Bs)(hF:1000<F):∃r,GA r.1/\uA F l n v=iN r/\IJ F l n v=iN r:=by
 have hl:=h.1.1;obtain⟨r0,h0,e0⟩:=atk F h.1 n v hF;refine⟨r0,?_⟩;obtain⟨b,hb,eb⟩:=Gi F n om;unfold uA wx at e0⊢;unfold IJ;rw[K.Ik F n om,eb];rw[Ab F l n om om]at e0⊢;rw[eb]at e0;cases b with
 | false=>grind|true=>
  have hle:=aee l n;have hgt:=Z4 (l:=l) (n:=n);have hnm:=Xj (l:=l) (n:=n);have hat:=λa (b c d:Bool)=>(Ry F l (bP.mk n a b c d) om om).trans (congrArg iN (Hx (bP.mk n a b c d) h.2));have zw:=λa (b c d:Bool)=>Hx (bP.mk n a b c d) h.2▸UK h.2;rw[alj F l n om om];rw[hgt]at e0⊢;dsimp only at hat zw hnm⊢;generalize jb l n=q at hle hgt hnm hat zw e0⊢;obtain⟨i,b⟩:=q;cases b with
  | false=>
   dsimp at hle hat zw e0⊢;by_cases h4:4096<Ts v
   ·grind
   rw[cf om]at e0⊢;rw[cf om];simp at e0⊢;by_cases h5:128<=Ts l
   ·grind
   rw[cf om]at e0⊢;rw[hat]at e0⊢;cases e0;refine⟨⟨h0,zw _ _ _ _⟩,rfl,?_⟩;rw[cf om,show((0:Int))=((0:Nat):Int)from rfl,Si F l i 0 _ om om];rfl
  | true=>
   dsimp only[cond_false,cond_true,Option.bind_some]at hle hat zw hnm e0⊢;rw[ck om om,cg];generalize l.getD i eB=o at hnm e0⊢;cases hr:o.mV with|true=>grind|false=>
   rw[hr]at e0;by_cases h4:4096<Ts v
   ·grind
   rw[cf om]at e0⊢;rw[cf om];rw[hat]at e0⊢;cases e0;refine⟨⟨h0,zw _ _ _ _⟩,rfl,?_⟩;rw[ck om om,show((1:Int))=((1:Nat):Int)from rfl,Si F l i 1 _ om om];simp_all
theorem auo(F:Nat){l:J bP}(h:GA l)(n:Bs)(a b:Bool)(hF:1000<F):∃r,GA r.1/\sH F l n a b=iN r/\Ff F l n a b=iN r:=by
 have hl:=h.1.1;obtain⟨r0,h0,e0⟩:=ard F h.1 n a b hF;refine⟨r0,?_⟩;obtain⟨c,hb,eb⟩:=Gi F n om;unfold sH wx at e0⊢;unfold Ff;rw[K.Ik F n om,eb];rw[eb]at e0;cases c with
 | false=>grind|true=>
  rw[Ab F l n om om]at e0⊢;have hle:=aee l n;have hgt:=Z4 (l:=l) (n:=n);have hnm:=Xj (l:=l) (n:=n);have hat:=λa (b c d:Bool)=>(Ry F l (bP.mk n a b c d) om om).trans (congrArg iN (Hx (bP.mk n a b c d) h.2));have zw:=λa (b c d:Bool)=>Hx (bP.mk n a b c d) h.2▸UK h.2;rw[alj F l n om om];rw[hgt]at e0⊢;dsimp only at hat zw hnm⊢;generalize jb l n=q at hle hgt hnm hat zw e0⊢;obtain⟨i,c⟩:=q;cases c with
  | false=>
   dsimp at hle hat zw e0⊢;simp at e0⊢;by_cases h5:128<=Ts l
   ·grind
   rw[cf om]at e0⊢;rw[hat]at e0⊢;cases e0;refine⟨⟨h0,zw _ _ _ _⟩,rfl,?_⟩;rw[cf om,show((0:Int))=((0:Nat):Int)from rfl,Si F l i 0 _ om om];rfl
  | true=>dsimp only[cond_false,cond_true,Option.bind_some]at hle hat zw hnm e0⊢;rw[ck om om];simp[aH]at e0⊢;rw[hat]at e0⊢;cases e0;refine⟨⟨h0,zw _ _ _ _⟩,rfl,?_⟩;rw[show((1:Int))=((1:Nat):Int)from rfl,Si F l i 1 _ om om];simp_all
def rN:Nat->Bs->Nat|a,[]=>a|a,b::l=>rN (10*a+(b.toNat-48)) l
def Db(b:UInt8):Bool:=eK (48<=b.toNat)&&eK (b.toNat<=57)
theorem YX:∀(l:Bs)(a:Nat),a*10^l.length<=rN a l
 | [],a=>Nat.le_of_eq (Rc a)|b::l,a=>by
  have:=YX l (10*a+(b.toNat-48));have h2:a*10^(Ts l+1)<=(10*a+(b.toNat-48))*10^l.length:=by rw[Nat.pow_succ,aa0 (10^l.length)];grind
  show a*10^(Ts l+1)<=rN (10*a+(b.toNat-48)) l;grind
theorem aqn(l:Bs)(a:Nat):a<=rN a l:=by have:=YX l a;have h:=agQ a (Nat.pow_pos (n:=Ts l) (by decide:0<10));omega
theorem UL:∀(l m:Bs)(a:Nat),rN a (l++m)=rN (rN a l) m|[],m,a=>rfl|b::l,m,a=>UL l m _
theorem Z5(s:Bs){k:Nat}(h:k<Ts s):rN 0 (s.take (k+1))=10*rN 0 (s.take k)+(s[k].toNat-48):=by rw[lF h,UL];rfl
theorem alk(s:Bs)(k:Nat):rN 0 (s.take k)<=rN 0 s:=by grind[List.take_append_drop,UL,aqn]
def CU(s:Bs):Int×Bool:=if s.all Db=hJ/\rN 0 s<=2147483647 then((rN 0 s:Nat),hJ)else(0,eQ)
theorem aef{s:Bs}{k:Nat}(h:k<Ts s)(ha:(s.take k).all Db=hJ)(hd:Db s[k]=hJ):(s.take (k+1)).all Db=hJ:=by grind[List.take_succ_eq_append_getElem]
theorem YY{s:Bs}{k:Nat}(h:k<Ts s)(hd:Db s[k]=eQ):CU s=(0,eQ):=by unfold CU;grind
theorem avE(F:Nat)(s:Bs)(hF:Ts s<F)(hl:Ts s<=1000)(h0:s≠[])(h1:s.getD 0 0≠48):rI F s=iN (CU s):=by
 have:aA (λr=>r=CU s) (rI F s):=by
  unfold rI wx;have e1:(s==[48])=eQ:=by grind
  have e2:(s==[])=eQ:=by simpa using h0
  have e3:(((s.getD 0 0).toNat:Int)==48)=eQ:=by have:(s.getD 0 0).toNat≠48:=λh=>h1 (by apply ag9.1;rw[h];rfl);grind
  have:=Bn.2 h0;rw[e1,e2,aJ,aJ,kK om,e3,aE,aJ];refine aA.lp (λz:Int×Bs×Int=>z.2.1=s/\∃k:Nat,z.2.2=(k:Int)/\k<=Ts s/\(s.take k).all Db=hJ/\z.1=(rN 0 (s.take k):Nat)/\rN 0 (s.take k)<=2147483647) (λz=>Ts s-z.2.2.toNat) ⟨rfl,0,rfl,om,rfl,rfl,fq _⟩ (by simp_all) ?_;rintro⟨x,s',p⟩ ⟨q1,k,q2,h2,h3,q3,h4⟩ rc hrc;have q1:=q1.symm;subst q1 q2 q3;rw[cg];by_cases hk:k<Ts s
  ·have hb:dE k s.length=hJ:=aaT hk;rw[hb,aU,K.akN,aE];have hgd:s.getD k 0=s[k]:=gd hk;by_cases hs:(s.getD k 0).toNat<128
   ·rw[K.AR hs];have hdd:K.gu ((s.getD k 0).toNat:Int)=Db s[k]:=by unfold K.gu Db;grind
    rw[hdd];cases hd:Db s[k]with
    | false=>grind[aA.ok,YY]|true=>
     have hd':=hd;unfold Db at hd';rw[cK,fW,fW]at hd';have ev:=Z5 s hk;have e5:aD ((aD (10*((rN 0 (s.take k):Nat):Int)))+(aD (dO .i32 (((s.getD k 0).toNat:Int)-48))))=((rN 0 (s.take (k+1)):Nat):Int):=by rw[hgd,show dO .i32 ((s[k].toNat:Int)-48)=(s[k].toNat:Int)-48 from IntWalk.i32_in _ om,bL (x:=(s[k].toNat:Int)-48) om,bL (x:=10*_) om,bL om,ev];omega
     dsimp only;rw[e5];refine aA.cd (λh=>aA.ok ?_) λh=>hrc _ ⟨rfl,k+1,rfl,hk,aef hk h3 hd,rfl,om⟩ (by grind);have:=alk s (k+1);unfold CU;rw[if_neg om]
   ·have:=K.ZT hs;have:K.gu ((dec s k).1:Int)=eQ:=by unfold K.gu;grind
    rw[this];refine aA.ok (YY hk ?_).symm;unfold Db;grind
  ·have hb:dE k s.length=eQ:=by cases h:dE k s.length with|false=>rfl|true=>exact absurd (lY h) hk
   rw[hb,aJ];refine aA.ok ?_;unfold CU;grind
 obtain⟨r,h,e⟩:=this;rw[e,h]
theorem avF(F:Nat)(s:Bs)(hF:Ts s<F)(hl:Ts s<=1000)(h0:s≠[])(h1:s.getD 0 0≠48):nq F s=iN (CU s):=by
 have:aA (λr=>r=CU s) (nq F s):=by
  unfold nq wx;have e2:(s==[])=eQ:=by simpa using h0
  have e3:(((s.getD 0 0).toNat:Int)==48)=eQ:=by have:(s.getD 0 0).toNat≠48:=λh=>h1 (by apply ag9.1;rw[h];rfl);grind
  have hp:=Bn.2 h0;rw[e2,aJ,aE];refine aA.bd (P:=λb=>b=eK (10<Ts s)) (aA.cd (λh=>aA.ok (by grind)) λh=>?_) λb hb=>?_
  ·grind[kK,aA.ok,decide_eq_false]
  subst hb;refine aA.cd (λh=>aA.ok ?_) λh=>?_
  ·unfold CU;rw[if_neg λhh=>?_];have hall:=pP.1 hh.1;obtain⟨a,l,rfl⟩:∃a l,s=a::l:=by cases s with|nil=>exact absurd rfl h0|cons a l=>exact⟨a,l,rfl⟩
   have ha:=hall a tJ;unfold Db at ha;rw[cK,fW,fW]at ha;have hne:a.toNat≠48:=λh=>h1 (by simp_all);have h5:=YX l (10*0+(a.toNat-48));have h6:10^10<=10^l.length:=aha de (by simp at h;omega);have h7:1*10^l.length<=(10*0+(a.toNat-48))*10^l.length:=Au _ om;have h8:rN 0 (a::l)=rN (10*0+(a.toNat-48)) l:=rfl;grind
  ·refine aA.lp (λz:Int×Int=>∃k:Nat,z.2=(k:Int)/\k<=Ts s/\(s.take k).all Db=hJ/\z.1=(rN 0 (s.take k):Nat)/\rN 0 (s.take k)<10^k) (λz=>Ts s-z.2.toNat) ⟨0,rfl,om,rfl,rfl,Nat.one_pos⟩ (by simp_all) ?_;rintro⟨x,p⟩ ⟨k,q2,h2,h3,q3,h4⟩ rc hrc;dsimp only at q2 q3 hrc⊢;subst q2 q3;refine aA.cd (λhk=>?_) λhk=>?_
   ·have hk:k<Ts s:=om;have hgd:s.getD k 0=s[k]:=gd hk;rw[ck om om,cg,K.WC,aE,hgd];have hdd:K.gu (s[k].toNat:Int)=Db s[k]:=by unfold K.gu Db;grind
    rw[hdd];cases hd:Db s[k]with
    | false=>grind[aA.ok,YY]|true=>
     have hd':=hd;unfold Db at hd';rw[cK,fW,fW]at hd';have ev:=Z5 s hk;have h10:10^k<=10^9:=aha de om;have e5:aD ((aD (10*((rN 0 (s.take k):Nat):Int)))+(aD (dO .u8 ((s[k].toNat:Int)-48))))=((rN 0 (s.take (k+1)):Nat):Int):=by
      rw[show dO .u8 ((s[k].toNat:Int)-48)=(s[k].toNat:Int)-48 from by
       show((s[k].toNat:Int)-48)%256=_;omega,bL (x:=(s[k].toNat:Int)-48) om,bL (x:=10*_) om,bL om,ev]
      omega
     rw[ia,aJ,ck om om,e5,bH om];refine hrc _ ⟨k+1,rfl,hk,aef hk h3 hd,rfl,?_⟩ (by grind);grind
   ·rw[uK om]at h3 h4⊢;unfold CU;refine aA.cd (λh=>aA.ok ?_) λh=>aA.ok ?_
    ·rw[if_neg om]
    grind
 obtain⟨r,h,e⟩:=this;rw[e,h]
def NoF(e:eP):Prop:=e.vr=[]/\e.pT=[]/\e.vu=[]
def Xk(e:eP):Prop:=GV e.b8/\e.cZ.length<=12/\(∀x∈e.cZ,Ts x<=60)/\e.fName.length<=60/\K.ij e.ic/\K.ij e.Dp/\K.ij e.qq/\NoF e
def GS(s:aO):Prop:=Xk s.b9/\(∀a∈s.dw,Ts a.fText<=60)/\s.dw.length<=2000/\∃u:Nat,s.fused=(u:Int)/\u<=Ts s.dw
def stop(s:aO):Bool:=s.fe != 0||s.fO
def RB(k:Nat)(l:J aB):Prop:=Ts l<=26*k/\bV l<=5000*k
theorem RB.one{k:Nat}{t:Bs}{c:Int}(hk:1<=k)(h:Ts t<=5000*k):RB k [aB.mk t c]:=⟨aR,by simp[bV];omega⟩
theorem RB.nil{k:Nat}:RB k []:=⟨si,by simp[bV]⟩
theorem RB.mono{k j:Nat}{l:J aB}(h:RB k l)(hj:k<=j):RB j l:=⟨by have:=h.1;omega,by have:=h.2;omega⟩
theorem RB.app{k j:Nat}{l m:J aB}(h:RB k l)(h':RB j m):RB (k+j) (l++m):=⟨by have:=h.1;have:=h'.1;grind,by have:=h.2;have:=h'.2;rw[Dv];omega⟩
theorem nW(F:Nat)(s:aO):jk F s=iN (stop s):=by unfold jk wx;rw[aH];rfl
theorem uy(F:Nat)(e:Int)(m:Bs)(s:aO):fR F e m s=iN (cond (stop s) s {s with fe:=e,fJ:=m}):=by unfold fR wx;grind[nW]
variable{s:aO}
theorem alm{e:Int}(he:e≠0)(m:Bs):stop (cond (stop s) s {s with fe:=e,fJ:=m})=hJ:=by
 cases h:stop s with
 | true=>exact h|false=>show(e != 0||_)=hJ;simp_all
theorem Sj(F:Nat)(p:cO):∃c,eV F p=iN c:=by unfold eV wx;simp_all[aH]
theorem asF(F:Nat)(p:cO):∃c,rG F p=iN c:=by unfold rG wx;simp_all[aH]
theorem anZ(F:Nat)(e:Int):aA (λr=>Ts r<=100) (CB F e):=by exact aA.cb (λ_=>aA.ok de) λ_=>aA.cb (λ_=>aA.ok de) λ_=>aA.cb (λ_=>aA.ok de) λ_=>aA.cb (λ_=>aA.ok de) λ_=>aA.ok de
theorem an0(F:Nat)(o:Int)(c s:Bool)(v:Bs):∃r,ur F o c s v=iN r:=by unfold ur wx;simp_all[aH,aE]
theorem aoY(F:Nat)(p:d6):∃b,xW F p=iN b:=by unfold xW wx;simp_all[aH,aE]
def aup(F:Nat)(n:Int)(hF:30<=F)(h:K.ij n):∃r,Ts r<=60/\dV F n=iN r:=⟨_,K.yM h,K.LF F hF h⟩
theorem aln(F:Nat)(l:J aB)(hF:Ts l<F)(h1:Ts l<=1000000000)(h2:bV l<=1000000000):Cv F l=iN (l.flatMap λr=>r.fText):=by
 have:aA (λr=>r=l.flatMap λr=>r.fText) (Cv F l):=by
  have hsz:∀k,Ts ((l.take k).flatMap λr=>r.fText)<=bV l:=λk=>by
   have h:(l.flatMap λr=>r.fText)=((l.take k).flatMap λr=>r.fText)++((l.drop k).flatMap λr=>r.fText):=by rw[<-Mi,Hz]
   have h2:bV l=Ts (l.flatMap λr=>r.fText):=by unfold bV;rw[List.length_flatMap]
   simp_all
  refine aA.lp (λz=>∃k:Nat,z.2=(k:Int)/\k<=Ts l/\z.1=(l.take k).flatMap λr=>r.fText) (λz=>Ts l-z.2.toNat) ⟨0,rfl,om,si⟩ (by simp_all) ?_;rintro⟨_,_⟩ ⟨k,rfl,h3,rfl⟩ rc hrc;dsimp only at hrc⊢;refine aA.cd (λh=>?_) λh=>aA.ok (by grind);have hk:k<Ts l:=om;have e1:((l.take (k+1)).flatMap λr=>r.fText)=((l.take k).flatMap λr=>r.fText)++l[k].fText:=by rw[Bb _ _ _ hk]
  have h5:=hsz (k+1);rw[e1,nX]at h5;rw[ck om om,cg,gd hk,bH om];exact aA.rq (decide_eq_true om) (hrc _ ⟨k+1,rfl,hk,e1.symm⟩ (by grind))
 obtain⟨r,h,e⟩:=this;rw[e,h]
theorem auq(F:Nat)(n:Bs)(hF:Ts n<F)(hn:Ts n<=1000):∃r,iA F n=iN r:=by
 by_cases h:n=[]
 ·subst h;exact⟨0,rfl⟩
 have:=Bn.2 h;obtain⟨d,hd⟩:=Xu F n hF om;unfold iA wx;rw[kK om];simp_all[aE,aH]
variable{e:eP}
theorem aqo(F:Nat)(h:Xk e)(n:Bs)(hF:1000<F)(hn:Ts n<=1000):aA (λr=>Ts r.1<=4096) (kU F e n):=by
 obtain⟨hV,hP,hP',hN,h1,h2,h3,-⟩:=h;have hl:=hV.1;unfold kU wx;obtain⟨p,hp⟩:=auq F n om om;rw[hp,aE,Ab F e.b8 n om om];refine aA.bd (Gi F n om) λb _=>aA.cb (λ_=>?_) λ_=>?_
 ·exact aA.cb (λ_=>aA.ok de) λ_=>aA.ok (Rx hV n).2
 rw[aH];refine aA.cb (λhc=>?_) λ_=>?_
 ·rw[cF,cK]at hc;have c1:=zi hc.1;have c2:=zi hc.2;rw[bL om];refine aA.rq (mM om om) (aA.ok ?_);have hk:(p-1).toNat<Ts e.cZ:=om;rw[gd hk];grind
 refine aA.cb (λ_=>aA.ok (by grind)) λ_=>?_;have dec:∀(m:Int),K.ij m->aA (λr=>Ts r.1<=4096) ((dV F m).bind λx=>iN (x,hJ)):=λm hm=>by obtain⟨r,h1,h2⟩:=aup F m om hm;grind[aA.ok]
 refine aA.cb (λ_=>dec _ ⟨om,om⟩) λ_=>aA.cb (λ_=>dec _ h1) λ_=>aA.cb (λ_=>?_) λ_=>aA.cb (λ_=>dec _ h2) λ_=>?_
 ·grind[aA.bd,apl,aA.ok]
 rw[aH];refine aA.cb (λ_=>dec _ h3) λ_=>aA.cb (λ_=>?_) λ_=>aA.cb (λ_=>?_) λ_=>aA.ok de
 ·grind[aA.bd,ajE,aA.ok]
 grind[aA.bd,ajF,ajE,aA.ok]
theorem aqp(F:Nat)(h:GS s)(n v:Bs)(p:cO)(hv:Ts v<=4096)(hF:1000<F):aA (RB 1) (nO F n v p s):=by
 obtain⟨⟨hV,hP,hP',-⟩,-⟩:=h;unfold nO wx;simp only[aH];obtain⟨c,hc⟩:=Sj F p;rw[hc];refine aA.cb (λ_=>aA.ok (RB.one om om)) λ_=>?_;refine aA.lp (λz=>∃k:Nat,z.2=(k:Int)/\k<=Ts s.b9.cZ/\z.1.length<=2*k/\bV z.1<=60*k) (λz=>Ts s.b9.cZ-z.2.toNat) ⟨0,rfl,om,si,by simp[bV]⟩ (by grind) ?_;rintro⟨o,_⟩ ⟨k,rfl,h1,h2,h3⟩ rc hrc;refine aA.cd (λh=>?_) λ_=>aA.ok ⟨om,om⟩;have hk:k<Ts s.b9.cZ:=om;have hx:=hP' _ (fm hk);refine aA.bd (P:=λu=>Ts u<=2*k+1/\bV u<=60*k) (aA.cd (λ_=>aA.rq (oV (by grind) de) (aA.ok ⟨aR,by rw[Dv];show bV o+0<=_;omega⟩)) λ_=>aA.ok ⟨om,h3⟩) λu hu=>?_;rw[ck om om,cg,gd hk,bH om];refine aA.rq (oV (by grind) de) (hrc _ ⟨k+1,rfl,hk,?_,?_⟩ (by grind))
 ·grind
 ·show bV (u++[aB.mk s.b9.cZ[k] c])<=_;rw[Dv];simp[bV]at hu⊢;omega
def asG(F:Nat)(o:Int):EA F o=zB F o:=rfl
theorem alo(g x:Bs):∀l:J Bs,l≠[]->Lib.join (l++[x]) g=Lib.join l g++(g++x)|[],h=>absurd rfl h|a::l,_=>by rw[rY,Lib.join_cons,Lib.join_cons];unfold Lib.joinTail;simp
theorem Z6(l:J Bs)(g:Bs)(n:Nat)(hg:Ts g<=1)(h:∀a∈l,a.length<=n):(Lib.join l g).length<=(n+1)*Ts l:=by
 cases l with
 | nil=>simp[Lib.join_nil]|cons a r=>
  rw[Lib.join_cons];have h2:∀r:J Bs,(∀c∈r,Ts c<=n)->Ts (Lib.joinTail g r)<=(n+1)*Ts r:=λr=>by
   unfold Lib.joinTail
   induction r with|nil=>intro _;simp|cons b r ih=>grind[List.mem_cons_self,List.mem_cons_of_mem,List.flatten_cons,List.length_append,List.length_cons,Nat.mul_succ]
  grind[List.mem_cons_of_mem,List.length_append,List.length_cons,Nat.mul_succ]
theorem aur(F:Nat)(l:J Bs)(g:Bs)(hF:100<F)(h1:Ts l<=12)(h2:∀x∈l,Ts x<=60)(hg:Ts g<=1):Ad F l g=iN (Lib.join l g)/\uS F l g=iN (Lib.join l g):=by
 have hlen:=Z6 l g 60 hg h2;constructor
 ·grind[Ad,ck]
 have:aA (λr=>r=Lib.join l g) (uS F l g):=by
  refine aA.lp (λz=>∃k:Nat,z.2=(k:Int)/\k<=Ts l/\z.1=Lib.join (l.take k) g) (λz=>Ts l-z.2.toNat) ⟨0,rfl,om,by simp[Lib.join_nil]⟩ (by grind) ?_;rintro⟨o,p⟩ ⟨k,q1,h3,q2⟩ rc hrc;dsimp only at q1 q2 hrc⊢;subst q1 q2;have hj:(Lib.join (l.take k) g).length<=61*12:=by have a:=Z6 (l.take k) g 60 hg λx hx=>h2 x (Mh hx);grind
  refine aA.cd (λh=>?_) λh=>aA.ok (by grind);have hk:k<Ts l:=om;have hx:=h2 _ (fm hk);have e1:Lib.join (l.take (k+1)) g=(if 0<k then Lib.join (l.take k) g++g else Lib.join (l.take k) g)++l[k]:=by
   rw[lF hk];by_cases h0:0<k
   ·rw[if_pos h0,alo _ _ _ (λe=>by have:=congrArg Ts e;simp_all),tI]
   ·obtain rfl:k=0:=om;simp[Lib.join_nil,Lib.join_cons,Lib.joinTail]
  refine aA.bd (P:=λu=>u=if 0<k then Lib.join (l.take k) g++g else Lib.join (l.take k) g) (aA.cd (λh0=>aA.rq (eN om) (aA.ok (by rw[if_pos om]))) λh0=>aA.ok (by rw[if_neg om])) λu hu=>?_;have hul:Ts u<=61*12+1:=by grind
  rw[ck om om,cg,gd hk,bH om];refine aA.rq (decide_eq_true om) (hrc _ ⟨k+1,rfl,hk,by dsimp only;rw[e1,hu]⟩ (by grind))
 obtain⟨r,h,e⟩:=this;rw[e,h]
def spec(n:Bs):Bool:=[[64],[42],[35],[63],[45],[36],[33],[48]].contains n
theorem alp:∀n:Fin 256,eK (0<=lO [64,42,35,63,45,36,33,48] (lL n.val))=spec [lL n.val]:=by decide +kernel
theorem aeg{n:Bs}(h:spec n=hJ):Ts n=1:=by unfold spec at h;simp at h;grind
theorem aus(F:Nat)(n:Bs):Aq F n=iN (spec n):=by
 unfold Aq wx;by_cases h:Ts n=1
 ·obtain⟨b,rfl⟩:=aaX.1 h;have hb:=alp ⟨b.toNat,b.toNat_lt⟩;have e:stringslite_Index F [64,42,35,63,45,36,33,48] [b]=iN (lO [64,42,35,63,45,36,33,48] b):=by
   unfold stringslite_Index stringslite_IndexByte wx;have e1:(([b]:Bs)==[64,42,35,63,45,36,33,48])=eQ:=by simp_all
   simp;show((Y4 F _ _).bind _)=_;simp_all[Y4,cg]
  unfold strings_Contains strings_Index wx;simp_all
 grind[beq_eq_false_iff_ne,aeg]
theorem aji(F:Nat)(hF:30<=F){n:Int}(h:K.ij n):qy F n=iN (Lib.itoa n):=by unfold qy;rw[ck h.1 h.2]
theorem avG(F:Nat)(e:eP)(hF:1000<F)(hl:Ts e.b8<=128):sV F e=uT F e.b8:=by
 unfold sV oF uT wx;rw[ajh F _ _ om om,Ab F _ _ om om];have hb:(jK e.b8 [73,70,83]).2=eQ->(jK e.b8 [73,70,83]).1=bP.mk [] [] eQ eQ eQ:=by unfold jK;cases e.b8.find? _<;>simp
 grind
theorem avH(F:Nat)(e:eP)(n:Bs)(hF:1000<F)(hl:Ts e.b8<=128):oF F e n=iN (cond (jK e.b8 n).1.cL ((jK e.b8 n).1.cj,hJ) ([],eQ)):=by
 unfold oF wx;rw[ajh F _ _ om om];have hb:(jK e.b8 n).2=eQ->(jK e.b8 n).1=bP.mk [] [] eQ eQ eQ:=by unfold jK;cases e.b8.find? _<;>simp
 grind
theorem asH(F:Nat)(h:Xk e)(n:Bs)(hF:2000<F)(hn:Ts n<=1000):z6 F e n=kU F e n:=by
 obtain⟨hV,hP,hP',hN,r1,r2,r3,-⟩:=h;have hl:=hV.1;have hj:=λg hg=>aur F e.cZ g om hP hP' hg;have R:K.ij (Ts e.cZ:Int):=⟨om,om⟩;have I:=λ{x:Int}(h:K.ij x)=>aji F om h;have D:=λ{x:Int}(h:K.ij x)=>K.LF F om h;unfold z6 wx;rw[aus,aE];cases hs:spec n with
 | true=>
  rw[aU,kK (by have:=aeg hs;omega)];unfold spec at hs;simp only[aa8,hU,Dd,De]at hs;have fin:∀x:O (Bs×Bool),(x.bind λx2=>iN (x2.1,x2.2))=x:=λx=>by cases x<;>rfl
  rw[fin];unfold ye kU iA wx;obtain⟨g,hg,eg⟩:=ajF F hV om;obtain⟨m,rfl⟩:∃m,F=m+100:=⟨F-100,om⟩;rcases hs with rfl|rfl|rfl|rfl|rfl|rfl|rfl|rfl
  ·show((Ad (m+100) e.cZ [32]).bind _)=((uS (m+100) e.cZ [32]).bind _);rw[(hj [32] de).1,(hj [32] de).2]
  ·show((sV (m+100) e).bind _)=((uT (m+100) e.b8).bind _);grind[avG]
  ·show((qy (m+100) _).bind _)=((dV (m+100) _).bind _);rw[I R,D R]
  ·show((qy (m+100) _).bind _)=((dV (m+100) _).bind _);rw[I r1,D r1]
  ·show((EA (m+100) _).bind _)=((zB (m+100) _).bind _);rw[asG]
  ·show((qy (m+100) _).bind _)=((dV (m+100) _).bind _);rw[I r2,D r2]
  ·show cond (e.qq==0) (iN ([],eQ)) ((qy (m+100) e.qq).bind _)=(Option.bind (iN (e.qq != 0)) λx9=>cond x9 ((dV (m+100) e.qq).bind λcz=>iN (cz,hJ)) (iN ([],eQ)));grind
  ·rfl
 | false=>
  rw[aJ];have ne:∀x,x∈([[64],[42],[35],[63],[45],[36],[33],[48]]:J Bs)->(n==x)=eQ:=λx hx=>by
   rw[iu];intro h;subst h;have:spec n=hJ:=by unfold spec;exact aa8.2 hx
   rw[this]at hs;cases hs
  have ends:∀(p:Int),¬ (0<p/\p<=Ts e.cZ)->iA F n=iN p->fL F n=iN eQ->kU F e n=iN ([],eQ):=by
   intro p hp h1 h2;unfold kU wx;rw[h1,aE,h2,aE,aJ,aH,aE]
   rw[show(cond (eK (0<p)) (eK (p<=(Ts e.cZ:Int))) eQ)=eQ from by
    simp_all]
   rw[ne [48] de,ne [35] de,ne [63] de,ne [45] de,ne [36] de,ne [33] de,ne [64] de,ne [42] de];rfl
  have aoZ:∀b,fL F n=iN b->iA F n=iN 0->((mF F n).bind λx5=>cond (!x5) (iN ([],eQ)) ((oF F e n).bind λx6=>iN (x6.1,x6.2)))=kU F e n:=by
   intro b hb hp;rw[K.Ik F n om,hb,aE];cases b with
   | false=>rw[ends 0 om hp hb];rfl|true=>unfold kU wx;rw[hp,aE,hb,aE,aU,avH F e n om hl,Ab F _ _ om om,aE,aE];cases (jK e.b8 n).1.cL<;>rfl
  obtain⟨b,-,hb⟩:=Gi F n om;by_cases h0:n=[]
  ·subst h0;exact aoZ b hb rfl
  by_cases h1:n.getD 0 0=48
  ·have hp:=Bn.2 h0;have hc:(((n.getD 0 0).toNat:Int)==48)=hJ:=by rw[h1];rfl
   have e1:rI F n=iN (0,eQ):=by unfold rI wx;rw[ne [48] de,aJ,show(n==[])=eQ from by simpa using h0,aJ,kK om,hc,aE];rfl
   obtain⟨d,hd⟩:=Xu F n om om;have e2:iA F n=iN 0:=by unfold iA wx;rw[hd,kK om,hc];grind
   rw[e1,aE];exact aoZ b hb e2
  ·have hp:=Bn.2 h0;have hc:(((n.getD 0 0).toNat:Int)==48)=eQ:=by rw[beq_eq_false_iff_ne];intro h;exact h1 (by apply UInt8.toNat_inj.1;grind)
   rw[avE F n om hn h0 h1,aE];have e2:iA F n=iN (cond (CU n).2 (CU n).1 0):=by unfold iA wx;rw[avF F n om hn h0 h1,kK om,hc,aE];simp only[aH,aE];unfold CU;grind
   cases hd:(CU n).2 with
   | false=>simp_all|true=>
    rw[hd,aU]at e2;rw[aU];have hnm:fL F n=iN eQ:=by
     unfold CU at hd;split at hd
     ·rename_i hh;have h8:=pP.1 hh.1 _ (fm (n:=0) hp);unfold Db at h8;rw[cK,fW,fW]at h8;unfold fL wx;rw[show(n==[])=eQ from by simpa using h0,aJ,aE,kK om,K.WC];have:K.gu ((n.getD 0 0).toNat:Int)=hJ:=by unfold K.gu;grind
      simp_all
     ·cases hd
    have Tm:0<=(CU n).1/\(CU n).1<=2147483647:=by unfold CU;grind
    generalize(CU n).1=d at e2 Tm⊢;rw[aH,aE];by_cases wY:0<d/\d<=Ts e.cZ
    ·rw[show(cond (eK (d<1)) hJ (eK ((Ts e.cZ:Int)<d)))=eQ from by grind,cond_false];unfold kU wx;simp_all
    grind
def T2{A B:Type}(Q:A->B->Prop)(x:O A)(y:O B):Prop:=∃a b,Q a b/\x=iN a/\y=iN b
variable{A B C D σ τ:Type}{P:C->D->Prop}{x:O A}{y:O B}{g:D->O B}{x':O A}{y':O B}{b1:(σ->O A)->σ->O A}{b2:(τ->O B)->τ->O B}
section
variable {Q : A -> B -> Prop}
theorem T2.ok{a:A}{b:B}(h:Q a b):T2 Q (iN a) (iN b):=⟨a,b,h,rfl,rfl⟩
theorem T2.mono{P:A->B->Prop}(h:T2 P x y)(f:∀a b,P a b->Q a b):T2 Q x y:=by obtain⟨a,b,h,e⟩:=h;exact⟨a,b,f a b h,e⟩
theorem T2.bd{x:O C}{y:O D}{f:C->O A}(h:T2 P x y)(k:∀a b,P a b->T2 Q (f a) (g b)):T2 Q (x.bind f) (y.bind g):=by obtain⟨a,b,h,rfl,rfl⟩:=h;exact k a b h
theorem T2.l{P:C->Prop}{x:O C}{f:C->O A}(h:aA P x)(k:∀a,P a->T2 Q (f a) y):T2 Q (x.bind f) y:=by obtain⟨a,h,rfl⟩:=h;exact k a h
theorem T2.r{P:D->Prop}{y:O D}(h:aA P y)(k:∀b,P b->T2 Q x (g b)):T2 Q x (y.bind g):=by obtain⟨a,h,rfl⟩:=h;exact k a h
theorem T2.ql{c:Bool}(h:c=hJ)(k:T2 Q x y):T2 Q (rq c x) y:=by subst h;exact k
theorem T2.qr{c:Bool}(h:c=hJ)(k:T2 Q x y):T2 Q x (rq c y):=by subst h;exact k
theorem T2.cb{c:Bool}(a:c=hJ->T2 Q x y)(b:c=eQ->T2 Q x' y'):T2 Q (cond c x x') (cond c y y'):=by grind
theorem T2.cl{c:Bool}(a:c=hJ->T2 Q x y)(b:c=eQ->T2 Q x' y):T2 Q (cond c x x') y:=by grind
theorem T2.cr{c:Bool}(a:c=hJ->T2 Q x y)(b:c=eQ->T2 Q x y'):T2 Q x (cond c y y'):=by grind
theorem T2.lp(P:σ->τ->Prop)(m:σ->Nat){s:σ}{t:τ}(h0:P s t)(hF:m s<F)
  (hs:∀s t,P s t->∀r1 r2,(∀s' t',P s' t'->m s'<m s->T2 Q (r1 s') (r2 t'))->T2 Q (b1 r1 s) (b2 r2 t)):T2 Q (bX b1 F s) (bX b2 F t):=by
 induction F generalizing s t with|zero=>omega|succ F ih=>grind[bX]
end
def lW(s:aO):Prop:=GS s/\zu s.b9.b8/\(s.fO=eQ->s.yS=[])
def iL(fl:J aZ)(s:aO):aP:=aP.mk s.b9 fl (s.dw.drop s.fused.toNat) s.lq eQ [] [] 0
def Fin(x:aP)(s:aO):Prop:=(s.fe≠0/\x.fO=eQ/\x.xU=s.fe/\x.fJ=s.fJ)\/(s.fe=0/\x.fO=hJ/\x.yS=s.yS/\x.b9=s.b9/\x.lq=s.lq)
def RR{A:Type}(fl:J aZ)(I:J A->Prop)(a:J A×Bool×aP)(b:J A×aO):Prop:=lW b.2/\I b.1/\((stop b.2=eQ/\a=(b.1,hJ,iL fl b.2))\/(stop b.2=hJ/\a.2.1=eQ/\Fin a.2.2 b.2/\a.1=[]))
def RA(fl:J aZ)(a:Bool×aP)(b:aO):Prop:=lW b/\((stop b=eQ/\a=(hJ,iL fl b))\/(stop b=hJ/\a.1=eQ/\Fin a.2 b))
theorem Bl(h:stop s=eQ):s.fe=0/\s.fO=eQ:=by unfold stop at h;simp_all
theorem asI{e:Int}{m:Bs}(he:e≠0):stop {s with fe:=e,fJ:=m} = hJ:=by show(e != 0||s.fO)=hJ;simp_all
variable{fl:J aZ}
theorem failed{e:Int}{m:Bs}(hs:stop s=eQ)(he:e≠0):stop (cond (stop s) s {s with fe:=e,fJ:=m})=hJ/\Fin {iL fl s with xU:=e,fJ:=m} (cond (stop s) s {s with fe:=e,fJ:=m}):=by rw[hs];exact⟨asI he,.inl ⟨he,rfl,rfl,rfl⟩⟩
theorem ND(h:lW s)(e:Int)(m:Bs):lW (cond (stop s) s {s with fe:=e,fJ:=m}):=by cases stop s<;>exact h
theorem RR.err{A:Type}{I:J A->Prop}{r:J A}{e:Int}{m:Bs}{x:aP}(h:lW s)(hi:I r)(hs:stop s=eQ)(he:e≠0)(hx:x={iL fl s with xU:=e,fJ:=m}):RR fl I ([],eQ,x) (r,cond (stop s) s {s with fe:=e,fJ:=m}):=by subst hx;have:=failed (fl:=fl) (m:=m) hs he;exact⟨ND h _ _,hi,.inr ⟨this.1,rfl,this.2,rfl⟩⟩
theorem L5(F:Nat)(m:Bs)(x:aP):iK F m x=iN (eQ,{x with fJ:=m,xU:=32}):=rfl
def aut(F:Nat)(e:Int)(x:aP):fZ F e x=iN (eQ,{x with xU:=e}):=rfl
theorem alq(v:bP){l:J bP}(h:zu l):v∈ou v l eQ:=by rw[Hx v h];simp
theorem get_mem{l:J bP}{n:Bs}{v:bP}(h:v∈l)(hn:v.fName=n):(jK l n).2=hJ:=by unfold jK;cases e:l.find? λv=>v.fName==n with|none=>simp_all|some x=>rfl
theorem an1(F:Nat){l:J bP}(h:GA l)(n v:Bs)(hF:1000<F){r:J bP×Int}(e:uA F l n v=iN r)(h0:r.2=0):fL F n=iN hJ/\(jK r.1 n).2=hJ:=by
 have hl:=h.len;obtain⟨b,hb,eb⟩:=Gi F n om;unfold uA wx at e;rw[Ab F l n om om,aE,eb,aE]at e;cases b with
 | false=>grind|true=>
  refine⟨eb,?_⟩;cases hr:(jK l n).1.mV with
  | true=>grind|false=>
   rw[hr]at e;by_cases h4:4096<Ts v
   ·grind
   rw[cf om,aH,aE]at e;cases h5:(cond (!(jK l n).2) (eK (128<=(Ts l:Int))) eQ)with
   | true=>grind|false=>rw[h5,Ry F l _ om om]at e;cases e;exact get_mem (alq _ h.2) rfl
theorem aqq(F:Nat){l:J bP}(h:GA l)(n:Bs)(hF:1000<F)(h1:fL F n=iN hJ)(h2:(jK l n).2=hJ){r:J bP×Int}(e:sH F l n hJ eQ=iN r):r.2=0:=by have hl:=h.len;unfold sH wx at e;rw[h1,aE,ia,aJ,Ab F l n om om,aE,h2,ia,aJ,aE,aH,aE,aH,aE,Ry F l _ om om]at e;cases e;rfl
theorem ags(F:Nat)(fl:J aZ)(h:lW s)(hs:stop s=eQ)(n v:Bs)(hF:1000<F):T2 (RA fl) (ke F n v (iL fl s)) (eW F n v s):=by
 have hA:GA s.b9.b8:=⟨h.1.1.1,h.2.1⟩;obtain⟨r,hr,e1,e2⟩:=avD F hA n v hF;unfold ke eW wx;rw[nW,aE,hs,e1,show IJ F (iL fl s).b9.b8 n v=iN r from e2,aE,aE];have go:∀l:J bP,GA l->T2 (RA fl) (cond ((0:Int) != 0) ((fZ F 0 (iL fl s)).bind λx5=>iN (x5.1,x5.2)) (iN (hJ,{iL fl s with b9:={(iL fl s).b9 with b8:=l}}))) (iN {s with b9:={s.b9 with b8:=l}}):=λl hl=>T2.ok ⟨⟨⟨⟨hl.1,h.1.1.2⟩,h.1.2⟩,hl.2,h.2.2⟩,.inl ⟨hs,rfl⟩⟩;by_cases h0:r.2=0
 ·rw[h0];show T2 _ (((cond ((ny .i64 s.b9.iw 32) != 0) ((Ff F r.1 n hJ eQ).bind λx4=>iN (x4.1,x4.2)) (iN (r.1,0)):O (J bP×Int)).bind _)) ((cond ((ny .i64 s.b9.iw 32) != 0) ((sH F r.1 n hJ eQ).bind λx5=>iN x5.1) (iN r.1):O (J bP)).bind _);cases hb:((ny .i64 s.b9.iw 32) != 0)with
  | false=>exact go r.1 hr|true=>obtain⟨q,hq,e3,e4⟩:=auo F hr n hJ eQ hF;obtain⟨k1,k2⟩:=an1 F hA n v hF e1 h0;have hq0:=aqq F hr n hF k1 k2 e3;simp_all
 ·have hne:(r.2 != 0)=hJ:=by simpa using h0
  have amC:(r.2==0)=eQ:=by simpa using h0
  rw[amC,aJ,aE,aJ,aE];rw[hne,uy];have:=failed (fl:=fl) (m:=[]) hs h0;exact T2.ok ⟨ND h _ _,.inr ⟨this.1,rfl,this.2⟩⟩
theorem avI(F:Nat)(fl:J aZ)(h:lW s)(hs:stop s=eQ)(x:d6)(m:dz)(p:cO)(hm:m.fQ=p.fQ)(hF:1000<F):T2 (RR fl (RB 1)) (oe F x m (iL fl s)) ((iD F x.fText s).bind λx7=>(eV F p).bind λx8=>iN ([aB.mk x7.1 x8],x7.2)):=by
 obtain⟨⟨hE,hA,hL,u,hu,hul⟩,zw⟩:=h;have hv:eD F m=eV F p:=by unfold eD eV wx;rw[hm]
 obtain⟨c,hc⟩:=Sj F p;unfold oe iD wx;rw[hv,hc,hu];have hx:(iL fl s).dw=s.dw.drop u:=by unfold iL;simp_all
 rw[hx];by_cases hk:u<Ts s.dw
 ·have hd:s.dw.drop u=s.dw[u]::s.dw.drop (u+1):=sY hk;have e0:((Ts (s.dw.drop u):Int)==0)=eQ:=by grind
  have e1:sl (s.dw.drop u) 1 (Ts (s.dw.drop u):Int)=s.dw.drop (u+1):=by grind[sl,Int.toNat_natCast,List.take_length,List.drop_drop]
  have e2:(s.dw.drop u).getD 0 xh=s.dw[u]:=by rw[hd];rfl
  have hln:0<Ts (s.dw.drop u):=by grind
  rw[e0,aJ,kK om,ck om om,e1,e2,cf om,ck om om,cg,gd hk];have ha:=hA _ (fm hk);generalize s.dw[u]=a at ha⊢
  have key:T2 (λ(t:Bs)(y:Bs×aO)=>Ts t<=60/\y=(t,{s with fused:=(((u+1:Nat)):Int),lq:=a.ic})) (tG F a.fText [10]) (bX (σ:=Int) (R:=Bs×aO) (λbD x1=>
    (cond (eK (0<x1))
    (rq ((eK (0<=aD (x1-1)))&&(eK (aD (x1-1)<(Ts (a.fText):Int)))) (iN (((a.fText.getD (eJ (aD (x1-1))) 0).toNat:Int)==10)))
    (iN eQ):Option Bool).bind λx3=>
    cond x3
    (bD (aD (x1-1)))
    (rq ((eK (0<=x1))&&(eK (x1<=(Ts a.fText:Int)))) (iN (sl a.fText 0 x1,{s with fused:=aD ((u:Int)+1),lq:=a.ic})))) F (Ts a.fText:Int)):=by
   have fin:∀k:Nat,k<=Ts a.fText->T2 (λ(t:Bs)(y:Bs×aO)=>Ts t<=60/\y=(t,{s with fused:=(((u+1:Nat)):Int),lq:=a.ic})) (iN (a.fText.take k)) (rq ((eK (0<=(k:Int)))&&(eK ((k:Int)<=(Ts a.fText:Int)))) (iN (sl a.fText 0 (k:Int),{s with fused:=aD ((u:Int)+1),lq:=a.ic}))):=λk hk=>by grind[T2.qr,mM,T2.ok,List.length_take,bH,sl,Int.toNat_natCast]
   unfold tG wx;by_cases hz:a.fText=[]
   ·rw[hz]at fin⊢;obtain⟨f,rfl⟩:∃f,F=f+1:=⟨F-1,om⟩;exact fin 0 (eo _)
   rw[show(a.fText==[])=eQ from by simpa using hz];show T2 _ ((pJ F a.fText 10).bind λx3=>iN x3) _;have ret:∀x:Option Bs,(x.bind λx3=>iN x3)=x:=λx=>by cases x<;>rfl
   rw[ret];unfold pJ wx;refine T2.lp (λ(t:Bs)(i:Int)=>∃k:Nat,i=(k:Int)/\k<=Ts a.fText/\t=a.fText.take k) (λt=>Ts t) ⟨_,rfl,eo _,by rw[s7]⟩ om ?_;rintro t i ⟨k,rfl,h1,rfl⟩ r1 r2 hrc;have hlk:(a.fText.take k).length=k:=List.length_take_of_le h1;rw[hlk];by_cases h0:0<k
   ·rw[uQ om om,cq om,ck om om,cq om,ck om om,aE,ck om om,aE,cg];have eg:(a.fText.take k).getD (k-1) 0=a.fText.getD (k-1) 0:=by grind
    rw[eg];refine T2.cb (λ_=>?_) λ_=>fin k h1;grind[sl,Int.toNat_natCast,Nat.min_eq_left,List.length_take]
   grind
  refine T2.bd key λt y ⟨ht,hy⟩=>?_;subst hy;rw[aE,aE];refine T2.ok ⟨⟨⟨hE,hA,hL,u+1,rfl,hk⟩,zw⟩,RB.one om (by grind),.inl ⟨hs,?_⟩⟩;unfold iL;grind
 ·have e0:((Ts (s.dw.drop u):Int)==0)=hJ:=by simp_all
  rw[e0,aU,cq om,aE,aE];obtain⟨s1,s2⟩:=Bl hs;refine T2.ok ⟨⟨⟨hE,hA,hL,u,rfl,hul⟩,zw.1,λh=>nomatch h⟩,RB.one om (fq _),.inr ⟨?_,rfl,.inr ⟨s1,rfl,rfl,rfl,rfl⟩,rfl⟩⟩;show(s.fe != 0||true)=hJ;rw[Bool.or_true]
theorem uB(k v q z:Bs)(m:J (Bs×Bs)):fX dc (jM dc m k v) q z=if k=q then v else fX dc m q z:=by
 unfold jM fX dc;cases ha:m.any λp=>p.1==k with
 | false=>grind|true=>
  rw[aU];have hf:((λp=>p.1==q) ∘ λp=>bif p.1==k then(k,v)else p)=λp=>p.1==q:=by grind
  cases e:m.find? λp=>p.1==q with|none=>grind|some p=>grind
def uz(l:J bP):J cC:=l.flatMap λv=>cond v.cL [cC.mk v.fName v.cj] []
def FO(b:J cC):J (Bs×Bs):=b.foldl (λm x=>jM dc m x.fName x.cj) []
theorem an2(l:J bP){k:Nat}(h:k<Ts l):uz (l.take (k+1))=uz (l.take k)++cond l[k].cL [cC.mk l[k].fName l[k].cj] []:=by unfold uz;grind[List.take_succ_eq_append_getElem]
theorem aqr{l:J bP}{b:cC}(h:b∈uz l):∃v∈l,b=cC.mk v.fName v.cj:=by unfold uz at h;grind
theorem YZ:∀l:J bP,Ts (uz l)<=Ts l|[]=>eo _|v::l=>by have:=YZ l;unfold uz at this⊢;grind
theorem aqs{l:J bP}(h:zu l):(uz l).Pairwise λa b=>a.fName<b.fName:=by
 induction l with
 | nil=>exact .nil|cons v l ih=>obtain⟨h1,h2⟩:=zg.1 h;unfold uz;grind
theorem aqt{l:J bP}(h:GV l):ET (uz l):=λb hb=>by obtain⟨v,hv,rfl⟩:=aqr hb;exact h.2 v hv
theorem aqu{b:J cC}(h:b.Pairwise λx y=>x.fName<y.fName)(hb:ET b):K.uG (FO b)=b:=by
 have hE:=K.Iq hb;refine RE (f:=λx:cC=>x.fName) (K.Yo hE.nd) h λx=>?_;have key:∀(k:J cC)(m:J (Bs×Bs)),(k.Pairwise λx y=>x.fName<y.fName)->∀q:Bs,fX dc (k.foldl (λm x=>jM dc m x.fName x.cj) m) q []=(match k.find? λx=>x.fName==q with|some x=>x.cj|none=>fX dc m q []):=by
  intro k
  induction k with
  | nil=>intro m _ q;rfl|cons a k ih=>
   intro m hk q;obtain⟨h1,h2⟩:=zg.1 hk;rw[v7,ih _ h2 q,OQ];cases e:k.find? λx=>x.fName==q with
   | some y=>grind|none=>cases hq:(a.fName==q)with|true=>simp_all[uL,uB,if_pos]|false=>simp_all[uB,if_neg]
 have kk:∀(k:J cC)(m:J (Bs×Bs))(q:Bs),q∈(k.foldl (λm x=>jM dc m x.fName x.cj) m).map (·.1)↔q∈m.map (·.1)\/∃x∈k,x.fName=q:=by
  intro k
  induction k with|nil=>intro m q;simp|cons a k ih=>grind[Ai,List.mem_cons_self,List.mem_cons_of_mem]
 have fnd:∀y∈b,b.find? (λx=>x.fName==y.fName)=iN y:=λy hy=>by cases e:b.find? λx=>x.fName==y.fName with|none=>grind|some z=>have hq:(z.fName==y.fName)=hJ:=aa9 (p:=λx:cC=>x.fName==y.fName) e;grind[List.pairwise_iff_getElem,List.getElem_of_mem,Nat.lt_trichotomy,nD]
 rw[K.DP];constructor
 ·rintro⟨k,hk,rfl⟩;rcases(kk b [] k).1 hk with h|⟨y,hy,rfl⟩
  ·cases h
  ·have:=key b [] h y.fName;rw[fnd y hy]at this;unfold K.Bk;rw[show fX dc (FO b) y.fName []=y.cj from this];exact hy
 ·intro hx;refine⟨x.fName,(kk b [] _).2 (.inr ⟨x,hx,rfl⟩),?_⟩;have:=key b [] h x.fName;rw[fnd x hx]at this;unfold K.Bk;rw[show fX dc (FO b) x.fName []=x.cj from this]
theorem aeh(m:J (Bs×Bs))(k:Bs):Fy dc m k=hJ↔k∈m.map (·.1):=by simp_all[Fy,dc,TH,lI]
theorem T2.lpe{A ι:Type}{Q:A->B->Prop}{b1:(σ->O A)->σ->O A}(P:σ->τ->Prop)(m:σ->Nat)(E:ι->τ->Prop)(m2:τ->Nat)(R:ι->B->Prop){s:σ}{t:τ}(h0:P s t)(hF:m s<F)
  (hs:∀s t,P s t->∀r1 r2,(∀s' t',P s' t'->m s'<m s->T2 Q (r1 s') (r2 t'))->(∀i t',E i t'->m2 t'<m s->aA (R i) (r2 t'))->T2 Q (b1 r1 s) (b2 r2 t))
  (he:∀i t,E i t->∀r2,(∀t',E i t'->m2 t'<m2 t->aA (R i) (r2 t'))->aA (R i) (b2 r2 t)):T2 Q (bX b1 F s) (bX b2 F t):=by
 induction F generalizing s t with|zero=>omega|succ F ih=>exact hs s t h0 (bX b1 F) (bX b2 F) (λs' t' h1 h2=>ih h1 om) λi t' h1 h2=>aA.lp (E i) m2 h1 om (he i)
theorem T2.map{A:Type}{Q:A->B->Prop}{x:O A}{y:O D}(f:D->B)(h:T2 (λa d=>Q a (f d)) x y):T2 Q x (y.bind λd=>iN (f d)):=by obtain⟨a,d,h,e1,rfl⟩:=h;exact⟨a,f d,h,e1,rfl⟩
def aqv(F:Nat)(e:Int):FL F e=CB F e:=rfl
def RV(fl:J aZ)(a:Bs×Bool×aP)(b:Bs×aO):Prop:=RR fl (λt=>Ts t<=10000000) a b/\(stop b.2=eQ->Ts b.1<=4096)
theorem ajj(F:Nat)(h:stop s=hJ)(n v:Bs):eW F n v s=iN s:=by unfold eW wx;simp_all[nW,aE]
theorem asJ(hN:NC<=F)(hF:100000000<=F)(fl:J aZ)(g1:eA)(g2:jm)(x:d6)(m:dz)(p:cO)(hm:m.fQ=p.fQ)(s:aO)
  (hv:T2 (RV fl) (g1.2.2.2.2.1 x.fParts (dz.mk hJ eQ 0) (iL fl s)) (g2.2.2.2.1 x.fParts hJ s)) :
  T2 (RR fl (RB 1)) (oG F g1 x m (iL fl s)) ((gw F g2 x.fParts s).bind λx9=>(eV F p).bind λcz=>iN ([aB.mk x9.1 cz],x9.2)):=by
 obtain⟨c,hc⟩:=Sj F p;have jT:eD F m=iN c:=by rw[<-hc];unfold eD eV wx;rw[hm]
 unfold oG gw wx;rw[hc];obtain⟨⟨t0,ok,x'⟩,⟨t,s'⟩,⟨⟨hg,hi,hh⟩,hlen⟩,e1,e2⟩:=hv;rw[e1,e2];dsimp only at hg hi hh hlen;refine T2.map (λx9:Bs×aO=>([aB.mk x9.1 c],x9.2)) ?_;rw[aE,aE];dsimp only;rw[nW,aE];rcases hh with⟨hs,hh⟩|⟨hs,hok,Mz,-⟩
 ·cases hh;have ht:=hlen hs;have hV:=hg.1.1.1;have hvl:=hV.1;rw[hs,ia,aJ,aJ,show(iL fl s').b9=s'.b9 from rfl];have hb:=aqt hV;have HP:=YZ s'.b9.b8;have hba:=aqs hg.2.1;refine T2.lp (λ(z:J cC×Int×J (Bs×Bs))(y:J cC×Int)=>∃k:Nat,k<=Ts s'.b9.b8/\z=(uz (s'.b9.b8.take k),(k:Int),FO (uz (s'.b9.b8.take k)))/\y=(uz (s'.b9.b8.take k),(k:Int))) (λz=>Ts s'.b9.b8-z.2.1.toNat) ⟨0,fq _,rfl,rfl⟩ (by show s'.b9.b8.length-0<F;omega) ?_;rintro _ _ ⟨k,hk,rfl,rfl⟩ q1 q2 hrc;dsimp only at hrc⊢;have hkl:(uz (s'.b9.b8.take k)).length<=k:=by have:=YZ (s'.b9.b8.take k);rw[zh]at this;omega
  by_cases hk1:k<Ts s'.b9.b8
  ·have nx:=hrc _ _ ⟨k+1,hk1,rfl,rfl⟩ (by grind);have es:=an2 s'.b9.b8 hk1;rw[cq om,cq om];refine T2.ql (mM om om) (T2.qr (mM om om) ?_);rw[bH om,cg,gd hk1];have cp:∀(v:cC),((eK (Ts (uz (s'.b9.b8.take k))+Ts ([v]:J cC)<=9223372036854775807))&&(eK ((Ts (uz (s'.b9.b8.take k))+Ts ([v]:J cC))*32<=140737488355328)))=hJ:=λv=>oV (by grind) de;refine T2.cb (λnZ=>?_) λnZ=>?_
   ·rw[nZ,aU]at es;rw[es]at nx;refine T2.ql (cp _) (T2.qr (cp _) ?_);unfold FO at nx;rw[Mg]at nx;exact nx
   simp_all
  ·rw[cf om,cf om,uK om];have hE:=aqu hba hb;have hkeys:∀n:Bs,Fy dc (FO (uz s'.b9.b8)) n=hJ↔∃a∈uz s'.b9.b8,a.fName=n:=λn=>by
    rw[aeh];have:∀x,x∈uz s'.b9.b8↔∃k,k∈(FO (uz s'.b9.b8)).map (·.1)/\x=K.Bk (FO (uz s'.b9.b8)) k:=λx=>by rw[<-K.DP,hE]
    constructor
    ·intro h;exact⟨_,(this _).2 ⟨n,h,rfl⟩,rfl⟩
    ·rintro⟨a,ha,rfl⟩;obtain⟨k,h1,h2⟩:=(this a).1 ha;rw[h2];exact h1
   have abF:∀n,rB F (uz s'.b9.b8) n=iN (fX dc (FO (uz s'.b9.b8)) n []):=λn=>by rw[K.Qo F _ n om om,<-K.Qp,hE]
   have ao0:∀n,Fy dc (FO (uz s'.b9.b8)) n=eQ->fX dc (FO (uz s'.b9.b8)) n []=[]:=λn h=>by grind[Na,aeh]
   generalize FO (uz s'.b9.b8)=mp at hkeys abF ao0⊢;generalize uz s'.b9.b8=b at hb HP hkeys abF⊢;obtain⟨r,⟨hR,hL,hne⟩,hr⟩:=YW t0 b ht om hb;rw[(hr F hN).1,(hr F hN).2,aE,aE];refine T2.cb (λhe=>?_) λhe=>?_
   ·have he0:r.2.2≠0:=by simpa using he
    obtain⟨w,hw,ew⟩:=anZ F r.2.2;rw[aqv,ew,aE,aE];have l1:eK (Ts t0+Ts ([58,32]:Bs)<=9223372036854775807)=hJ:=eN (by show t0.length+2<=_;omega);have l2:eK (Ts (t0++([58,32]:Bs))+Ts w<=9223372036854775807)=hJ:=decide_eq_true (by grind);refine T2.ql l1 (T2.qr l1 (T2.ql l2 (T2.qr l2 ?_)));rw[L5,uy];exact T2.ok (RR.err hg (RB.one om (fq _)) hs de rfl)
   ·refine T2.lpe (λ(z:Int×aP)(y:Int×aO)=>∃(k:Nat)(u:aO),k<=Ts r.2.1/\lW u/\stop u=eQ/\z=((k:Int),iL fl u)/\y=((k:Int),u)) (λz=>Ts r.2.1-z.1.toNat) (λ(u:aO)(y:Int×aO)=>stop u=hJ/\y.2=u/\∃k:Nat,y.1=(k:Int)/\k<=Ts r.2.1) (λy=>Ts r.2.1-y.1.toNat) (λu (y:Bs×aO)=>y.2=u/\y.1.length<=60) ⟨0,s',fq _,hg,hs,rfl,rfl⟩ (by show r.2.1.length-0<F;omega) ?_ ?_
    ·rintro _ _ ⟨k,u,hk,hu,hsu,rfl,rfl⟩ q1 q2 hrc hex;dsimp only at hrc hex⊢;by_cases hk1:k<Ts r.2.1
     ·have hm:Ts r.2.1-Int.toNat ((k+1:Nat):Int)<Ts r.2.1-Int.toNat (k:Int):=om;rw[cq om,cq om,ck om om,ck om om,ck om om,bH om,cg,gd hk1,abF,aE];have hc1:=hne _ (fm hk1);generalize r.2.1[k]=a at hc1⊢;have go:T2 (λa d=>RR fl (RB 1) a ([aB.mk d.1 c],d.2)) ((ke F a.fName a.cj (iL fl u)).bind λcz=>cond (!cz.1) (iN ([],eQ,cz.2)) (q1 (((k+1:Nat):Int),cz.2)))
        ((eW F a.fName a.cj u).bind λgi=>q2 (((k+1:Nat):Int),gi)):=by
       refine T2.bd (ags F fl hu hsu a.fName a.cj om) ?_;rintro⟨ok,x2⟩ u2 ⟨hu2,⟨h1,h2⟩|⟨h1,h2,h3⟩⟩
       ·grind
       ·dsimp only at h2 h3;subst h2;rw[qm,aU];obtain⟨y,⟨hy1,hy2⟩,hy⟩:=hex u2 (((k+1:Nat):Int),u2) ⟨h1,rfl,k+1,rfl,hk1⟩ hm;rw[hy];refine T2.ok ⟨?_,RB.one om om,.inr ⟨?_,rfl,?_,rfl⟩⟩
        ·show lW y.2;rw[hy1];exact hu2
        ·show stop y.2=hJ;rw[hy1];exact h1
        ·show Fin x2 y.2;rw[hy1];exact h3
      cases avJ:Fy dc mp a.fName with
      | true=>rw[aU,aE];cases sE:(fX dc mp a.fName []==a.cj)with|true=>grind|false=>rw[aJ,qm,aU,ck om om,ck om om];exact go
      | false=>
       rw[aJ,aE,aJ,ao0 _ avJ];have hnil:a.cj≠[]:=hc1.resolve_right λh=>by grind
       have:(([]:Bs)==a.cj)=eQ:=by grind
       rw[this,qm,aU,ck om om,ck om om];exact go
     ·rw[cf om,cf om,aji F om hR,K.LF F om hR,aE,aE,jT];have:=K.yM hR;exact T2.ok ⟨hu,RB.one om (by show(Lib.itoa r.1).length<=_;omega),.inl ⟨hsu,rfl⟩⟩
    ·rintro u ⟨_,_⟩ ⟨h1,rfl,k,rfl,hk⟩ q2 hrc;dsimp only at h1 hrc⊢;refine aA.cd (λh=>?_) λ_=>?_
     ·have hm:Ts r.2.1-Int.toNat ((k+1:Nat):Int)<Ts r.2.1-Int.toNat (k:Int):=om;rw[ck om om,ck om om,bH om,cg,abF,aE];refine aA.cb (λ_=>?_) λ_=>hrc _ ⟨h1,rfl,k+1,rfl,om⟩ hm;grind[ck,ajj]
     ·rw[K.LF F om hR];exact aA.ok ⟨rfl,K.yM hR⟩
 ·have hok:ok=eQ:=hok;subst hok;rw[hs,aU,qm,aU];exact T2.ok ⟨hg,RB.one om (fq _),.inr ⟨hs,rfl,Mz,rfl⟩⟩
def COk(m:dz)(p:cO):Prop:=m.fQ=eQ->m.dL=cond p.DR 2 0
def Mo(m:dz)(p:cO):Prop:=m.fQ=p.fQ/\m.lu=p.lu
def JR(m:dz)(p:cO)(a b:J aB):Prop:=a.map (·.fText)=b.map (·.fText)/\(COk m p->a=b)
def RJ(fl:J aZ)(k:Nat)(m:dz)(p:cO)(a:J aB×Bool×aP)(b:J aB×aO):Prop:=lW b.2/\RB k b.1/\((stop b.2=eQ/\a.2=(hJ,iL fl b.2)/\JR m p a.1 b.1)\/(stop b.2=hJ/\a.2.1=eQ/\Fin a.2.2 b.2/\a.1=[]))
def JR.eq{m:dz}{p:cO}(a:J aB):JR m p a a:=⟨rfl,λ_=>rfl⟩
variable{a:J aB×Bool×aP}{b:J aB×aO}
theorem RR.j{k j:Nat}{m:dz}{p:cO}(h:RR fl (RB k) a b)(hk:k<=j):RJ fl j m p a b:=by
 obtain⟨h1,h2,⟨h3,h4⟩|h3⟩:=h
 ·exact⟨h1,h2.mono hk,.inl ⟨h3,by rw[h4],by rw[h4];exact JR.eq _⟩⟩
 ·exact⟨h1,h2.mono hk,.inr h3⟩
theorem RJ.rr{k:Nat}{m:dz}{p:cO}(h:RJ fl k m p a b)(hc:COk m p):RR fl (RB k) a b:=by
 obtain⟨h1,h2,⟨h3,h4,h5⟩|h3⟩:=h
 ·exact⟨h1,h2,.inl ⟨h3,Prod.ext (h5.2 hc) h4⟩⟩
 ·exact⟨h1,h2,.inr h3⟩
def RJ.go{fl:J aZ}{k:Nat}{m:dz}{p:cO}{r:J aB}{s:aO}(h:lW s)(hi:RB k r)(hs:stop s=eQ):RJ fl k m p (r,hJ,iL fl s) (r,s):=⟨h,hi,.inl ⟨hs,rfl,JR.eq _⟩⟩
theorem ao1(F:Nat){m:dz}{p:cO}(h:m.fQ=p.fQ):eD F m=eV F p:=by unfold eD eV wx;rw[h]
def X1(fl:J aZ)(F n:Nat):Prop:=∀(N:Nat)(l:J d6)(m:dz)(p:cO)(s:aO),Mo m p->lW s->stop s=eQ->eO l<=1000->9*eO l+9<=n->6*eO l+6<=N->T2 (RJ fl (eO l) m p) ((bf F n).1 l m (iL fl s)) ((aF F N).1 l p s)
def X2(fl:J aZ)(F n:Nat):Prop:=∀(N:Nat)(x:d6)(m:dz)(p:cO)(s:aO),Mo m p->lW s->stop s=eQ->wP x<=1000->9*wP x+8<=n->6*wP x+5<=N->T2 (RJ fl (wP x) m p) ((bf F n).2.1 x m (iL fl s)) ((aF F N).2.1 x p s)
def XV(fl:J aZ)(F n:Nat):Prop:=∀(N:Nat)(l:J d6)(m:dz)(q:Bool)(s:aO),m.fQ=q->lW s->stop s=eQ->eO l<=1000->9*eO l+10<=n->6*eO l+7<=N->T2 (λa b=>RV fl a b/\b.1.length<=5000*eO l) ((bf F n).2.2.2.2.1 l m (iL fl s)) ((aF F N).2.2.2.1 l q s)
variable{n:Nat}
theorem aqw(hF:100000000<=F)(h2:X2 fl F n):X1 fl F (n+1):=by
 intro N l m p s hm hs hst hl hn hN;obtain⟨N,rfl⟩:∃k,N=k+1:=⟨N-1,om⟩;have hll:=Di l;show T2 _ (y7 F (bf F n) l m (iL fl s)) (iE F (aF F N) l p s);refine T2.lpe (λ(z:J aB×Int×aP)(y:J aB×Int×aO)=>∃k:Nat,k<=Ts l/\z.2=((k:Int),iL fl y.2.2)/\y.2.1=(k:Int)/\JR m p z.1 y.1/\RB (eO (l.take k)) y.1/\lW y.2.2/\stop y.2.2=eQ) (λz=>Ts l-z.2.1.toNat)
  (λ(u:aO×J aB)(y:J aB×Int×aO)=>stop u.1=hJ/\y.1=u.2/\y.2.2=u.1/\∃k:Nat,y.2.1=(k:Int)/\k<=Ts l) (λy=>Ts l-y.2.1.toNat) (λu (y:J aB×aO)=>y=(u.2,u.1)) ⟨0,Nat.zero_le _,rfl,rfl,JR.eq _,RB.nil,hs,hst⟩ (by grind) ?_ ?_
 ·rintro⟨a,i,x⟩ ⟨o,i',s⟩ ⟨k,h3,h4,h5,h6,h7,h8,h9⟩ q1 q2 hrc hex;dsimp only at h4 h5 h6 h7 h8 h9 hrc hex⊢;cases h4;subst h5;have hwk:=HI l k;rw[nW,h9];have jl:a.length=Ts o:=by have:=congrArg Ts h6.1;simpa using this
  by_cases hk:k<Ts l
  ·have hwm:=Rw hk;have ha:=Va hk;have Y7:Ts l-Int.toNat ((k+1:Nat):Int)<Ts l-Int.toNat (k:Int):=om;rw[cq om,cq om,aE,aE,qm,aU,ck om om,ck om om,bH om,cg,d6.eta];refine T2.bd (h2 N (l.getD k kz) m p s hm h8 h9 om om om) ?_;rintro⟨r,ok,x'⟩ ⟨r',s'⟩ ⟨g1,g2,g3⟩;dsimp only at g1 g2 g3⊢;have h10:=RB.app h7 g2;rw[<-ha]at h10;have xu:=HI l (k+1);have h11:=h10.1;rw[nX]at h11;have sz:∀a b:Nat,a+b<=26*1000->((eK (a+b<=9223372036854775807))&&(eK ((a+b)*24<=140737488355328)))=hJ:=λa b h=>mM om om;rcases g3 with⟨k1,k2,k3⟩|⟨k1,k2,k3,-⟩
   ·cases k2;have jr:Ts r=Ts r':=by have:=congrArg Ts k3.1;simpa using this
    refine T2.ql (sz _ _ om) (T2.qr (sz _ _ om) (hrc _ _ ⟨k+1,hk,rfl,rfl,⟨?_,λhc=>by rw[h6.2 hc,k3.2 hc]⟩,h10,g1,k1⟩ Y7));rw[pQ,pQ,h6.1,k3.1]
   ·subst k2;refine T2.qr (sz _ _ om) ?_;obtain⟨y,rfl,hy⟩:=hex (s',o++r') (o++r',((k+1:Nat):Int),s') ⟨k1,rfl,rfl,k+1,rfl,hk⟩ Y7;rw[hy];exact T2.ok ⟨g1,h10.mono om,.inr ⟨k1,rfl,k3,rfl⟩⟩
  ·rw[cf om,cf om,aE,aJ];rw[uK om]at h7;exact T2.ok ⟨h8,h7,.inl ⟨h9,rfl,h6⟩⟩
 simp_all[nW,aA.ok]
theorem agt{a b:J aB}(h:a.map (·.fText)=b.map (·.fText)):gH a=gH b:=by unfold gH;grind
theorem aqx{a b:J aB}(h:a.map (·.fText)=b.map (·.fText)):bV a=bV b:=by rw[<-vP,<-vP,agt h]
theorem aqy(hF:100000000<=F)(h1:X1 fl F n):XV fl F (n+1):=by
 intro N l m q s hm hs hst hl hn hN;obtain⟨N,rfl⟩:∃k,N=k+1:=⟨N-1,om⟩;show T2 _ (y9 F (bf F n) l m (iL fl s)) (jt F (aF F N) l q s);refine T2.bd (h1 N l {m with lu:=eQ} (cO.mk q eQ eQ) s ⟨hm,rfl⟩ hs hst hl om om) ?_;rintro⟨r,ok,x'⟩ ⟨r',s'⟩ ⟨g1,g2,g3⟩;dsimp only at g1 g2 g3⊢;have z1:=g2.1;have z2:=g2.2;have e18:=aln F r' om om om;have etx:(r'.flatMap λr=>r.fText)=gH r':=rfl;rw[e18];have hlen:=vP r';rcases g3 with⟨k1,k2,k3⟩|⟨k1,k2,k3,-⟩
 ·cases k2;have jr:Ts r=Ts r':=by have:=congrArg Ts k3.1;simpa using this
  have js:=aqx k3.1;rw[ia,aJ,T5 F r om om om,agt k3.1];refine T2.cb (λh=>?_) λh=>T2.ok ⟨⟨⟨g1,by grind,.inl ⟨k1,rfl⟩⟩,λ_=>?_⟩,by simp_all⟩
  ·rw[uy];refine T2.ok ⟨⟨RR.err g1 (by grind) k1 de rfl,λh=>?_⟩,by simp_all⟩;grind[alm]
  grind
 ·subst k2;rw[qm,aU,uy,k1,aU];refine T2.cr (λ_=>T2.ok ?_) λ_=>T2.ok ?_
  all_goals exact⟨⟨⟨g1,by grind,.inr ⟨k1,rfl,k3,rfl⟩⟩,λh=>by rw[k1]at h;cases h⟩,by simp_all⟩
variable{R:Type}
theorem aA.eqv{x:O R}{v:R}(h:aA (λr=>r=v) x):x=iN v:=by obtain⟨r,h,e⟩:=h;rw[e,h]
def sX(o:J aB)(r:aB):J aB:=cond (r.fText==[]) o (cond (eK (0<Ts o)&&((o.getD (Ts o-1) dx).aI==r.aI)) (o.set (Ts o-1) (aB.mk ((o.getD (Ts o-1) dx).fText++r.fText) (o.getD (Ts o-1) dx).aI)) (o++[r]))
def pM(l:J aB):J aB:=l.foldl sX []
theorem aei:∀(l:J aB)(k:Nat)(t:Bs)(c:Int),k<Ts l->bV (l.set k (aB.mk ((l.getD k dx).fText++t) c))=bV l+Ts t
 | [],k,t,c,h=>absurd h (ag7 _)|a::l,0,t,c,h=>by unfold bV;grind|a::l,k+1,t,c,h=>by have:=aei l k t c (by simpa using h);show bV (a::l.set k (aB.mk ((l.getD k dx).fText++t) c))=_;unfold bV at this⊢;simp only[jI,OW];omega
theorem an3(o:J aB)(r:aB):bV (sX o r)=bV o+Ts r.fText/\(sX o r).length<=Ts o+1:=by
 unfold sX;cases h1:(r.fText==[])with
 | true=>simp_all|false=>
  cases h2:(eK (0<Ts o)&&((o.getD (Ts o-1) dx).aI==r.aI))with
  | true=>grind[aei,List.length_set]|false=>refine⟨?_,by simp_all⟩;show bV (o++[r])=_;rw[Dv];simp[bV]
theorem NF:∀(l o:J aB),bV (l.foldl sX o)=bV o+bV l/\(l.foldl sX o).length<=Ts o+Ts l
 | [],o=>⟨by simp[bV],si⟩|r::l,o=>by obtain⟨h1,h2⟩:=NF l (sX o r);obtain⟨h3,h4⟩:=an3 o r;rw[v7];refine⟨by rw[h1,h3];simp[bV];omega,aR⟩
theorem agu(F:Nat)(l:J aB)(f:J aB->R)(hF:Ts l<F)(h1:Ts l<=1000000)(h2:bV l<=100000000):
  bX (σ:=Int×(J aB)) (R:=R) (λiI x2=>
   cond (eK (x2.1<(Ts l:Int)))
   (rq ((eK (0<=x2.1))&&(eK (x2.1<(Ts l:Int)))) (cond (((l.getD (eJ x2.1) dx).fText)==[])
   (iI (aD (x2.1+1),x2.2))
   ((cond (eK (0<=aD ((Ts x2.2:Int)-1)))
   (rq ((eK (0<=aD ((Ts x2.2:Int)-1)))&&(eK (aD ((Ts x2.2:Int)-1)<(Ts x2.2:Int)))) (iN (((x2.2.getD (eJ (aD ((Ts x2.2:Int)-1))) dx).aI)==((l.getD (eJ x2.1) dx).aI),x2.2)))
   (iN (eQ,x2.2)):O (Bool×(J aB))).bind λx4=>
   cond x4.1
   (rq ((eK (0<=aD ((Ts x2.2:Int)-1)))&&(eK (aD ((Ts x2.2:Int)-1)<(Ts x4.2:Int)))) (rq (eK (Ts ((x4.2.getD (eJ (aD ((Ts x2.2:Int)-1))) dx).fText)+Ts ((l.getD (eJ x2.1) dx).fText)<=9223372036854775807)) (rq ((eK (0<=aD ((Ts x2.2:Int)-1)))&&(eK (aD ((Ts x2.2:Int)-1)<(Ts x4.2:Int)))) (iI (aD (x2.1+1),x4.2.set (eJ (aD ((Ts x2.2:Int)-1))) (aB.mk (((x4.2.getD (eJ (aD ((Ts x2.2:Int)-1))) dx).fText)++((l.getD (eJ x2.1) dx).fText)) ((x4.2.getD (eJ (aD ((Ts x2.2:Int)-1))) dx).aI)))))))
   (rq ((eK (Ts x4.2+Ts ([(l.getD (eJ x2.1) dx)]:J aB)<=9223372036854775807))&&(eK ((Ts x4.2+Ts ([(l.getD (eJ x2.1) dx)]:J aB))*24<=140737488355328))) (iI (aD (x2.1+1),x4.2++([(l.getD (eJ x2.1) dx)]:J aB)))))))
   (iN (f x2.2))) F (0,([]:J aB))=iN (f (pM l)):=by
 refine aA.eqv ?_;refine aA.lp (λz:Int×J aB=>∃k:Nat,z.1=(k:Int)/\k<=Ts l/\z.2=pM (l.take k)) (λz=>Ts l-z.1.toNat) ⟨0,rfl,fq _,rfl⟩ (by simp_all) ?_;rintro⟨i,o⟩ ⟨k,q1,hk,q2⟩ rc hrc;dsimp only at q1 q2 hrc⊢;subst q1;refine aA.cd (λh=>?_) λh=>?_
 ·have hk:k<Ts l:=om;have hm:Ts l-Int.toNat ((k+1:Nat):Int)<Ts l-Int.toNat (k:Int):=om;have es:pM (l.take (k+1))=sX o l[k]:=by unfold pM;rw[lF hk,Mg,q2];rfl
  obtain⟨b1,b2⟩:=NF (l.take k) [];rw[show(l.take k).foldl sX []=o from q2.symm]at b1 b2;have b3:=vO l k;have b5:=vO l (k+1);have b6:=sn l k hk;have z0:bV ([]:J aB)=0:=rfl;simp only[Dc]at b2;have nx:∀o',o'=sX o l[k]->aA (λr=>r=f (pM l)) (rc (((k+1:Nat):Int),o')):=λo' ho=>hrc _ ⟨k+1,rfl,hk,by rw[es];exact ho⟩ hm;rw[ck om om,bH om,cg,gd hk];generalize l[k]=a at nx b6⊢;refine aA.cb (λha=>nx o (by unfold sX;rw[ha];rfl)) λha=>?_;by_cases h0:0<Ts o
  ·have e1:aD ((Ts o:Int)-1)=((Ts o-1:Nat):Int):=by grind[bL]
   rw[e1,cq om,ck om om,cg,aE]
   refine aA.cb (λhc=>?_) λhc=>aA.rq (oV (by grind) de) (nx _ (by
    unfold sX;grind))
   have hle:(o.getD (Ts o-1) dx).fText.length<=bV o:=by have hlt:Ts o-1<Ts o:=om;rw[gd hlt];have:=sn o (Ts o-1) hlt;grind
   refine aA.rq (mM om (by dsimp only;omega)) (aA.rq (decide_eq_true (by dsimp only;omega)) (aA.rq (mM om (by dsimp only;omega)) (nx _ ?_)));unfold sX;grind
  ·have e1:aD ((Ts o:Int)-1)=-1:=by simp_all[bL]
   rw[e1,cf om,aE];exact aA.rq (oV (by simp_all) de) (nx _ (by unfold sX;grind))
 simp_all[uK,aA.ok]
def RPt(fl:J aZ)(k:Nat)(a:J aB×Bool×aP)(b:J aB×aO):Prop:=lW b.2/\RB k b.1/\((stop b.2=eQ/\a=(pM b.1,hJ,iL fl b.2))\/(stop b.2=hJ/\a.2.1=eQ/\Fin a.2.2 b.2))
theorem ao2(F:Nat)(t:Bs):vX F t=iN ((t==[64])||(t==[42])):=by unfold vX wx;rw[aH];rfl
theorem aqz(F:Nat)(o:Int)(c s:Bool)(v:Bs):CP F o c s v=ur F o c s v:=by unfold CP ur wx;simp only[aH,aE];grind
theorem alr(hF:100000000<=F)(h1:X1 fl F n)(N:Nat)(l:J d6)(s:aO)(hs:lW s)(hst:stop s=eQ)(hl:eO l<=1000)(hn:9*eO l+9<=n)(hN:6*eO l+6<=N):
  T2 (RPt fl (eO l)) ((bf F (n+1)).2.2.2.2.2.2.1 l (iL fl s)) ((aF F N).1 l (cO.mk eQ eQ eQ) s):=by
 show T2 _ (qC F (bf F n) l (iL fl s)) _;unfold qC wx;obtain⟨⟨r,ok,x'⟩,⟨r',s'⟩,h,e1,e2⟩:=h1 N l (dz.mk eQ eQ 0) (cO.mk eQ eQ eQ) s ⟨rfl,rfl⟩ hs hst hl hn hN;have h:=h.rr (λ_=>rfl);rw[e1,e2,aE];obtain⟨g1,g2,⟨k1,k2⟩|⟨k1,k2,k3,k4⟩⟩:=h
 ·cases k2;have z1:=g2.1;have z2:=g2.2;dsimp only at z1 z2⊢;rw[agu F _ (λo=>(o,hJ,iL fl s')) om om om];exact T2.ok ⟨g1,g2,.inl ⟨k1,rfl⟩⟩
 ·have k4:=k4;subst k2 k4;rw[agu F [] (λo=>(o,eQ,x')) aR si (by simp[bV])];exact T2.ok ⟨g1,g2,.inr ⟨k1,rfl,k3⟩⟩
theorem als(hF:100000000<=F)(hv:XV fl F n)(N:Nat)(x:d6)(m:dz)(p:cO)(s:aO)(hm:m.fQ=p.fQ)(hs:lW s)(hst:stop s=eQ)(hl:wP x<=1000)(hn:9*eO x.fParts+10<=n)(hN:6*eO x.fParts+7<=N):
  T2 (λa b=>lW b/\stop b=hJ/\a.1=eQ/\Fin a.2 b) ((bf F (n+1)).2.2.2.2.2.2.2.2 x m (iL fl s)) ((aF F (N+1)).2.2.2.2.2 x p s):=by
 have hw:=EF x;show T2 _ (qD F (bf F n) x m (iL fl s)) (gz F (aF F N) x p s);unfold qD gz wx;rw[aH,aE];have l1:eK (Ts x.fText+Ts ([58,32]:Bs)<=9223372036854775807)=hJ:=decide_eq_true (by grind);have bad:∀(t:Bs)(u:aO),lW u->stop u=eQ->lW (cond (stop u) u {u with fe:=32,fJ:=t})/\stop (cond (stop u) u {u with fe:=32,fJ:=t})=hJ/\Fin {iL fl u with fJ:=t,xU:=32} (cond (stop u) u {u with fe:=32,fJ:=t}):=λt u hu hsu=>⟨ND hu _ _,(failed (fl:=fl) hsu de).1,(failed hsu de).2⟩;by_cases h0:0<Ts x.fParts
 ·rw[cq om];obtain⟨⟨t0,ok,x'⟩,⟨t,s'⟩,⟨⟨⟨hg,hi,hh⟩,hlen⟩,-⟩,e1,e2⟩:=hv N x.fParts m p.fQ s hm hs hst om hn hN;rw[e2];rcases hh with⟨k1,k2⟩|⟨k1,k2,k3,k4⟩
  ·cases k2;grind[T2.ql,T2.qr,L5,uy,T2.ok]
  ·subst k2;grind[T2.qr,uy,T2.ok]
 ·rw[cf om,cf om];cases x.fColon with
  | true=>refine T2.ql (eN (by show x.fText.length+27<=_;omega)) (T2.qr l1 (T2.qr (eN (by rw[nX];show x.fText.length+2+25<=_;omega)) ?_));simp_all[L5,uy,T2.ok]
  | false=>refine T2.ql (eN (by show x.fText.length+19<=_;omega)) (T2.qr l1 (T2.qr (eN (by rw[nX];show x.fText.length+2+17<=_;omega)) ?_));simp_all[L5,uy,T2.ok]
def Xl(F:Nat):Prop:=∀(op:Int)(v:Bs)(l:J aB),6<=op->op<=9->Ts v<=4096->Ts l<=26000->bV l<=5000000 ->
 T2 (λa b=>a=b/\b.length<=Ts v) ((eR F (pM l)).bind λp=>G7 F op v p) ((gC F l).bind λp=>GX F op v p)
theorem T2.bd2{A X Y:Type}{Q:A->B->Prop}{x:O X}{y:O Y}{f:X->O C}{g:Y->O D}{h:C->O A}{h':D->O B}(t:T2 P (x.bind f) (y.bind g))(k:∀a b,P a b->T2 Q (h a) (h' b)):T2 Q (x.bind λa=>(f a).bind h) (y.bind λb=>(g b).bind h'):=by rw[<-abh,<-abh];exact T2.bd t k
theorem auu{X Y:Type}{y:O X}{g:X->O D}{h:D->O Y}{b:D}(e:(y.bind g)=iN b):(y.bind λb=>(g b).bind h)=h b:=by rw[<-abh,e];rfl
theorem pid{A:Type}(y:O (A×B×C)):(y.bind λx=>iN (x.1,x.2.1,x.2.2))=y:=by cases y<;>rfl
theorem asK{A:Type}(y:O (A×B)):(y.bind λx=>iN (x.1,x.2))=y:=by cases y<;>rfl
theorem trB(o:Int):(cond (o==6) (o==6) (cond (o==7) (o==7) (cond (o==8) (o==8) (o==9))))=cond (eK (6<=o)) (eK (o<=9)) eQ:=by rw[cF];grind
theorem aqA(F:Nat)(fl:J aZ)(h:lW s)(n v:Bs)(m:dz)(p:cO)(hm:Mo m p)(hv:Ts v<=4096)(hF:1000<F):T2 (λa b=>a=b/\RB 1 b) (oR F n v m (iL fl s)) (nO F n v p s):=by
 obtain⟨r,hr,er⟩:=aqp F h.1 n v p hv hF;refine⟨r,r,⟨rfl,hr⟩,?_,er⟩;rw[<-er];obtain⟨m1,m2⟩:=hm;unfold oR nO wx;rw[ao2,ao1 F m1,m1,m2,show(iL fl s).b9=s.b9 from rfl];simp only[aH,aE];obtain⟨c,hc⟩:=Sj F p;have e:cond (cond (!p.lu) hJ (!((n==[64])||(n==[42])))) hJ (cond (n==[42]) p.fQ eQ)=cond (cond (!p.lu) hJ (cond (!(n==[64])) (!(n==[42])) eQ)) hJ (cond p.fQ (n==[42]) eQ):=by grind
 rw[e];cases (cond (cond (!p.lu) hJ (cond (!(n==[64])) (!(n==[42])) eQ)) hJ (cond p.fQ (n==[42]) eQ))with
 | true=>rfl|false=>
  rw[aJ];congr 1;funext rc z;cases hd:eK (z.2<(Ts s.b9.cZ:Int))with
  | false=>rfl|true=>cases h0:eK (0<=z.2)with|false=>grind|true=>rfl
theorem aqB(hF:100000000<=F)(hT:Xl F)(h1:∀k,k<n->X1 fl F k)(hV:∀k,k<n->XV fl F k)(N:Nat)(x:d6)(m:dz)(p:cO)(s:aO)(hm:Mo m p)(hs:lW s)(hst:stop s=eQ)(hx:wP x<=1000)(hn:9*wP x+7<=n)(hN:6*wP x+4<=N):
  T2 (RJ fl (wP x) m p) ((bf F n).2.2.2.2.2.1 x m (iL fl s)) ((aF F N).2.2.2.2.1 x p s):=by
 have hw:=EF x;obtain⟨j,rfl⟩:∃j,n=j+3:=⟨n-3,om⟩;obtain⟨M,rfl⟩:∃j,N=j+2:=⟨N-2,om⟩;show T2 _ (o9 F (bf F (j+2)) x m (iL fl s)) (gy F (aF F (M+1)) x p s);unfold o9 gy wx;obtain⟨⟨v,st⟩,hv,ev⟩:=aqo F hs.1.1 x.fText om om;rw[show z6 F (iL fl s).b9 x.fText=kU F s.b9 x.fText from asH F hs.1.1 x.fText om om,ev,aE,aE];obtain⟨c,hc⟩:=Sj F p;have hmc:eD F m=iN c:=by rw[ao1 F hm.1,hc]
 have htr:Ey F x.fOp=iN (cond (eK (6<=x.fOp)) (eK (x.fOp<=9)) eQ):=by unfold Ey wx;rw[aH];rfl
 simp only[ao2,htr,hc,hmc,aH,aE,trB,cT];dsimp only at hv⊢;rw[show(iL fl s).b9=s.b9 from rfl];generalize htB:cond (eK (6<=x.fOp)) (eK (x.fOp<=9)) eQ=tr;generalize hnb:((ny .i64 s.b9.iw 2) != 0)=nb;have l1:eK (Ts x.fText+Ts ([58,32,112,97,114,97,109,101,116,101,114,32,110,111,116,32,115,101,116]:Bs)<=9223372036854775807)=hJ:=eN (by show x.fText.length+19<=_;omega);have key:∀A B:O (Unit ⊕ (J aB×Bool×aP)),(cond (cond (x.fOp==0) (x.fOp==0) (cond (x.fOp==5) (x.fOp==5) tr)) (cond (cond (cond nb (!st) eQ) (!((x.fText==[64])||(x.fText==[42]))) eQ) A B) B)=cond (cond (cond (cond nb (!((x.fText==[64])||(x.fText==[42]))) eQ) (!st) eQ) ((x.fOp==0)||((x.fOp==5)||tr)) eQ) A B:=λA B=>by grind
 rw[key];have one:∀(t:Bs)(u:aO),Ts t<=5000*wP x->lW u->stop u=eQ->T2 (RJ fl (wP x) m p) ((iG F t c).bind λgp=>iN (gp,hJ,iL fl u)) (iN ([aB.mk t c],u)):=λt u ht hu hsu=>T2.ok (RJ.go hu (RB.one om ht) hsu);cases (cond (cond (cond nb (!((x.fText==[64])||(x.fText==[42]))) eQ) (!st) eQ) ((x.fOp==0)||((x.fOp==5)||tr)) eQ)with
 | true=>rw[aU,aU,cE l1,cE l1,L5,uy];exact T2.ok (RR.j (RR.err hs (RB.nil (k:=1)) hst de rfl) om)|false=>
  rw[aJ,aJ];show T2 _ (cond (x.fOp==5) _ _) _;have R:∀k:Nat,k<=1000000->K.ij (k:Int):=λk hk=>⟨om,om⟩;have dec:∀k:Nat,k<=1000000->T2 (RJ fl (wP x) m p) ((qy F (k:Int)).bind λgi=>(iG F gi c).bind λgp=>iN (gp,hJ,iL fl s)) ((dV F (k:Int)).bind λx9=>iN ([aB.mk x9 c],s)):=λk hk=>by grind[K.yM,aji,K.LF]
  cases h5:(x.fOp==5)with
  | true=>rw[aU,aU,aU];have hp:=hs.1.1.2.1;show T2 _ ((qy F (cond ((x.fText==[64])||(x.fText==[42])) (Ts s.b9.cZ:Int) (Ts v:Int))).bind _) _;grind
  | false=>
   rw[aJ,aJ,aJ,aJ];cases tr with
   | true=>
    rw[aU,aU];have hop:6<=x.fOp/\x.fOp<=9:=by simp_all
    refine T2.bd (alr hF (h1 (j+1) om) (M+1) x.fParts s hs hst om om om) ?_;rintro⟨r,ok,x'⟩ ⟨r',s'⟩ ⟨g1,g2,g3⟩;dsimp only at g1 g2 g3⊢;have z1:=g2.1;have z2:=g2.2;have hTr:=hT x.fOp v r' hop.1 hop.2 hv om om;rcases g3 with⟨k1,k2⟩|⟨k1,k2,k3⟩
    ·cases k2;rw[ia,aJ];refine T2.bd2 hTr ?_;grind
    ·have k2:ok=eQ:=k2;subst k2;rw[qm,aU];obtain⟨a,b,⟨-,hb⟩,-,e2⟩:=hTr;rw[auu e2];exact T2.ok ⟨g1,RB.one om om,.inr ⟨k1,rfl,k3,rfl⟩⟩
   | false=>
    rw[aJ,aJ,d6.eta,pid];show T2 _ (rK F (bf F (j+1)) x m v st (iL fl s)) _;unfold rK wx;rw[aqz];obtain⟨ch,hch⟩:=an0 F x.fOp x.fColon st v;rw[hch,aE,aE,hmc];simp only[pid,asK,d6.eta];refine T2.cb (λ_=>?_) λ_=>T2.cb (λ_=>one [] s (fq _) hs hst) λ_=>T2.cb (λ_=>?_) λ_=>T2.cb (λ_=>?_) λ_=>?_
    ·refine T2.mono (h1 (j+1) om (M+1) x.fParts {m with dL:=2} {p with DR:=hJ} s hm hs hst om om om) ?_;rintro a b h;exact RR.j (h.rr λ_=>rfl) om
    ·rw[K.Ik F _ om];obtain⟨nm,-,enm⟩:=Gi F x.fText om;rw[enm,aE,aE];have l3:eK (Ts x.fText+Ts ([58,32,99,97,110,110,111,116,32,97,115,115,105,103,110]:Bs)<=9223372036854775807)=hJ:=eN (by show x.fText.length+15<=_;omega);refine T2.cb (λ_=>?_) λ_=>?_
     ·rw[cE l3,cE l3,L5,uy];exact T2.ok (RR.j (RR.err hs (RB.nil (k:=1)) hst de rfl) om)
     ·refine T2.bd (hV (j+1) om (M+1) x.fParts m p.fQ s hm.1 hs hst om om om) ?_;rintro⟨t0,ok,x'⟩ ⟨t,s'⟩ ⟨⟨⟨g1,g2,g3⟩,g4⟩,g5⟩;dsimp only at g1 g2 g3 g4 g5⊢;have ht:Ts t<=5000*wP x:=by grind
      rcases g3 with⟨k1,k2⟩|⟨k1,k2,k3,k4⟩
      ·cases k2;rw[ia,aJ];refine T2.l (P:=λy:Bool×aP=>∃s2,eW F x.fText t0 s'=iN s2/\lW s2/\((stop s2=eQ/\y=(eQ,iL fl s2))\/(stop s2=hJ/\y.1=hJ/\Fin y.2 s2))) ?_ ?_
       ·obtain⟨⟨a1,a2⟩,s2,⟨b1,b2⟩,e1,e2⟩:=ags F fl g1 k1 x.fText t0 om;simp_all[aE,aA.ok]
       ·rintro⟨a1,a2⟩ ⟨s2,e2,b1,b2⟩;rw[e2,aE];rcases b2 with⟨b2,b3⟩|⟨b2,b3,b4⟩
        ·simp_all
        ·have b3:a1=hJ:=b3;subst b3;exact T2.ok ⟨b1,RB.one om ht,.inr ⟨b2,rfl,b4,rfl⟩⟩
      ·have k2:ok=eQ:=k2;subst k2;rw[qm,aU,aE,ajj F k1,aE];exact T2.ok ⟨g1,RB.one om ht,.inr ⟨k1,rfl,k3,rfl⟩⟩
    ·refine T2.bd (als hF (hV j om) M x m p s hm.1 hs hst hx om om) ?_;rintro⟨a1,a2⟩ s2 ⟨b1,b2,b3,b4⟩;have b3:a1=eQ:=b3;subst b3;exact T2.ok ⟨b1,RB.nil,.inr ⟨b2,rfl,b4,rfl⟩⟩
    ·refine T2.bd (aqA F fl hs x.fText v m p hm hv om) ?_;rintro a b ⟨rfl,hb⟩;exact T2.ok (RJ.go hs (hb.mono om) hst)
theorem avK(F:Nat)(p:d6)(f:Bool->O R):((cond (p.fKind==4) (iN (p.fText==([64]:Bs))) (iN eQ):O Bool).bind λx4=>(cond x4 (iN (p.fOp==0)) (iN eQ):O Bool).bind f)=(xW F p).bind f:=by unfold xW wx;grind
theorem auv(F:Nat){l:J bP}(hl:Ts l<=128)(hF:1000<F)(n:Bs)(A:bP->O R)(B:O R):((xZ F l n).bind λx5=>(cond x5.2 (iN x5.1.cL) (iN eQ):O Bool).bind λx6=>cond x6 (A x5.1) B)=cond (jK l n).1.cL (A (jK l n).1) B:=by
 rw[ajh F _ _ om om];have hb:(jK l n).2=eQ->(jK l n).1=bP.mk [] [] eQ eQ eQ:=by unfold jK;cases l.find? _<;>simp
 grind
theorem asL(hN':NC<=F)(hF:100000000<=F)(hT:Xl F)(h1:∀k,k<n->X1 fl F k)(hV:∀k,k<n->XV fl F k):X2 fl F n:=by
 intro N x m p s hm hs hst hx hn hN;have hw:=EF x;obtain⟨j,rfl⟩:∃j,n=j+2:=⟨n-2,om⟩;obtain⟨M,rfl⟩:∃j,N=j+2:=⟨N-2,om⟩;show T2 _ (tv F (bf F (j+1)) x m (iL fl s)) (gY F (aF F (M+1)) x p s);unfold tv gY wx;obtain⟨c,hc⟩:=Sj F p;obtain⟨d,hd⟩:=asF F p;simp only[pid,d6.eta];have one:∀(t:Bs)(c:Int),Ts t<=5000*wP x->T2 (RJ fl (wP x) m p) ((iG F t c).bind λgp=>iN (gp,hJ,iL fl s)) (iN ([aB.mk t c],s)):=λt c ht=>T2.ok (RJ.go hs (RB.one om ht) hst);refine T2.cb (λ_=>?_) λ_=>T2.cb (λ_=>one _ _ om) λ_=>T2.cb (λ_=>?_) λ_=>T2.cb (λ_=>?_) λ_=>T2.cb (λ_=>?_) λ_=>T2.cb (λ_=>?_) λ_=>T2.cb (λ_=>?_) λ_=>T2.ok (RJ.go hs RB.nil hst)
 ·
  have hl:∃d',rU F m=iN d'/\(COk m p->d'=d):=by unfold rU wx;unfold rG wx at hd;rw[<-hm.1]at hd;unfold COk;grind
  obtain⟨d',hd',he⟩:=hl;rw[hd,hd',aE,aE];exact T2.ok ⟨hs,RB.one om (by grind),.inl ⟨hst,rfl,rfl,λh=>by rw[he h]⟩⟩
 ·
  show T2 _ (rJ F (bf F j) x m (iL fl s)) _;unfold rJ wx;have hkl:=Di x.fParts
  have rl:∀(r:J aB)(u:aO),aA (λy=>y=(r,u)\/(r=[]/\y=([aB.mk [] 1],u))) (bX (σ:=Int) (R:=(J aB)×aO) (λlP x3=>
    cond (eK (x3<(Ts x.fParts:Int)))
    (rq ((eK (0<=x3))&&(eK (x3<(Ts x.fParts:Int)))) ((xW F (x.fParts.getD (eJ x3) kz)).bind λx5=>
    cond x5
    (iN (r,u))
    (lP (aD (x3+1)))))
    (cond ((Ts r:Int)==0)
    (iN (([(aB.mk [] 1)]:J aB),u))
    (iN (r,u)))) F 0):=λr u=>by
   refine aA.lp (λi:Int=>∃k:Nat,i=(k:Int)/\k<=Ts x.fParts) (λi=>Ts x.fParts-i.toNat) ⟨0,rfl,om⟩ (by grind) ?_;rintro _ ⟨k,rfl,hk⟩ rc hrc;refine aA.cd (λh=>?_) λ_=>aA.cb (λh=>aA.ok (.inr ⟨ahb.1 (by simp_all),rfl⟩)) λ_=>aA.ok (.inl rfl);obtain⟨b,hb⟩:=aoY F (x.fParts.getD (eJ (k:Int)) kz);rw[ck om om,hb,aE,bH om];exact aA.cb (λ_=>aA.ok (.inl rfl)) λ_=>hrc _ ⟨k+1,rfl,om⟩ (by grind)
  refine T2.bd (h1 j om (M+1) x.fParts (dz.mk hJ m.lu 0) (cO.mk hJ eQ p.lu) s ⟨rfl,hm.2⟩ hs hst om om om) ?_;intro a b h;have h:=h.rr (λh=>nomatch h);obtain⟨r,ok,x'⟩:=a;obtain⟨r',s'⟩:=b;obtain⟨g1,g2,⟨k1,k2⟩|⟨k1,k2,k3,k4⟩⟩:=h
  ·cases k2;dsimp only at g1 g2 k1⊢;rw[ia,aJ];by_cases h0:0<Ts r'
   ·rw[cq om];obtain⟨y,hy,e⟩:=rl r' s';rw[e];rcases hy with rfl|⟨h,_⟩
    ·exact T2.ok (RJ.go g1 (g2.mono om) k1)
    simp_all
   ·rw[cf om];have hnil:r'=[]:=ahb.1 om;subst hnil;refine T2.lp (λ(i i':Int)=>∃k:Nat,i=(k:Int)/\i'=(k:Int)/\k<=Ts x.fParts) (λi=>Ts x.fParts-i.toNat) ⟨0,rfl,rfl,om⟩ (by grind) ?_;rintro _ _ ⟨k,rfl,rfl,hk⟩ q1 q2 hrc;refine T2.cb (λh=>?_) λ_=>T2.ok (RJ.go g1 (RB.one om (fq _)) k1);have h:=zi h;have e:=avK (R:=J aB×Bool×aP) F (x.fParts.getD (eJ (k:Int)) kz);obtain⟨b,hb⟩:=aoY F (x.fParts.getD (eJ (k:Int)) kz);refine T2.ql (mM om om) (T2.qr (mM om om) ?_);rw[e,hb,aE,aE,bH om];exact T2.cb (λ_=>T2.ok (RJ.go g1 RB.nil k1)) λ_=>hrc _ _ ⟨k+1,rfl,rfl,om⟩ (by grind)
  ·have k2:ok=eQ:=k2;have k4:r=[]:=k4;subst k2 k4;dsimp only at g1 g2 k1 k3⊢;rw[qm,aU];obtain⟨y,hy,e⟩:=rl r' s';rw[e];rcases hy with rfl|⟨_,rfl⟩
   ·exact T2.ok ⟨g1,g2.mono om,.inr ⟨k1,rfl,k3,rfl⟩⟩
   ·exact T2.ok ⟨g1,RB.one om (fq _),.inr ⟨k1,rfl,k3,rfl⟩⟩
 ·
  have hl:=hs.1.1.1.1;have hv:=(Rx hs.1.1.1 [72,79,77,69]).2;have e:=auv F (l:=s.b9.b8) hl om [72,79,77,69] (λv=>(iG F v.cj 1).bind λx7=>iN (x7,hJ,iL fl s)) ((iG F [126] 0).bind λx8=>iN (x8,hJ,iL fl s));rw[show(iL fl s).b9=s.b9 from rfl,e,Ab F s.b9.b8 _ om om,aE];grind
 ·
  exact(avI F fl hs hst x m p hm.1 om).mono λa b h=>RR.j h om
 ·
  have:=asJ hN' hF fl (bf F j) (aF F M) x m p hm.1 s ((hV j om M x.fParts (dz.mk hJ eQ 0) hJ s rfl hs hst om om om).mono λa b h=>h.1);exact this.mono λa b h=>RR.j h om
 grind[aqB,asK]
theorem ao3(hN':NC<=F)(hF:100000000<=F)(hT:Xl F):∀n,X1 fl F n:=by
 intro n
 induction n using Nat.strongRecOn with
 | ind n ih=>
  cases n with
  | zero=>intro N l m p s _ _ _ _ h _;omega|succ n=>
   have hV:∀k,k<n+1->XV fl F k:=λk hk=>by cases k with|zero=>intro N l m q s _ _ _ _ h _;omega|succ k=>grind[aqy]
   grind[aqw,asL]
def ajk(it:aC)(t:Bs):Prop:=it.fKind=3\/∃b,t=[b]/\Ub it (b.toNat:Int)=hJ
def Mt:J aC->Bs->Prop|[],s=>s=[]|it::p,s=>∃a b,s=a++b/\ajk it a/\Mt p b
theorem Sk:∀(p:J aC)(it:aC)(s:Bs),Mt (p++[it]) s↔∃a b,s=a++b/\Mt p a/\ajk it b
 | [],it,s=>by
  constructor
  ·rintro⟨a,b,rfl,h,rfl⟩;exact⟨[],a,si,rfl,h⟩
  ·rintro⟨a,b,rfl,rfl,h⟩;exact⟨b,[],si,h,rfl⟩
 | x::p,it,s=>by
  constructor
  ·rintro⟨a,b,rfl,h,hb⟩;obtain⟨c,d,rfl,h1,h2⟩:=(Sk p it b).1 hb;exact⟨a++c,d,si,⟨a,c,rfl,h,h1⟩,h2⟩
  ·rintro⟨a,b,rfl,⟨c,d,rfl,h1,h2⟩,h3⟩;exact⟨c,d++b,si,h1,(Sk p it _).2 ⟨d,b,rfl,h2,h3⟩⟩
theorem an4{it:aC}{t:Bs}(h:ajk it t):ajk it t.reverse:=by
 rcases h with h|⟨b,rfl,h⟩
 ·exact .inl h
 ·exact .inr ⟨b,rfl,h⟩
theorem aej:∀(p:J aC)(s:Bs),Mt p s->Mt p.reverse s.reverse
 | [],s,h=>by obtain rfl:s=[]:=h;rfl
 | it::p,s,h=>by obtain⟨a,b,rfl,h1,h2⟩:=h;rw[List.reverse_cons,List.reverse_append];exact(Sk _ _ _).2 ⟨_,_,rfl,aej p b h2,an4 h1⟩
theorem agv(f:Nat->Bool):∀k,upE f k=hJ↔∃j,j<=k/\f j=hJ
 | 0=>⟨λh=>⟨0,eo _,h⟩,λ⟨j,h,e⟩=>by rwa [show j=0 by omega]at e⟩
 | k+1=>by
  rw[upE,Mf,agv f k];constructor
  ·rintro (h|⟨j,h,e⟩)
   ·exact⟨k+1,eo _,h⟩
   ·exact⟨j,om,e⟩
  ·rintro⟨j,h,e⟩;by_cases hj:j=k+1
   ·subst hj;exact .inl e
   ·exact .inr ⟨j,om,e⟩
theorem Q7(p:J aC)(s:Bs):∀i,i<=Ts p->∀k,k<=Ts s->(EE p s i k=hJ↔Mt (p.take i) (s.take k))
 | 0,_,k,hk=>by show(k==0)=hJ↔s.take k=[];rw[List.take_eq_nil_iff];grind
 | i+1,hi,k,hk=>by
  have hki:Vu p i=p[i]:=by unfold Vu;rw[gd om]
  rw[lF (show i<p.length by omega),Sk,EE];cases hs:nT p i with
  | true=>
   rw[aU,agv];have h3:p[i].fKind=3:=by unfold nT at hs;simp_all
   constructor
   ·rintro⟨j,hj,e⟩;refine⟨s.take j,(s.take k).drop j,?_,(Q7 p s i om j om).1 e,.inl h3⟩;grind[Nat.min_eq_left,List.take_append_drop]
   ·rintro⟨a,b,e,h1,-⟩;have hl:=congrArg Ts e;rw[zh,nX]at hl;refine⟨a.length,om,(Q7 p s i om _ om).2 ?_⟩;grind[Nat.min_eq_left,List.take_left]
  | false=>
   have h3:p[i].fKind≠3:=by unfold nT at hs;simp_all
   cases k with
   | zero=>
    refine⟨λh=>(by cases h),?_⟩;rintro⟨a,b,e,-,h|⟨c,rfl,h⟩⟩
    ·exact absurd h h3
    ·simp at e
   | succ k=>
    have hsk:s.take (k+1)=s.take k++[s[k]]:=lF om;show(EE p s i k&&Pm p s i k)=hJ↔_;rw[cK,Q7 p s i om k om,hsk];unfold Pm;rw[hki,gd (show k<s.length by omega)];constructor
    ·rintro⟨h1,h2⟩;exact⟨_,_,rfl,h1,.inr ⟨_,rfl,h2⟩⟩
    ·rintro⟨a,b,e,h1,h|⟨c,rfl,h⟩⟩
     ·exact absurd h h3
     grind[List.append_inj']
theorem asM(p:J aC)(s:Bs){k:Nat}(hk:k<=Ts s):EE p.reverse s.reverse p.reverse.length k=EE p (s.drop (Ts s-k)) p.length (s.drop (Ts s-k)).length:=by rw[tH,Q7 _ _ _ (eo _) _ (by simpa using hk),Q7 _ _ _ (eo _) _ (eo _),s7,s7,s7,List.take_reverse];exact⟨λh=>by simpa using aej _ _ h,λh=>aej _ _ h⟩
def ey(long:Bool)(g:Nat->Bool):Nat->Int×Bool|0=>(0,eQ)|k+1=>cond (g k&&cond long hJ (!(ey long g k).2)) ((k:Int),hJ) (ey long g k)
theorem Kj(b:Bool){f g:Nat->Bool}:∀k,(∀j,j<k->f j=g j)->ey b f k=ey b g k|0,_=>rfl|k+1,h=>by rw[ey,ey,h k om,Kj b k λj hj=>h j om]
theorem NG(b:Bool)(g:Nat->Bool)(k:Nat)(h:∀j,k<=j->g j=eQ):∀d,ey b g (k+d)=ey b g k|0=>rfl|d+1=>by rw[<-OT,ey,h _ om,NG b g k h d];rfl
theorem Z7(g:Nat->Bool)(k:Nat)(h:(ey eQ g k).2=hJ):∀d,ey eQ g (k+d)=ey eQ g k|0=>rfl|d+1=>by rw[<-OT,ey,Z7 g k h d,h,aJ,ia,TK,aJ]
theorem aek(b:Bool)(g:Nat->Bool):∀k,∃j:Nat,(ey b g k).1=(j:Int)/\j<=k-1/\((ey b g k).2=eQ->j=0)
 | 0=>⟨0,rfl,eo _,λ_=>rfl⟩|k+1=>by obtain⟨j,h1,h2,h3⟩:=aek b g k;rw[ey];grind
theorem Z8(F:Nat)(p:J aC)(n:Bs)(long:Bool)(hF:Ts p+300<F)(qT:Ts n<F)(hn:Ts n<50000000)(hp:Ts p<50000000)(hit:∀it∈p,ko it){v:Bool}(hv:ju F p=iN v):
  ox F p n 0 long=iN (ey long (λk=>v&&EE p n p.length k) (Ts n+1)):=by
 unfold ox wx;rw[hv,aE];cases v with
 | false=>have:=NG long (λk=>eQ&&EE p n p.length k) 0 (λ_ _=>rfl) (Ts n+1);rw[rX]at this;rw[this];rfl|true=>
  have hw:aD ((Ts p:Int)+1)=((Ts p+1:Nat):Int):=bW om;have hlen:∀g:Nat->Bool,Ts (jw (Ts p+1) g)=Ts p+1:=λg=>Dw _ g;rw[hw,ia,aJ,cE (by rw[dT om,dT om,dT om,dT om,dT om];rfl),cg,kK si,Ua,HU];rw[mE (g:=λj=>j==0) λj _=>by cases (j==0)<;>rfl,Zl F p _ om hp,aE,mE λj _=>amx p n j];have hsw:∀x:O (Int×Bool),x=iN (ey long (EE p n p.length) (Ts n+1))->(x.bind λx3=>iN (x3.1,x3.2))=iN (ey long (EE p n p.length) (Ts n+1)):=by rintro x rfl;rfl
  refine hsw _ (cy (λs=>∃k:Nat,s=(jw (Ts p+1) (λj=>EP p n j k),(ey long (EE p n p.length) k).1,(ey long (EE p n p.length) k).2,(k:Int))/\k<=Ts n/\(long=eQ->(ey long (EE p n p.length) k).2=eQ)) (λs=>Ts n-s.2.2.2.toNat) ?_ F _ ⟨0,rfl,om,λ_=>rfl⟩ aR);rintro s ⟨k,rfl,hk,hsh⟩;rw[ck om (by rw[hlen];omega),cg p.length,cg k,yB _ om,aj9,aH];have hS:ey long (EE p n p.length) (k+1)=cond (EE p n p.length k) ((k:Int),hJ) (ey long (EE p n p.length) k):=by rw[ey];grind
  have hend:∀d,(∀j,k<j->j<=Ts n->EE p n p.length j=eQ)->k+1+d=Ts n+1->ey long (EE p n p.length) (Ts n+1)=ey long (EE p n p.length) (k+1):=by intro d h1 h2;rw[Kj long (Ts n+1) (g:=λj=>EE p n p.length j&&eK (j<=Ts n)) λj hj=>by grind,Kj long (k+1) (g:=λj=>EE p n p.length j&&eK (j<=Ts n)) λj hj=>by grind,<-h2];refine NG _ _ _ (λj hj=>?_) d;grind
  by_cases Mz:(EE p n p.length k && !long)=hJ
  ·right;rw[cK]at Mz;obtain⟨h1,h2⟩:=Mz;have hl:long=eQ:=by simpa using h2
   subst hl;intro rc;rw[h1];rw[h1,aU]at hS;have:=Z7 (EE p n p.length) (k+1) (by rw[hS]) (Ts n-k);rw[show k+1+(Ts n-k)=Ts n+1 by omega,hS]at this;rw[this];rfl
  ·have hstep:∀G:Int×Bool->O (Int×Bool),(jj (σ:=Int×Bool) ((iN (cond (EE p n p.length k) (eK ((0:Int)<=(k:Int))) eQ):O Bool).bind λx7=>cond x7 (cond (!long) (iN (.inr ((k:Int),hJ))) (iN (.inl ((k:Int),hJ)))) (iN (.inl ((ey long (EE p n p.length) k).1,(ey long (EE p n p.length) k).2)))) G)=G (ey long (EE p n p.length) (k+1)):=by
    intro G;rw[hS,aE];cases h1:EE p n p.length k with
    | false=>rfl|true=>
     have:long=hJ:=by simp_all
     rw[this];rfl
   by_cases hkn:k<Ts n
   ·obtain⟨c,hc1,hc⟩:=aeU F (jw (Ts p+1) (λj=>EP p n j k)) (by rw[hlen];omega) (by rw[hlen];omega);cases c with
    | false=>
     have hz:∀j,k<j->j<=Ts n->EE p n p.length j=eQ:=by
      intro j h1 h2
      have:=XQ p n k (λi hi=>by
       have:=hc1 rfl i (by rw[hlen];omega)
       grind[yB]) (j-k) p.length (Nat.le_refl _)
      grind[aj9]
     rw[hend (Ts n-k) hz om];simp_all
    | true=>
     left;refine⟨(jw (Ts p+1) (λj=>EP p n j (k+1)),(ey long (EE p n p.length) (k+1)).1,(ey long (EE p n p.length) (k+1)).2,((k+1:Nat):Int)),⟨k+1,rfl,om,λhl=>?_⟩,aR,λrc=>?_⟩
     ·simp_all
     ·refine(hstep _).trans ?_;rw[show((k:Int)==(Ts n:Int))=eQ by simp;omega,aJ,hc,aE,aE,ia,aJ,bC hkn,ahP F p n _ k hF hp hit,aE,bW om];grind[mE,af1]
   grind
theorem ajl(F:Nat)(p:J aC)(n:Bs)(long:Bool)(hF:Ts p+300<F)(qT:Ts n+1<F)(hn:Ts n<50000000)(hp:Ts p<50000000)(hit:∀it∈p,ko it){v:Bool}(hv:kR F p=iN v):
  uq F p n long=iN (ey long (λk=>v&&EE p n p.length k) (Ts n+1)):=by
 unfold uq wx;rw[hv,aE];cases v with
 | false=>have:=NG long (λk=>eQ&&EE p n p.length k) 0 (λ_ _=>rfl) (Ts n+1);rw[rX]at this;rw[this];rfl|true=>
  rw[ia,af2 F p n hF qT hn hp hit];refine cy (λs=>∃k:Nat,s=((ey long (EE p n p.length) k).1,(ey long (EE p n p.length) k).2,(k:Int))/\k<=Ts n+1) (λs=>Ts n+1-s.2.2.toNat) ?_ F _ ⟨0,rfl,om⟩ aR;rintro s ⟨k,rfl,hk⟩;dsimp only;by_cases hk2:k<=Ts n
  ·left;refine⟨_,⟨k+1,rfl,om⟩,aR,λrc=>?_⟩;rw[ck om (by rw[Dw];omega),yB _ om,bW om,ey];grind
  grind
theorem ajm(F:Nat)(p:J aC)(n:Bs)(long:Bool)(hF:Ts p+300<F)(qT:Ts n+1<F)(hn:Ts n<50000000)(hp:Ts p<50000000)(hit:∀it∈p,ko it){v:Bool}(hv:ju F p=iN v):
  uo F p n long=iN (ey long (λk=>v&&EE p (n.drop (Ts n-k)) p.length (n.drop (Ts n-k)).length) (Ts n+1)):=by
 generalize hg:(λk=>v&&EE p (n.drop (Ts n-k)) p.length (n.drop (Ts n-k)).length)=g;refine cy (λs=>∃k:Nat,s=((ey long g k).1,(ey long g k).2,(k:Int))/\k<=Ts n+1) (λs=>Ts n+1-s.2.2.toNat) ?_ F _ ⟨0,rfl,om⟩ aR;rintro s ⟨k,rfl,hk⟩;dsimp only;by_cases hk2:k<=Ts n
 ·left;refine⟨_,⟨k+1,rfl,om⟩,aR,λrc=>?_⟩;have NL:sl n (aD ((Ts n:Int)-(k:Int))) (Ts n:Int)=n.drop (Ts n-k):=by rw[bL om];unfold sl;simp
  rw[NL,bL om,cE (by grind),akc F p _ hF (by grind) (by grind) hp hit hv,aH,Option.bind_some,Option.bind_some,bW om,ey];grind
 grind
theorem ajn(F:Nat)(x:J aC)(hF:Ts x<F)(hx:Ts x<50000000):slices_Reverse F x=iN x.reverse:=by
 unfold slices_Reverse wx;have h0:aD ((Ts x:Int)-1)=(Ts x:Int)-1:=bL om;rw[h0];refine cy (λs:Int×Int×J aC=>∃k:Nat,s.1=(k:Int)/\s.2.1=(Ts x:Int)-1-(k:Int)/\2*k<=Ts x+1/\s.2.2.length=Ts x/\∀m,m<Ts x->s.2.2.getD m eL=cond (eK (m<k)||decide (Ts x<=m+k)) (x.getD (Ts x-1-m) eL) (x.getD m eL)) (λs=>Ts x-s.1.toNat) ?_ F _ ⟨0,rfl,si,om,rfl,λm hm=>by grind⟩ aR;rintro⟨i,j,l⟩ ⟨k,h1,h2,h3,h4,h5⟩;dsimp only at h1 h2 h4 h5⊢;subst h1 h2;by_cases hk:(k:Int)<(Ts x:Int)-1-(k:Int)
 ·left;have hj:(Ts x:Int)-1-(k:Int)=((Ts x-1-k:Nat):Int):=om;rw[hj];refine⟨(((k+1:Nat):Int),((Ts x-1-k-1:Nat):Int),(l.set k (l.getD (Ts x-1-k) eL)).set (Ts x-1-k) (l.getD k eL)),⟨k+1,rfl,by dsimp only;omega,om,by simp_all,λm hm=>?_⟩,aR,λrc=>?_⟩
  ·dsimp only;grind
  ·rw[cq om,ck om om,ck om om,ck om om,ck om (by grind),Int.toNat_natCast,Int.toNat_natCast,bW om,uQ om om]
 ·right;intro rc;rw[cf hk];refine congrArg iN (Bo (by simp_all) λm Y7 hm2=>?_);grind
theorem alu(F:Nat)(x:J aC)(hx:Ts x<50000000):CO F x=iN x:=by unfold CO wx;grind[MW,rq,dD]
def FP(F:Nat)(it:aC):Bool:=cond (cond (cond (cond (eK (it.fKind<1)) hJ (eK (4<it.fKind))) hJ ((Ts it.fText:Int) != cond (it.fKind==1) 1 0)) hJ (cond (it.fKind != 4) (cond it.BK hJ (eK (0<(Ts it.cL:Int)))) eQ)) hJ (!((pq F it.cL).getD eQ))
theorem Q8(F:Nat)(p:J aC)(hF:Ts p+300<F)(hp:Ts p<50000000)(hit:∀it∈p,ko it):kR F p=iN (!p.any (FP F)):=by
 unfold kR wx;refine cy (λs:Int=>∃k:Nat,s=(k:Int)/\k<=Ts p/\(p.take k).any (FP F)=eQ) (λs=>Ts p-s.toNat) ?_ F _ ⟨0,rfl,om,rfl⟩ aR;rintro _ ⟨k,rfl,hk,hn⟩;by_cases hk:k<Ts p
 ·have hI:=hit _ (fm hk);have hl:=hI.2.2;obtain⟨c,hc⟩:=Du F p[k].cL om om;have hb:∀rc:Int->O Bool,cond (FP F p[k]) (iN eQ) (rc ((k+1:Nat):Int))=_:=λrc=>rfl;unfold FP at hb;rw[hc]at hb;have e:(p.take (k+1)).any (FP F)=FP F p[k]:=by grind[List.take_succ_eq_append_getElem]
  cases hv:FP F p[k]with
  | true=>right;intro rc;rw[cq (show(k:Int)<(Ts p:Int) by omega),bC hk,cg,gd hk];rw[show p.any (FP F)=hJ from TH.2 ⟨_,fm hk,hv⟩];unfold FP at hv;grind
  | false=>left;refine⟨_,⟨k+1,rfl,om,by rw[e,hv]⟩,aR,λrc=>?_⟩;rw[cq (show(k:Int)<(Ts p:Int) by omega),bC hk,cg,gd hk];unfold FP at hv;grind[bW]
 grind
theorem alv(F:Nat)(p:J aC)(n:Bs)(long:Bool)(hF:Ts p+300<F)(qT:Ts n+1<F)(hn:Ts n<50000000)(hp:Ts p<50000000)(hit:∀it∈p,ko it):
  ∃r:Int×Bool,(∃j:Nat,r.1=(j:Int)/\j<=Ts n/\(r.2=eQ->j=0))/\qN F p n long=iN r/\uo F p n long=iN r:=by
 have hv:=Q8 F p hF hp hit;rw[<-EL F p hF hp hit]at hv;have an5:=λit h=>hit it (List.mem_reverse.1 h);have hlr:Ts p.reverse=Ts p:=List.length_reverse;have hvr:=Q8 F p.reverse (by rw[hlr];exact hF) (by rw[hlr];exact hp) an5;rw[<-EL F p.reverse (by rw[hlr];exact hF) (by rw[hlr];exact hp) an5]at hvr;refine⟨_,?_,?_,ajm F p n long hF qT hn hp hit hv⟩
 ·obtain⟨j,h1,h2,h3⟩:=aek long (λk=>(!p.any (FP F))&&EE p (n.drop (Ts n-k)) p.length (n.drop (Ts n-k)).length) (Ts n+1);grind
 ·unfold qN wx;rw[alu F p hp,aE,ajn F p om hp,aE,kK om,Z8 F p.reverse n.reverse long (by rw[hlr];exact hF) aR (by simpa using hn) (by rw[hlr];exact hp) an5 hvr];grind[List.length_reverse,Kj,asM]
theorem ajo(F:Nat)(p:J aC)(n:Bs)(long:Bool)(hF:Ts p+300<F)(qT:Ts n+1<F)(hn:Ts n<50000000)(hp:Ts p<50000000)(hit:∀it∈p,ko it):
  ∃r:Int×Bool,(∃j:Nat,r.1=(j:Int)/\j<=Ts n/\(r.2=eQ->j=0))/\qO F p n long=iN r/\uq F p n long=iN r:=by
 have hv:=Q8 F p hF hp hit;have sE:=hv;rw[<-EL F p hF hp hit]at sE;refine⟨_,?_,?_,ajl F p n long hF qT hn hp hit hv⟩
 ·obtain⟨j,h1,h2,h3⟩:=aek long (λk=>(!p.any (FP F))&&EE p n p.length k) (Ts n+1);grind
 ·unfold qO wx;grind[Z8]
theorem aqC(a b:Bs)(c:Int):qb (aB.mk (a++b) c)=qb (aB.mk a c)++qb (aB.mk b c):=by unfold qb;grind
theorem an6(o:J aB)(r:aB):(sX o r).flatMap qb=o.flatMap qb++qb r:=by
 obtain⟨t,c⟩:=r;unfold sX;cases h1:(t==[])with
 | true=>
  have:qb (aB.mk [] c)=[]:=by unfold qb;simp_all
  simp_all
 | false=>
  rw[aJ];cases h2:(eK (0<Ts o)&&((o.getD (Ts o-1) dx).aI==c))with
  | true=>
   rw[cK,fW]at h2;have hk:Ts o-1<Ts o:=om;have hc:=eq_of_beq h2.2;have ho:o=o.take (Ts o-1)++[o.getD (Ts o-1) dx]:=by rw[gd hk,<-lF hk,show o.length-1+1=o.length by omega,s7]
   rw[aU,aoj,if_pos hk,show o.length-1+1=o.length by omega,Ma,Mi,List.flatMap_singleton,aqC]
   conv=>rhs;rw[ho]
   rw[Mi,List.flatMap_singleton,tI];rw[<-hc]
  | false=>simp_all
theorem Z9:∀(l o:J aB),(l.foldl sX o).flatMap qb=o.flatMap qb++l.flatMap qb|[],o=>by simp|r::l,o=>by rw[v7,Z9 l,an6,vZ,tI]
theorem an7(F:Nat)(l:J aB)(hF:100000000<=F)(h1:Ts l<=26000)(h2:bV l<=5000000):∃p,((∀it∈p,ko it)/\p.length<=5000000)/\eR F (pM l)=iN p/\gC F l=iN p:=by
 obtain⟨p,hp1,hp2⟩:=Vt F l om om om om;obtain⟨q,⟨g1,g2⟩,hq⟩:=S1 F l om om om om;rw[hp1]at hq;obtain rfl:=pO hq;refine⟨p,⟨g1,om⟩,?_,hp2⟩;obtain⟨j1,j2⟩:=NF l [];have e0:bV ([]:J aB)=0:=rfl;have hj1:bV (pM l)<=5000000:=by unfold pM;omega
 have hj2:(pM l).length<=26000:=by unfold pM;grind
 rw[<-hp1];unfold eR wx;rw[HQ F l om om om om,HQ F (pM l) om om om om];have:=Z9 l [];rw[U1,pN]at this;unfold pM;rw[this]
theorem agw(F:Nat)(hF:100000000<=F):Xl F:=by
 intro op v l h6 h9 hv h1 h2;obtain⟨p,⟨g1,g2⟩,e1,e2⟩:=an7 F l hF h1 h2;have hs:=λb=>alv F p v b om om om om g1;have hq:=λb=>ajo F p v b om om om om g1;have sl0:sl v 0 (Ts v:Int)=v:=by unfold sl;simp
 have hS:∀b,T2 (λa b:Bs=>a=b/\b.length<=Ts v) ((qN F p v b).bind λx3=>
  cond x3.2
  (rq ((eK (0<=aD ((Ts v:Int)-x3.1)))&&(eK (aD ((Ts v:Int)-x3.1)<=(Ts v:Int)))) (iN (sl v 0 (aD ((Ts v:Int)-x3.1)))))
  (iN v)) ((uo F p v b).bind λx2=>
  rq ((eK (0<=aD ((Ts v:Int)-x2.1)))&&(eK (aD ((Ts v:Int)-x2.1)<=(Ts v:Int)))) (iN (sl v 0 (aD ((Ts v:Int)-x2.1))))):=by
  intro b;obtain⟨⟨i,f⟩,⟨j,rfl,h1,h2⟩,r1,r2⟩:=hs b;rw[r1,r2,aE,aE];rw[bL om,ck om om];cases f with
  | true=>exact⟨_,_,⟨rfl,by unfold sl;simp⟩,rfl,rfl⟩|false=>
   refine⟨_,_,⟨?_,?_⟩,rfl,rfl⟩
   ·simp_all
   ·unfold sl;simp
 have hP:∀b,T2 (λa b:Bs=>a=b/\b.length<=Ts v) ((qO F p v b).bind λx4=>
  cond x4.2
  (rq ((eK (0<=x4.1))&&((eK (x4.1<=(Ts v:Int)))&&(eK ((Ts v:Int)<=(Ts v:Int))))) (iN (sl v x4.1 (Ts v:Int))))
  (iN v)) ((uq F p v b).bind λx4=>
  rq ((eK (0<=x4.1))&&((eK (x4.1<=(Ts v:Int)))&&(eK ((Ts v:Int)<=(Ts v:Int))))) (iN (sl v x4.1 (Ts v:Int)))):=by
  intro b;obtain⟨⟨i,f⟩,⟨j,rfl,h1,h2⟩,r1,r2⟩:=hq b;rw[r1,r2,aE,aE];rw[cE (by simp_all)];cases f with
  | true=>exact⟨_,_,⟨rfl,by unfold sl;simp⟩,rfl,rfl⟩|false=>
   obtain rfl:=h2 rfl;refine⟨_,_,⟨?_,?_⟩,rfl,rfl⟩
   ·exact sl0.symm
   ·unfold sl;simp
 have jjl:∀ {σ R:Type}(a:σ)(G:σ->O R),jj (iN (.inl a)) G=G a:=λ_ _=>rfl;have jjr:∀ {σ R:Type}(a:R)(G:σ->O R),jj (iN (.inr a)) G=iN a:=λ_ _=>rfl;have hd:∀b,T2 (λa b:Bs=>a=b/\b.length<=Ts v) (jj (σ:=Bool) (R:=Bs) (jj (σ:=Bool) (R:=Bool ⊕ Bs) (iN (.inl b)) λx2=>
  (qN F p v x2).bind λx3=>
  cond x3.2
  (rq ((eK (0<=aD ((Ts v:Int)-x3.1)))&&(eK (aD ((Ts v:Int)-x3.1)<=(Ts v:Int)))) (iN (.inr (sl v 0 (aD ((Ts v:Int)-x3.1))))))
  (iN (.inr v))) λx1=>
  (qO F p v x1).bind λx4=>
  cond x4.2
  (rq ((eK (0<=x4.1))&&((eK (x4.1<=(Ts v:Int)))&&(eK ((Ts v:Int)<=(Ts v:Int))))) (iN (sl v x4.1 (Ts v:Int))))
  (iN v)) ((uo F p v b).bind λx2=>
  rq ((eK (0<=aD ((Ts v:Int)-x2.1)))&&(eK (aD ((Ts v:Int)-x2.1)<=(Ts v:Int)))) (iN (sl v 0 (aD ((Ts v:Int)-x2.1))))):=by
  intro b;rw[jjl];have:=hS b;obtain⟨r,-,r1,-⟩:=hs b;rw[r1,aE]at this⊢;cases h:r.2 with
  | false=>simp_all|true=>rw[h,aU]at this;unfold rq at this⊢;cases h3:((eK (0<=aD ((Ts v:Int)-r.1)))&&(eK (aD ((Ts v:Int)-r.1)<=(Ts v:Int))))with|true=>simp_all|false=>rw[h3]at this;exact this
 unfold G7 GX wx;grind
theorem ael(l:J aB)(k:Nat):bV (l.take k)<=bV l:=by have:=Dv (l.take k) (l.drop k);rw[Hz]at this;omega
def qK(r:aB):J bq:=cond (r.aI==3) [bq.mk [] 3] (cond (r.aI==0||(r.aI==1||r.aI==2)) (cond (r.fText==[]&&r.aI==1) [bq.mk [] 1] []++r.fText.map λb=>bq.mk [b] r.aI) [])
theorem aqD(r:aB):(qK r).length<=Ts r.fText+1:=by unfold qK;cases (r.aI==3)<;>cases (r.aI==0||(r.aI==1||r.aI==2))<;>cases (r.fText==[]&&r.aI==1)<;>simp
theorem L6(l:J aB):(l.flatMap qK).length<=bV l+Ts l:=by
 induction l with|nil=>simp[bV]|cons a l ih=>have:=aqD a;simp only[vZ,nX,qi];simp[bV]at ih⊢;omega
theorem agx{s:Bs}{i:Nat}(h:i<Ts s):sl s (i:Int) ((i+1:Nat):Int)=[s[i]]:=by unfold sl;rw[cg,cg,lF h,List.drop_append_of_le_length (by rw[zh];omega),UZ (by rw[zh];omega)];rfl
theorem auw(F:Nat)(l:J aB)(hF:Ts l+bV l<F)(h1:Ts l<=100000000)(h2:bV l<=100000000):ux F l=iN (l.flatMap qK):=by
 have:aA (λr=>r=l.flatMap qK) (ux F l):=by
  unfold ux wx;refine aA.lp (λz:J bq×Int=>∃k:Nat,z.2=(k:Int)/\k<=Ts l/\z.1=(l.take k).flatMap qK) (λz=>Ts l-z.2.toNat) ⟨0,rfl,om,si⟩ (by show l.length-0<F;omega) ?_;rintro⟨o,_⟩ ⟨k,rfl,h3,h4⟩ rc hrc;dsimp only at h4 hrc⊢;refine aA.cd (λh=>?_) λh=>aA.ok (by rw[h4,uK om]);have hk:k<Ts l:=om;have hm:Ts l-Int.toNat ((k+1:Nat):Int)<Ts l-Int.toNat (k:Int):=om;have e1:(l.take (k+1)).flatMap qK=o++qK l[k]:=by rw[h4,Bb _ _ _ hk]
  have ho:Ts o<=bV l+Ts l:=by have:=L6 (l.take k);have h5:=ael l k;rw[<-h4,zh]at this;omega
  have ht:l[k].fText.length<=bV l:=RI (fm hk);rw[ck om om,bH (i:=k) om,cg,gd hk];generalize l[k]=r at e1 ht;obtain⟨q,hq⟩:∃q,q=qK r:=⟨_,rfl⟩;rw[<-hq]at e1;unfold qK at hq;cases c3:(r.aI==3)with
  | true=>rw[c3,aU]at hq;subst hq;exact aA.rq (oV (by show o.length+1<=_;omega) de) (hrc _ ⟨k+1,rfl,hk,e1.symm⟩ hm)
  | false=>
   rw[c3,aJ]at hq;simp only[aH,aE,aJ];have ec:(cond (r.aI==0) (r.aI==0) (cond (r.aI==1) (r.aI==1) (r.aI==2)))=(r.aI==0||(r.aI==1||r.aI==2)):=by cases (r.aI==0)<;>cases (r.aI==1)<;>rfl
   rw[ec];cases cc:(r.aI==0||(r.aI==1||r.aI==2))with
   | false=>rw[cc,aJ]at hq;subst hq;exact hrc _ ⟨k+1,rfl,hk,by rw[e1];simp⟩ hm|true=>
    rw[cc,aU]at hq;subst hq;simp only[aU];have ed:(cond (r.fText==[]) (r.aI==1) eQ)=(r.fText==[]&&r.aI==1):=by cases (r.fText==[])<;>rfl
    rw[ed];refine aA.bd (P:=λo':J bq=>o'=o++cond (r.fText==[]&&r.aI==1) [bq.mk [] 1] []) ?_ ?_
    ·cases (r.fText==[]&&r.aI==1)with
     | true=>exact aA.rq (oV (by show o.length+1<=_;omega) de) (aA.ok rfl)
     | false=>exact aA.ok si
    ·rintro o' ho';have hol:Ts o'<=Ts o+1:=by rw[ho'];cases (r.fText==[]&&r.aI==1)<;>simp
     refine aA.lp (λz:J bq×Int=>∃i:Nat,z.2=(i:Int)/\i<=Ts r.fText/\z.1=o'++(r.fText.take i).map λb=>bq.mk [b] r.aI) (λz=>Ts r.fText-z.2.toNat) ⟨0,rfl,om,si⟩ (by show r.fText.length-0<F;omega) ?_;rintro⟨o2,_⟩ ⟨i,rfl,i1,i2⟩ rc' uO;dsimp only at i2 uO⊢;have hl2:Ts o2<=Ts o'+Ts r.fText:=by rw[i2];simp;omega
     refine aA.cd (λh=>?_) λh=>hrc _ ⟨k+1,rfl,hk,by rw[e1];show o2=_;rw[i2,ho',uK om,tI]⟩ hm;have hi:i<Ts r.fText:=om;rw[bH om,wA om om om,agx hi];exact aA.rq (oV (by show o2.length+1<=_;omega) de) (uO _ ⟨i+1,rfl,om,by show o2++_=_;rw[i2,lF hi,pQ,tI];rfl⟩ (by show r.fText.length-Int.toNat ((i+1:Nat):Int)<Ts r.fText-Int.toNat (i:Int);omega))
 obtain⟨r,h,e⟩:=this;rw[e,h]
def Q9(l:J bq):Bs:=l.flatMap λe=>e.bJ
theorem auy(F:Nat)(l:J bq)(hF:Ts l<F)(h1:Ts l<=100000000)(h2:∀e∈l,Ts e.bJ<=1):yW F l=iN (Q9 l):=by
 have hb:∀k,Ts (Q9 (l.take k))<=k:=λk=>by
  unfold Q9;rw[List.length_flatMap];have:∀m:J bq,(∀e∈m,Ts e.bJ<=1)->(m.map λa=>Ts a.bJ).sum<=Ts m:=λm=>by
   induction m with|nil=>simp|cons a m ih=>intro h;have:=h a tJ;have:=ih λe he=>h e (kV _ he);simp;omega
  have:=this (l.take k) λe he=>h2 e (Mh he);rw[zh]at this;omega
 have:aA (λr=>r=Q9 l) (yW F l):=by
  unfold yW wx;refine aA.lp (λx:Int×Bool×J Int=>∃k:Nat,x.1=(k:Int)/\k<=Ts l/\x.2.2=cY (Q9 (l.take k))) (λx=>Ts l-x.1.toNat) ⟨0,rfl,om,by simp[Q9,cY]⟩ (by show l.length-0<F;omega) ?_;rintro⟨_,c,buf⟩ ⟨k,rfl,h3,h4⟩ rc hrc;dsimp only at h4 hrc⊢;have HP:Ts buf<=k:=by rw[h4,cY,jh];exact hb k
  refine aA.cd (λh=>?_) λh=>?_
  ·have hk:k<Ts l:=om;have hx:=h2 _ (fm hk);rw[ck om om,cg,gd hk,art F _ c buf om,aE,bH om];refine hrc _ ⟨k+1,rfl,hk,?_⟩ (by show l.length-Int.toNat ((k+1:Nat):Int)<Ts l-Int.toNat (k:Int);omega);show buf++cY l[k].bJ=_;unfold Q9;rw[h4,Bb _ _ _ hk];simp[cY,Q9]
  ·rw[uK om]at h4;subst h4;have:(cY (Q9 l)).length<=k:=HP;unfold mg wx;rw[cE (by rw[eN rfl,Zi,eN om];rfl),Mx];exact aA.ok rfl
 obtain⟨r,h,e⟩:=this;rw[e,h]
def NH(s:Bs)(b:UInt8)(c:Int):Int:=cond (c==2&&s.contains b) (cond (b==32||(b==9||b==10)) 1 2) 0
def jg(s:Bs)(e:bq):Int:=cond (e.bJ==[]) (cond (e.dL==3) 3 0) (NH s (e.bJ.getD 0 0) e.dL)
def TE(s:Bs)(e:bq):bM:=bM.mk e.bJ e.dL (jg s e)
theorem auz(F:Nat)(b:UInt8)(c:Int)(s:Bs)(hF:Ts s<F)(hs:Ts s<=100000):GY F (b.toNat:Int) c s=iN (NH s b c):=by
 unfold GY NH wx;simp only[bne];cases hc:(c==2)with
 | false=>rfl|true=>
  rw[ia,aJ,Kn];refine cy (λi:Int=>∃n:Nat,i=(n:Int)/\n<=Ts s/\(s.drop n).contains b=s.contains b) (λi=>Ts s-i.toNat) ?_ F _ ⟨0,rfl,om,si⟩ aR;rintro _ ⟨n,rfl,hn,hd⟩;by_cases hk:n<Ts s
  ·have e1:((((s.getD (eJ (n:Int)) 0).toNat:Int))==(b.toNat:Int))=(s[n]==b):=by
    rw[cg,gd hk];have:((s[n].toNat:Int)=(b.toNat:Int))↔s[n]=b:=⟨λh=>ag9.1 om,λh=>by rw[h]⟩;by_cases h:s[n]=b
    ·rw[h];simp
    ·rw[iu.2 h,iu.2 λh'=>h (this.1 h')]
   rw[sY hk,agU]at hd;have hcm:(b==s[n])=(s[n]==b):=ahc;cases hb:(s[n]==b)with
   | true=>right;intro rc;rw[hcm,hb,Bool.true_or]at hd;rw[cq om,bC hk,bC hk,e1,hb,<-hd];simp only[aU,aH,aE,qo b 32 om,qo b 9 om,qo b 10 om];cases (b==32)<;>cases (b==9)<;>cases (b==10)<;>rfl
   | false=>left;rw[hcm,hb,OV]at hd;refine⟨_,⟨n+1,rfl,hk,hd⟩,aR,λrc=>?_⟩;rw[cq om,bC hk,bC hk,e1,hb,bW om];rfl
  ·right;intro rc;rw[cf om,<-hd,Mk om];rfl
theorem asN(s:Bs)(r:aB):∀e∈qK r,(e.bJ=[]/\(e.dL=3\/e.dL=1))\/∃b,e.bJ=[b]/\e.dL=r.aI/\(e.dL==3)=eQ:=by
 intro e he;unfold qK at he;cases c3:(r.aI==3)with
 | true=>rw[c3]at he;obtain rfl:=qn.1 he;exact .inl ⟨rfl,.inl rfl⟩
 | false=>
  rw[c3,aJ]at he;cases cc:(r.aI==0||(r.aI==1||r.aI==2))with
  | false=>rw[cc]at he;cases he
  | true=>
   rw[cc,aU]at he;rcases ni.1 he with he|he
   ·cases hh:(r.fText==[]&&r.aI==1)with
    | false=>rw[hh]at he;cases he
    | true=>rw[hh]at he;obtain rfl:=qn.1 he;exact .inl ⟨rfl,.inr rfl⟩
   ·obtain⟨b,-,rfl⟩:=lI.1 he;exact .inr ⟨b,rfl,rfl,c3⟩
def WE(e:bq):Prop:=(e.bJ=[]/\(e.dL=3\/e.dL=1))\/∃b,e.bJ=[b]/\(e.dL==3)=eQ
theorem aem(l:J aB):∀e∈l.flatMap qK,WE e:=λe he=>by
 obtain⟨r,-,h⟩:=ahd.1 he;rcases asN [] r e h with h|⟨b,h1,-,h2⟩
 ·exact .inl h
 ·exact .inr ⟨b,h1,h2⟩
theorem an8(F:Nat)(s:Bs){e:bq}(h:WE e):pK F e s=iN (jg s e==1||jg s e==2):=by
 unfold pK jg NH wx;rcases h with⟨h1,h2⟩|⟨b,h1,h2⟩
 ·rcases h2 with h2|h2<;>rw[h1,h2]<;>rfl
 ·rw[h1];have hx:strings_Contains F s [b]=iN (s.contains b):=by
   unfold strings_Contains strings_Index stringslite_Index stringslite_IndexByte sD Y4 wx;have e1:cond (([b]:Bs)==s) 0 (lO s b)=lO s b:=by cases hb:(([b]:Bs)==s)with|false=>rfl|true=>rw[<-eq_of_beq hb];unfold lO;simp
   rw[<-K.Yl];simp only[aH,aE];rw[show((Ts ([b]:Bs):Int)==0)=eQ from rfl,show((Ts ([b]:Bs):Int)==1)=hJ from rfl,kK si];simp only[aJ,aU,aE];have e2:(((([b]:Bs).getD 0 0).toNat:Int)).toNat.toUInt8=b:=by simp
   rw[e2,aH,aE,e1];rfl
  rw[hx,show(([b]:Bs)==[])=eQ from rfl,show([b]:Bs).getD 0 0=b from rfl];cases (e.dL==2)
  ·rfl
  ·cases s.contains b
   ·rfl
   ·cases (b==32||(b==9||b==10))<;>rfl
theorem aen(F:Nat)(s:Bs){e:bq}(h:WE e):vY F e s=iN (jg s e==1):=by
 unfold vY wx;rw[an8 F s h,aE];unfold jg NH;rcases h with⟨h1,h2⟩|⟨b,h1,h2⟩
 ·rcases h2 with h2|h2<;>rw[h1,h2]<;>rfl
 ·rw[h1,show(([b]:Bs)==[])=eQ from rfl,show([b]:Bs).getD 0 0=b from rfl];have e1:∀c:UInt8,(([b]:Bs)==[c])=(b==c):=λc=>by simp
  rw[e1,e1,e1];cases (e.dL==2)
  ·rfl
  ·cases s.contains b
   ·rfl
   ·cases (b==32)<;>cases (b==9)<;>cases (b==10)<;>rfl
theorem auA(F:Nat)(l:J aB)(s:Bs)(hF:Ts l+bV l+200000<F)(h1:Ts l<=100000000)(h2:bV l<=100000000)(hs:Ts s<=100000):uu F l s=iN ((l.flatMap qK).map (TE s)):=by
 have:aA (λr=>r=(l.flatMap qK).map (TE s)) (uu F l s):=by
  unfold uu wx;refine aA.lp (λz:J bM×Int=>∃k:Nat,z.2=(k:Int)/\k<=Ts l/\z.1=((l.take k).flatMap qK).map (TE s)) (λz=>Ts l-z.2.toNat) ⟨0,rfl,om,si⟩ (by show l.length-0<F;omega) ?_;rintro⟨o,_⟩ ⟨k,rfl,h3,h4⟩ rc hrc;dsimp only at h4 hrc⊢;refine aA.cd (λh=>?_) λh=>aA.ok (by rw[h4,uK om]);have hk:k<Ts l:=om;have hm:Ts l-Int.toNat ((k+1:Nat):Int)<Ts l-Int.toNat (k:Int):=om;have e1:((l.take (k+1)).flatMap qK).map (TE s)=o++(qK l[k]).map (TE s):=by rw[h4,Bb _ _ _ hk,pQ]
  have ho:Ts o<=bV l+Ts l:=by have:=L6 (l.take k);have h5:=ael l k;rw[h4,jh];rw[zh]at this;omega
  have ht:l[k].fText.length<=bV l:=RI (fm hk);rw[ck om om,bH (i:=k) om,cg,gd hk];generalize l[k]=r at e1 ht;obtain⟨q,hq⟩:∃q,q=qK r:=⟨_,rfl⟩;rw[<-hq]at e1;unfold qK at hq;cases c3:(r.aI==3)with
  | true=>rw[c3,aU]at hq;subst hq;have h3:=eq_of_beq c3;rw[h3];exact aA.rq (oV (by show o.length+1<=_;omega) de) (hrc _ ⟨k+1,rfl,hk,e1.symm⟩ hm)
  | false=>
   rw[c3,aJ]at hq;simp only[aH,aE,aJ];cases hb:(r.fText==[]&&r.aI==1)with
   | true=>rw[hb]at hq;obtain⟨b1,b2⟩:=(cK _ _).mp hb;rw[b1,b2,aU,aU];have h1:=eq_of_beq b2;have h0:=eq_of_beq b1;rw[h1]at hq⊢;rw[h0]at hq;subst hq;exact aA.rq (oV (by show o.length+1<=_;omega) de) (hrc _ ⟨k+1,rfl,hk,e1.symm⟩ hm)
   | false=>
    have nP:cond (r.aI==1) (r.fText==[]) eQ=eQ:=by rw[<-hb];cases (r.aI==1)<;>cases (r.fText==[])<;>rfl
    have qf:cond (cond (r.aI==0) hJ (r.aI==1)) hJ (r.aI==2)=(r.aI==0||(r.aI==1||r.aI==2)):=by cases (r.aI==0)<;>cases (r.aI==1)<;>rfl
    rw[hb,aJ,pN]at hq;rw[nP,aJ,qf];cases cc:(r.aI==0||(r.aI==1||r.aI==2))with
    | false=>rw[cc,aJ]at hq;subst hq;exact hrc _ ⟨k+1,rfl,hk,by rw[e1];simp⟩ hm|true=>
     rw[cc,aU]at hq;subst hq;rw[aU];refine aA.lp (λz:J bM×Int=>∃i:Nat,z.2=(i:Int)/\i<=Ts r.fText/\z.1=o++((r.fText.take i).map λb=>bq.mk [b] r.aI).map (TE s)) (λz=>Ts r.fText-z.2.toNat) ⟨0,rfl,om,si⟩ (by show r.fText.length-0<F;omega) ?_;rintro⟨o2,_⟩ ⟨i,rfl,i1,i2⟩ rc' uO;dsimp only at i2 uO⊢;have hl2:Ts o2<=Ts o+Ts r.fText:=by rw[i2];simp;omega
     refine aA.cd (λh=>?_) λh=>hrc _ ⟨k+1,rfl,hk,by rw[e1];show o2=_;rw[i2,uK om]⟩ hm;have hi:i<Ts r.fText:=om;rw[bH om,wA om om om,ck om om,cg,gd hi,auz F r.fText[i] r.aI s om hs,aE,agx hi];refine aA.rq (oV (by show o2.length+1<=_;omega) de) (uO _ ⟨i+1,rfl,om,?_⟩ (by show r.fText.length-Int.toNat ((i+1:Nat):Int)<Ts r.fText-Int.toNat (i:Int);omega));show o2++_=_;rw[i2,lF hi,pQ,pQ,tI];rfl
 obtain⟨r,h,e⟩:=this;rw[e,h]
def pY{α:Type}(f:J (J α))(n:J α):J (J α):=match n with | []=>f|a::t=>f++[a::t]
def dS{α:Type}(k:α->Int):Nat->J α->J (J α)->J α->J (J α)|_,[],f,n=>pY f n|m,x::l,f,n=>cond (k x==1) (dS k (cond (m==2) 2 1) l f n) (cond (k x==2) (dS k 2 l (f++[n]) []) (cond (m==1) (cond (k x==3) (dS k 0 l (pY f n) []) (dS k 0 l (pY f n) [x])) (cond (k x==3) (dS k 0 l (pY f n) []) (dS k 0 l f (n++[x])))))
variable{α β:Type}
theorem aeo(g:α->β)(f:J (J α))(n:J α):pY (f.map (List.map g)) (n.map g)=(pY f n).map (List.map g):=by cases n<;>simp[pY]
theorem alw{α β:Type}(k:α->Int)(k':β->Int)(g:α->β):∀(l:J α)(m:Nat)(f:J (J α))(n:J α),(∀x∈l,k' (g x)=k x)->dS k' m (l.map g) (f.map (List.map g)) (n.map g)=(dS k m l f n).map (List.map g)
 | [],m,f,n,h=>by simp only[Km,dS];exact aeo g f n|x::l,m,f,n,h=>by have hx:=h x tJ;have ih:=λm f n=>alw k k' g l m f n λy hy=>h y (kV _ hy);have i1:=ih 2 (f++[n]) [];have i2:=ih 0 f (n++[x]);have i3:=ih 0 (pY f n) [];have i4:=ih 0 (pY f n) [x];simp only[pQ,jI,Km]at i1 i2 i3 i4;simp only[jI,dS,hx,ih,i1,i2,i3,i4,aeo];cases (k x==1)<;>cases (k x==2)<;>cases (m==1)<;>cases (k x==3)<;>rfl
section
variable (k : α -> Int)
abbrev wE(x:α):Bool:=k x==1
theorem L7(m:Nat)(hm:m=1\/m=2):∀(l:J α)(f:J (J α))(n:J α),dS k m (l.dropWhile (wE k)) f n=dS k m l f n
 | [],f,n=>rfl|x::l,f,n=>by
  rw[Me];cases hx:wE k x with
  | false=>rfl|true=>rw[if_pos rfl,L7 m hm l f n];simp only[dS];rw[show(k x==1)=hJ from hx,aU];rcases hm with rfl|rfl<;>rfl
theorem alx{l:J α}(h:∀x∈l.head?,(k x==1)=eQ)(f:J (J α))(n:J α):dS k 2 l f n=dS k 0 l f n:=by cases l with|nil=>rfl|cons x l=>simp only[dS];rw[h x rfl];rfl
theorem Sm{x:α}{l:J α}(hx:(k x==2)=hJ)(m:Nat)(f:J (J α))(n:J α):dS k m (x::l) f n=dS k 2 l (f++[n]) []:=by
 have h1:(k x==1)=eQ:=by rw[eq_of_beq hx];rfl
 simp only[dS];rw[h1,hx];rfl
theorem aly{l:J α}(h:∀x∈l.head?,(k x==1)=eQ/\(k x==2)=eQ)(f:J (J α))(n:J α):dS k 1 l f n=dS k 0 l (pY f n) []:=by
 cases l with
 | nil=>rfl|cons x l=>obtain⟨h1,h2⟩:=h x rfl;simp only[dS];rw[h1,h2];cases (k x==3)<;>rfl
theorem Kk(l:J α):∀x∈(l.dropWhile (wE k)).head?,(k x==1)=eQ:=by
 induction l with
 | nil=>intro x hx;cases hx
 | cons a l ih=>
  rw[Me];cases ha:wE k a with
  | true=>rw[if_pos rfl];exact ih|false=>intro x hx;obtain rfl:=pO hx;exact ha
end
theorem NI(f:J (J α))(n:J α):(pY f n).length<=Ts f+Ts n:=by cases n<;>simp[pY]
theorem alz{α:Type}(k:α->Int):∀(l:J α)(m:Nat)(f:J (J α))(n:J α),Ts (dS k m l f n)<=Ts f+Ts n+Ts l
 | [],m,f,n=>by simp only[dS];exact NI f n|x::l,m,f,n=>by have ih:=alz k l;have he:=NI f n;have i1:=ih 2 (f++[n]) [];have i2:=ih (cond (m==2) 2 1) f n;have i3:=ih 0 (pY f n) [];have i4:=ih 0 (pY f n) [x];have i5:=ih 0 f (n++[x]);simp only[nX,qi,Dc]at i1 i2 i3 i4 i5;simp only[dS,qi];cases (k x==1)<;>cases (k x==2)<;>cases (m==1)<;>cases (k x==3)<;>simp only[aU,aJ]<;>omega
theorem aep{α:Type}(k:α->Int)(μ:α->Nat)(K:Nat)(P:α->Prop):∀(l:J α)(m:Nat)(f:J (J α))(n:J α),(∀g∈f,(g.map μ).sum<=K/\∀x∈g,P x)->(n.map μ).sum+(l.map μ).sum<=K->(∀x∈n,P x)->(∀x∈l,P x)->∀g∈dS k m l f n,(g.map μ).sum<=K/\∀x∈g,P x
 | l,m,f,n,hf,hK,hn,hl=>by
  have he:∀g∈pY f n,(g.map μ).sum<=K/\∀x∈g,P x:=λg hg=>by
   cases n with
   | nil=>exact hf g hg
   | cons a t=>rcases ni.1 (show g∈f++[a::t]from hg)with hg|hg
               ·exact hf g hg
               ·obtain rfl:=qn.1 hg;exact⟨om,hn⟩
  cases l with
  | nil=>exact he|cons x l=>
   have hl':=λy hy=>hl y (kV x hy);have ih:=λm f n a b c=>aep k μ K P l m f n a b c hl';simp only[jI,OW]at hK;have hx:=hl x tJ;simp only[dS];cases (k x==1)with
   | true=>exact ih _ f n hf om hn|false=>
    cases (k x==2)with
    | true=>exact ih _ _ _ (λg hg=>by
      rcases ni.1 hg with hg|hg
      ·exact hf g hg
      ·obtain rfl:=qn.1 hg;exact⟨om,hn⟩) aR (λ_ h=>nomatch h)
    | false=>
     have g1:=ih 0 (pY f n) [] he aR (λ_ h=>nomatch h);have g2:=ih 0 (pY f n) [x] he aR (λy hy=>by obtain rfl:=qn.1 hy;exact hx)
     have g3:=ih 0 f (n++[x]) hf aR (λy hy=>by
      rcases ni.1 hy with hy|hy
      ·exact hn y hy
      ·obtain rfl:=qn.1 hy;exact hx)
     cases (m==1)<;>cases (k x==3)<;>assumption
theorem Y0(l:J α):(l.map λ_=>1).sum=Ts l:=by
 induction l with|nil=>rfl|cons a l ih=>simp only[jI,OW,ih,qi];omega
theorem slA(l:J α)(f:Nat):sl l (f:Int) (Ts l:Int)=l.drop f:=by simp[sl]
theorem slB(l:J α)(k:Nat):sl l 0 (k:Int)=l.take k:=by simp[sl]
def slC(l:J α):sl l 1 (Ts l:Int)=l.drop 1:=slA l 1
theorem ao4(F:Nat)(s:Bs)(l:J bq)(h:∀e∈l,WE e)(hF:Ts l<F)(hl:Ts l<=500000000):yU F l s=iN (l.dropWhile (wE (jg s))):=by
 unfold yU wx;refine cy (λi:Int=>∃n:Nat,i=(n:Int)/\n<=Ts l/\(l.drop n).dropWhile (wE (jg s))=l.dropWhile (wE (jg s))) (λi=>Ts l-i.toNat) ?_ F _ ⟨0,rfl,om,rfl⟩ aR;rintro _ ⟨n,rfl,hn,hd⟩;have hR:∀x:O (J bq),rq ((eK (0<=(n:Int)))&&((eK ((n:Int)<=(Ts l:Int)))&&((eK ((Ts l:Int)<=(Ts l:Int)))&&(eK ((Ts l:Int)<=(Ts l:Int)))))) x=x:=λx=>cE (by rw[dT om,dT om,dT om];rfl);by_cases hk:n<Ts l
 ·rw[sY hk,Me]at hd;have hw:=aen F s (h _ (fm hk));cases hb:wE (jg s) l[n]with
  | true=>left;rw[hb,if_pos rfl]at hd;refine⟨_,⟨n+1,rfl,hk,hd⟩,aR,λrc=>?_⟩;rw[cq om,bC hk,cg,gd hk,hw,aE,aE,show(jg s l[n]==1)=hJ from hb,aU,bW om]
  | false=>right;intro rc;rw[hb]at hd;rw[cq om,bC hk,cg,gd hk,hw,aE,aE,show(jg s l[n]==1)=eQ from hb,aJ,hR,slA,<-hd,sY hk];rfl
 ·right;intro rc;rw[cf om,aE,aJ,hR,slA,<-hd,Mk om];rfl
theorem avL(F:Nat)(s:Bs)(l:J bq)(h:∀e∈l,WE e):yV F l s=iN (l.head?.any λx=>jg s x==2):=by
 unfold yV wx;cases l with
 | nil=>rfl|cons x l=>
  have hx:=h x tJ;rw[cq si,kK si,kK si,show(x::l).getD 0 nk=x from rfl,an8 F s hx,aen F s hx];have:(jg s x==1)=hJ->(jg s x==2)=eQ:=λh=>by rw[eq_of_beq h];rfl
  show(cond (jg s x==1||jg s x==2) (iN (!(jg s x==1))) (iN eQ):O Bool).bind _=iN (jg s x==2);cases h1:(jg s x==1)with
  | true=>rw[this h1];rfl|false=>cases (jg s x==2)<;>rfl
theorem ajp(F:Nat)(f:J (J bq))(n:J bq)(hf:Ts f<=100000000):oH F eQ n f=iN ([],pY f n):=by
 unfold oH pY wx;cases n with
 | nil=>rfl|cons a t=>rw[aJ,aE,dT si,aU,dD (by show f.length+1<=_;omega) de]
theorem auB(F:Nat)(f:J (J bq))(n:J bq)(hf:Ts f<=100000000):oH F hJ n f=iN ([],f++[n]):=by unfold oH wx;rw[aU,aE,aU,dD (by show f.length+1<=_;omega) de]
theorem kd3{s:Bs}{e:bq}(h:WE e):(e.dL==3)=(jg s e==3):=by
 unfold jg NH;rcases h with⟨h1,h2⟩|⟨b,h1,h2⟩
 ·rcases h2 with h2|h2<;>rw[h1,h2]<;>rfl
 ·rw[h1,h2,show(([b]:Bs)==[])=eQ from rfl];cases (e.dL==2&&s.contains (([b]:Bs).getD 0 0))<;>cases (([b]:Bs).getD 0 0==32||(([b]:Bs).getD 0 0==9||([b]:Bs).getD 0 0==10))<;>rfl
theorem aqE(F:Nat)(s:Bs)(l:J bq)(h:∀e∈l,WE e)(hF:Ts l<F)(hl:Ts l<=50000000):yh F l s=iN (dS (jg s) 0 l [] []):=by
 have:aA (λr=>r=dS (jg s) 0 l [] []) (yh F l s):=by
  unfold yh wx;refine aA.lp (λz:J bq×J (J bq)×J bq=>(∀x∈z.1,WE x)/\z.1.length+Ts z.2.1+Ts z.2.2<=Ts l/\dS (jg s) 0 z.1 z.2.1 z.2.2=dS (jg s) 0 l [] []) (λz=>Ts z.1) ⟨h,si,rfl⟩ hF ?_;rintro⟨m,f,n⟩ ⟨h1,h2,h3⟩ rc hrc;dsimp only at h1 h2 h3 hrc⊢;have hel:=NI f n;cases m with
  | nil=>rw[cf si,ajp F f n om];exact aA.ok h3|cons x m=>
   have hx:=h1 x tJ;have hm:=λy hy=>h1 y (kV x hy);simp only[qi]at h2 hrc;have hlen:(Ts (x::m:J bq):Int)=(Ts m:Int)+1:=by simp
   have hdw:=(ahe (wE (jg s)) (l:=m)).length_le;have VM:∀y∈m.dropWhile (wE (jg s)),WE y:=λy hy=>hm y ((ahe _).subset hy);rw[cq om,kK om,show(x::m).getD 0 nk=x from rfl,slC,show(x::m).drop 1=m from rfl,aen F s hx,an8 F s hx,kd3 (s:=s) hx];simp only[dS]at h3;cases k3:(jg s x==3)with
   | true=>have e3:=eq_of_beq k3;rw[e3]at h3;rw[aU,ajp F f n om,aE,wA om om om];exact hrc _ ⟨hm,aR,h3⟩ si|false=>
    rw[k3]at h3;rw[aJ,aE,aE];cases k1:(jg s x==1)with
    | true=>
     rw[k1,aU]at h3;have hsk:yU F (x::m) s=iN (m.dropWhile (wE (jg s))):=by rw[ao4 F s _ h1 aR aR,Me,show wE (jg s) x=hJ from k1,if_pos rfl]
     have ZE:dS (jg s) 1 (m.dropWhile (wE (jg s))) f n=dS (jg s) 0 l [] []:=by rw[L7 (jg s) 1 (.inl rfl)];exact h3
     have hdh:=Kk (jg s) m;rw[aU,hsk,aE,avL F s _ VM,aE];generalize m.dropWhile (wE (jg s))=r at ZE hdh hdw VM;cases hr:(r.head?.any λx=>jg s x==2)with
     | true=>
      refine hrc _ ⟨VM,by dsimp only;omega,?_⟩ (by dsimp only;omega);cases r with
      | nil=>cases hr
      | cons y r=>rw[Sm _ hr]at ZE;exact(Sm _ hr 0 f n).trans ZE
     | false=>
      rw[qm,aU,ajp F f n om,aE];refine hrc _ ⟨VM,aR,?_⟩ (by dsimp only;omega);rw[aly]at ZE
      ·exact ZE
      ·intro y hy;refine⟨hdh y hy,?_⟩;cases r with
       | nil=>cases hy
       | cons z r=>obtain rfl:=pO hy;exact hr
    | false=>
     rw[k1,aJ]at h3;cases k2:(jg s x==2)with
     | true=>
      rw[k2,aU]at h3;rw[aJ,OV,aU,auB F f n om,aE,ck om om,ao4 F s m hm om om,aE];refine hrc _ ⟨VM,aR,?_⟩ (by dsimp only;omega);rw[<-L7 (jg s) 2 (.inr rfl),alx]at h3
      ·exact h3
      ·exact Kk (jg s) m
     | false=>rw[k2]at h3;rw[aJ,Bool.or_self,aJ,dD (by show n.length+1<=_;omega) de,wA om om om];exact hrc _ ⟨hm,aR,h3⟩ si
 obtain⟨r,h,e⟩:=this;rw[e,h]
theorem ao5(F:Nat)(l:J bM)(a:Nat)(hF:Ts l<F)(hl:Ts l<=500000000)(ha:a<=Ts l):∃e:Nat,a<=e/\e<=Ts l/\l.drop e=(l.drop a).dropWhile (wE λx=>x.dU)/\yT F l (a:Int)=iN (e:Int):=by
 have:aA (λr=>∃e:Nat,r=(e:Int)/\a<=e/\e<=Ts l/\l.drop e=(l.drop a).dropWhile (wE λx=>x.dU)) (yT F l (a:Int)):=by
  unfold yT wx;refine aA.lp (λi:Int=>∃n:Nat,i=(n:Int)/\a<=n/\n<=Ts l/\(l.drop n).dropWhile (wE λx=>x.dU)=(l.drop a).dropWhile (wE λx=>x.dU)) (λi=>Ts l-i.toNat) ⟨a,rfl,eo _,ha,rfl⟩ aR ?_;rintro _ ⟨n,rfl,h1,h2,h3⟩ rc hrc;by_cases hk:n<Ts l
  ·rw[sY hk,Me]at h3;rw[cq om,bC hk,aE,cg,gd hk,bW om];cases hb:(l[n].dU==1)with
   | true=>rw[show wE (λx:bM=>x.dU) l[n]=hJ from hb,if_pos rfl]at h3;exact hrc _ ⟨n+1,rfl,om,hk,h3⟩ aR
   | false=>rw[show wE (λx:bM=>x.dU) l[n]=eQ from hb]at h3;exact aA.ok ⟨n,rfl,h1,h2,by rw[sY hk];exact h3⟩
  ·rw[cf om];exact aA.ok ⟨n,rfl,h1,h2,by rw[<-h3,Mk om];rfl⟩
 obtain⟨r,⟨e,rfl,h1,h2,h3⟩,h⟩:=this;exact⟨e,h1,h2,h3,h⟩
theorem aqF(F:Nat)(l:J bM)(hk:∀x∈l,x.dU=0\/x.dU=1\/x.dU=2\/x.dU=3)(hF:Ts l<F)(hl:Ts l<=50000000):xY F l=iN (dS (λx=>x.dU) 0 l [] []):=by
 have:aA (λr=>r=dS (λx:bM=>x.dU) 0 l [] []) (xY F l):=by
  unfold xY wx;refine aA.lp (λz:J (J bM)×J bM×Int=>∃a:Nat,z.2.2=(a:Int)/\a<=Ts l/\z.1.length+Ts z.2.1<=a/\dS (λx:bM=>x.dU) 0 (l.drop a) z.1 z.2.1=dS (λx:bM=>x.dU) 0 l [] []) (λz=>Ts l-z.2.2.toNat) ⟨0,rfl,om,si,rfl⟩ aR ?_;rintro⟨f,n,_⟩ ⟨a,rfl,h1,h2,h3⟩ rc hrc;dsimp only at h2 h3 hrc⊢;have hel:=NI f n;have fin:∀(b:Bool)(e:Nat),(b=hJ->dS (λx:bM=>x.dU) 0 (l.drop e) (f++[n]) []=dS (λx:bM=>x.dU) 0 l [] [])->(b=eQ->n=[]/\dS (λx:bM=>x.dU) 0 (l.drop e) f []=dS (λx:bM=>x.dU) 0 l [] [])->a<e->e<=Ts l ->
    aA (λr=>r=dS (λx:bM=>x.dU) 0 l [] []) (cond b (rq ((eK (Ts f+Ts ([n]:J (J bM))<=9223372036854775807))&&(eK ((Ts f+Ts ([n]:J (J bM)))*24<=140737488355328))) (rc (f++([n]:J (J bM)),([]:J bM),(e:Int)))) (rc (f,n,(e:Int)))):=by
   intro b e wY nP he hle;cases b with
   | true=>rw[aU,dD (by show f.length+1<=_;omega) de];exact hrc _ ⟨e,rfl,hle,aR,wY rfl⟩ aR
   | false=>obtain⟨h0,h4⟩:=nP rfl;rw[aJ];subst h0;exact hrc _ ⟨e,rfl,hle,by simp at h2⊢;omega,h4⟩ aR
  have Qh:∀e:Nat,dS (λx:bM=>x.dU) 0 (l.drop e) (pY f n) []=dS (λx:bM=>x.dU) 0 l [] []->(eK (0<(Ts n:Int))=hJ->dS (λx:bM=>x.dU) 0 (l.drop e) (f++[n]) []=dS (λx:bM=>x.dU) 0 l [] [])/\(eK (0<(Ts n:Int))=eQ->n=[]/\dS (λx:bM=>x.dU) 0 (l.drop e) f []=dS (λx:bM=>x.dU) 0 l [] []):=by intro e he;cases n with|nil=>exact⟨λh=>by simp at h,λ_=>⟨rfl,he⟩⟩|cons y n=>exact⟨λ_=>he,λh=>by simp at h⟩
  by_cases Xm:a<Ts l
  ·have hda:=sY Xm;have Tf:=hk _ (fm Xm);rw[cq om,bC Xm,cg,gd Xm];cases k0:(l[a].dU==0)with
   | true=>have e0:=eq_of_beq k0;rw[aU,bC Xm,dD (by show n.length+1<=_;omega) de,bW om];refine hrc _ ⟨a+1,rfl,Xm,aR,?_⟩ aR;rw[<-h3,hda];simp only[dS];rw[e0];rfl
   | false=>
    obtain⟨e,e1,e2,e3,e4⟩:=ao5 F l a hF om om;rw[aJ,e4,aE];have hw:a<e->dS (λx:bM=>x.dU) 1 (l.drop e) f n=dS (λx:bM=>x.dU) 0 l [] []:=by
     intro hlt;rw[hda,Me]at e3;cases hb:wE (λx:bM=>x.dU) l[a]with
     | true=>rw[hb,if_pos rfl]at e3;rw[e3,L7 _ 1 (.inl rfl),<-h3,hda];simp only[dS];rw[show(l[a].dU==1)=hJ from hb];rfl
     | false=>rw[hb]at e3;have:=congrArg Ts e3;simp at this;omega
    have hnw:a=e->(l[a].dU==1)=eQ:=by rintro rfl;rw[hda,Me]at e3;cases hb:wE (λx:bM=>x.dU) l[a]with|true=>rw[hb,if_pos rfl]at e3;have h5:=congrArg Ts e3;have h6:=(ahe (wE λx:bM=>x.dU) (l:=l.drop (a+1))).length_le;simp at h5 h6;omega|false=>exact hb
    by_cases hmk:e<Ts l/\(l.getD e nH).dU==2
    ·obtain⟨m1,m2⟩:=hmk;obtain⟨g,g1,g2,g3,g4⟩:=ao5 F l (e+1) hF om om;rw[cq om,bC m1,aE,cg,m2,aU,bW om,g4,aE,aE];refine fin hJ g (λ_=>?_) (λh=>nomatch h) om g2;rw[gd m1]at m2;have hde:=sY m1;have h5:dS (λx:bM=>x.dU) 2 (l.drop (e+1)) (f++[n]) []=dS (λx:bM=>x.dU) 0 l [] []:=by
      rcases Nat.lt_or_eq_of_le e1 with hlt|heq
      ·have:=hw hlt;rw[hde,Sm _ m2]at this;exact this
      ·subst heq;rw[hda,Sm _ m2]at h3;exact h3
     rw[<-alx,g3,L7 _ 2 (.inr rfl)]
     ·exact h5
     ·rw[g3];exact Kk _ _
    ·have hnm:(cond (eK ((e:Int)<(Ts l:Int))) (rq ((eK (0<=(e:Int)))&&(eK ((e:Int)<(Ts l:Int)))) (iN (((l.getD (eJ (e:Int)) nH).dU)==2))) (iN eQ):Option Bool)=iN eQ:=by
      by_cases hlt:e<Ts l
      ·rw[cq om,bC hlt,cg];congr 1;cases hb:((l.getD e nH).dU==2)with|false=>rfl|true=>exact absurd ⟨hlt,hb⟩ hmk
      ·rw[cf om]
     rw[hnm,aE,aJ];rcases Nat.lt_or_eq_of_le e1 with hlt|heq
     ·rw[show((e:Int)==(a:Int))=eQ by simp;omega,aJ,aE];have h5:=hw hlt;rw[aly]at h5
      ·obtain⟨q1,q2⟩:=Qh e h5;exact fin _ e q1 q2 hlt e2
      ·intro y hy;have hh:=Kk (λx:bM=>x.dU) (l.drop a);rw[<-e3]at hh;refine⟨hh y hy,?_⟩;cases hb:(y.dU==2)with
       | false=>rfl|true=>
        refine absurd ?_ hmk;have hlt2:e<Ts l:=by
         rcases abb e l.length with h|h
         ·exact h
         ·rw[Mk h]at hy;cases hy
        rw[sY hlt2]at hy;obtain rfl:=pO hy;exact⟨hlt2,by rw[gd hlt2];exact hb⟩
     ·subst heq;rw[show((a:Int)==(a:Int))=hJ by simp,aU,aE,bW om];have k1:=hnw rfl;have k2:(l[a].dU==2)=eQ:=by cases hb:(l[a].dU==2)with|false=>rfl|true=>exact absurd ⟨Xm,by rw[gd Xm];exact hb⟩ hmk
      have k3:l[a].dU=3:=by
       rcases Tf with h|h|h|h
       ·rw[h]at k0;cases k0
       ·rw[h]at k1;cases k1
       ·rw[h]at k2;cases k2
       ·exact h
      rw[hda]at h3;simp only[dS]at h3;rw[k3]at h3;obtain⟨q1,q2⟩:=Qh (a+1) h3;exact fin _ (a+1) q1 q2 om Xm
  ·obtain rfl:a=Ts l:=om;rw[Ma]at h3;simp only[dS]at h3;rw[cf om];cases n with
   | nil=>exact aA.ok h3|cons y n=>rw[dT si,aU,dD (by show f.length+1<=_;omega) de];exact aA.ok h3
 obtain⟨r,h,e⟩:=this;rw[e,h]
def stepG(o:J aB)(r:aB):J aB:=cond (eK (0<Ts o)&&((o.getD (Ts o-1) dx).aI==r.aI)) (o.set (Ts o-1) (aB.mk ((o.getD (Ts o-1) dx).fText++r.fText) (o.getD (Ts o-1) dx).aI)) (o++[r])
def rP(e:bq):aB:=aB.mk e.bJ e.dL
def rR(e:bM):aB:=aB.mk e.bJ e.dL
theorem NJ(o:J aB)(x r:aB):stepG (o++[x]) r=cond (x.aI==r.aI) (o++[aB.mk (x.fText++r.fText) x.aI]) (o++[x]++[r]):=by
 unfold stepG;have e1:(o++[x]).length-1=Ts o:=by simp
 have e2:(o++[x]).getD o.length dx=x:=by simp
 rw[e1,e2,dT si,Kn,List.set_append_right _ _ (eo _),Nat.sub_self];rfl
theorem an9(o:J aB)(r:aB):bV (stepG o r)=bV o+Ts r.fText/\(stepG o r).length<=Ts o+1:=by
 rcases U2 o with rfl|⟨p,x,rfl⟩
 ·simp[stepG,bV]
 ·rw[ahf,NJ];cases (x.aI==r.aI)<;>simp[Dv,bV]<;>omega
theorem I3:∀(l o:J aB),bV (l.foldl stepG o)=bV o+bV l/\(l.foldl stepG o).length<=Ts o+Ts l
 | [],o=>by simp[bV]|r::l,o=>by
  obtain⟨h1,h2⟩:=I3 l (stepG o r);obtain⟨h3,h4⟩:=an9 o r;rw[v7];have:bV (r::l)=Ts r.fText+bV l:=by simp[bV]
  simp only[qi];omega
theorem aaa:∀(g o:J aB)(t:Bs)(c:Int),(∀r∈g,r.aI=c)->g.foldl stepG (o++[aB.mk t c])=o++[aB.mk (t++gH g) c]
 | [],o,t,c,h=>by simp[gH]|r::g,o,t,c,h=>by have hr:=h r tJ;rw[v7,NJ];dsimp only;rw[hr,show(c==c)=hJ by simp,aU,aaa g o _ c λx hx=>h x (kV _ hx)];unfold gH;rw[vZ,tI]
theorem auC(F:Nat)(l:J bM)(h:∀e∈l,Ts e.bJ<=1)(hF:Ts l<F)(hl:Ts l<=50000000):GZ F l=iN ((l.map rR).foldl stepG []):=by
 unfold GZ wx;have hsz:∀m:J bM,(∀e∈m,Ts e.bJ<=1)->bV (m.map rR)<=Ts m:=λm=>by
  induction m with
  | nil=>intro _;simp[bV]|cons a m ih=>
   intro hm;have h1:=hm a tJ;have h2:=ih λe he=>hm e (kV _ he);have:bV ((a::m).map rR)=Ts a.bJ+bV (m.map rR):=by simp[bV,rR]
   simp only[qi];omega
 refine cy (λz:Int×J aB=>∃k:Nat,z=((k:Int),((l.take k).map rR).foldl stepG [])/\k<=Ts l) (λz=>Ts l-z.1.toNat) ?_ F _ ⟨0,rfl,om⟩ aR;rintro _ ⟨k,rfl,hk⟩;dsimp only;by_cases hk:k<Ts l
 ·left;refine⟨_,⟨k+1,rfl,hk⟩,aR,λrc=>?_⟩;obtain⟨z1,z2⟩:=I3 ((l.take k).map rR) [];have z3:=hsz (l.take k) λe he=>h e (Mh he);have hx:=h _ (fm hk);rw[zh]at z3;simp only[jh,zh,Dc]at z2;have e0:bV ([]:J aB)=0:=rfl;have hfl:((l.take (k+1)).map rR).foldl stepG []=stepG (((l.take k).map rR).foldl stepG []) (rR l[k]):=by rw[lF hk,pQ,Mg];rfl
  rw[cq om,cg,gd hk,bW om,hfl];generalize((l.take k).map rR).foldl stepG []=o at z1 z2⊢;unfold stepG;by_cases h0:0<Ts o
  ·have hmo:(o.getD (Ts o-1) dx).fText.length<=bV o:=by rw[gd om];exact RI (fm om)
   have e1:aD ((Ts o:Int)-1)=((Ts o-1:Nat):Int):=uQ om h0;rw[e1,cq om,bC om,bC hk,cg,aE,dT h0,Kn];dsimp only;show cond ((o.getD (Ts o-1) dx).aI==l[k].dL) _ _=rc (_,cond ((o.getD (Ts o-1) dx).aI==l[k].dL) _ _);cases ((o.getD (Ts o-1) dx).aI==l[k].dL)with
   | true=>rw[aU,aU,bC om,bC hk,kK om,bC om];rfl|false=>rw[aJ,aJ,bC hk,bC hk,dD (by show o.length+1<=_;omega) de];rfl
  ·rw[cf om,aE];dsimp only;rw[aJ,bC hk,bC hk,dD (by show o.length+1<=_;omega) de,dF h0];rfl
 ·right;obtain rfl:k=Ts l:=om;intro rc;rw[cf om,s7]
theorem asO(m:J bq):gH (m.map rP)=Q9 m:=by unfold gH Q9;rw[List.flatMap_map];rfl
theorem auD(F:Nat)(l:J bq)(h:∀e∈l,Ts e.bJ<=1)(hF:Ts l+1<F)(hl:Ts l<=10000000):CQ F l=iN ((l.map rP).foldl stepG []):=by
 have:aA (λr=>r=(l.map rP).foldl stepG []) (CQ F l):=by
  unfold CQ wx;refine aA.lp (λz:J bq×J aB=>∃i:Nat,z.1=l.drop i/\i<=Ts l/\z.2=((l.take i).map rP).foldl stepG []/\(z.2=[]\/∃o' x,z.2=o'++[x]/\∀y∈z.1.head?,(x.aI==y.dL)=eQ)) (λz=>Ts z.1) ⟨0,rfl,om,rfl,.inl rfl⟩ (by show l.length<F;omega) ?_;rintro⟨m,o⟩ ⟨i,h1,h2,h3,h4⟩ rc hrc;dsimp only at h1 h3 h4 hrc⊢;have hm:∀e∈m,Ts e.bJ<=1:=λe he=>h e (agY (h1▸he));have hml:Ts m=Ts l-i:=by rw[h1,Kl]
  have hol:Ts o<=i:=by have:=(I3 ((l.take i).map rP) []).2;rw[<-h3]at this;simp at this;omega
  cases hme:m with
  | nil=>rw[cf si];rw[hme]at hml;simp at hml;refine aA.ok ?_;show o=_;rw[h3,uK om]
  | cons x m'=>
   rw[<-hme];have hpos:0<Ts m:=by rw[hme];simp
   have Tm:m.getD 0 nk=x:=by rw[hme];rfl
   rw[cq om,Tm];refine aA.lp (λj:Int=>∃n:Nat,j=(n:Int)/\1<=n/\n<=Ts m/\∀e∈m.take n,e.dL=x.dL) (λj=>Ts m-j.toNat) ⟨1,rfl,eo _,hpos,λe he=>by rw[hme]at he;simp at he;rw[he]⟩ (by show m.length-1<F;omega) ?_;rintro _ ⟨n,rfl,n1,n2,n3⟩ rc' uO
   have fin:(∀y∈(m.drop n).head?,(x.dL==y.dL)=eQ)->aA (λr=>r=(l.map rP).foldl stepG []) (rq ((eK (0<=(n:Int)))&&(eK ((n:Int)<=(Ts m:Int)))) (rq (eK (0<(Ts m:Int))) ((yW F (sl m 0 (n:Int))).bind λx6=>
     rq ((eK (Ts o+Ts ([(aB.mk x6 (x.dL))]:J aB)<=9223372036854775807))&&(eK ((Ts o+Ts ([(aB.mk x6 (x.dL))]:J aB))*24<=140737488355328))) (rq ((eK (0<=(n:Int)))&&((eK ((n:Int)<=(Ts m:Int)))&&(eK ((Ts m:Int)<=(Ts m:Int))))) (rc (sl m (n:Int) (Ts m:Int),o++([(aB.mk x6 (x.dL))]:J aB))))))):=by
    intro hy;rw[ck om om,kK om,slB,auy F (m.take n) aR aR λe he=>hm e (Mh he),aE,dD (by show o.length+1<=_;omega) de,wA om om om,slA];refine hrc _ ⟨i+n,by rw[h1,agP],om,?_,.inr ⟨o,_,rfl,hy⟩⟩ aR;show o++_=_;have ht:l.take (i+n)=l.take i++m.take n:=by rw[h1];exact List.take_add
    rw[ht,pQ,Mg,<-h3,<-asO];have hmt:m.take n=x::m'.take (n-1):=by rw[hme];cases n with|zero=>omega|succ n=>rfl
    rw[hmt]at n3⊢;have hf:stepG o (rP x)=o++[rP x]:=by
     rcases h4 with rfl|⟨o',z,rfl,hz⟩
     ·rfl
     ·rw[NJ,show(z.aI==(rP x).aI)=eQ from hz x (by rw[hme];rfl)];rfl
    rw[jI,v7,hf]
    have:=aaa ((m'.take (n-1)).map rP) o x.bJ x.dL (λr hr=>by
     obtain⟨e,he,rfl⟩:=lI.1 hr;exact n3 e (kV _ he))
    exact(this.trans (by unfold gH;rw[vZ];rfl)).symm
   by_cases hn:n<Ts m
   ·rw[cq om,bC hn,kK om,aE,cg,gd hn];cases hb:(m[n].dL==x.dL)with
    | true=>
     rw[aU,bW om];refine uO _ ⟨n+1,rfl,om,hn,λe he=>?_⟩ aR;rw[lF hn]at he;rcases ni.1 he with he|he
     ·exact n3 e he
     ·obtain rfl:=qn.1 he;exact eq_of_beq hb
    | false=>
     rw[aJ];refine fin λy hy=>?_;rw[sY hn]at hy;obtain rfl:=pO hy;rw[ahc]at hb⊢
     first|exact hb|(rw[ahc];exact hb)|skip
   ·rw[cf om,aE,aJ];exact fin λy hy=>by rw[Mk om]at hy;cases hy
 obtain⟨r,h,e⟩:=this;rw[e,h]
def mW(l:J aB)(s:Bs):J (J aB):=(dS (jg s) 0 (l.flatMap qK) [] []).map λg=>(g.map rP).foldl stepG []
theorem aeq{e:bq}(h:WE e):Ts e.bJ<=1:=by rcases h with⟨h,-⟩|⟨b,h,-⟩<;>rw[h]<;>simp
theorem aer(l:J aB)(s:Bs)(h1:Ts l<=1000000)(h2:bV l<=5000000):(dS (jg s) 0 (l.flatMap qK) [] []).length<=6000000/\∀g∈dS (jg s) 0 (l.flatMap qK) [] [],Ts g<=6000000/\∀x∈g,WE x:=by
 have hE:=L6 l;have:=alz (jg s) (l.flatMap qK) 0 [] [];simp only[Dc]at this
 exact⟨om,λg hg=>by
  have:=aep (jg s) (λ_=>1) 6000000 WE (l.flatMap qK) 0 [] [] (λ_ h=>nomatch h) (by rw[Y0,Y0];simp only[Dc];omega) (λ_ h=>nomatch h) (aem l) g hg;rwa [Y0]at this⟩
theorem aqG(F:Nat)(l:J aB)(s:Bs)(hF:100000000<=F)(h1:Ts l<=1000000)(h2:bV l<=5000000):CR F l s=iN (mW l s):=by
 have hE:=L6 l;obtain⟨d1,d2⟩:=aer l s h1 h2;unfold CR mW wx;rw[auw F l om om om,aE,aqE F s _ (aem l) om om,aE];generalize dS (jg s) 0 (l.flatMap qK) [] []=fs at d1 d2;refine cy (λz:J (J aB)×Int=>∃k:Nat,z=((fs.take k).map (λg=>(g.map rP).foldl stepG []),(k:Int))/\k<=Ts fs) (λz=>Ts fs-z.2.toNat) ?_ F _ ⟨0,rfl,om⟩ aR;rintro _ ⟨k,rfl,hk⟩;dsimp only;by_cases hk:k<Ts fs
 ·left;refine⟨_,⟨k+1,rfl,hk⟩,aR,λrc=>?_⟩;obtain⟨g1,g2⟩:=d2 _ (fm hk);rw[cq om,bC hk,cg,gd hk,auD F _ (λe he=>aeq (g2 e he)) om om,aE,dD aR de,bW om,lF hk,pQ];rfl
 ·right;obtain rfl:k=Ts fs:=om;intro rc;rw[cf om,s7]
theorem alA(s:Bs)(e:bq):jg s e=0\/jg s e=1\/jg s e=2\/jg s e=3:=by
 unfold jg NH;cases (e.bJ==[])with
 | true=>cases (e.dL==3)<;>simp
 | false=>cases (e.dL==2&&s.contains (e.bJ.getD 0 0))<;>cases (e.bJ.getD 0 0==32||(e.bJ.getD 0 0==9||e.bJ.getD 0 0==10))<;>simp
theorem aqH(F:Nat)(l:J aB)(s:Bs)(hF:100000000<=F)(h1:Ts l<=1000000)(h2:bV l<=5000000)(hs:Ts s<=5000):CG F l s=iN (mW l s):=by
 have hE:=L6 l;obtain⟨d1,d2⟩:=aer l s h1 h2;unfold CG mW wx;rw[auA F l s om om om om,aE,aqF F _ (λx hx=>by obtain⟨e,-,rfl⟩:=lI.1 hx;exact alA s e) (by rw[jh];omega) (by rw[jh];omega),aE];have hmap:=alw (jg s) (λx:bM=>x.dU) (TE s) (l.flatMap qK) 0 [] [] λ_ _=>rfl;rw[Km,Km]at hmap;rw[hmap];generalize dS (jg s) 0 (l.flatMap qK) [] []=fs at d1 d2;have hrr:∀g:J bq,(g.map (TE s)).map rR=g.map rP:=λg=>by rw[Av];rfl
 refine cy (λz:J (J aB)×Int=>∃k:Nat,z=((fs.take k).map (λg=>(g.map rP).foldl stepG []),(k:Int))/\k<=Ts fs) (λz=>Ts fs-z.2.toNat) ?_ F _ ⟨0,rfl,om⟩ aR;rintro _ ⟨k,rfl,hk⟩;dsimp only;by_cases hk:k<Ts fs
 ·left;refine⟨_,⟨k+1,rfl,hk⟩,aR,λrc=>?_⟩;obtain⟨g1,g2⟩:=d2 _ (fm hk);have e1:(fs.map (List.map (TE s))).getD k []=fs[k].map (TE s):=by rw[gd (by rw[jh];exact hk),Md]
  rw[cq (by rw[jh];omega),bC (by rw[jh];exact hk),cg,e1,auC F _ (λe he=>by obtain⟨x,hx,rfl⟩:=lI.1 he;exact aeq (g2 x hx)) (by rw[jh];omega) (by rw[jh];omega),aE,dD aR de,bW om,lF hk,pQ,hrr];rfl
 ·right;obtain rfl:k=Ts fs:=om;intro rc;rw[cf (by rw[jh];omega),s7]
theorem asP(g:J bq)(h:∀x∈g,WE x):bV (g.map rP)<=Ts g:=by
 induction g with
 | nil=>simp[bV]|cons a m ih=>
  have h1:=aeq (h a tJ);have h2:=ih λe he=>h e (kV _ he);have:bV ((a::m).map rP)=Ts a.bJ+bV (m.map rP):=by simp[bV,rP]
  simp only[qi];omega
theorem Xn(l:J aB)(s:Bs)(h1:Ts l<=1000000)(h2:bV l<=5000000):(mW l s).length<=6000000/\∀f∈mW l s,Ts f<=6000000/\bV f<=6000000:=by obtain⟨d1,d2⟩:=aer l s h1 h2;unfold mW;refine⟨by rw[jh];exact d1,λf hf=>?_⟩;obtain⟨g,hg,rfl⟩:=lI.1 hf;obtain⟨g1,g2⟩:=d2 g hg;obtain⟨z1,z2⟩:=I3 (g.map rP) [];have:=asP g g2;have e0:bV ([]:J aB)=0:=rfl;simp only[jh,Dc]at z2;omega
def emp(e:bq):Nat:=cond (e.bJ==[]) 1 0
theorem agy:∀l:J aB,((l.flatMap qK).map emp).sum<=Ts l
 | []=>eo _|r::l=>by
  have ih:=agy l;have h1:∀(c:Int)(t:Bs),((t.map λb=>bq.mk [b] c).map emp).sum=0:=λc t=>by
   induction t with|nil=>rfl|cons b t ih=>simp only[jI,OW,ih];rfl
  have:((qK r).map emp).sum<=1:=by
   unfold qK;cases (r.aI==3)with
   | true=>exact eo _|false=>
    cases (r.aI==0||(r.aI==1||r.aI==2))with
    | false=>exact fq _|true=>rw[aJ,aU,pQ,UY,h1];cases (r.fText==[]&&r.aI==1)<;>simp[emp]
  simp only[vZ,pQ,UY,qi];omega
theorem afJ(l:J aB)(s:Bs):∀f∈mW l s,Ts f<=bV f+Ts l:=by
 intro f hf;unfold mW at hf;obtain⟨g,hg,rfl⟩:=lI.1 hf;obtain⟨h1,h2⟩:=aep (jg s) emp l.length WE (l.flatMap qK) 0 [] [] (λ_ h=>nomatch h) (by have:=agy l;simp only[Km,List.sum_nil];omega) (λ_ h=>nomatch h) (aem l) g hg;obtain⟨z1,z2⟩:=I3 (g.map rP) [];have e0:bV ([]:J aB)=0:=rfl;have h3:∀m:J bq,(∀x∈m,WE x)->Ts m<=bV (m.map rP)+(m.map emp).sum:=λm=>by
  induction m with
  | nil=>intro _;simp|cons a m ih=>
   intro hm;have h4:=ih λx hx=>hm x (kV _ hx);have h5:1<=Ts a.bJ+emp a:=by unfold emp;rcases hm a tJ with⟨h,-⟩|⟨b,h,-⟩<;>rw[h]<;>simp
   have:bV ((a::m).map rP)=Ts a.bJ+bV (m.map rP):=by simp[bV,rP]
   simp only[qi,jI,OW]at this⊢;omega
 have:=h3 g h2;simp only[jh,Dc]at z2;omega
theorem alB(F:Nat)(r:J aB)(hF:100000000<=F)(h1:Ts r<=10000000)(h2:bV r<=10000000):∃b,pV F r=iN b:=by
 have hcl:=ab5 r;obtain⟨b,-,h⟩:=ahD (F:=F) (r:=r) om om om om λc hc=>by have:=akf r c hc;obtain⟨p,⟨g1,g2⟩,h⟩:=ab1 F c om om om om;obtain⟨x,hx⟩:=ab2 F p om om g1;exact⟨p,x,h,hx⟩
 exact⟨b,h⟩
theorem aqI(F:Nat)(l:J d6)(p:cO)(hN:NC<=F)(hF:100000000<=F)(hl:eO l<=1000)(hs:lW s)(hst:stop s=eQ):aA (λr=>RB (eO l) r.1/\lW r.2) (dM F l p s):=by obtain⟨a,b,⟨h1,h2,-⟩,-,e⟩:=ao3 (fl:=[]) hN hF (agw F hF) F F l (dz.mk p.fQ p.lu 0) p s ⟨rfl,rfl⟩ hs hst hl om om;exact⟨b,⟨h2,h1⟩,e⟩
theorem aA.sc{Q:R->Prop}{c:Bool}{x y:R}(a:c=hJ->Q x)(b:c=eQ->Q y):aA Q (iN (cond c x y)):=by grind[aA.ok]
theorem aqJ(F:Nat)(e:eP)(hF:100<F):aA (λb=>b=hJ->(Ts e.b8<=12/\∀v∈e.b8,Ts v.fName<=60/\v.cj.length<=60)/\e.cZ.length<=12/\(∀x∈e.cZ,Ts x<=60)/\e.fName.length<=60) (Ev F e):=by
 unfold Ev wx;simp only[aH,aE];refine aA.cb (λ_=>aA.ok λh=>nomatch h) λhc=>?_;simp at hc;refine aA.lp (λi=>∃k:Nat,i=(k:Int)/\k<=Ts e.b8/\∀v∈e.b8.take k,Ts v.fName<=60/\v.cj.length<=60) (λi=>Ts e.b8-i.toNat) ⟨0,rfl,om,si⟩ (by grind) ?_;rintro _ ⟨k,rfl,h1,h2⟩ rc hrc;refine aA.cd (λh=>?_) λh=>?_
 ·have hk:k<Ts e.b8:=om;rw[ck om om,ck om om,bH om,cg,gd hk,aH,aE];refine aA.cb (λ_=>aA.ok λh=>nomatch h) λhv=>hrc _ ⟨k+1,rfl,hk,λv jT=>?_⟩ (by grind);grind[List.take_succ_eq_append_getElem,List.mem_singleton,cT,Bool.or_eq_false_iff,decide_eq_false_iff_not]
 ·have h2:∀v∈e.b8,Ts v.fName<=60/\v.cj.length<=60:=by grind
  refine aA.lp (λi=>∃k:Nat,i=(k:Int)/\k<=Ts e.cZ/\∀v∈e.cZ.take k,Ts v<=60) (λi=>Ts e.cZ-i.toNat) ⟨0,rfl,om,si⟩ (by grind) ?_;rintro _ ⟨k,rfl,p1,p2⟩ rc' uO;refine aA.cd (λh=>?_) λh=>aA.ok λ_=>⟨⟨om,h2⟩,om,by grind,om⟩;have hk:k<Ts e.cZ:=om;rw[ck om om,bH om,cg,gd hk];refine aA.cd (λ_=>aA.ok λh=>nomatch h) λhv=>uO _ ⟨k+1,rfl,hk,λv jT=>?_⟩ (by grind);grind[List.take_succ_eq_append_getElem,List.mem_singleton]
theorem aqK(F:Nat)(l:J bP)(hF:200<F):aA (λr=>r=0->zu l) (Ew F l):=by
 unfold Ew wx;refine aA.cd (λ_=>aA.ok λh=>nomatch h) λhl=>?_;refine aA.lp (λi:Int=>∃k:Nat,i=(k:Int)/\k<=Ts l/\zu (l.take k)) (λi=>Ts l-i.toNat) ⟨0,rfl,om,List.Pairwise.nil⟩ (by grind) ?_;rintro _ ⟨k,rfl,h1,hA⟩ rc hrc;refine aA.cd (λh=>?_) λh=>aA.ok λ_=>by grind
 have hk:k<Ts l:=om;have lt:aA (λb:Bool=>b=eQ->k=0\/(l.getD (k-1) eB).fName<(l.getD k eB).fName) (cond (eK (0<(k:Int))) (rq ((eK (0<=aD ((k:Int)-1)))&&(eK (aD ((k:Int)-1)<(Ts l:Int)))) (rq ((eK (0<=(k:Int)))&&(eK ((k:Int)<(Ts l:Int)))) (iN (!(pD ((l.getD (eJ (aD ((k:Int)-1))) eB).fName) ((l.getD (eJ (k:Int)) eB).fName)))))) (iN eQ)):=by refine aA.cd (λh0=>?_) λ_=>aA.ok λ_=>.inl om;rw[uQ om om];grind[aA.rq,mM,aA.ok,Mw]
 refine aA.rq (mM om om) (aA.bd (Gi F _ om) λb _=>aA.cb (λ_=>aA.ok λh=>nomatch h) λ_=>aA.rq (mM om om) (aA.cd (λ_=>aA.ok λh=>nomatch h) λ_=>?_));refine aA.bd (P:=λb:Bool=>b=eQ->k=0\/(l.getD (k-1) eB).fName<(l.getD k eB).fName) (aA.rq (mM om om) (aA.cb (λ_=>aA.rq (mM om om) (aA.cb (λ_=>aA.ok λh=>nomatch h) λ_=>lt)) λ_=>lt)) λb hb=>aA.cb (λ_=>aA.ok λh=>nomatch h) λhb0=>?_;rw[bH om];refine hrc _ ⟨k+1,rfl,hk,?_⟩ (by grind);unfold zu at hA⊢;rw[lF hk,List.pairwise_append];refine⟨hA,ag8 _ _,λa ha c hc=>?_⟩;obtain rfl:=qn.1 hc;obtain⟨m,hm,rfl⟩:=lH ha;have hm2:m<k:=by grind
 rcases hb hb0 with h0|h0
 ·omega
 ·rw[gd hk,gd (show k-1<l.length by omega)]at h0;by_cases e:m=k-1
  ·simp_all
  ·have:=(List.pairwise_iff_getElem.1 hA) m (k-1) hm (by grind) om;grind
def aoa(e:eP):Prop:=((Ts e.b8<=12/\∀v∈e.b8,Ts v.fName<=60/\v.cj.length<=60)/\e.cZ.length<=12/\(∀x∈e.cZ,Ts x<=60)/\e.fName.length<=60)/\e.vr=[]/\e.pT=[]/\e.vu=[]/\gF e.uV=hJ/\(0<=e.iw/\e.iw<=255)/\(0<=e.ic/\e.ic<=255)/\0<=e.Dp/\0<=e.qq/\zu e.b8
theorem aes{l:J α}(h:¬ 0<(Ts l:Int)):l=[]:=ahb.1 om
theorem asQ(F:Nat)(e:eP)(hF:1000<F):aA (λb=>b=hJ->aoa e) (GW F e):=by unfold GW wx;obtain⟨b1,h1,e1⟩:=aqJ F e om;obtain⟨b2,nP,e2⟩:=aqK F e.b8 om;rw[e1,e2,abV F e.uV om];simp only[aH,aE];refine aA.sc (λ_=>λh=>nomatch h) λhc=>λht=>?_;simp only[cT,cF,abe,cK,agT,ahg,fW]at hc ht;exact⟨h1 hc.1.1.1.1.1,aes hc.1.1.1.2,aes hc.1.1.2,aes hc.1.2,hc.2,om,om,om,om,nP (by simpa using hc.1.1.1.1.2)⟩
theorem aqL(F:Nat)(l:J Bs)(hF:10000<F):aA (λr=>Ts r.1<=8/\∀w∈r.1,eO w.fParts<=160) (vW F l):=by refine aA.lp (λz=>∃k:Nat,z.2=(k:Int)/\k<=8/\z.1.length<=k/\∀w∈z.1,eO w.fParts<=160) (λz=>8-z.2.toNat) ⟨0,rfl,om,si,λ_ h=>nomatch h⟩ (by show 8-0<F;omega) ?_;rintro⟨o,_⟩ ⟨k,rfl,h1,h2,h3⟩ rc hrc;rw[aH];refine aA.cb (λhc=>?_) λ_=>aA.ok ⟨by grind,h3⟩;rw[cF,cK]at hc;have c1:=zi hc.1;have c2:=zi hc.2;have no:aA (λr:J eM×Bool=>Ts r.1<=8/\∀w∈r.1,eO w.fParts<=160) (iN ([],eQ)):=aA.ok ⟨si,λ_ h=>nomatch h⟩;refine aA.rq (mM om om) (aA.cd (λ_=>no) λh80=>aA.rq (mM om om) (aA.bd (arc F _ om om) λr hr=>K7 (λ_=>no) λ_=>?_));rw[bH om];refine aA.rq (oV (by grind) de) (hrc _ ⟨k+1,rfl,om,aR,λw hw=>?_⟩ (by grind));grind
theorem agz(h:aoa e)(h1:K.ij e.Dp)(h2:K.ij e.qq):Xk e:=by obtain⟨⟨⟨a1,a2⟩,a3,a4,a5⟩,f1,f2,f3,-,-,h6,-⟩:=h;exact⟨⟨om,λv hv=>by have:=a2 v hv;omega⟩,a3,a4,a5,⟨om,om⟩,h1,h2,f1,f2,f3⟩
def Rdy(j:wV)(w:J eM):Prop:=aoa j.mJ/\VL j.sI/\j.sI.length<=40/\(Ts j.kM<=12/\∀a∈j.kM,Ts a.fText<=60)/\w.length<=8/\∀x∈w,eO x.fParts<=160
theorem aqM{k:Nat}(h:k<=F):∃n,F=n+k:=⟨F-k,om⟩
theorem alC(F:Nat)(e:eP)(hF:10<=F)(h1:Ts e.b8<=1000)(h2:Ts e.cZ<=1000)(h3:e.vr=[])(h4:e.pT=[])(h5:e.vu=[]):sW F e=iN e:=by obtain⟨m,rfl⟩:=aqM hF;unfold sW AL yl ym yo yp wx;rw[h4,dD om de,dD om de];obtain⟨a1,a2,a3,a4,a5,a6,a7,a8,a9,a10,a11,a12,a13,a14⟩:=e;subst h3 h4 h5;rfl
def asR:eP:=eP.mk [] [] [] [] [] [] 0 0 0 0 [] (oW.mk 0 0) 0 eQ
def CV(s:aO)(fs:J Bs):gT×Int:=cond (s.fe != 0) (gT.mk [] asR eQ [] s.fJ 0,s.fe) (gT.mk (cond s.fO [] fs) s.b9 s.fO s.yS [] s.lq,0)
theorem alD(F:Nat)(h:Xk e)(hF:10<=F):sW F e=iN e:=alC F e hF (by have:=h.1.1;omega) (by have:=h.2.1;omega) h.2.2.2.2.2.2.2.1 h.2.2.2.2.2.2.2.2.1 h.2.2.2.2.2.2.2.2.2
theorem asS(F:Nat)(fl:J aZ)(h:lW s)(hs:stop s=eQ)(hF:10<=F)(fs:J Bs):gZ F fs hJ (iL fl s)=iN (CV s fs):=by obtain⟨h1,h2⟩:=Bl hs;unfold gZ wx;rw[show(iL fl s).b9=s.b9 from rfl,alD F h.1.1 hF];unfold CV;rw[h1,h2,h.2.2 h2];rfl
theorem UM(F:Nat){x:aP}(h:lW s)(hx:Fin x s)(hF:10<=F)(fs gs:J Bs)(hs:stop s=hJ):gZ F fs eQ x=iN (CV s gs):=by
 unfold gZ CV wx;rcases hx with⟨h1,h2,h3,h4⟩|⟨h1,h2,h3,h4,h5⟩
 ·rw[h2,h3,h4,show(s.fe != 0)=hJ by simpa using h1];rfl
 ·have hw:s.fO=hJ:=by unfold stop at hs;rw[h1]at hs;exact hs
  rw[h2,h4,alD F h.1.1 hF,h1,hw,h3,h5];rfl
def s0(e:eP)(a:J fh):aO:=aO.mk e a 0 (-1) 0 [] eQ []
def asT{a:J fh}(h:Xk e)(hA:zu e.b8)(h1:∀x∈a,Ts x.fText<=60)(h2:a.length<=2000):lW (s0 e a):=⟨⟨h,h1,h2,0,rfl,fq _⟩,hA,λ_=>rfl⟩
theorem aqN:EB 60=iN hJ:=by
 unfold EB wx
 try simp only[MW]
 kernel_rfl
def SX(x:gT):Prop:=Ts x.jf<=1000/\NoF x.mJ/\x.mJ.b8.length<=1000/\x.mJ.cZ.length<=1000
theorem aqO(h:lW s){fs:J Bs}(hf:Ts fs<=1000):SX (CV s fs).1:=by
 have h1:=h.1.1.1.1;have h2:=h.1.1.2.1;unfold CV;cases (s.fe != 0)with
 | true=>exact⟨fq _,⟨rfl,rfl,rfl⟩,fq _,fq _⟩|false=>exact⟨by show(cond s.fO [] fs).length<=_;cases s.fO<;>simp;exact hf,h.1.1.2.2.2.2.2.2.2,by show s.b9.b8.length<=_;omega,by show s.b9.cZ.length<=_;omega⟩
theorem aet(F n:Nat)(hF:n<F)(hn:n<=1000000)(p:Int->Bool)(hp:∀x,p x=eQ):bX (σ:=Int) (R:=Bool) (λbD x1=>cond (eK (x1<(n:Int))) (rq ((eK (0<=x1))&&(eK (x1<(n:Int)))) (rq ((eK (0<=x1))&&(eK (x1<(n:Int)))) (cond (p x1) (iN eQ) (bD (aD (x1+1)))))) (iN hJ)) F 0=iN hJ:=by
 refine cy (λs:Int=>∃k:Nat,s=(k:Int)/\k<=n) (λs=>n-s.toNat) ?_ F _ ⟨0,rfl,om⟩ aR;rintro _ ⟨k,rfl,hk⟩;by_cases hk:k<n
 ·left;refine⟨_,⟨k+1,rfl,om⟩,aR,λrc=>?_⟩;rw[cq om,bC hk,bC hk,hp,aJ,bW om]
 ·right;intro rc;rw[cf om]
theorem ao6(F:Nat)(l:J Bs)(hF:Ts l<F)(h:Ts l<=1000000):pL F l l=iN hJ:=by unfold pL wx;rw[Mj,aJ];exact aet F l.length hF h (λx1=>!((l.getD (eJ x1) [])==(l.getD (eJ x1) []))) (λx=>by simp)
theorem asU(F:Nat)(l:J bP)(hF:Ts l<F)(h:Ts l<=1000000):Hl F l l=iN hJ:=by unfold Hl wx;rw[Mj,aJ];exact aet F l.length hF h (λx1=>!(((l.getD (eJ x1) eB).fName==(l.getD (eJ x1) eB).fName)&&(((l.getD (eJ x1) eB).cj==(l.getD (eJ x1) eB).cj)&&(((l.getD (eJ x1) eB).cL==(l.getD (eJ x1) eB).cL)&&(((l.getD (eJ x1) eB).vV==(l.getD (eJ x1) eB).vV)&&(((l.getD (eJ x1) eB).mV==(l.getD (eJ x1) eB).mV)&&hJ)))))) (λx=>by simp)
def aM{R:Type}(Q:R->Prop)(x:O R):Prop:=∀r,x=iN r->Q r
variable{S:Type}{f:S->O R}{body:(σ->O R)->σ->O R}
section
variable {A : Type} {Q : R -> Prop}
theorem aM.ok{r:R}(h:Q r):aM Q (iN r):=λ_ e=>by cases e;exact h
def aM.no:aM Q iF:=λ_ e=>nomatch e
theorem aM.rq{x:O R}{c:Bool}(k:aM Q x):aM Q (rq c x):=by cases c;exact aM.no;exact k
theorem aM.cb{x y:O R}{c:Bool}(a:aM Q x)(b:aM Q y):aM Q (cond c x y):=by cases c;exact b;exact a
theorem aM.bb{P:S->Prop}{x:O S}(h:aM P x)(k:∀a,P a->aM Q (f a)):aM Q (x.bind f):=λr e=>by obtain⟨a,e1,e2⟩:=U3.1 e;exact k a (h a e1) r e2
theorem aM.bd{x:O S}(k:∀a,aM Q (f a)):aM Q (x.bind f):=aM.bb (P:=λ_=>True) (λ_ _=>trivial) λa _=>k a
theorem aM.lp(P:σ->Prop){s:σ}(h0:P s)(hs:∀s,P s->∀rc,(∀s',P s'->aM Q (rc s'))->aM Q (body rc s)):aM Q (bX body F s):=by
 induction F generalizing s with|zero=>exact aM.no|succ F ih=>exact hs s h0 (bX body F) λs' h=>ih h
def aM.lT{s:σ}(hs:∀s rc,(∀s',aM Q (rc s'))->aM Q (body rc s)):aM Q (bX body F s):=aM.lp (λ_=>True) trivial λs _ rc h=>hs s rc λs'=>h s' trivial
end
variable{c:eP}
section
variable {A : Type} {Q : R -> Prop}
def IV(c:eP)(s:aO):Prop:={s.b9 with b8:=[]} = c
def aM.bi{x:O (A×aO)}{f:A×aO->O R}(h:aM (λz=>IV c z.2) x)(k:∀a,IV c a.2->aM Q (f a)):aM Q (x.bind f):=aM.bb h k
def aM.bt{x:O aO}{f:aO->O R}(h:aM (IV c) x)(k:∀a,IV c a->aM Q (f a)):aM Q (x.bind f):=aM.bb h k
def aM.ls{body:(Int×aO->O R)->Int×aO->O R}{s:Int×aO}(h0:IV c s.2)(hs:∀s:Int×aO,IV c s.2->∀rc,(∀s':Int×aO,IV c s'.2->aM Q (rc s'))->aM Q (body rc s)):aM Q (bX body F s):=aM.lp (λz=>IV c z.2) h0 hs
theorem aM.au{Q:R->Prop}{x:O R}(h:aM Q x:=by repeat' first|exact aM.no|exact aM.ok ‹_› | exact aM.ok NE.nil|exact aM.ok NT.nil|exact aM.ok (C1.one _)|exact aM.ok C1.nil|exact aM.ok λ_=>rfl|exact fin|exact go|exact go 0|exact go _ _ _ _ _ _ (λZ1=>aD (Z1.SU+1))|exact g3|exact hrc _ ‹_› | exact hrc _|exact uO _ ‹_› | exact h1 _ _ _ ‹_› | exact h2 _ _ _ ‹_› | exact h3 _ _ ‹_› | exact h4 _ _ _ ‹_› | exact h5 _ _ _ ‹_› | exact h6 _ _ _ ‹_› | exact avS _ _ _ ‹_› | exact auK _ _ _ ‹_› | exact avV _ _ ‹_› | exact avT _ _|exact av7 _ _ _|exact av8 _ _|exact awo _ rfl|exact avM _ de|exact avM _ (av9 ‹_› (ws1 _))|exact avU _ _|exact awa _ _ _|exact awb _ _ _|exact awp _ rfl|exact h1 _ _ _ _ _|exact h3 _ _ _ _|exact h4 _ _ _ _|exact h5 _ _ _ _|exact h6 _ _ _|exact h6 _ _ _ _|exact h1 _ _ _ h.2|exact h1 _ _ _ h|exact avW _ _ _ _|(refine aM.ok λ_ h=>?_;cases h;done)|(refine aM.ok λ_ h=>?_;cases h;assumption)|refine aM.rg λ_=>?_|refine aM.cb ?_ ?_|refine aM.rq ?_|refine aM.bu (p:=p) ?_ λ_ _=>?_|refine aM.br ?_ λ_ _=>?_|refine aM.bt (c:=c) ?_ λ_ _=>?_|refine aM.bi (c:=c) ?_ λ_ _=>?_|refine aM.bv ?_ λ_ _=>?_|refine aM.bc ?_ λ_ _=>?_|refine aM.bd λ_=>?_|refine aM.ls (c:=c) ‹_› λ_ _ rc' uO=>?_|refine aM.lT λ_ rc hrc=>?_):aM Q x:=h
def J1(c:eP)(F n:Nat):Prop:=(∀l p s,IV c s->aM (λz=>IV c z.2) ((aF F n).1 l p s))/\(∀l p s,IV c s->aM (λz=>IV c z.2) ((aF F n).2.1 l p s))/\(∀l s,IV c s->aM (λz=>IV c z.2) ((aF F n).2.2.1 l s)) /\
 (∀l p s,IV c s->aM (λz=>IV c z.2) ((aF F n).2.2.2.1 l p s))/\(∀l p s,IV c s->aM (λz=>IV c z.2) ((aF F n).2.2.2.2.1 l p s))/\(∀l p s,IV c s->aM (IV c) ((aF F n).2.2.2.2.2 l p s))
theorem alE:∀n,J1 c F n
 | 0=>⟨λ_ _ _ _=>aM.no,λ_ _ _ _=>aM.no,λ_ _ _=>aM.no,λ_ _ _ _=>aM.no,λ_ _ _ _=>aM.no,λ_ _ _ _=>aM.no⟩|n+1=>by
  obtain⟨h1,h2,h3,h4,h5,h6⟩:=alE n;refine⟨λl p s h=>?_,λl p s h=>?_,λl s h=>?_,λl p s h=>?_,λl p s h=>?_,λl p s h=>?_⟩
  ·show aM _ (iE F (aF F n) l p s);unfold iE wx;refine aM.lp (λz=>IV c z.2.2) h λz hz rc hrc=>?_;exact aM.au
  ·show aM _ (gY F (aF F n) l p s);unfold gY wx;exact aM.au
  ·show aM _ (gw F (aF F n) l s);unfold gw wx;refine aM.bi (h4 _ _ _ h) λz hz=>aM.bd λ_=>aM.cb (aM.ok hz) (aM.lT λ_ rc hrc=>?_);exact aM.au
  ·show aM _ (jt F (aF F n) l p s);unfold jt wx;exact aM.au
  ·show aM _ (gy F (aF F n) l p s);unfold gy wx;exact aM.au
  ·show aM _ (gz F (aF F n) l p s);unfold gz wx;exact aM.au
end
theorem alF{a b:J Bs}(ha:a≠[])(hb:b≠[])(h1:∀c∈a,rZ c)(h2:∀c∈b,rZ c)(e:dW a=dW b):a=b:=by grind[BI]
theorem L8:∀(s:Bs),∀p∈cm s,rZ p
 | [],p,hp=>by obtain rfl:=qn.1 hp;intro b hb;cases hb
 | b::l,p,hp=>by
  have ih:=L8 l;have hne:=td l;unfold cm at hp;cases hb:(b==47)with
  | true=>
   rw[hb]at hp;rcases hU.1 hp with rfl|hp
   ·intro x hx;cases hx
   ·exact ih p hp
  | false=>
   rw[hb]at hp;cases h:cm l with
   | nil=>exact absurd h hne|cons q qs=>
    rw[h]at hp;rcases hU.1 hp with rfl|hp
    ·intro x hx;rcases hU.1 hx with rfl|hx
     ·simpa using hb
     ·exact ih q (by rw[h];simp) x hx
    simp_all
def NoS(o:J (J aB)×J aB):Prop:=(∀c∈o.1,rZ (gH c))/\rZ (gH o.2)
theorem aqP(a b:J aB):gH (a++b)=gH a++gH b:=by unfold gH;rw[Mi]
theorem aob{a b:Bs}(ha:rZ a)(hb:rZ b):rZ (a++b):=λx hx=>by
 rcases ni.1 hx with h|h
 ·exact ha x h
 ·exact hb x h
theorem ao7(c:Int):∀(ps:J Bs)(o:J (J aB)×J aB),(∀p∈ps,rZ p)->NoS o->NoS (ps.foldl (HR c) o)
 | [],o,_,h=>h|q::ps,o,hp,h=>ao7 c ps _ (λp hq=>hp p (by simp[hq])) ⟨λx hx=>by
   rcases ni.1 hx with hx|hx
   ·exact h.1 x hx
   ·obtain rfl:=qn.1 hx;exact h.2,by
   show rZ (gH [aB.mk q c])
   simp_all[afY]⟩
theorem ao8:∀(l:J aB)(o:J (J aB)×J aB),NoS o->NoS (l.foldl oY o)
 | [],o,h=>h|r::l,o,h=>ao8 l _ (by
  unfold oY;cases nY r.aI
  ·have hps:=L8 r.fText;cases hp:cm r.fText with|nil=>simp_all[td]|cons p ps=>rw[hp]at hps;refine ao7 r.aI ps (o.1,o.2++[aB.mk p r.aI]) (λq hq=>hps q (by simp[hq])) ⟨h.1,?_⟩;rw[aqP,afY];exact aob h.2 (hps p si)
  ·exact h)
theorem aqQ(l:J aB):∀t∈gJ l,rZ (gH t):=by
 have h:=ao8 l ([],[]) ⟨λc hc=>(by cases hc),λx hx=>(by cases hx)⟩;intro t ht;rcases ni.1 ht with ht|ht
 ·exact h.1 t ht
 ·obtain rfl:=qn.1 ht;exact h.2
variable{mt:J aC -> Bs -> Bool}
section
variable {l : J aZ}
theorem ajq{f:Bs->J (J Bs)}:∀ {K:J Bs},K.Nodup->(∀k,(f k).Nodup)->(K.flatMap λn=>(f n).map (n :: ·)).Nodup|[],_,_=>zj|k::K,hK,hf=>by grind
theorem agA(hv:VL l):∀(cs:J bh)(p:Bs),(W l mt cs p).Nodup
 | [],p=>by show [([]:J Bs)].Nodup;simp
 | c::cs,p=>by
  have ih:=agA hv cs;rw[xy];cases (!oZ l p)
  ·cases (!c.fP)
   ·grind
   ·have hK:(dQ l p).Nodup:=(TZ hv p).imp λ{a b} hab e=>by grind
    exact ajq (hK.filter _) λk=>ih _
  ·exact zj
theorem aab{f:J Bs->Bs}:∀ {L:J (J Bs)},L.Nodup->(∀a∈L,∀b∈L,f a=f b->a=b)->(L.map f).Nodup
 | [],_,_=>zj|a::L,h,hi=>by obtain⟨h1,h2⟩:=Fp.1 h;rw[jI,Fp];refine⟨λhm=>?_,aab h2 λx hx y hy=>hi x (by simp[hx]) y (by simp[hy])⟩;obtain⟨b,hb,e⟩:=lI.1 hm;have:=hi a si b (by simp[hb]) e.symm;exact h1 (this▸hb)
theorem agB:∀(cs:J bh)(p:Bs),Ts (W l mt cs p)<=Ts l^(cs.filter λc=>!c.fP).length\/Ts l=0
 | [],p=>.inl (by simp[W])|c::cs,p=>by
  by_cases h0:Ts l=0
  ·exact .inr h0
  have ih:=λq=>(agB cs q).resolve_right h0;left;rw[xy];cases hd:(!oZ l p)
  ·cases hl:(!c.fP)
   ·grind
   ·have hf:((c::cs).filter λc=>!c.fP)=c::cs.filter λc=>!c.fP:=by simp_all
    rw[hf,qi];have h1:=XF (λn=>(W l mt cs (gG p n)).map (n :: ·)) (Ts l^(cs.filter λc=>!c.fP).length) (λn=>by simp_all) ((dQ l p).filter (oM mt c));refine lG h1 (aba _ ?_);unfold dQ;grind
  ·exact fq _
end
variable{ns:J Bs}
section
variable {l : J aZ}
theorem aqR{l:J aZ}(hv:VL l){n done rest:J Bs}(hn:Names n)(hd:oZ l (pathOf n)=hJ)(e:n=done++rest):oZ l (pathOf done)=hJ:=by
 have hV:=hv.tree;cases rest with
 | nil=>simp_all|cons c r=>
  unfold oZ at hd;cases hf:jo l (pathOf n)with
  | none=>rw[hf]at hd;cases hd
  | some f=>
   obtain⟨h1,h2⟩:=Jp hf;have hdn:Names done:=λx hx=>hn x (by rw[e];simp[hx]);have hp:=hv.path f h1
   obtain⟨p,hp1,hp2,hp3,-⟩:=hV.above (by
    have hl2:(pathOf n).length<=128:=by rw[<-h2];exact hv.small f h1
    refine abW hdn ?_;have:(pathOf done).length<=Ts (pathOf n):=by
     unfold pathOf;have hj:∀(a b:J Bs),Ts (dW a)<=Ts (dW (a++b)):=by
      intro a
      induction a with
      | nil=>intro b;simp[dW]|cons x a ih=>
       intro b;cases a with
       | nil=>cases b with|nil=>simp|cons y b=>simp[dW]
       | cons z a=>have:=ih b;simp[dW]at this⊢;omega
     simp_all
    omega) h1 (by simp_all[Ky])
   unfold oZ;rw[<-hp2,S0 hv.asc hp1];exact hp3
theorem aac{p:Bs}(h:oZ l p=hJ):(jo l p).isSome=hJ:=by
 unfold oZ at h;cases hf:jo l p with
 | none=>rw[hf]at h;cases h
 | some f=>rfl
theorem alG(hv:VL l){p k:Bs}(h:k∈dQ l p):(jo l (gG p k)).isSome=hJ:=by
 obtain⟨f,hf,rfl⟩:=lI.1 h;rw[Rt]at hf;have hk:=hf.2;unfold zn at hk;simp only[cK,wR,uL]at hk;obtain⟨-,c,-,-,-,-,e1,e2,-⟩:=EI (hv.path f hf.1) hk.1;have e3:gG p (mX f.bN)=f.bN:=by
  conv=>rhs;rw[e2]
  unfold gG aro;grind
 rw[e3,S0 hv.asc hf.1];rfl
theorem aeu(hv:VL l)(hn:Names ns){c:Bs}(hc:rZ c)(hne:c≠[])(h:(jo l (gG (pathOf ns) c)).isSome=hJ):lQ c=hJ:=by
 cases hf:jo l (gG (pathOf ns) c)with
 | none=>rw[hf]at h;cases h
 | some f=>
  obtain⟨-,hps,-⟩:=MA hv hf;rw[uY hn]at hps;have rV:∀x∈ns++[c],rZ x:=by
   intro x hx;rcases ni.1 hx with hx|hx
   ·exact sK (hn x hx)
   simp_all
  have hpj:cm ((pathOf (ns++[c])).drop 1)=ns++[c]:=BI (ns++[c]) si rV;have hr:(pathOf (ns++[c])==[47])=eQ:=by cases hb:(pathOf (ns++[c])==[47])with|false=>rfl|true=>have e:=eq_of_beq hb;rw[e]at hpj;have:([([]:Bs)]:J Bs)=ns++[c]:=hpj;grind
  obtain⟨h1,-⟩:=yy hps hr;rw[hpj]at h1;exact h1 c si
def agC(l:J aZ)(w ns:J Bs):Prop:=∃ns',oX w ns=iN ns'/\Names ns'/\(jo l (pathOf ns')).isSome=hJ/\(w.getLast? = iN []->oZ l (pathOf ns')=hJ)
theorem agD(hv:VL l):∀(cs:J bh)(ns:J Bs),Names ns->(∀c∈cs,rZ c.bJ)->(jo l (pathOf ns)).isSome=hJ->∀w∈W l mt cs (pathOf ns),agC l w ns
 | [],ns,hn,_,hs,w,hw=>by obtain rfl:=qn.1 (show w∈[([]:J Bs)]from hw);exact⟨ns,rfl,hn,hs,λh=>by cases h⟩
 | c::cs,ns,hn,hc,hs,w,hw=>by
  have ih:=agD hv cs;have hcs:∀c∈cs,rZ c.bJ:=λx hx=>hc x (by simp[hx]);have hct:=hc c si;have hone:∀(x:Bs)(q:Bs)(n2:J Bs),q=pathOf n2->Names n2->(jo l (pathOf n2)).isSome=hJ->(∀w',oX (x::w') ns=oX w' n2)->(x=[]->oZ l (pathOf n2)=hJ)->w∈(W l mt cs q).map (x :: ·)->agC l w ns:=by
   intro x q n2 e h1 h2 h3 h4 hq;subst e;obtain⟨w',hw',rfl⟩:=lI.1 hq;obtain⟨ns',g1,g2,g3,g4⟩:=ih n2 h1 hcs h2 w' hw';refine⟨ns',by rw[h3];exact g1,g2,g3,λahC=>?_⟩;cases w' with
   | nil=>
    have hx:x=[]:=by simpa using ahC
    have:n2=ns':=pO g1;simp_all
   | cons y w'=>simp_all
  rw[xy]at hw;cases h1:(!oZ l (pathOf ns))<;>rw[h1]at hw
  ·have hd:oZ l (pathOf ns)=hJ:=by simpa using h1
   cases h2:(!c.fP)<;>rw[h2]at hw
   ·cases h3:(c.bJ==[]||c.bJ==[46])<;>rw[h3]at hw
    ·have hne:c.bJ≠[]:=by simp_all
     cases h4:(c.bJ==[46,46])<;>rw[h4]at hw
     ·cases h5:(jo l (gG (pathOf ns) c.bJ)).isNone<;>rw[h5]at hw
      ·have hsome:(jo l (gG (pathOf ns) c.bJ)).isSome=hJ:=by simp_all
       have hnm:=aeu hv hn hct hne hsome;refine hone c.bJ _ (ns++[c.bJ]) (uY hn _) (hn.snoc hnm) (by simp_all[uY]) (λw'=>?_) (λe=>absurd e hne) hw;rw[oX,h3,h4,hnm];rfl
      ·cases hw
     ·have hdl:oZ l (pathOf ns.dropLast)=hJ:=by
       rcases U2 ns with rfl|⟨m,x,rfl⟩
       ·exact hd
       grind[List.dropLast_concat,aqR]
      refine hone c.bJ _ ns.dropLast (HM hn) hn.dropLast (aac hdl) (λw'=>?_) (λe=>absurd e hne) hw;rw[oX,h3,h4];rfl
    ·refine hone c.bJ _ ns rfl hn hs (λw'=>?_) (λ_=>hd) hw;rw[oX,h3];rfl
   ·obtain⟨k,hk,hw⟩:=ahd.1 (show w∈((dQ l (pathOf ns)).filter (oM mt c)).flatMap _ from hw);have hkm:=(Rt.1 hk).1;have hnm:=(XM hv hkm).1;obtain⟨d1,d2,d3⟩:=Zf hnm;refine hone k _ (ns++[k]) (uY hn _) (hn.snoc hnm) (by grind[uY,alG]) (λw'=>?_) (λe=>by rw[e]at hnm;cases hnm) hw;rw[oX,d1,d2,d3,hnm];rfl
  ·cases hw
end
section
variable {l : J aZ}
def NdW(l:J aZ)(mt:J aC->Bs->Bool)(cs:J bh)(ns:J Bs):Prop:=((W l mt cs (pathOf ns)).map λw=>oX w ns).Nodup/\∀w∈W l mt cs (pathOf ns),∃t,oX w ns=iN (ns++t)
theorem agE{cs:J bh}{ns:J Bs}(hn:Names ns):∀(K:J Bs),(∀k∈K,lQ k=hJ)->K.Nodup->(∀k∈K,NdW l mt cs (ns++[k])) ->
  (((K.flatMap λn=>(W l mt cs (gG (pathOf ns) n)).map (n :: ·))).map λw=>oX w ns).Nodup/\∀w∈(K.flatMap λn=>(W l mt cs (gG (pathOf ns) n)).map (n :: ·)),∃k∈K,∃t,oX w ns=iN (ns++k::t)
 | [],_,_,_=>⟨zj,λw hw=>by cases hw⟩
 | k::K,hk,hnd,hI=>by
  obtain⟨h1,h2⟩:=Fp.1 hnd;obtain⟨i1,i2⟩:=agE hn K (λx hx=>hk x (by simp[hx])) h2 λx hx=>hI x (by simp[hx]);obtain⟨j1,j2⟩:=hI k si;have hkn:=hk k si;obtain⟨d1,d2,d3⟩:=Zf hkn;have hcl:∀w',oX (k::w') ns=oX w' (ns++[k]):=λw'=>by rw[oX,d1,d2,d3,hkn];rfl
  have hj:gG (pathOf ns) k=pathOf (ns++[k]):=uY hn k;have hhead:∀w∈(W l mt cs (gG (pathOf ns) k)).map (k :: ·),∃t,oX w ns=iN (ns++k::t):=by simp_all
  rw[vZ];refine⟨?_,λw hw=>?_⟩
  ·rw[pQ,agJ];refine⟨?_,i1,λa ha b hb e=>?_⟩
   ·grind
   ·subst e;obtain⟨w1,hw1,e1⟩:=lI.1 ha;grind[w2,Option.some.inj,List.append_cancel_left,List.cons.inj]
  grind
theorem asV(hv:VL l):∀(cs:J bh)(ns:J Bs),Names ns->(∀c∈cs,rZ c.bJ)->(∀c∈cs,c.fP=hJ->c.bJ≠[46,46])->NdW l mt cs ns
 | [],ns,hn,_,_=>⟨by show([oX [] ns]).Nodup;simp,λw hw=>by
   obtain rfl:=qn.1 (show w∈[([]:J Bs)]from hw)
   exact⟨[],by simp[oX]⟩⟩
 | c::cs,ns,hn,hc,hd=>by
  have ih:=λn2 h=>asV hv cs n2 h (λx hx=>hc x (by simp[hx])) (λx hx=>hd x (by simp[hx]));have hct:=hc c si;have hdt:=hd c si;have hone:∀(q:Bs)(n2 t0:J Bs),q=pathOf n2->Names n2->n2=ns++t0->(∀w',oX (c.bJ::w') ns=oX w' n2)->((((W l mt cs q).map (c.bJ :: ·)).map λw=>oX w ns).Nodup/\∀w∈(W l mt cs q).map (c.bJ :: ·),∃t,oX w ns=iN (ns++t)):=by intro q n2 t0 e h1 h2 h3;subst e;obtain⟨j1,j2⟩:=ih n2 h1;grind
  have hnil:(([]:J (J Bs)).map λw=>oX w ns).Nodup/\∀w∈([]:J (J Bs)),∃t,oX w ns=iN (ns++t):=⟨zj,λw hw=>by cases hw⟩;unfold NdW;rw[xy];cases h1:(!oZ l (pathOf ns))
  ·cases h2:(!c.fP)
   ·have avN:c.fP=hJ:=by simpa using h2
    cases h3:(c.bJ==[]||c.bJ==[46])
    ·have h4:(c.bJ==[46,46])=eQ:=by simpa using hdt avN
     rw[h4];have hne:c.bJ≠[]:=by simp_all
     cases h5:(jo l (gG (pathOf ns) c.bJ)).isNone
     ·have hsome:(jo l (gG (pathOf ns) c.bJ)).isSome=hJ:=by simp_all
      have hnm:=aeu hv hn hct hne hsome;exact hone _ (ns++[c.bJ]) [c.bJ] (uY hn _) (hn.snoc hnm) rfl λw'=>by rw[oX,h3,h4,hnm];rfl
     ·exact hnil
    ·exact hone _ ns [] rfl hn si λw'=>by rw[oX,h3];rfl
   ·have hK:(dQ l (pathOf ns)).Nodup:=(TZ hv _).imp λ{a b} hab e=>by grind
    have hkn:∀k∈(dQ l (pathOf ns)).filter (oM mt c),lQ k=hJ:=λk hk=>(XM hv (Rt.1 hk).1).1;obtain⟨j1,j2⟩:=agE (cs:=cs) (mt:=mt) (l:=l) hn _ hkn (hK.filter _) λk hk=>ih (ns++[k]) (hn.snoc (hkn k hk));grind
  ·exact hnil
end
theorem alH{α:Type}[BEq α][LawfulBEq α]:∀(a b:J α),a.Nodup->(∀x∈a,x∈b)->a.length<=Ts b
 | [],b,_,_=>by simp|x::a,b,h,hs=>by
  obtain⟨h1,h2⟩:=Fp.1 h;have ih:=alH a (b.erase x) h2 λy hy=>by grind
  grind
theorem alI{α β:Type}{g:α->β}:∀ {L:J α},(L.map g).Nodup->∀a∈L,∀b∈L,g a=g b->a=b
 | [],_,a,ha,_,_,_=>by cases ha
 | x::L,h,a,ha,b,hb,e=>by
  rw[jI,Fp]at h;rcases hU.1 ha with ha|ha
  ·rcases hU.1 hb with hb|hb
   ·rw[ha,hb]
   ·rw[ha]at e;exact absurd (lI.2 ⟨b,hb,e.symm⟩:g x∈L.map g) h.1
  ·rcases hU.1 hb with hb|hb
   ·rw[hb]at e;exact absurd (lI.2 ⟨a,ha,e⟩:g x∈L.map g) h.1
   ·exact alI h.2 a ha b hb e
theorem ajr{a b:J Bs}(ha:Names a)(hb:Names b)(e:pathOf a=pathOf b):a=b:=by
 have e2:dW a=dW b:=by simpa[pathOf]using e
 cases a with
 | nil=>cases b with|nil=>rfl|cons y b=>exact absurd e2.symm (RF hb si)
 | cons x a=>cases b with|nil=>exact absurd e2 (RF ha si)|cons y b=>exact alF si si (λc hc=>sK (ha c hc)) (λc hc=>sK (hb c hc)) e2
theorem aqS{l:J aZ}(hv:VL l){cs:J bh}(hn:Names ns)(hc:∀c∈cs,rZ c.bJ)(hd:∀c∈cs,c.fP=hJ->c.bJ≠[46,46])(hs:(jo l (pathOf ns)).isSome=hJ):(W l mt cs (pathOf ns)).length<=Ts l:=by
 obtain⟨h1,-⟩:=asV (mt:=mt) hv cs ns hn hc hd;have hP:=agD (mt:=mt) hv cs ns hn hc hs;have hnd:((W l mt cs (pathOf ns)).map λw=>(oX w ns).elim [] pathOf).Nodup:=by refine aab (agA hv cs _) λa ha b hb e=>?_;obtain⟨na,a1,a2,-⟩:=hP a ha;obtain⟨nb,b1,b2,-⟩:=hP b hb;grind[ajr,alI]
 have hsub:∀x∈((W l mt cs (pathOf ns)).map λw=>(oX w ns).elim [] pathOf),x∈l.map λf=>f.bN:=by
  intro x hx;obtain⟨w,hw,rfl⟩:=lI.1 hx;obtain⟨n2,a1,a2,a3,-⟩:=hP w hw;cases hf:jo l (pathOf n2)with
  | none=>rw[hf]at a3;cases a3
  | some f=>obtain⟨g1,g2⟩:=Jp hf;grind
 have:=alH _ _ hnd hsub;simpa using this
def bits(c:J aB):J dY:=c.flatMap HN
def rO(o:J (J aB)×J aB):J (J dY)×J dY:=(o.1.map bits,bits o.2)
def bst(cl:Int)(o:J (J dY)×J dY)(b:UInt8):J (J dY)×J dY:=cond (b==47) (o.1++[o.2],[]) (o.1,o.2++[dY.mk (b.toNat:Int) (cl != 1)])
theorem AM(a b:J aB):bits (a++b)=bits a++bits b:=by unfold bits;rw[Mi]
theorem AN(t:Bs)(cl:Int)(h:nY cl=eQ):bits [aB.mk t cl]=t.map λb=>dY.mk (b.toNat:Int) (cl != 1):=by unfold bits;unfold HN;simp_all
theorem auE(cl:Int)(h:nY cl=eQ)(o:J (J aB)×J aB)(b:UInt8):rO (mD cl o b)=bst cl (rO o) b:=by
 unfold mD bst rO;cases (b==47)
 ·simp_all[AM,AN]
 ·show((o.1++[o.2]).map bits,bits [])=_;rw[pQ];rfl
theorem alJ(cl:Int)(h:nY cl=eQ):∀(t:Bs)(o:J (J aB)×J aB),rO (t.foldl (mD cl) o)=t.foldl (bst cl) (rO o)|[],o=>rfl|b::t,o=>by simp_all[v7,alJ,auE]
theorem ao9(cl:Int):∀(ps:J Bs)(o o':J (J aB)×J aB),rO o=rO o'->rO (ps.foldl (HR cl) o)=rO (ps.foldl (HR cl) o')
 | [],o,o',h=>h|q::ps,o,o',h=>by refine ao9 cl ps _ _ ?_;have h1:o.1.map bits=o'.1.map bits:=congrArg (·.1) h;have h2:bits o.2=bits o'.2:=congrArg (·.2) h;unfold HR rO;simp_all
theorem ajs(cl:Int)(h:nY cl=eQ):∀(t:Bs)(o:J (J aB)×J aB),rO (pcP cl o (cm t))=t.foldl (bst cl) (rO o)
 | [],o=>by show rO (o.1,o.2++[aB.mk [] cl])=rO o;unfold rO;simp_all[AM,AN]
 | b::t,o=>by
  have hne:=td t;rw[v7];unfold cm;cases hb:(b==47)with
  | true=>
   have ih:=ajs cl h t (o.1++[o.2++[aB.mk [] cl]],[]);have e:rO (o.1++[o.2++[aB.mk [] cl]],[])=bst cl (rO o) b:=by unfold rO bst;rw[hb,pQ,jI,AM,AN _ _ h];simp[bits]
   rw[e]at ih;rw[<-ih];cases hp:cm t with|nil=>exact absurd hp hne|cons p ps=>rfl
  | false=>
   have ih:=ajs cl h t (o.1,o.2++[aB.mk [b] cl]);have e:rO (o.1,o.2++[aB.mk [b] cl])=bst cl (rO o) b:=by unfold rO bst;rw[hb,AM,AN _ _ h];rfl
   rw[e]at ih;rw[<-ih];cases hp:cm t with|nil=>exact absurd hp hne|cons p ps=>refine ao9 cl ps _ _ ?_;unfold rO;rw[AM,AM,AM,AN _ _ h,AN _ _ h,AN _ _ h];simp
theorem auF(r:aB)(o o':J (J aB)×J aB)(h:rO o=rO o'):rO (wz o r)=rO (oY o' r):=by unfold wz oY;show rO (cond (nY r.aI) o _)=_;cases hc:nY r.aI with|true=>exact h|false=>simp_all[aJ,alJ,ajs]
theorem apa:∀(l:J aB)(o o':J (J aB)×J aB),rO o=rO o'->rO (l.foldl wz o)=rO (l.foldl oY o')|[],o,o',h=>h|r::l,o,o',h=>apa l _ _ (auF r o o' h)
theorem aqT(l:J aB):(rQ l).map bits=(gJ l).map bits:=by have h:=apa l ([],[]) ([],[]) rfl;have h1:(gj l).1.map bits=(HS l).1.map bits:=congrArg (·.1) h;have h2:bits (gj l).2=bits (HS l).2:=congrArg (·.2) h;unfold rQ gJ;simp_all
theorem aaR(F:Nat)(c t:J aB)(e:bits c=bits t)(c1:Ts c<F)(c2:bV c<F)(c3:Ts c<1000000000)(c4:bV c<=1000000000)(t1:Ts t<F)(t2:bV t<F)(t3:Ts t<1000000000)(t4:bV t<=1000000000):gC F c=gC F t:=by unfold gC wx;rw[Ea F c c1 c2 c3 c4,Ea F t t1 t2 t3 t4,show c.flatMap HN=t.flatMap HN from e]
theorem aqU(hF:100000000<=F)(c t:J aB)(e:bits c=bits t)(c1:Ts c<=10000)(c2:bV c<=10000)(t1:Ts t<=10000)(t2:bV t<=10000):∃x,gC F c=iN ((mj F) t)/\kS F ((mj F) t)=iN (x,(qX F) t):=by obtain⟨p,h1,h2⟩:=Vt F t om om om om;grind[Lj,Option.some.inj,XR,aaR,S8]
theorem aev(F:Nat)(x:J fI)(i:Nat)(hF:Ts x+1000<F)(hx:Ts x<100000)(hc:Pe x)(hi:i<Ts x):
  ∃r:aC×Int×Bool,(r.2.2=hJ->r.1.fKind=4)/\lR F x (i:Int)=iN r:=by
 unfold lR wx;have hw1:aD ((i:Int)+1)=((i+1:Nat):Int):=bW om;rw[hw1,fT,aE,fT,aE,aH,aE,bW om,aH];obtain⟨s0,hs0,hs1,hs2⟩:∃s0:Nat,cond (cond (dZ x (i+1) 33) hJ (dZ x (i+1) 94)) (((i+1+1:Nat):Int)) ((i+1:Nat):Int)=(s0:Int)/\i<s0/\s0<=i+2:=by
  cases (cond (dZ x (i+1) 33) hJ (dZ x (i+1) 94))
  ·exact⟨i+1,rfl,om,om⟩
  ·exact⟨i+2,rfl,om,om⟩
 rw[hs0];refine eH _ (λs=>∃k:Nat,s.1=(k:Int)/\i<k/\k<=Ts x+2/\s.2.2.length=256) (λs=>Ts x+2-s.1.toNat) ?_ F _ ⟨s0,rfl,hs1,om,si⟩ aR;rintro⟨ii,fi,st⟩ ⟨k,h0,hk,hk2,hl⟩ rc hrc;subst h0;by_cases wD:k<Ts x
 ·rw[cq om,fT,aE,aH,aE];have e2:cond (dZ x k 93) (!fi,st) (eQ,st)=((dZ x k 93 && !fi),st):=by cases dZ x k 93<;>rfl
  rw[e2];cases (dZ x k 93 && !fi)with
  | true=>obtain⟨l,h1,h2⟩:=Zh F st om hl;simp_all[aU,cE,aE]
  | false=>obtain⟨r,⟨e,h1,h2,h3,h4⟩,h5⟩:=Vl F x k st om om hc wD hl;rw[aJ,h5];exact hrc _ ⟨e,h1,om,om,h4⟩ (by grind)
 simp_all[cf]
theorem aaS(F:Nat)(l:J aB)(hF:Ts l<F)(qT:bV l+1000<F)(h1:Ts l<1000000000)(h2:bV l<=10000):∃p:J aC,(p.all AV=hJ->p=(l.flatMap qb).map λe=>pb e.fb)/\eR F l=iN p:=by
 unfold eR wx;rw[HQ F l hF om h1 om,aE];have hx:(l.flatMap qb).length<=bV l:=HO _ RH _;have hc:=T3 l;generalize(l.flatMap qb)=x at hx hc;refine eH _ (λs:J aC×Int=>∃k:Nat,s.2=(k:Int)/\k<=Ts x/\s.1.length<=k/\(s.1.all AV=hJ->s.1=(x.take k).map λe=>pb e.fb)) (λs=>Ts x-s.2.toNat) ?_ F _ ⟨0,rfl,om,si,λ_=>by simp⟩ aR;rintro⟨acc,ii⟩ ⟨k,h0,hk,ha,hit⟩ rc hrc;dsimp only at h0 ha hit⊢;subst h0;have Dt:∀(it:aC)(e:Nat),AV it=eQ->k<e->e<=Ts x->∃p:J aC,(p.all AV=hJ->p=x.map λe=>pb e.fb)/\rc (acc++[it],(e:Int))=iN p:=by intro it e h3 h4 h5;refine hrc _ ⟨e,rfl,h5,aR,λhall=>?_⟩ aR;simp_all
 by_cases wD:k<Ts x
 ·rw[cq om]
  have eS:∃p:J aC,(p.all AV=hJ->p=x.map λe=>pb e.fb)/\((fy F x (k:Int) 42).bind λx7=>
    cond x7
    (rq ((eK (Ts acc+Ts ([(aC.mk 3 [] eQ [])]:J aC)<=9223372036854775807))&&(eK ((Ts acc+Ts ([(aC.mk 3 [] eQ [])]:J aC))*56<=140737488355328))) (rc (acc++([(aC.mk 3 [] eQ [])]:J aC),aD ((k:Int)+1))))
    ((fy F x (k:Int) 63).bind λx8=>
    cond x8
    (rq ((eK (Ts acc+Ts ([(aC.mk 2 [] eQ [])]:J aC)<=9223372036854775807))&&(eK ((Ts acc+Ts ([(aC.mk 2 [] eQ [])]:J aC))*56<=140737488355328))) (rc (acc++([(aC.mk 2 [] eQ [])]:J aC),aD ((k:Int)+1))))
    (rq ((eK (0<=(k:Int)))&&(eK ((k:Int)<(Ts x:Int)))) (rq ((eK (Ts acc+Ts ([(aC.mk 1 (cx ([(x.getD (eJ (k:Int)) cU).fb]:J Int)) eQ [])]:J aC)<=9223372036854775807))&&(eK ((Ts acc+Ts ([(aC.mk 1 (cx ([(x.getD (eJ (k:Int)) cU).fb]:J Int)) eQ [])]:J aC))*56<=140737488355328))) (rc (acc++([(aC.mk 1 (cx ([(x.getD (eJ (k:Int)) cU).fb]:J Int)) eQ [])]:J aC),aD ((k:Int)+1)))))))=iN p:=by
   rw[fT,aE,fT,aE,dD aR om,dD aR om,bC wD,dD aR om,bW om,cg];cases dZ x k 42 with
   | true=>exact Dt _ _ rfl om om|false=>cases dZ x k 63 with|true=>exact Dt _ _ rfl om om|false=>refine hrc _ ⟨k+1,rfl,om,aR,λhall=>?_⟩ aR;rw[List.all_append,cK]at hall;rw[hit hall.1,lF wD,pQ,gd wD];rfl
  rw[fT,aE];cases dZ x k 91 with
  | false=>exact eS|true=>
   obtain⟨r,h3,h4⟩:=Kw F x k om om hc wD;obtain⟨r',ZE,h4'⟩:=aev F x k om om hc wD;have hrr:r'=r:=pO (h4'.symm.trans h4);subst hrr;rw[aU,h4,aE];cases h5:r'.2.2 with
   | false=>exact eS|true=>obtain⟨g1,e,g2,g3,g4⟩:=h3 h5;rw[aU,dD aR om,g2];obtain⟨p,hp,hq⟩:=Dt r'.1 e (by unfold AV;rw[ZE h5];rfl) g3 g4;rw[hq];exact⟨p,hp,rfl⟩
 grind
def ajt(o:J (J aB)×J aB):Prop:=(∀c∈o.1,∀r∈c,nY r.aI=eQ)/\∀r∈o.2,nY r.aI=eQ
theorem alK(c:Int)(hc:nY c=eQ):∀(ps:J Bs)(o:J (J aB)×J aB),ajt o->ajt (ps.foldl (HR c) o)
 | [],o,h=>h|q::ps,o,h=>alK c hc ps _ ⟨λx hx=>by
   rcases ni.1 hx with hx|hx
   ·exact h.1 x hx
   ·obtain rfl:=qn.1 hx;exact h.2,λr hr=>by
   obtain rfl:=qn.1 hr;exact hc⟩
theorem alL:∀(l:J aB)(o:J (J aB)×J aB),ajt o->ajt (l.foldl oY o)
 | [],o,h=>h|r::l,o,h=>alL l _ (by
  unfold oY;cases hc:nY r.aI
  ·cases hp:cm r.fText with
   | nil=>simp_all[td]|cons p ps=>
    refine alK r.aI hc ps (o.1,o.2++[aB.mk p r.aI]) ⟨h.1,λx hx=>?_⟩;rcases ni.1 hx with hx|hx
    ·exact h.2 x hx
    simp_all
  ·exact h)
theorem asW(l:J aB):∀t∈gJ l,∀r∈t,nY r.aI=eQ:=by
 have h:=alL l ([],[]) ⟨λc hc=>(by cases hc),λr hr=>(by cases hr)⟩;intro t ht;rcases ni.1 ht with ht|ht
 ·exact h.1 t ht
 ·obtain rfl:=qn.1 ht;exact h.2
theorem alM:∀(t:J aB),(∀r∈t,nY r.aI=eQ)->BM ((t.flatMap qb).map λe=>pb e.fb)=gH t
 | [],_=>rfl|r::t,h=>by
  have ih:=alM t λx hx=>h x (by simp[hx]);have hc:=h r si;rw[vZ,pQ];have e:BM ((qb r).map λe=>pb e.fb)=r.fText:=by
   unfold qb;rw[hc,aJ,Av];unfold BM;rw[List.flatMap_map]
   conv=>rhs;rw[<-List.flatMap_singleton' r.fText]
   refine congrArg (λf=>List.flatMap f r.fText) (funext λb=>?_);show cx [(b.toNat:Int)]=[b];simp[cx]
  have e2:∀a b:J aC,BM (a++b)=BM a++BM b:=λa b=>by unfold BM;rw[Mi]
  rw[e2,e,ih];unfold gH;rw[vZ]
theorem aoc(hF:100000000<=F)(t:J aB)(h1:Ts t<=10000)(h2:bV t<=10000)(hcl:∀r∈t,nY r.aI=eQ)(h:(qX F) t=hJ):kS F ((mj F) t)=iN (gH t,hJ):=by
 obtain⟨g1,g2,g3⟩:=Lj hF t h1 h2;obtain⟨b,hb⟩:=Jr F ((mj F) t) om om g2;have hl:=S7 F ((mj F) t) om om g2 hb;obtain⟨x,hx⟩:=XR hF t h1 h2;rw[<-S8 F ((mj F) t) om om g2];rw[hl]at hx;have he:=pO hx;unfold Pk at he;cases ha:(((mj F) t).all AV&&b)with
 | false=>simp_all|true=>
  obtain⟨p,hp1,hp2⟩:=aaS F t om om om om;have Vp:=pO (hp2.symm.trans g1);have h3:BM ((mj F) t)=gH t:=by simp_all[alM]
  simp_all
def CW(F:Nat)(t:J aB):Bool:=!(qX F) t
def Oq(F:Nat)(t:J aB):Bool:=(qX F) t&&gH t==[46,46]
theorem afK(hF:100000000<=F)(r:J aB)(h1:Ts r<=10000)(h2:bV r<=3000):pV F r=iN (eK (Ts ((gJ r).filter (CW F))<=2)||((gJ r).filter (Oq F)).length==0):=by
 have hmap:=aqT r;have hlen:(rQ r).length=Ts (gJ r):=by have:=congrArg Ts hmap;simpa using this
 have hcl:=ab5 r;have amw:∀k,∀hk:k<Ts (gJ r),∃x,gC F ((rQ r).getD k [])=iN ((mj F) (gJ r)[k])/\kS F ((mj F) (gJ r)[k])=iN (x,(qX F) (gJ r)[k])/\((qX F) (gJ r)[k]=hJ->x=gH (gJ r)[k]):=by
  intro k hk;have hk':k<Ts (rQ r):=om;have e:bits (rQ r)[k]=bits (gJ r)[k]:=by have:=congrArg (λL=>L[k]?) hmap;grind
  have c1:=akf r _ (fm hk');have t1:=ace (l:=r) _ (fm hk);have t2:=(ahI (l:=r)).2 _ (fm hk);obtain⟨x,g1,g2⟩:=aqU hF (rQ r)[k] (gJ r)[k] e om om om om;rw[gd hk'];refine⟨x,g1,g2,λhl=>?_⟩;have h3:=aoc hF (gJ r)[k] om om (asW r _ (fm hk)) hl;simp_all
 unfold pV Rv wx;rw[ck om om,aE,hlen];refine cy (λx:Int×Int×Int=>∃k:Nat,x=((Ts (((gJ r).take k).filter (CW F)):Int),(Ts (((gJ r).take k).filter (Oq F)):Int),(k:Int))/\k<=Ts (gJ r)) (λx=>Ts (gJ r)-x.2.2.toNat) ?_ F _ ⟨0,si,om⟩ aR;rintro x ⟨k,rfl,hk⟩;dsimp only;have hw:=aaV (CW F) ((gJ r).take k);have hu:=aaV (Oq F) ((gJ r).take k);rw[zh]at hw hu;by_cases hk:k<Ts (gJ r)
 ·left;obtain⟨x,g1,g2,g3⟩:=amw k hk;refine⟨_,⟨k+1,rfl,om⟩,aR,λrc=>?_⟩;rw[cq om,bC hk,cg,g1,aE,g2,aE,bW om,bW om,bW om,lF hk,U4,U4];cases hl:(qX F) (gJ r)[k]with
  | false=>
   have e1:(CW F) (gJ r)[k]=hJ:=by unfold CW;rw[hl];rfl
   have e2:(Oq F) (gJ r)[k]=eQ:=by unfold Oq;rw[hl];rfl
   simp[e1,e2]
  | true=>
   have hx:=g3 hl;subst hx;have e1:(CW F) (gJ r)[k]=eQ:=by unfold CW;rw[hl];rfl
   have e2:(Oq F) (gJ r)[k]=(gH (gJ r)[k]==[46,46]):=by unfold Oq;rw[hl];rfl
   grind
 ·right;obtain rfl:k=Ts (gJ r):=om;intro rc;rw[cf om,aH,aE,s7];congr 1;grind
variable{cwd:Bs}
theorem aju(hc:gF cwd=hJ)(f:Bs):∃ns,Names ns/\tQ cwd f=pathOf ns:=by
 unfold tQ;cases (f.take 1==[47])with
 | true=>exact⟨[],λc h=>(by cases h),rfl⟩
 | false=>grind[RN]
theorem aqV(hF:100000000<=F){l:J aZ}(hv:VL l)(vo:Ts l<=40)(hc:gF cwd=hJ)(r:J aB)(hb:(eK (Ts ((gJ r).filter (CW F))<=2)||((gJ r).filter (Oq F)).length==0)=hJ)(f:Bs):
  (W l (Pn F) (partsOf (mj F) (qX F) r) (tQ cwd f)).length<=1600:=by
 rw[Mf,fW]at hb;rcases hb with hb|hb
 ·have hf:((partsOf (mj F) (qX F) r).filter λc=>!c.fP).length=Ts ((gJ r).filter (CW F)):=by unfold partsOf;rw[List.filter_map,jh];rfl
  rcases agB (l:=l) (mt:=(Pn F)) (partsOf (mj F) (qX F) r) (tQ cwd f)with h|h
  ·rw[hf]at h;have hp:=hv.pos;have h2:=aha hp hb;have h3:=Nat.pow_le_pow_left vo 2;omega
  ·have:=hv.pos;omega
 ·obtain⟨ns,hn,e⟩:=aju hc f;rw[e];cases hd:oZ l (pathOf ns)with
  | true=>
   refine lG (aqS hv hn (λc hcm=>?_) (λc hcm hl=>?_) (aac hd)) om
   ·obtain⟨t,ht,rfl⟩:=lI.1 hcm;exact aqQ r t ht
   ·obtain⟨t,ht,rfl⟩:=lI.1 hcm;intro e2
    have hm:t∈(gJ r).filter (Oq F):=Rt.2 ⟨ht,by
     unfold Oq;rw[show(qX F) t=hJ from hl,show gH t=[46,46]from e2];rfl⟩
    simp_all
  | false=>
   have hne:partsOf (mj F) (qX F) r≠[]:=by unfold partsOf gJ;simp
   cases hp:partsOf (mj F) (qX F) r with|nil=>exact absurd hp hne|cons c cs=>simp_all[xy,fq]
def yq(l:J bP):Bs:=cond ((jK l [73,70,83]).2&&(jK l [73,70,83]).1.cL) (jK l [73,70,83]).1.cj [32,9,10]
theorem avO(F:Nat)(l:J bP)(hF:1000<F)(hl:Ts l<=128):((xZ F l ([73,70,83]:Bs)).bind λx3=>(cond x3.2 (iN x3.1.cL) (iN eQ):O Bool).bind λx4=>cond x4 (iN x3.1.cj) (iN ([32,9,10]:Bs)):O Bs)=iN (yq l):=by rw[ajh F _ _ om om];unfold yq;grind
theorem avP(F:Nat)(l:J bP)(hF:1000<F)(hl:Ts l<=128):Kb F l=iN (yq l):=by
 unfold Kb wx;rw[Ab F _ _ om om];unfold yq;have:(jK l [73,70,83]).2=eQ->(jK l [73,70,83]).1.cL=eQ:=by
  unfold jK;cases l.find? λv=>v.fName==[73,70,83]with
  | none=>intro _;rfl|some v=>intro h;cases h
 grind
theorem aod{l:J bP}(h:GV l):(yq l).length<=5000:=by unfold yq;grind[Rx]
def BF(F:Nat)(f:J aB):Prop:=Ts f<=10000/\bV f<=3000/\(eK (Ts ((gJ f).filter (CW F))<=2)||((gJ f).filter (Oq F)).length==0)=hJ
def fdW(F:Nat)(fl:J aZ)(e:eP)(f:J aB):J Bs:=cond (ny .i64 e.iw 8 != 0) [gH f] (Ph fl (Pn F) (mj F) (qX F) e.uV f)
def gM(F:Nat)(fl:J aZ)(s:aO)(r:J aB):J Bs:=(mW r (yq s.b9.b8)).flatMap (fdW F fl s.b9)
theorem asX(hF:100000000<=F)(hv:VL fl)(vo:Ts fl<=40)(hc:gF cwd=hJ){f:J aB}(hb:BF F f):pz F fl cwd f=iN (Ph fl (Pn F) (mj F) (qX F) cwd f,0)/\(Ph fl (Pn F) (mj F) (qX F) cwd f).length<=1600:=by have hWs:=aqV hF hv vo hc f hb.2.2 (tS f);refine⟨ahQ hF hv hc hb.1 hb.2.1 om,?_⟩;unfold Ph;cases ((gJ f).all (qX F)||(W fl (Pn F) (partsOf (mj F) (qX F) f) (tQ cwd (tS f))).isEmpty)with|true=>simp|false=>rw[aJ,(uW _).length_eq,jh];exact hWs
def WO(F:Nat)(fl:J aZ)(r:J aB)(s:aO)(z:J Bs×Bool×aP):Prop:=(stop s=hJ/\z.2.1=eQ/\Fin z.2.2 s)\/(stop s=eQ/\((z.2=(hJ,iL fl s)/\z.1=gM F fl s r/\z.1.length<=7000000)\/(z.2=(eQ,{iL fl s with xU:=4})/\512<Ts (gM F fl s r))))
theorem auG(hN:NC<=F)(hF:100000000<=F)(hv:VL fl)(vo:Ts fl<=40)(w:eM)(hw:eO w.fParts<=200)(h:lW s)(hs:stop s=eQ)(hc:gF s.b9.uV=hJ):
  ∃y:J aB×aO,dM F w.fParts (cO.mk eQ eQ hJ) s=iN y/\lW y.2/\gF y.2.b9.uV=hJ/\RB (eO w.fParts) y.1/\((stop y.2=eQ->∀f∈mW y.1 (yq y.2.b9.b8),BF F f)->aA (WO F fl y.1 y.2) (nK F w (iL fl s))):=by
 obtain⟨⟨r1,ok1,x1⟩,⟨r',s'⟩,⟨g1,g2,g3⟩,e1,e2⟩:=ao3 (fl:=fl) hN hF (agw _ hF) F F w.fParts (dz.mk eQ hJ 0) (cO.mk eQ eQ hJ) s ⟨rfl,rfl⟩ h hs om om om;have hi:IV {s.b9 with b8:=[]} s':=(alE F).1 _ _ _ rfl _ e2;have tA:gF s'.b9.uV=hJ:=by have q:=congrArg eP.uV (show({s'.b9 with b8:=[]}:eP)={s.b9 with b8:=[]}from hi);simp_all
 refine⟨(r',s'),e2,g1,tA,g2,λhB=>?_⟩;unfold nK wx;rw[show Bj F w.fParts (dz.mk eQ hJ 0) (iL fl s)=iN (r1,ok1,x1)from e1,aE];dsimp only at g1 g2 g3 hB⊢;rcases g3 with⟨st,a1,j1⟩|⟨st,a1,a2,-⟩
 ·cases a1;have q1:r1=r':=j1.2 λ_=>rfl;subst q1;have hvl:Ts s'.b9.b8<=128:=g1.1.1.1.1;have b1:=g2.1;have b2:=g2.2;have hx:(iL fl s').b9=s'.b9:=rfl;have hxf:(iL fl s').WX=fl:=rfl;simp only[hx,hxf];rw[ia,aJ,avO F _ om hvl,aE,aqG F r1 _ hF om om,aE];obtain⟨f1,f2⟩:=Xn r1 (yq s'.b9.b8) om om;have Lu:=hB st;have hfw:gM F fl s' r1=(mW r1 (yq s'.b9.b8)).flatMap (fdW F fl s'.b9):=rfl;unfold WO;rw[hfw];generalize mW r1 (yq s'.b9.b8)=fs at f1 f2 Lu;have hT:∀k (hk:k<Ts fs),sN F fs[k]=iN (gH fs[k]):=λk hk=>by grind[List.getElem_mem,T5]
  refine aA.lp (λa:Int=>∃k:Nat,a=(k:Int)/\k<=Ts fs) (λa=>Ts fs-a.toNat) ⟨0,rfl,Nat.zero_le _⟩ (by grind) ?_;rintro _ ⟨k,rfl,hk⟩ rc hrc;by_cases hk:k<Ts fs
  ·have hb:=(Lu _ (fm hk)).2.1;rw[cq om,bC hk,cg,gd hk,hT k hk,aE,cf (by rw[vP];omega),bW om];exact hrc _ ⟨k+1,rfl,hk⟩ aR
  ·rw[cf om];refine aA.lp (λa:J Bs×Int=>∃k:Nat,a.2=(k:Int)/\k<=Ts fs/\a.1=(fs.take k).flatMap (fdW F fl s'.b9)/\a.1.length<=512+k) (λa=>Ts fs-a.2.toNat) ⟨0,rfl,Nat.zero_le _,rfl,si⟩ (by grind) ?_;rintro⟨o,_⟩ ⟨k,rfl,hk,ho,hl⟩ rc hrc;dsimp only at ho hl hrc⊢;by_cases hk:k<Ts fs
   ·have hn:(fs.take (k+1)).flatMap (fdW F fl s'.b9)=o++fdW F fl s'.b9 fs[k]:=by simp_all[Bb]
    have hle:((fs.take (k+1)).flatMap (fdW F fl s'.b9)).length<=Ts (fs.flatMap (fdW F fl s'.b9)):=by grind[List.take_append_drop,List.length_append]
    rw[cq om,bC hk,cg,gd hk,bW om];have S3:fdW F fl s'.b9 fs[k]=cond (ny .i64 s'.b9.iw 8 != 0) [gH fs[k]] (Ph fl (Pn F) (mj F) (qX F) s'.b9.uV fs[k]):=rfl;rw[S3]at hn;cases hg:(ny .i64 s'.b9.iw 8 != 0)with
    | true=>rw[hg,aU]at hn;rw[aU,hT k hk,aE];exact aA.rq (oV (by grind) de) (hrc _ ⟨k+1,rfl,hk,hn.symm,aR⟩ aR)|false=>rw[hg,aJ]at hn;obtain⟨x1,x2⟩:=asX hF hv vo tA (Lu _ (fm hk));rw[aJ,x1,aE];dsimp only;rw[show((0:Int) != 0)=eQ from rfl,aJ];refine aA.rq (oV om de) (aA.cd (λaoe=>aA.ok (.inr ⟨st,.inr ⟨rfl,?_⟩⟩)) λaoe=>hrc _ ⟨k+1,rfl,hk,hn.symm,by dsimp only;omega⟩ aR);grind
   ·rw[cf om];grind[aA.ok,List.take_of_length_le]
 ·have a1:ok1=eQ:=a1;subst a1;exact aA.ok (.inl ⟨st,rfl,a2⟩)
def CX(s:aO)(e:Int):aO:={s with fe:=e,fJ:=[]}
def gE(F:Nat)(fl:J aZ):J eM->J Bs->aO->J Bs×aO|[],o,s=>(o,s)|w::l,o,s=>(dM F w.fParts (cO.mk eQ eQ hJ) s).elim ([],CX s 4) λy=>cond (stop y.2) ([],y.2) (cond (eK (512<Ts (o++gM F fl y.2 y.1))) ([],CX y.2 4) (gE F fl l (o++gM F fl y.2 y.1) y.2))
def BW(F:Nat):J eM->aO->Prop|[],_=>True|w::l,s=>∀y,dM F w.fParts (cO.mk eQ eQ hJ) s=iN y->stop y.2=eQ->(∀f∈mW y.1 (yq y.2.b9.b8),BF F f)/\BW F l y.2
def BX(F:Nat)(fl:J aZ):J eM->J Bs->aO->Prop|[],_,_=>True|w::l,o,s=>∀y,dM F w.fParts (cO.mk eQ eQ hJ) s=iN y->stop y.2=eQ->(∀f∈mW y.1 (yq y.2.b9.b8),BF F f)/\(¬ 512<Ts (o++gM F fl y.2 y.1)->BX F fl l (o++gM F fl y.2 y.1) y.2)
theorem abG:∀(l:J eM)(o:J Bs)(s:aO),BW F l s->BX F fl l o s|[],_,_,_=>trivial|w::l,o,s,h=>λy hy hs=>⟨(h y hy hs).1,λ_=>abG l _ _ (h y hy hs).2⟩
def WS(F:Nat)(fl:J aZ)(l:J eM)(o:J Bs)(s:aO):Prop:=lW s/\stop s=eQ/\gF s.b9.uV=hJ/\BX F fl l o s
theorem UN(h:lW s)(hs:stop s=eQ):lW (CX s 4)/\stop (CX s 4)=hJ/\Fin {iL fl s with xU:=4} (CX s 4):=by obtain⟨f1,f2⟩:=failed (e:=4) hs de;have f3:=ND h 4 [];rw[hs]at f1 f2 f3;exact⟨f3,f1,f2⟩
theorem alN(hN:NC<=F)(hF:100000000<=F)(hv:VL fl)(vo:Ts fl<=40){w:eM}(hw:eO w.fParts<=200){l:J eM}{o:J Bs}(h:WS F fl (w::l) o s):
  ∃y:J aB×aO,dM F w.fParts (cO.mk eQ eQ hJ) s=iN y/\lW y.2/\(stop y.2=eQ->¬ 512<Ts (o++gM F fl y.2 y.1)->WS F fl l (o++gM F fl y.2 y.1) y.2)/\RB (eO w.fParts) y.1/\aA (WO F fl y.1 y.2) (nK F w (iL fl s)):=by
 obtain⟨h1,h2,h3,h4⟩:=h;obtain⟨y,e1,e2,e3,e4,e5⟩:=auG hN hF hv vo w hw h1 h2 h3;exact⟨y,e1,e2,λhs h5=>⟨e2,hs,e3,(h4 y e1 hs).2 h5⟩,e4,e5 λhs=>(h4 y e1 hs).1⟩
theorem aad{w:eM}{l:J eM}{o:J Bs}{y:J aB×aO}(h:dM F w.fParts (cO.mk eQ eQ hJ) s=iN y):
  gE F fl (w::l) o s=cond (stop y.2) ([],y.2) (cond (eK (512<Ts (o++gM F fl y.2 y.1))) ([],CX y.2 4) (gE F fl l (o++gM F fl y.2 y.1) y.2)):=by
 rw[gE,h];rfl
theorem aew(hN:NC<=F)(hF:100000000<=F)(hv:VL fl)(vo:Ts fl<=40){a:J fh}(l:J eM)(hl:Ts l<=1000)(hw:∀y∈l,eO y.fParts<=200)(h:WS F fl l [] (s0 e a)):
  iB F e fl l a=iN (CV (gE F fl l [] (s0 e a)).2 (gE F fl l [] (s0 e a)).1):=by
 unfold iB CH wx;refine cy (λz:J Bs×Int×aP=>∃(k:Nat)(s:aO),k<=Ts l/\z.2=((k:Int),iL fl s)/\WS F fl (l.drop k) z.1 s/\z.1.length<=512/\gE F fl (l.drop k) z.1 s=gE F fl l [] (s0 e a)) (λz=>Ts l-z.2.1.toNat) ?_ F _ ⟨0,s0 e a,fq _,rfl,h,fq _,rfl⟩ aR;rintro⟨o,_⟩ ⟨k,s,h3,h4,h5,h6,h7⟩;dsimp only at h4 h5 h6 h7⊢;cases h4;by_cases hk:k<Ts l
 ·have hd:=sY hk;rw[hd]at h5 h7;obtain⟨y,e1,e2,e3,-,⟨fd,ok,x⟩,e4,e5⟩:=alN (fl:=fl) hN hF hv vo (hw _ (fm hk)) h5;rw[aad e1]at h7;rcases e4 with⟨st,a1,a2⟩|⟨st,⟨a1,a2,a3⟩|⟨a1,a2⟩⟩
  ·right;intro rc;subst a1;rw[cq om,bC hk,cg,gd hk,e5,aE];rw[aJ,aE,aJ,aE,qm,aU,UM F e2 a2 om [] [] st,aE,<-h7,st];rfl
  ·cases a1;have a2:fd=gM F fl y.2 y.1:=a2;rw[<-a2]at e3;rw[st,aJ,<-a2]at h7;have asY:aD ((Ts o:Int)+(Ts fd:Int))=((Ts o+Ts fd:Nat):Int):=by grind[bL]
   have hlen:(o++fd).length=Ts o+Ts fd:=nX;by_cases aoe:512<Ts o+Ts fd
   ·right;intro rc;rw[dT om,aU]at h7;obtain⟨f1,f2,f3⟩:=UN (fl:=fl) e2 st;rw[cq om,bC hk,cg,gd hk,e5,aE];rw[asY,aU,aE,cq om,aut,aE,aE];rw[qm,aU,UM F f1 f3 om [] [] f2,aE,<-h7]
   ·left;rw[dF om,aJ]at h7;refine⟨(o++fd,((k+1:Nat):Int),iL fl y.2),⟨k+1,y.2,hk,rfl,e3 st om,by grind,h7⟩,aR,λrc=>?_⟩;rw[cq om,bC hk,cg,gd hk,e5,aE];rw[asY,aU,aE,cf om,aE];rw[ia,aJ,dD om de,bW om]
  ·right;intro rc;cases a1;rw[st,cond_false,dT (by grind),cond_true]at h7;obtain⟨f1,f2,f3⟩:=UN (fl:=fl) e2 st;rw[cq om,bC hk,cg,gd hk,e5,aE];dsimp only;rw[aJ,aE,aJ,aE];dsimp only;rw[qm,aU,UM F f1 f3 om [] [] f2,aE,<-h7]
 ·right;intro rc;rw[Mk om]at h7;rw[cf om,asS F fl h5.1 h5.2.1 om,aE,<-h7];rfl
theorem Sn(hN:NC<=F)(hF:100000000<=F)(hv:VL fl)(vo:Ts fl<=40):∀(l:J eM)(o:J Bs)(s:aO),(∀y∈l,eO y.fParts<=200)->WS F fl l o s->Ts o<=512->lW (gE F fl l o s).2/\(gE F fl l o s).1.length<=512/\(stop (gE F fl l o s).2=eQ->gF (gE F fl l o s).2.b9.uV=hJ)
 | [],o,s,hw,h,ho=>⟨h.1,ho,λ_=>h.2.2.1⟩|w::l,o,s,hw,h,ho=>by
  obtain⟨y,e1,e2,e3,-,-⟩:=alN hN hF hv vo (hw _ tJ) h;rw[aad e1];cases st:stop y.2 with
  | true=>simp_all|false=>
   by_cases aoe:512<Ts (o++gM F fl y.2 y.1)
   ·obtain⟨f1,f2,f3⟩:=UN (fl:=fl) e2 st;simp_all
   simp_all[dF,Sn,kV]
theorem aof(F:Nat)(e:eP)(w:J eM)(a:J fh)(hN:NC<=F)(hF:100000000<=F)(hw:Ts w<=100)(hp:∀x∈w,eO x.fParts<=200)(he:Xk e)(hA:zu e.b8)(ha:(∀x∈a,Ts x.fText<=60)/\a.length<=2000):aA (λb=>b=hJ->BW F w (s0 e a)) (Ap F e w a):=by
 unfold Ap KR wx;rw[aE];dsimp only;refine aA.lp (λz:Int×Int×aO=>∃k m:Nat,z.1=(m:Int)/\m<=3000/\z.2.1=(k:Int)/\k<=Ts w/\lW z.2.2/\((stop z.2.2=eQ->BW F (w.drop k) z.2.2)->BW F w (s0 e a))) (λz=>Ts w-z.2.1.toNat) ⟨0,0,rfl,om,rfl,om,asT he hA ha.1 ha.2,λh=>h rfl⟩ (by grind) ?_;rintro⟨_,_,s⟩ ⟨k,m,rfl,hm,rfl,hk,hg,hb⟩ rc hrc;dsimp only at hg hb hrc⊢;rw[nW,aE];by_cases vw:k<Ts w/\stop s=eQ
 ·obtain⟨hk,hs⟩:=vw;rw[cq om,hs,qm,aE,aU,bC hk,cg,gd hk];rw[sY hk]at hb;have hwk:=hp _ (fm hk);refine aA.bd (P:=λy=>dM F w[k].fParts (cO.mk eQ eQ hJ) s=iN y/\RB (eO w[k].fParts) y.1/\lW y.2) ?_ ?_
  ·obtain⟨y,h1,h2⟩:=aqI F w[k].fParts (cO.mk eQ eQ hJ) hN hF om hg hs;exact⟨y,⟨h2,h1.1,h1.2⟩,h2⟩
  ·rintro⟨r,s'⟩ ⟨hr,h2,h3⟩;dsimp only at h2 h3⊢;have b1:=h2.1;have b2:=h2.2;rw[avP F _ om h3.1.1.1.1,aE,aqH F r _ hF om om (aod h3.1.1.1),aE];obtain⟨f1,f2⟩:=Xn r (yq s'.b9.b8) om om;have f3:=afJ r (yq s'.b9.b8);have nP:((∀f∈mW r (yq s'.b9.b8),BF F f)->(stop s'=eQ->BW F (w.drop (k+1)) s')->BW F w (s0 e a)):=λg1 g2=>hb λ_ y hy hst=>by grind
   clear hb;generalize mW r (yq s'.b9.b8)=fs at f1 f2 f3 nP;refine aA.lp (λz:Int×Int=>∃i m:Nat,z.1=(m:Int)/\m<=3000/\z.2=(i:Int)/\i<=Ts fs/\∀f∈fs.take i,BF F f) (λz=>Ts fs-z.2.toNat) ⟨0,m,rfl,hm,rfl,om,si⟩ (by grind) ?_;rintro⟨_,_⟩ ⟨i,m,rfl,hm,rfl,hi,hB⟩ rc' uO;dsimp only at hB uO⊢;by_cases hi:i<Ts fs
   ·obtain⟨z1,z2⟩:=f2 _ (fm hi);have z3:=f3 _ (fm hi);have hq:aD ((aD ((m:Int)+1))+(Ts (gH fs[i]):Int))=((m+1+bV fs[i]:Nat):Int):=by grind[bW,vP,bL]
    rw[cq om,bC hi,cg,gd hi,aln F _ om om om,aE,bC hi,show(fs[i].flatMap λr=>r.fText)=gH fs[i]from rfl,hq,bW om];by_cases hsz:m+1+bV fs[i]<=3000
    ·have hl:fs[i].length<=10000:=om;rw[afK hF fs[i] hl om,aE];cases hv:(eK (Ts ((gJ fs[i]).filter (CW F))<=2)||((gJ fs[i]).filter (Oq F)).length==0)with
     | false=>grind[aA.ok]|true=>
      rw[ia,aJ,aE,cf om];refine uO _ ⟨i+1,m+1+bV fs[i],rfl,hsz,rfl,hi,λf hf=>?_⟩ aR;rw[lF hi]at hf;rcases ni.1 hf with hf|hf
      ·exact hB f hf
      ·obtain rfl:=qn.1 hf;exact⟨hl,om,hv⟩
    ·obtain⟨b,hb⟩:=alB F fs[i] hF om om;rw[hb,aE];cases b with|false=>grind[aA.ok]|true=>grind[aA.ok]
   ·rw[cf om,bW om];rw[uK om]at hB;exact hrc _ ⟨k+1,m,rfl,hm,rfl,hk,h3,nP hB⟩ aR
 ·have:(cond (eK ((k:Int)<(Ts w:Int))) ((iN (!(stop s)):O Bool)) (iN eQ))=iN eQ:=by grind
  rw[this,aE,aJ];refine aA.ok λ_=>hb λhs=>?_;have:¬ k<Ts w:=λhk=>vw ⟨hk,hs⟩;rw[Mk om];trivial
theorem asZ(F:Nat)(j:wV)(hN:NC<=F)(hF:100000000<=F)(h1:K.ij j.mJ.Dp)(h2:K.ij j.mJ.qq):aA (λr=>r.2=hJ->Rdy j r.1/\BW F r.1 (s0 j.mJ j.kM)) (Ez F j):=by
 unfold Ez wx;obtain⟨b,hb,e1⟩:=asQ F j.mJ om;obtain⟨c,hc,e2⟩:=amh F j.sI om;rw[e1,e2];simp only[aH,aE];refine aA.cb (λ_=>aA.ok λh=>nomatch h) λhx=>?_;simp at hx;have hfit:=hb hx.1.1.1;have hsm:=hc hx.1.2;have hge:=agz hfit h1 h2;refine aA.lp (λi=>∃k:Nat,i=(k:Int)/\k<=Ts j.kM/\∀a∈j.kM.take k,Ts a.fText<=60) (λi=>Ts j.kM-i.toNat) ⟨0,rfl,om,si⟩ (by grind) ?_;rintro _ ⟨k,rfl,k1,k2⟩ rc hrc;refine aA.cd (λh=>?_) λh=>?_
 ·have hk:k<Ts j.kM:=om;rw[ck om om,bH om,cg];refine aA.cd (λ_=>aA.ok λh=>nomatch h) λhv=>hrc _ ⟨k+1,rfl,hk,λv jT=>?_⟩ (by grind);grind[List.take_succ_eq_append_getElem,List.mem_singleton]
 ·have k2:∀a∈j.kM,Ts a.fText<=60:=by grind
  refine aA.bd (aqL F j.Ld om) λr ⟨r1,r2⟩=>?_;rw[ajW F j.sI om hsm];simp[aH];obtain⟨bd,hbw,hbd⟩:=aof F j.mJ r.1 j.kM hN hF om (λx hx=>by have:=r2 x hx;omega) hge hfit.2.2.2.2.2.2.2.2.2 ⟨k2,om⟩;rw[hbd,aE,aH];refine aA.sc (λ_=>λh=>nomatch h) λhy=>λ_=>?_;have hv:iX j.sI=0:=by simp_all
  exact⟨⟨hfit,(ajX _).1 hv,om,⟨om,k2⟩,r1,r2⟩,hbw (by simp_all)⟩
abbrev xt(m:J fh)(s:aO):aO:={s with dw:=s.dw++m}
def bZ{R:Type}(p:R->aO)(u:R->R)(X Y:O R):Prop:=∀a,X=iN a->(p a).fO=hJ\/Y=iN (u a)
variable{p:R -> aO}{u:R -> R}{q:S -> aO}{v:S -> S}{Y:O R}
theorem bZ.ok(a:R):bZ p u (iN a) (iN (u a)):=λ_ e=>by cases e;exact .inr rfl
def bZ.no:bZ p u iF Y:=λ_ e=>nomatch e
theorem bZ.cb{c:Bool}{X X' Y':O R}(h:bZ p u X Y)(h':bZ p u X' Y'):bZ p u (cond c X X') (cond c Y Y'):=by grind
theorem bZ.rq{c:Bool}{X:O R}(h:bZ p u X Y):bZ p u (rq c X) (rq c Y):=by cases c;exact bZ.no;exact h
theorem bZ.bp{x:O S}{g:S->O R}(k:∀a,bZ p u (f a) (g a)):bZ p u (x.bind f) (x.bind g):=λr e=>by obtain⟨a,e1,e2⟩:=U3.1 e;rw[e1];exact k a r e2
theorem bZ.bg{x y:O S}{g:S->O R}(h:bZ q v x y)(k:∀a,bZ p u (f a) (g (v a)))(w:∀a,(q a).fO=hJ->aM (λr=>(p r).fO=hJ) (f a)):bZ p u (x.bind f) (y.bind g):=λr e=>by
 obtain⟨a,e1,e2⟩:=U3.1 e;rcases h a e1 with h|h
 ·exact .inl (w a h r e2)
 ·rw[h];exact k a r e2
theorem bZ.lp{b1 b2:(σ->O R)->σ->O R}(v:σ->σ){s:σ}(hs:∀s rc rc',(∀s',bZ p u (rc s') (rc' (v s')))->bZ p u (b1 rc s) (b2 rc' (v s))):bZ p u (bX b1 F s) (bX b2 F (v s)):=by
 induction F generalizing s with|zero=>exact bZ.no|succ F ih=>simp_all[bX]
theorem bZ.lw{b1 b2:(σ->O R)->σ->O R}(v:σ->σ)(W:σ->Prop){s:σ}(hw:∀s,W s->∀rc,(∀s',W s'->aM (λr=>(p r).fO=hJ) (rc s'))->aM (λr=>(p r).fO=hJ) (b1 rc s))
  (hs:∀s rc rc',(∀s',bZ p u (rc s') (rc' (v s')))->(∀s',W s'->aM (λr=>(p r).fO=hJ) (rc s'))->bZ p u (b1 rc s) (b2 rc' (v s))):bZ p u (bX b1 F s) (bX b2 F (v s)):=by
 induction F generalizing s with|zero=>exact bZ.no|succ F ih=>exact hs s (bX b1 F) (bX b2 F) (λs'=>ih) λs' h=>aM.lp W h hw
abbrev E1{A:Type}(m:J fh)(X Y:O (A×aO)):Prop:=bZ (λa=>a.2) (λa=>(a.1,xt m a.2)) X Y
abbrev E0(m:J fh)(X Y:O aO):Prop:=bZ id (xt m) X Y
variable{m:J fh}
theorem as0(s:aO):stop (xt m s)=stop s:=rfl
theorem ajv(h:s.fO=hJ):stop s=hJ:=by unfold stop;rw[h];simp
theorem alO(e:Int)(t:Bs)(h:s.fO=hJ):aM (λr=>r.fO=hJ) (fR F e t s):=by simp_all[uy,ajv,aM.ok]
theorem aex(n t:Bs)(h:s.fO=hJ):aM (λr=>r.fO=hJ) (eW F n t s):=by simp_all[ajj,ajv,aM.ok]
theorem L9(e:Int)(t:Bs)(s:aO):E0 m (fR F e t s) (fR F e t (xt m s)):=by grind[uy,as0,bZ.ok]
theorem e_assign(n t:Bs)(s:aO):E0 m (eW F n t s) (eW F n t (xt m s)):=by refine bZ.bp λ_=>bZ.cb (bZ.ok _) (bZ.bp λ_=>bZ.cb (bZ.bg (L9 _ _ _) (λ_=>bZ.ok _) λ_ h=>aM.ok h) (bZ.bp λ_=>bZ.ok _))
theorem auH(t:Bs)(s:aO):E1 m (iD F t s) (iD F t (xt m s)):=by
 unfold iD wx;by_cases h:(Ts s.dw:Int)<=s.fused
 ·rw[cq h];exact λ_ e=>by cases e;exact .inl rfl
 ·by_cases h0:0<=s.fused
  ·have hl:s.fused<(Ts (s.dw++m):Int):=by grind
   have hg:(s.dw++m).getD (eJ s.fused) xh=s.dw.getD (eJ s.fused) xh:=by simp_all
   have e1:∀x:O (Bs×aO),rq ((eK (0<=s.fused))&&(eK (s.fused<(Ts (s.dw++m):Int)))) x=x:=λx=>ck h0 hl;show bZ _ _ (cond (eK ((Ts s.dw:Int)<=s.fused)) _ _) (cond (eK ((Ts (s.dw++m):Int)<=s.fused)) _ _);rw[cf h,cf om];rw[ck h0 om,e1];simp only[hg];exact bZ.lp id λ_ rc rc' h=>bZ.bp λ_=>bZ.cb (h _) (bZ.rq (bZ.ok _))
  ·rw[cf h,show(eK (0<=s.fused))=eQ from dF h0];exact bZ.no
def XJ(F:Nat)(m:J fh)(n:Nat):Prop:=(∀l p s,E1 m ((aF F n).1 l p s) ((aF F n).1 l p (xt m s)))/\(∀x p s,E1 m ((aF F n).2.1 x p s) ((aF F n).2.1 x p (xt m s)))/\(∀l s,E1 m ((aF F n).2.2.1 l s) ((aF F n).2.2.1 l (xt m s))) /\
 (∀l b s,E1 m ((aF F n).2.2.2.1 l b s) ((aF F n).2.2.2.1 l b (xt m s)))/\(∀x p s,E1 m ((aF F n).2.2.2.2.1 x p s) ((aF F n).2.2.2.2.1 x p (xt m s)))/\(∀x p s,E0 m ((aF F n).2.2.2.2.2 x p s) ((aF F n).2.2.2.2.2 x p (xt m s)))
theorem alP:∀n,XJ F m n
 | 0=>⟨λ_ _ _=>bZ.no,λ_ _ _=>bZ.no,λ_ _=>bZ.no,λ_ _ _=>bZ.no,λ_ _ _=>bZ.no,λ_ _ _=>bZ.no⟩|n+1=>by
  obtain⟨h1,h2,h3,h4,h5,h6⟩:=alP n;refine⟨λl p s=>?_,λx p s=>?_,λl s=>?_,λl b s=>?_,λx p s=>?_,λx p s=>?_⟩
  ·show E1 m (iE F (aF F n) l p s) (iE F (aF F n) l p (xt m s));unfold iE wx;refine bZ.lw (λz=>(z.1,z.2.1,xt m z.2.2)) (λz=>z.2.2.fO=hJ) (s:=(([]:J aB),(0:Int),s)) (λz hz rc _=>?_) λz rc rc' h hr=>?_
   ·simp_all[nW,ajv,aM.ok]
   ·dsimp only;exact bZ.bp λc=>bZ.cb (bZ.rq (bZ.bg (h2 _ _ _) (λa=>bZ.rq (h _)) λa ha=>aM.rq (hr _ ha))) (bZ.ok _)
  ·show E1 m (gY F (aF F n) x p s) (gY F (aF F n) x p (xt m s));unfold gY wx;refine bZ.cb (bZ.bp λ_=>bZ.ok _) (bZ.cb (bZ.ok _) (bZ.cb (bZ.bg (h1 _ _ _) (λa=>?_) λa ha=>?_) (bZ.cb (bZ.bp λ_=>bZ.cb (bZ.ok _) (bZ.ok _)) (bZ.cb (bZ.bg (auH _ _) (λa=>bZ.bp λ_=>bZ.ok _) λa ha=>aM.bd λ_=>aM.ok ha) (bZ.cb (bZ.bg (h3 _ _) (λa=>bZ.bp λ_=>bZ.ok _) λa ha=>aM.bd λ_=>aM.ok ha) (bZ.cb (bZ.bg (h5 _ _ _) (λa=>bZ.ok _) λa ha=>aM.ok ha) (bZ.ok _)))))))
   ·exact bZ.lp id λ_ rc rc' h=>bZ.cb (bZ.rq (bZ.bp λ_=>bZ.cb (bZ.ok _) (h _))) (bZ.cb (bZ.ok _) (bZ.ok _))
   ·exact aM.lT λ_ rc h=>aM.cb (aM.rq (aM.bd λ_=>aM.cb (aM.ok ha) (h _))) (aM.cb (aM.ok ha) (aM.ok ha))
  ·show E1 m (gw F (aF F n) l s) (gw F (aF F n) l (xt m s));unfold gw wx;refine bZ.bg (h4 _ _ _) (λa=>?_) λa ha=>?_
   ·dsimp only;rw[nW,nW,as0];refine bZ.bp λ_=>bZ.cb (bZ.ok _) (bZ.lp id λz rc rc' h=>bZ.cb (bZ.rq (bZ.cb (bZ.rq (h _)) (h _))) (bZ.bp λy=>bZ.cb (bZ.rq (bZ.bp λ_=>bZ.rq (bZ.bg (L9 _ _ _) (λ_=>bZ.ok _) λ_ ha=>aM.ok ha))) ?_));exact bZ.lw (λz=>(z.1,xt m z.2)) (λz=>z.2.fO=hJ) (s:=((0:Int),a.2)) (λz hz rc hr=>aM.cb (aM.rq (aM.rq (aM.bd λ_=>aM.cb (aM.rq (aM.rq (aM.bb (aex _ _ hz) λ_ h=>hr _ h))) (hr _ hz)))) (aM.bd λ_=>aM.ok hz)) λz rc rc' h hr=>bZ.cb (bZ.rq (bZ.rq (bZ.bp λ_=>bZ.cb (bZ.rq (bZ.rq (bZ.bg (e_assign _ _ _) (λ_=>h _) λb hb=>hr _ hb))) (h _)))) (bZ.bp λ_=>bZ.ok _)
   simp_all[nW,ajv,aE,aM.ok]
  ·show E1 m (jt F (aF F n) l b s) (jt F (aF F n) l b (xt m s));unfold jt wx;exact bZ.bg (h1 _ _ _) (λa=>bZ.bp λ_=>bZ.cb (bZ.bg (L9 _ _ _) (λ_=>bZ.ok _) λ_ ha=>aM.ok ha) (bZ.ok _)) λa ha=>aM.bd λ_=>aM.cb (aM.bb (alO _ _ ha) λ_ h=>aM.ok h) (aM.ok ha)
  ·show E1 m (gy F (aF F n) x p s) (gy F (aF F n) x p (xt m s));unfold gy wx;refine bZ.bp λ_=>bZ.bp λ_=>bZ.bp λ_=>bZ.bp λ_=>bZ.bp λ_=>bZ.cb (bZ.rq (bZ.bg (L9 _ _ _) (λ_=>bZ.ok _) λ_ ha=>aM.ok ha)) (bZ.bp λ_=>bZ.cb (bZ.bp λ_=>bZ.bp λ_=>bZ.ok _) (bZ.cb (bZ.bp λ_=>bZ.bp λ_=>bZ.ok _) (bZ.bp λ_=>bZ.cb ?_ (bZ.bp λ_=>bZ.cb (bZ.bg (h1 _ _ _) (λ_=>bZ.ok _) λ_ ha=>aM.ok ha) (bZ.cb (bZ.bp λ_=>bZ.ok _) (bZ.cb (bZ.bp λ_=>bZ.cb (bZ.rq (bZ.bg (L9 _ _ _) (λ_=>bZ.ok _) λ_ ha=>aM.ok ha)) ?_) (bZ.cb (bZ.bg (h6 _ _ _) (λ_=>bZ.ok _) λ_ ha=>aM.ok ha) (bZ.bp λ_=>bZ.ok _))))))))
   ·grind[bZ.bg,bZ.bp,bZ.ok,aM.bd,aM.ok]
   grind[bZ.bg,e_assign,bZ.bp,bZ.ok,aM.bd,aM.ok,aM.bb,aex]
  ·show E0 m (gz F (aF F n) x p s) (gz F (aF F n) x p (xt m s));unfold gz wx;refine bZ.bp λ_=>bZ.bg (q:=λa=>a.2) (v:=λa=>(a.1,xt m a.2)) (bZ.cb (bZ.bg (h4 _ _ _) (λ_=>bZ.ok _) λ_ ha=>aM.ok ha) (bZ.ok _)) (λ_=>bZ.rq (bZ.rq (bZ.bg (L9 _ _ _) (λ_=>bZ.ok _) λ_ ha=>aM.ok ha))) λ_ ha=>aM.rq (aM.rq (aM.bb (alO _ _ ha) λ_ h=>aM.ok h))
theorem aog{l:J d6}{p:cO}{y:J aB×aO}(h:dM F l p s=iN y)(hw:y.2.fO=eQ):dM F l p (xt m s)=iN (y.1,xt m y.2):=by
 rcases(alP F).1 l p s y h with h|h
 ·rw[hw]at h;cases h
 ·exact h
theorem apb:∀(l:J eM)(s:aO),BW F l (xt m s)->BW F l s|[],_,_=>trivial|w::l,s,h=>λy hy hs=>by have h1:=h (y.1,xt m y.2) (aog hy (Bl hs).2) hs;simp_all[apb]
mutual
def Xo:d6->Nat|.mk k _ _ _ ps=>cond (k==5) 1 0+jU ps
def jU:J d6->Nat|[]=>0|p::l=>Xo p+jU l
end
theorem UO:∀l m:J d6,jU (l++m)=jU l+jU m|[],m=>by simp[jU]|p::l,m=>by rw[rY,jU,jU,UO l m];omega
theorem aqW{l:J d6}{k:Nat}(h:k<Ts l):jU (l.take (k+1))=jU (l.take k)+Xo (l.getD k kz):=by rw[lF h,UO,gd h];simp[jU]
theorem aqX(x:d6):jU x.fParts<=Xo x/\((x.fKind==5)=hJ->1<=Xo x):=by
 cases x with|mk k t o c ps=>
 refine⟨by show jU ps<=cond (k==5) 1 0+jU ps;omega,λh=>?_⟩;show 1<=cond (k==5) 1 0+jU ps;rw[show(k==5)=hJ from h];simp_all
variable{u0:Nat}{bG:Int}
section
variable {A : J fh}
def CI(A:J fh)(u0:Nat)(bG:Int)(k:Nat)(s:aO):Prop:=s.dw=A/\((s.fJ=[]\/s.fe≠0)/\(s.fO=hJ->s.fe=0))/\∃u:Nat,s.fused=(u:Int)/\u0<=u/\u<=Ts A/\u+cond s.fO 1 0<=u0+k/\(s.fO=hJ->u=Ts A)/\(u=u0->s.lq=bG)
theorem CI.mono{k j:Nat}(h:CI A u0 bG k s)(hj:k<=j):CI A u0 bG j s:=by obtain⟨h1,hm,u,h2,h3,h4,h5,h6,h7⟩:=h;exact⟨h1,hm,u,h2,h3,h4,om,h6,h7⟩
theorem Hy{k:Nat}(e:Int)(t:Bs)(he:e≠0\/t=[])(h:CI A u0 bG k s):aM (CI A u0 bG k) (fR F e t s):=by
 rw[uy];cases hs:stop s with
 | true=>exact aM.ok h|false=>obtain⟨h1,hm,h2⟩:=h;refine aM.ok ⟨h1,⟨?_,λhw=>by simp_all[Bl]⟩,h2⟩;grind
theorem aae{k:Nat}(n t:Bs)(h:CI A u0 bG k s):aM (CI A u0 bG k) (eW F n t s):=by exact aM.bd λ_=>aM.cb (aM.ok h) (aM.bd λ_=>aM.cb (aM.bb (Hy _ _ (.inr rfl) h) λ_ h=>aM.ok h) (aM.bd λ_=>aM.ok h))
theorem as1(hA:Ts A<=2000){k:Nat}(t:Bs)(hf:s.fe=0)(h:CI A u0 bG k s):aM (λz=>CI A u0 bG (k+1) z.2) (iD F t s):=by
 obtain⟨h1,hm,u,h2,h3,h4,h5,h6,h7⟩:=h;unfold iD wx;by_cases hu:u<Ts A
 ·have hw:s.fO=eQ:=by grind
  rw[h2,h1,cf om,ck om om];refine aM.lT λ_ rc hrc=>aM.bd λ_=>aM.cb (hrc _) (aM.rq (aM.ok ⟨rfl,hm,u+1,bW om,om,om,?_,λh=>?_,λh=>om⟩))
  ·grind
  simp_all
 ·rw[h2,h1,cq om];refine aM.ok ⟨rfl,⟨hm.1,λ_=>hf⟩,u,rfl,h3,h4,?_,λ_=>om,h7⟩;grind
theorem aM.c2{Q:R->Prop}{x y:O R}{c:Bool}(a:c=hJ->aM Q x)(b:c=eQ->aM Q y):aM Q (cond c x y):=by grind
def CJ(A:J fh)(u0:Nat)(bG:Int)(F n:Nat):Prop:=(∀k l p s,eO l<=100000->CI A u0 bG k s->aM (λz=>CI A u0 bG (k+jU l) z.2) ((aF F n).1 l p s))/\(∀k x p s,wP x<=100000->stop s=eQ->CI A u0 bG k s->aM (λz=>CI A u0 bG (k+Xo x) z.2) ((aF F n).2.1 x p s))/\(∀k l s,eO l<=100000->CI A u0 bG k s->aM (λz=>CI A u0 bG (k+jU l) z.2) ((aF F n).2.2.1 l s)) /\
 (∀k l b s,eO l<=100000->CI A u0 bG k s->aM (λz=>CI A u0 bG (k+jU l) z.2) ((aF F n).2.2.2.1 l b s))/\(∀k (x:d6) p s,eO x.fParts<=100000->CI A u0 bG k s->aM (λz=>CI A u0 bG (k+jU x.fParts) z.2) ((aF F n).2.2.2.2.1 x p s))/\(∀k (x:d6) p s,eO x.fParts<=100000->CI A u0 bG k s->aM (CI A u0 bG (k+jU x.fParts)) ((aF F n).2.2.2.2.2 x p s))
theorem alQ(hA:Ts A<=2000):∀n,CJ A u0 bG F n
 | 0=>⟨λ_ _ _ _ _ _=>aM.no,λ_ _ _ _ _ _ _=>aM.no,λ_ _ _ _ _=>aM.no,λ_ _ _ _ _ _=>aM.no,λ_ _ _ _ _ _=>aM.no,λ_ _ _ _ _ _=>aM.no⟩|n+1=>by
  obtain⟨h1,h2,h3,h4,h5,h6⟩:=alQ hA n;refine⟨λk l p s hl h=>?_,λk x p s hl hs h=>?_,λk l s hl h=>?_,λk l b s hl h=>?_,λk x p s hl h=>?_,λk x p s hl h=>?_⟩
  ·show aM _ (iE F (aF F n) l p s);unfold iE wx;have hlen:=Di l;refine aM.lp (λz:J aB×Int×aO=>∃i:Nat,z.2.1=(i:Int)/\i<=Ts l/\CI A u0 bG (k+jU (l.take i)) z.2.2) ⟨0,rfl,fq _,h⟩ ?_;rintro⟨o,_,t⟩ ⟨i,rfl,hi,hc⟩ rc hrc;dsimp only at hc hrc⊢;refine aM.bb (P:=λb=>b=hJ->i<Ts l/\stop t=eQ) (aM.c2 (λh=>aM.bb (P:=λb=>b=stop t) (by simp_all[nW,aM.ok]) λb hb=>aM.ok λhn=>⟨?_,by simp_all⟩) λ_=>aM.ok λh=>nomatch h) λb hb=>aM.c2 (λh=>?_) λ_=>?_
   ·simp_all
   ·obtain⟨hi,hst⟩:=hb h;rw[bC hi,cg];have hm:=Rw hi;refine aM.bb (h2 (k+jU (l.take i)) _ _ _ om hst hc) λy hy=>aM.rq (hrc _ ⟨i+1,bW om,hi,?_⟩);simp_all[aqW,OT]
   grind[UO,List.take_append_drop,aM.ok,CI.mono]
  ·show aM _ (gY F (aF F n) x p s);unfold gY wx;obtain⟨c1,c2⟩:=aqX x;have hk:=EF x;have h':CI A u0 bG (k+Xo x) s:=h.mono om;refine aM.cb (aM.bd λ_=>aM.ok h') (aM.cb (aM.ok h') (aM.cb (aM.bb (h1 k _ _ _ om h) λy hy=>?_) (aM.cb (aM.bd λ_=>aM.cb (aM.ok h') (aM.ok h')) (aM.c2 (λh5=>aM.bb (as1 hA _ (Bl hs).1 h) λy hy=>aM.bd λ_=>aM.ok (CI.mono hy (by have:=c2 h5;omega))) λ_=>aM.cb (aM.bb (h3 k _ _ om h) λy hy=>aM.bd λ_=>aM.ok (CI.mono hy om)) (aM.cb (aM.bb (h5 k _ _ _ (by show eO x.fParts<=_;omega) h) λy hy=>aM.ok (CI.mono hy (by simp_all))) (aM.ok h'))))));have hy':CI A u0 bG (k+Xo x) y.2:=CI.mono hy om;exact aM.lT λ_ rc hrc=>aM.cb (aM.rq (aM.bd λ_=>aM.cb (aM.ok hy') (hrc _))) (aM.cb (aM.ok hy') (aM.ok hy'))
  ·show aM _ (gw F (aF F n) l s);unfold gw wx;refine aM.bb (h4 k _ _ _ hl h) λy hy=>aM.bd λ_=>aM.cb (aM.ok hy) (aM.lT λ_ rc hrc=>aM.cb (aM.rq (aM.cb (aM.rq (hrc _)) (hrc _))) (aM.bd λ_=>aM.cb (aM.rq (aM.bd λ_=>aM.rq (aM.bb (Hy _ _ (.inl de) hy) λ_ h=>aM.ok h))) ?_));exact aM.lp (λz:Int×aO=>CI A u0 bG (k+jU l) z.2) hy λz hz rc hrc=>aM.cb (aM.rq (aM.rq (aM.bd λ_=>aM.cb (aM.rq (aM.rq (aM.bb (aae _ _ hz) λ_ h=>hrc _ h))) (hrc _ hz)))) (aM.bd λ_=>aM.ok hz)
  ·show aM _ (jt F (aF F n) l b s);unfold jt wx;exact aM.bb (h1 k _ _ _ hl h) λy hy=>aM.bd λ_=>aM.cb (aM.bb (Hy _ _ (.inr rfl) hy) λ_ h=>aM.ok h) (aM.ok hy)
  ·show aM _ (gy F (aF F n) x p s);unfold gy wx;have h':CI A u0 bG (k+jU x.fParts) s:=h.mono om;refine aM.bd λ_=>aM.bd λ_=>aM.bd λ_=>aM.bd λ_=>aM.bd λ_=>aM.cb (aM.rq (aM.bb (Hy _ _ (.inl de) h') λ_ h=>aM.ok h)) (aM.bd λ_=>aM.cb (aM.bd λ_=>aM.bd λ_=>aM.ok h') (aM.cb (aM.bd λ_=>aM.bd λ_=>aM.ok h') (aM.bd λ_=>aM.cb (aM.bb (h1 k _ _ _ hl h) λy hy=>aM.bd λ_=>aM.bd λ_=>aM.bd λ_=>aM.ok hy) (aM.bd λ_=>aM.cb (aM.bb (h1 k _ _ _ hl h) λy hy=>aM.ok hy) (aM.cb (aM.bd λ_=>aM.ok h') (aM.cb (aM.bd λ_=>aM.cb (aM.rq (aM.bb (Hy _ _ (.inl de) h') λ_ h=>aM.ok h)) (aM.bb (h4 k _ _ _ hl h) λy hy=>aM.bb (aae _ _ hy) λ_ h=>aM.bd λ_=>aM.ok h)) (aM.cb (aM.bb (h6 k _ _ _ (by simp_all) h) λy hy=>aM.ok hy) (aM.bd λ_=>aM.ok h'))))))))
  ·show aM _ (gz F (aF F n) x p s);unfold gz wx;refine aM.bd λ_=>aM.bb (P:=λy=>CI A u0 bG (k+jU x.fParts) y.2) (aM.cb (aM.bb (h4 k _ _ _ hl h) λy hy=>aM.ok hy) (aM.ok (h.mono om))) λy hy=>aM.rq (aM.rq (aM.bb (Hy _ _ (.inl de) hy) λ_ h=>aM.ok h))
def aoh(hA:Ts A<=2000){k:Nat}{l:J d6}{p:cO}{y:J aB×aO}(hl:eO l<=100000)(h:CI A u0 bG k s)(e:dM F l p s=iN y):CI A u0 bG (k+jU l) y.2:=(alQ hA F).1 k l p s hl h y e
def Fo:J eM->Nat|[]=>0|w::l=>jU w.fParts+Fo l
theorem Sp(hA:Ts A<=2000):∀(l:J eM)(k:Nat)(o:J Bs)(s:aO),(∀w∈l,eO w.fParts<=100000)->stop s=eQ->CI A u0 bG k s->CI A u0 bG (k+Fo l) (gE F fl l o s).2
 | [],k,o,s,hl,hs,h=>h|w::l,k,o,s,hl,hs,h=>by
  rw[gE];cases e:dM F w.fParts (cO.mk eQ eQ hJ) s with
  | none=>obtain⟨g1,-,g2⟩:=h.mono (show k<=k+Fo (w::l) by omega);exact⟨g1,⟨.inr (show(4:Int)≠0 by decide),λhw=>nomatch hw.symm.trans (Bl hs).2⟩,g2⟩
  | some y=>
   have hy:=aoh hA (hl _ tJ) h e;show CI A u0 bG (k+(jU w.fParts+Fo l)) (cond (stop y.2) (([]:J Bs),y.2) (cond (eK (512<Ts (o++gM F fl y.2 y.1))) ([],CX y.2 4) (gE F fl l (o++gM F fl y.2 y.1) y.2))).2;cases Qw:stop y.2 with
   | true=>exact hy.mono om|false=>
    cases eK (512<Ts (o++gM F fl y.2 y.1))with
    | true=>obtain⟨g1,-,g2⟩:=hy.mono (show k+jU w.fParts<=k+(jU w.fParts+Fo l) by omega);exact⟨g1,⟨.inr (show(4:Int)≠0 by decide),λhw=>nomatch hw.symm.trans (Bl Qw).2⟩,g2⟩
    | false=>have:=Sp hA l (k+jU w.fParts) (o++gM F fl y.2 y.1) y.2 (λx hx=>hl x (kV _ hx)) Qw hy;rwa [OT]at this
end
theorem aey:∀(l1 l2:J eM)(o:J Bs)(s:aO),stop s=eQ->gE F fl (l1++l2) o s=cond (stop (gE F fl l1 o s).2) (gE F fl l1 o s) (gE F fl l2 (gE F fl l1 o s).1 (gE F fl l1 o s).2)
 | [],l2,o,s,h=>by rw[gE,show stop (o,s).2=eQ from h];rfl
 | w::l1,l2,o,s,h=>by
  rw[rY,gE,gE];cases dM F w.fParts (cO.mk eQ eQ hJ) s with
  | none=>rfl|some y=>
   show cond (stop y.2) _ _=cond (stop (cond (stop y.2) _ _:J Bs×aO).2) (cond (stop y.2) _ _) (gE F fl l2 (cond (stop y.2) _ _:J Bs×aO).1 (cond (stop y.2) _ _:J Bs×aO).2);cases st:stop y.2 with
   | true=>simp[st]|false=>cases hd:eK (512<Ts (o++gM F fl y.2 y.1))with|true=>rfl|false=>simp_all[aJ,aey]
theorem agF:∀(l:J eM)(o:J Bs)(s:aO),stop (gE F fl l o s).2=eQ->Ts o<=(gE F fl l o s).1.length
 | [],o,s,_=>eo _|w::l,o,s,h=>by
  rw[gE]at h⊢;cases e:dM F w.fParts (cO.mk eQ eQ hJ) s with
  | none=>rw[e]at h;cases h
  | some y=>
   rw[e]at h;have h:stop (cond (stop y.2) (([]:J Bs),y.2) (cond (eK (512<Ts (o++gM F fl y.2 y.1))) ([],CX y.2 4) (gE F fl l (o++gM F fl y.2 y.1) y.2))).2=eQ:=h;show o.length<=(cond (stop y.2) (([]:J Bs),y.2) (cond (eK (512<Ts (o++gM F fl y.2 y.1))) ([],CX y.2 4) (gE F fl l (o++gM F fl y.2 y.1) y.2))).1.length;cases st:stop y.2 with
   | true=>rw[st]at h;have h:stop y.2=eQ:=h;rw[st]at h;cases h
   | false=>
    rw[st]at h;cases hd:eK (512<Ts (o++gM F fl y.2 y.1))with
    | true=>rw[hd]at h;cases h
    | false=>rw[hd]at h;have:=agF l _ _ h;rw[nX]at this;show o.length<=(gE F fl l (o++gM F fl y.2 y.1) y.2).1.length;omega
theorem Xp(o:J Bs):∀(l:J eM)(p:J Bs)(s:aO),((gE F fl l (o++p) s).2=(gE F fl l p s).2/\(stop (gE F fl l p s).2=eQ->(gE F fl l (o++p) s).1=o++(gE F fl l p s).1)) \/
  ((gE F fl l (o++p) s).2.fe=4/\0<Ts o/\(stop (gE F fl l p s).2=eQ->512<Ts o+(gE F fl l p s).1.length))
 | [],p,s=>.inl ⟨rfl,λ_=>rfl⟩|w::l,p,s=>by
  rw[gE,gE];cases dM F w.fParts (cO.mk eQ eQ hJ) s with
  | none=>exact .inl ⟨rfl,λh=>by cases h⟩
  | some y=>
   have e:(o++p)++gM F fl y.2 y.1=o++(p++gM F fl y.2 y.1):=tI ..;simp only[Option.elim,e];cases st:stop y.2 with
   | true=>exact .inl ⟨rfl,λh=>by have h:stop y.2=eQ:=h;rw[st]at h;cases h⟩
   | false=>
    simp only[aJ];by_cases h1:512<Ts (p++gM F fl y.2 y.1)
    ·rw[dT h1,dT (by rw[nX];omega)];exact .inl ⟨rfl,λh=>by cases h⟩
    ·rw[dF h1,aJ];by_cases h2:512<Ts (o++(p++gM F fl y.2 y.1))
     ·rw[dT h2];rw[nX]at h2;refine .inr ⟨rfl,om,λh=>?_⟩;have:=agF l _ _ h;omega
     ·rw[dF h2];exact Xp o l _ _
theorem aez:∀(l1 l2:J eM)(o:J Bs)(s:aO),BW F (l1++l2) s->BW F l1 s/\(stop (gE F fl l1 o s).2=eQ->BW F l2 (gE F fl l1 o s).2)
 | [],l2,o,s,h=>⟨trivial,λ_=>h⟩|w::l1,l2,o,s,h=>by
  rw[gE];refine⟨λy hy hs=>⟨(h y hy hs).1,(aez l1 l2 [] _ ((h y hy hs).2)).1⟩,?_⟩;cases e:dM F w.fParts (cO.mk eQ eQ hJ) s with
  | none=>intro h;cases h
  | some y=>
   show stop (cond (stop y.2) (([]:J Bs),y.2) (cond (eK (512<Ts (o++gM F fl y.2 y.1))) ([],CX y.2 4) (gE F fl l1 (o++gM F fl y.2 y.1) y.2))).2=eQ->BW F l2 (cond (stop y.2) (([]:J Bs),y.2) (cond (eK (512<Ts (o++gM F fl y.2 y.1))) ([],CX y.2 4) (gE F fl l1 (o++gM F fl y.2 y.1) y.2))).2;cases st:stop y.2 with
   | true=>simp_all|false=>
    by_cases h1:512<Ts (o++gM F fl y.2 y.1)
    ·rw[dT h1];intro h;cases h
    ·rw[dF h1];exact(aez l1 l2 _ _ ((h y e st).2)).2
theorem agG:∀l m:J eM,Fo (l++m)=Fo l+Fo m|[],m=>by simp[Fo]|p::l,m=>by rw[rY,Fo,Fo,agG l m];omega
def ci0(e:eP)(A:J fh):CI A 0 (-1) 0 (s0 e A):=⟨rfl,⟨.inl rfl,λh=>nomatch h⟩,0,rfl,eo _,fq _,eo _,(λh=>nomatch h),λ_=>rfl⟩
theorem auI(h:CI [] 0 (-1) 0 s)(hs:stop s=eQ)(hg:lW s):s=s0 s.b9 []:=by obtain⟨h1,hm,u,h2,h3,h4,h5,h6,h7⟩:=h;obtain⟨g1,g2⟩:=Bl hs;have h8:=hg.2.2 g2;have hu:=Nat.le_zero.1 h4;subst hu;have h9:=h7 rfl;have h10:=hm.1.resolve_right λh=>h g1;obtain⟨e,a,us,st,fe,m,w,n⟩:=s;subst h1 h2 g1 g2 h8 h9 h10;rfl
theorem ajw(hN:NC<=F)(hF:100000000<=F)(hv:VL fl)(vo:Ts fl<=40)(w:J eM)(k:Nat)(hw:∀y∈w,eO y.fParts<=200)(hl:Ts w<=1000)(he:Xk e)(hA:zu e.b8)(hc:gF e.uV=hJ)(h0:Fo w=0)(hb:BW F w (s0 e [])):
  ∃A T:J Bs×aO,iB F e fl (w.take k) []=iN (CV A.2 A.1)/\iB F e fl w []=iN (CV T.2 T.1)/\lW A.2/\lW T.2/\A.1.length<=512/\T.1.length<=512/\A.2.fO=eQ/\T.2.fO=eQ/\(A.2.fe≠0->T.2=A.2) /\
   (A.2.fe=0->∃B:J Bs×aO,iB F A.2.b9 fl (w.drop k) []=iN (CV B.2 B.1)/\lW B.2/\B.1.length<=512/\B.2.fO=eQ/\((T.2=B.2/\(B.2.fe=0->T.1=A.1++B.1))\/(T.2.fe=4/\0<Ts A.1/\(B.2.fe=0->512<Ts A.1+Ts B.1)))):=by
 have hg:=asT (a:=[]) he hA (λ_ h=>nomatch h) (fq _);have hsplit:=Hz k w;have hb':BW F (w.take k++w.drop k) (s0 e []):=by rw[hsplit];exact hb
 obtain⟨b1,b2⟩:=aez (w.take k) (w.drop k) [] (s0 e []) hb';have hcm:Fo (w.take k)=0/\Fo (w.drop k)=0:=by have:=agG (w.take k) (w.drop k);rw[hsplit]at this;omega
 have hw1:∀y∈w.take k,eO y.fParts<=200:=λy hy=>hw y (Mh hy);have xu:∀y∈w.drop k,eO y.fParts<=200:=λy hy=>hw y (agY hy);have s1:WS F fl (w.take k) [] (s0 e []):=⟨hg,rfl,hc,abG _ _ _ b1⟩;have s2:WS F fl w [] (s0 e []):=⟨hg,rfl,hc,abG _ _ _ hb⟩;have e1:=aew hN hF hv vo (w.take k) (by grind) hw1 s1;have e2:=aew hN hF hv vo w hl hw s2;obtain⟨o1,o2,o3⟩:=Sn hN hF hv vo (w.take k) [] _ hw1 s1 (fq _);obtain⟨t1,t2,-⟩:=Sn hN hF hv vo w [] _ hw s2 (fq _);have c1:=Sp (F:=F) (fl:=fl) (A:=[]) si (w.take k) 0 [] _ (λy hy=>by have:=hw1 y hy;omega) rfl (ci0 e []);have c2:=Sp (F:=F) (fl:=fl) (A:=[]) si w 0 [] _ (λy hy=>by have:=hw y hy;omega) rfl (ci0 e []);rw[hcm.1]at c1;rw[h0]at c2;have nw:∀ {s:aO},CI [] 0 (-1) (0+0) s->s.fO=eQ:=λ{s} h=>by obtain⟨h1,hm,u,h2,h3,h4,h5,h6,h7⟩:=h;grind
 have adr:=aey (F:=F) (fl:=fl) (w.take k) (w.drop k) [] (s0 e []) rfl;rw[hsplit]at adr;refine⟨_,_,e1,e2,o1,t1,o2,t2,nw c1,nw c2,λh=>?_,λh=>?_⟩
 ·have hst:stop (gE F fl (w.take k) [] (s0 e [])).2=hJ:=by unfold stop;simp_all
  rw[adr,hst,aU]
 ·have hst:stop (gE F fl (w.take k) [] (s0 e [])).2=eQ:=by unfold stop;rw[nw c1,h];rfl
  rw[adr,hst,aJ];generalize gE F fl (w.take k) [] (s0 e [])=A at o1 o2 o3 c1 hst b2;have hA2:=auI c1 hst o1;have s3:WS F fl (w.drop k) [] (s0 A.2.b9 []):=by rw[<-hA2];exact⟨o1,hst,o3 hst,abG _ _ _ (b2 hst)⟩
  have e3:=aew hN hF hv vo (w.drop k) (by grind) xu s3;obtain⟨r1,r2,-⟩:=Sn hN hF hv vo (w.drop k) [] _ xu s3 (fq _);have c3:=Sp (F:=F) (fl:=fl) (A:=[]) si (w.drop k) 0 [] _ (λy hy=>by have:=xu y hy;omega) rfl (ci0 A.2.b9 []);rw[hcm.2]at c3;refine⟨_,e3,r1,r2,nw c3,?_⟩;have hsh:=Xp (F:=F) (fl:=fl) A.1 (w.drop k) [] A.2;rw[<-hA2]at c3;have hz:(gE F fl (w.drop k) [] A.2).2.fe=0->stop (gE F fl (w.drop k) [] A.2).2=eQ:=λh=>by unfold stop;rw[nw c3,h];rfl
  grind
mutual
def tzP(d:Int):d6->J Bs|.mk k t _ _ ps=>cond (k==d) [t] []++p9 d ps
def p9(d:Int):J d6->J Bs|[]=>[]|p::l=>tzP d p++p9 d l
end
theorem aeA(d:Int):∀l m:J d6,p9 d (l++m)=p9 d l++p9 d m|[],m=>rfl|p::l,m=>by rw[rY,p9,p9,aeA d l m,tI]
mutual
theorem aqY(d:Int):∀p:d6,Ts (tzP d p)<=wP p
 | .mk k t o c ps=>by have:=NK d ps;show(cond (k==d) [t] []++p9 d ps).length<=1+Ts t+eO ps;rw[nX];cases (k==d)<;>simp<;>omega
theorem NK(d:Int):∀l:J d6,Ts (p9 d l)<=eO l
 | []=>eo _|p::l=>by have h1:=aqY d p;have h2:=NK d l;show(tzP d p++p9 d l).length<=wP p+eO l;rw[nX];omega
end
theorem alR(F:Nat)(d:Int)(hF:100000000<=F):∀(n:Nat)(l:J d6),eO l<n->eO l<=1000000->vN F n l d=iN (p9 d l)
 | 0,l,h,_=>absurd h (ag7 _)|n+1,l,h,hl=>by
  have hlen:=Di l;show Oo F (vN F n) l d=_;refine cy (λz:J Bs×Int=>∃k:Nat,z=(p9 d (l.take k),(k:Int))/\k<=Ts l) (λz=>Ts l-z.2.toNat) ?_ F _ ⟨0,rfl,Nat.zero_le _⟩ (by grind);rintro _ ⟨k,rfl,hk⟩;dsimp only;by_cases hk:k<Ts l
  ·left;refine⟨(p9 d (l.take (k+1)),((k+1:Nat):Int)),⟨k+1,rfl,hk⟩,aR,λrc=>?_⟩;have hm:=Rw hk;rw[gd hk]at hm;have hone:=EF l[k];have ih:=alR F d hF n (l[k]).fParts om om;have h1:=NK d (l.take k);have h2:=HI l k;have h3:=NK d (l[k]).fParts;have e:p9 d (l.take (k+1))=p9 d (l.take k)++(cond ((l[k]).fKind==d) [(l[k]).fText] []++p9 d (l[k]).fParts):=by rw[lF hk,aeA];congr 1;show tzP d l[k]++[]=_;rw[TL];cases l[k];rfl
   have hc:(cond ((l[k]).fKind==d) (rq ((eK (0<=(k:Int)))&&(eK ((k:Int)<(Ts l:Int)))) (rq ((eK (Ts (p9 d (l.take k))+Ts ([(l[k]).fText]:J Bs)<=9223372036854775807))&&(eK ((Ts (p9 d (l.take k))+Ts ([(l[k]).fText]:J Bs))*16<=140737488355328))) (iN (p9 d (l.take k)++([(l[k]).fText]:J Bs)))))
     (iN (p9 d (l.take k))):O (J Bs))=iN (p9 d (l.take k)++cond ((l[k]).fKind==d) [(l[k]).fText] []):=by
    cases ((l[k]).fKind==d)with|true=>rw[aU,bC hk,dD aR de];rfl|false=>simp_all
   rw[cq om,bC hk,cg,gd hk,hc,aE,bC hk,ih,aE,bW om,dD (by
    grind) de,e,List.append_assoc]
  grind
mutual
theorem as2:∀p:d6,Ts (tzP 5 p)=Xo p
 | .mk k t o c ps=>by have:=Y1 ps;show(cond (k==5) [t] []++p9 5 ps).length=cond (k==5) 1 0+jU ps;rw[nX,this];cases (k==5)<;>rfl
theorem Y1:∀l:J d6,Ts (p9 5 l)=jU l
 | []=>rfl|p::l=>by have h1:=as2 p;have h2:=Y1 l;show(tzP 5 p++p9 5 l).length=Xo p+jU l;rw[nX,h1,h2]
end
theorem Ra(h:s.fe≠0)(o:J Bs):CV s o=(gT.mk [] asR eQ [] s.fJ 0,s.fe):=by unfold CV;rw[bne_iff_ne.2 h];rfl
theorem Rb(h:s.fe=0)(o:J Bs):CV s o=(gT.mk (cond s.fO [] o) s.b9 s.fO s.yS [] s.lq,0):=by unfold CV;rw[h];rfl
theorem auJ(F:Nat)(hF:100000000<=F)(l:J d6)(h:eO l<=200):∃c,yX F l=iN c/\c.length=jU l:=⟨p9 5 l,by
 unfold yX TD wx
 grind[alR],Y1 l⟩
theorem as3(hN:NC<=F)(hF:100000000<=F)(hv:VL fl)(vo:Ts fl<=40)(w:J eM)(k:Nat)(hw:∀y∈w,eO y.fParts<=200)(hl:Ts w<=1000)(he:Xk e)(hA:zu e.b8)(hc:gF e.uV=hJ)(h0:Fo w=0)(hb:BW F w (s0 e [])):
  ∃a t:gT×Int,iB F e fl (w.take k) []=iN a/\iB F e fl w []=iN t/\(a.2≠0->t.2=a.2/\t.1.rD=a.1.rD) /\
   (a.2=0->Ts a.1.jf<=512/\∃b:gT×Int,iB F a.1.mJ fl (w.drop k) []=iN b/\(b.2≠0->(t.2=b.2/\t.1.rD=b.1.rD)\/(t.2=4/\0<Ts a.1.jf)) /\
    (b.2=0->Ts b.1.jf<=512/\((512<Ts a.1.jf+Ts b.1.jf/\t.2=4)\/(Ts a.1.jf+Ts b.1.jf<=512/\t.2=0/\t.1.jf=a.1.jf++b.1.jf/\t.1.mJ=b.1.mJ/\SX b.1)))):=by
 obtain⟨A,T,e1,e2,g1,g2,l1,l2,n1,n2,h1,h2⟩:=ajw hN hF hv vo w k hw hl he hA hc h0 hb;refine⟨_,_,e1,e2,λh=>?_,λh=>?_⟩
 ·grind[Rb,Ra]
 ·have hz:A.2.fe=0:=aom λhz=>by simp_all[Ra]
  obtain⟨B,e3,g3,l3,n3,h3⟩:=h2 hz;rw[Rb hz];rw[n1];refine⟨l1,_,e3,λh=>?_,λh=>?_⟩
  ·grind[Rb,Ra]
  ·have hy:B.2.fe=0:=aom λhz=>by simp_all[Ra]
   have hs:=aqO g3 (fs:=B.1) om;rw[Rb hy]at hs⊢;rw[n3]at hs⊢;rcases h3 with⟨q1,q2⟩|⟨q1,q2,q3⟩
   ·simp_all[nX,Rb,aJ]
   simp_all[Ra]
theorem avQ(l:J α)(k:Nat):sl l 0 (k:Int)=l.take k:=by unfold sl;simp
theorem avR(l:J α)(k:Nat):sl l (k:Int) (Ts l:Int)=l.drop k:=by unfold sl;simp
theorem aeB:∀l:J eM,(∀y∈l,jU y.fParts=0)->Fo l=0|[],_=>rfl|y::l,h=>by rw[Fo,h y (tJ ..),aeB l λz hz=>h z (kV _ hz)]
theorem expandJoins(j:wV)(cut:Int)(h1:K.ij j.mJ.Dp)(h2:K.ij j.mJ.qq)(hu:0<=cut/\cut<=255):∃F,lJ F j cut=iN hJ:=by
 obtain⟨F,hN,hF⟩:∃F,NC<=F/\100000000<=F:=⟨NC+100000000,om,om⟩;refine⟨F,?_⟩;obtain⟨r,hr,e⟩:=asZ F j hN hF h1 h2;unfold lJ wx
 try simp only[MW]
 rw[e,aE,aqN];cases hb:r.2 with
 | false=>rfl|true=>
  obtain⟨⟨hfit,hv,vo,⟨a1,a2⟩,w1,w2⟩,hbw⟩:=hr hb;have hge:=agz hfit h1 h2;have hA:=hfit.2.2.2.2.2.2.2.2.2;rw[ia,aJ];refine cy (λs:Int=>∃k:Nat,s=(k:Int)/\k<=Ts r.1/\∀y∈r.1.take k,jU y.fParts=0) (λs=>Ts r.1-s.toNat) ?_ F _ ⟨0,rfl,om,si⟩ aR;rintro _ ⟨k,rfl,hk,hz⟩;by_cases hk:k<Ts r.1
  ·have hwk:=w2 _ (fm hk);obtain⟨c,c1,c2⟩:=auJ F hF (r.1[k]).fParts om;by_cases hc0:jU (r.1[k]).fParts=0
   ·left;refine⟨_,⟨k+1,rfl,om,λy hy=>?_⟩,aR,λrc=>?_⟩
    ·grind[List.take_succ_eq_append_getElem,List.mem_singleton]
    ·rw[cq om,bC hk,cg,gd hk,c1,aE,cf om,bW om]
   ·right;intro rc;rw[cq om,bC hk,cg,gd hk,c1,aE,cq om];rfl
  ·right;intro rc;rw[uK om]at hz;have h0:=aeB _ hz;obtain⟨n,hn,hnl⟩:∃n:Nat,Int.tmod (aD cut) (aD ((Ts r.1:Int)+1))=(n:Int)/\n<=Ts r.1:=by obtain⟨c,rfl⟩:∃c:Nat,cut=(c:Int):=⟨cut.toNat,om⟩;refine⟨c%(Ts r.1+1),?_,Nat.lt_succ_iff.1 (US _ om)⟩;grind[aD,bL,bW,Int.tmod_eq_emod_of_nonneg]
   obtain⟨a,t,q1,q2,q3,q4⟩:=as3 (fl:=j.sI) hN hF hv vo r.1 n (λy hy=>by have:=w2 y hy;omega) om hge hA hfit.2.2.2.2.1 h0 (apb (m:=j.kM) r.1 (s0 j.mJ []) hbw);have hq:(!(aD ((Ts r.1:Int)+1)==0))=hJ:=by grind[bW,Bool.not_eq_true',beq_eq_false_iff_ne]
   rw[cf om,cE hq,hn,ck om om,avQ,q1,aE,aE,q2,aE];dsimp only;cases ha:(a.2 != 0)with
   | true=>simp_all|false=>
    obtain⟨l1,b,q5,q6,q7⟩:=q4 (by simpa using ha);rw[aJ,wA om om om,avR,q5,aE,aE];dsimp only;cases SQ:(b.2 != 0)with
    | true=>grind|false=>
     obtain⟨l2,q8⟩:=q7 (by simpa using SQ);rw[aJ,sZ (by omega:¬ 512<(Ts a.1.jf:Int)),aJ,aE,show aD (512-(Ts a.1.jf:Int))=512-(Ts a.1.jf:Int)from bL om];rcases q8 with⟨q9,q10⟩|⟨q9,q10,q11,q12,hs⟩
     ·grind
     ·rw[sZ om,aJ,q10,q11,q12,pN,HB,aU];obtain⟨-,⟨f1,f2,f3⟩,f4,f5⟩:=hs;have hse:Ar F b.1.mJ b.1.mJ=iN hJ:=by unfold Ar wx;rw[f1,f2,f3,asU F _ om om,ao6 F _ om om];simp
      rw[dD aR de,dD om de,ao6 F _ (by grind) (by grind),Option.bind_some,cond_true,hse];rfl
