import Derived.Test.YtjfbblgjjdgjdaaGreatDoorEf
import Derived.Test.YtjfbblgjjdgjdaaGreatDoorTx
open Go.Op renaming bytesLess->pD
open Go.Lib renaming indexByte->lO
open UInt8 renaming ofNat->lL
open Option renaming some->iN,none->iF
open Bool renaming true->hJ,false->eQ
open Decidable renaming decide->eK
open Int renaming toNat->eJ
open Go.IntKind renaming wrap->dO
open Nat renaming blt->dE
open List renaming replicate->aT,length->Ts
set_option linter.all false
namespace Go.Proofs.YtjfbblgjjdgjdaaGreatDoor
open Go.RT
set_option maxRecDepth 100000
def I1{α:Type}(S:α->Prop):Prop:=∀P:α->Nat->Prop,(∀a n m,n<=m->P a n->P a m)->(∀a,S a->∃N,P a N)->∃N,∀a,S a->P a N
theorem aed:∀(k:Nat),I1 (λn=>n<k)
 | 0=>λP hm h=>⟨0,λa ha=>absurd ha (agX _)⟩|k+1=>λP hm h=>by
  obtain⟨N,hN⟩:=aed k P hm λa ha=>h a om;obtain⟨M,hM⟩:=h k om;refine⟨N+M,λa ha=>?_⟩;by_cases e:a=k
  ·grind
  ·exact hm _ N _ om (hN a om)
variable{α:Type}{S:α->Prop}
theorem UH{β:Type}{T:β->Prop}(hS:I1 S)(f:α->β)(hf:∀b,T b->∃a,S a/\f a=b):I1 T:=λP hm h=>by
 obtain⟨N,hN⟩:=hS (λa n=>T (f a)->P (f a) n) (λa n m hnm h1 h2=>hm _ n m hnm (h1 h2)) (λa ha=>by
  by_cases ht:T (f a)
  ·simp_all
  simp_all)
 refine⟨N,λb hb=>?_⟩;grind
theorem aqk:I1 (λ_:UInt8=>True):=UH (aed 256) lL λb _=>⟨b.toNat,b.toNat_lt,si⟩
theorem Ra{α β:Type}{S:α->Prop}{T:β->Prop}(hS:I1 S)(hT:I1 T):I1 (λp:α×β=>S p.1/\T p.2):=λP hm h=>by obtain⟨N,hN⟩:=hS (λa n=>∀b,T b->P (a,b) n) (λa n m hnm h1 b hb=>hm _ n m hnm (h1 b hb)) λa ha=>hT (λb n=>P (a,b) n) (λb n m hnm h1=>hm _ n m hnm h1) λb hb=>h (a,b) ⟨ha,hb⟩;exact⟨N,λp hp=>hN p.1 hp.1 p.2 hp.2⟩
theorem Rb{α:Type}{S:α->Prop}(hS:I1 S):∀(k:Nat),I1 (λl:J α=>Ts l<=k/\∀a∈l,S a)
 | 0=>λP hm h=>by simp_all|k+1=>λP hm h=>by
  obtain⟨M,hM⟩:=h [] ⟨fC _,λ_ h=>nomatch h⟩
  obtain⟨N,hN⟩:=Ra hS (Rb hS k) (λp n=>P (p.1::p.2) n) (λp n m hnm h1=>hm _ n m hnm h1) λp hp=>h _ ⟨by simp_all,λa ha=>by
   grind⟩
  refine⟨N+M,λl hl=>?_⟩;cases l with|nil=>grind|cons a t=>exact hm _ N _ om (hN (a,t) ⟨hl.2 a (sV),by simp_all,λx hx=>hl.2 x (kI _ hx)⟩)
def UI(k:Nat):I1 (λs:Bs=>Ts s<=k):=UH (Rb aqk k) id λs hs=>⟨s,⟨hs,λ_ _=>trivial⟩,rfl⟩
def an0:I1 (λl:J cD=>Ts l<=128/\∀b∈l,Ts b.fName<=60/\b.cg.length<=4096):=Rb (UH (Ra (UI 60) (UI 4096)) (λp=>cD.mk p.1 p.2) λb hb=>⟨(b.fName,b.cg),hb,rfl⟩) 128
end Go.Proofs.YtjfbblgjjdgjdaaGreatDoor
namespace Go.Proofs.YtjfbblgjjdgjdaaGreatDoor.K
open Go.RT
theorem aql{e:d5}(ho:jc e){l:J di}(hl:Ts l<=1000)(hb:Uw l):ic (yO e l).1:=by
 have z:ic 0:=by unfold ic;decide
 unfold yO;cases hv:(iV e 0 != 0)with
 | true=>exact z|false=>
  have jQ:iV e 0=0:=by simpa using hv
  have g:Good e:=⟨JL e 0 jQ,ho,WT e (JL e 0 jQ)⟩;obtain⟨k1,k2⟩:=Qx e g _ _ (Ip hb);grind
theorem an1{I:Env->Prop}(hI:∀m k n,I m->I (jJ dh m k (Lib.itoa n))):∀(e:d5)(m:Env),I m->I (mh e m).2.2:=by
 intro e
 induction e using d5.ind with
 | h op n name kids ih=>
  intro m hm;rw[WR];show I (evB op n name (kids.map mh) m).2.2;have hk:∀(i:Nat)(m:Env),I m->I ((kids.map mh).getD i dK m).2.2:=λi m hm=>by
   by_cases h:i<Ts kids
   ·simp_all
   ·rw[U0,Rp (by simpa using h)];exact hm
  unfold evB KN Qw adQ;grind
theorem alj(e:d5)(l:J di):∀b∈(yO e l).2.1,b.cg≠[]\/b∈l:=by
 have nd:∀u:Nat,Lib.decDigits u≠[]:=λu=>by rw[Lib.decDigits];split<;>simp
 have nn:∀n:Int,Lib.itoa n≠[]:=λn=>by unfold Lib.itoa;grind
 have hI:=an1 (I:=λm=>∀p∈m,p.2≠[]\/di.mk p.1 p.2∈l) (λm k n h p hp=>by
  rcases Ut hp with rfl|hp
  ·exact .inl (nn n)
  ·exact h p hp) e (vg l) (by
  unfold vg;have key:∀(k:J di)(m:Env),(∀b∈k,b∈l)->(∀p∈m,p.2≠[]\/di.mk p.1 p.2∈l)->∀p∈k.foldl (λm b=>jJ dh m b.fName b.cg) m,p.2≠[]\/di.mk p.1 p.2∈l:=by
   intro k
   induction k with
   | nil=>intro m _ h;exact h|cons b k ih=>
    intro m hk h;refine ih _ (λc hc=>hk c (kI _ hc)) λp hp=>?_;rcases Ut hp with rfl|hp
    ·simp_all
    ·exact h p hp
  grind)
 intro b hb;unfold yO at hb;revert hb;cases (iV e 0 != 0)
 ·cases ((mh e (vg l)).2.1 != 0)
  ·intro hb;obtain⟨k,hk,rfl⟩:=(DN _ _).1 hb;rcases Nc (mh e (vg l)).2.2 k ([]:Bs)with⟨p,hp,h1,h2⟩|⟨h1,_⟩
   ·have:=hI p hp;rw[h1,h2]at this;exact this
   ·exact absurd hk h1
  ·intro hb;cases hb
 ·intro hb;cases hb
def Xm(N:Nat)(s:Bs)(b:J di):Prop:=∃r:Int×J di×Int,(ic r.1/\r.2.1.length<=100000/\∀c∈r.2.1,c.cg≠[]\/c∈b)/\∀F,N<=F->Fc F s b=iN r/\CA F s b=iN r
theorem aqm(s:Bs)(b:J di)(hs:Ts s<=4096)(hl:Ts b<=128)(hb:Uw b):∃N,Xm N s b:=by
 obtain⟨x,⟨ho,hn⟩,hp⟩:=afA s hs;have h1:=adT ho om hb hn;have h2:=afy ho om hb hn;obtain⟨N,hN⟩:=hp.and (h1.and h2);refine⟨N,cond (x.2.2 != 0) (0,[],x.2.2) (yO x.1 b),?_,λF hF=>?_⟩
 ·cases (x.2.2 != 0)with
  | true=>exact⟨show ic 0 by unfold ic;decide,fC _,λ_ h=>nomatch h⟩
  | false=>grind[aql,ak4,alj]
 ·unfold Fc CA wx;grind[d5.eta]
theorem aee:∃N,∀(s:Bs)(b:J di),Ts s<=4096->Ts b<=128->Uw b->Xm N s b:=by obtain⟨N,hN⟩:=Ra (UI 4096) an0 (λp n=>Xm n p.1 p.2) (λp n m hnm ⟨r,h1,h2⟩=>⟨r,h1,λF hF=>h2 F om⟩) λp hp=>aqm p.1 p.2 hp.1 hp.2.1 hp.2.2;exact⟨N,λs b h1 h2 h3=>hN (s,b) ⟨h1,h2,h3⟩⟩
noncomputable def NC:Nat:=Classical.choose aee
def YY:∀(s:Bs)(b:J di),Ts s<=4096->Ts b<=128->Uw b->Xm NC s b:=Classical.choose_spec aee
end Go.Proofs.YtjfbblgjjdgjdaaGreatDoor.K
namespace Go.Proofs.YtjfbblgjjdgjdaaGreatDoor
open Go.RT
noncomputable def NC:Nat:=K.NC
abbrev ET(l:J cD):Prop:=∀b,b∈l->Ts b.fName<=60/\b.cg.length<=4096
theorem YY(s:Bs)(b:J cD)(h1:Ts s<=4096)(h2:Ts b<=128)(h3:ET b):∃r:Int×J cD×Int,(K.ic r.1/\r.2.1.length<=100000/\∀c∈r.2.1,c.cg≠[]\/c∈b)/\∀F,NC<=F->Fc F s b=iN r/\CA F s b=iN r:=K.YY s b h1 h2 h3
set_option maxRecDepth 100000
def yp(l:J bP):Prop:=l.Pairwise λa b=>a.fName<b.fName
variable{F:Nat}
theorem UJ(l:J bP)(p:bP->Bool){m:bP->O Bool}(hm:∀v,m v=iN (p v))(hF:Ts l<F)(hl:Ts l<=1000):
  bW (σ:=Int) (λbD x1=>cond (eK (x1<(Ts l:Int))) (rq ((eK (0<=x1))&&(eK (x1<(Ts l:Int)))) ((m (l.getD (eJ x1) eD)).bind λx3=>cond x3 (iN x1) (bD (aE (x1+1))))) (iN (-1))) F 0=iN ((l.findIdx? p).elim (-1) λi=>(i:Int)):=by
 rw[oH l (λi=>(i:Int)) p (λi _=>iN (i:Int)) (iN (-1)) (s:=(0:Int)) hF rfl (λi h rc=>?_) (λrc=>?_)]
 ·rw[TZ _ _ _ eD];cases l.findIdx? p<;>simp
 ·rw[cm om,ck om om,b9,gd h,hm,aD,bH om]
 ·rw[cf om]
theorem UK(p:bP->Bool):∀l:J bP,l.find? p=(l.findIdx? p).map λi=>l.getD i eD
 | []=>rfl|x::l=>by
  rw[OU,aaW,UK p l];cases p x
  ·cases List.findIdx? p l<;>simp
  ·rfl
theorem NF{p:bP->Bool}{l:J bP}{i:Nat}(h:l.findIdx? p=iN i):i<Ts l/\p (l.getD i eD)=hJ:=by grind[List.findIdx?_eq_some_iff_getElem,gd]
theorem aje(F:Nat)(l:J bP)(n:Bs)(hF:Ts l<F)(hl:Ts l<=1000):xY F l n=iN (jH l n):=by
 unfold xY QX jH wx;rw[UJ l (λv=>v.fName==n) (m:=λv=>Ny F v n) (λv=>rfl) hF hl,UK];cases h:l.findIdx? λv=>v.fName==n with
 | none=>rfl|some i=>obtain⟨h1,-⟩:=NF h;simp_all[cm,rq,ck]
theorem Sm(F:Nat)(l:J bP)(i k:Nat)(v:bP)(hi:i+k<=Ts l)(hl:Ts l<=1000):tg F l (i:Int) (k:Int) [v]=iN (l.take i++v::l.drop (i+k)):=by
 unfold tg wx;have e1:aE ((Ts l:Int)+(Ts ([v]:J bP):Int))=((Ts l+1:Nat):Int):=bO aQ;have e2:aE ((i:Int)+(k:Int))=((i+k:Nat):Int):=bO om;have s1:sl l 0 (i:Int)=l.take i:=by simp[sl]
 have s2:sl l ((i+k:Nat):Int) (Ts l:Int)=l.drop (i+k):=by grind[sl,Int.toNat_natCast,List.take_length]
 grind[cy,ck,oQ,K9]
def iZ(l:J bP)(n:Bs):Nat×Bool:=match l.findIdx? λv=>v.fName==n with
 | some i=>(i,hJ)|none=>match l.findIdx? λv=>!(pD v.fName n||v.fName==n)with
  | some i=>(i,eQ)|none=>(Ts l,eQ)
theorem alk(F:Nat)(l:J bP)(n:Bs)(hF:Ts l<F)(hl:Ts l<=1000):CN F l n=iN ((((iZ l n).1:Nat):Int),(iZ l n).2):=by unfold CN KX KY iZ wx;rw[UJ l (λv=>v.fName==n) (m:=λv=>IE F v n) (λv=>rfl) hF hl,UJ l (λv=>!(pD v.fName n||v.fName==n)) (m:=λv=>IG F v n) (λv=>rfl) hF hl];grind
theorem aef(l:J bP)(n:Bs):(iZ l n).1+cond (iZ l n).2 1 0<=Ts l:=by
 unfold iZ;split
 ·rename_i i h;exact(NF h).1
 ·split
  ·rename_i i h;exact Nat.le_of_lt (NF h).1
  ·exact ep _
theorem Z7{l:J bP}{n:Bs}:jH l n=cond (iZ l n).2 (l.getD (iZ l n).1 eD,hJ) (bP.mk [] [] eQ eQ eQ,eQ):=by unfold iZ jH;grind[UK]
theorem Xn{l:J bP}{n:Bs}(h:(iZ l n).2=hJ):(l.getD (iZ l n).1 eD).fName=n:=by unfold iZ at h⊢;grind[NF]
theorem Fl(v:bP):∀(l:J bP),(∀x∈l,¬ x.fName=v.fName)->oh v l hJ=l
 | [],_=>rfl|x::l,h=>by
  have h1:(x.fName==v.fName)=eQ:=by simpa using h x sV
  simp only[oh,h1,Bool.true_or];rw[Fl v l λy hy=>h y (kI _ hy)];rfl
theorem Hy(v:bP):∀ {l:J bP},yp l->oh v l eQ=l.take (iZ l v.fName).1++v::l.drop ((iZ l v.fName).1+cond (iZ l v.fName).2 1 0)
 | [],_=>rfl|x::l,h=>by
  obtain⟨h1,h2⟩:=zh.1 h;rcases WB x.fName v.fName with hx|hx|hx
  ·have b1:=(Mx _ _).2 hx;have b2:(x.fName==v.fName)=eQ:=by simpa using λe:x.fName=v.fName=>nv _ (e▸hx)
   have:=Hy v h2;have e:iZ (x::l) v.fName=((iZ l v.fName).1+1,(iZ l v.fName).2):=by
    unfold iZ;rw[aaW,aaW,b2,b1];cases l.findIdx? λy=>y.fName==v.fName with
    | some i=>simp|none=>cases l.findIdx? λy=>!(pD y.fName v.fName||y.fName==v.fName)<;>simp
   rw[e];simp only[oh,b1,b2];rw[show(eQ || !hJ)=eQ from rfl,this,show(iZ l v.fName).1+1+cond (iZ l v.fName).2 1 0=((iZ l v.fName).1+cond (iZ l v.fName).2 1 0)+1 by omega];rfl
  ·have b1:pD x.fName v.fName=eQ:=(EH _ _).2 (by simp_all);have b2:(x.fName==v.fName)=hJ:=by simpa using hx
   have e:iZ (x::l) v.fName=(0,hJ):=by unfold iZ;grind
   simp only[oh];grind[Fl,nv]
  ·have b1:=(EH _ _).2 λh=>nv _ (sF h hx);have b2:(x.fName==v.fName)=eQ:=by grind
   have hy:∀y∈l,¬ y.fName=v.fName:=λy hy e=>nv v.fName (sF hx (by grind));have e:iZ (x::l) v.fName=(0,eQ):=by unfold iZ;grind
   simp[oh,b2];simp_all[Fl]
theorem UL{v:bP}:∀ {l:J bP},yp l->yp (oh v l eQ)
 | [],_=>by unfold yp;exact agY _ _|x::l,h=>by
  obtain⟨h1,h2⟩:=zh.1 h;rcases WB x.fName v.fName with hx|hx|hx
  ·have b1:=(Mx _ _).2 hx;have b2:(x.fName==v.fName)=eQ:=by simpa using λe:x.fName=v.fName=>nv _ (e▸hx)
   simp[oh,b1,b2];refine zh.2 ⟨λy hy=>?_,UL h2⟩;rcases TT v l _ y hy with rfl|hy
   ·exact hx
   ·exact h1 y hy
  ·have b1:pD x.fName v.fName=eQ:=(EH _ _).2 (by simp_all);have b2:(x.fName==v.fName)=hJ:=by simpa using hx
   simp only[oh,b1,b2];rw[show(eQ || !eQ)=hJ from rfl,Fl v l λy hy e=>nv _ (by have:=h1 y hy;rw[hx,e]at this;exact this)];exact zh.2 ⟨λy hy=>by simp_all,h2⟩
  ·have b1:=(EH _ _).2 λh=>nv _ (sF h hx);have b2:(x.fName==v.fName)=eQ:=by grind
   simp only[oh,b1,b2];rw[show(eQ || !eQ)=hJ from rfl,Fl v l λy hy e=>nv v.fName (sF hx (by grind))];refine zh.2 ⟨λy hy=>?_,h⟩;rcases hU.1 hy with rfl|hy
   ·exact hx
   ·exact sF hx (h1 y hy)
def GA(l:J bP):Prop:=GV l/\yp l
def GA.len{l:J bP}(h:GA l):Ts l<=128:=h.1.1
theorem avB(F:Nat){l:J bP}(h:GA l)(n v:Bs)(hF:1000<F):∃r,GA r.1/\uw F l n v=iN r/\II F l n v=iN r:=by
 have hl:=h.1.1;obtain⟨r0,h0,e0⟩:=atj F h.1 n v hF;refine⟨r0,?_⟩;obtain⟨b,hb,eb⟩:=Gi F n om;unfold uw wx at e0⊢;unfold II;rw[K.Ij F n om,eb];rw[z7 F l n om om]at e0⊢;rw[eb]at e0;cases b with
 | false=>grind|true=>
  have hle:=aef l n;have hgt:=Z7 (l:=l) (n:=n);have hnm:=Xn (l:=l) (n:=n);have hat:=λa (b c d:Bool)=>(RE F l (bP.mk n a b c d) om om).trans (congrArg iN (Hy (bP.mk n a b c d) h.2));have zu:=λa (b c d:Bool)=>Hy (bP.mk n a b c d) h.2▸UL h.2;rw[alk F l n om om];rw[hgt]at e0⊢;dsimp only at hat zu hnm⊢;generalize iZ l n=q at hle hgt hnm hat zu e0⊢;obtain⟨i,b⟩:=q;cases b with
  | false=>
   dsimp at hle hat zu e0⊢;by_cases h4:4096<Ts v
   ·grind
   rw[cf om]at e0⊢;rw[cf om];simp at e0⊢;by_cases h5:128<=Ts l
   ·grind
   rw[cf om]at e0⊢;rw[hat]at e0⊢;cases e0;refine⟨⟨h0,zu _ _ _ _⟩,rfl,?_⟩;rw[cf om,show((0:Int))=((0:Nat):Int)from rfl,Sm F l i 0 _ om om];rfl
  | true=>
   dsimp only[cond_false,cond_true,Option.bind_some]at hle hat zu hnm e0⊢;rw[ck om om,b9];generalize l.getD i eD=o at hnm e0⊢;cases hr:o.mO with|true=>grind|false=>
   rw[hr]at e0;by_cases h4:4096<Ts v
   ·grind
   rw[cf om]at e0⊢;rw[cf om];rw[hat]at e0⊢;cases e0;refine⟨⟨h0,zu _ _ _ _⟩,rfl,?_⟩;rw[ck om om,show((1:Int))=((1:Nat):Int)from rfl,Sm F l i 1 _ om om];simp_all
theorem aum(F:Nat){l:J bP}(h:GA l)(n:Bs)(a b:Bool)(hF:1000<F):∃r,GA r.1/\sC F l n a b=iN r/\Fe F l n a b=iN r:=by
 have hl:=h.1.1;obtain⟨r0,h0,e0⟩:=ard F h.1 n a b hF;refine⟨r0,?_⟩;obtain⟨c,hb,eb⟩:=Gi F n om;unfold sC wx at e0⊢;unfold Fe;rw[K.Ij F n om,eb];rw[eb]at e0;cases c with
 | false=>grind|true=>
  rw[z7 F l n om om]at e0⊢;have hle:=aef l n;have hgt:=Z7 (l:=l) (n:=n);have hnm:=Xn (l:=l) (n:=n);have hat:=λa (b c d:Bool)=>(RE F l (bP.mk n a b c d) om om).trans (congrArg iN (Hy (bP.mk n a b c d) h.2));have zu:=λa (b c d:Bool)=>Hy (bP.mk n a b c d) h.2▸UL h.2;rw[alk F l n om om];rw[hgt]at e0⊢;dsimp only at hat zu hnm⊢;generalize iZ l n=q at hle hgt hnm hat zu e0⊢;obtain⟨i,c⟩:=q;cases c with
  | false=>
   dsimp at hle hat zu e0⊢;simp at e0⊢;by_cases h5:128<=Ts l
   ·grind
   rw[cf om]at e0⊢;rw[hat]at e0⊢;cases e0;refine⟨⟨h0,zu _ _ _ _⟩,rfl,?_⟩;rw[cf om,show((0:Int))=((0:Nat):Int)from rfl,Sm F l i 0 _ om om];rfl
  | true=>dsimp only[cond_false,cond_true,Option.bind_some]at hle hat zu hnm e0⊢;rw[ck om om];simp[aH]at e0⊢;rw[hat]at e0⊢;cases e0;refine⟨⟨h0,zu _ _ _ _⟩,rfl,?_⟩;rw[show((1:Int))=((1:Nat):Int)from rfl,Sm F l i 1 _ om om];simp_all
def rI:Nat->Bs->Nat|a,[]=>a|a,b::l=>rI (10*a+(b.toNat-48)) l
def C9(b:UInt8):Bool:=eK (48<=b.toNat)&&eK (b.toNat<=57)
theorem YZ:∀(l:Bs)(a:Nat),a*10^l.length<=rI a l
 | [],a=>Nat.le_of_eq (Rg a)|b::l,a=>by
  have:=YZ l (10*a+(b.toNat-48));have h2:a*10^(Ts l+1)<=(10*a+(b.toNat-48))*10^l.length:=by rw[Nat.pow_succ,aa3 (10^l.length)];grind
  show a*10^(Ts l+1)<=rI (10*a+(b.toNat-48)) l;grind
theorem aqn(l:Bs)(a:Nat):a<=rI a l:=by have:=YZ l a;have h:=agR a (Nat.pow_pos (n:=Ts l) (by decide:0<10));omega
theorem UM:∀(l m:Bs)(a:Nat),rI a (l++m)=rI (rI a l) m|[],m,a=>rfl|b::l,m,a=>UM l m _
theorem Z8(s:Bs){k:Nat}(h:k<Ts s):rI 0 (s.take (k+1))=10*rI 0 (s.take k)+(s[k].toNat-48):=by rw[kT h,UM];rfl
theorem alm(s:Bs)(k:Nat):rI 0 (s.take k)<=rI 0 s:=by grind[List.take_append_drop,UM,aqn]
def CU(s:Bs):Int×Bool:=if s.all C9=hJ/\rI 0 s<=2147483647 then((rI 0 s:Nat),hJ)else(0,eQ)
theorem aeg{s:Bs}{k:Nat}(h:k<Ts s)(ha:(s.take k).all C9=hJ)(hd:C9 s[k]=hJ):(s.take (k+1)).all C9=hJ:=by grind[List.take_succ_eq_append_getElem]
theorem Y0{s:Bs}{k:Nat}(h:k<Ts s)(hd:C9 s[k]=eQ):CU s=(0,eQ):=by unfold CU;grind
theorem avC(F:Nat)(s:Bs)(hF:Ts s<F)(hl:Ts s<=1000)(h0:s≠[])(h1:s.getD 0 0≠48):rD F s=iN (CU s):=by
 have:aA (λr=>r=CU s) (rD F s):=by
  unfold rD wx;have e1:(s==[48])=eQ:=by grind
  have e2:(s==[])=eQ:=by simpa using h0
  have e3:(((s.getD 0 0).toNat:Int)==48)=eQ:=by have:(s.getD 0 0).toNat≠48:=λh=>h1 (by apply agZ.1;rw[h];rfl);grind
  have:=Bn.2 h0;rw[e1,e2,aJ,aJ,kJ om,e3,aD,aJ];refine aA.lp (λz:Int×Bs×Int=>z.2.1=s/\∃k:Nat,z.2.2=(k:Int)/\k<=Ts s/\(s.take k).all C9=hJ/\z.1=(rI 0 (s.take k):Nat)/\rI 0 (s.take k)<=2147483647) (λz=>Ts s-z.2.2.toNat) ⟨rfl,0,rfl,om,rfl,rfl,fC _⟩ (by simp_all) ?_;rintro⟨x,s',p⟩ ⟨q1,k,q2,h2,h3,q3,h4⟩ rc hrc;have q1:=q1.symm;subst q1 q2 q3;rw[b9];by_cases hk:k<Ts s
  ·have hb:dE k s.length=hJ:=aaV hk;rw[hb,aS,K.akO,aD];have hgd:s.getD k 0=s[k]:=gd hk;by_cases hs:(s.getD k 0).toNat<128
   ·rw[K.AP hs];have hdd:K.gw ((s.getD k 0).toNat:Int)=C9 s[k]:=by unfold K.gw C9;grind
    rw[hdd];cases hd:C9 s[k]with
    | false=>grind[aA.ok,Y0]|true=>
     have hd':=hd;unfold C9 at hd';rw[cL,fV,fV]at hd';have ev:=Z8 s hk;have e5:aE ((aE (10*((rI 0 (s.take k):Nat):Int)))+(aE (dO .i32 (((s.getD k 0).toNat:Int)-48))))=((rI 0 (s.take (k+1)):Nat):Int):=by rw[hgd,show dO .i32 ((s[k].toNat:Int)-48)=(s[k].toNat:Int)-48 from IntWalk.i32_in _ om,bO (x:=(s[k].toNat:Int)-48) om,bO (x:=10*_) om,bO om,ev];omega
     dsimp only;rw[e5];refine aA.cd (λh=>aA.ok ?_) λh=>hrc _ ⟨rfl,k+1,rfl,hk,aeg hk h3 hd,rfl,om⟩ (by grind);have:=alm s (k+1);unfold CU;rw[if_neg om]
   ·have:=K.ZX hs;have:K.gw ((dec s k).1:Int)=eQ:=by unfold K.gw;grind
    rw[this];refine aA.ok (Y0 hk ?_).symm;unfold C9;grind
  ·have hb:dE k s.length=eQ:=by cases h:dE k s.length with|false=>rfl|true=>exact absurd (lS h) hk
   rw[hb,aJ];refine aA.ok ?_;unfold CU;grind
 obtain⟨r,h,e⟩:=this;rw[e,h]
theorem avD(F:Nat)(s:Bs)(hF:Ts s<F)(hl:Ts s<=1000)(h0:s≠[])(h1:s.getD 0 0≠48):nj F s=iN (CU s):=by
 have:aA (λr=>r=CU s) (nj F s):=by
  unfold nj wx;have e2:(s==[])=eQ:=by simpa using h0
  have e3:(((s.getD 0 0).toNat:Int)==48)=eQ:=by have:(s.getD 0 0).toNat≠48:=λh=>h1 (by apply agZ.1;rw[h];rfl);grind
  have hp:=Bn.2 h0;rw[e2,aJ,aD];refine aA.bd (P:=λb=>b=eK (10<Ts s)) (aA.cd (λh=>aA.ok (by grind)) λh=>?_) λb hb=>?_
  ·grind[kJ,aA.ok,decide_eq_false]
  subst hb;refine aA.cd (λh=>aA.ok ?_) λh=>?_
  ·unfold CU;rw[if_neg λhh=>?_];have hall:=pN.1 hh.1;obtain⟨a,l,rfl⟩:∃a l,s=a::l:=by cases s with|nil=>exact absurd rfl h0|cons a l=>exact⟨a,l,rfl⟩
   have ha:=hall a sV;unfold C9 at ha;rw[cL,fV,fV]at ha;have hne:a.toNat≠48:=λh=>h1 (by simp_all);have h5:=YZ l (10*0+(a.toNat-48));have h6:10^10<=10^l.length:=ag0 de (by simp at h;omega);have h7:1*10^l.length<=(10*0+(a.toNat-48))*10^l.length:=Aq _ om;have h8:rI 0 (a::l)=rI (10*0+(a.toNat-48)) l:=rfl;grind
  ·refine aA.lp (λz:Int×Int=>∃k:Nat,z.2=(k:Int)/\k<=Ts s/\(s.take k).all C9=hJ/\z.1=(rI 0 (s.take k):Nat)/\rI 0 (s.take k)<10^k) (λz=>Ts s-z.2.toNat) ⟨0,rfl,om,rfl,rfl,Nat.one_pos⟩ (by simp_all) ?_;rintro⟨x,p⟩ ⟨k,q2,h2,h3,q3,h4⟩ rc hrc;dsimp only at q2 q3 hrc⊢;subst q2 q3;refine aA.cd (λhk=>?_) λhk=>?_
   ·have hk:k<Ts s:=om;have hgd:s.getD k 0=s[k]:=gd hk;rw[ck om om,b9,K.WG,aD,hgd];have hdd:K.gw (s[k].toNat:Int)=C9 s[k]:=by unfold K.gw C9;grind
    rw[hdd];cases hd:C9 s[k]with
    | false=>grind[aA.ok,Y0]|true=>
     have hd':=hd;unfold C9 at hd';rw[cL,fV,fV]at hd';have ev:=Z8 s hk;have h10:10^k<=10^9:=ag0 de om;have e5:aE ((aE (10*((rI 0 (s.take k):Nat):Int)))+(aE (dO .u8 ((s[k].toNat:Int)-48))))=((rI 0 (s.take (k+1)):Nat):Int):=by
      rw[show dO .u8 ((s[k].toNat:Int)-48)=(s[k].toNat:Int)-48 from by
       show((s[k].toNat:Int)-48)%256=_;omega,bO (x:=(s[k].toNat:Int)-48) om,bO (x:=10*_) om,bO om,ev]
      omega
     rw[gN,aJ,ck om om,e5,bH om];refine hrc _ ⟨k+1,rfl,hk,aeg hk h3 hd,rfl,?_⟩ (by grind);grind
   ·rw[uI om]at h3 h4⊢;unfold CU;refine aA.cd (λh=>aA.ok ?_) λh=>aA.ok ?_
    ·rw[if_neg om]
    grind
 obtain⟨r,h,e⟩:=this;rw[e,h]
def NoF(e:eO):Prop:=e.vp=[]/\e.pR=[]/\e.vq=[]
def TF(e:eO):Prop:=GV e.bX/\e.dc.length<=12/\(∀x∈e.dc,Ts x<=60)/\e.fName.length<=60/\K.ic e.gr/\K.ic e.Dn/\K.ic e.qo/\NoF e
def GS(s:aR):Prop:=TF s.cj/\(∀a∈s.dx,Ts a.fText<=60)/\s.dx.length<=2000/\∃u:Nat,s.fused=(u:Int)/\u<=Ts s.dx
def stop(s:aR):Bool:=s.fe != 0||s.fZ
def RB(k:Nat)(l:J aB):Prop:=Ts l<=26*k/\bV l<=5000*k
theorem RB.one{k:Nat}{t:Bs}{c:Int}(hk:1<=k)(h:Ts t<=5000*k):RB k [aB.mk t c]:=⟨aQ,by simp[bV];omega⟩
theorem RB.nil{k:Nat}:RB k []:=⟨si,by simp[bV]⟩
theorem RB.mono{k j:Nat}{l:J aB}(h:RB k l)(hj:k<=j):RB j l:=⟨by have:=h.1;omega,by have:=h.2;omega⟩
theorem RB.app{k j:Nat}{l m:J aB}(h:RB k l)(h':RB j m):RB (k+j) (l++m):=⟨by have:=h.1;have:=h'.1;grind,by have:=h.2;have:=h'.2;rw[Du];omega⟩
theorem nT(F:Nat)(s:aR):jg F s=iN (stop s):=by unfold jg wx;rw[aH];rfl
theorem uq(F:Nat)(e:Int)(m:Bs)(s:aR):fQ F e m s=iN (cond (stop s) s {s with fe:=e,fK:=m}):=by unfold fQ wx;grind[nT]
variable{s:aR}
theorem aln{e:Int}(he:e≠0)(m:Bs):stop (cond (stop s) s {s with fe:=e,fK:=m})=hJ:=by
 cases h:stop s with
 | true=>exact h|false=>show(e != 0||_)=hJ;simp_all
theorem Sn(F:Nat)(p:cZ):∃c,eV F p=iN c:=by unfold eV wx;simp_all[aH]
theorem asF(F:Nat)(p:cZ):∃c,rB F p=iN c:=by unfold rB wx;simp_all[aH]
theorem an2(F:Nat)(e:Int):aA (λr=>Ts r<=100) (CB F e):=by exact aA.cb (λ_=>aA.ok de) λ_=>aA.cb (λ_=>aA.ok de) λ_=>aA.cb (λ_=>aA.ok de) λ_=>aA.cb (λ_=>aA.ok de) λ_=>aA.ok de
theorem an3(F:Nat)(o:Int)(c s:Bool)(v:Bs):∃r,uh F o c s v=iN r:=by unfold uh wx;simp_all[aH,aD]
theorem aoZ(F:Nat)(p:d6):∃b,xU F p=iN b:=by unfold xU wx;simp_all[aH,aD]
def aun(F:Nat)(n:Int)(hF:30<=F)(h:K.ic n):∃r,Ts r<=60/\dW F n=iN r:=⟨_,K.yN h,K.LG F hF h⟩
theorem alo(F:Nat)(l:J aB)(hF:Ts l<F)(h1:Ts l<=1000000000)(h2:bV l<=1000000000):Cv F l=iN (l.flatMap λr=>r.fText):=by
 have:aA (λr=>r=l.flatMap λr=>r.fText) (Cv F l):=by
  have hsz:∀k,Ts ((l.take k).flatMap λr=>r.fText)<=bV l:=λk=>by
   have h:(l.flatMap λr=>r.fText)=((l.take k).flatMap λr=>r.fText)++((l.drop k).flatMap λr=>r.fText):=by rw[<-Mj,Kl]
   have h2:bV l=Ts (l.flatMap λr=>r.fText):=by unfold bV;rw[List.length_flatMap]
   simp_all
  refine aA.lp (λz=>∃k:Nat,z.2=(k:Int)/\k<=Ts l/\z.1=(l.take k).flatMap λr=>r.fText) (λz=>Ts l-z.2.toNat) ⟨0,rfl,om,si⟩ (by simp_all) ?_;rintro⟨_,_⟩ ⟨k,rfl,h3,rfl⟩ rc hrc;dsimp only at hrc⊢;refine aA.cd (λh=>?_) λh=>aA.ok (by grind);have hk:k<Ts l:=om;have e1:((l.take (k+1)).flatMap λr=>r.fText)=((l.take k).flatMap λr=>r.fText)++l[k].fText:=by rw[A9 _ _ _ hk]
  have h5:=hsz (k+1);rw[e1,qg]at h5;rw[ck om om,b9,gd hk,bH om];exact aA.rq (decide_eq_true om) (hrc _ ⟨k+1,rfl,hk,e1.symm⟩ (by grind))
 obtain⟨r,h,e⟩:=this;rw[e,h]
theorem auo(F:Nat)(n:Bs)(hF:Ts n<F)(hn:Ts n<=1000):∃r,iy F n=iN r:=by
 by_cases h:n=[]
 ·subst h;exact⟨0,rfl⟩
 have:=Bn.2 h;obtain⟨d,hd⟩:=Xw F n hF om;unfold iy wx;rw[kJ om];simp_all[aD,aH]
variable{e:eO}
theorem aqo(F:Nat)(h:TF e)(n:Bs)(hF:1000<F)(hn:Ts n<=1000):aA (λr=>Ts r.1<=4096) (kS F e n):=by
 obtain⟨hV,hP,hP',hN,h1,h2,h3,-⟩:=h;have hl:=hV.1;unfold kS wx;obtain⟨p,hp⟩:=auo F n om om;rw[hp,aD,z7 F e.bX n om om];refine aA.bd (Gi F n om) λb _=>aA.cb (λ_=>?_) λ_=>?_
 ·exact aA.cb (λ_=>aA.ok de) λ_=>aA.ok (RC hV n).2
 rw[aH];refine aA.cb (λhc=>?_) λ_=>?_
 ·rw[cF,cL]at hc;have c1:=Bl hc.1;have c2:=Bl hc.2;rw[bO om];refine aA.rq (mG om om) (aA.ok ?_);have hk:(p-1).toNat<Ts e.dc:=om;rw[gd hk];grind
 refine aA.cb (λ_=>aA.ok (by grind)) λ_=>?_;have dec:∀(m:Int),K.ic m->aA (λr=>Ts r.1<=4096) ((dW F m).bind λx=>iN (x,hJ)):=λm hm=>by obtain⟨r,h1,h2⟩:=aun F m om hm;grind[aA.ok]
 refine aA.cb (λ_=>dec _ ⟨om,om⟩) λ_=>aA.cb (λ_=>dec _ h1) λ_=>aA.cb (λ_=>?_) λ_=>aA.cb (λ_=>dec _ h2) λ_=>?_
 ·grind[aA.bd,apm,aA.ok]
 rw[aH];refine aA.cb (λ_=>dec _ h3) λ_=>aA.cb (λ_=>?_) λ_=>aA.cb (λ_=>?_) λ_=>aA.ok de
 ·grind[aA.bd,ajE,aA.ok]
 grind[aA.bd,ajF,ajE,aA.ok]
theorem aqp(F:Nat)(h:GS s)(n v:Bs)(p:cZ)(hv:Ts v<=4096)(hF:1000<F):aA (RB 1) (nL F n v p s):=by
 obtain⟨⟨hV,hP,hP',-⟩,-⟩:=h;unfold nL wx;simp only[aH];obtain⟨c,hc⟩:=Sn F p;rw[hc];refine aA.cb (λ_=>aA.ok (RB.one om om)) λ_=>?_;refine aA.lp (λz=>∃k:Nat,z.2=(k:Int)/\k<=Ts s.cj.dc/\z.1.length<=2*k/\bV z.1<=60*k) (λz=>Ts s.cj.dc-z.2.toNat) ⟨0,rfl,om,si,by simp[bV]⟩ (by grind) ?_;rintro⟨o,_⟩ ⟨k,rfl,h1,h2,h3⟩ rc hrc;refine aA.cd (λh=>?_) λ_=>aA.ok ⟨om,om⟩;have hk:k<Ts s.cj.dc:=om;have hx:=hP' _ (fm hk);refine aA.bd (P:=λu=>Ts u<=2*k+1/\bV u<=60*k) (aA.cd (λ_=>aA.rq (oQ (by grind) de) (aA.ok ⟨aQ,by rw[Du];show bV o+0<=_;omega⟩)) λ_=>aA.ok ⟨om,h3⟩) λu hu=>?_;rw[ck om om,b9,gd hk,bH om];refine aA.rq (oQ (by grind) de) (hrc _ ⟨k+1,rfl,hk,?_,?_⟩ (by grind))
 ·grind
 ·show bV (u++[aB.mk s.cj.dc[k] c])<=_;rw[Du];simp[bV]at hu⊢;omega
def asG(F:Nat)(o:Int):EA F o=zy F o:=rfl
theorem alp(g x:Bs):∀l:J Bs,l≠[]->Lib.join (l++[x]) g=Lib.join l g++(g++x)|[],h=>absurd rfl h|a::l,_=>by rw[sU,Lib.join_cons,Lib.join_cons];unfold Lib.joinTail;simp
theorem Z9(l:J Bs)(g:Bs)(n:Nat)(hg:Ts g<=1)(h:∀a∈l,a.length<=n):(Lib.join l g).length<=(n+1)*Ts l:=by
 cases l with
 | nil=>simp[Lib.join_nil]|cons a r=>
  rw[Lib.join_cons];have h2:∀r:J Bs,(∀c∈r,Ts c<=n)->Ts (Lib.joinTail g r)<=(n+1)*Ts r:=λr=>by
   unfold Lib.joinTail
   induction r with|nil=>intro _;simp|cons b r ih=>grind[List.mem_cons_self,List.mem_cons_of_mem,List.flatten_cons,List.length_append,List.length_cons,Nat.mul_succ]
  grind[List.mem_cons_of_mem,List.length_append,List.length_cons,Nat.mul_succ]
theorem aup(F:Nat)(l:J Bs)(g:Bs)(hF:100<F)(h1:Ts l<=12)(h2:∀x∈l,Ts x<=60)(hg:Ts g<=1):Aa F l g=iN (Lib.join l g)/\uR F l g=iN (Lib.join l g):=by
 have hlen:=Z9 l g 60 hg h2;constructor
 ·grind[Aa,ck]
 have:aA (λr=>r=Lib.join l g) (uR F l g):=by
  refine aA.lp (λz=>∃k:Nat,z.2=(k:Int)/\k<=Ts l/\z.1=Lib.join (l.take k) g) (λz=>Ts l-z.2.toNat) ⟨0,rfl,om,by simp[Lib.join_nil]⟩ (by grind) ?_;rintro⟨o,p⟩ ⟨k,q1,h3,q2⟩ rc hrc;dsimp only at q1 q2 hrc⊢;subst q1 q2;have hj:(Lib.join (l.take k) g).length<=61*12:=by have a:=Z9 (l.take k) g 60 hg λx hx=>h2 x (O1 hx);grind
  refine aA.cd (λh=>?_) λh=>aA.ok (by grind);have hk:k<Ts l:=om;have hx:=h2 _ (fm hk);have e1:Lib.join (l.take (k+1)) g=(if 0<k then Lib.join (l.take k) g++g else Lib.join (l.take k) g)++l[k]:=by
   rw[kT hk];by_cases h0:0<k
   ·rw[if_pos h0,alp _ _ _ (λe=>by have:=congrArg Ts e;simp_all),uK]
   ·obtain rfl:k=0:=om;simp[Lib.join_nil,Lib.join_cons,Lib.joinTail]
  refine aA.bd (P:=λu=>u=if 0<k then Lib.join (l.take k) g++g else Lib.join (l.take k) g) (aA.cd (λh0=>aA.rq (eP om) (aA.ok (by rw[if_pos om]))) λh0=>aA.ok (by rw[if_neg om])) λu hu=>?_;have hul:Ts u<=61*12+1:=by grind
  rw[ck om om,b9,gd hk,bH om];refine aA.rq (decide_eq_true om) (hrc _ ⟨k+1,rfl,hk,by dsimp only;rw[e1,hu]⟩ (by grind))
 obtain⟨r,h,e⟩:=this;rw[e,h]
def spec(n:Bs):Bool:=[[64],[42],[35],[63],[45],[36],[33],[48]].contains n
theorem alq:∀n:Fin 256,eK (0<=lO [64,42,35,63,45,36,33,48] (lL n.val))=spec [lL n.val]:=by decide +kernel
theorem aeh{n:Bs}(h:spec n=hJ):Ts n=1:=by unfold spec at h;simp at h;grind
theorem auq(F:Nat)(n:Bs):An F n=iN (spec n):=by
 unfold An wx;by_cases h:Ts n=1
 ·obtain⟨b,rfl⟩:=aaZ.1 h;have hb:=alq ⟨b.toNat,b.toNat_lt⟩;have e:stringslite_Index F [64,42,35,63,45,36,33,48] [b]=iN (lO [64,42,35,63,45,36,33,48] b):=by
   unfold stringslite_Index stringslite_IndexByte wx;have e1:(([b]:Bs)==[64,42,35,63,45,36,33,48])=eQ:=by simp_all
   simp;show((Y6 F _ _).bind _)=_;simp_all[Y6,b9]
  unfold strings_Contains strings_Index wx;simp_all
 grind[beq_eq_false_iff_ne,aeh]
theorem ajf(F:Nat)(hF:30<=F){n:Int}(h:K.ic n):qw F n=iN (Lib.itoa n):=by unfold qw;rw[ck h.1 h.2]
theorem avE(F:Nat)(e:eO)(hF:1000<F)(hl:Ts e.bX<=128):sO F e=uS F e.bX:=by
 unfold sO oC uS wx;rw[aje F _ _ om om,z7 F _ _ om om];have hb:(jH e.bX [73,70,83]).2=eQ->(jH e.bX [73,70,83]).1=bP.mk [] [] eQ eQ eQ:=by unfold jH;cases e.bX.find? _<;>simp
 grind
theorem avF(F:Nat)(e:eO)(n:Bs)(hF:1000<F)(hl:Ts e.bX<=128):oC F e n=iN (cond (jH e.bX n).1.cK ((jH e.bX n).1.cg,hJ) ([],eQ)):=by
 unfold oC wx;rw[aje F _ _ om om];have hb:(jH e.bX n).2=eQ->(jH e.bX n).1=bP.mk [] [] eQ eQ eQ:=by unfold jH;cases e.bX.find? _<;>simp
 grind
theorem asH(F:Nat)(h:TF e)(n:Bs)(hF:2000<F)(hn:Ts n<=1000):zX F e n=kS F e n:=by
 obtain⟨hV,hP,hP',hN,r1,r2,r3,-⟩:=h;have hl:=hV.1;have hj:=λg hg=>aup F e.dc g om hP hP' hg;have R:K.ic (Ts e.dc:Int):=⟨om,om⟩;have I:=λ{x:Int}(h:K.ic x)=>ajf F om h;have D:=λ{x:Int}(h:K.ic x)=>K.LG F om h;unfold zX wx;rw[auq,aD];cases hs:spec n with
 | true=>
  rw[aS,kJ (by have:=aeh hs;omega)];unfold spec at hs;simp only[abb,hU,Dc,Dd]at hs;have fin:∀x:O (Bs×Bool),(x.bind λx2=>iN (x2.1,x2.2))=x:=λx=>by cases x<;>rfl
  rw[fin];unfold yb kS iy wx;obtain⟨g,hg,eg⟩:=ajF F hV om;obtain⟨m,rfl⟩:∃m,F=m+100:=⟨F-100,om⟩;rcases hs with rfl|rfl|rfl|rfl|rfl|rfl|rfl|rfl
  ·show((Aa (m+100) e.dc [32]).bind _)=((uR (m+100) e.dc [32]).bind _);rw[(hj [32] de).1,(hj [32] de).2]
  ·show((sO (m+100) e).bind _)=((uS (m+100) e.bX).bind _);grind[avE]
  ·show((qw (m+100) _).bind _)=((dW (m+100) _).bind _);rw[I R,D R]
  ·show((qw (m+100) _).bind _)=((dW (m+100) _).bind _);rw[I r1,D r1]
  ·show((EA (m+100) _).bind _)=((zy (m+100) _).bind _);rw[asG]
  ·show((qw (m+100) _).bind _)=((dW (m+100) _).bind _);rw[I r2,D r2]
  ·show cond (e.qo==0) (iN ([],eQ)) ((qw (m+100) e.qo).bind _)=(Option.bind (iN (e.qo != 0)) λx9=>cond x9 ((dW (m+100) e.qo).bind λcA=>iN (cA,hJ)) (iN ([],eQ)));grind
  ·rfl
 | false=>
  rw[aJ];have ne:∀x,x∈([[64],[42],[35],[63],[45],[36],[33],[48]]:J Bs)->(n==x)=eQ:=λx hx=>by
   rw[iq];intro h;subst h;have:spec n=hJ:=by unfold spec;exact abb.2 hx
   rw[this]at hs;cases hs
  have ends:∀(p:Int),¬ (0<p/\p<=Ts e.dc)->iy F n=iN p->fM F n=iN eQ->kS F e n=iN ([],eQ):=by
   intro p hp h1 h2;unfold kS wx;rw[h1,aD,h2,aD,aJ,aH,aD]
   rw[show(cond (eK (0<p)) (eK (p<=(Ts e.dc:Int))) eQ)=eQ from by
    simp_all]
   rw[ne [48] de,ne [35] de,ne [63] de,ne [45] de,ne [36] de,ne [33] de,ne [64] de,ne [42] de];rfl
  have ao0:∀b,fM F n=iN b->iy F n=iN 0->((mA F n).bind λx5=>cond (!x5) (iN ([],eQ)) ((oC F e n).bind λx6=>iN (x6.1,x6.2)))=kS F e n:=by
   intro b hb hp;rw[K.Ij F n om,hb,aD];cases b with
   | false=>rw[ends 0 om hp hb];rfl|true=>unfold kS wx;rw[hp,aD,hb,aD,aS,avF F e n om hl,z7 F _ _ om om,aD,aD];cases (jH e.bX n).1.cK<;>rfl
  obtain⟨b,-,hb⟩:=Gi F n om;by_cases h0:n=[]
  ·subst h0;exact ao0 b hb rfl
  by_cases h1:n.getD 0 0=48
  ·have hp:=Bn.2 h0;have hc:(((n.getD 0 0).toNat:Int)==48)=hJ:=by rw[h1];rfl
   have e1:rD F n=iN (0,eQ):=by unfold rD wx;rw[ne [48] de,aJ,show(n==[])=eQ from by simpa using h0,aJ,kJ om,hc,aD];rfl
   obtain⟨d,hd⟩:=Xw F n om om;have e2:iy F n=iN 0:=by unfold iy wx;rw[hd,kJ om,hc];grind
   rw[e1,aD];exact ao0 b hb e2
  ·have hp:=Bn.2 h0;have hc:(((n.getD 0 0).toNat:Int)==48)=eQ:=by rw[beq_eq_false_iff_ne];intro h;exact h1 (by apply UInt8.toNat_inj.1;grind)
   rw[avC F n om hn h0 h1,aD];have e2:iy F n=iN (cond (CU n).2 (CU n).1 0):=by unfold iy wx;rw[avD F n om hn h0 h1,kJ om,hc,aD];simp only[aH,aD];unfold CU;grind
   cases hd:(CU n).2 with
   | false=>simp_all|true=>
    rw[hd,aS]at e2;rw[aS];have hnm:fM F n=iN eQ:=by
     unfold CU at hd;split at hd
     ·rename_i hh;have h8:=pN.1 hh.1 _ (fm (n:=0) hp);unfold C9 at h8;rw[cL,fV,fV]at h8;unfold fM wx;rw[show(n==[])=eQ from by simpa using h0,aJ,aD,kJ om,K.WG];have:K.gw ((n.getD 0 0).toNat:Int)=hJ:=by unfold K.gw;grind
      simp_all
     ·cases hd
    have Tn:0<=(CU n).1/\(CU n).1<=2147483647:=by unfold CU;grind
    generalize(CU n).1=d at e2 Tn⊢;rw[aH,aD];by_cases wY:0<d/\d<=Ts e.dc
    ·rw[show(cond (eK (d<1)) hJ (eK ((Ts e.dc:Int)<d)))=eQ from by grind,cond_false];unfold kS wx;simp_all
    grind
def T2{A B:Type}(Q:A->B->Prop)(x:O A)(y:O B):Prop:=∃a b,Q a b/\x=iN a/\y=iN b
variable{A B C D σ τ:Type}{P:C->D->Prop}{x:O A}{y:O B}{g:D->O B}{x':O A}{y':O B}{b1:(σ->O A)->σ->O A}{b2:(τ->O B)->τ->O B}
section
variable {Q : A -> B -> Prop}
theorem T2.ok{a:A}{b:B}(h:Q a b):T2 Q (iN a) (iN b):=⟨a,b,h,rfl,rfl⟩
theorem T2.mono{P:A->B->Prop}(h:T2 P x y)(f:∀a b,P a b->Q a b):T2 Q x y:=by obtain⟨a,b,h,e⟩:=h;exact⟨a,b,f a b h,e⟩
theorem T2.bd{x:O C}{y:O D}{f:C->O A}(h:T2 P x y)(k:∀a b,P a b->T2 Q (f a) (g b)):T2 Q (x.bind f) (y.bind g):=by obtain⟨a,b,h,rfl,rfl⟩:=h;exact k a b h
theorem T2.l{P:C->Prop}{x:O C}{f:C->O A}(h:aA P x)(k:∀a,P a->T2 Q (f a) y):T2 Q (x.bind f) y:=by obtain⟨a,h,rfl⟩:=h;exact k a h
theorem T2.r{P:D->Prop}{y:O D}(h:aA P y)(k:∀b,P b->T2 Q x (g b)):T2 Q x (y.bind g):=by obtain⟨a,h,rfl⟩:=h;exact k a h
theorem T2.ql{c:Bool}(h:c=hJ)(k:T2 Q x y):T2 Q (rq c x) y:=by subst h;exact k
theorem T2.qr{c:Bool}(h:c=hJ)(k:T2 Q x y):T2 Q x (rq c y):=by subst h;exact k
theorem T2.cb{c:Bool}(a:c=hJ->T2 Q x y)(b:c=eQ->T2 Q x' y'):T2 Q (cond c x x') (cond c y y'):=by grind
theorem T2.cl{c:Bool}(a:c=hJ->T2 Q x y)(b:c=eQ->T2 Q x' y):T2 Q (cond c x x') y:=by grind
theorem T2.cr{c:Bool}(a:c=hJ->T2 Q x y)(b:c=eQ->T2 Q x y'):T2 Q x (cond c y y'):=by grind
theorem T2.lp(P:σ->τ->Prop)(m:σ->Nat){s:σ}{t:τ}(h0:P s t)(hF:m s<F)
  (hs:∀s t,P s t->∀r1 r2,(∀s' t',P s' t'->m s'<m s->T2 Q (r1 s') (r2 t'))->T2 Q (b1 r1 s) (b2 r2 t)):T2 Q (bW b1 F s) (bW b2 F t):=by
 induction F generalizing s t with|zero=>omega|succ F ih=>grind[bW]
end
def mP(s:aR):Prop:=GS s/\yp s.cj.bX/\(s.fZ=eQ->s.yT=[])
def iK(fl:J aZ)(s:aR):aO:=aO.mk s.cj fl (s.dx.drop s.fused.toNat) s.ld eQ [] [] 0
def Fin(x:aO)(s:aR):Prop:=(s.fe≠0/\x.fZ=eQ/\x.xS=s.fe/\x.fK=s.fK)\/(s.fe=0/\x.fZ=hJ/\x.yT=s.yT/\x.cj=s.cj/\x.ld=s.ld)
def RR{A:Type}(fl:J aZ)(I:J A->Prop)(a:J A×Bool×aO)(b:J A×aR):Prop:=mP b.2/\I b.1/\((stop b.2=eQ/\a=(b.1,hJ,iK fl b.2))\/(stop b.2=hJ/\a.2.1=eQ/\Fin a.2.2 b.2/\a.1=[]))
def RA(fl:J aZ)(a:Bool×aO)(b:aR):Prop:=mP b/\((stop b=eQ/\a=(hJ,iK fl b))\/(stop b=hJ/\a.1=eQ/\Fin a.2 b))
theorem Bj(h:stop s=eQ):s.fe=0/\s.fZ=eQ:=by unfold stop at h;simp_all
theorem asI{e:Int}{m:Bs}(he:e≠0):stop {s with fe:=e,fK:=m} = hJ:=by show(e != 0||s.fZ)=hJ;simp_all
variable{fl:J aZ}
theorem failed{e:Int}{m:Bs}(hs:stop s=eQ)(he:e≠0):stop (cond (stop s) s {s with fe:=e,fK:=m})=hJ/\Fin {iK fl s with xS:=e,fK:=m} (cond (stop s) s {s with fe:=e,fK:=m}):=by rw[hs];exact⟨asI he,.inl ⟨he,rfl,rfl,rfl⟩⟩
theorem NG(h:mP s)(e:Int)(m:Bs):mP (cond (stop s) s {s with fe:=e,fK:=m}):=by cases stop s<;>exact h
theorem RR.err{A:Type}{I:J A->Prop}{r:J A}{e:Int}{m:Bs}{x:aO}(h:mP s)(hi:I r)(hs:stop s=eQ)(he:e≠0)(hx:x={iK fl s with xS:=e,fK:=m}):RR fl I ([],eQ,x) (r,cond (stop s) s {s with fe:=e,fK:=m}):=by subst hx;have:=failed (fl:=fl) (m:=m) hs he;exact⟨NG h _ _,hi,.inr ⟨this.1,rfl,this.2,rfl⟩⟩
theorem L6(F:Nat)(m:Bs)(x:aO):iI F m x=iN (eQ,{x with fK:=m,xS:=32}):=rfl
def aur(F:Nat)(e:Int)(x:aO):ga F e x=iN (eQ,{x with xS:=e}):=rfl
theorem alr(v:bP){l:J bP}(h:yp l):v∈oh v l eQ:=by rw[Hy v h];simp
theorem get_mem{l:J bP}{n:Bs}{v:bP}(h:v∈l)(hn:v.fName=n):(jH l n).2=hJ:=by unfold jH;cases e:l.find? λv=>v.fName==n with|none=>simp_all|some x=>rfl
theorem an4(F:Nat){l:J bP}(h:GA l)(n v:Bs)(hF:1000<F){r:J bP×Int}(e:uw F l n v=iN r)(h0:r.2=0):fM F n=iN hJ/\(jH r.1 n).2=hJ:=by
 have hl:=h.len;obtain⟨b,hb,eb⟩:=Gi F n om;unfold uw wx at e;rw[z7 F l n om om,aD,eb,aD]at e;cases b with
 | false=>grind|true=>
  refine⟨eb,?_⟩;cases hr:(jH l n).1.mO with
  | true=>grind|false=>
   rw[hr]at e;by_cases h4:4096<Ts v
   ·grind
   rw[cf om,aH,aD]at e;cases h5:(cond (!(jH l n).2) (eK (128<=(Ts l:Int))) eQ)with
   | true=>grind|false=>rw[h5,RE F l _ om om]at e;cases e;exact get_mem (alr _ h.2) rfl
theorem aqq(F:Nat){l:J bP}(h:GA l)(n:Bs)(hF:1000<F)(h1:fM F n=iN hJ)(h2:(jH l n).2=hJ){r:J bP×Int}(e:sC F l n hJ eQ=iN r):r.2=0:=by have hl:=h.len;unfold sC wx at e;rw[h1,aD,gN,aJ,z7 F l n om om,aD,h2,gN,aJ,aD,aH,aD,aH,aD,RE F l _ om om]at e;cases e;rfl
theorem ags(F:Nat)(fl:J aZ)(h:mP s)(hs:stop s=eQ)(n v:Bs)(hF:1000<F):T2 (RA fl) (j7 F n v (iK fl s)) (eW F n v s):=by
 have hA:GA s.cj.bX:=⟨h.1.1.1,h.2.1⟩;obtain⟨r,hr,e1,e2⟩:=avB F hA n v hF;unfold j7 eW wx;rw[nT,aD,hs,e1,show II F (iK fl s).cj.bX n v=iN r from e2,aD,aD];have go:∀l:J bP,GA l->T2 (RA fl) (cond ((0:Int) != 0) ((ga F 0 (iK fl s)).bind λx5=>iN (x5.1,x5.2)) (iN (hJ,{iK fl s with cj:={(iK fl s).cj with bX:=l}}))) (iN {s with cj:={s.cj with bX:=l}}):=λl hl=>T2.ok ⟨⟨⟨⟨hl.1,h.1.1.2⟩,h.1.2⟩,hl.2,h.2.2⟩,.inl ⟨hs,rfl⟩⟩;by_cases h0:r.2=0
 ·rw[h0];show T2 _ (((cond ((nu .i64 s.cj.ir 32) != 0) ((Fe F r.1 n hJ eQ).bind λx4=>iN (x4.1,x4.2)) (iN (r.1,0)):O (J bP×Int)).bind _)) ((cond ((nu .i64 s.cj.ir 32) != 0) ((sC F r.1 n hJ eQ).bind λx5=>iN x5.1) (iN r.1):O (J bP)).bind _);cases hb:((nu .i64 s.cj.ir 32) != 0)with
  | false=>exact go r.1 hr|true=>obtain⟨q,hq,e3,e4⟩:=aum F hr n hJ eQ hF;obtain⟨k1,k2⟩:=an4 F hA n v hF e1 h0;have hq0:=aqq F hr n hF k1 k2 e3;simp_all
 ·have hne:(r.2 != 0)=hJ:=by simpa using h0
  have amF:(r.2==0)=eQ:=by simpa using h0
  rw[amF,aJ,aD,aJ,aD];rw[hne,uq];have:=failed (fl:=fl) (m:=[]) hs h0;exact T2.ok ⟨NG h _ _,.inr ⟨this.1,rfl,this.2⟩⟩
theorem avG(F:Nat)(fl:J aZ)(h:mP s)(hs:stop s=eQ)(x:d6)(m:dB)(p:cZ)(hm:m.fP=p.fP)(hF:1000<F):T2 (RR fl (RB 1)) (nZ F x m (iK fl s)) ((iB F x.fText s).bind λx7=>(eV F p).bind λx8=>iN ([aB.mk x7.1 x8],x7.2)):=by
 obtain⟨⟨hE,hA,hL,u,hu,hul⟩,zu⟩:=h;have hv:eE F m=eV F p:=by unfold eE eV wx;rw[hm]
 obtain⟨c,hc⟩:=Sn F p;unfold nZ iB wx;rw[hv,hc,hu];have hx:(iK fl s).dx=s.dx.drop u:=by unfold iK;simp_all
 rw[hx];by_cases hk:u<Ts s.dx
 ·have hd:s.dx.drop u=s.dx[u]::s.dx.drop (u+1):=sR hk;have e0:((Ts (s.dx.drop u):Int)==0)=eQ:=by grind
  have e1:sl (s.dx.drop u) 1 (Ts (s.dx.drop u):Int)=s.dx.drop (u+1):=by grind[sl,Int.toNat_natCast,List.take_length,List.drop_drop]
  have e2:(s.dx.drop u).getD 0 xh=s.dx[u]:=by rw[hd];rfl
  have hln:0<Ts (s.dx.drop u):=by grind
  rw[e0,aJ,kJ om,ck om om,e1,e2,cf om,ck om om,b9,gd hk];have ha:=hA _ (fm hk);generalize s.dx[u]=a at ha⊢
  have key:T2 (λ(t:Bs)(y:Bs×aR)=>Ts t<=60/\y=(t,{s with fused:=(((u+1:Nat)):Int),ld:=a.gr})) (tB F a.fText [10]) (bW (σ:=Int) (R:=Bs×aR) (λbD x1=>
    (cond (eK (0<x1))
    (rq ((eK (0<=aE (x1-1)))&&(eK (aE (x1-1)<(Ts (a.fText):Int)))) (iN (((a.fText.getD (eJ (aE (x1-1))) 0).toNat:Int)==10)))
    (iN eQ):Option Bool).bind λx3=>
    cond x3
    (bD (aE (x1-1)))
    (rq ((eK (0<=x1))&&(eK (x1<=(Ts a.fText:Int)))) (iN (sl a.fText 0 x1,{s with fused:=aE ((u:Int)+1),ld:=a.gr})))) F (Ts a.fText:Int)):=by
   have fin:∀k:Nat,k<=Ts a.fText->T2 (λ(t:Bs)(y:Bs×aR)=>Ts t<=60/\y=(t,{s with fused:=(((u+1:Nat)):Int),ld:=a.gr})) (iN (a.fText.take k)) (rq ((eK (0<=(k:Int)))&&(eK ((k:Int)<=(Ts a.fText:Int)))) (iN (sl a.fText 0 (k:Int),{s with fused:=aE ((u:Int)+1),ld:=a.gr}))):=λk hk=>by grind[T2.qr,mG,T2.ok,List.length_take,bH,sl,Int.toNat_natCast]
   unfold tB wx;by_cases hz:a.fText=[]
   ·rw[hz]at fin⊢;obtain⟨f,rfl⟩:∃f,F=f+1:=⟨F-1,om⟩;exact fin 0 (ep _)
   rw[show(a.fText==[])=eQ from by simpa using hz];show T2 _ ((pI F a.fText 10).bind λx3=>iN x3) _;have ret:∀x:Option Bs,(x.bind λx3=>iN x3)=x:=λx=>by cases x<;>rfl
   rw[ret];unfold pI wx;refine T2.lp (λ(t:Bs)(i:Int)=>∃k:Nat,i=(k:Int)/\k<=Ts a.fText/\t=a.fText.take k) (λt=>Ts t) ⟨_,rfl,ep _,by rw[sS]⟩ om ?_;rintro t i ⟨k,rfl,h1,rfl⟩ r1 r2 hrc;have hlk:(a.fText.take k).length=k:=List.length_take_of_le h1;rw[hlk];by_cases h0:0<k
   ·rw[uP om om,cm om,ck om om,cm om,ck om om,aD,ck om om,aD,b9];have eg:(a.fText.take k).getD (k-1) 0=a.fText.getD (k-1) 0:=by grind
    rw[eg];refine T2.cb (λ_=>?_) λ_=>fin k h1;grind[sl,Int.toNat_natCast,Nat.min_eq_left,List.length_take]
   grind
  refine T2.bd key λt y ⟨ht,hy⟩=>?_;subst hy;rw[aD,aD];refine T2.ok ⟨⟨⟨hE,hA,hL,u+1,rfl,hk⟩,zu⟩,RB.one om (by grind),.inl ⟨hs,?_⟩⟩;unfold iK;grind
 ·have e0:((Ts (s.dx.drop u):Int)==0)=hJ:=by simp_all
  rw[e0,aS,cm om,aD,aD];obtain⟨s1,s2⟩:=Bj hs;refine T2.ok ⟨⟨⟨hE,hA,hL,u,rfl,hul⟩,zu.1,λh=>nomatch h⟩,RB.one om (fC _),.inr ⟨?_,rfl,.inr ⟨s1,rfl,rfl,rfl,rfl⟩,rfl⟩⟩;show(s.fe != 0||true)=hJ;rw[Bool.or_true]
theorem ux(k v q z:Bs)(m:J (Bs×Bs)):fX dh (jJ dh m k v) q z=if k=q then v else fX dh m q z:=by
 unfold jJ fX dh;cases ha:m.any λp=>p.1==k with
 | false=>grind|true=>
  rw[aS];have hf:((λp=>p.1==q) ∘ λp=>bif p.1==k then(k,v)else p)=λp=>p.1==q:=by grind
  cases e:m.find? λp=>p.1==q with|none=>grind|some p=>grind
def ur(l:J bP):J cD:=l.flatMap λv=>cond v.cK [cD.mk v.fName v.cg] []
def FN(b:J cD):J (Bs×Bs):=b.foldl (λm x=>jJ dh m x.fName x.cg) []
theorem an5(l:J bP){k:Nat}(h:k<Ts l):ur (l.take (k+1))=ur (l.take k)++cond l[k].cK [cD.mk l[k].fName l[k].cg] []:=by unfold ur;grind[List.take_succ_eq_append_getElem]
theorem aqr{l:J bP}{b:cD}(h:b∈ur l):∃v∈l,b=cD.mk v.fName v.cg:=by unfold ur at h;grind
theorem Y1:∀l:J bP,Ts (ur l)<=Ts l|[]=>ep _|v::l=>by have:=Y1 l;unfold ur at this⊢;grind
theorem aqs{l:J bP}(h:yp l):(ur l).Pairwise λa b=>a.fName<b.fName:=by
 induction l with
 | nil=>exact .nil|cons v l ih=>obtain⟨h1,h2⟩:=zh.1 h;unfold ur;grind
theorem aqt{l:J bP}(h:GV l):ET (ur l):=λb hb=>by obtain⟨v,hv,rfl⟩:=aqr hb;exact h.2 v hv
theorem aqu{b:J cD}(h:b.Pairwise λx y=>x.fName<y.fName)(hb:ET b):K.uD (FN b)=b:=by
 have hE:=K.Ip hb;refine RH (f:=λx:cD=>x.fName) (K.Yq hE.nd) h λx=>?_;have key:∀(k:J cD)(m:J (Bs×Bs)),(k.Pairwise λx y=>x.fName<y.fName)->∀q:Bs,fX dh (k.foldl (λm x=>jJ dh m x.fName x.cg) m) q []=(match k.find? λx=>x.fName==q with|some x=>x.cg|none=>fX dh m q []):=by
  intro k
  induction k with
  | nil=>intro m _ q;rfl|cons a k ih=>
   intro m hk q;obtain⟨h1,h2⟩:=zh.1 hk;rw[vZ,ih _ h2 q,OU];cases e:k.find? λx=>x.fName==q with
   | some y=>grind|none=>cases hq:(a.fName==q)with|true=>simp_all[uJ,ux,if_pos]|false=>simp_all[ux,if_neg]
 have kk:∀(k:J cD)(m:J (Bs×Bs))(q:Bs),q∈(k.foldl (λm x=>jJ dh m x.fName x.cg) m).map (·.1)↔q∈m.map (·.1)\/∃x∈k,x.fName=q:=by
  intro k
  induction k with|nil=>intro m q;simp|cons a k ih=>grind[Af,List.mem_cons_self,List.mem_cons_of_mem]
 have fnd:∀y∈b,b.find? (λx=>x.fName==y.fName)=iN y:=λy hy=>by cases e:b.find? λx=>x.fName==y.fName with|none=>grind|some z=>have hq:(z.fName==y.fName)=hJ:=abc (p:=λx:cD=>x.fName==y.fName) e;grind[List.pairwise_iff_getElem,List.getElem_of_mem,Nat.lt_trichotomy,nv]
 rw[K.DN];constructor
 ·rintro⟨k,hk,rfl⟩;rcases(kk b [] k).1 hk with h|⟨y,hy,rfl⟩
  ·cases h
  ·have:=key b [] h y.fName;rw[fnd y hy]at this;unfold K.Bk;rw[show fX dh (FN b) y.fName []=y.cg from this];exact hy
 ·intro hx;refine⟨x.fName,(kk b [] _).2 (.inr ⟨x,hx,rfl⟩),?_⟩;have:=key b [] h x.fName;rw[fnd x hx]at this;unfold K.Bk;rw[show fX dh (FN b) x.fName []=x.cg from this]
theorem aei(m:J (Bs×Bs))(k:Bs):Fx dh m k=hJ↔k∈m.map (·.1):=by simp_all[Fx,dh,TK,lF]
theorem T2.lpe{A ι:Type}{Q:A->B->Prop}{b1:(σ->O A)->σ->O A}(P:σ->τ->Prop)(m:σ->Nat)(E:ι->τ->Prop)(m2:τ->Nat)(R:ι->B->Prop){s:σ}{t:τ}(h0:P s t)(hF:m s<F)
  (hs:∀s t,P s t->∀r1 r2,(∀s' t',P s' t'->m s'<m s->T2 Q (r1 s') (r2 t'))->(∀i t',E i t'->m2 t'<m s->aA (R i) (r2 t'))->T2 Q (b1 r1 s) (b2 r2 t))
  (he:∀i t,E i t->∀r2,(∀t',E i t'->m2 t'<m2 t->aA (R i) (r2 t'))->aA (R i) (b2 r2 t)):T2 Q (bW b1 F s) (bW b2 F t):=by
 induction F generalizing s t with|zero=>omega|succ F ih=>exact hs s t h0 (bW b1 F) (bW b2 F) (λs' t' h1 h2=>ih h1 om) λi t' h1 h2=>aA.lp (E i) m2 h1 om (he i)
theorem T2.map{A:Type}{Q:A->B->Prop}{x:O A}{y:O D}(f:D->B)(h:T2 (λa d=>Q a (f d)) x y):T2 Q x (y.bind λd=>iN (f d)):=by obtain⟨a,d,h,e1,rfl⟩:=h;exact⟨a,f d,h,e1,rfl⟩
def aqv(F:Nat)(e:Int):FK F e=CB F e:=rfl
def RV(fl:J aZ)(a:Bs×Bool×aO)(b:Bs×aR):Prop:=RR fl (λt=>Ts t<=10000000) a b/\(stop b.2=eQ->Ts b.1<=4096)
theorem ajg(F:Nat)(h:stop s=hJ)(n v:Bs):eW F n v s=iN s:=by unfold eW wx;simp_all[nT,aD]
theorem asJ(hN:NC<=F)(hF:100000000<=F)(fl:J aZ)(g1:eB)(g2:jh)(x:d6)(m:dB)(p:cZ)(hm:m.fP=p.fP)(s:aR)
  (hv:T2 (RV fl) (g1.2.2.2.2.1 x.fParts (dB.mk hJ eQ 0) (iK fl s)) (g2.2.2.2.1 x.fParts hJ s)) :
  T2 (RR fl (RB 1)) (oD F g1 x m (iK fl s)) ((gz F g2 x.fParts s).bind λx9=>(eV F p).bind λcA=>iN ([aB.mk x9.1 cA],x9.2)):=by
 obtain⟨c,hc⟩:=Sn F p;have jQ:eE F m=iN c:=by rw[<-hc];unfold eE eV wx;rw[hm]
 unfold oD gz wx;rw[hc];obtain⟨⟨t0,ok,x'⟩,⟨t,s'⟩,⟨⟨hg,hi,hh⟩,hlen⟩,e1,e2⟩:=hv;rw[e1,e2];dsimp only at hg hi hh hlen;refine T2.map (λx9:Bs×aR=>([aB.mk x9.1 c],x9.2)) ?_;rw[aD,aD];dsimp only;rw[nT,aD];rcases hh with⟨hs,hh⟩|⟨hs,hok,MA,-⟩
 ·cases hh;have ht:=hlen hs;have hV:=hg.1.1.1;have hvl:=hV.1;rw[hs,gN,aJ,aJ,show(iK fl s').cj=s'.cj from rfl];have hb:=aqt hV;have HO:=Y1 s'.cj.bX;have hba:=aqs hg.2.1;refine T2.lp (λ(z:J cD×Int×J (Bs×Bs))(y:J cD×Int)=>∃k:Nat,k<=Ts s'.cj.bX/\z=(ur (s'.cj.bX.take k),(k:Int),FN (ur (s'.cj.bX.take k)))/\y=(ur (s'.cj.bX.take k),(k:Int))) (λz=>Ts s'.cj.bX-z.2.1.toNat) ⟨0,fC _,rfl,rfl⟩ (by show s'.cj.bX.length-0<F;omega) ?_;rintro _ _ ⟨k,hk,rfl,rfl⟩ q1 q2 hrc;dsimp only at hrc⊢;have hkl:(ur (s'.cj.bX.take k)).length<=k:=by have:=Y1 (s'.cj.bX.take k);rw[zi]at this;omega
  by_cases hk1:k<Ts s'.cj.bX
  ·have nx:=hrc _ _ ⟨k+1,hk1,rfl,rfl⟩ (by grind);have es:=an5 s'.cj.bX hk1;rw[cm om,cm om];refine T2.ql (mG om om) (T2.qr (mG om om) ?_);rw[bH om,b9,gd hk1];have cp:∀(v:cD),((eK (Ts (ur (s'.cj.bX.take k))+Ts ([v]:J cD)<=9223372036854775807))&&(eK ((Ts (ur (s'.cj.bX.take k))+Ts ([v]:J cD))*32<=140737488355328)))=hJ:=λv=>oQ (by grind) de;refine T2.cb (λnV=>?_) λnV=>?_
   ·rw[nV,aS]at es;rw[es]at nx;refine T2.ql (cp _) (T2.qr (cp _) ?_);unfold FN at nx;rw[Mi]at nx;exact nx
   simp_all
  ·rw[cf om,cf om,uI om];have hE:=aqu hba hb;have hkeys:∀n:Bs,Fx dh (FN (ur s'.cj.bX)) n=hJ↔∃a∈ur s'.cj.bX,a.fName=n:=λn=>by
    rw[aei];have:∀x,x∈ur s'.cj.bX↔∃k,k∈(FN (ur s'.cj.bX)).map (·.1)/\x=K.Bk (FN (ur s'.cj.bX)) k:=λx=>by rw[<-K.DN,hE]
    constructor
    ·intro h;exact⟨_,(this _).2 ⟨n,h,rfl⟩,rfl⟩
    ·rintro⟨a,ha,rfl⟩;obtain⟨k,h1,h2⟩:=(this a).1 ha;rw[h2];exact h1
   have abH:∀n,rj F (ur s'.cj.bX) n=iN (fX dh (FN (ur s'.cj.bX)) n []):=λn=>by rw[K.Qu F _ n om om,<-K.Qv,hE]
   have ao1:∀n,Fx dh (FN (ur s'.cj.bX)) n=eQ->fX dh (FN (ur s'.cj.bX)) n []=[]:=λn h=>by grind[Nc,aei]
   generalize FN (ur s'.cj.bX)=mp at hkeys abH ao1⊢;generalize ur s'.cj.bX=b at hb HO hkeys abH⊢;obtain⟨r,⟨hR,hL,hne⟩,hr⟩:=YY t0 b ht om hb;rw[(hr F hN).1,(hr F hN).2,aD,aD];refine T2.cb (λhe=>?_) λhe=>?_
   ·have he0:r.2.2≠0:=by simpa using he
    obtain⟨w,hw,ew⟩:=an2 F r.2.2;rw[aqv,ew,aD,aD];have l1:eK (Ts t0+Ts ([58,32]:Bs)<=9223372036854775807)=hJ:=eP (by show t0.length+2<=_;omega);have l2:eK (Ts (t0++([58,32]:Bs))+Ts w<=9223372036854775807)=hJ:=decide_eq_true (by grind);refine T2.ql l1 (T2.qr l1 (T2.ql l2 (T2.qr l2 ?_)));rw[L6,uq];exact T2.ok (RR.err hg (RB.one om (fC _)) hs de rfl)
   ·refine T2.lpe (λ(z:Int×aO)(y:Int×aR)=>∃(k:Nat)(u:aR),k<=Ts r.2.1/\mP u/\stop u=eQ/\z=((k:Int),iK fl u)/\y=((k:Int),u)) (λz=>Ts r.2.1-z.1.toNat) (λ(u:aR)(y:Int×aR)=>stop u=hJ/\y.2=u/\∃k:Nat,y.1=(k:Int)/\k<=Ts r.2.1) (λy=>Ts r.2.1-y.1.toNat) (λu (y:Bs×aR)=>y.2=u/\y.1.length<=60) ⟨0,s',fC _,hg,hs,rfl,rfl⟩ (by show r.2.1.length-0<F;omega) ?_ ?_
    ·rintro _ _ ⟨k,u,hk,hu,hsu,rfl,rfl⟩ q1 q2 hrc hex;dsimp only at hrc hex⊢;by_cases hk1:k<Ts r.2.1
     ·have hm:Ts r.2.1-Int.toNat ((k+1:Nat):Int)<Ts r.2.1-Int.toNat (k:Int):=om;rw[cm om,cm om,ck om om,ck om om,ck om om,bH om,b9,gd hk1,abH,aD];have hc1:=hne _ (fm hk1);generalize r.2.1[k]=a at hc1⊢;have go:T2 (λa d=>RR fl (RB 1) a ([aB.mk d.1 c],d.2)) ((j7 F a.fName a.cg (iK fl u)).bind λcA=>cond (!cA.1) (iN ([],eQ,cA.2)) (q1 (((k+1:Nat):Int),cA.2)))
        ((eW F a.fName a.cg u).bind λgi=>q2 (((k+1:Nat):Int),gi)):=by
       refine T2.bd (ags F fl hu hsu a.fName a.cg om) ?_;rintro⟨ok,x2⟩ u2 ⟨hu2,⟨h1,h2⟩|⟨h1,h2,h3⟩⟩
       ·grind
       ·dsimp only at h2 h3;subst h2;rw[qi,aS];obtain⟨y,⟨hy1,hy2⟩,hy⟩:=hex u2 (((k+1:Nat):Int),u2) ⟨h1,rfl,k+1,rfl,hk1⟩ hm;rw[hy];refine T2.ok ⟨?_,RB.one om om,.inr ⟨?_,rfl,?_,rfl⟩⟩
        ·show mP y.2;rw[hy1];exact hu2
        ·show stop y.2=hJ;rw[hy1];exact h1
        ·show Fin x2 y.2;rw[hy1];exact h3
      cases avH:Fx dh mp a.fName with
      | true=>rw[aS,aD];cases sx:(fX dh mp a.fName []==a.cg)with|true=>grind|false=>rw[aJ,qi,aS,ck om om,ck om om];exact go
      | false=>
       rw[aJ,aD,aJ,ao1 _ avH];have hnil:a.cg≠[]:=hc1.resolve_right λh=>by grind
       have:(([]:Bs)==a.cg)=eQ:=by grind
       rw[this,qi,aS,ck om om,ck om om];exact go
     ·rw[cf om,cf om,ajf F om hR,K.LG F om hR,aD,aD,jQ];have:=K.yN hR;exact T2.ok ⟨hu,RB.one om (by show(Lib.itoa r.1).length<=_;omega),.inl ⟨hsu,rfl⟩⟩
    ·rintro u ⟨_,_⟩ ⟨h1,rfl,k,rfl,hk⟩ q2 hrc;dsimp only at h1 hrc⊢;refine aA.cd (λh=>?_) λ_=>?_
     ·have hm:Ts r.2.1-Int.toNat ((k+1:Nat):Int)<Ts r.2.1-Int.toNat (k:Int):=om;rw[ck om om,ck om om,bH om,b9,abH,aD];refine aA.cb (λ_=>?_) λ_=>hrc _ ⟨h1,rfl,k+1,rfl,om⟩ hm;grind[ck,ajg]
     ·rw[K.LG F om hR];exact aA.ok ⟨rfl,K.yN hR⟩
 ·have hok:ok=eQ:=hok;subst hok;rw[hs,aS,qi,aS];exact T2.ok ⟨hg,RB.one om (fC _),.inr ⟨hs,rfl,MA,rfl⟩⟩
def COk(m:dB)(p:cZ):Prop:=m.fP=eQ->m.dM=cond p.DQ 2 0
def Mo(m:dB)(p:cZ):Prop:=m.fP=p.fP/\m.lq=p.lq
def JR(m:dB)(p:cZ)(a b:J aB):Prop:=a.map (·.fText)=b.map (·.fText)/\(COk m p->a=b)
def RJ(fl:J aZ)(k:Nat)(m:dB)(p:cZ)(a:J aB×Bool×aO)(b:J aB×aR):Prop:=mP b.2/\RB k b.1/\((stop b.2=eQ/\a.2=(hJ,iK fl b.2)/\JR m p a.1 b.1)\/(stop b.2=hJ/\a.2.1=eQ/\Fin a.2.2 b.2/\a.1=[]))
def JR.eq{m:dB}{p:cZ}(a:J aB):JR m p a a:=⟨rfl,λ_=>rfl⟩
variable{a:J aB×Bool×aO}{b:J aB×aR}
theorem RR.j{k j:Nat}{m:dB}{p:cZ}(h:RR fl (RB k) a b)(hk:k<=j):RJ fl j m p a b:=by
 obtain⟨h1,h2,⟨h3,h4⟩|h3⟩:=h
 ·exact⟨h1,h2.mono hk,.inl ⟨h3,by rw[h4],by rw[h4];exact JR.eq _⟩⟩
 ·exact⟨h1,h2.mono hk,.inr h3⟩
theorem RJ.rr{k:Nat}{m:dB}{p:cZ}(h:RJ fl k m p a b)(hc:COk m p):RR fl (RB k) a b:=by
 obtain⟨h1,h2,⟨h3,h4,h5⟩|h3⟩:=h
 ·exact⟨h1,h2,.inl ⟨h3,Prod.ext (h5.2 hc) h4⟩⟩
 ·exact⟨h1,h2,.inr h3⟩
def RJ.go{fl:J aZ}{k:Nat}{m:dB}{p:cZ}{r:J aB}{s:aR}(h:mP s)(hi:RB k r)(hs:stop s=eQ):RJ fl k m p (r,hJ,iK fl s) (r,s):=⟨h,hi,.inl ⟨hs,rfl,JR.eq _⟩⟩
theorem ao2(F:Nat){m:dB}{p:cZ}(h:m.fP=p.fP):eE F m=eV F p:=by unfold eE eV wx;rw[h]
def X1(fl:J aZ)(F n:Nat):Prop:=∀(N:Nat)(l:J d6)(m:dB)(p:cZ)(s:aR),Mo m p->mP s->stop s=eQ->eF l<=1000->9*eF l+9<=n->6*eF l+6<=N->T2 (RJ fl (eF l) m p) ((bf F n).1 l m (iK fl s)) ((aF F N).1 l p s)
def X2(fl:J aZ)(F n:Nat):Prop:=∀(N:Nat)(x:d6)(m:dB)(p:cZ)(s:aR),Mo m p->mP s->stop s=eQ->wP x<=1000->9*wP x+8<=n->6*wP x+5<=N->T2 (RJ fl (wP x) m p) ((bf F n).2.1 x m (iK fl s)) ((aF F N).2.1 x p s)
def XV(fl:J aZ)(F n:Nat):Prop:=∀(N:Nat)(l:J d6)(m:dB)(q:Bool)(s:aR),m.fP=q->mP s->stop s=eQ->eF l<=1000->9*eF l+10<=n->6*eF l+7<=N->T2 (λa b=>RV fl a b/\b.1.length<=5000*eF l) ((bf F n).2.2.2.2.1 l m (iK fl s)) ((aF F N).2.2.2.1 l q s)
variable{n:Nat}
theorem aqw(hF:100000000<=F)(h2:X2 fl F n):X1 fl F (n+1):=by
 intro N l m p s hm hs hst hl hn hN;obtain⟨N,rfl⟩:∃k,N=k+1:=⟨N-1,om⟩;have hll:=Dh l;show T2 _ (y9 F (bf F n) l m (iK fl s)) (iC F (aF F N) l p s);refine T2.lpe (λ(z:J aB×Int×aO)(y:J aB×Int×aR)=>∃k:Nat,k<=Ts l/\z.2=((k:Int),iK fl y.2.2)/\y.2.1=(k:Int)/\JR m p z.1 y.1/\RB (eF (l.take k)) y.1/\mP y.2.2/\stop y.2.2=eQ) (λz=>Ts l-z.2.1.toNat)
  (λ(u:aR×J aB)(y:J aB×Int×aR)=>stop u.1=hJ/\y.1=u.2/\y.2.2=u.1/\∃k:Nat,y.2.1=(k:Int)/\k<=Ts l) (λy=>Ts l-y.2.1.toNat) (λu (y:J aB×aR)=>y=(u.2,u.1)) ⟨0,Nat.zero_le _,rfl,rfl,JR.eq _,RB.nil,hs,hst⟩ (by grind) ?_ ?_
 ·rintro⟨a,i,x⟩ ⟨o,i',s⟩ ⟨k,h3,h4,h5,h6,h7,h8,h9⟩ q1 q2 hrc hex;dsimp only at h4 h5 h6 h7 h8 h9 hrc hex⊢;cases h4;subst h5;have hwk:=HH l k;rw[nT,h9];have jl:a.length=Ts o:=by have:=congrArg Ts h6.1;simpa using this
  by_cases hk:k<Ts l
  ·have hwm:=Rz hk;have ha:=Vc hk;have Za:Ts l-Int.toNat ((k+1:Nat):Int)<Ts l-Int.toNat (k:Int):=om;rw[cm om,cm om,aD,aD,qi,aS,ck om om,ck om om,bH om,b9,d6.eta];refine T2.bd (h2 N (l.getD k ko) m p s hm h8 h9 om om om) ?_;rintro⟨r,ok,x'⟩ ⟨r',s'⟩ ⟨g1,g2,g3⟩;dsimp only at g1 g2 g3⊢;have h10:=RB.app h7 g2;rw[<-ha]at h10;have wB:=HH l (k+1);have h11:=h10.1;rw[qg]at h11;have sz:∀a b:Nat,a+b<=26*1000->((eK (a+b<=9223372036854775807))&&(eK ((a+b)*24<=140737488355328)))=hJ:=λa b h=>mG om om;rcases g3 with⟨k1,k2,k3⟩|⟨k1,k2,k3,-⟩
   ·cases k2;have jr:Ts r=Ts r':=by have:=congrArg Ts k3.1;simpa using this
    refine T2.ql (sz _ _ om) (T2.qr (sz _ _ om) (hrc _ _ ⟨k+1,hk,rfl,rfl,⟨?_,λhc=>by rw[h6.2 hc,k3.2 hc]⟩,h10,g1,k1⟩ Za));rw[pO,pO,h6.1,k3.1]
   ·subst k2;refine T2.qr (sz _ _ om) ?_;obtain⟨y,rfl,hy⟩:=hex (s',o++r') (o++r',((k+1:Nat):Int),s') ⟨k1,rfl,rfl,k+1,rfl,hk⟩ Za;rw[hy];exact T2.ok ⟨g1,h10.mono om,.inr ⟨k1,rfl,k3,rfl⟩⟩
  ·rw[cf om,cf om,aD,aJ];rw[uI om]at h7;exact T2.ok ⟨h8,h7,.inl ⟨h9,rfl,h6⟩⟩
 simp_all[nT,aA.ok]
theorem agt{a b:J aB}(h:a.map (·.fText)=b.map (·.fText)):gJ a=gJ b:=by unfold gJ;grind
theorem aqx{a b:J aB}(h:a.map (·.fText)=b.map (·.fText)):bV a=bV b:=by rw[<-vN,<-vN,agt h]
theorem aqy(hF:100000000<=F)(h1:X1 fl F n):XV fl F (n+1):=by
 intro N l m q s hm hs hst hl hn hN;obtain⟨N,rfl⟩:∃k,N=k+1:=⟨N-1,om⟩;show T2 _ (za F (bf F n) l m (iK fl s)) (jm F (aF F N) l q s);refine T2.bd (h1 N l {m with lq:=eQ} (cZ.mk q eQ eQ) s ⟨hm,rfl⟩ hs hst hl om om) ?_;rintro⟨r,ok,x'⟩ ⟨r',s'⟩ ⟨g1,g2,g3⟩;dsimp only at g1 g2 g3⊢;have z1:=g2.1;have z2:=g2.2;have e18:=alo F r' om om om;have etx:(r'.flatMap λr=>r.fText)=gJ r':=rfl;rw[e18];have hlen:=vN r';rcases g3 with⟨k1,k2,k3⟩|⟨k1,k2,k3,-⟩
 ·cases k2;have jr:Ts r=Ts r':=by have:=congrArg Ts k3.1;simpa using this
  have js:=aqx k3.1;rw[gN,aJ,T7 F r om om om,agt k3.1];refine T2.cb (λh=>?_) λh=>T2.ok ⟨⟨⟨g1,by grind,.inl ⟨k1,rfl⟩⟩,λ_=>?_⟩,by simp_all⟩
  ·rw[uq];refine T2.ok ⟨⟨RR.err g1 (by grind) k1 de rfl,λh=>?_⟩,by simp_all⟩;grind[aln]
  grind
 ·subst k2;rw[qi,aS,uq,k1,aS];refine T2.cr (λ_=>T2.ok ?_) λ_=>T2.ok ?_
  all_goals exact⟨⟨⟨g1,by grind,.inr ⟨k1,rfl,k3,rfl⟩⟩,λh=>by rw[k1]at h;cases h⟩,by simp_all⟩
variable{R:Type}
theorem aA.eqv{x:O R}{v:R}(h:aA (λr=>r=v) x):x=iN v:=by obtain⟨r,h,e⟩:=h;rw[e,h]
def sQ(o:J aB)(r:aB):J aB:=cond (r.fText==[]) o (cond (eK (0<Ts o)&&((o.getD (Ts o-1) dy).aI==r.aI)) (o.set (Ts o-1) (aB.mk ((o.getD (Ts o-1) dy).fText++r.fText) (o.getD (Ts o-1) dy).aI)) (o++[r]))
def pL(l:J aB):J aB:=l.foldl sQ []
theorem aej:∀(l:J aB)(k:Nat)(t:Bs)(c:Int),k<Ts l->bV (l.set k (aB.mk ((l.getD k dy).fText++t) c))=bV l+Ts t
 | [],k,t,c,h=>absurd h (agX _)|a::l,0,t,c,h=>by unfold bV;grind|a::l,k+1,t,c,h=>by have:=aej l k t c (by simpa using h);show bV (a::l.set k (aB.mk ((l.getD k dy).fText++t) c))=_;unfold bV at this⊢;simp only[jF,O0];omega
theorem an6(o:J aB)(r:aB):bV (sQ o r)=bV o+Ts r.fText/\(sQ o r).length<=Ts o+1:=by
 unfold sQ;cases h1:(r.fText==[])with
 | true=>simp_all|false=>
  cases h2:(eK (0<Ts o)&&((o.getD (Ts o-1) dy).aI==r.aI))with
  | true=>grind[aej,List.length_set]|false=>refine⟨?_,by simp_all⟩;show bV (o++[r])=_;rw[Du];simp[bV]
theorem NH:∀(l o:J aB),bV (l.foldl sQ o)=bV o+bV l/\(l.foldl sQ o).length<=Ts o+Ts l
 | [],o=>⟨by simp[bV],si⟩|r::l,o=>by obtain⟨h1,h2⟩:=NH l (sQ o r);obtain⟨h3,h4⟩:=an6 o r;rw[vZ];refine⟨by rw[h1,h3];simp[bV];omega,aQ⟩
theorem agu(F:Nat)(l:J aB)(f:J aB->R)(hF:Ts l<F)(h1:Ts l<=1000000)(h2:bV l<=100000000):
  bW (σ:=Int×(J aB)) (R:=R) (λiG x2=>
   cond (eK (x2.1<(Ts l:Int)))
   (rq ((eK (0<=x2.1))&&(eK (x2.1<(Ts l:Int)))) (cond (((l.getD (eJ x2.1) dy).fText)==[])
   (iG (aE (x2.1+1),x2.2))
   ((cond (eK (0<=aE ((Ts x2.2:Int)-1)))
   (rq ((eK (0<=aE ((Ts x2.2:Int)-1)))&&(eK (aE ((Ts x2.2:Int)-1)<(Ts x2.2:Int)))) (iN (((x2.2.getD (eJ (aE ((Ts x2.2:Int)-1))) dy).aI)==((l.getD (eJ x2.1) dy).aI),x2.2)))
   (iN (eQ,x2.2)):O (Bool×(J aB))).bind λx4=>
   cond x4.1
   (rq ((eK (0<=aE ((Ts x2.2:Int)-1)))&&(eK (aE ((Ts x2.2:Int)-1)<(Ts x4.2:Int)))) (rq (eK (Ts ((x4.2.getD (eJ (aE ((Ts x2.2:Int)-1))) dy).fText)+Ts ((l.getD (eJ x2.1) dy).fText)<=9223372036854775807)) (rq ((eK (0<=aE ((Ts x2.2:Int)-1)))&&(eK (aE ((Ts x2.2:Int)-1)<(Ts x4.2:Int)))) (iG (aE (x2.1+1),x4.2.set (eJ (aE ((Ts x2.2:Int)-1))) (aB.mk (((x4.2.getD (eJ (aE ((Ts x2.2:Int)-1))) dy).fText)++((l.getD (eJ x2.1) dy).fText)) ((x4.2.getD (eJ (aE ((Ts x2.2:Int)-1))) dy).aI)))))))
   (rq ((eK (Ts x4.2+Ts ([(l.getD (eJ x2.1) dy)]:J aB)<=9223372036854775807))&&(eK ((Ts x4.2+Ts ([(l.getD (eJ x2.1) dy)]:J aB))*24<=140737488355328))) (iG (aE (x2.1+1),x4.2++([(l.getD (eJ x2.1) dy)]:J aB)))))))
   (iN (f x2.2))) F (0,([]:J aB))=iN (f (pL l)):=by
 refine aA.eqv ?_;refine aA.lp (λz:Int×J aB=>∃k:Nat,z.1=(k:Int)/\k<=Ts l/\z.2=pL (l.take k)) (λz=>Ts l-z.1.toNat) ⟨0,rfl,fC _,rfl⟩ (by simp_all) ?_;rintro⟨i,o⟩ ⟨k,q1,hk,q2⟩ rc hrc;dsimp only at q1 q2 hrc⊢;subst q1;refine aA.cd (λh=>?_) λh=>?_
 ·have hk:k<Ts l:=om;have hm:Ts l-Int.toNat ((k+1:Nat):Int)<Ts l-Int.toNat (k:Int):=om;have es:pL (l.take (k+1))=sQ o l[k]:=by unfold pL;rw[kT hk,Mi,q2];rfl
  obtain⟨b1,b2⟩:=NH (l.take k) [];rw[show(l.take k).foldl sQ []=o from q2.symm]at b1 b2;have b3:=vM l k;have b5:=vM l (k+1);have b6:=rX l k hk;have z0:bV ([]:J aB)=0:=rfl;simp only[Da]at b2;have nx:∀o',o'=sQ o l[k]->aA (λr=>r=f (pL l)) (rc (((k+1:Nat):Int),o')):=λo' ho=>hrc _ ⟨k+1,rfl,hk,by rw[es];exact ho⟩ hm;rw[ck om om,bH om,b9,gd hk];generalize l[k]=a at nx b6⊢;refine aA.cb (λha=>nx o (by unfold sQ;rw[ha];rfl)) λha=>?_;by_cases h0:0<Ts o
  ·have e1:aE ((Ts o:Int)-1)=((Ts o-1:Nat):Int):=by grind[bO]
   rw[e1,cm om,ck om om,b9,aD]
   refine aA.cb (λhc=>?_) λhc=>aA.rq (oQ (by grind) de) (nx _ (by
    unfold sQ;grind))
   have hle:(o.getD (Ts o-1) dy).fText.length<=bV o:=by have hlt:Ts o-1<Ts o:=om;rw[gd hlt];have:=rX o (Ts o-1) hlt;grind
   refine aA.rq (mG om (by dsimp only;omega)) (aA.rq (decide_eq_true (by dsimp only;omega)) (aA.rq (mG om (by dsimp only;omega)) (nx _ ?_)));unfold sQ;grind
  ·have e1:aE ((Ts o:Int)-1)=-1:=by simp_all[bO]
   rw[e1,cf om,aD];exact aA.rq (oQ (by simp_all) de) (nx _ (by unfold sQ;grind))
 simp_all[uI,aA.ok]
def RPt(fl:J aZ)(k:Nat)(a:J aB×Bool×aO)(b:J aB×aR):Prop:=mP b.2/\RB k b.1/\((stop b.2=eQ/\a=(pL b.1,hJ,iK fl b.2))\/(stop b.2=hJ/\a.2.1=eQ/\Fin a.2.2 b.2))
theorem ao3(F:Nat)(t:Bs):vW F t=iN ((t==[64])||(t==[42])):=by unfold vW wx;rw[aH];rfl
theorem aqz(F:Nat)(o:Int)(c s:Bool)(v:Bs):CP F o c s v=uh F o c s v:=by unfold CP uh wx;simp only[aH,aD];grind
theorem als(hF:100000000<=F)(h1:X1 fl F n)(N:Nat)(l:J d6)(s:aR)(hs:mP s)(hst:stop s=eQ)(hl:eF l<=1000)(hn:9*eF l+9<=n)(hN:6*eF l+6<=N):
  T2 (RPt fl (eF l)) ((bf F (n+1)).2.2.2.2.2.2.1 l (iK fl s)) ((aF F N).1 l (cZ.mk eQ eQ eQ) s):=by
 show T2 _ (qA F (bf F n) l (iK fl s)) _;unfold qA wx;obtain⟨⟨r,ok,x'⟩,⟨r',s'⟩,h,e1,e2⟩:=h1 N l (dB.mk eQ eQ 0) (cZ.mk eQ eQ eQ) s ⟨rfl,rfl⟩ hs hst hl hn hN;have h:=h.rr (λ_=>rfl);rw[e1,e2,aD];obtain⟨g1,g2,⟨k1,k2⟩|⟨k1,k2,k3,k4⟩⟩:=h
 ·cases k2;have z1:=g2.1;have z2:=g2.2;dsimp only at z1 z2⊢;rw[agu F _ (λo=>(o,hJ,iK fl s')) om om om];exact T2.ok ⟨g1,g2,.inl ⟨k1,rfl⟩⟩
 ·have k4:=k4;subst k2 k4;rw[agu F [] (λo=>(o,eQ,x')) aQ si (by simp[bV])];exact T2.ok ⟨g1,g2,.inr ⟨k1,rfl,k3⟩⟩
theorem alu(hF:100000000<=F)(hv:XV fl F n)(N:Nat)(x:d6)(m:dB)(p:cZ)(s:aR)(hm:m.fP=p.fP)(hs:mP s)(hst:stop s=eQ)(hl:wP x<=1000)(hn:9*eF x.fParts+10<=n)(hN:6*eF x.fParts+7<=N):
  T2 (λa b=>mP b/\stop b=hJ/\a.1=eQ/\Fin a.2 b) ((bf F (n+1)).2.2.2.2.2.2.2.2 x m (iK fl s)) ((aF F (N+1)).2.2.2.2.2 x p s):=by
 have hw:=EF x;show T2 _ (qB F (bf F n) x m (iK fl s)) (gC F (aF F N) x p s);unfold qB gC wx;rw[aH,aD];have l1:eK (Ts x.fText+Ts ([58,32]:Bs)<=9223372036854775807)=hJ:=decide_eq_true (by grind);have bad:∀(t:Bs)(u:aR),mP u->stop u=eQ->mP (cond (stop u) u {u with fe:=32,fK:=t})/\stop (cond (stop u) u {u with fe:=32,fK:=t})=hJ/\Fin {iK fl u with fK:=t,xS:=32} (cond (stop u) u {u with fe:=32,fK:=t}):=λt u hu hsu=>⟨NG hu _ _,(failed (fl:=fl) hsu de).1,(failed hsu de).2⟩;by_cases h0:0<Ts x.fParts
 ·rw[cm om];obtain⟨⟨t0,ok,x'⟩,⟨t,s'⟩,⟨⟨⟨hg,hi,hh⟩,hlen⟩,-⟩,e1,e2⟩:=hv N x.fParts m p.fP s hm hs hst om hn hN;rw[e2];rcases hh with⟨k1,k2⟩|⟨k1,k2,k3,k4⟩
  ·cases k2;grind[T2.ql,T2.qr,L6,uq,T2.ok]
  ·subst k2;grind[T2.qr,uq,T2.ok]
 ·rw[cf om,cf om];cases x.fColon with
  | true=>refine T2.ql (eP (by show x.fText.length+27<=_;omega)) (T2.qr l1 (T2.qr (eP (by rw[qg];show x.fText.length+2+25<=_;omega)) ?_));simp_all[L6,uq,T2.ok]
  | false=>refine T2.ql (eP (by show x.fText.length+19<=_;omega)) (T2.qr l1 (T2.qr (eP (by rw[qg];show x.fText.length+2+17<=_;omega)) ?_));simp_all[L6,uq,T2.ok]
def Xo(F:Nat):Prop:=∀(op:Int)(v:Bs)(l:J aB),6<=op->op<=9->Ts v<=4096->Ts l<=26000->bV l<=5000000 ->
 T2 (λa b=>a=b/\b.length<=Ts v) ((eR F (pL l)).bind λp=>G7 F op v p) ((gE F l).bind λp=>GX F op v p)
theorem T2.bd2{A X Y:Type}{Q:A->B->Prop}{x:O X}{y:O Y}{f:X->O C}{g:Y->O D}{h:C->O A}{h':D->O B}(t:T2 P (x.bind f) (y.bind g))(k:∀a b,P a b->T2 Q (h a) (h' b)):T2 Q (x.bind λa=>(f a).bind h) (y.bind λb=>(g b).bind h'):=by rw[<-U1,<-U1];exact T2.bd t k
theorem aus{X Y:Type}{y:O X}{g:X->O D}{h:D->O Y}{b:D}(e:(y.bind g)=iN b):(y.bind λb=>(g b).bind h)=h b:=by rw[<-U1,e];rfl
theorem pid{A:Type}(y:O (A×B×C)):(y.bind λx=>iN (x.1,x.2.1,x.2.2))=y:=by cases y<;>rfl
theorem asK{A:Type}(y:O (A×B)):(y.bind λx=>iN (x.1,x.2))=y:=by cases y<;>rfl
theorem trB(o:Int):(cond (o==6) (o==6) (cond (o==7) (o==7) (cond (o==8) (o==8) (o==9))))=cond (eK (6<=o)) (eK (o<=9)) eQ:=by rw[cF];grind
theorem aqA(F:Nat)(fl:J aZ)(h:mP s)(n v:Bs)(m:dB)(p:cZ)(hm:Mo m p)(hv:Ts v<=4096)(hF:1000<F):T2 (λa b=>a=b/\RB 1 b) (oP F n v m (iK fl s)) (nL F n v p s):=by
 obtain⟨r,hr,er⟩:=aqp F h.1 n v p hv hF;refine⟨r,r,⟨rfl,hr⟩,?_,er⟩;rw[<-er];obtain⟨m1,m2⟩:=hm;unfold oP nL wx;rw[ao3,ao2 F m1,m1,m2,show(iK fl s).cj=s.cj from rfl];simp only[aH,aD];obtain⟨c,hc⟩:=Sn F p;have e:cond (cond (!p.lq) hJ (!((n==[64])||(n==[42])))) hJ (cond (n==[42]) p.fP eQ)=cond (cond (!p.lq) hJ (cond (!(n==[64])) (!(n==[42])) eQ)) hJ (cond p.fP (n==[42]) eQ):=by grind
 rw[e];cases (cond (cond (!p.lq) hJ (cond (!(n==[64])) (!(n==[42])) eQ)) hJ (cond p.fP (n==[42]) eQ))with
 | true=>rfl|false=>
  rw[aJ];congr 1;funext rc z;cases hd:eK (z.2<(Ts s.cj.dc:Int))with
  | false=>rfl|true=>cases h0:eK (0<=z.2)with|false=>grind|true=>rfl
theorem aqB(hF:100000000<=F)(hT:Xo F)(h1:∀k,k<n->X1 fl F k)(hV:∀k,k<n->XV fl F k)(N:Nat)(x:d6)(m:dB)(p:cZ)(s:aR)(hm:Mo m p)(hs:mP s)(hst:stop s=eQ)(hx:wP x<=1000)(hn:9*wP x+7<=n)(hN:6*wP x+4<=N):
  T2 (RJ fl (wP x) m p) ((bf F n).2.2.2.2.2.1 x m (iK fl s)) ((aF F N).2.2.2.2.1 x p s):=by
 have hw:=EF x;obtain⟨j,rfl⟩:∃j,n=j+3:=⟨n-3,om⟩;obtain⟨M,rfl⟩:∃j,N=j+2:=⟨N-2,om⟩;show T2 _ (o8 F (bf F (j+2)) x m (iK fl s)) (gA F (aF F (M+1)) x p s);unfold o8 gA wx;obtain⟨⟨v,st⟩,hv,ev⟩:=aqo F hs.1.1 x.fText om om;rw[show zX F (iK fl s).cj x.fText=kS F s.cj x.fText from asH F hs.1.1 x.fText om om,ev,aD,aD];obtain⟨c,hc⟩:=Sn F p;have hmc:eE F m=iN c:=by rw[ao2 F hm.1,hc]
 have htr:Ey F x.fOp=iN (cond (eK (6<=x.fOp)) (eK (x.fOp<=9)) eQ):=by unfold Ey wx;rw[aH];rfl
 simp only[ao3,htr,hc,hmc,aH,aD,trB,cT];dsimp only at hv⊢;rw[show(iK fl s).cj=s.cj from rfl];generalize htB:cond (eK (6<=x.fOp)) (eK (x.fOp<=9)) eQ=tr;generalize hnb:((nu .i64 s.cj.ir 2) != 0)=nb;have l1:eK (Ts x.fText+Ts ([58,32,112,97,114,97,109,101,116,101,114,32,110,111,116,32,115,101,116]:Bs)<=9223372036854775807)=hJ:=eP (by show x.fText.length+19<=_;omega);have key:∀A B:O (Unit ⊕ (J aB×Bool×aO)),(cond (cond (x.fOp==0) (x.fOp==0) (cond (x.fOp==5) (x.fOp==5) tr)) (cond (cond (cond nb (!st) eQ) (!((x.fText==[64])||(x.fText==[42]))) eQ) A B) B)=cond (cond (cond (cond nb (!((x.fText==[64])||(x.fText==[42]))) eQ) (!st) eQ) ((x.fOp==0)||((x.fOp==5)||tr)) eQ) A B:=λA B=>by grind
 rw[key];have one:∀(t:Bs)(u:aR),Ts t<=5000*wP x->mP u->stop u=eQ->T2 (RJ fl (wP x) m p) ((iD F t c).bind λgp=>iN (gp,hJ,iK fl u)) (iN ([aB.mk t c],u)):=λt u ht hu hsu=>T2.ok (RJ.go hu (RB.one om ht) hsu);cases (cond (cond (cond nb (!((x.fText==[64])||(x.fText==[42]))) eQ) (!st) eQ) ((x.fOp==0)||((x.fOp==5)||tr)) eQ)with
 | true=>rw[aS,aS,cy l1,cy l1,L6,uq];exact T2.ok (RR.j (RR.err hs (RB.nil (k:=1)) hst de rfl) om)|false=>
  rw[aJ,aJ];show T2 _ (cond (x.fOp==5) _ _) _;have R:∀k:Nat,k<=1000000->K.ic (k:Int):=λk hk=>⟨om,om⟩;have dec:∀k:Nat,k<=1000000->T2 (RJ fl (wP x) m p) ((qw F (k:Int)).bind λgi=>(iD F gi c).bind λgp=>iN (gp,hJ,iK fl s)) ((dW F (k:Int)).bind λx9=>iN ([aB.mk x9 c],s)):=λk hk=>by grind[K.yN,ajf,K.LG]
  cases h5:(x.fOp==5)with
  | true=>rw[aS,aS,aS];have hp:=hs.1.1.2.1;show T2 _ ((qw F (cond ((x.fText==[64])||(x.fText==[42])) (Ts s.cj.dc:Int) (Ts v:Int))).bind _) _;grind
  | false=>
   rw[aJ,aJ,aJ,aJ];cases tr with
   | true=>
    rw[aS,aS];have hop:6<=x.fOp/\x.fOp<=9:=by simp_all
    refine T2.bd (als hF (h1 (j+1) om) (M+1) x.fParts s hs hst om om om) ?_;rintro⟨r,ok,x'⟩ ⟨r',s'⟩ ⟨g1,g2,g3⟩;dsimp only at g1 g2 g3⊢;have z1:=g2.1;have z2:=g2.2;have hTr:=hT x.fOp v r' hop.1 hop.2 hv om om;rcases g3 with⟨k1,k2⟩|⟨k1,k2,k3⟩
    ·cases k2;rw[gN,aJ];refine T2.bd2 hTr ?_;grind
    ·have k2:ok=eQ:=k2;subst k2;rw[qi,aS];obtain⟨a,b,⟨-,hb⟩,-,e2⟩:=hTr;rw[aus e2];exact T2.ok ⟨g1,RB.one om om,.inr ⟨k1,rfl,k3,rfl⟩⟩
   | false=>
    rw[aJ,aJ,d6.eta,pid];show T2 _ (rF F (bf F (j+1)) x m v st (iK fl s)) _;unfold rF wx;rw[aqz];obtain⟨ch,hch⟩:=an3 F x.fOp x.fColon st v;rw[hch,aD,aD,hmc];simp only[pid,asK,d6.eta];refine T2.cb (λ_=>?_) λ_=>T2.cb (λ_=>one [] s (fC _) hs hst) λ_=>T2.cb (λ_=>?_) λ_=>T2.cb (λ_=>?_) λ_=>?_
    ·refine T2.mono (h1 (j+1) om (M+1) x.fParts {m with dM:=2} {p with DQ:=hJ} s hm hs hst om om om) ?_;rintro a b h;exact RR.j (h.rr λ_=>rfl) om
    ·rw[K.Ij F _ om];obtain⟨nm,-,enm⟩:=Gi F x.fText om;rw[enm,aD,aD];have l3:eK (Ts x.fText+Ts ([58,32,99,97,110,110,111,116,32,97,115,115,105,103,110]:Bs)<=9223372036854775807)=hJ:=eP (by show x.fText.length+15<=_;omega);refine T2.cb (λ_=>?_) λ_=>?_
     ·rw[cy l3,cy l3,L6,uq];exact T2.ok (RR.j (RR.err hs (RB.nil (k:=1)) hst de rfl) om)
     ·refine T2.bd (hV (j+1) om (M+1) x.fParts m p.fP s hm.1 hs hst om om om) ?_;rintro⟨t0,ok,x'⟩ ⟨t,s'⟩ ⟨⟨⟨g1,g2,g3⟩,g4⟩,g5⟩;dsimp only at g1 g2 g3 g4 g5⊢;have ht:Ts t<=5000*wP x:=by grind
      rcases g3 with⟨k1,k2⟩|⟨k1,k2,k3,k4⟩
      ·cases k2;rw[gN,aJ];refine T2.l (P:=λy:Bool×aO=>∃s2,eW F x.fText t0 s'=iN s2/\mP s2/\((stop s2=eQ/\y=(eQ,iK fl s2))\/(stop s2=hJ/\y.1=hJ/\Fin y.2 s2))) ?_ ?_
       ·obtain⟨⟨a1,a2⟩,s2,⟨b1,b2⟩,e1,e2⟩:=ags F fl g1 k1 x.fText t0 om;simp_all[aD,aA.ok]
       ·rintro⟨a1,a2⟩ ⟨s2,e2,b1,b2⟩;rw[e2,aD];rcases b2 with⟨b2,b3⟩|⟨b2,b3,b4⟩
        ·simp_all
        ·have b3:a1=hJ:=b3;subst b3;exact T2.ok ⟨b1,RB.one om ht,.inr ⟨b2,rfl,b4,rfl⟩⟩
      ·have k2:ok=eQ:=k2;subst k2;rw[qi,aS,aD,ajg F k1,aD];exact T2.ok ⟨g1,RB.one om ht,.inr ⟨k1,rfl,k3,rfl⟩⟩
    ·refine T2.bd (alu hF (hV j om) M x m p s hm.1 hs hst hx om om) ?_;rintro⟨a1,a2⟩ s2 ⟨b1,b2,b3,b4⟩;have b3:a1=eQ:=b3;subst b3;exact T2.ok ⟨b1,RB.nil,.inr ⟨b2,rfl,b4,rfl⟩⟩
    ·refine T2.bd (aqA F fl hs x.fText v m p hm hv om) ?_;rintro a b ⟨rfl,hb⟩;exact T2.ok (RJ.go hs (hb.mono om) hst)
theorem avI(F:Nat)(p:d6)(f:Bool->O R):((cond (p.fKind==4) (iN (p.fText==([64]:Bs))) (iN eQ):O Bool).bind λx4=>(cond x4 (iN (p.fOp==0)) (iN eQ):O Bool).bind f)=(xU F p).bind f:=by unfold xU wx;grind
theorem aut(F:Nat){l:J bP}(hl:Ts l<=128)(hF:1000<F)(n:Bs)(A:bP->O R)(B:O R):((xY F l n).bind λx5=>(cond x5.2 (iN x5.1.cK) (iN eQ):O Bool).bind λx6=>cond x6 (A x5.1) B)=cond (jH l n).1.cK (A (jH l n).1) B:=by
 rw[aje F _ _ om om];have hb:(jH l n).2=eQ->(jH l n).1=bP.mk [] [] eQ eQ eQ:=by unfold jH;cases l.find? _<;>simp
 grind
theorem asL(hN':NC<=F)(hF:100000000<=F)(hT:Xo F)(h1:∀k,k<n->X1 fl F k)(hV:∀k,k<n->XV fl F k):X2 fl F n:=by
 intro N x m p s hm hs hst hx hn hN;have hw:=EF x;obtain⟨j,rfl⟩:∃j,n=j+2:=⟨n-2,om⟩;obtain⟨M,rfl⟩:∃j,N=j+2:=⟨N-2,om⟩;show T2 _ (th F (bf F (j+1)) x m (iK fl s)) (gY F (aF F (M+1)) x p s);unfold th gY wx;obtain⟨c,hc⟩:=Sn F p;obtain⟨d,hd⟩:=asF F p;simp only[pid,d6.eta];have one:∀(t:Bs)(c:Int),Ts t<=5000*wP x->T2 (RJ fl (wP x) m p) ((iD F t c).bind λgp=>iN (gp,hJ,iK fl s)) (iN ([aB.mk t c],s)):=λt c ht=>T2.ok (RJ.go hs (RB.one om ht) hst);refine T2.cb (λ_=>?_) λ_=>T2.cb (λ_=>one _ _ om) λ_=>T2.cb (λ_=>?_) λ_=>T2.cb (λ_=>?_) λ_=>T2.cb (λ_=>?_) λ_=>T2.cb (λ_=>?_) λ_=>T2.cb (λ_=>?_) λ_=>T2.ok (RJ.go hs RB.nil hst)
 ·
  have hl:∃d',rN F m=iN d'/\(COk m p->d'=d):=by unfold rN wx;unfold rB wx at hd;rw[<-hm.1]at hd;unfold COk;grind
  obtain⟨d',hd',he⟩:=hl;rw[hd,hd',aD,aD];exact T2.ok ⟨hs,RB.one om (by grind),.inl ⟨hst,rfl,rfl,λh=>by rw[he h]⟩⟩
 ·
  show T2 _ (rE F (bf F j) x m (iK fl s)) _;unfold rE wx;have hkl:=Dh x.fParts
  have rl:∀(r:J aB)(u:aR),aA (λy=>y=(r,u)\/(r=[]/\y=([aB.mk [] 1],u))) (bW (σ:=Int) (R:=(J aB)×aR) (λmD x3=>
    cond (eK (x3<(Ts x.fParts:Int)))
    (rq ((eK (0<=x3))&&(eK (x3<(Ts x.fParts:Int)))) ((xU F (x.fParts.getD (eJ x3) ko)).bind λx5=>
    cond x5
    (iN (r,u))
    (mD (aE (x3+1)))))
    (cond ((Ts r:Int)==0)
    (iN (([(aB.mk [] 1)]:J aB),u))
    (iN (r,u)))) F 0):=λr u=>by
   refine aA.lp (λi:Int=>∃k:Nat,i=(k:Int)/\k<=Ts x.fParts) (λi=>Ts x.fParts-i.toNat) ⟨0,rfl,om⟩ (by grind) ?_;rintro _ ⟨k,rfl,hk⟩ rc hrc;refine aA.cd (λh=>?_) λ_=>aA.cb (λh=>aA.ok (.inr ⟨ag1.1 (by simp_all),rfl⟩)) λ_=>aA.ok (.inl rfl);obtain⟨b,hb⟩:=aoZ F (x.fParts.getD (eJ (k:Int)) ko);rw[ck om om,hb,aD,bH om];exact aA.cb (λ_=>aA.ok (.inl rfl)) λ_=>hrc _ ⟨k+1,rfl,om⟩ (by grind)
  refine T2.bd (h1 j om (M+1) x.fParts (dB.mk hJ m.lq 0) (cZ.mk hJ eQ p.lq) s ⟨rfl,hm.2⟩ hs hst om om om) ?_;intro a b h;have h:=h.rr (λh=>nomatch h);obtain⟨r,ok,x'⟩:=a;obtain⟨r',s'⟩:=b;obtain⟨g1,g2,⟨k1,k2⟩|⟨k1,k2,k3,k4⟩⟩:=h
  ·cases k2;dsimp only at g1 g2 k1⊢;rw[gN,aJ];by_cases h0:0<Ts r'
   ·rw[cm om];obtain⟨y,hy,e⟩:=rl r' s';rw[e];rcases hy with rfl|⟨h,_⟩
    ·exact T2.ok (RJ.go g1 (g2.mono om) k1)
    simp_all
   ·rw[cf om];have hnil:r'=[]:=ag1.1 om;subst hnil;refine T2.lp (λ(i i':Int)=>∃k:Nat,i=(k:Int)/\i'=(k:Int)/\k<=Ts x.fParts) (λi=>Ts x.fParts-i.toNat) ⟨0,rfl,rfl,om⟩ (by grind) ?_;rintro _ _ ⟨k,rfl,rfl,hk⟩ q1 q2 hrc;refine T2.cb (λh=>?_) λ_=>T2.ok (RJ.go g1 (RB.one om (fC _)) k1);have h:=Bl h;have e:=avI (R:=J aB×Bool×aO) F (x.fParts.getD (eJ (k:Int)) ko);obtain⟨b,hb⟩:=aoZ F (x.fParts.getD (eJ (k:Int)) ko);refine T2.ql (mG om om) (T2.qr (mG om om) ?_);rw[e,hb,aD,aD,bH om];exact T2.cb (λ_=>T2.ok (RJ.go g1 RB.nil k1)) λ_=>hrc _ _ ⟨k+1,rfl,rfl,om⟩ (by grind)
  ·have k2:ok=eQ:=k2;have k4:r=[]:=k4;subst k2 k4;dsimp only at g1 g2 k1 k3⊢;rw[qi,aS];obtain⟨y,hy,e⟩:=rl r' s';rw[e];rcases hy with rfl|⟨_,rfl⟩
   ·exact T2.ok ⟨g1,g2.mono om,.inr ⟨k1,rfl,k3,rfl⟩⟩
   ·exact T2.ok ⟨g1,RB.one om (fC _),.inr ⟨k1,rfl,k3,rfl⟩⟩
 ·
  have hl:=hs.1.1.1.1;have hv:=(RC hs.1.1.1 [72,79,77,69]).2;have e:=aut F (l:=s.cj.bX) hl om [72,79,77,69] (λv=>(iD F v.cg 1).bind λx7=>iN (x7,hJ,iK fl s)) ((iD F [126] 0).bind λx8=>iN (x8,hJ,iK fl s));rw[show(iK fl s).cj=s.cj from rfl,e,z7 F s.cj.bX _ om om,aD];grind
 ·
  exact(avG F fl hs hst x m p hm.1 om).mono λa b h=>RR.j h om
 ·
  have:=asJ hN' hF fl (bf F j) (aF F M) x m p hm.1 s ((hV j om M x.fParts (dB.mk hJ eQ 0) hJ s rfl hs hst om om om).mono λa b h=>h.1);exact this.mono λa b h=>RR.j h om
 grind[aqB,asK]
theorem ao4(hN':NC<=F)(hF:100000000<=F)(hT:Xo F):∀n,X1 fl F n:=by
 intro n
 induction n using Nat.strongRecOn with
 | ind n ih=>
  cases n with
  | zero=>intro N l m p s _ _ _ _ h _;omega|succ n=>
   have hV:∀k,k<n+1->XV fl F k:=λk hk=>by cases k with|zero=>intro N l m q s _ _ _ _ h _;omega|succ k=>grind[aqy]
   grind[aqw,asL]
def ajh(it:aC)(t:Bs):Prop:=it.fKind=3\/∃b,t=[b]/\Uc it (b.toNat:Int)=hJ
def Mt:J aC->Bs->Prop|[],s=>s=[]|it::p,s=>∃a b,s=a++b/\ajh it a/\Mt p b
theorem Sp:∀(p:J aC)(it:aC)(s:Bs),Mt (p++[it]) s↔∃a b,s=a++b/\Mt p a/\ajh it b
 | [],it,s=>by
  constructor
  ·rintro⟨a,b,rfl,h,rfl⟩;exact⟨[],a,si,rfl,h⟩
  ·rintro⟨a,b,rfl,rfl,h⟩;exact⟨b,[],si,h,rfl⟩
 | x::p,it,s=>by
  constructor
  ·rintro⟨a,b,rfl,h,hb⟩;obtain⟨c,d,rfl,h1,h2⟩:=(Sp p it b).1 hb;exact⟨a++c,d,si,⟨a,c,rfl,h,h1⟩,h2⟩
  ·rintro⟨a,b,rfl,⟨c,d,rfl,h1,h2⟩,h3⟩;exact⟨c,d++b,si,h1,(Sp p it _).2 ⟨d,b,rfl,h2,h3⟩⟩
theorem an7{it:aC}{t:Bs}(h:ajh it t):ajh it t.reverse:=by
 rcases h with h|⟨b,rfl,h⟩
 ·exact .inl h
 ·exact .inr ⟨b,rfl,h⟩
theorem aek:∀(p:J aC)(s:Bs),Mt p s->Mt p.reverse s.reverse
 | [],s,h=>by obtain rfl:s=[]:=h;rfl
 | it::p,s,h=>by obtain⟨a,b,rfl,h1,h2⟩:=h;rw[List.reverse_cons,List.reverse_append];exact(Sp _ _ _).2 ⟨_,_,rfl,aek p b h2,an7 h1⟩
theorem agv(f:Nat->Bool):∀k,upE f k=hJ↔∃j,j<=k/\f j=hJ
 | 0=>⟨λh=>⟨0,ep _,h⟩,λ⟨j,h,e⟩=>by rwa [show j=0 by omega]at e⟩
 | k+1=>by
  rw[upE,Mh,agv f k];constructor
  ·rintro (h|⟨j,h,e⟩)
   ·exact⟨k+1,ep _,h⟩
   ·exact⟨j,om,e⟩
  ·rintro⟨j,h,e⟩;by_cases hj:j=k+1
   ·subst hj;exact .inl e
   ·exact .inr ⟨j,om,e⟩
theorem Rc(p:J aC)(s:Bs):∀i,i<=Ts p->∀k,k<=Ts s->(EE p s i k=hJ↔Mt (p.take i) (s.take k))
 | 0,_,k,hk=>by show(k==0)=hJ↔s.take k=[];rw[List.take_eq_nil_iff];grind
 | i+1,hi,k,hk=>by
  have hki:Vv p i=p[i]:=by unfold Vv;rw[gd om]
  rw[kT (show i<p.length by omega),Sp,EE];cases hs:nP p i with
  | true=>
   rw[aS,agv];have h3:p[i].fKind=3:=by unfold nP at hs;simp_all
   constructor
   ·rintro⟨j,hj,e⟩;refine⟨s.take j,(s.take k).drop j,?_,(Rc p s i om j om).1 e,.inl h3⟩;grind[Nat.min_eq_left,List.take_append_drop]
   ·rintro⟨a,b,e,h1,-⟩;have hl:=congrArg Ts e;rw[zi,qg]at hl;refine⟨a.length,om,(Rc p s i om _ om).2 ?_⟩;grind[Nat.min_eq_left,List.take_left]
  | false=>
   have h3:p[i].fKind≠3:=by unfold nP at hs;simp_all
   cases k with
   | zero=>
    refine⟨λh=>(by cases h),?_⟩;rintro⟨a,b,e,-,h|⟨c,rfl,h⟩⟩
    ·exact absurd h h3
    ·simp at e
   | succ k=>
    have hsk:s.take (k+1)=s.take k++[s[k]]:=kT om;show(EE p s i k&&Pt p s i k)=hJ↔_;rw[cL,Rc p s i om k om,hsk];unfold Pt;rw[hki,gd (show k<s.length by omega)];constructor
    ·rintro⟨h1,h2⟩;exact⟨_,_,rfl,h1,.inr ⟨_,rfl,h2⟩⟩
    ·rintro⟨a,b,e,h1,h|⟨c,rfl,h⟩⟩
     ·exact absurd h h3
     grind[List.append_inj']
theorem asM(p:J aC)(s:Bs){k:Nat}(hk:k<=Ts s):EE p.reverse s.reverse p.reverse.length k=EE p (s.drop (Ts s-k)) p.length (s.drop (Ts s-k)).length:=by rw[tC,Rc _ _ _ (ep _) _ (by simpa using hk),Rc _ _ _ (ep _) _ (ep _),sS,sS,sS,List.take_reverse];exact⟨λh=>by simpa using aek _ _ h,λh=>aek _ _ h⟩
def ez(long:Bool)(g:Nat->Bool):Nat->Int×Bool|0=>(0,eQ)|k+1=>cond (g k&&cond long hJ (!(ez long g k).2)) ((k:Int),hJ) (ez long g k)
theorem Kj(b:Bool){f g:Nat->Bool}:∀k,(∀j,j<k->f j=g j)->ez b f k=ez b g k|0,_=>rfl|k+1,h=>by rw[ez,ez,h k om,Kj b k λj hj=>h j om]
theorem NI(b:Bool)(g:Nat->Bool)(k:Nat)(h:∀j,k<=j->g j=eQ):∀d,ez b g (k+d)=ez b g k|0=>rfl|d+1=>by rw[<-OX,ez,h _ om,NI b g k h d];rfl
theorem aaa(g:Nat->Bool)(k:Nat)(h:(ez eQ g k).2=hJ):∀d,ez eQ g (k+d)=ez eQ g k|0=>rfl|d+1=>by rw[<-OX,ez,aaa g k h d,h,aJ,gN,TM,aJ]
theorem ael(b:Bool)(g:Nat->Bool):∀k,∃j:Nat,(ez b g k).1=(j:Int)/\j<=k-1/\((ez b g k).2=eQ->j=0)
 | 0=>⟨0,rfl,ep _,λ_=>rfl⟩|k+1=>by obtain⟨j,h1,h2,h3⟩:=ael b g k;rw[ez];grind
theorem aab(F:Nat)(p:J aC)(n:Bs)(long:Bool)(hF:Ts p+300<F)(qR:Ts n<F)(hn:Ts n<50000000)(hp:Ts p<50000000)(hit:∀it∈p,kg it){v:Bool}(hv:jo F p=iN v):
  ou F p n 0 long=iN (ez long (λk=>v&&EE p n p.length k) (Ts n+1)):=by
 unfold ou wx;rw[hv,aD];cases v with
 | false=>have:=NI long (λk=>eQ&&EE p n p.length k) 0 (λ_ _=>rfl) (Ts n+1);rw[rS]at this;rw[this];rfl|true=>
  have hw:aE ((Ts p:Int)+1)=((Ts p+1:Nat):Int):=bZ om;have hlen:∀g:Nat->Bool,Ts (jq (Ts p+1) g)=Ts p+1:=λg=>Dv _ g;rw[hw,gN,aJ,cy (by rw[dT om,dT om,dT om,dT om,dT om];rfl),b9,kJ si,Ub,HT];rw[mz (g:=λj=>j==0) λj _=>by cases (j==0)<;>rfl,Zp F p _ om hp,aD,mz λj _=>amA p n j];have hsw:∀x:O (Int×Bool),x=iN (ez long (EE p n p.length) (Ts n+1))->(x.bind λx3=>iN (x3.1,x3.2))=iN (ez long (EE p n p.length) (Ts n+1)):=by rintro x rfl;rfl
  refine hsw _ (cz (λs=>∃k:Nat,s=(jq (Ts p+1) (λj=>EP p n j k),(ez long (EE p n p.length) k).1,(ez long (EE p n p.length) k).2,(k:Int))/\k<=Ts n/\(long=eQ->(ez long (EE p n p.length) k).2=eQ)) (λs=>Ts n-s.2.2.2.toNat) ?_ F _ ⟨0,rfl,om,λ_=>rfl⟩ aQ);rintro s ⟨k,rfl,hk,hsh⟩;rw[ck om (by rw[hlen];omega),b9 p.length,b9 k,yC _ om,aka,aH];have hS:ez long (EE p n p.length) (k+1)=cond (EE p n p.length k) ((k:Int),hJ) (ez long (EE p n p.length) k):=by rw[ez];grind
  have hend:∀d,(∀j,k<j->j<=Ts n->EE p n p.length j=eQ)->k+1+d=Ts n+1->ez long (EE p n p.length) (Ts n+1)=ez long (EE p n p.length) (k+1):=by intro d h1 h2;rw[Kj long (Ts n+1) (g:=λj=>EE p n p.length j&&eK (j<=Ts n)) λj hj=>by grind,Kj long (k+1) (g:=λj=>EE p n p.length j&&eK (j<=Ts n)) λj hj=>by grind,<-h2];refine NI _ _ _ (λj hj=>?_) d;grind
  by_cases MA:(EE p n p.length k && !long)=hJ
  ·right;rw[cL]at MA;obtain⟨h1,h2⟩:=MA;have hl:long=eQ:=by simpa using h2
   subst hl;intro rc;rw[h1];rw[h1,aS]at hS;have:=aaa (EE p n p.length) (k+1) (by rw[hS]) (Ts n-k);rw[show k+1+(Ts n-k)=Ts n+1 by omega,hS]at this;rw[this];rfl
  ·have hstep:∀G:Int×Bool->O (Int×Bool),(jj (σ:=Int×Bool) ((iN (cond (EE p n p.length k) (eK ((0:Int)<=(k:Int))) eQ):O Bool).bind λx7=>cond x7 (cond (!long) (iN (.inr ((k:Int),hJ))) (iN (.inl ((k:Int),hJ)))) (iN (.inl ((ez long (EE p n p.length) k).1,(ez long (EE p n p.length) k).2)))) G)=G (ez long (EE p n p.length) (k+1)):=by
    intro G;rw[hS,aD];cases h1:EE p n p.length k with
    | false=>rfl|true=>
     have:long=hJ:=by simp_all
     rw[this];rfl
   by_cases hkn:k<Ts n
   ·obtain⟨c,hc1,hc⟩:=aeU F (jq (Ts p+1) (λj=>EP p n j k)) (by rw[hlen];omega) (by rw[hlen];omega);cases c with
    | false=>
     have hz:∀j,k<j->j<=Ts n->EE p n p.length j=eQ:=by
      intro j h1 h2
      have:=XS p n k (λi hi=>by
       have:=hc1 rfl i (by rw[hlen];omega)
       grind[yC]) (j-k) p.length (Nat.le_refl _)
      grind[aka]
     rw[hend (Ts n-k) hz om];simp_all
    | true=>
     left;refine⟨(jq (Ts p+1) (λj=>EP p n j (k+1)),(ez long (EE p n p.length) (k+1)).1,(ez long (EE p n p.length) (k+1)).2,((k+1:Nat):Int)),⟨k+1,rfl,om,λhl=>?_⟩,aQ,λrc=>?_⟩
     ·simp_all
     ·refine(hstep _).trans ?_;rw[show((k:Int)==(Ts n:Int))=eQ by simp;omega,aJ,hc,aD,aD,gN,aJ,bC hkn,ahP F p n _ k hF hp hit,aD,bZ om];grind[mz,af1]
   grind
theorem aji(F:Nat)(p:J aC)(n:Bs)(long:Bool)(hF:Ts p+300<F)(qR:Ts n+1<F)(hn:Ts n<50000000)(hp:Ts p<50000000)(hit:∀it∈p,kg it){v:Bool}(hv:kP F p=iN v):
  ug F p n long=iN (ez long (λk=>v&&EE p n p.length k) (Ts n+1)):=by
 unfold ug wx;rw[hv,aD];cases v with
 | false=>have:=NI long (λk=>eQ&&EE p n p.length k) 0 (λ_ _=>rfl) (Ts n+1);rw[rS]at this;rw[this];rfl|true=>
  rw[gN,af2 F p n hF qR hn hp hit];refine cz (λs=>∃k:Nat,s=((ez long (EE p n p.length) k).1,(ez long (EE p n p.length) k).2,(k:Int))/\k<=Ts n+1) (λs=>Ts n+1-s.2.2.toNat) ?_ F _ ⟨0,rfl,om⟩ aQ;rintro s ⟨k,rfl,hk⟩;dsimp only;by_cases hk2:k<=Ts n
  ·left;refine⟨_,⟨k+1,rfl,om⟩,aQ,λrc=>?_⟩;rw[ck om (by rw[Dv];omega),yC _ om,bZ om,ez];grind
  grind
theorem ajj(F:Nat)(p:J aC)(n:Bs)(long:Bool)(hF:Ts p+300<F)(qR:Ts n+1<F)(hn:Ts n<50000000)(hp:Ts p<50000000)(hit:∀it∈p,kg it){v:Bool}(hv:jo F p=iN v):
  uf F p n long=iN (ez long (λk=>v&&EE p (n.drop (Ts n-k)) p.length (n.drop (Ts n-k)).length) (Ts n+1)):=by
 generalize hg:(λk=>v&&EE p (n.drop (Ts n-k)) p.length (n.drop (Ts n-k)).length)=g;refine cz (λs=>∃k:Nat,s=((ez long g k).1,(ez long g k).2,(k:Int))/\k<=Ts n+1) (λs=>Ts n+1-s.2.2.toNat) ?_ F _ ⟨0,rfl,om⟩ aQ;rintro s ⟨k,rfl,hk⟩;dsimp only;by_cases hk2:k<=Ts n
 ·left;refine⟨_,⟨k+1,rfl,om⟩,aQ,λrc=>?_⟩;have NO:sl n (aE ((Ts n:Int)-(k:Int))) (Ts n:Int)=n.drop (Ts n-k):=by rw[bO om];unfold sl;simp
  rw[NO,bO om,cy (by grind),akd F p _ hF (by grind) (by grind) hp hit hv,aH,Option.bind_some,Option.bind_some,bZ om,ez];grind
 grind
theorem ajk(F:Nat)(x:J aC)(hF:Ts x<F)(hx:Ts x<50000000):slices_Reverse F x=iN x.reverse:=by
 unfold slices_Reverse wx;have h0:aE ((Ts x:Int)-1)=(Ts x:Int)-1:=bO om;rw[h0];refine cz (λs:Int×Int×J aC=>∃k:Nat,s.1=(k:Int)/\s.2.1=(Ts x:Int)-1-(k:Int)/\2*k<=Ts x+1/\s.2.2.length=Ts x/\∀m,m<Ts x->s.2.2.getD m eN=cond (eK (m<k)||decide (Ts x<=m+k)) (x.getD (Ts x-1-m) eN) (x.getD m eN)) (λs=>Ts x-s.1.toNat) ?_ F _ ⟨0,rfl,si,om,rfl,λm hm=>by grind⟩ aQ;rintro⟨i,j,l⟩ ⟨k,h1,h2,h3,h4,h5⟩;dsimp only at h1 h2 h4 h5⊢;subst h1 h2;by_cases hk:(k:Int)<(Ts x:Int)-1-(k:Int)
 ·left;have hj:(Ts x:Int)-1-(k:Int)=((Ts x-1-k:Nat):Int):=om;rw[hj];refine⟨(((k+1:Nat):Int),((Ts x-1-k-1:Nat):Int),(l.set k (l.getD (Ts x-1-k) eN)).set (Ts x-1-k) (l.getD k eN)),⟨k+1,rfl,by dsimp only;omega,om,by simp_all,λm hm=>?_⟩,aQ,λrc=>?_⟩
  ·dsimp only;grind
  ·rw[cm om,ck om om,ck om om,ck om om,ck om (by grind),Int.toNat_natCast,Int.toNat_natCast,bZ om,uP om om]
 ·right;intro rc;rw[cf hk];refine congrArg iN (Bo (by simp_all) λm Za hm2=>?_);grind
theorem alv(F:Nat)(x:J aC)(hx:Ts x<50000000):CO F x=iN x:=by unfold CO wx;grind[MY,rq,dI]
def FO(F:Nat)(it:aC):Bool:=cond (cond (cond (cond (eK (it.fKind<1)) hJ (eK (4<it.fKind))) hJ ((Ts it.fText:Int) != cond (it.fKind==1) 1 0)) hJ (cond (it.fKind != 4) (cond it.BK hJ (eK (0<(Ts it.cK:Int)))) eQ)) hJ (!((pn F it.cK).getD eQ))
theorem Re(F:Nat)(p:J aC)(hF:Ts p+300<F)(hp:Ts p<50000000)(hit:∀it∈p,kg it):kP F p=iN (!p.any (FO F)):=by
 unfold kP wx;refine cz (λs:Int=>∃k:Nat,s=(k:Int)/\k<=Ts p/\(p.take k).any (FO F)=eQ) (λs=>Ts p-s.toNat) ?_ F _ ⟨0,rfl,om,rfl⟩ aQ;rintro _ ⟨k,rfl,hk,hn⟩;by_cases hk:k<Ts p
 ·have hI:=hit _ (fm hk);have hl:=hI.2.2;obtain⟨c,hc⟩:=Dt F p[k].cK om om;have hb:∀rc:Int->O Bool,cond (FO F p[k]) (iN eQ) (rc ((k+1:Nat):Int))=_:=λrc=>rfl;unfold FO at hb;rw[hc]at hb;have e:(p.take (k+1)).any (FO F)=FO F p[k]:=by grind[List.take_succ_eq_append_getElem]
  cases hv:FO F p[k]with
  | true=>right;intro rc;rw[cm (show(k:Int)<(Ts p:Int) by omega),bC hk,b9,gd hk];rw[show p.any (FO F)=hJ from TK.2 ⟨_,fm hk,hv⟩];unfold FO at hv;grind
  | false=>left;refine⟨_,⟨k+1,rfl,om,by rw[e,hv]⟩,aQ,λrc=>?_⟩;rw[cm (show(k:Int)<(Ts p:Int) by omega),bC hk,b9,gd hk];unfold FO at hv;grind[bZ]
 grind
theorem alw(F:Nat)(p:J aC)(n:Bs)(long:Bool)(hF:Ts p+300<F)(qR:Ts n+1<F)(hn:Ts n<50000000)(hp:Ts p<50000000)(hit:∀it∈p,kg it):
  ∃r:Int×Bool,(∃j:Nat,r.1=(j:Int)/\j<=Ts n/\(r.2=eQ->j=0))/\qL F p n long=iN r/\uf F p n long=iN r:=by
 have hv:=Re F p hF hp hit;rw[<-EL F p hF hp hit]at hv;have an8:=λit h=>hit it (List.mem_reverse.1 h);have hlr:Ts p.reverse=Ts p:=List.length_reverse;have hvr:=Re F p.reverse (by rw[hlr];exact hF) (by rw[hlr];exact hp) an8;rw[<-EL F p.reverse (by rw[hlr];exact hF) (by rw[hlr];exact hp) an8]at hvr;refine⟨_,?_,?_,ajj F p n long hF qR hn hp hit hv⟩
 ·obtain⟨j,h1,h2,h3⟩:=ael long (λk=>(!p.any (FO F))&&EE p (n.drop (Ts n-k)) p.length (n.drop (Ts n-k)).length) (Ts n+1);grind
 ·unfold qL wx;rw[alv F p hp,aD,ajk F p om hp,aD,kJ om,aab F p.reverse n.reverse long (by rw[hlr];exact hF) aQ (by simpa using hn) (by rw[hlr];exact hp) an8 hvr];grind[List.length_reverse,Kj,asM]
theorem ajl(F:Nat)(p:J aC)(n:Bs)(long:Bool)(hF:Ts p+300<F)(qR:Ts n+1<F)(hn:Ts n<50000000)(hp:Ts p<50000000)(hit:∀it∈p,kg it):
  ∃r:Int×Bool,(∃j:Nat,r.1=(j:Int)/\j<=Ts n/\(r.2=eQ->j=0))/\qM F p n long=iN r/\ug F p n long=iN r:=by
 have hv:=Re F p hF hp hit;have sx:=hv;rw[<-EL F p hF hp hit]at sx;refine⟨_,?_,?_,aji F p n long hF qR hn hp hit hv⟩
 ·obtain⟨j,h1,h2,h3⟩:=ael long (λk=>(!p.any (FO F))&&EE p n p.length k) (Ts n+1);grind
 ·unfold qM wx;grind[aab]
theorem aqC(a b:Bs)(c:Int):p8 (aB.mk (a++b) c)=p8 (aB.mk a c)++p8 (aB.mk b c):=by unfold p8;grind
theorem an9(o:J aB)(r:aB):(sQ o r).flatMap p8=o.flatMap p8++p8 r:=by
 obtain⟨t,c⟩:=r;unfold sQ;cases h1:(t==[])with
 | true=>
  have:p8 (aB.mk [] c)=[]:=by unfold p8;simp_all
  simp_all
 | false=>
  rw[aJ];cases h2:(eK (0<Ts o)&&((o.getD (Ts o-1) dy).aI==c))with
  | true=>
   rw[cL,fV]at h2;have hk:Ts o-1<Ts o:=om;have hc:=eq_of_beq h2.2;have ho:o=o.take (Ts o-1)++[o.getD (Ts o-1) dy]:=by rw[gd hk,<-kT hk,show o.length-1+1=o.length by omega,sS]
   rw[aS,aol,if_pos hk,show o.length-1+1=o.length by omega,Mc,Mj,List.flatMap_singleton,aqC]
   conv=>rhs;rw[ho]
   rw[Mj,List.flatMap_singleton,uK];rw[<-hc]
  | false=>simp_all
theorem aac:∀(l o:J aB),(l.foldl sQ o).flatMap p8=o.flatMap p8++l.flatMap p8|[],o=>by simp|r::l,o=>by rw[vZ,aac l,an9,vY,uK]
theorem aoa(F:Nat)(l:J aB)(hF:100000000<=F)(h1:Ts l<=26000)(h2:bV l<=5000000):∃p,((∀it∈p,kg it)/\p.length<=5000000)/\eR F (pL l)=iN p/\gE F l=iN p:=by
 obtain⟨p,hp1,hp2⟩:=Vu F l om om om om;obtain⟨q,⟨g1,g2⟩,hq⟩:=S2 F l om om om om;rw[hp1]at hq;obtain rfl:=og hq;refine⟨p,⟨g1,om⟩,?_,hp2⟩;obtain⟨j1,j2⟩:=NH l [];have e0:bV ([]:J aB)=0:=rfl;have hj1:bV (pL l)<=5000000:=by unfold pL;omega
 have hj2:(pL l).length<=26000:=by unfold pL;grind
 rw[<-hp1];unfold eR wx;rw[HP F l om om om om,HP F (pL l) om om om om];have:=aac l [];rw[U2,oe]at this;unfold pL;rw[this]
theorem agw(F:Nat)(hF:100000000<=F):Xo F:=by
 intro op v l h6 h9 hv h1 h2;obtain⟨p,⟨g1,g2⟩,e1,e2⟩:=aoa F l hF h1 h2;have hs:=λb=>alw F p v b om om om om g1;have hq:=λb=>ajl F p v b om om om om g1;have sl0:sl v 0 (Ts v:Int)=v:=by unfold sl;simp
 have hS:∀b,T2 (λa b:Bs=>a=b/\b.length<=Ts v) ((qL F p v b).bind λx3=>
  cond x3.2
  (rq ((eK (0<=aE ((Ts v:Int)-x3.1)))&&(eK (aE ((Ts v:Int)-x3.1)<=(Ts v:Int)))) (iN (sl v 0 (aE ((Ts v:Int)-x3.1)))))
  (iN v)) ((uf F p v b).bind λx2=>
  rq ((eK (0<=aE ((Ts v:Int)-x2.1)))&&(eK (aE ((Ts v:Int)-x2.1)<=(Ts v:Int)))) (iN (sl v 0 (aE ((Ts v:Int)-x2.1))))):=by
  intro b;obtain⟨⟨i,f⟩,⟨j,rfl,h1,h2⟩,r1,r2⟩:=hs b;rw[r1,r2,aD,aD];rw[bO om,ck om om];cases f with
  | true=>exact⟨_,_,⟨rfl,by unfold sl;simp⟩,rfl,rfl⟩|false=>
   refine⟨_,_,⟨?_,?_⟩,rfl,rfl⟩
   ·simp_all
   ·unfold sl;simp
 have hP:∀b,T2 (λa b:Bs=>a=b/\b.length<=Ts v) ((qM F p v b).bind λx4=>
  cond x4.2
  (rq ((eK (0<=x4.1))&&((eK (x4.1<=(Ts v:Int)))&&(eK ((Ts v:Int)<=(Ts v:Int))))) (iN (sl v x4.1 (Ts v:Int))))
  (iN v)) ((ug F p v b).bind λx4=>
  rq ((eK (0<=x4.1))&&((eK (x4.1<=(Ts v:Int)))&&(eK ((Ts v:Int)<=(Ts v:Int))))) (iN (sl v x4.1 (Ts v:Int)))):=by
  intro b;obtain⟨⟨i,f⟩,⟨j,rfl,h1,h2⟩,r1,r2⟩:=hq b;rw[r1,r2,aD,aD];rw[cy (by simp_all)];cases f with
  | true=>exact⟨_,_,⟨rfl,by unfold sl;simp⟩,rfl,rfl⟩|false=>
   obtain rfl:=h2 rfl;refine⟨_,_,⟨?_,?_⟩,rfl,rfl⟩
   ·exact sl0.symm
   ·unfold sl;simp
 have jjl:∀ {σ R:Type}(a:σ)(G:σ->O R),jj (iN (.inl a)) G=G a:=λ_ _=>rfl;have jjr:∀ {σ R:Type}(a:R)(G:σ->O R),jj (iN (.inr a)) G=iN a:=λ_ _=>rfl;have hd:∀b,T2 (λa b:Bs=>a=b/\b.length<=Ts v) (jj (σ:=Bool) (R:=Bs) (jj (σ:=Bool) (R:=Bool ⊕ Bs) (iN (.inl b)) λx2=>
  (qL F p v x2).bind λx3=>
  cond x3.2
  (rq ((eK (0<=aE ((Ts v:Int)-x3.1)))&&(eK (aE ((Ts v:Int)-x3.1)<=(Ts v:Int)))) (iN (.inr (sl v 0 (aE ((Ts v:Int)-x3.1))))))
  (iN (.inr v))) λx1=>
  (qM F p v x1).bind λx4=>
  cond x4.2
  (rq ((eK (0<=x4.1))&&((eK (x4.1<=(Ts v:Int)))&&(eK ((Ts v:Int)<=(Ts v:Int))))) (iN (sl v x4.1 (Ts v:Int))))
  (iN v)) ((uf F p v b).bind λx2=>
  rq ((eK (0<=aE ((Ts v:Int)-x2.1)))&&(eK (aE ((Ts v:Int)-x2.1)<=(Ts v:Int)))) (iN (sl v 0 (aE ((Ts v:Int)-x2.1))))):=by
  intro b;rw[jjl];have:=hS b;obtain⟨r,-,r1,-⟩:=hs b;rw[r1,aD]at this⊢;cases h:r.2 with
  | false=>simp_all|true=>rw[h,aS]at this;unfold rq at this⊢;cases h3:((eK (0<=aE ((Ts v:Int)-r.1)))&&(eK (aE ((Ts v:Int)-r.1)<=(Ts v:Int))))with|true=>simp_all|false=>rw[h3]at this;exact this
 unfold G7 GX wx;grind
theorem aem(l:J aB)(k:Nat):bV (l.take k)<=bV l:=by have:=Du (l.take k) (l.drop k);rw[Kl]at this;omega
def qI(r:aB):J bq:=cond (r.aI==3) [bq.mk [] 3] (cond (r.aI==0||(r.aI==1||r.aI==2)) (cond (r.fText==[]&&r.aI==1) [bq.mk [] 1] []++r.fText.map λb=>bq.mk [b] r.aI) [])
theorem aqD(r:aB):(qI r).length<=Ts r.fText+1:=by unfold qI;cases (r.aI==3)<;>cases (r.aI==0||(r.aI==1||r.aI==2))<;>cases (r.fText==[]&&r.aI==1)<;>simp
theorem L7(l:J aB):(l.flatMap qI).length<=bV l+Ts l:=by
 induction l with|nil=>simp[bV]|cons a l ih=>have:=aqD a;simp only[vY,qg,pM];simp[bV]at ih⊢;omega
theorem agx{s:Bs}{i:Nat}(h:i<Ts s):sl s (i:Int) ((i+1:Nat):Int)=[s[i]]:=by unfold sl;rw[b9,b9,kT h,List.drop_append_of_le_length (by rw[zi];omega),U3 (by rw[zi];omega)];rfl
theorem auu(F:Nat)(l:J aB)(hF:Ts l+bV l<F)(h1:Ts l<=100000000)(h2:bV l<=100000000):uo F l=iN (l.flatMap qI):=by
 have:aA (λr=>r=l.flatMap qI) (uo F l):=by
  unfold uo wx;refine aA.lp (λz:J bq×Int=>∃k:Nat,z.2=(k:Int)/\k<=Ts l/\z.1=(l.take k).flatMap qI) (λz=>Ts l-z.2.toNat) ⟨0,rfl,om,si⟩ (by show l.length-0<F;omega) ?_;rintro⟨o,_⟩ ⟨k,rfl,h3,h4⟩ rc hrc;dsimp only at h4 hrc⊢;refine aA.cd (λh=>?_) λh=>aA.ok (by rw[h4,uI om]);have hk:k<Ts l:=om;have hm:Ts l-Int.toNat ((k+1:Nat):Int)<Ts l-Int.toNat (k:Int):=om;have e1:(l.take (k+1)).flatMap qI=o++qI l[k]:=by rw[h4,A9 _ _ _ hk]
  have ho:Ts o<=bV l+Ts l:=by have:=L7 (l.take k);have h5:=aem l k;rw[<-h4,zi]at this;omega
  have ht:l[k].fText.length<=bV l:=RN (fm hk);rw[ck om om,bH (i:=k) om,b9,gd hk];generalize l[k]=r at e1 ht;obtain⟨q,hq⟩:∃q,q=qI r:=⟨_,rfl⟩;rw[<-hq]at e1;unfold qI at hq;cases c3:(r.aI==3)with
  | true=>rw[c3,aS]at hq;subst hq;exact aA.rq (oQ (by show o.length+1<=_;omega) de) (hrc _ ⟨k+1,rfl,hk,e1.symm⟩ hm)
  | false=>
   rw[c3,aJ]at hq;simp only[aH,aD,aJ];have ec:(cond (r.aI==0) (r.aI==0) (cond (r.aI==1) (r.aI==1) (r.aI==2)))=(r.aI==0||(r.aI==1||r.aI==2)):=by cases (r.aI==0)<;>cases (r.aI==1)<;>rfl
   rw[ec];cases cc:(r.aI==0||(r.aI==1||r.aI==2))with
   | false=>rw[cc,aJ]at hq;subst hq;exact hrc _ ⟨k+1,rfl,hk,by rw[e1];simp⟩ hm|true=>
    rw[cc,aS]at hq;subst hq;simp only[aS];have ed:(cond (r.fText==[]) (r.aI==1) eQ)=(r.fText==[]&&r.aI==1):=by cases (r.fText==[])<;>rfl
    rw[ed];refine aA.bd (P:=λo':J bq=>o'=o++cond (r.fText==[]&&r.aI==1) [bq.mk [] 1] []) ?_ ?_
    ·cases (r.fText==[]&&r.aI==1)with
     | true=>exact aA.rq (oQ (by show o.length+1<=_;omega) de) (aA.ok rfl)
     | false=>exact aA.ok si
    ·rintro o' ho';have hol:Ts o'<=Ts o+1:=by rw[ho'];cases (r.fText==[]&&r.aI==1)<;>simp
     refine aA.lp (λz:J bq×Int=>∃i:Nat,z.2=(i:Int)/\i<=Ts r.fText/\z.1=o'++(r.fText.take i).map λb=>bq.mk [b] r.aI) (λz=>Ts r.fText-z.2.toNat) ⟨0,rfl,om,si⟩ (by show r.fText.length-0<F;omega) ?_;rintro⟨o2,_⟩ ⟨i,rfl,i1,i2⟩ rc' uN;dsimp only at i2 uN⊢;have hl2:Ts o2<=Ts o'+Ts r.fText:=by rw[i2];simp;omega
     refine aA.cd (λh=>?_) λh=>hrc _ ⟨k+1,rfl,hk,by rw[e1];show o2=_;rw[i2,ho',uI om,uK]⟩ hm;have hi:i<Ts r.fText:=om;rw[bH om,wX om om om,agx hi];exact aA.rq (oQ (by show o2.length+1<=_;omega) de) (uN _ ⟨i+1,rfl,om,by show o2++_=_;rw[i2,kT hi,pO,uK];rfl⟩ (by show r.fText.length-Int.toNat ((i+1:Nat):Int)<Ts r.fText-Int.toNat (i:Int);omega))
 obtain⟨r,h,e⟩:=this;rw[e,h]
def Rf(l:J bq):Bs:=l.flatMap λe=>e.bJ
theorem auv(F:Nat)(l:J bq)(hF:Ts l<F)(h1:Ts l<=100000000)(h2:∀e∈l,Ts e.bJ<=1):yX F l=iN (Rf l):=by
 have hb:∀k,Ts (Rf (l.take k))<=k:=λk=>by
  unfold Rf;rw[List.length_flatMap];have:∀m:J bq,(∀e∈m,Ts e.bJ<=1)->(m.map λa=>Ts a.bJ).sum<=Ts m:=λm=>by
   induction m with|nil=>simp|cons a m ih=>intro h;have:=h a sV;have:=ih λe he=>h e (kI _ he);simp;omega
  have:=this (l.take k) λe he=>h2 e (O1 he);rw[zi]at this;omega
 have:aA (λr=>r=Rf l) (yX F l):=by
  unfold yX wx;refine aA.lp (λx:Int×Bool×J Int=>∃k:Nat,x.1=(k:Int)/\k<=Ts l/\x.2.2=cY (Rf (l.take k))) (λx=>Ts l-x.1.toNat) ⟨0,rfl,om,by simp[Rf,cY]⟩ (by show l.length-0<F;omega) ?_;rintro⟨_,c,buf⟩ ⟨k,rfl,h3,h4⟩ rc hrc;dsimp only at h4 hrc⊢;have HO:Ts buf<=k:=by rw[h4,cY,je];exact hb k
  refine aA.cd (λh=>?_) λh=>?_
  ·have hk:k<Ts l:=om;have hx:=h2 _ (fm hk);rw[ck om om,b9,gd hk,art F _ c buf om,aD,bH om];refine hrc _ ⟨k+1,rfl,hk,?_⟩ (by show l.length-Int.toNat ((k+1:Nat):Int)<Ts l-Int.toNat (k:Int);omega);show buf++cY l[k].bJ=_;unfold Rf;rw[h4,A9 _ _ _ hk];simp[cY,Rf]
  ·rw[uI om]at h4;subst h4;have:(cY (Rf l)).length<=k:=HO;unfold lW wx;rw[cy (by rw[eP rfl,Zm,eP om];rfl),My];exact aA.ok rfl
 obtain⟨r,h,e⟩:=this;rw[e,h]
def NJ(s:Bs)(b:UInt8)(c:Int):Int:=cond (c==2&&s.contains b) (cond (b==32||(b==9||b==10)) 1 2) 0
def jd(s:Bs)(e:bq):Int:=cond (e.bJ==[]) (cond (e.dM==3) 3 0) (NJ s (e.bJ.getD 0 0) e.dM)
def TG(s:Bs)(e:bq):bL:=bL.mk e.bJ e.dM (jd s e)
theorem auw(F:Nat)(b:UInt8)(c:Int)(s:Bs)(hF:Ts s<F)(hs:Ts s<=100000):GY F (b.toNat:Int) c s=iN (NJ s b c):=by
 unfold GY NJ wx;simp only[bne];cases hc:(c==2)with
 | false=>rfl|true=>
  rw[gN,aJ,Ko];refine cz (λi:Int=>∃n:Nat,i=(n:Int)/\n<=Ts s/\(s.drop n).contains b=s.contains b) (λi=>Ts s-i.toNat) ?_ F _ ⟨0,rfl,om,si⟩ aQ;rintro _ ⟨n,rfl,hn,hd⟩;by_cases hk:n<Ts s
  ·have e1:((((s.getD (eJ (n:Int)) 0).toNat:Int))==(b.toNat:Int))=(s[n]==b):=by
    rw[b9,gd hk];have:((s[n].toNat:Int)=(b.toNat:Int))↔s[n]=b:=⟨λh=>agZ.1 om,λh=>by rw[h]⟩;by_cases h:s[n]=b
    ·rw[h];simp
    ·rw[iq.2 h,iq.2 λh'=>h (this.1 h')]
   rw[sR hk,agV]at hd;have hcm:(b==s[n])=(s[n]==b):=ag2;cases hb:(s[n]==b)with
   | true=>right;intro rc;rw[hcm,hb,Bool.true_or]at hd;rw[cm om,bC hk,bC hk,e1,hb,<-hd];simp only[aS,aH,aD,qm b 32 om,qm b 9 om,qm b 10 om];cases (b==32)<;>cases (b==9)<;>cases (b==10)<;>rfl
   | false=>left;rw[hcm,hb,OZ]at hd;refine⟨_,⟨n+1,rfl,hk,hd⟩,aQ,λrc=>?_⟩;rw[cm om,bC hk,bC hk,e1,hb,bZ om];rfl
  ·right;intro rc;rw[cf om,<-hd,Ml om];rfl
theorem asN(s:Bs)(r:aB):∀e∈qI r,(e.bJ=[]/\(e.dM=3\/e.dM=1))\/∃b,e.bJ=[b]/\e.dM=r.aI/\(e.dM==3)=eQ:=by
 intro e he;unfold qI at he;cases c3:(r.aI==3)with
 | true=>rw[c3]at he;obtain rfl:=qj.1 he;exact .inl ⟨rfl,.inl rfl⟩
 | false=>
  rw[c3,aJ]at he;cases cc:(r.aI==0||(r.aI==1||r.aI==2))with
  | false=>rw[cc]at he;cases he
  | true=>
   rw[cc,aS]at he;rcases mX.1 he with he|he
   ·cases hh:(r.fText==[]&&r.aI==1)with
    | false=>rw[hh]at he;cases he
    | true=>rw[hh]at he;obtain rfl:=qj.1 he;exact .inl ⟨rfl,.inr rfl⟩
   ·obtain⟨b,-,rfl⟩:=lF.1 he;exact .inr ⟨b,rfl,rfl,c3⟩
def WE(e:bq):Prop:=(e.bJ=[]/\(e.dM=3\/e.dM=1))\/∃b,e.bJ=[b]/\(e.dM==3)=eQ
theorem aen(l:J aB):∀e∈l.flatMap qI,WE e:=λe he=>by
 obtain⟨r,-,h⟩:=ag3.1 he;rcases asN [] r e h with h|⟨b,h1,-,h2⟩
 ·exact .inl h
 ·exact .inr ⟨b,h1,h2⟩
theorem aob(F:Nat)(s:Bs){e:bq}(h:WE e):pJ F e s=iN (jd s e==1||jd s e==2):=by
 unfold pJ jd NJ wx;rcases h with⟨h1,h2⟩|⟨b,h1,h2⟩
 ·rcases h2 with h2|h2<;>rw[h1,h2]<;>rfl
 ·rw[h1];have hx:strings_Contains F s [b]=iN (s.contains b):=by
   unfold strings_Contains strings_Index stringslite_Index stringslite_IndexByte sw Y6 wx;have e1:cond (([b]:Bs)==s) 0 (lO s b)=lO s b:=by cases hb:(([b]:Bs)==s)with|false=>rfl|true=>rw[<-eq_of_beq hb];unfold lO;simp
   rw[<-K.Yn];simp only[aH,aD];rw[show((Ts ([b]:Bs):Int)==0)=eQ from rfl,show((Ts ([b]:Bs):Int)==1)=hJ from rfl,kJ si];simp only[aJ,aS,aD];have e2:(((([b]:Bs).getD 0 0).toNat:Int)).toNat.toUInt8=b:=by simp
   rw[e2,aH,aD,e1];rfl
  rw[hx,show(([b]:Bs)==[])=eQ from rfl,show([b]:Bs).getD 0 0=b from rfl];cases (e.dM==2)
  ·rfl
  ·cases s.contains b
   ·rfl
   ·cases (b==32||(b==9||b==10))<;>rfl
theorem aeo(F:Nat)(s:Bs){e:bq}(h:WE e):vX F e s=iN (jd s e==1):=by
 unfold vX wx;rw[aob F s h,aD];unfold jd NJ;rcases h with⟨h1,h2⟩|⟨b,h1,h2⟩
 ·rcases h2 with h2|h2<;>rw[h1,h2]<;>rfl
 ·rw[h1,show(([b]:Bs)==[])=eQ from rfl,show([b]:Bs).getD 0 0=b from rfl];have e1:∀c:UInt8,(([b]:Bs)==[c])=(b==c):=λc=>by simp
  rw[e1,e1,e1];cases (e.dM==2)
  ·rfl
  ·cases s.contains b
   ·rfl
   ·cases (b==32)<;>cases (b==9)<;>cases (b==10)<;>rfl
theorem auy(F:Nat)(l:J aB)(s:Bs)(hF:Ts l+bV l+200000<F)(h1:Ts l<=100000000)(h2:bV l<=100000000)(hs:Ts s<=100000):uj F l s=iN ((l.flatMap qI).map (TG s)):=by
 have:aA (λr=>r=(l.flatMap qI).map (TG s)) (uj F l s):=by
  unfold uj wx;refine aA.lp (λz:J bL×Int=>∃k:Nat,z.2=(k:Int)/\k<=Ts l/\z.1=((l.take k).flatMap qI).map (TG s)) (λz=>Ts l-z.2.toNat) ⟨0,rfl,om,si⟩ (by show l.length-0<F;omega) ?_;rintro⟨o,_⟩ ⟨k,rfl,h3,h4⟩ rc hrc;dsimp only at h4 hrc⊢;refine aA.cd (λh=>?_) λh=>aA.ok (by rw[h4,uI om]);have hk:k<Ts l:=om;have hm:Ts l-Int.toNat ((k+1:Nat):Int)<Ts l-Int.toNat (k:Int):=om;have e1:((l.take (k+1)).flatMap qI).map (TG s)=o++(qI l[k]).map (TG s):=by rw[h4,A9 _ _ _ hk,pO]
  have ho:Ts o<=bV l+Ts l:=by have:=L7 (l.take k);have h5:=aem l k;rw[h4,je];rw[zi]at this;omega
  have ht:l[k].fText.length<=bV l:=RN (fm hk);rw[ck om om,bH (i:=k) om,b9,gd hk];generalize l[k]=r at e1 ht;obtain⟨q,hq⟩:∃q,q=qI r:=⟨_,rfl⟩;rw[<-hq]at e1;unfold qI at hq;cases c3:(r.aI==3)with
  | true=>rw[c3,aS]at hq;subst hq;have h3:=eq_of_beq c3;rw[h3];exact aA.rq (oQ (by show o.length+1<=_;omega) de) (hrc _ ⟨k+1,rfl,hk,e1.symm⟩ hm)
  | false=>
   rw[c3,aJ]at hq;simp only[aH,aD,aJ];cases hb:(r.fText==[]&&r.aI==1)with
   | true=>rw[hb]at hq;obtain⟨b1,b2⟩:=(cL _ _).mp hb;rw[b1,b2,aS,aS];have h1:=eq_of_beq b2;have h0:=eq_of_beq b1;rw[h1]at hq⊢;rw[h0]at hq;subst hq;exact aA.rq (oQ (by show o.length+1<=_;omega) de) (hrc _ ⟨k+1,rfl,hk,e1.symm⟩ hm)
   | false=>
    have nM:cond (r.aI==1) (r.fText==[]) eQ=eQ:=by rw[<-hb];cases (r.aI==1)<;>cases (r.fText==[])<;>rfl
    have qc:cond (cond (r.aI==0) hJ (r.aI==1)) hJ (r.aI==2)=(r.aI==0||(r.aI==1||r.aI==2)):=by cases (r.aI==0)<;>cases (r.aI==1)<;>rfl
    rw[hb,aJ,oe]at hq;rw[nM,aJ,qc];cases cc:(r.aI==0||(r.aI==1||r.aI==2))with
    | false=>rw[cc,aJ]at hq;subst hq;exact hrc _ ⟨k+1,rfl,hk,by rw[e1];simp⟩ hm|true=>
     rw[cc,aS]at hq;subst hq;rw[aS];refine aA.lp (λz:J bL×Int=>∃i:Nat,z.2=(i:Int)/\i<=Ts r.fText/\z.1=o++((r.fText.take i).map λb=>bq.mk [b] r.aI).map (TG s)) (λz=>Ts r.fText-z.2.toNat) ⟨0,rfl,om,si⟩ (by show r.fText.length-0<F;omega) ?_;rintro⟨o2,_⟩ ⟨i,rfl,i1,i2⟩ rc' uN;dsimp only at i2 uN⊢;have hl2:Ts o2<=Ts o+Ts r.fText:=by rw[i2];simp;omega
     refine aA.cd (λh=>?_) λh=>hrc _ ⟨k+1,rfl,hk,by rw[e1];show o2=_;rw[i2,uI om]⟩ hm;have hi:i<Ts r.fText:=om;rw[bH om,wX om om om,ck om om,b9,gd hi,auw F r.fText[i] r.aI s om hs,aD,agx hi];refine aA.rq (oQ (by show o2.length+1<=_;omega) de) (uN _ ⟨i+1,rfl,om,?_⟩ (by show r.fText.length-Int.toNat ((i+1:Nat):Int)<Ts r.fText-Int.toNat (i:Int);omega));show o2++_=_;rw[i2,kT hi,pO,pO,uK];rfl
 obtain⟨r,h,e⟩:=this;rw[e,h]
def pW{α:Type}(f:J (J α))(n:J α):J (J α):=match n with | []=>f|a::t=>f++[a::t]
def dS{α:Type}(k:α->Int):Nat->J α->J (J α)->J α->J (J α)|_,[],f,n=>pW f n|m,x::l,f,n=>cond (k x==1) (dS k (cond (m==2) 2 1) l f n) (cond (k x==2) (dS k 2 l (f++[n]) []) (cond (m==1) (cond (k x==3) (dS k 0 l (pW f n) []) (dS k 0 l (pW f n) [x])) (cond (k x==3) (dS k 0 l (pW f n) []) (dS k 0 l f (n++[x])))))
variable{α β:Type}
theorem aep(g:α->β)(f:J (J α))(n:J α):pW (f.map (List.map g)) (n.map g)=(pW f n).map (List.map g):=by cases n<;>simp[pW]
theorem alx{α β:Type}(k:α->Int)(k':β->Int)(g:α->β):∀(l:J α)(m:Nat)(f:J (J α))(n:J α),(∀x∈l,k' (g x)=k x)->dS k' m (l.map g) (f.map (List.map g)) (n.map g)=(dS k m l f n).map (List.map g)
 | [],m,f,n,h=>by simp only[Kn,dS];exact aep g f n|x::l,m,f,n,h=>by have hx:=h x sV;have ih:=λm f n=>alx k k' g l m f n λy hy=>h y (kI _ hy);have i1:=ih 2 (f++[n]) [];have i2:=ih 0 f (n++[x]);have i3:=ih 0 (pW f n) [];have i4:=ih 0 (pW f n) [x];simp only[pO,jF,Kn]at i1 i2 i3 i4;simp only[jF,dS,hx,ih,i1,i2,i3,i4,aep];cases (k x==1)<;>cases (k x==2)<;>cases (m==1)<;>cases (k x==3)<;>rfl
section
variable (k : α -> Int)
abbrev wE(x:α):Bool:=k x==1
theorem L8(m:Nat)(hm:m=1\/m=2):∀(l:J α)(f:J (J α))(n:J α),dS k m (l.dropWhile (wE k)) f n=dS k m l f n
 | [],f,n=>rfl|x::l,f,n=>by
  rw[Mg];cases hx:wE k x with
  | false=>rfl|true=>rw[if_pos rfl,L8 m hm l f n];simp only[dS];rw[show(k x==1)=hJ from hx,aS];rcases hm with rfl|rfl<;>rfl
theorem aly{l:J α}(h:∀x∈l.head?,(k x==1)=eQ)(f:J (J α))(n:J α):dS k 2 l f n=dS k 0 l f n:=by cases l with|nil=>rfl|cons x l=>simp only[dS];rw[h x rfl];rfl
theorem Sq{x:α}{l:J α}(hx:(k x==2)=hJ)(m:Nat)(f:J (J α))(n:J α):dS k m (x::l) f n=dS k 2 l (f++[n]) []:=by
 have h1:(k x==1)=eQ:=by rw[eq_of_beq hx];rfl
 simp only[dS];rw[h1,hx];rfl
theorem alz{l:J α}(h:∀x∈l.head?,(k x==1)=eQ/\(k x==2)=eQ)(f:J (J α))(n:J α):dS k 1 l f n=dS k 0 l (pW f n) []:=by
 cases l with
 | nil=>rfl|cons x l=>obtain⟨h1,h2⟩:=h x rfl;simp only[dS];rw[h1,h2];cases (k x==3)<;>rfl
theorem Kk(l:J α):∀x∈(l.dropWhile (wE k)).head?,(k x==1)=eQ:=by
 induction l with
 | nil=>intro x hx;cases hx
 | cons a l ih=>
  rw[Mg];cases ha:wE k a with
  | true=>rw[if_pos rfl];exact ih|false=>intro x hx;obtain rfl:=og hx;exact ha
end
theorem NK(f:J (J α))(n:J α):(pW f n).length<=Ts f+Ts n:=by cases n<;>simp[pW]
theorem alA{α:Type}(k:α->Int):∀(l:J α)(m:Nat)(f:J (J α))(n:J α),Ts (dS k m l f n)<=Ts f+Ts n+Ts l
 | [],m,f,n=>by simp only[dS];exact NK f n|x::l,m,f,n=>by have ih:=alA k l;have he:=NK f n;have i1:=ih 2 (f++[n]) [];have i2:=ih (cond (m==2) 2 1) f n;have i3:=ih 0 (pW f n) [];have i4:=ih 0 (pW f n) [x];have i5:=ih 0 f (n++[x]);simp only[qg,pM,Da]at i1 i2 i3 i4 i5;simp only[dS,pM];cases (k x==1)<;>cases (k x==2)<;>cases (m==1)<;>cases (k x==3)<;>simp only[aS,aJ]<;>omega
theorem aeq{α:Type}(k:α->Int)(μ:α->Nat)(K:Nat)(P:α->Prop):∀(l:J α)(m:Nat)(f:J (J α))(n:J α),(∀g∈f,(g.map μ).sum<=K/\∀x∈g,P x)->(n.map μ).sum+(l.map μ).sum<=K->(∀x∈n,P x)->(∀x∈l,P x)->∀g∈dS k m l f n,(g.map μ).sum<=K/\∀x∈g,P x
 | l,m,f,n,hf,hK,hn,hl=>by
  have he:∀g∈pW f n,(g.map μ).sum<=K/\∀x∈g,P x:=λg hg=>by
   cases n with
   | nil=>exact hf g hg
   | cons a t=>rcases mX.1 (show g∈f++[a::t]from hg)with hg|hg
               ·exact hf g hg
               ·obtain rfl:=qj.1 hg;exact⟨om,hn⟩
  cases l with
  | nil=>exact he|cons x l=>
   have hl':=λy hy=>hl y (kI x hy);have ih:=λm f n a b c=>aeq k μ K P l m f n a b c hl';simp only[jF,O0]at hK;have hx:=hl x sV;simp only[dS];cases (k x==1)with
   | true=>exact ih _ f n hf om hn|false=>
    cases (k x==2)with
    | true=>exact ih _ _ _ (λg hg=>by
      rcases mX.1 hg with hg|hg
      ·exact hf g hg
      ·obtain rfl:=qj.1 hg;exact⟨om,hn⟩) aQ (λ_ h=>nomatch h)
    | false=>
     have g1:=ih 0 (pW f n) [] he aQ (λ_ h=>nomatch h);have g2:=ih 0 (pW f n) [x] he aQ (λy hy=>by obtain rfl:=qj.1 hy;exact hx)
     have g3:=ih 0 f (n++[x]) hf aQ (λy hy=>by
      rcases mX.1 hy with hy|hy
      ·exact hn y hy
      ·obtain rfl:=qj.1 hy;exact hx)
     cases (m==1)<;>cases (k x==3)<;>assumption
theorem Y2(l:J α):(l.map λ_=>1).sum=Ts l:=by
 induction l with|nil=>rfl|cons a l ih=>simp only[jF,O0,ih,pM];omega
theorem slA(l:J α)(f:Nat):sl l (f:Int) (Ts l:Int)=l.drop f:=by simp[sl]
theorem slB(l:J α)(k:Nat):sl l 0 (k:Int)=l.take k:=by simp[sl]
def slC(l:J α):sl l 1 (Ts l:Int)=l.drop 1:=slA l 1
theorem ao5(F:Nat)(s:Bs)(l:J bq)(h:∀e∈l,WE e)(hF:Ts l<F)(hl:Ts l<=500000000):yV F l s=iN (l.dropWhile (wE (jd s))):=by
 unfold yV wx;refine cz (λi:Int=>∃n:Nat,i=(n:Int)/\n<=Ts l/\(l.drop n).dropWhile (wE (jd s))=l.dropWhile (wE (jd s))) (λi=>Ts l-i.toNat) ?_ F _ ⟨0,rfl,om,rfl⟩ aQ;rintro _ ⟨n,rfl,hn,hd⟩;have hR:∀x:O (J bq),rq ((eK (0<=(n:Int)))&&((eK ((n:Int)<=(Ts l:Int)))&&((eK ((Ts l:Int)<=(Ts l:Int)))&&(eK ((Ts l:Int)<=(Ts l:Int)))))) x=x:=λx=>cy (by rw[dT om,dT om,dT om];rfl);by_cases hk:n<Ts l
 ·rw[sR hk,Mg]at hd;have hw:=aeo F s (h _ (fm hk));cases hb:wE (jd s) l[n]with
  | true=>left;rw[hb,if_pos rfl]at hd;refine⟨_,⟨n+1,rfl,hk,hd⟩,aQ,λrc=>?_⟩;rw[cm om,bC hk,b9,gd hk,hw,aD,aD,show(jd s l[n]==1)=hJ from hb,aS,bZ om]
  | false=>right;intro rc;rw[hb]at hd;rw[cm om,bC hk,b9,gd hk,hw,aD,aD,show(jd s l[n]==1)=eQ from hb,aJ,hR,slA,<-hd,sR hk];rfl
 ·right;intro rc;rw[cf om,aD,aJ,hR,slA,<-hd,Ml om];rfl
theorem avJ(F:Nat)(s:Bs)(l:J bq)(h:∀e∈l,WE e):yW F l s=iN (l.head?.any λx=>jd s x==2):=by
 unfold yW wx;cases l with
 | nil=>rfl|cons x l=>
  have hx:=h x sV;rw[cm si,kJ si,kJ si,show(x::l).getD 0 ni=x from rfl,aob F s hx,aeo F s hx];have:(jd s x==1)=hJ->(jd s x==2)=eQ:=λh=>by rw[eq_of_beq h];rfl
  show(cond (jd s x==1||jd s x==2) (iN (!(jd s x==1))) (iN eQ):O Bool).bind _=iN (jd s x==2);cases h1:(jd s x==1)with
  | true=>rw[this h1];rfl|false=>cases (jd s x==2)<;>rfl
theorem ajm(F:Nat)(f:J (J bq))(n:J bq)(hf:Ts f<=100000000):oF F eQ n f=iN ([],pW f n):=by
 unfold oF pW wx;cases n with
 | nil=>rfl|cons a t=>rw[aJ,aD,dT si,aS,dI (by show f.length+1<=_;omega) de]
theorem auz(F:Nat)(f:J (J bq))(n:J bq)(hf:Ts f<=100000000):oF F hJ n f=iN ([],f++[n]):=by unfold oF wx;rw[aS,aD,aS,dI (by show f.length+1<=_;omega) de]
theorem kd3{s:Bs}{e:bq}(h:WE e):(e.dM==3)=(jd s e==3):=by
 unfold jd NJ;rcases h with⟨h1,h2⟩|⟨b,h1,h2⟩
 ·rcases h2 with h2|h2<;>rw[h1,h2]<;>rfl
 ·rw[h1,h2,show(([b]:Bs)==[])=eQ from rfl];cases (e.dM==2&&s.contains (([b]:Bs).getD 0 0))<;>cases (([b]:Bs).getD 0 0==32||(([b]:Bs).getD 0 0==9||([b]:Bs).getD 0 0==10))<;>rfl
theorem aqE(F:Nat)(s:Bs)(l:J bq)(h:∀e∈l,WE e)(hF:Ts l<F)(hl:Ts l<=50000000):yg F l s=iN (dS (jd s) 0 l [] []):=by
 have:aA (λr=>r=dS (jd s) 0 l [] []) (yg F l s):=by
  unfold yg wx;refine aA.lp (λz:J bq×J (J bq)×J bq=>(∀x∈z.1,WE x)/\z.1.length+Ts z.2.1+Ts z.2.2<=Ts l/\dS (jd s) 0 z.1 z.2.1 z.2.2=dS (jd s) 0 l [] []) (λz=>Ts z.1) ⟨h,si,rfl⟩ hF ?_;rintro⟨m,f,n⟩ ⟨h1,h2,h3⟩ rc hrc;dsimp only at h1 h2 h3 hrc⊢;have hel:=NK f n;cases m with
  | nil=>rw[cf si,ajm F f n om];exact aA.ok h3|cons x m=>
   have hx:=h1 x sV;have hm:=λy hy=>h1 y (kI x hy);simp only[pM]at h2 hrc;have hlen:(Ts (x::m:J bq):Int)=(Ts m:Int)+1:=by simp
   have hdw:=(ag4 (wE (jd s)) (l:=m)).length_le;have VN:∀y∈m.dropWhile (wE (jd s)),WE y:=λy hy=>hm y ((ag4 _).subset hy);rw[cm om,kJ om,show(x::m).getD 0 ni=x from rfl,slC,show(x::m).drop 1=m from rfl,aeo F s hx,aob F s hx,kd3 (s:=s) hx];simp only[dS]at h3;cases k3:(jd s x==3)with
   | true=>have e3:=eq_of_beq k3;rw[e3]at h3;rw[aS,ajm F f n om,aD,wX om om om];exact hrc _ ⟨hm,aQ,h3⟩ si|false=>
    rw[k3]at h3;rw[aJ,aD,aD];cases k1:(jd s x==1)with
    | true=>
     rw[k1,aS]at h3;have hsk:yV F (x::m) s=iN (m.dropWhile (wE (jd s))):=by rw[ao5 F s _ h1 aQ aQ,Mg,show wE (jd s) x=hJ from k1,if_pos rfl]
     have ZI:dS (jd s) 1 (m.dropWhile (wE (jd s))) f n=dS (jd s) 0 l [] []:=by rw[L8 (jd s) 1 (.inl rfl)];exact h3
     have hdh:=Kk (jd s) m;rw[aS,hsk,aD,avJ F s _ VN,aD];generalize m.dropWhile (wE (jd s))=r at ZI hdh hdw VN;cases hr:(r.head?.any λx=>jd s x==2)with
     | true=>
      refine hrc _ ⟨VN,by dsimp only;omega,?_⟩ (by dsimp only;omega);cases r with
      | nil=>cases hr
      | cons y r=>rw[Sq _ hr]at ZI;exact(Sq _ hr 0 f n).trans ZI
     | false=>
      rw[qi,aS,ajm F f n om,aD];refine hrc _ ⟨VN,aQ,?_⟩ (by dsimp only;omega);rw[alz]at ZI
      ·exact ZI
      ·intro y hy;refine⟨hdh y hy,?_⟩;cases r with
       | nil=>cases hy
       | cons z r=>obtain rfl:=og hy;exact hr
    | false=>
     rw[k1,aJ]at h3;cases k2:(jd s x==2)with
     | true=>
      rw[k2,aS]at h3;rw[aJ,OZ,aS,auz F f n om,aD,ck om om,ao5 F s m hm om om,aD];refine hrc _ ⟨VN,aQ,?_⟩ (by dsimp only;omega);rw[<-L8 (jd s) 2 (.inr rfl),aly]at h3
      ·exact h3
      ·exact Kk (jd s) m
     | false=>rw[k2]at h3;rw[aJ,Bool.or_self,aJ,dI (by show n.length+1<=_;omega) de,wX om om om];exact hrc _ ⟨hm,aQ,h3⟩ si
 obtain⟨r,h,e⟩:=this;rw[e,h]
theorem ao6(F:Nat)(l:J bL)(a:Nat)(hF:Ts l<F)(hl:Ts l<=500000000)(ha:a<=Ts l):∃e:Nat,a<=e/\e<=Ts l/\l.drop e=(l.drop a).dropWhile (wE λx=>x.dU)/\yU F l (a:Int)=iN (e:Int):=by
 have:aA (λr=>∃e:Nat,r=(e:Int)/\a<=e/\e<=Ts l/\l.drop e=(l.drop a).dropWhile (wE λx=>x.dU)) (yU F l (a:Int)):=by
  unfold yU wx;refine aA.lp (λi:Int=>∃n:Nat,i=(n:Int)/\a<=n/\n<=Ts l/\(l.drop n).dropWhile (wE λx=>x.dU)=(l.drop a).dropWhile (wE λx=>x.dU)) (λi=>Ts l-i.toNat) ⟨a,rfl,ep _,ha,rfl⟩ aQ ?_;rintro _ ⟨n,rfl,h1,h2,h3⟩ rc hrc;by_cases hk:n<Ts l
  ·rw[sR hk,Mg]at h3;rw[cm om,bC hk,aD,b9,gd hk,bZ om];cases hb:(l[n].dU==1)with
   | true=>rw[show wE (λx:bL=>x.dU) l[n]=hJ from hb,if_pos rfl]at h3;exact hrc _ ⟨n+1,rfl,om,hk,h3⟩ aQ
   | false=>rw[show wE (λx:bL=>x.dU) l[n]=eQ from hb]at h3;exact aA.ok ⟨n,rfl,h1,h2,by rw[sR hk];exact h3⟩
  ·rw[cf om];exact aA.ok ⟨n,rfl,h1,h2,by rw[<-h3,Ml om];rfl⟩
 obtain⟨r,⟨e,rfl,h1,h2,h3⟩,h⟩:=this;exact⟨e,h1,h2,h3,h⟩
theorem aqF(F:Nat)(l:J bL)(hk:∀x∈l,x.dU=0\/x.dU=1\/x.dU=2\/x.dU=3)(hF:Ts l<F)(hl:Ts l<=50000000):xX F l=iN (dS (λx=>x.dU) 0 l [] []):=by
 have:aA (λr=>r=dS (λx:bL=>x.dU) 0 l [] []) (xX F l):=by
  unfold xX wx;refine aA.lp (λz:J (J bL)×J bL×Int=>∃a:Nat,z.2.2=(a:Int)/\a<=Ts l/\z.1.length+Ts z.2.1<=a/\dS (λx:bL=>x.dU) 0 (l.drop a) z.1 z.2.1=dS (λx:bL=>x.dU) 0 l [] []) (λz=>Ts l-z.2.2.toNat) ⟨0,rfl,om,si,rfl⟩ aQ ?_;rintro⟨f,n,_⟩ ⟨a,rfl,h1,h2,h3⟩ rc hrc;dsimp only at h2 h3 hrc⊢;have hel:=NK f n;have fin:∀(b:Bool)(e:Nat),(b=hJ->dS (λx:bL=>x.dU) 0 (l.drop e) (f++[n]) []=dS (λx:bL=>x.dU) 0 l [] [])->(b=eQ->n=[]/\dS (λx:bL=>x.dU) 0 (l.drop e) f []=dS (λx:bL=>x.dU) 0 l [] [])->a<e->e<=Ts l ->
    aA (λr=>r=dS (λx:bL=>x.dU) 0 l [] []) (cond b (rq ((eK (Ts f+Ts ([n]:J (J bL))<=9223372036854775807))&&(eK ((Ts f+Ts ([n]:J (J bL)))*24<=140737488355328))) (rc (f++([n]:J (J bL)),([]:J bL),(e:Int)))) (rc (f,n,(e:Int)))):=by
   intro b e wY nM he hle;cases b with
   | true=>rw[aS,dI (by show f.length+1<=_;omega) de];exact hrc _ ⟨e,rfl,hle,aQ,wY rfl⟩ aQ
   | false=>obtain⟨h0,h4⟩:=nM rfl;rw[aJ];subst h0;exact hrc _ ⟨e,rfl,hle,by simp at h2⊢;omega,h4⟩ aQ
  have Qn:∀e:Nat,dS (λx:bL=>x.dU) 0 (l.drop e) (pW f n) []=dS (λx:bL=>x.dU) 0 l [] []->(eK (0<(Ts n:Int))=hJ->dS (λx:bL=>x.dU) 0 (l.drop e) (f++[n]) []=dS (λx:bL=>x.dU) 0 l [] [])/\(eK (0<(Ts n:Int))=eQ->n=[]/\dS (λx:bL=>x.dU) 0 (l.drop e) f []=dS (λx:bL=>x.dU) 0 l [] []):=by intro e he;cases n with|nil=>exact⟨λh=>by simp at h,λ_=>⟨rfl,he⟩⟩|cons y n=>exact⟨λ_=>he,λh=>by simp at h⟩
  by_cases Xp:a<Ts l
  ·have hda:=sR Xp;have Tg:=hk _ (fm Xp);rw[cm om,bC Xp,b9,gd Xp];cases k0:(l[a].dU==0)with
   | true=>have e0:=eq_of_beq k0;rw[aS,bC Xp,dI (by show n.length+1<=_;omega) de,bZ om];refine hrc _ ⟨a+1,rfl,Xp,aQ,?_⟩ aQ;rw[<-h3,hda];simp only[dS];rw[e0];rfl
   | false=>
    obtain⟨e,e1,e2,e3,e4⟩:=ao6 F l a hF om om;rw[aJ,e4,aD];have hw:a<e->dS (λx:bL=>x.dU) 1 (l.drop e) f n=dS (λx:bL=>x.dU) 0 l [] []:=by
     intro hlt;rw[hda,Mg]at e3;cases hb:wE (λx:bL=>x.dU) l[a]with
     | true=>rw[hb,if_pos rfl]at e3;rw[e3,L8 _ 1 (.inl rfl),<-h3,hda];simp only[dS];rw[show(l[a].dU==1)=hJ from hb];rfl
     | false=>rw[hb]at e3;have:=congrArg Ts e3;simp at this;omega
    have hnw:a=e->(l[a].dU==1)=eQ:=by rintro rfl;rw[hda,Mg]at e3;cases hb:wE (λx:bL=>x.dU) l[a]with|true=>rw[hb,if_pos rfl]at e3;have h5:=congrArg Ts e3;have h6:=(ag4 (wE λx:bL=>x.dU) (l:=l.drop (a+1))).length_le;simp at h5 h6;omega|false=>exact hb
    by_cases hmk:e<Ts l/\(l.getD e nE).dU==2
    ·obtain⟨m1,m2⟩:=hmk;obtain⟨g,g1,g2,g3,g4⟩:=ao6 F l (e+1) hF om om;rw[cm om,bC m1,aD,b9,m2,aS,bZ om,g4,aD,aD];refine fin hJ g (λ_=>?_) (λh=>nomatch h) om g2;rw[gd m1]at m2;have hde:=sR m1;have h5:dS (λx:bL=>x.dU) 2 (l.drop (e+1)) (f++[n]) []=dS (λx:bL=>x.dU) 0 l [] []:=by
      rcases Nat.lt_or_eq_of_le e1 with hlt|heq
      ·have:=hw hlt;rw[hde,Sq _ m2]at this;exact this
      ·subst heq;rw[hda,Sq _ m2]at h3;exact h3
     rw[<-aly,g3,L8 _ 2 (.inr rfl)]
     ·exact h5
     ·rw[g3];exact Kk _ _
    ·have hnm:(cond (eK ((e:Int)<(Ts l:Int))) (rq ((eK (0<=(e:Int)))&&(eK ((e:Int)<(Ts l:Int)))) (iN (((l.getD (eJ (e:Int)) nE).dU)==2))) (iN eQ):Option Bool)=iN eQ:=by
      by_cases hlt:e<Ts l
      ·rw[cm om,bC hlt,b9];congr 1;cases hb:((l.getD e nE).dU==2)with|false=>rfl|true=>exact absurd ⟨hlt,hb⟩ hmk
      ·rw[cf om]
     rw[hnm,aD,aJ];rcases Nat.lt_or_eq_of_le e1 with hlt|heq
     ·rw[show((e:Int)==(a:Int))=eQ by simp;omega,aJ,aD];have h5:=hw hlt;rw[alz]at h5
      ·obtain⟨q1,q2⟩:=Qn e h5;exact fin _ e q1 q2 hlt e2
      ·intro y hy;have hh:=Kk (λx:bL=>x.dU) (l.drop a);rw[<-e3]at hh;refine⟨hh y hy,?_⟩;cases hb:(y.dU==2)with
       | false=>rfl|true=>
        refine absurd ?_ hmk;have hlt2:e<Ts l:=by
         rcases abe e l.length with h|h
         ·exact h
         ·rw[Ml h]at hy;cases hy
        rw[sR hlt2]at hy;obtain rfl:=og hy;exact⟨hlt2,by rw[gd hlt2];exact hb⟩
     ·subst heq;rw[show((a:Int)==(a:Int))=hJ by simp,aS,aD,bZ om];have k1:=hnw rfl;have k2:(l[a].dU==2)=eQ:=by cases hb:(l[a].dU==2)with|false=>rfl|true=>exact absurd ⟨Xp,by rw[gd Xp];exact hb⟩ hmk
      have k3:l[a].dU=3:=by
       rcases Tg with h|h|h|h
       ·rw[h]at k0;cases k0
       ·rw[h]at k1;cases k1
       ·rw[h]at k2;cases k2
       ·exact h
      rw[hda]at h3;simp only[dS]at h3;rw[k3]at h3;obtain⟨q1,q2⟩:=Qn (a+1) h3;exact fin _ (a+1) q1 q2 om Xp
  ·obtain rfl:a=Ts l:=om;rw[Mc]at h3;simp only[dS]at h3;rw[cf om];cases n with
   | nil=>exact aA.ok h3|cons y n=>rw[dT si,aS,dI (by show f.length+1<=_;omega) de];exact aA.ok h3
 obtain⟨r,h,e⟩:=this;rw[e,h]
def stepG(o:J aB)(r:aB):J aB:=cond (eK (0<Ts o)&&((o.getD (Ts o-1) dy).aI==r.aI)) (o.set (Ts o-1) (aB.mk ((o.getD (Ts o-1) dy).fText++r.fText) (o.getD (Ts o-1) dy).aI)) (o++[r])
def rP(e:bq):aB:=aB.mk e.bJ e.dM
def rR(e:bL):aB:=aB.mk e.bJ e.dM
theorem NL(o:J aB)(x r:aB):stepG (o++[x]) r=cond (x.aI==r.aI) (o++[aB.mk (x.fText++r.fText) x.aI]) (o++[x]++[r]):=by
 unfold stepG;have e1:(o++[x]).length-1=Ts o:=by simp
 have e2:(o++[x]).getD o.length dy=x:=by simp
 rw[e1,e2,dT si,Ko,List.set_append_right _ _ (ep _),Nat.sub_self];rfl
theorem aoc(o:J aB)(r:aB):bV (stepG o r)=bV o+Ts r.fText/\(stepG o r).length<=Ts o+1:=by
 rcases U4 o with rfl|⟨p,x,rfl⟩
 ·simp[stepG,bV]
 ·rw[ag5,NL];cases (x.aI==r.aI)<;>simp[Du,bV]<;>omega
theorem I2:∀(l o:J aB),bV (l.foldl stepG o)=bV o+bV l/\(l.foldl stepG o).length<=Ts o+Ts l
 | [],o=>by simp[bV]|r::l,o=>by
  obtain⟨h1,h2⟩:=I2 l (stepG o r);obtain⟨h3,h4⟩:=aoc o r;rw[vZ];have:bV (r::l)=Ts r.fText+bV l:=by simp[bV]
  simp only[pM];omega
theorem aad:∀(g o:J aB)(t:Bs)(c:Int),(∀r∈g,r.aI=c)->g.foldl stepG (o++[aB.mk t c])=o++[aB.mk (t++gJ g) c]
 | [],o,t,c,h=>by simp[gJ]|r::g,o,t,c,h=>by have hr:=h r sV;rw[vZ,NL];dsimp only;rw[hr,show(c==c)=hJ by simp,aS,aad g o _ c λx hx=>h x (kI _ hx)];unfold gJ;rw[vY,uK]
theorem auA(F:Nat)(l:J bL)(h:∀e∈l,Ts e.bJ<=1)(hF:Ts l<F)(hl:Ts l<=50000000):GZ F l=iN ((l.map rR).foldl stepG []):=by
 unfold GZ wx;have hsz:∀m:J bL,(∀e∈m,Ts e.bJ<=1)->bV (m.map rR)<=Ts m:=λm=>by
  induction m with
  | nil=>intro _;simp[bV]|cons a m ih=>
   intro hm;have h1:=hm a sV;have h2:=ih λe he=>hm e (kI _ he);have:bV ((a::m).map rR)=Ts a.bJ+bV (m.map rR):=by simp[bV,rR]
   simp only[pM];omega
 refine cz (λz:Int×J aB=>∃k:Nat,z=((k:Int),((l.take k).map rR).foldl stepG [])/\k<=Ts l) (λz=>Ts l-z.1.toNat) ?_ F _ ⟨0,rfl,om⟩ aQ;rintro _ ⟨k,rfl,hk⟩;dsimp only;by_cases hk:k<Ts l
 ·left;refine⟨_,⟨k+1,rfl,hk⟩,aQ,λrc=>?_⟩;obtain⟨z1,z2⟩:=I2 ((l.take k).map rR) [];have z3:=hsz (l.take k) λe he=>h e (O1 he);have hx:=h _ (fm hk);rw[zi]at z3;simp only[je,zi,Da]at z2;have e0:bV ([]:J aB)=0:=rfl;have hfl:((l.take (k+1)).map rR).foldl stepG []=stepG (((l.take k).map rR).foldl stepG []) (rR l[k]):=by rw[kT hk,pO,Mi];rfl
  rw[cm om,b9,gd hk,bZ om,hfl];generalize((l.take k).map rR).foldl stepG []=o at z1 z2⊢;unfold stepG;by_cases h0:0<Ts o
  ·have hmo:(o.getD (Ts o-1) dy).fText.length<=bV o:=by rw[gd om];exact RN (fm om)
   have e1:aE ((Ts o:Int)-1)=((Ts o-1:Nat):Int):=uP om h0;rw[e1,cm om,bC om,bC hk,b9,aD,dT h0,Ko];dsimp only;show cond ((o.getD (Ts o-1) dy).aI==l[k].dM) _ _=rc (_,cond ((o.getD (Ts o-1) dy).aI==l[k].dM) _ _);cases ((o.getD (Ts o-1) dy).aI==l[k].dM)with
   | true=>rw[aS,aS,bC om,bC hk,kJ om,bC om];rfl|false=>rw[aJ,aJ,bC hk,bC hk,dI (by show o.length+1<=_;omega) de];rfl
  ·rw[cf om,aD];dsimp only;rw[aJ,bC hk,bC hk,dI (by show o.length+1<=_;omega) de,dF h0];rfl
 ·right;obtain rfl:k=Ts l:=om;intro rc;rw[cf om,sS]
theorem asO(m:J bq):gJ (m.map rP)=Rf m:=by unfold gJ Rf;rw[List.flatMap_map];rfl
theorem auB(F:Nat)(l:J bq)(h:∀e∈l,Ts e.bJ<=1)(hF:Ts l+1<F)(hl:Ts l<=10000000):CQ F l=iN ((l.map rP).foldl stepG []):=by
 have:aA (λr=>r=(l.map rP).foldl stepG []) (CQ F l):=by
  unfold CQ wx;refine aA.lp (λz:J bq×J aB=>∃i:Nat,z.1=l.drop i/\i<=Ts l/\z.2=((l.take i).map rP).foldl stepG []/\(z.2=[]\/∃o' x,z.2=o'++[x]/\∀y∈z.1.head?,(x.aI==y.dM)=eQ)) (λz=>Ts z.1) ⟨0,rfl,om,rfl,.inl rfl⟩ (by show l.length<F;omega) ?_;rintro⟨m,o⟩ ⟨i,h1,h2,h3,h4⟩ rc hrc;dsimp only at h1 h3 h4 hrc⊢;have hm:∀e∈m,Ts e.bJ<=1:=λe he=>h e (List.mem_of_mem_drop (h1▸he));have hml:Ts m=Ts l-i:=by rw[h1,Km]
  have hol:Ts o<=i:=by have:=(I2 ((l.take i).map rP) []).2;rw[<-h3]at this;simp at this;omega
  cases hme:m with
  | nil=>rw[cf si];rw[hme]at hml;simp at hml;refine aA.ok ?_;show o=_;rw[h3,uI om]
  | cons x m'=>
   rw[<-hme];have hpos:0<Ts m:=by rw[hme];simp
   have Tn:m.getD 0 ni=x:=by rw[hme];rfl
   rw[cm om,Tn];refine aA.lp (λj:Int=>∃n:Nat,j=(n:Int)/\1<=n/\n<=Ts m/\∀e∈m.take n,e.dM=x.dM) (λj=>Ts m-j.toNat) ⟨1,rfl,ep _,hpos,λe he=>by rw[hme]at he;simp at he;rw[he]⟩ (by show m.length-1<F;omega) ?_;rintro _ ⟨n,rfl,n1,n2,n3⟩ rc' uN
   have fin:(∀y∈(m.drop n).head?,(x.dM==y.dM)=eQ)->aA (λr=>r=(l.map rP).foldl stepG []) (rq ((eK (0<=(n:Int)))&&(eK ((n:Int)<=(Ts m:Int)))) (rq (eK (0<(Ts m:Int))) ((yX F (sl m 0 (n:Int))).bind λx6=>
     rq ((eK (Ts o+Ts ([(aB.mk x6 (x.dM))]:J aB)<=9223372036854775807))&&(eK ((Ts o+Ts ([(aB.mk x6 (x.dM))]:J aB))*24<=140737488355328))) (rq ((eK (0<=(n:Int)))&&((eK ((n:Int)<=(Ts m:Int)))&&(eK ((Ts m:Int)<=(Ts m:Int))))) (rc (sl m (n:Int) (Ts m:Int),o++([(aB.mk x6 (x.dM))]:J aB))))))):=by
    intro hy;rw[ck om om,kJ om,slB,auv F (m.take n) aQ aQ λe he=>hm e (O1 he),aD,dI (by show o.length+1<=_;omega) de,wX om om om,slA];refine hrc _ ⟨i+n,by rw[h1,agQ],om,?_,.inr ⟨o,_,rfl,hy⟩⟩ aQ;show o++_=_;have ht:l.take (i+n)=l.take i++m.take n:=by rw[h1];exact List.take_add
    rw[ht,pO,Mi,<-h3,<-asO];have hmt:m.take n=x::m'.take (n-1):=by rw[hme];cases n with|zero=>omega|succ n=>rfl
    rw[hmt]at n3⊢;have hf:stepG o (rP x)=o++[rP x]:=by
     rcases h4 with rfl|⟨o',z,rfl,hz⟩
     ·rfl
     ·rw[NL,show(z.aI==(rP x).aI)=eQ from hz x (by rw[hme];rfl)];rfl
    rw[jF,vZ,hf]
    have:=aad ((m'.take (n-1)).map rP) o x.bJ x.dM (λr hr=>by
     obtain⟨e,he,rfl⟩:=lF.1 hr;exact n3 e (kI _ he))
    exact(this.trans (by unfold gJ;rw[vY];rfl)).symm
   by_cases hn:n<Ts m
   ·rw[cm om,bC hn,kJ om,aD,b9,gd hn];cases hb:(m[n].dM==x.dM)with
    | true=>
     rw[aS,bZ om];refine uN _ ⟨n+1,rfl,om,hn,λe he=>?_⟩ aQ;rw[kT hn]at he;rcases mX.1 he with he|he
     ·exact n3 e he
     ·obtain rfl:=qj.1 he;exact eq_of_beq hb
    | false=>
     rw[aJ];refine fin λy hy=>?_;rw[sR hn]at hy;obtain rfl:=og hy;rw[ag2]at hb⊢
     first|exact hb|(rw[ag2];exact hb)|skip
   ·rw[cf om,aD,aJ];exact fin λy hy=>by rw[Ml om]at hy;cases hy
 obtain⟨r,h,e⟩:=this;rw[e,h]
def mQ(l:J aB)(s:Bs):J (J aB):=(dS (jd s) 0 (l.flatMap qI) [] []).map λg=>(g.map rP).foldl stepG []
theorem aer{e:bq}(h:WE e):Ts e.bJ<=1:=by rcases h with⟨h,-⟩|⟨b,h,-⟩<;>rw[h]<;>simp
theorem aes(l:J aB)(s:Bs)(h1:Ts l<=1000000)(h2:bV l<=5000000):(dS (jd s) 0 (l.flatMap qI) [] []).length<=6000000/\∀g∈dS (jd s) 0 (l.flatMap qI) [] [],Ts g<=6000000/\∀x∈g,WE x:=by
 have hE:=L7 l;have:=alA (jd s) (l.flatMap qI) 0 [] [];simp only[Da]at this
 exact⟨om,λg hg=>by
  have:=aeq (jd s) (λ_=>1) 6000000 WE (l.flatMap qI) 0 [] [] (λ_ h=>nomatch h) (by rw[Y2,Y2];simp only[Da];omega) (λ_ h=>nomatch h) (aen l) g hg;rwa [Y2]at this⟩
theorem aqG(F:Nat)(l:J aB)(s:Bs)(hF:100000000<=F)(h1:Ts l<=1000000)(h2:bV l<=5000000):CR F l s=iN (mQ l s):=by
 have hE:=L7 l;obtain⟨d1,d2⟩:=aes l s h1 h2;unfold CR mQ wx;rw[auu F l om om om,aD,aqE F s _ (aen l) om om,aD];generalize dS (jd s) 0 (l.flatMap qI) [] []=fs at d1 d2;refine cz (λz:J (J aB)×Int=>∃k:Nat,z=((fs.take k).map (λg=>(g.map rP).foldl stepG []),(k:Int))/\k<=Ts fs) (λz=>Ts fs-z.2.toNat) ?_ F _ ⟨0,rfl,om⟩ aQ;rintro _ ⟨k,rfl,hk⟩;dsimp only;by_cases hk:k<Ts fs
 ·left;refine⟨_,⟨k+1,rfl,hk⟩,aQ,λrc=>?_⟩;obtain⟨g1,g2⟩:=d2 _ (fm hk);rw[cm om,bC hk,b9,gd hk,auB F _ (λe he=>aer (g2 e he)) om om,aD,dI aQ de,bZ om,kT hk,pO];rfl
 ·right;obtain rfl:k=Ts fs:=om;intro rc;rw[cf om,sS]
theorem alB(s:Bs)(e:bq):jd s e=0\/jd s e=1\/jd s e=2\/jd s e=3:=by
 unfold jd NJ;cases (e.bJ==[])with
 | true=>cases (e.dM==3)<;>simp
 | false=>cases (e.dM==2&&s.contains (e.bJ.getD 0 0))<;>cases (e.bJ.getD 0 0==32||(e.bJ.getD 0 0==9||e.bJ.getD 0 0==10))<;>simp
theorem aqH(F:Nat)(l:J aB)(s:Bs)(hF:100000000<=F)(h1:Ts l<=1000000)(h2:bV l<=5000000)(hs:Ts s<=5000):CG F l s=iN (mQ l s):=by
 have hE:=L7 l;obtain⟨d1,d2⟩:=aes l s h1 h2;unfold CG mQ wx;rw[auy F l s om om om om,aD,aqF F _ (λx hx=>by obtain⟨e,-,rfl⟩:=lF.1 hx;exact alB s e) (by rw[je];omega) (by rw[je];omega),aD];have hmap:=alx (jd s) (λx:bL=>x.dU) (TG s) (l.flatMap qI) 0 [] [] λ_ _=>rfl;rw[Kn,Kn]at hmap;rw[hmap];generalize dS (jd s) 0 (l.flatMap qI) [] []=fs at d1 d2;have hrr:∀g:J bq,(g.map (TG s)).map rR=g.map rP:=λg=>by rw[Ar];rfl
 refine cz (λz:J (J aB)×Int=>∃k:Nat,z=((fs.take k).map (λg=>(g.map rP).foldl stepG []),(k:Int))/\k<=Ts fs) (λz=>Ts fs-z.2.toNat) ?_ F _ ⟨0,rfl,om⟩ aQ;rintro _ ⟨k,rfl,hk⟩;dsimp only;by_cases hk:k<Ts fs
 ·left;refine⟨_,⟨k+1,rfl,hk⟩,aQ,λrc=>?_⟩;obtain⟨g1,g2⟩:=d2 _ (fm hk);have e1:(fs.map (List.map (TG s))).getD k []=fs[k].map (TG s):=by rw[gd (by rw[je];exact hk),Mf]
  rw[cm (by rw[je];omega),bC (by rw[je];exact hk),b9,e1,auA F _ (λe he=>by obtain⟨x,hx,rfl⟩:=lF.1 he;exact aer (g2 x hx)) (by rw[je];omega) (by rw[je];omega),aD,dI aQ de,bZ om,kT hk,pO,hrr];rfl
 ·right;obtain rfl:k=Ts fs:=om;intro rc;rw[cf (by rw[je];omega),sS]
theorem asP(g:J bq)(h:∀x∈g,WE x):bV (g.map rP)<=Ts g:=by
 induction g with
 | nil=>simp[bV]|cons a m ih=>
  have h1:=aer (h a sV);have h2:=ih λe he=>h e (kI _ he);have:bV ((a::m).map rP)=Ts a.bJ+bV (m.map rP):=by simp[bV,rP]
  simp only[pM];omega
theorem Xq(l:J aB)(s:Bs)(h1:Ts l<=1000000)(h2:bV l<=5000000):(mQ l s).length<=6000000/\∀f∈mQ l s,Ts f<=6000000/\bV f<=6000000:=by obtain⟨d1,d2⟩:=aes l s h1 h2;unfold mQ;refine⟨by rw[je];exact d1,λf hf=>?_⟩;obtain⟨g,hg,rfl⟩:=lF.1 hf;obtain⟨g1,g2⟩:=d2 g hg;obtain⟨z1,z2⟩:=I2 (g.map rP) [];have:=asP g g2;have e0:bV ([]:J aB)=0:=rfl;simp only[je,Da]at z2;omega
def emp(e:bq):Nat:=cond (e.bJ==[]) 1 0
theorem agy:∀l:J aB,((l.flatMap qI).map emp).sum<=Ts l
 | []=>ep _|r::l=>by
  have ih:=agy l;have h1:∀(c:Int)(t:Bs),((t.map λb=>bq.mk [b] c).map emp).sum=0:=λc t=>by
   induction t with|nil=>rfl|cons b t ih=>simp only[jF,O0,ih];rfl
  have:((qI r).map emp).sum<=1:=by
   unfold qI;cases (r.aI==3)with
   | true=>exact ep _|false=>
    cases (r.aI==0||(r.aI==1||r.aI==2))with
    | false=>exact fC _|true=>rw[aJ,aS,pO,UZ,h1];cases (r.fText==[]&&r.aI==1)<;>simp[emp]
  simp only[vY,pO,UZ,pM];omega
theorem afJ(l:J aB)(s:Bs):∀f∈mQ l s,Ts f<=bV f+Ts l:=by
 intro f hf;unfold mQ at hf;obtain⟨g,hg,rfl⟩:=lF.1 hf;obtain⟨h1,h2⟩:=aeq (jd s) emp l.length WE (l.flatMap qI) 0 [] [] (λ_ h=>nomatch h) (by have:=agy l;simp only[Kn,List.sum_nil];omega) (λ_ h=>nomatch h) (aen l) g hg;obtain⟨z1,z2⟩:=I2 (g.map rP) [];have e0:bV ([]:J aB)=0:=rfl;have h3:∀m:J bq,(∀x∈m,WE x)->Ts m<=bV (m.map rP)+(m.map emp).sum:=λm=>by
  induction m with
  | nil=>intro _;simp|cons a m ih=>
   intro hm;have h4:=ih λx hx=>hm x (kI _ hx);have h5:1<=Ts a.bJ+emp a:=by unfold emp;rcases hm a sV with⟨h,-⟩|⟨b,h,-⟩<;>rw[h]<;>simp
   have:bV ((a::m).map rP)=Ts a.bJ+bV (m.map rP):=by simp[bV,rP]
   simp only[pM,jF,O0]at this⊢;omega
 have:=h3 g h2;simp only[je,Da]at z2;omega
theorem alC(F:Nat)(r:J aB)(hF:100000000<=F)(h1:Ts r<=10000000)(h2:bV r<=10000000):∃b,pT F r=iN b:=by
 have hcl:=ab7 r;obtain⟨b,-,h⟩:=ahD (F:=F) (r:=r) om om om om λc hc=>by have:=akg r c hc;obtain⟨p,⟨g1,g2⟩,h⟩:=ab3 F c om om om om;obtain⟨x,hx⟩:=ab4 F p om om g1;exact⟨p,x,h,hx⟩
 exact⟨b,h⟩
theorem aqI(F:Nat)(l:J d6)(p:cZ)(hN:NC<=F)(hF:100000000<=F)(hl:eF l<=1000)(hs:mP s)(hst:stop s=eQ):aA (λr=>RB (eF l) r.1/\mP r.2) (fA F l p s):=by obtain⟨a,b,⟨h1,h2,-⟩,-,e⟩:=ao4 (fl:=[]) hN hF (agw F hF) F F l (dB.mk p.fP p.lq 0) p s ⟨rfl,rfl⟩ hs hst hl om om;exact⟨b,⟨h2,h1⟩,e⟩
theorem aA.sc{Q:R->Prop}{c:Bool}{x y:R}(a:c=hJ->Q x)(b:c=eQ->Q y):aA Q (iN (cond c x y)):=by grind[aA.ok]
theorem aqJ(F:Nat)(e:eO)(hF:100<F):aA (λb=>b=hJ->(Ts e.bX<=12/\∀v∈e.bX,Ts v.fName<=60/\v.cg.length<=60)/\e.dc.length<=12/\(∀x∈e.dc,Ts x<=60)/\e.fName.length<=60) (Ev F e):=by
 unfold Ev wx;simp only[aH,aD];refine aA.cb (λ_=>aA.ok λh=>nomatch h) λhc=>?_;simp at hc;refine aA.lp (λi=>∃k:Nat,i=(k:Int)/\k<=Ts e.bX/\∀v∈e.bX.take k,Ts v.fName<=60/\v.cg.length<=60) (λi=>Ts e.bX-i.toNat) ⟨0,rfl,om,si⟩ (by grind) ?_;rintro _ ⟨k,rfl,h1,h2⟩ rc hrc;refine aA.cd (λh=>?_) λh=>?_
 ·have hk:k<Ts e.bX:=om;rw[ck om om,ck om om,bH om,b9,gd hk,aH,aD];refine aA.cb (λ_=>aA.ok λh=>nomatch h) λhv=>hrc _ ⟨k+1,rfl,hk,λv jQ=>?_⟩ (by grind);grind[List.take_succ_eq_append_getElem,List.mem_singleton,cT,Bool.or_eq_false_iff,decide_eq_false_iff_not]
 ·have h2:∀v∈e.bX,Ts v.fName<=60/\v.cg.length<=60:=by grind
  refine aA.lp (λi=>∃k:Nat,i=(k:Int)/\k<=Ts e.dc/\∀v∈e.dc.take k,Ts v<=60) (λi=>Ts e.dc-i.toNat) ⟨0,rfl,om,si⟩ (by grind) ?_;rintro _ ⟨k,rfl,p1,p2⟩ rc' uN;refine aA.cd (λh=>?_) λh=>aA.ok λ_=>⟨⟨om,h2⟩,om,by grind,om⟩;have hk:k<Ts e.dc:=om;rw[ck om om,bH om,b9,gd hk];refine aA.cd (λ_=>aA.ok λh=>nomatch h) λhv=>uN _ ⟨k+1,rfl,hk,λv jQ=>?_⟩ (by grind);grind[List.take_succ_eq_append_getElem,List.mem_singleton]
theorem aqK(F:Nat)(l:J bP)(hF:200<F):aA (λr=>r=0->yp l) (Ew F l):=by
 unfold Ew wx;refine aA.cd (λ_=>aA.ok λh=>nomatch h) λhl=>?_;refine aA.lp (λi:Int=>∃k:Nat,i=(k:Int)/\k<=Ts l/\yp (l.take k)) (λi=>Ts l-i.toNat) ⟨0,rfl,om,List.Pairwise.nil⟩ (by grind) ?_;rintro _ ⟨k,rfl,h1,hA⟩ rc hrc;refine aA.cd (λh=>?_) λh=>aA.ok λ_=>by grind
 have hk:k<Ts l:=om;have lt:aA (λb:Bool=>b=eQ->k=0\/(l.getD (k-1) eD).fName<(l.getD k eD).fName) (cond (eK (0<(k:Int))) (rq ((eK (0<=aE ((k:Int)-1)))&&(eK (aE ((k:Int)-1)<(Ts l:Int)))) (rq ((eK (0<=(k:Int)))&&(eK ((k:Int)<(Ts l:Int)))) (iN (!(pD ((l.getD (eJ (aE ((k:Int)-1))) eD).fName) ((l.getD (eJ (k:Int)) eD).fName)))))) (iN eQ)):=by refine aA.cd (λh0=>?_) λ_=>aA.ok λ_=>.inl om;rw[uP om om];grind[aA.rq,mG,aA.ok,Mx]
 refine aA.rq (mG om om) (aA.bd (Gi F _ om) λb _=>aA.cb (λ_=>aA.ok λh=>nomatch h) λ_=>aA.rq (mG om om) (aA.cd (λ_=>aA.ok λh=>nomatch h) λ_=>?_));refine aA.bd (P:=λb:Bool=>b=eQ->k=0\/(l.getD (k-1) eD).fName<(l.getD k eD).fName) (aA.rq (mG om om) (aA.cb (λ_=>aA.rq (mG om om) (aA.cb (λ_=>aA.ok λh=>nomatch h) λ_=>lt)) λ_=>lt)) λb hb=>aA.cb (λ_=>aA.ok λh=>nomatch h) λhb0=>?_;rw[bH om];refine hrc _ ⟨k+1,rfl,hk,?_⟩ (by grind);unfold yp at hA⊢;rw[kT hk,List.pairwise_append];refine⟨hA,agY _ _,λa ha c hc=>?_⟩;obtain rfl:=qj.1 hc;obtain⟨m,hm,rfl⟩:=lE ha;have hm2:m<k:=by grind
 rcases hb hb0 with h0|h0
 ·omega
 ·rw[gd hk,gd (show k-1<l.length by omega)]at h0;by_cases e:m=k-1
  ·simp_all
  ·have:=(List.pairwise_iff_getElem.1 hA) m (k-1) hm (by grind) om;grind
def aod(e:eO):Prop:=((Ts e.bX<=12/\∀v∈e.bX,Ts v.fName<=60/\v.cg.length<=60)/\e.dc.length<=12/\(∀x∈e.dc,Ts x<=60)/\e.fName.length<=60)/\e.vp=[]/\e.pR=[]/\e.vq=[]/\gG e.uU=hJ/\(0<=e.ir/\e.ir<=255)/\(0<=e.gr/\e.gr<=255)/\0<=e.Dn/\0<=e.qo/\yp e.bX
theorem aet{l:J α}(h:¬ 0<(Ts l:Int)):l=[]:=ag1.1 om
theorem asQ(F:Nat)(e:eO)(hF:1000<F):aA (λb=>b=hJ->aod e) (GW F e):=by unfold GW wx;obtain⟨b1,h1,e1⟩:=aqJ F e om;obtain⟨b2,nM,e2⟩:=aqK F e.bX om;rw[e1,e2,abX F e.uU om];simp only[aH,aD];refine aA.sc (λ_=>λh=>nomatch h) λhc=>λht=>?_;simp only[cT,cF,abf,cL,agU,ag6,fV]at hc ht;exact⟨h1 hc.1.1.1.1.1,aet hc.1.1.1.2,aet hc.1.1.2,aet hc.1.2,hc.2,om,om,om,om,nM (by simpa using hc.1.1.1.1.2)⟩
theorem aqL(F:Nat)(l:J Bs)(hF:10000<F):aA (λr=>Ts r.1<=8/\∀w∈r.1,eF w.fParts<=160) (vV F l):=by refine aA.lp (λz=>∃k:Nat,z.2=(k:Int)/\k<=8/\z.1.length<=k/\∀w∈z.1,eF w.fParts<=160) (λz=>8-z.2.toNat) ⟨0,rfl,om,si,λ_ h=>nomatch h⟩ (by show 8-0<F;omega) ?_;rintro⟨o,_⟩ ⟨k,rfl,h1,h2,h3⟩ rc hrc;rw[aH];refine aA.cb (λhc=>?_) λ_=>aA.ok ⟨by grind,h3⟩;rw[cF,cL]at hc;have c1:=Bl hc.1;have c2:=Bl hc.2;have no:aA (λr:J eX×Bool=>Ts r.1<=8/\∀w∈r.1,eF w.fParts<=160) (iN ([],eQ)):=aA.ok ⟨si,λ_ h=>nomatch h⟩;refine aA.rq (mG om om) (aA.cd (λ_=>no) λh80=>aA.rq (mG om om) (aA.bd (arc F _ om om) λr hr=>K8 (λ_=>no) λ_=>?_));rw[bH om];refine aA.rq (oQ (by grind) de) (hrc _ ⟨k+1,rfl,om,aQ,λw hw=>?_⟩ (by grind));grind
theorem agz(h:aod e)(h1:K.ic e.Dn)(h2:K.ic e.qo):TF e:=by obtain⟨⟨⟨a1,a2⟩,a3,a4,a5⟩,f1,f2,f3,-,-,h6,-⟩:=h;exact⟨⟨om,λv hv=>by have:=a2 v hv;omega⟩,a3,a4,a5,⟨om,om⟩,h1,h2,f1,f2,f3⟩
def Rdy(j:wS)(w:J eX):Prop:=aod j.mY/\VL j.oV/\j.oV.length<=40/\(Ts j.kf<=12/\∀a∈j.kf,Ts a.fText<=60)/\w.length<=8/\∀x∈w,eF x.fParts<=160
theorem aqM{k:Nat}(h:k<=F):∃n,F=n+k:=⟨F-k,om⟩
theorem alD(F:Nat)(e:eO)(hF:10<=F)(h1:Ts e.bX<=1000)(h2:Ts e.dc<=1000)(h3:e.vp=[])(h4:e.pR=[])(h5:e.vq=[]):sP F e=iN e:=by obtain⟨m,rfl⟩:=aqM hF;unfold sP AJ yj yl ym yo wx;rw[h4,dI om de,dI om de];obtain⟨a1,a2,a3,a4,a5,a6,a7,a8,a9,a10,a11,a12,a13,a14⟩:=e;subst h3 h4 h5;rfl
def asR:eO:=eO.mk [] [] [] [] [] [] 0 0 0 0 [] (oR.mk 0 0) 0 eQ
def D3(s:aR)(fs:J Bs):dV×Int:=cond (s.fe != 0) (dV.mk [] asR eQ [] s.fK 0,s.fe) (dV.mk (cond s.fZ [] fs) s.cj s.fZ s.yT [] s.ld,0)
theorem alE(F:Nat)(h:TF e)(hF:10<=F):sP F e=iN e:=alD F e hF (by have:=h.1.1;omega) (by have:=h.2.1;omega) h.2.2.2.2.2.2.2.1 h.2.2.2.2.2.2.2.2.1 h.2.2.2.2.2.2.2.2.2
theorem asS(F:Nat)(fl:J aZ)(h:mP s)(hs:stop s=eQ)(hF:10<=F)(fs:J Bs):gZ F fs hJ (iK fl s)=iN (D3 s fs):=by obtain⟨h1,h2⟩:=Bj hs;unfold gZ wx;rw[show(iK fl s).cj=s.cj from rfl,alE F h.1.1 hF];unfold D3;rw[h1,h2,h.2.2 h2];rfl
theorem UN(F:Nat){x:aO}(h:mP s)(hx:Fin x s)(hF:10<=F)(fs gs:J Bs)(hs:stop s=hJ):gZ F fs eQ x=iN (D3 s gs):=by
 unfold gZ D3 wx;rcases hx with⟨h1,h2,h3,h4⟩|⟨h1,h2,h3,h4,h5⟩
 ·rw[h2,h3,h4,show(s.fe != 0)=hJ by simpa using h1];rfl
 ·have hw:s.fZ=hJ:=by unfold stop at hs;rw[h1]at hs;exact hs
  rw[h2,h4,alE F h.1.1 hF,h1,hw,h3,h5];rfl
def s0(e:eO)(a:J cO):aR:=aR.mk e a 0 (-1) 0 [] eQ []
def aoe{a:J cO}(h:TF e)(hA:yp e.bX)(h1:∀x∈a,Ts x.fText<=60)(h2:a.length<=2000):mP (s0 e a):=⟨⟨h,h1,h2,0,rfl,fC _⟩,hA,λ_=>rfl⟩
theorem aqN:EB 60=iN hJ:=by
 unfold EB wx
 try simp only[MY]
 kernel_rfl
def SX(x:dV):Prop:=Ts x.vU<=1000/\NoF x.mY/\x.mY.bX.length<=1000/\x.mY.dc.length<=1000
theorem aqO(h:mP s){fs:J Bs}(hf:Ts fs<=1000):SX (D3 s fs).1:=by
 have h1:=h.1.1.1.1;have h2:=h.1.1.2.1;unfold D3;cases (s.fe != 0)with
 | true=>exact⟨fC _,⟨rfl,rfl,rfl⟩,fC _,fC _⟩|false=>exact⟨by show(cond s.fZ [] fs).length<=_;cases s.fZ<;>simp;exact hf,h.1.1.2.2.2.2.2.2.2,by show s.cj.bX.length<=_;omega,by show s.cj.dc.length<=_;omega⟩
theorem aeu(F n:Nat)(hF:n<F)(hn:n<=1000000)(p:Int->Bool)(hp:∀x,p x=eQ):bW (σ:=Int) (R:=Bool) (λbD x1=>cond (eK (x1<(n:Int))) (rq ((eK (0<=x1))&&(eK (x1<(n:Int)))) (rq ((eK (0<=x1))&&(eK (x1<(n:Int)))) (cond (p x1) (iN eQ) (bD (aE (x1+1)))))) (iN hJ)) F 0=iN hJ:=by
 refine cz (λs:Int=>∃k:Nat,s=(k:Int)/\k<=n) (λs=>n-s.toNat) ?_ F _ ⟨0,rfl,om⟩ aQ;rintro _ ⟨k,rfl,hk⟩;by_cases hk:k<n
 ·left;refine⟨_,⟨k+1,rfl,om⟩,aQ,λrc=>?_⟩;rw[cm om,bC hk,bC hk,hp,aJ,bZ om]
 ·right;intro rc;rw[cf om]
theorem ao7(F:Nat)(l:J Bs)(hF:Ts l<F)(h:Ts l<=1000000):pK F l l=iN hJ:=by unfold pK wx;rw[Mk,aJ];exact aeu F l.length hF h (λx1=>!((l.getD (eJ x1) [])==(l.getD (eJ x1) []))) (λx=>by simp)
theorem asT(F:Nat)(l:J bP)(hF:Ts l<F)(h:Ts l<=1000000):Hl F l l=iN hJ:=by unfold Hl wx;rw[Mk,aJ];exact aeu F l.length hF h (λx1=>!(((l.getD (eJ x1) eD).fName==(l.getD (eJ x1) eD).fName)&&(((l.getD (eJ x1) eD).cg==(l.getD (eJ x1) eD).cg)&&(((l.getD (eJ x1) eD).cK==(l.getD (eJ x1) eD).cK)&&(((l.getD (eJ x1) eD).vT==(l.getD (eJ x1) eD).vT)&&(((l.getD (eJ x1) eD).mO==(l.getD (eJ x1) eD).mO)&&hJ)))))) (λx=>by simp)
theorem auC(F:Nat){x:dV}(hF:1000<F)(h:SX x):Ho F x x=iN hJ:=by
 obtain⟨h1,⟨f1,f2,f3⟩,h2,h3⟩:=h;have e:Ao F x.mY x.mY=iN hJ:=by unfold Ao wx;rw[f1,f2,f3,asT F _ om om,ao7 F _ om om];simp
 unfold Ho wx;rw[ao7 F _ om om,e];simp
def aM{R:Type}(Q:R->Prop)(x:O R):Prop:=∀r,x=iN r->Q r
variable{S:Type}{f:S->O R}{body:(σ->O R)->σ->O R}
section
variable {A : Type} {Q : R -> Prop}
theorem aM.ok{r:R}(h:Q r):aM Q (iN r):=λ_ e=>by cases e;exact h
def aM.no:aM Q iF:=λ_ e=>nomatch e
theorem aM.rq{x:O R}{c:Bool}(k:aM Q x):aM Q (rq c x):=by cases c;exact aM.no;exact k
theorem aM.cb{x y:O R}{c:Bool}(a:aM Q x)(b:aM Q y):aM Q (cond c x y):=by cases c;exact b;exact a
theorem aM.bb{P:S->Prop}{x:O S}(h:aM P x)(k:∀a,P a->aM Q (f a)):aM Q (x.bind f):=λr e=>by obtain⟨a,e1,e2⟩:=U5.1 e;exact k a (h a e1) r e2
theorem aM.bd{x:O S}(k:∀a,aM Q (f a)):aM Q (x.bind f):=aM.bb (P:=λ_=>True) (λ_ _=>trivial) λa _=>k a
theorem aM.lp(P:σ->Prop){s:σ}(h0:P s)(hs:∀s,P s->∀rc,(∀s',P s'->aM Q (rc s'))->aM Q (body rc s)):aM Q (bW body F s):=by
 induction F generalizing s with|zero=>exact aM.no|succ F ih=>exact hs s h0 (bW body F) λs' h=>ih h
def aM.lT{s:σ}(hs:∀s rc,(∀s',aM Q (rc s'))->aM Q (body rc s)):aM Q (bW body F s):=aM.lp (λ_=>True) trivial λs _ rc h=>hs s rc λs'=>h s' trivial
end
variable{c:eO}
section
variable {A : Type} {Q : R -> Prop}
def IV(c:eO)(s:aR):Prop:={s.cj with bX:=[]} = c
def aM.bi{x:O (A×aR)}{f:A×aR->O R}(h:aM (λz=>IV c z.2) x)(k:∀a,IV c a.2->aM Q (f a)):aM Q (x.bind f):=aM.bb h k
def aM.bt{x:O aR}{f:aR->O R}(h:aM (IV c) x)(k:∀a,IV c a->aM Q (f a)):aM Q (x.bind f):=aM.bb h k
def aM.ls{body:(Int×aR->O R)->Int×aR->O R}{s:Int×aR}(h0:IV c s.2)(hs:∀s:Int×aR,IV c s.2->∀rc,(∀s':Int×aR,IV c s'.2->aM Q (rc s'))->aM Q (body rc s)):aM Q (bW body F s):=aM.lp (λz=>IV c z.2) h0 hs
theorem aM.au{Q:R->Prop}{x:O R}(h:aM Q x:=by repeat' first|exact aM.no|exact aM.ok ‹_› | exact aM.ok NE.nil|exact aM.ok NT.nil|exact aM.ok (C1.one _)|exact aM.ok C1.nil|exact aM.ok λ_=>rfl|exact fin|exact go|exact go 0|exact go _ _ _ _ _ _ (λJ3=>aE (J3.SV+1))|exact g3|exact hrc _ ‹_› | exact hrc _|exact uN _ ‹_› | exact h1 _ _ _ ‹_› | exact h2 _ _ _ ‹_› | exact h3 _ _ ‹_› | exact h4 _ _ _ ‹_› | exact h5 _ _ _ ‹_› | exact h6 _ _ _ ‹_› | exact avO _ _ _ ‹_› | exact auI _ _ _ ‹_› | exact avR _ _ ‹_› | exact avP _ _|exact av3 _ _ _|exact av4 _ _|exact awk _ rfl|exact avK _ de|exact avK _ (av5 ‹_› (ws1 _))|exact avQ _ _|exact av6 _ _ _|exact av7 _ _ _|exact awl _ rfl|exact h1 _ _ _ _ _|exact h3 _ _ _ _|exact h4 _ _ _ _|exact h5 _ _ _ _|exact h6 _ _ _|exact h6 _ _ _ _|exact h1 _ _ _ h.2|exact h1 _ _ _ h|exact avS _ _ _ _|(refine aM.ok λ_ h=>?_;cases h;done)|(refine aM.ok λ_ h=>?_;cases h;assumption)|refine aM.rg λ_=>?_|refine aM.cb ?_ ?_|refine aM.rq ?_|refine aM.bu (p:=p) ?_ λ_ _=>?_|refine aM.br ?_ λ_ _=>?_|refine aM.bt (c:=c) ?_ λ_ _=>?_|refine aM.bi (c:=c) ?_ λ_ _=>?_|refine aM.bv ?_ λ_ _=>?_|refine aM.bc ?_ λ_ _=>?_|refine aM.bd λ_=>?_|refine aM.ls (c:=c) ‹_› λ_ _ rc' uN=>?_|refine aM.lT λ_ rc hrc=>?_):aM Q x:=h
def J1(c:eO)(F n:Nat):Prop:=(∀l p s,IV c s->aM (λz=>IV c z.2) ((aF F n).1 l p s))/\(∀l p s,IV c s->aM (λz=>IV c z.2) ((aF F n).2.1 l p s))/\(∀l s,IV c s->aM (λz=>IV c z.2) ((aF F n).2.2.1 l s)) /\
 (∀l p s,IV c s->aM (λz=>IV c z.2) ((aF F n).2.2.2.1 l p s))/\(∀l p s,IV c s->aM (λz=>IV c z.2) ((aF F n).2.2.2.2.1 l p s))/\(∀l p s,IV c s->aM (IV c) ((aF F n).2.2.2.2.2 l p s))
theorem alF:∀n,J1 c F n
 | 0=>⟨λ_ _ _ _=>aM.no,λ_ _ _ _=>aM.no,λ_ _ _=>aM.no,λ_ _ _ _=>aM.no,λ_ _ _ _=>aM.no,λ_ _ _ _=>aM.no⟩|n+1=>by
  obtain⟨h1,h2,h3,h4,h5,h6⟩:=alF n;refine⟨λl p s h=>?_,λl p s h=>?_,λl s h=>?_,λl p s h=>?_,λl p s h=>?_,λl p s h=>?_⟩
  ·show aM _ (iC F (aF F n) l p s);unfold iC wx;refine aM.lp (λz=>IV c z.2.2) h λz hz rc hrc=>?_;exact aM.au
  ·show aM _ (gY F (aF F n) l p s);unfold gY wx;exact aM.au
  ·show aM _ (gz F (aF F n) l s);unfold gz wx;refine aM.bi (h4 _ _ _ h) λz hz=>aM.bd λ_=>aM.cb (aM.ok hz) (aM.lT λ_ rc hrc=>?_);exact aM.au
  ·show aM _ (jm F (aF F n) l p s);unfold jm wx;exact aM.au
  ·show aM _ (gA F (aF F n) l p s);unfold gA wx;exact aM.au
  ·show aM _ (gC F (aF F n) l p s);unfold gC wx;exact aM.au
end
theorem alG{a b:J Bs}(ha:a≠[])(hb:b≠[])(h1:∀c∈a,rT c)(h2:∀c∈b,rT c)(e:dX a=dX b):a=b:=by grind[BI]
theorem L9:∀(s:Bs),∀p∈cq s,rT p
 | [],p,hp=>by obtain rfl:=qj.1 hp;intro b hb;cases hb
 | b::l,p,hp=>by
  have ih:=L9 l;have hne:=sY l;unfold cq at hp;cases hb:(b==47)with
  | true=>
   rw[hb]at hp;rcases hU.1 hp with rfl|hp
   ·intro x hx;cases hx
   ·exact ih p hp
  | false=>
   rw[hb]at hp;cases h:cq l with
   | nil=>exact absurd h hne|cons q qs=>
    rw[h]at hp;rcases hU.1 hp with rfl|hp
    ·intro x hx;rcases hU.1 hx with rfl|hx
     ·simpa using hb
     ·exact ih q (by rw[h];simp) x hx
    simp_all
def NoS(o:J (J aB)×J aB):Prop:=(∀c∈o.1,rT (gJ c))/\rT (gJ o.2)
theorem aqP(a b:J aB):gJ (a++b)=gJ a++gJ b:=by unfold gJ;rw[Mj]
theorem aof{a b:Bs}(ha:rT a)(hb:rT b):rT (a++b):=λx hx=>by
 rcases mX.1 hx with h|h
 ·exact ha x h
 ·exact hb x h
theorem ao8(c:Int):∀(ps:J Bs)(o:J (J aB)×J aB),(∀p∈ps,rT p)->NoS o->NoS (ps.foldl (HQ c) o)
 | [],o,_,h=>h|q::ps,o,hp,h=>ao8 c ps _ (λp hq=>hp p (by simp[hq])) ⟨λx hx=>by
   rcases mX.1 hx with hx|hx
   ·exact h.1 x hx
   ·obtain rfl:=qj.1 hx;exact h.2,by
   show rT (gJ [aB.mk q c])
   simp_all[afY]⟩
theorem ao9:∀(l:J aB)(o:J (J aB)×J aB),NoS o->NoS (l.foldl oX o)
 | [],o,h=>h|r::l,o,h=>ao9 l _ (by
  unfold oX;cases nU r.aI
  ·have hps:=L9 r.fText;cases hp:cq r.fText with|nil=>simp_all[sY]|cons p ps=>rw[hp]at hps;refine ao8 r.aI ps (o.1,o.2++[aB.mk p r.aI]) (λq hq=>hps q (by simp[hq])) ⟨h.1,?_⟩;rw[aqP,afY];exact aof h.2 (hps p si)
  ·exact h)
theorem aqQ(l:J aB):∀t∈gK l,rT (gJ t):=by
 have h:=ao9 l ([],[]) ⟨λc hc=>(by cases hc),λx hx=>(by cases hx)⟩;intro t ht;rcases mX.1 ht with ht|ht
 ·exact h.1 t ht
 ·obtain rfl:=qj.1 ht;exact h.2
variable{mt:J aC -> Bs -> Bool}
section
variable {l : J aZ}
theorem ajn{f:Bs->J (J Bs)}:∀ {K:J Bs},K.Nodup->(∀k,(f k).Nodup)->(K.flatMap λn=>(f n).map (n :: ·)).Nodup|[],_,_=>zj|k::K,hK,hf=>by grind
theorem agA(hv:VL l):∀(cs:J bh)(p:Bs),(W l mt cs p).Nodup
 | [],p=>by show [([]:J Bs)].Nodup;simp
 | c::cs,p=>by
  have ih:=agA hv cs;rw[xw];cases (!oY l p)
  ·cases (!c.fO)
   ·grind
   ·have hK:(dQ l p).Nodup:=(T4 hv p).imp λ{a b} hab e=>by grind
    exact ajn (hK.filter _) λk=>ih _
  ·exact zj
theorem aae{f:J Bs->Bs}:∀ {L:J (J Bs)},L.Nodup->(∀a∈L,∀b∈L,f a=f b->a=b)->(L.map f).Nodup
 | [],_,_=>zj|a::L,h,hi=>by obtain⟨h1,h2⟩:=Fo.1 h;rw[jF,Fo];refine⟨λhm=>?_,aae h2 λx hx y hy=>hi x (by simp[hx]) y (by simp[hy])⟩;obtain⟨b,hb,e⟩:=lF.1 hm;have:=hi a si b (by simp[hb]) e.symm;exact h1 (this▸hb)
theorem agB:∀(cs:J bh)(p:Bs),Ts (W l mt cs p)<=Ts l^(cs.filter λc=>!c.fO).length\/Ts l=0
 | [],p=>.inl (by simp[W])|c::cs,p=>by
  by_cases h0:Ts l=0
  ·exact .inr h0
  have ih:=λq=>(agB cs q).resolve_right h0;left;rw[xw];cases hd:(!oY l p)
  ·cases hl:(!c.fO)
   ·grind
   ·have hf:((c::cs).filter λc=>!c.fO)=c::cs.filter λc=>!c.fO:=by simp_all
    rw[hf,pM];have h1:=XH (λn=>(W l mt cs (gH p n)).map (n :: ·)) (Ts l^(cs.filter λc=>!c.fO).length) (λn=>by simp_all) ((dQ l p).filter (oJ mt c));refine kU h1 (abd _ ?_);unfold dQ;grind
  ·exact fC _
end
variable{ns:J Bs}
section
variable {l : J aZ}
theorem aqR{l:J aZ}(hv:VL l){n done rest:J Bs}(hn:Names n)(hd:oY l (pathOf n)=hJ)(e:n=done++rest):oY l (pathOf done)=hJ:=by
 have hV:=hv.tree;cases rest with
 | nil=>simp_all|cons c r=>
  unfold oY at hd;cases hf:ji l (pathOf n)with
  | none=>rw[hf]at hd;cases hd
  | some f=>
   obtain⟨h1,h2⟩:=Jo hf;have hdn:Names done:=λx hx=>hn x (by rw[e];simp[hx]);have hp:=hv.path f h1
   obtain⟨p,hp1,hp2,hp3,-⟩:=hV.above (by
    have hl2:(pathOf n).length<=128:=by rw[<-h2];exact hv.small f h1
    refine abY hdn ?_;have:(pathOf done).length<=Ts (pathOf n):=by
     unfold pathOf;have hj:∀(a b:J Bs),Ts (dX a)<=Ts (dX (a++b)):=by
      intro a
      induction a with
      | nil=>intro b;simp[dX]|cons x a ih=>
       intro b;cases a with
       | nil=>cases b with|nil=>simp|cons y b=>simp[dX]
       | cons z a=>have:=ih b;simp[dX]at this⊢;omega
     simp_all
    omega) h1 (by simp_all[Kz])
   unfold oY;rw[<-hp2,S1 hv.asc hp1];exact hp3
theorem aaf{p:Bs}(h:oY l p=hJ):(ji l p).isSome=hJ:=by
 unfold oY at h;cases hf:ji l p with
 | none=>rw[hf]at h;cases h
 | some f=>rfl
theorem alH(hv:VL l){p k:Bs}(h:k∈dQ l p):(ji l (gH p k)).isSome=hJ:=by
 obtain⟨f,hf,rfl⟩:=lF.1 h;rw[Rq]at hf;have hk:=hf.2;unfold zn at hk;simp only[cL,wO,uJ]at hk;obtain⟨-,c,-,-,-,-,e1,e2,-⟩:=EI (hv.path f hf.1) hk.1;have e3:gH p (mU f.bM)=f.bM:=by
  conv=>rhs;rw[e2]
  unfold gH aro;grind
 rw[e3,S1 hv.asc hf.1];rfl
theorem aev(hv:VL l)(hn:Names ns){c:Bs}(hc:rT c)(hne:c≠[])(h:(ji l (gH (pathOf ns) c)).isSome=hJ):lK c=hJ:=by
 cases hf:ji l (gH (pathOf ns) c)with
 | none=>rw[hf]at h;cases h
 | some f=>
  obtain⟨-,hps,-⟩:=MB hv hf;rw[uX hn]at hps;have rO:∀x∈ns++[c],rT x:=by
   intro x hx;rcases mX.1 hx with hx|hx
   ·exact sE (hn x hx)
   simp_all
  have hpj:cq ((pathOf (ns++[c])).drop 1)=ns++[c]:=BI (ns++[c]) si rO;have hr:(pathOf (ns++[c])==[47])=eQ:=by cases hb:(pathOf (ns++[c])==[47])with|false=>rfl|true=>have e:=eq_of_beq hb;rw[e]at hpj;have:([([]:Bs)]:J Bs)=ns++[c]:=hpj;grind
  obtain⟨h1,-⟩:=yz hps hr;rw[hpj]at h1;exact h1 c si
def agC(l:J aZ)(w ns:J Bs):Prop:=∃ns',oW w ns=iN ns'/\Names ns'/\(ji l (pathOf ns')).isSome=hJ/\(w.getLast? = iN []->oY l (pathOf ns')=hJ)
theorem agD(hv:VL l):∀(cs:J bh)(ns:J Bs),Names ns->(∀c∈cs,rT c.bJ)->(ji l (pathOf ns)).isSome=hJ->∀w∈W l mt cs (pathOf ns),agC l w ns
 | [],ns,hn,_,hs,w,hw=>by obtain rfl:=qj.1 (show w∈[([]:J Bs)]from hw);exact⟨ns,rfl,hn,hs,λh=>by cases h⟩
 | c::cs,ns,hn,hc,hs,w,hw=>by
  have ih:=agD hv cs;have hcs:∀c∈cs,rT c.bJ:=λx hx=>hc x (by simp[hx]);have hct:=hc c si;have hone:∀(x:Bs)(q:Bs)(n2:J Bs),q=pathOf n2->Names n2->(ji l (pathOf n2)).isSome=hJ->(∀w',oW (x::w') ns=oW w' n2)->(x=[]->oY l (pathOf n2)=hJ)->w∈(W l mt cs q).map (x :: ·)->agC l w ns:=by
   intro x q n2 e h1 h2 h3 h4 hq;subst e;obtain⟨w',hw',rfl⟩:=lF.1 hq;obtain⟨ns',g1,g2,g3,g4⟩:=ih n2 h1 hcs h2 w' hw';refine⟨ns',by rw[h3];exact g1,g2,g3,λahC=>?_⟩;cases w' with
   | nil=>
    have hx:x=[]:=by simpa using ahC
    have:n2=ns':=og g1;simp_all
   | cons y w'=>simp_all
  rw[xw]at hw;cases h1:(!oY l (pathOf ns))<;>rw[h1]at hw
  ·have hd:oY l (pathOf ns)=hJ:=by simpa using h1
   cases h2:(!c.fO)<;>rw[h2]at hw
   ·cases h3:(c.bJ==[]||c.bJ==[46])<;>rw[h3]at hw
    ·have hne:c.bJ≠[]:=by simp_all
     cases h4:(c.bJ==[46,46])<;>rw[h4]at hw
     ·cases h5:(ji l (gH (pathOf ns) c.bJ)).isNone<;>rw[h5]at hw
      ·have hsome:(ji l (gH (pathOf ns) c.bJ)).isSome=hJ:=by simp_all
       have hnm:=aev hv hn hct hne hsome;refine hone c.bJ _ (ns++[c.bJ]) (uX hn _) (hn.snoc hnm) (by simp_all[uX]) (λw'=>?_) (λe=>absurd e hne) hw;rw[oW,h3,h4,hnm];rfl
      ·cases hw
     ·have hdl:oY l (pathOf ns.dropLast)=hJ:=by
       rcases U4 ns with rfl|⟨m,x,rfl⟩
       ·exact hd
       grind[List.dropLast_concat,aqR]
      refine hone c.bJ _ ns.dropLast (HL hn) hn.dropLast (aaf hdl) (λw'=>?_) (λe=>absurd e hne) hw;rw[oW,h3,h4];rfl
    ·refine hone c.bJ _ ns rfl hn hs (λw'=>?_) (λ_=>hd) hw;rw[oW,h3];rfl
   ·obtain⟨k,hk,hw⟩:=ag3.1 (show w∈((dQ l (pathOf ns)).filter (oJ mt c)).flatMap _ from hw);have hkm:=(Rq.1 hk).1;have hnm:=(XO hv hkm).1;obtain⟨d1,d2,d3⟩:=Zj hnm;refine hone k _ (ns++[k]) (uX hn _) (hn.snoc hnm) (by grind[uX,alH]) (λw'=>?_) (λe=>by rw[e]at hnm;cases hnm) hw;rw[oW,d1,d2,d3,hnm];rfl
  ·cases hw
end
section
variable {l : J aZ}
def NdW(l:J aZ)(mt:J aC->Bs->Bool)(cs:J bh)(ns:J Bs):Prop:=((W l mt cs (pathOf ns)).map λw=>oW w ns).Nodup/\∀w∈W l mt cs (pathOf ns),∃t,oW w ns=iN (ns++t)
theorem agE{cs:J bh}{ns:J Bs}(hn:Names ns):∀(K:J Bs),(∀k∈K,lK k=hJ)->K.Nodup->(∀k∈K,NdW l mt cs (ns++[k])) ->
  (((K.flatMap λn=>(W l mt cs (gH (pathOf ns) n)).map (n :: ·))).map λw=>oW w ns).Nodup/\∀w∈(K.flatMap λn=>(W l mt cs (gH (pathOf ns) n)).map (n :: ·)),∃k∈K,∃t,oW w ns=iN (ns++k::t)
 | [],_,_,_=>⟨zj,λw hw=>by cases hw⟩
 | k::K,hk,hnd,hI=>by
  obtain⟨h1,h2⟩:=Fo.1 hnd;obtain⟨i1,i2⟩:=agE hn K (λx hx=>hk x (by simp[hx])) h2 λx hx=>hI x (by simp[hx]);obtain⟨j1,j2⟩:=hI k si;have hkn:=hk k si;obtain⟨d1,d2,d3⟩:=Zj hkn;have hcl:∀w',oW (k::w') ns=oW w' (ns++[k]):=λw'=>by rw[oW,d1,d2,d3,hkn];rfl
  have hj:gH (pathOf ns) k=pathOf (ns++[k]):=uX hn k;have hhead:∀w∈(W l mt cs (gH (pathOf ns) k)).map (k :: ·),∃t,oW w ns=iN (ns++k::t):=by simp_all
  rw[vY];refine⟨?_,λw hw=>?_⟩
  ·rw[pO,agK];refine⟨?_,i1,λa ha b hb e=>?_⟩
   ·grind
   ·subst e;obtain⟨w1,hw1,e1⟩:=lF.1 ha;grind[w2,Option.some.inj,List.append_cancel_left,List.cons.inj]
  grind
theorem asU(hv:VL l):∀(cs:J bh)(ns:J Bs),Names ns->(∀c∈cs,rT c.bJ)->(∀c∈cs,c.fO=hJ->c.bJ≠[46,46])->NdW l mt cs ns
 | [],ns,hn,_,_=>⟨by show([oW [] ns]).Nodup;simp,λw hw=>by
   obtain rfl:=qj.1 (show w∈[([]:J Bs)]from hw)
   exact⟨[],by simp[oW]⟩⟩
 | c::cs,ns,hn,hc,hd=>by
  have ih:=λn2 h=>asU hv cs n2 h (λx hx=>hc x (by simp[hx])) (λx hx=>hd x (by simp[hx]));have hct:=hc c si;have hdt:=hd c si;have hone:∀(q:Bs)(n2 t0:J Bs),q=pathOf n2->Names n2->n2=ns++t0->(∀w',oW (c.bJ::w') ns=oW w' n2)->((((W l mt cs q).map (c.bJ :: ·)).map λw=>oW w ns).Nodup/\∀w∈(W l mt cs q).map (c.bJ :: ·),∃t,oW w ns=iN (ns++t)):=by intro q n2 t0 e h1 h2 h3;subst e;obtain⟨j1,j2⟩:=ih n2 h1;grind
  have hnil:(([]:J (J Bs)).map λw=>oW w ns).Nodup/\∀w∈([]:J (J Bs)),∃t,oW w ns=iN (ns++t):=⟨zj,λw hw=>by cases hw⟩;unfold NdW;rw[xw];cases h1:(!oY l (pathOf ns))
  ·cases h2:(!c.fO)
   ·have avL:c.fO=hJ:=by simpa using h2
    cases h3:(c.bJ==[]||c.bJ==[46])
    ·have h4:(c.bJ==[46,46])=eQ:=by simpa using hdt avL
     rw[h4];have hne:c.bJ≠[]:=by simp_all
     cases h5:(ji l (gH (pathOf ns) c.bJ)).isNone
     ·have hsome:(ji l (gH (pathOf ns) c.bJ)).isSome=hJ:=by simp_all
      have hnm:=aev hv hn hct hne hsome;exact hone _ (ns++[c.bJ]) [c.bJ] (uX hn _) (hn.snoc hnm) rfl λw'=>by rw[oW,h3,h4,hnm];rfl
     ·exact hnil
    ·exact hone _ ns [] rfl hn si λw'=>by rw[oW,h3];rfl
   ·have hK:(dQ l (pathOf ns)).Nodup:=(T4 hv _).imp λ{a b} hab e=>by grind
    have hkn:∀k∈(dQ l (pathOf ns)).filter (oJ mt c),lK k=hJ:=λk hk=>(XO hv (Rq.1 hk).1).1;obtain⟨j1,j2⟩:=agE (cs:=cs) (mt:=mt) (l:=l) hn _ hkn (hK.filter _) λk hk=>ih (ns++[k]) (hn.snoc (hkn k hk));grind
  ·exact hnil
end
theorem alI{α:Type}[BEq α][LawfulBEq α]:∀(a b:J α),a.Nodup->(∀x∈a,x∈b)->a.length<=Ts b
 | [],b,_,_=>by simp|x::a,b,h,hs=>by
  obtain⟨h1,h2⟩:=Fo.1 h;have ih:=alI a (b.erase x) h2 λy hy=>by grind
  grind
theorem alJ{α β:Type}{g:α->β}:∀ {L:J α},(L.map g).Nodup->∀a∈L,∀b∈L,g a=g b->a=b
 | [],_,a,ha,_,_,_=>by cases ha
 | x::L,h,a,ha,b,hb,e=>by
  rw[jF,Fo]at h;rcases hU.1 ha with ha|ha
  ·rcases hU.1 hb with hb|hb
   ·rw[ha,hb]
   ·rw[ha]at e;exact absurd (lF.2 ⟨b,hb,e.symm⟩:g x∈L.map g) h.1
  ·rcases hU.1 hb with hb|hb
   ·rw[hb]at e;exact absurd (lF.2 ⟨a,ha,e⟩:g x∈L.map g) h.1
   ·exact alJ h.2 a ha b hb e
theorem ajo{a b:J Bs}(ha:Names a)(hb:Names b)(e:pathOf a=pathOf b):a=b:=by
 have e2:dX a=dX b:=by simpa[pathOf]using e
 cases a with
 | nil=>cases b with|nil=>rfl|cons y b=>exact absurd e2.symm (RI hb si)
 | cons x a=>cases b with|nil=>exact absurd e2 (RI ha si)|cons y b=>exact alG si si (λc hc=>sE (ha c hc)) (λc hc=>sE (hb c hc)) e2
theorem aqS{l:J aZ}(hv:VL l){cs:J bh}(hn:Names ns)(hc:∀c∈cs,rT c.bJ)(hd:∀c∈cs,c.fO=hJ->c.bJ≠[46,46])(hs:(ji l (pathOf ns)).isSome=hJ):(W l mt cs (pathOf ns)).length<=Ts l:=by
 obtain⟨h1,-⟩:=asU (mt:=mt) hv cs ns hn hc hd;have hP:=agD (mt:=mt) hv cs ns hn hc hs;have hnd:((W l mt cs (pathOf ns)).map λw=>(oW w ns).elim [] pathOf).Nodup:=by refine aae (agA hv cs _) λa ha b hb e=>?_;obtain⟨na,a1,a2,-⟩:=hP a ha;obtain⟨nb,b1,b2,-⟩:=hP b hb;grind[ajo,alJ]
 have hsub:∀x∈((W l mt cs (pathOf ns)).map λw=>(oW w ns).elim [] pathOf),x∈l.map λf=>f.bM:=by
  intro x hx;obtain⟨w,hw,rfl⟩:=lF.1 hx;obtain⟨n2,a1,a2,a3,-⟩:=hP w hw;cases hf:ji l (pathOf n2)with
  | none=>rw[hf]at a3;cases a3
  | some f=>obtain⟨g1,g2⟩:=Jo hf;grind
 have:=alI _ _ hnd hsub;simpa using this
def bits(c:J aB):J dZ:=c.flatMap HM
def rJ(o:J (J aB)×J aB):J (J dZ)×J dZ:=(o.1.map bits,bits o.2)
def bst(cl:Int)(o:J (J dZ)×J dZ)(b:UInt8):J (J dZ)×J dZ:=cond (b==47) (o.1++[o.2],[]) (o.1,o.2++[dZ.mk (b.toNat:Int) (cl != 1)])
theorem AK(a b:J aB):bits (a++b)=bits a++bits b:=by unfold bits;rw[Mj]
theorem AL(t:Bs)(cl:Int)(h:nU cl=eQ):bits [aB.mk t cl]=t.map λb=>dZ.mk (b.toNat:Int) (cl != 1):=by unfold bits;unfold HM;simp_all
theorem auD(cl:Int)(h:nU cl=eQ)(o:J (J aB)×J aB)(b:UInt8):rJ (mw cl o b)=bst cl (rJ o) b:=by
 unfold mw bst rJ;cases (b==47)
 ·simp_all[AK,AL]
 ·show((o.1++[o.2]).map bits,bits [])=_;rw[pO];rfl
theorem alK(cl:Int)(h:nU cl=eQ):∀(t:Bs)(o:J (J aB)×J aB),rJ (t.foldl (mw cl) o)=t.foldl (bst cl) (rJ o)|[],o=>rfl|b::t,o=>by simp_all[vZ,alK,auD]
theorem apa(cl:Int):∀(ps:J Bs)(o o':J (J aB)×J aB),rJ o=rJ o'->rJ (ps.foldl (HQ cl) o)=rJ (ps.foldl (HQ cl) o')
 | [],o,o',h=>h|q::ps,o,o',h=>by refine apa cl ps _ _ ?_;have h1:o.1.map bits=o'.1.map bits:=congrArg (·.1) h;have h2:bits o.2=bits o'.2:=congrArg (·.2) h;unfold HQ rJ;simp_all
theorem ajp(cl:Int)(h:nU cl=eQ):∀(t:Bs)(o:J (J aB)×J aB),rJ (pcP cl o (cq t))=t.foldl (bst cl) (rJ o)
 | [],o=>by show rJ (o.1,o.2++[aB.mk [] cl])=rJ o;unfold rJ;simp_all[AK,AL]
 | b::t,o=>by
  have hne:=sY t;rw[vZ];unfold cq;cases hb:(b==47)with
  | true=>
   have ih:=ajp cl h t (o.1++[o.2++[aB.mk [] cl]],[]);have e:rJ (o.1++[o.2++[aB.mk [] cl]],[])=bst cl (rJ o) b:=by unfold rJ bst;rw[hb,pO,jF,AK,AL _ _ h];simp[bits]
   rw[e]at ih;rw[<-ih];cases hp:cq t with|nil=>exact absurd hp hne|cons p ps=>rfl
  | false=>
   have ih:=ajp cl h t (o.1,o.2++[aB.mk [b] cl]);have e:rJ (o.1,o.2++[aB.mk [b] cl])=bst cl (rJ o) b:=by unfold rJ bst;rw[hb,AK,AL _ _ h];rfl
   rw[e]at ih;rw[<-ih];cases hp:cq t with|nil=>exact absurd hp hne|cons p ps=>refine apa cl ps _ _ ?_;unfold rJ;rw[AK,AK,AK,AL _ _ h,AL _ _ h,AL _ _ h];simp
theorem auE(r:aB)(o o':J (J aB)×J aB)(h:rJ o=rJ o'):rJ (wk o r)=rJ (oX o' r):=by unfold wk oX;show rJ (cond (nU r.aI) o _)=_;cases hc:nU r.aI with|true=>exact h|false=>simp_all[aJ,alK,ajp]
theorem apb:∀(l:J aB)(o o':J (J aB)×J aB),rJ o=rJ o'->rJ (l.foldl wk o)=rJ (l.foldl oX o')|[],o,o',h=>h|r::l,o,o',h=>apb l _ _ (auE r o o' h)
theorem aqT(l:J aB):(rK l).map bits=(gK l).map bits:=by have h:=apb l ([],[]) ([],[]) rfl;have h1:(gq l).1.map bits=(HR l).1.map bits:=congrArg (·.1) h;have h2:bits (gq l).2=bits (HR l).2:=congrArg (·.2) h;unfold rK gK;simp_all
theorem aaT(F:Nat)(c t:J aB)(e:bits c=bits t)(c1:Ts c<F)(c2:bV c<F)(c3:Ts c<1000000000)(c4:bV c<=1000000000)(t1:Ts t<F)(t2:bV t<F)(t3:Ts t<1000000000)(t4:bV t<=1000000000):gE F c=gE F t:=by unfold gE wx;rw[Ea F c c1 c2 c3 c4,Ea F t t1 t2 t3 t4,show c.flatMap HM=t.flatMap HM from e]
theorem aqU(hF:100000000<=F)(c t:J aB)(e:bits c=bits t)(c1:Ts c<=10000)(c2:bV c<=10000)(t1:Ts t<=10000)(t2:bV t<=10000):∃x,gE F c=iN ((lY F) t)/\kQ F ((lY F) t)=iN (x,(qV F) t):=by obtain⟨p,h1,h2⟩:=Vu F t om om om om;grind[Ll,Option.some.inj,XT,aaT,S9]
theorem aew(F:Nat)(x:J fJ)(i:Nat)(hF:Ts x+1000<F)(hx:Ts x<100000)(hc:Pk x)(hi:i<Ts x):
  ∃r:aC×Int×Bool,(r.2.2=hJ->r.1.fKind=4)/\lM F x (i:Int)=iN r:=by
 unfold lM wx;have hw1:aE ((i:Int)+1)=((i+1:Nat):Int):=bZ om;rw[hw1,fR,aD,fR,aD,aH,aD,bZ om,aH];obtain⟨s0,hs0,hs1,hs2⟩:∃s0:Nat,cond (cond (ef x (i+1) 33) hJ (ef x (i+1) 94)) (((i+1+1:Nat):Int)) ((i+1:Nat):Int)=(s0:Int)/\i<s0/\s0<=i+2:=by
  cases (cond (ef x (i+1) 33) hJ (ef x (i+1) 94))
  ·exact⟨i+1,rfl,om,om⟩
  ·exact⟨i+2,rfl,om,om⟩
 rw[hs0];refine eM _ (λs=>∃k:Nat,s.1=(k:Int)/\i<k/\k<=Ts x+2/\s.2.2.length=256) (λs=>Ts x+2-s.1.toNat) ?_ F _ ⟨s0,rfl,hs1,om,si⟩ aQ;rintro⟨ii,fi,st⟩ ⟨k,h0,hk,hk2,hl⟩ rc hrc;subst h0;by_cases wC:k<Ts x
 ·rw[cm om,fR,aD,aH,aD];have e2:cond (ef x k 93) (!fi,st) (eQ,st)=((ef x k 93 && !fi),st):=by cases ef x k 93<;>rfl
  rw[e2];cases (ef x k 93 && !fi)with
  | true=>obtain⟨l,h1,h2⟩:=Zl F st om hl;simp_all[aS,cy,aD]
  | false=>obtain⟨r,⟨e,h1,h2,h3,h4⟩,h5⟩:=Vm F x k st om om hc wC hl;rw[aJ,h5];exact hrc _ ⟨e,h1,om,om,h4⟩ (by grind)
 simp_all[cf]
theorem aaU(F:Nat)(l:J aB)(hF:Ts l<F)(qR:bV l+1000<F)(h1:Ts l<1000000000)(h2:bV l<=10000):∃p:J aC,(p.all AR=hJ->p=(l.flatMap p8).map λe=>pb e.fb)/\eR F l=iN p:=by
 unfold eR wx;rw[HP F l hF om h1 om,aD];have hx:(l.flatMap p8).length<=bV l:=HN _ RM _;have hc:=T5 l;generalize(l.flatMap p8)=x at hx hc;refine eM _ (λs:J aC×Int=>∃k:Nat,s.2=(k:Int)/\k<=Ts x/\s.1.length<=k/\(s.1.all AR=hJ->s.1=(x.take k).map λe=>pb e.fb)) (λs=>Ts x-s.2.toNat) ?_ F _ ⟨0,rfl,om,si,λ_=>by simp⟩ aQ;rintro⟨acc,ii⟩ ⟨k,h0,hk,ha,hit⟩ rc hrc;dsimp only at h0 ha hit⊢;subst h0;have Ds:∀(it:aC)(e:Nat),AR it=eQ->k<e->e<=Ts x->∃p:J aC,(p.all AR=hJ->p=x.map λe=>pb e.fb)/\rc (acc++[it],(e:Int))=iN p:=by intro it e h3 h4 h5;refine hrc _ ⟨e,rfl,h5,aQ,λhall=>?_⟩ aQ;simp_all
 by_cases wC:k<Ts x
 ·rw[cm om]
  have eS:∃p:J aC,(p.all AR=hJ->p=x.map λe=>pb e.fb)/\((fu F x (k:Int) 42).bind λx7=>
    cond x7
    (rq ((eK (Ts acc+Ts ([(aC.mk 3 [] eQ [])]:J aC)<=9223372036854775807))&&(eK ((Ts acc+Ts ([(aC.mk 3 [] eQ [])]:J aC))*56<=140737488355328))) (rc (acc++([(aC.mk 3 [] eQ [])]:J aC),aE ((k:Int)+1))))
    ((fu F x (k:Int) 63).bind λx8=>
    cond x8
    (rq ((eK (Ts acc+Ts ([(aC.mk 2 [] eQ [])]:J aC)<=9223372036854775807))&&(eK ((Ts acc+Ts ([(aC.mk 2 [] eQ [])]:J aC))*56<=140737488355328))) (rc (acc++([(aC.mk 2 [] eQ [])]:J aC),aE ((k:Int)+1))))
    (rq ((eK (0<=(k:Int)))&&(eK ((k:Int)<(Ts x:Int)))) (rq ((eK (Ts acc+Ts ([(aC.mk 1 (cx ([(x.getD (eJ (k:Int)) cU).fb]:J Int)) eQ [])]:J aC)<=9223372036854775807))&&(eK ((Ts acc+Ts ([(aC.mk 1 (cx ([(x.getD (eJ (k:Int)) cU).fb]:J Int)) eQ [])]:J aC))*56<=140737488355328))) (rc (acc++([(aC.mk 1 (cx ([(x.getD (eJ (k:Int)) cU).fb]:J Int)) eQ [])]:J aC),aE ((k:Int)+1)))))))=iN p:=by
   rw[fR,aD,fR,aD,dI aQ om,dI aQ om,bC wC,dI aQ om,bZ om,b9];cases ef x k 42 with
   | true=>exact Ds _ _ rfl om om|false=>cases ef x k 63 with|true=>exact Ds _ _ rfl om om|false=>refine hrc _ ⟨k+1,rfl,om,aQ,λhall=>?_⟩ aQ;rw[List.all_append,cL]at hall;rw[hit hall.1,kT wC,pO,gd wC];rfl
  rw[fR,aD];cases ef x k 91 with
  | false=>exact eS|true=>
   obtain⟨r,h3,h4⟩:=Kx F x k om om hc wC;obtain⟨r',ZI,h4'⟩:=aew F x k om om hc wC;have hrr:r'=r:=og (h4'.symm.trans h4);subst hrr;rw[aS,h4,aD];cases h5:r'.2.2 with
   | false=>exact eS|true=>obtain⟨g1,e,g2,g3,g4⟩:=h3 h5;rw[aS,dI aQ om,g2];obtain⟨p,hp,hq⟩:=Ds r'.1 e (by unfold AR;rw[ZI h5];rfl) g3 g4;rw[hq];exact⟨p,hp,rfl⟩
 grind
def ajq(o:J (J aB)×J aB):Prop:=(∀c∈o.1,∀r∈c,nU r.aI=eQ)/\∀r∈o.2,nU r.aI=eQ
theorem alL(c:Int)(hc:nU c=eQ):∀(ps:J Bs)(o:J (J aB)×J aB),ajq o->ajq (ps.foldl (HQ c) o)
 | [],o,h=>h|q::ps,o,h=>alL c hc ps _ ⟨λx hx=>by
   rcases mX.1 hx with hx|hx
   ·exact h.1 x hx
   ·obtain rfl:=qj.1 hx;exact h.2,λr hr=>by
   obtain rfl:=qj.1 hr;exact hc⟩
theorem alM:∀(l:J aB)(o:J (J aB)×J aB),ajq o->ajq (l.foldl oX o)
 | [],o,h=>h|r::l,o,h=>alM l _ (by
  unfold oX;cases hc:nU r.aI
  ·cases hp:cq r.fText with
   | nil=>simp_all[sY]|cons p ps=>
    refine alL r.aI hc ps (o.1,o.2++[aB.mk p r.aI]) ⟨h.1,λx hx=>?_⟩;rcases mX.1 hx with hx|hx
    ·exact h.2 x hx
    simp_all
  ·exact h)
theorem asV(l:J aB):∀t∈gK l,∀r∈t,nU r.aI=eQ:=by
 have h:=alM l ([],[]) ⟨λc hc=>(by cases hc),λr hr=>(by cases hr)⟩;intro t ht;rcases mX.1 ht with ht|ht
 ·exact h.1 t ht
 ·obtain rfl:=qj.1 ht;exact h.2
theorem alN:∀(t:J aB),(∀r∈t,nU r.aI=eQ)->BM ((t.flatMap p8).map λe=>pb e.fb)=gJ t
 | [],_=>rfl|r::t,h=>by
  have ih:=alN t λx hx=>h x (by simp[hx]);have hc:=h r si;rw[vY,pO];have e:BM ((p8 r).map λe=>pb e.fb)=r.fText:=by
   unfold p8;rw[hc,aJ,Ar];unfold BM;rw[List.flatMap_map]
   conv=>rhs;rw[<-List.flatMap_singleton' r.fText]
   refine congrArg (λf=>List.flatMap f r.fText) (funext λb=>?_);show cx [(b.toNat:Int)]=[b];simp[cx]
  have e2:∀a b:J aC,BM (a++b)=BM a++BM b:=λa b=>by unfold BM;rw[Mj]
  rw[e2,e,ih];unfold gJ;rw[vY]
theorem aog(hF:100000000<=F)(t:J aB)(h1:Ts t<=10000)(h2:bV t<=10000)(hcl:∀r∈t,nU r.aI=eQ)(h:(qV F) t=hJ):kQ F ((lY F) t)=iN (gJ t,hJ):=by
 obtain⟨g1,g2,g3⟩:=Ll hF t h1 h2;obtain⟨b,hb⟩:=Jq F ((lY F) t) om om g2;have hl:=S8 F ((lY F) t) om om g2 hb;obtain⟨x,hx⟩:=XT hF t h1 h2;rw[<-S9 F ((lY F) t) om om g2];rw[hl]at hx;have he:=og hx;unfold Pr at he;cases ha:(((lY F) t).all AR&&b)with
 | false=>simp_all|true=>
  obtain⟨p,hp1,hp2⟩:=aaU F t om om om om;have Vq:=og (hp2.symm.trans g1);have h3:BM ((lY F) t)=gJ t:=by simp_all[alN]
  simp_all
def CV(F:Nat)(t:J aB):Bool:=!(qV F) t
def Ow(F:Nat)(t:J aB):Bool:=(qV F) t&&gJ t==[46,46]
theorem afK(hF:100000000<=F)(r:J aB)(h1:Ts r<=10000)(h2:bV r<=3000):pT F r=iN (eK (Ts ((gK r).filter (CV F))<=2)||((gK r).filter (Ow F)).length==0):=by
 have hmap:=aqT r;have hlen:(rK r).length=Ts (gK r):=by have:=congrArg Ts hmap;simpa using this
 have hcl:=ab7 r;have amz:∀k,∀hk:k<Ts (gK r),∃x,gE F ((rK r).getD k [])=iN ((lY F) (gK r)[k])/\kQ F ((lY F) (gK r)[k])=iN (x,(qV F) (gK r)[k])/\((qV F) (gK r)[k]=hJ->x=gJ (gK r)[k]):=by
  intro k hk;have hk':k<Ts (rK r):=om;have e:bits (rK r)[k]=bits (gK r)[k]:=by have:=congrArg (λL=>L[k]?) hmap;grind
  have c1:=akg r _ (fm hk');have t1:=acg (l:=r) _ (fm hk);have t2:=(ahI (l:=r)).2 _ (fm hk);obtain⟨x,g1,g2⟩:=aqU hF (rK r)[k] (gK r)[k] e om om om om;rw[gd hk'];refine⟨x,g1,g2,λhl=>?_⟩;have h3:=aog hF (gK r)[k] om om (asV r _ (fm hk)) hl;simp_all
 unfold pT Ry wx;rw[ck om om,aD,hlen];refine cz (λx:Int×Int×Int=>∃k:Nat,x=((Ts (((gK r).take k).filter (CV F)):Int),(Ts (((gK r).take k).filter (Ow F)):Int),(k:Int))/\k<=Ts (gK r)) (λx=>Ts (gK r)-x.2.2.toNat) ?_ F _ ⟨0,si,om⟩ aQ;rintro x ⟨k,rfl,hk⟩;dsimp only;have hw:=aaX (CV F) ((gK r).take k);have hu:=aaX (Ow F) ((gK r).take k);rw[zi]at hw hu;by_cases hk:k<Ts (gK r)
 ·left;obtain⟨x,g1,g2,g3⟩:=amz k hk;refine⟨_,⟨k+1,rfl,om⟩,aQ,λrc=>?_⟩;rw[cm om,bC hk,b9,g1,aD,g2,aD,bZ om,bZ om,bZ om,kT hk,U6,U6];cases hl:(qV F) (gK r)[k]with
  | false=>
   have e1:(CV F) (gK r)[k]=hJ:=by unfold CV;rw[hl];rfl
   have e2:(Ow F) (gK r)[k]=eQ:=by unfold Ow;rw[hl];rfl
   simp[e1,e2]
  | true=>
   have hx:=g3 hl;subst hx;have e1:(CV F) (gK r)[k]=eQ:=by unfold CV;rw[hl];rfl
   have e2:(Ow F) (gK r)[k]=(gJ (gK r)[k]==[46,46]):=by unfold Ow;rw[hl];rfl
   grind
 ·right;obtain rfl:k=Ts (gK r):=om;intro rc;rw[cf om,aH,aD,sS];congr 1;grind
variable{cwd:Bs}
theorem ajr(hc:gG cwd=hJ)(f:Bs):∃ns,Names ns/\tK cwd f=pathOf ns:=by
 unfold tK;cases (f.take 1==[47])with
 | true=>exact⟨[],λc h=>(by cases h),rfl⟩
 | false=>grind[RW]
theorem aqV(hF:100000000<=F){l:J aZ}(hv:VL l)(tH:Ts l<=40)(hc:gG cwd=hJ)(r:J aB)(hb:(eK (Ts ((gK r).filter (CV F))<=2)||((gK r).filter (Ow F)).length==0)=hJ)(f:Bs):
  (W l (Pu F) (partsOf (lY F) (qV F) r) (tK cwd f)).length<=1600:=by
 rw[Mh,fV]at hb;rcases hb with hb|hb
 ·have hf:((partsOf (lY F) (qV F) r).filter λc=>!c.fO).length=Ts ((gK r).filter (CV F)):=by unfold partsOf;rw[List.filter_map,je];rfl
  rcases agB (l:=l) (mt:=(Pu F)) (partsOf (lY F) (qV F) r) (tK cwd f)with h|h
  ·rw[hf]at h;have hp:=hv.pos;have h2:=ag0 hp hb;have h3:=Nat.pow_le_pow_left tH 2;omega
  ·have:=hv.pos;omega
 ·obtain⟨ns,hn,e⟩:=ajr hc f;rw[e];cases hd:oY l (pathOf ns)with
  | true=>
   refine kU (aqS hv hn (λc hcm=>?_) (λc hcm hl=>?_) (aaf hd)) om
   ·obtain⟨t,ht,rfl⟩:=lF.1 hcm;exact aqQ r t ht
   ·obtain⟨t,ht,rfl⟩:=lF.1 hcm;intro e2
    have hm:t∈(gK r).filter (Ow F):=Rq.2 ⟨ht,by
     unfold Ow;rw[show(qV F) t=hJ from hl,show gJ t=[46,46]from e2];rfl⟩
    simp_all
  | false=>
   have hne:partsOf (lY F) (qV F) r≠[]:=by unfold partsOf gK;simp
   cases hp:partsOf (lY F) (qV F) r with|nil=>exact absurd hp hne|cons c cs=>simp_all[xw,fC]
def yq(l:J bP):Bs:=cond ((jH l [73,70,83]).2&&(jH l [73,70,83]).1.cK) (jH l [73,70,83]).1.cg [32,9,10]
theorem avM(F:Nat)(l:J bP)(hF:1000<F)(hl:Ts l<=128):((xY F l ([73,70,83]:Bs)).bind λx3=>(cond x3.2 (iN x3.1.cK) (iN eQ):O Bool).bind λx4=>cond x4 (iN x3.1.cg) (iN ([32,9,10]:Bs)):O Bs)=iN (yq l):=by rw[aje F _ _ om om];unfold yq;grind
theorem avN(F:Nat)(l:J bP)(hF:1000<F)(hl:Ts l<=128):Kb F l=iN (yq l):=by
 unfold Kb wx;rw[z7 F _ _ om om];unfold yq;have:(jH l [73,70,83]).2=eQ->(jH l [73,70,83]).1.cK=eQ:=by
  unfold jH;cases l.find? λv=>v.fName==[73,70,83]with
  | none=>intro _;rfl|some v=>intro h;cases h
 grind
theorem aoh{l:J bP}(h:GV l):(yq l).length<=5000:=by unfold yq;grind[RC]
def BF(F:Nat)(f:J aB):Prop:=Ts f<=10000/\bV f<=3000/\(eK (Ts ((gK f).filter (CV F))<=2)||((gK f).filter (Ow F)).length==0)=hJ
def fdW(F:Nat)(fl:J aZ)(e:eO)(f:J aB):J Bs:=cond (nu .i64 e.ir 8 != 0) [gJ f] (Po fl (Pu F) (lY F) (qV F) e.uU f)
def mR(F:Nat)(fl:J aZ)(s:aR)(r:J aB):J Bs:=(mQ r (yq s.cj.bX)).flatMap (fdW F fl s.cj)
theorem asW(hF:100000000<=F)(hv:VL fl)(tH:Ts fl<=40)(hc:gG cwd=hJ){f:J aB}(hb:BF F f):pq F fl cwd f=iN (Po fl (Pu F) (lY F) (qV F) cwd f,0)/\(Po fl (Pu F) (lY F) (qV F) cwd f).length<=1600:=by have hWs:=aqV hF hv tH hc f hb.2.2 (tL f);refine⟨ahQ hF hv hc hb.1 hb.2.1 om,?_⟩;unfold Po;cases ((gK f).all (qV F)||(W fl (Pu F) (partsOf (lY F) (qV F) f) (tK cwd (tL f))).isEmpty)with|true=>simp|false=>rw[aJ,(uV _).length_eq,je];exact hWs
def WO(F:Nat)(fl:J aZ)(r:J aB)(s:aR)(z:J Bs×Bool×aO):Prop:=(stop s=hJ/\z.2.1=eQ/\Fin z.2.2 s)\/(stop s=eQ/\((z.2=(hJ,iK fl s)/\z.1=mR F fl s r/\z.1.length<=7000000)\/(z.2=(eQ,{iK fl s with xS:=4})/\512<Ts (mR F fl s r))))
theorem auF(hN:NC<=F)(hF:100000000<=F)(hv:VL fl)(tH:Ts fl<=40)(w:eX)(hw:eF w.fParts<=200)(h:mP s)(hs:stop s=eQ)(hc:gG s.cj.uU=hJ):
  ∃y:J aB×aR,fA F w.fParts (cZ.mk eQ eQ hJ) s=iN y/\mP y.2/\gG y.2.cj.uU=hJ/\RB (eF w.fParts) y.1/\((stop y.2=eQ->∀f∈mQ y.1 (yq y.2.cj.bX),BF F f)->aA (WO F fl y.1 y.2) (nH F w (iK fl s))):=by
 obtain⟨⟨r1,ok1,x1⟩,⟨r',s'⟩,⟨g1,g2,g3⟩,e1,e2⟩:=ao4 (fl:=fl) hN hF (agw _ hF) F F w.fParts (dB.mk eQ hJ 0) (cZ.mk eQ eQ hJ) s ⟨rfl,rfl⟩ h hs om om om;have hi:IV {s.cj with bX:=[]} s':=(alF F).1 _ _ _ rfl _ e2;have tn:gG s'.cj.uU=hJ:=by have q:=congrArg eO.uU (show({s'.cj with bX:=[]}:eO)={s.cj with bX:=[]}from hi);simp_all
 refine⟨(r',s'),e2,g1,tn,g2,λhB=>?_⟩;unfold nH wx;rw[show Bi F w.fParts (dB.mk eQ hJ 0) (iK fl s)=iN (r1,ok1,x1)from e1,aD];dsimp only at g1 g2 g3 hB⊢;rcases g3 with⟨st,a1,j1⟩|⟨st,a1,a2,-⟩
 ·cases a1;have q1:r1=r':=j1.2 λ_=>rfl;subst q1;have hvl:Ts s'.cj.bX<=128:=g1.1.1.1.1;have b1:=g2.1;have b2:=g2.2;have hx:(iK fl s').cj=s'.cj:=rfl;have hxf:(iK fl s').WZ=fl:=rfl;simp only[hx,hxf];rw[gN,aJ,avM F _ om hvl,aD,aqG F r1 _ hF om om,aD];obtain⟨f1,f2⟩:=Xq r1 (yq s'.cj.bX) om om;have Lv:=hB st;have hfw:mR F fl s' r1=(mQ r1 (yq s'.cj.bX)).flatMap (fdW F fl s'.cj):=rfl;unfold WO;rw[hfw];generalize mQ r1 (yq s'.cj.bX)=fs at f1 f2 Lv;have hT:∀k (hk:k<Ts fs),sG F fs[k]=iN (gJ fs[k]):=λk hk=>by grind[List.getElem_mem,T7]
  refine aA.lp (λa:Int=>∃k:Nat,a=(k:Int)/\k<=Ts fs) (λa=>Ts fs-a.toNat) ⟨0,rfl,Nat.zero_le _⟩ (by grind) ?_;rintro _ ⟨k,rfl,hk⟩ rc hrc;by_cases hk:k<Ts fs
  ·have hb:=(Lv _ (fm hk)).2.1;rw[cm om,bC hk,b9,gd hk,hT k hk,aD,cf (by rw[vN];omega),bZ om];exact hrc _ ⟨k+1,rfl,hk⟩ aQ
  ·rw[cf om];refine aA.lp (λa:J Bs×Int=>∃k:Nat,a.2=(k:Int)/\k<=Ts fs/\a.1=(fs.take k).flatMap (fdW F fl s'.cj)/\a.1.length<=512+k) (λa=>Ts fs-a.2.toNat) ⟨0,rfl,Nat.zero_le _,rfl,si⟩ (by grind) ?_;rintro⟨o,_⟩ ⟨k,rfl,hk,ho,hl⟩ rc hrc;dsimp only at ho hl hrc⊢;by_cases hk:k<Ts fs
   ·have hn:(fs.take (k+1)).flatMap (fdW F fl s'.cj)=o++fdW F fl s'.cj fs[k]:=by simp_all[A9]
    have hle:((fs.take (k+1)).flatMap (fdW F fl s'.cj)).length<=Ts (fs.flatMap (fdW F fl s'.cj)):=by grind[List.take_append_drop,List.length_append]
    rw[cm om,bC hk,b9,gd hk,bZ om];have S4:fdW F fl s'.cj fs[k]=cond (nu .i64 s'.cj.ir 8 != 0) [gJ fs[k]] (Po fl (Pu F) (lY F) (qV F) s'.cj.uU fs[k]):=rfl;rw[S4]at hn;cases hg:(nu .i64 s'.cj.ir 8 != 0)with
    | true=>rw[hg,aS]at hn;rw[aS,hT k hk,aD];exact aA.rq (oQ (by grind) de) (hrc _ ⟨k+1,rfl,hk,hn.symm,aQ⟩ aQ)|false=>rw[hg,aJ]at hn;obtain⟨x1,x2⟩:=asW hF hv tH tn (Lv _ (fm hk));rw[aJ,x1,aD];dsimp only;rw[show((0:Int) != 0)=eQ from rfl,aJ];refine aA.rq (oQ om de) (aA.cd (λNM=>aA.ok (.inr ⟨st,.inr ⟨rfl,?_⟩⟩)) λNM=>hrc _ ⟨k+1,rfl,hk,hn.symm,by dsimp only;omega⟩ aQ);grind
   ·rw[cf om];grind[aA.ok,List.take_of_length_le]
 ·have a1:ok1=eQ:=a1;subst a1;exact aA.ok (.inl ⟨st,rfl,a2⟩)
def NN(s:aR)(e:Int):aR:={s with fe:=e,fK:=[]}
def uu(F:Nat)(fl:J aZ):J eX->J Bs->aR->J Bs×aR|[],o,s=>(o,s)|w::l,o,s=>(fA F w.fParts (cZ.mk eQ eQ hJ) s).elim ([],NN s 4) λy=>cond (stop y.2) ([],y.2) (cond (eK (512<Ts (o++mR F fl y.2 y.1))) ([],NN y.2 4) (uu F fl l (o++mR F fl y.2 y.1) y.2))
def BW(F:Nat):J eX->aR->Prop|[],_=>True|w::l,s=>∀y,fA F w.fParts (cZ.mk eQ eQ hJ) s=iN y->stop y.2=eQ->(∀f∈mQ y.1 (yq y.2.cj.bX),BF F f)/\BW F l y.2
def BX(F:Nat)(fl:J aZ):J eX->J Bs->aR->Prop|[],_,_=>True|w::l,o,s=>∀y,fA F w.fParts (cZ.mk eQ eQ hJ) s=iN y->stop y.2=eQ->(∀f∈mQ y.1 (yq y.2.cj.bX),BF F f)/\(¬ 512<Ts (o++mR F fl y.2 y.1)->BX F fl l (o++mR F fl y.2 y.1) y.2)
theorem apc:∀(l:J eX)(o:J Bs)(s:aR),BW F l s->BX F fl l o s|[],_,_,_=>trivial|w::l,o,s,h=>λy hy hs=>⟨(h y hy hs).1,λ_=>apc l _ _ (h y hy hs).2⟩
def WS(F:Nat)(fl:J aZ)(l:J eX)(o:J Bs)(s:aR):Prop:=mP s/\stop s=eQ/\gG s.cj.uU=hJ/\BX F fl l o s
theorem UO(h:mP s)(hs:stop s=eQ):mP (NN s 4)/\stop (NN s 4)=hJ/\Fin {iK fl s with xS:=4} (NN s 4):=by obtain⟨f1,f2⟩:=failed (e:=4) hs de;have f3:=NG h 4 [];rw[hs]at f1 f2 f3;exact⟨f3,f1,f2⟩
theorem aex(hN:NC<=F)(hF:100000000<=F)(hv:VL fl)(tH:Ts fl<=40){w:eX}(hw:eF w.fParts<=200){l:J eX}{o:J Bs}(h:WS F fl (w::l) o s):
  ∃y:J aB×aR,fA F w.fParts (cZ.mk eQ eQ hJ) s=iN y/\mP y.2/\(stop y.2=eQ->¬ 512<Ts (o++mR F fl y.2 y.1)->WS F fl l (o++mR F fl y.2 y.1) y.2)/\RB (eF w.fParts) y.1/\aA (WO F fl y.1 y.2) (nH F w (iK fl s)):=by
 obtain⟨h1,h2,h3,h4⟩:=h;obtain⟨y,e1,e2,e3,e4,e5⟩:=auF hN hF hv tH w hw h1 h2 h3;exact⟨y,e1,e2,λhs h5=>⟨e2,hs,e3,(h4 y e1 hs).2 h5⟩,e4,e5 λhs=>(h4 y e1 hs).1⟩
theorem Fm{w:eX}{l:J eX}{o:J Bs}{y:J aB×aR}(h:fA F w.fParts (cZ.mk eQ eQ hJ) s=iN y):
  uu F fl (w::l) o s=cond (stop y.2) ([],y.2) (cond (eK (512<Ts (o++mR F fl y.2 y.1))) ([],NN y.2 4) (uu F fl l (o++mR F fl y.2 y.1) y.2)):=by
 rw[uu,h];rfl
theorem alO(hN:NC<=F)(hF:100000000<=F)(hv:VL fl)(tH:Ts fl<=40){a:J cO}(l:J eX)(hl:Ts l<=1000)(hw:∀y∈l,eF y.fParts<=200)(h:WS F fl l [] (s0 e a)):
  iz F e fl l a=iN (D3 (uu F fl l [] (s0 e a)).2 (uu F fl l [] (s0 e a)).1):=by
 unfold iz CH wx;refine cz (λz:J Bs×Int×aO=>∃(k:Nat)(s:aR),k<=Ts l/\z.2=((k:Int),iK fl s)/\WS F fl (l.drop k) z.1 s/\z.1.length<=512/\uu F fl (l.drop k) z.1 s=uu F fl l [] (s0 e a)) (λz=>Ts l-z.2.1.toNat) ?_ F _ ⟨0,s0 e a,fC _,rfl,h,fC _,rfl⟩ aQ;rintro⟨o,_⟩ ⟨k,s,h3,h4,h5,h6,h7⟩;dsimp only at h4 h5 h6 h7⊢;cases h4;by_cases hk:k<Ts l
 ·have hd:=sR hk;rw[hd]at h5 h7;obtain⟨y,e1,e2,e3,-,⟨fd,ok,x⟩,e4,e5⟩:=aex (fl:=fl) hN hF hv tH (hw _ (fm hk)) h5;rw[Fm e1]at h7;rcases e4 with⟨st,a1,a2⟩|⟨st,⟨a1,a2,a3⟩|⟨a1,a2⟩⟩
  ·right;intro rc;subst a1;rw[cm om,bC hk,b9,gd hk,e5,aD];rw[aJ,aD,aJ,aD,qi,aS,UN F e2 a2 om [] [] st,aD,<-h7,st];rfl
  ·cases a1;have a2:fd=mR F fl y.2 y.1:=a2;rw[<-a2]at e3;rw[st,aJ,<-a2]at h7;have asX:aE ((Ts o:Int)+(Ts fd:Int))=((Ts o+Ts fd:Nat):Int):=by grind[bO]
   have hlen:(o++fd).length=Ts o+Ts fd:=qg;by_cases NM:512<Ts o+Ts fd
   ·right;intro rc;rw[dT om,aS]at h7;obtain⟨f1,f2,f3⟩:=UO (fl:=fl) e2 st;rw[cm om,bC hk,b9,gd hk,e5,aD];rw[asX,aS,aD,cm om,aur,aD,aD];rw[qi,aS,UN F f1 f3 om [] [] f2,aD,<-h7]
   ·left;rw[dF om,aJ]at h7;refine⟨(o++fd,((k+1:Nat):Int),iK fl y.2),⟨k+1,y.2,hk,rfl,e3 st om,by grind,h7⟩,aQ,λrc=>?_⟩;rw[cm om,bC hk,b9,gd hk,e5,aD];rw[asX,aS,aD,cf om,aD];rw[gN,aJ,dI om de,bZ om]
  ·right;intro rc;cases a1;rw[st,cond_false,dT (by grind),cond_true]at h7;obtain⟨f1,f2,f3⟩:=UO (fl:=fl) e2 st;rw[cm om,bC hk,b9,gd hk,e5,aD];dsimp only;rw[aJ,aD,aJ,aD];dsimp only;rw[qi,aS,UN F f1 f3 om [] [] f2,aD,<-h7]
 ·right;intro rc;rw[Ml om]at h7;rw[cf om,asS F fl h5.1 h5.2.1 om,aD,<-h7];rfl
theorem agF(hN:NC<=F)(hF:100000000<=F)(hv:VL fl)(tH:Ts fl<=40):∀(l:J eX)(o:J Bs)(s:aR),(∀y∈l,eF y.fParts<=200)->WS F fl l o s->Ts o<=512->mP (uu F fl l o s).2/\(uu F fl l o s).1.length<=512/\(stop (uu F fl l o s).2=eQ->gG (uu F fl l o s).2.cj.uU=hJ)
 | [],o,s,hw,h,ho=>⟨h.1,ho,λ_=>h.2.2.1⟩|w::l,o,s,hw,h,ho=>by
  obtain⟨y,e1,e2,e3,-,-⟩:=aex hN hF hv tH (hw _ sV) h;rw[Fm e1];cases st:stop y.2 with
  | true=>simp_all|false=>
   by_cases NM:512<Ts (o++mR F fl y.2 y.1)
   ·obtain⟨f1,f2,f3⟩:=UO (fl:=fl) e2 st;simp_all
   simp_all[dF,agF,kI]
theorem aey(F:Nat)(e:eO)(w:J eX)(a:J cO)(hN:NC<=F)(hF:100000000<=F)(hw:Ts w<=100)(hp:∀x∈w,eF x.fParts<=200)(he:TF e)(hA:yp e.bX)(ha:(∀x∈a,Ts x.fText<=60)/\a.length<=2000):aA (λb=>b=hJ->BW F w (s0 e a)) (su F e w a):=by
 unfold su KS wx;rw[aD];dsimp only;refine aA.lp (λz:Int×Int×aR=>∃k m:Nat,z.1=(m:Int)/\m<=3000/\z.2.1=(k:Int)/\k<=Ts w/\mP z.2.2/\((stop z.2.2=eQ->BW F (w.drop k) z.2.2)->BW F w (s0 e a))) (λz=>Ts w-z.2.1.toNat) ⟨0,0,rfl,om,rfl,om,aoe he hA ha.1 ha.2,λh=>h rfl⟩ (by grind) ?_;rintro⟨_,_,s⟩ ⟨k,m,rfl,hm,rfl,hk,hg,hb⟩ rc hrc;dsimp only at hg hb hrc⊢;rw[nT,aD];by_cases vr:k<Ts w/\stop s=eQ
 ·obtain⟨hk,hs⟩:=vr;rw[cm om,hs,qi,aD,aS,bC hk,b9,gd hk];rw[sR hk]at hb;have hwk:=hp _ (fm hk);refine aA.bd (P:=λy=>fA F w[k].fParts (cZ.mk eQ eQ hJ) s=iN y/\RB (eF w[k].fParts) y.1/\mP y.2) ?_ ?_
  ·obtain⟨y,h1,h2⟩:=aqI F w[k].fParts (cZ.mk eQ eQ hJ) hN hF om hg hs;exact⟨y,⟨h2,h1.1,h1.2⟩,h2⟩
  ·rintro⟨r,s'⟩ ⟨hr,h2,h3⟩;dsimp only at h2 h3⊢;have b1:=h2.1;have b2:=h2.2;rw[avN F _ om h3.1.1.1.1,aD,aqH F r _ hF om om (aoh h3.1.1.1),aD];obtain⟨f1,f2⟩:=Xq r (yq s'.cj.bX) om om;have f3:=afJ r (yq s'.cj.bX);have nM:((∀f∈mQ r (yq s'.cj.bX),BF F f)->(stop s'=eQ->BW F (w.drop (k+1)) s')->BW F w (s0 e a)):=λg1 g2=>hb λ_ y hy hst=>by grind
   clear hb;generalize mQ r (yq s'.cj.bX)=fs at f1 f2 f3 nM;refine aA.lp (λz:Int×Int=>∃i m:Nat,z.1=(m:Int)/\m<=3000/\z.2=(i:Int)/\i<=Ts fs/\∀f∈fs.take i,BF F f) (λz=>Ts fs-z.2.toNat) ⟨0,m,rfl,hm,rfl,om,si⟩ (by grind) ?_;rintro⟨_,_⟩ ⟨i,m,rfl,hm,rfl,hi,hB⟩ rc' uN;dsimp only at hB uN⊢;by_cases hi:i<Ts fs
   ·obtain⟨z1,z2⟩:=f2 _ (fm hi);have z3:=f3 _ (fm hi);have hq:aE ((aE ((m:Int)+1))+(Ts (gJ fs[i]):Int))=((m+1+bV fs[i]:Nat):Int):=by grind[bZ,vN,bO]
    rw[cm om,bC hi,b9,gd hi,alo F _ om om om,aD,bC hi,show(fs[i].flatMap λr=>r.fText)=gJ fs[i]from rfl,hq,bZ om];by_cases hsz:m+1+bV fs[i]<=3000
    ·have hl:fs[i].length<=10000:=om;rw[afK hF fs[i] hl om,aD];cases hv:(eK (Ts ((gK fs[i]).filter (CV F))<=2)||((gK fs[i]).filter (Ow F)).length==0)with
     | false=>grind[aA.ok]|true=>
      rw[gN,aJ,aD,cf om];refine uN _ ⟨i+1,m+1+bV fs[i],rfl,hsz,rfl,hi,λf hf=>?_⟩ aQ;rw[kT hi]at hf;rcases mX.1 hf with hf|hf
      ·exact hB f hf
      ·obtain rfl:=qj.1 hf;exact⟨hl,om,hv⟩
    ·obtain⟨b,hb⟩:=alC F fs[i] hF om om;rw[hb,aD];cases b with|false=>grind[aA.ok]|true=>grind[aA.ok]
   ·rw[cf om,bZ om];rw[uI om]at hB;exact hrc _ ⟨k+1,m,rfl,hm,rfl,hk,h3,nM hB⟩ aQ
 ·have:(cond (eK ((k:Int)<(Ts w:Int))) ((iN (!(stop s)):O Bool)) (iN eQ))=iN eQ:=by grind
  rw[this,aD,aJ];refine aA.ok λ_=>hb λhs=>?_;have:¬ k<Ts w:=λhk=>vr ⟨hk,hs⟩;rw[Ml om];trivial
def ajs(F:Nat)(e:eO)(w:J eX)(a:J cO)(hN:NC<=F)(hF:100000000<=F)(hw:Ts w<=100)(hp:∀x∈w,eF x.fParts<=200)(he:TF e)(hA:yp e.bX)(ha:(∀x∈a,Ts x.fText<=60)/\a.length<=2000):∃b,(b=hJ->BW F w (s0 e a))/\su F e w a=iN b:=aey F e w a hN hF hw hp he hA ha
theorem asY(F:Nat)(j:wS)(hN:NC<=F)(hF:100000000<=F)(h1:K.ic j.mY.Dn)(h2:K.ic j.mY.qo):aA (λr=>r.2=hJ->Rdy j r.1/\BW F r.1 (s0 j.mY j.kf)) (Ez F j):=by
 unfold Ez wx;obtain⟨b,hb,e1⟩:=asQ F j.mY om;obtain⟨c,hc,e2⟩:=amk F j.oV om;rw[e1,e2];simp only[aH,aD];refine aA.cb (λ_=>aA.ok λh=>nomatch h) λhx=>?_;simp at hx;have hfit:=hb hx.1.1.1;have hsm:=hc hx.1.2;have hge:=agz hfit h1 h2;refine aA.lp (λi=>∃k:Nat,i=(k:Int)/\k<=Ts j.kf/\∀a∈j.kf.take k,Ts a.fText<=60) (λi=>Ts j.kf-i.toNat) ⟨0,rfl,om,si⟩ (by grind) ?_;rintro _ ⟨k,rfl,k1,k2⟩ rc hrc;refine aA.cd (λh=>?_) λh=>?_
 ·have hk:k<Ts j.kf:=om;rw[ck om om,bH om,b9];refine aA.cd (λ_=>aA.ok λh=>nomatch h) λhv=>hrc _ ⟨k+1,rfl,hk,λv jQ=>?_⟩ (by grind);grind[List.take_succ_eq_append_getElem,List.mem_singleton]
 ·have k2:∀a∈j.kf,Ts a.fText<=60:=by grind
  refine aA.bd (aqL F j.Le om) λr ⟨r1,r2⟩=>?_;rw[ajX F j.oV om hsm];simp[aH];obtain⟨bd,hbw,hbd⟩:=aey F j.mY r.1 j.kf hN hF om (λx hx=>by have:=r2 x hx;omega) hge hfit.2.2.2.2.2.2.2.2.2 ⟨k2,om⟩;rw[hbd,aD,aH];refine aA.sc (λ_=>λh=>nomatch h) λhy=>λ_=>?_;have hv:iV j.oV=0:=by simp_all
  exact⟨⟨hfit,(ajY _).1 hv,om,⟨om,k2⟩,r1,r2⟩,hbw (by simp_all)⟩
abbrev xt(m:J cO)(s:aR):aR:={s with dx:=s.dx++m}
def b8{R:Type}(p:R->aR)(u:R->R)(X Y:O R):Prop:=∀a,X=iN a->(p a).fZ=hJ\/Y=iN (u a)
variable{p:R -> aR}{u:R -> R}{q:S -> aR}{v:S -> S}{Y:O R}
theorem b8.ok(a:R):b8 p u (iN a) (iN (u a)):=λ_ e=>by cases e;exact .inr rfl
def b8.no:b8 p u iF Y:=λ_ e=>nomatch e
theorem b8.cb{c:Bool}{X X' Y':O R}(h:b8 p u X Y)(h':b8 p u X' Y'):b8 p u (cond c X X') (cond c Y Y'):=by grind
theorem b8.rq{c:Bool}{X:O R}(h:b8 p u X Y):b8 p u (rq c X) (rq c Y):=by cases c;exact b8.no;exact h
theorem b8.bp{x:O S}{g:S->O R}(k:∀a,b8 p u (f a) (g a)):b8 p u (x.bind f) (x.bind g):=λr e=>by obtain⟨a,e1,e2⟩:=U5.1 e;rw[e1];exact k a r e2
theorem b8.bg{x y:O S}{g:S->O R}(h:b8 q v x y)(k:∀a,b8 p u (f a) (g (v a)))(w:∀a,(q a).fZ=hJ->aM (λr=>(p r).fZ=hJ) (f a)):b8 p u (x.bind f) (y.bind g):=λr e=>by
 obtain⟨a,e1,e2⟩:=U5.1 e;rcases h a e1 with h|h
 ·exact .inl (w a h r e2)
 ·rw[h];exact k a r e2
theorem b8.lp{b1 b2:(σ->O R)->σ->O R}(v:σ->σ){s:σ}(hs:∀s rc rc',(∀s',b8 p u (rc s') (rc' (v s')))->b8 p u (b1 rc s) (b2 rc' (v s))):b8 p u (bW b1 F s) (bW b2 F (v s)):=by
 induction F generalizing s with|zero=>exact b8.no|succ F ih=>simp_all[bW]
theorem b8.lw{b1 b2:(σ->O R)->σ->O R}(v:σ->σ)(W:σ->Prop){s:σ}(hw:∀s,W s->∀rc,(∀s',W s'->aM (λr=>(p r).fZ=hJ) (rc s'))->aM (λr=>(p r).fZ=hJ) (b1 rc s))
  (hs:∀s rc rc',(∀s',b8 p u (rc s') (rc' (v s')))->(∀s',W s'->aM (λr=>(p r).fZ=hJ) (rc s'))->b8 p u (b1 rc s) (b2 rc' (v s))):b8 p u (bW b1 F s) (bW b2 F (v s)):=by
 induction F generalizing s with|zero=>exact b8.no|succ F ih=>exact hs s (bW b1 F) (bW b2 F) (λs'=>ih) λs' h=>aM.lp W h hw
abbrev E1{A:Type}(m:J cO)(X Y:O (A×aR)):Prop:=b8 (λa=>a.2) (λa=>(a.1,xt m a.2)) X Y
abbrev E0(m:J cO)(X Y:O aR):Prop:=b8 id (xt m) X Y
variable{m:J cO}
theorem aez(s:aR):stop (xt m s)=stop s:=rfl
theorem ajt(h:s.fZ=hJ):stop s=hJ:=by unfold stop;rw[h];simp
theorem alP(e:Int)(t:Bs)(h:s.fZ=hJ):aM (λr=>r.fZ=hJ) (fQ F e t s):=by simp_all[uq,ajt,aM.ok]
theorem aeA(n t:Bs)(h:s.fZ=hJ):aM (λr=>r.fZ=hJ) (eW F n t s):=by simp_all[ajg,ajt,aM.ok]
theorem Ma(e:Int)(t:Bs)(s:aR):E0 m (fQ F e t s) (fQ F e t (xt m s)):=by grind[uq,aez,b8.ok]
theorem e_assign(n t:Bs)(s:aR):E0 m (eW F n t s) (eW F n t (xt m s)):=by refine b8.bp λ_=>b8.cb (b8.ok _) (b8.bp λ_=>b8.cb (b8.bg (Ma _ _ _) (λ_=>b8.ok _) λ_ h=>aM.ok h) (b8.bp λ_=>b8.ok _))
theorem auG(t:Bs)(s:aR):E1 m (iB F t s) (iB F t (xt m s)):=by
 unfold iB wx;by_cases h:(Ts s.dx:Int)<=s.fused
 ·rw[cm h];exact λ_ e=>by cases e;exact .inl rfl
 ·by_cases h0:0<=s.fused
  ·have hl:s.fused<(Ts (s.dx++m):Int):=by grind
   have hg:(s.dx++m).getD (eJ s.fused) xh=s.dx.getD (eJ s.fused) xh:=by simp_all
   have e1:∀x:O (Bs×aR),rq ((eK (0<=s.fused))&&(eK (s.fused<(Ts (s.dx++m):Int)))) x=x:=λx=>ck h0 hl;show b8 _ _ (cond (eK ((Ts s.dx:Int)<=s.fused)) _ _) (cond (eK ((Ts (s.dx++m):Int)<=s.fused)) _ _);rw[cf h,cf om];rw[ck h0 om,e1];simp only[hg];exact b8.lp id λ_ rc rc' h=>b8.bp λ_=>b8.cb (h _) (b8.rq (b8.ok _))
  ·rw[cf h,show(eK (0<=s.fused))=eQ from dF h0];exact b8.no
def XJ(F:Nat)(m:J cO)(n:Nat):Prop:=(∀l p s,E1 m ((aF F n).1 l p s) ((aF F n).1 l p (xt m s)))/\(∀x p s,E1 m ((aF F n).2.1 x p s) ((aF F n).2.1 x p (xt m s)))/\(∀l s,E1 m ((aF F n).2.2.1 l s) ((aF F n).2.2.1 l (xt m s))) /\
 (∀l b s,E1 m ((aF F n).2.2.2.1 l b s) ((aF F n).2.2.2.1 l b (xt m s)))/\(∀x p s,E1 m ((aF F n).2.2.2.2.1 x p s) ((aF F n).2.2.2.2.1 x p (xt m s)))/\(∀x p s,E0 m ((aF F n).2.2.2.2.2 x p s) ((aF F n).2.2.2.2.2 x p (xt m s)))
theorem alQ:∀n,XJ F m n
 | 0=>⟨λ_ _ _=>b8.no,λ_ _ _=>b8.no,λ_ _=>b8.no,λ_ _ _=>b8.no,λ_ _ _=>b8.no,λ_ _ _=>b8.no⟩|n+1=>by
  obtain⟨h1,h2,h3,h4,h5,h6⟩:=alQ n;refine⟨λl p s=>?_,λx p s=>?_,λl s=>?_,λl b s=>?_,λx p s=>?_,λx p s=>?_⟩
  ·show E1 m (iC F (aF F n) l p s) (iC F (aF F n) l p (xt m s));unfold iC wx;refine b8.lw (λz=>(z.1,z.2.1,xt m z.2.2)) (λz=>z.2.2.fZ=hJ) (s:=(([]:J aB),(0:Int),s)) (λz hz rc _=>?_) λz rc rc' h hr=>?_
   ·simp_all[nT,ajt,aM.ok]
   ·dsimp only;exact b8.bp λc=>b8.cb (b8.rq (b8.bg (h2 _ _ _) (λa=>b8.rq (h _)) λa ha=>aM.rq (hr _ ha))) (b8.ok _)
  ·show E1 m (gY F (aF F n) x p s) (gY F (aF F n) x p (xt m s));unfold gY wx;refine b8.cb (b8.bp λ_=>b8.ok _) (b8.cb (b8.ok _) (b8.cb (b8.bg (h1 _ _ _) (λa=>?_) λa ha=>?_) (b8.cb (b8.bp λ_=>b8.cb (b8.ok _) (b8.ok _)) (b8.cb (b8.bg (auG _ _) (λa=>b8.bp λ_=>b8.ok _) λa ha=>aM.bd λ_=>aM.ok ha) (b8.cb (b8.bg (h3 _ _) (λa=>b8.bp λ_=>b8.ok _) λa ha=>aM.bd λ_=>aM.ok ha) (b8.cb (b8.bg (h5 _ _ _) (λa=>b8.ok _) λa ha=>aM.ok ha) (b8.ok _)))))))
   ·exact b8.lp id λ_ rc rc' h=>b8.cb (b8.rq (b8.bp λ_=>b8.cb (b8.ok _) (h _))) (b8.cb (b8.ok _) (b8.ok _))
   ·exact aM.lT λ_ rc h=>aM.cb (aM.rq (aM.bd λ_=>aM.cb (aM.ok ha) (h _))) (aM.cb (aM.ok ha) (aM.ok ha))
  ·show E1 m (gz F (aF F n) l s) (gz F (aF F n) l (xt m s));unfold gz wx;refine b8.bg (h4 _ _ _) (λa=>?_) λa ha=>?_
   ·dsimp only;rw[nT,nT,aez];refine b8.bp λ_=>b8.cb (b8.ok _) (b8.lp id λz rc rc' h=>b8.cb (b8.rq (b8.cb (b8.rq (h _)) (h _))) (b8.bp λy=>b8.cb (b8.rq (b8.bp λ_=>b8.rq (b8.bg (Ma _ _ _) (λ_=>b8.ok _) λ_ ha=>aM.ok ha))) ?_));exact b8.lw (λz=>(z.1,xt m z.2)) (λz=>z.2.fZ=hJ) (s:=((0:Int),a.2)) (λz hz rc hr=>aM.cb (aM.rq (aM.rq (aM.bd λ_=>aM.cb (aM.rq (aM.rq (aM.bb (aeA _ _ hz) λ_ h=>hr _ h))) (hr _ hz)))) (aM.bd λ_=>aM.ok hz)) λz rc rc' h hr=>b8.cb (b8.rq (b8.rq (b8.bp λ_=>b8.cb (b8.rq (b8.rq (b8.bg (e_assign _ _ _) (λ_=>h _) λb hb=>hr _ hb))) (h _)))) (b8.bp λ_=>b8.ok _)
   simp_all[nT,ajt,aD,aM.ok]
  ·show E1 m (jm F (aF F n) l b s) (jm F (aF F n) l b (xt m s));unfold jm wx;exact b8.bg (h1 _ _ _) (λa=>b8.bp λ_=>b8.cb (b8.bg (Ma _ _ _) (λ_=>b8.ok _) λ_ ha=>aM.ok ha) (b8.ok _)) λa ha=>aM.bd λ_=>aM.cb (aM.bb (alP _ _ ha) λ_ h=>aM.ok h) (aM.ok ha)
  ·show E1 m (gA F (aF F n) x p s) (gA F (aF F n) x p (xt m s));unfold gA wx;refine b8.bp λ_=>b8.bp λ_=>b8.bp λ_=>b8.bp λ_=>b8.bp λ_=>b8.cb (b8.rq (b8.bg (Ma _ _ _) (λ_=>b8.ok _) λ_ ha=>aM.ok ha)) (b8.bp λ_=>b8.cb (b8.bp λ_=>b8.bp λ_=>b8.ok _) (b8.cb (b8.bp λ_=>b8.bp λ_=>b8.ok _) (b8.bp λ_=>b8.cb ?_ (b8.bp λ_=>b8.cb (b8.bg (h1 _ _ _) (λ_=>b8.ok _) λ_ ha=>aM.ok ha) (b8.cb (b8.bp λ_=>b8.ok _) (b8.cb (b8.bp λ_=>b8.cb (b8.rq (b8.bg (Ma _ _ _) (λ_=>b8.ok _) λ_ ha=>aM.ok ha)) ?_) (b8.cb (b8.bg (h6 _ _ _) (λ_=>b8.ok _) λ_ ha=>aM.ok ha) (b8.bp λ_=>b8.ok _))))))))
   ·grind[b8.bg,b8.bp,b8.ok,aM.bd,aM.ok]
   grind[b8.bg,e_assign,b8.bp,b8.ok,aM.bd,aM.ok,aM.bb,aeA]
  ·show E0 m (gC F (aF F n) x p s) (gC F (aF F n) x p (xt m s));unfold gC wx;refine b8.bp λ_=>b8.bg (q:=λa=>a.2) (v:=λa=>(a.1,xt m a.2)) (b8.cb (b8.bg (h4 _ _ _) (λ_=>b8.ok _) λ_ ha=>aM.ok ha) (b8.ok _)) (λ_=>b8.rq (b8.rq (b8.bg (Ma _ _ _) (λ_=>b8.ok _) λ_ ha=>aM.ok ha))) λ_ ha=>aM.rq (aM.rq (aM.bb (alP _ _ ha) λ_ h=>aM.ok h))
theorem UP{l:J d6}{p:cZ}{y:J aB×aR}(h:fA F l p s=iN y)(hw:y.2.fZ=eQ):fA F l p (xt m s)=iN (y.1,xt m y.2):=by
 rcases(alQ F).1 l p s y h with h|h
 ·rw[hw]at h;cases h
 ·exact h
theorem aju:∀(l:J eX)(s:aR),BW F l (xt m s)->BW F l s|[],_,_=>trivial|w::l,s,h=>λy hy hs=>by have h1:=h (y.1,xt m y.2) (UP hy (Bj hs).2) hs;simp_all[aju]
theorem agG(hN:NC<=F)(hF:100000000<=F)(hv:VL fl)(tH:Ts fl<=40):∀(l:J eX)(o:J Bs)(s:aR),(∀y∈l,eF y.fParts<=200)->WS F fl l o s->(uu F fl l o s).2.fZ=eQ->uu F fl l o (xt m s)=((uu F fl l o s).1,xt m (uu F fl l o s).2)/\BX F fl l o (xt m s)
 | [],o,s,_,_,_=>⟨rfl,trivial⟩|w::l,o,s,hl,h,hw=>by
  obtain⟨y,e1,e2,e3,-,-⟩:=aex hN hF hv tH (hl _ sV) h;have hb:=h.2.2.2 y e1;rw[Fm e1]at hw⊢;cases st:stop y.2 with
  | true=>rw[st]at hw;have hx:=UP (m:=m) e1 hw;refine⟨by simp_all[Fm,aez],λz hz hs=>?_⟩;grind[Option.some.inj,aez]|false=>
   rw[st]at hw;have hx:=UP (m:=m) e1 (Bj st).2;rw[Fm hx,aez,st];show cond (eK (512<Ts (o++mR F fl y.2 y.1))) _ (uu F fl l (o++mR F fl y.2 y.1) (xt m y.2))=_/\_;by_cases NM:512<Ts (o++mR F fl y.2 y.1)
   ·rw[dT NM];refine⟨rfl,λz hz hs=>?_⟩;rw[hx]at hz;obtain rfl:=og hz;exact⟨(hb st).1,λh=>absurd NM h⟩
   ·rw[dF NM]at hw;rw[dF NM];obtain⟨i1,i2⟩:=agG hN hF hv tH l _ _ (λy hy=>hl y (kI _ hy)) (e3 st NM) hw;refine⟨i1,λz hz hs=>?_⟩;rw[hx]at hz;obtain rfl:=og hz;exact⟨(hb st).1,λ_=>i2⟩
mutual
def Xr:d6->Nat|.mk k _ _ _ ps=>cond (k==5) 1 0+jR ps
def jR:J d6->Nat|[]=>0|p::l=>Xr p+jR l
end
theorem UQ:∀l m:J d6,jR (l++m)=jR l+jR m|[],m=>by simp[jR]|p::l,m=>by rw[sU,jR,jR,UQ l m];omega
theorem aqW{l:J d6}{k:Nat}(h:k<Ts l):jR (l.take (k+1))=jR (l.take k)+Xr (l.getD k ko):=by rw[kT h,UQ,gd h];simp[jR]
theorem aqX(x:d6):jR x.fParts<=Xr x/\((x.fKind==5)=hJ->1<=Xr x):=by
 cases x with|mk k t o c ps=>
 refine⟨by show jR ps<=cond (k==5) 1 0+jR ps;omega,λh=>?_⟩;show 1<=cond (k==5) 1 0+jR ps;rw[show(k==5)=hJ from h];simp_all
variable{u0:Nat}{bG:Int}
section
variable {A : J cO}
def CI(A:J cO)(u0:Nat)(bG:Int)(k:Nat)(s:aR):Prop:=s.dx=A/\((s.fK=[]\/s.fe≠0)/\(s.fZ=hJ->s.fe=0))/\∃u:Nat,s.fused=(u:Int)/\u0<=u/\u<=Ts A/\u+cond s.fZ 1 0<=u0+k/\(s.fZ=hJ->u=Ts A)/\(u=u0->s.ld=bG)
theorem CI.mono{k j:Nat}(h:CI A u0 bG k s)(hj:k<=j):CI A u0 bG j s:=by obtain⟨h1,hm,u,h2,h3,h4,h5,h6,h7⟩:=h;exact⟨h1,hm,u,h2,h3,h4,om,h6,h7⟩
theorem Hz{k:Nat}(e:Int)(t:Bs)(he:e≠0\/t=[])(h:CI A u0 bG k s):aM (CI A u0 bG k) (fQ F e t s):=by
 rw[uq];cases hs:stop s with
 | true=>exact aM.ok h|false=>obtain⟨h1,hm,h2⟩:=h;refine aM.ok ⟨h1,⟨?_,λhw=>by simp_all[Bj]⟩,h2⟩;grind
theorem aag{k:Nat}(n t:Bs)(h:CI A u0 bG k s):aM (CI A u0 bG k) (eW F n t s):=by exact aM.bd λ_=>aM.cb (aM.ok h) (aM.bd λ_=>aM.cb (aM.bb (Hz _ _ (.inr rfl) h) λ_ h=>aM.ok h) (aM.bd λ_=>aM.ok h))
theorem asZ(hA:Ts A<=2000){k:Nat}(t:Bs)(hf:s.fe=0)(h:CI A u0 bG k s):aM (λz=>CI A u0 bG (k+1) z.2) (iB F t s):=by
 obtain⟨h1,hm,u,h2,h3,h4,h5,h6,h7⟩:=h;unfold iB wx;by_cases hu:u<Ts A
 ·have hw:s.fZ=eQ:=by grind
  rw[h2,h1,cf om,ck om om];refine aM.lT λ_ rc hrc=>aM.bd λ_=>aM.cb (hrc _) (aM.rq (aM.ok ⟨rfl,hm,u+1,bZ om,om,om,?_,λh=>?_,λh=>om⟩))
  ·grind
  simp_all
 ·rw[h2,h1,cm om];refine aM.ok ⟨rfl,⟨hm.1,λ_=>hf⟩,u,rfl,h3,h4,?_,λ_=>om,h7⟩;grind
theorem aM.c2{Q:R->Prop}{x y:O R}{c:Bool}(a:c=hJ->aM Q x)(b:c=eQ->aM Q y):aM Q (cond c x y):=by grind
def CJ(A:J cO)(u0:Nat)(bG:Int)(F n:Nat):Prop:=(∀k l p s,eF l<=100000->CI A u0 bG k s->aM (λz=>CI A u0 bG (k+jR l) z.2) ((aF F n).1 l p s))/\(∀k x p s,wP x<=100000->stop s=eQ->CI A u0 bG k s->aM (λz=>CI A u0 bG (k+Xr x) z.2) ((aF F n).2.1 x p s))/\(∀k l s,eF l<=100000->CI A u0 bG k s->aM (λz=>CI A u0 bG (k+jR l) z.2) ((aF F n).2.2.1 l s)) /\
 (∀k l b s,eF l<=100000->CI A u0 bG k s->aM (λz=>CI A u0 bG (k+jR l) z.2) ((aF F n).2.2.2.1 l b s))/\(∀k (x:d6) p s,eF x.fParts<=100000->CI A u0 bG k s->aM (λz=>CI A u0 bG (k+jR x.fParts) z.2) ((aF F n).2.2.2.2.1 x p s))/\(∀k (x:d6) p s,eF x.fParts<=100000->CI A u0 bG k s->aM (CI A u0 bG (k+jR x.fParts)) ((aF F n).2.2.2.2.2 x p s))
theorem alR(hA:Ts A<=2000):∀n,CJ A u0 bG F n
 | 0=>⟨λ_ _ _ _ _ _=>aM.no,λ_ _ _ _ _ _ _=>aM.no,λ_ _ _ _ _=>aM.no,λ_ _ _ _ _ _=>aM.no,λ_ _ _ _ _ _=>aM.no,λ_ _ _ _ _ _=>aM.no⟩|n+1=>by
  obtain⟨h1,h2,h3,h4,h5,h6⟩:=alR hA n;refine⟨λk l p s hl h=>?_,λk x p s hl hs h=>?_,λk l s hl h=>?_,λk l b s hl h=>?_,λk x p s hl h=>?_,λk x p s hl h=>?_⟩
  ·show aM _ (iC F (aF F n) l p s);unfold iC wx;have hlen:=Dh l;refine aM.lp (λz:J aB×Int×aR=>∃i:Nat,z.2.1=(i:Int)/\i<=Ts l/\CI A u0 bG (k+jR (l.take i)) z.2.2) ⟨0,rfl,fC _,h⟩ ?_;rintro⟨o,_,t⟩ ⟨i,rfl,hi,hc⟩ rc hrc;dsimp only at hc hrc⊢;refine aM.bb (P:=λb=>b=hJ->i<Ts l/\stop t=eQ) (aM.c2 (λh=>aM.bb (P:=λb=>b=stop t) (by simp_all[nT,aM.ok]) λb hb=>aM.ok λhn=>⟨?_,by simp_all⟩) λ_=>aM.ok λh=>nomatch h) λb hb=>aM.c2 (λh=>?_) λ_=>?_
   ·simp_all
   ·obtain⟨hi,hst⟩:=hb h;rw[bC hi,b9];have hm:=Rz hi;refine aM.bb (h2 (k+jR (l.take i)) _ _ _ om hst hc) λy hy=>aM.rq (hrc _ ⟨i+1,bZ om,hi,?_⟩);simp_all[aqW,OX]
   grind[UQ,List.take_append_drop,aM.ok,CI.mono]
  ·show aM _ (gY F (aF F n) x p s);unfold gY wx;obtain⟨c1,c2⟩:=aqX x;have hk:=EF x;have h':CI A u0 bG (k+Xr x) s:=h.mono om;refine aM.cb (aM.bd λ_=>aM.ok h') (aM.cb (aM.ok h') (aM.cb (aM.bb (h1 k _ _ _ om h) λy hy=>?_) (aM.cb (aM.bd λ_=>aM.cb (aM.ok h') (aM.ok h')) (aM.c2 (λh5=>aM.bb (asZ hA _ (Bj hs).1 h) λy hy=>aM.bd λ_=>aM.ok (CI.mono hy (by have:=c2 h5;omega))) λ_=>aM.cb (aM.bb (h3 k _ _ om h) λy hy=>aM.bd λ_=>aM.ok (CI.mono hy om)) (aM.cb (aM.bb (h5 k _ _ _ (by show eF x.fParts<=_;omega) h) λy hy=>aM.ok (CI.mono hy (by simp_all))) (aM.ok h'))))));have hy':CI A u0 bG (k+Xr x) y.2:=CI.mono hy om;exact aM.lT λ_ rc hrc=>aM.cb (aM.rq (aM.bd λ_=>aM.cb (aM.ok hy') (hrc _))) (aM.cb (aM.ok hy') (aM.ok hy'))
  ·show aM _ (gz F (aF F n) l s);unfold gz wx;refine aM.bb (h4 k _ _ _ hl h) λy hy=>aM.bd λ_=>aM.cb (aM.ok hy) (aM.lT λ_ rc hrc=>aM.cb (aM.rq (aM.cb (aM.rq (hrc _)) (hrc _))) (aM.bd λ_=>aM.cb (aM.rq (aM.bd λ_=>aM.rq (aM.bb (Hz _ _ (.inl de) hy) λ_ h=>aM.ok h))) ?_));exact aM.lp (λz:Int×aR=>CI A u0 bG (k+jR l) z.2) hy λz hz rc hrc=>aM.cb (aM.rq (aM.rq (aM.bd λ_=>aM.cb (aM.rq (aM.rq (aM.bb (aag _ _ hz) λ_ h=>hrc _ h))) (hrc _ hz)))) (aM.bd λ_=>aM.ok hz)
  ·show aM _ (jm F (aF F n) l b s);unfold jm wx;exact aM.bb (h1 k _ _ _ hl h) λy hy=>aM.bd λ_=>aM.cb (aM.bb (Hz _ _ (.inr rfl) hy) λ_ h=>aM.ok h) (aM.ok hy)
  ·show aM _ (gA F (aF F n) x p s);unfold gA wx;have h':CI A u0 bG (k+jR x.fParts) s:=h.mono om;refine aM.bd λ_=>aM.bd λ_=>aM.bd λ_=>aM.bd λ_=>aM.bd λ_=>aM.cb (aM.rq (aM.bb (Hz _ _ (.inl de) h') λ_ h=>aM.ok h)) (aM.bd λ_=>aM.cb (aM.bd λ_=>aM.bd λ_=>aM.ok h') (aM.cb (aM.bd λ_=>aM.bd λ_=>aM.ok h') (aM.bd λ_=>aM.cb (aM.bb (h1 k _ _ _ hl h) λy hy=>aM.bd λ_=>aM.bd λ_=>aM.bd λ_=>aM.ok hy) (aM.bd λ_=>aM.cb (aM.bb (h1 k _ _ _ hl h) λy hy=>aM.ok hy) (aM.cb (aM.bd λ_=>aM.ok h') (aM.cb (aM.bd λ_=>aM.cb (aM.rq (aM.bb (Hz _ _ (.inl de) h') λ_ h=>aM.ok h)) (aM.bb (h4 k _ _ _ hl h) λy hy=>aM.bb (aag _ _ hy) λ_ h=>aM.bd λ_=>aM.ok h)) (aM.cb (aM.bb (h6 k _ _ _ (by simp_all) h) λy hy=>aM.ok hy) (aM.bd λ_=>aM.ok h'))))))))
  ·show aM _ (gC F (aF F n) x p s);unfold gC wx;refine aM.bd λ_=>aM.bb (P:=λy=>CI A u0 bG (k+jR x.fParts) y.2) (aM.cb (aM.bb (h4 k _ _ _ hl h) λy hy=>aM.ok hy) (aM.ok (h.mono om))) λy hy=>aM.rq (aM.rq (aM.bb (Hz _ _ (.inl de) hy) λ_ h=>aM.ok h))
def aoi(hA:Ts A<=2000){k:Nat}{l:J d6}{p:cZ}{y:J aB×aR}(hl:eF l<=100000)(h:CI A u0 bG k s)(e:fA F l p s=iN y):CI A u0 bG (k+jR l) y.2:=(alR hA F).1 k l p s hl h y e
def yu:J eX->Nat|[]=>0|w::l=>jR w.fParts+yu l
theorem agH(hA:Ts A<=2000):∀(l:J eX)(k:Nat)(o:J Bs)(s:aR),(∀w∈l,eF w.fParts<=100000)->stop s=eQ->CI A u0 bG k s->CI A u0 bG (k+yu l) (uu F fl l o s).2
 | [],k,o,s,hl,hs,h=>h|w::l,k,o,s,hl,hs,h=>by
  rw[uu];cases e:fA F w.fParts (cZ.mk eQ eQ hJ) s with
  | none=>obtain⟨g1,-,g2⟩:=h.mono (show k<=k+yu (w::l) by omega);exact⟨g1,⟨.inr (show(4:Int)≠0 by decide),λhw=>nomatch hw.symm.trans (Bj hs).2⟩,g2⟩
  | some y=>
   have hy:=aoi hA (hl _ sV) h e;show CI A u0 bG (k+(jR w.fParts+yu l)) (cond (stop y.2) (([]:J Bs),y.2) (cond (eK (512<Ts (o++mR F fl y.2 y.1))) ([],NN y.2 4) (uu F fl l (o++mR F fl y.2 y.1) y.2))).2;cases QC:stop y.2 with
   | true=>exact hy.mono om|false=>
    cases eK (512<Ts (o++mR F fl y.2 y.1))with
    | true=>obtain⟨g1,-,g2⟩:=hy.mono (show k+jR w.fParts<=k+(jR w.fParts+yu l) by omega);exact⟨g1,⟨.inr (show(4:Int)≠0 by decide),λhw=>nomatch hw.symm.trans (Bj QC).2⟩,g2⟩
    | false=>have:=agH hA l (k+jR w.fParts) (o++mR F fl y.2 y.1) y.2 (λx hx=>hl x (kI _ hx)) QC hy;rwa [OX]at this
end
theorem Y3:∀l m:J eX,yu (l++m)=yu l+yu m|[],m=>by simp[yu]|p::l,m=>by rw[sU,yu,yu,Y3 l m];omega
def ci0(e:eO)(A:J cO):CI A 0 (-1) 0 (s0 e A):=⟨rfl,⟨.inl rfl,λh=>nomatch h⟩,0,rfl,ep _,fC _,ep _,(λh=>nomatch h),λ_=>rfl⟩
theorem ajv(hN:NC<=F)(hF:100000000<=F)(hv:VL fl)(tH:Ts fl<=40){A:J cO}(w:J eX)(hw:∀y∈w,eF y.fParts<=200)(hl:Ts w<=1000)(he:TF e)(hA:yp e.bX)(hc:gG e.uU=hJ)(ha:∀x∈A,Ts x.fText<=60)(hal:Ts A<=1500)(hb:BW F w (s0 e A)):
  ∃R:J Bs×aR,iz F e fl w A=iN (D3 R.2 R.1)/\mP R.2/\R.1.length<=512/\(R.2.fZ=hJ->R.2.fe=0/\A.length+1<=yu w)/\(R.2.fZ=eQ->∀m:J cO,(∀x∈m,Ts x.fText<=60)->Ts m<=500->iz F e fl w (A++m)=iN (D3 R.2 R.1)):=by
 have hg:=aoe he hA ha om;have s1:WS F fl w [] (s0 e A):=⟨hg,rfl,hc,apc _ _ _ hb⟩;obtain⟨o1,o2,-⟩:=agF hN hF hv tH w [] _ hw s1 (fC _);have c1:=agH (F:=F) (fl:=fl) om w 0 [] _ (λy hy=>by have:=hw y hy;omega) rfl (ci0 e A);refine⟨_,alO hN hF hv tH w hl hw s1,o1,o2,λh=>?_,λh m hm hml=>?_⟩
 ·obtain⟨h1,hm,u,h2,h3,h4,h5,h6,h7⟩:=c1;simp_all
 ·obtain⟨x1,x2⟩:=agG hN hF hv tH w [] _ hw s1 h;have hx:xt m (s0 e A)=s0 e (A++m):=rfl;rw[hx]at x1 x2
  have Pj:=aoe (a:=A++m) he hA (λx hx=>by
   grind) (by grind)
  rw[alO hN hF hv tH w hl hw ⟨Pj,rfl,hc,x2⟩,x1];rfl
mutual
def tzP(d:Int):d6->J Bs|.mk k t _ _ ps=>cond (k==d) [t] []++p7 d ps
def p7(d:Int):J d6->J Bs|[]=>[]|p::l=>tzP d p++p7 d l
end
theorem aeB(d:Int):∀l m:J d6,p7 d (l++m)=p7 d l++p7 d m|[],m=>rfl|p::l,m=>by rw[sU,p7,p7,aeB d l m,uK]
mutual
theorem aqY(d:Int):∀p:d6,Ts (tzP d p)<=wP p
 | .mk k t o c ps=>by have:=D4 d ps;show(cond (k==d) [t] []++p7 d ps).length<=1+Ts t+eF ps;rw[qg];cases (k==d)<;>simp<;>omega
theorem D4(d:Int):∀l:J d6,Ts (p7 d l)<=eF l
 | []=>ep _|p::l=>by have h1:=aqY d p;have h2:=D4 d l;show(tzP d p++p7 d l).length<=wP p+eF l;rw[qg];omega
end
theorem alS(F:Nat)(d:Int)(hF:100000000<=F):∀(n:Nat)(l:J d6),eF l<n->eF l<=1000000->vK F n l d=iN (p7 d l)
 | 0,l,h,_=>absurd h (agX _)|n+1,l,h,hl=>by
  have hlen:=Dh l;show Ov F (vK F n) l d=_;refine cz (λz:J Bs×Int=>∃k:Nat,z=(p7 d (l.take k),(k:Int))/\k<=Ts l) (λz=>Ts l-z.2.toNat) ?_ F _ ⟨0,rfl,Nat.zero_le _⟩ (by grind);rintro _ ⟨k,rfl,hk⟩;dsimp only;by_cases hk:k<Ts l
  ·left;refine⟨(p7 d (l.take (k+1)),((k+1:Nat):Int)),⟨k+1,rfl,hk⟩,aQ,λrc=>?_⟩;have hm:=Rz hk;rw[gd hk]at hm;have hone:=EF l[k];have ih:=alS F d hF n (l[k]).fParts om om;have h1:=D4 d (l.take k);have h2:=HH l k;have h3:=D4 d (l[k]).fParts;have e:p7 d (l.take (k+1))=p7 d (l.take k)++(cond ((l[k]).fKind==d) [(l[k]).fText] []++p7 d (l[k]).fParts):=by rw[kT hk,aeB];congr 1;show tzP d l[k]++[]=_;rw[TN];cases l[k];rfl
   have hc:(cond ((l[k]).fKind==d) (rq ((eK (0<=(k:Int)))&&(eK ((k:Int)<(Ts l:Int)))) (rq ((eK (Ts (p7 d (l.take k))+Ts ([(l[k]).fText]:J Bs)<=9223372036854775807))&&(eK ((Ts (p7 d (l.take k))+Ts ([(l[k]).fText]:J Bs))*16<=140737488355328))) (iN (p7 d (l.take k)++([(l[k]).fText]:J Bs)))))
     (iN (p7 d (l.take k))):O (J Bs))=iN (p7 d (l.take k)++cond ((l[k]).fKind==d) [(l[k]).fText] []):=by
    cases ((l[k]).fKind==d)with|true=>rw[aS,bC hk,dI aQ de];rfl|false=>simp_all
   rw[cm om,bC hk,b9,gd hk,hc,aD,bC hk,ih,aD,bZ om,dI (by
    grind) de,e,List.append_assoc]
  grind
mutual
theorem as0:∀p:d6,Ts (tzP 5 p)=Xr p
 | .mk k t o c ps=>by have:=Mb ps;show(cond (k==5) [t] []++p7 5 ps).length=cond (k==5) 1 0+jR ps;rw[qg,this];cases (k==5)<;>rfl
theorem Mb:∀l:J d6,Ts (p7 5 l)=jR l
 | []=>rfl|p::l=>by have h1:=as0 p;have h2:=Mb l;show(tzP 5 p++p7 5 l).length=Xr p+jR l;rw[qg,h1,h2]
end
theorem as1(h:s.fe≠0)(o:J Bs):D3 s o=(dV.mk [] asR eQ [] s.fK 0,s.fe):=by unfold D3;rw[bne_iff_ne.2 h];rfl
theorem as2(h:s.fe=0)(o:J Bs):D3 s o=(dV.mk (cond s.fZ [] o) s.cj s.fZ s.yT [] s.ld,0):=by unfold D3;rw[h];rfl
theorem auH(F:Nat)(hF:100000000<=F)(l:J d6)(h:eF l<=200):∃c,yY F l=iN c/\c.length=jR l:=⟨p7 5 l,by
 unfold yY TE wx
 grind[alS],Mb l⟩
theorem alT:∀(l:J eX)(n:Nat),(∀y∈l,eF y.fParts<=n)->yu l<=n*Ts l
 | [],n,_=>fC _|y::l,n,h=>by
  have h1:=alT l n λz hz=>h z (kI _ hz);have h2:jR y.fParts<=eF y.fParts:=by rw[<-Mb];exact D4 5 _
  have h3:=h y (sV ..);rw[yu,pM,Nat.mul_add];omega
theorem aeC(hN:NC<=F)(hF:100000000<=F)(hv:VL fl)(tH:Ts fl<=40){A:J cO}(w:J eX)(hw:∀y∈w,eF y.fParts<=200)(hl:Ts w<=1000)(he:TF e)(hA:yp e.bX)(hc:gG e.uU=hJ)(ha:∀x∈A,Ts x.fText<=60)(hal:Ts A<=1500)(hb:BW F w (s0 e A)):
  ∃x:dV×Int,iz F e fl w A=iN x/\SX x.1/\(x.2=0->x.1.Al=hJ->x.1.vU=[]/\A.length+1<=yu w)/\((x.2=0->x.1.Al=eQ)->∀m:J cO,(∀x∈m,Ts x.fText<=60)->Ts m<=500->iz F e fl w (A++m)=iN x):=by
 grind[ajv,aqO,as2,as1]
theorem Y4(a:α)(k:Nat):aT k a++[a]=aT (k+1) a:=by rw[List.replicate_succ']
theorem expandWaits(j:wS)(more:cO)(h1:K.ic j.mY.Dn)(h2:K.ic j.mY.qo):∃F,lG F j more=iN hJ:=by
 obtain⟨F,hN,hF⟩:∃F,NC<=F/\100000000<=F:=⟨NC+100000000,om,om⟩;refine⟨F,?_⟩;obtain⟨r,hr,e⟩:=asY F j hN hF h1 h2;unfold lG wx
 try simp only[MY]
 rw[e,aD,aqN];cases hb:r.2 with
 | false=>rfl|true=>
  obtain⟨⟨hfit,hv,tH,⟨a1,a2⟩,w1,w2⟩,hbw⟩:=hr hb;have hge:=agz hfit h1 h2;have hA:=hfit.2.2.2.2.2.2.2.2.2;rw[gN,aJ,aD];by_cases hm:60<(Ts more.fText:Int)
  ·rw[cm hm];rfl
  ·rw[cf hm];have wB:∀y∈r.1,eF y.fParts<=200:=λy hy=>by have:=w2 y hy;omega
   have hcm:=alT r.1 160 w2;have hcm:yu r.1<=1280:=om;refine cz (λs:Int×Int=>∃k:Nat,s=((yu (r.1.take k):Int),(k:Int))/\k<=Ts r.1) (λs=>Ts r.1-s.2.toNat) ?_ F _ ⟨0,rfl,om⟩ aQ;rintro _ ⟨k,rfl,hk⟩;dsimp only;by_cases hk:k<Ts r.1
   ·left;have hwk:=w2 _ (fm hk);obtain⟨c,c1,c2⟩:=auH F hF (r.1[k]).fParts om;have ht:yu (r.1.take (k+1))=yu (r.1.take k)+jR (r.1[k]).fParts:=by rw[kT hk,Y3];rfl
    have hle:yu (r.1.take k)<=1280:=by grind[Y3,List.take_append_drop]
    have hcl:jR (r.1[k]).fParts<=160:=by rw[<-Mb];exact kU (D4 5 _) hwk
    refine⟨_,⟨k+1,rfl,om⟩,aQ,λrc=>?_⟩;rw[cm om,aD,cm om,bC hk,b9,gd hk,c1,aD,bZ om,c2,ht,bO om];rfl
   ·right;intro rc;rw[cf om,aD,aJ,uI om];have aoj:∀n:Nat,∀x∈aT n more,Ts x.fText<=60:=λn x hx=>by grind
    have hone:∀x∈[more],Ts x.fText<=60:=λx hx=>by grind
    have abL:∀n:Nat,n<=1280->((eK (Ts ([]:J cO)+Ts (aT n more)<=9223372036854775807))&&(eK ((Ts ([]:J cO)+Ts (aT n more))*24<=140737488355328)))=hJ:=λn hn=>by simp;omega
    have ajw:∀n:Nat,n<=1280->((eK (Ts (aT n more)+Ts ([more]:J cO)<=9223372036854775807))&&(eK ((Ts (aT n more)+Ts ([more]:J cO))*24<=140737488355328)))=hJ:=λn hn=>by simp;omega
    obtain⟨x0,x1,-⟩:=aeC (fl:=j.oV) (A:=[]) hN hF hv tH r.1 wB om hge hA hfit.2.2.2.2.1 si si (aju (m:=j.kf) r.1 (s0 j.mY []) hbw);rw[x1,aD];refine cz (λs:J cO×Int×Int×dV=>∃k:Nat,s.1=aT k more/\s.2.2.1=(k:Int)/\k<=yu r.1/\iz F j.mY j.oV r.1 (aT k more)=iN (s.2.2.2,s.2.1)/\BW F r.1 (s0 j.mY (aT k more))) (λs=>yu r.1-s.2.2.1.toNat) ?_ F _ ⟨0,rfl,rfl,om,x1,aju (m:=j.kf) r.1 (s0 j.mY []) hbw⟩ aQ;rintro⟨_,f,_,a⟩ ⟨k,rfl,rfl,hk,ha,hbk⟩;dsimp only at ha⊢;obtain⟨x,y1,y2,y3,y4⟩:=aeC (fl:=j.oV) (A:=aT k more) hN hF hv tH r.1 wB om hge hA hfit.2.2.2.2.1 (aoj k) (by grind) hbk;rw[ha]at y1;cases y1;rw[List.length_replicate]at y3;dsimp only at y2 y3 y4;by_cases hfw:f=0/\a.Al=hJ
    ·obtain⟨rfl,Zb⟩:=hfw;obtain⟨z1,z2⟩:=y3 rfl Zb;obtain⟨b,b1,b2⟩:=ajs F j.mY r.1 (aT k more++[more]) hN hF om wB hge hA ⟨by rw[Y4];exact aoj _,by grind⟩;cases b with
     | false=>right;intro rc;rw[cm om,Db,aD,aS,Zb,aD,aS,z1,cf si,cy (abL k om),oe,cy (ajw k om),b2];rfl|true=>left;have Pp:=b1 rfl;rw[Y4]at Pp;obtain⟨x,u1,-⟩:=aeC (fl:=j.oV) (A:=aT (k+1) more) hN hF hv tH r.1 wB om hge hA hfit.2.2.2.2.1 (aoj _) (by grind) Pp;refine⟨(aT (k+1) more,x.2,((k+1:Nat):Int),x.1),⟨k+1,rfl,rfl,z2,u1,Pp⟩,aQ,λrc=>?_⟩;rw[cm om,Db,aD,aS,Zb,aD,aS,z1,cf si,cy (abL k om),oe,cy (ajw k om),b2,aD,gN,aD,aJ,cy (ajw k om),Y4,u1,aD,bZ om]
    ·right;intro rc;have hq:(cond (f==0) (iN a.Al) (iN eQ):O Bool)=iN eQ:=by grind
     have hq2:((cond (eK ((k:Int)<(yu r.1:Int))) (iN (f==0)) (iN eQ):O Bool).bind λgi=>(cond gi (iN a.Al) (iN eQ):O Bool))=iN eQ:=by grind
     have hy:=y4 (λhf=>by
      simp_all) [more] hone si
     rw[<-U1,hq2,aD,aJ,hq,aD,aJ,cy (abL k om),oe,cy (ajw k om),hy,aD,aD];dsimp only;rw[auC F om y2,aD,aS,Db];rfl
