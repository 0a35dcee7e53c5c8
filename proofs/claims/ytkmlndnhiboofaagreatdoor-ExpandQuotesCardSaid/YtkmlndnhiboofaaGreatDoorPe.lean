import Derived.Test.YtkmlndnhiboofaaGreatDoorZ2
import Derived.Test.YtkmlndnhiboofaaGreatDoorSo
import Derived.Lib.SplitLaws
import Derived.Lib.LastIndexByte
import Derived.Lib.Join
open Option renaming some->W0,none->WP
open Bool renaming true->WF,false->UV
open Decidable renaming decide->T1
open Int renaming toNat->Ts
open Go.IntKind renaming wrap->Sx
open Nat renaming blt->So
open List renaming range->R0,replicate->RK
set_option linter.all false
namespace Go.Proofs.YtkmlndnhiboofaaGreatDoor
open Go.RT
theorem as8{i n:Nat}(h:i<n):Nat.blt i n=WF:=Nat.ble_eq_true_of_le h
theorem as7{i n:Nat}(h:¬i<n):Nat.blt i n=UV:=by
 cases e:Nat.blt i n with
 | false=>rfl
 | true=>exact absurd (Nat.le_of_ble_eq_true e) h
def pb(b:Int):aE:=.mk 1 (cu [b]) UV []
def cE:Bs->J Bs
 | []=>[[]]
 | b::l=>cond (b==47) ([]::cE l) (match cE l with
  | []=>[[b]]
  | p::ps=>(b::p)::ps)
theorem GF(l:Bs):cE l≠[]:=by
 cases l with
 | nil=>simp[cE]
 | cons b l=>
  unfold cE
  grind
theorem DF(l:Bs):(cE l).length<=l.length+1:=by
 induction l with
 | nil=>simp[cE]
 | cons b l ih=>
  unfold cE
  grind
theorem Ms(l:Bs):∀p∈cE l,p.length<=l.length:=by
 induction l with
 | nil=>intro p hp;simp[cE]at hp;subst hp;simp
 | cons b l ih=>
  intro p hp;unfold cE at hp
  grind
theorem NV:∀(l:Bs),Lib.splitK [47] 0 (l.count 47) l=cE l
 | []=>rfl
 | b::l=>by
  have ih:=NV l;by_cases hb:b=47
  ·subst hb
   have hc:((47:UInt8)::l).count 47=l.count 47+1:=by simp
   have hi:Lib.index ((47:UInt8)::l) [47]=0:=by rw[Lib.index_one];simp[Lib.indexByte]
   rw[hc,Lib.splitK,hi];simp only[show((0:Int) == -1)=UV from rfl];simp[cE,ih]
  ·have Xr:(b==47)=UV:=by simpa using hb
   have hc:(b::l).count 47=l.count 47:=by simp[List.count_cons,Xr]
   have hi:Lib.index (b::l) [47]=if Lib.index l [47] == -1 then -1 else Lib.index l [47]+1:=by
    rw[Lib.index_one,Lib.index_one,Lib.indexByte];simp[hb]
   rw[hc];unfold cE;rw[Xr,aM,<-ih]
   cases hk:l.count 47 with
   | zero=>simp[Lib.splitK]
   | succ k=>
    rw[Lib.splitK,Lib.splitK,hi];by_cases hm:Lib.index l [47]=-1
    ·rw[hm];simp
    ·have hge:0<=Lib.index l [47]:=by
      have:=Lib.indexByte_ge l 47;rw[Lib.index_one]at hm⊢;omega
     have e1:(Lib.index l [47] == -1)=UV:=by simpa using hm
     have e2:((Lib.index l [47]+1) == -1)=UV:=by simp;omega
     have e3:(Lib.index l [47]+1).toNat=(Lib.index l [47]).toNat+1:=om;rw[e1];simp only[R5,Nz];rw[e2];simp only[R5,Nz,e3,Gm,List.length_singleton];rw[aeM,show(Lib.index l [47]).toNat+1+1=((Lib.index l [47]).toNat+1)+1 from rfl,List.drop_succ_cons]
theorem Sj(F:Nat)(s:Bs)(h:s.length<4294967281):GG F s [47]=W0 (cE s):=by
 unfold GG;rw[cq (by rw[ei h];rfl),Lib.splitB_data];congr 1;rw[<-NV];congr 1;show Lib.countB _ _=_;unfold Lib.countB;exact Lib.count_one 47 s
theorem Xv:∀(l:Bs)(n:Nat),(∀j,j<n->l.getD j 0≠47)->n<l.length->l.getD n 0=47->cE l=l.take n::cE (l.drop (n+1))
 | [],n,_,h,_=>by simp at h
 | b::l,0,_,_,h=>by
  have hb:b=47:=by simpa using h
  subst hb
  simp[cE]
 | b::l,n+1,h0,h1,h2=>by
  have hb:(b==47)=UV:=by
   have:=h0 0 om;simpa using this
  have ih:=Xv l n (λj hj=>by
   grind) (by simpa using h1) (by simpa using h2)
  rw[cE,hb,ih];simp
theorem TD:∀(l:Bs),(∀j,j<l.length->l.getD j 0≠47)->cE l=[l]
 | [],_=>rfl
 | b::l,h0=>by
  have hb:(b==47)=UV:=by
   have:=h0 0 si;simpa using this
  have ih:=TD l (λj hj=>by
   have:=h0 (j+1) (by simpa using hj);simpa using this)
  unfold cE;rw[hb,aM,ih]
variable{α:Type}
theorem amI(l:J α)(f k:Nat):sl l (f:Int) (k:Int)=(l.take k).drop f:=by simp[sl]
theorem adR(l:J α)(f:Nat):sl l (f:Int) (l.length:Int)=l.drop f:=by simp[sl]
theorem Z9(l:J α):sl l 1 (l.length:Int)=l.drop 1:=adR l 1
theorem P8(l:J α)(k:Nat):sl l 0 (k:Int)=l.take k:=by simp[sl]
theorem ahv(F:Nat)(s:Bs)(hF:s.length<F)(hs:s.length<1000000000):Jw F s=W0 (cE s):=by
 refine cG (λx=>∃f k:Nat,x.2.1=(f:Int)/\x.2.2=(k:Int)/\f<=k/\k<=s.length/\x.1.length<=f/\x.1++cE (s.drop f)=cE s/\∀j,f<=j->j<k->s.getD j 0≠47) (λx=>s.length-x.2.2.toNat) ?_ F _ ⟨0,0,rfl,rfl,om,om,si,si,λj _ hj=>om⟩ (by simpa using hF);rintro⟨o,fr,ii⟩ ⟨f,k,h0,h0',h1,h2,h3,h4,h5⟩;dsimp only at h0 h0' h3 h4 h5⊢;subst h0 h0';by_cases hk:k<s.length
 ·left
  have hg:s.getD k 0=s[k]:=gd hk
  cases hb:(s[k]==47)with
  | true=>
   refine⟨(o++[sl s (f:Int) (k:Int)],((k+1:Nat):Int),((k+1:Nat):Int)),⟨k+1,k+1,rfl,rfl,om,om,bp,?_,λj h h'=>om⟩,bp,λrc=>?_⟩
   ·have hc:=Xv (s.drop f) (k-f) (λj hj=>by
     have:=h5 (f+j) om om
     simp_all)
    grind[List.drop_drop,amI,List.take_drop]
   ·rw[cC om,bZ om om,b9,hg,pF _ 47 om,hb,aY,vV om om om,bZ bp bp,cy om]
  | false=>
   refine⟨(o,(f:Int),((k+1:Nat):Int)),⟨f,k+1,rfl,rfl,om,om,h3,h4,λj h h'=>?_⟩,bp,λrc=>?_⟩
   ·grind
   ·rw[cC om,bZ om om,b9,hg,pF _ 47 om,hb,aM,cy om]
 ·right
  obtain rfl:k=s.length:=om;intro rc;rw[cf om,vV om om om,bZ bp bp,<-h4,adR,TD]
  simp_all
def yG(b:UInt8):Bool:=b==47||b==0
def ou(s:Bs):Bool:=(T1 (1<=s.length)&&T1 (s.length<=32))&&(!(s==[46])&&(!(s==[46,46]) && !(s.any yG)))
theorem ajK(F:Nat)(s:Bs)(hF:s.length<F)(hs:s.length<1000000000000):Fi F s=W0 (ou s):=by
 unfold Fi wx;rw[pJ s (λi=>(i:Int)) yG (λ_ _=>W0 UV) (W0 WF) hF (by rfl) (λi h rc=>?_) (λrc=>?_),Cz]
 ·simp[aH]
  have e1:(T1 ((s.length:Int)<1)||decide (32<(s.length:Int)))=!(T1 (1<=s.length)&&T1 (s.length<=32)):=by
   grind
  unfold ou
  grind
 ·rw[cC om,bZ om om,bZ om om,b9,gd h,pF _ 47 om,pF _ 0 om,aH,cy om]
  rfl
 ·rw[cf om]
set_option maxRecDepth 100000 in
theorem aoy(F r:Nat)(hr:128<=r)(hF:4<=F):jJ F [47,0] (r:Int)=W0 (-1):=by
 unfold jJ wx;rw[dT om,dF om];simp only[aY,aD,aM]
 cases h1:((r:Int)==65533)with
 | true=>
  simp only[aY];obtain⟨F,rfl⟩:∃G,F=G+4:=⟨F-4,om⟩;have e0:dec ([47,0]:Bs) 0=(47,1):=by rw[Af de];rfl
  have e1:dec ([47,0]:Bs) 1=(0,1):=by rw[Af de];rfl
  simp[bW,e0,e1,So];rw[show Nat.ble 1 2=WF from rfl,show Nat.ble 2 2=WF from rfl,show Nat.ble 3 2=UV from rfl]
  rfl
 | false=>
  simp only[aM]
  have hv:sK F (r:Int)=W0 WF\/sK F (r:Int)=W0 UV:=by
   unfold sK wx;cases T1 (0<=(r:Int))<;>cases T1 ((r:Int)<55296)<;>cases T1 (57343<(r:Int))<;>cases T1 ((r:Int)<=1114111)<;>simp
  rcases hv with hv|hv
  ·rw[hv]
   simp only[aD,jd,aM];obtain⟨h2,h3,h4⟩:=acI hr;have hn:aC (((mF (r:Int)).length:Int)-1)=(((mF (r:Int)).length-1:Nat):Int):=vm om om;obtain⟨F,rfl⟩:∃G,F=G+1:=⟨F-1,om⟩;rw[hn];simp only[bW];by_cases e:(mF (r:Int)).length=2
   ·have hx:((([47,0]:Bs).getD 1 0).toNat:Int)≠((((mF (r:Int)).getD 1 0).toNat:Int)):=by
     rw[e,show 2-1=1 from rfl]at h4;have:(([47,0]:Bs).getD 1 0).toNat=0:=rfl;omega
    rw[e]
    have hx':(((([47,0]:Bs).getD (Ts ((2-1:Nat):Int)) 0).toNat:Int) != (((mF (r:Int)).getD (Ts ((2-1:Nat):Int)) 0).toNat:Int))=WF:=by
     simpa using hx
    have hw:aC (((2-1:Nat):Int)+1)=((2:Nat):Int):=by rw[bN om];rfl
    have Mn:sl ([47,0]:Bs) ((2:Nat):Int) ((([47,0]:Bs).length:Nat):Int)=[]:=rfl;rw[hx',hw,Mn];rw[cC si,bZ si si,bZ si si,aY,vV si si si,bZ si si];unfold strings_IndexByte stringslite_IndexByte q9 Xo wx;simp only[Lib.indexByte,aD];rw[cC de];rfl
   ·rw[cf (by simp only[qL,Ax];omega)]
  ·rw[hv]
   simp only[aD,qM,aY]
theorem ajL(F r:Nat)(hr:r<128):∃x,jJ F [47,0] (r:Int)=W0 x/\T1 (0<=x)=yG (UInt8.ofNat r):=by
 unfold jJ strings_IndexByte stringslite_IndexByte q9 Xo wx;rw[dT om,dT om];simp only[aY,aD];refine⟨_,rfl,?_⟩
 have hw:(Sx .u8 (r:Int)).toNat.toUInt8=UInt8.ofNat r:=by
  have:Sx .u8 (r:Int)=(r:Int):=by
   show((r:Int)%256)=r;omega
  rw[this];rfl
 rw[hw];generalize UInt8.ofNat r=b;simp only[Lib.indexByte,yG];by_cases h1:b=47
 ·subst h1;rfl
 ·by_cases h2:b=0
  ·subst h2;rfl
  ·have e1:(b==47)=UV:=by simpa using h1
   have e2:(b==0)=UV:=by simpa using h2
   have e3:¬ (47:UInt8)=b:=λh=>h1 h.symm;have e4:¬ (0:UInt8)=b:=λh=>h2 h.symm;simp[e1,e2,e3,e4]
theorem aoz(l:Bs):T1 (0<=Lib.indexAny l [47,0])=l.any yG:=by
 induction l with
 | nil=>rfl
 | cons b l ih=>
  have hge:=Lib.indexAny_ge [47,0] l;unfold Lib.indexAny
  have hc:([47,0]:Bs).contains b=yG b:=by
   simp[yG,List.contains,List.elem];cases (b==47)<;>cases (b==0)<;>rfl
  rw[hc,List.any_cons]
  cases hb:yG b with
  | true=>simp
  | false=>
   simp only[R5,Nz,R6];rw[<-ih];by_cases h:Lib.indexAny l [47,0]=-1
   ·rw[h];rfl
   ·have:(Lib.indexAny l [47,0] == -1)=UV:=by simpa using h
    rw[this];simp only[R5,Nz];rw[qb];simp only[eT];omega
theorem ajM(F:Nat)(s:Bs)(hs:s.length<=8)(hF:10<=F):∃x,strings_IndexAny F s [47,0]=W0 x/\T1 (0<=x)=s.any yG:=by
 have key:∀(n p G:Nat),s.length-p<=n->p<=s.length->n<G->(∀j,j<p->yG (s.getD j 0)=UV)->∃x,bW (σ:=Bs×Int) (R:=Int) (λyM x4=>
  cond (So (Ts x4.2) x4.1.length)
  ((jJ F [47,0] ((dec x4.1 (Ts x4.2)).1:Int)).bind λx6=>
  cond (T1 (0<=x6))
  (W0 (((Ts x4.2):Nat):Int))
  (yM (x4.1,((((Ts x4.2)+(dec x4.1 (Ts x4.2)).2):Nat):Int))))
  (W0 (-1))) G (s,((p:Nat):Int))=W0 x/\T1 (0<=x)=s.any yG:=by
  intro n
  induction n with
  | zero=>
   intro p G h1 h2 h3 h4;obtain rfl:p=s.length:=om;obtain⟨G,rfl⟩:∃H,G=H+1:=⟨G-1,om⟩;refine⟨-1,?_,?_⟩
   ·simp only[bW,b9]
    rw[as7 om];rfl
   ·have:s.any yG=UV:=by
     rw[List.any_eq_false];intro b hb;obtain⟨j,hj,rfl⟩:=lH hb;have:=h4 j hj;rw[gd hj]at this;simp[this]
    rw[this];rfl
  | succ n ih=>
   intro p G h1 h2 h3 h4;obtain⟨G,rfl⟩:∃H,G=H+1:=⟨G-1,om⟩;by_cases hp:p<s.length
   ·simp only[bW,b9]
    rw[as8 hp,aY];by_cases ha:(s.getD p 0).toNat<128
    ·rw[Af ha]
     obtain⟨x,hx,hx2⟩:=ajL F _ ha;have hof:UInt8.ofNat (s.getD p 0).toNat=s.getD p 0:=by simp
     rw[hof]at hx2;rw[show(((s.getD p 0).toNat,1):Nat×Nat).1=(s.getD p 0).toNat from rfl,hx,aD,hx2]
     cases hb:yG (s.getD p 0)with
     | true=>
      refine⟨(p:Int),rfl,?_⟩
      have:s.any yG=WF:=by
       rw[R7];exact⟨s[p],iJ hp,by rw[<-gd hp];exact hb⟩
      rw[this,dT om]
     | false=>
      rw[aM]
      exact ih (p+1) G om om om (λj hj=>by
       by_cases e:j=p
       ·subst e;exact hb
       ·exact h4 j om)
    ·obtain⟨d1,d2,d3,d4⟩:=ajN ha
     rw[aoy F _ d1 om,aD];rw[cf om];have:=d3 hp
     exact ih (p+(dec s p).2) G om om om (λj hj=>by
      by_cases e:j<p
      ·exact h4 j e
      ·have h:=d4 (j-p) om
       rw[show p+(j-p)=j by omega]at h;unfold yG
       have e1:(s.getD j 0==47)=UV:=by
        simp only[gH,ne_eq];intro e;rw[e]at h;exact absurd h de
       have e2:(s.getD j 0==0)=UV:=by
        simp only[gH,ne_eq];intro e;rw[e]at h;exact absurd h de
       rw[e1,e2];rfl)
   ·obtain rfl:p=s.length:=om
    exact ih s.length (G+1) om om om h4
 obtain⟨x,h1,h2⟩:=key s.length 0 F om om om (λj hj=>om);refine⟨x,?_,h2⟩;unfold strings_IndexAny strings_shouldUseASCIISet wx;rw[show(([47,0]:Bs)==[])=UV from rfl,aM,show(((([47,0]:Bs).length:Nat):Int)==1)=UV from rfl,aM];simp only[aD];rw[cf om];exact h1
theorem aqx(F:Nat)(s:Bs)(hs:s.length<=32)(hF:10<=F):strings_ContainsAny F s [47,0]=W0 (s.any yG):=by
 unfold strings_ContainsAny ZW wx;by_cases h8:s.length<=8
 ·obtain⟨x,h1,h2⟩:=ajM F s h8 hF
  rw[aeN h8,aY,h1,aD,h2]
 ·have:Nat.ble s.length 8=UV:=by
   cases h:Nat.ble s.length 8
   ·rfl
   ·exact absurd (lG h) h8
  rw[this,aM,cq,aD,aoz];rw[dT om];rfl
theorem adS(F:Nat)(s:Bs)(hF:10<=F):wz F s=W0 (ou s):=by
 unfold wz wx;simp only[aH,aD,cF]
 have e1:(T1 (1<=(s.length:Int))&&T1 ((s.length:Int)<=32))=(T1 (1<=s.length)&&T1 (s.length<=32)):=by
  rw[qb];simp only[cH,eT];omega
 rw[e1];unfold ou;cases h1:(T1 (1<=s.length)&&T1 (s.length<=32))
 ·rfl
 ·simp only[cH,eT]at h1
  rw[aqx F s h1.2 hF];cases (s==[46])<;>cases (s==[46,46])<;>rfl
def nI(s:Bs):Bool:=s==[47]||((T1 (2<=s.length)&&T1 (s.length<=128))&&(s.getD 0 0==47&&(cE (s.drop 1)).all ou))
theorem Xw(p:J Bs):cond (p.any λn=>!ou n) (W0 UV) (W0 WF)=W0 (p.all ou):=by
 grind
theorem aaa(F:Nat)(s:Bs)(hF:200<=F):wA F s=W0 (nI s):=by
 unfold wA nI wx
 cases h1:(s==[47])with
 | true=>rfl
 | false=>
  simp only[aM,aH,aD,cT];by_cases h2:2<=s.length/\s.length<=128
  ·rw[dF om,dF om,Bool.or_self,aM,mW om,aD,Tx _ 47 om,dT h2.1,dT h2.2]
   cases h3:(s.getD 0 0==47)with
   | false=>rfl
   | true=>
    rw[jd,bZ om om,Z9,ahv F _ bp bp,aD];have hl:=DF (s.drop 1);have hm:=Ms (s.drop 1);simp only[Gq]at hl hm;rw[pJ (cE (s.drop 1)) (λi=>(i:Int)) (λn=>!ou n) (λ_ _=>W0 UV) (W0 WF) om (by rfl) (λi h rc=>?_) (λrc=>?_),Cz,Xw]
    ·rfl
    ·have:=hm _ (iJ h)
     rw[cC om,bZ om om,b9,gd h,ajK F _ om om,aD,cy om]
    ·rw[cf om]
  grind
theorem ahw(F:Nat)(s p:Bs):cQ F s p=W0 (T1 (p.length<=s.length)&&s.take p.length==p):=by
 unfold cQ ov wx;by_cases h:p.length<=s.length
 ·rw[cC om,bZ om om,dT h,P8]
  rfl
 ·rw[dF om,dF h]
  rfl
theorem amJ(F:Nat)(s:Bs)(hF:200<=F):wB F s=W0 (nI s):=by
 unfold wB nI wx
 cases h1:(s==[47])with
 | true=>rfl
 | false=>
  have hne:s≠[47]:=by simpa using h1
  simp only[aM,R6];rw[ahw];simp only[aD,aH,cT];by_cases h2:2<=s.length/\s.length<=128
  ·rw[dF om,R6,dT h2.1,dT h2.2]
   have e:(T1 (([47]:Bs).length<=s.length)&&s.take ([47]:Bs).length==[47])=(s.getD 0 0==47):=by
    rw[dT bp]
    cases s with
    | nil=>simp at h2
    | cons b l=>simp
   rw[e]
   cases h3:(s.getD 0 0==47)with
   | false=>rfl
   | true=>
    rw[jd,aM,bZ om om,Z9,Sj F _ bp];simp only[aD];have hl:=DF (s.drop 1);simp only[Gq]at hl;rw[pJ (cE (s.drop 1)) (λi=>(i:Int)) (λn=>!ou n) (λ_ _=>W0 UV) (W0 WF) om (by rfl) (λi h rc=>?_) (λrc=>?_),Cz,Xw]
    ·rfl
    ·rw[cC om,bZ om om,b9,gd h,adS F _ om,aD,cy om]
    ·rw[cf om]
  ·have h3:(T1 (2<=s.length)&&T1 (s.length<=128))=UV:=by
    rw[PI];simp only[aeO];omega
   rw[h3]
   have:(T1 (128<(s.length:Int)) || !(T1 (([47]:Bs).length<=s.length)&&s.take ([47]:Bs).length==[47]))=WF:=by
    by_cases h4:128<s.length
    ·rw[dT om];rfl
    ·have h5:s.length<2:=om
     rw[NB,Ej,PI];right
     match s,h5 with
     | [],_=>left;rfl
     | [b],_=>
      right;simp at hne⊢;exact hne
   rw[this];rfl
def vn(s:Bs):Nat:=(Lib.lastIndexByte ⟨⟨s⟩⟩ 47).toNat
def qV(s:Bs):Bs:=cond (vn s==0) [47] (s.take (vn s))
theorem b47(b:UInt8):((b.toNat:Int)=47)↔b=47:=by
 have:=pF b 47 om;rw[qb]at this;simpa using this
theorem aab(s:Bs):(Lib.lastIndexByte ⟨⟨s⟩⟩ 47=-1/\∀j,j<s.length->s.getD j 0≠47) \/
  ∃i:Nat,i<s.length/\Lib.lastIndexByte ⟨⟨s⟩⟩ 47=i/\s.getD i 0=47/\∀j,i<j->j<s.length->s.getD j 0≠47:=by
 have h:=Lib.lastIdx_spec ⟨⟨s⟩⟩ 47 s.length;simp[b47]at h;exact h
theorem TE(s:Bs)(a:Nat)(h1:(a<s.length/\s.getD a 0=47)\/a=0)(h2:∀j,a<j->j<s.length->s.getD j 0≠47):vn s=a:=by
 unfold vn
 grind[aab,Nat.lt_trichotomy]
theorem ajO(s:Bs):((vn s<s.length/\s.getD (vn s) 0=47)\/vn s=0)/\∀j,vn s<j->j<s.length->s.getD j 0≠47:=by
 unfold vn
 grind[aab]
theorem aoA(s:Bs):vn s<=s.length:=by
 grind[ajO]
theorem amK(F:Nat)(s:Bs)(hF:s.length<F)(hs:s.length<1000000000):NW F s=W0 (vn s:Int):=by
 refine cG (λx=>∃a k:Nat,x.1=(a:Int)/\x.2=(k:Int)/\k<=s.length/\((a<k/\s.getD a 0=47)\/a=0)/\∀j,a<j->j<k->s.getD j 0≠47) (λx=>s.length-x.2.toNat) ?_ F _ ⟨0,0,rfl,rfl,om,.inr rfl,λj _ hj=>om⟩ (by simpa using hF);rintro⟨aa,ii⟩ ⟨a,k,h0,h0',h1,h2,h3⟩;subst h0 h0';by_cases hk:k<s.length
 ·left
  have hg:s.getD k 0=s[k]:=gd hk
  cases hb:(s[k]==47)with
  | true=>
   refine⟨((k:Int),((k+1:Nat):Int)),⟨k,k+1,rfl,rfl,om,.inl ⟨om,by simp_all⟩,λj h h'=>om⟩,bp,λrc=>?_⟩
   rw[cC om,bZ om om,b9,hg,pF _ 47 om,hb,aY,cy om]
  | false=>
   refine⟨((a:Int),((k+1:Nat):Int)),⟨a,k+1,rfl,rfl,om,?_,λj h h'=>?_⟩,bp,λrc=>?_⟩
   ·grind
   ·grind
   ·rw[cC om,bZ om om,b9,hg,pF _ 47 om,hb,aM,cy om]
 ·right
  obtain rfl:k=s.length:=om;intro rc;rw[cf om,TE s a h2 h3]
theorem afl(F:Nat)(s:Bs)(hF:s.length<F)(hs:s.length<1000000000):AM F s=W0 (qV s):=by
 unfold AM qV wx;rw[amK F s hF hs,aD];have:=aoA s;by_cases h:vn s=0
 ·rw[h];rfl
 ·have e1:((vn s:Int)==0)=UV:=by simpa using h
  have e2:(vn s==0)=UV:=by simpa using h
  rw[e1,e2,aM,aM,bZ om om,P8]
def NX(p:Bs)(f:bF):Bool:=f.cj==p
def K7(l:J bF)(p:Bs):O bF:=l.find? (NX p)
def Sk(l:J bF)(p:Bs):Bool:=l.any (NX p)
def fiS(l:J bF)(p:Bs):Int:=(l.findIdx? (NX p)).elim (-1) λj=>(j:Int)
theorem ajP(F:Nat)(l:J bF)(p:Bs)(hF:l.length<F)(hl:l.length<1000000000):Fj F l p=W0 (fiS l p):=by
 unfold Fj fiS wx;rw[pJ l (λi=>(i:Int)) (NX p) (λi _=>W0 (i:Int)) (W0 (-1)) hF (by rfl) (λi h rc=>?_) (λrc=>?_),Sm _ _ _ b8]
 ·cases l.findIdx? (NX p)<;>simp
 ·rw[cC om,bZ om om,b9,gd h,cy om]
  rfl
 ·rw[cf om]
theorem ahx(l:J bF)(p:Bs):(l.findIdx? (NX p)=WP/\K7 l p=WP/\Sk l p=UV)\/∃j,j<l.length/\l.findIdx? (NX p)=W0 j/\K7 l p=W0 (l.getD j b8)/\Sk l p=WF:=by
 unfold K7 Sk
 induction l with
 | nil=>simp_all
 | cons f l ih=>
  grind
theorem ajQ(l:J bF)(p:Bs):(fiS l p=-1/\K7 l p=WP/\Sk l p=UV)\/∃j:Nat,j<l.length/\fiS l p=(j:Int)/\K7 l p=W0 (l.getD j b8)/\Sk l p=WF:=by
 unfold fiS
 grind[ahx]
def TF(a p:Bs):Bool:=cond (a==[47]) (!(p==[47])) (T1 (a.length+1<=p.length)&&p.take (a.length+1)==a++[47])
theorem ahy(F:Nat)(a p:Bs):Dd F a p=W0 (TF a p):=by
 unfold Dd TF wx;cases (a==[47])
 ·by_cases h:a.length+1<=p.length
  ·have hl:a.length<p.length:=om
   rw[cC om,bZ om om,P8,aD,dT h]
   have e:(p.take (a.length+1)==a++[47])=(p.take a.length==a&&p.getD a.length 0==47):=by
    rw[mh hl]
    grind[List.append_inj]
   rw[e];cases (p.take a.length==a)
   ·rfl
   ·rw[bZ om om,pF _ 47 om]
    rfl
  grind
 ·rfl
def P9(l:J bF)(p:Bs):Int:=cond (l.any λf=>!f.oO&&TF f.cj p) 18 (cond (Sk l (qV p)) 0 8)
theorem ajR(F:Nat)(l:J bF)(p:Bs)(hF:l.length<F)(hl:l.length<1000000000)(hp:p.length<1000000000)(hpF:p.length<F):AN F l p=W0 (P9 l p):=by
 unfold AN wx;rw[pJ l (λi=>(i:Int)) (λf=>!f.oO&&TF f.cj p) (λ_ _=>W0 18) (W0 (cond (Sk l (qV p)) 0 8)) hF (by rfl) (λi h rc=>?_) (λrc=>?_),Cz,aH]
 ·rfl
 ·rw[bZ om om,bZ om om,b9,ahy F _ _,cy om]
  grind
 ·rw[cf om,afl F p hpF hp,aD,ajP F l _ hF hl]
  rcases ajQ l (qV p)with⟨h1,h2,h3⟩|⟨j,h0,h1,h2,h3⟩
  ·rw[h1,h3];rfl
  grind
def Mu(l:J bF)(k:Nat):Int:=
 cond (!nI (l.getD k b8).cj) 10
 (cond (((l.getD k b8).oO && !((l.getD k b8).fData==[]))||((l.getD k b8).cj==[47] && !(l.getD k b8).oO)) 1
 (cond (T1 (8192<(l.getD k b8).fData.length)) 3
 (cond (T1 (0<k)&&(Op.bytesLess (l.getD k b8).cj (l.getD (k-1) b8).cj||(l.getD k b8).cj==(l.getD (k-1) b8).cj)) 25
 (cond (T1 (0<k)) (P9 (l.take k) (l.getD k b8).cj) 0))))
def Xx(l:J bF):Nat->Nat->Int
 | 0,_=>0
 | n+1,k=>cond (Mu l k==0) (Xx l n (k+1)) (Mu l k)
def iA(l:J bF):Int:=cond (T1 (128<l.length)) 4 (cond (l.length==0 || !((l.getD 0 b8).cj==[47])) 8 (Xx l l.length 0))
def NY(l:J bF):Prop:=l.length<=140/\∀f∈l,f.cj.length<=300/\f.fData.length<=9000
theorem NY.at{l:J bF}(h:NY l)(k:Nat):(l.getD k b8).cj.length<=300/\(l.getD k b8).fData.length<=9000:=by
 by_cases hk:k<l.length
 ·rw[gd hk];exact h.2 _ (iJ hk)
 ·have:l.getD k b8=b8:=by simp_all
  rw[this];exact⟨by decide,by decide⟩
theorem aqy(l:J bF):(cond ((l.length:Int)==0)
 (W0 WF)
 (rq (T1 (0<(l.length:Int))) (W0 (!(((l.getD 0 b8).cj)==([47]:Bs))))):O Bool)=W0 (l.length==0 || !((l.getD 0 b8).cj==[47])):=by
  cases l with
  | nil=>rfl
  | cons f l=>
   have e1:((((f::l).length:Nat):Int)==0)=UV:=by simp;omega
   have e2:((f::l).length==0)=UV:=by simp
   rw[e2,mW si];rfl
theorem ajS(l:J bF)(k:Nat)(r:O Int):cond (!nI (l.getD k b8).cj) (W0 10)
 (cond (((l.getD k b8).oO && !((l.getD k b8).fData==[]))||((l.getD k b8).cj==[47] && !(l.getD k b8).oO)) (W0 1)
 (cond (T1 (8192<(l.getD k b8).fData.length)) (W0 3)
 (cond (T1 (0<k)&&(Op.bytesLess (l.getD k b8).cj (l.getD (k-1) b8).cj||(l.getD k b8).cj==(l.getD (k-1) b8).cj)) (W0 25)
 (cond (T1 (0<k)) (cond (P9 (l.take k) (l.getD k b8).cj != 0) (W0 (P9 (l.take k) (l.getD k b8).cj)) r) r))))=cond (Mu l k==0) r (W0 (Mu l k)):=by
 unfold Mu
 grind
theorem aqz{l:J bF}{body:(Int->O Int)->Int->O Int}(F:Nat)(hF:l.length<F)(hs:∀(k:Nat) rc,k<l.length->body rc (k:Int)=cond (Mu l k==0) (rc ((k+1:Nat):Int)) (W0 (Mu l k)))(he:∀rc,body rc (l.length:Int)=W0 0):bW body F 0=W0 (Xx l l.length 0):=by
 refine cG (λx=>∃k n:Nat,x=(k:Int)/\k+n=l.length/\Xx l n k=Xx l l.length 0) (λx=>l.length-x.toNat) ?_ F _ ⟨0,l.length,rfl,om,rfl⟩ (by simpa using hF);rintro x ⟨k,n,rfl,h1,h2⟩
 cases n with
 | zero=>
  right;obtain rfl:k=l.length:=om;intro rc
  rw[he,<-h2];rfl
 | succ n=>
  rw[Xx]at h2
  cases hv:(Mu l k==0)with
  | true=>
   left;rw[hv]at h2
   exact⟨_,⟨k+1,n,rfl,om,h2⟩,bp,λrc=>by grind⟩
  | false=>
   grind
theorem aoB(l:J bF)(k:Nat)(hk:k<l.length)(hl:l.length<1000000000):(cond (T1 (0<(k:Int)))
 (rq ((T1 (0<=aC ((k:Int)-1)))&&(T1 (aC ((k:Int)-1)<(l.length:Int)))) (W0 (Op.bytesLess ((l.getD k b8).cj) ((l.getD (Ts (aC ((k:Int)-1))) b8).cj)||((l.getD k b8).cj)==((l.getD (Ts (aC ((k:Int)-1))) b8).cj))))
 (W0 UV):O Bool)=W0 (T1 (0<k)&&(Op.bytesLess (l.getD k b8).cj (l.getD (k-1) b8).cj||(l.getD k b8).cj==(l.getD (k-1) b8).cj)):=by
  by_cases h0:0<k
  ·rw[cC om,vm om h0,bZ om om,b9,dT h0,Jq]
  simp_all
theorem ar2(k:Nat):T1 (0<(k:Int))=T1 (0<k):=by
 simp_all
theorem ajT(n k:Nat):T1 ((k:Int)<(n:Int))=T1 (k<n):=by
 simp_all
theorem ahz(F:Nat)(l:J bF)(hF:400<=F)(h:NY l):De F l=W0 (iA l):=by
 have hl:=h.1;unfold De iA wx;rw[show T1 (128<(l.length:Int))=T1 (128<l.length)from ajT _ 128,aqy]
 cases T1 (128<l.length)with
 | true=>rfl
 | false=>
  cases (l.length==0 || !((l.getD 0 b8).cj==[47]))with
  | true=>rfl
  | false=>
   refine aqz F om (λk rc hk=>?_) (λrc=>?_)
   ·rw[cC om,bZ om om,b9,aaa F _ om,aoB l k hk om]
    simp only[aH,cF,aD,cT];rw[show T1 (8192<(((l.getD k b8).fData.length:Nat):Int))=T1 (8192<(l.getD k b8).fData.length)from ajT _ 8192,ar2,bZ om om,P8];have:=(h.at k).1;rw[ajR F (l.take k) _ bp bp om om,aD,cy om,<-ajS]
   ·rw[cf om]
theorem ajU(F:Nat)(l:J bF)(hF:200<=F):∃b,(b=WF->NY l)/\Jx F l=W0 b:=by
 refine Fk (λb=>b=WF->NY l) (λx=>∃n k:Nat,x.1=(n:Int)/\x.2=(k:Int)/\k<=l.length/\k<=140/\n<=10000*k/\∀f∈l.take k,f.cj.length<=300/\f.fData.length<=9000) (λx=>140-x.2.toNat) ?_ F _ ⟨0,0,rfl,rfl,om,om,om,si⟩ bp;rintro⟨nn,ii⟩ ⟨n,k,h0,h0',h1,h2,h3,h4⟩;subst h0 h0';simp only[aH,cF,aD];by_cases hc:k<l.length/\k<140/\n<40000
 ·have hk:=hc.1
  have e:((T1 ((k:Int)<(l.length:Int))&&T1 ((k:Int)<140))&&T1 ((n:Int)<40000))=WF:=by
   grind
  rw[e];simp only[b9,gd hk];by_cases hb:l[k].cj.length<=300/\l[k].fData.length<=9000
  ·left
   refine⟨(((n+l[k].cj.length+l[k].fData.length:Nat):Int),((k+1:Nat):Int)),⟨_,k+1,rfl,rfl,om,om,om,λf hf=>?_⟩,bp,λrc=>?_⟩
   ·grind[List.take_succ_eq_append_getElem,List.mem_singleton]
   ·grind[bN,bZ]
  ·right
   refine⟨UV,λh=>(by cases h),λrc=>?_⟩;rw[bZ om om];by_cases hp:l[k].cj.length<=300
   ·rw[cf om,bZ om om,dT om];rfl
   grind
 ·have e:((T1 ((k:Int)<(l.length:Int))&&T1 ((k:Int)<140))&&T1 ((n:Int)<40000))=UV:=by
   grind
  right;rw[e];refine⟨_,λh=>?_,λrc=>rfl⟩;simp at h;refine⟨om,λf hf=>h4 f ?_⟩
  grind
set_option maxRecDepth 100000
theorem w1:uX 60 [47,97,47,98] [46,46,47,99,47,46,47,100,47]=W0 ([47,97,47,99,47,100],0):=by kernel_rfl
theorem w2:uX 60 [47] [46,46]=W0 ([47],0):=by kernel_rfl
def mo:J Bs->Bs
 | []=>[]
 | [x]=>x
 | x::y::l=>x++47::mo (y::l)
theorem join_eq:∀(l:J Bs),Lib.join l [47]=mo l
 | []=>rfl
 | [x]=>by simp[Lib.join,List.intercalate,mo]
 | x::y::l=>by
  have ih:=join_eq (y::l);simp only[Lib.join,List.intercalate]at ih⊢;rw[mo,<-ih];simp
variable{l:J Bs}
theorem TG(x:Bs)(h:l≠[]):mo (x::l)=x++47::mo l:=by
 cases l with
 | nil=>exact absurd rfl h
 | cons y l=>rfl
theorem TH:∀(l:J Bs)(c:Bs),l≠[]->mo (l++[c])=mo l++47::c
 | [],c,h=>absurd rfl h
 | [x],c,_=>rfl
 | x::y::l,c,_=>by
  have ih:=TH (y::l) c si;rw[vO,TG x si,ih,mo];simp
theorem Fl:∀(s:Bs),mo (cE s)=s
 | []=>rfl
 | b::l=>by
  have ih:=Fl l;rw[cE]
  cases hb:(b==47)with
  | true=>
   rw[aY,TG _ (GF l),ih]
   rw[eq_of_beq hb];rfl
  | false=>
   rw[aM]
   cases hp:cE l with
   | nil=>exact absurd hp (GF l)
   | cons p ps=>
    dsimp only;rw[hp]at ih
    cases ps with
    | nil=>rw[mo]at ih⊢;rw[ih]
    | cons q qs=>rw[mo]at ih⊢;rw[vO,ih]
def aoC(c:Bs):Prop:=∀b∈c,b≠47
variable{c:Bs}
theorem ahA(h:ou c=WF):aoC c:=by
 intro b hb e;unfold ou at h;simp only[cH,Ej]at h;have:=List.any_eq_false.1 h.2.2.2 b hb;subst e;exact this rfl
theorem CA(h:ou c=WF):1<=c.length/\c.length<=32:=by
 unfold ou at h;simp only[cH,eT]at h;exact h.1
theorem join_le:∀(l:J Bs),(∀c∈l,ou c=WF)->(mo l).length<=33*l.length
 | [],_=>by simp[mo]
 | [x],h=>by
  have:=CA (h x si)
  simp[mo];omega
 | x::y::l,h=>by
  have h1:=CA (h x si);have h2:=join_le (y::l) λc hc=>h c (by simp[hc]);rw[mo];simp at h2⊢;omega
def pathOf(l:J Bs):Bs:=[47]++mo l
def Names(l:J Bs):Prop:=∀c∈l,ou c=WF
theorem Names.snoc(h:Names l)(hc:ou c=WF):Names (l++[c]):=by
 intro x hx;rcases p8.1 hx with hx|hx
 ·exact h x hx
 ·simp only[vk]at hx;subst hx;exact hc
theorem Names.dropLast(h:Names l):Names l.dropLast:=λc hc=>h c (List.dropLast_subset l hc)
theorem amL(h:Names l)(hl:l≠[]):mo l≠[]:=by
 match l,hl with
 | [x],_=>
  have:=CA (h x si)
  intro e;rw[mo]at e;rw[e]at this;simp at this
 | x::y::l,_=>intro e;rw[mo]at e;simp at e
theorem acJ(h:Names l):(pathOf l==[47])=(l==[]):=by
 cases l with
 | nil=>rfl
 | cons x l=>
  have:=amL h si;rw[show((x::l)==[])=UV from rfl];simp only[pathOf,vO,p9,gH,ne_eq,List.cons.injEq,vh];exact this
theorem TJ(a c:Bs)(hc:aoC c):vn (a++47::c)=a.length:=by
 refine TE _ _ (.inl ⟨si,by simp[List.getD]⟩) λj hj hl=>?_
 have e:(a++47::c).getD j 0=c.getD (j-a.length-1) 0:=by
  rw[List.getD,Jp om,show j-a.length=(j-a.length-1)+1 by omega,List.getElem?_cons_succ];rfl
 simp at hl;rw[e,gd om];exact hc _ (iJ _)
theorem acK(h:Names l)(hc:ou c=WF):qV (pathOf (l++[c]))=pathOf l:=by
 have h47:=ahA hc
 cases l with
 | nil=>
  have:vn (pathOf ([]++[c]))=0:=TJ [] c h47;unfold qV;rw[this]
  rfl
 | cons x l=>
  have e:pathOf ((x::l)++[c])=pathOf (x::l)++47::c:=by
   rw[pathOf,TH _ _ si,pathOf];simp
  have:vn (pathOf ((x::l)++[c]))=(pathOf (x::l)).length:=by rw[e];exact TJ _ c h47
  unfold qV;rw[this];have h0:((pathOf (x::l)).length==0)=UV:=by simp[pathOf]
  rw[h0,aM,e];simp
theorem aac(h:Names l):qV (pathOf l)=pathOf l.dropLast:=by
 rcases List.eq_nil_or_concat l with rfl|⟨l',c,rfl⟩
 ·rfl
 ·rw[List.concat_eq_append]at h⊢
  have hc:ou c=WF:=h c si;have hl:Names l':=λx hx=>h x (by simp[hx]);rw[acK hl hc];simp
theorem TK{s:Bs}(h:nI s=WF)(hr:(s==[47])=UV):Names (cE (s.drop 1))/\pathOf (cE (s.drop 1))=s/\s.length<=128/\cE (s.drop 1)≠[]:=by
 unfold nI at h;rw[hr,R6]at h;simp only[cH,eT,pE]at h;obtain⟨⟨h1,h2⟩,h3,h4⟩:=h;refine⟨h4,?_,h2,GF _⟩;rw[pathOf,Fl]
 cases s with
 | nil=>simp at h1
 | cons b s=>
  have:b=47:=by simpa using h3
  subst this;rfl
def Xy:J Bs->J Bs->O (J Bs)
 | [],n=>W0 n
 | c::cs,n=>cond (c==[]||c==[46]) (Xy cs n) (cond (c==[46,46]) (Xy cs n.dropLast) (cond (ou c) (Xy cs (n++[c])) WP))
def clF:O (J Bs)->Bs×Int
 | none=>([],10)
 | some n=>cond (T1 (128<(pathOf n).length)) ([],3) (pathOf n,0)
def Kf(cwd path:Bs):J Bs:=cond (!(path.getD 0 0==47) && !(cwd==[47])) (cE (cwd.drop 1)) []
def TL(cwd path:Bs):Bs×Int:=cond (!nI cwd) ([],10) (cond (path==[]) ([],8) (clF (Xy (cE path) (Kf cwd path))))
theorem acL{cwd path:Bs}(h:nI cwd=WF):Names (Kf cwd path)/\(Kf cwd path).length<=200:=by
 unfold Kf
 cases hr:(cwd==[47])with
 | true=>rw[jd,PJ];exact⟨λc hc=>(by cases hc),si⟩
 | false=>
  obtain⟨h1,h2,h3,-⟩:=TK h hr;have:=DF (cwd.drop 1);simp only[Gq]at this;cases (path.getD 0 0==47)
  ·exact⟨h1,by show(cE (cwd.drop 1)).length<=200;omega⟩
  ·exact⟨λc hc=>(by cases hc),si⟩
theorem dropLast_take(n:J Bs)(h:n.length<1000000000):n.take (Ts (cond (T1 (aC ((n.length:Int)-1)<0)) 0 (aC ((n.length:Int)-1))))=n.dropLast:=by
 rw[List.dropLast_eq_take];congr 1;by_cases h0:n.length=0
 ·rw[h0];rfl
 ·rw[vm om om,cf om,b9]
theorem acM(n:J Bs)(h:n.length<1000000000):(T1 (0<=cond (T1 (aC ((n.length:Int)-1)<0)) 0 (aC ((n.length:Int)-1)))&&(T1 (cond (T1 (aC ((n.length:Int)-1)<0)) 0 (aC ((n.length:Int)-1))<=(n.length:Int))))=WF:=by
 by_cases h0:n.length=0
 ·rw[h0];rfl
 ·rw[vm om om,cf om,dT om,dT om];rfl
theorem ajV(F:Nat)(cwd path:Bs)(hF:1000<=F)(hp:path.length<=600):uX F cwd path=W0 (TL cwd path):=by
 unfold uX TL wx;rw[amJ F cwd om,aD]
 cases hc:nI cwd with
 | false=>rfl
 | true=>
  rw[jd,aM,aM]
  cases hpe:(path==[])with
  | true=>rfl
  | false=>
   have hpl:0<path.length:=by
    cases path with
    | nil=>cases hpe
    | cons b l=>simp
   obtain⟨hn,hnl⟩:=acL (path:=path) hc
   have hcl:1<=cwd.length/\cwd.length<=128:=by
    cases hr:(cwd==[47])with
    | true=>rw[eq_of_beq hr];exact⟨by decide,by decide⟩
    | false=>
     obtain⟨h1,h2,h3,h4⟩:=TK hc hr;refine⟨?_,h3⟩;rw[<-h2];simp[pathOf]
   rw[aM,aM,mW om,bZ om om,Z9,Sj F _ bp,Sj F _ om,Tx _ 47 om];simp only[aD,aH,cF];show bW _ F (0,Kf cwd path)=_;have ath:=DF path;refine cG (λx=>∃k:Nat,x.1=(k:Int)/\k<=(cE path).length/\x.2.length<=200+k/\Names x.2/\Xy ((cE path).drop k) x.2=Xy (cE path) (Kf cwd path)) (λx=>(cE path).length-x.1.toNat) ?_ F _ ⟨0,rfl,om,om,hn,si⟩ bp;rintro⟨ii,ns⟩ ⟨k,h0,h1,h2,h3,h4⟩;dsimp only at h0 h2 h3 h4⊢;subst h0;by_cases hk:k<(cE path).length
   ·have hg:(cE path).getD k []=(cE path)[k]:=gd hk
    rw[ua hk]at h4;simp only[cC (show(k:Int)<((cE path).length:Int) by omega),bZ (show 0<=(k:Int) by omega) (show(k:Int)<((cE path).length:Int) by omega),b9,hg,aH,aD];generalize(cE path)[k]=c at h4;rw[Xy]at h4
    cases h5:(c==[]||c==[46])with
    | true=>
     left;rw[h5,aY]at h4;refine⟨(((k+1:Nat):Int),ns),⟨k+1,rfl,om,by dsimp only;omega,h3,h4⟩,bp,λrc=>?_⟩;rw[show(cond (c==[]) (WF,ns) (c==[46],ns))=((c==[]||c==[46]),ns) by cases (c==[])<;>rfl,h5];dsimp only
     rw[aY,cy om]
    | false=>
     rw[h5,aM]at h4;simp only[show(cond (c==[]) (WF,ns) (c==[46],ns))=(UV,ns) by rw[<-h5];cases (c==[])<;>rfl,aM]
     cases h6:(c==[46,46])with
     | true=>
      left;rw[h6,aY]at h4;refine⟨(((k+1:Nat):Int),ns.dropLast),⟨k+1,rfl,om,bp,h3.dropLast,h4⟩,bp,λrc=>?_⟩
      rw[aY,cq (acM ns om),dropLast_take ns om,cy om]
     | false=>
      rw[h6,aM]at h4;simp only[aM,adS F c om,aD]
      cases h7:ou c with
      | true=>
       left;rw[h7,aY]at h4;refine⟨(((k+1:Nat):Int),ns++[c]),⟨k+1,rfl,om,bp,h3.snoc h7,h4⟩,bp,λrc=>?_⟩
       rw[aY,bZ bp bp,cy om]
      | false=>
       right;rw[h7,aM]at h4;intro rc;rw[aM,<-h4];rfl
   ·obtain rfl:k=(cE path).length:=om
    right;intro rc;rw[KZ,Xy]at h4;have hj:=join_le ns h3
    first
    | rw[cf om,zB,join_eq,bZ om om,aD,mW bp,<-h4]
    | rw[cf om,AP,zB,join_eq,bZ om om,aD,aD,mW bp,<-h4]
    show W0 (cond (T1 (128<(((pathOf ns).length:Nat):Int))) ([],3) (pathOf ns,0))=_;rw[show T1 (128<(((pathOf ns).length:Nat):Int))=T1 (128<(pathOf ns).length)from ajT _ 128];rfl
def Rh(l:J bF):Prop:=l.Pairwise λx y=>x.cj<y.cj
structure VL(l:List bF):Prop where
 len:l.length<=128
 pos:0<l.length
 root:(l.getD 0 b8).cj=[47]
 path:∀f∈l,nI f.cj=WF
 dir:∀f∈l,f.oO=WF->f.fData=[]
 aoD:∀f∈l,f.cj=[47]->f.oO=WF
 data:∀f∈l,f.fData.length<=8192
 asc:Rh l
 ar3:∀k,0<k->k<l.length->P9 (l.take k) (l.getD k b8).cj=0
theorem aad(l:J bF):∀(n k:Nat),Xx l n k=0↔∀j,k<=j->j<k+n->Mu l j=0
 | 0,k=>⟨λ_ j h h'=>om,λ_=>rfl⟩
 | n+1,k=>by
  rw[Xx]
  cases h:(Mu l k==0)with
  | true=>
   rw[aY,aad l n (k+1)];constructor
   ·intro h1 j h2 h3
    by_cases e:j=k
    ·subst e;simpa using h
    ·exact h1 j om om
   ·intro h1 j h2 h3
    exact h1 j om om
  | false=>
   rw[aM];constructor
   ·intro h1;rw[h1]at h;cases h
   ·intro h1
    have:=h1 k om om;rw[this]at h;cases h
theorem TM:∀ {l:J bF},(∀k,0<k->k<l.length->(l.getD (k-1) b8).cj<(l.getD k b8).cj)->Rh l
 | [],_=>List.Pairwise.nil
 | [x],_=>aeP _ _
 | x::y::l,h=>by
  have ih:Rh (y::l):=TM λk h1 h2=>by
   have:=h (k+1) om (by simpa using h2);rw[show k+1-1=(k-1)+1 by omega]at this;simpa using this
  have hxy:x.cj<y.cj:=by
   have:=h 1 om si;simpa using this
  refine yE.2 ⟨λz hz=>?_,ih⟩;rcases iy.1 hz with rfl|hz
  ·exact hxy
  ·exact rB hxy ((yE.1 ih).1 z hz)
theorem amM{l:J bF}(h:Rh l)(i j:Nat)(hij:i<j)(hj:j<l.length):(l.getD i b8).cj<(l.getD j b8).cj:=by
 rw[gd (show i<l.length by omega),gd hj];exact aeJ.1 h i j om hj hij
theorem ajW(l:J bF)(k:Nat):Mu l k=0↔nI (l.getD k b8).cj=WF/\((l.getD k b8).oO=WF->(l.getD k b8).fData=[])/\((l.getD k b8).cj=[47]->(l.getD k b8).oO=WF) /\
  (l.getD k b8).fData.length<=8192/\(0<k->(l.getD (k-1) b8).cj<(l.getD k b8).cj)/\(0<k->P9 (l.take k) (l.getD k b8).cj=0):=by
 unfold Mu;generalize l.getD k b8=f;generalize l.getD (k-1) b8=g
 cases h1:nI f.cj with
 | false=>simp
 | true=>
  cases h2:((f.oO && !(f.fData==[]))||(f.cj==[47] && !f.oO))with
  | true=>
   grind
  | false=>
   have h3:f.oO=WF->f.fData=[]:=λh=>by
    simp_all
   have h4:f.cj=[47]->f.oO=WF:=λh=>by
    simp_all
   by_cases h5:8192<f.fData.length
   ·grind
   ·rw[cf h5]
    by_cases h6:0<k
    ·rw[<-aqA g.cj f.cj]
     cases h7:Op.bytesLess g.cj f.cj with
     | true=>
      simp_all[K8,jd,aM]
     | false=>
      have:=(DG _ _).1 h7
      grind
    simp_all
theorem ahB(l:J bF):iA l=0↔VL l:=by
 unfold iA;by_cases h1:128<l.length
 ·rw[cC h1]
  exact⟨λh=>(by cases h),λh=>by have:=h.len;omega⟩
 ·rw[cf h1]
  cases h2:(l.length==0 || !((l.getD 0 b8).cj==[47]))with
  | true=>
   refine⟨λh=>(by cases h),λh=>?_⟩;have a:=h.pos;have b:=h.root
   simp_all
  | false=>
   rw[aM];simp only[Nv,gH,Bool.not_eq_false',p7]at h2;rw[aad];simp only[ajW];constructor
   ·intro h
    have hm:∀f∈l,∃k,k<l.length/\l.getD k b8=f:=λf hf=>by
     grind[List.getElem_of_mem,gd]
    refine⟨om,om,h2.2,?_,?_,?_,?_,TM λk h3 h4=>(h k om om).2.2.2.2.1 h3,λk h3 h4=>(h k om om).2.2.2.2.2 h3⟩
    ·grind
    ·grind
    ·grind
    grind
   ·intro h j hj hj'
    have hj':j<l.length:=om;have hm:l.getD j b8∈l:=by simp_all
    exact⟨h.path _ hm,h.dir _ hm,h.aoD _ hm,h.data _ hm,λh0=>amM h.asc (j-1) j om hj',λh0=>h.ar3 j h0 hj'⟩
def rC(s:Bs):Bs:=s.drop (vn s+1)
def ar4(p:Bs)(f:bF):Bool:=!(f.cj==[47])&&qV f.cj==p
def aqB(l:J bF)(p:Bs):J Bs:=(l.filter (ar4 p)).map λf=>rC f.cj
end Go.Proofs.YtkmlndnhiboofaaGreatDoor

namespace Go.Proofs.YtkmlndnhiboofaaGreatDoor
open Go.RT
theorem Sn(s:Bs):cu (cV s)=s:=by
 unfold cu cV;rw[yD];have:((λn=>UInt8.ofNat n.toNat) ∘ λb=>(b.toNat:Int))=id:=by funext b;simp
 rw[this,R8]
def zV(c:Int):Bool:=c != 0&&(c != 1&&c != 2)
def NZ(r:aB):J fM:=cond (zV r.aL) [] (r.fText.map λb=>fM.mk (b.toNat:Int) (r.aL != 1))
def nS(r:aB):J fq:=cond (zV r.aL) [] (r.fText.map λb=>fq.mk (b.toNat:Int) (r.aL != 1))
theorem adT(r:aB):(NZ r).length<=r.fText.length:=by unfold NZ;grind
theorem Qa(r:aB):(nS r).length<=r.fText.length:=by unfold nS;grind
theorem GH{α:Type}(f:aB->J α)(hf:∀r,(f r).length<=r.fText.length):∀l:J aB,(l.flatMap f).length<=bX l
 | []=>by simp
 | r::l=>by
  have:=GH f hf l;have:=hf r;simp[R9,bX]at *;omega
theorem Qb{l:J aB}{r:aB}(h:r∈l):r.fText.length<=bX l:=by
 induction l with
 | nil=>cases h
 | cons a l ih=>
  rcases iy.1 h with rfl|h
  ·simp[bX]
  ·have:=ih h
   simp[bX]at *;omega
theorem N0{α:Type}(f:aB->J α)(l:J aB)(k:Nat)(h:k<l.length):(l.take (k+1)).flatMap f=(l.take k).flatMap f++f l[k]:=by
 grind[List.take_succ_eq_append_getElem]
theorem aae(c:Int):(cond (c != 0) (W0 (c != 1)) (W0 UV):O Bool)=W0 (c != 0&&c != 1):=by cases (c != 0)<;>rfl
theorem VV(c:Int):cond (c != 0&&c != 1) (c != 2) UV=zV c:=by unfold zV;grind
theorem Ri(F:Nat)(l:J aB)(hF:l.length<F)(rD:bX l<F)(h1:l.length<1000000000)(h2:bX l<=1000000000):CB F l=W0 (l.flatMap NZ):=by
 refine cG (λx=>∃k:Nat,x.2=(k:Int)/\k<=l.length/\x.1=(l.take k).flatMap NZ) (λx=>l.length-x.2.toNat) ?_ F _ ⟨0,rfl,om,si⟩ bp;rintro⟨acc,ii⟩ ⟨k,h0,hk,ha⟩;subst h0;by_cases hk:k<l.length
 ·left
  have hg:l.getD k dw=l[k]:=gd hk;have hal:acc.length<=bX (l.take k):=by grind[GH,adT]
  have hs:=qS l k hk;have hle:=uW l (k+1);refine⟨((l.take (k+1)).flatMap NZ,((k+1:Nat):Int)),⟨k+1,rfl,om,rfl⟩,bp,λrc=>?_⟩;rw[cC om,bR hk,bR hk,b9,hg,aae,aD,cy om,N0 _ _ _ hk,<-ha,bR hk,aH,aD,VV];unfold NZ
  cases hc:zV l[k].aL with
  | true=>simp_all
  | false=>
   rw[aM,aM];refine cG (λx=>∃j:Nat,x.2=(j:Int)/\j<=l[k].fText.length/\x.1=acc++(l[k].fText.take j).map λb=>fM.mk (b.toNat:Int) (l[k].aL != 1)) (λx=>l[k].fText.length-x.2.toNat) ?_ F _ ⟨0,rfl,om,si⟩ bp;rintro⟨a2,jj⟩ ⟨j,h0,hj,hb⟩;dsimp only at h0 hb⊢;subst h0;by_cases hj:j<l[k].fText.length
   ·left
    refine⟨(acc++(l[k].fText.take (j+1)).map λb=>fM.mk (b.toNat:Int) (l[k].aL != 1),((j+1:Nat):Int)),⟨j+1,rfl,om,rfl⟩,bp,λbA=>?_⟩;have hg2:l[k].fText.getD j 0=l[k].fText[j]:=gd hj;have GJ:a2.length<=acc.length+j:=by rw[hb];simp;omega
    simp only[bR hk];rw[cC om];simp only[bR hj];rw[b9,hg2,cy om,ez bp om,mh hj,vj,<-vM,<-hb];rfl
   ·right
    obtain rfl:j=l[k].fText.length:=om;intro bA;rw[bR hk,cf om,hb,vQ]
 grind
theorem K9(F:Nat)(l:J aB)(hF:l.length<F)(rD:bX l<F)(h1:l.length<1000000000)(h2:bX l<=1000000000):Ep F l=W0 (l.flatMap nS):=by
 refine cG (λx=>∃k:Nat,x.2=(k:Int)/\k<=l.length/\x.1=(l.take k).flatMap nS) (λx=>l.length-x.2.toNat) ?_ F _ ⟨0,rfl,om,si⟩ bp;rintro⟨acc,ii⟩ ⟨k,h0,hk,ha⟩;subst h0;by_cases hk:k<l.length
 ·left
  have hg:l.getD k dw=l[k]:=gd hk;have hal:acc.length<=bX (l.take k):=by grind[GH,Qa]
  have hs:=qS l k hk;have hle:=uW l (k+1);refine⟨((l.take (k+1)).flatMap nS,((k+1:Nat):Int)),⟨k+1,rfl,om,rfl⟩,bp,λrc=>?_⟩;rw[cC om,bR hk,b9,hg,aae,aD,cy om,N0 _ _ _ hk,<-ha,aH,VV];unfold nS
  cases hc:zV l[k].aL with
  | true=>simp_all
  | false=>
   refine cG (λx=>∃j:Nat,x.2=(j:Int)/\j<=l[k].fText.length/\x.1=acc++(l[k].fText.take j).map λb=>fq.mk (b.toNat:Int) (l[k].aL != 1)) (λx=>l[k].fText.length-x.2.toNat) ?_ F _ ⟨0,rfl,om,si⟩ bp;rintro⟨a2,jj⟩ ⟨j,h0,hj,hb⟩;dsimp only at h0 hb⊢;subst h0;by_cases hj:j<l[k].fText.length
   ·left
    refine⟨(acc++(l[k].fText.take (j+1)).map λb=>fq.mk (b.toNat:Int) (l[k].aL != 1),((j+1:Nat):Int)),⟨j+1,rfl,om,rfl⟩,bp,λbA=>?_⟩;have hg2:l[k].fText.getD j 0=l[k].fText[j]:=gd hj;have GJ:a2.length<=acc.length+j:=by rw[hb];simp;omega
    rw[cC om];simp only[bR hj];rw[b9,hg2,cy om,ez bp om,mh hj,vj,<-vM,<-hb];rfl
   grind
 grind
def DH(x:J fM)(i:Nat)(b:Int):Bool:=T1 (i<x.length)&&((x.getD i je).lN&&(x.getD i je).fb==b)
theorem jA(F:Nat)(x:J fM)(i:Nat)(b:Int):oP F x (i:Int) b=W0 (DH x i b):=by
 unfold oP DH wx;by_cases h:i<x.length
 ·rw[cC om,bR h,aD,bR h,aH]
  simp_all
 grind
def eF(x:J fq)(i:Nat)(b:Int):Bool:=T1 (i<x.length)&&((x.getD i cN).lN&&(x.getD i cN).fb==b)
theorem hU(F:Nat)(x:J fq)(i:Nat)(b:Int):fH F x (i:Int) b=W0 (eF x i b):=by
 unfold fH eF wx;by_cases h:i<x.length
 ·rw[cC om,bR h,aD]
  congr 1
  grind
 grind
set_option maxRecDepth 100000
theorem iQ{σ R:Type}{body:(σ->O R)->σ->O R}(Q:R->Prop)(P:σ->Prop)(m:σ->Nat)
  (hs:∀s,P s->∀rc,(∀s',P s'->m s'<m s->∃r,Q r/\rc s'=W0 r)->∃r,Q r/\body rc s=W0 r):∀(F:Nat)(s:σ),P s->m s<F->∃r,Q r/\bW body F s=W0 r
 | 0,s,_,h=>by omega
 | F+1,s,hP,h=>hs s hP (bW body F) λs' h1 h2=>iQ Q P m hs F s' h1 om
def Sp(x:J fq):Prop:=∀e∈x,0<=e.fb/\e.fb<=255
theorem aaf(l:J aB):Sp (l.flatMap nS):=by
 intro e he;obtain⟨r,-,he⟩:=Th.1 he;unfold nS at he;cases hc:zV r.aL<;>rw[hc]at he
 ·obtain⟨b,-,rfl⟩:=oK.1 he
  have:=b.toNat_lt;dsimp only;omega
 ·cases he
variable{x:J fq}{i:Nat}
theorem Sp.at(h:Sp x)(hi:i<x.length):0<=(x.getD i cN).fb/\(x.getD i cN).fb<=255:=by
 rw[gd hi];exact h _ (iJ hi)
def CC(e:fq):Bool:=e.lN&&(T1 (97<=e.fb)&&T1 (e.fb<=122))
def j9(x:J fq)(i:Nat):J Int:=((x.drop i).takeWhile CC).map λe=>e.fb
def isName(n:Bs):Bool:=n==[97,108,112,104,97]||(n==[100,105,103,105,116]||(n==[97,108,110,117,109]||(n==[117,112,112,101,114]||(n==[108,111,119,101,114]||(n==[115,112,97,99,101]||(n==[98,108,97,110,107]||n==[112,117,110,99,116]))))))
def yT(x:J fq)(i:Nat):Bs×Int×Bool:=
 cond ((eF x i 91&&eF x (i+1) 58)&&((eF x (i+2+(j9 x (i+2)).length) 58&&eF x (i+2+(j9 x (i+2)).length+1) 93)&&isName (cu (j9 x (i+2)))))
  (cu (j9 x (i+2)),((i+2+(j9 x (i+2)).length+2:Nat):Int),WF) ([],0,UV)
theorem aoE(x:J fq)(i:Nat):(j9 x i).length<=x.length-i:=by
 unfold j9
 grind[List.length_map,List.takeWhile_sublist,List.length_drop]
theorem al0{p:fq->Bool}:∀(l:J fq)(k:Nat)(h:k<(l.takeWhile p).length),∃hk:k<l.length,(l.takeWhile p)[k]=l[k]/\p l[k]=WF
 | [],k,h=>by simp at h
 | a::l,k,h=>by
  cases hp:p a with
  | false=>simp[hp]at h
  | true=>
   cases k with
   | zero=>exact⟨si,by simp[hp],by simpa using hp⟩
   | succ k=>
    have h':k<(l.takeWhile p).length:=by simpa[hp]using h
    obtain⟨h1,h2,h3⟩:=al0 l k h';exact⟨by simpa using h1,by simp[hp,h2],by simpa using h3⟩
theorem ahC{p:fq->Bool}:∀(l:J fq)(h:(l.takeWhile p).length<l.length),p l[(l.takeWhile p).length]=UV
 | [],h=>by simp at h
 | a::l,h=>by
  cases hp:p a with
  | false=>simp[hp]
  | true=>
   have h':(l.takeWhile p).length<l.length:=by simpa[hp]using h
   have:=ahC l h';simpa[hp]using this
theorem ahD(x:J fq)(i k:Nat)(h:k<(j9 x i).length):i+k<x.length/\(j9 x i).getD k 0=(x.getD (i+k) cN).fb/\CC (x.getD (i+k) cN)=WF:=by
 unfold j9 at h⊢;rw[mg]at h;obtain⟨h1,h2,h3⟩:=al0 (x.drop i) k h
 grind
theorem amN(x:J fq)(i:Nat)(h:i+(j9 x i).length<x.length):CC (x.getD (i+(j9 x i).length) cN)=UV:=by
 unfold j9 at h⊢;rw[mg]at h⊢;have:=ahC (p:=CC) (x.drop i) (by grind)
 simp_all
theorem La(a b:Bool)(x:O Bool)(hb:x=W0 b):cond a (W0 a) x=W0 (a||b):=by subst hb;cases a<;>rfl
theorem Sq(F:Nat)(x:J fq)(i:Nat)(hF:x.length+10<F)(hx:x.length<500000000):zC F x (i:Int)=W0 (yT x i)\/500000000<=i:=by
 by_cases hi:500000000<=i
 ·exact .inr hi
 left;unfold zC yT wx;rw[hU,aD,show aC ((i:Int)+1)=((i+1:Nat):Int)from cy om,hU]
 cases h1:eF x i 91 with
 | false=>rfl
 | true=>
  cases h2:eF x (i+1) 58 with
  | false=>rfl
  | true=>
   have AQ:aC ((i:Int)+2)=((i+2:Nat):Int):=by grind[bN]
   rw[AQ];have hrl:=aoE x (i+2);generalize hr:j9 x (i+2)=r at hrl;have hat:=ahD x (i+2);have hend:=amN x (i+2);rw[hr]at hat hend;refine cG (λs:Int×J Int=>∃k:Nat,s.1=((i+2+k:Nat):Int)/\k<=r.length/\s.2=r.take k) (λs=>(i+2+r.length)-s.1.toNat) ?_ F _ ⟨0,rfl,om,si⟩ bp;rintro⟨ii,nm⟩ ⟨k,h0,hk,hn⟩;dsimp only at h0 hn⊢;subst h0;by_cases hk:k<r.length
   ·left
    obtain⟨g1,g2,g3⟩:=hat k hk;have hnl:nm.length=k:=by simp_all
    refine⟨(((i+2+(k+1):Nat):Int),r.take (k+1)),⟨k+1,rfl,om,rfl⟩,bp,λrc=>?_⟩;unfold CC at g3;simp only[cH]at g3;obtain⟨g3,g4,g5⟩:=g3;rw[cC om,bR g1,b9,g3,aD,aY,bR g1,g4,aD,aY,bR g1,g5,aD,aY,bR g1,ez bp om,cy om,<-g2,gd hk,mh hk,<-hn];rfl
   ·right
    obtain rfl:k=r.length:=om;intro rc;rw[vQ]at hn;subst hn
    have e1:(((cond (T1 (((i+2+nm.length:Nat):Int)<(x.length:Int))) (rq (T1 (0<=((i+2+nm.length:Nat):Int))&&T1 (((i+2+nm.length:Nat):Int)<(x.length:Int))) (W0 (x.getD (Ts ((i+2+nm.length:Nat):Int)) cN).lN)) (W0 UV)):O Bool).bind λx6=>
      (cond x6 (rq (T1 (0<=((i+2+nm.length:Nat):Int))&&T1 (((i+2+nm.length:Nat):Int)<(x.length:Int))) (W0 (T1 (97<=(x.getD (Ts ((i+2+nm.length:Nat):Int)) cN).fb)))) (W0 UV):O Bool).bind λx7=>
      (cond x7 (rq (T1 (0<=((i+2+nm.length:Nat):Int))&&T1 (((i+2+nm.length:Nat):Int)<(x.length:Int))) (W0 (T1 ((x.getD (Ts ((i+2+nm.length:Nat):Int)) cN).fb<=122)))) (W0 UV):O Bool))=W0 UV:=by
     by_cases hl:i+2+nm.length<x.length
     ·have:=hend hl
      unfold CC at this;simp only[bR hl]
      grind
     grind
    have e2:∀ {β:Type}(A:O Bool)(B:Bool->O Bool)(C:Bool->O Bool)(k:Bool->O β),(A.bind λx6=>(B x6).bind λx7=>(C x7).bind k)=((A.bind λx6=>(B x6).bind λx7=>C x7)).bind k:=by
     grind
    rw[e2,e1,aD,aM,hU,aD,cy om,hU]
    cases eF x (i+2+nm.length) 58 with
    | false=>rfl
    | true=>
     cases eF x (i+2+nm.length+1) 93 with
     | false=>rfl
     | true=>
      simp only[jd,aM,aD,vR,Jq];rw[La _ _ _ (La _ _ _ (La _ _ _ (La _ _ _ (La _ _ _ (La _ _ _ (La _ _ _ rfl)))))),aD];have Xz:aC (((i+2+nm.length:Nat):Int)+2)=((i+2+nm.length+2:Nat):Int):=by rw[bN om];omega
      rw[Xz,aH];rfl
variable{b:Int}
theorem ahE(h:eF x i b=WF):i<x.length:=by
 unfold eF at h
 simp_all
theorem afm(F:Nat)(n:Bs)(c:Int):∃b,nq F n c=W0 b:=by
 unfold nq wx
 simp_all[aH,aD]
theorem afn(F:Nat)(x:J fq)(i:Nat)(set:J Bool)(hF:x.length+1000<F)(hx:x.length<500000000)(hc:Sp x)(hi:i<x.length)(hs:set.length=256):
  ∃r:Int×J Bool,(∃e:Nat,r.1=(e:Int)/\i<e/\e<=x.length/\r.2.length=256)/\lP F x (i:Int) set=W0 r:=by
 unfold lP wx;obtain hcl|hcl:=Sq F x i om hx
 rotate_left
 ·omega
 rw[hcl,aD]
 cases h1:(yT x i).2.2 with
 | true=>
  rw[aY];unfold yT at h1⊢
  cases h2:((eF x i 91&&eF x (i+1) 58)&&((eF x (i+2+(j9 x (i+2)).length) 58&&eF x (i+2+(j9 x (i+2)).length+1) 93)&&isName (cu (j9 x (i+2)))))with
  | false=>rw[h2]at h1;cases h1
  | true=>
   rw[aY];simp only[cH]at h2;have h3:=ahE h2.2.1.2;refine iQ _ (λs:Int×J Bool=>∃k:Nat,s.1=(k:Int)/\k<=256/\s.2.length=256) (λs=>256-s.1.toNat) ?_ F _ ⟨0,rfl,om,hs⟩ bp;rintro⟨ii,st⟩ ⟨k,h0,hk,hl⟩ rc hrc;dsimp only at h0 hl⊢;subst h0;by_cases hk:k<256
   ·obtain⟨b,hb⟩:=afm F (cu (j9 x (i+2))) (k:Int)
    rw[cC om,hb,aD,cy om]
    cases b with
    | false=>exact hrc _ ⟨k+1,rfl,om,hl⟩ bp
    | true=>
     rw[aY,vV om om om];exact hrc _ ⟨k+1,rfl,om,by simpa using hl⟩ bp
   ·rw[cf om]
    exact⟨_,⟨_,rfl,om,om,hl⟩,rfl⟩
 | false=>
  have hw1:aC ((i:Int)+1)=((i+1:Nat):Int):=cy om;have AQ:aC ((i:Int)+2)=((i+2:Nat):Int):=by grind[bN]
  have Xz:aC ((i:Int)+3)=((i+3:Nat):Int):=by grind[bN]
  rw[aM,hw1,AQ,Xz,hU,aD,hU,aH,aD];have e1:cond (eF x (i+1) 45) (T1 (((i+2:Nat):Int)<(x.length:Int)),set) (UV,set)=((eF x (i+1) 45&&T1 (((i+2:Nat):Int)<(x.length:Int))),set):=by grind
  rw[e1];dsimp only;rw[aD,aH,aD];have e2:∀a b:Bool,cond a (b,set) (UV,set)=((a&&b),set):=by simp_all
  rw[e2];dsimp only;have hb:=hc.at hi
  cases h4:((eF x (i+1) 45&&T1 (((i+2:Nat):Int)<(x.length:Int))) && !eF x (i+2) 93)with
  | false=>
   rw[aM,bR hi,b9,vV om om om]
   exact⟨_,⟨_,rfl,om,om,by simpa using hs⟩,rfl⟩
  | true=>
   simp only[cH,eT]at h4;have h5:i+2<x.length:=om;have nP:=hc.at h5;rw[aY,bR hi,b9,b9,bN (x:=(x.getD i cN).fb) om,bN (x:=(x.getD (i+2) cN).fb) om];generalize(x.getD (i+2) cN).fb=hi2 at nP;refine iQ _ (λs:Int×J Bool=>0<=s.1/\s.1<=256/\s.2.length=256) (λs=>256-s.1.toNat) ?_ F _ ⟨hb.1,om,hs⟩ bp;rintro⟨ii,st⟩ ⟨h6,h7,hl⟩ rc hrc;dsimp only at h6 h7 hl⊢;rw[bR h5];by_cases hle:ii<=hi2
   ·rw[cC hle,vV om om om,bN om]
    exact hrc _ ⟨by dsimp only;omega,by dsimp only;omega,by simpa using hl⟩ (by dsimp only;omega)
   ·rw[cf hle]
    exact⟨_,⟨_,rfl,om,om,hl⟩,rfl⟩
theorem ahF(F:Nat)(set:J Bool)(hF:1000<F)(hs:set.length=256):∃l:J ck,l.length<=256/\qW F set=W0 l:=by
 unfold qW wx;rw[cq (by rw[hs];rfl)];refine iQ _ (λs=>∃k:Nat,s.2.1=(k:Int)/\k<=256/\s.1.length<=k/\s.2.2.length=256) (λs=>256-s.2.1.toNat) ?_ F _ ⟨0,rfl,om,si,hs⟩ bp;rintro⟨acc,ii,st⟩ ⟨k,h0,hk,ha,hl⟩ rc hrc;dsimp only at h0 ha hl⊢;subst h0;by_cases hk:k<256
 ·rw[cC om,vV om om om,cy om]
  cases hb:(!(st.getD (Ts (k:Int)) UV))with
  | true=>exact hrc _ ⟨k+1,rfl,om,by dsimp only;omega,hl⟩ bp
  | false=>
   refine iQ _ (λs=>∃j:Nat,s.1=(j:Int)/\k<=j/\j<=255/\s.2.length=256) (λs=>256-s.1.toNat) ?_ F _ ⟨k,rfl,om,om,hl⟩ bp;rintro⟨jj,Il⟩ ⟨j,h0,hkj,hj,hl2⟩ bA ar5;subst h0
   have hend:∀st3:J Bool,st3.length=256->∃r:J ck,r.length<=256/\rq ((T1 (acc.length+([(ck.mk (Sx .u8 (k:Int)) (Sx .u8 (j:Int)))]:J ck).length<=9223372036854775807))&&(T1 ((acc.length+([(ck.mk (Sx .u8 (k:Int)) (Sx .u8 (j:Int)))]:J ck).length)*2<=140737488355328))) (rc (acc++([(ck.mk (Sx .u8 (k:Int)) (Sx .u8 (j:Int)))]:J ck),aC ((j:Int)+1),st3))=W0 r:=by
    intro st3 h3;rw[ez bp om,cy om];exact hrc _ ⟨j+1,rfl,om,bp,h3⟩ bp
   by_cases hj2:j<255
   ·rw[cC om,cy om,vV om om om]
    cases Il.getD (Ts ((j+1:Nat):Int)) UV with
    | true=>exact ar5 _ ⟨j+1,rfl,om,om,hl2⟩ bp
    | false=>
     grind[cy]
   grind
 grind
def nr(p:aE):Prop:=(p.fKind=1->0<p.fText.length)/\p.fText.length<=10/\p.cY.length<=256
theorem Rj(F:Nat)(x:J fq)(i:Nat)(hF:x.length+1000<F)(hx:x.length<50000000)(hc:Sp x)(hi:i<x.length):
  ∃r:aE×Int×Bool,(r.2.2=WF->nr r.1/\∃e:Nat,r.2.1=(e:Int)/\i<e/\e<=x.length)/\ox F x (i:Int)=W0 r:=by
 unfold ox wx;have hw1:aC ((i:Int)+1)=((i+1:Nat):Int):=cy om;rw[hw1,hU,aD,hU,aD,aH,aD,cy om,aH]
 obtain⟨s0,hs0,hs1,hs2⟩:∃s0:Nat,cond (cond (eF x (i+1) 33) WF (eF x (i+1) 94)) (((i+1+1:Nat):Int)) ((i+1:Nat):Int)=(s0:Int)/\i<s0/\s0<=i+2:=by
  cases (cond (eF x (i+1) 33) WF (eF x (i+1) 94))
  ·exact⟨i+1,rfl,om,om⟩
  ·exact⟨i+2,rfl,om,om⟩
 rw[hs0];refine iQ _ (λs=>∃k:Nat,s.1=(k:Int)/\i<k/\k<=x.length+2/\s.2.2.length=256) (λs=>x.length+2-s.1.toNat) ?_ F _ ⟨s0,rfl,hs1,om,si⟩ bp;rintro⟨ii,fi,st⟩ ⟨k,h0,hk,hk2,hl⟩ rc hrc;subst h0;by_cases yU:k<x.length
 ·rw[cC om,hU,aD,aH,aD]
  have e2:cond (eF x k 93) (!fi,st) (UV,st)=((eF x k 93 && !fi),st):=by cases eF x k 93<;>rfl
  rw[e2]
  cases (eF x k 93 && !fi)with
  | true=>
   obtain⟨l,h1,h2⟩:=ahF F st om hl;rw[cq (by rw[hl];rfl),h2,cy om]
   exact⟨_,λ_=>⟨⟨(λh=>absurd h (show ¬ ((4:Int)=1) by decide)),si,h1⟩,k+1,rfl,om,om⟩,rfl⟩
  | false=>
   obtain⟨r,⟨e,h1,h2,h3,h4⟩,h5⟩:=afn F x k st om om hc yU hl;rw[h5];exact hrc _ ⟨e,h1,om,om,h4⟩ (by grind)
 simp_all[cf]
theorem acN(F:Nat)(l:J aB)(hF:l.length<F)(rD:bX l+1000<F)(h1:l.length<1000000000)(h2:bX l<=40000000):∃p:J aE,((∀it∈p,nr it)/\p.length<=bX l)/\iB F l=W0 p:=by
 unfold iB wx;rw[K9 F l hF om h1 om];have hx:(l.flatMap nS).length<=bX l:=GH _ Qa _;have hc:=aaf l;generalize(l.flatMap nS)=x at hx hc;refine iQ _ (λs=>∃k:Nat,s.2=(k:Int)/\k<=x.length/\s.1.length<=k/\∀it∈s.1,nr it) (λs=>x.length-s.2.toNat) ?_ F _ ⟨0,rfl,om,si,λit h=>by cases h⟩ bp;rintro⟨acc,ii⟩ ⟨k,h0,hk,ha,hit⟩ rc hrc;dsimp only at h0 ha hit⊢;subst h0
 have Lb:∀(it:aE)(e:Nat),nr it->k<e->e<=x.length->∃p:J aE,((∀it∈p,nr it)/\p.length<=bX l)/\rc (acc++[it],(e:Int))=W0 p:=by
  intro it e h3 h4 h5;refine hrc _ ⟨e,rfl,h5,bp,λy hy=>?_⟩ bp
  grind
 by_cases yU:k<x.length
 ·rw[cC om]
  have fB:∃p:J aE,((∀it∈p,nr it)/\p.length<=bX l)/\((fH F x (k:Int) 42).bind λx7=>
    cond x7
    (rq ((T1 (acc.length+([(aE.mk 3 [] UV [])]:J aE).length<=9223372036854775807))&&(T1 ((acc.length+([(aE.mk 3 [] UV [])]:J aE).length)*56<=140737488355328))) (rc (acc++([(aE.mk 3 [] UV [])]:J aE),aC ((k:Int)+1))))
    ((fH F x (k:Int) 63).bind λx8=>
    cond x8
    (rq ((T1 (acc.length+([(aE.mk 2 [] UV [])]:J aE).length<=9223372036854775807))&&(T1 ((acc.length+([(aE.mk 2 [] UV [])]:J aE).length)*56<=140737488355328))) (rc (acc++([(aE.mk 2 [] UV [])]:J aE),aC ((k:Int)+1))))
    (rq ((T1 (0<=(k:Int)))&&(T1 ((k:Int)<(x.length:Int)))) (rq ((T1 (acc.length+([(aE.mk 1 (cu ([(x.getD (Ts (k:Int)) cN).fb]:J Int)) UV [])]:J aE).length<=9223372036854775807))&&(T1 ((acc.length+([(aE.mk 1 (cu ([(x.getD (Ts (k:Int)) cN).fb]:J Int)) UV [])]:J aE).length)*56<=140737488355328))) (rc (acc++([(aE.mk 1 (cu ([(x.getD (Ts (k:Int)) cN).fb]:J Int)) UV [])]:J aE),aC ((k:Int)+1)))))))=W0 p:=by
   rw[hU,hU,ez bp om,ez bp om,bR yU,ez bp om,cy om]
   cases eF x k 42 with
   | true=>exact Lb _ _ ⟨(λh=>absurd h de),si,si⟩ om om
   | false=>
    cases eF x k 63 with
    | true=>exact Lb _ _ ⟨(λh=>absurd h de),si,si⟩ om om
    | false=>exact Lb _ _ ⟨(λ_=>by simp[cu]),by simp[cu],si⟩ om om
  rw[hU,aD]
  cases eF x k 91 with
  | false=>exact fB
  | true=>
   obtain⟨r,h3,h4⟩:=Rj F x k om om hc yU;rw[h4,aD]
   cases h5:r.2.2 with
   | false=>exact fB
   | true=>
    obtain⟨g1,e,g2,g3,g4⟩:=h3 h5;rw[ez bp om,g2];obtain⟨p,hp,hq⟩:=Lb r.1 e g1 g3 g4;rw[hq];exact⟨p,hp,rfl⟩
 grind
theorem aoF{x:J fM}(h:DH x i b=WF):i<x.length:=by
 unfold DH at h
 simp_all
theorem ajX(F:Nat)(x:J fM)(i:Nat)(s:Bs)(hF:s.length<F)(hi:i<=x.length)(hx:x.length<500000000)(hs:s.length<500000000):∃b:Bool,(b=WF->i+s.length<=x.length)/\Fm F x (i:Int) s=W0 b:=by
 refine iQ _ (λk'=>∃k:Nat,k'=(k:Int)/\k<=s.length/\i+k<=x.length) (λk'=>s.length-k'.toNat) ?_ F _ ⟨0,rfl,om,om⟩ bp;rintro ii ⟨k,rfl,hk,hik⟩ rc hrc;by_cases hk:k<s.length
 ·have hw:aC ((i:Int)+(k:Int))=((i+k:Nat):Int):=by grind[bN]
  rw[cC om,bR hk,hw,jA,cy om]
  cases h:DH x (i+k) (((s.getD (Ts (k:Int)) 0).toNat:Int))with
  | false=>simp_all
  | true=>
   have:=aoF h;exact hrc _ ⟨k+1,rfl,om,om⟩ bp
 ·rw[cf om]
  grind
def CL:J mq:=(zD 0).getD []
theorem al1(F:Nat):zD F=W0 CL:=rfl
theorem TN:CL.length=8:=rfl
theorem afo:∀c∈CL,c.fname.length=5/\c.sS.length<=4:=by decide
theorem acO(F:Nat)(x:J fM)(i:Nat)(hF:100<F)(hi:i<x.length)(hx:x.length<50000000):∃r:J ck×Int,(∃e:Nat,r.2=(e:Int)/\i<e/\e<=x.length/\r.1.length<=4)/\qi F x (i:Int)=W0 r:=by
 unfold qi wx;rw[al1];refine iQ _ (λk'=>∃k:Nat,k'=(k:Int)/\k<=8) (λk'=>8-k'.toNat) ?_ F _ ⟨0,rfl,om⟩ bp;rintro ii ⟨k,rfl,hk⟩ rc hrc;have hw1:aC ((i:Int)+1)=((i+1:Nat):Int):=cy om;have AQ:aC ((i:Int)+2)=((i+2:Nat):Int):=by grind[bN]
 have Xz:aC ((i:Int)+3)=((i+3:Nat):Int):=by grind[bN]
 by_cases hk:k<CL.length
 ·have hm:=afo _ (iJ hk)
  rw[cC om,bR hk,b9,gd hk,cy om];generalize CL[k]=c at hm;rw[mW bp,mW bp];have hl:((([91,58]:Bs)++c.fname)++([58,93]:Bs)).length=9:=by simp;omega
  obtain⟨b,h1,h2⟩:=ajX F x i ((([91,58]:Bs)++c.fname)++([58,93]:Bs)) om om om om;rw[h2,aD];rw[hl]at h1⊢
  cases b with
  | true=>
   have:=h1 rfl;have hw:aC ((i:Int)+((9:Nat):Int))=((i+9:Nat):Int):=by grind[bN]
   rw[bR hk,hw]
   exact⟨_,⟨i+9,rfl,om,om,hm.2⟩,rfl⟩
  | false=>
   have h8:k<8:=by rw[<-TN];exact hk
   exact hrc _ ⟨k+1,rfl,om⟩ bp
 ·rw[cf om,bR hi,hw1,AQ,Xz,jA,aD,jA,aH,aD,aD,aH,aD]
  cases h4:cond (cond (DH x (i+1) 45) (T1 (((i+2:Nat):Int)<(x.length:Int))) UV) (!DH x (i+2) 93) UV with
  | false=>exact⟨_,⟨i+1,rfl,om,om,si⟩,rfl⟩
  | true=>
   have h5:i+2<x.length:=by
    grind
   rw[bR h5];cases T1 ((x.getD (Ts (i:Int)) je).fb<=(x.getD (Ts ((i+2:Nat):Int)) je).fb)
   ·exact⟨_,⟨i+3,rfl,om,om,si⟩,rfl⟩
   ·exact⟨_,⟨i+3,rfl,om,om,si⟩,rfl⟩
theorem amO(F:Nat)(l:J ck)(b:Int)(hF:l.length<F)(hl:l.length<500000000):∃r,wC F l b=W0 r:=by
 obtain⟨r,-,h⟩:∃r:Bool,True/\wC F l b=W0 r:=by
  refine iQ _ (λk'=>∃k:Nat,k'=(k:Int)/\k<=l.length) (λk'=>l.length-k'.toNat) ?_ F _ ⟨0,rfl,om⟩ bp;rintro ii ⟨k,rfl,hk⟩ rc hrc;by_cases hk:k<l.length
  ·rw[cC om,bR hk,bR hk,aH,cy om]
   cases cond (T1 ((l.getD (Ts (k:Int)) gE).qN<=b)) (T1 (b<=(l.getD (Ts (k:Int)) gE).kz)) UV with
   | true=>simp_all
   | false=>exact hrc _ ⟨k+1,rfl,om⟩ bp
  simp_all[cf,trivial]
 exact⟨r,h⟩
theorem ajY(F:Nat)(l:J ck)(hF:l.length+300<F)(hl:l.length<500000000):∃r:J ck,r.length<=256/\Im F l=W0 r:=by
 refine iQ _ (λs=>∃k:Nat,s.1=(k:Int)/\k<=256/\s.2.length<=k) (λs=>256-s.1.toNat) ?_ F _ ⟨0,rfl,om,si⟩ bp;rintro⟨ii,o⟩ ⟨k,h0,hk,ho⟩ rc hrc;dsimp only at h0 ho⊢;subst h0;by_cases hk:k<256
 ·obtain⟨b,hb⟩:=amO F l (Sx .u8 (k:Int)) om hl
  rw[cC om,hb,aD,cy om]
  cases b with
  | false=>exact hrc _ ⟨k+1,rfl,om,by dsimp only;omega⟩ bp
  | true=>
   by_cases h0:0<o.length
   ·have hw:=vm om h0
    rw[cC om,hw,bR om,aD];dsimp only
    cases (aC ((aC ((o.getD (Ts ((o.length-1:Nat):Int)) gE).kz))+1))==(k:Int)with
    | true=>
     rw[bR om]
     exact hrc _ ⟨k+1,rfl,om,bp⟩ bp
    | false=>
     rw[ez bp om];exact hrc _ ⟨k+1,rfl,om,bp⟩ bp
   ·rw[cf om,aD]
    rw[ez bp om];exact hrc _ ⟨k+1,rfl,om,bp⟩ bp
 grind
theorem aag(F:Nat)(x:J fM)(i:Nat)(hF:4*x.length+1000<F)(hx:x.length<40000000)(hi:i<x.length):
  ∃r:aE×Int×Bool,(r.2.2=WF->nr r.1/\∃e:Nat,r.2.1=(e:Int)/\i<e/\e<=x.length)/\qX F x (i:Int)=W0 r:=by
 unfold qX wx;have hw1:aC ((i:Int)+1)=((i+1:Nat):Int):=cy om;rw[hw1,jA,aD,jA,aD,aH,aD,cy om,aH,aD]
 have h0:∃y:Int×Int×Bs×Bool×J ck,cond (cond (DH x (i+1) 33) WF (DH x (i+1) 94)) (((i+1+1:Nat):Int),(aE.mk 4 [] UV []).fKind,(aE.mk 4 [] UV []).fText,WF,(aE.mk 4 [] UV []).cY) (((i+1:Nat):Int),(aE.mk 4 [] UV []).fKind,(aE.mk 4 [] UV []).fText,(aE.mk 4 [] UV []).CD,(aE.mk 4 [] UV []).cY)=y/\(∃s0:Nat,y.1=(s0:Int)/\i<s0/\s0<=i+2)/\y.2.1=4/\y.2.2.1=[]:=by
  cases (cond (DH x (i+1) 33) WF (DH x (i+1) 94))
  ·exact⟨_,rfl,⟨i+1,rfl,om,om⟩,rfl,rfl⟩
  ·exact⟨_,rfl,⟨i+2,rfl,om,om⟩,rfl,rfl⟩
 obtain⟨y,hy,⟨s0,hs0,hs1,hs2⟩,hy2,hy3⟩:=h0;rw[hy,hs0,hy2,hy3];refine iQ _ (λs=>∃k:Nat,s.1=(k:Int)/\i<k/\k<=x.length+2/\s.2.1.length<=4*k) (λs=>x.length+2-s.1.toNat) ?_ F _ ⟨s0,rfl,hs1,om,si⟩ bp;rintro⟨ii,sp,fi⟩ ⟨k,h0,hk,hk2,hl⟩ rc hrc;dsimp only at h0 hl⊢;subst h0;rw[jA,aD,aH,aH,aD];by_cases yU:k<x.length
 ·rw[cC (show(k:Int)<(x.length:Int) by omega)]
  cases (cond fi WF (!DH x k 93))with
  | true=>
   obtain⟨r,⟨e,h1,h2,h3,h4⟩,h5⟩:=acO F x k om yU om;rw[h5,aD,ez om om]
   exact hrc _ ⟨e,h1,om,om,by grind⟩ (by grind)
  | false=>
   obtain⟨r,h1,h2⟩:=ajY F sp om om;rw[cf (show ¬ (x.length:Int)<=(k:Int) by omega),h2,cy om];exact⟨_,λ_=>⟨⟨(λh=>absurd h (show ¬ ((4:Int)=1) by decide)),si,h1⟩,k+1,rfl,om,om⟩,rfl⟩
 simp_all[cf,aM,cC]
theorem aah(F:Nat)(l:J aB)(hF:l.length<F)(rD:4*bX l+1000<F)(h1:l.length<1000000000)(h2:bX l<=20000000):∃p:J aE,((∀it∈p,nr it)/\p.length<=bX l)/\kj F l=W0 p:=by
 unfold kj wx;rw[Ri F l hF om h1 om];have hx:(l.flatMap NZ).length<=bX l:=GH _ adT _;generalize(l.flatMap NZ)=x at hx;refine iQ _ (λs=>∃k:Nat,s.2=(k:Int)/\k<=x.length/\s.1.length<=k/\∀it∈s.1,nr it) (λs=>x.length-s.2.toNat) ?_ F _ ⟨0,rfl,om,si,λit h=>by cases h⟩ bp;rintro⟨acc,ii⟩ ⟨k,h0,hk,ha,hit⟩ rc hrc;dsimp only at h0 ha hit⊢;subst h0
 have Lb:∀(it:aE)(e:Nat),nr it->k<e->e<=x.length->∃p:J aE,((∀it∈p,nr it)/\p.length<=bX l)/\rc (acc++[it],(e:Int))=W0 p:=by
  intro it e h3 h4 h5;refine hrc _ ⟨e,rfl,h5,bp,λy hy=>?_⟩ bp
  grind
 by_cases yU:k<x.length
 ·rw[cC om,jA,aD,jA,aD,ez bp om,ez bp om,cy om]
  cases DH x k 42 with
  | true=>exact Lb _ _ ⟨(λh=>absurd h (show ¬ ((3:Int)=1) by decide)),si,si⟩ om om
  | false=>
   cases DH x k 63 with
   | true=>exact Lb _ _ ⟨(λh=>absurd h (show ¬ ((2:Int)=1) by decide)),si,si⟩ om om
   | false=>
    rw[jA,aD]
    have fB:∃p:J aE,((∀it∈p,nr it)/\p.length<=bX l)/\(rq ((T1 (0<=(k:Int)))&&(T1 ((k:Int)<(x.length:Int)))) (rq ((T1 (acc.length+([(aE.mk 1 (cu ([(x.getD (Ts (k:Int)) je).fb]:J Int)) UV [])]:J aE).length<=9223372036854775807))&&(T1 ((acc.length+([(aE.mk 1 (cu ([(x.getD (Ts (k:Int)) je).fb]:J Int)) UV [])]:J aE).length)*56<=140737488355328))) (rc (acc++([(aE.mk 1 (cu ([(x.getD (Ts (k:Int)) je).fb]:J Int)) UV [])]:J aE),aC ((k:Int)+1)))))=W0 p:=by
     rw[bR yU,ez bp om,cy om];exact Lb _ _ ⟨(λ_=>by simp[cu]),by simp[cu],si⟩ om om
    cases DH x k 91 with
    | false=>exact fB
    | true=>
     obtain⟨r,h3,h4⟩:=aag F x k om om yU;rw[h4,aD]
     cases h5:r.2.2 with
     | false=>exact fB
     | true=>
      obtain⟨g1,e,g2,g3,g4⟩:=h3 h5;rw[ez bp om,g2];obtain⟨p,hp,hq⟩:=Lb r.1 e g1 g3 g4;rw[hq];exact⟨p,hp,rfl⟩
 grind
theorem CE(F:Nat)(l:J ck)(hF:l.length<F)(hl:l.length<500000000):∃r,oy F l=W0 r:=by
 obtain⟨r,-,h⟩:∃r:Bool,True/\oy F l=W0 r:=by
  refine iQ _ (λk'=>∃k:Nat,k'=(k:Int)/\k<=l.length) (λk'=>l.length-k'.toNat) ?_ F _ ⟨0,rfl,om⟩ bp;rintro ii ⟨k,rfl,hk⟩ rc hrc;by_cases hk:k<l.length
  ·rw[cC om,bR hk,bR hk]
   have e:∃b,(cond (T1 ((l.getD (Ts (k:Int)) gE).kz<(l.getD (Ts (k:Int)) gE).qN)) (W0 WF) (cond (T1 (0<(k:Int))) (rq ((T1 (0<=(k:Int)))&&(T1 ((k:Int)<(l.length:Int)))) (rq ((T1 (0<=aC ((k:Int)-1)))&&(T1 (aC ((k:Int)-1)<(l.length:Int)))) (W0 (T1 (aC ((l.getD (Ts (k:Int)) gE).qN)<=aC ((aC ((l.getD (Ts (aC ((k:Int)-1))) gE).kz))+1)))))) (W0 UV)):O Bool)=W0 b:=by
    by_cases h0:0<k
    ·rw[bR hk,vm om h0,cC (show(0:Int)<(k:Int) by omega),bZ om om,aH];exact⟨_,rfl⟩
    simp_all[cf,aH]
   obtain⟨b,hb⟩:=e;rw[hb,cy om]
   cases b with
   | true=>simp_all
   | false=>exact hrc _ ⟨k+1,rfl,om⟩ bp
  simp_all[cf,trivial]
 exact⟨r,h⟩
theorem afp(F:Nat)(p:J aE)(hF:p.length+300<F)(hp:p.length<50000000)(hit:∀it∈p,nr it):∃b,kR F p=W0 b:=by
 obtain⟨b,-,h⟩:∃b:Bool,True/\kR F p=W0 b:=by
  refine iQ _ (λs=>∃k:Nat,s=(k:Int)/\k<=p.length) (λs=>p.length-s.toNat) ?_ F _ ⟨0,rfl,om⟩ bp;rintro ii ⟨k,rfl,hk⟩ rc hrc;by_cases hk:k<p.length
  ·have hI:=hit _ (iJ hk)
   rw[cC om,bR hk,b9,gd hk];generalize p[k]=it at hI;obtain⟨c,hc⟩:=CE F it.cY (by have:=hI.2.2;omega) (by have:=hI.2.2;omega);simp only[aH,aD,hc];rw[cy om]
   cases (cond (cond (cond (cond (T1 (it.fKind<1)) WF (T1 (4<it.fKind))) WF ((it.fText.length:Int) != cond (it.fKind==1) 1 0)) WF (cond (it.fKind != 4) (cond it.CD WF (T1 (0<(it.cY.length:Int)))) UV)) WF !c)with
   | true=>simp_all
   | false=>exact hrc _ ⟨k+1,rfl,om⟩ bp
  simp_all[cf,trivial]
 exact⟨b,h⟩
theorem aai(F:Nat)(p:J aE)(hF:p.length+300<F)(hp:p.length<50000000)(hit:∀it∈p,nr it):∃r,uG F p=W0 r:=by
 obtain⟨b,hb⟩:=afp F p hF hp hit
 obtain⟨b,-,h⟩:∃b:Bs×Bool,True/\uG F p=W0 b:=by
  refine iQ _ (λs=>∃k:Nat,s.2=(k:Int)/\k<=p.length/\s.1.length<=10*k) (λs=>p.length-s.2.toNat) ?_ F _ ⟨0,rfl,om,si⟩ bp;rintro⟨acc,ii⟩ ⟨k,h0,hk,ha⟩ rc hrc;subst h0;by_cases hk:k<p.length
  ·have hI:=hit _ (iJ hk)
   have hl:=hI.2.1;rw[cC om,bR hk,bR hk,b9,gd hk]
   cases (p[k].fKind != 1)with
   | true=>simp_all
   | false=>
    rw[ahG om,cy om];exact hrc _ ⟨k+1,rfl,om,by grind⟩ bp
  simp_all[cf,aD,aH,trivial]
 exact⟨b,h⟩
theorem Ip:∀s:Bs,(Lib.cut s [47]=(s,[],UV)/\cE s=[s])\/∃a r,Lib.cut s [47]=(a,r,WF)/\cE s=a::cE r/\a.length+r.length+1=s.length
 | []=>.inl ⟨rfl,rfl⟩
 | b::l=>by
  have ih:=Ip l;have hge:=Lib.indexByte_ge l 47;by_cases hb:b=47
  ·right
   subst hb;have h0:Lib.index ((47:UInt8)::l) [47]=0:=by rw[Lib.index_one];simp[Lib.indexByte]
   exact⟨[],l,by unfold Lib.cut;rw[h0];simp,rfl,si⟩
  ·have Xr:(b==47)=UV:=by simpa using hb
   have h0:Lib.index (b::l) [47]=if Lib.index l [47] == -1 then -1 else Lib.index l [47]+1:=by
    rw[Lib.index_one,Lib.index_one,Lib.indexByte];simp[hb]
   have hp:cE (b::l)=(match cE l with
    | []=>[[b]]
    | p::ps=>(b::p)::ps):=by rw[cE,Xr,aM]<;>cases cE l<;>rfl
   rw[<-Lib.index_one]at hge;unfold Lib.cut at ih⊢;rw[hp,h0];rcases ih with⟨h1,h2⟩|⟨a,r,h1,h2,h3⟩
   ·left
    by_cases hi:0<=Lib.index l [47]
    ·rw[if_pos hi]at h1
     have:=congrArg (λx=>x.2.2) h1;cases this
    ·have e:Lib.index l [47]=-1:=om
     rw[e,h2];exact⟨rfl,rfl⟩
   ·right
    by_cases hi:0<=Lib.index l [47]
    ·rw[if_pos hi]at h1
     have e1:(Lib.index l [47] == -1)=UV:=by simp;omega
     refine⟨b::a,r,?_,by rw[h2],bp⟩;rw[e1];simp only[R5,Nz];rw[if_pos om,show(Lib.index l [47]+1).toNat=(Lib.index l [47]).toNat+1 by omega];simp only[Tg]at h1;obtain⟨g1,g2,-⟩:=h1;rw[aeM,g1];simp only[Tg,vh,and_true];rw[<-g2,Nat.add_right_comm,List.drop_succ_cons]
    ·rw[if_neg hi]at h1
     have:=congrArg (λx=>x.2.2) h1;cases this
theorem VW(F:Nat)(s:Bs)(h:s.length<=1000000):VX F s [47]=W0 (Lib.cut s [47]):=by
 unfold VX;rw[mW om]
theorem ajZ(F:Nat)(l:J Bs)(h1:l.length<=1000000)(h2:(mo l).length<=100000000):AP F [47] l=W0 (mo l,l):=by
 unfold AP zB;rw[join_eq,bZ om om];rfl
def fR(l:J aB):Bs:=l.flatMap λr=>r.fText
theorem CF:∀l:J aB,(fR l).length=bX l
 | []=>rfl
 | r::l=>by
  have:=CF l;unfold fR bX at *;simp only[R9,vi,jY,PK];omega
theorem XA(s:Bs):Kg (cV s)=WF:=by
 unfold Kg cV;rw[pE];intro x hx;obtain⟨b,-,rfl⟩:=oK.1 hx;have:=b.toNat_lt;simp;omega
theorem aoG(F:Nat)(s:Bs)(c:Bool)(buf:J Int)(h:buf.length+s.length<=100000000):jf F s c buf=W0 ((s.length:Int),WF,buf++cV s):=by
 unfold jf wx;rw[show pL F c buf=W0 (WF,buf) by cases c<;>rfl,aD,ez (by simp[cV];omega) om]
theorem GK(F:Nat)(l:J aB)(hF:l.length<F)(h1:l.length<1000000000)(h2:bX l<=100000000):nJ F l=W0 (fR l):=by
 unfold nJ wx;refine cG (λx=>∃k:Nat,x.1=(k:Int)/\k<=l.length/\x.2.2=cV (fR (l.take k))) (λx=>l.length-x.1.toNat) ?_ F _ ⟨0,rfl,om,by simp[fR,cV]⟩ bp;rintro⟨ii,c,buf⟩ ⟨k,h0,hk,ha⟩;dsimp only at h0 ha⊢;subst h0;by_cases hk:k<l.length
 ·left
  have hs:=qS l k hk;have hle:=uW l (k+1);refine⟨(((k+1:Nat):Int),WF,cV (fR (l.take (k+1)))),⟨k+1,rfl,om,rfl⟩,bp,λrc=>?_⟩;have GJ:buf.length=bX (l.take k):=by rw[ha,cV,mg,CF]
  rw[cC om,bR hk,b9,gd hk,aoG F _ c buf om,aD,cy om];show rc (((k+1:Nat):Int),WF,buf++cV l[k].fText)=_;rw[ha,fR,fR,N0 _ _ _ hk];simp[cV]
 ·right
  obtain rfl:k=l.length:=om;intro rc;rw[vQ]at ha;subst ha;have:(cV (fR l)).length=bX l:=by rw[cV,mg,CF]
  rw[cf om];unfold kS wx;rw[cq (by rw[ei rfl,XA,ei om];rfl),Sn];rfl
theorem amP(F:Nat)(l:J aB)(hF:l.length<F)(h1:l.length<1000000000)(h2:bX l<=1000000):nJ F l=W0 (fR l):=GK F l hF h1 om
def XB(c:Int)(o:J (J aB)×J aB)(q:Bs):J (J aB)×J aB:=(o.1++[o.2],[aB.mk q c])
def pcP(c:Int)(o:J (J aB)×J aB):J Bs->J (J aB)×J aB
 | []=>o
 | p::ps=>ps.foldl (XB c) (o.1,o.2++[aB.mk p c])
def yV(o:J (J aB)×J aB)(r:aB):J (J aB)×J aB:=cond (zV r.aL) o (pcP r.aL o (cE r.fText))
def Kh(l:J aB):J (J aB)×J aB:=l.foldl yV ([],[])
def Mv(l:J aB):J (J aB):=(Kh l).1++[(Kh l).2]
theorem VY(c:Int):∀(ps:J Bs)(o:J (J aB)×J aB),o.1 <+: (ps.foldl (XB c) o).1
 | [],o=>Zl
 | q::ps,o=>(List.prefix_append o.1 [o.2]).trans (VY c ps (XB c o q))
theorem amQ(o:J (J aB)×J aB)(r:aB):o.1 <+: (yV o r).1:=by
 unfold yV;cases zV r.aL
 ·rw[aM]
  cases cE r.fText with
  | nil=>exact Zl
  | cons p ps=>exact VY r.aL ps (o.1,o.2++[aB.mk p r.aL])
 ·exact Zl
theorem VZ:∀(l:J aB)(o:J (J aB)×J aB),o.1 <+: (l.foldl yV o).1
 | [],o=>Zl
 | r::l,o=>(amQ o r).trans (VZ l (yV o r))
variable{F:Nat}{pat:J aB -> J aE}
section
variable {lit : J aB -> Bool}
def V0(pat:J aB->J aE)(lit:J aB->Bool)(t:J aB):bE:=bE.mk (fR t) (pat t) (lit t)
def PcK(F:Nat)(pat:J aB->J aE)(lit:J aB->Bool)(t:J aB):Prop:=iB F t=W0 (pat t)/\(∃x,rE F (pat t)=W0 (x,lit t))/\t.length<F/\t.length<1000000/\bX t<=1000000
theorem aoH{t:J aB}(hK:PcK F pat lit t)(fs:J bF)(ds:J (J aB))(dead:J (dJ×Bool))(found:J Bs)(hd:ds.length<=1000000):
  o6 F t fs (ds.map (V0 pat lit)) (ds.all lit) dead (ds.map fR) found=W0 (fs,(ds++[t]).map (V0 pat lit),(ds++[t]).all lit,(ds++[t]).map fR,found):=by
 obtain⟨h1,⟨x,h2⟩,h3,h4,h5⟩:=hK;unfold o6;rw[amP F t h3 om h5,aD,h1,aD];show((rE F (pat t)).bind _)=_;rw[h2,aD,aH,aD];have e:cond (ds.all lit) ((x,lit t).2,ds.map fR,found) (UV,ds.map fR,found)=(ds.all lit&&lit t,ds.map fR,found):=by cases ds.all lit<;>rfl
 rw[e];dsimp only;rw[ez bp om,ez bp om];simp[V0,List.all_append]
abbrev PSt:=(J aB)×Int×(J bF)×(J bE)×Bool×(J Bs)×(J Bs)
def pSt(pat:J aB->J aE)(lit:J aB->Bool)(fs:J bF)(i:Nat)(o:J (J aB)×J aB):PSt:=(o.2,(i:Int),fs,o.1.map (V0 pat lit),o.1.all lit,o.1.map fR,[])
theorem pieces_eq{l:J aB}{fs:J bF}{dead:J (dJ×Bool)}(hF:l.length<F)(rD:bX l+1<F)(h1:l.length<1000000)(h2:bX l<=1000000)(hn:(Mv l).length<=1000000)(aoI:∀k,((l.take k).foldl yV ([],[])).2.length<=1000000)(hK:∀t∈Mv l,PcK F pat lit t):
  o7 F l fs [] WF dead [] []=W0 (fs,(Mv l).map (V0 pat lit),(Mv l).all lit,(Mv l).map fR,[]):=by
 have hmem:∀t,t∈(Kh l).1->PcK F pat lit t:=λt ht=>hK t (by unfold Mv;simp[ht]);have aqC:PcK F pat lit (Kh l).2:=hK _ (by unfold Mv;simp);have hlen:(Kh l).1.length+1<=1000000:=by have:=hn;unfold Mv at this;simpa using this
 unfold o7 wx;refine cG (λx:PSt=>∃k:Nat,k<=l.length/\x=pSt pat lit fs k ((l.take k).foldl yV ([],[]))) (λx=>l.length-x.2.1.toNat) ?_ F _ ⟨0,om,rfl⟩ bp;rintro x ⟨k,hk,rfl⟩
 have hpre:((l.take k).foldl yV ([],[])).1 <+: (Kh l).1:=by
  have:=VZ (l.drop k) ((l.take k).foldl yV ([],[]));rwa [<-Jr,KY]at this
 have hnk:=aoI k;by_cases hk:k<l.length
 ·left
  have al2:(l.take (k+1)).foldl yV ([],[])=yV ((l.take k).foldl yV ([],[])) l[k]:=by rw[mh hk,Jr];rfl
  refine⟨pSt pat lit fs (k+1) ((l.take (k+1)).foldl yV ([],[])),⟨k+1,om,rfl⟩,by simp only[pSt];omega,λrc=>?_⟩
  have Qc:(yV ((l.take k).foldl yV ([],[])) l[k]).1 <+: (Kh l).1:=by
   rw[<-al2];have:=VZ (l.drop (k+1)) ((l.take (k+1)).foldl yV ([],[]));rwa [<-Jr,KY]at this
  have htl:l[k].fText.length<=bX l:=Qb (iJ hk);rw[al2];generalize(l.take k).foldl yV ([],[])=o at hpre Qc hnk;unfold pSt;dsimp only;rw[cC om,bR hk,b9,gd hk,aH,aD];have e1:cond (l[k].aL != 0) (l[k].aL != 1,o.1.map fR,([]:J Bs)) (UV,o.1.map fR,[])=(l[k].aL != 0&&l[k].aL != 1,o.1.map fR,[]):=by cases (l[k].aL != 0)<;>rfl
  rw[e1];dsimp only;rw[aH,aD];have e2:cond (l[k].aL != 0&&l[k].aL != 1) (l[k].aL != 2,o.1.map fR,([]:J Bs)) (UV,o.1.map fR,[])=(zV l[k].aL,o.1.map fR,[]):=by rw[<-VV];cases (l[k].aL != 0&&l[k].aL != 1)<;>rfl
  rw[e2];dsimp only;rw[cy om];unfold yV at Qc⊢
  cases hc:zV l[k].aL with
  | true=>rfl
  | false=>
   rw[hc]at Qc;rw[aM,aM]at *;rw[VW F _ om,aD,ez bp om];generalize Lc:pcP l[k].aL o (cE l[k].fText)=fin at Qc;have as9:fin.1.length<=1000000:=by have:=Qc.length_le;omega
   refine cG (R:=(J bF)×(J bE)×Bool×(J Bs)×(J Bs))
    (λx=>∃(o2:J (J aB)×J aB)(rest:Bs)(sl:Bool),x=(o2.2,rest,sl,fs,o2.1.map (V0 pat lit),o2.1.all lit,o2.1.map fR,[])/\rest.length<=l[k].fText.length /\
     ((sl=UV/\o2=fin)\/(sl=WF/\(cE rest).foldl (XB l[k].aL) o2=fin))) (λx=>cond x.2.2.1 (x.2.1.length+1) 0) ?_ F _ ?_ ?_
   ·rintro x ⟨o2,rest,sl,rfl,hrl,zE⟩
    dsimp only;rcases zE with⟨rfl,rfl⟩|⟨rfl,hf⟩
    ·right
     intro bA;rfl
    ·left
     have hne:=GF rest
     have hy:o2.2∈(Kh l).1/\o2.1.length<=1000000:=by
      cases hp:cE rest with
      | nil=>exact absurd hp hne
      | cons p ps=>
       rw[hp]at hf;have TO:(o2.1++[o2.2]) <+: fin.1:=by rw[<-hf];exact VY l[k].aL ps (XB l[k].aL o2 p)
       refine⟨(TO.trans Qc).subset si,?_⟩;have:=TO.length_le;simp at this;omega
     have hyy:=aoH (hmem _ hy.1) fs o2.1 dead [] hy.2;rcases Ip rest with⟨g1,g2⟩|⟨a,r,g1,g2,g3⟩
     ·refine⟨_,⟨(o2.1++[o2.2],[aB.mk rest l[k].aL]),[],UV,rfl,si,.inl ⟨rfl,?_⟩⟩,si,λbA=>?_⟩
      ·rw[g2]at hf;exact hf
      ·rw[aY,hyy,aD,VW F _ om,g1,aD]
     ·refine⟨_,⟨(o2.1++[o2.2],[aB.mk a l[k].aL]),r,WF,rfl,om,.inr ⟨rfl,?_⟩⟩,bp,λbA=>?_⟩
      ·rw[g2]at hf;exact hf
      ·rw[aY,hyy,aD,VW F _ om,g1,aD]
   ·rcases Ip l[k].fText with⟨g1,g2⟩|⟨a,r,g1,g2,g3⟩
    ·refine⟨(o.1,o.2++[aB.mk l[k].fText l[k].aL]),[],UV,by rw[g1],si,.inl ⟨rfl,?_⟩⟩
     rw[g2]at Lc;exact Lc
    ·refine⟨(o.1,o.2++[aB.mk a l[k].aL]),r,WF,by rw[g1],om,.inr ⟨rfl,?_⟩⟩
     rw[g2]at Lc;exact Lc
   ·rcases Ip l[k].fText with⟨g1,g2⟩|⟨a,r,g1,g2,g3⟩
    ·rw[g1];show 0<F;omega
    ·rw[g1];show r.length+1<F;omega
 ·right
  obtain rfl:k=l.length:=om;intro rc;have ht:(l.take l.length).foldl yV ([],[])=Kh l:=by rw[vQ];rfl
  rw[ht];unfold pSt;dsimp only;rw[cf om,aoH aqC fs (Kh l).1 dead [] om];rfl
end
theorem afq{r:J aB}(hF:(AA r).length<F)(h0:(AA r).length<1000000000)(h1:r.length<=1000000000)(h2:bX r<=1000000000)(h:∀c∈AA r,∃p x,kj F c=W0 p/\uG F p=W0 x):∃b,(b=WF->True)/\uH F r=W0 b:=by
 unfold uH Tu wx;rw[bZ h1 h2,aD];have hB:∀(F2:Nat)(x:O Bool),(∃b,True/\x=W0 b)->∃b,(b=WF->True)/\x=W0 b:=λ_ x ⟨b,_,h⟩=>⟨b,λ_=>trivial,h⟩;refine hB F _ (Fk (λ_=>True) (λx:Int×Int×Int=>∃k:Nat,x.2.2=(k:Int)/\k<=(AA r).length) (λx=>(AA r).length-x.2.2.toNat) ?_ F (0,0,0) ⟨0,rfl,om⟩ bp)
 ·rintro⟨a,b,ii⟩ ⟨k,h0,hk⟩
  dsimp only at h0⊢;subst h0;by_cases hk:k<(AA r).length
  ·left
   obtain⟨p,x,e1,e2⟩:=h (AA r)[k] (iJ hk);refine⟨(cond (!x.2) (aC (a+1),b,((k+1:Nat):Int)) (cond (x.1==[46,46]) (a,aC (b+1),((k+1:Nat):Int)) (a,b,((k+1:Nat):Int)))),⟨k+1,?_,om⟩,?_,λrc=>?_⟩
   ·cases x.2<;>cases (x.1==[46,46])<;>rfl
   ·cases x.2<;>cases (x.1==[46,46])<;>simp<;>omega
   ·rw[cC om,bR hk,b9,gd hk,e1,aD,e2,aD,cy om]
    cases x.2<;>cases (x.1==[46,46])<;>rfl
  ·right
   refine⟨cond (T1 (a<=2)) WF (b==0),trivial,λrc=>?_⟩;rw[cf om,aH,aD]
theorem aj0(l:J aB):(AA l).length<=bX l+1:=by
 have:=Sf l ([],[]);unfold AA gr;simp only[Gu,vi,qL,Ax]at *;omega
theorem afr:∀ {c:J aB},(∀r∈c,r.fText.length=1)->bX c=c.length
 | [],_=>rfl
 | r::c,h=>by
  have:=afr (c:=c) λx hx=>h x (by simp[hx]);have:=h r si;unfold bX at *;simp only[jY,PK,qL];omega
theorem ar6{c:J aB}(h:∀r∈c,r.aL=1):∀e∈c.flatMap nS,e.lN=UV:=by
 intro e he;obtain⟨r,hr,he⟩:=Th.1 he;have hc:=h r hr;unfold nS at he;rw[hc]at he;obtain⟨b,-,rfl⟩:=oK.1 (show e∈r.fText.map λb=>fq.mk (b.toNat:Int) ((1:Int) != 1)from he);rfl
theorem adU(c:Int):∀(ps:J Bs)(d:J (J aB))(t:J aB),(ps.foldl (XB c) (d,t)).1++[(ps.foldl (XB c) (d,t)).2]=d++(t::ps.map λq=>[aB.mk q c])
 | [],d,t=>rfl
 | q::ps,d,t=>by
  have:=adU c ps (d++[t]) [aB.mk q c];rw[vS];unfold XB at *;rw[this];simp
theorem adV(s:Bs)(c:Int)(hc:zV c=UV):Mv [aB.mk s c]=(cE s).map λp=>[aB.mk p c]:=by
 unfold Mv Kh;rw[vS,List.foldl_nil];unfold yV;rw[show zV (aB.mk s c).aL=UV from hc,aM];show(pcP c ([],[]) (cE s)).1++[(pcP c ([],[]) (cE s)).2]=_
 cases h:cE s with
 | nil=>exact absurd h (GF s)
 | cons p ps=>exact adU c ps [] [aB.mk p c]
theorem aoJ(s:Bs)(c:Int)(hc:zV c=UV)(k:Nat):(([aB.mk s c].take k).foldl yV ([],[])).2.length<=1000000:=by
 cases k with
 | zero=>simp
 | succ k=>
  have h:(Kh [aB.mk s c]).2∈Mv [aB.mk s c]:=by unfold Mv;simp
  rw[adV s c hc]at h;obtain⟨p,-,hp⟩:=oK.1 h;rw[vN si];show(Kh [aB.mk s c]).2.length<=_;rw[<-hp];simp
def aoK(t:J aB):J aE:=(t.flatMap nS).map λe=>pb e.fb
theorem amR(p:Bs)(c:Int):fR [aB.mk p c]=p:=by simp[fR]
theorem ahH(s:Bs)(c:Int):((cE s).map λp=>[aB.mk p c]).map fR=cE s:=by
 rw[yD]
 conv=>rhs;rw[<-R8 (cE s)]
 exact Zm λp _=>amR p c
theorem afs{cwd:Bs}(h:nI cwd=WF):TL cwd [47]=([47],0):=by
 unfold TL;rw[h];rfl
def aft(p n:Bs):Bs:=cond (p==[47]) ([47]++n) ((p++[47])++n)
def ar7(l:J bF)(p:Bs):Bool:=(K7 l p).elim UV λf=>f.oO
def aoL(n:Bs):Bool:=n.take 1==[46]
def ar8(c:bE):Bool:=T1 (0<c.rX.length)&&((c.rX.getD 0 gf).fKind==1&&(c.rX.getD 0 gf).fText==[46])
def aqD(mt:J aE->Bs->Bool)(c:bE)(n:Bs):Bool:=!((aoL n && !ar8 c) || !mt c.rX n)
def W(l:J bF)(mt:J aE->Bs->Bool):J bE->Bs->J (J Bs)
 | [],p=>[[]]
 | c::cs,p=>cond (!ar7 l p) [] (cond (!c.rY) (((aqB l p).filter (aqD mt c)).flatMap λn=>(W l mt cs (aft p n)).map (n :: ·))
   (cond (c.dh==[]||c.dh==[46]) ((W l mt cs p).map (c.dh :: ·)) (cond (c.dh==[46,46]) ((W l mt cs (qV p)).map (c.dh :: ·))
   (cond (K7 l (aft p c.dh)).isNone [] ((W l mt cs (aft p c.dh)).map (c.dh :: ·))))))
variable{l:J bF}{mt:J aE -> Bs -> Bool}{parts:J bE}{names:J Bs}
abbrev aoM:=Bool×(J bF)×(J bE)×(J (dJ×Bool))×(J Bs)×(J Bs)
def aoN(l:J bF)(mt:J aE->Bs->Bool)(parts:J bE)(dead:J (dJ×Bool)):Prop:=∀(i:Nat) p,fY cW dead (dJ.mk (i:Int) p) UV=WF->W l mt (parts.drop i) p=[]
structure Qd(parts:List bE)(i:Nat)(names:List Bs):Prop where
 len:names.length=parts.length
 lit:∀j,i<=j->∀h:j<parts.length,parts[j].rY=WF->names.getD j []=parts[j].dh
 sz:∀n∈names,n.length<=4000
def SOk(l:J bF)(mt:J aE->Bs->Bool)(parts:J bE)(i:Nat)(path:Bs)(names found:J Bs)(r:aoM):Prop:=
 ∃al3 names',r=(!(W l mt (parts.drop i) path).isEmpty,l,parts,al3,names',found++(W l mt (parts.drop i) path).map λws=>mo (names.take i++ws))/\aoN l mt parts al3/\Qd parts i names'/\names'.take i=names.take i
theorem Qd.up(h:Qd parts i names):Qd parts (i+1) names:=⟨h.len,λj hj=>h.lit j om,h.sz⟩
theorem aaj(h:Qd parts i names)(hi:i<parts.length)(hl:parts[i].rY=WF):names.take (i+1)=names.take i++[parts[i].dh]:=by
 have h1:i<names.length:=by rw[h.len];exact hi
 rw[mh h1];have:=h.lit i (eu _) hi hl;rw[gd h1]at this;rw[this]
theorem SOk.lit{path path':Bs}{found:J Bs}{r:aoM}(hn:Qd parts i names)(hi:i<parts.length)(hl:parts[i].rY=WF)
  (hW:W l mt (parts.drop i) path=(W l mt (parts.drop (i+1)) path').map (parts[i].dh :: ·)) (h:SOk l mt parts (i+1) path' names found r):SOk l mt parts i path names found r:=by
 obtain⟨d,n',rfl,h1,h2,h3⟩:=h
 have h4:n'.take i=names.take i:=by
  have:=congrArg (List.take i) h3;rwa [Zg,Zg,aeC om]at this
 refine⟨d,n',?_,h1,⟨h2.len,λj hj hlt hlj=>?_,h2.sz⟩,h4⟩
 ·rw[hW,aaj hn hi hl]
  simp only[yD,List.isEmpty_map,vM,List.singleton_append];rfl
 ·by_cases e:j=i
  ·subst e
   have h5:=aaj hn hi hl;rw[<-h3]at h5;have h6:j<n'.length:=by rw[h2.len];exact hi
   rw[mh h6,h4]at h5;have h7:=List.append_cancel_left h5;rw[gd h6];exact List.singleton_inj.1 h7
  ·exact h2.lit j om hlt hlj
theorem Gc(a b:J aB):bX (a++b)=bX a+bX b:=by unfold bX;rw[vj,aeQ]
def Iq(e:fq):fM:=fM.mk e.fb e.lN
theorem amS(r:aB):NZ r=(nS r).map Iq:=by
 unfold NZ nS;cases zV r.aL
 ·rw[aM,aM,yD];rfl
 ·rfl
theorem aqE(l:J aB):l.flatMap NZ=(l.flatMap nS).map Iq:=by
 induction l with
 | nil=>rfl
 | cons r l ih=>simp_all[R9,vj,amS]
theorem jE(x:J fq)(i:Nat)(b:Int):DH (x.map Iq) i b=eF x i b:=by
 unfold DH eF;rw[mg];by_cases h:i<x.length
 ·rw[gd (by simp_all),Sa,gd h];rfl
 ·rw[dF h];rfl
def xL(x:J fq)(i:Nat)(s:Bs):Bool:=(R0 s.length).all λj=>eF x (i+j) ((s.getD j 0).toNat:Int)
theorem amT(F:Nat)(x:J fq)(i:Nat)(s:Bs)(hF:s.length<F)(hi:i<50000000)(hs:s.length<50000000):Fm F (x.map Iq) (i:Int) s=W0 (xL x i s):=by
 refine cG (λk'=>∃k:Nat,k'=(k:Int)/\k<=s.length/\∀j,j<k->eF x (i+j) ((s.getD j 0).toNat:Int)=WF) (λk'=>s.length-k'.toNat) ?_ F _ ⟨0,rfl,om,λj h=>om⟩ bp;rintro ii ⟨k,rfl,hk,hj⟩;by_cases hk:k<s.length
 ·have hw:aC ((i:Int)+(k:Int))=((i+k:Nat):Int):=by grind[bN]
  cases h:eF x (i+k) ((s.getD k 0).toNat:Int)with
  | true=>
   left;refine⟨((k+1:Nat):Int),⟨k+1,rfl,om,λj hj2=>?_⟩,bp,λrc=>?_⟩
   ·grind
   ·rw[cC om,bR hk,hw,jA,jE,b9,h,cy om];rfl
  | false=>
   right;intro rc;rw[cC om,bR hk,hw,jA,jE,b9,h]
   have:xL x i s=UV:=by
    unfold xL
    grind
   rw[this];rfl
 ·right
  obtain rfl:k=s.length:=om;intro rc;rw[cf om]
  have:xL x i s=WF:=by
   unfold xL
   simp_all
  rw[this]
theorem Ag:eF x i b=WF↔i<x.length/\(x.getD i cN).lN=WF/\(x.getD i cN).fb=b:=by
 unfold eF
 simp_all
theorem afu(x:J fq)(i:Nat)(n:Bs)(h5:n.length=5)(aak:∀b∈n,97<=b.toNat/\b.toNat<=122):
  xL x i ((([91,58]:Bs)++n)++([58,93]:Bs))=((eF x i 91&&eF x (i+1) 58)&&((eF x (i+2+(j9 x (i+2)).length) 58&&eF x (i+2+(j9 x (i+2)).length+1) 93)&&j9 x (i+2)==cV n)):=by
 match n,h5 with
 | [a,b,c,d,e],_=>
  have ha:=aak a si;have hb:=aak b si;have hc:=aak c si;have hd:=aak d si;have he:=aak e si;rw[qb];unfold xL;rw[show((([91,58]:Bs)++[a,b,c,d,e])++([58,93]:Bs)).length=9 from rfl]
  have ar9:((R0 9).all λj=>eF x (i+j) ((((([91,58]:Bs)++[a,b,c,d,e])++([58,93]:Bs)).getD j 0).toNat:Int))=WF ↔
    (eF x i 91=WF/\eF x (i+1) 58=WF/\eF x (i+2) (a.toNat:Int)=WF/\eF x (i+3) (b.toNat:Int)=WF/\eF x (i+4) (c.toNat:Int)=WF/\eF x (i+5) (d.toNat:Int)=WF/\eF x (i+6) (e.toNat:Int)=WF/\eF x (i+7) 58=WF/\eF x (i+8) 93=WF):=by
   rw[pE];constructor
   ·intro h
    exact⟨h 0 si,h 1 si,h 2 si,h 3 si,h 4 si,h 5 si,h 6 si,h 7 si,h 8 si⟩
   ·rintro⟨h0,h1,h2,h3,h4,h5,h6,h7,h8⟩ j hj
    match j,hj with
    | 0,_=>exact h0
    | 1,_=>exact h1
    | 2,_=>exact h2
    | 3,_=>exact h3
    | 4,_=>exact h4
    | 5,_=>exact h5
    | 6,_=>exact h6
    | 7,_=>exact h7
    | 8,_=>exact h8
  rw[ar9];have hat:=ahD x (i+2);simp only[cH,p7];constructor
  ·rintro⟨h0,h1,h2,h3,h4,h5,h6,h7,h8⟩
   have g2:=Ag.1 h2;have g3:=Ag.1 h3;have g4:=Ag.1 h4;have g5:=Ag.1 h5;have g6:=Ag.1 h6;have g7:=Ag.1 h7
   have hl:∀(k:Nat)(v:UInt8),97<=v.toNat/\v.toNat<=122->(x.getD k cN).lN=WF/\(x.getD k cN).fb=(v.toNat:Int)->CC (x.getD k cN)=WF:=by
    unfold CC
    grind
   have iz:x.drop (i+2)=x.getD (i+2) cN::x.getD (i+3) cN::x.getD (i+4) cN::x.getD (i+5) cN::x.getD (i+6) cN::x.getD (i+7) cN::x.drop (i+8):=by
    simp_all
   have hnl:CC (x.getD (i+7) cN)=UV:=by
    unfold CC
    grind
   have hrun:j9 x (i+2)=cV [a,b,c,d,e]:=by
    unfold j9;rw[iz];simp only[List.takeWhile,hl _ a ha g2.2,hl _ b hb g3.2,hl _ c hc g4.2,hl _ d hd g5.2,hl _ e he g6.2,hnl];simp only[jY,Nu,g2.2.2,g3.2.2,g4.2.2,g5.2.2,g6.2.2];rfl
   rw[hrun];exact⟨⟨h0,h1⟩,⟨h7,h8⟩,rfl⟩
  ·rintro⟨⟨h0,h1⟩,⟨h7,h8⟩,hr⟩
   rw[hr]at hat h7 h8
   have hk:∀(k:Nat)(v:UInt8),k<5->(cV [a,b,c,d,e]).getD k 0=(v.toNat:Int)->eF x (i+2+k) (v.toNat:Int)=WF:=by
    intro k v hk e1;obtain⟨q1,q2,q3⟩:=hat k hk;unfold CC at q3
    simp_all[cH,Ag]
   exact⟨h0,h1,hk 0 a om rfl,hk 1 b om rfl,hk 2 c om rfl,hk 3 d om rfl,hk 4 e om rfl,h7,h8⟩
def exD(l:J ck)(b:Nat):J ck:=cond (T1 (0<l.length)&&(l.getD (l.length-1) gE).kz+1==(b:Int)) (l.set (l.length-1) (ck.mk (l.getD (l.length-1) gE).qN (b:Int))) (l++[ck.mk (b:Int) (b:Int)])
def DD(P:Nat->Bool):Nat->J ck
 | 0=>[]
 | k+1=>cond (P k) (exD (DD P k) k) (DD P k)
theorem amU(l:J ck)(b:Nat):(exD l b).length<=l.length+1:=by
 unfold exD
 grind
theorem aal(P:Nat->Bool):∀k,(DD P k).length<=k
 | 0=>by simp[DD]
 | k+1=>by
  have ih:=aal P k;have:=amU (DD P k) k;unfold DD;cases P k
  ·rw[aM];omega
  ·rw[aY];omega
theorem V1(P:Nat->Bool):∀k,∀s∈DD P k,∃h:Nat,h<k/\s.kz=(h:Int)/\P h=WF
 | 0,s,hs=>by cases hs
 | k+1,s,hs=>by
  have ih:=V1 P k;unfold DD at hs
  cases hP:P k with
  | false=>
   rw[hP]at hs;obtain⟨h,h1,h2,h3⟩:=ih s hs
   exact⟨h,om,h2,h3⟩
  | true=>
   rw[hP]at hs;unfold exD at hs
   cases hb:(T1 (0<(DD P k).length)&&((DD P k).getD ((DD P k).length-1) gE).kz+1==(k:Int))with
   | true=>
    rw[hb]at hs;rcases List.mem_or_eq_of_mem_set hs with hs|rfl
    ·obtain⟨h,h1,h2,h3⟩:=ih s hs
     exact⟨h,om,h2,h3⟩
    ·exact⟨k,om,rfl,hP⟩
   | false=>
    rw[hb]at hs;rcases p8.1 hs with hs|hs
    ·obtain⟨h,h1,h2,h3⟩:=ih s hs
     exact⟨h,om,h2,h3⟩
    ·obtain rfl:=vk.1 hs
     exact⟨k,om,rfl,hP⟩
theorem aoO(P:Nat->Bool)(c:Nat)(h:P c=WF)(h0:c=0\/P (c-1)=UV):DD P (c+1)=DD P c++[ck.mk (c:Int) (c:Int)]:=by
 rw[DD,h,aY,exD]
 have:(T1 (0<(DD P c).length)&&((DD P c).getD ((DD P c).length-1) gE).kz+1==(c:Int))=UV:=by
  by_cases hl:0<(DD P c).length
  ·grind[gd,List.getElem_mem,V1,beq_eq_false_iff_ne]
  ·rw[dF hl];rfl
 rw[this,aM]
theorem ahI(P:Nat->Bool)(c:Nat)(h0:c=0\/P (c-1)=UV):∀(k:Nat),(∀j,c<=j->j<=c+k->P j=WF)->DD P (c+k+1)=DD P c++[ck.mk (c:Int) ((c+k:Nat):Int)]
 | 0,h=>aoO P c (h c (eu _) om) h0
 | k+1,h=>by
  have ih:=ahI P c h0 k λj h1 h2=>h j h1 om;rw[show c+(k+1)+1=(c+k+1)+1 by omega,DD,h (c+k+1) om om,ih,exD];have hl:(DD P c++[ck.mk (c:Int) ((c+k:Nat):Int)]).length-1=(DD P c).length:=by simp
  have hg:(DD P c++[ck.mk (c:Int) ((c+k:Nat):Int)]).getD ((DD P c++[ck.mk (c:Int) ((c+k:Nat):Int)]).length-1) gE=ck.mk (c:Int) ((c+k:Nat):Int):=by
   simp
  have e:((ck.mk (c:Int) ((c+k:Nat):Int)).kz+1==((c+k+1:Nat):Int))=WF:=by
   rw[p7];show((c+k:Nat):Int)+1=_;omega
  simp;omega
theorem ahJ(P:Nat->Bool):∀(m c:Nat),c+m=255->P c=WF->∃k,c+k<=255/\(∀j,c<=j->j<=c+k->P j=WF)/\(c+k=255\/P (c+k+1)=UV)
 | 0,c,h,hP=>⟨0,om,(λj h1 h2=>(show j=c by omega)▸hP),.inl om⟩
 | m+1,c,h,hP=>by
  cases h1:P (c+1)with
  | false=>exact⟨0,om,(λj h1 h2=>(show j=c by omega)▸hP),.inr h1⟩
  | true=>
   obtain⟨k,g1,g2,g3⟩:=ahJ P m (c+1) om h1;refine⟨k+1,om,λj h2 h3=>?_,?_⟩
   ·grind
   grind
theorem afv{c:Nat}(h:c<256):Sx .u8 (c:Int)=(c:Int):=by
 show((c:Int)%256)=c;omega
theorem aj1(F:Nat)(set:J Bool)(hF:1000<F)(hs:set.length=256):qW F set=W0 (DD (λc=>set.getD c UV) 256):=by
 unfold qW wx;rw[cq (by rw[hs];rfl)];generalize hP:(λc=>set.getD c UV)=P;have hPc:∀c,set.getD c UV=P c:=λc=>by rw[<-hP]
 refine cG (λs:J ck×Int×J Bool=>∃c:Nat,s=(DD P c,(c:Int),set)/\c<=256/\(c<256->P c=WF->c=0\/P (c-1)=UV)) (λs=>256-s.2.1.toNat) ?_ F _ ⟨0,rfl,om,λ_ _=>.inl rfl⟩ bp;rintro s ⟨c,rfl,hc,hst⟩;have hdl:=aal P c;by_cases Ki:c<256
 ·left
  cases hb:P c with
  | false=>
   refine⟨(DD P (c+1),((c+1:Nat):Int),set),⟨c+1,rfl,om,λ_ _=>.inr (by simpa using hb)⟩,bp,λrc=>?_⟩;dsimp only;rw[cC om,vV om om om,b9,hPc,hb,cy om];show rc _=_
   rw[DD,hb,aM]
  | true=>
   have h0:=hst Ki hb;obtain⟨k,k1,k2,k3⟩:=ahJ P (255-c) c om hb;have hrun:=ahI P c h0 k k2;refine⟨(DD P (c+k+1),((c+k+1:Nat):Int),set),⟨c+k+1,rfl,om,λh1 h2=>?_⟩,bp,λrc=>?_⟩
   ·simp_all
   ·dsimp only
    rw[cC om,vV om om om,b9,hPc,hb,jd,aM];refine cG (λs:Int×J Bool=>∃j:Nat,s=(((c+j:Nat):Int),set)/\j<=k) (λs=>256-s.1.toNat) ?_ F _ ⟨0,rfl,om⟩ bp;rintro s ⟨j,rfl,hj⟩;by_cases hjk:j<k
    ·left
     refine⟨(((c+(j+1):Nat):Int),set),⟨j+1,rfl,om⟩,bp,λbA=>?_⟩;dsimp only;rw[cC om,cy om,vV om om om,aD]
     grind
    ·right
     obtain rfl:j=k:=om;intro bA;dsimp only
     have e:(cond (T1 (((c+j:Nat):Int)<255)) (rq ((T1 (0<=aC (((c+j:Nat):Int)+1)))&&((T1 (aC (((c+j:Nat):Int)+1)<256))&&(T1 (aC (((c+j:Nat):Int)+1)<(set.length:Int))))) (W0 (set.getD (Ts (aC (((c+j:Nat):Int)+1))) UV,set))) (W0 (UV,set)):O (Bool×J Bool))=W0 (UV,set):=by
      by_cases ati:c+j<255
      ·rw[cC om,cy om,vV om om om,b9,hPc]
       grind
      ·rw[cf om]
     rw[e,aD];dsimp only;rw[aM,afv om,afv om,ez bp om,cy om,hrun]
 grind
def AR(l:J ck)(b:Int):Bool:=l.any λs=>T1 (s.qN<=b)&&T1 (b<=s.kz)
theorem aqF(F:Nat)(l:J ck)(b:Int)(hF:l.length<F)(hl:l.length<50000000):wC F l b=W0 (AR l b):=by
 unfold wC wx;rw[pJ l (λi=>(i:Int)) (λs=>T1 (s.qN<=b)&&T1 (b<=s.kz)) (λ_ _=>W0 WF) (W0 UV) hF (by rfl) (λi h rc=>?_) (λrc=>?_),Cz]
 ·rw[aH,cI];rfl
 ·rw[cC om,bR h,bR h,b9,gd h,aH,aD,cF,cy om]
 ·rw[cf om]
theorem GL(F:Nat)(l:J ck)(hF:l.length+300<F)(hl:l.length<50000000):Im F l=W0 (DD (λc=>AR l (c:Int)) 256):=by
 generalize hP:(λc:Nat=>AR l (c:Int))=P;have hPc:∀c:Nat,AR l (c:Int)=P c:=λc=>by rw[<-hP]
 refine cG (λs=>∃c:Nat,s=((c:Int),DD P c)/\c<=256) (λs=>256-s.1.toNat) ?_ F _ ⟨0,rfl,om⟩ bp;rintro s ⟨c,rfl,hc⟩;have hdl:=aal P c;by_cases Ki:c<256
 ·left
  refine⟨(((c+1:Nat):Int),DD P (c+1)),⟨c+1,rfl,om⟩,bp,λrc=>?_⟩;dsimp only;rw[cC om,afv Ki,aqF F l _ om hl,aD,hPc,cy om,DD]
  cases hb:P c with
  | false=>rfl
  | true=>
   rw[jd,aM,aY,exD];by_cases h0:0<(DD P c).length
   ·have hm:(DD P c).getD ((DD P c).length-1) gE∈DD P c:=by
     grind
    obtain⟨q,q1,q2,q3⟩:=V1 P c _ hm;rw[cC om,vm om h0,bR om,aD,b9,dT h0,Jq];dsimp only;rw[q2,bN (x:=(q:Int)) om,cy om,show((q:Int)+1==(c:Int))=(((q+1:Nat):Int)==(c:Int))from rfl]
    cases (((q+1:Nat):Int)==(c:Int))with
    | true=>rw[aY,aY,bR om]
    | false=>rw[aM,aM,ez bp om]
   ·rw[cf om,aD,dF h0,Ti]
    rw[aM,aM,ez bp om]
 grind
def RS(set:J Bool)(sp:J ck):Prop:=set.length=256/\∀c:Nat,c<256->set.getD c UV=AR sp (c:Int)
theorem Qe(a b:J ck)(c:Int):AR (a++b) c=(AR a c||AR b c):=by unfold AR;rw[List.any_append]
theorem Sr{st:J Bool}{k:Nat}(h:k<st.length)(c:Nat):(st.set k WF).getD c UV=(st.getD c UV||c==k):=by
 grind
theorem ahK:∀k:Fin 8,∀b:Fin 256,nq 0 (CL.getD k.val pZ).fname (b.val:Int)=W0 (AR (CL.getD k.val pZ).sS (b.val:Int)):=by decide +kernel
theorem ahL(F:Nat){c:mq}(hc:c∈CL){b:Nat}(hb:b<256):nq F c.fname (b:Int)=W0 (AR c.sS (b:Int)):=by
 obtain⟨k,hk,rfl⟩:=lH hc;have:=ahK ⟨k,by rw[<-TN];exact hk⟩ ⟨b,hb⟩;rw[gd hk]at this;exact this
def aam(run:J Int)(c:mq):Bool:=run==cV c.fname
theorem acP(n:Bs)(h:isName n=WF):∃c∈CL,CL.find? (aam (cV n))=W0 c/\c.fname=n:=by
 unfold isName at h;simp at h;rcases h with rfl|rfl|rfl|rfl|rfl|rfl|rfl|rfl
 ·exact⟨CL.getD 0 pZ,by decide,by decide,by decide⟩
 ·exact⟨CL.getD 1 pZ,by decide,by decide,by decide⟩
 ·exact⟨CL.getD 2 pZ,by decide,by decide,by decide⟩
 ·exact⟨CL.getD 3 pZ,by decide,by decide,by decide⟩
 ·exact⟨CL.getD 4 pZ,by decide,by decide,by decide⟩
 ·exact⟨CL.getD 5 pZ,by decide,by decide,by decide⟩
 ·exact⟨CL.getD 6 pZ,by decide,by decide,by decide⟩
 ·exact⟨CL.getD 7 pZ,by decide,by decide,by decide⟩
theorem Ld:∀c∈CL,isName c.fname=WF/\c.fname.length=5/\∀b∈c.fname,97<=b.toNat/\b.toNat<=122:=by decide
theorem XC(x:J fq)(i:Nat):cV (cu (j9 x i))=j9 x i:=by
 unfold cV cu;rw[yD]
 conv=>rhs;rw[<-R8 (j9 x i)]
 refine Zm λv hv=>?_;obtain⟨e,he,rfl⟩:=oK.1 hv;have hl:=List.all_takeWhile (p:=CC) (l:=x.drop i);have:=pE.1 hl e he;unfold CC at this
 grind[UInt8.toNat_ofNat']
theorem afw(x:J fq)(i:Nat):(∃c∈CL,CL.find? (λc=>xL x i ((([91,58]:Bs)++c.fname)++([58,93]:Bs)))=W0 c/\yT x i=(c.fname,((i+9:Nat):Int),WF)/\i+9<=x.length) \/
  (CL.find? (λc=>xL x i ((([91,58]:Bs)++c.fname)++([58,93]:Bs)))=WP/\(yT x i).2.2=UV):=by
 have hp:∀c∈CL,xL x i ((([91,58]:Bs)++c.fname)++([58,93]:Bs))=((eF x i 91&&eF x (i+1) 58)&&((eF x (i+2+(j9 x (i+2)).length) 58&&eF x (i+2+(j9 x (i+2)).length+1) 93)&&aam (j9 x (i+2)) c)):=λc hc=>afu x i c.fname (Ld c hc).2.1 (Ld c hc).2.2
 cases hA:(eF x i 91&&eF x (i+1) 58)with
 | false=>
  right;refine⟨?_,by unfold yT;rw[hA];rfl⟩
  simp_all
 | true=>
  cases hB:(eF x (i+2+(j9 x (i+2)).length) 58&&eF x (i+2+(j9 x (i+2)).length+1) 93)with
  | false=>
   right;refine⟨?_,by unfold yT;rw[hA,hB];rfl⟩
   simp_all
  | true=>
   cases hN:isName (cu (j9 x (i+2)))with
   | true=>
    left;obtain⟨c,h1,h2,h3⟩:=acP _ hN;rw[XC]at h2
    have hlen:(j9 x (i+2)).length=5:=by
     grind[Ld,cV,cu,List.length_map,XC]
    refine⟨c,h1,?_,?_,?_⟩
    ·have:∀(L:J mq),(∀c∈L,c∈CL)->L.find? (λc=>xL x i ((([91,58]:Bs)++c.fname)++([58,93]:Bs)))=L.find? (aam (j9 x (i+2))):=by
      intro L
      induction L with
      | nil=>intro _;rfl
      | cons a L ih=>
       grind
     simp_all
    ·unfold yT
     grind
    ·have h8:=ahE (cH _ _▸hB:_/\_).2
     omega
   | false=>
    right;refine⟨?_,by unfold yT;rw[hA,hB,hN];rfl⟩;rw[List.find?_eq_none];intro c hc;rw[hp c hc,hA,hB];simp
    cases hq:aam (j9 x (i+2)) c with
    | false=>rfl
    | true=>
     unfold aam at hq
     simp_all[Sn,Ld]
theorem ahM(F:Nat)(x:J fq)(i:Nat)(set:J Bool)(sp:J ck)(hF:x.length+1000<F)(hx:x.length<50000000)(hc:Sp x)(hi:i<x.length)(hR:RS set sp):
  ∃(e:Nat)(set':J Bool)(sp':J ck),lP F x (i:Int) set=W0 ((e:Int),set')/\qi F (x.map Iq) (i:Int)=W0 (sp',(e:Int))/\RS set' (sp++sp')/\i<e/\e<=x.length/\sp'.length<=4:=by
 obtain⟨hs,hR⟩:=hR;have hw1:aC ((i:Int)+1)=((i+1:Nat):Int):=cy om;have AQ:aC ((i:Int)+2)=((i+2:Nat):Int):=by grind[bN]
 have Xz:aC ((i:Int)+3)=((i+3:Nat):Int):=by grind[bN]
 have hml:(x.map Iq).length=x.length:=mg _
 have hfb:∀k,k<x.length->((x.map Iq).getD k je).fb=(x.getD k cN).fb:=λk hk=>by
  rw[gd (l:=x.map Iq) (by rw[hml];exact hk),Sa,gd hk];rfl
 have asa:qi F (x.map Iq) (i:Int)=(CL.find? (λc=>xL x i ((([91,58]:Bs)++c.fname)++([58,93]:Bs)))).elim
   (cond (cond (cond (eF x (i+1) 45) (T1 (i+2<x.length)) UV) (!eF x (i+2) 93) UV)
    (cond (T1 ((x.getD i cN).fb<=(x.getD (i+2) cN).fb)) (W0 ([ck.mk (x.getD i cN).fb (x.getD (i+2) cN).fb],((i+3:Nat):Int))) (W0 ([],((i+3:Nat):Int))))
    (W0 ([ck.mk (x.getD i cN).fb (x.getD i cN).fb],((i+1:Nat):Int)))) λc=>W0 (c.sS,((i+9:Nat):Int)):=by
  unfold qi wx;rw[al1,aD]
  rw[pJ CL (λi=>(i:Int)) (λc=>xL x i ((([91,58]:Bs)++c.fname)++([58,93]:Bs))) (λ_ c=>W0 (c.sS,((i+9:Nat):Int))) (cond (cond (cond (eF x (i+1) 45) (T1 (i+2<x.length)) UV) (!eF x (i+2) 93) UV)
    (cond (T1 ((x.getD i cN).fb<=(x.getD (i+2) cN).fb)) (W0 ([ck.mk (x.getD i cN).fb (x.getD (i+2) cN).fb],((i+3:Nat):Int))) (W0 ([],((i+3:Nat):Int))))
    (W0 ([ck.mk (x.getD i cN).fb (x.getD i cN).fb],((i+1:Nat):Int)))) (by rw[TN];omega) (by rfl) (λk hk rc=>?_) (λrc=>?_),NK]
  ·have hm:=afo _ (iJ hk)
   have hk8:k<8:=by rw[<-TN];exact hk
   rw[cC om,bR hk,b9,gd hk,cy om];generalize CL[k]=c at hm;have hl:((([91,58]:Bs)++c.fname)++([58,93]:Bs)).length=9:=by simp;omega
   grind[aC,bN,mW,amT,bR]
  ·rw[cf om,bR om,hw1,AQ,Xz,jA,jE,aD,jA,jE,aH,aD,aD,aH,aD,hml]
   rw[show T1 (((i+2:Nat):Int)<(x.length:Int))=T1 (i+2<x.length)from decide_eq_decide.2 om]
   cases h4:cond (cond (eF x (i+1) 45) (T1 (i+2<x.length)) UV) (!eF x (i+2) 93) UV with
   | false=>simp_all
   | true=>
    have h5:i+2<x.length:=by
     simp_all
    rw[aY,aY,bZ om om,b9,b9,hfb i hi,hfb (i+2) h5]
 rw[asa];have hb:=hc.at hi;rcases afw x i with⟨c,hcm,hfind,hcl,h9⟩|⟨hfind,hcl⟩
 ·rw[hfind]
  refine(λ(h:∃st:J Bool,st.length=256/\(∀b:Nat,b<256->st.getD b UV=(set.getD b UV||AR c.sS (b:Int)))/\lP F x (i:Int) set=W0 (((i+9:Nat):Int),st))=>?_) ?_
  ·obtain⟨st,h1,h2,h3⟩:=h
   exact⟨i+9,st,c.sS,h3,rfl,⟨h1,λb hb=>by simp_all[Qe]⟩,om,h9,(afo c hcm).2⟩
  ·unfold lP wx
   rw[(Sq F x i om om).resolve_right om,hcl,aD,aY]
   obtain⟨r,⟨st,h1,h2,rfl⟩,h3⟩:∃r:Int×J Bool,(∃st:J Bool,st.length=256/\(∀b:Nat,b<256->st.getD b UV=(set.getD b UV||AR c.sS (b:Int)))/\r=(((i+9:Nat):Int),st))/\(bW (σ:=Int×(J Bool)) (R:=Int×(J Bool)) (λgV x2=>
     cond (T1 (x2.1<256))
     ((nq F c.fname x2.1).bind λx4=>
     cond x4
     (rq ((T1 (0<=x2.1))&&((T1 (x2.1<256))&&(T1 (x2.1<(x2.2.length:Int))))) (gV (aC (x2.1+1),x2.2.set (Ts x2.1) WF)))
     (gV (aC (x2.1+1),x2.2)))
     (W0 (((i+9:Nat):Int),x2.2))) F (0,set))=W0 r:=by
    refine iQ _ (λs:Int×J Bool=>∃k:Nat,s.1=(k:Int)/\k<=256/\s.2.length=256/\∀b:Nat,s.2.getD b UV=(set.getD b UV||(T1 (b<k)&&AR c.sS (b:Int)))) (λs=>256-s.1.toNat) ?_ F _ ⟨0,rfl,om,hs,λb=>by simp⟩ bp;rintro⟨ii,st⟩ ⟨k,h0,hk,hl,hst⟩ rc hrc;dsimp only at h0 hl hst⊢;subst h0;by_cases hk:k<256
    ·rw[cC om,ahL F hcm hk,aD,cy om]
     cases hin:AR c.sS (k:Int)with
     | true=>
      rw[aY,vV om om om,b9];refine hrc _ ⟨k+1,rfl,om,by simpa using hl,λb=>?_⟩ bp;dsimp only;rw[Sr om,hst b]
      grind
     | false=>
      refine hrc _ ⟨k+1,rfl,om,hl,λb=>?_⟩ bp
      grind
    grind
   simp_all
 ·rw[hfind]
  show ∃(e:Nat)(set':J Bool)(sp':J ck),_/\(cond _ _ _)=_/\_;unfold lP wx;rw[(Sq F x i om om).resolve_right om,aD,hcl,aM,hw1,AQ,Xz,hU,aD,hU,aH,aD]
  have e1:cond (eF x (i+1) 45) (T1 (((i+2:Nat):Int)<(x.length:Int)),set) (UV,set)=((cond (eF x (i+1) 45) (T1 (i+2<x.length)) UV),set):=by
   grind
  rw[e1];dsimp only;rw[aD,aH,aD];have e2:∀a b:Bool,cond a (b,set) (UV,set)=(cond a b UV,set):=by simp_all
  rw[e2];dsimp only
  cases h4:cond (cond (eF x (i+1) 45) (T1 (i+2<x.length)) UV) (!eF x (i+2) 93) UV with
  | false=>
   rw[aM,aM,bR hi,b9,vV om om om];refine⟨i+1,_,_,rfl,rfl,⟨by simpa using hs,λb nP=>?_⟩,om,om,si⟩;rw[Sr om,hR b nP,Qe];congr 1;unfold AR
   grind
  | true=>
   have h5:i+2<x.length:=by
    simp_all
   have nP:=hc.at h5;rw[aY,aY,bR hi,b9,b9,bN (x:=(x.getD i cN).fb) om,bN (x:=(x.getD (i+2) cN).fb) om];generalize(x.getD i cN).fb=lo at hb;generalize(x.getD (i+2) cN).fb=hi2 at nP
   obtain⟨r,⟨st,h1,h2,rfl⟩,h3⟩:∃r:Int×J Bool,(∃st:J Bool,st.length=256/\(∀b:Nat,b<256->st.getD b UV=(set.getD b UV||(T1 (lo<=(b:Int))&&T1 ((b:Int)<=hi2))))/\r=(((i+3:Nat):Int),st))/\(bW (σ:=Int×(J Bool)) (R:=Int×(J Bool)) (λSs x9=>
     rq ((T1 (0<=((i+2:Nat):Int)))&&(T1 (((i+2:Nat):Int)<(x.length:Int)))) (cond (T1 (x9.1<=hi2))
     (rq ((T1 (0<=x9.1))&&((T1 (x9.1<256))&&(T1 (x9.1<(x9.2.length:Int))))) (Ss (aC (x9.1+1),x9.2.set (Ts x9.1) WF)))
     (W0 (((i+3:Nat):Int),x9.2)))) F (lo,set))=W0 r:=by
    refine iQ _ (λs:Int×J Bool=>lo<=s.1/\s.1<=256/\s.2.length=256/\(∀v:Int,lo<=v->v<s.1->v<=hi2)/\∀b:Nat,s.2.getD b UV=(set.getD b UV||(T1 (lo<=(b:Int))&&T1 ((b:Int)<s.1)))) (λs=>256-s.1.toNat) ?_ F _ ⟨Ze _,om,hs,λv h1 h2=>om,λb=>by
     grind⟩ bp
    rintro⟨ii,st⟩ ⟨h6,h7,hl,hv,hst⟩ rc hrc;dsimp only at h6 h7 hl hv hst⊢;rw[bR h5];by_cases hle:ii<=hi2
    ·rw[cC hle,vV om om om,bN om]
     refine hrc _ ⟨by dsimp only;omega,by dsimp only;omega,by simpa using hl,λv h1 h2=>by dsimp only at h2;omega,λb=>?_⟩ (by dsimp only;omega);dsimp only;rw[Sr om,hst b,Bool.or_assoc]
     grind
    grind
   by_cases hlh:lo<=hi2
   ·rw[cC hlh]
    refine⟨i+3,st,[ck.mk lo hi2],h3,rfl,⟨h1,λb hb3=>?_⟩,om,om,si⟩;rw[h2 b hb3,hR b hb3,Qe];congr 1;unfold AR;simp
   ·rw[cf hlh]
    refine⟨i+3,st,[],h3,rfl,⟨h1,λb hb3=>?_⟩,om,om,si⟩;rw[h2 b hb3,hR b hb3,Qe];congr 1;unfold AR
    grind
theorem N1{σ τ R:Type}{b1:(σ->O R)->σ->O R}{b2:(τ->O R)->τ->O R}(P:σ->τ->Prop)(m:σ->Nat)
  (hs:∀s t,P s t->(∃s' t',P s' t'/\m s'<m s/\(∀rc,b1 rc s=rc s')/\∀rc,b2 rc t=rc t')\/∃z,(∀rc,b1 rc s=W0 z)/\∀rc,b2 rc t=W0 z) :
  ∀(F1 F2:Nat)(s:σ)(t:τ),P s t->m s<F1->m s<F2->∃z,bW b1 F1 s=W0 z/\bW b2 F2 t=W0 z
 | 0,_,s,t,_,h,_=>by omega
 | _+1,0,s,t,_,_,h=>by omega
 | F1+1,F2+1,s,t,hP,h1,h2=>by
  show ∃z,b1 (bW b1 F1) s=W0 z/\b2 (bW b2 F2) t=W0 z;rcases hs s t hP with⟨s',t',g1,g2,g3,g4⟩|⟨z,g1,g2⟩
  ·rw[g3,g4];exact N1 P m hs F1 F2 s' t' g1 om om
  simp_all
theorem aan{P Q:Nat->Bool}:∀k,(∀c,c<k->P c=Q c)->DD P k=DD Q k
 | 0,_=>rfl
 | k+1,h=>by
  unfold DD;rw[aan k λc hc=>h c om,h k om]
theorem afx(F:Nat)(x:J fq)(i:Nat)(hF:4*x.length+1000<F)(hx:x.length<12000000)(hc:Sp x)(hi:i<x.length):∃z,ox F x (i:Int)=W0 z/\qX F (x.map Iq) (i:Int)=W0 z:=by
 have hml:(x.map Iq).length=x.length:=mg _;have hw1:aC ((i:Int)+1)=((i+1:Nat):Int):=cy om;unfold ox qX wx;rw[hw1,hU,aD,hU,aD,aH,aD,cy om,aH,aD,jA,jE,aD,jA,jE,aD,aH,aD,aH,aD];generalize hneg:cond (eF x (i+1) 33) WF (eF x (i+1) 94)=neg
 obtain⟨s0,hs0,hs1,hs2,hy⟩:∃s0:Nat,cond neg (((i+1+1:Nat):Int)) ((i+1:Nat):Int)=(s0:Int)/\i<s0/\s0<=i+2/\cond neg (((i+1+1:Nat):Int),(aE.mk 4 [] UV []).fKind,(aE.mk 4 [] UV []).fText,WF,(aE.mk 4 [] UV []).cY) (((i+1:Nat):Int),(aE.mk 4 [] UV []).fKind,(aE.mk 4 [] UV []).fText,(aE.mk 4 [] UV []).CD,(aE.mk 4 [] UV []).cY)=((s0:Int),4,[],neg,[]):=by
  cases neg
  ·grind
  ·exact⟨i+2,rfl,om,om,rfl⟩
 rw[hs0,hy]
 refine N1 (λ(s:Int×Bool×J Bool)(t:Int×J ck×Bool)=>∃(k:Nat)(fi:Bool)(set:J Bool)(sp:J ck),s=((k:Int),fi,set)/\t=((k:Int),sp,fi)/\i<k/\k<=x.length+2/\RS set sp/\sp.length<=4*k) (λs=>x.length+2-s.1.toNat) ?_ F F _ _ ⟨s0,WF,_,_,rfl,rfl,hs1,om,⟨si,λc h=>by
  rw[aeR,List.getElem?_replicate];simp[h,AR]⟩,si⟩ bp bp
 rintro _ _ ⟨k,fi,set,sp,rfl,rfl,hk,hk2,hR,hl⟩;dsimp only;by_cases yU:k<x.length
 ·have e2:cond (eF x k 93) (!fi,set) (UV,set)=((eF x k 93 && !fi),set):=by cases eF x k 93<;>rfl
  cases h4:(eF x k 93 && !fi)with
  | true=>
   right
   have h5:cond fi WF (!eF x k 93)=UV:=by
    simp_all
   refine⟨(aE.mk 4 [] neg (DD (λc=>set.getD c UV) 256),((k+1:Nat):Int),WF),λrc=>?_,λrc=>?_⟩
   ·rw[cC om,hU,aD,aH,aD,e2,h4]
    rw[aY,cq (by rw[hR.1];rfl),aj1 F set om hR.1,aD,cy om]
   ·rw[jA,jE,aD,aH,hml,cC (show(k:Int)<(x.length:Int) by omega),aD,h5,aM,cf (show ¬ (x.length:Int)<=(k:Int) by omega),GL F sp om om,aD,cy om]
    rw[aan 256 λc hc=>(hR.2 c hc).symm]
  | false=>
   left
   have h5:cond fi WF (!eF x k 93)=WF:=by
    grind
   obtain⟨e,set',sp',g1,g2,g3,g4,g5,g6⟩:=ahM F x k set sp om om hc yU hR;refine⟨_,_,⟨e,UV,set',sp++sp',rfl,rfl,om,om,g3,by grind⟩,bp,λrc=>?_,λrc=>?_⟩
   ·simp_all[cC,hU,aD,aH,aM]
   ·rw[jA,jE,Option.bind_some,aH,hml,cC (show(k:Int)<(x.length:Int) by omega),Option.bind_some,h5,cond_true,g2,Option.bind_some,ez (by dsimp only;omega) om]
 ·right
  simp_all[cf,jA,jE,aD,aH,aM,cC]
theorem afy(F:Nat)(l:J aB)(hF:l.length<F)(rD:4*bX l+1000<F)(h1:l.length<1000000000)(h2:bX l<=10000000):∃p,iB F l=W0 p/\kj F l=W0 p:=by
 unfold iB kj wx;rw[K9 F l hF om h1 om,Ri F l hF om h1 om,aD,aD,aqE];have hx:(l.flatMap nS).length<=bX l:=GH _ Qa _;have hc:=aaf l;generalize(l.flatMap nS)=x at hx hc;have hml:(x.map Iq).length=x.length:=mg _;refine N1 (λ(s t:J aE×Int)=>s=t/\∃k:Nat,s.2=(k:Int)/\k<=x.length/\s.1.length<=k) (λs=>x.length-s.2.toNat) ?_ F F _ _ ⟨rfl,0,rfl,om,si⟩ bp bp;rintro⟨acc,ii⟩ _ ⟨rfl,k,h0,hk,ha⟩;dsimp only at h0 ha⊢;subst h0
 have hex:∀a b:Int,a≠b->eF x k a=WF->eF x k b=UV:=by
  grind[Ag]
 have hfb:k<x.length->((x.map Iq).getD k je).fb=(x.getD k cN).fb:=λhk=>by
  rw[gd (l:=x.map Iq) (by rw[hml];exact hk),Sa,gd hk];rfl
 by_cases yU:k<x.length
 ·left
  have hc1:∀(it:aE),(T1 (acc.length+([it]:J aE).length<=9223372036854775807)&&T1 ((acc.length+([it]:J aE).length)*56<=140737488355328))=WF:=λit=>pI bp om
  cases Rk:eF x k 91 with
  | true=>
   have Rl:=hex 91 42 de Rk;have h63:=hex 91 63 de Rk;obtain⟨z,z1,z2⟩:=afx F x k om om hc yU;obtain⟨r,r1,r2⟩:=Rj F x k om om hc yU;have hzr:z=r:=rQ (z1.symm.trans r2);subst hzr
   cases hz:z.2.2 with
   | true=>
    obtain⟨-,e,g2,g3,g4⟩:=r1 hz;refine⟨(acc++[z.1],(e:Int)),(acc++[z.1],(e:Int)),⟨rfl,e,rfl,g4,bp⟩,bp,λrc=>?_,λrc=>?_⟩
    ·rw[cC om,hU,aD,Rk,aY,z1,aD,hz,aY,cq (hc1 _),g2]
     cases h:rc (acc++[z.1],(e:Int))<;>rfl
    ·rw[hml,cC om,jA,jE,aD,Rl,aM,jA,jE,aD,h63,aM,jA,jE,aD,Rk,aY,z2,aD,hz,aY,cq (hc1 _),g2]
     cases h:rc (acc++[z.1],(e:Int))<;>rfl
   | false=>
    refine⟨(acc++[aE.mk 1 (cu [(x.getD k cN).fb]) UV []],((k+1:Nat):Int)),_,⟨rfl,k+1,rfl,om,bp⟩,bp,λrc=>?_,λrc=>?_⟩
    ·rw[cC om,hU,aD,Rk,aY,z1,aD,hz,aM]
     show((fH F x (k:Int) 42).bind _)=_;rw[hU,aD,Rl,aM,hU,aD,h63,aM,bR yU,cq (hc1 _),cy om,b9]
    ·rw[hml,cC om,jA,jE,aD,Rl,aM,jA,jE,aD,h63,aM,jA,jE,aD,Rk,aY,z2,aD,hz,aM]
     show rq _ (rq _ (rc _))=_
     grind[bR,cq,cy,Int.toNat_natCast]
  | false=>
   cases Rl:eF x k 42 with
   | true=>
    refine⟨(acc++[aE.mk 3 [] UV []],((k+1:Nat):Int)),_,⟨rfl,k+1,rfl,om,bp⟩,bp,λrc=>?_,λrc=>?_⟩
    ·rw[cC om,hU,aD,Rk,aM]
     show((fH F x (k:Int) 42).bind _)=_;rw[hU,aD,Rl,aY,cq (hc1 _),cy om]
    ·rw[hml,cC om,jA,jE,aD,Rl,aY,cq (hc1 _),cy om]
   | false=>
    cases h63:eF x k 63 with
    | true=>
     refine⟨(acc++[aE.mk 2 [] UV []],((k+1:Nat):Int)),_,⟨rfl,k+1,rfl,om,bp⟩,bp,λrc=>?_,λrc=>?_⟩
     ·rw[cC om,hU,aD,Rk,aM]
      show((fH F x (k:Int) 42).bind _)=_;rw[hU,aD,Rl,aM,hU,aD,h63,aY,cq (hc1 _),cy om]
     ·rw[hml,cC om,jA,jE,aD,Rl,aM,jA,jE,aD,h63,aY,cq (hc1 _),cy om]
    | false=>
     refine⟨(acc++[aE.mk 1 (cu [(x.getD k cN).fb]) UV []],((k+1:Nat):Int)),_,⟨rfl,k+1,rfl,om,bp⟩,bp,λrc=>?_,λrc=>?_⟩
     ·rw[cC om,hU,aD,Rk,aM]
      show((fH F x (k:Int) 42).bind _)=_;rw[hU,aD,Rl,aM,hU,aD,h63,aM,bR yU,cq (hc1 _),cy om,b9]
     ·rw[hml,cC om,jA,jE,aD,Rl,aM,jA,jE,aD,h63,aM,jA,jE,aD,Rk,aM]
      show rq _ (rq _ (rc _))=_
      grind[bR,cq,cy,Int.toNat_natCast]
 simp_all[cf]
theorem Le{σ τ R S:Type}{b1:(σ->O R)->σ->O R}{b2:(τ->O S)->τ->O S}(Q:O R->O S->Prop)(P:σ->τ->Prop)(m:σ->Nat)
  (hs:∀s t,P s t->∀rc1 bA,(∀s' t',P s' t'->m s'<m s->Q (rc1 s') (bA t'))->Q (b1 rc1 s) (b2 bA t)) :
  ∀(F1 F2:Nat)(s:σ)(t:τ),P s t->m s<F1->m s<F2->Q (bW b1 F1 s) (bW b2 F2 t)
 | 0,_,s,t,_,h,_=>by omega
 | _+1,0,s,t,_,_,h=>by omega
 | F1+1,F2+1,s,t,hP,h1,h2=>hs s t hP (bW b1 F1) (bW b2 F2) λs' t' g1 g2=>Le Q P m hs F1 F2 s' t' g1 om om
theorem Ir(F:Nat)(p:J aE)(hF:p.length+300<F)(hp:p.length<50000000)(hit:∀it∈p,nr it):mI F p=kR F p:=by
 unfold mI kR wx;refine Le (λa b=>a=b) (λs t=>s=t/\∃k:Nat,s=(k:Int)/\k<=p.length) (λs=>p.length-s.toNat) ?_ F F _ _ ⟨rfl,0,rfl,om⟩ bp bp;rintro _ _ ⟨rfl,k,rfl,hk⟩ rc1 bA hrc;by_cases hk:k<p.length
 ·have hI:=hit _ (iJ hk)
  rw[cC (show(k:Int)<(p.length:Int) by omega),cC (show(k:Int)<(p.length:Int) by omega),bR hk,bR hk,b9,gd hk];generalize p[k]=it at hI;have hl:=hI.2.2;obtain⟨c,hc⟩:=CE F it.cY om om;have hnext:=hrc ((k+1:Nat):Int) ((k+1:Nat):Int) ⟨rfl,k+1,rfl,om⟩ bp;simp only[aH,aD,hc];rw[cy om]
  cases (cond (cond (T1 (it.fKind<1)) WF (T1 (4<it.fKind))) WF ((it.fText.length:Int) != cond (it.fKind==1) 1 0))with
  | true=>rfl
  | false=>
   rw[aM,aM]
   cases (cond (it.fKind != 4) (cond it.CD WF (T1 (0<(it.cY.length:Int)))) UV)with
   | true=>rfl
   | false=>
    rw[aM,aM]
    have hin:∀A:O Bool,bW (σ:=Int) (R:=Bool) (λRm x7=>
       cond (T1 (x7<(it.cY.length:Int)))
       (rq ((T1 (0<=x7))&&(T1 (x7<(it.cY.length:Int)))) ((cond (T1 ((it.cY.getD (Ts x7) gE).kz<(it.cY.getD (Ts x7) gE).qN))
       (W0 WF)
       (cond (T1 (0<x7))
       (rq ((T1 (0<=aC (x7-1)))&&(T1 (aC (x7-1)<(it.cY.length:Int)))) (W0 (T1 (aC ((it.cY.getD (Ts x7) gE).qN)<=aC ((aC ((it.cY.getD (Ts (aC (x7-1))) gE).kz))+1)))))
       (W0 UV)):O Bool).bind λx9=>
       cond x9
       (W0 UV)
       (Rm (aC (x7+1)))))
       A) F 0=cond c A (W0 UV):=by
     intro A;have Ki:=hc;unfold oy wx at Ki
     have hsw:∀(a b:O Bool),b=W0 c->(∃c',b=W0 c'/\a=cond c' A (W0 UV))->a=cond c A (W0 UV):=by
      rintro a b h1 ⟨c',h2,h3⟩;rw[h1]at h2;cases h2;exact h3
     refine hsw _ _ Ki (Le (λa b=>∃c',b=W0 c'/\a=cond c' A (W0 UV)) (λ(s t:Int)=>s=t/\∃j:Nat,s=(j:Int)/\j<=it.cY.length) (λs=>it.cY.length-s.toNat) ?_ F F 0 0 ⟨rfl,0,rfl,om⟩ bp bp);rintro s t hst rcA rcB hAB
     ·obtain⟨rfl,j,rfl,hj⟩:=hst
      by_cases hj:j<it.cY.length
      ·have e:∃b,(cond (T1 ((it.cY.getD (Ts (j:Int)) gE).kz<(it.cY.getD (Ts (j:Int)) gE).qN)) (W0 WF) (cond (T1 (0<(j:Int))) (rq ((T1 (0<=aC ((j:Int)-1)))&&(T1 (aC ((j:Int)-1)<(it.cY.length:Int)))) (W0 (T1 (aC ((it.cY.getD (Ts (j:Int)) gE).qN)<=aC ((aC ((it.cY.getD (Ts (aC ((j:Int)-1))) gE).kz))+1))))) (W0 UV)):O Bool)=W0 b:=by
        by_cases h0:0<j
        ·rw[vm om h0,cC (show(0:Int)<(j:Int) by omega),bZ om om,aH];exact⟨_,rfl⟩
        ·rw[cf (show ¬ (0:Int)<(j:Int) by omega),aH];exact⟨_,rfl⟩
       obtain⟨b,hb⟩:=e;rw[cC (show(j:Int)<(it.cY.length:Int) by omega),cC (show(j:Int)<(it.cY.length:Int) by omega),bR hj,bR hj];simp only[bR hj];rw[hb,aD,aD,cy om]
       cases b with
       | true=>exact⟨UV,rfl,rfl⟩
       | false=>exact hAB _ _ ⟨rfl,j+1,rfl,om⟩ bp
      ·rw[cf (show ¬ (j:Int)<(it.cY.length:Int) by omega),cf (show ¬ (j:Int)<(it.cY.length:Int) by omega)]
       exact⟨WF,rfl,rfl⟩
    rw[hin]
    cases c with
    | true=>exact hnext
    | false=>rfl
 ·rw[cf (show ¬ (k:Int)<(p.length:Int) by omega),cf (show ¬ (k:Int)<(p.length:Int) by omega)]
def iV(n:Nat)(f:Nat->Bool):J Bool:=(R0 n).map f
theorem CG(n:Nat)(f:Nat->Bool):(iV n f).length=n:=by unfold iV;simp
variable{n:Nat}
theorem xM(f:Nat->Bool)(h:i<n):(iV n f).getD i UV=f i:=by
 unfold iV
 simp_all
theorem lz{f g:Nat->Bool}(h:∀i,i<n->f i=g i):iV n f=iV n g:=by
 unfold iV
 simp_all
theorem GM(n i:Nat)(f:Nat->Bool)(b:Bool):(iV n f).set i b=iV n (λj=>cond (j==i) b (f j)):=by
 unfold iV;refine Au si λj h1 h2=>?_
 grind
theorem St(n:Nat):RK n UV=iV n (λ_=>UV):=by
 refine Au (by simp[iV]) λj h1 h2=>?_;simp[iV]
section
variable (p : J aE) (s : Bs)
def TP(i:Nat):aE:=p.getD i gf
def mJ(i:Nat):Bool:=(TP p i).fKind==3
def Su(it:aE)(b:Int):Bool:=
 cond (it.fKind==1) (((it.fText.getD 0 0).toNat:Int)==b) (cond (it.fKind==4) (!((it.cY.any λx=>T1 (x.qN<=b)&&T1 (b<=x.kz))==it.CD)) WF)
def N3(i k:Nat):Bool:=Su (TP p i) ((s.getD k 0).toNat:Int)
def upE(f:Nat->Bool):Nat->Bool
 | 0=>f 0
 | k+1=>f (k+1)||upE f k
def prE(f g:Nat->Bool):Nat->Bool
 | 0=>UV
 | k+1=>f k&&g k
def EE:Nat->Nat->Bool
 | 0,k=>k==0
 | i+1,k=>cond (mJ p i) (upE (EE i) k) (prE (EE i) (N3 p s i) k)
def EP(i k:Nat):Bool:=EE p s i k||(mJ p i&&EE p s (i+1) k)
theorem adW:mJ p p.length=UV:=by
 unfold mJ TP;rw[aeR,Ny (eu _)];rfl
theorem Qf(h:mJ p i=WF)(k:Nat):EE p s (i+1) (k+1)=(EE p s i (k+1)||EE p s (i+1) k):=by
 rw[EE,EE,h];rfl
theorem Lg(h:mJ p i=WF):EE p s (i+1) 0=EE p s i 0:=by rw[EE,h];rfl
theorem V2(h:mJ p i=UV)(k:Nat):EE p s (i+1) (k+1)=(EE p s i k&&N3 p s i k):=by rw[EE,h];rfl
theorem aao(h:mJ p i=UV):EE p s (i+1) 0=UV:=by rw[EE,h];rfl
theorem afz(h:mJ p i=WF):∀k,EE p s i k=WF->EE p s (i+1) k=WF
 | 0,e=>by simp_all[Lg]
 | k+1,e=>by simp_all[Qf]
def yW(f:Nat->Bool):Nat->Bool
 | 0=>f 0
 | i+1=>f (i+1)||(yW f i&&mJ p i)
def wD(f:Nat->Bool)(b k j:Nat):Bool:=(T1 (j<b)&&(f j&&mJ p j))||(T1 (0<j)&&(T1 (j<=b)&&(f (j-1)&&(!mJ p (j-1)&&N3 p s (j-1) k))))
theorem aj2:∀i,yW p (λj=>j==0) i=EP p s i 0:=by
 have hE:∀i,EP p s i 0=EE p s i 0:=by
  unfold EP
  simp_all[Lg]
 intro i
 induction i with
 | zero=>rfl
 | succ i ih=>
  rw[yW]
  grind[aao,Lg]
theorem adX(k:Nat):∀i,i<=p.length->yW p (wD p s (λj=>EP p s j k) p.length k) i=EP p s i (k+1):=by
 have hpre:∀i,i<=p.length->wD p s (λj=>EP p s j k) p.length k i=((mJ p i&&EE p s (i+1) k)||(T1 (0<i)&&(!mJ p (i-1)&&EE p s i (k+1)))):=by
  intro i hi;unfold wD;congr 1
  ·by_cases h:i<p.length
   ·unfold EP
    grind[afz]
   grind[adW,decide_eq_false]
  ·cases i with
   | zero=>simp
   | succ i=>
    unfold EP
    grind[V2]
 intro i
 induction i with
 | zero=>
  intro hi;rw[yW,hpre 0 hi];unfold EP;rw[show EE p s 0 (k+1)=UV from rfl]
  cases hs:mJ p 0 with
  | false=>simp
  | true=>rw[Qf p s hs,show EE p s 0 (k+1)=UV from rfl];simp
 | succ i ih=>
  intro hi;rw[yW,hpre (i+1) hi,ih om]
  have e2:EP p s (i+1) (k+1)=(EE p s (i+1) (k+1)||(mJ p (i+1)&&EE p s (i+2) k)):=by
   unfold EP
   grind[Qf]
  rw[e2];unfold EP
  grind[afz]
theorem aap(f:Nat->Bool)(n:Nat)(h:∀i,i<=n->f i=UV):∀i,i<=n->yW p f i=UV
 | 0,hi=>h 0 hi
 | i+1,hi=>by rw[yW,h _ hi,aap f n h i om];rfl
theorem V3(k:Nat)(h:∀i,i<=p.length->EP p s i k=UV):∀d i,i<=p.length->EP p s i (k+d)=UV
 | 0,i,hi=>h i hi
 | d+1,i,hi=>by
  rw[<-PM,<-adX p s (k+d) i hi];refine aap p _ p.length (λj hj=>?_) i hi;unfold wD;dsimp only;rw[V3 k h d j hj];by_cases h0:0<j
  ·rw[V3 k h d (j-1) om];simp
  ·simp[h0]
theorem ahN(k:Nat):EP p s p.length k=EE p s p.length k:=by unfold EP;rw[adW];simp
end
def Lh(b:Int)(x:ck):Bool:=T1 (x.qN<=b)&&T1 (b<=x.kz)
theorem amV(F:Nat)(it:aE)(b:Int)(hF:300<F)(h:nr it):wF F it b=W0 (Su it b):=by
 unfold wF Su wx
 cases hk:(it.fKind==1)with
 | true=>
  have:=h.1 (eq_of_beq hk)
  rw[aY,aY,mW om]
 | false=>
  cases (it.fKind==4)with
  | false=>rfl
  | true=>
   have hl:=h.2.2;refine cG (λs=>∃k:Nat,s=((it.cY.take k).any (Lh b),(k:Int))/\k<=it.cY.length) (λs=>it.cY.length-s.2.toNat) ?_ F _ ⟨0,rfl,om⟩ bp;rintro s ⟨k,rfl,hk2⟩;by_cases hk2:k<it.cY.length
   ·left
    refine⟨_,⟨k+1,rfl,om⟩,bp,λrc=>?_⟩;rw[bR hk2,b9,aH,aH,cy om,mh hk2,List.any_append];unfold Lh
    simp_all
   ·right
    obtain rfl:k=it.cY.length:=om;intro rc;rw[cf om,vQ];rfl
theorem aj3(F:Nat)(it:aE)(b:Int)(hF:300<F)(h:nr it):Df F it b=W0 (Su it b):=by
 unfold Df Su wx
 cases hk:(it.fKind==1)with
 | true=>
  have:=h.1 (eq_of_beq hk)
  rw[aY,aY,mW om]
 | false=>
  cases (it.fKind==4)with
  | false=>rfl
  | true=>
   have hl:=h.2.2
   have e:wC F it.cY b=W0 (it.cY.any (Lh b)):=by
    refine cG (λs=>∃k:Nat,s=(k:Int)/\k<=it.cY.length/\(it.cY.take k).any (Lh b)=UV) (λs=>it.cY.length-s.toNat) ?_ F _ ⟨0,rfl,om,rfl⟩ bp;rintro s ⟨k,rfl,hk2,hn⟩;by_cases hk2:k<it.cY.length
    ·have hin:(cond (T1 (it.cY[k].qN<=b)) (rq ((T1 (0<=(k:Int)))&&(T1 ((k:Int)<(it.cY.length:Int)))) (W0 (T1 (b<=it.cY[k].kz)))) (W0 UV):O Bool)=W0 (Lh b it.cY[k]):=by
      rw[bR hk2];unfold Lh
      grind
     have aqG:(it.cY.take (k+1)).any (Lh b)=Lh b it.cY[k]:=by
      grind[List.take_succ_eq_append_getElem]
     cases hb:Lh b it.cY[k]with
     | true=>
      right;intro rc;have:=R7.2 ⟨_,iJ hk2,hb⟩;rw[cC om,bR hk2,b9,gd hk2,hin,hb,this]
      rfl
     | false=>
      left;refine⟨_,⟨k+1,rfl,om,by rw[aqG,hb]⟩,bp,λrc=>?_⟩;rw[cC om,bR hk2,b9,gd hk2,hin,hb,cy om];rfl
    grind
   rw[e];rfl
theorem XD(F:Nat)(p:J aE)(f:Nat->Bool)(hF:p.length<F)(hp:p.length<50000000):sU F p (iV (p.length+1) f)=W0 (iV (p.length+1) (yW p f)):=by
 refine cG (λs=>∃k:Nat,s=((k:Int),iV (p.length+1) (λj=>cond (T1 (j<=k)) (yW p f j) (f j)))/\k<=p.length) (λs=>p.length-s.1.toNat) ?_ F _ ⟨0,congrArg (Prod.mk (0:Int)) (lz λi hi=>by
   cases i with
   | zero=>rfl
   | succ i=>simp_all),om⟩ bp
 rintro s ⟨k,rfl,hk⟩;have hlen:∀g:Nat->Bool,(iV (p.length+1) g).length=p.length+1:=λg=>CG _ g;by_cases hk:k<p.length
 ·left
  refine⟨_,⟨k+1,rfl,om⟩,bp,λrc=>?_⟩;rw[cC om,bR hk,bZ om (by rw[hlen];omega),b9,xM _ (show k<p.length+1 by omega),aH,cy om,dT (show k<=k by omega),aY];have e:∀(A B:Bool)(L:J Bool),cond A (B,L) (UV,L)=((A&&B),L):=by simp_all
  rw[e];show cond (yW p f k&&mJ p k) _ _=_
  have e2:iV (p.length+1) (λj=>cond (T1 (j<=k+1)) (yW p f j) (f j))=cond (yW p f k&&mJ p k) ((iV (p.length+1) (λj=>cond (T1 (j<=k)) (yW p f j) (f j))).set (k+1) WF) (iV (p.length+1) (λj=>cond (T1 (j<=k)) (yW p f j) (f j))):=by
   cases hc:(yW p f k&&mJ p k)with
   | true=>
    rw[GM];refine lz λj hj=>?_;by_cases h1:j=k+1
    ·subst h1
     rw[Gt,dT om,yW,hc];simp
    grind
   | false=>
    refine lz λj hj=>?_;by_cases h1:j=k+1
    ·subst h1
     rw[dT (show k+1<=k+1 by omega),dF (show ¬ k+1<=k by omega),yW,hc];simp
    grind
  rw[e2]
  cases hc:(yW p f k&&mJ p k)with
  | true=>rw[aY,aY,bZ om (by rw[hlen];omega),b9]
  | false=>rfl
 ·right
  intro rc;rw[cf om];rw[lz (g:=yW p f) λj hj=>by grind]
theorem ahO(p:J aE)(s:Bs)(f:Nat->Bool)(k j:Nat):wD p s f 0 k j=UV:=by
 unfold wD
 grind
theorem ahP(p:J aE)(s:Bs)(f:Nat->Bool)(b k j:Nat):
  wD p s f (b+1) k j=cond (f b&&mJ p b) (cond (j==b) WF (wD p s f b k j)) (cond (f b&&N3 p s b k) (cond (j==b+1) WF (wD p s f b k j)) (wD p s f b k j)):=by
 unfold wD
 grind
theorem afA(F:Nat)(p:J aE)(s:Bs)(f:Nat->Bool)(k:Nat)(hF:p.length+300<F)(hp:p.length<50000000)(hit:∀it∈p,nr it):
  sC F p (iV (p.length+1) f) ((s.getD k 0).toNat:Int)=W0 (iV (p.length+1) (yW p (wD p s f p.length k))):=by
 unfold sC wx;have hw:aC ((p.length:Int)+1)=((p.length+1:Nat):Int):=cy om;have hlen:∀g:Nat->Bool,(iV (p.length+1) g).length=p.length+1:=λg=>CG _ g;rw[hw,cq (by rw[dT om,dT om,dT om,dT om,dT om];rfl),St];refine cG (λx=>∃b:Nat,x=((b:Int),iV (p.length+1) (wD p s f b k))/\b<=p.length) (λx=>p.length-x.1.toNat) ?_ F _ ⟨0,by grind[lz,ahO],om⟩ bp;rintro x ⟨b,rfl,hb⟩;by_cases hb:b<p.length
 ·left
  refine⟨_,⟨b+1,rfl,om⟩,bp,λrc=>?_⟩;have hki:(TP p b)=p[b]:=by unfold TP;rw[gd hb]
  have hst:(p[b].fKind==3)=mJ p b:=by unfold mJ;rw[hki]
  have hfi:Su p[b] ((s.getD k 0).toNat:Int)=N3 p s b k:=by unfold N3;rw[hki]
  rw[cC om,bR hb,bZ om (by rw[hlen];omega),b9,gd hb,xM _ (show b<p.length+1 by omega),cy om,hst,amV F p[b] _ om (hit _ (iJ hb)),hfi]
  have e:iV (p.length+1) (wD p s f (b+1) k)=cond (f b&&mJ p b) ((iV (p.length+1) (wD p s f b k)).set b WF) (cond (f b&&N3 p s b k) ((iV (p.length+1) (wD p s f b k)).set (b+1) WF) (iV (p.length+1) (wD p s f b k))):=by
   grind[GM,lz,ahP]
  rw[e]
  cases hf:f b with
  | false=>rfl
  | true=>
   cases hs:mJ p b with
   | true=>
    grind[bZ]
   | false=>
    cases hx:N3 p s b k with
    | true=>
     grind[bZ,Int.toNat_natCast]
    | false=>rfl
 ·right
  obtain rfl:b=p.length:=om;intro rc;rw[cf om,XD F p _ om hp,aD]
theorem acQ(F:Nat)(st:J Bool)(hF:st.length<F)(hs:st.length<100000000):∃b,(b=UV->∀i,i<st.length->st.getD i UV=UV)/\sD F st WF=W0 b:=by
 unfold sD wx
 obtain⟨r,hr,h⟩:∃r:Int,(r<0->∀i,i<st.length->st.getD i UV=UV)/\CH F st WF=W0 r:=by
  refine Fk _ (λs=>∃k:Nat,s=(k:Int)/\k<=st.length/\∀i,i<k->st.getD i UV=UV) (λs=>st.length-s.toNat) ?_ F _ ⟨0,rfl,om,λi hi=>om⟩ bp;rintro ii ⟨k,rfl,hk,hn⟩;by_cases hk:k<st.length
  ·cases hv:st.getD k UV with
   | true=>
    right;refine⟨(k:Int),λh=>om,λrc=>?_⟩;rw[cC om,bR hk,b9,hv]
    rfl
   | false=>
    left;refine⟨_,⟨k+1,rfl,om,λi hi=>?_⟩,bp,λrc=>?_⟩
    ·grind
    ·rw[cC om,bR hk,b9,hv,cy om]
     rfl
  ·obtain rfl:k=st.length:=om
   simp_all
 simp_all
theorem adY(F:Nat)(p:J aE)(s:Bs)(hF:p.length+300<F)(rD:s.length+1<F)(hs:s.length<50000000)(hp:p.length<50000000)(hit:∀it∈p,nr it):
  AU F p s=W0 (iV (s.length+1) (EE p s p.length)):=by
 unfold AU wx;have hw:aC ((s.length:Int)+1)=((s.length+1:Nat):Int):=cy om;have hlen:∀g:Nat->Bool,(iV (s.length+1) g).length=s.length+1:=λg=>CG _ g
 have hrq:∀ {α:Type}(x:O α),rq ((T1 (0<=((s.length+1:Nat):Int)))&&((T1 (((s.length+1:Nat):Int)<=((s.length+1:Nat):Int)))&&((T1 (0<((s.length+1:Nat):Int)))&&((T1 (((s.length+1:Nat):Int)<=9223372036854775807))&&(T1 ((1:Int)*((s.length+1:Nat):Int)<=140737488355328)))))) x=x:=by
  grind[cq,dT]
 rw[hw,hrq,b9,mW si,St,GM]
 refine cG (λx:J Bool×Int=>∃i:Nat,x=(iV (s.length+1) (EE p s i),(i:Int))/\i<=p.length) (λx=>p.length-x.2.toNat) ?_ F _ ⟨0,congrArg (λy=>(y,(0:Int))) (lz λj _=>by
   show cond (j==0) WF UV=(j==0);cases (j==0)<;>rfl),om⟩ bp
 rintro x ⟨i,rfl,hi⟩;dsimp only;by_cases hi:i<p.length
 ·left
  refine⟨(iV (s.length+1) (EE p s (i+1)),((i+1:Nat):Int)),⟨i+1,rfl,om⟩,bp,λrc=>?_⟩;rw[cC om,hrq];refine cG (λx:Int×J Bool=>∃k:Nat,x=((k:Int),iV (s.length+1) (λj=>T1 (j<k)&&EE p s (i+1) j))/\k<=s.length+1) (λx=>s.length+1-x.1.toNat) ?_ F _ ⟨0,congrArg (Prod.mk (0:Int)) (lz λj _=>by simp),om⟩ bp;rintro x ⟨k,rfl,hk⟩;dsimp only;by_cases hk:k<=s.length
  ·left
   refine⟨_,⟨k+1,rfl,om⟩,bp,λbA=>?_⟩;have hki:(TP p i)=p[i]:=by unfold TP;rw[gd hi]
   have hst:(p[i].fKind==3)=mJ p i:=by unfold mJ;rw[hki]
   have mN:∀b,b=EE p s (i+1) k->(iV (s.length+1) (λj=>T1 (j<k)&&EE p s (i+1) j)).set k b=iV (s.length+1) (λj=>T1 (j<k+1)&&EE p s (i+1) j):=by
    rintro b rfl;rw[GM]
    grind
   rw[cC om,bR hi,b9,gd (l:=p) hi,hst,cy om]
   cases hs3:mJ p i with
   | true=>
    rw[aY,bZ om (by rw[hlen];omega),b9,xM _ om]
    have hres:∀b,b=EE p s (i+1) k->((W0 ((k:Int),b,iV (s.length+1) (λj=>T1 (j<k)&&EE p s (i+1) j)):O (Int×Bool×(J Bool))).bind λx5=>
      rq ((T1 (0<=x5.1))&&(T1 (x5.1<(x5.2.2.length:Int)))) (bA (((k+1:Nat):Int),x5.2.2.set (Ts x5.1) x5.2.1)))=bA (((k+1:Nat):Int),iV (s.length+1) (λj=>T1 (j<k+1)&&EE p s (i+1) j)):=by
     grind[bZ,Int.toNat_natCast]
    cases he:EE p s i k with
    | true=>simp_all[afz]
    | false=>
     rw[aM]
     cases k with
     | zero=>
      simp_all[cf,Lg]
     | succ k=>
      rw[cC om,vm om om,bZ om (by rw[hlen];omega),b9,xM _ om]
      simp_all[Qf,Nat.add_sub_cancel,dT]
   | false=>
    rw[aM]
    cases k with
    | zero=>
     rw[cf om,bZ om (by rw[hlen];omega),b9,mN UV (by rw[aao p s hs3])]
    | succ k=>
     rw[cC om,vm om om,bZ om (by rw[hlen];omega),b9,Nat.add_sub_cancel,xM _ om]
     cases he:EE p s i k with
     | false=>rw[aM,bZ om (by rw[hlen];omega),b9,mN UV (by simp_all[V2])]
     | true=>
      rw[aY,bR hi,bR (show k<s.length by omega),b9,aj3 F p[i] _ om (hit _ (iJ hi)),aD,bZ om (by rw[hlen];omega),mN _ (by rw[V2 p s hs3,he];unfold N3;rw[hki];rfl)]
  ·right
   obtain rfl:k=s.length+1:=om;intro bA;rw[cf om,cy om,lz (g:=EE p s (i+1)) λj hj=>by simp_all]
 grind
theorem ahQ(F:Nat)(p:J aE)(n:Bs)(hF:p.length+300<F)(rD:n.length+1<F)(hn:n.length<50000000)(hp:p.length<50000000)(hit:∀it∈p,nr it){v:Bool}(hv:mI F p=W0 v):
  Dg F p n=W0 (v&&EE p n p.length n.length):=by
 unfold Dg wx;rw[<-Ir F p hF hp hit,hv,aD,adY F p n hF rD hn hp hit]
 cases v with
 | false=>rfl
 | true=>
  rw[aD,bZ om (by rw[CG];omega),xM _ om];rfl
theorem Names.app{a b:J Bs}(ha:Names a)(hb:Names b):Names (a++b):=λc hc=>by
 rcases p8.1 hc with h|h
 ·exact ha c h
 ·exact hb c h
theorem Names.left{a b:J Bs}(h:Names (a++b)):Names a:=λc hc=>h c (by simp[hc])
theorem V4{n:J Bs}(h:Names n):pathOf n=[47]↔n=[]:=by
 have:=acJ h;rw[qb]at this;simpa using this
structure VT(l:List bF):Prop where
 len:l.length<=128
 root:∃f∈l,f.cj=[47]
 path:∀f∈l,nI f.cj=WF
 dir:∀f∈l,f.oO=WF->f.fData=[]
 aoD:∀f∈l,f.cj=[47]->f.oO=WF
 data:∀f∈l,f.fData.length<=8192
 asc:Rh l
 par:∀f∈l,f.cj≠[47]->∃p∈l,p.cj=qV f.cj/\p.oO=WF
theorem VT.up{l:J bF}(h:VT l):∀(r:J Bs)(m:J Bs)(c:Bs),Names (m++c::r)->(∃f∈l,f.cj=pathOf (m++c::r))->∃f∈l,f.cj=pathOf (m++[c]):=by
 intro r
 induction hn:r.length generalizing r with
 | zero=>
  intro m c _ hf;obtain rfl:r=[]:=Ei hn
  exact hf
 | succ k ih=>
  intro m c hN ⟨f,hf,e⟩;have hr:r≠[]:=by intro e;subst e;simp at hn
  have hne:f.cj≠[47]:=by
   rw[e];intro e';have:=(V4 hN).1 e';simp at this
  obtain⟨p,hp,e1,-⟩:=h.par f hf hne;rw[e,aac hN]at e1
  have e2:(m++c::r).dropLast=m++c::r.dropLast:=by
   rw[List.dropLast_append_of_ne_nil si,List.dropLast_cons_of_ne_nil hr]
  rw[e2]at e1;exact ih r.dropLast (by simp[hn]) m c (by rw[<-e2];exact hN.dropLast) ⟨p,hp,e1⟩
def GI(n:Nat)(o:J (J aB)×J aB):Prop:=(∀c∈o.1,(∀r∈c,r.fText.length=1)/\c.length<=n)/\(∀r∈o.2,r.fText.length=1)/\o.2.length<=n
theorem GI.up{m:Nat}{o:J (J aB)×J aB}(h:GI n o)(hm:n<=m):GI m o:=⟨λc hc=>⟨(h.1 c hc).1,by have:=(h.1 c hc).2;omega⟩,h.2.1,by have:=h.2.2;omega⟩
theorem aaq(cl:Int):∀(t:Bs)(n:Nat)(o:J (J aB)×J aB),GI n o->GI (n+t.length) (t.foldl (mP cl) o)
 | [],n,o,h=>h
 | b::t,n,o,h=>by
  have h2:GI (n+1) (mP cl o b):=by
   obtain⟨h1,h2,h3⟩:=h;unfold mP;cases (b==47)
   ·refine⟨λc hc=>⟨(h1 c hc).1,by have:=(h1 c hc).2;omega⟩,λr hr=>?_,bp⟩
    rcases p8.1 hr with hr|hr
    ·exact h2 r hr
    ·obtain rfl:=vk.1 hr;rfl
   ·refine⟨λc hc=>?_,λr hr=>(by cases hr),si⟩
    rcases p8.1 hc with hc|hc
    ·exact⟨(h1 c hc).1,by have:=(h1 c hc).2;omega⟩
    ·obtain rfl:=vk.1 hc;exact⟨h2,om⟩
  have:=aaq cl t (n+1) _ h2;rwa [show n+1+t.length=n+(b::t).length by simp;omega]at this
theorem aoP:∀(l:J aB)(n:Nat)(o:J (J aB)×J aB),GI n o->GI (n+bX l) (l.foldl Az o)
 | [],n,o,h=>h
 | r::l,n,o,h=>by
  have h2:GI (n+r.fText.length) (Az o r):=by
   unfold Az;cases (r.aL != 0&&(r.aL != 1&&r.aL != 2))
   ·exact aaq _ _ _ _ h
   ·exact h.up om
  have:=aoP l _ _ h2;rwa [show n+r.fText.length+bX l=n+bX (r::l) by simp[bX];omega]at this
theorem aoQ(l:J aB):∀c∈AA l,bX c=c.length/\c.length<=bX l:=by
 have h:=aoP l 0 ([],[]) ⟨λc hc=>(by cases hc),λr hr=>(by cases hr),si⟩;rw[qJ]at h;intro c hc;rcases p8.1 hc with hc|hc
 ·exact⟨afr (h.1 c hc).1,(h.1 c hc).2⟩
 ·obtain rfl:=vk.1 hc;exact⟨afr h.2.1,h.2.2⟩
end Go.Proofs.YtkmlndnhiboofaaGreatDoor
