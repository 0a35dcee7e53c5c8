import Derived.Test.YtjfbblgjjdgjdaaGreatDoorZ2
open Go.Op renaming bytesLess->pD
open Go.Lib renaming indexByte->lO
open UInt8 renaming ofNat->lL
open Nat renaming ble->iO,blt->dE
open Option renaming some->iN,none->iF
open Bool renaming true->hJ,false->eQ
open Decidable renaming decide->eK
open Int renaming toNat->eJ
open Go.IntKind renaming wrap->dO
open List renaming range->bY,replicate->aT,length->Ts
set_option linter.all false
namespace Go.Proofs.YtjfbblgjjdgjdaaGreatDoor
open Go.RT
def cq:Bs->J Bs
 | []=>[[]]|b::l=>cond (b==47) ([]::cq l) (match cq l with
  | []=>[[b]]|p::ps=>(b::p)::ps)
theorem sY(l:Bs):cq l≠[]:=by cases l with|nil=>simp[cq]|cons b l=>unfold cq;grind
theorem Jk(l:Bs):(cq l).length<=Ts l+1:=by
 induction l with|nil=>simp[cq]|cons b l ih=>unfold cq;grind
theorem aan(l:Bs):∀p∈cq l,Ts p<=Ts l:=by
 induction l with|nil=>intro p hp;simp[cq]at hp;subst hp;simp|cons b l ih=>intro p hp;unfold cq at hp;grind
theorem Pd:∀(l:Bs),Lib.splitK [47] 0 (l.count 47) l=cq l
 | []=>rfl|b::l=>by
  have ih:=Pd l;by_cases hb:b=47
  ·subst hb;have hc:((47:UInt8)::l).count 47=l.count 47+1:=by simp
   have hi:Lib.index ((47:UInt8)::l) [47]=0:=by rw[Lib.index_one];simp[lO]
   rw[hc,Lib.splitK,hi];simp only[show((0:Int) == -1)=eQ from rfl];simp[cq,ih]
  ·have Y9:(b==47)=eQ:=by simpa using hb
   have hc:(b::l).count 47=l.count 47:=by simp[List.count_cons,Y9]
   have hi:Lib.index (b::l) [47]=if Lib.index l [47] == -1 then -1 else Lib.index l [47]+1:=by rw[Lib.index_one,Lib.index_one,lO];simp[hb]
   rw[hc];unfold cq;rw[Y9,aJ,<-ih];cases hk:l.count 47 with
   | zero=>simp[Lib.splitK]|succ k=>
    rw[Lib.splitK,Lib.splitK,hi];by_cases hm:Lib.index l [47]=-1
    ·rw[hm];simp
    ·have hge:0<=Lib.index l [47]:=by have:=Lib.indexByte_ge l 47;rw[Lib.index_one]at hm⊢;omega
     have e1:(Lib.index l [47] == -1)=eQ:=by simpa using hm
     have e2:((Lib.index l [47]+1) == -1)=eQ:=by simp;omega
     have e3:(Lib.index l [47]+1).toNat=(Lib.index l [47]).toNat+1:=om;rw[e1];simp only[Rl,TL];rw[e2];simp only[Rl,TL,e3,OV,List.length_singleton];rw[List.take_succ_cons,show(Lib.index l [47]).toNat+1+1=((Lib.index l [47]).toNat+1)+1 from rfl,List.drop_succ_cons]
theorem TX(F:Nat)(s:Bs)(h:Ts s<4294967281):HK F s [47]=iN (cq s):=by unfold HK;rw[cy (by rw[eP h];rfl),Lib.splitB_data];congr 1;rw[<-Pd];congr 1;show Lib.countB _ _=_;unfold Lib.countB;exact Lib.count_one 47 s
theorem Ze:∀(l:Bs)(n:Nat),(∀j,j<n->l.getD j 0≠47)->n<Ts l->l.getD n 0=47->cq l=l.take n::cq (l.drop (n+1))
 | [],n,_,h,_=>by simp at h|b::l,0,_,_,h=>by
  have hb:b=47:=by simpa using h
  subst hb;simp[cq]
 | b::l,n+1,h0,h1,h2=>by
  have hb:(b==47)=eQ:=by have:=h0 0 om;simpa using this
  have ih:=Ze l n (λj hj=>by
   grind) (by simpa using h1) (by simpa using h2)
  rw[cq,hb,ih];simp
theorem Vg:∀(l:Bs),(∀j,j<Ts l->l.getD j 0≠47)->cq l=[l]
 | [],_=>rfl|b::l,h0=>by
  have hb:(b==47)=eQ:=by have:=h0 0 si;simpa using this
  have ih:=Vg l (λj hj=>by
   have:=h0 (j+1) (by simpa using hj);simpa using this)
  unfold cq;rw[hb,aJ,ih]
variable{α:Type}
theorem apq(l:J α)(f k:Nat):sl l (f:Int) (k:Int)=(l.take k).drop f:=by simp[sl]
theorem XF(l:J α)(f:Nat):sl l (f:Int) (Ts l:Int)=l.drop f:=by simp[sl]
def abW(l:J α):sl l 1 (Ts l:Int)=l.drop 1:=XF l 1
theorem RG(l:J α)(k:Nat):sl l 0 (k:Int)=l.take k:=by simp[sl]
theorem ajR(F:Nat)(s:Bs)(hF:Ts s<F)(hs:Ts s<1000000000):Kt F s=iN (cq s):=by
 refine cz (λx=>∃f k:Nat,x.2.1=(f:Int)/\x.2.2=(k:Int)/\f<=k/\k<=Ts s/\x.1.length<=f/\x.1++cq (s.drop f)=cq s/\∀j,f<=j->j<k->s.getD j 0≠47) (λx=>Ts s-x.2.2.toNat) ?_ F _ ⟨0,0,rfl,rfl,om,om,si,si,λj _ hj=>om⟩ (by simpa using hF);rintro⟨o,fr,ii⟩ ⟨f,k,h0,h0',h1,h2,h3,h4,h5⟩;dsimp only at h0 h0' h3 h4 h5⊢;subst h0 h0';by_cases hk:k<Ts s
 ·left;have hg:s.getD k 0=s[k]:=gd hk;cases hb:(s[k]==47)with
  | true=>
   refine⟨(o++[sl s (f:Int) (k:Int)],((k+1:Nat):Int),((k+1:Nat):Int)),⟨k+1,k+1,rfl,rfl,om,om,aQ,?_,λj h h'=>om⟩,aQ,λrc=>?_⟩
   ·have hc:=Ze (s.drop f) (k-f) (λj hj=>by
     have:=h5 (f+j) om om
     simp_all)
    grind[List.drop_drop,apq,List.take_drop]
   ·rw[cm om,ck om om,b9,hg,qm _ 47 om,hb,aS,wX om om om,ck aQ aQ,bZ om]
  | false=>
   refine⟨(o,(f:Int),((k+1:Nat):Int)),⟨f,k+1,rfl,rfl,om,om,h3,h4,λj h h'=>?_⟩,aQ,λrc=>?_⟩
   ·grind
   ·rw[cm om,ck om om,b9,hg,qm _ 47 om,hb,aJ,bZ om]
 ·right;obtain rfl:k=Ts s:=om;intro rc;rw[cf om,wX om om om,ck aQ aQ,<-h4,XF,Vg];simp_all
def zm(b:UInt8):Bool:=b==47||b==0
def lK(s:Bs):Bool:=(eK (1<=Ts s)&&eK (Ts s<=32))&&(!(s==[46])&&(!(s==[46,46]) && !(s.any zm)))
theorem amb(F:Nat)(s:Bs)(hF:Ts s<F)(hs:Ts s<1000000000000):Gj F s=iN (lK s):=by
 unfold Gj wx;rw[oH s (λi=>(i:Int)) zm (λ_ _=>iN eQ) (iN hJ) hF (by rfl) (λi h rc=>?_) (λrc=>?_),Dp]
 ·simp[aH];have e1:(eK ((Ts s:Int)<1)||decide (32<(Ts s:Int)))=!(eK (1<=Ts s)&&eK (Ts s<=32)):=by grind
  unfold lK;grind
 ·rw[cm om,ck om om,ck om om,b9,gd h,qm _ 47 om,qm _ 0 om,aH,bZ om];rfl
 ·rw[cf om]
set_option maxRecDepth 100000 in
theorem arj(F r:Nat)(hr:128<=r)(hF:4<=F):j8 F [47,0] (r:Int)=iN (-1):=by
 unfold j8 wx;rw[dT om,dF om];simp only[aS,aD,aJ];cases h1:((r:Int)==65533)with
 | true=>
  simp only[aS];obtain⟨F,rfl⟩:∃G,F=G+4:=⟨F-4,om⟩;have e0:dec ([47,0]:Bs) 0=(47,1):=by rw[AP de];rfl
  have e1:dec ([47,0]:Bs) 1=(0,1):=by rw[AP de];rfl
  simp[bW,e0,e1,dE];rw[show iO 1 2=hJ from rfl,show iO 2 2=hJ from rfl,show iO 3 2=eQ from rfl];rfl
 | false=>
  simp only[aJ];have hv:tD F (r:Int)=iN hJ\/tD F (r:Int)=iN eQ:=by unfold tD wx;cases eK (0<=(r:Int))<;>cases eK ((r:Int)<55296)<;>cases eK (57343<(r:Int))<;>cases eK ((r:Int)<=1114111)<;>simp
  rcases hv with hv|hv
  ·rw[hv];simp only[aD,gN,aJ];obtain⟨h2,h3,h4⟩:=aeL hr;have hn:aE ((Ts (nI (r:Int)):Int)-1)=((Ts (nI (r:Int))-1:Nat):Int):=uP om om;obtain⟨F,rfl⟩:∃G,F=G+1:=⟨F-1,om⟩;rw[hn];simp only[bW];by_cases e:(nI (r:Int)).length=2
   ·have hx:((([47,0]:Bs).getD 1 0).toNat:Int)≠((((nI (r:Int)).getD 1 0).toNat:Int)):=by rw[e,show 2-1=1 from rfl]at h4;have:(([47,0]:Bs).getD 1 0).toNat=0:=rfl;omega
    rw[e];have hx':(((([47,0]:Bs).getD (eJ ((2-1:Nat):Int)) 0).toNat:Int) != (((nI (r:Int)).getD (eJ ((2-1:Nat):Int)) 0).toNat:Int))=hJ:=by simpa using hx
    have hw:aE (((2-1:Nat):Int)+1)=((2:Nat):Int):=by rw[bO om];rfl
    have NO:sl ([47,0]:Bs) ((2:Nat):Int) ((Ts ([47,0]:Bs):Nat):Int)=[]:=rfl;rw[hx',hw,NO];rw[cm si,ck si si,ck si si,aS,wX si si si,ck si si];unfold strings_IndexByte stringslite_IndexByte sw Y6 wx;simp only[lO,aD];rw[cm de];rfl
   ·rw[cf (by simp only[pM,Da];omega)]
  ·rw[hv];simp only[aD,qi,aS]
theorem amc(F r:Nat)(hr:r<128):∃x,j8 F [47,0] (r:Int)=iN x/\eK (0<=x)=zm (lL r):=by
 unfold j8 strings_IndexByte stringslite_IndexByte sw Y6 wx;rw[dT om,dT om];simp only[aS,aD];refine⟨_,rfl,?_⟩;have hw:(dO .u8 (r:Int)).toNat.toUInt8=lL r:=by
  have:dO .u8 (r:Int)=(r:Int):=by show((r:Int)%256)=r;omega
  rw[this];rfl
 rw[hw];generalize lL r=b;simp only[lO,zm];by_cases h1:b=47
 ·subst h1;rfl
 ·by_cases h2:b=0
  ·subst h2;rfl
  ·have e1:(b==47)=eQ:=by simpa using h1
   have e2:(b==0)=eQ:=by simpa using h2
   have e3:¬ (47:UInt8)=b:=λh=>h1 h.symm;have e4:¬ (0:UInt8)=b:=λh=>h2 h.symm;simp[e1,e2,e3,e4]
theorem ark(l:Bs):eK (0<=Lib.indexAny l [47,0])=l.any zm:=by
 induction l with
 | nil=>rfl|cons b l ih=>
  have hge:=Lib.indexAny_ge [47,0] l;unfold Lib.indexAny;have hc:([47,0]:Bs).contains b=zm b:=by simp[zm,List.contains,List.elem];cases (b==47)<;>cases (b==0)<;>rfl
  rw[hc,List.any_cons];cases hb:zm b with
  | true=>simp|false=>
   simp only[Rl,TL,OZ];rw[<-ih];by_cases h:Lib.indexAny l [47,0]=-1
   ·rw[h];rfl
   ·have:(Lib.indexAny l [47,0] == -1)=eQ:=by simpa using h
    rw[this];simp only[Rl,TL];rw[tC];simp only[fV];omega
theorem amd(F:Nat)(s:Bs)(hs:Ts s<=8)(hF:10<=F):∃x,strings_IndexAny F s [47,0]=iN x/\eK (0<=x)=s.any zm:=by
 have key:∀(n p G:Nat),Ts s-p<=n->p<=Ts s->n<G->(∀j,j<p->zm (s.getD j 0)=eQ)->∃x,bW (σ:=Bs×Int) (R:=Int) (λwV x4=>
  cond (dE (eJ x4.2) x4.1.length)
  ((j8 F [47,0] ((dec x4.1 (eJ x4.2)).1:Int)).bind λx6=>
  cond (eK (0<=x6))
  (iN (((eJ x4.2):Nat):Int))
  (wV (x4.1,((((eJ x4.2)+(dec x4.1 (eJ x4.2)).2):Nat):Int))))
  (iN (-1))) G (s,((p:Nat):Int))=iN x/\eK (0<=x)=s.any zm:=by
  intro n
  induction n with
  | zero=>
   intro p G h1 h2 h3 h4;obtain rfl:p=Ts s:=om;obtain⟨G,rfl⟩:∃H,G=H+1:=⟨G-1,om⟩;refine⟨-1,?_,?_⟩
   ·simp only[bW,b9];rw[atr om];rfl
   ·have:s.any zm=eQ:=by rw[List.any_eq_false];intro b hb;obtain⟨j,hj,rfl⟩:=lE hb;have:=h4 j hj;rw[gd hj]at this;simp[this]
    rw[this];rfl
  | succ n ih=>
   intro p G h1 h2 h3 h4;obtain⟨G,rfl⟩:∃H,G=H+1:=⟨G-1,om⟩;by_cases hp:p<Ts s
   ·simp only[bW,b9];rw[att hp,aS];by_cases ha:(s.getD p 0).toNat<128
    ·rw[AP ha];obtain⟨x,hx,hx2⟩:=amc F _ ha;have hof:lL (s.getD p 0).toNat=s.getD p 0:=by simp
     rw[hof]at hx2;rw[show(((s.getD p 0).toNat,1):Nat×Nat).1=(s.getD p 0).toNat from rfl,hx,aD,hx2];cases hb:zm (s.getD p 0)with
     | true=>
      refine⟨(p:Int),rfl,?_⟩;have:s.any zm=hJ:=by rw[TK];exact⟨s[p],fm hp,by rw[<-gd hp];exact hb⟩
      rw[this,dT om]
     | false=>
      rw[aJ]
      exact ih (p+1) G om om om (λj hj=>by
       by_cases e:j=p
       ·subst e;exact hb
       ·exact h4 j om)
    ·obtain⟨d1,d2,d3,d4⟩:=ame ha;rw[arj F _ d1 om,aD];rw[cf om];have:=d3 hp
     exact ih (p+(dec s p).2) G om om om (λj hj=>by
      by_cases e:j<p
      ·exact h4 j e
      ·have h:=d4 (j-p) om;rw[show p+(j-p)=j by omega]at h;unfold zm;have e1:(s.getD j 0==47)=eQ:=by simp only[iq,ne_eq];intro e;rw[e]at h;exact absurd h de
       have e2:(s.getD j 0==0)=eQ:=by simp only[iq,ne_eq];intro e;rw[e]at h;exact absurd h de
       rw[e1,e2];rfl)
   ·obtain rfl:p=Ts s:=om;exact ih s.length (G+1) om om om h4
 obtain⟨x,h1,h2⟩:=key s.length 0 F om om om (λj hj=>om);refine⟨x,?_,h2⟩;unfold strings_IndexAny strings_shouldUseASCIISet wx;rw[show(([47,0]:Bs)==[])=eQ from rfl,aJ,show(((Ts ([47,0]:Bs):Nat):Int)==1)=eQ from rfl,aJ];simp only[aD];rw[cf om];exact h1
theorem atu(F:Nat)(s:Bs)(hs:Ts s<=32)(hF:10<=F):strings_ContainsAny F s [47,0]=iN (s.any zm):=by
 unfold strings_ContainsAny abK wx;by_cases h8:Ts s<=8
 ·obtain⟨x,h1,h2⟩:=amd F s h8 hF;rw[aaV h8,aS,h1,aD,h2]
 ·have:iO s.length 8=eQ:=by
   cases h:iO s.length 8
   ·rfl
   ·exact absurd (lS h) h8
  rw[this,aJ,cy,aD,ark];rw[dT om];rfl
theorem afU(F:Nat)(s:Bs)(hF:10<=F):xj F s=iN (lK s):=by
 unfold xj wx;simp only[aH,aD,cF];have e1:(eK (1<=(Ts s:Int))&&eK ((Ts s:Int)<=32))=(eK (1<=Ts s)&&eK (Ts s<=32)):=by rw[tC];simp only[cL,fV];omega
 rw[e1];unfold lK;cases h1:(eK (1<=Ts s)&&eK (Ts s<=32))
 ·rfl
 ·simp only[cL,fV]at h1;rw[atu F s h1.2 hF];cases (s==[46])<;>cases (s==[46,46])<;>rfl
def gG(s:Bs):Bool:=s==[47]||((eK (2<=Ts s)&&eK (Ts s<=128))&&(s.getD 0 0==47&&(cq (s.drop 1)).all lK))
theorem Zf(p:J Bs):cond (p.any λn=>!lK n) (iN eQ) (iN hJ)=iN (p.all lK):=by grind
theorem abX(F:Nat)(s:Bs)(hF:200<=F):xl F s=iN (gG s):=by
 unfold xl gG wx;cases h1:(s==[47])with
 | true=>rfl|false=>
  simp only[aJ,aH,aD,cT];by_cases h2:2<=Ts s/\s.length<=128
  ·rw[dF om,dF om,Bool.or_self,aJ,kJ om,aD,Vb _ 47 om,dT h2.1,dT h2.2];cases h3:(s.getD 0 0==47)with
   | false=>rfl|true=>
    rw[gN,ck om om,abW,ajR F _ aQ aQ,aD];have hl:=Jk (s.drop 1);have hm:=aan (s.drop 1);simp only[Km]at hl hm;rw[oH (cq (s.drop 1)) (λi=>(i:Int)) (λn=>!lK n) (λ_ _=>iN eQ) (iN hJ) om (by rfl) (λi h rc=>?_) (λrc=>?_),Dp,Zf]
    ·rfl
    ·have:=hm _ (fm h);rw[cm om,ck om om,b9,gd h,amb F _ om om,aD,bZ om]
    ·rw[cf om]
  grind
theorem ajS(F:Nat)(s p:Bs):cE F s p=iN (eK (Ts p<=Ts s)&&s.take p.length==p):=by
 unfold cE kD wx;by_cases h:Ts p<=Ts s
 ·rw[cm om,ck om om,dT h,RG];rfl
 ·rw[dF om,dF h];rfl
theorem afV(F:Nat)(s:Bs)(hF:200<=F):xo F s=iN (gG s):=by
 unfold xo gG wx;cases h1:(s==[47])with
 | true=>rfl|false=>
  have hne:s≠[47]:=by simpa using h1
  simp only[aJ,OZ];rw[ajS];simp only[aD,aH,cT];by_cases h2:2<=Ts s/\s.length<=128
  ·rw[dF om,OZ,dT h2.1,dT h2.2];have e:(eK (Ts ([47]:Bs)<=Ts s)&&s.take ([47]:Bs).length==[47])=(s.getD 0 0==47):=by rw[dT aQ];cases s with|nil=>simp at h2|cons b l=>simp
   rw[e];cases h3:(s.getD 0 0==47)with
   | false=>rfl|true=>
    rw[gN,aJ,ck om om,abW,TX F _ aQ];simp only[aD];have hl:=Jk (s.drop 1);simp only[Km]at hl;rw[oH (cq (s.drop 1)) (λi=>(i:Int)) (λn=>!lK n) (λ_ _=>iN eQ) (iN hJ) om (by rfl) (λi h rc=>?_) (λrc=>?_),Dp,Zf]
    ·rfl
    ·rw[cm om,ck om om,b9,gd h,afU F _ om,aD,bZ om]
    ·rw[cf om]
  ·have h3:(eK (2<=Ts s)&&eK (Ts s<=128))=eQ:=by rw[UW];simp only[agU];omega
   rw[h3];have:(eK (128<(Ts s:Int)) || !(eK (Ts ([47]:Bs)<=Ts s)&&s.take ([47]:Bs).length==[47]))=hJ:=by
    by_cases h4:128<Ts s
    ·rw[dT om];rfl
    ·have h5:Ts s<2:=om;rw[Mh,wO,UW];right
     match s,h5 with|[],_=>left;rfl|[b],_=>right;simp at hne⊢;exact hne
   rw[this];rfl
def qQ(s:Bs):Nat:=(Lib.lastIndexByte ⟨⟨s⟩⟩ 47).toNat
def iR(s:Bs):Bs:=cond (qQ s==0) [47] (s.take (qQ s))
theorem b47(b:UInt8):((b.toNat:Int)=47)↔b=47:=by have:=qm b 47 om;rw[tC]at this;simpa using this
theorem Mu(s:Bs):(Lib.lastIndexByte ⟨⟨s⟩⟩ 47=-1/\∀j,j<Ts s->s.getD j 0≠47) \/
  ∃i:Nat,i<Ts s/\Lib.lastIndexByte ⟨⟨s⟩⟩ 47=i/\s.getD i 0=47/\∀j,i<j->j<Ts s->s.getD j 0≠47:=by
 have h:=Lib.lastIdx_spec ⟨⟨s⟩⟩ 47 s.length;simp[b47]at h;exact h
theorem Vh(s:Bs)(a:Nat)(h1:(a<Ts s/\s.getD a 0=47)\/a=0)(h2:∀j,a<j->j<Ts s->s.getD j 0≠47):qQ s=a:=by unfold qQ;grind[Mu,Nat.lt_trichotomy]
theorem amf(s:Bs):((qQ s<Ts s/\s.getD (qQ s) 0=47)\/qQ s=0)/\∀j,qQ s<j->j<Ts s->s.getD j 0≠47:=by unfold qQ;grind[Mu]
theorem ajT(s:Bs):qQ s<=Ts s:=by grind[amf]
theorem apr(F:Nat)(s:Bs)(hF:Ts s<F)(hs:Ts s<1000000000):Pe F s=iN (qQ s:Int):=by
 refine cz (λx=>∃a k:Nat,x.1=(a:Int)/\x.2=(k:Int)/\k<=Ts s/\((a<k/\s.getD a 0=47)\/a=0)/\∀j,a<j->j<k->s.getD j 0≠47) (λx=>Ts s-x.2.toNat) ?_ F _ ⟨0,0,rfl,rfl,om,.inr rfl,λj _ hj=>om⟩ (by simpa using hF);rintro⟨aa,ii⟩ ⟨a,k,h0,h0',h1,h2,h3⟩;subst h0 h0';by_cases hk:k<Ts s
 ·left;have hg:s.getD k 0=s[k]:=gd hk;cases hb:(s[k]==47)with
  | true=>refine⟨((k:Int),((k+1:Nat):Int)),⟨k,k+1,rfl,rfl,om,.inl ⟨om,by simp_all⟩,λj h h'=>om⟩,aQ,λrc=>?_⟩;rw[cm om,ck om om,b9,hg,qm _ 47 om,hb,aS,bZ om]|false=>
   refine⟨((a:Int),((k+1:Nat):Int)),⟨a,k+1,rfl,rfl,om,?_,λj h h'=>?_⟩,aQ,λrc=>?_⟩
   ·grind
   ·grind
   ·rw[cm om,ck om om,b9,hg,qm _ 47 om,hb,aJ,bZ om]
 ·right;obtain rfl:k=Ts s:=om;intro rc;rw[cf om,Vh s a h2 h3]
theorem ahw(F:Nat)(s:Bs)(hF:Ts s<F)(hs:Ts s<1000000000):BC F s=iN (iR s):=by
 unfold BC iR wx;rw[apr F s hF hs,aD];have:=ajT s;by_cases h:qQ s=0
 ·rw[h];rfl
 ·have e1:((qQ s:Int)==0)=eQ:=by simpa using h
  have e2:(qQ s==0)=eQ:=by simpa using h
  rw[e1,e2,aJ,aJ,ck om om,RG]
theorem ajU(F:Nat)(s:Bs)(hs:Ts s<1000000000):TY F s 47=iN (Lib.lastIndexByte ⟨⟨s⟩⟩ 47):=by grind[TY,kJ]
theorem Zg(F:Nat)(s:Bs)(hs:Ts s<1000000000):BD F s=iN (iR s):=by
 unfold BD iR wx;rw[ajU F s hs,aD];have hc:=ajT s;unfold qQ at *;rcases Mu s with⟨e,h⟩|⟨i,hi,e,h3,h4⟩
 ·rw[e];rfl
 ·rw[e]at hc⊢;by_cases h:i=0
  ·subst h;rfl
  ·have e2:(((i:Int).toNat)==0)=eQ:=by simpa using h
   rw[cf om,ck om om,e2];rfl
def Jl(p:Bs)(f:aZ):Bool:=f.bM==p
def ji(l:J aZ)(p:Bs):O aZ:=l.find? (Jl p)
def Ku(l:J aZ)(p:Bs):Bool:=l.any (Jl p)
theorem find_eq(F:Nat)(l:J aZ)(p:Bs)(hF:Ts l<F)(hl:Ts l<1000000000):sD F l p=iN ((ji l p).elim (aZ.mk [] eQ [],eQ) λf=>(f,hJ)):=by
 unfold sD wx;rw[oH l (λi=>(i:Int)) (Jl p) (λ_ f=>iN (f,hJ)) (iN (aZ.mk [] eQ [],eQ)) hF (by rfl) (λi h rc=>?_) (λrc=>?_),Ji]
 ·unfold ji;cases l.find? (Jl p)<;>rfl
 ·rw[cm om,ck om om,b9,gd h,bZ om];rfl
 ·rw[cf om]
def fiS(l:J aZ)(p:Bs):Int:=(l.findIdx? (Jl p)).elim (-1) λj=>(j:Int)
theorem amg(F:Nat)(l:J aZ)(p:Bs)(hF:Ts l<F)(hl:Ts l<1000000000):Gk F l p=iN (fiS l p):=by
 unfold Gk fiS wx;rw[oH l (λi=>(i:Int)) (Jl p) (λi _=>iN (i:Int)) (iN (-1)) hF (by rfl) (λi h rc=>?_) (λrc=>?_),TZ _ _ _ cw]
 ·cases l.findIdx? (Jl p)<;>simp
 ·rw[cm om,ck om om,b9,gd h,bZ om];rfl
 ·rw[cf om]
theorem ajV(l:J aZ)(p:Bs):(l.findIdx? (Jl p)=iF/\ji l p=iF/\Ku l p=eQ)\/∃j,j<Ts l/\l.findIdx? (Jl p)=iN j/\ji l p=iN (l.getD j cw)/\Ku l p=hJ:=by
 unfold ji Ku
 induction l with|nil=>simp_all|cons f l ih=>grind
theorem T3(l:J aZ)(p:Bs):(fiS l p=-1/\ji l p=iF/\Ku l p=eQ)\/∃j:Nat,j<Ts l/\fiS l p=(j:Int)/\ji l p=iN (l.getD j cw)/\Ku l p=hJ:=by unfold fiS;grind[ajV]
def BE(a p:Bs):Bool:=cond (a==[47]) (!(p==[47])) (eK (Ts a+1<=Ts p)&&p.take (Ts a+1)==a++[47])
theorem ajW(F:Nat)(a p:Bs):D7 F a p=iN (BE a p):=by
 unfold D7 BE wx;cases (a==[47])
 ·by_cases h:Ts a+1<=Ts p
  ·have hl:Ts a<Ts p:=om;rw[cm om,ck om om,RG,aD,dT h];have e:(p.take (Ts a+1)==a++[47])=(p.take a.length==a&&p.getD a.length 0==47):=by rw[kT hl];grind[List.append_inj]
   rw[e];cases (p.take a.length==a)
   ·rfl
   ·rw[ck om om,qm _ 47 om];rfl
  grind
 ·rfl
def Jm(l:J aZ)(p:Bs):Int:=cond (l.any λf=>!f.lV&&BE f.bM p) 18 (cond (Ku l (iR p)) 0 8)
theorem amh(F:Nat)(l:J aZ)(p:Bs)(hF:Ts l<F)(hl:Ts l<1000000000)(hp:Ts p<1000000000)(hpF:Ts p<F):BG F l p=iN (Jm l p):=by
 unfold BG wx;rw[oH l (λi=>(i:Int)) (λf=>!f.lV&&BE f.bM p) (λ_ _=>iN 18) (iN (cond (Ku l (iR p)) 0 8)) hF (by rfl) (λi h rc=>?_) (λrc=>?_),Dp,aH]
 ·rfl
 ·rw[ck om om,ck om om,b9,ajW F _ _,bZ om];grind
 ·rw[cf om,ahw F p hpF hp,aD,amg F l _ hF hl];rcases T3 l (iR p)with⟨h1,h2,h3⟩|⟨j,h0,h1,h2,h3⟩
  ·rw[h1,h3];rfl
  grind
def NS(l:J aZ)(k:Nat):Int:=
 cond (!gG (l.getD k cw).bM) 10
 (cond (((l.getD k cw).lV && !((l.getD k cw).fData==[]))||((l.getD k cw).bM==[47] && !(l.getD k cw).lV)) 1
 (cond (eK (8192<(l.getD k cw).fData.length)) 3
 (cond (eK (0<k)&&(pD (l.getD k cw).bM (l.getD (k-1) cw).bM||(l.getD k cw).bM==(l.getD (k-1) cw).bM)) 25
 (cond (eK (0<k)) (Jm (l.take k) (l.getD k cw).bM) 0))))
def Zh(l:J aZ):Nat->Nat->Int|0,_=>0|n+1,k=>cond (NS l k==0) (Zh l n (k+1)) (NS l k)
def iV(l:J aZ):Int:=cond (eK (128<Ts l)) 4 (cond (Ts l==0 || !((l.getD 0 cw).bM==[47])) 8 (Zh l l.length 0))
def Pf(l:J aZ):Prop:=Ts l<=140/\∀f∈l,Ts f.bM<=300/\f.fData.length<=9000
theorem Pf.at{l:J aZ}(h:Pf l)(k:Nat):(l.getD k cw).bM.length<=300/\(l.getD k cw).fData.length<=9000:=by
 by_cases hk:k<Ts l
 ·rw[gd hk];exact h.2 _ (fm hk)
 ·have:l.getD k cw=cw:=by simp_all
  rw[this];exact⟨by decide,by decide⟩
theorem atv(l:J aZ):(cond ((Ts l:Int)==0)
 (iN hJ)
 (rq (eK (0<(Ts l:Int))) (iN (!(((l.getD 0 cw).bM)==([47]:Bs))))):O Bool)=iN (Ts l==0 || !((l.getD 0 cw).bM==[47])):=by
  cases l with
  | nil=>rfl|cons f l=>
   have e1:(((Ts (f::l):Nat):Int)==0)=eQ:=by simp;omega
   have e2:(Ts (f::l)==0)=eQ:=by simp
   rw[e2,kJ si];rfl
theorem ami(l:J aZ)(k:Nat)(r:O Int):cond (!gG (l.getD k cw).bM) (iN 10)
 (cond (((l.getD k cw).lV && !((l.getD k cw).fData==[]))||((l.getD k cw).bM==[47] && !(l.getD k cw).lV)) (iN 1)
 (cond (eK (8192<(l.getD k cw).fData.length)) (iN 3)
 (cond (eK (0<k)&&(pD (l.getD k cw).bM (l.getD (k-1) cw).bM||(l.getD k cw).bM==(l.getD (k-1) cw).bM)) (iN 25)
 (cond (eK (0<k)) (cond (Jm (l.take k) (l.getD k cw).bM != 0) (iN (Jm (l.take k) (l.getD k cw).bM)) r) r))))=cond (NS l k==0) r (iN (NS l k)):=by
 unfold NS;grind
theorem atw{l:J aZ}{body:(Int->O Int)->Int->O Int}(F:Nat)(hF:Ts l<F)(hs:∀(k:Nat) rc,k<Ts l->body rc (k:Int)=cond (NS l k==0) (rc ((k+1:Nat):Int)) (iN (NS l k)))(he:∀rc,body rc (Ts l:Int)=iN 0):bW body F 0=iN (Zh l l.length 0):=by
 refine cz (λx=>∃k n:Nat,x=(k:Int)/\k+n=Ts l/\Zh l n k=Zh l l.length 0) (λx=>Ts l-x.toNat) ?_ F _ ⟨0,Ts l,rfl,om,rfl⟩ (by simpa using hF);rintro x ⟨k,n,rfl,h1,h2⟩;cases n with
 | zero=>right;obtain rfl:k=Ts l:=om;intro rc;rw[he,<-h2];rfl
 | succ n=>rw[Zh]at h2;cases hv:(NS l k==0)with|true=>left;rw[hv]at h2;exact⟨_,⟨k+1,n,rfl,om,h2⟩,aQ,λrc=>by grind⟩|false=>grind
theorem arl(l:J aZ)(k:Nat)(hk:k<Ts l)(hl:Ts l<1000000000):(cond (eK (0<(k:Int)))
 (rq ((eK (0<=aE ((k:Int)-1)))&&(eK (aE ((k:Int)-1)<(Ts l:Int)))) (iN (pD ((l.getD k cw).bM) ((l.getD (eJ (aE ((k:Int)-1))) cw).bM)||((l.getD k cw).bM)==((l.getD (eJ (aE ((k:Int)-1))) cw).bM))))
 (iN eQ):O Bool)=iN (eK (0<k)&&(pD (l.getD k cw).bM (l.getD (k-1) cw).bM||(l.getD k cw).bM==(l.getD (k-1) cw).bM)):=by
  by_cases h0:0<k
  ·rw[cm om,uP om h0,ck om om,b9,dT h0,Ko]
  simp_all
theorem auT(k:Nat):eK (0<(k:Int))=eK (0<k):=by simp_all
theorem amj(n k:Nat):eK ((k:Int)<(n:Int))=eK (k<n):=by simp_all
theorem ajX(F:Nat)(l:J aZ)(hF:400<=F)(h:Pf l):D8 F l=iN (iV l):=by
 have hl:=h.1;unfold D8 iV wx;rw[show eK (128<(Ts l:Int))=eK (128<Ts l)from amj _ 128,atv];cases eK (128<Ts l)with
 | true=>rfl|false=>
  cases (Ts l==0 || !((l.getD 0 cw).bM==[47]))with
  | true=>rfl|false=>
   refine atw F om (λk rc hk=>?_) (λrc=>?_)
   ·rw[cm om,ck om om,b9,abX F _ om,arl l k hk om];simp only[aH,cF,aD,cT];rw[show eK (8192<(((l.getD k cw).fData.length:Nat):Int))=eK (8192<(l.getD k cw).fData.length)from amj _ 8192,auT,ck om om,RG];have:=(h.at k).1;rw[amh F (l.take k) _ aQ aQ om om,aD,bZ om,<-ami]
   ·rw[cf om]
theorem amk(F:Nat)(l:J aZ)(hF:200<=F):∃b,(b=hJ->Pf l)/\Kv F l=iN b:=by
 refine BH (λb=>b=hJ->Pf l) (λx=>∃n k:Nat,x.1=(n:Int)/\x.2=(k:Int)/\k<=Ts l/\k<=140/\n<=10000*k/\∀f∈l.take k,Ts f.bM<=300/\f.fData.length<=9000) (λx=>140-x.2.toNat) ?_ F _ ⟨0,0,rfl,rfl,om,om,om,si⟩ aQ;rintro⟨nn,ii⟩ ⟨n,k,h0,h0',h1,h2,h3,h4⟩;subst h0 h0';simp only[aH,cF,aD];by_cases hc:k<Ts l/\k<140/\n<40000
 ·have hk:=hc.1;have e:((eK ((k:Int)<(Ts l:Int))&&eK ((k:Int)<140))&&eK ((n:Int)<40000))=hJ:=by grind
  rw[e];simp only[aS,b9,gd hk];by_cases hb:l[k].bM.length<=300/\l[k].fData.length<=9000
  ·left;refine⟨(((n+l[k].bM.length+l[k].fData.length:Nat):Int),((k+1:Nat):Int)),⟨_,k+1,rfl,rfl,om,om,om,λf hf=>?_⟩,aQ,λrc=>?_⟩
   ·grind[List.take_succ_eq_append_getElem,List.mem_singleton]
   ·grind[bO,ck]
  ·right;refine⟨eQ,λh=>(by cases h),λrc=>?_⟩;rw[ck om om];by_cases hp:l[k].bM.length<=300
   ·rw[cf om,ck om om,dT om];rfl
   grind
 ·have e:((eK ((k:Int)<(Ts l:Int))&&eK ((k:Int)<140))&&eK ((n:Int)<40000))=eQ:=by grind
  right;rw[e];refine⟨_,λh=>?_,λrc=>rfl⟩;simp only[cL,fV]at h;refine⟨om,λf hf=>h4 f ?_⟩;grind
variable{l:J Bs}
theorem aml(h:l.Pairwise (· < ·)):rL l=l:=by
 have hn:l.Nodup:=h.imp λ{a b} hab e=>by grind
 exact RH (Zi hn) h λx=>(uV l).mem_iff
set_option maxRecDepth 100000
theorem w2:zA 60 [47] [46,46]=iN ([47],0):=by kernel_rfl
def dX:J Bs->Bs|[]=>[]|[x]=>x|x::y::l=>x++47::dX (y::l)
theorem join_eq:∀(l:J Bs),Lib.join l [47]=dX l|[]=>rfl|[x]=>by simp[Lib.join,dX]|x::y::l=>by have ih:=join_eq (y::l);simp only[Lib.join]at ih⊢;rw[dX,<-ih];simp
theorem Mv(x:Bs)(h:l≠[]):dX (x::l)=x++47::dX l:=by cases l with|nil=>exact absurd rfl h|cons y l=>rfl
theorem Gl:∀(l:J Bs)(c:Bs),l≠[]->dX (l++[c])=dX l++47::c|[],c,h=>absurd rfl h|[x],c,_=>rfl|x::y::l,c,_=>by have ih:=Gl (y::l) c si;rw[sU,Mv x si,ih,dX];simp
theorem Vi:∀(s:Bs),dX (cq s)=s
 | []=>rfl|b::l=>by
  have ih:=Vi l;rw[cq];cases hb:(b==47)with
  | true=>rw[aS,Mv _ (sY l),ih];rw[eq_of_beq hb];rfl|false=>
   rw[aJ];cases hp:cq l with
   | nil=>exact absurd hp (sY l)|cons p ps=>rw[hp]at ih;cases ps with|nil=>rw[dX]at ih⊢;rw[ih]|cons q qs=>rw[dX]at ih⊢;rw[sU,ih]
def rT(c:Bs):Prop:=∀b∈c,b≠47
theorem Vj:∀(c:Bs),rT c->cq c=[c]
 | [],_=>rfl|b::c,h=>by
  have hb:(b==47)=eQ:=by simpa using h b si
  rw[cq,hb,aJ,Vj c λx hx=>h x (by simp[hx])]
theorem Jn:∀(c r:Bs),rT c->cq (c++47::r)=c::cq r
 | [],r,_=>by rw[oe];rfl|b::c,r,h=>by
  have hb:(b==47)=eQ:=by simpa using h b si
  rw[sU,cq,hb,aJ,Jn c r λx hx=>h x (by simp[hx])]
theorem BI:∀(l:J Bs),l≠[]->(∀c∈l,rT c)->cq (dX l)=l|[],h,_=>absurd rfl h|[x],_,h=>Vj x (h x si)|x::y::l,_,h=>by rw[dX,Jn x _ (h x si),BI (y::l) si λc hc=>h c (by simp[hc])]
variable{c:Bs}
theorem sE(h:lK c=hJ):rT c:=by intro b hb e;unfold lK at h;simp only[cL,wO]at h;have:=List.any_eq_false.1 h.2.2.2 b hb;subst e;exact this rfl
theorem Ax(h:lK c=hJ):1<=Ts c/\c.length<=32:=by unfold lK at h;simp_all
theorem Zj(h:lK c=hJ):(c==[])=eQ/\(c==[46])=eQ/\(c==[46,46])=eQ:=by unfold lK at h;grind
theorem join_le:∀(l:J Bs),(∀c∈l,lK c=hJ)->Ts (dX l)<=33*Ts l|[],_=>by simp[dX]|[x],h=>by have:=Ax (h x si);simp[dX];omega|x::y::l,h=>by have h1:=Ax (h x si);have h2:=join_le (y::l) λc hc=>h c (by simp[hc]);rw[dX];simp at h2⊢;omega
def pathOf(l:J Bs):Bs:=[47]++dX l
def Names(l:J Bs):Prop:=∀c∈l,lK c=hJ
theorem Names.snoc(h:Names l)(hc:lK c=hJ):Names (l++[c]):=by
 intro x hx;rcases mX.1 hx with hx|hx
 ·exact h x hx
 simp_all
theorem Names.dropLast(h:Names l):Names l.dropLast:=λc hc=>h c (List.dropLast_subset l hc)
theorem RI(h:Names l)(hl:l≠[]):dX l≠[]:=by
 match l,hl with|[x],_=>have:=Ax (h x si);intro e;rw[dX]at e;simp_all|x::y::l,_=>intro e;rw[dX]at e;simp at e
theorem D9(h:Names l):(pathOf l==[47])=(l==[]):=by
 cases l with
 | nil=>rfl|cons x l=>have:=RI h si;rw[show((x::l)==[])=eQ from rfl];simp[pathOf];exact this
theorem SZ(h:Names l)(c:Bs):pathOf (l++[c])=(cond (pathOf l==[47]) [] (pathOf l)++[47])++c:=by
 rw[D9 h];cases l with
 | nil=>rfl|cons x l=>rw[show((x::l)==[])=eQ from rfl,pathOf,Gl _ _ si,pathOf];simp
theorem Mw(a c:Bs)(hc:rT c):qQ (a++47::c)=a.length:=by
 refine Vh _ _ (.inl ⟨si,si⟩) λj hj hl=>?_;have e:(a++47::c).getD j 0=c.getD (j-a.length-1) 0:=by grind
 simp at hl;rw[e,gd om];exact hc _ (fm _)
theorem Kw(h:Names l)(hc:lK c=hJ):iR (pathOf (l++[c]))=pathOf l:=by
 have h47:=sE hc;cases l with
 | nil=>have:qQ (pathOf ([]++[c]))=0:=Mw [] c h47;unfold iR;rw[this];rfl|cons x l=>
  have e:pathOf ((x::l)++[c])=pathOf (x::l)++47::c:=by rw[pathOf,Gl _ _ si,pathOf];simp
  have:qQ (pathOf ((x::l)++[c]))=Ts (pathOf (x::l)):=by simp_all[Mw]
  unfold iR;have h0:(Ts (pathOf (x::l))==0)=eQ:=by simp[pathOf]
  grind
theorem HL(h:Names l):iR (pathOf l)=pathOf l.dropLast:=by
 rcases U4 l with rfl|⟨l',c,rfl⟩
 ·rfl
 ·have hc:=h c si;have hl:Names l':=λx hx=>h x (by simp[hx]);simp_all[Kw]
theorem yz{s:Bs}(h:gG s=hJ)(hr:(s==[47])=eQ):Names (cq (s.drop 1))/\pathOf (cq (s.drop 1))=s/\s.length<=128/\cq (s.drop 1)≠[]:=by unfold gG at h;rw[hr,OZ]at h;simp only[cL,fV,pN]at h;obtain⟨⟨h1,h2⟩,h3,h4⟩:=h;refine⟨h4,?_,h2,sY _⟩;rw[pathOf,Vi];cases s with|nil=>simp at h1|cons b s=>simp_all
theorem abY(h:Names l)(hl:(pathOf l).length<=128):gG (pathOf l)=hJ:=by
 unfold gG;cases l with
 | nil=>rfl|cons x l=>
  have hne:=RI h si;have hp:=BI (x::l) si λc hc=>sE (h c hc);have hlen:1<=Ts (dX (x::l)):=by grind
  have e1:(pathOf (x::l)).drop 1=dX (x::l):=rfl;have e2:(pathOf (x::l)).getD 0 0=47:=rfl;have e3:2<=Ts (pathOf (x::l)):=by simp[pathOf];omega
  rw[e1,hp,e2,dT e3,dT hl];have:=pN.2 h;rw[this];simp
def oW:J Bs->J Bs->O (J Bs)|[],n=>iN n|c::cs,n=>cond (c==[]||c==[46]) (oW cs n) (cond (c==[46,46]) (oW cs n.dropLast) (cond (lK c) (oW cs (n++[c])) iF))
def clF:O (J Bs)->Bs×Int|none=>([],10)|some n=>cond (eK (128<Ts (pathOf n))) ([],3) (pathOf n,0)
def Lg(cwd path:Bs):J Bs:=cond (!(path.getD 0 0==47) && !(cwd==[47])) (cq (cwd.drop 1)) []
def Vk(cwd path:Bs):Bs×Int:=cond (!gG cwd) ([],10) (cond (path==[]) ([],8) (clF (oW (cq path) (Lg cwd path))))
theorem aeM{cwd path:Bs}(h:gG cwd=hJ):Names (Lg cwd path)/\(Lg cwd path).length<=200:=by
 unfold Lg;cases hr:(cwd==[47])with
 | true=>rw[gN,TM];exact⟨λc hc=>(by cases hc),si⟩
 | false=>
  obtain⟨h1,h2,h3,-⟩:=yz h hr;have:=Jk (cwd.drop 1);cases (path.getD 0 0==47)
  ·grind
  ·exact⟨λc hc=>(by cases hc),si⟩
theorem dropLast_take(n:J Bs)(h:Ts n<1000000000):n.take (eJ (cond (eK (aE ((Ts n:Int)-1)<0)) 0 (aE ((Ts n:Int)-1))))=n.dropLast:=by
 rw[List.dropLast_eq_take];by_cases h0:Ts n=0
 ·rw[h0];rfl
 ·rw[uP om om,cf om,b9]
theorem aeN(n:J Bs)(h:Ts n<1000000000):(eK (0<=cond (eK (aE ((Ts n:Int)-1)<0)) 0 (aE ((Ts n:Int)-1)))&&(eK (cond (eK (aE ((Ts n:Int)-1)<0)) 0 (aE ((Ts n:Int)-1))<=(Ts n:Int))))=hJ:=by
 by_cases h0:Ts n=0
 ·rw[h0];rfl
 ·rw[uP om om,cf om,dT om,dT om];rfl
theorem amm(F:Nat)(cwd path:Bs)(hF:1000<=F)(hp:Ts path<=600):zA F cwd path=iN (Vk cwd path):=by
 unfold zA Vk wx;rw[afV F cwd om,aD];cases hc:gG cwd with
 | false=>rfl|true=>
  cases hpe:(path==[])with
  | true=>rfl|false=>
   have hpl:0<Ts path:=by grind
   obtain⟨hn,hnl⟩:=aeM (path:=path) hc;have hcl:1<=Ts cwd/\cwd.length<=128:=by
    cases hr:(cwd==[47])with
    | true=>simp_all|false=>obtain⟨h1,h2,h3,h4⟩:=yz hc hr;refine⟨?_,h3⟩;rw[<-h2];simp[pathOf]
   rw[aJ,aJ,kJ om,ck om om,abW,TX F _ aQ,TX F _ om,Vb _ 47 om];simp only[aD,aH,cF];show bW _ F (0,Lg cwd path)=_;have av8:=Jk path;refine cz (λx=>∃k:Nat,x.1=(k:Int)/\k<=Ts (cq path)/\x.2.length<=200+k/\Names x.2/\oW ((cq path).drop k) x.2=oW (cq path) (Lg cwd path)) (λx=>Ts (cq path)-x.1.toNat) ?_ F _ ⟨0,rfl,om,om,hn,si⟩ aQ;rintro⟨ii,ns⟩ ⟨k,h0,h1,h2,h3,h4⟩;dsimp only at h0 h2 h3 h4⊢;subst h0;by_cases hk:k<Ts (cq path)
   ·have hg:(cq path).getD k []=(cq path)[k]:=gd hk;rw[sR hk]at h4;simp only[cm (show(k:Int)<(Ts (cq path):Int) by omega),ck (show 0<=(k:Int) by omega) (show(k:Int)<(Ts (cq path):Int) by omega),b9,hg,aH,aD];generalize(cq path)[k]=c at h4;rw[oW]at h4;cases h5:(c==[]||c==[46])with
    | true=>left;rw[h5,aS]at h4;refine⟨(((k+1:Nat):Int),ns),⟨k+1,rfl,om,by dsimp only;omega,h3,h4⟩,aQ,λrc=>?_⟩;rw[show(cond (c==[]) (hJ,ns) (c==[46],ns))=((c==[]||c==[46]),ns) by cases (c==[])<;>rfl,h5];dsimp only;rw[aS,bZ om]
    | false=>
     rw[h5,aJ]at h4;simp only[show(cond (c==[]) (hJ,ns) (c==[46],ns))=(eQ,ns) by grind,cond_false];cases h6:(c==[46,46])with
     | true=>left;rw[h6,aS]at h4;refine⟨(((k+1:Nat):Int),ns.dropLast),⟨k+1,rfl,om,aQ,h3.dropLast,h4⟩,aQ,λrc=>?_⟩;rw[aS,cy (aeN ns om),dropLast_take ns om,bZ om]|false=>rw[h6,aJ]at h4;simp only[aJ,afU F c om,aD];cases h7:lK c with|true=>left;rw[h7,aS]at h4;refine⟨(((k+1:Nat):Int),ns++[c]),⟨k+1,rfl,om,aQ,h3.snoc h7,h4⟩,aQ,λrc=>?_⟩;rw[aS,ck aQ aQ,bZ om]|false=>right;rw[h7,aJ]at h4;intro rc;rw[aJ,<-h4];rfl
   ·obtain rfl:k=Ts (cq path):=om;right;intro rc;rw[Mc,oW]at h4;have hj:=join_le ns h3
    first
    | rw[cf om,Aa,join_eq,ck om om,aD,kJ aQ,<-h4]
    | rw[cf om,zB,Aa,join_eq,ck om om,aD,aD,kJ aQ,<-h4]
    show iN (cond (eK (128<((Ts (pathOf ns):Nat):Int))) ([],3) (pathOf ns,0))=_;rw[show eK (128<((Ts (pathOf ns):Nat):Int))=eK (128<Ts (pathOf ns))from amj _ 128];rfl
def Pg(l:J aZ):Prop:=l.Pairwise λx y=>x.bM<y.bM
structure VL(l:List aZ):Prop where
 len:Ts l<=128
 pos:0<Ts l
 root:(l.getD 0 cw).bM=[47]
 path:∀f∈l,gG f.bM=hJ
 dir:∀f∈l,f.lV=hJ->f.fData=[]
 amn:∀f∈l,f.bM=[47]->f.lV=hJ
 data:∀f∈l,Ts f.fData<=8192
 asc:Pg l
 arn:∀k,0<k->k<Ts l->Jm (l.take k) (l.getD k cw).bM=0
theorem abZ(l:J aZ):∀(n k:Nat),Zh l n k=0↔∀j,k<=j->j<k+n->NS l j=0
 | 0,k=>⟨λ_ j h h'=>om,λ_=>rfl⟩|n+1,k=>by
  rw[Zh];cases h:(NS l k==0)with
  | true=>
   rw[aS,abZ l n (k+1)];constructor
   ·intro h1 j h2 h3;by_cases e:j=k
    ·subst e;simpa using h
    ·exact h1 j om om
   ·intro h1 j h2 h3;exact h1 j om om
  | false=>
   rw[aJ];constructor
   ·intro h1;rw[h1]at h;cases h
   ·intro h1;have:=h1 k om om;rw[this]at h;cases h
theorem Vl:∀ {l:J aZ},(∀k,0<k->k<Ts l->(l.getD (k-1) cw).bM<(l.getD k cw).bM)->Pg l
 | [],_=>List.Pairwise.nil|[x],_=>agY _ _|x::y::l,h=>by
  have ih:Pg (y::l):=Vl λk h1 h2=>by have:=h (k+1) om (by simpa using h2);rw[show k+1-1=(k-1)+1 by omega]at this;simpa using this
  have hxy:x.bM<y.bM:=by have:=h 1 om si;simpa using this
  refine zh.2 ⟨λz hz=>?_,ih⟩;rcases hU.1 hz with rfl|hz
  ·exact hxy
  ·exact sF hxy ((zh.1 ih).1 z hz)
theorem XG{l:J aZ}(h:Pg l)(i j:Nat)(hij:i<j)(hj:j<Ts l):(l.getD i cw).bM<(l.getD j cw).bM:=by rw[gd (show i<l.length by omega),gd hj];exact agS.1 h i j om hj hij
theorem amo(l:J aZ)(k:Nat):NS l k=0↔gG (l.getD k cw).bM=hJ/\((l.getD k cw).lV=hJ->(l.getD k cw).fData=[])/\((l.getD k cw).bM=[47]->(l.getD k cw).lV=hJ) /\
  (l.getD k cw).fData.length<=8192/\(0<k->(l.getD (k-1) cw).bM<(l.getD k cw).bM)/\(0<k->Jm (l.take k) (l.getD k cw).bM=0):=by
 unfold NS;generalize l.getD k cw=f;generalize l.getD (k-1) cw=g;cases h1:gG f.bM with
 | false=>simp|true=>
  cases h2:((f.lV && !(f.fData==[]))||(f.bM==[47] && !f.lV))with
  | true=>grind|false=>
   have h3:f.lV=hJ->f.fData=[]:=λh=>by simp_all
   have h4:f.bM=[47]->f.lV=hJ:=λh=>by simp_all
   by_cases h5:8192<Ts f.fData
   ·grind
   ·rw[cf h5];by_cases h6:0<k
    ·rw[<-atx g.bM f.bM];cases h7:pD g.bM f.bM with|true=>simp_all[Mx,gN,aJ]|false=>have:=(EH _ _).1 h7;grind
    simp_all
theorem ajY(l:J aZ):iV l=0↔VL l:=by
 unfold iV;by_cases h1:128<Ts l
 ·rw[cm h1];exact⟨λh=>(by cases h),λh=>by have:=h.len;omega⟩
 ·rw[cf h1];cases h2:(Ts l==0 || !((l.getD 0 cw).bM==[47]))with
  | true=>refine⟨λh=>(by cases h),λh=>?_⟩;have a:=h.pos;have b:=h.root;simp_all
  | false=>
   rw[aJ];simp only[abf,iq,ne_eq,ag6,uJ]at h2;rw[abZ];simp only[amo];constructor
   ·intro h;have hm:∀f∈l,∃k,k<Ts l/\l.getD k cw=f:=λf hf=>by grind[List.getElem_of_mem,gd]
    refine⟨om,om,h2.2,?_,?_,?_,?_,Vl λk h3 h4=>(h k om om).2.2.2.2.1 h3,λk h3 h4=>(h k om om).2.2.2.2.2 h3⟩
    ·grind
    ·grind
    ·grind
    grind
   ·intro h j hj hj';have hj':j<Ts l:=om;have hm:l.getD j cw∈l:=by simp_all
    exact⟨h.path _ hm,h.dir _ hm,h.amn _ hm,h.data _ hm,λh0=>XG h.asc (j-1) j om hj',λh0=>h.arn j h0 hj'⟩
theorem VL.small{l:J aZ}(h:VL l):∀f∈l,Ts f.bM<=128:=by intro f hf;have:=h.path f hf;cases hr:(f.bM==[47])with|true=>rw[eq_of_beq hr];decide|false=>simp_all[yz]
def mU(s:Bs):Bs:=s.drop (qQ s+1)
def aro(p:Bs):Bs:=cond (p==[47]) [] p++[47]
theorem EI{s:Bs}(h:gG s=hJ)(hr:(s==[47])=eQ):∃n c,Names n/\lK c=hJ/\s=pathOf (n++[c])/\iR s=pathOf n/\mU s=c/\s=aro (iR s)++c/\qQ s<Ts s:=by
 obtain⟨h1,h2,h3,h4⟩:=yz h hr;rcases U4 (cq (s.drop 1))with e|⟨n,c,e⟩
 ·exact absurd e h4
 ·rw[ag5]at e;rw[e]at h1 h2;have hn:Names n:=λx hx=>h1 x (by simp[hx]);have hc:=h1 c si;have hs:=SZ hn c;have hp:=Kw hn hc;rw[h2]at hs hp;have auU:qQ s=Ts (cond (pathOf n==[47]) [] (pathOf n)):=by simp_all[uK,Mw,sE]
  refine⟨n,c,hn,hc,h2.symm,hp,?_,?_,?_⟩
  ·unfold mU;simp_all
  ·rw[hp];exact hs
  ·rw[auU,hs];simp
theorem arp(p u v:Bs):p++u<p++v↔u<v:=by
 induction p with|nil=>exact Iff.rfl|cons b p ih=>simp_all
def zn(p:Bs)(f:aZ):Bool:=!(f.bM==[47])&&iR f.bM==p
def dQ(l:J aZ)(p:Bs):J Bs:=(l.filter (zn p)).map λf=>mU f.bM
theorem T4{l:J aZ}(h:VL l)(p:Bs):(dQ l p).Pairwise (· < ·):=by unfold dQ;rw[List.pairwise_map];have h1:(l.filter (zn p)).Pairwise λx y=>x.bM<y.bM:=h.asc.filter _;refine List.Pairwise.imp_of_mem (λ{x y} hx hy hxy=>?_) h1;rw[Rq]at hx hy;unfold zn at hx hy;simp only[cL,wO]at hx hy;obtain⟨-,c,-,-,-,-,e1,e2,-⟩:=EI (h.path x hx.1) hx.2.1;obtain⟨-,d,-,-,-,-,e3,e4,-⟩:=EI (h.path y hy.1) hy.2.1;grind[arp]
def ajZ(l:J aZ)(p:Bs):(l.flatMap λf=>cond (zn p f) [mU f.bM] [])=dQ l p:=S0 _ _ l
theorem amq(l:J aZ)(p:Bs)(i:Nat):((l.take i).flatMap λf=>cond (zn p f) [mU f.bM] []).length<=i:=by have:=XH (λf=>cond (zn p f) [mU f.bM] ([]:J Bs)) 1 (λa=>by cases zn p a<;>simp) (l.take i);grind
def ahx(l:J aZ)(p:Bs):J Bs×Int:=cond (!gG p) ([],10) ((ji l p).elim ([],8) λf=>cond (!f.lV) ([],18) (dQ l p,0))
theorem aps(F:Nat)(l:J aZ)(p:Bs)(hF:1000<=F)(h:VL l):BJ F l p=iN (ahx l p):=by
 have hl:=h.len;unfold BJ ahx wx;rw[afV F p om,aD];cases gG p with
 | false=>rfl|true=>
  rw[gN,aJ,aJ,find_eq F l p om om,aD];rcases T3 l p with⟨h1,h2,h3⟩|⟨j,h0,h1,h2,h3⟩
  ·rw[h2];rfl
  ·rw[h2];simp only[Option.elim,gN,aJ];cases (l.getD j cw).lV with
   | false=>rfl|true=>
    rw[gN,aJ,aJ];refine ahy l (λi o=>((i:Int),o)) (λf=>cond (zn p f) [mU f.bM] []) om (by rfl) (λi hi rc o ho=>?_) (λrc=>?_)
    ·have hm:=h.small _ (fm hi);have hlen:Ts o<=i:=by rw[ho];exact amq l p i
     rw[cm om];simp only[ck (show 0<=(i:Int) by omega) (show(i:Int)<(Ts l:Int) by omega),b9,gd hi,Zg F l[i].bM (show l[i].bM.length<1000000000 by omega),aD,aH];rw[show(cond (!(l[i].bM==[47])) (iR l[i].bM==p,o) (eQ,o))=(zn p l[i],o) by unfold zn;grind,bZ om];cases hk:zn p l[i]with
     | false=>simp|true=>
      unfold zn at hk;simp only[cL,wO]at hk;obtain⟨-,c,-,-,-,-,-,-,e3⟩:=EI (h.path _ (fm hi)) hk.1;have auV:Lib.lastIndexByte ⟨⟨l[i].bM⟩⟩ 47=(qQ l[i].bM:Int):=by
       unfold qQ;rcases Mu l[i].bM with⟨e,hh⟩|⟨q,hq,e,-⟩
       ·have hp:=h.path _ (fm hi);unfold gG at hp;grind
       ·rw[e];rfl
      rw[aS,aS,ajU F _ om,aD,auV,bZ om,wX om om om,ck aQ aQ,XF];rfl
    ·dsimp only;rw[cf om,ajZ,RL,aml (T4 h p),kJ,aD];have:(dQ l p).length<=Ts l:=by unfold dQ;grind
     omega
theorem Jo{l:J aZ}{p:Bs}{g:aZ}(h:ji l p=iN g):g∈l/\g.bM=p:=by have h1:=abc h;exact⟨UR h,eq_of_beq h1⟩
theorem afW(l:J aZ)(p:Bs):Ku l p=hJ↔∃f∈l,f.bM=p:=by unfold Ku Jl;simp_all
theorem S1{l:J aZ}(h:Pg l){f:aZ}(hf:f∈l):ji l f.bM=iN f:=by
 rcases T3 l f.bM with⟨h1,h2,h3⟩|⟨j,h0,h1,h2,h3⟩
 ·grind[afW]
 ·obtain⟨hm,hp⟩:=Jo h2;rw[h2];obtain⟨i,hi,e⟩:=lE hf;have e:l.getD i cw=f:=by rw[gd hi];exact e
  rcases Nat.lt_trichotomy i j with q|q|q
  ·have:=XG h i j q h0;grind
  ·rw[<-q,e]
  ·have:=XG h j i q hi;grind
end Go.Proofs.YtjfbblgjjdgjdaaGreatDoor

namespace Go.Proofs.YtjfbblgjjdgjdaaGreatDoor
open Go.RT
theorem My(s:Bs):cx (cY s)=s:=by
 unfold cx cY;rw[Ar];have:((λn=>lL n.toNat) ∘ λb=>(b.toNat:Int))=id:=by funext b;simp
 rw[this,Rv]
def nU(c:Int):Bool:=c != 0&&(c != 1&&c != 2)
def HM(r:aB):J dZ:=cond (nU r.aI) [] (r.fText.map λb=>dZ.mk (b.toNat:Int) (r.aI != 1))
def p8(r:aB):J fJ:=cond (nU r.aI) [] (r.fText.map λb=>fJ.mk (b.toNat:Int) (r.aI != 1))
theorem afX(r:aB):(HM r).length<=Ts r.fText:=by unfold HM;grind
theorem RM(r:aB):(p8 r).length<=Ts r.fText:=by unfold p8;grind
theorem HN{α:Type}(f:aB->J α)(hf:∀r,Ts (f r)<=Ts r.fText):∀l:J aB,Ts (l.flatMap f)<=bV l|[]=>by simp|r::l=>by have:=HN f hf l;have:=hf r;simp[vY,bV]at *;omega
theorem RN{l:J aB}{r:aB}(h:r∈l):Ts r.fText<=bV l:=by
 induction l with
 | nil=>cases h
 | cons a l ih=>
  rcases hU.1 h with rfl|h
  ·simp[bV]
  ·have:=ih h;simp[bV]at *;omega
theorem Ph{α:Type}(f:aB->J α)(l:J aB)(k:Nat)(h:k<Ts l):(l.take (k+1)).flatMap f=(l.take k).flatMap f++f l[k]:=by grind[List.take_succ_eq_append_getElem]
theorem ab0(c:Int):(cond (c != 0) (iN (c != 1)) (iN eQ):O Bool)=iN (c != 0&&c != 1):=by cases (c != 0)<;>rfl
theorem XI(c:Int):cond (c != 0&&c != 1) (c != 2) eQ=nU c:=by unfold nU;grind
theorem Ea(F:Nat)(l:J aB)(hF:Ts l<F)(qR:bV l<F)(h1:Ts l<1000000000)(h2:bV l<=1000000000):Dq F l=iN (l.flatMap HM):=by
 refine cz (λx=>∃k:Nat,x.2=(k:Int)/\k<=Ts l/\x.1=(l.take k).flatMap HM) (λx=>Ts l-x.2.toNat) ?_ F _ ⟨0,rfl,om,si⟩ aQ;rintro⟨acc,ii⟩ ⟨k,h0,hk,ha⟩;subst h0;by_cases hk:k<Ts l
 ·left;have hg:l.getD k dy=l[k]:=gd hk;have hal:Ts acc<=bV (l.take k):=by grind[HN,afX]
  have hs:=rX l k hk;have hle:=vM l (k+1);refine⟨((l.take (k+1)).flatMap HM,((k+1:Nat):Int)),⟨k+1,rfl,om,rfl⟩,aQ,λrc=>?_⟩;rw[cm om,bC hk,bC hk,b9,hg,ab0,aD,bZ om,Ph _ _ _ hk,<-ha,bC hk,aH,aD,XI];unfold HM;cases hc:nU l[k].aI with
  | true=>simp_all|false=>
   rw[aJ,aJ];refine cz (λx=>∃j:Nat,x.2=(j:Int)/\j<=l[k].fText.length/\x.1=acc++(l[k].fText.take j).map λb=>dZ.mk (b.toNat:Int) (l[k].aI != 1)) (λx=>l[k].fText.length-x.2.toNat) ?_ F _ ⟨0,rfl,om,si⟩ aQ;rintro⟨a2,jj⟩ ⟨j,h0,hj,hb⟩;dsimp only at h0 hb⊢;subst h0;by_cases hj:j<l[k].fText.length
   ·left;refine⟨(acc++(l[k].fText.take (j+1)).map λb=>dZ.mk (b.toNat:Int) (l[k].aI != 1),((j+1:Nat):Int)),⟨j+1,rfl,om,rfl⟩,aQ,λbD=>?_⟩;have Pj:l[k].fText.getD j 0=l[k].fText[j]:=gd hj;have HO:Ts a2<=Ts acc+j:=by rw[hb];simp;omega
    simp only[bC hk];rw[cm om];simp only[bC hj];rw[b9,Pj,bZ om,dI aQ om,kT hj,pO,<-uK,<-hb];rfl
   ·right;obtain rfl:j=l[k].fText.length:=om;intro bD;rw[bC hk,cf om,hb,sS]
 grind
theorem HP(F:Nat)(l:J aB)(hF:Ts l<F)(qR:bV l<F)(h1:Ts l<1000000000)(h2:bV l<=1000000000):Fu F l=iN (l.flatMap p8):=by
 refine cz (λx=>∃k:Nat,x.2=(k:Int)/\k<=Ts l/\x.1=(l.take k).flatMap p8) (λx=>Ts l-x.2.toNat) ?_ F _ ⟨0,rfl,om,si⟩ aQ;rintro⟨acc,ii⟩ ⟨k,h0,hk,ha⟩;subst h0;by_cases hk:k<Ts l
 ·left;have hg:l.getD k dy=l[k]:=gd hk;have hal:Ts acc<=bV (l.take k):=by grind[HN,RM]
  have hs:=rX l k hk;have hle:=vM l (k+1);refine⟨((l.take (k+1)).flatMap p8,((k+1:Nat):Int)),⟨k+1,rfl,om,rfl⟩,aQ,λrc=>?_⟩;rw[cm om,bC hk,b9,hg,ab0,aD,bZ om,Ph _ _ _ hk,<-ha,aH,XI];unfold p8;cases hc:nU l[k].aI with
  | true=>simp_all|false=>
   refine cz (λx=>∃j:Nat,x.2=(j:Int)/\j<=l[k].fText.length/\x.1=acc++(l[k].fText.take j).map λb=>fJ.mk (b.toNat:Int) (l[k].aI != 1)) (λx=>l[k].fText.length-x.2.toNat) ?_ F _ ⟨0,rfl,om,si⟩ aQ;rintro⟨a2,jj⟩ ⟨j,h0,hj,hb⟩;dsimp only at h0 hb⊢;subst h0;by_cases hj:j<l[k].fText.length
   ·left;refine⟨(acc++(l[k].fText.take (j+1)).map λb=>fJ.mk (b.toNat:Int) (l[k].aI != 1),((j+1:Nat):Int)),⟨j+1,rfl,om,rfl⟩,aQ,λbD=>?_⟩;have Pj:l[k].fText.getD j 0=l[k].fText[j]:=gd hj;have HO:Ts a2<=Ts acc+j:=by rw[hb];simp;omega
    rw[cm om];simp only[bC hj];rw[b9,Pj,bZ om,dI aQ om,kT hj,pO,<-uK,<-hb];rfl
   grind
 grind
def EJ(x:J dZ)(i:Nat)(b:Int):Bool:=eK (i<Ts x)&&((x.getD i jA).nJ&&(x.getD i jA).fb==b)
theorem jS(F:Nat)(x:J dZ)(i:Nat)(b:Int):pS F x (i:Int) b=iN (EJ x i b):=by
 unfold pS EJ wx;by_cases h:i<Ts x
 ·rw[cm om,bC h,aD,bC h,aH];simp_all
 grind
def ef(x:J fJ)(i:Nat)(b:Int):Bool:=eK (i<Ts x)&&((x.getD i cU).nJ&&(x.getD i cU).fb==b)
theorem fR(F:Nat)(x:J fJ)(i:Nat)(b:Int):fu F x (i:Int) b=iN (ef x i b):=by
 unfold fu ef wx;by_cases h:i<Ts x
 ·rw[cm om,bC h,aD];congr 1;grind
 grind
def pb(b:Int):aC:=aC.mk 1 (cx [b]) eQ []
set_option maxRecDepth 100000
theorem eM{σ R:Type}{body:(σ->O R)->σ->O R}(Q:R->Prop)(P:σ->Prop)(m:σ->Nat)
  (hs:∀s,P s->∀rc,(∀s',P s'->m s'<m s->∃r,Q r/\rc s'=iN r)->∃r,Q r/\body rc s=iN r):∀(F:Nat)(s:σ),P s->m s<F->∃r,Q r/\bW body F s=iN r
 | 0,s,_,h=>by omega|F+1,s,hP,h=>hs s hP (bW body F) λs' h1 h2=>eM Q P m hs F s' h1 om
def Pk(x:J fJ):Prop:=∀e∈x,0<=e.fb/\e.fb<=255
theorem T5(l:J aB):Pk (l.flatMap p8):=by
 intro e he;obtain⟨r,-,he⟩:=ag3.1 he;unfold p8 at he;cases hc:nU r.aI<;>rw[hc]at he
 ·obtain⟨b,-,rfl⟩:=lF.1 he;have:=b.toNat_lt;dsimp only;omega
 ·cases he
variable{x:J fJ}{i:Nat}
theorem Pk.at(h:Pk x)(hi:i<Ts x):0<=(x.getD i cU).fb/\(x.getD i cU).fb<=255:=by rw[gd hi];exact h _ (fm hi)
def Dr(e:fJ):Bool:=e.nJ&&(eK (97<=e.fb)&&eK (e.fb<=122))
def kK(x:J fJ)(i:Nat):J Int:=((x.drop i).takeWhile Dr).map λe=>e.fb
def isName(n:Bs):Bool:=n==[97,108,112,104,97]||(n==[100,105,103,105,116]||(n==[97,108,110,117,109]||(n==[117,112,112,101,114]||(n==[108,111,119,101,114]||(n==[115,112,97,99,101]||(n==[98,108,97,110,107]||n==[112,117,110,99,116]))))))
def zC(x:J fJ)(i:Nat):Bs×Int×Bool:=
 cond ((ef x i 91&&ef x (i+1) 58)&&((ef x (i+2+Ts (kK x (i+2))) 58&&ef x (i+2+Ts (kK x (i+2))+1) 93)&&isName (cx (kK x (i+2)))))
  (cx (kK x (i+2)),((i+2+Ts (kK x (i+2))+2:Nat):Int),hJ) ([],0,eQ)
theorem arq(x:J fJ)(i:Nat):(kK x i).length<=Ts x-i:=by unfold kK;grind[List.length_map,List.takeWhile_sublist,List.length_drop]
theorem aoy{p:fJ->Bool}:∀(l:J fJ)(k:Nat)(h:k<Ts (l.takeWhile p)),∃hk:k<Ts l,(l.takeWhile p)[k]=l[k]/\p l[k]=hJ
 | [],k,h=>by simp at h|a::l,k,h=>by
  cases hp:p a with
  | false=>simp[hp]at h|true=>
   cases k with
   | zero=>exact⟨si,by simp[hp],by simpa using hp⟩|succ k=>
    have h':k<Ts (l.takeWhile p):=by simpa[hp]using h
    obtain⟨h1,h2,h3⟩:=aoy l k h';exact⟨by simpa using h1,by simp[hp,h2],by simpa using h3⟩
theorem aj0{p:fJ->Bool}:∀(l:J fJ)(h:(l.takeWhile p).length<Ts l),p l[Ts (l.takeWhile p)]=eQ
 | [],h=>by simp at h|a::l,h=>by
  cases hp:p a with
  | false=>simp[hp]|true=>
   have h':(l.takeWhile p).length<Ts l:=by simpa[hp]using h
   have:=aj0 l h';simpa[hp]using this
theorem aj1(x:J fJ)(i k:Nat)(h:k<Ts (kK x i)):i+k<Ts x/\(kK x i).getD k 0=(x.getD (i+k) cU).fb/\Dr (x.getD (i+k) cU)=hJ:=by unfold kK at h⊢;rw[je]at h;obtain⟨h1,h2,h3⟩:=aoy (x.drop i) k h;grind
theorem apt(x:J fJ)(i:Nat)(h:i+Ts (kK x i)<Ts x):Dr (x.getD (i+Ts (kK x i)) cU)=eQ:=by unfold kK at h⊢;rw[je]at h⊢;have:=aj0 (p:=Dr) (x.drop i) (by grind);simp_all
theorem Mz(a b:Bool)(x:O Bool)(hb:x=iN b):cond a (iN a) x=iN (a||b):=by subst hb;cases a<;>rfl
theorem T6(F:Nat)(x:J fJ)(i:Nat)(hF:Ts x+10<F)(hx:Ts x<500000000):Ab F x (i:Int)=iN (zC x i)\/500000000<=i:=by
 by_cases hi:500000000<=i
 ·exact .inr hi
 left;unfold Ab zC wx;rw[fR,aD,show aE ((i:Int)+1)=((i+1:Nat):Int)from bZ om,fR];cases h1:ef x i 91 with
 | false=>rfl|true=>
  cases h2:ef x (i+1) 58 with
  | false=>rfl|true=>
   have wB:aE ((i:Int)+2)=((i+2:Nat):Int):=by grind[bO]
   rw[wB];have hrl:=arq x (i+2);generalize hr:kK x (i+2)=r at hrl;have hat:=aj1 x (i+2);have hend:=apt x (i+2);rw[hr]at hat hend;refine cz (λs:Int×J Int=>∃k:Nat,s.1=((i+2+k:Nat):Int)/\k<=Ts r/\s.2=r.take k) (λs=>(i+2+Ts r)-s.1.toNat) ?_ F _ ⟨0,rfl,om,si⟩ aQ;rintro⟨ii,nm⟩ ⟨k,h0,hk,hn⟩;dsimp only at h0 hn⊢;subst h0;by_cases hk:k<Ts r
   ·left;obtain⟨g1,g2,g3⟩:=hat k hk;have hnl:Ts nm=k:=by simp_all
    refine⟨(((i+2+(k+1):Nat):Int),r.take (k+1)),⟨k+1,rfl,om,rfl⟩,aQ,λrc=>?_⟩;unfold Dr at g3;simp only[cL]at g3;obtain⟨g3,g4,g5⟩:=g3;rw[cm om,bC g1,b9,g3,aD,aS,bC g1,g4,aD,aS,bC g1,g5,aD,aS,bC g1,dI aQ om,bZ om,<-g2,gd hk,kT hk,<-hn];rfl
   ·right;obtain rfl:k=Ts r:=om;intro rc;rw[sS]at hn;subst hn
    have e1:(((cond (eK (((i+2+Ts nm:Nat):Int)<(Ts x:Int))) (rq (eK (0<=((i+2+Ts nm:Nat):Int))&&eK (((i+2+Ts nm:Nat):Int)<(Ts x:Int))) (iN (x.getD (eJ ((i+2+Ts nm:Nat):Int)) cU).nJ)) (iN eQ)):O Bool).bind λx6=>
      (cond x6 (rq (eK (0<=((i+2+Ts nm:Nat):Int))&&eK (((i+2+Ts nm:Nat):Int)<(Ts x:Int))) (iN (eK (97<=(x.getD (eJ ((i+2+Ts nm:Nat):Int)) cU).fb)))) (iN eQ):O Bool).bind λx7=>
      (cond x7 (rq (eK (0<=((i+2+Ts nm:Nat):Int))&&eK (((i+2+Ts nm:Nat):Int)<(Ts x:Int))) (iN (eK ((x.getD (eJ ((i+2+Ts nm:Nat):Int)) cU).fb<=122)))) (iN eQ):O Bool))=iN eQ:=by
     by_cases hl:i+2+Ts nm<Ts x
     ·have:=hend hl;unfold Dr at this;simp only[bC hl];grind
     grind
    have e2:∀ {β:Type}(A:O Bool)(B:Bool->O Bool)(C:Bool->O Bool)(k:Bool->O β),(A.bind λx6=>(B x6).bind λx7=>(C x7).bind k)=((A.bind λx6=>(B x6).bind λx7=>C x7)).bind k:=by grind
    rw[e2,e1,aD,aJ,fR,aD,bZ om,fR];cases ef x (i+2+Ts nm) 58 with
    | false=>rfl|true=>
     cases ef x (i+2+Ts nm+1) 93 with
     | false=>rfl|true=>
      simp only[gN,aJ,aD,wQ,Ko];rw[Mz _ _ _ (Mz _ _ _ (Mz _ _ _ (Mz _ _ _ (Mz _ _ _ (Mz _ _ _ (Mz _ _ _ rfl)))))),aD];have Zk:aE (((i+2+Ts nm:Nat):Int)+2)=((i+2+Ts nm+2:Nat):Int):=by rw[bO om];omega
      rw[Zk,aH];rfl
variable{b:Int}
theorem aj2(h:ef x i b=hJ):i<Ts x:=by unfold ef at h;simp_all
theorem ahz(F:Nat)(n:Bs)(c:Int):∃b,oq F n c=iN b:=by unfold oq wx;simp_all[aH,aD]
theorem Vm(F:Nat)(x:J fJ)(i:Nat)(set:J Bool)(hF:Ts x+1000<F)(hx:Ts x<500000000)(hc:Pk x)(hi:i<Ts x)(hs:Ts set=256):
  ∃r:Int×J Bool,(∃e:Nat,r.1=(e:Int)/\i<e/\e<=Ts x/\r.2.length=256)/\mH F x (i:Int) set=iN r:=by
 unfold mH wx;obtain hcl|hcl:=T6 F x i om hx
 rotate_left
 ·omega
 rw[hcl,aD];cases h1:(zC x i).2.2 with
 | true=>
  rw[aS];unfold zC at h1⊢;cases h2:((ef x i 91&&ef x (i+1) 58)&&((ef x (i+2+Ts (kK x (i+2))) 58&&ef x (i+2+Ts (kK x (i+2))+1) 93)&&isName (cx (kK x (i+2)))))with
  | false=>rw[h2]at h1;cases h1
  | true=>
   rw[aS];simp only[cL]at h2;have h3:=aj2 h2.2.1.2;refine eM _ (λs:Int×J Bool=>∃k:Nat,s.1=(k:Int)/\k<=256/\s.2.length=256) (λs=>256-s.1.toNat) ?_ F _ ⟨0,rfl,om,hs⟩ aQ;rintro⟨ii,st⟩ ⟨k,h0,hk,hl⟩ rc hrc;dsimp only at h0 hl⊢;subst h0;by_cases hk:k<256
   ·obtain⟨b,hb⟩:=ahz F (cx (kK x (i+2))) (k:Int);rw[cm om,hb,aD,bZ om];cases b with|false=>exact hrc _ ⟨k+1,rfl,om,hl⟩ aQ|true=>rw[aS,wX om om om];exact hrc _ ⟨k+1,rfl,om,by simpa using hl⟩ aQ
   ·rw[cf om];exact⟨_,⟨_,rfl,om,om,hl⟩,rfl⟩
 | false=>
  have hw1:aE ((i:Int)+1)=((i+1:Nat):Int):=bZ om;have wB:aE ((i:Int)+2)=((i+2:Nat):Int):=by grind[bO]
  have Zk:aE ((i:Int)+3)=((i+3:Nat):Int):=by grind[bO]
  rw[aJ,hw1,wB,Zk,fR,aD,fR,aH,aD];have e1:cond (ef x (i+1) 45) (eK (((i+2:Nat):Int)<(Ts x:Int)),set) (eQ,set)=((ef x (i+1) 45&&eK (((i+2:Nat):Int)<(Ts x:Int))),set):=by grind
  rw[e1];dsimp only;rw[aD,aH,aD];have e2:∀a b:Bool,cond a (b,set) (eQ,set)=((a&&b),set):=by simp_all
  rw[e2];dsimp only;have hb:=hc.at hi;cases h4:((ef x (i+1) 45&&eK (((i+2:Nat):Int)<(Ts x:Int))) && !ef x (i+2) 93)with
  | false=>rw[aJ,bC hi,b9,wX om om om];exact⟨_,⟨_,rfl,om,om,by simpa using hs⟩,rfl⟩|true=>
   simp only[cL,fV]at h4;have h5:i+2<Ts x:=om;have nM:=hc.at h5;rw[aS,bC hi,b9,b9,bO (x:=(x.getD i cU).fb) om,bO (x:=(x.getD (i+2) cU).fb) om];generalize(x.getD (i+2) cU).fb=hi2 at nM;refine eM _ (λs:Int×J Bool=>0<=s.1/\s.1<=256/\s.2.length=256) (λs=>256-s.1.toNat) ?_ F _ ⟨hb.1,om,hs⟩ aQ;rintro⟨ii,st⟩ ⟨h6,h7,hl⟩ rc hrc;dsimp only at h6 h7 hl⊢;rw[bC h5];by_cases hle:ii<=hi2
   ·rw[cm hle,wX om om om,bO om];exact hrc _ ⟨by dsimp only;omega,by dsimp only;omega,by simpa using hl⟩ (by dsimp only;omega)
   ·rw[cf hle];exact⟨_,⟨_,rfl,om,om,hl⟩,rfl⟩
theorem Zl(F:Nat)(set:J Bool)(hF:1000<F)(hs:Ts set=256):∃l:J cC,Ts l<=256/\r7 F set=iN l:=by
 unfold r7 wx;rw[cy (by rw[hs];rfl)];refine eM _ (λs=>∃k:Nat,s.2.1=(k:Int)/\k<=256/\s.1.length<=k/\s.2.2.length=256) (λs=>256-s.2.1.toNat) ?_ F _ ⟨0,rfl,om,si,hs⟩ aQ;rintro⟨acc,ii,st⟩ ⟨k,h0,hk,ha,hl⟩ rc hrc;dsimp only at h0 ha hl⊢;subst h0;by_cases hk:k<256
 ·rw[cm om,wX om om om,bZ om];cases hb:(!(st.getD (eJ (k:Int)) eQ))with
  | true=>exact hrc _ ⟨k+1,rfl,om,by dsimp only;omega,hl⟩ aQ|false=>
   refine eM _ (λs=>∃j:Nat,s.1=(j:Int)/\k<=j/\j<=255/\s.2.length=256) (λs=>256-s.1.toNat) ?_ F _ ⟨k,rfl,om,om,hl⟩ aQ;rintro⟨jj,Jp⟩ ⟨j,h0,hkj,hj,hl2⟩ bD amr;subst h0;have hend:∀st3:J Bool,Ts st3=256->∃r:J cC,Ts r<=256/\rq ((eK (Ts acc+Ts ([(cC.mk (dO .u8 (k:Int)) (dO .u8 (j:Int)))]:J cC)<=9223372036854775807))&&(eK ((Ts acc+Ts ([(cC.mk (dO .u8 (k:Int)) (dO .u8 (j:Int)))]:J cC))*2<=140737488355328))) (rc (acc++([(cC.mk (dO .u8 (k:Int)) (dO .u8 (j:Int)))]:J cC),aE ((j:Int)+1),st3))=iN r:=by intro st3 h3;rw[dI aQ om,bZ om];exact hrc _ ⟨j+1,rfl,om,aQ,h3⟩ aQ
   by_cases hj2:j<255
   ·rw[cm om,bZ om,wX om om om];cases Jp.getD (eJ ((j+1:Nat):Int)) eQ with|true=>exact amr _ ⟨j+1,rfl,om,om,hl2⟩ aQ|false=>grind[bZ]
   grind
 grind
def kg(p:aC):Prop:=(p.fKind=1->0<Ts p.fText)/\p.fText.length<=10/\p.cK.length<=256
theorem Kx(F:Nat)(x:J fJ)(i:Nat)(hF:Ts x+1000<F)(hx:Ts x<50000000)(hc:Pk x)(hi:i<Ts x):
  ∃r:aC×Int×Bool,(r.2.2=hJ->kg r.1/\∃e:Nat,r.2.1=(e:Int)/\i<e/\e<=Ts x)/\lM F x (i:Int)=iN r:=by
 unfold lM wx;have hw1:aE ((i:Int)+1)=((i+1:Nat):Int):=bZ om;rw[hw1,fR,aD,fR,aD,aH,aD,bZ om,aH];obtain⟨s0,hs0,hs1,hs2⟩:∃s0:Nat,cond (cond (ef x (i+1) 33) hJ (ef x (i+1) 94)) (((i+1+1:Nat):Int)) ((i+1:Nat):Int)=(s0:Int)/\i<s0/\s0<=i+2:=by
  cases (cond (ef x (i+1) 33) hJ (ef x (i+1) 94))
  ·exact⟨i+1,rfl,om,om⟩
  ·exact⟨i+2,rfl,om,om⟩
 rw[hs0];refine eM _ (λs=>∃k:Nat,s.1=(k:Int)/\i<k/\k<=Ts x+2/\s.2.2.length=256) (λs=>Ts x+2-s.1.toNat) ?_ F _ ⟨s0,rfl,hs1,om,si⟩ aQ;rintro⟨ii,fi,st⟩ ⟨k,h0,hk,hk2,hl⟩ rc hrc;subst h0;by_cases wC:k<Ts x
 ·rw[cm om,fR,aD,aH,aD];have e2:cond (ef x k 93) (!fi,st) (eQ,st)=((ef x k 93 && !fi),st):=by cases ef x k 93<;>rfl
  rw[e2];cases (ef x k 93 && !fi)with
  | true=>obtain⟨l,h1,h2⟩:=Zl F st om hl;rw[cy (by rw[hl];rfl),h2,bZ om];exact⟨_,λ_=>⟨⟨(λh=>absurd h (show ¬ ((4:Int)=1) by decide)),si,h1⟩,k+1,rfl,om,om⟩,rfl⟩
  | false=>obtain⟨r,⟨e,h1,h2,h3,h4⟩,h5⟩:=Vm F x k st om om hc wC hl;rw[h5];exact hrc _ ⟨e,h1,om,om,h4⟩ (by grind)
 simp_all[cf]
theorem S2(F:Nat)(l:J aB)(hF:Ts l<F)(qR:bV l+1000<F)(h1:Ts l<1000000000)(h2:bV l<=40000000):∃p:J aC,((∀it∈p,kg it)/\p.length<=bV l)/\eR F l=iN p:=by
 unfold eR wx;rw[HP F l hF om h1 om];have hx:(l.flatMap p8).length<=bV l:=HN _ RM _;have hc:=T5 l;generalize(l.flatMap p8)=x at hx hc;refine eM _ (λs=>∃k:Nat,s.2=(k:Int)/\k<=Ts x/\s.1.length<=k/\∀it∈s.1,kg it) (λs=>Ts x-s.2.toNat) ?_ F _ ⟨0,rfl,om,si,λit h=>by cases h⟩ aQ;rintro⟨acc,ii⟩ ⟨k,h0,hk,ha,hit⟩ rc hrc;dsimp only at h0 ha hit⊢;subst h0;have Ds:∀(it:aC)(e:Nat),kg it->k<e->e<=Ts x->∃p:J aC,((∀it∈p,kg it)/\p.length<=bV l)/\rc (acc++[it],(e:Int))=iN p:=by intro it e h3 h4 h5;refine hrc _ ⟨e,rfl,h5,aQ,λy hy=>?_⟩ aQ;grind
 by_cases wC:k<Ts x
 ·rw[cm om]
  have eS:∃p:J aC,((∀it∈p,kg it)/\p.length<=bV l)/\((fu F x (k:Int) 42).bind λx7=>
    cond x7
    (rq ((eK (Ts acc+Ts ([(aC.mk 3 [] eQ [])]:J aC)<=9223372036854775807))&&(eK ((Ts acc+Ts ([(aC.mk 3 [] eQ [])]:J aC))*56<=140737488355328))) (rc (acc++([(aC.mk 3 [] eQ [])]:J aC),aE ((k:Int)+1))))
    ((fu F x (k:Int) 63).bind λx8=>
    cond x8
    (rq ((eK (Ts acc+Ts ([(aC.mk 2 [] eQ [])]:J aC)<=9223372036854775807))&&(eK ((Ts acc+Ts ([(aC.mk 2 [] eQ [])]:J aC))*56<=140737488355328))) (rc (acc++([(aC.mk 2 [] eQ [])]:J aC),aE ((k:Int)+1))))
    (rq ((eK (0<=(k:Int)))&&(eK ((k:Int)<(Ts x:Int)))) (rq ((eK (Ts acc+Ts ([(aC.mk 1 (cx ([(x.getD (eJ (k:Int)) cU).fb]:J Int)) eQ [])]:J aC)<=9223372036854775807))&&(eK ((Ts acc+Ts ([(aC.mk 1 (cx ([(x.getD (eJ (k:Int)) cU).fb]:J Int)) eQ [])]:J aC))*56<=140737488355328))) (rc (acc++([(aC.mk 1 (cx ([(x.getD (eJ (k:Int)) cU).fb]:J Int)) eQ [])]:J aC),aE ((k:Int)+1)))))))=iN p:=by
   rw[fR,fR,dI aQ om,dI aQ om,bC wC,dI aQ om,bZ om];cases ef x k 42 with
   | true=>exact Ds _ _ ⟨(λh=>absurd h de),si,si⟩ om om|false=>cases ef x k 63 with|true=>exact Ds _ _ ⟨(λh=>absurd h de),si,si⟩ om om|false=>exact Ds _ _ ⟨(λ_=>by simp[cx]),by simp[cx],si⟩ om om
  rw[fR,aD];cases ef x k 91 with
  | false=>exact eS|true=>
   obtain⟨r,h3,h4⟩:=Kx F x k om om hc wC;rw[h4,aD];cases h5:r.2.2 with
   | false=>exact eS|true=>obtain⟨g1,e,g2,g3,g4⟩:=h3 h5;rw[dI aQ om,g2];obtain⟨p,hp,hq⟩:=Ds r.1 e g1 g3 g4;rw[hq];exact⟨p,hp,rfl⟩
 grind
theorem Jq(F:Nat)(p:J aC)(hF:Ts p+300<F)(hp:Ts p<50000000)(hit:∀it∈p,kg it):∃b,jo F p=iN b:=by
 obtain⟨b,-,h⟩:∃b:Bool,True/\jo F p=iN b:=by
  unfold jo wx;refine eM _ (λs:Int=>∃k:Nat,s=(k:Int)/\k<=Ts p) (λs=>Ts p-s.toNat) ?_ F _ ⟨0,rfl,om⟩ aQ;rintro ii ⟨k,rfl,hk⟩ rc hrc;by_cases hk:k<Ts p
  ·have hI:=hit _ (fm hk);rw[cm om,bC hk,b9,gd hk];generalize p[k]=it at hI;simp only[aH,aD];cases (cond (cond (eK (it.fKind<1)) hJ (eK (4<it.fKind))) hJ ((Ts it.fText:Int) != cond (it.fKind==1) 1 0))with
   | true=>simp_all|false=>
    rw[aJ];cases (cond (it.fKind != 4) (cond it.BK hJ (eK (0<(Ts it.cK:Int)))) eQ)with
    | true=>simp_all|false=>
     rw[aJ];have hl:=hI.2.2;refine eM _ (λs:Int=>∃j:Nat,s=(j:Int)/\j<=Ts it.cK) (λs=>Ts it.cK-s.toNat) ?_ F _ ⟨0,rfl,om⟩ aQ;rintro jj ⟨j,rfl,hj⟩ bD amr;by_cases hj:j<Ts it.cK
     ·rw[cm om,bC hj];have e:∃b,(cond (eK ((it.cK.getD (eJ (j:Int)) fT).kq<(it.cK.getD (eJ (j:Int)) fT).qq)) (iN hJ) (cond (eK (0<(j:Int))) (rq ((eK (0<=aE ((j:Int)-1)))&&(eK (aE ((j:Int)-1)<(Ts it.cK:Int)))) (iN (eK (aE ((it.cK.getD (eJ (j:Int)) fT).qq)<=aE ((aE ((it.cK.getD (eJ (aE ((j:Int)-1))) fT).kq))+1))))) (iN eQ)):O Bool)=iN b:=by
       by_cases h0:0<j
       ·rw[uP om h0,cm (show(0:Int)<(j:Int) by omega),ck om om,aH];exact⟨_,rfl⟩
       simp_all[cf,aH]
      obtain⟨b,hb⟩:=e;rw[hb,aD];cases b with|true=>simp_all|false=>rw[aJ,bZ om];exact amr _ ⟨j+1,rfl,om⟩ aQ
     ·rw[cf om,bZ om];exact hrc _ ⟨k+1,rfl,om⟩ aQ
  simp_all[cf,trivial]
 exact⟨b,h⟩
theorem aeO(F:Nat)(p:J aC)(hF:Ts p+300<F)(hp:Ts p<50000000)(hit:∀it∈p,kg it):∃r,iW F p=iN r:=by
 obtain⟨b,hb⟩:=Jq F p hF hp hit;unfold iW wx;rw[hb];cases b with
 | false=>exact⟨_,rfl⟩|true=>
  have hsw:∀x:O (Bs×Bool),(∃r,True/\x=iN r)->∃r,x=iN r:=λx ⟨r,_,h⟩=>⟨r,h⟩;refine hsw _ (eM (λ_=>True) (λs=>∃k:Nat,s.2=(k:Int)/\k<=Ts p/\s.1.length<=10*k) (λs=>Ts p-s.2.toNat) ?_ F (([]:J Int),0) ⟨0,rfl,om,si⟩ aQ)
  ·rintro⟨acc,ii⟩ ⟨k,h0,hk,ha⟩ rc hrc;subst h0;by_cases hk:k<Ts p
   ·have hI:=hit _ (fm hk);rw[cm om,bC hk,b9,gd hk];cases (p[k].fKind != 1)with|true=>simp_all|false=>have hl:=hI.2.1;have:(cY p[k].fText).length=p[k].fText.length:=je _;rw[dI om om,bZ om];exact hrc _ ⟨k+1,rfl,om,by grind⟩ aQ
   simp_all[cf,trivial]
theorem Vn(F:Nat)(p:J aC)(st:J Bool)(hF:Ts p<F)(hp:Ts p<50000000)(hs:Ts st=Ts p+1):∃s2:J Bool,Ts s2=Ts p+1/\qJ F p st=iN s2:=by
 refine eM _ (λs=>∃k:Nat,s.1=(k:Int)/\k<=Ts p/\s.2.length=Ts p+1) (λs=>Ts p-s.1.toNat) ?_ F _ ⟨0,rfl,om,hs⟩ aQ;rintro⟨ii,s2⟩ ⟨k,h0,hk,hl⟩ rc hrc;dsimp only at h0 hl⊢;subst h0;by_cases hk:k<Ts p
 ·rw[cm om,bC hk,ck om om,aH,aD,bZ om];have e:cond (s2.getD (eJ (k:Int)) eQ) ((p.getD (eJ (k:Int)) eN).fKind==3,s2) (eQ,s2)=((s2.getD (eJ (k:Int)) eQ&&(p.getD (eJ (k:Int)) eN).fKind==3),s2):=by grind
  rw[e];dsimp only;cases (s2.getD (eJ (k:Int)) eQ&&(p.getD (eJ (k:Int)) eN).fKind==3)with|true=>rw[ck om om];exact hrc _ ⟨k+1,rfl,om,by simpa using hl⟩ aQ|false=>exact hrc _ ⟨k+1,rfl,om,hl⟩ aQ
 grind
theorem ab1(F:Nat)(st:J Bool)(hF:Ts st<F)(hs:Ts st<500000000):∃b,lH F st hJ=iN b:=by
 unfold lH wx;obtain⟨r,-,h⟩:∃r:Int,True/\yA F st hJ=iN r:=by
  refine eM _ (λs=>∃k:Nat,s=(k:Int)/\k<=Ts st) (λs=>Ts st-s.toNat) ?_ F _ ⟨0,rfl,om⟩ aQ;rintro ii ⟨k,rfl,hk⟩ rc hrc;by_cases hk:k<Ts st
  ·rw[cm om,bC hk,bZ om];cases (hJ==st.getD (eJ (k:Int)) eQ)with|true=>simp_all|false=>exact hrc _ ⟨k+1,rfl,om⟩ aQ
  simp_all[cf,trivial]
 simp_all
theorem ams(F:Nat)(it:aC)(b:Int)(hF:300<F)(h:kg it):∃r,qS F it b=iN r:=by
 unfold qS wx;cases hk:(it.fKind==1)with
 | true=>have:=h.1 (eq_of_beq hk);rw[kJ om];exact⟨_,rfl⟩|false=>
  cases (it.fKind==4)with
  | false=>exact⟨_,rfl⟩|true=>
   have hl:=h.2.2;have hsw:∀x:O Bool,(∃r,True/\x=iN r)->∃r,x=iN r:=λx ⟨r,_,h⟩=>⟨r,h⟩;refine hsw _ (eM (λ_=>True) (λs=>∃k:Nat,s.2=(k:Int)/\k<=Ts it.cK) (λs=>Ts it.cK-s.2.toNat) ?_ F (eQ,0) ⟨0,rfl,om⟩ aQ)
   ·rintro⟨acc,ii⟩ ⟨k,h0,hk2⟩ rc hrc;subst h0;by_cases hk2:k<Ts it.cK
    ·rw[cm om,bC hk2,aH,aH,bZ om];exact hrc _ ⟨k+1,rfl,om⟩ aQ
    ·rw[cf om];grind
theorem aeP(F:Nat)(p:J aC)(st:J Bool)(b:Int)(hF:Ts p+300<F)(hp:Ts p<50000000)(hit:∀it∈p,kg it)(hs:Ts st=Ts p+1):∃s2:J Bool,Ts s2=Ts p+1/\lI F p st b=iN s2:=by
 unfold lI wx;have hw:aE ((Ts p:Int)+1)=((Ts p+1:Nat):Int):=bZ om;rw[hw,cy (by rw[dT om,dT om,dT om,dT om,dT om];rfl),b9];refine eM _ (λs=>∃k:Nat,s.1=(k:Int)/\k<=Ts p/\s.2.length=Ts p+1) (λs=>Ts p-s.1.toNat) ?_ F _ ⟨0,rfl,om,si⟩ aQ;rintro⟨ii,s2⟩ ⟨k,h0,hk,hl⟩ rc hrc;subst h0;by_cases hk:k<Ts p
 ·rw[cm om,bC hk,ck om om,b9,gd hk,bZ om];have vr:∀s3:J Bool,Ts s3=Ts p+1->∃s2:J Bool,Ts s2=Ts p+1/\rc (((k+1:Nat):Int),s3)=iN s2:=λs3 h3=>hrc _ ⟨k+1,rfl,om,h3⟩ aQ;cases st.getD k eQ with
  | false=>exact vr _ hl|true=>
   cases (p[k].fKind==3)with
   | true=>rw[aS,ck om om];simp_all|false=>obtain⟨r,hr⟩:=ams F p[k] b om (hit _ (fm hk));rw[aJ,hr,aD];cases r with|false=>exact vr _ hl|true=>rw[aS,ck om om];simp_all
 ·rw[cf om];obtain⟨s3,h3,h4⟩:=Vn F p s2 om hp hl;simp_all
theorem aj3(F:Nat)(p:J aC)(n:Bs)(hF:Ts p+300<F)(qR:Ts n<F)(hn:Ts n<50000000)(hp:Ts p<50000000)(hit:∀it∈p,kg it):∃b,nO F p n=iN b:=by
 unfold nO ou wx;obtain⟨v,hv⟩:=Jq F p hF hp hit;rw[hv,aD];cases v with
 | false=>exact⟨_,rfl⟩|true=>
  have hw:aE ((Ts p:Int)+1)=((Ts p+1:Nat):Int):=bZ om;rw[hw,gN,aJ,cy (by rw[dT om,dT om,dT om,dT om,dT om];rfl),b9,kJ si];obtain⟨s0,h1,h2⟩:=Vn F p ((aT (Ts p+1) eQ).set 0 hJ) om hp si;rw[h2,aD];have hsw:∀x:O (Int×Bool),(∃r,True/\x=iN r)->∃b,((x.bind λx3=>iN (x3.1,x3.2)).bind λx1=>iN x1.2)=iN b:=by grind
  refine hsw _ (eM (λ_=>True) (λs=>∃k:Nat,s.2.2.2=(k:Int)/\k<=Ts n/\s.1.length=Ts p+1) (λs=>Ts n-s.2.2.2.toNat) ?_ F (s0,0,eQ,0) ⟨0,rfl,om,h1⟩ aQ)
  ·rintro⟨st,sz,fd,ii⟩ ⟨k,h0,hk,hl⟩ rc hrc;dsimp only at h0 hl⊢;subst h0;rw[ck om om,aH,aD]
   have eS:∀x6:Int×Bool,∃r:Int×Bool,True/\(((cond ((k:Int)==(Ts n:Int)) (iN hJ) ((lH F st hJ).bind λx9=>iN (!x9)):O Bool).bind λx8=>
     cond x8 (iN (x6.1,x6.2)) (rq ((eK (0<=(k:Int)))&&(eK ((k:Int)<(Ts n:Int)))) ((lI F p st ((n.getD (eJ (k:Int)) 0).toNat:Int)).bind λcA=>rc (cA,x6.1,x6.2,aE ((k:Int)+1))))))=iN r:=by
    intro x6;obtain⟨c,hc⟩:=ab1 F st om om;rw[hc,aD];by_cases hkn:k<Ts n
    ·rw[show((k:Int)==(Ts n:Int))=eQ by simp;omega,aJ,aD];cases c with
     | false=>simp_all|true=>obtain⟨s4,h4,h5⟩:=aeP F p st ((n.getD (eJ (k:Int)) 0).toNat:Int) hF hp hit hl;rw[gN,aJ,bC hkn,h5,aD,bZ om];exact hrc _ ⟨k+1,rfl,om,h4⟩ aQ
    ·rw[show((k:Int)==(Ts n:Int))=hJ by simp;omega];simp_all
   cases (cond (st.getD (eJ (Ts p:Int)) eQ) (eK ((Ts n:Int)<=(k:Int))) eQ)with|true=>exact eS ((k:Int),hJ)|false=>exact eS (sz,fd)
theorem ars{x:J dZ}(h:EJ x i b=hJ):i<Ts x:=by unfold EJ at h;simp_all
theorem amt(F:Nat)(x:J dZ)(i:Nat)(s:Bs)(hF:Ts s<F)(hi:i<=Ts x)(hx:Ts x<500000000)(hs:Ts s<500000000):∃b:Bool,(b=hJ->i+Ts s<=Ts x)/\Gm F x (i:Int) s=iN b:=by
 refine eM _ (λk'=>∃k:Nat,k'=(k:Int)/\k<=Ts s/\i+k<=Ts x) (λk'=>Ts s-k'.toNat) ?_ F _ ⟨0,rfl,om,om⟩ aQ;rintro ii ⟨k,rfl,hk,hik⟩ rc hrc;by_cases hk:k<Ts s
 ·have hw:aE ((i:Int)+(k:Int))=((i+k:Nat):Int):=by grind[bO]
  rw[cm om,bC hk,hw,jS,bZ om];cases h:EJ x (i+k) (((s.getD (eJ (k:Int)) 0).toNat:Int))with|false=>simp_all|true=>have:=ars h;exact hrc _ ⟨k+1,rfl,om,om⟩ aQ
 ·rw[cf om];grind
def CL:J nq:=(Ac 0).getD []
def aoz(F:Nat):Ac F=iN CL:=rfl
def Vo:Ts CL=8:=rfl
theorem ahA:∀c∈CL,Ts c.fname=5/\c.tJ.length<=4:=by decide
theorem aeQ(F:Nat)(x:J dZ)(i:Nat)(hF:100<F)(hi:i<Ts x)(hx:Ts x<50000000):∃r:J cC×Int,(∃e:Nat,r.2=(e:Int)/\i<e/\e<=Ts x/\r.1.length<=4)/\qT F x (i:Int)=iN r:=by
 unfold qT wx;rw[aoz];refine eM _ (λk'=>∃k:Nat,k'=(k:Int)/\k<=8) (λk'=>8-k'.toNat) ?_ F _ ⟨0,rfl,om⟩ aQ;rintro ii ⟨k,rfl,hk⟩ rc hrc;have hw1:aE ((i:Int)+1)=((i+1:Nat):Int):=bZ om;have wB:aE ((i:Int)+2)=((i+2:Nat):Int):=by grind[bO]
 have Zk:aE ((i:Int)+3)=((i+3:Nat):Int):=by grind[bO]
 by_cases hk:k<Ts CL
 ·have hm:=ahA _ (fm hk);rw[cm om,bC hk,b9,gd hk,bZ om];generalize CL[k]=c at hm;rw[kJ aQ,kJ aQ];have hl:((([91,58]:Bs)++c.fname)++([58,93]:Bs)).length=9:=by simp;omega
  obtain⟨b,h1,h2⟩:=amt F x i ((([91,58]:Bs)++c.fname)++([58,93]:Bs)) om om om om;rw[h2,aD];rw[hl]at h1⊢;cases b with
  | true=>
   have:=h1 rfl;have hw:aE ((i:Int)+((9:Nat):Int))=((i+9:Nat):Int):=by grind[bO]
   rw[bC hk,hw];exact⟨_,⟨i+9,rfl,om,om,hm.2⟩,rfl⟩
  | false=>
   have h8:k<8:=by rw[<-Vo];exact hk
   exact hrc _ ⟨k+1,rfl,om⟩ aQ
 ·rw[cf om,bC hi,hw1,wB,Zk,jS,aD,jS,aH,aD,aD,aH,aD];cases h4:cond (cond (EJ x (i+1) 45) (eK (((i+2:Nat):Int)<(Ts x:Int))) eQ) (!EJ x (i+2) 93) eQ with
  | false=>exact⟨_,⟨i+1,rfl,om,om,si⟩,rfl⟩|true=>
   have h5:i+2<Ts x:=by grind
   rw[bC h5];cases eK ((x.getD (eJ (i:Int)) jA).fb<=(x.getD (eJ ((i+2:Nat):Int)) jA).fb)
   ·exact⟨_,⟨i+3,rfl,om,om,si⟩,rfl⟩
   ·exact⟨_,⟨i+3,rfl,om,om,si⟩,rfl⟩
theorem apu(F:Nat)(l:J cC)(b:Int)(hF:Ts l<F)(hl:Ts l<500000000):∃r,xu F l b=iN r:=by
 obtain⟨r,-,h⟩:∃r:Bool,True/\xu F l b=iN r:=by
  refine eM _ (λk'=>∃k:Nat,k'=(k:Int)/\k<=Ts l) (λk'=>Ts l-k'.toNat) ?_ F _ ⟨0,rfl,om⟩ aQ;rintro ii ⟨k,rfl,hk⟩ rc hrc;by_cases hk:k<Ts l
  ·rw[cm om,bC hk,bC hk,aH,bZ om];cases cond (eK ((l.getD (eJ (k:Int)) fT).qq<=b)) (eK (b<=(l.getD (eJ (k:Int)) fT).kq)) eQ with|true=>simp_all|false=>exact hrc _ ⟨k+1,rfl,om⟩ aQ
  simp_all[cf,trivial]
 exact⟨r,h⟩
theorem amu(F:Nat)(l:J cC)(hF:Ts l+300<F)(hl:Ts l<500000000):∃r:J cC,Ts r<=256/\Jr F l=iN r:=by
 refine eM _ (λs=>∃k:Nat,s.1=(k:Int)/\k<=256/\s.2.length<=k) (λs=>256-s.1.toNat) ?_ F _ ⟨0,rfl,om,si⟩ aQ;rintro⟨ii,o⟩ ⟨k,h0,hk,ho⟩ rc hrc;dsimp only at h0 ho⊢;subst h0;by_cases hk:k<256
 ·obtain⟨b,hb⟩:=apu F l (dO .u8 (k:Int)) om hl;rw[cm om,hb,aD,bZ om];cases b with
  | false=>exact hrc _ ⟨k+1,rfl,om,by dsimp only;omega⟩ aQ|true=>
   by_cases h0:0<Ts o
   ·have hw:=uP om h0;rw[cm om,hw,bC om,aD];dsimp only;cases (aE ((aE ((o.getD (eJ ((Ts o-1:Nat):Int)) fT).kq))+1))==(k:Int)with|true=>rw[bC om];exact hrc _ ⟨k+1,rfl,om,aQ⟩ aQ|false=>rw[dI aQ om];exact hrc _ ⟨k+1,rfl,om,aQ⟩ aQ
   ·rw[cf om,aD];rw[dI aQ om];exact hrc _ ⟨k+1,rfl,om,aQ⟩ aQ
 grind
theorem ab2(F:Nat)(x:J dZ)(i:Nat)(hF:4*Ts x+1000<F)(hx:Ts x<40000000)(hi:i<Ts x):
  ∃r:aC×Int×Bool,(r.2.2=hJ->kg r.1/\∃e:Nat,r.2.1=(e:Int)/\i<e/\e<=Ts x)/\sg F x (i:Int)=iN r:=by
 unfold sg wx;have hw1:aE ((i:Int)+1)=((i+1:Nat):Int):=bZ om;rw[hw1,jS,aD,jS,aD,aH,aD,bZ om,aH,aD];have h0:∃y:Int×Int×Bs×Bool×J cC,cond (cond (EJ x (i+1) 33) hJ (EJ x (i+1) 94)) (((i+1+1:Nat):Int),(aC.mk 4 [] eQ []).fKind,(aC.mk 4 [] eQ []).fText,hJ,(aC.mk 4 [] eQ []).cK) (((i+1:Nat):Int),(aC.mk 4 [] eQ []).fKind,(aC.mk 4 [] eQ []).fText,(aC.mk 4 [] eQ []).BK,(aC.mk 4 [] eQ []).cK)=y/\(∃s0:Nat,y.1=(s0:Int)/\i<s0/\s0<=i+2)/\y.2.1=4/\y.2.2.1=[]:=by
  cases (cond (EJ x (i+1) 33) hJ (EJ x (i+1) 94))
  ·exact⟨_,rfl,⟨i+1,rfl,om,om⟩,rfl,rfl⟩
  ·exact⟨_,rfl,⟨i+2,rfl,om,om⟩,rfl,rfl⟩
 obtain⟨y,hy,⟨s0,hs0,hs1,hs2⟩,hy2,hy3⟩:=h0;rw[hy,hs0,hy2,hy3];refine eM _ (λs=>∃k:Nat,s.1=(k:Int)/\i<k/\k<=Ts x+2/\s.2.1.length<=4*k) (λs=>Ts x+2-s.1.toNat) ?_ F _ ⟨s0,rfl,hs1,om,si⟩ aQ;rintro⟨ii,sp,fi⟩ ⟨k,h0,hk,hk2,hl⟩ rc hrc;dsimp only at h0 hl⊢;subst h0;rw[jS,aD,aH,aH,aD];by_cases wC:k<Ts x
 ·rw[cm (show(k:Int)<(Ts x:Int) by omega)];cases (cond fi hJ (!EJ x k 93))with
  | true=>obtain⟨r,⟨e,h1,h2,h3,h4⟩,h5⟩:=aeQ F x k om wC om;rw[h5,aD,dI om om];exact hrc _ ⟨e,h1,om,om,by grind⟩ (by grind)
  | false=>obtain⟨r,h1,h2⟩:=amu F sp om om;rw[cf (show ¬ (Ts x:Int)<=(k:Int) by omega),h2,bZ om];exact⟨_,λ_=>⟨⟨(λh=>absurd h (show ¬ ((4:Int)=1) by decide)),si,h1⟩,k+1,rfl,om,om⟩,rfl⟩
 simp_all[cf,aJ,cm]
theorem ab3(F:Nat)(l:J aB)(hF:Ts l<F)(qR:4*bV l+1000<F)(h1:Ts l<1000000000)(h2:bV l<=20000000):∃p:J aC,((∀it∈p,kg it)/\p.length<=bV l)/\gE F l=iN p:=by
 unfold gE wx;rw[Ea F l hF om h1 om];have hx:(l.flatMap HM).length<=bV l:=HN _ afX _;generalize(l.flatMap HM)=x at hx;refine eM _ (λs=>∃k:Nat,s.2=(k:Int)/\k<=Ts x/\s.1.length<=k/\∀it∈s.1,kg it) (λs=>Ts x-s.2.toNat) ?_ F _ ⟨0,rfl,om,si,λit h=>by cases h⟩ aQ;rintro⟨acc,ii⟩ ⟨k,h0,hk,ha,hit⟩ rc hrc;dsimp only at h0 ha hit⊢;subst h0;have Ds:∀(it:aC)(e:Nat),kg it->k<e->e<=Ts x->∃p:J aC,((∀it∈p,kg it)/\p.length<=bV l)/\rc (acc++[it],(e:Int))=iN p:=by intro it e h3 h4 h5;refine hrc _ ⟨e,rfl,h5,aQ,λy hy=>?_⟩ aQ;grind
 by_cases wC:k<Ts x
 ·rw[cm om,jS,aD,jS,aD,dI aQ om,dI aQ om,bZ om];cases EJ x k 42 with
  | true=>exact Ds _ _ ⟨(λh=>absurd h (show ¬ ((3:Int)=1) by decide)),si,si⟩ om om
  | false=>
   cases EJ x k 63 with
   | true=>exact Ds _ _ ⟨(λh=>absurd h (show ¬ ((2:Int)=1) by decide)),si,si⟩ om om
   | false=>
    rw[jS,aD];have eS:∃p:J aC,((∀it∈p,kg it)/\p.length<=bV l)/\(rq ((eK (0<=(k:Int)))&&(eK ((k:Int)<(Ts x:Int)))) (rq ((eK (Ts acc+Ts ([(aC.mk 1 (cx ([(x.getD (eJ (k:Int)) jA).fb]:J Int)) eQ [])]:J aC)<=9223372036854775807))&&(eK ((Ts acc+Ts ([(aC.mk 1 (cx ([(x.getD (eJ (k:Int)) jA).fb]:J Int)) eQ [])]:J aC))*56<=140737488355328))) (rc (acc++([(aC.mk 1 (cx ([(x.getD (eJ (k:Int)) jA).fb]:J Int)) eQ [])]:J aC),aE ((k:Int)+1)))))=iN p:=by rw[bC wC,dI aQ om,bZ om];exact Ds _ _ ⟨(λ_=>by simp[cx]),by simp[cx],si⟩ om om
    cases EJ x k 91 with
    | false=>exact eS|true=>
     obtain⟨r,h3,h4⟩:=ab2 F x k om om wC;rw[h4,aD];cases h5:r.2.2 with
     | false=>exact eS|true=>obtain⟨g1,e,g2,g3,g4⟩:=h3 h5;rw[dI aQ om,g2];obtain⟨p,hp,hq⟩:=Ds r.1 e g1 g3 g4;rw[hq];exact⟨p,hp,rfl⟩
 grind
theorem Dt(F:Nat)(l:J cC)(hF:Ts l<F)(hl:Ts l<500000000):∃r,pn F l=iN r:=by
 obtain⟨r,-,h⟩:∃r:Bool,True/\pn F l=iN r:=by
  refine eM _ (λk'=>∃k:Nat,k'=(k:Int)/\k<=Ts l) (λk'=>Ts l-k'.toNat) ?_ F _ ⟨0,rfl,om⟩ aQ;rintro ii ⟨k,rfl,hk⟩ rc hrc;by_cases hk:k<Ts l
  ·rw[cm om,bC hk,bC hk];have e:∃b,(cond (eK ((l.getD (eJ (k:Int)) fT).kq<(l.getD (eJ (k:Int)) fT).qq)) (iN hJ) (cond (eK (0<(k:Int))) (rq ((eK (0<=(k:Int)))&&(eK ((k:Int)<(Ts l:Int)))) (rq ((eK (0<=aE ((k:Int)-1)))&&(eK (aE ((k:Int)-1)<(Ts l:Int)))) (iN (eK (aE ((l.getD (eJ (k:Int)) fT).qq)<=aE ((aE ((l.getD (eJ (aE ((k:Int)-1))) fT).kq))+1)))))) (iN eQ)):O Bool)=iN b:=by
    by_cases h0:0<k
    ·rw[bC hk,uP om h0,cm (show(0:Int)<(k:Int) by omega),ck om om,aH];exact⟨_,rfl⟩
    simp_all[cf,aH]
   obtain⟨b,hb⟩:=e;rw[hb,bZ om];cases b with|true=>simp_all|false=>exact hrc _ ⟨k+1,rfl,om⟩ aQ
  simp_all[cf,trivial]
 exact⟨r,h⟩
theorem ahB(F:Nat)(p:J aC)(hF:Ts p+300<F)(hp:Ts p<50000000)(hit:∀it∈p,kg it):∃b,kP F p=iN b:=by
 obtain⟨b,-,h⟩:∃b:Bool,True/\kP F p=iN b:=by
  refine eM _ (λs=>∃k:Nat,s=(k:Int)/\k<=Ts p) (λs=>Ts p-s.toNat) ?_ F _ ⟨0,rfl,om⟩ aQ;rintro ii ⟨k,rfl,hk⟩ rc hrc;by_cases hk:k<Ts p
  ·have hI:=hit _ (fm hk);rw[cm om,bC hk,b9,gd hk];generalize p[k]=it at hI;obtain⟨c,hc⟩:=Dt F it.cK (by have:=hI.2.2;omega) (by have:=hI.2.2;omega);simp only[aH,aD,hc];rw[bZ om];cases (cond (cond (cond (cond (eK (it.fKind<1)) hJ (eK (4<it.fKind))) hJ ((Ts it.fText:Int) != cond (it.fKind==1) 1 0)) hJ (cond (it.fKind != 4) (cond it.BK hJ (eK (0<(Ts it.cK:Int)))) eQ)) hJ !c)with|true=>simp_all|false=>exact hrc _ ⟨k+1,rfl,om⟩ aQ
  simp_all[cf,trivial]
 exact⟨b,h⟩
theorem ab4(F:Nat)(p:J aC)(hF:Ts p+300<F)(hp:Ts p<50000000)(hit:∀it∈p,kg it):∃r,kQ F p=iN r:=by
 obtain⟨b,hb⟩:=ahB F p hF hp hit;obtain⟨b,-,h⟩:∃b:Bs×Bool,True/\kQ F p=iN b:=by
  refine eM _ (λs=>∃k:Nat,s.2=(k:Int)/\k<=Ts p/\s.1.length<=10*k) (λs=>Ts p-s.2.toNat) ?_ F _ ⟨0,rfl,om,si⟩ aQ;rintro⟨acc,ii⟩ ⟨k,h0,hk,ha⟩ rc hrc;subst h0;by_cases hk:k<Ts p
  ·have hI:=hit _ (fm hk);have hl:=hI.2.1;rw[cm om,bC hk,bC hk,b9,gd hk];cases (p[k].fKind != 1)with|true=>simp_all|false=>rw[ab5 om,bZ om];exact hrc _ ⟨k+1,rfl,om,by grind⟩ aQ
  simp_all[cf,aD,aH,trivial]
 exact⟨b,h⟩
theorem Js:∀s:Bs,(Lib.cut s [47]=(s,[],eQ)/\cq s=[s])\/∃a r,Lib.cut s [47]=(a,r,hJ)/\cq s=a::cq r/\a.length+Ts r+1=Ts s
 | []=>.inl ⟨rfl,rfl⟩|b::l=>by
  have ih:=Js l;have hge:=Lib.indexByte_ge l 47;by_cases hb:b=47
  ·right;subst hb;have h0:Lib.index ((47:UInt8)::l) [47]=0:=by rw[Lib.index_one];simp[lO]
   exact⟨[],l,by unfold Lib.cut;rw[h0];simp,rfl,si⟩
  ·have Y9:(b==47)=eQ:=by simpa using hb
   have h0:Lib.index (b::l) [47]=if Lib.index l [47] == -1 then -1 else Lib.index l [47]+1:=by rw[Lib.index_one,Lib.index_one,lO];simp[hb]
   have hp:cq (b::l)=(match cq l with
    | []=>[[b]]|p::ps=>(b::p)::ps):=by rw[cq,Y9]<;>cases cq l<;>rfl
   unfold Lib.cut at ih⊢;rw[hp,h0];rcases ih with⟨h1,h2⟩|⟨a,r,h1,h2,h3⟩
   ·grind
   ·right;by_cases hi:0<=Lib.index l [47]
    ·have e1:(Lib.index l [47] == -1)=eQ:=by simp;omega
     refine⟨b::a,r,?_,by rw[h2],aQ⟩;rw[e1];simp;rw[if_pos om,show(Lib.index l [47]+1).toNat=(Lib.index l [47]).toNat+1 by omega];simp_all
    simp_all
theorem XK(F:Nat)(s:Bs)(h:Ts s<=1000000):XL F s [47]=iN (Lib.cut s [47]):=by grind[XL,kJ]
theorem ab6(F:Nat)(l:J Bs)(h1:Ts l<=1000000)(h2:(dX l).length<=100000000):zB F [47] l=iN (dX l,l):=by grind[zB,Aa,join_eq,ck]
def gJ(l:J aB):Bs:=l.flatMap λr=>r.fText
theorem vN:∀l:J aB,Ts (gJ l)=bV l|[]=>rfl|r::l=>by have:=vN l;unfold gJ bV at *;simp only[vY,qg,jF,O0];omega
theorem Zm(s:Bs):Lh (cY s)=hJ:=by unfold Lh cY;rw[pN];intro x hx;obtain⟨b,-,rfl⟩:=lF.1 hx;have:=b.toNat_lt;simp;omega
theorem art(F:Nat)(s:Bs)(c:Bool)(buf:J Int)(h:Ts buf+Ts s<=100000000):jB F s c buf=iN ((Ts s:Int),hJ,buf++cY s):=by unfold jB wx;rw[show qt F c buf=iN (hJ,buf) by cases c<;>rfl,aD,dI (by simp[cY];omega) om]
theorem T7(F:Nat)(l:J aB)(hF:Ts l<F)(h1:Ts l<1000000000)(h2:bV l<=100000000):sG F l=iN (gJ l):=by
 refine cz (λx=>∃k:Nat,x.1=(k:Int)/\k<=Ts l/\x.2.2=cY (gJ (l.take k))) (λx=>Ts l-x.1.toNat) ?_ F _ ⟨0,rfl,om,by simp[gJ,cY]⟩ aQ;rintro⟨ii,c,buf⟩ ⟨k,h0,hk,ha⟩;dsimp only at h0 ha⊢;subst h0;by_cases hk:k<Ts l
 ·left;have hs:=rX l k hk;have hle:=vM l (k+1);refine⟨(((k+1:Nat):Int),hJ,cY (gJ (l.take (k+1)))),⟨k+1,rfl,om,rfl⟩,aQ,λrc=>?_⟩;have HO:Ts buf=bV (l.take k):=by rw[ha,cY,je,vN]
  rw[cm om,bC hk,b9,gd hk,art F _ c buf om,bZ om];rw[ha,gJ,gJ,Ph _ _ _ hk];simp[cY]
 ·obtain rfl:k=Ts l:=om;have:(cY (gJ l)).length=bV l:=by rw[cY,je,vN]
  unfold lW wx;grind[cy,decide_eq_true,Zm,My]
theorem apv(F:Nat)(l:J aB)(hF:Ts l<F)(h1:Ts l<1000000000)(h2:bV l<=1000000):sG F l=iN (gJ l):=T7 F l hF h1 om
def HQ(c:Int)(o:J (J aB)×J aB)(q:Bs):J (J aB)×J aB:=(o.1++[o.2],[aB.mk q c])
def pcP(c:Int)(o:J (J aB)×J aB):J Bs->J (J aB)×J aB|[]=>o|p::ps=>ps.foldl (HQ c) (o.1,o.2++[aB.mk p c])
def oX(o:J (J aB)×J aB)(r:aB):J (J aB)×J aB:=cond (nU r.aI) o (pcP r.aI o (cq r.fText))
def HR(l:J aB):J (J aB)×J aB:=l.foldl oX ([],[])
def gK(l:J aB):J (J aB):=(HR l).1++[(HR l).2]
theorem XM(c:Int):∀(ps:J Bs)(o:J (J aB)×J aB),o.1 <+: (ps.foldl (HQ c) o).1|[],o=>abl|q::ps,o=>(List.prefix_append o.1 [o.2]).trans (XM c ps (HQ c o q))
theorem apw(o:J (J aB)×J aB)(r:aB):o.1 <+: (oX o r).1:=by
 unfold oX;cases nU r.aI
 ·cases cq r.fText with|nil=>exact abl|cons p ps=>exact XM r.aI ps (o.1,o.2++[aB.mk p r.aI])
 ·exact abl
theorem XN:∀(l:J aB)(o:J (J aB)×J aB),o.1 <+: (l.foldl oX o).1|[],o=>abl|r::l,o=>(apw o r).trans (XN l (oX o r))
variable{F:Nat}{pat:J aB -> J aC}
section
variable {lit : J aB -> Bool}
def Pm(pat:J aB->J aC)(lit:J aB->Bool)(t:J aB):bh:=bh.mk (gJ t) (pat t) (lit t)
def PcK(F:Nat)(pat:J aB->J aC)(lit:J aB->Bool)(t:J aB):Prop:=eR F t=iN (pat t)/\(∃x,iW F (pat t)=iN (x,lit t))/\t.length<F/\t.length<1000000/\bV t<=1000000
theorem aru{t:J aB}(hK:PcK F pat lit t)(fs:J aZ)(ds:J (J aB))(dead:J (cM×Bool))(found:J Bs)(hd:Ts ds<=1000000):
  p9 F t fs (ds.map (Pm pat lit)) (ds.all lit) dead (ds.map gJ) found=iN (fs,(ds++[t]).map (Pm pat lit),(ds++[t]).all lit,(ds++[t]).map gJ,found):=by
 obtain⟨h1,⟨x,h2⟩,h3,h4,h5⟩:=hK;unfold p9;rw[apv F t h3 om h5,aD,h1,aD];rw[h2,aD,aH,aD];have e:cond (ds.all lit) ((x,lit t).2,ds.map gJ,found) (eQ,ds.map gJ,found)=(ds.all lit&&lit t,ds.map gJ,found):=by cases ds.all lit<;>rfl
 rw[e];rw[dI aQ om,dI aQ om];simp[Pm]
abbrev PSt:=(J aB)×Int×(J aZ)×(J bh)×Bool×(J Bs)×(J Bs)
def pSt(pat:J aB->J aC)(lit:J aB->Bool)(fs:J aZ)(i:Nat)(o:J (J aB)×J aB):PSt:=(o.2,(i:Int),fs,o.1.map (Pm pat lit),o.1.all lit,o.1.map gJ,[])
theorem pieces_eq{l:J aB}{fs:J aZ}{dead:J (cM×Bool)}(hF:Ts l<F)(qR:bV l+1<F)(h1:Ts l<1000000)(h2:bV l<=1000000)(hn:(gK l).length<=1000000)(arv:∀k,((l.take k).foldl oX ([],[])).2.length<=1000000)(hK:∀t∈gK l,PcK F pat lit t):
  nK F l fs [] hJ dead [] []=iN (fs,(gK l).map (Pm pat lit),(gK l).all lit,(gK l).map gJ,[]):=by
 have hmem:∀t,t∈(HR l).1->PcK F pat lit t:=λt ht=>hK t (by unfold gK;simp[ht]);have ahC:PcK F pat lit (HR l).2:=hK _ (by unfold gK;simp);have hlen:(HR l).1.length+1<=1000000:=by have:=hn;unfold gK at this;simpa using this
 unfold nK wx;refine cz (λx:PSt=>∃k:Nat,k<=Ts l/\x=pSt pat lit fs k ((l.take k).foldl oX ([],[]))) (λx=>Ts l-x.2.1.toNat) ?_ F _ ⟨0,om,rfl⟩ aQ;rintro x ⟨k,hk,rfl⟩;have hpre:((l.take k).foldl oX ([],[])).1 <+: (HR l).1:=by have:=XN (l.drop k) ((l.take k).foldl oX ([],[]));rwa [<-Mi,Kl]at this
 have hnk:=arv k;by_cases hk:k<Ts l
 ·left;have aoA:(l.take (k+1)).foldl oX ([],[])=oX ((l.take k).foldl oX ([],[])) l[k]:=by grind[List.take_succ_eq_append_getElem]
  refine⟨pSt pat lit fs (k+1) ((l.take (k+1)).foldl oX ([],[])),⟨k+1,om,rfl⟩,by simp only[pSt];omega,λrc=>?_⟩;have Vp:(oX ((l.take k).foldl oX ([],[])) l[k]).1 <+: (HR l).1:=by rw[<-aoA];have:=XN (l.drop (k+1)) ((l.take (k+1)).foldl oX ([],[]));rwa [<-Mi,Kl]at this
  have htl:l[k].fText.length<=bV l:=RN (fm hk);rw[aoA];generalize(l.take k).foldl oX ([],[])=o at hpre Vp hnk;unfold pSt;dsimp only;rw[cm om,bC hk,b9,gd hk,aH,aD];have e1:cond (l[k].aI != 0) (l[k].aI != 1,o.1.map gJ,([]:J Bs)) (eQ,o.1.map gJ,[])=(l[k].aI != 0&&l[k].aI != 1,o.1.map gJ,[]):=by grind
  rw[e1];dsimp only;rw[aH,aD];have e2:cond (l[k].aI != 0&&l[k].aI != 1) (l[k].aI != 2,o.1.map gJ,([]:J Bs)) (eQ,o.1.map gJ,[])=(nU l[k].aI,o.1.map gJ,[]):=by grind[XI]
  rw[e2];dsimp only;rw[bZ om];unfold oX at Vp⊢;cases hc:nU l[k].aI with
  | true=>rfl|false=>
   rw[hc]at Vp;rw[aJ,aJ]at *;rw[XK F _ om,aD,dI aQ om];generalize MA:pcP l[k].aI o (cq l[k].fText)=fin at Vp;have avT:Ts fin.1<=1000000:=by grind
   refine cz (R:=(J aZ)×(J bh)×Bool×(J Bs)×(J Bs))
    (λx=>∃(o2:J (J aB)×J aB)(rest:Bs)(sl:Bool),x=(o2.2,rest,sl,fs,o2.1.map (Pm pat lit),o2.1.all lit,o2.1.map gJ,[])/\rest.length<=l[k].fText.length /\
     ((sl=eQ/\o2=fin)\/(sl=hJ/\(cq rest).foldl (HQ l[k].aI) o2=fin))) (λx=>cond x.2.2.1 (Ts x.2.1+1) 0) ?_ F _ ?_ ?_
   ·rintro x ⟨o2,rest,sl,rfl,hrl,Ad⟩;dsimp only;rcases Ad with⟨rfl,rfl⟩|⟨rfl,hf⟩
    ·simp_all
    ·left;have hne:=sY rest;have hy:o2.2∈(HR l).1/\o2.1.length<=1000000:=by
      cases hp:cq rest with
      | nil=>exact absurd hp hne|cons p ps=>
       rw[hp]at hf;have Vq:(o2.1++[o2.2]) <+: fin.1:=by rw[<-hf];exact XM l[k].aI ps (HQ l[k].aI o2 p)
       refine⟨(Vq.trans Vp).subset si,?_⟩;grind
     have hyy:=aru (hmem _ hy.1) fs o2.1 dead [] hy.2;rcases Js rest with⟨g1,g2⟩|⟨a,r,g1,g2,g3⟩
     ·refine⟨_,⟨(o2.1++[o2.2],[aB.mk rest l[k].aI]),[],eQ,rfl,si,.inl ⟨rfl,?_⟩⟩,si,λbD=>?_⟩
      ·rw[g2]at hf;exact hf
      ·rw[aS,hyy,aD,XK F _ om,g1,aD]
     ·refine⟨_,⟨(o2.1++[o2.2],[aB.mk a l[k].aI]),r,hJ,rfl,om,.inr ⟨rfl,?_⟩⟩,aQ,λbD=>?_⟩
      ·rw[g2]at hf;exact hf
      ·rw[aS,hyy,aD,XK F _ om,g1,aD]
   ·rcases Js l[k].fText with⟨g1,g2⟩|⟨a,r,g1,g2,g3⟩
    ·refine⟨(o.1,o.2++[aB.mk l[k].fText l[k].aI]),[],eQ,by rw[g1],si,.inl ⟨rfl,?_⟩⟩;rw[g2]at MA;exact MA
    ·refine⟨(o.1,o.2++[aB.mk a l[k].aI]),r,hJ,by rw[g1],om,.inr ⟨rfl,?_⟩⟩;rw[g2]at MA;exact MA
   grind[Js]
 ·right;obtain rfl:k=Ts l:=om;intro rc;have ht:(l.take l.length).foldl oX ([],[])=HR l:=by rw[sS];rfl
  rw[ht];unfold pSt;dsimp only;rw[cf om,aru ahC fs (HR l).1 dead [] om];rfl
end
theorem ahD{r:J aB}(hF:(rK r).length<F)(h0:(rK r).length<1000000000)(h1:Ts r<=1000000000)(h2:bV r<=1000000000)(h:∀c∈rK r,∃p x,gE F c=iN p/\kQ F p=iN x):∃b,(b=hJ->True)/\pT F r=iN b:=by
 unfold pT Ry wx;rw[ck h1 h2];have hB:∀(F2:Nat)(x:O Bool),(∃b,True/\x=iN b)->∃b,(b=hJ->True)/\x=iN b:=λ_ x ⟨b,_,h⟩=>⟨b,λ_=>trivial,h⟩;refine hB F _ (BH (λ_=>True) (λx=>∃k:Nat,x.2.2=(k:Int)/\k<=Ts (rK r)) (λx=>Ts (rK r)-x.2.2.toNat) ?_ F (0,0,0) ⟨0,rfl,om⟩ aQ)
 ·rintro⟨a,b,ii⟩ ⟨k,h0,hk⟩;dsimp only at h0⊢;subst h0;by_cases hk:k<Ts (rK r)
  ·left;obtain⟨p,x,e1,e2⟩:=h (rK r)[k] (fm hk);refine⟨(cond (!x.2) (aE (a+1),b,((k+1:Nat):Int)) (cond (x.1==[46,46]) (a,aE (b+1),((k+1:Nat):Int)) (a,b,((k+1:Nat):Int)))),⟨k+1,?_,om⟩,?_,λrc=>?_⟩
   ·grind
   ·grind
   ·rw[bC hk,b9,gd hk,e1,aD,bZ om];grind
  simp_all[trivial,cf,aH,aD]
theorem ab7(l:J aB):(rK l).length<=bV l+1:=by have:=TR l ([],[]);unfold rK gq;simp[HD]at *;omega
theorem ahE:∀ {c:J aB},(∀r∈c,Ts r.fText=1)->bV c=Ts c|[],_=>rfl|r::c,h=>by have:=ahE (c:=c) λx hx=>h x (by simp[hx]);have:=h r si;unfold bV at *;simp;omega
theorem afY(p:Bs)(c:Int):gJ [aB.mk p c]=p:=by simp[gJ]
variable{cwd:Bs}
theorem ahF(h:gG cwd=hJ):Vk cwd [47]=([47],0):=by unfold Vk;rw[h];rfl
def gH(p n:Bs):Bs:=cond (p==[47]) ([47]++n) ((p++[47])++n)
def oY(l:J aZ)(p:Bs):Bool:=(ji l p).elim eQ λf=>f.lV
def Pn(n:Bs):Bool:=n.take 1==[46]
def ab8(c:bh):Bool:=eK (0<Ts c.jI)&&((c.jI.getD 0 eN).fKind==1&&(c.jI.getD 0 eN).fText==[46])
def oJ(mt:J aC->Bs->Bool)(c:bh)(n:Bs):Bool:=!((Pn n && !ab8 c) || !mt c.jI n)
def W(l:J aZ)(mt:J aC->Bs->Bool):J bh->Bs->J (J Bs)
 | [],p=>[[]]|c::cs,p=>cond (!oY l p) [] (cond (!c.fO) (((dQ l p).filter (oJ mt c)).flatMap λn=>(W l mt cs (gH p n)).map (n :: ·))
   (cond (c.bJ==[]||c.bJ==[46]) ((W l mt cs p).map (c.bJ :: ·)) (cond (c.bJ==[46,46]) ((W l mt cs (iR p)).map (c.bJ :: ·))
   (cond (ji l (gH p c.bJ)).isNone [] ((W l mt cs (gH p c.bJ)).map (c.bJ :: ·))))))
def xw(l:J aZ)(mt:J aC->Bs->Bool)(c:bh)(cs:J bh)(p:Bs):W l mt (c::cs) p=cond (!oY l p) [] (cond (!c.fO) (((dQ l p).filter (oJ mt c)).flatMap λn=>(W l mt cs (gH p n)).map (n :: ·))
   (cond (c.bJ==[]||c.bJ==[46]) ((W l mt cs p).map (c.bJ :: ·)) (cond (c.bJ==[46,46]) ((W l mt cs (iR p)).map (c.bJ :: ·))
   (cond (ji l (gH p c.bJ)).isNone [] ((W l mt cs (gH p c.bJ)).map (c.bJ :: ·)))))):=rfl
theorem ab9(F:Nat)(n:Bs):cE F n [46]=iN (Pn n):=by cases n with|nil=>rfl|cons b n=>unfold cE kD Pn wx;rw[cm aQ,ck si aQ];rfl
theorem amv(F:Nat)(n:Bs):cE F n [47]=iN (n.take 1==[47]):=by cases n with|nil=>rfl|cons b n=>unfold cE kD wx;rw[cm aQ,ck si aQ];rfl
theorem acd(F:Nat)(p n:Bs)(hp:Ts p<=1000000)(hn:Ts n<=1000000):sj F p n=iN (gH p n):=by unfold sj gH wx;rw[kJ aQ,kJ aQ,kJ aQ,aH]
def ahG(F:Nat)(p:Bs)(hs:Ts p<1000000000):wD F p=iN (iR p):=Zg F p hs
variable{l:J aZ}{mt:J aC -> Bs -> Bool}{parts:J bh}{names:J Bs}
abbrev T8:=Bool×(J aZ)×(J bh)×(J (cM×Bool))×(J Bs)×(J Bs)
def EK(F:Nat)(rb:Int->Bs->(J aZ)->(J bh)->(J (cM×Bool))->(J Bs)->(J Bs)->O T8)(a2:J aZ)(a3:J bh)(a4:J (cM×Bool))(bD:Bs×Int×(J Bs)×(J Bs)->O T8)(x1:Bs×Int×(J Bs)×(J Bs)):O T8:=
 cond (eK (x1.2.1<(Ts a3:Int)))
 ((sD F a2 x1.1).bind λx3=>
 (cond (!x3.2)
 (iN (hJ,x1.2.2.1,x1.2.2.2))
 (iN (!x3.1.lV,x1.2.2.1,x1.2.2.2)):O (Bool×(J Bs)×(J Bs))).bind λx4=>
 cond x4.1
 (iN (eQ,a2,a3,a4,x4.2.1,x4.2.2))
 (rq ((eK (0<=x1.2.1))&&(eK (x1.2.1<(Ts a3:Int)))) (cond (!((a3.getD (eJ x1.2.1) oK).fO))
 ((rb x1.2.1 x1.1 a2 a3 a4 x4.2.1 x4.2.2).bind λx5=>
 iN (x5.1,x5.2.1,x5.2.2.1,x5.2.2.2.1,x5.2.2.2.2.1,x5.2.2.2.2.2))
 ((cond (((a3.getD (eJ x1.2.1) oK).bJ)==[])
 (iN (hJ,x4.2.1,x4.2.2))
 (iN (((a3.getD (eJ x1.2.1) oK).bJ)==([46]:Bs),x4.2.1,x4.2.2)):O (Bool×(J Bs)×(J Bs))).bind λx6=>
 cond x6.1
 (bD (x1.1,aE (x1.2.1+1),x6.2.1,x6.2.2))
 (cond (((a3.getD (eJ x1.2.1) oK).bJ)==([46,46]:Bs))
 ((wD F x1.1).bind λx7=>
 bD (x7,aE (x1.2.1+1),x6.2.1,x6.2.2))
 ((sj F x1.1 ((a3.getD (eJ x1.2.1) oK).bJ)).bind λx8=>
 (sD F a2 x8).bind λx9=>
 cond (!x9.2)
 (iN (eQ,a2,a3,a4,x6.2.1,x6.2.2))
 (bD (x8,aE (x1.2.1+1),x6.2.1,x6.2.2))))))))
 ((zB F ([47]:Bs) x1.2.2.1).bind λcA=>
 rq ((eK (Ts x1.2.2.2+Ts ([cA.1]:J Bs)<=9223372036854775807))&&(eK ((Ts x1.2.2.2+Ts ([cA.1]:J Bs))*16<=140737488355328))) (iN (hJ,a2,a3,a4,cA.2,x1.2.2.2++([cA.1]:J Bs))))
def Vr(n:Nat)(a0:Int)(a1:Bs)(a2:J aZ)(a3:J bh)(a4:J (cM×Bool))(a5 a6:J Bs):
  nr F (n+1) a0 a1 a2 a3 a4 a5 a6=bW (EK F (iu F n) a2 a3 a4) F (a1,a0,a5,a6):=rfl
def ace(n:Nat)(a0:Int)(a1:Bs)(a2:J aZ)(a3:J bh)(a4:J (cM×Bool))(a5 a6:J Bs):
  lX F (n+1) a0 a1 a2 a3 a4 a5 a6=cond (fX dh a4 (cM.mk a0 a1) eQ)
   (iN (eQ,a2,a3,a4,a5,a6))
   ((nr F n a0 a1 a2 a3 a4 a5 a6).bind λx1=>
   cond (!x1.1)
   (iN (x1.1,x1.2.1,x1.2.2.1,jJ dh x1.2.2.2.1 (cM.mk a0 a1) hJ,x1.2.2.2.2.1,x1.2.2.2.2.2))
   (iN (x1.1,x1.2.1,x1.2.2.1,x1.2.2.2.1,x1.2.2.2.2.1,x1.2.2.2.2.2))):=rfl
def Vs(l:J aZ)(mt:J aC->Bs->Bool)(parts:J bh)(dead:J (cM×Bool)):Prop:=∀(i:Nat) p,fX dh dead (cM.mk (i:Int) p) eQ=hJ->W l mt (parts.drop i) p=[]
structure Eb(parts:List bh)(i:Nat)(names:List Bs):Prop where
 len:Ts names=Ts parts
 lit:∀j,i<=j->∀h:j<Ts parts,parts[j].fO=hJ->names.getD j []=parts[j].bJ
 sz:∀n∈names,Ts n<=4000
def Sz(l:J aZ)(parts:J bh):Prop:=VL l/\parts.length<=4000/\(∀c∈parts,Ts c.bJ<=4000)
theorem T9:∀(l:J Bs),(∀n∈l,Ts n<=4000)->Ts (dX l)<=4001*Ts l
 | [],_=>by simp[dX]|x::l,h=>by have ih:=T9 l λn hn=>h n (by simp[hn]);have hx:=h x si;cases l with|nil=>simp[dX]at *;omega|cons y l=>rw[Mv x si];simp at *;omega
theorem MB{p:Bs}{f:aZ}(hv:VL l)(h:ji l p=iN f):Ts p<=128/\gG p=hJ/\f∈l:=by obtain⟨h1,h2⟩:=Jo h;subst h2;exact⟨hv.small f h1,hv.path f h1,h1⟩
theorem XO(hv:VL l){p n:Bs}(h:n∈dQ l p):lK n=hJ/\n.length<=32:=by obtain⟨f,hf,rfl⟩:=lF.1 h;rw[Rq]at hf;unfold zn at hf;simp only[cL,wO]at hf;obtain⟨-,c,-,hc,-,-,e1,-,-⟩:=EI (hv.path f hf.1) hf.2.1;simp_all[Ax]
theorem amw(hF:1000<=F)(hv:VL l){p:Bs}(h:oY l p=hJ):BJ F l p=iN (dQ l p,0):=by
 rw[aps F l p hF hv];unfold oY at h;cases hf:ji l p with
 | none=>rw[hf]at h;cases h
 | some f=>rw[hf]at h;have h:f.lV=hJ:=h;unfold ahx;rw[(MB hv hf).2.1,hf];simp[h]
def NU(l:J aZ)(mt:J aC->Bs->Bool)(parts:J bh)(i:Nat)(path:Bs)(names found:J Bs)(r:T8):Prop:=∃aoB names',r=(!(W l mt (parts.drop i) path).isEmpty,l,parts,aoB,names',found++(W l mt (parts.drop i) path).map λws=>dX (names.take i++ws))/\Vs l mt parts aoB/\Eb parts i names'/\names'.take i=names.take i
theorem Eb.up(h:Eb parts i names):Eb parts (i+1) names:=⟨h.len,λj hj=>h.lit j om,h.sz⟩
theorem acf(h:Eb parts i names)(hi:i<Ts parts)(hl:parts[i].fO=hJ):names.take (i+1)=names.take i++[parts[i].bJ]:=by
 have h1:i<Ts names:=by rw[h.len];exact hi
 rw[kT h1];have:=h.lit i (ep _) hi hl;simp_all
theorem NU.lit{path path':Bs}{found:J Bs}{r:T8}(hn:Eb parts i names)(hi:i<Ts parts)(hl:parts[i].fO=hJ)
  (hW:W l mt (parts.drop i) path=(W l mt (parts.drop (i+1)) path').map (parts[i].bJ :: ·)) (h:NU l mt parts (i+1) path' names found r):NU l mt parts i path names found r:=by
 obtain⟨d,n',rfl,h1,h2,h3⟩:=h;have h4:n'.take i=names.take i:=by have:=congrArg (List.take i) h3;grind
 refine⟨d,n',?_,h1,⟨h2.len,λj hj hlt hlj=>?_,h2.sz⟩,h4⟩
 ·rw[acf hn hi hl];simp_all
 ·by_cases e:j=i
  ·subst e;have h5:=acf hn hi hl;have h6:j<Ts n':=by rw[h2.len];exact hi
   grind[List.take_succ_eq_append_getElem,List.append_cancel_left,gd,List.singleton_inj]
  ·exact h2.lit j om hlt hlj
theorem aeR(hF:100000<=F)(hS:Sz l parts)(hM:∀c∈parts,c.fO=eQ->∀n:Bs,Ts n<=32->nO F c.jI n=iN (mt c.jI n)):
  ∀(k i:Nat)(path:Bs)(dead:J (cM×Bool))(names found:J Bs),i+k=Ts parts->Vs l mt parts dead->Eb parts i names->Ts found+Ts (W l mt (parts.drop i) path)<=1000000 ->
   (∀n G,3*k+1<=n->k<G->∃r,bW (EK F (iu F n) l parts dead) G (path,(i:Int),names,found)=iN r/\NU l mt parts i path names found r) /\
   (∀n,3*k+3<=n->∃r,lX F n (i:Int) path l parts dead names found=iN r/\NU l mt parts i path names found r):=by
 obtain⟨hv,avU,aty⟩:=hS;have hll:=hv.len;intro k
 induction k with
 | zero=>
  intro i path dead names found hi hD hN hsz;have hd:parts.drop i=[]:=U3 om;have key:∀n G,3*0+1<=n->0<G->∃r,bW (EK F (iu F n) l parts dead) G (path,(i:Int),names,found)=iN r/\NU l mt parts i path names found r:=by
   intro n G hn hG;obtain⟨G,rfl⟩:∃H,G=H+1:=⟨G-1,om⟩;have hj:=T9 names hN.sz;have hln:=hN.len;have hw:W l mt (parts.drop i) path=[[]]:=by rw[hd];rfl
   rw[hw]at hsz;simp only[List.length_singleton]at hsz;refine⟨(hJ,l,parts,dead,names,found++[dX names]),?_,dead,names,?_,hD,hN,rfl⟩
   ·show EK F _ l parts dead _ (path,(i:Int),names,found)=_;unfold EK;dsimp only;rw[cf om,ab6 F names om om,aD,dI aQ om]
   ·rw[hw,uI om];simp
  refine⟨key,λn hn=>?_⟩;obtain⟨n,rfl⟩:∃m,n=m+2:=⟨n-2,om⟩;rw[ace];cases hg:fX dh dead (cM.mk (i:Int) path) eQ with
  | true=>have:=hD i path hg;rw[hd]at this;cases this
  | false=>rw[aJ,Vr];obtain⟨r,h1,h2⟩:=key n F om om;rw[h1,aD];obtain⟨d,n',rfl,h3,h4,h5⟩:=h2;refine⟨_,?_,d,n',rfl,h3,h4,h5⟩;rw[hd];rfl
 | succ k ih=>
  intro i path dead names found hi hD hN hsz;have hil:i<Ts parts:=om;have hd:parts.drop i=parts[i]::parts.drop (i+1):=sR hil;have hg:parts.getD i oK=parts[i]:=gd hil;have aoC:parts[i]∈parts:=fm hil;have htl:=aty _ aoC;have S3:parts[i].fO=eQ->oY l path=hJ->∀n,3*k+4<=n->∃r,iu F n (i:Int) path l parts dead names found=iN r/\NU l mt parts i path names found r:=by
   intro hl Ky n hn;obtain⟨n,rfl⟩:∃m,n=m+1:=⟨n-1,om⟩;have avV:Ts path<=128:=by
    unfold oY at Ky;cases hf:ji l path with
    | none=>rw[hf]at Ky;cases Ky
    | some f=>exact(MB hv hf).1
   have hw:W l mt (parts.drop i) path=((dQ l path).filter (oJ mt parts[i])).flatMap λn=>(W l mt (parts.drop (i+1)) (gH path n)).map (n :: ·):=by rw[hd,xw,Ky,hl];rfl
   show ∃r,qU F (lX F n) (nr F n) (iu F n) (i:Int) path l parts dead names found=iN r/\_;unfold qU wx;rw[bC hil,b9,hg]
   have e1:((cond (eK (0<(Ts (parts[i].jI):Int))) (rq (eK (0<(Ts (parts[i].jI):Int))) (iN (((parts[i].jI.getD 0 eN).fKind)==1,names,found))) (iN (eQ,names,found)):O (Bool×(J Bs)×(J Bs))).bind λx1=>
     (cond x1.1 (rq (eK (0<(Ts (parts[i].jI):Int))) (iN (((parts[i].jI.getD 0 eN).fText)==([46]:Bs),x1.2.1,x1.2.2))) (iN (eQ,x1.2.1,x1.2.2)):O (Bool×(J Bs)×(J Bs))))=iN (ab8 parts[i],names,found):=by
    unfold ab8;by_cases h0:0<parts[i].jI.length
    ·rw[cm om,kJ om,aD,dT h0];dsimp only;rw[kJ om];cases ((parts[i].jI.getD 0 eN).fKind==1)<;>rfl
    ·rw[cf om,aD,dF h0];rfl
   rw[<-U1,e1,aD,amw om hv Ky,aD];have hkl:(dQ l path).length<=128:=by unfold dQ;rw[je];exact kU (aaX _ _) hll
   have atz:∀x:O T8,(∃r,NU l mt parts i path names found r/\x=iN r)->∃r,x=iN r/\NU l mt parts i path names found r:=λx ⟨r,h1,h2⟩=>⟨r,h2,h1⟩
   refine atz _ (BH (R:=T8) (NU l mt parts i path names found)
    (λx:Bool×Int×(J aZ)×(J bh)×(J (cM×Bool))×(J Bs)×(J Bs)=>∃(j:Nat)(d:J (cM×Bool))(ns:J Bs),j<=Ts (dQ l path)/\Vs l mt parts d/\Eb parts (i+1) ns/\ns.take i=names.take i /\
     x=(!((((dQ l path).take j).filter (oJ mt parts[i])).flatMap λn=>(W l mt (parts.drop (i+1)) (gH path n)).map (n :: ·)).isEmpty,(j:Int),l,parts,d,ns,found++((((dQ l path).take j).filter (oJ mt parts[i])).flatMap λn=>(W l mt (parts.drop (i+1)) (gH path n)).map (n :: ·)).map λws=>dX (names.take i++ws)))
    (λx=>Ts (dQ l path)-x.2.1.toNat) ?_ F (eQ,0,l,parts,dead,names,found) ⟨0,dead,names,om,hD,hN.up,rfl,si⟩ aQ)
   ·rintro x ⟨j,d,ns,hj,hD2,Vt,ht2,rfl⟩;dsimp only;by_cases hjl:j<Ts (dQ l path)
    ·left;have lB:(dQ l path).getD j []=(dQ l path)[j]:=gd hjl;have hkm:(dQ l path)[j]∈dQ l path:=fm hjl;obtain⟨hkn,auW⟩:=XO hv hkm;have htk:(dQ l path).take (j+1)=(dQ l path).take j++[(dQ l path)[j]]:=kT hjl;cases hkeep:oJ mt parts[i] (dQ l path)[j]with
     | false=>
      have hf:((dQ l path).take (j+1)).filter (oJ mt parts[i])=((dQ l path).take j).filter (oJ mt parts[i]):=by rw[htk,U6];simp[hkeep]
      refine⟨_,⟨j+1,d,ns,om,hD2,Vt,ht2,rfl⟩,aQ,λrc=>?_⟩;rw[hf,cm om,bC hjl,b9,lB,ab9,aD,bZ om,aH,aD];unfold oJ at hkeep;cases h1:Pn (dQ l path)[j]with
      | true=>rw[h1]at hkeep;rw[aS];dsimp only;cases h2:ab8 parts[i]with|false=>rfl|true=>grind
      | false=>grind
     | true=>
      have hf:((dQ l path).take (j+1)).filter (oJ mt parts[i])=((dQ l path).take j).filter (oJ mt parts[i])++[(dQ l path)[j]]:=by rw[htk,U6];simp[hkeep]
      have rO:(ns.set i (dQ l path)[j]).take (i+1)=names.take i++[(dQ l path)[j]]:=by
       have h1:i<Ts (ns.set i (dQ l path)[j]):=by rw[ag7,Vt.len];exact hil
       rw[kT h1,List.getElem_set_self,List.take_set_of_le (ep _),ht2]
      have hN3:Eb parts (i+1) (ns.set i (dQ l path)[j]):=⟨by rw[ag7];exact Vt.len,λq hq hqi qD=>by
       have:=Vt.lit q hq hqi qD;rw[U0,Md om,<-U0];exact this,λn hn=>by
       rcases aoo hn with h|rfl
       ·exact Vt.sz n h
       ·omega⟩
      have hsub:Ts found+(Ts ((((dQ l path).take j).filter (oJ mt parts[i])).flatMap λn=>(W l mt (parts.drop (i+1)) (gH path n)).map (n :: ·)))+Ts (W l mt (parts.drop (i+1)) (gH path (dQ l path)[j]))<=1000000:=by rw[hw]at hsz;have h1:dQ l path=(dQ l path).take (j+1)++(dQ l path).drop (j+1):=(Kl _ _).symm;rw[h1,U6,Mj,hf,Mj]at hsz;simp only[qg,vY,U2,TN,je]at hsz;omega
      obtain⟨-,ahH⟩:=ih (i+1) (gH path (dQ l path)[j]) d (ns.set i (dQ l path)[j]) (found++((((dQ l path).take j).filter (oJ mt parts[i])).flatMap λn=>(W l mt (parts.drop (i+1)) (gH path n)).map (n :: ·)).map λws=>dX (names.take i++ws)) om hD2 hN3 (by rw[qg,je];omega);obtain⟨r,hr,d',n',rfl,g1,g2,g3⟩:=ahH n om;have auX:n'.take i=names.take i:=by have h1:=congrArg (List.take i) g3;rw[rO,aa7,ag8 om,aok (by rw[zi,hN.len];omega),aa7,Nat.min_self]at h1;exact h1
      refine⟨_,⟨j+1,d',n',om,g1,g2,auX,rfl⟩,aQ,λrc=>?_⟩;rw[hf,cm om,bC hjl,b9,lB,ab9,aD,bZ om,aH,aD];have hk2:=hkeep;unfold oJ at hk2;simp only[wO,abf,ag6]at hk2;have e2:cond (Pn (dQ l path)[j]) (!ab8 parts[i],ns,found++((((dQ l path).take j).filter (oJ mt parts[i])).flatMap λn=>(W l mt (parts.drop (i+1)) (gH path n)).map (n :: ·)).map λws=>dX (names.take i++ws)) (eQ,ns,found++((((dQ l path).take j).filter (oJ mt parts[i])).flatMap λn=>(W l mt (parts.drop (i+1)) (gH path n)).map (n :: ·)).map λws=>dX (names.take i++ws))=(eQ,ns,found++((((dQ l path).take j).filter (oJ mt parts[i])).flatMap λn=>(W l mt (parts.drop (i+1)) (gH path n)).map (n :: ·)).map λws=>dX (names.take i++ws)):=by grind
      rw[e2];dsimp only;rw[aJ,hM _ aoC hl _ auW,aD,aD,hk2.2];dsimp only;rw[gN,aJ,bC (by rw[Vt.len];exact hil),acd F _ _ om om,aD,bZ om,hr,aD];dsimp only;rw[rO,Mj,pO];cases hW:W l mt (parts.drop (i+1)) (gH path (dQ l path)[j])with
      | nil=>simp only[List.isEmpty_nil,gN,aJ,Kn,TN,vY,U2,hW]|cons a b=>
       have e3:(((((dQ l path).take j).filter (oJ mt parts[i])).flatMap λn=>(W l mt (parts.drop (i+1)) (gH path n)).map (n :: ·))++([(dQ l path)[j]].flatMap λn=>(W l mt (parts.drop (i+1)) (gH path n)).map (n :: ·))).isEmpty=eQ:=by rw[vY,U2,hW];simp
       rw[e3];simp only[List.isEmpty_cons,qi,aS,vY,U2,TN,hW,Ar,uK];congr 8
    ·right;obtain rfl:j=Ts (dQ l path):=om;rw[sS];refine⟨_,⟨d,ns,rfl,hD2,⟨Vt.len,λq hq hqi qD=>?_,Vt.sz⟩,ht2⟩,λrc=>?_⟩
     ·by_cases e:q=i
      ·subst e;rw[hl]at qD;cases qD
      ·exact Vt.lit q om hqi qD
     ·rw[cf om,hw]
  have key:∀n G,3*(k+1)+1<=n->k+1<G->∃r,bW (EK F (iu F n) l parts dead) G (path,(i:Int),names,found)=iN r/\NU l mt parts i path names found r:=by
   intro n G hn hG;obtain⟨G,rfl⟩:∃H,G=H+1:=⟨G-1,om⟩;show ∃r,EK F _ l parts dead (bW _ G) (path,(i:Int),names,found)=iN r/\_;have aoD:oY l path=eQ->NU l mt parts i path names found (eQ,l,parts,dead,names,found):=by
    intro h;have hw:W l mt (parts.drop i) path=[]:=by rw[hd,xw,h];rfl
    exact⟨dead,names,by rw[hw];simp,hD,hN,rfl⟩
   unfold EK;dsimp only;rw[cm om,find_eq F l path om om,aD];cases hf:ji l path with
   | none=>exact⟨_,rfl,aoD (by unfold oY;rw[hf];rfl)⟩|some f=>
    obtain⟨hpl,hps,hfl⟩:=MB hv hf;have hp1:1<=Ts path:=by
     cases path with
     | nil=>cases hps
     | cons b p=>simp
    dsimp only[Option.elim];rw[gN,aJ,aD];dsimp only;cases S4:f.lV with
    | false=>exact⟨_,rfl,aoD (by unfold oY;rw[hf];exact S4)⟩|true=>
     have Ky:oY l path=hJ:=by unfold oY;rw[hf];exact S4
     rw[gN,aJ,bC hil,b9,hg];cases hl:parts[i].fO with
     | false=>grind|true=>
      rw[gN,aJ,aH,aD];have e3:cond (parts[i].bJ==[]) (hJ,names,found) (parts[i].bJ==[46],names,found)=((parts[i].bJ==[]||parts[i].bJ==[46]),names,found):=by cases (parts[i].bJ==[])<;>rfl
      rw[e3];dsimp only;rw[bZ om];cases h1:(parts[i].bJ==[]||parts[i].bJ==[46])with
      | true=>
       have hw:W l mt (parts.drop i) path=(W l mt (parts.drop (i+1)) path).map (parts[i].bJ :: ·):=by rw[hd,xw,Ky,hl,h1];rfl
       rw[hw,je]at hsz;rw[aS];obtain⟨r,hr,hok⟩:=(ih (i+1) path dead names found om hD hN.up hsz).1 n G om om;exact⟨r,hr,hok.lit hN hil hl hw⟩
      | false=>
       rw[aJ];cases h2:(parts[i].bJ==[46,46])with
       | true=>
        have hw:W l mt (parts.drop i) path=(W l mt (parts.drop (i+1)) (iR path)).map (parts[i].bJ :: ·):=by rw[hd,xw,Ky,hl,h1,h2];rfl
        rw[hw,je]at hsz;rw[aS,ahG F path om,aD];obtain⟨r,hr,hok⟩:=(ih (i+1) (iR path) dead names found om hD hN.up hsz).1 n G om om;exact⟨r,hr,hok.lit hN hil hl hw⟩
       | false=>
        rw[aJ,acd F path _ om om,aD,find_eq F l _ om om,aD];cases hf2:ji l (gH path parts[i].bJ)with
        | none=>
         have hw:W l mt (parts.drop i) path=[]:=by rw[hd,xw,Ky,hl,h1,h2,hf2];rfl
         exact⟨_,rfl,dead,names,by rw[hw];simp,hD,hN,rfl⟩
        | some f2=>
         have hw:W l mt (parts.drop i) path=(W l mt (parts.drop (i+1)) (gH path parts[i].bJ)).map (parts[i].bJ :: ·):=by rw[hd,xw,Ky,hl,h1,h2,hf2];rfl
         rw[hw,je]at hsz;obtain⟨r,hr,hok⟩:=(ih (i+1) (gH path parts[i].bJ) dead names found om hD hN.up hsz).1 n G om om;exact⟨r,hr,hok.lit hN hil hl hw⟩
  refine⟨key,λn hn=>?_⟩;obtain⟨n,rfl⟩:∃m,n=m+2:=⟨n-2,om⟩;rw[ace];cases Pj:fX dh dead (cM.mk (i:Int) path) eQ with
  | true=>have hw:=hD i path Pj;exact⟨_,rfl,dead,names,by rw[hw];simp,hD,hN,rfl⟩|false=>
   rw[aJ,Vr];obtain⟨r,h1,h2⟩:=key n F om om;rw[h1,aD];obtain⟨d,n',rfl,h3,h4,h5⟩:=h2;cases hW:W l mt (parts.drop i) path with
   | nil=>refine⟨_,rfl,jJ dh d (cM.mk (i:Int) path) hJ,n',by rw[hW],λq p hq=>?_,h4,h5⟩;rw[ux]at hq;cases he:(cM.mk (i:Int) path==cM.mk (q:Int) p)with|true=>grind|false=>rw[he]at hq;exact h3 q p hq
   | cons a b=>exact⟨_,rfl,d,n',by rw[hW],h3,h4,h5⟩
theorem Zn:∀s:Bs,((cq s).map λp=>Ts p+1).sum=Ts s+1
 | []=>rfl|b::l=>by
  have ih:=Zn l;have hne:=sY l;unfold cq;cases (b==47)
  ·rw[aJ];cases h:cq l with|nil=>exact absurd h hne|cons p ps=>rw[h]at ih;simp at *;omega
  ·rw[aS,jF,O0];simp;omega
def NV(o:J (J aB)×J aB):Nat:=(o.1.map λc=>bV c+1).sum+bV o.2
theorem Du(a b:J aB):bV (a++b)=bV a+bV b:=by unfold bV;simp_all
theorem aoE(c:Int):∀(ps:J Bs)(o:J (J aB)×J aB),NV (ps.foldl (HQ c) o)=NV o+(ps.map λp=>Ts p+1).sum|[],o=>by simp|q::ps,o=>by rw[vZ,aoE c ps];unfold NV HQ;simp[UZ,bV];omega
theorem atA(o:J (J aB)×J aB)(r:aB):NV (oX o r)<=NV o+Ts r.fText:=by
 unfold oX;cases nU r.aI
 ·have hs:=Zn r.fText;cases h:cq r.fText with
  | nil=>simp_all|cons p ps=>
   rw[h]at hs;show NV (ps.foldl (HQ r.aI) (o.1,o.2++[aB.mk p r.aI]))<=_;rw[aoE];unfold NV;simp[Du]at *;have:bV [aB.mk p r.aI]=Ts p:=by simp[bV]
   omega
 ·simp
theorem aoF:∀(l:J aB)(o:J (J aB)×J aB),NV (l.foldl oX o)<=NV o+bV l|[],o=>by simp|r::l,o=>by have h1:=aoF l (oX o r);have h2:=atA o r;simp[bV]at *;omega
theorem apx{l:J (J aB)}{c:J aB}(h:c∈l):bV c+1<=(l.map λc=>bV c+1).sum:=by
 induction l with
 | nil=>cases h
 | cons a l ih=>grind
theorem apy(l:J (J aB)):Ts l<=(l.map λc=>bV c+1).sum:=by
 induction l with|nil=>simp|cons a l ih=>grind
theorem ahI{l:J aB}:(gK l).length<=bV l+1/\∀t∈gK l,bV t<=bV l:=by
 have h:=aoF l ([],[]);have h0:NV ([],[])=0:=rfl;have h:NV (HR l)<=bV l:=by unfold HR;omega
 unfold NV at h;have h1:=apy (HR l).1;refine⟨by unfold gK;grind,λt ht=>?_⟩;rcases mX.1 ht with ht|ht
 ·have:=apx ht;omega
 grind
def LI(k:Nat)(o:J (J aB)×J aB):Prop:=(∀c∈o.1,Ts c<=k)/\o.2.length<=k
theorem arw(c:Int):∀(ps:J Bs)(k:Nat)(o:J (J aB)×J aB),LI (k+1) o->LI (k+1) (ps.foldl (HQ c) o)
 | [],k,o,h=>h|q::ps,k,o,h=>arw c ps k _ ⟨λx hx=>by
   rcases mX.1 hx with hx|hx
   ·exact h.1 x hx
   ·obtain rfl:=qj.1 hx;exact h.2,by simp[HQ]⟩
variable{k:Nat}{o:J (J aB)×J aB}
theorem auY(h:LI k o)(r:aB):LI (k+1) (oX o r):=by
 unfold oX;cases nU r.aI
 ·cases hp:cq r.fText with|nil=>simp_all[sY]|cons p ps=>exact arw r.aI ps k (o.1,o.2++[aB.mk p r.aI]) ⟨λx hx=>ahh (h.1 x hx),by have:=h.2;simp;omega⟩
 ·exact⟨λx hx=>ahh (h.1 x hx),ahh h.2⟩
theorem arx:∀(l:J aB)(k:Nat)(o:J (J aB)×J aB),LI k o->LI (k+Ts l) (l.foldl oX o)
 | [],k,o,h=>h|r::l,k,o,h=>by have:=arx l (k+1) _ (auY h r);rwa [show k+1+Ts l=k+Ts (r::l) by simp;omega]at this
theorem amx(l:J aB):LI l.length (l.foldl oX ([],[])):=by have:=arx l 0 ([],[]) ⟨λc hc=>(by cases hc),si⟩;simp_all
theorem apz(l:J aB)(k:Nat):((l.take k).foldl oX ([],[])).2.length<=Ts l:=by have:=(amx (l.take k)).2;grind
theorem acg{l:J aB}:∀t∈gK l,Ts t<=Ts l:=by
 intro t ht;rcases mX.1 ht with ht|ht
 ·exact(amx l).1 t ht
 ·obtain rfl:=qj.1 ht;exact(amx l).2
def tK(cwd field:Bs):Bs:=cond (field.take 1==[47]) [47] cwd
def partsOf(pat:J aB->J aC)(lit:J aB->Bool)(r:J aB):J bh:=(gK r).map (Pm pat lit)
def tL(r:J aB):Bs:=dX ((gK r).map gJ)
def Po(l:J aZ)(mt:J aC->Bs->Bool)(pat:J aB->J aC)(lit:J aB->Bool)(cwd:Bs)(r:J aB):J Bs:=cond ((gK r).all lit||(W l mt (partsOf pat lit r) (tK cwd (tL r))).isEmpty) [tL r] (rL ((W l mt (partsOf pat lit r) (tK cwd (tL r))).map dX))
theorem aj4{lit:J aB->Bool}{r:J aB}(hF:100000<=F)(hv:VL l)(hc:gG cwd=hJ)(h1:Ts r<=10000)(h2:bV r<=3000)
  (hK:∀t∈gK r,eR F t=iN (pat t)/\∃x,iW F (pat t)=iN (x,lit t))
  (hM:∀t∈gK r,lit t=eQ->∀n:Bs,Ts n<=32->nO F (pat t) n=iN (mt (pat t) n))
  (hW:(W l mt (partsOf pat lit r) (tK cwd (tL r))).length<=1000000):pq F l cwd r=iN (Po l mt pat lit cwd r,0):=by
 obtain⟨g1,g2⟩:=ahI (l:=r);have g3:=acg (l:=r)
 have hpc:nK F r l [] hJ [] [] []=iN (l,_,_,_,[]):=pieces_eq (F:=F) (pat:=pat) (lit:=lit) (l:=r) (fs:=l) (dead:=[]) om om om om om (λk=>by grind[apz]) (λt ht=>by
  have:=g2 t ht;have:=g3 t ht;exact⟨(hK t ht).1,(hK t ht).2,om,om,om⟩)
 have ahJ:∀n∈(gK r).map gJ,Ts n<=4000:=by grind[vN]
 have hjl:=T9 _ ahJ;rw[je]at hjl;unfold pq wx;rw[amm F cwd [47] om si,ahF hc];show((nK F r l [] hJ [] [] []).bind _)=_;rw[hpc,aD];dsimp only;rw[ab6 F _ (by grind) om,Option.bind_some];dsimp only;unfold Po;cases ha:(gK r).all lit with
 | true=>rfl|false=>
  rw[aJ,amv,aD,aH,aD];have atB:Vs l mt (partsOf pat lit r) []:=λi p h=>by cases h
  have auZ:Eb (partsOf pat lit r) 0 ((gK r).map gJ):=⟨by unfold partsOf;simp_all,λj _ hj _=>by
   unfold partsOf at hj⊢;rw[je]at hj;rw[gd (by simp_all),Mf,Mf];rfl,ahJ⟩
  obtain⟨-,ahH⟩:=aeR (F:=F) (l:=l) (mt:=mt) (parts:=partsOf pat lit r) hF ⟨hv,by unfold partsOf;grind,λc hc=>by
    obtain⟨t,ht,rfl⟩:=lF.1 hc;have:=g2 t ht;show(gJ t).length<=_;rw[vN];omega⟩ (λc hc hl n hn=>by
    obtain⟨t,ht,rfl⟩:=lF.1 hc;exact hM t ht hl n hn) (partsOf pat lit r).length 0 (tK cwd (tL r)) [] ((gK r).map gJ) [] om atB auZ (by simpa using hW)
  obtain⟨x,hx,d,n',rfl,-,-,-⟩:=ahH F (by unfold partsOf;grind);have e1:cond ((dX ((gK r).map gJ)).take 1==[47]) (([47]:Bs),(gK r).map gJ,([]:J Bs)) (cwd,(gK r).map gJ,[])=(tK cwd (tL r),(gK r).map gJ,[]):=by unfold tK tL;grind
  rw[e1];dsimp only;unfold uW;rw[show(0:Int)=((0:Nat):Int)from rfl];unfold partsOf at hx⊢;rw[hx,aD];dsimp only;rw[Bool.not_not,OZ,TH];cases hE:(W l mt ((gK r).map (Pm pat lit)) (tK cwd (tL r))).isEmpty with|true=>rfl|false=>rw[aJ,aJ];unfold RL;unfold partsOf at hW;rw[kJ aQ,aD];simp
def Jt(e:fJ):dZ:=dZ.mk e.fb e.nJ
theorem apA(r:aB):HM r=(p8 r).map Jt:=by
 unfold HM p8;cases nU r.aI
 ·rw[aJ,aJ,Ar];rfl
 ·rfl
theorem atC(l:J aB):l.flatMap HM=(l.flatMap p8).map Jt:=by
 induction l with|nil=>rfl|cons r l ih=>simp_all[vY,pO,apA]
theorem jW(x:J fJ)(i:Nat)(b:Int):EJ (x.map Jt) i b=ef x i b:=by
 unfold EJ ef;rw[je];by_cases h:i<Ts x
 ·rw[gd (by simp_all),Mf,gd h];rfl
 ·rw[dF h];rfl
def yB(x:J fJ)(i:Nat)(s:Bs):Bool:=(bY s.length).all λj=>ef x (i+j) ((s.getD j 0).toNat:Int)
theorem apB(F:Nat)(x:J fJ)(i:Nat)(s:Bs)(hF:Ts s<F)(hi:i<50000000)(hs:Ts s<50000000):Gm F (x.map Jt) (i:Int) s=iN (yB x i s):=by
 refine cz (λk'=>∃k:Nat,k'=(k:Int)/\k<=Ts s/\∀j,j<k->ef x (i+j) ((s.getD j 0).toNat:Int)=hJ) (λk'=>Ts s-k'.toNat) ?_ F _ ⟨0,rfl,om,λj h=>om⟩ aQ;rintro ii ⟨k,rfl,hk,hj⟩;by_cases hk:k<Ts s
 ·have hw:aE ((i:Int)+(k:Int))=((i+k:Nat):Int):=by grind[bO]
  cases h:ef x (i+k) ((s.getD k 0).toNat:Int)with
  | true=>
   left;refine⟨((k+1:Nat):Int),⟨k+1,rfl,om,λj hj2=>?_⟩,aQ,λrc=>?_⟩
   ·grind
   ·rw[cm om,bC hk,hw,jS,jW,b9,h,bZ om];rfl
  | false=>
   right;intro rc;rw[cm om,bC hk,hw,jS,jW,b9,h];have:yB x i s=eQ:=by unfold yB;grind
   rw[this];rfl
 ·right;obtain rfl:k=Ts s:=om;intro rc;rw[cf om];have:yB x i s=hJ:=by unfold yB;simp_all
  rw[this]
theorem AQ:ef x i b=hJ↔i<Ts x/\(x.getD i cU).nJ=hJ/\(x.getD i cU).fb=b:=by unfold ef;simp_all
theorem ahK(x:J fJ)(i:Nat)(n:Bs)(h5:Ts n=5)(ach:∀b∈n,97<=b.toNat/\b.toNat<=122):
  yB x i ((([91,58]:Bs)++n)++([58,93]:Bs))=((ef x i 91&&ef x (i+1) 58)&&((ef x (i+2+Ts (kK x (i+2))) 58&&ef x (i+2+Ts (kK x (i+2))+1) 93)&&kK x (i+2)==cY n)):=by
 match n,h5 with
 | [a,b,c,d,e],_=>
  have ha:=ach a si;have hb:=ach b si;have hc:=ach c si;have hd:=ach d si;have he:=ach e si;rw[tC];unfold yB;rw[show((([91,58]:Bs)++[a,b,c,d,e])++([58,93]:Bs)).length=9 from rfl];have au0:((bY 9).all λj=>ef x (i+j) ((((([91,58]:Bs)++[a,b,c,d,e])++([58,93]:Bs)).getD j 0).toNat:Int))=hJ ↔
    (ef x i 91=hJ/\ef x (i+1) 58=hJ/\ef x (i+2) (a.toNat:Int)=hJ/\ef x (i+3) (b.toNat:Int)=hJ/\ef x (i+4) (c.toNat:Int)=hJ/\ef x (i+5) (d.toNat:Int)=hJ/\ef x (i+6) (e.toNat:Int)=hJ/\ef x (i+7) 58=hJ/\ef x (i+8) 93=hJ):=by
   rw[pN];constructor
   ·intro h;exact⟨h 0 si,h 1 si,h 2 si,h 3 si,h 4 si,h 5 si,h 6 si,h 7 si,h 8 si⟩
   ·rintro⟨h0,h1,h2,h3,h4,h5,h6,h7,h8⟩ j hj
    match j,hj with|0,_=>exact h0|1,_=>exact h1|2,_=>exact h2|3,_=>exact h3|4,_=>exact h4|5,_=>exact h5|6,_=>exact h6|7,_=>exact h7|8,_=>exact h8
  rw[au0];have hat:=aj1 x (i+2);simp only[cL,uJ];constructor
  ·rintro⟨h0,h1,h2,h3,h4,h5,h6,h7,h8⟩;have g2:=AQ.1 h2;have g3:=AQ.1 h3;have g4:=AQ.1 h4;have g5:=AQ.1 h5;have g6:=AQ.1 h6;have g7:=AQ.1 h7;have hl:∀(k:Nat)(v:UInt8),97<=v.toNat/\v.toNat<=122->(x.getD k cU).nJ=hJ/\(x.getD k cU).fb=(v.toNat:Int)->Dr (x.getD k cU)=hJ:=by unfold Dr;grind
   have iU:x.drop (i+2)=x.getD (i+2) cU::x.getD (i+3) cU::x.getD (i+4) cU::x.getD (i+5) cU::x.getD (i+6) cU::x.getD (i+7) cU::x.drop (i+8):=by simp_all
   have hnl:Dr (x.getD (i+7) cU)=eQ:=by unfold Dr;grind
   have hrun:kK x (i+2)=cY [a,b,c,d,e]:=by unfold kK;rw[iU];simp only[List.takeWhile,hl _ a ha g2.2,hl _ b hb g3.2,hl _ c hc g4.2,hl _ d hd g5.2,hl _ e he g6.2,hnl];simp only[jF,Kn,g2.2.2,g3.2.2,g4.2.2,g5.2.2,g6.2.2];rfl
   rw[hrun];exact⟨⟨h0,h1⟩,⟨h7,h8⟩,rfl⟩
  ·rintro⟨⟨h0,h1⟩,⟨h7,h8⟩,hr⟩;rw[hr]at hat h7 h8;have hk:∀(k:Nat)(v:UInt8),k<5->(cY [a,b,c,d,e]).getD k 0=(v.toNat:Int)->ef x (i+2+k) (v.toNat:Int)=hJ:=by intro k v hk e1;obtain⟨q1,q2,q3⟩:=hat k hk;unfold Dr at q3;simp_all[cL,AQ]
   exact⟨h0,h1,hk 0 a om rfl,hk 1 b om rfl,hk 2 c om rfl,hk 3 d om rfl,hk 4 e om rfl,h7,h8⟩
def exD(l:J cC)(b:Nat):J cC:=cond (eK (0<Ts l)&&(l.getD (Ts l-1) fT).kq+1==(b:Int)) (l.set (Ts l-1) (cC.mk (l.getD (Ts l-1) fT).qq (b:Int))) (l++[cC.mk (b:Int) (b:Int)])
def DD(P:Nat->Bool):Nat->J cC|0=>[]|k+1=>cond (P k) (exD (DD P k) k) (DD P k)
theorem apC(l:J cC)(b:Nat):(exD l b).length<=Ts l+1:=by unfold exD;grind
theorem aci(P:Nat->Bool):∀k,Ts (DD P k)<=k
 | 0=>by simp[DD]|k+1=>by
  have ih:=aci P k;have:=apC (DD P k) k;unfold DD;cases P k
  ·rw[aJ];omega
  ·rw[aS];omega
theorem XP(P:Nat->Bool):∀k,∀s∈DD P k,∃h:Nat,h<k/\s.kq=(h:Int)/\P h=hJ
 | 0,s,hs=>by cases hs
 | k+1,s,hs=>by
  have ih:=XP P k;unfold DD at hs;cases hP:P k with
  | false=>rw[hP]at hs;obtain⟨h,h1,h2,h3⟩:=ih s hs;exact⟨h,om,h2,h3⟩
  | true=>
   rw[hP]at hs;unfold exD at hs;cases hb:(eK (0<Ts (DD P k))&&((DD P k).getD (Ts (DD P k)-1) fT).kq+1==(k:Int))with
   | true=>
    rw[hb]at hs;rcases aoo hs with hs|rfl
    ·obtain⟨h,h1,h2,h3⟩:=ih s hs;exact⟨h,om,h2,h3⟩
    ·exact⟨k,om,rfl,hP⟩
   | false=>
    rw[hb]at hs;rcases mX.1 hs with hs|hs
    ·obtain⟨h,h1,h2,h3⟩:=ih s hs;exact⟨h,om,h2,h3⟩
    ·obtain rfl:=qj.1 hs;exact⟨k,om,rfl,hP⟩
theorem ary(P:Nat->Bool)(c:Nat)(h:P c=hJ)(h0:c=0\/P (c-1)=eQ):DD P (c+1)=DD P c++[cC.mk (c:Int) (c:Int)]:=by
 rw[DD,h,aS,exD];have:(eK (0<Ts (DD P c))&&((DD P c).getD (Ts (DD P c)-1) fT).kq+1==(c:Int))=eQ:=by
  by_cases hl:0<Ts (DD P c)
  ·grind[gd,List.getElem_mem,XP,beq_eq_false_iff_ne]
  ·rw[dF hl];rfl
 rw[this,aJ]
theorem aj5(P:Nat->Bool)(c:Nat)(h0:c=0\/P (c-1)=eQ):∀(k:Nat),(∀j,c<=j->j<=c+k->P j=hJ)->DD P (c+k+1)=DD P c++[cC.mk (c:Int) ((c+k:Nat):Int)]
 | 0,h=>ary P c (h c (ep _) om) h0|k+1,h=>by
  have ih:=aj5 P c h0 k λj h1 h2=>h j h1 om;rw[show c+(k+1)+1=(c+k+1)+1 by omega,DD,h (c+k+1) om om,ih,exD];have hl:(DD P c++[cC.mk (c:Int) ((c+k:Nat):Int)]).length-1=Ts (DD P c):=by simp
  have hg:(DD P c++[cC.mk (c:Int) ((c+k:Nat):Int)]).getD (Ts (DD P c++[cC.mk (c:Int) ((c+k:Nat):Int)])-1) fT=cC.mk (c:Int) ((c+k:Nat):Int):=by simp
  have e:((cC.mk (c:Int) ((c+k:Nat):Int)).kq+1==((c+k+1:Nat):Int))=hJ:=by rw[uJ];show((c+k:Nat):Int)+1=_;omega
  simp;omega
theorem aj6(P:Nat->Bool):∀(m c:Nat),c+m=255->P c=hJ->∃k,c+k<=255/\(∀j,c<=j->j<=c+k->P j=hJ)/\(c+k=255\/P (c+k+1)=eQ)
 | 0,c,h,hP=>⟨0,om,(λj h1 h2=>(show j=c by omega)▸hP),.inl om⟩
 | m+1,c,h,hP=>by
  cases h1:P (c+1)with
  | false=>exact⟨0,om,(λj h1 h2=>(show j=c by omega)▸hP),.inr h1⟩
  | true=>
   obtain⟨k,g1,g2,g3⟩:=aj6 P m (c+1) om h1;refine⟨k+1,om,λj h2 h3=>?_,?_⟩
   ·grind
   grind
theorem ahL{c:Nat}(h:c<256):dO .u8 (c:Int)=(c:Int):=by show((c:Int)%256)=c;omega
theorem amy(F:Nat)(set:J Bool)(hF:1000<F)(hs:Ts set=256):r7 F set=iN (DD (λc=>set.getD c eQ) 256):=by
 unfold r7 wx;rw[cy (by rw[hs];rfl)];generalize hP:(λc=>set.getD c eQ)=P;have hPc:∀c,set.getD c eQ=P c:=λc=>by rw[<-hP]
 refine cz (λs:J cC×Int×J Bool=>∃c:Nat,s=(DD P c,(c:Int),set)/\c<=256/\(c<256->P c=hJ->c=0\/P (c-1)=eQ)) (λs=>256-s.2.1.toNat) ?_ F _ ⟨0,rfl,om,λ_ _=>.inl rfl⟩ aQ;rintro s ⟨c,rfl,hc,hst⟩;have hdl:=aci P c;by_cases Li:c<256
 ·left;cases hb:P c with
  | false=>refine⟨(DD P (c+1),((c+1:Nat):Int),set),⟨c+1,rfl,om,λ_ _=>.inr (by simpa using hb)⟩,aQ,λrc=>?_⟩;dsimp only;rw[cm om,wX om om om,b9,hPc,hb,bZ om];show rc _=_;rw[DD,hb,aJ]
  | true=>
   have h0:=hst Li hb;obtain⟨k,k1,k2,k3⟩:=aj6 P (255-c) c om hb;have hrun:=aj5 P c h0 k k2;refine⟨(DD P (c+k+1),((c+k+1:Nat):Int),set),⟨c+k+1,rfl,om,λh1 h2=>?_⟩,aQ,λrc=>?_⟩
   ·simp_all
   ·dsimp only;rw[cm om,wX om om om,b9,hPc,hb,gN,aJ];refine cz (λs:Int×J Bool=>∃j:Nat,s=(((c+j:Nat):Int),set)/\j<=k) (λs=>256-s.1.toNat) ?_ F _ ⟨0,rfl,om⟩ aQ;rintro s ⟨j,rfl,hj⟩;by_cases hjk:j<k
    ·left;refine⟨(((c+(j+1):Nat):Int),set),⟨j+1,rfl,om⟩,aQ,λbD=>?_⟩;dsimp only;rw[cm om,bZ om,wX om om om,aD];grind
    ·right;obtain rfl:j=k:=om;intro bD;dsimp only;have e:(cond (eK (((c+j:Nat):Int)<255)) (rq ((eK (0<=aE (((c+j:Nat):Int)+1)))&&((eK (aE (((c+j:Nat):Int)+1)<256))&&(eK (aE (((c+j:Nat):Int)+1)<(Ts set:Int))))) (iN (set.getD (eJ (aE (((c+j:Nat):Int)+1))) eQ,set))) (iN (eQ,set)):O (Bool×J Bool))=iN (eQ,set):=by
      by_cases av9:c+j<255
      ·rw[cm om,bZ om,wX om om om,b9,hPc];grind
      ·rw[cf om]
     rw[e,aD];dsimp only;rw[aJ,ahL om,ahL om,dI aQ om,bZ om,hrun]
 grind
def BL(l:J cC)(b:Int):Bool:=l.any λs=>eK (s.qq<=b)&&eK (b<=s.kq)
theorem atD(F:Nat)(l:J cC)(b:Int)(hF:Ts l<F)(hl:Ts l<50000000):xu F l b=iN (BL l b):=by
 unfold xu wx;rw[oH l (λi=>(i:Int)) (λs=>eK (s.qq<=b)&&eK (b<=s.kq)) (λ_ _=>iN hJ) (iN eQ) hF (by rfl) (λi h rc=>?_) (λrc=>?_),Dp]
 ·rw[aH,cI];rfl
 ·rw[cm om,bC h,bC h,b9,gd h,aH,aD,cF,bZ om]
 ·rw[cf om]
theorem HS(F:Nat)(l:J cC)(hF:Ts l+300<F)(hl:Ts l<50000000):Jr F l=iN (DD (λc=>BL l (c:Int)) 256):=by
 generalize hP:(λc:Nat=>BL l (c:Int))=P;have hPc:∀c:Nat,BL l (c:Int)=P c:=λc=>by rw[<-hP]
 refine cz (λs=>∃c:Nat,s=((c:Int),DD P c)/\c<=256) (λs=>256-s.1.toNat) ?_ F _ ⟨0,rfl,om⟩ aQ;rintro s ⟨c,rfl,hc⟩;have hdl:=aci P c;by_cases Li:c<256
 ·left;refine⟨(((c+1:Nat):Int),DD P (c+1)),⟨c+1,rfl,om⟩,aQ,λrc=>?_⟩;dsimp only;rw[cm om,ahL Li,atD F l _ om hl,aD,hPc,bZ om,DD];cases hb:P c with
  | false=>rfl|true=>
   rw[gN,aJ,aS,exD];by_cases h0:0<Ts (DD P c)
   ·have hm:(DD P c).getD (Ts (DD P c)-1) fT∈DD P c:=by grind
    obtain⟨q,q1,q2,q3⟩:=XP P c _ hm;rw[cm om,uP om h0,bC om,aD,b9,dT h0,Ko];dsimp only;rw[q2,bO (x:=(q:Int)) om,bZ om,show((q:Int)+1==(c:Int))=(((q+1:Nat):Int)==(c:Int))from rfl];cases (((q+1:Nat):Int)==(c:Int))with|true=>rw[aS,aS,bC om]|false=>rw[aJ,aJ,dI aQ om]
   ·rw[cf om,aD,dF h0,UY];rw[aJ,aJ,dI aQ om]
 grind
def RS(set:J Bool)(sp:J cC):Prop:=Ts set=256/\∀c:Nat,c<256->set.getD c eQ=BL sp (c:Int)
theorem RO(a b:J cC)(c:Int):BL (a++b) c=(BL a c||BL b c):=by unfold BL;rw[List.any_append]
theorem Ua{st:J Bool}(h:k<Ts st)(c:Nat):(st.set k hJ).getD c eQ=(st.getD c eQ||c==k):=by grind
theorem aj7:∀k:Fin 8,∀b:Fin 256,oq 0 (CL.getD k.val qK).fname (b.val:Int)=iN (BL (CL.getD k.val qK).tJ (b.val:Int)):=by decide +kernel
theorem aj8(F:Nat){c:nq}(hc:c∈CL){b:Nat}(hb:b<256):oq F c.fname (b:Int)=iN (BL c.tJ (b:Int)):=by obtain⟨k,hk,rfl⟩:=lE hc;have:=aj7 ⟨k,by rw[<-Vo];exact hk⟩ ⟨b,hb⟩;rw[gd hk]at this;exact this
def acj(run:J Int)(c:nq):Bool:=run==cY c.fname
theorem aeS(n:Bs)(h:isName n=hJ):∃c∈CL,CL.find? (acj (cY n))=iN c/\c.fname=n:=by
 unfold isName at h;simp at h;rcases h with rfl|rfl|rfl|rfl|rfl|rfl|rfl|rfl
 ·exact⟨CL.getD 0 qK,by decide,by decide,by decide⟩
 ·exact⟨CL.getD 1 qK,by decide,by decide,by decide⟩
 ·exact⟨CL.getD 2 qK,by decide,by decide,by decide⟩
 ·exact⟨CL.getD 3 qK,by decide,by decide,by decide⟩
 ·exact⟨CL.getD 4 qK,by decide,by decide,by decide⟩
 ·exact⟨CL.getD 5 qK,by decide,by decide,by decide⟩
 ·exact⟨CL.getD 6 qK,by decide,by decide,by decide⟩
 ·exact⟨CL.getD 7 qK,by decide,by decide,by decide⟩
theorem MC:∀c∈CL,isName c.fname=hJ/\c.fname.length=5/\∀b∈c.fname,97<=b.toNat/\b.toNat<=122:=by decide
theorem Zo(x:J fJ)(i:Nat):cY (cx (kK x i))=kK x i:=by
 unfold cY cx;rw[Ar]
 conv=>rhs;rw[<-Rv (kK x i)]
 refine ahg λv hv=>?_;obtain⟨e,he,rfl⟩:=lF.1 hv;have hl:=List.all_takeWhile (p:=Dr) (l:=x.drop i);have:=pN.1 hl e he;unfold Dr at this;grind[UInt8.toNat_ofNat']
theorem ahM(x:J fJ)(i:Nat):(∃c∈CL,CL.find? (λc=>yB x i ((([91,58]:Bs)++c.fname)++([58,93]:Bs)))=iN c/\zC x i=(c.fname,((i+9:Nat):Int),hJ)/\i+9<=Ts x) \/
  (CL.find? (λc=>yB x i ((([91,58]:Bs)++c.fname)++([58,93]:Bs)))=iF/\(zC x i).2.2=eQ):=by
 have hp:∀c∈CL,yB x i ((([91,58]:Bs)++c.fname)++([58,93]:Bs))=((ef x i 91&&ef x (i+1) 58)&&((ef x (i+2+Ts (kK x (i+2))) 58&&ef x (i+2+Ts (kK x (i+2))+1) 93)&&acj (kK x (i+2)) c)):=λc hc=>ahK x i c.fname (MC c hc).2.1 (MC c hc).2.2;cases hA:(ef x i 91&&ef x (i+1) 58)with
 | false=>right;refine⟨?_,by unfold zC;rw[hA];rfl⟩;simp_all|true=>
  cases hB:(ef x (i+2+Ts (kK x (i+2))) 58&&ef x (i+2+Ts (kK x (i+2))+1) 93)with
  | false=>right;refine⟨?_,by unfold zC;rw[hA,hB];rfl⟩;simp_all|true=>
   cases hN:isName (cx (kK x (i+2)))with
   | true=>
    left;obtain⟨c,h1,h2,h3⟩:=aeS _ hN;rw[Zo]at h2;have hlen:(kK x (i+2)).length=5:=by grind[MC,cY,cx,List.length_map,Zo]
    refine⟨c,h1,?_,?_,?_⟩
    ·have:∀(L:J nq),(∀c∈L,c∈CL)->L.find? (λc=>yB x i ((([91,58]:Bs)++c.fname)++([58,93]:Bs)))=L.find? (acj (kK x (i+2))):=by
      intro L
      induction L with|nil=>intro _;rfl|cons a L ih=>grind
     simp_all
    ·unfold zC;grind
    ·have h8:=aj2 (cL _ _▸hB:_/\_).2;omega
   | false=>right;refine⟨?_,by unfold zC;rw[hA,hB,hN];rfl⟩;rw[List.find?_eq_none];intro c hc;rw[hp c hc,hA,hB];simp;cases hq:acj (kK x (i+2)) c with|false=>rfl|true=>unfold acj at hq;simp_all[My,MC]
theorem aj9(F:Nat)(x:J fJ)(i:Nat)(set:J Bool)(sp:J cC)(hF:Ts x+1000<F)(hx:Ts x<50000000)(hc:Pk x)(hi:i<Ts x)(hR:RS set sp):
  ∃(e:Nat)(set':J Bool)(sp':J cC),mH F x (i:Int) set=iN ((e:Int),set')/\qT F (x.map Jt) (i:Int)=iN (sp',(e:Int))/\RS set' (sp++sp')/\i<e/\e<=Ts x/\sp'.length<=4:=by
 obtain⟨hs,hR⟩:=hR;have hw1:aE ((i:Int)+1)=((i+1:Nat):Int):=bZ om;have wB:aE ((i:Int)+2)=((i+2:Nat):Int):=by grind[bO]
 have Zk:aE ((i:Int)+3)=((i+3:Nat):Int):=by grind[bO]
 have hml:(x.map Jt).length=Ts x:=je _;have hfb:∀k,k<Ts x->((x.map Jt).getD k jA).fb=(x.getD k cU).fb:=λk hk=>by rw[gd (l:=x.map Jt) (by rw[hml];exact hk),Mf,gd hk];rfl
 have amz:qT F (x.map Jt) (i:Int)=(CL.find? (λc=>yB x i ((([91,58]:Bs)++c.fname)++([58,93]:Bs)))).elim
   (cond (cond (cond (ef x (i+1) 45) (eK (i+2<Ts x)) eQ) (!ef x (i+2) 93) eQ)
    (cond (eK ((x.getD i cU).fb<=(x.getD (i+2) cU).fb)) (iN ([cC.mk (x.getD i cU).fb (x.getD (i+2) cU).fb],((i+3:Nat):Int))) (iN ([],((i+3:Nat):Int))))
    (iN ([cC.mk (x.getD i cU).fb (x.getD i cU).fb],((i+1:Nat):Int)))) λc=>iN (c.tJ,((i+9:Nat):Int)):=by
  unfold qT wx;rw[aoz,aD]
  rw[oH CL (λi=>(i:Int)) (λc=>yB x i ((([91,58]:Bs)++c.fname)++([58,93]:Bs))) (λ_ c=>iN (c.tJ,((i+9:Nat):Int))) (cond (cond (cond (ef x (i+1) 45) (eK (i+2<Ts x)) eQ) (!ef x (i+2) 93) eQ)
    (cond (eK ((x.getD i cU).fb<=(x.getD (i+2) cU).fb)) (iN ([cC.mk (x.getD i cU).fb (x.getD (i+2) cU).fb],((i+3:Nat):Int))) (iN ([],((i+3:Nat):Int))))
    (iN ([cC.mk (x.getD i cU).fb (x.getD i cU).fb],((i+1:Nat):Int)))) (by rw[Vo];omega) (by rfl) (λk hk rc=>?_) (λrc=>?_),Ji]
  ·have hm:=ahA _ (fm hk);have hk8:k<8:=by rw[<-Vo];exact hk
   rw[cm om,bC hk,b9,gd hk,bZ om];generalize CL[k]=c at hm;have hl:((([91,58]:Bs)++c.fname)++([58,93]:Bs)).length=9:=by simp;omega
   grind[aE,bO,kJ,apB,bC]
  ·rw[cf om,bC om,hw1,wB,Zk,jS,jW,aD,jS,jW,aH,aD,aD,aH,aD,hml];rw[show eK (((i+2:Nat):Int)<(Ts x:Int))=eK (i+2<Ts x)from decide_eq_decide.2 om];cases h4:cond (cond (ef x (i+1) 45) (eK (i+2<Ts x)) eQ) (!ef x (i+2) 93) eQ with
   | false=>simp_all|true=>
    have h5:i+2<Ts x:=by simp_all
    rw[aS,aS,ck om om,b9,b9,hfb i hi,hfb (i+2) h5]
 rw[amz];have hb:=hc.at hi;rcases ahM x i with⟨c,hcm,hfind,hcl,h9⟩|⟨hfind,hcl⟩
 ·rw[hfind];refine(λ(h:∃st:J Bool,Ts st=256/\(∀b:Nat,b<256->st.getD b eQ=(set.getD b eQ||BL c.tJ (b:Int)))/\mH F x (i:Int) set=iN (((i+9:Nat):Int),st))=>?_) ?_
  ·obtain⟨st,h1,h2,h3⟩:=h;exact⟨i+9,st,c.tJ,h3,rfl,⟨h1,λb hb=>by simp_all[RO]⟩,om,h9,(ahA c hcm).2⟩
  ·unfold mH wx;rw[(T6 F x i om om).resolve_right om,hcl,aD,aS]
   obtain⟨r,⟨st,h1,h2,rfl⟩,h3⟩:∃r:Int×J Bool,(∃st:J Bool,Ts st=256/\(∀b:Nat,b<256->st.getD b eQ=(set.getD b eQ||BL c.tJ (b:Int)))/\r=(((i+9:Nat):Int),st))/\(bW (σ:=Int×(J Bool)) (R:=Int×(J Bool)) (λiG x2=>
     cond (eK (x2.1<256))
     ((oq F c.fname x2.1).bind λx4=>
     cond x4
     (rq ((eK (0<=x2.1))&&((eK (x2.1<256))&&(eK (x2.1<(Ts x2.2:Int))))) (iG (aE (x2.1+1),x2.2.set (eJ x2.1) hJ)))
     (iG (aE (x2.1+1),x2.2)))
     (iN (((i+9:Nat):Int),x2.2))) F (0,set))=iN r:=by
    refine eM _ (λs:Int×J Bool=>∃k:Nat,s.1=(k:Int)/\k<=256/\s.2.length=256/\∀b:Nat,s.2.getD b eQ=(set.getD b eQ||(eK (b<k)&&BL c.tJ (b:Int)))) (λs=>256-s.1.toNat) ?_ F _ ⟨0,rfl,om,hs,λb=>by simp⟩ aQ;rintro⟨ii,st⟩ ⟨k,h0,hk,hl,hst⟩ rc hrc;dsimp only at h0 hl hst⊢;subst h0;by_cases hk:k<256
    ·rw[cm om,aj8 F hcm hk,aD,bZ om];cases hin:BL c.tJ (k:Int)with|true=>rw[aS,wX om om om,b9];refine hrc _ ⟨k+1,rfl,om,by simpa using hl,λb=>?_⟩ aQ;dsimp only;rw[Ua om,hst b];grind|false=>refine hrc _ ⟨k+1,rfl,om,hl,λb=>?_⟩ aQ;grind
    grind
   simp_all
 ·rw[hfind];show ∃(e:Nat)(set':J Bool)(sp':J cC),_/\(cond _ _ _)=_/\_;unfold mH wx;rw[(T6 F x i om om).resolve_right om,aD,hcl,aJ,hw1,wB,Zk,fR,aD,fR,aH,aD];have e1:cond (ef x (i+1) 45) (eK (((i+2:Nat):Int)<(Ts x:Int)),set) (eQ,set)=((cond (ef x (i+1) 45) (eK (i+2<Ts x)) eQ),set):=by grind
  rw[e1];dsimp only;rw[aD,aH,aD];have e2:∀a b:Bool,cond a (b,set) (eQ,set)=(cond a b eQ,set):=by simp_all
  rw[e2];dsimp only;cases h4:cond (cond (ef x (i+1) 45) (eK (i+2<Ts x)) eQ) (!ef x (i+2) 93) eQ with
  | false=>rw[aJ,aJ,bC hi,b9,wX om om om];refine⟨i+1,_,_,rfl,rfl,⟨by simpa using hs,λb nM=>?_⟩,om,om,si⟩;rw[Ua om,hR b nM,RO];congr 1;unfold BL;grind|true=>
   have h5:i+2<Ts x:=by simp_all
   have nM:=hc.at h5;rw[aS,aS,bC hi,b9,b9,bO (x:=(x.getD i cU).fb) om,bO (x:=(x.getD (i+2) cU).fb) om];generalize(x.getD i cU).fb=lo at hb;generalize(x.getD (i+2) cU).fb=hi2 at nM
   obtain⟨r,⟨st,h1,h2,rfl⟩,h3⟩:∃r:Int×J Bool,(∃st:J Bool,Ts st=256/\(∀b:Nat,b<256->st.getD b eQ=(set.getD b eQ||(eK (lo<=(b:Int))&&eK ((b:Int)<=hi2))))/\r=(((i+3:Nat):Int),st))/\(bW (σ:=Int×(J Bool)) (R:=Int×(J Bool)) (λMD x9=>
     rq ((eK (0<=((i+2:Nat):Int)))&&(eK (((i+2:Nat):Int)<(Ts x:Int)))) (cond (eK (x9.1<=hi2))
     (rq ((eK (0<=x9.1))&&((eK (x9.1<256))&&(eK (x9.1<(Ts x9.2:Int))))) (MD (aE (x9.1+1),x9.2.set (eJ x9.1) hJ)))
     (iN (((i+3:Nat):Int),x9.2)))) F (lo,set))=iN r:=by
    refine eM _ (λs:Int×J Bool=>lo<=s.1/\s.1<=256/\s.2.length=256/\(∀v:Int,lo<=v->v<s.1->v<=hi2)/\∀b:Nat,s.2.getD b eQ=(set.getD b eQ||(eK (lo<=(b:Int))&&eK ((b:Int)<s.1)))) (λs=>256-s.1.toNat) ?_ F _ ⟨abh _,om,hs,λv h1 h2=>om,λb=>by
     grind⟩ aQ
    rintro⟨ii,st⟩ ⟨h6,h7,hl,hv,hst⟩ rc hrc;dsimp only at h6 h7 hl hv hst⊢;rw[bC h5];by_cases hle:ii<=hi2
    ·rw[cm hle,wX om om om,bO om];refine hrc _ ⟨by dsimp only;omega,by dsimp only;omega,by simpa using hl,λv h1 h2=>by dsimp only at h2;omega,λb=>?_⟩ (by dsimp only;omega);dsimp only;rw[Ua om,hst b,Bool.or_assoc];grind
    grind
   by_cases hlh:lo<=hi2
   ·rw[cm hlh];refine⟨i+3,st,[cC.mk lo hi2],h3,rfl,⟨h1,λb Pp=>?_⟩,om,om,si⟩;rw[h2 b Pp,hR b Pp,RO];congr 1;unfold BL;simp
   ·rw[cf hlh];refine⟨i+3,st,[],h3,rfl,⟨h1,λb Pp=>?_⟩,om,om,si⟩;rw[h2 b Pp,hR b Pp,RO];congr 1;unfold BL;grind
theorem Pq{σ τ R:Type}{b1:(σ->O R)->σ->O R}{b2:(τ->O R)->τ->O R}(P:σ->τ->Prop)(m:σ->Nat)
  (hs:∀s t,P s t->(∃s' t',P s' t'/\m s'<m s/\(∀rc,b1 rc s=rc s')/\∀rc,b2 rc t=rc t')\/∃z,(∀rc,b1 rc s=iN z)/\∀rc,b2 rc t=iN z) :
  ∀(F1 F2:Nat)(s:σ)(t:τ),P s t->m s<F1->m s<F2->∃z,bW b1 F1 s=iN z/\bW b2 F2 t=iN z
 | 0,_,s,t,_,h,_=>by omega|_+1,0,s,t,_,_,h=>by omega|F1+1,F2+1,s,t,hP,h1,h2=>by
  show ∃z,b1 (bW b1 F1) s=iN z/\b2 (bW b2 F2) t=iN z;rcases hs s t hP with⟨s',t',g1,g2,g3,g4⟩|⟨z,g1,g2⟩
  ·rw[g3,g4];exact Pq P m hs F1 F2 s' t' g1 om om
  simp_all
theorem ack{P Q:Nat->Bool}:∀k,(∀c,c<k->P c=Q c)->DD P k=DD Q k|0,_=>rfl|k+1,h=>by unfold DD;rw[ack k λc hc=>h c om,h k om]
theorem ahN(F:Nat)(x:J fJ)(i:Nat)(hF:4*Ts x+1000<F)(hx:Ts x<12000000)(hc:Pk x)(hi:i<Ts x):∃z,lM F x (i:Int)=iN z/\sg F (x.map Jt) (i:Int)=iN z:=by
 have hml:(x.map Jt).length=Ts x:=je _;have hw1:aE ((i:Int)+1)=((i+1:Nat):Int):=bZ om;unfold lM sg wx;rw[hw1,fR,aD,fR,aD,aH,aD,bZ om,aH,aD,jS,jW,aD,jS,jW,aD,aH,aD,aH,aD];generalize hneg:cond (ef x (i+1) 33) hJ (ef x (i+1) 94)=neg;obtain⟨s0,hs0,hs1,hs2,hy⟩:∃s0:Nat,cond neg (((i+1+1:Nat):Int)) ((i+1:Nat):Int)=(s0:Int)/\i<s0/\s0<=i+2/\cond neg (((i+1+1:Nat):Int),(aC.mk 4 [] eQ []).fKind,(aC.mk 4 [] eQ []).fText,hJ,(aC.mk 4 [] eQ []).cK) (((i+1:Nat):Int),(aC.mk 4 [] eQ []).fKind,(aC.mk 4 [] eQ []).fText,(aC.mk 4 [] eQ []).BK,(aC.mk 4 [] eQ []).cK)=((s0:Int),4,[],neg,[]):=by
  cases neg
  ·grind
  ·exact⟨i+2,rfl,om,om,rfl⟩
 rw[hs0,hy]
 refine Pq (λ(s:Int×Bool×J Bool)(t:Int×J cC×Bool)=>∃(k:Nat)(fi:Bool)(set:J Bool)(sp:J cC),s=((k:Int),fi,set)/\t=((k:Int),sp,fi)/\i<k/\k<=Ts x+2/\RS set sp/\sp.length<=4*k) (λs=>Ts x+2-s.1.toNat) ?_ F F _ _ ⟨s0,hJ,_,_,rfl,rfl,hs1,om,⟨si,λc h=>by
  rw[U0,List.getElem?_replicate];simp[h,BL]⟩,si⟩ aQ aQ
 rintro _ _ ⟨k,fi,set,sp,rfl,rfl,hk,hk2,hR,hl⟩;dsimp only;by_cases wC:k<Ts x
 ·have e2:cond (ef x k 93) (!fi,set) (eQ,set)=((ef x k 93 && !fi),set):=by cases ef x k 93<;>rfl
  cases h4:(ef x k 93 && !fi)with
  | true=>
   right;have h5:cond fi hJ (!ef x k 93)=eQ:=by simp_all
   refine⟨(aC.mk 4 [] neg (DD (λc=>set.getD c eQ) 256),((k+1:Nat):Int),hJ),λrc=>?_,λrc=>?_⟩
   ·rw[cm om,fR,aD,aH,aD,e2,h4];rw[aS,cy (by rw[hR.1];rfl),amy F set om hR.1,aD,bZ om]
   ·rw[jS,jW,aD,aH,hml,cm (show(k:Int)<(Ts x:Int) by omega),aD,h5,aJ,cf (show ¬ (Ts x:Int)<=(k:Int) by omega),HS F sp om om,aD,bZ om];rw[ack 256 λc hc=>(hR.2 c hc).symm]
  | false=>
   left;have h5:cond fi hJ (!ef x k 93)=hJ:=by grind
   obtain⟨e,set',sp',g1,g2,g3,g4,g5,g6⟩:=aj9 F x k set sp om om hc wC hR;refine⟨_,_,⟨e,eQ,set',sp++sp',rfl,rfl,om,om,g3,by grind⟩,aQ,λrc=>?_,λrc=>?_⟩
   ·simp_all[cm,fR,aD,aH,aJ]
   ·rw[jS,jW,Option.bind_some,aH,hml,cm (show(k:Int)<(Ts x:Int) by omega),Option.bind_some,h5,cond_true,g2,Option.bind_some,dI (by dsimp only;omega) om]
 ·right;simp_all[cf,jS,jW,aD,aH,aJ,cm]
theorem Vu(F:Nat)(l:J aB)(hF:Ts l<F)(qR:4*bV l+1000<F)(h1:Ts l<1000000000)(h2:bV l<=10000000):∃p,eR F l=iN p/\gE F l=iN p:=by
 unfold eR gE wx;rw[HP F l hF om h1 om,Ea F l hF om h1 om,aD,aD,atC];have hx:(l.flatMap p8).length<=bV l:=HN _ RM _;have hc:=T5 l;generalize(l.flatMap p8)=x at hx hc;have hml:(x.map Jt).length=Ts x:=je _;refine Pq (λ(s t:J aC×Int)=>s=t/\∃k:Nat,s.2=(k:Int)/\k<=Ts x/\s.1.length<=k) (λs=>Ts x-s.2.toNat) ?_ F F _ _ ⟨rfl,0,rfl,om,si⟩ aQ aQ;rintro⟨acc,ii⟩ _ ⟨rfl,k,h0,hk,ha⟩;dsimp only at h0 ha⊢;subst h0;have hex:∀a b:Int,a≠b->ef x k a=hJ->ef x k b=eQ:=by grind[AQ]
 have hfb:k<Ts x->((x.map Jt).getD k jA).fb=(x.getD k cU).fb:=λhk=>by rw[gd (l:=x.map Jt) (by rw[hml];exact hk),Mf,gd hk];rfl
 by_cases wC:k<Ts x
 ·left;have hc1:∀(it:aC),(eK (Ts acc+Ts ([it]:J aC)<=9223372036854775807)&&eK ((Ts acc+Ts ([it]:J aC))*56<=140737488355328))=hJ:=λit=>oQ aQ om;cases S5:ef x k 91 with
  | true=>
   have S6:=hex 91 42 de S5;have h63:=hex 91 63 de S5;obtain⟨z,z1,z2⟩:=ahN F x k om om hc wC;obtain⟨r,r1,r2⟩:=Kx F x k om om hc wC;have hzr:z=r:=og (z1.symm.trans r2);subst hzr;cases hz:z.2.2 with
   | true=>
    obtain⟨-,e,g2,g3,g4⟩:=r1 hz;refine⟨(acc++[z.1],(e:Int)),(acc++[z.1],(e:Int)),⟨rfl,e,rfl,g4,aQ⟩,aQ,λrc=>?_,λrc=>?_⟩
    ·rw[cm om,fR,aD,S5,aS,z1,aD,hz,aS,cy (hc1 _),g2];cases h:rc (acc++[z.1],(e:Int))<;>rfl
    ·rw[hml,cm om,jS,jW,aD,S6,aJ,jS,jW,aD,h63,aJ,jS,jW,aD,S5,aS,z2,aD,hz,aS,cy (hc1 _),g2];cases h:rc (acc++[z.1],(e:Int))<;>rfl
   | false=>
    refine⟨(acc++[aC.mk 1 (cx [(x.getD k cU).fb]) eQ []],((k+1:Nat):Int)),_,⟨rfl,k+1,rfl,om,aQ⟩,aQ,λrc=>?_,λrc=>?_⟩
    ·rw[cm om,fR,aD,S5,aS,z1,aD,hz,aJ];show((fu F x (k:Int) 42).bind _)=_;rw[fR,aD,S6,aJ,fR,aD,h63,aJ,bC wC,cy (hc1 _),bZ om,b9]
    ·rw[hml,cm om,jS,jW,aD,S6,aJ,jS,jW,aD,h63,aJ,jS,jW,aD,S5,aS,z2,aD,hz,aJ];show rq _ (rq _ (rc _))=_;grind[bC,cy,bZ,Int.toNat_natCast]
  | false=>
   cases S6:ef x k 42 with
   | true=>
    refine⟨(acc++[aC.mk 3 [] eQ []],((k+1:Nat):Int)),_,⟨rfl,k+1,rfl,om,aQ⟩,aQ,λrc=>?_,λrc=>?_⟩
    ·rw[cm om,fR,aD,S5,aJ];show((fu F x (k:Int) 42).bind _)=_;rw[fR,aD,S6,aS,cy (hc1 _),bZ om]
    ·rw[hml,cm om,jS,jW,aD,S6,aS,cy (hc1 _),bZ om]
   | false=>
    cases h63:ef x k 63 with
    | true=>
     refine⟨(acc++[aC.mk 2 [] eQ []],((k+1:Nat):Int)),_,⟨rfl,k+1,rfl,om,aQ⟩,aQ,λrc=>?_,λrc=>?_⟩
     ·rw[cm om,fR,aD,S5,aJ];show((fu F x (k:Int) 42).bind _)=_;rw[fR,aD,S6,aJ,fR,aD,h63,aS,cy (hc1 _),bZ om]
     ·rw[hml,cm om,jS,jW,aD,S6,aJ,jS,jW,aD,h63,aS,cy (hc1 _),bZ om]
    | false=>
     refine⟨(acc++[aC.mk 1 (cx [(x.getD k cU).fb]) eQ []],((k+1:Nat):Int)),_,⟨rfl,k+1,rfl,om,aQ⟩,aQ,λrc=>?_,λrc=>?_⟩
     ·rw[cm om,fR,aD,S5,aJ];show((fu F x (k:Int) 42).bind _)=_;rw[fR,aD,S6,aJ,fR,aD,h63,aJ,bC wC,cy (hc1 _),bZ om,b9]
     ·rw[hml,cm om,jS,jW,aD,S6,aJ,jS,jW,aD,h63,aJ,jS,jW,aD,S5,aJ];show rq _ (rq _ (rc _))=_;grind[bC,cy,bZ,Int.toNat_natCast]
 simp_all[cf]
theorem ME{σ τ R S:Type}{b1:(σ->O R)->σ->O R}{b2:(τ->O S)->τ->O S}(Q:O R->O S->Prop)(P:σ->τ->Prop)(m:σ->Nat)
  (hs:∀s t,P s t->∀rc1 bD,(∀s' t',P s' t'->m s'<m s->Q (rc1 s') (bD t'))->Q (b1 rc1 s) (b2 bD t)) :
  ∀(F1 F2:Nat)(s:σ)(t:τ),P s t->m s<F1->m s<F2->Q (bW b1 F1 s) (bW b2 F2 t)
 | 0,_,s,t,_,h,_=>by omega|_+1,0,s,t,_,_,h=>by omega|F1+1,F2+1,s,t,hP,h1,h2=>hs s t hP (bW b1 F1) (bW b2 F2) λs' t' g1 g2=>ME Q P m hs F1 F2 s' t' g1 om om
theorem EL(F:Nat)(p:J aC)(hF:Ts p+300<F)(hp:Ts p<50000000)(hit:∀it∈p,kg it):jo F p=kP F p:=by
 unfold jo kP wx;refine ME (λa b=>a=b) (λs t=>s=t/\∃k:Nat,s=(k:Int)/\k<=Ts p) (λs=>Ts p-s.toNat) ?_ F F _ _ ⟨rfl,0,rfl,om⟩ aQ aQ;rintro _ _ ⟨rfl,k,rfl,hk⟩ rc1 bD hrc;by_cases hk:k<Ts p
 ·have hI:=hit _ (fm hk);rw[cm (show(k:Int)<(Ts p:Int) by omega),cm (show(k:Int)<(Ts p:Int) by omega),bC hk,bC hk,b9,gd hk];generalize p[k]=it at hI;have hl:=hI.2.2;obtain⟨c,hc⟩:=Dt F it.cK om om;have hnext:=hrc ((k+1:Nat):Int) ((k+1:Nat):Int) ⟨rfl,k+1,rfl,om⟩ aQ;simp only[aH,aD,hc];rw[bZ om];cases (cond (cond (eK (it.fKind<1)) hJ (eK (4<it.fKind))) hJ ((Ts it.fText:Int) != cond (it.fKind==1) 1 0))with
  | true=>rfl|false=>
   rw[aJ,aJ];cases (cond (it.fKind != 4) (cond it.BK hJ (eK (0<(Ts it.cK:Int)))) eQ)with
   | true=>rfl|false=>
    rw[aJ,aJ]
    have hin:∀A:O Bool,bW (σ:=Int) (R:=Bool) (λS7 x7=>
       cond (eK (x7<(Ts it.cK:Int)))
       (rq ((eK (0<=x7))&&(eK (x7<(Ts it.cK:Int)))) ((cond (eK ((it.cK.getD (eJ x7) fT).kq<(it.cK.getD (eJ x7) fT).qq))
       (iN hJ)
       (cond (eK (0<x7))
       (rq ((eK (0<=aE (x7-1)))&&(eK (aE (x7-1)<(Ts it.cK:Int)))) (iN (eK (aE ((it.cK.getD (eJ x7) fT).qq)<=aE ((aE ((it.cK.getD (eJ (aE (x7-1))) fT).kq))+1)))))
       (iN eQ)):O Bool).bind λx9=>
       cond x9
       (iN eQ)
       (S7 (aE (x7+1)))))
       A) F 0=cond c A (iN eQ):=by
     intro A;have Li:=hc;unfold pn wx at Li;have hsw:∀(a b:O Bool),b=iN c->(∃c',b=iN c'/\a=cond c' A (iN eQ))->a=cond c A (iN eQ):=by simp_all
     refine hsw _ _ Li (ME (λa b=>∃c',b=iN c'/\a=cond c' A (iN eQ)) (λ(s t:Int)=>s=t/\∃j:Nat,s=(j:Int)/\j<=Ts it.cK) (λs=>Ts it.cK-s.toNat) ?_ F F 0 0 ⟨rfl,0,rfl,om⟩ aQ aQ);rintro s t hst rcA rcB hAB
     ·obtain⟨rfl,j,rfl,hj⟩:=hst;by_cases hj:j<Ts it.cK
      ·have e:∃b,(cond (eK ((it.cK.getD (eJ (j:Int)) fT).kq<(it.cK.getD (eJ (j:Int)) fT).qq)) (iN hJ) (cond (eK (0<(j:Int))) (rq ((eK (0<=aE ((j:Int)-1)))&&(eK (aE ((j:Int)-1)<(Ts it.cK:Int)))) (iN (eK (aE ((it.cK.getD (eJ (j:Int)) fT).qq)<=aE ((aE ((it.cK.getD (eJ (aE ((j:Int)-1))) fT).kq))+1))))) (iN eQ)):O Bool)=iN b:=by
        by_cases h0:0<j
        ·rw[uP om h0,cm (show(0:Int)<(j:Int) by omega),ck om om,aH];exact⟨_,rfl⟩
        grind
       obtain⟨b,hb⟩:=e;rw[cm (show(j:Int)<(Ts it.cK:Int) by omega),cm (show(j:Int)<(Ts it.cK:Int) by omega),bC hj,bC hj];simp only[bC hj];rw[hb,aD,aD,bZ om];cases b with|true=>grind|false=>exact hAB _ _ ⟨rfl,j+1,rfl,om⟩ aQ
      grind
    simp_all
 grind
def BM(p:J aC):Bs:=p.flatMap λit=>it.fText
def AR(it:aC):Bool:=it.fKind==1
def Pr(p:J aC)(b:Bool):Bs×Bool:=cond (p.all AR&&b) (BM p,hJ) ([],eQ)
theorem XQ:∀(p:J aC),(∀it∈p,kg it)->Ts (BM p)<=10*Ts p|[],_=>by simp[BM]|it::p,h=>by have ih:=XQ p λx hx=>h x (by simp[hx]);have:=(h it si).2.1;unfold BM at *;simp only[vY,qg,pM];omega
theorem acm(p:J aC)(k:Nat)(h:k<Ts p):BM (p.take (k+1))=BM (p.take k)++p[k].fText:=by unfold BM;grind[List.take_succ_eq_append_getElem]
theorem afZ{p:J aC}(h:k<Ts p)(hb:AR p[k]=eQ):p.all AR=eQ:=by grind
theorem acn{p:J aC}(h:∀k,∀hk:k<Ts p,AR p[k]=hJ):p.all AR=hJ:=by grind[List.all_eq_true,List.getElem_of_mem]
theorem aeT(F:Nat)(p:J aC)(hF:Ts p+300<F)(hp:Ts p<50000000)(hit:∀it∈p,kg it){b:Bool}(hb:kP F p=iN b):kQ F p=iN (Pr p b):=by
 refine cz (λs=>∃k:Nat,s=(BM (p.take k),(k:Int))/\k<=Ts p/\∀j,j<k->∀hj:j<Ts p,AR p[j]=hJ) (λs=>Ts p-s.2.toNat) ?_ F _ ⟨0,rfl,om,λj h=>om⟩ aQ;rintro s ⟨k,rfl,hk,hj⟩;dsimp only;have htl:=XQ (p.take k) λit h=>hit it (O1 h);have htk:(p.take k).length=k:=by simp_all
 by_cases hk:k<Ts p
 ·have hI:=(hit _ (fm hk)).2.1;cases hby:AR p[k]with
  | false=>
   right;intro rc;have hne:(p[k].fKind != 1)=hJ:=by unfold AR at hby;simp[bne,hby]
   rw[cm om,bC hk,b9,gd hk,hne,Pr,afZ hk hby];rfl
  | true=>
   left;refine⟨(BM (p.take (k+1)),((k+1:Nat):Int)),⟨k+1,rfl,om,λj h1 h2=>?_⟩,aQ,λrc=>?_⟩
   ·grind
   ·have hne:(p[k].fKind != 1)=eQ:=by unfold AR at hby;simp[bne,hby]
    rw[cm om,bC hk,bC hk,b9,gd hk,hne,aJ,ab5 om,bZ om,acm p k hk]
 ·right;obtain rfl:k=Ts p:=om;intro rc;rw[cf om,hb,Pr,acn (λj h=>hj j h h),sS];cases b<;>rfl
theorem S8(F:Nat)(p:J aC)(hF:Ts p+300<F)(hp:Ts p<50000000)(hit:∀it∈p,kg it){b:Bool}(hb:jo F p=iN b):iW F p=iN (Pr p b):=by
 unfold iW wx;rw[hb];cases b with
 | false=>unfold Pr;rw[TM];rfl|true=>
  refine cz (λs=>∃k:Nat,s=(cY (BM (p.take k)),(k:Int))/\k<=Ts p/\∀j,j<k->∀hj:j<Ts p,AR p[j]=hJ) (λs=>Ts p-s.2.toNat) ?_ F _ ⟨0,rfl,om,λj h=>om⟩ aQ;rintro s ⟨k,rfl,hk,hj⟩;have htl:=XQ (p.take k) λit h=>hit it (O1 h);have htk:(p.take k).length=k:=by simp_all
  have hil:∀s:Bs,Ts (cY s)=Ts s:=λs=>je _;by_cases hk:k<Ts p
  ·have hI:=(hit _ (fm hk)).2.1;cases hby:AR p[k]with
   | false=>
    right;intro rc;have hne:(p[k].fKind != 1)=hJ:=by unfold AR at hby;simp[bne,hby]
    rw[cm om,bC hk,b9,gd hk,hne,Pr,afZ hk hby];rfl
   | true=>
    left;refine⟨(cY (BM (p.take (k+1))),((k+1:Nat):Int)),⟨k+1,rfl,om,λj h1 h2=>?_⟩,aQ,λrc=>?_⟩
    ·grind
    ·have hne:(p[k].fKind != 1)=eQ:=by unfold AR at hby;simp[bne,hby]
     rw[cm om,bC hk,b9,gd hk,hne,dI (by rw[hil,hil];omega) om,bZ om,acm p k hk];simp[cY]
  ·right;obtain rfl:k=Ts p:=om;intro rc;rw[cf om,Pr,acn (λj h=>hj j h h),sS,My];rfl
theorem S9(F:Nat)(p:J aC)(hF:Ts p+300<F)(hp:Ts p<50000000)(hit:∀it∈p,kg it):iW F p=kQ F p:=by obtain⟨b,hb⟩:=Jq F p hF hp hit;rw[S8 F p hF hp hit hb,aeT F p hF hp hit (by rw[<-EL F p hF hp hit];exact hb)]
def jq(n:Nat)(f:Nat->Bool):J Bool:=(bY n).map f
theorem Dv(n:Nat)(f:Nat->Bool):(jq n f).length=n:=by unfold jq;simp
variable{n:Nat}
theorem yC(f:Nat->Bool)(h:i<n):(jq n f).getD i eQ=f i:=by unfold jq;simp_all
theorem mz{f g:Nat->Bool}(h:∀i,i<n->f i=g i):jq n f=jq n g:=by unfold jq;simp_all
theorem HT(n i:Nat)(f:Nat->Bool)(b:Bool):(jq n f).set i b=jq n (λj=>cond (j==i) b (f j)):=by unfold jq;refine Bo si λj h1 h2=>?_;grind
theorem Ub(n:Nat):aT n eQ=jq n (λ_=>eQ):=by refine Bo (by simp[jq]) λj h1 h2=>?_;simp[jq]
section
variable (p : J aC) (s : Bs)
def Vv(i:Nat):aC:=p.getD i eN
def nP(i:Nat):Bool:=(Vv p i).fKind==3
def Uc(it:aC)(b:Int):Bool:=cond (it.fKind==1) (((it.fText.getD 0 0).toNat:Int)==b) (cond (it.fKind==4) (!((it.cK.any λx=>eK (x.qq<=b)&&eK (b<=x.kq))==it.BK)) hJ)
def Pt(i k:Nat):Bool:=Uc (Vv p i) ((s.getD k 0).toNat:Int)
def upE(f:Nat->Bool):Nat->Bool|0=>f 0|k+1=>f (k+1)||upE f k
def prE(f g:Nat->Bool):Nat->Bool|0=>eQ|k+1=>f k&&g k
def EE:Nat->Nat->Bool|0,k=>k==0|i+1,k=>cond (nP p i) (upE (EE i) k) (prE (EE i) (Pt p s i) k)
def EP(i k:Nat):Bool:=EE p s i k||(nP p i&&EE p s (i+1) k)
theorem af0:nP p p.length=eQ:=by unfold nP Vv;rw[U0,Rp (ep _)];rfl
theorem RU(h:nP p i=hJ)(k:Nat):EE p s (i+1) (k+1)=(EE p s i (k+1)||EE p s (i+1) k):=by rw[EE,EE,h];rfl
theorem MF(h:nP p i=hJ):EE p s (i+1) 0=EE p s i 0:=by rw[EE,h];rfl
theorem XR(h:nP p i=eQ)(k:Nat):EE p s (i+1) (k+1)=(EE p s i k&&Pt p s i k):=by rw[EE,h];rfl
theorem aco(h:nP p i=eQ):EE p s (i+1) 0=eQ:=by rw[EE,h];rfl
theorem ahO(h:nP p i=hJ):∀k,EE p s i k=hJ->EE p s (i+1) k=hJ|0,e=>by simp_all[MF]|k+1,e=>by simp_all[RU]
def zD(f:Nat->Bool):Nat->Bool|0=>f 0|i+1=>f (i+1)||(zD f i&&nP p i)
def xy(f:Nat->Bool)(b k j:Nat):Bool:=(eK (j<b)&&(f j&&nP p j))||(eK (0<j)&&(eK (j<=b)&&(f (j-1)&&(!nP p (j-1)&&Pt p s (j-1) k))))
theorem amA:∀i,zD p (λj=>j==0) i=EP p s i 0:=by
 have hE:∀i,EP p s i 0=EE p s i 0:=by unfold EP;simp_all[MF]
 intro i
 induction i with|zero=>rfl|succ i ih=>rw[zD];grind[aco,MF]
theorem af1(k:Nat):∀i,i<=Ts p->zD p (xy p s (λj=>EP p s j k) p.length k) i=EP p s i (k+1):=by
 have hpre:∀i,i<=Ts p->xy p s (λj=>EP p s j k) p.length k i=((nP p i&&EE p s (i+1) k)||(eK (0<i)&&(!nP p (i-1)&&EE p s i (k+1)))):=by
  intro i hi;unfold xy;congr 1
  ·by_cases h:i<Ts p
   ·unfold EP;grind[ahO]
   grind[af0,decide_eq_false]
  ·cases i with|zero=>simp|succ i=>unfold EP;grind[XR]
 intro i
 induction i with
 | zero=>
  intro hi;rw[zD,hpre 0 hi];unfold EP;rw[show EE p s 0 (k+1)=eQ from rfl];cases hs:nP p 0 with
  | false=>simp|true=>rw[RU p s hs,show EE p s 0 (k+1)=eQ from rfl];simp
 | succ i ih=>
  intro hi;rw[zD,hpre (i+1) hi,ih om];have e2:EP p s (i+1) (k+1)=(EE p s (i+1) (k+1)||(nP p (i+1)&&EE p s (i+2) k)):=by unfold EP;grind[RU]
  rw[e2];unfold EP;grind[ahO]
theorem acp(f:Nat->Bool)(n:Nat)(h:∀i,i<=n->f i=eQ):∀i,i<=n->zD p f i=eQ|0,hi=>h 0 hi|i+1,hi=>by rw[zD,h _ hi,acp f n h i om];rfl
theorem XS(k:Nat)(h:∀i,i<=Ts p->EP p s i k=eQ):∀d i,i<=Ts p->EP p s i (k+d)=eQ
 | 0,i,hi=>h i hi|d+1,i,hi=>by
  rw[<-OX,<-af1 p s (k+d) i hi];refine acp p _ p.length (λj hj=>?_) i hi;unfold xy;dsimp only;rw[XS k h d j hj];by_cases h0:0<j
  ·rw[XS k h d (j-1) om];simp
  ·simp[h0]
theorem aka(k:Nat):EP p s p.length k=EE p s p.length k:=by unfold EP;rw[af0];simp
end
def MG(b:Int)(x:cC):Bool:=eK (x.qq<=b)&&eK (b<=x.kq)
theorem apD(F:Nat)(it:aC)(b:Int)(hF:300<F)(h:kg it):qS F it b=iN (Uc it b):=by
 unfold qS Uc wx;cases hk:(it.fKind==1)with
 | true=>have:=h.1 (eq_of_beq hk);rw[aS,aS,kJ om]|false=>
  cases (it.fKind==4)with
  | false=>rfl|true=>
   have hl:=h.2.2;refine cz (λs=>∃k:Nat,s=((it.cK.take k).any (MG b),(k:Int))/\k<=Ts it.cK) (λs=>Ts it.cK-s.2.toNat) ?_ F _ ⟨0,rfl,om⟩ aQ;rintro s ⟨k,rfl,hk2⟩;by_cases hk2:k<Ts it.cK
   ·left;refine⟨_,⟨k+1,rfl,om⟩,aQ,λrc=>?_⟩;rw[bC hk2,b9,aH,aH,bZ om,kT hk2,List.any_append];unfold MG;simp_all
   ·right;obtain rfl:k=Ts it.cK:=om;intro rc;rw[cf om,sS];rfl
theorem amB(F:Nat)(it:aC)(b:Int)(hF:300<F)(h:kg it):Ec F it b=iN (Uc it b):=by
 unfold Ec Uc wx;cases hk:(it.fKind==1)with
 | true=>have:=h.1 (eq_of_beq hk);rw[aS,aS,kJ om]|false=>
  cases (it.fKind==4)with
  | false=>rfl|true=>
   have hl:=h.2.2;have e:xu F it.cK b=iN (it.cK.any (MG b)):=by
    refine cz (λs=>∃k:Nat,s=(k:Int)/\k<=Ts it.cK/\(it.cK.take k).any (MG b)=eQ) (λs=>Ts it.cK-s.toNat) ?_ F _ ⟨0,rfl,om,rfl⟩ aQ;rintro s ⟨k,rfl,hk2,hn⟩;by_cases hk2:k<Ts it.cK
    ·have hin:(cond (eK (it.cK[k].qq<=b)) (rq ((eK (0<=(k:Int)))&&(eK ((k:Int)<(Ts it.cK:Int)))) (iN (eK (b<=it.cK[k].kq)))) (iN eQ):O Bool)=iN (MG b it.cK[k]):=by rw[bC hk2];unfold MG;grind
     have atE:(it.cK.take (k+1)).any (MG b)=MG b it.cK[k]:=by grind[List.take_succ_eq_append_getElem]
     cases hb:MG b it.cK[k]with|true=>right;intro rc;have:=TK.2 ⟨_,fm hk2,hb⟩;rw[cm om,bC hk2,b9,gd hk2,hin,hb,this];rfl|false=>left;refine⟨_,⟨k+1,rfl,om,by rw[atE,hb]⟩,aQ,λrc=>?_⟩;rw[cm om,bC hk2,b9,gd hk2,hin,hb,bZ om];rfl
    grind
   rw[e];rfl
theorem Zp(F:Nat)(p:J aC)(f:Nat->Bool)(hF:Ts p<F)(hp:Ts p<50000000):qJ F p (jq (Ts p+1) f)=iN (jq (Ts p+1) (zD p f)):=by
 refine cz (λs=>∃k:Nat,s=((k:Int),jq (Ts p+1) (λj=>cond (eK (j<=k)) (zD p f j) (f j)))/\k<=Ts p) (λs=>Ts p-s.1.toNat) ?_ F _ ⟨0,congrArg (Prod.mk (0:Int)) (mz λi hi=>by
   cases i with|zero=>rfl|succ i=>simp_all),om⟩ aQ
 rintro s ⟨k,rfl,hk⟩;have hlen:∀g:Nat->Bool,Ts (jq (Ts p+1) g)=Ts p+1:=λg=>Dv _ g;by_cases hk:k<Ts p
 ·left;refine⟨_,⟨k+1,rfl,om⟩,aQ,λrc=>?_⟩;rw[cm om,bC hk,ck om (by rw[hlen];omega),b9,yC _ (show k<Ts p+1 by omega),aH,bZ om,dT (show k<=k by omega),aS];have e:∀(A B:Bool)(L:J Bool),cond A (B,L) (eQ,L)=((A&&B),L):=by simp_all
  rw[e];show cond (zD p f k&&nP p k) _ _=_;have e2:jq (Ts p+1) (λj=>cond (eK (j<=k+1)) (zD p f j) (f j))=cond (zD p f k&&nP p k) ((jq (Ts p+1) (λj=>cond (eK (j<=k)) (zD p f j) (f j))).set (k+1) hJ) (jq (Ts p+1) (λj=>cond (eK (j<=k)) (zD p f j) (f j))):=by
   cases hc:(zD p f k&&nP p k)with
   | true=>
    rw[HT];refine mz λj hj=>?_;by_cases h1:j=k+1
    ·subst h1;rw[Db,dT om,zD,hc];simp
    grind
   | false=>
    refine mz λj hj=>?_;by_cases h1:j=k+1
    ·subst h1;rw[dT (show k+1<=k+1 by omega),dF (show ¬ k+1<=k by omega),zD,hc];simp
    grind
  rw[e2];cases hc:(zD p f k&&nP p k)with|true=>rw[aS,aS,ck om (by rw[hlen];omega),b9]|false=>rfl
 ·right;intro rc;rw[cf om];rw[mz (g:=zD p f) λj hj=>by grind]
theorem akb(p:J aC)(s:Bs)(f:Nat->Bool)(k j:Nat):xy p s f 0 k j=eQ:=by unfold xy;grind
theorem akc(p:J aC)(s:Bs)(f:Nat->Bool)(b k j:Nat):
  xy p s f (b+1) k j=cond (f b&&nP p b) (cond (j==b) hJ (xy p s f b k j)) (cond (f b&&Pt p s b k) (cond (j==b+1) hJ (xy p s f b k j)) (xy p s f b k j)):=by
 unfold xy;grind
theorem ahP(F:Nat)(p:J aC)(s:Bs)(f:Nat->Bool)(k:Nat)(hF:Ts p+300<F)(hp:Ts p<50000000)(hit:∀it∈p,kg it):
  lI F p (jq (Ts p+1) f) ((s.getD k 0).toNat:Int)=iN (jq (Ts p+1) (zD p (xy p s f p.length k))):=by
 unfold lI wx;have hw:aE ((Ts p:Int)+1)=((Ts p+1:Nat):Int):=bZ om;have hlen:∀g:Nat->Bool,Ts (jq (Ts p+1) g)=Ts p+1:=λg=>Dv _ g;rw[hw,cy (by rw[dT om,dT om,dT om,dT om,dT om];rfl),Ub];refine cz (λx=>∃b:Nat,x=((b:Int),jq (Ts p+1) (xy p s f b k))/\b<=Ts p) (λx=>Ts p-x.1.toNat) ?_ F _ ⟨0,by grind[mz,akb],om⟩ aQ;rintro x ⟨b,rfl,hb⟩;by_cases hb:b<Ts p
 ·left;refine⟨_,⟨b+1,rfl,om⟩,aQ,λrc=>?_⟩;have hki:(Vv p b)=p[b]:=by unfold Vv;rw[gd hb]
  have hst:(p[b].fKind==3)=nP p b:=by unfold nP;rw[hki]
  have hfi:Uc p[b] ((s.getD k 0).toNat:Int)=Pt p s b k:=by unfold Pt;rw[hki]
  rw[cm om,bC hb,ck om (by rw[hlen];omega),b9,gd hb,yC _ (show b<Ts p+1 by omega),bZ om,hst,apD F p[b] _ om (hit _ (fm hb)),hfi];have e:jq (Ts p+1) (xy p s f (b+1) k)=cond (f b&&nP p b) ((jq (Ts p+1) (xy p s f b k)).set b hJ) (cond (f b&&Pt p s b k) ((jq (Ts p+1) (xy p s f b k)).set (b+1) hJ) (jq (Ts p+1) (xy p s f b k))):=by grind[HT,mz,akc]
  rw[e];cases hf:f b with
  | false=>rfl|true=>
   cases hs:nP p b with
   | true=>grind[ck]|false=>cases hx:Pt p s b k with|true=>grind[ck,Int.toNat_natCast]|false=>rfl
 ·right;obtain rfl:b=Ts p:=om;intro rc;rw[cf om,Zp F p _ om hp,aD]
theorem aeU(F:Nat)(st:J Bool)(hF:Ts st<F)(hs:Ts st<100000000):∃b,(b=eQ->∀i,i<Ts st->st.getD i eQ=eQ)/\lH F st hJ=iN b:=by
 unfold lH wx;obtain⟨r,hr,h⟩:∃r:Int,(r<0->∀i,i<Ts st->st.getD i eQ=eQ)/\yA F st hJ=iN r:=by
  refine BH _ (λs=>∃k:Nat,s=(k:Int)/\k<=Ts st/\∀i,i<k->st.getD i eQ=eQ) (λs=>Ts st-s.toNat) ?_ F _ ⟨0,rfl,om,λi hi=>om⟩ aQ;rintro ii ⟨k,rfl,hk,hn⟩;by_cases hk:k<Ts st
  ·cases hv:st.getD k eQ with
   | true=>right;refine⟨(k:Int),λh=>om,λrc=>?_⟩;rw[cm om,bC hk,b9,hv];rfl|false=>
    left;refine⟨_,⟨k+1,rfl,om,λi hi=>?_⟩,aQ,λrc=>?_⟩
    ·grind
    ·rw[cm om,bC hk,b9,hv,bZ om];rfl
  ·obtain rfl:k=Ts st:=om;simp_all
 simp_all
theorem af2(F:Nat)(p:J aC)(s:Bs)(hF:Ts p+300<F)(qR:Ts s+1<F)(hs:Ts s<50000000)(hp:Ts p<50000000)(hit:∀it∈p,kg it):
  BN F p s=iN (jq (Ts s+1) (EE p s p.length)):=by
 unfold BN wx;have hw:aE ((Ts s:Int)+1)=((Ts s+1:Nat):Int):=bZ om;have hlen:∀g:Nat->Bool,Ts (jq (Ts s+1) g)=Ts s+1:=λg=>Dv _ g;have hrq:∀ {α:Type}(x:O α),rq ((eK (0<=((Ts s+1:Nat):Int)))&&((eK (((Ts s+1:Nat):Int)<=((Ts s+1:Nat):Int)))&&((eK (0<((Ts s+1:Nat):Int)))&&((eK (((Ts s+1:Nat):Int)<=9223372036854775807))&&(eK ((1:Int)*((Ts s+1:Nat):Int)<=140737488355328)))))) x=x:=by grind[cy,dT]
 rw[hw,hrq,b9,kJ si,Ub,HT]
 refine cz (λx:J Bool×Int=>∃i:Nat,x=(jq (Ts s+1) (EE p s i),(i:Int))/\i<=Ts p) (λx=>Ts p-x.2.toNat) ?_ F _ ⟨0,congrArg (λy=>(y,(0:Int))) (mz λj _=>by
   show cond (j==0) hJ eQ=(j==0);cases (j==0)<;>rfl),om⟩ aQ
 rintro x ⟨i,rfl,hi⟩;dsimp only;by_cases hi:i<Ts p
 ·left;refine⟨(jq (Ts s+1) (EE p s (i+1)),((i+1:Nat):Int)),⟨i+1,rfl,om⟩,aQ,λrc=>?_⟩;rw[cm om,hrq];refine cz (λx:Int×J Bool=>∃k:Nat,x=((k:Int),jq (Ts s+1) (λj=>eK (j<k)&&EE p s (i+1) j))/\k<=Ts s+1) (λx=>Ts s+1-x.1.toNat) ?_ F _ ⟨0,congrArg (Prod.mk (0:Int)) (mz λj _=>by simp),om⟩ aQ;rintro x ⟨k,rfl,hk⟩;dsimp only;by_cases hk:k<=Ts s
  ·left;refine⟨_,⟨k+1,rfl,om⟩,aQ,λbD=>?_⟩;have hki:(Vv p i)=p[i]:=by unfold Vv;rw[gd hi]
   have hst:(p[i].fKind==3)=nP p i:=by unfold nP;rw[hki]
   have nV:∀b,b=EE p s (i+1) k->(jq (Ts s+1) (λj=>eK (j<k)&&EE p s (i+1) j)).set k b=jq (Ts s+1) (λj=>eK (j<k+1)&&EE p s (i+1) j):=by rintro b rfl;rw[HT];grind
   rw[cm om,bC hi,b9,gd (l:=p) hi,hst,bZ om];cases hs3:nP p i with
   | true=>
    rw[aS,ck om (by rw[hlen];omega),b9,yC _ om]
    have hres:∀b,b=EE p s (i+1) k->((iN ((k:Int),b,jq (Ts s+1) (λj=>eK (j<k)&&EE p s (i+1) j)):O (Int×Bool×(J Bool))).bind λx5=>
      rq ((eK (0<=x5.1))&&(eK (x5.1<(Ts x5.2.2:Int)))) (bD (((k+1:Nat):Int),x5.2.2.set (eJ x5.1) x5.2.1)))=bD (((k+1:Nat):Int),jq (Ts s+1) (λj=>eK (j<k+1)&&EE p s (i+1) j)):=by
     grind[ck,Int.toNat_natCast]
    cases he:EE p s i k with
    | true=>simp_all[ahO]|false=>rw[aJ];cases k with|zero=>simp_all[cf,MF]|succ k=>rw[cm om,uP om om,ck om (by rw[hlen];omega),b9,yC _ om];simp_all[RU,Nat.add_sub_cancel,dT]
   | false=>
    rw[aJ];cases k with
    | zero=>rw[cf om,ck om (by rw[hlen];omega),b9,nV eQ (by rw[aco p s hs3])]|succ k=>
     rw[cm om,uP om om,ck om (by rw[hlen];omega),b9,Nat.add_sub_cancel,yC _ om];cases he:EE p s i k with
     | false=>rw[aJ,ck om (by rw[hlen];omega),b9,nV eQ (by simp_all[XR])]|true=>rw[aS,bC hi,bC (show k<s.length by omega),b9,amB F p[i] _ om (hit _ (fm hi)),aD,ck om (by rw[hlen];omega),nV _ (by rw[XR p s hs3,he];unfold Pt;rw[hki];rfl)]
  ·right;obtain rfl:k=Ts s+1:=om;intro bD;rw[cf om,bZ om,mz (g:=EE p s (i+1)) λj hj=>by simp_all]
 grind
theorem akd(F:Nat)(p:J aC)(n:Bs)(hF:Ts p+300<F)(qR:Ts n+1<F)(hn:Ts n<50000000)(hp:Ts p<50000000)(hit:∀it∈p,kg it){v:Bool}(hv:jo F p=iN v):
  Ed F p n=iN (v&&EE p n p.length n.length):=by
 unfold Ed wx;rw[<-EL F p hF hp hit,hv,aD,af2 F p n hF qR hn hp hit];cases v with|false=>rfl|true=>rw[aD,ck om (by rw[Dv];omega),yC _ om];rfl
def Ee(n:J Bs):Bs:=n.flatMap λc=>47::c
theorem ake(a b:J Bs):Ee (a++b)=Ee a++Ee b:=by simp[Ee]
theorem Vw:∀(n:J Bs),n≠[]->Ee n=47::dX n
 | [],h=>absurd rfl h|[x],_=>by simp[Ee,dX]|x::y::l,_=>by have ih:=Vw (y::l) si;rw[show Ee (x::y::l)=(47::x)++Ee (y::l)from rfl,ih,dX];simp
theorem Ta{n:J Bs}(h:n≠[]):pathOf n=Ee n:=by rw[Vw n h];rfl
theorem Names.app{a b:J Bs}(ha:Names a)(hb:Names b):Names (a++b):=λc hc=>by
 rcases mX.1 hc with h|h
 ·exact ha c h
 ·exact hb c h
theorem Names.left{a b:J Bs}(h:Names (a++b)):Names a:=λc hc=>h c (by simp[hc])
theorem NW:∀(m:J Bs)(x:Bs),m≠[]->Names m->cq (dX m++47::x)=m++cq x|[],x,h,_=>absurd rfl h|[a],x,_,h=>by rw[dX,Jn a x (sE (h a si))];rfl|a::b::m,x,_,h=>by rw[dX,uK,sU,Jn a _ (sE (h a si)),NW (b::m) x si λc hc=>h c (by simp[hc])];rfl
theorem RW{s:Bs}(h:gG s=hJ):∃n,Names n/\s=pathOf n/\(pathOf n).length<=128:=by
 cases hr:(s==[47])with
 | true=>exact⟨[],λc hc=>(by cases hc),eq_of_beq hr,by decide⟩
 | false=>obtain⟨h1,h2,h3,h4⟩:=yz h hr;grind
theorem Lj{n:J Bs}(h:Names n):pathOf n=[47]↔n=[]:=by have:=D9 h;grind
theorem Kz{m n:J Bs}(hm:Names m)(hn:Names n):BE (pathOf m) (pathOf n)=hJ↔∃c r,n=m++c::r:=by
 unfold BE;by_cases h0:m=[]
 ·subst h0;rw[show(pathOf []==[47])=hJ from rfl,aS,D9 hn];cases n with|nil=>simp|cons c r=>simp
 ·have e0:(pathOf m==[47])=eQ:=by simp_all[D9]
  rw[e0,aJ];simp;constructor
  ·rintro⟨h1,h2⟩;have hx:pathOf n=(pathOf m++[47])++(pathOf n).drop (Ts (pathOf m)+1):=by grind[List.take_append_drop]
   generalize(pathOf n).drop (Ts (pathOf m)+1)=x at hx;have hj:dX n=dX m++47::x:=by simp[pathOf,uK,sU,oe,List.cons.injEq,wR]at hx;exact hx
   have hne:n≠[]:=by rintro rfl;have:([]:Bs)=dX m++47::x:=hj;simp at this
   have:=BI n hne λc hc=>sE (hn c hc);rw[hj,NW m x h0 hm]at this;cases hp:cq x with|nil=>grind|cons c r=>grind
  ·rintro⟨c,r,rfl⟩;have e:pathOf (m++c::r)=pathOf m++47::(c++Ee r):=by rw[Ta si,ake,Ta h0];rfl
   grind
structure VT(l:List aZ):Prop where
 len:Ts l<=128
 root:∃f∈l,f.bM=[47]
 path:∀f∈l,gG f.bM=hJ
 dir:∀f∈l,f.lV=hJ->f.fData=[]
 amn:∀f∈l,f.bM=[47]->f.lV=hJ
 data:∀f∈l,Ts f.fData<=8192
 asc:Pg l
 par:∀f∈l,f.bM≠[47]->∃p∈l,p.bM=iR f.bM/\p.lV=hJ
theorem VT.up{l:J aZ}(h:VT l):∀(r:J Bs)(m:J Bs)(c:Bs),Names (m++c::r)->(∃f∈l,f.bM=pathOf (m++c::r))->∃f∈l,f.bM=pathOf (m++[c]):=by
 intro r
 induction hn:r.length generalizing r with
 | zero=>simp_all|succ k ih=>
  intro m c hN ⟨f,hf,e⟩;have hr:r≠[]:=by grind
  have hne:f.bM≠[47]:=by simp_all[Lj]
  obtain⟨p,hp,e1,-⟩:=h.par f hf hne;rw[e,HL hN]at e1;have e2:(m++c::r).dropLast=m++c::r.dropLast:=by simp_all[List.dropLast_append_of_ne_nil,List.dropLast_cons_of_ne_nil]
  rw[e2]at e1;exact ih r.dropLast (by simp[hn]) m c (by rw[<-e2];exact hN.dropLast) ⟨p,hp,e1⟩
theorem VT.above{l:J aZ}(h:VT l){a:Bs}(ha:gG a=hJ){f:aZ}(hf:f∈l)(hab:BE a f.bM=hJ):∃p∈l,p.bM=a/\p.lV=hJ/\∃k∈l,zn a k=hJ:=by
 obtain⟨m,hm,rfl,-⟩:=RW ha;obtain⟨n,hn,e,-⟩:=RW (h.path f hf);rw[e]at hab;obtain⟨c,r,rfl⟩:=(Kz hm hn).1 hab;obtain⟨k,hk,ek⟩:=h.up r m c hn ⟨f,hf,e⟩;have hN:Names (m++[c]):=Names.app hm λx hx=>hn x (by simp at hx;simp[hx]);have arz:k.bM≠[47]:=by simp_all[Lj]
 obtain⟨p,hp,e1,e2⟩:=h.par k hk arz;have e3:iR k.bM=pathOf m:=by simp_all[HL]
 refine⟨p,hp,by rw[e1,e3],e2,k,hk,?_⟩;unfold zn;rw[e3];simp[arz]
theorem acq{p:Bs}(h:gG p=hJ)(hr:p≠[47]):BE (iR p) p=hJ/\gG (iR p)=hJ:=by
 obtain⟨n,hn,rfl,hl⟩:=RW h;rcases U4 n with rfl|⟨m,c,rfl⟩
 ·exact absurd rfl hr
 ·rw[ag5]at *;have hm:=hn.left;have hc:=hn c si;rw[Kw hm hc];refine⟨(Kz hm hn).2 ⟨c,[],rfl⟩,abY hm ?_⟩;have:(pathOf m).length<=Ts (pathOf (m++[c])):=by
   cases m with
   | nil=>simp[pathOf,dX]|cons a b=>
    have e:pathOf ((a::b)++[c])=pathOf (a::b)++47::c:=by rw[pathOf,Gl _ _ si,pathOf];simp
    rw[e];simp
  omega
theorem akf{l:J aZ}{p:Bs}:Jm l p=0↔(∀f∈l,BE f.bM p=hJ->f.lV=hJ)/\Ku l (iR p)=hJ:=by unfold Jm;grind
theorem VL.tree(h:VL l):VT l:=by
 refine⟨h.len,⟨l.getD 0 cw,by rw[gd h.pos];exact fm _,h.root⟩,h.path,h.dir,h.amn,h.data,h.asc,λf hf hne=>?_⟩;obtain⟨k,hk,e⟩:=lE hf;have ek:l.getD k cw=f:=by rw[gd hk];exact e
 have h0:0<k:=by
  rcases Nat.eq_zero_or_pos k with h0|h0
  ·subst h0;rw[h.root.symm,ek]at hne;exact absurd rfl hne
  ·exact h0
 have hp:=akf.1 (h.arn k h0 hk);obtain⟨g,hg,eg⟩:=(afW _ _).1 hp.2;have:=(acq (h.path f hf) hne).1;grind
def lY(F:Nat)(t:J aB):J aC:=(eR F t).getD []
def qV(F:Nat)(t:J aB):Bool:=((iW F ((lY F) t)).getD ([],eQ)).2
def Pu(F:Nat)(p:J aC)(n:Bs):Bool:=(nO F p n).getD eQ
theorem Ll{F:Nat}(hF:100000000<=F)(t:J aB)(h1:Ts t<=10000)(h2:bV t<=10000):eR F t=iN ((lY F) t)/\(∀it∈(lY F) t,kg it)/\((lY F) t).length<=10000:=by obtain⟨p,⟨g1,g2⟩,h⟩:=S2 F t om om om om;unfold lY;grind
theorem XT(hF:100000000<=F)(t:J aB)(h1:Ts t<=10000)(h2:bV t<=10000):∃x,iW F ((lY F) t)=iN (x,(qV F) t):=by obtain⟨-,g1,g2⟩:=Ll hF t h1 h2;obtain⟨r,h⟩:=aeO F ((lY F) t) om om g1;unfold qV;grind
theorem arA(hF:100000000<=F)(t:J aB)(h1:Ts t<=10000)(h2:bV t<=10000)(n:Bs)(hn:Ts n<=10000):nO F ((lY F) t) n=iN ((Pu F) ((lY F) t) n):=by obtain⟨-,g1,g2⟩:=Ll hF t h1 h2;obtain⟨r,h⟩:=aj3 F ((lY F) t) n om om om om g1;unfold Pu;rw[h];rfl
variable{r:J aB}
theorem ahQ(hF:100000000<=F)(hv:VL l)(hc:gG cwd=hJ)(h1:Ts r<=10000)(h2:bV r<=3000)(hW:(W l (Pu F) (partsOf (lY F) (qV F) r) (tK cwd (tL r))).length<=1000000):pq F l cwd r=iN (Po l (Pu F) (lY F) (qV F) cwd r,0):=by have hsz:∀t∈gK r,Ts t<=10000/\bV t<=10000:=λt ht=>⟨by have:=acg t ht;omega,by grind[ahI]⟩;exact aj4 om hv hc om om (λt ht=>⟨(Ll hF t (hsz t ht).1 (hsz t ht).2).1,XT hF t (hsz t ht).1 (hsz t ht).2⟩) (λt ht _ n hn=>arA hF t (hsz t ht).1 (hsz t ht).2 n om) hW
def GI(n:Nat)(o:J (J aB)×J aB):Prop:=(∀c∈o.1,(∀r∈c,Ts r.fText=1)/\c.length<=n)/\(∀r∈o.2,Ts r.fText=1)/\o.2.length<=n
theorem GI.up{m:Nat}(h:GI n o)(hm:n<=m):GI m o:=⟨λc hc=>⟨(h.1 c hc).1,by have:=(h.1 c hc).2;omega⟩,h.2.1,by have:=h.2.2;omega⟩
theorem acr(cl:Int):∀(t:Bs)(n:Nat)(o:J (J aB)×J aB),GI n o->GI (n+Ts t) (t.foldl (mw cl) o)
 | [],n,o,h=>h|b::t,n,o,h=>by
  have h2:GI (n+1) (mw cl o b):=by
   obtain⟨h1,h2,h3⟩:=h;unfold mw;cases (b==47)
   ·refine⟨λc hc=>⟨(h1 c hc).1,by have:=(h1 c hc).2;omega⟩,λr hr=>?_,aQ⟩;rcases mX.1 hr with hr|hr
    ·exact h2 r hr
    ·obtain rfl:=qj.1 hr;rfl
   ·refine⟨λc hc=>?_,λr hr=>(by cases hr),si⟩;rcases mX.1 hc with hc|hc
    ·exact⟨(h1 c hc).1,by have:=(h1 c hc).2;omega⟩
    ·obtain rfl:=qj.1 hc;exact⟨h2,om⟩
  have:=acr cl t (n+1) _ h2;rwa [show n+1+Ts t=n+Ts (b::t) by simp;omega]at this
theorem arB:∀(l:J aB)(n:Nat)(o:J (J aB)×J aB),GI n o->GI (n+bV l) (l.foldl wk o)
 | [],n,o,h=>h|r::l,n,o,h=>by
  have h2:GI (n+Ts r.fText) (wk o r):=by
   unfold wk;cases (r.aI != 0&&(r.aI != 1&&r.aI != 2))
   ·exact acr _ _ _ _ h
   ·exact h.up om
  have:=arB l _ _ h2;rwa [show n+Ts r.fText+bV l=n+bV (r::l) by simp[bV];omega]at this
theorem akg(l:J aB):∀c∈rK l,bV c=Ts c/\c.length<=bV l:=by
 have h:=arB l 0 ([],[]) ⟨λc hc=>(by cases hc),λr hr=>(by cases hr),si⟩;rw[rS]at h;intro c hc;rcases mX.1 hc with hc|hc
 ·exact⟨ahE (h.1 c hc).1,(h.1 c hc).2⟩
 ·obtain rfl:=qj.1 hc;exact⟨ahE h.2.1,h.2.2⟩
theorem uX{d:J Bs}(hd:Names d)(c:Bs):gH (pathOf d) c=pathOf (d++[c]):=by rw[SZ hd];unfold gH;grind
