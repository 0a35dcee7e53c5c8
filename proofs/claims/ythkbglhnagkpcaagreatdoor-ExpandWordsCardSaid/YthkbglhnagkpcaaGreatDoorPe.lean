import Derived.Test.YthkbglhnagkpcaaGreatDoorZ2
open Go.Op renaming bytesLess->pD
open Go.Lib renaming indexByte->lO
open UInt8 renaming ofNat->lL
open Nat renaming ble->iO,blt->bY
open Option renaming some->iN,none->iF
open Bool renaming true->eQ,false->eK
open Decidable renaming decide->eJ
open Int renaming toNat->eI
open Go.IntKind renaming wrap->dE
open List renaming range->aT,replicate->W0,length->Sx
set_option linter.all false
namespace Go.Proofs.YthkbglhnagkpcaaGreatDoor
open Go.RT
def cq:Bs->J Bs
 | []=>[[]]|b::l=>cond (b==47) ([]::cq l) (match cq l with
  | []=>[[b]]|p::ps=>(b::p)::ps)
theorem rz(l:Bs):cq l≠[]:=by cases l with|nil=>simp[cq]|cons b l=>unfold cq;grind
theorem JT(l:Bs):(cq l).length<=Sx l+1:=by
 induction l with|nil=>simp[cq]|cons b l ih=>unfold cq;grind
theorem aaS(l:Bs):∀p∈cq l,Sx p<=Sx l:=by
 induction l with|nil=>intro p hp;simp[cq]at hp;subst hp;simp|cons b l ih=>intro p hp;unfold cq at hp;grind
theorem Qf:∀(l:Bs),Lib.splitK [47] 0 (l.count 47) l=cq l
 | []=>rfl|b::l=>by
  have ih:=Qf l;by_cases hb:b=47
  .subst hb;have hc:((47:UInt8)::l).count 47=l.count 47+1:=by simp
   have hi:Lib.index ((47:UInt8)::l) [47]=0:=by rw[Lib.index_one];simp[lO]
   rw[hc,Lib.splitK,hi];simp only[show((0:Int) == -1)=eK from rfl];simp[cq,ih]
  .have ZT:(b==47)=eK:=by simpa using hb
   have hc:(b::l).count 47=l.count 47:=by simp[List.count_cons,ZT]
   have hi:Lib.index (b::l) [47]=if Lib.index l [47] == -1 then -1 else Lib.index l [47]+1:=by rw[Lib.index_one,Lib.index_one,lO];simp[hb]
   rw[hc];unfold cq;rw[ZT,aI,<-ih];cases hk:l.count 47 with
   | zero=>simp[Lib.splitK]|succ k=>
    rw[Lib.splitK,Lib.splitK,hi];by_cases hm:Lib.index l [47]=-1
    .rw[hm];simp
    .have hge:0<=Lib.index l [47]:=by have:=Lib.indexByte_ge l 47;rw[Lib.index_one]at hm⊢;omega
     have e1:(Lib.index l [47] == -1)=eK:=by simpa using hm
     have e2:((Lib.index l [47]+1) == -1)=eK:=by simp;omega
     have e3:(Lib.index l [47]+1).toNat=(Lib.index l [47]).toNat+1:=om;rw[e1];simp only[MZ,PU];rw[e2];simp only[MZ,PU,e3,PJ,abB];rw[List.take_succ_cons,show(Lib.index l [47]).toNat+1+1=((Lib.index l [47]).toNat+1)+1 from rfl,List.drop_succ_cons]
theorem UK(F:Nat)(s:Bs)(h:Sx s<4294967281):Im F s [47]=iN (cq s):=by unfold Im;rw[cy (by rw[eT h];rfl),Lib.splitB_data];congr 1;rw[<-Qf];congr 1;show Lib.countB _ _=_;unfold Lib.countB;exact Lib.count_one 47 s
theorem ZX:∀(l:Bs)(n:Nat),(∀j,j<n->l.getD j 0≠47)->n<Sx l->l.getD n 0=47->cq l=l.take n::cq (l.drop (n+1))
 | [],n,_,h,_=>by simp at h|b::l,0,_,_,h=>by
  have hb:b=47:=by simpa using h
  subst hb;simp[cq]
 | b::l,n+1,h0,h1,h2=>by
  have hb:(b==47)=eK:=by have:=h0 0 om;simpa using this
  have ih:=ZX l n (λj hj=>by
   grind) (by simpa using h1) (by simpa using h2)
  rw[cq,hb,ih];simp
theorem VW:∀(l:Bs),(∀j,j<Sx l->l.getD j 0≠47)->cq l=[l]
 | [],_=>rfl|b::l,h0=>by
  have hb:(b==47)=eK:=by have:=h0 0 si;simpa using this
  have ih:=VW l (λj hj=>by
   have:=h0 (j+1) (by simpa using hj);simpa using this)
  unfold cq;rw[hb,aI,ih]
variable{α:Type}
theorem apU(l:J α)(f k:Nat):sl l (f:Int) (k:Int)=(l.take k).drop f:=by simp[sl]
theorem SL(l:J α)(f:Nat):sl l (f:Int) (Sx l:Int)=l.drop f:=by simp[sl]
def acu(l:J α):sl l 1 (Sx l:Int)=l.drop 1:=SL l 1
theorem SM(l:J α)(k:Nat):sl l 0 (k:Int)=l.take k:=by simp[sl]
theorem akl(F:Nat)(s:Bs)(hF:Sx s<F)(hs:Sx s<1000000000):K2 F s=iN (cq s):=by
 refine bW (λx=>∃f k:Nat,x.2.1=(f:Int)/\x.2.2=(k:Int)/\f<=k/\k<=Sx s/\x.1.length<=f/\x.1++cq (s.drop f)=cq s/\∀j,f<=j->j<k->s.getD j 0≠47) (λx=>Sx s-x.2.2.toNat) ?_ F _ ⟨0,0,rfl,rfl,om,om,si,si,λj _ hj=>om⟩ (by simpa using hF);rintro⟨o,fr,ii⟩ ⟨f,k,h0,h0',h1,h2,h3,h4,h5⟩;dsimp only at h0 h0' h3 h4 h5⊢;subst h0 h0';by_cases hk:k<Sx s
 .left;have hg:s.getD k 0=s[k]:=gd hk;cases hb:(s[k]==47)with
  | true=>
   refine⟨(o++[sl s (f:Int) (k:Int)],((k+1:Nat):Int),((k+1:Nat):Int)),⟨k+1,k+1,rfl,rfl,om,om,aM,?_,λj h h'=>om⟩,aM,λrc=>?_⟩
   .have hc:=ZX (s.drop f) (k-f) (λj hj=>by
     have:=h5 (f+j) om om
     simp_all)
    grind[List.drop_drop,apU,List.take_drop]
   .rw[b9 om,bX om om,bN,hg,oP _ 47 om,hb,aQ,vO om om om,bX aM aM,bM om]
  | false=>
   refine⟨(o,(f:Int),((k+1:Nat):Int)),⟨f,k+1,rfl,rfl,om,om,h3,h4,λj h h'=>?_⟩,aM,λrc=>?_⟩
   .grind
   .rw[b9 om,bX om om,bN,hg,oP _ 47 om,hb,aI,bM om]
 .right;obtain rfl:k=Sx s:=om;intro rc;rw[cf om,vO om om om,bX aM aM,<-h4,SL,VW];simp_all
def zI(b:UInt8):Bool:=b==47||b==0
def ld(s:Bs):Bool:=(eJ (1<=Sx s)&&eJ (Sx s<=32))&&(!(s==[46])&&(!(s==[46,46]) && !(s.any zI)))
theorem amF(F:Nat)(s:Bs)(hF:Sx s<F)(hs:Sx s<1000000000000):GL F s=iN (ld s):=by
 unfold GL wx;rw[oQ s (λi=>(i:Int)) zI (λ_ _=>iN eK) (iN eQ) hF (by rfl) (λi h rc=>?_) (λrc=>?_),DP]
 .simp[aG];have e1:(eJ ((Sx s:Int)<1)||decide (32<(Sx s:Int)))=!(eJ (1<=Sx s)&&eJ (Sx s<=32)):=by grind
  unfold ld;grind
 .rw[b9 om,bX om om,bX om om,bN,gd h,oP _ 47 om,oP _ 0 om,aG,bM om];rfl
 .rw[cf om]
set_option maxRecDepth 100000 in
theorem arH(F r:Nat)(hr:128<=r)(hF:4<=F):kf F [47,0] (r:Int)=iN (-1):=by
 unfold kf wx;rw[dT om,dF om];simp only[aQ,aC,aI];cases h1:((r:Int)==65533)with
 | true=>
  simp only[aQ];obtain⟨F,rfl⟩:∃G,F=G+4:=⟨F-4,om⟩;have e0:dec ([47,0]:Bs) 0=(47,1):=by rw[Bj de];rfl
  have e1:dec ([47,0]:Bs) 1=(0,1):=by rw[Bj de];rfl
  simp[ck,e0,e1,bY];rw[show iO 1 2=eQ from rfl,show iO 2 2=eQ from rfl,show iO 3 2=eK from rfl];rfl
 | false=>
  simp only[aI];have hv:tX F (r:Int)=iN eQ\/tX F (r:Int)=iN eK:=by unfold tX wx;cases eJ (0<=(r:Int))<;>cases eJ ((r:Int)<55296)<;>cases eJ (57343<(r:Int))<;>cases eJ ((r:Int)<=1114111)<;>simp
  rcases hv with hv|hv
  .rw[hv];simp only[aC,fU,aI];obtain⟨h2,h3,h4⟩:=afm hr;have hn:aE ((Sx (nM (r:Int)):Int)-1)=((Sx (nM (r:Int))-1:Nat):Int):=vi om om;obtain⟨F,rfl⟩:∃G,F=G+1:=⟨F-1,om⟩;rw[hn];simp only[ck];by_cases e:(nM (r:Int)).length=2
   .have hx:((([47,0]:Bs).getD 1 0).toNat:Int)≠((((nM (r:Int)).getD 1 0).toNat:Int)):=by rw[e,show 2-1=1 from rfl]at h4;have:(([47,0]:Bs).getD 1 0).toNat=0:=rfl;omega
    rw[e];have hx':(((([47,0]:Bs).getD (eI ((2-1:Nat):Int)) 0).toNat:Int) != (((nM (r:Int)).getD (eI ((2-1:Nat):Int)) 0).toNat:Int))=eQ:=by simpa using hx
    have hw:aE (((2-1:Nat):Int)+1)=((2:Nat):Int):=by rw[bQ om];rfl
    have OB:sl ([47,0]:Bs) ((2:Nat):Int) ((Sx ([47,0]:Bs):Nat):Int)=[]:=rfl;rw[hx',hw,OB];rw[b9 si,bX si si,bX si si,aQ,vO si si si,bX si si];unfold strings_IndexByte stringslite_IndexByte sR ZQ wx;simp only[lO,aC];rw[b9 de];rfl
   .rw[cf (by simp only[sB,H9];omega)]
  .rw[hv];simp only[aC,nu,aQ]
theorem amG(F r:Nat)(hr:r<128):∃x,kf F [47,0] (r:Int)=iN x/\eJ (0<=x)=zI (lL r):=by
 unfold kf strings_IndexByte stringslite_IndexByte sR ZQ wx;rw[dT om,dT om];simp only[aQ,aC];refine⟨_,rfl,?_⟩;have hw:(dE .u8 (r:Int)).toNat.toUInt8=lL r:=by
  have:dE .u8 (r:Int)=(r:Int):=by show((r:Int)%256)=r;omega
  rw[this];rfl
 rw[hw];generalize lL r=b;simp only[lO,zI];by_cases h1:b=47
 .subst h1;rfl
 .by_cases h2:b=0
  .subst h2;rfl
  .have e1:(b==47)=eK:=by simpa using h1
   have e2:(b==0)=eK:=by simpa using h2
   have e3:¬ (47:UInt8)=b:=λh=>h1 h.symm;have e4:¬ (0:UInt8)=b:=λh=>h2 h.symm;simp[e1,e2,e3,e4]
theorem arI(l:Bs):eJ (0<=Lib.indexAny l [47,0])=l.any zI:=by
 induction l with
 | nil=>rfl|cons b l ih=>
  have hge:=Lib.indexAny_ge [47,0] l;unfold Lib.indexAny;have hc:([47,0]:Bs).contains b=zI b:=by simp[zI,List.contains,List.elem];cases (b==47)<;>cases (b==0)<;>rfl
  rw[hc,List.any_cons];cases hb:zI b with
  | true=>simp|false=>
   simp only[MZ,PU,PO];rw[<-ih];by_cases h:Lib.indexAny l [47,0]=-1
   .rw[h];rfl
   .have:(Lib.indexAny l [47,0] == -1)=eK:=by simpa using h
    rw[this];simp only[MZ,PU];rw[tW];simp only[fO];omega
theorem amH(F:Nat)(s:Bs)(hs:Sx s<=8)(hF:10<=F):∃x,strings_IndexAny F s [47,0]=iN x/\eJ (0<=x)=s.any zI:=by
 have key:∀(n p G:Nat),Sx s-p<=n->p<=Sx s->n<G->(∀j,j<p->zI (s.getD j 0)=eK)->∃x,ck (σ:=Bs×Int) (R:=Int) (λzL x4=>
  cond (bY (eI x4.2) x4.1.length)
  ((kf F [47,0] ((dec x4.1 (eI x4.2)).1:Int)).bind λx6=>
  cond (eJ (0<=x6))
  (iN (((eI x4.2):Nat):Int))
  (zL (x4.1,((((eI x4.2)+(dec x4.1 (eI x4.2)).2):Nat):Int))))
  (iN (-1))) G (s,((p:Nat):Int))=iN x/\eJ (0<=x)=s.any zI:=by
  intro n
  induction n with
  | zero=>
   intro p G h1 h2 h3 h4;obtain rfl:p=Sx s:=om;obtain⟨G,rfl⟩:∃H,G=H+1:=⟨G-1,om⟩;refine⟨-1,?_,?_⟩
   .simp only[ck,bN];rw[atS om];rfl
   .have:s.any zI=eK:=by rw[List.any_eq_false];intro b hb;obtain⟨j,hj,rfl⟩:=ko hb;have:=h4 j hj;rw[gd hj]at this;simp[this]
    rw[this];rfl
  | succ n ih=>
   intro p G h1 h2 h3 h4;obtain⟨G,rfl⟩:∃H,G=H+1:=⟨G-1,om⟩;by_cases hp:p<Sx s
   .simp only[ck,bN];rw[atT hp,aQ];by_cases ha:(s.getD p 0).toNat<128
    .rw[Bj ha];obtain⟨x,hx,hx2⟩:=amG F _ ha;have hof:lL (s.getD p 0).toNat=s.getD p 0:=by simp
     rw[hof]at hx2;rw[show(((s.getD p 0).toNat,1):Nat×Nat).1=(s.getD p 0).toNat from rfl,hx,aC,hx2];cases hb:zI (s.getD p 0)with
     | true=>
      refine⟨(p:Int),rfl,?_⟩;have:s.any zI=eQ:=by rw[UB];exact⟨s[p],fW hp,by rw[<-gd hp];exact hb⟩
      rw[this,dT om]
     | false=>
      rw[aI]
      exact ih (p+1) G om om om (λj hj=>by
       by_cases e:j=p
       .subst e;exact hb
       .exact h4 j om)
    .obtain⟨d1,d2,d3,d4⟩:=amI ha;rw[arH F _ d1 om,aC];rw[cf om];have:=d3 hp
     exact ih (p+(dec s p).2) G om om om (λj hj=>by
      by_cases e:j<p
      .exact h4 j e
      .have h:=d4 (j-p) om;rw[show p+(j-p)=j by omega]at h;unfold zI;have e1:(s.getD j 0==47)=eK:=by simp only[eG,ne_eq];intro e;rw[e]at h;exact absurd h de
       have e2:(s.getD j 0==0)=eK:=by simp only[eG,ne_eq];intro e;rw[e]at h;exact absurd h de
       rw[e1,e2];rfl)
   .obtain rfl:p=Sx s:=om;exact ih s.length (G+1) om om om h4
 obtain⟨x,h1,h2⟩:=key s.length 0 F om om om (λj hj=>om);refine⟨x,?_,h2⟩;unfold strings_IndexAny strings_shouldUseASCIISet wx;rw[show(([47,0]:Bs)==[])=eK from rfl,aI,show(((Sx ([47,0]:Bs):Nat):Int)==1)=eK from rfl,aI];simp only[aC];rw[cf om];exact h1
theorem atU(F:Nat)(s:Bs)(hs:Sx s<=32)(hF:10<=F):strings_ContainsAny F s [47,0]=iN (s.any zI):=by
 unfold strings_ContainsAny ach wx;by_cases h8:Sx s<=8
 .obtain⟨x,h1,h2⟩:=amH F s h8 hF;rw[abr h8,aQ,h1,aC,h2]
 .have:iO s.length 8=eK:=by
   cases h:iO s.length 8
   .rfl
   .exact absurd (lY h) h8
  rw[this,aI,cy,aC,arI];rw[dT om];rfl
theorem agx(F:Nat)(s:Bs)(hF:10<=F):xM F s=iN (ld s):=by
 unfold xM wx;simp only[aG,aC,cF];have e1:(eJ (1<=(Sx s:Int))&&eJ ((Sx s:Int)<=32))=(eJ (1<=Sx s)&&eJ (Sx s<=32)):=by rw[tW];simp only[cH,fO];omega
 rw[e1];unfold ld;cases h1:(eJ (1<=Sx s)&&eJ (Sx s<=32))
 .rfl
 .simp only[cH,fO]at h1;rw[atU F s h1.2 hF];cases (s==[46])<;>cases (s==[46,46])<;>rfl
def gm(s:Bs):Bool:=s==[47]||((eJ (2<=Sx s)&&eJ (Sx s<=128))&&(s.getD 0 0==47&&(cq (s.drop 1)).all ld))
theorem ZY(p:J Bs):cond (p.any λn=>!ld n) (iN eK) (iN eQ)=iN (p.all ld):=by grind
theorem Nb(F:Nat)(s:Bs)(hF:200<=F):rA F s=iN (gm s):=by
 unfold rA gm wx;cases h1:(s==[47])with
 | true=>rfl|false=>
  simp only[aI,aG,aC,cT];by_cases h2:2<=Sx s/\s.length<=128
  .rw[dF om,dF om,Bool.or_self,aI,jP om,aC,VR _ 47 om,dT h2.1,dT h2.2];cases h3:(s.getD 0 0==47)with
   | false=>rfl|true=>
    rw[fU,bX om om,acu,akl F _ aM aM,aC];have hl:=JT (s.drop 1);have hm:=aaS (s.drop 1);simp only[BL]at hl hm;rw[oQ (cq (s.drop 1)) (λi=>(i:Int)) (λn=>!ld n) (λ_ _=>iN eK) (iN eQ) om (by rfl) (λi h rc=>?_) (λrc=>?_),DP,ZY]
    .rfl
    .have:=hm _ (fW h);rw[b9 om,bX om om,bN,gd h,amF F _ om om,aC,bM om]
    .rw[cf om]
  grind
theorem akm(F:Nat)(s p:Bs):cC F s p=iN (eJ (Sx p<=Sx s)&&s.take p.length==p):=by
 unfold cC kH wx;by_cases h:Sx p<=Sx s
 .rw[b9 om,bX om om,dT h,SM];rfl
 .rw[dF om,dF h];rfl
theorem agy(F:Nat)(s:Bs)(hF:200<=F):xN F s=iN (gm s):=by
 unfold xN gm wx;cases h1:(s==[47])with
 | true=>rfl|false=>
  have hne:s≠[47]:=by simpa using h1
  simp only[aI,PO];rw[akm];simp only[aC,aG,cT];by_cases h2:2<=Sx s/\s.length<=128
  .rw[dF om,PO,dT h2.1,dT h2.2];have e:(eJ (Sx ([47]:Bs)<=Sx s)&&s.take ([47]:Bs).length==[47])=(s.getD 0 0==47):=by rw[dT aM];cases s with|nil=>simp at h2|cons b l=>simp
   rw[e];cases h3:(s.getD 0 0==47)with
   | false=>rfl|true=>
    rw[fU,aI,bX om om,acu,UK F _ aM];simp only[aC];have hl:=JT (s.drop 1);simp only[BL]at hl;rw[oQ (cq (s.drop 1)) (λi=>(i:Int)) (λn=>!ld n) (λ_ _=>iN eK) (iN eQ) om (by rfl) (λi h rc=>?_) (λrc=>?_),DP,ZY]
    .rfl
    .rw[b9 om,bX om om,bN,gd h,agx F _ om,aC,bM om]
    .rw[cf om]
  .have h3:(eJ (2<=Sx s)&&eJ (Sx s<=128))=eK:=by rw[VI];simp only[ahB];omega
   rw[h3];have:(eJ (128<(Sx s:Int)) || !(eJ (Sx ([47]:Bs)<=Sx s)&&s.take ([47]:Bs).length==[47]))=eQ:=by
    by_cases h4:128<Sx s
    .rw[dT om];rfl
    .have h5:Sx s<2:=om;rw[KW,wL,VI];right
     match s,h5 with|[],_=>left;rfl|[b],_=>right;simp at hne⊢;exact hne
   rw[this];rfl
def p7(s:Bs):Nat:=(Lib.lastIndexByte ⟨⟨s⟩⟩ 47).toNat
def ic(s:Bs):Bs:=cond (p7 s==0) [47] (s.take (p7 s))
theorem b47(b:UInt8):((b.toNat:Int)=47)↔b=47:=by have:=oP b 47 om;rw[tW]at this;simpa using this
theorem Nc(s:Bs):(Lib.lastIndexByte ⟨⟨s⟩⟩ 47=-1/\∀j,j<Sx s->s.getD j 0≠47) \/
  ∃i:Nat,i<Sx s/\Lib.lastIndexByte ⟨⟨s⟩⟩ 47=i/\s.getD i 0=47/\∀j,i<j->j<Sx s->s.getD j 0≠47:=by
 have h:=Lib.lastIdx_spec ⟨⟨s⟩⟩ 47 s.length;simp[b47]at h;exact h
theorem VX(s:Bs)(a:Nat)(h1:(a<Sx s/\s.getD a 0=47)\/a=0)(h2:∀j,a<j->j<Sx s->s.getD j 0≠47):p7 s=a:=by unfold p7;grind[Nc,Nat.lt_trichotomy]
theorem amJ(s:Bs):((p7 s<Sx s/\s.getD (p7 s) 0=47)\/p7 s=0)/\∀j,p7 s<j->j<Sx s->s.getD j 0≠47:=by unfold p7;grind[Nc]
theorem akn(s:Bs):p7 s<=Sx s:=by grind[amJ]
theorem agz(F:Nat)(s:Bs)(hF:Sx s<F)(hs:Sx s<1000000000):JU F s=iN (p7 s:Int):=by
 refine bW (λx=>∃a k:Nat,x.1=(a:Int)/\x.2=(k:Int)/\k<=Sx s/\((a<k/\s.getD a 0=47)\/a=0)/\∀j,a<j->j<k->s.getD j 0≠47) (λx=>Sx s-x.2.toNat) ?_ F _ ⟨0,0,rfl,rfl,om,.inr rfl,λj _ hj=>om⟩ (by simpa using hF);rintro⟨aa,ii⟩ ⟨a,k,h0,h0',h1,h2,h3⟩;subst h0 h0';by_cases hk:k<Sx s
 .left;have hg:s.getD k 0=s[k]:=gd hk;cases hb:(s[k]==47)with
  | true=>refine⟨((k:Int),((k+1:Nat):Int)),⟨k,k+1,rfl,rfl,om,.inl ⟨om,by simp_all⟩,λj h h'=>om⟩,aM,λrc=>?_⟩;rw[b9 om,bX om om,bN,hg,oP _ 47 om,hb,aQ,bM om]|false=>
   refine⟨((a:Int),((k+1:Nat):Int)),⟨a,k+1,rfl,rfl,om,?_,λj h h'=>?_⟩,aM,λrc=>?_⟩
   .grind
   .grind
   .rw[b9 om,bX om om,bN,hg,oP _ 47 om,hb,aI,bM om]
 .right;obtain rfl:k=Sx s:=om;intro rc;rw[cf om,VX s a h2 h3]
theorem Nf(F:Nat)(s:Bs)(hF:Sx s<F)(hs:Sx s<1000000000):ue F s=iN (ic s):=by
 unfold ue ic wx;rw[agz F s hF hs,aC];have:=akn s;by_cases h:p7 s=0
 .rw[h];rfl
 .have e1:((p7 s:Int)==0)=eK:=by simpa using h
  have e2:(p7 s==0)=eK:=by simpa using h
  rw[e1,e2,aI,aI,bX om om,SM]
theorem amK(F:Nat)(s:Bs)(hF:Sx s<F)(hs:Sx s<1000000000)(h0:p7 s<Sx s):GM F s=iN (s.drop (p7 s+1)):=by unfold GM wx;rw[agz F s hF hs,aC,bM om,vO om om om,SL]
theorem ako(F:Nat)(s:Bs)(hs:Sx s<1000000000):UL F s 47=iN (Lib.lastIndexByte ⟨⟨s⟩⟩ 47):=by grind[UL,jP]
theorem ZZ(F:Nat)(s:Bs)(hs:Sx s<1000000000):B0 F s=iN (ic s):=by
 unfold B0 ic wx;rw[ako F s hs,aC];have hc:=akn s;unfold p7 at *;rcases Nc s with⟨e,h⟩|⟨i,hi,e,h3,h4⟩
 .rw[e];rfl
 .rw[e]at hc⊢;by_cases h:i=0
  .subst h;rfl
  .have e2:(((i:Int).toNat)==0)=eK:=by simpa using h
   rw[cf om,bX om om,e2];rfl
def JV(p:Bs)(f:aN):Bool:=f.bJ==p
def gy(l:J aN)(p:Bs):O aN:=l.find? (JV p)
def K3(l:J aN)(p:Bs):Bool:=l.any (JV p)
theorem find_eq(F:Nat)(l:J aN)(p:Bs)(hF:Sx l<F)(hl:Sx l<1000000000):sX F l p=iN ((gy l p).elim (aN.mk [] eK [],eK) λf=>(f,eQ)):=by
 unfold sX wx;rw[oQ l (λi=>(i:Int)) (JV p) (λ_ f=>iN (f,eQ)) (iN (aN.mk [] eK [],eK)) hF (by rfl) (λi h rc=>?_) (λrc=>?_),JQ]
 .unfold gy;cases l.find? (JV p)<;>rfl
 .rw[b9 om,bX om om,bN,gd h,bM om];rfl
 .rw[cf om]
def fiS(l:J aN)(p:Bs):Int:=(l.findIdx? (JV p)).elim (-1) λj=>(j:Int)
theorem UM(F:Nat)(l:J aN)(p:Bs)(hF:Sx l<F)(hl:Sx l<1000000000):yU F l p=iN (fiS l p):=by
 unfold yU fiS wx;rw[oQ l (λi=>(i:Int)) (JV p) (λi _=>iN (i:Int)) (iN (-1)) hF (by rfl) (λi h rc=>?_) (λrc=>?_),UN _ _ _ cj]
 .cases l.findIdx? (JV p)<;>simp
 .rw[b9 om,bX om om,bN,gd h,bM om];rfl
 .rw[cf om]
theorem akp(l:J aN)(p:Bs):(l.findIdx? (JV p)=iF/\gy l p=iF/\K3 l p=eK)\/∃j,j<Sx l/\l.findIdx? (JV p)=iN j/\gy l p=iN (l.getD j cj)/\K3 l p=eQ:=by
 unfold gy K3
 induction l with|nil=>simp_all|cons f l ih=>grind
theorem Ip(l:J aN)(p:Bs):(fiS l p=-1/\gy l p=iF/\K3 l p=eK)\/∃j:Nat,j<Sx l/\fiS l p=(j:Int)/\gy l p=iN (l.getD j cj)/\K3 l p=eQ:=by unfold fiS;grind[akp]
theorem acv(F:Nat)(l:J aN)(p:Bs)(hF:Sx l<F)(hl:Sx l<1000000000):B1 F l p=iN ((gy l p).elim (aN.mk [] eK [],eK) λf=>(f,eQ)):=by
 unfold B1 wx;rw[UM F l p hF hl,aC];rcases Ip l p with⟨h1,h2,-⟩|⟨j,h0,h1,h2,-⟩
 .rw[h1,h2];rfl
 .rw[h1,h2,cf om,bX om om];rfl
def B2(a p:Bs):Bool:=cond (a==[47]) (!(p==[47])) (eJ (Sx a+1<=Sx p)&&p.take (Sx a+1)==a++[47])
theorem akq(F:Nat)(a p:Bs):Ev F a p=iN (B2 a p):=by
 unfold Ev B2 wx;cases (a==[47])
 .by_cases h:Sx a+1<=Sx p
  .have hl:Sx a<Sx p:=om;rw[b9 om,bX om om,SM,aC,dT h];have e:(p.take (Sx a+1)==a++[47])=(p.take a.length==a&&p.getD a.length 0==47):=by rw[ku hl];grind[List.append_inj]
   rw[e];cases (p.take a.length==a)
   .rfl
   .rw[bX om om,oP _ 47 om];rfl
  grind
 .rfl
def JW(l:J aN)(p:Bs):Int:=cond (l.any λf=>!f.kQ&&B2 f.bJ p) 18 (cond (K3 l (ic p)) 0 8)
theorem amL(F:Nat)(l:J aN)(p:Bs)(hF:Sx l<F)(hl:Sx l<1000000000)(hp:Sx p<1000000000)(hpF:Sx p<F):B3 F l p=iN (JW l p):=by
 unfold B3 wx;rw[oQ l (λi=>(i:Int)) (λf=>!f.kQ&&B2 f.bJ p) (λ_ _=>iN 18) (iN (cond (K3 l (ic p)) 0 8)) hF (by rfl) (λi h rc=>?_) (λrc=>?_),DP,aG]
 .rfl
 .rw[bX om om,bX om om,bN,akq F _ _,bM om];grind
 .rw[cf om,Nf F p hpF hp,aC,UM F l _ hF hl];rcases Ip l (ic p)with⟨h1,h2,h3⟩|⟨j,h0,h1,h2,h3⟩
  .rw[h1,h3];rfl
  grind
def OG(l:J aN)(k:Nat):Int:=
 cond (!gm (l.getD k cj).bJ) 10
 (cond (((l.getD k cj).kQ && !((l.getD k cj).fData==[]))||((l.getD k cj).bJ==[47] && !(l.getD k cj).kQ)) 1
 (cond (eJ (8192<(l.getD k cj).fData.length)) 3
 (cond (eJ (0<k)&&(pD (l.getD k cj).bJ (l.getD (k-1) cj).bJ||(l.getD k cj).bJ==(l.getD (k-1) cj).bJ)) 25
 (cond (eJ (0<k)) (JW (l.take k) (l.getD k cj).bJ) 0))))
def Z0(l:J aN):Nat->Nat->Int|0,_=>0|n+1,k=>cond (OG l k==0) (Z0 l n (k+1)) (OG l k)
def iW(l:J aN):Int:=cond (eJ (128<Sx l)) 4 (cond (Sx l==0 || !((l.getD 0 cj).bJ==[47])) 8 (Z0 l l.length 0))
def Qg(l:J aN):Prop:=Sx l<=140/\∀f∈l,Sx f.bJ<=300/\f.fData.length<=9000
theorem Qg.at{l:J aN}(h:Qg l)(k:Nat):(l.getD k cj).bJ.length<=300/\(l.getD k cj).fData.length<=9000:=by
 by_cases hk:k<Sx l
 .rw[gd hk];exact h.2 _ (fW hk)
 .have:l.getD k cj=cj:=by simp_all
  rw[this];exact⟨by decide,by decide⟩
theorem atV(l:J aN):(cond ((Sx l:Int)==0)
 (iN eQ)
 (rq (eJ (0<(Sx l:Int))) (iN (!(((l.getD 0 cj).bJ)==([47]:Bs))))):O Bool)=iN (Sx l==0 || !((l.getD 0 cj).bJ==[47])):=by
  cases l with
  | nil=>rfl|cons f l=>
   have e1:(((Sx (f::l):Nat):Int)==0)=eK:=by simp;omega
   have e2:(Sx (f::l)==0)=eK:=by simp
   rw[e2,jP si];rfl
theorem amM(l:J aN)(k:Nat)(r:O Int):cond (!gm (l.getD k cj).bJ) (iN 10)
 (cond (((l.getD k cj).kQ && !((l.getD k cj).fData==[]))||((l.getD k cj).bJ==[47] && !(l.getD k cj).kQ)) (iN 1)
 (cond (eJ (8192<(l.getD k cj).fData.length)) (iN 3)
 (cond (eJ (0<k)&&(pD (l.getD k cj).bJ (l.getD (k-1) cj).bJ||(l.getD k cj).bJ==(l.getD (k-1) cj).bJ)) (iN 25)
 (cond (eJ (0<k)) (cond (JW (l.take k) (l.getD k cj).bJ != 0) (iN (JW (l.take k) (l.getD k cj).bJ)) r) r))))=cond (OG l k==0) r (iN (OG l k)):=by
 unfold OG;grind
theorem atW{l:J aN}{body:(Int->O Int)->Int->O Int}(F:Nat)(hF:Sx l<F)(hs:∀(k:Nat) rc,k<Sx l->body rc (k:Int)=cond (OG l k==0) (rc ((k+1:Nat):Int)) (iN (OG l k)))(he:∀rc,body rc (Sx l:Int)=iN 0):ck body F 0=iN (Z0 l l.length 0):=by
 refine bW (λx=>∃k n:Nat,x=(k:Int)/\k+n=Sx l/\Z0 l n k=Z0 l l.length 0) (λx=>Sx l-x.toNat) ?_ F _ ⟨0,Sx l,rfl,om,rfl⟩ (by simpa using hF);rintro x ⟨k,n,rfl,h1,h2⟩;cases n with
 | zero=>right;obtain rfl:k=Sx l:=om;intro rc;rw[he,<-h2];rfl
 | succ n=>rw[Z0]at h2;cases hv:(OG l k==0)with|true=>left;rw[hv]at h2;exact⟨_,⟨k+1,n,rfl,om,h2⟩,aM,λrc=>by grind⟩|false=>grind
theorem arJ(l:J aN)(k:Nat)(hk:k<Sx l)(hl:Sx l<1000000000):(cond (eJ (0<(k:Int)))
 (rq ((eJ (0<=aE ((k:Int)-1)))&&(eJ (aE ((k:Int)-1)<(Sx l:Int)))) (iN (pD ((l.getD k cj).bJ) ((l.getD (eI (aE ((k:Int)-1))) cj).bJ)||((l.getD k cj).bJ)==((l.getD (eI (aE ((k:Int)-1))) cj).bJ))))
 (iN eK):O Bool)=iN (eJ (0<k)&&(pD (l.getD k cj).bJ (l.getD (k-1) cj).bJ||(l.getD k cj).bJ==(l.getD (k-1) cj).bJ)):=by
  by_cases h0:0<k
  .rw[b9 om,vi om h0,bX om om,bN,dT h0,Ib]
  simp_all
theorem avg(k:Nat):eJ (0<(k:Int))=eJ (0<k):=by simp_all
theorem amN(n k:Nat):eJ ((k:Int)<(n:Int))=eJ (k<n):=by simp_all
theorem akr(F:Nat)(l:J aN)(hF:400<=F)(h:Qg l):Ew F l=iN (iW l):=by
 have hl:=h.1;unfold Ew iW wx;rw[show eJ (128<(Sx l:Int))=eJ (128<Sx l)from amN _ 128,atV];cases eJ (128<Sx l)with
 | true=>rfl|false=>
  cases (Sx l==0 || !((l.getD 0 cj).bJ==[47]))with
  | true=>rfl|false=>
   refine atW F om (λk rc hk=>?_) (λrc=>?_)
   .rw[b9 om,bX om om,bN,Nb F _ om,arJ l k hk om];simp only[aG,cF,aC,cT];rw[show eJ (8192<(((l.getD k cj).fData.length:Nat):Int))=eJ (8192<(l.getD k cj).fData.length)from amN _ 8192,avg,bX om om,SM];have:=(h.at k).1;rw[amL F (l.take k) _ aM aM om om,aC,bM om,<-amM]
   .rw[cf om]
theorem amO(F:Nat)(l:J aN)(hF:200<=F):∃b,(b=eQ->Qg l)/\K4 F l=iN b:=by
 refine yV (λb=>b=eQ->Qg l) (λx=>∃n k:Nat,x.1=(n:Int)/\x.2=(k:Int)/\k<=Sx l/\k<=140/\n<=10000*k/\∀f∈l.take k,Sx f.bJ<=300/\f.fData.length<=9000) (λx=>140-x.2.toNat) ?_ F _ ⟨0,0,rfl,rfl,om,om,om,si⟩ aM;rintro⟨nn,ii⟩ ⟨n,k,h0,h0',h1,h2,h3,h4⟩;subst h0 h0';simp only[aG,cF,aC];by_cases hc:k<Sx l/\k<140/\n<40000
 .have hk:=hc.1;have e:((eJ ((k:Int)<(Sx l:Int))&&eJ ((k:Int)<140))&&eJ ((n:Int)<40000))=eQ:=by grind
  rw[e];simp only[aQ,bN,gd hk];by_cases hb:l[k].bJ.length<=300/\l[k].fData.length<=9000
  .left;refine⟨(((n+l[k].bJ.length+l[k].fData.length:Nat):Int),((k+1:Nat):Int)),⟨_,k+1,rfl,rfl,om,om,om,λf hf=>?_⟩,aM,λrc=>?_⟩
   .grind[List.take_succ_eq_append_getElem,List.mem_singleton]
   .grind[bQ,bX]
  .right;refine⟨eK,λh=>(by cases h),λrc=>?_⟩;rw[bX om om];by_cases hp:l[k].bJ.length<=300
   .rw[cf om,bX om om,dT om];rfl
   grind
 .have e:((eJ ((k:Int)<(Sx l:Int))&&eJ ((k:Int)<140))&&eJ ((n:Int)<40000))=eK:=by grind
  right;rw[e];refine⟨_,λh=>?_,λrc=>rfl⟩;simp only[cH,fO]at h;refine⟨om,λf hf=>h4 f ?_⟩;grind
variable{l:J Bs}
theorem amP(h:l.Pairwise (· < ·)):pK l=l:=by
 have hn:l.Nodup:=h.imp λ{a b} hab e=>by grind
 exact LX (Qh hn) h λx=>(sY l).mem_iff
set_option maxRecDepth 100000
theorem w1:wz 60 [47,97,47,98] [46,46,47,99,47,46,47,100,47]=iN ([47,97,47,99,47,100],0):=by kernel_rfl
theorem w2:wz 60 [47] [46,46]=iN ([47],0):=by kernel_rfl
def di:J Bs->Bs|[]=>[]|[x]=>x|x::y::l=>x++47::di (y::l)
theorem join_eq:∀(l:J Bs),Lib.join l [47]=di l|[]=>rfl|[x]=>by simp[Lib.join,di]|x::y::l=>by have ih:=join_eq (y::l);simp only[Lib.join]at ih⊢;rw[di,<-ih];simp
theorem sZ(x:Bs)(h:l≠[]):di (x::l)=x++47::di l:=by cases l with|nil=>exact absurd rfl h|cons y l=>rfl
theorem B4:∀(l:J Bs)(c:Bs),l≠[]->di (l++[c])=di l++47::c|[],c,h=>absurd rfl h|[x],c,_=>rfl|x::y::l,c,_=>by have ih:=B4 (y::l) c si;rw[tq,sZ x si,ih,di];simp
theorem Ng:∀(s:Bs),di (cq s)=s
 | []=>rfl|b::l=>by
  have ih:=Ng l;rw[cq];cases hb:(b==47)with
  | true=>rw[aQ,sZ _ (rz l),ih];rw[eq_of_beq hb];rfl|false=>
   rw[aI];cases hp:cq l with
   | nil=>exact absurd hp (rz l)|cons p ps=>rw[hp]at ih;cases ps with|nil=>rw[di]at ih⊢;rw[ih]|cons q qs=>rw[di]at ih⊢;rw[tq,ih]
def p8(c:Bs):Prop:=∀b∈c,b≠47
theorem VY:∀(c:Bs),p8 c->cq c=[c]
 | [],_=>rfl|b::c,h=>by
  have hb:(b==47)=eK:=by simpa using h b si
  rw[cq,hb,aI,VY c λx hx=>h x (by simp[hx])]
theorem JX:∀(c r:Bs),p8 c->cq (c++47::r)=c::cq r
 | [],r,_=>by rw[pY];rfl|b::c,r,h=>by
  have hb:(b==47)=eK:=by simpa using h b si
  rw[tq,cq,hb,aI,JX c r λx hx=>h x (by simp[hx])]
theorem B5:∀(l:J Bs),l≠[]->(∀c∈l,p8 c)->cq (di l)=l|[],h,_=>absurd rfl h|[x],_,h=>VY x (h x si)|x::y::l,_,h=>by rw[di,JX x _ (h x si),B5 (y::l) si λc hc=>h c (by simp[hc])]
variable{c:Bs}
theorem qN(h:ld c=eQ):p8 c:=by intro b hb e;unfold ld at h;simp only[cH,wL]at h;have:=List.any_eq_false.1 h.2.2.2 b hb;subst e;exact this rfl
theorem xO(h:ld c=eQ):1<=Sx c/\c.length<=32:=by unfold ld at h;simp_all
theorem Z1(h:ld c=eQ):(c==[])=eK/\(c==[46])=eK/\(c==[46,46])=eK:=by unfold ld at h;grind
theorem join_le:∀(l:J Bs),(∀c∈l,ld c=eQ)->Sx (di l)<=33*Sx l|[],_=>by simp[di]|[x],h=>by have:=xO (h x si);simp[di];omega|x::y::l,h=>by have h1:=xO (h x si);have h2:=join_le (y::l) λc hc=>h c (by simp[hc]);rw[di];simp at h2⊢;omega
def pathOf(l:J Bs):Bs:=[47]++di l
def Names(l:J Bs):Prop:=∀c∈l,ld c=eQ
theorem Names.snoc(h:Names l)(hc:ld c=eQ):Names (l++[c]):=by
 intro x hx;rcases kZ.1 hx with hx|hx
 .exact h x hx
 simp_all
theorem Names.dropLast(h:Names l):Names l.dropLast:=λc hc=>h c (List.dropLast_subset l hc)
theorem SN(h:Names l)(hl:l≠[]):di l≠[]:=by
 match l,hl with|[x],_=>have:=xO (h x si);intro e;rw[di]at e;simp_all|x::y::l,_=>intro e;rw[di]at e;simp at e
theorem Ey(h:Names l):(pathOf l==[47])=(l==[]):=by
 cases l with
 | nil=>rfl|cons x l=>have:=SN h si;rw[show((x::l)==[])=eK from rfl];simp[pathOf];exact this
theorem TU(h:Names l)(c:Bs):pathOf (l++[c])=(cond (pathOf l==[47]) [] (pathOf l)++[47])++c:=by
 rw[Ey h];cases l with
 | nil=>rfl|cons x l=>rw[show((x::l)==[])=eK from rfl,pathOf,B4 _ _ si,pathOf];simp
theorem Nh(a c:Bs)(hc:p8 c):p7 (a++47::c)=a.length:=by
 refine VX _ _ (.inl ⟨si,si⟩) λj hj hl=>?_;have e:(a++47::c).getD j 0=c.getD (j-a.length-1) 0:=by grind
 simp at hl;rw[e,gd om];exact hc _ (fW _)
theorem K5(h:Names l)(hc:ld c=eQ):ic (pathOf (l++[c]))=pathOf l:=by
 have h47:=qN hc;cases l with
 | nil=>have:p7 (pathOf ([]++[c]))=0:=Nh [] c h47;unfold ic;rw[this];rfl|cons x l=>
  have e:pathOf ((x::l)++[c])=pathOf (x::l)++47::c:=by rw[pathOf,B4 _ _ si,pathOf];simp
  have:p7 (pathOf ((x::l)++[c]))=Sx (pathOf (x::l)):=by simp_all[Nh]
  unfold ic;have h0:(Sx (pathOf (x::l))==0)=eK:=by simp[pathOf]
  grind
theorem Iq(h:Names l):ic (pathOf l)=pathOf l.dropLast:=by
 rcases VC l with rfl|⟨l',c,rfl⟩
 .rfl
 .have hc:=h c si;have hl:Names l':=λx hx=>h x (by simp[hx]);simp_all[K5]
theorem yW{s:Bs}(h:gm s=eQ)(hr:(s==[47])=eK):Names (cq (s.drop 1))/\pathOf (cq (s.drop 1))=s/\s.length<=128/\cq (s.drop 1)≠[]:=by unfold gm at h;rw[hr,PO]at h;simp only[cH,fO,pW]at h;obtain⟨⟨h1,h2⟩,h3,h4⟩:=h;refine⟨h4,?_,h2,rz _⟩;rw[pathOf,Ng];cases s with|nil=>simp at h1|cons b s=>simp_all
theorem acw(h:Names l)(hl:(pathOf l).length<=128):gm (pathOf l)=eQ:=by
 unfold gm;cases l with
 | nil=>rfl|cons x l=>
  have hne:=SN h si;have hp:=B5 (x::l) si λc hc=>qN (h c hc);have hlen:1<=Sx (di (x::l)):=by grind
  have e1:(pathOf (x::l)).drop 1=di (x::l):=rfl;have e2:(pathOf (x::l)).getD 0 0=47:=rfl;have e3:2<=Sx (pathOf (x::l)):=by simp[pathOf];omega
  rw[e1,hp,e2,dT e3,dT hl];have:=pW.2 h;rw[this];simp
def o7:J Bs->J Bs->O (J Bs)|[],n=>iN n|c::cs,n=>cond (c==[]||c==[46]) (o7 cs n) (cond (c==[46,46]) (o7 cs n.dropLast) (cond (ld c) (o7 cs (n++[c])) iF))
def clF:O (J Bs)->Bs×Int|none=>([],10)|some n=>cond (eJ (128<Sx (pathOf n))) ([],3) (pathOf n,0)
def LY(cwd path:Bs):J Bs:=cond (!(path.getD 0 0==47) && !(cwd==[47])) (cq (cwd.drop 1)) []
def VZ(cwd path:Bs):Bs×Int:=cond (!gm cwd) ([],10) (cond (path==[]) ([],8) (clF (o7 (cq path) (LY cwd path))))
theorem afn{cwd path:Bs}(h:gm cwd=eQ):Names (LY cwd path)/\(LY cwd path).length<=200:=by
 unfold LY;cases hr:(cwd==[47])with
 | true=>rw[fU,MU];exact⟨λc hc=>(by cases hc),si⟩
 | false=>
  obtain⟨h1,h2,h3,-⟩:=yW h hr;have:=JT (cwd.drop 1);cases (path.getD 0 0==47)
  .grind
  .exact⟨λc hc=>(by cases hc),si⟩
theorem dropLast_take(n:J Bs)(h:Sx n<1000000000):n.take (eI (cond (eJ (aE ((Sx n:Int)-1)<0)) 0 (aE ((Sx n:Int)-1))))=n.dropLast:=by
 rw[List.dropLast_eq_take];by_cases h0:Sx n=0
 .rw[h0];rfl
 .rw[vi om om,cf om,bN]
theorem afo(n:J Bs)(h:Sx n<1000000000):(eJ (0<=cond (eJ (aE ((Sx n:Int)-1)<0)) 0 (aE ((Sx n:Int)-1)))&&(eJ (cond (eJ (aE ((Sx n:Int)-1)<0)) 0 (aE ((Sx n:Int)-1))<=(Sx n:Int))))=eQ:=by
 by_cases h0:Sx n=0
 .rw[h0];rfl
 .rw[vi om om,cf om,dT om,dT om];rfl
theorem amQ(F:Nat)(cwd path:Bs)(hF:1000<=F)(hp:Sx path<=600):wz F cwd path=iN (VZ cwd path):=by
 unfold wz VZ wx;rw[agy F cwd om,aC];cases hc:gm cwd with
 | false=>rfl|true=>
  cases hpe:(path==[])with
  | true=>rfl|false=>
   have hpl:0<Sx path:=by grind
   obtain⟨hn,hnl⟩:=afn (path:=path) hc;have hcl:1<=Sx cwd/\cwd.length<=128:=by
    cases hr:(cwd==[47])with
    | true=>simp_all|false=>obtain⟨h1,h2,h3,h4⟩:=yW hc hr;refine⟨?_,h3⟩;rw[<-h2];simp[pathOf]
   rw[aI,aI,jP om,bX om om,acu,UK F _ aM,UK F _ om,VR _ 47 om];simp only[aC,aG,cF];show ck _ F (0,LY cwd path)=_;have awA:=JT path;refine bW (λx=>∃k:Nat,x.1=(k:Int)/\k<=Sx (cq path)/\x.2.length<=200+k/\Names x.2/\o7 ((cq path).drop k) x.2=o7 (cq path) (LY cwd path)) (λx=>Sx (cq path)-x.1.toNat) ?_ F _ ⟨0,rfl,om,om,hn,si⟩ aM;rintro⟨ii,ns⟩ ⟨k,h0,h1,h2,h3,h4⟩;dsimp only at h0 h2 h3 h4⊢;subst h0;by_cases hk:k<Sx (cq path)
   .have hg:(cq path).getD k []=(cq path)[k]:=gd hk;rw[tu hk]at h4;simp only[b9 (show(k:Int)<(Sx (cq path):Int) by omega),bX (show 0<=(k:Int) by omega) (show(k:Int)<(Sx (cq path):Int) by omega),bN,hg,aG,aC];generalize(cq path)[k]=c at h4;rw[o7]at h4;cases h5:(c==[]||c==[46])with
    | true=>left;rw[h5,aQ]at h4;refine⟨(((k+1:Nat):Int),ns),⟨k+1,rfl,om,by dsimp only;omega,h3,h4⟩,aM,λrc=>?_⟩;rw[show(cond (c==[]) (eQ,ns) (c==[46],ns))=((c==[]||c==[46]),ns) by cases (c==[])<;>rfl,h5];dsimp only;rw[aQ,bM om]
    | false=>
     rw[h5,aI]at h4;simp only[show(cond (c==[]) (eQ,ns) (c==[46],ns))=(eK,ns) by grind,cond_false];cases h6:(c==[46,46])with
     | true=>left;rw[h6,aQ]at h4;refine⟨(((k+1:Nat):Int),ns.dropLast),⟨k+1,rfl,om,aM,h3.dropLast,h4⟩,aM,λrc=>?_⟩;rw[aQ,cy (afo ns om),dropLast_take ns om,bM om]|false=>rw[h6,aI]at h4;simp only[aI,agx F c om,aC];cases h7:ld c with|true=>left;rw[h7,aQ]at h4;refine⟨(((k+1:Nat):Int),ns++[c]),⟨k+1,rfl,om,aM,h3.snoc h7,h4⟩,aM,λrc=>?_⟩;rw[aQ,bX aM aM,bM om]|false=>right;rw[h7,aI]at h4;intro rc;rw[aI,<-h4];rfl
   .obtain rfl:k=Sx (cq path):=om;right;intro rc;rw[MV,o7]at h4;have hj:=join_le ns h3
    first
    | rw[cf om,Aq,join_eq,bX om om,aC,jP aM,<-h4]
    | rw[cf om,zP,Aq,join_eq,bX om om,aC,aC,jP aM,<-h4]
    show iN (cond (eJ (128<((Sx (pathOf ns):Nat):Int))) ([],3) (pathOf ns,0))=_;rw[show eJ (128<((Sx (pathOf ns):Nat):Int))=eJ (128<Sx (pathOf ns))from amN _ 128];rfl
def Qi(l:J aN):Prop:=l.Pairwise λx y=>x.bJ<y.bJ
structure VL(l:List aN):Prop where
 len:Sx l<=128
 pos:0<Sx l
 root:(l.getD 0 cj).bJ=[47]
 path:∀f∈l,gm f.bJ=eQ
 dir:∀f∈l,f.kQ=eQ->f.fData=[]
 amR:∀f∈l,f.bJ=[47]->f.kQ=eQ
 data:∀f∈l,Sx f.fData<=8192
 asc:Qi l
 arK:∀k,0<k->k<Sx l->JW (l.take k) (l.getD k cj).bJ=0
theorem acy(l:J aN):∀(n k:Nat),Z0 l n k=0↔∀j,k<=j->j<k+n->OG l j=0
 | 0,k=>⟨λ_ j h h'=>om,λ_=>rfl⟩|n+1,k=>by
  rw[Z0];cases h:(OG l k==0)with
  | true=>
   rw[aQ,acy l n (k+1)];constructor
   .intro h1 j h2 h3;by_cases e:j=k
    .subst e;simpa using h
    .exact h1 j om om
   .intro h1 j h2 h3;exact h1 j om om
  | false=>
   rw[aI];constructor
   .intro h1;rw[h1]at h;cases h
   .intro h1;have:=h1 k om om;rw[this]at h;cases h
theorem V0:∀ {l:J aN},(∀k,0<k->k<Sx l->(l.getD (k-1) cj).bJ<(l.getD k cj).bJ)->Qi l
 | [],_=>List.Pairwise.nil|[x],_=>ahu _ _|x::y::l,h=>by
  have ih:Qi (y::l):=V0 λk h1 h2=>by have:=h (k+1) om (by simpa using h2);rw[show k+1-1=(k-1)+1 by omega]at this;simpa using this
  have hxy:x.bJ<y.bJ:=by have:=h 1 om si;simpa using this
  refine xw.2 ⟨λz hz=>?_,ih⟩;rcases gL.1 hz with rfl|hz
  .exact hxy
  .exact o8 hxy ((xw.1 ih).1 z hz)
theorem Yr{l:J aN}(h:Qi l)(i j:Nat)(hij:i<j)(hj:j<Sx l):(l.getD i cj).bJ<(l.getD j cj).bJ:=by rw[gd (show i<l.length by omega),gd hj];exact VE.1 h i j om hj hij
theorem amS(l:J aN)(k:Nat):OG l k=0↔gm (l.getD k cj).bJ=eQ/\((l.getD k cj).kQ=eQ->(l.getD k cj).fData=[])/\((l.getD k cj).bJ=[47]->(l.getD k cj).kQ=eQ) /\
  (l.getD k cj).fData.length<=8192/\(0<k->(l.getD (k-1) cj).bJ<(l.getD k cj).bJ)/\(0<k->JW (l.take k) (l.getD k cj).bJ=0):=by
 unfold OG;generalize l.getD k cj=f;generalize l.getD (k-1) cj=g;cases h1:gm f.bJ with
 | false=>simp|true=>
  cases h2:((f.kQ && !(f.fData==[]))||(f.bJ==[47] && !f.kQ))with
  | true=>grind|false=>
   have h3:f.kQ=eQ->f.fData=[]:=λh=>by simp_all
   have h4:f.bJ=[47]->f.kQ=eQ:=λh=>by simp_all
   by_cases h5:8192<Sx f.fData
   .grind
   .rw[cf h5];by_cases h6:0<k
    .rw[<-atX g.bJ f.bJ];cases h7:pD g.bJ f.bJ with|true=>simp_all[JY,fU,aI]|false=>have:=(B6 _ _).1 h7;grind
    simp_all
theorem aks(l:J aN):iW l=0↔VL l:=by
 unfold iW;by_cases h1:128<Sx l
 .rw[b9 h1];exact⟨λh=>(by cases h),λh=>by have:=h.len;omega⟩
 .rw[cf h1];cases h2:(Sx l==0 || !((l.getD 0 cj).bJ==[47]))with
  | true=>refine⟨λh=>(by cases h),λh=>?_⟩;have a:=h.pos;have b:=h.root;simp_all
  | false=>
   rw[aI];simp only[abz,eG,ne_eq,ahC,tv]at h2;rw[acy];simp only[amS];constructor
   .intro h;have hm:∀f∈l,∃k,k<Sx l/\l.getD k cj=f:=λf hf=>by grind[List.getElem_of_mem,gd]
    refine⟨om,om,h2.2,?_,?_,?_,?_,V0 λk h3 h4=>(h k om om).2.2.2.2.1 h3,λk h3 h4=>(h k om om).2.2.2.2.2 h3⟩
    .grind
    .grind
    .grind
    grind
   .intro h j hj hj';have hj':j<Sx l:=om;have hm:l.getD j cj∈l:=by simp_all
    exact⟨h.path _ hm,h.dir _ hm,h.amR _ hm,h.data _ hm,λh0=>Yr h.asc (j-1) j om hj',λh0=>h.arK j h0 hj'⟩
theorem VL.small{l:J aN}(h:VL l):∀f∈l,Sx f.bJ<=128:=by intro f hf;have:=h.path f hf;cases hr:(f.bJ==[47])with|true=>rw[eq_of_beq hr];decide|false=>simp_all[yW]
def mC(s:Bs):Bs:=s.drop (p7 s+1)
def arL(p:Bs):Bs:=cond (p==[47]) [] p++[47]
theorem Bl{s:Bs}(h:gm s=eQ)(hr:(s==[47])=eK):∃n c,Names n/\ld c=eQ/\s=pathOf (n++[c])/\ic s=pathOf n/\mC s=c/\s=arL (ic s)++c/\p7 s<Sx s:=by
 obtain⟨h1,h2,h3,h4⟩:=yW h hr;rcases VC (cq (s.drop 1))with e|⟨n,c,e⟩
 .exact absurd e h4
 .rw[ahy]at e;rw[e]at h1 h2;have hn:Names n:=λx hx=>h1 x (by simp[hx]);have hc:=h1 c si;have hs:=TU hn c;have hp:=K5 hn hc;rw[h2]at hs hp;have avh:p7 s=Sx (cond (pathOf n==[47]) [] (pathOf n)):=by simp_all[sD,Nh,qN]
  refine⟨n,c,hn,hc,h2.symm,hp,?_,?_,?_⟩
  .unfold mC;simp_all
  .rw[hp];exact hs
  .rw[avh,hs];simp
theorem arM(p u v:Bs):p++u<p++v↔u<v:=by
 induction p with|nil=>exact Iff.rfl|cons b p ih=>simp_all
def uf(p:Bs)(f:aN):Bool:=!(f.bJ==[47])&&ic f.bJ==p
def dz(l:J aN)(p:Bs):J Bs:=(l.filter (uf p)).map λf=>mC f.bJ
theorem UO{l:J aN}(h:VL l)(p:Bs):(dz l p).Pairwise (· < ·):=by unfold dz;rw[List.pairwise_map];have h1:(l.filter (uf p)).Pairwise λx y=>x.bJ<y.bJ:=h.asc.filter _;refine List.Pairwise.imp_of_mem (λ{x y} hx hy hxy=>?_) h1;rw[PR]at hx hy;unfold uf at hx hy;simp only[cH,wL]at hx hy;obtain⟨-,c,-,-,-,-,e1,e2,-⟩:=Bl (h.path x hx.1) hx.2.1;obtain⟨-,d,-,-,-,-,e3,e4,-⟩:=Bl (h.path y hy.1) hy.2.1;grind[arM]
def Z2(l:J aN)(p:Bs):(l.flatMap λf=>cond (uf p f) [mC f.bJ] [])=dz l p:=TW _ _ l
theorem acz(l:J aN)(p:Bs)(i:Nat):((l.take i).flatMap λf=>cond (uf p f) [mC f.bJ] []).length<=i:=by have:=Ys (λf=>cond (uf p f) [mC f.bJ] ([]:J Bs)) 1 (λa=>by cases uf p a<;>simp) (l.take i);grind
def SO(l:J aN)(p:Bs):J Bs×Int:=cond (!gm p) ([],10) ((gy l p).elim ([],8) λf=>cond (!f.kQ) ([],18) (dz l p,0))
theorem amT(F:Nat)(l:J aN)(p:Bs)(hF:1000<=F)(h:VL l):GN F l p=iN (SO l p):=by
 have hl:=h.len;unfold GN SO wx;rw[Nb F p om,aC];cases gm p with
 | false=>rfl|true=>
  rw[fU,aI,aI,UM F l p om om,aC];rcases Ip l p with⟨h1,h2,h3⟩|⟨j,h0,h1,h2,h3⟩
  .rw[h1,h2];rfl
  .rw[h1,h2];simp only[Option.elim];rw[cf om,bX om om,bN];cases (l.getD j cj).kQ with
   | false=>rfl|true=>
    rw[fU,aI,aI];refine V1 l (λi o=>(o,(i:Int))) (λf=>cond (uf p f) [mC f.bJ] []) om (by rfl) (λi hi rc o ho=>?_) (λrc=>?_)
    .have hm:=h.small _ (fW hi);have hlen:Sx o<=i:=by rw[ho];exact acz l p i
     dsimp only;rw[b9 om];simp only[bX (show 0<=(i:Int) by omega) (show(i:Int)<(Sx l:Int) by omega),bN,gd hi,Nf F l[i].bJ om om,aC,aG,cF];rw[show(!(l[i].bJ==[47])&&ic l[i].bJ==p)=uf p l[i]from rfl,bM om];cases hk:uf p l[i]with
     | false=>simp|true=>unfold uf at hk;simp only[cH,wL]at hk;obtain⟨-,c,-,-,-,-,-,-,e3⟩:=Bl (h.path _ (fW hi)) hk.1;rw[aQ,aQ,amK F _ om om e3,aC,bX aM aM];rfl
    .dsimp only;rw[cf om,Z2]
theorem agA(F:Nat)(l:J aN)(p:Bs)(hF:1000<=F)(h:VL l):B7 F l p=iN (SO l p):=by
 have hl:=h.len;unfold B7 SO wx;rw[agy F p om,aC];cases gm p with
 | false=>rfl|true=>
  rw[fU,aI,aI,find_eq F l p om om,aC];rcases Ip l p with⟨h1,h2,h3⟩|⟨j,h0,h1,h2,h3⟩
  .rw[h2];rfl
  .rw[h2];simp only[Option.elim,fU,aI];cases (l.getD j cj).kQ with
   | false=>rfl|true=>
    rw[fU,aI,aI];refine V1 l (λi o=>((i:Int),o)) (λf=>cond (uf p f) [mC f.bJ] []) om (by rfl) (λi hi rc o ho=>?_) (λrc=>?_)
    .have hm:=h.small _ (fW hi);have hlen:Sx o<=i:=by rw[ho];exact acz l p i
     rw[b9 om];simp only[bX (show 0<=(i:Int) by omega) (show(i:Int)<(Sx l:Int) by omega),bN,gd hi,ZZ F l[i].bJ (show l[i].bJ.length<1000000000 by omega),aC,aG];rw[show(cond (!(l[i].bJ==[47])) (ic l[i].bJ==p,o) (eK,o))=(uf p l[i],o) by unfold uf;grind,bM om];cases hk:uf p l[i]with
     | false=>simp|true=>
      unfold uf at hk;simp only[cH,wL]at hk;obtain⟨-,c,-,-,-,-,-,-,e3⟩:=Bl (h.path _ (fW hi)) hk.1;have avi:Lib.lastIndexByte ⟨⟨l[i].bJ⟩⟩ 47=(p7 l[i].bJ:Int):=by
       unfold p7;rcases Nc l[i].bJ with⟨e,hh⟩|⟨q,hq,e,-⟩
       .have hp:=h.path _ (fW hi);unfold gm at hp;grind
       .rw[e];rfl
      rw[aQ,aQ,ako F _ om,aC,avi,bM om,vO om om om,bX aM aM,SL];rfl
    .dsimp only;rw[cf om,Z2,SP,amP (UO h p),jP,aC];have:(dz l p).length<=Sx l:=by unfold dz;grind
     omega
theorem JZ{l:J aN}{p:Bs}{g:aN}(h:gy l p=iN g):g∈l/\g.bJ=p:=by have h1:=abw h;exact⟨VK h,eq_of_beq h1⟩
theorem agB(l:J aN)(p:Bs):K3 l p=eQ↔∃f∈l,f.bJ=p:=by unfold K3 JV;simp_all
theorem TX{l:J aN}(h:Qi l){f:aN}(hf:f∈l):gy l f.bJ=iN f:=by
 rcases Ip l f.bJ with⟨h1,h2,h3⟩|⟨j,h0,h1,h2,h3⟩
 .grind[agB]
 .obtain⟨hm,hp⟩:=JZ h2;rw[h2];obtain⟨i,hi,e⟩:=ko hf;have e:l.getD i cj=f:=by rw[gd hi];exact e
  rcases Nat.lt_trichotomy i j with q|q|q
  .have:=Yr h i j q h0;grind
  .rw[<-q,e]
  .have:=Yr h j i q hi;grind
end Go.Proofs.YthkbglhnagkpcaaGreatDoor

namespace Go.Proofs.YthkbglhnagkpcaaGreatDoor
open Go.RT
theorem Ni(s:Bs):cu (cW s)=s:=by
 unfold cu cW;rw[xu];have:((λn=>lL n.toNat) ∘ λb=>(b.toNat:Int))=id:=by funext b;simp
 rw[this,Sn]
def jg(c:Int):Bool:=c != 0&&(c != 1&&c != 2)
def Gg(r:aA):J ei:=cond (jg r.aH) [] (r.fText.map λb=>ei.mk (b.toNat:Int) (r.aH != 1))
def nj(r:aA):J fK:=cond (jg r.aH) [] (r.fText.map λb=>fK.mk (b.toNat:Int) (r.aH != 1))
theorem agC(r:aA):(Gg r).length<=Sx r.fText:=by unfold Gg;grind
theorem HP(r:aA):(nj r).length<=Sx r.fText:=by unfold nj;grind
theorem xP{α:Type}(f:aA->J α)(hf:∀r,Sx (f r)<=Sx r.fText):∀l:J aA,Sx (l.flatMap f)<=bH l|[]=>by simp|r::l=>by have:=xP f hf l;have:=hf r;simp[q8,bH]at *;omega
theorem SQ{l:J aA}{r:aA}(h:r∈l):Sx r.fText<=bH l:=by
 induction l with
 | nil=>cases h
 | cons a l ih=>
  rcases gL.1 h with rfl|h
  .simp[bH]
  .have:=ih h;simp[bH]at *;omega
theorem J0{α:Type}(f:aA->J α)(l:J aA)(k:Nat)(h:k<Sx l):(l.take (k+1)).flatMap f=(l.take k).flatMap f++f l[k]:=by grind[List.take_succ_eq_append_getElem]
theorem acA(c:Int):(cond (c != 0) (iN (c != 1)) (iN eK):O Bool)=iN (c != 0&&c != 1):=by cases (c != 0)<;>rfl
theorem Yt(c:Int):cond (c != 0&&c != 1) (c != 2) eK=jg c:=by unfold jg;grind
theorem Ez(F:Nat)(l:J aA)(hF:Sx l<F)(oN:bH l<F)(h1:Sx l<1000000000)(h2:bH l<=1000000000):DQ F l=iN (l.flatMap Gg):=by
 refine bW (λx=>∃k:Nat,x.2=(k:Int)/\k<=Sx l/\x.1=(l.take k).flatMap Gg) (λx=>Sx l-x.2.toNat) ?_ F _ ⟨0,rfl,om,si⟩ aM;rintro⟨acc,ii⟩ ⟨k,h0,hk,ha⟩;subst h0;by_cases hk:k<Sx l
 .left;have hg:l.getD k dw=l[k]:=gd hk;have hal:Sx acc<=bH (l.take k):=by grind[xP,agC]
  have hs:=pZ l k hk;have hle:=tw l (k+1);refine⟨((l.take (k+1)).flatMap Gg,((k+1:Nat):Int)),⟨k+1,rfl,om,rfl⟩,aM,λrc=>?_⟩;rw[b9 om,bp hk,bp hk,bN,hg,acA,aC,bM om,J0 _ _ _ hk,<-ha,bp hk,aG,aC,Yt];unfold Gg;cases hc:jg l[k].aH with
  | true=>simp_all|false=>
   rw[aI,aI];refine bW (λx=>∃j:Nat,x.2=(j:Int)/\j<=l[k].fText.length/\x.1=acc++(l[k].fText.take j).map λb=>ei.mk (b.toNat:Int) (l[k].aH != 1)) (λx=>l[k].fText.length-x.2.toNat) ?_ F _ ⟨0,rfl,om,si⟩ aM;rintro⟨a2,jj⟩ ⟨j,h0,hj,hb⟩;dsimp only at h0 hb⊢;subst h0;by_cases hj:j<l[k].fText.length
   .left;refine⟨(acc++(l[k].fText.take (j+1)).map λb=>ei.mk (b.toNat:Int) (l[k].aH != 1),((j+1:Nat):Int)),⟨j+1,rfl,om,rfl⟩,aM,λbA=>?_⟩;have V2:l[k].fText.getD j 0=l[k].fText[j]:=gd hj;have Ir:Sx a2<=Sx acc+j:=by rw[hb];simp;omega
    simp only[bp hk];rw[b9 om];simp only[bp hj];rw[bN,V2,bM om,dn aM om,ku hj,lZ,<-sD,<-hb];rfl
   .right;obtain rfl:j=l[k].fText.length:=om;intro bA;rw[bp hk,cf om,hb,nW]
 grind
theorem DR(F:Nat)(l:J aA)(hF:Sx l<F)(oN:bH l<F)(h1:Sx l<1000000000)(h2:bH l<=1000000000):FO F l=iN (l.flatMap nj):=by
 refine bW (λx=>∃k:Nat,x.2=(k:Int)/\k<=Sx l/\x.1=(l.take k).flatMap nj) (λx=>Sx l-x.2.toNat) ?_ F _ ⟨0,rfl,om,si⟩ aM;rintro⟨acc,ii⟩ ⟨k,h0,hk,ha⟩;subst h0;by_cases hk:k<Sx l
 .left;have hg:l.getD k dw=l[k]:=gd hk;have hal:Sx acc<=bH (l.take k):=by grind[xP,HP]
  have hs:=pZ l k hk;have hle:=tw l (k+1);refine⟨((l.take (k+1)).flatMap nj,((k+1:Nat):Int)),⟨k+1,rfl,om,rfl⟩,aM,λrc=>?_⟩;rw[b9 om,bp hk,bN,hg,acA,aC,bM om,J0 _ _ _ hk,<-ha,aG,Yt];unfold nj;cases hc:jg l[k].aH with
  | true=>simp_all|false=>
   refine bW (λx=>∃j:Nat,x.2=(j:Int)/\j<=l[k].fText.length/\x.1=acc++(l[k].fText.take j).map λb=>fK.mk (b.toNat:Int) (l[k].aH != 1)) (λx=>l[k].fText.length-x.2.toNat) ?_ F _ ⟨0,rfl,om,si⟩ aM;rintro⟨a2,jj⟩ ⟨j,h0,hj,hb⟩;dsimp only at h0 hb⊢;subst h0;by_cases hj:j<l[k].fText.length
   .left;refine⟨(acc++(l[k].fText.take (j+1)).map λb=>fK.mk (b.toNat:Int) (l[k].aH != 1),((j+1:Nat):Int)),⟨j+1,rfl,om,rfl⟩,aM,λbA=>?_⟩;have V2:l[k].fText.getD j 0=l[k].fText[j]:=gd hj;have Ir:Sx a2<=Sx acc+j:=by rw[hb];simp;omega
    rw[b9 om];simp only[bp hj];rw[bN,V2,bM om,dn aM om,ku hj,lZ,<-sD,<-hb];rfl
   grind
 grind
def E5(x:J ei)(i:Nat)(b:Int):Bool:=eJ (i<Sx x)&&((x.getD i jA).lq&&(x.getD i jA).fb==b)
theorem jV(F:Nat)(x:J ei)(i:Nat)(b:Int):p9 F x (i:Int) b=iN (E5 x i b):=by
 unfold p9 E5 wx;by_cases h:i<Sx x
 .rw[b9 om,bp h,aC,bp h,aG];simp_all
 grind
def dY(x:J fK)(i:Nat)(b:Int):Bool:=eJ (i<Sx x)&&((x.getD i cO).lq&&(x.getD i cO).fb==b)
theorem fL(F:Nat)(x:J fK)(i:Nat)(b:Int):eZ F x (i:Int) b=iN (dY x i b):=by
 unfold eZ dY wx;by_cases h:i<Sx x
 .rw[b9 om,bp h,aC];congr 1;grind
 grind
def pb(b:Int):aD:=aD.mk 1 (cu [b]) eK []
theorem akt(F:Nat)(l:J aA)(hF:Sx l<F)(oN:bH l<F)(h1:Sx l<1000000000)(h2:bH l<=1000000)(hq:∀e∈l.flatMap nj,e.lq=eK):eu F l=iN ((l.flatMap nj).map λe=>pb e.fb):=by
 unfold eu wx;rw[DR F l hF oN h1 om,aC];have hx:(l.flatMap nj).length<=bH l:=xP _ HP _;generalize(l.flatMap nj)=x at hx hq;have hno:∀(i:Nat)(b:Int),dY x i b=eK:=by
  intro i b;unfold dY;by_cases h:i<Sx x
  .rw[show(x.getD i cO).lq=eK by rw[gd h];exact hq _ (fW h)];simp
  .rw[dF h];rfl
 refine bW (λs=>∃k:Nat,s.2=(k:Int)/\k<=Sx x/\s.1=(x.take k).map λe=>pb e.fb) (λs=>Sx x-s.2.toNat) ?_ F _ ⟨0,rfl,om,si⟩ aM;rintro⟨acc,ii⟩ ⟨k,h0,hk,ha⟩;dsimp only at h0 ha⊢;subst h0;by_cases hk:k<Sx x
 .left;refine⟨((x.take (k+1)).map λe=>pb e.fb,((k+1:Nat):Int)),⟨k+1,rfl,om,rfl⟩,aM,λrc=>?_⟩;have hal:Sx acc=k:=by rw[ha];simp;omega
  rw[b9 om];simp only[fL,hno,aC,aI];show((eZ F x (k:Int) 42).bind _)=_;simp only[fL,hno,aC,aI];rw[bp hk,dn aM om,bM om,bN,gd hk,ku hk,lZ,<-ha];rfl
 .right;obtain rfl:k=Sx x:=om;intro rc;rw[cf om,ha,nW]
set_option maxRecDepth 100000
theorem eR{σ R:Type}{body:(σ->O R)->σ->O R}(Q:R->Prop)(P:σ->Prop)(m:σ->Nat)
  (hs:∀s,P s->∀rc,(∀s',P s'->m s'<m s->∃r,Q r/\rc s'=iN r)->∃r,Q r/\body rc s=iN r):∀(F:Nat)(s:σ),P s->m s<F->∃r,Q r/\ck body F s=iN r
 | 0,s,_,h=>by omega|F+1,s,hP,h=>hs s hP (ck body F) λs' h1 h2=>eR Q P m hs F s' h1 om
def Qj(x:J fK):Prop:=∀e∈x,0<=e.fb/\e.fb<=255
theorem UP(l:J aA):Qj (l.flatMap nj):=by
 intro e he;obtain⟨r,-,he⟩:=aby.1 he;unfold nj at he;cases hc:jg r.aH<;>rw[hc]at he
 .obtain⟨b,-,rfl⟩:=kq.1 he;have:=b.toNat_lt;dsimp only;omega
 .cases he
variable{x:J fK}{i:Nat}
theorem Qj.at(h:Qj x)(hi:i<Sx x):0<=(x.getD i cO).fb/\(x.getD i cO).fb<=255:=by rw[gd hi];exact h _ (fW hi)
def DS(e:fK):Bool:=e.lq&&(eJ (97<=e.fb)&&eJ (e.fb<=122))
def kR(x:J fK)(i:Nat):J Int:=((x.drop i).takeWhile DS).map λe=>e.fb
def isName(n:Bs):Bool:=n==[97,108,112,104,97]||(n==[100,105,103,105,116]||(n==[97,108,110,117,109]||(n==[117,112,112,101,114]||(n==[108,111,119,101,114]||(n==[115,112,97,99,101]||(n==[98,108,97,110,107]||n==[112,117,110,99,116]))))))
def zQ(x:J fK)(i:Nat):Bs×Int×Bool:=
 cond ((dY x i 91&&dY x (i+1) 58)&&((dY x (i+2+Sx (kR x (i+2))) 58&&dY x (i+2+Sx (kR x (i+2))+1) 93)&&isName (cu (kR x (i+2)))))
  (cu (kR x (i+2)),((i+2+Sx (kR x (i+2))+2:Nat):Int),eQ) ([],0,eK)
theorem arN(x:J fK)(i:Nat):(kR x i).length<=Sx x-i:=by unfold kR;grind[List.length_map,List.takeWhile_sublist,List.length_drop]
theorem ao0{p:fK->Bool}:∀(l:J fK)(k:Nat)(h:k<Sx (l.takeWhile p)),∃hk:k<Sx l,(l.takeWhile p)[k]=l[k]/\p l[k]=eQ
 | [],k,h=>by simp at h|a::l,k,h=>by
  cases hp:p a with
  | false=>simp[hp]at h|true=>
   cases k with
   | zero=>exact⟨si,by simp[hp],by simpa using hp⟩|succ k=>
    have h':k<Sx (l.takeWhile p):=by simpa[hp]using h
    obtain⟨h1,h2,h3⟩:=ao0 l k h';exact⟨by simpa using h1,by simp[hp,h2],by simpa using h3⟩
theorem aku{p:fK->Bool}:∀(l:J fK)(h:(l.takeWhile p).length<Sx l),p l[Sx (l.takeWhile p)]=eK
 | [],h=>by simp at h|a::l,h=>by
  cases hp:p a with
  | false=>simp[hp]|true=>
   have h':(l.takeWhile p).length<Sx l:=by simpa[hp]using h
   have:=aku l h';simpa[hp]using this
theorem akv(x:J fK)(i k:Nat)(h:k<Sx (kR x i)):i+k<Sx x/\(kR x i).getD k 0=(x.getD (i+k) cO).fb/\DS (x.getD (i+k) cO)=eQ:=by unfold kR at h⊢;rw[gP]at h;obtain⟨h1,h2,h3⟩:=ao0 (x.drop i) k h;grind
theorem apV(x:J fK)(i:Nat)(h:i+Sx (kR x i)<Sx x):DS (x.getD (i+Sx (kR x i)) cO)=eK:=by unfold kR at h⊢;rw[gP]at h⊢;have:=aku (p:=DS) (x.drop i) (by grind);simp_all
theorem Nj(a b:Bool)(x:O Bool)(hb:x=iN b):cond a (iN a) x=iN (a||b):=by subst hb;cases a<;>rfl
theorem UQ(F:Nat)(x:J fK)(i:Nat)(hF:Sx x+10<F)(hx:Sx x<500000000):Ar F x (i:Int)=iN (zQ x i)\/500000000<=i:=by
 by_cases hi:500000000<=i
 .exact .inr hi
 left;unfold Ar zQ wx;rw[fL,aC,show aE ((i:Int)+1)=((i+1:Nat):Int)from bM om,fL];cases h1:dY x i 91 with
 | false=>rfl|true=>
  cases h2:dY x (i+1) 58 with
  | false=>rfl|true=>
   have xQ:aE ((i:Int)+2)=((i+2:Nat):Int):=by grind[bQ]
   rw[xQ];have hrl:=arN x (i+2);generalize hr:kR x (i+2)=r at hrl;have hat:=akv x (i+2);have hend:=apV x (i+2);rw[hr]at hat hend;refine bW (λs:Int×J Int=>∃k:Nat,s.1=((i+2+k:Nat):Int)/\k<=Sx r/\s.2=r.take k) (λs=>(i+2+Sx r)-s.1.toNat) ?_ F _ ⟨0,rfl,om,si⟩ aM;rintro⟨ii,nm⟩ ⟨k,h0,hk,hn⟩;dsimp only at h0 hn⊢;subst h0;by_cases hk:k<Sx r
   .left;obtain⟨g1,g2,g3⟩:=hat k hk;have hnl:Sx nm=k:=by simp_all
    refine⟨(((i+2+(k+1):Nat):Int),r.take (k+1)),⟨k+1,rfl,om,rfl⟩,aM,λrc=>?_⟩;unfold DS at g3;simp only[cH]at g3;obtain⟨g3,g4,g5⟩:=g3;rw[b9 om,bp g1,bN,g3,aC,aQ,bp g1,g4,aC,aQ,bp g1,g5,aC,aQ,bp g1,dn aM om,bM om,<-g2,gd hk,ku hk,<-hn];rfl
   .right;obtain rfl:k=Sx r:=om;intro rc;rw[nW]at hn;subst hn
    have e1:(((cond (eJ (((i+2+Sx nm:Nat):Int)<(Sx x:Int))) (rq (eJ (0<=((i+2+Sx nm:Nat):Int))&&eJ (((i+2+Sx nm:Nat):Int)<(Sx x:Int))) (iN (x.getD (eI ((i+2+Sx nm:Nat):Int)) cO).lq)) (iN eK)):O Bool).bind λx6=>
      (cond x6 (rq (eJ (0<=((i+2+Sx nm:Nat):Int))&&eJ (((i+2+Sx nm:Nat):Int)<(Sx x:Int))) (iN (eJ (97<=(x.getD (eI ((i+2+Sx nm:Nat):Int)) cO).fb)))) (iN eK):O Bool).bind λx7=>
      (cond x7 (rq (eJ (0<=((i+2+Sx nm:Nat):Int))&&eJ (((i+2+Sx nm:Nat):Int)<(Sx x:Int))) (iN (eJ ((x.getD (eI ((i+2+Sx nm:Nat):Int)) cO).fb<=122)))) (iN eK):O Bool))=iN eK:=by
     by_cases hl:i+2+Sx nm<Sx x
     .have:=hend hl;unfold DS at this;simp only[bp hl];grind
     grind
    have e2:∀ {β:Type}(A:O Bool)(B:Bool->O Bool)(C:Bool->O Bool)(k:Bool->O β),(A.bind λx6=>(B x6).bind λx7=>(C x7).bind k)=((A.bind λx6=>(B x6).bind λx7=>C x7)).bind k:=by grind
    rw[e2,e1,aC,aI,fL,aC,bM om,fL];cases dY x (i+2+Sx nm) 58 with
    | false=>rfl|true=>
     cases dY x (i+2+Sx nm+1) 93 with
     | false=>rfl|true=>
      simp only[fU,aI,aC,xy,Ib];rw[Nj _ _ _ (Nj _ _ _ (Nj _ _ _ (Nj _ _ _ (Nj _ _ _ (Nj _ _ _ (Nj _ _ _ rfl)))))),aC];have Z3:aE (((i+2+Sx nm:Nat):Int)+2)=((i+2+Sx nm+2:Nat):Int):=by rw[bQ om];omega
      rw[Z3,aG];rfl
variable{b:Int}
theorem akw(h:dY x i b=eQ):i<Sx x:=by unfold dY at h;simp_all
theorem ah7(F:Nat)(n:Bs)(c:Int):∃b,oz F n c=iN b:=by unfold oz wx;simp_all[aG,aC]
theorem V3(F:Nat)(x:J fK)(i:Nat)(set:J Bool)(hF:Sx x+1000<F)(hx:Sx x<500000000)(hc:Qj x)(hi:i<Sx x)(hs:Sx set=256):
  ∃r:Int×J Bool,(∃e:Nat,r.1=(e:Int)/\i<e/\e<=Sx x/\r.2.length=256)/\mN F x (i:Int) set=iN r:=by
 unfold mN wx;obtain hcl|hcl:=UQ F x i om hx
 rotate_left
 .omega
 rw[hcl,aC];cases h1:(zQ x i).2.2 with
 | true=>
  rw[aQ];unfold zQ at h1⊢;cases h2:((dY x i 91&&dY x (i+1) 58)&&((dY x (i+2+Sx (kR x (i+2))) 58&&dY x (i+2+Sx (kR x (i+2))+1) 93)&&isName (cu (kR x (i+2)))))with
  | false=>rw[h2]at h1;cases h1
  | true=>
   rw[aQ];simp only[cH]at h2;have h3:=akw h2.2.1.2;refine eR _ (λs:Int×J Bool=>∃k:Nat,s.1=(k:Int)/\k<=256/\s.2.length=256) (λs=>256-s.1.toNat) ?_ F _ ⟨0,rfl,om,hs⟩ aM;rintro⟨ii,st⟩ ⟨k,h0,hk,hl⟩ rc hrc;dsimp only at h0 hl⊢;subst h0;by_cases hk:k<256
   .obtain⟨b,hb⟩:=ah7 F (cu (kR x (i+2))) (k:Int);rw[b9 om,hb,aC,bM om];cases b with|false=>exact hrc _ ⟨k+1,rfl,om,hl⟩ aM|true=>rw[aQ,vO om om om];exact hrc _ ⟨k+1,rfl,om,by simpa using hl⟩ aM
   .rw[cf om];exact⟨_,⟨_,rfl,om,om,hl⟩,rfl⟩
 | false=>
  have hw1:aE ((i:Int)+1)=((i+1:Nat):Int):=bM om;have xQ:aE ((i:Int)+2)=((i+2:Nat):Int):=by grind[bQ]
  have Z3:aE ((i:Int)+3)=((i+3:Nat):Int):=by grind[bQ]
  rw[aI,hw1,xQ,Z3,fL,aC,fL,aG,aC];have e1:cond (dY x (i+1) 45) (eJ (((i+2:Nat):Int)<(Sx x:Int)),set) (eK,set)=((dY x (i+1) 45&&eJ (((i+2:Nat):Int)<(Sx x:Int))),set):=by grind
  rw[e1];dsimp only;rw[aC,aG,aC];have e2:∀a b:Bool,cond a (b,set) (eK,set)=((a&&b),set):=by simp_all
  rw[e2];dsimp only;have hb:=hc.at hi;cases h4:((dY x (i+1) 45&&eJ (((i+2:Nat):Int)<(Sx x:Int))) && !dY x (i+2) 93)with
  | false=>rw[aI,bp hi,bN,vO om om om];exact⟨_,⟨_,rfl,om,om,by simpa using hs⟩,rfl⟩|true=>
   simp only[cH,fO]at h4;have h5:i+2<Sx x:=om;have mJ:=hc.at h5;rw[aQ,bp hi,bN,bN,bQ (x:=(x.getD i cO).fb) om,bQ (x:=(x.getD (i+2) cO).fb) om];generalize(x.getD (i+2) cO).fb=hi2 at mJ;refine eR _ (λs:Int×J Bool=>0<=s.1/\s.1<=256/\s.2.length=256) (λs=>256-s.1.toNat) ?_ F _ ⟨hb.1,om,hs⟩ aM;rintro⟨ii,st⟩ ⟨h6,h7,hl⟩ rc hrc;dsimp only at h6 h7 hl⊢;rw[bp h5];by_cases hle:ii<=hi2
   .rw[b9 hle,vO om om om,bQ om];exact hrc _ ⟨by dsimp only;omega,by dsimp only;omega,by simpa using hl⟩ (by dsimp only;omega)
   .rw[cf hle];exact⟨_,⟨_,rfl,om,om,hl⟩,rfl⟩
theorem Z4(F:Nat)(set:J Bool)(hF:1000<F)(hs:Sx set=256):∃l:J cx,Sx l<=256/\sM F set=iN l:=by
 unfold sM wx;rw[cy (by rw[hs];rfl)];refine eR _ (λs=>∃k:Nat,s.2.1=(k:Int)/\k<=256/\s.1.length<=k/\s.2.2.length=256) (λs=>256-s.2.1.toNat) ?_ F _ ⟨0,rfl,om,si,hs⟩ aM;rintro⟨acc,ii,st⟩ ⟨k,h0,hk,ha,hl⟩ rc hrc;dsimp only at h0 ha hl⊢;subst h0;by_cases hk:k<256
 .rw[b9 om,vO om om om,bM om];cases hb:(!(st.getD (eI (k:Int)) eK))with
  | true=>exact hrc _ ⟨k+1,rfl,om,by dsimp only;omega,hl⟩ aM|false=>
   refine eR _ (λs=>∃j:Nat,s.1=(j:Int)/\k<=j/\j<=255/\s.2.length=256) (λs=>256-s.1.toNat) ?_ F _ ⟨k,rfl,om,om,hl⟩ aM;rintro⟨jj,J2⟩ ⟨j,h0,hkj,hj,hl2⟩ bA amU;subst h0;have hend:∀st3:J Bool,Sx st3=256->∃r:J cx,Sx r<=256/\rq ((eJ (Sx acc+Sx ([(cx.mk (dE .u8 (k:Int)) (dE .u8 (j:Int)))]:J cx)<=9223372036854775807))&&(eJ ((Sx acc+Sx ([(cx.mk (dE .u8 (k:Int)) (dE .u8 (j:Int)))]:J cx))*2<=140737488355328))) (rc (acc++([(cx.mk (dE .u8 (k:Int)) (dE .u8 (j:Int)))]:J cx),aE ((j:Int)+1),st3))=iN r:=by intro st3 h3;rw[dn aM om,bM om];exact hrc _ ⟨j+1,rfl,om,aM,h3⟩ aM
   by_cases hj2:j<255
   .rw[b9 om,bM om,vO om om om];cases J2.getD (eI ((j+1:Nat):Int)) eK with|true=>exact amU _ ⟨j+1,rfl,om,om,hl2⟩ aM|false=>grind[bM]
   grind
 grind
def jH(p:aD):Prop:=(p.fKind=1->0<Sx p.fText)/\p.fText.length<=10/\p.cJ.length<=256
theorem K6(F:Nat)(x:J fK)(i:Nat)(hF:Sx x+1000<F)(hx:Sx x<50000000)(hc:Qj x)(hi:i<Sx x):
  ∃r:aD×Int×Bool,(r.2.2=eQ->jH r.1/\∃e:Nat,r.2.1=(e:Int)/\i<e/\e<=Sx x)/\lR F x (i:Int)=iN r:=by
 unfold lR wx;have hw1:aE ((i:Int)+1)=((i+1:Nat):Int):=bM om;rw[hw1,fL,aC,fL,aC,aG,aC,bM om,aG];obtain⟨s0,hs0,hs1,hs2⟩:∃s0:Nat,cond (cond (dY x (i+1) 33) eQ (dY x (i+1) 94)) (((i+1+1:Nat):Int)) ((i+1:Nat):Int)=(s0:Int)/\i<s0/\s0<=i+2:=by
  cases (cond (dY x (i+1) 33) eQ (dY x (i+1) 94))
  .exact⟨i+1,rfl,om,om⟩
  .exact⟨i+2,rfl,om,om⟩
 rw[hs0];refine eR _ (λs=>∃k:Nat,s.1=(k:Int)/\i<k/\k<=Sx x+2/\s.2.2.length=256) (λs=>Sx x+2-s.1.toNat) ?_ F _ ⟨s0,rfl,hs1,om,si⟩ aM;rintro⟨ii,fi,st⟩ ⟨k,h0,hk,hk2,hl⟩ rc hrc;subst h0;by_cases ug:k<Sx x
 .rw[b9 om,fL,aC,aG,aC];have e2:cond (dY x k 93) (!fi,st) (eK,st)=((dY x k 93 && !fi),st):=by cases dY x k 93<;>rfl
  rw[e2];cases (dY x k 93 && !fi)with
  | true=>obtain⟨l,h1,h2⟩:=Z4 F st om hl;rw[cy (by rw[hl];rfl),h2,bM om];exact⟨_,λ_=>⟨⟨(λh=>absurd h (show ¬ ((4:Int)=1) by decide)),si,h1⟩,k+1,rfl,om,om⟩,rfl⟩
  | false=>obtain⟨r,⟨e,h1,h2,h3,h4⟩,h5⟩:=V3 F x k st om om hc ug hl;rw[h5];exact hrc _ ⟨e,h1,om,om,h4⟩ (by grind)
 simp_all[cf]
theorem TY(F:Nat)(l:J aA)(hF:Sx l<F)(oN:bH l+1000<F)(h1:Sx l<1000000000)(h2:bH l<=40000000):∃p:J aD,((∀it∈p,jH it)/\p.length<=bH l)/\eu F l=iN p:=by
 unfold eu wx;rw[DR F l hF om h1 om];have hx:(l.flatMap nj).length<=bH l:=xP _ HP _;have hc:=UP l;generalize(l.flatMap nj)=x at hx hc;refine eR _ (λs=>∃k:Nat,s.2=(k:Int)/\k<=Sx x/\s.1.length<=k/\∀it∈s.1,jH it) (λs=>Sx x-s.2.toNat) ?_ F _ ⟨0,rfl,om,si,λit h=>by cases h⟩ aM;rintro⟨acc,ii⟩ ⟨k,h0,hk,ha,hit⟩ rc hrc;dsimp only at h0 ha hit⊢;subst h0;have DT:∀(it:aD)(e:Nat),jH it->k<e->e<=Sx x->∃p:J aD,((∀it∈p,jH it)/\p.length<=bH l)/\rc (acc++[it],(e:Int))=iN p:=by intro it e h3 h4 h5;refine hrc _ ⟨e,rfl,h5,aM,λy hy=>?_⟩ aM;grind
 by_cases ug:k<Sx x
 .rw[b9 om]
  have eU:∃p:J aD,((∀it∈p,jH it)/\p.length<=bH l)/\((eZ F x (k:Int) 42).bind λx7=>
    cond x7
    (rq ((eJ (Sx acc+Sx ([(aD.mk 3 [] eK [])]:J aD)<=9223372036854775807))&&(eJ ((Sx acc+Sx ([(aD.mk 3 [] eK [])]:J aD))*56<=140737488355328))) (rc (acc++([(aD.mk 3 [] eK [])]:J aD),aE ((k:Int)+1))))
    ((eZ F x (k:Int) 63).bind λx8=>
    cond x8
    (rq ((eJ (Sx acc+Sx ([(aD.mk 2 [] eK [])]:J aD)<=9223372036854775807))&&(eJ ((Sx acc+Sx ([(aD.mk 2 [] eK [])]:J aD))*56<=140737488355328))) (rc (acc++([(aD.mk 2 [] eK [])]:J aD),aE ((k:Int)+1))))
    (rq ((eJ (0<=(k:Int)))&&(eJ ((k:Int)<(Sx x:Int)))) (rq ((eJ (Sx acc+Sx ([(aD.mk 1 (cu ([(x.getD (eI (k:Int)) cO).fb]:J Int)) eK [])]:J aD)<=9223372036854775807))&&(eJ ((Sx acc+Sx ([(aD.mk 1 (cu ([(x.getD (eI (k:Int)) cO).fb]:J Int)) eK [])]:J aD))*56<=140737488355328))) (rc (acc++([(aD.mk 1 (cu ([(x.getD (eI (k:Int)) cO).fb]:J Int)) eK [])]:J aD),aE ((k:Int)+1)))))))=iN p:=by
   rw[fL,fL,dn aM om,dn aM om,bp ug,dn aM om,bM om];cases dY x k 42 with
   | true=>exact DT _ _ ⟨(λh=>absurd h de),si,si⟩ om om|false=>cases dY x k 63 with|true=>exact DT _ _ ⟨(λh=>absurd h de),si,si⟩ om om|false=>exact DT _ _ ⟨(λ_=>by simp[cu]),by simp[cu],si⟩ om om
  rw[fL,aC];cases dY x k 91 with
  | false=>exact eU|true=>
   obtain⟨r,h3,h4⟩:=K6 F x k om om hc ug;rw[h4,aC];cases h5:r.2.2 with
   | false=>exact eU|true=>obtain⟨g1,e,g2,g3,g4⟩:=h3 h5;rw[dn aM om,g2];obtain⟨p,hp,hq⟩:=DT r.1 e g1 g3 g4;rw[hq];exact⟨p,hp,rfl⟩
 grind
theorem E6(F:Nat)(p:J aD)(hF:Sx p+300<F)(hp:Sx p<50000000)(hit:∀it∈p,jH it):∃b,iR F p=iN b:=by
 obtain⟨b,-,h⟩:∃b:Bool,True/\iR F p=iN b:=by
  unfold iR wx;refine eR _ (λs:Int=>∃k:Nat,s=(k:Int)/\k<=Sx p) (λs=>Sx p-s.toNat) ?_ F _ ⟨0,rfl,om⟩ aM;rintro ii ⟨k,rfl,hk⟩ rc hrc;by_cases hk:k<Sx p
  .have hI:=hit _ (fW hk);rw[b9 om,bp hk,bN,gd hk];generalize p[k]=it at hI;simp only[aG,aC];cases (cond (cond (eJ (it.fKind<1)) eQ (eJ (4<it.fKind))) eQ ((Sx it.fText:Int) != cond (it.fKind==1) 1 0))with
   | true=>simp_all|false=>
    rw[aI];cases (cond (it.fKind != 4) (cond it.B8 eQ (eJ (0<(Sx it.cJ:Int)))) eK)with
    | true=>simp_all|false=>
     rw[aI];have hl:=hI.2.2;refine eR _ (λs:Int=>∃j:Nat,s=(j:Int)/\j<=Sx it.cJ) (λs=>Sx it.cJ-s.toNat) ?_ F _ ⟨0,rfl,om⟩ aM;rintro jj ⟨j,rfl,hj⟩ bA amU;by_cases hj:j<Sx it.cJ
     .rw[b9 om,bp hj];have e:∃b,(cond (eJ ((it.cJ.getD (eI (j:Int)) gf).kB<(it.cJ.getD (eI (j:Int)) gf).qA)) (iN eQ) (cond (eJ (0<(j:Int))) (rq ((eJ (0<=aE ((j:Int)-1)))&&(eJ (aE ((j:Int)-1)<(Sx it.cJ:Int)))) (iN (eJ (aE ((it.cJ.getD (eI (j:Int)) gf).qA)<=aE ((aE ((it.cJ.getD (eI (aE ((j:Int)-1))) gf).kB))+1))))) (iN eK)):O Bool)=iN b:=by
       by_cases h0:0<j
       .rw[vi om h0,b9 (show(0:Int)<(j:Int) by omega),bX om om,aG];exact⟨_,rfl⟩
       simp_all[cf,aG]
      obtain⟨b,hb⟩:=e;rw[hb,aC];cases b with|true=>simp_all|false=>rw[aI,bM om];exact amU _ ⟨j+1,rfl,om⟩ aM
     .rw[cf om,bM om];exact hrc _ ⟨k+1,rfl,om⟩ aM
  simp_all[cf,trivial]
 exact⟨b,h⟩
theorem afp(F:Nat)(p:J aD)(hF:Sx p+300<F)(hp:Sx p<50000000)(hit:∀it∈p,jH it):∃r,iu F p=iN r:=by
 obtain⟨b,hb⟩:=E6 F p hF hp hit;unfold iu wx;rw[hb];cases b with
 | false=>exact⟨_,rfl⟩|true=>
  have hsw:∀x:O (Bs×Bool),(∃r,True/\x=iN r)->∃r,x=iN r:=λx ⟨r,_,h⟩=>⟨r,h⟩;refine hsw _ (eR (λ_=>True) (λs=>∃k:Nat,s.2=(k:Int)/\k<=Sx p/\s.1.length<=10*k) (λs=>Sx p-s.2.toNat) ?_ F (([]:J Int),0) ⟨0,rfl,om,si⟩ aM)
  .rintro⟨acc,ii⟩ ⟨k,h0,hk,ha⟩ rc hrc;subst h0;by_cases hk:k<Sx p
   .have hI:=hit _ (fW hk);rw[b9 om,bp hk,bN,gd hk];cases (p[k].fKind != 1)with|true=>simp_all|false=>have hl:=hI.2.1;have:(cW p[k].fText).length=p[k].fText.length:=gP _;rw[dn om om,bM om];exact hrc _ ⟨k+1,rfl,om,by grind⟩ aM
   simp_all[cf,trivial]
theorem V4(F:Nat)(p:J aD)(st:J Bool)(hF:Sx p<F)(hp:Sx p<50000000)(hs:Sx st=Sx p+1):∃s2:J Bool,Sx s2=Sx p+1/\qW F p st=iN s2:=by
 refine eR _ (λs=>∃k:Nat,s.1=(k:Int)/\k<=Sx p/\s.2.length=Sx p+1) (λs=>Sx p-s.1.toNat) ?_ F _ ⟨0,rfl,om,hs⟩ aM;rintro⟨ii,s2⟩ ⟨k,h0,hk,hl⟩ rc hrc;dsimp only at h0 hl⊢;subst h0;by_cases hk:k<Sx p
 .rw[b9 om,bp hk,bX om om,aG,aC,bM om];have e:cond (s2.getD (eI (k:Int)) eK) ((p.getD (eI (k:Int)) dL).fKind==3,s2) (eK,s2)=((s2.getD (eI (k:Int)) eK&&(p.getD (eI (k:Int)) dL).fKind==3),s2):=by grind
  rw[e];dsimp only;cases (s2.getD (eI (k:Int)) eK&&(p.getD (eI (k:Int)) dL).fKind==3)with|true=>rw[bX om om];exact hrc _ ⟨k+1,rfl,om,by simpa using hl⟩ aM|false=>exact hrc _ ⟨k+1,rfl,om,hl⟩ aM
 grind
theorem acB(F:Nat)(st:J Bool)(hF:Sx st<F)(hs:Sx st<500000000):∃b,jk F st eQ=iN b:=by
 unfold jk wx;obtain⟨r,-,h⟩:∃r:Int,True/\yX F st eQ=iN r:=by
  refine eR _ (λs=>∃k:Nat,s=(k:Int)/\k<=Sx st) (λs=>Sx st-s.toNat) ?_ F _ ⟨0,rfl,om⟩ aM;rintro ii ⟨k,rfl,hk⟩ rc hrc;by_cases hk:k<Sx st
  .rw[b9 om,bp hk,bM om];cases (eQ==st.getD (eI (k:Int)) eK)with|true=>simp_all|false=>exact hrc _ ⟨k+1,rfl,om⟩ aM
  simp_all[cf,trivial]
 simp_all
theorem amV(F:Nat)(it:aD)(b:Int)(hF:300<F)(h:jH it):∃r,rB F it b=iN r:=by
 unfold rB wx;cases hk:(it.fKind==1)with
 | true=>have:=h.1 (eq_of_beq hk);rw[jP om];exact⟨_,rfl⟩|false=>
  cases (it.fKind==4)with
  | false=>exact⟨_,rfl⟩|true=>
   have hl:=h.2.2;have hsw:∀x:O Bool,(∃r,True/\x=iN r)->∃r,x=iN r:=λx ⟨r,_,h⟩=>⟨r,h⟩;refine hsw _ (eR (λ_=>True) (λs=>∃k:Nat,s.2=(k:Int)/\k<=Sx it.cJ) (λs=>Sx it.cJ-s.2.toNat) ?_ F (eK,0) ⟨0,rfl,om⟩ aM)
   .rintro⟨acc,ii⟩ ⟨k,h0,hk2⟩ rc hrc;subst h0;by_cases hk2:k<Sx it.cJ
    .rw[b9 om,bp hk2,aG,aG,bM om];exact hrc _ ⟨k+1,rfl,om⟩ aM
    .rw[cf om];grind
theorem afq(F:Nat)(p:J aD)(st:J Bool)(b:Int)(hF:Sx p+300<F)(hp:Sx p<50000000)(hit:∀it∈p,jH it)(hs:Sx st=Sx p+1):∃s2:J Bool,Sx s2=Sx p+1/\lN F p st b=iN s2:=by
 unfold lN wx;have hw:aE ((Sx p:Int)+1)=((Sx p+1:Nat):Int):=bM om;rw[hw,cy (by rw[dT om,dT om,dT om,dT om,dT om];rfl),bN];refine eR _ (λs=>∃k:Nat,s.1=(k:Int)/\k<=Sx p/\s.2.length=Sx p+1) (λs=>Sx p-s.1.toNat) ?_ F _ ⟨0,rfl,om,si⟩ aM;rintro⟨ii,s2⟩ ⟨k,h0,hk,hl⟩ rc hrc;subst h0;by_cases hk:k<Sx p
 .rw[b9 om,bp hk,bX om om,bN,gd hk,bM om];have vT:∀s3:J Bool,Sx s3=Sx p+1->∃s2:J Bool,Sx s2=Sx p+1/\rc (((k+1:Nat):Int),s3)=iN s2:=λs3 h3=>hrc _ ⟨k+1,rfl,om,h3⟩ aM;cases st.getD k eK with
  | false=>exact vT _ hl|true=>
   cases (p[k].fKind==3)with
   | true=>rw[aQ,bX om om];simp_all|false=>obtain⟨r,hr⟩:=amV F p[k] b om (hit _ (fW hk));rw[aI,hr,aC];cases r with|false=>exact vT _ hl|true=>rw[aQ,bX om om];simp_all
 .rw[cf om];obtain⟨s3,h3,h4⟩:=V4 F p s2 om hp hl;simp_all
theorem akx(F:Nat)(p:J aD)(n:Bs)(hF:Sx p+300<F)(oN:Sx n<F)(hn:Sx n<50000000)(hp:Sx p<50000000)(hit:∀it∈p,jH it):∃b,jS F p n=iN b:=by
 unfold jS mO wx;obtain⟨v,hv⟩:=E6 F p hF hp hit;rw[hv,aC];cases v with
 | false=>exact⟨_,rfl⟩|true=>
  have hw:aE ((Sx p:Int)+1)=((Sx p+1:Nat):Int):=bM om;rw[hw,fU,aI,cy (by rw[dT om,dT om,dT om,dT om,dT om];rfl),bN,jP si];obtain⟨s0,h1,h2⟩:=V4 F p ((W0 (Sx p+1) eK).set 0 eQ) om hp si;rw[h2,aC];have hsw:∀x:O (Int×Bool),(∃r,True/\x=iN r)->∃b,((x.bind λx3=>iN (x3.1,x3.2)).bind λx1=>iN x1.2)=iN b:=by grind
  refine hsw _ (eR (λ_=>True) (λs=>∃k:Nat,s.2.2.2=(k:Int)/\k<=Sx n/\s.1.length=Sx p+1) (λs=>Sx n-s.2.2.2.toNat) ?_ F (s0,0,eK,0) ⟨0,rfl,om,h1⟩ aM)
  .rintro⟨st,sz,fd,ii⟩ ⟨k,h0,hk,hl⟩ rc hrc;dsimp only at h0 hl⊢;subst h0;rw[bX om om,aG,aC]
   have eU:∀x6:Int×Bool,∃r:Int×Bool,True/\(((cond ((k:Int)==(Sx n:Int)) (iN eQ) ((jk F st eQ).bind λx9=>iN (!x9)):O Bool).bind λx8=>
     cond x8 (iN (x6.1,x6.2)) (rq ((eJ (0<=(k:Int)))&&(eJ ((k:Int)<(Sx n:Int)))) ((lN F p st ((n.getD (eI (k:Int)) 0).toNat:Int)).bind λcw=>rc (cw,x6.1,x6.2,aE ((k:Int)+1))))))=iN r:=by
    intro x6;obtain⟨c,hc⟩:=acB F st om om;rw[hc,aC];by_cases hkn:k<Sx n
    .rw[show((k:Int)==(Sx n:Int))=eK by simp;omega,aI,aC];cases c with
     | false=>simp_all|true=>obtain⟨s4,h4,h5⟩:=afq F p st ((n.getD (eI (k:Int)) 0).toNat:Int) hF hp hit hl;rw[fU,aI,bp hkn,h5,aC,bM om];exact hrc _ ⟨k+1,rfl,om,h4⟩ aM
    .rw[show((k:Int)==(Sx n:Int))=eQ by simp;omega];simp_all
   cases (cond (st.getD (eI (Sx p:Int)) eK) (eJ ((Sx n:Int)<=(k:Int))) eK)with|true=>exact eU ((k:Int),eQ)|false=>exact eU (sz,fd)
theorem arO{x:J ei}(h:E5 x i b=eQ):i<Sx x:=by unfold E5 at h;simp_all
theorem amW(F:Nat)(x:J ei)(i:Nat)(s:Bs)(hF:Sx s<F)(hi:i<=Sx x)(hx:Sx x<500000000)(hs:Sx s<500000000):∃b:Bool,(b=eQ->i+Sx s<=Sx x)/\GO F x (i:Int) s=iN b:=by
 refine eR _ (λk'=>∃k:Nat,k'=(k:Int)/\k<=Sx s/\i+k<=Sx x) (λk'=>Sx s-k'.toNat) ?_ F _ ⟨0,rfl,om,om⟩ aM;rintro ii ⟨k,rfl,hk,hik⟩ rc hrc;by_cases hk:k<Sx s
 .have hw:aE ((i:Int)+(k:Int))=((i+k:Nat):Int):=by grind[bQ]
  rw[b9 om,bp hk,hw,jV,bM om];cases h:E5 x (i+k) (((s.getD (eI (k:Int)) 0).toNat:Int))with|false=>simp_all|true=>have:=arO h;exact hrc _ ⟨k+1,rfl,om,om⟩ aM
 .rw[cf om];grind
def CL:J ny:=(As 0).getD []
def ao1(F:Nat):As F=iN CL:=rfl
def V5:Sx CL=8:=rfl
theorem ah8:∀c∈CL,Sx c.fname=5/\c.uh.length<=4:=by decide
theorem afr(F:Nat)(x:J ei)(i:Nat)(hF:100<F)(hi:i<Sx x)(hx:Sx x<50000000):∃r:J cx×Int,(∃e:Nat,r.2=(e:Int)/\i<e/\e<=Sx x/\r.1.length<=4)/\rC F x (i:Int)=iN r:=by
 unfold rC wx;rw[ao1];refine eR _ (λk'=>∃k:Nat,k'=(k:Int)/\k<=8) (λk'=>8-k'.toNat) ?_ F _ ⟨0,rfl,om⟩ aM;rintro ii ⟨k,rfl,hk⟩ rc hrc;have hw1:aE ((i:Int)+1)=((i+1:Nat):Int):=bM om;have xQ:aE ((i:Int)+2)=((i+2:Nat):Int):=by grind[bQ]
 have Z3:aE ((i:Int)+3)=((i+3:Nat):Int):=by grind[bQ]
 by_cases hk:k<Sx CL
 .have hm:=ah8 _ (fW hk);rw[b9 om,bp hk,bN,gd hk,bM om];generalize CL[k]=c at hm;rw[jP aM,jP aM];have hl:((([91,58]:Bs)++c.fname)++([58,93]:Bs)).length=9:=by simp;omega
  obtain⟨b,h1,h2⟩:=amW F x i ((([91,58]:Bs)++c.fname)++([58,93]:Bs)) om om om om;rw[h2,aC];rw[hl]at h1⊢;cases b with
  | true=>
   have:=h1 rfl;have hw:aE ((i:Int)+((9:Nat):Int))=((i+9:Nat):Int):=by grind[bQ]
   rw[bp hk,hw];exact⟨_,⟨i+9,rfl,om,om,hm.2⟩,rfl⟩
  | false=>
   have h8:k<8:=by rw[<-V5];exact hk
   exact hrc _ ⟨k+1,rfl,om⟩ aM
 .rw[cf om,bp hi,hw1,xQ,Z3,jV,aC,jV,aG,aC,aC,aG,aC];cases h4:cond (cond (E5 x (i+1) 45) (eJ (((i+2:Nat):Int)<(Sx x:Int))) eK) (!E5 x (i+2) 93) eK with
  | false=>exact⟨_,⟨i+1,rfl,om,om,si⟩,rfl⟩|true=>
   have h5:i+2<Sx x:=by grind
   rw[bp h5];cases eJ ((x.getD (eI (i:Int)) jA).fb<=(x.getD (eI ((i+2:Nat):Int)) jA).fb)
   .exact⟨_,⟨i+3,rfl,om,om,si⟩,rfl⟩
   .exact⟨_,⟨i+3,rfl,om,om,si⟩,rfl⟩
theorem apW(F:Nat)(l:J cx)(b:Int)(hF:Sx l<F)(hl:Sx l<500000000):∃r,xR F l b=iN r:=by
 obtain⟨r,-,h⟩:∃r:Bool,True/\xR F l b=iN r:=by
  refine eR _ (λk'=>∃k:Nat,k'=(k:Int)/\k<=Sx l) (λk'=>Sx l-k'.toNat) ?_ F _ ⟨0,rfl,om⟩ aM;rintro ii ⟨k,rfl,hk⟩ rc hrc;by_cases hk:k<Sx l
  .rw[b9 om,bp hk,bp hk,aG,bM om];cases cond (eJ ((l.getD (eI (k:Int)) gf).qA<=b)) (eJ (b<=(l.getD (eI (k:Int)) gf).kB)) eK with|true=>simp_all|false=>exact hrc _ ⟨k+1,rfl,om⟩ aM
  simp_all[cf,trivial]
 exact⟨r,h⟩
theorem amX(F:Nat)(l:J cx)(hF:Sx l+300<F)(hl:Sx l<500000000):∃r:J cx,Sx r<=256/\J3 F l=iN r:=by
 refine eR _ (λs=>∃k:Nat,s.1=(k:Int)/\k<=256/\s.2.length<=k) (λs=>256-s.1.toNat) ?_ F _ ⟨0,rfl,om,si⟩ aM;rintro⟨ii,o⟩ ⟨k,h0,hk,ho⟩ rc hrc;dsimp only at h0 ho⊢;subst h0;by_cases hk:k<256
 .obtain⟨b,hb⟩:=apW F l (dE .u8 (k:Int)) om hl;rw[b9 om,hb,aC,bM om];cases b with
  | false=>exact hrc _ ⟨k+1,rfl,om,by dsimp only;omega⟩ aM|true=>
   by_cases h0:0<Sx o
   .have hw:=vi om h0;rw[b9 om,hw,bp om,aC];dsimp only;cases (aE ((aE ((o.getD (eI ((Sx o-1:Nat):Int)) gf).kB))+1))==(k:Int)with|true=>rw[bp om];exact hrc _ ⟨k+1,rfl,om,aM⟩ aM|false=>rw[dn aM om];exact hrc _ ⟨k+1,rfl,om,aM⟩ aM
   .rw[cf om,aC];rw[dn aM om];exact hrc _ ⟨k+1,rfl,om,aM⟩ aM
 grind
theorem acC(F:Nat)(x:J ei)(i:Nat)(hF:4*Sx x+1000<F)(hx:Sx x<40000000)(hi:i<Sx x):
  ∃r:aD×Int×Bool,(r.2.2=eQ->jH r.1/\∃e:Nat,r.2.1=(e:Int)/\i<e/\e<=Sx x)/\sN F x (i:Int)=iN r:=by
 unfold sN wx;have hw1:aE ((i:Int)+1)=((i+1:Nat):Int):=bM om;rw[hw1,jV,aC,jV,aC,aG,aC,bM om,aG,aC];have h0:∃y:Int×Int×Bs×Bool×J cx,cond (cond (E5 x (i+1) 33) eQ (E5 x (i+1) 94)) (((i+1+1:Nat):Int),(aD.mk 4 [] eK []).fKind,(aD.mk 4 [] eK []).fText,eQ,(aD.mk 4 [] eK []).cJ) (((i+1:Nat):Int),(aD.mk 4 [] eK []).fKind,(aD.mk 4 [] eK []).fText,(aD.mk 4 [] eK []).B8,(aD.mk 4 [] eK []).cJ)=y/\(∃s0:Nat,y.1=(s0:Int)/\i<s0/\s0<=i+2)/\y.2.1=4/\y.2.2.1=[]:=by
  cases (cond (E5 x (i+1) 33) eQ (E5 x (i+1) 94))
  .exact⟨_,rfl,⟨i+1,rfl,om,om⟩,rfl,rfl⟩
  .exact⟨_,rfl,⟨i+2,rfl,om,om⟩,rfl,rfl⟩
 obtain⟨y,hy,⟨s0,hs0,hs1,hs2⟩,hy2,hy3⟩:=h0;rw[hy,hs0,hy2,hy3];refine eR _ (λs=>∃k:Nat,s.1=(k:Int)/\i<k/\k<=Sx x+2/\s.2.1.length<=4*k) (λs=>Sx x+2-s.1.toNat) ?_ F _ ⟨s0,rfl,hs1,om,si⟩ aM;rintro⟨ii,sp,fi⟩ ⟨k,h0,hk,hk2,hl⟩ rc hrc;dsimp only at h0 hl⊢;subst h0;rw[jV,aC,aG,aG,aC];by_cases ug:k<Sx x
 .rw[b9 (show(k:Int)<(Sx x:Int) by omega)];cases (cond fi eQ (!E5 x k 93))with
  | true=>obtain⟨r,⟨e,h1,h2,h3,h4⟩,h5⟩:=afr F x k om ug om;rw[h5,aC,dn om om];exact hrc _ ⟨e,h1,om,om,by grind⟩ (by grind)
  | false=>obtain⟨r,h1,h2⟩:=amX F sp om om;rw[cf (show ¬ (Sx x:Int)<=(k:Int) by omega),h2,bM om];exact⟨_,λ_=>⟨⟨(λh=>absurd h (show ¬ ((4:Int)=1) by decide)),si,h1⟩,k+1,rfl,om,om⟩,rfl⟩
 simp_all[cf,aI,b9]
theorem acD(F:Nat)(l:J aA)(hF:Sx l<F)(oN:4*bH l+1000<F)(h1:Sx l<1000000000)(h2:bH l<=20000000):∃p:J aD,((∀it∈p,jH it)/\p.length<=bH l)/\fM F l=iN p:=by
 unfold fM wx;rw[Ez F l hF om h1 om];have hx:(l.flatMap Gg).length<=bH l:=xP _ agC _;generalize(l.flatMap Gg)=x at hx;refine eR _ (λs=>∃k:Nat,s.2=(k:Int)/\k<=Sx x/\s.1.length<=k/\∀it∈s.1,jH it) (λs=>Sx x-s.2.toNat) ?_ F _ ⟨0,rfl,om,si,λit h=>by cases h⟩ aM;rintro⟨acc,ii⟩ ⟨k,h0,hk,ha,hit⟩ rc hrc;dsimp only at h0 ha hit⊢;subst h0;have DT:∀(it:aD)(e:Nat),jH it->k<e->e<=Sx x->∃p:J aD,((∀it∈p,jH it)/\p.length<=bH l)/\rc (acc++[it],(e:Int))=iN p:=by intro it e h3 h4 h5;refine hrc _ ⟨e,rfl,h5,aM,λy hy=>?_⟩ aM;grind
 by_cases ug:k<Sx x
 .rw[b9 om,jV,aC,jV,aC,dn aM om,dn aM om,bM om];cases E5 x k 42 with
  | true=>exact DT _ _ ⟨(λh=>absurd h (show ¬ ((3:Int)=1) by decide)),si,si⟩ om om
  | false=>
   cases E5 x k 63 with
   | true=>exact DT _ _ ⟨(λh=>absurd h (show ¬ ((2:Int)=1) by decide)),si,si⟩ om om
   | false=>
    rw[jV,aC];have eU:∃p:J aD,((∀it∈p,jH it)/\p.length<=bH l)/\(rq ((eJ (0<=(k:Int)))&&(eJ ((k:Int)<(Sx x:Int)))) (rq ((eJ (Sx acc+Sx ([(aD.mk 1 (cu ([(x.getD (eI (k:Int)) jA).fb]:J Int)) eK [])]:J aD)<=9223372036854775807))&&(eJ ((Sx acc+Sx ([(aD.mk 1 (cu ([(x.getD (eI (k:Int)) jA).fb]:J Int)) eK [])]:J aD))*56<=140737488355328))) (rc (acc++([(aD.mk 1 (cu ([(x.getD (eI (k:Int)) jA).fb]:J Int)) eK [])]:J aD),aE ((k:Int)+1)))))=iN p:=by rw[bp ug,dn aM om,bM om];exact DT _ _ ⟨(λ_=>by simp[cu]),by simp[cu],si⟩ om om
    cases E5 x k 91 with
    | false=>exact eU|true=>
     obtain⟨r,h3,h4⟩:=acC F x k om om ug;rw[h4,aC];cases h5:r.2.2 with
     | false=>exact eU|true=>obtain⟨g1,e,g2,g3,g4⟩:=h3 h5;rw[dn aM om,g2];obtain⟨p,hp,hq⟩:=DT r.1 e g1 g3 g4;rw[hq];exact⟨p,hp,rfl⟩
 grind
theorem DU(F:Nat)(l:J cx)(hF:Sx l<F)(hl:Sx l<500000000):∃r,pL F l=iN r:=by
 obtain⟨r,-,h⟩:∃r:Bool,True/\pL F l=iN r:=by
  refine eR _ (λk'=>∃k:Nat,k'=(k:Int)/\k<=Sx l) (λk'=>Sx l-k'.toNat) ?_ F _ ⟨0,rfl,om⟩ aM;rintro ii ⟨k,rfl,hk⟩ rc hrc;by_cases hk:k<Sx l
  .rw[b9 om,bp hk,bp hk];have e:∃b,(cond (eJ ((l.getD (eI (k:Int)) gf).kB<(l.getD (eI (k:Int)) gf).qA)) (iN eQ) (cond (eJ (0<(k:Int))) (rq ((eJ (0<=(k:Int)))&&(eJ ((k:Int)<(Sx l:Int)))) (rq ((eJ (0<=aE ((k:Int)-1)))&&(eJ (aE ((k:Int)-1)<(Sx l:Int)))) (iN (eJ (aE ((l.getD (eI (k:Int)) gf).qA)<=aE ((aE ((l.getD (eI (aE ((k:Int)-1))) gf).kB))+1)))))) (iN eK)):O Bool)=iN b:=by
    by_cases h0:0<k
    .rw[bp hk,vi om h0,b9 (show(0:Int)<(k:Int) by omega),bX om om,aG];exact⟨_,rfl⟩
    simp_all[cf,aG]
   obtain⟨b,hb⟩:=e;rw[hb,bM om];cases b with|true=>simp_all|false=>exact hrc _ ⟨k+1,rfl,om⟩ aM
  simp_all[cf,trivial]
 exact⟨r,h⟩
theorem ah9(F:Nat)(p:J aD)(hF:Sx p+300<F)(hp:Sx p<50000000)(hit:∀it∈p,jH it):∃b,kW F p=iN b:=by
 obtain⟨b,-,h⟩:∃b:Bool,True/\kW F p=iN b:=by
  refine eR _ (λs=>∃k:Nat,s=(k:Int)/\k<=Sx p) (λs=>Sx p-s.toNat) ?_ F _ ⟨0,rfl,om⟩ aM;rintro ii ⟨k,rfl,hk⟩ rc hrc;by_cases hk:k<Sx p
  .have hI:=hit _ (fW hk);rw[b9 om,bp hk,bN,gd hk];generalize p[k]=it at hI;obtain⟨c,hc⟩:=DU F it.cJ (by have:=hI.2.2;omega) (by have:=hI.2.2;omega);simp only[aG,aC,hc];rw[bM om];cases (cond (cond (cond (cond (eJ (it.fKind<1)) eQ (eJ (4<it.fKind))) eQ ((Sx it.fText:Int) != cond (it.fKind==1) 1 0)) eQ (cond (it.fKind != 4) (cond it.B8 eQ (eJ (0<(Sx it.cJ:Int)))) eK)) eQ !c)with|true=>simp_all|false=>exact hrc _ ⟨k+1,rfl,om⟩ aM
  simp_all[cf,trivial]
 exact⟨b,h⟩
theorem acE(F:Nat)(p:J aD)(hF:Sx p+300<F)(hp:Sx p<50000000)(hit:∀it∈p,jH it):∃r,jo F p=iN r:=by
 obtain⟨b,hb⟩:=ah9 F p hF hp hit;obtain⟨b,-,h⟩:∃b:Bs×Bool,True/\jo F p=iN b:=by
  refine eR _ (λs=>∃k:Nat,s.2=(k:Int)/\k<=Sx p/\s.1.length<=10*k) (λs=>Sx p-s.2.toNat) ?_ F _ ⟨0,rfl,om,si⟩ aM;rintro⟨acc,ii⟩ ⟨k,h0,hk,ha⟩ rc hrc;subst h0;by_cases hk:k<Sx p
  .have hI:=hit _ (fW hk);have hl:=hI.2.1;rw[b9 om,bp hk,bp hk,bN,gd hk];cases (p[k].fKind != 1)with|true=>simp_all|false=>rw[vU om,bM om];exact hrc _ ⟨k+1,rfl,om,by grind⟩ aM
  simp_all[cf,aC,aG,trivial]
 exact⟨b,h⟩
theorem J4:∀s:Bs,(Lib.cut s [47]=(s,[],eK)/\cq s=[s])\/∃a r,Lib.cut s [47]=(a,r,eQ)/\cq s=a::cq r/\a.length+Sx r+1=Sx s
 | []=>.inl ⟨rfl,rfl⟩|b::l=>by
  have ih:=J4 l;have hge:=Lib.indexByte_ge l 47;by_cases hb:b=47
  .right;subst hb;have h0:Lib.index ((47:UInt8)::l) [47]=0:=by rw[Lib.index_one];simp[lO]
   exact⟨[],l,by unfold Lib.cut;rw[h0];simp,rfl,si⟩
  .have ZT:(b==47)=eK:=by simpa using hb
   have h0:Lib.index (b::l) [47]=if Lib.index l [47] == -1 then -1 else Lib.index l [47]+1:=by rw[Lib.index_one,Lib.index_one,lO];simp[hb]
   have hp:cq (b::l)=(match cq l with
    | []=>[[b]]|p::ps=>(b::p)::ps):=by rw[cq,ZT]<;>cases cq l<;>rfl
   unfold Lib.cut at ih⊢;rw[hp,h0];rcases ih with⟨h1,h2⟩|⟨a,r,h1,h2,h3⟩
   .grind
   .right;by_cases hi:0<=Lib.index l [47]
    .have e1:(Lib.index l [47] == -1)=eK:=by simp;omega
     refine⟨b::a,r,?_,by rw[h2],aM⟩;rw[e1];simp;rw[if_pos om,show(Lib.index l [47]+1).toNat=(Lib.index l [47]).toNat+1 by omega];simp_all
    simp_all
theorem Yu(F:Nat)(s:Bs)(h:Sx s<=1000000):Yv F s [47]=iN (Lib.cut s [47]):=by grind[Yv,jP]
theorem acF(F:Nat)(l:J Bs)(h1:Sx l<=1000000)(h2:(di l).length<=100000000):zP F [47] l=iN (di l,l):=by grind[zP,Aq,join_eq,bX]
def ef(l:J aA):Bs:=l.flatMap λr=>r.fText
theorem oA:∀l:J aA,Sx (ef l)=bH l|[]=>rfl|r::l=>by have:=oA l;unfold ef bH at *;simp only[q8,ov,jb,MT];omega
theorem Z5(s:Bs):LZ (cW s)=eQ:=by unfold LZ cW;rw[pW];intro x hx;obtain⟨b,-,rfl⟩:=kq.1 hx;have:=b.toNat_lt;simp;omega
theorem arP(F:Nat)(s:Bs)(c:Bool)(buf:J Int)(h:Sx buf+Sx s<=100000000):jB F s c buf=iN ((Sx s:Int),eQ,buf++cW s):=by unfold jB wx;rw[show qB F c buf=iN (eQ,buf) by cases c<;>rfl,aC,dn (by simp[cW];omega) om]
theorem Is(F:Nat)(l:J aA)(hF:Sx l<F)(h1:Sx l<1000000000)(h2:bH l<=100000000):qC F l=iN (ef l):=by
 refine bW (λx=>∃k:Nat,x.1=(k:Int)/\k<=Sx l/\x.2.2=cW (ef (l.take k))) (λx=>Sx l-x.1.toNat) ?_ F _ ⟨0,rfl,om,by simp[ef,cW]⟩ aM;rintro⟨ii,c,buf⟩ ⟨k,h0,hk,ha⟩;dsimp only at h0 ha⊢;subst h0;by_cases hk:k<Sx l
 .left;have hs:=pZ l k hk;have hle:=tw l (k+1);refine⟨(((k+1:Nat):Int),eQ,cW (ef (l.take (k+1)))),⟨k+1,rfl,om,rfl⟩,aM,λrc=>?_⟩;have Ir:Sx buf=bH (l.take k):=by rw[ha,cW,gP,oA]
  rw[b9 om,bp hk,bN,gd hk,arP F _ c buf om,bM om];rw[ha,ef,ef,J0 _ _ _ hk];simp[cW]
 .obtain rfl:k=Sx l:=om;have:(cW (ef l)).length=bH l:=by rw[cW,gP,oA]
  unfold mg wx;grind[cy,decide_eq_true,Z5,Ni]
theorem apX(F:Nat)(l:J aA)(hF:Sx l<F)(h1:Sx l<1000000000)(h2:bH l<=1000000):qC F l=iN (ef l):=Is F l hF h1 om
def Bn(c:Int)(o:J (J aA)×J aA)(q:Bs):J (J aA)×J aA:=(o.1++[o.2],[aA.mk q c])
def pcP(c:Int)(o:J (J aA)×J aA):J Bs->J (J aA)×J aA|[]=>o|p::ps=>ps.foldl (Bn c) (o.1,o.2++[aA.mk p c])
def nS(o:J (J aA)×J aA)(r:aA):J (J aA)×J aA:=cond (jg r.aH) o (pcP r.aH o (cq r.fText))
def E7(l:J aA):J (J aA)×J aA:=l.foldl nS ([],[])
def dD(l:J aA):J (J aA):=(E7 l).1++[(E7 l).2]
theorem Yw(c:Int):∀(ps:J Bs)(o:J (J aA)×J aA),o.1 <+: (ps.foldl (Bn c) o).1|[],o=>abP|q::ps,o=>(List.prefix_append o.1 [o.2]).trans (Yw c ps (Bn c o q))
theorem apY(o:J (J aA)×J aA)(r:aA):o.1 <+: (nS o r).1:=by
 unfold nS;cases jg r.aH
 .cases cq r.fText with|nil=>exact abP|cons p ps=>exact Yw r.aH ps (o.1,o.2++[aA.mk p r.aH])
 .exact abP
theorem Yx:∀(l:J aA)(o:J (J aA)×J aA),o.1 <+: (l.foldl nS o).1|[],o=>abP|r::l,o=>(apY o r).trans (Yx l (nS o r))
variable{F:Nat}{pat:J aA -> J aD}
section
variable {lit : J aA -> Bool}
def rD(pat:J aA->J aD)(lit:J aA->Bool)(t:J aA):aP:=aP.mk (ef t) (pat t) (lit t)
def PcK(F:Nat)(pat:J aA->J aD)(lit:J aA->Bool)(t:J aA):Prop:=eu F t=iN (pat t)/\(∃x,iu F (pat t)=iN (x,lit t))/\t.length<F/\t.length<1000000/\bH t<=1000000
theorem arQ{t:J aA}(hK:PcK F pat lit t)(fs:J aN)(ds:J (J aA))(dead:J (cK×Bool))(found:J Bs)(hd:Sx ds<=1000000):
  qo F t fs (ds.map (rD pat lit)) (ds.all lit) dead (ds.map ef) found=iN (fs,(ds++[t]).map (rD pat lit),(ds++[t]).all lit,(ds++[t]).map ef,found):=by
 obtain⟨h1,⟨x,h2⟩,h3,h4,h5⟩:=hK;unfold qo;rw[apX F t h3 om h5,aC,h1,aC];rw[h2,aC,aG,aC];have e:cond (ds.all lit) ((x,lit t).2,ds.map ef,found) (eK,ds.map ef,found)=(ds.all lit&&lit t,ds.map ef,found):=by cases ds.all lit<;>rfl
 rw[e];rw[dn aM om,dn aM om];simp[rD]
abbrev PSt:=(J aA)×Int×(J aN)×(J aP)×Bool×(J Bs)×(J Bs)
def pSt(pat:J aA->J aD)(lit:J aA->Bool)(fs:J aN)(i:Nat)(o:J (J aA)×J aA):PSt:=(o.2,(i:Int),fs,o.1.map (rD pat lit),o.1.all lit,o.1.map ef,[])
theorem pieces_eq{l:J aA}{fs:J aN}{dead:J (cK×Bool)}(hF:Sx l<F)(oN:bH l+1<F)(h1:Sx l<1000000)(h2:bH l<=1000000)(hn:(dD l).length<=1000000)(arR:∀k,((l.take k).foldl nS ([],[])).2.length<=1000000)(hK:∀t∈dD l,PcK F pat lit t):
  nN F l fs [] eQ dead [] []=iN (fs,(dD l).map (rD pat lit),(dD l).all lit,(dD l).map ef,[]):=by
 have hmem:∀t,t∈(E7 l).1->PcK F pat lit t:=λt ht=>hK t (by unfold dD;simp[ht]);have aia:PcK F pat lit (E7 l).2:=hK _ (by unfold dD;simp);have hlen:(E7 l).1.length+1<=1000000:=by have:=hn;unfold dD at this;simpa using this
 unfold nN wx;refine bW (λx:PSt=>∃k:Nat,k<=Sx l/\x=pSt pat lit fs k ((l.take k).foldl nS ([],[]))) (λx=>Sx l-x.2.1.toNat) ?_ F _ ⟨0,om,rfl⟩ aM;rintro x ⟨k,hk,rfl⟩;have hpre:((l.take k).foldl nS ([],[])).1 <+: (E7 l).1:=by have:=Yx (l.drop k) ((l.take k).foldl nS ([],[]));rwa [<-PK,DB]at this
 have hnk:=arR k;by_cases hk:k<Sx l
 .left;have ao2:(l.take (k+1)).foldl nS ([],[])=nS ((l.take k).foldl nS ([],[])) l[k]:=by grind[List.take_succ_eq_append_getElem]
  refine⟨pSt pat lit fs (k+1) ((l.take (k+1)).foldl nS ([],[])),⟨k+1,om,rfl⟩,by simp only[pSt];omega,λrc=>?_⟩;have V6:(nS ((l.take k).foldl nS ([],[])) l[k]).1 <+: (E7 l).1:=by rw[<-ao2];have:=Yx (l.drop (k+1)) ((l.take (k+1)).foldl nS ([],[]));rwa [<-PK,DB]at this
  have htl:l[k].fText.length<=bH l:=SQ (fW hk);rw[ao2];generalize(l.take k).foldl nS ([],[])=o at hpre V6 hnk;unfold pSt;dsimp only;rw[b9 om,bp hk,bN,gd hk,aG,aC];have e1:cond (l[k].aH != 0) (l[k].aH != 1,o.1.map ef,([]:J Bs)) (eK,o.1.map ef,[])=(l[k].aH != 0&&l[k].aH != 1,o.1.map ef,[]):=by grind
  rw[e1];dsimp only;rw[aG,aC];have e2:cond (l[k].aH != 0&&l[k].aH != 1) (l[k].aH != 2,o.1.map ef,([]:J Bs)) (eK,o.1.map ef,[])=(jg l[k].aH,o.1.map ef,[]):=by grind[Yt]
  rw[e2];dsimp only;rw[bM om];unfold nS at V6⊢;cases hc:jg l[k].aH with
  | true=>rfl|false=>
   rw[hc]at V6;rw[aI,aI]at *;rw[Yu F _ om,aC,dn aM om];generalize Nk:pcP l[k].aH o (cq l[k].fText)=fin at V6;have awl:Sx fin.1<=1000000:=by grind
   refine bW (R:=(J aN)×(J aP)×Bool×(J Bs)×(J Bs))
    (λx=>∃(o2:J (J aA)×J aA)(rest:Bs)(sl:Bool),x=(o2.2,rest,sl,fs,o2.1.map (rD pat lit),o2.1.all lit,o2.1.map ef,[])/\rest.length<=l[k].fText.length /\
     ((sl=eK/\o2=fin)\/(sl=eQ/\(cq rest).foldl (Bn l[k].aH) o2=fin))) (λx=>cond x.2.2.1 (Sx x.2.1+1) 0) ?_ F _ ?_ ?_
   .rintro x ⟨o2,rest,sl,rfl,hrl,Au⟩;dsimp only;rcases Au with⟨rfl,rfl⟩|⟨rfl,hf⟩
    .simp_all
    .left;have hne:=rz rest;have hy:o2.2∈(E7 l).1/\o2.1.length<=1000000:=by
      cases hp:cq rest with
      | nil=>exact absurd hp hne|cons p ps=>
       rw[hp]at hf;have V7:(o2.1++[o2.2]) <+: fin.1:=by rw[<-hf];exact Yw l[k].aH ps (Bn l[k].aH o2 p)
       refine⟨(V7.trans V6).subset si,?_⟩;grind
     have hyy:=arQ (hmem _ hy.1) fs o2.1 dead [] hy.2;rcases J4 rest with⟨g1,g2⟩|⟨a,r,g1,g2,g3⟩
     .refine⟨_,⟨(o2.1++[o2.2],[aA.mk rest l[k].aH]),[],eK,rfl,si,.inl ⟨rfl,?_⟩⟩,si,λbA=>?_⟩
      .rw[g2]at hf;exact hf
      .rw[aQ,hyy,aC,Yu F _ om,g1,aC]
     .refine⟨_,⟨(o2.1++[o2.2],[aA.mk a l[k].aH]),r,eQ,rfl,om,.inr ⟨rfl,?_⟩⟩,aM,λbA=>?_⟩
      .rw[g2]at hf;exact hf
      .rw[aQ,hyy,aC,Yu F _ om,g1,aC]
   .rcases J4 l[k].fText with⟨g1,g2⟩|⟨a,r,g1,g2,g3⟩
    .refine⟨(o.1,o.2++[aA.mk l[k].fText l[k].aH]),[],eK,by rw[g1],si,.inl ⟨rfl,?_⟩⟩;rw[g2]at Nk;exact Nk
    .refine⟨(o.1,o.2++[aA.mk a l[k].aH]),r,eQ,by rw[g1],om,.inr ⟨rfl,?_⟩⟩;rw[g2]at Nk;exact Nk
   grind[J4]
 .right;obtain rfl:k=Sx l:=om;intro rc;have ht:(l.take l.length).foldl nS ([],[])=E7 l:=by rw[nW];rfl
  rw[ht];unfold pSt;dsimp only;rw[cf om,arQ aia fs (E7 l).1 dead [] om];rfl
end
theorem aib{r:J aA}(hF:(iV r).length<F)(h0:(iV r).length<1000000000)(h1:Sx r<=1000000000)(h2:bH r<=1000000000)(h:∀c∈iV r,∃p x,fM F c=iN p/\jo F p=iN x):∃b,(b=eQ->True)/\qb F r=iN b:=by
 unfold qb JN wx;rw[bX h1 h2];have hB:∀(F2:Nat)(x:O Bool),(∃b,True/\x=iN b)->∃b,(b=eQ->True)/\x=iN b:=λ_ x ⟨b,_,h⟩=>⟨b,λ_=>trivial,h⟩;refine hB F _ (yV (λ_=>True) (λx=>∃k:Nat,x.2.2=(k:Int)/\k<=Sx (iV r)) (λx=>Sx (iV r)-x.2.2.toNat) ?_ F (0,0,0) ⟨0,rfl,om⟩ aM)
 .rintro⟨a,b,ii⟩ ⟨k,h0,hk⟩;dsimp only at h0⊢;subst h0;by_cases hk:k<Sx (iV r)
  .left;obtain⟨p,x,e1,e2⟩:=h (iV r)[k] (fW hk);refine⟨(cond (!x.2) (aE (a+1),b,((k+1:Nat):Int)) (cond (x.1==[46,46]) (a,aE (b+1),((k+1:Nat):Int)) (a,b,((k+1:Nat):Int)))),⟨k+1,?_,om⟩,?_,λrc=>?_⟩
   .grind
   .grind
   .rw[bp hk,bN,gd hk,e1,aC,bM om];grind
  simp_all[trivial,cf,aG,aC]
theorem acG(l:J aA):(iV l).length<=bH l+1:=by have:=UG l ([],[]);unfold iV gA;simp[Ig]at *;omega
theorem aic:∀ {c:J aA},(∀r∈c,Sx r.fText=1)->bH c=Sx c|[],_=>rfl|r::c,h=>by have:=aic (c:=c) λx hx=>h x (by simp[hx]);have:=h r si;unfold bH at *;simp;omega
theorem SU(p:Bs)(c:Int):ef [aA.mk p c]=p:=by simp[ef]
variable{cwd:Bs}
theorem aid(h:gm cwd=eQ):VZ cwd [47]=([47],0):=by unfold VZ;rw[h];rfl
def eP(p n:Bs):Bs:=cond (p==[47]) ([47]++n) ((p++[47])++n)
def kS(l:J aN)(p:Bs):Bool:=(gy l p).elim eK λf=>f.kQ
def xS(n:Bs):Bool:=n.take 1==[46]
def K7(c:aP):Bool:=eJ (0<Sx c.jI)&&((c.jI.getD 0 dL).fKind==1&&(c.jI.getD 0 dL).fText==[46])
def kM(mt:J aD->Bs->Bool)(c:aP)(n:Bs):Bool:=!((xS n && !K7 c) || !mt c.jI n)
def W(l:J aN)(mt:J aD->Bs->Bool):J aP->Bs->J (J Bs)
 | [],p=>[[]]
 | c::cs,p=>cond (!kS l p) [] (cond (!c.dP) (((dz l p).filter (kM mt c)).flatMap λn=>(W l mt cs (eP p n)).map (n :: ·))
   (cond (c.aR==[]||c.aR==[46]) ((W l mt cs p).map (c.aR :: ·)) (cond (c.aR==[46,46]) ((W l mt cs (ic p)).map (c.aR :: ·))
   (cond (gy l (eP p c.aR)).isNone [] ((W l mt cs (eP p c.aR)).map (c.aR :: ·))))))
def qp(l:J aN)(mt:J aD->Bs->Bool)(c:aP)(cs:J aP)(p:Bs):W l mt (c::cs) p=cond (!kS l p) [] (cond (!c.dP) (((dz l p).filter (kM mt c)).flatMap λn=>(W l mt cs (eP p n)).map (n :: ·))
   (cond (c.aR==[]||c.aR==[46]) ((W l mt cs p).map (c.aR :: ·)) (cond (c.aR==[46,46]) ((W l mt cs (ic p)).map (c.aR :: ·))
   (cond (gy l (eP p c.aR)).isNone [] ((W l mt cs (eP p c.aR)).map (c.aR :: ·)))))):=rfl
theorem acH(F:Nat)(n:Bs):cC F n [46]=iN (xS n):=by cases n with|nil=>rfl|cons b n=>unfold cC kH xS wx;rw[b9 aM,bX si aM];rfl
theorem amY(F:Nat)(n:Bs):cC F n [47]=iN (n.take 1==[47]):=by cases n with|nil=>rfl|cons b n=>unfold cC kH wx;rw[b9 aM,bX si aM];rfl
theorem acI(F:Nat)(p n:Bs)(hp:Sx p<=1000000)(hn:Sx n<=1000000):sO F p n=iN (eP p n):=by unfold sO eP wx;rw[jP aM,jP aM,jP aM,aG]
def aie(F:Nat)(p:Bs)(hs:Sx p<1000000000):wX F p=iN (ic p):=ZZ F p hs
variable{l:J aN}{mt:J aD -> Bs -> Bool}{parts:J aP}{names:J Bs}
abbrev UR:=Bool×(J aN)×(J aP)×(J (cK×Bool))×(J Bs)×(J Bs)
def E8(F:Nat)(rb:Int->Bs->(J aN)->(J aP)->(J (cK×Bool))->(J Bs)->(J Bs)->O UR)(a2:J aN)(a3:J aP)(a4:J (cK×Bool))(bA:Bs×Int×(J Bs)×(J Bs)->O UR)(x1:Bs×Int×(J Bs)×(J Bs)):O UR:=
 cond (eJ (x1.2.1<(Sx a3:Int)))
 ((sX F a2 x1.1).bind λx3=>
 (cond (!x3.2)
 (iN (eQ,x1.2.2.1,x1.2.2.2))
 (iN (!x3.1.kQ,x1.2.2.1,x1.2.2.2)):O (Bool×(J Bs)×(J Bs))).bind λx4=>
 cond x4.1
 (iN (eK,a2,a3,a4,x4.2.1,x4.2.2))
 (rq ((eJ (0<=x1.2.1))&&(eJ (x1.2.1<(Sx a3:Int)))) (cond (!((a3.getD (eI x1.2.1) oR).dP))
 ((rb x1.2.1 x1.1 a2 a3 a4 x4.2.1 x4.2.2).bind λx5=>
 iN (x5.1,x5.2.1,x5.2.2.1,x5.2.2.2.1,x5.2.2.2.2.1,x5.2.2.2.2.2))
 ((cond (((a3.getD (eI x1.2.1) oR).aR)==[])
 (iN (eQ,x4.2.1,x4.2.2))
 (iN (((a3.getD (eI x1.2.1) oR).aR)==([46]:Bs),x4.2.1,x4.2.2)):O (Bool×(J Bs)×(J Bs))).bind λx6=>
 cond x6.1
 (bA (x1.1,aE (x1.2.1+1),x6.2.1,x6.2.2))
 (cond (((a3.getD (eI x1.2.1) oR).aR)==([46,46]:Bs))
 ((wX F x1.1).bind λx7=>
 bA (x7,aE (x1.2.1+1),x6.2.1,x6.2.2))
 ((sO F x1.1 ((a3.getD (eI x1.2.1) oR).aR)).bind λx8=>
 (sX F a2 x8).bind λx9=>
 cond (!x9.2)
 (iN (eK,a2,a3,a4,x6.2.1,x6.2.2))
 (bA (x8,aE (x1.2.1+1),x6.2.1,x6.2.2))))))))
 ((zP F ([47]:Bs) x1.2.2.1).bind λcw=>
 rq ((eJ (Sx x1.2.2.2+Sx ([cw.1]:J Bs)<=9223372036854775807))&&(eJ ((Sx x1.2.2.2+Sx ([cw.1]:J Bs))*16<=140737488355328))) (iN (eQ,a2,a3,a4,cw.2,x1.2.2.2++([cw.1]:J Bs))))
def V8(n:Nat)(a0:Int)(a1:Bs)(a2:J aN)(a3:J aP)(a4:J (cK×Bool))(a5 a6:J Bs):
  nD F (n+1) a0 a1 a2 a3 a4 a5 a6=ck (E8 F (iA F n) a2 a3 a4) F (a1,a0,a5,a6):=rfl
def acJ(n:Nat)(a0:Int)(a1:Bs)(a2:J aN)(a3:J aP)(a4:J (cK×Bool))(a5 a6:J Bs):
  mh F (n+1) a0 a1 a2 a3 a4 a5 a6=cond (gp dc a4 (cK.mk a0 a1) eK)
   (iN (eK,a2,a3,a4,a5,a6))
   ((nD F n a0 a1 a2 a3 a4 a5 a6).bind λx1=>
   cond (!x1.1)
   (iN (x1.1,x1.2.1,x1.2.2.1,jJ dc x1.2.2.2.1 (cK.mk a0 a1) eQ,x1.2.2.2.2.1,x1.2.2.2.2.2))
   (iN (x1.1,x1.2.1,x1.2.2.1,x1.2.2.2.1,x1.2.2.2.2.1,x1.2.2.2.2.2))):=rfl
def V9(l:J aN)(mt:J aD->Bs->Bool)(parts:J aP)(dead:J (cK×Bool)):Prop:=∀(i:Nat) p,gp dc dead (cK.mk (i:Int) p) eK=eQ->W l mt (parts.drop i) p=[]
structure EA(parts:List aP)(i:Nat)(names:List Bs):Prop where
 len:Sx names=Sx parts
 lit:∀j,i<=j->∀h:j<Sx parts,parts[j].dP=eQ->names.getD j []=parts[j].aR
 sz:∀n∈names,Sx n<=4000
def Sz(l:J aN)(parts:J aP):Prop:=VL l/\parts.length<=4000/\(∀c∈parts,Sx c.aR<=4000)
theorem US:∀(l:J Bs),(∀n∈l,Sx n<=4000)->Sx (di l)<=4001*Sx l
 | [],_=>by simp[di]|x::l,h=>by have ih:=US l λn hn=>h n (by simp[hn]);have hx:=h x si;cases l with|nil=>simp[di]at *;omega|cons y l=>rw[sZ x si];simp at *;omega
theorem It{p:Bs}{f:aN}(hv:VL l)(h:gy l p=iN f):Sx p<=128/\gm p=eQ/\f∈l:=by obtain⟨h1,h2⟩:=JZ h;subst h2;exact⟨hv.small f h1,hv.path f h1,h1⟩
theorem HQ(hv:VL l){p n:Bs}(h:n∈dz l p):ld n=eQ/\n.length<=32:=by obtain⟨f,hf,rfl⟩:=kq.1 h;rw[PR]at hf;unfold uf at hf;simp only[cH,wL]at hf;obtain⟨-,c,-,hc,-,-,e1,-,-⟩:=Bl (hv.path f hf.1) hf.2.1;simp_all[xO]
theorem acK(hF:1000<=F)(hv:VL l){p:Bs}(h:kS l p=eQ):B7 F l p=iN (dz l p,0):=by
 rw[agA F l p hF hv];unfold kS at h;cases hf:gy l p with
 | none=>rw[hf]at h;cases h
 | some f=>rw[hf]at h;have h:f.kQ=eQ:=h;unfold SO;rw[(It hv hf).2.1,hf];simp[h]
def OH(l:J aN)(mt:J aD->Bs->Bool)(parts:J aP)(i:Nat)(path:Bs)(names found:J Bs)(r:UR):Prop:=∃ao3 names',r=(!(W l mt (parts.drop i) path).isEmpty,l,parts,ao3,names',found++(W l mt (parts.drop i) path).map λws=>di (names.take i++ws))/\V9 l mt parts ao3/\EA parts i names'/\names'.take i=names.take i
theorem EA.up(h:EA parts i names):EA parts (i+1) names:=⟨h.len,λj hj=>h.lit j om,h.sz⟩
theorem acL(h:EA parts i names)(hi:i<Sx parts)(hl:parts[i].dP=eQ):names.take (i+1)=names.take i++[parts[i].aR]:=by
 have h1:i<Sx names:=by rw[h.len];exact hi
 rw[ku h1];have:=h.lit i (eE _) hi hl;simp_all
theorem OH.lit{path path':Bs}{found:J Bs}{r:UR}(hn:EA parts i names)(hi:i<Sx parts)(hl:parts[i].dP=eQ)
  (hW:W l mt (parts.drop i) path=(W l mt (parts.drop (i+1)) path').map (parts[i].aR :: ·)) (h:OH l mt parts (i+1) path' names found r):OH l mt parts i path names found r:=by
 obtain⟨d,n',rfl,h1,h2,h3⟩:=h;have h4:n'.take i=names.take i:=by have:=congrArg (List.take i) h3;grind
 refine⟨d,n',?_,h1,⟨h2.len,λj hj hlt hlj=>?_,h2.sz⟩,h4⟩
 .rw[acL hn hi hl];simp_all
 .by_cases e:j=i
  .subst e;have h5:=acL hn hi hl;have h6:j<Sx n':=by rw[h2.len];exact hi
   grind[List.take_succ_eq_append_getElem,List.append_cancel_left,gd,List.singleton_inj]
  .exact h2.lit j om hlt hlj
theorem afs(hF:100000<=F)(hS:Sz l parts)(hM:∀c∈parts,c.dP=eK->∀n:Bs,Sx n<=32->jS F c.jI n=iN (mt c.jI n)):
  ∀(k i:Nat)(path:Bs)(dead:J (cK×Bool))(names found:J Bs),i+k=Sx parts->V9 l mt parts dead->EA parts i names->Sx found+Sx (W l mt (parts.drop i) path)<=1000000 ->
   (∀n G,3*k+1<=n->k<G->∃r,ck (E8 F (iA F n) l parts dead) G (path,(i:Int),names,found)=iN r/\OH l mt parts i path names found r) /\
   (∀n,3*k+3<=n->∃r,mh F n (i:Int) path l parts dead names found=iN r/\OH l mt parts i path names found r):=by
 obtain⟨hv,awm,atY⟩:=hS;have hll:=hv.len;intro k
 induction k with
 | zero=>
  intro i path dead names found hi hD hN hsz;have hd:parts.drop i=[]:=Vz om;have key:∀n G,3*0+1<=n->0<G->∃r,ck (E8 F (iA F n) l parts dead) G (path,(i:Int),names,found)=iN r/\OH l mt parts i path names found r:=by
   intro n G hn hG;obtain⟨G,rfl⟩:∃H,G=H+1:=⟨G-1,om⟩;have hj:=US names hN.sz;have hln:=hN.len;have hw:W l mt (parts.drop i) path=[[]]:=by rw[hd];rfl
   rw[hw]at hsz;simp only[abB]at hsz;refine⟨(eQ,l,parts,dead,names,found++[di names]),?_,dead,names,?_,hD,hN,rfl⟩
   .show E8 F _ l parts dead _ (path,(i:Int),names,found)=_;unfold E8;dsimp only;rw[cf om,acF F names om om,aC,dn aM om]
   .rw[hw,va om];simp
  refine⟨key,λn hn=>?_⟩;obtain⟨n,rfl⟩:∃m,n=m+2:=⟨n-2,om⟩;rw[acJ];cases hg:gp dc dead (cK.mk (i:Int) path) eK with
  | true=>have:=hD i path hg;rw[hd]at this;cases this
  | false=>rw[aI,V8];obtain⟨r,h1,h2⟩:=key n F om om;rw[h1,aC];obtain⟨d,n',rfl,h3,h4,h5⟩:=h2;refine⟨_,?_,d,n',rfl,h3,h4,h5⟩;rw[hd];rfl
 | succ k ih=>
  intro i path dead names found hi hD hN hsz;have hil:i<Sx parts:=om;have hd:parts.drop i=parts[i]::parts.drop (i+1):=tu hil;have hg:parts.getD i oR=parts[i]:=gd hil;have ao4:parts[i]∈parts:=fW hil;have htl:=atY _ ao4;have TZ:parts[i].dP=eK->kS l path=eQ->∀n,3*k+4<=n->∃r,iA F n (i:Int) path l parts dead names found=iN r/\OH l mt parts i path names found r:=by
   intro hl K8 n hn;obtain⟨n,rfl⟩:∃m,n=m+1:=⟨n-1,om⟩;have awn:Sx path<=128:=by
    unfold kS at K8;cases hf:gy l path with
    | none=>rw[hf]at K8;cases K8
    | some f=>exact(It hv hf).1
   have hw:W l mt (parts.drop i) path=((dz l path).filter (kM mt parts[i])).flatMap λn=>(W l mt (parts.drop (i+1)) (eP path n)).map (n :: ·):=by rw[hd,qp,K8,hl];rfl
   show ∃r,rE F (mh F n) (nD F n) (iA F n) (i:Int) path l parts dead names found=iN r/\_;unfold rE wx;rw[bp hil,bN,hg]
   have e1:((cond (eJ (0<(Sx (parts[i].jI):Int))) (rq (eJ (0<(Sx (parts[i].jI):Int))) (iN (((parts[i].jI.getD 0 dL).fKind)==1,names,found))) (iN (eK,names,found)):O (Bool×(J Bs)×(J Bs))).bind λx1=>
     (cond x1.1 (rq (eJ (0<(Sx (parts[i].jI):Int))) (iN (((parts[i].jI.getD 0 dL).fText)==([46]:Bs),x1.2.1,x1.2.2))) (iN (eK,x1.2.1,x1.2.2)):O (Bool×(J Bs)×(J Bs))))=iN (K7 parts[i],names,found):=by
    unfold K7;by_cases h0:0<parts[i].jI.length
    .rw[b9 om,jP om,aC,dT h0];dsimp only;rw[jP om];cases ((parts[i].jI.getD 0 dL).fKind==1)<;>rfl
    .rw[cf om,aC,dF h0];rfl
   rw[<-abx,e1,aC,acK om hv K8,aC];have hkl:(dz l path).length<=128:=by unfold dz;rw[gP];exact jR (MY _ _) hll
   have atZ:∀x:O UR,(∃r,OH l mt parts i path names found r/\x=iN r)->∃r,x=iN r/\OH l mt parts i path names found r:=λx ⟨r,h1,h2⟩=>⟨r,h2,h1⟩
   refine atZ _ (yV (R:=UR) (OH l mt parts i path names found)
    (λx:Bool×Int×(J aN)×(J aP)×(J (cK×Bool))×(J Bs)×(J Bs)=>∃(j:Nat)(d:J (cK×Bool))(ns:J Bs),j<=Sx (dz l path)/\V9 l mt parts d/\EA parts (i+1) ns/\ns.take i=names.take i /\
     x=(!((((dz l path).take j).filter (kM mt parts[i])).flatMap λn=>(W l mt (parts.drop (i+1)) (eP path n)).map (n :: ·)).isEmpty,(j:Int),l,parts,d,ns,found++((((dz l path).take j).filter (kM mt parts[i])).flatMap λn=>(W l mt (parts.drop (i+1)) (eP path n)).map (n :: ·)).map λws=>di (names.take i++ws)))
    (λx=>Sx (dz l path)-x.2.1.toNat) ?_ F (eK,0,l,parts,dead,names,found) ⟨0,dead,names,om,hD,hN.up,rfl,si⟩ aM)
   .rintro x ⟨j,d,ns,hj,hD2,Wa,ht2,rfl⟩;dsimp only;by_cases hjl:j<Sx (dz l path)
    .left;have lI:(dz l path).getD j []=(dz l path)[j]:=gd hjl;have hkm:(dz l path)[j]∈dz l path:=fW hjl;obtain⟨hkn,avj⟩:=HQ hv hkm;have htk:(dz l path).take (j+1)=(dz l path).take j++[(dz l path)[j]]:=ku hjl;cases hkeep:kM mt parts[i] (dz l path)[j]with
     | false=>
      have hf:((dz l path).take (j+1)).filter (kM mt parts[i])=((dz l path).take j).filter (kM mt parts[i]):=by rw[htk,Sw];simp[hkeep]
      refine⟨_,⟨j+1,d,ns,om,hD2,Wa,ht2,rfl⟩,aM,λrc=>?_⟩;rw[hf,b9 om,bp hjl,bN,lI,acH,aC,bM om,aG,aC];unfold kM at hkeep;cases h1:xS (dz l path)[j]with
      | true=>rw[h1]at hkeep;rw[aQ];dsimp only;cases h2:K7 parts[i]with|false=>rfl|true=>grind
      | false=>grind
     | true=>
      have hf:((dz l path).take (j+1)).filter (kM mt parts[i])=((dz l path).take j).filter (kM mt parts[i])++[(dz l path)[j]]:=by rw[htk,Sw];simp[hkeep]
      have qq:(ns.set i (dz l path)[j]).take (i+1)=names.take i++[(dz l path)[j]]:=by
       have h1:i<Sx (ns.set i (dz l path)[j]):=by rw[ahJ,Wa.len];exact hil
       rw[ku h1,List.getElem_set_self,List.take_set_of_le (eE _),ht2]
      have hN3:EA parts (i+1) (ns.set i (dz l path)[j]):=⟨by rw[ahJ];exact Wa.len,λq hq hqi qO=>by
       have:=Wa.lit q hq hqi qO;rw[UA,MQ om,<-UA];exact this,λn hn=>by
       rcases aoQ hn with h|rfl
       .exact Wa.sz n h
       .omega⟩
      have hsub:Sx found+(Sx ((((dz l path).take j).filter (kM mt parts[i])).flatMap λn=>(W l mt (parts.drop (i+1)) (eP path n)).map (n :: ·)))+Sx (W l mt (parts.drop (i+1)) (eP path (dz l path)[j]))<=1000000:=by rw[hw]at hsz;have h1:dz l path=(dz l path).take (j+1)++(dz l path).drop (j+1):=(DB _ _).symm;rw[h1,Sw,Ia,hf,Ia]at hsz;simp only[ov,q8,PN,FK,gP]at hsz;omega
      obtain⟨-,aif⟩:=ih (i+1) (eP path (dz l path)[j]) d (ns.set i (dz l path)[j]) (found++((((dz l path).take j).filter (kM mt parts[i])).flatMap λn=>(W l mt (parts.drop (i+1)) (eP path n)).map (n :: ·)).map λws=>di (names.take i++ws)) om hD2 hN3 (by rw[ov,gP];omega);obtain⟨r,hr,d',n',rfl,g1,g2,g3⟩:=aif n om;have avk:n'.take i=names.take i:=by have h1:=congrArg (List.take i) g3;rw[qq,abL,ahK om,aoP (by rw[pX,hN.len];omega),abL,Nat.min_self]at h1;exact h1
      refine⟨_,⟨j+1,d',n',om,g1,g2,avk,rfl⟩,aM,λrc=>?_⟩;rw[hf,b9 om,bp hjl,bN,lI,acH,aC,bM om,aG,aC];have hk2:=hkeep;unfold kM at hk2;simp only[wL,abz,ahC]at hk2;have e2:cond (xS (dz l path)[j]) (!K7 parts[i],ns,found++((((dz l path).take j).filter (kM mt parts[i])).flatMap λn=>(W l mt (parts.drop (i+1)) (eP path n)).map (n :: ·)).map λws=>di (names.take i++ws)) (eK,ns,found++((((dz l path).take j).filter (kM mt parts[i])).flatMap λn=>(W l mt (parts.drop (i+1)) (eP path n)).map (n :: ·)).map λws=>di (names.take i++ws))=(eK,ns,found++((((dz l path).take j).filter (kM mt parts[i])).flatMap λn=>(W l mt (parts.drop (i+1)) (eP path n)).map (n :: ·)).map λws=>di (names.take i++ws)):=by grind
      rw[e2];dsimp only;rw[aI,hM _ ao4 hl _ avj,aC,aC,hk2.2];dsimp only;rw[fU,aI,bp (by rw[Wa.len];exact hil),acI F _ _ om om,aC,bM om,hr,aC];dsimp only;rw[qq,Ia,lZ];cases hW:W l mt (parts.drop (i+1)) (eP path (dz l path)[j])with
      | nil=>simp only[List.isEmpty_nil,fU,aI,BI,FK,q8,PN,hW]|cons a b=>
       have e3:(((((dz l path).take j).filter (kM mt parts[i])).flatMap λn=>(W l mt (parts.drop (i+1)) (eP path n)).map (n :: ·))++([(dz l path)[j]].flatMap λn=>(W l mt (parts.drop (i+1)) (eP path n)).map (n :: ·))).isEmpty=eK:=by rw[q8,PN,hW];simp
       rw[e3];simp only[List.isEmpty_cons,nu,aQ,q8,PN,FK,hW,xu,sD];congr 8
    .right;obtain rfl:j=Sx (dz l path):=om;rw[nW];refine⟨_,⟨d,ns,rfl,hD2,⟨Wa.len,λq hq hqi qO=>?_,Wa.sz⟩,ht2⟩,λrc=>?_⟩
     .by_cases e:q=i
      .subst e;rw[hl]at qO;cases qO
      .exact Wa.lit q om hqi qO
     .rw[cf om,hw]
  have key:∀n G,3*(k+1)+1<=n->k+1<G->∃r,ck (E8 F (iA F n) l parts dead) G (path,(i:Int),names,found)=iN r/\OH l mt parts i path names found r:=by
   intro n G hn hG;obtain⟨G,rfl⟩:∃H,G=H+1:=⟨G-1,om⟩;show ∃r,E8 F _ l parts dead (ck _ G) (path,(i:Int),names,found)=iN r/\_;have ao5:kS l path=eK->OH l mt parts i path names found (eK,l,parts,dead,names,found):=by
    intro h;have hw:W l mt (parts.drop i) path=[]:=by rw[hd,qp,h];rfl
    exact⟨dead,names,by rw[hw];simp,hD,hN,rfl⟩
   unfold E8;dsimp only;rw[b9 om,find_eq F l path om om,aC];cases hf:gy l path with
   | none=>exact⟨_,rfl,ao5 (by unfold kS;rw[hf];rfl)⟩|some f=>
    obtain⟨hpl,hps,hfl⟩:=It hv hf;have hp1:1<=Sx path:=by
     cases path with
     | nil=>cases hps
     | cons b p=>simp
    dsimp only[Option.elim];rw[fU,aI,aC];dsimp only;cases OI:f.kQ with
    | false=>exact⟨_,rfl,ao5 (by unfold kS;rw[hf];exact OI)⟩|true=>
     have K8:kS l path=eQ:=by unfold kS;rw[hf];exact OI
     rw[fU,aI,bp hil,bN,hg];cases hl:parts[i].dP with
     | false=>grind|true=>
      rw[fU,aI,aG,aC];have e3:cond (parts[i].aR==[]) (eQ,names,found) (parts[i].aR==[46],names,found)=((parts[i].aR==[]||parts[i].aR==[46]),names,found):=by cases (parts[i].aR==[])<;>rfl
      rw[e3];dsimp only;rw[bM om];cases h1:(parts[i].aR==[]||parts[i].aR==[46])with
      | true=>
       have hw:W l mt (parts.drop i) path=(W l mt (parts.drop (i+1)) path).map (parts[i].aR :: ·):=by rw[hd,qp,K8,hl,h1];rfl
       rw[hw,gP]at hsz;rw[aQ];obtain⟨r,hr,hok⟩:=(ih (i+1) path dead names found om hD hN.up hsz).1 n G om om;exact⟨r,hr,hok.lit hN hil hl hw⟩
      | false=>
       rw[aI];cases h2:(parts[i].aR==[46,46])with
       | true=>
        have hw:W l mt (parts.drop i) path=(W l mt (parts.drop (i+1)) (ic path)).map (parts[i].aR :: ·):=by rw[hd,qp,K8,hl,h1,h2];rfl
        rw[hw,gP]at hsz;rw[aQ,aie F path om,aC];obtain⟨r,hr,hok⟩:=(ih (i+1) (ic path) dead names found om hD hN.up hsz).1 n G om om;exact⟨r,hr,hok.lit hN hil hl hw⟩
       | false=>
        rw[aI,acI F path _ om om,aC,find_eq F l _ om om,aC];cases hf2:gy l (eP path parts[i].aR)with
        | none=>
         have hw:W l mt (parts.drop i) path=[]:=by rw[hd,qp,K8,hl,h1,h2,hf2];rfl
         exact⟨_,rfl,dead,names,by rw[hw];simp,hD,hN,rfl⟩
        | some f2=>
         have hw:W l mt (parts.drop i) path=(W l mt (parts.drop (i+1)) (eP path parts[i].aR)).map (parts[i].aR :: ·):=by rw[hd,qp,K8,hl,h1,h2,hf2];rfl
         rw[hw,gP]at hsz;obtain⟨r,hr,hok⟩:=(ih (i+1) (eP path parts[i].aR) dead names found om hD hN.up hsz).1 n G om om;exact⟨r,hr,hok.lit hN hil hl hw⟩
  refine⟨key,λn hn=>?_⟩;obtain⟨n,rfl⟩:∃m,n=m+2:=⟨n-2,om⟩;rw[acJ];cases V2:gp dc dead (cK.mk (i:Int) path) eK with
  | true=>have hw:=hD i path V2;exact⟨_,rfl,dead,names,by rw[hw];simp,hD,hN,rfl⟩|false=>
   rw[aI,V8];obtain⟨r,h1,h2⟩:=key n F om om;rw[h1,aC];obtain⟨d,n',rfl,h3,h4,h5⟩:=h2;cases hW:W l mt (parts.drop i) path with
   | nil=>refine⟨_,rfl,jJ dc d (cK.mk (i:Int) path) eQ,n',by rw[hW],λq p hq=>?_,h4,h5⟩;rw[uR]at hq;cases he:(cK.mk (i:Int) path==cK.mk (q:Int) p)with|true=>grind|false=>rw[he]at hq;exact h3 q p hq
   | cons a b=>exact⟨_,rfl,d,n',by rw[hW],h3,h4,h5⟩
theorem Z6:∀s:Bs,((cq s).map λp=>Sx p+1).sum=Sx s+1
 | []=>rfl|b::l=>by
  have ih:=Z6 l;have hne:=rz l;unfold cq;cases (b==47)
  .rw[aI];cases h:cq l with|nil=>exact absurd h hne|cons p ps=>rw[h]at ih;simp at *;omega
  .rw[aQ,jb,MT];simp;omega
def Gh(o:J (J aA)×J aA):Nat:=(o.1.map λc=>bH c+1).sum+bH o.2
theorem HR(a b:J aA):bH (a++b)=bH a+bH b:=by unfold bH;simp_all
theorem ao6(c:Int):∀(ps:J Bs)(o:J (J aA)×J aA),Gh (ps.foldl (Bn c) o)=Gh o+(ps.map λp=>Sx p+1).sum|[],o=>by simp|q::ps,o=>by rw[sE,ao6 c ps];unfold Gh Bn;simp[Sv,bH];omega
theorem at0(o:J (J aA)×J aA)(r:aA):Gh (nS o r)<=Gh o+Sx r.fText:=by
 unfold nS;cases jg r.aH
 .have hs:=Z6 r.fText;cases h:cq r.fText with
  | nil=>simp_all|cons p ps=>
   rw[h]at hs;show Gh (ps.foldl (Bn r.aH) (o.1,o.2++[aA.mk p r.aH]))<=_;rw[ao6];unfold Gh;simp[HR]at *;have:bH [aA.mk p r.aH]=Sx p:=by simp[bH]
   omega
 .simp
theorem aih:∀(l:J aA)(o:J (J aA)×J aA),Gh (l.foldl nS o)<=Gh o+bH l|[],o=>by simp|r::l,o=>by have h1:=aih l (nS o r);have h2:=at0 o r;simp[bH]at *;omega
theorem apZ{l:J (J aA)}{c:J aA}(h:c∈l):bH c+1<=(l.map λc=>bH c+1).sum:=by
 induction l with
 | nil=>cases h
 | cons a l ih=>grind
theorem ap0(l:J (J aA)):Sx l<=(l.map λc=>bH c+1).sum:=by
 induction l with|nil=>simp|cons a l ih=>grind
theorem SV{l:J aA}:(dD l).length<=bH l+1/\∀t∈dD l,bH t<=bH l:=by
 have h:=aih l ([],[]);have h0:Gh ([],[])=0:=rfl;have h:Gh (E7 l)<=bH l:=by unfold E7;omega
 unfold Gh at h;have h1:=ap0 (E7 l).1;refine⟨by unfold dD;grind,λt ht=>?_⟩;rcases kZ.1 ht with ht|ht
 .have:=apZ ht;omega
 grind
def LI(k:Nat)(o:J (J aA)×J aA):Prop:=(∀c∈o.1,Sx c<=k)/\o.2.length<=k
theorem arS(c:Int):∀(ps:J Bs)(k:Nat)(o:J (J aA)×J aA),LI (k+1) o->LI (k+1) (ps.foldl (Bn c) o)
 | [],k,o,h=>h|q::ps,k,o,h=>arS c ps k _ ⟨λx hx=>by
   rcases kZ.1 hx with hx|hx
   .exact h.1 x hx
   .obtain rfl:=ni.1 hx;exact h.2,by simp[Bn]⟩
variable{k:Nat}{o:J (J aA)×J aA}
theorem avl(h:LI k o)(r:aA):LI (k+1) (nS o r):=by
 unfold nS;cases jg r.aH
 .cases hp:cq r.fText with|nil=>simp_all[rz]|cons p ps=>exact arS r.aH ps k (o.1,o.2++[aA.mk p r.aH]) ⟨λx hx=>ahL (h.1 x hx),by have:=h.2;simp;omega⟩
 .exact⟨λx hx=>ahL (h.1 x hx),ahL h.2⟩
theorem arT:∀(l:J aA)(k:Nat)(o:J (J aA)×J aA),LI k o->LI (k+Sx l) (l.foldl nS o)
 | [],k,o,h=>h|r::l,k,o,h=>by have:=arT l (k+1) _ (avl h r);rwa [show k+1+Sx l=k+Sx (r::l) by simp;omega]at this
theorem amZ(l:J aA):LI l.length (l.foldl nS ([],[])):=by have:=arT l 0 ([],[]) ⟨λc hc=>(by cases hc),si⟩;simp_all
theorem ap1(l:J aA)(k:Nat):((l.take k).foldl nS ([],[])).2.length<=Sx l:=by have:=(amZ (l.take k)).2;grind
theorem Wb{l:J aA}:∀t∈dD l,Sx t<=Sx l:=by
 intro t ht;rcases kZ.1 ht with ht|ht
 .exact(amZ l).1 t ht
 .obtain rfl:=ni.1 ht;exact(amZ l).2
def kC(cwd field:Bs):Bs:=cond (field.take 1==[47]) [47] cwd
def partsOf(pat:J aA->J aD)(lit:J aA->Bool)(r:J aA):J aP:=(dD r).map (rD pat lit)
def ig(r:J aA):Bs:=di ((dD r).map ef)
def FP(l:J aN)(mt:J aD->Bs->Bool)(pat:J aA->J aD)(lit:J aA->Bool)(cwd:Bs)(r:J aA):J Bs:=cond ((dD r).all lit||(W l mt (partsOf pat lit r) (kC cwd (ig r))).isEmpty) [ig r] (pK ((W l mt (partsOf pat lit r) (kC cwd (ig r))).map di))
theorem aky{lit:J aA->Bool}{r:J aA}(hF:100000<=F)(hv:VL l)(hc:gm cwd=eQ)(h1:Sx r<=10000)(h2:bH r<=3000)
  (hK:∀t∈dD r,eu F t=iN (pat t)/\∃x,iu F (pat t)=iN (x,lit t))
  (hM:∀t∈dD r,lit t=eK->∀n:Bs,Sx n<=32->jS F (pat t) n=iN (mt (pat t) n))
  (hW:(W l mt (partsOf pat lit r) (kC cwd (ig r))).length<=1000000):pM F l cwd r=iN (FP l mt pat lit cwd r,0):=by
 obtain⟨g1,g2⟩:=SV (l:=r);have g3:=Wb (l:=r)
 have hpc:nN F r l [] eQ [] [] []=iN (l,_,_,_,[]):=pieces_eq (F:=F) (pat:=pat) (lit:=lit) (l:=r) (fs:=l) (dead:=[]) om om om om om (λk=>by grind[ap1]) (λt ht=>by
  have:=g2 t ht;have:=g3 t ht;exact⟨(hK t ht).1,(hK t ht).2,om,om,om⟩)
 have aii:∀n∈(dD r).map ef,Sx n<=4000:=by grind[oA]
 have hjl:=US _ aii;rw[gP]at hjl;unfold pM wx;rw[amQ F cwd [47] om si,aid hc];show((nN F r l [] eQ [] [] []).bind _)=_;rw[hpc,aC];dsimp only;rw[acF F _ (by grind) om,Option.bind_some];dsimp only;unfold FP;cases ha:(dD r).all lit with
 | true=>rfl|false=>
  rw[aI,amY,aC,aG,aC];have at1:V9 l mt (partsOf pat lit r) []:=λi p h=>by cases h
  have avm:EA (partsOf pat lit r) 0 ((dD r).map ef):=⟨by unfold partsOf;simp_all,λj _ hj _=>by
   unfold partsOf at hj⊢;rw[gP]at hj;rw[gd (by simp_all),MP,MP];rfl,aii⟩
  obtain⟨-,aif⟩:=afs (F:=F) (l:=l) (mt:=mt) (parts:=partsOf pat lit r) hF ⟨hv,by unfold partsOf;grind,λc hc=>by
    obtain⟨t,ht,rfl⟩:=kq.1 hc;have:=g2 t ht;show(ef t).length<=_;rw[oA];omega⟩ (λc hc hl n hn=>by
    obtain⟨t,ht,rfl⟩:=kq.1 hc;exact hM t ht hl n hn) (partsOf pat lit r).length 0 (kC cwd (ig r)) [] ((dD r).map ef) [] om at1 avm (by simpa using hW)
  obtain⟨x,hx,d,n',rfl,-,-,-⟩:=aif F (by unfold partsOf;grind);have e1:cond ((di ((dD r).map ef)).take 1==[47]) (([47]:Bs),(dD r).map ef,([]:J Bs)) (cwd,(dD r).map ef,[])=(kC cwd (ig r),(dD r).map ef,[]):=by unfold kC ig;grind
  rw[e1];dsimp only;unfold vn;rw[show(0:Int)=((0:Nat):Int)from rfl];unfold partsOf at hx⊢;rw[hx,aC];dsimp only;rw[Bool.not_not,PO,M3];cases hE:(W l mt ((dD r).map (rD pat lit)) (kC cwd (ig r))).isEmpty with|true=>rfl|false=>rw[aI,aI];unfold SP;unfold partsOf at hW;rw[jP aM,aC];simp
def J5(e:fK):ei:=ei.mk e.fb e.lq
theorem ap2(r:aA):Gg r=(nj r).map J5:=by
 unfold Gg nj;cases jg r.aH
 .rw[aI,aI,xu];rfl
 .rfl
theorem at2(l:J aA):l.flatMap Gg=(l.flatMap nj).map J5:=by
 induction l with|nil=>rfl|cons r l ih=>simp_all[q8,lZ,ap2]
theorem jZ(x:J fK)(i:Nat)(b:Int):E5 (x.map J5) i b=dY x i b:=by
 unfold E5 dY;rw[gP];by_cases h:i<Sx x
 .rw[gd (by simp_all),MP,gd h];rfl
 .rw[dF h];rfl
def yY(x:J fK)(i:Nat)(s:Bs):Bool:=(aT s.length).all λj=>dY x (i+j) ((s.getD j 0).toNat:Int)
theorem ap3(F:Nat)(x:J fK)(i:Nat)(s:Bs)(hF:Sx s<F)(hi:i<50000000)(hs:Sx s<50000000):GO F (x.map J5) (i:Int) s=iN (yY x i s):=by
 refine bW (λk'=>∃k:Nat,k'=(k:Int)/\k<=Sx s/\∀j,j<k->dY x (i+j) ((s.getD j 0).toNat:Int)=eQ) (λk'=>Sx s-k'.toNat) ?_ F _ ⟨0,rfl,om,λj h=>om⟩ aM;rintro ii ⟨k,rfl,hk,hj⟩;by_cases hk:k<Sx s
 .have hw:aE ((i:Int)+(k:Int))=((i+k:Nat):Int):=by grind[bQ]
  cases h:dY x (i+k) ((s.getD k 0).toNat:Int)with
  | true=>
   left;refine⟨((k+1:Nat):Int),⟨k+1,rfl,om,λj hj2=>?_⟩,aM,λrc=>?_⟩
   .grind
   .rw[b9 om,bp hk,hw,jV,jZ,bN,h,bM om];rfl
  | false=>
   right;intro rc;rw[b9 om,bp hk,hw,jV,jZ,bN,h];have:yY x i s=eK:=by unfold yY;grind
   rw[this];rfl
 .right;obtain rfl:k=Sx s:=om;intro rc;rw[cf om];have:yY x i s=eQ:=by unfold yY;simp_all
  rw[this]
theorem Bo:dY x i b=eQ↔i<Sx x/\(x.getD i cO).lq=eQ/\(x.getD i cO).fb=b:=by unfold dY;simp_all
theorem aij(x:J fK)(i:Nat)(n:Bs)(h5:Sx n=5)(acM:∀b∈n,97<=b.toNat/\b.toNat<=122):
  yY x i ((([91,58]:Bs)++n)++([58,93]:Bs))=((dY x i 91&&dY x (i+1) 58)&&((dY x (i+2+Sx (kR x (i+2))) 58&&dY x (i+2+Sx (kR x (i+2))+1) 93)&&kR x (i+2)==cW n)):=by
 match n,h5 with
 | [a,b,c,d,e],_=>
  have ha:=acM a si;have hb:=acM b si;have hc:=acM c si;have hd:=acM d si;have he:=acM e si;rw[tW];unfold yY;rw[show((([91,58]:Bs)++[a,b,c,d,e])++([58,93]:Bs)).length=9 from rfl];have avn:((aT 9).all λj=>dY x (i+j) ((((([91,58]:Bs)++[a,b,c,d,e])++([58,93]:Bs)).getD j 0).toNat:Int))=eQ ↔
    (dY x i 91=eQ/\dY x (i+1) 58=eQ/\dY x (i+2) (a.toNat:Int)=eQ/\dY x (i+3) (b.toNat:Int)=eQ/\dY x (i+4) (c.toNat:Int)=eQ/\dY x (i+5) (d.toNat:Int)=eQ/\dY x (i+6) (e.toNat:Int)=eQ/\dY x (i+7) 58=eQ/\dY x (i+8) 93=eQ):=by
   rw[pW];constructor
   .intro h;exact⟨h 0 si,h 1 si,h 2 si,h 3 si,h 4 si,h 5 si,h 6 si,h 7 si,h 8 si⟩
   .rintro⟨h0,h1,h2,h3,h4,h5,h6,h7,h8⟩ j hj
    match j,hj with|0,_=>exact h0|1,_=>exact h1|2,_=>exact h2|3,_=>exact h3|4,_=>exact h4|5,_=>exact h5|6,_=>exact h6|7,_=>exact h7|8,_=>exact h8
  rw[avn];have hat:=akv x (i+2);simp only[cH,tv];constructor
  .rintro⟨h0,h1,h2,h3,h4,h5,h6,h7,h8⟩;have g2:=Bo.1 h2;have g3:=Bo.1 h3;have g4:=Bo.1 h4;have g5:=Bo.1 h5;have g6:=Bo.1 h6;have g7:=Bo.1 h7;have hl:∀(k:Nat)(v:UInt8),97<=v.toNat/\v.toNat<=122->(x.getD k cO).lq=eQ/\(x.getD k cO).fb=(v.toNat:Int)->DS (x.getD k cO)=eQ:=by unfold DS;grind
   have iU:x.drop (i+2)=x.getD (i+2) cO::x.getD (i+3) cO::x.getD (i+4) cO::x.getD (i+5) cO::x.getD (i+6) cO::x.getD (i+7) cO::x.drop (i+8):=by simp_all
   have hnl:DS (x.getD (i+7) cO)=eK:=by unfold DS;grind
   have hrun:kR x (i+2)=cW [a,b,c,d,e]:=by unfold kR;rw[iU];simp only[List.takeWhile,hl _ a ha g2.2,hl _ b hb g3.2,hl _ c hc g4.2,hl _ d hd g5.2,hl _ e he g6.2,hnl];simp only[jb,BI,g2.2.2,g3.2.2,g4.2.2,g5.2.2,g6.2.2];rfl
   rw[hrun];exact⟨⟨h0,h1⟩,⟨h7,h8⟩,rfl⟩
  .rintro⟨⟨h0,h1⟩,⟨h7,h8⟩,hr⟩;rw[hr]at hat h7 h8;have hk:∀(k:Nat)(v:UInt8),k<5->(cW [a,b,c,d,e]).getD k 0=(v.toNat:Int)->dY x (i+2+k) (v.toNat:Int)=eQ:=by intro k v hk e1;obtain⟨q1,q2,q3⟩:=hat k hk;unfold DS at q3;simp_all[cH,Bo]
   exact⟨h0,h1,hk 0 a om rfl,hk 1 b om rfl,hk 2 c om rfl,hk 3 d om rfl,hk 4 e om rfl,h7,h8⟩
def exD(l:J cx)(b:Nat):J cx:=cond (eJ (0<Sx l)&&(l.getD (Sx l-1) gf).kB+1==(b:Int)) (l.set (Sx l-1) (cx.mk (l.getD (Sx l-1) gf).qA (b:Int))) (l++[cx.mk (b:Int) (b:Int)])
def DD(P:Nat->Bool):Nat->J cx|0=>[]|k+1=>cond (P k) (exD (DD P k) k) (DD P k)
theorem ap4(l:J cx)(b:Nat):(exD l b).length<=Sx l+1:=by unfold exD;grind
theorem acN(P:Nat->Bool):∀k,Sx (DD P k)<=k
 | 0=>by simp[DD]|k+1=>by
  have ih:=acN P k;have:=ap4 (DD P k) k;unfold DD;cases P k
  .rw[aI];omega
  .rw[aQ];omega
theorem Yy(P:Nat->Bool):∀k,∀s∈DD P k,∃h:Nat,h<k/\s.kB=(h:Int)/\P h=eQ
 | 0,s,hs=>by cases hs
 | k+1,s,hs=>by
  have ih:=Yy P k;unfold DD at hs;cases hP:P k with
  | false=>rw[hP]at hs;obtain⟨h,h1,h2,h3⟩:=ih s hs;exact⟨h,om,h2,h3⟩
  | true=>
   rw[hP]at hs;unfold exD at hs;cases hb:(eJ (0<Sx (DD P k))&&((DD P k).getD (Sx (DD P k)-1) gf).kB+1==(k:Int))with
   | true=>
    rw[hb]at hs;rcases aoQ hs with hs|rfl
    .obtain⟨h,h1,h2,h3⟩:=ih s hs;exact⟨h,om,h2,h3⟩
    .exact⟨k,om,rfl,hP⟩
   | false=>
    rw[hb]at hs;rcases kZ.1 hs with hs|hs
    .obtain⟨h,h1,h2,h3⟩:=ih s hs;exact⟨h,om,h2,h3⟩
    .obtain rfl:=ni.1 hs;exact⟨k,om,rfl,hP⟩
theorem arU(P:Nat->Bool)(c:Nat)(h:P c=eQ)(h0:c=0\/P (c-1)=eK):DD P (c+1)=DD P c++[cx.mk (c:Int) (c:Int)]:=by
 rw[DD,h,aQ,exD];have:(eJ (0<Sx (DD P c))&&((DD P c).getD (Sx (DD P c)-1) gf).kB+1==(c:Int))=eK:=by
  by_cases hl:0<Sx (DD P c)
  .grind[gd,List.getElem_mem,Yy,beq_eq_false_iff_ne]
  .rw[dF hl];rfl
 rw[this,aI]
theorem akz(P:Nat->Bool)(c:Nat)(h0:c=0\/P (c-1)=eK):∀(k:Nat),(∀j,c<=j->j<=c+k->P j=eQ)->DD P (c+k+1)=DD P c++[cx.mk (c:Int) ((c+k:Nat):Int)]
 | 0,h=>arU P c (h c (eE _) om) h0|k+1,h=>by
  have ih:=akz P c h0 k λj h1 h2=>h j h1 om;rw[show c+(k+1)+1=(c+k+1)+1 by omega,DD,h (c+k+1) om om,ih,exD];have hl:(DD P c++[cx.mk (c:Int) ((c+k:Nat):Int)]).length-1=Sx (DD P c):=by simp
  have hg:(DD P c++[cx.mk (c:Int) ((c+k:Nat):Int)]).getD (Sx (DD P c++[cx.mk (c:Int) ((c+k:Nat):Int)])-1) gf=cx.mk (c:Int) ((c+k:Nat):Int):=by simp
  have e:((cx.mk (c:Int) ((c+k:Nat):Int)).kB+1==((c+k+1:Nat):Int))=eQ:=by rw[tv];show((c+k:Nat):Int)+1=_;omega
  simp;omega
theorem akA(P:Nat->Bool):∀(m c:Nat),c+m=255->P c=eQ->∃k,c+k<=255/\(∀j,c<=j->j<=c+k->P j=eQ)/\(c+k=255\/P (c+k+1)=eK)
 | 0,c,h,hP=>⟨0,om,(λj h1 h2=>(show j=c by omega)▸hP),.inl om⟩
 | m+1,c,h,hP=>by
  cases h1:P (c+1)with
  | false=>exact⟨0,om,(λj h1 h2=>(show j=c by omega)▸hP),.inr h1⟩
  | true=>
   obtain⟨k,g1,g2,g3⟩:=akA P m (c+1) om h1;refine⟨k+1,om,λj h2 h3=>?_,?_⟩
   .grind
   grind
theorem aik{c:Nat}(h:c<256):dE .u8 (c:Int)=(c:Int):=by show((c:Int)%256)=c;omega
theorem am0(F:Nat)(set:J Bool)(hF:1000<F)(hs:Sx set=256):sM F set=iN (DD (λc=>set.getD c eK) 256):=by
 unfold sM wx;rw[cy (by rw[hs];rfl)];generalize hP:(λc=>set.getD c eK)=P;have hPc:∀c,set.getD c eK=P c:=λc=>by rw[<-hP]
 refine bW (λs:J cx×Int×J Bool=>∃c:Nat,s=(DD P c,(c:Int),set)/\c<=256/\(c<256->P c=eQ->c=0\/P (c-1)=eK)) (λs=>256-s.2.1.toNat) ?_ F _ ⟨0,rfl,om,λ_ _=>.inl rfl⟩ aM;rintro s ⟨c,rfl,hc,hst⟩;have hdl:=acN P c;by_cases Iu:c<256
 .left;cases hb:P c with
  | false=>refine⟨(DD P (c+1),((c+1:Nat):Int),set),⟨c+1,rfl,om,λ_ _=>.inr (by simpa using hb)⟩,aM,λrc=>?_⟩;dsimp only;rw[b9 om,vO om om om,bN,hPc,hb,bM om];show rc _=_;rw[DD,hb,aI]
  | true=>
   have h0:=hst Iu hb;obtain⟨k,k1,k2,k3⟩:=akA P (255-c) c om hb;have hrun:=akz P c h0 k k2;refine⟨(DD P (c+k+1),((c+k+1:Nat):Int),set),⟨c+k+1,rfl,om,λh1 h2=>?_⟩,aM,λrc=>?_⟩
   .simp_all
   .dsimp only;rw[b9 om,vO om om om,bN,hPc,hb,fU,aI];refine bW (λs:Int×J Bool=>∃j:Nat,s=(((c+j:Nat):Int),set)/\j<=k) (λs=>256-s.1.toNat) ?_ F _ ⟨0,rfl,om⟩ aM;rintro s ⟨j,rfl,hj⟩;by_cases hjk:j<k
    .left;refine⟨(((c+(j+1):Nat):Int),set),⟨j+1,rfl,om⟩,aM,λbA=>?_⟩;dsimp only;rw[b9 om,bM om,vO om om om,aC];grind
    .right;obtain rfl:j=k:=om;intro bA;dsimp only;have e:(cond (eJ (((c+j:Nat):Int)<255)) (rq ((eJ (0<=aE (((c+j:Nat):Int)+1)))&&((eJ (aE (((c+j:Nat):Int)+1)<256))&&(eJ (aE (((c+j:Nat):Int)+1)<(Sx set:Int))))) (iN (set.getD (eI (aE (((c+j:Nat):Int)+1))) eK,set))) (iN (eK,set)):O (Bool×J Bool))=iN (eK,set):=by
      by_cases awB:c+j<255
      .rw[b9 om,bM om,vO om om om,bN,hPc];grind
      .rw[cf om]
     rw[e,aC];dsimp only;rw[aI,aik om,aik om,dn aM om,bM om,hrun]
 grind
def B9(l:J cx)(b:Int):Bool:=l.any λs=>eJ (s.qA<=b)&&eJ (b<=s.kB)
theorem at3(F:Nat)(l:J cx)(b:Int)(hF:Sx l<F)(hl:Sx l<50000000):xR F l b=iN (B9 l b):=by
 unfold xR wx;rw[oQ l (λi=>(i:Int)) (λs=>eJ (s.qA<=b)&&eJ (b<=s.kB)) (λ_ _=>iN eQ) (iN eK) hF (by rfl) (λi h rc=>?_) (λrc=>?_),DP]
 .rw[aG,cI];rfl
 .rw[b9 om,bp h,bp h,bN,gd h,aG,aC,cF,bM om]
 .rw[cf om]
theorem Iv(F:Nat)(l:J cx)(hF:Sx l+300<F)(hl:Sx l<50000000):J3 F l=iN (DD (λc=>B9 l (c:Int)) 256):=by
 generalize hP:(λc:Nat=>B9 l (c:Int))=P;have hPc:∀c:Nat,B9 l (c:Int)=P c:=λc=>by rw[<-hP]
 refine bW (λs=>∃c:Nat,s=((c:Int),DD P c)/\c<=256) (λs=>256-s.1.toNat) ?_ F _ ⟨0,rfl,om⟩ aM;rintro s ⟨c,rfl,hc⟩;have hdl:=acN P c;by_cases Iu:c<256
 .left;refine⟨(((c+1:Nat):Int),DD P (c+1)),⟨c+1,rfl,om⟩,aM,λrc=>?_⟩;dsimp only;rw[b9 om,aik Iu,at3 F l _ om hl,aC,hPc,bM om,DD];cases hb:P c with
  | false=>rfl|true=>
   rw[fU,aI,aQ,exD];by_cases h0:0<Sx (DD P c)
   .have hm:(DD P c).getD (Sx (DD P c)-1) gf∈DD P c:=by grind
    obtain⟨q,q1,q2,q3⟩:=Yy P c _ hm;rw[b9 om,vi om h0,bp om,aC,bN,dT h0,Ib];dsimp only;rw[q2,bQ (x:=(q:Int)) om,bM om,show((q:Int)+1==(c:Int))=(((q+1:Nat):Int)==(c:Int))from rfl];cases (((q+1:Nat):Int)==(c:Int))with|true=>rw[aQ,aQ,bp om]|false=>rw[aI,aI,dn aM om]
   .rw[cf om,aC,dF h0,VM];rw[aI,aI,dn aM om]
 grind
def RS(set:J Bool)(sp:J cx):Prop:=Sx set=256/\∀c:Nat,c<256->set.getD c eK=B9 sp (c:Int)
theorem SW(a b:J cx)(c:Int):B9 (a++b) c=(B9 a c||B9 b c):=by unfold B9;rw[List.any_append]
theorem UT{st:J Bool}(h:k<Sx st)(c:Nat):(st.set k eQ).getD c eK=(st.getD c eK||c==k):=by grind
theorem akB:∀k:Fin 8,∀b:Fin 256,oz 0 (CL.getD k.val qX).fname (b.val:Int)=iN (B9 (CL.getD k.val qX).uh (b.val:Int)):=by decide +kernel
theorem akC(F:Nat){c:ny}(hc:c∈CL){b:Nat}(hb:b<256):oz F c.fname (b:Int)=iN (B9 c.uh (b:Int)):=by obtain⟨k,hk,rfl⟩:=ko hc;have:=akB ⟨k,by rw[<-V5];exact hk⟩ ⟨b,hb⟩;rw[gd hk]at this;exact this
def acO(run:J Int)(c:ny):Bool:=run==cW c.fname
theorem aft(n:Bs)(h:isName n=eQ):∃c∈CL,CL.find? (acO (cW n))=iN c/\c.fname=n:=by
 unfold isName at h;simp at h;rcases h with rfl|rfl|rfl|rfl|rfl|rfl|rfl|rfl
 .exact⟨CL.getD 0 qX,by decide,by decide,by decide⟩
 .exact⟨CL.getD 1 qX,by decide,by decide,by decide⟩
 .exact⟨CL.getD 2 qX,by decide,by decide,by decide⟩
 .exact⟨CL.getD 3 qX,by decide,by decide,by decide⟩
 .exact⟨CL.getD 4 qX,by decide,by decide,by decide⟩
 .exact⟨CL.getD 5 qX,by decide,by decide,by decide⟩
 .exact⟨CL.getD 6 qX,by decide,by decide,by decide⟩
 .exact⟨CL.getD 7 qX,by decide,by decide,by decide⟩
theorem Nl:∀c∈CL,isName c.fname=eQ/\c.fname.length=5/\∀b∈c.fname,97<=b.toNat/\b.toNat<=122:=by decide
theorem Z7(x:J fK)(i:Nat):cW (cu (kR x i))=kR x i:=by
 unfold cW cu;rw[xu]
 conv=>rhs;rw[<-Sn (kR x i)]
 refine Sm λv hv=>?_;obtain⟨e,he,rfl⟩:=kq.1 hv;have hl:=List.all_takeWhile (p:=DS) (l:=x.drop i);have:=pW.1 hl e he;unfold DS at this;grind[UInt8.toNat_ofNat']
theorem ail(x:J fK)(i:Nat):(∃c∈CL,CL.find? (λc=>yY x i ((([91,58]:Bs)++c.fname)++([58,93]:Bs)))=iN c/\zQ x i=(c.fname,((i+9:Nat):Int),eQ)/\i+9<=Sx x) \/
  (CL.find? (λc=>yY x i ((([91,58]:Bs)++c.fname)++([58,93]:Bs)))=iF/\(zQ x i).2.2=eK):=by
 have hp:∀c∈CL,yY x i ((([91,58]:Bs)++c.fname)++([58,93]:Bs))=((dY x i 91&&dY x (i+1) 58)&&((dY x (i+2+Sx (kR x (i+2))) 58&&dY x (i+2+Sx (kR x (i+2))+1) 93)&&acO (kR x (i+2)) c)):=λc hc=>aij x i c.fname (Nl c hc).2.1 (Nl c hc).2.2;cases hA:(dY x i 91&&dY x (i+1) 58)with
 | false=>right;refine⟨?_,by unfold zQ;rw[hA];rfl⟩;simp_all|true=>
  cases hB:(dY x (i+2+Sx (kR x (i+2))) 58&&dY x (i+2+Sx (kR x (i+2))+1) 93)with
  | false=>right;refine⟨?_,by unfold zQ;rw[hA,hB];rfl⟩;simp_all|true=>
   cases hN:isName (cu (kR x (i+2)))with
   | true=>
    left;obtain⟨c,h1,h2,h3⟩:=aft _ hN;rw[Z7]at h2;have hlen:(kR x (i+2)).length=5:=by grind[Nl,cW,cu,List.length_map,Z7]
    refine⟨c,h1,?_,?_,?_⟩
    .have:∀(L:J ny),(∀c∈L,c∈CL)->L.find? (λc=>yY x i ((([91,58]:Bs)++c.fname)++([58,93]:Bs)))=L.find? (acO (kR x (i+2))):=by
      intro L
      induction L with|nil=>intro _;rfl|cons a L ih=>grind
     simp_all
    .unfold zQ;grind
    .have h8:=akw (cH _ _▸hB:_/\_).2;omega
   | false=>right;refine⟨?_,by unfold zQ;rw[hA,hB,hN];rfl⟩;rw[List.find?_eq_none];intro c hc;rw[hp c hc,hA,hB];simp;cases hq:acO (kR x (i+2)) c with|false=>rfl|true=>unfold acO at hq;simp_all[Ni,Nl]
theorem akD(F:Nat)(x:J fK)(i:Nat)(set:J Bool)(sp:J cx)(hF:Sx x+1000<F)(hx:Sx x<50000000)(hc:Qj x)(hi:i<Sx x)(hR:RS set sp):
  ∃(e:Nat)(set':J Bool)(sp':J cx),mN F x (i:Int) set=iN ((e:Int),set')/\rC F (x.map J5) (i:Int)=iN (sp',(e:Int))/\RS set' (sp++sp')/\i<e/\e<=Sx x/\sp'.length<=4:=by
 obtain⟨hs,hR⟩:=hR;have hw1:aE ((i:Int)+1)=((i+1:Nat):Int):=bM om;have xQ:aE ((i:Int)+2)=((i+2:Nat):Int):=by grind[bQ]
 have Z3:aE ((i:Int)+3)=((i+3:Nat):Int):=by grind[bQ]
 have hml:(x.map J5).length=Sx x:=gP _;have hfb:∀k,k<Sx x->((x.map J5).getD k jA).fb=(x.getD k cO).fb:=λk hk=>by rw[gd (l:=x.map J5) (by rw[hml];exact hk),MP,gd hk];rfl
 have am1:rC F (x.map J5) (i:Int)=(CL.find? (λc=>yY x i ((([91,58]:Bs)++c.fname)++([58,93]:Bs)))).elim
   (cond (cond (cond (dY x (i+1) 45) (eJ (i+2<Sx x)) eK) (!dY x (i+2) 93) eK)
    (cond (eJ ((x.getD i cO).fb<=(x.getD (i+2) cO).fb)) (iN ([cx.mk (x.getD i cO).fb (x.getD (i+2) cO).fb],((i+3:Nat):Int))) (iN ([],((i+3:Nat):Int))))
    (iN ([cx.mk (x.getD i cO).fb (x.getD i cO).fb],((i+1:Nat):Int)))) λc=>iN (c.uh,((i+9:Nat):Int)):=by
  unfold rC wx;rw[ao1,aC]
  rw[oQ CL (λi=>(i:Int)) (λc=>yY x i ((([91,58]:Bs)++c.fname)++([58,93]:Bs))) (λ_ c=>iN (c.uh,((i+9:Nat):Int))) (cond (cond (cond (dY x (i+1) 45) (eJ (i+2<Sx x)) eK) (!dY x (i+2) 93) eK)
    (cond (eJ ((x.getD i cO).fb<=(x.getD (i+2) cO).fb)) (iN ([cx.mk (x.getD i cO).fb (x.getD (i+2) cO).fb],((i+3:Nat):Int))) (iN ([],((i+3:Nat):Int))))
    (iN ([cx.mk (x.getD i cO).fb (x.getD i cO).fb],((i+1:Nat):Int)))) (by rw[V5];omega) (by rfl) (λk hk rc=>?_) (λrc=>?_),JQ]
  .have hm:=ah8 _ (fW hk);have hk8:k<8:=by rw[<-V5];exact hk
   rw[b9 om,bp hk,bN,gd hk,bM om];generalize CL[k]=c at hm;have hl:((([91,58]:Bs)++c.fname)++([58,93]:Bs)).length=9:=by simp;omega
   grind[aE,bQ,jP,ap3,bp]
  .rw[cf om,bp om,hw1,xQ,Z3,jV,jZ,aC,jV,jZ,aG,aC,aC,aG,aC,hml];rw[show eJ (((i+2:Nat):Int)<(Sx x:Int))=eJ (i+2<Sx x)from decide_eq_decide.2 om];cases h4:cond (cond (dY x (i+1) 45) (eJ (i+2<Sx x)) eK) (!dY x (i+2) 93) eK with
   | false=>simp_all|true=>
    have h5:i+2<Sx x:=by simp_all
    rw[aQ,aQ,bX om om,bN,bN,hfb i hi,hfb (i+2) h5]
 rw[am1];have hb:=hc.at hi;rcases ail x i with⟨c,hcm,hfind,hcl,h9⟩|⟨hfind,hcl⟩
 .rw[hfind];refine(λ(h:∃st:J Bool,Sx st=256/\(∀b:Nat,b<256->st.getD b eK=(set.getD b eK||B9 c.uh (b:Int)))/\mN F x (i:Int) set=iN (((i+9:Nat):Int),st))=>?_) ?_
  .obtain⟨st,h1,h2,h3⟩:=h;exact⟨i+9,st,c.uh,h3,rfl,⟨h1,λb hb=>by simp_all[SW]⟩,om,h9,(ah8 c hcm).2⟩
  .unfold mN wx;rw[(UQ F x i om om).resolve_right om,hcl,aC,aQ]
   obtain⟨r,⟨st,h1,h2,rfl⟩,h3⟩:∃r:Int×J Bool,(∃st:J Bool,Sx st=256/\(∀b:Nat,b<256->st.getD b eK=(set.getD b eK||B9 c.uh (b:Int)))/\r=(((i+9:Nat):Int),st))/\(ck (σ:=Int×(J Bool)) (R:=Int×(J Bool)) (λiw x2=>
     cond (eJ (x2.1<256))
     ((oz F c.fname x2.1).bind λx4=>
     cond x4
     (rq ((eJ (0<=x2.1))&&((eJ (x2.1<256))&&(eJ (x2.1<(Sx x2.2:Int))))) (iw (aE (x2.1+1),x2.2.set (eI x2.1) eQ)))
     (iw (aE (x2.1+1),x2.2)))
     (iN (((i+9:Nat):Int),x2.2))) F (0,set))=iN r:=by
    refine eR _ (λs:Int×J Bool=>∃k:Nat,s.1=(k:Int)/\k<=256/\s.2.length=256/\∀b:Nat,s.2.getD b eK=(set.getD b eK||(eJ (b<k)&&B9 c.uh (b:Int)))) (λs=>256-s.1.toNat) ?_ F _ ⟨0,rfl,om,hs,λb=>by simp⟩ aM;rintro⟨ii,st⟩ ⟨k,h0,hk,hl,hst⟩ rc hrc;dsimp only at h0 hl hst⊢;subst h0;by_cases hk:k<256
    .rw[b9 om,akC F hcm hk,aC,bM om];cases hin:B9 c.uh (k:Int)with|true=>rw[aQ,vO om om om,bN];refine hrc _ ⟨k+1,rfl,om,by simpa using hl,λb=>?_⟩ aM;dsimp only;rw[UT om,hst b];grind|false=>refine hrc _ ⟨k+1,rfl,om,hl,λb=>?_⟩ aM;grind
    grind
   simp_all
 .rw[hfind];show ∃(e:Nat)(set':J Bool)(sp':J cx),_/\(cond _ _ _)=_/\_;unfold mN wx;rw[(UQ F x i om om).resolve_right om,aC,hcl,aI,hw1,xQ,Z3,fL,aC,fL,aG,aC];have e1:cond (dY x (i+1) 45) (eJ (((i+2:Nat):Int)<(Sx x:Int)),set) (eK,set)=((cond (dY x (i+1) 45) (eJ (i+2<Sx x)) eK),set):=by grind
  rw[e1];dsimp only;rw[aC,aG,aC];have e2:∀a b:Bool,cond a (b,set) (eK,set)=(cond a b eK,set):=by simp_all
  rw[e2];dsimp only;cases h4:cond (cond (dY x (i+1) 45) (eJ (i+2<Sx x)) eK) (!dY x (i+2) 93) eK with
  | false=>rw[aI,aI,bp hi,bN,vO om om om];refine⟨i+1,_,_,rfl,rfl,⟨by simpa using hs,λb mJ=>?_⟩,om,om,si⟩;rw[UT om,hR b mJ,SW];congr 1;unfold B9;grind|true=>
   have h5:i+2<Sx x:=by simp_all
   have mJ:=hc.at h5;rw[aQ,aQ,bp hi,bN,bN,bQ (x:=(x.getD i cO).fb) om,bQ (x:=(x.getD (i+2) cO).fb) om];generalize(x.getD i cO).fb=lo at hb;generalize(x.getD (i+2) cO).fb=hi2 at mJ
   obtain⟨r,⟨st,h1,h2,rfl⟩,h3⟩:∃r:Int×J Bool,(∃st:J Bool,Sx st=256/\(∀b:Nat,b<256->st.getD b eK=(set.getD b eK||(eJ (lo<=(b:Int))&&eJ ((b:Int)<=hi2))))/\r=(((i+3:Nat):Int),st))/\(ck (σ:=Int×(J Bool)) (R:=Int×(J Bool)) (λK9 x9=>
     rq ((eJ (0<=((i+2:Nat):Int)))&&(eJ (((i+2:Nat):Int)<(Sx x:Int)))) (cond (eJ (x9.1<=hi2))
     (rq ((eJ (0<=x9.1))&&((eJ (x9.1<256))&&(eJ (x9.1<(Sx x9.2:Int))))) (K9 (aE (x9.1+1),x9.2.set (eI x9.1) eQ)))
     (iN (((i+3:Nat):Int),x9.2)))) F (lo,set))=iN r:=by
    refine eR _ (λs:Int×J Bool=>lo<=s.1/\s.1<=256/\s.2.length=256/\(∀v:Int,lo<=v->v<s.1->v<=hi2)/\∀b:Nat,s.2.getD b eK=(set.getD b eK||(eJ (lo<=(b:Int))&&eJ ((b:Int)<s.1)))) (λs=>256-s.1.toNat) ?_ F _ ⟨abQ _,om,hs,λv h1 h2=>om,λb=>by
     grind⟩ aM
    rintro⟨ii,st⟩ ⟨h6,h7,hl,hv,hst⟩ rc hrc;dsimp only at h6 h7 hl hv hst⊢;rw[bp h5];by_cases hle:ii<=hi2
    .rw[b9 hle,vO om om om,bQ om];refine hrc _ ⟨by dsimp only;omega,by dsimp only;omega,by simpa using hl,λv h1 h2=>by dsimp only at h2;omega,λb=>?_⟩ (by dsimp only;omega);dsimp only;rw[UT om,hst b,Bool.or_assoc];grind
    grind
   by_cases hlh:lo<=hi2
   .rw[b9 hlh];refine⟨i+3,st,[cx.mk lo hi2],h3,rfl,⟨h1,λb hb3=>?_⟩,om,om,si⟩;rw[h2 b hb3,hR b hb3,SW];congr 1;unfold B9;simp
   .rw[cf hlh];refine⟨i+3,st,[],h3,rfl,⟨h1,λb hb3=>?_⟩,om,om,si⟩;rw[h2 b hb3,hR b hb3,SW];congr 1;unfold B9;grind
theorem Qk{σ τ R:Type}{b1:(σ->O R)->σ->O R}{b2:(τ->O R)->τ->O R}(P:σ->τ->Prop)(m:σ->Nat)
  (hs:∀s t,P s t->(∃s' t',P s' t'/\m s'<m s/\(∀rc,b1 rc s=rc s')/\∀rc,b2 rc t=rc t')\/∃z,(∀rc,b1 rc s=iN z)/\∀rc,b2 rc t=iN z) :
  ∀(F1 F2:Nat)(s:σ)(t:τ),P s t->m s<F1->m s<F2->∃z,ck b1 F1 s=iN z/\ck b2 F2 t=iN z
 | 0,_,s,t,_,h,_=>by omega|_+1,0,s,t,_,_,h=>by omega|F1+1,F2+1,s,t,hP,h1,h2=>by
  show ∃z,b1 (ck b1 F1) s=iN z/\b2 (ck b2 F2) t=iN z;rcases hs s t hP with⟨s',t',g1,g2,g3,g4⟩|⟨z,g1,g2⟩
  .rw[g3,g4];exact Qk P m hs F1 F2 s' t' g1 om om
  simp_all
theorem acP{P Q:Nat->Bool}:∀k,(∀c,c<k->P c=Q c)->DD P k=DD Q k|0,_=>rfl|k+1,h=>by unfold DD;rw[acP k λc hc=>h c om,h k om]
theorem aim(F:Nat)(x:J fK)(i:Nat)(hF:4*Sx x+1000<F)(hx:Sx x<12000000)(hc:Qj x)(hi:i<Sx x):∃z,lR F x (i:Int)=iN z/\sN F (x.map J5) (i:Int)=iN z:=by
 have hml:(x.map J5).length=Sx x:=gP _;have hw1:aE ((i:Int)+1)=((i+1:Nat):Int):=bM om;unfold lR sN wx;rw[hw1,fL,aC,fL,aC,aG,aC,bM om,aG,aC,jV,jZ,aC,jV,jZ,aC,aG,aC,aG,aC];generalize hneg:cond (dY x (i+1) 33) eQ (dY x (i+1) 94)=neg;obtain⟨s0,hs0,hs1,hs2,hy⟩:∃s0:Nat,cond neg (((i+1+1:Nat):Int)) ((i+1:Nat):Int)=(s0:Int)/\i<s0/\s0<=i+2/\cond neg (((i+1+1:Nat):Int),(aD.mk 4 [] eK []).fKind,(aD.mk 4 [] eK []).fText,eQ,(aD.mk 4 [] eK []).cJ) (((i+1:Nat):Int),(aD.mk 4 [] eK []).fKind,(aD.mk 4 [] eK []).fText,(aD.mk 4 [] eK []).B8,(aD.mk 4 [] eK []).cJ)=((s0:Int),4,[],neg,[]):=by
  cases neg
  .grind
  .exact⟨i+2,rfl,om,om,rfl⟩
 rw[hs0,hy]
 refine Qk (λ(s:Int×Bool×J Bool)(t:Int×J cx×Bool)=>∃(k:Nat)(fi:Bool)(set:J Bool)(sp:J cx),s=((k:Int),fi,set)/\t=((k:Int),sp,fi)/\i<k/\k<=Sx x+2/\RS set sp/\sp.length<=4*k) (λs=>Sx x+2-s.1.toNat) ?_ F F _ _ ⟨s0,eQ,_,_,rfl,rfl,hs1,om,⟨si,λc h=>by
  rw[UA,List.getElem?_replicate];simp[h,B9]⟩,si⟩ aM aM
 rintro _ _ ⟨k,fi,set,sp,rfl,rfl,hk,hk2,hR,hl⟩;dsimp only;by_cases ug:k<Sx x
 .have e2:cond (dY x k 93) (!fi,set) (eK,set)=((dY x k 93 && !fi),set):=by cases dY x k 93<;>rfl
  cases h4:(dY x k 93 && !fi)with
  | true=>
   right;have h5:cond fi eQ (!dY x k 93)=eK:=by simp_all
   refine⟨(aD.mk 4 [] neg (DD (λc=>set.getD c eK) 256),((k+1:Nat):Int),eQ),λrc=>?_,λrc=>?_⟩
   .rw[b9 om,fL,aC,aG,aC,e2,h4];rw[aQ,cy (by rw[hR.1];rfl),am0 F set om hR.1,aC,bM om]
   .rw[jV,jZ,aC,aG,hml,b9 (show(k:Int)<(Sx x:Int) by omega),aC,h5,aI,cf (show ¬ (Sx x:Int)<=(k:Int) by omega),Iv F sp om om,aC,bM om];rw[acP 256 λc hc=>(hR.2 c hc).symm]
  | false=>
   left;have h5:cond fi eQ (!dY x k 93)=eQ:=by grind
   obtain⟨e,set',sp',g1,g2,g3,g4,g5,g6⟩:=akD F x k set sp om om hc ug hR;refine⟨_,_,⟨e,eK,set',sp++sp',rfl,rfl,om,om,g3,by grind⟩,aM,λrc=>?_,λrc=>?_⟩
   .simp_all[b9,fL,aC,aG,aI]
   .rw[jV,jZ,Option.bind_some,aG,hml,b9 (show(k:Int)<(Sx x:Int) by omega),Option.bind_some,h5,cond_true,g2,Option.bind_some,dn (by dsimp only;omega) om]
 .right;simp_all[cf,jV,jZ,aC,aG,aI,b9]
theorem Wc(F:Nat)(l:J aA)(hF:Sx l<F)(oN:4*bH l+1000<F)(h1:Sx l<1000000000)(h2:bH l<=10000000):∃p,eu F l=iN p/\fM F l=iN p:=by
 unfold eu fM wx;rw[DR F l hF om h1 om,Ez F l hF om h1 om,aC,aC,at2];have hx:(l.flatMap nj).length<=bH l:=xP _ HP _;have hc:=UP l;generalize(l.flatMap nj)=x at hx hc;have hml:(x.map J5).length=Sx x:=gP _;refine Qk (λ(s t:J aD×Int)=>s=t/\∃k:Nat,s.2=(k:Int)/\k<=Sx x/\s.1.length<=k) (λs=>Sx x-s.2.toNat) ?_ F F _ _ ⟨rfl,0,rfl,om,si⟩ aM aM;rintro⟨acc,ii⟩ _ ⟨rfl,k,h0,hk,ha⟩;dsimp only at h0 ha⊢;subst h0;have hex:∀a b:Int,a≠b->dY x k a=eQ->dY x k b=eK:=by grind[Bo]
 have hfb:k<Sx x->((x.map J5).getD k jA).fb=(x.getD k cO).fb:=λhk=>by rw[gd (l:=x.map J5) (by rw[hml];exact hk),MP,gd hk];rfl
 by_cases ug:k<Sx x
 .left;have hc1:∀(it:aD),(eJ (Sx acc+Sx ([it]:J aD)<=9223372036854775807)&&eJ ((Sx acc+Sx ([it]:J aD))*56<=140737488355328))=eQ:=λit=>o5 aM om;cases T3:dY x k 91 with
  | true=>
   have T4:=hex 91 42 de T3;have h63:=hex 91 63 de T3;obtain⟨z,z1,z2⟩:=aim F x k om om hc ug;obtain⟨r,r1,r2⟩:=K6 F x k om om hc ug;have hzr:z=r:=o4 (z1.symm.trans r2);subst hzr;cases hz:z.2.2 with
   | true=>
    obtain⟨-,e,g2,g3,g4⟩:=r1 hz;refine⟨(acc++[z.1],(e:Int)),(acc++[z.1],(e:Int)),⟨rfl,e,rfl,g4,aM⟩,aM,λrc=>?_,λrc=>?_⟩
    .rw[b9 om,fL,aC,T3,aQ,z1,aC,hz,aQ,cy (hc1 _),g2];cases h:rc (acc++[z.1],(e:Int))<;>rfl
    .rw[hml,b9 om,jV,jZ,aC,T4,aI,jV,jZ,aC,h63,aI,jV,jZ,aC,T3,aQ,z2,aC,hz,aQ,cy (hc1 _),g2];cases h:rc (acc++[z.1],(e:Int))<;>rfl
   | false=>
    refine⟨(acc++[aD.mk 1 (cu [(x.getD k cO).fb]) eK []],((k+1:Nat):Int)),_,⟨rfl,k+1,rfl,om,aM⟩,aM,λrc=>?_,λrc=>?_⟩
    .rw[b9 om,fL,aC,T3,aQ,z1,aC,hz,aI];show((eZ F x (k:Int) 42).bind _)=_;rw[fL,aC,T4,aI,fL,aC,h63,aI,bp ug,cy (hc1 _),bM om,bN]
    .rw[hml,b9 om,jV,jZ,aC,T4,aI,jV,jZ,aC,h63,aI,jV,jZ,aC,T3,aQ,z2,aC,hz,aI];show rq _ (rq _ (rc _))=_;grind[bp,cy,bM,Int.toNat_natCast]
  | false=>
   cases T4:dY x k 42 with
   | true=>
    refine⟨(acc++[aD.mk 3 [] eK []],((k+1:Nat):Int)),_,⟨rfl,k+1,rfl,om,aM⟩,aM,λrc=>?_,λrc=>?_⟩
    .rw[b9 om,fL,aC,T3,aI];show((eZ F x (k:Int) 42).bind _)=_;rw[fL,aC,T4,aQ,cy (hc1 _),bM om]
    .rw[hml,b9 om,jV,jZ,aC,T4,aQ,cy (hc1 _),bM om]
   | false=>
    cases h63:dY x k 63 with
    | true=>
     refine⟨(acc++[aD.mk 2 [] eK []],((k+1:Nat):Int)),_,⟨rfl,k+1,rfl,om,aM⟩,aM,λrc=>?_,λrc=>?_⟩
     .rw[b9 om,fL,aC,T3,aI];show((eZ F x (k:Int) 42).bind _)=_;rw[fL,aC,T4,aI,fL,aC,h63,aQ,cy (hc1 _),bM om]
     .rw[hml,b9 om,jV,jZ,aC,T4,aI,jV,jZ,aC,h63,aQ,cy (hc1 _),bM om]
    | false=>
     refine⟨(acc++[aD.mk 1 (cu [(x.getD k cO).fb]) eK []],((k+1:Nat):Int)),_,⟨rfl,k+1,rfl,om,aM⟩,aM,λrc=>?_,λrc=>?_⟩
     .rw[b9 om,fL,aC,T3,aI];show((eZ F x (k:Int) 42).bind _)=_;rw[fL,aC,T4,aI,fL,aC,h63,aI,bp ug,cy (hc1 _),bM om,bN]
     .rw[hml,b9 om,jV,jZ,aC,T4,aI,jV,jZ,aC,h63,aI,jV,jZ,aC,T3,aI];show rq _ (rq _ (rc _))=_;grind[bp,cy,bM,Int.toNat_natCast]
 simp_all[cf]
theorem Nn{σ τ R S:Type}{b1:(σ->O R)->σ->O R}{b2:(τ->O S)->τ->O S}(Q:O R->O S->Prop)(P:σ->τ->Prop)(m:σ->Nat)
  (hs:∀s t,P s t->∀rc1 bA,(∀s' t',P s' t'->m s'<m s->Q (rc1 s') (bA t'))->Q (b1 rc1 s) (b2 bA t)) :
  ∀(F1 F2:Nat)(s:σ)(t:τ),P s t->m s<F1->m s<F2->Q (ck b1 F1 s) (ck b2 F2 t)
 | 0,_,s,t,_,h,_=>by omega|_+1,0,s,t,_,_,h=>by omega|F1+1,F2+1,s,t,hP,h1,h2=>hs s t hP (ck b1 F1) (ck b2 F2) λs' t' g1 g2=>Nn Q P m hs F1 F2 s' t' g1 om om
theorem E9(F:Nat)(p:J aD)(hF:Sx p+300<F)(hp:Sx p<50000000)(hit:∀it∈p,jH it):iR F p=kW F p:=by
 unfold iR kW wx;refine Nn (λa b=>a=b) (λs t=>s=t/\∃k:Nat,s=(k:Int)/\k<=Sx p) (λs=>Sx p-s.toNat) ?_ F F _ _ ⟨rfl,0,rfl,om⟩ aM aM;rintro _ _ ⟨rfl,k,rfl,hk⟩ rc1 bA hrc;by_cases hk:k<Sx p
 .have hI:=hit _ (fW hk);rw[b9 (show(k:Int)<(Sx p:Int) by omega),b9 (show(k:Int)<(Sx p:Int) by omega),bp hk,bp hk,bN,gd hk];generalize p[k]=it at hI;have hl:=hI.2.2;obtain⟨c,hc⟩:=DU F it.cJ om om;have hnext:=hrc ((k+1:Nat):Int) ((k+1:Nat):Int) ⟨rfl,k+1,rfl,om⟩ aM;simp only[aG,aC,hc];rw[bM om];cases (cond (cond (eJ (it.fKind<1)) eQ (eJ (4<it.fKind))) eQ ((Sx it.fText:Int) != cond (it.fKind==1) 1 0))with
  | true=>rfl|false=>
   rw[aI,aI];cases (cond (it.fKind != 4) (cond it.B8 eQ (eJ (0<(Sx it.cJ:Int)))) eK)with
   | true=>rfl|false=>
    rw[aI,aI]
    have hin:∀A:O Bool,ck (σ:=Int) (R:=Bool) (λT5 x7=>
       cond (eJ (x7<(Sx it.cJ:Int)))
       (rq ((eJ (0<=x7))&&(eJ (x7<(Sx it.cJ:Int)))) ((cond (eJ ((it.cJ.getD (eI x7) gf).kB<(it.cJ.getD (eI x7) gf).qA))
       (iN eQ)
       (cond (eJ (0<x7))
       (rq ((eJ (0<=aE (x7-1)))&&(eJ (aE (x7-1)<(Sx it.cJ:Int)))) (iN (eJ (aE ((it.cJ.getD (eI x7) gf).qA)<=aE ((aE ((it.cJ.getD (eI (aE (x7-1))) gf).kB))+1)))))
       (iN eK)):O Bool).bind λx9=>
       cond x9
       (iN eK)
       (T5 (aE (x7+1)))))
       A) F 0=cond c A (iN eK):=by
     intro A;have Iu:=hc;unfold pL wx at Iu;have hsw:∀(a b:O Bool),b=iN c->(∃c',b=iN c'/\a=cond c' A (iN eK))->a=cond c A (iN eK):=by simp_all
     refine hsw _ _ Iu (Nn (λa b=>∃c',b=iN c'/\a=cond c' A (iN eK)) (λ(s t:Int)=>s=t/\∃j:Nat,s=(j:Int)/\j<=Sx it.cJ) (λs=>Sx it.cJ-s.toNat) ?_ F F 0 0 ⟨rfl,0,rfl,om⟩ aM aM);rintro s t hst rcA rcB hAB
     .obtain⟨rfl,j,rfl,hj⟩:=hst;by_cases hj:j<Sx it.cJ
      .have e:∃b,(cond (eJ ((it.cJ.getD (eI (j:Int)) gf).kB<(it.cJ.getD (eI (j:Int)) gf).qA)) (iN eQ) (cond (eJ (0<(j:Int))) (rq ((eJ (0<=aE ((j:Int)-1)))&&(eJ (aE ((j:Int)-1)<(Sx it.cJ:Int)))) (iN (eJ (aE ((it.cJ.getD (eI (j:Int)) gf).qA)<=aE ((aE ((it.cJ.getD (eI (aE ((j:Int)-1))) gf).kB))+1))))) (iN eK)):O Bool)=iN b:=by
        by_cases h0:0<j
        .rw[vi om h0,b9 (show(0:Int)<(j:Int) by omega),bX om om,aG];exact⟨_,rfl⟩
        grind
       obtain⟨b,hb⟩:=e;rw[b9 (show(j:Int)<(Sx it.cJ:Int) by omega),b9 (show(j:Int)<(Sx it.cJ:Int) by omega),bp hj,bp hj];simp only[bp hj];rw[hb,aC,aC,bM om];cases b with|true=>grind|false=>exact hAB _ _ ⟨rfl,j+1,rfl,om⟩ aM
      grind
    simp_all
 grind
def Ca(p:J aD):Bs:=p.flatMap λit=>it.fText
def Bp(it:aD):Bool:=it.fKind==1
def Ql(p:J aD)(b:Bool):Bs×Bool:=cond (p.all Bp&&b) (Ca p,eQ) ([],eK)
theorem Yz:∀(p:J aD),(∀it∈p,jH it)->Sx (Ca p)<=10*Sx p|[],_=>by simp[Ca]|it::p,h=>by have ih:=Yz p λx hx=>h x (by simp[hx]);have:=(h it si).2.1;unfold Ca at *;simp only[q8,ov,sB];omega
theorem acQ(p:J aD)(k:Nat)(h:k<Sx p):Ca (p.take (k+1))=Ca (p.take k)++p[k].fText:=by unfold Ca;grind[List.take_succ_eq_append_getElem]
theorem agD{p:J aD}(h:k<Sx p)(hb:Bp p[k]=eK):p.all Bp=eK:=by grind
theorem acR{p:J aD}(h:∀k,∀hk:k<Sx p,Bp p[k]=eQ):p.all Bp=eQ:=by grind[List.all_eq_true,List.getElem_of_mem]
theorem afu(F:Nat)(p:J aD)(hF:Sx p+300<F)(hp:Sx p<50000000)(hit:∀it∈p,jH it){b:Bool}(hb:kW F p=iN b):jo F p=iN (Ql p b):=by
 refine bW (λs=>∃k:Nat,s=(Ca (p.take k),(k:Int))/\k<=Sx p/\∀j,j<k->∀hj:j<Sx p,Bp p[j]=eQ) (λs=>Sx p-s.2.toNat) ?_ F _ ⟨0,rfl,om,λj h=>om⟩ aM;rintro s ⟨k,rfl,hk,hj⟩;dsimp only;have htl:=Yz (p.take k) λit h=>hit it (MS h);have htk:(p.take k).length=k:=by simp_all
 by_cases hk:k<Sx p
 .have hI:=(hit _ (fW hk)).2.1;cases hby:Bp p[k]with
  | false=>
   right;intro rc;have hne:(p[k].fKind != 1)=eQ:=by unfold Bp at hby;simp[bne,hby]
   rw[b9 om,bp hk,bN,gd hk,hne,Ql,agD hk hby];rfl
  | true=>
   left;refine⟨(Ca (p.take (k+1)),((k+1:Nat):Int)),⟨k+1,rfl,om,λj h1 h2=>?_⟩,aM,λrc=>?_⟩
   .grind
   .have hne:(p[k].fKind != 1)=eK:=by unfold Bp at hby;simp[bne,hby]
    rw[b9 om,bp hk,bp hk,bN,gd hk,hne,aI,vU om,bM om,acQ p k hk]
 .right;obtain rfl:k=Sx p:=om;intro rc;rw[cf om,hb,Ql,acR (λj h=>hj j h h),nW];cases b<;>rfl
theorem T6(F:Nat)(p:J aD)(hF:Sx p+300<F)(hp:Sx p<50000000)(hit:∀it∈p,jH it){b:Bool}(hb:iR F p=iN b):iu F p=iN (Ql p b):=by
 unfold iu wx;rw[hb];cases b with
 | false=>unfold Ql;rw[MU];rfl|true=>
  refine bW (λs=>∃k:Nat,s=(cW (Ca (p.take k)),(k:Int))/\k<=Sx p/\∀j,j<k->∀hj:j<Sx p,Bp p[j]=eQ) (λs=>Sx p-s.2.toNat) ?_ F _ ⟨0,rfl,om,λj h=>om⟩ aM;rintro s ⟨k,rfl,hk,hj⟩;have htl:=Yz (p.take k) λit h=>hit it (MS h);have htk:(p.take k).length=k:=by simp_all
  have hil:∀s:Bs,Sx (cW s)=Sx s:=λs=>gP _;by_cases hk:k<Sx p
  .have hI:=(hit _ (fW hk)).2.1;cases hby:Bp p[k]with
   | false=>
    right;intro rc;have hne:(p[k].fKind != 1)=eQ:=by unfold Bp at hby;simp[bne,hby]
    rw[b9 om,bp hk,bN,gd hk,hne,Ql,agD hk hby];rfl
   | true=>
    left;refine⟨(cW (Ca (p.take (k+1))),((k+1:Nat):Int)),⟨k+1,rfl,om,λj h1 h2=>?_⟩,aM,λrc=>?_⟩
    .grind
    .have hne:(p[k].fKind != 1)=eK:=by unfold Bp at hby;simp[bne,hby]
     rw[b9 om,bp hk,bN,gd hk,hne,dn (by rw[hil,hil];omega) om,bM om,acQ p k hk];simp[cW]
  .right;obtain rfl:k=Sx p:=om;intro rc;rw[cf om,Ql,acR (λj h=>hj j h h),nW,Ni];rfl
theorem T7(F:Nat)(p:J aD)(hF:Sx p+300<F)(hp:Sx p<50000000)(hit:∀it∈p,jH it):iu F p=jo F p:=by obtain⟨b,hb⟩:=E6 F p hF hp hit;rw[T6 F p hF hp hit hb,afu F p hF hp hit (by rw[<-E9 F p hF hp hit];exact hb)]
def gQ(n:Nat)(f:Nat->Bool):J Bool:=(aT n).map f
theorem AQ(n:Nat)(f:Nat->Bool):(gQ n f).length=n:=by unfold gQ;simp
variable{n:Nat}
theorem uj(f:Nat->Bool)(h:i<n):(gQ n f).getD i eK=f i:=by unfold gQ;simp_all
theorem jK{f g:Nat->Bool}(h:∀i,i<n->f i=g i):gQ n f=gQ n g:=by unfold gQ;simp_all
theorem DW(n i:Nat)(f:Nat->Bool)(b:Bool):(gQ n f).set i b=gQ n (λj=>cond (j==i) b (f j)):=by unfold gQ;refine BG si λj h1 h2=>?_;grind
theorem Np(n:Nat):W0 n eK=gQ n (λ_=>eK):=by refine BG (by simp[gQ]) λj h1 h2=>?_;simp[gQ]
section
variable (p : J aD) (s : Bs)
def Wd(i:Nat):aD:=p.getD i dL
def nT(i:Nat):Bool:=(Wd p i).fKind==3
def UU(it:aD)(b:Int):Bool:=cond (it.fKind==1) (((it.fText.getD 0 0).toNat:Int)==b) (cond (it.fKind==4) (!((it.cJ.any λx=>eJ (x.qA<=b)&&eJ (b<=x.kB))==it.B8)) eQ)
def Qm(i k:Nat):Bool:=UU (Wd p i) ((s.getD k 0).toNat:Int)
def upE(f:Nat->Bool):Nat->Bool|0=>f 0|k+1=>f (k+1)||upE f k
def prE(f g:Nat->Bool):Nat->Bool|0=>eK|k+1=>f k&&g k
def EE:Nat->Nat->Bool|0,k=>k==0|i+1,k=>cond (nT p i) (upE (EE i) k) (prE (EE i) (Qm p s i) k)
def EP(i k:Nat):Bool:=EE p s i k||(nT p i&&EE p s (i+1) k)
theorem agE:nT p p.length=eK:=by unfold nT Wd;rw[UA,Ss (eE _)];rfl
theorem SY(h:nT p i=eQ)(k:Nat):EE p s (i+1) (k+1)=(EE p s i (k+1)||EE p s (i+1) k):=by rw[EE,EE,h];rfl
theorem Nq(h:nT p i=eQ):EE p s (i+1) 0=EE p s i 0:=by rw[EE,h];rfl
theorem YA(h:nT p i=eK)(k:Nat):EE p s (i+1) (k+1)=(EE p s i k&&Qm p s i k):=by rw[EE,h];rfl
theorem acS(h:nT p i=eK):EE p s (i+1) 0=eK:=by rw[EE,h];rfl
theorem ain(h:nT p i=eQ):∀k,EE p s i k=eQ->EE p s (i+1) k=eQ|0,e=>by simp_all[Nq]|k+1,e=>by simp_all[SY]
def zR(f:Nat->Bool):Nat->Bool|0=>f 0|i+1=>f (i+1)||(zR f i&&nT p i)
def xU(f:Nat->Bool)(b k j:Nat):Bool:=(eJ (j<b)&&(f j&&nT p j))||(eJ (0<j)&&(eJ (j<=b)&&(f (j-1)&&(!nT p (j-1)&&Qm p s (j-1) k))))
theorem acT:∀i,zR p (λj=>j==0) i=EP p s i 0:=by
 have hE:∀i,EP p s i 0=EE p s i 0:=by unfold EP;simp_all[Nq]
 intro i
 induction i with|zero=>rfl|succ i ih=>rw[zR];grind[acS,Nq]
theorem YB(k:Nat):∀i,i<=Sx p->zR p (xU p s (λj=>EP p s j k) p.length k) i=EP p s i (k+1):=by
 have hpre:∀i,i<=Sx p->xU p s (λj=>EP p s j k) p.length k i=((nT p i&&EE p s (i+1) k)||(eJ (0<i)&&(!nT p (i-1)&&EE p s i (k+1)))):=by
  intro i hi;unfold xU;congr 1
  .by_cases h:i<Sx p
   .unfold EP;grind[ain]
   grind[agE,decide_eq_false]
  .cases i with|zero=>simp|succ i=>unfold EP;grind[YA]
 intro i
 induction i with
 | zero=>
  intro hi;rw[zR,hpre 0 hi];unfold EP;rw[show EE p s 0 (k+1)=eK from rfl];cases hs:nT p 0 with
  | false=>simp|true=>rw[SY p s hs,show EE p s 0 (k+1)=eK from rfl];simp
 | succ i ih=>
  intro hi;rw[zR,hpre (i+1) hi,ih om];have e2:EP p s (i+1) (k+1)=(EE p s (i+1) (k+1)||(nT p (i+1)&&EE p s (i+2) k)):=by unfold EP;grind[SY]
  rw[e2];unfold EP;grind[ain]
theorem acU(f:Nat->Bool)(n:Nat)(h:∀i,i<=n->f i=eK):∀i,i<=n->zR p f i=eK|0,hi=>h 0 hi|i+1,hi=>by rw[zR,h _ hi,acU f n h i om];rfl
theorem SZ(k:Nat)(h:∀i,i<=Sx p->EP p s i k=eK):∀d i,i<=Sx p->EP p s i (k+d)=eK
 | 0,i,hi=>h i hi|d+1,i,hi=>by
  rw[<-St,<-YB p s (k+d) i hi];refine acU p _ p.length (λj hj=>?_) i hi;unfold xU;dsimp only;rw[SZ k h d j hj];by_cases h0:0<j
  .rw[SZ k h d (j-1) om];simp
  .simp[h0]
theorem We(k:Nat):EP p s p.length k=EE p s p.length k:=by unfold EP;rw[agE];simp
end
def Nr(b:Int)(x:cx):Bool:=eJ (x.qA<=b)&&eJ (b<=x.kB)
theorem ap5(F:Nat)(it:aD)(b:Int)(hF:300<F)(h:jH it):rB F it b=iN (UU it b):=by
 unfold rB UU wx;cases hk:(it.fKind==1)with
 | true=>have:=h.1 (eq_of_beq hk);rw[aQ,aQ,jP om]|false=>
  cases (it.fKind==4)with
  | false=>rfl|true=>
   have hl:=h.2.2;refine bW (λs=>∃k:Nat,s=((it.cJ.take k).any (Nr b),(k:Int))/\k<=Sx it.cJ) (λs=>Sx it.cJ-s.2.toNat) ?_ F _ ⟨0,rfl,om⟩ aM;rintro s ⟨k,rfl,hk2⟩;by_cases hk2:k<Sx it.cJ
   .left;refine⟨_,⟨k+1,rfl,om⟩,aM,λrc=>?_⟩;rw[bp hk2,bN,aG,aG,bM om,ku hk2,List.any_append];unfold Nr;simp_all
   .right;obtain rfl:k=Sx it.cJ:=om;intro rc;rw[cf om,nW];rfl
theorem am2(F:Nat)(it:aD)(b:Int)(hF:300<F)(h:jH it):EB F it b=iN (UU it b):=by
 unfold EB UU wx;cases hk:(it.fKind==1)with
 | true=>have:=h.1 (eq_of_beq hk);rw[aQ,aQ,jP om]|false=>
  cases (it.fKind==4)with
  | false=>rfl|true=>
   have hl:=h.2.2;have e:xR F it.cJ b=iN (it.cJ.any (Nr b)):=by
    refine bW (λs=>∃k:Nat,s=(k:Int)/\k<=Sx it.cJ/\(it.cJ.take k).any (Nr b)=eK) (λs=>Sx it.cJ-s.toNat) ?_ F _ ⟨0,rfl,om,rfl⟩ aM;rintro s ⟨k,rfl,hk2,hn⟩;by_cases hk2:k<Sx it.cJ
    .have hin:(cond (eJ (it.cJ[k].qA<=b)) (rq ((eJ (0<=(k:Int)))&&(eJ ((k:Int)<(Sx it.cJ:Int)))) (iN (eJ (b<=it.cJ[k].kB)))) (iN eK):O Bool)=iN (Nr b it.cJ[k]):=by rw[bp hk2];unfold Nr;grind
     have at4:(it.cJ.take (k+1)).any (Nr b)=Nr b it.cJ[k]:=by grind[List.take_succ_eq_append_getElem]
     cases hb:Nr b it.cJ[k]with|true=>right;intro rc;have:=UB.2 ⟨_,fW hk2,hb⟩;rw[b9 om,bp hk2,bN,gd hk2,hin,hb,this];rfl|false=>left;refine⟨_,⟨k+1,rfl,om,by rw[at4,hb]⟩,aM,λrc=>?_⟩;rw[b9 om,bp hk2,bN,gd hk2,hin,hb,bM om];rfl
    grind
   rw[e];rfl
theorem Qn(F:Nat)(p:J aD)(f:Nat->Bool)(hF:Sx p<F)(hp:Sx p<50000000):qW F p (gQ (Sx p+1) f)=iN (gQ (Sx p+1) (zR p f)):=by
 refine bW (λs=>∃k:Nat,s=((k:Int),gQ (Sx p+1) (λj=>cond (eJ (j<=k)) (zR p f j) (f j)))/\k<=Sx p) (λs=>Sx p-s.1.toNat) ?_ F _ ⟨0,congrArg (Prod.mk (0:Int)) (jK λi hi=>by
   cases i with|zero=>rfl|succ i=>simp_all),om⟩ aM
 rintro s ⟨k,rfl,hk⟩;have hlen:∀g:Nat->Bool,Sx (gQ (Sx p+1) g)=Sx p+1:=λg=>AQ _ g;by_cases hk:k<Sx p
 .left;refine⟨_,⟨k+1,rfl,om⟩,aM,λrc=>?_⟩;rw[b9 om,bp hk,bX om (by rw[hlen];omega),bN,uj _ (show k<Sx p+1 by omega),aG,bM om,dT (show k<=k by omega),aQ];have e:∀(A B:Bool)(L:J Bool),cond A (B,L) (eK,L)=((A&&B),L):=by simp_all
  rw[e];show cond (zR p f k&&nT p k) _ _=_;have e2:gQ (Sx p+1) (λj=>cond (eJ (j<=k+1)) (zR p f j) (f j))=cond (zR p f k&&nT p k) ((gQ (Sx p+1) (λj=>cond (eJ (j<=k)) (zR p f j) (f j))).set (k+1) eQ) (gQ (Sx p+1) (λj=>cond (eJ (j<=k)) (zR p f j) (f j))):=by
   cases hc:(zR p f k&&nT p k)with
   | true=>
    rw[DW];refine jK λj hj=>?_;by_cases h1:j=k+1
    .subst h1;rw[Ic,dT om,zR,hc];simp
    grind
   | false=>
    refine jK λj hj=>?_;by_cases h1:j=k+1
    .subst h1;rw[dT (show k+1<=k+1 by omega),dF (show ¬ k+1<=k by omega),zR,hc];simp
    grind
  rw[e2];cases hc:(zR p f k&&nT p k)with|true=>rw[aQ,aQ,bX om (by rw[hlen];omega),bN]|false=>rfl
 .right;intro rc;rw[cf om];rw[jK (g:=zR p f) λj hj=>by grind]
theorem akE(p:J aD)(s:Bs)(f:Nat->Bool)(k j:Nat):xU p s f 0 k j=eK:=by unfold xU;grind
theorem akF(p:J aD)(s:Bs)(f:Nat->Bool)(b k j:Nat):
  xU p s f (b+1) k j=cond (f b&&nT p b) (cond (j==b) eQ (xU p s f b k j)) (cond (f b&&Qm p s b k) (cond (j==b+1) eQ (xU p s f b k j)) (xU p s f b k j)):=by
 unfold xU;grind
theorem Wf(F:Nat)(p:J aD)(s:Bs)(f:Nat->Bool)(k:Nat)(hF:Sx p+300<F)(hp:Sx p<50000000)(hit:∀it∈p,jH it):
  lN F p (gQ (Sx p+1) f) ((s.getD k 0).toNat:Int)=iN (gQ (Sx p+1) (zR p (xU p s f p.length k))):=by
 unfold lN wx;have hw:aE ((Sx p:Int)+1)=((Sx p+1:Nat):Int):=bM om;have hlen:∀g:Nat->Bool,Sx (gQ (Sx p+1) g)=Sx p+1:=λg=>AQ _ g;rw[hw,cy (by rw[dT om,dT om,dT om,dT om,dT om];rfl),Np];refine bW (λx=>∃b:Nat,x=((b:Int),gQ (Sx p+1) (xU p s f b k))/\b<=Sx p) (λx=>Sx p-x.1.toNat) ?_ F _ ⟨0,by grind[jK,akE],om⟩ aM;rintro x ⟨b,rfl,hb⟩;by_cases hb:b<Sx p
 .left;refine⟨_,⟨b+1,rfl,om⟩,aM,λrc=>?_⟩;have hki:(Wd p b)=p[b]:=by unfold Wd;rw[gd hb]
  have hst:(p[b].fKind==3)=nT p b:=by unfold nT;rw[hki]
  have hfi:UU p[b] ((s.getD k 0).toNat:Int)=Qm p s b k:=by unfold Qm;rw[hki]
  rw[b9 om,bp hb,bX om (by rw[hlen];omega),bN,gd hb,uj _ (show b<Sx p+1 by omega),bM om,hst,ap5 F p[b] _ om (hit _ (fW hb)),hfi];have e:gQ (Sx p+1) (xU p s f (b+1) k)=cond (f b&&nT p b) ((gQ (Sx p+1) (xU p s f b k)).set b eQ) (cond (f b&&Qm p s b k) ((gQ (Sx p+1) (xU p s f b k)).set (b+1) eQ) (gQ (Sx p+1) (xU p s f b k))):=by grind[DW,jK,akF]
  rw[e];cases hf:f b with
  | false=>rfl|true=>
   cases hs:nT p b with
   | true=>grind[bX]|false=>cases hx:Qm p s b k with|true=>grind[bX,Int.toNat_natCast]|false=>rfl
 .right;obtain rfl:b=Sx p:=om;intro rc;rw[cf om,Qn F p _ om hp,aC]
theorem T8(F:Nat)(st:J Bool)(hF:Sx st<F)(hs:Sx st<100000000):∃b,(b=eK->∀i,i<Sx st->st.getD i eK=eK)/\jk F st eQ=iN b:=by
 unfold jk wx;obtain⟨r,hr,h⟩:∃r:Int,(r<0->∀i,i<Sx st->st.getD i eK=eK)/\yX F st eQ=iN r:=by
  refine yV _ (λs=>∃k:Nat,s=(k:Int)/\k<=Sx st/\∀i,i<k->st.getD i eK=eK) (λs=>Sx st-s.toNat) ?_ F _ ⟨0,rfl,om,λi hi=>om⟩ aM;rintro ii ⟨k,rfl,hk,hn⟩;by_cases hk:k<Sx st
  .cases hv:st.getD k eK with
   | true=>right;refine⟨(k:Int),λh=>om,λrc=>?_⟩;rw[b9 om,bp hk,bN,hv];rfl|false=>
    left;refine⟨_,⟨k+1,rfl,om,λi hi=>?_⟩,aM,λrc=>?_⟩
    .grind
    .rw[b9 om,bp hk,bN,hv,bM om];rfl
  .obtain rfl:k=Sx st:=om;simp_all
 simp_all
theorem akG(F:Nat)(p:J aD)(n:Bs)(hF:Sx p+300<F)(oN:Sx n<F)(hn:Sx n<50000000)(hp:Sx p<50000000)(hit:∀it∈p,jH it){v:Bool}(hv:iR F p=iN v):
  jS F p n=iN (v&&EE p n p.length n.length):=by
 unfold jS mO wx;rw[hv,aC];cases v with
 | false=>rfl|true=>
  have hw:aE ((Sx p:Int)+1)=((Sx p+1:Nat):Int):=bM om;have hlen:∀g:Nat->Bool,Sx (gQ (Sx p+1) g)=Sx p+1:=λg=>AQ _ g;rw[hw,fU,aI,cy (by rw[dT om,dT om,dT om,dT om,dT om];rfl),bN,jP si,Np,DW];rw[jK (g:=λj=>j==0) λj _=>by cases (j==0)<;>rfl,Qn F p _ om hp,aC,jK λj _=>acT p n j];have hsw:∀x:O (Int×Bool),(∃r,r.2=EE p n p.length n.length/\x=iN r)->((x.bind λx3=>iN (x3.1,x3.2)).bind λx1=>iN x1.2)=iN (eQ&&EE p n p.length n.length):=by rintro x ⟨r,h,rfl⟩;rw[Ib,<-h];rfl
  refine hsw _ (yV (R:=Int×Bool) _ (λs:J Bool×Int×Bool×Int=>∃k:Nat,s=(gQ (Sx p+1) (λj=>EP p n j k),0,eK,(k:Int))/\k<=Sx n) (λs=>Sx n-s.2.2.2.toNat) ?_ F _ ⟨0,rfl,om⟩ aM);rintro s ⟨k,rfl,hk⟩;dsimp only;have h1:∀b:Bool,(rq ((eJ (0<=(Sx p:Int)))&&(eJ ((Sx p:Int)<(Sx (gQ (Sx p+1) (λj=>EP p n j k)):Int)))) (cond ((gQ (Sx p+1) (λj=>EP p n j k)).getD (eI (Sx p:Int)) eK) (iN (eJ ((Sx n:Int)<=(k:Int)))) (iN eK)):O Bool)=iN (EE p n p.length k&&eJ (Sx n<=k)):=by intro _;rw[bX om (by rw[hlen];omega),bN,uj _ om,We,aG];have:eJ ((Sx n:Int)<=(k:Int))=eJ (Sx n<=k):=decide_eq_decide.2 om;rw[this];cases EE p n p.length k<;>rfl
  by_cases hkn:k<Sx n
  .obtain⟨c,hc1,hc⟩:=T8 F (gQ (Sx p+1) (λj=>EP p n j k)) (by rw[hlen];omega) (by rw[hlen];omega);cases c with
   | false=>
    right;refine⟨(0,eK),?_,λrc=>?_⟩
    .have hz:=SZ p n k (λi hi=>by
      have:=hc1 rfl i (by rw[hlen];omega);rwa [uj _ om]at this) (Sx n-k) p.length (eE _)
     rw[show k+(Sx n-k)=n.length by omega,We]at hz;exact hz.symm
    .rw[h1 eQ,aC,dF (show ¬ n.length<=k by omega),MU];show((cond ((k:Int)==(Sx n:Int)) (iN eQ) ((jk F (gQ (Sx p+1) (λj=>EP p n j k)) eQ).bind λx9=>iN (!x9)):O Bool).bind _)=_;rw[show((k:Int)==(Sx n:Int))=eK by simp;omega,aI,hc];rfl
   | true=>left;refine⟨(gQ (Sx p+1) (λj=>EP p n j (k+1)),0,eK,((k+1:Nat):Int)),⟨k+1,rfl,om⟩,aM,λrc=>?_⟩;rw[h1 eQ,aC,dF (show ¬ n.length<=k by omega),MU];show((cond ((k:Int)==(Sx n:Int)) (iN eQ) ((jk F (gQ (Sx p+1) (λj=>EP p n j k)) eQ).bind λx9=>iN (!x9)):O Bool).bind _)=_;rw[show((k:Int)==(Sx n:Int))=eK by simp;omega,aI,hc,aC,aC,fU,aI,bp hkn,bN,Wf F p n _ k hF hp hit,aC,bM om];rw[jK λj hj=>YB p n k j om]
  .right;obtain rfl:k=Sx n:=om;refine⟨cond (EE p n p.length n.length) ((Sx n:Int),eQ) (0,eK),by cases EE p n p.length n.length<;>rfl,λrc=>?_⟩;rw[h1 eQ,aC,dT (eE _),abE];have e0:((Sx n:Int)==(Sx n:Int))=eQ:=by simp
   cases EE p n p.length n.length with
   | true=>show((cond ((Sx n:Int)==(Sx n:Int)) (iN eQ) _:O Bool).bind _)=_;rw[e0];rfl
   | false=>show((cond ((Sx n:Int)==(Sx n:Int)) (iN eQ) _:O Bool).bind _)=_;rw[e0];rfl
theorem agF(F:Nat)(p:J aD)(s:Bs)(hF:Sx p+300<F)(oN:Sx s+1<F)(hs:Sx s<50000000)(hp:Sx p<50000000)(hit:∀it∈p,jH it):
  Cb F p s=iN (gQ (Sx s+1) (EE p s p.length)):=by
 unfold Cb wx;have hw:aE ((Sx s:Int)+1)=((Sx s+1:Nat):Int):=bM om;have hlen:∀g:Nat->Bool,Sx (gQ (Sx s+1) g)=Sx s+1:=λg=>AQ _ g;have hrq:∀ {α:Type}(x:O α),rq ((eJ (0<=((Sx s+1:Nat):Int)))&&((eJ (((Sx s+1:Nat):Int)<=((Sx s+1:Nat):Int)))&&((eJ (0<((Sx s+1:Nat):Int)))&&((eJ (((Sx s+1:Nat):Int)<=9223372036854775807))&&(eJ ((1:Int)*((Sx s+1:Nat):Int)<=140737488355328)))))) x=x:=by grind[cy,dT]
 rw[hw,hrq,bN,jP si,Np,DW]
 refine bW (λx:J Bool×Int=>∃i:Nat,x=(gQ (Sx s+1) (EE p s i),(i:Int))/\i<=Sx p) (λx=>Sx p-x.2.toNat) ?_ F _ ⟨0,congrArg (λy=>(y,(0:Int))) (jK λj _=>by
   show cond (j==0) eQ eK=(j==0);cases (j==0)<;>rfl),om⟩ aM
 rintro x ⟨i,rfl,hi⟩;dsimp only;by_cases hi:i<Sx p
 .left;refine⟨(gQ (Sx s+1) (EE p s (i+1)),((i+1:Nat):Int)),⟨i+1,rfl,om⟩,aM,λrc=>?_⟩;rw[b9 om,hrq];refine bW (λx:Int×J Bool=>∃k:Nat,x=((k:Int),gQ (Sx s+1) (λj=>eJ (j<k)&&EE p s (i+1) j))/\k<=Sx s+1) (λx=>Sx s+1-x.1.toNat) ?_ F _ ⟨0,congrArg (Prod.mk (0:Int)) (jK λj _=>by simp),om⟩ aM;rintro x ⟨k,rfl,hk⟩;dsimp only;by_cases hk:k<=Sx s
  .left;refine⟨_,⟨k+1,rfl,om⟩,aM,λbA=>?_⟩;have hki:(Wd p i)=p[i]:=by unfold Wd;rw[gd hi]
   have hst:(p[i].fKind==3)=nT p i:=by unfold nT;rw[hki]
   have nX:∀b,b=EE p s (i+1) k->(gQ (Sx s+1) (λj=>eJ (j<k)&&EE p s (i+1) j)).set k b=gQ (Sx s+1) (λj=>eJ (j<k+1)&&EE p s (i+1) j):=by rintro b rfl;rw[DW];grind
   rw[b9 om,bp hi,bN,gd (l:=p) hi,hst,bM om];cases hs3:nT p i with
   | true=>
    rw[aQ,bX om (by rw[hlen];omega),bN,uj _ om]
    have hres:∀b,b=EE p s (i+1) k->((iN ((k:Int),b,gQ (Sx s+1) (λj=>eJ (j<k)&&EE p s (i+1) j)):O (Int×Bool×(J Bool))).bind λx5=>
      rq ((eJ (0<=x5.1))&&(eJ (x5.1<(Sx x5.2.2:Int)))) (bA (((k+1:Nat):Int),x5.2.2.set (eI x5.1) x5.2.1)))=bA (((k+1:Nat):Int),gQ (Sx s+1) (λj=>eJ (j<k+1)&&EE p s (i+1) j)):=by
     grind[bX,Int.toNat_natCast]
    cases he:EE p s i k with
    | true=>simp_all[ain]|false=>rw[aI];cases k with|zero=>simp_all[cf,Nq]|succ k=>rw[b9 om,vi om om,bX om (by rw[hlen];omega),bN,uj _ om];simp_all[SY,Nat.add_sub_cancel,dT]
   | false=>
    rw[aI];cases k with
    | zero=>rw[cf om,bX om (by rw[hlen];omega),bN,nX eK (by rw[acS p s hs3])]|succ k=>
     rw[b9 om,vi om om,bX om (by rw[hlen];omega),bN,Nat.add_sub_cancel,uj _ om];cases he:EE p s i k with
     | false=>rw[aI,bX om (by rw[hlen];omega),bN,nX eK (by simp_all[YA])]|true=>rw[aQ,bp hi,bp (show k<s.length by omega),bN,am2 F p[i] _ om (hit _ (fW hi)),aC,bX om (by rw[hlen];omega),nX _ (by rw[YA p s hs3,he];unfold Qm;rw[hki];rfl)]
  .right;obtain rfl:k=Sx s+1:=om;intro bA;rw[cf om,bM om,jK (g:=EE p s (i+1)) λj hj=>by simp_all]
 grind
theorem Z8(F:Nat)(p:J aD)(n:Bs)(hF:Sx p+300<F)(oN:Sx n+1<F)(hn:Sx n<50000000)(hp:Sx p<50000000)(hit:∀it∈p,jH it){v:Bool}(hv:iR F p=iN v):
  tC F p n=iN (v&&EE p n p.length n.length):=by
 unfold tC wx;rw[<-E9 F p hF hp hit,hv,aC,agF F p n hF oN hn hp hit];cases v with|false=>rfl|true=>rw[aC,bX om (by rw[AQ];omega),uj _ om];rfl
theorem akH(F:Nat)(p:J aD)(n:Bs)(hF:Sx p+300<F)(oN:Sx n+1<F)(hn:Sx n<50000000)(hp:Sx p<50000000)(hit:∀it∈p,jH it):tC F p n=jS F p n:=by obtain⟨v,hv⟩:=E6 F p hF hp hit;rw[akG F p n hF om hn hp hit hv,Z8 F p n hF oN hn hp hit hv]
def EC(n:J Bs):Bs:=n.flatMap λc=>47::c
theorem akI(a b:J Bs):EC (a++b)=EC a++EC b:=by simp[EC]
theorem Wg:∀(n:J Bs),n≠[]->EC n=47::di n
 | [],h=>absurd rfl h|[x],_=>by simp[EC,di]|x::y::l,_=>by have ih:=Wg (y::l) si;rw[show EC (x::y::l)=(47::x)++EC (y::l)from rfl,ih,di];simp
theorem T9{n:J Bs}(h:n≠[]):pathOf n=EC n:=by rw[Wg n h];rfl
theorem Names.app{a b:J Bs}(ha:Names a)(hb:Names b):Names (a++b):=λc hc=>by
 rcases kZ.1 hc with h|h
 .exact ha c h
 .exact hb c h
theorem Names.left{a b:J Bs}(h:Names (a++b)):Names a:=λc hc=>h c (by simp[hc])
theorem OJ:∀(m:J Bs)(x:Bs),m≠[]->Names m->cq (di m++47::x)=m++cq x|[],x,h,_=>absurd rfl h|[a],x,_,h=>by rw[di,JX a x (qN (h a si))];rfl|a::b::m,x,_,h=>by rw[di,sD,tq,JX a _ (qN (h a si)),OJ (b::m) x si λc hc=>h c (by simp[hc])];rfl
theorem S0{s:Bs}(h:gm s=eQ):∃n,Names n/\s=pathOf n/\(pathOf n).length<=128:=by
 cases hr:(s==[47])with
 | true=>exact⟨[],λc hc=>(by cases hc),eq_of_beq hr,by decide⟩
 | false=>obtain⟨h1,h2,h3,h4⟩:=yW h hr;grind
theorem L0{n:J Bs}(h:Names n):pathOf n=[47]↔n=[]:=by have:=Ey h;grind
theorem La{m n:J Bs}(hm:Names m)(hn:Names n):B2 (pathOf m) (pathOf n)=eQ↔∃c r,n=m++c::r:=by
 unfold B2;by_cases h0:m=[]
 .subst h0;rw[show(pathOf []==[47])=eQ from rfl,aQ,Ey hn];cases n with|nil=>simp|cons c r=>simp
 .have e0:(pathOf m==[47])=eK:=by simp_all[Ey]
  rw[e0,aI];simp;constructor
  .rintro⟨h1,h2⟩;have hx:pathOf n=(pathOf m++[47])++(pathOf n).drop (Sx (pathOf m)+1):=by grind[List.take_append_drop]
   generalize(pathOf n).drop (Sx (pathOf m)+1)=x at hx;have hj:di n=di m++47::x:=by simp[pathOf,sD,tq,pY,List.cons.injEq,xA]at hx;exact hx
   have hne:n≠[]:=by rintro rfl;have:([]:Bs)=di m++47::x:=hj;simp at this
   have:=B5 n hne λc hc=>qN (hn c hc);rw[hj,OJ m x h0 hm]at this;cases hp:cq x with|nil=>grind|cons c r=>grind
  .rintro⟨c,r,rfl⟩;have e:pathOf (m++c::r)=pathOf m++47::(c++EC r):=by rw[T9 si,akI,T9 h0];rfl
   grind
structure VT(l:List aN):Prop where
 len:Sx l<=128
 root:∃f∈l,f.bJ=[47]
 path:∀f∈l,gm f.bJ=eQ
 dir:∀f∈l,f.kQ=eQ->f.fData=[]
 amR:∀f∈l,f.bJ=[47]->f.kQ=eQ
 data:∀f∈l,Sx f.fData<=8192
 asc:Qi l
 par:∀f∈l,f.bJ≠[47]->∃p∈l,p.bJ=ic f.bJ/\p.kQ=eQ
theorem VT.up{l:J aN}(h:VT l):∀(r:J Bs)(m:J Bs)(c:Bs),Names (m++c::r)->(∃f∈l,f.bJ=pathOf (m++c::r))->∃f∈l,f.bJ=pathOf (m++[c]):=by
 intro r
 induction hn:r.length generalizing r with
 | zero=>simp_all|succ k ih=>
  intro m c hN ⟨f,hf,e⟩;have hr:r≠[]:=by grind
  have hne:f.bJ≠[47]:=by simp_all[L0]
  obtain⟨p,hp,e1,-⟩:=h.par f hf hne;rw[e,Iq hN]at e1;have e2:(m++c::r).dropLast=m++c::r.dropLast:=by simp_all[List.dropLast_append_of_ne_nil,List.dropLast_cons_of_ne_nil]
  rw[e2]at e1;exact ih r.dropLast (by simp[hn]) m c (by rw[<-e2];exact hN.dropLast) ⟨p,hp,e1⟩
theorem VT.above{l:J aN}(h:VT l){a:Bs}(ha:gm a=eQ){f:aN}(hf:f∈l)(hab:B2 a f.bJ=eQ):∃p∈l,p.bJ=a/\p.kQ=eQ/\∃k∈l,uf a k=eQ:=by
 obtain⟨m,hm,rfl,-⟩:=S0 ha;obtain⟨n,hn,e,-⟩:=S0 (h.path f hf);rw[e]at hab;obtain⟨c,r,rfl⟩:=(La hm hn).1 hab;obtain⟨k,hk,ek⟩:=h.up r m c hn ⟨f,hf,e⟩;have hN:Names (m++[c]):=Names.app hm λx hx=>hn x (by simp at hx;simp[hx]);have arV:k.bJ≠[47]:=by simp_all[L0]
 obtain⟨p,hp,e1,e2⟩:=h.par k hk arV;have e3:ic k.bJ=pathOf m:=by simp_all[Iq]
 refine⟨p,hp,by rw[e1,e3],e2,k,hk,?_⟩;unfold uf;rw[e3];simp[arV]
theorem acV{p:Bs}(h:gm p=eQ)(hr:p≠[47]):B2 (ic p) p=eQ/\gm (ic p)=eQ:=by
 obtain⟨n,hn,rfl,hl⟩:=S0 h;rcases VC n with rfl|⟨m,c,rfl⟩
 .exact absurd rfl hr
 .rw[ahy]at *;have hm:=hn.left;have hc:=hn c si;rw[K5 hm hc];refine⟨(La hm hn).2 ⟨c,[],rfl⟩,acw hm ?_⟩;have:(pathOf m).length<=Sx (pathOf (m++[c])):=by
   cases m with
   | nil=>simp[pathOf,di]|cons a b=>
    have e:pathOf ((a::b)++[c])=pathOf (a::b)++47::c:=by rw[pathOf,B4 _ _ si,pathOf];simp
    rw[e];simp
  omega
theorem akJ{l:J aN}{p:Bs}:JW l p=0↔(∀f∈l,B2 f.bJ p=eQ->f.kQ=eQ)/\K3 l (ic p)=eQ:=by unfold JW;grind
theorem VL.tree(h:VL l):VT l:=by
 refine⟨h.len,⟨l.getD 0 cj,by rw[gd h.pos];exact fW _,h.root⟩,h.path,h.dir,h.amR,h.data,h.asc,λf hf hne=>?_⟩;obtain⟨k,hk,e⟩:=ko hf;have ek:l.getD k cj=f:=by rw[gd hk];exact e
 have h0:0<k:=by
  rcases Nat.eq_zero_or_pos k with h0|h0
  .subst h0;rw[h.root.symm,ek]at hne;exact absurd rfl hne
  .exact h0
 have hp:=akJ.1 (h.arK k h0 hk);obtain⟨g,hg,eg⟩:=(agB _ _).1 hp.2;have:=(acV (h.path f hf) hne).1;grind
def cD(F:Nat)(t:J aA):J aD:=(eu F t).getD []
def cL(F:Nat)(t:J aA):Bool:=((iu F ((cD F) t)).getD ([],eK)).2
def nk(F:Nat)(p:J aD)(n:Bs):Bool:=(jS F p n).getD eK
theorem HS{F:Nat}(hF:100000000<=F)(t:J aA)(h1:Sx t<=10000)(h2:bH t<=10000):eu F t=iN ((cD F) t)/\(∀it∈(cD F) t,jH it)/\((cD F) t).length<=10000:=by obtain⟨p,⟨g1,g2⟩,h⟩:=TY F t om om om om;unfold cD;grind
theorem YC(hF:100000000<=F)(t:J aA)(h1:Sx t<=10000)(h2:bH t<=10000):∃x,iu F ((cD F) t)=iN (x,(cL F) t):=by obtain⟨-,g1,g2⟩:=HS hF t h1 h2;obtain⟨r,h⟩:=afp F ((cD F) t) om om g1;unfold cL;grind
theorem akK(hF:100000000<=F)(t:J aA)(h1:Sx t<=10000)(h2:bH t<=10000)(n:Bs)(hn:Sx n<=10000):jS F ((cD F) t) n=iN ((nk F) ((cD F) t) n):=by obtain⟨-,g1,g2⟩:=HS hF t h1 h2;obtain⟨r,h⟩:=akx F ((cD F) t) n om om om om g1;unfold nk;rw[h];rfl
variable{r:J aA}
theorem aio(hF:100000000<=F)(hv:VL l)(hc:gm cwd=eQ)(h1:Sx r<=10000)(h2:bH r<=3000)(hW:(W l (nk F) (partsOf (cD F) (cL F) r) (kC cwd (ig r))).length<=1000000):pM F l cwd r=iN (FP l (nk F) (cD F) (cL F) cwd r,0):=by have hsz:∀t∈dD r,Sx t<=10000/\bH t<=10000:=λt ht=>⟨by have:=Wb t ht;omega,by grind[SV]⟩;exact aky om hv hc om om (λt ht=>⟨(HS hF t (hsz t ht).1 (hsz t ht).2).1,YC hF t (hsz t ht).1 (hsz t ht).2⟩) (λt ht _ n hn=>akK hF t (hsz t ht).1 (hsz t ht).2 n om) hW
def GI(n:Nat)(o:J (J aA)×J aA):Prop:=(∀c∈o.1,(∀r∈c,Sx r.fText=1)/\c.length<=n)/\(∀r∈o.2,Sx r.fText=1)/\o.2.length<=n
theorem GI.up{m:Nat}(h:GI n o)(hm:n<=m):GI m o:=⟨λc hc=>⟨(h.1 c hc).1,by have:=(h.1 c hc).2;omega⟩,h.2.1,by have:=h.2.2;omega⟩
theorem acW(cl:Int):∀(t:Bs)(n:Nat)(o:J (J aA)×J aA),GI n o->GI (n+Sx t) (t.foldl (kK cl) o)
 | [],n,o,h=>h|b::t,n,o,h=>by
  have h2:GI (n+1) (kK cl o b):=by
   obtain⟨h1,h2,h3⟩:=h;unfold kK;cases (b==47)
   .refine⟨λc hc=>⟨(h1 c hc).1,by have:=(h1 c hc).2;omega⟩,λr hr=>?_,aM⟩;rcases kZ.1 hr with hr|hr
    .exact h2 r hr
    .obtain rfl:=ni.1 hr;rfl
   .refine⟨λc hc=>?_,λr hr=>(by cases hr),si⟩;rcases kZ.1 hc with hc|hc
    .exact⟨(h1 c hc).1,by have:=(h1 c hc).2;omega⟩
    .obtain rfl:=ni.1 hc;exact⟨h2,om⟩
  have:=acW cl t (n+1) _ h2;rwa [show n+1+Sx t=n+Sx (b::t) by simp;omega]at this
theorem arW:∀(l:J aA)(n:Nat)(o:J (J aA)×J aA),GI n o->GI (n+bH l) (l.foldl vc o)
 | [],n,o,h=>h|r::l,n,o,h=>by
  have h2:GI (n+Sx r.fText) (vc o r):=by
   unfold vc;cases (r.aH != 0&&(r.aH != 1&&r.aH != 2))
   .exact acW _ _ _ _ h
   .exact h.up om
  have:=arW l _ _ h2;rwa [show n+Sx r.fText+bH l=n+bH (r::l) by simp[bH];omega]at this
theorem acX(l:J aA):∀c∈iV l,bH c=Sx c/\c.length<=bH l:=by
 have h:=arW l 0 ([],[]) ⟨λc hc=>(by cases hc),λr hr=>(by cases hr),si⟩;rw[sC]at h;intro c hc;rcases kZ.1 hc with hc|hc
 .exact⟨aic (h.1 c hc).1,(h.1 c hc).2⟩
 .obtain rfl:=ni.1 hc;exact⟨aic h.2.1,h.2.2⟩
theorem vo{d:J Bs}(hd:Names d)(c:Bs):eP (pathOf d) c=pathOf (d++[c]):=by rw[TU hd];unfold eP;grind
