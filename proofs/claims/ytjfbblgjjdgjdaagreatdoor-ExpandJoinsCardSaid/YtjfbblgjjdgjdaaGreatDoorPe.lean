import Derived.Test.YtjfbblgjjdgjdaaGreatDoorZ2
open Go.Op renaming bytesLess->pD
open Go.Lib renaming indexByte->lO
open UInt8 renaming ofNat->lL
open Nat renaming ble->iO,blt->dE
open Option renaming some->iN,none->iF
open Bool renaming true->hJ,false->eQ
open Decidable renaming decide->eK
open Int renaming toNat->eJ
open Go.IntKind renaming wrap->dO
open List renaming range->bY,replicate->aT,length->Ts
set_option linter.all false
namespace Go.Proofs.YtjfbblgjjdgjdaaGreatDoor
open Go.RT
def cm:Bs->J Bs
 | []=>[[]]|b::l=>cond (b==47) ([]::cm l) (match cm l with
  | []=>[[b]]|p::ps=>(b::p)::ps)
theorem td(l:Bs):cm l≠[]:=by cases l with|nil=>simp[cm]|cons b l=>unfold cm;grind
theorem Jl(l:Bs):(cm l).length<=Ts l+1:=by
 induction l with|nil=>simp[cm]|cons b l ih=>unfold cm;grind
theorem aal(l:Bs):∀p∈cm l,Ts p<=Ts l:=by
 induction l with|nil=>intro p hp;simp[cm]at hp;subst hp;simp|cons b l ih=>intro p hp;unfold cm at hp;grind
theorem O9:∀(l:Bs),Lib.splitK [47] 0 (l.count 47) l=cm l
 | []=>rfl|b::l=>by
  have ih:=O9 l;by_cases hb:b=47
  ·subst hb;have hc:((47:UInt8)::l).count 47=l.count 47+1:=by simp
   have hi:Lib.index ((47:UInt8)::l) [47]=0:=by rw[Lib.index_one];simp[lO]
   rw[hc,Lib.splitK,hi];simp only[show((0:Int) == -1)=eQ from rfl];simp[cm,ih]
  ·have SQ:(b==47)=eQ:=by simpa using hb
   have hc:(b::l).count 47=l.count 47:=by simp[List.count_cons,SQ]
   have hi:Lib.index (b::l) [47]=if Lib.index l [47] == -1 then -1 else Lib.index l [47]+1:=by rw[Lib.index_one,Lib.index_one,lO];simp[hb]
   rw[hc];unfold cm;rw[SQ,aJ,<-ih];cases hk:l.count 47 with
   | zero=>simp[Lib.splitK]|succ k=>
    rw[Lib.splitK,Lib.splitK,hi];by_cases hm:Lib.index l [47]=-1
    ·rw[hm];simp
    ·have hge:0<=Lib.index l [47]:=by have:=Lib.indexByte_ge l 47;rw[Lib.index_one]at hm⊢;omega
     have e1:(Lib.index l [47] == -1)=eQ:=by simpa using hm
     have e2:((Lib.index l [47]+1) == -1)=eQ:=by simp;omega
     have e3:(Lib.index l [47]+1).toNat=(Lib.index l [47]).toNat+1:=om;rw[e1];simp only[Ri,TJ];rw[e2];simp only[Ri,TJ,e3,OR,List.length_singleton];rw[List.take_succ_cons,show(Lib.index l [47]).toNat+1+1=((Lib.index l [47]).toNat+1)+1 from rfl,List.drop_succ_cons]
theorem TU(F:Nat)(s:Bs)(h:Ts s<4294967281):HL F s [47]=iN (cm s):=by unfold HL;rw[cE (by rw[eN h];rfl),Lib.splitB_data];congr 1;rw[<-O9];congr 1;show Lib.countB _ _=_;unfold Lib.countB;exact Lib.count_one 47 s
theorem Za:∀(l:Bs)(n:Nat),(∀j,j<n->l.getD j 0≠47)->n<Ts l->l.getD n 0=47->cm l=l.take n::cm (l.drop (n+1))
 | [],n,_,h,_=>by simp at h|b::l,0,_,_,h=>by
  have hb:b=47:=by simpa using h
  subst hb;simp[cm]
 | b::l,n+1,h0,h1,h2=>by
  have hb:(b==47)=eQ:=by have:=h0 0 om;simpa using this
  have ih:=Za l n (λj hj=>by
   grind) (by simpa using h1) (by simpa using h2)
  rw[cm,hb,ih];simp
theorem Ve:∀(l:Bs),(∀j,j<Ts l->l.getD j 0≠47)->cm l=[l]
 | [],_=>rfl|b::l,h0=>by
  have hb:(b==47)=eQ:=by have:=h0 0 si;simpa using this
  have ih:=Ve l (λj hj=>by
   have:=h0 (j+1) (by simpa using hj);simpa using this)
  unfold cm;rw[hb,aJ,ih]
variable{α:Type}
theorem apq(l:J α)(f k:Nat):sl l (f:Int) (k:Int)=(l.take k).drop f:=by simp[sl]
theorem XD(l:J α)(f:Nat):sl l (f:Int) (Ts l:Int)=l.drop f:=by simp[sl]
def abU(l:J α):sl l 1 (Ts l:Int)=l.drop 1:=XD l 1
theorem RC(l:J α)(k:Nat):sl l 0 (k:Int)=l.take k:=by simp[sl]
theorem ajQ(F:Nat)(s:Bs)(hF:Ts s<F)(hs:Ts s<1000000000):Ks F s=iN (cm s):=by
 refine cy (λx=>∃f k:Nat,x.2.1=(f:Int)/\x.2.2=(k:Int)/\f<=k/\k<=Ts s/\x.1.length<=f/\x.1++cm (s.drop f)=cm s/\∀j,f<=j->j<k->s.getD j 0≠47) (λx=>Ts s-x.2.2.toNat) ?_ F _ ⟨0,0,rfl,rfl,om,om,si,si,λj _ hj=>om⟩ (by simpa using hF);rintro⟨o,fr,ii⟩ ⟨f,k,h0,h0',h1,h2,h3,h4,h5⟩;dsimp only at h0 h0' h3 h4 h5⊢;subst h0 h0';by_cases hk:k<Ts s
 ·left;have hg:s.getD k 0=s[k]:=gd hk;cases hb:(s[k]==47)with
  | true=>
   refine⟨(o++[sl s (f:Int) (k:Int)],((k+1:Nat):Int),((k+1:Nat):Int)),⟨k+1,k+1,rfl,rfl,om,om,aR,?_,λj h h'=>om⟩,aR,λrc=>?_⟩
   ·have hc:=Za (s.drop f) (k-f) (λj hj=>by
     have:=h5 (f+j) om om
     simp_all)
    grind[List.drop_drop,apq,List.take_drop]
   ·rw[cq om,ck om om,cg,hg,qo _ 47 om,hb,aU,wA om om om,ck aR aR,bW om]
  | false=>
   refine⟨(o,(f:Int),((k+1:Nat):Int)),⟨f,k+1,rfl,rfl,om,om,h3,h4,λj h h'=>?_⟩,aR,λrc=>?_⟩
   ·grind
   ·rw[cq om,ck om om,cg,hg,qo _ 47 om,hb,aJ,bW om]
 ·right;obtain rfl:k=Ts s:=om;intro rc;rw[cf om,wA om om om,ck aR aR,<-h4,XD,Ve];simp_all
def zm(b:UInt8):Bool:=b==47||b==0
def lQ(s:Bs):Bool:=(eK (1<=Ts s)&&eK (Ts s<=32))&&(!(s==[46])&&(!(s==[46,46]) && !(s.any zm)))
theorem al8(F:Nat)(s:Bs)(hF:Ts s<F)(hs:Ts s<1000000000000):Gj F s=iN (lQ s):=by
 unfold Gj wx;rw[oK s (λi=>(i:Int)) zm (λ_ _=>iN eQ) (iN hJ) hF (by rfl) (λi h rc=>?_) (λrc=>?_),Dq]
 ·simp[aH];have e1:(eK ((Ts s:Int)<1)||decide (32<(Ts s:Int)))=!(eK (1<=Ts s)&&eK (Ts s<=32)):=by grind
  unfold lQ;grind
 ·rw[cq om,ck om om,ck om om,cg,gd h,qo _ 47 om,qo _ 0 om,aH,bW om];rfl
 ·rw[cf om]
set_option maxRecDepth 100000 in
theorem arj(F r:Nat)(hr:128<=r)(hF:4<=F):kf F [47,0] (r:Int)=iN (-1):=by
 unfold kf wx;rw[dT om,dF om];simp only[aU,aE,aJ];cases h1:((r:Int)==65533)with
 | true=>
  simp only[aU];obtain⟨F,rfl⟩:∃G,F=G+4:=⟨F-4,om⟩;have e0:dec ([47,0]:Bs) 0=(47,1):=by rw[AR de];rfl
  have e1:dec ([47,0]:Bs) 1=(0,1):=by rw[AR de];rfl
  simp[bX,e0,e1,dE];rw[show iO 1 2=hJ from rfl,show iO 2 2=hJ from rfl,show iO 3 2=eQ from rfl];rfl
 | false=>
  simp only[aJ];have hv:tK F (r:Int)=iN hJ\/tK F (r:Int)=iN eQ:=by unfold tK wx;cases eK (0<=(r:Int))<;>cases eK ((r:Int)<55296)<;>cases eK (57343<(r:Int))<;>cases eK ((r:Int)<=1114111)<;>simp
  rcases hv with hv|hv
  ·rw[hv];simp only[aE,ia,aJ];obtain⟨h2,h3,h4⟩:=aeL hr;have hn:aD ((Ts (nL (r:Int)):Int)-1)=((Ts (nL (r:Int))-1:Nat):Int):=uQ om om;obtain⟨F,rfl⟩:∃G,F=G+1:=⟨F-1,om⟩;rw[hn];simp only[bX];by_cases e:(nL (r:Int)).length=2
   ·have hx:((([47,0]:Bs).getD 1 0).toNat:Int)≠((((nL (r:Int)).getD 1 0).toNat:Int)):=by rw[e,show 2-1=1 from rfl]at h4;have:(([47,0]:Bs).getD 1 0).toNat=0:=rfl;omega
    rw[e];have hx':(((([47,0]:Bs).getD (eJ ((2-1:Nat):Int)) 0).toNat:Int) != (((nL (r:Int)).getD (eJ ((2-1:Nat):Int)) 0).toNat:Int))=hJ:=by simpa using hx
    have hw:aD (((2-1:Nat):Int)+1)=((2:Nat):Int):=by rw[bL om];rfl
    have NL:sl ([47,0]:Bs) ((2:Nat):Int) ((Ts ([47,0]:Bs):Nat):Int)=[]:=rfl;rw[hx',hw,NL];rw[cq si,ck si si,ck si si,aU,wA si si si,ck si si];unfold strings_IndexByte stringslite_IndexByte sD Y4 wx;simp only[lO,aE];rw[cq de];rfl
   ·rw[cf (by simp only[qi,Dc];omega)]
  ·rw[hv];simp only[aE,qm,aU]
theorem al9(F r:Nat)(hr:r<128):∃x,kf F [47,0] (r:Int)=iN x/\eK (0<=x)=zm (lL r):=by
 unfold kf strings_IndexByte stringslite_IndexByte sD Y4 wx;rw[dT om,dT om];simp only[aU,aE];refine⟨_,rfl,?_⟩;have hw:(dO .u8 (r:Int)).toNat.toUInt8=lL r:=by
  have:dO .u8 (r:Int)=(r:Int):=by show((r:Int)%256)=r;omega
  rw[this];rfl
 rw[hw];generalize lL r=b;simp only[lO,zm];by_cases h1:b=47
 ·subst h1;rfl
 ·by_cases h2:b=0
  ·subst h2;rfl
  ·have e1:(b==47)=eQ:=by simpa using h1
   have e2:(b==0)=eQ:=by simpa using h2
   have e3:¬ (47:UInt8)=b:=λh=>h1 h.symm;have e4:¬ (0:UInt8)=b:=λh=>h2 h.symm;simp[e1,e2,e3,e4]
theorem ark(l:Bs):eK (0<=Lib.indexAny l [47,0])=l.any zm:=by
 induction l with
 | nil=>rfl|cons b l ih=>
  have hge:=Lib.indexAny_ge [47,0] l;unfold Lib.indexAny;have hc:([47,0]:Bs).contains b=zm b:=by simp[zm,List.contains,List.elem];cases (b==47)<;>cases (b==0)<;>rfl
  rw[hc,List.any_cons];cases hb:zm b with
  | true=>simp|false=>
   simp only[Ri,TJ,OV];rw[<-ih];by_cases h:Lib.indexAny l [47,0]=-1
   ·rw[h];rfl
   ·have:(Lib.indexAny l [47,0] == -1)=eQ:=by simpa using h
    rw[this];simp only[Ri,TJ];rw[tH];simp only[fW];omega
theorem ama(F:Nat)(s:Bs)(hs:Ts s<=8)(hF:10<=F):∃x,strings_IndexAny F s [47,0]=iN x/\eK (0<=x)=s.any zm:=by
 have key:∀(n p G:Nat),Ts s-p<=n->p<=Ts s->n<G->(∀j,j<p->zm (s.getD j 0)=eQ)->∃x,bX (σ:=Bs×Int) (R:=Int) (λzx x4=>
  cond (dE (eJ x4.2) x4.1.length)
  ((kf F [47,0] ((dec x4.1 (eJ x4.2)).1:Int)).bind λx6=>
  cond (eK (0<=x6))
  (iN (((eJ x4.2):Nat):Int))
  (zx (x4.1,((((eJ x4.2)+(dec x4.1 (eJ x4.2)).2):Nat):Int))))
  (iN (-1))) G (s,((p:Nat):Int))=iN x/\eK (0<=x)=s.any zm:=by
  intro n
  induction n with
  | zero=>
   intro p G h1 h2 h3 h4;obtain rfl:p=Ts s:=om;obtain⟨G,rfl⟩:∃H,G=H+1:=⟨G-1,om⟩;refine⟨-1,?_,?_⟩
   ·simp only[bX,cg];rw[atu om];rfl
   ·have:s.any zm=eQ:=by rw[List.any_eq_false];intro b hb;obtain⟨j,hj,rfl⟩:=lH hb;have:=h4 j hj;rw[gd hj]at this;simp[this]
    rw[this];rfl
  | succ n ih=>
   intro p G h1 h2 h3 h4;obtain⟨G,rfl⟩:∃H,G=H+1:=⟨G-1,om⟩;by_cases hp:p<Ts s
   ·simp only[bX,cg];rw[atv hp,aU];by_cases ha:(s.getD p 0).toNat<128
    ·rw[AR ha];obtain⟨x,hx,hx2⟩:=al9 F _ ha;have hof:lL (s.getD p 0).toNat=s.getD p 0:=by simp
     rw[hof]at hx2;rw[show(((s.getD p 0).toNat,1):Nat×Nat).1=(s.getD p 0).toNat from rfl,hx,aE,hx2];cases hb:zm (s.getD p 0)with
     | true=>
      refine⟨(p:Int),rfl,?_⟩;have:s.any zm=hJ:=by rw[TH];exact⟨s[p],fm hp,by rw[<-gd hp];exact hb⟩
      rw[this,dT om]
     | false=>
      rw[aJ]
      exact ih (p+1) G om om om (λj hj=>by
       by_cases e:j=p
       ·subst e;exact hb
       ·exact h4 j om)
    ·obtain⟨d1,d2,d3,d4⟩:=amb ha;rw[arj F _ d1 om,aE];rw[cf om];have:=d3 hp
     exact ih (p+(dec s p).2) G om om om (λj hj=>by
      by_cases e:j<p
      ·exact h4 j e
      ·have h:=d4 (j-p) om;rw[show p+(j-p)=j by omega]at h;unfold zm;have e1:(s.getD j 0==47)=eQ:=by simp only[iu,ne_eq];intro e;rw[e]at h;exact absurd h de
       have e2:(s.getD j 0==0)=eQ:=by simp only[iu,ne_eq];intro e;rw[e]at h;exact absurd h de
       rw[e1,e2];rfl)
   ·obtain rfl:p=Ts s:=om;exact ih s.length (G+1) om om om h4
 obtain⟨x,h1,h2⟩:=key s.length 0 F om om om (λj hj=>om);refine⟨x,?_,h2⟩;unfold strings_IndexAny strings_shouldUseASCIISet wx;rw[show(([47,0]:Bs)==[])=eQ from rfl,aJ,show(((Ts ([47,0]:Bs):Nat):Int)==1)=eQ from rfl,aJ];simp only[aE];rw[cf om];exact h1
theorem atw(F:Nat)(s:Bs)(hs:Ts s<=32)(hF:10<=F):strings_ContainsAny F s [47,0]=iN (s.any zm):=by
 unfold strings_ContainsAny abJ wx;by_cases h8:Ts s<=8
 ·obtain⟨x,h1,h2⟩:=ama F s h8 hF;rw[aaT h8,aU,h1,aE,h2]
 ·have:iO s.length 8=eQ:=by
   cases h:iO s.length 8
   ·rfl
   ·exact absurd (lY h) h8
  rw[this,aJ,cE,aE,ark];rw[dT om];rfl
theorem afU(F:Nat)(s:Bs)(hF:10<=F):xj F s=iN (lQ s):=by
 unfold xj wx;simp only[aH,aE,cF];have e1:(eK (1<=(Ts s:Int))&&eK ((Ts s:Int)<=32))=(eK (1<=Ts s)&&eK (Ts s<=32)):=by rw[tH];simp only[cK,fW];omega
 rw[e1];unfold lQ;cases h1:(eK (1<=Ts s)&&eK (Ts s<=32))
 ·rfl
 ·simp only[cK,fW]at h1;rw[atw F s h1.2 hF];cases (s==[46])<;>cases (s==[46,46])<;>rfl
def gF(s:Bs):Bool:=s==[47]||((eK (2<=Ts s)&&eK (Ts s<=128))&&(s.getD 0 0==47&&(cm (s.drop 1)).all lQ))
theorem Zb(p:J Bs):cond (p.any λn=>!lQ n) (iN eQ) (iN hJ)=iN (p.all lQ):=by grind
theorem abV(F:Nat)(s:Bs)(hF:200<=F):xl F s=iN (gF s):=by
 unfold xl gF wx;cases h1:(s==[47])with
 | true=>rfl|false=>
  simp only[aJ,aH,aE,cT];by_cases h2:2<=Ts s/\s.length<=128
  ·rw[dF om,dF om,Bool.or_self,aJ,kK om,aE,U9 _ 47 om,dT h2.1,dT h2.2];cases h3:(s.getD 0 0==47)with
   | false=>rfl|true=>
    rw[ia,ck om om,abU,ajQ F _ aR aR,aE];have hl:=Jl (s.drop 1);have hm:=aal (s.drop 1);simp only[Kl]at hl hm;rw[oK (cm (s.drop 1)) (λi=>(i:Int)) (λn=>!lQ n) (λ_ _=>iN eQ) (iN hJ) om (by rfl) (λi h rc=>?_) (λrc=>?_),Dq,Zb]
    ·rfl
    ·have:=hm _ (fm h);rw[cq om,ck om om,cg,gd h,al8 F _ om om,aE,bW om]
    ·rw[cf om]
  grind
theorem ajR(F:Nat)(s p:Bs):cD F s p=iN (eK (Ts p<=Ts s)&&s.take p.length==p):=by
 unfold cD kF wx;by_cases h:Ts p<=Ts s
 ·rw[cq om,ck om om,dT h,RC];rfl
 ·rw[dF om,dF h];rfl
theorem afV(F:Nat)(s:Bs)(hF:200<=F):xo F s=iN (gF s):=by
 unfold xo gF wx;cases h1:(s==[47])with
 | true=>rfl|false=>
  have hne:s≠[47]:=by simpa using h1
  simp only[aJ,OV];rw[ajR];simp only[aE,aH,cT];by_cases h2:2<=Ts s/\s.length<=128
  ·rw[dF om,OV,dT h2.1,dT h2.2];have e:(eK (Ts ([47]:Bs)<=Ts s)&&s.take ([47]:Bs).length==[47])=(s.getD 0 0==47):=by rw[dT aR];cases s with|nil=>simp at h2|cons b l=>simp
   rw[e];cases h3:(s.getD 0 0==47)with
   | false=>rfl|true=>
    rw[ia,aJ,ck om om,abU,TU F _ aR];simp only[aE];have hl:=Jl (s.drop 1);simp only[Kl]at hl;rw[oK (cm (s.drop 1)) (λi=>(i:Int)) (λn=>!lQ n) (λ_ _=>iN eQ) (iN hJ) om (by rfl) (λi h rc=>?_) (λrc=>?_),Dq,Zb]
    ·rfl
    ·rw[cq om,ck om om,cg,gd h,afU F _ om,aE,bW om]
    ·rw[cf om]
  ·have h3:(eK (2<=Ts s)&&eK (Ts s<=128))=eQ:=by rw[UU];simp only[agT];omega
   rw[h3];have:(eK (128<(Ts s:Int)) || !(eK (Ts ([47]:Bs)<=Ts s)&&s.take ([47]:Bs).length==[47]))=hJ:=by
    by_cases h4:128<Ts s
    ·rw[dT om];rfl
    ·have h5:Ts s<2:=om;rw[Mf,wR,UU];right
     match s,h5 with|[],_=>left;rfl|[b],_=>right;simp at hne⊢;exact hne
   rw[this];rfl
def qS(s:Bs):Nat:=(Lib.lastIndexByte ⟨⟨s⟩⟩ 47).toNat
def iT(s:Bs):Bs:=cond (qS s==0) [47] (s.take (qS s))
theorem b47(b:UInt8):((b.toNat:Int)=47)↔b=47:=by have:=qo b 47 om;rw[tH]at this;simpa using this
theorem Ms(s:Bs):(Lib.lastIndexByte ⟨⟨s⟩⟩ 47=-1/\∀j,j<Ts s->s.getD j 0≠47) \/
  ∃i:Nat,i<Ts s/\Lib.lastIndexByte ⟨⟨s⟩⟩ 47=i/\s.getD i 0=47/\∀j,i<j->j<Ts s->s.getD j 0≠47:=by
 have h:=Lib.lastIdx_spec ⟨⟨s⟩⟩ 47 s.length;simp[b47]at h;exact h
theorem Vf(s:Bs)(a:Nat)(h1:(a<Ts s/\s.getD a 0=47)\/a=0)(h2:∀j,a<j->j<Ts s->s.getD j 0≠47):qS s=a:=by unfold qS;grind[Ms,Nat.lt_trichotomy]
theorem amc(s:Bs):((qS s<Ts s/\s.getD (qS s) 0=47)\/qS s=0)/\∀j,qS s<j->j<Ts s->s.getD j 0≠47:=by unfold qS;grind[Ms]
theorem ajS(s:Bs):qS s<=Ts s:=by grind[amc]
theorem apr(F:Nat)(s:Bs)(hF:Ts s<F)(hs:Ts s<1000000000):Pa F s=iN (qS s:Int):=by
 refine cy (λx=>∃a k:Nat,x.1=(a:Int)/\x.2=(k:Int)/\k<=Ts s/\((a<k/\s.getD a 0=47)\/a=0)/\∀j,a<j->j<k->s.getD j 0≠47) (λx=>Ts s-x.2.toNat) ?_ F _ ⟨0,0,rfl,rfl,om,.inr rfl,λj _ hj=>om⟩ (by simpa using hF);rintro⟨aa,ii⟩ ⟨a,k,h0,h0',h1,h2,h3⟩;subst h0 h0';by_cases hk:k<Ts s
 ·left;have hg:s.getD k 0=s[k]:=gd hk;cases hb:(s[k]==47)with
  | true=>refine⟨((k:Int),((k+1:Nat):Int)),⟨k,k+1,rfl,rfl,om,.inl ⟨om,by simp_all⟩,λj h h'=>om⟩,aR,λrc=>?_⟩;rw[cq om,ck om om,cg,hg,qo _ 47 om,hb,aU,bW om]|false=>
   refine⟨((a:Int),((k+1:Nat):Int)),⟨a,k+1,rfl,rfl,om,?_,λj h h'=>?_⟩,aR,λrc=>?_⟩
   ·grind
   ·grind
   ·rw[cq om,ck om om,cg,hg,qo _ 47 om,hb,aJ,bW om]
 ·right;obtain rfl:k=Ts s:=om;intro rc;rw[cf om,Vf s a h2 h3]
theorem ahw(F:Nat)(s:Bs)(hF:Ts s<F)(hs:Ts s<1000000000):BC F s=iN (iT s):=by
 unfold BC iT wx;rw[apr F s hF hs,aE];have:=ajS s;by_cases h:qS s=0
 ·rw[h];rfl
 ·have e1:((qS s:Int)==0)=eQ:=by simpa using h
  have e2:(qS s==0)=eQ:=by simpa using h
  rw[e1,e2,aJ,aJ,ck om om,RC]
theorem ajT(F:Nat)(s:Bs)(hs:Ts s<1000000000):TW F s 47=iN (Lib.lastIndexByte ⟨⟨s⟩⟩ 47):=by grind[TW,kK]
theorem Zc(F:Nat)(s:Bs)(hs:Ts s<1000000000):BD F s=iN (iT s):=by
 unfold BD iT wx;rw[ajT F s hs,aE];have hc:=ajS s;unfold qS at *;rcases Ms s with⟨e,h⟩|⟨i,hi,e,h3,h4⟩
 ·rw[e];rfl
 ·rw[e]at hc⊢;by_cases h:i=0
  ·subst h;rfl
  ·have e2:(((i:Int).toNat)==0)=eQ:=by simpa using h
   rw[cf om,ck om om,e2];rfl
def Jm(p:Bs)(f:aZ):Bool:=f.bN==p
def jo(l:J aZ)(p:Bs):O aZ:=l.find? (Jm p)
def Kt(l:J aZ)(p:Bs):Bool:=l.any (Jm p)
theorem find_eq(F:Nat)(l:J aZ)(p:Bs)(hF:Ts l<F)(hl:Ts l<1000000000):sJ F l p=iN ((jo l p).elim (aZ.mk [] eQ [],eQ) λf=>(f,hJ)):=by
 unfold sJ wx;rw[oK l (λi=>(i:Int)) (Jm p) (λ_ f=>iN (f,hJ)) (iN (aZ.mk [] eQ [],eQ)) hF (by rfl) (λi h rc=>?_) (λrc=>?_),Jj]
 ·unfold jo;cases l.find? (Jm p)<;>rfl
 ·rw[cq om,ck om om,cg,gd h,bW om];rfl
 ·rw[cf om]
def fiS(l:J aZ)(p:Bs):Int:=(l.findIdx? (Jm p)).elim (-1) λj=>(j:Int)
theorem amd(F:Nat)(l:J aZ)(p:Bs)(hF:Ts l<F)(hl:Ts l<1000000000):Gk F l p=iN (fiS l p):=by
 unfold Gk fiS wx;rw[oK l (λi=>(i:Int)) (Jm p) (λi _=>iN (i:Int)) (iN (-1)) hF (by rfl) (λi h rc=>?_) (λrc=>?_),TX _ _ _ cw]
 ·cases l.findIdx? (Jm p)<;>simp
 ·rw[cq om,ck om om,cg,gd h,bW om];rfl
 ·rw[cf om]
theorem ajU(l:J aZ)(p:Bs):(l.findIdx? (Jm p)=iF/\jo l p=iF/\Kt l p=eQ)\/∃j,j<Ts l/\l.findIdx? (Jm p)=iN j/\jo l p=iN (l.getD j cw)/\Kt l p=hJ:=by
 unfold jo Kt
 induction l with|nil=>simp_all|cons f l ih=>grind
theorem TY(l:J aZ)(p:Bs):(fiS l p=-1/\jo l p=iF/\Kt l p=eQ)\/∃j:Nat,j<Ts l/\fiS l p=(j:Int)/\jo l p=iN (l.getD j cw)/\Kt l p=hJ:=by unfold fiS;grind[ajU]
def BE(a p:Bs):Bool:=cond (a==[47]) (!(p==[47])) (eK (Ts a+1<=Ts p)&&p.take (Ts a+1)==a++[47])
theorem ajV(F:Nat)(a p:Bs):D7 F a p=iN (BE a p):=by
 unfold D7 BE wx;cases (a==[47])
 ·by_cases h:Ts a+1<=Ts p
  ·have hl:Ts a<Ts p:=om;rw[cq om,ck om om,RC,aE,dT h];have e:(p.take (Ts a+1)==a++[47])=(p.take a.length==a&&p.getD a.length 0==47):=by rw[lF hl];grind[List.append_inj]
   rw[e];cases (p.take a.length==a)
   ·rfl
   ·rw[ck om om,qo _ 47 om];rfl
  grind
 ·rfl
def Jn(l:J aZ)(p:Bs):Int:=cond (l.any λf=>!f.mc&&BE f.bN p) 18 (cond (Kt l (iT p)) 0 8)
theorem ame(F:Nat)(l:J aZ)(p:Bs)(hF:Ts l<F)(hl:Ts l<1000000000)(hp:Ts p<1000000000)(hpF:Ts p<F):BG F l p=iN (Jn l p):=by
 unfold BG wx;rw[oK l (λi=>(i:Int)) (λf=>!f.mc&&BE f.bN p) (λ_ _=>iN 18) (iN (cond (Kt l (iT p)) 0 8)) hF (by rfl) (λi h rc=>?_) (λrc=>?_),Dq,aH]
 ·rfl
 ·rw[ck om om,ck om om,cg,ajV F _ _,bW om];grind
 ·rw[cf om,ahw F p hpF hp,aE,amd F l _ hF hl];rcases TY l (iT p)with⟨h1,h2,h3⟩|⟨j,h0,h1,h2,h3⟩
  ·rw[h1,h3];rfl
  grind
def NP(l:J aZ)(k:Nat):Int:=
 cond (!gF (l.getD k cw).bN) 10
 (cond (((l.getD k cw).mc && !((l.getD k cw).fData==[]))||((l.getD k cw).bN==[47] && !(l.getD k cw).mc)) 1
 (cond (eK (8192<(l.getD k cw).fData.length)) 3
 (cond (eK (0<k)&&(pD (l.getD k cw).bN (l.getD (k-1) cw).bN||(l.getD k cw).bN==(l.getD (k-1) cw).bN)) 25
 (cond (eK (0<k)) (Jn (l.take k) (l.getD k cw).bN) 0))))
def Zd(l:J aZ):Nat->Nat->Int|0,_=>0|n+1,k=>cond (NP l k==0) (Zd l n (k+1)) (NP l k)
def iX(l:J aZ):Int:=cond (eK (128<Ts l)) 4 (cond (Ts l==0 || !((l.getD 0 cw).bN==[47])) 8 (Zd l l.length 0))
def Pb(l:J aZ):Prop:=Ts l<=140/\∀f∈l,Ts f.bN<=300/\f.fData.length<=9000
theorem Pb.at{l:J aZ}(h:Pb l)(k:Nat):(l.getD k cw).bN.length<=300/\(l.getD k cw).fData.length<=9000:=by
 by_cases hk:k<Ts l
 ·rw[gd hk];exact h.2 _ (fm hk)
 ·have:l.getD k cw=cw:=by simp_all
  rw[this];exact⟨by decide,by decide⟩
theorem atx(l:J aZ):(cond ((Ts l:Int)==0)
 (iN hJ)
 (rq (eK (0<(Ts l:Int))) (iN (!(((l.getD 0 cw).bN)==([47]:Bs))))):O Bool)=iN (Ts l==0 || !((l.getD 0 cw).bN==[47])):=by
  cases l with
  | nil=>rfl|cons f l=>
   have e1:(((Ts (f::l):Nat):Int)==0)=eQ:=by simp;omega
   have e2:(Ts (f::l)==0)=eQ:=by simp
   rw[e2,kK si];rfl
theorem amf(l:J aZ)(k:Nat)(r:O Int):cond (!gF (l.getD k cw).bN) (iN 10)
 (cond (((l.getD k cw).mc && !((l.getD k cw).fData==[]))||((l.getD k cw).bN==[47] && !(l.getD k cw).mc)) (iN 1)
 (cond (eK (8192<(l.getD k cw).fData.length)) (iN 3)
 (cond (eK (0<k)&&(pD (l.getD k cw).bN (l.getD (k-1) cw).bN||(l.getD k cw).bN==(l.getD (k-1) cw).bN)) (iN 25)
 (cond (eK (0<k)) (cond (Jn (l.take k) (l.getD k cw).bN != 0) (iN (Jn (l.take k) (l.getD k cw).bN)) r) r))))=cond (NP l k==0) r (iN (NP l k)):=by
 unfold NP;grind
theorem aty{l:J aZ}{body:(Int->O Int)->Int->O Int}(F:Nat)(hF:Ts l<F)(hs:∀(k:Nat) rc,k<Ts l->body rc (k:Int)=cond (NP l k==0) (rc ((k+1:Nat):Int)) (iN (NP l k)))(he:∀rc,body rc (Ts l:Int)=iN 0):bX body F 0=iN (Zd l l.length 0):=by
 refine cy (λx=>∃k n:Nat,x=(k:Int)/\k+n=Ts l/\Zd l n k=Zd l l.length 0) (λx=>Ts l-x.toNat) ?_ F _ ⟨0,Ts l,rfl,om,rfl⟩ (by simpa using hF);rintro x ⟨k,n,rfl,h1,h2⟩;cases n with
 | zero=>right;obtain rfl:k=Ts l:=om;intro rc;rw[he,<-h2];rfl
 | succ n=>rw[Zd]at h2;cases hv:(NP l k==0)with|true=>left;rw[hv]at h2;exact⟨_,⟨k+1,n,rfl,om,h2⟩,aR,λrc=>by grind⟩|false=>grind
theorem arl(l:J aZ)(k:Nat)(hk:k<Ts l)(hl:Ts l<1000000000):(cond (eK (0<(k:Int)))
 (rq ((eK (0<=aD ((k:Int)-1)))&&(eK (aD ((k:Int)-1)<(Ts l:Int)))) (iN (pD ((l.getD k cw).bN) ((l.getD (eJ (aD ((k:Int)-1))) cw).bN)||((l.getD k cw).bN)==((l.getD (eJ (aD ((k:Int)-1))) cw).bN))))
 (iN eQ):O Bool)=iN (eK (0<k)&&(pD (l.getD k cw).bN (l.getD (k-1) cw).bN||(l.getD k cw).bN==(l.getD (k-1) cw).bN)):=by
  by_cases h0:0<k
  ·rw[cq om,uQ om h0,ck om om,cg,dT h0,Kn]
  simp_all
theorem auW(k:Nat):eK (0<(k:Int))=eK (0<k):=by simp_all
theorem amg(n k:Nat):eK ((k:Int)<(n:Int))=eK (k<n):=by simp_all
theorem ajW(F:Nat)(l:J aZ)(hF:400<=F)(h:Pb l):D8 F l=iN (iX l):=by
 have hl:=h.1;unfold D8 iX wx;rw[show eK (128<(Ts l:Int))=eK (128<Ts l)from amg _ 128,atx];cases eK (128<Ts l)with
 | true=>rfl|false=>
  cases (Ts l==0 || !((l.getD 0 cw).bN==[47]))with
  | true=>rfl|false=>
   refine aty F om (λk rc hk=>?_) (λrc=>?_)
   ·rw[cq om,ck om om,cg,abV F _ om,arl l k hk om];simp only[aH,cF,aE,cT];rw[show eK (8192<(((l.getD k cw).fData.length:Nat):Int))=eK (8192<(l.getD k cw).fData.length)from amg _ 8192,auW,ck om om,RC];have:=(h.at k).1;rw[ame F (l.take k) _ aR aR om om,aE,bW om,<-amf]
   ·rw[cf om]
theorem amh(F:Nat)(l:J aZ)(hF:200<=F):∃b,(b=hJ->Pb l)/\Ku F l=iN b:=by
 refine BH (λb=>b=hJ->Pb l) (λx=>∃n k:Nat,x.1=(n:Int)/\x.2=(k:Int)/\k<=Ts l/\k<=140/\n<=10000*k/\∀f∈l.take k,Ts f.bN<=300/\f.fData.length<=9000) (λx=>140-x.2.toNat) ?_ F _ ⟨0,0,rfl,rfl,om,om,om,si⟩ aR;rintro⟨nn,ii⟩ ⟨n,k,h0,h0',h1,h2,h3,h4⟩;subst h0 h0';simp only[aH,cF,aE];by_cases hc:k<Ts l/\k<140/\n<40000
 ·have hk:=hc.1;have e:((eK ((k:Int)<(Ts l:Int))&&eK ((k:Int)<140))&&eK ((n:Int)<40000))=hJ:=by grind
  rw[e];simp only[aU,cg,gd hk];by_cases hb:l[k].bN.length<=300/\l[k].fData.length<=9000
  ·left;refine⟨(((n+l[k].bN.length+l[k].fData.length:Nat):Int),((k+1:Nat):Int)),⟨_,k+1,rfl,rfl,om,om,om,λf hf=>?_⟩,aR,λrc=>?_⟩
   ·grind[List.take_succ_eq_append_getElem,List.mem_singleton]
   ·grind[bL,ck]
  ·right;refine⟨eQ,λh=>(by cases h),λrc=>?_⟩;rw[ck om om];by_cases hp:l[k].bN.length<=300
   ·rw[cf om,ck om om,dT om];rfl
   grind
 ·have e:((eK ((k:Int)<(Ts l:Int))&&eK ((k:Int)<140))&&eK ((n:Int)<40000))=eQ:=by grind
  right;rw[e];refine⟨_,λh=>?_,λrc=>rfl⟩;simp only[cK,fW]at h;refine⟨om,λf hf=>h4 f ?_⟩;grind
variable{l:J Bs}
theorem ami(h:l.Pairwise (· < ·)):rS l=l:=by
 have hn:l.Nodup:=h.imp λ{a b} hab e=>by grind
 exact RE (Ze hn) h λx=>(uW l).mem_iff
set_option maxRecDepth 100000
theorem w2:zC 60 [47] [46,46]=iN ([47],0):=by kernel_rfl
def dW:J Bs->Bs|[]=>[]|[x]=>x|x::y::l=>x++47::dW (y::l)
theorem join_eq:∀(l:J Bs),Lib.join l [47]=dW l|[]=>rfl|[x]=>by simp[Lib.join,dW]|x::y::l=>by have ih:=join_eq (y::l);simp only[Lib.join]at ih⊢;rw[dW,<-ih];simp
theorem Mu(x:Bs)(h:l≠[]):dW (x::l)=x++47::dW l:=by cases l with|nil=>exact absurd rfl h|cons y l=>rfl
theorem Gl:∀(l:J Bs)(c:Bs),l≠[]->dW (l++[c])=dW l++47::c|[],c,h=>absurd rfl h|[x],c,_=>rfl|x::y::l,c,_=>by have ih:=Gl (y::l) c si;rw[rY,Mu x si,ih,dW];simp
theorem Vg:∀(s:Bs),dW (cm s)=s
 | []=>rfl|b::l=>by
  have ih:=Vg l;rw[cm];cases hb:(b==47)with
  | true=>rw[aU,Mu _ (td l),ih];rw[eq_of_beq hb];rfl|false=>
   rw[aJ];cases hp:cm l with
   | nil=>exact absurd hp (td l)|cons p ps=>rw[hp]at ih;cases ps with|nil=>rw[dW]at ih⊢;rw[ih]|cons q qs=>rw[dW]at ih⊢;rw[rY,ih]
def rZ(c:Bs):Prop:=∀b∈c,b≠47
theorem Vh:∀(c:Bs),rZ c->cm c=[c]
 | [],_=>rfl|b::c,h=>by
  have hb:(b==47)=eQ:=by simpa using h b si
  rw[cm,hb,aJ,Vh c λx hx=>h x (by simp[hx])]
theorem Jo:∀(c r:Bs),rZ c->cm (c++47::r)=c::cm r
 | [],r,_=>by rw[pN];rfl|b::c,r,h=>by
  have hb:(b==47)=eQ:=by simpa using h b si
  rw[rY,cm,hb,aJ,Jo c r λx hx=>h x (by simp[hx])]
theorem BI:∀(l:J Bs),l≠[]->(∀c∈l,rZ c)->cm (dW l)=l|[],h,_=>absurd rfl h|[x],_,h=>Vh x (h x si)|x::y::l,_,h=>by rw[dW,Jo x _ (h x si),BI (y::l) si λc hc=>h c (by simp[hc])]
variable{c:Bs}
theorem sK(h:lQ c=hJ):rZ c:=by intro b hb e;unfold lQ at h;simp only[cK,wR]at h;have:=List.any_eq_false.1 h.2.2.2 b hb;subst e;exact this rfl
theorem AA(h:lQ c=hJ):1<=Ts c/\c.length<=32:=by unfold lQ at h;simp_all
theorem Zf(h:lQ c=hJ):(c==[])=eQ/\(c==[46])=eQ/\(c==[46,46])=eQ:=by unfold lQ at h;grind
theorem join_le:∀(l:J Bs),(∀c∈l,lQ c=hJ)->Ts (dW l)<=33*Ts l|[],_=>by simp[dW]|[x],h=>by have:=AA (h x si);simp[dW];omega|x::y::l,h=>by have h1:=AA (h x si);have h2:=join_le (y::l) λc hc=>h c (by simp[hc]);rw[dW];simp at h2⊢;omega
def pathOf(l:J Bs):Bs:=[47]++dW l
def Names(l:J Bs):Prop:=∀c∈l,lQ c=hJ
theorem Names.snoc(h:Names l)(hc:lQ c=hJ):Names (l++[c]):=by
 intro x hx;rcases ni.1 hx with hx|hx
 ·exact h x hx
 simp_all
theorem Names.dropLast(h:Names l):Names l.dropLast:=λc hc=>h c (List.dropLast_subset l hc)
theorem RF(h:Names l)(hl:l≠[]):dW l≠[]:=by
 match l,hl with|[x],_=>have:=AA (h x si);intro e;rw[dW]at e;simp_all|x::y::l,_=>intro e;rw[dW]at e;simp at e
theorem D9(h:Names l):(pathOf l==[47])=(l==[]):=by
 cases l with
 | nil=>rfl|cons x l=>have:=RF h si;rw[show((x::l)==[])=eQ from rfl];simp[pathOf];exact this
theorem SY(h:Names l)(c:Bs):pathOf (l++[c])=(cond (pathOf l==[47]) [] (pathOf l)++[47])++c:=by
 rw[D9 h];cases l with
 | nil=>rfl|cons x l=>rw[show((x::l)==[])=eQ from rfl,pathOf,Gl _ _ si,pathOf];simp
theorem Mv(a c:Bs)(hc:rZ c):qS (a++47::c)=a.length:=by
 refine Vf _ _ (.inl ⟨si,si⟩) λj hj hl=>?_;have e:(a++47::c).getD j 0=c.getD (j-a.length-1) 0:=by grind
 simp at hl;rw[e,gd om];exact hc _ (fm _)
theorem Kv(h:Names l)(hc:lQ c=hJ):iT (pathOf (l++[c]))=pathOf l:=by
 have h47:=sK hc;cases l with
 | nil=>have:qS (pathOf ([]++[c]))=0:=Mv [] c h47;unfold iT;rw[this];rfl|cons x l=>
  have e:pathOf ((x::l)++[c])=pathOf (x::l)++47::c:=by rw[pathOf,Gl _ _ si,pathOf];simp
  have:qS (pathOf ((x::l)++[c]))=Ts (pathOf (x::l)):=by simp_all[Mv]
  unfold iT;have h0:(Ts (pathOf (x::l))==0)=eQ:=by simp[pathOf]
  grind
theorem HM(h:Names l):iT (pathOf l)=pathOf l.dropLast:=by
 rcases U2 l with rfl|⟨l',c,rfl⟩
 ·rfl
 ·have hc:=h c si;have hl:Names l':=λx hx=>h x (by simp[hx]);simp_all[Kv]
theorem yy{s:Bs}(h:gF s=hJ)(hr:(s==[47])=eQ):Names (cm (s.drop 1))/\pathOf (cm (s.drop 1))=s/\s.length<=128/\cm (s.drop 1)≠[]:=by unfold gF at h;rw[hr,OV]at h;simp only[cK,fW,pP]at h;obtain⟨⟨h1,h2⟩,h3,h4⟩:=h;refine⟨h4,?_,h2,td _⟩;rw[pathOf,Vg];cases s with|nil=>simp at h1|cons b s=>simp_all
theorem abW(h:Names l)(hl:(pathOf l).length<=128):gF (pathOf l)=hJ:=by
 unfold gF;cases l with
 | nil=>rfl|cons x l=>
  have hne:=RF h si;have hp:=BI (x::l) si λc hc=>sK (h c hc);have hlen:1<=Ts (dW (x::l)):=by grind
  have e1:(pathOf (x::l)).drop 1=dW (x::l):=rfl;have e2:(pathOf (x::l)).getD 0 0=47:=rfl;have e3:2<=Ts (pathOf (x::l)):=by simp[pathOf];omega
  rw[e1,hp,e2,dT e3,dT hl];have:=pP.2 h;rw[this];simp
def oX:J Bs->J Bs->O (J Bs)|[],n=>iN n|c::cs,n=>cond (c==[]||c==[46]) (oX cs n) (cond (c==[46,46]) (oX cs n.dropLast) (cond (lQ c) (oX cs (n++[c])) iF))
def clF:O (J Bs)->Bs×Int|none=>([],10)|some n=>cond (eK (128<Ts (pathOf n))) ([],3) (pathOf n,0)
def Le(cwd path:Bs):J Bs:=cond (!(path.getD 0 0==47) && !(cwd==[47])) (cm (cwd.drop 1)) []
def Vi(cwd path:Bs):Bs×Int:=cond (!gF cwd) ([],10) (cond (path==[]) ([],8) (clF (oX (cm path) (Le cwd path))))
theorem aeM{cwd path:Bs}(h:gF cwd=hJ):Names (Le cwd path)/\(Le cwd path).length<=200:=by
 unfold Le;cases hr:(cwd==[47])with
 | true=>rw[ia,TK];exact⟨λc hc=>(by cases hc),si⟩
 | false=>
  obtain⟨h1,h2,h3,-⟩:=yy h hr;have:=Jl (cwd.drop 1);cases (path.getD 0 0==47)
  ·grind
  ·exact⟨λc hc=>(by cases hc),si⟩
theorem dropLast_take(n:J Bs)(h:Ts n<1000000000):n.take (eJ (cond (eK (aD ((Ts n:Int)-1)<0)) 0 (aD ((Ts n:Int)-1))))=n.dropLast:=by
 rw[List.dropLast_eq_take];by_cases h0:Ts n=0
 ·rw[h0];rfl
 ·rw[uQ om om,cf om,cg]
theorem aeN(n:J Bs)(h:Ts n<1000000000):(eK (0<=cond (eK (aD ((Ts n:Int)-1)<0)) 0 (aD ((Ts n:Int)-1)))&&(eK (cond (eK (aD ((Ts n:Int)-1)<0)) 0 (aD ((Ts n:Int)-1))<=(Ts n:Int))))=hJ:=by
 by_cases h0:Ts n=0
 ·rw[h0];rfl
 ·rw[uQ om om,cf om,dT om,dT om];rfl
theorem amj(F:Nat)(cwd path:Bs)(hF:1000<=F)(hp:Ts path<=600):zC F cwd path=iN (Vi cwd path):=by
 unfold zC Vi wx;rw[afV F cwd om,aE];cases hc:gF cwd with
 | false=>rfl|true=>
  cases hpe:(path==[])with
  | true=>rfl|false=>
   have hpl:0<Ts path:=by grind
   obtain⟨hn,hnl⟩:=aeM (path:=path) hc;have hcl:1<=Ts cwd/\cwd.length<=128:=by
    cases hr:(cwd==[47])with
    | true=>simp_all|false=>obtain⟨h1,h2,h3,h4⟩:=yy hc hr;refine⟨?_,h3⟩;rw[<-h2];simp[pathOf]
   rw[aJ,aJ,kK om,ck om om,abU,TU F _ aR,TU F _ om,U9 _ 47 om];simp only[aE,aH,cF];show bX _ F (0,Le cwd path)=_;have awc:=Jl path;refine cy (λx=>∃k:Nat,x.1=(k:Int)/\k<=Ts (cm path)/\x.2.length<=200+k/\Names x.2/\oX ((cm path).drop k) x.2=oX (cm path) (Le cwd path)) (λx=>Ts (cm path)-x.1.toNat) ?_ F _ ⟨0,rfl,om,om,hn,si⟩ aR;rintro⟨ii,ns⟩ ⟨k,h0,h1,h2,h3,h4⟩;dsimp only at h0 h2 h3 h4⊢;subst h0;by_cases hk:k<Ts (cm path)
   ·have hg:(cm path).getD k []=(cm path)[k]:=gd hk;rw[sY hk]at h4;simp only[cq (show(k:Int)<(Ts (cm path):Int) by omega),ck (show 0<=(k:Int) by omega) (show(k:Int)<(Ts (cm path):Int) by omega),cg,hg,aH,aE];generalize(cm path)[k]=c at h4;rw[oX]at h4;cases h5:(c==[]||c==[46])with
    | true=>left;rw[h5,aU]at h4;refine⟨(((k+1:Nat):Int),ns),⟨k+1,rfl,om,by dsimp only;omega,h3,h4⟩,aR,λrc=>?_⟩;rw[show(cond (c==[]) (hJ,ns) (c==[46],ns))=((c==[]||c==[46]),ns) by cases (c==[])<;>rfl,h5];dsimp only;rw[aU,bW om]
    | false=>
     rw[h5,aJ]at h4;simp only[show(cond (c==[]) (hJ,ns) (c==[46],ns))=(eQ,ns) by grind,cond_false];cases h6:(c==[46,46])with
     | true=>left;rw[h6,aU]at h4;refine⟨(((k+1:Nat):Int),ns.dropLast),⟨k+1,rfl,om,aR,h3.dropLast,h4⟩,aR,λrc=>?_⟩;rw[aU,cE (aeN ns om),dropLast_take ns om,bW om]|false=>rw[h6,aJ]at h4;simp only[aJ,afU F c om,aE];cases h7:lQ c with|true=>left;rw[h7,aU]at h4;refine⟨(((k+1:Nat):Int),ns++[c]),⟨k+1,rfl,om,aR,h3.snoc h7,h4⟩,aR,λrc=>?_⟩;rw[aU,ck aR aR,bW om]|false=>right;rw[h7,aJ]at h4;intro rc;rw[aJ,<-h4];rfl
   ·obtain rfl:k=Ts (cm path):=om;right;intro rc;rw[Ma,oX]at h4;have hj:=join_le ns h3
    first
    | rw[cf om,Ad,join_eq,ck om om,aE,kK aR,<-h4]
    | rw[cf om,zD,Ad,join_eq,ck om om,aE,aE,kK aR,<-h4]
    show iN (cond (eK (128<((Ts (pathOf ns):Nat):Int))) ([],3) (pathOf ns,0))=_;rw[show eK (128<((Ts (pathOf ns):Nat):Int))=eK (128<Ts (pathOf ns))from amg _ 128];rfl
def Pc(l:J aZ):Prop:=l.Pairwise λx y=>x.bN<y.bN
structure VL(l:List aZ):Prop where
 len:Ts l<=128
 pos:0<Ts l
 root:(l.getD 0 cw).bN=[47]
 path:∀f∈l,gF f.bN=hJ
 dir:∀f∈l,f.mc=hJ->f.fData=[]
 amk:∀f∈l,f.bN=[47]->f.mc=hJ
 data:∀f∈l,Ts f.fData<=8192
 asc:Pc l
 arn:∀k,0<k->k<Ts l->Jn (l.take k) (l.getD k cw).bN=0
theorem abX(l:J aZ):∀(n k:Nat),Zd l n k=0↔∀j,k<=j->j<k+n->NP l j=0
 | 0,k=>⟨λ_ j h h'=>om,λ_=>rfl⟩|n+1,k=>by
  rw[Zd];cases h:(NP l k==0)with
  | true=>
   rw[aU,abX l n (k+1)];constructor
   ·intro h1 j h2 h3;by_cases e:j=k
    ·subst e;simpa using h
    ·exact h1 j om om
   ·intro h1 j h2 h3;exact h1 j om om
  | false=>
   rw[aJ];constructor
   ·intro h1;rw[h1]at h;cases h
   ·intro h1;have:=h1 k om om;rw[this]at h;cases h
theorem Vj:∀ {l:J aZ},(∀k,0<k->k<Ts l->(l.getD (k-1) cw).bN<(l.getD k cw).bN)->Pc l
 | [],_=>List.Pairwise.nil|[x],_=>ag8 _ _|x::y::l,h=>by
  have ih:Pc (y::l):=Vj λk h1 h2=>by have:=h (k+1) om (by simpa using h2);rw[show k+1-1=(k-1)+1 by omega]at this;simpa using this
  have hxy:x.bN<y.bN:=by have:=h 1 om si;simpa using this
  refine zg.2 ⟨λz hz=>?_,ih⟩;rcases hU.1 hz with rfl|hz
  ·exact hxy
  ·exact sM hxy ((zg.1 ih).1 z hz)
theorem XE{l:J aZ}(h:Pc l)(i j:Nat)(hij:i<j)(hj:j<Ts l):(l.getD i cw).bN<(l.getD j cw).bN:=by rw[gd (show i<l.length by omega),gd hj];exact agR.1 h i j om hj hij
theorem aml(l:J aZ)(k:Nat):NP l k=0↔gF (l.getD k cw).bN=hJ/\((l.getD k cw).mc=hJ->(l.getD k cw).fData=[])/\((l.getD k cw).bN=[47]->(l.getD k cw).mc=hJ) /\
  (l.getD k cw).fData.length<=8192/\(0<k->(l.getD (k-1) cw).bN<(l.getD k cw).bN)/\(0<k->Jn (l.take k) (l.getD k cw).bN=0):=by
 unfold NP;generalize l.getD k cw=f;generalize l.getD (k-1) cw=g;cases h1:gF f.bN with
 | false=>simp|true=>
  cases h2:((f.mc && !(f.fData==[]))||(f.bN==[47] && !f.mc))with
  | true=>grind|false=>
   have h3:f.mc=hJ->f.fData=[]:=λh=>by simp_all
   have h4:f.bN=[47]->f.mc=hJ:=λh=>by simp_all
   by_cases h5:8192<Ts f.fData
   ·grind
   ·rw[cf h5];by_cases h6:0<k
    ·rw[<-atz g.bN f.bN];cases h7:pD g.bN f.bN with|true=>simp_all[Mw,ia,aJ]|false=>have:=(EH _ _).1 h7;grind
    simp_all
theorem ajX(l:J aZ):iX l=0↔VL l:=by
 unfold iX;by_cases h1:128<Ts l
 ·rw[cq h1];exact⟨λh=>(by cases h),λh=>by have:=h.len;omega⟩
 ·rw[cf h1];cases h2:(Ts l==0 || !((l.getD 0 cw).bN==[47]))with
  | true=>refine⟨λh=>(by cases h),λh=>?_⟩;have a:=h.pos;have b:=h.root;simp_all
  | false=>
   rw[aJ];simp only[abe,iu,ne_eq,ahg,uL]at h2;rw[abX];simp only[aml];constructor
   ·intro h;have hm:∀f∈l,∃k,k<Ts l/\l.getD k cw=f:=λf hf=>by grind[List.getElem_of_mem,gd]
    refine⟨om,om,h2.2,?_,?_,?_,?_,Vj λk h3 h4=>(h k om om).2.2.2.2.1 h3,λk h3 h4=>(h k om om).2.2.2.2.2 h3⟩
    ·grind
    ·grind
    ·grind
    grind
   ·intro h j hj hj';have hj':j<Ts l:=om;have hm:l.getD j cw∈l:=by simp_all
    exact⟨h.path _ hm,h.dir _ hm,h.amk _ hm,h.data _ hm,λh0=>XE h.asc (j-1) j om hj',λh0=>h.arn j h0 hj'⟩
theorem VL.small{l:J aZ}(h:VL l):∀f∈l,Ts f.bN<=128:=by intro f hf;have:=h.path f hf;cases hr:(f.bN==[47])with|true=>rw[eq_of_beq hr];decide|false=>simp_all[yy]
def mX(s:Bs):Bs:=s.drop (qS s+1)
def aro(p:Bs):Bs:=cond (p==[47]) [] p++[47]
theorem EI{s:Bs}(h:gF s=hJ)(hr:(s==[47])=eQ):∃n c,Names n/\lQ c=hJ/\s=pathOf (n++[c])/\iT s=pathOf n/\mX s=c/\s=aro (iT s)++c/\qS s<Ts s:=by
 obtain⟨h1,h2,h3,h4⟩:=yy h hr;rcases U2 (cm (s.drop 1))with e|⟨n,c,e⟩
 ·exact absurd e h4
 ·rw[ahf]at e;rw[e]at h1 h2;have hn:Names n:=λx hx=>h1 x (by simp[hx]);have hc:=h1 c si;have hs:=SY hn c;have hp:=Kv hn hc;rw[h2]at hs hp;have auX:qS s=Ts (cond (pathOf n==[47]) [] (pathOf n)):=by simp_all[tI,Mv,sK]
  refine⟨n,c,hn,hc,h2.symm,hp,?_,?_,?_⟩
  ·unfold mX;simp_all
  ·rw[hp];exact hs
  ·rw[auX,hs];simp
theorem arp(p u v:Bs):p++u<p++v↔u<v:=by
 induction p with|nil=>exact Iff.rfl|cons b p ih=>simp_all
def zn(p:Bs)(f:aZ):Bool:=!(f.bN==[47])&&iT f.bN==p
def dQ(l:J aZ)(p:Bs):J Bs:=(l.filter (zn p)).map λf=>mX f.bN
theorem TZ{l:J aZ}(h:VL l)(p:Bs):(dQ l p).Pairwise (· < ·):=by unfold dQ;rw[List.pairwise_map];have h1:(l.filter (zn p)).Pairwise λx y=>x.bN<y.bN:=h.asc.filter _;refine List.Pairwise.imp_of_mem (λ{x y} hx hy hxy=>?_) h1;rw[Rt]at hx hy;unfold zn at hx hy;simp only[cK,wR]at hx hy;obtain⟨-,c,-,-,-,-,e1,e2,-⟩:=EI (h.path x hx.1) hx.2.1;obtain⟨-,d,-,-,-,-,e3,e4,-⟩:=EI (h.path y hy.1) hy.2.1;grind[arp]
def ajY(l:J aZ)(p:Bs):(l.flatMap λf=>cond (zn p f) [mX f.bN] [])=dQ l p:=SZ _ _ l
theorem amm(l:J aZ)(p:Bs)(i:Nat):((l.take i).flatMap λf=>cond (zn p f) [mX f.bN] []).length<=i:=by have:=XF (λf=>cond (zn p f) [mX f.bN] ([]:J Bs)) 1 (λa=>by cases zn p a<;>simp) (l.take i);grind
def ahx(l:J aZ)(p:Bs):J Bs×Int:=cond (!gF p) ([],10) ((jo l p).elim ([],8) λf=>cond (!f.mc) ([],18) (dQ l p,0))
theorem aps(F:Nat)(l:J aZ)(p:Bs)(hF:1000<=F)(h:VL l):BJ F l p=iN (ahx l p):=by
 have hl:=h.len;unfold BJ ahx wx;rw[afV F p om,aE];cases gF p with
 | false=>rfl|true=>
  rw[ia,aJ,aJ,find_eq F l p om om,aE];rcases TY l p with⟨h1,h2,h3⟩|⟨j,h0,h1,h2,h3⟩
  ·rw[h2];rfl
  ·rw[h2];simp only[Option.elim,ia,aJ];cases (l.getD j cw).mc with
   | false=>rfl|true=>
    rw[ia,aJ,aJ];refine ahy l (λi o=>((i:Int),o)) (λf=>cond (zn p f) [mX f.bN] []) om (by rfl) (λi hi rc o ho=>?_) (λrc=>?_)
    ·have hm:=h.small _ (fm hi);have hlen:Ts o<=i:=by rw[ho];exact amm l p i
     rw[cq om];simp only[ck (show 0<=(i:Int) by omega) (show(i:Int)<(Ts l:Int) by omega),cg,gd hi,Zc F l[i].bN (show l[i].bN.length<1000000000 by omega),aE,aH];rw[show(cond (!(l[i].bN==[47])) (iT l[i].bN==p,o) (eQ,o))=(zn p l[i],o) by unfold zn;grind,bW om];cases hk:zn p l[i]with
     | false=>simp|true=>
      unfold zn at hk;simp only[cK,wR]at hk;obtain⟨-,c,-,-,-,-,-,-,e3⟩:=EI (h.path _ (fm hi)) hk.1;have auY:Lib.lastIndexByte ⟨⟨l[i].bN⟩⟩ 47=(qS l[i].bN:Int):=by
       unfold qS;rcases Ms l[i].bN with⟨e,hh⟩|⟨q,hq,e,-⟩
       ·have hp:=h.path _ (fm hi);unfold gF at hp;grind
       ·rw[e];rfl
      rw[aU,aU,ajT F _ om,aE,auY,bW om,wA om om om,ck aR aR,XD];rfl
    ·dsimp only;rw[cf om,ajY,RG,ami (TZ h p),kK,aE];have:(dQ l p).length<=Ts l:=by unfold dQ;grind
     omega
theorem Jp{l:J aZ}{p:Bs}{g:aZ}(h:jo l p=iN g):g∈l/\g.bN=p:=by have h1:=aa9 h;exact⟨UP h,eq_of_beq h1⟩
theorem afW(l:J aZ)(p:Bs):Kt l p=hJ↔∃f∈l,f.bN=p:=by unfold Kt Jm;simp_all
theorem S0{l:J aZ}(h:Pc l){f:aZ}(hf:f∈l):jo l f.bN=iN f:=by
 rcases TY l f.bN with⟨h1,h2,h3⟩|⟨j,h0,h1,h2,h3⟩
 ·grind[afW]
 ·obtain⟨hm,hp⟩:=Jp h2;rw[h2];obtain⟨i,hi,e⟩:=lH hf;have e:l.getD i cw=f:=by rw[gd hi];exact e
  rcases Nat.lt_trichotomy i j with q|q|q
  ·have:=XE h i j q h0;grind
  ·rw[<-q,e]
  ·have:=XE h j i q hi;grind
end Go.Proofs.YtjfbblgjjdgjdaaGreatDoor

namespace Go.Proofs.YtjfbblgjjdgjdaaGreatDoor
open Go.RT
theorem Mx(s:Bs):cx (cY s)=s:=by
 unfold cx cY;rw[Av];have:((λn=>lL n.toNat) ∘ λb=>(b.toNat:Int))=id:=by funext b;simp
 rw[this,Rq]
def nY(c:Int):Bool:=c != 0&&(c != 1&&c != 2)
def HN(r:aB):J dY:=cond (nY r.aI) [] (r.fText.map λb=>dY.mk (b.toNat:Int) (r.aI != 1))
def qb(r:aB):J fI:=cond (nY r.aI) [] (r.fText.map λb=>fI.mk (b.toNat:Int) (r.aI != 1))
theorem afX(r:aB):(HN r).length<=Ts r.fText:=by unfold HN;grind
theorem RH(r:aB):(qb r).length<=Ts r.fText:=by unfold qb;grind
theorem HO{α:Type}(f:aB->J α)(hf:∀r,Ts (f r)<=Ts r.fText):∀l:J aB,Ts (l.flatMap f)<=bV l|[]=>by simp|r::l=>by have:=HO f hf l;have:=hf r;simp[vZ,bV]at *;omega
theorem RI{l:J aB}{r:aB}(h:r∈l):Ts r.fText<=bV l:=by
 induction l with
 | nil=>cases h
 | cons a l ih=>
  rcases hU.1 h with rfl|h
  ·simp[bV]
  ·have:=ih h;simp[bV]at *;omega
theorem Pd{α:Type}(f:aB->J α)(l:J aB)(k:Nat)(h:k<Ts l):(l.take (k+1)).flatMap f=(l.take k).flatMap f++f l[k]:=by grind[List.take_succ_eq_append_getElem]
theorem abY(c:Int):(cond (c != 0) (iN (c != 1)) (iN eQ):O Bool)=iN (c != 0&&c != 1):=by cases (c != 0)<;>rfl
theorem XG(c:Int):cond (c != 0&&c != 1) (c != 2) eQ=nY c:=by unfold nY;grind
theorem Ea(F:Nat)(l:J aB)(hF:Ts l<F)(qT:bV l<F)(h1:Ts l<1000000000)(h2:bV l<=1000000000):Dr F l=iN (l.flatMap HN):=by
 refine cy (λx=>∃k:Nat,x.2=(k:Int)/\k<=Ts l/\x.1=(l.take k).flatMap HN) (λx=>Ts l-x.2.toNat) ?_ F _ ⟨0,rfl,om,si⟩ aR;rintro⟨acc,ii⟩ ⟨k,h0,hk,ha⟩;subst h0;by_cases hk:k<Ts l
 ·left;have hg:l.getD k dx=l[k]:=gd hk;have hal:Ts acc<=bV (l.take k):=by grind[HO,afX]
  have hs:=sn l k hk;have hle:=vO l (k+1);refine⟨((l.take (k+1)).flatMap HN,((k+1:Nat):Int)),⟨k+1,rfl,om,rfl⟩,aR,λrc=>?_⟩;rw[cq om,bC hk,bC hk,cg,hg,abY,aE,bW om,Pd _ _ _ hk,<-ha,bC hk,aH,aE,XG];unfold HN;cases hc:nY l[k].aI with
  | true=>simp_all|false=>
   rw[aJ,aJ];refine cy (λx=>∃j:Nat,x.2=(j:Int)/\j<=l[k].fText.length/\x.1=acc++(l[k].fText.take j).map λb=>dY.mk (b.toNat:Int) (l[k].aI != 1)) (λx=>l[k].fText.length-x.2.toNat) ?_ F _ ⟨0,rfl,om,si⟩ aR;rintro⟨a2,jj⟩ ⟨j,h0,hj,hb⟩;dsimp only at h0 hb⊢;subst h0;by_cases hj:j<l[k].fText.length
   ·left;refine⟨(acc++(l[k].fText.take (j+1)).map λb=>dY.mk (b.toNat:Int) (l[k].aI != 1),((j+1:Nat):Int)),⟨j+1,rfl,om,rfl⟩,aR,λbD=>?_⟩;have Vk:l[k].fText.getD j 0=l[k].fText[j]:=gd hj;have HP:Ts a2<=Ts acc+j:=by rw[hb];simp;omega
    simp only[bC hk];rw[cq om];simp only[bC hj];rw[cg,Vk,bW om,dD aR om,lF hj,pQ,<-tI,<-hb];rfl
   ·right;obtain rfl:j=l[k].fText.length:=om;intro bD;rw[bC hk,cf om,hb,s7]
 grind
theorem HQ(F:Nat)(l:J aB)(hF:Ts l<F)(qT:bV l<F)(h1:Ts l<1000000000)(h2:bV l<=1000000000):Fv F l=iN (l.flatMap qb):=by
 refine cy (λx=>∃k:Nat,x.2=(k:Int)/\k<=Ts l/\x.1=(l.take k).flatMap qb) (λx=>Ts l-x.2.toNat) ?_ F _ ⟨0,rfl,om,si⟩ aR;rintro⟨acc,ii⟩ ⟨k,h0,hk,ha⟩;subst h0;by_cases hk:k<Ts l
 ·left;have hg:l.getD k dx=l[k]:=gd hk;have hal:Ts acc<=bV (l.take k):=by grind[HO,RH]
  have hs:=sn l k hk;have hle:=vO l (k+1);refine⟨((l.take (k+1)).flatMap qb,((k+1:Nat):Int)),⟨k+1,rfl,om,rfl⟩,aR,λrc=>?_⟩;rw[cq om,bC hk,cg,hg,abY,aE,bW om,Pd _ _ _ hk,<-ha,aH,XG];unfold qb;cases hc:nY l[k].aI with
  | true=>simp_all|false=>
   refine cy (λx=>∃j:Nat,x.2=(j:Int)/\j<=l[k].fText.length/\x.1=acc++(l[k].fText.take j).map λb=>fI.mk (b.toNat:Int) (l[k].aI != 1)) (λx=>l[k].fText.length-x.2.toNat) ?_ F _ ⟨0,rfl,om,si⟩ aR;rintro⟨a2,jj⟩ ⟨j,h0,hj,hb⟩;dsimp only at h0 hb⊢;subst h0;by_cases hj:j<l[k].fText.length
   ·left;refine⟨(acc++(l[k].fText.take (j+1)).map λb=>fI.mk (b.toNat:Int) (l[k].aI != 1),((j+1:Nat):Int)),⟨j+1,rfl,om,rfl⟩,aR,λbD=>?_⟩;have Vk:l[k].fText.getD j 0=l[k].fText[j]:=gd hj;have HP:Ts a2<=Ts acc+j:=by rw[hb];simp;omega
    rw[cq om];simp only[bC hj];rw[cg,Vk,bW om,dD aR om,lF hj,pQ,<-tI,<-hb];rfl
   grind
 grind
def EJ(x:J dY)(i:Nat)(b:Int):Bool:=eK (i<Ts x)&&((x.getD i jD).nM&&(x.getD i jD).fb==b)
theorem jV(F:Nat)(x:J dY)(i:Nat)(b:Int):pU F x (i:Int) b=iN (EJ x i b):=by
 unfold pU EJ wx;by_cases h:i<Ts x
 ·rw[cq om,bC h,aE,bC h,aH];simp_all
 grind
def dZ(x:J fI)(i:Nat)(b:Int):Bool:=eK (i<Ts x)&&((x.getD i cU).nM&&(x.getD i cU).fb==b)
theorem fT(F:Nat)(x:J fI)(i:Nat)(b:Int):fy F x (i:Int) b=iN (dZ x i b):=by
 unfold fy dZ wx;by_cases h:i<Ts x
 ·rw[cq om,bC h,aE];congr 1;grind
 grind
def pb(b:Int):aC:=aC.mk 1 (cx [b]) eQ []
set_option maxRecDepth 100000
theorem eH{σ R:Type}{body:(σ->O R)->σ->O R}(Q:R->Prop)(P:σ->Prop)(m:σ->Nat)
  (hs:∀s,P s->∀rc,(∀s',P s'->m s'<m s->∃r,Q r/\rc s'=iN r)->∃r,Q r/\body rc s=iN r):∀(F:Nat)(s:σ),P s->m s<F->∃r,Q r/\bX body F s=iN r
 | 0,s,_,h=>by omega|F+1,s,hP,h=>hs s hP (bX body F) λs' h1 h2=>eH Q P m hs F s' h1 om
def Pe(x:J fI):Prop:=∀e∈x,0<=e.fb/\e.fb<=255
theorem T3(l:J aB):Pe (l.flatMap qb):=by
 intro e he;obtain⟨r,-,he⟩:=ahd.1 he;unfold qb at he;cases hc:nY r.aI<;>rw[hc]at he
 ·obtain⟨b,-,rfl⟩:=lI.1 he;have:=b.toNat_lt;dsimp only;omega
 ·cases he
variable{x:J fI}{i:Nat}
theorem Pe.at(h:Pe x)(hi:i<Ts x):0<=(x.getD i cU).fb/\(x.getD i cU).fb<=255:=by rw[gd hi];exact h _ (fm hi)
def Ds(e:fI):Bool:=e.nM&&(eK (97<=e.fb)&&eK (e.fb<=122))
def kN(x:J fI)(i:Nat):J Int:=((x.drop i).takeWhile Ds).map λe=>e.fb
def isName(n:Bs):Bool:=n==[97,108,112,104,97]||(n==[100,105,103,105,116]||(n==[97,108,110,117,109]||(n==[117,112,112,101,114]||(n==[108,111,119,101,114]||(n==[115,112,97,99,101]||(n==[98,108,97,110,107]||n==[112,117,110,99,116]))))))
def zE(x:J fI)(i:Nat):Bs×Int×Bool:=
 cond ((dZ x i 91&&dZ x (i+1) 58)&&((dZ x (i+2+Ts (kN x (i+2))) 58&&dZ x (i+2+Ts (kN x (i+2))+1) 93)&&isName (cx (kN x (i+2)))))
  (cx (kN x (i+2)),((i+2+Ts (kN x (i+2))+2:Nat):Int),hJ) ([],0,eQ)
theorem arq(x:J fI)(i:Nat):(kN x i).length<=Ts x-i:=by unfold kN;grind[List.length_map,List.takeWhile_sublist,List.length_drop]
theorem aox{p:fI->Bool}:∀(l:J fI)(k:Nat)(h:k<Ts (l.takeWhile p)),∃hk:k<Ts l,(l.takeWhile p)[k]=l[k]/\p l[k]=hJ
 | [],k,h=>by simp at h|a::l,k,h=>by
  cases hp:p a with
  | false=>simp[hp]at h|true=>
   cases k with
   | zero=>exact⟨si,by simp[hp],by simpa using hp⟩|succ k=>
    have h':k<Ts (l.takeWhile p):=by simpa[hp]using h
    obtain⟨h1,h2,h3⟩:=aox l k h';exact⟨by simpa using h1,by simp[hp,h2],by simpa using h3⟩
theorem ajZ{p:fI->Bool}:∀(l:J fI)(h:(l.takeWhile p).length<Ts l),p l[Ts (l.takeWhile p)]=eQ
 | [],h=>by simp at h|a::l,h=>by
  cases hp:p a with
  | false=>simp[hp]|true=>
   have h':(l.takeWhile p).length<Ts l:=by simpa[hp]using h
   have:=ajZ l h';simpa[hp]using this
theorem aj0(x:J fI)(i k:Nat)(h:k<Ts (kN x i)):i+k<Ts x/\(kN x i).getD k 0=(x.getD (i+k) cU).fb/\Ds (x.getD (i+k) cU)=hJ:=by unfold kN at h⊢;rw[jh]at h;obtain⟨h1,h2,h3⟩:=aox (x.drop i) k h;grind
theorem apt(x:J fI)(i:Nat)(h:i+Ts (kN x i)<Ts x):Ds (x.getD (i+Ts (kN x i)) cU)=eQ:=by unfold kN at h⊢;rw[jh]at h⊢;have:=ajZ (p:=Ds) (x.drop i) (by grind);simp_all
theorem My(a b:Bool)(x:O Bool)(hb:x=iN b):cond a (iN a) x=iN (a||b):=by subst hb;cases a<;>rfl
theorem T4(F:Nat)(x:J fI)(i:Nat)(hF:Ts x+10<F)(hx:Ts x<500000000):Ae F x (i:Int)=iN (zE x i)\/500000000<=i:=by
 by_cases hi:500000000<=i
 ·exact .inr hi
 left;unfold Ae zE wx;rw[fT,aE,show aD ((i:Int)+1)=((i+1:Nat):Int)from bW om,fT];cases h1:dZ x i 91 with
 | false=>rfl|true=>
  cases h2:dZ x (i+1) 58 with
  | false=>rfl|true=>
   have xu:aD ((i:Int)+2)=((i+2:Nat):Int):=by grind[bL]
   rw[xu];have hrl:=arq x (i+2);generalize hr:kN x (i+2)=r at hrl;have hat:=aj0 x (i+2);have hend:=apt x (i+2);rw[hr]at hat hend;refine cy (λs:Int×J Int=>∃k:Nat,s.1=((i+2+k:Nat):Int)/\k<=Ts r/\s.2=r.take k) (λs=>(i+2+Ts r)-s.1.toNat) ?_ F _ ⟨0,rfl,om,si⟩ aR;rintro⟨ii,nm⟩ ⟨k,h0,hk,hn⟩;dsimp only at h0 hn⊢;subst h0;by_cases hk:k<Ts r
   ·left;obtain⟨g1,g2,g3⟩:=hat k hk;have hnl:Ts nm=k:=by simp_all
    refine⟨(((i+2+(k+1):Nat):Int),r.take (k+1)),⟨k+1,rfl,om,rfl⟩,aR,λrc=>?_⟩;unfold Ds at g3;simp only[cK]at g3;obtain⟨g3,g4,g5⟩:=g3;rw[cq om,bC g1,cg,g3,aE,aU,bC g1,g4,aE,aU,bC g1,g5,aE,aU,bC g1,dD aR om,bW om,<-g2,gd hk,lF hk,<-hn];rfl
   ·right;obtain rfl:k=Ts r:=om;intro rc;rw[s7]at hn;subst hn
    have e1:(((cond (eK (((i+2+Ts nm:Nat):Int)<(Ts x:Int))) (rq (eK (0<=((i+2+Ts nm:Nat):Int))&&eK (((i+2+Ts nm:Nat):Int)<(Ts x:Int))) (iN (x.getD (eJ ((i+2+Ts nm:Nat):Int)) cU).nM)) (iN eQ)):O Bool).bind λx6=>
      (cond x6 (rq (eK (0<=((i+2+Ts nm:Nat):Int))&&eK (((i+2+Ts nm:Nat):Int)<(Ts x:Int))) (iN (eK (97<=(x.getD (eJ ((i+2+Ts nm:Nat):Int)) cU).fb)))) (iN eQ):O Bool).bind λx7=>
      (cond x7 (rq (eK (0<=((i+2+Ts nm:Nat):Int))&&eK (((i+2+Ts nm:Nat):Int)<(Ts x:Int))) (iN (eK ((x.getD (eJ ((i+2+Ts nm:Nat):Int)) cU).fb<=122)))) (iN eQ):O Bool))=iN eQ:=by
     by_cases hl:i+2+Ts nm<Ts x
     ·have:=hend hl;unfold Ds at this;simp only[bC hl];grind
     grind
    have e2:∀ {β:Type}(A:O Bool)(B:Bool->O Bool)(C:Bool->O Bool)(k:Bool->O β),(A.bind λx6=>(B x6).bind λx7=>(C x7).bind k)=((A.bind λx6=>(B x6).bind λx7=>C x7)).bind k:=by grind
    rw[e2,e1,aE,aJ,fT,aE,bW om,fT];cases dZ x (i+2+Ts nm) 58 with
    | false=>rfl|true=>
     cases dZ x (i+2+Ts nm+1) 93 with
     | false=>rfl|true=>
      simp only[ia,aJ,aE,wS,Kn];rw[My _ _ _ (My _ _ _ (My _ _ _ (My _ _ _ (My _ _ _ (My _ _ _ (My _ _ _ rfl)))))),aE];have Zg:aD (((i+2+Ts nm:Nat):Int)+2)=((i+2+Ts nm+2:Nat):Int):=by rw[bL om];omega
      rw[Zg,aH];rfl
variable{b:Int}
theorem aj1(h:dZ x i b=hJ):i<Ts x:=by unfold dZ at h;simp_all
theorem ahz(F:Nat)(n:Bs)(c:Int):∃b,ov F n c=iN b:=by unfold ov wx;simp_all[aH,aE]
theorem Vl(F:Nat)(x:J fI)(i:Nat)(set:J Bool)(hF:Ts x+1000<F)(hx:Ts x<500000000)(hc:Pe x)(hi:i<Ts x)(hs:Ts set=256):
  ∃r:Int×J Bool,(∃e:Nat,r.1=(e:Int)/\i<e/\e<=Ts x/\r.2.length=256)/\mN F x (i:Int) set=iN r:=by
 unfold mN wx;obtain hcl|hcl:=T4 F x i om hx
 rotate_left
 ·omega
 rw[hcl,aE];cases h1:(zE x i).2.2 with
 | true=>
  rw[aU];unfold zE at h1⊢;cases h2:((dZ x i 91&&dZ x (i+1) 58)&&((dZ x (i+2+Ts (kN x (i+2))) 58&&dZ x (i+2+Ts (kN x (i+2))+1) 93)&&isName (cx (kN x (i+2)))))with
  | false=>rw[h2]at h1;cases h1
  | true=>
   rw[aU];simp only[cK]at h2;have h3:=aj1 h2.2.1.2;refine eH _ (λs:Int×J Bool=>∃k:Nat,s.1=(k:Int)/\k<=256/\s.2.length=256) (λs=>256-s.1.toNat) ?_ F _ ⟨0,rfl,om,hs⟩ aR;rintro⟨ii,st⟩ ⟨k,h0,hk,hl⟩ rc hrc;dsimp only at h0 hl⊢;subst h0;by_cases hk:k<256
   ·obtain⟨b,hb⟩:=ahz F (cx (kN x (i+2))) (k:Int);rw[cq om,hb,aE,bW om];cases b with|false=>exact hrc _ ⟨k+1,rfl,om,hl⟩ aR|true=>rw[aU,wA om om om];exact hrc _ ⟨k+1,rfl,om,by simpa using hl⟩ aR
   ·rw[cf om];exact⟨_,⟨_,rfl,om,om,hl⟩,rfl⟩
 | false=>
  have hw1:aD ((i:Int)+1)=((i+1:Nat):Int):=bW om;have xu:aD ((i:Int)+2)=((i+2:Nat):Int):=by grind[bL]
  have Zg:aD ((i:Int)+3)=((i+3:Nat):Int):=by grind[bL]
  rw[aJ,hw1,xu,Zg,fT,aE,fT,aH,aE];have e1:cond (dZ x (i+1) 45) (eK (((i+2:Nat):Int)<(Ts x:Int)),set) (eQ,set)=((dZ x (i+1) 45&&eK (((i+2:Nat):Int)<(Ts x:Int))),set):=by grind
  rw[e1];dsimp only;rw[aE,aH,aE];have e2:∀a b:Bool,cond a (b,set) (eQ,set)=((a&&b),set):=by simp_all
  rw[e2];dsimp only;have hb:=hc.at hi;cases h4:((dZ x (i+1) 45&&eK (((i+2:Nat):Int)<(Ts x:Int))) && !dZ x (i+2) 93)with
  | false=>rw[aJ,bC hi,cg,wA om om om];exact⟨_,⟨_,rfl,om,om,by simpa using hs⟩,rfl⟩|true=>
   simp only[cK,fW]at h4;have h5:i+2<Ts x:=om;have nP:=hc.at h5;rw[aU,bC hi,cg,cg,bL (x:=(x.getD i cU).fb) om,bL (x:=(x.getD (i+2) cU).fb) om];generalize(x.getD (i+2) cU).fb=hi2 at nP;refine eH _ (λs:Int×J Bool=>0<=s.1/\s.1<=256/\s.2.length=256) (λs=>256-s.1.toNat) ?_ F _ ⟨hb.1,om,hs⟩ aR;rintro⟨ii,st⟩ ⟨h6,h7,hl⟩ rc hrc;dsimp only at h6 h7 hl⊢;rw[bC h5];by_cases hle:ii<=hi2
   ·rw[cq hle,wA om om om,bL om];exact hrc _ ⟨by dsimp only;omega,by dsimp only;omega,by simpa using hl⟩ (by dsimp only;omega)
   ·rw[cf hle];exact⟨_,⟨_,rfl,om,om,hl⟩,rfl⟩
theorem Zh(F:Nat)(set:J Bool)(hF:1000<F)(hs:Ts set=256):∃l:J cA,Ts l<=256/\sw F set=iN l:=by
 unfold sw wx;rw[cE (by rw[hs];rfl)];refine eH _ (λs=>∃k:Nat,s.2.1=(k:Int)/\k<=256/\s.1.length<=k/\s.2.2.length=256) (λs=>256-s.2.1.toNat) ?_ F _ ⟨0,rfl,om,si,hs⟩ aR;rintro⟨acc,ii,st⟩ ⟨k,h0,hk,ha,hl⟩ rc hrc;dsimp only at h0 ha hl⊢;subst h0;by_cases hk:k<256
 ·rw[cq om,wA om om om,bW om];cases hb:(!(st.getD (eJ (k:Int)) eQ))with
  | true=>exact hrc _ ⟨k+1,rfl,om,by dsimp only;omega,hl⟩ aR|false=>
   refine eH _ (λs=>∃j:Nat,s.1=(j:Int)/\k<=j/\j<=255/\s.2.length=256) (λs=>256-s.1.toNat) ?_ F _ ⟨k,rfl,om,om,hl⟩ aR;rintro⟨jj,Jq⟩ ⟨j,h0,hkj,hj,hl2⟩ bD amn;subst h0;have hend:∀st3:J Bool,Ts st3=256->∃r:J cA,Ts r<=256/\rq ((eK (Ts acc+Ts ([(cA.mk (dO .u8 (k:Int)) (dO .u8 (j:Int)))]:J cA)<=9223372036854775807))&&(eK ((Ts acc+Ts ([(cA.mk (dO .u8 (k:Int)) (dO .u8 (j:Int)))]:J cA))*2<=140737488355328))) (rc (acc++([(cA.mk (dO .u8 (k:Int)) (dO .u8 (j:Int)))]:J cA),aD ((j:Int)+1),st3))=iN r:=by intro st3 h3;rw[dD aR om,bW om];exact hrc _ ⟨j+1,rfl,om,aR,h3⟩ aR
   by_cases hj2:j<255
   ·rw[cq om,bW om,wA om om om];cases Jq.getD (eJ ((j+1:Nat):Int)) eQ with|true=>exact amn _ ⟨j+1,rfl,om,om,hl2⟩ aR|false=>grind[bW]
   grind
 grind
def ko(p:aC):Prop:=(p.fKind=1->0<Ts p.fText)/\p.fText.length<=10/\p.cL.length<=256
theorem Kw(F:Nat)(x:J fI)(i:Nat)(hF:Ts x+1000<F)(hx:Ts x<50000000)(hc:Pe x)(hi:i<Ts x):
  ∃r:aC×Int×Bool,(r.2.2=hJ->ko r.1/\∃e:Nat,r.2.1=(e:Int)/\i<e/\e<=Ts x)/\lR F x (i:Int)=iN r:=by
 unfold lR wx;have hw1:aD ((i:Int)+1)=((i+1:Nat):Int):=bW om;rw[hw1,fT,aE,fT,aE,aH,aE,bW om,aH];obtain⟨s0,hs0,hs1,hs2⟩:∃s0:Nat,cond (cond (dZ x (i+1) 33) hJ (dZ x (i+1) 94)) (((i+1+1:Nat):Int)) ((i+1:Nat):Int)=(s0:Int)/\i<s0/\s0<=i+2:=by
  cases (cond (dZ x (i+1) 33) hJ (dZ x (i+1) 94))
  ·exact⟨i+1,rfl,om,om⟩
  ·exact⟨i+2,rfl,om,om⟩
 rw[hs0];refine eH _ (λs=>∃k:Nat,s.1=(k:Int)/\i<k/\k<=Ts x+2/\s.2.2.length=256) (λs=>Ts x+2-s.1.toNat) ?_ F _ ⟨s0,rfl,hs1,om,si⟩ aR;rintro⟨ii,fi,st⟩ ⟨k,h0,hk,hk2,hl⟩ rc hrc;subst h0;by_cases wD:k<Ts x
 ·rw[cq om,fT,aE,aH,aE];have e2:cond (dZ x k 93) (!fi,st) (eQ,st)=((dZ x k 93 && !fi),st):=by cases dZ x k 93<;>rfl
  rw[e2];cases (dZ x k 93 && !fi)with
  | true=>obtain⟨l,h1,h2⟩:=Zh F st om hl;rw[cE (by rw[hl];rfl),h2,bW om];exact⟨_,λ_=>⟨⟨(λh=>absurd h (show ¬ ((4:Int)=1) by decide)),si,h1⟩,k+1,rfl,om,om⟩,rfl⟩
  | false=>obtain⟨r,⟨e,h1,h2,h3,h4⟩,h5⟩:=Vl F x k st om om hc wD hl;rw[h5];exact hrc _ ⟨e,h1,om,om,h4⟩ (by grind)
 simp_all[cf]
theorem S1(F:Nat)(l:J aB)(hF:Ts l<F)(qT:bV l+1000<F)(h1:Ts l<1000000000)(h2:bV l<=40000000):∃p:J aC,((∀it∈p,ko it)/\p.length<=bV l)/\eR F l=iN p:=by
 unfold eR wx;rw[HQ F l hF om h1 om];have hx:(l.flatMap qb).length<=bV l:=HO _ RH _;have hc:=T3 l;generalize(l.flatMap qb)=x at hx hc;refine eH _ (λs=>∃k:Nat,s.2=(k:Int)/\k<=Ts x/\s.1.length<=k/\∀it∈s.1,ko it) (λs=>Ts x-s.2.toNat) ?_ F _ ⟨0,rfl,om,si,λit h=>by cases h⟩ aR;rintro⟨acc,ii⟩ ⟨k,h0,hk,ha,hit⟩ rc hrc;dsimp only at h0 ha hit⊢;subst h0;have Dt:∀(it:aC)(e:Nat),ko it->k<e->e<=Ts x->∃p:J aC,((∀it∈p,ko it)/\p.length<=bV l)/\rc (acc++[it],(e:Int))=iN p:=by intro it e h3 h4 h5;refine hrc _ ⟨e,rfl,h5,aR,λy hy=>?_⟩ aR;grind
 by_cases wD:k<Ts x
 ·rw[cq om]
  have eS:∃p:J aC,((∀it∈p,ko it)/\p.length<=bV l)/\((fy F x (k:Int) 42).bind λx7=>
    cond x7
    (rq ((eK (Ts acc+Ts ([(aC.mk 3 [] eQ [])]:J aC)<=9223372036854775807))&&(eK ((Ts acc+Ts ([(aC.mk 3 [] eQ [])]:J aC))*56<=140737488355328))) (rc (acc++([(aC.mk 3 [] eQ [])]:J aC),aD ((k:Int)+1))))
    ((fy F x (k:Int) 63).bind λx8=>
    cond x8
    (rq ((eK (Ts acc+Ts ([(aC.mk 2 [] eQ [])]:J aC)<=9223372036854775807))&&(eK ((Ts acc+Ts ([(aC.mk 2 [] eQ [])]:J aC))*56<=140737488355328))) (rc (acc++([(aC.mk 2 [] eQ [])]:J aC),aD ((k:Int)+1))))
    (rq ((eK (0<=(k:Int)))&&(eK ((k:Int)<(Ts x:Int)))) (rq ((eK (Ts acc+Ts ([(aC.mk 1 (cx ([(x.getD (eJ (k:Int)) cU).fb]:J Int)) eQ [])]:J aC)<=9223372036854775807))&&(eK ((Ts acc+Ts ([(aC.mk 1 (cx ([(x.getD (eJ (k:Int)) cU).fb]:J Int)) eQ [])]:J aC))*56<=140737488355328))) (rc (acc++([(aC.mk 1 (cx ([(x.getD (eJ (k:Int)) cU).fb]:J Int)) eQ [])]:J aC),aD ((k:Int)+1)))))))=iN p:=by
   rw[fT,fT,dD aR om,dD aR om,bC wD,dD aR om,bW om];cases dZ x k 42 with
   | true=>exact Dt _ _ ⟨(λh=>absurd h de),si,si⟩ om om|false=>cases dZ x k 63 with|true=>exact Dt _ _ ⟨(λh=>absurd h de),si,si⟩ om om|false=>exact Dt _ _ ⟨(λ_=>by simp[cx]),by simp[cx],si⟩ om om
  rw[fT,aE];cases dZ x k 91 with
  | false=>exact eS|true=>
   obtain⟨r,h3,h4⟩:=Kw F x k om om hc wD;rw[h4,aE];cases h5:r.2.2 with
   | false=>exact eS|true=>obtain⟨g1,e,g2,g3,g4⟩:=h3 h5;rw[dD aR om,g2];obtain⟨p,hp,hq⟩:=Dt r.1 e g1 g3 g4;rw[hq];exact⟨p,hp,rfl⟩
 grind
theorem Jr(F:Nat)(p:J aC)(hF:Ts p+300<F)(hp:Ts p<50000000)(hit:∀it∈p,ko it):∃b,ju F p=iN b:=by
 obtain⟨b,-,h⟩:∃b:Bool,True/\ju F p=iN b:=by
  unfold ju wx;refine eH _ (λs:Int=>∃k:Nat,s=(k:Int)/\k<=Ts p) (λs=>Ts p-s.toNat) ?_ F _ ⟨0,rfl,om⟩ aR;rintro ii ⟨k,rfl,hk⟩ rc hrc;by_cases hk:k<Ts p
  ·have hI:=hit _ (fm hk);rw[cq om,bC hk,cg,gd hk];generalize p[k]=it at hI;simp only[aH,aE];cases (cond (cond (eK (it.fKind<1)) hJ (eK (4<it.fKind))) hJ ((Ts it.fText:Int) != cond (it.fKind==1) 1 0))with
   | true=>simp_all|false=>
    rw[aJ];cases (cond (it.fKind != 4) (cond it.BK hJ (eK (0<(Ts it.cL:Int)))) eQ)with
    | true=>simp_all|false=>
     rw[aJ];have hl:=hI.2.2;refine eH _ (λs:Int=>∃j:Nat,s=(j:Int)/\j<=Ts it.cL) (λs=>Ts it.cL-s.toNat) ?_ F _ ⟨0,rfl,om⟩ aR;rintro jj ⟨j,rfl,hj⟩ bD amn;by_cases hj:j<Ts it.cL
     ·rw[cq om,bC hj];have e:∃b,(cond (eK ((it.cL.getD (eJ (j:Int)) fU).kA<(it.cL.getD (eJ (j:Int)) fU).qu)) (iN hJ) (cond (eK (0<(j:Int))) (rq ((eK (0<=aD ((j:Int)-1)))&&(eK (aD ((j:Int)-1)<(Ts it.cL:Int)))) (iN (eK (aD ((it.cL.getD (eJ (j:Int)) fU).qu)<=aD ((aD ((it.cL.getD (eJ (aD ((j:Int)-1))) fU).kA))+1))))) (iN eQ)):O Bool)=iN b:=by
       by_cases h0:0<j
       ·rw[uQ om h0,cq (show(0:Int)<(j:Int) by omega),ck om om,aH];exact⟨_,rfl⟩
       simp_all[cf,aH]
      obtain⟨b,hb⟩:=e;rw[hb,aE];cases b with|true=>simp_all|false=>rw[aJ,bW om];exact amn _ ⟨j+1,rfl,om⟩ aR
     ·rw[cf om,bW om];exact hrc _ ⟨k+1,rfl,om⟩ aR
  simp_all[cf,trivial]
 exact⟨b,h⟩
theorem aeO(F:Nat)(p:J aC)(hF:Ts p+300<F)(hp:Ts p<50000000)(hit:∀it∈p,ko it):∃r,iY F p=iN r:=by
 obtain⟨b,hb⟩:=Jr F p hF hp hit;unfold iY wx;rw[hb];cases b with
 | false=>exact⟨_,rfl⟩|true=>
  have hsw:∀x:O (Bs×Bool),(∃r,True/\x=iN r)->∃r,x=iN r:=λx ⟨r,_,h⟩=>⟨r,h⟩;refine hsw _ (eH (λ_=>True) (λs=>∃k:Nat,s.2=(k:Int)/\k<=Ts p/\s.1.length<=10*k) (λs=>Ts p-s.2.toNat) ?_ F (([]:J Int),0) ⟨0,rfl,om,si⟩ aR)
  ·rintro⟨acc,ii⟩ ⟨k,h0,hk,ha⟩ rc hrc;subst h0;by_cases hk:k<Ts p
   ·have hI:=hit _ (fm hk);rw[cq om,bC hk,cg,gd hk];cases (p[k].fKind != 1)with|true=>simp_all|false=>have hl:=hI.2.1;have:(cY p[k].fText).length=p[k].fText.length:=jh _;rw[dD om om,bW om];exact hrc _ ⟨k+1,rfl,om,by grind⟩ aR
   simp_all[cf,trivial]
theorem Vm(F:Nat)(p:J aC)(st:J Bool)(hF:Ts p<F)(hp:Ts p<50000000)(hs:Ts st=Ts p+1):∃s2:J Bool,Ts s2=Ts p+1/\qL F p st=iN s2:=by
 refine eH _ (λs=>∃k:Nat,s.1=(k:Int)/\k<=Ts p/\s.2.length=Ts p+1) (λs=>Ts p-s.1.toNat) ?_ F _ ⟨0,rfl,om,hs⟩ aR;rintro⟨ii,s2⟩ ⟨k,h0,hk,hl⟩ rc hrc;dsimp only at h0 hl⊢;subst h0;by_cases hk:k<Ts p
 ·rw[cq om,bC hk,ck om om,aH,aE,bW om];have e:cond (s2.getD (eJ (k:Int)) eQ) ((p.getD (eJ (k:Int)) eL).fKind==3,s2) (eQ,s2)=((s2.getD (eJ (k:Int)) eQ&&(p.getD (eJ (k:Int)) eL).fKind==3),s2):=by grind
  rw[e];dsimp only;cases (s2.getD (eJ (k:Int)) eQ&&(p.getD (eJ (k:Int)) eL).fKind==3)with|true=>rw[ck om om];exact hrc _ ⟨k+1,rfl,om,by simpa using hl⟩ aR|false=>exact hrc _ ⟨k+1,rfl,om,hl⟩ aR
 grind
theorem abZ(F:Nat)(st:J Bool)(hF:Ts st<F)(hs:Ts st<500000000):∃b,lK F st hJ=iN b:=by
 unfold lK wx;obtain⟨r,-,h⟩:∃r:Int,True/\yz F st hJ=iN r:=by
  refine eH _ (λs=>∃k:Nat,s=(k:Int)/\k<=Ts st) (λs=>Ts st-s.toNat) ?_ F _ ⟨0,rfl,om⟩ aR;rintro ii ⟨k,rfl,hk⟩ rc hrc;by_cases hk:k<Ts st
  ·rw[cq om,bC hk,bW om];cases (hJ==st.getD (eJ (k:Int)) eQ)with|true=>simp_all|false=>exact hrc _ ⟨k+1,rfl,om⟩ aR
  simp_all[cf,trivial]
 simp_all
theorem amo(F:Nat)(it:aC)(b:Int)(hF:300<F)(h:ko it):∃r,qU F it b=iN r:=by
 unfold qU wx;cases hk:(it.fKind==1)with
 | true=>have:=h.1 (eq_of_beq hk);rw[kK om];exact⟨_,rfl⟩|false=>
  cases (it.fKind==4)with
  | false=>exact⟨_,rfl⟩|true=>
   have hl:=h.2.2;have hsw:∀x:O Bool,(∃r,True/\x=iN r)->∃r,x=iN r:=λx ⟨r,_,h⟩=>⟨r,h⟩;refine hsw _ (eH (λ_=>True) (λs=>∃k:Nat,s.2=(k:Int)/\k<=Ts it.cL) (λs=>Ts it.cL-s.2.toNat) ?_ F (eQ,0) ⟨0,rfl,om⟩ aR)
   ·rintro⟨acc,ii⟩ ⟨k,h0,hk2⟩ rc hrc;subst h0;by_cases hk2:k<Ts it.cL
    ·rw[cq om,bC hk2,aH,aH,bW om];exact hrc _ ⟨k+1,rfl,om⟩ aR
    ·rw[cf om];grind
theorem aeP(F:Nat)(p:J aC)(st:J Bool)(b:Int)(hF:Ts p+300<F)(hp:Ts p<50000000)(hit:∀it∈p,ko it)(hs:Ts st=Ts p+1):∃s2:J Bool,Ts s2=Ts p+1/\lM F p st b=iN s2:=by
 unfold lM wx;have hw:aD ((Ts p:Int)+1)=((Ts p+1:Nat):Int):=bW om;rw[hw,cE (by rw[dT om,dT om,dT om,dT om,dT om];rfl),cg];refine eH _ (λs=>∃k:Nat,s.1=(k:Int)/\k<=Ts p/\s.2.length=Ts p+1) (λs=>Ts p-s.1.toNat) ?_ F _ ⟨0,rfl,om,si⟩ aR;rintro⟨ii,s2⟩ ⟨k,h0,hk,hl⟩ rc hrc;subst h0;by_cases hk:k<Ts p
 ·rw[cq om,bC hk,ck om om,cg,gd hk,bW om];have vw:∀s3:J Bool,Ts s3=Ts p+1->∃s2:J Bool,Ts s2=Ts p+1/\rc (((k+1:Nat):Int),s3)=iN s2:=λs3 h3=>hrc _ ⟨k+1,rfl,om,h3⟩ aR;cases st.getD k eQ with
  | false=>exact vw _ hl|true=>
   cases (p[k].fKind==3)with
   | true=>rw[aU,ck om om];simp_all|false=>obtain⟨r,hr⟩:=amo F p[k] b om (hit _ (fm hk));rw[aJ,hr,aE];cases r with|false=>exact vw _ hl|true=>rw[aU,ck om om];simp_all
 ·rw[cf om];obtain⟨s3,h3,h4⟩:=Vm F p s2 om hp hl;simp_all
theorem aj2(F:Nat)(p:J aC)(n:Bs)(hF:Ts p+300<F)(qT:Ts n<F)(hn:Ts n<50000000)(hp:Ts p<50000000)(hit:∀it∈p,ko it):∃b,nS F p n=iN b:=by
 unfold nS ox wx;obtain⟨v,hv⟩:=Jr F p hF hp hit;rw[hv,aE];cases v with
 | false=>exact⟨_,rfl⟩|true=>
  have hw:aD ((Ts p:Int)+1)=((Ts p+1:Nat):Int):=bW om;rw[hw,ia,aJ,cE (by rw[dT om,dT om,dT om,dT om,dT om];rfl),cg,kK si];obtain⟨s0,h1,h2⟩:=Vm F p ((aT (Ts p+1) eQ).set 0 hJ) om hp si;rw[h2,aE];have hsw:∀x:O (Int×Bool),(∃r,True/\x=iN r)->∃b,((x.bind λx3=>iN (x3.1,x3.2)).bind λx1=>iN x1.2)=iN b:=by grind
  refine hsw _ (eH (λ_=>True) (λs=>∃k:Nat,s.2.2.2=(k:Int)/\k<=Ts n/\s.1.length=Ts p+1) (λs=>Ts n-s.2.2.2.toNat) ?_ F (s0,0,eQ,0) ⟨0,rfl,om,h1⟩ aR)
  ·rintro⟨st,sz,fd,ii⟩ ⟨k,h0,hk,hl⟩ rc hrc;dsimp only at h0 hl⊢;subst h0;rw[ck om om,aH,aE]
   have eS:∀x6:Int×Bool,∃r:Int×Bool,True/\(((cond ((k:Int)==(Ts n:Int)) (iN hJ) ((lK F st hJ).bind λx9=>iN (!x9)):O Bool).bind λx8=>
     cond x8 (iN (x6.1,x6.2)) (rq ((eK (0<=(k:Int)))&&(eK ((k:Int)<(Ts n:Int)))) ((lM F p st ((n.getD (eJ (k:Int)) 0).toNat:Int)).bind λcz=>rc (cz,x6.1,x6.2,aD ((k:Int)+1))))))=iN r:=by
    intro x6;obtain⟨c,hc⟩:=abZ F st om om;rw[hc,aE];by_cases hkn:k<Ts n
    ·rw[show((k:Int)==(Ts n:Int))=eQ by simp;omega,aJ,aE];cases c with
     | false=>simp_all|true=>obtain⟨s4,h4,h5⟩:=aeP F p st ((n.getD (eJ (k:Int)) 0).toNat:Int) hF hp hit hl;rw[ia,aJ,bC hkn,h5,aE,bW om];exact hrc _ ⟨k+1,rfl,om,h4⟩ aR
    ·rw[show((k:Int)==(Ts n:Int))=hJ by simp;omega];simp_all
   cases (cond (st.getD (eJ (Ts p:Int)) eQ) (eK ((Ts n:Int)<=(k:Int))) eQ)with|true=>exact eS ((k:Int),hJ)|false=>exact eS (sz,fd)
theorem ars{x:J dY}(h:EJ x i b=hJ):i<Ts x:=by unfold EJ at h;simp_all
theorem amq(F:Nat)(x:J dY)(i:Nat)(s:Bs)(hF:Ts s<F)(hi:i<=Ts x)(hx:Ts x<500000000)(hs:Ts s<500000000):∃b:Bool,(b=hJ->i+Ts s<=Ts x)/\Gm F x (i:Int) s=iN b:=by
 refine eH _ (λk'=>∃k:Nat,k'=(k:Int)/\k<=Ts s/\i+k<=Ts x) (λk'=>Ts s-k'.toNat) ?_ F _ ⟨0,rfl,om,om⟩ aR;rintro ii ⟨k,rfl,hk,hik⟩ rc hrc;by_cases hk:k<Ts s
 ·have hw:aD ((i:Int)+(k:Int))=((i+k:Nat):Int):=by grind[bL]
  rw[cq om,bC hk,hw,jV,bW om];cases h:EJ x (i+k) (((s.getD (eJ (k:Int)) 0).toNat:Int))with|false=>simp_all|true=>have:=ars h;exact hrc _ ⟨k+1,rfl,om,om⟩ aR
 ·rw[cf om];grind
def CL:J nt:=(Af 0).getD []
def aoy(F:Nat):Af F=iN CL:=rfl
def Vn:Ts CL=8:=rfl
theorem ahA:∀c∈CL,Ts c.fname=5/\c.tP.length<=4:=by decide
theorem aeQ(F:Nat)(x:J dY)(i:Nat)(hF:100<F)(hi:i<Ts x)(hx:Ts x<50000000):∃r:J cA×Int,(∃e:Nat,r.2=(e:Int)/\i<e/\e<=Ts x/\r.1.length<=4)/\qV F x (i:Int)=iN r:=by
 unfold qV wx;rw[aoy];refine eH _ (λk'=>∃k:Nat,k'=(k:Int)/\k<=8) (λk'=>8-k'.toNat) ?_ F _ ⟨0,rfl,om⟩ aR;rintro ii ⟨k,rfl,hk⟩ rc hrc;have hw1:aD ((i:Int)+1)=((i+1:Nat):Int):=bW om;have xu:aD ((i:Int)+2)=((i+2:Nat):Int):=by grind[bL]
 have Zg:aD ((i:Int)+3)=((i+3:Nat):Int):=by grind[bL]
 by_cases hk:k<Ts CL
 ·have hm:=ahA _ (fm hk);rw[cq om,bC hk,cg,gd hk,bW om];generalize CL[k]=c at hm;rw[kK aR,kK aR];have hl:((([91,58]:Bs)++c.fname)++([58,93]:Bs)).length=9:=by simp;omega
  obtain⟨b,h1,h2⟩:=amq F x i ((([91,58]:Bs)++c.fname)++([58,93]:Bs)) om om om om;rw[h2,aE];rw[hl]at h1⊢;cases b with
  | true=>
   have:=h1 rfl;have hw:aD ((i:Int)+((9:Nat):Int))=((i+9:Nat):Int):=by grind[bL]
   rw[bC hk,hw];exact⟨_,⟨i+9,rfl,om,om,hm.2⟩,rfl⟩
  | false=>
   have h8:k<8:=by rw[<-Vn];exact hk
   exact hrc _ ⟨k+1,rfl,om⟩ aR
 ·rw[cf om,bC hi,hw1,xu,Zg,jV,aE,jV,aH,aE,aE,aH,aE];cases h4:cond (cond (EJ x (i+1) 45) (eK (((i+2:Nat):Int)<(Ts x:Int))) eQ) (!EJ x (i+2) 93) eQ with
  | false=>exact⟨_,⟨i+1,rfl,om,om,si⟩,rfl⟩|true=>
   have h5:i+2<Ts x:=by grind
   rw[bC h5];cases eK ((x.getD (eJ (i:Int)) jD).fb<=(x.getD (eJ ((i+2:Nat):Int)) jD).fb)
   ·exact⟨_,⟨i+3,rfl,om,om,si⟩,rfl⟩
   ·exact⟨_,⟨i+3,rfl,om,om,si⟩,rfl⟩
theorem apu(F:Nat)(l:J cA)(b:Int)(hF:Ts l<F)(hl:Ts l<500000000):∃r,xw F l b=iN r:=by
 obtain⟨r,-,h⟩:∃r:Bool,True/\xw F l b=iN r:=by
  refine eH _ (λk'=>∃k:Nat,k'=(k:Int)/\k<=Ts l) (λk'=>Ts l-k'.toNat) ?_ F _ ⟨0,rfl,om⟩ aR;rintro ii ⟨k,rfl,hk⟩ rc hrc;by_cases hk:k<Ts l
  ·rw[cq om,bC hk,bC hk,aH,bW om];cases cond (eK ((l.getD (eJ (k:Int)) fU).qu<=b)) (eK (b<=(l.getD (eJ (k:Int)) fU).kA)) eQ with|true=>simp_all|false=>exact hrc _ ⟨k+1,rfl,om⟩ aR
  simp_all[cf,trivial]
 exact⟨r,h⟩
theorem amr(F:Nat)(l:J cA)(hF:Ts l+300<F)(hl:Ts l<500000000):∃r:J cA,Ts r<=256/\Js F l=iN r:=by
 refine eH _ (λs=>∃k:Nat,s.1=(k:Int)/\k<=256/\s.2.length<=k) (λs=>256-s.1.toNat) ?_ F _ ⟨0,rfl,om,si⟩ aR;rintro⟨ii,o⟩ ⟨k,h0,hk,ho⟩ rc hrc;dsimp only at h0 ho⊢;subst h0;by_cases hk:k<256
 ·obtain⟨b,hb⟩:=apu F l (dO .u8 (k:Int)) om hl;rw[cq om,hb,aE,bW om];cases b with
  | false=>exact hrc _ ⟨k+1,rfl,om,by dsimp only;omega⟩ aR|true=>
   by_cases h0:0<Ts o
   ·have hw:=uQ om h0;rw[cq om,hw,bC om,aE];dsimp only;cases (aD ((aD ((o.getD (eJ ((Ts o-1:Nat):Int)) fU).kA))+1))==(k:Int)with|true=>rw[bC om];exact hrc _ ⟨k+1,rfl,om,aR⟩ aR|false=>rw[dD aR om];exact hrc _ ⟨k+1,rfl,om,aR⟩ aR
   ·rw[cf om,aE];rw[dD aR om];exact hrc _ ⟨k+1,rfl,om,aR⟩ aR
 grind
theorem ab0(F:Nat)(x:J dY)(i:Nat)(hF:4*Ts x+1000<F)(hx:Ts x<40000000)(hi:i<Ts x):
  ∃r:aC×Int×Bool,(r.2.2=hJ->ko r.1/\∃e:Nat,r.2.1=(e:Int)/\i<e/\e<=Ts x)/\sx F x (i:Int)=iN r:=by
 unfold sx wx;have hw1:aD ((i:Int)+1)=((i+1:Nat):Int):=bW om;rw[hw1,jV,aE,jV,aE,aH,aE,bW om,aH,aE];have h0:∃y:Int×Int×Bs×Bool×J cA,cond (cond (EJ x (i+1) 33) hJ (EJ x (i+1) 94)) (((i+1+1:Nat):Int),(aC.mk 4 [] eQ []).fKind,(aC.mk 4 [] eQ []).fText,hJ,(aC.mk 4 [] eQ []).cL) (((i+1:Nat):Int),(aC.mk 4 [] eQ []).fKind,(aC.mk 4 [] eQ []).fText,(aC.mk 4 [] eQ []).BK,(aC.mk 4 [] eQ []).cL)=y/\(∃s0:Nat,y.1=(s0:Int)/\i<s0/\s0<=i+2)/\y.2.1=4/\y.2.2.1=[]:=by
  cases (cond (EJ x (i+1) 33) hJ (EJ x (i+1) 94))
  ·exact⟨_,rfl,⟨i+1,rfl,om,om⟩,rfl,rfl⟩
  ·exact⟨_,rfl,⟨i+2,rfl,om,om⟩,rfl,rfl⟩
 obtain⟨y,hy,⟨s0,hs0,hs1,hs2⟩,hy2,hy3⟩:=h0;rw[hy,hs0,hy2,hy3];refine eH _ (λs=>∃k:Nat,s.1=(k:Int)/\i<k/\k<=Ts x+2/\s.2.1.length<=4*k) (λs=>Ts x+2-s.1.toNat) ?_ F _ ⟨s0,rfl,hs1,om,si⟩ aR;rintro⟨ii,sp,fi⟩ ⟨k,h0,hk,hk2,hl⟩ rc hrc;dsimp only at h0 hl⊢;subst h0;rw[jV,aE,aH,aH,aE];by_cases wD:k<Ts x
 ·rw[cq (show(k:Int)<(Ts x:Int) by omega)];cases (cond fi hJ (!EJ x k 93))with
  | true=>obtain⟨r,⟨e,h1,h2,h3,h4⟩,h5⟩:=aeQ F x k om wD om;rw[h5,aE,dD om om];exact hrc _ ⟨e,h1,om,om,by grind⟩ (by grind)
  | false=>obtain⟨r,h1,h2⟩:=amr F sp om om;rw[cf (show ¬ (Ts x:Int)<=(k:Int) by omega),h2,bW om];exact⟨_,λ_=>⟨⟨(λh=>absurd h (show ¬ ((4:Int)=1) by decide)),si,h1⟩,k+1,rfl,om,om⟩,rfl⟩
 simp_all[cf,aJ,cq]
theorem ab1(F:Nat)(l:J aB)(hF:Ts l<F)(qT:4*bV l+1000<F)(h1:Ts l<1000000000)(h2:bV l<=20000000):∃p:J aC,((∀it∈p,ko it)/\p.length<=bV l)/\gC F l=iN p:=by
 unfold gC wx;rw[Ea F l hF om h1 om];have hx:(l.flatMap HN).length<=bV l:=HO _ afX _;generalize(l.flatMap HN)=x at hx;refine eH _ (λs=>∃k:Nat,s.2=(k:Int)/\k<=Ts x/\s.1.length<=k/\∀it∈s.1,ko it) (λs=>Ts x-s.2.toNat) ?_ F _ ⟨0,rfl,om,si,λit h=>by cases h⟩ aR;rintro⟨acc,ii⟩ ⟨k,h0,hk,ha,hit⟩ rc hrc;dsimp only at h0 ha hit⊢;subst h0;have Dt:∀(it:aC)(e:Nat),ko it->k<e->e<=Ts x->∃p:J aC,((∀it∈p,ko it)/\p.length<=bV l)/\rc (acc++[it],(e:Int))=iN p:=by intro it e h3 h4 h5;refine hrc _ ⟨e,rfl,h5,aR,λy hy=>?_⟩ aR;grind
 by_cases wD:k<Ts x
 ·rw[cq om,jV,aE,jV,aE,dD aR om,dD aR om,bW om];cases EJ x k 42 with
  | true=>exact Dt _ _ ⟨(λh=>absurd h (show ¬ ((3:Int)=1) by decide)),si,si⟩ om om
  | false=>
   cases EJ x k 63 with
   | true=>exact Dt _ _ ⟨(λh=>absurd h (show ¬ ((2:Int)=1) by decide)),si,si⟩ om om
   | false=>
    rw[jV,aE];have eS:∃p:J aC,((∀it∈p,ko it)/\p.length<=bV l)/\(rq ((eK (0<=(k:Int)))&&(eK ((k:Int)<(Ts x:Int)))) (rq ((eK (Ts acc+Ts ([(aC.mk 1 (cx ([(x.getD (eJ (k:Int)) jD).fb]:J Int)) eQ [])]:J aC)<=9223372036854775807))&&(eK ((Ts acc+Ts ([(aC.mk 1 (cx ([(x.getD (eJ (k:Int)) jD).fb]:J Int)) eQ [])]:J aC))*56<=140737488355328))) (rc (acc++([(aC.mk 1 (cx ([(x.getD (eJ (k:Int)) jD).fb]:J Int)) eQ [])]:J aC),aD ((k:Int)+1)))))=iN p:=by rw[bC wD,dD aR om,bW om];exact Dt _ _ ⟨(λ_=>by simp[cx]),by simp[cx],si⟩ om om
    cases EJ x k 91 with
    | false=>exact eS|true=>
     obtain⟨r,h3,h4⟩:=ab0 F x k om om wD;rw[h4,aE];cases h5:r.2.2 with
     | false=>exact eS|true=>obtain⟨g1,e,g2,g3,g4⟩:=h3 h5;rw[dD aR om,g2];obtain⟨p,hp,hq⟩:=Dt r.1 e g1 g3 g4;rw[hq];exact⟨p,hp,rfl⟩
 grind
theorem Du(F:Nat)(l:J cA)(hF:Ts l<F)(hl:Ts l<500000000):∃r,pq F l=iN r:=by
 obtain⟨r,-,h⟩:∃r:Bool,True/\pq F l=iN r:=by
  refine eH _ (λk'=>∃k:Nat,k'=(k:Int)/\k<=Ts l) (λk'=>Ts l-k'.toNat) ?_ F _ ⟨0,rfl,om⟩ aR;rintro ii ⟨k,rfl,hk⟩ rc hrc;by_cases hk:k<Ts l
  ·rw[cq om,bC hk,bC hk];have e:∃b,(cond (eK ((l.getD (eJ (k:Int)) fU).kA<(l.getD (eJ (k:Int)) fU).qu)) (iN hJ) (cond (eK (0<(k:Int))) (rq ((eK (0<=(k:Int)))&&(eK ((k:Int)<(Ts l:Int)))) (rq ((eK (0<=aD ((k:Int)-1)))&&(eK (aD ((k:Int)-1)<(Ts l:Int)))) (iN (eK (aD ((l.getD (eJ (k:Int)) fU).qu)<=aD ((aD ((l.getD (eJ (aD ((k:Int)-1))) fU).kA))+1)))))) (iN eQ)):O Bool)=iN b:=by
    by_cases h0:0<k
    ·rw[bC hk,uQ om h0,cq (show(0:Int)<(k:Int) by omega),ck om om,aH];exact⟨_,rfl⟩
    simp_all[cf,aH]
   obtain⟨b,hb⟩:=e;rw[hb,bW om];cases b with|true=>simp_all|false=>exact hrc _ ⟨k+1,rfl,om⟩ aR
  simp_all[cf,trivial]
 exact⟨r,h⟩
theorem ahB(F:Nat)(p:J aC)(hF:Ts p+300<F)(hp:Ts p<50000000)(hit:∀it∈p,ko it):∃b,kR F p=iN b:=by
 obtain⟨b,-,h⟩:∃b:Bool,True/\kR F p=iN b:=by
  refine eH _ (λs=>∃k:Nat,s=(k:Int)/\k<=Ts p) (λs=>Ts p-s.toNat) ?_ F _ ⟨0,rfl,om⟩ aR;rintro ii ⟨k,rfl,hk⟩ rc hrc;by_cases hk:k<Ts p
  ·have hI:=hit _ (fm hk);rw[cq om,bC hk,cg,gd hk];generalize p[k]=it at hI;obtain⟨c,hc⟩:=Du F it.cL (by have:=hI.2.2;omega) (by have:=hI.2.2;omega);simp only[aH,aE,hc];rw[bW om];cases (cond (cond (cond (cond (eK (it.fKind<1)) hJ (eK (4<it.fKind))) hJ ((Ts it.fText:Int) != cond (it.fKind==1) 1 0)) hJ (cond (it.fKind != 4) (cond it.BK hJ (eK (0<(Ts it.cL:Int)))) eQ)) hJ !c)with|true=>simp_all|false=>exact hrc _ ⟨k+1,rfl,om⟩ aR
  simp_all[cf,trivial]
 exact⟨b,h⟩
theorem ab2(F:Nat)(p:J aC)(hF:Ts p+300<F)(hp:Ts p<50000000)(hit:∀it∈p,ko it):∃r,kS F p=iN r:=by
 obtain⟨b,hb⟩:=ahB F p hF hp hit;obtain⟨b,-,h⟩:∃b:Bs×Bool,True/\kS F p=iN b:=by
  refine eH _ (λs=>∃k:Nat,s.2=(k:Int)/\k<=Ts p/\s.1.length<=10*k) (λs=>Ts p-s.2.toNat) ?_ F _ ⟨0,rfl,om,si⟩ aR;rintro⟨acc,ii⟩ ⟨k,h0,hk,ha⟩ rc hrc;subst h0;by_cases hk:k<Ts p
  ·have hI:=hit _ (fm hk);have hl:=hI.2.1;rw[cq om,bC hk,bC hk,cg,gd hk];cases (p[k].fKind != 1)with|true=>simp_all|false=>rw[ab3 om,bW om];exact hrc _ ⟨k+1,rfl,om,by grind⟩ aR
  simp_all[cf,aE,aH,trivial]
 exact⟨b,h⟩
theorem Jt:∀s:Bs,(Lib.cut s [47]=(s,[],eQ)/\cm s=[s])\/∃a r,Lib.cut s [47]=(a,r,hJ)/\cm s=a::cm r/\a.length+Ts r+1=Ts s
 | []=>.inl ⟨rfl,rfl⟩|b::l=>by
  have ih:=Jt l;have hge:=Lib.indexByte_ge l 47;by_cases hb:b=47
  ·right;subst hb;have h0:Lib.index ((47:UInt8)::l) [47]=0:=by rw[Lib.index_one];simp[lO]
   exact⟨[],l,by unfold Lib.cut;rw[h0];simp,rfl,si⟩
  ·have SQ:(b==47)=eQ:=by simpa using hb
   have h0:Lib.index (b::l) [47]=if Lib.index l [47] == -1 then -1 else Lib.index l [47]+1:=by rw[Lib.index_one,Lib.index_one,lO];simp[hb]
   have hp:cm (b::l)=(match cm l with
    | []=>[[b]]|p::ps=>(b::p)::ps):=by rw[cm,SQ]<;>cases cm l<;>rfl
   unfold Lib.cut at ih⊢;rw[hp,h0];rcases ih with⟨h1,h2⟩|⟨a,r,h1,h2,h3⟩
   ·grind
   ·right;by_cases hi:0<=Lib.index l [47]
    ·have e1:(Lib.index l [47] == -1)=eQ:=by simp;omega
     refine⟨b::a,r,?_,by rw[h2],aR⟩;rw[e1];simp;rw[if_pos om,show(Lib.index l [47]+1).toNat=(Lib.index l [47]).toNat+1 by omega];simp_all
    simp_all
theorem XH(F:Nat)(s:Bs)(h:Ts s<=1000000):XI F s [47]=iN (Lib.cut s [47]):=by grind[XI,kK]
theorem ab4(F:Nat)(l:J Bs)(h1:Ts l<=1000000)(h2:(dW l).length<=100000000):zD F [47] l=iN (dW l,l):=by grind[zD,Ad,join_eq,ck]
def gH(l:J aB):Bs:=l.flatMap λr=>r.fText
theorem vP:∀l:J aB,Ts (gH l)=bV l|[]=>rfl|r::l=>by have:=vP l;unfold gH bV at *;simp only[vZ,nX,jI,OW];omega
theorem Zi(s:Bs):Lg (cY s)=hJ:=by unfold Lg cY;rw[pP];intro x hx;obtain⟨b,-,rfl⟩:=lI.1 hx;have:=b.toNat_lt;simp;omega
theorem art(F:Nat)(s:Bs)(c:Bool)(buf:J Int)(h:Ts buf+Ts s<=100000000):jE F s c buf=iN ((Ts s:Int),hJ,buf++cY s):=by unfold jE wx;rw[show qv F c buf=iN (hJ,buf) by cases c<;>rfl,aE,dD (by simp[cY];omega) om]
theorem T5(F:Nat)(l:J aB)(hF:Ts l<F)(h1:Ts l<1000000000)(h2:bV l<=100000000):sN F l=iN (gH l):=by
 refine cy (λx=>∃k:Nat,x.1=(k:Int)/\k<=Ts l/\x.2.2=cY (gH (l.take k))) (λx=>Ts l-x.1.toNat) ?_ F _ ⟨0,rfl,om,by simp[gH,cY]⟩ aR;rintro⟨ii,c,buf⟩ ⟨k,h0,hk,ha⟩;dsimp only at h0 ha⊢;subst h0;by_cases hk:k<Ts l
 ·left;have hs:=sn l k hk;have hle:=vO l (k+1);refine⟨(((k+1:Nat):Int),hJ,cY (gH (l.take (k+1)))),⟨k+1,rfl,om,rfl⟩,aR,λrc=>?_⟩;have HP:Ts buf=bV (l.take k):=by rw[ha,cY,jh,vP]
  rw[cq om,bC hk,cg,gd hk,art F _ c buf om,bW om];rw[ha,gH,gH,Pd _ _ _ hk];simp[cY]
 ·obtain rfl:k=Ts l:=om;have:(cY (gH l)).length=bV l:=by rw[cY,jh,vP]
  unfold mg wx;grind[cE,decide_eq_true,Zi,Mx]
theorem apv(F:Nat)(l:J aB)(hF:Ts l<F)(h1:Ts l<1000000000)(h2:bV l<=1000000):sN F l=iN (gH l):=T5 F l hF h1 om
def HR(c:Int)(o:J (J aB)×J aB)(q:Bs):J (J aB)×J aB:=(o.1++[o.2],[aB.mk q c])
def pcP(c:Int)(o:J (J aB)×J aB):J Bs->J (J aB)×J aB|[]=>o|p::ps=>ps.foldl (HR c) (o.1,o.2++[aB.mk p c])
def oY(o:J (J aB)×J aB)(r:aB):J (J aB)×J aB:=cond (nY r.aI) o (pcP r.aI o (cm r.fText))
def HS(l:J aB):J (J aB)×J aB:=l.foldl oY ([],[])
def gJ(l:J aB):J (J aB):=(HS l).1++[(HS l).2]
theorem XK(c:Int):∀(ps:J Bs)(o:J (J aB)×J aB),o.1 <+: (ps.foldl (HR c) o).1|[],o=>abj|q::ps,o=>(List.prefix_append o.1 [o.2]).trans (XK c ps (HR c o q))
theorem apw(o:J (J aB)×J aB)(r:aB):o.1 <+: (oY o r).1:=by
 unfold oY;cases nY r.aI
 ·cases cm r.fText with|nil=>exact abj|cons p ps=>exact XK r.aI ps (o.1,o.2++[aB.mk p r.aI])
 ·exact abj
theorem XL:∀(l:J aB)(o:J (J aB)×J aB),o.1 <+: (l.foldl oY o).1|[],o=>abj|r::l,o=>(apw o r).trans (XL l (oY o r))
variable{F:Nat}{pat:J aB -> J aC}
section
variable {lit : J aB -> Bool}
def Pf(pat:J aB->J aC)(lit:J aB->Bool)(t:J aB):bh:=bh.mk (gH t) (pat t) (lit t)
def PcK(F:Nat)(pat:J aB->J aC)(lit:J aB->Bool)(t:J aB):Prop:=eR F t=iN (pat t)/\(∃x,iY F (pat t)=iN (x,lit t))/\t.length<F/\t.length<1000000/\bV t<=1000000
theorem aru{t:J aB}(hK:PcK F pat lit t)(fs:J aZ)(ds:J (J aB))(dead:J (cM×Bool))(found:J Bs)(hd:Ts ds<=1000000):
  qc F t fs (ds.map (Pf pat lit)) (ds.all lit) dead (ds.map gH) found=iN (fs,(ds++[t]).map (Pf pat lit),(ds++[t]).all lit,(ds++[t]).map gH,found):=by
 obtain⟨h1,⟨x,h2⟩,h3,h4,h5⟩:=hK;unfold qc;rw[apv F t h3 om h5,aE,h1,aE];rw[h2,aE,aH,aE];have e:cond (ds.all lit) ((x,lit t).2,ds.map gH,found) (eQ,ds.map gH,found)=(ds.all lit&&lit t,ds.map gH,found):=by cases ds.all lit<;>rfl
 rw[e];rw[dD aR om,dD aR om];simp[Pf]
abbrev PSt:=(J aB)×Int×(J aZ)×(J bh)×Bool×(J Bs)×(J Bs)
def pSt(pat:J aB->J aC)(lit:J aB->Bool)(fs:J aZ)(i:Nat)(o:J (J aB)×J aB):PSt:=(o.2,(i:Int),fs,o.1.map (Pf pat lit),o.1.all lit,o.1.map gH,[])
theorem pieces_eq{l:J aB}{fs:J aZ}{dead:J (cM×Bool)}(hF:Ts l<F)(qT:bV l+1<F)(h1:Ts l<1000000)(h2:bV l<=1000000)(hn:(gJ l).length<=1000000)(arv:∀k,((l.take k).foldl oY ([],[])).2.length<=1000000)(hK:∀t∈gJ l,PcK F pat lit t):
  nN F l fs [] hJ dead [] []=iN (fs,(gJ l).map (Pf pat lit),(gJ l).all lit,(gJ l).map gH,[]):=by
 have hmem:∀t,t∈(HS l).1->PcK F pat lit t:=λt ht=>hK t (by unfold gJ;simp[ht]);have ahC:PcK F pat lit (HS l).2:=hK _ (by unfold gJ;simp);have hlen:(HS l).1.length+1<=1000000:=by have:=hn;unfold gJ at this;simpa using this
 unfold nN wx;refine cy (λx:PSt=>∃k:Nat,k<=Ts l/\x=pSt pat lit fs k ((l.take k).foldl oY ([],[]))) (λx=>Ts l-x.2.1.toNat) ?_ F _ ⟨0,om,rfl⟩ aR;rintro x ⟨k,hk,rfl⟩;have hpre:((l.take k).foldl oY ([],[])).1 <+: (HS l).1:=by have:=XL (l.drop k) ((l.take k).foldl oY ([],[]));rwa [<-Mg,Hz]at this
 have hnk:=arv k;by_cases hk:k<Ts l
 ·left;have aoz:(l.take (k+1)).foldl oY ([],[])=oY ((l.take k).foldl oY ([],[])) l[k]:=by grind[List.take_succ_eq_append_getElem]
  refine⟨pSt pat lit fs (k+1) ((l.take (k+1)).foldl oY ([],[])),⟨k+1,om,rfl⟩,by simp only[pSt];omega,λrc=>?_⟩;have Vo:(oY ((l.take k).foldl oY ([],[])) l[k]).1 <+: (HS l).1:=by rw[<-aoz];have:=XL (l.drop (k+1)) ((l.take (k+1)).foldl oY ([],[]));rwa [<-Mg,Hz]at this
  have htl:l[k].fText.length<=bV l:=RI (fm hk);rw[aoz];generalize(l.take k).foldl oY ([],[])=o at hpre Vo hnk;unfold pSt;dsimp only;rw[cq om,bC hk,cg,gd hk,aH,aE];have e1:cond (l[k].aI != 0) (l[k].aI != 1,o.1.map gH,([]:J Bs)) (eQ,o.1.map gH,[])=(l[k].aI != 0&&l[k].aI != 1,o.1.map gH,[]):=by grind
  rw[e1];dsimp only;rw[aH,aE];have e2:cond (l[k].aI != 0&&l[k].aI != 1) (l[k].aI != 2,o.1.map gH,([]:J Bs)) (eQ,o.1.map gH,[])=(nY l[k].aI,o.1.map gH,[]):=by grind[XG]
  rw[e2];dsimp only;rw[bW om];unfold oY at Vo⊢;cases hc:nY l[k].aI with
  | true=>rfl|false=>
   rw[hc]at Vo;rw[aJ,aJ]at *;rw[XH F _ om,aE,dD aR om];generalize Mz:pcP l[k].aI o (cm l[k].fText)=fin at Vo;have avX:Ts fin.1<=1000000:=by grind
   refine cy (R:=(J aZ)×(J bh)×Bool×(J Bs)×(J Bs))
    (λx=>∃(o2:J (J aB)×J aB)(rest:Bs)(sl:Bool),x=(o2.2,rest,sl,fs,o2.1.map (Pf pat lit),o2.1.all lit,o2.1.map gH,[])/\rest.length<=l[k].fText.length /\
     ((sl=eQ/\o2=fin)\/(sl=hJ/\(cm rest).foldl (HR l[k].aI) o2=fin))) (λx=>cond x.2.2.1 (Ts x.2.1+1) 0) ?_ F _ ?_ ?_
   ·rintro x ⟨o2,rest,sl,rfl,hrl,Ag⟩;dsimp only;rcases Ag with⟨rfl,rfl⟩|⟨rfl,hf⟩
    ·simp_all
    ·left;have hne:=td rest;have hy:o2.2∈(HS l).1/\o2.1.length<=1000000:=by
      cases hp:cm rest with
      | nil=>exact absurd hp hne|cons p ps=>
       rw[hp]at hf;have Vp:(o2.1++[o2.2]) <+: fin.1:=by rw[<-hf];exact XK l[k].aI ps (HR l[k].aI o2 p)
       refine⟨(Vp.trans Vo).subset si,?_⟩;grind
     have hyy:=aru (hmem _ hy.1) fs o2.1 dead [] hy.2;rcases Jt rest with⟨g1,g2⟩|⟨a,r,g1,g2,g3⟩
     ·refine⟨_,⟨(o2.1++[o2.2],[aB.mk rest l[k].aI]),[],eQ,rfl,si,.inl ⟨rfl,?_⟩⟩,si,λbD=>?_⟩
      ·rw[g2]at hf;exact hf
      ·rw[aU,hyy,aE,XH F _ om,g1,aE]
     ·refine⟨_,⟨(o2.1++[o2.2],[aB.mk a l[k].aI]),r,hJ,rfl,om,.inr ⟨rfl,?_⟩⟩,aR,λbD=>?_⟩
      ·rw[g2]at hf;exact hf
      ·rw[aU,hyy,aE,XH F _ om,g1,aE]
   ·rcases Jt l[k].fText with⟨g1,g2⟩|⟨a,r,g1,g2,g3⟩
    ·refine⟨(o.1,o.2++[aB.mk l[k].fText l[k].aI]),[],eQ,by rw[g1],si,.inl ⟨rfl,?_⟩⟩;rw[g2]at Mz;exact Mz
    ·refine⟨(o.1,o.2++[aB.mk a l[k].aI]),r,hJ,by rw[g1],om,.inr ⟨rfl,?_⟩⟩;rw[g2]at Mz;exact Mz
   grind[Jt]
 ·right;obtain rfl:k=Ts l:=om;intro rc;have ht:(l.take l.length).foldl oY ([],[])=HS l:=by rw[s7];rfl
  rw[ht];unfold pSt;dsimp only;rw[cf om,aru ahC fs (HS l).1 dead [] om];rfl
end
theorem ahD{r:J aB}(hF:(rQ r).length<F)(h0:(rQ r).length<1000000000)(h1:Ts r<=1000000000)(h2:bV r<=1000000000)(h:∀c∈rQ r,∃p x,gC F c=iN p/\kS F p=iN x):∃b,(b=hJ->True)/\pV F r=iN b:=by
 unfold pV Rv wx;rw[ck h1 h2];have hB:∀(F2:Nat)(x:O Bool),(∃b,True/\x=iN b)->∃b,(b=hJ->True)/\x=iN b:=λ_ x ⟨b,_,h⟩=>⟨b,λ_=>trivial,h⟩;refine hB F _ (BH (λ_=>True) (λx=>∃k:Nat,x.2.2=(k:Int)/\k<=Ts (rQ r)) (λx=>Ts (rQ r)-x.2.2.toNat) ?_ F (0,0,0) ⟨0,rfl,om⟩ aR)
 ·rintro⟨a,b,ii⟩ ⟨k,h0,hk⟩;dsimp only at h0⊢;subst h0;by_cases hk:k<Ts (rQ r)
  ·left;obtain⟨p,x,e1,e2⟩:=h (rQ r)[k] (fm hk);refine⟨(cond (!x.2) (aD (a+1),b,((k+1:Nat):Int)) (cond (x.1==[46,46]) (a,aD (b+1),((k+1:Nat):Int)) (a,b,((k+1:Nat):Int)))),⟨k+1,?_,om⟩,?_,λrc=>?_⟩
   ·grind
   ·grind
   ·rw[bC hk,cg,gd hk,e1,aE,bW om];grind
  simp_all[trivial,cf,aH,aE]
theorem ab5(l:J aB):(rQ l).length<=bV l+1:=by have:=TP l ([],[]);unfold rQ gj;simp[HE]at *;omega
theorem ahE:∀ {c:J aB},(∀r∈c,Ts r.fText=1)->bV c=Ts c|[],_=>rfl|r::c,h=>by have:=ahE (c:=c) λx hx=>h x (by simp[hx]);have:=h r si;unfold bV at *;simp;omega
theorem afY(p:Bs)(c:Int):gH [aB.mk p c]=p:=by simp[gH]
variable{cwd:Bs}
theorem ahF(h:gF cwd=hJ):Vi cwd [47]=([47],0):=by unfold Vi;rw[h];rfl
def gG(p n:Bs):Bs:=cond (p==[47]) ([47]++n) ((p++[47])++n)
def oZ(l:J aZ)(p:Bs):Bool:=(jo l p).elim eQ λf=>f.mc
def Pg(n:Bs):Bool:=n.take 1==[46]
def ab6(c:bh):Bool:=eK (0<Ts c.jL)&&((c.jL.getD 0 eL).fKind==1&&(c.jL.getD 0 eL).fText==[46])
def oM(mt:J aC->Bs->Bool)(c:bh)(n:Bs):Bool:=!((Pg n && !ab6 c) || !mt c.jL n)
def W(l:J aZ)(mt:J aC->Bs->Bool):J bh->Bs->J (J Bs)
 | [],p=>[[]]|c::cs,p=>cond (!oZ l p) [] (cond (!c.fP) (((dQ l p).filter (oM mt c)).flatMap λn=>(W l mt cs (gG p n)).map (n :: ·))
   (cond (c.bJ==[]||c.bJ==[46]) ((W l mt cs p).map (c.bJ :: ·)) (cond (c.bJ==[46,46]) ((W l mt cs (iT p)).map (c.bJ :: ·))
   (cond (jo l (gG p c.bJ)).isNone [] ((W l mt cs (gG p c.bJ)).map (c.bJ :: ·))))))
def xy(l:J aZ)(mt:J aC->Bs->Bool)(c:bh)(cs:J bh)(p:Bs):W l mt (c::cs) p=cond (!oZ l p) [] (cond (!c.fP) (((dQ l p).filter (oM mt c)).flatMap λn=>(W l mt cs (gG p n)).map (n :: ·))
   (cond (c.bJ==[]||c.bJ==[46]) ((W l mt cs p).map (c.bJ :: ·)) (cond (c.bJ==[46,46]) ((W l mt cs (iT p)).map (c.bJ :: ·))
   (cond (jo l (gG p c.bJ)).isNone [] ((W l mt cs (gG p c.bJ)).map (c.bJ :: ·)))))):=rfl
theorem ab7(F:Nat)(n:Bs):cD F n [46]=iN (Pg n):=by cases n with|nil=>rfl|cons b n=>unfold cD kF Pg wx;rw[cq aR,ck si aR];rfl
theorem ams(F:Nat)(n:Bs):cD F n [47]=iN (n.take 1==[47]):=by cases n with|nil=>rfl|cons b n=>unfold cD kF wx;rw[cq aR,ck si aR];rfl
theorem ab8(F:Nat)(p n:Bs)(hp:Ts p<=1000000)(hn:Ts n<=1000000):sA F p n=iN (gG p n):=by unfold sA gG wx;rw[kK aR,kK aR,kK aR,aH]
def ahG(F:Nat)(p:Bs)(hs:Ts p<1000000000):wF F p=iN (iT p):=Zc F p hs
variable{l:J aZ}{mt:J aC -> Bs -> Bool}{parts:J bh}{names:J Bs}
abbrev T6:=Bool×(J aZ)×(J bh)×(J (cM×Bool))×(J Bs)×(J Bs)
def EK(F:Nat)(rb:Int->Bs->(J aZ)->(J bh)->(J (cM×Bool))->(J Bs)->(J Bs)->O T6)(a2:J aZ)(a3:J bh)(a4:J (cM×Bool))(bD:Bs×Int×(J Bs)×(J Bs)->O T6)(x1:Bs×Int×(J Bs)×(J Bs)):O T6:=
 cond (eK (x1.2.1<(Ts a3:Int)))
 ((sJ F a2 x1.1).bind λx3=>
 (cond (!x3.2)
 (iN (hJ,x1.2.2.1,x1.2.2.2))
 (iN (!x3.1.mc,x1.2.2.1,x1.2.2.2)):O (Bool×(J Bs)×(J Bs))).bind λx4=>
 cond x4.1
 (iN (eQ,a2,a3,a4,x4.2.1,x4.2.2))
 (rq ((eK (0<=x1.2.1))&&(eK (x1.2.1<(Ts a3:Int)))) (cond (!((a3.getD (eJ x1.2.1) oN).fP))
 ((rb x1.2.1 x1.1 a2 a3 a4 x4.2.1 x4.2.2).bind λx5=>
 iN (x5.1,x5.2.1,x5.2.2.1,x5.2.2.2.1,x5.2.2.2.2.1,x5.2.2.2.2.2))
 ((cond (((a3.getD (eJ x1.2.1) oN).bJ)==[])
 (iN (hJ,x4.2.1,x4.2.2))
 (iN (((a3.getD (eJ x1.2.1) oN).bJ)==([46]:Bs),x4.2.1,x4.2.2)):O (Bool×(J Bs)×(J Bs))).bind λx6=>
 cond x6.1
 (bD (x1.1,aD (x1.2.1+1),x6.2.1,x6.2.2))
 (cond (((a3.getD (eJ x1.2.1) oN).bJ)==([46,46]:Bs))
 ((wF F x1.1).bind λx7=>
 bD (x7,aD (x1.2.1+1),x6.2.1,x6.2.2))
 ((sA F x1.1 ((a3.getD (eJ x1.2.1) oN).bJ)).bind λx8=>
 (sJ F a2 x8).bind λx9=>
 cond (!x9.2)
 (iN (eQ,a2,a3,a4,x6.2.1,x6.2.2))
 (bD (x8,aD (x1.2.1+1),x6.2.1,x6.2.2))))))))
 ((zD F ([47]:Bs) x1.2.2.1).bind λcz=>
 rq ((eK (Ts x1.2.2.2+Ts ([cz.1]:J Bs)<=9223372036854775807))&&(eK ((Ts x1.2.2.2+Ts ([cz.1]:J Bs))*16<=140737488355328))) (iN (hJ,a2,a3,a4,cz.2,x1.2.2.2++([cz.1]:J Bs))))
def Vq(n:Nat)(a0:Int)(a1:Bs)(a2:J aZ)(a3:J bh)(a4:J (cM×Bool))(a5 a6:J Bs):
  nu F (n+1) a0 a1 a2 a3 a4 a5 a6=bX (EK F (iy F n) a2 a3 a4) F (a1,a0,a5,a6):=rfl
def ab9(n:Nat)(a0:Int)(a1:Bs)(a2:J aZ)(a3:J bh)(a4:J (cM×Bool))(a5 a6:J Bs):
  mh F (n+1) a0 a1 a2 a3 a4 a5 a6=cond (fX dc a4 (cM.mk a0 a1) eQ)
   (iN (eQ,a2,a3,a4,a5,a6))
   ((nu F n a0 a1 a2 a3 a4 a5 a6).bind λx1=>
   cond (!x1.1)
   (iN (x1.1,x1.2.1,x1.2.2.1,jM dc x1.2.2.2.1 (cM.mk a0 a1) hJ,x1.2.2.2.2.1,x1.2.2.2.2.2))
   (iN (x1.1,x1.2.1,x1.2.2.1,x1.2.2.2.1,x1.2.2.2.2.1,x1.2.2.2.2.2))):=rfl
def Vr(l:J aZ)(mt:J aC->Bs->Bool)(parts:J bh)(dead:J (cM×Bool)):Prop:=∀(i:Nat) p,fX dc dead (cM.mk (i:Int) p) eQ=hJ->W l mt (parts.drop i) p=[]
structure Eb(parts:List bh)(i:Nat)(names:List Bs):Prop where
 len:Ts names=Ts parts
 lit:∀j,i<=j->∀h:j<Ts parts,parts[j].fP=hJ->names.getD j []=parts[j].bJ
 sz:∀n∈names,Ts n<=4000
def Sz(l:J aZ)(parts:J bh):Prop:=VL l/\parts.length<=4000/\(∀c∈parts,Ts c.bJ<=4000)
theorem T7:∀(l:J Bs),(∀n∈l,Ts n<=4000)->Ts (dW l)<=4001*Ts l
 | [],_=>by simp[dW]|x::l,h=>by have ih:=T7 l λn hn=>h n (by simp[hn]);have hx:=h x si;cases l with|nil=>simp[dW]at *;omega|cons y l=>rw[Mu x si];simp at *;omega
theorem MA{p:Bs}{f:aZ}(hv:VL l)(h:jo l p=iN f):Ts p<=128/\gF p=hJ/\f∈l:=by obtain⟨h1,h2⟩:=Jp h;subst h2;exact⟨hv.small f h1,hv.path f h1,h1⟩
theorem XM(hv:VL l){p n:Bs}(h:n∈dQ l p):lQ n=hJ/\n.length<=32:=by obtain⟨f,hf,rfl⟩:=lI.1 h;rw[Rt]at hf;unfold zn at hf;simp only[cK,wR]at hf;obtain⟨-,c,-,hc,-,-,e1,-,-⟩:=EI (hv.path f hf.1) hf.2.1;simp_all[AA]
theorem amt(hF:1000<=F)(hv:VL l){p:Bs}(h:oZ l p=hJ):BJ F l p=iN (dQ l p,0):=by
 rw[aps F l p hF hv];unfold oZ at h;cases hf:jo l p with
 | none=>rw[hf]at h;cases h
 | some f=>rw[hf]at h;have h:f.mc=hJ:=h;unfold ahx;rw[(MA hv hf).2.1,hf];simp[h]
def NQ(l:J aZ)(mt:J aC->Bs->Bool)(parts:J bh)(i:Nat)(path:Bs)(names found:J Bs)(r:T6):Prop:=∃aoA names',r=(!(W l mt (parts.drop i) path).isEmpty,l,parts,aoA,names',found++(W l mt (parts.drop i) path).map λws=>dW (names.take i++ws))/\Vr l mt parts aoA/\Eb parts i names'/\names'.take i=names.take i
theorem Eb.up(h:Eb parts i names):Eb parts (i+1) names:=⟨h.len,λj hj=>h.lit j om,h.sz⟩
theorem acd(h:Eb parts i names)(hi:i<Ts parts)(hl:parts[i].fP=hJ):names.take (i+1)=names.take i++[parts[i].bJ]:=by
 have h1:i<Ts names:=by rw[h.len];exact hi
 rw[lF h1];have:=h.lit i (eo _) hi hl;simp_all
theorem NQ.lit{path path':Bs}{found:J Bs}{r:T6}(hn:Eb parts i names)(hi:i<Ts parts)(hl:parts[i].fP=hJ)
  (hW:W l mt (parts.drop i) path=(W l mt (parts.drop (i+1)) path').map (parts[i].bJ :: ·)) (h:NQ l mt parts (i+1) path' names found r):NQ l mt parts i path names found r:=by
 obtain⟨d,n',rfl,h1,h2,h3⟩:=h;have h4:n'.take i=names.take i:=by have:=congrArg (List.take i) h3;grind
 refine⟨d,n',?_,h1,⟨h2.len,λj hj hlt hlj=>?_,h2.sz⟩,h4⟩
 ·rw[acd hn hi hl];simp_all
 ·by_cases e:j=i
  ·subst e;have h5:=acd hn hi hl;have h6:j<Ts n':=by rw[h2.len];exact hi
   grind[List.take_succ_eq_append_getElem,List.append_cancel_left,gd,List.singleton_inj]
  ·exact h2.lit j om hlt hlj
theorem aeR(hF:100000<=F)(hS:Sz l parts)(hM:∀c∈parts,c.fP=eQ->∀n:Bs,Ts n<=32->nS F c.jL n=iN (mt c.jL n)):
  ∀(k i:Nat)(path:Bs)(dead:J (cM×Bool))(names found:J Bs),i+k=Ts parts->Vr l mt parts dead->Eb parts i names->Ts found+Ts (W l mt (parts.drop i) path)<=1000000 ->
   (∀n G,3*k+1<=n->k<G->∃r,bX (EK F (iy F n) l parts dead) G (path,(i:Int),names,found)=iN r/\NQ l mt parts i path names found r) /\
   (∀n,3*k+3<=n->∃r,mh F n (i:Int) path l parts dead names found=iN r/\NQ l mt parts i path names found r):=by
 obtain⟨hv,avY,atA⟩:=hS;have hll:=hv.len;intro k
 induction k with
 | zero=>
  intro i path dead names found hi hD hN hsz;have hd:parts.drop i=[]:=UZ om;have key:∀n G,3*0+1<=n->0<G->∃r,bX (EK F (iy F n) l parts dead) G (path,(i:Int),names,found)=iN r/\NQ l mt parts i path names found r:=by
   intro n G hn hG;obtain⟨G,rfl⟩:∃H,G=H+1:=⟨G-1,om⟩;have hj:=T7 names hN.sz;have hln:=hN.len;have hw:W l mt (parts.drop i) path=[[]]:=by rw[hd];rfl
   rw[hw]at hsz;simp only[List.length_singleton]at hsz;refine⟨(hJ,l,parts,dead,names,found++[dW names]),?_,dead,names,?_,hD,hN,rfl⟩
   ·show EK F _ l parts dead _ (path,(i:Int),names,found)=_;unfold EK;dsimp only;rw[cf om,ab4 F names om om,aE,dD aR om]
   ·rw[hw,uK om];simp
  refine⟨key,λn hn=>?_⟩;obtain⟨n,rfl⟩:∃m,n=m+2:=⟨n-2,om⟩;rw[ab9];cases hg:fX dc dead (cM.mk (i:Int) path) eQ with
  | true=>have:=hD i path hg;rw[hd]at this;cases this
  | false=>rw[aJ,Vq];obtain⟨r,h1,h2⟩:=key n F om om;rw[h1,aE];obtain⟨d,n',rfl,h3,h4,h5⟩:=h2;refine⟨_,?_,d,n',rfl,h3,h4,h5⟩;rw[hd];rfl
 | succ k ih=>
  intro i path dead names found hi hD hN hsz;have hil:i<Ts parts:=om;have hd:parts.drop i=parts[i]::parts.drop (i+1):=sY hil;have hg:parts.getD i oN=parts[i]:=gd hil;have aoB:parts[i]∈parts:=fm hil;have htl:=atA _ aoB;have S2:parts[i].fP=eQ->oZ l path=hJ->∀n,3*k+4<=n->∃r,iy F n (i:Int) path l parts dead names found=iN r/\NQ l mt parts i path names found r:=by
   intro hl Kx n hn;obtain⟨n,rfl⟩:∃m,n=m+1:=⟨n-1,om⟩;have avZ:Ts path<=128:=by
    unfold oZ at Kx;cases hf:jo l path with
    | none=>rw[hf]at Kx;cases Kx
    | some f=>exact(MA hv hf).1
   have hw:W l mt (parts.drop i) path=((dQ l path).filter (oM mt parts[i])).flatMap λn=>(W l mt (parts.drop (i+1)) (gG path n)).map (n :: ·):=by rw[hd,xy,Kx,hl];rfl
   show ∃r,qW F (mh F n) (nu F n) (iy F n) (i:Int) path l parts dead names found=iN r/\_;unfold qW wx;rw[bC hil,cg,hg]
   have e1:((cond (eK (0<(Ts (parts[i].jL):Int))) (rq (eK (0<(Ts (parts[i].jL):Int))) (iN (((parts[i].jL.getD 0 eL).fKind)==1,names,found))) (iN (eQ,names,found)):O (Bool×(J Bs)×(J Bs))).bind λx1=>
     (cond x1.1 (rq (eK (0<(Ts (parts[i].jL):Int))) (iN (((parts[i].jL.getD 0 eL).fText)==([46]:Bs),x1.2.1,x1.2.2))) (iN (eQ,x1.2.1,x1.2.2)):O (Bool×(J Bs)×(J Bs))))=iN (ab6 parts[i],names,found):=by
    unfold ab6;by_cases h0:0<parts[i].jL.length
    ·rw[cq om,kK om,aE,dT h0];dsimp only;rw[kK om];cases ((parts[i].jL.getD 0 eL).fKind==1)<;>rfl
    ·rw[cf om,aE,dF h0];rfl
   rw[<-abh,e1,aE,amt om hv Kx,aE];have hkl:(dQ l path).length<=128:=by unfold dQ;rw[jh];exact lG (aaV _ _) hll
   have atB:∀x:O T6,(∃r,NQ l mt parts i path names found r/\x=iN r)->∃r,x=iN r/\NQ l mt parts i path names found r:=λx ⟨r,h1,h2⟩=>⟨r,h2,h1⟩
   refine atB _ (BH (R:=T6) (NQ l mt parts i path names found)
    (λx:Bool×Int×(J aZ)×(J bh)×(J (cM×Bool))×(J Bs)×(J Bs)=>∃(j:Nat)(d:J (cM×Bool))(ns:J Bs),j<=Ts (dQ l path)/\Vr l mt parts d/\Eb parts (i+1) ns/\ns.take i=names.take i /\
     x=(!((((dQ l path).take j).filter (oM mt parts[i])).flatMap λn=>(W l mt (parts.drop (i+1)) (gG path n)).map (n :: ·)).isEmpty,(j:Int),l,parts,d,ns,found++((((dQ l path).take j).filter (oM mt parts[i])).flatMap λn=>(W l mt (parts.drop (i+1)) (gG path n)).map (n :: ·)).map λws=>dW (names.take i++ws)))
    (λx=>Ts (dQ l path)-x.2.1.toNat) ?_ F (eQ,0,l,parts,dead,names,found) ⟨0,dead,names,om,hD,hN.up,rfl,si⟩ aR)
   ·rintro x ⟨j,d,ns,hj,hD2,Vs,ht2,rfl⟩;dsimp only;by_cases hjl:j<Ts (dQ l path)
    ·left;have lC:(dQ l path).getD j []=(dQ l path)[j]:=gd hjl;have hkm:(dQ l path)[j]∈dQ l path:=fm hjl;obtain⟨hkn,auZ⟩:=XM hv hkm;have htk:(dQ l path).take (j+1)=(dQ l path).take j++[(dQ l path)[j]]:=lF hjl;cases hkeep:oM mt parts[i] (dQ l path)[j]with
     | false=>
      have hf:((dQ l path).take (j+1)).filter (oM mt parts[i])=((dQ l path).take j).filter (oM mt parts[i]):=by rw[htk,U4];simp[hkeep]
      refine⟨_,⟨j+1,d,ns,om,hD2,Vs,ht2,rfl⟩,aR,λrc=>?_⟩;rw[hf,cq om,bC hjl,cg,lC,ab7,aE,bW om,aH,aE];unfold oM at hkeep;cases h1:Pg (dQ l path)[j]with
      | true=>rw[h1]at hkeep;rw[aU];dsimp only;cases h2:ab6 parts[i]with|false=>rfl|true=>grind
      | false=>grind
     | true=>
      have hf:((dQ l path).take (j+1)).filter (oM mt parts[i])=((dQ l path).take j).filter (oM mt parts[i])++[(dQ l path)[j]]:=by rw[htk,U4];simp[hkeep]
      have rV:(ns.set i (dQ l path)[j]).take (i+1)=names.take i++[(dQ l path)[j]]:=by
       have h1:i<Ts (ns.set i (dQ l path)[j]):=by rw[agW,Vs.len];exact hil
       rw[lF h1,List.getElem_set_self,List.take_set_of_le (eo _),ht2]
      have hN3:Eb parts (i+1) (ns.set i (dQ l path)[j]):=⟨by rw[agW];exact Vs.len,λq hq hqi qF=>by
       have:=Vs.lit q hq hqi qF;rw[U0,Mb om,<-U0];exact this,λn hn=>by
       rcases aon hn with h|rfl
       ·exact Vs.sz n h
       ·omega⟩
      have hsub:Ts found+(Ts ((((dQ l path).take j).filter (oM mt parts[i])).flatMap λn=>(W l mt (parts.drop (i+1)) (gG path n)).map (n :: ·)))+Ts (W l mt (parts.drop (i+1)) (gG path (dQ l path)[j]))<=1000000:=by rw[hw]at hsz;have h1:dQ l path=(dQ l path).take (j+1)++(dQ l path).drop (j+1):=(Hz _ _).symm;rw[h1,U4,Mi,hf,Mi]at hsz;simp only[nX,vZ,U1,TL,jh]at hsz;omega
      obtain⟨-,ahH⟩:=ih (i+1) (gG path (dQ l path)[j]) d (ns.set i (dQ l path)[j]) (found++((((dQ l path).take j).filter (oM mt parts[i])).flatMap λn=>(W l mt (parts.drop (i+1)) (gG path n)).map (n :: ·)).map λws=>dW (names.take i++ws)) om hD2 hN3 (by rw[nX,jh];omega);obtain⟨r,hr,d',n',rfl,g1,g2,g3⟩:=ahH n om;have au0:n'.take i=names.take i:=by have h1:=congrArg (List.take i) g3;rw[rV,aa4,agX om,aoi (by rw[zh,hN.len];omega),aa4,Nat.min_self]at h1;exact h1
      refine⟨_,⟨j+1,d',n',om,g1,g2,au0,rfl⟩,aR,λrc=>?_⟩;rw[hf,cq om,bC hjl,cg,lC,ab7,aE,bW om,aH,aE];have hk2:=hkeep;unfold oM at hk2;simp only[wR,abe,ahg]at hk2;have e2:cond (Pg (dQ l path)[j]) (!ab6 parts[i],ns,found++((((dQ l path).take j).filter (oM mt parts[i])).flatMap λn=>(W l mt (parts.drop (i+1)) (gG path n)).map (n :: ·)).map λws=>dW (names.take i++ws)) (eQ,ns,found++((((dQ l path).take j).filter (oM mt parts[i])).flatMap λn=>(W l mt (parts.drop (i+1)) (gG path n)).map (n :: ·)).map λws=>dW (names.take i++ws))=(eQ,ns,found++((((dQ l path).take j).filter (oM mt parts[i])).flatMap λn=>(W l mt (parts.drop (i+1)) (gG path n)).map (n :: ·)).map λws=>dW (names.take i++ws)):=by grind
      rw[e2];dsimp only;rw[aJ,hM _ aoB hl _ auZ,aE,aE,hk2.2];dsimp only;rw[ia,aJ,bC (by rw[Vs.len];exact hil),ab8 F _ _ om om,aE,bW om,hr,aE];dsimp only;rw[rV,Mi,pQ];cases hW:W l mt (parts.drop (i+1)) (gG path (dQ l path)[j])with
      | nil=>simp only[List.isEmpty_nil,ia,aJ,Km,TL,vZ,U1,hW]|cons a b=>
       have e3:(((((dQ l path).take j).filter (oM mt parts[i])).flatMap λn=>(W l mt (parts.drop (i+1)) (gG path n)).map (n :: ·))++([(dQ l path)[j]].flatMap λn=>(W l mt (parts.drop (i+1)) (gG path n)).map (n :: ·))).isEmpty=eQ:=by rw[vZ,U1,hW];simp
       rw[e3];simp only[List.isEmpty_cons,qm,aU,vZ,U1,TL,hW,Av,tI];congr 8
    ·right;obtain rfl:j=Ts (dQ l path):=om;rw[s7];refine⟨_,⟨d,ns,rfl,hD2,⟨Vs.len,λq hq hqi qF=>?_,Vs.sz⟩,ht2⟩,λrc=>?_⟩
     ·by_cases e:q=i
      ·subst e;rw[hl]at qF;cases qF
      ·exact Vs.lit q om hqi qF
     ·rw[cf om,hw]
  have key:∀n G,3*(k+1)+1<=n->k+1<G->∃r,bX (EK F (iy F n) l parts dead) G (path,(i:Int),names,found)=iN r/\NQ l mt parts i path names found r:=by
   intro n G hn hG;obtain⟨G,rfl⟩:∃H,G=H+1:=⟨G-1,om⟩;show ∃r,EK F _ l parts dead (bX _ G) (path,(i:Int),names,found)=iN r/\_;have aoC:oZ l path=eQ->NQ l mt parts i path names found (eQ,l,parts,dead,names,found):=by
    intro h;have hw:W l mt (parts.drop i) path=[]:=by rw[hd,xy,h];rfl
    exact⟨dead,names,by rw[hw];simp,hD,hN,rfl⟩
   unfold EK;dsimp only;rw[cq om,find_eq F l path om om,aE];cases hf:jo l path with
   | none=>exact⟨_,rfl,aoC (by unfold oZ;rw[hf];rfl)⟩|some f=>
    obtain⟨hpl,hps,hfl⟩:=MA hv hf;have hp1:1<=Ts path:=by
     cases path with
     | nil=>cases hps
     | cons b p=>simp
    dsimp only[Option.elim];rw[ia,aJ,aE];dsimp only;cases S3:f.mc with
    | false=>exact⟨_,rfl,aoC (by unfold oZ;rw[hf];exact S3)⟩|true=>
     have Kx:oZ l path=hJ:=by unfold oZ;rw[hf];exact S3
     rw[ia,aJ,bC hil,cg,hg];cases hl:parts[i].fP with
     | false=>grind|true=>
      rw[ia,aJ,aH,aE];have e3:cond (parts[i].bJ==[]) (hJ,names,found) (parts[i].bJ==[46],names,found)=((parts[i].bJ==[]||parts[i].bJ==[46]),names,found):=by cases (parts[i].bJ==[])<;>rfl
      rw[e3];dsimp only;rw[bW om];cases h1:(parts[i].bJ==[]||parts[i].bJ==[46])with
      | true=>
       have hw:W l mt (parts.drop i) path=(W l mt (parts.drop (i+1)) path).map (parts[i].bJ :: ·):=by rw[hd,xy,Kx,hl,h1];rfl
       rw[hw,jh]at hsz;rw[aU];obtain⟨r,hr,hok⟩:=(ih (i+1) path dead names found om hD hN.up hsz).1 n G om om;exact⟨r,hr,hok.lit hN hil hl hw⟩
      | false=>
       rw[aJ];cases h2:(parts[i].bJ==[46,46])with
       | true=>
        have hw:W l mt (parts.drop i) path=(W l mt (parts.drop (i+1)) (iT path)).map (parts[i].bJ :: ·):=by rw[hd,xy,Kx,hl,h1,h2];rfl
        rw[hw,jh]at hsz;rw[aU,ahG F path om,aE];obtain⟨r,hr,hok⟩:=(ih (i+1) (iT path) dead names found om hD hN.up hsz).1 n G om om;exact⟨r,hr,hok.lit hN hil hl hw⟩
       | false=>
        rw[aJ,ab8 F path _ om om,aE,find_eq F l _ om om,aE];cases hf2:jo l (gG path parts[i].bJ)with
        | none=>
         have hw:W l mt (parts.drop i) path=[]:=by rw[hd,xy,Kx,hl,h1,h2,hf2];rfl
         exact⟨_,rfl,dead,names,by rw[hw];simp,hD,hN,rfl⟩
        | some f2=>
         have hw:W l mt (parts.drop i) path=(W l mt (parts.drop (i+1)) (gG path parts[i].bJ)).map (parts[i].bJ :: ·):=by rw[hd,xy,Kx,hl,h1,h2,hf2];rfl
         rw[hw,jh]at hsz;obtain⟨r,hr,hok⟩:=(ih (i+1) (gG path parts[i].bJ) dead names found om hD hN.up hsz).1 n G om om;exact⟨r,hr,hok.lit hN hil hl hw⟩
  refine⟨key,λn hn=>?_⟩;obtain⟨n,rfl⟩:∃m,n=m+2:=⟨n-2,om⟩;rw[ab9];cases Vk:fX dc dead (cM.mk (i:Int) path) eQ with
  | true=>have hw:=hD i path Vk;exact⟨_,rfl,dead,names,by rw[hw];simp,hD,hN,rfl⟩|false=>
   rw[aJ,Vq];obtain⟨r,h1,h2⟩:=key n F om om;rw[h1,aE];obtain⟨d,n',rfl,h3,h4,h5⟩:=h2;cases hW:W l mt (parts.drop i) path with
   | nil=>refine⟨_,rfl,jM dc d (cM.mk (i:Int) path) hJ,n',by rw[hW],λq p hq=>?_,h4,h5⟩;rw[uB]at hq;cases he:(cM.mk (i:Int) path==cM.mk (q:Int) p)with|true=>grind|false=>rw[he]at hq;exact h3 q p hq
   | cons a b=>exact⟨_,rfl,d,n',by rw[hW],h3,h4,h5⟩
theorem Zj:∀s:Bs,((cm s).map λp=>Ts p+1).sum=Ts s+1
 | []=>rfl|b::l=>by
  have ih:=Zj l;have hne:=td l;unfold cm;cases (b==47)
  ·rw[aJ];cases h:cm l with|nil=>exact absurd h hne|cons p ps=>rw[h]at ih;simp at *;omega
  ·rw[aU,jI,OW];simp;omega
def NR(o:J (J aB)×J aB):Nat:=(o.1.map λc=>bV c+1).sum+bV o.2
theorem Dv(a b:J aB):bV (a++b)=bV a+bV b:=by unfold bV;simp_all
theorem aoD(c:Int):∀(ps:J Bs)(o:J (J aB)×J aB),NR (ps.foldl (HR c) o)=NR o+(ps.map λp=>Ts p+1).sum|[],o=>by simp|q::ps,o=>by rw[v7,aoD c ps];unfold NR HR;simp[UY,bV];omega
theorem atC(o:J (J aB)×J aB)(r:aB):NR (oY o r)<=NR o+Ts r.fText:=by
 unfold oY;cases nY r.aI
 ·have hs:=Zj r.fText;cases h:cm r.fText with
  | nil=>simp_all|cons p ps=>
   rw[h]at hs;show NR (ps.foldl (HR r.aI) (o.1,o.2++[aB.mk p r.aI]))<=_;rw[aoD];unfold NR;simp[Dv]at *;have:bV [aB.mk p r.aI]=Ts p:=by simp[bV]
   omega
 ·simp
theorem aoE:∀(l:J aB)(o:J (J aB)×J aB),NR (l.foldl oY o)<=NR o+bV l|[],o=>by simp|r::l,o=>by have h1:=aoE l (oY o r);have h2:=atC o r;simp[bV]at *;omega
theorem apx{l:J (J aB)}{c:J aB}(h:c∈l):bV c+1<=(l.map λc=>bV c+1).sum:=by
 induction l with
 | nil=>cases h
 | cons a l ih=>grind
theorem apy(l:J (J aB)):Ts l<=(l.map λc=>bV c+1).sum:=by
 induction l with|nil=>simp|cons a l ih=>grind
theorem ahI{l:J aB}:(gJ l).length<=bV l+1/\∀t∈gJ l,bV t<=bV l:=by
 have h:=aoE l ([],[]);have h0:NR ([],[])=0:=rfl;have h:NR (HS l)<=bV l:=by unfold HS;omega
 unfold NR at h;have h1:=apy (HS l).1;refine⟨by unfold gJ;grind,λt ht=>?_⟩;rcases ni.1 ht with ht|ht
 ·have:=apx ht;omega
 grind
def LI(k:Nat)(o:J (J aB)×J aB):Prop:=(∀c∈o.1,Ts c<=k)/\o.2.length<=k
theorem arw(c:Int):∀(ps:J Bs)(k:Nat)(o:J (J aB)×J aB),LI (k+1) o->LI (k+1) (ps.foldl (HR c) o)
 | [],k,o,h=>h|q::ps,k,o,h=>arw c ps k _ ⟨λx hx=>by
   rcases ni.1 hx with hx|hx
   ·exact h.1 x hx
   ·obtain rfl:=qn.1 hx;exact h.2,by simp[HR]⟩
variable{k:Nat}{o:J (J aB)×J aB}
theorem au1(h:LI k o)(r:aB):LI (k+1) (oY o r):=by
 unfold oY;cases nY r.aI
 ·cases hp:cm r.fText with|nil=>simp_all[td]|cons p ps=>exact arw r.aI ps k (o.1,o.2++[aB.mk p r.aI]) ⟨λx hx=>ahh (h.1 x hx),by have:=h.2;simp;omega⟩
 ·exact⟨λx hx=>ahh (h.1 x hx),ahh h.2⟩
theorem arx:∀(l:J aB)(k:Nat)(o:J (J aB)×J aB),LI k o->LI (k+Ts l) (l.foldl oY o)
 | [],k,o,h=>h|r::l,k,o,h=>by have:=arx l (k+1) _ (au1 h r);rwa [show k+1+Ts l=k+Ts (r::l) by simp;omega]at this
theorem amu(l:J aB):LI l.length (l.foldl oY ([],[])):=by have:=arx l 0 ([],[]) ⟨λc hc=>(by cases hc),si⟩;simp_all
theorem apz(l:J aB)(k:Nat):((l.take k).foldl oY ([],[])).2.length<=Ts l:=by have:=(amu (l.take k)).2;grind
theorem ace{l:J aB}:∀t∈gJ l,Ts t<=Ts l:=by
 intro t ht;rcases ni.1 ht with ht|ht
 ·exact(amu l).1 t ht
 ·obtain rfl:=qn.1 ht;exact(amu l).2
def tQ(cwd field:Bs):Bs:=cond (field.take 1==[47]) [47] cwd
def partsOf(pat:J aB->J aC)(lit:J aB->Bool)(r:J aB):J bh:=(gJ r).map (Pf pat lit)
def tS(r:J aB):Bs:=dW ((gJ r).map gH)
def Ph(l:J aZ)(mt:J aC->Bs->Bool)(pat:J aB->J aC)(lit:J aB->Bool)(cwd:Bs)(r:J aB):J Bs:=cond ((gJ r).all lit||(W l mt (partsOf pat lit r) (tQ cwd (tS r))).isEmpty) [tS r] (rS ((W l mt (partsOf pat lit r) (tQ cwd (tS r))).map dW))
theorem aj3{lit:J aB->Bool}{r:J aB}(hF:100000<=F)(hv:VL l)(hc:gF cwd=hJ)(h1:Ts r<=10000)(h2:bV r<=3000)
  (hK:∀t∈gJ r,eR F t=iN (pat t)/\∃x,iY F (pat t)=iN (x,lit t))
  (hM:∀t∈gJ r,lit t=eQ->∀n:Bs,Ts n<=32->nS F (pat t) n=iN (mt (pat t) n))
  (hW:(W l mt (partsOf pat lit r) (tQ cwd (tS r))).length<=1000000):pz F l cwd r=iN (Ph l mt pat lit cwd r,0):=by
 obtain⟨g1,g2⟩:=ahI (l:=r);have g3:=ace (l:=r)
 have hpc:nN F r l [] hJ [] [] []=iN (l,_,_,_,[]):=pieces_eq (F:=F) (pat:=pat) (lit:=lit) (l:=r) (fs:=l) (dead:=[]) om om om om om (λk=>by grind[apz]) (λt ht=>by
  have:=g2 t ht;have:=g3 t ht;exact⟨(hK t ht).1,(hK t ht).2,om,om,om⟩)
 have ahJ:∀n∈(gJ r).map gH,Ts n<=4000:=by grind[vP]
 have hjl:=T7 _ ahJ;rw[jh]at hjl;unfold pz wx;rw[amj F cwd [47] om si,ahF hc];show((nN F r l [] hJ [] [] []).bind _)=_;rw[hpc,aE];dsimp only;rw[ab4 F _ (by grind) om,Option.bind_some];dsimp only;unfold Ph;cases ha:(gJ r).all lit with
 | true=>rfl|false=>
  rw[aJ,ams,aE,aH,aE];have atD:Vr l mt (partsOf pat lit r) []:=λi p h=>by cases h
  have au2:Eb (partsOf pat lit r) 0 ((gJ r).map gH):=⟨by unfold partsOf;simp_all,λj _ hj _=>by
   unfold partsOf at hj⊢;rw[jh]at hj;rw[gd (by simp_all),Md,Md];rfl,ahJ⟩
  obtain⟨-,ahH⟩:=aeR (F:=F) (l:=l) (mt:=mt) (parts:=partsOf pat lit r) hF ⟨hv,by unfold partsOf;grind,λc hc=>by
    obtain⟨t,ht,rfl⟩:=lI.1 hc;have:=g2 t ht;show(gH t).length<=_;rw[vP];omega⟩ (λc hc hl n hn=>by
    obtain⟨t,ht,rfl⟩:=lI.1 hc;exact hM t ht hl n hn) (partsOf pat lit r).length 0 (tQ cwd (tS r)) [] ((gJ r).map gH) [] om atD au2 (by simpa using hW)
  obtain⟨x,hx,d,n',rfl,-,-,-⟩:=ahH F (by unfold partsOf;grind);have e1:cond ((dW ((gJ r).map gH)).take 1==[47]) (([47]:Bs),(gJ r).map gH,([]:J Bs)) (cwd,(gJ r).map gH,[])=(tQ cwd (tS r),(gJ r).map gH,[]):=by unfold tQ tS;grind
  rw[e1];dsimp only;unfold uX;rw[show(0:Int)=((0:Nat):Int)from rfl];unfold partsOf at hx⊢;rw[hx,aE];dsimp only;rw[Bool.not_not,OV,TF];cases hE:(W l mt ((gJ r).map (Pf pat lit)) (tQ cwd (tS r))).isEmpty with|true=>rfl|false=>rw[aJ,aJ];unfold RG;unfold partsOf at hW;rw[kK aR,aE];simp
def Ju(e:fI):dY:=dY.mk e.fb e.nM
theorem apA(r:aB):HN r=(qb r).map Ju:=by
 unfold HN qb;cases nY r.aI
 ·rw[aJ,aJ,Av];rfl
 ·rfl
theorem atE(l:J aB):l.flatMap HN=(l.flatMap qb).map Ju:=by
 induction l with|nil=>rfl|cons r l ih=>simp_all[vZ,pQ,apA]
theorem jZ(x:J fI)(i:Nat)(b:Int):EJ (x.map Ju) i b=dZ x i b:=by
 unfold EJ dZ;rw[jh];by_cases h:i<Ts x
 ·rw[gd (by simp_all),Md,gd h];rfl
 ·rw[dF h];rfl
def yA(x:J fI)(i:Nat)(s:Bs):Bool:=(bY s.length).all λj=>dZ x (i+j) ((s.getD j 0).toNat:Int)
theorem apB(F:Nat)(x:J fI)(i:Nat)(s:Bs)(hF:Ts s<F)(hi:i<50000000)(hs:Ts s<50000000):Gm F (x.map Ju) (i:Int) s=iN (yA x i s):=by
 refine cy (λk'=>∃k:Nat,k'=(k:Int)/\k<=Ts s/\∀j,j<k->dZ x (i+j) ((s.getD j 0).toNat:Int)=hJ) (λk'=>Ts s-k'.toNat) ?_ F _ ⟨0,rfl,om,λj h=>om⟩ aR;rintro ii ⟨k,rfl,hk,hj⟩;by_cases hk:k<Ts s
 ·have hw:aD ((i:Int)+(k:Int))=((i+k:Nat):Int):=by grind[bL]
  cases h:dZ x (i+k) ((s.getD k 0).toNat:Int)with
  | true=>
   left;refine⟨((k+1:Nat):Int),⟨k+1,rfl,om,λj hj2=>?_⟩,aR,λrc=>?_⟩
   ·grind
   ·rw[cq om,bC hk,hw,jV,jZ,cg,h,bW om];rfl
  | false=>
   right;intro rc;rw[cq om,bC hk,hw,jV,jZ,cg,h];have:yA x i s=eQ:=by unfold yA;grind
   rw[this];rfl
 ·right;obtain rfl:k=Ts s:=om;intro rc;rw[cf om];have:yA x i s=hJ:=by unfold yA;simp_all
  rw[this]
theorem AU:dZ x i b=hJ↔i<Ts x/\(x.getD i cU).nM=hJ/\(x.getD i cU).fb=b:=by unfold dZ;simp_all
theorem ahK(x:J fI)(i:Nat)(n:Bs)(h5:Ts n=5)(acf:∀b∈n,97<=b.toNat/\b.toNat<=122):
  yA x i ((([91,58]:Bs)++n)++([58,93]:Bs))=((dZ x i 91&&dZ x (i+1) 58)&&((dZ x (i+2+Ts (kN x (i+2))) 58&&dZ x (i+2+Ts (kN x (i+2))+1) 93)&&kN x (i+2)==cY n)):=by
 match n,h5 with
 | [a,b,c,d,e],_=>
  have ha:=acf a si;have hb:=acf b si;have hc:=acf c si;have hd:=acf d si;have he:=acf e si;rw[tH];unfold yA;rw[show((([91,58]:Bs)++[a,b,c,d,e])++([58,93]:Bs)).length=9 from rfl];have au3:((bY 9).all λj=>dZ x (i+j) ((((([91,58]:Bs)++[a,b,c,d,e])++([58,93]:Bs)).getD j 0).toNat:Int))=hJ ↔
    (dZ x i 91=hJ/\dZ x (i+1) 58=hJ/\dZ x (i+2) (a.toNat:Int)=hJ/\dZ x (i+3) (b.toNat:Int)=hJ/\dZ x (i+4) (c.toNat:Int)=hJ/\dZ x (i+5) (d.toNat:Int)=hJ/\dZ x (i+6) (e.toNat:Int)=hJ/\dZ x (i+7) 58=hJ/\dZ x (i+8) 93=hJ):=by
   rw[pP];constructor
   ·intro h;exact⟨h 0 si,h 1 si,h 2 si,h 3 si,h 4 si,h 5 si,h 6 si,h 7 si,h 8 si⟩
   ·rintro⟨h0,h1,h2,h3,h4,h5,h6,h7,h8⟩ j hj
    match j,hj with|0,_=>exact h0|1,_=>exact h1|2,_=>exact h2|3,_=>exact h3|4,_=>exact h4|5,_=>exact h5|6,_=>exact h6|7,_=>exact h7|8,_=>exact h8
  rw[au3];have hat:=aj0 x (i+2);simp only[cK,uL];constructor
  ·rintro⟨h0,h1,h2,h3,h4,h5,h6,h7,h8⟩;have g2:=AU.1 h2;have g3:=AU.1 h3;have g4:=AU.1 h4;have g5:=AU.1 h5;have g6:=AU.1 h6;have g7:=AU.1 h7;have hl:∀(k:Nat)(v:UInt8),97<=v.toNat/\v.toNat<=122->(x.getD k cU).nM=hJ/\(x.getD k cU).fb=(v.toNat:Int)->Ds (x.getD k cU)=hJ:=by unfold Ds;grind
   have iW:x.drop (i+2)=x.getD (i+2) cU::x.getD (i+3) cU::x.getD (i+4) cU::x.getD (i+5) cU::x.getD (i+6) cU::x.getD (i+7) cU::x.drop (i+8):=by simp_all
   have hnl:Ds (x.getD (i+7) cU)=eQ:=by unfold Ds;grind
   have hrun:kN x (i+2)=cY [a,b,c,d,e]:=by unfold kN;rw[iW];simp only[List.takeWhile,hl _ a ha g2.2,hl _ b hb g3.2,hl _ c hc g4.2,hl _ d hd g5.2,hl _ e he g6.2,hnl];simp only[jI,Km,g2.2.2,g3.2.2,g4.2.2,g5.2.2,g6.2.2];rfl
   rw[hrun];exact⟨⟨h0,h1⟩,⟨h7,h8⟩,rfl⟩
  ·rintro⟨⟨h0,h1⟩,⟨h7,h8⟩,hr⟩;rw[hr]at hat h7 h8;have hk:∀(k:Nat)(v:UInt8),k<5->(cY [a,b,c,d,e]).getD k 0=(v.toNat:Int)->dZ x (i+2+k) (v.toNat:Int)=hJ:=by intro k v hk e1;obtain⟨q1,q2,q3⟩:=hat k hk;unfold Ds at q3;simp_all[cK,AU]
   exact⟨h0,h1,hk 0 a om rfl,hk 1 b om rfl,hk 2 c om rfl,hk 3 d om rfl,hk 4 e om rfl,h7,h8⟩
def exD(l:J cA)(b:Nat):J cA:=cond (eK (0<Ts l)&&(l.getD (Ts l-1) fU).kA+1==(b:Int)) (l.set (Ts l-1) (cA.mk (l.getD (Ts l-1) fU).qu (b:Int))) (l++[cA.mk (b:Int) (b:Int)])
def DD(P:Nat->Bool):Nat->J cA|0=>[]|k+1=>cond (P k) (exD (DD P k) k) (DD P k)
theorem apC(l:J cA)(b:Nat):(exD l b).length<=Ts l+1:=by unfold exD;grind
theorem acg(P:Nat->Bool):∀k,Ts (DD P k)<=k
 | 0=>by simp[DD]|k+1=>by
  have ih:=acg P k;have:=apC (DD P k) k;unfold DD;cases P k
  ·rw[aJ];omega
  ·rw[aU];omega
theorem XN(P:Nat->Bool):∀k,∀s∈DD P k,∃h:Nat,h<k/\s.kA=(h:Int)/\P h=hJ
 | 0,s,hs=>by cases hs
 | k+1,s,hs=>by
  have ih:=XN P k;unfold DD at hs;cases hP:P k with
  | false=>rw[hP]at hs;obtain⟨h,h1,h2,h3⟩:=ih s hs;exact⟨h,om,h2,h3⟩
  | true=>
   rw[hP]at hs;unfold exD at hs;cases hb:(eK (0<Ts (DD P k))&&((DD P k).getD (Ts (DD P k)-1) fU).kA+1==(k:Int))with
   | true=>
    rw[hb]at hs;rcases aon hs with hs|rfl
    ·obtain⟨h,h1,h2,h3⟩:=ih s hs;exact⟨h,om,h2,h3⟩
    ·exact⟨k,om,rfl,hP⟩
   | false=>
    rw[hb]at hs;rcases ni.1 hs with hs|hs
    ·obtain⟨h,h1,h2,h3⟩:=ih s hs;exact⟨h,om,h2,h3⟩
    ·obtain rfl:=qn.1 hs;exact⟨k,om,rfl,hP⟩
theorem ary(P:Nat->Bool)(c:Nat)(h:P c=hJ)(h0:c=0\/P (c-1)=eQ):DD P (c+1)=DD P c++[cA.mk (c:Int) (c:Int)]:=by
 rw[DD,h,aU,exD];have:(eK (0<Ts (DD P c))&&((DD P c).getD (Ts (DD P c)-1) fU).kA+1==(c:Int))=eQ:=by
  by_cases hl:0<Ts (DD P c)
  ·grind[gd,List.getElem_mem,XN,beq_eq_false_iff_ne]
  ·rw[dF hl];rfl
 rw[this,aJ]
theorem aj4(P:Nat->Bool)(c:Nat)(h0:c=0\/P (c-1)=eQ):∀(k:Nat),(∀j,c<=j->j<=c+k->P j=hJ)->DD P (c+k+1)=DD P c++[cA.mk (c:Int) ((c+k:Nat):Int)]
 | 0,h=>ary P c (h c (eo _) om) h0|k+1,h=>by
  have ih:=aj4 P c h0 k λj h1 h2=>h j h1 om;rw[show c+(k+1)+1=(c+k+1)+1 by omega,DD,h (c+k+1) om om,ih,exD];have hl:(DD P c++[cA.mk (c:Int) ((c+k:Nat):Int)]).length-1=Ts (DD P c):=by simp
  have hg:(DD P c++[cA.mk (c:Int) ((c+k:Nat):Int)]).getD (Ts (DD P c++[cA.mk (c:Int) ((c+k:Nat):Int)])-1) fU=cA.mk (c:Int) ((c+k:Nat):Int):=by simp
  have e:((cA.mk (c:Int) ((c+k:Nat):Int)).kA+1==((c+k+1:Nat):Int))=hJ:=by rw[uL];show((c+k:Nat):Int)+1=_;omega
  simp;omega
theorem aj5(P:Nat->Bool):∀(m c:Nat),c+m=255->P c=hJ->∃k,c+k<=255/\(∀j,c<=j->j<=c+k->P j=hJ)/\(c+k=255\/P (c+k+1)=eQ)
 | 0,c,h,hP=>⟨0,om,(λj h1 h2=>(show j=c by omega)▸hP),.inl om⟩
 | m+1,c,h,hP=>by
  cases h1:P (c+1)with
  | false=>exact⟨0,om,(λj h1 h2=>(show j=c by omega)▸hP),.inr h1⟩
  | true=>
   obtain⟨k,g1,g2,g3⟩:=aj5 P m (c+1) om h1;refine⟨k+1,om,λj h2 h3=>?_,?_⟩
   ·grind
   grind
theorem ahL{c:Nat}(h:c<256):dO .u8 (c:Int)=(c:Int):=by show((c:Int)%256)=c;omega
theorem amv(F:Nat)(set:J Bool)(hF:1000<F)(hs:Ts set=256):sw F set=iN (DD (λc=>set.getD c eQ) 256):=by
 unfold sw wx;rw[cE (by rw[hs];rfl)];generalize hP:(λc=>set.getD c eQ)=P;have hPc:∀c,set.getD c eQ=P c:=λc=>by rw[<-hP]
 refine cy (λs:J cA×Int×J Bool=>∃c:Nat,s=(DD P c,(c:Int),set)/\c<=256/\(c<256->P c=hJ->c=0\/P (c-1)=eQ)) (λs=>256-s.2.1.toNat) ?_ F _ ⟨0,rfl,om,λ_ _=>.inl rfl⟩ aR;rintro s ⟨c,rfl,hc,hst⟩;have hdl:=acg P c;by_cases Lh:c<256
 ·left;cases hb:P c with
  | false=>refine⟨(DD P (c+1),((c+1:Nat):Int),set),⟨c+1,rfl,om,λ_ _=>.inr (by simpa using hb)⟩,aR,λrc=>?_⟩;dsimp only;rw[cq om,wA om om om,cg,hPc,hb,bW om];show rc _=_;rw[DD,hb,aJ]
  | true=>
   have h0:=hst Lh hb;obtain⟨k,k1,k2,k3⟩:=aj5 P (255-c) c om hb;have hrun:=aj4 P c h0 k k2;refine⟨(DD P (c+k+1),((c+k+1:Nat):Int),set),⟨c+k+1,rfl,om,λh1 h2=>?_⟩,aR,λrc=>?_⟩
   ·simp_all
   ·dsimp only;rw[cq om,wA om om om,cg,hPc,hb,ia,aJ];refine cy (λs:Int×J Bool=>∃j:Nat,s=(((c+j:Nat):Int),set)/\j<=k) (λs=>256-s.1.toNat) ?_ F _ ⟨0,rfl,om⟩ aR;rintro s ⟨j,rfl,hj⟩;by_cases hjk:j<k
    ·left;refine⟨(((c+(j+1):Nat):Int),set),⟨j+1,rfl,om⟩,aR,λbD=>?_⟩;dsimp only;rw[cq om,bW om,wA om om om,aE];grind
    ·right;obtain rfl:j=k:=om;intro bD;dsimp only;have e:(cond (eK (((c+j:Nat):Int)<255)) (rq ((eK (0<=aD (((c+j:Nat):Int)+1)))&&((eK (aD (((c+j:Nat):Int)+1)<256))&&(eK (aD (((c+j:Nat):Int)+1)<(Ts set:Int))))) (iN (set.getD (eJ (aD (((c+j:Nat):Int)+1))) eQ,set))) (iN (eQ,set)):O (Bool×J Bool))=iN (eQ,set):=by
      by_cases awd:c+j<255
      ·rw[cq om,bW om,wA om om om,cg,hPc];grind
      ·rw[cf om]
     rw[e,aE];dsimp only;rw[aJ,ahL om,ahL om,dD aR om,bW om,hrun]
 grind
def BL(l:J cA)(b:Int):Bool:=l.any λs=>eK (s.qu<=b)&&eK (b<=s.kA)
theorem atF(F:Nat)(l:J cA)(b:Int)(hF:Ts l<F)(hl:Ts l<50000000):xw F l b=iN (BL l b):=by
 unfold xw wx;rw[oK l (λi=>(i:Int)) (λs=>eK (s.qu<=b)&&eK (b<=s.kA)) (λ_ _=>iN hJ) (iN eQ) hF (by rfl) (λi h rc=>?_) (λrc=>?_),Dq]
 ·rw[aH,cI];rfl
 ·rw[cq om,bC h,bC h,cg,gd h,aH,aE,cF,bW om]
 ·rw[cf om]
theorem HT(F:Nat)(l:J cA)(hF:Ts l+300<F)(hl:Ts l<50000000):Js F l=iN (DD (λc=>BL l (c:Int)) 256):=by
 generalize hP:(λc:Nat=>BL l (c:Int))=P;have hPc:∀c:Nat,BL l (c:Int)=P c:=λc=>by rw[<-hP]
 refine cy (λs=>∃c:Nat,s=((c:Int),DD P c)/\c<=256) (λs=>256-s.1.toNat) ?_ F _ ⟨0,rfl,om⟩ aR;rintro s ⟨c,rfl,hc⟩;have hdl:=acg P c;by_cases Lh:c<256
 ·left;refine⟨(((c+1:Nat):Int),DD P (c+1)),⟨c+1,rfl,om⟩,aR,λrc=>?_⟩;dsimp only;rw[cq om,ahL Lh,atF F l _ om hl,aE,hPc,bW om,DD];cases hb:P c with
  | false=>rfl|true=>
   rw[ia,aJ,aU,exD];by_cases h0:0<Ts (DD P c)
   ·have hm:(DD P c).getD (Ts (DD P c)-1) fU∈DD P c:=by grind
    obtain⟨q,q1,q2,q3⟩:=XN P c _ hm;rw[cq om,uQ om h0,bC om,aE,cg,dT h0,Kn];dsimp only;rw[q2,bL (x:=(q:Int)) om,bW om,show((q:Int)+1==(c:Int))=(((q+1:Nat):Int)==(c:Int))from rfl];cases (((q+1:Nat):Int)==(c:Int))with|true=>rw[aU,aU,bC om]|false=>rw[aJ,aJ,dD aR om]
   ·rw[cf om,aE,dF h0,UX];rw[aJ,aJ,dD aR om]
 grind
def RS(set:J Bool)(sp:J cA):Prop:=Ts set=256/\∀c:Nat,c<256->set.getD c eQ=BL sp (c:Int)
theorem RL(a b:J cA)(c:Int):BL (a++b) c=(BL a c||BL b c):=by unfold BL;rw[List.any_append]
theorem T8{st:J Bool}(h:k<Ts st)(c:Nat):(st.set k hJ).getD c eQ=(st.getD c eQ||c==k):=by grind
theorem aj6:∀k:Fin 8,∀b:Fin 256,ov 0 (CL.getD k.val qM).fname (b.val:Int)=iN (BL (CL.getD k.val qM).tP (b.val:Int)):=by decide +kernel
theorem aj7(F:Nat){c:nt}(hc:c∈CL){b:Nat}(hb:b<256):ov F c.fname (b:Int)=iN (BL c.tP (b:Int)):=by obtain⟨k,hk,rfl⟩:=lH hc;have:=aj6 ⟨k,by rw[<-Vn];exact hk⟩ ⟨b,hb⟩;rw[gd hk]at this;exact this
def ach(run:J Int)(c:nt):Bool:=run==cY c.fname
theorem aeS(n:Bs)(h:isName n=hJ):∃c∈CL,CL.find? (ach (cY n))=iN c/\c.fname=n:=by
 unfold isName at h;simp at h;rcases h with rfl|rfl|rfl|rfl|rfl|rfl|rfl|rfl
 ·exact⟨CL.getD 0 qM,by decide,by decide,by decide⟩
 ·exact⟨CL.getD 1 qM,by decide,by decide,by decide⟩
 ·exact⟨CL.getD 2 qM,by decide,by decide,by decide⟩
 ·exact⟨CL.getD 3 qM,by decide,by decide,by decide⟩
 ·exact⟨CL.getD 4 qM,by decide,by decide,by decide⟩
 ·exact⟨CL.getD 5 qM,by decide,by decide,by decide⟩
 ·exact⟨CL.getD 6 qM,by decide,by decide,by decide⟩
 ·exact⟨CL.getD 7 qM,by decide,by decide,by decide⟩
theorem MB:∀c∈CL,isName c.fname=hJ/\c.fname.length=5/\∀b∈c.fname,97<=b.toNat/\b.toNat<=122:=by decide
theorem Zk(x:J fI)(i:Nat):cY (cx (kN x i))=kN x i:=by
 unfold cY cx;rw[Av]
 conv=>rhs;rw[<-Rq (kN x i)]
 refine ag6 λv hv=>?_;obtain⟨e,he,rfl⟩:=lI.1 hv;have hl:=List.all_takeWhile (p:=Ds) (l:=x.drop i);have:=pP.1 hl e he;unfold Ds at this;grind[UInt8.toNat_ofNat']
theorem ahM(x:J fI)(i:Nat):(∃c∈CL,CL.find? (λc=>yA x i ((([91,58]:Bs)++c.fname)++([58,93]:Bs)))=iN c/\zE x i=(c.fname,((i+9:Nat):Int),hJ)/\i+9<=Ts x) \/
  (CL.find? (λc=>yA x i ((([91,58]:Bs)++c.fname)++([58,93]:Bs)))=iF/\(zE x i).2.2=eQ):=by
 have hp:∀c∈CL,yA x i ((([91,58]:Bs)++c.fname)++([58,93]:Bs))=((dZ x i 91&&dZ x (i+1) 58)&&((dZ x (i+2+Ts (kN x (i+2))) 58&&dZ x (i+2+Ts (kN x (i+2))+1) 93)&&ach (kN x (i+2)) c)):=λc hc=>ahK x i c.fname (MB c hc).2.1 (MB c hc).2.2;cases hA:(dZ x i 91&&dZ x (i+1) 58)with
 | false=>right;refine⟨?_,by unfold zE;rw[hA];rfl⟩;simp_all|true=>
  cases hB:(dZ x (i+2+Ts (kN x (i+2))) 58&&dZ x (i+2+Ts (kN x (i+2))+1) 93)with
  | false=>right;refine⟨?_,by unfold zE;rw[hA,hB];rfl⟩;simp_all|true=>
   cases hN:isName (cx (kN x (i+2)))with
   | true=>
    left;obtain⟨c,h1,h2,h3⟩:=aeS _ hN;rw[Zk]at h2;have hlen:(kN x (i+2)).length=5:=by grind[MB,cY,cx,List.length_map,Zk]
    refine⟨c,h1,?_,?_,?_⟩
    ·have:∀(L:J nt),(∀c∈L,c∈CL)->L.find? (λc=>yA x i ((([91,58]:Bs)++c.fname)++([58,93]:Bs)))=L.find? (ach (kN x (i+2))):=by
      intro L
      induction L with|nil=>intro _;rfl|cons a L ih=>grind
     simp_all
    ·unfold zE;grind
    ·have h8:=aj1 (cK _ _▸hB:_/\_).2;omega
   | false=>right;refine⟨?_,by unfold zE;rw[hA,hB,hN];rfl⟩;rw[List.find?_eq_none];intro c hc;rw[hp c hc,hA,hB];simp;cases hq:ach (kN x (i+2)) c with|false=>rfl|true=>unfold ach at hq;simp_all[Mx,MB]
theorem aj8(F:Nat)(x:J fI)(i:Nat)(set:J Bool)(sp:J cA)(hF:Ts x+1000<F)(hx:Ts x<50000000)(hc:Pe x)(hi:i<Ts x)(hR:RS set sp):
  ∃(e:Nat)(set':J Bool)(sp':J cA),mN F x (i:Int) set=iN ((e:Int),set')/\qV F (x.map Ju) (i:Int)=iN (sp',(e:Int))/\RS set' (sp++sp')/\i<e/\e<=Ts x/\sp'.length<=4:=by
 obtain⟨hs,hR⟩:=hR;have hw1:aD ((i:Int)+1)=((i+1:Nat):Int):=bW om;have xu:aD ((i:Int)+2)=((i+2:Nat):Int):=by grind[bL]
 have Zg:aD ((i:Int)+3)=((i+3:Nat):Int):=by grind[bL]
 have hml:(x.map Ju).length=Ts x:=jh _;have hfb:∀k,k<Ts x->((x.map Ju).getD k jD).fb=(x.getD k cU).fb:=λk hk=>by rw[gd (l:=x.map Ju) (by rw[hml];exact hk),Md,gd hk];rfl
 have amw:qV F (x.map Ju) (i:Int)=(CL.find? (λc=>yA x i ((([91,58]:Bs)++c.fname)++([58,93]:Bs)))).elim
   (cond (cond (cond (dZ x (i+1) 45) (eK (i+2<Ts x)) eQ) (!dZ x (i+2) 93) eQ)
    (cond (eK ((x.getD i cU).fb<=(x.getD (i+2) cU).fb)) (iN ([cA.mk (x.getD i cU).fb (x.getD (i+2) cU).fb],((i+3:Nat):Int))) (iN ([],((i+3:Nat):Int))))
    (iN ([cA.mk (x.getD i cU).fb (x.getD i cU).fb],((i+1:Nat):Int)))) λc=>iN (c.tP,((i+9:Nat):Int)):=by
  unfold qV wx;rw[aoy,aE]
  rw[oK CL (λi=>(i:Int)) (λc=>yA x i ((([91,58]:Bs)++c.fname)++([58,93]:Bs))) (λ_ c=>iN (c.tP,((i+9:Nat):Int))) (cond (cond (cond (dZ x (i+1) 45) (eK (i+2<Ts x)) eQ) (!dZ x (i+2) 93) eQ)
    (cond (eK ((x.getD i cU).fb<=(x.getD (i+2) cU).fb)) (iN ([cA.mk (x.getD i cU).fb (x.getD (i+2) cU).fb],((i+3:Nat):Int))) (iN ([],((i+3:Nat):Int))))
    (iN ([cA.mk (x.getD i cU).fb (x.getD i cU).fb],((i+1:Nat):Int)))) (by rw[Vn];omega) (by rfl) (λk hk rc=>?_) (λrc=>?_),Jj]
  ·have hm:=ahA _ (fm hk);have hk8:k<8:=by rw[<-Vn];exact hk
   rw[cq om,bC hk,cg,gd hk,bW om];generalize CL[k]=c at hm;have hl:((([91,58]:Bs)++c.fname)++([58,93]:Bs)).length=9:=by simp;omega
   grind[aD,bL,kK,apB,bC]
  ·rw[cf om,bC om,hw1,xu,Zg,jV,jZ,aE,jV,jZ,aH,aE,aE,aH,aE,hml];rw[show eK (((i+2:Nat):Int)<(Ts x:Int))=eK (i+2<Ts x)from decide_eq_decide.2 om];cases h4:cond (cond (dZ x (i+1) 45) (eK (i+2<Ts x)) eQ) (!dZ x (i+2) 93) eQ with
   | false=>simp_all|true=>
    have h5:i+2<Ts x:=by simp_all
    rw[aU,aU,ck om om,cg,cg,hfb i hi,hfb (i+2) h5]
 rw[amw];have hb:=hc.at hi;rcases ahM x i with⟨c,hcm,hfind,hcl,h9⟩|⟨hfind,hcl⟩
 ·rw[hfind];refine(λ(h:∃st:J Bool,Ts st=256/\(∀b:Nat,b<256->st.getD b eQ=(set.getD b eQ||BL c.tP (b:Int)))/\mN F x (i:Int) set=iN (((i+9:Nat):Int),st))=>?_) ?_
  ·obtain⟨st,h1,h2,h3⟩:=h;exact⟨i+9,st,c.tP,h3,rfl,⟨h1,λb hb=>by simp_all[RL]⟩,om,h9,(ahA c hcm).2⟩
  ·unfold mN wx;rw[(T4 F x i om om).resolve_right om,hcl,aE,aU]
   obtain⟨r,⟨st,h1,h2,rfl⟩,h3⟩:∃r:Int×J Bool,(∃st:J Bool,Ts st=256/\(∀b:Nat,b<256->st.getD b eQ=(set.getD b eQ||BL c.tP (b:Int)))/\r=(((i+9:Nat):Int),st))/\(bX (σ:=Int×(J Bool)) (R:=Int×(J Bool)) (λiI x2=>
     cond (eK (x2.1<256))
     ((ov F c.fname x2.1).bind λx4=>
     cond x4
     (rq ((eK (0<=x2.1))&&((eK (x2.1<256))&&(eK (x2.1<(Ts x2.2:Int))))) (iI (aD (x2.1+1),x2.2.set (eJ x2.1) hJ)))
     (iI (aD (x2.1+1),x2.2)))
     (iN (((i+9:Nat):Int),x2.2))) F (0,set))=iN r:=by
    refine eH _ (λs:Int×J Bool=>∃k:Nat,s.1=(k:Int)/\k<=256/\s.2.length=256/\∀b:Nat,s.2.getD b eQ=(set.getD b eQ||(eK (b<k)&&BL c.tP (b:Int)))) (λs=>256-s.1.toNat) ?_ F _ ⟨0,rfl,om,hs,λb=>by simp⟩ aR;rintro⟨ii,st⟩ ⟨k,h0,hk,hl,hst⟩ rc hrc;dsimp only at h0 hl hst⊢;subst h0;by_cases hk:k<256
    ·rw[cq om,aj7 F hcm hk,aE,bW om];cases hin:BL c.tP (k:Int)with|true=>rw[aU,wA om om om,cg];refine hrc _ ⟨k+1,rfl,om,by simpa using hl,λb=>?_⟩ aR;dsimp only;rw[T8 om,hst b];grind|false=>refine hrc _ ⟨k+1,rfl,om,hl,λb=>?_⟩ aR;grind
    grind
   simp_all
 ·rw[hfind];show ∃(e:Nat)(set':J Bool)(sp':J cA),_/\(cond _ _ _)=_/\_;unfold mN wx;rw[(T4 F x i om om).resolve_right om,aE,hcl,aJ,hw1,xu,Zg,fT,aE,fT,aH,aE];have e1:cond (dZ x (i+1) 45) (eK (((i+2:Nat):Int)<(Ts x:Int)),set) (eQ,set)=((cond (dZ x (i+1) 45) (eK (i+2<Ts x)) eQ),set):=by grind
  rw[e1];dsimp only;rw[aE,aH,aE];have e2:∀a b:Bool,cond a (b,set) (eQ,set)=(cond a b eQ,set):=by simp_all
  rw[e2];dsimp only;cases h4:cond (cond (dZ x (i+1) 45) (eK (i+2<Ts x)) eQ) (!dZ x (i+2) 93) eQ with
  | false=>rw[aJ,aJ,bC hi,cg,wA om om om];refine⟨i+1,_,_,rfl,rfl,⟨by simpa using hs,λb nP=>?_⟩,om,om,si⟩;rw[T8 om,hR b nP,RL];congr 1;unfold BL;grind|true=>
   have h5:i+2<Ts x:=by simp_all
   have nP:=hc.at h5;rw[aU,aU,bC hi,cg,cg,bL (x:=(x.getD i cU).fb) om,bL (x:=(x.getD (i+2) cU).fb) om];generalize(x.getD i cU).fb=lo at hb;generalize(x.getD (i+2) cU).fb=hi2 at nP
   obtain⟨r,⟨st,h1,h2,rfl⟩,h3⟩:∃r:Int×J Bool,(∃st:J Bool,Ts st=256/\(∀b:Nat,b<256->st.getD b eQ=(set.getD b eQ||(eK (lo<=(b:Int))&&eK ((b:Int)<=hi2))))/\r=(((i+3:Nat):Int),st))/\(bX (σ:=Int×(J Bool)) (R:=Int×(J Bool)) (λT9 x9=>
     rq ((eK (0<=((i+2:Nat):Int)))&&(eK (((i+2:Nat):Int)<(Ts x:Int)))) (cond (eK (x9.1<=hi2))
     (rq ((eK (0<=x9.1))&&((eK (x9.1<256))&&(eK (x9.1<(Ts x9.2:Int))))) (T9 (aD (x9.1+1),x9.2.set (eJ x9.1) hJ)))
     (iN (((i+3:Nat):Int),x9.2)))) F (lo,set))=iN r:=by
    refine eH _ (λs:Int×J Bool=>lo<=s.1/\s.1<=256/\s.2.length=256/\(∀v:Int,lo<=v->v<s.1->v<=hi2)/\∀b:Nat,s.2.getD b eQ=(set.getD b eQ||(eK (lo<=(b:Int))&&eK ((b:Int)<s.1)))) (λs=>256-s.1.toNat) ?_ F _ ⟨abd _,om,hs,λv h1 h2=>om,λb=>by
     grind⟩ aR
    rintro⟨ii,st⟩ ⟨h6,h7,hl,hv,hst⟩ rc hrc;dsimp only at h6 h7 hl hv hst⊢;rw[bC h5];by_cases hle:ii<=hi2
    ·rw[cq hle,wA om om om,bL om];refine hrc _ ⟨by dsimp only;omega,by dsimp only;omega,by simpa using hl,λv h1 h2=>by dsimp only at h2;omega,λb=>?_⟩ (by dsimp only;omega);dsimp only;rw[T8 om,hst b,Bool.or_assoc];grind
    grind
   by_cases hlh:lo<=hi2
   ·rw[cq hlh];refine⟨i+3,st,[cA.mk lo hi2],h3,rfl,⟨h1,λb hb3=>?_⟩,om,om,si⟩;rw[h2 b hb3,hR b hb3,RL];congr 1;unfold BL;simp
   ·rw[cf hlh];refine⟨i+3,st,[],h3,rfl,⟨h1,λb hb3=>?_⟩,om,om,si⟩;rw[h2 b hb3,hR b hb3,RL];congr 1;unfold BL;grind
theorem Pj{σ τ R:Type}{b1:(σ->O R)->σ->O R}{b2:(τ->O R)->τ->O R}(P:σ->τ->Prop)(m:σ->Nat)
  (hs:∀s t,P s t->(∃s' t',P s' t'/\m s'<m s/\(∀rc,b1 rc s=rc s')/\∀rc,b2 rc t=rc t')\/∃z,(∀rc,b1 rc s=iN z)/\∀rc,b2 rc t=iN z) :
  ∀(F1 F2:Nat)(s:σ)(t:τ),P s t->m s<F1->m s<F2->∃z,bX b1 F1 s=iN z/\bX b2 F2 t=iN z
 | 0,_,s,t,_,h,_=>by omega|_+1,0,s,t,_,_,h=>by omega|F1+1,F2+1,s,t,hP,h1,h2=>by
  show ∃z,b1 (bX b1 F1) s=iN z/\b2 (bX b2 F2) t=iN z;rcases hs s t hP with⟨s',t',g1,g2,g3,g4⟩|⟨z,g1,g2⟩
  ·rw[g3,g4];exact Pj P m hs F1 F2 s' t' g1 om om
  simp_all
theorem aci{P Q:Nat->Bool}:∀k,(∀c,c<k->P c=Q c)->DD P k=DD Q k|0,_=>rfl|k+1,h=>by unfold DD;rw[aci k λc hc=>h c om,h k om]
theorem ahN(F:Nat)(x:J fI)(i:Nat)(hF:4*Ts x+1000<F)(hx:Ts x<12000000)(hc:Pe x)(hi:i<Ts x):∃z,lR F x (i:Int)=iN z/\sx F (x.map Ju) (i:Int)=iN z:=by
 have hml:(x.map Ju).length=Ts x:=jh _;have hw1:aD ((i:Int)+1)=((i+1:Nat):Int):=bW om;unfold lR sx wx;rw[hw1,fT,aE,fT,aE,aH,aE,bW om,aH,aE,jV,jZ,aE,jV,jZ,aE,aH,aE,aH,aE];generalize hneg:cond (dZ x (i+1) 33) hJ (dZ x (i+1) 94)=neg;obtain⟨s0,hs0,hs1,hs2,hy⟩:∃s0:Nat,cond neg (((i+1+1:Nat):Int)) ((i+1:Nat):Int)=(s0:Int)/\i<s0/\s0<=i+2/\cond neg (((i+1+1:Nat):Int),(aC.mk 4 [] eQ []).fKind,(aC.mk 4 [] eQ []).fText,hJ,(aC.mk 4 [] eQ []).cL) (((i+1:Nat):Int),(aC.mk 4 [] eQ []).fKind,(aC.mk 4 [] eQ []).fText,(aC.mk 4 [] eQ []).BK,(aC.mk 4 [] eQ []).cL)=((s0:Int),4,[],neg,[]):=by
  cases neg
  ·grind
  ·exact⟨i+2,rfl,om,om,rfl⟩
 rw[hs0,hy]
 refine Pj (λ(s:Int×Bool×J Bool)(t:Int×J cA×Bool)=>∃(k:Nat)(fi:Bool)(set:J Bool)(sp:J cA),s=((k:Int),fi,set)/\t=((k:Int),sp,fi)/\i<k/\k<=Ts x+2/\RS set sp/\sp.length<=4*k) (λs=>Ts x+2-s.1.toNat) ?_ F F _ _ ⟨s0,hJ,_,_,rfl,rfl,hs1,om,⟨si,λc h=>by
  rw[U0,List.getElem?_replicate];simp[h,BL]⟩,si⟩ aR aR
 rintro _ _ ⟨k,fi,set,sp,rfl,rfl,hk,hk2,hR,hl⟩;dsimp only;by_cases wD:k<Ts x
 ·have e2:cond (dZ x k 93) (!fi,set) (eQ,set)=((dZ x k 93 && !fi),set):=by cases dZ x k 93<;>rfl
  cases h4:(dZ x k 93 && !fi)with
  | true=>
   right;have h5:cond fi hJ (!dZ x k 93)=eQ:=by simp_all
   refine⟨(aC.mk 4 [] neg (DD (λc=>set.getD c eQ) 256),((k+1:Nat):Int),hJ),λrc=>?_,λrc=>?_⟩
   ·rw[cq om,fT,aE,aH,aE,e2,h4];rw[aU,cE (by rw[hR.1];rfl),amv F set om hR.1,aE,bW om]
   ·rw[jV,jZ,aE,aH,hml,cq (show(k:Int)<(Ts x:Int) by omega),aE,h5,aJ,cf (show ¬ (Ts x:Int)<=(k:Int) by omega),HT F sp om om,aE,bW om];rw[aci 256 λc hc=>(hR.2 c hc).symm]
  | false=>
   left;have h5:cond fi hJ (!dZ x k 93)=hJ:=by grind
   obtain⟨e,set',sp',g1,g2,g3,g4,g5,g6⟩:=aj8 F x k set sp om om hc wD hR;refine⟨_,_,⟨e,eQ,set',sp++sp',rfl,rfl,om,om,g3,by grind⟩,aR,λrc=>?_,λrc=>?_⟩
   ·simp_all[cq,fT,aE,aH,aJ]
   ·rw[jV,jZ,Option.bind_some,aH,hml,cq (show(k:Int)<(Ts x:Int) by omega),Option.bind_some,h5,cond_true,g2,Option.bind_some,dD (by dsimp only;omega) om]
 ·right;simp_all[cf,jV,jZ,aE,aH,aJ,cq]
theorem Vt(F:Nat)(l:J aB)(hF:Ts l<F)(qT:4*bV l+1000<F)(h1:Ts l<1000000000)(h2:bV l<=10000000):∃p,eR F l=iN p/\gC F l=iN p:=by
 unfold eR gC wx;rw[HQ F l hF om h1 om,Ea F l hF om h1 om,aE,aE,atE];have hx:(l.flatMap qb).length<=bV l:=HO _ RH _;have hc:=T3 l;generalize(l.flatMap qb)=x at hx hc;have hml:(x.map Ju).length=Ts x:=jh _;refine Pj (λ(s t:J aC×Int)=>s=t/\∃k:Nat,s.2=(k:Int)/\k<=Ts x/\s.1.length<=k) (λs=>Ts x-s.2.toNat) ?_ F F _ _ ⟨rfl,0,rfl,om,si⟩ aR aR;rintro⟨acc,ii⟩ _ ⟨rfl,k,h0,hk,ha⟩;dsimp only at h0 ha⊢;subst h0;have hex:∀a b:Int,a≠b->dZ x k a=hJ->dZ x k b=eQ:=by grind[AU]
 have hfb:k<Ts x->((x.map Ju).getD k jD).fb=(x.getD k cU).fb:=λhk=>by rw[gd (l:=x.map Ju) (by rw[hml];exact hk),Md,gd hk];rfl
 by_cases wD:k<Ts x
 ·left;have hc1:∀(it:aC),(eK (Ts acc+Ts ([it]:J aC)<=9223372036854775807)&&eK ((Ts acc+Ts ([it]:J aC))*56<=140737488355328))=hJ:=λit=>oV aR om;cases S4:dZ x k 91 with
  | true=>
   have S5:=hex 91 42 de S4;have h63:=hex 91 63 de S4;obtain⟨z,z1,z2⟩:=ahN F x k om om hc wD;obtain⟨r,r1,r2⟩:=Kw F x k om om hc wD;have hzr:z=r:=pO (z1.symm.trans r2);subst hzr;cases hz:z.2.2 with
   | true=>
    obtain⟨-,e,g2,g3,g4⟩:=r1 hz;refine⟨(acc++[z.1],(e:Int)),(acc++[z.1],(e:Int)),⟨rfl,e,rfl,g4,aR⟩,aR,λrc=>?_,λrc=>?_⟩
    ·rw[cq om,fT,aE,S4,aU,z1,aE,hz,aU,cE (hc1 _),g2];cases h:rc (acc++[z.1],(e:Int))<;>rfl
    ·rw[hml,cq om,jV,jZ,aE,S5,aJ,jV,jZ,aE,h63,aJ,jV,jZ,aE,S4,aU,z2,aE,hz,aU,cE (hc1 _),g2];cases h:rc (acc++[z.1],(e:Int))<;>rfl
   | false=>
    refine⟨(acc++[aC.mk 1 (cx [(x.getD k cU).fb]) eQ []],((k+1:Nat):Int)),_,⟨rfl,k+1,rfl,om,aR⟩,aR,λrc=>?_,λrc=>?_⟩
    ·rw[cq om,fT,aE,S4,aU,z1,aE,hz,aJ];show((fy F x (k:Int) 42).bind _)=_;rw[fT,aE,S5,aJ,fT,aE,h63,aJ,bC wD,cE (hc1 _),bW om,cg]
    ·rw[hml,cq om,jV,jZ,aE,S5,aJ,jV,jZ,aE,h63,aJ,jV,jZ,aE,S4,aU,z2,aE,hz,aJ];show rq _ (rq _ (rc _))=_;grind[bC,cE,bW,Int.toNat_natCast]
  | false=>
   cases S5:dZ x k 42 with
   | true=>
    refine⟨(acc++[aC.mk 3 [] eQ []],((k+1:Nat):Int)),_,⟨rfl,k+1,rfl,om,aR⟩,aR,λrc=>?_,λrc=>?_⟩
    ·rw[cq om,fT,aE,S4,aJ];show((fy F x (k:Int) 42).bind _)=_;rw[fT,aE,S5,aU,cE (hc1 _),bW om]
    ·rw[hml,cq om,jV,jZ,aE,S5,aU,cE (hc1 _),bW om]
   | false=>
    cases h63:dZ x k 63 with
    | true=>
     refine⟨(acc++[aC.mk 2 [] eQ []],((k+1:Nat):Int)),_,⟨rfl,k+1,rfl,om,aR⟩,aR,λrc=>?_,λrc=>?_⟩
     ·rw[cq om,fT,aE,S4,aJ];show((fy F x (k:Int) 42).bind _)=_;rw[fT,aE,S5,aJ,fT,aE,h63,aU,cE (hc1 _),bW om]
     ·rw[hml,cq om,jV,jZ,aE,S5,aJ,jV,jZ,aE,h63,aU,cE (hc1 _),bW om]
    | false=>
     refine⟨(acc++[aC.mk 1 (cx [(x.getD k cU).fb]) eQ []],((k+1:Nat):Int)),_,⟨rfl,k+1,rfl,om,aR⟩,aR,λrc=>?_,λrc=>?_⟩
     ·rw[cq om,fT,aE,S4,aJ];show((fy F x (k:Int) 42).bind _)=_;rw[fT,aE,S5,aJ,fT,aE,h63,aJ,bC wD,cE (hc1 _),bW om,cg]
     ·rw[hml,cq om,jV,jZ,aE,S5,aJ,jV,jZ,aE,h63,aJ,jV,jZ,aE,S4,aJ];show rq _ (rq _ (rc _))=_;grind[bC,cE,bW,Int.toNat_natCast]
 simp_all[cf]
theorem MC{σ τ R S:Type}{b1:(σ->O R)->σ->O R}{b2:(τ->O S)->τ->O S}(Q:O R->O S->Prop)(P:σ->τ->Prop)(m:σ->Nat)
  (hs:∀s t,P s t->∀rc1 bD,(∀s' t',P s' t'->m s'<m s->Q (rc1 s') (bD t'))->Q (b1 rc1 s) (b2 bD t)) :
  ∀(F1 F2:Nat)(s:σ)(t:τ),P s t->m s<F1->m s<F2->Q (bX b1 F1 s) (bX b2 F2 t)
 | 0,_,s,t,_,h,_=>by omega|_+1,0,s,t,_,_,h=>by omega|F1+1,F2+1,s,t,hP,h1,h2=>hs s t hP (bX b1 F1) (bX b2 F2) λs' t' g1 g2=>MC Q P m hs F1 F2 s' t' g1 om om
theorem EL(F:Nat)(p:J aC)(hF:Ts p+300<F)(hp:Ts p<50000000)(hit:∀it∈p,ko it):ju F p=kR F p:=by
 unfold ju kR wx;refine MC (λa b=>a=b) (λs t=>s=t/\∃k:Nat,s=(k:Int)/\k<=Ts p) (λs=>Ts p-s.toNat) ?_ F F _ _ ⟨rfl,0,rfl,om⟩ aR aR;rintro _ _ ⟨rfl,k,rfl,hk⟩ rc1 bD hrc;by_cases hk:k<Ts p
 ·have hI:=hit _ (fm hk);rw[cq (show(k:Int)<(Ts p:Int) by omega),cq (show(k:Int)<(Ts p:Int) by omega),bC hk,bC hk,cg,gd hk];generalize p[k]=it at hI;have hl:=hI.2.2;obtain⟨c,hc⟩:=Du F it.cL om om;have hnext:=hrc ((k+1:Nat):Int) ((k+1:Nat):Int) ⟨rfl,k+1,rfl,om⟩ aR;simp only[aH,aE,hc];rw[bW om];cases (cond (cond (eK (it.fKind<1)) hJ (eK (4<it.fKind))) hJ ((Ts it.fText:Int) != cond (it.fKind==1) 1 0))with
  | true=>rfl|false=>
   rw[aJ,aJ];cases (cond (it.fKind != 4) (cond it.BK hJ (eK (0<(Ts it.cL:Int)))) eQ)with
   | true=>rfl|false=>
    rw[aJ,aJ]
    have hin:∀A:O Bool,bX (σ:=Int) (R:=Bool) (λS6 x7=>
       cond (eK (x7<(Ts it.cL:Int)))
       (rq ((eK (0<=x7))&&(eK (x7<(Ts it.cL:Int)))) ((cond (eK ((it.cL.getD (eJ x7) fU).kA<(it.cL.getD (eJ x7) fU).qu))
       (iN hJ)
       (cond (eK (0<x7))
       (rq ((eK (0<=aD (x7-1)))&&(eK (aD (x7-1)<(Ts it.cL:Int)))) (iN (eK (aD ((it.cL.getD (eJ x7) fU).qu)<=aD ((aD ((it.cL.getD (eJ (aD (x7-1))) fU).kA))+1)))))
       (iN eQ)):O Bool).bind λx9=>
       cond x9
       (iN eQ)
       (S6 (aD (x7+1)))))
       A) F 0=cond c A (iN eQ):=by
     intro A;have Lh:=hc;unfold pq wx at Lh;have hsw:∀(a b:O Bool),b=iN c->(∃c',b=iN c'/\a=cond c' A (iN eQ))->a=cond c A (iN eQ):=by simp_all
     refine hsw _ _ Lh (MC (λa b=>∃c',b=iN c'/\a=cond c' A (iN eQ)) (λ(s t:Int)=>s=t/\∃j:Nat,s=(j:Int)/\j<=Ts it.cL) (λs=>Ts it.cL-s.toNat) ?_ F F 0 0 ⟨rfl,0,rfl,om⟩ aR aR);rintro s t hst rcA rcB hAB
     ·obtain⟨rfl,j,rfl,hj⟩:=hst;by_cases hj:j<Ts it.cL
      ·have e:∃b,(cond (eK ((it.cL.getD (eJ (j:Int)) fU).kA<(it.cL.getD (eJ (j:Int)) fU).qu)) (iN hJ) (cond (eK (0<(j:Int))) (rq ((eK (0<=aD ((j:Int)-1)))&&(eK (aD ((j:Int)-1)<(Ts it.cL:Int)))) (iN (eK (aD ((it.cL.getD (eJ (j:Int)) fU).qu)<=aD ((aD ((it.cL.getD (eJ (aD ((j:Int)-1))) fU).kA))+1))))) (iN eQ)):O Bool)=iN b:=by
        by_cases h0:0<j
        ·rw[uQ om h0,cq (show(0:Int)<(j:Int) by omega),ck om om,aH];exact⟨_,rfl⟩
        grind
       obtain⟨b,hb⟩:=e;rw[cq (show(j:Int)<(Ts it.cL:Int) by omega),cq (show(j:Int)<(Ts it.cL:Int) by omega),bC hj,bC hj];simp only[bC hj];rw[hb,aE,aE,bW om];cases b with|true=>grind|false=>exact hAB _ _ ⟨rfl,j+1,rfl,om⟩ aR
      grind
    simp_all
 grind
def BM(p:J aC):Bs:=p.flatMap λit=>it.fText
def AV(it:aC):Bool:=it.fKind==1
def Pk(p:J aC)(b:Bool):Bs×Bool:=cond (p.all AV&&b) (BM p,hJ) ([],eQ)
theorem XO:∀(p:J aC),(∀it∈p,ko it)->Ts (BM p)<=10*Ts p|[],_=>by simp[BM]|it::p,h=>by have ih:=XO p λx hx=>h x (by simp[hx]);have:=(h it si).2.1;unfold BM at *;simp only[vZ,nX,qi];omega
theorem acj(p:J aC)(k:Nat)(h:k<Ts p):BM (p.take (k+1))=BM (p.take k)++p[k].fText:=by unfold BM;grind[List.take_succ_eq_append_getElem]
theorem afZ{p:J aC}(h:k<Ts p)(hb:AV p[k]=eQ):p.all AV=eQ:=by grind
theorem ack{p:J aC}(h:∀k,∀hk:k<Ts p,AV p[k]=hJ):p.all AV=hJ:=by grind[List.all_eq_true,List.getElem_of_mem]
theorem aeT(F:Nat)(p:J aC)(hF:Ts p+300<F)(hp:Ts p<50000000)(hit:∀it∈p,ko it){b:Bool}(hb:kR F p=iN b):kS F p=iN (Pk p b):=by
 refine cy (λs=>∃k:Nat,s=(BM (p.take k),(k:Int))/\k<=Ts p/\∀j,j<k->∀hj:j<Ts p,AV p[j]=hJ) (λs=>Ts p-s.2.toNat) ?_ F _ ⟨0,rfl,om,λj h=>om⟩ aR;rintro s ⟨k,rfl,hk,hj⟩;dsimp only;have htl:=XO (p.take k) λit h=>hit it (Mh h);have htk:(p.take k).length=k:=by simp_all
 by_cases hk:k<Ts p
 ·have hI:=(hit _ (fm hk)).2.1;cases hby:AV p[k]with
  | false=>
   right;intro rc;have hne:(p[k].fKind != 1)=hJ:=by unfold AV at hby;simp[bne,hby]
   rw[cq om,bC hk,cg,gd hk,hne,Pk,afZ hk hby];rfl
  | true=>
   left;refine⟨(BM (p.take (k+1)),((k+1:Nat):Int)),⟨k+1,rfl,om,λj h1 h2=>?_⟩,aR,λrc=>?_⟩
   ·grind
   ·have hne:(p[k].fKind != 1)=eQ:=by unfold AV at hby;simp[bne,hby]
    rw[cq om,bC hk,bC hk,cg,gd hk,hne,aJ,ab3 om,bW om,acj p k hk]
 ·right;obtain rfl:k=Ts p:=om;intro rc;rw[cf om,hb,Pk,ack (λj h=>hj j h h),s7];cases b<;>rfl
theorem S7(F:Nat)(p:J aC)(hF:Ts p+300<F)(hp:Ts p<50000000)(hit:∀it∈p,ko it){b:Bool}(hb:ju F p=iN b):iY F p=iN (Pk p b):=by
 unfold iY wx;rw[hb];cases b with
 | false=>unfold Pk;rw[TK];rfl|true=>
  refine cy (λs=>∃k:Nat,s=(cY (BM (p.take k)),(k:Int))/\k<=Ts p/\∀j,j<k->∀hj:j<Ts p,AV p[j]=hJ) (λs=>Ts p-s.2.toNat) ?_ F _ ⟨0,rfl,om,λj h=>om⟩ aR;rintro s ⟨k,rfl,hk,hj⟩;have htl:=XO (p.take k) λit h=>hit it (Mh h);have htk:(p.take k).length=k:=by simp_all
  have hil:∀s:Bs,Ts (cY s)=Ts s:=λs=>jh _;by_cases hk:k<Ts p
  ·have hI:=(hit _ (fm hk)).2.1;cases hby:AV p[k]with
   | false=>
    right;intro rc;have hne:(p[k].fKind != 1)=hJ:=by unfold AV at hby;simp[bne,hby]
    rw[cq om,bC hk,cg,gd hk,hne,Pk,afZ hk hby];rfl
   | true=>
    left;refine⟨(cY (BM (p.take (k+1))),((k+1:Nat):Int)),⟨k+1,rfl,om,λj h1 h2=>?_⟩,aR,λrc=>?_⟩
    ·grind
    ·have hne:(p[k].fKind != 1)=eQ:=by unfold AV at hby;simp[bne,hby]
     rw[cq om,bC hk,cg,gd hk,hne,dD (by rw[hil,hil];omega) om,bW om,acj p k hk];simp[cY]
  ·right;obtain rfl:k=Ts p:=om;intro rc;rw[cf om,Pk,ack (λj h=>hj j h h),s7,Mx];rfl
theorem S8(F:Nat)(p:J aC)(hF:Ts p+300<F)(hp:Ts p<50000000)(hit:∀it∈p,ko it):iY F p=kS F p:=by obtain⟨b,hb⟩:=Jr F p hF hp hit;rw[S7 F p hF hp hit hb,aeT F p hF hp hit (by rw[<-EL F p hF hp hit];exact hb)]
def jw(n:Nat)(f:Nat->Bool):J Bool:=(bY n).map f
theorem Dw(n:Nat)(f:Nat->Bool):(jw n f).length=n:=by unfold jw;simp
variable{n:Nat}
theorem yB(f:Nat->Bool)(h:i<n):(jw n f).getD i eQ=f i:=by unfold jw;simp_all
theorem mE{f g:Nat->Bool}(h:∀i,i<n->f i=g i):jw n f=jw n g:=by unfold jw;simp_all
theorem HU(n i:Nat)(f:Nat->Bool)(b:Bool):(jw n f).set i b=jw n (λj=>cond (j==i) b (f j)):=by unfold jw;refine Bo si λj h1 h2=>?_;grind
theorem Ua(n:Nat):aT n eQ=jw n (λ_=>eQ):=by refine Bo (by simp[jw]) λj h1 h2=>?_;simp[jw]
section
variable (p : J aC) (s : Bs)
def Vu(i:Nat):aC:=p.getD i eL
def nT(i:Nat):Bool:=(Vu p i).fKind==3
def Ub(it:aC)(b:Int):Bool:=cond (it.fKind==1) (((it.fText.getD 0 0).toNat:Int)==b) (cond (it.fKind==4) (!((it.cL.any λx=>eK (x.qu<=b)&&eK (b<=x.kA))==it.BK)) hJ)
def Pm(i k:Nat):Bool:=Ub (Vu p i) ((s.getD k 0).toNat:Int)
def upE(f:Nat->Bool):Nat->Bool|0=>f 0|k+1=>f (k+1)||upE f k
def prE(f g:Nat->Bool):Nat->Bool|0=>eQ|k+1=>f k&&g k
def EE:Nat->Nat->Bool|0,k=>k==0|i+1,k=>cond (nT p i) (upE (EE i) k) (prE (EE i) (Pm p s i) k)
def EP(i k:Nat):Bool:=EE p s i k||(nT p i&&EE p s (i+1) k)
theorem af0:nT p p.length=eQ:=by unfold nT Vu;rw[U0,Ro (eo _)];rfl
theorem RM(h:nT p i=hJ)(k:Nat):EE p s (i+1) (k+1)=(EE p s i (k+1)||EE p s (i+1) k):=by rw[EE,EE,h];rfl
theorem MD(h:nT p i=hJ):EE p s (i+1) 0=EE p s i 0:=by rw[EE,h];rfl
theorem XP(h:nT p i=eQ)(k:Nat):EE p s (i+1) (k+1)=(EE p s i k&&Pm p s i k):=by rw[EE,h];rfl
theorem acm(h:nT p i=eQ):EE p s (i+1) 0=eQ:=by rw[EE,h];rfl
theorem ahO(h:nT p i=hJ):∀k,EE p s i k=hJ->EE p s (i+1) k=hJ|0,e=>by simp_all[MD]|k+1,e=>by simp_all[RM]
def zF(f:Nat->Bool):Nat->Bool|0=>f 0|i+1=>f (i+1)||(zF f i&&nT p i)
def xA(f:Nat->Bool)(b k j:Nat):Bool:=(eK (j<b)&&(f j&&nT p j))||(eK (0<j)&&(eK (j<=b)&&(f (j-1)&&(!nT p (j-1)&&Pm p s (j-1) k))))
theorem amx:∀i,zF p (λj=>j==0) i=EP p s i 0:=by
 have hE:∀i,EP p s i 0=EE p s i 0:=by unfold EP;simp_all[MD]
 intro i
 induction i with|zero=>rfl|succ i ih=>rw[zF];grind[acm,MD]
theorem af1(k:Nat):∀i,i<=Ts p->zF p (xA p s (λj=>EP p s j k) p.length k) i=EP p s i (k+1):=by
 have hpre:∀i,i<=Ts p->xA p s (λj=>EP p s j k) p.length k i=((nT p i&&EE p s (i+1) k)||(eK (0<i)&&(!nT p (i-1)&&EE p s i (k+1)))):=by
  intro i hi;unfold xA;congr 1
  ·by_cases h:i<Ts p
   ·unfold EP;grind[ahO]
   grind[af0,decide_eq_false]
  ·cases i with|zero=>simp|succ i=>unfold EP;grind[XP]
 intro i
 induction i with
 | zero=>
  intro hi;rw[zF,hpre 0 hi];unfold EP;rw[show EE p s 0 (k+1)=eQ from rfl];cases hs:nT p 0 with
  | false=>simp|true=>rw[RM p s hs,show EE p s 0 (k+1)=eQ from rfl];simp
 | succ i ih=>
  intro hi;rw[zF,hpre (i+1) hi,ih om];have e2:EP p s (i+1) (k+1)=(EE p s (i+1) (k+1)||(nT p (i+1)&&EE p s (i+2) k)):=by unfold EP;grind[RM]
  rw[e2];unfold EP;grind[ahO]
theorem acn(f:Nat->Bool)(n:Nat)(h:∀i,i<=n->f i=eQ):∀i,i<=n->zF p f i=eQ|0,hi=>h 0 hi|i+1,hi=>by rw[zF,h _ hi,acn f n h i om];rfl
theorem XQ(k:Nat)(h:∀i,i<=Ts p->EP p s i k=eQ):∀d i,i<=Ts p->EP p s i (k+d)=eQ
 | 0,i,hi=>h i hi|d+1,i,hi=>by
  rw[<-OT,<-af1 p s (k+d) i hi];refine acn p _ p.length (λj hj=>?_) i hi;unfold xA;dsimp only;rw[XQ k h d j hj];by_cases h0:0<j
  ·rw[XQ k h d (j-1) om];simp
  ·simp[h0]
theorem aj9(k:Nat):EP p s p.length k=EE p s p.length k:=by unfold EP;rw[af0];simp
end
def ME(b:Int)(x:cA):Bool:=eK (x.qu<=b)&&eK (b<=x.kA)
theorem apD(F:Nat)(it:aC)(b:Int)(hF:300<F)(h:ko it):qU F it b=iN (Ub it b):=by
 unfold qU Ub wx;cases hk:(it.fKind==1)with
 | true=>have:=h.1 (eq_of_beq hk);rw[aU,aU,kK om]|false=>
  cases (it.fKind==4)with
  | false=>rfl|true=>
   have hl:=h.2.2;refine cy (λs=>∃k:Nat,s=((it.cL.take k).any (ME b),(k:Int))/\k<=Ts it.cL) (λs=>Ts it.cL-s.2.toNat) ?_ F _ ⟨0,rfl,om⟩ aR;rintro s ⟨k,rfl,hk2⟩;by_cases hk2:k<Ts it.cL
   ·left;refine⟨_,⟨k+1,rfl,om⟩,aR,λrc=>?_⟩;rw[bC hk2,cg,aH,aH,bW om,lF hk2,List.any_append];unfold ME;simp_all
   ·right;obtain rfl:k=Ts it.cL:=om;intro rc;rw[cf om,s7];rfl
theorem amy(F:Nat)(it:aC)(b:Int)(hF:300<F)(h:ko it):Ec F it b=iN (Ub it b):=by
 unfold Ec Ub wx;cases hk:(it.fKind==1)with
 | true=>have:=h.1 (eq_of_beq hk);rw[aU,aU,kK om]|false=>
  cases (it.fKind==4)with
  | false=>rfl|true=>
   have hl:=h.2.2;have e:xw F it.cL b=iN (it.cL.any (ME b)):=by
    refine cy (λs=>∃k:Nat,s=(k:Int)/\k<=Ts it.cL/\(it.cL.take k).any (ME b)=eQ) (λs=>Ts it.cL-s.toNat) ?_ F _ ⟨0,rfl,om,rfl⟩ aR;rintro s ⟨k,rfl,hk2,hn⟩;by_cases hk2:k<Ts it.cL
    ·have hin:(cond (eK (it.cL[k].qu<=b)) (rq ((eK (0<=(k:Int)))&&(eK ((k:Int)<(Ts it.cL:Int)))) (iN (eK (b<=it.cL[k].kA)))) (iN eQ):O Bool)=iN (ME b it.cL[k]):=by rw[bC hk2];unfold ME;grind
     have atG:(it.cL.take (k+1)).any (ME b)=ME b it.cL[k]:=by grind[List.take_succ_eq_append_getElem]
     cases hb:ME b it.cL[k]with|true=>right;intro rc;have:=TH.2 ⟨_,fm hk2,hb⟩;rw[cq om,bC hk2,cg,gd hk2,hin,hb,this];rfl|false=>left;refine⟨_,⟨k+1,rfl,om,by rw[atG,hb]⟩,aR,λrc=>?_⟩;rw[cq om,bC hk2,cg,gd hk2,hin,hb,bW om];rfl
    grind
   rw[e];rfl
theorem Zl(F:Nat)(p:J aC)(f:Nat->Bool)(hF:Ts p<F)(hp:Ts p<50000000):qL F p (jw (Ts p+1) f)=iN (jw (Ts p+1) (zF p f)):=by
 refine cy (λs=>∃k:Nat,s=((k:Int),jw (Ts p+1) (λj=>cond (eK (j<=k)) (zF p f j) (f j)))/\k<=Ts p) (λs=>Ts p-s.1.toNat) ?_ F _ ⟨0,congrArg (Prod.mk (0:Int)) (mE λi hi=>by
   cases i with|zero=>rfl|succ i=>simp_all),om⟩ aR
 rintro s ⟨k,rfl,hk⟩;have hlen:∀g:Nat->Bool,Ts (jw (Ts p+1) g)=Ts p+1:=λg=>Dw _ g;by_cases hk:k<Ts p
 ·left;refine⟨_,⟨k+1,rfl,om⟩,aR,λrc=>?_⟩;rw[cq om,bC hk,ck om (by rw[hlen];omega),cg,yB _ (show k<Ts p+1 by omega),aH,bW om,dT (show k<=k by omega),aU];have e:∀(A B:Bool)(L:J Bool),cond A (B,L) (eQ,L)=((A&&B),L):=by simp_all
  rw[e];show cond (zF p f k&&nT p k) _ _=_;have e2:jw (Ts p+1) (λj=>cond (eK (j<=k+1)) (zF p f j) (f j))=cond (zF p f k&&nT p k) ((jw (Ts p+1) (λj=>cond (eK (j<=k)) (zF p f j) (f j))).set (k+1) hJ) (jw (Ts p+1) (λj=>cond (eK (j<=k)) (zF p f j) (f j))):=by
   cases hc:(zF p f k&&nT p k)with
   | true=>
    rw[HU];refine mE λj hj=>?_;by_cases h1:j=k+1
    ·subst h1;rw[HB,dT om,zF,hc];simp
    grind
   | false=>
    refine mE λj hj=>?_;by_cases h1:j=k+1
    ·subst h1;rw[dT (show k+1<=k+1 by omega),dF (show ¬ k+1<=k by omega),zF,hc];simp
    grind
  rw[e2];cases hc:(zF p f k&&nT p k)with|true=>rw[aU,aU,ck om (by rw[hlen];omega),cg]|false=>rfl
 ·right;intro rc;rw[cf om];rw[mE (g:=zF p f) λj hj=>by grind]
theorem aka(p:J aC)(s:Bs)(f:Nat->Bool)(k j:Nat):xA p s f 0 k j=eQ:=by unfold xA;grind
theorem akb(p:J aC)(s:Bs)(f:Nat->Bool)(b k j:Nat):
  xA p s f (b+1) k j=cond (f b&&nT p b) (cond (j==b) hJ (xA p s f b k j)) (cond (f b&&Pm p s b k) (cond (j==b+1) hJ (xA p s f b k j)) (xA p s f b k j)):=by
 unfold xA;grind
theorem ahP(F:Nat)(p:J aC)(s:Bs)(f:Nat->Bool)(k:Nat)(hF:Ts p+300<F)(hp:Ts p<50000000)(hit:∀it∈p,ko it):
  lM F p (jw (Ts p+1) f) ((s.getD k 0).toNat:Int)=iN (jw (Ts p+1) (zF p (xA p s f p.length k))):=by
 unfold lM wx;have hw:aD ((Ts p:Int)+1)=((Ts p+1:Nat):Int):=bW om;have hlen:∀g:Nat->Bool,Ts (jw (Ts p+1) g)=Ts p+1:=λg=>Dw _ g;rw[hw,cE (by rw[dT om,dT om,dT om,dT om,dT om];rfl),Ua];refine cy (λx=>∃b:Nat,x=((b:Int),jw (Ts p+1) (xA p s f b k))/\b<=Ts p) (λx=>Ts p-x.1.toNat) ?_ F _ ⟨0,by grind[mE,aka],om⟩ aR;rintro x ⟨b,rfl,hb⟩;by_cases hb:b<Ts p
 ·left;refine⟨_,⟨b+1,rfl,om⟩,aR,λrc=>?_⟩;have hki:(Vu p b)=p[b]:=by unfold Vu;rw[gd hb]
  have hst:(p[b].fKind==3)=nT p b:=by unfold nT;rw[hki]
  have hfi:Ub p[b] ((s.getD k 0).toNat:Int)=Pm p s b k:=by unfold Pm;rw[hki]
  rw[cq om,bC hb,ck om (by rw[hlen];omega),cg,gd hb,yB _ (show b<Ts p+1 by omega),bW om,hst,apD F p[b] _ om (hit _ (fm hb)),hfi];have e:jw (Ts p+1) (xA p s f (b+1) k)=cond (f b&&nT p b) ((jw (Ts p+1) (xA p s f b k)).set b hJ) (cond (f b&&Pm p s b k) ((jw (Ts p+1) (xA p s f b k)).set (b+1) hJ) (jw (Ts p+1) (xA p s f b k))):=by grind[HU,mE,akb]
  rw[e];cases hf:f b with
  | false=>rfl|true=>
   cases hs:nT p b with
   | true=>grind[ck]|false=>cases hx:Pm p s b k with|true=>grind[ck,Int.toNat_natCast]|false=>rfl
 ·right;obtain rfl:b=Ts p:=om;intro rc;rw[cf om,Zl F p _ om hp,aE]
theorem aeU(F:Nat)(st:J Bool)(hF:Ts st<F)(hs:Ts st<100000000):∃b,(b=eQ->∀i,i<Ts st->st.getD i eQ=eQ)/\lK F st hJ=iN b:=by
 unfold lK wx;obtain⟨r,hr,h⟩:∃r:Int,(r<0->∀i,i<Ts st->st.getD i eQ=eQ)/\yz F st hJ=iN r:=by
  refine BH _ (λs=>∃k:Nat,s=(k:Int)/\k<=Ts st/\∀i,i<k->st.getD i eQ=eQ) (λs=>Ts st-s.toNat) ?_ F _ ⟨0,rfl,om,λi hi=>om⟩ aR;rintro ii ⟨k,rfl,hk,hn⟩;by_cases hk:k<Ts st
  ·cases hv:st.getD k eQ with
   | true=>right;refine⟨(k:Int),λh=>om,λrc=>?_⟩;rw[cq om,bC hk,cg,hv];rfl|false=>
    left;refine⟨_,⟨k+1,rfl,om,λi hi=>?_⟩,aR,λrc=>?_⟩
    ·grind
    ·rw[cq om,bC hk,cg,hv,bW om];rfl
  ·obtain rfl:k=Ts st:=om;simp_all
 simp_all
theorem af2(F:Nat)(p:J aC)(s:Bs)(hF:Ts p+300<F)(qT:Ts s+1<F)(hs:Ts s<50000000)(hp:Ts p<50000000)(hit:∀it∈p,ko it):
  BN F p s=iN (jw (Ts s+1) (EE p s p.length)):=by
 unfold BN wx;have hw:aD ((Ts s:Int)+1)=((Ts s+1:Nat):Int):=bW om;have hlen:∀g:Nat->Bool,Ts (jw (Ts s+1) g)=Ts s+1:=λg=>Dw _ g;have hrq:∀ {α:Type}(x:O α),rq ((eK (0<=((Ts s+1:Nat):Int)))&&((eK (((Ts s+1:Nat):Int)<=((Ts s+1:Nat):Int)))&&((eK (0<((Ts s+1:Nat):Int)))&&((eK (((Ts s+1:Nat):Int)<=9223372036854775807))&&(eK ((1:Int)*((Ts s+1:Nat):Int)<=140737488355328)))))) x=x:=by grind[cE,dT]
 rw[hw,hrq,cg,kK si,Ua,HU]
 refine cy (λx:J Bool×Int=>∃i:Nat,x=(jw (Ts s+1) (EE p s i),(i:Int))/\i<=Ts p) (λx=>Ts p-x.2.toNat) ?_ F _ ⟨0,congrArg (λy=>(y,(0:Int))) (mE λj _=>by
   show cond (j==0) hJ eQ=(j==0);cases (j==0)<;>rfl),om⟩ aR
 rintro x ⟨i,rfl,hi⟩;dsimp only;by_cases hi:i<Ts p
 ·left;refine⟨(jw (Ts s+1) (EE p s (i+1)),((i+1:Nat):Int)),⟨i+1,rfl,om⟩,aR,λrc=>?_⟩;rw[cq om,hrq];refine cy (λx:Int×J Bool=>∃k:Nat,x=((k:Int),jw (Ts s+1) (λj=>eK (j<k)&&EE p s (i+1) j))/\k<=Ts s+1) (λx=>Ts s+1-x.1.toNat) ?_ F _ ⟨0,congrArg (Prod.mk (0:Int)) (mE λj _=>by simp),om⟩ aR;rintro x ⟨k,rfl,hk⟩;dsimp only;by_cases hk:k<=Ts s
  ·left;refine⟨_,⟨k+1,rfl,om⟩,aR,λbD=>?_⟩;have hki:(Vu p i)=p[i]:=by unfold Vu;rw[gd hi]
   have hst:(p[i].fKind==3)=nT p i:=by unfold nT;rw[hki]
   have nZ:∀b,b=EE p s (i+1) k->(jw (Ts s+1) (λj=>eK (j<k)&&EE p s (i+1) j)).set k b=jw (Ts s+1) (λj=>eK (j<k+1)&&EE p s (i+1) j):=by rintro b rfl;rw[HU];grind
   rw[cq om,bC hi,cg,gd (l:=p) hi,hst,bW om];cases hs3:nT p i with
   | true=>
    rw[aU,ck om (by rw[hlen];omega),cg,yB _ om]
    have hres:∀b,b=EE p s (i+1) k->((iN ((k:Int),b,jw (Ts s+1) (λj=>eK (j<k)&&EE p s (i+1) j)):O (Int×Bool×(J Bool))).bind λx5=>
      rq ((eK (0<=x5.1))&&(eK (x5.1<(Ts x5.2.2:Int)))) (bD (((k+1:Nat):Int),x5.2.2.set (eJ x5.1) x5.2.1)))=bD (((k+1:Nat):Int),jw (Ts s+1) (λj=>eK (j<k+1)&&EE p s (i+1) j)):=by
     grind[ck,Int.toNat_natCast]
    cases he:EE p s i k with
    | true=>simp_all[ahO]|false=>rw[aJ];cases k with|zero=>simp_all[cf,MD]|succ k=>rw[cq om,uQ om om,ck om (by rw[hlen];omega),cg,yB _ om];simp_all[RM,Nat.add_sub_cancel,dT]
   | false=>
    rw[aJ];cases k with
    | zero=>rw[cf om,ck om (by rw[hlen];omega),cg,nZ eQ (by rw[acm p s hs3])]|succ k=>
     rw[cq om,uQ om om,ck om (by rw[hlen];omega),cg,Nat.add_sub_cancel,yB _ om];cases he:EE p s i k with
     | false=>rw[aJ,ck om (by rw[hlen];omega),cg,nZ eQ (by simp_all[XP])]|true=>rw[aU,bC hi,bC (show k<s.length by omega),cg,amy F p[i] _ om (hit _ (fm hi)),aE,ck om (by rw[hlen];omega),nZ _ (by rw[XP p s hs3,he];unfold Pm;rw[hki];rfl)]
  ·right;obtain rfl:k=Ts s+1:=om;intro bD;rw[cf om,bW om,mE (g:=EE p s (i+1)) λj hj=>by simp_all]
 grind
theorem akc(F:Nat)(p:J aC)(n:Bs)(hF:Ts p+300<F)(qT:Ts n+1<F)(hn:Ts n<50000000)(hp:Ts p<50000000)(hit:∀it∈p,ko it){v:Bool}(hv:ju F p=iN v):
  Ed F p n=iN (v&&EE p n p.length n.length):=by
 unfold Ed wx;rw[<-EL F p hF hp hit,hv,aE,af2 F p n hF qT hn hp hit];cases v with|false=>rfl|true=>rw[aE,ck om (by rw[Dw];omega),yB _ om];rfl
def Ee(n:J Bs):Bs:=n.flatMap λc=>47::c
theorem akd(a b:J Bs):Ee (a++b)=Ee a++Ee b:=by simp[Ee]
theorem Vv:∀(n:J Bs),n≠[]->Ee n=47::dW n
 | [],h=>absurd rfl h|[x],_=>by simp[Ee,dW]|x::y::l,_=>by have ih:=Vv (y::l) si;rw[show Ee (x::y::l)=(47::x)++Ee (y::l)from rfl,ih,dW];simp
theorem S9{n:J Bs}(h:n≠[]):pathOf n=Ee n:=by rw[Vv n h];rfl
theorem Names.app{a b:J Bs}(ha:Names a)(hb:Names b):Names (a++b):=λc hc=>by
 rcases ni.1 hc with h|h
 ·exact ha c h
 ·exact hb c h
theorem Names.left{a b:J Bs}(h:Names (a++b)):Names a:=λc hc=>h c (by simp[hc])
theorem NS:∀(m:J Bs)(x:Bs),m≠[]->Names m->cm (dW m++47::x)=m++cm x|[],x,h,_=>absurd rfl h|[a],x,_,h=>by rw[dW,Jo a x (sK (h a si))];rfl|a::b::m,x,_,h=>by rw[dW,tI,rY,Jo a _ (sK (h a si)),NS (b::m) x si λc hc=>h c (by simp[hc])];rfl
theorem RN{s:Bs}(h:gF s=hJ):∃n,Names n/\s=pathOf n/\(pathOf n).length<=128:=by
 cases hr:(s==[47])with
 | true=>exact⟨[],λc hc=>(by cases hc),eq_of_beq hr,by decide⟩
 | false=>obtain⟨h1,h2,h3,h4⟩:=yy h hr;grind
theorem Li{n:J Bs}(h:Names n):pathOf n=[47]↔n=[]:=by have:=D9 h;grind
theorem Ky{m n:J Bs}(hm:Names m)(hn:Names n):BE (pathOf m) (pathOf n)=hJ↔∃c r,n=m++c::r:=by
 unfold BE;by_cases h0:m=[]
 ·subst h0;rw[show(pathOf []==[47])=hJ from rfl,aU,D9 hn];cases n with|nil=>simp|cons c r=>simp
 ·have e0:(pathOf m==[47])=eQ:=by simp_all[D9]
  rw[e0,aJ];simp;constructor
  ·rintro⟨h1,h2⟩;have hx:pathOf n=(pathOf m++[47])++(pathOf n).drop (Ts (pathOf m)+1):=by grind[List.take_append_drop]
   generalize(pathOf n).drop (Ts (pathOf m)+1)=x at hx;have hj:dW n=dW m++47::x:=by simp[pathOf,tI,rY,pN,List.cons.injEq,wU]at hx;exact hx
   have hne:n≠[]:=by rintro rfl;have:([]:Bs)=dW m++47::x:=hj;simp at this
   have:=BI n hne λc hc=>sK (hn c hc);rw[hj,NS m x h0 hm]at this;cases hp:cm x with|nil=>grind|cons c r=>grind
  ·rintro⟨c,r,rfl⟩;have e:pathOf (m++c::r)=pathOf m++47::(c++Ee r):=by rw[S9 si,akd,S9 h0];rfl
   grind
structure VT(l:List aZ):Prop where
 len:Ts l<=128
 root:∃f∈l,f.bN=[47]
 path:∀f∈l,gF f.bN=hJ
 dir:∀f∈l,f.mc=hJ->f.fData=[]
 amk:∀f∈l,f.bN=[47]->f.mc=hJ
 data:∀f∈l,Ts f.fData<=8192
 asc:Pc l
 par:∀f∈l,f.bN≠[47]->∃p∈l,p.bN=iT f.bN/\p.mc=hJ
theorem VT.up{l:J aZ}(h:VT l):∀(r:J Bs)(m:J Bs)(c:Bs),Names (m++c::r)->(∃f∈l,f.bN=pathOf (m++c::r))->∃f∈l,f.bN=pathOf (m++[c]):=by
 intro r
 induction hn:r.length generalizing r with
 | zero=>simp_all|succ k ih=>
  intro m c hN ⟨f,hf,e⟩;have hr:r≠[]:=by grind
  have hne:f.bN≠[47]:=by simp_all[Li]
  obtain⟨p,hp,e1,-⟩:=h.par f hf hne;rw[e,HM hN]at e1;have e2:(m++c::r).dropLast=m++c::r.dropLast:=by simp_all[List.dropLast_append_of_ne_nil,List.dropLast_cons_of_ne_nil]
  rw[e2]at e1;exact ih r.dropLast (by simp[hn]) m c (by rw[<-e2];exact hN.dropLast) ⟨p,hp,e1⟩
theorem VT.above{l:J aZ}(h:VT l){a:Bs}(ha:gF a=hJ){f:aZ}(hf:f∈l)(hab:BE a f.bN=hJ):∃p∈l,p.bN=a/\p.mc=hJ/\∃k∈l,zn a k=hJ:=by
 obtain⟨m,hm,rfl,-⟩:=RN ha;obtain⟨n,hn,e,-⟩:=RN (h.path f hf);rw[e]at hab;obtain⟨c,r,rfl⟩:=(Ky hm hn).1 hab;obtain⟨k,hk,ek⟩:=h.up r m c hn ⟨f,hf,e⟩;have hN:Names (m++[c]):=Names.app hm λx hx=>hn x (by simp at hx;simp[hx]);have arz:k.bN≠[47]:=by simp_all[Li]
 obtain⟨p,hp,e1,e2⟩:=h.par k hk arz;have e3:iT k.bN=pathOf m:=by simp_all[HM]
 refine⟨p,hp,by rw[e1,e3],e2,k,hk,?_⟩;unfold zn;rw[e3];simp[arz]
theorem aco{p:Bs}(h:gF p=hJ)(hr:p≠[47]):BE (iT p) p=hJ/\gF (iT p)=hJ:=by
 obtain⟨n,hn,rfl,hl⟩:=RN h;rcases U2 n with rfl|⟨m,c,rfl⟩
 ·exact absurd rfl hr
 ·rw[ahf]at *;have hm:=hn.left;have hc:=hn c si;rw[Kv hm hc];refine⟨(Ky hm hn).2 ⟨c,[],rfl⟩,abW hm ?_⟩;have:(pathOf m).length<=Ts (pathOf (m++[c])):=by
   cases m with
   | nil=>simp[pathOf,dW]|cons a b=>
    have e:pathOf ((a::b)++[c])=pathOf (a::b)++47::c:=by rw[pathOf,Gl _ _ si,pathOf];simp
    rw[e];simp
  omega
theorem ake{l:J aZ}{p:Bs}:Jn l p=0↔(∀f∈l,BE f.bN p=hJ->f.mc=hJ)/\Kt l (iT p)=hJ:=by unfold Jn;grind
theorem VL.tree(h:VL l):VT l:=by
 refine⟨h.len,⟨l.getD 0 cw,by rw[gd h.pos];exact fm _,h.root⟩,h.path,h.dir,h.amk,h.data,h.asc,λf hf hne=>?_⟩;obtain⟨k,hk,e⟩:=lH hf;have ek:l.getD k cw=f:=by rw[gd hk];exact e
 have h0:0<k:=by
  rcases Nat.eq_zero_or_pos k with h0|h0
  ·subst h0;rw[h.root.symm,ek]at hne;exact absurd rfl hne
  ·exact h0
 have hp:=ake.1 (h.arn k h0 hk);obtain⟨g,hg,eg⟩:=(afW _ _).1 hp.2;have:=(aco (h.path f hf) hne).1;grind
def mj(F:Nat)(t:J aB):J aC:=(eR F t).getD []
def qX(F:Nat)(t:J aB):Bool:=((iY F ((mj F) t)).getD ([],eQ)).2
def Pn(F:Nat)(p:J aC)(n:Bs):Bool:=(nS F p n).getD eQ
theorem Lj{F:Nat}(hF:100000000<=F)(t:J aB)(h1:Ts t<=10000)(h2:bV t<=10000):eR F t=iN ((mj F) t)/\(∀it∈(mj F) t,ko it)/\((mj F) t).length<=10000:=by obtain⟨p,⟨g1,g2⟩,h⟩:=S1 F t om om om om;unfold mj;grind
theorem XR(hF:100000000<=F)(t:J aB)(h1:Ts t<=10000)(h2:bV t<=10000):∃x,iY F ((mj F) t)=iN (x,(qX F) t):=by obtain⟨-,g1,g2⟩:=Lj hF t h1 h2;obtain⟨r,h⟩:=aeO F ((mj F) t) om om g1;unfold qX;grind
theorem arA(hF:100000000<=F)(t:J aB)(h1:Ts t<=10000)(h2:bV t<=10000)(n:Bs)(hn:Ts n<=10000):nS F ((mj F) t) n=iN ((Pn F) ((mj F) t) n):=by obtain⟨-,g1,g2⟩:=Lj hF t h1 h2;obtain⟨r,h⟩:=aj2 F ((mj F) t) n om om om om g1;unfold Pn;rw[h];rfl
variable{r:J aB}
theorem ahQ(hF:100000000<=F)(hv:VL l)(hc:gF cwd=hJ)(h1:Ts r<=10000)(h2:bV r<=3000)(hW:(W l (Pn F) (partsOf (mj F) (qX F) r) (tQ cwd (tS r))).length<=1000000):pz F l cwd r=iN (Ph l (Pn F) (mj F) (qX F) cwd r,0):=by have hsz:∀t∈gJ r,Ts t<=10000/\bV t<=10000:=λt ht=>⟨by have:=ace t ht;omega,by grind[ahI]⟩;exact aj3 om hv hc om om (λt ht=>⟨(Lj hF t (hsz t ht).1 (hsz t ht).2).1,XR hF t (hsz t ht).1 (hsz t ht).2⟩) (λt ht _ n hn=>arA hF t (hsz t ht).1 (hsz t ht).2 n om) hW
def GI(n:Nat)(o:J (J aB)×J aB):Prop:=(∀c∈o.1,(∀r∈c,Ts r.fText=1)/\c.length<=n)/\(∀r∈o.2,Ts r.fText=1)/\o.2.length<=n
theorem GI.up{m:Nat}(h:GI n o)(hm:n<=m):GI m o:=⟨λc hc=>⟨(h.1 c hc).1,by have:=(h.1 c hc).2;omega⟩,h.2.1,by have:=h.2.2;omega⟩
theorem acp(cl:Int):∀(t:Bs)(n:Nat)(o:J (J aB)×J aB),GI n o->GI (n+Ts t) (t.foldl (mD cl) o)
 | [],n,o,h=>h|b::t,n,o,h=>by
  have h2:GI (n+1) (mD cl o b):=by
   obtain⟨h1,h2,h3⟩:=h;unfold mD;cases (b==47)
   ·refine⟨λc hc=>⟨(h1 c hc).1,by have:=(h1 c hc).2;omega⟩,λr hr=>?_,aR⟩;rcases ni.1 hr with hr|hr
    ·exact h2 r hr
    ·obtain rfl:=qn.1 hr;rfl
   ·refine⟨λc hc=>?_,λr hr=>(by cases hr),si⟩;rcases ni.1 hc with hc|hc
    ·exact⟨(h1 c hc).1,by have:=(h1 c hc).2;omega⟩
    ·obtain rfl:=qn.1 hc;exact⟨h2,om⟩
  have:=acp cl t (n+1) _ h2;rwa [show n+1+Ts t=n+Ts (b::t) by simp;omega]at this
theorem arB:∀(l:J aB)(n:Nat)(o:J (J aB)×J aB),GI n o->GI (n+bV l) (l.foldl wz o)
 | [],n,o,h=>h|r::l,n,o,h=>by
  have h2:GI (n+Ts r.fText) (wz o r):=by
   unfold wz;cases (r.aI != 0&&(r.aI != 1&&r.aI != 2))
   ·exact acp _ _ _ _ h
   ·exact h.up om
  have:=arB l _ _ h2;rwa [show n+Ts r.fText+bV l=n+bV (r::l) by simp[bV];omega]at this
theorem akf(l:J aB):∀c∈rQ l,bV c=Ts c/\c.length<=bV l:=by
 have h:=arB l 0 ([],[]) ⟨λc hc=>(by cases hc),λr hr=>(by cases hr),si⟩;rw[rX]at h;intro c hc;rcases ni.1 hc with hc|hc
 ·exact⟨ahE (h.1 c hc).1,(h.1 c hc).2⟩
 ·obtain rfl:=qn.1 hc;exact⟨ahE h.2.1,h.2.2⟩
theorem uY{d:J Bs}(hd:Names d)(c:Bs):gG (pathOf d) c=pathOf (d++[c]):=by rw[SY hd];unfold gG;grind
