import Derived.Test.YtjfbblgjjdgjdaaGreatDoorZ2
open Go.Op renaming bytesLess->pD
open Go.Lib renaming indexByte->lO
open UInt8 renaming ofNat->lL
open Option renaming some->iN,none->iF
open Bool renaming true->hJ,false->eQ
open Decidable renaming decide->eK
open Int renaming toNat->eJ
open Go.IntKind renaming wrap->dO
open Nat renaming blt->dE
open BitVec renaming ofInt->W0
open List renaming length->Ts
set_option linter.all false
namespace Go.Proofs.YtjfbblgjjdgjdaaGreatDoor.K
open Go.RT
set_option maxRecDepth 100000
variable{α:Type}
theorem akM(c:Bool)(x y:α):cond c (iN x) (iN y)=iN (cond c x y):=by cases c<;>rfl
def aiP(a:Int):O (Int×Bs):=cond ((24:Int)==a) (iN (3,[124,124])) (cond ((23:Int)==a) (iN (4,[38,38])) (cond ((22:Int)==a) (iN (5,[124])) (cond ((21:Int)==a) (iN (6,[94])) (cond ((20:Int)==a) (iN (7,[38])) (cond ((18:Int)==a) (iN (8,[61,61])) (cond ((19:Int)==a) (iN (8,[33,61])) (cond ((14:Int)==a) (iN (9,[60])) (cond ((15:Int)==a) (iN (9,[62])) (cond ((16:Int)==a) (iN (9,[60,61])) (cond ((17:Int)==a) (iN (9,[62,61])) (cond ((12:Int)==a) (iN (10,[60,60])) (cond ((13:Int)==a) (iN (10,[62,62])) (cond ((10:Int)==a) (iN (11,[43])) (cond ((11:Int)==a) (iN (11,[45])) (cond ((7:Int)==a) (iN (12,[42])) (cond ((8:Int)==a) (iN (12,[47])) (cond ((9:Int)==a) (iN (12,[37])) (iN (0,[])))))))))))))))))))
def abD(a:Int):Int×Bs:=cond ((24:Int)==a) (3,[124,124]) (cond ((23:Int)==a) (4,[38,38]) (cond ((22:Int)==a) (5,[124]) (cond ((21:Int)==a) (6,[94]) (cond ((20:Int)==a) (7,[38]) (cond ((18:Int)==a) (8,[61,61]) (cond ((19:Int)==a) (8,[33,61]) (cond ((14:Int)==a) (9,[60]) (cond ((15:Int)==a) (9,[62]) (cond ((16:Int)==a) (9,[60,61]) (cond ((17:Int)==a) (9,[62,61]) (cond ((12:Int)==a) (10,[60,60]) (cond ((13:Int)==a) (10,[62,62]) (cond ((10:Int)==a) (11,[43]) (cond ((11:Int)==a) (11,[45]) (cond ((7:Int)==a) (12,[42]) (cond ((8:Int)==a) (12,[47]) (cond ((9:Int)==a) (12,[37]) ((0,[])))))))))))))))))))
def mW(a:Int):Int×Bs:=cond (a==1||a==2) (14,[]) (cond (a==3) (13,[45]) (cond (a==4) (13,[43]) (cond (a==5) (13,[33]) (cond (a==6) (13,[126]) (cond (a==25) (2,[63]) (cond (a==26) (1,[61]) (abD a)))))))
def qx(a:Int):Int:=cond (a==1||a==2) 0 (cond ((eK (3<=a)&&eK (a<=6))||a==26) 1 (cond (eK (7<=a)&&eK (a<=24)) 2 (cond (a==25) 3 (-1))))
theorem agk(F:Nat)(a:Int):Gz F a=iN (qx a):=by unfold Gz qx wx;grind
theorem ann(a:Int):aiP a=iN (abD a):=by simp[aiP,abD,akM]
theorem akN(G:Nat)(a:Int):((tW (G+20)).bind λx2=>
 bW (σ:=Int) (λmD x3=>
 cond (eK (x3<(Ts x2:Int)))
 (rq ((eK (0<=x3))&&(eK (x3<(Ts x2:Int)))) (cond (((x2.getD (eJ x3) AD).fop)==a)
 (iN ((x2.getD (eJ x3) AD).Qr,(x2.getD (eJ x3) AD).Hu))
 (mD (aE (x3+1)))))
 (iN (0,[]))) (G+20) 0)=aiP a:=by kernel_rfl
theorem afu(G:Nat)(a:Int):yI (G+20) a=iN (mW a):=by unfold yI mW wx;cases h1:(a==1)<;>cases h2:(a==2)<;>simp;cases h3:(a==3)<;>simp;cases h4:(a==4)<;>simp;cases h5:(a==5)<;>simp;cases h6:(a==6)<;>simp;cases h7:(a==25)<;>simp;cases h8:(a==26)<;>simp;exact(akN G a).trans (ann a)
def aoU(L:Int):Int:=cond (L==1||L==13) 1 (cond (L==2) 3 (cond (L==14) 0 2))
theorem ano(op:Int):((mW op).1=0/\qx op=-1)\/((mW op).1≠0/\aoU (mW op).1=qx op):=by
 by_cases h:1<=op/\op<=26
 ·have:op=1\/op=2\/op=3\/op=4\/op=5\/op=6\/op=7\/op=8\/op=9\/op=10\/op=11\/op=12\/op=13\/op=14\/op=15\/op=16\/op=17\/op=18\/op=19\/op=20\/op=21\/op=22\/op=23\/op=24\/op=25\/op=26:=om;rcases this with rfl|rfl|rfl|rfl|rfl|rfl|rfl|rfl|rfl|rfl|rfl|rfl|rfl|rfl|rfl|rfl|rfl|rfl|rfl|rfl|rfl|rfl|rfl|rfl|rfl|rfl<;>decide
 ·left;have h1:(op==1)=eQ:=by grind
  have g1:((1:Int)==op)=eQ:=by rw[iq];omega
  have h2:(op==2)=eQ:=by rw[iq];omega
  have g2:((2:Int)==op)=eQ:=by rw[iq];omega
  have h3:(op==3)=eQ:=by grind
  have g3:((3:Int)==op)=eQ:=by grind
  have h4:(op==4)=eQ:=by grind
  have g4:((4:Int)==op)=eQ:=by grind
  have h5:(op==5)=eQ:=by grind
  have g5:((5:Int)==op)=eQ:=by grind
  have h6:(op==6)=eQ:=by grind
  have g6:((6:Int)==op)=eQ:=by grind
  have h7:(op==7)=eQ:=by grind
  have g7:((7:Int)==op)=eQ:=by grind
  have h8:(op==8)=eQ:=by grind
  have g8:((8:Int)==op)=eQ:=by grind
  have h9:(op==9)=eQ:=by grind
  have g9:((9:Int)==op)=eQ:=by rw[iq];omega
  have h10:(op==10)=eQ:=by rw[iq];omega
  have g10:((10:Int)==op)=eQ:=by rw[iq];omega
  have h11:(op==11)=eQ:=by rw[iq];omega
  have g11:((11:Int)==op)=eQ:=by rw[iq];omega
  have h12:(op==12)=eQ:=by rw[iq];omega
  have g12:((12:Int)==op)=eQ:=by rw[iq];omega
  have ZV:(op==13)=eQ:=by rw[iq];omega
  have g13:((13:Int)==op)=eQ:=by rw[iq];omega
  have h14:(op==14)=eQ:=by rw[iq];omega
  have g14:((14:Int)==op)=eQ:=by rw[iq];omega
  have h15:(op==15)=eQ:=by rw[iq];omega
  have g15:((15:Int)==op)=eQ:=by rw[iq];omega
  have h16:(op==16)=eQ:=by rw[iq];omega
  have g16:((16:Int)==op)=eQ:=by rw[iq];omega
  have h17:(op==17)=eQ:=by rw[iq];omega
  have g17:((17:Int)==op)=eQ:=by rw[iq];omega
  have h18:(op==18)=eQ:=by rw[iq];omega
  have g18:((18:Int)==op)=eQ:=by rw[iq];omega
  have h19:(op==19)=eQ:=by rw[iq];omega
  have g19:((19:Int)==op)=eQ:=by rw[iq];omega
  have h20:(op==20)=eQ:=by rw[iq];omega
  have g20:((20:Int)==op)=eQ:=by rw[iq];omega
  have h21:(op==21)=eQ:=by rw[iq];omega
  have g21:((21:Int)==op)=eQ:=by rw[iq];omega
  have h22:(op==22)=eQ:=by rw[iq];omega
  have g22:((22:Int)==op)=eQ:=by rw[iq];omega
  have h23:(op==23)=eQ:=by rw[iq];omega
  have g23:((23:Int)==op)=eQ:=by rw[iq];omega
  have WD:(op==24)=eQ:=by rw[iq];omega
  have g24:((24:Int)==op)=eQ:=by rw[iq];omega
  have ZW:(op==25)=eQ:=by rw[iq];omega
  have g25:((25:Int)==op)=eQ:=by rw[iq];omega
  have JJ:(op==26)=eQ:=by rw[iq];omega
  have g26:((26:Int)==op)=eQ:=by rw[iq];omega
  have k1:(eK (3<=op)&&eK (op<=6))=eQ:=by grind
  have k2:(eK (7<=op)&&eK (op<=24))=eQ:=by grind
  refine⟨?_,?_⟩
  ·simp only[mW,abD,h1,h2,h3,h4,h5,h6,h7,h8,h9,h10,h11,h12,ZV,h14,h15,h16,h17,h18,h19,h20,h21,h22,h23,WD,ZW,JJ,g1,g2,g3,g4,g5,g6,g7,g8,g9,g10,g11,g12,g13,g14,g15,g16,g17,g18,g19,g20,g21,g22,g23,g24,g25,g26,aa8,aJ]
  ·simp only[qx,h1,h2,ZW,JJ,k1,k2,aa8,aJ]
def Ce(n:Int):Bool:=(eK (7<=n)&&eK (n<=13))||(eK (20<=n)&&eK (n<=22))
theorem anp(F:Nat)(n:Int):tX F n=iN (Ce n):=by
 by_cases h:n=7\/n=8\/n=9\/n=10\/n=11\/n=12\/n=13\/n=20\/n=21\/n=22
 ·rcases h with rfl|rfl|rfl|rfl|rfl|rfl|rfl|rfl|rfl|rfl<;>rfl
 ·unfold tX Ce wx;have k1:(eK (7<=n)&&eK (n<=13))=eQ:=by grind
  have k2:(eK (20<=n)&&eK (n<=22))=eQ:=by grind
  grind
theorem adB(F:Nat)(n:Int):yJ F n=iN (n==0||Ce n):=by unfold yJ Ce wx;grind
def gw(b:Int):Bool:=eK (48<=b)&&eK (b<=57)
def pH(b:Int):Bool:=(eK (97<=b)&&eK (b<=122))||(eK (65<=b)&&eK (b<=90))
def tv(b:Int):Bool:=(pH b||gw b)||b==95
theorem WG(F:Nat)(b:Int):lU F b=iN (gw b):=by unfold lU gw wx;grind
theorem ap0(F:Nat)(b:Int):tF F b=iN (pH b):=by unfold tF pH wx;grind
theorem at5(F:Nat)(b:Int):qn F b=iN (tv b):=by unfold qn tv wx;rw[ap0,WG];cases pH b<;>cases gw b<;>rfl
theorem akO(F:Nat)(b:Int):vQ F b=iN (gw b):=by unfold vQ gw wx;grind
theorem ap1(F:Nat)(b:Int):xK F b=iN (pH b):=by unfold xK pH wx;grind
theorem akP(b:Int):gw b=hJ↔48<=b/\b<=57:=by simp[gw]
theorem adC(b:Int):tv b=hJ↔(97<=b/\b<=122)\/(65<=b/\b<=90)\/(48<=b/\b<=57)\/b=95:=by simp[tv,pH,gw];omega
def sM(s:Bs)(p:Nat):Int:=((s.getD p 0).toNat:Int)
theorem adD(p:Nat->Bool):∀k i,iter (λi r=>cond (p i) r (iN eQ)) (iN hJ) k i=iN ((List.range' i k).all p)
 | 0,i=>rfl|k+1,i=>by simp[iter,aa5];rw[adD p k (i+1)];cases p i<;>rfl
def rName(s:Bs):Bool:=cond (s==[]||decide (32<(Ts s:Int))) eQ (cond (gw (sM s 0)) eQ ((List.range' 0 s.length).all λi=>tv (sM s i)))
theorem Ag(F:Nat)(s:Bs)(hF:33<=F):fM F s=iN (rName s):=by
 unfold fM rName wx;simp only[WG,at5];cases h1:(s==[])with
 | true=>rfl|false=>
  cases h2:eK (32<(Ts s:Int))with
  | true=>rfl|false=>
   have h0:eK (0<(Ts s:Int))=hJ:=by
    cases s with
    | nil=>cases h1
    | cons a s=>simp
   have hl:¬ 32<(Ts s:Int):=by simpa using h2
   simp only[aJ,h0];show cond (gw (sM s 0)) _ _=iN (cond (gw (sM s 0)) _ _);cases gw (sM s 0)with
   | true=>rfl|false=>
    simp only[aJ];rw[<-adD (λi=>tv (sM s i))];refine aft (λi rc hi=>?_) (λrc=>?_) F om
    ·have e1:eK ((i:Int)<(Ts s:Int))=hJ:=by simpa using hi
     have e2:eK (0<=(i:Int))=hJ:=by simp
     simp only[e1];rw[bH om];show cond (!(tv (sM s i))) _ _=_;simp_all
    simp_all
theorem get_at(l:Bs)(k:Nat):(ByteArray.mk ⟨l⟩).get! k=l.getD k 0:=by simp[ByteArray.get!];cases l[k]? <;> rfl
variable{p:Nat}
theorem AP{l:Bs}(h:(l.getD p 0).toNat<128):dec l p=((l.getD p 0).toNat,1):=by unfold dec Utf8.decode;simp_all[get_at,OV,if_pos]
theorem ZX{l:Bs}(h:¬ (l.getD p 0).toNat<128):128<=(dec l p).1:=by
 unfold dec Utf8.decode;simp[get_at]
 (repeat' split)<;>simp_all[Utf8.runeError]<;>omega
def cOk(c p:Int):Bool:=cond (pH c||c==95) hJ (cond (gw c) (eK (0<p)) eQ)
theorem agl(c p:Int):cOk c p=hJ↔(97<=c/\c<=122)\/(65<=c/\c<=90)\/c=95\/(48<=c/\c<=57)/\0<p:=by simp[cOk,pH,gw];omega
def Tr(s:Bs)(p:Nat):Bool:=tv (sM s p) && !(eK (p=0)&&gw (sM s p))
theorem ap2(s:Bs)(p:Nat):cOk ((dec s p).1:Int) (p:Int)=Tr s p/\(Tr s p=hJ->(dec s p).2=1):=by
 by_cases h:(s.getD p 0).toNat<128
 ·rw[AP h];rw[tC,agl];unfold Tr sM;rw[cL,adC];grind[akP,decide_eq_false_iff_not]
 ·have h1:=ZX h;have h2:tv (sM s p)=eQ:=by apply TJ.2;intro hw;unfold sM at hw;grind[adC]
  have h3:Tr s p=eQ:=by unfold Tr;rw[h2];rfl
  rw[h3];refine⟨?_,λh=>by cases h⟩;grind[agl]
theorem WH(F:Nat)(s:Bs):∀(k p n:Nat),p+k=Ts s->k<n->bW (σ:=Bs×Int) (R:=Bool) (λiG x2=>
   cond (dE (eJ x2.2) x2.1.length)
   (((xK F ((dec x2.1 (eJ x2.2)).1:Int)).bind λx5=>
   cond x5
   (iN hJ)
   (iN (((dec x2.1 (eJ x2.2)).1:Int)==95)):O Bool).bind λx4=>
   (cond x4
   (iN hJ)
   ((vQ F ((dec x2.1 (eJ x2.2)).1:Int)).bind λx7=>
   cond x7
   (iN (eK (0<(((eJ x2.2):Nat):Int))))
   (iN eQ)):O Bool).bind λx6=>
   cond x6
   (iG (x2.1,((((eJ x2.2)+(dec x2.1 (eJ x2.2)).2):Nat):Int)))
   (iN eQ))
   (iN hJ)) n (s,(p:Int))=iN ((List.range' p k).all (Tr s))
 | 0,p,n,h,hn=>by
  cases n with
  | zero=>omega|succ n=>
   have e:dE p s.length=eQ:=by simp_all[TJ,aa9]
   simp_all[bW,b9,aJ]
 | k+1,p,n,h,hn=>by
  cases n with
  | zero=>omega|succ n=>
   have e:dE p s.length=hJ:=by rw[dE,aa9];omega
   obtain⟨h1,h2⟩:=ap2 s p;have ih:=WH F s k (p+1) n om om;simp only[ap1,akO,aD]at ih⊢;rw[bW];simp only[b9,e,aS]
   have key:∀X:O Bool,((cond (pH ((dec s p).1:Int)) (iN hJ) (iN (((dec s p).1:Int)==95)):O Bool).bind λx4=>
     (cond x4 (iN hJ) (cond (gw ((dec s p).1:Int)) (iN (eK (0<(p:Int)))) (iN eQ)):O Bool).bind λx6=>cond x6 X (iN eQ))=cond (cOk ((dec s p).1:Int) (p:Int)) X (iN eQ):=by
    intro X;unfold cOk;grind
   rw[key,h1,aa5,UU];grind
theorem FE(F:Nat)(s:Bs)(hF:33<=F):mA F s=iN (rName s):=by
 unfold mA rName wx;by_cases hz:s=[]
 ·subst hz;rfl
 have hlen:=Bn.2 hz;have h1:eK ((Ts s:Int)<1)=eQ:=by simp;omega
 have h2:(s==[])=eQ:=by simpa using hz
 rw[h1,h2];cases hl:eK (32<(Ts s:Int))with
 | true=>rfl|false=>
  have hs:¬ 32<(Ts s:Int):=by simpa using hl
  rw[WH F s s.length 0 F om om];obtain⟨m,hm⟩:∃m,Ts s=m+1:=⟨Ts s-1,om⟩;rw[hm,aa5];have e:(List.range' (0+1) m).all (Tr s)=(List.range' (0+1) m).all λi=>tv (sM s i):=by
   rw[tC];have:∀x,x∈List.range' (0+1) m->Tr s x=tv (sM s x):=λx hx=>by unfold Tr;grind
   simp_all
  unfold Tr;grind
def Ij(F:Nat)(s:Bs)(hF:33<=F):mA F s=fM F s:=(FE F s hF).trans (Ag F s hF).symm
abbrev di:=cD
abbrev di.mk:=cD.mk
instance:Inhabited d5:=⟨dL⟩
inductive jc:d5->Prop
 | mk (op n:Int) (name:Bs) (kids:List d5) (h1:(Lit.int .i64 op).wf=hJ) (h2:(Lit.int .i64 n).wf=hJ) (h3:Ts name<=maxLen) (h4:Ts kids<=maxLen) (h5:∀x,x∈kids->jc x):jc (.mk op n name kids)
theorem aiQ(G:Nat)(r:d5->Int->O Int)(e:d5)(d:Int)(hd:d<=32)(hN:mA (G+20) e.fName=fM (G+20) e.fName):
  Ah (G+20) r e d=mB (G+20) r e d:=by
 unfold Ah mB wx;simp only[afu,agk,anp,adB,hN,aD,d5.eta];generalize fM (G+20) e.fName=nm;generalize e.fOp=op;generalize e.fN=n;generalize e.fName=name;generalize e.fKids=kids;have e32:(d==32)=eK (32<=d):=by rw[tC,uJ,fV];omega
 have en:eK (n<0)=!(eK (0<=n)):=by rw[tC,wO,fV,agU];omega
 have o1:(op==1&&op==26)=eQ:=by rw[UW,iq,iq];omega
 rw[e32,en];simp only[bne];cases h32:eK (32<=d)<;>simp only[aS,aJ];rcases ano op with⟨h1,h2⟩|⟨h1,h2⟩
 ·rw[h1,h2];have e:((Ts kids:Int) == -1)=eQ:=by rw[iq];omega
  rw[e];cases (op==2)<;>cases (op==26)<;>rfl
 ·have e0:((mW op).1==0)=eQ:=by rw[iq];exact h1
  have ex:∀k:Int->O Int,jj (σ:=Int) (R:=Int) (cond ((mW op).1==0) (iN (.inr 1)) ((cond ((mW op).1==1) (iN ((mW op).1==1)) (iN ((mW op).1==13)):O Bool).bind λx3=>
    cond x3 (iN (.inl 1)) (cond ((mW op).1==2) (iN (.inl 3)) (cond ((mW op).1==14) (iN (.inl 0)) (iN (.inl 2)))))) k=k (qx op):=by
   intro k;rw[e0,<-h2];unfold aoU;generalize(mW op).1=L;cases (L==1)<;>cases (L==13)<;>cases (L==2)<;>cases (L==14)<;>rfl
  rw[ex];generalize(op==1)=b1 at o1⊢;generalize(op==26)=b26 at o1⊢;cases ((Ts kids:Int)==qx op)<;>cases b1<;>cases b26<;>(first|(cases o1;done)|skip)<;>
   cases (op==2)<;>cases (eK (0<=n))<;>cases (n==0)<;>cases (Ce n)<;>cases (name==[])<;>rfl
theorem afv(F:Nat)(r r':d5->Int->O Int)(e:d5)(d:Int)(h:¬ 32<=d->∀x,r x (aE (d+1))=r' x (aE (d+1))):mB F r e d=mB F r' e d:=by
 unfold mB wx;by_cases hd:32<=d
 ·rw[show eK (32<=d)=hJ by simpa using hd];rfl
 ·simp only[h hd]
theorem adE(G:Nat)(hG:13<=G):∀(n:Nat)(e:d5)(d:Int),0<=d->d<=32->sr (G+20) n e d=kR (G+20) n e d
 | 0,e,d,_,_=>rfl|n+1,e,d,h0,h1=>by show Ah (G+20) (sr (G+20) n) e d=mB (G+20) (kR (G+20) n) e d;rw[aiQ G _ e d h1 (Ij _ _ om)];refine afv _ _ _ e d λhd x=>?_;rw[bO om];exact adE G hG n x (d+1) om om
theorem d5.ind{P:d5->Prop}(h:∀op n name kids,(∀k,k∈kids->P k)->P (.mk op n name kids))(e:d5):P e:=by
 match e with
 | .mk op n name kids=>exact h op n name kids λk hk=>d5.ind h k
termination_by SizeOf.sizeOf e
decreasing_by
 have:=List.sizeOf_lt_of_mem hk;simp only[d5.mk.sizeOf_spec];omega
variable{P:d5->Prop}
theorem jc.ind(h:∀e,Ts e.fKids<=9223372036854775807->(∀k,k∈e.fKids->jc k)->(∀k,k∈e.fKids->P k)->P e):∀e,jc e->P e:=by
 intro e ho
 induction ho with|mk op n name kids h1 h2 h3 h4 h5 ih=>exact h (.mk op n name kids) (kU h4 de) h5 ih
mutual
def nodes:d5->Nat|.mk _ _ _ kids=>nw kids+1
def nw:J d5->Nat|[]=>0|k::l=>nodes k+nw l
end
theorem Ik(e:d5):nodes e=nw e.fKids+1:=by cases e;rfl
theorem JK:∀ {l:J d5}{k:d5},k∈l->nodes k<=nw l
 | x::l,k,h=>by
  rcases hU.1 h with rfl|h
  ·simp only[nw];omega
  ·have:=JK h;simp only[nw];omega
inductive Nms:d5->Prop
 | mk (op n:Int) (name:Bs) (kids:List d5) (h:Ts name<=60) (hk:∀k,k∈kids->Nms k):Nms (.mk op n name kids)
def Nf(op:Int):Bool:=op==2||op==26
variable{i:Nat}
theorem akQ{l:J α}(h:i<Ts l):l.take (i+1)=l.take i++[l[i]]:=by rw[kT h]
def DK(op n:Int)(name:Bs)(len:Nat):Bool:=((len:Int) != qx op)||(Nf op==(name==[]))||((op==1&&eK (n<0))||(op==26 && !(n==0||Ce n))||(op != 1&&(op != 26&&n != 0)))
mutual
def iV:d5->Int->Int|.mk op n name kids,d=>cond (eK (32<=d)) 5 (cond (DK op n name kids.length) 1 (cond (Nf op && !rName name) 10 (EZ kids (d+1))))
def EZ:J d5->Int->Int|[],_=>0|k::l,d=>cond (iV k d != 0) (iV k d) (EZ l d)
end
theorem akR(e:d5)(d:Int):iV e d=cond (eK (32<=d)) 5 (cond (DK e.fOp e.fN e.fName e.fKids.length) 1 (cond (Nf e.fOp && !rName e.fName) 10 (EZ e.fKids (d+1)))):=by cases e;rfl
variable{e:d5}
theorem Tt(ho:jc e):bS λF n=>∀d,0<=d->d<=32->kR F n e d=iN (iV e d):=by
 revert e;apply jc.ind;intro e h4 h5 ih;refine bS.succ ((bS.all ih).mg (bS.ge (Ts e.fKids+34) λF n h _=>h) λF m ih hF d Tn ZO=>?_);rw[akR];show mB F (kR F m) e d=_;unfold mB wx;simp only[agk,adB,Ag F _ (by omega:33<=F)];by_cases hd:32<=d
 ·simp_all
 ·rw[bO om];rw[sK e.fKids (λi (_:Unit)=>(i:Int)) (λ_ k=>(kR F m k (d+1)).bind λx=>cond (x != 0) (iN (.inr x)) (iN (.inl ()))) (λ_=>iN 0) (t:=()) om ?_ ?_ ?_]
  ·have key:∀l:J d5,(∀k,k∈l->k∈e.fKids)->q9 (λ_ k=>(kR F m k (d+1)).bind λx=>cond (x != 0) (iN (.inr x)) (iN (.inl ()))) (λ_=>iN 0) l ()=iN (EZ l (d+1)):=by
    intro l
    induction l with
    | nil=>intro _;rfl|cons k l ihl=>
     intro hm;simp[q9,EZ];rw[ih k (hm k si) (d+1) om om];simp;cases (iV k (d+1) != 0)
     ·simp_all[aJ,aD,sm,kI]
     ·rfl
   unfold DK Nf;grind
  ·rfl
  ·intro i h t rc;simp only[y5 h,CZ,ij,b9,gd h,bH (i:=i) om];cases kR F m e.fKids[i] (d+1)with
   | none=>rfl|some x=>simp;cases (x != 0)<;>rfl
  simp_all
theorem aas(ho:jc e):bS λF n=>∀d,0<=d->d<=32->sr F n e d=iN (iV e d):=(Tt ho).mg (bS.ge 33 λF n h _=>h) λF n h hF d h0 h1=>by obtain⟨G,rfl⟩:∃G,F=G+20:=⟨F-20,om⟩;simp_all[adE]
inductive Vd:d5->Prop
 | mk (op n:Int) (name:Bs) (kids:List d5) (h1:(Ts kids:Int)=qx op) (h2:Nf op=!(name==[])) (h3:op=1->0<=n) (h4:op=26->n=0\/Ce n=hJ) (h5:op≠1->op≠26->n=0)
   (h6:Nf op=hJ->rName name=hJ) (h7:∀k,k∈kids->Vd k):Vd (.mk op n name kids)
theorem Tu:∀(l:J d5)(d:Int),EZ l d=0↔∀k,k∈l->iV k d=0
 | [],d=>by simp[EZ]|k::l,d=>by
  simp[EZ];rw[<-Tu l d];cases h:(iV k d != 0)with
  | true=>
   have:iV k d≠0:=by simpa using h
   simp[this]
  | false=>
   have:iV k d=0:=by simpa using h
   simp[this]
variable{n:Int}
theorem anq{op:Int}{name:Bs}{len:Nat}(h:DK op n name len=eQ):
  (len:Int)=qx op/\Nf op=!(name==[])/\(op=1->0<=n)/\(op=26->n=0\/Ce n=hJ)/\(op≠1->op≠26->n=0):=by
 unfold DK at h;grind
theorem JL(e:d5):∀d,iV e d=0->Vd e:=by
 induction e using d5.ind with
 | h op n name kids ih=>
  intro d h;simp[iV]at h;cases h0:eK (32<=d)with
  | true=>rw[h0]at h;simp at h|false=>
   rw[h0]at h;cases h1:DK op n name kids.length with
   | true=>rw[h1]at h;simp at h|false=>
    rw[h1]at h;cases h2:(Nf op && !rName name)with
    | true=>rw[h2]at h;simp at h|false=>rw[h2]at h;simp at h;rw[Tu]at h;obtain⟨a,b,c,d',e⟩:=anq h1;refine .mk op n name kids a b c d' e (λhn=>?_) λk hk=>ih k hk _ (h k hk);simp_all
theorem anr{op:Int}{n:Nat}(h:(n:Int)=qx op):1<=op/\op<=26:=by
 by_cases h1:1<=op/\op<=26
 ·exact h1
 ·have e1:(op==1)=eQ:=by grind
  have e2:(op==2)=eQ:=by grind
  have e3:(op==25)=eQ:=by grind
  have e4:(op==26)=eQ:=by grind
  have k1:(eK (3<=op)&&eK (op<=6))=eQ:=by grind
  have k2:(eK (7<=op)&&eK (op<=24))=eQ:=by grind
  simp only[qx,e1,e2,e3,e4,k1,k2,aa8,aJ]at h;omega
theorem ans{op:Int}(h:1<=op/\op<=26):op=1\/op=2\/op=3\/op=4\/op=5\/op=6\/op=7\/op=8\/op=9\/op=10\/op=11\/op=12\/op=13\/op=14\/op=15\/op=16\/op=17\/op=18\/op=19\/op=20\/op=21\/op=22\/op=23\/op=24\/op=25\/op=26:=om
inductive Kind(op:Int):Prop
 | num (h:op=1\/op=2) (hk:qx op=0) (hl:(mW op).1=14)
 | un (h:3<=op/\op<=6) (hk:qx op=1) (hl:(mW op).1=13) (hs:(mW op).2.length=1)
 | bin (h:7<=op/\op<=24) (hk:qx op=2) (hl:3<=(mW op).1/\(mW op).1<=12) (hs:(mW op).2.length<=2)
 | con (h:op=25) (hk:qx op=3) (hl:(mW op).1=2)
 | set (h:op=26) (hk:qx op=1) (hl:(mW op).1=1)
structure Good(e:d5):Prop where
 v:Vd e
 o:jc e
 m:Nms e
theorem Good.kid(g:Good e):∀k,k∈e.fKids->Good k:=by
 obtain⟨v,o,m⟩:=g;cases e with
 | mk op n name kids=>
  cases v with
  | mk _ _ _ _ h1 h2 h3 h4 h5 h6 h7=>
   cases o with
   | mk _ _ _ _ a1 a2 a3 a4 a5=>cases m with|mk _ _ _ _ b1 b2=>exact λk hk=>⟨h7 k hk,a5 k hk,b2 k hk⟩
theorem Good.ind(h:∀e,Good e->(∀k,k∈e.fKids->P k)->P e):∀e,Good e->P e:=by
 intro e
 induction e using d5.ind with|h op n name kids ih=>intro g;exact h _ g λk hk=>ih k hk (g.kid k hk)
theorem aso(h:(Lit.int .i64 n).wf=hJ):-9223372036854775808<=n/\n<=9223372036854775807:=by
 have h1:IntKind.i64.min=-9223372036854775808:=by decide
 have h2:IntKind.i64.max=9223372036854775807:=by decide
 simp[Lit.wf]at h;omega
theorem Good.facts(g:Good e):(Ts e.fKids:Int)=qx e.fOp/\(e.fOp=1->0<=e.fN)/\e.fN<=9223372036854775807/\e.fName.length<=60/\(e.fOp=26->e.fN=0\/Ce e.fN=hJ):=by
 obtain⟨v,o,m⟩:=g;cases e with
 | mk op n name kids=>
  cases v with
  | mk _ _ _ _ h1 h2 h3 h4 h5 h6 h7=>
   cases o with
   | mk _ _ _ _ a1 a2 a3 a4 a5=>cases m with|mk _ _ _ _ b1 b2=>exact⟨h1,h3,(aso a2).2,b1,h4⟩
variable{R:Type}
theorem adF{n:Nat}{inst:Decidable (n<=9223372036854775807)}(h:n<=1000000)(k:O R):rq (@eK (n<=9223372036854775807) inst) k=k:=cy (eP om)
theorem adG{d:Nat}(h:d<10):cx ([dO .u8 (dO .u64 (48+(d:Int)))]:J Int)=[lL (48+d)]:=by have:d=0\/d=1\/d=2\/d=3\/d=4\/d=5\/d=6\/d=7\/d=8\/d=9:=om;rcases this with rfl|rfl|rfl|rfl|rfl|rfl|rfl|rfl|rfl|rfl<;>rfl
theorem KM:∀(k u m:Nat)(out:Bs),u<10^(k+1)->u<18446744073709551616->k<m->Ts out+k<=1000->bW (σ:=Int×Bs) (λbD x1=>
   cond (eK (9<x1.1))
   (rq (eK (Ts (cx ([dO .u8 (dO .u64 (48+(Int.tmod x1.1 10)))]:J Int))+Ts x1.2<=9223372036854775807)) (bD (dO .u64 (Int.tdiv x1.1 10),(cx ([dO .u8 (dO .u64 (48+(Int.tmod x1.1 10)))]:J Int))++x1.2)))
   (rq (eK (Ts (cx ([dO .u8 (dO .u64 (48+x1.1))]:J Int))+Ts x1.2<=9223372036854775807)) (iN ((cx ([dO .u8 (dO .u64 (48+x1.1))]:J Int))++x1.2)))) m ((u:Int),out)=iN (Lib.decDigits u++out)
 | k,u,0,out,_,_,h,_=>by omega|k,u,m+1,out,hu,hu',hk,ho=>by
  simp only[bW];by_cases h9:u<10
  ·rw[show eK (9<(u:Int))=eQ by simp;omega];simp;rw[adG h9,adF aQ,Lib.decDigits_one h9]
  ·have e1:Int.tmod (u:Int) 10=((u%10:Nat):Int):=IntWalk.up_tmod rfl rfl;have e2:Int.tdiv (u:Int) 10=((u / 10:Nat):Int):=IntWalk.up_tdiv rfl rfl;rw[show eK (9<(u:Int))=hJ by simp;omega];simp only[e1,e2];rw[adG (aa2 _ de),adF aQ,qN _ om];cases k with|zero=>simp at hu;omega|succ k=>rw[KM k (u / 10) m _ om om om aQ];rw[Lib.decDigits.eq_1 u,dif_neg h9];simp
theorem aiR(F:Nat)(hF:30<=F)(h0:0<=n)(h1:n<=9223372036854775807):dW F n=iN (Lib.itoa n):=by obtain⟨u,rfl⟩:∃u:Nat,n=u:=⟨n.toNat,om⟩;unfold dW xL wx;rw[show eK ((u:Int)<0)=eQ by simp,qN (u:Int) om];rw[KM 20 u F [] om om om si];unfold Lib.itoa;simp_all
theorem LB(ho:jc e):bS λF _=>El F e=iN (iV e 0):=(aas ho).fst.mono λF _ h=>by unfold El Tv wx;simp_all
theorem zM{R σ:Type}{body:(σ->O R)->σ->O R}{s:Bs}{p:UInt8->Bool}{fin:Nat->O R}(st:Nat->σ)
  (hs:∀(i:Nat) rc (h:i<Ts s),body rc (st i)=cond (p s[i]) (rc (st (i+1))) (fin i)) (he:∀rc,body rc (st s.length)=fin s.length) :
  ∀(k i F:Nat),i+k=Ts s->k<F->bW body F (st i)=fin (i+Ts ((s.drop i).takeWhile p))
 | 0,i,F,h,hF=>by
  cases F with
  | zero=>omega|succ F=>obtain rfl:i=Ts s:=om;rw[Mc];exact he _
 | k+1,i,F,h,hF=>by
  cases F with
  | zero=>omega|succ F=>have hi:i<Ts s:=om;show body (bW body F) (st i)=_;rw[hs i _ hi,sR hi,UX];cases p s[i]with|false=>simp|true=>simp only[aS,if_true,pM];rw[zM st hs he k (i+1) F om om];congr 1;omega
def bl(b:UInt8):Bool:=(b.toNat:Int)==9||(b.toNat:Int)==10||(b.toNat:Int)==32
def fo(b:UInt8):Bool:=tv (b.toNat:Int)
def dg(b:UInt8):Bool:=gw (b.toNat:Int)
def le(b:UInt8):Bool:=pH (b.toNat:Int)||(b.toNat:Int)==95
def skip(s:Bs)(i:Nat):Nat:=i+Ts ((s.drop i).takeWhile bl)
def mC(s:Bs)(j:Nat):Bs:=(s.drop j).takeWhile fo
def Ai:J Bs:=[[60,60,61],[62,62,61],[60,60],[62,62],[60,61],[62,61],[61,61],[33,61],[38,38],[124,124],[43,61],[45,61],[42,61],[47,61],[37,61],[38,61],[94,61],[124,61]]
def aiS:J Bs:=[[43],[45],[42],[47],[37],[60],[62],[38],[94],[124],[33],[126],[63],[58],[40],[41],[61]]
def qy:J Bs:=Ai++aiS
def oO(l:Bs):Bs:=(qy.find? λo=>o.isPrefixOf l).getD []
def WI(s:Bs)(j:Nat):fU:=match s.drop j with|[]=>⟨0,j,[]⟩|b::_=>cond (fo b) ⟨cond (dg b) 1 2,j,mC s j⟩ (cond (oO (s.drop j)==[]) ⟨4,j,[b]⟩ ⟨3,j,oO (s.drop j)⟩)
def ve(s:Bs)(i:Nat):fU:=WI s (skip s i)
theorem N6{l p:Bs}:(l.take p.length==p)=p.isPrefixOf l:=by rw[tC,uJ,aba,List.prefix_iff_eq_take];exact eq_comm
theorem Aj(p:α->Bool)(l:J α):(l.takeWhile p).length<=Ts l:=(List.takeWhile_sublist _).length_le
theorem iS(s:Bs)(i:Nat)(h:i<=Ts s):skip s i<=Ts s/\i<=skip s i:=by have:=Aj bl (s.drop i);rw[Km]at this;unfold skip;omega
theorem LC{α:Type}(p:α->Bool):∀l:J α,l.drop (l.takeWhile p).length=l.dropWhile p
 | []=>rfl|x::l=>by rw[UX,Mg];cases p x with|true=>simpa using LC p l|false=>rfl
theorem akS(s:Bs)(i:Nat):s.drop (skip s i)=(s.drop i).dropWhile bl:=by unfold skip;rw[<-agQ,LC]
theorem LF{α:Type}(p:α->Bool):∀(l:J α)(b:α)(m:J α),l.dropWhile p=b::m->p b=eQ
 | [],b,m,h=>by simp at h|x::l,b,m,h=>by rw[Mg]at h;cases hx:p x with|true=>rw[hx]at h;exact LF p l b m (by simpa using h)|false=>rw[hx]at h;simp at h;rw[<-h.1];exact hx
theorem xM(s:Bs)(i:Nat):skip s (skip s i)=skip s i:=by
 have:(s.drop (skip s i)).takeWhile bl=[]:=by rw[akS];cases h:(s.drop i).dropWhile bl with|nil=>rfl|cons b m=>rw[UX,LF bl _ b m h];rfl
 rw[skip,this];rfl
theorem ant(F:Nat)(b:UInt8):Em F (b.toNat:Int)=iN (bl b):=by unfold Em bl wx;cases ((b.toNat:Int)==9)<;>cases ((b.toNat:Int)==10)<;>rfl
theorem akT(c:Int):tv c=hJ↔(97<=c/\c<=122)\/(65<=c/\c<=90)\/(48<=c/\c<=57)\/c=95:=by unfold tv pH gw;simp only[Mh,cL,fV,uJ];omega
theorem WJ(F:Nat)(b:UInt8):pX F (b.toNat:Int)=iN (fo b):=by
 unfold pX fo wx;generalize(b.toNat:Int)=c;have:tv c=(c==95||(eK (48<=c)&&eK (c<=57))||(eK (65<=c)&&eK (c<=90))||(eK (97<=c)&&eK (c<=122))):=by rw[tC,akT];simp only[Mh,cL,fV,uJ];omega
 rw[this];cases (c==95)<;>cases eK (48<=c)<;>cases eK (c<=57)<;>cases eK (65<=c)<;>cases eK (c<=90)<;>cases eK (97<=c)<;>cases eK (c<=122)<;>rfl
theorem xN(F:Nat)(b:UInt8):o5 F (b.toNat:Int)=iN (le b):=by unfold o5 le pH wx;generalize(b.toNat:Int)=c;cases (c==95)<;>cases eK (65<=c)<;>cases eK (c<=90)<;>cases eK (97<=c)<;>cases eK (c<=122)<;>rfl
theorem adH(F:Nat)(b:UInt8):zN F (b.toNat:Int)=iN (dg b):=by unfold zN dg gw wx;cases eK (48<=(b.toNat:Int))<;>rfl
theorem aoV(b:UInt8):fo b=(le b||dg b):=by unfold fo tv le dg;cases pH (b.toNat:Int)<;>cases gw (b.toNat:Int)<;>cases ((b.toNat:Int)==95)<;>rfl
theorem Cf(F:Nat)(a p:Bs):cE F a p=iN (p.isPrefixOf a):=by
 unfold cE kD wx;by_cases h:Ts p<=Ts a
 ·have e1:eK ((Ts p:Int)<=(Ts a:Int))=hJ:=eP om;simp only[e1,CZ,wQ,aS,ij,aD];unfold sl;simp only[b9,Int.toNat_zero,TH,N6]
 ·have e1:eK ((Ts p:Int)<=(Ts a:Int))=eQ:=uH om;simp only[e1,aJ,aD];congr 1;apply Eq.symm;apply TJ.2;intro hp;rw[aba]at hp;exact h hp.length_le
theorem uB(F:Nat)(s:Bs)(i:Nat)(e pos:Int)(hi:i<=Ts s)(hF:Ts s<F)(hl:Ts s<=1000000):gy F s (i:Int) e pos=iN (s,(skip s i:Int),e,pos):=by
 unfold gy wx
 exact zM (s:=s) (p:=bl) (fin:=λj=>iN (s,(j:Int),e,pos)) (λj=>(s,(j:Int),e,pos)) (λj rc h=>by
  simp only[y5 h,CZ,wQ,aS,ij,b9,gd h,bH (i:=j) om];unfold bl;cases ((s[j].toNat:Int)==9)<;>cases ((s[j].toNat:Int)==10)<;>cases ((s[j].toNat:Int)==32)<;>rfl) (λrc=>by
  simp only[Ii,aJ,aD]) (Ts s-i) i F om om
theorem WK(s:J α)(i n:Nat):sl s (i:Int) ((i+n:Nat):Int)=(s.drop i).take n:=by unfold sl;rw[b9,b9,List.take_drop]
theorem DL{α:Type}(p:α->Bool):∀l:J α,l.take (l.takeWhile p).length=l.takeWhile p
 | []=>rfl|x::l=>by rw[UX];cases p x with|true=>simpa using DL p l|false=>rfl
theorem Ng(F:Nat)(s:Bs)(i:Nat)(e pos:Int)(hi:i<=Ts s)(hF:Ts s<F)(hl:Ts s<=1000000):qf F s (i:Int) e pos=iN (mC s i):=by
 unfold qf wx;have hw:=Aj fo (s.drop i);rw[Km]at hw
 refine(zM (s:=s) (p:=fo) (fin:=λ(j:Nat)=>rq ((eK (0<=(i:Int)))&&((eK ((i:Int)<=(j:Int)))&&(eK ((j:Int)<=(Ts s:Int))))) (iN (sl s i j))) (λj=>(j:Int)) (λj rc h=>by
  simp only[y5 h,CZ,wQ,aS,ij,b9,gd h,bH (i:=j) om,xN,adH,aD];rw[aoV];cases le s[j]<;>cases dg s[j]<;>rfl) (λrc=>by
  simp only[Ii,aJ,aD]) (Ts s-i) i F om om).trans ?_
 rw[cy (by simp only[cL,fV];omega),WK,DL];rfl
theorem oA(F:Nat)(s:Bs)(i:Nat)(e pos:Int)(hi:i<=Ts s)(hF:Ts s+50<F)(hl:Ts s<=1000000):iH F s (i:Int) e pos=iN (oO (s.drop (skip s i)),s,(skip s i:Int),e,pos):=by
 unfold iH wx;obtain⟨h1,h2⟩:=iS s i hi;rw[uB F s i e pos hi om hl,show Cg F=iN qy from rfl];simp only[aD];generalize hj:skip s i=j at h1 h2⊢;have oz:∀o,o∈qy->Ts o<=3:=by decide
 have hlen:Ts qy=35:=rfl;unfold oO;generalize qy=L at oz hlen⊢;rw[sK L (λk (_:Unit)=>(k:Int)) (λ(_:Unit) o=>cond (o.isPrefixOf (s.drop j)) (iN (.inr (o,s,(j:Int),e,pos))) (iN (.inl ()))) (λ_=>iN ([],s,(j:Int),e,pos)) (t:=()) om ?_ ?_ ?_]
 ·clear oz hlen
  induction L with
  | nil=>rfl|cons o l ih=>
   simp only[q9,OU];cases o.isPrefixOf (s.drop j)
   ·simpa[sm]using ih
   ·rfl
 ·rfl
 ·intro k h t rc;have h3:=oz _ (fm h);simp only[y5 h,CZ,wQ,aS,ij,b9,gd h,bH (i:=k) om];rw[bO (x:=(Ts s:Int)-(j:Int)) om,bO (x:=(j:Int)+(L[k].length:Int)) om];by_cases hle:L[k].length<=Ts s-j
  ·rw[show eK ((L[k].length:Int)<=(Ts s:Int)-(j:Int))=hJ from eP om];have hc:(eK ((j:Int)<=(j:Int)+(L[k].length:Int))&&eK ((j:Int)+(L[k].length:Int)<=(Ts s:Int)))=hJ:=by simp only[cL,fV];omega
   simp only[hc,wQ,aS,ij,aD];rw[show(j:Int)+(L[k].length:Int)=((j+L[k].length:Nat):Int) by omega,WK,N6];cases L[k].isPrefixOf (s.drop j)<;>rfl
  ·rw[show eK ((L[k].length:Int)<=(Ts s:Int)-(j:Int))=eQ from uH om];have:L[k].isPrefixOf (s.drop j)=eQ:=by apply TJ.2;intro hp;rw[aba]at hp;have:=hp.length_le;rw[Km]at this;omega
   rw[this];rfl
 ·intro t rc;simp only[Ii,aJ]
theorem Yn:∀(l:Bs)(c:UInt8),eK (0<=lO l c)=l.contains c
 | [],c=>rfl|b::l,c=>by
  have ih:=Yn l c;have hge:=Lib.indexByte_ge l c;unfold lO;rw[agV];by_cases h:b=c
  ·subst h;simp
  ·have h1:(b==c)=eQ:=by simpa using h
   have h2:(c==b)=eQ:=by simpa using λe:c=b=>h e.symm
   rw[h1,h2];simp only[Rl,TL,OZ];rw[<-ih];by_cases hm:lO l c=-1
   ·simp[hm]
   ·have:(lO l c == -1)=eQ:=by simpa using hm
    rw[this];simp only[Rl,TL];rw[eP om,eP om]
def WL:Bs:=[43,45,42,47,37,60,62,38,94,124,33,126,63,58,40,41,61]
def Ak:Bs:=[61,63,58,124,94,38,60,62,43,45,42,47,37,33,126,40,41]
theorem Tw:∀(l:Bs)(b:UInt8)(m:Bs),((l.map λx=>[x]).find? λo=>o.isPrefixOf (b::m))=cond (l.contains b) (iN [b]) iF
 | [],b,m=>rfl|x::l,b,m=>by
  rw[jF,OU,agV];by_cases h:x=b
  ·subst h;simp[List.isPrefixOf]
  ·have h1:(x==b)=eQ:=by simpa using h
   have h2:(b==x)=eQ:=by simpa using λe:b=x=>h e.symm
   have h3:[x].isPrefixOf (b::m)=eQ:=by simp[List.isPrefixOf,h1]
   rw[h3,h2,Tw l b m];rfl
theorem anu(b:UInt8):Ak.contains b=WL.contains b:=by rw[tC,abb,abb];exact⟨λh=>(by decide:∀x,x∈Ak->x∈WL) b h,λh=>(by decide:∀x,x∈WL->x∈Ak) b h⟩
theorem aiT(b:UInt8)(m:Bs):oO (b::m)=match Ai.find? (λo=>o.isPrefixOf (b::m))with|some o=>o|none=>cond (Ak.contains b) [b] []:=by
 unfold oO qy;rw[List.find?_append,show aiS=WL.map λx=>[x]from rfl,Tw,<-anu];cases Ai.find? (λo=>o.isPrefixOf (b::m))with
 | some o=>rfl|none=>cases Ak.contains b<;>rfl
theorem DM:∀o,o∈qy->o≠[]:=by decide
theorem Qs(l:Bs):oO l=[]\/oO l∈qy/\oO l <+: l:=by unfold oO;cases h:qy.find? (λo=>o.isPrefixOf l)with|none=>exact .inl rfl|some o=>right;have h1:=UR h;have h2:=abc h;exact⟨h1,aba.1 h2⟩
theorem Yo(F:Nat)(s:Bs)(i:Nat)(hi:i<=Ts s)(hF:Ts s+50<F)(hl:Ts s<=1000000):vf F s (i:Int)=iN (ve s i):=by
 unfold vf wx;refine(zM (s:=s) (p:=bl) (fin:=λj=>
  (cond ((j:Int)==(Ts s:Int))
  (iN (fU.mk 0 (j:Int) []))
  (rq ((eK (0<=(j:Int)))&&(eK ((j:Int)<(Ts s:Int)))) ((pX F ((s.getD (eJ (j:Int)) 0).toNat:Int)).bind λx5=>
  cond x5
  (bW (σ:=Int) (R:=fU) (λyZ x6=>
  (cond (eK (x6<(Ts s:Int)))
  (rq ((eK (0<=x6))&&(eK (x6<(Ts s:Int)))) ((pX F ((s.getD (eJ x6) 0).toNat:Int)).bind λx9=>
  iN x9))
  (iN eQ):Option Bool).bind λx8=>
  cond x8
  (yZ (aE (x6+1)))
  ((rq ((eK (0<=(j:Int)))&&(eK ((j:Int)<(Ts s:Int)))) (cond (eK (48<=((s.getD (eJ (j:Int)) 0).toNat:Int)))
  (rq ((eK (0<=(j:Int)))&&(eK ((j:Int)<(Ts s:Int)))) (iN (eK (((s.getD (eJ (j:Int)) 0).toNat:Int)<=57))))
  (iN eQ)):Option Bool).bind λcA=>
  cond cA
  (rq ((eK (0<=(j:Int)))&&((eK ((j:Int)<=x6))&&(eK (x6<=(Ts s:Int))))) (iN (fU.mk 1 (j:Int) (sl s (j:Int) x6))))
  (rq ((eK (0<=(j:Int)))&&((eK ((j:Int)<=x6))&&(eK (x6<=(Ts s:Int))))) (iN (fU.mk 2 (j:Int) (sl s (j:Int) x6)))))) F (aE ((j:Int)+1)))
  (bW (σ:=Int) (R:=fU) (λanv gi=>
  cond (eK (gi<(Ts Ai:Int)))
  (rq ((eK (0<=gi))&&(eK (gi<(Ts Ai:Int)))) (rq ((eK (0<=(j:Int)))&&((eK ((j:Int)<=(Ts s:Int)))&&(eK ((Ts s:Int)<=(Ts s:Int))))) ((cE F (sl s (j:Int) (Ts s:Int)) (Ai.getD (eJ gi) [])).bind λgp=>
  cond gp
  (iN (fU.mk 3 (j:Int) (Ai.getD (eJ gi) [])))
  (anv (aE (gi+1))))))
  (rq ((eK (0<=(j:Int)))&&(eK ((j:Int)<(Ts s:Int)))) ((strings_IndexByte F ([61,63,58,124,94,38,60,62,43,45,42,47,37,33,126,40,41]:Bs) ((s.getD (eJ (j:Int)) 0).toNat:Int)).bind λuC=>
  cond (eK (0<=uC))
  (rq ((eK (0<=(j:Int)))&&((eK ((j:Int)<=aE ((j:Int)+1)))&&(eK (aE ((j:Int)+1)<=(Ts s:Int))))) (iN (fU.mk 3 (j:Int) (sl s (j:Int) (aE ((j:Int)+1))))))
  (rq ((eK (0<=(j:Int)))&&((eK ((j:Int)<=aE ((j:Int)+1)))&&(eK (aE ((j:Int)+1)<=(Ts s:Int))))) (iN (fU.mk 4 (j:Int) (sl s (j:Int) (aE ((j:Int)+1))))))))) F 0))))) (λj=>(j:Int)) (λj rc h=>by
  simp only[y5 h,CZ,wQ,aS,ij,b9,gd h,bH (i:=j) om,ant,aD];rfl) (λrc=>by
  simp only[Ii,aJ,aD];rfl) (Ts s-i) i F om om).trans ?_
 obtain⟨h1,h2⟩:=iS s i hi;show _=iN (WI s (skip s i));rw[show i+Ts ((s.drop i).takeWhile bl)=skip s i from rfl];generalize skip s i=j at h1 h2⊢;unfold WI;by_cases hj:j=Ts s
 ·subst hj;rw[Mc];simp only[Db,aS]
 ·have hj':j<Ts s:=om;have e0:((j:Int)==(Ts s:Int))=eQ:=by rw[iq];omega
  simp only[e0,aJ,y5 hj',CZ,wQ,ij,b9,gd hj',WJ,aD,bH (i:=j) om];have hd:=sR hj';rw[hd];simp only[];cases hfo:fo s[j]with
  | true=>
   simp only[aS];have hw:=Aj fo (s.drop (j+1));rw[Km]at hw
   refine(zM (s:=s) (p:=fo) (fin:=λ(k:Nat)=>cond (dg s[j]) (rq ((eK ((j:Int)<=(k:Int)))&&(eK ((k:Int)<=(Ts s:Int)))) (iN (fU.mk 1 (j:Int) (sl s j k)))) (rq ((eK ((j:Int)<=(k:Int)))&&(eK ((k:Int)<=(Ts s:Int)))) (iN (fU.mk 2 (j:Int) (sl s j k))))) (λk=>(k:Int)) (λk rc h=>by
    simp only[y5 h,CZ,wQ,aS,ij,b9,gd h,bH (i:=k) om,WJ,aD,Ko];unfold dg gw;cases fo s[k]<;>cases eK (48<=(s[j].toNat:Int))<;>cases eK ((s[j].toNat:Int)<=57)<;>rfl) (λrc=>by
    simp only[Ii,aJ,aD,Ko];unfold dg gw;cases eK (48<=(s[j].toNat:Int))<;>cases eK ((s[j].toNat:Int)<=57)<;>rfl) (Ts s-(j+1)) (j+1) F om om).trans ?_
   have hlen:((s.drop j).takeWhile fo).length=1+Ts ((s.drop (j+1)).takeWhile fo):=by rw[hd,UX,hfo];simp;omega
   have hc:(eK ((j:Int)<=((j+1+Ts ((s.drop (j+1)).takeWhile fo):Nat):Int))&&eK (((j+1+Ts ((s.drop (j+1)).takeWhile fo):Nat):Int)<=(Ts s:Int)))=hJ:=by simp only[cL,fV];omega
   have NO:sl s (j:Int) ((j+1+Ts ((s.drop (j+1)).takeWhile fo):Nat):Int)=mC s j:=by rw[show j+1+Ts ((s.drop (j+1)).takeWhile fo)=j+Ts ((s.drop j).takeWhile fo) by omega,WK,DL];rfl
   rw[hc,NO];cases dg s[j]<;>rfl
  | false=>
   simp only[aJ];have oz:∀o,o∈Ai->Ts o<=3:=by decide
   have hlen:Ts Ai=18:=rfl;rw[<-hd,hd,aiT];have hne:∀o,o∈Ai->o≠[]:=by decide
   generalize Ai=L at oz hlen hne⊢;have h1:aE ((j:Int)+1)=((j+1:Nat):Int):=bH om;have hs1:sl s (j:Int) ((j+1:Nat):Int)=[s[j]]:=by rw[WK,hd];rfl
   have NO:sl s (j:Int) (Ts s:Int)=s.drop j:=by unfold sl;rw[b9,b9,sS]
   have hc:(eK ((j:Int)<=((j+1:Nat):Int))&&eK (((j+1:Nat):Int)<=(Ts s:Int)))=hJ:=by simp only[cL,fV];omega
   have Li:(eK ((j:Int)<=(Ts s:Int))&&eK ((Ts s:Int)<=(Ts s:Int)))=hJ:=by simp only[cL,fV];omega
   rw[sK L (λk (_:Unit)=>(k:Int)) (λ(_:Unit) o=>cond (o.isPrefixOf (s.drop j)) (iN (.inr (fU.mk 3 (j:Int) o))) (iN (.inl ()))) (λ_=>cond (Ak.contains s[j]) (iN (fU.mk 3 (j:Int) [s[j]])) (iN (fU.mk 4 (j:Int) [s[j]]))) (t:=()) om ?_ ?_ ?_]
   ·have key:∀l:J Bs,q9 (λ(_:Unit)(o:Bs)=>cond (o.isPrefixOf (s.drop j)) (iN (.inr (fU.mk 3 (j:Int) o))) (iN (.inl ()))) (λ_=>cond (Ak.contains s[j]) (iN (fU.mk 3 (j:Int) [s[j]])) (iN (fU.mk 4 (j:Int) [s[j]]))) l ()=match l.find? (λo=>o.isPrefixOf (s.drop j))with|some o=>iN (fU.mk 3 (j:Int) o)|none=>cond (Ak.contains s[j]) (iN (fU.mk 3 (j:Int) [s[j]])) (iN (fU.mk 4 (j:Int) [s[j]])):=by
     intro l
     induction l with
     | nil=>rfl|cons o l ih=>
      simp only[q9,OU];cases o.isPrefixOf (s.drop j)
      ·simpa[sm]using ih
      ·rfl
    rw[key,<-hd];cases hf:L.find? (λo=>o.isPrefixOf (s.drop j))with
    | some o=>
     have h1:=hne o (UR hf);have:(o==[])=eQ:=by simpa using h1
     simp only[this,aJ]
    | none=>cases Ak.contains s[j]<;>rfl
   ·rfl
   ·intro k h t rc;simp only[y5 h,CZ,wQ,aS,ij,b9,gd h,bH (i:=k) om,Li,NO,Cf,aD];cases L[k].isPrefixOf (s.drop j)<;>rfl
   ·intro t rc;have hix:strings_IndexByte F Ak (s[j].toNat:Int)=iN (lO Ak s[j]):=by unfold strings_IndexByte stringslite_IndexByte sw Y6 wx;simp
    simp only[Ii,aJ];show(strings_IndexByte F Ak (s[j].toNat:Int)).bind _=_;rw[hix];simp only[aD,Yn,hc,hs1,ij,Ko]
theorem Qt{R σ α:Type}{body:(σ->O R)->σ->O R}{l:J α}{p:α->Bool}{z:O R}(st:Nat->σ)(hs:∀(i:Nat) rc (h:i<Ts l),body rc (st i)=cond (p l[i]) (rc (st (i+1))) z):
  ∀(k i F:Nat),i+k=Ts l->k<F->(l.drop i).all p=eQ->bW body F (st i)=z
 | 0,i,F,h,hF,hb=>by simp_all|k+1,i,F,h,hF,hb=>by
  cases F with
  | zero=>omega|succ F=>have hi:i<Ts l:=om;show body (bW body F) (st i)=z;rw[hs i _ hi];rw[sR hi,UU]at hb;cases hp:p l[i]with|false=>rfl|true=>rw[hp]at hb;exact Qt st hs k (i+1) F om om hb
def at6:Bs:=[48,49,50,51,52,53,54,55,56,57,97,98,99,100,101,102]
def dR(b:UInt8):Int:=cond (dg b) ((b.toNat:Int)-48) (cond (eK (97<=(b.toNat:Int))&&eK ((b.toNat:Int)<=102)) ((b.toNat:Int)-87) (cond (eK (65<=(b.toNat:Int))&&eK ((b.toNat:Int)<=70)) ((b.toNat:Int)-55) (-1)))
def dA(b:UInt8):Int:=lO at6 (Td .u8 (b.toNat:Int) (cond (eK (65<=(b.toNat:Int))&&eK ((b.toNat:Int)<=90)) 32 0)).toNat.toUInt8
theorem asp:∀n:Fin 256,dA (lL n.val)=dR (lL n.val):=by decide +kernel
theorem Uu{P:UInt8->Prop}(h:∀n:Fin 256,P (lL n.val))(b:UInt8):P b:=by have:=h ⟨b.toNat,b.toNat_lt⟩;simpa using this
def at7(b:UInt8):dA b=dR b:=Uu (P:=λb=>dA b=dR b) asp b
def okD(base:Int)(l:Bs):Bool:=l.all λb=>eK (0<=dR b)&&eK (dR b<base)
def s8(base v:Nat)(l:Bs):Nat:=l.foldl (λv b=>v*base+(dR b).toNat) v
theorem Yp(base:Nat)(hb:1<=base):∀(l:Bs)(v:Nat),v<=s8 base v l
 | [],v=>ep _|b::l,v=>by have h1:=Yp base hb l (v*base+(dR b).toNat);have h2:=abd v hb;show v<=s8 base (v*base+(dR b).toNat) l;omega
def ri(base v:Nat)(l:Bs):Int×Int:=cond (okD (base:Int) l) (cond (eK (s8 base v l<=9223372036854775807)) ((s8 base v l:Int),0) (0,14)) (0,6)
def mU(s:Bs):Nat×Bs:=cond ((([48,120]:Bs).isPrefixOf s)||(([48,88]:Bs).isPrefixOf s)) (16,s.drop 2) (cond (((s.getD 0 0).toNat:Int)==48) (8,s) (10,s))
def pY(s:Bs):Int×Int:=cond ((mU s).2==[]) (0,6) (ri (mU s).1 0 (mU s).2)
theorem div_lt{d base most:Int}(hb:1<=base)(hd:0<=d)(VN:d<=most):(most-d) / base<n↔most<n*base+d:=by grind[Int.ediv_lt_iff_lt_mul]
theorem JM(base:Nat)(hb:1<=base/\base<=16):∀(l:Bs)(n:Int)(Il:Bool)(v:Nat),(Il=eQ->n=(v:Int)/\v<=9223372036854775807)->(Il=hJ->9223372036854775807<v) ->
  q9 (λt (b:UInt8)=>cond (eK (dR b<0)||decide ((base:Int)<=dR b)) (iN (.inr ((0,6):Int×Int))) (cond (t.2||decide (aE (Int.tdiv (aE (9223372036854775807-dR b)) (base:Int))<t.1)) (iN (.inl (t.1,hJ))) (iN (.inl (aE (aE (t.1*(base:Int))+dR b),t.2)))))
   (λt=>cond t.2 (iN (0,14)) (iN (t.1,0))) l (n,Il)=iN (ri base v l)
 | [],n,Il,v,h1,h2=>by
  cases Il with
  | false=>obtain⟨rfl,h⟩:=h1 rfl;simp[q9,ri,okD,s8,h]
  | true=>
   have h3:¬ v<=9223372036854775807:=by have:=h2 rfl;omega
   simp[q9,ri,okD,s8,h3]
 | b::l,n,Il,v,h1,h2=>by
  simp[q9];by_cases hbad:dR b<0\/(base:Int)<=dR b
  ·have e1:(eK (dR b<0)||decide ((base:Int)<=dR b))=hJ:=by simpa using hbad
   have e2:okD (base:Int) (b::l)=eQ:=by unfold okD;grind
   rw[e1];simp[ri,e2,sm]
  ·have e1:(eK (dR b<0)||decide ((base:Int)<=dR b))=eQ:=by simp_all
   have e2:okD (base:Int) (b::l)=okD (base:Int) l:=by unfold okD;simp_all
   have e3:ri base v (b::l)=ri base (v*base+(dR b).toNat) l:=by unfold ri;rw[e2];rfl
   rw[e1,e3];have hm:((v*base+(dR b).toNat:Nat):Int)=(v:Int)*(base:Int)+dR b:=by grind
   have hvb:=abd v hb.1;cases Il with
   | true=>have:=h2 rfl;exact JM base hb l n hJ _ (λh=>by cases h) λ_=>by omega
   | false=>
    obtain⟨rfl,hv⟩:=h1 rfl;rw[bO (x:=9223372036854775807-dR b) om,show aE (Int.tdiv (9223372036854775807-dR b) (base:Int))=(9223372036854775807-dR b) / (base:Int)from IntWalk.i64_quo _ _ om];by_cases hx:(9223372036854775807-dR b) / (base:Int)<(v:Int)
    ·rw[eP hx];rw[div_lt om om om]at hx;exact JM base hb l v hJ _ (λh=>by cases h) λ_=>by omega
    ·rw[uH hx];rw[div_lt om om om]at hx;rw[bO (x:=(v:Int)*(base:Int)) om,bO om];exact JM base hb l _ eQ _ (λ_=>⟨hm.symm,om⟩) λh=>by cases h
theorem anw(F:Nat)(c:Int):En F c=iN (cond (eK (65<=c)&&eK (c<=90)) 32 0):=by unfold En wx;grind
theorem adI(s:Bs):(1<=(mU s).1/\(mU s).1<=16)/\(mU s).2.length<=Ts s:=by unfold mU;grind
theorem anx(F:Nat)(s:Bs)(h0:s≠[])(hF:Ts s<F)(hl:Ts s<=1000000):zO F s=iN (pY s):=by
 obtain⟨hb,hlen⟩:=adI s;have hpos:=Bn.2 h0;have e1:((cE F s ([48,120]:Bs)).bind λx3=>cond x3 (iN hJ) ((cE F s ([48,88]:Bs)).bind λx4=>iN x4):O Bool)=iN (([48,120]:Bs).isPrefixOf s||([48,88]:Bs).isPrefixOf s):=by grind[Cf]
 have CX:(cond (([48,120]:Bs).isPrefixOf s||([48,88]:Bs).isPrefixOf s)
   (rq ((eK (2<=(Ts s:Int)))&&(eK ((Ts s:Int)<=(Ts s:Int)))) (iN ((16:Int),sl s 2 (Ts s:Int))))
   (rq (eK (0<(Ts s:Int))) (cond (((s.getD 0 0).toNat:Int)==48) (iN (8,s)) (iN (10,s)))):O (Int×Bs))=iN (((mU s).1:Int),(mU s).2):=by
  unfold mU;cases hp:(([48,120]:Bs).isPrefixOf s||([48,88]:Bs).isPrefixOf s)with|true=>rw[cy (by grind)];unfold sl;simp|false=>simp;rw[cy (by simp_all)];grind
 unfold zO wx;rw[e1];simp only[aD];rw[CX];simp only[aD];unfold pY;generalize(mU s).2=l at hlen⊢;generalize(mU s).1=base at hb⊢;cases (l==[])with
 | true=>rfl|false=>
  rw[sK l (λi (t:Int×Bool)=>(t.1,t.2,(i:Int))) (λt (b:UInt8)=>cond (eK (dR b<0)||decide ((base:Int)<=dR b)) (iN (.inr ((0,6):Int×Int))) (cond (t.2||decide (aE (Int.tdiv (aE (9223372036854775807-dR b)) (base:Int))<t.1)) (iN (.inl (t.1,hJ))) (iN (.inl (aE (aE (t.1*(base:Int))+dR b),t.2)))))
    (λt=>cond t.2 (iN (0,14)) (iN (t.1,0))) (t:=(0,eQ)) om ?_ ?_ ?_]
  ·grind[JM]
  ·rfl
  ·intro i h t rc;simp only[y5 h,CZ,wQ,aS,ij,b9,gd h,bH (i:=i) om,anw,aD];have hix:strings_IndexByte F ([48,49,50,51,52,53,54,55,56,57,97,98,99,100,101,102]:Bs) (Td .u8 (l[i].toNat:Int) (cond (eK (65<=(l[i].toNat:Int))&&eK ((l[i].toNat:Int)<=90)) 32 0))=iN (dR l[i]):=by rw[<-at7];rfl
   rw[hix];have hz:(!((base:Int)==0))=hJ:=by simp;omega
   simp only[aD,hz,ij];cases eK (dR l[i]<0)<;>cases eK ((base:Int)<=dR l[i])<;>cases t.2<;>simp
   all_goals first|rfl|(cases eK (aE (Int.tdiv (aE (9223372036854775807-dR l[i])) (base:Int))<t.1)<;>rfl)
  simp_all
theorem vR(F:Nat)(b:UInt8)(base:Int):zP F (b.toNat:Int) base=iN (cond (eK (base<=dR b)) (-1) (dR b)):=by
 have hb:=b.toNat_lt;unfold zP wx;rw[adH];simp only[aD];unfold dR;cases hd:dg b with
 | true=>unfold dg gw at hd;simp only[cL,fV]at hd;simp only[aS,aD];rw[Rm _ om,bO om];grind|false=>
  simp only[aJ];by_cases h3:97<=(b.toNat:Int)/\(b.toNat:Int)<=102
  ·rw[eP h3.1,eP h3.2,Rm _ om,bO (x:=(b.toNat:Int)-97) om,bO (x:=(b.toNat:Int)-97+10) om];grind
  ·have e3:(eK (97<=(b.toNat:Int))&&eK ((b.toNat:Int)<=102))=eQ:=by simp_all
   have e3':(cond (eK (97<=(b.toNat:Int))) (iN (eK ((b.toNat:Int)<=102))) (iN eQ):O Bool)=iN eQ:=by grind
   rw[e3',e3];simp only[aD,aJ];by_cases h4:65<=(b.toNat:Int)/\(b.toNat:Int)<=70
   ·rw[eP h4.1,eP h4.2,Rm _ om,bO (x:=(b.toNat:Int)-65) om,bO (x:=(b.toNat:Int)-65+10) om];grind
   grind
theorem aiU{base:Int}(hb:1<=base)(b:UInt8):eK (cond (eK (base<=dR b)) (-1) (dR b)<0)=!(eK (0<=dR b)&&eK (dR b<base)):=by grind
theorem ZY(base:Nat)(hb:1<=base/\base<=16):∀(l:Bs)(v:Nat),okD (base:Int) l=hJ->v<=9223372036854775808 ->
  ∃n e,q9 (λt (b:UInt8)=>cond (eK (dO .u64 (Int.tdiv (dO .u64 (9223372036854775808-(dO .u64 (dR b)))) (base:Int))<t)) (iN (.inr ((0,14):Int×Int))) (iN (.inl (dO .u64 ((dO .u64 (t*(base:Int)))+(dO .u64 (dR b)))))))
   (λt=>iN (t,0)) l (v:Int)=iN (n,e)/\(cond (e==0&&eK (9223372036854775807<n)) 14 e=(ri base v l).2)/\((ri base v l).2=0->n=(ri base v l).1)
 | [],v,_,hv=>by
  refine⟨v,0,rfl,?_⟩;by_cases h:v<=9223372036854775807
  ·have:¬ 9223372036854775807<(v:Int):=om;simp[ri,okD,s8,h,this]
  ·have:9223372036854775807<(v:Int):=om;simp[ri,okD,s8,h,this]
 | b::l,v,ho,hv=>by
  have ho':(0<=dR b/\dR b<base)/\okD (base:Int) l=hJ:=by unfold okD at ho⊢;simp_all
  obtain⟨⟨h0,h1⟩,h2⟩:=ho';have hm:((v*base+(dR b).toNat:Nat):Int)=(v:Int)*(base:Int)+dR b:=by grind
  have e3:ri base v (b::l)=ri base (v*base+(dR b).toNat) l:=by unfold ri;rw[ho,h2];rfl
  simp[q9];rw[qN (dR b) om,qN (9223372036854775808-dR b) om,agW _ _ om];by_cases hx:(9223372036854775808-dR b) / (base:Int)<(v:Int)
  ·refine⟨0,14,?_,?_⟩
   ·rw[eP hx];rfl
   ·rw[div_lt om om om]at hx;have hge:=Yp base hb.1 l (v*base+(dR b).toNat);have:¬ s8 base (v*base+(dR b).toNat) l<=9223372036854775807:=om;rw[e3];simp[ri,h2,this]
  ·have hx':=hx;rw[div_lt om om om]at hx';rw[uH hx,qN ((v:Int)*(base:Int)) om,qN ((v:Int)*(base:Int)+dR b) om,e3,<-hm];exact ZY base hb l _ h2 om
def kH(s:Bs):Nat×Bs:=cond (eK (2<(Ts s:Int))&&((((s.getD 0 0).toNat:Int)==48)&&((((s.getD 1 0).toNat:Int)==120)||(((s.getD 1 0).toNat:Int)==88)))) (16,s.drop 2) (cond (eK (1<(Ts s:Int))&&(((s.getD 0 0).toNat:Int)==48)) (8,s.drop 1) (10,s))
theorem akU(base:Nat)(h:1<=base)(t:Bs):ri base 0 (48::t)=ri base 0 t:=by
 have e1:okD (base:Int) (48::t)=okD (base:Int) t:=by unfold okD;rw[UU,show dR 48=0 from rfl,eP om,eP om];rfl
 have e2:s8 base 0 (48::t)=s8 base 0 t:=by unfold s8;rw[vZ,show dR 48=0 from rfl];simp
 unfold ri;rw[e1,e2]
theorem ofNat_eq{b:UInt8}{n:Nat}(hn:n<256)(h:((b.toNat:Int)==(n:Int))=hJ):b=lL n:=by
 have:b.toNat=n:=by grind
 rw[<-this];simp
theorem akV(s:Bs)(h0:s≠[]):pY s=cond ((kH s).2==[]) (0,6) (ri (kH s).1 0 (kH s).2):=by
 match s,h0 with
 | [a],_=>
  unfold pY mU kH;have p1:([48,120]:Bs).isPrefixOf [a]=eQ:=by simp[List.isPrefixOf]
  have p2:([48,88]:Bs).isPrefixOf [a]=eQ:=by simp[List.isPrefixOf]
  rw[p1,p2];cases ha:((([a].getD 0 0).toNat:Int)==48)with
  | false=>rfl|true=>obtain rfl:=ofNat_eq de ha;rfl
 | a::b::t,_=>
  unfold pY mU kH;simp;have p1:([48,120]:Bs).isPrefixOf (a::b::t)=(((a.toNat:Int)==48)&&((b.toNat:Int)==120)):=by
   rw[tC];simp;constructor
   ·rintro⟨rfl,rfl⟩;exact⟨rfl,rfl⟩
   ·rintro⟨h1,h2⟩;exact⟨(ofNat_eq de (by simpa using h1)).symm,(ofNat_eq de (by simpa using h2)).symm⟩
  have p2:([48,88]:Bs).isPrefixOf (a::b::t)=(((a.toNat:Int)==48)&&((b.toNat:Int)==88)):=by
   rw[tC];simp;constructor
   ·rintro⟨rfl,rfl⟩;exact⟨rfl,rfl⟩
   ·rintro⟨h1,h2⟩;exact⟨(ofNat_eq de (by simpa using h1)).symm,(ofNat_eq de (by simpa using h2)).symm⟩
  rw[p1,p2];have hl1:eK (1<(Ts (a::b::t):Int))=hJ:=by simp;omega
  cases ha:((a.toNat:Int)==48)with
  | false=>simp|true=>
   obtain rfl:=ofNat_eq de ha;simp;cases hx:(((b.toNat:Int)==120)||((b.toNat:Int)==88))with
   | false=>simp_all[TM,aJ,akU]|true=>
    cases t with
    | nil=>
     simp only[Mh]at hx;rcases hx with hx|hx
     ·obtain rfl:=ofNat_eq de hx;rfl
     ·obtain rfl:=ofNat_eq de hx;rfl
    | cons c t=>grind
theorem adJ(F:Nat)(s:Bs)(h0:s≠[])(hF:Ts s<F)(hl:Ts s<=1000000):
  ∃n e,mN F s=iN (n,e)/\(cond (e==0&&eK (9223372036854775807<n)) 14 e=(pY s).2)/\((pY s).2=0->n=(pY s).1):=by
 have hpos:0<Ts s:=Bn.2 h0;have hb:(1<=(kH s).1/\(kH s).1<=16)/\(kH s).2.length<=Ts s:=by unfold kH;grind
 rw[akV s h0];unfold mN wx
 have S3:((cond (eK (2<(Ts s:Int)))
   (rq (eK (0<(Ts s:Int))) (iN (((s.getD 0 0).toNat:Int)==48)))
   (iN eQ):O Bool).bind λx2=>
   (cond x2
   (rq (eK (1<(Ts s:Int))) (cond (((s.getD 1 0).toNat:Int)==120)
   (iN hJ)
   (rq (eK (1<(Ts s:Int))) (iN (((s.getD 1 0).toNat:Int)==88)))))
   (iN eQ):O Bool).bind λx3=>
   cond x3
   (rq ((eK (2<=(Ts s:Int)))&&(eK ((Ts s:Int)<=(Ts s:Int)))) (iN (sl s 2 (Ts s:Int),(16:Int))))
   ((cond (eK (1<(Ts s:Int)))
   (rq (eK (0<(Ts s:Int))) (iN (((s.getD 0 0).toNat:Int)==48)))
   (iN eQ):O Bool).bind λx4=>
   cond x4
   (rq ((eK (1<=(Ts s:Int)))&&(eK ((Ts s:Int)<=(Ts s:Int)))) (iN (sl s 1 (Ts s:Int),8)))
   (iN (s,10))):O (Bs×Int))=iN ((kH s).2,((kH s).1:Int)):=by
  have s2:sl s 2 (Ts s:Int)=s.drop 2:=by unfold sl;simp
  have s1:sl s 1 (Ts s:Int)=s.drop 1:=by unfold sl;simp
  rw[show eK (0<(Ts s:Int))=hJ from eP om,show eK (1<=(Ts s:Int))=hJ from eP om,show eK ((Ts s:Int)<=(Ts s:Int))=hJ from eP om,s1,s2];unfold kH;by_cases h2:2<(Ts s:Int)
  ·rw[eP h2,show eK (1<(Ts s:Int))=hJ from eP om,show eK (2<=(Ts s:Int))=hJ from eP om];cases (((s.getD 0 0).toNat:Int)==48)<;>cases (((s.getD 1 0).toNat:Int)==120)<;>cases (((s.getD 1 0).toNat:Int)==88)<;>rfl
  ·rw[uH h2];cases eK (1<(Ts s:Int))<;>cases (((s.getD 0 0).toNat:Int)==48)<;>rfl
 rw[S3];simp only[aD];obtain⟨hb,hlen⟩:=hb;generalize(kH s).2=l at hlen⊢;generalize(kH s).1=base at hb⊢;cases (l==[])with
 | true=>grind|false=>
  simp only[aJ];cases hok:okD (base:Int) l with
  | false=>
   refine⟨0,6,?_,?_⟩
   ·refine Qt (l:=l) (p:=λb=>eK (0<=dR b)&&eK (dR b<(base:Int))) (λi=>(i:Int)) (λi rc h=>?_) l.length 0 F om om (by rw[TH];exact hok);simp only[y5 h,CZ,wQ,aS,ij,b9,gd h,bH (i:=i) om,vR,aD,aiU (base:=(base:Int)) om];grind
   ·unfold ri;simp_all
  | true=>
   obtain⟨n,e,h1,h2⟩:=ZY base hb l 0 hok om;refine⟨n,e,?_,h2⟩;refine JI (λi=>(i:Int)) l.length om rfl ?_ ?_
   ·intro i rc h;have hi:(eK (0<=dR l[i])&&eK (dR l[i]<(base:Int)))=hJ:=by unfold okD at hok;simp_all
    simp only[y5 h,CZ,wQ,aS,ij,b9,gd h,bH (i:=i) om,vR,aD,aiU (base:=(base:Int)) om,hi];rfl
   ·intro rc;simp only[Ii,aJ];rw[<-h1];refine sK l (λi (t:Int)=>(t,(i:Int))) _ _ om rfl ?_ ?_
    ·intro i h t rc;have hi:(eK (0<=dR l[i])&&eK (dR l[i]<(base:Int)))=hJ:=by unfold okD at hok;simp_all
     have hw:dO .u64 (base:Int)=(base:Int):=qN (base:Int) om;have hz:(!((base:Int)==0))=hJ:=by simp;omega
     have hv:cond (eK ((base:Int)<=dR l[i])) (-1) (dR l[i])=dR l[i]:=by grind
     simp only[y5 h,CZ,wQ,aS,ij,b9,gd h,bH (i:=i) om,vR,aD,hw,hz,hv];generalize eK (dO .u64 (Int.tdiv (dO .u64 (9223372036854775808-(dO .u64 (dR l[i])))) (base:Int))<t)=c;cases c<;>rfl
    simp_all
def rV(base v:Nat)(l:Bs):Int×Int:=cond (okD (base:Int) l) (cond (eK (s8 base v l<=9223372036854775808)) ((s8 base v l:Int),0) (0,14)) (0,6)
def tw(s:Bs):Nat×Bs:=cond ((([48,120]:Bs).isPrefixOf s)||(([48,88]:Bs).isPrefixOf s)) (16,s.drop 2) (cond (([48]:Bs).isPrefixOf s) (8,s) (10,s))
def pZ(s:Bs):Int×Int:=cond ((tw s).2==[]) (0,6) (rV (tw s).1 0 (tw s).2)
def dC(b:UInt8):Int:=cond (eK (0<=dR b)) (dR b) 16
theorem akW(F:Nat)(b:UInt8):GB F (b.toNat:Int)=iN (dC b):=by
 unfold GB dC dR dg gw wx;by_cases h1:48<=(b.toNat:Int)/\(b.toNat:Int)<=57
 ·rw[eP h1.2,Rm ((b.toNat:Int)-48) om,qN ((b.toNat:Int)-48) om];simp_all
 ·have e1:(eK (48<=(b.toNat:Int))&&eK ((b.toNat:Int)<=57))=eQ:=by simp_all
  have e1':(cond (eK (48<=(b.toNat:Int))) (iN (eK ((b.toNat:Int)<=57))) (iN eQ):O Bool)=iN eQ:=by grind
  by_cases h3:97<=(b.toNat:Int)/\(b.toNat:Int)<=102
  ·rw[eP h3.2,Rm ((b.toNat:Int)-97) om,qN ((b.toNat:Int)-97) om,qN ((b.toNat:Int)-97+10) om];grind
  ·have e3:(eK (97<=(b.toNat:Int))&&eK ((b.toNat:Int)<=102))=eQ:=by simp_all
   have e3':(cond (eK (97<=(b.toNat:Int))) (iN (eK ((b.toNat:Int)<=102))) (iN eQ):O Bool)=iN eQ:=by grind
   by_cases h4:65<=(b.toNat:Int)/\(b.toNat:Int)<=70
   ·rw[eP h4.2,Rm ((b.toNat:Int)-65) om,qN ((b.toNat:Int)-65) om,qN ((b.toNat:Int)-65+10) om];grind
   grind
theorem Sh(base:Nat)(hb:1<=base/\base<=16):∀(l:Bs)(n:Int)(Il:Bool)(v:Nat),(Il=eQ->n=(v:Int)/\v<=9223372036854775808)->(Il=hJ->9223372036854775808<v) ->
  q9 (λt (b:UInt8)=>cond (eK ((base:Int)<=dC b)) (iN (.inr ((0,6):Int×Int))) (cond (t.2||decide (dO .u64 (Int.tdiv (dO .u64 (9223372036854775808-dC b)) (base:Int))<t.1)) (iN (.inl (t.1,hJ))) (iN (.inl (dO .u64 ((dO .u64 (t.1*(base:Int)))+dC b),t.2)))))
   (λt=>cond t.2 (iN (0,14)) (iN (t.1,0))) l (n,Il)=iN (rV base v l)
 | [],n,Il,v,h1,h2=>by
  cases Il with
  | false=>obtain⟨rfl,h⟩:=h1 rfl;simp[q9,rV,okD,s8,h]
  | true=>
   have h3:¬ v<=9223372036854775808:=by have:=h2 rfl;omega
   simp[q9,rV,okD,s8,h3]
 | b::l,n,Il,v,h1,h2=>by
  simp[q9];by_cases hbad:dR b<0\/(base:Int)<=dR b
  ·have e1:eK ((base:Int)<=dC b)=hJ:=by unfold dC;grind
   have e2:okD (base:Int) (b::l)=eQ:=by unfold okD;grind
   rw[e1];simp[rV,e2,sm]
  ·have hdc:dC b=dR b:=by unfold dC;simp_all
   have e1:eK ((base:Int)<=dC b)=eQ:=by simp_all
   have e2:okD (base:Int) (b::l)=okD (base:Int) l:=by unfold okD;simp_all
   have e3:rV base v (b::l)=rV base (v*base+(dR b).toNat) l:=by unfold rV;rw[e2];rfl
   rw[e1,e3,hdc];have hm:((v*base+(dR b).toNat:Nat):Int)=(v:Int)*(base:Int)+dR b:=by grind
   have hvb:=abd v hb.1;cases Il with
   | true=>have:=h2 rfl;exact Sh base hb l n hJ _ (λh=>by cases h) λ_=>by omega
   | false=>
    obtain⟨rfl,hv⟩:=h1 rfl;rw[qN (9223372036854775808-dR b) om,agW _ _ om];by_cases hx:(9223372036854775808-dR b) / (base:Int)<(v:Int)
    ·rw[eP hx];rw[div_lt om om om]at hx;exact Sh base hb l v hJ _ (λh=>by cases h) λ_=>by omega
    ·rw[uH hx];rw[div_lt om om om]at hx;rw[qN ((v:Int)*(base:Int)) om,qN ((v:Int)*(base:Int)+dR b) om];exact Sh base hb l _ eQ _ (λ_=>⟨hm.symm,om⟩) λh=>by cases h
theorem adK(s:Bs):(1<=(tw s).1/\(tw s).1<=16)/\(tw s).2.length<=Ts s:=by unfold tw;grind
theorem asq(F:Nat)(s:Bs)(hF:Ts s<F)(hl:Ts s<=1000000):yK F s=iN (pZ s):=by
 obtain⟨hb,hlen⟩:=adK s;have e1:((cE F s ([48,120]:Bs)).bind λx3=>cond x3 (iN hJ) ((cE F s ([48,88]:Bs)).bind λx4=>iN x4):O Bool)=iN (([48,120]:Bs).isPrefixOf s||([48,88]:Bs).isPrefixOf s):=by grind[Cf]
 have CX:(cond (([48,120]:Bs).isPrefixOf s||([48,88]:Bs).isPrefixOf s)
   (rq ((eK (2<=(Ts s:Int)))&&(eK ((Ts s:Int)<=(Ts s:Int)))) (iN ((16:Int),sl s 2 (Ts s:Int))))
   ((cE F s ([48]:Bs)).bind λx5=>cond x5 (iN (8,s)) (iN (10,s))):O (Int×Bs))=iN (((tw s).1:Int),(tw s).2):=by
  unfold tw;cases hp:(([48,120]:Bs).isPrefixOf s||([48,88]:Bs).isPrefixOf s)with|true=>rw[cy (by grind)];unfold sl;simp|false=>simp[Cf];grind
 unfold yK wx;rw[e1];simp only[aD];rw[CX];simp only[aD];unfold pZ;generalize(tw s).2=l at hlen⊢;generalize(tw s).1=base at hb⊢;cases (l==[])with
 | true=>rfl|false=>
  rw[sK l (λi (t:Int×Bool)=>(t.1,t.2,(i:Int))) (λt (b:UInt8)=>cond (eK ((base:Int)<=dC b)) (iN (.inr ((0,6):Int×Int))) (cond (t.2||decide (dO .u64 (Int.tdiv (dO .u64 (9223372036854775808-dC b)) (base:Int))<t.1)) (iN (.inl (t.1,hJ))) (iN (.inl (dO .u64 ((dO .u64 (t.1*(base:Int)))+dC b),t.2)))))
    (λt=>cond t.2 (iN (0,14)) (iN (t.1,0))) (t:=(0,eQ)) om ?_ ?_ ?_]
  ·grind[Sh]
  ·rfl
  ·intro i h t rc;have hz:(!((base:Int)==0))=hJ:=by simp;omega
   simp only[y5 h,b9,gd h,bH (i:=i) om,akW,aD,hz];cases eK ((base:Int)<=dC l[i])<;>cases t.2<;>simp
   all_goals first|rfl|(generalize eK (dO .u64 (Int.tdiv (dO .u64 (9223372036854775808-dC l[i])) (base:Int))<t.1)=c;cases c<;>rfl)
  simp_all
theorem WM(base:Nat)(hb:1<=base/\base<=16):∀(l:Bs)(v:Nat),okD (base:Int) l=hJ->v<=9223372036854775808 ->
  q9 (λt (b:UInt8)=>cond (eK (dO .u64 (Int.tdiv (dO .u64 (9223372036854775808-(dO .u64 (dR b)))) (base:Int))<t)) (iN (.inr ((0,14):Int×Int))) (iN (.inl (dO .u64 ((dO .u64 (t*(base:Int)))+(dO .u64 (dR b)))))))
   (λt=>iN (t,0)) l (v:Int)=iN (rV base v l)
 | [],v,_,hv=>by simp[q9,rV,okD,s8,hv]|b::l,v,ho,hv=>by
  have ho':(0<=dR b/\dR b<base)/\okD (base:Int) l=hJ:=by unfold okD at ho⊢;simp_all
  obtain⟨⟨h0,h1⟩,h2⟩:=ho';have hm:((v*base+(dR b).toNat:Nat):Int)=(v:Int)*(base:Int)+dR b:=by grind
  have e3:rV base v (b::l)=rV base (v*base+(dR b).toNat) l:=by unfold rV;rw[ho,h2];rfl
  simp[q9];rw[qN (dR b) om,qN (9223372036854775808-dR b) om,agW _ _ om,e3];by_cases hx:(9223372036854775808-dR b) / (base:Int)<(v:Int)
  ·rw[eP hx];rw[div_lt om om om]at hx;have hge:=Yp base hb.1 l (v*base+(dR b).toNat);have:¬ s8 base (v*base+(dR b).toNat) l<=9223372036854775808:=om;simp[rV,h2,this,sm]
  ·have hx':=hx;rw[div_lt om om om]at hx';rw[uH hx,qN ((v:Int)*(base:Int)) om,qN ((v:Int)*(base:Int)+dR b) om,<-hm];exact WM base hb l _ h2 om
theorem akX(base:Nat)(h:1<=base)(t:Bs):rV base 0 (48::t)=rV base 0 t:=by
 have e1:okD (base:Int) (48::t)=okD (base:Int) t:=by unfold okD;rw[UU,show dR 48=0 from rfl,eP om,eP om];rfl
 have e2:s8 base 0 (48::t)=s8 base 0 t:=by unfold s8;rw[vZ,show dR 48=0 from rfl];simp
 unfold rV;rw[e1,e2]
theorem aiV(s:Bs)(h0:s≠[]):pZ s=cond ((kH s).2==[]) (0,6) (rV (kH s).1 0 (kH s).2):=by
 match s,h0 with
 | [a],_=>
  unfold pZ tw kH;have p1:([48,120]:Bs).isPrefixOf [a]=eQ:=by simp[List.isPrefixOf]
  have p2:([48,88]:Bs).isPrefixOf [a]=eQ:=by simp[List.isPrefixOf]
  rw[p1,p2];have p3:([48]:Bs).isPrefixOf [a]=((a.toNat:Int)==48):=by
   rw[tC];simp;constructor
   ·rintro rfl;rfl
   ·intro h;exact(ofNat_eq de (by simpa using h)).symm
  rw[p3];cases ha:((a.toNat:Int)==48)with
  | false=>rfl|true=>obtain rfl:=ofNat_eq de ha;rfl
 | a::b::t,_=>
  unfold pZ tw kH;simp;have p1:([48,120]:Bs).isPrefixOf (a::b::t)=(((a.toNat:Int)==48)&&((b.toNat:Int)==120)):=by
   rw[tC];simp;constructor
   ·rintro⟨rfl,rfl⟩;exact⟨rfl,rfl⟩
   ·rintro⟨h1,h2⟩;exact⟨(ofNat_eq de (by simpa using h1)).symm,(ofNat_eq de (by simpa using h2)).symm⟩
  have p2:([48,88]:Bs).isPrefixOf (a::b::t)=(((a.toNat:Int)==48)&&((b.toNat:Int)==88)):=by
   rw[tC];simp;constructor
   ·rintro⟨rfl,rfl⟩;exact⟨rfl,rfl⟩
   ·rintro⟨h1,h2⟩;exact⟨(ofNat_eq de (by simpa using h1)).symm,(ofNat_eq de (by simpa using h2)).symm⟩
  have p3:([48]:Bs).isPrefixOf (a::b::t)=((a.toNat:Int)==48):=by
   rw[tC];simp;constructor
   ·rintro rfl;rfl
   ·intro h;exact(ofNat_eq de (by simpa using h)).symm
  rw[p1,p2,p3];have hl1:eK (1<(Ts (a::b::t):Int))=hJ:=by simp;omega
  cases ha:((a.toNat:Int)==48)with
  | false=>simp|true=>
   obtain rfl:=ofNat_eq de ha;simp;cases hx:(((b.toNat:Int)==120)||((b.toNat:Int)==88))with
   | false=>simp_all[TM,aJ,akX]|true=>
    cases t with
    | nil=>
     simp only[Mh]at hx;rcases hx with hx|hx
     ·obtain rfl:=ofNat_eq de hx;rfl
     ·obtain rfl:=ofNat_eq de hx;rfl
    | cons c t=>grind
theorem akY(F:Nat)(s:Bs)(h0:s≠[])(hF:Ts s<F)(hl:Ts s<=1000000):
  mN F s=iN (pZ s):=by
 have hpos:=Bn.2 h0;have hb:(1<=(kH s).1/\(kH s).1<=16)/\(kH s).2.length<=Ts s:=by unfold kH;grind
 rw[aiV s h0];unfold mN wx
 have S3:((cond (eK (2<(Ts s:Int)))
   (rq (eK (0<(Ts s:Int))) (iN (((s.getD 0 0).toNat:Int)==48)))
   (iN eQ):O Bool).bind λx2=>
   (cond x2
   (rq (eK (1<(Ts s:Int))) (cond (((s.getD 1 0).toNat:Int)==120)
   (iN hJ)
   (rq (eK (1<(Ts s:Int))) (iN (((s.getD 1 0).toNat:Int)==88)))))
   (iN eQ):O Bool).bind λx3=>
   cond x3
   (rq ((eK (2<=(Ts s:Int)))&&(eK ((Ts s:Int)<=(Ts s:Int)))) (iN (sl s 2 (Ts s:Int),(16:Int))))
   ((cond (eK (1<(Ts s:Int)))
   (rq (eK (0<(Ts s:Int))) (iN (((s.getD 0 0).toNat:Int)==48)))
   (iN eQ):O Bool).bind λx4=>
   cond x4
   (rq ((eK (1<=(Ts s:Int)))&&(eK ((Ts s:Int)<=(Ts s:Int)))) (iN (sl s 1 (Ts s:Int),8)))
   (iN (s,10))):O (Bs×Int))=iN ((kH s).2,((kH s).1:Int)):=by
  have s2:sl s 2 (Ts s:Int)=s.drop 2:=by unfold sl;simp
  have s1:sl s 1 (Ts s:Int)=s.drop 1:=by unfold sl;simp
  rw[show eK (0<(Ts s:Int))=hJ from eP om,show eK (1<=(Ts s:Int))=hJ from eP om,show eK ((Ts s:Int)<=(Ts s:Int))=hJ from eP om,s1,s2];unfold kH;by_cases h2:2<(Ts s:Int)
  ·rw[eP h2,show eK (1<(Ts s:Int))=hJ from eP om,show eK (2<=(Ts s:Int))=hJ from eP om];cases (((s.getD 0 0).toNat:Int)==48)<;>cases (((s.getD 1 0).toNat:Int)==120)<;>cases (((s.getD 1 0).toNat:Int)==88)<;>rfl
  ·rw[uH h2];cases eK (1<(Ts s:Int))<;>cases (((s.getD 0 0).toNat:Int)==48)<;>rfl
 rw[S3];simp only[aD];obtain⟨hb,hlen⟩:=hb;generalize(kH s).2=l at hlen⊢;generalize(kH s).1=base at hb⊢;cases (l==[])with
 | true=>rfl|false=>
  cases hok:okD (base:Int) l with
  | false=>
   have hr:rV base 0 l=(0,6):=by unfold rV;rw[hok];rfl
   ·refine Qt (l:=l) (λi=>(i:Int)) (λi rc h=>?_) l.length 0 F om om (by rw[TH];exact hok);simp only[y5 h,CZ,wQ,ij,gd h,bH (i:=i) om,vR];grind
  | true=>
   have h1:=WM base hb l 0 hok om;refine JI (λi=>(i:Int)) l.length om rfl ?_ ?_
   ·intro i rc h;have hi:(eK (0<=dR l[i])&&eK (dR l[i]<(base:Int)))=hJ:=by unfold okD at hok;simp_all
    simp only[y5 h,CZ,ij,b9,gd h,bH (i:=i) om,vR,aD,aiU (base:=(base:Int)) om,hi];rfl
   ·intro rc;simp only[Ii,aJ];rw[<-h1];refine sK l (λi (t:Int)=>(t,(i:Int))) _ _ om rfl ?_ ?_
    ·intro i h t rc;have hi:(eK (0<=dR l[i])&&eK (dR l[i]<(base:Int)))=hJ:=by unfold okD at hok;simp_all
     have hw:=qN (base:Int) om;have hz:(!((base:Int)==0))=hJ:=by simp;omega
     have hv:cond (eK ((base:Int)<=dR l[i])) (-1) (dR l[i])=dR l[i]:=by grind
     simp only[y5 h,CZ,ij,b9,gd h,bH (i:=i) om,vR,aD,hw,hz,hv];generalize eK (dO .u64 (Int.tdiv (dO .u64 (9223372036854775808-(dO .u64 (dR l[i])))) (base:Int))<t)=c;cases c<;>rfl
    simp_all
theorem aua(b:UInt8)(h:dg b=eQ):dR b<0\/10<=dR b:=by unfold dR;grind
theorem anz(b:UInt8)(t:Bs)(h:dg b=eQ):pZ (b::t)=(0,6):=by
 have hne:((48:UInt8)==b)=eQ:=by rw[iq];intro e;subst e;exact absurd h de
 unfold pZ tw;have p1:([48,120]:Bs).isPrefixOf (b::t)=eQ:=by grind
 have p2:([48,88]:Bs).isPrefixOf (b::t)=eQ:=by grind
 have p3:([48]:Bs).isPrefixOf (b::t)=eQ:=by grind
 rw[p1,p2,p3];simp;have ho:okD ((10:Nat):Int) (b::t)=eQ:=by unfold okD;rw[UU,UW];rw[UW];simp_all[aua]
 unfold rV;rw[ho];rfl
theorem akZ(F:Nat)(s:Bs)(hF:Ts s<F)(hl:Ts s<=1000000):yL F s=iN (pZ s):=by
 unfold yL wx;cases s with
 | nil=>rfl|cons b t=>have hp:eK (0<(Ts (b::t):Int))=hJ:=eP (by simp_all);have hne:((b::t)==[])=eQ:=rfl;rw[akY F (b::t) si hF hl];simp[hne,ij];cases hd:dg b with|true=>unfold dg gw at hd;grind|false=>grind[anz,Bool.and_eq_false_iff,decide_eq_false_iff_not,decide_eq_true,decide_eq_false]
theorem aiW(s:Bs):((pZ s).2=0/\0<=(pZ s).1/\(pZ s).1<=9223372036854775808)\/(pZ s).2=6\/(pZ s).2=14:=by unfold pZ;cases ((tw s).2==[])with|true=>exact .inr (.inl rfl)|false=>unfold rV;grind
abbrev Env:=J (Bs×Bs)
def Bk(m:Env)(k:Bs):di:=⟨k,fX dh m k []⟩
def uD(m:Env):J di:=(rL (m.map (·.1))).map (Bk m)
def Nd(m:Env):Prop:=(m.map (·.1)).Nodup
def Pg(l:J di):Prop:=l.Pairwise λx y=>x.fName<y.fName
variable{m:Env}
def Yq(h:Nd m):Pg (uD m):=List.pairwise_map.2 ((Zi h).imp λh=>h)
theorem DN(m:Env)(x:di):x∈uD m↔∃k,k∈m.map (·.1)/\x=Bk m k:=by unfold uD;grind[uV]
theorem Yr(m:Env):(uD m).length=m.length:=by unfold uD;rw[je,(uV _).length_eq,je]
def xO(k v:Bs):J di->Bool->J di|[],put=>cond put [] [⟨k,v⟩]|x::l,put=>cond (!put && !(pD x.fName k)) [⟨k,v⟩] []++(cond (x.fName==k) [] [x]++xO k v l (put || !(pD x.fName k)))
def Si(k v:Bs)(t:J di×Bool)(x:di):J di×Bool:=(t.1++(cond (!t.2 && !(pD x.fName k)) [⟨k,v⟩] []++cond (x.fName==k) [] [x]),t.2 || !(pD x.fName k))
theorem WN(k v:Bs):∀(l:J di)(t:J di×Bool),(l.foldl (Si k v) t).1++cond (l.foldl (Si k v) t).2 [] [⟨k,v⟩]=t.1++xO k v l t.2|[],t=>rfl|x::l,t=>by rw[vZ,WN k v l];simp[Si,xO]
theorem bind_eq(F:Nat)(l:J di)(k v:Bs)(hF:Ts l<F)(hl:Ts l<=1000000):Ch F l k v=iN (xO k v l eQ):=by
 refine Ek l (λi (t:J di×Bool)=>(t.1,t.2,(i:Int))) (Si k v) (λi t=>Ts t.1<=2*i) (t:=([],eQ)) hF rfl si ?_ ?_ ?_
 ·intro i h t rc hI;simp only[y5 h,CZ,wQ,ij,b9,gd h,bH (i:=i) om,Si];rw[dI aQ om];cases t.2<;>cases pD l[i].fName k<;>cases (l[i].fName==k)<;>
   simp only[aS,aJ,aD,gN,qi,Ko,UY,Bool.or_true,aa8,TN,oe,uK]
  all_goals (try rw[dI aQ om])
 ·simp[Si];grind
 ·intro rc hI;have hb:=WN k v l ([],eQ);simp only[Ii,aJ];rw[dI aQ om];grind
theorem DP(k v:Bs):∀(l:J di)(put:Bool)(x:di),x∈xO k v l put↔(put=eQ/\x=⟨k,v⟩)\/(x∈l/\x.fName≠k)
 | [],put,x=>by cases put<;>simp[xO]
 | y::l,put,x=>by
  have e1:∀c:Bool,x∈(cond c [⟨k,v⟩] []:J di)↔c=hJ/\x=⟨k,v⟩:=λc=>by cases c<;>simp
  have e2:x∈(cond (y.fName==k) [] [y]:J di)↔x=y/\y.fName≠k:=by cases h:(y.fName==k)with|true=>simp[eq_of_beq h]|false=>rw[iq]at h;simp[h]
  simp[xO,DP k v l,e1,e2];constructor
  ·rintro (⟨h1,h2⟩|⟨rfl,h2⟩|⟨h1,h2⟩|⟨h1,h2⟩)
   ·left;exact⟨by cases put<;>simp_all,h2⟩
   ·right;exact⟨.inl rfl,h2⟩
   ·left;exact⟨by cases put<;>simp_all,h2⟩
   ·right;exact⟨.inr h1,h2⟩
  ·rintro (⟨rfl,h2⟩|⟨rfl|h1,h2⟩)
   ·cases pD y.fName k
    ·left;simp[h2]
    ·right;right;left;simp[h2]
   ·right;left;exact⟨rfl,h2⟩
   ·right;right;right;exact⟨h1,h2⟩
theorem Im{k v:Bs}:∀ {l:J di}{put:Bool},Pg l->(put=hJ->∀x,x∈l->k<x.fName)->Pg (xO k v l put)
 | [],put,_,_=>by cases put<;>simp[xO,Pg]
 | y::l,put,h,hp=>by
  obtain⟨h1,h2⟩:=zh.1 h;unfold xO;cases put with
  | true=>
   have hn:(y.fName==k)=eQ:=by grind
   simp[gN,hn];refine zh.2 ⟨λx hx=>?_,Im h2 λ_ x hx=>hp rfl x (kI _ hx)⟩;simp_all[DP]
  | false=>
   rcases WB y.fName k with hlt|he|hgt
   ·have e1:=(Mx _ _).2 hlt;have hn:(y.fName==k)=eQ:=by grind
    simp[e1,hn];refine zh.2 ⟨λx hx=>?_,Im h2 λe=>by cases e⟩;grind[DP]
   ·have e1:pD y.fName k=eQ:=(EH _ _).2 (by simp_all);have hn:(y.fName==k)=hJ:=by rw[uJ];exact he
    simp[e1,hn];refine zh.2 ⟨λx hx=>?_,Im h2 λ_ x hx=>by simp_all⟩;simp_all[DP]
   ·have e1:=(EH _ _).2 λh'=>nv _ (sF h' hgt);have hn:(y.fName==k)=eQ:=by grind
    simp[e1,hn];have eS:∀x,x∈xO k v l hJ->y.fName<x.fName:=λx hx=>by simp_all[DP]
    refine zh.2 ⟨λx hx=>?_,zh.2 ⟨eS,Im h2 λ_ x hx=>sF hgt (h1 x hx)⟩⟩;grind
theorem agm(h:Nd m)(k v:Bs):uD (jJ dh m k v)=xO k v (uD m) eQ:=by
 refine RH (Yq (WC h k v)) (Im (Yq h) λe=>by cases e) λx=>?_;rw[DP,DN,DN];constructor
 ·rintro⟨q,hq,rfl⟩;by_cases hk:q=k
  ·left;unfold Bk;simp_all[ux,Db]
  ·rcases(Af ..).1 hq with e|hq
   ·exact absurd e hk
   ·unfold Bk;grind[ux,beq_eq_false_iff_ne]
 ·rintro (⟨_,rfl⟩|⟨⟨q,hq,rfl⟩,hk⟩)
  ·refine⟨k,(Af ..).2 (.inl rfl),?_⟩;unfold Bk;simp_all[ux,Db]
  ·have hk:¬ q=k:=hk;refine⟨q,(Af ..).2 (.inr hq),?_⟩;unfold Bk;grind[ux,beq_eq_false_iff_ne]
def abE(l:J di)(k:Bs):Bs:=match l.reverse.find? (λx=>x.fName==k)with|some x=>x.cg|none=>[]
theorem adL(k:Bs):∀l:J di,q9 (λ_ (x:di)=>cond (x.fName==k) (iN (.inr x.cg)) (iN (.inl ()))) (λ_=>iN []) l ()=iN (match l.find? (λx=>x.fName==k)with|some x=>x.cg|none=>[])
 | []=>rfl|x::l=>by
  simp[q9,OU];cases (x.fName==k)
  ·exact adL k l
  ·rfl
theorem Qu(F:Nat)(l:J di)(k:Bs)(hF:Ts l<F)(hl:Ts l<=1000000):rj F l k=iN (abE l k):=by
 unfold rj abE wx;rw[<-adL];refine sK l.reverse (λi (_:Unit)=>((Ts l:Int)-1-(i:Int))) _ _ (by simpa using hF) ?_ ?_ ?_
 ·grind[bO]
 ·intro i h t rc;have hi:i<Ts l:=by simpa using h
  have e:(Ts l:Int)-1-(i:Int)=((Ts l-1-i:Nat):Int):=om;have hj:Ts l-1-i<Ts l:=om;have hw:aE (((Ts l-1-i:Nat):Int)-1)=(Ts l:Int)-1-((i+1:Nat):Int):=by grind[bO]
  simp only[e,y5 hj,b9,gd hj,hw,List.getElem_reverse];cases (l[Ts l-1-i].fName==k)<;>rfl
 grind
theorem Qv(m:Env)(k:Bs):abE (uD m) k=fX dh m k []:=by
 unfold abE;cases h:(uD m).reverse.find? (λx=>x.fName==k)with
 | some x=>
  have h1:=UR h;have h2:=abc h;rw[List.mem_reverse,DN]at h1;obtain⟨q,hq,rfl⟩:=h1;have:q=k:=by simpa[Bk]using h2
  subst this;rfl
 | none=>
  rcases Nc m k ([]:Bs)with⟨p,hp,h1,h2⟩|⟨_,h2⟩
  ·have:=List.find?_eq_none.1 h (Bk m k) (by grind[DN]);simp[Bk]at this
  ·exact h2.symm
structure Eo(c:Nat)(m:Env):Prop where
 nd:Nd m
 len:m.length<=c
 sz:∀p,p∈m->Ts p.1<=60/\p.2.length<=4096
variable{c:Nat}
theorem Eo.mono{d:Nat}(h:Eo c m)(hd:c<=d):Eo d m:=⟨h.nd,kU h.len hd,h.sz⟩
theorem Eo.set(h:Eo c m){k v:Bs}(hk:Ts k<=60)(hv:Ts v<=4096):Eo (c+1) (jJ dh m k v):=
 ⟨WC h.nd k v,kU (anm m k v) (by have:=h.len;omega),λp hp=>by
  rcases Ut hp with rfl|hp
  ·exact⟨hk,hv⟩
  ·exact h.sz p hp⟩
theorem Eo.get(h:Eo c m)(k:Bs):(fX dh m k []).length<=4096:=by
 rcases Nc m k ([]:Bs)with⟨p,hp,_,h2⟩|⟨_,h2⟩
 ·rw[<-h2];exact(h.sz p hp).2
 ·rw[h2];simp
def vg(l:J di):Env:=l.foldl (λm b=>jJ dh m b.fName b.cg) []
theorem Uv{c:Nat}:∀(l:J di)(m:Env),Eo c m->(∀b,b∈l->Ts b.fName<=60/\b.cg.length<=4096) ->
  Eo (c+Ts l) (l.foldl (λm b=>jJ dh m b.fName b.cg) m)/\uD (l.foldl (λm b=>jJ dh m b.fName b.cg) m)=l.foldl (λo b=>xO b.fName b.cg o eQ) (uD m)
 | [],m,h,_=>⟨h,rfl⟩|b::l,m,h,hb=>by have h1:=h.set (hb b si).1 (hb b si).2;obtain⟨h2,h3⟩:=Uv l _ h1 λb hm=>hb b (kI _ hm);refine⟨h2.mono aQ,?_⟩;rw[vZ,vZ,h3,agm h.nd]
theorem ak0:Eo 0 []:=⟨by simp[Nd],si,si⟩
theorem ap3:uD []=[]:=by have:=uV ([]:J Bs);simp at this;simp[uD,this]
variable{l:J di}
theorem Ip(h:∀b,b∈l->Ts b.fName<=60/\b.cg.length<=4096):Eo l.length (vg l):=by have:=(Uv l [] ak0 h).1;rw[rS]at this;exact this
theorem adM(k v:Bs):∀(l:J di)(put:Bool),Ts (xO k v l put)<=Ts l+cond put 0 1
 | [],put=>by cases put<;>simp[xO]
 | x::l,put=>by have h1:=adM k v l (put || !(pD x.fName k));simp[xO];generalize pD x.fName k=b at h1⊢;cases put<;>cases b<;>cases (x.fName==k)<;>simp at h1⊢ <;> omega
theorem ak1(F:Nat)(l:J di)(hF:Ts l<F)(hl:Ts l<=1000)(h:∀b,b∈l->Ts b.fName<=60/\b.cg.length<=4096):Iq F l=iN (uD (vg l)):=by
 refine Ek l (λi (t:J di)=>(t,(i:Int))) (λo b=>xO b.fName b.cg o eQ) (λi t=>Ts t<=i) hF rfl si ?_ ?_ ?_
 ·intro i h t rc hI;simp only[y5 h,CZ,wQ,ij,bH (i:=i) om];grind[bind_eq]
 ·grind[adM]
 ·intro rc hI;simp;have:=(Uv l [] ak0 h).2;rw[ap3]at this;unfold vg;rw[this]
theorem aub(h:Eo c m)(hc:c<=1000000)(F:Nat):skF F m=iN (rL (m.map (·.1))):=by unfold skF;have h1:(m.all λp=>eK (Ts p.1<=9223372036854775807))=hJ:=pN.2 λp hp=>eP (by have:=(h.sz p hp).1;omega);rw[h1,eP (by have:=h.len;omega)];rfl
def ic(x:Int):Prop:=-9223372036854775808<=x/\x<=9223372036854775807
theorem tY(x:Int):ic (aE x):=by show ic (if (hJ&&eK (x%(2^64:Int)>=(2^63:Int)))=hJ then x%(2^64:Int)-(2^64:Int)else x%(2^64:Int));unfold ic;grind
theorem aoW(b:Int):nu .i64 b 63=b%64:=by
 rw[XY];have h:(W0 64 b &&& W0 64 63).toNat=(b%64).toNat:=by
  rw[BitVec.toNat_and];have h63:(W0 64 63).toNat=2^6-1:=by decide
  rw[h63,Nat.and_two_pow_sub_one_eq_mod,BitVec.toNat_ofInt];grind
 show aE (((W0 64 b &&& W0 64 63).toNat:Nat):Int)=_;grind[bO]
theorem not_eq{a:Int}(h:ic a):XX .i64 a=aE ((aE (0-a))-1):=by
 unfold ic at h;have h1:(W0 64 (-1) ^^^ W0 64 a) = ~~~ W0 64 a:=by rw[show W0 64 (-1)=BitVec.allOnes 64 from rfl,BitVec.allOnes_xor]
 rw[XZ];show aE (((W0 64 (-1) ^^^ W0 64 a).toNat:Nat):Int)=_;rw[h1,BitVec.toNat_not,BitVec.toNat_ofInt];by_cases h0:a=-9223372036854775808
 ·subst h0;decide
 ·rw[bO (x:=0-a) om,bO (x:=0-a-1) om];by_cases hn:0<=a
  ·have e1:a%((2^64:Nat):Int)=a:=Int.emod_eq_of_lt hn om;rw[e1];have e2:((2^64-1-a.toNat:Nat):Int)=18446744073709551615-a:=om;rw[e2];unfold aE dO;have e3:(18446744073709551615-a)%(2^IntKind.i64.bits:Int)=18446744073709551615-a:=Int.emod_eq_of_lt om (by show _<(18446744073709551616:Int);omega);simp only[e3];show(if (hJ&&eK ((18446744073709551615-a)>=(2^63:Int)))=hJ then(18446744073709551615-a)-(2^64:Int)else 18446744073709551615-a)=_;grind
  grind[bO]
theorem anA{a:Int}(b:Int)(h:ic a):ic (XU .i64 a b):=by
 unfold ic at h⊢;rw[af3];generalize min b.toNat IntKind.i64.bits=k;have hp:(0:Int)<2^k:=Int.pow_pos de;rw[Int.fdiv_eq_ediv_of_nonneg _ om];by_cases h0:0<=a
 ·have h1:=Int.ediv_nonneg h0 (show(0:Int)<=2^k by omega);have h2:=Int.ediv_le_self (b:=2^k) h0;omega
 ·have h1:a<=a / 2^k:=by apply Int.le_ediv_of_mul_le hp;have:=Int.mul_le_mul_of_nonpos_left (a:=a) (b:=2^k) (c:=1) om om;omega
  have h2:a / 2^k<0:=Int.ediv_neg_of_neg_of_pos om hp;omega
theorem anB{a:Int}(b:Int)(h:ic a):ic (Int.tmod a b):=by
 unfold ic at h⊢;by_cases h0:0<=a
 ·have h2:(Int.tmod a b).natAbs<=a.natAbs:=by simp_all[Int.natAbs_tmod,Nat.mod_le]
  omega
 ·have h1:Int.tmod a b=- Int.tmod (-a) b:=by rw[Int.neg_tmod];omega
  have h3:=Int.tmod_nonneg (a:=-a) b om;have h2:(Int.tmod (-a) b).natAbs<=(-a).natAbs:=by simp_all[Int.natAbs_tmod,Nat.mod_le]
  omega
def tr(b:Bool):Int:=cond b 1 0
theorem ak2(b:Bool):ic (tr b):=by cases b<;>simp[tr,ic]
theorem N7(F:Nat)(b:Bool):yM F b=iN (tr b):=by cases b<;>rfl
theorem Ci(F:Nat)(b:Bool):zQ F b=iN (tr b):=by cases b<;>rfl
def cUn(op a:Int):Int:=cond (op==3) (aE (0-a)) (cond (op==5) (tr (a==0)) (cond (op==6) (XX .i64 a) a))
def adN(op a b:Int):Bool:=cond (op==14) (eK (a<b)) (cond (op==15) (eK (b<a)) (cond (op==16) (eK (a<=b)) (cond (op==17) (eK (b<=a)) (cond (op==18) (a==b) (a != b)))))
def vh(op a b:Int):Int×Int:=
 cond (op==7) (aE (a*b),0) (cond (op==8||op==9) (cond (b==0) (0,13) (cond (op==8) (aE (Int.tdiv a b),0) (Int.tmod a b,0)))
  (cond (op==10) (aE (a+b),0) (cond (op==11) (aE (a-b),0) (cond (op==12) (acu .i64 a (nu .i64 b 63),0) (cond (op==13) (XU .i64 a (nu .i64 b 63),0)
   (cond (op==20) (nu .i64 a b,0) (cond (op==21) (Ue .i64 a b,0) (cond (op==22) (Td .i64 a b,0) (cond (op==23) (tr (a != 0&&b != 0),0) (cond (op==24) (tr (a != 0||b != 0),0) (tr (adN op a b),0)))))))))))
theorem anC(a:Int):ic (XX .i64 a):=by rw[XZ];exact tY _
theorem anD(a b:Int):ic (nu .i64 a b):=by rw[XY];exact tY _
theorem ap4(a b:Int):ic (Td .i64 a b):=by rw[akh];exact tY _
theorem anE(a b:Int):ic (Ue .i64 a b):=by rw[af4];exact tY _
theorem ap5(op:Int){a:Int}(h:ic a):ic (cUn op a):=by unfold cUn;grind[tY,ak2,anC]
theorem Nh(op:Int){a b:Int}(h:ic a)(h':ic b):ic (vh op a b).1:=by
 unfold vh;cases (op==7)with|true=>exact tY _|false=>
 cases (op==8||op==9)with|true=>grind[tY,anB]|false=>
 cases (op==10)with|true=>exact tY _|false=>
 cases (op==11)with|true=>exact tY _|false=>
 cases (op==12)with|true=>exact tY _|false=>
 grind[anA,anD,anE,ap4,ak2]
theorem adO(b:Int):eK (0<=nu .i64 b 63)=hJ:=eP (by rw[aoW];omega)
theorem ap6(b:Int):dO .u64 (nu .i64 b 63)=nu .i64 b 63:=qN _ (by rw[aoW];omega)
theorem aiX(F:Nat)(op a b:Int):Cj F op a b=iN (adN op a b):=by unfold Cj adN wx;grind
theorem anF(F:Nat)(op a b:Int):Ep F op a b=iN (adN op a b):=by unfold Ep adN wx;grind
theorem anG(F:Nat)(op a:Int):GC F op a=iN (cUn op a):=by unfold GC cUn wx;grind[N7]
theorem ass(F:Nat)(op:Int){a:Int}(h:ic a):JN F op a=iN (cUn op a):=by unfold JN cUn wx;grind[Ci,not_eq]
theorem ZZ(F:Nat)(op a b:Int):vS F op a b=iN (vh op a b):=by
 unfold vS vh wx;simp[N7,aiX,adO,ij];cases h7:(op==7)with|true=>rfl|false=>
 cases h8:(op==8)with
 | true=>simp;cases hb:(b==0)<;>rfl
 | false=>
 cases h9:(op==9)with
 | true=>simp;cases hb:(b==0)<;>rfl
 | false=>
 grind
theorem ak3(F:Nat)(op a b:Int)(h:op≠23)(h':op≠24):E2 F op a b=iN (vh op a b):=by
 have e1:(op==23)=eQ:=by simp_all
 have e2:(op==24)=eQ:=by simp_all
 unfold E2 vh wx;simp[Ci,anF,ap6,adO,ij];by_cases k7:op=7
 ·subst k7;rfl
 have h7:(op==7)=eQ:=by simp_all
 rw[h7];cases h8:(op==8)with
 | true=>simp;cases hb:(b==0)<;>rfl
 | false=>
 cases h9:(op==9)with
 | true=>simp;cases hb:(b==0)<;>rfl
 | false=>
 grind
def rM(s:Bs):Bs:=cond ((((s.getD 0 0).toNat:Int)==45)||(((s.getD 0 0).toNat:Int)==43)) (s.drop 1) s
def vi(s:Bs):Int×Bool:=
 cond (s==[]) (0,hJ) (cond ((pZ (rM s)).2 != 0||((pZ (rM s)).1==9223372036854775808 && !(((s.getD 0 0).toNat:Int)==45))) (0,eQ)
  (cond (((s.getD 0 0).toNat:Int)==45) (aE (dO .u64 (0-(pZ (rM s)).1)),hJ) (aE (pZ (rM s)).1,hJ)))
theorem Ni(s:Bs):ic (vi s).1:=by unfold vi;cases (s==[])<;>cases ((pZ (rM s)).2 != 0||((pZ (rM s)).1==9223372036854775808 && !(((s.getD 0 0).toNat:Int)==45)))<;>cases (((s.getD 0 0).toNat:Int)==45)<;>first|exact tY _|exact(show ic 0 by unfold ic;decide)
theorem adP(s:Bs):(rM s).length<=Ts s:=by unfold rM;grind
theorem aiY(F:Nat)(s:Bs)(hF:Ts s<F)(hl:Ts s<=1000000):Ck F s=iN (vi s):=by
 unfold Ck vi wx;cases hs:(s==[])with
 | true=>rfl|false=>
  have hp:0<Ts s:=by grind
  have e0:eK (0<(Ts s:Int))=hJ:=eP om;have e1:(eK (1<=(Ts s:Int))&&eK ((Ts s:Int)<=(Ts s:Int)))=hJ:=by grind
  have e2:sl s 1 (Ts s:Int)=s.drop 1:=by unfold sl;simp
  have et:((cond (((s.getD 0 0).toNat:Int)==45) (iN hJ) (iN (((s.getD 0 0).toNat:Int)==43)):O Bool).bind λx2=>cond x2 (iN (s.drop 1)) (iN s):O Bs)=iN (rM s):=by unfold rM;grind
  simp only[e0,e1,ij];grind[adP,asq]
theorem Z0(F:Nat)(s:Bs)(hF:Ts s<F)(hl:Ts s<=1000000):zR F s=iN (vi s):=by
 unfold zR vi wx;cases hs:(s==[])with
 | true=>rfl|false=>
  have hp:0<Ts s:=by grind
  have e0:eK (0<(Ts s:Int))=hJ:=eP om;have e1:(eK (1<=(Ts s:Int))&&eK ((Ts s:Int)<=(Ts s:Int)))=hJ:=by grind
  have e2:sl s 1 (Ts s:Int)=s.drop 1:=by unfold sl;simp
  have et:((cond (((s.getD 0 0).toNat:Int)==45) (iN hJ) (iN (((s.getD 0 0).toNat:Int)==43)):O Bool).bind λx2=>cond x2 (iN (s.drop 1)) (iN s):O Bs)=iN (rM s):=by unfold rM;grind
  simp only[e0,e1,e2,ij,et,aD];have:=adP s;rw[akZ F (rM s) om om];have key:∀(neg:Bool),(cond ((pZ (rM s)).2 != 0) hJ (eK ((cond neg 9223372036854775808 9223372036854775807:Int)<(pZ (rM s)).1)))=((pZ (rM s)).2 != 0||((pZ (rM s)).1==9223372036854775808 && !neg)):=by
   intro neg;rcases aiW (rM s)with⟨h,h0,h1⟩|h|h
   ·grind
   ·rw[h];rfl
   ·rw[h];rfl
  rw[<-key];grind
abbrev Rs:=Int×Int×Env
def Qw(n:Int)(name:Bs)(x:Rs):Rs:=
 cond (n != 0)
  (cond (!(vi (fX dh x.2.2 name [])).2) (0,1,x.2.2)
   (cond ((vh n (vi (fX dh x.2.2 name [])).1 x.1).2 != 0) (0,(vh n (vi (fX dh x.2.2 name [])).1 x.1).2,x.2.2)
    ((vh n (vi (fX dh x.2.2 name [])).1 x.1).1,0,jJ dh x.2.2 name (Lib.itoa (vh n (vi (fX dh x.2.2 name [])).1 x.1).1))))
  (x.1,0,jJ dh x.2.2 name (Lib.itoa x.1))
def KN(name:Bs)(m:Env):Rs:=cond (!(vi (fX dh m name [])).2) (0,1,m) ((vi (fX dh m name [])).1,0,m)
def adQ(op:Int)(x y:Rs):Rs:=cond (y.2.1 != 0) (0,y.2.1,y.2.2) ((vh op x.1 y.1).1,(vh op x.1 y.1).2,y.2.2)
def dK:Env->Rs:=λm=>(0,0,m)
def evB(op n:Int)(name:Bs)(ks:J (Env->Rs))(m:Env):Rs:=
 cond (op==1) (n,0,m) (cond (op==2) (KN name m)
  (cond ((ks.getD 0 dK m).2.1 != 0) (0,(ks.getD 0 dK m).2.1,(ks.getD 0 dK m).2.2)
   (cond (op==26) (Qw n name (ks.getD 0 dK m))
    (cond (eK (3<=op)&&eK (op<=6)) (cUn op (ks.getD 0 dK m).1,0,(ks.getD 0 dK m).2.2)
     (cond (op==25) (cond ((ks.getD 0 dK m).1 != 0) (ks.getD 1 dK (ks.getD 0 dK m).2.2) (ks.getD 2 dK (ks.getD 0 dK m).2.2))
      (cond (op==23&&(ks.getD 0 dK m).1==0) (0,0,(ks.getD 0 dK m).2.2)
       (cond (op==24&&(ks.getD 0 dK m).1 != 0) (1,0,(ks.getD 0 dK m).2.2)
        (adQ op (ks.getD 0 dK m) (ks.getD 1 dK (ks.getD 0 dK m).2.2)))))))))
mutual
def mh:d5->Env->Rs|.mk op n name kids=>evB op n name (evL kids)
def evL:J d5->J (Env->Rs)|[]=>[]|k::l=>mh k::evL l
end
theorem agn:∀l,evL l=l.map mh|[]=>rfl|k::l=>by simp[evL,agn l]
theorem WR(e:d5):mh e=evB e.fOp e.fN e.fName (e.fKids.map mh):=by cases e;rw[<-agn];rfl
theorem GD(l:J d5)(i:Nat)(h:i<Ts l):(l.map mh).getD i dK=mh (l.getD i dL):=by simp[h]
theorem yN(h:ic n):(Lib.itoa n).length<=60:=by
 have key:∀(k u:Nat),u<10^(k+1)->Ts (Lib.decDigits u)<=k+1:=by
  intro k
  induction k with
  | zero=>intro u hu;rw[Lib.decDigits_one (by simpa using hu)];simp|succ k ih=>
   intro u hu;by_cases h9:u<10
   ·grind
   ·rw[Lib.decDigits.eq_1 u];grind
 unfold ic at h;unfold Lib.itoa;split
 ·have:=key 20 n.natAbs om;simp;omega
 ·have:=key 20 n.toNat om;omega
theorem adR(F:Nat)(h:ic n):qw F n=iN (Lib.itoa n):=by unfold qw;unfold ic at h;simp_all[cy,eP]
theorem afw(F:Nat)(hF:30<=F)(h0:-9223372036854775808<=n)(h1:n<0):dW F n=iN (Lib.itoa n):=by
 unfold dW xL wx;obtain⟨u,hu⟩:∃u:Nat,n=-(u:Int):=⟨(-n).toNat,om⟩;have e1:aE (0-aE (n+1))=(u:Int)-1:=by grind[bO]
 have e2:dO .u64 ((dO .u64 ((u:Int)-1))+1)=(u:Int):=by rw[qN ((u:Int)-1) om,qN _ om];omega
 simp only[e1,e2];rw[KM 20 u F [] om om om si];rw[hu,Lib.itoa_neg u om];have hl:(Lib.decDigits u).length<=60:=by have:=yN (n:=-(u:Int)) ⟨om,om⟩;rw[Lib.itoa_neg u om]at this;simp at this;omega
 grind[ab5]
theorem LG(F:Nat)(hF:30<=F)(h:ic n):dW F n=iN (Lib.itoa n):=by
 by_cases h0:0<=n
 ·exact aiR F hF h0 h.2
 ·exact afw F hF h.1 om
theorem Good.okn(g:Good e):ic e.fN:=by obtain⟨v,o,m⟩:=g;cases o with|mk op n name kids a1 a2 a3 a4 a5=>exact aso a2
def Good.op(g:Good e):1<=e.fOp/\e.fOp<=26:=anr g.facts.1
theorem Good.GF(g:Good e)(h:i<Ts e.fKids):Good (e.fKids.getD i dL)/\e.fKids.getD i dL∈e.fKids:=by
 have hm:e.fKids.getD i dL∈e.fKids:=by simp[h]
 exact⟨g.kid _ hm,hm⟩
theorem adS(h:i<Ts e.fKids):nodes (e.fKids.getD i dL)<nodes e:=by
 have hm:e.fKids.getD i dL∈e.fKids:=by simp[h]
 have:=JK hm;rw[Ik e];omega
variable{j:Nat}
theorem JO{l:J d5}(hij:i<j)(hj:j<Ts l):nodes (l.getD i dL)+nodes (l.getD j dL)<=nw l:=by
 induction l generalizing i j with
 | nil=>simp at hj|cons k l ih=>
  cases j with
  | zero=>omega|succ j=>
   have hj':j<Ts l:=by simpa using hj
   cases i with
   | zero=>
    have hm:l.getD j dL∈l:=by simp[hj']
    have:=JK hm;simp only[Ro,List.getD_cons_succ,nw];omega
   | succ i=>have:=ih (i:=i) om hj';simp only[List.getD_cons_succ,nw];omega
theorem Good.shape(g:Good e):(e.fOp=1)\/(e.fOp=2)\/((3<=e.fOp/\e.fOp<=6)/\e.fKids.length=1)\/((7<=e.fOp/\e.fOp<=24)/\e.fKids.length=2)\/(e.fOp=25/\e.fKids.length=3)\/(e.fOp=26/\e.fKids.length=1):=by have h1:=g.facts.1;have h2:=g.op;rcases ans h2 with h|h|h|h|h|h|h|h|h|h|h|h|h|h|h|h|h|h|h|h|h|h|h|h|h|h<;>rw[h]at h1<;>simp[qx]at h1<;>omega
theorem Qx:∀e,Good e->∀c m,Eo c m->Eo (c+nodes e) (mh e m).2.2/\ic (mh e m).1:=by
 apply Good.ind;intro e g ih c m hm;have z:ic 0:=by unfold ic;decide
 have one:ic 1:=by unfold ic;decide
 have auc:=hm.mono (show c<=c+nodes e by omega);rw[WR];unfold evB;cases h1:(e.fOp==1)with|true=>exact⟨auc,g.okn⟩|false=>
 cases h2:(e.fOp==2)with|true=>unfold KN;grind[fX,dh,Ni]|false=>
 simp only[iq]at h1 h2;have hl:0<Ts e.fKids:=by rcases g.shape with h|h|h|h|h|h<;>omega
 obtain⟨g0,m0⟩:=g.GF hl;obtain⟨i1,i2⟩:=ih _ m0 c m hm;have n0:=adS hl;rw[GD _ 0 hl];generalize hx:mh (e.fKids.getD 0 dL) m=x at i1 i2⊢;have i1':=i1.mono (show c+nodes (e.fKids.getD 0 dL)<=c+nodes e by omega);cases (x.2.1 != 0)with|true=>exact⟨i1',z⟩|false=>
 cases JJ:(e.fOp==26)with
 | true=>
  unfold Qw;have hs:∀n:Int,ic n->Eo (c+nodes e) (jJ dh x.2.2 e.fName (Lib.itoa n)):=λn hn=>(i1.set g.facts.2.2.2.1 (kU (yN hn) de)).mono om;cases (e.fN != 0)with
  | false=>exact⟨hs _ i2,i2⟩|true=>
   cases (!(vi (fX dh x.2.2 e.fName [])).2)with
   | true=>exact⟨i1',z⟩|false=>have hr:=Nh e.fN (Ni (fX dh x.2.2 e.fName [])) i2;cases ((vh e.fN (vi (fX dh x.2.2 e.fName [])).1 x.1).2 != 0)with|true=>exact⟨i1',z⟩|false=>exact⟨hs _ hr,hr⟩
 | false=>
 simp only[iq]at JJ;cases h36:(eK (3<=e.fOp)&&eK (e.fOp<=6))with|true=>simp_all[ap5]|false=>
 have anH:¬ (3<=e.fOp/\e.fOp<=6):=by simp_all
 have hl1:1<Ts e.fKids:=by rcases g.shape with h|h|h|h|h|h<;>omega
 obtain⟨g1,m1⟩:=g.GF hl1;obtain⟨j1,j2⟩:=ih _ m1 _ x.2.2 i1;have n01:=JO (l:=e.fKids) (i:=0) (j:=1) om hl1;rw[GD _ 1 hl1];have j1':=j1.mono (show c+nodes (e.fKids.getD 0 dL)+nodes (e.fKids.getD 1 dL)<=c+nodes e by rw[Ik e];omega);cases ZW:(e.fOp==25)with
 | true=>
  have ast:e.fOp=25:=by simpa using ZW
  have hl2:2<Ts e.fKids:=by rcases g.shape with h|h|h|h|h|h<;>omega
  obtain⟨g2,m2⟩:=g.GF hl2;obtain⟨k1,k2⟩:=ih _ m2 _ x.2.2 i1;have n02:=JO (l:=e.fKids) (i:=0) (j:=2) om hl2;rw[GD _ 2 hl2];cases (x.1 != 0)with|true=>exact⟨j1',j2⟩|false=>exact⟨k1.mono (by rw[Ik e];omega),k2⟩
 | false=>
 cases (e.fOp==23&&x.1==0)with|true=>exact⟨i1',z⟩|false=>
 cases (e.fOp==24&&x.1 != 0)with|true=>exact⟨i1',one⟩|false=>
 unfold adQ;cases ((mh (e.fKids.getD 1 dL) x.2.2).2.1 != 0)with|true=>exact⟨j1',z⟩|false=>simp_all[Nh]
theorem Ir{a b:Int}(h:a≠b):(a==b)=eQ:=by simp_all
theorem var_eq(F:Nat)(hF:5000<=F)(hm:Eo c m)(name:Bs):lC F name m=iN ((KN name m).1,(KN name m).2.1):=by unfold lC KO KN wx;have:=hm.get name;grind[aiY,fX,dh]
theorem anI(name:Bs)(m:Env):(KN name m).2.2=m:=by unfold KN;grind
theorem aat:∀e,Good e->bS λF n=>∀c m,Eo c m->jX F n e m=iN (mh e m):=by
 apply Good.ind;intro e g ih;refine bS.succ (bS.succ (((bS.all ih).and (bS.all ih).up).mg (bS.ge (p:=λF _=>5000<=F) 5000 λF n h _=>h) λF n hi hF c m hm=>?_));obtain⟨ih,ih'⟩:=hi;show tc F (jX F (n+1)) (nX F (n+1)) e m=_;have ha:∀m,nX F (n+1) e m=rW F (jX F n) (nX F n) e m:=λm=>rfl;rw[WR];unfold tc evB wx;cases h1:(e.fOp==1)with|true=>rfl|false=>
 cases h2:(e.fOp==2)with|true=>simp only[aS,aJ];grind[var_eq,anI,Prod.ext]|false=>
 simp only[iq]at h1 h2;have hl:0<Ts e.fKids:=by rcases g.shape with h|h|h|h|h|h<;>omega
 obtain⟨g0,m0⟩:=g.GF hl;obtain⟨i1,i2⟩:=Qx _ g0 c m hm;have e0:eK (0<(Ts e.fKids:Int))=hJ:=eP om;simp only[aJ,e0,ij];rw[GD _ 0 hl,ih' _ m0 c m hm];cases JJ:(e.fOp==26)with
 | true=>
  have avq:e.fOp=26:=by simpa using JJ
  simp only[aS,d5.eta];rw[ha];unfold rW wx;rw[e0,ih _ m0 c m hm];simp only[ij,aD];generalize mh (e.fKids.getD 0 dL) m=x at i1 i2⊢;cases (x.2.1 != 0)with
  | true=>rfl|false=>
   simp only[aJ];rw[var_eq F hF i1];unfold Qw Er;cases (e.fN != 0)with
   | false=>simp_all[aJ,jj,aD,sm,adR]|true=>
    simp only[aS,aD];unfold KN;cases (!(vi (fX dh x.2.2 e.fName [])).2)with
    | true=>rfl|false=>have hr:=Nh e.fN (Ni (fX dh x.2.2 e.fName [])) i2;simp only[aJ,Mk];rw[ZZ];simp only[aD];cases ((vh e.fN (vi (fX dh x.2.2 e.fName [])).1 x.1).2 != 0)with|true=>rfl|false=>simp_all[aJ,jj,aD,sm,adR]
 | false=>
 simp only[iq]at JJ;simp only[aJ,aD];generalize mh (e.fKids.getD 0 dL) m=x at i1 i2⊢;cases (x.2.1 != 0)with|true=>rfl|false=>
 simp only[aJ];have hun:(cond (e.fOp==3) (iN (e.fOp==3)) (cond (e.fOp==4) (iN (e.fOp==4)) (cond (e.fOp==5) (iN (e.fOp==5)) (iN (e.fOp==6)))):O Bool)=iN (eK (3<=e.fOp)&&eK (e.fOp<=6)):=by
  by_cases h:3<=e.fOp/\e.fOp<=6
  ·have:e.fOp=3\/e.fOp=4\/e.fOp=5\/e.fOp=6:=om;grind
  ·rw[Ir (show e.fOp≠3 by omega),Ir (show e.fOp≠4 by omega),Ir (show e.fOp≠5 by omega),Ir (show e.fOp≠6 by omega)];simp_all
 rw[hun];simp only[aD];cases h36:(eK (3<=e.fOp)&&eK (e.fOp<=6))with|true=>simp_all[aS,anG,aD,jj,sm]|false=>
 have anH:¬ (3<=e.fOp/\e.fOp<=6):=by simp_all
 simp only[aJ];have hl1:1<Ts e.fKids:=by rcases g.shape with h|h|h|h|h|h<;>omega
 obtain⟨g1,m1⟩:=g.GF hl1;have e1:eK (1<(Ts e.fKids:Int))=hJ:=eP om;have f1:=ih' _ m1 _ x.2.2 i1;rw[GD _ 1 hl1,e1,f1];cases ZW:(e.fOp==25)with
 | true=>
  have ast:e.fOp=25:=by simpa using ZW
  have hl2:2<Ts e.fKids:=by rcases g.shape with h|h|h|h|h|h<;>omega
  obtain⟨g2,m2⟩:=g.GF hl2;have e2:eK (2<(Ts e.fKids:Int))=hJ:=eP om;rw[GD _ 2 hl2,e2,ih' _ m2 _ x.2.2 i1];simp only[aS,ij,aD];cases (x.1 != 0)<;>rfl
 | false=>
 simp only[aJ,ij,aD];have hx:(x.1 != 0)=!(x.1==0):=rfl;unfold adQ;have fin:((iN (mh (e.fKids.getD 1 dL) x.2.2)).bind λx9=>cond (x9.2.1 != 0) (iN (0,x9.2.1,x9.2.2)) ((vS F e.fOp x.1 x9.1).bind λcA=>iN (cA.1,cA.2,x9.2.2)))=iN (cond ((mh (e.fKids.getD 1 dL) x.2.2).2.1 != 0) (0,(mh (e.fKids.getD 1 dL) x.2.2).2.1,(mh (e.fKids.getD 1 dL) x.2.2).2.2) ((vh e.fOp x.1 (mh (e.fKids.getD 1 dL) x.2.2).1).1,(vh e.fOp x.1 (mh (e.fKids.getD 1 dL) x.2.2).1).2,(mh (e.fKids.getD 1 dL) x.2.2).2.2)):=by grind[ZZ]
 simp only[aD]at fin;cases h23:(e.fOp==23)with
 | true=>have WD:(e.fOp==24)=eQ:=Ir (by simp_all);rw[WD,hx];cases (x.1==0)with|true=>rfl|false=>exact fin
 | false=>
  rw[hx];cases WD:(e.fOp==24)with
  | true=>cases (x.1==0)with|true=>exact fin|false=>rfl
  | false=>exact fin
theorem aiZ(F:Nat)(hF:200000<=F)(hm:Eo c m)(hc:c<=100000)(g:Good e)(JJ:e.fOp=26){a:Int}(ha:ic a):
  JP F (d5.mk e.fOp e.fN e.fName e.fKids) a (uD m)=iN ((Qw e.fN e.fName (a,0,m)).1,uD (Qw e.fN e.fName (a,0,m)).2.2,(Qw e.fN e.fName (a,0,m)).2.1):=by
 rw[d5.eta];unfold JP Qw wx;have hlen:(uD m).length<=100000:=by rw[Yr];have:=hm.len;omega
 have hg:=hm.get e.fName;rw[Qu F _ _ om om,Qv];simp;rw[Z0 F _ om om];have nV:∀n:Int,ic n->((dW F n).bind λx5=>(Ch F (uD m) e.fName x5).bind λx6=>iN (n,x6,(0:Int)))=iN (n,uD (jJ dh m e.fName (Lib.itoa n)),0):=λn hn=>by rw[LG F om hn];simp;rw[bind_eq F _ _ _ om om,agm hm.nd];rfl
 cases hn:(e.fN != 0)with
 | false=>simp_all[aJ,jj,aD,sm]|true=>
  have hcomp:Ce e.fN=hJ:=by
   rcases g.facts.2.2.2.2 JJ with h|h
   ·rw[h]at hn;cases hn
   ·exact h
  have hne:e.fN≠23/\e.fN≠24:=by unfold Ce at hcomp;grind
  simp;cases (vi (fX dh m e.fName [])).2 with
  | false=>rfl|true=>have hr:=Nh e.fN (Ni (fX dh m e.fName [])) ha;rw[ak3 F _ _ _ hne.1 hne.2];simp;cases ((vh e.fN (vi (fX dh m e.fName [])).1 a).2 != 0)with|true=>rfl|false=>simp_all[aJ,jj,aD,sm]
theorem afx:∀e,Good e->bS λF n=>∀c m,Eo c m->c+nodes e<=100000->tZ F n e (uD m)=iN ((mh e m).1,uD (mh e m).2.2,(mh e m).2.1):=by
 apply Good.ind;intro e g ih;refine bS.succ ((bS.all ih).mg (bS.ge (p:=λF _=>200000<=F) 200000 λF n h _=>h) λF n ih' hF c m hm hc=>?_);show Is F (tZ F n) e (uD m)=_;rw[WR];unfold Is evB wx;cases h1:(e.fOp==1)with|true=>rfl|false=>
 cases h2:(e.fOp==2)with
 | true=>
  simp only[aS,aJ];have hlen:(uD m).length<=100000:=by rw[Yr];have:=hm.len;omega
  have hg:=hm.get e.fName;rw[Qu F _ _ om om,Qv];simp only[aD];rw[Z0 F _ om om];simp only[aD];unfold KN;grind
 | false=>
 simp only[iq]at h1 h2;have hl:0<Ts e.fKids:=by rcases g.shape with h|h|h|h|h|h<;>omega
 obtain⟨g0,m0⟩:=g.GF hl;have n0:=adS hl;obtain⟨i1,i2⟩:=Qx _ g0 c m hm;have e0:eK (0<(Ts e.fKids:Int))=hJ:=eP om;simp only[aJ,e0,ij];rw[GD _ 0 hl,ih' _ m0 c m hm om];simp only[aD];generalize mh (e.fKids.getD 0 dL) m=x at i1 i2⊢;cases hx0:(x.2.1 != 0)with|true=>rfl|false=>
 have hx0':x.2.1=0:=by simpa using hx0
 simp only[aJ];have hun:(cond (eK (3<=e.fOp)) (iN (eK (e.fOp<=6))) (iN eQ):O Bool)=iN (eK (3<=e.fOp)&&eK (e.fOp<=6)):=by grind
 rw[hun];simp only[aD];cases h36:(eK (3<=e.fOp)&&eK (e.fOp<=6))with
 | true=>
  have anH:3<=e.fOp/\e.fOp<=6:=by simpa using h36
  have JJ:(e.fOp==26)=eQ:=Ir om;rw[JJ];simp_all[aS,aJ,ass]
 | false=>
 have anH:¬ (3<=e.fOp/\e.fOp<=6):=by simp_all
 simp only[aJ];cases JJ:(e.fOp==26)with
 | true=>
  have avq:e.fOp=26:=by simpa using JJ
  simp only[aS];grind[aiZ,Prod.ext]
 | false=>
 simp only[iq]at JJ;simp only[aJ];have hl1:1<Ts e.fKids:=by rcases g.shape with h|h|h|h|h|h<;>omega
 obtain⟨g1,m1⟩:=g.GF hl1;have n01:=JO (l:=e.fKids) (i:=0) (j:=1) om hl1;have ne:=Ik e;have e1:eK (1<(Ts e.fKids:Int))=hJ:=eP om;have f1:=ih' _ m1 _ x.2.2 i1 om;rw[GD _ 1 hl1,e1,f1];cases ZW:(e.fOp==25)with
 | true=>
  have ast:e.fOp=25:=by simpa using ZW
  have hl2:2<Ts e.fKids:=by rcases g.shape with h|h|h|h|h|h<;>omega
  obtain⟨g2,m2⟩:=g.GF hl2;have n02:=JO (l:=e.fKids) (i:=0) (j:=2) om hl2;have e2:eK (2<(Ts e.fKids:Int))=hJ:=eP om;rw[GD _ 2 hl2,e2,ih' _ m2 _ x.2.2 i1 om];simp only[aS,ij,aD];cases (x.1 != 0)<;>rfl
 | false=>
 simp only[aJ,ij,aD];have hx:(x.1 != 0)=!(x.1==0):=rfl;unfold adQ;cases h23:(e.fOp==23)with
 | true=>
  have avr:e.fOp=23:=by simpa using h23
  have WD:(e.fOp==24)=eQ:=Ir om;rw[WD,hx];cases h0:(x.1==0)with
  | true=>rfl|false=>
   simp only[aS,aJ,aD,TM,UY,Ci];cases ((mh (e.fKids.getD 1 dL) x.2.2).2.1 != 0)with
   | true=>rfl|false=>
    have:vh e.fOp x.1 (mh (e.fKids.getD 1 dL) x.2.2).1=(tr ((mh (e.fKids.getD 1 dL) x.2.2).1 != 0),0):=by rw[avr];show(tr (x.1 != 0&&(mh (e.fKids.getD 1 dL) x.2.2).1 != 0),(0:Int))=_;rw[hx,h0];rfl
    rw[this];rfl
 | false=>
  cases WD:(e.fOp==24)with
  | true=>
   have avs:e.fOp=24:=by simpa using WD
   rw[hx];cases h0:(x.1==0)with
   | false=>rfl|true=>
    simp only[aS,aJ,aD,TM,UY,Ci,gN];cases ((mh (e.fKids.getD 1 dL) x.2.2).2.1 != 0)with
    | true=>rfl|false=>
     have:vh e.fOp x.1 (mh (e.fKids.getD 1 dL) x.2.2).1=(tr ((mh (e.fKids.getD 1 dL) x.2.2).1 != 0),0):=by rw[avs];show(tr (x.1 != 0||(mh (e.fKids.getD 1 dL) x.2.2).1 != 0),(0:Int))=_;simp_all
     rw[this];rfl
  | false=>simp only[iq]at h23 WD;simp only[aJ,aD,UY];grind[ak3]
def yO(e:d5)(l:J di):Int×J di×Int:=cond (iV e 0 != 0) (0,[],iV e 0) (cond ((mh e (vg l)).2.1 != 0) (0,[],(mh e (vg l)).2.1) ((mh e (vg l)).1,uD (mh e (vg l)).2.2,0))
theorem N8{α β:Type}(f:α->β):∀(l:J α)(t:J β),l.foldl (λt k=>t++[f k]) t=t++l.map f|[],t=>by simp|x::l,t=>by rw[vZ,N8 f l];simp
def Uw(l:J di):Prop:=∀b,b∈l->Ts b.fName<=60/\b.cg.length<=4096
theorem WT(e:d5):Vd e->Nms e:=by
 induction e using d5.ind with
 | h op n name kids ih=>
  intro v;cases v with
  | mk _ _ _ _ h1 h2 h3 h4 h5 h6 h7=>refine .mk op n name kids ?_ λk hk=>ih k hk (h7 k hk);cases hn:Nf op with|true=>have:=h6 hn;unfold rName at this;grind|false=>simp_all
theorem adT(ho:jc e)(hl:Ts l<=1000)(hb:Uw l)(hn:nodes e<=10000):bS λF _=>E3 F e l=iN (yO e l):=by
 by_cases hv:iV e 0=0
 ·have g:Good e:=⟨JL e 0 hv,ho,WT e (JL e 0 hv)⟩;refine(LB ho).DJ (aat e g).fst (bS.ge 100000 λF n h _=>h) λF _ h1 h2 hF=>?_;unfold E3 yO wx;simp only[d5.eta];rw[h1,hv];have hm:=Ip hb;obtain⟨k1,k2⟩:=Qx e g _ _ hm;refine Ek l (λi (t:Env)=>((i:Int),t)) (λm b=>jJ dh m b.fName b.cg) (λ_ _=>True) om rfl trivial ?_ (λ_ _ _ _=>trivial) ?_
  ·intro i h t rc _;simp only[y5 h,b9,gd h,bH (i:=i) om];rfl
  ·intro rc _;simp only[Ii];show((jX F F e (vg l)).bind _)=_;rw[h2 _ _ hm];simp only[aD];generalize mh e (vg l)=x at k1 k2⊢;cases (x.2.1 != 0)with
   | true=>rfl|false=>
    rw[aub k1 om];have hks:(rL (x.2.2.map (·.1))).length<=11000:=by rw[(uV _).length_eq,je];have:=k1.len;omega
    refine Ek (rL (x.2.2.map (·.1))) (λi (t:J di)=>(t,(i:Int))) (λt k=>t++[Bk x.2.2 k]) (λi t=>Ts t<=i) om rfl si ?_ ?_ ?_
    ·intro i h t rc hI;simp only[y5 h,b9,gd h,bH (i:=i) om];rw[dI aQ om];rfl
    ·simp_all
    ·intro rc _;simp only[Ii];rw[N8];rfl
 ·refine(LB ho).mono λF _ h1=>?_;unfold E3 yO wx;simp;grind
theorem LH(ho:jc e):bS λF _=>Es F e=iN (iV e 0):=(Tt ho).fst.mono λF _ h=>by unfold Es Tx wx;simp_all
theorem afy(ho:jc e)(hl:Ts l<=1000)(hb:Uw l)(hn:nodes e<=10000):bS λF _=>Cl F e l=iN (yO e l):=by
 by_cases hv:iV e 0=0
 ·have g:Good e:=⟨JL e 0 hv,ho,WT e (JL e 0 hv)⟩;refine(LH ho).DJ (afx e g).fst (bS.ge 100000 λF n h _=>h) λF _ h1 h2 hF=>?_;unfold Cl yO wx;simp;rw[h1,hv];rw[ak1 F l om hl hb];show((tZ F F e (uD (vg l))).bind _)=_;rw[h2 _ _ (Ip hb) om];grind
 ·refine(LH ho).mono λF _ h1=>?_;unfold Cl yO wx;simp;grind
theorem ak4(ho:jc e)(hl:Ts l<=1000)(hb:Uw l)(hn:nodes e<=10000):(yO e l).2.1.length<=100000:=by
 unfold yO;cases hv:(iV e 0 != 0)with
 | true=>simp|false=>
  have jQ:iV e 0=0:=by simpa using hv
  have g:Good e:=⟨JL e 0 jQ,ho,WT e (JL e 0 jQ)⟩;obtain⟨k1,k2⟩:=Qx e g _ _ (Ip hb);cases ((mh e (vg l)).2.1 != 0)with|true=>simp|false=>simp;rw[Yr];have:=k1.len;omega
def ak5:J (Bs×Int×Int):=[([124,124],3,24),([38,38],4,23),([124],5,22),([94],6,21),([38],7,20),([61,61],8,18),([33,61],8,19),([60],9,14),([62],9,15),([60,61],9,16),([62,61],9,17),([60,60],10,12),([62,62],10,13),([43],11,10),([45],11,11),([42],12,7),([47],12,8),([37],12,9)]
def gQ(x:Bs):Int×Int:=match ak5.find? (λp=>p.1==x)with|some p=>p.2|none=>(0,0)
def asu:J (Bs×Int):=[([61],0),([43,61],10),([45,61],11),([42,61],7),([47,61],8),([37,61],9),([60,60,61],12),([62,62,61],13),([38,61],20),([94,61],21),([124,61],22)]
def ua(x:Bs):Int:=match asu.find? (λp=>p.1==x)with|some p=>p.2|none=>-1
def vC(x:Bs):Int:=cond (x==[45]) 3 (cond (x==[43]) 4 (cond (x==[33]) 5 (cond (x==[126]) 6 0)))
structure Tab(x:Bs):Prop where
 bin:∀G s p,kF (G+20) s 3 p x=iN (gQ x)
 asg:∀G p,ry (G+20) ⟨3,p,x⟩=iN (cond (ua x == -1) 0 (ua x),!(ua x == -1))
 asr:∀G,sN (G+20) x=iN (ua x)
 bir:∀G l,mj (G+20) x l=iN (cond ((gQ x).1==l) (gQ x).2 0)
 lv:0<=(gQ x).1/\(gQ x).1<=12/\((gQ x).1=0\/3<=(gQ x).1)
 op:(gQ x).1≠0->7<=(gQ x).2/\(gQ x).2<=24/\(mW (gQ x).2).1=(gQ x).1/\(mW (gQ x).2).2=x
variable{x:Bs}
theorem anJ(h:gQ x=(0,0))(hr:∀G l,mj (G+20) x l=iN 0):∀G l,mj (G+20) x l=iN (cond ((gQ x).1==l) (gQ x).2 0):=by simp_all
theorem anK{lv op:Int}(h:gQ x=(lv,op))(hr:∀G l,mj (G+20) x l=cond (lv==l) (iN op) (iN 0)):∀G l,mj (G+20) x l=iN (cond ((gQ x).1==l) (gQ x).2 0):=by grind
theorem ap7:∀x,x∈([]::qy)->Tab x:=by
 intro x hx;simp[qy,Ai,aiS]at hx;rcases hx with rfl|rfl|rfl|rfl|rfl|rfl|rfl|rfl|rfl|rfl|rfl|rfl|rfl|rfl|rfl|rfl|rfl|rfl|rfl|rfl|rfl|rfl|rfl|rfl|rfl|rfl|rfl|rfl|rfl|rfl|rfl|rfl|rfl|rfl|rfl|rfl<;>
  exact⟨λG s p=>by kernel_rfl,λG p=>by kernel_rfl,λG=>by kernel_rfl,(by first|exact anJ de (λG l=>by kernel_rfl)|exact anK rfl (λG l=>by kernel_rfl)),de,de⟩
def kd(s:Bs)(i:Nat):Int:=(ve s i).dU
def tx(s:Bs)(i:Nat):Bs:=(ve s i).bJ
def sy(s:Bs)(i:Nat):Bs:=oO (s.drop (skip s i))
def nx(s:Bs)(i:Nat):Nat:=skip s i+Ts (tx s i)
inductive avt(s:Bs)(i:Nat):Prop
 | fin (h:ve s i=⟨0,skip s i,[]⟩) (hs:sy s i=[]) (hw:mC s (skip s i)=[]) (he:Ts s<=skip s i)
 | num (w:Bs) (b:UInt8) (h:ve s i=⟨1,skip s i,b::w⟩) (hs:sy s i=[]) (hw:mC s (skip s i)=b::w) (hd:dg b=hJ) (hl:skip s i+Ts (b::w)<=Ts s)
 | nam (w:Bs) (b:UInt8) (h:ve s i=⟨2,skip s i,b::w⟩) (hs:sy s i=[]) (hw:mC s (skip s i)=b::w) (hd:le b=hJ) (hl:skip s i+Ts (b::w)<=Ts s)
 | op (x:Bs) (h:ve s i=⟨3,skip s i,x⟩) (hs:sy s i=x) (hw:mC s (skip s i)=[]) (hm:x∈qy) (hl:skip s i+Ts x<=Ts s)
 | oth (b:UInt8) (h:ve s i=⟨4,skip s i,[b]⟩) (hs:sy s i=[]) (hw:mC s (skip s i)=[]) (hl:skip s i+1<=Ts s)
theorem ak6:∀n:Fin 256,fo (lL n.val)=hJ->∀o,o∈qy->[lL n.val].isPrefixOf o=eQ:=by decide +kernel
def aud(b:UInt8)(h:fo b=hJ):∀o,o∈qy->[b].isPrefixOf o=eQ:=Uu (P:=λb=>fo b=hJ->∀o,o∈qy->[b].isPrefixOf o=eQ) ak6 b h
theorem anL(b:UInt8)(m:Bs)(h:fo b=hJ):oO (b::m)=[]:=by
 rcases Qs (b::m)with h1|⟨h1,h2⟩
 ·exact h1
 ·have hne:=DM _ h1;have:=aud b h _ h1;revert this h2 hne;cases oO (b::m)with|nil=>simp_all|cons c o=>simp_all
theorem ny(s:Bs)(i:Nat)(hi:i<=Ts s):avt s i:=by
 obtain⟨h1,h2⟩:=iS s i hi;have e1:ve s i=WI s (skip s i):=rfl;have e2:sy s i=oO (s.drop (skip s i)):=rfl;generalize hj:skip s i=j at h1 h2 e1 e2;unfold WI at e1;cases hd:s.drop j with
 | nil=>rw[hd]at e1 e2;refine .fin (by rw[hj];exact e1) e2 (by rw[hj];unfold mC;rw[hd];rfl) ?_;simp_all|cons b m=>
  have hlen:(s.drop j).length=m.length+1:=by rw[hd];rfl
  rw[Km]at hlen;rw[hd]at e1 e2;simp only[]at e1;cases hf:fo b with
  | true=>
   have hw:mC s j=b::m.takeWhile fo:=by unfold mC;simp_all
   have hl:j+Ts (b::m.takeWhile fo)<=Ts s:=by grind[Aj,List.length_cons]
   rw[anL b m hf]at e2;rw[hf,hw]at e1;cases hdg:dg b with|true=>rw[hdg]at e1;exact .num (m.takeWhile fo) b (by rw[hj];exact e1) e2 (by rw[hj];exact hw) hdg (by rw[hj];exact hl)|false=>rw[hdg]at e1;refine .nam (m.takeWhile fo) b (by rw[hj];exact e1) e2 (by rw[hj];exact hw) ?_ (by rw[hj];exact hl);simp_all[aoV]
  | false=>
   have hw:mC s j=[]:=by unfold mC;simp_all
   rw[hf]at e1;rcases Qs (b::m)with ho|⟨ho1,ho2⟩
   ·rw[ho]at e1 e2;exact .oth b (by rw[hj];exact e1) e2 (by rw[hj];exact hw) (by rw[hj];omega)
   ·have hne:=DM _ ho1;have:(oO (b::m)==[])=eQ:=by simpa using hne
    rw[this]at e1;have hle:=ho2.length_le;simp at hle;exact .op (oO (b::m)) (by rw[hj];exact e1) e2 (by rw[hj];exact hw) ho1 (by rw[hj];omega)
theorem Qy(s:Bs)(i:Nat):sy s i∈([]::qy):=by unfold sy;grind[Qs,List.mem_cons_of_mem]
def zS(s:Bs)(i:Nat):Tab (sy s i):=ap7 _ (Qy s i)
theorem lP(s:Bs)(i:Nat)(hi:i<=Ts s):nx s i<=Ts s/\i<=nx s i/\(kd s i≠0->i<nx s i):=by
 obtain⟨h1,h2⟩:=iS s i hi;unfold nx tx kd;rcases ny s i hi with⟨h,_,_,_⟩|⟨w,b,h,_,_,_,hl⟩|⟨w,b,h,_,_,_,hl⟩|⟨x,h,_,_,hm,hl⟩|⟨b,h,_,_,hl⟩<;>rw[h]<;>simp at *
 ·simp_all
 ·grind
 ·grind
 ·have:Ts x≠0:=by simp_all[DM]
  grind
 grind
theorem Cm(s:Bs)(i:Nat)(hi:i<=Ts s)(h:sy s i≠[]):kd s i=3/\tx s i=sy s i:=by
 unfold kd tx;rcases ny s i hi with⟨h',hs,_,_⟩|⟨w,b,h',hs,_,_,hl⟩|⟨w,b,h',hs,_,_,hl⟩|⟨x,h',hs,_,hm,hl⟩|⟨b,h',hs,_,hl⟩
 ·exact absurd hs h
 ·exact absurd hs h
 ·exact absurd hs h
 ·simp_all
 ·exact absurd hs h
inductive wH
 | ok (e:d5) (j:Nat)
 | err (p:Nat) (c:Int)
inductive oG
 | expr
 | cond
 | oper (l:Int)
 | loop (l:Int) (a:d5)
 | un
 | o6
def jV(s:Bs)(i:Nat):Int:=cond (kd s i==2) (ua (sy s (nx s i))) (-1)
inductive D(s:Bs):oG->Nat->wH->Prop
 | Co {i:Nat} {r:wH} (h:jV s i=-1) (d:D s .cond i r):D s .expr i r
 | Cp {i:Nat} (h:jV s i≠-1) (hn:rName (tx s i)=eQ):D s .expr i (.err (skip s i) 10)
 | GG {i j:Nat} {e:d5} (h:jV s i≠-1) (hn:rName (tx s i)=hJ) (d:D s .expr (nx s (nx s i)) (.ok e j)):D s .expr i (.ok (.mk 26 (jV s i) (tx s i) [e]) j)
 | GH {i p:Nat} {c:Int} (h:jV s i≠-1) (hn:rName (tx s i)=hJ) (d:D s .expr (nx s (nx s i)) (.err p c)):D s .expr i (.err p c)
 | GJ {i p:Nat} {c:Int} (d:D s (.oper 3) i (.err p c)):D s .cond i (.err p c)
 | GK {i j:Nat} {a:d5} (d:D s (.oper 3) i (.ok a j)) (h:sy s j≠[63]):D s .cond i (.ok a j)
 | GL {i j p:Nat} {c:Int} {a:d5} (d:D s (.oper 3) i (.ok a j)) (h:sy s j=[63]) (d2:D s .expr (nx s j) (.err p c)):D s .cond i (.err p c)
 | GM {i j k:Nat} {a b:d5} (d:D s (.oper 3) i (.ok a j)) (h:sy s j=[63]) (d2:D s .expr (nx s j) (.ok b k)) (h2:sy s k≠[58]):D s .cond i (.err (skip s k) 6)
 | Nj {i j k p:Nat} {c:Int} {a b:d5} (d:D s (.oper 3) i (.ok a j)) (h:sy s j=[63]) (d2:D s .expr (nx s j) (.ok b k)) (h2:sy s k=[58]) (d3:D s .cond (nx s k) (.err p c)):D s .cond i (.err p c)
 | GN {i j k m:Nat} {a b e:d5} (d:D s (.oper 3) i (.ok a j)) (h:sy s j=[63]) (d2:D s .expr (nx s j) (.ok b k)) (h2:sy s k=[58]) (d3:D s .cond (nx s k) (.ok e m)):D s .cond i (.ok (.mk 25 0 [] [a,b,e]) m)
 | WU {l:Int} {i p:Nat} {c:Int} (d:D s .un i (.err p c)):D s (.oper l) i (.err p c)
 | Ys {l:Int} {i j:Nat} {a:d5} {r:wH} (d:D s .un i (.ok a j)) (d2:D s (.loop l a) j r):D s (.oper l) i r
 | xP {l:Int} {i:Nat} {a:d5} (h:(gQ (sy s i)).1<l):D s (.loop l a) i (.ok a i)
 | Et {l:Int} {i p:Nat} {c:Int} {a:d5} (h:l<=(gQ (sy s i)).1) (d:D s (.oper ((gQ (sy s i)).1+1)) (nx s i) (.err p c)):D s (.loop l a) i (.err p c)
 | It {l:Int} {i j:Nat} {a b:d5} {r:wH} (h:l<=(gQ (sy s i)).1) (d:D s (.oper ((gQ (sy s i)).1+1)) (nx s i) (.ok b j)) (d2:D s (.loop l (.mk (gQ (sy s i)).2 0 [] [a,b])) j r):D s (.loop l a) i r
 | Cq {i:Nat} {r:wH} (h:vC (sy s i)=0) (d:D s .o6 i r):D s .un i r
 | GO {i p:Nat} {c:Int} (h:vC (sy s i)≠0) (d:D s .un (nx s i) (.err p c)):D s .un i (.err p c)
 | Nk {i j:Nat} {a:d5} (h:vC (sy s i)≠0) (d:D s .un (nx s i) (.ok a j)):D s .un i (.ok (.mk (vC (sy s i)) 0 [] [a]) j)
 | GP {i:Nat} (h:kd s i=1) (hv:(pY (tx s i)).2=0):D s .o6 i (.ok (.mk 1 (pY (tx s i)).1 [] []) (nx s i))
 | Cr {i:Nat} (h:kd s i=1) (hv:(pY (tx s i)).2≠0):D s .o6 i (.err (skip s i) (pY (tx s i)).2)
 | GQ {i:Nat} (h:kd s i=2) (hv:rName (tx s i)=hJ):D s .o6 i (.ok (.mk 2 0 (tx s i) []) (nx s i))
 | Cs {i:Nat} (h:kd s i=2) (hv:rName (tx s i)=eQ):D s .o6 i (.err (skip s i) 10)
 | GR {i:Nat} (h1:kd s i≠1) (h2:kd s i≠2) (h:sy s i≠[40]):D s .o6 i (.err (skip s i) 6)
 | Nl {i p:Nat} {c:Int} (h:sy s i=[40]) (d:D s .expr (nx s i) (.err p c)):D s .o6 i (.err p c)
 | yP {i j:Nat} {e:d5} (h:sy s i=[40]) (d:D s .expr (nx s i) (.ok e j)) (h2:sy s j≠[41]):D s .o6 i (.err (skip s j) 6)
 | Nn {i j:Nat} {e:d5} (h:sy s i=[40]) (d:D s .expr (nx s i) (.ok e j)) (h2:sy s j=[41]):D s .o6 i (.ok e (nx s j))
def oG.asv:oG->Bool|.loop _ _=>hJ|_=>eQ
def aue(s:Bs)(c:oG)(i:Nat):wH->Prop|.ok e j=>i<=j/\j<=Ts s/\(c.asv=eQ->i<j)|.err p _=>p<=Ts s
variable{s:Bs}
theorem Qz(h:jV s i≠-1):kd s i=2/\ua (sy s (nx s i))≠-1/\jV s i=ua (sy s (nx s i)):=by unfold jV at h⊢;grind
theorem adU(h:ua x≠-1):x≠[]:=λe=>h (by rw[e];rfl)
theorem AE{l:Int}(hl:0<l)(h:l<=(gQ x).1):x≠[]:=λe=>by rw[e]at h;simp[gQ,ak5]at h;omega
theorem Ba(h:vC x≠0):x≠[]:=λe=>h (by rw[e];rfl)
def oG.okL:oG->Prop|.oper l=>0<l|.loop l _=>0<l|_=>True
theorem dP(hi:i<=Ts s)(h:sy s i≠[]):nx s i<=Ts s/\i<nx s i:=by simp_all[lP,Cm]
theorem xQ(hi:i<=Ts s)(h:jV s i≠-1):nx s i<=Ts s/\i<nx s i/\nx s (nx s i)<=Ts s/\i<nx s (nx s i):=by grind[Qz,lP,dP,adU]
variable{r:wH}
theorem nD{c:oG}(d:D s c i r):i<=Ts s->c.okL->aue s c i r:=by
 induction d with
 | @Co i r h d ih=>intro hi _;have:=ih hi trivial;cases r with|ok e j=>exact this|err p c=>exact this
 | Cp h hn=>intro hi _;exact(iS s _ hi).1|GG h hn d ih=>intro hi _;obtain⟨a,b,c,e⟩:=xQ hi h;obtain⟨x,y,z⟩:=ih c trivial;exact⟨om,y,λ_=>om⟩
 | GH h hn d ih=>intro hi _;exact ih (xQ hi h).2.2.1 trivial|GJ d ih=>intro hi _;exact ih hi (show(0:Int)<3 by decide)
 | GK d h ih=>intro hi _;exact ih hi (show(0:Int)<3 by decide)
 | GL d h d2 ih ih2=>intro hi _;obtain⟨x,y,z⟩:=ih hi (show(0:Int)<3 by decide);exact ih2 (dP y (by rw[h];decide)).1 trivial
 | GM d h d2 h2 ih ih2=>intro hi _;obtain⟨x,y,z⟩:=ih hi (show(0:Int)<3 by decide);obtain⟨x2,y2,z2⟩:=ih2 (dP y (by rw[h];decide)).1 trivial;exact(iS s _ y2).1
 | Nj d h d2 h2 d3 ih ih2 ih3=>intro hi _;obtain⟨x,y,z⟩:=ih hi (show(0:Int)<3 by decide);obtain⟨x2,y2,z2⟩:=ih2 (dP y (by rw[h];decide)).1 trivial;exact ih3 (dP y2 (by rw[h2];decide)).1 trivial
 | GN d h d2 h2 d3 ih ih2 ih3=>intro hi _;obtain⟨x,y,z⟩:=ih hi (show(0:Int)<3 by decide);obtain⟨m1,m2⟩:=dP y (by rw[h];decide);obtain⟨x2,y2,z2⟩:=ih2 m1 trivial;obtain⟨m3,m4⟩:=dP y2 (by rw[h2];decide);obtain⟨x3,y3,z3⟩:=ih3 m3 trivial;exact⟨om,y3,λ_=>om⟩
 | WU d ih=>intro hi _;exact ih hi trivial|@Ys l i j a r d d2 ih ih2=>
  intro hi hl;obtain⟨x,y,z⟩:=ih hi trivial;have:=ih2 y hl;cases r with
  | ok e j=>obtain⟨x2,y2,_⟩:=this;have:=z rfl;exact⟨om,y2,λ_=>om⟩
  | err p c=>exact this
 | xP h=>intro hi _;exact⟨ep _,hi,λh=>by cases h⟩
 | @Et l i p c a h d ih=>intro hi hl;have hl:0<l:=hl;exact ih (dP hi (AE hl h)).1 (show(0:Int)<_ by omega)
 | @It l i j a b r h d d2 ih ih2=>
  intro hi hl;have hl':0<l:=hl;obtain⟨m1,m2⟩:=dP hi (AE hl' h);obtain⟨x,y,z⟩:=ih m1 (show(0:Int)<_ by omega);have:=ih2 y hl;cases r with
  | ok e j=>obtain⟨x2,y2,_⟩:=this;exact⟨om,y2,λh=>by cases h⟩
  | err p c=>exact this
 | @Cq i r h d ih=>intro hi _;have:=ih hi trivial;cases r with|ok e j=>exact this|err p c=>exact this
 | GO h d ih=>intro hi _;exact ih (dP hi (Ba h)).1 trivial|Nk h d ih=>intro hi _;obtain⟨m1,m2⟩:=dP hi (Ba h);obtain⟨x,y,z⟩:=ih m1 trivial;exact⟨om,y,λ_=>om⟩
 | GP h hv=>intro hi _;obtain⟨a,b,c⟩:=lP s _ hi;have c:=c (by rw[h];decide);exact⟨b,a,λ_=>c⟩
 | Cr h hv=>intro hi _;exact(iS s _ hi).1|GQ h hv=>intro hi _;obtain⟨a,b,c⟩:=lP s _ hi;have c:=c (by rw[h];decide);exact⟨b,a,λ_=>c⟩
 | Cs h hv=>intro hi _;exact(iS s _ hi).1|GR h1 h2 h=>intro hi _;exact(iS s _ hi).1|Nl h d ih=>intro hi _;exact ih (dP hi (by rw[h];decide)).1 trivial|yP h d h2 ih=>intro hi _;obtain⟨x,y,z⟩:=ih (dP hi (by rw[h];decide)).1 trivial;exact(iS s _ y).1
 | Nn h d h2 ih=>intro hi _;obtain⟨m1,m2⟩:=dP hi (by rw[h];decide);obtain⟨x,y,z⟩:=ih m1 trivial;obtain⟨m3,m4⟩:=dP y (by rw[h2];decide);exact⟨om,m3,λ_=>om⟩
def oG.xR:oG->Nat|.expr=>4|.cond=>3|.oper _=>2|.loop _ _=>0|.un=>1|.o6=>0
theorem ap8(s:Bs)(n:Nat):∀(c:oG)(i:Nat),i<=Ts s->c.okL->(Ts s-i)*5+c.xR<n->∃r,D s c i r:=by
 induction n with
 | zero=>intro c i _ _ h;omega|succ n ih=>
  intro c i hi hc hm;cases c with
  | expr=>
   simp[oG.xR]at hm;by_cases h:jV s i=-1
   ·obtain⟨r,d⟩:=ih .cond i hi trivial (by simp[oG.xR];omega);exact⟨r,.Co h d⟩
   ·obtain⟨_,_,m1,m2⟩:=xQ hi h;cases hn:rName (tx s i)with
    | false=>exact⟨_,.Cp h hn⟩|true=>obtain⟨r,d⟩:=ih .expr _ m1 trivial (by simp[oG.xR];omega);cases r with|ok e j=>exact⟨_,.GG h hn d⟩|err p c=>exact⟨_,.GH h hn d⟩
  | cond=>
   simp[oG.xR]at hm;have h3:=show(0:Int)<3 by decide
   obtain⟨r,d⟩:=ih (.oper 3) i hi h3 (by simp[oG.xR];omega);cases r with
   | err p c=>exact⟨_,.GJ d⟩|ok a j=>
    obtain⟨x,y,z⟩:=nD d hi h3;by_cases h:sy s j=[63]
    ·obtain⟨m1,m2⟩:=dP y (by rw[h];decide);obtain⟨r,d2⟩:=ih .expr _ m1 trivial (by simp[oG.xR];omega);cases r with
     | err p c=>exact⟨_,.GL d h d2⟩|ok b k=>
      obtain⟨x2,y2,z2⟩:=nD d2 m1 trivial;by_cases h2:sy s k=[58]
      ·obtain⟨m3,m4⟩:=dP y2 (by rw[h2];decide);obtain⟨r,d3⟩:=ih .cond _ m3 trivial (by simp[oG.xR];omega);cases r with|err p c=>exact⟨_,.Nj d h d2 h2 d3⟩|ok e m=>exact⟨_,.GN d h d2 h2 d3⟩
      ·exact⟨_,.GM d h d2 h2⟩
    ·exact⟨_,.GK d h⟩
  | oper l=>
   simp[oG.xR]at hm;obtain⟨r,d⟩:=ih .un i hi trivial (by simp[oG.xR];omega);cases r with
   | err p c=>exact⟨_,.WU d⟩|ok a j=>obtain⟨x,y,z⟩:=nD d hi trivial;obtain⟨r,d2⟩:=ih (.loop l a) j y hc (by simp[oG.xR];omega);exact⟨_,.Ys d d2⟩
  | loop l a=>
   have hl:0<l:=hc;by_cases h:(gQ (sy s i)).1<l
   ·exact⟨_,.xP h⟩
   ·have h:l<=(gQ (sy s i)).1:=om;obtain⟨m1,m2⟩:=dP hi (AE hl h);have ho:(oG.oper ((gQ (sy s i)).1+1)).okL:=show(0:Int)<_ by omega
    obtain⟨r,d⟩:=ih (.oper ((gQ (sy s i)).1+1)) _ m1 ho (by simp[oG.xR];omega);cases r with
    | err p c=>exact⟨_,.Et h d⟩|ok b j=>obtain⟨x,y,z⟩:=nD d m1 ho;obtain⟨r,d2⟩:=ih (.loop l (.mk (gQ (sy s i)).2 0 [] [a,b])) j y hc (by simp[oG.xR];omega);exact⟨_,.It h d d2⟩
  | un=>
   simp[oG.xR]at hm;by_cases h:vC (sy s i)=0
   ·obtain⟨r,d⟩:=ih .o6 i hi trivial (by simp[oG.xR];omega);exact⟨_,.Cq h d⟩
   ·obtain⟨m1,m2⟩:=dP hi (Ba h);obtain⟨r,d⟩:=ih .un _ m1 trivial (by simp[oG.xR];omega);cases r with|ok e j=>exact⟨_,.Nk h d⟩|err p c=>exact⟨_,.GO h d⟩
  | o6=>
   by_cases h1:kd s i=1
   ·by_cases hv:(pY (tx s i)).2=0
    ·exact⟨_,.GP h1 hv⟩
    ·exact⟨_,.Cr h1 hv⟩
   ·by_cases h2:kd s i=2
    ·cases hv:rName (tx s i)with|true=>exact⟨_,.GQ h2 hv⟩|false=>exact⟨_,.Cs h2 hv⟩
    ·by_cases h:sy s i=[40]
     ·obtain⟨m1,m2⟩:=dP hi (by rw[h];decide);obtain⟨r,d⟩:=ih .expr _ m1 trivial (by simp[oG.xR];omega);cases r with
      | err p c=>exact⟨_,.Nl h d⟩|ok e j=>
       by_cases h2:sy s j=[41]
       ·exact⟨_,.Nn h d h2⟩
       ·exact⟨_,.yP h d h2⟩
     ·exact⟨_,.GR h1 h2 h⟩
def asw(s:Bs)(i:Nat)(hi:i<=Ts s):∃r,D s .expr i r:=ap8 s _ .expr i hi trivial (Kp _)
abbrev nS(s:Bs)(i:Nat):Int:=(gQ (sy s i)).1
inductive Yt
 | expr
 | cond
 | level (l:Int)
 | loop (l:Int) (a:d5)
 | un
 | o6
inductive RD(s:Bs):Yt->Nat->wH->Prop
 | Co {i:Nat} {r:wH} (h:jV s i=-1) (d:RD s .cond i r):RD s .expr i r
 | Cp {i:Nat} (h:jV s i≠-1) (hn:rName (tx s i)=eQ):RD s .expr i (.err (skip s i) 10)
 | GG {i j:Nat} {e:d5} (h:jV s i≠-1) (hn:rName (tx s i)=hJ) (d:RD s .expr (nx s (nx s i)) (.ok e j)):RD s .expr i (.ok (.mk 26 (jV s i) (tx s i) [e]) j)
 | GH {i p:Nat} {c:Int} (h:jV s i≠-1) (hn:rName (tx s i)=hJ) (d:RD s .expr (nx s (nx s i)) (.err p c)):RD s .expr i (.err p c)
 | GJ {i p:Nat} {c:Int} (d:RD s (.level 3) i (.err p c)):RD s .cond i (.err p c)
 | GK {i j:Nat} {a:d5} (d:RD s (.level 3) i (.ok a j)) (h:sy s j≠[63]):RD s .cond i (.ok a j)
 | GL {i j p:Nat} {c:Int} {a:d5} (d:RD s (.level 3) i (.ok a j)) (h:sy s j=[63]) (d2:RD s .expr (nx s j) (.err p c)):RD s .cond i (.err p c)
 | GM {i j k:Nat} {a b:d5} (d:RD s (.level 3) i (.ok a j)) (h:sy s j=[63]) (d2:RD s .expr (nx s j) (.ok b k)) (h2:sy s k≠[58]):RD s .cond i (.err (skip s k) 6)
 | Nj {i j k p:Nat} {c:Int} {a b:d5} (d:RD s (.level 3) i (.ok a j)) (h:sy s j=[63]) (d2:RD s .expr (nx s j) (.ok b k)) (h2:sy s k=[58]) (d3:RD s .cond (nx s k) (.err p c)):RD s .cond i (.err p c)
 | GN {i j k m:Nat} {a b e:d5} (d:RD s (.level 3) i (.ok a j)) (h:sy s j=[63]) (d2:RD s .expr (nx s j) (.ok b k)) (h2:sy s k=[58]) (d3:RD s .cond (nx s k) (.ok e m)):RD s .cond i (.ok (.mk 25 0 [] [a,b,e]) m)
 | ai0 {l:Int} {i:Nat} {r:wH} (hl:12<l) (d:RD s .un i r):RD s (.level l) i r
 | abF {l:Int} {i p:Nat} {c:Int} (h3:3<=l) (hl:l<=12) (d:RD s (.level (l+1)) i (.err p c)):RD s (.level l) i (.err p c)
 | anM {l:Int} {i j:Nat} {a:d5} {r:wH} (h3:3<=l) (hl:l<=12) (d:RD s (.level (l+1)) i (.ok a j)) (d2:RD s (.loop l a) j r):RD s (.level l) i r
 | xP {l:Int} {i:Nat} {a:d5} (h:nS s i≠l):RD s (.loop l a) i (.ok a i)
 | Et {l:Int} {i p:Nat} {c:Int} {a:d5} (h:nS s i=l) (d:RD s (.level (l+1)) (nx s i) (.err p c)):RD s (.loop l a) i (.err p c)
 | It {l:Int} {i j:Nat} {a b:d5} {r:wH} (h:nS s i=l) (d:RD s (.level (l+1)) (nx s i) (.ok b j)) (d2:RD s (.loop l (.mk (gQ (sy s i)).2 0 [] [a,b])) j r):RD s (.loop l a) i r
 | Cq {i:Nat} {r:wH} (h:vC (sy s i)=0) (d:RD s .o6 i r):RD s .un i r
 | GO {i p:Nat} {c:Int} (h:vC (sy s i)≠0) (d:RD s .un (nx s i) (.err p c)):RD s .un i (.err p c)
 | Nk {i j:Nat} {a:d5} (h:vC (sy s i)≠0) (d:RD s .un (nx s i) (.ok a j)):RD s .un i (.ok (.mk (vC (sy s i)) 0 [] [a]) j)
 | GP {i:Nat} (h:kd s i=1) (hv:(pY (tx s i)).2=0):RD s .o6 i (.ok (.mk 1 (pY (tx s i)).1 [] []) (nx s i))
 | Cr {i:Nat} (h:kd s i=1) (hv:(pY (tx s i)).2≠0):RD s .o6 i (.err (skip s i) (pY (tx s i)).2)
 | GQ {i:Nat} (h:kd s i=2) (hv:rName (tx s i)=hJ):RD s .o6 i (.ok (.mk 2 0 (tx s i) []) (nx s i))
 | Cs {i:Nat} (h:kd s i=2) (hv:rName (tx s i)=eQ):RD s .o6 i (.err (skip s i) 10)
 | GR {i:Nat} (h1:kd s i≠1) (h2:kd s i≠2) (h:sy s i≠[40]):RD s .o6 i (.err (skip s i) 6)
 | Nl {i p:Nat} {c:Int} (h:sy s i=[40]) (d:RD s .expr (nx s i) (.err p c)):RD s .o6 i (.err p c)
 | yP {i j:Nat} {e:d5} (h:sy s i=[40]) (d:RD s .expr (nx s i) (.ok e j)) (h2:sy s j≠[41]):RD s .o6 i (.err (skip s j) 6)
 | Nn {i j:Nat} {e:d5} (h:sy s i=[40]) (d:RD s .expr (nx s i) (.ok e j)) (h2:sy s j=[41]):RD s .o6 i (.ok e (nx s j))
inductive Tl(s:Bs):Int->d5->Nat->wH->Prop
 | top {a:d5} {i:Nat}:Tl s 13 a i (.ok a i)
 | err {l:Int} {a:d5} {i p:Nat} {c:Int} (h3:3<=l) (hl:l<=12) (t:Tl s (l+1) a i (.err p c)):Tl s l a i (.err p c)
 | go {l:Int} {a b:d5} {i j:Nat} {r:wH} (h3:3<=l) (hl:l<=12) (t:Tl s (l+1) a i (.ok b j)) (d:RD s (.loop l b) j r):Tl s l a i r
theorem Sj{s:Bs}{a:d5}{i:Nat}:∀(k:Nat)(l:Int),l+k=13->3<=l->nS s i<l->Tl s l a i (.ok a i)
 | 0,l,hk,_,_=>by obtain rfl:l=13:=om;exact .top
 | k+1,l,hk,h3,h=>.go h3 om (Sj k (l+1) om om om) (.xP om)
theorem ago{l:Int}{a:d5}(t:Tl s l a i r):nS s i<l->r=.ok a i:=by
 induction t with
 | top=>intro _;rfl|err h3 hl t ih=>grind|@go l a b i j r h3 hl t d ih=>intro h;cases ih om;cases d with|xP _=>rfl|Et h' _=>simp_all|It h' _ _=>simp_all
theorem ai1{s:Bs}{a b:d5}{i j:Nat}(hd:RD s (.level (nS s i+1)) (nx s i) (.ok b j))(hj:nS s j<nS s i+1)(h12:nS s i<=12):
  ∀(k:Nat)(l:Int)(r:wH),l+k=nS s i->3<=l->Tl s l (.mk (gQ (sy s i)).2 0 [] [a,b]) j r->Tl s l a i r
 | 0,l,r,hk,h3,t=>by
  have hk':nS s i=l:=om;rw[hk']at hd hj h12;have hs:Tl s (l+1) a i (.ok a i):=Sj (13-(l+1)).toNat _ om om om;generalize hx:d5.mk (gQ (sy s i)).2 0 [] [a,b]=x at t;cases t with
  | top=>omega|err _ _ t=>cases ago t hj
  | go _ _ t d=>cases ago t hj;subst hx;exact .go h3 h12 hs (.It hk' hd d)
 | k+1,l,r,hk,h3,t=>by generalize hx:d5.mk (gQ (sy s i)).2 0 [] [a,b]=x at t;cases t with|top=>omega|err _ _ t=>subst hx;exact .err h3 om (ai1 hd hj h12 k (l+1) _ om om t)|go _ _ t d=>subst hx;exact .go h3 om (ai1 hd hj h12 k (l+1) _ om om t) d
theorem ak7{s:Bs}{a:d5}{i p:Nat}{c:Int}(hd:RD s (.level (nS s i+1)) (nx s i) (.err p c))(h12:nS s i<=12):
  ∀(k:Nat)(l:Int),l+k=nS s i->3<=l->Tl s l a i (.err p c)
 | 0,l,hk,h3=>by obtain rfl:l=nS s i:=om;exact .go h3 h12 (Sj (13-(nS s i+1)).toNat _ om om om) (.Et rfl hd)
 | k+1,l,hk,h3=>.err h3 om (ak7 hd h12 k (l+1) om om)
theorem anN{a:d5}(hu:RD s .un i (.ok a j)){l:Int}(t:Tl s l a j r):RD s (.level l) i r:=by
 induction t with|top=>exact .ai0 om hu|err h3 hl t ih=>exact .abF h3 hl (ih hu)|go h3 hl t d ih=>exact .anM h3 hl (ih hu) d
theorem Z1{s:Bs}{i p:Nat}{c:Int}(hu:RD s .un i (.err p c)):∀(k:Nat)(l:Int),l+k=13->3<=l->RD s (.level l) i (.err p c)|0,l,hk,_=>.ai0 om hu|k+1,l,hk,h3=>.abF h3 om (Z1 hu k (l+1) om om)
theorem ap9{c:oG}(d:D s c i r):∀l,(c=.oper l\/∃a,c=.loop l a)->∀e j,r=.ok e j->nS s j<l:=by
 induction d with|Ys d d2 ih ih2=>simp_all|xP h=>simp_all|It h d d2 ih ih2=>simp_all|_=>simp_all
def MR(s:Bs):oG->Nat->wH->Prop|.expr,i,r=>RD s .expr i r|.cond,i,r=>RD s .cond i r|.oper l,i,r=>3<=l->l<=13->RD s (.level l) i r|.loop l a,i,r=>3<=l->l<=13->Tl s l a i r|.un,i,r=>RD s .un i r|.o6,i,r=>RD s .o6 i r
theorem avu{c:oG}(d:D s c i r):MR s c i r:=by
 induction d with
 | Co h d ih=>exact .Co h ih|Cp h hn=>exact .Cp h hn|GG h hn d ih=>exact .GG h hn ih|GH h hn d ih=>exact .GH h hn ih|GJ d ih=>exact .GJ (ih de de)|GK d h ih=>exact .GK (ih de de) h|GL d h d2 ih ih2=>exact .GL (ih de de) h ih2|GM d h d2 h2 ih ih2=>exact .GM (ih de de) h ih2 h2|Nj d h d2 h2 d3 ih ih2 ih3=>exact .Nj (ih de de) h ih2 h2 ih3|GN d h d2 h2 d3 ih ih2 ih3=>exact .GN (ih de de) h ih2 h2 ih3|@WU l i p c d ih=>exact λh3 ZV=>Z1 ih (13-l).toNat l om h3|Ys d d2 ih ih2=>exact λh3 ZV=>anN ih (ih2 h3 ZV)|@xP l i a h=>exact λh3 ZV=>Sj (13-l).toNat l om h3 h|@Et l i p c a h d ih=>intro h3 ZV;have hlv:0<=nS s i/\nS s i<=12/\(nS s i=0\/3<=nS s i):=(zS s i).lv;have h:l<=nS s i:=h;exact ak7 (ih (show 3<=nS s i+1 by omega) (show nS s i+1<=13 by omega)) hlv.2.1 (nS s i-l).toNat l om h3
 | @It l i j a b r h d d2 ih ih2=>intro h3 ZV;have hlv:0<=nS s i/\nS s i<=12/\(nS s i=0\/3<=nS s i):=(zS s i).lv;have h:l<=nS s i:=h;exact ai1 (ih (show 3<=nS s i+1 by omega) (show nS s i+1<=13 by omega)) (ap9 d _ (.inl rfl) _ _ rfl) hlv.2.1 (nS s i-l).toNat l r om h3 (ih2 h3 ZV)
 | Cq h d ih=>exact .Cq h ih|GO h d ih=>exact .GO h ih|Nk h d ih=>exact .Nk h ih|GP h hv=>exact .GP h hv|Cr h hv=>exact .Cr h hv|GQ h hv=>exact .GQ h hv|Cs h hv=>exact .Cs h hv|GR h1 h2 h=>exact .GR h1 h2 h|Nl h d ih=>exact .Nl h ih|yP h d h2 ih=>exact .yP h ih h2|Nn h d h2 ih=>exact .Nn h ih h2
abbrev RA:=(d5×Bs×Int×Int×Bs) ⊕ (ei×Bs×Int×Int×Bs)
abbrev SA:=Bs×Int×Int×Bs×Int×Int×Bs×(J d5)
def po(s:Bs)(i:Nat):Int:=(skip s i:Int)
def mm(s:Bs):wH->O RA->Prop|.ok e j,x=>x=iN (.inl (e,s,kd s j,po s j,tx s j))|.err p c,x=>∃st,x=iN (.inr (⟨p,c⟩,st))
def Ct(F:Nat)(r:Int->Bs->Int->Int->Bs->O RA)(l:Int):(SA->O RA)->SA->O RA:=
 (λiG x2=>
 (kF F x2.1 x2.2.1 x2.2.2.1 x2.2.2.2.1).bind λx4=>
 cond (eK (x4.1<l))
 (iN (.inl ((d5.mk ((d5.mk x2.2.2.2.2.1 x2.2.2.2.2.2.1 x2.2.2.2.2.2.2.1 x2.2.2.2.2.2.2.2).fOp) ((d5.mk x2.2.2.2.2.1 x2.2.2.2.2.2.1 x2.2.2.2.2.2.2.1 x2.2.2.2.2.2.2.2).fN) ((d5.mk x2.2.2.2.2.1 x2.2.2.2.2.2.1 x2.2.2.2.2.2.2.1 x2.2.2.2.2.2.2.2).fName) ((d5.mk x2.2.2.2.2.1 x2.2.2.2.2.2.1 x2.2.2.2.2.2.2.1 x2.2.2.2.2.2.2.2).fKids)),x2.1,x2.2.1,x2.2.2.1,x2.2.2.2.1)))
 ((fy F x2.1 x2.2.1 x2.2.2.1 x2.2.2.2.1).bind λx5=>
 (r (aE (x4.1+1)) x5.1 x5.2.1 x5.2.2.1 x5.2.2.2).bind (sm (λx6=>
 iG (x6.2.1,x6.2.2.1,x6.2.2.2.1,x6.2.2.2.2,(d5.mk x4.2 0 [] ([(d5.mk x2.2.2.2.2.1 x2.2.2.2.2.2.1 x2.2.2.2.2.2.2.1 x2.2.2.2.2.2.2.2),(d5.mk x6.1.fOp x6.1.fN x6.1.fName x6.1.fKids)]:J d5)).fOp,(d5.mk x4.2 0 [] ([(d5.mk x2.2.2.2.2.1 x2.2.2.2.2.2.1 x2.2.2.2.2.2.2.1 x2.2.2.2.2.2.2.2),(d5.mk x6.1.fOp x6.1.fN x6.1.fName x6.1.fKids)]:J d5)).fN,(d5.mk x4.2 0 [] ([(d5.mk x2.2.2.2.2.1 x2.2.2.2.2.2.1 x2.2.2.2.2.2.2.1 x2.2.2.2.2.2.2.2),(d5.mk x6.1.fOp x6.1.fN x6.1.fName x6.1.fKids)]:J d5)).fName,(d5.mk x4.2 0 [] ([(d5.mk x2.2.2.2.2.1 x2.2.2.2.2.2.1 x2.2.2.2.2.2.2.1 x2.2.2.2.2.2.2.2),(d5.mk x6.1.fOp x6.1.fN x6.1.fName x6.1.fKids)]:J d5)).fKids)) (λx7=>iN (.inr (x7.1,x7.2.1,x7.2.2.1,x7.2.2.2.1,x7.2.2.2.2))))))
theorem Sk(s:Bs)(i:Nat)(hi:i<=Ts s):ve s i=⟨kd s i,po s i,tx s i⟩:=by unfold kd tx po;rcases ny s i hi with⟨h,_,_,_⟩|⟨w,b,h,_,_,_,hl⟩|⟨w,b,h,_,_,_,hl⟩|⟨x,h,_,_,hm,hl⟩|⟨b,h,_,_,hl⟩<;>rw[h]
theorem aqa(X:O RA):X.bind (sm (λx=>iN (.inl ((d5.mk x.1.fOp x.1.fN x.1.fName x.1.fKids),x.2.1,x.2.2.1,x.2.2.2.1,x.2.2.2.2))) (λx=>iN (.inr (x.1,x.2.1,x.2.2.1,x.2.2.2.1,x.2.2.2.2))))=X:=by cases X with|none=>rfl|some y=>grind[sm,d5.eta]
variable{F:Nat}
section
variable (hl : s.length <= 1000000) (hi : i <= s.length) (hF : s.length + 60 <= F)
include hl hi hF
theorem Iu:o7 F s (kd s i) (po s i) (tx s i)=iN (ve s (nx s i)):=by
 unfold o7 wx;obtain⟨a,_,_⟩:=lP s i hi;have e:po s i+(Ts (tx s i):Int)=((nx s i:Nat):Int):=by unfold po nx;omega
 grind[bO,Yo]
theorem uc:fy F s (kd s i) (po s i) (tx s i)=iN (s,kd s (nx s i),po s (nx s i),tx s (nx s i)):=by unfold fy wx;simp_all[lP,Iu,Sk]
theorem kY(hx:x≠[]):jk F x s (kd s i) (po s i) (tx s i)=iN (sy s i==x):=by
 unfold jk wx;by_cases h:sy s i=[]
 ·have hk:(cond (kd s i==3) (iN (tx s i==x)) (iN eQ):O Bool)=iN eQ:=by
   unfold kd tx;rcases ny s i hi with⟨h',_,_,_⟩|⟨w,b,h',_,_,_,_⟩|⟨w,b,h',_,_,_,_⟩|⟨x',h',hs,_,hm,_⟩|⟨b,h',_,_,_⟩<;>rw[h']<;>try rfl
   simp_all
  simp_all
 simp_all[Cm]
theorem Yu:kF F s (kd s i) (po s i) (tx s i)=iN (gQ (sy s i)):=by
 by_cases h:sy s i=[]
 ·rw[h];have hk:(kd s i==3)=eQ:=by
   unfold kd;rcases ny s i hi with⟨h',_,_,_⟩|⟨w,b,h',_,_,_,_⟩|⟨w,b,h',_,_,_,_⟩|⟨x',h',hs,_,hm,_⟩|⟨b,h',_,_,_⟩<;>rw[h']<;>try rfl
   simp_all[DM]
  unfold kF wx;rw[hk];rfl
 ·obtain⟨h1,h2⟩:=Cm s i hi h;rw[h1,h2];obtain⟨G,rfl⟩:∃G,F=G+20:=⟨F-20,om⟩;exact(zS s i).bin G s _
theorem JQ:ry F (ve s i)=iN (cond (ua (sy s i) == -1) 0 (ua (sy s i)),!(ua (sy s i) == -1)):=by
 by_cases h:sy s i=[]
 ·rw[h];have hk:((ve s i).dU != 3)=hJ:=by
   rcases ny s i hi with⟨h',_,_,_⟩|⟨w,b,h',_,_,_,_⟩|⟨w,b,h',_,_,_,_⟩|⟨x',h',hs,_,hm,_⟩|⟨b,h',_,_,_⟩<;>rw[h']<;>try rfl
   simp_all[DM]
  unfold ry wx;rw[hk];rfl
 ·obtain⟨h1,h2⟩:=Cm s i hi h;rw[Sk s i hi,h1,h2];obtain⟨G,rfl⟩:∃G,F=G+20:=⟨F-20,om⟩;exact(zS s i).asg G _
theorem yQ(hx:x≠[])(h:sy s i=x):jf F x s (kd s i) (po s i) (tx s i)=iN (.inl (s,kd s (nx s i),po s (nx s i),tx s (nx s i))):=by unfold jf wx;simp_all[kY,uc,jj,sm]
theorem QA(hx:x≠[])(h:sy s i≠x):jf F x s (kd s i) (po s i) (tx s i)=iN (.inr ⟨po s i,6⟩):=by
 unfold jf wx;have:(sy s i==x)=eQ:=by simp_all
 rw[kY hl hi hF hx,this];rfl
omit hF hl in
theorem ak8:(tx s i).length<=Ts s:=by obtain⟨a,_,_⟩:=lP s i hi;unfold nx at a;omega
omit hF hl in
theorem auf(h:kd s i=1\/kd s i=2):tx s i≠[]:=by unfold kd at h;unfold tx;rcases ny s i hi with⟨h',_,_,_⟩|⟨w,b,h',_,_,_,_⟩|⟨w,b,h',_,_,_,_⟩|⟨x',h',hs,_,hm,_⟩|⟨b,h',_,_,_⟩<;>rw[h']at h⊢ <;> simp at h⊢
theorem adV(h:kd s i=1):zO F (tx s i)=iN (pY (tx s i)):=by grind[ak8,anx,auf]
theorem Yv(h:rName (tx s i)=hJ):jt F s (kd s i) (po s i) (tx s i)=iN (.inl (tx s i,s,kd s (nx s i),po s (nx s i),tx s (nx s i))):=by unfold jt wx;grind[FE,uc]
theorem ak9(h:rName (tx s i)=eQ):jt F s (kd s i) (po s i) (tx s i)=iN (.inr ⟨po s i,10⟩):=by unfold jt wx;grind[FE]
end
def StA(s:Bs):oG->Nat->wH->Prop|.expr,i,r=>bS λF n=>mm s r (aX F n s (kd s i) (po s i) (tx s i))|.cond,i,r=>bS λF n=>mm s r (bE F n s (kd s i) (po s i) (tx s i))|.oper l,i,r=>bS λF n=>mm s r (aN F n l s (kd s i) (po s i) (tx s i))|.loop l a,i,r=>∃N,∀F n m,N<=F->N<=n->N<=m->mm s r (bW (Ct F (aN F n) l) m (s,kd s i,po s i,tx s i,a.fOp,a.fN,a.fName,a.fKids))|.un,i,r=>bS λF n=>mm s r (bR F n s (kd s i) (po s i) (tx s i))|.o6,i,r=>bS λF n=>mm s r (bK F n s (kd s i) (po s i) (tx s i))
def ia(s:Bs):bS λF _=>Ts s+60<=F:=bS.ge (Ts s+60) λF n h _=>h
theorem D_A(hl:Ts s<=1000000){c:oG}(d:D s c i r):i<=Ts s->c.okL->StA s c i r:=by
 induction d with
 | @Co i r h d ih=>
  intro hi _;refine bS.succ (bS.mg (ih hi trivial) (ia s) λF n h1 hF=>?_);show mm s r (eY F (aX F n) (bE F n) (aN F n) (bR F n) (bK F n) s (kd s i) (po s i) (tx s i));unfold eY wx;rw[aqa];cases hk:(kd s i==2)with
  | false=>grind|true=>
   have:(kd s i != 2)=eQ:=by unfold bne;rw[hk];rfl
   unfold jV at h;rw[hk]at h;simp only[aS]at h;obtain⟨a,_,_⟩:=lP s i hi;rw[this,Iu hl hi hF];simp_all[aJ,aD,JQ]
 | @Cp i h hn=>
  intro hi _;refine bS.succ (bS.mono (ia s) λF n hF=>?_);obtain⟨hk,h2,_⟩:=Qz h;obtain⟨a,_,_⟩:=lP s i hi;show mm s _ (eY F (aX F n) (bE F n) (aN F n) (bR F n) (bK F n) s (kd s i) (po s i) (tx s i));unfold eY wx;have h3:(ua (sy s (nx s i)) == -1)=eQ:=by simp_all
  rw[Iu hl hi hF,ak9 hl hi hF hn];simp only[aD];rw[JQ hl a hF,h3,hk];exact⟨_,rfl⟩
 | @GG i j e h hn d ih=>
  intro hi _;obtain⟨m1,m2,m3,m4⟩:=xQ hi h;refine bS.succ (bS.mg (ih m3 trivial) (ia s) λF n h1 hF=>?_);obtain⟨hk,h2,he⟩:=Qz h;show mm s _ (eY F (aX F n) (bE F n) (aN F n) (bR F n) (bK F n) s (kd s i) (po s i) (tx s i));unfold eY wx;have h3:(ua (sy s (nx s i)) == -1)=eQ:=by simp_all
  have h1:aX F n s _ _ _=_:=h1;rw[Iu hl hi hF,Yv hl hi hF hn];simp only[aD];rw[JQ hl m1 hF,h3,hk,he];simp only[Mk,aJ,qi,gN,sm];rw[uc hl m1 hF];simp only[aD];rw[h1];rfl
 | @GH i p c h hn d ih=>
  intro hi _;obtain⟨m1,m2,m3,m4⟩:=xQ hi h;refine bS.succ (bS.mg (ih m3 trivial) (ia s) λF n h1 hF=>?_);obtain⟨hk,h2,he⟩:=Qz h;show mm s _ (eY F (aX F n) (bE F n) (aN F n) (bR F n) (bK F n) s (kd s i) (po s i) (tx s i));unfold eY wx;have h3:(ua (sy s (nx s i)) == -1)=eQ:=by simp_all
  obtain⟨st,h1⟩:=h1;rw[Iu hl hi hF,Yv hl hi hF hn];simp only[aD];rw[JQ hl m1 hF,h3,hk];simp only[Mk,aJ,qi,gN,sm];rw[uc hl m1 hF];simp only[aD];rw[h1];exact⟨_,rfl⟩
 | @GJ i p c d ih=>intro hi _;refine bS.succ (bS.mono (ih hi (show(0:Int)<3 by decide)) λF n h1=>?_);show mm s _ (dn F (aX F n) (bE F n) (aN F n) (bR F n) (bK F n) s (kd s i) (po s i) (tx s i));unfold dn wx;obtain⟨st,h1⟩:=h1;rw[h1];exact⟨_,rfl⟩
 | @GK i j a d h ih=>
  intro hi _;obtain⟨x,y,z⟩:=nD d hi (show(0:Int)<3 by decide);refine bS.succ (bS.mg (ih hi (show(0:Int)<3 by decide)) (ia s) λF n h1 hF=>?_);show mm s _ (dn F (aX F n) (bE F n) (aN F n) (bR F n) (bK F n) s (kd s i) (po s i) (tx s i));unfold dn wx;have h1:aN F n 3 s _ _ _=_:=h1;have hb:(sy s j==[63])=eQ:=by simp_all
  rw[h1];simp only[aD,sm];rw[kY hl y hF de,hb];simp_all
 | @GL i j p c a d h d2 ih ih2=>intro hi _;obtain⟨x,y,z⟩:=nD d hi (show(0:Int)<3 by decide);obtain⟨m1,m2⟩:=dP y (by rw[h];decide);refine bS.succ (bS.DJ (ih hi (show(0:Int)<3 by decide)) (ih2 m1 trivial) (ia s) λF n h1 h2 hF=>?_);show mm s _ (dn F (aX F n) (bE F n) (aN F n) (bR F n) (bK F n) s (kd s i) (po s i) (tx s i));unfold dn wx;have h1:aN F n 3 s _ _ _=_:=h1;obtain⟨st,h2⟩:=h2;rw[h1];simp only[aD,sm];rw[kY hl y hF de,h,uc hl y hF];simp only[aD];rw[h2];exact⟨_,rfl⟩
 | @GM i j k a b d h d2 h2 ih ih2=>intro hi _;obtain⟨x,y,z⟩:=nD d hi (show(0:Int)<3 by decide);obtain⟨m1,m2⟩:=dP y (by rw[h];decide);obtain⟨x2,y2,z2⟩:=nD d2 m1 trivial;refine bS.succ (bS.DJ (ih hi (show(0:Int)<3 by decide)) (ih2 m1 trivial) (ia s) λF n h1 h3 hF=>?_);show mm s _ (dn F (aX F n) (bE F n) (aN F n) (bR F n) (bK F n) s (kd s i) (po s i) (tx s i));unfold dn wx;have h1:aN F n 3 s _ _ _=_:=h1;have h3:aX F n s _ _ _=_:=h3;rw[h1];simp only[aD,sm];rw[kY hl y hF de,h,uc hl y hF];simp only[aD];rw[h3];simp only[aD,sm];rw[QA hl y2 hF de h2];exact⟨_,rfl⟩
 | @Nj i j k p c a b d h d2 h2 d3 ih ih2 ih3=>intro hi _;obtain⟨x,y,z⟩:=nD d hi (show(0:Int)<3 by decide);obtain⟨m1,m2⟩:=dP y (by rw[h];decide);obtain⟨x2,y2,z2⟩:=nD d2 m1 trivial;obtain⟨m3,m4⟩:=dP y2 (by rw[h2];decide);refine bS.succ (bS.DJ ((ih hi (show(0:Int)<3 by decide)).and (ih3 m3 trivial)) (ih2 m1 trivial) (ia s) λF n h1 h3 hF=>?_);show mm s _ (dn F (aX F n) (bE F n) (aN F n) (bR F n) (bK F n) s (kd s i) (po s i) (tx s i));unfold dn wx;obtain⟨h1,st,h4⟩:=h1;have h1:aN F n 3 s _ _ _=_:=h1;have h3:aX F n s _ _ _=_:=h3;rw[h1];simp only[aD,sm];rw[kY hl y hF de,h,uc hl y hF];simp only[aD];rw[h3];simp only[aD,sm];rw[yQ hl y2 hF de h2];simp only[aD,sm];rw[h4];exact⟨_,rfl⟩
 | @GN i j k m a b e d h d2 h2 d3 ih ih2 ih3=>intro hi _;obtain⟨x,y,z⟩:=nD d hi (show(0:Int)<3 by decide);obtain⟨m1,m2⟩:=dP y (by rw[h];decide);obtain⟨x2,y2,z2⟩:=nD d2 m1 trivial;obtain⟨m3,m4⟩:=dP y2 (by rw[h2];decide);refine bS.succ (bS.DJ ((ih hi (show(0:Int)<3 by decide)).and (ih3 m3 trivial)) (ih2 m1 trivial) (ia s) λF n h1 h3 hF=>?_);show mm s _ (dn F (aX F n) (bE F n) (aN F n) (bR F n) (bK F n) s (kd s i) (po s i) (tx s i));unfold dn wx;obtain⟨h1,h4⟩:=h1;have h1:aN F n 3 s _ _ _=_:=h1;have h3:aX F n s _ _ _=_:=h3;have h4:bE F n s _ _ _=_:=h4;rw[h1];simp only[aD,sm];rw[kY hl y hF de,h,uc hl y hF];simp only[aD];rw[h3];simp only[aD,sm];rw[yQ hl y2 hF de h2];simp only[aD,sm];rw[h4];simp only[aD,sm,d5.eta];rfl
 | @WU l i p c d ih=>intro hi _;refine bS.succ (bS.mono (ih hi trivial) λF n h1=>?_);show mm s _ (kN F (aX F n) (bE F n) (aN F n) (bR F n) (bK F n) l s (kd s i) (po s i) (tx s i));unfold kN wx;obtain⟨st,h1⟩:=h1;rw[h1];exact⟨_,rfl⟩
 | @Ys l i j a r d d2 ih ih2=>intro hi hc;obtain⟨x,y,z⟩:=nD d hi trivial;obtain⟨N,h2⟩:=ih2 y hc;refine bS.succ (bS.mg (ih hi trivial) (bS.ge (p:=λF n=>N<=F/\N<=n) N λF n a b=>⟨a,b⟩) λF n h1 hN=>?_);show mm s _ (kN F (aX F n) (bE F n) (aN F n) (bR F n) (bK F n) l s (kd s i) (po s i) (tx s i));unfold kN wx;have h1:bR F n s _ _ _=_:=h1;rw[h1];exact h2 F n F hN.1 hN.2 hN.1
 | @xP l i a h=>
  intro hi _;refine⟨Ts s+60,λF n m hF _ hm=>?_⟩;cases m with
  | zero=>omega|succ m=>show mm s _ (Ct F (aN F n) l (bW (Ct F (aN F n) l) m) (s,kd s i,po s i,tx s i,a.fOp,a.fN,a.fName,a.fKids));unfold Ct;rw[Yu hl hi hF];simp only[aD,eP h,aS,d5.eta];rfl
 | @Et l i p c a h d ih=>
  intro hi hc;have hc:0<l:=hc;obtain⟨m1,m2⟩:=dP hi (AE hc h);obtain⟨N,h1⟩:=ih m1 (show(0:Int)<_ by omega);have hlv:=(zS s i).lv;refine⟨N+Ts s+60,λF n m hF hn hm=>?_⟩;cases m with
  | zero=>omega|succ m=>show mm s _ (Ct F (aN F n) l (bW (Ct F (aN F n) l) m) (s,kd s i,po s i,tx s i,a.fOp,a.fN,a.fName,a.fKids));unfold Ct;obtain⟨st,h1⟩:=h1 F n om om;rw[Yu hl hi om,uc hl hi om];have hx:eK ((gQ (sy s i)).1<l)=eQ:=uH om;simp only[aD,hx,aJ];rw[bO (x:=(gQ (sy s i)).1+1) om,h1];exact⟨_,rfl⟩
 | @It l i j a b r h d d2 ih ih2=>
  intro hi hc;have tn:0<l:=hc;obtain⟨m1,m2⟩:=dP hi (AE tn h);obtain⟨x,y,z⟩:=nD d m1 (show(0:Int)<_ by omega);obtain⟨N,h1⟩:=ih m1 (show(0:Int)<_ by omega);obtain⟨N2,h2⟩:=ih2 y hc;have hlv:=(zS s i).lv;refine⟨N+N2+Ts s+60,λF n m hF hn hm=>?_⟩;cases m with
  | zero=>omega|succ m=>show mm s _ (Ct F (aN F n) l (bW (Ct F (aN F n) l) m) (s,kd s i,po s i,tx s i,a.fOp,a.fN,a.fName,a.fKids));have h1:aN F n _ s _ _ _=_:=h1 F n om om;have h2:=h2 F n m om om om;generalize hL:bW (Ct F (aN F n) l) m=L at h2⊢;unfold Ct;rw[Yu hl hi om,uc hl hi om];have hx:eK ((gQ (sy s i)).1<l)=eQ:=uH om;simp only[aD,hx,aJ];grind[bO,sm,d5.eta]
 | @Cq i r h d ih=>
  intro hi _;refine bS.succ (bS.mg (ih hi trivial) (ia s) λF n h1 hF=>?_);show mm s _ (jL F (aX F n) (bE F n) (aN F n) (bR F n) (bK F n) s (kd s i) (po s i) (tx s i));unfold jL wx;rw[kY hl hi hF de,kY hl hi hF de,kY hl hi hF de,kY hl hi hF de];have hu:(sy s i==[45])=eQ/\(sy s i==[43])=eQ/\(sy s i==[33])=eQ/\(sy s i==[126])=eQ:=by unfold vC at h;grind
  obtain⟨u1,u2,u3,u4⟩:=hu;rw[u1,u2,u3,u4];revert h1;cases bK F n s (kd s i) (po s i) (tx s i)with
  | none=>exact id|some X=>cases X with|inl X=>simp_all[aD,aJ,jj,sm,d5.eta]|inr X=>simp_all[aD,aJ,jj,sm,d5.eta]
 | @GO i p c h d ih=>intro hi _;obtain⟨m1,m2⟩:=dP hi (Ba h);refine bS.succ (bS.mg (ih m1 trivial) (ia s) λF n h1 hF=>?_);show mm s _ (jL F (aX F n) (bE F n) (aN F n) (bR F n) (bK F n) s (kd s i) (po s i) (tx s i));unfold jL wx;rw[kY hl hi hF de,kY hl hi hF de,kY hl hi hF de,kY hl hi hF de,uc hl hi hF];obtain⟨st,h1⟩:=h1;simp only[aD,h1];unfold vC at h;revert h;cases (sy s i==[45])<;>cases (sy s i==[43])<;>cases (sy s i==[33])<;>cases (sy s i==[126])<;>intro h<;>first|exact⟨_,rfl⟩|exact absurd rfl h
 | @Nk i j a h d ih=>intro hi _;obtain⟨m1,m2⟩:=dP hi (Ba h);refine bS.succ (bS.mg (ih m1 trivial) (ia s) λF n h1 hF=>?_);show mm s _ (jL F (aX F n) (bE F n) (aN F n) (bR F n) (bK F n) s (kd s i) (po s i) (tx s i));unfold jL wx;rw[kY hl hi hF de,kY hl hi hF de,kY hl hi hF de,kY hl hi hF de,uc hl hi hF];have h1:bR F n s _ _ _=_:=h1;simp only[aD,h1];unfold vC at h⊢;revert h;cases (sy s i==[45])<;>cases (sy s i==[43])<;>cases (sy s i==[33])<;>cases (sy s i==[126])<;>intro h<;>first|rfl|exact absurd rfl h
 | @GP i h hv=>intro hi _;refine bS.succ (bS.mono (ia s) λF n hF=>?_);show mm s _ (cN F (aX F n) (bE F n) (aN F n) (bR F n) (bK F n) s (kd s i) (po s i) (tx s i));unfold cN wx;rw[adV hl hi hF h,uc hl hi hF,h];simp only[Db,aS,aD,hv,Mk,aJ];rfl
 | @Cr i h hv=>
  intro hi _;refine bS.succ (bS.mono (ia s) λF n hF=>?_);show mm s _ (cN F (aX F n) (bE F n) (aN F n) (bR F n) (bK F n) s (kd s i) (po s i) (tx s i));unfold cN wx;have jQ:((pY (tx s i)).2 != 0)=hJ:=by simpa using hv
  rw[adV hl hi hF h,h];simp only[Db,aS,aD,jQ];exact⟨_,rfl⟩
 | @GQ i h hv=>intro hi _;refine bS.succ (bS.mono (ia s) λF n hF=>?_);show mm s _ (cN F (aX F n) (bE F n) (aN F n) (bR F n) (bK F n) s (kd s i) (po s i) (tx s i));unfold cN wx;rw[Yv hl hi hF hv,h];rfl
 | @Cs i h hv=>intro hi _;refine bS.succ (bS.mono (ia s) λF n hF=>?_);show mm s _ (cN F (aX F n) (bE F n) (aN F n) (bR F n) (bK F n) s (kd s i) (po s i) (tx s i));unfold cN wx;rw[ak9 hl hi hF hv,h];exact⟨_,rfl⟩
 | @GR i h1 h2 h=>
  intro hi _;refine bS.succ (bS.mono (ia s) λF n hF=>?_);show mm s _ (cN F (aX F n) (bE F n) (aN F n) (bR F n) (bK F n) s (kd s i) (po s i) (tx s i));unfold cN wx;have k1:(kd s i==1)=eQ:=by simp_all
  have k2:(kd s i==2)=eQ:=by simp_all
  rw[QA hl hi hF de h,k1,k2];exact⟨_,rfl⟩
 | @Nl i p c h d ih=>intro hi _;obtain⟨m1,m2⟩:=dP hi (by rw[h];decide);refine bS.succ (bS.mg (ih m1 trivial) (ia s) λF n h1 hF=>?_);show mm s _ (cN F (aX F n) (bE F n) (aN F n) (bR F n) (bK F n) s (kd s i) (po s i) (tx s i));unfold cN wx;have hk:=(Cm s i hi (by rw[h];decide)).1;obtain⟨st,h1⟩:=h1;rw[yQ hl hi hF de h,hk];simp only[aD,sm];rw[h1];exact⟨_,rfl⟩
 | @yP i j e h d h2 ih=>intro hi _;obtain⟨m1,m2⟩:=dP hi (by rw[h];decide);obtain⟨x,y,z⟩:=nD d m1 trivial;refine bS.succ (bS.mg (ih m1 trivial) (ia s) λF n h1 hF=>?_);show mm s _ (cN F (aX F n) (bE F n) (aN F n) (bR F n) (bK F n) s (kd s i) (po s i) (tx s i));unfold cN wx;have hk:=(Cm s i hi (by rw[h];decide)).1;have h1:aX F n s _ _ _=_:=h1;rw[yQ hl hi hF de h,hk];simp only[aD,sm];rw[h1];simp only[aD,sm];rw[QA hl y hF de h2];exact⟨_,rfl⟩
 | @Nn i j e h d h2 ih=>intro hi _;obtain⟨m1,m2⟩:=dP hi (by rw[h];decide);obtain⟨x,y,z⟩:=nD d m1 trivial;refine bS.succ (bS.mg (ih m1 trivial) (ia s) λF n h1 hF=>?_);show mm s _ (cN F (aX F n) (bE F n) (aN F n) (bR F n) (bK F n) s (kd s i) (po s i) (tx s i));unfold cN wx;have hk:=(Cm s i hi (by rw[h];decide)).1;have h1:aX F n s _ _ _=_:=h1;rw[yQ hl hi hF de h,hk];simp only[aD,sm];rw[h1];simp only[aD,sm];rw[yQ hl y hF de h2];simp only[aD,sm,d5.eta];rfl
abbrev RR:=d5×Bs×Int×Int×Int
abbrev SR:=Bs×Int×Int×Int×Int×Int×Bs×(J d5)
def lJ(s:Bs):wH->O RR->Prop|.ok e j,x=>∃a:Nat,a<=Ts s/\skip s a=skip s j/\x=iN (e,s,(a:Int),0,0)|.err p c,x=>c≠0/\∃(e:d5)(a:Nat),a<=Ts s/\x=iN (e,s,(a:Int),c,(p:Int))
def tA(F:Nat)(r:Int->Bs->Int->Int->Int->O RR)(l:Int):(SR->O RR)->SR->O RR:=
 (λmD x3=>
 cond (x3.2.2.1==0)
 ((iH F x3.1 x3.2.1 x3.2.2.1 x3.2.2.2.1).bind λx5=>
 (mj F x5.1 l).bind λx6=>
 cond (x6==0)
 (iN ((d5.mk ((d5.mk x3.2.2.2.2.1 x3.2.2.2.2.2.1 x3.2.2.2.2.2.2.1 x3.2.2.2.2.2.2.2).fOp) ((d5.mk x3.2.2.2.2.1 x3.2.2.2.2.2.1 x3.2.2.2.2.2.2.1 x3.2.2.2.2.2.2.2).fN) ((d5.mk x3.2.2.2.2.1 x3.2.2.2.2.2.1 x3.2.2.2.2.2.2.1 x3.2.2.2.2.2.2.2).fName) ((d5.mk x3.2.2.2.2.1 x3.2.2.2.2.2.1 x3.2.2.2.2.2.2.1 x3.2.2.2.2.2.2.2).fKids)),x5.2.1,x5.2.2.1,x5.2.2.2.1,x5.2.2.2.2))
 ((r (aE (l+1)) x5.2.1 (aE (x5.2.2.1+(Ts x5.1:Int))) x5.2.2.2.1 x5.2.2.2.2).bind λx7=>
 mD (x7.2.1,x7.2.2.1,x7.2.2.2.1,x7.2.2.2.2,(d5.mk x6 0 [] ([(d5.mk x3.2.2.2.2.1 x3.2.2.2.2.2.1 x3.2.2.2.2.2.2.1 x3.2.2.2.2.2.2.2),x7.1]:J d5)).fOp,(d5.mk x6 0 [] ([(d5.mk x3.2.2.2.2.1 x3.2.2.2.2.2.1 x3.2.2.2.2.2.2.1 x3.2.2.2.2.2.2.2),x7.1]:J d5)).fN,(d5.mk x6 0 [] ([(d5.mk x3.2.2.2.2.1 x3.2.2.2.2.2.1 x3.2.2.2.2.2.2.1 x3.2.2.2.2.2.2.2),x7.1]:J d5)).fName,(d5.mk x6 0 [] ([(d5.mk x3.2.2.2.2.1 x3.2.2.2.2.2.1 x3.2.2.2.2.2.2.1 x3.2.2.2.2.2.2.2),x7.1]:J d5)).fKids)))
 (iN ((d5.mk ((d5.mk x3.2.2.2.2.1 x3.2.2.2.2.2.1 x3.2.2.2.2.2.2.1 x3.2.2.2.2.2.2.2).fOp) ((d5.mk x3.2.2.2.2.1 x3.2.2.2.2.2.1 x3.2.2.2.2.2.2.1 x3.2.2.2.2.2.2.2).fN) ((d5.mk x3.2.2.2.2.1 x3.2.2.2.2.2.1 x3.2.2.2.2.2.2.1 x3.2.2.2.2.2.2.2).fName) ((d5.mk x3.2.2.2.2.1 x3.2.2.2.2.2.1 x3.2.2.2.2.2.2.1 x3.2.2.2.2.2.2.2).fKids)),x3.1,x3.2.1,x3.2.2.1,x3.2.2.2.1)))
variable{a:Nat}
section
variable (h : skip s a = skip s i)
include h
theorem jD:sy s a=sy s i:=by unfold sy;rw[h]
theorem Hv:kd s a=kd s i:=by unfold kd ve;rw[h]
theorem Bb:tx s a=tx s i:=by unfold tx ve;rw[h]
theorem kZ:nx s a=nx s i:=by unfold nx;rw[h,Bb h]
theorem Np:jV s a=jV s i:=by unfold jV;rw[Hv h,kZ h]
end
theorem agp:∀x,x∈([]::qy)->ua x=-1\/0<=ua x:=by decide
theorem ala:∀n:Fin 256,dg (lL n.val)=hJ->le (lL n.val)=eQ:=by decide +kernel
def ai2(b:UInt8):dg b=hJ->le b=eQ:=Uu (P:=λb=>dg b=hJ->le b=eQ) ala b
theorem Iv(X:O RR):(X.bind λx=>iN ((d5.mk x.1.fOp x.1.fN x.1.fName x.1.fKids),x.2.1,x.2.2.1,x.2.2.2.1,x.2.2.2.2))=X:=by cases X with|none=>rfl|some y=>simp_all
section
variable (hl : s.length <= 1000000) (hi : a <= s.length) (hF : s.length + 60 <= F)
include hl hi hF
theorem zT(hx:x≠[])(h:sy s a=x):iY F x s (a:Int) 0 0=iN (hJ,s,(nx s a:Int),0,0):=by
 unfold iY wx;rw[oA F s a 0 0 hi om hl];obtain⟨m1,m2⟩:=dP hi (by rw[h];exact hx);have e:sy s a=oO (s.drop (skip s a)):=rfl;have e2:nx s a=skip s a+Ts x:=by unfold nx;simp_all[Cm]
 grind[bO]
theorem abG(h:sy s a≠x):iY F x s (a:Int) 0 0=iN (eQ,s,(skip s a:Int),0,0):=by unfold iY wx;rw[oA F s a 0 0 hi om hl];have e:sy s a=oO (s.drop (skip s a)):=rfl;grind
omit hl hi hF in
theorem QB{at' c p:Int}(hc:c≠0):iY F x s at' c p=iN (eQ,s,at',c,p):=by
 unfold iY wx;have:(c != 0)=hJ:=by simpa using hc
 rw[this];rfl
omit hl hi hF in
theorem Ux{at' c p c' p':Int}(hc:c≠0):gM F c' p' s at' c p=iN (s,at',c,p):=by
 unfold gM wx;have:(c==0)=eQ:=by simpa using hc
 rw[this];rfl
theorem HS(rs rc:Bs->Int->Int->Int->O RR)(rl:Int->Bs->Int->Int->Int->O RR)(ru rp:Bs->Int->Int->Int->O RR)(e pos:Int):
  jC F rs rc rl ru rp s (a:Int) e pos=cond (jV s a == -1) (rc s (skip s a:Int) e pos)
   ((rs s (nx s (nx s a):Int) (cond (rName (tx s a)) e (cond (e==0) 10 e)) (cond (rName (tx s a)) pos (cond (e==0) (skip s a:Int) pos))).bind λx=>iN (.mk 26 (jV s a) (tx s a) [x.1],x.2.1,x.2.2.1,x.2.2.2.1,x.2.2.2.2)):=by
 obtain⟨s1,s2⟩:=iS s a hi;unfold jC wx;rw[uB F s a e pos hi om hl];simp only[aD];rw[Ng F s _ e pos s1 om hl];simp only[aD];have hno:∀X:O ((Bs×Int×Int×Int) ⊕ RR),X=iN (.inl (s,(skip s a:Int),e,pos))->jV s a=-1 ->
   (jj (σ:=Bs×Int×Int×Int) (R:=RR) X λx3=>(rc x3.1 x3.2.1 x3.2.2.1 x3.2.2.2).bind λgp=>iN ((d5.mk gp.1.fOp gp.1.fN gp.1.fName gp.1.fKids),gp.2.1,gp.2.2.1,gp.2.2.2.1,gp.2.2.2.2))=rc s (skip s a:Int) e pos:=by
  intro X hX _;rw[hX];show(rc s (skip s a:Int) e pos).bind _=_;exact Iv _
 have hk2:kd s a≠2->jV s a=-1:=by
  intro hk;unfold jV;have:(kd s a==2)=eQ:=by rw[iq];exact hk
  rw[this];rfl
 rcases ny s a hi with⟨h',_,hw,_⟩|⟨w,b,h',_,hw,hd,hl'⟩|⟨w,b,h',hs,hw,hd,hl'⟩|⟨x',h',_,hw,hm,_⟩|⟨b,h',_,hw,_⟩
 ·have ha:=hk2 (by unfold kd;rw[h'];simp);rw[hno _ (by rw[hw];rfl) ha,ha];rfl
 ·have ha:=hk2 (by unfold kd;rw[h'];simp)
  rw[hno _ (by
   rw[hw];have hp:eK (0<(Ts (b::w):Int))=hJ:=eP (by simp only[pM];omega);show(((rq (eK (0<(Ts (b::w):Int))) ((o5 F (b.toNat:Int)).bind λx5=>iN x5)):O Bool).bind _)=_;rw[hp,xN,ai2 b hd];rfl) ha,ha]
  rfl
 ·have hk:kd s a=2:=by unfold kd;rw[h']
  have ht:tx s a=b::w:=by unfold tx;rw[h']
  obtain⟨m1,m2,_⟩:=lP s a hi;have hn:(skip s a:Int)+(Ts (b::w):Int)=(nx s a:Int):=by unfold nx;rw[ht];omega
  have has:jV s a=ua (sy s (nx s a)):=by unfold jV;rw[hk];rfl
  rw[hw];have hp:eK (0<(Ts (b::w):Int))=hJ:=eP (by simp only[pM];omega);have hne:(!((b::w)==[]))=hJ:=rfl;simp only[hne,aS,hp,ij,Ro,xN,hd,aD,hn];rw[bO (x:=(nx s a:Int)) om,oA F s (nx s a) e pos m1 om hl];simp only[aD];rw[show oO (s.drop (skip s (nx s a)))=sy s (nx s a)from rfl];have avv:sN F (sy s (nx s a))=iN (ua (sy s (nx s a))):=by obtain⟨G,rfl⟩:∃G,F=G+20:=⟨F-20,om⟩;exact(zS s (nx s a)).asr G
  rw[avv];simp only[aD];rcases agp _ (Qy s (nx s a))with hz|hz
  ·rw[has,hz];show(rc s (skip s a:Int) e pos).bind _=_;exact Iv _
  ·have hz1:(ua (sy s (nx s a)) == -1)=eQ:=by rw[iq];omega
   obtain⟨_,_,m3,_⟩:=xQ hi (by rw[has];omega);have hx:=adU (x:=sy s (nx s a)) om;have hnn:(skip s (nx s a):Int)+(Ts (sy s (nx s a)):Int)=(nx s (nx s a):Int):=by have h2:=(Cm s _ m1 hx).2;have h3:nx s (nx s a)=skip s (nx s a)+Ts (tx s (nx s a)):=rfl;rw[h3,h2];omega
   rw[has,hz1,eP hz,Ag F _ om,ht];simp only[aD,aS,aJ];cases hr:rName (b::w)with
   | true=>simp only[gN,aJ,aS,aD,hnn];rw[bO (x:=(nx s (nx s a):Int)) om];cases rs s (nx s (nx s a):Int) e pos<;>rfl
   | false=>
    unfold gM wx;cases he:(e==0)with
    | true=>simp only[qi,aJ,aS,aD,hnn];rw[bO (x:=(nx s (nx s a):Int)) om];cases rs s (nx s (nx s a):Int) 10 (skip s a:Int)<;>rfl
    | false=>simp only[qi,aJ,aS,aD,hnn];rw[bO (x:=(nx s (nx s a):Int)) om];cases rs s (nx s (nx s a):Int) e pos<;>rfl
 ·have ha:=hk2 (by unfold kd;rw[h'];simp);rw[hno _ (by rw[hw];rfl) ha,ha];rfl
 ·have ha:=hk2 (by unfold kd;rw[h'];simp);rw[hno _ (by rw[hw];rfl) ha,ha];rfl
end
theorem aqb(G:Nat)(x:Bs)(k:Int->O RR)(z:O RR):bW (σ:=Int) (λiG x2=>
   (cond (eK (x2<=6)) (iN ((0:Int)==0)) (iN eQ):O Bool).bind λx4=>cond x4 ((GU (G+10) x2).bind λx5=>cond (x==x5) (k x2) (iG (aE (x2+1)))) z) (G+10) 3 =
  cond (x==[45]) (k 3) (cond (x==[43]) (k 4) (cond (x==[33]) (k 5) (cond (x==[126]) (k 6) z))):=by kernel_rfl
section
variable (hl : s.length <= 1000000) (hi : a <= s.length) (hF : s.length + 60 <= F)
include hl hi hF
theorem ai3(rs rc:Bs->Int->Int->Int->O RR)(rl:Int->Bs->Int->Int->Int->O RR)(ru rp:Bs->Int->Int->Int->O RR):
  gT F rs rc rl ru rp s (a:Int) 0 0=cond (vC (sy s a)==0) (rp s (skip s a:Int) 0 0)
   ((ru s (nx s a:Int) 0 0).bind λx=>iN (.mk (vC (sy s a)) 0 [] [x.1],x.2.1,x.2.2.1,x.2.2.2.1,x.2.2.2.2)):=by
 unfold gT wx;rw[oA F s a 0 0 hi om hl];obtain⟨G,rfl⟩:∃G,F=G+10:=⟨F-10,om⟩;have key:=aqb G (sy s a) (λx2=>(ru s (aE ((skip s a:Int)+(Ts (sy s a):Int))) 0 0).bind λx6=>iN ((d5.mk ((d5.mk x2 0 [] ([x6.1]:J d5)).fOp) ((d5.mk x2 0 [] ([x6.1]:J d5)).fN) ((d5.mk x2 0 [] ([x6.1]:J d5)).fName) ((d5.mk x2 0 [] ([x6.1]:J d5)).fKids)),x6.2.1,x6.2.2.1,x6.2.2.2.1,x6.2.2.2.2))
  ((rp s (skip s a:Int) 0 0).bind λx7=>iN ((d5.mk x7.1.fOp x7.1.fN x7.1.fName x7.1.fKids),x7.2.1,x7.2.2.1,x7.2.2.2.1,x7.2.2.2.2))
 refine key.trans ?_;rw[Iv];by_cases hu:vC (sy s a)=0
 ·have hu':(vC (sy s a)==0)=hJ:=by simpa using hu
  unfold vC at hu;grind
 ·have hu':(vC (sy s a)==0)=eQ:=by simp_all
  obtain⟨m1,m2⟩:=dP hi (Ba hu);have hn:(skip s a:Int)+(Ts (sy s a):Int)=(nx s a:Int):=by have h2:=(Cm s a hi (Ba hu)).2;have h3:nx s a=skip s a+Ts (tx s a):=rfl;rw[h3,h2];omega
  rw[hn,bO om];unfold vC at hu⊢;revert hu;cases (sy s a==[45])<;>cases (sy s a==[43])<;>cases (sy s a==[33])<;>cases (sy s a==[126])<;>intro hu<;>first|rfl|(simp at hu;done)
theorem anO(rs rc:Bs->Int->Int->Int->O RR)(rl:Int->Bs->Int->Int->Int->O RR)(ru rp:Bs->Int->Int->Int->O RR){c p:Int}(hc:c≠0):
  gT F rs rc rl ru rp s (a:Int) c p=rp s (skip s a:Int) c p:=by
 unfold gT wx;rw[oA F s a c p hi om hl];obtain⟨G,rfl⟩:∃G,F=G+1:=⟨F-1,om⟩;grind[bW,Iv]
theorem ai4(rs rc:Bs->Int->Int->Int->O RR)(rl:Int->Bs->Int->Int->Int->O RR)(ru rp:Bs->Int->Int->Int->O RR){c p:Int}(hc:c≠0):
  cW F rs rc rl ru rp s (a:Int) c p=iN (.mk 0 0 [] [],s,(skip s a:Int),c,p):=by
 unfold cW wx;rw[QB hc];simp only[aD];obtain⟨s1,s2⟩:=iS s a hi;rw[uB F s a c p hi om hl];simp only[aD];rw[Ng F s _ c p s1 om hl];have tn:(c != 0)=hJ:=by simpa using hc
 simp only[tn];rfl
end
def Eu(s:Bs)(x:O RR)(c p:Int):Prop:=∃(e:d5)(a:Nat),a<=Ts s/\x=iN (e,s,(a:Int),c,p)
def aqc(hl:Ts s<=1000000):bS λF n=>∀a,a<=Ts s->∀c p,c≠0->Eu s (bw F n s ((a:Nat):Int) c p) c p:=bS.succ ((ia s).mono λF n hF a hi c p hc=>⟨_,skip s a,(iS s a hi).1,ai4 hl hi hF (bI F n) (bF F n) (aU F n) (bA F n) (bw F n) hc⟩)
theorem aug(hl:Ts s<=1000000):bS λF n=>∀a,a<=Ts s->∀c p,c≠0->Eu s (bA F n s ((a:Nat):Int) c p) c p:=
 bS.succ ((ia s).mg (aqc hl) λF n hF h a hi c p hc=>by
  show Eu s (gT F (bI F n) (bF F n) (aU F n) (bA F n) (bw F n) s (a:Int) c p) c p
  simp_all[anO,iS])
theorem KP(F:Nat)(rs rc:Bs->Int->Int->Int->O RR)(rl:Int->Bs->Int->Int->Int->O RR)(ru rp:Bs->Int->Int->Int->O RR)(l:Int)(h3:3<=l)(hl:l<=12)(s:Bs)(at' c p:Int):
  fY F rs rc rl ru rp l s at' c p=(rl (l+1) s at' c p).bind λx2=>bW (tA F rl l) F (x2.2.1,x2.2.2.1,x2.2.2.2.1,x2.2.2.2.2,x2.1.fOp,x2.1.fN,x2.1.fName,x2.1.fKids):=by
 unfold fY tA wx;grind[decide_eq_false,bO]
theorem Tz(F:Nat)(rs rc:Bs->Int->Int->Int->O RR)(rl:Int->Bs->Int->Int->Int->O RR)(ru rp:Bs->Int->Int->Int->O RR)(l:Int)(hl:12<l)(s:Bs)(at' c p:Int):
  fY F rs rc rl ru rp l s at' c p=ru s at' c p:=by
 unfold fY wx;grind[decide_eq_true,Iv]
theorem Uy(F:Nat)(r:Int->Bs->Int->Int->Int->O RR)(l:Int)(m:Nat)(s:Bs)(at' c p:Int)(a:d5)(hc:c≠0):bW (tA F r l) (m+1) (s,at',c,p,a.fOp,a.fN,a.fName,a.fKids)=iN (a,s,at',c,p):=by
 have tn:(c==0)=eQ:=by simpa using hc
 show tA F r l (bW (tA F r l) m) _=_;unfold tA;simp[tn]
theorem adW{s:Bs}(hl:Ts s<=1000000):∀(k:Nat)(l:Int),l+k=13->3<=l->bS λF n=>∀a,a<=Ts s->∀c p,c≠0->Eu s (aU F n l s ((a:Nat):Int) c p) c p
 | 0,l,hk,h3=>bS.succ ((aug hl).mono λF n h a hi c p hc=>by
   show Eu s (fY F (bI F n) (bF F n) (aU F n) (bA F n) (bw F n) l s (a:Int) c p) c p
   simp_all[Tz])
 | k+1,l,hk,h3=>bS.succ ((ia s).mg (adW hl k (l+1) om om) λF n hF h a hi c p hc=>by
   show Eu s (fY F (bI F n) (bF F n) (aU F n) (bA F n) (bw F n) l s (a:Int) c p) c p;rw[KP F _ _ _ _ _ l h3 om];obtain⟨e,a',gX,hx⟩:=h a hi c p hc;obtain⟨G,rfl⟩:∃G,F=G+1:=⟨F-1,om⟩
   grind[Uy])
theorem aqd(hl:Ts s<=1000000):bS λF n=>∀a,a<=Ts s->∀c p,c≠0->Eu s (bF F n s ((a:Nat):Int) c p) c p:=
 bS.succ ((adW hl 10 3 de de).mono λF n h a hi c p hc=>by
  show Eu s (dN F (bI F n) (bF F n) (aU F n) (bA F n) (bw F n) s (a:Int) c p) c p;unfold dN wx;obtain⟨e,a',gX,hx⟩:=h a hi c p hc;rw[hx];simp;rw[QB hc];exact⟨_,a',gX,rfl⟩)
theorem alb{s:Bs}(hl:Ts s<=1000000):∀k:Nat,bS λF n=>∀a,a<=Ts s->Ts s-a<k->∀c p,c≠0->Eu s (bI F n s ((a:Nat):Int) c p) c p
 | 0=>bS.of λF n a _ h=>by omega|k+1=>bS.succ ((ia s).DJ (aqd hl) (alb hl k) λF n hF h1 h2 a hi hk c p hc=>by
   show Eu s (jC F (bI F n) (bF F n) (aU F n) (bA F n) (bw F n) s (a:Int) c p) c p;rw[HS hl hi hF];cases ha:(jV s a == -1)with
   | true=>simp_all[iS]|false=>
    have tn:(c==0)=eQ:=by simpa using hc
    obtain⟨_,_,m1,m2⟩:=xQ hi (by simp_all);simp only[aJ,tn];have e1:cond (rName (tx s a)) c c=c:=by simp_all
    have e2:cond (rName (tx s a)) p p=p:=by simp_all
    rw[e1,e2];obtain⟨e,a',gX,hx⟩:=h2 _ m1 om c p hc;rw[hx];exact⟨_,a',gX,rfl⟩)
def StR(s:Bs):Yt->Nat->wH->Prop|.expr,i,r=>bS λF n=>∀a,a<=Ts s->skip s a=skip s i->lJ s r (bI F n s ((a:Nat):Int) 0 0)|.cond,i,r=>bS λF n=>∀a,a<=Ts s->skip s a=skip s i->lJ s r (bF F n s ((a:Nat):Int) 0 0)|.level l,i,r=>bS λF n=>∀a,a<=Ts s->skip s a=skip s i->lJ s r (aU F n l s ((a:Nat):Int) 0 0)|.loop l b,i,r=>∃N,∀F n m,N<=F->N<=n->N<=m->∀a,a<=Ts s->skip s a=skip s i->lJ s r (bW (tA F (aU F n) l) m (s,((a:Nat):Int),0,0,b.fOp,b.fN,b.fName,b.fKids))|.un,i,r=>bS λF n=>∀a,a<=Ts s->skip s a=skip s i->lJ s r (bA F n s ((a:Nat):Int) 0 0)|.o6,i,r=>bS λF n=>∀a,a<=Ts s->skip s a=skip s i->lJ s r (bw F n s ((a:Nat):Int) 0 0)
def asx(s:Bs):wH->Prop|.ok _ j=>j<=Ts s|.err _ c=>c≠0
theorem E4{c:Yt}(d:RD s c i r):i<=Ts s->asx s r:=by
 have nb:∀ {i:Nat},i<=Ts s->nx s i<=Ts s:=λh=>(lP s _ h).1
 induction d with
 | Co h d ih=>exact ih|Cp h hn=>intro _;exact(show(10:Int)≠0 by decide)
 | GG h hn d ih=>intro hi;exact ih (nb (nb hi))|GH h hn d ih=>grind|GJ d ih=>exact ih|GK d h ih=>exact ih|GL d h d2 ih ih2=>intro hi;exact ih2 (nb (ih hi))|GM d h d2 h2 ih ih2=>intro _;exact(show(6:Int)≠0 by decide)
 | Nj d h d2 h2 d3 ih ih2 ih3=>intro hi;exact ih3 (nb (ih2 (nb (ih hi))))|GN d h d2 h2 d3 ih ih2 ih3=>intro hi;exact ih3 (nb (ih2 (nb (ih hi))))|ai0 hl d ih=>exact ih|abF h3 hl d ih=>exact ih|anM h3 hl d d2 ih ih2=>intro hi;exact ih2 (ih hi)|xP h=>exact id|Et h d ih=>simp_all|It h d d2 ih ih2=>intro hi;exact ih2 (ih (nb hi))|Cq h d ih=>exact ih|GO h d ih=>simp_all|Nk h d ih=>intro hi;exact ih (nb hi)|GP h hv=>exact nb|Cr h hv=>intro _;exact hv|GQ h hv=>exact nb|Cs h hv=>intro _;exact(show(10:Int)≠0 by decide)
 | GR h1 h2 h=>intro _;exact(show(6:Int)≠0 by decide)
 | Nl h d ih=>simp_all|yP h d h2 ih=>intro _;exact(show(6:Int)≠0 by decide)
 | Nn h d h2 ih=>intro hi;exact nb (ih (nb hi))
theorem E5(hl:Ts s<=1000000)(hi:a<=Ts s)(hF:Ts s+60<=F)(h:sy s a≠[40])(rs rc:Bs->Int->Int->Int->O RR)(rl:Int->Bs->Int->Int->Int->O RR)(ru rp:Bs->Int->Int->Int->O RR):
  cW F rs rc rl ru rp s (a:Int) 0 0=cond (mC s (skip s a)==[]) (iN (.mk 0 0 [] [],s,(skip s a:Int),6,(skip s a:Int)))
   (rq (eK (0<(Ts (mC s (skip s a)):Int))) ((o5 F (((mC s (skip s a)).getD 0 0).toNat:Int)).bind λx8=>
    cond x8 (cond (rName (mC s (skip s a))) (iN (.mk 2 0 (mC s (skip s a)) [],s,aE ((skip s a:Int)+(Ts (mC s (skip s a)):Int)),0,0)) (iN (.mk 2 0 (mC s (skip s a)) [],s,aE ((skip s a:Int)+(Ts (mC s (skip s a)):Int)),10,(skip s a:Int))))
     ((mN F (mC s (skip s a))).bind λgm=>cond (cond (gm.2==0&&eK (9223372036854775807<gm.1)) 14 gm.2 != 0)
       (iN (.mk 0 0 [] [],s,(skip s a:Int),cond (gm.2==0&&eK (9223372036854775807<gm.1)) 14 gm.2,(skip s a:Int)))
       (iN (.mk 1 (aE gm.1) [] [],s,aE ((skip s a:Int)+(Ts (mC s (skip s a)):Int)),0,0))))):=by
 obtain⟨s1,s2⟩:=iS s a hi;unfold cW wx;rw[abG hl hi hF h];simp only[aD];rw[uB F s (skip s a) 0 0 s1 om hl,xM];simp only[aD];rw[Ng F s _ 0 0 s1 om hl];simp only[aD];generalize mC s (skip s a)=w;rw[Ag F w om];cases (w==[])with
 | true=>rfl|false=>
  simp;congr 1;congr 1;funext x8;cases x8 with
  | true=>cases rName w<;>rfl
  | false=>
   simp;congr 1;funext gm;cases (gm.2==0)with
   | false=>simp;cases (gm.2 != 0)<;>rfl
   | true=>
    cases eK (9223372036854775807<gm.1)with
    | false=>simp;cases (gm.2 != 0)<;>rfl
    | true=>rfl
theorem agq(hl:Ts s<=1000000)(hi:a<=Ts s)(hF:Ts s+60<=F){l:Int}(h3:3<=l)(hlv:nS s a=l)(awj:l<=12)(r:Int->Bs->Int->Int->Int->O RR)(rc:SR->O RR)(e:d5):
  tA F r l rc (s,(a:Int),0,0,e.fOp,e.fN,e.fName,e.fKids)=(r (l+1) s (nx s a:Int) 0 0).bind λx7=>rc (x7.2.1,x7.2.2.1,x7.2.2.2.1,x7.2.2.2.2,(gQ (sy s a)).2,0,[],[e,x7.1]):=by
 have hne:=AE (l:=l) om (by show l<=nS s a;omega);obtain⟨m1,m2⟩:=dP hi hne;have hn:(skip s a:Int)+(Ts (sy s a):Int)=(nx s a:Int):=by have h2:=(Cm s a hi hne).2;have h3:nx s a=skip s a+Ts (tx s a):=rfl;rw[h3,h2];omega
 have hop:=(zS s a).op (show nS s a≠0 by omega);have anP:mj F (sy s a) l=iN (gQ (sy s a)).2:=by obtain⟨G,rfl⟩:∃G,F=G+20:=⟨F-20,om⟩;rw[(zS s a).bir,show((gQ (sy s a)).1==l)=hJ by simp_all];rfl
 unfold tA;rw[oA F s a 0 0 hi om hl];simp;rw[show oO (s.drop (skip s a))=sy s a from rfl,anP];have hz:((gQ (sy s a)).2==0)=eQ:=by grind
 simp[hz,hn];rw[bO (x:=(nx s a:Int)) om,bO om];rfl
def Yt.ok:Yt->Prop|.loop l _=>3<=l/\l<=12|_=>True
theorem WV(x:Bs)(h:(pY x).2=0):0<=(pY x).1/\(pY x).1<=9223372036854775807:=by
 unfold pY at h⊢;cases hb:((mU x).2==[])with
 | true=>rw[hb]at h;cases h
 | false=>unfold ri at h⊢;grind
theorem avw(hl:Ts s<=1000000){c:Yt}(d:RD s c i r):i<=Ts s->c.ok->StR s c i r:=by
 have nb:∀ {i:Nat},i<=Ts s->nx s i<=Ts s:=λh=>(lP s _ h).1
 induction d with
 | @Co i r h d ih=>intro hi hok;refine bS.succ (bS.mg (ih hi trivial) (ia s) λF n h1 hF a ha hs=>?_);show lJ s r (jC F (bI F n) (bF F n) (aU F n) (bA F n) (bw F n) s (a:Int) 0 0);grind[HS,Np,iS,xM]
 | @Cp i h hn=>
  intro hi hok;refine bS.succ (bS.mg (alb hl (Ts s+1)) (ia s) λF n h1 hF a ha hs=>?_);show lJ s _ (jC F (bI F n) (bF F n) (aU F n) (bA F n) (bw F n) s (a:Int) 0 0);have hb:(jV s i == -1)=eQ:=by simp_all
  rw[HS hl ha hF,Np hs,hb,Bb hs,hn,hs];simp only[aJ,Db,aS];obtain⟨e,a',gX,hx⟩:=h1 (nx s (nx s a)) (nb (nb ha)) om 10 (skip s i:Int) de;rw[hx];exact⟨by decide,_,a',gX,rfl⟩
 | @GG i j e h hn d ih=>
  intro hi hok;refine bS.succ (bS.mg (ih (nb (nb hi)) trivial) (ia s) λF n h1 hF a ha hs=>?_);show lJ s _ (jC F (bI F n) (bF F n) (aU F n) (bA F n) (bw F n) s (a:Int) 0 0);have hb:(jV s i == -1)=eQ:=by simp_all
  rw[HS hl ha hF,Np hs,hb,Bb hs,hn,kZ hs];simp only[aJ,aS];obtain⟨a',gX,hs',hx⟩:=h1 (nx s (nx s i)) (nb (nb hi)) rfl;rw[hx];exact⟨a',gX,hs',rfl⟩
 | @GH i p c h hn d ih=>
  intro hi hok;refine bS.succ (bS.mg (ih (nb (nb hi)) trivial) (ia s) λF n h1 hF a ha hs=>?_);show lJ s _ (jC F (bI F n) (bF F n) (aU F n) (bA F n) (bw F n) s (a:Int) 0 0);have hb:(jV s i == -1)=eQ:=by simp_all
  rw[HS hl ha hF,Np hs,hb,Bb hs,hn,kZ hs];simp only[aJ,aS];obtain⟨hc,e,a',gX,hx⟩:=h1 (nx s (nx s i)) (nb (nb hi)) rfl;rw[hx];exact⟨hc,_,a',gX,rfl⟩
 | @GJ i p c d ih=>intro hi hok;refine bS.succ (bS.mono (ih hi trivial) λF n h1 a ha hs=>?_);show lJ s _ (dN F (bI F n) (bF F n) (aU F n) (bA F n) (bw F n) s (a:Int) 0 0);unfold dN wx;obtain⟨hc,e,a',gX,hx⟩:=h1 a ha hs;rw[hx];simp only[aD];rw[QB hc];exact⟨hc,_,a',gX,rfl⟩
 | @GK i j e d h ih=>intro hi hok;refine bS.succ (bS.mg (ih hi trivial) (ia s) λF n h1 hF a ha hs=>?_);show lJ s _ (dN F (bI F n) (bF F n) (aU F n) (bA F n) (bw F n) s (a:Int) 0 0);unfold dN wx;obtain⟨a',gX,hs',hx⟩:=h1 a ha hs;rw[hx];simp only[aD];rw[abG hl gX hF (by rw[jD hs'];exact h)];simp only[aD,qi,aS,d5.eta];exact⟨skip s a',(iS s a' gX).1,(xM s a').trans hs',rfl⟩
 | @GL i j p c e d h d2 ih ih2=>intro hi hok;have hj:j<=Ts s:=E4 d hi;refine bS.succ (bS.DJ (ih hi trivial) (ih2 (nb hj) trivial) (ia s) λF n h1 h2 hF a ha hs=>?_);show lJ s _ (dN F (bI F n) (bF F n) (aU F n) (bA F n) (bw F n) s (a:Int) 0 0);unfold dN wx;obtain⟨a',gX,hs',hx⟩:=h1 a ha hs;rw[hx];simp only[aD];rw[zT hl gX hF de (by rw[jD hs'];exact h),kZ hs'];simp only[aD,gN,aJ];obtain⟨hc,e2,a2,tE,hx2⟩:=h2 _ (nb hj) rfl;rw[hx2];simp only[aD];rw[QB hc];simp only[aD,qi,aS];rw[Ux hc];exact⟨hc,_,a2,tE,rfl⟩
 | @GM i j k e e2 d h d2 h2 ih ih2=>intro hi hok;have hj:j<=Ts s:=E4 d hi;refine bS.succ (bS.DJ (ih hi trivial) (ih2 (nb hj) trivial) (ia s) λF n h1 h3 hF a ha hs=>?_);show lJ s _ (dN F (bI F n) (bF F n) (aU F n) (bA F n) (bw F n) s (a:Int) 0 0);unfold dN wx;obtain⟨a',gX,hs',hx⟩:=h1 a ha hs;rw[hx];simp only[aD];rw[zT hl gX hF de (by rw[jD hs'];exact h),kZ hs'];simp only[aD,gN,aJ];obtain⟨a2,tE,hs2,hx2⟩:=h3 _ (nb hj) rfl;rw[hx2];simp only[aD];rw[abG hl tE hF (by rw[jD hs2];exact h2),hs2];exact⟨by decide,_,skip s k,(by rw[<-hs2];exact(iS s a2 tE).1),rfl⟩
 | @Nj i j k p c e e2 d h d2 h2 d3 ih ih2 ih3=>intro hi hok;have hj:j<=Ts s:=E4 d hi;have hk:k<=Ts s:=E4 d2 (nb hj);refine bS.succ (bS.DJ ((ih hi trivial).and (ih3 (nb hk) trivial)) (ih2 (nb hj) trivial) (ia s) λF n h1 h3 hF a ha hs=>?_);obtain⟨h1,h4⟩:=h1;show lJ s _ (dN F (bI F n) (bF F n) (aU F n) (bA F n) (bw F n) s (a:Int) 0 0);unfold dN wx;obtain⟨a',gX,hs',hx⟩:=h1 a ha hs;rw[hx];simp only[aD];rw[zT hl gX hF de (by rw[jD hs'];exact h),kZ hs'];simp only[aD,gN,aJ];obtain⟨a2,tE,hs2,hx2⟩:=h3 _ (nb hj) rfl;rw[hx2];simp only[aD];rw[zT hl tE hF de (by rw[jD hs2];exact h2),kZ hs2];simp only[aD,gN,aJ];obtain⟨hc,e4,a4,ha4,hx4⟩:=h4 _ (nb hk) rfl;rw[hx4];exact⟨hc,_,a4,ha4,rfl⟩
 | @GN i j k m e e2 e3 d h d2 h2 d3 ih ih2 ih3=>intro hi hok;have hj:j<=Ts s:=E4 d hi;have hk:k<=Ts s:=E4 d2 (nb hj);refine bS.succ (bS.DJ ((ih hi trivial).and (ih3 (nb hk) trivial)) (ih2 (nb hj) trivial) (ia s) λF n h1 h3 hF a ha hs=>?_);obtain⟨h1,h4⟩:=h1;show lJ s _ (dN F (bI F n) (bF F n) (aU F n) (bA F n) (bw F n) s (a:Int) 0 0);unfold dN wx;obtain⟨a',gX,hs',hx⟩:=h1 a ha hs;rw[hx];simp only[aD];rw[zT hl gX hF de (by rw[jD hs'];exact h),kZ hs'];simp only[aD,gN,aJ];obtain⟨a2,tE,hs2,hx2⟩:=h3 _ (nb hj) rfl;rw[hx2];simp only[aD];rw[zT hl tE hF de (by rw[jD hs2];exact h2),kZ hs2];simp only[aD,gN,aJ];obtain⟨a4,ha4,hs4,hx4⟩:=h4 _ (nb hk) rfl;rw[hx4];simp only[aD,d5.eta];exact⟨a4,ha4,hs4,rfl⟩
 | @ai0 l i r hv d ih=>intro hi hok;refine bS.succ (bS.mono (ih hi trivial) λF n h1 a ha hs=>?_);show lJ s _ (fY F (bI F n) (bF F n) (aU F n) (bA F n) (bw F n) l s (a:Int) 0 0);simp_all[Tz]
 | @abF l i p c h3 hv d ih=>intro hi hok;refine bS.succ (bS.mg (ih hi trivial) (ia s) λF n h1 hF a ha hs=>?_);show lJ s _ (fY F (bI F n) (bF F n) (aU F n) (bA F n) (bw F n) l s (a:Int) 0 0);rw[KP F _ _ _ _ _ l h3 hv];obtain⟨hc,e,a',gX,hx⟩:=h1 a ha hs;rw[hx];obtain⟨G,rfl⟩:∃G,F=G+1:=⟨F-1,om⟩;grind[Uy]
 | @anM l i j e r h3 hv d d2 ih ih2=>intro hi hok;have hj:j<=Ts s:=E4 d hi;obtain⟨N,h2⟩:=ih2 hj ⟨h3,hv⟩;refine bS.succ (bS.mg (ih hi trivial) (bS.ge (p:=λF n=>N<=F/\N<=n) N λF n a b=>⟨a,b⟩) λF n h1 hN a ha hs=>?_);show lJ s _ (fY F (bI F n) (bF F n) (aU F n) (bA F n) (bw F n) l s (a:Int) 0 0);rw[KP F _ _ _ _ _ l h3 hv];obtain⟨a',gX,hs',hx⟩:=h1 a ha hs;simp_all
 | @xP l i e h=>
  intro hi hok;refine⟨Ts s+60,λF n m hF _ hm a ha hs=>?_⟩;cases m with
  | zero=>omega|succ m=>
   show lJ s _ (tA F (aU F n) l (bW (tA F (aU F n) l) m) (s,(a:Int),0,0,e.fOp,e.fN,e.fName,e.fKids));unfold tA;have anP:mj F (sy s a) l=iN 0:=by obtain⟨G,rfl⟩:∃G,F=G+20:=⟨F-20,om⟩;rw[(zS s a).bir,jD hs,show((gQ (sy s i)).1==l)=eQ by rw[iq];exact h];rfl
   simp only[Db,aS];rw[oA F s a 0 0 ha om hl];simp only[aD];rw[show oO (s.drop (skip s a))=sy s a from rfl,anP];simp only[aD,Db,aS,d5.eta];exact⟨skip s a,(iS s a ha).1,(xM s a).trans hs,rfl⟩
 | @Et l i p c e h d ih=>
  intro hi hok;obtain⟨N,h1⟩:=ih (nb hi) trivial;obtain⟨h3,h12⟩:=hok;refine⟨N+Ts s+60,λF n m hF hn hm a ha hs=>?_⟩;cases m with
  | zero=>omega|succ m=>
   cases m with
   | zero=>omega|succ m=>show lJ s _ (tA F (aU F n) l (bW (tA F (aU F n) l) (m+1)) (s,(a:Int),0,0,e.fOp,e.fN,e.fName,e.fKids));rw[agq hl ha om h3 (by rw[nS,jD hs];exact h) h12,kZ hs,jD hs];obtain⟨hc,e2,a',gX,hx⟩:=h1 F n om om _ (nb hi) rfl;rw[hx];simp only[aD];refine⟨hc,_,a',gX,Uy F (aU F n) l m s (a':Int) c (p:Int) (.mk (gQ (sy s i)).2 0 [] [e,e2]) hc⟩
 | @It l i j e e2 r h d d2 ih ih2=>
  intro hi hok;have hj:j<=Ts s:=E4 d (nb hi);obtain⟨N,h1⟩:=ih (nb hi) trivial;obtain⟨N2,h2⟩:=ih2 hj hok;obtain⟨h3,h12⟩:=hok;refine⟨N+N2+Ts s+60,λF n m hF hn hm a ha hs=>?_⟩;cases m with
  | zero=>omega|succ m=>show lJ s _ (tA F (aU F n) l (bW (tA F (aU F n) l) m) (s,(a:Int),0,0,e.fOp,e.fN,e.fName,e.fKids));rw[agq hl ha om h3 (by rw[nS,jD hs];exact h) h12,kZ hs,jD hs];obtain⟨a',gX,hs',hx⟩:=h1 F n om om _ (nb hi) rfl;rw[hx];exact h2 F n m om om om a' gX hs'
 | @Cq i r h d ih=>intro hi hok;refine bS.succ (bS.mg (ih hi trivial) (ia s) λF n h1 hF a ha hs=>?_);show lJ s _ (gT F (bI F n) (bF F n) (aU F n) (bA F n) (bw F n) s (a:Int) 0 0);grind[ai3,jD,iS,xM]
 | @GO i p c h d ih=>
  intro hi hok;refine bS.succ (bS.mg (ih (nb hi) trivial) (ia s) λF n h1 hF a ha hs=>?_);show lJ s _ (gT F (bI F n) (bF F n) (aU F n) (bA F n) (bw F n) s (a:Int) 0 0);have hb:(vC (sy s i)==0)=eQ:=by rw[iq];exact h
  rw[ai3 hl ha hF,jD hs,hb,kZ hs];obtain⟨hc,e,a',gX,hx⟩:=h1 _ (nb hi) rfl;rw[hx];exact⟨hc,_,a',gX,rfl⟩
 | @Nk i j e h d ih=>
  intro hi hok;refine bS.succ (bS.mg (ih (nb hi) trivial) (ia s) λF n h1 hF a ha hs=>?_);show lJ s _ (gT F (bI F n) (bF F n) (aU F n) (bA F n) (bw F n) s (a:Int) 0 0);have hb:(vC (sy s i)==0)=eQ:=by rw[iq];exact h
  rw[ai3 hl ha hF,jD hs,hb,kZ hs];obtain⟨a',gX,hs',hx⟩:=h1 _ (nb hi) rfl;rw[hx];exact⟨a',gX,hs',rfl⟩
 | @GP i h hv=>
  intro hi hok;refine bS.succ (bS.mono (ia s) λF n hF a ha hs=>?_);show lJ s _ (cW F (bI F n) (bF F n) (aU F n) (bA F n) (bw F n) s (a:Int) 0 0);rw[<-Hv hs]at h;rw[<-Bb hs]at hv⊢;rw[<-kZ hs];rcases ny s a ha with⟨h',_,_,_⟩|⟨w,b,h',QC,hw,hd,hl'⟩|⟨w,b,h',_,hw,hd,hl'⟩|⟨x',h',_,hw,hm,_⟩|⟨b,h',_,hw,_⟩<;>(first|(unfold kd at h;rw[h']at h;simp at h;done)|skip);have ht:tx s a=b::w:=by unfold tx;rw[h']
  have hn:(nx s a:Int)=(skip s a:Int)+(Ts (b::w):Int):=by unfold nx;rw[ht];omega
  rw[ht]at hv⊢;rw[E5 hl ha hF (by rw[QC];decide),hw];have hp:eK (0<(Ts (b::w):Int))=hJ:=eP (by simp_all);obtain⟨m,e,c1,c2,c3⟩:=adJ F (b::w) si om om;have c3:=c3 hv;rw[hv]at c2;simp only[show((b::w)==[])=eQ from rfl,aJ,hp,ij,Ro,xN,ai2 b hd,aD,c1,c2,Mk];have hrg:=(WV (b::w) hv);rw[c3,bO (x:=(pY (b::w)).1) om,bO (x:=(skip s a:Int)+(Ts (b::w):Int)) om,<-hn];exact⟨nx s a,nb ha,rfl,rfl⟩
 | @Cr i h hv=>
  intro hi hok;refine bS.succ (bS.mono (ia s) λF n hF a ha hs=>?_);show lJ s _ (cW F (bI F n) (bF F n) (aU F n) (bA F n) (bw F n) s (a:Int) 0 0);rw[<-Hv hs]at h;rw[<-Bb hs]at hv⊢;rw[<-hs];rcases ny s a ha with⟨h',_,_,_⟩|⟨w,b,h',QC,hw,hd,hl'⟩|⟨w,b,h',_,hw,hd,hl'⟩|⟨x',h',_,hw,hm,_⟩|⟨b,h',_,hw,_⟩<;>(first|(unfold kd at h;rw[h']at h;simp at h;done)|skip);have ht:tx s a=b::w:=by unfold tx;rw[h']
  rw[ht]at hv⊢;rw[E5 hl ha hF (by rw[QC];decide),hw];have hp:eK (0<(Ts (b::w):Int))=hJ:=eP (by simp_all);obtain⟨m,e,c1,c2,c3⟩:=adJ F (b::w) si om om;have hb:((pY (b::w)).2 != 0)=hJ:=by simpa using hv
  simp only[show((b::w)==[])=eQ from rfl,aJ,hp,ij,Ro,xN,ai2 b hd,aD,c1,c2,hb,aS];exact⟨hv,_,skip s a,(iS s a ha).1,rfl⟩
 | @GQ i h hv=>
  intro hi hok;refine bS.succ (bS.mono (ia s) λF n hF a ha hs=>?_);show lJ s _ (cW F (bI F n) (bF F n) (aU F n) (bA F n) (bw F n) s (a:Int) 0 0);rw[<-Hv hs]at h;rw[<-Bb hs]at hv⊢;rw[<-kZ hs];rcases ny s a ha with⟨h',_,_,_⟩|⟨w,b,h',_,hw,hd,hl'⟩|⟨w,b,h',QC,hw,hd,hl'⟩|⟨x',h',_,hw,hm,_⟩|⟨b,h',_,hw,_⟩<;>(first|(unfold kd at h;rw[h']at h;simp at h;done)|skip);have ht:tx s a=b::w:=by unfold tx;rw[h']
  have hn:(nx s a:Int)=(skip s a:Int)+(Ts (b::w):Int):=by unfold nx;rw[ht];omega
  rw[ht]at hv⊢;rw[E5 hl ha hF (by rw[QC];decide),hw];have hp:eK (0<(Ts (b::w):Int))=hJ:=eP (by simp_all);simp only[show((b::w)==[])=eQ from rfl,aJ,hp,ij,Ro,xN,hd,aD,aS,hv];rw[bO (x:=(skip s a:Int)+(Ts (b::w):Int)) om,<-hn];exact⟨nx s a,nb ha,rfl,rfl⟩
 | @Cs i h hv=>
  intro hi hok;refine bS.succ (bS.mono (ia s) λF n hF a ha hs=>?_);show lJ s _ (cW F (bI F n) (bF F n) (aU F n) (bA F n) (bw F n) s (a:Int) 0 0);rw[<-Hv hs]at h;rw[<-Bb hs]at hv;rw[<-hs];rcases ny s a ha with⟨h',_,_,_⟩|⟨w,b,h',_,hw,hd,hl'⟩|⟨w,b,h',QC,hw,hd,hl'⟩|⟨x',h',_,hw,hm,_⟩|⟨b,h',_,hw,_⟩<;>(first|(unfold kd at h;rw[h']at h;simp at h;done)|skip);have ht:tx s a=b::w:=by unfold tx;rw[h']
  have hn:(nx s a:Int)=(skip s a:Int)+(Ts (b::w):Int):=by unfold nx;rw[ht];omega
  rw[ht]at hv;rw[E5 hl ha hF (by rw[QC];decide),hw];have hp:eK (0<(Ts (b::w):Int))=hJ:=eP (by simp_all);simp only[show((b::w)==[])=eQ from rfl,aJ,hp,ij,Ro,xN,hd,aD,aS,hv];rw[bO (x:=(skip s a:Int)+(Ts (b::w):Int)) om,<-hn];exact⟨by decide,_,nx s a,nb ha,rfl⟩
 | @GR i h1 h2 h=>
  intro hi hok;refine bS.succ (bS.mono (ia s) λF n hF a ha hs=>?_);show lJ s _ (cW F (bI F n) (bF F n) (aU F n) (bA F n) (bw F n) s (a:Int) 0 0);rw[<-Hv hs]at h1 h2;rw[<-jD hs]at h;rw[<-hs];have hw:mC s (skip s a)=[]:=by
   rcases ny s a ha with⟨h',_,hw,_⟩|⟨w,b,h',_,hw,hd,hl'⟩|⟨w,b,h',QC,hw,hd,hl'⟩|⟨x',h',_,hw,hm,_⟩|⟨b,h',_,hw,_⟩
   ·exact hw
   ·unfold kd at h1;simp_all
   ·unfold kd at h2;simp_all
   ·exact hw
   ·exact hw
  rw[E5 hl ha hF h,hw];exact⟨by decide,_,skip s a,(iS s a ha).1,rfl⟩
 | @Nl i p c h d ih=>intro hi hok;refine bS.succ (bS.mg (ih (nb hi) trivial) (ia s) λF n h1 hF a ha hs=>?_);show lJ s _ (cW F (bI F n) (bF F n) (aU F n) (bA F n) (bw F n) s (a:Int) 0 0);unfold cW wx;rw[zT hl ha hF de (by rw[jD hs];exact h),kZ hs];simp only[aD,aS];obtain⟨hc,e,a',gX,hx⟩:=h1 _ (nb hi) rfl;rw[hx];simp only[aD];rw[QB hc];simp only[aD,qi,aS];rw[Ux hc];exact⟨hc,_,a',gX,rfl⟩
 | @yP i j e h d h2 ih=>intro hi hok;refine bS.succ (bS.mg (ih (nb hi) trivial) (ia s) λF n h1 hF a ha hs=>?_);show lJ s _ (cW F (bI F n) (bF F n) (aU F n) (bA F n) (bw F n) s (a:Int) 0 0);unfold cW wx;rw[zT hl ha hF de (by rw[jD hs];exact h),kZ hs];simp only[aD,aS];obtain⟨a',gX,hs',hx⟩:=h1 _ (nb hi) rfl;rw[hx];simp only[aD];rw[abG hl gX hF (by rw[jD hs'];exact h2),hs'];exact⟨by decide,_,skip s j,(by rw[<-hs'];exact(iS s a' gX).1),rfl⟩
 | @Nn i j e h d h2 ih=>intro hi hok;refine bS.succ (bS.mg (ih (nb hi) trivial) (ia s) λF n h1 hF a ha hs=>?_);show lJ s _ (cW F (bI F n) (bF F n) (aU F n) (bA F n) (bw F n) s (a:Int) 0 0);unfold cW wx;rw[zT hl ha hF de (by rw[jD hs];exact h),kZ hs];simp only[aD,aS];obtain⟨a',gX,hs',hx⟩:=h1 _ (nb hi) rfl;rw[hx];simp only[aD];rw[zT hl gX hF de (by rw[jD hs'];exact h2)];simp only[aD,gN,aJ,d5.eta];exact⟨nx s a',nb gX,(by rw[kZ hs']),rfl⟩
theorem aoX(h:-9223372036854775808<=n/\n<=9223372036854775807):(Lit.int .i64 n).wf=hJ:=by
 have h1:IntKind.i64.min=-9223372036854775808:=by decide
 have h2:IntKind.i64.max=9223372036854775807:=by decide
 simp[Lit.wf];omega
theorem aqe:∀x,x∈([]::qy)->ua x<=26:=by decide
theorem asy(x:Bs):0<=vC x/\vC x<=6:=by unfold vC;grind
theorem aqf:∀x,x∈([]::qy)->0<=(gQ x).2/\(gQ x).2<=26:=by decide
def auh(s:Bs)(c:oG)(i:Nat):wH->Prop
 | .ok e j=>jc e/\(match c with | .loop _ a=>nodes e+i<=j+nodes a|_=>nodes e+i<=j)
 | .err _ _=>True
def oG.okA:oG->Prop|.oper l=>0<l|.loop l a=>0<l/\jc a|_=>True
theorem Ax(s:Bs)(i:Nat)(hl:Ts s<=1000000)(hi:i<=Ts s):(tx s i).length<=maxLen:=by
 have:=ak8 hi;have h:(1000000:Nat)<=maxLen:=by decide
 omega
theorem JS{op:Int}{name:Bs}{kids:J d5}(h1:0<=op/\op<=26)(h2:-1<=n/\n<=9223372036854775807)(h3:Ts name<=maxLen)(h4:Ts kids<=3)(h5:∀x,x∈kids->jc x):jc (.mk op n name kids):=.mk op n name kids (aoX om) (aoX om) h3 (kU h4 de) h5
theorem asz(hl:Ts s<=1000000){c:oG}(d:D s c i r):i<=Ts s->c.okA->auh s c i r:=by
 induction d with
 | @Co i r h d ih=>intro hi _;have:=ih hi trivial;cases r with|ok e j=>exact this|err p c=>trivial
 | Cp h hn=>intro _ _;trivial|@GG i j e h hn d ih=>intro hi _;obtain⟨a,b,c,f⟩:=xQ hi h;obtain⟨x,y⟩:=ih c trivial;have g:=aqe _ (Qy s (nx s i));have g2:=agp _ (Qy s (nx s i));rw[(Qz h).2.2];refine⟨JS om om (Ax s i hl hi) si (by simpa using x),?_⟩;simp[nodes,nw];omega
 | GH h hn d ih=>intro _ _;trivial|GJ d ih=>intro _ _;trivial|GK d h ih=>intro hi _;exact ih hi (show(0:Int)<3 by decide)
 | GL d h d2 ih ih2=>intro _ _;trivial|GM d h d2 h2 ih ih2=>intro _ _;trivial|Nj d h d2 h2 d3 ih ih2 ih3=>intro _ _;trivial|@GN i j k m a b e d h d2 h2 d3 ih ih2 ih3=>intro hi _;obtain⟨_,p1,_⟩:=nD d hi (show(0:Int)<3 by decide);obtain⟨m1,m2⟩:=dP p1 (by rw[h];decide);obtain⟨_,p2,_⟩:=nD d2 m1 trivial;obtain⟨m3,m4⟩:=dP p2 (by rw[h2];decide);obtain⟨o1,n1⟩:=ih hi (show(0:Int)<3 by decide);obtain⟨o2,n2⟩:=ih2 m1 trivial;obtain⟨o3,n3⟩:=ih3 m3 trivial;refine⟨JS om om si si (by simp_all),?_⟩;simp[nodes,nw];omega
 | WU d ih=>intro _ _;trivial|@Ys l i j a r d d2 ih ih2=>
  intro hi hc;obtain⟨_,p1,_⟩:=nD d hi trivial;obtain⟨o1,n1⟩:=ih hi trivial;have:=ih2 p1 ⟨hc,o1⟩;cases r with
  | ok e k=>obtain⟨o2,n2⟩:=this;exact⟨o2,show nodes e+i<=k by omega⟩
  | err p c=>trivial
 | xP h=>intro hi hc;exact⟨hc.2,aQ⟩|Et h d ih=>intro _ _;trivial|@It l i j a b r h d d2 ih ih2=>
  intro hi hc;obtain⟨hc1,Li⟩:=hc;obtain⟨m1,m2⟩:=dP hi (AE hc1 h);obtain⟨_,p1,_⟩:=nD d m1 (show(0:Int)<_ by omega);obtain⟨o1,n1⟩:=ih m1 (show(0:Int)<_ by omega);have g:=aqf _ (Qy s i);have:=ih2 p1 ⟨hc1,JS g om si si (by simpa using⟨Li,o1⟩)⟩;cases r with
  | ok e k=>obtain⟨o2,n2⟩:=this;refine⟨o2,?_⟩;simp[nodes,nw]at n2;omega
  | err p c=>trivial
 | @Cq i r h d ih=>intro hi _;have:=ih hi trivial;cases r with|ok e j=>exact this|err p c=>trivial
 | GO h d ih=>intro _ _;trivial|@Nk i j a h d ih=>intro hi _;obtain⟨m1,m2⟩:=dP hi (Ba h);obtain⟨o1,n1⟩:=ih m1 trivial;have g:=asy (sy s i);refine⟨JS om om si si (by simpa using o1),?_⟩;simp[nodes,nw];omega
 | @GP i h hv=>intro hi _;have m:=(lP s i hi).2.2 (by rw[h];decide);have g:=WV _ hv;refine⟨JS om om si si si,?_⟩;simp[nodes,nw];omega|Cr h hv=>intro _ _;trivial|@GQ i h hv=>intro hi _;have m:=(lP s i hi).2.2 (by rw[h];decide);refine⟨JS om om (Ax s i hl hi) si si,?_⟩;simp[nodes,nw];omega|Cs h hv=>intro _ _;trivial|GR h1 h2 h=>intro _ _;trivial|Nl h d ih=>intro _ _;trivial|yP h d h2 ih=>intro _ _;trivial|@Nn i j e h d h2 ih=>intro hi _;obtain⟨m1,m2⟩:=dP hi (by rw[h];decide);obtain⟨_,p1,_⟩:=nD d m1 trivial;obtain⟨m3,m4⟩:=dP p1 (by rw[h2];decide);obtain⟨o1,n1⟩:=ih m1 trivial;exact⟨o1,show nodes e+i<=nx s j by omega⟩
mutual
def mo:d5->Int|.mk _ _ _ kids=>ud kids 0+1
def ud:J d5->Int->Int|[],m=>m|k::l,m=>ud l (cond (eK (m<mo k)) (mo k) m)
end
theorem alc(e:d5):mo e=ud e.fKids 0+1:=by cases e;rfl
theorem WW:∀(l m:J d5)(z:Int),ud (l++m) z=ud m (ud l z)|[],m,z=>rfl|k::l,m,z=>by simp[ud,WW l m]
theorem JT:∀(l:J d5)(z:Int),0<=z->(∀k,k∈l->0<=mo k/\mo k<=(nodes k:Int))->z<=ud l z/\ud l z<=z+(nw l:Int)
 | [],z,h,_=>by simp[ud,nw]|k::l,z,h,hk=>by have h1:=hk k si;simp[ud,nw];cases hc:eK (z<mo k)with|true=>have hc:=Bl hc;have h2:=JT l (mo k) om λk h=>hk k (kI _ h);simp;omega|false=>have h2:=JT l z h λk h=>hk k (kI _ h);simp;omega
theorem ald(e:d5):0<=mo e/\mo e<=(nodes e:Int):=by
 induction e using d5.ind with|h op n name kids ih=>have:=JT kids 0 om ih;simp[mo,nodes];omega
theorem WX{r:d5->O Int}{l:J d5}(hF:Ts l<F)(hb:Ts l<=9223372036854775807)(hn:nw l<=1000000)(hr:∀k,k∈l->r k=iN (mo k)):
  bW (σ:=Int×Int) (λbD x1=>
   cond (eK (x1.2<(Ts l:Int)))
   (rq ((eK (0<=x1.2))&&(eK (x1.2<(Ts l:Int)))) ((r (l.getD (eJ x1.2) dL)).bind λx3=>
   bD (cond (eK (x1.1<x3)) x3 x1.1,aE (x1.2+1))))
   (iN (aE (x1.1+1)))) F (0,0)=iN (ud l 0+1):=by
 refine JI (λi=>(ud (l.take i) 0,(i:Int))) l.length hF rfl ?_ ?_
 ·intro i rc hi;simp only[y5 hi,b9,gd hi,bH (i:=i) om,hr _ (fm hi)];rw[akQ hi,WW];rfl
 ·intro rc;have h:=JT l 0 om λk _=>ald k;simp;rw[bO om]
theorem anQ(ho:jc e):nodes e<=1000000->bS λF n=>vD F n e=iN (mo e)/\yR F n e=iN (mo e):=by revert e;apply jc.ind;intro e h4 h5 ih hn;rw[Ik]at hn;refine bS.succ ((bS.all λk hk=>ih k hk (by have:=JK hk;omega)).mg (bS.ge (Ts e.fKids+1) λF n h _=>h) λF m ih hF=>?_);rw[alc];refine⟨?_,WX hF h4 om λk hk=>(ih k hk).2⟩;show FF F (vD F m) e=_;unfold FF wx;simp;exact WX hF h4 om λk hk=>(ih k hk).1
def yS:d5:=.mk 0 0 [] []
def PS(s:Bs):wH->d5×Int×Int|.ok e j=>cond (eK (skip s j<Ts s)) (yS,(skip s j:Int),6) (cond (eK (32<mo e)) (yS,0,5) (e,0,0))|.err p c=>(yS,(p:Int),c)
theorem adX(s:Bs)(i:Nat)(hi:i<=Ts s):(kd s i==0)=!(eK (skip s i<Ts s)):=by
 unfold kd;rcases ny s i hi with⟨h',_,_,he⟩|⟨w,b,h',_,_,_,hl⟩|⟨w,b,h',_,_,_,hl⟩|⟨x',h',hs,_,hm,hl⟩|⟨b,h',_,_,hl⟩<;>rw[h']
 ·simp_all
 ·grind
 ·grind
 ·have:Ts x'≠0:=by simp_all[DM]
  grind
 grind
theorem anR(hlen:Ts s<=4096)(h0:skip s 0<Ts s)(d:D s .expr 0 r):
  bS λF _=>qG F s=iN (PS s r)/\qH F s=iN (PS s r):=by
 have hl:Ts s<=1000000:=om;have hA:=D_A hl d (fC _) trivial;have hR:=avw hl (avu d) (fC _) trivial;have hk0:(kd s 0==0)=eQ:=by simp_all[adX,fC,eP]
 have Nq:eK (4096<(Ts s:Int))=eQ:=uH om;have hat:((skip s 0:Int)==(Ts s:Int))=eQ:=by grind
 have start:∀F,Ts s+60<=F->vf F s 0=iN ⟨kd s 0,po s 0,tx s 0⟩:=λF hF=>by rw[<-Sk s 0 (fC _)];exact Yo F s 0 (fC _) om hl
 have rstart:∀F,Ts s+60<=F->gy F s 0 0 0=iN (s,(skip s 0:Int),0,0):=λF hF=>uB F s 0 0 0 (fC _) om hl;cases r with
 | err p c=>
  refine bS.DJ hA.fst hR.fst (ia s) λF _ h1 h2 hF=>⟨?_,?_⟩
  ·obtain⟨st,h1⟩:=h1;unfold qG nY wx;rw[Nq,start F hF];simp[aJ,hk0];rw[h1];rfl
  ·obtain⟨hc,e,a,ha,hx⟩:=h2 (skip s 0) om (xM s 0);unfold qH AF wx;rw[Nq,rstart F hF];simp[aJ,hat,hx];rw[uB F s a c p ha om hl];simp only[aD];rw[Ux hc];have tn:(c != 0)=hJ:=by simpa using hc
   cases eK ((skip s a:Int)<(Ts s:Int))<;>simp[aS,tn]<;>rfl
 | ok e j=>
  obtain⟨_,hj,_⟩:=nD d (fC _) trivial;obtain⟨ho,hn⟩:=asz hl d (fC _) trivial;refine bS.DJ (hA.fst.and hR.fst) (anQ ho om).fst (ia s) λF _ h12 hd hF=>?_;obtain⟨h1,h2⟩:=h12;obtain⟨ZO,ZP⟩:=hd;obtain⟨a,ha,hs,hx⟩:=h2 (skip s 0) om (xM s 0);have hkj:=adX s j hj;have hne:(kd s j != 0)=eK (skip s j<Ts s):=by grind
  refine⟨?_,?_⟩
  ·unfold qG nY KQ wx;rw[Nq,start F hF];simp[aJ,hk0];rw[h1];simp[sm,hne,ZO];show _=iN (cond (eK (skip s j<Ts s)) (yS,(skip s j:Int),6) (cond (eK (32<mo e)) (yS,0,5) (e,0,0)));cases eK (skip s j<Ts s)with
   | true=>rfl|false=>cases eK (32<mo e)<;>rfl
  ·unfold qH AF QD wx;rw[Nq,rstart F hF];simp[aJ,hat,hx];rw[uB F s a 0 0 ha om hl,hs];simp only[aD,ZP];show _=iN (cond (eK (skip s j<Ts s)) (yS,(skip s j:Int),6) (cond (eK (32<mo e)) (yS,0,5) (e,0,0)));by_cases hlt:skip s j<Ts s
   ·rw[eP hlt,eP om];rfl
   ·rw[uH hlt,uH om];cases eK (32<mo e)<;>rfl
theorem afz(hlen:Ts s<=4096)(h0:¬ skip s 0<Ts s):bS λF _=>qG F s=iN (.mk 1 0 [] [],0,0)/\qH F s=iN (.mk 1 0 [] [],0,0):=by
 have hl:Ts s<=1000000:=om;refine(ia s).mono λF _ hF=>?_;have hk0:(kd s 0==0)=hJ:=by simp_all[adX,fC,uH]
 have Nq:eK (4096<(Ts s:Int))=eQ:=uH om;have hsk:=(iS s 0 (fC _)).1;have hat:((skip s 0:Int)==(Ts s:Int))=hJ:=by rw[uJ];omega
 have start:vf F s 0=iN ⟨kd s 0,po s 0,tx s 0⟩:=by rw[<-Sk s 0 (fC _)];exact Yo F s 0 (fC _) om hl
 have rstart:gy F s 0 0 0=iN (s,(skip s 0:Int),0,0):=uB F s 0 0 0 (fC _) om hl;constructor
 ·unfold qG wx;rw[Nq,start];simp[aJ,hk0];rfl
 ·unfold qH wx;rw[Nq];simp_all
theorem afA(s:Bs)(hs:Ts s<=4096):∃x,(jc x.1/\nodes x.1<=10000)/\bS λF _=>qG F s=iN x/\qH F s=iN x:=by
 have hz:jc yS/\nodes yS<=10000:=⟨JS om om si si si,by decide⟩;by_cases h0:skip s 0<Ts s
 ·obtain⟨r,d⟩:=asw s 0 (fC _);refine⟨_,?_,anR om h0 d⟩;cases r with
  | err p c=>exact hz|ok e j=>
   obtain⟨ho,hn⟩:=asz om d (fC _) trivial;obtain⟨_,hj,_⟩:=nD d (fC _) trivial;show jc (cond (eK (skip s j<Ts s)) (yS,(skip s j:Int),(6:Int)) (cond (eK (32<mo e)) (yS,0,5) (e,0,0))).1/\nodes (cond (eK (skip s j<Ts s)) (yS,(skip s j:Int),(6:Int)) (cond (eK (32<mo e)) (yS,0,5) (e,0,0))).1<=10000;cases eK (skip s j<Ts s)with
   | true=>exact hz|false=>
    cases eK (32<mo e)with
    | true=>exact hz|false=>have hn:nodes e+0<=j:=hn;exact⟨ho,by show nodes e<=10000;omega⟩
 ·exact⟨_,⟨JS om om si si si,by decide⟩,afz om h0⟩
