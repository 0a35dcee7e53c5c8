import Derived.Test.YtjfbblgjjdgjdaaGreatDoorZ2
open Go.Op renaming bytesLess->pD
open Go.Lib renaming indexByte->lO
open UInt8 renaming ofNat->lL
open Option renaming some->iN,none->iF
open Bool renaming true->hJ,false->eQ
open Decidable renaming decide->eK
open Int renaming toNat->eJ
open Go.IntKind renaming wrap->dO
open Nat renaming blt->dE
open BitVec renaming ofInt->W0
open List renaming length->Ts
set_option linter.all false
namespace Go.Proofs.YtjfbblgjjdgjdaaGreatDoor.K
open Go.RT
set_option maxRecDepth 100000
variable{α:Type}
theorem akL(c:Bool)(x y:α):cond c (iN x) (iN y)=iN (cond c x y):=by cases c<;>rfl
def aiQ(a:Int):O (Int×Bs):=cond ((24:Int)==a) (iN (3,[124,124])) (cond ((23:Int)==a) (iN (4,[38,38])) (cond ((22:Int)==a) (iN (5,[124])) (cond ((21:Int)==a) (iN (6,[94])) (cond ((20:Int)==a) (iN (7,[38])) (cond ((18:Int)==a) (iN (8,[61,61])) (cond ((19:Int)==a) (iN (8,[33,61])) (cond ((14:Int)==a) (iN (9,[60])) (cond ((15:Int)==a) (iN (9,[62])) (cond ((16:Int)==a) (iN (9,[60,61])) (cond ((17:Int)==a) (iN (9,[62,61])) (cond ((12:Int)==a) (iN (10,[60,60])) (cond ((13:Int)==a) (iN (10,[62,62])) (cond ((10:Int)==a) (iN (11,[43])) (cond ((11:Int)==a) (iN (11,[45])) (cond ((7:Int)==a) (iN (12,[42])) (cond ((8:Int)==a) (iN (12,[47])) (cond ((9:Int)==a) (iN (12,[37])) (iN (0,[])))))))))))))))))))
def abB(a:Int):Int×Bs:=cond ((24:Int)==a) (3,[124,124]) (cond ((23:Int)==a) (4,[38,38]) (cond ((22:Int)==a) (5,[124]) (cond ((21:Int)==a) (6,[94]) (cond ((20:Int)==a) (7,[38]) (cond ((18:Int)==a) (8,[61,61]) (cond ((19:Int)==a) (8,[33,61]) (cond ((14:Int)==a) (9,[60]) (cond ((15:Int)==a) (9,[62]) (cond ((16:Int)==a) (9,[60,61]) (cond ((17:Int)==a) (9,[62,61]) (cond ((12:Int)==a) (10,[60,60]) (cond ((13:Int)==a) (10,[62,62]) (cond ((10:Int)==a) (11,[43]) (cond ((11:Int)==a) (11,[45]) (cond ((7:Int)==a) (12,[42]) (cond ((8:Int)==a) (12,[47]) (cond ((9:Int)==a) (12,[37]) ((0,[])))))))))))))))))))
def nh(a:Int):Int×Bs:=cond (a==1||a==2) (14,[]) (cond (a==3) (13,[45]) (cond (a==4) (13,[43]) (cond (a==5) (13,[33]) (cond (a==6) (13,[126]) (cond (a==25) (2,[63]) (cond (a==26) (1,[61]) (abB a)))))))
def qz(a:Int):Int:=cond (a==1||a==2) 0 (cond ((eK (3<=a)&&eK (a<=6))||a==26) 1 (cond (eK (7<=a)&&eK (a<=24)) 2 (cond (a==25) 3 (-1))))
theorem agk(F:Nat)(a:Int):Gz F a=iN (qz a):=by unfold Gz qz wx;grind
theorem ank(a:Int):aiQ a=iN (abB a):=by simp[aiQ,abB,akL]
theorem akM(G:Nat)(a:Int):((ud (G+20)).bind λx2=>
 bX (σ:=Int) (λlP x3=>
 cond (eK (x3<(Ts x2:Int)))
 (rq ((eK (0<=x3))&&(eK (x3<(Ts x2:Int)))) (cond (((x2.getD (eJ x3) AG).fop)==a)
 (iN ((x2.getD (eJ x3) AG).Ql,(x2.getD (eJ x3) AG).Ht))
 (lP (aD (x3+1)))))
 (iN (0,[]))) (G+20) 0)=aiQ a:=by kernel_rfl
theorem afu(G:Nat)(a:Int):yH (G+20) a=iN (nh a):=by unfold yH nh wx;cases h1:(a==1)<;>cases h2:(a==2)<;>simp;cases h3:(a==3)<;>simp;cases h4:(a==4)<;>simp;cases h5:(a==5)<;>simp;cases h6:(a==6)<;>simp;cases h7:(a==25)<;>simp;cases h8:(a==26)<;>simp;exact(akM G a).trans (ank a)
def aoT(L:Int):Int:=cond (L==1||L==13) 1 (cond (L==2) 3 (cond (L==14) 0 2))
theorem anl(op:Int):((nh op).1=0/\qz op=-1)\/((nh op).1≠0/\aoT (nh op).1=qz op):=by
 by_cases h:1<=op/\op<=26
 ·have:op=1\/op=2\/op=3\/op=4\/op=5\/op=6\/op=7\/op=8\/op=9\/op=10\/op=11\/op=12\/op=13\/op=14\/op=15\/op=16\/op=17\/op=18\/op=19\/op=20\/op=21\/op=22\/op=23\/op=24\/op=25\/op=26:=om;rcases this with rfl|rfl|rfl|rfl|rfl|rfl|rfl|rfl|rfl|rfl|rfl|rfl|rfl|rfl|rfl|rfl|rfl|rfl|rfl|rfl|rfl|rfl|rfl|rfl|rfl|rfl<;>decide
 ·left;have h1:(op==1)=eQ:=by grind
  have g1:((1:Int)==op)=eQ:=by rw[iu];omega
  have h2:(op==2)=eQ:=by rw[iu];omega
  have g2:((2:Int)==op)=eQ:=by rw[iu];omega
  have h3:(op==3)=eQ:=by grind
  have g3:((3:Int)==op)=eQ:=by grind
  have h4:(op==4)=eQ:=by grind
  have g4:((4:Int)==op)=eQ:=by grind
  have h5:(op==5)=eQ:=by grind
  have g5:((5:Int)==op)=eQ:=by grind
  have h6:(op==6)=eQ:=by grind
  have g6:((6:Int)==op)=eQ:=by grind
  have h7:(op==7)=eQ:=by grind
  have g7:((7:Int)==op)=eQ:=by grind
  have h8:(op==8)=eQ:=by grind
  have g8:((8:Int)==op)=eQ:=by grind
  have h9:(op==9)=eQ:=by grind
  have g9:((9:Int)==op)=eQ:=by rw[iu];omega
  have h10:(op==10)=eQ:=by rw[iu];omega
  have g10:((10:Int)==op)=eQ:=by rw[iu];omega
  have h11:(op==11)=eQ:=by rw[iu];omega
  have g11:((11:Int)==op)=eQ:=by rw[iu];omega
  have h12:(op==12)=eQ:=by rw[iu];omega
  have g12:((12:Int)==op)=eQ:=by rw[iu];omega
  have ZR:(op==13)=eQ:=by rw[iu];omega
  have g13:((13:Int)==op)=eQ:=by rw[iu];omega
  have h14:(op==14)=eQ:=by rw[iu];omega
  have g14:((14:Int)==op)=eQ:=by rw[iu];omega
  have h15:(op==15)=eQ:=by rw[iu];omega
  have g15:((15:Int)==op)=eQ:=by rw[iu];omega
  have h16:(op==16)=eQ:=by rw[iu];omega
  have g16:((16:Int)==op)=eQ:=by rw[iu];omega
  have h17:(op==17)=eQ:=by rw[iu];omega
  have g17:((17:Int)==op)=eQ:=by rw[iu];omega
  have h18:(op==18)=eQ:=by rw[iu];omega
  have g18:((18:Int)==op)=eQ:=by rw[iu];omega
  have h19:(op==19)=eQ:=by rw[iu];omega
  have g19:((19:Int)==op)=eQ:=by rw[iu];omega
  have h20:(op==20)=eQ:=by rw[iu];omega
  have g20:((20:Int)==op)=eQ:=by rw[iu];omega
  have h21:(op==21)=eQ:=by rw[iu];omega
  have g21:((21:Int)==op)=eQ:=by rw[iu];omega
  have h22:(op==22)=eQ:=by rw[iu];omega
  have g22:((22:Int)==op)=eQ:=by rw[iu];omega
  have h23:(op==23)=eQ:=by rw[iu];omega
  have g23:((23:Int)==op)=eQ:=by rw[iu];omega
  have WB:(op==24)=eQ:=by rw[iu];omega
  have g24:((24:Int)==op)=eQ:=by rw[iu];omega
  have ZS:(op==25)=eQ:=by rw[iu];omega
  have g25:((25:Int)==op)=eQ:=by rw[iu];omega
  have JK:(op==26)=eQ:=by rw[iu];omega
  have g26:((26:Int)==op)=eQ:=by rw[iu];omega
  have k1:(eK (3<=op)&&eK (op<=6))=eQ:=by grind
  have k2:(eK (7<=op)&&eK (op<=24))=eQ:=by grind
  refine⟨?_,?_⟩
  ·simp only[nh,abB,h1,h2,h3,h4,h5,h6,h7,h8,h9,h10,h11,h12,ZR,h14,h15,h16,h17,h18,h19,h20,h21,h22,h23,WB,ZS,JK,g1,g2,g3,g4,g5,g6,g7,g8,g9,g10,g11,g12,g13,g14,g15,g16,g17,g18,g19,g20,g21,g22,g23,g24,g25,g26,aa5,aJ]
  ·simp only[qz,h1,h2,ZS,JK,k1,k2,aa5,aJ]
def Ce(n:Int):Bool:=(eK (7<=n)&&eK (n<=13))||(eK (20<=n)&&eK (n<=22))
theorem anm(F:Nat)(n:Int):ue F n=iN (Ce n):=by
 by_cases h:n=7\/n=8\/n=9\/n=10\/n=11\/n=12\/n=13\/n=20\/n=21\/n=22
 ·rcases h with rfl|rfl|rfl|rfl|rfl|rfl|rfl|rfl|rfl|rfl<;>rfl
 ·unfold ue Ce wx;have k1:(eK (7<=n)&&eK (n<=13))=eQ:=by grind
  have k2:(eK (20<=n)&&eK (n<=22))=eQ:=by grind
  grind
theorem adA(F:Nat)(n:Int):yI F n=iN (n==0||Ce n):=by unfold yI Ce wx;grind
def gu(b:Int):Bool:=eK (48<=b)&&eK (b<=57)
def pI(b:Int):Bool:=(eK (97<=b)&&eK (b<=122))||(eK (65<=b)&&eK (b<=90))
def tD(b:Int):Bool:=(pI b||gu b)||b==95
theorem WC(F:Nat)(b:Int):lZ F b=iN (gu b):=by unfold lZ gu wx;grind
theorem ap0(F:Nat)(b:Int):tM F b=iN (pI b):=by unfold tM pI wx;grind
theorem at7(F:Nat)(b:Int):qp F b=iN (tD b):=by unfold qp tD wx;rw[ap0,WC];cases pI b<;>cases gu b<;>rfl
theorem akN(F:Nat)(b:Int):vS F b=iN (gu b):=by unfold vS gu wx;grind
theorem ap1(F:Nat)(b:Int):xL F b=iN (pI b):=by unfold xL pI wx;grind
theorem akO(b:Int):gu b=hJ↔48<=b/\b<=57:=by simp[gu]
theorem adB(b:Int):tD b=hJ↔(97<=b/\b<=122)\/(65<=b/\b<=90)\/(48<=b/\b<=57)\/b=95:=by simp[tD,pI,gu];omega
def sS(s:Bs)(p:Nat):Int:=((s.getD p 0).toNat:Int)
theorem adC(p:Nat->Bool):∀k i,iter (λi r=>cond (p i) r (iN eQ)) (iN hJ) k i=iN ((List.range' i k).all p)
 | 0,i=>rfl|k+1,i=>by simp[iter,aa2];rw[adC p k (i+1)];cases p i<;>rfl
def rName(s:Bs):Bool:=cond (s==[]||decide (32<(Ts s:Int))) eQ (cond (gu (sS s 0)) eQ ((List.range' 0 s.length).all λi=>tD (sS s i)))
theorem Aj(F:Nat)(s:Bs)(hF:33<=F):fL F s=iN (rName s):=by
 unfold fL rName wx;simp only[WC,at7];cases h1:(s==[])with
 | true=>rfl|false=>
  cases h2:eK (32<(Ts s:Int))with
  | true=>rfl|false=>
   have h0:eK (0<(Ts s:Int))=hJ:=by
    cases s with
    | nil=>cases h1
    | cons a s=>simp
   have hl:¬ 32<(Ts s:Int):=by simpa using h2
   simp only[aJ,h0];show cond (gu (sS s 0)) _ _=iN (cond (gu (sS s 0)) _ _);cases gu (sS s 0)with
   | true=>rfl|false=>
    simp only[aJ];rw[<-adC (λi=>tD (sS s i))];refine aft (λi rc hi=>?_) (λrc=>?_) F om
    ·have e1:eK ((i:Int)<(Ts s:Int))=hJ:=by simpa using hi
     have e2:eK (0<=(i:Int))=hJ:=by simp
     simp only[e1];rw[bH om];show cond (!(tD (sS s i))) _ _=_;simp_all
    simp_all
theorem get_at(l:Bs)(k:Nat):(ByteArray.mk ⟨l⟩).get! k=l.getD k 0:=by simp[ByteArray.get!];cases l[k]? <;> rfl
variable{p:Nat}
theorem AR{l:Bs}(h:(l.getD p 0).toNat<128):dec l p=((l.getD p 0).toNat,1):=by unfold dec Utf8.decode;simp_all[get_at,OR,if_pos]
theorem ZT{l:Bs}(h:¬ (l.getD p 0).toNat<128):128<=(dec l p).1:=by
 unfold dec Utf8.decode;simp[get_at]
 (repeat' split)<;>simp_all[Utf8.runeError]<;>omega
def cOk(c p:Int):Bool:=cond (pI c||c==95) hJ (cond (gu c) (eK (0<p)) eQ)
theorem agl(c p:Int):cOk c p=hJ↔(97<=c/\c<=122)\/(65<=c/\c<=90)\/c=95\/(48<=c/\c<=57)/\0<p:=by simp[cOk,pI,gu];omega
def Tq(s:Bs)(p:Nat):Bool:=tD (sS s p) && !(eK (p=0)&&gu (sS s p))
theorem ap2(s:Bs)(p:Nat):cOk ((dec s p).1:Int) (p:Int)=Tq s p/\(Tq s p=hJ->(dec s p).2=1):=by
 by_cases h:(s.getD p 0).toNat<128
 ·rw[AR h];rw[tH,agl];unfold Tq sS;rw[cK,adB];grind[akO,decide_eq_false_iff_not]
 ·have h1:=ZT h;have h2:tD (sS s p)=eQ:=by apply TG.2;intro hw;unfold sS at hw;grind[adB]
  have h3:Tq s p=eQ:=by unfold Tq;rw[h2];rfl
  rw[h3];refine⟨?_,λh=>by cases h⟩;grind[agl]
theorem WD(F:Nat)(s:Bs):∀(k p n:Nat),p+k=Ts s->k<n->bX (σ:=Bs×Int) (R:=Bool) (λiI x2=>
   cond (dE (eJ x2.2) x2.1.length)
   (((xL F ((dec x2.1 (eJ x2.2)).1:Int)).bind λx5=>
   cond x5
   (iN hJ)
   (iN (((dec x2.1 (eJ x2.2)).1:Int)==95)):O Bool).bind λx4=>
   (cond x4
   (iN hJ)
   ((vS F ((dec x2.1 (eJ x2.2)).1:Int)).bind λx7=>
   cond x7
   (iN (eK (0<(((eJ x2.2):Nat):Int))))
   (iN eQ)):O Bool).bind λx6=>
   cond x6
   (iI (x2.1,((((eJ x2.2)+(dec x2.1 (eJ x2.2)).2):Nat):Int)))
   (iN eQ))
   (iN hJ)) n (s,(p:Int))=iN ((List.range' p k).all (Tq s))
 | 0,p,n,h,hn=>by
  cases n with
  | zero=>omega|succ n=>
   have e:dE p s.length=eQ:=by simp_all[TG,aa6]
   simp_all[bX,cg,aJ]
 | k+1,p,n,h,hn=>by
  cases n with
  | zero=>omega|succ n=>
   have e:dE p s.length=hJ:=by rw[dE,aa6];omega
   obtain⟨h1,h2⟩:=ap2 s p;have ih:=WD F s k (p+1) n om om;simp only[ap1,akN,aE]at ih⊢;rw[bX];simp only[cg,e,aU]
   have key:∀X:O Bool,((cond (pI ((dec s p).1:Int)) (iN hJ) (iN (((dec s p).1:Int)==95)):O Bool).bind λx4=>
     (cond x4 (iN hJ) (cond (gu ((dec s p).1:Int)) (iN (eK (0<(p:Int)))) (iN eQ)):O Bool).bind λx6=>cond x6 X (iN eQ))=cond (cOk ((dec s p).1:Int) (p:Int)) X (iN eQ):=by
    intro X;unfold cOk;grind
   rw[key,h1,aa2,UT];grind
theorem FF(F:Nat)(s:Bs)(hF:33<=F):mF F s=iN (rName s):=by
 unfold mF rName wx;by_cases hz:s=[]
 ·subst hz;rfl
 have hlen:=Bn.2 hz;have h1:eK ((Ts s:Int)<1)=eQ:=by simp;omega
 have h2:(s==[])=eQ:=by simpa using hz
 rw[h1,h2];cases hl:eK (32<(Ts s:Int))with
 | true=>rfl|false=>
  have hs:¬ 32<(Ts s:Int):=by simpa using hl
  rw[WD F s s.length 0 F om om];obtain⟨m,hm⟩:∃m,Ts s=m+1:=⟨Ts s-1,om⟩;rw[hm,aa2];have e:(List.range' (0+1) m).all (Tq s)=(List.range' (0+1) m).all λi=>tD (sS s i):=by
   rw[tH];have:∀x,x∈List.range' (0+1) m->Tq s x=tD (sS s x):=λx hx=>by unfold Tq;grind
   simp_all
  unfold Tq;grind
def Ik(F:Nat)(s:Bs)(hF:33<=F):mF F s=fL F s:=(FF F s hF).trans (Aj F s hF).symm
abbrev dh:=cC
abbrev dh.mk:=cC.mk
instance:Inhabited d5:=⟨dJ⟩
inductive je:d5->Prop
 | mk (op n:Int) (name:Bs) (kids:List d5) (h1:(Lit.int .i64 op).wf=hJ) (h2:(Lit.int .i64 n).wf=hJ) (h3:Ts name<=maxLen) (h4:Ts kids<=maxLen) (h5:∀x,x∈kids->je x):je (.mk op n name kids)
theorem aiR(G:Nat)(r:d5->Int->O Int)(e:d5)(d:Int)(hd:d<=32)(hN:mF (G+20) e.fName=fL (G+20) e.fName):
  Ak (G+20) r e d=mG (G+20) r e d:=by
 unfold Ak mG wx;simp only[afu,agk,anm,adA,hN,aE,d5.eta];generalize fL (G+20) e.fName=nm;generalize e.fOp=op;generalize e.fN=n;generalize e.fName=name;generalize e.fKids=kids;have e32:(d==32)=eK (32<=d):=by rw[tH,uL,fW];omega
 have en:eK (n<0)=!(eK (0<=n)):=by rw[tH,wR,fW,agT];omega
 have o1:(op==1&&op==26)=eQ:=by rw[UU,iu,iu];omega
 rw[e32,en];simp only[bne];cases h32:eK (32<=d)<;>simp only[aU,aJ];rcases anl op with⟨h1,h2⟩|⟨h1,h2⟩
 ·rw[h1,h2];have e:((Ts kids:Int) == -1)=eQ:=by rw[iu];omega
  rw[e];cases (op==2)<;>cases (op==26)<;>rfl
 ·have e0:((nh op).1==0)=eQ:=by rw[iu];exact h1
  have ex:∀k:Int->O Int,jj (σ:=Int) (R:=Int) (cond ((nh op).1==0) (iN (.inr 1)) ((cond ((nh op).1==1) (iN ((nh op).1==1)) (iN ((nh op).1==13)):O Bool).bind λx3=>
    cond x3 (iN (.inl 1)) (cond ((nh op).1==2) (iN (.inl 3)) (cond ((nh op).1==14) (iN (.inl 0)) (iN (.inl 2)))))) k=k (qz op):=by
   intro k;rw[e0,<-h2];unfold aoT;generalize(nh op).1=L;cases (L==1)<;>cases (L==13)<;>cases (L==2)<;>cases (L==14)<;>rfl
  rw[ex];generalize(op==1)=b1 at o1⊢;generalize(op==26)=b26 at o1⊢;cases ((Ts kids:Int)==qz op)<;>cases b1<;>cases b26<;>(first|(cases o1;done)|skip)<;>
   cases (op==2)<;>cases (eK (0<=n))<;>cases (n==0)<;>cases (Ce n)<;>cases (name==[])<;>rfl
theorem afv(F:Nat)(r r':d5->Int->O Int)(e:d5)(d:Int)(h:¬ 32<=d->∀x,r x (aD (d+1))=r' x (aD (d+1))):mG F r e d=mG F r' e d:=by
 unfold mG wx;by_cases hd:32<=d
 ·rw[show eK (32<=d)=hJ by simpa using hd];rfl
 ·simp only[h hd]
theorem adD(G:Nat)(hG:13<=G):∀(n:Nat)(e:d5)(d:Int),0<=d->d<=32->sC (G+20) n e d=kT (G+20) n e d
 | 0,e,d,_,_=>rfl|n+1,e,d,h0,h1=>by show Ak (G+20) (sC (G+20) n) e d=mG (G+20) (kT (G+20) n) e d;rw[aiR G _ e d h1 (Ik _ _ om)];refine afv _ _ _ e d λhd x=>?_;rw[bL om];exact adD G hG n x (d+1) om om
theorem d5.ind{P:d5->Prop}(h:∀op n name kids,(∀k,k∈kids->P k)->P (.mk op n name kids))(e:d5):P e:=by
 match e with
 | .mk op n name kids=>exact h op n name kids λk hk=>d5.ind h k
termination_by SizeOf.sizeOf e
decreasing_by
 have:=List.sizeOf_lt_of_mem hk;simp only[d5.mk.sizeOf_spec];omega
variable{P:d5->Prop}
theorem je.ind(h:∀e,Ts e.fKids<=9223372036854775807->(∀k,k∈e.fKids->je k)->(∀k,k∈e.fKids->P k)->P e):∀e,je e->P e:=by
 intro e ho
 induction ho with|mk op n name kids h1 h2 h3 h4 h5 ih=>exact h (.mk op n name kids) (lG h4 de) h5 ih
mutual
def nodes:d5->Nat|.mk _ _ _ kids=>nE kids+1
def nE:J d5->Nat|[]=>0|k::l=>nodes k+nE l
end
theorem Il(e:d5):nodes e=nE e.fKids+1:=by cases e;rfl
theorem JL:∀ {l:J d5}{k:d5},k∈l->nodes k<=nE l
 | x::l,k,h=>by
  rcases hU.1 h with rfl|h
  ·simp only[nE];omega
  ·have:=JL h;simp only[nE];omega
inductive Nms:d5->Prop
 | mk (op n:Int) (name:Bs) (kids:List d5) (h:Ts name<=60) (hk:∀k,k∈kids->Nms k):Nms (.mk op n name kids)
def Nb(op:Int):Bool:=op==2||op==26
variable{i:Nat}
theorem akP{l:J α}(h:i<Ts l):l.take (i+1)=l.take i++[l[i]]:=by rw[lF h]
def DL(op n:Int)(name:Bs)(len:Nat):Bool:=((len:Int) != qz op)||(Nb op==(name==[]))||((op==1&&eK (n<0))||(op==26 && !(n==0||Ce n))||(op != 1&&(op != 26&&n != 0)))
mutual
def iX:d5->Int->Int|.mk op n name kids,d=>cond (eK (32<=d)) 5 (cond (DL op n name kids.length) 1 (cond (Nb op && !rName name) 10 (EZ kids (d+1))))
def EZ:J d5->Int->Int|[],_=>0|k::l,d=>cond (iX k d != 0) (iX k d) (EZ l d)
end
theorem akQ(e:d5)(d:Int):iX e d=cond (eK (32<=d)) 5 (cond (DL e.fOp e.fN e.fName e.fKids.length) 1 (cond (Nb e.fOp && !rName e.fName) 10 (EZ e.fKids (d+1)))):=by cases e;rfl
variable{e:d5}
theorem Tr(ho:je e):bS λF n=>∀d,0<=d->d<=32->kT F n e d=iN (iX e d):=by
 revert e;apply je.ind;intro e h4 h5 ih;refine bS.succ ((bS.all ih).mq (bS.ge (Ts e.fKids+34) λF n h _=>h) λF m ih hF d Tm ZK=>?_);rw[akQ];show mG F (kT F m) e d=_;unfold mG wx;simp only[agk,adA,Aj F _ (by omega:33<=F)];by_cases hd:32<=d
 ·simp_all
 ·rw[bL om];rw[sR e.fKids (λi (_:Unit)=>(i:Int)) (λ_ k=>(kT F m k (d+1)).bind λx=>cond (x != 0) (iN (.inr x)) (iN (.inl ()))) (λ_=>iN 0) (t:=()) om ?_ ?_ ?_]
  ·have key:∀l:J d5,(∀k,k∈l->k∈e.fKids)->rz (λ_ k=>(kT F m k (d+1)).bind λx=>cond (x != 0) (iN (.inr x)) (iN (.inl ()))) (λ_=>iN 0) l ()=iN (EZ l (d+1)):=by
    intro l
    induction l with
    | nil=>intro _;rfl|cons k l ihl=>
     intro hm;simp[rz,EZ];rw[ih k (hm k si) (d+1) om om];simp;cases (iX k (d+1) != 0)
     ·simp_all[aJ,aE,sm,kV]
     ·rfl
   unfold DL Nb;grind
  ·rfl
  ·intro i h t rc;simp only[yZ h,C3,ir,cg,gd h,bH (i:=i) om];cases kT F m e.fKids[i] (d+1)with
   | none=>rfl|some x=>simp;cases (x != 0)<;>rfl
  simp_all
theorem aaq(ho:je e):bS λF n=>∀d,0<=d->d<=32->sC F n e d=iN (iX e d):=(Tr ho).mq (bS.ge 33 λF n h _=>h) λF n h hF d h0 h1=>by obtain⟨G,rfl⟩:∃G,F=G+20:=⟨F-20,om⟩;simp_all[adD]
inductive Vd:d5->Prop
 | mk (op n:Int) (name:Bs) (kids:List d5) (h1:(Ts kids:Int)=qz op) (h2:Nb op=!(name==[])) (h3:op=1->0<=n) (h4:op=26->n=0\/Ce n=hJ) (h5:op≠1->op≠26->n=0)
   (h6:Nb op=hJ->rName name=hJ) (h7:∀k,k∈kids->Vd k):Vd (.mk op n name kids)
theorem Tt:∀(l:J d5)(d:Int),EZ l d=0↔∀k,k∈l->iX k d=0
 | [],d=>by simp[EZ]|k::l,d=>by
  simp[EZ];rw[<-Tt l d];cases h:(iX k d != 0)with
  | true=>
   have:iX k d≠0:=by simpa using h
   simp[this]
  | false=>
   have:iX k d=0:=by simpa using h
   simp[this]
variable{n:Int}
theorem ann{op:Int}{name:Bs}{len:Nat}(h:DL op n name len=eQ):
  (len:Int)=qz op/\Nb op=!(name==[])/\(op=1->0<=n)/\(op=26->n=0\/Ce n=hJ)/\(op≠1->op≠26->n=0):=by
 unfold DL at h;grind
theorem JM(e:d5):∀d,iX e d=0->Vd e:=by
 induction e using d5.ind with
 | h op n name kids ih=>
  intro d h;simp[iX]at h;cases h0:eK (32<=d)with
  | true=>rw[h0]at h;simp at h|false=>
   rw[h0]at h;cases h1:DL op n name kids.length with
   | true=>rw[h1]at h;simp at h|false=>
    rw[h1]at h;cases h2:(Nb op && !rName name)with
    | true=>rw[h2]at h;simp at h|false=>rw[h2]at h;simp at h;rw[Tt]at h;obtain⟨a,b,c,d',e⟩:=ann h1;refine .mk op n name kids a b c d' e (λhn=>?_) λk hk=>ih k hk _ (h k hk);simp_all
theorem ano{op:Int}{n:Nat}(h:(n:Int)=qz op):1<=op/\op<=26:=by
 by_cases h1:1<=op/\op<=26
 ·exact h1
 ·have e1:(op==1)=eQ:=by grind
  have e2:(op==2)=eQ:=by grind
  have e3:(op==25)=eQ:=by grind
  have e4:(op==26)=eQ:=by grind
  have k1:(eK (3<=op)&&eK (op<=6))=eQ:=by grind
  have k2:(eK (7<=op)&&eK (op<=24))=eQ:=by grind
  simp only[qz,e1,e2,e3,e4,k1,k2,aa5,aJ]at h;omega
theorem anp{op:Int}(h:1<=op/\op<=26):op=1\/op=2\/op=3\/op=4\/op=5\/op=6\/op=7\/op=8\/op=9\/op=10\/op=11\/op=12\/op=13\/op=14\/op=15\/op=16\/op=17\/op=18\/op=19\/op=20\/op=21\/op=22\/op=23\/op=24\/op=25\/op=26:=om
inductive Kind(op:Int):Prop
 | num (h:op=1\/op=2) (hk:qz op=0) (hl:(nh op).1=14)
 | un (h:3<=op/\op<=6) (hk:qz op=1) (hl:(nh op).1=13) (hs:(nh op).2.length=1)
 | bin (h:7<=op/\op<=24) (hk:qz op=2) (hl:3<=(nh op).1/\(nh op).1<=12) (hs:(nh op).2.length<=2)
 | con (h:op=25) (hk:qz op=3) (hl:(nh op).1=2)
 | set (h:op=26) (hk:qz op=1) (hl:(nh op).1=1)
structure Good(e:d5):Prop where
 v:Vd e
 o:je e
 m:Nms e
theorem Good.kid(g:Good e):∀k,k∈e.fKids->Good k:=by
 obtain⟨v,o,m⟩:=g;cases e with
 | mk op n name kids=>
  cases v with
  | mk _ _ _ _ h1 h2 h3 h4 h5 h6 h7=>
   cases o with
   | mk _ _ _ _ a1 a2 a3 a4 a5=>cases m with|mk _ _ _ _ b1 b2=>exact λk hk=>⟨h7 k hk,a5 k hk,b2 k hk⟩
theorem Good.ind(h:∀e,Good e->(∀k,k∈e.fKids->P k)->P e):∀e,Good e->P e:=by
 intro e
 induction e using d5.ind with|h op n name kids ih=>intro g;exact h _ g λk hk=>ih k hk (g.kid k hk)
theorem aso(h:(Lit.int .i64 n).wf=hJ):-9223372036854775808<=n/\n<=9223372036854775807:=by
 have h1:IntKind.i64.min=-9223372036854775808:=by decide
 have h2:IntKind.i64.max=9223372036854775807:=by decide
 simp[Lit.wf]at h;omega
theorem Good.facts(g:Good e):(Ts e.fKids:Int)=qz e.fOp/\(e.fOp=1->0<=e.fN)/\e.fN<=9223372036854775807/\e.fName.length<=60/\(e.fOp=26->e.fN=0\/Ce e.fN=hJ):=by
 obtain⟨v,o,m⟩:=g;cases e with
 | mk op n name kids=>
  cases v with
  | mk _ _ _ _ h1 h2 h3 h4 h5 h6 h7=>
   cases o with
   | mk _ _ _ _ a1 a2 a3 a4 a5=>cases m with|mk _ _ _ _ b1 b2=>exact⟨h1,h3,(aso a2).2,b1,h4⟩
variable{R:Type}
theorem adE{n:Nat}{inst:Decidable (n<=9223372036854775807)}(h:n<=1000000)(k:O R):rq (@eK (n<=9223372036854775807) inst) k=k:=cE (eN om)
theorem adF{d:Nat}(h:d<10):cx ([dO .u8 (dO .u64 (48+(d:Int)))]:J Int)=[lL (48+d)]:=by have:d=0\/d=1\/d=2\/d=3\/d=4\/d=5\/d=6\/d=7\/d=8\/d=9:=om;rcases this with rfl|rfl|rfl|rfl|rfl|rfl|rfl|rfl|rfl|rfl<;>rfl
theorem KL:∀(k u m:Nat)(out:Bs),u<10^(k+1)->u<18446744073709551616->k<m->Ts out+k<=1000->bX (σ:=Int×Bs) (λbD x1=>
   cond (eK (9<x1.1))
   (rq (eK (Ts (cx ([dO .u8 (dO .u64 (48+(Int.tmod x1.1 10)))]:J Int))+Ts x1.2<=9223372036854775807)) (bD (dO .u64 (Int.tdiv x1.1 10),(cx ([dO .u8 (dO .u64 (48+(Int.tmod x1.1 10)))]:J Int))++x1.2)))
   (rq (eK (Ts (cx ([dO .u8 (dO .u64 (48+x1.1))]:J Int))+Ts x1.2<=9223372036854775807)) (iN ((cx ([dO .u8 (dO .u64 (48+x1.1))]:J Int))++x1.2)))) m ((u:Int),out)=iN (Lib.decDigits u++out)
 | k,u,0,out,_,_,h,_=>by omega|k,u,m+1,out,hu,hu',hk,ho=>by
  simp only[bX];by_cases h9:u<10
  ·rw[show eK (9<(u:Int))=eQ by simp;omega];simp;rw[adF h9,adE aR,Lib.decDigits_one h9]
  ·have e1:Int.tmod (u:Int) 10=((u%10:Nat):Int):=IntWalk.up_tmod rfl rfl;have e2:Int.tdiv (u:Int) 10=((u / 10:Nat):Int):=IntWalk.up_tdiv rfl rfl;rw[show eK (9<(u:Int))=hJ by simp;omega];simp only[e1,e2];rw[adF (US _ de),adE aR,qP _ om];cases k with|zero=>simp at hu;omega|succ k=>rw[KL k (u / 10) m _ om om om aR];rw[Lib.decDigits.eq_1 u,dif_neg h9];simp
theorem aiS(F:Nat)(hF:30<=F)(h0:0<=n)(h1:n<=9223372036854775807):dV F n=iN (Lib.itoa n):=by obtain⟨u,rfl⟩:∃u:Nat,n=u:=⟨n.toNat,om⟩;unfold dV xM wx;rw[show eK ((u:Int)<0)=eQ by simp,qP (u:Int) om];rw[KL 20 u F [] om om om si];unfold Lib.itoa;simp_all
theorem LA(ho:je e):bS λF _=>El F e=iN (iX e 0):=(aaq ho).fst.mono λF _ h=>by unfold El Tu wx;simp_all
theorem zO{R σ:Type}{body:(σ->O R)->σ->O R}{s:Bs}{p:UInt8->Bool}{fin:Nat->O R}(st:Nat->σ)
  (hs:∀(i:Nat) rc (h:i<Ts s),body rc (st i)=cond (p s[i]) (rc (st (i+1))) (fin i)) (he:∀rc,body rc (st s.length)=fin s.length) :
  ∀(k i F:Nat),i+k=Ts s->k<F->bX body F (st i)=fin (i+Ts ((s.drop i).takeWhile p))
 | 0,i,F,h,hF=>by
  cases F with
  | zero=>omega|succ F=>obtain rfl:i=Ts s:=om;rw[Ma];exact he _
 | k+1,i,F,h,hF=>by
  cases F with
  | zero=>omega|succ F=>have hi:i<Ts s:=om;show body (bX body F) (st i)=_;rw[hs i _ hi,sY hi,UW];cases p s[i]with|false=>simp|true=>simp only[aU,if_true,qi];rw[zO st hs he k (i+1) F om om];congr 1;omega
def bl(b:UInt8):Bool:=(b.toNat:Int)==9||(b.toNat:Int)==10||(b.toNat:Int)==32
def fo(b:UInt8):Bool:=tD (b.toNat:Int)
def dg(b:UInt8):Bool:=gu (b.toNat:Int)
def le(b:UInt8):Bool:=pI (b.toNat:Int)||(b.toNat:Int)==95
def skip(s:Bs)(i:Nat):Nat:=i+Ts ((s.drop i).takeWhile bl)
def mH(s:Bs)(j:Nat):Bs:=(s.drop j).takeWhile fo
def Al:J Bs:=[[60,60,61],[62,62,61],[60,60],[62,62],[60,61],[62,61],[61,61],[33,61],[38,38],[124,124],[43,61],[45,61],[42,61],[47,61],[37,61],[38,61],[94,61],[124,61]]
def aiT:J Bs:=[[43],[45],[42],[47],[37],[60],[62],[38],[94],[124],[33],[126],[63],[58],[40],[41],[61]]
def qA:J Bs:=Al++aiT
def oQ(l:Bs):Bs:=(qA.find? λo=>o.isPrefixOf l).getD []
def WG(s:Bs)(j:Nat):fV:=match s.drop j with|[]=>⟨0,j,[]⟩|b::_=>cond (fo b) ⟨cond (dg b) 1 2,j,mH s j⟩ (cond (oQ (s.drop j)==[]) ⟨4,j,[b]⟩ ⟨3,j,oQ (s.drop j)⟩)
def vf(s:Bs)(i:Nat):fV:=WG s (skip s i)
theorem N3{l p:Bs}:(l.take p.length==p)=p.isPrefixOf l:=by rw[tH,uL,aa7,List.prefix_iff_eq_take];exact eq_comm
theorem Am(p:α->Bool)(l:J α):(l.takeWhile p).length<=Ts l:=(List.takeWhile_sublist _).length_le
theorem iU(s:Bs)(i:Nat)(h:i<=Ts s):skip s i<=Ts s/\i<=skip s i:=by have:=Am bl (s.drop i);rw[Kl]at this;unfold skip;omega
theorem LB{α:Type}(p:α->Bool):∀l:J α,l.drop (l.takeWhile p).length=l.dropWhile p
 | []=>rfl|x::l=>by rw[UW,Me];cases p x with|true=>simpa using LB p l|false=>rfl
theorem akR(s:Bs)(i:Nat):s.drop (skip s i)=(s.drop i).dropWhile bl:=by unfold skip;rw[<-agP,LB]
theorem LC{α:Type}(p:α->Bool):∀(l:J α)(b:α)(m:J α),l.dropWhile p=b::m->p b=eQ
 | [],b,m,h=>by simp at h|x::l,b,m,h=>by rw[Me]at h;cases hx:p x with|true=>rw[hx]at h;exact LC p l b m (by simpa using h)|false=>rw[hx]at h;simp at h;rw[<-h.1];exact hx
theorem xN(s:Bs)(i:Nat):skip s (skip s i)=skip s i:=by
 have:(s.drop (skip s i)).takeWhile bl=[]:=by rw[akR];cases h:(s.drop i).dropWhile bl with|nil=>rfl|cons b m=>rw[UW,LC bl _ b m h];rfl
 rw[skip,this];rfl
theorem anq(F:Nat)(b:UInt8):Em F (b.toNat:Int)=iN (bl b):=by unfold Em bl wx;cases ((b.toNat:Int)==9)<;>cases ((b.toNat:Int)==10)<;>rfl
theorem akS(c:Int):tD c=hJ↔(97<=c/\c<=122)\/(65<=c/\c<=90)\/(48<=c/\c<=57)\/c=95:=by unfold tD pI gu;simp only[Mf,cK,fW,uL];omega
theorem WH(F:Nat)(b:UInt8):pZ F (b.toNat:Int)=iN (fo b):=by
 unfold pZ fo wx;generalize(b.toNat:Int)=c;have:tD c=(c==95||(eK (48<=c)&&eK (c<=57))||(eK (65<=c)&&eK (c<=90))||(eK (97<=c)&&eK (c<=122))):=by rw[tH,akS];simp only[Mf,cK,fW,uL];omega
 rw[this];cases (c==95)<;>cases eK (48<=c)<;>cases eK (c<=57)<;>cases eK (65<=c)<;>cases eK (c<=90)<;>cases eK (97<=c)<;>cases eK (c<=122)<;>rfl
theorem xO(F:Nat)(b:UInt8):o6 F (b.toNat:Int)=iN (le b):=by unfold o6 le pI wx;generalize(b.toNat:Int)=c;cases (c==95)<;>cases eK (65<=c)<;>cases eK (c<=90)<;>cases eK (97<=c)<;>cases eK (c<=122)<;>rfl
theorem adG(F:Nat)(b:UInt8):zP F (b.toNat:Int)=iN (dg b):=by unfold zP dg gu wx;cases eK (48<=(b.toNat:Int))<;>rfl
theorem aoU(b:UInt8):fo b=(le b||dg b):=by unfold fo tD le dg;cases pI (b.toNat:Int)<;>cases gu (b.toNat:Int)<;>cases ((b.toNat:Int)==95)<;>rfl
theorem Cf(F:Nat)(a p:Bs):cD F a p=iN (p.isPrefixOf a):=by
 unfold cD kF wx;by_cases h:Ts p<=Ts a
 ·have e1:eK ((Ts p:Int)<=(Ts a:Int))=hJ:=eN om;simp only[e1,C3,wS,aU,ir,aE];unfold sl;simp only[cg,Int.toNat_zero,TF,N3]
 ·have e1:eK ((Ts p:Int)<=(Ts a:Int))=eQ:=sZ om;simp only[e1,aJ,aE];congr 1;apply Eq.symm;apply TG.2;intro hp;rw[aa7]at hp;exact h hp.length_le
theorem uF(F:Nat)(s:Bs)(i:Nat)(e pos:Int)(hi:i<=Ts s)(hF:Ts s<F)(hl:Ts s<=1000000):gv F s (i:Int) e pos=iN (s,(skip s i:Int),e,pos):=by
 unfold gv wx
 exact zO (s:=s) (p:=bl) (fin:=λj=>iN (s,(j:Int),e,pos)) (λj=>(s,(j:Int),e,pos)) (λj rc h=>by
  simp only[yZ h,C3,wS,aU,ir,cg,gd h,bH (i:=j) om];unfold bl;cases ((s[j].toNat:Int)==9)<;>cases ((s[j].toNat:Int)==10)<;>cases ((s[j].toNat:Int)==32)<;>rfl) (λrc=>by
  simp only[Ij,aJ,aE]) (Ts s-i) i F om om
theorem WI(s:J α)(i n:Nat):sl s (i:Int) ((i+n:Nat):Int)=(s.drop i).take n:=by unfold sl;rw[cg,cg,List.take_drop]
theorem DM{α:Type}(p:α->Bool):∀l:J α,l.take (l.takeWhile p).length=l.takeWhile p
 | []=>rfl|x::l=>by rw[UW];cases p x with|true=>simpa using DM p l|false=>rfl
theorem Nc(F:Nat)(s:Bs)(i:Nat)(e pos:Int)(hi:i<=Ts s)(hF:Ts s<F)(hl:Ts s<=1000000):qh F s (i:Int) e pos=iN (mH s i):=by
 unfold qh wx;have hw:=Am fo (s.drop i);rw[Kl]at hw
 refine(zO (s:=s) (p:=fo) (fin:=λ(j:Nat)=>rq ((eK (0<=(i:Int)))&&((eK ((i:Int)<=(j:Int)))&&(eK ((j:Int)<=(Ts s:Int))))) (iN (sl s i j))) (λj=>(j:Int)) (λj rc h=>by
  simp only[yZ h,C3,wS,aU,ir,cg,gd h,bH (i:=j) om,xO,adG,aE];rw[aoU];cases le s[j]<;>cases dg s[j]<;>rfl) (λrc=>by
  simp only[Ij,aJ,aE]) (Ts s-i) i F om om).trans ?_
 rw[cE (by simp only[cK,fW];omega),WI,DM];rfl
theorem oD(F:Nat)(s:Bs)(i:Nat)(e pos:Int)(hi:i<=Ts s)(hF:Ts s+50<F)(hl:Ts s<=1000000):iJ F s (i:Int) e pos=iN (oQ (s.drop (skip s i)),s,(skip s i:Int),e,pos):=by
 unfold iJ wx;obtain⟨h1,h2⟩:=iU s i hi;rw[uF F s i e pos hi om hl,show Cg F=iN qA from rfl];simp only[aE];generalize hj:skip s i=j at h1 h2⊢;have oC:∀o,o∈qA->Ts o<=3:=by decide
 have hlen:Ts qA=35:=rfl;unfold oQ;generalize qA=L at oC hlen⊢;rw[sR L (λk (_:Unit)=>(k:Int)) (λ(_:Unit) o=>cond (o.isPrefixOf (s.drop j)) (iN (.inr (o,s,(j:Int),e,pos))) (iN (.inl ()))) (λ_=>iN ([],s,(j:Int),e,pos)) (t:=()) om ?_ ?_ ?_]
 ·clear oC hlen
  induction L with
  | nil=>rfl|cons o l ih=>
   simp only[rz,OQ];cases o.isPrefixOf (s.drop j)
   ·simpa[sm]using ih
   ·rfl
 ·rfl
 ·intro k h t rc;have h3:=oC _ (fm h);simp only[yZ h,C3,wS,aU,ir,cg,gd h,bH (i:=k) om];rw[bL (x:=(Ts s:Int)-(j:Int)) om,bL (x:=(j:Int)+(L[k].length:Int)) om];by_cases hle:L[k].length<=Ts s-j
  ·rw[show eK ((L[k].length:Int)<=(Ts s:Int)-(j:Int))=hJ from eN om];have hc:(eK ((j:Int)<=(j:Int)+(L[k].length:Int))&&eK ((j:Int)+(L[k].length:Int)<=(Ts s:Int)))=hJ:=by simp only[cK,fW];omega
   simp only[hc,wS,aU,ir,aE];rw[show(j:Int)+(L[k].length:Int)=((j+L[k].length:Nat):Int) by omega,WI,N3];cases L[k].isPrefixOf (s.drop j)<;>rfl
  ·rw[show eK ((L[k].length:Int)<=(Ts s:Int)-(j:Int))=eQ from sZ om];have:L[k].isPrefixOf (s.drop j)=eQ:=by apply TG.2;intro hp;rw[aa7]at hp;have:=hp.length_le;rw[Kl]at this;omega
   rw[this];rfl
 ·intro t rc;simp only[Ij,aJ]
theorem Yl:∀(l:Bs)(c:UInt8),eK (0<=lO l c)=l.contains c
 | [],c=>rfl|b::l,c=>by
  have ih:=Yl l c;have hge:=Lib.indexByte_ge l c;unfold lO;rw[agU];by_cases h:b=c
  ·subst h;simp
  ·have h1:(b==c)=eQ:=by simpa using h
   have h2:(c==b)=eQ:=by simpa using λe:c=b=>h e.symm
   rw[h1,h2];simp only[Ri,TJ,OV];rw[<-ih];by_cases hm:lO l c=-1
   ·simp[hm]
   ·have:(lO l c == -1)=eQ:=by simpa using hm
    rw[this];simp only[Ri,TJ];rw[eN om,eN om]
def WJ:Bs:=[43,45,42,47,37,60,62,38,94,124,33,126,63,58,40,41,61]
def An:Bs:=[61,63,58,124,94,38,60,62,43,45,42,47,37,33,126,40,41]
theorem Tv:∀(l:Bs)(b:UInt8)(m:Bs),((l.map λx=>[x]).find? λo=>o.isPrefixOf (b::m))=cond (l.contains b) (iN [b]) iF
 | [],b,m=>rfl|x::l,b,m=>by
  rw[jI,OQ,agU];by_cases h:x=b
  ·subst h;simp[List.isPrefixOf]
  ·have h1:(x==b)=eQ:=by simpa using h
   have h2:(b==x)=eQ:=by simpa using λe:b=x=>h e.symm
   have h3:[x].isPrefixOf (b::m)=eQ:=by simp[List.isPrefixOf,h1]
   rw[h3,h2,Tv l b m];rfl
theorem anr(b:UInt8):An.contains b=WJ.contains b:=by rw[tH,aa8,aa8];exact⟨λh=>(by decide:∀x,x∈An->x∈WJ) b h,λh=>(by decide:∀x,x∈WJ->x∈An) b h⟩
theorem aiU(b:UInt8)(m:Bs):oQ (b::m)=match Al.find? (λo=>o.isPrefixOf (b::m))with|some o=>o|none=>cond (An.contains b) [b] []:=by
 unfold oQ qA;rw[List.find?_append,show aiT=WJ.map λx=>[x]from rfl,Tv,<-anr];cases Al.find? (λo=>o.isPrefixOf (b::m))with
 | some o=>rfl|none=>cases An.contains b<;>rfl
theorem DN:∀o,o∈qA->o≠[]:=by decide
theorem Qm(l:Bs):oQ l=[]\/oQ l∈qA/\oQ l <+: l:=by unfold oQ;cases h:qA.find? (λo=>o.isPrefixOf l)with|none=>exact .inl rfl|some o=>right;have h1:=UP h;have h2:=aa9 h;exact⟨h1,aa7.1 h2⟩
theorem Ym(F:Nat)(s:Bs)(i:Nat)(hi:i<=Ts s)(hF:Ts s+50<F)(hl:Ts s<=1000000):vg F s (i:Int)=iN (vf s i):=by
 unfold vg wx;refine(zO (s:=s) (p:=bl) (fin:=λj=>
  (cond ((j:Int)==(Ts s:Int))
  (iN (fV.mk 0 (j:Int) []))
  (rq ((eK (0<=(j:Int)))&&(eK ((j:Int)<(Ts s:Int)))) ((pZ F ((s.getD (eJ (j:Int)) 0).toNat:Int)).bind λx5=>
  cond x5
  (bX (σ:=Int) (R:=fV) (λyY x6=>
  (cond (eK (x6<(Ts s:Int)))
  (rq ((eK (0<=x6))&&(eK (x6<(Ts s:Int)))) ((pZ F ((s.getD (eJ x6) 0).toNat:Int)).bind λx9=>
  iN x9))
  (iN eQ):Option Bool).bind λx8=>
  cond x8
  (yY (aD (x6+1)))
  ((rq ((eK (0<=(j:Int)))&&(eK ((j:Int)<(Ts s:Int)))) (cond (eK (48<=((s.getD (eJ (j:Int)) 0).toNat:Int)))
  (rq ((eK (0<=(j:Int)))&&(eK ((j:Int)<(Ts s:Int)))) (iN (eK (((s.getD (eJ (j:Int)) 0).toNat:Int)<=57))))
  (iN eQ)):Option Bool).bind λcz=>
  cond cz
  (rq ((eK (0<=(j:Int)))&&((eK ((j:Int)<=x6))&&(eK (x6<=(Ts s:Int))))) (iN (fV.mk 1 (j:Int) (sl s (j:Int) x6))))
  (rq ((eK (0<=(j:Int)))&&((eK ((j:Int)<=x6))&&(eK (x6<=(Ts s:Int))))) (iN (fV.mk 2 (j:Int) (sl s (j:Int) x6)))))) F (aD ((j:Int)+1)))
  (bX (σ:=Int) (R:=fV) (λans gi=>
  cond (eK (gi<(Ts Al:Int)))
  (rq ((eK (0<=gi))&&(eK (gi<(Ts Al:Int)))) (rq ((eK (0<=(j:Int)))&&((eK ((j:Int)<=(Ts s:Int)))&&(eK ((Ts s:Int)<=(Ts s:Int))))) ((cD F (sl s (j:Int) (Ts s:Int)) (Al.getD (eJ gi) [])).bind λgp=>
  cond gp
  (iN (fV.mk 3 (j:Int) (Al.getD (eJ gi) [])))
  (ans (aD (gi+1))))))
  (rq ((eK (0<=(j:Int)))&&(eK ((j:Int)<(Ts s:Int)))) ((strings_IndexByte F ([61,63,58,124,94,38,60,62,43,45,42,47,37,33,126,40,41]:Bs) ((s.getD (eJ (j:Int)) 0).toNat:Int)).bind λwI=>
  cond (eK (0<=wI))
  (rq ((eK (0<=(j:Int)))&&((eK ((j:Int)<=aD ((j:Int)+1)))&&(eK (aD ((j:Int)+1)<=(Ts s:Int))))) (iN (fV.mk 3 (j:Int) (sl s (j:Int) (aD ((j:Int)+1))))))
  (rq ((eK (0<=(j:Int)))&&((eK ((j:Int)<=aD ((j:Int)+1)))&&(eK (aD ((j:Int)+1)<=(Ts s:Int))))) (iN (fV.mk 4 (j:Int) (sl s (j:Int) (aD ((j:Int)+1))))))))) F 0))))) (λj=>(j:Int)) (λj rc h=>by
  simp only[yZ h,C3,wS,aU,ir,cg,gd h,bH (i:=j) om,anq,aE];rfl) (λrc=>by
  simp only[Ij,aJ,aE];rfl) (Ts s-i) i F om om).trans ?_
 obtain⟨h1,h2⟩:=iU s i hi;show _=iN (WG s (skip s i));rw[show i+Ts ((s.drop i).takeWhile bl)=skip s i from rfl];generalize skip s i=j at h1 h2⊢;unfold WG;by_cases hj:j=Ts s
 ·subst hj;rw[Ma];simp only[HB,aU]
 ·have hj':j<Ts s:=om;have e0:((j:Int)==(Ts s:Int))=eQ:=by rw[iu];omega
  simp only[e0,aJ,yZ hj',C3,wS,ir,cg,gd hj',WH,aE,bH (i:=j) om];have hd:=sY hj';rw[hd];simp only[];cases hfo:fo s[j]with
  | true=>
   simp only[aU];have hw:=Am fo (s.drop (j+1));rw[Kl]at hw
   refine(zO (s:=s) (p:=fo) (fin:=λ(k:Nat)=>cond (dg s[j]) (rq ((eK ((j:Int)<=(k:Int)))&&(eK ((k:Int)<=(Ts s:Int)))) (iN (fV.mk 1 (j:Int) (sl s j k)))) (rq ((eK ((j:Int)<=(k:Int)))&&(eK ((k:Int)<=(Ts s:Int)))) (iN (fV.mk 2 (j:Int) (sl s j k))))) (λk=>(k:Int)) (λk rc h=>by
    simp only[yZ h,C3,wS,aU,ir,cg,gd h,bH (i:=k) om,WH,aE,Kn];unfold dg gu;cases fo s[k]<;>cases eK (48<=(s[j].toNat:Int))<;>cases eK ((s[j].toNat:Int)<=57)<;>rfl) (λrc=>by
    simp only[Ij,aJ,aE,Kn];unfold dg gu;cases eK (48<=(s[j].toNat:Int))<;>cases eK ((s[j].toNat:Int)<=57)<;>rfl) (Ts s-(j+1)) (j+1) F om om).trans ?_
   have hlen:((s.drop j).takeWhile fo).length=1+Ts ((s.drop (j+1)).takeWhile fo):=by rw[hd,UW,hfo];simp;omega
   have hc:(eK ((j:Int)<=((j+1+Ts ((s.drop (j+1)).takeWhile fo):Nat):Int))&&eK (((j+1+Ts ((s.drop (j+1)).takeWhile fo):Nat):Int)<=(Ts s:Int)))=hJ:=by simp only[cK,fW];omega
   have NL:sl s (j:Int) ((j+1+Ts ((s.drop (j+1)).takeWhile fo):Nat):Int)=mH s j:=by rw[show j+1+Ts ((s.drop (j+1)).takeWhile fo)=j+Ts ((s.drop j).takeWhile fo) by omega,WI,DM];rfl
   rw[hc,NL];cases dg s[j]<;>rfl
  | false=>
   simp only[aJ];have oC:∀o,o∈Al->Ts o<=3:=by decide
   have hlen:Ts Al=18:=rfl;rw[<-hd,hd,aiU];have hne:∀o,o∈Al->o≠[]:=by decide
   generalize Al=L at oC hlen hne⊢;have h1:aD ((j:Int)+1)=((j+1:Nat):Int):=bH om;have hs1:sl s (j:Int) ((j+1:Nat):Int)=[s[j]]:=by rw[WI,hd];rfl
   have NL:sl s (j:Int) (Ts s:Int)=s.drop j:=by unfold sl;rw[cg,cg,s7]
   have hc:(eK ((j:Int)<=((j+1:Nat):Int))&&eK (((j+1:Nat):Int)<=(Ts s:Int)))=hJ:=by simp only[cK,fW];omega
   have Lh:(eK ((j:Int)<=(Ts s:Int))&&eK ((Ts s:Int)<=(Ts s:Int)))=hJ:=by simp only[cK,fW];omega
   rw[sR L (λk (_:Unit)=>(k:Int)) (λ(_:Unit) o=>cond (o.isPrefixOf (s.drop j)) (iN (.inr (fV.mk 3 (j:Int) o))) (iN (.inl ()))) (λ_=>cond (An.contains s[j]) (iN (fV.mk 3 (j:Int) [s[j]])) (iN (fV.mk 4 (j:Int) [s[j]]))) (t:=()) om ?_ ?_ ?_]
   ·have key:∀l:J Bs,rz (λ(_:Unit)(o:Bs)=>cond (o.isPrefixOf (s.drop j)) (iN (.inr (fV.mk 3 (j:Int) o))) (iN (.inl ()))) (λ_=>cond (An.contains s[j]) (iN (fV.mk 3 (j:Int) [s[j]])) (iN (fV.mk 4 (j:Int) [s[j]]))) l ()=match l.find? (λo=>o.isPrefixOf (s.drop j))with|some o=>iN (fV.mk 3 (j:Int) o)|none=>cond (An.contains s[j]) (iN (fV.mk 3 (j:Int) [s[j]])) (iN (fV.mk 4 (j:Int) [s[j]])):=by
     intro l
     induction l with
     | nil=>rfl|cons o l ih=>
      simp only[rz,OQ];cases o.isPrefixOf (s.drop j)
      ·simpa[sm]using ih
      ·rfl
    rw[key,<-hd];cases hf:L.find? (λo=>o.isPrefixOf (s.drop j))with
    | some o=>
     have h1:=hne o (UP hf);have:(o==[])=eQ:=by simpa using h1
     simp only[this,aJ]
    | none=>cases An.contains s[j]<;>rfl
   ·rfl
   ·intro k h t rc;simp only[yZ h,C3,wS,aU,ir,cg,gd h,bH (i:=k) om,Lh,NL,Cf,aE];cases L[k].isPrefixOf (s.drop j)<;>rfl
   ·intro t rc;have hix:strings_IndexByte F An (s[j].toNat:Int)=iN (lO An s[j]):=by unfold strings_IndexByte stringslite_IndexByte sD Y4 wx;simp
    simp only[Ij,aJ];show(strings_IndexByte F An (s[j].toNat:Int)).bind _=_;rw[hix];simp only[aE,Yl,hc,hs1,ir,Kn]
theorem Qn{R σ α:Type}{body:(σ->O R)->σ->O R}{l:J α}{p:α->Bool}{z:O R}(st:Nat->σ)(hs:∀(i:Nat) rc (h:i<Ts l),body rc (st i)=cond (p l[i]) (rc (st (i+1))) z):
  ∀(k i F:Nat),i+k=Ts l->k<F->(l.drop i).all p=eQ->bX body F (st i)=z
 | 0,i,F,h,hF,hb=>by simp_all|k+1,i,F,h,hF,hb=>by
  cases F with
  | zero=>omega|succ F=>have hi:i<Ts l:=om;show body (bX body F) (st i)=z;rw[hs i _ hi];rw[sY hi,UT]at hb;cases hp:p l[i]with|false=>rfl|true=>rw[hp]at hb;exact Qn st hs k (i+1) F om om hb
def aua:Bs:=[48,49,50,51,52,53,54,55,56,57,97,98,99,100,101,102]
def dR(b:UInt8):Int:=cond (dg b) ((b.toNat:Int)-48) (cond (eK (97<=(b.toNat:Int))&&eK ((b.toNat:Int)<=102)) ((b.toNat:Int)-87) (cond (eK (65<=(b.toNat:Int))&&eK ((b.toNat:Int)<=70)) ((b.toNat:Int)-55) (-1)))
def dA(b:UInt8):Int:=lO aua (Tc .u8 (b.toNat:Int) (cond (eK (65<=(b.toNat:Int))&&eK ((b.toNat:Int)<=90)) 32 0)).toNat.toUInt8
theorem asp:∀n:Fin 256,dA (lL n.val)=dR (lL n.val):=by decide +kernel
theorem Ut{P:UInt8->Prop}(h:∀n:Fin 256,P (lL n.val))(b:UInt8):P b:=by have:=h ⟨b.toNat,b.toNat_lt⟩;simpa using this
def aub(b:UInt8):dA b=dR b:=Ut (P:=λb=>dA b=dR b) asp b
def okD(base:Int)(l:Bs):Bool:=l.all λb=>eK (0<=dR b)&&eK (dR b<base)
def th(base v:Nat)(l:Bs):Nat:=l.foldl (λv b=>v*base+(dR b).toNat) v
theorem Yn(base:Nat)(hb:1<=base):∀(l:Bs)(v:Nat),v<=th base v l
 | [],v=>eo _|b::l,v=>by have h1:=Yn base hb l (v*base+(dR b).toNat);have h2:=aba v hb;show v<=th base (v*base+(dR b).toNat) l;omega
def rA(base v:Nat)(l:Bs):Int×Int:=cond (okD (base:Int) l) (cond (eK (th base v l<=9223372036854775807)) ((th base v l:Int),0) (0,14)) (0,6)
def mX(s:Bs):Nat×Bs:=cond ((([48,120]:Bs).isPrefixOf s)||(([48,88]:Bs).isPrefixOf s)) (16,s.drop 2) (cond (((s.getD 0 0).toNat:Int)==48) (8,s) (10,s))
def p4(s:Bs):Int×Int:=cond ((mX s).2==[]) (0,6) (rA (mX s).1 0 (mX s).2)
theorem div_lt{d base most:Int}(hb:1<=base)(hd:0<=d)(VM:d<=most):(most-d) / base<n↔most<n*base+d:=by grind[Int.ediv_lt_iff_lt_mul]
theorem JN(base:Nat)(hb:1<=base/\base<=16):∀(l:Bs)(n:Int)(Im:Bool)(v:Nat),(Im=eQ->n=(v:Int)/\v<=9223372036854775807)->(Im=hJ->9223372036854775807<v) ->
  rz (λt (b:UInt8)=>cond (eK (dR b<0)||decide ((base:Int)<=dR b)) (iN (.inr ((0,6):Int×Int))) (cond (t.2||decide (aD (Int.tdiv (aD (9223372036854775807-dR b)) (base:Int))<t.1)) (iN (.inl (t.1,hJ))) (iN (.inl (aD (aD (t.1*(base:Int))+dR b),t.2)))))
   (λt=>cond t.2 (iN (0,14)) (iN (t.1,0))) l (n,Im)=iN (rA base v l)
 | [],n,Im,v,h1,h2=>by
  cases Im with
  | false=>obtain⟨rfl,h⟩:=h1 rfl;simp[rz,rA,okD,th,h]
  | true=>
   have h3:¬ v<=9223372036854775807:=by have:=h2 rfl;omega
   simp[rz,rA,okD,th,h3]
 | b::l,n,Im,v,h1,h2=>by
  simp[rz];by_cases hbad:dR b<0\/(base:Int)<=dR b
  ·have e1:(eK (dR b<0)||decide ((base:Int)<=dR b))=hJ:=by simpa using hbad
   have e2:okD (base:Int) (b::l)=eQ:=by unfold okD;grind
   rw[e1];simp[rA,e2,sm]
  ·have e1:(eK (dR b<0)||decide ((base:Int)<=dR b))=eQ:=by simp_all
   have e2:okD (base:Int) (b::l)=okD (base:Int) l:=by unfold okD;simp_all
   have e3:rA base v (b::l)=rA base (v*base+(dR b).toNat) l:=by unfold rA;rw[e2];rfl
   rw[e1,e3];have hm:((v*base+(dR b).toNat:Nat):Int)=(v:Int)*(base:Int)+dR b:=by grind
   have hvb:=aba v hb.1;cases Im with
   | true=>have:=h2 rfl;exact JN base hb l n hJ _ (λh=>by cases h) λ_=>by omega
   | false=>
    obtain⟨rfl,hv⟩:=h1 rfl;rw[bL (x:=9223372036854775807-dR b) om,show aD (Int.tdiv (9223372036854775807-dR b) (base:Int))=(9223372036854775807-dR b) / (base:Int)from IntWalk.i64_quo _ _ om];by_cases hx:(9223372036854775807-dR b) / (base:Int)<(v:Int)
    ·rw[eN hx];rw[div_lt om om om]at hx;exact JN base hb l v hJ _ (λh=>by cases h) λ_=>by omega
    ·rw[sZ hx];rw[div_lt om om om]at hx;rw[bL (x:=(v:Int)*(base:Int)) om,bL om];exact JN base hb l _ eQ _ (λ_=>⟨hm.symm,om⟩) λh=>by cases h
theorem ant(F:Nat)(c:Int):En F c=iN (cond (eK (65<=c)&&eK (c<=90)) 32 0):=by unfold En wx;grind
theorem adH(s:Bs):(1<=(mX s).1/\(mX s).1<=16)/\(mX s).2.length<=Ts s:=by unfold mX;grind
theorem anu(F:Nat)(s:Bs)(h0:s≠[])(hF:Ts s<F)(hl:Ts s<=1000000):zQ F s=iN (p4 s):=by
 obtain⟨hb,hlen⟩:=adH s;have hpos:=Bn.2 h0;have e1:((cD F s ([48,120]:Bs)).bind λx3=>cond x3 (iN hJ) ((cD F s ([48,88]:Bs)).bind λx4=>iN x4):O Bool)=iN (([48,120]:Bs).isPrefixOf s||([48,88]:Bs).isPrefixOf s):=by grind[Cf]
 have CZ:(cond (([48,120]:Bs).isPrefixOf s||([48,88]:Bs).isPrefixOf s)
   (rq ((eK (2<=(Ts s:Int)))&&(eK ((Ts s:Int)<=(Ts s:Int)))) (iN ((16:Int),sl s 2 (Ts s:Int))))
   (rq (eK (0<(Ts s:Int))) (cond (((s.getD 0 0).toNat:Int)==48) (iN (8,s)) (iN (10,s)))):O (Int×Bs))=iN (((mX s).1:Int),(mX s).2):=by
  unfold mX;cases hp:(([48,120]:Bs).isPrefixOf s||([48,88]:Bs).isPrefixOf s)with|true=>rw[cE (by grind)];unfold sl;simp|false=>simp;rw[cE (by simp_all)];grind
 unfold zQ wx;rw[e1];simp only[aE];rw[CZ];simp only[aE];unfold p4;generalize(mX s).2=l at hlen⊢;generalize(mX s).1=base at hb⊢;cases (l==[])with
 | true=>rfl|false=>
  rw[sR l (λi (t:Int×Bool)=>(t.1,t.2,(i:Int))) (λt (b:UInt8)=>cond (eK (dR b<0)||decide ((base:Int)<=dR b)) (iN (.inr ((0,6):Int×Int))) (cond (t.2||decide (aD (Int.tdiv (aD (9223372036854775807-dR b)) (base:Int))<t.1)) (iN (.inl (t.1,hJ))) (iN (.inl (aD (aD (t.1*(base:Int))+dR b),t.2)))))
    (λt=>cond t.2 (iN (0,14)) (iN (t.1,0))) (t:=(0,eQ)) om ?_ ?_ ?_]
  ·grind[JN]
  ·rfl
  ·intro i h t rc;simp only[yZ h,C3,wS,aU,ir,cg,gd h,bH (i:=i) om,ant,aE];have hix:strings_IndexByte F ([48,49,50,51,52,53,54,55,56,57,97,98,99,100,101,102]:Bs) (Tc .u8 (l[i].toNat:Int) (cond (eK (65<=(l[i].toNat:Int))&&eK ((l[i].toNat:Int)<=90)) 32 0))=iN (dR l[i]):=by rw[<-aub];rfl
   rw[hix];have hz:(!((base:Int)==0))=hJ:=by simp;omega
   simp only[aE,hz,ir];cases eK (dR l[i]<0)<;>cases eK ((base:Int)<=dR l[i])<;>cases t.2<;>simp
   all_goals first|rfl|(cases eK (aD (Int.tdiv (aD (9223372036854775807-dR l[i])) (base:Int))<t.1)<;>rfl)
  simp_all
theorem vT(F:Nat)(b:UInt8)(base:Int):zR F (b.toNat:Int) base=iN (cond (eK (base<=dR b)) (-1) (dR b)):=by
 have hb:=b.toNat_lt;unfold zR wx;rw[adG];simp only[aE];unfold dR;cases hd:dg b with
 | true=>unfold dg gu at hd;simp only[cK,fW]at hd;simp only[aU,aE];rw[Rj _ om,bL om];grind|false=>
  simp only[aJ];by_cases h3:97<=(b.toNat:Int)/\(b.toNat:Int)<=102
  ·rw[eN h3.1,eN h3.2,Rj _ om,bL (x:=(b.toNat:Int)-97) om,bL (x:=(b.toNat:Int)-97+10) om];grind
  ·have e3:(eK (97<=(b.toNat:Int))&&eK ((b.toNat:Int)<=102))=eQ:=by simp_all
   have e3':(cond (eK (97<=(b.toNat:Int))) (iN (eK ((b.toNat:Int)<=102))) (iN eQ):O Bool)=iN eQ:=by grind
   rw[e3',e3];simp only[aE,aJ];by_cases h4:65<=(b.toNat:Int)/\(b.toNat:Int)<=70
   ·rw[eN h4.1,eN h4.2,Rj _ om,bL (x:=(b.toNat:Int)-65) om,bL (x:=(b.toNat:Int)-65+10) om];grind
   grind
theorem aiV{base:Int}(hb:1<=base)(b:UInt8):eK (cond (eK (base<=dR b)) (-1) (dR b)<0)=!(eK (0<=dR b)&&eK (dR b<base)):=by grind
theorem ZU(base:Nat)(hb:1<=base/\base<=16):∀(l:Bs)(v:Nat),okD (base:Int) l=hJ->v<=9223372036854775808 ->
  ∃n e,rz (λt (b:UInt8)=>cond (eK (dO .u64 (Int.tdiv (dO .u64 (9223372036854775808-(dO .u64 (dR b)))) (base:Int))<t)) (iN (.inr ((0,14):Int×Int))) (iN (.inl (dO .u64 ((dO .u64 (t*(base:Int)))+(dO .u64 (dR b)))))))
   (λt=>iN (t,0)) l (v:Int)=iN (n,e)/\(cond (e==0&&eK (9223372036854775807<n)) 14 e=(rA base v l).2)/\((rA base v l).2=0->n=(rA base v l).1)
 | [],v,_,hv=>by
  refine⟨v,0,rfl,?_⟩;by_cases h:v<=9223372036854775807
  ·have:¬ 9223372036854775807<(v:Int):=om;simp[rA,okD,th,h,this]
  ·have:9223372036854775807<(v:Int):=om;simp[rA,okD,th,h,this]
 | b::l,v,ho,hv=>by
  have ho':(0<=dR b/\dR b<base)/\okD (base:Int) l=hJ:=by unfold okD at ho⊢;simp_all
  obtain⟨⟨h0,h1⟩,h2⟩:=ho';have hm:((v*base+(dR b).toNat:Nat):Int)=(v:Int)*(base:Int)+dR b:=by grind
  have e3:rA base v (b::l)=rA base (v*base+(dR b).toNat) l:=by unfold rA;rw[ho,h2];rfl
  simp[rz];rw[qP (dR b) om,qP (9223372036854775808-dR b) om,agV _ _ om];by_cases hx:(9223372036854775808-dR b) / (base:Int)<(v:Int)
  ·refine⟨0,14,?_,?_⟩
   ·rw[eN hx];rfl
   ·rw[div_lt om om om]at hx;have hge:=Yn base hb.1 l (v*base+(dR b).toNat);have:¬ th base (v*base+(dR b).toNat) l<=9223372036854775807:=om;rw[e3];simp[rA,h2,this]
  ·have hx':=hx;rw[div_lt om om om]at hx';rw[sZ hx,qP ((v:Int)*(base:Int)) om,qP ((v:Int)*(base:Int)+dR b) om,e3,<-hm];exact ZU base hb l _ h2 om
def kJ(s:Bs):Nat×Bs:=cond (eK (2<(Ts s:Int))&&((((s.getD 0 0).toNat:Int)==48)&&((((s.getD 1 0).toNat:Int)==120)||(((s.getD 1 0).toNat:Int)==88)))) (16,s.drop 2) (cond (eK (1<(Ts s:Int))&&(((s.getD 0 0).toNat:Int)==48)) (8,s.drop 1) (10,s))
theorem akT(base:Nat)(h:1<=base)(t:Bs):rA base 0 (48::t)=rA base 0 t:=by
 have e1:okD (base:Int) (48::t)=okD (base:Int) t:=by unfold okD;rw[UT,show dR 48=0 from rfl,eN om,eN om];rfl
 have e2:th base 0 (48::t)=th base 0 t:=by unfold th;rw[v7,show dR 48=0 from rfl];simp
 unfold rA;rw[e1,e2]
theorem ofNat_eq{b:UInt8}{n:Nat}(hn:n<256)(h:((b.toNat:Int)==(n:Int))=hJ):b=lL n:=by
 have:b.toNat=n:=by grind
 rw[<-this];simp
theorem akU(s:Bs)(h0:s≠[]):p4 s=cond ((kJ s).2==[]) (0,6) (rA (kJ s).1 0 (kJ s).2):=by
 match s,h0 with
 | [a],_=>
  unfold p4 mX kJ;have p1:([48,120]:Bs).isPrefixOf [a]=eQ:=by simp[List.isPrefixOf]
  have p2:([48,88]:Bs).isPrefixOf [a]=eQ:=by simp[List.isPrefixOf]
  rw[p1,p2];cases ha:((([a].getD 0 0).toNat:Int)==48)with
  | false=>rfl|true=>obtain rfl:=ofNat_eq de ha;rfl
 | a::b::t,_=>
  unfold p4 mX kJ;simp;have p1:([48,120]:Bs).isPrefixOf (a::b::t)=(((a.toNat:Int)==48)&&((b.toNat:Int)==120)):=by
   rw[tH];simp;constructor
   ·rintro⟨rfl,rfl⟩;exact⟨rfl,rfl⟩
   ·rintro⟨h1,h2⟩;exact⟨(ofNat_eq de (by simpa using h1)).symm,(ofNat_eq de (by simpa using h2)).symm⟩
  have p2:([48,88]:Bs).isPrefixOf (a::b::t)=(((a.toNat:Int)==48)&&((b.toNat:Int)==88)):=by
   rw[tH];simp;constructor
   ·rintro⟨rfl,rfl⟩;exact⟨rfl,rfl⟩
   ·rintro⟨h1,h2⟩;exact⟨(ofNat_eq de (by simpa using h1)).symm,(ofNat_eq de (by simpa using h2)).symm⟩
  rw[p1,p2];have hl1:eK (1<(Ts (a::b::t):Int))=hJ:=by simp;omega
  cases ha:((a.toNat:Int)==48)with
  | false=>simp|true=>
   obtain rfl:=ofNat_eq de ha;simp;cases hx:(((b.toNat:Int)==120)||((b.toNat:Int)==88))with
   | false=>simp_all[TK,aJ,akT]|true=>
    cases t with
    | nil=>
     simp only[Mf]at hx;rcases hx with hx|hx
     ·obtain rfl:=ofNat_eq de hx;rfl
     ·obtain rfl:=ofNat_eq de hx;rfl
    | cons c t=>grind
theorem adI(F:Nat)(s:Bs)(h0:s≠[])(hF:Ts s<F)(hl:Ts s<=1000000):
  ∃n e,mU F s=iN (n,e)/\(cond (e==0&&eK (9223372036854775807<n)) 14 e=(p4 s).2)/\((p4 s).2=0->n=(p4 s).1):=by
 have hpos:0<Ts s:=Bn.2 h0;have hb:(1<=(kJ s).1/\(kJ s).1<=16)/\(kJ s).2.length<=Ts s:=by unfold kJ;grind
 rw[akU s h0];unfold mU wx
 have S2:((cond (eK (2<(Ts s:Int)))
   (rq (eK (0<(Ts s:Int))) (iN (((s.getD 0 0).toNat:Int)==48)))
   (iN eQ):O Bool).bind λx2=>
   (cond x2
   (rq (eK (1<(Ts s:Int))) (cond (((s.getD 1 0).toNat:Int)==120)
   (iN hJ)
   (rq (eK (1<(Ts s:Int))) (iN (((s.getD 1 0).toNat:Int)==88)))))
   (iN eQ):O Bool).bind λx3=>
   cond x3
   (rq ((eK (2<=(Ts s:Int)))&&(eK ((Ts s:Int)<=(Ts s:Int)))) (iN (sl s 2 (Ts s:Int),(16:Int))))
   ((cond (eK (1<(Ts s:Int)))
   (rq (eK (0<(Ts s:Int))) (iN (((s.getD 0 0).toNat:Int)==48)))
   (iN eQ):O Bool).bind λx4=>
   cond x4
   (rq ((eK (1<=(Ts s:Int)))&&(eK ((Ts s:Int)<=(Ts s:Int)))) (iN (sl s 1 (Ts s:Int),8)))
   (iN (s,10))):O (Bs×Int))=iN ((kJ s).2,((kJ s).1:Int)):=by
  have s2:sl s 2 (Ts s:Int)=s.drop 2:=by unfold sl;simp
  have s1:sl s 1 (Ts s:Int)=s.drop 1:=by unfold sl;simp
  rw[show eK (0<(Ts s:Int))=hJ from eN om,show eK (1<=(Ts s:Int))=hJ from eN om,show eK ((Ts s:Int)<=(Ts s:Int))=hJ from eN om,s1,s2];unfold kJ;by_cases h2:2<(Ts s:Int)
  ·rw[eN h2,show eK (1<(Ts s:Int))=hJ from eN om,show eK (2<=(Ts s:Int))=hJ from eN om];cases (((s.getD 0 0).toNat:Int)==48)<;>cases (((s.getD 1 0).toNat:Int)==120)<;>cases (((s.getD 1 0).toNat:Int)==88)<;>rfl
  ·rw[sZ h2];cases eK (1<(Ts s:Int))<;>cases (((s.getD 0 0).toNat:Int)==48)<;>rfl
 rw[S2];simp only[aE];obtain⟨hb,hlen⟩:=hb;generalize(kJ s).2=l at hlen⊢;generalize(kJ s).1=base at hb⊢;cases (l==[])with
 | true=>grind|false=>
  simp only[aJ];cases hok:okD (base:Int) l with
  | false=>
   refine⟨0,6,?_,?_⟩
   ·refine Qn (l:=l) (p:=λb=>eK (0<=dR b)&&eK (dR b<(base:Int))) (λi=>(i:Int)) (λi rc h=>?_) l.length 0 F om om (by rw[TF];exact hok);simp only[yZ h,C3,wS,aU,ir,cg,gd h,bH (i:=i) om,vT,aE,aiV (base:=(base:Int)) om];grind
   ·unfold rA;simp_all
  | true=>
   obtain⟨n,e,h1,h2⟩:=ZU base hb l 0 hok om;refine⟨n,e,?_,h2⟩;refine JJ (λi=>(i:Int)) l.length om rfl ?_ ?_
   ·intro i rc h;have hi:(eK (0<=dR l[i])&&eK (dR l[i]<(base:Int)))=hJ:=by unfold okD at hok;simp_all
    simp only[yZ h,C3,wS,aU,ir,cg,gd h,bH (i:=i) om,vT,aE,aiV (base:=(base:Int)) om,hi];rfl
   ·intro rc;simp only[Ij,aJ];rw[<-h1];refine sR l (λi (t:Int)=>(t,(i:Int))) _ _ om rfl ?_ ?_
    ·intro i h t rc;have hi:(eK (0<=dR l[i])&&eK (dR l[i]<(base:Int)))=hJ:=by unfold okD at hok;simp_all
     have hw:dO .u64 (base:Int)=(base:Int):=qP (base:Int) om;have hz:(!((base:Int)==0))=hJ:=by simp;omega
     have hv:cond (eK ((base:Int)<=dR l[i])) (-1) (dR l[i])=dR l[i]:=by grind
     simp only[yZ h,C3,wS,aU,ir,cg,gd h,bH (i:=i) om,vT,aE,hw,hz,hv];generalize eK (dO .u64 (Int.tdiv (dO .u64 (9223372036854775808-(dO .u64 (dR l[i])))) (base:Int))<t)=c;cases c<;>rfl
    simp_all
def sg(base v:Nat)(l:Bs):Int×Int:=cond (okD (base:Int) l) (cond (eK (th base v l<=9223372036854775808)) ((th base v l:Int),0) (0,14)) (0,6)
def tE(s:Bs):Nat×Bs:=cond ((([48,120]:Bs).isPrefixOf s)||(([48,88]:Bs).isPrefixOf s)) (16,s.drop 2) (cond (([48]:Bs).isPrefixOf s) (8,s) (10,s))
def p5(s:Bs):Int×Int:=cond ((tE s).2==[]) (0,6) (sg (tE s).1 0 (tE s).2)
def dC(b:UInt8):Int:=cond (eK (0<=dR b)) (dR b) 16
theorem akV(F:Nat)(b:UInt8):GB F (b.toNat:Int)=iN (dC b):=by
 unfold GB dC dR dg gu wx;by_cases h1:48<=(b.toNat:Int)/\(b.toNat:Int)<=57
 ·rw[eN h1.2,Rj ((b.toNat:Int)-48) om,qP ((b.toNat:Int)-48) om];simp_all
 ·have e1:(eK (48<=(b.toNat:Int))&&eK ((b.toNat:Int)<=57))=eQ:=by simp_all
  have e1':(cond (eK (48<=(b.toNat:Int))) (iN (eK ((b.toNat:Int)<=57))) (iN eQ):O Bool)=iN eQ:=by grind
  by_cases h3:97<=(b.toNat:Int)/\(b.toNat:Int)<=102
  ·rw[eN h3.2,Rj ((b.toNat:Int)-97) om,qP ((b.toNat:Int)-97) om,qP ((b.toNat:Int)-97+10) om];grind
  ·have e3:(eK (97<=(b.toNat:Int))&&eK ((b.toNat:Int)<=102))=eQ:=by simp_all
   have e3':(cond (eK (97<=(b.toNat:Int))) (iN (eK ((b.toNat:Int)<=102))) (iN eQ):O Bool)=iN eQ:=by grind
   by_cases h4:65<=(b.toNat:Int)/\(b.toNat:Int)<=70
   ·rw[eN h4.2,Rj ((b.toNat:Int)-65) om,qP ((b.toNat:Int)-65) om,qP ((b.toNat:Int)-65+10) om];grind
   grind
theorem Se(base:Nat)(hb:1<=base/\base<=16):∀(l:Bs)(n:Int)(Im:Bool)(v:Nat),(Im=eQ->n=(v:Int)/\v<=9223372036854775808)->(Im=hJ->9223372036854775808<v) ->
  rz (λt (b:UInt8)=>cond (eK ((base:Int)<=dC b)) (iN (.inr ((0,6):Int×Int))) (cond (t.2||decide (dO .u64 (Int.tdiv (dO .u64 (9223372036854775808-dC b)) (base:Int))<t.1)) (iN (.inl (t.1,hJ))) (iN (.inl (dO .u64 ((dO .u64 (t.1*(base:Int)))+dC b),t.2)))))
   (λt=>cond t.2 (iN (0,14)) (iN (t.1,0))) l (n,Im)=iN (sg base v l)
 | [],n,Im,v,h1,h2=>by
  cases Im with
  | false=>obtain⟨rfl,h⟩:=h1 rfl;simp[rz,sg,okD,th,h]
  | true=>
   have h3:¬ v<=9223372036854775808:=by have:=h2 rfl;omega
   simp[rz,sg,okD,th,h3]
 | b::l,n,Im,v,h1,h2=>by
  simp[rz];by_cases hbad:dR b<0\/(base:Int)<=dR b
  ·have e1:eK ((base:Int)<=dC b)=hJ:=by unfold dC;grind
   have e2:okD (base:Int) (b::l)=eQ:=by unfold okD;grind
   rw[e1];simp[sg,e2,sm]
  ·have hdc:dC b=dR b:=by unfold dC;simp_all
   have e1:eK ((base:Int)<=dC b)=eQ:=by simp_all
   have e2:okD (base:Int) (b::l)=okD (base:Int) l:=by unfold okD;simp_all
   have e3:sg base v (b::l)=sg base (v*base+(dR b).toNat) l:=by unfold sg;rw[e2];rfl
   rw[e1,e3,hdc];have hm:((v*base+(dR b).toNat:Nat):Int)=(v:Int)*(base:Int)+dR b:=by grind
   have hvb:=aba v hb.1;cases Im with
   | true=>have:=h2 rfl;exact Se base hb l n hJ _ (λh=>by cases h) λ_=>by omega
   | false=>
    obtain⟨rfl,hv⟩:=h1 rfl;rw[qP (9223372036854775808-dR b) om,agV _ _ om];by_cases hx:(9223372036854775808-dR b) / (base:Int)<(v:Int)
    ·rw[eN hx];rw[div_lt om om om]at hx;exact Se base hb l v hJ _ (λh=>by cases h) λ_=>by omega
    ·rw[sZ hx];rw[div_lt om om om]at hx;rw[qP ((v:Int)*(base:Int)) om,qP ((v:Int)*(base:Int)+dR b) om];exact Se base hb l _ eQ _ (λ_=>⟨hm.symm,om⟩) λh=>by cases h
theorem adJ(s:Bs):(1<=(tE s).1/\(tE s).1<=16)/\(tE s).2.length<=Ts s:=by unfold tE;grind
theorem asq(F:Nat)(s:Bs)(hF:Ts s<F)(hl:Ts s<=1000000):yJ F s=iN (p5 s):=by
 obtain⟨hb,hlen⟩:=adJ s;have e1:((cD F s ([48,120]:Bs)).bind λx3=>cond x3 (iN hJ) ((cD F s ([48,88]:Bs)).bind λx4=>iN x4):O Bool)=iN (([48,120]:Bs).isPrefixOf s||([48,88]:Bs).isPrefixOf s):=by grind[Cf]
 have CZ:(cond (([48,120]:Bs).isPrefixOf s||([48,88]:Bs).isPrefixOf s)
   (rq ((eK (2<=(Ts s:Int)))&&(eK ((Ts s:Int)<=(Ts s:Int)))) (iN ((16:Int),sl s 2 (Ts s:Int))))
   ((cD F s ([48]:Bs)).bind λx5=>cond x5 (iN (8,s)) (iN (10,s))):O (Int×Bs))=iN (((tE s).1:Int),(tE s).2):=by
  unfold tE;cases hp:(([48,120]:Bs).isPrefixOf s||([48,88]:Bs).isPrefixOf s)with|true=>rw[cE (by grind)];unfold sl;simp|false=>simp[Cf];grind
 unfold yJ wx;rw[e1];simp only[aE];rw[CZ];simp only[aE];unfold p5;generalize(tE s).2=l at hlen⊢;generalize(tE s).1=base at hb⊢;cases (l==[])with
 | true=>rfl|false=>
  rw[sR l (λi (t:Int×Bool)=>(t.1,t.2,(i:Int))) (λt (b:UInt8)=>cond (eK ((base:Int)<=dC b)) (iN (.inr ((0,6):Int×Int))) (cond (t.2||decide (dO .u64 (Int.tdiv (dO .u64 (9223372036854775808-dC b)) (base:Int))<t.1)) (iN (.inl (t.1,hJ))) (iN (.inl (dO .u64 ((dO .u64 (t.1*(base:Int)))+dC b),t.2)))))
    (λt=>cond t.2 (iN (0,14)) (iN (t.1,0))) (t:=(0,eQ)) om ?_ ?_ ?_]
  ·grind[Se]
  ·rfl
  ·intro i h t rc;have hz:(!((base:Int)==0))=hJ:=by simp;omega
   simp only[yZ h,cg,gd h,bH (i:=i) om,akV,aE,hz];cases eK ((base:Int)<=dC l[i])<;>cases t.2<;>simp
   all_goals first|rfl|(generalize eK (dO .u64 (Int.tdiv (dO .u64 (9223372036854775808-dC l[i])) (base:Int))<t.1)=c;cases c<;>rfl)
  simp_all
theorem WK(base:Nat)(hb:1<=base/\base<=16):∀(l:Bs)(v:Nat),okD (base:Int) l=hJ->v<=9223372036854775808 ->
  rz (λt (b:UInt8)=>cond (eK (dO .u64 (Int.tdiv (dO .u64 (9223372036854775808-(dO .u64 (dR b)))) (base:Int))<t)) (iN (.inr ((0,14):Int×Int))) (iN (.inl (dO .u64 ((dO .u64 (t*(base:Int)))+(dO .u64 (dR b)))))))
   (λt=>iN (t,0)) l (v:Int)=iN (sg base v l)
 | [],v,_,hv=>by simp[rz,sg,okD,th,hv]|b::l,v,ho,hv=>by
  have ho':(0<=dR b/\dR b<base)/\okD (base:Int) l=hJ:=by unfold okD at ho⊢;simp_all
  obtain⟨⟨h0,h1⟩,h2⟩:=ho';have hm:((v*base+(dR b).toNat:Nat):Int)=(v:Int)*(base:Int)+dR b:=by grind
  have e3:sg base v (b::l)=sg base (v*base+(dR b).toNat) l:=by unfold sg;rw[ho,h2];rfl
  simp[rz];rw[qP (dR b) om,qP (9223372036854775808-dR b) om,agV _ _ om,e3];by_cases hx:(9223372036854775808-dR b) / (base:Int)<(v:Int)
  ·rw[eN hx];rw[div_lt om om om]at hx;have hge:=Yn base hb.1 l (v*base+(dR b).toNat);have:¬ th base (v*base+(dR b).toNat) l<=9223372036854775808:=om;simp[sg,h2,this,sm]
  ·have hx':=hx;rw[div_lt om om om]at hx';rw[sZ hx,qP ((v:Int)*(base:Int)) om,qP ((v:Int)*(base:Int)+dR b) om,<-hm];exact WK base hb l _ h2 om
theorem akW(base:Nat)(h:1<=base)(t:Bs):sg base 0 (48::t)=sg base 0 t:=by
 have e1:okD (base:Int) (48::t)=okD (base:Int) t:=by unfold okD;rw[UT,show dR 48=0 from rfl,eN om,eN om];rfl
 have e2:th base 0 (48::t)=th base 0 t:=by unfold th;rw[v7,show dR 48=0 from rfl];simp
 unfold sg;rw[e1,e2]
theorem aiW(s:Bs)(h0:s≠[]):p5 s=cond ((kJ s).2==[]) (0,6) (sg (kJ s).1 0 (kJ s).2):=by
 match s,h0 with
 | [a],_=>
  unfold p5 tE kJ;have p1:([48,120]:Bs).isPrefixOf [a]=eQ:=by simp[List.isPrefixOf]
  have p2:([48,88]:Bs).isPrefixOf [a]=eQ:=by simp[List.isPrefixOf]
  rw[p1,p2];have p3:([48]:Bs).isPrefixOf [a]=((a.toNat:Int)==48):=by
   rw[tH];simp;constructor
   ·rintro rfl;rfl
   ·intro h;exact(ofNat_eq de (by simpa using h)).symm
  rw[p3];cases ha:((a.toNat:Int)==48)with
  | false=>rfl|true=>obtain rfl:=ofNat_eq de ha;rfl
 | a::b::t,_=>
  unfold p5 tE kJ;simp;have p1:([48,120]:Bs).isPrefixOf (a::b::t)=(((a.toNat:Int)==48)&&((b.toNat:Int)==120)):=by
   rw[tH];simp;constructor
   ·rintro⟨rfl,rfl⟩;exact⟨rfl,rfl⟩
   ·rintro⟨h1,h2⟩;exact⟨(ofNat_eq de (by simpa using h1)).symm,(ofNat_eq de (by simpa using h2)).symm⟩
  have p2:([48,88]:Bs).isPrefixOf (a::b::t)=(((a.toNat:Int)==48)&&((b.toNat:Int)==88)):=by
   rw[tH];simp;constructor
   ·rintro⟨rfl,rfl⟩;exact⟨rfl,rfl⟩
   ·rintro⟨h1,h2⟩;exact⟨(ofNat_eq de (by simpa using h1)).symm,(ofNat_eq de (by simpa using h2)).symm⟩
  have p3:([48]:Bs).isPrefixOf (a::b::t)=((a.toNat:Int)==48):=by
   rw[tH];simp;constructor
   ·rintro rfl;rfl
   ·intro h;exact(ofNat_eq de (by simpa using h)).symm
  rw[p1,p2,p3];have hl1:eK (1<(Ts (a::b::t):Int))=hJ:=by simp;omega
  cases ha:((a.toNat:Int)==48)with
  | false=>simp|true=>
   obtain rfl:=ofNat_eq de ha;simp;cases hx:(((b.toNat:Int)==120)||((b.toNat:Int)==88))with
   | false=>simp_all[TK,aJ,akW]|true=>
    cases t with
    | nil=>
     simp only[Mf]at hx;rcases hx with hx|hx
     ·obtain rfl:=ofNat_eq de hx;rfl
     ·obtain rfl:=ofNat_eq de hx;rfl
    | cons c t=>grind
theorem akX(F:Nat)(s:Bs)(h0:s≠[])(hF:Ts s<F)(hl:Ts s<=1000000):
  mU F s=iN (p5 s):=by
 have hpos:=Bn.2 h0;have hb:(1<=(kJ s).1/\(kJ s).1<=16)/\(kJ s).2.length<=Ts s:=by unfold kJ;grind
 rw[aiW s h0];unfold mU wx
 have S2:((cond (eK (2<(Ts s:Int)))
   (rq (eK (0<(Ts s:Int))) (iN (((s.getD 0 0).toNat:Int)==48)))
   (iN eQ):O Bool).bind λx2=>
   (cond x2
   (rq (eK (1<(Ts s:Int))) (cond (((s.getD 1 0).toNat:Int)==120)
   (iN hJ)
   (rq (eK (1<(Ts s:Int))) (iN (((s.getD 1 0).toNat:Int)==88)))))
   (iN eQ):O Bool).bind λx3=>
   cond x3
   (rq ((eK (2<=(Ts s:Int)))&&(eK ((Ts s:Int)<=(Ts s:Int)))) (iN (sl s 2 (Ts s:Int),(16:Int))))
   ((cond (eK (1<(Ts s:Int)))
   (rq (eK (0<(Ts s:Int))) (iN (((s.getD 0 0).toNat:Int)==48)))
   (iN eQ):O Bool).bind λx4=>
   cond x4
   (rq ((eK (1<=(Ts s:Int)))&&(eK ((Ts s:Int)<=(Ts s:Int)))) (iN (sl s 1 (Ts s:Int),8)))
   (iN (s,10))):O (Bs×Int))=iN ((kJ s).2,((kJ s).1:Int)):=by
  have s2:sl s 2 (Ts s:Int)=s.drop 2:=by unfold sl;simp
  have s1:sl s 1 (Ts s:Int)=s.drop 1:=by unfold sl;simp
  rw[show eK (0<(Ts s:Int))=hJ from eN om,show eK (1<=(Ts s:Int))=hJ from eN om,show eK ((Ts s:Int)<=(Ts s:Int))=hJ from eN om,s1,s2];unfold kJ;by_cases h2:2<(Ts s:Int)
  ·rw[eN h2,show eK (1<(Ts s:Int))=hJ from eN om,show eK (2<=(Ts s:Int))=hJ from eN om];cases (((s.getD 0 0).toNat:Int)==48)<;>cases (((s.getD 1 0).toNat:Int)==120)<;>cases (((s.getD 1 0).toNat:Int)==88)<;>rfl
  ·rw[sZ h2];cases eK (1<(Ts s:Int))<;>cases (((s.getD 0 0).toNat:Int)==48)<;>rfl
 rw[S2];simp only[aE];obtain⟨hb,hlen⟩:=hb;generalize(kJ s).2=l at hlen⊢;generalize(kJ s).1=base at hb⊢;cases (l==[])with
 | true=>rfl|false=>
  cases hok:okD (base:Int) l with
  | false=>
   have hr:sg base 0 l=(0,6):=by unfold sg;rw[hok];rfl
   ·refine Qn (l:=l) (λi=>(i:Int)) (λi rc h=>?_) l.length 0 F om om (by rw[TF];exact hok);simp only[yZ h,C3,wS,ir,gd h,bH (i:=i) om,vT];grind
  | true=>
   have h1:=WK base hb l 0 hok om;refine JJ (λi=>(i:Int)) l.length om rfl ?_ ?_
   ·intro i rc h;have hi:(eK (0<=dR l[i])&&eK (dR l[i]<(base:Int)))=hJ:=by unfold okD at hok;simp_all
    simp only[yZ h,C3,ir,cg,gd h,bH (i:=i) om,vT,aE,aiV (base:=(base:Int)) om,hi];rfl
   ·intro rc;simp only[Ij,aJ];rw[<-h1];refine sR l (λi (t:Int)=>(t,(i:Int))) _ _ om rfl ?_ ?_
    ·intro i h t rc;have hi:(eK (0<=dR l[i])&&eK (dR l[i]<(base:Int)))=hJ:=by unfold okD at hok;simp_all
     have hw:=qP (base:Int) om;have hz:(!((base:Int)==0))=hJ:=by simp;omega
     have hv:cond (eK ((base:Int)<=dR l[i])) (-1) (dR l[i])=dR l[i]:=by grind
     simp only[yZ h,C3,ir,cg,gd h,bH (i:=i) om,vT,aE,hw,hz,hv];generalize eK (dO .u64 (Int.tdiv (dO .u64 (9223372036854775808-(dO .u64 (dR l[i])))) (base:Int))<t)=c;cases c<;>rfl
    simp_all
theorem auc(b:UInt8)(h:dg b=eQ):dR b<0\/10<=dR b:=by unfold dR;grind
theorem anv(b:UInt8)(t:Bs)(h:dg b=eQ):p5 (b::t)=(0,6):=by
 have hne:((48:UInt8)==b)=eQ:=by rw[iu];intro e;subst e;exact absurd h de
 unfold p5 tE;have p1:([48,120]:Bs).isPrefixOf (b::t)=eQ:=by grind
 have p2:([48,88]:Bs).isPrefixOf (b::t)=eQ:=by grind
 have p3:([48]:Bs).isPrefixOf (b::t)=eQ:=by grind
 rw[p1,p2,p3];simp;have ho:okD ((10:Nat):Int) (b::t)=eQ:=by unfold okD;rw[UT,UU];rw[UU];simp_all[auc]
 unfold sg;rw[ho];rfl
theorem akY(F:Nat)(s:Bs)(hF:Ts s<F)(hl:Ts s<=1000000):yK F s=iN (p5 s):=by
 unfold yK wx;cases s with
 | nil=>rfl|cons b t=>have hp:eK (0<(Ts (b::t):Int))=hJ:=eN (by simp_all);have hne:((b::t)==[])=eQ:=rfl;rw[akX F (b::t) si hF hl];simp[hne,ir];cases hd:dg b with|true=>unfold dg gu at hd;grind|false=>grind[anv,Bool.and_eq_false_iff,decide_eq_false_iff_not,decide_eq_true,decide_eq_false]
theorem aiX(s:Bs):((p5 s).2=0/\0<=(p5 s).1/\(p5 s).1<=9223372036854775808)\/(p5 s).2=6\/(p5 s).2=14:=by unfold p5;cases ((tE s).2==[])with|true=>exact .inr (.inl rfl)|false=>unfold sg;grind
abbrev Env:=J (Bs×Bs)
def Bk(m:Env)(k:Bs):dh:=⟨k,fX dc m k []⟩
def uG(m:Env):J dh:=(rS (m.map (·.1))).map (Bk m)
def Nd(m:Env):Prop:=(m.map (·.1)).Nodup
def Pc(l:J dh):Prop:=l.Pairwise λx y=>x.fName<y.fName
variable{m:Env}
def Yo(h:Nd m):Pc (uG m):=List.pairwise_map.2 ((Ze h).imp λh=>h)
theorem DP(m:Env)(x:dh):x∈uG m↔∃k,k∈m.map (·.1)/\x=Bk m k:=by unfold uG;grind[uW]
theorem Yp(m:Env):(uG m).length=m.length:=by unfold uG;rw[jh,(uW _).length_eq,jh]
def xP(k v:Bs):J dh->Bool->J dh|[],put=>cond put [] [⟨k,v⟩]|x::l,put=>cond (!put && !(pD x.fName k)) [⟨k,v⟩] []++(cond (x.fName==k) [] [x]++xP k v l (put || !(pD x.fName k)))
def Sf(k v:Bs)(t:J dh×Bool)(x:dh):J dh×Bool:=(t.1++(cond (!t.2 && !(pD x.fName k)) [⟨k,v⟩] []++cond (x.fName==k) [] [x]),t.2 || !(pD x.fName k))
theorem WL(k v:Bs):∀(l:J dh)(t:J dh×Bool),(l.foldl (Sf k v) t).1++cond (l.foldl (Sf k v) t).2 [] [⟨k,v⟩]=t.1++xP k v l t.2|[],t=>rfl|x::l,t=>by rw[v7,WL k v l];simp[Sf,xP]
theorem bind_eq(F:Nat)(l:J dh)(k v:Bs)(hF:Ts l<F)(hl:Ts l<=1000000):Ch F l k v=iN (xP k v l eQ):=by
 refine Ek l (λi (t:J dh×Bool)=>(t.1,t.2,(i:Int))) (Sf k v) (λi t=>Ts t.1<=2*i) (t:=([],eQ)) hF rfl si ?_ ?_ ?_
 ·intro i h t rc hI;simp only[yZ h,C3,wS,ir,cg,gd h,bH (i:=i) om,Sf];rw[dD aR om];cases t.2<;>cases pD l[i].fName k<;>cases (l[i].fName==k)<;>
   simp only[aU,aJ,aE,ia,qm,Kn,UX,Bool.or_true,aa5,TL,pN,tI]
  all_goals (try rw[dD aR om])
 ·simp[Sf];grind
 ·intro rc hI;have hb:=WL k v l ([],eQ);simp only[Ij,aJ];rw[dD aR om];grind
theorem DQ(k v:Bs):∀(l:J dh)(put:Bool)(x:dh),x∈xP k v l put↔(put=eQ/\x=⟨k,v⟩)\/(x∈l/\x.fName≠k)
 | [],put,x=>by cases put<;>simp[xP]
 | y::l,put,x=>by
  have e1:∀c:Bool,x∈(cond c [⟨k,v⟩] []:J dh)↔c=hJ/\x=⟨k,v⟩:=λc=>by cases c<;>simp
  have e2:x∈(cond (y.fName==k) [] [y]:J dh)↔x=y/\y.fName≠k:=by cases h:(y.fName==k)with|true=>simp[eq_of_beq h]|false=>rw[iu]at h;simp[h]
  simp[xP,DQ k v l,e1,e2];constructor
  ·rintro (⟨h1,h2⟩|⟨rfl,h2⟩|⟨h1,h2⟩|⟨h1,h2⟩)
   ·left;exact⟨by cases put<;>simp_all,h2⟩
   ·right;exact⟨.inl rfl,h2⟩
   ·left;exact⟨by cases put<;>simp_all,h2⟩
   ·right;exact⟨.inr h1,h2⟩
  ·rintro (⟨rfl,h2⟩|⟨rfl|h1,h2⟩)
   ·cases pD y.fName k
    ·left;simp[h2]
    ·right;right;left;simp[h2]
   ·right;left;exact⟨rfl,h2⟩
   ·right;right;right;exact⟨h1,h2⟩
theorem Ip{k v:Bs}:∀ {l:J dh}{put:Bool},Pc l->(put=hJ->∀x,x∈l->k<x.fName)->Pc (xP k v l put)
 | [],put,_,_=>by cases put<;>simp[xP,Pc]
 | y::l,put,h,hp=>by
  obtain⟨h1,h2⟩:=zg.1 h;unfold xP;cases put with
  | true=>
   have hn:(y.fName==k)=eQ:=by grind
   simp[ia,hn];refine zg.2 ⟨λx hx=>?_,Ip h2 λ_ x hx=>hp rfl x (kV _ hx)⟩;simp_all[DQ]
  | false=>
   rcases Wz y.fName k with hlt|he|hgt
   ·have e1:=(Mw _ _).2 hlt;have hn:(y.fName==k)=eQ:=by grind
    simp[e1,hn];refine zg.2 ⟨λx hx=>?_,Ip h2 λe=>by cases e⟩;grind[DQ]
   ·have e1:pD y.fName k=eQ:=(EH _ _).2 (by simp_all);have hn:(y.fName==k)=hJ:=by rw[uL];exact he
    simp[e1,hn];refine zg.2 ⟨λx hx=>?_,Ip h2 λ_ x hx=>by simp_all⟩;simp_all[DQ]
   ·have e1:=(EH _ _).2 λh'=>nD _ (sM h' hgt);have hn:(y.fName==k)=eQ:=by grind
    simp[e1,hn];have eS:∀x,x∈xP k v l hJ->y.fName<x.fName:=λx hx=>by simp_all[DQ]
    refine zg.2 ⟨λx hx=>?_,zg.2 ⟨eS,Ip h2 λ_ x hx=>sM hgt (h1 x hx)⟩⟩;grind
theorem agm(h:Nd m)(k v:Bs):uG (jM dc m k v)=xP k v (uG m) eQ:=by
 refine RE (Yo (WA h k v)) (Ip (Yo h) λe=>by cases e) λx=>?_;rw[DQ,DP,DP];constructor
 ·rintro⟨q,hq,rfl⟩;by_cases hk:q=k
  ·left;unfold Bk;simp_all[uB,HB]
  ·rcases(Ai ..).1 hq with e|hq
   ·exact absurd e hk
   ·unfold Bk;grind[uB,beq_eq_false_iff_ne]
 ·rintro (⟨_,rfl⟩|⟨⟨q,hq,rfl⟩,hk⟩)
  ·refine⟨k,(Ai ..).2 (.inl rfl),?_⟩;unfold Bk;simp_all[uB,HB]
  ·have hk:¬ q=k:=hk;refine⟨q,(Ai ..).2 (.inr hq),?_⟩;unfold Bk;grind[uB,beq_eq_false_iff_ne]
def abC(l:J dh)(k:Bs):Bs:=match l.reverse.find? (λx=>x.fName==k)with|some x=>x.cj|none=>[]
theorem adK(k:Bs):∀l:J dh,rz (λ_ (x:dh)=>cond (x.fName==k) (iN (.inr x.cj)) (iN (.inl ()))) (λ_=>iN []) l ()=iN (match l.find? (λx=>x.fName==k)with|some x=>x.cj|none=>[])
 | []=>rfl|x::l=>by
  simp[rz,OQ];cases (x.fName==k)
  ·exact adK k l
  ·rfl
theorem Qo(F:Nat)(l:J dh)(k:Bs)(hF:Ts l<F)(hl:Ts l<=1000000):rB F l k=iN (abC l k):=by
 unfold rB abC wx;rw[<-adK];refine sR l.reverse (λi (_:Unit)=>((Ts l:Int)-1-(i:Int))) _ _ (by simpa using hF) ?_ ?_ ?_
 ·grind[bL]
 ·intro i h t rc;have hi:i<Ts l:=by simpa using h
  have e:(Ts l:Int)-1-(i:Int)=((Ts l-1-i:Nat):Int):=om;have hj:Ts l-1-i<Ts l:=om;have hw:aD (((Ts l-1-i:Nat):Int)-1)=(Ts l:Int)-1-((i+1:Nat):Int):=by grind[bL]
  simp only[e,yZ hj,cg,gd hj,hw,List.getElem_reverse];cases (l[Ts l-1-i].fName==k)<;>rfl
 grind
theorem Qp(m:Env)(k:Bs):abC (uG m) k=fX dc m k []:=by
 unfold abC;cases h:(uG m).reverse.find? (λx=>x.fName==k)with
 | some x=>
  have h1:=UP h;have h2:=aa9 h;rw[List.mem_reverse,DP]at h1;obtain⟨q,hq,rfl⟩:=h1;have:q=k:=by simpa[Bk]using h2
  subst this;rfl
 | none=>
  rcases Na m k ([]:Bs)with⟨p,hp,h1,h2⟩|⟨_,h2⟩
  ·have:=List.find?_eq_none.1 h (Bk m k) (by grind[DP]);simp[Bk]at this
  ·exact h2.symm
structure Eo(c:Nat)(m:Env):Prop where
 nd:Nd m
 len:m.length<=c
 sz:∀p,p∈m->Ts p.1<=60/\p.2.length<=4096
variable{c:Nat}
theorem Eo.mono{d:Nat}(h:Eo c m)(hd:c<=d):Eo d m:=⟨h.nd,lG h.len hd,h.sz⟩
theorem Eo.set(h:Eo c m){k v:Bs}(hk:Ts k<=60)(hv:Ts v<=4096):Eo (c+1) (jM dc m k v):=
 ⟨WA h.nd k v,lG (anj m k v) (by have:=h.len;omega),λp hp=>by
  rcases Us hp with rfl|hp
  ·exact⟨hk,hv⟩
  ·exact h.sz p hp⟩
theorem Eo.get(h:Eo c m)(k:Bs):(fX dc m k []).length<=4096:=by
 rcases Na m k ([]:Bs)with⟨p,hp,_,h2⟩|⟨_,h2⟩
 ·rw[<-h2];exact(h.sz p hp).2
 ·rw[h2];simp
def vh(l:J dh):Env:=l.foldl (λm b=>jM dc m b.fName b.cj) []
theorem Uu{c:Nat}:∀(l:J dh)(m:Env),Eo c m->(∀b,b∈l->Ts b.fName<=60/\b.cj.length<=4096) ->
  Eo (c+Ts l) (l.foldl (λm b=>jM dc m b.fName b.cj) m)/\uG (l.foldl (λm b=>jM dc m b.fName b.cj) m)=l.foldl (λo b=>xP b.fName b.cj o eQ) (uG m)
 | [],m,h,_=>⟨h,rfl⟩|b::l,m,h,hb=>by have h1:=h.set (hb b si).1 (hb b si).2;obtain⟨h2,h3⟩:=Uu l _ h1 λb hm=>hb b (kV _ hm);refine⟨h2.mono aR,?_⟩;rw[v7,v7,h3,agm h.nd]
theorem akZ:Eo 0 []:=⟨by simp[Nd],si,si⟩
theorem ap3:uG []=[]:=by have:=uW ([]:J Bs);simp at this;simp[uG,this]
variable{l:J dh}
theorem Iq(h:∀b,b∈l->Ts b.fName<=60/\b.cj.length<=4096):Eo l.length (vh l):=by have:=(Uu l [] akZ h).1;rw[rX]at this;exact this
theorem adL(k v:Bs):∀(l:J dh)(put:Bool),Ts (xP k v l put)<=Ts l+cond put 0 1
 | [],put=>by cases put<;>simp[xP]
 | x::l,put=>by have h1:=adL k v l (put || !(pD x.fName k));simp[xP];generalize pD x.fName k=b at h1⊢;cases put<;>cases b<;>cases (x.fName==k)<;>simp at h1⊢ <;> omega
theorem ak0(F:Nat)(l:J dh)(hF:Ts l<F)(hl:Ts l<=1000)(h:∀b,b∈l->Ts b.fName<=60/\b.cj.length<=4096):Ir F l=iN (uG (vh l)):=by
 refine Ek l (λi (t:J dh)=>(t,(i:Int))) (λo b=>xP b.fName b.cj o eQ) (λi t=>Ts t<=i) hF rfl si ?_ ?_ ?_
 ·intro i h t rc hI;simp only[yZ h,C3,wS,ir,bH (i:=i) om];grind[bind_eq]
 ·grind[adL]
 ·intro rc hI;simp;have:=(Uu l [] akZ h).2;rw[ap3]at this;unfold vh;rw[this]
theorem aud(h:Eo c m)(hc:c<=1000000)(F:Nat):skF F m=iN (rS (m.map (·.1))):=by unfold skF;have h1:(m.all λp=>eK (Ts p.1<=9223372036854775807))=hJ:=pP.2 λp hp=>eN (by have:=(h.sz p hp).1;omega);rw[h1,eN (by have:=h.len;omega)];rfl
def ij(x:Int):Prop:=-9223372036854775808<=x/\x<=9223372036854775807
theorem uf(x:Int):ij (aD x):=by show ij (if (hJ&&eK (x%(2^64:Int)>=(2^63:Int)))=hJ then x%(2^64:Int)-(2^64:Int)else x%(2^64:Int));unfold ij;grind
theorem aoV(b:Int):ny .i64 b 63=b%64:=by
 rw[XW];have h:(W0 64 b &&& W0 64 63).toNat=(b%64).toNat:=by
  rw[BitVec.toNat_and];have h63:(W0 64 63).toNat=2^6-1:=by decide
  rw[h63,Nat.and_two_pow_sub_one_eq_mod,BitVec.toNat_ofInt];grind
 show aD (((W0 64 b &&& W0 64 63).toNat:Nat):Int)=_;grind[bL]
theorem not_eq{a:Int}(h:ij a):XU .i64 a=aD ((aD (0-a))-1):=by
 unfold ij at h;have h1:(W0 64 (-1) ^^^ W0 64 a) = ~~~ W0 64 a:=by rw[show W0 64 (-1)=BitVec.allOnes 64 from rfl,BitVec.allOnes_xor]
 rw[XX];show aD (((W0 64 (-1) ^^^ W0 64 a).toNat:Nat):Int)=_;rw[h1,BitVec.toNat_not,BitVec.toNat_ofInt];by_cases h0:a=-9223372036854775808
 ·subst h0;decide
 ·rw[bL (x:=0-a) om,bL (x:=0-a-1) om];by_cases hn:0<=a
  ·have e1:a%((2^64:Nat):Int)=a:=Int.emod_eq_of_lt hn om;rw[e1];have e2:((2^64-1-a.toNat:Nat):Int)=18446744073709551615-a:=om;rw[e2];unfold aD dO;have e3:(18446744073709551615-a)%(2^IntKind.i64.bits:Int)=18446744073709551615-a:=Int.emod_eq_of_lt om (by show _<(18446744073709551616:Int);omega);simp only[e3];show(if (hJ&&eK ((18446744073709551615-a)>=(2^63:Int)))=hJ then(18446744073709551615-a)-(2^64:Int)else 18446744073709551615-a)=_;grind
  grind[bL]
theorem anw{a:Int}(b:Int)(h:ij a):ij (XS .i64 a b):=by
 unfold ij at h⊢;rw[af3];generalize min b.toNat IntKind.i64.bits=k;have hp:(0:Int)<2^k:=Int.pow_pos de;rw[Int.fdiv_eq_ediv_of_nonneg _ om];by_cases h0:0<=a
 ·have h1:=Int.ediv_nonneg h0 (show(0:Int)<=2^k by omega);have h2:=Int.ediv_le_self (b:=2^k) h0;omega
 ·have h1:a<=a / 2^k:=by apply Int.le_ediv_of_mul_le hp;have:=Int.mul_le_mul_of_nonpos_left (a:=a) (b:=2^k) (c:=1) om om;omega
  have h2:a / 2^k<0:=Int.ediv_neg_of_neg_of_pos om hp;omega
theorem anx{a:Int}(b:Int)(h:ij a):ij (Int.tmod a b):=by
 unfold ij at h⊢;by_cases h0:0<=a
 ·have h2:(Int.tmod a b).natAbs<=a.natAbs:=by simp_all[Int.natAbs_tmod,Nat.mod_le]
  omega
 ·have h1:Int.tmod a b=- Int.tmod (-a) b:=by rw[Int.neg_tmod];omega
  have h3:=Int.tmod_nonneg (a:=-a) b om;have h2:(Int.tmod (-a) b).natAbs<=(-a).natAbs:=by simp_all[Int.natAbs_tmod,Nat.mod_le]
  omega
def tr(b:Bool):Int:=cond b 1 0
theorem ak1(b:Bool):ij (tr b):=by cases b<;>simp[tr,ij]
theorem N4(F:Nat)(b:Bool):yL F b=iN (tr b):=by cases b<;>rfl
theorem Ci(F:Nat)(b:Bool):zS F b=iN (tr b):=by cases b<;>rfl
def cUn(op a:Int):Int:=cond (op==3) (aD (0-a)) (cond (op==5) (tr (a==0)) (cond (op==6) (XU .i64 a) a))
def adM(op a b:Int):Bool:=cond (op==14) (eK (a<b)) (cond (op==15) (eK (b<a)) (cond (op==16) (eK (a<=b)) (cond (op==17) (eK (b<=a)) (cond (op==18) (a==b) (a != b)))))
def vi(op a b:Int):Int×Int:=
 cond (op==7) (aD (a*b),0) (cond (op==8||op==9) (cond (b==0) (0,13) (cond (op==8) (aD (Int.tdiv a b),0) (Int.tmod a b,0)))
  (cond (op==10) (aD (a+b),0) (cond (op==11) (aD (a-b),0) (cond (op==12) (acr .i64 a (ny .i64 b 63),0) (cond (op==13) (XS .i64 a (ny .i64 b 63),0)
   (cond (op==20) (ny .i64 a b,0) (cond (op==21) (Ud .i64 a b,0) (cond (op==22) (Tc .i64 a b,0) (cond (op==23) (tr (a != 0&&b != 0),0) (cond (op==24) (tr (a != 0||b != 0),0) (tr (adM op a b),0)))))))))))
theorem anz(a:Int):ij (XU .i64 a):=by rw[XX];exact uf _
theorem anA(a b:Int):ij (ny .i64 a b):=by rw[XW];exact uf _
theorem ap4(a b:Int):ij (Tc .i64 a b):=by rw[akg];exact uf _
theorem anB(a b:Int):ij (Ud .i64 a b):=by rw[af4];exact uf _
theorem ap5(op:Int){a:Int}(h:ij a):ij (cUn op a):=by unfold cUn;grind[uf,ak1,anz]
theorem Nf(op:Int){a b:Int}(h:ij a)(h':ij b):ij (vi op a b).1:=by
 unfold vi;cases (op==7)with|true=>exact uf _|false=>
 cases (op==8||op==9)with|true=>grind[uf,anx]|false=>
 cases (op==10)with|true=>exact uf _|false=>
 cases (op==11)with|true=>exact uf _|false=>
 cases (op==12)with|true=>exact uf _|false=>
 grind[anw,anA,anB,ap4,ak1]
theorem adN(b:Int):eK (0<=ny .i64 b 63)=hJ:=eN (by rw[aoV];omega)
theorem ap6(b:Int):dO .u64 (ny .i64 b 63)=ny .i64 b 63:=qP _ (by rw[aoV];omega)
theorem aiY(F:Nat)(op a b:Int):Cj F op a b=iN (adM op a b):=by unfold Cj adM wx;grind
theorem anC(F:Nat)(op a b:Int):Ep F op a b=iN (adM op a b):=by unfold Ep adM wx;grind
theorem anD(F:Nat)(op a:Int):GC F op a=iN (cUn op a):=by unfold GC cUn wx;grind[N4]
theorem ass(F:Nat)(op:Int){a:Int}(h:ij a):JO F op a=iN (cUn op a):=by unfold JO cUn wx;grind[Ci,not_eq]
theorem ZV(F:Nat)(op a b:Int):vU F op a b=iN (vi op a b):=by
 unfold vU vi wx;simp[N4,aiY,adN,ir];cases h7:(op==7)with|true=>rfl|false=>
 cases h8:(op==8)with
 | true=>simp;cases hb:(b==0)<;>rfl
 | false=>
 cases h9:(op==9)with
 | true=>simp;cases hb:(b==0)<;>rfl
 | false=>
 grind
theorem ak2(F:Nat)(op a b:Int)(h:op≠23)(h':op≠24):E2 F op a b=iN (vi op a b):=by
 have e1:(op==23)=eQ:=by simp_all
 have e2:(op==24)=eQ:=by simp_all
 unfold E2 vi wx;simp[Ci,anC,ap6,adN,ir];by_cases k7:op=7
 ·subst k7;rfl
 have h7:(op==7)=eQ:=by simp_all
 rw[h7];cases h8:(op==8)with
 | true=>simp;cases hb:(b==0)<;>rfl
 | false=>
 cases h9:(op==9)with
 | true=>simp;cases hb:(b==0)<;>rfl
 | false=>
 grind
def rT(s:Bs):Bs:=cond ((((s.getD 0 0).toNat:Int)==45)||(((s.getD 0 0).toNat:Int)==43)) (s.drop 1) s
def vj(s:Bs):Int×Bool:=
 cond (s==[]) (0,hJ) (cond ((p5 (rT s)).2 != 0||((p5 (rT s)).1==9223372036854775808 && !(((s.getD 0 0).toNat:Int)==45))) (0,eQ)
  (cond (((s.getD 0 0).toNat:Int)==45) (aD (dO .u64 (0-(p5 (rT s)).1)),hJ) (aD (p5 (rT s)).1,hJ)))
theorem Ng(s:Bs):ij (vj s).1:=by unfold vj;cases (s==[])<;>cases ((p5 (rT s)).2 != 0||((p5 (rT s)).1==9223372036854775808 && !(((s.getD 0 0).toNat:Int)==45)))<;>cases (((s.getD 0 0).toNat:Int)==45)<;>first|exact uf _|exact(show ij 0 by unfold ij;decide)
theorem adO(s:Bs):(rT s).length<=Ts s:=by unfold rT;grind
theorem aiZ(F:Nat)(s:Bs)(hF:Ts s<F)(hl:Ts s<=1000000):Ck F s=iN (vj s):=by
 unfold Ck vj wx;cases hs:(s==[])with
 | true=>rfl|false=>
  have hp:0<Ts s:=by grind
  have e0:eK (0<(Ts s:Int))=hJ:=eN om;have e1:(eK (1<=(Ts s:Int))&&eK ((Ts s:Int)<=(Ts s:Int)))=hJ:=by grind
  have e2:sl s 1 (Ts s:Int)=s.drop 1:=by unfold sl;simp
  have et:((cond (((s.getD 0 0).toNat:Int)==45) (iN hJ) (iN (((s.getD 0 0).toNat:Int)==43)):O Bool).bind λx2=>cond x2 (iN (s.drop 1)) (iN s):O Bs)=iN (rT s):=by unfold rT;grind
  simp only[e0,e1,ir];grind[adO,asq]
theorem ZW(F:Nat)(s:Bs)(hF:Ts s<F)(hl:Ts s<=1000000):zT F s=iN (vj s):=by
 unfold zT vj wx;cases hs:(s==[])with
 | true=>rfl|false=>
  have hp:0<Ts s:=by grind
  have e0:eK (0<(Ts s:Int))=hJ:=eN om;have e1:(eK (1<=(Ts s:Int))&&eK ((Ts s:Int)<=(Ts s:Int)))=hJ:=by grind
  have e2:sl s 1 (Ts s:Int)=s.drop 1:=by unfold sl;simp
  have et:((cond (((s.getD 0 0).toNat:Int)==45) (iN hJ) (iN (((s.getD 0 0).toNat:Int)==43)):O Bool).bind λx2=>cond x2 (iN (s.drop 1)) (iN s):O Bs)=iN (rT s):=by unfold rT;grind
  simp only[e0,e1,e2,ir,et,aE];have:=adO s;rw[akY F (rT s) om om];have key:∀(neg:Bool),(cond ((p5 (rT s)).2 != 0) hJ (eK ((cond neg 9223372036854775808 9223372036854775807:Int)<(p5 (rT s)).1)))=((p5 (rT s)).2 != 0||((p5 (rT s)).1==9223372036854775808 && !neg)):=by
   intro neg;rcases aiX (rT s)with⟨h,h0,h1⟩|h|h
   ·grind
   ·rw[h];rfl
   ·rw[h];rfl
  rw[<-key];grind
abbrev Rs:=Int×Int×Env
def Qq(n:Int)(name:Bs)(x:Rs):Rs:=
 cond (n != 0)
  (cond (!(vj (fX dc x.2.2 name [])).2) (0,1,x.2.2)
   (cond ((vi n (vj (fX dc x.2.2 name [])).1 x.1).2 != 0) (0,(vi n (vj (fX dc x.2.2 name [])).1 x.1).2,x.2.2)
    ((vi n (vj (fX dc x.2.2 name [])).1 x.1).1,0,jM dc x.2.2 name (Lib.itoa (vi n (vj (fX dc x.2.2 name [])).1 x.1).1))))
  (x.1,0,jM dc x.2.2 name (Lib.itoa x.1))
def KM(name:Bs)(m:Env):Rs:=cond (!(vj (fX dc m name [])).2) (0,1,m) ((vj (fX dc m name [])).1,0,m)
def adP(op:Int)(x y:Rs):Rs:=cond (y.2.1 != 0) (0,y.2.1,y.2.2) ((vi op x.1 y.1).1,(vi op x.1 y.1).2,y.2.2)
def dK:Env->Rs:=λm=>(0,0,m)
def evB(op n:Int)(name:Bs)(ks:J (Env->Rs))(m:Env):Rs:=
 cond (op==1) (n,0,m) (cond (op==2) (KM name m)
  (cond ((ks.getD 0 dK m).2.1 != 0) (0,(ks.getD 0 dK m).2.1,(ks.getD 0 dK m).2.2)
   (cond (op==26) (Qq n name (ks.getD 0 dK m))
    (cond (eK (3<=op)&&eK (op<=6)) (cUn op (ks.getD 0 dK m).1,0,(ks.getD 0 dK m).2.2)
     (cond (op==25) (cond ((ks.getD 0 dK m).1 != 0) (ks.getD 1 dK (ks.getD 0 dK m).2.2) (ks.getD 2 dK (ks.getD 0 dK m).2.2))
      (cond (op==23&&(ks.getD 0 dK m).1==0) (0,0,(ks.getD 0 dK m).2.2)
       (cond (op==24&&(ks.getD 0 dK m).1 != 0) (1,0,(ks.getD 0 dK m).2.2)
        (adP op (ks.getD 0 dK m) (ks.getD 1 dK (ks.getD 0 dK m).2.2)))))))))
mutual
def mu:d5->Env->Rs|.mk op n name kids=>evB op n name (evL kids)
def evL:J d5->J (Env->Rs)|[]=>[]|k::l=>mu k::evL l
end
theorem agn:∀l,evL l=l.map mu|[]=>rfl|k::l=>by simp[evL,agn l]
theorem WM(e:d5):mu e=evB e.fOp e.fN e.fName (e.fKids.map mu):=by cases e;rw[<-agn];rfl
theorem GD(l:J d5)(i:Nat)(h:i<Ts l):(l.map mu).getD i dK=mu (l.getD i dJ):=by simp[h]
theorem yM(h:ij n):(Lib.itoa n).length<=60:=by
 have key:∀(k u:Nat),u<10^(k+1)->Ts (Lib.decDigits u)<=k+1:=by
  intro k
  induction k with
  | zero=>intro u hu;rw[Lib.decDigits_one (by simpa using hu)];simp|succ k ih=>
   intro u hu;by_cases h9:u<10
   ·grind
   ·rw[Lib.decDigits.eq_1 u];grind
 unfold ij at h;unfold Lib.itoa;split
 ·have:=key 20 n.natAbs om;simp;omega
 ·have:=key 20 n.toNat om;omega
theorem adQ(F:Nat)(h:ij n):qy F n=iN (Lib.itoa n):=by unfold qy;unfold ij at h;simp_all[cE,eN]
theorem afw(F:Nat)(hF:30<=F)(h0:-9223372036854775808<=n)(h1:n<0):dV F n=iN (Lib.itoa n):=by
 unfold dV xM wx;obtain⟨u,hu⟩:∃u:Nat,n=-(u:Int):=⟨(-n).toNat,om⟩;have e1:aD (0-aD (n+1))=(u:Int)-1:=by grind[bL]
 have e2:dO .u64 ((dO .u64 ((u:Int)-1))+1)=(u:Int):=by rw[qP ((u:Int)-1) om,qP _ om];omega
 simp only[e1,e2];rw[KL 20 u F [] om om om si];rw[hu,Lib.itoa_neg u om];have hl:(Lib.decDigits u).length<=60:=by have:=yM (n:=-(u:Int)) ⟨om,om⟩;rw[Lib.itoa_neg u om]at this;simp at this;omega
 grind[ab3]
theorem LF(F:Nat)(hF:30<=F)(h:ij n):dV F n=iN (Lib.itoa n):=by
 by_cases h0:0<=n
 ·exact aiS F hF h0 h.2
 ·exact afw F hF h.1 om
theorem Good.okn(g:Good e):ij e.fN:=by obtain⟨v,o,m⟩:=g;cases o with|mk op n name kids a1 a2 a3 a4 a5=>exact aso a2
def Good.op(g:Good e):1<=e.fOp/\e.fOp<=26:=ano g.facts.1
theorem Good.GF(g:Good e)(h:i<Ts e.fKids):Good (e.fKids.getD i dJ)/\e.fKids.getD i dJ∈e.fKids:=by
 have hm:e.fKids.getD i dJ∈e.fKids:=by simp[h]
 exact⟨g.kid _ hm,hm⟩
theorem adR(h:i<Ts e.fKids):nodes (e.fKids.getD i dJ)<nodes e:=by
 have hm:e.fKids.getD i dJ∈e.fKids:=by simp[h]
 have:=JL hm;rw[Il e];omega
variable{j:Nat}
theorem JP{l:J d5}(hij:i<j)(hj:j<Ts l):nodes (l.getD i dJ)+nodes (l.getD j dJ)<=nE l:=by
 induction l generalizing i j with
 | nil=>simp at hj|cons k l ih=>
  cases j with
  | zero=>omega|succ j=>
   have hj':j<Ts l:=by simpa using hj
   cases i with
   | zero=>
    have hm:l.getD j dJ∈l:=by simp[hj']
    have:=JL hm;simp only[Rk,List.getD_cons_succ,nE];omega
   | succ i=>have:=ih (i:=i) om hj';simp only[List.getD_cons_succ,nE];omega
theorem Good.shape(g:Good e):(e.fOp=1)\/(e.fOp=2)\/((3<=e.fOp/\e.fOp<=6)/\e.fKids.length=1)\/((7<=e.fOp/\e.fOp<=24)/\e.fKids.length=2)\/(e.fOp=25/\e.fKids.length=3)\/(e.fOp=26/\e.fKids.length=1):=by have h1:=g.facts.1;have h2:=g.op;rcases anp h2 with h|h|h|h|h|h|h|h|h|h|h|h|h|h|h|h|h|h|h|h|h|h|h|h|h|h<;>rw[h]at h1<;>simp[qz]at h1<;>omega
theorem Qr:∀e,Good e->∀c m,Eo c m->Eo (c+nodes e) (mu e m).2.2/\ij (mu e m).1:=by
 apply Good.ind;intro e g ih c m hm;have z:ij 0:=by unfold ij;decide
 have one:ij 1:=by unfold ij;decide
 have aue:=hm.mono (show c<=c+nodes e by omega);rw[WM];unfold evB;cases h1:(e.fOp==1)with|true=>exact⟨aue,g.okn⟩|false=>
 cases h2:(e.fOp==2)with|true=>unfold KM;grind[fX,dc,Ng]|false=>
 simp only[iu]at h1 h2;have hl:0<Ts e.fKids:=by rcases g.shape with h|h|h|h|h|h<;>omega
 obtain⟨g0,m0⟩:=g.GF hl;obtain⟨i1,i2⟩:=ih _ m0 c m hm;have n0:=adR hl;rw[GD _ 0 hl];generalize hx:mu (e.fKids.getD 0 dJ) m=x at i1 i2⊢;have i1':=i1.mono (show c+nodes (e.fKids.getD 0 dJ)<=c+nodes e by omega);cases (x.2.1 != 0)with|true=>exact⟨i1',z⟩|false=>
 cases JK:(e.fOp==26)with
 | true=>
  unfold Qq;have hs:∀n:Int,ij n->Eo (c+nodes e) (jM dc x.2.2 e.fName (Lib.itoa n)):=λn hn=>(i1.set g.facts.2.2.2.1 (lG (yM hn) de)).mono om;cases (e.fN != 0)with
  | false=>exact⟨hs _ i2,i2⟩|true=>
   cases (!(vj (fX dc x.2.2 e.fName [])).2)with
   | true=>exact⟨i1',z⟩|false=>have hr:=Nf e.fN (Ng (fX dc x.2.2 e.fName [])) i2;cases ((vi e.fN (vj (fX dc x.2.2 e.fName [])).1 x.1).2 != 0)with|true=>exact⟨i1',z⟩|false=>exact⟨hs _ hr,hr⟩
 | false=>
 simp only[iu]at JK;cases h36:(eK (3<=e.fOp)&&eK (e.fOp<=6))with|true=>simp_all[ap5]|false=>
 have anE:¬ (3<=e.fOp/\e.fOp<=6):=by simp_all
 have hl1:1<Ts e.fKids:=by rcases g.shape with h|h|h|h|h|h<;>omega
 obtain⟨g1,m1⟩:=g.GF hl1;obtain⟨j1,j2⟩:=ih _ m1 _ x.2.2 i1;have n01:=JP (l:=e.fKids) (i:=0) (j:=1) om hl1;rw[GD _ 1 hl1];have j1':=j1.mono (show c+nodes (e.fKids.getD 0 dJ)+nodes (e.fKids.getD 1 dJ)<=c+nodes e by rw[Il e];omega);cases ZS:(e.fOp==25)with
 | true=>
  have ast:e.fOp=25:=by simpa using ZS
  have hl2:2<Ts e.fKids:=by rcases g.shape with h|h|h|h|h|h<;>omega
  obtain⟨g2,m2⟩:=g.GF hl2;obtain⟨k1,k2⟩:=ih _ m2 _ x.2.2 i1;have n02:=JP (l:=e.fKids) (i:=0) (j:=2) om hl2;rw[GD _ 2 hl2];cases (x.1 != 0)with|true=>exact⟨j1',j2⟩|false=>exact⟨k1.mono (by rw[Il e];omega),k2⟩
 | false=>
 cases (e.fOp==23&&x.1==0)with|true=>exact⟨i1',z⟩|false=>
 cases (e.fOp==24&&x.1 != 0)with|true=>exact⟨i1',one⟩|false=>
 unfold adP;cases ((mu (e.fKids.getD 1 dJ) x.2.2).2.1 != 0)with|true=>exact⟨j1',z⟩|false=>simp_all[Nf]
theorem Is{a b:Int}(h:a≠b):(a==b)=eQ:=by simp_all
theorem var_eq(F:Nat)(hF:5000<=F)(hm:Eo c m)(name:Bs):lD F name m=iN ((KM name m).1,(KM name m).2.1):=by unfold lD KN KM wx;have:=hm.get name;grind[aiZ,fX,dc]
theorem anF(name:Bs)(m:Env):(KM name m).2.2=m:=by unfold KM;grind
theorem aar:∀e,Good e->bS λF n=>∀c m,Eo c m->j7 F n e m=iN (mu e m):=by
 apply Good.ind;intro e g ih;refine bS.succ (bS.succ (((bS.all ih).and (bS.all ih).up).mq (bS.ge (p:=λF _=>5000<=F) 5000 λF n h _=>h) λF n hi hF c m hm=>?_));obtain⟨ih,ih'⟩:=hi;show tj F (j7 F (n+1)) (oc F (n+1)) e m=_;have ha:∀m,oc F (n+1) e m=sj F (j7 F n) (oc F n) e m:=λm=>rfl;rw[WM];unfold tj evB wx;cases h1:(e.fOp==1)with|true=>rfl|false=>
 cases h2:(e.fOp==2)with|true=>simp only[aU,aJ];grind[var_eq,anF,Prod.ext]|false=>
 simp only[iu]at h1 h2;have hl:0<Ts e.fKids:=by rcases g.shape with h|h|h|h|h|h<;>omega
 obtain⟨g0,m0⟩:=g.GF hl;obtain⟨i1,i2⟩:=Qr _ g0 c m hm;have e0:eK (0<(Ts e.fKids:Int))=hJ:=eN om;simp only[aJ,e0,ir];rw[GD _ 0 hl,ih' _ m0 c m hm];cases JK:(e.fOp==26)with
 | true=>
  have avs:e.fOp=26:=by simpa using JK
  simp only[aU,d5.eta];rw[ha];unfold sj wx;rw[e0,ih _ m0 c m hm];simp only[ir,aE];generalize mu (e.fKids.getD 0 dJ) m=x at i1 i2⊢;cases (x.2.1 != 0)with
  | true=>rfl|false=>
   simp only[aJ];rw[var_eq F hF i1];unfold Qq Er;cases (e.fN != 0)with
   | false=>simp_all[aJ,jj,aE,sm,adQ]|true=>
    simp only[aU,aE];unfold KM;cases (!(vj (fX dc x.2.2 e.fName [])).2)with
    | true=>rfl|false=>have hr:=Nf e.fN (Ng (fX dc x.2.2 e.fName [])) i2;simp only[aJ,Mj];rw[ZV];simp only[aE];cases ((vi e.fN (vj (fX dc x.2.2 e.fName [])).1 x.1).2 != 0)with|true=>rfl|false=>simp_all[aJ,jj,aE,sm,adQ]
 | false=>
 simp only[iu]at JK;simp only[aJ,aE];generalize mu (e.fKids.getD 0 dJ) m=x at i1 i2⊢;cases (x.2.1 != 0)with|true=>rfl|false=>
 simp only[aJ];have hun:(cond (e.fOp==3) (iN (e.fOp==3)) (cond (e.fOp==4) (iN (e.fOp==4)) (cond (e.fOp==5) (iN (e.fOp==5)) (iN (e.fOp==6)))):O Bool)=iN (eK (3<=e.fOp)&&eK (e.fOp<=6)):=by
  by_cases h:3<=e.fOp/\e.fOp<=6
  ·have:e.fOp=3\/e.fOp=4\/e.fOp=5\/e.fOp=6:=om;grind
  ·rw[Is (show e.fOp≠3 by omega),Is (show e.fOp≠4 by omega),Is (show e.fOp≠5 by omega),Is (show e.fOp≠6 by omega)];simp_all
 rw[hun];simp only[aE];cases h36:(eK (3<=e.fOp)&&eK (e.fOp<=6))with|true=>simp_all[aU,anD,aE,jj,sm]|false=>
 have anE:¬ (3<=e.fOp/\e.fOp<=6):=by simp_all
 simp only[aJ];have hl1:1<Ts e.fKids:=by rcases g.shape with h|h|h|h|h|h<;>omega
 obtain⟨g1,m1⟩:=g.GF hl1;have e1:eK (1<(Ts e.fKids:Int))=hJ:=eN om;have f1:=ih' _ m1 _ x.2.2 i1;rw[GD _ 1 hl1,e1,f1];cases ZS:(e.fOp==25)with
 | true=>
  have ast:e.fOp=25:=by simpa using ZS
  have hl2:2<Ts e.fKids:=by rcases g.shape with h|h|h|h|h|h<;>omega
  obtain⟨g2,m2⟩:=g.GF hl2;have e2:eK (2<(Ts e.fKids:Int))=hJ:=eN om;rw[GD _ 2 hl2,e2,ih' _ m2 _ x.2.2 i1];simp only[aU,ir,aE];cases (x.1 != 0)<;>rfl
 | false=>
 simp only[aJ,ir,aE];have hx:(x.1 != 0)=!(x.1==0):=rfl;unfold adP;have fin:((iN (mu (e.fKids.getD 1 dJ) x.2.2)).bind λx9=>cond (x9.2.1 != 0) (iN (0,x9.2.1,x9.2.2)) ((vU F e.fOp x.1 x9.1).bind λcz=>iN (cz.1,cz.2,x9.2.2)))=iN (cond ((mu (e.fKids.getD 1 dJ) x.2.2).2.1 != 0) (0,(mu (e.fKids.getD 1 dJ) x.2.2).2.1,(mu (e.fKids.getD 1 dJ) x.2.2).2.2) ((vi e.fOp x.1 (mu (e.fKids.getD 1 dJ) x.2.2).1).1,(vi e.fOp x.1 (mu (e.fKids.getD 1 dJ) x.2.2).1).2,(mu (e.fKids.getD 1 dJ) x.2.2).2.2)):=by grind[ZV]
 simp only[aE]at fin;cases h23:(e.fOp==23)with
 | true=>have WB:(e.fOp==24)=eQ:=Is (by simp_all);rw[WB,hx];cases (x.1==0)with|true=>rfl|false=>exact fin
 | false=>
  rw[hx];cases WB:(e.fOp==24)with
  | true=>cases (x.1==0)with|true=>exact fin|false=>rfl
  | false=>exact fin
theorem ai0(F:Nat)(hF:200000<=F)(hm:Eo c m)(hc:c<=100000)(g:Good e)(JK:e.fOp=26){a:Int}(ha:ij a):
  JQ F (d5.mk e.fOp e.fN e.fName e.fKids) a (uG m)=iN ((Qq e.fN e.fName (a,0,m)).1,uG (Qq e.fN e.fName (a,0,m)).2.2,(Qq e.fN e.fName (a,0,m)).2.1):=by
 rw[d5.eta];unfold JQ Qq wx;have hlen:(uG m).length<=100000:=by rw[Yp];have:=hm.len;omega
 have hg:=hm.get e.fName;rw[Qo F _ _ om om,Qp];simp;rw[ZW F _ om om];have nZ:∀n:Int,ij n->((dV F n).bind λx5=>(Ch F (uG m) e.fName x5).bind λx6=>iN (n,x6,(0:Int)))=iN (n,uG (jM dc m e.fName (Lib.itoa n)),0):=λn hn=>by rw[LF F om hn];simp;rw[bind_eq F _ _ _ om om,agm hm.nd];rfl
 cases hn:(e.fN != 0)with
 | false=>simp_all[aJ,jj,aE,sm]|true=>
  have hcomp:Ce e.fN=hJ:=by
   rcases g.facts.2.2.2.2 JK with h|h
   ·rw[h]at hn;cases hn
   ·exact h
  have hne:e.fN≠23/\e.fN≠24:=by unfold Ce at hcomp;grind
  simp;cases (vj (fX dc m e.fName [])).2 with
  | false=>rfl|true=>have hr:=Nf e.fN (Ng (fX dc m e.fName [])) ha;rw[ak2 F _ _ _ hne.1 hne.2];simp;cases ((vi e.fN (vj (fX dc m e.fName [])).1 a).2 != 0)with|true=>rfl|false=>simp_all[aJ,jj,aE,sm]
theorem afx:∀e,Good e->bS λF n=>∀c m,Eo c m->c+nodes e<=100000->ug F n e (uG m)=iN ((mu e m).1,uG (mu e m).2.2,(mu e m).2.1):=by
 apply Good.ind;intro e g ih;refine bS.succ ((bS.all ih).mq (bS.ge (p:=λF _=>200000<=F) 200000 λF n h _=>h) λF n ih' hF c m hm hc=>?_);show It F (ug F n) e (uG m)=_;rw[WM];unfold It evB wx;cases h1:(e.fOp==1)with|true=>rfl|false=>
 cases h2:(e.fOp==2)with
 | true=>
  simp only[aU,aJ];have hlen:(uG m).length<=100000:=by rw[Yp];have:=hm.len;omega
  have hg:=hm.get e.fName;rw[Qo F _ _ om om,Qp];simp only[aE];rw[ZW F _ om om];simp only[aE];unfold KM;grind
 | false=>
 simp only[iu]at h1 h2;have hl:0<Ts e.fKids:=by rcases g.shape with h|h|h|h|h|h<;>omega
 obtain⟨g0,m0⟩:=g.GF hl;have n0:=adR hl;obtain⟨i1,i2⟩:=Qr _ g0 c m hm;have e0:eK (0<(Ts e.fKids:Int))=hJ:=eN om;simp only[aJ,e0,ir];rw[GD _ 0 hl,ih' _ m0 c m hm om];simp only[aE];generalize mu (e.fKids.getD 0 dJ) m=x at i1 i2⊢;cases hx0:(x.2.1 != 0)with|true=>rfl|false=>
 have hx0':x.2.1=0:=by simpa using hx0
 simp only[aJ];have hun:(cond (eK (3<=e.fOp)) (iN (eK (e.fOp<=6))) (iN eQ):O Bool)=iN (eK (3<=e.fOp)&&eK (e.fOp<=6)):=by grind
 rw[hun];simp only[aE];cases h36:(eK (3<=e.fOp)&&eK (e.fOp<=6))with
 | true=>
  have anE:3<=e.fOp/\e.fOp<=6:=by simpa using h36
  have JK:(e.fOp==26)=eQ:=Is om;rw[JK];simp_all[aU,aJ,ass]
 | false=>
 have anE:¬ (3<=e.fOp/\e.fOp<=6):=by simp_all
 simp only[aJ];cases JK:(e.fOp==26)with
 | true=>
  have avs:e.fOp=26:=by simpa using JK
  simp only[aU];grind[ai0,Prod.ext]
 | false=>
 simp only[iu]at JK;simp only[aJ];have hl1:1<Ts e.fKids:=by rcases g.shape with h|h|h|h|h|h<;>omega
 obtain⟨g1,m1⟩:=g.GF hl1;have n01:=JP (l:=e.fKids) (i:=0) (j:=1) om hl1;have ne:=Il e;have e1:eK (1<(Ts e.fKids:Int))=hJ:=eN om;have f1:=ih' _ m1 _ x.2.2 i1 om;rw[GD _ 1 hl1,e1,f1];cases ZS:(e.fOp==25)with
 | true=>
  have ast:e.fOp=25:=by simpa using ZS
  have hl2:2<Ts e.fKids:=by rcases g.shape with h|h|h|h|h|h<;>omega
  obtain⟨g2,m2⟩:=g.GF hl2;have n02:=JP (l:=e.fKids) (i:=0) (j:=2) om hl2;have e2:eK (2<(Ts e.fKids:Int))=hJ:=eN om;rw[GD _ 2 hl2,e2,ih' _ m2 _ x.2.2 i1 om];simp only[aU,ir,aE];cases (x.1 != 0)<;>rfl
 | false=>
 simp only[aJ,ir,aE];have hx:(x.1 != 0)=!(x.1==0):=rfl;unfold adP;cases h23:(e.fOp==23)with
 | true=>
  have avt:e.fOp=23:=by simpa using h23
  have WB:(e.fOp==24)=eQ:=Is om;rw[WB,hx];cases h0:(x.1==0)with
  | true=>rfl|false=>
   simp only[aU,aJ,aE,TK,UX,Ci];cases ((mu (e.fKids.getD 1 dJ) x.2.2).2.1 != 0)with
   | true=>rfl|false=>
    have:vi e.fOp x.1 (mu (e.fKids.getD 1 dJ) x.2.2).1=(tr ((mu (e.fKids.getD 1 dJ) x.2.2).1 != 0),0):=by rw[avt];show(tr (x.1 != 0&&(mu (e.fKids.getD 1 dJ) x.2.2).1 != 0),(0:Int))=_;rw[hx,h0];rfl
    rw[this];rfl
 | false=>
  cases WB:(e.fOp==24)with
  | true=>
   have avu:e.fOp=24:=by simpa using WB
   rw[hx];cases h0:(x.1==0)with
   | false=>rfl|true=>
    simp only[aU,aJ,aE,TK,UX,Ci,ia];cases ((mu (e.fKids.getD 1 dJ) x.2.2).2.1 != 0)with
    | true=>rfl|false=>
     have:vi e.fOp x.1 (mu (e.fKids.getD 1 dJ) x.2.2).1=(tr ((mu (e.fKids.getD 1 dJ) x.2.2).1 != 0),0):=by rw[avu];show(tr (x.1 != 0||(mu (e.fKids.getD 1 dJ) x.2.2).1 != 0),(0:Int))=_;simp_all
     rw[this];rfl
  | false=>simp only[iu]at h23 WB;simp only[aJ,aE,UX];grind[ak2]
def yN(e:d5)(l:J dh):Int×J dh×Int:=cond (iX e 0 != 0) (0,[],iX e 0) (cond ((mu e (vh l)).2.1 != 0) (0,[],(mu e (vh l)).2.1) ((mu e (vh l)).1,uG (mu e (vh l)).2.2,0))
theorem N5{α β:Type}(f:α->β):∀(l:J α)(t:J β),l.foldl (λt k=>t++[f k]) t=t++l.map f|[],t=>by simp|x::l,t=>by rw[v7,N5 f l];simp
def Uv(l:J dh):Prop:=∀b,b∈l->Ts b.fName<=60/\b.cj.length<=4096
theorem WN(e:d5):Vd e->Nms e:=by
 induction e using d5.ind with
 | h op n name kids ih=>
  intro v;cases v with
  | mk _ _ _ _ h1 h2 h3 h4 h5 h6 h7=>refine .mk op n name kids ?_ λk hk=>ih k hk (h7 k hk);cases hn:Nb op with|true=>have:=h6 hn;unfold rName at this;grind|false=>simp_all
theorem adS(ho:je e)(hl:Ts l<=1000)(hb:Uv l)(hn:nodes e<=10000):bS λF _=>E3 F e l=iN (yN e l):=by
 by_cases hv:iX e 0=0
 ·have g:Good e:=⟨JM e 0 hv,ho,WN e (JM e 0 hv)⟩;refine(LA ho).DK (aar e g).fst (bS.ge 100000 λF n h _=>h) λF _ h1 h2 hF=>?_;unfold E3 yN wx;simp only[d5.eta];rw[h1,hv];have hm:=Iq hb;obtain⟨k1,k2⟩:=Qr e g _ _ hm;refine Ek l (λi (t:Env)=>((i:Int),t)) (λm b=>jM dc m b.fName b.cj) (λ_ _=>True) om rfl trivial ?_ (λ_ _ _ _=>trivial) ?_
  ·intro i h t rc _;simp only[yZ h,cg,gd h,bH (i:=i) om];rfl
  ·intro rc _;simp only[Ij];show((j7 F F e (vh l)).bind _)=_;rw[h2 _ _ hm];simp only[aE];generalize mu e (vh l)=x at k1 k2⊢;cases (x.2.1 != 0)with
   | true=>rfl|false=>
    rw[aud k1 om];have hks:(rS (x.2.2.map (·.1))).length<=11000:=by rw[(uW _).length_eq,jh];have:=k1.len;omega
    refine Ek (rS (x.2.2.map (·.1))) (λi (t:J dh)=>(t,(i:Int))) (λt k=>t++[Bk x.2.2 k]) (λi t=>Ts t<=i) om rfl si ?_ ?_ ?_
    ·intro i h t rc hI;simp only[yZ h,cg,gd h,bH (i:=i) om];rw[dD aR om];rfl
    ·simp_all
    ·intro rc _;simp only[Ij];rw[N5];rfl
 ·refine(LA ho).mono λF _ h1=>?_;unfold E3 yN wx;simp;grind
theorem LG(ho:je e):bS λF _=>Es F e=iN (iX e 0):=(Tr ho).fst.mono λF _ h=>by unfold Es Tw wx;simp_all
theorem afy(ho:je e)(hl:Ts l<=1000)(hb:Uv l)(hn:nodes e<=10000):bS λF _=>Cl F e l=iN (yN e l):=by
 by_cases hv:iX e 0=0
 ·have g:Good e:=⟨JM e 0 hv,ho,WN e (JM e 0 hv)⟩;refine(LG ho).DK (afx e g).fst (bS.ge 100000 λF n h _=>h) λF _ h1 h2 hF=>?_;unfold Cl yN wx;simp;rw[h1,hv];rw[ak0 F l om hl hb];show((ug F F e (uG (vh l))).bind _)=_;rw[h2 _ _ (Iq hb) om];grind
 ·refine(LG ho).mono λF _ h1=>?_;unfold Cl yN wx;simp;grind
theorem ak3(ho:je e)(hl:Ts l<=1000)(hb:Uv l)(hn:nodes e<=10000):(yN e l).2.1.length<=100000:=by
 unfold yN;cases hv:(iX e 0 != 0)with
 | true=>simp|false=>
  have jT:iX e 0=0:=by simpa using hv
  have g:Good e:=⟨JM e 0 jT,ho,WN e (JM e 0 jT)⟩;obtain⟨k1,k2⟩:=Qr e g _ _ (Iq hb);cases ((mu e (vh l)).2.1 != 0)with|true=>simp|false=>simp;rw[Yp];have:=k1.len;omega
def ak4:J (Bs×Int×Int):=[([124,124],3,24),([38,38],4,23),([124],5,22),([94],6,21),([38],7,20),([61,61],8,18),([33,61],8,19),([60],9,14),([62],9,15),([60,61],9,16),([62,61],9,17),([60,60],10,12),([62,62],10,13),([43],11,10),([45],11,11),([42],12,7),([47],12,8),([37],12,9)]
def gP(x:Bs):Int×Int:=match ak4.find? (λp=>p.1==x)with|some p=>p.2|none=>(0,0)
def asu:J (Bs×Int):=[([61],0),([43,61],10),([45,61],11),([42,61],7),([47,61],8),([37,61],9),([60,60,61],12),([62,62,61],13),([38,61],20),([94,61],21),([124,61],22)]
def uh(x:Bs):Int:=match asu.find? (λp=>p.1==x)with|some p=>p.2|none=>-1
def vE(x:Bs):Int:=cond (x==[45]) 3 (cond (x==[43]) 4 (cond (x==[33]) 5 (cond (x==[126]) 6 0)))
structure Tab(x:Bs):Prop where
 bin:∀G s p,kH (G+20) s 3 p x=iN (gP x)
 asg:∀G p,rC (G+20) ⟨3,p,x⟩=iN (cond (uh x == -1) 0 (uh x),!(uh x == -1))
 asr:∀G,sU (G+20) x=iN (uh x)
 bir:∀G l,mw (G+20) x l=iN (cond ((gP x).1==l) (gP x).2 0)
 lv:0<=(gP x).1/\(gP x).1<=12/\((gP x).1=0\/3<=(gP x).1)
 op:(gP x).1≠0->7<=(gP x).2/\(gP x).2<=24/\(nh (gP x).2).1=(gP x).1/\(nh (gP x).2).2=x
variable{x:Bs}
theorem anG(h:gP x=(0,0))(hr:∀G l,mw (G+20) x l=iN 0):∀G l,mw (G+20) x l=iN (cond ((gP x).1==l) (gP x).2 0):=by simp_all
theorem anH{lv op:Int}(h:gP x=(lv,op))(hr:∀G l,mw (G+20) x l=cond (lv==l) (iN op) (iN 0)):∀G l,mw (G+20) x l=iN (cond ((gP x).1==l) (gP x).2 0):=by grind
theorem ap7:∀x,x∈([]::qA)->Tab x:=by
 intro x hx;simp[qA,Al,aiT]at hx;rcases hx with rfl|rfl|rfl|rfl|rfl|rfl|rfl|rfl|rfl|rfl|rfl|rfl|rfl|rfl|rfl|rfl|rfl|rfl|rfl|rfl|rfl|rfl|rfl|rfl|rfl|rfl|rfl|rfl|rfl|rfl|rfl|rfl|rfl|rfl|rfl|rfl<;>
  exact⟨λG s p=>by kernel_rfl,λG p=>by kernel_rfl,λG=>by kernel_rfl,(by first|exact anG de (λG l=>by kernel_rfl)|exact anH rfl (λG l=>by kernel_rfl)),de,de⟩
def kd(s:Bs)(i:Nat):Int:=(vf s i).dU
def tx(s:Bs)(i:Nat):Bs:=(vf s i).bJ
def sy(s:Bs)(i:Nat):Bs:=oQ (s.drop (skip s i))
def nx(s:Bs)(i:Nat):Nat:=skip s i+Ts (tx s i)
inductive avv(s:Bs)(i:Nat):Prop
 | fin (h:vf s i=⟨0,skip s i,[]⟩) (hs:sy s i=[]) (hw:mH s (skip s i)=[]) (he:Ts s<=skip s i)
 | num (w:Bs) (b:UInt8) (h:vf s i=⟨1,skip s i,b::w⟩) (hs:sy s i=[]) (hw:mH s (skip s i)=b::w) (hd:dg b=hJ) (hl:skip s i+Ts (b::w)<=Ts s)
 | nam (w:Bs) (b:UInt8) (h:vf s i=⟨2,skip s i,b::w⟩) (hs:sy s i=[]) (hw:mH s (skip s i)=b::w) (hd:le b=hJ) (hl:skip s i+Ts (b::w)<=Ts s)
 | op (x:Bs) (h:vf s i=⟨3,skip s i,x⟩) (hs:sy s i=x) (hw:mH s (skip s i)=[]) (hm:x∈qA) (hl:skip s i+Ts x<=Ts s)
 | oth (b:UInt8) (h:vf s i=⟨4,skip s i,[b]⟩) (hs:sy s i=[]) (hw:mH s (skip s i)=[]) (hl:skip s i+1<=Ts s)
theorem ak5:∀n:Fin 256,fo (lL n.val)=hJ->∀o,o∈qA->[lL n.val].isPrefixOf o=eQ:=by decide +kernel
def auf(b:UInt8)(h:fo b=hJ):∀o,o∈qA->[b].isPrefixOf o=eQ:=Ut (P:=λb=>fo b=hJ->∀o,o∈qA->[b].isPrefixOf o=eQ) ak5 b h
theorem anI(b:UInt8)(m:Bs)(h:fo b=hJ):oQ (b::m)=[]:=by
 rcases Qm (b::m)with h1|⟨h1,h2⟩
 ·exact h1
 ·have hne:=DN _ h1;have:=auf b h _ h1;revert this h2 hne;cases oQ (b::m)with|nil=>simp_all|cons c o=>simp_all
theorem nF(s:Bs)(i:Nat)(hi:i<=Ts s):avv s i:=by
 obtain⟨h1,h2⟩:=iU s i hi;have e1:vf s i=WG s (skip s i):=rfl;have e2:sy s i=oQ (s.drop (skip s i)):=rfl;generalize hj:skip s i=j at h1 h2 e1 e2;unfold WG at e1;cases hd:s.drop j with
 | nil=>rw[hd]at e1 e2;refine .fin (by rw[hj];exact e1) e2 (by rw[hj];unfold mH;rw[hd];rfl) ?_;simp_all|cons b m=>
  have hlen:(s.drop j).length=m.length+1:=by rw[hd];rfl
  rw[Kl]at hlen;rw[hd]at e1 e2;simp only[]at e1;cases hf:fo b with
  | true=>
   have hw:mH s j=b::m.takeWhile fo:=by unfold mH;simp_all
   have hl:j+Ts (b::m.takeWhile fo)<=Ts s:=by grind[Am,List.length_cons]
   rw[anI b m hf]at e2;rw[hf,hw]at e1;cases hdg:dg b with|true=>rw[hdg]at e1;exact .num (m.takeWhile fo) b (by rw[hj];exact e1) e2 (by rw[hj];exact hw) hdg (by rw[hj];exact hl)|false=>rw[hdg]at e1;refine .nam (m.takeWhile fo) b (by rw[hj];exact e1) e2 (by rw[hj];exact hw) ?_ (by rw[hj];exact hl);simp_all[aoU]
  | false=>
   have hw:mH s j=[]:=by unfold mH;simp_all
   rw[hf]at e1;rcases Qm (b::m)with ho|⟨ho1,ho2⟩
   ·rw[ho]at e1 e2;exact .oth b (by rw[hj];exact e1) e2 (by rw[hj];exact hw) (by rw[hj];omega)
   ·have hne:=DN _ ho1;have:(oQ (b::m)==[])=eQ:=by simpa using hne
    rw[this]at e1;have hle:=ho2.length_le;simp at hle;exact .op (oQ (b::m)) (by rw[hj];exact e1) e2 (by rw[hj];exact hw) ho1 (by rw[hj];omega)
theorem Qs(s:Bs)(i:Nat):sy s i∈([]::qA):=by unfold sy;grind[Qm,List.mem_cons_of_mem]
def zU(s:Bs)(i:Nat):Tab (sy s i):=ap7 _ (Qs s i)
theorem lU(s:Bs)(i:Nat)(hi:i<=Ts s):nx s i<=Ts s/\i<=nx s i/\(kd s i≠0->i<nx s i):=by
 obtain⟨h1,h2⟩:=iU s i hi;unfold nx tx kd;rcases nF s i hi with⟨h,_,_,_⟩|⟨w,b,h,_,_,_,hl⟩|⟨w,b,h,_,_,_,hl⟩|⟨x,h,_,_,hm,hl⟩|⟨b,h,_,_,hl⟩<;>rw[h]<;>simp at *
 ·simp_all
 ·grind
 ·grind
 ·have:Ts x≠0:=by simp_all[DN]
  grind
 grind
theorem Cm(s:Bs)(i:Nat)(hi:i<=Ts s)(h:sy s i≠[]):kd s i=3/\tx s i=sy s i:=by
 unfold kd tx;rcases nF s i hi with⟨h',hs,_,_⟩|⟨w,b,h',hs,_,_,hl⟩|⟨w,b,h',hs,_,_,hl⟩|⟨x,h',hs,_,hm,hl⟩|⟨b,h',hs,_,hl⟩
 ·exact absurd hs h
 ·exact absurd hs h
 ·exact absurd hs h
 ·simp_all
 ·exact absurd hs h
inductive wJ
 | ok (e:d5) (j:Nat)
 | err (p:Nat) (c:Int)
inductive oJ
 | expr
 | cond
 | oper (l:Int)
 | loop (l:Int) (a:d5)
 | un
 | o7
def jY(s:Bs)(i:Nat):Int:=cond (kd s i==2) (uh (sy s (nx s i))) (-1)
inductive D(s:Bs):oJ->Nat->wJ->Prop
 | Co {i:Nat} {r:wJ} (h:jY s i=-1) (d:D s .cond i r):D s .expr i r
 | Cp {i:Nat} (h:jY s i≠-1) (hn:rName (tx s i)=eQ):D s .expr i (.err (skip s i) 10)
 | GG {i j:Nat} {e:d5} (h:jY s i≠-1) (hn:rName (tx s i)=hJ) (d:D s .expr (nx s (nx s i)) (.ok e j)):D s .expr i (.ok (.mk 26 (jY s i) (tx s i) [e]) j)
 | GH {i p:Nat} {c:Int} (h:jY s i≠-1) (hn:rName (tx s i)=hJ) (d:D s .expr (nx s (nx s i)) (.err p c)):D s .expr i (.err p c)
 | GJ {i p:Nat} {c:Int} (d:D s (.oper 3) i (.err p c)):D s .cond i (.err p c)
 | GK {i j:Nat} {a:d5} (d:D s (.oper 3) i (.ok a j)) (h:sy s j≠[63]):D s .cond i (.ok a j)
 | GL {i j p:Nat} {c:Int} {a:d5} (d:D s (.oper 3) i (.ok a j)) (h:sy s j=[63]) (d2:D s .expr (nx s j) (.err p c)):D s .cond i (.err p c)
 | GM {i j k:Nat} {a b:d5} (d:D s (.oper 3) i (.ok a j)) (h:sy s j=[63]) (d2:D s .expr (nx s j) (.ok b k)) (h2:sy s k≠[58]):D s .cond i (.err (skip s k) 6)
 | Nh {i j k p:Nat} {c:Int} {a b:d5} (d:D s (.oper 3) i (.ok a j)) (h:sy s j=[63]) (d2:D s .expr (nx s j) (.ok b k)) (h2:sy s k=[58]) (d3:D s .cond (nx s k) (.err p c)):D s .cond i (.err p c)
 | GN {i j k m:Nat} {a b e:d5} (d:D s (.oper 3) i (.ok a j)) (h:sy s j=[63]) (d2:D s .expr (nx s j) (.ok b k)) (h2:sy s k=[58]) (d3:D s .cond (nx s k) (.ok e m)):D s .cond i (.ok (.mk 25 0 [] [a,b,e]) m)
 | WR {l:Int} {i p:Nat} {c:Int} (d:D s .un i (.err p c)):D s (.oper l) i (.err p c)
 | Yq {l:Int} {i j:Nat} {a:d5} {r:wJ} (d:D s .un i (.ok a j)) (d2:D s (.loop l a) j r):D s (.oper l) i r
 | xQ {l:Int} {i:Nat} {a:d5} (h:(gP (sy s i)).1<l):D s (.loop l a) i (.ok a i)
 | Et {l:Int} {i p:Nat} {c:Int} {a:d5} (h:l<=(gP (sy s i)).1) (d:D s (.oper ((gP (sy s i)).1+1)) (nx s i) (.err p c)):D s (.loop l a) i (.err p c)
 | Iu {l:Int} {i j:Nat} {a b:d5} {r:wJ} (h:l<=(gP (sy s i)).1) (d:D s (.oper ((gP (sy s i)).1+1)) (nx s i) (.ok b j)) (d2:D s (.loop l (.mk (gP (sy s i)).2 0 [] [a,b])) j r):D s (.loop l a) i r
 | Cq {i:Nat} {r:wJ} (h:vE (sy s i)=0) (d:D s .o7 i r):D s .un i r
 | GO {i p:Nat} {c:Int} (h:vE (sy s i)≠0) (d:D s .un (nx s i) (.err p c)):D s .un i (.err p c)
 | Ni {i j:Nat} {a:d5} (h:vE (sy s i)≠0) (d:D s .un (nx s i) (.ok a j)):D s .un i (.ok (.mk (vE (sy s i)) 0 [] [a]) j)
 | GP {i:Nat} (h:kd s i=1) (hv:(p4 (tx s i)).2=0):D s .o7 i (.ok (.mk 1 (p4 (tx s i)).1 [] []) (nx s i))
 | Cr {i:Nat} (h:kd s i=1) (hv:(p4 (tx s i)).2≠0):D s .o7 i (.err (skip s i) (p4 (tx s i)).2)
 | GQ {i:Nat} (h:kd s i=2) (hv:rName (tx s i)=hJ):D s .o7 i (.ok (.mk 2 0 (tx s i) []) (nx s i))
 | Cs {i:Nat} (h:kd s i=2) (hv:rName (tx s i)=eQ):D s .o7 i (.err (skip s i) 10)
 | GR {i:Nat} (h1:kd s i≠1) (h2:kd s i≠2) (h:sy s i≠[40]):D s .o7 i (.err (skip s i) 6)
 | Nj {i p:Nat} {c:Int} (h:sy s i=[40]) (d:D s .expr (nx s i) (.err p c)):D s .o7 i (.err p c)
 | yO {i j:Nat} {e:d5} (h:sy s i=[40]) (d:D s .expr (nx s i) (.ok e j)) (h2:sy s j≠[41]):D s .o7 i (.err (skip s j) 6)
 | Nk {i j:Nat} {e:d5} (h:sy s i=[40]) (d:D s .expr (nx s i) (.ok e j)) (h2:sy s j=[41]):D s .o7 i (.ok e (nx s j))
def oJ.asv:oJ->Bool|.loop _ _=>hJ|_=>eQ
def aug(s:Bs)(c:oJ)(i:Nat):wJ->Prop|.ok e j=>i<=j/\j<=Ts s/\(c.asv=eQ->i<j)|.err p _=>p<=Ts s
variable{s:Bs}
theorem Qt(h:jY s i≠-1):kd s i=2/\uh (sy s (nx s i))≠-1/\jY s i=uh (sy s (nx s i)):=by unfold jY at h⊢;grind
theorem adT(h:uh x≠-1):x≠[]:=λe=>h (by rw[e];rfl)
theorem AH{l:Int}(hl:0<l)(h:l<=(gP x).1):x≠[]:=λe=>by rw[e]at h;simp[gP,ak4]at h;omega
theorem Bc(h:vE x≠0):x≠[]:=λe=>h (by rw[e];rfl)
def oJ.okL:oJ->Prop|.oper l=>0<l|.loop l _=>0<l|_=>True
theorem dP(hi:i<=Ts s)(h:sy s i≠[]):nx s i<=Ts s/\i<nx s i:=by simp_all[lU,Cm]
theorem xR(hi:i<=Ts s)(h:jY s i≠-1):nx s i<=Ts s/\i<nx s i/\nx s (nx s i)<=Ts s/\i<nx s (nx s i):=by grind[Qt,lU,dP,adT]
variable{r:wJ}
theorem nG{c:oJ}(d:D s c i r):i<=Ts s->c.okL->aug s c i r:=by
 induction d with
 | @Co i r h d ih=>intro hi _;have:=ih hi trivial;cases r with|ok e j=>exact this|err p c=>exact this
 | Cp h hn=>intro hi _;exact(iU s _ hi).1|GG h hn d ih=>intro hi _;obtain⟨a,b,c,e⟩:=xR hi h;obtain⟨x,y,z⟩:=ih c trivial;exact⟨om,y,λ_=>om⟩
 | GH h hn d ih=>intro hi _;exact ih (xR hi h).2.2.1 trivial|GJ d ih=>intro hi _;exact ih hi (show(0:Int)<3 by decide)
 | GK d h ih=>intro hi _;exact ih hi (show(0:Int)<3 by decide)
 | GL d h d2 ih ih2=>intro hi _;obtain⟨x,y,z⟩:=ih hi (show(0:Int)<3 by decide);exact ih2 (dP y (by rw[h];decide)).1 trivial
 | GM d h d2 h2 ih ih2=>intro hi _;obtain⟨x,y,z⟩:=ih hi (show(0:Int)<3 by decide);obtain⟨x2,y2,z2⟩:=ih2 (dP y (by rw[h];decide)).1 trivial;exact(iU s _ y2).1
 | Nh d h d2 h2 d3 ih ih2 ih3=>intro hi _;obtain⟨x,y,z⟩:=ih hi (show(0:Int)<3 by decide);obtain⟨x2,y2,z2⟩:=ih2 (dP y (by rw[h];decide)).1 trivial;exact ih3 (dP y2 (by rw[h2];decide)).1 trivial
 | GN d h d2 h2 d3 ih ih2 ih3=>intro hi _;obtain⟨x,y,z⟩:=ih hi (show(0:Int)<3 by decide);obtain⟨m1,m2⟩:=dP y (by rw[h];decide);obtain⟨x2,y2,z2⟩:=ih2 m1 trivial;obtain⟨m3,m4⟩:=dP y2 (by rw[h2];decide);obtain⟨x3,y3,z3⟩:=ih3 m3 trivial;exact⟨om,y3,λ_=>om⟩
 | WR d ih=>intro hi _;exact ih hi trivial|@Yq l i j a r d d2 ih ih2=>
  intro hi hl;obtain⟨x,y,z⟩:=ih hi trivial;have:=ih2 y hl;cases r with
  | ok e j=>obtain⟨x2,y2,_⟩:=this;have:=z rfl;exact⟨om,y2,λ_=>om⟩
  | err p c=>exact this
 | xQ h=>intro hi _;exact⟨eo _,hi,λh=>by cases h⟩
 | @Et l i p c a h d ih=>intro hi hl;have hl:0<l:=hl;exact ih (dP hi (AH hl h)).1 (show(0:Int)<_ by omega)
 | @Iu l i j a b r h d d2 ih ih2=>
  intro hi hl;have hl':0<l:=hl;obtain⟨m1,m2⟩:=dP hi (AH hl' h);obtain⟨x,y,z⟩:=ih m1 (show(0:Int)<_ by omega);have:=ih2 y hl;cases r with
  | ok e j=>obtain⟨x2,y2,_⟩:=this;exact⟨om,y2,λh=>by cases h⟩
  | err p c=>exact this
 | @Cq i r h d ih=>intro hi _;have:=ih hi trivial;cases r with|ok e j=>exact this|err p c=>exact this
 | GO h d ih=>intro hi _;exact ih (dP hi (Bc h)).1 trivial|Ni h d ih=>intro hi _;obtain⟨m1,m2⟩:=dP hi (Bc h);obtain⟨x,y,z⟩:=ih m1 trivial;exact⟨om,y,λ_=>om⟩
 | GP h hv=>intro hi _;obtain⟨a,b,c⟩:=lU s _ hi;have c:=c (by rw[h];decide);exact⟨b,a,λ_=>c⟩
 | Cr h hv=>intro hi _;exact(iU s _ hi).1|GQ h hv=>intro hi _;obtain⟨a,b,c⟩:=lU s _ hi;have c:=c (by rw[h];decide);exact⟨b,a,λ_=>c⟩
 | Cs h hv=>intro hi _;exact(iU s _ hi).1|GR h1 h2 h=>intro hi _;exact(iU s _ hi).1|Nj h d ih=>intro hi _;exact ih (dP hi (by rw[h];decide)).1 trivial|yO h d h2 ih=>intro hi _;obtain⟨x,y,z⟩:=ih (dP hi (by rw[h];decide)).1 trivial;exact(iU s _ y).1
 | Nk h d h2 ih=>intro hi _;obtain⟨m1,m2⟩:=dP hi (by rw[h];decide);obtain⟨x,y,z⟩:=ih m1 trivial;obtain⟨m3,m4⟩:=dP y (by rw[h2];decide);exact⟨om,m3,λ_=>om⟩
def oJ.xS:oJ->Nat|.expr=>4|.cond=>3|.oper _=>2|.loop _ _=>0|.un=>1|.o7=>0
theorem ap8(s:Bs)(n:Nat):∀(c:oJ)(i:Nat),i<=Ts s->c.okL->(Ts s-i)*5+c.xS<n->∃r,D s c i r:=by
 induction n with
 | zero=>intro c i _ _ h;omega|succ n ih=>
  intro c i hi hc hm;cases c with
  | expr=>
   simp[oJ.xS]at hm;by_cases h:jY s i=-1
   ·obtain⟨r,d⟩:=ih .cond i hi trivial (by simp[oJ.xS];omega);exact⟨r,.Co h d⟩
   ·obtain⟨_,_,m1,m2⟩:=xR hi h;cases hn:rName (tx s i)with
    | false=>exact⟨_,.Cp h hn⟩|true=>obtain⟨r,d⟩:=ih .expr _ m1 trivial (by simp[oJ.xS];omega);cases r with|ok e j=>exact⟨_,.GG h hn d⟩|err p c=>exact⟨_,.GH h hn d⟩
  | cond=>
   simp[oJ.xS]at hm;have h3:=show(0:Int)<3 by decide
   obtain⟨r,d⟩:=ih (.oper 3) i hi h3 (by simp[oJ.xS];omega);cases r with
   | err p c=>exact⟨_,.GJ d⟩|ok a j=>
    obtain⟨x,y,z⟩:=nG d hi h3;by_cases h:sy s j=[63]
    ·obtain⟨m1,m2⟩:=dP y (by rw[h];decide);obtain⟨r,d2⟩:=ih .expr _ m1 trivial (by simp[oJ.xS];omega);cases r with
     | err p c=>exact⟨_,.GL d h d2⟩|ok b k=>
      obtain⟨x2,y2,z2⟩:=nG d2 m1 trivial;by_cases h2:sy s k=[58]
      ·obtain⟨m3,m4⟩:=dP y2 (by rw[h2];decide);obtain⟨r,d3⟩:=ih .cond _ m3 trivial (by simp[oJ.xS];omega);cases r with|err p c=>exact⟨_,.Nh d h d2 h2 d3⟩|ok e m=>exact⟨_,.GN d h d2 h2 d3⟩
      ·exact⟨_,.GM d h d2 h2⟩
    ·exact⟨_,.GK d h⟩
  | oper l=>
   simp[oJ.xS]at hm;obtain⟨r,d⟩:=ih .un i hi trivial (by simp[oJ.xS];omega);cases r with
   | err p c=>exact⟨_,.WR d⟩|ok a j=>obtain⟨x,y,z⟩:=nG d hi trivial;obtain⟨r,d2⟩:=ih (.loop l a) j y hc (by simp[oJ.xS];omega);exact⟨_,.Yq d d2⟩
  | loop l a=>
   have hl:0<l:=hc;by_cases h:(gP (sy s i)).1<l
   ·exact⟨_,.xQ h⟩
   ·have h:l<=(gP (sy s i)).1:=om;obtain⟨m1,m2⟩:=dP hi (AH hl h);have ho:(oJ.oper ((gP (sy s i)).1+1)).okL:=show(0:Int)<_ by omega
    obtain⟨r,d⟩:=ih (.oper ((gP (sy s i)).1+1)) _ m1 ho (by simp[oJ.xS];omega);cases r with
    | err p c=>exact⟨_,.Et h d⟩|ok b j=>obtain⟨x,y,z⟩:=nG d m1 ho;obtain⟨r,d2⟩:=ih (.loop l (.mk (gP (sy s i)).2 0 [] [a,b])) j y hc (by simp[oJ.xS];omega);exact⟨_,.Iu h d d2⟩
  | un=>
   simp[oJ.xS]at hm;by_cases h:vE (sy s i)=0
   ·obtain⟨r,d⟩:=ih .o7 i hi trivial (by simp[oJ.xS];omega);exact⟨_,.Cq h d⟩
   ·obtain⟨m1,m2⟩:=dP hi (Bc h);obtain⟨r,d⟩:=ih .un _ m1 trivial (by simp[oJ.xS];omega);cases r with|ok e j=>exact⟨_,.Ni h d⟩|err p c=>exact⟨_,.GO h d⟩
  | o7=>
   by_cases h1:kd s i=1
   ·by_cases hv:(p4 (tx s i)).2=0
    ·exact⟨_,.GP h1 hv⟩
    ·exact⟨_,.Cr h1 hv⟩
   ·by_cases h2:kd s i=2
    ·cases hv:rName (tx s i)with|true=>exact⟨_,.GQ h2 hv⟩|false=>exact⟨_,.Cs h2 hv⟩
    ·by_cases h:sy s i=[40]
     ·obtain⟨m1,m2⟩:=dP hi (by rw[h];decide);obtain⟨r,d⟩:=ih .expr _ m1 trivial (by simp[oJ.xS];omega);cases r with
      | err p c=>exact⟨_,.Nj h d⟩|ok e j=>
       by_cases h2:sy s j=[41]
       ·exact⟨_,.Nk h d h2⟩
       ·exact⟨_,.yO h d h2⟩
     ·exact⟨_,.GR h1 h2 h⟩
def asw(s:Bs)(i:Nat)(hi:i<=Ts s):∃r,D s .expr i r:=ap8 s _ .expr i hi trivial (Ko _)
abbrev nV(s:Bs)(i:Nat):Int:=(gP (sy s i)).1
inductive Yr
 | expr
 | cond
 | level (l:Int)
 | loop (l:Int) (a:d5)
 | un
 | o7
inductive RD(s:Bs):Yr->Nat->wJ->Prop
 | Co {i:Nat} {r:wJ} (h:jY s i=-1) (d:RD s .cond i r):RD s .expr i r
 | Cp {i:Nat} (h:jY s i≠-1) (hn:rName (tx s i)=eQ):RD s .expr i (.err (skip s i) 10)
 | GG {i j:Nat} {e:d5} (h:jY s i≠-1) (hn:rName (tx s i)=hJ) (d:RD s .expr (nx s (nx s i)) (.ok e j)):RD s .expr i (.ok (.mk 26 (jY s i) (tx s i) [e]) j)
 | GH {i p:Nat} {c:Int} (h:jY s i≠-1) (hn:rName (tx s i)=hJ) (d:RD s .expr (nx s (nx s i)) (.err p c)):RD s .expr i (.err p c)
 | GJ {i p:Nat} {c:Int} (d:RD s (.level 3) i (.err p c)):RD s .cond i (.err p c)
 | GK {i j:Nat} {a:d5} (d:RD s (.level 3) i (.ok a j)) (h:sy s j≠[63]):RD s .cond i (.ok a j)
 | GL {i j p:Nat} {c:Int} {a:d5} (d:RD s (.level 3) i (.ok a j)) (h:sy s j=[63]) (d2:RD s .expr (nx s j) (.err p c)):RD s .cond i (.err p c)
 | GM {i j k:Nat} {a b:d5} (d:RD s (.level 3) i (.ok a j)) (h:sy s j=[63]) (d2:RD s .expr (nx s j) (.ok b k)) (h2:sy s k≠[58]):RD s .cond i (.err (skip s k) 6)
 | Nh {i j k p:Nat} {c:Int} {a b:d5} (d:RD s (.level 3) i (.ok a j)) (h:sy s j=[63]) (d2:RD s .expr (nx s j) (.ok b k)) (h2:sy s k=[58]) (d3:RD s .cond (nx s k) (.err p c)):RD s .cond i (.err p c)
 | GN {i j k m:Nat} {a b e:d5} (d:RD s (.level 3) i (.ok a j)) (h:sy s j=[63]) (d2:RD s .expr (nx s j) (.ok b k)) (h2:sy s k=[58]) (d3:RD s .cond (nx s k) (.ok e m)):RD s .cond i (.ok (.mk 25 0 [] [a,b,e]) m)
 | ai1 {l:Int} {i:Nat} {r:wJ} (hl:12<l) (d:RD s .un i r):RD s (.level l) i r
 | abD {l:Int} {i p:Nat} {c:Int} (h3:3<=l) (hl:l<=12) (d:RD s (.level (l+1)) i (.err p c)):RD s (.level l) i (.err p c)
 | anJ {l:Int} {i j:Nat} {a:d5} {r:wJ} (h3:3<=l) (hl:l<=12) (d:RD s (.level (l+1)) i (.ok a j)) (d2:RD s (.loop l a) j r):RD s (.level l) i r
 | xQ {l:Int} {i:Nat} {a:d5} (h:nV s i≠l):RD s (.loop l a) i (.ok a i)
 | Et {l:Int} {i p:Nat} {c:Int} {a:d5} (h:nV s i=l) (d:RD s (.level (l+1)) (nx s i) (.err p c)):RD s (.loop l a) i (.err p c)
 | Iu {l:Int} {i j:Nat} {a b:d5} {r:wJ} (h:nV s i=l) (d:RD s (.level (l+1)) (nx s i) (.ok b j)) (d2:RD s (.loop l (.mk (gP (sy s i)).2 0 [] [a,b])) j r):RD s (.loop l a) i r
 | Cq {i:Nat} {r:wJ} (h:vE (sy s i)=0) (d:RD s .o7 i r):RD s .un i r
 | GO {i p:Nat} {c:Int} (h:vE (sy s i)≠0) (d:RD s .un (nx s i) (.err p c)):RD s .un i (.err p c)
 | Ni {i j:Nat} {a:d5} (h:vE (sy s i)≠0) (d:RD s .un (nx s i) (.ok a j)):RD s .un i (.ok (.mk (vE (sy s i)) 0 [] [a]) j)
 | GP {i:Nat} (h:kd s i=1) (hv:(p4 (tx s i)).2=0):RD s .o7 i (.ok (.mk 1 (p4 (tx s i)).1 [] []) (nx s i))
 | Cr {i:Nat} (h:kd s i=1) (hv:(p4 (tx s i)).2≠0):RD s .o7 i (.err (skip s i) (p4 (tx s i)).2)
 | GQ {i:Nat} (h:kd s i=2) (hv:rName (tx s i)=hJ):RD s .o7 i (.ok (.mk 2 0 (tx s i) []) (nx s i))
 | Cs {i:Nat} (h:kd s i=2) (hv:rName (tx s i)=eQ):RD s .o7 i (.err (skip s i) 10)
 | GR {i:Nat} (h1:kd s i≠1) (h2:kd s i≠2) (h:sy s i≠[40]):RD s .o7 i (.err (skip s i) 6)
 | Nj {i p:Nat} {c:Int} (h:sy s i=[40]) (d:RD s .expr (nx s i) (.err p c)):RD s .o7 i (.err p c)
 | yO {i j:Nat} {e:d5} (h:sy s i=[40]) (d:RD s .expr (nx s i) (.ok e j)) (h2:sy s j≠[41]):RD s .o7 i (.err (skip s j) 6)
 | Nk {i j:Nat} {e:d5} (h:sy s i=[40]) (d:RD s .expr (nx s i) (.ok e j)) (h2:sy s j=[41]):RD s .o7 i (.ok e (nx s j))
inductive Tl(s:Bs):Int->d5->Nat->wJ->Prop
 | top {a:d5} {i:Nat}:Tl s 13 a i (.ok a i)
 | err {l:Int} {a:d5} {i p:Nat} {c:Int} (h3:3<=l) (hl:l<=12) (t:Tl s (l+1) a i (.err p c)):Tl s l a i (.err p c)
 | go {l:Int} {a b:d5} {i j:Nat} {r:wJ} (h3:3<=l) (hl:l<=12) (t:Tl s (l+1) a i (.ok b j)) (d:RD s (.loop l b) j r):Tl s l a i r
theorem Sg{s:Bs}{a:d5}{i:Nat}:∀(k:Nat)(l:Int),l+k=13->3<=l->nV s i<l->Tl s l a i (.ok a i)
 | 0,l,hk,_,_=>by obtain rfl:l=13:=om;exact .top
 | k+1,l,hk,h3,h=>.go h3 om (Sg k (l+1) om om om) (.xQ om)
theorem ago{l:Int}{a:d5}(t:Tl s l a i r):nV s i<l->r=.ok a i:=by
 induction t with
 | top=>intro _;rfl|err h3 hl t ih=>grind|@go l a b i j r h3 hl t d ih=>intro h;cases ih om;cases d with|xQ _=>rfl|Et h' _=>simp_all|Iu h' _ _=>simp_all
theorem ai2{s:Bs}{a b:d5}{i j:Nat}(hd:RD s (.level (nV s i+1)) (nx s i) (.ok b j))(hj:nV s j<nV s i+1)(h12:nV s i<=12):
  ∀(k:Nat)(l:Int)(r:wJ),l+k=nV s i->3<=l->Tl s l (.mk (gP (sy s i)).2 0 [] [a,b]) j r->Tl s l a i r
 | 0,l,r,hk,h3,t=>by
  have hk':nV s i=l:=om;rw[hk']at hd hj h12;have hs:Tl s (l+1) a i (.ok a i):=Sg (13-(l+1)).toNat _ om om om;generalize hx:d5.mk (gP (sy s i)).2 0 [] [a,b]=x at t;cases t with
  | top=>omega|err _ _ t=>cases ago t hj
  | go _ _ t d=>cases ago t hj;subst hx;exact .go h3 h12 hs (.Iu hk' hd d)
 | k+1,l,r,hk,h3,t=>by generalize hx:d5.mk (gP (sy s i)).2 0 [] [a,b]=x at t;cases t with|top=>omega|err _ _ t=>subst hx;exact .err h3 om (ai2 hd hj h12 k (l+1) _ om om t)|go _ _ t d=>subst hx;exact .go h3 om (ai2 hd hj h12 k (l+1) _ om om t) d
theorem ak6{s:Bs}{a:d5}{i p:Nat}{c:Int}(hd:RD s (.level (nV s i+1)) (nx s i) (.err p c))(h12:nV s i<=12):
  ∀(k:Nat)(l:Int),l+k=nV s i->3<=l->Tl s l a i (.err p c)
 | 0,l,hk,h3=>by obtain rfl:l=nV s i:=om;exact .go h3 h12 (Sg (13-(nV s i+1)).toNat _ om om om) (.Et rfl hd)
 | k+1,l,hk,h3=>.err h3 om (ak6 hd h12 k (l+1) om om)
theorem anK{a:d5}(hu:RD s .un i (.ok a j)){l:Int}(t:Tl s l a j r):RD s (.level l) i r:=by
 induction t with|top=>exact .ai1 om hu|err h3 hl t ih=>exact .abD h3 hl (ih hu)|go h3 hl t d ih=>exact .anJ h3 hl (ih hu) d
theorem ZX{s:Bs}{i p:Nat}{c:Int}(hu:RD s .un i (.err p c)):∀(k:Nat)(l:Int),l+k=13->3<=l->RD s (.level l) i (.err p c)|0,l,hk,_=>.ai1 om hu|k+1,l,hk,h3=>.abD h3 om (ZX hu k (l+1) om om)
theorem ap9{c:oJ}(d:D s c i r):∀l,(c=.oper l\/∃a,c=.loop l a)->∀e j,r=.ok e j->nV s j<l:=by
 induction d with|Yq d d2 ih ih2=>simp_all|xQ h=>simp_all|Iu h d d2 ih ih2=>simp_all|_=>simp_all
def MR(s:Bs):oJ->Nat->wJ->Prop|.expr,i,r=>RD s .expr i r|.cond,i,r=>RD s .cond i r|.oper l,i,r=>3<=l->l<=13->RD s (.level l) i r|.loop l a,i,r=>3<=l->l<=13->Tl s l a i r|.un,i,r=>RD s .un i r|.o7,i,r=>RD s .o7 i r
theorem avw{c:oJ}(d:D s c i r):MR s c i r:=by
 induction d with
 | Co h d ih=>exact .Co h ih|Cp h hn=>exact .Cp h hn|GG h hn d ih=>exact .GG h hn ih|GH h hn d ih=>exact .GH h hn ih|GJ d ih=>exact .GJ (ih de de)|GK d h ih=>exact .GK (ih de de) h|GL d h d2 ih ih2=>exact .GL (ih de de) h ih2|GM d h d2 h2 ih ih2=>exact .GM (ih de de) h ih2 h2|Nh d h d2 h2 d3 ih ih2 ih3=>exact .Nh (ih de de) h ih2 h2 ih3|GN d h d2 h2 d3 ih ih2 ih3=>exact .GN (ih de de) h ih2 h2 ih3|@WR l i p c d ih=>exact λh3 ZR=>ZX ih (13-l).toNat l om h3|Yq d d2 ih ih2=>exact λh3 ZR=>anK ih (ih2 h3 ZR)|@xQ l i a h=>exact λh3 ZR=>Sg (13-l).toNat l om h3 h|@Et l i p c a h d ih=>intro h3 ZR;have hlv:0<=nV s i/\nV s i<=12/\(nV s i=0\/3<=nV s i):=(zU s i).lv;have h:l<=nV s i:=h;exact ak6 (ih (show 3<=nV s i+1 by omega) (show nV s i+1<=13 by omega)) hlv.2.1 (nV s i-l).toNat l om h3
 | @Iu l i j a b r h d d2 ih ih2=>intro h3 ZR;have hlv:0<=nV s i/\nV s i<=12/\(nV s i=0\/3<=nV s i):=(zU s i).lv;have h:l<=nV s i:=h;exact ai2 (ih (show 3<=nV s i+1 by omega) (show nV s i+1<=13 by omega)) (ap9 d _ (.inl rfl) _ _ rfl) hlv.2.1 (nV s i-l).toNat l r om h3 (ih2 h3 ZR)
 | Cq h d ih=>exact .Cq h ih|GO h d ih=>exact .GO h ih|Ni h d ih=>exact .Ni h ih|GP h hv=>exact .GP h hv|Cr h hv=>exact .Cr h hv|GQ h hv=>exact .GQ h hv|Cs h hv=>exact .Cs h hv|GR h1 h2 h=>exact .GR h1 h2 h|Nj h d ih=>exact .Nj h ih|yO h d h2 ih=>exact .yO h ih h2|Nk h d h2 ih=>exact .Nk h ih h2
abbrev RA:=(d5×Bs×Int×Int×Bs) ⊕ (ef×Bs×Int×Int×Bs)
abbrev SA:=Bs×Int×Int×Bs×Int×Int×Bs×(J d5)
def po(s:Bs)(i:Nat):Int:=(skip s i:Int)
def mz(s:Bs):wJ->O RA->Prop|.ok e j,x=>x=iN (.inl (e,s,kd s j,po s j,tx s j))|.err p c,x=>∃st,x=iN (.inr (⟨p,c⟩,st))
def Ct(F:Nat)(r:Int->Bs->Int->Int->Bs->O RA)(l:Int):(SA->O RA)->SA->O RA:=
 (λiI x2=>
 (kH F x2.1 x2.2.1 x2.2.2.1 x2.2.2.2.1).bind λx4=>
 cond (eK (x4.1<l))
 (iN (.inl ((d5.mk ((d5.mk x2.2.2.2.2.1 x2.2.2.2.2.2.1 x2.2.2.2.2.2.2.1 x2.2.2.2.2.2.2.2).fOp) ((d5.mk x2.2.2.2.2.1 x2.2.2.2.2.2.1 x2.2.2.2.2.2.2.1 x2.2.2.2.2.2.2.2).fN) ((d5.mk x2.2.2.2.2.1 x2.2.2.2.2.2.1 x2.2.2.2.2.2.2.1 x2.2.2.2.2.2.2.2).fName) ((d5.mk x2.2.2.2.2.1 x2.2.2.2.2.2.1 x2.2.2.2.2.2.2.1 x2.2.2.2.2.2.2.2).fKids)),x2.1,x2.2.1,x2.2.2.1,x2.2.2.2.1)))
 ((fA F x2.1 x2.2.1 x2.2.2.1 x2.2.2.2.1).bind λx5=>
 (r (aD (x4.1+1)) x5.1 x5.2.1 x5.2.2.1 x5.2.2.2).bind (sm (λx6=>
 iI (x6.2.1,x6.2.2.1,x6.2.2.2.1,x6.2.2.2.2,(d5.mk x4.2 0 [] ([(d5.mk x2.2.2.2.2.1 x2.2.2.2.2.2.1 x2.2.2.2.2.2.2.1 x2.2.2.2.2.2.2.2),(d5.mk x6.1.fOp x6.1.fN x6.1.fName x6.1.fKids)]:J d5)).fOp,(d5.mk x4.2 0 [] ([(d5.mk x2.2.2.2.2.1 x2.2.2.2.2.2.1 x2.2.2.2.2.2.2.1 x2.2.2.2.2.2.2.2),(d5.mk x6.1.fOp x6.1.fN x6.1.fName x6.1.fKids)]:J d5)).fN,(d5.mk x4.2 0 [] ([(d5.mk x2.2.2.2.2.1 x2.2.2.2.2.2.1 x2.2.2.2.2.2.2.1 x2.2.2.2.2.2.2.2),(d5.mk x6.1.fOp x6.1.fN x6.1.fName x6.1.fKids)]:J d5)).fName,(d5.mk x4.2 0 [] ([(d5.mk x2.2.2.2.2.1 x2.2.2.2.2.2.1 x2.2.2.2.2.2.2.1 x2.2.2.2.2.2.2.2),(d5.mk x6.1.fOp x6.1.fN x6.1.fName x6.1.fKids)]:J d5)).fKids)) (λx7=>iN (.inr (x7.1,x7.2.1,x7.2.2.1,x7.2.2.2.1,x7.2.2.2.2))))))
theorem Sh(s:Bs)(i:Nat)(hi:i<=Ts s):vf s i=⟨kd s i,po s i,tx s i⟩:=by unfold kd tx po;rcases nF s i hi with⟨h,_,_,_⟩|⟨w,b,h,_,_,_,hl⟩|⟨w,b,h,_,_,_,hl⟩|⟨x,h,_,_,hm,hl⟩|⟨b,h,_,_,hl⟩<;>rw[h]
theorem aqa(X:O RA):X.bind (sm (λx=>iN (.inl ((d5.mk x.1.fOp x.1.fN x.1.fName x.1.fKids),x.2.1,x.2.2.1,x.2.2.2.1,x.2.2.2.2))) (λx=>iN (.inr (x.1,x.2.1,x.2.2.1,x.2.2.2.1,x.2.2.2.2))))=X:=by cases X with|none=>rfl|some y=>grind[sm,d5.eta]
variable{F:Nat}
section
variable (hl : s.length <= 1000000) (hi : i <= s.length) (hF : s.length + 60 <= F)
include hl hi hF
theorem Iv:o8 F s (kd s i) (po s i) (tx s i)=iN (vf s (nx s i)):=by
 unfold o8 wx;obtain⟨a,_,_⟩:=lU s i hi;have e:po s i+(Ts (tx s i):Int)=((nx s i:Nat):Int):=by unfold po nx;omega
 grind[bL,Ym]
theorem uj:fA F s (kd s i) (po s i) (tx s i)=iN (s,kd s (nx s i),po s (nx s i),tx s (nx s i)):=by unfold fA wx;simp_all[lU,Iv,Sh]
theorem kZ(hx:x≠[]):jq F x s (kd s i) (po s i) (tx s i)=iN (sy s i==x):=by
 unfold jq wx;by_cases h:sy s i=[]
 ·have hk:(cond (kd s i==3) (iN (tx s i==x)) (iN eQ):O Bool)=iN eQ:=by
   unfold kd tx;rcases nF s i hi with⟨h',_,_,_⟩|⟨w,b,h',_,_,_,_⟩|⟨w,b,h',_,_,_,_⟩|⟨x',h',hs,_,hm,_⟩|⟨b,h',_,_,_⟩<;>rw[h']<;>try rfl
   simp_all
  simp_all
 simp_all[Cm]
theorem Ys:kH F s (kd s i) (po s i) (tx s i)=iN (gP (sy s i)):=by
 by_cases h:sy s i=[]
 ·rw[h];have hk:(kd s i==3)=eQ:=by
   unfold kd;rcases nF s i hi with⟨h',_,_,_⟩|⟨w,b,h',_,_,_,_⟩|⟨w,b,h',_,_,_,_⟩|⟨x',h',hs,_,hm,_⟩|⟨b,h',_,_,_⟩<;>rw[h']<;>try rfl
   simp_all[DN]
  unfold kH wx;rw[hk];rfl
 ·obtain⟨h1,h2⟩:=Cm s i hi h;rw[h1,h2];obtain⟨G,rfl⟩:∃G,F=G+20:=⟨F-20,om⟩;exact(zU s i).bin G s _
theorem JS:rC F (vf s i)=iN (cond (uh (sy s i) == -1) 0 (uh (sy s i)),!(uh (sy s i) == -1)):=by
 by_cases h:sy s i=[]
 ·rw[h];have hk:((vf s i).dU != 3)=hJ:=by
   rcases nF s i hi with⟨h',_,_,_⟩|⟨w,b,h',_,_,_,_⟩|⟨w,b,h',_,_,_,_⟩|⟨x',h',hs,_,hm,_⟩|⟨b,h',_,_,_⟩<;>rw[h']<;>try rfl
   simp_all[DN]
  unfold rC wx;rw[hk];rfl
 ·obtain⟨h1,h2⟩:=Cm s i hi h;rw[Sh s i hi,h1,h2];obtain⟨G,rfl⟩:∃G,F=G+20:=⟨F-20,om⟩;exact(zU s i).asg G _
theorem yP(hx:x≠[])(h:sy s i=x):ji F x s (kd s i) (po s i) (tx s i)=iN (.inl (s,kd s (nx s i),po s (nx s i),tx s (nx s i))):=by unfold ji wx;simp_all[kZ,uj,jj,sm]
theorem Qu(hx:x≠[])(h:sy s i≠x):ji F x s (kd s i) (po s i) (tx s i)=iN (.inr ⟨po s i,6⟩):=by
 unfold ji wx;have:(sy s i==x)=eQ:=by simp_all
 rw[kZ hl hi hF hx,this];rfl
omit hF hl in
theorem ak7:(tx s i).length<=Ts s:=by obtain⟨a,_,_⟩:=lU s i hi;unfold nx at a;omega
omit hF hl in
theorem auh(h:kd s i=1\/kd s i=2):tx s i≠[]:=by unfold kd at h;unfold tx;rcases nF s i hi with⟨h',_,_,_⟩|⟨w,b,h',_,_,_,_⟩|⟨w,b,h',_,_,_,_⟩|⟨x',h',hs,_,hm,_⟩|⟨b,h',_,_,_⟩<;>rw[h']at h⊢ <;> simp at h⊢
theorem adU(h:kd s i=1):zQ F (tx s i)=iN (p4 (tx s i)):=by grind[ak7,anu,auh]
theorem Yt(h:rName (tx s i)=hJ):jx F s (kd s i) (po s i) (tx s i)=iN (.inl (tx s i,s,kd s (nx s i),po s (nx s i),tx s (nx s i))):=by unfold jx wx;grind[FF,uj]
theorem ak8(h:rName (tx s i)=eQ):jx F s (kd s i) (po s i) (tx s i)=iN (.inr ⟨po s i,10⟩):=by unfold jx wx;grind[FF]
end
def StA(s:Bs):oJ->Nat->wJ->Prop|.expr,i,r=>bS λF n=>mz s r (aX F n s (kd s i) (po s i) (tx s i))|.cond,i,r=>bS λF n=>mz s r (bE F n s (kd s i) (po s i) (tx s i))|.oper l,i,r=>bS λF n=>mz s r (aN F n l s (kd s i) (po s i) (tx s i))|.loop l a,i,r=>∃N,∀F n m,N<=F->N<=n->N<=m->mz s r (bX (Ct F (aN F n) l) m (s,kd s i,po s i,tx s i,a.fOp,a.fN,a.fName,a.fKids))|.un,i,r=>bS λF n=>mz s r (bR F n s (kd s i) (po s i) (tx s i))|.o7,i,r=>bS λF n=>mz s r (bK F n s (kd s i) (po s i) (tx s i))
def ig(s:Bs):bS λF _=>Ts s+60<=F:=bS.ge (Ts s+60) λF n h _=>h
theorem D_A(hl:Ts s<=1000000){c:oJ}(d:D s c i r):i<=Ts s->c.okL->StA s c i r:=by
 induction d with
 | @Co i r h d ih=>
  intro hi _;refine bS.succ (bS.mq (ih hi trivial) (ig s) λF n h1 hF=>?_);show mz s r (eX F (aX F n) (bE F n) (aN F n) (bR F n) (bK F n) s (kd s i) (po s i) (tx s i));unfold eX wx;rw[aqa];cases hk:(kd s i==2)with
  | false=>grind|true=>
   have:(kd s i != 2)=eQ:=by unfold bne;rw[hk];rfl
   unfold jY at h;rw[hk]at h;simp only[aU]at h;obtain⟨a,_,_⟩:=lU s i hi;rw[this,Iv hl hi hF];simp_all[aJ,aE,JS]
 | @Cp i h hn=>
  intro hi _;refine bS.succ (bS.mono (ig s) λF n hF=>?_);obtain⟨hk,h2,_⟩:=Qt h;obtain⟨a,_,_⟩:=lU s i hi;show mz s _ (eX F (aX F n) (bE F n) (aN F n) (bR F n) (bK F n) s (kd s i) (po s i) (tx s i));unfold eX wx;have h3:(uh (sy s (nx s i)) == -1)=eQ:=by simp_all
  rw[Iv hl hi hF,ak8 hl hi hF hn];simp only[aE];rw[JS hl a hF,h3,hk];exact⟨_,rfl⟩
 | @GG i j e h hn d ih=>
  intro hi _;obtain⟨m1,m2,m3,m4⟩:=xR hi h;refine bS.succ (bS.mq (ih m3 trivial) (ig s) λF n h1 hF=>?_);obtain⟨hk,h2,he⟩:=Qt h;show mz s _ (eX F (aX F n) (bE F n) (aN F n) (bR F n) (bK F n) s (kd s i) (po s i) (tx s i));unfold eX wx;have h3:(uh (sy s (nx s i)) == -1)=eQ:=by simp_all
  have h1:aX F n s _ _ _=_:=h1;rw[Iv hl hi hF,Yt hl hi hF hn];simp only[aE];rw[JS hl m1 hF,h3,hk,he];simp only[Mj,aJ,qm,ia,sm];rw[uj hl m1 hF];simp only[aE];rw[h1];rfl
 | @GH i p c h hn d ih=>
  intro hi _;obtain⟨m1,m2,m3,m4⟩:=xR hi h;refine bS.succ (bS.mq (ih m3 trivial) (ig s) λF n h1 hF=>?_);obtain⟨hk,h2,he⟩:=Qt h;show mz s _ (eX F (aX F n) (bE F n) (aN F n) (bR F n) (bK F n) s (kd s i) (po s i) (tx s i));unfold eX wx;have h3:(uh (sy s (nx s i)) == -1)=eQ:=by simp_all
  obtain⟨st,h1⟩:=h1;rw[Iv hl hi hF,Yt hl hi hF hn];simp only[aE];rw[JS hl m1 hF,h3,hk];simp only[Mj,aJ,qm,ia,sm];rw[uj hl m1 hF];simp only[aE];rw[h1];exact⟨_,rfl⟩
 | @GJ i p c d ih=>intro hi _;refine bS.succ (bS.mono (ih hi (show(0:Int)<3 by decide)) λF n h1=>?_);show mz s _ (di F (aX F n) (bE F n) (aN F n) (bR F n) (bK F n) s (kd s i) (po s i) (tx s i));unfold di wx;obtain⟨st,h1⟩:=h1;rw[h1];exact⟨_,rfl⟩
 | @GK i j a d h ih=>
  intro hi _;obtain⟨x,y,z⟩:=nG d hi (show(0:Int)<3 by decide);refine bS.succ (bS.mq (ih hi (show(0:Int)<3 by decide)) (ig s) λF n h1 hF=>?_);show mz s _ (di F (aX F n) (bE F n) (aN F n) (bR F n) (bK F n) s (kd s i) (po s i) (tx s i));unfold di wx;have h1:aN F n 3 s _ _ _=_:=h1;have hb:(sy s j==[63])=eQ:=by simp_all
  rw[h1];simp only[aE,sm];rw[kZ hl y hF de,hb];simp_all
 | @GL i j p c a d h d2 ih ih2=>intro hi _;obtain⟨x,y,z⟩:=nG d hi (show(0:Int)<3 by decide);obtain⟨m1,m2⟩:=dP y (by rw[h];decide);refine bS.succ (bS.DK (ih hi (show(0:Int)<3 by decide)) (ih2 m1 trivial) (ig s) λF n h1 h2 hF=>?_);show mz s _ (di F (aX F n) (bE F n) (aN F n) (bR F n) (bK F n) s (kd s i) (po s i) (tx s i));unfold di wx;have h1:aN F n 3 s _ _ _=_:=h1;obtain⟨st,h2⟩:=h2;rw[h1];simp only[aE,sm];rw[kZ hl y hF de,h,uj hl y hF];simp only[aE];rw[h2];exact⟨_,rfl⟩
 | @GM i j k a b d h d2 h2 ih ih2=>intro hi _;obtain⟨x,y,z⟩:=nG d hi (show(0:Int)<3 by decide);obtain⟨m1,m2⟩:=dP y (by rw[h];decide);obtain⟨x2,y2,z2⟩:=nG d2 m1 trivial;refine bS.succ (bS.DK (ih hi (show(0:Int)<3 by decide)) (ih2 m1 trivial) (ig s) λF n h1 h3 hF=>?_);show mz s _ (di F (aX F n) (bE F n) (aN F n) (bR F n) (bK F n) s (kd s i) (po s i) (tx s i));unfold di wx;have h1:aN F n 3 s _ _ _=_:=h1;have h3:aX F n s _ _ _=_:=h3;rw[h1];simp only[aE,sm];rw[kZ hl y hF de,h,uj hl y hF];simp only[aE];rw[h3];simp only[aE,sm];rw[Qu hl y2 hF de h2];exact⟨_,rfl⟩
 | @Nh i j k p c a b d h d2 h2 d3 ih ih2 ih3=>intro hi _;obtain⟨x,y,z⟩:=nG d hi (show(0:Int)<3 by decide);obtain⟨m1,m2⟩:=dP y (by rw[h];decide);obtain⟨x2,y2,z2⟩:=nG d2 m1 trivial;obtain⟨m3,m4⟩:=dP y2 (by rw[h2];decide);refine bS.succ (bS.DK ((ih hi (show(0:Int)<3 by decide)).and (ih3 m3 trivial)) (ih2 m1 trivial) (ig s) λF n h1 h3 hF=>?_);show mz s _ (di F (aX F n) (bE F n) (aN F n) (bR F n) (bK F n) s (kd s i) (po s i) (tx s i));unfold di wx;obtain⟨h1,st,h4⟩:=h1;have h1:aN F n 3 s _ _ _=_:=h1;have h3:aX F n s _ _ _=_:=h3;rw[h1];simp only[aE,sm];rw[kZ hl y hF de,h,uj hl y hF];simp only[aE];rw[h3];simp only[aE,sm];rw[yP hl y2 hF de h2];simp only[aE,sm];rw[h4];exact⟨_,rfl⟩
 | @GN i j k m a b e d h d2 h2 d3 ih ih2 ih3=>intro hi _;obtain⟨x,y,z⟩:=nG d hi (show(0:Int)<3 by decide);obtain⟨m1,m2⟩:=dP y (by rw[h];decide);obtain⟨x2,y2,z2⟩:=nG d2 m1 trivial;obtain⟨m3,m4⟩:=dP y2 (by rw[h2];decide);refine bS.succ (bS.DK ((ih hi (show(0:Int)<3 by decide)).and (ih3 m3 trivial)) (ih2 m1 trivial) (ig s) λF n h1 h3 hF=>?_);show mz s _ (di F (aX F n) (bE F n) (aN F n) (bR F n) (bK F n) s (kd s i) (po s i) (tx s i));unfold di wx;obtain⟨h1,h4⟩:=h1;have h1:aN F n 3 s _ _ _=_:=h1;have h3:aX F n s _ _ _=_:=h3;have h4:bE F n s _ _ _=_:=h4;rw[h1];simp only[aE,sm];rw[kZ hl y hF de,h,uj hl y hF];simp only[aE];rw[h3];simp only[aE,sm];rw[yP hl y2 hF de h2];simp only[aE,sm];rw[h4];simp only[aE,sm,d5.eta];rfl
 | @WR l i p c d ih=>intro hi _;refine bS.succ (bS.mono (ih hi trivial) λF n h1=>?_);show mz s _ (kP F (aX F n) (bE F n) (aN F n) (bR F n) (bK F n) l s (kd s i) (po s i) (tx s i));unfold kP wx;obtain⟨st,h1⟩:=h1;rw[h1];exact⟨_,rfl⟩
 | @Yq l i j a r d d2 ih ih2=>intro hi hc;obtain⟨x,y,z⟩:=nG d hi trivial;obtain⟨N,h2⟩:=ih2 y hc;refine bS.succ (bS.mq (ih hi trivial) (bS.ge (p:=λF n=>N<=F/\N<=n) N λF n a b=>⟨a,b⟩) λF n h1 hN=>?_);show mz s _ (kP F (aX F n) (bE F n) (aN F n) (bR F n) (bK F n) l s (kd s i) (po s i) (tx s i));unfold kP wx;have h1:bR F n s _ _ _=_:=h1;rw[h1];exact h2 F n F hN.1 hN.2 hN.1
 | @xQ l i a h=>
  intro hi _;refine⟨Ts s+60,λF n m hF _ hm=>?_⟩;cases m with
  | zero=>omega|succ m=>show mz s _ (Ct F (aN F n) l (bX (Ct F (aN F n) l) m) (s,kd s i,po s i,tx s i,a.fOp,a.fN,a.fName,a.fKids));unfold Ct;rw[Ys hl hi hF];simp only[aE,eN h,aU,d5.eta];rfl
 | @Et l i p c a h d ih=>
  intro hi hc;have hc:0<l:=hc;obtain⟨m1,m2⟩:=dP hi (AH hc h);obtain⟨N,h1⟩:=ih m1 (show(0:Int)<_ by omega);have hlv:=(zU s i).lv;refine⟨N+Ts s+60,λF n m hF hn hm=>?_⟩;cases m with
  | zero=>omega|succ m=>show mz s _ (Ct F (aN F n) l (bX (Ct F (aN F n) l) m) (s,kd s i,po s i,tx s i,a.fOp,a.fN,a.fName,a.fKids));unfold Ct;obtain⟨st,h1⟩:=h1 F n om om;rw[Ys hl hi om,uj hl hi om];have hx:eK ((gP (sy s i)).1<l)=eQ:=sZ om;simp only[aE,hx,aJ];rw[bL (x:=(gP (sy s i)).1+1) om,h1];exact⟨_,rfl⟩
 | @Iu l i j a b r h d d2 ih ih2=>
  intro hi hc;have tA:0<l:=hc;obtain⟨m1,m2⟩:=dP hi (AH tA h);obtain⟨x,y,z⟩:=nG d m1 (show(0:Int)<_ by omega);obtain⟨N,h1⟩:=ih m1 (show(0:Int)<_ by omega);obtain⟨N2,h2⟩:=ih2 y hc;have hlv:=(zU s i).lv;refine⟨N+N2+Ts s+60,λF n m hF hn hm=>?_⟩;cases m with
  | zero=>omega|succ m=>show mz s _ (Ct F (aN F n) l (bX (Ct F (aN F n) l) m) (s,kd s i,po s i,tx s i,a.fOp,a.fN,a.fName,a.fKids));have h1:aN F n _ s _ _ _=_:=h1 F n om om;have h2:=h2 F n m om om om;generalize hL:bX (Ct F (aN F n) l) m=L at h2⊢;unfold Ct;rw[Ys hl hi om,uj hl hi om];have hx:eK ((gP (sy s i)).1<l)=eQ:=sZ om;simp only[aE,hx,aJ];grind[bL,sm,d5.eta]
 | @Cq i r h d ih=>
  intro hi _;refine bS.succ (bS.mq (ih hi trivial) (ig s) λF n h1 hF=>?_);show mz s _ (jO F (aX F n) (bE F n) (aN F n) (bR F n) (bK F n) s (kd s i) (po s i) (tx s i));unfold jO wx;rw[kZ hl hi hF de,kZ hl hi hF de,kZ hl hi hF de,kZ hl hi hF de];have hu:(sy s i==[45])=eQ/\(sy s i==[43])=eQ/\(sy s i==[33])=eQ/\(sy s i==[126])=eQ:=by unfold vE at h;grind
  obtain⟨u1,u2,u3,u4⟩:=hu;rw[u1,u2,u3,u4];revert h1;cases bK F n s (kd s i) (po s i) (tx s i)with
  | none=>exact id|some X=>cases X with|inl X=>simp_all[aE,aJ,jj,sm,d5.eta]|inr X=>simp_all[aE,aJ,jj,sm,d5.eta]
 | @GO i p c h d ih=>intro hi _;obtain⟨m1,m2⟩:=dP hi (Bc h);refine bS.succ (bS.mq (ih m1 trivial) (ig s) λF n h1 hF=>?_);show mz s _ (jO F (aX F n) (bE F n) (aN F n) (bR F n) (bK F n) s (kd s i) (po s i) (tx s i));unfold jO wx;rw[kZ hl hi hF de,kZ hl hi hF de,kZ hl hi hF de,kZ hl hi hF de,uj hl hi hF];obtain⟨st,h1⟩:=h1;simp only[aE,h1];unfold vE at h;revert h;cases (sy s i==[45])<;>cases (sy s i==[43])<;>cases (sy s i==[33])<;>cases (sy s i==[126])<;>intro h<;>first|exact⟨_,rfl⟩|exact absurd rfl h
 | @Ni i j a h d ih=>intro hi _;obtain⟨m1,m2⟩:=dP hi (Bc h);refine bS.succ (bS.mq (ih m1 trivial) (ig s) λF n h1 hF=>?_);show mz s _ (jO F (aX F n) (bE F n) (aN F n) (bR F n) (bK F n) s (kd s i) (po s i) (tx s i));unfold jO wx;rw[kZ hl hi hF de,kZ hl hi hF de,kZ hl hi hF de,kZ hl hi hF de,uj hl hi hF];have h1:bR F n s _ _ _=_:=h1;simp only[aE,h1];unfold vE at h⊢;revert h;cases (sy s i==[45])<;>cases (sy s i==[43])<;>cases (sy s i==[33])<;>cases (sy s i==[126])<;>intro h<;>first|rfl|exact absurd rfl h
 | @GP i h hv=>intro hi _;refine bS.succ (bS.mono (ig s) λF n hF=>?_);show mz s _ (cN F (aX F n) (bE F n) (aN F n) (bR F n) (bK F n) s (kd s i) (po s i) (tx s i));unfold cN wx;rw[adU hl hi hF h,uj hl hi hF,h];simp only[HB,aU,aE,hv,Mj,aJ];rfl
 | @Cr i h hv=>
  intro hi _;refine bS.succ (bS.mono (ig s) λF n hF=>?_);show mz s _ (cN F (aX F n) (bE F n) (aN F n) (bR F n) (bK F n) s (kd s i) (po s i) (tx s i));unfold cN wx;have jT:((p4 (tx s i)).2 != 0)=hJ:=by simpa using hv
  rw[adU hl hi hF h,h];simp only[HB,aU,aE,jT];exact⟨_,rfl⟩
 | @GQ i h hv=>intro hi _;refine bS.succ (bS.mono (ig s) λF n hF=>?_);show mz s _ (cN F (aX F n) (bE F n) (aN F n) (bR F n) (bK F n) s (kd s i) (po s i) (tx s i));unfold cN wx;rw[Yt hl hi hF hv,h];rfl
 | @Cs i h hv=>intro hi _;refine bS.succ (bS.mono (ig s) λF n hF=>?_);show mz s _ (cN F (aX F n) (bE F n) (aN F n) (bR F n) (bK F n) s (kd s i) (po s i) (tx s i));unfold cN wx;rw[ak8 hl hi hF hv,h];exact⟨_,rfl⟩
 | @GR i h1 h2 h=>
  intro hi _;refine bS.succ (bS.mono (ig s) λF n hF=>?_);show mz s _ (cN F (aX F n) (bE F n) (aN F n) (bR F n) (bK F n) s (kd s i) (po s i) (tx s i));unfold cN wx;have k1:(kd s i==1)=eQ:=by simp_all
  have k2:(kd s i==2)=eQ:=by simp_all
  rw[Qu hl hi hF de h,k1,k2];exact⟨_,rfl⟩
 | @Nj i p c h d ih=>intro hi _;obtain⟨m1,m2⟩:=dP hi (by rw[h];decide);refine bS.succ (bS.mq (ih m1 trivial) (ig s) λF n h1 hF=>?_);show mz s _ (cN F (aX F n) (bE F n) (aN F n) (bR F n) (bK F n) s (kd s i) (po s i) (tx s i));unfold cN wx;have hk:=(Cm s i hi (by rw[h];decide)).1;obtain⟨st,h1⟩:=h1;rw[yP hl hi hF de h,hk];simp only[aE,sm];rw[h1];exact⟨_,rfl⟩
 | @yO i j e h d h2 ih=>intro hi _;obtain⟨m1,m2⟩:=dP hi (by rw[h];decide);obtain⟨x,y,z⟩:=nG d m1 trivial;refine bS.succ (bS.mq (ih m1 trivial) (ig s) λF n h1 hF=>?_);show mz s _ (cN F (aX F n) (bE F n) (aN F n) (bR F n) (bK F n) s (kd s i) (po s i) (tx s i));unfold cN wx;have hk:=(Cm s i hi (by rw[h];decide)).1;have h1:aX F n s _ _ _=_:=h1;rw[yP hl hi hF de h,hk];simp only[aE,sm];rw[h1];simp only[aE,sm];rw[Qu hl y hF de h2];exact⟨_,rfl⟩
 | @Nk i j e h d h2 ih=>intro hi _;obtain⟨m1,m2⟩:=dP hi (by rw[h];decide);obtain⟨x,y,z⟩:=nG d m1 trivial;refine bS.succ (bS.mq (ih m1 trivial) (ig s) λF n h1 hF=>?_);show mz s _ (cN F (aX F n) (bE F n) (aN F n) (bR F n) (bK F n) s (kd s i) (po s i) (tx s i));unfold cN wx;have hk:=(Cm s i hi (by rw[h];decide)).1;have h1:aX F n s _ _ _=_:=h1;rw[yP hl hi hF de h,hk];simp only[aE,sm];rw[h1];simp only[aE,sm];rw[yP hl y hF de h2];simp only[aE,sm,d5.eta];rfl
abbrev RR:=d5×Bs×Int×Int×Int
abbrev SR:=Bs×Int×Int×Int×Int×Int×Bs×(J d5)
def lN(s:Bs):wJ->O RR->Prop|.ok e j,x=>∃a:Nat,a<=Ts s/\skip s a=skip s j/\x=iN (e,s,(a:Int),0,0)|.err p c,x=>c≠0/\∃(e:d5)(a:Nat),a<=Ts s/\x=iN (e,s,(a:Int),c,(p:Int))
def tF(F:Nat)(r:Int->Bs->Int->Int->Int->O RR)(l:Int):(SR->O RR)->SR->O RR:=
 (λlP x3=>
 cond (x3.2.2.1==0)
 ((iJ F x3.1 x3.2.1 x3.2.2.1 x3.2.2.2.1).bind λx5=>
 (mw F x5.1 l).bind λx6=>
 cond (x6==0)
 (iN ((d5.mk ((d5.mk x3.2.2.2.2.1 x3.2.2.2.2.2.1 x3.2.2.2.2.2.2.1 x3.2.2.2.2.2.2.2).fOp) ((d5.mk x3.2.2.2.2.1 x3.2.2.2.2.2.1 x3.2.2.2.2.2.2.1 x3.2.2.2.2.2.2.2).fN) ((d5.mk x3.2.2.2.2.1 x3.2.2.2.2.2.1 x3.2.2.2.2.2.2.1 x3.2.2.2.2.2.2.2).fName) ((d5.mk x3.2.2.2.2.1 x3.2.2.2.2.2.1 x3.2.2.2.2.2.2.1 x3.2.2.2.2.2.2.2).fKids)),x5.2.1,x5.2.2.1,x5.2.2.2.1,x5.2.2.2.2))
 ((r (aD (l+1)) x5.2.1 (aD (x5.2.2.1+(Ts x5.1:Int))) x5.2.2.2.1 x5.2.2.2.2).bind λx7=>
 lP (x7.2.1,x7.2.2.1,x7.2.2.2.1,x7.2.2.2.2,(d5.mk x6 0 [] ([(d5.mk x3.2.2.2.2.1 x3.2.2.2.2.2.1 x3.2.2.2.2.2.2.1 x3.2.2.2.2.2.2.2),x7.1]:J d5)).fOp,(d5.mk x6 0 [] ([(d5.mk x3.2.2.2.2.1 x3.2.2.2.2.2.1 x3.2.2.2.2.2.2.1 x3.2.2.2.2.2.2.2),x7.1]:J d5)).fN,(d5.mk x6 0 [] ([(d5.mk x3.2.2.2.2.1 x3.2.2.2.2.2.1 x3.2.2.2.2.2.2.1 x3.2.2.2.2.2.2.2),x7.1]:J d5)).fName,(d5.mk x6 0 [] ([(d5.mk x3.2.2.2.2.1 x3.2.2.2.2.2.1 x3.2.2.2.2.2.2.1 x3.2.2.2.2.2.2.2),x7.1]:J d5)).fKids)))
 (iN ((d5.mk ((d5.mk x3.2.2.2.2.1 x3.2.2.2.2.2.1 x3.2.2.2.2.2.2.1 x3.2.2.2.2.2.2.2).fOp) ((d5.mk x3.2.2.2.2.1 x3.2.2.2.2.2.1 x3.2.2.2.2.2.2.1 x3.2.2.2.2.2.2.2).fN) ((d5.mk x3.2.2.2.2.1 x3.2.2.2.2.2.1 x3.2.2.2.2.2.2.1 x3.2.2.2.2.2.2.2).fName) ((d5.mk x3.2.2.2.2.1 x3.2.2.2.2.2.1 x3.2.2.2.2.2.2.1 x3.2.2.2.2.2.2.2).fKids)),x3.1,x3.2.1,x3.2.2.1,x3.2.2.2.1)))
variable{a:Nat}
section
variable (h : skip s a = skip s i)
include h
theorem jG:sy s a=sy s i:=by unfold sy;rw[h]
theorem Hu:kd s a=kd s i:=by unfold kd vf;rw[h]
theorem Be:tx s a=tx s i:=by unfold tx vf;rw[h]
theorem ld:nx s a=nx s i:=by unfold nx;rw[h,Be h]
theorem Nl:jY s a=jY s i:=by unfold jY;rw[Hu h,ld h]
end
theorem agp:∀x,x∈([]::qA)->uh x=-1\/0<=uh x:=by decide
theorem ak9:∀n:Fin 256,dg (lL n.val)=hJ->le (lL n.val)=eQ:=by decide +kernel
def ai3(b:UInt8):dg b=hJ->le b=eQ:=Ut (P:=λb=>dg b=hJ->le b=eQ) ak9 b
theorem Iw(X:O RR):(X.bind λx=>iN ((d5.mk x.1.fOp x.1.fN x.1.fName x.1.fKids),x.2.1,x.2.2.1,x.2.2.2.1,x.2.2.2.2))=X:=by cases X with|none=>rfl|some y=>simp_all
section
variable (hl : s.length <= 1000000) (hi : a <= s.length) (hF : s.length + 60 <= F)
include hl hi hF
theorem zV(hx:x≠[])(h:sy s a=x):ja F x s (a:Int) 0 0=iN (hJ,s,(nx s a:Int),0,0):=by
 unfold ja wx;rw[oD F s a 0 0 hi om hl];obtain⟨m1,m2⟩:=dP hi (by rw[h];exact hx);have e:sy s a=oQ (s.drop (skip s a)):=rfl;have e2:nx s a=skip s a+Ts x:=by unfold nx;simp_all[Cm]
 grind[bL]
theorem abE(h:sy s a≠x):ja F x s (a:Int) 0 0=iN (eQ,s,(skip s a:Int),0,0):=by unfold ja wx;rw[oD F s a 0 0 hi om hl];have e:sy s a=oQ (s.drop (skip s a)):=rfl;grind
omit hl hi hF in
theorem Qv{at' c p:Int}(hc:c≠0):ja F x s at' c p=iN (eQ,s,at',c,p):=by
 unfold ja wx;have:(c != 0)=hJ:=by simpa using hc
 rw[this];rfl
omit hl hi hF in
theorem Uw{at' c p c' p':Int}(hc:c≠0):gL F c' p' s at' c p=iN (s,at',c,p):=by
 unfold gL wx;have:(c==0)=eQ:=by simpa using hc
 rw[this];rfl
theorem HT(rs rc:Bs->Int->Int->Int->O RR)(rl:Int->Bs->Int->Int->Int->O RR)(ru rp:Bs->Int->Int->Int->O RR)(e pos:Int):
  jF F rs rc rl ru rp s (a:Int) e pos=cond (jY s a == -1) (rc s (skip s a:Int) e pos)
   ((rs s (nx s (nx s a):Int) (cond (rName (tx s a)) e (cond (e==0) 10 e)) (cond (rName (tx s a)) pos (cond (e==0) (skip s a:Int) pos))).bind λx=>iN (.mk 26 (jY s a) (tx s a) [x.1],x.2.1,x.2.2.1,x.2.2.2.1,x.2.2.2.2)):=by
 obtain⟨s1,s2⟩:=iU s a hi;unfold jF wx;rw[uF F s a e pos hi om hl];simp only[aE];rw[Nc F s _ e pos s1 om hl];simp only[aE];have hno:∀X:O ((Bs×Int×Int×Int) ⊕ RR),X=iN (.inl (s,(skip s a:Int),e,pos))->jY s a=-1 ->
   (jj (σ:=Bs×Int×Int×Int) (R:=RR) X λx3=>(rc x3.1 x3.2.1 x3.2.2.1 x3.2.2.2).bind λgp=>iN ((d5.mk gp.1.fOp gp.1.fN gp.1.fName gp.1.fKids),gp.2.1,gp.2.2.1,gp.2.2.2.1,gp.2.2.2.2))=rc s (skip s a:Int) e pos:=by
  intro X hX _;rw[hX];show(rc s (skip s a:Int) e pos).bind _=_;exact Iw _
 have hk2:kd s a≠2->jY s a=-1:=by
  intro hk;unfold jY;have:(kd s a==2)=eQ:=by rw[iu];exact hk
  rw[this];rfl
 rcases nF s a hi with⟨h',_,hw,_⟩|⟨w,b,h',_,hw,hd,hl'⟩|⟨w,b,h',hs,hw,hd,hl'⟩|⟨x',h',_,hw,hm,_⟩|⟨b,h',_,hw,_⟩
 ·have ha:=hk2 (by unfold kd;rw[h'];simp);rw[hno _ (by rw[hw];rfl) ha,ha];rfl
 ·have ha:=hk2 (by unfold kd;rw[h'];simp)
  rw[hno _ (by
   rw[hw];have hp:eK (0<(Ts (b::w):Int))=hJ:=eN (by simp only[qi];omega);show(((rq (eK (0<(Ts (b::w):Int))) ((o6 F (b.toNat:Int)).bind λx5=>iN x5)):O Bool).bind _)=_;rw[hp,xO,ai3 b hd];rfl) ha,ha]
  rfl
 ·have hk:kd s a=2:=by unfold kd;rw[h']
  have ht:tx s a=b::w:=by unfold tx;rw[h']
  obtain⟨m1,m2,_⟩:=lU s a hi;have hn:(skip s a:Int)+(Ts (b::w):Int)=(nx s a:Int):=by unfold nx;rw[ht];omega
  have has:jY s a=uh (sy s (nx s a)):=by unfold jY;rw[hk];rfl
  rw[hw];have hp:eK (0<(Ts (b::w):Int))=hJ:=eN (by simp only[qi];omega);have hne:(!((b::w)==[]))=hJ:=rfl;simp only[hne,aU,hp,ir,Rk,xO,hd,aE,hn];rw[bL (x:=(nx s a:Int)) om,oD F s (nx s a) e pos m1 om hl];simp only[aE];rw[show oQ (s.drop (skip s (nx s a)))=sy s (nx s a)from rfl];have avx:sU F (sy s (nx s a))=iN (uh (sy s (nx s a))):=by obtain⟨G,rfl⟩:∃G,F=G+20:=⟨F-20,om⟩;exact(zU s (nx s a)).asr G
  rw[avx];simp only[aE];rcases agp _ (Qs s (nx s a))with hz|hz
  ·rw[has,hz];show(rc s (skip s a:Int) e pos).bind _=_;exact Iw _
  ·have hz1:(uh (sy s (nx s a)) == -1)=eQ:=by rw[iu];omega
   obtain⟨_,_,m3,_⟩:=xR hi (by rw[has];omega);have hx:=adT (x:=sy s (nx s a)) om;have hnn:(skip s (nx s a):Int)+(Ts (sy s (nx s a)):Int)=(nx s (nx s a):Int):=by have h2:=(Cm s _ m1 hx).2;have h3:nx s (nx s a)=skip s (nx s a)+Ts (tx s (nx s a)):=rfl;rw[h3,h2];omega
   rw[has,hz1,eN hz,Aj F _ om,ht];simp only[aE,aU,aJ];cases hr:rName (b::w)with
   | true=>simp only[ia,aJ,aU,aE,hnn];rw[bL (x:=(nx s (nx s a):Int)) om];cases rs s (nx s (nx s a):Int) e pos<;>rfl
   | false=>
    unfold gL wx;cases he:(e==0)with
    | true=>simp only[qm,aJ,aU,aE,hnn];rw[bL (x:=(nx s (nx s a):Int)) om];cases rs s (nx s (nx s a):Int) 10 (skip s a:Int)<;>rfl
    | false=>simp only[qm,aJ,aU,aE,hnn];rw[bL (x:=(nx s (nx s a):Int)) om];cases rs s (nx s (nx s a):Int) e pos<;>rfl
 ·have ha:=hk2 (by unfold kd;rw[h'];simp);rw[hno _ (by rw[hw];rfl) ha,ha];rfl
 ·have ha:=hk2 (by unfold kd;rw[h'];simp);rw[hno _ (by rw[hw];rfl) ha,ha];rfl
end
theorem aqb(G:Nat)(x:Bs)(k:Int->O RR)(z:O RR):bX (σ:=Int) (λiI x2=>
   (cond (eK (x2<=6)) (iN ((0:Int)==0)) (iN eQ):O Bool).bind λx4=>cond x4 ((GU (G+10) x2).bind λx5=>cond (x==x5) (k x2) (iI (aD (x2+1)))) z) (G+10) 3 =
  cond (x==[45]) (k 3) (cond (x==[43]) (k 4) (cond (x==[33]) (k 5) (cond (x==[126]) (k 6) z))):=by kernel_rfl
section
variable (hl : s.length <= 1000000) (hi : a <= s.length) (hF : s.length + 60 <= F)
include hl hi hF
theorem ai4(rs rc:Bs->Int->Int->Int->O RR)(rl:Int->Bs->Int->Int->Int->O RR)(ru rp:Bs->Int->Int->Int->O RR):
  gQ F rs rc rl ru rp s (a:Int) 0 0=cond (vE (sy s a)==0) (rp s (skip s a:Int) 0 0)
   ((ru s (nx s a:Int) 0 0).bind λx=>iN (.mk (vE (sy s a)) 0 [] [x.1],x.2.1,x.2.2.1,x.2.2.2.1,x.2.2.2.2)):=by
 unfold gQ wx;rw[oD F s a 0 0 hi om hl];obtain⟨G,rfl⟩:∃G,F=G+10:=⟨F-10,om⟩;have key:=aqb G (sy s a) (λx2=>(ru s (aD ((skip s a:Int)+(Ts (sy s a):Int))) 0 0).bind λx6=>iN ((d5.mk ((d5.mk x2 0 [] ([x6.1]:J d5)).fOp) ((d5.mk x2 0 [] ([x6.1]:J d5)).fN) ((d5.mk x2 0 [] ([x6.1]:J d5)).fName) ((d5.mk x2 0 [] ([x6.1]:J d5)).fKids)),x6.2.1,x6.2.2.1,x6.2.2.2.1,x6.2.2.2.2))
  ((rp s (skip s a:Int) 0 0).bind λx7=>iN ((d5.mk x7.1.fOp x7.1.fN x7.1.fName x7.1.fKids),x7.2.1,x7.2.2.1,x7.2.2.2.1,x7.2.2.2.2))
 refine key.trans ?_;rw[Iw];by_cases hu:vE (sy s a)=0
 ·have hu':(vE (sy s a)==0)=hJ:=by simpa using hu
  unfold vE at hu;grind
 ·have hu':(vE (sy s a)==0)=eQ:=by simp_all
  obtain⟨m1,m2⟩:=dP hi (Bc hu);have hn:(skip s a:Int)+(Ts (sy s a):Int)=(nx s a:Int):=by have h2:=(Cm s a hi (Bc hu)).2;have h3:nx s a=skip s a+Ts (tx s a):=rfl;rw[h3,h2];omega
  rw[hn,bL om];unfold vE at hu⊢;revert hu;cases (sy s a==[45])<;>cases (sy s a==[43])<;>cases (sy s a==[33])<;>cases (sy s a==[126])<;>intro hu<;>first|rfl|(simp at hu;done)
theorem anL(rs rc:Bs->Int->Int->Int->O RR)(rl:Int->Bs->Int->Int->Int->O RR)(ru rp:Bs->Int->Int->Int->O RR){c p:Int}(hc:c≠0):
  gQ F rs rc rl ru rp s (a:Int) c p=rp s (skip s a:Int) c p:=by
 unfold gQ wx;rw[oD F s a c p hi om hl];obtain⟨G,rfl⟩:∃G,F=G+1:=⟨F-1,om⟩;grind[bX,Iw]
theorem ai5(rs rc:Bs->Int->Int->Int->O RR)(rl:Int->Bs->Int->Int->Int->O RR)(ru rp:Bs->Int->Int->Int->O RR){c p:Int}(hc:c≠0):
  cW F rs rc rl ru rp s (a:Int) c p=iN (.mk 0 0 [] [],s,(skip s a:Int),c,p):=by
 unfold cW wx;rw[Qv hc];simp only[aE];obtain⟨s1,s2⟩:=iU s a hi;rw[uF F s a c p hi om hl];simp only[aE];rw[Nc F s _ c p s1 om hl];have tA:(c != 0)=hJ:=by simpa using hc
 simp only[tA];rfl
end
def Eu(s:Bs)(x:O RR)(c p:Int):Prop:=∃(e:d5)(a:Nat),a<=Ts s/\x=iN (e,s,(a:Int),c,p)
def aqc(hl:Ts s<=1000000):bS λF n=>∀a,a<=Ts s->∀c p,c≠0->Eu s (bw F n s ((a:Nat):Int) c p) c p:=bS.succ ((ig s).mono λF n hF a hi c p hc=>⟨_,skip s a,(iU s a hi).1,ai5 hl hi hF (bI F n) (bF F n) (aS F n) (bA F n) (bw F n) hc⟩)
theorem aui(hl:Ts s<=1000000):bS λF n=>∀a,a<=Ts s->∀c p,c≠0->Eu s (bA F n s ((a:Nat):Int) c p) c p:=
 bS.succ ((ig s).mq (aqc hl) λF n hF h a hi c p hc=>by
  show Eu s (gQ F (bI F n) (bF F n) (aS F n) (bA F n) (bw F n) s (a:Int) c p) c p
  simp_all[anL,iU])
theorem KO(F:Nat)(rs rc:Bs->Int->Int->Int->O RR)(rl:Int->Bs->Int->Int->Int->O RR)(ru rp:Bs->Int->Int->Int->O RR)(l:Int)(h3:3<=l)(hl:l<=12)(s:Bs)(at' c p:Int):
  fY F rs rc rl ru rp l s at' c p=(rl (l+1) s at' c p).bind λx2=>bX (tF F rl l) F (x2.2.1,x2.2.2.1,x2.2.2.2.1,x2.2.2.2.2,x2.1.fOp,x2.1.fN,x2.1.fName,x2.1.fKids):=by
 unfold fY tF wx;grind[decide_eq_false,bL]
theorem Tx(F:Nat)(rs rc:Bs->Int->Int->Int->O RR)(rl:Int->Bs->Int->Int->Int->O RR)(ru rp:Bs->Int->Int->Int->O RR)(l:Int)(hl:12<l)(s:Bs)(at' c p:Int):
  fY F rs rc rl ru rp l s at' c p=ru s at' c p:=by
 unfold fY wx;grind[decide_eq_true,Iw]
theorem Ux(F:Nat)(r:Int->Bs->Int->Int->Int->O RR)(l:Int)(m:Nat)(s:Bs)(at' c p:Int)(a:d5)(hc:c≠0):bX (tF F r l) (m+1) (s,at',c,p,a.fOp,a.fN,a.fName,a.fKids)=iN (a,s,at',c,p):=by
 have tA:(c==0)=eQ:=by simpa using hc
 show tF F r l (bX (tF F r l) m) _=_;unfold tF;simp[tA]
theorem adV{s:Bs}(hl:Ts s<=1000000):∀(k:Nat)(l:Int),l+k=13->3<=l->bS λF n=>∀a,a<=Ts s->∀c p,c≠0->Eu s (aS F n l s ((a:Nat):Int) c p) c p
 | 0,l,hk,h3=>bS.succ ((aui hl).mono λF n h a hi c p hc=>by
   show Eu s (fY F (bI F n) (bF F n) (aS F n) (bA F n) (bw F n) l s (a:Int) c p) c p
   simp_all[Tx])
 | k+1,l,hk,h3=>bS.succ ((ig s).mq (adV hl k (l+1) om om) λF n hF h a hi c p hc=>by
   show Eu s (fY F (bI F n) (bF F n) (aS F n) (bA F n) (bw F n) l s (a:Int) c p) c p;rw[KO F _ _ _ _ _ l h3 om];obtain⟨e,a',gX,hx⟩:=h a hi c p hc;obtain⟨G,rfl⟩:∃G,F=G+1:=⟨F-1,om⟩
   grind[Ux])
theorem aqd(hl:Ts s<=1000000):bS λF n=>∀a,a<=Ts s->∀c p,c≠0->Eu s (bF F n s ((a:Nat):Int) c p) c p:=
 bS.succ ((adV hl 10 3 de de).mono λF n h a hi c p hc=>by
  show Eu s (dN F (bI F n) (bF F n) (aS F n) (bA F n) (bw F n) s (a:Int) c p) c p;unfold dN wx;obtain⟨e,a',gX,hx⟩:=h a hi c p hc;rw[hx];simp;rw[Qv hc];exact⟨_,a',gX,rfl⟩)
theorem ala{s:Bs}(hl:Ts s<=1000000):∀k:Nat,bS λF n=>∀a,a<=Ts s->Ts s-a<k->∀c p,c≠0->Eu s (bI F n s ((a:Nat):Int) c p) c p
 | 0=>bS.of λF n a _ h=>by omega|k+1=>bS.succ ((ig s).DK (aqd hl) (ala hl k) λF n hF h1 h2 a hi hk c p hc=>by
   show Eu s (jF F (bI F n) (bF F n) (aS F n) (bA F n) (bw F n) s (a:Int) c p) c p;rw[HT hl hi hF];cases ha:(jY s a == -1)with
   | true=>simp_all[iU]|false=>
    have tA:(c==0)=eQ:=by simpa using hc
    obtain⟨_,_,m1,m2⟩:=xR hi (by simp_all);simp only[aJ,tA];have e1:cond (rName (tx s a)) c c=c:=by simp_all
    have e2:cond (rName (tx s a)) p p=p:=by simp_all
    rw[e1,e2];obtain⟨e,a',gX,hx⟩:=h2 _ m1 om c p hc;rw[hx];exact⟨_,a',gX,rfl⟩)
def StR(s:Bs):Yr->Nat->wJ->Prop|.expr,i,r=>bS λF n=>∀a,a<=Ts s->skip s a=skip s i->lN s r (bI F n s ((a:Nat):Int) 0 0)|.cond,i,r=>bS λF n=>∀a,a<=Ts s->skip s a=skip s i->lN s r (bF F n s ((a:Nat):Int) 0 0)|.level l,i,r=>bS λF n=>∀a,a<=Ts s->skip s a=skip s i->lN s r (aS F n l s ((a:Nat):Int) 0 0)|.loop l b,i,r=>∃N,∀F n m,N<=F->N<=n->N<=m->∀a,a<=Ts s->skip s a=skip s i->lN s r (bX (tF F (aS F n) l) m (s,((a:Nat):Int),0,0,b.fOp,b.fN,b.fName,b.fKids))|.un,i,r=>bS λF n=>∀a,a<=Ts s->skip s a=skip s i->lN s r (bA F n s ((a:Nat):Int) 0 0)|.o7,i,r=>bS λF n=>∀a,a<=Ts s->skip s a=skip s i->lN s r (bw F n s ((a:Nat):Int) 0 0)
def asx(s:Bs):wJ->Prop|.ok _ j=>j<=Ts s|.err _ c=>c≠0
theorem E4{c:Yr}(d:RD s c i r):i<=Ts s->asx s r:=by
 have nb:∀ {i:Nat},i<=Ts s->nx s i<=Ts s:=λh=>(lU s _ h).1
 induction d with
 | Co h d ih=>exact ih|Cp h hn=>intro _;exact(show(10:Int)≠0 by decide)
 | GG h hn d ih=>intro hi;exact ih (nb (nb hi))|GH h hn d ih=>grind|GJ d ih=>exact ih|GK d h ih=>exact ih|GL d h d2 ih ih2=>intro hi;exact ih2 (nb (ih hi))|GM d h d2 h2 ih ih2=>intro _;exact(show(6:Int)≠0 by decide)
 | Nh d h d2 h2 d3 ih ih2 ih3=>intro hi;exact ih3 (nb (ih2 (nb (ih hi))))|GN d h d2 h2 d3 ih ih2 ih3=>intro hi;exact ih3 (nb (ih2 (nb (ih hi))))|ai1 hl d ih=>exact ih|abD h3 hl d ih=>exact ih|anJ h3 hl d d2 ih ih2=>intro hi;exact ih2 (ih hi)|xQ h=>exact id|Et h d ih=>simp_all|Iu h d d2 ih ih2=>intro hi;exact ih2 (ih (nb hi))|Cq h d ih=>exact ih|GO h d ih=>simp_all|Ni h d ih=>intro hi;exact ih (nb hi)|GP h hv=>exact nb|Cr h hv=>intro _;exact hv|GQ h hv=>exact nb|Cs h hv=>intro _;exact(show(10:Int)≠0 by decide)
 | GR h1 h2 h=>intro _;exact(show(6:Int)≠0 by decide)
 | Nj h d ih=>simp_all|yO h d h2 ih=>intro _;exact(show(6:Int)≠0 by decide)
 | Nk h d h2 ih=>intro hi;exact nb (ih (nb hi))
theorem E5(hl:Ts s<=1000000)(hi:a<=Ts s)(hF:Ts s+60<=F)(h:sy s a≠[40])(rs rc:Bs->Int->Int->Int->O RR)(rl:Int->Bs->Int->Int->Int->O RR)(ru rp:Bs->Int->Int->Int->O RR):
  cW F rs rc rl ru rp s (a:Int) 0 0=cond (mH s (skip s a)==[]) (iN (.mk 0 0 [] [],s,(skip s a:Int),6,(skip s a:Int)))
   (rq (eK (0<(Ts (mH s (skip s a)):Int))) ((o6 F (((mH s (skip s a)).getD 0 0).toNat:Int)).bind λx8=>
    cond x8 (cond (rName (mH s (skip s a))) (iN (.mk 2 0 (mH s (skip s a)) [],s,aD ((skip s a:Int)+(Ts (mH s (skip s a)):Int)),0,0)) (iN (.mk 2 0 (mH s (skip s a)) [],s,aD ((skip s a:Int)+(Ts (mH s (skip s a)):Int)),10,(skip s a:Int))))
     ((mU F (mH s (skip s a))).bind λgm=>cond (cond (gm.2==0&&eK (9223372036854775807<gm.1)) 14 gm.2 != 0)
       (iN (.mk 0 0 [] [],s,(skip s a:Int),cond (gm.2==0&&eK (9223372036854775807<gm.1)) 14 gm.2,(skip s a:Int)))
       (iN (.mk 1 (aD gm.1) [] [],s,aD ((skip s a:Int)+(Ts (mH s (skip s a)):Int)),0,0))))):=by
 obtain⟨s1,s2⟩:=iU s a hi;unfold cW wx;rw[abE hl hi hF h];simp only[aE];rw[uF F s (skip s a) 0 0 s1 om hl,xN];simp only[aE];rw[Nc F s _ 0 0 s1 om hl];simp only[aE];generalize mH s (skip s a)=w;rw[Aj F w om];cases (w==[])with
 | true=>rfl|false=>
  simp;congr 1;congr 1;funext x8;cases x8 with
  | true=>cases rName w<;>rfl
  | false=>
   simp;congr 1;funext gm;cases (gm.2==0)with
   | false=>simp;cases (gm.2 != 0)<;>rfl
   | true=>
    cases eK (9223372036854775807<gm.1)with
    | false=>simp;cases (gm.2 != 0)<;>rfl
    | true=>rfl
theorem agq(hl:Ts s<=1000000)(hi:a<=Ts s)(hF:Ts s+60<=F){l:Int}(h3:3<=l)(hlv:nV s a=l)(awn:l<=12)(r:Int->Bs->Int->Int->Int->O RR)(rc:SR->O RR)(e:d5):
  tF F r l rc (s,(a:Int),0,0,e.fOp,e.fN,e.fName,e.fKids)=(r (l+1) s (nx s a:Int) 0 0).bind λx7=>rc (x7.2.1,x7.2.2.1,x7.2.2.2.1,x7.2.2.2.2,(gP (sy s a)).2,0,[],[e,x7.1]):=by
 have hne:=AH (l:=l) om (by show l<=nV s a;omega);obtain⟨m1,m2⟩:=dP hi hne;have hn:(skip s a:Int)+(Ts (sy s a):Int)=(nx s a:Int):=by have h2:=(Cm s a hi hne).2;have h3:nx s a=skip s a+Ts (tx s a):=rfl;rw[h3,h2];omega
 have hop:=(zU s a).op (show nV s a≠0 by omega);have anM:mw F (sy s a) l=iN (gP (sy s a)).2:=by obtain⟨G,rfl⟩:∃G,F=G+20:=⟨F-20,om⟩;rw[(zU s a).bir,show((gP (sy s a)).1==l)=hJ by simp_all];rfl
 unfold tF;rw[oD F s a 0 0 hi om hl];simp;rw[show oQ (s.drop (skip s a))=sy s a from rfl,anM];have hz:((gP (sy s a)).2==0)=eQ:=by grind
 simp[hz,hn];rw[bL (x:=(nx s a:Int)) om,bL om];rfl
def Yr.ok:Yr->Prop|.loop l _=>3<=l/\l<=12|_=>True
theorem WT(x:Bs)(h:(p4 x).2=0):0<=(p4 x).1/\(p4 x).1<=9223372036854775807:=by
 unfold p4 at h⊢;cases hb:((mX x).2==[])with
 | true=>rw[hb]at h;cases h
 | false=>unfold rA at h⊢;grind
theorem avy(hl:Ts s<=1000000){c:Yr}(d:RD s c i r):i<=Ts s->c.ok->StR s c i r:=by
 have nb:∀ {i:Nat},i<=Ts s->nx s i<=Ts s:=λh=>(lU s _ h).1
 induction d with
 | @Co i r h d ih=>intro hi hok;refine bS.succ (bS.mq (ih hi trivial) (ig s) λF n h1 hF a ha hs=>?_);show lN s r (jF F (bI F n) (bF F n) (aS F n) (bA F n) (bw F n) s (a:Int) 0 0);grind[HT,Nl,iU,xN]
 | @Cp i h hn=>
  intro hi hok;refine bS.succ (bS.mq (ala hl (Ts s+1)) (ig s) λF n h1 hF a ha hs=>?_);show lN s _ (jF F (bI F n) (bF F n) (aS F n) (bA F n) (bw F n) s (a:Int) 0 0);have hb:(jY s i == -1)=eQ:=by simp_all
  rw[HT hl ha hF,Nl hs,hb,Be hs,hn,hs];simp only[aJ,HB,aU];obtain⟨e,a',gX,hx⟩:=h1 (nx s (nx s a)) (nb (nb ha)) om 10 (skip s i:Int) de;rw[hx];exact⟨by decide,_,a',gX,rfl⟩
 | @GG i j e h hn d ih=>
  intro hi hok;refine bS.succ (bS.mq (ih (nb (nb hi)) trivial) (ig s) λF n h1 hF a ha hs=>?_);show lN s _ (jF F (bI F n) (bF F n) (aS F n) (bA F n) (bw F n) s (a:Int) 0 0);have hb:(jY s i == -1)=eQ:=by simp_all
  rw[HT hl ha hF,Nl hs,hb,Be hs,hn,ld hs];simp only[aJ,aU];obtain⟨a',gX,hs',hx⟩:=h1 (nx s (nx s i)) (nb (nb hi)) rfl;rw[hx];exact⟨a',gX,hs',rfl⟩
 | @GH i p c h hn d ih=>
  intro hi hok;refine bS.succ (bS.mq (ih (nb (nb hi)) trivial) (ig s) λF n h1 hF a ha hs=>?_);show lN s _ (jF F (bI F n) (bF F n) (aS F n) (bA F n) (bw F n) s (a:Int) 0 0);have hb:(jY s i == -1)=eQ:=by simp_all
  rw[HT hl ha hF,Nl hs,hb,Be hs,hn,ld hs];simp only[aJ,aU];obtain⟨hc,e,a',gX,hx⟩:=h1 (nx s (nx s i)) (nb (nb hi)) rfl;rw[hx];exact⟨hc,_,a',gX,rfl⟩
 | @GJ i p c d ih=>intro hi hok;refine bS.succ (bS.mono (ih hi trivial) λF n h1 a ha hs=>?_);show lN s _ (dN F (bI F n) (bF F n) (aS F n) (bA F n) (bw F n) s (a:Int) 0 0);unfold dN wx;obtain⟨hc,e,a',gX,hx⟩:=h1 a ha hs;rw[hx];simp only[aE];rw[Qv hc];exact⟨hc,_,a',gX,rfl⟩
 | @GK i j e d h ih=>intro hi hok;refine bS.succ (bS.mq (ih hi trivial) (ig s) λF n h1 hF a ha hs=>?_);show lN s _ (dN F (bI F n) (bF F n) (aS F n) (bA F n) (bw F n) s (a:Int) 0 0);unfold dN wx;obtain⟨a',gX,hs',hx⟩:=h1 a ha hs;rw[hx];simp only[aE];rw[abE hl gX hF (by rw[jG hs'];exact h)];simp only[aE,qm,aU,d5.eta];exact⟨skip s a',(iU s a' gX).1,(xN s a').trans hs',rfl⟩
 | @GL i j p c e d h d2 ih ih2=>intro hi hok;have hj:j<=Ts s:=E4 d hi;refine bS.succ (bS.DK (ih hi trivial) (ih2 (nb hj) trivial) (ig s) λF n h1 h2 hF a ha hs=>?_);show lN s _ (dN F (bI F n) (bF F n) (aS F n) (bA F n) (bw F n) s (a:Int) 0 0);unfold dN wx;obtain⟨a',gX,hs',hx⟩:=h1 a ha hs;rw[hx];simp only[aE];rw[zV hl gX hF de (by rw[jG hs'];exact h),ld hs'];simp only[aE,ia,aJ];obtain⟨hc,e2,a2,tL,hx2⟩:=h2 _ (nb hj) rfl;rw[hx2];simp only[aE];rw[Qv hc];simp only[aE,qm,aU];rw[Uw hc];exact⟨hc,_,a2,tL,rfl⟩
 | @GM i j k e e2 d h d2 h2 ih ih2=>intro hi hok;have hj:j<=Ts s:=E4 d hi;refine bS.succ (bS.DK (ih hi trivial) (ih2 (nb hj) trivial) (ig s) λF n h1 h3 hF a ha hs=>?_);show lN s _ (dN F (bI F n) (bF F n) (aS F n) (bA F n) (bw F n) s (a:Int) 0 0);unfold dN wx;obtain⟨a',gX,hs',hx⟩:=h1 a ha hs;rw[hx];simp only[aE];rw[zV hl gX hF de (by rw[jG hs'];exact h),ld hs'];simp only[aE,ia,aJ];obtain⟨a2,tL,hs2,hx2⟩:=h3 _ (nb hj) rfl;rw[hx2];simp only[aE];rw[abE hl tL hF (by rw[jG hs2];exact h2),hs2];exact⟨by decide,_,skip s k,(by rw[<-hs2];exact(iU s a2 tL).1),rfl⟩
 | @Nh i j k p c e e2 d h d2 h2 d3 ih ih2 ih3=>intro hi hok;have hj:j<=Ts s:=E4 d hi;have hk:k<=Ts s:=E4 d2 (nb hj);refine bS.succ (bS.DK ((ih hi trivial).and (ih3 (nb hk) trivial)) (ih2 (nb hj) trivial) (ig s) λF n h1 h3 hF a ha hs=>?_);obtain⟨h1,h4⟩:=h1;show lN s _ (dN F (bI F n) (bF F n) (aS F n) (bA F n) (bw F n) s (a:Int) 0 0);unfold dN wx;obtain⟨a',gX,hs',hx⟩:=h1 a ha hs;rw[hx];simp only[aE];rw[zV hl gX hF de (by rw[jG hs'];exact h),ld hs'];simp only[aE,ia,aJ];obtain⟨a2,tL,hs2,hx2⟩:=h3 _ (nb hj) rfl;rw[hx2];simp only[aE];rw[zV hl tL hF de (by rw[jG hs2];exact h2),ld hs2];simp only[aE,ia,aJ];obtain⟨hc,e4,a4,ha4,hx4⟩:=h4 _ (nb hk) rfl;rw[hx4];exact⟨hc,_,a4,ha4,rfl⟩
 | @GN i j k m e e2 e3 d h d2 h2 d3 ih ih2 ih3=>intro hi hok;have hj:j<=Ts s:=E4 d hi;have hk:k<=Ts s:=E4 d2 (nb hj);refine bS.succ (bS.DK ((ih hi trivial).and (ih3 (nb hk) trivial)) (ih2 (nb hj) trivial) (ig s) λF n h1 h3 hF a ha hs=>?_);obtain⟨h1,h4⟩:=h1;show lN s _ (dN F (bI F n) (bF F n) (aS F n) (bA F n) (bw F n) s (a:Int) 0 0);unfold dN wx;obtain⟨a',gX,hs',hx⟩:=h1 a ha hs;rw[hx];simp only[aE];rw[zV hl gX hF de (by rw[jG hs'];exact h),ld hs'];simp only[aE,ia,aJ];obtain⟨a2,tL,hs2,hx2⟩:=h3 _ (nb hj) rfl;rw[hx2];simp only[aE];rw[zV hl tL hF de (by rw[jG hs2];exact h2),ld hs2];simp only[aE,ia,aJ];obtain⟨a4,ha4,hs4,hx4⟩:=h4 _ (nb hk) rfl;rw[hx4];simp only[aE,d5.eta];exact⟨a4,ha4,hs4,rfl⟩
 | @ai1 l i r hv d ih=>intro hi hok;refine bS.succ (bS.mono (ih hi trivial) λF n h1 a ha hs=>?_);show lN s _ (fY F (bI F n) (bF F n) (aS F n) (bA F n) (bw F n) l s (a:Int) 0 0);simp_all[Tx]
 | @abD l i p c h3 hv d ih=>intro hi hok;refine bS.succ (bS.mq (ih hi trivial) (ig s) λF n h1 hF a ha hs=>?_);show lN s _ (fY F (bI F n) (bF F n) (aS F n) (bA F n) (bw F n) l s (a:Int) 0 0);rw[KO F _ _ _ _ _ l h3 hv];obtain⟨hc,e,a',gX,hx⟩:=h1 a ha hs;rw[hx];obtain⟨G,rfl⟩:∃G,F=G+1:=⟨F-1,om⟩;grind[Ux]
 | @anJ l i j e r h3 hv d d2 ih ih2=>intro hi hok;have hj:j<=Ts s:=E4 d hi;obtain⟨N,h2⟩:=ih2 hj ⟨h3,hv⟩;refine bS.succ (bS.mq (ih hi trivial) (bS.ge (p:=λF n=>N<=F/\N<=n) N λF n a b=>⟨a,b⟩) λF n h1 hN a ha hs=>?_);show lN s _ (fY F (bI F n) (bF F n) (aS F n) (bA F n) (bw F n) l s (a:Int) 0 0);rw[KO F _ _ _ _ _ l h3 hv];obtain⟨a',gX,hs',hx⟩:=h1 a ha hs;simp_all
 | @xQ l i e h=>
  intro hi hok;refine⟨Ts s+60,λF n m hF _ hm a ha hs=>?_⟩;cases m with
  | zero=>omega|succ m=>
   show lN s _ (tF F (aS F n) l (bX (tF F (aS F n) l) m) (s,(a:Int),0,0,e.fOp,e.fN,e.fName,e.fKids));unfold tF;have anM:mw F (sy s a) l=iN 0:=by obtain⟨G,rfl⟩:∃G,F=G+20:=⟨F-20,om⟩;rw[(zU s a).bir,jG hs,show((gP (sy s i)).1==l)=eQ by rw[iu];exact h];rfl
   simp only[HB,aU];rw[oD F s a 0 0 ha om hl];simp only[aE];rw[show oQ (s.drop (skip s a))=sy s a from rfl,anM];simp only[aE,HB,aU,d5.eta];exact⟨skip s a,(iU s a ha).1,(xN s a).trans hs,rfl⟩
 | @Et l i p c e h d ih=>
  intro hi hok;obtain⟨N,h1⟩:=ih (nb hi) trivial;obtain⟨h3,h12⟩:=hok;refine⟨N+Ts s+60,λF n m hF hn hm a ha hs=>?_⟩;cases m with
  | zero=>omega|succ m=>
   cases m with
   | zero=>omega|succ m=>show lN s _ (tF F (aS F n) l (bX (tF F (aS F n) l) (m+1)) (s,(a:Int),0,0,e.fOp,e.fN,e.fName,e.fKids));rw[agq hl ha om h3 (by rw[nV,jG hs];exact h) h12,ld hs,jG hs];obtain⟨hc,e2,a',gX,hx⟩:=h1 F n om om _ (nb hi) rfl;rw[hx];simp only[aE];refine⟨hc,_,a',gX,Ux F (aS F n) l m s (a':Int) c (p:Int) (.mk (gP (sy s i)).2 0 [] [e,e2]) hc⟩
 | @Iu l i j e e2 r h d d2 ih ih2=>
  intro hi hok;have hj:j<=Ts s:=E4 d (nb hi);obtain⟨N,h1⟩:=ih (nb hi) trivial;obtain⟨N2,h2⟩:=ih2 hj hok;obtain⟨h3,h12⟩:=hok;refine⟨N+N2+Ts s+60,λF n m hF hn hm a ha hs=>?_⟩;cases m with
  | zero=>omega|succ m=>show lN s _ (tF F (aS F n) l (bX (tF F (aS F n) l) m) (s,(a:Int),0,0,e.fOp,e.fN,e.fName,e.fKids));rw[agq hl ha om h3 (by rw[nV,jG hs];exact h) h12,ld hs,jG hs];obtain⟨a',gX,hs',hx⟩:=h1 F n om om _ (nb hi) rfl;rw[hx];exact h2 F n m om om om a' gX hs'
 | @Cq i r h d ih=>intro hi hok;refine bS.succ (bS.mq (ih hi trivial) (ig s) λF n h1 hF a ha hs=>?_);show lN s _ (gQ F (bI F n) (bF F n) (aS F n) (bA F n) (bw F n) s (a:Int) 0 0);grind[ai4,jG,iU,xN]
 | @GO i p c h d ih=>
  intro hi hok;refine bS.succ (bS.mq (ih (nb hi) trivial) (ig s) λF n h1 hF a ha hs=>?_);show lN s _ (gQ F (bI F n) (bF F n) (aS F n) (bA F n) (bw F n) s (a:Int) 0 0);have hb:(vE (sy s i)==0)=eQ:=by rw[iu];exact h
  rw[ai4 hl ha hF,jG hs,hb,ld hs];obtain⟨hc,e,a',gX,hx⟩:=h1 _ (nb hi) rfl;rw[hx];exact⟨hc,_,a',gX,rfl⟩
 | @Ni i j e h d ih=>
  intro hi hok;refine bS.succ (bS.mq (ih (nb hi) trivial) (ig s) λF n h1 hF a ha hs=>?_);show lN s _ (gQ F (bI F n) (bF F n) (aS F n) (bA F n) (bw F n) s (a:Int) 0 0);have hb:(vE (sy s i)==0)=eQ:=by rw[iu];exact h
  rw[ai4 hl ha hF,jG hs,hb,ld hs];obtain⟨a',gX,hs',hx⟩:=h1 _ (nb hi) rfl;rw[hx];exact⟨a',gX,hs',rfl⟩
 | @GP i h hv=>
  intro hi hok;refine bS.succ (bS.mono (ig s) λF n hF a ha hs=>?_);show lN s _ (cW F (bI F n) (bF F n) (aS F n) (bA F n) (bw F n) s (a:Int) 0 0);rw[<-Hu hs]at h;rw[<-Be hs]at hv⊢;rw[<-ld hs];rcases nF s a ha with⟨h',_,_,_⟩|⟨w,b,h',Qw,hw,hd,hl'⟩|⟨w,b,h',_,hw,hd,hl'⟩|⟨x',h',_,hw,hm,_⟩|⟨b,h',_,hw,_⟩<;>(first|(unfold kd at h;rw[h']at h;simp at h;done)|skip);have ht:tx s a=b::w:=by unfold tx;rw[h']
  have hn:(nx s a:Int)=(skip s a:Int)+(Ts (b::w):Int):=by unfold nx;rw[ht];omega
  rw[ht]at hv⊢;rw[E5 hl ha hF (by rw[Qw];decide),hw];have hp:eK (0<(Ts (b::w):Int))=hJ:=eN (by simp_all);obtain⟨m,e,c1,c2,c3⟩:=adI F (b::w) si om om;have c3:=c3 hv;rw[hv]at c2;simp only[show((b::w)==[])=eQ from rfl,aJ,hp,ir,Rk,xO,ai3 b hd,aE,c1,c2,Mj];have hrg:=(WT (b::w) hv);rw[c3,bL (x:=(p4 (b::w)).1) om,bL (x:=(skip s a:Int)+(Ts (b::w):Int)) om,<-hn];exact⟨nx s a,nb ha,rfl,rfl⟩
 | @Cr i h hv=>
  intro hi hok;refine bS.succ (bS.mono (ig s) λF n hF a ha hs=>?_);show lN s _ (cW F (bI F n) (bF F n) (aS F n) (bA F n) (bw F n) s (a:Int) 0 0);rw[<-Hu hs]at h;rw[<-Be hs]at hv⊢;rw[<-hs];rcases nF s a ha with⟨h',_,_,_⟩|⟨w,b,h',Qw,hw,hd,hl'⟩|⟨w,b,h',_,hw,hd,hl'⟩|⟨x',h',_,hw,hm,_⟩|⟨b,h',_,hw,_⟩<;>(first|(unfold kd at h;rw[h']at h;simp at h;done)|skip);have ht:tx s a=b::w:=by unfold tx;rw[h']
  rw[ht]at hv⊢;rw[E5 hl ha hF (by rw[Qw];decide),hw];have hp:eK (0<(Ts (b::w):Int))=hJ:=eN (by simp_all);obtain⟨m,e,c1,c2,c3⟩:=adI F (b::w) si om om;have hb:((p4 (b::w)).2 != 0)=hJ:=by simpa using hv
  simp only[show((b::w)==[])=eQ from rfl,aJ,hp,ir,Rk,xO,ai3 b hd,aE,c1,c2,hb,aU];exact⟨hv,_,skip s a,(iU s a ha).1,rfl⟩
 | @GQ i h hv=>
  intro hi hok;refine bS.succ (bS.mono (ig s) λF n hF a ha hs=>?_);show lN s _ (cW F (bI F n) (bF F n) (aS F n) (bA F n) (bw F n) s (a:Int) 0 0);rw[<-Hu hs]at h;rw[<-Be hs]at hv⊢;rw[<-ld hs];rcases nF s a ha with⟨h',_,_,_⟩|⟨w,b,h',_,hw,hd,hl'⟩|⟨w,b,h',Qw,hw,hd,hl'⟩|⟨x',h',_,hw,hm,_⟩|⟨b,h',_,hw,_⟩<;>(first|(unfold kd at h;rw[h']at h;simp at h;done)|skip);have ht:tx s a=b::w:=by unfold tx;rw[h']
  have hn:(nx s a:Int)=(skip s a:Int)+(Ts (b::w):Int):=by unfold nx;rw[ht];omega
  rw[ht]at hv⊢;rw[E5 hl ha hF (by rw[Qw];decide),hw];have hp:eK (0<(Ts (b::w):Int))=hJ:=eN (by simp_all);simp only[show((b::w)==[])=eQ from rfl,aJ,hp,ir,Rk,xO,hd,aE,aU,hv];rw[bL (x:=(skip s a:Int)+(Ts (b::w):Int)) om,<-hn];exact⟨nx s a,nb ha,rfl,rfl⟩
 | @Cs i h hv=>
  intro hi hok;refine bS.succ (bS.mono (ig s) λF n hF a ha hs=>?_);show lN s _ (cW F (bI F n) (bF F n) (aS F n) (bA F n) (bw F n) s (a:Int) 0 0);rw[<-Hu hs]at h;rw[<-Be hs]at hv;rw[<-hs];rcases nF s a ha with⟨h',_,_,_⟩|⟨w,b,h',_,hw,hd,hl'⟩|⟨w,b,h',Qw,hw,hd,hl'⟩|⟨x',h',_,hw,hm,_⟩|⟨b,h',_,hw,_⟩<;>(first|(unfold kd at h;rw[h']at h;simp at h;done)|skip);have ht:tx s a=b::w:=by unfold tx;rw[h']
  have hn:(nx s a:Int)=(skip s a:Int)+(Ts (b::w):Int):=by unfold nx;rw[ht];omega
  rw[ht]at hv;rw[E5 hl ha hF (by rw[Qw];decide),hw];have hp:eK (0<(Ts (b::w):Int))=hJ:=eN (by simp_all);simp only[show((b::w)==[])=eQ from rfl,aJ,hp,ir,Rk,xO,hd,aE,aU,hv];rw[bL (x:=(skip s a:Int)+(Ts (b::w):Int)) om,<-hn];exact⟨by decide,_,nx s a,nb ha,rfl⟩
 | @GR i h1 h2 h=>
  intro hi hok;refine bS.succ (bS.mono (ig s) λF n hF a ha hs=>?_);show lN s _ (cW F (bI F n) (bF F n) (aS F n) (bA F n) (bw F n) s (a:Int) 0 0);rw[<-Hu hs]at h1 h2;rw[<-jG hs]at h;rw[<-hs];have hw:mH s (skip s a)=[]:=by
   rcases nF s a ha with⟨h',_,hw,_⟩|⟨w,b,h',_,hw,hd,hl'⟩|⟨w,b,h',Qw,hw,hd,hl'⟩|⟨x',h',_,hw,hm,_⟩|⟨b,h',_,hw,_⟩
   ·exact hw
   ·unfold kd at h1;simp_all
   ·unfold kd at h2;simp_all
   ·exact hw
   ·exact hw
  rw[E5 hl ha hF h,hw];exact⟨by decide,_,skip s a,(iU s a ha).1,rfl⟩
 | @Nj i p c h d ih=>intro hi hok;refine bS.succ (bS.mq (ih (nb hi) trivial) (ig s) λF n h1 hF a ha hs=>?_);show lN s _ (cW F (bI F n) (bF F n) (aS F n) (bA F n) (bw F n) s (a:Int) 0 0);unfold cW wx;rw[zV hl ha hF de (by rw[jG hs];exact h),ld hs];simp only[aE,aU];obtain⟨hc,e,a',gX,hx⟩:=h1 _ (nb hi) rfl;rw[hx];simp only[aE];rw[Qv hc];simp only[aE,qm,aU];rw[Uw hc];exact⟨hc,_,a',gX,rfl⟩
 | @yO i j e h d h2 ih=>intro hi hok;refine bS.succ (bS.mq (ih (nb hi) trivial) (ig s) λF n h1 hF a ha hs=>?_);show lN s _ (cW F (bI F n) (bF F n) (aS F n) (bA F n) (bw F n) s (a:Int) 0 0);unfold cW wx;rw[zV hl ha hF de (by rw[jG hs];exact h),ld hs];simp only[aE,aU];obtain⟨a',gX,hs',hx⟩:=h1 _ (nb hi) rfl;rw[hx];simp only[aE];rw[abE hl gX hF (by rw[jG hs'];exact h2),hs'];exact⟨by decide,_,skip s j,(by rw[<-hs'];exact(iU s a' gX).1),rfl⟩
 | @Nk i j e h d h2 ih=>intro hi hok;refine bS.succ (bS.mq (ih (nb hi) trivial) (ig s) λF n h1 hF a ha hs=>?_);show lN s _ (cW F (bI F n) (bF F n) (aS F n) (bA F n) (bw F n) s (a:Int) 0 0);unfold cW wx;rw[zV hl ha hF de (by rw[jG hs];exact h),ld hs];simp only[aE,aU];obtain⟨a',gX,hs',hx⟩:=h1 _ (nb hi) rfl;rw[hx];simp only[aE];rw[zV hl gX hF de (by rw[jG hs'];exact h2)];simp only[aE,ia,aJ,d5.eta];exact⟨nx s a',nb gX,(by rw[ld hs']),rfl⟩
theorem aoW(h:-9223372036854775808<=n/\n<=9223372036854775807):(Lit.int .i64 n).wf=hJ:=by
 have h1:IntKind.i64.min=-9223372036854775808:=by decide
 have h2:IntKind.i64.max=9223372036854775807:=by decide
 simp[Lit.wf];omega
theorem aqe:∀x,x∈([]::qA)->uh x<=26:=by decide
theorem asy(x:Bs):0<=vE x/\vE x<=6:=by unfold vE;grind
theorem aqf:∀x,x∈([]::qA)->0<=(gP x).2/\(gP x).2<=26:=by decide
def auj(s:Bs)(c:oJ)(i:Nat):wJ->Prop
 | .ok e j=>je e/\(match c with | .loop _ a=>nodes e+i<=j+nodes a|_=>nodes e+i<=j)
 | .err _ _=>True
def oJ.okA:oJ->Prop|.oper l=>0<l|.loop l a=>0<l/\je a|_=>True
theorem AA(s:Bs)(i:Nat)(hl:Ts s<=1000000)(hi:i<=Ts s):(tx s i).length<=maxLen:=by
 have:=ak7 hi;have h:(1000000:Nat)<=maxLen:=by decide
 omega
theorem JT{op:Int}{name:Bs}{kids:J d5}(h1:0<=op/\op<=26)(h2:-1<=n/\n<=9223372036854775807)(h3:Ts name<=maxLen)(h4:Ts kids<=3)(h5:∀x,x∈kids->je x):je (.mk op n name kids):=.mk op n name kids (aoW om) (aoW om) h3 (lG h4 de) h5
theorem asz(hl:Ts s<=1000000){c:oJ}(d:D s c i r):i<=Ts s->c.okA->auj s c i r:=by
 induction d with
 | @Co i r h d ih=>intro hi _;have:=ih hi trivial;cases r with|ok e j=>exact this|err p c=>trivial
 | Cp h hn=>intro _ _;trivial|@GG i j e h hn d ih=>intro hi _;obtain⟨a,b,c,f⟩:=xR hi h;obtain⟨x,y⟩:=ih c trivial;have g:=aqe _ (Qs s (nx s i));have g2:=agp _ (Qs s (nx s i));rw[(Qt h).2.2];refine⟨JT om om (AA s i hl hi) si (by simpa using x),?_⟩;simp[nodes,nE];omega
 | GH h hn d ih=>intro _ _;trivial|GJ d ih=>intro _ _;trivial|GK d h ih=>intro hi _;exact ih hi (show(0:Int)<3 by decide)
 | GL d h d2 ih ih2=>intro _ _;trivial|GM d h d2 h2 ih ih2=>intro _ _;trivial|Nh d h d2 h2 d3 ih ih2 ih3=>intro _ _;trivial|@GN i j k m a b e d h d2 h2 d3 ih ih2 ih3=>intro hi _;obtain⟨_,p1,_⟩:=nG d hi (show(0:Int)<3 by decide);obtain⟨m1,m2⟩:=dP p1 (by rw[h];decide);obtain⟨_,p2,_⟩:=nG d2 m1 trivial;obtain⟨m3,m4⟩:=dP p2 (by rw[h2];decide);obtain⟨o1,n1⟩:=ih hi (show(0:Int)<3 by decide);obtain⟨o2,n2⟩:=ih2 m1 trivial;obtain⟨o3,n3⟩:=ih3 m3 trivial;refine⟨JT om om si si (by simp_all),?_⟩;simp[nodes,nE];omega
 | WR d ih=>intro _ _;trivial|@Yq l i j a r d d2 ih ih2=>
  intro hi hc;obtain⟨_,p1,_⟩:=nG d hi trivial;obtain⟨o1,n1⟩:=ih hi trivial;have:=ih2 p1 ⟨hc,o1⟩;cases r with
  | ok e k=>obtain⟨o2,n2⟩:=this;exact⟨o2,show nodes e+i<=k by omega⟩
  | err p c=>trivial
 | xQ h=>intro hi hc;exact⟨hc.2,aR⟩|Et h d ih=>intro _ _;trivial|@Iu l i j a b r h d d2 ih ih2=>
  intro hi hc;obtain⟨hc1,Lh⟩:=hc;obtain⟨m1,m2⟩:=dP hi (AH hc1 h);obtain⟨_,p1,_⟩:=nG d m1 (show(0:Int)<_ by omega);obtain⟨o1,n1⟩:=ih m1 (show(0:Int)<_ by omega);have g:=aqf _ (Qs s i);have:=ih2 p1 ⟨hc1,JT g om si si (by simpa using⟨Lh,o1⟩)⟩;cases r with
  | ok e k=>obtain⟨o2,n2⟩:=this;refine⟨o2,?_⟩;simp[nodes,nE]at n2;omega
  | err p c=>trivial
 | @Cq i r h d ih=>intro hi _;have:=ih hi trivial;cases r with|ok e j=>exact this|err p c=>trivial
 | GO h d ih=>intro _ _;trivial|@Ni i j a h d ih=>intro hi _;obtain⟨m1,m2⟩:=dP hi (Bc h);obtain⟨o1,n1⟩:=ih m1 trivial;have g:=asy (sy s i);refine⟨JT om om si si (by simpa using o1),?_⟩;simp[nodes,nE];omega
 | @GP i h hv=>intro hi _;have m:=(lU s i hi).2.2 (by rw[h];decide);have g:=WT _ hv;refine⟨JT om om si si si,?_⟩;simp[nodes,nE];omega|Cr h hv=>intro _ _;trivial|@GQ i h hv=>intro hi _;have m:=(lU s i hi).2.2 (by rw[h];decide);refine⟨JT om om (AA s i hl hi) si si,?_⟩;simp[nodes,nE];omega|Cs h hv=>intro _ _;trivial|GR h1 h2 h=>intro _ _;trivial|Nj h d ih=>intro _ _;trivial|yO h d h2 ih=>intro _ _;trivial|@Nk i j e h d h2 ih=>intro hi _;obtain⟨m1,m2⟩:=dP hi (by rw[h];decide);obtain⟨_,p1,_⟩:=nG d m1 trivial;obtain⟨m3,m4⟩:=dP p1 (by rw[h2];decide);obtain⟨o1,n1⟩:=ih m1 trivial;exact⟨o1,show nodes e+i<=nx s j by omega⟩
mutual
def mA:d5->Int|.mk _ _ _ kids=>uk kids 0+1
def uk:J d5->Int->Int|[],m=>m|k::l,m=>uk l (cond (eK (m<mA k)) (mA k) m)
end
theorem alb(e:d5):mA e=uk e.fKids 0+1:=by cases e;rfl
theorem WU:∀(l m:J d5)(z:Int),uk (l++m) z=uk m (uk l z)|[],m,z=>rfl|k::l,m,z=>by simp[uk,WU l m]
theorem JU:∀(l:J d5)(z:Int),0<=z->(∀k,k∈l->0<=mA k/\mA k<=(nodes k:Int))->z<=uk l z/\uk l z<=z+(nE l:Int)
 | [],z,h,_=>by simp[uk,nE]|k::l,z,h,hk=>by have h1:=hk k si;simp[uk,nE];cases hc:eK (z<mA k)with|true=>have hc:=zi hc;have h2:=JU l (mA k) om λk h=>hk k (kV _ h);simp;omega|false=>have h2:=JU l z h λk h=>hk k (kV _ h);simp;omega
theorem alc(e:d5):0<=mA e/\mA e<=(nodes e:Int):=by
 induction e using d5.ind with|h op n name kids ih=>have:=JU kids 0 om ih;simp[mA,nodes];omega
theorem WV{r:d5->O Int}{l:J d5}(hF:Ts l<F)(hb:Ts l<=9223372036854775807)(hn:nE l<=1000000)(hr:∀k,k∈l->r k=iN (mA k)):
  bX (σ:=Int×Int) (λbD x1=>
   cond (eK (x1.2<(Ts l:Int)))
   (rq ((eK (0<=x1.2))&&(eK (x1.2<(Ts l:Int)))) ((r (l.getD (eJ x1.2) dJ)).bind λx3=>
   bD (cond (eK (x1.1<x3)) x3 x1.1,aD (x1.2+1))))
   (iN (aD (x1.1+1)))) F (0,0)=iN (uk l 0+1):=by
 refine JJ (λi=>(uk (l.take i) 0,(i:Int))) l.length hF rfl ?_ ?_
 ·intro i rc hi;simp only[yZ hi,cg,gd hi,bH (i:=i) om,hr _ (fm hi)];rw[akP hi,WU];rfl
 ·intro rc;have h:=JU l 0 om λk _=>alc k;simp;rw[bL om]
theorem anN(ho:je e):nodes e<=1000000->bS λF n=>vF F n e=iN (mA e)/\yQ F n e=iN (mA e):=by revert e;apply je.ind;intro e h4 h5 ih hn;rw[Il]at hn;refine bS.succ ((bS.all λk hk=>ih k hk (by have:=JL hk;omega)).mq (bS.ge (Ts e.fKids+1) λF n h _=>h) λF m ih hF=>?_);rw[alb];refine⟨?_,WV hF h4 om λk hk=>(ih k hk).2⟩;show FG F (vF F m) e=_;unfold FG wx;simp;exact WV hF h4 om λk hk=>(ih k hk).1
def yR:d5:=.mk 0 0 [] []
def PS(s:Bs):wJ->d5×Int×Int|.ok e j=>cond (eK (skip s j<Ts s)) (yR,(skip s j:Int),6) (cond (eK (32<mA e)) (yR,0,5) (e,0,0))|.err p c=>(yR,(p:Int),c)
theorem adW(s:Bs)(i:Nat)(hi:i<=Ts s):(kd s i==0)=!(eK (skip s i<Ts s)):=by
 unfold kd;rcases nF s i hi with⟨h',_,_,he⟩|⟨w,b,h',_,_,_,hl⟩|⟨w,b,h',_,_,_,hl⟩|⟨x',h',hs,_,hm,hl⟩|⟨b,h',_,_,hl⟩<;>rw[h']
 ·simp_all
 ·grind
 ·grind
 ·have:Ts x'≠0:=by simp_all[DN]
  grind
 grind
theorem anO(hlen:Ts s<=4096)(h0:skip s 0<Ts s)(d:D s .expr 0 r):
  bS λF _=>qI F s=iN (PS s r)/\qJ F s=iN (PS s r):=by
 have hl:Ts s<=1000000:=om;have hA:=D_A hl d (fq _) trivial;have hR:=avy hl (avw d) (fq _) trivial;have hk0:(kd s 0==0)=eQ:=by simp_all[adW,fq,eN]
 have Nn:eK (4096<(Ts s:Int))=eQ:=sZ om;have hat:((skip s 0:Int)==(Ts s:Int))=eQ:=by grind
 have start:∀F,Ts s+60<=F->vg F s 0=iN ⟨kd s 0,po s 0,tx s 0⟩:=λF hF=>by rw[<-Sh s 0 (fq _)];exact Ym F s 0 (fq _) om hl
 have rstart:∀F,Ts s+60<=F->gv F s 0 0 0=iN (s,(skip s 0:Int),0,0):=λF hF=>uF F s 0 0 0 (fq _) om hl;cases r with
 | err p c=>
  refine bS.DK hA.fst hR.fst (ig s) λF _ h1 h2 hF=>⟨?_,?_⟩
  ·obtain⟨st,h1⟩:=h1;unfold qI od wx;rw[Nn,start F hF];simp[aJ,hk0];rw[h1];rfl
  ·obtain⟨hc,e,a,ha,hx⟩:=h2 (skip s 0) om (xN s 0);unfold qJ AJ wx;rw[Nn,rstart F hF];simp[aJ,hat,hx];rw[uF F s a c p ha om hl];simp only[aE];rw[Uw hc];have tA:(c != 0)=hJ:=by simpa using hc
   cases eK ((skip s a:Int)<(Ts s:Int))<;>simp[aU,tA]<;>rfl
 | ok e j=>
  obtain⟨_,hj,_⟩:=nG d (fq _) trivial;obtain⟨ho,hn⟩:=asz hl d (fq _) trivial;refine bS.DK (hA.fst.and hR.fst) (anN ho om).fst (ig s) λF _ h12 hd hF=>?_;obtain⟨h1,h2⟩:=h12;obtain⟨ZK,ZL⟩:=hd;obtain⟨a,ha,hs,hx⟩:=h2 (skip s 0) om (xN s 0);have hkj:=adW s j hj;have hne:(kd s j != 0)=eK (skip s j<Ts s):=by grind
  refine⟨?_,?_⟩
  ·unfold qI od KP wx;rw[Nn,start F hF];simp[aJ,hk0];rw[h1];simp[sm,hne,ZK];show _=iN (cond (eK (skip s j<Ts s)) (yR,(skip s j:Int),6) (cond (eK (32<mA e)) (yR,0,5) (e,0,0)));cases eK (skip s j<Ts s)with
   | true=>rfl|false=>cases eK (32<mA e)<;>rfl
  ·unfold qJ AJ Qx wx;rw[Nn,rstart F hF];simp[aJ,hat,hx];rw[uF F s a 0 0 ha om hl,hs];simp only[aE,ZL];show _=iN (cond (eK (skip s j<Ts s)) (yR,(skip s j:Int),6) (cond (eK (32<mA e)) (yR,0,5) (e,0,0)));by_cases hlt:skip s j<Ts s
   ·rw[eN hlt,eN om];rfl
   ·rw[sZ hlt,sZ om];cases eK (32<mA e)<;>rfl
theorem afz(hlen:Ts s<=4096)(h0:¬ skip s 0<Ts s):bS λF _=>qI F s=iN (.mk 1 0 [] [],0,0)/\qJ F s=iN (.mk 1 0 [] [],0,0):=by
 have hl:Ts s<=1000000:=om;refine(ig s).mono λF _ hF=>?_;have hk0:(kd s 0==0)=hJ:=by simp_all[adW,fq,sZ]
 have Nn:eK (4096<(Ts s:Int))=eQ:=sZ om;have hsk:=(iU s 0 (fq _)).1;have hat:((skip s 0:Int)==(Ts s:Int))=hJ:=by rw[uL];omega
 have start:vg F s 0=iN ⟨kd s 0,po s 0,tx s 0⟩:=by rw[<-Sh s 0 (fq _)];exact Ym F s 0 (fq _) om hl
 have rstart:gv F s 0 0 0=iN (s,(skip s 0:Int),0,0):=uF F s 0 0 0 (fq _) om hl;constructor
 ·unfold qI wx;rw[Nn,start];simp[aJ,hk0];rfl
 ·unfold qJ wx;rw[Nn];simp_all
theorem afA(s:Bs)(hs:Ts s<=4096):∃x,(je x.1/\nodes x.1<=10000)/\bS λF _=>qI F s=iN x/\qJ F s=iN x:=by
 have hz:je yR/\nodes yR<=10000:=⟨JT om om si si si,by decide⟩;by_cases h0:skip s 0<Ts s
 ·obtain⟨r,d⟩:=asw s 0 (fq _);refine⟨_,?_,anO om h0 d⟩;cases r with
  | err p c=>exact hz|ok e j=>
   obtain⟨ho,hn⟩:=asz om d (fq _) trivial;obtain⟨_,hj,_⟩:=nG d (fq _) trivial;show je (cond (eK (skip s j<Ts s)) (yR,(skip s j:Int),(6:Int)) (cond (eK (32<mA e)) (yR,0,5) (e,0,0))).1/\nodes (cond (eK (skip s j<Ts s)) (yR,(skip s j:Int),(6:Int)) (cond (eK (32<mA e)) (yR,0,5) (e,0,0))).1<=10000;cases eK (skip s j<Ts s)with
   | true=>exact hz|false=>
    cases eK (32<mA e)with
    | true=>exact hz|false=>have hn:nodes e+0<=j:=hn;exact⟨ho,by show nodes e<=10000;omega⟩
 ·exact⟨_,⟨JT om om si si si,by decide⟩,afz om h0⟩
