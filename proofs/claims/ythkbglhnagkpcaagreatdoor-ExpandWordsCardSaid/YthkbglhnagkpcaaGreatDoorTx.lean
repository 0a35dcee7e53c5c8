import Derived.Test.YthkbglhnagkpcaaGreatDoorZ2
open Go.Op renaming bytesLess->pD
open Go.Lib renaming indexByte->lO
open UInt8 renaming ofNat->lL
open Option renaming some->iN,none->iF
open Bool renaming true->eQ,false->eK
open Decidable renaming decide->eJ
open Int renaming toNat->eI
open Go.IntKind renaming wrap->dE
open Nat renaming blt->bY
open BitVec renaming ofInt->T1
open List renaming length->Sx
set_option linter.all false
namespace Go.Proofs.YthkbglhnagkpcaaGreatDoor.K
open Go.RT
set_option maxRecDepth 100000
variable{α:Type}
theorem alg(c:Bool)(x y:α):cond c (iN x) (iN y)=iN (cond c x y):=by cases c<;>rfl
def ajn(a:Int):O (Int×Bs):=cond ((24:Int)==a) (iN (3,[124,124])) (cond ((23:Int)==a) (iN (4,[38,38])) (cond ((22:Int)==a) (iN (5,[124])) (cond ((21:Int)==a) (iN (6,[94])) (cond ((20:Int)==a) (iN (7,[38])) (cond ((18:Int)==a) (iN (8,[61,61])) (cond ((19:Int)==a) (iN (8,[33,61])) (cond ((14:Int)==a) (iN (9,[60])) (cond ((15:Int)==a) (iN (9,[62])) (cond ((16:Int)==a) (iN (9,[60,61])) (cond ((17:Int)==a) (iN (9,[62,61])) (cond ((12:Int)==a) (iN (10,[60,60])) (cond ((13:Int)==a) (iN (10,[62,62])) (cond ((10:Int)==a) (iN (11,[43])) (cond ((11:Int)==a) (iN (11,[45])) (cond ((7:Int)==a) (iN (12,[42])) (cond ((8:Int)==a) (iN (12,[47])) (cond ((9:Int)==a) (iN (12,[37])) (iN (0,[])))))))))))))))))))
def ab7(a:Int):Int×Bs:=cond ((24:Int)==a) (3,[124,124]) (cond ((23:Int)==a) (4,[38,38]) (cond ((22:Int)==a) (5,[124]) (cond ((21:Int)==a) (6,[94]) (cond ((20:Int)==a) (7,[38]) (cond ((18:Int)==a) (8,[61,61]) (cond ((19:Int)==a) (8,[33,61]) (cond ((14:Int)==a) (9,[60]) (cond ((15:Int)==a) (9,[62]) (cond ((16:Int)==a) (9,[60,61]) (cond ((17:Int)==a) (9,[62,61]) (cond ((12:Int)==a) (10,[60,60]) (cond ((13:Int)==a) (10,[62,62]) (cond ((10:Int)==a) (11,[43]) (cond ((11:Int)==a) (11,[45]) (cond ((7:Int)==a) (12,[42]) (cond ((8:Int)==a) (12,[47]) (cond ((9:Int)==a) (12,[37]) ((0,[])))))))))))))))))))
def mY(a:Int):Int×Bs:=cond (a==1||a==2) (14,[]) (cond (a==3) (13,[45]) (cond (a==4) (13,[43]) (cond (a==5) (13,[33]) (cond (a==6) (13,[126]) (cond (a==25) (2,[63]) (cond (a==26) (1,[61]) (ab7 a)))))))
def qG(a:Int):Int:=cond (a==1||a==2) 0 (cond ((eJ (3<=a)&&eJ (a<=6))||a==26) 1 (cond (eJ (7<=a)&&eJ (a<=24)) 2 (cond (a==25) 3 (-1))))
theorem agW(F:Nat)(a:Int):G5 F a=iN (qG a):=by unfold G5 qG wx;grind
theorem anP(a:Int):ajn a=iN (ab7 a):=by simp[ajn,ab7,alg]
theorem alh(G:Nat)(a:Int):((uy (G+20)).bind λx2=>
 ck (σ:=Int) (λkP x3=>
 cond (eJ (x3<(Sx x2:Int)))
 (rq ((eJ (0<=x3))&&(eJ (x3<(Sx x2:Int)))) (cond (((x2.getD (eI x3) AY).fop)==a)
 (iN ((x2.getD (eI x3) AY).Rk,(x2.getD (eI x3) AY).HW))
 (kP (aE (x3+1)))))
 (iN (0,[]))) (G+20) 0)=ajn a:=by kernel_rfl
theorem af4(G:Nat)(a:Int):za (G+20) a=iN (mY a):=by unfold za mY wx;cases h1:(a==1)<;>cases h2:(a==2)<;>simp;cases h3:(a==3)<;>simp;cases h4:(a==4)<;>simp;cases h5:(a==5)<;>simp;cases h6:(a==6)<;>simp;cases h7:(a==25)<;>simp;cases h8:(a==26)<;>simp;exact(alh G a).trans (anP a)
def apl(L:Int):Int:=cond (L==1||L==13) 1 (cond (L==2) 3 (cond (L==14) 0 2))
theorem anQ(op:Int):((mY op).1=0/\qG op=-1)\/((mY op).1≠0/\apl (mY op).1=qG op):=by
 by_cases h:1<=op/\op<=26
 .have:op=1\/op=2\/op=3\/op=4\/op=5\/op=6\/op=7\/op=8\/op=9\/op=10\/op=11\/op=12\/op=13\/op=14\/op=15\/op=16\/op=17\/op=18\/op=19\/op=20\/op=21\/op=22\/op=23\/op=24\/op=25\/op=26:=om;rcases this with rfl|rfl|rfl|rfl|rfl|rfl|rfl|rfl|rfl|rfl|rfl|rfl|rfl|rfl|rfl|rfl|rfl|rfl|rfl|rfl|rfl|rfl|rfl|rfl|rfl|rfl<;>decide
 .left;have h1:(op==1)=eK:=by grind
  have g1:((1:Int)==op)=eK:=by rw[eG];omega
  have h2:(op==2)=eK:=by rw[eG];omega
  have g2:((2:Int)==op)=eK:=by rw[eG];omega
  have h3:(op==3)=eK:=by grind
  have g3:((3:Int)==op)=eK:=by grind
  have h4:(op==4)=eK:=by grind
  have g4:((4:Int)==op)=eK:=by grind
  have h5:(op==5)=eK:=by grind
  have g5:((5:Int)==op)=eK:=by grind
  have h6:(op==6)=eK:=by grind
  have g6:((6:Int)==op)=eK:=by grind
  have h7:(op==7)=eK:=by grind
  have g7:((7:Int)==op)=eK:=by grind
  have h8:(op==8)=eK:=by grind
  have g8:((8:Int)==op)=eK:=by grind
  have h9:(op==9)=eK:=by grind
  have g9:((9:Int)==op)=eK:=by rw[eG];omega
  have h10:(op==10)=eK:=by rw[eG];omega
  have g10:((10:Int)==op)=eK:=by rw[eG];omega
  have h11:(op==11)=eK:=by rw[eG];omega
  have g11:((11:Int)==op)=eK:=by rw[eG];omega
  have h12:(op==12)=eK:=by rw[eG];omega
  have g12:((12:Int)==op)=eK:=by rw[eG];omega
  have h13:(op==13)=eK:=by rw[eG];omega
  have g13:((13:Int)==op)=eK:=by rw[eG];omega
  have h14:(op==14)=eK:=by rw[eG];omega
  have g14:((14:Int)==op)=eK:=by rw[eG];omega
  have h15:(op==15)=eK:=by rw[eG];omega
  have g15:((15:Int)==op)=eK:=by rw[eG];omega
  have h16:(op==16)=eK:=by rw[eG];omega
  have g16:((16:Int)==op)=eK:=by rw[eG];omega
  have h17:(op==17)=eK:=by rw[eG];omega
  have g17:((17:Int)==op)=eK:=by rw[eG];omega
  have h18:(op==18)=eK:=by rw[eG];omega
  have g18:((18:Int)==op)=eK:=by rw[eG];omega
  have h19:(op==19)=eK:=by rw[eG];omega
  have g19:((19:Int)==op)=eK:=by rw[eG];omega
  have h20:(op==20)=eK:=by rw[eG];omega
  have g20:((20:Int)==op)=eK:=by rw[eG];omega
  have h21:(op==21)=eK:=by rw[eG];omega
  have g21:((21:Int)==op)=eK:=by rw[eG];omega
  have h22:(op==22)=eK:=by rw[eG];omega
  have g22:((22:Int)==op)=eK:=by rw[eG];omega
  have h23:(op==23)=eK:=by rw[eG];omega
  have g23:((23:Int)==op)=eK:=by rw[eG];omega
  have Xw:(op==24)=eK:=by rw[eG];omega
  have g24:((24:Int)==op)=eK:=by rw[eG];omega
  have h25:(op==25)=eK:=by rw[eG];omega
  have g25:((25:Int)==op)=eK:=by rw[eG];omega
  have Km:(op==26)=eK:=by rw[eG];omega
  have g26:((26:Int)==op)=eK:=by rw[eG];omega
  have k1:(eJ (3<=op)&&eJ (op<=6))=eK:=by grind
  have k2:(eJ (7<=op)&&eJ (op<=24))=eK:=by grind
  refine⟨?_,?_⟩
  .simp only[mY,ab7,h1,h2,h3,h4,h5,h6,h7,h8,h9,h10,h11,h12,h13,h14,h15,h16,h17,h18,h19,h20,h21,h22,h23,Xw,h25,Km,g1,g2,g3,g4,g5,g6,g7,g8,g9,g10,g11,g12,g13,g14,g15,g16,g17,g18,g19,g20,g21,g22,g23,g24,g25,g26,abM,aI]
  .simp only[qG,h1,h2,h25,Km,k1,k2,abM,aI]
def CB(n:Int):Bool:=(eJ (7<=n)&&eJ (n<=13))||(eJ (20<=n)&&eJ (n<=22))
theorem anR(F:Nat)(n:Int):uz F n=iN (CB n):=by
 by_cases h:n=7\/n=8\/n=9\/n=10\/n=11\/n=12\/n=13\/n=20\/n=21\/n=22
 .rcases h with rfl|rfl|rfl|rfl|rfl|rfl|rfl|rfl|rfl|rfl<;>rfl
 .unfold uz CB wx;have k1:(eJ (7<=n)&&eJ (n<=13))=eK:=by grind
  have k2:(eJ (20<=n)&&eJ (n<=22))=eK:=by grind
  grind
theorem ad6(F:Nat)(n:Int):zb F n=iN (n==0||CB n):=by unfold zb CB wx;grind
def gF(b:Int):Bool:=eJ (48<=b)&&eJ (b<=57)
def pR(b:Int):Bool:=(eJ (97<=b)&&eJ (b<=122))||(eJ (65<=b)&&eJ (b<=90))
def tQ(b:Int):Bool:=(pR b||gF b)||b==95
theorem Xx(F:Nat)(b:Int):mc F b=iN (gF b):=by unfold mc gF wx;grind
theorem aqs(F:Nat)(b:Int):tZ F b=iN (pR b):=by unfold tZ pR wx;grind
theorem ajo(F:Nat)(b:Int):qx F b=iN (tQ b):=by unfold qx tQ wx;rw[aqs,Xx];cases pR b<;>cases gF b<;>rfl
theorem ali(F:Nat)(b:Int):wC F b=iN (gF b):=by unfold wC gF wx;grind
theorem aqt(F:Nat)(b:Int):yj F b=iN (pR b):=by unfold yj pR wx;grind
theorem alj(b:Int):gF b=eQ↔48<=b/\b<=57:=by simp[gF]
theorem ad7(b:Int):tQ b=eQ↔(97<=b/\b<=122)\/(65<=b/\b<=90)\/(48<=b/\b<=57)\/b=95:=by simp[tQ,pR,gF];omega
def td(s:Bs)(p:Nat):Int:=((s.getD p 0).toNat:Int)
theorem ad8(p:Nat->Bool):∀k i,iter (λi r=>cond (p i) r (iN eK)) (iN eQ) k i=iN ((List.range' i k).all p)
 | 0,i=>rfl|k+1,i=>by simp[iter,abJ];rw[ad8 p k (i+1)];cases p i<;>rfl
def rName(s:Bs):Bool:=cond (s==[]||decide (32<(Sx s:Int))) eK (cond (gF (td s 0)) eK ((List.range' 0 s.length).all λi=>tQ (td s i)))
theorem Ax(F:Nat)(s:Bs)(hF:33<=F):fQ F s=iN (rName s):=by
 unfold fQ rName wx;simp only[Xx,ajo];cases h1:(s==[])with
 | true=>rfl|false=>
  cases h2:eJ (32<(Sx s:Int))with
  | true=>rfl|false=>
   have h0:eJ (0<(Sx s:Int))=eQ:=by
    cases s with
    | nil=>cases h1
    | cons a s=>simp
   have hl:¬ 32<(Sx s:Int):=by simpa using h2
   simp only[aI,h0];show cond (gF (td s 0)) _ _=iN (cond (gF (td s 0)) _ _);cases gF (td s 0)with
   | true=>rfl|false=>
    simp only[aI];rw[<-ad8 (λi=>tQ (td s i))];refine af3 (λi rc hi=>?_) (λrc=>?_) F om
    .have e1:eJ ((i:Int)<(Sx s:Int))=eQ:=by simpa using hi
     have e2:eJ (0<=(i:Int))=eQ:=by simp
     simp only[e1];rw[bF om];show cond (!(tQ (td s i))) _ _=_;simp_all
    simp_all
theorem get_at(l:Bs)(k:Nat):(ByteArray.mk ⟨l⟩).get! k=l.getD k 0:=by simp[ByteArray.get!];cases l[k]? <;> rfl
variable{p:Nat}
theorem Bj{l:Bs}(h:(l.getD p 0).toNat<128):dec l p=((l.getD p 0).toNat,1):=by unfold dec Utf8.decode;simp_all[get_at,PJ,if_pos]
theorem aaw{l:Bs}(h:¬ (l.getD p 0).toNat<128):128<=(dec l p).1:=by
 unfold dec Utf8.decode;simp[get_at]
 (repeat' split)<;>simp_all[Utf8.runeError]<;>omega
def cOk(c p:Int):Bool:=cond (pR c||c==95) eQ (cond (gF c) (eJ (0<p)) eK)
theorem agX(c p:Int):cOk c p=eQ↔(97<=c/\c<=122)\/(65<=c/\c<=90)\/c=95\/(48<=c/\c<=57)/\0<p:=by simp[cOk,pR,gF];omega
def Uo(s:Bs)(p:Nat):Bool:=tQ (td s p) && !(eJ (p=0)&&gF (td s p))
theorem aqu(s:Bs)(p:Nat):cOk ((dec s p).1:Int) (p:Int)=Uo s p/\(Uo s p=eQ->(dec s p).2=1):=by
 by_cases h:(s.getD p 0).toNat<128
 .rw[Bj h];rw[tW,agX];unfold Uo td;rw[cH,ad7];grind[alj,decide_eq_false_iff_not]
 .have h1:=aaw h;have h2:tQ (td s p)=eK:=by apply M1.2;intro hw;unfold td at hw;grind[ad7]
  have h3:Uo s p=eK:=by unfold Uo;rw[h2];rfl
  rw[h3];refine⟨?_,λh=>by cases h⟩;grind[agX]
theorem Xy(F:Nat)(s:Bs):∀(k p n:Nat),p+k=Sx s->k<n->ck (σ:=Bs×Int) (R:=Bool) (λiw x2=>
   cond (bY (eI x2.2) x2.1.length)
   (((yj F ((dec x2.1 (eI x2.2)).1:Int)).bind λx5=>
   cond x5
   (iN eQ)
   (iN (((dec x2.1 (eI x2.2)).1:Int)==95)):O Bool).bind λx4=>
   (cond x4
   (iN eQ)
   ((wC F ((dec x2.1 (eI x2.2)).1:Int)).bind λx7=>
   cond x7
   (iN (eJ (0<(((eI x2.2):Nat):Int))))
   (iN eK)):O Bool).bind λx6=>
   cond x6
   (iw (x2.1,((((eI x2.2)+(dec x2.1 (eI x2.2)).2):Nat):Int)))
   (iN eK))
   (iN eQ)) n (s,(p:Int))=iN ((List.range' p k).all (Uo s))
 | 0,p,n,h,hn=>by
  cases n with
  | zero=>omega|succ n=>
   have e:bY p s.length=eK:=by simp_all[M1,abN]
   simp_all[ck,bN,aI]
 | k+1,p,n,h,hn=>by
  cases n with
  | zero=>omega|succ n=>
   have e:bY p s.length=eQ:=by rw[bY,abN];omega
   obtain⟨h1,h2⟩:=aqu s p;have ih:=Xy F s k (p+1) n om om;simp only[aqt,ali,aC]at ih⊢;rw[ck];simp only[bN,e,aQ]
   have key:∀X:O Bool,((cond (pR ((dec s p).1:Int)) (iN eQ) (iN (((dec s p).1:Int)==95)):O Bool).bind λx4=>
     (cond x4 (iN eQ) (cond (gF ((dec s p).1:Int)) (iN (eJ (0<(p:Int)))) (iN eK)):O Bool).bind λx6=>cond x6 X (iN eK))=cond (cOk ((dec s p).1:Int) (p:Int)) X (iN eK):=by
    intro X;unfold cOk;grind
   rw[key,h1,abJ,Sy];grind
theorem F4(F:Nat)(s:Bs)(hF:33<=F):mD F s=iN (rName s):=by
 unfold mD rName wx;by_cases hz:s=[]
 .subst hz;rfl
 have hlen:=AJ.2 hz;have h1:eJ ((Sx s:Int)<1)=eK:=by simp;omega
 have h2:(s==[])=eK:=by simpa using hz
 rw[h1,h2];cases hl:eJ (32<(Sx s:Int))with
 | true=>rfl|false=>
  have hs:¬ 32<(Sx s:Int):=by simpa using hl
  rw[Xy F s s.length 0 F om om];obtain⟨m,hm⟩:∃m,Sx s=m+1:=⟨Sx s-1,om⟩;rw[hm,abJ];have e:(List.range' (0+1) m).all (Uo s)=(List.range' (0+1) m).all λi=>tQ (td s i):=by
   rw[tW];have:∀x,x∈List.range' (0+1) m->Uo s x=tQ (td s x):=λx hx=>by unfold Uo;grind
   simp_all
  unfold Uo;grind
def IU(F:Nat)(s:Bs)(hF:33<=F):mD F s=fQ F s:=(F4 F s hF).trans (Ax F s hF).symm
abbrev dh:=cA
abbrev dh.mk:=cA.mk
instance:Inhabited d5:=⟨dN⟩
inductive je:d5->Prop
 | mk (op n:Int) (name:Bs) (kids:List d5) (h1:(Lit.int .i64 op).wf=eQ) (h2:(Lit.int .i64 n).wf=eQ) (h3:Sx name<=maxLen) (h4:Sx kids<=maxLen) (h5:∀x,x∈kids->je x):je (.mk op n name kids)
theorem ajp(G:Nat)(r:d5->Int->O Int)(e:d5)(d:Int)(hd:d<=32)(hN:mD (G+20) e.fName=fQ (G+20) e.fName):
  Ay (G+20) r e d=mE (G+20) r e d:=by
 unfold Ay mE wx;simp only[af4,agW,anR,ad6,hN,aC,d5.eta];generalize fQ (G+20) e.fName=nm;generalize e.fOp=op;generalize e.fN=n;generalize e.fName=name;generalize e.fKids=kids;have e32:(d==32)=eJ (32<=d):=by rw[tW,tv,fO];omega
 have en:eJ (n<0)=!(eJ (0<=n)):=by rw[tW,wL,fO,ahB];omega
 have o1:(op==1&&op==26)=eK:=by rw[VI,eG,eG];omega
 rw[e32,en];simp only[bne];cases h32:eJ (32<=d)<;>simp only[aQ,aI];rcases anQ op with⟨h1,h2⟩|⟨h1,h2⟩
 .rw[h1,h2];have e:((Sx kids:Int) == -1)=eK:=by rw[eG];omega
  rw[e];cases (op==2)<;>cases (op==26)<;>rfl
 .have e0:((mY op).1==0)=eK:=by rw[eG];exact h1
  have ex:∀k:Int->O Int,jj (σ:=Int) (R:=Int) (cond ((mY op).1==0) (iN (.inr 1)) ((cond ((mY op).1==1) (iN ((mY op).1==1)) (iN ((mY op).1==13)):O Bool).bind λx3=>
    cond x3 (iN (.inl 1)) (cond ((mY op).1==2) (iN (.inl 3)) (cond ((mY op).1==14) (iN (.inl 0)) (iN (.inl 2)))))) k=k (qG op):=by
   intro k;rw[e0,<-h2];unfold apl;generalize(mY op).1=L;cases (L==1)<;>cases (L==13)<;>cases (L==2)<;>cases (L==14)<;>rfl
  rw[ex];generalize(op==1)=b1 at o1⊢;generalize(op==26)=b26 at o1⊢;cases ((Sx kids:Int)==qG op)<;>cases b1<;>cases b26<;>(first|(cases o1;done)|skip)<;>
   cases (op==2)<;>cases (eJ (0<=n))<;>cases (n==0)<;>cases (CB n)<;>cases (name==[])<;>rfl
theorem af5(F:Nat)(r r':d5->Int->O Int)(e:d5)(d:Int)(h:¬ 32<=d->∀x,r x (aE (d+1))=r' x (aE (d+1))):mE F r e d=mE F r' e d:=by
 unfold mE wx;by_cases hd:32<=d
 .rw[show eJ (32<=d)=eQ by simpa using hd];rfl
 .simp only[h hd]
theorem ad9(G:Nat)(hG:13<=G):∀(n:Nat)(e:d5)(d:Int),0<=d->d<=32->sQ (G+20) n e d=kX (G+20) n e d
 | 0,e,d,_,_=>rfl|n+1,e,d,h0,h1=>by show Ay (G+20) (sQ (G+20) n) e d=mE (G+20) (kX (G+20) n) e d;rw[ajp G _ e d h1 (IU _ _ om)];refine af5 _ _ _ e d λhd x=>?_;rw[bQ om];exact ad9 G hG n x (d+1) om om
theorem d5.ind{P:d5->Prop}(h:∀op n name kids,(∀k,k∈kids->P k)->P (.mk op n name kids))(e:d5):P e:=by
 match e with
 | .mk op n name kids=>exact h op n name kids λk hk=>d5.ind h k
termination_by SizeOf.sizeOf e
decreasing_by
 have:=List.sizeOf_lt_of_mem hk;simp only[d5.mk.sizeOf_spec];omega
variable{P:d5->Prop}
theorem je.ind(h:∀e,Sx e.fKids<=9223372036854775807->(∀k,k∈e.fKids->je k)->(∀k,k∈e.fKids->P k)->P e):∀e,je e->P e:=by
 intro e ho
 induction ho with|mk op n name kids h1 h2 h3 h4 h5 ih=>exact h (.mk op n name kids) (jR h4 de) h5 ih
mutual
def nodes:d5->Nat|.mk _ _ _ kids=>nG kids+1
def nG:J d5->Nat|[]=>0|k::l=>nodes k+nG l
end
theorem IW(e:d5):nodes e=nG e.fKids+1:=by cases e;rfl
theorem Kn:∀ {l:J d5}{k:d5},k∈l->nodes k<=nG l
 | x::l,k,h=>by
  rcases gL.1 h with rfl|h
  .simp only[nG];omega
  .have:=Kn h;simp only[nG];omega
inductive Nms:d5->Prop
 | mk (op n:Int) (name:Bs) (kids:List d5) (h:Sx name<=60) (hk:∀k,k∈kids->Nms k):Nms (.mk op n name kids)
def NY(op:Int):Bool:=op==2||op==26
variable{i:Nat}
theorem alk{l:J α}(h:i<Sx l):l.take (i+1)=l.take i++[l[i]]:=by rw[ku h]
def Ec(op n:Int)(name:Bs)(len:Nat):Bool:=((len:Int) != qG op)||(NY op==(name==[]))||((op==1&&eJ (n<0))||(op==26 && !(n==0||CB n))||(op != 1&&(op != 26&&n != 0)))
mutual
def iW:d5->Int->Int|.mk op n name kids,d=>cond (eJ (32<=d)) 5 (cond (Ec op n name kids.length) 1 (cond (NY op && !rName name) 10 (Fl kids (d+1))))
def Fl:J d5->Int->Int|[],_=>0|k::l,d=>cond (iW k d != 0) (iW k d) (Fl l d)
end
theorem alm(e:d5)(d:Int):iW e d=cond (eJ (32<=d)) 5 (cond (Ec e.fOp e.fN e.fName e.fKids.length) 1 (cond (NY e.fOp && !rName e.fName) 10 (Fl e.fKids (d+1)))):=by cases e;rfl
variable{e:d5}
theorem Up(ho:je e):bU λF n=>∀d,0<=d->d<=32->kX F n e d=iN (iW e d):=by
 revert e;apply je.ind;intro e h4 h5 ih;refine bU.succ ((bU.all ih).mo (bU.ge (Sx e.fKids+34) λF n h _=>h) λF m ih hF d Uk hd1=>?_);rw[alm];show mE F (kX F m) e d=_;unfold mE wx;simp only[agW,ad6,Ax F _ (by omega:33<=F)];by_cases hd:32<=d
 .simp_all
 .rw[bQ om];rw[tc e.fKids (λi (_:Unit)=>(i:Int)) (λ_ k=>(kX F m k (d+1)).bind λx=>cond (x != 0) (iN (.inr x)) (iN (.inl ()))) (λ_=>iN 0) (t:=()) om ?_ ?_ ?_]
  .have key:∀l:J d5,(∀k,k∈l->k∈e.fKids)->rK (λ_ k=>(kX F m k (d+1)).bind λx=>cond (x != 0) (iN (.inr x)) (iN (.inl ()))) (λ_=>iN 0) l ()=iN (Fl l (d+1)):=by
    intro l
    induction l with
    | nil=>intro _;rfl|cons k l ihl=>
     intro hm;simp[rK,Fl];rw[ih k (hm k si) (d+1) om om];simp;cases (iW k (d+1) != 0)
     .simp_all[aI,aC,sm,nt]
     .rfl
   unfold Ec NY;grind
  .rfl
  .intro i h t rc;simp only[zw h,Dn,iz,bN,gd h,bF (i:=i) om];cases kX F m e.fKids[i] (d+1)with
   | none=>rfl|some x=>simp;cases (x != 0)<;>rfl
  simp_all
theorem aaX(ho:je e):bU λF n=>∀d,0<=d->d<=32->sQ F n e d=iN (iW e d):=(Up ho).mo (bU.ge 33 λF n h _=>h) λF n h hF d h0 h1=>by obtain⟨G,rfl⟩:∃G,F=G+20:=⟨F-20,om⟩;simp_all[ad9]
inductive Vd:d5->Prop
 | mk (op n:Int) (name:Bs) (kids:List d5) (h1:(Sx kids:Int)=qG op) (h2:NY op=!(name==[])) (h3:op=1->0<=n) (h4:op=26->n=0\/CB n=eQ) (h5:op≠1->op≠26->n=0)
   (h6:NY op=eQ->rName name=eQ) (h7:∀k,k∈kids->Vd k):Vd (.mk op n name kids)
theorem Uq:∀(l:J d5)(d:Int),Fl l d=0↔∀k,k∈l->iW k d=0
 | [],d=>by simp[Fl]|k::l,d=>by
  simp[Fl];rw[<-Uq l d];cases h:(iW k d != 0)with
  | true=>
   have:iW k d≠0:=by simpa using h
   simp[this]
  | false=>
   have:iW k d=0:=by simpa using h
   simp[this]
variable{n:Int}
theorem anS{op:Int}{name:Bs}{len:Nat}(h:Ec op n name len=eK):
  (len:Int)=qG op/\NY op=!(name==[])/\(op=1->0<=n)/\(op=26->n=0\/CB n=eQ)/\(op≠1->op≠26->n=0):=by
 unfold Ec at h;grind
theorem Ko(e:d5):∀d,iW e d=0->Vd e:=by
 induction e using d5.ind with
 | h op n name kids ih=>
  intro d h;simp[iW]at h;cases h0:eJ (32<=d)with
  | true=>rw[h0]at h;simp at h|false=>
   rw[h0]at h;cases h1:Ec op n name kids.length with
   | true=>rw[h1]at h;simp at h|false=>
    rw[h1]at h;cases h2:(NY op && !rName name)with
    | true=>rw[h2]at h;simp at h|false=>rw[h2]at h;simp at h;rw[Uq]at h;obtain⟨a,b,c,d',e⟩:=anS h1;refine .mk op n name kids a b c d' e (λhn=>?_) λk hk=>ih k hk _ (h k hk);simp_all
def par(b:Bool)(s:Bs):Bs:=cond b (([40]++s)++[41]) s
theorem anT{op:Int}{n:Nat}(h:(n:Int)=qG op):1<=op/\op<=26:=by
 by_cases h1:1<=op/\op<=26
 .exact h1
 .have e1:(op==1)=eK:=by grind
  have e2:(op==2)=eK:=by grind
  have e3:(op==25)=eK:=by grind
  have e4:(op==26)=eK:=by grind
  have k1:(eJ (3<=op)&&eJ (op<=6))=eK:=by grind
  have k2:(eJ (7<=op)&&eJ (op<=24))=eK:=by grind
  simp only[qG,e1,e2,e3,e4,k1,k2,abM,aI]at h;omega
theorem anU{op:Int}(h:1<=op/\op<=26):op=1\/op=2\/op=3\/op=4\/op=5\/op=6\/op=7\/op=8\/op=9\/op=10\/op=11\/op=12\/op=13\/op=14\/op=15\/op=16\/op=17\/op=18\/op=19\/op=20\/op=21\/op=22\/op=23\/op=24\/op=25\/op=26:=om
inductive Kind(op:Int):Prop
 | num (h:op=1\/op=2) (hk:qG op=0) (hl:(mY op).1=14)
 | un (h:3<=op/\op<=6) (hk:qG op=1) (hl:(mY op).1=13) (hs:(mY op).2.length=1)
 | bin (h:7<=op/\op<=24) (hk:qG op=2) (hl:3<=(mY op).1/\(mY op).1<=12) (hs:(mY op).2.length<=2)
 | con (h:op=25) (hk:qG op=3) (hl:(mY op).1=2)
 | set (h:op=26) (hk:qG op=1) (hl:(mY op).1=1)
structure Good(e:d5):Prop where
 v:Vd e
 o:je e
 m:Nms e
theorem Good.kid(g:Good e):∀k,k∈e.fKids->Good k:=by
 obtain⟨v,o,m⟩:=g;cases e with
 | mk op n name kids=>
  cases v with
  | mk _ _ _ _ h1 h2 h3 h4 h5 h6 h7=>
   cases o with
   | mk _ _ _ _ a1 a2 a3 a4 a5=>cases m with|mk _ _ _ _ b1 b2=>exact λk hk=>⟨h7 k hk,a5 k hk,b2 k hk⟩
theorem Good.ind(h:∀e,Good e->(∀k,k∈e.fKids->P k)->P e):∀e,Good e->P e:=by
 intro e
 induction e using d5.ind with|h op n name kids ih=>intro g;exact h _ g λk hk=>ih k hk (g.kid k hk)
theorem asK(h:(Lit.int .i64 n).wf=eQ):-9223372036854775808<=n/\n<=9223372036854775807:=by
 have h1:IntKind.i64.min=-9223372036854775808:=by decide
 have h2:IntKind.i64.max=9223372036854775807:=by decide
 simp[Lit.wf]at h;omega
theorem Good.facts(g:Good e):(Sx e.fKids:Int)=qG e.fOp/\(e.fOp=1->0<=e.fN)/\e.fN<=9223372036854775807/\e.fName.length<=60/\(e.fOp=26->e.fN=0\/CB e.fN=eQ):=by
 obtain⟨v,o,m⟩:=g;cases e with
 | mk op n name kids=>
  cases v with
  | mk _ _ _ _ h1 h2 h3 h4 h5 h6 h7=>
   cases o with
   | mk _ _ _ _ a1 a2 a3 a4 a5=>cases m with|mk _ _ _ _ b1 b2=>exact⟨h1,h3,(asK a2).2,b1,h4⟩
variable{R:Type}
theorem aea{n:Nat}{inst:Decidable (n<=9223372036854775807)}(h:n<=1000000)(k:O R):rq (@eJ (n<=9223372036854775807) inst) k=k:=cy (eT om)
theorem aeb{d:Nat}(h:d<10):cu ([dE .u8 (dE .u64 (48+(d:Int)))]:J Int)=[lL (48+d)]:=by have:d=0\/d=1\/d=2\/d=3\/d=4\/d=5\/d=6\/d=7\/d=8\/d=9:=om;rcases this with rfl|rfl|rfl|rfl|rfl|rfl|rfl|rfl|rfl|rfl<;>rfl
theorem Lp:∀(k u m:Nat)(out:Bs),u<10^(k+1)->u<18446744073709551616->k<m->Sx out+k<=1000->ck (σ:=Int×Bs) (λbA x1=>
   cond (eJ (9<x1.1))
   (rq (eJ (Sx (cu ([dE .u8 (dE .u64 (48+(Int.tmod x1.1 10)))]:J Int))+Sx x1.2<=9223372036854775807)) (bA (dE .u64 (Int.tdiv x1.1 10),(cu ([dE .u8 (dE .u64 (48+(Int.tmod x1.1 10)))]:J Int))++x1.2)))
   (rq (eJ (Sx (cu ([dE .u8 (dE .u64 (48+x1.1))]:J Int))+Sx x1.2<=9223372036854775807)) (iN ((cu ([dE .u8 (dE .u64 (48+x1.1))]:J Int))++x1.2)))) m ((u:Int),out)=iN (Lib.decDigits u++out)
 | k,u,0,out,_,_,h,_=>by omega|k,u,m+1,out,hu,hu',hk,ho=>by
  simp only[ck];by_cases h9:u<10
  .rw[show eJ (9<(u:Int))=eK by simp;omega];simp;rw[aeb h9,aea aM,Lib.decDigits_one h9]
  .have e1:Int.tmod (u:Int) 10=((u%10:Nat):Int):=IntWalk.up_tmod rfl rfl;have e2:Int.tdiv (u:Int) 10=((u / 10:Nat):Int):=IntWalk.up_tdiv rfl rfl;rw[show eJ (9<(u:Int))=eQ by simp;omega];simp only[e1,e2];rw[aeb (abH _ de),aea aM,q9 _ om];cases k with|zero=>simp at hu;omega|succ k=>rw[Lp k (u / 10) m _ om om om aM];rw[Lib.decDigits.eq_1 u,dif_neg h9];simp
theorem ajq(F:Nat)(hF:30<=F)(h0:0<=n)(h1:n<=9223372036854775807):dW F n=iN (Lib.itoa n):=by obtain⟨u,rfl⟩:∃u:Nat,n=u:=⟨n.toNat,om⟩;unfold dW yl wx;rw[show eJ ((u:Int)<0)=eK by simp,q9 (u:Int) om];rw[Lp 20 u F [] om om om si];unfold Lib.itoa;simp_all
theorem Mg(ho:je e):bU λF _=>EL F e=iN (iW e 0):=(aaX ho).fst.mono λF _ h=>by unfold EL Ur wx;simp_all
theorem z7{R σ:Type}{body:(σ->O R)->σ->O R}{s:Bs}{p:UInt8->Bool}{fin:Nat->O R}(st:Nat->σ)
  (hs:∀(i:Nat) rc (h:i<Sx s),body rc (st i)=cond (p s[i]) (rc (st (i+1))) (fin i)) (he:∀rc,body rc (st s.length)=fin s.length) :
  ∀(k i F:Nat),i+k=Sx s->k<F->ck body F (st i)=fin (i+Sx ((s.drop i).takeWhile p))
 | 0,i,F,h,hF=>by
  cases F with
  | zero=>omega|succ F=>obtain rfl:i=Sx s:=om;rw[MV];exact he _
 | k+1,i,F,h,hF=>by
  cases F with
  | zero=>omega|succ F=>have hi:i<Sx s:=om;show body (ck body F) (st i)=_;rw[hs i _ hi,tu hi,VJ];cases p s[i]with|false=>simp|true=>simp only[aQ,if_true,sB];rw[z7 st hs he k (i+1) F om om];congr 1;omega
def bl(b:UInt8):Bool:=(b.toNat:Int)==9||(b.toNat:Int)==10||(b.toNat:Int)==32
def fo(b:UInt8):Bool:=tQ (b.toNat:Int)
def dg(b:UInt8):Bool:=gF (b.toNat:Int)
def le(b:UInt8):Bool:=pR (b.toNat:Int)||(b.toNat:Int)==95
def skip(s:Bs)(i:Nat):Nat:=i+Sx ((s.drop i).takeWhile bl)
def mF(s:Bs)(j:Nat):Bs:=(s.drop j).takeWhile fo
def Az:J Bs:=[[60,60,61],[62,62,61],[60,60],[62,62],[60,61],[62,61],[61,61],[33,61],[38,38],[124,124],[43,61],[45,61],[42,61],[47,61],[37,61],[38,61],[94,61],[124,61]]
def ajr:J Bs:=[[43],[45],[42],[47],[37],[60],[62],[38],[94],[124],[33],[126],[63],[58],[40],[41],[61]]
def qH:J Bs:=Az++ajr
def oX(l:Bs):Bs:=(qH.find? λo=>o.isPrefixOf l).getD []
def Xz(s:Bs)(j:Nat):gi:=match s.drop j with|[]=>⟨0,j,[]⟩|b::_=>cond (fo b) ⟨cond (dg b) 1 2,j,mF s j⟩ (cond (oX (s.drop j)==[]) ⟨4,j,[b]⟩ ⟨3,j,oX (s.drop j)⟩)
def vA(s:Bs)(i:Nat):gi:=Xz s (skip s i)
theorem OT{l p:Bs}:(l.take p.length==p)=p.isPrefixOf l:=by rw[tW,tv,abO,List.prefix_iff_eq_take];exact eq_comm
theorem AA(p:α->Bool)(l:J α):(l.takeWhile p).length<=Sx l:=(List.takeWhile_sublist _).length_le
theorem iS(s:Bs)(i:Nat)(h:i<=Sx s):skip s i<=Sx s/\i<=skip s i:=by have:=AA bl (s.drop i);rw[BL]at this;unfold skip;omega
theorem Mh{α:Type}(p:α->Bool):∀l:J α,l.drop (l.takeWhile p).length=l.dropWhile p
 | []=>rfl|x::l=>by rw[VJ,MW];cases p x with|true=>simpa using Mh p l|false=>rfl
theorem aln(s:Bs)(i:Nat):s.drop (skip s i)=(s.drop i).dropWhile bl:=by unfold skip;rw[<-ahA,Mh]
theorem Mi{α:Type}(p:α->Bool):∀(l:J α)(b:α)(m:J α),l.dropWhile p=b::m->p b=eK
 | [],b,m,h=>by simp at h|x::l,b,m,h=>by rw[MW]at h;cases hx:p x with|true=>rw[hx]at h;exact Mi p l b m (by simpa using h)|false=>rw[hx]at h;simp at h;rw[<-h.1];exact hx
theorem ym(s:Bs)(i:Nat):skip s (skip s i)=skip s i:=by
 have:(s.drop (skip s i)).takeWhile bl=[]:=by rw[aln];cases h:(s.drop i).dropWhile bl with|nil=>rfl|cons b m=>rw[VJ,Mi bl _ b m h];rfl
 rw[skip,this];rfl
theorem anV(F:Nat)(b:UInt8):EM F (b.toNat:Int)=iN (bl b):=by unfold EM bl wx;cases ((b.toNat:Int)==9)<;>cases ((b.toNat:Int)==10)<;>rfl
theorem alo(c:Int):tQ c=eQ↔(97<=c/\c<=122)\/(65<=c/\c<=90)\/(48<=c/\c<=57)\/c=95:=by unfold tQ pR gF;simp only[KW,cH,fO,tv];omega
theorem XA(F:Nat)(b:UInt8):qg F (b.toNat:Int)=iN (fo b):=by
 unfold qg fo wx;generalize(b.toNat:Int)=c;have:tQ c=(c==95||(eJ (48<=c)&&eJ (c<=57))||(eJ (65<=c)&&eJ (c<=90))||(eJ (97<=c)&&eJ (c<=122))):=by rw[tW,alo];simp only[KW,cH,fO,tv];omega
 rw[this];cases (c==95)<;>cases eJ (48<=c)<;>cases eJ (c<=57)<;>cases eJ (65<=c)<;>cases eJ (c<=90)<;>cases eJ (97<=c)<;>cases eJ (c<=122)<;>rfl
theorem yo(F:Nat)(b:UInt8):pz F (b.toNat:Int)=iN (le b):=by unfold pz le pR wx;generalize(b.toNat:Int)=c;cases (c==95)<;>cases eJ (65<=c)<;>cases eJ (c<=90)<;>cases eJ (97<=c)<;>cases eJ (c<=122)<;>rfl
theorem aec(F:Nat)(b:UInt8):z8 F (b.toNat:Int)=iN (dg b):=by unfold z8 dg gF wx;cases eJ (48<=(b.toNat:Int))<;>rfl
theorem apm(b:UInt8):fo b=(le b||dg b):=by unfold fo tQ le dg;cases pR (b.toNat:Int)<;>cases gF (b.toNat:Int)<;>cases ((b.toNat:Int)==95)<;>rfl
theorem CC(F:Nat)(a p:Bs):cC F a p=iN (p.isPrefixOf a):=by
 unfold cC kH wx;by_cases h:Sx p<=Sx a
 .have e1:eJ ((Sx p:Int)<=(Sx a:Int))=eQ:=eT om;simp only[e1,Dn,xy,aQ,iz,aC];unfold sl;simp only[bN,Int.toNat_zero,M3,OT]
 .have e1:eJ ((Sx p:Int)<=(Sx a:Int))=eK:=vb om;simp only[e1,aI,aC];congr 1;apply Eq.symm;apply M1.2;intro hp;rw[abO]at hp;exact h hp.length_le
theorem uW(F:Nat)(s:Bs)(i:Nat)(e pos:Int)(hi:i<=Sx s)(hF:Sx s<F)(hl:Sx s<=1000000):gG F s (i:Int) e pos=iN (s,(skip s i:Int),e,pos):=by
 unfold gG wx
 exact z7 (s:=s) (p:=bl) (fin:=λj=>iN (s,(j:Int),e,pos)) (λj=>(s,(j:Int),e,pos)) (λj rc h=>by
  simp only[zw h,Dn,xy,aQ,iz,bN,gd h,bF (i:=j) om];unfold bl;cases ((s[j].toNat:Int)==9)<;>cases ((s[j].toNat:Int)==10)<;>cases ((s[j].toNat:Int)==32)<;>rfl) (λrc=>by
  simp only[IQ,aI,aC]) (Sx s-i) i F om om
theorem XB(s:J α)(i n:Nat):sl s (i:Int) ((i+n:Nat):Int)=(s.drop i).take n:=by unfold sl;rw[bN,bN,List.take_drop]
theorem Ed{α:Type}(p:α->Bool):∀l:J α,l.take (l.takeWhile p).length=l.takeWhile p
 | []=>rfl|x::l=>by rw[VJ];cases p x with|true=>simpa using Ed p l|false=>rfl
theorem NZ(F:Nat)(s:Bs)(i:Nat)(e pos:Int)(hi:i<=Sx s)(hF:Sx s<F)(hl:Sx s<=1000000):qv F s (i:Int) e pos=iN (mF s i):=by
 unfold qv wx;have hw:=AA fo (s.drop i);rw[BL]at hw
 refine(z7 (s:=s) (p:=fo) (fin:=λ(j:Nat)=>rq ((eJ (0<=(i:Int)))&&((eJ ((i:Int)<=(j:Int)))&&(eJ ((j:Int)<=(Sx s:Int))))) (iN (sl s i j))) (λj=>(j:Int)) (λj rc h=>by
  simp only[zw h,Dn,xy,aQ,iz,bN,gd h,bF (i:=j) om,yo,aec,aC];rw[apm];cases le s[j]<;>cases dg s[j]<;>rfl) (λrc=>by
  simp only[IQ,aI,aC]) (Sx s-i) i F om om).trans ?_
 rw[cy (by simp only[cH,fO];omega),XB,Ed];rfl
theorem oH(F:Nat)(s:Bs)(i:Nat)(e pos:Int)(hi:i<=Sx s)(hF:Sx s+50<F)(hl:Sx s<=1000000):iJ F s (i:Int) e pos=iN (oX (s.drop (skip s i)),s,(skip s i:Int),e,pos):=by
 unfold iJ wx;obtain⟨h1,h2⟩:=iS s i hi;rw[uW F s i e pos hi om hl,show CD F=iN qH from rfl];simp only[aC];generalize hj:skip s i=j at h1 h2⊢;have oG:∀o,o∈qH->Sx o<=3:=by decide
 have hlen:Sx qH=35:=rfl;unfold oX;generalize qH=L at oG hlen⊢;rw[tc L (λk (_:Unit)=>(k:Int)) (λ(_:Unit) o=>cond (o.isPrefixOf (s.drop j)) (iN (.inr (o,s,(j:Int),e,pos))) (iN (.inl ()))) (λ_=>iN ([],s,(j:Int),e,pos)) (t:=()) om ?_ ?_ ?_]
 .clear oG hlen
  induction L with
  | nil=>rfl|cons o l ih=>
   simp only[rK,PM];cases o.isPrefixOf (s.drop j)
   .simpa[sm]using ih
   .rfl
 .rfl
 .intro k h t rc;have h3:=oG _ (fW h);simp only[zw h,Dn,xy,aQ,iz,bN,gd h,bF (i:=k) om];rw[bQ (x:=(Sx s:Int)-(j:Int)) om,bQ (x:=(j:Int)+(L[k].length:Int)) om];by_cases hle:L[k].length<=Sx s-j
  .rw[show eJ ((L[k].length:Int)<=(Sx s:Int)-(j:Int))=eQ from eT om];have hc:(eJ ((j:Int)<=(j:Int)+(L[k].length:Int))&&eJ ((j:Int)+(L[k].length:Int)<=(Sx s:Int)))=eQ:=by simp only[cH,fO];omega
   simp only[hc,xy,aQ,iz,aC];rw[show(j:Int)+(L[k].length:Int)=((j+L[k].length:Nat):Int) by omega,XB,OT];cases L[k].isPrefixOf (s.drop j)<;>rfl
  .rw[show eJ ((L[k].length:Int)<=(Sx s:Int)-(j:Int))=eK from vb om];have:L[k].isPrefixOf (s.drop j)=eK:=by apply M1.2;intro hp;rw[abO]at hp;have:=hp.length_le;rw[BL]at this;omega
   rw[this];rfl
 .intro t rc;simp only[IQ,aI]
theorem Y4:∀(l:Bs)(c:UInt8),eJ (0<=lO l c)=l.contains c
 | [],c=>rfl|b::l,c=>by
  have ih:=Y4 l c;have hge:=Lib.indexByte_ge l c;unfold lO;rw[ahx];by_cases h:b=c
  .subst h;simp
  .have h1:(b==c)=eK:=by simpa using h
   have h2:(c==b)=eK:=by simpa using λe:c=b=>h e.symm
   rw[h1,h2];simp only[MZ,PU,PO];rw[<-ih];by_cases hm:lO l c=-1
   .simp[hm]
   .have:(lO l c == -1)=eK:=by simpa using hm
    rw[this];simp only[MZ,PU];rw[eT om,eT om]
def XC:Bs:=[43,45,42,47,37,60,62,38,94,124,33,126,63,58,40,41,61]
def AB:Bs:=[61,63,58,124,94,38,60,62,43,45,42,47,37,33,126,40,41]
theorem Us:∀(l:Bs)(b:UInt8)(m:Bs),((l.map λx=>[x]).find? λo=>o.isPrefixOf (b::m))=cond (l.contains b) (iN [b]) iF
 | [],b,m=>rfl|x::l,b,m=>by
  rw[jb,PM,ahx];by_cases h:x=b
  .subst h;simp[List.isPrefixOf]
  .have h1:(x==b)=eK:=by simpa using h
   have h2:(b==x)=eK:=by simpa using λe:b=x=>h e.symm
   have h3:[x].isPrefixOf (b::m)=eK:=by simp[List.isPrefixOf,h1]
   rw[h3,h2,Us l b m];rfl
theorem anW(b:UInt8):AB.contains b=XC.contains b:=by rw[tW,abv,abv];exact⟨λh=>(by decide:∀x,x∈AB->x∈XC) b h,λh=>(by decide:∀x,x∈XC->x∈AB) b h⟩
theorem ajs(b:UInt8)(m:Bs):oX (b::m)=match Az.find? (λo=>o.isPrefixOf (b::m))with|some o=>o|none=>cond (AB.contains b) [b] []:=by
 unfold oX qH;rw[List.find?_append,show ajr=XC.map λx=>[x]from rfl,Us,<-anW];cases Az.find? (λo=>o.isPrefixOf (b::m))with
 | some o=>rfl|none=>cases AB.contains b<;>rfl
theorem Ee:∀o,o∈qH->o≠[]:=by decide
theorem Rl(l:Bs):oX l=[]\/oX l∈qH/\oX l <+: l:=by unfold oX;cases h:qH.find? (λo=>o.isPrefixOf l)with|none=>exact .inl rfl|some o=>right;have h1:=VK h;have h2:=abw h;exact⟨h1,abO.1 h2⟩
theorem Y5(F:Nat)(s:Bs)(i:Nat)(hi:i<=Sx s)(hF:Sx s+50<F)(hl:Sx s<=1000000):vC F s (i:Int)=iN (vA s i):=by
 unfold vC wx;refine(z7 (s:=s) (p:=bl) (fin:=λj=>
  (cond ((j:Int)==(Sx s:Int))
  (iN (gi.mk 0 (j:Int) []))
  (rq ((eJ (0<=(j:Int)))&&(eJ ((j:Int)<(Sx s:Int)))) ((qg F ((s.getD (eI (j:Int)) 0).toNat:Int)).bind λx5=>
  cond x5
  (ck (σ:=Int) (R:=gi) (λwS x6=>
  (cond (eJ (x6<(Sx s:Int)))
  (rq ((eJ (0<=x6))&&(eJ (x6<(Sx s:Int)))) ((qg F ((s.getD (eI x6) 0).toNat:Int)).bind λx9=>
  iN x9))
  (iN eK):Option Bool).bind λx8=>
  cond x8
  (wS (aE (x6+1)))
  ((rq ((eJ (0<=(j:Int)))&&(eJ ((j:Int)<(Sx s:Int)))) (cond (eJ (48<=((s.getD (eI (j:Int)) 0).toNat:Int)))
  (rq ((eJ (0<=(j:Int)))&&(eJ ((j:Int)<(Sx s:Int)))) (iN (eJ (((s.getD (eI (j:Int)) 0).toNat:Int)<=57))))
  (iN eK)):Option Bool).bind λcw=>
  cond cw
  (rq ((eJ (0<=(j:Int)))&&((eJ ((j:Int)<=x6))&&(eJ (x6<=(Sx s:Int))))) (iN (gi.mk 1 (j:Int) (sl s (j:Int) x6))))
  (rq ((eJ (0<=(j:Int)))&&((eJ ((j:Int)<=x6))&&(eJ (x6<=(Sx s:Int))))) (iN (gi.mk 2 (j:Int) (sl s (j:Int) x6)))))) F (aE ((j:Int)+1)))
  (ck (σ:=Int) (R:=gi) (λY6 gz=>
  cond (eJ (gz<(Sx Az:Int)))
  (rq ((eJ (0<=gz))&&(eJ (gz<(Sx Az:Int)))) (rq ((eJ (0<=(j:Int)))&&((eJ ((j:Int)<=(Sx s:Int)))&&(eJ ((Sx s:Int)<=(Sx s:Int))))) ((cC F (sl s (j:Int) (Sx s:Int)) (Az.getD (eI gz) [])).bind λga=>
  cond ga
  (iN (gi.mk 3 (j:Int) (Az.getD (eI gz) [])))
  (Y6 (aE (gz+1))))))
  (rq ((eJ (0<=(j:Int)))&&(eJ ((j:Int)<(Sx s:Int)))) ((strings_IndexByte F ([61,63,58,124,94,38,60,62,43,45,42,47,37,33,126,40,41]:Bs) ((s.getD (eI (j:Int)) 0).toNat:Int)).bind λtN=>
  cond (eJ (0<=tN))
  (rq ((eJ (0<=(j:Int)))&&((eJ ((j:Int)<=aE ((j:Int)+1)))&&(eJ (aE ((j:Int)+1)<=(Sx s:Int))))) (iN (gi.mk 3 (j:Int) (sl s (j:Int) (aE ((j:Int)+1))))))
  (rq ((eJ (0<=(j:Int)))&&((eJ ((j:Int)<=aE ((j:Int)+1)))&&(eJ (aE ((j:Int)+1)<=(Sx s:Int))))) (iN (gi.mk 4 (j:Int) (sl s (j:Int) (aE ((j:Int)+1))))))))) F 0))))) (λj=>(j:Int)) (λj rc h=>by
  simp only[zw h,Dn,xy,aQ,iz,bN,gd h,bF (i:=j) om,anV,aC];rfl) (λrc=>by
  simp only[IQ,aI,aC];rfl) (Sx s-i) i F om om).trans ?_
 obtain⟨h1,h2⟩:=iS s i hi;show _=iN (Xz s (skip s i));rw[show i+Sx ((s.drop i).takeWhile bl)=skip s i from rfl];generalize skip s i=j at h1 h2⊢;unfold Xz;by_cases hj:j=Sx s
 .subst hj;rw[MV];simp only[Ic,aQ]
 .have hj':j<Sx s:=om;have e0:((j:Int)==(Sx s:Int))=eK:=by rw[eG];omega
  simp only[e0,aI,zw hj',Dn,xy,iz,bN,gd hj',XA,aC,bF (i:=j) om];have hd:=tu hj';rw[hd];simp only[];cases hfo:fo s[j]with
  | true=>
   simp only[aQ];have hw:=AA fo (s.drop (j+1));rw[BL]at hw
   refine(z7 (s:=s) (p:=fo) (fin:=λ(k:Nat)=>cond (dg s[j]) (rq ((eJ ((j:Int)<=(k:Int)))&&(eJ ((k:Int)<=(Sx s:Int)))) (iN (gi.mk 1 (j:Int) (sl s j k)))) (rq ((eJ ((j:Int)<=(k:Int)))&&(eJ ((k:Int)<=(Sx s:Int)))) (iN (gi.mk 2 (j:Int) (sl s j k))))) (λk=>(k:Int)) (λk rc h=>by
    simp only[zw h,Dn,xy,aQ,iz,bN,gd h,bF (i:=k) om,XA,aC,Ib];unfold dg gF;cases fo s[k]<;>cases eJ (48<=(s[j].toNat:Int))<;>cases eJ ((s[j].toNat:Int)<=57)<;>rfl) (λrc=>by
    simp only[IQ,aI,aC,Ib];unfold dg gF;cases eJ (48<=(s[j].toNat:Int))<;>cases eJ ((s[j].toNat:Int)<=57)<;>rfl) (Sx s-(j+1)) (j+1) F om om).trans ?_
   have hlen:((s.drop j).takeWhile fo).length=1+Sx ((s.drop (j+1)).takeWhile fo):=by rw[hd,VJ,hfo];simp;omega
   have hc:(eJ ((j:Int)<=((j+1+Sx ((s.drop (j+1)).takeWhile fo):Nat):Int))&&eJ (((j+1+Sx ((s.drop (j+1)).takeWhile fo):Nat):Int)<=(Sx s:Int)))=eQ:=by simp only[cH,fO];omega
   have OB:sl s (j:Int) ((j+1+Sx ((s.drop (j+1)).takeWhile fo):Nat):Int)=mF s j:=by rw[show j+1+Sx ((s.drop (j+1)).takeWhile fo)=j+Sx ((s.drop j).takeWhile fo) by omega,XB,Ed];rfl
   rw[hc,OB];cases dg s[j]<;>rfl
  | false=>
   simp only[aI];have oG:∀o,o∈Az->Sx o<=3:=by decide
   have hlen:Sx Az=18:=rfl;rw[<-hd,hd,ajs];have hne:∀o,o∈Az->o≠[]:=by decide
   generalize Az=L at oG hlen hne⊢;have h1:aE ((j:Int)+1)=((j+1:Nat):Int):=bF om;have hs1:sl s (j:Int) ((j+1:Nat):Int)=[s[j]]:=by rw[XB,hd];rfl
   have OB:sl s (j:Int) (Sx s:Int)=s.drop j:=by unfold sl;rw[bN,bN,nW]
   have hc:(eJ ((j:Int)<=((j+1:Nat):Int))&&eJ (((j+1:Nat):Int)<=(Sx s:Int)))=eQ:=by simp only[cH,fO];omega
   have Iu:(eJ ((j:Int)<=(Sx s:Int))&&eJ ((Sx s:Int)<=(Sx s:Int)))=eQ:=by simp only[cH,fO];omega
   rw[tc L (λk (_:Unit)=>(k:Int)) (λ(_:Unit) o=>cond (o.isPrefixOf (s.drop j)) (iN (.inr (gi.mk 3 (j:Int) o))) (iN (.inl ()))) (λ_=>cond (AB.contains s[j]) (iN (gi.mk 3 (j:Int) [s[j]])) (iN (gi.mk 4 (j:Int) [s[j]]))) (t:=()) om ?_ ?_ ?_]
   .have key:∀l:J Bs,rK (λ(_:Unit)(o:Bs)=>cond (o.isPrefixOf (s.drop j)) (iN (.inr (gi.mk 3 (j:Int) o))) (iN (.inl ()))) (λ_=>cond (AB.contains s[j]) (iN (gi.mk 3 (j:Int) [s[j]])) (iN (gi.mk 4 (j:Int) [s[j]]))) l ()=match l.find? (λo=>o.isPrefixOf (s.drop j))with|some o=>iN (gi.mk 3 (j:Int) o)|none=>cond (AB.contains s[j]) (iN (gi.mk 3 (j:Int) [s[j]])) (iN (gi.mk 4 (j:Int) [s[j]])):=by
     intro l
     induction l with
     | nil=>rfl|cons o l ih=>
      simp only[rK,PM];cases o.isPrefixOf (s.drop j)
      .simpa[sm]using ih
      .rfl
    rw[key,<-hd];cases hf:L.find? (λo=>o.isPrefixOf (s.drop j))with
    | some o=>
     have h1:=hne o (VK hf);have:(o==[])=eK:=by simpa using h1
     simp only[this,aI]
    | none=>cases AB.contains s[j]<;>rfl
   .rfl
   .intro k h t rc;simp only[zw h,Dn,xy,aQ,iz,bN,gd h,bF (i:=k) om,Iu,OB,CC,aC];cases L[k].isPrefixOf (s.drop j)<;>rfl
   .intro t rc;have hix:strings_IndexByte F AB (s[j].toNat:Int)=iN (lO AB s[j]):=by unfold strings_IndexByte stringslite_IndexByte sR ZQ wx;simp
    simp only[IQ,aI];show(strings_IndexByte F AB (s[j].toNat:Int)).bind _=_;rw[hix];simp only[aC,Y4,hc,hs1,iz,Ib]
theorem Rm{R σ α:Type}{body:(σ->O R)->σ->O R}{l:J α}{p:α->Bool}{z:O R}(st:Nat->σ)(hs:∀(i:Nat) rc (h:i<Sx l),body rc (st i)=cond (p l[i]) (rc (st (i+1))) z):
  ∀(k i F:Nat),i+k=Sx l->k<F->(l.drop i).all p=eK->ck body F (st i)=z
 | 0,i,F,h,hF,hb=>by simp_all|k+1,i,F,h,hF,hb=>by
  cases F with
  | zero=>omega|succ F=>have hi:i<Sx l:=om;show body (ck body F) (st i)=z;rw[hs i _ hi];rw[tu hi,Sy]at hb;cases hp:p l[i]with|false=>rfl|true=>rw[hp]at hb;exact Rm st hs k (i+1) F om om hb
def auw:Bs:=[48,49,50,51,52,53,54,55,56,57,97,98,99,100,101,102]
def dR(b:UInt8):Int:=cond (dg b) ((b.toNat:Int)-48) (cond (eJ (97<=(b.toNat:Int))&&eJ ((b.toNat:Int)<=102)) ((b.toNat:Int)-87) (cond (eJ (65<=(b.toNat:Int))&&eJ ((b.toNat:Int)<=70)) ((b.toNat:Int)-55) (-1)))
def dA(b:UInt8):Int:=lO auw (Uc .u8 (b.toNat:Int) (cond (eJ (65<=(b.toNat:Int))&&eJ ((b.toNat:Int)<=90)) 32 0)).toNat.toUInt8
theorem asL:∀n:Fin 256,dA (lL n.val)=dR (lL n.val):=by decide +kernel
theorem Ve{P:UInt8->Prop}(h:∀n:Fin 256,P (lL n.val))(b:UInt8):P b:=by have:=h ⟨b.toNat,b.toNat_lt⟩;simpa using this
def auy(b:UInt8):dA b=dR b:=Ve (P:=λb=>dA b=dR b) asL b
def okD(base:Int)(l:Bs):Bool:=l.all λb=>eJ (0<=dR b)&&eJ (dR b<base)
def tF(base v:Nat)(l:Bs):Nat:=l.foldl (λv b=>v*base+(dR b).toNat) v
theorem Y7(base:Nat)(hb:1<=base):∀(l:Bs)(v:Nat),v<=tF base v l
 | [],v=>eE _|b::l,v=>by have h1:=Y7 base hb l (v*base+(dR b).toNat);have h2:=abA v hb;show v<=tF base (v*base+(dR b).toNat) l;omega
def rL(base v:Nat)(l:Bs):Int×Int:=cond (okD (base:Int) l) (cond (eJ (tF base v l<=9223372036854775807)) ((tF base v l:Int),0) (0,14)) (0,6)
def mC(s:Bs):Nat×Bs:=cond ((([48,120]:Bs).isPrefixOf s)||(([48,88]:Bs).isPrefixOf s)) (16,s.drop 2) (cond (((s.getD 0 0).toNat:Int)==48) (8,s) (10,s))
def qh(s:Bs):Int×Int:=cond ((mC s).2==[]) (0,6) (rL (mC s).1 0 (mC s).2)
theorem div_lt{d base most:Int}(hb:1<=base)(hd:0<=d)(Wv:d<=most):(most-d) / base<n↔most<n*base+d:=by grind[Int.ediv_lt_iff_lt_mul]
theorem Kp(base:Nat)(hb:1<=base/\base<=16):∀(l:Bs)(n:Int)(IX:Bool)(v:Nat),(IX=eK->n=(v:Int)/\v<=9223372036854775807)->(IX=eQ->9223372036854775807<v) ->
  rK (λt (b:UInt8)=>cond (eJ (dR b<0)||decide ((base:Int)<=dR b)) (iN (.inr ((0,6):Int×Int))) (cond (t.2||decide (aE (Int.tdiv (aE (9223372036854775807-dR b)) (base:Int))<t.1)) (iN (.inl (t.1,eQ))) (iN (.inl (aE (aE (t.1*(base:Int))+dR b),t.2)))))
   (λt=>cond t.2 (iN (0,14)) (iN (t.1,0))) l (n,IX)=iN (rL base v l)
 | [],n,IX,v,h1,h2=>by
  cases IX with
  | false=>obtain⟨rfl,h⟩:=h1 rfl;simp[rK,rL,okD,tF,h]
  | true=>
   have h3:¬ v<=9223372036854775807:=by have:=h2 rfl;omega
   simp[rK,rL,okD,tF,h3]
 | b::l,n,IX,v,h1,h2=>by
  simp[rK];by_cases hbad:dR b<0\/(base:Int)<=dR b
  .have e1:(eJ (dR b<0)||decide ((base:Int)<=dR b))=eQ:=by simpa using hbad
   have e2:okD (base:Int) (b::l)=eK:=by unfold okD;grind
   rw[e1];simp[rL,e2,sm]
  .have e1:(eJ (dR b<0)||decide ((base:Int)<=dR b))=eK:=by simp_all
   have e2:okD (base:Int) (b::l)=okD (base:Int) l:=by unfold okD;simp_all
   have e3:rL base v (b::l)=rL base (v*base+(dR b).toNat) l:=by unfold rL;rw[e2];rfl
   rw[e1,e3];have hm:((v*base+(dR b).toNat:Nat):Int)=(v:Int)*(base:Int)+dR b:=by grind
   have hvb:=abA v hb.1;cases IX with
   | true=>have:=h2 rfl;exact Kp base hb l n eQ _ (λh=>by cases h) λ_=>by omega
   | false=>
    obtain⟨rfl,hv⟩:=h1 rfl;rw[bQ (x:=9223372036854775807-dR b) om,show aE (Int.tdiv (9223372036854775807-dR b) (base:Int))=(9223372036854775807-dR b) / (base:Int)from IntWalk.i64_quo _ _ om];by_cases hx:(9223372036854775807-dR b) / (base:Int)<(v:Int)
    .rw[eT hx];rw[div_lt om om om]at hx;exact Kp base hb l v eQ _ (λh=>by cases h) λ_=>by omega
    .rw[vb hx];rw[div_lt om om om]at hx;rw[bQ (x:=(v:Int)*(base:Int)) om,bQ om];exact Kp base hb l _ eK _ (λ_=>⟨hm.symm,om⟩) λh=>by cases h
theorem anX(F:Nat)(c:Int):EN F c=iN (cond (eJ (65<=c)&&eJ (c<=90)) 32 0):=by unfold EN wx;grind
theorem aed(s:Bs):(1<=(mC s).1/\(mC s).1<=16)/\(mC s).2.length<=Sx s:=by unfold mC;grind
theorem anY(F:Nat)(s:Bs)(h0:s≠[])(hF:Sx s<F)(hl:Sx s<=1000000):Aa F s=iN (qh s):=by
 obtain⟨hb,hlen⟩:=aed s;have hpos:=AJ.2 h0;have e1:((cC F s ([48,120]:Bs)).bind λx3=>cond x3 (iN eQ) ((cC F s ([48,88]:Bs)).bind λx4=>iN x4):O Bool)=iN (([48,120]:Bs).isPrefixOf s||([48,88]:Bs).isPrefixOf s):=by grind[CC]
 have Dl:(cond (([48,120]:Bs).isPrefixOf s||([48,88]:Bs).isPrefixOf s)
   (rq ((eJ (2<=(Sx s:Int)))&&(eJ ((Sx s:Int)<=(Sx s:Int)))) (iN ((16:Int),sl s 2 (Sx s:Int))))
   (rq (eJ (0<(Sx s:Int))) (cond (((s.getD 0 0).toNat:Int)==48) (iN (8,s)) (iN (10,s)))):O (Int×Bs))=iN (((mC s).1:Int),(mC s).2):=by
  unfold mC;cases hp:(([48,120]:Bs).isPrefixOf s||([48,88]:Bs).isPrefixOf s)with|true=>rw[cy (by grind)];unfold sl;simp|false=>simp;rw[cy (by simp_all)];grind
 unfold Aa wx;rw[e1];simp only[aC];rw[Dl];simp only[aC];unfold qh;generalize(mC s).2=l at hlen⊢;generalize(mC s).1=base at hb⊢;cases (l==[])with
 | true=>rfl|false=>
  rw[tc l (λi (t:Int×Bool)=>(t.1,t.2,(i:Int))) (λt (b:UInt8)=>cond (eJ (dR b<0)||decide ((base:Int)<=dR b)) (iN (.inr ((0,6):Int×Int))) (cond (t.2||decide (aE (Int.tdiv (aE (9223372036854775807-dR b)) (base:Int))<t.1)) (iN (.inl (t.1,eQ))) (iN (.inl (aE (aE (t.1*(base:Int))+dR b),t.2)))))
    (λt=>cond t.2 (iN (0,14)) (iN (t.1,0))) (t:=(0,eK)) om ?_ ?_ ?_]
  .grind[Kp]
  .rfl
  .intro i h t rc;simp only[zw h,Dn,xy,aQ,iz,bN,gd h,bF (i:=i) om,anX,aC];have hix:strings_IndexByte F ([48,49,50,51,52,53,54,55,56,57,97,98,99,100,101,102]:Bs) (Uc .u8 (l[i].toNat:Int) (cond (eJ (65<=(l[i].toNat:Int))&&eJ ((l[i].toNat:Int)<=90)) 32 0))=iN (dR l[i]):=by rw[<-auy];rfl
   rw[hix];have hz:(!((base:Int)==0))=eQ:=by simp;omega
   simp only[aC,hz,iz];cases eJ (dR l[i]<0)<;>cases eJ ((base:Int)<=dR l[i])<;>cases t.2<;>simp
   all_goals first|rfl|(cases eJ (aE (Int.tdiv (aE (9223372036854775807-dR l[i])) (base:Int))<t.1)<;>rfl)
  simp_all
theorem wD(F:Nat)(b:UInt8)(base:Int):Ab F (b.toNat:Int) base=iN (cond (eJ (base<=dR b)) (-1) (dR b)):=by
 have hb:=b.toNat_lt;unfold Ab wx;rw[aec];simp only[aC];unfold dR;cases hd:dg b with
 | true=>unfold dg gF at hd;simp only[cH,fO]at hd;simp only[aQ,aC];rw[SE _ om,bQ om];grind|false=>
  simp only[aI];by_cases h3:97<=(b.toNat:Int)/\(b.toNat:Int)<=102
  .rw[eT h3.1,eT h3.2,SE _ om,bQ (x:=(b.toNat:Int)-97) om,bQ (x:=(b.toNat:Int)-97+10) om];grind
  .have e3:(eJ (97<=(b.toNat:Int))&&eJ ((b.toNat:Int)<=102))=eK:=by simp_all
   have e3':(cond (eJ (97<=(b.toNat:Int))) (iN (eJ ((b.toNat:Int)<=102))) (iN eK):O Bool)=iN eK:=by grind
   rw[e3',e3];simp only[aC,aI];by_cases h4:65<=(b.toNat:Int)/\(b.toNat:Int)<=70
   .rw[eT h4.1,eT h4.2,SE _ om,bQ (x:=(b.toNat:Int)-65) om,bQ (x:=(b.toNat:Int)-65+10) om];grind
   grind
theorem ajt{base:Int}(hb:1<=base)(b:UInt8):eJ (cond (eJ (base<=dR b)) (-1) (dR b)<0)=!(eJ (0<=dR b)&&eJ (dR b<base)):=by grind
theorem aax(base:Nat)(hb:1<=base/\base<=16):∀(l:Bs)(v:Nat),okD (base:Int) l=eQ->v<=9223372036854775808 ->
  ∃n e,rK (λt (b:UInt8)=>cond (eJ (dE .u64 (Int.tdiv (dE .u64 (9223372036854775808-(dE .u64 (dR b)))) (base:Int))<t)) (iN (.inr ((0,14):Int×Int))) (iN (.inl (dE .u64 ((dE .u64 (t*(base:Int)))+(dE .u64 (dR b)))))))
   (λt=>iN (t,0)) l (v:Int)=iN (n,e)/\(cond (e==0&&eJ (9223372036854775807<n)) 14 e=(rL base v l).2)/\((rL base v l).2=0->n=(rL base v l).1)
 | [],v,_,hv=>by
  refine⟨v,0,rfl,?_⟩;by_cases h:v<=9223372036854775807
  .have:¬ 9223372036854775807<(v:Int):=om;simp[rL,okD,tF,h,this]
  .have:9223372036854775807<(v:Int):=om;simp[rL,okD,tF,h,this]
 | b::l,v,ho,hv=>by
  have ho':(0<=dR b/\dR b<base)/\okD (base:Int) l=eQ:=by unfold okD at ho⊢;simp_all
  obtain⟨⟨h0,h1⟩,h2⟩:=ho';have hm:((v*base+(dR b).toNat:Nat):Int)=(v:Int)*(base:Int)+dR b:=by grind
  have e3:rL base v (b::l)=rL base (v*base+(dR b).toNat) l:=by unfold rL;rw[ho,h2];rfl
  simp[rK];rw[q9 (dR b) om,q9 (9223372036854775808-dR b) om,ahI _ _ om];by_cases hx:(9223372036854775808-dR b) / (base:Int)<(v:Int)
  .refine⟨0,14,?_,?_⟩
   .rw[eT hx];rfl
   .rw[div_lt om om om]at hx;have hge:=Y7 base hb.1 l (v*base+(dR b).toNat);have:¬ tF base (v*base+(dR b).toNat) l<=9223372036854775807:=om;rw[e3];simp[rL,h2,this]
  .have hx':=hx;rw[div_lt om om om]at hx';rw[vb hx,q9 ((v:Int)*(base:Int)) om,q9 ((v:Int)*(base:Int)+dR b) om,e3,<-hm];exact aax base hb l _ h2 om
def kO(s:Bs):Nat×Bs:=cond (eJ (2<(Sx s:Int))&&((((s.getD 0 0).toNat:Int)==48)&&((((s.getD 1 0).toNat:Int)==120)||(((s.getD 1 0).toNat:Int)==88)))) (16,s.drop 2) (cond (eJ (1<(Sx s:Int))&&(((s.getD 0 0).toNat:Int)==48)) (8,s.drop 1) (10,s))
theorem alp(base:Nat)(h:1<=base)(t:Bs):rL base 0 (48::t)=rL base 0 t:=by
 have e1:okD (base:Int) (48::t)=okD (base:Int) t:=by unfold okD;rw[Sy,show dR 48=0 from rfl,eT om,eT om];rfl
 have e2:tF base 0 (48::t)=tF base 0 t:=by unfold tF;rw[sE,show dR 48=0 from rfl];simp
 unfold rL;rw[e1,e2]
theorem ofNat_eq{b:UInt8}{n:Nat}(hn:n<256)(h:((b.toNat:Int)==(n:Int))=eQ):b=lL n:=by
 have:b.toNat=n:=by grind
 rw[<-this];simp
theorem alq(s:Bs)(h0:s≠[]):qh s=cond ((kO s).2==[]) (0,6) (rL (kO s).1 0 (kO s).2):=by
 match s,h0 with
 | [a],_=>
  unfold qh mC kO;have p1:([48,120]:Bs).isPrefixOf [a]=eK:=by simp[List.isPrefixOf]
  have p2:([48,88]:Bs).isPrefixOf [a]=eK:=by simp[List.isPrefixOf]
  rw[p1,p2];cases ha:((([a].getD 0 0).toNat:Int)==48)with
  | false=>rfl|true=>obtain rfl:=ofNat_eq de ha;rfl
 | a::b::t,_=>
  unfold qh mC kO;simp;have p1:([48,120]:Bs).isPrefixOf (a::b::t)=(((a.toNat:Int)==48)&&((b.toNat:Int)==120)):=by
   rw[tW];simp;constructor
   .rintro⟨rfl,rfl⟩;exact⟨rfl,rfl⟩
   .rintro⟨h1,h2⟩;exact⟨(ofNat_eq de (by simpa using h1)).symm,(ofNat_eq de (by simpa using h2)).symm⟩
  have p2:([48,88]:Bs).isPrefixOf (a::b::t)=(((a.toNat:Int)==48)&&((b.toNat:Int)==88)):=by
   rw[tW];simp;constructor
   .rintro⟨rfl,rfl⟩;exact⟨rfl,rfl⟩
   .rintro⟨h1,h2⟩;exact⟨(ofNat_eq de (by simpa using h1)).symm,(ofNat_eq de (by simpa using h2)).symm⟩
  rw[p1,p2];have hl1:eJ (1<(Sx (a::b::t):Int))=eQ:=by simp;omega
  cases ha:((a.toNat:Int)==48)with
  | false=>simp|true=>
   obtain rfl:=ofNat_eq de ha;simp;cases hx:(((b.toNat:Int)==120)||((b.toNat:Int)==88))with
   | false=>simp_all[MU,aI,alp]|true=>
    cases t with
    | nil=>
     simp only[KW]at hx;rcases hx with hx|hx
     .obtain rfl:=ofNat_eq de hx;rfl
     .obtain rfl:=ofNat_eq de hx;rfl
    | cons c t=>grind
theorem aee(F:Nat)(s:Bs)(h0:s≠[])(hF:Sx s<F)(hl:Sx s<=1000000):
  ∃n e,mV F s=iN (n,e)/\(cond (e==0&&eJ (9223372036854775807<n)) 14 e=(qh s).2)/\((qh s).2=0->n=(qh s).1):=by
 have hpos:0<Sx s:=AJ.2 h0;have hb:(1<=(kO s).1/\(kO s).1<=16)/\(kO s).2.length<=Sx s:=by unfold kO;grind
 rw[alq s h0];unfold mV wx
 have TZ:((cond (eJ (2<(Sx s:Int)))
   (rq (eJ (0<(Sx s:Int))) (iN (((s.getD 0 0).toNat:Int)==48)))
   (iN eK):O Bool).bind λx2=>
   (cond x2
   (rq (eJ (1<(Sx s:Int))) (cond (((s.getD 1 0).toNat:Int)==120)
   (iN eQ)
   (rq (eJ (1<(Sx s:Int))) (iN (((s.getD 1 0).toNat:Int)==88)))))
   (iN eK):O Bool).bind λx3=>
   cond x3
   (rq ((eJ (2<=(Sx s:Int)))&&(eJ ((Sx s:Int)<=(Sx s:Int)))) (iN (sl s 2 (Sx s:Int),(16:Int))))
   ((cond (eJ (1<(Sx s:Int)))
   (rq (eJ (0<(Sx s:Int))) (iN (((s.getD 0 0).toNat:Int)==48)))
   (iN eK):O Bool).bind λx4=>
   cond x4
   (rq ((eJ (1<=(Sx s:Int)))&&(eJ ((Sx s:Int)<=(Sx s:Int)))) (iN (sl s 1 (Sx s:Int),8)))
   (iN (s,10))):O (Bs×Int))=iN ((kO s).2,((kO s).1:Int)):=by
  have s2:sl s 2 (Sx s:Int)=s.drop 2:=by unfold sl;simp
  have s1:sl s 1 (Sx s:Int)=s.drop 1:=by unfold sl;simp
  rw[show eJ (0<(Sx s:Int))=eQ from eT om,show eJ (1<=(Sx s:Int))=eQ from eT om,show eJ ((Sx s:Int)<=(Sx s:Int))=eQ from eT om,s1,s2];unfold kO;by_cases h2:2<(Sx s:Int)
  .rw[eT h2,show eJ (1<(Sx s:Int))=eQ from eT om,show eJ (2<=(Sx s:Int))=eQ from eT om];cases (((s.getD 0 0).toNat:Int)==48)<;>cases (((s.getD 1 0).toNat:Int)==120)<;>cases (((s.getD 1 0).toNat:Int)==88)<;>rfl
  .rw[vb h2];cases eJ (1<(Sx s:Int))<;>cases (((s.getD 0 0).toNat:Int)==48)<;>rfl
 rw[TZ];simp only[aC];obtain⟨hb,hlen⟩:=hb;generalize(kO s).2=l at hlen⊢;generalize(kO s).1=base at hb⊢;cases (l==[])with
 | true=>grind|false=>
  simp only[aI];cases hok:okD (base:Int) l with
  | false=>
   refine⟨0,6,?_,?_⟩
   .refine Rm (l:=l) (p:=λb=>eJ (0<=dR b)&&eJ (dR b<(base:Int))) (λi=>(i:Int)) (λi rc h=>?_) l.length 0 F om om (by rw[M3];exact hok);simp only[zw h,Dn,xy,aQ,iz,bN,gd h,bF (i:=i) om,wD,aC,ajt (base:=(base:Int)) om];grind
   .unfold rL;simp_all
  | true=>
   obtain⟨n,e,h1,h2⟩:=aax base hb l 0 hok om;refine⟨n,e,?_,h2⟩;refine Kl (λi=>(i:Int)) l.length om rfl ?_ ?_
   .intro i rc h;have hi:(eJ (0<=dR l[i])&&eJ (dR l[i]<(base:Int)))=eQ:=by unfold okD at hok;simp_all
    simp only[zw h,Dn,xy,aQ,iz,bN,gd h,bF (i:=i) om,wD,aC,ajt (base:=(base:Int)) om,hi];rfl
   .intro rc;simp only[IQ,aI];rw[<-h1];refine tc l (λi (t:Int)=>(t,(i:Int))) _ _ om rfl ?_ ?_
    .intro i h t rc;have hi:(eJ (0<=dR l[i])&&eJ (dR l[i]<(base:Int)))=eQ:=by unfold okD at hok;simp_all
     have hw:dE .u64 (base:Int)=(base:Int):=q9 (base:Int) om;have hz:(!((base:Int)==0))=eQ:=by simp;omega
     have hv:cond (eJ ((base:Int)<=dR l[i])) (-1) (dR l[i])=dR l[i]:=by grind
     simp only[zw h,Dn,xy,aQ,iz,bN,gd h,bF (i:=i) om,wD,aC,hw,hz,hv];generalize eJ (dE .u64 (Int.tdiv (dE .u64 (9223372036854775808-(dE .u64 (dR l[i])))) (base:Int))<t)=c;cases c<;>rfl
    simp_all
def sG(base v:Nat)(l:Bs):Int×Int:=cond (okD (base:Int) l) (cond (eJ (tF base v l<=9223372036854775808)) ((tF base v l:Int),0) (0,14)) (0,6)
def tS(s:Bs):Nat×Bs:=cond ((([48,120]:Bs).isPrefixOf s)||(([48,88]:Bs).isPrefixOf s)) (16,s.drop 2) (cond (([48]:Bs).isPrefixOf s) (8,s) (10,s))
def qi(s:Bs):Int×Int:=cond ((tS s).2==[]) (0,6) (sG (tS s).1 0 (tS s).2)
def dC(b:UInt8):Int:=cond (eJ (0<=dR b)) (dR b) 16
theorem alr(F:Nat)(b:UInt8):G6 F (b.toNat:Int)=iN (dC b):=by
 unfold G6 dC dR dg gF wx;by_cases h1:48<=(b.toNat:Int)/\(b.toNat:Int)<=57
 .rw[eT h1.2,SE ((b.toNat:Int)-48) om,q9 ((b.toNat:Int)-48) om];simp_all
 .have e1:(eJ (48<=(b.toNat:Int))&&eJ ((b.toNat:Int)<=57))=eK:=by simp_all
  have e1':(cond (eJ (48<=(b.toNat:Int))) (iN (eJ ((b.toNat:Int)<=57))) (iN eK):O Bool)=iN eK:=by grind
  by_cases h3:97<=(b.toNat:Int)/\(b.toNat:Int)<=102
  .rw[eT h3.2,SE ((b.toNat:Int)-97) om,q9 ((b.toNat:Int)-97) om,q9 ((b.toNat:Int)-97+10) om];grind
  .have e3:(eJ (97<=(b.toNat:Int))&&eJ ((b.toNat:Int)<=102))=eK:=by simp_all
   have e3':(cond (eJ (97<=(b.toNat:Int))) (iN (eJ ((b.toNat:Int)<=102))) (iN eK):O Bool)=iN eK:=by grind
   by_cases h4:65<=(b.toNat:Int)/\(b.toNat:Int)<=70
   .rw[eT h4.2,SE ((b.toNat:Int)-65) om,q9 ((b.toNat:Int)-65) om,q9 ((b.toNat:Int)-65+10) om];grind
   grind
theorem Tk(base:Nat)(hb:1<=base/\base<=16):∀(l:Bs)(n:Int)(IX:Bool)(v:Nat),(IX=eK->n=(v:Int)/\v<=9223372036854775808)->(IX=eQ->9223372036854775808<v) ->
  rK (λt (b:UInt8)=>cond (eJ ((base:Int)<=dC b)) (iN (.inr ((0,6):Int×Int))) (cond (t.2||decide (dE .u64 (Int.tdiv (dE .u64 (9223372036854775808-dC b)) (base:Int))<t.1)) (iN (.inl (t.1,eQ))) (iN (.inl (dE .u64 ((dE .u64 (t.1*(base:Int)))+dC b),t.2)))))
   (λt=>cond t.2 (iN (0,14)) (iN (t.1,0))) l (n,IX)=iN (sG base v l)
 | [],n,IX,v,h1,h2=>by
  cases IX with
  | false=>obtain⟨rfl,h⟩:=h1 rfl;simp[rK,sG,okD,tF,h]
  | true=>
   have h3:¬ v<=9223372036854775808:=by have:=h2 rfl;omega
   simp[rK,sG,okD,tF,h3]
 | b::l,n,IX,v,h1,h2=>by
  simp[rK];by_cases hbad:dR b<0\/(base:Int)<=dR b
  .have e1:eJ ((base:Int)<=dC b)=eQ:=by unfold dC;grind
   have e2:okD (base:Int) (b::l)=eK:=by unfold okD;grind
   rw[e1];simp[sG,e2,sm]
  .have hdc:dC b=dR b:=by unfold dC;simp_all
   have e1:eJ ((base:Int)<=dC b)=eK:=by simp_all
   have e2:okD (base:Int) (b::l)=okD (base:Int) l:=by unfold okD;simp_all
   have e3:sG base v (b::l)=sG base (v*base+(dR b).toNat) l:=by unfold sG;rw[e2];rfl
   rw[e1,e3,hdc];have hm:((v*base+(dR b).toNat:Nat):Int)=(v:Int)*(base:Int)+dR b:=by grind
   have hvb:=abA v hb.1;cases IX with
   | true=>have:=h2 rfl;exact Tk base hb l n eQ _ (λh=>by cases h) λ_=>by omega
   | false=>
    obtain⟨rfl,hv⟩:=h1 rfl;rw[q9 (9223372036854775808-dR b) om,ahI _ _ om];by_cases hx:(9223372036854775808-dR b) / (base:Int)<(v:Int)
    .rw[eT hx];rw[div_lt om om om]at hx;exact Tk base hb l v eQ _ (λh=>by cases h) λ_=>by omega
    .rw[vb hx];rw[div_lt om om om]at hx;rw[q9 ((v:Int)*(base:Int)) om,q9 ((v:Int)*(base:Int)+dR b) om];exact Tk base hb l _ eK _ (λ_=>⟨hm.symm,om⟩) λh=>by cases h
theorem aef(s:Bs):(1<=(tS s).1/\(tS s).1<=16)/\(tS s).2.length<=Sx s:=by unfold tS;grind
theorem asM(F:Nat)(s:Bs)(hF:Sx s<F)(hl:Sx s<=1000000):ze F s=iN (qi s):=by
 obtain⟨hb,hlen⟩:=aef s;have e1:((cC F s ([48,120]:Bs)).bind λx3=>cond x3 (iN eQ) ((cC F s ([48,88]:Bs)).bind λx4=>iN x4):O Bool)=iN (([48,120]:Bs).isPrefixOf s||([48,88]:Bs).isPrefixOf s):=by grind[CC]
 have Dl:(cond (([48,120]:Bs).isPrefixOf s||([48,88]:Bs).isPrefixOf s)
   (rq ((eJ (2<=(Sx s:Int)))&&(eJ ((Sx s:Int)<=(Sx s:Int)))) (iN ((16:Int),sl s 2 (Sx s:Int))))
   ((cC F s ([48]:Bs)).bind λx5=>cond x5 (iN (8,s)) (iN (10,s))):O (Int×Bs))=iN (((tS s).1:Int),(tS s).2):=by
  unfold tS;cases hp:(([48,120]:Bs).isPrefixOf s||([48,88]:Bs).isPrefixOf s)with|true=>rw[cy (by grind)];unfold sl;simp|false=>simp[CC];grind
 unfold ze wx;rw[e1];simp only[aC];rw[Dl];simp only[aC];unfold qi;generalize(tS s).2=l at hlen⊢;generalize(tS s).1=base at hb⊢;cases (l==[])with
 | true=>rfl|false=>
  rw[tc l (λi (t:Int×Bool)=>(t.1,t.2,(i:Int))) (λt (b:UInt8)=>cond (eJ ((base:Int)<=dC b)) (iN (.inr ((0,6):Int×Int))) (cond (t.2||decide (dE .u64 (Int.tdiv (dE .u64 (9223372036854775808-dC b)) (base:Int))<t.1)) (iN (.inl (t.1,eQ))) (iN (.inl (dE .u64 ((dE .u64 (t.1*(base:Int)))+dC b),t.2)))))
    (λt=>cond t.2 (iN (0,14)) (iN (t.1,0))) (t:=(0,eK)) om ?_ ?_ ?_]
  .grind[Tk]
  .rfl
  .intro i h t rc;have hz:(!((base:Int)==0))=eQ:=by simp;omega
   simp only[zw h,bN,gd h,bF (i:=i) om,alr,aC,hz];cases eJ ((base:Int)<=dC l[i])<;>cases t.2<;>simp
   all_goals first|rfl|(generalize eJ (dE .u64 (Int.tdiv (dE .u64 (9223372036854775808-dC l[i])) (base:Int))<t.1)=c;cases c<;>rfl)
  simp_all
theorem XD(base:Nat)(hb:1<=base/\base<=16):∀(l:Bs)(v:Nat),okD (base:Int) l=eQ->v<=9223372036854775808 ->
  rK (λt (b:UInt8)=>cond (eJ (dE .u64 (Int.tdiv (dE .u64 (9223372036854775808-(dE .u64 (dR b)))) (base:Int))<t)) (iN (.inr ((0,14):Int×Int))) (iN (.inl (dE .u64 ((dE .u64 (t*(base:Int)))+(dE .u64 (dR b)))))))
   (λt=>iN (t,0)) l (v:Int)=iN (sG base v l)
 | [],v,_,hv=>by simp[rK,sG,okD,tF,hv]|b::l,v,ho,hv=>by
  have ho':(0<=dR b/\dR b<base)/\okD (base:Int) l=eQ:=by unfold okD at ho⊢;simp_all
  obtain⟨⟨h0,h1⟩,h2⟩:=ho';have hm:((v*base+(dR b).toNat:Nat):Int)=(v:Int)*(base:Int)+dR b:=by grind
  have e3:sG base v (b::l)=sG base (v*base+(dR b).toNat) l:=by unfold sG;rw[ho,h2];rfl
  simp[rK];rw[q9 (dR b) om,q9 (9223372036854775808-dR b) om,ahI _ _ om,e3];by_cases hx:(9223372036854775808-dR b) / (base:Int)<(v:Int)
  .rw[eT hx];rw[div_lt om om om]at hx;have hge:=Y7 base hb.1 l (v*base+(dR b).toNat);have:¬ tF base (v*base+(dR b).toNat) l<=9223372036854775808:=om;simp[sG,h2,this,sm]
  .have hx':=hx;rw[div_lt om om om]at hx';rw[vb hx,q9 ((v:Int)*(base:Int)) om,q9 ((v:Int)*(base:Int)+dR b) om,<-hm];exact XD base hb l _ h2 om
theorem als(base:Nat)(h:1<=base)(t:Bs):sG base 0 (48::t)=sG base 0 t:=by
 have e1:okD (base:Int) (48::t)=okD (base:Int) t:=by unfold okD;rw[Sy,show dR 48=0 from rfl,eT om,eT om];rfl
 have e2:tF base 0 (48::t)=tF base 0 t:=by unfold tF;rw[sE,show dR 48=0 from rfl];simp
 unfold sG;rw[e1,e2]
theorem aju(s:Bs)(h0:s≠[]):qi s=cond ((kO s).2==[]) (0,6) (sG (kO s).1 0 (kO s).2):=by
 match s,h0 with
 | [a],_=>
  unfold qi tS kO;have p1:([48,120]:Bs).isPrefixOf [a]=eK:=by simp[List.isPrefixOf]
  have p2:([48,88]:Bs).isPrefixOf [a]=eK:=by simp[List.isPrefixOf]
  rw[p1,p2];have p3:([48]:Bs).isPrefixOf [a]=((a.toNat:Int)==48):=by
   rw[tW];simp;constructor
   .rintro rfl;rfl
   .intro h;exact(ofNat_eq de (by simpa using h)).symm
  rw[p3];cases ha:((a.toNat:Int)==48)with
  | false=>rfl|true=>obtain rfl:=ofNat_eq de ha;rfl
 | a::b::t,_=>
  unfold qi tS kO;simp;have p1:([48,120]:Bs).isPrefixOf (a::b::t)=(((a.toNat:Int)==48)&&((b.toNat:Int)==120)):=by
   rw[tW];simp;constructor
   .rintro⟨rfl,rfl⟩;exact⟨rfl,rfl⟩
   .rintro⟨h1,h2⟩;exact⟨(ofNat_eq de (by simpa using h1)).symm,(ofNat_eq de (by simpa using h2)).symm⟩
  have p2:([48,88]:Bs).isPrefixOf (a::b::t)=(((a.toNat:Int)==48)&&((b.toNat:Int)==88)):=by
   rw[tW];simp;constructor
   .rintro⟨rfl,rfl⟩;exact⟨rfl,rfl⟩
   .rintro⟨h1,h2⟩;exact⟨(ofNat_eq de (by simpa using h1)).symm,(ofNat_eq de (by simpa using h2)).symm⟩
  have p3:([48]:Bs).isPrefixOf (a::b::t)=((a.toNat:Int)==48):=by
   rw[tW];simp;constructor
   .rintro rfl;rfl
   .intro h;exact(ofNat_eq de (by simpa using h)).symm
  rw[p1,p2,p3];have hl1:eJ (1<(Sx (a::b::t):Int))=eQ:=by simp;omega
  cases ha:((a.toNat:Int)==48)with
  | false=>simp|true=>
   obtain rfl:=ofNat_eq de ha;simp;cases hx:(((b.toNat:Int)==120)||((b.toNat:Int)==88))with
   | false=>simp_all[MU,aI,als]|true=>
    cases t with
    | nil=>
     simp only[KW]at hx;rcases hx with hx|hx
     .obtain rfl:=ofNat_eq de hx;rfl
     .obtain rfl:=ofNat_eq de hx;rfl
    | cons c t=>grind
theorem alu(F:Nat)(s:Bs)(h0:s≠[])(hF:Sx s<F)(hl:Sx s<=1000000):
  mV F s=iN (qi s):=by
 have hpos:=AJ.2 h0;have hb:(1<=(kO s).1/\(kO s).1<=16)/\(kO s).2.length<=Sx s:=by unfold kO;grind
 rw[aju s h0];unfold mV wx
 have TZ:((cond (eJ (2<(Sx s:Int)))
   (rq (eJ (0<(Sx s:Int))) (iN (((s.getD 0 0).toNat:Int)==48)))
   (iN eK):O Bool).bind λx2=>
   (cond x2
   (rq (eJ (1<(Sx s:Int))) (cond (((s.getD 1 0).toNat:Int)==120)
   (iN eQ)
   (rq (eJ (1<(Sx s:Int))) (iN (((s.getD 1 0).toNat:Int)==88)))))
   (iN eK):O Bool).bind λx3=>
   cond x3
   (rq ((eJ (2<=(Sx s:Int)))&&(eJ ((Sx s:Int)<=(Sx s:Int)))) (iN (sl s 2 (Sx s:Int),(16:Int))))
   ((cond (eJ (1<(Sx s:Int)))
   (rq (eJ (0<(Sx s:Int))) (iN (((s.getD 0 0).toNat:Int)==48)))
   (iN eK):O Bool).bind λx4=>
   cond x4
   (rq ((eJ (1<=(Sx s:Int)))&&(eJ ((Sx s:Int)<=(Sx s:Int)))) (iN (sl s 1 (Sx s:Int),8)))
   (iN (s,10))):O (Bs×Int))=iN ((kO s).2,((kO s).1:Int)):=by
  have s2:sl s 2 (Sx s:Int)=s.drop 2:=by unfold sl;simp
  have s1:sl s 1 (Sx s:Int)=s.drop 1:=by unfold sl;simp
  rw[show eJ (0<(Sx s:Int))=eQ from eT om,show eJ (1<=(Sx s:Int))=eQ from eT om,show eJ ((Sx s:Int)<=(Sx s:Int))=eQ from eT om,s1,s2];unfold kO;by_cases h2:2<(Sx s:Int)
  .rw[eT h2,show eJ (1<(Sx s:Int))=eQ from eT om,show eJ (2<=(Sx s:Int))=eQ from eT om];cases (((s.getD 0 0).toNat:Int)==48)<;>cases (((s.getD 1 0).toNat:Int)==120)<;>cases (((s.getD 1 0).toNat:Int)==88)<;>rfl
  .rw[vb h2];cases eJ (1<(Sx s:Int))<;>cases (((s.getD 0 0).toNat:Int)==48)<;>rfl
 rw[TZ];simp only[aC];obtain⟨hb,hlen⟩:=hb;generalize(kO s).2=l at hlen⊢;generalize(kO s).1=base at hb⊢;cases (l==[])with
 | true=>rfl|false=>
  cases hok:okD (base:Int) l with
  | false=>
   have hr:sG base 0 l=(0,6):=by unfold sG;rw[hok];rfl
   .refine Rm (l:=l) (λi=>(i:Int)) (λi rc h=>?_) l.length 0 F om om (by rw[M3];exact hok);simp only[zw h,Dn,xy,iz,gd h,bF (i:=i) om,wD];grind
  | true=>
   have h1:=XD base hb l 0 hok om;refine Kl (λi=>(i:Int)) l.length om rfl ?_ ?_
   .intro i rc h;have hi:(eJ (0<=dR l[i])&&eJ (dR l[i]<(base:Int)))=eQ:=by unfold okD at hok;simp_all
    simp only[zw h,Dn,iz,bN,gd h,bF (i:=i) om,wD,aC,ajt (base:=(base:Int)) om,hi];rfl
   .intro rc;simp only[IQ,aI];rw[<-h1];refine tc l (λi (t:Int)=>(t,(i:Int))) _ _ om rfl ?_ ?_
    .intro i h t rc;have hi:(eJ (0<=dR l[i])&&eJ (dR l[i]<(base:Int)))=eQ:=by unfold okD at hok;simp_all
     have hw:=q9 (base:Int) om;have hz:(!((base:Int)==0))=eQ:=by simp;omega
     have hv:cond (eJ ((base:Int)<=dR l[i])) (-1) (dR l[i])=dR l[i]:=by grind
     simp only[zw h,Dn,iz,bN,gd h,bF (i:=i) om,wD,aC,hw,hz,hv];generalize eJ (dE .u64 (Int.tdiv (dE .u64 (9223372036854775808-(dE .u64 (dR l[i])))) (base:Int))<t)=c;cases c<;>rfl
    simp_all
theorem auz(b:UInt8)(h:dg b=eK):dR b<0\/10<=dR b:=by unfold dR;grind
theorem anZ(b:UInt8)(t:Bs)(h:dg b=eK):qi (b::t)=(0,6):=by
 have hne:((48:UInt8)==b)=eK:=by rw[eG];intro e;subst e;exact absurd h de
 unfold qi tS;have p1:([48,120]:Bs).isPrefixOf (b::t)=eK:=by grind
 have p2:([48,88]:Bs).isPrefixOf (b::t)=eK:=by grind
 have p3:([48]:Bs).isPrefixOf (b::t)=eK:=by grind
 rw[p1,p2,p3];simp;have ho:okD ((10:Nat):Int) (b::t)=eK:=by unfold okD;rw[Sy,VI];rw[VI];simp_all[auz]
 unfold sG;rw[ho];rfl
theorem alv(F:Nat)(s:Bs)(hF:Sx s<F)(hl:Sx s<=1000000):zf F s=iN (qi s):=by
 unfold zf wx;cases s with
 | nil=>rfl|cons b t=>have hp:eJ (0<(Sx (b::t):Int))=eQ:=eT (by simp_all);have hne:((b::t)==[])=eK:=rfl;rw[alu F (b::t) si hF hl];simp[hne,iz];cases hd:dg b with|true=>unfold dg gF at hd;grind|false=>grind[anZ,Bool.and_eq_false_iff,decide_eq_false_iff_not,decide_eq_true,decide_eq_false]
theorem ajv(s:Bs):((qi s).2=0/\0<=(qi s).1/\(qi s).1<=9223372036854775808)\/(qi s).2=6\/(qi s).2=14:=by unfold qi;cases ((tS s).2==[])with|true=>exact .inr (.inl rfl)|false=>unfold sG;grind
abbrev Env:=J (Bs×Bs)
def Bk(m:Env)(k:Bs):dh:=⟨k,gp dc m k []⟩
def uX(m:Env):J dh:=(pK (m.map (·.1))).map (Bk m)
def Nd(m:Env):Prop:=(m.map (·.1)).Nodup
def Qi(l:J dh):Prop:=l.Pairwise λx y=>x.fName<y.fName
variable{m:Env}
def Y8(h:Nd m):Qi (uX m):=List.pairwise_map.2 ((Qh h).imp λh=>h)
theorem Ef(m:Env)(x:dh):x∈uX m↔∃k,k∈m.map (·.1)/\x=Bk m k:=by unfold uX;grind[sY]
theorem Y9(m:Env):(uX m).length=m.length:=by unfold uX;rw[gP,(sY _).length_eq,gP]
def yp(k v:Bs):J dh->Bool->J dh|[],put=>cond put [] [⟨k,v⟩]|x::l,put=>cond (!put && !(pD x.fName k)) [⟨k,v⟩] []++(cond (x.fName==k) [] [x]++yp k v l (put || !(pD x.fName k)))
def Tm(k v:Bs)(t:J dh×Bool)(x:dh):J dh×Bool:=(t.1++(cond (!t.2 && !(pD x.fName k)) [⟨k,v⟩] []++cond (x.fName==k) [] [x]),t.2 || !(pD x.fName k))
theorem XE(k v:Bs):∀(l:J dh)(t:J dh×Bool),(l.foldl (Tm k v) t).1++cond (l.foldl (Tm k v) t).2 [] [⟨k,v⟩]=t.1++yp k v l t.2|[],t=>rfl|x::l,t=>by rw[sE,XE k v l];simp[Tm,yp]
theorem bind_eq(F:Nat)(l:J dh)(k v:Bs)(hF:Sx l<F)(hl:Sx l<=1000000):CE F l k v=iN (yp k v l eK):=by
 refine EK l (λi (t:J dh×Bool)=>(t.1,t.2,(i:Int))) (Tm k v) (λi t=>Sx t.1<=2*i) (t:=([],eK)) hF rfl si ?_ ?_ ?_
 .intro i h t rc hI;simp only[zw h,Dn,xy,iz,bN,gd h,bF (i:=i) om,Tm];rw[dn aM om];cases t.2<;>cases pD l[i].fName k<;>cases (l[i].fName==k)<;>
   simp only[aQ,aI,aC,fU,nu,Ib,VM,Bool.or_true,abM,FK,pY,sD]
  all_goals (try rw[dn aM om])
 .simp[Tm];grind
 .intro rc hI;have hb:=XE k v l ([],eK);simp only[IQ,aI];rw[dn aM om];grind
theorem Eg(k v:Bs):∀(l:J dh)(put:Bool)(x:dh),x∈yp k v l put↔(put=eK/\x=⟨k,v⟩)\/(x∈l/\x.fName≠k)
 | [],put,x=>by cases put<;>simp[yp]
 | y::l,put,x=>by
  have e1:∀c:Bool,x∈(cond c [⟨k,v⟩] []:J dh)↔c=eQ/\x=⟨k,v⟩:=λc=>by cases c<;>simp
  have e2:x∈(cond (y.fName==k) [] [y]:J dh)↔x=y/\y.fName≠k:=by cases h:(y.fName==k)with|true=>simp[eq_of_beq h]|false=>rw[eG]at h;simp[h]
  simp[yp,Eg k v l,e1,e2];constructor
  .rintro (⟨h1,h2⟩|⟨rfl,h2⟩|⟨h1,h2⟩|⟨h1,h2⟩)
   .left;exact⟨by cases put<;>simp_all,h2⟩
   .right;exact⟨.inl rfl,h2⟩
   .left;exact⟨by cases put<;>simp_all,h2⟩
   .right;exact⟨.inr h1,h2⟩
  .rintro (⟨rfl,h2⟩|⟨rfl|h1,h2⟩)
   .cases pD y.fName k
    .left;simp[h2]
    .right;right;left;simp[h2]
   .right;left;exact⟨rfl,h2⟩
   .right;right;right;exact⟨h1,h2⟩
theorem IY{k v:Bs}:∀ {l:J dh}{put:Bool},Qi l->(put=eQ->∀x,x∈l->k<x.fName)->Qi (yp k v l put)
 | [],put,_,_=>by cases put<;>simp[yp,Qi]
 | y::l,put,h,hp=>by
  obtain⟨h1,h2⟩:=xw.1 h;unfold yp;cases put with
  | true=>
   have hn:(y.fName==k)=eK:=by grind
   simp[fU,hn];refine xw.2 ⟨λx hx=>?_,IY h2 λ_ x hx=>hp rfl x (nt _ hx)⟩;simp_all[Eg]
  | false=>
   rcases Rj y.fName k with hlt|he|hgt
   .have e1:=(JY _ _).2 hlt;have hn:(y.fName==k)=eK:=by grind
    simp[e1,hn];refine xw.2 ⟨λx hx=>?_,IY h2 λe=>by cases e⟩;grind[Eg]
   .have e1:pD y.fName k=eK:=(B6 _ _).2 (by simp_all);have hn:(y.fName==k)=eQ:=by rw[tv];exact he
    simp[e1,hn];refine xw.2 ⟨λx hx=>?_,IY h2 λ_ x hx=>by simp_all⟩;simp_all[Eg]
   .have e1:=(B6 _ _).2 λh'=>nF _ (o8 h' hgt);have hn:(y.fName==k)=eK:=by grind
    simp[e1,hn];have eU:∀x,x∈yp k v l eQ->y.fName<x.fName:=λx hx=>by simp_all[Eg]
    refine xw.2 ⟨λx hx=>?_,xw.2 ⟨eU,IY h2 λ_ x hx=>o8 hgt (h1 x hx)⟩⟩;grind
theorem agY(h:Nd m)(k v:Bs):uX (jJ dc m k v)=yp k v (uX m) eK:=by
 refine LX (Y8 (Xv h k v)) (IY (Y8 h) λe=>by cases e) λx=>?_;rw[Eg,Ef,Ef];constructor
 .rintro⟨q,hq,rfl⟩;by_cases hk:q=k
  .left;unfold Bk;simp_all[uR,Ic]
  .rcases(Aw ..).1 hq with e|hq
   .exact absurd e hk
   .unfold Bk;grind[uR,beq_eq_false_iff_ne]
 .rintro (⟨_,rfl⟩|⟨⟨q,hq,rfl⟩,hk⟩)
  .refine⟨k,(Aw ..).2 (.inl rfl),?_⟩;unfold Bk;simp_all[uR,Ic]
  .have hk:¬ q=k:=hk;refine⟨q,(Aw ..).2 (.inr hq),?_⟩;unfold Bk;grind[uR,beq_eq_false_iff_ne]
def ab8(l:J dh)(k:Bs):Bs:=match l.reverse.find? (λx=>x.fName==k)with|some x=>x.cg|none=>[]
theorem aeg(k:Bs):∀l:J dh,rK (λ_ (x:dh)=>cond (x.fName==k) (iN (.inr x.cg)) (iN (.inl ()))) (λ_=>iN []) l ()=iN (match l.find? (λx=>x.fName==k)with|some x=>x.cg|none=>[])
 | []=>rfl|x::l=>by
  simp[rK,PM];cases (x.fName==k)
  .exact aeg k l
  .rfl
theorem Ro(F:Nat)(l:J dh)(k:Bs)(hF:Sx l<F)(hl:Sx l<=1000000):rM F l k=iN (ab8 l k):=by
 unfold rM ab8 wx;rw[<-aeg];refine tc l.reverse (λi (_:Unit)=>((Sx l:Int)-1-(i:Int))) _ _ (by simpa using hF) ?_ ?_ ?_
 .grind[bQ]
 .intro i h t rc;have hi:i<Sx l:=by simpa using h
  have e:(Sx l:Int)-1-(i:Int)=((Sx l-1-i:Nat):Int):=om;have hj:Sx l-1-i<Sx l:=om;have hw:aE (((Sx l-1-i:Nat):Int)-1)=(Sx l:Int)-1-((i+1:Nat):Int):=by grind[bQ]
  simp only[e,zw hj,bN,gd hj,hw,List.getElem_reverse];cases (l[Sx l-1-i].fName==k)<;>rfl
 grind
theorem Rp(m:Env)(k:Bs):ab8 (uX m) k=gp dc m k []:=by
 unfold ab8;cases h:(uX m).reverse.find? (λx=>x.fName==k)with
 | some x=>
  have h1:=VK h;have h2:=abw h;rw[List.mem_reverse,Ef]at h1;obtain⟨q,hq,rfl⟩:=h1;have:q=k:=by simpa[Bk]using h2
  subst this;rfl
 | none=>
  rcases NX m k ([]:Bs)with⟨p,hp,h1,h2⟩|⟨_,h2⟩
  .have:=List.find?_eq_none.1 h (Bk m k) (by grind[Ef]);simp[Bk]at this
  .exact h2.symm
structure Eo(c:Nat)(m:Env):Prop where
 nd:Nd m
 len:m.length<=c
 sz:∀p,p∈m->Sx p.1<=60/\p.2.length<=4096
variable{c:Nat}
theorem Eo.mono{d:Nat}(h:Eo c m)(hd:c<=d):Eo d m:=⟨h.nd,jR h.len hd,h.sz⟩
theorem Eo.set(h:Eo c m){k v:Bs}(hk:Sx k<=60)(hv:Sx v<=4096):Eo (c+1) (jJ dc m k v):=
 ⟨Xv h.nd k v,jR (anO m k v) (by have:=h.len;omega),λp hp=>by
  rcases Vc hp with rfl|hp
  .exact⟨hk,hv⟩
  .exact h.sz p hp⟩
theorem Eo.get(h:Eo c m)(k:Bs):(gp dc m k []).length<=4096:=by
 rcases NX m k ([]:Bs)with⟨p,hp,_,h2⟩|⟨_,h2⟩
 .rw[<-h2];exact(h.sz p hp).2
 .rw[h2];simp
def vD(l:J dh):Env:=l.foldl (λm b=>jJ dc m b.fName b.cg) []
theorem Vf{c:Nat}:∀(l:J dh)(m:Env),Eo c m->(∀b,b∈l->Sx b.fName<=60/\b.cg.length<=4096) ->
  Eo (c+Sx l) (l.foldl (λm b=>jJ dc m b.fName b.cg) m)/\uX (l.foldl (λm b=>jJ dc m b.fName b.cg) m)=l.foldl (λo b=>yp b.fName b.cg o eK) (uX m)
 | [],m,h,_=>⟨h,rfl⟩|b::l,m,h,hb=>by have h1:=h.set (hb b si).1 (hb b si).2;obtain⟨h2,h3⟩:=Vf l _ h1 λb hm=>hb b (nt _ hm);refine⟨h2.mono aM,?_⟩;rw[sE,sE,h3,agY h.nd]
theorem alw:Eo 0 []:=⟨by simp[Nd],si,si⟩
theorem aqv:uX []=[]:=by have:=sY ([]:J Bs);simp at this;simp[uX,this]
variable{l:J dh}
theorem IZ(h:∀b,b∈l->Sx b.fName<=60/\b.cg.length<=4096):Eo l.length (vD l):=by have:=(Vf l [] alw h).1;rw[sC]at this;exact this
theorem aeh(k v:Bs):∀(l:J dh)(put:Bool),Sx (yp k v l put)<=Sx l+cond put 0 1
 | [],put=>by cases put<;>simp[yp]
 | x::l,put=>by have h1:=aeh k v l (put || !(pD x.fName k));simp[yp];generalize pD x.fName k=b at h1⊢;cases put<;>cases b<;>cases (x.fName==k)<;>simp at h1⊢ <;> omega
theorem Rq(F:Nat)(l:J dh)(hF:Sx l<F)(hl:Sx l<=1000)(h:∀b,b∈l->Sx b.fName<=60/\b.cg.length<=4096):I0 F l=iN (uX (vD l)):=by
 refine EK l (λi (t:J dh)=>(t,(i:Int))) (λo b=>yp b.fName b.cg o eK) (λi t=>Sx t<=i) hF rfl si ?_ ?_ ?_
 .intro i h t rc hI;simp only[zw h,Dn,xy,iz,bF (i:=i) om];grind[bind_eq]
 .grind[aeh]
 .intro rc hI;simp;have:=(Vf l [] alw h).2;rw[aqv]at this;unfold vD;rw[this]
theorem auA(h:Eo c m)(hc:c<=1000000)(F:Nat):skF F m=iN (pK (m.map (·.1))):=by unfold skF;have h1:(m.all λp=>eJ (Sx p.1<=9223372036854775807))=eQ:=pW.2 λp hp=>eT (by have:=(h.sz p hp).1;omega);rw[h1,eT (by have:=h.len;omega)];rfl
def ir(x:Int):Prop:=-9223372036854775808<=x/\x<=9223372036854775807
theorem uA(x:Int):ir (aE x):=by show ir (if (eQ&&eJ (x%(2^64:Int)>=(2^63:Int)))=eQ then x%(2^64:Int)-(2^64:Int)else x%(2^64:Int));unfold ir;grind
theorem apn(b:Int):lP .i64 b 63=b%64:=by
 rw[YH];have h:(T1 64 b &&& T1 64 63).toNat=(b%64).toNat:=by
  rw[BitVec.toNat_and];have h63:(T1 64 63).toNat=2^6-1:=by decide
  rw[h63,Nat.and_two_pow_sub_one_eq_mod,BitVec.toNat_ofInt];grind
 show aE (((T1 64 b &&& T1 64 63).toNat:Nat):Int)=_;grind[bQ]
theorem not_eq{a:Int}(h:ir a):YG .i64 a=aE ((aE (0-a))-1):=by
 unfold ir at h;have h1:(T1 64 (-1) ^^^ T1 64 a) = ~~~ T1 64 a:=by rw[show T1 64 (-1)=BitVec.allOnes 64 from rfl,BitVec.allOnes_xor]
 rw[YI];show aE (((T1 64 (-1) ^^^ T1 64 a).toNat:Nat):Int)=_;rw[h1,BitVec.toNat_not,BitVec.toNat_ofInt];by_cases h0:a=-9223372036854775808
 .subst h0;decide
 .rw[bQ (x:=0-a) om,bQ (x:=0-a-1) om];by_cases hn:0<=a
  .have e1:a%((2^64:Nat):Int)=a:=Int.emod_eq_of_lt hn om;rw[e1];have e2:((2^64-1-a.toNat:Nat):Int)=18446744073709551615-a:=om;rw[e2];unfold aE dE;have e3:(18446744073709551615-a)%(2^IntKind.i64.bits:Int)=18446744073709551615-a:=Int.emod_eq_of_lt om (by show _<(18446744073709551616:Int);omega);simp only[e3];show(if (eQ&&eJ ((18446744073709551615-a)>=(2^63:Int)))=eQ then(18446744073709551615-a)-(2^64:Int)else 18446744073709551615-a)=_;grind
  grind[bQ]
theorem an0{a:Int}(b:Int)(h:ir a):ir (YE .i64 a b):=by
 unfold ir at h⊢;rw[agG];generalize min b.toNat IntKind.i64.bits=k;have hp:(0:Int)<2^k:=Int.pow_pos de;rw[Int.fdiv_eq_ediv_of_nonneg _ om];by_cases h0:0<=a
 .have h1:=Int.ediv_nonneg h0 (show(0:Int)<=2^k by omega);have h2:=Int.ediv_le_self (b:=2^k) h0;omega
 .have h1:a<=a / 2^k:=by apply Int.le_ediv_of_mul_le hp;have:=Int.mul_le_mul_of_nonpos_left (a:=a) (b:=2^k) (c:=1) om om;omega
  have h2:a / 2^k<0:=Int.ediv_neg_of_neg_of_pos om hp;omega
theorem an1{a:Int}(b:Int)(h:ir a):ir (Int.tmod a b):=by
 unfold ir at h⊢;by_cases h0:0<=a
 .have h2:(Int.tmod a b).natAbs<=a.natAbs:=by simp_all[Int.natAbs_tmod,Nat.mod_le]
  omega
 .have h1:Int.tmod a b=- Int.tmod (-a) b:=by rw[Int.neg_tmod];omega
  have h3:=Int.tmod_nonneg (a:=-a) b om;have h2:(Int.tmod (-a) b).natAbs<=(-a).natAbs:=by simp_all[Int.natAbs_tmod,Nat.mod_le]
  omega
def tr(b:Bool):Int:=cond b 1 0
theorem alx(b:Bool):ir (tr b):=by cases b<;>simp[tr,ir]
theorem OU(F:Nat)(b:Bool):zg F b=iN (tr b):=by cases b<;>rfl
theorem CF(F:Nat)(b:Bool):Ac F b=iN (tr b):=by cases b<;>rfl
def cUn(op a:Int):Int:=cond (op==3) (aE (0-a)) (cond (op==5) (tr (a==0)) (cond (op==6) (YG .i64 a) a))
def aei(op a b:Int):Bool:=cond (op==14) (eJ (a<b)) (cond (op==15) (eJ (b<a)) (cond (op==16) (eJ (a<=b)) (cond (op==17) (eJ (b<=a)) (cond (op==18) (a==b) (a != b)))))
def vE(op a b:Int):Int×Int:=
 cond (op==7) (aE (a*b),0) (cond (op==8||op==9) (cond (b==0) (0,13) (cond (op==8) (aE (Int.tdiv a b),0) (Int.tmod a b,0)))
  (cond (op==10) (aE (a+b),0) (cond (op==11) (aE (a-b),0) (cond (op==12) (acZ .i64 a (lP .i64 b 63),0) (cond (op==13) (YE .i64 a (lP .i64 b 63),0)
   (cond (op==20) (lP .i64 a b,0) (cond (op==21) (UX .i64 a b,0) (cond (op==22) (Uc .i64 a b,0) (cond (op==23) (tr (a != 0&&b != 0),0) (cond (op==24) (tr (a != 0||b != 0),0) (tr (aei op a b),0)))))))))))
theorem an2(a:Int):ir (YG .i64 a):=by rw[YI];exact uA _
theorem an3(a b:Int):ir (lP .i64 a b):=by rw[YH];exact uA _
theorem aqw(a b:Int):ir (Uc .i64 a b):=by rw[akL];exact uA _
theorem an4(a b:Int):ir (UX .i64 a b):=by rw[agH];exact uA _
theorem aqx(op:Int){a:Int}(h:ir a):ir (cUn op a):=by unfold cUn;grind[uA,alx,an2]
theorem N0(op:Int){a b:Int}(h:ir a)(h':ir b):ir (vE op a b).1:=by
 unfold vE;cases (op==7)with|true=>exact uA _|false=>
 cases (op==8||op==9)with|true=>grind[uA,an1]|false=>
 cases (op==10)with|true=>exact uA _|false=>
 cases (op==11)with|true=>exact uA _|false=>
 cases (op==12)with|true=>exact uA _|false=>
 grind[an0,an3,an4,aqw,alx]
theorem aej(b:Int):eJ (0<=lP .i64 b 63)=eQ:=eT (by rw[apn];omega)
theorem aqy(b:Int):dE .u64 (lP .i64 b 63)=lP .i64 b 63:=q9 _ (by rw[apn];omega)
theorem ajw(F:Nat)(op a b:Int):CG F op a b=iN (aei op a b):=by unfold CG aei wx;grind
theorem an5(F:Nat)(op a b:Int):EO F op a b=iN (aei op a b):=by unfold EO aei wx;grind
theorem an6(F:Nat)(op a:Int):G7 F op a=iN (cUn op a):=by unfold G7 cUn wx;grind[OU]
theorem asN(F:Nat)(op:Int){a:Int}(h:ir a):Kq F op a=iN (cUn op a):=by unfold Kq cUn wx;grind[CF,not_eq]
theorem aay(F:Nat)(op a b:Int):wF F op a b=iN (vE op a b):=by
 unfold wF vE wx;simp[OU,ajw,aej,iz];cases h7:(op==7)with|true=>rfl|false=>
 cases h8:(op==8)with
 | true=>simp;cases hb:(b==0)<;>rfl
 | false=>
 cases h9:(op==9)with
 | true=>simp;cases hb:(b==0)<;>rfl
 | false=>
 grind
theorem aly(F:Nat)(op a b:Int)(h:op≠23)(h':op≠24):Fm F op a b=iN (vE op a b):=by
 have e1:(op==23)=eK:=by simp_all
 have e2:(op==24)=eK:=by simp_all
 unfold Fm vE wx;simp[CF,an5,aqy,aej,iz];by_cases k7:op=7
 .subst k7;rfl
 have h7:(op==7)=eK:=by simp_all
 rw[h7];cases h8:(op==8)with
 | true=>simp;cases hb:(b==0)<;>rfl
 | false=>
 cases h9:(op==9)with
 | true=>simp;cases hb:(b==0)<;>rfl
 | false=>
 grind
def sj(s:Bs):Bs:=cond ((((s.getD 0 0).toNat:Int)==45)||(((s.getD 0 0).toNat:Int)==43)) (s.drop 1) s
def vF(s:Bs):Int×Bool:=
 cond (s==[]) (0,eQ) (cond ((qi (sj s)).2 != 0||((qi (sj s)).1==9223372036854775808 && !(((s.getD 0 0).toNat:Int)==45))) (0,eK)
  (cond (((s.getD 0 0).toNat:Int)==45) (aE (dE .u64 (0-(qi (sj s)).1)),eQ) (aE (qi (sj s)).1,eQ)))
theorem N1(s:Bs):ir (vF s).1:=by unfold vF;cases (s==[])<;>cases ((qi (sj s)).2 != 0||((qi (sj s)).1==9223372036854775808 && !(((s.getD 0 0).toNat:Int)==45)))<;>cases (((s.getD 0 0).toNat:Int)==45)<;>first|exact uA _|exact(show ir 0 by unfold ir;decide)
theorem aek(s:Bs):(sj s).length<=Sx s:=by unfold sj;grind
theorem ajx(F:Nat)(s:Bs)(hF:Sx s<F)(hl:Sx s<=1000000):CH F s=iN (vF s):=by
 unfold CH vF wx;cases hs:(s==[])with
 | true=>rfl|false=>
  have hp:0<Sx s:=by grind
  have e0:eJ (0<(Sx s:Int))=eQ:=eT om;have e1:(eJ (1<=(Sx s:Int))&&eJ ((Sx s:Int)<=(Sx s:Int)))=eQ:=by grind
  have e2:sl s 1 (Sx s:Int)=s.drop 1:=by unfold sl;simp
  have et:((cond (((s.getD 0 0).toNat:Int)==45) (iN eQ) (iN (((s.getD 0 0).toNat:Int)==43)):O Bool).bind λx2=>cond x2 (iN (s.drop 1)) (iN s):O Bs)=iN (sj s):=by unfold sj;grind
  simp only[e0,e1,iz];grind[aek,asM]
theorem aaz(F:Nat)(s:Bs)(hF:Sx s<F)(hl:Sx s<=1000000):Ad F s=iN (vF s):=by
 unfold Ad vF wx;cases hs:(s==[])with
 | true=>rfl|false=>
  have hp:0<Sx s:=by grind
  have e0:eJ (0<(Sx s:Int))=eQ:=eT om;have e1:(eJ (1<=(Sx s:Int))&&eJ ((Sx s:Int)<=(Sx s:Int)))=eQ:=by grind
  have e2:sl s 1 (Sx s:Int)=s.drop 1:=by unfold sl;simp
  have et:((cond (((s.getD 0 0).toNat:Int)==45) (iN eQ) (iN (((s.getD 0 0).toNat:Int)==43)):O Bool).bind λx2=>cond x2 (iN (s.drop 1)) (iN s):O Bs)=iN (sj s):=by unfold sj;grind
  simp only[e0,e1,e2,iz,et,aC];have:=aek s;rw[alv F (sj s) om om];have key:∀(neg:Bool),(cond ((qi (sj s)).2 != 0) eQ (eJ ((cond neg 9223372036854775808 9223372036854775807:Int)<(qi (sj s)).1)))=((qi (sj s)).2 != 0||((qi (sj s)).1==9223372036854775808 && !neg)):=by
   intro neg;rcases ajv (sj s)with⟨h,h0,h1⟩|h|h
   .grind
   .rw[h];rfl
   .rw[h];rfl
  rw[<-key];grind
abbrev Rs:=Int×Int×Env
def Rr(n:Int)(name:Bs)(x:Rs):Rs:=
 cond (n != 0)
  (cond (!(vF (gp dc x.2.2 name [])).2) (0,1,x.2.2)
   (cond ((vE n (vF (gp dc x.2.2 name [])).1 x.1).2 != 0) (0,(vE n (vF (gp dc x.2.2 name [])).1 x.1).2,x.2.2)
    ((vE n (vF (gp dc x.2.2 name [])).1 x.1).1,0,jJ dc x.2.2 name (Lib.itoa (vE n (vF (gp dc x.2.2 name [])).1 x.1).1))))
  (x.1,0,jJ dc x.2.2 name (Lib.itoa x.1))
def Lq(name:Bs)(m:Env):Rs:=cond (!(vF (gp dc m name [])).2) (0,1,m) ((vF (gp dc m name [])).1,0,m)
def ael(op:Int)(x y:Rs):Rs:=cond (y.2.1 != 0) (0,y.2.1,y.2.2) ((vE op x.1 y.1).1,(vE op x.1 y.1).2,y.2.2)
def dK:Env->Rs:=λm=>(0,0,m)
def evB(op n:Int)(name:Bs)(ks:J (Env->Rs))(m:Env):Rs:=
 cond (op==1) (n,0,m) (cond (op==2) (Lq name m)
  (cond ((ks.getD 0 dK m).2.1 != 0) (0,(ks.getD 0 dK m).2.1,(ks.getD 0 dK m).2.2)
   (cond (op==26) (Rr n name (ks.getD 0 dK m))
    (cond (eJ (3<=op)&&eJ (op<=6)) (cUn op (ks.getD 0 dK m).1,0,(ks.getD 0 dK m).2.2)
     (cond (op==25) (cond ((ks.getD 0 dK m).1 != 0) (ks.getD 1 dK (ks.getD 0 dK m).2.2) (ks.getD 2 dK (ks.getD 0 dK m).2.2))
      (cond (op==23&&(ks.getD 0 dK m).1==0) (0,0,(ks.getD 0 dK m).2.2)
       (cond (op==24&&(ks.getD 0 dK m).1 != 0) (1,0,(ks.getD 0 dK m).2.2)
        (ael op (ks.getD 0 dK m) (ks.getD 1 dK (ks.getD 0 dK m).2.2)))))))))
mutual
def mq:d5->Env->Rs|.mk op n name kids=>evB op n name (evL kids)
def evL:J d5->J (Env->Rs)|[]=>[]|k::l=>mq k::evL l
end
theorem agZ:∀l,evL l=l.map mq|[]=>rfl|k::l=>by simp[evL,agZ l]
theorem XF(e:d5):mq e=evB e.fOp e.fN e.fName (e.fKids.map mq):=by cases e;rw[<-agZ];rfl
theorem G8(l:J d5)(i:Nat)(h:i<Sx l):(l.map mq).getD i dK=mq (l.getD i dN):=by simp[h]
theorem zh(h:ir n):(Lib.itoa n).length<=60:=by
 have key:∀(k u:Nat),u<10^(k+1)->Sx (Lib.decDigits u)<=k+1:=by
  intro k
  induction k with
  | zero=>intro u hu;rw[Lib.decDigits_one (by simpa using hu)];simp|succ k ih=>
   intro u hu;by_cases h9:u<10
   .grind
   .rw[Lib.decDigits.eq_1 u];grind
 unfold ir at h;unfold Lib.itoa;split
 .have:=key 20 n.natAbs om;simp;omega
 .have:=key 20 n.toNat om;omega
theorem aem(F:Nat)(h:ir n):qF F n=iN (Lib.itoa n):=by unfold qF;unfold ir at h;simp_all[cy,eT]
theorem af6(F:Nat)(hF:30<=F)(h0:-9223372036854775808<=n)(h1:n<0):dW F n=iN (Lib.itoa n):=by
 unfold dW yl wx;obtain⟨u,hu⟩:∃u:Nat,n=-(u:Int):=⟨(-n).toNat,om⟩;have e1:aE (0-aE (n+1))=(u:Int)-1:=by grind[bQ]
 have e2:dE .u64 ((dE .u64 ((u:Int)-1))+1)=(u:Int):=by rw[q9 ((u:Int)-1) om,q9 _ om];omega
 simp only[e1,e2];rw[Lp 20 u F [] om om om si];rw[hu,Lib.itoa_neg u om];have hl:(Lib.decDigits u).length<=60:=by have:=zh (n:=-(u:Int)) ⟨om,om⟩;rw[Lib.itoa_neg u om]at this;simp at this;omega
 grind[vU]
theorem Mj(F:Nat)(hF:30<=F)(h:ir n):dW F n=iN (Lib.itoa n):=by
 by_cases h0:0<=n
 .exact ajq F hF h0 h.2
 .exact af6 F hF h.1 om
theorem Good.okn(g:Good e):ir e.fN:=by obtain⟨v,o,m⟩:=g;cases o with|mk op n name kids a1 a2 a3 a4 a5=>exact asK a2
def Good.op(g:Good e):1<=e.fOp/\e.fOp<=26:=anT g.facts.1
theorem Good.G9(g:Good e)(h:i<Sx e.fKids):Good (e.fKids.getD i dN)/\e.fKids.getD i dN∈e.fKids:=by
 have hm:e.fKids.getD i dN∈e.fKids:=by simp[h]
 exact⟨g.kid _ hm,hm⟩
theorem aen(h:i<Sx e.fKids):nodes (e.fKids.getD i dN)<nodes e:=by
 have hm:e.fKids.getD i dN∈e.fKids:=by simp[h]
 have:=Kn hm;rw[IW e];omega
variable{j:Nat}
theorem Kr{l:J d5}(hij:i<j)(hj:j<Sx l):nodes (l.getD i dN)+nodes (l.getD j dN)<=nG l:=by
 induction l generalizing i j with
 | nil=>simp at hj|cons k l ih=>
  cases j with
  | zero=>omega|succ j=>
   have hj':j<Sx l:=by simpa using hj
   cases i with
   | zero=>
    have hm:l.getD j dN∈l:=by simp[hj']
    have:=Kn hm;simp only[SF,List.getD_cons_succ,nG];omega
   | succ i=>have:=ih (i:=i) om hj';simp only[List.getD_cons_succ,nG];omega
theorem Good.shape(g:Good e):(e.fOp=1)\/(e.fOp=2)\/((3<=e.fOp/\e.fOp<=6)/\e.fKids.length=1)\/((7<=e.fOp/\e.fOp<=24)/\e.fKids.length=2)\/(e.fOp=25/\e.fKids.length=3)\/(e.fOp=26/\e.fKids.length=1):=by have h1:=g.facts.1;have h2:=g.op;rcases anU h2 with h|h|h|h|h|h|h|h|h|h|h|h|h|h|h|h|h|h|h|h|h|h|h|h|h|h<;>rw[h]at h1<;>simp[qG]at h1<;>omega
theorem Rt:∀e,Good e->∀c m,Eo c m->Eo (c+nodes e) (mq e m).2.2/\ir (mq e m).1:=by
 apply Good.ind;intro e g ih c m hm;have z:ir 0:=by unfold ir;decide
 have one:ir 1:=by unfold ir;decide
 have auB:=hm.mono (show c<=c+nodes e by omega);rw[XF];unfold evB;cases h1:(e.fOp==1)with|true=>exact⟨auB,g.okn⟩|false=>
 cases h2:(e.fOp==2)with|true=>unfold Lq;grind[gp,dc,N1]|false=>
 simp only[eG]at h1 h2;have hl:0<Sx e.fKids:=by rcases g.shape with h|h|h|h|h|h<;>omega
 obtain⟨g0,m0⟩:=g.G9 hl;obtain⟨i1,i2⟩:=ih _ m0 c m hm;have n0:=aen hl;rw[G8 _ 0 hl];generalize hx:mq (e.fKids.getD 0 dN) m=x at i1 i2⊢;have i1':=i1.mono (show c+nodes (e.fKids.getD 0 dN)<=c+nodes e by omega);cases (x.2.1 != 0)with|true=>exact⟨i1',z⟩|false=>
 cases Km:(e.fOp==26)with
 | true=>
  unfold Rr;have hs:∀n:Int,ir n->Eo (c+nodes e) (jJ dc x.2.2 e.fName (Lib.itoa n)):=λn hn=>(i1.set g.facts.2.2.2.1 (jR (zh hn) de)).mono om;cases (e.fN != 0)with
  | false=>exact⟨hs _ i2,i2⟩|true=>
   cases (!(vF (gp dc x.2.2 e.fName [])).2)with
   | true=>exact⟨i1',z⟩|false=>have hr:=N0 e.fN (N1 (gp dc x.2.2 e.fName [])) i2;cases ((vE e.fN (vF (gp dc x.2.2 e.fName [])).1 x.1).2 != 0)with|true=>exact⟨i1',z⟩|false=>exact⟨hs _ hr,hr⟩
 | false=>
 simp only[eG]at Km;cases h36:(eJ (3<=e.fOp)&&eJ (e.fOp<=6))with|true=>simp_all[aqx]|false=>
 have an7:¬ (3<=e.fOp/\e.fOp<=6):=by simp_all
 have hl1:1<Sx e.fKids:=by rcases g.shape with h|h|h|h|h|h<;>omega
 obtain⟨g1,m1⟩:=g.G9 hl1;obtain⟨j1,j2⟩:=ih _ m1 _ x.2.2 i1;have n01:=Kr (l:=e.fKids) (i:=0) (j:=1) om hl1;rw[G8 _ 1 hl1];have j1':=j1.mono (show c+nodes (e.fKids.getD 0 dN)+nodes (e.fKids.getD 1 dN)<=c+nodes e by rw[IW e];omega);cases h25:(e.fOp==25)with
 | true=>
  have asO:e.fOp=25:=by simpa using h25
  have hl2:2<Sx e.fKids:=by rcases g.shape with h|h|h|h|h|h<;>omega
  obtain⟨g2,m2⟩:=g.G9 hl2;obtain⟨k1,k2⟩:=ih _ m2 _ x.2.2 i1;have n02:=Kr (l:=e.fKids) (i:=0) (j:=2) om hl2;rw[G8 _ 2 hl2];cases (x.1 != 0)with|true=>exact⟨j1',j2⟩|false=>exact⟨k1.mono (by rw[IW e];omega),k2⟩
 | false=>
 cases (e.fOp==23&&x.1==0)with|true=>exact⟨i1',z⟩|false=>
 cases (e.fOp==24&&x.1 != 0)with|true=>exact⟨i1',one⟩|false=>
 unfold ael;cases ((mq (e.fKids.getD 1 dN) x.2.2).2.1 != 0)with|true=>exact⟨j1',z⟩|false=>simp_all[N0]
theorem I1{a b:Int}(h:a≠b):(a==b)=eK:=by simp_all
theorem var_eq(F:Nat)(hF:5000<=F)(hm:Eo c m)(name:Bs):lJ F name m=iN ((Lq name m).1,(Lq name m).2.1):=by unfold lJ Lr Lq wx;have:=hm.get name;grind[ajx,gp,dc]
theorem an8(name:Bs)(m:Env):(Lq name m).2.2=m:=by unfold Lq;grind
theorem aaY:∀e,Good e->bU λF n=>∀c m,Eo c m->j7 F n e m=iN (mq e m):=by
 apply Good.ind;intro e g ih;refine bU.succ (bU.succ (((bU.all ih).and (bU.all ih).up).mo (bU.ge (p:=λF _=>5000<=F) 5000 λF n h _=>h) λF n hi hF c m hm=>?_));obtain⟨ih,ih'⟩:=hi;show tG F (j7 F (n+1)) (nZ F (n+1)) e m=_;have ha:∀m,nZ F (n+1) e m=sH F (j7 F n) (nZ F n) e m:=λm=>rfl;rw[XF];unfold tG evB wx;cases h1:(e.fOp==1)with|true=>rfl|false=>
 cases h2:(e.fOp==2)with|true=>simp only[aQ,aI];grind[var_eq,an8,Prod.ext]|false=>
 simp only[eG]at h1 h2;have hl:0<Sx e.fKids:=by rcases g.shape with h|h|h|h|h|h<;>omega
 obtain⟨g0,m0⟩:=g.G9 hl;obtain⟨i1,i2⟩:=Rt _ g0 c m hm;have e0:eJ (0<(Sx e.fKids:Int))=eQ:=eT om;simp only[aI,e0,iz];rw[G8 _ 0 hl,ih' _ m0 c m hm];cases Km:(e.fOp==26)with
 | true=>
  have avN:e.fOp=26:=by simpa using Km
  simp only[aQ,d5.eta];rw[ha];unfold sH wx;rw[e0,ih _ m0 c m hm];simp only[iz,aC];generalize mq (e.fKids.getD 0 dN) m=x at i1 i2⊢;cases (x.2.1 != 0)with
  | true=>rfl|false=>
   simp only[aI];rw[var_eq F hF i1];unfold Rr ER;cases (e.fN != 0)with
   | false=>simp_all[aI,jj,aC,sm,aem]|true=>
    simp only[aQ,aC];unfold Lq;cases (!(vF (gp dc x.2.2 e.fName [])).2)with
    | true=>rfl|false=>have hr:=N0 e.fN (N1 (gp dc x.2.2 e.fName [])) i2;simp only[aI,MX];rw[aay];simp only[aC];cases ((vE e.fN (vF (gp dc x.2.2 e.fName [])).1 x.1).2 != 0)with|true=>rfl|false=>simp_all[aI,jj,aC,sm,aem]
 | false=>
 simp only[eG]at Km;simp only[aI,aC];generalize mq (e.fKids.getD 0 dN) m=x at i1 i2⊢;cases (x.2.1 != 0)with|true=>rfl|false=>
 simp only[aI];have hun:(cond (e.fOp==3) (iN (e.fOp==3)) (cond (e.fOp==4) (iN (e.fOp==4)) (cond (e.fOp==5) (iN (e.fOp==5)) (iN (e.fOp==6)))):O Bool)=iN (eJ (3<=e.fOp)&&eJ (e.fOp<=6)):=by
  by_cases h:3<=e.fOp/\e.fOp<=6
  .have:e.fOp=3\/e.fOp=4\/e.fOp=5\/e.fOp=6:=om;grind
  .rw[I1 (show e.fOp≠3 by omega),I1 (show e.fOp≠4 by omega),I1 (show e.fOp≠5 by omega),I1 (show e.fOp≠6 by omega)];simp_all
 rw[hun];simp only[aC];cases h36:(eJ (3<=e.fOp)&&eJ (e.fOp<=6))with|true=>simp_all[aQ,an6,aC,jj,sm]|false=>
 have an7:¬ (3<=e.fOp/\e.fOp<=6):=by simp_all
 simp only[aI];have hl1:1<Sx e.fKids:=by rcases g.shape with h|h|h|h|h|h<;>omega
 obtain⟨g1,m1⟩:=g.G9 hl1;have e1:eJ (1<(Sx e.fKids:Int))=eQ:=eT om;have f1:=ih' _ m1 _ x.2.2 i1;rw[G8 _ 1 hl1,e1,f1];cases h25:(e.fOp==25)with
 | true=>
  have asO:e.fOp=25:=by simpa using h25
  have hl2:2<Sx e.fKids:=by rcases g.shape with h|h|h|h|h|h<;>omega
  obtain⟨g2,m2⟩:=g.G9 hl2;have e2:eJ (2<(Sx e.fKids:Int))=eQ:=eT om;rw[G8 _ 2 hl2,e2,ih' _ m2 _ x.2.2 i1];simp only[aQ,iz,aC];cases (x.1 != 0)<;>rfl
 | false=>
 simp only[aI,iz,aC];have hx:(x.1 != 0)=!(x.1==0):=rfl;unfold ael;have fin:((iN (mq (e.fKids.getD 1 dN) x.2.2)).bind λx9=>cond (x9.2.1 != 0) (iN (0,x9.2.1,x9.2.2)) ((wF F e.fOp x.1 x9.1).bind λcw=>iN (cw.1,cw.2,x9.2.2)))=iN (cond ((mq (e.fKids.getD 1 dN) x.2.2).2.1 != 0) (0,(mq (e.fKids.getD 1 dN) x.2.2).2.1,(mq (e.fKids.getD 1 dN) x.2.2).2.2) ((vE e.fOp x.1 (mq (e.fKids.getD 1 dN) x.2.2).1).1,(vE e.fOp x.1 (mq (e.fKids.getD 1 dN) x.2.2).1).2,(mq (e.fKids.getD 1 dN) x.2.2).2.2)):=by grind[aay]
 simp only[aC]at fin;cases h23:(e.fOp==23)with
 | true=>have Xw:(e.fOp==24)=eK:=I1 (by simp_all);rw[Xw,hx];cases (x.1==0)with|true=>rfl|false=>exact fin
 | false=>
  rw[hx];cases Xw:(e.fOp==24)with
  | true=>cases (x.1==0)with|true=>exact fin|false=>rfl
  | false=>exact fin
theorem ajy(F:Nat)(hF:200000<=F)(hm:Eo c m)(hc:c<=100000)(g:Good e)(Km:e.fOp=26){a:Int}(ha:ir a):
  Ks F (d5.mk e.fOp e.fN e.fName e.fKids) a (uX m)=iN ((Rr e.fN e.fName (a,0,m)).1,uX (Rr e.fN e.fName (a,0,m)).2.2,(Rr e.fN e.fName (a,0,m)).2.1):=by
 rw[d5.eta];unfold Ks Rr wx;have hlen:(uX m).length<=100000:=by rw[Y9];have:=hm.len;omega
 have hg:=hm.get e.fName;rw[Ro F _ _ om om,Rp];simp;rw[aaz F _ om om];have nX:∀n:Int,ir n->((dW F n).bind λx5=>(CE F (uX m) e.fName x5).bind λx6=>iN (n,x6,(0:Int)))=iN (n,uX (jJ dc m e.fName (Lib.itoa n)),0):=λn hn=>by rw[Mj F om hn];simp;rw[bind_eq F _ _ _ om om,agY hm.nd];rfl
 cases hn:(e.fN != 0)with
 | false=>simp_all[aI,jj,aC,sm]|true=>
  have hcomp:CB e.fN=eQ:=by
   rcases g.facts.2.2.2.2 Km with h|h
   .rw[h]at hn;cases hn
   .exact h
  have hne:e.fN≠23/\e.fN≠24:=by unfold CB at hcomp;grind
  simp;cases (vF (gp dc m e.fName [])).2 with
  | false=>rfl|true=>have hr:=N0 e.fN (N1 (gp dc m e.fName [])) ha;rw[aly F _ _ _ hne.1 hne.2];simp;cases ((vE e.fN (vF (gp dc m e.fName [])).1 a).2 != 0)with|true=>rfl|false=>simp_all[aI,jj,aC,sm]
theorem af7:∀e,Good e->bU λF n=>∀c m,Eo c m->c+nodes e<=100000->uB F n e (uX m)=iN ((mq e m).1,uX (mq e m).2.2,(mq e m).2.1):=by
 apply Good.ind;intro e g ih;refine bU.succ ((bU.all ih).mo (bU.ge (p:=λF _=>200000<=F) 200000 λF n h _=>h) λF n ih' hF c m hm hc=>?_);show I2 F (uB F n) e (uX m)=_;rw[XF];unfold I2 evB wx;cases h1:(e.fOp==1)with|true=>rfl|false=>
 cases h2:(e.fOp==2)with
 | true=>
  simp only[aQ,aI];have hlen:(uX m).length<=100000:=by rw[Y9];have:=hm.len;omega
  have hg:=hm.get e.fName;rw[Ro F _ _ om om,Rp];simp only[aC];rw[aaz F _ om om];simp only[aC];unfold Lq;grind
 | false=>
 simp only[eG]at h1 h2;have hl:0<Sx e.fKids:=by rcases g.shape with h|h|h|h|h|h<;>omega
 obtain⟨g0,m0⟩:=g.G9 hl;have n0:=aen hl;obtain⟨i1,i2⟩:=Rt _ g0 c m hm;have e0:eJ (0<(Sx e.fKids:Int))=eQ:=eT om;simp only[aI,e0,iz];rw[G8 _ 0 hl,ih' _ m0 c m hm om];simp only[aC];generalize mq (e.fKids.getD 0 dN) m=x at i1 i2⊢;cases hx0:(x.2.1 != 0)with|true=>rfl|false=>
 have hx0':x.2.1=0:=by simpa using hx0
 simp only[aI];have hun:(cond (eJ (3<=e.fOp)) (iN (eJ (e.fOp<=6))) (iN eK):O Bool)=iN (eJ (3<=e.fOp)&&eJ (e.fOp<=6)):=by grind
 rw[hun];simp only[aC];cases h36:(eJ (3<=e.fOp)&&eJ (e.fOp<=6))with
 | true=>
  have an7:3<=e.fOp/\e.fOp<=6:=by simpa using h36
  have Km:(e.fOp==26)=eK:=I1 om;rw[Km];simp_all[aQ,aI,asN]
 | false=>
 have an7:¬ (3<=e.fOp/\e.fOp<=6):=by simp_all
 simp only[aI];cases Km:(e.fOp==26)with
 | true=>
  have avN:e.fOp=26:=by simpa using Km
  simp only[aQ];grind[ajy,Prod.ext]
 | false=>
 simp only[eG]at Km;simp only[aI];have hl1:1<Sx e.fKids:=by rcases g.shape with h|h|h|h|h|h<;>omega
 obtain⟨g1,m1⟩:=g.G9 hl1;have n01:=Kr (l:=e.fKids) (i:=0) (j:=1) om hl1;have ne:=IW e;have e1:eJ (1<(Sx e.fKids:Int))=eQ:=eT om;have f1:=ih' _ m1 _ x.2.2 i1 om;rw[G8 _ 1 hl1,e1,f1];cases h25:(e.fOp==25)with
 | true=>
  have asO:e.fOp=25:=by simpa using h25
  have hl2:2<Sx e.fKids:=by rcases g.shape with h|h|h|h|h|h<;>omega
  obtain⟨g2,m2⟩:=g.G9 hl2;have n02:=Kr (l:=e.fKids) (i:=0) (j:=2) om hl2;have e2:eJ (2<(Sx e.fKids:Int))=eQ:=eT om;rw[G8 _ 2 hl2,e2,ih' _ m2 _ x.2.2 i1 om];simp only[aQ,iz,aC];cases (x.1 != 0)<;>rfl
 | false=>
 simp only[aI,iz,aC];have hx:(x.1 != 0)=!(x.1==0):=rfl;unfold ael;cases h23:(e.fOp==23)with
 | true=>
  have avO:e.fOp=23:=by simpa using h23
  have Xw:(e.fOp==24)=eK:=I1 om;rw[Xw,hx];cases h0:(x.1==0)with
  | true=>rfl|false=>
   simp only[aQ,aI,aC,MU,VM,CF];cases ((mq (e.fKids.getD 1 dN) x.2.2).2.1 != 0)with
   | true=>rfl|false=>
    have:vE e.fOp x.1 (mq (e.fKids.getD 1 dN) x.2.2).1=(tr ((mq (e.fKids.getD 1 dN) x.2.2).1 != 0),0):=by rw[avO];show(tr (x.1 != 0&&(mq (e.fKids.getD 1 dN) x.2.2).1 != 0),(0:Int))=_;rw[hx,h0];rfl
    rw[this];rfl
 | false=>
  cases Xw:(e.fOp==24)with
  | true=>
   have avP:e.fOp=24:=by simpa using Xw
   rw[hx];cases h0:(x.1==0)with
   | false=>rfl|true=>
    simp only[aQ,aI,aC,MU,VM,CF,fU];cases ((mq (e.fKids.getD 1 dN) x.2.2).2.1 != 0)with
    | true=>rfl|false=>
     have:vE e.fOp x.1 (mq (e.fKids.getD 1 dN) x.2.2).1=(tr ((mq (e.fKids.getD 1 dN) x.2.2).1 != 0),0):=by rw[avP];show(tr (x.1 != 0||(mq (e.fKids.getD 1 dN) x.2.2).1 != 0),(0:Int))=_;simp_all
     rw[this];rfl
  | false=>simp only[eG]at h23 Xw;simp only[aI,aC,VM];grind[aly]
def zi(e:d5)(l:J dh):Int×J dh×Int:=cond (iW e 0 != 0) (0,[],iW e 0) (cond ((mq e (vD l)).2.1 != 0) (0,[],(mq e (vD l)).2.1) ((mq e (vD l)).1,uX (mq e (vD l)).2.2,0))
theorem OV{α β:Type}(f:α->β):∀(l:J α)(t:J β),l.foldl (λt k=>t++[f k]) t=t++l.map f|[],t=>by simp|x::l,t=>by rw[sE,OV f l];simp
def Vg(l:J dh):Prop:=∀b,b∈l->Sx b.fName<=60/\b.cg.length<=4096
theorem XG(e:d5):Vd e->Nms e:=by
 induction e using d5.ind with
 | h op n name kids ih=>
  intro v;cases v with
  | mk _ _ _ _ h1 h2 h3 h4 h5 h6 h7=>refine .mk op n name kids ?_ λk hk=>ih k hk (h7 k hk);cases hn:NY op with|true=>have:=h6 hn;unfold rName at this;grind|false=>simp_all
theorem aeo(ho:je e)(hl:Sx l<=1000)(hb:Vg l)(hn:nodes e<=10000):bU λF _=>Fo F e l=iN (zi e l):=by
 by_cases hv:iW e 0=0
 .have g:Good e:=⟨Ko e 0 hv,ho,XG e (Ko e 0 hv)⟩;refine(Mg ho).Eb (aaY e g).fst (bU.ge 100000 λF n h _=>h) λF _ h1 h2 hF=>?_;unfold Fo zi wx;simp only[d5.eta];rw[h1,hv];have hm:=IZ hb;obtain⟨k1,k2⟩:=Rt e g _ _ hm;refine EK l (λi (t:Env)=>((i:Int),t)) (λm b=>jJ dc m b.fName b.cg) (λ_ _=>True) om rfl trivial ?_ (λ_ _ _ _=>trivial) ?_
  .intro i h t rc _;simp only[zw h,bN,gd h,bF (i:=i) om];rfl
  .intro rc _;simp only[IQ];show((j7 F F e (vD l)).bind _)=_;rw[h2 _ _ hm];simp only[aC];generalize mq e (vD l)=x at k1 k2⊢;cases (x.2.1 != 0)with
   | true=>rfl|false=>
    rw[auA k1 om];have hks:(pK (x.2.2.map (·.1))).length<=11000:=by rw[(sY _).length_eq,gP];have:=k1.len;omega
    refine EK (pK (x.2.2.map (·.1))) (λi (t:J dh)=>(t,(i:Int))) (λt k=>t++[Bk x.2.2 k]) (λi t=>Sx t<=i) om rfl si ?_ ?_ ?_
    .intro i h t rc hI;simp only[zw h,bN,gd h,bF (i:=i) om];rw[dn aM om];rfl
    .simp_all
    .intro rc _;simp only[IQ];rw[OV];rfl
 .refine(Mg ho).mono λF _ h1=>?_;unfold Fo zi wx;simp;grind
theorem Mk(ho:je e):bU λF _=>ES F e=iN (iW e 0):=(Up ho).fst.mono λF _ h=>by unfold ES Ut wx;simp_all
theorem af8(ho:je e)(hl:Sx l<=1000)(hb:Vg l)(hn:nodes e<=10000):bU λF _=>CI F e l=iN (zi e l):=by
 by_cases hv:iW e 0=0
 .have g:Good e:=⟨Ko e 0 hv,ho,XG e (Ko e 0 hv)⟩;refine(Mk ho).Eb (af7 e g).fst (bU.ge 100000 λF n h _=>h) λF _ h1 h2 hF=>?_;unfold CI zi wx;simp;rw[h1,hv];rw[Rq F l om hl hb];show((uB F F e (uX (vD l))).bind _)=_;rw[h2 _ _ (IZ hb) om];grind
 .refine(Mk ho).mono λF _ h1=>?_;unfold CI zi wx;simp;grind
theorem alz(ho:je e)(hl:Sx l<=1000)(hb:Vg l)(hn:nodes e<=10000):(zi e l).2.1.length<=100000:=by
 unfold zi;cases hv:(iW e 0 != 0)with
 | true=>simp|false=>
  have jU:iW e 0=0:=by simpa using hv
  have g:Good e:=⟨Ko e 0 jU,ho,XG e (Ko e 0 jU)⟩;obtain⟨k1,k2⟩:=Rt e g _ _ (IZ hb);cases ((mq e (vD l)).2.1 != 0)with|true=>simp|false=>simp;rw[Y9];have:=k1.len;omega
def alA:J (Bs×Int×Int):=[([124,124],3,24),([38,38],4,23),([124],5,22),([94],6,21),([38],7,20),([61,61],8,18),([33,61],8,19),([60],9,14),([62],9,15),([60,61],9,16),([62,61],9,17),([60,60],10,12),([62,62],10,13),([43],11,10),([45],11,11),([42],12,7),([47],12,8),([37],12,9)]
def gV(x:Bs):Int×Int:=match alA.find? (λp=>p.1==x)with|some p=>p.2|none=>(0,0)
def asP:J (Bs×Int):=[([61],0),([43,61],10),([45,61],11),([42,61],7),([47,61],8),([37,61],9),([60,60,61],12),([62,62,61],13),([38,61],20),([94,61],21),([124,61],22)]
def uC(x:Bs):Int:=match asP.find? (λp=>p.1==x)with|some p=>p.2|none=>-1
def vZ(x:Bs):Int:=cond (x==[45]) 3 (cond (x==[43]) 4 (cond (x==[33]) 5 (cond (x==[126]) 6 0)))
structure Tab(x:Bs):Prop where
 bin:∀G s p,kJ (G+20) s 3 p x=iN (gV x)
 asg:∀G p,rN (G+20) ⟨3,p,x⟩=iN (cond (uC x == -1) 0 (uC x),!(uC x == -1))
 asr:∀G,tf (G+20) x=iN (uC x)
 bir:∀G l,mu (G+20) x l=iN (cond ((gV x).1==l) (gV x).2 0)
 lv:0<=(gV x).1/\(gV x).1<=12/\((gV x).1=0\/3<=(gV x).1)
 op:(gV x).1≠0->7<=(gV x).2/\(gV x).2<=24/\(mY (gV x).2).1=(gV x).1/\(mY (gV x).2).2=x
variable{x:Bs}
theorem an9(h:gV x=(0,0))(hr:∀G l,mu (G+20) x l=iN 0):∀G l,mu (G+20) x l=iN (cond ((gV x).1==l) (gV x).2 0):=by simp_all
theorem aoa{lv op:Int}(h:gV x=(lv,op))(hr:∀G l,mu (G+20) x l=cond (lv==l) (iN op) (iN 0)):∀G l,mu (G+20) x l=iN (cond ((gV x).1==l) (gV x).2 0):=by grind
theorem aqz:∀x,x∈([]::qH)->Tab x:=by
 intro x hx;simp[qH,Az,ajr]at hx;rcases hx with rfl|rfl|rfl|rfl|rfl|rfl|rfl|rfl|rfl|rfl|rfl|rfl|rfl|rfl|rfl|rfl|rfl|rfl|rfl|rfl|rfl|rfl|rfl|rfl|rfl|rfl|rfl|rfl|rfl|rfl|rfl|rfl|rfl|rfl|rfl|rfl<;>
  exact⟨λG s p=>by kernel_rfl,λG p=>by kernel_rfl,λG=>by kernel_rfl,(by first|exact an9 de (λG l=>by kernel_rfl)|exact aoa rfl (λG l=>by kernel_rfl)),de,de⟩
def kd(s:Bs)(i:Nat):Int:=(vA s i).eM
def tx(s:Bs)(i:Nat):Bs:=(vA s i).aR
def sy(s:Bs)(i:Nat):Bs:=oX (s.drop (skip s i))
def nx(s:Bs)(i:Nat):Nat:=skip s i+Sx (tx s i)
inductive avQ(s:Bs)(i:Nat):Prop
 | fin (h:vA s i=⟨0,skip s i,[]⟩) (hs:sy s i=[]) (hw:mF s (skip s i)=[]) (he:Sx s<=skip s i)
 | num (w:Bs) (b:UInt8) (h:vA s i=⟨1,skip s i,b::w⟩) (hs:sy s i=[]) (hw:mF s (skip s i)=b::w) (hd:dg b=eQ) (hl:skip s i+Sx (b::w)<=Sx s)
 | nam (w:Bs) (b:UInt8) (h:vA s i=⟨2,skip s i,b::w⟩) (hs:sy s i=[]) (hw:mF s (skip s i)=b::w) (hd:le b=eQ) (hl:skip s i+Sx (b::w)<=Sx s)
 | op (x:Bs) (h:vA s i=⟨3,skip s i,x⟩) (hs:sy s i=x) (hw:mF s (skip s i)=[]) (hm:x∈qH) (hl:skip s i+Sx x<=Sx s)
 | oth (b:UInt8) (h:vA s i=⟨4,skip s i,[b]⟩) (hs:sy s i=[]) (hw:mF s (skip s i)=[]) (hl:skip s i+1<=Sx s)
theorem alB:∀n:Fin 256,fo (lL n.val)=eQ->∀o,o∈qH->[lL n.val].isPrefixOf o=eK:=by decide +kernel
def auC(b:UInt8)(h:fo b=eQ):∀o,o∈qH->[b].isPrefixOf o=eK:=Ve (P:=λb=>fo b=eQ->∀o,o∈qH->[b].isPrefixOf o=eK) alB b h
theorem aob(b:UInt8)(m:Bs)(h:fo b=eQ):oX (b::m)=[]:=by
 rcases Rl (b::m)with h1|⟨h1,h2⟩
 .exact h1
 .have hne:=Ee _ h1;have:=auC b h _ h1;revert this h2 hne;cases oX (b::m)with|nil=>simp_all|cons c o=>simp_all
theorem nH(s:Bs)(i:Nat)(hi:i<=Sx s):avQ s i:=by
 obtain⟨h1,h2⟩:=iS s i hi;have e1:vA s i=Xz s (skip s i):=rfl;have e2:sy s i=oX (s.drop (skip s i)):=rfl;generalize hj:skip s i=j at h1 h2 e1 e2;unfold Xz at e1;cases hd:s.drop j with
 | nil=>rw[hd]at e1 e2;refine .fin (by rw[hj];exact e1) e2 (by rw[hj];unfold mF;rw[hd];rfl) ?_;simp_all|cons b m=>
  have hlen:(s.drop j).length=m.length+1:=by rw[hd];rfl
  rw[BL]at hlen;rw[hd]at e1 e2;simp only[]at e1;cases hf:fo b with
  | true=>
   have hw:mF s j=b::m.takeWhile fo:=by unfold mF;simp_all
   have hl:j+Sx (b::m.takeWhile fo)<=Sx s:=by grind[AA,List.length_cons]
   rw[aob b m hf]at e2;rw[hf,hw]at e1;cases hdg:dg b with|true=>rw[hdg]at e1;exact .num (m.takeWhile fo) b (by rw[hj];exact e1) e2 (by rw[hj];exact hw) hdg (by rw[hj];exact hl)|false=>rw[hdg]at e1;refine .nam (m.takeWhile fo) b (by rw[hj];exact e1) e2 (by rw[hj];exact hw) ?_ (by rw[hj];exact hl);simp_all[apm]
  | false=>
   have hw:mF s j=[]:=by unfold mF;simp_all
   rw[hf]at e1;rcases Rl (b::m)with ho|⟨ho1,ho2⟩
   .rw[ho]at e1 e2;exact .oth b (by rw[hj];exact e1) e2 (by rw[hj];exact hw) (by rw[hj];omega)
   .have hne:=Ee _ ho1;have:(oX (b::m)==[])=eK:=by simpa using hne
    rw[this]at e1;have hle:=ho2.length_le;simp at hle;exact .op (oX (b::m)) (by rw[hj];exact e1) e2 (by rw[hj];exact hw) ho1 (by rw[hj];omega)
theorem Ru(s:Bs)(i:Nat):sy s i∈([]::qH):=by unfold sy;grind[Rl,List.mem_cons_of_mem]
def Ae(s:Bs)(i:Nat):Tab (sy s i):=aqz _ (Ru s i)
theorem lU(s:Bs)(i:Nat)(hi:i<=Sx s):nx s i<=Sx s/\i<=nx s i/\(kd s i≠0->i<nx s i):=by
 obtain⟨h1,h2⟩:=iS s i hi;unfold nx tx kd;rcases nH s i hi with⟨h,_,_,_⟩|⟨w,b,h,_,_,_,hl⟩|⟨w,b,h,_,_,_,hl⟩|⟨x,h,_,_,hm,hl⟩|⟨b,h,_,_,hl⟩<;>rw[h]<;>simp at *
 .simp_all
 .grind
 .grind
 .have:Sx x≠0:=by simp_all[Ee]
  grind
 grind
theorem CJ(s:Bs)(i:Nat)(hi:i<=Sx s)(h:sy s i≠[]):kd s i=3/\tx s i=sy s i:=by
 unfold kd tx;rcases nH s i hi with⟨h',hs,_,_⟩|⟨w,b,h',hs,_,_,hl⟩|⟨w,b,h',hs,_,_,hl⟩|⟨x,h',hs,_,hm,hl⟩|⟨b,h',hs,_,hl⟩
 .exact absurd hs h
 .exact absurd hs h
 .exact absurd hs h
 .simp_all
 .exact absurd hs h
inductive w5
 | ok (e:d5) (j:Nat)
 | err (p:Nat) (c:Int)
inductive oO
 | expr
 | cond
 | oper (l:Int)
 | loop (l:Int) (a:d5)
 | un
 | pE
def jY(s:Bs)(i:Nat):Int:=cond (kd s i==2) (uC (sy s (nx s i))) (-1)
inductive D(s:Bs):oO->Nat->w5->Prop
 | CK {i:Nat} {r:w5} (h:jY s i=-1) (d:D s .cond i r):D s .expr i r
 | CM {i:Nat} (h:jY s i≠-1) (hn:rName (tx s i)=eK):D s .expr i (.err (skip s i) 10)
 | He {i j:Nat} {e:d5} (h:jY s i≠-1) (hn:rName (tx s i)=eQ) (d:D s .expr (nx s (nx s i)) (.ok e j)):D s .expr i (.ok (.mk 26 (jY s i) (tx s i) [e]) j)
 | Hf {i p:Nat} {c:Int} (h:jY s i≠-1) (hn:rName (tx s i)=eQ) (d:D s .expr (nx s (nx s i)) (.err p c)):D s .expr i (.err p c)
 | Hg {i p:Nat} {c:Int} (d:D s (.oper 3) i (.err p c)):D s .cond i (.err p c)
 | Hh {i j:Nat} {a:d5} (d:D s (.oper 3) i (.ok a j)) (h:sy s j≠[63]):D s .cond i (.ok a j)
 | Hi {i j p:Nat} {c:Int} {a:d5} (d:D s (.oper 3) i (.ok a j)) (h:sy s j=[63]) (d2:D s .expr (nx s j) (.err p c)):D s .cond i (.err p c)
 | Hj {i j k:Nat} {a b:d5} (d:D s (.oper 3) i (.ok a j)) (h:sy s j=[63]) (d2:D s .expr (nx s j) (.ok b k)) (h2:sy s k≠[58]):D s .cond i (.err (skip s k) 6)
 | N3 {i j k p:Nat} {c:Int} {a b:d5} (d:D s (.oper 3) i (.ok a j)) (h:sy s j=[63]) (d2:D s .expr (nx s j) (.ok b k)) (h2:sy s k=[58]) (d3:D s .cond (nx s k) (.err p c)):D s .cond i (.err p c)
 | Hl {i j k m:Nat} {a b e:d5} (d:D s (.oper 3) i (.ok a j)) (h:sy s j=[63]) (d2:D s .expr (nx s j) (.ok b k)) (h2:sy s k=[58]) (d3:D s .cond (nx s k) (.ok e m)):D s .cond i (.ok (.mk 25 0 [] [a,b,e]) m)
 | XH {l:Int} {i p:Nat} {c:Int} (d:D s .un i (.err p c)):D s (.oper l) i (.err p c)
 | Za {l:Int} {i j:Nat} {a:d5} {r:w5} (d:D s .un i (.ok a j)) (d2:D s (.loop l a) j r):D s (.oper l) i r
 | yq {l:Int} {i:Nat} {a:d5} (h:(gV (sy s i)).1<l):D s (.loop l a) i (.ok a i)
 | ET {l:Int} {i p:Nat} {c:Int} {a:d5} (h:l<=(gV (sy s i)).1) (d:D s (.oper ((gV (sy s i)).1+1)) (nx s i) (.err p c)):D s (.loop l a) i (.err p c)
 | I3 {l:Int} {i j:Nat} {a b:d5} {r:w5} (h:l<=(gV (sy s i)).1) (d:D s (.oper ((gV (sy s i)).1+1)) (nx s i) (.ok b j)) (d2:D s (.loop l (.mk (gV (sy s i)).2 0 [] [a,b])) j r):D s (.loop l a) i r
 | CN {i:Nat} {r:w5} (h:vZ (sy s i)=0) (d:D s .pE i r):D s .un i r
 | Ho {i p:Nat} {c:Int} (h:vZ (sy s i)≠0) (d:D s .un (nx s i) (.err p c)):D s .un i (.err p c)
 | N4 {i j:Nat} {a:d5} (h:vZ (sy s i)≠0) (d:D s .un (nx s i) (.ok a j)):D s .un i (.ok (.mk (vZ (sy s i)) 0 [] [a]) j)
 | Hp {i:Nat} (h:kd s i=1) (hv:(qh (tx s i)).2=0):D s .pE i (.ok (.mk 1 (qh (tx s i)).1 [] []) (nx s i))
 | CO {i:Nat} (h:kd s i=1) (hv:(qh (tx s i)).2≠0):D s .pE i (.err (skip s i) (qh (tx s i)).2)
 | Hq {i:Nat} (h:kd s i=2) (hv:rName (tx s i)=eQ):D s .pE i (.ok (.mk 2 0 (tx s i) []) (nx s i))
 | CP {i:Nat} (h:kd s i=2) (hv:rName (tx s i)=eK):D s .pE i (.err (skip s i) 10)
 | Hr {i:Nat} (h1:kd s i≠1) (h2:kd s i≠2) (h:sy s i≠[40]):D s .pE i (.err (skip s i) 6)
 | N5 {i p:Nat} {c:Int} (h:sy s i=[40]) (d:D s .expr (nx s i) (.err p c)):D s .pE i (.err p c)
 | zj {i j:Nat} {e:d5} (h:sy s i=[40]) (d:D s .expr (nx s i) (.ok e j)) (h2:sy s j≠[41]):D s .pE i (.err (skip s j) 6)
 | N6 {i j:Nat} {e:d5} (h:sy s i=[40]) (d:D s .expr (nx s i) (.ok e j)) (h2:sy s j=[41]):D s .pE i (.ok e (nx s j))
def oO.asQ:oO->Bool|.loop _ _=>eQ|_=>eK
def auD(s:Bs)(c:oO)(i:Nat):w5->Prop|.ok e j=>i<=j/\j<=Sx s/\(c.asQ=eK->i<j)|.err p _=>p<=Sx s
variable{s:Bs}
theorem Rv(h:jY s i≠-1):kd s i=2/\uC (sy s (nx s i))≠-1/\jY s i=uC (sy s (nx s i)):=by unfold jY at h⊢;grind
theorem aep(h:uC x≠-1):x≠[]:=λe=>h (by rw[e];rfl)
theorem AZ{l:Int}(hl:0<l)(h:l<=(gV x).1):x≠[]:=λe=>by rw[e]at h;simp[gV,alA]at h;omega
theorem Bw(h:vZ x≠0):x≠[]:=λe=>h (by rw[e];rfl)
def oO.okL:oO->Prop|.oper l=>0<l|.loop l _=>0<l|_=>True
theorem dU(hi:i<=Sx s)(h:sy s i≠[]):nx s i<=Sx s/\i<nx s i:=by simp_all[lU,CJ]
theorem yu(hi:i<=Sx s)(h:jY s i≠-1):nx s i<=Sx s/\i<nx s i/\nx s (nx s i)<=Sx s/\i<nx s (nx s i):=by grind[Rv,lU,dU,aep]
variable{r:w5}
theorem nI{c:oO}(d:D s c i r):i<=Sx s->c.okL->auD s c i r:=by
 induction d with
 | @CK i r h d ih=>intro hi _;have:=ih hi trivial;cases r with|ok e j=>exact this|err p c=>exact this
 | CM h hn=>intro hi _;exact(iS s _ hi).1|He h hn d ih=>intro hi _;obtain⟨a,b,c,e⟩:=yu hi h;obtain⟨x,y,z⟩:=ih c trivial;exact⟨om,y,λ_=>om⟩
 | Hf h hn d ih=>intro hi _;exact ih (yu hi h).2.2.1 trivial|Hg d ih=>intro hi _;exact ih hi (show(0:Int)<3 by decide)
 | Hh d h ih=>intro hi _;exact ih hi (show(0:Int)<3 by decide)
 | Hi d h d2 ih ih2=>intro hi _;obtain⟨x,y,z⟩:=ih hi (show(0:Int)<3 by decide);exact ih2 (dU y (by rw[h];decide)).1 trivial
 | Hj d h d2 h2 ih ih2=>intro hi _;obtain⟨x,y,z⟩:=ih hi (show(0:Int)<3 by decide);obtain⟨x2,y2,z2⟩:=ih2 (dU y (by rw[h];decide)).1 trivial;exact(iS s _ y2).1
 | N3 d h d2 h2 d3 ih ih2 ih3=>intro hi _;obtain⟨x,y,z⟩:=ih hi (show(0:Int)<3 by decide);obtain⟨x2,y2,z2⟩:=ih2 (dU y (by rw[h];decide)).1 trivial;exact ih3 (dU y2 (by rw[h2];decide)).1 trivial
 | Hl d h d2 h2 d3 ih ih2 ih3=>intro hi _;obtain⟨x,y,z⟩:=ih hi (show(0:Int)<3 by decide);obtain⟨m1,m2⟩:=dU y (by rw[h];decide);obtain⟨x2,y2,z2⟩:=ih2 m1 trivial;obtain⟨m3,m4⟩:=dU y2 (by rw[h2];decide);obtain⟨x3,y3,z3⟩:=ih3 m3 trivial;exact⟨om,y3,λ_=>om⟩
 | XH d ih=>intro hi _;exact ih hi trivial|@Za l i j a r d d2 ih ih2=>
  intro hi hl;obtain⟨x,y,z⟩:=ih hi trivial;have:=ih2 y hl;cases r with
  | ok e j=>obtain⟨x2,y2,_⟩:=this;have:=z rfl;exact⟨om,y2,λ_=>om⟩
  | err p c=>exact this
 | yq h=>intro hi _;exact⟨eE _,hi,λh=>by cases h⟩
 | @ET l i p c a h d ih=>intro hi hl;have hl:0<l:=hl;exact ih (dU hi (AZ hl h)).1 (show(0:Int)<_ by omega)
 | @I3 l i j a b r h d d2 ih ih2=>
  intro hi hl;have hl':0<l:=hl;obtain⟨m1,m2⟩:=dU hi (AZ hl' h);obtain⟨x,y,z⟩:=ih m1 (show(0:Int)<_ by omega);have:=ih2 y hl;cases r with
  | ok e j=>obtain⟨x2,y2,_⟩:=this;exact⟨om,y2,λh=>by cases h⟩
  | err p c=>exact this
 | @CN i r h d ih=>intro hi _;have:=ih hi trivial;cases r with|ok e j=>exact this|err p c=>exact this
 | Ho h d ih=>intro hi _;exact ih (dU hi (Bw h)).1 trivial|N4 h d ih=>intro hi _;obtain⟨m1,m2⟩:=dU hi (Bw h);obtain⟨x,y,z⟩:=ih m1 trivial;exact⟨om,y,λ_=>om⟩
 | Hp h hv=>intro hi _;obtain⟨a,b,c⟩:=lU s _ hi;have c:=c (by rw[h];decide);exact⟨b,a,λ_=>c⟩
 | CO h hv=>intro hi _;exact(iS s _ hi).1|Hq h hv=>intro hi _;obtain⟨a,b,c⟩:=lU s _ hi;have c:=c (by rw[h];decide);exact⟨b,a,λ_=>c⟩
 | CP h hv=>intro hi _;exact(iS s _ hi).1|Hr h1 h2 h=>intro hi _;exact(iS s _ hi).1|N5 h d ih=>intro hi _;exact ih (dU hi (by rw[h];decide)).1 trivial|zj h d h2 ih=>intro hi _;obtain⟨x,y,z⟩:=ih (dU hi (by rw[h];decide)).1 trivial;exact(iS s _ y).1
 | N6 h d h2 ih=>intro hi _;obtain⟨m1,m2⟩:=dU hi (by rw[h];decide);obtain⟨x,y,z⟩:=ih m1 trivial;obtain⟨m3,m4⟩:=dU y (by rw[h2];decide);exact⟨om,m3,λ_=>om⟩
def oO.yw:oO->Nat|.expr=>4|.cond=>3|.oper _=>2|.loop _ _=>0|.un=>1|.pE=>0
theorem aqA(s:Bs)(n:Nat):∀(c:oO)(i:Nat),i<=Sx s->c.okL->(Sx s-i)*5+c.yw<n->∃r,D s c i r:=by
 induction n with
 | zero=>intro c i _ _ h;omega|succ n ih=>
  intro c i hi hc hm;cases c with
  | expr=>
   simp[oO.yw]at hm;by_cases h:jY s i=-1
   .obtain⟨r,d⟩:=ih .cond i hi trivial (by simp[oO.yw];omega);exact⟨r,.CK h d⟩
   .obtain⟨_,_,m1,m2⟩:=yu hi h;cases hn:rName (tx s i)with
    | false=>exact⟨_,.CM h hn⟩|true=>obtain⟨r,d⟩:=ih .expr _ m1 trivial (by simp[oO.yw];omega);cases r with|ok e j=>exact⟨_,.He h hn d⟩|err p c=>exact⟨_,.Hf h hn d⟩
  | cond=>
   simp[oO.yw]at hm;have h3:=show(0:Int)<3 by decide
   obtain⟨r,d⟩:=ih (.oper 3) i hi h3 (by simp[oO.yw];omega);cases r with
   | err p c=>exact⟨_,.Hg d⟩|ok a j=>
    obtain⟨x,y,z⟩:=nI d hi h3;by_cases h:sy s j=[63]
    .obtain⟨m1,m2⟩:=dU y (by rw[h];decide);obtain⟨r,d2⟩:=ih .expr _ m1 trivial (by simp[oO.yw];omega);cases r with
     | err p c=>exact⟨_,.Hi d h d2⟩|ok b k=>
      obtain⟨x2,y2,z2⟩:=nI d2 m1 trivial;by_cases h2:sy s k=[58]
      .obtain⟨m3,m4⟩:=dU y2 (by rw[h2];decide);obtain⟨r,d3⟩:=ih .cond _ m3 trivial (by simp[oO.yw];omega);cases r with|err p c=>exact⟨_,.N3 d h d2 h2 d3⟩|ok e m=>exact⟨_,.Hl d h d2 h2 d3⟩
      .exact⟨_,.Hj d h d2 h2⟩
    .exact⟨_,.Hh d h⟩
  | oper l=>
   simp[oO.yw]at hm;obtain⟨r,d⟩:=ih .un i hi trivial (by simp[oO.yw];omega);cases r with
   | err p c=>exact⟨_,.XH d⟩|ok a j=>obtain⟨x,y,z⟩:=nI d hi trivial;obtain⟨r,d2⟩:=ih (.loop l a) j y hc (by simp[oO.yw];omega);exact⟨_,.Za d d2⟩
  | loop l a=>
   have hl:0<l:=hc;by_cases h:(gV (sy s i)).1<l
   .exact⟨_,.yq h⟩
   .have h:l<=(gV (sy s i)).1:=om;obtain⟨m1,m2⟩:=dU hi (AZ hl h);have ho:(oO.oper ((gV (sy s i)).1+1)).okL:=show(0:Int)<_ by omega
    obtain⟨r,d⟩:=ih (.oper ((gV (sy s i)).1+1)) _ m1 ho (by simp[oO.yw];omega);cases r with
    | err p c=>exact⟨_,.ET h d⟩|ok b j=>obtain⟨x,y,z⟩:=nI d m1 ho;obtain⟨r,d2⟩:=ih (.loop l (.mk (gV (sy s i)).2 0 [] [a,b])) j y hc (by simp[oO.yw];omega);exact⟨_,.I3 h d d2⟩
  | un=>
   simp[oO.yw]at hm;by_cases h:vZ (sy s i)=0
   .obtain⟨r,d⟩:=ih .pE i hi trivial (by simp[oO.yw];omega);exact⟨_,.CN h d⟩
   .obtain⟨m1,m2⟩:=dU hi (Bw h);obtain⟨r,d⟩:=ih .un _ m1 trivial (by simp[oO.yw];omega);cases r with|ok e j=>exact⟨_,.N4 h d⟩|err p c=>exact⟨_,.Ho h d⟩
  | pE=>
   by_cases h1:kd s i=1
   .by_cases hv:(qh (tx s i)).2=0
    .exact⟨_,.Hp h1 hv⟩
    .exact⟨_,.CO h1 hv⟩
   .by_cases h2:kd s i=2
    .cases hv:rName (tx s i)with|true=>exact⟨_,.Hq h2 hv⟩|false=>exact⟨_,.CP h2 hv⟩
    .by_cases h:sy s i=[40]
     .obtain⟨m1,m2⟩:=dU hi (by rw[h];decide);obtain⟨r,d⟩:=ih .expr _ m1 trivial (by simp[oO.yw];omega);cases r with
      | err p c=>exact⟨_,.N5 h d⟩|ok e j=>
       by_cases h2:sy s j=[41]
       .exact⟨_,.N6 h d h2⟩
       .exact⟨_,.zj h d h2⟩
     .exact⟨_,.Hr h1 h2 h⟩
def asR(s:Bs)(i:Nat)(hi:i<=Sx s):∃r,D s .expr i r:=aqA s _ .expr i hi trivial (KV _)
abbrev nV(s:Bs)(i:Nat):Int:=(gV (sy s i)).1
inductive Zb
 | expr
 | cond
 | level (l:Int)
 | loop (l:Int) (a:d5)
 | un
 | pE
inductive RD(s:Bs):Zb->Nat->w5->Prop
 | CK {i:Nat} {r:w5} (h:jY s i=-1) (d:RD s .cond i r):RD s .expr i r
 | CM {i:Nat} (h:jY s i≠-1) (hn:rName (tx s i)=eK):RD s .expr i (.err (skip s i) 10)
 | He {i j:Nat} {e:d5} (h:jY s i≠-1) (hn:rName (tx s i)=eQ) (d:RD s .expr (nx s (nx s i)) (.ok e j)):RD s .expr i (.ok (.mk 26 (jY s i) (tx s i) [e]) j)
 | Hf {i p:Nat} {c:Int} (h:jY s i≠-1) (hn:rName (tx s i)=eQ) (d:RD s .expr (nx s (nx s i)) (.err p c)):RD s .expr i (.err p c)
 | Hg {i p:Nat} {c:Int} (d:RD s (.level 3) i (.err p c)):RD s .cond i (.err p c)
 | Hh {i j:Nat} {a:d5} (d:RD s (.level 3) i (.ok a j)) (h:sy s j≠[63]):RD s .cond i (.ok a j)
 | Hi {i j p:Nat} {c:Int} {a:d5} (d:RD s (.level 3) i (.ok a j)) (h:sy s j=[63]) (d2:RD s .expr (nx s j) (.err p c)):RD s .cond i (.err p c)
 | Hj {i j k:Nat} {a b:d5} (d:RD s (.level 3) i (.ok a j)) (h:sy s j=[63]) (d2:RD s .expr (nx s j) (.ok b k)) (h2:sy s k≠[58]):RD s .cond i (.err (skip s k) 6)
 | N3 {i j k p:Nat} {c:Int} {a b:d5} (d:RD s (.level 3) i (.ok a j)) (h:sy s j=[63]) (d2:RD s .expr (nx s j) (.ok b k)) (h2:sy s k=[58]) (d3:RD s .cond (nx s k) (.err p c)):RD s .cond i (.err p c)
 | Hl {i j k m:Nat} {a b e:d5} (d:RD s (.level 3) i (.ok a j)) (h:sy s j=[63]) (d2:RD s .expr (nx s j) (.ok b k)) (h2:sy s k=[58]) (d3:RD s .cond (nx s k) (.ok e m)):RD s .cond i (.ok (.mk 25 0 [] [a,b,e]) m)
 | ajz {l:Int} {i:Nat} {r:w5} (hl:12<l) (d:RD s .un i r):RD s (.level l) i r
 | ab9 {l:Int} {i p:Nat} {c:Int} (h3:3<=l) (hl:l<=12) (d:RD s (.level (l+1)) i (.err p c)):RD s (.level l) i (.err p c)
 | aoc {l:Int} {i j:Nat} {a:d5} {r:w5} (h3:3<=l) (hl:l<=12) (d:RD s (.level (l+1)) i (.ok a j)) (d2:RD s (.loop l a) j r):RD s (.level l) i r
 | yq {l:Int} {i:Nat} {a:d5} (h:nV s i≠l):RD s (.loop l a) i (.ok a i)
 | ET {l:Int} {i p:Nat} {c:Int} {a:d5} (h:nV s i=l) (d:RD s (.level (l+1)) (nx s i) (.err p c)):RD s (.loop l a) i (.err p c)
 | I3 {l:Int} {i j:Nat} {a b:d5} {r:w5} (h:nV s i=l) (d:RD s (.level (l+1)) (nx s i) (.ok b j)) (d2:RD s (.loop l (.mk (gV (sy s i)).2 0 [] [a,b])) j r):RD s (.loop l a) i r
 | CN {i:Nat} {r:w5} (h:vZ (sy s i)=0) (d:RD s .pE i r):RD s .un i r
 | Ho {i p:Nat} {c:Int} (h:vZ (sy s i)≠0) (d:RD s .un (nx s i) (.err p c)):RD s .un i (.err p c)
 | N4 {i j:Nat} {a:d5} (h:vZ (sy s i)≠0) (d:RD s .un (nx s i) (.ok a j)):RD s .un i (.ok (.mk (vZ (sy s i)) 0 [] [a]) j)
 | Hp {i:Nat} (h:kd s i=1) (hv:(qh (tx s i)).2=0):RD s .pE i (.ok (.mk 1 (qh (tx s i)).1 [] []) (nx s i))
 | CO {i:Nat} (h:kd s i=1) (hv:(qh (tx s i)).2≠0):RD s .pE i (.err (skip s i) (qh (tx s i)).2)
 | Hq {i:Nat} (h:kd s i=2) (hv:rName (tx s i)=eQ):RD s .pE i (.ok (.mk 2 0 (tx s i) []) (nx s i))
 | CP {i:Nat} (h:kd s i=2) (hv:rName (tx s i)=eK):RD s .pE i (.err (skip s i) 10)
 | Hr {i:Nat} (h1:kd s i≠1) (h2:kd s i≠2) (h:sy s i≠[40]):RD s .pE i (.err (skip s i) 6)
 | N5 {i p:Nat} {c:Int} (h:sy s i=[40]) (d:RD s .expr (nx s i) (.err p c)):RD s .pE i (.err p c)
 | zj {i j:Nat} {e:d5} (h:sy s i=[40]) (d:RD s .expr (nx s i) (.ok e j)) (h2:sy s j≠[41]):RD s .pE i (.err (skip s j) 6)
 | N6 {i j:Nat} {e:d5} (h:sy s i=[40]) (d:RD s .expr (nx s i) (.ok e j)) (h2:sy s j=[41]):RD s .pE i (.ok e (nx s j))
inductive Tl(s:Bs):Int->d5->Nat->w5->Prop
 | top {a:d5} {i:Nat}:Tl s 13 a i (.ok a i)
 | err {l:Int} {a:d5} {i p:Nat} {c:Int} (h3:3<=l) (hl:l<=12) (t:Tl s (l+1) a i (.err p c)):Tl s l a i (.err p c)
 | go {l:Int} {a b:d5} {i j:Nat} {r:w5} (h3:3<=l) (hl:l<=12) (t:Tl s (l+1) a i (.ok b j)) (d:RD s (.loop l b) j r):Tl s l a i r
theorem Tn{s:Bs}{a:d5}{i:Nat}:∀(k:Nat)(l:Int),l+k=13->3<=l->nV s i<l->Tl s l a i (.ok a i)
 | 0,l,hk,_,_=>by obtain rfl:l=13:=om;exact .top
 | k+1,l,hk,h3,h=>.go h3 om (Tn k (l+1) om om om) (.yq om)
theorem ag0{l:Int}{a:d5}(t:Tl s l a i r):nV s i<l->r=.ok a i:=by
 induction t with
 | top=>intro _;rfl|err h3 hl t ih=>grind|@go l a b i j r h3 hl t d ih=>intro h;cases ih om;cases d with|yq _=>rfl|ET h' _=>simp_all|I3 h' _ _=>simp_all
theorem ajA{s:Bs}{a b:d5}{i j:Nat}(hd:RD s (.level (nV s i+1)) (nx s i) (.ok b j))(hj:nV s j<nV s i+1)(h12:nV s i<=12):
  ∀(k:Nat)(l:Int)(r:w5),l+k=nV s i->3<=l->Tl s l (.mk (gV (sy s i)).2 0 [] [a,b]) j r->Tl s l a i r
 | 0,l,r,hk,h3,t=>by
  have hk':nV s i=l:=om;rw[hk']at hd hj h12;have hs:Tl s (l+1) a i (.ok a i):=Tn (13-(l+1)).toNat _ om om om;generalize hx:d5.mk (gV (sy s i)).2 0 [] [a,b]=x at t;cases t with
  | top=>omega|err _ _ t=>cases ag0 t hj
  | go _ _ t d=>cases ag0 t hj;subst hx;exact .go h3 h12 hs (.I3 hk' hd d)
 | k+1,l,r,hk,h3,t=>by generalize hx:d5.mk (gV (sy s i)).2 0 [] [a,b]=x at t;cases t with|top=>omega|err _ _ t=>subst hx;exact .err h3 om (ajA hd hj h12 k (l+1) _ om om t)|go _ _ t d=>subst hx;exact .go h3 om (ajA hd hj h12 k (l+1) _ om om t) d
theorem alC{s:Bs}{a:d5}{i p:Nat}{c:Int}(hd:RD s (.level (nV s i+1)) (nx s i) (.err p c))(h12:nV s i<=12):
  ∀(k:Nat)(l:Int),l+k=nV s i->3<=l->Tl s l a i (.err p c)
 | 0,l,hk,h3=>by obtain rfl:l=nV s i:=om;exact .go h3 h12 (Tn (13-(nV s i+1)).toNat _ om om om) (.ET rfl hd)
 | k+1,l,hk,h3=>.err h3 om (alC hd h12 k (l+1) om om)
theorem aod{a:d5}(hu:RD s .un i (.ok a j)){l:Int}(t:Tl s l a j r):RD s (.level l) i r:=by
 induction t with|top=>exact .ajz om hu|err h3 hl t ih=>exact .ab9 h3 hl (ih hu)|go h3 hl t d ih=>exact .aoc h3 hl (ih hu) d
theorem aaA{s:Bs}{i p:Nat}{c:Int}(hu:RD s .un i (.err p c)):∀(k:Nat)(l:Int),l+k=13->3<=l->RD s (.level l) i (.err p c)|0,l,hk,_=>.ajz om hu|k+1,l,hk,h3=>.ab9 h3 om (aaA hu k (l+1) om om)
theorem aqB{c:oO}(d:D s c i r):∀l,(c=.oper l\/∃a,c=.loop l a)->∀e j,r=.ok e j->nV s j<l:=by
 induction d with|Za d d2 ih ih2=>simp_all|yq h=>simp_all|I3 h d d2 ih ih2=>simp_all|_=>simp_all
def MR(s:Bs):oO->Nat->w5->Prop|.expr,i,r=>RD s .expr i r|.cond,i,r=>RD s .cond i r|.oper l,i,r=>3<=l->l<=13->RD s (.level l) i r|.loop l a,i,r=>3<=l->l<=13->Tl s l a i r|.un,i,r=>RD s .un i r|.pE,i,r=>RD s .pE i r
theorem avR{c:oO}(d:D s c i r):MR s c i r:=by
 induction d with
 | CK h d ih=>exact .CK h ih|CM h hn=>exact .CM h hn|He h hn d ih=>exact .He h hn ih|Hf h hn d ih=>exact .Hf h hn ih|Hg d ih=>exact .Hg (ih de de)|Hh d h ih=>exact .Hh (ih de de) h|Hi d h d2 ih ih2=>exact .Hi (ih de de) h ih2|Hj d h d2 h2 ih ih2=>exact .Hj (ih de de) h ih2 h2|N3 d h d2 h2 d3 ih ih2 ih3=>exact .N3 (ih de de) h ih2 h2 ih3|Hl d h d2 h2 d3 ih ih2 ih3=>exact .Hl (ih de de) h ih2 h2 ih3|@XH l i p c d ih=>exact λh3 h13=>aaA ih (13-l).toNat l om h3|Za d d2 ih ih2=>exact λh3 h13=>aod ih (ih2 h3 h13)|@yq l i a h=>exact λh3 h13=>Tn (13-l).toNat l om h3 h|@ET l i p c a h d ih=>intro h3 h13;have hlv:0<=nV s i/\nV s i<=12/\(nV s i=0\/3<=nV s i):=(Ae s i).lv;have h:l<=nV s i:=h;exact alC (ih (show 3<=nV s i+1 by omega) (show nV s i+1<=13 by omega)) hlv.2.1 (nV s i-l).toNat l om h3
 | @I3 l i j a b r h d d2 ih ih2=>intro h3 h13;have hlv:0<=nV s i/\nV s i<=12/\(nV s i=0\/3<=nV s i):=(Ae s i).lv;have h:l<=nV s i:=h;exact ajA (ih (show 3<=nV s i+1 by omega) (show nV s i+1<=13 by omega)) (aqB d _ (.inl rfl) _ _ rfl) hlv.2.1 (nV s i-l).toNat l r om h3 (ih2 h3 h13)
 | CN h d ih=>exact .CN h ih|Ho h d ih=>exact .Ho h ih|N4 h d ih=>exact .N4 h ih|Hp h hv=>exact .Hp h hv|CO h hv=>exact .CO h hv|Hq h hv=>exact .Hq h hv|CP h hv=>exact .CP h hv|Hr h1 h2 h=>exact .Hr h1 h2 h|N5 h d ih=>exact .N5 h ih|zj h d h2 ih=>exact .zj h ih h2|N6 h d h2 ih=>exact .N6 h ih h2
abbrev RA:=(d5×Bs×Int×Int×Bs) ⊕ (eo×Bs×Int×Int×Bs)
abbrev SA:=Bs×Int×Int×Bs×Int×Int×Bs×(J d5)
def po(s:Bs)(i:Nat):Int:=(skip s i:Int)
def mw(s:Bs):w5->O RA->Prop|.ok e j,x=>x=iN (.inl (e,s,kd s j,po s j,tx s j))|.err p c,x=>∃st,x=iN (.inr (⟨p,c⟩,st))
def CQ(F:Nat)(r:Int->Bs->Int->Int->Bs->O RA)(l:Int):(SA->O RA)->SA->O RA:=
 (λiw x2=>
 (kJ F x2.1 x2.2.1 x2.2.2.1 x2.2.2.2.1).bind λx4=>
 cond (eJ (x4.1<l))
 (iN (.inl ((d5.mk ((d5.mk x2.2.2.2.2.1 x2.2.2.2.2.2.1 x2.2.2.2.2.2.2.1 x2.2.2.2.2.2.2.2).fOp) ((d5.mk x2.2.2.2.2.1 x2.2.2.2.2.2.1 x2.2.2.2.2.2.2.1 x2.2.2.2.2.2.2.2).fN) ((d5.mk x2.2.2.2.2.1 x2.2.2.2.2.2.1 x2.2.2.2.2.2.2.1 x2.2.2.2.2.2.2.2).fName) ((d5.mk x2.2.2.2.2.1 x2.2.2.2.2.2.1 x2.2.2.2.2.2.2.1 x2.2.2.2.2.2.2.2).fKids)),x2.1,x2.2.1,x2.2.2.1,x2.2.2.2.1)))
 ((fB F x2.1 x2.2.1 x2.2.2.1 x2.2.2.2.1).bind λx5=>
 (r (aE (x4.1+1)) x5.1 x5.2.1 x5.2.2.1 x5.2.2.2).bind (sm (λx6=>
 iw (x6.2.1,x6.2.2.1,x6.2.2.2.1,x6.2.2.2.2,(d5.mk x4.2 0 [] ([(d5.mk x2.2.2.2.2.1 x2.2.2.2.2.2.1 x2.2.2.2.2.2.2.1 x2.2.2.2.2.2.2.2),(d5.mk x6.1.fOp x6.1.fN x6.1.fName x6.1.fKids)]:J d5)).fOp,(d5.mk x4.2 0 [] ([(d5.mk x2.2.2.2.2.1 x2.2.2.2.2.2.1 x2.2.2.2.2.2.2.1 x2.2.2.2.2.2.2.2),(d5.mk x6.1.fOp x6.1.fN x6.1.fName x6.1.fKids)]:J d5)).fN,(d5.mk x4.2 0 [] ([(d5.mk x2.2.2.2.2.1 x2.2.2.2.2.2.1 x2.2.2.2.2.2.2.1 x2.2.2.2.2.2.2.2),(d5.mk x6.1.fOp x6.1.fN x6.1.fName x6.1.fKids)]:J d5)).fName,(d5.mk x4.2 0 [] ([(d5.mk x2.2.2.2.2.1 x2.2.2.2.2.2.1 x2.2.2.2.2.2.2.1 x2.2.2.2.2.2.2.2),(d5.mk x6.1.fOp x6.1.fN x6.1.fName x6.1.fKids)]:J d5)).fKids)) (λx7=>iN (.inr (x7.1,x7.2.1,x7.2.2.1,x7.2.2.2.1,x7.2.2.2.2))))))
theorem To(s:Bs)(i:Nat)(hi:i<=Sx s):vA s i=⟨kd s i,po s i,tx s i⟩:=by unfold kd tx po;rcases nH s i hi with⟨h,_,_,_⟩|⟨w,b,h,_,_,_,hl⟩|⟨w,b,h,_,_,_,hl⟩|⟨x,h,_,_,hm,hl⟩|⟨b,h,_,_,hl⟩<;>rw[h]
theorem aqC(X:O RA):X.bind (sm (λx=>iN (.inl ((d5.mk x.1.fOp x.1.fN x.1.fName x.1.fKids),x.2.1,x.2.2.1,x.2.2.2.1,x.2.2.2.2))) (λx=>iN (.inr (x.1,x.2.1,x.2.2.1,x.2.2.2.1,x.2.2.2.2))))=X:=by cases X with|none=>rfl|some y=>grind[sm,d5.eta]
variable{F:Nat}
section
variable (hl : s.length <= 1000000) (hi : i <= s.length) (hF : s.length + 60 <= F)
include hl hi hF
theorem I4:pF F s (kd s i) (po s i) (tx s i)=iN (vA s (nx s i)):=by
 unfold pF wx;obtain⟨a,_,_⟩:=lU s i hi;have e:po s i+(Sx (tx s i):Int)=((nx s i:Nat):Int):=by unfold po nx;omega
 grind[bQ,Y5]
theorem uD:fB F s (kd s i) (po s i) (tx s i)=iN (s,kd s (nx s i),po s (nx s i),tx s (nx s i)):=by unfold fB wx;simp_all[lU,I4,To]
theorem lC(hx:x≠[]):jm F x s (kd s i) (po s i) (tx s i)=iN (sy s i==x):=by
 unfold jm wx;by_cases h:sy s i=[]
 .have hk:(cond (kd s i==3) (iN (tx s i==x)) (iN eK):O Bool)=iN eK:=by
   unfold kd tx;rcases nH s i hi with⟨h',_,_,_⟩|⟨w,b,h',_,_,_,_⟩|⟨w,b,h',_,_,_,_⟩|⟨x',h',hs,_,hm,_⟩|⟨b,h',_,_,_⟩<;>rw[h']<;>try rfl
   simp_all
  simp_all
 simp_all[CJ]
theorem Zc:kJ F s (kd s i) (po s i) (tx s i)=iN (gV (sy s i)):=by
 by_cases h:sy s i=[]
 .rw[h];have hk:(kd s i==3)=eK:=by
   unfold kd;rcases nH s i hi with⟨h',_,_,_⟩|⟨w,b,h',_,_,_,_⟩|⟨w,b,h',_,_,_,_⟩|⟨x',h',hs,_,hm,_⟩|⟨b,h',_,_,_⟩<;>rw[h']<;>try rfl
   simp_all[Ee]
  unfold kJ wx;rw[hk];rfl
 .obtain⟨h1,h2⟩:=CJ s i hi h;rw[h1,h2];obtain⟨G,rfl⟩:∃G,F=G+20:=⟨F-20,om⟩;exact(Ae s i).bin G s _
theorem Kt:rN F (vA s i)=iN (cond (uC (sy s i) == -1) 0 (uC (sy s i)),!(uC (sy s i) == -1)):=by
 by_cases h:sy s i=[]
 .rw[h];have hk:((vA s i).eM != 3)=eQ:=by
   rcases nH s i hi with⟨h',_,_,_⟩|⟨w,b,h',_,_,_,_⟩|⟨w,b,h',_,_,_,_⟩|⟨x',h',hs,_,hm,_⟩|⟨b,h',_,_,_⟩<;>rw[h']<;>try rfl
   simp_all[Ee]
  unfold rN wx;rw[hk];rfl
 .obtain⟨h1,h2⟩:=CJ s i hi h;rw[To s i hi,h1,h2];obtain⟨G,rfl⟩:∃G,F=G+20:=⟨F-20,om⟩;exact(Ae s i).asg G _
theorem zk(hx:x≠[])(h:sy s i=x):jh F x s (kd s i) (po s i) (tx s i)=iN (.inl (s,kd s (nx s i),po s (nx s i),tx s (nx s i))):=by unfold jh wx;simp_all[lC,uD,jj,sm]
theorem Rw(hx:x≠[])(h:sy s i≠x):jh F x s (kd s i) (po s i) (tx s i)=iN (.inr ⟨po s i,6⟩):=by
 unfold jh wx;have:(sy s i==x)=eK:=by simp_all
 rw[lC hl hi hF hx,this];rfl
omit hF hl in
theorem alD:(tx s i).length<=Sx s:=by obtain⟨a,_,_⟩:=lU s i hi;unfold nx at a;omega
omit hF hl in
theorem auE(h:kd s i=1\/kd s i=2):tx s i≠[]:=by unfold kd at h;unfold tx;rcases nH s i hi with⟨h',_,_,_⟩|⟨w,b,h',_,_,_,_⟩|⟨w,b,h',_,_,_,_⟩|⟨x',h',hs,_,hm,_⟩|⟨b,h',_,_,_⟩<;>rw[h']at h⊢ <;> simp at h⊢
theorem aeq(h:kd s i=1):Aa F (tx s i)=iN (qh (tx s i)):=by grind[alD,anY,auE]
theorem Zd(h:rName (tx s i)=eQ):jt F s (kd s i) (po s i) (tx s i)=iN (.inl (tx s i,s,kd s (nx s i),po s (nx s i),tx s (nx s i))):=by unfold jt wx;grind[F4,uD]
theorem alE(h:rName (tx s i)=eK):jt F s (kd s i) (po s i) (tx s i)=iN (.inr ⟨po s i,10⟩):=by unfold jt wx;grind[F4]
end
def StA(s:Bs):oO->Nat->w5->Prop|.expr,i,r=>bU λF n=>mw s r (aX F n s (kd s i) (po s i) (tx s i))|.cond,i,r=>bU λF n=>mw s r (bD F n s (kd s i) (po s i) (tx s i))|.oper l,i,r=>bU λF n=>mw s r (aL F n l s (kd s i) (po s i) (tx s i))|.loop l a,i,r=>∃N,∀F n m,N<=F->N<=n->N<=m->mw s r (ck (CQ F (aL F n) l) m (s,kd s i,po s i,tx s i,a.fOp,a.fN,a.fName,a.fKids))|.un,i,r=>bU λF n=>mw s r (bS F n s (kd s i) (po s i) (tx s i))|.pE,i,r=>bU λF n=>mw s r (bK F n s (kd s i) (po s i) (tx s i))
def ij(s:Bs):bU λF _=>Sx s+60<=F:=bU.ge (Sx s+60) λF n h _=>h
theorem D_A(hl:Sx s<=1000000){c:oO}(d:D s c i r):i<=Sx s->c.okL->StA s c i r:=by
 induction d with
 | @CK i r h d ih=>
  intro hi _;refine bU.succ (bU.mo (ih hi trivial) (ij s) λF n h1 hF=>?_);show mw s r (ff F (aX F n) (bD F n) (aL F n) (bS F n) (bK F n) s (kd s i) (po s i) (tx s i));unfold ff wx;rw[aqC];cases hk:(kd s i==2)with
  | false=>grind|true=>
   have:(kd s i != 2)=eK:=by unfold bne;rw[hk];rfl
   unfold jY at h;rw[hk]at h;simp only[aQ]at h;obtain⟨a,_,_⟩:=lU s i hi;rw[this,I4 hl hi hF];simp_all[aI,aC,Kt]
 | @CM i h hn=>
  intro hi _;refine bU.succ (bU.mono (ij s) λF n hF=>?_);obtain⟨hk,h2,_⟩:=Rv h;obtain⟨a,_,_⟩:=lU s i hi;show mw s _ (ff F (aX F n) (bD F n) (aL F n) (bS F n) (bK F n) s (kd s i) (po s i) (tx s i));unfold ff wx;have h3:(uC (sy s (nx s i)) == -1)=eK:=by simp_all
  rw[I4 hl hi hF,alE hl hi hF hn];simp only[aC];rw[Kt hl a hF,h3,hk];exact⟨_,rfl⟩
 | @He i j e h hn d ih=>
  intro hi _;obtain⟨m1,m2,m3,m4⟩:=yu hi h;refine bU.succ (bU.mo (ih m3 trivial) (ij s) λF n h1 hF=>?_);obtain⟨hk,h2,he⟩:=Rv h;show mw s _ (ff F (aX F n) (bD F n) (aL F n) (bS F n) (bK F n) s (kd s i) (po s i) (tx s i));unfold ff wx;have h3:(uC (sy s (nx s i)) == -1)=eK:=by simp_all
  have h1:aX F n s _ _ _=_:=h1;rw[I4 hl hi hF,Zd hl hi hF hn];simp only[aC];rw[Kt hl m1 hF,h3,hk,he];simp only[MX,aI,nu,fU,sm];rw[uD hl m1 hF];simp only[aC];rw[h1];rfl
 | @Hf i p c h hn d ih=>
  intro hi _;obtain⟨m1,m2,m3,m4⟩:=yu hi h;refine bU.succ (bU.mo (ih m3 trivial) (ij s) λF n h1 hF=>?_);obtain⟨hk,h2,he⟩:=Rv h;show mw s _ (ff F (aX F n) (bD F n) (aL F n) (bS F n) (bK F n) s (kd s i) (po s i) (tx s i));unfold ff wx;have h3:(uC (sy s (nx s i)) == -1)=eK:=by simp_all
  obtain⟨st,h1⟩:=h1;rw[I4 hl hi hF,Zd hl hi hF hn];simp only[aC];rw[Kt hl m1 hF,h3,hk];simp only[MX,aI,nu,fU,sm];rw[uD hl m1 hF];simp only[aC];rw[h1];exact⟨_,rfl⟩
 | @Hg i p c d ih=>intro hi _;refine bU.succ (bU.mono (ih hi (show(0:Int)<3 by decide)) λF n h1=>?_);show mw s _ (dy F (aX F n) (bD F n) (aL F n) (bS F n) (bK F n) s (kd s i) (po s i) (tx s i));unfold dy wx;obtain⟨st,h1⟩:=h1;rw[h1];exact⟨_,rfl⟩
 | @Hh i j a d h ih=>
  intro hi _;obtain⟨x,y,z⟩:=nI d hi (show(0:Int)<3 by decide);refine bU.succ (bU.mo (ih hi (show(0:Int)<3 by decide)) (ij s) λF n h1 hF=>?_);show mw s _ (dy F (aX F n) (bD F n) (aL F n) (bS F n) (bK F n) s (kd s i) (po s i) (tx s i));unfold dy wx;have h1:aL F n 3 s _ _ _=_:=h1;have hb:(sy s j==[63])=eK:=by simp_all
  rw[h1];simp only[aC,sm];rw[lC hl y hF de,hb];simp_all
 | @Hi i j p c a d h d2 ih ih2=>intro hi _;obtain⟨x,y,z⟩:=nI d hi (show(0:Int)<3 by decide);obtain⟨m1,m2⟩:=dU y (by rw[h];decide);refine bU.succ (bU.Eb (ih hi (show(0:Int)<3 by decide)) (ih2 m1 trivial) (ij s) λF n h1 h2 hF=>?_);show mw s _ (dy F (aX F n) (bD F n) (aL F n) (bS F n) (bK F n) s (kd s i) (po s i) (tx s i));unfold dy wx;have h1:aL F n 3 s _ _ _=_:=h1;obtain⟨st,h2⟩:=h2;rw[h1];simp only[aC,sm];rw[lC hl y hF de,h,uD hl y hF];simp only[aC];rw[h2];exact⟨_,rfl⟩
 | @Hj i j k a b d h d2 h2 ih ih2=>intro hi _;obtain⟨x,y,z⟩:=nI d hi (show(0:Int)<3 by decide);obtain⟨m1,m2⟩:=dU y (by rw[h];decide);obtain⟨x2,y2,z2⟩:=nI d2 m1 trivial;refine bU.succ (bU.Eb (ih hi (show(0:Int)<3 by decide)) (ih2 m1 trivial) (ij s) λF n h1 h3 hF=>?_);show mw s _ (dy F (aX F n) (bD F n) (aL F n) (bS F n) (bK F n) s (kd s i) (po s i) (tx s i));unfold dy wx;have h1:aL F n 3 s _ _ _=_:=h1;have h3:aX F n s _ _ _=_:=h3;rw[h1];simp only[aC,sm];rw[lC hl y hF de,h,uD hl y hF];simp only[aC];rw[h3];simp only[aC,sm];rw[Rw hl y2 hF de h2];exact⟨_,rfl⟩
 | @N3 i j k p c a b d h d2 h2 d3 ih ih2 ih3=>intro hi _;obtain⟨x,y,z⟩:=nI d hi (show(0:Int)<3 by decide);obtain⟨m1,m2⟩:=dU y (by rw[h];decide);obtain⟨x2,y2,z2⟩:=nI d2 m1 trivial;obtain⟨m3,m4⟩:=dU y2 (by rw[h2];decide);refine bU.succ (bU.Eb ((ih hi (show(0:Int)<3 by decide)).and (ih3 m3 trivial)) (ih2 m1 trivial) (ij s) λF n h1 h3 hF=>?_);show mw s _ (dy F (aX F n) (bD F n) (aL F n) (bS F n) (bK F n) s (kd s i) (po s i) (tx s i));unfold dy wx;obtain⟨h1,st,h4⟩:=h1;have h1:aL F n 3 s _ _ _=_:=h1;have h3:aX F n s _ _ _=_:=h3;rw[h1];simp only[aC,sm];rw[lC hl y hF de,h,uD hl y hF];simp only[aC];rw[h3];simp only[aC,sm];rw[zk hl y2 hF de h2];simp only[aC,sm];rw[h4];exact⟨_,rfl⟩
 | @Hl i j k m a b e d h d2 h2 d3 ih ih2 ih3=>intro hi _;obtain⟨x,y,z⟩:=nI d hi (show(0:Int)<3 by decide);obtain⟨m1,m2⟩:=dU y (by rw[h];decide);obtain⟨x2,y2,z2⟩:=nI d2 m1 trivial;obtain⟨m3,m4⟩:=dU y2 (by rw[h2];decide);refine bU.succ (bU.Eb ((ih hi (show(0:Int)<3 by decide)).and (ih3 m3 trivial)) (ih2 m1 trivial) (ij s) λF n h1 h3 hF=>?_);show mw s _ (dy F (aX F n) (bD F n) (aL F n) (bS F n) (bK F n) s (kd s i) (po s i) (tx s i));unfold dy wx;obtain⟨h1,h4⟩:=h1;have h1:aL F n 3 s _ _ _=_:=h1;have h3:aX F n s _ _ _=_:=h3;have h4:bD F n s _ _ _=_:=h4;rw[h1];simp only[aC,sm];rw[lC hl y hF de,h,uD hl y hF];simp only[aC];rw[h3];simp only[aC,sm];rw[zk hl y2 hF de h2];simp only[aC,sm];rw[h4];simp only[aC,sm,d5.eta];rfl
 | @XH l i p c d ih=>intro hi _;refine bU.succ (bU.mono (ih hi trivial) λF n h1=>?_);show mw s _ (kU F (aX F n) (bD F n) (aL F n) (bS F n) (bK F n) l s (kd s i) (po s i) (tx s i));unfold kU wx;obtain⟨st,h1⟩:=h1;rw[h1];exact⟨_,rfl⟩
 | @Za l i j a r d d2 ih ih2=>intro hi hc;obtain⟨x,y,z⟩:=nI d hi trivial;obtain⟨N,h2⟩:=ih2 y hc;refine bU.succ (bU.mo (ih hi trivial) (bU.ge (p:=λF n=>N<=F/\N<=n) N λF n a b=>⟨a,b⟩) λF n h1 hN=>?_);show mw s _ (kU F (aX F n) (bD F n) (aL F n) (bS F n) (bK F n) l s (kd s i) (po s i) (tx s i));unfold kU wx;have h1:bS F n s _ _ _=_:=h1;rw[h1];exact h2 F n F hN.1 hN.2 hN.1
 | @yq l i a h=>
  intro hi _;refine⟨Sx s+60,λF n m hF _ hm=>?_⟩;cases m with
  | zero=>omega|succ m=>show mw s _ (CQ F (aL F n) l (ck (CQ F (aL F n) l) m) (s,kd s i,po s i,tx s i,a.fOp,a.fN,a.fName,a.fKids));unfold CQ;rw[Zc hl hi hF];simp only[aC,eT h,aQ,d5.eta];rfl
 | @ET l i p c a h d ih=>
  intro hi hc;have hc:0<l:=hc;obtain⟨m1,m2⟩:=dU hi (AZ hc h);obtain⟨N,h1⟩:=ih m1 (show(0:Int)<_ by omega);have hlv:=(Ae s i).lv;refine⟨N+Sx s+60,λF n m hF hn hm=>?_⟩;cases m with
  | zero=>omega|succ m=>show mw s _ (CQ F (aL F n) l (ck (CQ F (aL F n) l) m) (s,kd s i,po s i,tx s i,a.fOp,a.fN,a.fName,a.fKids));unfold CQ;obtain⟨st,h1⟩:=h1 F n om om;rw[Zc hl hi om,uD hl hi om];have hx:eJ ((gV (sy s i)).1<l)=eK:=vb om;simp only[aC,hx,aI];rw[bQ (x:=(gV (sy s i)).1+1) om,h1];exact⟨_,rfl⟩
 | @I3 l i j a b r h d d2 ih ih2=>
  intro hi hc;have tM:0<l:=hc;obtain⟨m1,m2⟩:=dU hi (AZ tM h);obtain⟨x,y,z⟩:=nI d m1 (show(0:Int)<_ by omega);obtain⟨N,h1⟩:=ih m1 (show(0:Int)<_ by omega);obtain⟨N2,h2⟩:=ih2 y hc;have hlv:=(Ae s i).lv;refine⟨N+N2+Sx s+60,λF n m hF hn hm=>?_⟩;cases m with
  | zero=>omega|succ m=>show mw s _ (CQ F (aL F n) l (ck (CQ F (aL F n) l) m) (s,kd s i,po s i,tx s i,a.fOp,a.fN,a.fName,a.fKids));have h1:aL F n _ s _ _ _=_:=h1 F n om om;have h2:=h2 F n m om om om;generalize hL:ck (CQ F (aL F n) l) m=L at h2⊢;unfold CQ;rw[Zc hl hi om,uD hl hi om];have hx:eJ ((gV (sy s i)).1<l)=eK:=vb om;simp only[aC,hx,aI];grind[bQ,sm,d5.eta]
 | @CN i r h d ih=>
  intro hi _;refine bU.succ (bU.mo (ih hi trivial) (ij s) λF n h1 hF=>?_);show mw s _ (jM F (aX F n) (bD F n) (aL F n) (bS F n) (bK F n) s (kd s i) (po s i) (tx s i));unfold jM wx;rw[lC hl hi hF de,lC hl hi hF de,lC hl hi hF de,lC hl hi hF de];have hu:(sy s i==[45])=eK/\(sy s i==[43])=eK/\(sy s i==[33])=eK/\(sy s i==[126])=eK:=by unfold vZ at h;grind
  obtain⟨u1,u2,u3,u4⟩:=hu;rw[u1,u2,u3,u4];revert h1;cases bK F n s (kd s i) (po s i) (tx s i)with
  | none=>exact id|some X=>cases X with|inl X=>simp_all[aC,aI,jj,sm,d5.eta]|inr X=>simp_all[aC,aI,jj,sm,d5.eta]
 | @Ho i p c h d ih=>intro hi _;obtain⟨m1,m2⟩:=dU hi (Bw h);refine bU.succ (bU.mo (ih m1 trivial) (ij s) λF n h1 hF=>?_);show mw s _ (jM F (aX F n) (bD F n) (aL F n) (bS F n) (bK F n) s (kd s i) (po s i) (tx s i));unfold jM wx;rw[lC hl hi hF de,lC hl hi hF de,lC hl hi hF de,lC hl hi hF de,uD hl hi hF];obtain⟨st,h1⟩:=h1;simp only[aC,h1];unfold vZ at h;revert h;cases (sy s i==[45])<;>cases (sy s i==[43])<;>cases (sy s i==[33])<;>cases (sy s i==[126])<;>intro h<;>first|exact⟨_,rfl⟩|exact absurd rfl h
 | @N4 i j a h d ih=>intro hi _;obtain⟨m1,m2⟩:=dU hi (Bw h);refine bU.succ (bU.mo (ih m1 trivial) (ij s) λF n h1 hF=>?_);show mw s _ (jM F (aX F n) (bD F n) (aL F n) (bS F n) (bK F n) s (kd s i) (po s i) (tx s i));unfold jM wx;rw[lC hl hi hF de,lC hl hi hF de,lC hl hi hF de,lC hl hi hF de,uD hl hi hF];have h1:bS F n s _ _ _=_:=h1;simp only[aC,h1];unfold vZ at h⊢;revert h;cases (sy s i==[45])<;>cases (sy s i==[43])<;>cases (sy s i==[33])<;>cases (sy s i==[126])<;>intro h<;>first|rfl|exact absurd rfl h
 | @Hp i h hv=>intro hi _;refine bU.succ (bU.mono (ij s) λF n hF=>?_);show mw s _ (cM F (aX F n) (bD F n) (aL F n) (bS F n) (bK F n) s (kd s i) (po s i) (tx s i));unfold cM wx;rw[aeq hl hi hF h,uD hl hi hF,h];simp only[Ic,aQ,aC,hv,MX,aI];rfl
 | @CO i h hv=>
  intro hi _;refine bU.succ (bU.mono (ij s) λF n hF=>?_);show mw s _ (cM F (aX F n) (bD F n) (aL F n) (bS F n) (bK F n) s (kd s i) (po s i) (tx s i));unfold cM wx;have jU:((qh (tx s i)).2 != 0)=eQ:=by simpa using hv
  rw[aeq hl hi hF h,h];simp only[Ic,aQ,aC,jU];exact⟨_,rfl⟩
 | @Hq i h hv=>intro hi _;refine bU.succ (bU.mono (ij s) λF n hF=>?_);show mw s _ (cM F (aX F n) (bD F n) (aL F n) (bS F n) (bK F n) s (kd s i) (po s i) (tx s i));unfold cM wx;rw[Zd hl hi hF hv,h];rfl
 | @CP i h hv=>intro hi _;refine bU.succ (bU.mono (ij s) λF n hF=>?_);show mw s _ (cM F (aX F n) (bD F n) (aL F n) (bS F n) (bK F n) s (kd s i) (po s i) (tx s i));unfold cM wx;rw[alE hl hi hF hv,h];exact⟨_,rfl⟩
 | @Hr i h1 h2 h=>
  intro hi _;refine bU.succ (bU.mono (ij s) λF n hF=>?_);show mw s _ (cM F (aX F n) (bD F n) (aL F n) (bS F n) (bK F n) s (kd s i) (po s i) (tx s i));unfold cM wx;have k1:(kd s i==1)=eK:=by simp_all
  have k2:(kd s i==2)=eK:=by simp_all
  rw[Rw hl hi hF de h,k1,k2];exact⟨_,rfl⟩
 | @N5 i p c h d ih=>intro hi _;obtain⟨m1,m2⟩:=dU hi (by rw[h];decide);refine bU.succ (bU.mo (ih m1 trivial) (ij s) λF n h1 hF=>?_);show mw s _ (cM F (aX F n) (bD F n) (aL F n) (bS F n) (bK F n) s (kd s i) (po s i) (tx s i));unfold cM wx;have hk:=(CJ s i hi (by rw[h];decide)).1;obtain⟨st,h1⟩:=h1;rw[zk hl hi hF de h,hk];simp only[aC,sm];rw[h1];exact⟨_,rfl⟩
 | @zj i j e h d h2 ih=>intro hi _;obtain⟨m1,m2⟩:=dU hi (by rw[h];decide);obtain⟨x,y,z⟩:=nI d m1 trivial;refine bU.succ (bU.mo (ih m1 trivial) (ij s) λF n h1 hF=>?_);show mw s _ (cM F (aX F n) (bD F n) (aL F n) (bS F n) (bK F n) s (kd s i) (po s i) (tx s i));unfold cM wx;have hk:=(CJ s i hi (by rw[h];decide)).1;have h1:aX F n s _ _ _=_:=h1;rw[zk hl hi hF de h,hk];simp only[aC,sm];rw[h1];simp only[aC,sm];rw[Rw hl y hF de h2];exact⟨_,rfl⟩
 | @N6 i j e h d h2 ih=>intro hi _;obtain⟨m1,m2⟩:=dU hi (by rw[h];decide);obtain⟨x,y,z⟩:=nI d m1 trivial;refine bU.succ (bU.mo (ih m1 trivial) (ij s) λF n h1 hF=>?_);show mw s _ (cM F (aX F n) (bD F n) (aL F n) (bS F n) (bK F n) s (kd s i) (po s i) (tx s i));unfold cM wx;have hk:=(CJ s i hi (by rw[h];decide)).1;have h1:aX F n s _ _ _=_:=h1;rw[zk hl hi hF de h,hk];simp only[aC,sm];rw[h1];simp only[aC,sm];rw[zk hl y hF de h2];simp only[aC,sm,d5.eta];rfl
abbrev RR:=d5×Bs×Int×Int×Int
abbrev SR:=Bs×Int×Int×Int×Int×Int×Bs×(J d5)
def lQ(s:Bs):w5->O RR->Prop|.ok e j,x=>∃a:Nat,a<=Sx s/\skip s a=skip s j/\x=iN (e,s,(a:Int),0,0)|.err p c,x=>c≠0/\∃(e:d5)(a:Nat),a<=Sx s/\x=iN (e,s,(a:Int),c,(p:Int))
def tT(F:Nat)(r:Int->Bs->Int->Int->Int->O RR)(l:Int):(SR->O RR)->SR->O RR:=
 (λkP x3=>
 cond (x3.2.2.1==0)
 ((iJ F x3.1 x3.2.1 x3.2.2.1 x3.2.2.2.1).bind λx5=>
 (mu F x5.1 l).bind λx6=>
 cond (x6==0)
 (iN ((d5.mk ((d5.mk x3.2.2.2.2.1 x3.2.2.2.2.2.1 x3.2.2.2.2.2.2.1 x3.2.2.2.2.2.2.2).fOp) ((d5.mk x3.2.2.2.2.1 x3.2.2.2.2.2.1 x3.2.2.2.2.2.2.1 x3.2.2.2.2.2.2.2).fN) ((d5.mk x3.2.2.2.2.1 x3.2.2.2.2.2.1 x3.2.2.2.2.2.2.1 x3.2.2.2.2.2.2.2).fName) ((d5.mk x3.2.2.2.2.1 x3.2.2.2.2.2.1 x3.2.2.2.2.2.2.1 x3.2.2.2.2.2.2.2).fKids)),x5.2.1,x5.2.2.1,x5.2.2.2.1,x5.2.2.2.2))
 ((r (aE (l+1)) x5.2.1 (aE (x5.2.2.1+(Sx x5.1:Int))) x5.2.2.2.1 x5.2.2.2.2).bind λx7=>
 kP (x7.2.1,x7.2.2.1,x7.2.2.2.1,x7.2.2.2.2,(d5.mk x6 0 [] ([(d5.mk x3.2.2.2.2.1 x3.2.2.2.2.2.1 x3.2.2.2.2.2.2.1 x3.2.2.2.2.2.2.2),x7.1]:J d5)).fOp,(d5.mk x6 0 [] ([(d5.mk x3.2.2.2.2.1 x3.2.2.2.2.2.1 x3.2.2.2.2.2.2.1 x3.2.2.2.2.2.2.2),x7.1]:J d5)).fN,(d5.mk x6 0 [] ([(d5.mk x3.2.2.2.2.1 x3.2.2.2.2.2.1 x3.2.2.2.2.2.2.1 x3.2.2.2.2.2.2.2),x7.1]:J d5)).fName,(d5.mk x6 0 [] ([(d5.mk x3.2.2.2.2.1 x3.2.2.2.2.2.1 x3.2.2.2.2.2.2.1 x3.2.2.2.2.2.2.2),x7.1]:J d5)).fKids)))
 (iN ((d5.mk ((d5.mk x3.2.2.2.2.1 x3.2.2.2.2.2.1 x3.2.2.2.2.2.2.1 x3.2.2.2.2.2.2.2).fOp) ((d5.mk x3.2.2.2.2.1 x3.2.2.2.2.2.1 x3.2.2.2.2.2.2.1 x3.2.2.2.2.2.2.2).fN) ((d5.mk x3.2.2.2.2.1 x3.2.2.2.2.2.1 x3.2.2.2.2.2.2.1 x3.2.2.2.2.2.2.2).fName) ((d5.mk x3.2.2.2.2.1 x3.2.2.2.2.2.1 x3.2.2.2.2.2.2.1 x3.2.2.2.2.2.2.2).fKids)),x3.1,x3.2.1,x3.2.2.1,x3.2.2.2.1)))
variable{a:Nat}
section
variable (h : skip s a = skip s i)
include h
theorem jD:sy s a=sy s i:=by unfold sy;rw[h]
theorem HX:kd s a=kd s i:=by unfold kd vA;rw[h]
theorem Bx:tx s a=tx s i:=by unfold tx vA;rw[h]
theorem lD:nx s a=nx s i:=by unfold nx;rw[h,Bx h]
theorem N7:jY s a=jY s i:=by unfold jY;rw[HX h,lD h]
end
theorem ag1:∀x,x∈([]::qH)->uC x=-1\/0<=uC x:=by decide
theorem alF:∀n:Fin 256,dg (lL n.val)=eQ->le (lL n.val)=eK:=by decide +kernel
def ajB(b:UInt8):dg b=eQ->le b=eK:=Ve (P:=λb=>dg b=eQ->le b=eK) alF b
theorem I5(X:O RR):(X.bind λx=>iN ((d5.mk x.1.fOp x.1.fN x.1.fName x.1.fKids),x.2.1,x.2.2.1,x.2.2.2.1,x.2.2.2.2))=X:=by cases X with|none=>rfl|some y=>simp_all
section
variable (hl : s.length <= 1000000) (hi : a <= s.length) (hF : s.length + 60 <= F)
include hl hi hF
theorem Af(hx:x≠[])(h:sy s a=x):iY F x s (a:Int) 0 0=iN (eQ,s,(nx s a:Int),0,0):=by
 unfold iY wx;rw[oH F s a 0 0 hi om hl];obtain⟨m1,m2⟩:=dU hi (by rw[h];exact hx);have e:sy s a=oX (s.drop (skip s a)):=rfl;have e2:nx s a=skip s a+Sx x:=by unfold nx;simp_all[CJ]
 grind[bQ]
theorem acd(h:sy s a≠x):iY F x s (a:Int) 0 0=iN (eK,s,(skip s a:Int),0,0):=by unfold iY wx;rw[oH F s a 0 0 hi om hl];have e:sy s a=oX (s.drop (skip s a)):=rfl;grind
omit hl hi hF in
theorem Rx{at' c p:Int}(hc:c≠0):iY F x s at' c p=iN (eK,s,at',c,p):=by
 unfold iY wx;have:(c != 0)=eQ:=by simpa using hc
 rw[this];rfl
omit hl hi hF in
theorem Vh{at' c p c' p':Int}(hc:c≠0):gN F c' p' s at' c p=iN (s,at',c,p):=by
 unfold gN wx;have:(c==0)=eK:=by simpa using hc
 rw[this];rfl
theorem Iv(rs rc:Bs->Int->Int->Int->O RR)(rl:Int->Bs->Int->Int->Int->O RR)(ru rp:Bs->Int->Int->Int->O RR)(e pos:Int):
  jC F rs rc rl ru rp s (a:Int) e pos=cond (jY s a == -1) (rc s (skip s a:Int) e pos)
   ((rs s (nx s (nx s a):Int) (cond (rName (tx s a)) e (cond (e==0) 10 e)) (cond (rName (tx s a)) pos (cond (e==0) (skip s a:Int) pos))).bind λx=>iN (.mk 26 (jY s a) (tx s a) [x.1],x.2.1,x.2.2.1,x.2.2.2.1,x.2.2.2.2)):=by
 obtain⟨s1,s2⟩:=iS s a hi;unfold jC wx;rw[uW F s a e pos hi om hl];simp only[aC];rw[NZ F s _ e pos s1 om hl];simp only[aC];have hno:∀X:O ((Bs×Int×Int×Int) ⊕ RR),X=iN (.inl (s,(skip s a:Int),e,pos))->jY s a=-1 ->
   (jj (σ:=Bs×Int×Int×Int) (R:=RR) X λx3=>(rc x3.1 x3.2.1 x3.2.2.1 x3.2.2.2).bind λga=>iN ((d5.mk ga.1.fOp ga.1.fN ga.1.fName ga.1.fKids),ga.2.1,ga.2.2.1,ga.2.2.2.1,ga.2.2.2.2))=rc s (skip s a:Int) e pos:=by
  intro X hX _;rw[hX];show(rc s (skip s a:Int) e pos).bind _=_;exact I5 _
 have hk2:kd s a≠2->jY s a=-1:=by
  intro hk;unfold jY;have:(kd s a==2)=eK:=by rw[eG];exact hk
  rw[this];rfl
 rcases nH s a hi with⟨h',_,hw,_⟩|⟨w,b,h',_,hw,hd,hl'⟩|⟨w,b,h',hs,hw,hd,hl'⟩|⟨x',h',_,hw,hm,_⟩|⟨b,h',_,hw,_⟩
 .have ha:=hk2 (by unfold kd;rw[h'];simp);rw[hno _ (by rw[hw];rfl) ha,ha];rfl
 .have ha:=hk2 (by unfold kd;rw[h'];simp)
  rw[hno _ (by
   rw[hw];have hp:eJ (0<(Sx (b::w):Int))=eQ:=eT (by simp only[sB];omega);show(((rq (eJ (0<(Sx (b::w):Int))) ((pz F (b.toNat:Int)).bind λx5=>iN x5)):O Bool).bind _)=_;rw[hp,yo,ajB b hd];rfl) ha,ha]
  rfl
 .have hk:kd s a=2:=by unfold kd;rw[h']
  have ht:tx s a=b::w:=by unfold tx;rw[h']
  obtain⟨m1,m2,_⟩:=lU s a hi;have hn:(skip s a:Int)+(Sx (b::w):Int)=(nx s a:Int):=by unfold nx;rw[ht];omega
  have has:jY s a=uC (sy s (nx s a)):=by unfold jY;rw[hk];rfl
  rw[hw];have hp:eJ (0<(Sx (b::w):Int))=eQ:=eT (by simp only[sB];omega);have hne:(!((b::w)==[]))=eQ:=rfl;simp only[hne,aQ,hp,iz,SF,yo,hd,aC,hn];rw[bQ (x:=(nx s a:Int)) om,oH F s (nx s a) e pos m1 om hl];simp only[aC];rw[show oX (s.drop (skip s (nx s a)))=sy s (nx s a)from rfl];have avS:tf F (sy s (nx s a))=iN (uC (sy s (nx s a))):=by obtain⟨G,rfl⟩:∃G,F=G+20:=⟨F-20,om⟩;exact(Ae s (nx s a)).asr G
  rw[avS];simp only[aC];rcases ag1 _ (Ru s (nx s a))with hz|hz
  .rw[has,hz];show(rc s (skip s a:Int) e pos).bind _=_;exact I5 _
  .have hz1:(uC (sy s (nx s a)) == -1)=eK:=by rw[eG];omega
   obtain⟨_,_,m3,_⟩:=yu hi (by rw[has];omega);have hx:=aep (x:=sy s (nx s a)) om;have hnn:(skip s (nx s a):Int)+(Sx (sy s (nx s a)):Int)=(nx s (nx s a):Int):=by have h2:=(CJ s _ m1 hx).2;have h3:nx s (nx s a)=skip s (nx s a)+Sx (tx s (nx s a)):=rfl;rw[h3,h2];omega
   rw[has,hz1,eT hz,Ax F _ om,ht];simp only[aC,aQ,aI];cases hr:rName (b::w)with
   | true=>simp only[fU,aI,aQ,aC,hnn];rw[bQ (x:=(nx s (nx s a):Int)) om];cases rs s (nx s (nx s a):Int) e pos<;>rfl
   | false=>
    unfold gN wx;cases he:(e==0)with
    | true=>simp only[nu,aI,aQ,aC,hnn];rw[bQ (x:=(nx s (nx s a):Int)) om];cases rs s (nx s (nx s a):Int) 10 (skip s a:Int)<;>rfl
    | false=>simp only[nu,aI,aQ,aC,hnn];rw[bQ (x:=(nx s (nx s a):Int)) om];cases rs s (nx s (nx s a):Int) e pos<;>rfl
 .have ha:=hk2 (by unfold kd;rw[h'];simp);rw[hno _ (by rw[hw];rfl) ha,ha];rfl
 .have ha:=hk2 (by unfold kd;rw[h'];simp);rw[hno _ (by rw[hw];rfl) ha,ha];rfl
end
theorem aqD(G:Nat)(x:Bs)(k:Int->O RR)(z:O RR):ck (σ:=Int) (λiw x2=>
   (cond (eJ (x2<=6)) (iN ((0:Int)==0)) (iN eK):O Bool).bind λx4=>cond x4 ((Hs (G+10) x2).bind λx5=>cond (x==x5) (k x2) (iw (aE (x2+1)))) z) (G+10) 3 =
  cond (x==[45]) (k 3) (cond (x==[43]) (k 4) (cond (x==[33]) (k 5) (cond (x==[126]) (k 6) z))):=by kernel_rfl
section
variable (hl : s.length <= 1000000) (hi : a <= s.length) (hF : s.length + 60 <= F)
include hl hi hF
theorem ajC(rs rc:Bs->Int->Int->Int->O RR)(rl:Int->Bs->Int->Int->Int->O RR)(ru rp:Bs->Int->Int->Int->O RR):
  gW F rs rc rl ru rp s (a:Int) 0 0=cond (vZ (sy s a)==0) (rp s (skip s a:Int) 0 0)
   ((ru s (nx s a:Int) 0 0).bind λx=>iN (.mk (vZ (sy s a)) 0 [] [x.1],x.2.1,x.2.2.1,x.2.2.2.1,x.2.2.2.2)):=by
 unfold gW wx;rw[oH F s a 0 0 hi om hl];obtain⟨G,rfl⟩:∃G,F=G+10:=⟨F-10,om⟩;have key:=aqD G (sy s a) (λx2=>(ru s (aE ((skip s a:Int)+(Sx (sy s a):Int))) 0 0).bind λx6=>iN ((d5.mk ((d5.mk x2 0 [] ([x6.1]:J d5)).fOp) ((d5.mk x2 0 [] ([x6.1]:J d5)).fN) ((d5.mk x2 0 [] ([x6.1]:J d5)).fName) ((d5.mk x2 0 [] ([x6.1]:J d5)).fKids)),x6.2.1,x6.2.2.1,x6.2.2.2.1,x6.2.2.2.2))
  ((rp s (skip s a:Int) 0 0).bind λx7=>iN ((d5.mk x7.1.fOp x7.1.fN x7.1.fName x7.1.fKids),x7.2.1,x7.2.2.1,x7.2.2.2.1,x7.2.2.2.2))
 refine key.trans ?_;rw[I5];by_cases hu:vZ (sy s a)=0
 .have hu':(vZ (sy s a)==0)=eQ:=by simpa using hu
  unfold vZ at hu;grind
 .have hu':(vZ (sy s a)==0)=eK:=by simp_all
  obtain⟨m1,m2⟩:=dU hi (Bw hu);have hn:(skip s a:Int)+(Sx (sy s a):Int)=(nx s a:Int):=by have h2:=(CJ s a hi (Bw hu)).2;have h3:nx s a=skip s a+Sx (tx s a):=rfl;rw[h3,h2];omega
  rw[hn,bQ om];unfold vZ at hu⊢;revert hu;cases (sy s a==[45])<;>cases (sy s a==[43])<;>cases (sy s a==[33])<;>cases (sy s a==[126])<;>intro hu<;>first|rfl|(simp at hu;done)
theorem aoe(rs rc:Bs->Int->Int->Int->O RR)(rl:Int->Bs->Int->Int->Int->O RR)(ru rp:Bs->Int->Int->Int->O RR){c p:Int}(hc:c≠0):
  gW F rs rc rl ru rp s (a:Int) c p=rp s (skip s a:Int) c p:=by
 unfold gW wx;rw[oH F s a c p hi om hl];obtain⟨G,rfl⟩:∃G,F=G+1:=⟨F-1,om⟩;grind[ck,I5]
theorem ajD(rs rc:Bs->Int->Int->Int->O RR)(rl:Int->Bs->Int->Int->Int->O RR)(ru rp:Bs->Int->Int->Int->O RR){c p:Int}(hc:c≠0):
  cV F rs rc rl ru rp s (a:Int) c p=iN (.mk 0 0 [] [],s,(skip s a:Int),c,p):=by
 unfold cV wx;rw[Rx hc];simp only[aC];obtain⟨s1,s2⟩:=iS s a hi;rw[uW F s a c p hi om hl];simp only[aC];rw[NZ F s _ c p s1 om hl];have tM:(c != 0)=eQ:=by simpa using hc
 simp only[tM];rfl
end
def EU(s:Bs)(x:O RR)(c p:Int):Prop:=∃(e:d5)(a:Nat),a<=Sx s/\x=iN (e,s,(a:Int),c,p)
def aqE(hl:Sx s<=1000000):bU λF n=>∀a,a<=Sx s->∀c p,c≠0->EU s (bq F n s ((a:Nat):Int) c p) c p:=bU.succ ((ij s).mono λF n hF a hi c p hc=>⟨_,skip s a,(iS s a hi).1,ajD hl hi hF (bG F n) (bE F n) (aU F n) (bB F n) (bq F n) hc⟩)
theorem auF(hl:Sx s<=1000000):bU λF n=>∀a,a<=Sx s->∀c p,c≠0->EU s (bB F n s ((a:Nat):Int) c p) c p:=
 bU.succ ((ij s).mo (aqE hl) λF n hF h a hi c p hc=>by
  show EU s (gW F (bG F n) (bE F n) (aU F n) (bB F n) (bq F n) s (a:Int) c p) c p
  simp_all[aoe,iS])
theorem Ls(F:Nat)(rs rc:Bs->Int->Int->Int->O RR)(rl:Int->Bs->Int->Int->Int->O RR)(ru rp:Bs->Int->Int->Int->O RR)(l:Int)(h3:3<=l)(hl:l<=12)(s:Bs)(at' c p:Int):
  gq F rs rc rl ru rp l s at' c p=(rl (l+1) s at' c p).bind λx2=>ck (tT F rl l) F (x2.2.1,x2.2.2.1,x2.2.2.2.1,x2.2.2.2.2,x2.1.fOp,x2.1.fN,x2.1.fName,x2.1.fKids):=by
 unfold gq tT wx;grind[decide_eq_false,bQ]
theorem Uu(F:Nat)(rs rc:Bs->Int->Int->Int->O RR)(rl:Int->Bs->Int->Int->Int->O RR)(ru rp:Bs->Int->Int->Int->O RR)(l:Int)(hl:12<l)(s:Bs)(at' c p:Int):
  gq F rs rc rl ru rp l s at' c p=ru s at' c p:=by
 unfold gq wx;grind[decide_eq_true,I5]
theorem Vi(F:Nat)(r:Int->Bs->Int->Int->Int->O RR)(l:Int)(m:Nat)(s:Bs)(at' c p:Int)(a:d5)(hc:c≠0):ck (tT F r l) (m+1) (s,at',c,p,a.fOp,a.fN,a.fName,a.fKids)=iN (a,s,at',c,p):=by
 have tM:(c==0)=eK:=by simpa using hc
 show tT F r l (ck (tT F r l) m) _=_;unfold tT;simp[tM]
theorem aer{s:Bs}(hl:Sx s<=1000000):∀(k:Nat)(l:Int),l+k=13->3<=l->bU λF n=>∀a,a<=Sx s->∀c p,c≠0->EU s (aU F n l s ((a:Nat):Int) c p) c p
 | 0,l,hk,h3=>bU.succ ((auF hl).mono λF n h a hi c p hc=>by
   show EU s (gq F (bG F n) (bE F n) (aU F n) (bB F n) (bq F n) l s (a:Int) c p) c p
   simp_all[Uu])
 | k+1,l,hk,h3=>bU.succ ((ij s).mo (aer hl k (l+1) om om) λF n hF h a hi c p hc=>by
   show EU s (gq F (bG F n) (bE F n) (aU F n) (bB F n) (bq F n) l s (a:Int) c p) c p;rw[Ls F _ _ _ _ _ l h3 om];obtain⟨e,a',hU,hx⟩:=h a hi c p hc;obtain⟨G,rfl⟩:∃G,F=G+1:=⟨F-1,om⟩
   grind[Vi])
theorem aqF(hl:Sx s<=1000000):bU λF n=>∀a,a<=Sx s->∀c p,c≠0->EU s (bE F n s ((a:Nat):Int) c p) c p:=
 bU.succ ((aer hl 10 3 de de).mono λF n h a hi c p hc=>by
  show EU s (dQ F (bG F n) (bE F n) (aU F n) (bB F n) (bq F n) s (a:Int) c p) c p;unfold dQ wx;obtain⟨e,a',hU,hx⟩:=h a hi c p hc;rw[hx];simp;rw[Rx hc];exact⟨_,a',hU,rfl⟩)
theorem alG{s:Bs}(hl:Sx s<=1000000):∀k:Nat,bU λF n=>∀a,a<=Sx s->Sx s-a<k->∀c p,c≠0->EU s (bG F n s ((a:Nat):Int) c p) c p
 | 0=>bU.of λF n a _ h=>by omega|k+1=>bU.succ ((ij s).Eb (aqF hl) (alG hl k) λF n hF h1 h2 a hi hk c p hc=>by
   show EU s (jC F (bG F n) (bE F n) (aU F n) (bB F n) (bq F n) s (a:Int) c p) c p;rw[Iv hl hi hF];cases ha:(jY s a == -1)with
   | true=>simp_all[iS]|false=>
    have tM:(c==0)=eK:=by simpa using hc
    obtain⟨_,_,m1,m2⟩:=yu hi (by simp_all);simp only[aI,tM];have e1:cond (rName (tx s a)) c c=c:=by simp_all
    have e2:cond (rName (tx s a)) p p=p:=by simp_all
    rw[e1,e2];obtain⟨e,a',hU,hx⟩:=h2 _ m1 om c p hc;rw[hx];exact⟨_,a',hU,rfl⟩)
def StR(s:Bs):Zb->Nat->w5->Prop|.expr,i,r=>bU λF n=>∀a,a<=Sx s->skip s a=skip s i->lQ s r (bG F n s ((a:Nat):Int) 0 0)|.cond,i,r=>bU λF n=>∀a,a<=Sx s->skip s a=skip s i->lQ s r (bE F n s ((a:Nat):Int) 0 0)|.level l,i,r=>bU λF n=>∀a,a<=Sx s->skip s a=skip s i->lQ s r (aU F n l s ((a:Nat):Int) 0 0)|.loop l b,i,r=>∃N,∀F n m,N<=F->N<=n->N<=m->∀a,a<=Sx s->skip s a=skip s i->lQ s r (ck (tT F (aU F n) l) m (s,((a:Nat):Int),0,0,b.fOp,b.fN,b.fName,b.fKids))|.un,i,r=>bU λF n=>∀a,a<=Sx s->skip s a=skip s i->lQ s r (bB F n s ((a:Nat):Int) 0 0)|.pE,i,r=>bU λF n=>∀a,a<=Sx s->skip s a=skip s i->lQ s r (bq F n s ((a:Nat):Int) 0 0)
def asS(s:Bs):w5->Prop|.ok _ j=>j<=Sx s|.err _ c=>c≠0
theorem Fp{c:Zb}(d:RD s c i r):i<=Sx s->asS s r:=by
 have nb:∀ {i:Nat},i<=Sx s->nx s i<=Sx s:=λh=>(lU s _ h).1
 induction d with
 | CK h d ih=>exact ih|CM h hn=>intro _;exact(show(10:Int)≠0 by decide)
 | He h hn d ih=>intro hi;exact ih (nb (nb hi))|Hf h hn d ih=>grind|Hg d ih=>exact ih|Hh d h ih=>exact ih|Hi d h d2 ih ih2=>intro hi;exact ih2 (nb (ih hi))|Hj d h d2 h2 ih ih2=>intro _;exact(show(6:Int)≠0 by decide)
 | N3 d h d2 h2 d3 ih ih2 ih3=>intro hi;exact ih3 (nb (ih2 (nb (ih hi))))|Hl d h d2 h2 d3 ih ih2 ih3=>intro hi;exact ih3 (nb (ih2 (nb (ih hi))))|ajz hl d ih=>exact ih|ab9 h3 hl d ih=>exact ih|aoc h3 hl d d2 ih ih2=>intro hi;exact ih2 (ih hi)|yq h=>exact id|ET h d ih=>simp_all|I3 h d d2 ih ih2=>intro hi;exact ih2 (ih (nb hi))|CN h d ih=>exact ih|Ho h d ih=>simp_all|N4 h d ih=>intro hi;exact ih (nb hi)|Hp h hv=>exact nb|CO h hv=>intro _;exact hv|Hq h hv=>exact nb|CP h hv=>intro _;exact(show(10:Int)≠0 by decide)
 | Hr h1 h2 h=>intro _;exact(show(6:Int)≠0 by decide)
 | N5 h d ih=>simp_all|zj h d h2 ih=>intro _;exact(show(6:Int)≠0 by decide)
 | N6 h d h2 ih=>intro hi;exact nb (ih (nb hi))
theorem Fq(hl:Sx s<=1000000)(hi:a<=Sx s)(hF:Sx s+60<=F)(h:sy s a≠[40])(rs rc:Bs->Int->Int->Int->O RR)(rl:Int->Bs->Int->Int->Int->O RR)(ru rp:Bs->Int->Int->Int->O RR):
  cV F rs rc rl ru rp s (a:Int) 0 0=cond (mF s (skip s a)==[]) (iN (.mk 0 0 [] [],s,(skip s a:Int),6,(skip s a:Int)))
   (rq (eJ (0<(Sx (mF s (skip s a)):Int))) ((pz F (((mF s (skip s a)).getD 0 0).toNat:Int)).bind λx8=>
    cond x8 (cond (rName (mF s (skip s a))) (iN (.mk 2 0 (mF s (skip s a)) [],s,aE ((skip s a:Int)+(Sx (mF s (skip s a)):Int)),0,0)) (iN (.mk 2 0 (mF s (skip s a)) [],s,aE ((skip s a:Int)+(Sx (mF s (skip s a)):Int)),10,(skip s a:Int))))
     ((mV F (mF s (skip s a))).bind λfZ=>cond (cond (fZ.2==0&&eJ (9223372036854775807<fZ.1)) 14 fZ.2 != 0)
       (iN (.mk 0 0 [] [],s,(skip s a:Int),cond (fZ.2==0&&eJ (9223372036854775807<fZ.1)) 14 fZ.2,(skip s a:Int)))
       (iN (.mk 1 (aE fZ.1) [] [],s,aE ((skip s a:Int)+(Sx (mF s (skip s a)):Int)),0,0))))):=by
 obtain⟨s1,s2⟩:=iS s a hi;unfold cV wx;rw[acd hl hi hF h];simp only[aC];rw[uW F s (skip s a) 0 0 s1 om hl,ym];simp only[aC];rw[NZ F s _ 0 0 s1 om hl];simp only[aC];generalize mF s (skip s a)=w;rw[Ax F w om];cases (w==[])with
 | true=>rfl|false=>
  simp;congr 1;congr 1;funext x8;cases x8 with
  | true=>cases rName w<;>rfl
  | false=>
   simp;congr 1;funext fZ;cases (fZ.2==0)with
   | false=>simp;cases (fZ.2 != 0)<;>rfl
   | true=>
    cases eJ (9223372036854775807<fZ.1)with
    | false=>simp;cases (fZ.2 != 0)<;>rfl
    | true=>rfl
theorem ag2(hl:Sx s<=1000000)(hi:a<=Sx s)(hF:Sx s+60<=F){l:Int}(h3:3<=l)(hlv:nV s a=l)(awL:l<=12)(r:Int->Bs->Int->Int->Int->O RR)(rc:SR->O RR)(e:d5):
  tT F r l rc (s,(a:Int),0,0,e.fOp,e.fN,e.fName,e.fKids)=(r (l+1) s (nx s a:Int) 0 0).bind λx7=>rc (x7.2.1,x7.2.2.1,x7.2.2.2.1,x7.2.2.2.2,(gV (sy s a)).2,0,[],[e,x7.1]):=by
 have hne:=AZ (l:=l) om (by show l<=nV s a;omega);obtain⟨m1,m2⟩:=dU hi hne;have hn:(skip s a:Int)+(Sx (sy s a):Int)=(nx s a:Int):=by have h2:=(CJ s a hi hne).2;have h3:nx s a=skip s a+Sx (tx s a):=rfl;rw[h3,h2];omega
 have hop:=(Ae s a).op (show nV s a≠0 by omega);have aof:mu F (sy s a) l=iN (gV (sy s a)).2:=by obtain⟨G,rfl⟩:∃G,F=G+20:=⟨F-20,om⟩;rw[(Ae s a).bir,show((gV (sy s a)).1==l)=eQ by simp_all];rfl
 unfold tT;rw[oH F s a 0 0 hi om hl];simp;rw[show oX (s.drop (skip s a))=sy s a from rfl,aof];have hz:((gV (sy s a)).2==0)=eK:=by grind
 simp[hz,hn];rw[bQ (x:=(nx s a:Int)) om,bQ om];rfl
def Zb.ok:Zb->Prop|.loop l _=>3<=l/\l<=12|_=>True
theorem XI(x:Bs)(h:(qh x).2=0):0<=(qh x).1/\(qh x).1<=9223372036854775807:=by
 unfold qh at h⊢;cases hb:((mC x).2==[])with
 | true=>rw[hb]at h;cases h
 | false=>unfold rL at h⊢;grind
theorem avT(hl:Sx s<=1000000){c:Zb}(d:RD s c i r):i<=Sx s->c.ok->StR s c i r:=by
 have nb:∀ {i:Nat},i<=Sx s->nx s i<=Sx s:=λh=>(lU s _ h).1
 induction d with
 | @CK i r h d ih=>intro hi hok;refine bU.succ (bU.mo (ih hi trivial) (ij s) λF n h1 hF a ha hs=>?_);show lQ s r (jC F (bG F n) (bE F n) (aU F n) (bB F n) (bq F n) s (a:Int) 0 0);grind[Iv,N7,iS,ym]
 | @CM i h hn=>
  intro hi hok;refine bU.succ (bU.mo (alG hl (Sx s+1)) (ij s) λF n h1 hF a ha hs=>?_);show lQ s _ (jC F (bG F n) (bE F n) (aU F n) (bB F n) (bq F n) s (a:Int) 0 0);have hb:(jY s i == -1)=eK:=by simp_all
  rw[Iv hl ha hF,N7 hs,hb,Bx hs,hn,hs];simp only[aI,Ic,aQ];obtain⟨e,a',hU,hx⟩:=h1 (nx s (nx s a)) (nb (nb ha)) om 10 (skip s i:Int) de;rw[hx];exact⟨by decide,_,a',hU,rfl⟩
 | @He i j e h hn d ih=>
  intro hi hok;refine bU.succ (bU.mo (ih (nb (nb hi)) trivial) (ij s) λF n h1 hF a ha hs=>?_);show lQ s _ (jC F (bG F n) (bE F n) (aU F n) (bB F n) (bq F n) s (a:Int) 0 0);have hb:(jY s i == -1)=eK:=by simp_all
  rw[Iv hl ha hF,N7 hs,hb,Bx hs,hn,lD hs];simp only[aI,aQ];obtain⟨a',hU,hs',hx⟩:=h1 (nx s (nx s i)) (nb (nb hi)) rfl;rw[hx];exact⟨a',hU,hs',rfl⟩
 | @Hf i p c h hn d ih=>
  intro hi hok;refine bU.succ (bU.mo (ih (nb (nb hi)) trivial) (ij s) λF n h1 hF a ha hs=>?_);show lQ s _ (jC F (bG F n) (bE F n) (aU F n) (bB F n) (bq F n) s (a:Int) 0 0);have hb:(jY s i == -1)=eK:=by simp_all
  rw[Iv hl ha hF,N7 hs,hb,Bx hs,hn,lD hs];simp only[aI,aQ];obtain⟨hc,e,a',hU,hx⟩:=h1 (nx s (nx s i)) (nb (nb hi)) rfl;rw[hx];exact⟨hc,_,a',hU,rfl⟩
 | @Hg i p c d ih=>intro hi hok;refine bU.succ (bU.mono (ih hi trivial) λF n h1 a ha hs=>?_);show lQ s _ (dQ F (bG F n) (bE F n) (aU F n) (bB F n) (bq F n) s (a:Int) 0 0);unfold dQ wx;obtain⟨hc,e,a',hU,hx⟩:=h1 a ha hs;rw[hx];simp only[aC];rw[Rx hc];exact⟨hc,_,a',hU,rfl⟩
 | @Hh i j e d h ih=>intro hi hok;refine bU.succ (bU.mo (ih hi trivial) (ij s) λF n h1 hF a ha hs=>?_);show lQ s _ (dQ F (bG F n) (bE F n) (aU F n) (bB F n) (bq F n) s (a:Int) 0 0);unfold dQ wx;obtain⟨a',hU,hs',hx⟩:=h1 a ha hs;rw[hx];simp only[aC];rw[acd hl hU hF (by rw[jD hs'];exact h)];simp only[aC,nu,aQ,d5.eta];exact⟨skip s a',(iS s a' hU).1,(ym s a').trans hs',rfl⟩
 | @Hi i j p c e d h d2 ih ih2=>intro hi hok;have hj:j<=Sx s:=Fp d hi;refine bU.succ (bU.Eb (ih hi trivial) (ih2 (nb hj) trivial) (ij s) λF n h1 h2 hF a ha hs=>?_);show lQ s _ (dQ F (bG F n) (bE F n) (aU F n) (bB F n) (bq F n) s (a:Int) 0 0);unfold dQ wx;obtain⟨a',hU,hs',hx⟩:=h1 a ha hs;rw[hx];simp only[aC];rw[Af hl hU hF de (by rw[jD hs'];exact h),lD hs'];simp only[aC,fU,aI];obtain⟨hc,e2,a2,tY,hx2⟩:=h2 _ (nb hj) rfl;rw[hx2];simp only[aC];rw[Rx hc];simp only[aC,nu,aQ];rw[Vh hc];exact⟨hc,_,a2,tY,rfl⟩
 | @Hj i j k e e2 d h d2 h2 ih ih2=>intro hi hok;have hj:j<=Sx s:=Fp d hi;refine bU.succ (bU.Eb (ih hi trivial) (ih2 (nb hj) trivial) (ij s) λF n h1 h3 hF a ha hs=>?_);show lQ s _ (dQ F (bG F n) (bE F n) (aU F n) (bB F n) (bq F n) s (a:Int) 0 0);unfold dQ wx;obtain⟨a',hU,hs',hx⟩:=h1 a ha hs;rw[hx];simp only[aC];rw[Af hl hU hF de (by rw[jD hs'];exact h),lD hs'];simp only[aC,fU,aI];obtain⟨a2,tY,hs2,hx2⟩:=h3 _ (nb hj) rfl;rw[hx2];simp only[aC];rw[acd hl tY hF (by rw[jD hs2];exact h2),hs2];exact⟨by decide,_,skip s k,(by rw[<-hs2];exact(iS s a2 tY).1),rfl⟩
 | @N3 i j k p c e e2 d h d2 h2 d3 ih ih2 ih3=>intro hi hok;have hj:j<=Sx s:=Fp d hi;have hk:k<=Sx s:=Fp d2 (nb hj);refine bU.succ (bU.Eb ((ih hi trivial).and (ih3 (nb hk) trivial)) (ih2 (nb hj) trivial) (ij s) λF n h1 h3 hF a ha hs=>?_);obtain⟨h1,h4⟩:=h1;show lQ s _ (dQ F (bG F n) (bE F n) (aU F n) (bB F n) (bq F n) s (a:Int) 0 0);unfold dQ wx;obtain⟨a',hU,hs',hx⟩:=h1 a ha hs;rw[hx];simp only[aC];rw[Af hl hU hF de (by rw[jD hs'];exact h),lD hs'];simp only[aC,fU,aI];obtain⟨a2,tY,hs2,hx2⟩:=h3 _ (nb hj) rfl;rw[hx2];simp only[aC];rw[Af hl tY hF de (by rw[jD hs2];exact h2),lD hs2];simp only[aC,fU,aI];obtain⟨hc,e4,a4,ha4,hx4⟩:=h4 _ (nb hk) rfl;rw[hx4];exact⟨hc,_,a4,ha4,rfl⟩
 | @Hl i j k m e e2 e3 d h d2 h2 d3 ih ih2 ih3=>intro hi hok;have hj:j<=Sx s:=Fp d hi;have hk:k<=Sx s:=Fp d2 (nb hj);refine bU.succ (bU.Eb ((ih hi trivial).and (ih3 (nb hk) trivial)) (ih2 (nb hj) trivial) (ij s) λF n h1 h3 hF a ha hs=>?_);obtain⟨h1,h4⟩:=h1;show lQ s _ (dQ F (bG F n) (bE F n) (aU F n) (bB F n) (bq F n) s (a:Int) 0 0);unfold dQ wx;obtain⟨a',hU,hs',hx⟩:=h1 a ha hs;rw[hx];simp only[aC];rw[Af hl hU hF de (by rw[jD hs'];exact h),lD hs'];simp only[aC,fU,aI];obtain⟨a2,tY,hs2,hx2⟩:=h3 _ (nb hj) rfl;rw[hx2];simp only[aC];rw[Af hl tY hF de (by rw[jD hs2];exact h2),lD hs2];simp only[aC,fU,aI];obtain⟨a4,ha4,hs4,hx4⟩:=h4 _ (nb hk) rfl;rw[hx4];simp only[aC,d5.eta];exact⟨a4,ha4,hs4,rfl⟩
 | @ajz l i r hv d ih=>intro hi hok;refine bU.succ (bU.mono (ih hi trivial) λF n h1 a ha hs=>?_);show lQ s _ (gq F (bG F n) (bE F n) (aU F n) (bB F n) (bq F n) l s (a:Int) 0 0);simp_all[Uu]
 | @ab9 l i p c h3 hv d ih=>intro hi hok;refine bU.succ (bU.mo (ih hi trivial) (ij s) λF n h1 hF a ha hs=>?_);show lQ s _ (gq F (bG F n) (bE F n) (aU F n) (bB F n) (bq F n) l s (a:Int) 0 0);rw[Ls F _ _ _ _ _ l h3 hv];obtain⟨hc,e,a',hU,hx⟩:=h1 a ha hs;rw[hx];obtain⟨G,rfl⟩:∃G,F=G+1:=⟨F-1,om⟩;grind[Vi]
 | @aoc l i j e r h3 hv d d2 ih ih2=>intro hi hok;have hj:j<=Sx s:=Fp d hi;obtain⟨N,h2⟩:=ih2 hj ⟨h3,hv⟩;refine bU.succ (bU.mo (ih hi trivial) (bU.ge (p:=λF n=>N<=F/\N<=n) N λF n a b=>⟨a,b⟩) λF n h1 hN a ha hs=>?_);show lQ s _ (gq F (bG F n) (bE F n) (aU F n) (bB F n) (bq F n) l s (a:Int) 0 0);rw[Ls F _ _ _ _ _ l h3 hv];obtain⟨a',hU,hs',hx⟩:=h1 a ha hs;simp_all
 | @yq l i e h=>
  intro hi hok;refine⟨Sx s+60,λF n m hF _ hm a ha hs=>?_⟩;cases m with
  | zero=>omega|succ m=>
   show lQ s _ (tT F (aU F n) l (ck (tT F (aU F n) l) m) (s,(a:Int),0,0,e.fOp,e.fN,e.fName,e.fKids));unfold tT;have aof:mu F (sy s a) l=iN 0:=by obtain⟨G,rfl⟩:∃G,F=G+20:=⟨F-20,om⟩;rw[(Ae s a).bir,jD hs,show((gV (sy s i)).1==l)=eK by rw[eG];exact h];rfl
   simp only[Ic,aQ];rw[oH F s a 0 0 ha om hl];simp only[aC];rw[show oX (s.drop (skip s a))=sy s a from rfl,aof];simp only[aC,Ic,aQ,d5.eta];exact⟨skip s a,(iS s a ha).1,(ym s a).trans hs,rfl⟩
 | @ET l i p c e h d ih=>
  intro hi hok;obtain⟨N,h1⟩:=ih (nb hi) trivial;obtain⟨h3,h12⟩:=hok;refine⟨N+Sx s+60,λF n m hF hn hm a ha hs=>?_⟩;cases m with
  | zero=>omega|succ m=>
   cases m with
   | zero=>omega|succ m=>show lQ s _ (tT F (aU F n) l (ck (tT F (aU F n) l) (m+1)) (s,(a:Int),0,0,e.fOp,e.fN,e.fName,e.fKids));rw[ag2 hl ha om h3 (by rw[nV,jD hs];exact h) h12,lD hs,jD hs];obtain⟨hc,e2,a',hU,hx⟩:=h1 F n om om _ (nb hi) rfl;rw[hx];simp only[aC];refine⟨hc,_,a',hU,Vi F (aU F n) l m s (a':Int) c (p:Int) (.mk (gV (sy s i)).2 0 [] [e,e2]) hc⟩
 | @I3 l i j e e2 r h d d2 ih ih2=>
  intro hi hok;have hj:j<=Sx s:=Fp d (nb hi);obtain⟨N,h1⟩:=ih (nb hi) trivial;obtain⟨N2,h2⟩:=ih2 hj hok;obtain⟨h3,h12⟩:=hok;refine⟨N+N2+Sx s+60,λF n m hF hn hm a ha hs=>?_⟩;cases m with
  | zero=>omega|succ m=>show lQ s _ (tT F (aU F n) l (ck (tT F (aU F n) l) m) (s,(a:Int),0,0,e.fOp,e.fN,e.fName,e.fKids));rw[ag2 hl ha om h3 (by rw[nV,jD hs];exact h) h12,lD hs,jD hs];obtain⟨a',hU,hs',hx⟩:=h1 F n om om _ (nb hi) rfl;rw[hx];exact h2 F n m om om om a' hU hs'
 | @CN i r h d ih=>intro hi hok;refine bU.succ (bU.mo (ih hi trivial) (ij s) λF n h1 hF a ha hs=>?_);show lQ s _ (gW F (bG F n) (bE F n) (aU F n) (bB F n) (bq F n) s (a:Int) 0 0);grind[ajC,jD,iS,ym]
 | @Ho i p c h d ih=>
  intro hi hok;refine bU.succ (bU.mo (ih (nb hi) trivial) (ij s) λF n h1 hF a ha hs=>?_);show lQ s _ (gW F (bG F n) (bE F n) (aU F n) (bB F n) (bq F n) s (a:Int) 0 0);have hb:(vZ (sy s i)==0)=eK:=by rw[eG];exact h
  rw[ajC hl ha hF,jD hs,hb,lD hs];obtain⟨hc,e,a',hU,hx⟩:=h1 _ (nb hi) rfl;rw[hx];exact⟨hc,_,a',hU,rfl⟩
 | @N4 i j e h d ih=>
  intro hi hok;refine bU.succ (bU.mo (ih (nb hi) trivial) (ij s) λF n h1 hF a ha hs=>?_);show lQ s _ (gW F (bG F n) (bE F n) (aU F n) (bB F n) (bq F n) s (a:Int) 0 0);have hb:(vZ (sy s i)==0)=eK:=by rw[eG];exact h
  rw[ajC hl ha hF,jD hs,hb,lD hs];obtain⟨a',hU,hs',hx⟩:=h1 _ (nb hi) rfl;rw[hx];exact⟨a',hU,hs',rfl⟩
 | @Hp i h hv=>
  intro hi hok;refine bU.succ (bU.mono (ij s) λF n hF a ha hs=>?_);show lQ s _ (cV F (bG F n) (bE F n) (aU F n) (bB F n) (bq F n) s (a:Int) 0 0);rw[<-HX hs]at h;rw[<-Bx hs]at hv⊢;rw[<-lD hs];rcases nH s a ha with⟨h',_,_,_⟩|⟨w,b,h',hsy,hw,hd,hl'⟩|⟨w,b,h',_,hw,hd,hl'⟩|⟨x',h',_,hw,hm,_⟩|⟨b,h',_,hw,_⟩<;>(first|(unfold kd at h;rw[h']at h;simp at h;done)|skip);have ht:tx s a=b::w:=by unfold tx;rw[h']
  have hn:(nx s a:Int)=(skip s a:Int)+(Sx (b::w):Int):=by unfold nx;rw[ht];omega
  rw[ht]at hv⊢;rw[Fq hl ha hF (by rw[hsy];decide),hw];have hp:eJ (0<(Sx (b::w):Int))=eQ:=eT (by simp_all);obtain⟨m,e,c1,c2,c3⟩:=aee F (b::w) si om om;have c3:=c3 hv;rw[hv]at c2;simp only[show((b::w)==[])=eK from rfl,aI,hp,iz,SF,yo,ajB b hd,aC,c1,c2,MX];have hrg:=(XI (b::w) hv);rw[c3,bQ (x:=(qh (b::w)).1) om,bQ (x:=(skip s a:Int)+(Sx (b::w):Int)) om,<-hn];exact⟨nx s a,nb ha,rfl,rfl⟩
 | @CO i h hv=>
  intro hi hok;refine bU.succ (bU.mono (ij s) λF n hF a ha hs=>?_);show lQ s _ (cV F (bG F n) (bE F n) (aU F n) (bB F n) (bq F n) s (a:Int) 0 0);rw[<-HX hs]at h;rw[<-Bx hs]at hv⊢;rw[<-hs];rcases nH s a ha with⟨h',_,_,_⟩|⟨w,b,h',hsy,hw,hd,hl'⟩|⟨w,b,h',_,hw,hd,hl'⟩|⟨x',h',_,hw,hm,_⟩|⟨b,h',_,hw,_⟩<;>(first|(unfold kd at h;rw[h']at h;simp at h;done)|skip);have ht:tx s a=b::w:=by unfold tx;rw[h']
  rw[ht]at hv⊢;rw[Fq hl ha hF (by rw[hsy];decide),hw];have hp:eJ (0<(Sx (b::w):Int))=eQ:=eT (by simp_all);obtain⟨m,e,c1,c2,c3⟩:=aee F (b::w) si om om;have hb:((qh (b::w)).2 != 0)=eQ:=by simpa using hv
  simp only[show((b::w)==[])=eK from rfl,aI,hp,iz,SF,yo,ajB b hd,aC,c1,c2,hb,aQ];exact⟨hv,_,skip s a,(iS s a ha).1,rfl⟩
 | @Hq i h hv=>
  intro hi hok;refine bU.succ (bU.mono (ij s) λF n hF a ha hs=>?_);show lQ s _ (cV F (bG F n) (bE F n) (aU F n) (bB F n) (bq F n) s (a:Int) 0 0);rw[<-HX hs]at h;rw[<-Bx hs]at hv⊢;rw[<-lD hs];rcases nH s a ha with⟨h',_,_,_⟩|⟨w,b,h',_,hw,hd,hl'⟩|⟨w,b,h',hsy,hw,hd,hl'⟩|⟨x',h',_,hw,hm,_⟩|⟨b,h',_,hw,_⟩<;>(first|(unfold kd at h;rw[h']at h;simp at h;done)|skip);have ht:tx s a=b::w:=by unfold tx;rw[h']
  have hn:(nx s a:Int)=(skip s a:Int)+(Sx (b::w):Int):=by unfold nx;rw[ht];omega
  rw[ht]at hv⊢;rw[Fq hl ha hF (by rw[hsy];decide),hw];have hp:eJ (0<(Sx (b::w):Int))=eQ:=eT (by simp_all);simp only[show((b::w)==[])=eK from rfl,aI,hp,iz,SF,yo,hd,aC,aQ,hv];rw[bQ (x:=(skip s a:Int)+(Sx (b::w):Int)) om,<-hn];exact⟨nx s a,nb ha,rfl,rfl⟩
 | @CP i h hv=>
  intro hi hok;refine bU.succ (bU.mono (ij s) λF n hF a ha hs=>?_);show lQ s _ (cV F (bG F n) (bE F n) (aU F n) (bB F n) (bq F n) s (a:Int) 0 0);rw[<-HX hs]at h;rw[<-Bx hs]at hv;rw[<-hs];rcases nH s a ha with⟨h',_,_,_⟩|⟨w,b,h',_,hw,hd,hl'⟩|⟨w,b,h',hsy,hw,hd,hl'⟩|⟨x',h',_,hw,hm,_⟩|⟨b,h',_,hw,_⟩<;>(first|(unfold kd at h;rw[h']at h;simp at h;done)|skip);have ht:tx s a=b::w:=by unfold tx;rw[h']
  have hn:(nx s a:Int)=(skip s a:Int)+(Sx (b::w):Int):=by unfold nx;rw[ht];omega
  rw[ht]at hv;rw[Fq hl ha hF (by rw[hsy];decide),hw];have hp:eJ (0<(Sx (b::w):Int))=eQ:=eT (by simp_all);simp only[show((b::w)==[])=eK from rfl,aI,hp,iz,SF,yo,hd,aC,aQ,hv];rw[bQ (x:=(skip s a:Int)+(Sx (b::w):Int)) om,<-hn];exact⟨by decide,_,nx s a,nb ha,rfl⟩
 | @Hr i h1 h2 h=>
  intro hi hok;refine bU.succ (bU.mono (ij s) λF n hF a ha hs=>?_);show lQ s _ (cV F (bG F n) (bE F n) (aU F n) (bB F n) (bq F n) s (a:Int) 0 0);rw[<-HX hs]at h1 h2;rw[<-jD hs]at h;rw[<-hs];have hw:mF s (skip s a)=[]:=by
   rcases nH s a ha with⟨h',_,hw,_⟩|⟨w,b,h',_,hw,hd,hl'⟩|⟨w,b,h',hsy,hw,hd,hl'⟩|⟨x',h',_,hw,hm,_⟩|⟨b,h',_,hw,_⟩
   .exact hw
   .unfold kd at h1;simp_all
   .unfold kd at h2;simp_all
   .exact hw
   .exact hw
  rw[Fq hl ha hF h,hw];exact⟨by decide,_,skip s a,(iS s a ha).1,rfl⟩
 | @N5 i p c h d ih=>intro hi hok;refine bU.succ (bU.mo (ih (nb hi) trivial) (ij s) λF n h1 hF a ha hs=>?_);show lQ s _ (cV F (bG F n) (bE F n) (aU F n) (bB F n) (bq F n) s (a:Int) 0 0);unfold cV wx;rw[Af hl ha hF de (by rw[jD hs];exact h),lD hs];simp only[aC,aQ];obtain⟨hc,e,a',hU,hx⟩:=h1 _ (nb hi) rfl;rw[hx];simp only[aC];rw[Rx hc];simp only[aC,nu,aQ];rw[Vh hc];exact⟨hc,_,a',hU,rfl⟩
 | @zj i j e h d h2 ih=>intro hi hok;refine bU.succ (bU.mo (ih (nb hi) trivial) (ij s) λF n h1 hF a ha hs=>?_);show lQ s _ (cV F (bG F n) (bE F n) (aU F n) (bB F n) (bq F n) s (a:Int) 0 0);unfold cV wx;rw[Af hl ha hF de (by rw[jD hs];exact h),lD hs];simp only[aC,aQ];obtain⟨a',hU,hs',hx⟩:=h1 _ (nb hi) rfl;rw[hx];simp only[aC];rw[acd hl hU hF (by rw[jD hs'];exact h2),hs'];exact⟨by decide,_,skip s j,(by rw[<-hs'];exact(iS s a' hU).1),rfl⟩
 | @N6 i j e h d h2 ih=>intro hi hok;refine bU.succ (bU.mo (ih (nb hi) trivial) (ij s) λF n h1 hF a ha hs=>?_);show lQ s _ (cV F (bG F n) (bE F n) (aU F n) (bB F n) (bq F n) s (a:Int) 0 0);unfold cV wx;rw[Af hl ha hF de (by rw[jD hs];exact h),lD hs];simp only[aC,aQ];obtain⟨a',hU,hs',hx⟩:=h1 _ (nb hi) rfl;rw[hx];simp only[aC];rw[Af hl hU hF de (by rw[jD hs'];exact h2)];simp only[aC,fU,aI,d5.eta];exact⟨nx s a',nb hU,(by rw[lD hs']),rfl⟩
theorem apo(h:-9223372036854775808<=n/\n<=9223372036854775807):(Lit.int .i64 n).wf=eQ:=by
 have h1:IntKind.i64.min=-9223372036854775808:=by decide
 have h2:IntKind.i64.max=9223372036854775807:=by decide
 simp[Lit.wf];omega
theorem aqG:∀x,x∈([]::qH)->uC x<=26:=by decide
theorem asT(x:Bs):0<=vZ x/\vZ x<=6:=by unfold vZ;grind
theorem aqH:∀x,x∈([]::qH)->0<=(gV x).2/\(gV x).2<=26:=by decide
def auG(s:Bs)(c:oO)(i:Nat):w5->Prop
 | .ok e j=>je e/\(match c with | .loop _ a=>nodes e+i<=j+nodes a|_=>nodes e+i<=j)
 | .err _ _=>True
def oO.okA:oO->Prop|.oper l=>0<l|.loop l a=>0<l/\je a|_=>True
theorem xO(s:Bs)(i:Nat)(hl:Sx s<=1000000)(hi:i<=Sx s):(tx s i).length<=maxLen:=by
 have:=alD hi;have h:(1000000:Nat)<=maxLen:=by decide
 omega
theorem Ku{op:Int}{name:Bs}{kids:J d5}(h1:0<=op/\op<=26)(h2:-1<=n/\n<=9223372036854775807)(h3:Sx name<=maxLen)(h4:Sx kids<=3)(h5:∀x,x∈kids->je x):je (.mk op n name kids):=.mk op n name kids (apo om) (apo om) h3 (jR h4 de) h5
theorem asU(hl:Sx s<=1000000){c:oO}(d:D s c i r):i<=Sx s->c.okA->auG s c i r:=by
 induction d with
 | @CK i r h d ih=>intro hi _;have:=ih hi trivial;cases r with|ok e j=>exact this|err p c=>trivial
 | CM h hn=>intro _ _;trivial|@He i j e h hn d ih=>intro hi _;obtain⟨a,b,c,f⟩:=yu hi h;obtain⟨x,y⟩:=ih c trivial;have g:=aqG _ (Ru s (nx s i));have g2:=ag1 _ (Ru s (nx s i));rw[(Rv h).2.2];refine⟨Ku om om (xO s i hl hi) si (by simpa using x),?_⟩;simp[nodes,nG];omega
 | Hf h hn d ih=>intro _ _;trivial|Hg d ih=>intro _ _;trivial|Hh d h ih=>intro hi _;exact ih hi (show(0:Int)<3 by decide)
 | Hi d h d2 ih ih2=>intro _ _;trivial|Hj d h d2 h2 ih ih2=>intro _ _;trivial|N3 d h d2 h2 d3 ih ih2 ih3=>intro _ _;trivial|@Hl i j k m a b e d h d2 h2 d3 ih ih2 ih3=>intro hi _;obtain⟨_,p1,_⟩:=nI d hi (show(0:Int)<3 by decide);obtain⟨m1,m2⟩:=dU p1 (by rw[h];decide);obtain⟨_,p2,_⟩:=nI d2 m1 trivial;obtain⟨m3,m4⟩:=dU p2 (by rw[h2];decide);obtain⟨o1,n1⟩:=ih hi (show(0:Int)<3 by decide);obtain⟨o2,n2⟩:=ih2 m1 trivial;obtain⟨o3,n3⟩:=ih3 m3 trivial;refine⟨Ku om om si si (by simp_all),?_⟩;simp[nodes,nG];omega
 | XH d ih=>intro _ _;trivial|@Za l i j a r d d2 ih ih2=>
  intro hi hc;obtain⟨_,p1,_⟩:=nI d hi trivial;obtain⟨o1,n1⟩:=ih hi trivial;have:=ih2 p1 ⟨hc,o1⟩;cases r with
  | ok e k=>obtain⟨o2,n2⟩:=this;exact⟨o2,show nodes e+i<=k by omega⟩
  | err p c=>trivial
 | yq h=>intro hi hc;exact⟨hc.2,aM⟩|ET h d ih=>intro _ _;trivial|@I3 l i j a b r h d d2 ih ih2=>
  intro hi hc;obtain⟨hc1,Iu⟩:=hc;obtain⟨m1,m2⟩:=dU hi (AZ hc1 h);obtain⟨_,p1,_⟩:=nI d m1 (show(0:Int)<_ by omega);obtain⟨o1,n1⟩:=ih m1 (show(0:Int)<_ by omega);have g:=aqH _ (Ru s i);have:=ih2 p1 ⟨hc1,Ku g om si si (by simpa using⟨Iu,o1⟩)⟩;cases r with
  | ok e k=>obtain⟨o2,n2⟩:=this;refine⟨o2,?_⟩;simp[nodes,nG]at n2;omega
  | err p c=>trivial
 | @CN i r h d ih=>intro hi _;have:=ih hi trivial;cases r with|ok e j=>exact this|err p c=>trivial
 | Ho h d ih=>intro _ _;trivial|@N4 i j a h d ih=>intro hi _;obtain⟨m1,m2⟩:=dU hi (Bw h);obtain⟨o1,n1⟩:=ih m1 trivial;have g:=asT (sy s i);refine⟨Ku om om si si (by simpa using o1),?_⟩;simp[nodes,nG];omega
 | @Hp i h hv=>intro hi _;have m:=(lU s i hi).2.2 (by rw[h];decide);have g:=XI _ hv;refine⟨Ku om om si si si,?_⟩;simp[nodes,nG];omega|CO h hv=>intro _ _;trivial|@Hq i h hv=>intro hi _;have m:=(lU s i hi).2.2 (by rw[h];decide);refine⟨Ku om om (xO s i hl hi) si si,?_⟩;simp[nodes,nG];omega|CP h hv=>intro _ _;trivial|Hr h1 h2 h=>intro _ _;trivial|N5 h d ih=>intro _ _;trivial|zj h d h2 ih=>intro _ _;trivial|@N6 i j e h d h2 ih=>intro hi _;obtain⟨m1,m2⟩:=dU hi (by rw[h];decide);obtain⟨_,p1,_⟩:=nI d m1 trivial;obtain⟨m3,m4⟩:=dU p1 (by rw[h2];decide);obtain⟨o1,n1⟩:=ih m1 trivial;exact⟨o1,show nodes e+i<=nx s j by omega⟩
mutual
def mz:d5->Int|.mk _ _ _ kids=>uE kids 0+1
def uE:J d5->Int->Int|[],m=>m|k::l,m=>uE l (cond (eJ (m<mz k)) (mz k) m)
end
theorem alH(e:d5):mz e=uE e.fKids 0+1:=by cases e;rfl
theorem XJ:∀(l m:J d5)(z:Int),uE (l++m) z=uE m (uE l z)|[],m,z=>rfl|k::l,m,z=>by simp[uE,XJ l m]
theorem Kv:∀(l:J d5)(z:Int),0<=z->(∀k,k∈l->0<=mz k/\mz k<=(nodes k:Int))->z<=uE l z/\uE l z<=z+(nG l:Int)
 | [],z,h,_=>by simp[uE,nG]|k::l,z,h,hk=>by have h1:=hk k si;simp[uE,nG];cases hc:eJ (z<mz k)with|true=>have hc:=DA hc;have h2:=Kv l (mz k) om λk h=>hk k (nt _ h);simp;omega|false=>have h2:=Kv l z h λk h=>hk k (nt _ h);simp;omega
theorem alI(e:d5):0<=mz e/\mz e<=(nodes e:Int):=by
 induction e using d5.ind with|h op n name kids ih=>have:=Kv kids 0 om ih;simp[mz,nodes];omega
theorem XK{r:d5->O Int}{l:J d5}(hF:Sx l<F)(hb:Sx l<=9223372036854775807)(hn:nG l<=1000000)(hr:∀k,k∈l->r k=iN (mz k)):
  ck (σ:=Int×Int) (λbA x1=>
   cond (eJ (x1.2<(Sx l:Int)))
   (rq ((eJ (0<=x1.2))&&(eJ (x1.2<(Sx l:Int)))) ((r (l.getD (eI x1.2) dN)).bind λx3=>
   bA (cond (eJ (x1.1<x3)) x3 x1.1,aE (x1.2+1))))
   (iN (aE (x1.1+1)))) F (0,0)=iN (uE l 0+1):=by
 refine Kl (λi=>(uE (l.take i) 0,(i:Int))) l.length hF rfl ?_ ?_
 .intro i rc hi;simp only[zw hi,bN,gd hi,bF (i:=i) om,hr _ (fW hi)];rw[alk hi,XJ];rfl
 .intro rc;have h:=Kv l 0 om λk _=>alI k;simp;rw[bQ om]
theorem aog(ho:je e):nodes e<=1000000->bU λF n=>v7 F n e=iN (mz e)/\zl F n e=iN (mz e):=by revert e;apply je.ind;intro e h4 h5 ih hn;rw[IW]at hn;refine bU.succ ((bU.all λk hk=>ih k hk (by have:=Kn hk;omega)).mo (bU.ge (Sx e.fKids+1) λF n h _=>h) λF m ih hF=>?_);rw[alH];refine⟨?_,XK hF h4 om λk hk=>(ih k hk).2⟩;show F5 F (v7 F m) e=_;unfold F5 wx;simp;exact XK hF h4 om λk hk=>(ih k hk).1
def zm:d5:=.mk 0 0 [] []
def PS(s:Bs):w5->d5×Int×Int|.ok e j=>cond (eJ (skip s j<Sx s)) (zm,(skip s j:Int),6) (cond (eJ (32<mz e)) (zm,0,5) (e,0,0))|.err p c=>(zm,(p:Int),c)
theorem aes(s:Bs)(i:Nat)(hi:i<=Sx s):(kd s i==0)=!(eJ (skip s i<Sx s)):=by
 unfold kd;rcases nH s i hi with⟨h',_,_,he⟩|⟨w,b,h',_,_,_,hl⟩|⟨w,b,h',_,_,_,hl⟩|⟨x',h',hs,_,hm,hl⟩|⟨b,h',_,_,hl⟩<;>rw[h']
 .simp_all
 .grind
 .grind
 .have:Sx x'≠0:=by simp_all[Ee]
  grind
 grind
theorem aoh(hlen:Sx s<=4096)(h0:skip s 0<Sx s)(d:D s .expr 0 r):
  bU λF _=>qS F s=iN (PS s r)/\qT F s=iN (PS s r):=by
 have hl:Sx s<=1000000:=om;have hA:=D_A hl d (fF _) trivial;have hR:=avT hl (avR d) (fF _) trivial;have hk0:(kd s 0==0)=eK:=by simp_all[aes,fF,eT]
 have N8:eJ (4096<(Sx s:Int))=eK:=vb om;have hat:((skip s 0:Int)==(Sx s:Int))=eK:=by grind
 have start:∀F,Sx s+60<=F->vC F s 0=iN ⟨kd s 0,po s 0,tx s 0⟩:=λF hF=>by rw[<-To s 0 (fF _)];exact Y5 F s 0 (fF _) om hl
 have rstart:∀F,Sx s+60<=F->gG F s 0 0 0=iN (s,(skip s 0:Int),0,0):=λF hF=>uW F s 0 0 0 (fF _) om hl;cases r with
 | err p c=>
  refine bU.Eb hA.fst hR.fst (ij s) λF _ h1 h2 hF=>⟨?_,?_⟩
  .obtain⟨st,h1⟩:=h1;unfold qS oa wx;rw[N8,start F hF];simp[aI,hk0];rw[h1];rfl
  .obtain⟨hc,e,a,ha,hx⟩:=h2 (skip s 0) om (ym s 0);unfold qT A9 wx;rw[N8,rstart F hF];simp[aI,hat,hx];rw[uW F s a c p ha om hl];simp only[aC];rw[Vh hc];have tM:(c != 0)=eQ:=by simpa using hc
   cases eJ ((skip s a:Int)<(Sx s:Int))<;>simp[aQ,tM]<;>rfl
 | ok e j=>
  obtain⟨_,hj,_⟩:=nI d (fF _) trivial;obtain⟨ho,hn⟩:=asU hl d (fF _) trivial;refine bU.Eb (hA.fst.and hR.fst) (aog ho om).fst (ij s) λF _ h12 hd hF=>?_;obtain⟨h1,h2⟩:=h12;obtain⟨hd1,hd2⟩:=hd;obtain⟨a,ha,hs,hx⟩:=h2 (skip s 0) om (ym s 0);have hkj:=aes s j hj;have hne:(kd s j != 0)=eJ (skip s j<Sx s):=by grind
  refine⟨?_,?_⟩
  .unfold qS oa Lt wx;rw[N8,start F hF];simp[aI,hk0];rw[h1];simp[sm,hne,hd1];show _=iN (cond (eJ (skip s j<Sx s)) (zm,(skip s j:Int),6) (cond (eJ (32<mz e)) (zm,0,5) (e,0,0)));cases eJ (skip s j<Sx s)with
   | true=>rfl|false=>cases eJ (32<mz e)<;>rfl
  .unfold qT A9 Ry wx;rw[N8,rstart F hF];simp[aI,hat,hx];rw[uW F s a 0 0 ha om hl,hs];simp only[aC,hd2];show _=iN (cond (eJ (skip s j<Sx s)) (zm,(skip s j:Int),6) (cond (eJ (32<mz e)) (zm,0,5) (e,0,0)));by_cases hlt:skip s j<Sx s
   .rw[eT hlt,eT om];rfl
   .rw[vb hlt,vb om];cases eJ (32<mz e)<;>rfl
theorem af9(hlen:Sx s<=4096)(h0:¬ skip s 0<Sx s):bU λF _=>qS F s=iN (.mk 1 0 [] [],0,0)/\qT F s=iN (.mk 1 0 [] [],0,0):=by
 have hl:Sx s<=1000000:=om;refine(ij s).mono λF _ hF=>?_;have hk0:(kd s 0==0)=eQ:=by simp_all[aes,fF,vb]
 have N8:eJ (4096<(Sx s:Int))=eK:=vb om;have hsk:=(iS s 0 (fF _)).1;have hat:((skip s 0:Int)==(Sx s:Int))=eQ:=by rw[tv];omega
 have start:vC F s 0=iN ⟨kd s 0,po s 0,tx s 0⟩:=by rw[<-To s 0 (fF _)];exact Y5 F s 0 (fF _) om hl
 have rstart:gG F s 0 0 0=iN (s,(skip s 0:Int),0,0):=uW F s 0 0 0 (fF _) om hl;constructor
 .unfold qS wx;rw[N8,start];simp[aI,hk0];rfl
 .unfold qT wx;rw[N8];simp_all
theorem aga(s:Bs)(hs:Sx s<=4096):∃x,(je x.1/\nodes x.1<=10000)/\bU λF _=>qS F s=iN x/\qT F s=iN x:=by
 have hz:je zm/\nodes zm<=10000:=⟨Ku om om si si si,by decide⟩;by_cases h0:skip s 0<Sx s
 .obtain⟨r,d⟩:=asR s 0 (fF _);refine⟨_,?_,aoh om h0 d⟩;cases r with
  | err p c=>exact hz|ok e j=>
   obtain⟨ho,hn⟩:=asU om d (fF _) trivial;obtain⟨_,hj,_⟩:=nI d (fF _) trivial;show je (cond (eJ (skip s j<Sx s)) (zm,(skip s j:Int),(6:Int)) (cond (eJ (32<mz e)) (zm,0,5) (e,0,0))).1/\nodes (cond (eJ (skip s j<Sx s)) (zm,(skip s j:Int),(6:Int)) (cond (eJ (32<mz e)) (zm,0,5) (e,0,0))).1<=10000;cases eJ (skip s j<Sx s)with
   | true=>exact hz|false=>
    cases eJ (32<mz e)with
    | true=>exact hz|false=>have hn:nodes e+0<=j:=hn;exact⟨ho,by show nodes e<=10000;omega⟩
 .exact⟨_,⟨Ku om om si si si,by decide⟩,af9 om h0⟩
