import Derived.Test.YtkmlndnhiboofaaGreatDoorZ2
import Derived.Test.YtkmlndnhiboofaaGreatDoorSo
open Option renaming some->W0,none->WP
open Bool renaming true->WF,false->UV
open Decidable renaming decide->T1
open Int renaming toNat->Ts
open Go.IntKind renaming wrap->Sx
open Nat renaming blt->So
open BitVec renaming ofInt->Rd
set_option linter.all false
namespace Go.Proofs.YtkmlndnhiboofaaGreatDoor.K
open Go.RT
set_option maxRecDepth 100000
variable{α:Type}
theorem aio(c:Bool)(x y:α):cond c (W0 x) (W0 y)=W0 (cond c x y):=by cases c<;>rfl
def agA(a:Int):O (Int×Bs):=cond ((24:Int)==a) (W0 (3,[124,124])) (cond ((23:Int)==a) (W0 (4,[38,38])) (cond ((22:Int)==a) (W0 (5,[124])) (cond ((21:Int)==a) (W0 (6,[94])) (cond ((20:Int)==a) (W0 (7,[38])) (cond ((18:Int)==a) (W0 (8,[61,61])) (cond ((19:Int)==a) (W0 (8,[33,61])) (cond ((14:Int)==a) (W0 (9,[60])) (cond ((15:Int)==a) (W0 (9,[62])) (cond ((16:Int)==a) (W0 (9,[60,61])) (cond ((17:Int)==a) (W0 (9,[62,61])) (cond ((12:Int)==a) (W0 (10,[60,60])) (cond ((13:Int)==a) (W0 (10,[62,62])) (cond ((10:Int)==a) (W0 (11,[43])) (cond ((11:Int)==a) (W0 (11,[45])) (cond ((7:Int)==a) (W0 (12,[42])) (cond ((8:Int)==a) (W0 (12,[47])) (cond ((9:Int)==a) (W0 (12,[37])) (W0 (0,[])))))))))))))))))))
def ZP(a:Int):Int×Bs:=cond ((24:Int)==a) (3,[124,124]) (cond ((23:Int)==a) (4,[38,38]) (cond ((22:Int)==a) (5,[124]) (cond ((21:Int)==a) (6,[94]) (cond ((20:Int)==a) (7,[38]) (cond ((18:Int)==a) (8,[61,61]) (cond ((19:Int)==a) (8,[33,61]) (cond ((14:Int)==a) (9,[60]) (cond ((15:Int)==a) (9,[62]) (cond ((16:Int)==a) (9,[60,61]) (cond ((17:Int)==a) (9,[62,61]) (cond ((12:Int)==a) (10,[60,60]) (cond ((13:Int)==a) (10,[62,62]) (cond ((10:Int)==a) (11,[43]) (cond ((11:Int)==a) (11,[45]) (cond ((7:Int)==a) (12,[42]) (cond ((8:Int)==a) (12,[47]) (cond ((9:Int)==a) (12,[37]) ((0,[])))))))))))))))))))
def lX(a:Int):Int×Bs:=cond (a==1||a==2) (14,[]) (cond (a==3) (13,[45]) (cond (a==4) (13,[43]) (cond (a==5) (13,[33]) (cond (a==6) (13,[126]) (cond (a==25) (2,[63]) (cond (a==26) (1,[61]) (ZP a)))))))
def pP(a:Int):Int:=cond (a==1||a==2) 0 (cond ((T1 (3<=a)&&T1 (a<=6))||a==26) 1 (cond (T1 (7<=a)&&T1 (a<=24)) 2 (cond (a==25) 3 (-1))))
theorem aeg(F:Nat)(a:Int):Fy F a=W0 (pP a):=by
 unfold Fy pP wx
 grind
theorem akO(a:Int):agA a=W0 (ZP a):=by simp[agA,ZP,aio]
theorem aip(G:Nat)(a:Int):((tg (G+20)).bind λx2=>
 bW (σ:=Int) (λkH x3=>
 cond (T1 (x3<(x2.length:Int)))
 (rq ((T1 (0<=x3))&&(T1 (x3<(x2.length:Int)))) (cond (((x2.getD (Ts x3) z7).fop)==a)
 (W0 ((x2.getD (Ts x3) z7).OU,(x2.getD (Ts x3) z7).Gg))
 (kH (aC (x3+1)))))
 (W0 (0,[]))) (G+20) 0)=agA a:=by kernel_rfl
theorem ads(G:Nat)(a:Int):xS (G+20) a=W0 (lX a):=by
 unfold xS lX wx;cases h1:(a==1)<;>cases h2:(a==2)<;>simp;cases h3:(a==3)<;>simp;cases h4:(a==4)<;>simp;cases h5:(a==5)<;>simp;cases h6:(a==6)<;>simp;cases h7:(a==25)<;>simp;cases h8:(a==26)<;>simp;exact(aip G a).trans (akO a)
def ami(L:Int):Int:=cond (L==1||L==13) 1 (cond (L==2) 3 (cond (L==14) 0 2))
theorem akP(op:Int):((lX op).1=0/\pP op=-1)\/((lX op).1≠0/\ami (lX op).1=pP op):=by
 by_cases h:1<=op/\op<=26
 ·have:op=1\/op=2\/op=3\/op=4\/op=5\/op=6\/op=7\/op=8\/op=9\/op=10\/op=11\/op=12\/op=13\/op=14\/op=15\/op=16\/op=17\/op=18\/op=19\/op=20\/op=21\/op=22\/op=23\/op=24\/op=25\/op=26:=om
  rcases this with rfl|rfl|rfl|rfl|rfl|rfl|rfl|rfl|rfl|rfl|rfl|rfl|rfl|rfl|rfl|rfl|rfl|rfl|rfl|rfl|rfl|rfl|rfl|rfl|rfl|rfl<;>decide
 ·left
  have h1:(op==1)=UV:=by grind
  have g1:((1:Int)==op)=UV:=by rw[gH];omega
  have h2:(op==2)=UV:=by rw[gH];omega
  have g2:((2:Int)==op)=UV:=by rw[gH];omega
  have h3:(op==3)=UV:=by grind
  have g3:((3:Int)==op)=UV:=by grind
  have h4:(op==4)=UV:=by grind
  have g4:((4:Int)==op)=UV:=by grind
  have h5:(op==5)=UV:=by grind
  have g5:((5:Int)==op)=UV:=by grind
  have h6:(op==6)=UV:=by grind
  have g6:((6:Int)==op)=UV:=by grind
  have h7:(op==7)=UV:=by grind
  have g7:((7:Int)==op)=UV:=by grind
  have h8:(op==8)=UV:=by grind
  have g8:((8:Int)==op)=UV:=by grind
  have h9:(op==9)=UV:=by grind
  have g9:((9:Int)==op)=UV:=by rw[gH];omega
  have h10:(op==10)=UV:=by rw[gH];omega
  have g10:((10:Int)==op)=UV:=by rw[gH];omega
  have h11:(op==11)=UV:=by rw[gH];omega
  have g11:((11:Int)==op)=UV:=by rw[gH];omega
  have h12:(op==12)=UV:=by rw[gH];omega
  have g12:((12:Int)==op)=UV:=by rw[gH];omega
  have Yc:(op==13)=UV:=by rw[gH];omega
  have g13:((13:Int)==op)=UV:=by rw[gH];omega
  have h14:(op==14)=UV:=by rw[gH];omega
  have g14:((14:Int)==op)=UV:=by rw[gH];omega
  have h15:(op==15)=UV:=by rw[gH];omega
  have g15:((15:Int)==op)=UV:=by rw[gH];omega
  have h16:(op==16)=UV:=by rw[gH];omega
  have g16:((16:Int)==op)=UV:=by rw[gH];omega
  have h17:(op==17)=UV:=by rw[gH];omega
  have g17:((17:Int)==op)=UV:=by rw[gH];omega
  have h18:(op==18)=UV:=by rw[gH];omega
  have g18:((18:Int)==op)=UV:=by rw[gH];omega
  have h19:(op==19)=UV:=by rw[gH];omega
  have g19:((19:Int)==op)=UV:=by rw[gH];omega
  have h20:(op==20)=UV:=by rw[gH];omega
  have g20:((20:Int)==op)=UV:=by rw[gH];omega
  have h21:(op==21)=UV:=by rw[gH];omega
  have g21:((21:Int)==op)=UV:=by rw[gH];omega
  have h22:(op==22)=UV:=by rw[gH];omega
  have g22:((22:Int)==op)=UV:=by rw[gH];omega
  have h23:(op==23)=UV:=by rw[gH];omega
  have g23:((23:Int)==op)=UV:=by rw[gH];omega
  have U1:(op==24)=UV:=by rw[gH];omega
  have g24:((24:Int)==op)=UV:=by rw[gH];omega
  have Yd:(op==25)=UV:=by rw[gH];omega
  have g25:((25:Int)==op)=UV:=by rw[gH];omega
  have IJ:(op==26)=UV:=by rw[gH];omega
  have g26:((26:Int)==op)=UV:=by rw[gH];omega
  have k1:(T1 (3<=op)&&T1 (op<=6))=UV:=by
   grind
  have k2:(T1 (7<=op)&&T1 (op<=24))=UV:=by
   grind
  refine⟨?_,?_⟩
  ·simp only[lX,ZP,h1,h2,h3,h4,h5,h6,h7,h8,h9,h10,h11,h12,Yc,h14,h15,h16,h17,h18,h19,h20,h21,h22,h23,U1,Yd,IJ,g1,g2,g3,g4,g5,g6,g7,g8,g9,g10,g11,g12,g13,g14,g15,g16,g17,g18,g19,g20,g21,g22,g23,g24,g25,g26,Zn,aM]
  ·simp only[pP,h1,h2,Yd,IJ,k1,k2,Zn,aM]
def Bz(n:Int):Bool:=(T1 (7<=n)&&T1 (n<=13))||(T1 (20<=n)&&T1 (n<=22))
theorem akQ(F:Nat)(n:Int):th F n=W0 (Bz n):=by
 by_cases h:n=7\/n=8\/n=9\/n=10\/n=11\/n=12\/n=13\/n=20\/n=21\/n=22
 ·rcases h with rfl|rfl|rfl|rfl|rfl|rfl|rfl|rfl|rfl|rfl<;>rfl
 ·unfold th Bz wx
  have k1:(T1 (7<=n)&&T1 (n<=13))=UV:=by
   grind
  have k2:(T1 (20<=n)&&T1 (n<=22))=UV:=by
   grind
  grind
theorem aby(F:Nat)(n:Int):xU F n=W0 (n==0||Bz n):=by
 unfold xU Bz wx
 grind
def fV(b:Int):Bool:=T1 (48<=b)&&T1 (b<=57)
def oF(b:Int):Bool:=(T1 (97<=b)&&T1 (b<=122))||(T1 (65<=b)&&T1 (b<=90))
def sG(b:Int):Bool:=(oF b||fV b)||b==95
theorem U2(F:Nat)(b:Int):kQ F b=W0 (fV b):=by
 unfold kQ fV wx;grind
theorem anj(F:Nat)(b:Int):sN F b=W0 (oF b):=by
 unfold sN oF wx;grind
theorem aq6(F:Nat)(b:Int):pG F b=W0 (sG b):=by
 unfold pG sG wx;rw[anj,U2];cases oF b<;>cases fV b<;>rfl
theorem aiq(F:Nat)(b:Int):u9 F b=W0 (fV b):=by
 unfold u9 fV wx;grind
theorem ank(F:Nat)(b:Int):wU F b=W0 (oF b):=by
 unfold wU oF wx;grind
theorem air(b:Int):fV b=WF↔48<=b/\b<=57:=by simp[fV]
theorem abz(b:Int):sG b=WF↔(97<=b/\b<=122)\/(65<=b/\b<=90)\/(48<=b/\b<=57)\/b=95:=by
 simp[sG,oF,fV];omega
def rJ(s:Bs)(p:Nat):Int:=((s.getD p 0).toNat:Int)
theorem abA(p:Nat->Bool):∀k i,iter (λi r=>cond (p i) r (W0 UV)) (W0 WF) k i=W0 ((List.range' i k).all p)
 | 0,i=>rfl
 | k+1,i=>by
  simp[iter,Zo];rw[abA p k (i+1)];cases p i<;>rfl
def rName(s:Bs):Bool:=cond (s==[]||decide (32<(s.length:Int))) UV (cond (fV (rJ s 0)) UV ((List.range' 0 s.length).all λi=>sG (rJ s i)))
theorem zH(F:Nat)(s:Bs)(hF:33<=F):fy F s=W0 (rName s):=by
 unfold fy rName wx;simp only[U2,aq6]
 cases h1:(s==[])with
 | true=>rfl
 | false=>
  cases h2:T1 (32<(s.length:Int))with
  | true=>rfl
  | false=>
   have h0:T1 (0<(s.length:Int))=WF:=by
    cases s with
    | nil=>cases h1
    | cons a s=>simp
   have hl:¬ 32<(s.length:Int):=by simpa using h2
   simp only[aM,h0];show cond (fV (rJ s 0)) _ _=W0 (cond (fV (rJ s 0)) _ _)
   cases fV (rJ s 0)with
   | true=>rfl
   | false=>
    simp only[aM];rw[<-abA (λi=>sG (rJ s i))];refine adr (λi rc hi=>?_) (λrc=>?_) F om
    ·have e1:T1 ((i:Int)<(s.length:Int))=WF:=by simpa using hi
     have e2:T1 (0<=(i:Int))=WF:=by simp
     simp only[e1];rw[bz om];show cond (!(sG (rJ s i))) _ _=_
     simp_all
    simp_all
theorem get_at(l:Bs)(k:Nat):(ByteArray.mk ⟨l⟩).get! k=l.getD k 0:=by
 simp[ByteArray.get!];cases l[k]? <;> rfl
variable{p:Nat}
theorem Af{l:Bs}(h:(l.getD p 0).toNat<128):dec l p=((l.getD p 0).toNat,1):=by
 unfold dec Utf8.decode
 simp_all[get_at,Gm,if_pos]
theorem Ye{l:Bs}(h:¬ (l.getD p 0).toNat<128):128<=(dec l p).1:=by
 unfold dec Utf8.decode;simp[get_at]
 (repeat' split)<;>simp_all[Utf8.runeError]<;>omega
def cOk(c p:Int):Bool:=cond (oF c||c==95) WF (cond (fV c) (T1 (0<p)) UV)
theorem aeh(c p:Int):cOk c p=WF↔(97<=c/\c<=122)\/(65<=c/\c<=90)\/c=95\/(48<=c/\c<=57)/\0<p:=by
 simp[cOk,oF,fV];omega
def RI(s:Bs)(p:Nat):Bool:=sG (rJ s p) && !(T1 (p=0)&&fV (rJ s p))
theorem anl(s:Bs)(p:Nat):cOk ((dec s p).1:Int) (p:Int)=RI s p/\(RI s p=WF->(dec s p).2=1):=by
 by_cases h:(s.getD p 0).toNat<128
 ·rw[Af h]
  rw[qb,aeh];unfold RI rJ;rw[cH,abz]
  grind[air,decide_eq_false_iff_not]
 ·have h1:=Ye h
  have h2:sG (rJ s p)=UV:=by
   apply Sb.2;intro hw;unfold rJ at hw
   grind[abz]
  have h3:RI s p=UV:=by unfold RI;rw[h2];rfl
  rw[h3];refine⟨?_,λh=>by cases h⟩
  grind[aeh]
theorem U3(F:Nat)(s:Bs):∀(k p n:Nat),p+k=s.length->k<n->bW (σ:=Bs×Int) (R:=Bool) (λgV x2=>
   cond (So (Ts x2.2) x2.1.length)
   (((wU F ((dec x2.1 (Ts x2.2)).1:Int)).bind λx5=>
   cond x5
   (W0 WF)
   (W0 (((dec x2.1 (Ts x2.2)).1:Int)==95)):O Bool).bind λx4=>
   (cond x4
   (W0 WF)
   ((u9 F ((dec x2.1 (Ts x2.2)).1:Int)).bind λx7=>
   cond x7
   (W0 (T1 (0<(((Ts x2.2):Nat):Int))))
   (W0 UV)):O Bool).bind λx6=>
   cond x6
   (gV (x2.1,((((Ts x2.2)+(dec x2.1 (Ts x2.2)).2):Nat):Int)))
   (W0 UV))
   (W0 WF)) n (s,(p:Int))=W0 ((List.range' p k).all (RI s))
 | 0,p,n,h,hn=>by
  cases n with
  | zero=>omega
  | succ n=>
   have e:So p s.length=UV:=by
    simp_all[Sb,Zp]
   simp_all[bW,b9,aM]
 | k+1,p,n,h,hn=>by
  cases n with
  | zero=>omega
  | succ n=>
   have e:So p s.length=WF:=by rw[So,Zp];omega
   obtain⟨h1,h2⟩:=anl s p;have ih:=U3 F s k (p+1) n om om;simp only[ank,aiq,aD]at ih⊢;rw[bW];simp only[b9,e,aY]
   have key:∀X:O Bool,((cond (oF ((dec s p).1:Int)) (W0 WF) (W0 (((dec s p).1:Int)==95)):O Bool).bind λx4=>
     (cond x4 (W0 WF) (cond (fV ((dec s p).1:Int)) (W0 (T1 (0<(p:Int)))) (W0 UV)):O Bool).bind λx6=>cond x6 X (W0 UV))=cond (cOk ((dec s p).1:Int) (p:Int)) X (W0 UV):=by
    intro X;unfold cOk
    grind
   rw[key,h1,Zo,Tj]
   grind
theorem EB(F:Nat)(s:Bs)(hF:33<=F):lB F s=W0 (rName s):=by
 unfold lB rName wx;by_cases hz:s=[]
 ·subst hz;rfl
 have hlen:=Aw.2 hz;have h1:T1 ((s.length:Int)<1)=UV:=by simp;omega
 have h2:(s==[])=UV:=by simpa using hz
 rw[h1,h2]
 cases hl:T1 (32<(s.length:Int))with
 | true=>rfl
 | false=>
  have hs:¬ 32<(s.length:Int):=by simpa using hl
  rw[U3 F s s.length 0 F om om];obtain⟨m,hm⟩:∃m,s.length=m+1:=⟨s.length-1,om⟩;rw[hm,Zo]
  have e:(List.range' (0+1) m).all (RI s)=(List.range' (0+1) m).all λi=>sG (rJ s i):=by
   rw[qb]
   have:∀x,x∈List.range' (0+1) m->RI s x=sG (rJ s x):=λx hx=>by
    unfold RI
    grind
   simp_all
  unfold RI
  grind
theorem Hf(F:Nat)(s:Bs)(hF:33<=F):lB F s=fy F s:=(EB F s hF).trans (zH F s hF).symm
abbrev cO:=cw
abbrev cO.mk:=cw.mk
instance:Inhabited TExpr:=⟨dH⟩
inductive iM:TExpr->Prop
 | mk (op n:Int) (name:Bs) (kids:List TExpr) (h1:(Lit.int .i64 op).wf=WF) (h2:(Lit.int .i64 n).wf=WF) (h3:name.length<=maxLen) (h4:kids.length<=maxLen) (h5:∀x,x∈kids->iM x):iM (.mk op n name kids)
theorem agB(G:Nat)(r:TExpr->Int->O Int)(e:TExpr)(d:Int)(hd:d<=32)(hN:lB (G+20) e.fName=fy (G+20) e.fName):
  zI (G+20) r e d=lC (G+20) r e d:=by
 unfold zI lC wx;simp only[ads,aeg,akQ,aby,hN,aD,TExpr.eta];generalize fy (G+20) e.fName=nm;generalize e.fOp=op;generalize e.fN=n;generalize e.fName=name;generalize e.fKids=kids
 have e32:(d==32)=T1 (32<=d):=by
  rw[qb,p7,eT];omega
 have en:T1 (n<0)=!(T1 (0<=n)):=by
  rw[qb,Ej,eT,aeO];omega
 have o1:(op==1&&op==26)=UV:=by
  rw[PI,gH,gH];omega
 rw[e32,en];simp only[bne];cases h32:T1 (32<=d)<;>simp only[aY,aM];rcases akP op with⟨h1,h2⟩|⟨h1,h2⟩
 ·rw[h1,h2]
  have e:((kids.length:Int) == -1)=UV:=by rw[gH];omega
  rw[e];cases (op==2)<;>cases (op==26)<;>rfl
 ·have e0:((lX op).1==0)=UV:=by rw[gH];exact h1
  have ex:∀k:Int->O Int,jj (σ:=Int) (R:=Int) (cond ((lX op).1==0) (W0 (.inr 1)) ((cond ((lX op).1==1) (W0 ((lX op).1==1)) (W0 ((lX op).1==13)):O Bool).bind λx3=>
    cond x3 (W0 (.inl 1)) (cond ((lX op).1==2) (W0 (.inl 3)) (cond ((lX op).1==14) (W0 (.inl 0)) (W0 (.inl 2)))))) k=k (pP op):=by
   intro k;rw[e0,<-h2];unfold ami;generalize(lX op).1=L;cases (L==1)<;>cases (L==13)<;>cases (L==2)<;>cases (L==14)<;>rfl
  rw[ex];generalize(op==1)=b1 at o1⊢;generalize(op==26)=b26 at o1⊢
  cases ((kids.length:Int)==pP op)<;>cases b1<;>cases b26<;>(first|(cases o1;done)|skip)<;>
   cases (op==2)<;>cases (T1 (0<=n))<;>cases (n==0)<;>cases (Bz n)<;>cases (name==[])<;>rfl
theorem adt(F:Nat)(r r':TExpr->Int->O Int)(e:TExpr)(d:Int)(h:¬ 32<=d->∀x,r x (aC (d+1))=r' x (aC (d+1))):lC F r e d=lC F r' e d:=by
 unfold lC wx;by_cases hd:32<=d
 ·rw[show T1 (32<=d)=WF by simpa using hd];rfl
 ·simp only[h hd]
theorem abB(G:Nat)(hG:13<=G):∀(n:Nat)(e:TExpr)(d:Int),0<=d->d<=32->qZ (G+20) n e d=kn (G+20) n e d
 | 0,e,d,_,_=>rfl
 | n+1,e,d,h0,h1=>by
  show zI (G+20) (qZ (G+20) n) e d=lC (G+20) (kn (G+20) n) e d;rw[agB G _ e d h1 (Hf _ _ om)];refine adt _ _ _ e d λhd x=>?_;rw[bN om];exact abB G hG n x (d+1) om om
theorem TExpr.ind{P:TExpr->Prop}(h:∀op n name kids,(∀k,k∈kids->P k)->P (.mk op n name kids))(e:TExpr):P e:=by
 match e with
 | .mk op n name kids=>exact h op n name kids λk hk=>TExpr.ind h k
termination_by SizeOf.sizeOf e
decreasing_by
 have:=List.sizeOf_lt_of_mem hk;simp only[TExpr.mk.sizeOf_spec];omega
variable{P:TExpr->Prop}
theorem iM.ind(h:∀e,e.fKids.length<=9223372036854775807->(∀k,k∈e.fKids->iM k)->(∀k,k∈e.fKids->P k)->P e):∀e,iM e->P e:=by
 intro e ho
 induction ho with
 | mk op n name kids h1 h2 h3 h4 h5 ih=>exact h (.mk op n name kids) (oM h4 de) h5 ih
mutual
def nodes:TExpr->Nat
 | .mk _ _ _ kids=>mz kids+1
def mz:J TExpr->Nat
 | []=>0
 | k::l=>nodes k+mz l
end
theorem Hg(e:TExpr):nodes e=mz e.fKids+1:=by cases e;rfl
theorem IK:∀ {l:J TExpr}{k:TExpr},k∈l->nodes k<=mz l
 | x::l,k,h=>by
  rcases iy.1 h with rfl|h
  ·simp only[mz];omega
  ·have:=IK h;simp only[mz];omega
inductive Nms:TExpr->Prop
 | mk (op n:Int) (name:Bs) (kids:List TExpr) (h:name.length<=60) (hk:∀k,k∈kids->Nms k):Nms (.mk op n name kids)
def LP(op:Int):Bool:=op==2||op==26
variable{i:Nat}
theorem ais{l:J α}(h:i<l.length):l.take (i+1)=l.take i++[l[i]]:=by
 rw[mh h]
def CW(op n:Int)(name:Bs)(len:Nat):Bool:=
 ((len:Int) != pP op)||(LP op==(name==[]))||((op==1&&T1 (n<0))||(op==26 && !(n==0||Bz n))||(op != 1&&(op != 26&&n != 0)))
mutual
def iA:TExpr->Int->Int
 | .mk op n name kids,d=>cond (T1 (32<=d)) 5 (cond (CW op n name kids.length) 1 (cond (LP op && !rName name) 10 (DT kids (d+1))))
def DT:J TExpr->Int->Int
 | [],_=>0
 | k::l,d=>cond (iA k d != 0) (iA k d) (DT l d)
end
theorem ait(e:TExpr)(d:Int):iA e d=cond (T1 (32<=d)) 5 (cond (CW e.fOp e.fN e.fName e.fKids.length) 1 (cond (LP e.fOp && !rName e.fName) 10 (DT e.fKids (d+1)))):=by
 cases e;rfl
variable{e:TExpr}
theorem RL(ho:iM e):bL λF n=>∀d,0<=d->d<=32->kn F n e d=W0 (iA e d):=by
 revert e;apply iM.ind;intro e h4 h5 ih;refine bL.succ ((bL.all ih).kV (bL.ge (e.fKids.length+34) λF n h _=>h) λF m ih hF d RC X5=>?_);rw[ait];show lC F (kn F m) e d=_;unfold lC wx;simp only[aeg,aby,zH F _ (by omega:33<=F)];by_cases hd:32<=d
 ·simp_all
 ·rw[bN om]
  rw[rI e.fKids (λi (_:Unit)=>(i:Int)) (λ_ k=>(kn F m k (d+1)).bind λx=>cond (x != 0) (W0 (.inr x)) (W0 (.inl ()))) (λ_=>W0 0) (t:=()) om ?_ ?_ ?_]
  ·have key:∀l:J TExpr,(∀k,k∈l->k∈e.fKids)->qq (λ_ k=>(kn F m k (d+1)).bind λx=>cond (x != 0) (W0 (.inr x)) (W0 (.inl ()))) (λ_=>W0 0) l ()=W0 (DT l (d+1)):=by
    intro l
    induction l with
    | nil=>intro _;rfl
    | cons k l ihl=>
     intro hm;simp[qq,DT];rw[ih k (hm k si) (d+1) om om];simp;cases (iA k (d+1) != 0)
     ·simp_all[aM,aD,sm,ku]
     ·rfl
   unfold CW LP
   grind
  ·rfl
  ·intro i h t rc
   simp only[yq h,Cd,gL,b9,gd h,bz (i:=i) om]
   cases kn F m e.fKids[i] (d+1)with
   | none=>rfl
   | some x=>
    simp;cases (x != 0)<;>rfl
  simp_all
theorem YH(ho:iM e):bL λF n=>∀d,0<=d->d<=32->qZ F n e d=W0 (iA e d):=
 (RL ho).kV (bL.ge 33 λF n h _=>h) λF n h hF d h0 h1=>by
  obtain⟨G,rfl⟩:∃G,F=G+20:=⟨F-20,om⟩
  simp_all[abB]
inductive Vd:TExpr->Prop
 | mk (op n:Int) (name:Bs) (kids:List TExpr) (h1:(kids.length:Int)=pP op) (h2:LP op=!(name==[])) (h3:op=1->0<=n) (h4:op=26->n=0\/Bz n=WF) (h5:op≠1->op≠26->n=0)
   (h6:LP op=WF->rName name=WF) (h7:∀k,k∈kids->Vd k):Vd (.mk op n name kids)
theorem RM:∀(l:J TExpr)(d:Int),DT l d=0↔∀k,k∈l->iA k d=0
 | [],d=>by simp[DT]
 | k::l,d=>by
  simp[DT];rw[<-RM l d]
  cases h:(iA k d != 0)with
  | true=>
   have:iA k d≠0:=by simpa using h
   simp[this]
  | false=>
   have:iA k d=0:=by simpa using h
   simp[this]
variable{n:Int}
theorem akR{op:Int}{name:Bs}{len:Nat}(h:CW op n name len=UV):
  (len:Int)=pP op/\LP op=!(name==[])/\(op=1->0<=n)/\(op=26->n=0\/Bz n=WF)/\(op≠1->op≠26->n=0):=by
 unfold CW at h
 grind
theorem IL(e:TExpr):∀d,iA e d=0->Vd e:=by
 induction e using TExpr.ind with
 | h op n name kids ih=>
  intro d h;simp[iA]at h
  cases h0:T1 (32<=d)with
  | true=>rw[h0]at h;simp at h
  | false=>
   rw[h0]at h
   cases h1:CW op n name kids.length with
   | true=>rw[h1]at h;simp at h
   | false=>
    rw[h1]at h
    cases h2:(LP op && !rName name)with
    | true=>rw[h2]at h;simp at h
    | false=>
     rw[h2]at h;simp at h;rw[RM]at h;obtain⟨a,b,c,d',e⟩:=akR h1;refine .mk op n name kids a b c d' e (λhn=>?_) λk hk=>ih k hk _ (h k hk)
     simp_all
def par(b:Bool)(s:Bs):Bs:=cond b (([40]++s)++[41]) s
theorem akS{op:Int}{n:Nat}(h:(n:Int)=pP op):1<=op/\op<=26:=by
 by_cases h1:1<=op/\op<=26
 ·exact h1
 ·have e1:(op==1)=UV:=by grind
  have e2:(op==2)=UV:=by grind
  have e3:(op==25)=UV:=by grind
  have e4:(op==26)=UV:=by grind
  have k1:(T1 (3<=op)&&T1 (op<=6))=UV:=by
   grind
  have k2:(T1 (7<=op)&&T1 (op<=24))=UV:=by
   grind
  simp only[pP,e1,e2,e3,e4,k1,k2,Zn,aM]at h;omega
theorem akT{op:Int}(h:1<=op/\op<=26):op=1\/op=2\/op=3\/op=4\/op=5\/op=6\/op=7\/op=8\/op=9\/op=10\/op=11\/op=12\/op=13\/op=14\/op=15\/op=16\/op=17\/op=18\/op=19\/op=20\/op=21\/op=22\/op=23\/op=24\/op=25\/op=26:=om
inductive Kind(op:Int):Prop
 | num (h:op=1\/op=2) (hk:pP op=0) (hl:(lX op).1=14)
 | un (h:3<=op/\op<=6) (hk:pP op=1) (hl:(lX op).1=13) (hs:(lX op).2.length=1)
 | bin (h:7<=op/\op<=24) (hk:pP op=2) (hl:3<=(lX op).1/\(lX op).1<=12) (hs:(lX op).2.length<=2)
 | con (h:op=25) (hk:pP op=3) (hl:(lX op).1=2)
 | set (h:op=26) (hk:pP op=1) (hl:(lX op).1=1)
structure Good(e:TExpr):Prop where
 v:Vd e
 o:iM e
 m:Nms e
theorem Good.kid(g:Good e):∀k,k∈e.fKids->Good k:=by
 obtain⟨v,o,m⟩:=g
 cases e with
 | mk op n name kids=>
  cases v with
  | mk _ _ _ _ h1 h2 h3 h4 h5 h6 h7=>
   cases o with
   | mk _ _ _ _ a1 a2 a3 a4 a5=>
    cases m with
    | mk _ _ _ _ b1 b2=>exact λk hk=>⟨h7 k hk,a5 k hk,b2 k hk⟩
theorem Good.ind(h:∀e,Good e->(∀k,k∈e.fKids->P k)->P e):∀e,Good e->P e:=by
 intro e
 induction e using TExpr.ind with
 | h op n name kids ih=>
  intro g;exact h _ g λk hk=>ih k hk (g.kid k hk)
theorem apB(h:(Lit.int .i64 n).wf=WF):-9223372036854775808<=n/\n<=9223372036854775807:=by
 have h1:IntKind.i64.min=-9223372036854775808:=by decide
 have h2:IntKind.i64.max=9223372036854775807:=by decide
 simp[Lit.wf]at h;omega
theorem Good.facts(g:Good e):(e.fKids.length:Int)=pP e.fOp/\(e.fOp=1->0<=e.fN)/\e.fN<=9223372036854775807/\e.fName.length<=60/\(e.fOp=26->e.fN=0\/Bz e.fN=WF):=by
 obtain⟨v,o,m⟩:=g
 cases e with
 | mk op n name kids=>
  cases v with
  | mk _ _ _ _ h1 h2 h3 h4 h5 h6 h7=>
   cases o with
   | mk _ _ _ _ a1 a2 a3 a4 a5=>
    cases m with
    | mk _ _ _ _ b1 b2=>exact⟨h1,h3,(apB a2).2,b1,h4⟩
variable{R:Type}
theorem abC{n:Nat}{inst:Decidable (n<=9223372036854775807)}(h:n<=1000000)(k:O R):rq (@T1 (n<=9223372036854775807) inst) k=k:=cq (ei om)
theorem abD{d:Nat}(h:d<10):cu ([Sx .u8 (Sx .u64 (48+(d:Int)))]:J Int)=[UInt8.ofNat (48+d)]:=by
 have:d=0\/d=1\/d=2\/d=3\/d=4\/d=5\/d=6\/d=7\/d=8\/d=9:=om;rcases this with rfl|rfl|rfl|rfl|rfl|rfl|rfl|rfl|rfl|rfl<;>rfl
theorem JL:∀(k u m:Nat)(out:Bs),u<10^(k+1)->u<18446744073709551616->k<m->out.length+k<=1000->bW (σ:=Int×Bs) (λbA x1=>
   cond (T1 (9<x1.1))
   (rq (T1 ((cu ([Sx .u8 (Sx .u64 (48+(Int.tmod x1.1 10)))]:J Int)).length+x1.2.length<=9223372036854775807)) (bA (Sx .u64 (Int.tdiv x1.1 10),(cu ([Sx .u8 (Sx .u64 (48+(Int.tmod x1.1 10)))]:J Int))++x1.2)))
   (rq (T1 ((cu ([Sx .u8 (Sx .u64 (48+x1.1))]:J Int)).length+x1.2.length<=9223372036854775807)) (W0 ((cu ([Sx .u8 (Sx .u64 (48+x1.1))]:J Int))++x1.2)))) m ((u:Int),out)=W0 (Lib.decDigits u++out)
 | k,u,0,out,_,_,h,_=>by omega
 | k,u,m+1,out,hu,hu',hk,ho=>by
  simp only[bW];by_cases h9:u<10
  ·rw[show T1 (9<(u:Int))=UV by simp;omega]
   simp;rw[abD h9,abC bp,Lib.decDigits_one h9]
  ·have e1:Int.tmod (u:Int) 10=((u%10:Nat):Int):=IntWalk.up_tmod rfl rfl
   have e2:Int.tdiv (u:Int) 10=((u / 10:Nat):Int):=IntWalk.up_tdiv rfl rfl;rw[show T1 (9<(u:Int))=WF by simp;omega];simp only[e1,e2];rw[abD (Zh _ de),abC bp,qc _ om]
   cases k with
   | zero=>simp at hu;omega
   | succ k=>
    rw[JL k (u / 10) m _ om om om bp];rw[Lib.decDigits.eq_1 u,dif_neg h9];simp
theorem agC(F:Nat)(hF:30<=F)(h0:0<=n)(h1:n<=9223372036854775807):dP F n=W0 (Lib.itoa n):=by
 obtain⟨u,rfl⟩:∃u:Nat,n=u:=⟨n.toNat,om⟩;unfold dP wV wx;rw[show T1 ((u:Int)<0)=UV by simp,qc (u:Int) om];rw[JL 20 u F [] om om om si];unfold Lib.itoa
 simp_all
theorem Kw(ho:iM e):bL λF _=>Dn F e=W0 (iA e 0):=
 (YH ho).fst.mono λF _ h=>by
  unfold Dn RN wx
  simp_all
theorem za{R σ:Type}{body:(σ->O R)->σ->O R}{s:Bs}{p:UInt8->Bool}{fin:Nat->O R}(st:Nat->σ)
  (hs:∀(i:Nat) rc (h:i<s.length),body rc (st i)=cond (p s[i]) (rc (st (i+1))) (fin i)) (he:∀rc,body rc (st s.length)=fin s.length) :
  ∀(k i F:Nat),i+k=s.length->k<F->bW body F (st i)=fin (i+((s.drop i).takeWhile p).length)
 | 0,i,F,h,hF=>by
  cases F with
  | zero=>omega
  | succ F=>
   obtain rfl:i=s.length:=om;rw[KZ]
   exact he _
 | k+1,i,F,h,hF=>by
  cases F with
  | zero=>omega
  | succ F=>
   have hi:i<s.length:=om;show body (bW body F) (st i)=_;rw[hs i _ hi,ua hi,Tk]
   cases p s[i]with
   | false=>simp
   | true=>
    simp only[aY,if_true,qL];rw[za st hs he k (i+1) F om om];congr 1;omega
def bl(b:UInt8):Bool:=(b.toNat:Int)==9||(b.toNat:Int)==10||(b.toNat:Int)==32
def fo(b:UInt8):Bool:=sG (b.toNat:Int)
def dg(b:UInt8):Bool:=fV (b.toNat:Int)
def le(b:UInt8):Bool:=oF (b.toNat:Int)||(b.toNat:Int)==95
def skip(s:Bs)(i:Nat):Nat:=i+((s.drop i).takeWhile bl).length
def lD(s:Bs)(j:Nat):Bs:=(s.drop j).takeWhile fo
def zJ:J Bs:=[[60,60,61],[62,62,61],[60,60],[62,62],[60,61],[62,61],[61,61],[33,61],[38,38],[124,124],[43,61],[45,61],[42,61],[47,61],[37,61],[38,61],[94,61],[124,61]]
def agD:J Bs:=[[43],[45],[42],[47],[37],[60],[62],[38],[94],[124],[33],[126],[63],[58],[40],[41],[61]]
def pQ:J Bs:=zJ++agD
def nM(l:Bs):Bs:=(pQ.find? λo=>o.isPrefixOf l).getD []
def U4(s:Bs)(j:Nat):fF:=
 match s.drop j with
 | []=>⟨0,j,[]⟩
 | b::_=>cond (fo b) ⟨cond (dg b) 1 2,j,lD s j⟩ (cond (nM (s.drop j)==[]) ⟨4,j,[b]⟩ ⟨3,j,nM (s.drop j)⟩)
def uu(s:Bs)(i:Nat):fF:=U4 s (skip s i)
theorem ME{l p:Bs}:(l.take p.length==p)=p.isPrefixOf l:=by
 rw[qb,p7,Zq,List.prefix_iff_eq_take];exact eq_comm
theorem zK(p:α->Bool)(l:J α):(l.takeWhile p).length<=l.length:=(List.takeWhile_sublist _).length_le
theorem iu(s:Bs)(i:Nat)(h:i<=s.length):skip s i<=s.length/\i<=skip s i:=by
 have:=zK bl (s.drop i);rw[Gq]at this;unfold skip;omega
theorem Kx{α:Type}(p:α->Bool):∀l:J α,l.drop (l.takeWhile p).length=l.dropWhile p
 | []=>rfl
 | x::l=>by
  rw[Tk,K1]
  cases p x with
  | true=>simpa using Kx p l
  | false=>rfl
theorem aiu(s:Bs)(i:Nat):s.drop (skip s i)=(s.drop i).dropWhile bl:=by
 unfold skip;rw[<-aeS,Kx]
theorem Ky{α:Type}(p:α->Bool):∀(l:J α)(b:α)(m:J α),l.dropWhile p=b::m->p b=UV
 | [],b,m,h=>by simp at h
 | x::l,b,m,h=>by
  rw[K1]at h
  cases hx:p x with
  | true=>rw[hx]at h;exact Ky p l b m (by simpa using h)
  | false=>rw[hx]at h;simp at h;rw[<-h.1];exact hx
theorem wW(s:Bs)(i:Nat):skip s (skip s i)=skip s i:=by
 have:(s.drop (skip s i)).takeWhile bl=[]:=by
  rw[aiu]
  cases h:(s.drop i).dropWhile bl with
  | nil=>rfl
  | cons b m=>rw[Tk,Ky bl _ b m h];rfl
 rw[skip,this];rfl
theorem akU(F:Nat)(b:UInt8):Dp F (b.toNat:Int)=W0 (bl b):=by
 unfold Dp bl wx;cases ((b.toNat:Int)==9)<;>cases ((b.toNat:Int)==10)<;>rfl
theorem aiv(c:Int):sG c=WF↔(97<=c/\c<=122)\/(65<=c/\c<=90)\/(48<=c/\c<=57)\/c=95:=by
 unfold sG oF fV;simp only[NB,cH,eT,p7];omega
theorem U5(F:Nat)(b:UInt8):oV F (b.toNat:Int)=W0 (fo b):=by
 unfold oV fo wx;generalize(b.toNat:Int)=c
 have:sG c=(c==95||(T1 (48<=c)&&T1 (c<=57))||(T1 (65<=c)&&T1 (c<=90))||(T1 (97<=c)&&T1 (c<=122))):=by
  rw[qb,aiv];simp only[NB,cH,eT,p7];omega
 rw[this];cases (c==95)<;>cases T1 (48<=c)<;>cases T1 (c<=57)<;>cases T1 (65<=c)<;>cases T1 (c<=90)<;>cases T1 (97<=c)<;>cases T1 (c<=122)<;>rfl
theorem wX(F:Nat)(b:UInt8):nY F (b.toNat:Int)=W0 (le b):=by
 unfold nY le oF wx;generalize(b.toNat:Int)=c;cases (c==95)<;>cases T1 (65<=c)<;>cases T1 (c<=90)<;>cases T1 (97<=c)<;>cases T1 (c<=122)<;>rfl
theorem abE(F:Nat)(b:UInt8):zb F (b.toNat:Int)=W0 (dg b):=by
 unfold zb dg fV wx;cases T1 (48<=(b.toNat:Int))<;>rfl
theorem amj(b:UInt8):fo b=(le b||dg b):=by
 unfold fo sG le dg;cases oF (b.toNat:Int)<;>cases fV (b.toNat:Int)<;>cases ((b.toNat:Int)==95)<;>rfl
theorem BA(F:Nat)(a p:Bs):cQ F a p=W0 (p.isPrefixOf a):=by
 unfold cQ ov wx;by_cases h:p.length<=a.length
 ·have e1:T1 ((p.length:Int)<=(a.length:Int))=WF:=ei om
  simp only[e1,Cd,vR,aY,gL,aD];unfold sl;simp only[b9,Int.toNat_zero,PN,ME]
 ·have e1:T1 ((p.length:Int)<=(a.length:Int))=UV:=uc om
  simp only[e1,aM,aD];congr 1;apply Eq.symm;apply Sb.2;intro hp;rw[Zq]at hp;exact h hp.length_le
theorem tT(F:Nat)(s:Bs)(i:Nat)(e pos:Int)(hi:i<=s.length)(hF:s.length<F)(hl:s.length<=1000000):fW F s (i:Int) e pos=W0 (s,(skip s i:Int),e,pos):=by
 unfold fW wx
 exact za (s:=s) (p:=bl) (fin:=λj=>W0 (s,(j:Int),e,pos)) (λj=>(s,(j:Int),e,pos)) (λj rc h=>by
  simp only[yq h,Cd,vR,aY,gL,b9,gd h,bz (i:=j) om];unfold bl;cases ((s[j].toNat:Int)==9)<;>cases ((s[j].toNat:Int)==10)<;>cases ((s[j].toNat:Int)==32)<;>rfl) (λrc=>by
  simp only[He,aM,aD]) (s.length-i) i F om om
theorem U6(s:J α)(i n:Nat):sl s (i:Int) ((i+n:Nat):Int)=(s.drop i).take n:=by
 unfold sl;rw[b9,b9,List.take_drop]
theorem CX{α:Type}(p:α->Bool):∀l:J α,l.take (l.takeWhile p).length=l.takeWhile p
 | []=>rfl
 | x::l=>by
  rw[Tk]
  cases p x with
  | true=>simpa using CX p l
  | false=>rfl
theorem LQ(F:Nat)(s:Bs)(i:Nat)(e pos:Int)(hi:i<=s.length)(hF:s.length<F)(hl:s.length<=1000000):pn F s (i:Int) e pos=W0 (lD s i):=by
 unfold pn wx;have hw:=zK fo (s.drop i);rw[Gq]at hw
 refine(za (s:=s) (p:=fo) (fin:=λ(j:Nat)=>rq ((T1 (0<=(i:Int)))&&((T1 ((i:Int)<=(j:Int)))&&(T1 ((j:Int)<=(s.length:Int))))) (W0 (sl s i j))) (λj=>(j:Int)) (λj rc h=>by
  simp only[yq h,Cd,vR,aY,gL,b9,gd h,bz (i:=j) om,wX,abE,aD];rw[amj];cases le s[j]<;>cases dg s[j]<;>rfl) (λrc=>by
  simp only[He,aM,aD]) (s.length-i) i F om om).trans ?_
 rw[cq (by simp only[cH,eT];omega),U6,CX];rfl
theorem ny(F:Nat)(s:Bs)(i:Nat)(e pos:Int)(hi:i<=s.length)(hF:s.length+50<F)(hl:s.length<=1000000):gW F s (i:Int) e pos=W0 (nM (s.drop (skip s i)),s,(skip s i:Int),e,pos):=by
 unfold gW wx;obtain⟨h1,h2⟩:=iu s i hi;rw[tT F s i e pos hi om hl,show BB F=W0 pQ from rfl];simp only[aD];generalize hj:skip s i=j at h1 h2⊢;have nw:∀o,o∈pQ->o.length<=3:=by decide
 have hlen:pQ.length=35:=rfl;unfold nM;generalize pQ=L at nw hlen⊢;rw[rI L (λk (_:Unit)=>(k:Int)) (λ(_:Unit) o=>cond (o.isPrefixOf (s.drop j)) (W0 (.inr (o,s,(j:Int),e,pos))) (W0 (.inl ()))) (λ_=>W0 ([],s,(j:Int),e,pos)) (t:=()) om ?_ ?_ ?_]
 ·clear nw hlen
  induction L with
  | nil=>rfl
  | cons o l ih=>
   simp only[qq,ND];cases o.isPrefixOf (s.drop j)
   ·simpa[sm]using ih
   ·rfl
 ·rfl
 ·intro k h t rc
  have h3:=nw _ (iJ h);simp only[yq h,Cd,vR,aY,gL,b9,gd h,bz (i:=k) om];rw[bN (x:=(s.length:Int)-(j:Int)) om,bN (x:=(j:Int)+(L[k].length:Int)) om];by_cases hle:L[k].length<=s.length-j
  ·rw[show T1 ((L[k].length:Int)<=(s.length:Int)-(j:Int))=WF from ei om]
   have hc:(T1 ((j:Int)<=(j:Int)+(L[k].length:Int))&&T1 ((j:Int)+(L[k].length:Int)<=(s.length:Int)))=WF:=by
    simp only[cH,eT];omega
   simp only[hc,vR,aY,gL,aD];rw[show(j:Int)+(L[k].length:Int)=((j+L[k].length:Nat):Int) by omega,U6,ME];cases L[k].isPrefixOf (s.drop j)<;>rfl
  ·rw[show T1 ((L[k].length:Int)<=(s.length:Int)-(j:Int))=UV from uc om]
   have:L[k].isPrefixOf (s.drop j)=UV:=by
    apply Sb.2;intro hp;rw[Zq]at hp;have:=hp.length_le;rw[Gq]at this;omega
   rw[this];rfl
 ·intro t rc
  simp only[He,aM]
theorem Ww:∀(l:Bs)(c:UInt8),T1 (0<=Lib.indexByte l c)=l.contains c
 | [],c=>rfl
 | b::l,c=>by
  have ih:=Ww l c;have hge:=Lib.indexByte_ge l c;unfold Lib.indexByte;rw[Zr];by_cases h:b=c
  ·subst h;simp
  ·have h1:(b==c)=UV:=by simpa using h
   have h2:(c==b)=UV:=by simpa using λe:c=b=>h e.symm
   rw[h1,h2];simp only[R5,Nz,R6];rw[<-ih];by_cases hm:Lib.indexByte l c=-1
   ·simp[hm]
   ·have:(Lib.indexByte l c == -1)=UV:=by simpa using hm
    rw[this];simp only[R5,Nz];rw[ei om,ei om]
def U7:Bs:=[43,45,42,47,37,60,62,38,94,124,33,126,63,58,40,41,61]
def zL:Bs:=[61,63,58,124,94,38,60,62,43,45,42,47,37,33,126,40,41]
theorem RO:∀(l:Bs)(b:UInt8)(m:Bs),((l.map λx=>[x]).find? λo=>o.isPrefixOf (b::m))=cond (l.contains b) (W0 [b]) WP
 | [],b,m=>rfl
 | x::l,b,m=>by
  rw[jY,ND,Zr];by_cases h:x=b
  ·subst h;simp[List.isPrefixOf]
  ·have h1:(x==b)=UV:=by simpa using h
   have h2:(b==x)=UV:=by simpa using λe:b=x=>h e.symm
   have h3:[x].isPrefixOf (b::m)=UV:=by simp[List.isPrefixOf,h1]
   rw[h3,h2,RO l b m];rfl
theorem akV(b:UInt8):zL.contains b=U7.contains b:=by
 rw[qb,Zs,Zs];exact⟨λh=>(by decide:∀x,x∈zL->x∈U7) b h,λh=>(by decide:∀x,x∈U7->x∈zL) b h⟩
theorem agE(b:UInt8)(m:Bs):nM (b::m)=match zJ.find? (λo=>o.isPrefixOf (b::m))with|some o=>o|none=>cond (zL.contains b) [b] []:=by
 unfold nM pQ;rw[List.find?_append,show agD=U7.map λx=>[x]from rfl,RO,<-akV]
 cases zJ.find? (λo=>o.isPrefixOf (b::m))with
 | some o=>rfl
 | none=>cases zL.contains b<;>rfl
theorem CY:∀o,o∈pQ->o≠[]:=by decide
theorem OV(l:Bs):nM l=[]\/nM l∈pQ/\nM l <+: l:=by
 unfold nM
 cases h:pQ.find? (λo=>o.isPrefixOf l)with
 | none=>exact .inl rfl
 | some o=>
  right;have h1:=Zk h;have h2:=aeT h;exact⟨h1,Zq.1 h2⟩
theorem Wx(F:Nat)(s:Bs)(i:Nat)(hi:i<=s.length)(hF:s.length+50<F)(hl:s.length<=1000000):uv F s (i:Int)=W0 (uu s i):=by
 unfold uv wx;refine(za (s:=s) (p:=bl) (fin:=λj=>
  (cond ((j:Int)==(s.length:Int))
  (W0 (fF.mk 0 (j:Int) []))
  (rq ((T1 (0<=(j:Int)))&&(T1 ((j:Int)<(s.length:Int)))) ((oV F ((s.getD (Ts (j:Int)) 0).toNat:Int)).bind λx5=>
  cond x5
  (bW (σ:=Int) (R:=fF) (λyp x6=>
  (cond (T1 (x6<(s.length:Int)))
  (rq ((T1 (0<=x6))&&(T1 (x6<(s.length:Int)))) ((oV F ((s.getD (Ts x6) 0).toNat:Int)).bind λx9=>
  W0 x9))
  (W0 UV):Option Bool).bind λx8=>
  cond x8
  (yp (aC (x6+1)))
  ((rq ((T1 (0<=(j:Int)))&&(T1 ((j:Int)<(s.length:Int)))) (cond (T1 (48<=((s.getD (Ts (j:Int)) 0).toNat:Int)))
  (rq ((T1 (0<=(j:Int)))&&(T1 ((j:Int)<(s.length:Int)))) (W0 (T1 (((s.getD (Ts (j:Int)) 0).toNat:Int)<=57))))
  (W0 UV)):Option Bool).bind λcm=>
  cond cm
  (rq ((T1 (0<=(j:Int)))&&((T1 ((j:Int)<=x6))&&(T1 (x6<=(s.length:Int))))) (W0 (fF.mk 1 (j:Int) (sl s (j:Int) x6))))
  (rq ((T1 (0<=(j:Int)))&&((T1 ((j:Int)<=x6))&&(T1 (x6<=(s.length:Int))))) (W0 (fF.mk 2 (j:Int) (sl s (j:Int) x6)))))) F (aC ((j:Int)+1)))
  (bW (σ:=Int) (R:=fF) (λakW fQ=>
  cond (T1 (fQ<(zJ.length:Int)))
  (rq ((T1 (0<=fQ))&&(T1 (fQ<(zJ.length:Int)))) (rq ((T1 (0<=(j:Int)))&&((T1 ((j:Int)<=(s.length:Int)))&&(T1 ((s.length:Int)<=(s.length:Int))))) ((cQ F (sl s (j:Int) (s.length:Int)) (zJ.getD (Ts fQ) [])).bind λfO=>
  cond fO
  (W0 (fF.mk 3 (j:Int) (zJ.getD (Ts fQ) [])))
  (akW (aC (fQ+1))))))
  (rq ((T1 (0<=(j:Int)))&&(T1 ((j:Int)<(s.length:Int)))) ((strings_IndexByte F ([61,63,58,124,94,38,60,62,43,45,42,47,37,33,126,40,41]:Bs) ((s.getD (Ts (j:Int)) 0).toNat:Int)).bind λtj=>
  cond (T1 (0<=tj))
  (rq ((T1 (0<=(j:Int)))&&((T1 ((j:Int)<=aC ((j:Int)+1)))&&(T1 (aC ((j:Int)+1)<=(s.length:Int))))) (W0 (fF.mk 3 (j:Int) (sl s (j:Int) (aC ((j:Int)+1))))))
  (rq ((T1 (0<=(j:Int)))&&((T1 ((j:Int)<=aC ((j:Int)+1)))&&(T1 (aC ((j:Int)+1)<=(s.length:Int))))) (W0 (fF.mk 4 (j:Int) (sl s (j:Int) (aC ((j:Int)+1))))))))) F 0))))) (λj=>(j:Int)) (λj rc h=>by
  simp only[yq h,Cd,vR,aY,gL,b9,gd h,bz (i:=j) om,akU,aD];rfl) (λrc=>by
  simp only[He,aM,aD];rfl) (s.length-i) i F om om).trans ?_
 obtain⟨h1,h2⟩:=iu s i hi;show _=W0 (U4 s (skip s i));rw[show i+((s.drop i).takeWhile bl).length=skip s i from rfl];generalize skip s i=j at h1 h2⊢;unfold U4;by_cases hj:j=s.length
 ·subst hj
  rw[KZ];simp only[Gt,aY]
 ·have hj':j<s.length:=om
  have e0:((j:Int)==(s.length:Int))=UV:=by rw[gH];omega
  simp only[e0,aM,yq hj',Cd,vR,gL,b9,gd hj',U5,aD,bz (i:=j) om];have hd:=ua hj';rw[hd];simp only[]
  cases hfo:fo s[j]with
  | true=>
   simp only[aY];have hw:=zK fo (s.drop (j+1));rw[Gq]at hw
   refine(za (s:=s) (p:=fo) (fin:=λ(k:Nat)=>cond (dg s[j]) (rq ((T1 ((j:Int)<=(k:Int)))&&(T1 ((k:Int)<=(s.length:Int)))) (W0 (fF.mk 1 (j:Int) (sl s j k)))) (rq ((T1 ((j:Int)<=(k:Int)))&&(T1 ((k:Int)<=(s.length:Int)))) (W0 (fF.mk 2 (j:Int) (sl s j k))))) (λk=>(k:Int)) (λk rc h=>by
    simp only[yq h,Cd,vR,aY,gL,b9,gd h,bz (i:=k) om,U5,aD,Jq];unfold dg fV;cases fo s[k]<;>cases T1 (48<=(s[j].toNat:Int))<;>cases T1 ((s[j].toNat:Int)<=57)<;>rfl) (λrc=>by
    simp only[He,aM,aD,Jq];unfold dg fV;cases T1 (48<=(s[j].toNat:Int))<;>cases T1 ((s[j].toNat:Int)<=57)<;>rfl) (s.length-(j+1)) (j+1) F om om).trans ?_
   have hlen:((s.drop j).takeWhile fo).length=1+((s.drop (j+1)).takeWhile fo).length:=by
    rw[hd,Tk,hfo];simp;omega
   have hc:(T1 ((j:Int)<=((j+1+((s.drop (j+1)).takeWhile fo).length:Nat):Int))&&T1 (((j+1+((s.drop (j+1)).takeWhile fo).length:Nat):Int)<=(s.length:Int)))=WF:=by
    simp only[cH,eT];omega
   have Mn:sl s (j:Int) ((j+1+((s.drop (j+1)).takeWhile fo).length:Nat):Int)=lD s j:=by
    rw[show j+1+((s.drop (j+1)).takeWhile fo).length=j+((s.drop j).takeWhile fo).length by omega,U6,CX];rfl
   rw[hc,Mn]
   cases dg s[j]<;>rfl
  | false=>
   simp only[aM];have nw:∀o,o∈zJ->o.length<=3:=by decide
   have hlen:zJ.length=18:=rfl;rw[<-hd,hd,agE];have hne:∀o,o∈zJ->o≠[]:=by decide
   generalize zJ=L at nw hlen hne⊢;have h1:aC ((j:Int)+1)=((j+1:Nat):Int):=bz om;have hs1:sl s (j:Int) ((j+1:Nat):Int)=[s[j]]:=by rw[U6,hd];rfl
   have Mn:sl s (j:Int) (s.length:Int)=s.drop j:=by
    unfold sl;rw[b9,b9,vQ]
   have hc:(T1 ((j:Int)<=((j+1:Nat):Int))&&T1 (((j+1:Nat):Int)<=(s.length:Int)))=WF:=by
    simp only[cH,eT];omega
   have Ki:(T1 ((j:Int)<=(s.length:Int))&&T1 ((s.length:Int)<=(s.length:Int)))=WF:=by
    simp only[cH,eT];omega
   rw[rI L (λk (_:Unit)=>(k:Int)) (λ(_:Unit) o=>cond (o.isPrefixOf (s.drop j)) (W0 (.inr (fF.mk 3 (j:Int) o))) (W0 (.inl ()))) (λ_=>cond (zL.contains s[j]) (W0 (fF.mk 3 (j:Int) [s[j]])) (W0 (fF.mk 4 (j:Int) [s[j]]))) (t:=()) om ?_ ?_ ?_]
   ·have key:∀l:J Bs,qq (λ(_:Unit)(o:Bs)=>cond (o.isPrefixOf (s.drop j)) (W0 (.inr (fF.mk 3 (j:Int) o))) (W0 (.inl ()))) (λ_=>cond (zL.contains s[j]) (W0 (fF.mk 3 (j:Int) [s[j]])) (W0 (fF.mk 4 (j:Int) [s[j]]))) l ()=match l.find? (λo=>o.isPrefixOf (s.drop j))with|some o=>W0 (fF.mk 3 (j:Int) o)|none=>cond (zL.contains s[j]) (W0 (fF.mk 3 (j:Int) [s[j]])) (W0 (fF.mk 4 (j:Int) [s[j]])):=by
     intro l
     induction l with
     | nil=>rfl
     | cons o l ih=>
      simp only[qq,ND];cases o.isPrefixOf (s.drop j)
      ·simpa[sm]using ih
      ·rfl
    rw[key,<-hd]
    cases hf:L.find? (λo=>o.isPrefixOf (s.drop j))with
    | some o=>
     have h1:=hne o (Zk hf);have:(o==[])=UV:=by simpa using h1
     simp only[this,aM]
    | none=>cases zL.contains s[j]<;>rfl
   ·rfl
   ·intro k h t rc
    simp only[yq h,Cd,vR,aY,gL,b9,gd h,bz (i:=k) om,Ki,Mn,BA,aD];cases L[k].isPrefixOf (s.drop j)<;>rfl
   ·intro t rc
    have hix:strings_IndexByte F zL (s[j].toNat:Int)=W0 (Lib.indexByte zL s[j]):=by
     unfold strings_IndexByte stringslite_IndexByte q9 Xo wx;simp
    simp only[He,aM];show(strings_IndexByte F zL (s[j].toNat:Int)).bind _=_;rw[hix];simp only[aD,Ww,hc,hs1,gL,Jq]
theorem OW{R σ α:Type}{body:(σ->O R)->σ->O R}{l:J α}{p:α->Bool}{z:O R}(st:Nat->σ)(hs:∀(i:Nat) rc (h:i<l.length),body rc (st i)=cond (p l[i]) (rc (st (i+1))) z):
  ∀(k i F:Nat),i+k=l.length->k<F->(l.drop i).all p=UV->bW body F (st i)=z
 | 0,i,F,h,hF,hb=>by
  simp_all
 | k+1,i,F,h,hF,hb=>by
  cases F with
  | zero=>omega
  | succ F=>
   have hi:i<l.length:=om;show body (bW body F) (st i)=z;rw[hs i _ hi];rw[ua hi,Tj]at hb
   cases hp:p l[i]with
   | false=>rfl
   | true=>
    rw[hp]at hb;exact OW st hs k (i+1) F om om hb
def aq7:Bs:=[48,49,50,51,52,53,54,55,56,57,97,98,99,100,101,102]
def dR(b:UInt8):Int:=cond (dg b) ((b.toNat:Int)-48) (cond (T1 (97<=(b.toNat:Int))&&T1 ((b.toNat:Int)<=102)) ((b.toNat:Int)-87) (cond (T1 (65<=(b.toNat:Int))&&T1 ((b.toNat:Int)<=70)) ((b.toNat:Int)-55) (-1)))
def dA(b:UInt8):Int:=Lib.indexByte aq7 (Rq .u8 (b.toNat:Int) (cond (T1 (65<=(b.toNat:Int))&&T1 ((b.toNat:Int)<=90)) 32 0)).toNat.toUInt8
theorem apC:∀n:Fin 256,dA (UInt8.ofNat n.val)=dR (UInt8.ofNat n.val):=by decide +kernel
theorem SO{P:UInt8->Prop}(h:∀n:Fin 256,P (UInt8.ofNat n.val))(b:UInt8):P b:=by
 have:=h ⟨b.toNat,b.toNat_lt⟩;simpa using this
theorem aq8(b:UInt8):dA b=dR b:=SO (P:=λb=>dA b=dR b) apC b
def okD(base:Int)(l:Bs):Bool:=l.all λb=>T1 (0<=dR b)&&T1 (dR b<base)
def sg(base v:Nat)(l:Bs):Nat:=l.foldl (λv b=>v*base+(dR b).toNat) v
theorem Wy(base:Nat)(hb:1<=base):∀(l:Bs)(v:Nat),v<=sg base v l
 | [],v=>eu _
 | b::l,v=>by
  have h1:=Wy base hb l (v*base+(dR b).toNat);have h2:=aeU v hb;show v<=sg base (v*base+(dR b).toNat) l;omega
def qt(base v:Nat)(l:Bs):Int×Int:=cond (okD (base:Int) l) (cond (T1 (sg base v l<=9223372036854775807)) ((sg base v l:Int),0) (0,14)) (0,6)
def rC(s:Bs):Nat×Bs:=
 cond ((([48,120]:Bs).isPrefixOf s)||(([48,88]:Bs).isPrefixOf s)) (16,s.drop 2) (cond (((s.getD 0 0).toNat:Int)==48) (8,s) (10,s))
def oW(s:Bs):Int×Int:=cond ((rC s).2==[]) (0,6) (qt (rC s).1 0 (rC s).2)
theorem div_lt{d base most:Int}(hb:1<=base)(hd:0<=d)(T9:d<=most):(most-d) / base<n↔most<n*base+d:=by
 grind[Int.ediv_lt_iff_lt_mul]
theorem IM(base:Nat)(hb:1<=base/\base<=16):∀(l:Bs)(n:Int)(Hh:Bool)(v:Nat),(Hh=UV->n=(v:Int)/\v<=9223372036854775807)->(Hh=WF->9223372036854775807<v) ->
  qq (λt (b:UInt8)=>cond (T1 (dR b<0)||decide ((base:Int)<=dR b)) (W0 (.inr ((0,6):Int×Int))) (cond (t.2||decide (aC (Int.tdiv (aC (9223372036854775807-dR b)) (base:Int))<t.1)) (W0 (.inl (t.1,WF))) (W0 (.inl (aC (aC (t.1*(base:Int))+dR b),t.2)))))
   (λt=>cond t.2 (W0 (0,14)) (W0 (t.1,0))) l (n,Hh)=W0 (qt base v l)
 | [],n,Hh,v,h1,h2=>by
  cases Hh with
  | false=>
   obtain⟨rfl,h⟩:=h1 rfl
   simp[qq,qt,okD,sg,h]
  | true=>
   have h3:¬ v<=9223372036854775807:=by have:=h2 rfl;omega
   simp[qq,qt,okD,sg,h3]
 | b::l,n,Hh,v,h1,h2=>by
  simp[qq];by_cases hbad:dR b<0\/(base:Int)<=dR b
  ·have e1:(T1 (dR b<0)||decide ((base:Int)<=dR b))=WF:=by simpa using hbad
   have e2:okD (base:Int) (b::l)=UV:=by
    unfold okD
    grind
   rw[e1];simp[qt,e2,sm]
  ·have e1:(T1 (dR b<0)||decide ((base:Int)<=dR b))=UV:=by
    simp_all
   have e2:okD (base:Int) (b::l)=okD (base:Int) l:=by
    unfold okD
    simp_all
   have e3:qt base v (b::l)=qt base (v*base+(dR b).toNat) l:=by
    unfold qt;rw[e2];rfl
   rw[e1,e3]
   have hm:((v*base+(dR b).toNat:Nat):Int)=(v:Int)*(base:Int)+dR b:=by
    grind
   have hvb:=aeU v hb.1
   cases Hh with
   | true=>
    have:=h2 rfl
    exact IM base hb l n WF _ (λh=>by cases h) λ_=>by omega
   | false=>
    obtain⟨rfl,hv⟩:=h1 rfl;rw[bN (x:=9223372036854775807-dR b) om,show aC (Int.tdiv (9223372036854775807-dR b) (base:Int))=(9223372036854775807-dR b) / (base:Int)from IntWalk.i64_quo _ _ om];by_cases hx:(9223372036854775807-dR b) / (base:Int)<(v:Int)
    ·rw[ei hx]
     rw[div_lt om om om]at hx;exact IM base hb l v WF _ (λh=>by cases h) λ_=>by omega
    ·rw[uc hx]
     rw[div_lt om om om]at hx;rw[bN (x:=(v:Int)*(base:Int)) om,bN om];exact IM base hb l _ UV _ (λ_=>⟨hm.symm,om⟩) λh=>by cases h
theorem akX(F:Nat)(c:Int):Dq F c=W0 (cond (T1 (65<=c)&&T1 (c<=90)) 32 0):=by
 unfold Dq wx;grind
theorem abF(s:Bs):(1<=(rC s).1/\(rC s).1<=16)/\(rC s).2.length<=s.length:=by
 unfold rC
 grind
theorem akY(F:Nat)(s:Bs)(h0:s≠[])(hF:s.length<F)(hl:s.length<=1000000):ze F s=W0 (oW s):=by
 obtain⟨hb,hlen⟩:=abF s;have hpos:=Aw.2 h0
 have e1:((cQ F s ([48,120]:Bs)).bind λx3=>cond x3 (W0 WF) ((cQ F s ([48,88]:Bs)).bind λx4=>W0 x4):O Bool)=W0 (([48,120]:Bs).isPrefixOf s||([48,88]:Bs).isPrefixOf s):=by
  grind[BA]
 have Cb:(cond (([48,120]:Bs).isPrefixOf s||([48,88]:Bs).isPrefixOf s)
   (rq ((T1 (2<=(s.length:Int)))&&(T1 ((s.length:Int)<=(s.length:Int)))) (W0 ((16:Int),sl s 2 (s.length:Int))))
   (rq (T1 (0<(s.length:Int))) (cond (((s.getD 0 0).toNat:Int)==48) (W0 (8,s)) (W0 (10,s)))):O (Int×Bs))=W0 (((rC s).1:Int),(rC s).2):=by
  unfold rC
  cases hp:(([48,120]:Bs).isPrefixOf s||([48,88]:Bs).isPrefixOf s)with
  | true=>
   rw[cq (by grind)];unfold sl
   simp
  | false=>
   simp;rw[cq (by simp_all)]
   grind
 unfold ze wx;rw[e1];simp only[aD];rw[Cb];simp only[aD];unfold oW;generalize(rC s).2=l at hlen⊢;generalize(rC s).1=base at hb⊢
 cases (l==[])with
 | true=>rfl
 | false=>
  rw[rI l (λi (t:Int×Bool)=>(t.1,t.2,(i:Int))) (λt (b:UInt8)=>cond (T1 (dR b<0)||decide ((base:Int)<=dR b)) (W0 (.inr ((0,6):Int×Int))) (cond (t.2||decide (aC (Int.tdiv (aC (9223372036854775807-dR b)) (base:Int))<t.1)) (W0 (.inl (t.1,WF))) (W0 (.inl (aC (aC (t.1*(base:Int))+dR b),t.2)))))
    (λt=>cond t.2 (W0 (0,14)) (W0 (t.1,0))) (t:=(0,UV)) om ?_ ?_ ?_]
  ·grind[IM]
  ·rfl
  ·intro i h t rc
   simp only[yq h,Cd,vR,aY,gL,b9,gd h,bz (i:=i) om,akX,aD]
   have hix:strings_IndexByte F ([48,49,50,51,52,53,54,55,56,57,97,98,99,100,101,102]:Bs) (Rq .u8 (l[i].toNat:Int) (cond (T1 (65<=(l[i].toNat:Int))&&T1 ((l[i].toNat:Int)<=90)) 32 0))=W0 (dR l[i]):=by
    rw[<-aq8];rfl
   rw[hix];have hz:(!((base:Int)==0))=WF:=by simp;omega
   simp only[aD,hz,gL];cases T1 (dR l[i]<0)<;>cases T1 ((base:Int)<=dR l[i])<;>cases t.2<;>simp
   all_goals first|rfl|(cases T1 (aC (Int.tdiv (aC (9223372036854775807-dR l[i])) (base:Int))<t.1)<;>rfl)
  simp_all
theorem va(F:Nat)(b:UInt8)(base:Int):zf F (b.toNat:Int) base=W0 (cond (T1 (base<=dR b)) (-1) (dR b)):=by
 have hb:=b.toNat_lt;unfold zf wx;rw[abE];simp only[aD];unfold dR
 cases hd:dg b with
 | true=>
  unfold dg fV at hd;simp only[cH,eT]at hd;simp only[aY,aD];rw[PO _ om,bN om]
  grind
 | false=>
  simp only[aM];by_cases h3:97<=(b.toNat:Int)/\(b.toNat:Int)<=102
  ·rw[ei h3.1,ei h3.2,PO _ om,bN (x:=(b.toNat:Int)-97) om,bN (x:=(b.toNat:Int)-97+10) om]
   grind
  ·have e3:(T1 (97<=(b.toNat:Int))&&T1 ((b.toNat:Int)<=102))=UV:=by
    simp_all
   have e3':(cond (T1 (97<=(b.toNat:Int))) (W0 (T1 ((b.toNat:Int)<=102))) (W0 UV):O Bool)=W0 UV:=by
    grind
   rw[e3',e3];simp only[aD,aM];by_cases h4:65<=(b.toNat:Int)/\(b.toNat:Int)<=70
   ·rw[ei h4.1,ei h4.2,PO _ om,bN (x:=(b.toNat:Int)-65) om,bN (x:=(b.toNat:Int)-65+10) om]
    grind
   grind
theorem agF{base:Int}(hb:1<=base)(b:UInt8):T1 (cond (T1 (base<=dR b)) (-1) (dR b)<0)=!(T1 (0<=dR b)&&T1 (dR b<base)):=by
 grind
theorem Yf(base:Nat)(hb:1<=base/\base<=16):∀(l:Bs)(v:Nat),okD (base:Int) l=WF->v<=9223372036854775808 ->
  ∃n e,qq (λt (b:UInt8)=>cond (T1 (Sx .u64 (Int.tdiv (Sx .u64 (9223372036854775808-(Sx .u64 (dR b)))) (base:Int))<t)) (W0 (.inr ((0,14):Int×Int))) (W0 (.inl (Sx .u64 ((Sx .u64 (t*(base:Int)))+(Sx .u64 (dR b)))))))
   (λt=>W0 (t,0)) l (v:Int)=W0 (n,e)/\(cond (e==0&&T1 (9223372036854775807<n)) 14 e=(qt base v l).2)/\((qt base v l).2=0->n=(qt base v l).1)
 | [],v,_,hv=>by
  refine⟨v,0,rfl,?_⟩;by_cases h:v<=9223372036854775807
  ·have:¬ 9223372036854775807<(v:Int):=om
   simp[qt,okD,sg,h,this]
  ·have:9223372036854775807<(v:Int):=om
   simp[qt,okD,sg,h,this]
 | b::l,v,ho,hv=>by
  have ho':(0<=dR b/\dR b<base)/\okD (base:Int) l=WF:=by
   unfold okD at ho⊢
   simp_all
  obtain⟨⟨h0,h1⟩,h2⟩:=ho'
  have hm:((v*base+(dR b).toNat:Nat):Int)=(v:Int)*(base:Int)+dR b:=by
   grind
  have e3:qt base v (b::l)=qt base (v*base+(dR b).toNat) l:=by
   unfold qt;rw[ho,h2];rfl
  simp[qq];rw[qc (dR b) om,qc (9223372036854775808-dR b) om,aeV _ _ om];by_cases hx:(9223372036854775808-dR b) / (base:Int)<(v:Int)
  ·refine⟨0,14,?_,?_⟩
   ·rw[ei hx];rfl
   ·rw[div_lt om om om]at hx
    have hge:=Wy base hb.1 l (v*base+(dR b).toNat);have:¬ sg base (v*base+(dR b).toNat) l<=9223372036854775807:=om;rw[e3];simp[qt,h2,this]
  ·have hx':=hx
   rw[div_lt om om om]at hx';rw[uc hx,qc ((v:Int)*(base:Int)) om,qc ((v:Int)*(base:Int)+dR b) om,e3,<-hm];exact Yf base hb l _ h2 om
def jX(s:Bs):Nat×Bs:=
 cond (T1 (2<(s.length:Int))&&((((s.getD 0 0).toNat:Int)==48)&&((((s.getD 1 0).toNat:Int)==120)||(((s.getD 1 0).toNat:Int)==88)))) (16,s.drop 2) (cond (T1 (1<(s.length:Int))&&(((s.getD 0 0).toNat:Int)==48)) (8,s.drop 1) (10,s))
theorem aiw(base:Nat)(h:1<=base)(t:Bs):qt base 0 (48::t)=qt base 0 t:=by
 have e1:okD (base:Int) (48::t)=okD (base:Int) t:=by
  unfold okD;rw[Tj,show dR 48=0 from rfl,ei om,ei om];rfl
 have e2:sg base 0 (48::t)=sg base 0 t:=by
  unfold sg;rw[vS,show dR 48=0 from rfl];simp
 unfold qt;rw[e1,e2]
theorem ofNat_eq{b:UInt8}{n:Nat}(hn:n<256)(h:((b.toNat:Int)==(n:Int))=WF):b=UInt8.ofNat n:=by
 have:b.toNat=n:=by
  grind
 rw[<-this];simp
theorem aix(s:Bs)(h0:s≠[]):oW s=cond ((jX s).2==[]) (0,6) (qt (jX s).1 0 (jX s).2):=by
 match s,h0 with
 | [a],_=>
  unfold oW rC jX;have p1:([48,120]:Bs).isPrefixOf [a]=UV:=by simp[List.isPrefixOf]
  have p2:([48,88]:Bs).isPrefixOf [a]=UV:=by simp[List.isPrefixOf]
  rw[p1,p2]
  cases ha:((([a].getD 0 0).toNat:Int)==48)with
  | false=>rfl
  | true=>
   obtain rfl:=ofNat_eq de ha
   rfl
 | a::b::t,_=>
  unfold oW rC jX;simp
  have p1:([48,120]:Bs).isPrefixOf (a::b::t)=(((a.toNat:Int)==48)&&((b.toNat:Int)==120)):=by
   rw[qb];simp;constructor
   ·rintro⟨rfl,rfl⟩;exact⟨rfl,rfl⟩
   ·rintro⟨h1,h2⟩
    exact⟨(ofNat_eq de (by simpa using h1)).symm,(ofNat_eq de (by simpa using h2)).symm⟩
  have p2:([48,88]:Bs).isPrefixOf (a::b::t)=(((a.toNat:Int)==48)&&((b.toNat:Int)==88)):=by
   rw[qb];simp;constructor
   ·rintro⟨rfl,rfl⟩;exact⟨rfl,rfl⟩
   ·rintro⟨h1,h2⟩
    exact⟨(ofNat_eq de (by simpa using h1)).symm,(ofNat_eq de (by simpa using h2)).symm⟩
  rw[p1,p2];have hl1:T1 (1<((a::b::t).length:Int))=WF:=by simp;omega
  cases ha:((a.toNat:Int)==48)with
  | false=>simp
  | true=>
   obtain rfl:=ofNat_eq de ha;simp
   cases hx:(((b.toNat:Int)==120)||((b.toNat:Int)==88))with
   | false=>
    simp_all[PJ,aM,aiw]
   | true=>
    cases t with
    | nil=>
     simp only[NB]at hx;rcases hx with hx|hx
     ·obtain rfl:=ofNat_eq de hx;rfl
     ·obtain rfl:=ofNat_eq de hx;rfl
    | cons c t=>
     grind
theorem abG(F:Nat)(s:Bs)(h0:s≠[])(hF:s.length<F)(hl:s.length<=1000000):
  ∃n e,lU F s=W0 (n,e)/\(cond (e==0&&T1 (9223372036854775807<n)) 14 e=(oW s).2)/\((oW s).2=0->n=(oW s).1):=by
 have hpos:0<s.length:=Aw.2 h0
 have hb:(1<=(jX s).1/\(jX s).1<=16)/\(jX s).2.length<=s.length:=by
  unfold jX
  grind
 rw[aix s h0];unfold lU wx
 have Ur:((cond (T1 (2<(s.length:Int)))
   (rq (T1 (0<(s.length:Int))) (W0 (((s.getD 0 0).toNat:Int)==48)))
   (W0 UV):O Bool).bind λx2=>
   (cond x2
   (rq (T1 (1<(s.length:Int))) (cond (((s.getD 1 0).toNat:Int)==120)
   (W0 WF)
   (rq (T1 (1<(s.length:Int))) (W0 (((s.getD 1 0).toNat:Int)==88)))))
   (W0 UV):O Bool).bind λx3=>
   cond x3
   (rq ((T1 (2<=(s.length:Int)))&&(T1 ((s.length:Int)<=(s.length:Int)))) (W0 (sl s 2 (s.length:Int),(16:Int))))
   ((cond (T1 (1<(s.length:Int)))
   (rq (T1 (0<(s.length:Int))) (W0 (((s.getD 0 0).toNat:Int)==48)))
   (W0 UV):O Bool).bind λx4=>
   cond x4
   (rq ((T1 (1<=(s.length:Int)))&&(T1 ((s.length:Int)<=(s.length:Int)))) (W0 (sl s 1 (s.length:Int),8)))
   (W0 (s,10))):O (Bs×Int))=W0 ((jX s).2,((jX s).1:Int)):=by
  have s2:sl s 2 (s.length:Int)=s.drop 2:=by unfold sl;simp
  have s1:sl s 1 (s.length:Int)=s.drop 1:=by unfold sl;simp
  rw[show T1 (0<(s.length:Int))=WF from ei om,show T1 (1<=(s.length:Int))=WF from ei om,show T1 ((s.length:Int)<=(s.length:Int))=WF from ei om,s1,s2];unfold jX;by_cases h2:2<(s.length:Int)
  ·rw[ei h2,show T1 (1<(s.length:Int))=WF from ei om,show T1 (2<=(s.length:Int))=WF from ei om]
   cases (((s.getD 0 0).toNat:Int)==48)<;>cases (((s.getD 1 0).toNat:Int)==120)<;>cases (((s.getD 1 0).toNat:Int)==88)<;>rfl
  ·rw[uc h2]
   cases T1 (1<(s.length:Int))<;>cases (((s.getD 0 0).toNat:Int)==48)<;>rfl
 rw[Ur];simp only[aD];obtain⟨hb,hlen⟩:=hb;generalize(jX s).2=l at hlen⊢;generalize(jX s).1=base at hb⊢
 cases (l==[])with
 | true=>grind
 | false=>
  simp only[aM]
  cases hok:okD (base:Int) l with
  | false=>
   refine⟨0,6,?_,?_⟩
   ·refine OW (l:=l) (p:=λb=>T1 (0<=dR b)&&T1 (dR b<(base:Int))) (λi=>(i:Int)) (λi rc h=>?_) l.length 0 F om om (by rw[PN];exact hok)
    simp only[yq h,Cd,vR,aY,gL,b9,gd h,bz (i:=i) om,va,aD,agF (base:=(base:Int)) om]
    grind
   ·unfold qt
    simp_all
  | true=>
   obtain⟨n,e,h1,h2⟩:=Yf base hb l 0 hok om;refine⟨n,e,?_,h2⟩;refine OT (λi=>(i:Int)) l.length om rfl ?_ ?_
   ·intro i rc h
    have hi:(T1 (0<=dR l[i])&&T1 (dR l[i]<(base:Int)))=WF:=by
     unfold okD at hok
     simp_all
    simp only[yq h,Cd,vR,aY,gL,b9,gd h,bz (i:=i) om,va,aD,agF (base:=(base:Int)) om,hi];rfl
   ·intro rc
    simp only[He,aM];rw[<-h1];refine rI l (λi (t:Int)=>(t,(i:Int))) _ _ om rfl ?_ ?_
    ·intro i h t rc
     have hi:(T1 (0<=dR l[i])&&T1 (dR l[i]<(base:Int)))=WF:=by
      unfold okD at hok
      simp_all
     have hw:Sx .u64 (base:Int)=(base:Int):=qc (base:Int) om;have hz:(!((base:Int)==0))=WF:=by simp;omega
     have hv:cond (T1 ((base:Int)<=dR l[i])) (-1) (dR l[i])=dR l[i]:=by
      grind
     simp only[yq h,Cd,vR,aY,gL,b9,gd h,bz (i:=i) om,va,aD,hw,hz,hv];generalize T1 (Sx .u64 (Int.tdiv (Sx .u64 (9223372036854775808-(Sx .u64 (dR l[i])))) (base:Int))<t)=c;cases c<;>rfl
    simp_all
def qP(base v:Nat)(l:Bs):Int×Int:=cond (okD (base:Int) l) (cond (T1 (sg base v l<=9223372036854775808)) ((sg base v l:Int),0) (0,14)) (0,6)
def sH(s:Bs):Nat×Bs:=
 cond ((([48,120]:Bs).isPrefixOf s)||(([48,88]:Bs).isPrefixOf s)) (16,s.drop 2) (cond (([48]:Bs).isPrefixOf s) (8,s) (10,s))
def oX(s:Bs):Int×Int:=cond ((sH s).2==[]) (0,6) (qP (sH s).1 0 (sH s).2)
def dC(b:UInt8):Int:=cond (T1 (0<=dR b)) (dR b) 16
theorem aiy(F:Nat)(b:UInt8):Fz F (b.toNat:Int)=W0 (dC b):=by
 unfold Fz dC dR dg fV wx;by_cases h1:48<=(b.toNat:Int)/\(b.toNat:Int)<=57
 ·rw[ei h1.2,PO ((b.toNat:Int)-48) om,qc ((b.toNat:Int)-48) om]
  simp_all
 ·have e1:(T1 (48<=(b.toNat:Int))&&T1 ((b.toNat:Int)<=57))=UV:=by
   simp_all
  have e1':(cond (T1 (48<=(b.toNat:Int))) (W0 (T1 ((b.toNat:Int)<=57))) (W0 UV):O Bool)=W0 UV:=by
   grind
  by_cases h3:97<=(b.toNat:Int)/\(b.toNat:Int)<=102
  ·rw[ei h3.2,PO ((b.toNat:Int)-97) om,qc ((b.toNat:Int)-97) om,qc ((b.toNat:Int)-97+10) om]
   grind
  ·have e3:(T1 (97<=(b.toNat:Int))&&T1 ((b.toNat:Int)<=102))=UV:=by
    simp_all
   have e3':(cond (T1 (97<=(b.toNat:Int))) (W0 (T1 ((b.toNat:Int)<=102))) (W0 UV):O Bool)=W0 UV:=by
    grind
   by_cases h4:65<=(b.toNat:Int)/\(b.toNat:Int)<=70
   ·rw[ei h4.2,PO ((b.toNat:Int)-65) om,qc ((b.toNat:Int)-65) om,qc ((b.toNat:Int)-65+10) om]
    grind
   grind
theorem Qz(base:Nat)(hb:1<=base/\base<=16):∀(l:Bs)(n:Int)(Hh:Bool)(v:Nat),(Hh=UV->n=(v:Int)/\v<=9223372036854775808)->(Hh=WF->9223372036854775808<v) ->
  qq (λt (b:UInt8)=>cond (T1 ((base:Int)<=dC b)) (W0 (.inr ((0,6):Int×Int))) (cond (t.2||decide (Sx .u64 (Int.tdiv (Sx .u64 (9223372036854775808-dC b)) (base:Int))<t.1)) (W0 (.inl (t.1,WF))) (W0 (.inl (Sx .u64 ((Sx .u64 (t.1*(base:Int)))+dC b),t.2)))))
   (λt=>cond t.2 (W0 (0,14)) (W0 (t.1,0))) l (n,Hh)=W0 (qP base v l)
 | [],n,Hh,v,h1,h2=>by
  cases Hh with
  | false=>
   obtain⟨rfl,h⟩:=h1 rfl
   simp[qq,qP,okD,sg,h]
  | true=>
   have h3:¬ v<=9223372036854775808:=by have:=h2 rfl;omega
   simp[qq,qP,okD,sg,h3]
 | b::l,n,Hh,v,h1,h2=>by
  simp[qq];by_cases hbad:dR b<0\/(base:Int)<=dR b
  ·have e1:T1 ((base:Int)<=dC b)=WF:=by
    unfold dC
    grind
   have e2:okD (base:Int) (b::l)=UV:=by
    unfold okD
    grind
   rw[e1];simp[qP,e2,sm]
  ·have hdc:dC b=dR b:=by unfold dC;simp_all
   have e1:T1 ((base:Int)<=dC b)=UV:=by simp_all
   have e2:okD (base:Int) (b::l)=okD (base:Int) l:=by
    unfold okD
    simp_all
   have e3:qP base v (b::l)=qP base (v*base+(dR b).toNat) l:=by
    unfold qP;rw[e2];rfl
   rw[e1,e3,hdc]
   have hm:((v*base+(dR b).toNat:Nat):Int)=(v:Int)*(base:Int)+dR b:=by
    grind
   have hvb:=aeU v hb.1
   cases Hh with
   | true=>
    have:=h2 rfl
    exact Qz base hb l n WF _ (λh=>by cases h) λ_=>by omega
   | false=>
    obtain⟨rfl,hv⟩:=h1 rfl;rw[qc (9223372036854775808-dR b) om,aeV _ _ om];by_cases hx:(9223372036854775808-dR b) / (base:Int)<(v:Int)
    ·rw[ei hx]
     rw[div_lt om om om]at hx;exact Qz base hb l v WF _ (λh=>by cases h) λ_=>by omega
    ·rw[uc hx]
     rw[div_lt om om om]at hx;rw[qc ((v:Int)*(base:Int)) om,qc ((v:Int)*(base:Int)+dR b) om];exact Qz base hb l _ UV _ (λ_=>⟨hm.symm,om⟩) λh=>by cases h
theorem abH(s:Bs):(1<=(sH s).1/\(sH s).1<=16)/\(sH s).2.length<=s.length:=by
 unfold sH
 grind
theorem apD(F:Nat)(s:Bs)(hF:s.length<F)(hl:s.length<=1000000):xW F s=W0 (oX s):=by
 obtain⟨hb,hlen⟩:=abH s
 have e1:((cQ F s ([48,120]:Bs)).bind λx3=>cond x3 (W0 WF) ((cQ F s ([48,88]:Bs)).bind λx4=>W0 x4):O Bool)=W0 (([48,120]:Bs).isPrefixOf s||([48,88]:Bs).isPrefixOf s):=by
  grind[BA]
 have Cb:(cond (([48,120]:Bs).isPrefixOf s||([48,88]:Bs).isPrefixOf s)
   (rq ((T1 (2<=(s.length:Int)))&&(T1 ((s.length:Int)<=(s.length:Int)))) (W0 ((16:Int),sl s 2 (s.length:Int))))
   ((cQ F s ([48]:Bs)).bind λx5=>cond x5 (W0 (8,s)) (W0 (10,s))):O (Int×Bs))=W0 (((sH s).1:Int),(sH s).2):=by
  unfold sH
  cases hp:(([48,120]:Bs).isPrefixOf s||([48,88]:Bs).isPrefixOf s)with
  | true=>
   rw[cq (by grind)];unfold sl
   simp
  | false=>
   simp[BA]
   grind
 unfold xW wx;rw[e1];simp only[aD];rw[Cb];simp only[aD];unfold oX;generalize(sH s).2=l at hlen⊢;generalize(sH s).1=base at hb⊢
 cases (l==[])with
 | true=>rfl
 | false=>
  rw[rI l (λi (t:Int×Bool)=>(t.1,t.2,(i:Int))) (λt (b:UInt8)=>cond (T1 ((base:Int)<=dC b)) (W0 (.inr ((0,6):Int×Int))) (cond (t.2||decide (Sx .u64 (Int.tdiv (Sx .u64 (9223372036854775808-dC b)) (base:Int))<t.1)) (W0 (.inl (t.1,WF))) (W0 (.inl (Sx .u64 ((Sx .u64 (t.1*(base:Int)))+dC b),t.2)))))
    (λt=>cond t.2 (W0 (0,14)) (W0 (t.1,0))) (t:=(0,UV)) om ?_ ?_ ?_]
  ·grind[Qz]
  ·rfl
  ·intro i h t rc
   have hz:(!((base:Int)==0))=WF:=by simp;omega
   simp only[yq h,b9,gd h,bz (i:=i) om,aiy,aD,hz];cases T1 ((base:Int)<=dC l[i])<;>cases t.2<;>simp
   all_goals first|rfl|(generalize T1 (Sx .u64 (Int.tdiv (Sx .u64 (9223372036854775808-dC l[i])) (base:Int))<t.1)=c;cases c<;>rfl)
  simp_all
theorem U8(base:Nat)(hb:1<=base/\base<=16):∀(l:Bs)(v:Nat),okD (base:Int) l=WF->v<=9223372036854775808 ->
  qq (λt (b:UInt8)=>cond (T1 (Sx .u64 (Int.tdiv (Sx .u64 (9223372036854775808-(Sx .u64 (dR b)))) (base:Int))<t)) (W0 (.inr ((0,14):Int×Int))) (W0 (.inl (Sx .u64 ((Sx .u64 (t*(base:Int)))+(Sx .u64 (dR b)))))))
   (λt=>W0 (t,0)) l (v:Int)=W0 (qP base v l)
 | [],v,_,hv=>by simp[qq,qP,okD,sg,hv]
 | b::l,v,ho,hv=>by
  have ho':(0<=dR b/\dR b<base)/\okD (base:Int) l=WF:=by
   unfold okD at ho⊢
   simp_all
  obtain⟨⟨h0,h1⟩,h2⟩:=ho'
  have hm:((v*base+(dR b).toNat:Nat):Int)=(v:Int)*(base:Int)+dR b:=by
   grind
  have e3:qP base v (b::l)=qP base (v*base+(dR b).toNat) l:=by
   unfold qP;rw[ho,h2];rfl
  simp[qq];rw[qc (dR b) om,qc (9223372036854775808-dR b) om,aeV _ _ om,e3];by_cases hx:(9223372036854775808-dR b) / (base:Int)<(v:Int)
  ·rw[ei hx]
   rw[div_lt om om om]at hx;have hge:=Wy base hb.1 l (v*base+(dR b).toNat);have:¬ sg base (v*base+(dR b).toNat) l<=9223372036854775808:=om;simp[qP,h2,this,sm]
  ·have hx':=hx
   rw[div_lt om om om]at hx';rw[uc hx,qc ((v:Int)*(base:Int)) om,qc ((v:Int)*(base:Int)+dR b) om,<-hm];exact U8 base hb l _ h2 om
theorem aiz(base:Nat)(h:1<=base)(t:Bs):qP base 0 (48::t)=qP base 0 t:=by
 have e1:okD (base:Int) (48::t)=okD (base:Int) t:=by
  unfold okD;rw[Tj,show dR 48=0 from rfl,ei om,ei om];rfl
 have e2:sg base 0 (48::t)=sg base 0 t:=by
  unfold sg;rw[vS,show dR 48=0 from rfl];simp
 unfold qP;rw[e1,e2]
theorem agG(s:Bs)(h0:s≠[]):oX s=cond ((jX s).2==[]) (0,6) (qP (jX s).1 0 (jX s).2):=by
 match s,h0 with
 | [a],_=>
  unfold oX sH jX;have p1:([48,120]:Bs).isPrefixOf [a]=UV:=by simp[List.isPrefixOf]
  have p2:([48,88]:Bs).isPrefixOf [a]=UV:=by simp[List.isPrefixOf]
  rw[p1,p2]
  have p3:([48]:Bs).isPrefixOf [a]=((a.toNat:Int)==48):=by
   rw[qb];simp;constructor
   ·rintro rfl;rfl
   ·intro h;exact(ofNat_eq de (by simpa using h)).symm
  rw[p3]
  cases ha:((a.toNat:Int)==48)with
  | false=>rfl
  | true=>
   obtain rfl:=ofNat_eq de ha
   rfl
 | a::b::t,_=>
  unfold oX sH jX;simp
  have p1:([48,120]:Bs).isPrefixOf (a::b::t)=(((a.toNat:Int)==48)&&((b.toNat:Int)==120)):=by
   rw[qb];simp;constructor
   ·rintro⟨rfl,rfl⟩;exact⟨rfl,rfl⟩
   ·rintro⟨h1,h2⟩
    exact⟨(ofNat_eq de (by simpa using h1)).symm,(ofNat_eq de (by simpa using h2)).symm⟩
  have p2:([48,88]:Bs).isPrefixOf (a::b::t)=(((a.toNat:Int)==48)&&((b.toNat:Int)==88)):=by
   rw[qb];simp;constructor
   ·rintro⟨rfl,rfl⟩;exact⟨rfl,rfl⟩
   ·rintro⟨h1,h2⟩
    exact⟨(ofNat_eq de (by simpa using h1)).symm,(ofNat_eq de (by simpa using h2)).symm⟩
  have p3:([48]:Bs).isPrefixOf (a::b::t)=((a.toNat:Int)==48):=by
   rw[qb];simp;constructor
   ·rintro rfl;rfl
   ·intro h;exact(ofNat_eq de (by simpa using h)).symm
  rw[p1,p2,p3];have hl1:T1 (1<((a::b::t).length:Int))=WF:=by simp;omega
  cases ha:((a.toNat:Int)==48)with
  | false=>simp
  | true=>
   obtain rfl:=ofNat_eq de ha;simp
   cases hx:(((b.toNat:Int)==120)||((b.toNat:Int)==88))with
   | false=>
    simp_all[PJ,aM,aiz]
   | true=>
    cases t with
    | nil=>
     simp only[NB]at hx;rcases hx with hx|hx
     ·obtain rfl:=ofNat_eq de hx;rfl
     ·obtain rfl:=ofNat_eq de hx;rfl
    | cons c t=>
     grind
theorem aiA(F:Nat)(s:Bs)(h0:s≠[])(hF:s.length<F)(hl:s.length<=1000000):
  lU F s=W0 (oX s):=by
 have hpos:=Aw.2 h0
 have hb:(1<=(jX s).1/\(jX s).1<=16)/\(jX s).2.length<=s.length:=by
  unfold jX
  grind
 rw[agG s h0];unfold lU wx
 have Ur:((cond (T1 (2<(s.length:Int)))
   (rq (T1 (0<(s.length:Int))) (W0 (((s.getD 0 0).toNat:Int)==48)))
   (W0 UV):O Bool).bind λx2=>
   (cond x2
   (rq (T1 (1<(s.length:Int))) (cond (((s.getD 1 0).toNat:Int)==120)
   (W0 WF)
   (rq (T1 (1<(s.length:Int))) (W0 (((s.getD 1 0).toNat:Int)==88)))))
   (W0 UV):O Bool).bind λx3=>
   cond x3
   (rq ((T1 (2<=(s.length:Int)))&&(T1 ((s.length:Int)<=(s.length:Int)))) (W0 (sl s 2 (s.length:Int),(16:Int))))
   ((cond (T1 (1<(s.length:Int)))
   (rq (T1 (0<(s.length:Int))) (W0 (((s.getD 0 0).toNat:Int)==48)))
   (W0 UV):O Bool).bind λx4=>
   cond x4
   (rq ((T1 (1<=(s.length:Int)))&&(T1 ((s.length:Int)<=(s.length:Int)))) (W0 (sl s 1 (s.length:Int),8)))
   (W0 (s,10))):O (Bs×Int))=W0 ((jX s).2,((jX s).1:Int)):=by
  have s2:sl s 2 (s.length:Int)=s.drop 2:=by unfold sl;simp
  have s1:sl s 1 (s.length:Int)=s.drop 1:=by unfold sl;simp
  rw[show T1 (0<(s.length:Int))=WF from ei om,show T1 (1<=(s.length:Int))=WF from ei om,show T1 ((s.length:Int)<=(s.length:Int))=WF from ei om,s1,s2];unfold jX;by_cases h2:2<(s.length:Int)
  ·rw[ei h2,show T1 (1<(s.length:Int))=WF from ei om,show T1 (2<=(s.length:Int))=WF from ei om]
   cases (((s.getD 0 0).toNat:Int)==48)<;>cases (((s.getD 1 0).toNat:Int)==120)<;>cases (((s.getD 1 0).toNat:Int)==88)<;>rfl
  ·rw[uc h2]
   cases T1 (1<(s.length:Int))<;>cases (((s.getD 0 0).toNat:Int)==48)<;>rfl
 rw[Ur];simp only[aD];obtain⟨hb,hlen⟩:=hb;generalize(jX s).2=l at hlen⊢;generalize(jX s).1=base at hb⊢
 cases (l==[])with
 | true=>rfl
 | false=>
  cases hok:okD (base:Int) l with
  | false=>
   have hr:qP base 0 l=(0,6):=by unfold qP;rw[hok];rfl
   ·refine OW (l:=l) (λi=>(i:Int)) (λi rc h=>?_) l.length 0 F om om (by rw[PN];exact hok)
    simp only[yq h,Cd,vR,gL,gd h,bz (i:=i) om,va]
    grind
  | true=>
   have h1:=U8 base hb l 0 hok om;refine OT (λi=>(i:Int)) l.length om rfl ?_ ?_
   ·intro i rc h
    have hi:(T1 (0<=dR l[i])&&T1 (dR l[i]<(base:Int)))=WF:=by
     unfold okD at hok
     simp_all
    simp only[yq h,Cd,gL,b9,gd h,bz (i:=i) om,va,aD,agF (base:=(base:Int)) om,hi];rfl
   ·intro rc
    simp only[He,aM];rw[<-h1];refine rI l (λi (t:Int)=>(t,(i:Int))) _ _ om rfl ?_ ?_
    ·intro i h t rc
     have hi:(T1 (0<=dR l[i])&&T1 (dR l[i]<(base:Int)))=WF:=by
      unfold okD at hok
      simp_all
     have hw:=qc (base:Int) om;have hz:(!((base:Int)==0))=WF:=by simp;omega
     have hv:cond (T1 ((base:Int)<=dR l[i])) (-1) (dR l[i])=dR l[i]:=by
      grind
     simp only[yq h,Cd,gL,b9,gd h,bz (i:=i) om,va,aD,hw,hz,hv];generalize T1 (Sx .u64 (Int.tdiv (Sx .u64 (9223372036854775808-(Sx .u64 (dR l[i])))) (base:Int))<t)=c;cases c<;>rfl
    simp_all
theorem aq9(b:UInt8)(h:dg b=UV):dR b<0\/10<=dR b:=by
 unfold dR
 grind
theorem akZ(b:UInt8)(t:Bs)(h:dg b=UV):oX (b::t)=(0,6):=by
 have hne:((48:UInt8)==b)=UV:=by
  rw[gH];intro e;subst e;exact absurd h de
 unfold oX sH;have p1:([48,120]:Bs).isPrefixOf (b::t)=UV:=by grind
 have p2:([48,88]:Bs).isPrefixOf (b::t)=UV:=by grind
 have p3:([48]:Bs).isPrefixOf (b::t)=UV:=by grind
 rw[p1,p2,p3];simp
 have ho:okD ((10:Nat):Int) (b::t)=UV:=by
  unfold okD;rw[Tj,PI];rw[PI]
  simp_all[aq9]
 unfold qP;rw[ho];rfl
theorem aiB(F:Nat)(s:Bs)(hF:s.length<F)(hl:s.length<=1000000):xX F s=W0 (oX s):=by
 unfold xX wx
 cases s with
 | nil=>rfl
 | cons b t=>
  have hp:T1 (0<((b::t).length:Int))=WF:=ei (by simp_all);have hne:((b::t)==[])=UV:=rfl;rw[aiA F (b::t) si hF hl];simp[hne,gL]
  cases hd:dg b with
  | true=>
   unfold dg fV at hd
   grind
  | false=>
   grind[akZ,Bool.and_eq_false_iff,decide_eq_false_iff_not,decide_eq_true,decide_eq_false]
theorem agH(s:Bs):((oX s).2=0/\0<=(oX s).1/\(oX s).1<=9223372036854775808)\/(oX s).2=6\/(oX s).2=14:=by
 unfold oX
 cases ((sH s).2==[])with
 | true=>exact .inr (.inl rfl)
 | false=>
  unfold qP
  grind
abbrev Env:=J (Bs×Bs)
def Bk(m:Env)(k:Bs):cO:=⟨k,fY cW m k []⟩
def tU(m:Env):J cO:=(sF (m.map (·.1))).map (Bk m)
def Nd(m:Env):Prop:=(m.map (·.1)).Nodup
def Rh(l:J cO):Prop:=l.Pairwise λx y=>x.fName<y.fName
variable{m:Env}
theorem Wz(h:Nd m):Rh (tU m):=List.pairwise_map.2 ((ain h).imp λh=>h)
theorem CZ(m:Env)(x:cO):x∈tU m↔∃k,k∈m.map (·.1)/\x=Bk m k:=by
 unfold tU
 grind[Bx]
theorem WA(m:Env):(tU m).length=m.length:=by
 unfold tU;rw[mg,(Bx _).length_eq,mg]
def wY(k v:Bs):J cO->Bool->J cO
 | [],put=>cond put [] [⟨k,v⟩]
 | x::l,put=>cond (!put && !(Op.bytesLess x.fName k)) [⟨k,v⟩] []++(cond (x.fName==k) [] [x]++wY k v l (put || !(Op.bytesLess x.fName k)))
def QA(k v:Bs)(t:J cO×Bool)(x:cO):J cO×Bool:=
 (t.1++(cond (!t.2 && !(Op.bytesLess x.fName k)) [⟨k,v⟩] []++cond (x.fName==k) [] [x]),t.2 || !(Op.bytesLess x.fName k))
theorem U9(k v:Bs):∀(l:J cO)(t:J cO×Bool),(l.foldl (QA k v) t).1++cond (l.foldl (QA k v) t).2 [] [⟨k,v⟩]=t.1++wY k v l t.2
 | [],t=>rfl
 | x::l,t=>by
  rw[vS,U9 k v l];simp[QA,wY]
theorem bind_eq(F:Nat)(l:J cO)(k v:Bs)(hF:l.length<F)(hl:l.length<=1000000):BC F l k v=W0 (wY k v l UV):=by
 refine Dm l (λi (t:J cO×Bool)=>(t.1,t.2,(i:Int))) (QA k v) (λi t=>t.1.length<=2*i) (t:=([],UV)) hF rfl si ?_ ?_ ?_
 ·intro i h t rc hI
  simp only[yq h,Cd,vR,gL,b9,gd h,bz (i:=i) om,QA];rw[ez bp om]
  cases t.2<;>cases Op.bytesLess l[i].fName k<;>cases (l[i].fName==k)<;>
   simp only[aY,aM,aD,jd,qM,Jq,Ti,Bool.or_true,Zn,Te,p9,vM]
  all_goals (try rw[ez bp om])
 ·simp[QA]
  grind
 ·intro rc hI
  have hb:=U9 k v l ([],UV);simp only[He,aM];rw[ez bp om]
  grind
theorem C2(k v:Bs):∀(l:J cO)(put:Bool)(x:cO),x∈wY k v l put↔(put=UV/\x=⟨k,v⟩)\/(x∈l/\x.fName≠k)
 | [],put,x=>by cases put<;>simp[wY]
 | y::l,put,x=>by
  have e1:∀c:Bool,x∈(cond c [⟨k,v⟩] []:J cO)↔c=WF/\x=⟨k,v⟩:=λc=>by cases c<;>simp
  have e2:x∈(cond (y.fName==k) [] [y]:J cO)↔x=y/\y.fName≠k:=by
   cases h:(y.fName==k)with
   | true=>simp[eq_of_beq h]
   | false=>rw[gH]at h;simp[h]
  simp[wY,C2 k v l,e1,e2];constructor
  ·rintro (⟨h1,h2⟩|⟨rfl,h2⟩|⟨h1,h2⟩|⟨h1,h2⟩)
   ·left;exact⟨by cases put<;>simp_all,h2⟩
   ·right;exact⟨.inl rfl,h2⟩
   ·left;exact⟨by cases put<;>simp_all,h2⟩
   ·right;exact⟨.inr h1,h2⟩
  ·rintro (⟨rfl,h2⟩|⟨rfl|h1,h2⟩)
   ·cases Op.bytesLess y.fName k
    ·left;simp[h2]
    ·right;right;left;simp[h2]
   ·right;left;exact⟨rfl,h2⟩
   ·right;right;right;exact⟨h1,h2⟩
theorem Hi{k v:Bs}:∀ {l:J cO}{put:Bool},Rh l->(put=WF->∀x,x∈l->k<x.fName)->Rh (wY k v l put)
 | [],put,_,_=>by cases put<;>simp[wY,Rh]
 | y::l,put,h,hp=>by
  obtain⟨h1,h2⟩:=yE.1 h;unfold wY
  cases put with
  | true=>
   have hn:(y.fName==k)=UV:=by grind
   simp[jd,hn];refine yE.2 ⟨λx hx=>?_,Hi h2 λ_ x hx=>hp rfl x (ku _ hx)⟩
   simp_all[C2]
  | false=>
   rcases UZ y.fName k with hlt|he|hgt
   ·have e1:=(K8 _ _).2 hlt
    have hn:(y.fName==k)=UV:=by grind
    simp[e1,hn];refine yE.2 ⟨λx hx=>?_,Hi h2 λe=>by cases e⟩
    grind[C2]
   ·have e1:Op.bytesLess y.fName k=UV:=(DG _ _).2 (by simp_all)
    have hn:(y.fName==k)=WF:=by rw[p7];exact he
    simp[e1,hn];refine yE.2 ⟨λx hx=>?_,Hi h2 λ_ x hx=>by simp_all⟩
    simp_all[C2]
   ·have e1:=(DG _ _).2 λh'=>mw _ (rB h' hgt)
    have hn:(y.fName==k)=UV:=by grind
    simp[e1,hn]
    have fB:∀x,x∈wY k v l WF->y.fName<x.fName:=λx hx=>by
     simp_all[C2]
    refine yE.2 ⟨λx hx=>?_,yE.2 ⟨fB,Hi h2 λ_ x hx=>rB hgt (h1 x hx)⟩⟩
    grind
theorem aei(h:Nd m)(k v:Bs):tU (jN cW m k v)=wY k v (tU m) UV:=by
 refine Wv (Wz (U0 h k v)) (Hi (Wz h) λe=>by cases e) λx=>?_;rw[C2,CZ,CZ];constructor
 ·rintro⟨q,hq,rfl⟩
  by_cases hk:q=k
  ·left
   unfold Bk
   simp_all[wS,Gt]
  ·rcases(zG ..).1 hq with e|hq
   ·exact absurd e hk
   ·unfold Bk
    grind[wS,beq_eq_false_iff_ne]
 ·rintro (⟨_,rfl⟩|⟨⟨q,hq,rfl⟩,hk⟩)
  ·refine⟨k,(zG ..).2 (.inl rfl),?_⟩
   unfold Bk
   simp_all[wS,Gt]
  ·have hk:¬ q=k:=hk
   refine⟨q,(zG ..).2 (.inr hq),?_⟩;unfold Bk
   grind[wS,beq_eq_false_iff_ne]
def ZQ(l:J cO)(k:Bs):Bs:=match l.reverse.find? (λx=>x.fName==k)with|some x=>x.bS|none=>[]
theorem abI(k:Bs):∀l:J cO,qq (λ_ (x:cO)=>cond (x.fName==k) (W0 (.inr x.bS)) (W0 (.inl ()))) (λ_=>W0 []) l ()=W0 (match l.find? (λx=>x.fName==k)with|some x=>x.bS|none=>[])
 | []=>rfl
 | x::l=>by
  simp[qq,ND];cases (x.fName==k)
  ·exact abI k l
  ·rfl
theorem OX(F:Nat)(l:J cO)(k:Bs)(hF:l.length<F)(hl:l.length<=1000000):qu F l k=W0 (ZQ l k):=by
 unfold qu ZQ wx;rw[<-abI];refine rI l.reverse (λi (_:Unit)=>((l.length:Int)-1-(i:Int))) _ _ (by simpa using hF) ?_ ?_ ?_
 ·grind[bN]
 ·intro i h t rc
  have hi:i<l.length:=by simpa using h
  have e:(l.length:Int)-1-(i:Int)=((l.length-1-i:Nat):Int):=om;have hj:l.length-1-i<l.length:=om;have hw:aC (((l.length-1-i:Nat):Int)-1)=(l.length:Int)-1-((i+1:Nat):Int):=by grind[bN]
  simp only[e,yq hj,b9,gd hj,hw,List.getElem_reverse];cases (l[l.length-1-i].fName==k)<;>rfl
 grind
theorem OY(m:Env)(k:Bs):ZQ (tU m) k=fY cW m k []:=by
 unfold ZQ
 cases h:(tU m).reverse.find? (λx=>x.fName==k)with
 | some x=>
  have h1:=Zk h;have h2:=aeT h;rw[List.mem_reverse,CZ]at h1;obtain⟨q,hq,rfl⟩:=h1;have:q=k:=by simpa[Bk]using h2
  subst this
  rfl
 | none=>
  rcases LO m k ([]:Bs)with⟨p,hp,h1,h2⟩|⟨_,h2⟩
  ·have:=List.find?_eq_none.1 h (Bk m k) (by grind[CZ])
   simp[Bk]at this
  ·exact h2.symm
structure Eo(c:Nat)(m:Env):Prop where
 nd:Nd m
 len:m.length<=c
 sz:∀p,p∈m->p.1.length<=60/\p.2.length<=4096
variable{c:Nat}
theorem Eo.mono{d:Nat}(h:Eo c m)(hd:c<=d):Eo d m:=⟨h.nd,oM h.len hd,h.sz⟩
theorem Eo.set(h:Eo c m){k v:Bs}(hk:k.length<=60)(hv:v.length<=4096):Eo (c+1) (jN cW m k v):=
 ⟨U0 h.nd k v,oM (akN m k v) (by have:=h.len;omega),λp hp=>by
  rcases SN hp with rfl|hp
  ·exact⟨hk,hv⟩
  ·exact h.sz p hp⟩
theorem Eo.get(h:Eo c m)(k:Bs):(fY cW m k []).length<=4096:=by
 rcases LO m k ([]:Bs)with⟨p,hp,_,h2⟩|⟨_,h2⟩
 ·rw[<-h2];exact(h.sz p hp).2
 ·rw[h2];simp
def uw(l:J cO):Env:=l.foldl (λm b=>jN cW m b.fName b.bS) []
theorem SP{c:Nat}:∀(l:J cO)(m:Env),Eo c m->(∀b,b∈l->b.fName.length<=60/\b.bS.length<=4096) ->
  Eo (c+l.length) (l.foldl (λm b=>jN cW m b.fName b.bS) m)/\tU (l.foldl (λm b=>jN cW m b.fName b.bS) m)=l.foldl (λo b=>wY b.fName b.bS o UV) (tU m)
 | [],m,h,_=>⟨h,rfl⟩
 | b::l,m,h,hb=>by
  have h1:=h.set (hb b si).1 (hb b si).2;obtain⟨h2,h3⟩:=SP l _ h1 λb hm=>hb b (ku _ hm);refine⟨h2.mono bp,?_⟩;rw[vS,vS,h3,aei h.nd]
theorem aiC:Eo 0 []:=⟨by simp[Nd],si,si⟩
theorem anm:tU []=[]:=by
 have:=Bx ([]:J Bs);simp at this;simp[tU,this]
variable{l:J cO}
theorem Hj(h:∀b,b∈l->b.fName.length<=60/\b.bS.length<=4096):Eo l.length (uw l):=by
 have:=(SP l [] aiC h).1;rw[qJ]at this;exact this
theorem abJ(k v:Bs):∀(l:J cO)(put:Bool),(wY k v l put).length<=l.length+cond put 0 1
 | [],put=>by cases put<;>simp[wY]
 | x::l,put=>by
  have h1:=abJ k v l (put || !(Op.bytesLess x.fName k));simp[wY];generalize Op.bytesLess x.fName k=b at h1⊢;cases put<;>cases b<;>cases (x.fName==k)<;>simp at h1⊢ <;> omega
theorem aiD(F:Nat)(l:J cO)(hF:l.length<F)(hl:l.length<=1000)(h:∀b,b∈l->b.fName.length<=60/\b.bS.length<=4096):Hl F l=W0 (tU (uw l)):=by
 refine Dm l (λi (t:J cO)=>(t,(i:Int))) (λo b=>wY b.fName b.bS o UV) (λi t=>t.length<=i) hF rfl si ?_ ?_ ?_
 ·intro i h t rc hI
  simp only[yq h,Cd,vR,gL,bz (i:=i) om]
  grind[bind_eq]
 ·grind[abJ]
 ·intro rc hI
  simp;have:=(SP l [] aiC h).2;rw[anm]at this;unfold uw;rw[this]
theorem ara(h:Eo c m)(hc:c<=1000000)(F:Nat):skF F m=W0 (sF (m.map (·.1))):=by
 unfold skF;have h1:(m.all λp=>T1 (p.1.length<=9223372036854775807))=WF:=pE.2 λp hp=>ei (by have:=(h.sz p hp).1;omega);rw[h1,ei (by have:=h.len;omega)];rfl
def gJ(x:Int):Prop:=-9223372036854775808<=x/\x<=9223372036854775807
theorem tn(x:Int):gJ (aC x):=by
 show gJ (if (WF&&T1 (x%(2^64:Int)>=(2^63:Int)))=WF then x%(2^64:Int)-(2^64:Int)else x%(2^64:Int));unfold gJ
 grind
theorem amk(b:Int):nT .i64 b 63=b%64:=by
 rw[V8]
 have h:(Rd 64 b &&& Rd 64 63).toNat=(b%64).toNat:=by
  rw[BitVec.toNat_and];have h63:(Rd 64 63).toNat=2^6-1:=by decide
  rw[h63,Nat.and_two_pow_sub_one_eq_mod,BitVec.toNat_ofInt]
  grind
 show aC (((Rd 64 b &&& Rd 64 63).toNat:Nat):Int)=_
 grind[bN]
theorem not_eq{a:Int}(h:gJ a):V7 .i64 a=aC ((aC (0-a))-1):=by
 unfold gJ at h
 have h1:(Rd 64 (-1) ^^^ Rd 64 a) = ~~~ Rd 64 a:=by
  rw[show Rd 64 (-1)=BitVec.allOnes 64 from rfl,BitVec.allOnes_xor]
 rw[V9];show aC (((Rd 64 (-1) ^^^ Rd 64 a).toNat:Nat):Int)=_;rw[h1,BitVec.toNat_not,BitVec.toNat_ofInt];by_cases h0:a=-9223372036854775808
 ·subst h0;decide
 ·rw[bN (x:=0-a) om,bN (x:=0-a-1) om]
  by_cases hn:0<=a
  ·have e1:a%((2^64:Nat):Int)=a:=Int.emod_eq_of_lt hn om
   rw[e1];have e2:((2^64-1-a.toNat:Nat):Int)=18446744073709551615-a:=om;rw[e2];unfold aC Sx;have e3:(18446744073709551615-a)%(2^IntKind.i64.bits:Int)=18446744073709551615-a:=Int.emod_eq_of_lt om (by show _<(18446744073709551616:Int);omega);simp only[e3];show(if (WF&&T1 ((18446744073709551615-a)>=(2^63:Int)))=WF then(18446744073709551615-a)-(2^64:Int)else 18446744073709551615-a)=_
   grind
  grind[bN]
theorem ak0{a:Int}(b:Int)(h:gJ a):gJ (V5 .i64 a b):=by
 unfold gJ at h⊢;rw[adZ];generalize min b.toNat IntKind.i64.bits=k;have hp:(0:Int)<2^k:=Int.pow_pos de;rw[Int.fdiv_eq_ediv_of_nonneg _ om];by_cases h0:0<=a
 ·have h1:=Int.ediv_nonneg h0 (show(0:Int)<=2^k by omega)
  have h2:=Int.ediv_le_self (b:=2^k) h0;omega
 ·have h1:a<=a / 2^k:=by
   apply Int.le_ediv_of_mul_le hp;have:=Int.mul_le_mul_of_nonpos_left (a:=a) (b:=2^k) (c:=1) om om;omega
  have h2:a / 2^k<0:=Int.ediv_neg_of_neg_of_pos om hp;omega
theorem ak1{a:Int}(b:Int)(h:gJ a):gJ (Int.tmod a b):=by
 unfold gJ at h⊢;by_cases h0:0<=a
 ·have h2:(Int.tmod a b).natAbs<=a.natAbs:=by simp_all[Int.natAbs_tmod,Nat.mod_le]
  omega
 ·have h1:Int.tmod a b=- Int.tmod (-a) b:=by rw[Int.neg_tmod];omega
  have h3:=Int.tmod_nonneg (a:=-a) b om;have h2:(Int.tmod (-a) b).natAbs<=(-a).natAbs:=by simp_all[Int.natAbs_tmod,Nat.mod_le]
  omega
def tr(b:Bool):Int:=cond b 1 0
theorem aiE(b:Bool):gJ (tr b):=by cases b<;>simp[tr,gJ]
theorem MF(F:Nat)(b:Bool):xY F b=W0 (tr b):=by cases b<;>rfl
theorem BD(F:Nat)(b:Bool):zg F b=W0 (tr b):=by cases b<;>rfl
def cUn(op a:Int):Int:=cond (op==3) (aC (0-a)) (cond (op==5) (tr (a==0)) (cond (op==6) (V7 .i64 a) a))
def abK(op a b:Int):Bool:=cond (op==14) (T1 (a<b)) (cond (op==15) (T1 (b<a)) (cond (op==16) (T1 (a<=b)) (cond (op==17) (T1 (b<=a)) (cond (op==18) (a==b) (a != b)))))
def ux(op a b:Int):Int×Int:=
 cond (op==7) (aC (a*b),0) (cond (op==8||op==9) (cond (b==0) (0,13) (cond (op==8) (aC (Int.tdiv a b),0) (Int.tmod a b,0)))
  (cond (op==10) (aC (a+b),0) (cond (op==11) (aC (a-b),0) (cond (op==12) (aas .i64 a (nT .i64 b 63),0) (cond (op==13) (V5 .i64 a (nT .i64 b 63),0)
   (cond (op==20) (nT .i64 a b,0) (cond (op==21) (Sw .i64 a b,0) (cond (op==22) (Rq .i64 a b,0) (cond (op==23) (tr (a != 0&&b != 0),0) (cond (op==24) (tr (a != 0||b != 0),0) (tr (abK op a b),0)))))))))))
theorem ak2(a:Int):gJ (V7 .i64 a):=by rw[V9];exact tn _
theorem ak3(a b:Int):gJ (nT .i64 a b):=by rw[V8];exact tn _
theorem ann(a b:Int):gJ (Rq .i64 a b):=by rw[ahR];exact tn _
theorem ak4(a b:Int):gJ (Sw .i64 a b):=by rw[ad1];exact tn _
theorem ano(op:Int){a:Int}(h:gJ a):gJ (cUn op a):=by
 unfold cUn
 grind[tn,aiE,ak2]
theorem LR(op:Int){a b:Int}(h:gJ a)(h':gJ b):gJ (ux op a b).1:=by
 unfold ux
 cases (op==7)with
 | true=>exact tn _
 | false=>
 cases (op==8||op==9)with
 | true=>
  grind[tn,ak1]
 | false=>
 cases (op==10)with
 | true=>exact tn _
 | false=>
 cases (op==11)with
 | true=>exact tn _
 | false=>
 cases (op==12)with
 | true=>exact tn _
 | false=>
 grind[ak0,ak3,ak4,ann,aiE]
theorem abL(b:Int):T1 (0<=nT .i64 b 63)=WF:=ei (by rw[amk];omega)
theorem anp(b:Int):Sx .u64 (nT .i64 b 63)=nT .i64 b 63:=qc _ (by rw[amk];omega)
theorem agI(F:Nat)(op a b:Int):BE F op a b=W0 (abK op a b):=by
 unfold BE abK wx
 grind
theorem ak5(F:Nat)(op a b:Int):Dr F op a b=W0 (abK op a b):=by
 unfold Dr abK wx
 grind
theorem ak6(F:Nat)(op a:Int):FA F op a=W0 (cUn op a):=by
 unfold FA cUn wx
 grind[MF]
theorem apE(F:Nat)(op:Int){a:Int}(h:gJ a):IP F op a=W0 (cUn op a):=by
 unfold IP cUn wx
 grind[BD,not_eq]
theorem Yg(F:Nat)(op a b:Int):vb F op a b=W0 (ux op a b):=by
 unfold vb ux wx;simp[MF,agI,abL,gL]
 cases h7:(op==7)with
 | true=>rfl
 | false=>
 cases h8:(op==8)with
 | true=>simp;cases hb:(b==0)<;>rfl
 | false=>
 cases h9:(op==9)with
 | true=>simp;cases hb:(b==0)<;>rfl
 | false=>
 grind
theorem aiF(F:Nat)(op a b:Int)(h:op≠23)(h':op≠24):DU F op a b=W0 (ux op a b):=by
 have e1:(op==23)=UV:=by simp_all
 have e2:(op==24)=UV:=by simp_all
 unfold DU ux wx;simp[BD,ak5,anp,abL,gL];by_cases k7:op=7
 ·subst k7;rfl
 have h7:(op==7)=UV:=by simp_all
 rw[h7]
 cases h8:(op==8)with
 | true=>simp;cases hb:(b==0)<;>rfl
 | false=>
 cases h9:(op==9)with
 | true=>simp;cases hb:(b==0)<;>rfl
 | false=>
 grind
def qF(s:Bs):Bs:=cond ((((s.getD 0 0).toNat:Int)==45)||(((s.getD 0 0).toNat:Int)==43)) (s.drop 1) s
def uy(s:Bs):Int×Bool:=
 cond (s==[]) (0,WF) (cond ((oX (qF s)).2 != 0||((oX (qF s)).1==9223372036854775808 && !(((s.getD 0 0).toNat:Int)==45))) (0,UV)
  (cond (((s.getD 0 0).toNat:Int)==45) (aC (Sx .u64 (0-(oX (qF s)).1)),WF) (aC (oX (qF s)).1,WF)))
theorem LS(s:Bs):gJ (uy s).1:=by
 unfold uy;cases (s==[])<;>cases ((oX (qF s)).2 != 0||((oX (qF s)).1==9223372036854775808 && !(((s.getD 0 0).toNat:Int)==45)))<;>cases (((s.getD 0 0).toNat:Int)==45)<;>first|exact tn _|exact(show gJ 0 by unfold gJ;decide)
theorem abM(s:Bs):(qF s).length<=s.length:=by
 unfold qF
 grind
theorem agJ(F:Nat)(s:Bs)(hF:s.length<F)(hl:s.length<=1000000):BF F s=W0 (uy s):=by
 unfold BF uy wx
 cases hs:(s==[])with
 | true=>rfl
 | false=>
  have hp:0<s.length:=by
   grind
  have e0:T1 (0<(s.length:Int))=WF:=ei om;have e1:(T1 (1<=(s.length:Int))&&T1 ((s.length:Int)<=(s.length:Int)))=WF:=by grind
  have e2:sl s 1 (s.length:Int)=s.drop 1:=by unfold sl;simp
  have et:((cond (((s.getD 0 0).toNat:Int)==45) (W0 WF) (W0 (((s.getD 0 0).toNat:Int)==43)):O Bool).bind λx2=>cond x2 (W0 (s.drop 1)) (W0 s):O Bs)=W0 (qF s):=by
   unfold qF
   grind
  simp only[e0,e1,gL]
  grind[abM,apD]
theorem Yh(F:Nat)(s:Bs)(hF:s.length<F)(hl:s.length<=1000000):zh F s=W0 (uy s):=by
 unfold zh uy wx
 cases hs:(s==[])with
 | true=>rfl
 | false=>
  have hp:0<s.length:=by
   grind
  have e0:T1 (0<(s.length:Int))=WF:=ei om;have e1:(T1 (1<=(s.length:Int))&&T1 ((s.length:Int)<=(s.length:Int)))=WF:=by grind
  have e2:sl s 1 (s.length:Int)=s.drop 1:=by unfold sl;simp
  have et:((cond (((s.getD 0 0).toNat:Int)==45) (W0 WF) (W0 (((s.getD 0 0).toNat:Int)==43)):O Bool).bind λx2=>cond x2 (W0 (s.drop 1)) (W0 s):O Bs)=W0 (qF s):=by
   unfold qF
   grind
  simp only[e0,e1,e2,gL,et,aD];have:=abM s;rw[aiB F (qF s) om om]
  have key:∀(neg:Bool),(cond ((oX (qF s)).2 != 0) WF (T1 ((cond neg 9223372036854775808 9223372036854775807:Int)<(oX (qF s)).1)))=((oX (qF s)).2 != 0||((oX (qF s)).1==9223372036854775808 && !neg)):=by
   intro neg;rcases agH (qF s)with⟨h,h0,h1⟩|h|h
   ·grind
   ·rw[h];rfl
   ·rw[h];rfl
  rw[<-key]
  grind
abbrev Rs:=Int×Int×Env
def OZ(n:Int)(name:Bs)(x:Rs):Rs:=
 cond (n != 0)
  (cond (!(uy (fY cW x.2.2 name [])).2) (0,1,x.2.2)
   (cond ((ux n (uy (fY cW x.2.2 name [])).1 x.1).2 != 0) (0,(ux n (uy (fY cW x.2.2 name [])).1 x.1).2,x.2.2)
    ((ux n (uy (fY cW x.2.2 name [])).1 x.1).1,0,jN cW x.2.2 name (Lib.itoa (ux n (uy (fY cW x.2.2 name [])).1 x.1).1))))
  (x.1,0,jN cW x.2.2 name (Lib.itoa x.1))
def JM(name:Bs)(m:Env):Rs:=cond (!(uy (fY cW m name [])).2) (0,1,m) ((uy (fY cW m name [])).1,0,m)
def abN(op:Int)(x y:Rs):Rs:=cond (y.2.1 != 0) (0,y.2.1,y.2.2) ((ux op x.1 y.1).1,(ux op x.1 y.1).2,y.2.2)
def dK:Env->Rs:=λm=>(0,0,m)
def evB(op n:Int)(name:Bs)(ks:J (Env->Rs))(m:Env):Rs:=
 cond (op==1) (n,0,m) (cond (op==2) (JM name m)
  (cond ((ks.getD 0 dK m).2.1 != 0) (0,(ks.getD 0 dK m).2.1,(ks.getD 0 dK m).2.2)
   (cond (op==26) (OZ n name (ks.getD 0 dK m))
    (cond (T1 (3<=op)&&T1 (op<=6)) (cUn op (ks.getD 0 dK m).1,0,(ks.getD 0 dK m).2.2)
     (cond (op==25) (cond ((ks.getD 0 dK m).1 != 0) (ks.getD 1 dK (ks.getD 0 dK m).2.2) (ks.getD 2 dK (ks.getD 0 dK m).2.2))
      (cond (op==23&&(ks.getD 0 dK m).1==0) (0,0,(ks.getD 0 dK m).2.2)
       (cond (op==24&&(ks.getD 0 dK m).1 != 0) (1,0,(ks.getD 0 dK m).2.2)
        (abN op (ks.getD 0 dK m) (ks.getD 1 dK (ks.getD 0 dK m).2.2)))))))))
mutual
def kW:TExpr->Env->Rs
 | .mk op n name kids=>evB op n name (evL kids)
def evL:J TExpr->J (Env->Rs)
 | []=>[]
 | k::l=>kW k::evL l
end
theorem aej:∀l,evL l=l.map kW
 | []=>rfl
 | k::l=>by simp[evL,aej l]
theorem Va(e:TExpr):kW e=evB e.fOp e.fN e.fName (e.fKids.map kW):=by cases e;rw[<-aej];rfl
theorem FB(l:J TExpr)(i:Nat)(h:i<l.length):(l.map kW).getD i dK=kW (l.getD i dH):=by
 simp[h]
theorem xZ(h:gJ n):(Lib.itoa n).length<=60:=by
 have key:∀(k u:Nat),u<10^(k+1)->(Lib.decDigits u).length<=k+1:=by
  intro k
  induction k with
  | zero=>
   intro u hu;rw[Lib.decDigits_one (by simpa using hu)]
   simp
  | succ k ih=>
   intro u hu;by_cases h9:u<10
   ·grind
   ·rw[Lib.decDigits.eq_1 u]
    grind
 unfold gJ at h;unfold Lib.itoa;split
 ·have:=key 20 n.natAbs om
  simp;omega
 ·have:=key 20 n.toNat om
  omega
theorem abO(F:Nat)(h:gJ n):pO F n=W0 (Lib.itoa n):=by
 unfold pO;unfold gJ at h
 simp_all[cq,ei]
theorem adu(F:Nat)(hF:30<=F)(h0:-9223372036854775808<=n)(h1:n<0):dP F n=W0 (Lib.itoa n):=by
 unfold dP wV wx;obtain⟨u,hu⟩:∃u:Nat,n=-(u:Int):=⟨(-n).toNat,om⟩;have e1:aC (0-aC (n+1))=(u:Int)-1:=by grind[bN]
 have e2:Sx .u64 ((Sx .u64 ((u:Int)-1))+1)=(u:Int):=by
  rw[qc ((u:Int)-1) om,qc _ om];omega
 simp only[e1,e2];rw[JL 20 u F [] om om om si];rw[hu,Lib.itoa_neg u om]
 have hl:(Lib.decDigits u).length<=60:=by
  have:=xZ (n:=-(u:Int)) ⟨om,om⟩;rw[Lib.itoa_neg u om]at this;simp at this;omega
 grind[ahG]
theorem Kz(F:Nat)(hF:30<=F)(h:gJ n):dP F n=W0 (Lib.itoa n):=by
 by_cases h0:0<=n
 ·exact agC F hF h0 h.2
 ·exact adu F hF h.1 om
theorem Good.okn(g:Good e):gJ e.fN:=by
 obtain⟨v,o,m⟩:=g
 cases o with
 | mk op n name kids a1 a2 a3 a4 a5=>exact apB a2
theorem Good.op(g:Good e):1<=e.fOp/\e.fOp<=26:=akS g.facts.1
theorem Good.FC(g:Good e)(h:i<e.fKids.length):Good (e.fKids.getD i dH)/\e.fKids.getD i dH∈e.fKids:=by
 have hm:e.fKids.getD i dH∈e.fKids:=by simp[h]
 exact⟨g.kid _ hm,hm⟩
theorem abP(h:i<e.fKids.length):nodes (e.fKids.getD i dH)<nodes e:=by
 have hm:e.fKids.getD i dH∈e.fKids:=by simp[h]
 have:=IK hm;rw[Hg e];omega
variable{j:Nat}
theorem IQ{l:J TExpr}(hij:i<j)(hj:j<l.length):nodes (l.getD i dH)+nodes (l.getD j dH)<=mz l:=by
 induction l generalizing i j with
 | nil=>simp at hj
 | cons k l ih=>
  cases j with
  | zero=>omega
  | succ j=>
   have hj':j<l.length:=by simpa using hj
   cases i with
   | zero=>
    have hm:l.getD j dH∈l:=by simp[hj']
    have:=IK hm;simp only[PR,List.getD_cons_succ,mz]
    omega
   | succ i=>
    have:=ih (i:=i) om hj';simp only[List.getD_cons_succ,mz];omega
theorem Good.shape(g:Good e):(e.fOp=1)\/(e.fOp=2)\/((3<=e.fOp/\e.fOp<=6)/\e.fKids.length=1)\/((7<=e.fOp/\e.fOp<=24)/\e.fKids.length=2)\/(e.fOp=25/\e.fKids.length=3)\/(e.fOp=26/\e.fKids.length=1):=by
 have h1:=g.facts.1;have h2:=g.op;rcases akT h2 with h|h|h|h|h|h|h|h|h|h|h|h|h|h|h|h|h|h|h|h|h|h|h|h|h|h<;>rw[h]at h1<;>simp[pP]at h1<;>omega
theorem O0:∀e,Good e->∀c m,Eo c m->Eo (c+nodes e) (kW e m).2.2/\gJ (kW e m).1:=by
 apply Good.ind;intro e g ih c m hm;have z:gJ 0:=by unfold gJ;decide
 have one:gJ 1:=by unfold gJ;decide
 have arb:=hm.mono (show c<=c+nodes e by omega);rw[Va];unfold evB
 cases h1:(e.fOp==1)with
 | true=>exact⟨arb,g.okn⟩
 | false=>
 cases h2:(e.fOp==2)with
 | true=>
  unfold JM
  grind[fY,cW,LS]
 | false=>
 simp only[gH]at h1 h2;have hl:0<e.fKids.length:=by rcases g.shape with h|h|h|h|h|h<;>omega
 obtain⟨g0,m0⟩:=g.FC hl;obtain⟨i1,i2⟩:=ih _ m0 c m hm;have n0:=abP hl;rw[FB _ 0 hl];generalize hx:kW (e.fKids.getD 0 dH) m=x at i1 i2⊢;have i1':=i1.mono (show c+nodes (e.fKids.getD 0 dH)<=c+nodes e by omega)
 cases (x.2.1 != 0)with
 | true=>exact⟨i1',z⟩
 | false=>
 cases IJ:(e.fOp==26)with
 | true=>
  unfold OZ;have hs:∀n:Int,gJ n->Eo (c+nodes e) (jN cW x.2.2 e.fName (Lib.itoa n)):=λn hn=>(i1.set g.facts.2.2.2.1 (oM (xZ hn) de)).mono om
  cases (e.fN != 0)with
  | false=>exact⟨hs _ i2,i2⟩
  | true=>
   cases (!(uy (fY cW x.2.2 e.fName [])).2)with
   | true=>exact⟨i1',z⟩
   | false=>
    have hr:=LR e.fN (LS (fY cW x.2.2 e.fName [])) i2
    cases ((ux e.fN (uy (fY cW x.2.2 e.fName [])).1 x.1).2 != 0)with
    | true=>exact⟨i1',z⟩
    | false=>exact⟨hs _ hr,hr⟩
 | false=>
 simp only[gH]at IJ
 cases ZY:(T1 (3<=e.fOp)&&T1 (e.fOp<=6))with
 | true=>simp_all[ano]
 | false=>
 have ak7:¬ (3<=e.fOp/\e.fOp<=6):=by
  simp_all
 have hl1:1<e.fKids.length:=by rcases g.shape with h|h|h|h|h|h<;>omega
 obtain⟨g1,m1⟩:=g.FC hl1;obtain⟨j1,j2⟩:=ih _ m1 _ x.2.2 i1;have n01:=IQ (l:=e.fKids) (i:=0) (j:=1) om hl1;rw[FB _ 1 hl1];have j1':=j1.mono (show c+nodes (e.fKids.getD 0 dH)+nodes (e.fKids.getD 1 dH)<=c+nodes e by rw[Hg e];omega)
 cases Yd:(e.fOp==25)with
 | true=>
  have apF:e.fOp=25:=by simpa using Yd
  have hl2:2<e.fKids.length:=by rcases g.shape with h|h|h|h|h|h<;>omega
  obtain⟨g2,m2⟩:=g.FC hl2;obtain⟨k1,k2⟩:=ih _ m2 _ x.2.2 i1;have n02:=IQ (l:=e.fKids) (i:=0) (j:=2) om hl2;rw[FB _ 2 hl2]
  cases (x.1 != 0)with
  | true=>exact⟨j1',j2⟩
  | false=>exact⟨k1.mono (by rw[Hg e];omega),k2⟩
 | false=>
 cases (e.fOp==23&&x.1==0)with
 | true=>exact⟨i1',z⟩
 | false=>
 cases (e.fOp==24&&x.1 != 0)with
 | true=>exact⟨i1',one⟩
 | false=>
 unfold abN
 cases ((kW (e.fKids.getD 1 dH) x.2.2).2.1 != 0)with
 | true=>exact⟨j1',z⟩
 | false=>simp_all[LR]
theorem Ho{a b:Int}(h:a≠b):(a==b)=UV:=by simp_all
theorem var_eq(F:Nat)(hF:5000<=F)(hm:Eo c m)(name:Bs):kI F name m=W0 ((JM name m).1,(JM name m).2.1):=by
 unfold kI JN JM wx;have:=hm.get name
 grind[agJ,fY,cW]
theorem ak8(name:Bs)(m:Env):(JM name m).2.2=m:=by
 unfold JM
 grind
theorem YI:∀e,Good e->bL λF n=>∀c m,Eo c m->jF F n e m=W0 (kW e m):=by
 apply Good.ind;intro e g ih;refine bL.succ (bL.succ (((bL.all ih).and (bL.all ih).up).kV (bL.ge (p:=λF _=>5000<=F) 5000 λF n h _=>h) λF n hi hF c m hm=>?_));obtain⟨ih,ih'⟩:=hi;show sj F (jF F (n+1)) (mQ F (n+1)) e m=_;have ha:∀m,mQ F (n+1) e m=qQ F (jF F n) (mQ F n) e m:=λm=>rfl;rw[Va];unfold sj evB wx
 cases h1:(e.fOp==1)with
 | true=>rfl
 | false=>
 cases h2:(e.fOp==2)with
 | true=>
  simp only[aY,aM]
  grind[var_eq,ak8,Prod.ext]
 | false=>
 simp only[gH]at h1 h2;have hl:0<e.fKids.length:=by rcases g.shape with h|h|h|h|h|h<;>omega
 obtain⟨g0,m0⟩:=g.FC hl;obtain⟨i1,i2⟩:=O0 _ g0 c m hm;have e0:T1 (0<(e.fKids.length:Int))=WF:=ei om;simp only[aM,e0,gL];rw[FB _ 0 hl,ih' _ m0 c m hm]
 cases IJ:(e.fOp==26)with
 | true=>
  have asF:e.fOp=26:=by simpa using IJ
  simp only[aY,TExpr.eta];rw[ha];unfold qQ wx;rw[e0,ih _ m0 c m hm];simp only[gL,aD];generalize kW (e.fKids.getD 0 dH) m=x at i1 i2⊢
  cases (x.2.1 != 0)with
  | true=>rfl
  | false=>
   simp only[aM];rw[var_eq F hF i1];unfold OZ Ds
   cases (e.fN != 0)with
   | false=>
    simp_all[aM,jj,aD,sm,abO]
   | true=>
    simp only[aY,aD];unfold JM
    cases (!(uy (fY cW x.2.2 e.fName [])).2)with
    | true=>rfl
    | false=>
     have hr:=LR e.fN (LS (fY cW x.2.2 e.fName [])) i2;simp only[aM,Sc];rw[Yg];simp only[aD]
     cases ((ux e.fN (uy (fY cW x.2.2 e.fName [])).1 x.1).2 != 0)with
     | true=>rfl
     | false=>
      simp_all[aM,jj,aD,sm,abO]
 | false=>
 simp only[gH]at IJ;simp only[aM,aD];generalize kW (e.fKids.getD 0 dH) m=x at i1 i2⊢
 cases (x.2.1 != 0)with
 | true=>rfl
 | false=>
 simp only[aM]
 have hun:(cond (e.fOp==3) (W0 (e.fOp==3)) (cond (e.fOp==4) (W0 (e.fOp==4)) (cond (e.fOp==5) (W0 (e.fOp==5)) (W0 (e.fOp==6)))):O Bool)=W0 (T1 (3<=e.fOp)&&T1 (e.fOp<=6)):=by
  by_cases h:3<=e.fOp/\e.fOp<=6
  ·have:e.fOp=3\/e.fOp=4\/e.fOp=5\/e.fOp=6:=om
   grind
  ·rw[Ho (show e.fOp≠3 by omega),Ho (show e.fOp≠4 by omega),Ho (show e.fOp≠5 by omega),Ho (show e.fOp≠6 by omega)]
   simp_all
 rw[hun];simp only[aD]
 cases ZY:(T1 (3<=e.fOp)&&T1 (e.fOp<=6))with
 | true=>
  simp_all[aY,ak6,aD,jj,sm]
 | false=>
 have ak7:¬ (3<=e.fOp/\e.fOp<=6):=by
  simp_all
 simp only[aM];have hl1:1<e.fKids.length:=by rcases g.shape with h|h|h|h|h|h<;>omega
 obtain⟨g1,m1⟩:=g.FC hl1;have e1:T1 (1<(e.fKids.length:Int))=WF:=ei om;have f1:=ih' _ m1 _ x.2.2 i1;rw[FB _ 1 hl1,e1,f1]
 cases Yd:(e.fOp==25)with
 | true=>
  have apF:e.fOp=25:=by simpa using Yd
  have hl2:2<e.fKids.length:=by rcases g.shape with h|h|h|h|h|h<;>omega
  obtain⟨g2,m2⟩:=g.FC hl2;have e2:T1 (2<(e.fKids.length:Int))=WF:=ei om;rw[FB _ 2 hl2,e2,ih' _ m2 _ x.2.2 i1];simp only[aY,gL,aD]
  cases (x.1 != 0)<;>rfl
 | false=>
 simp only[aM,gL,aD];have hx:(x.1 != 0)=!(x.1==0):=rfl;unfold abN
 have fin:((W0 (kW (e.fKids.getD 1 dH) x.2.2)).bind λx9=>cond (x9.2.1 != 0) (W0 (0,x9.2.1,x9.2.2)) ((vb F e.fOp x.1 x9.1).bind λcm=>W0 (cm.1,cm.2,x9.2.2)))=W0 (cond ((kW (e.fKids.getD 1 dH) x.2.2).2.1 != 0) (0,(kW (e.fKids.getD 1 dH) x.2.2).2.1,(kW (e.fKids.getD 1 dH) x.2.2).2.2) ((ux e.fOp x.1 (kW (e.fKids.getD 1 dH) x.2.2).1).1,(ux e.fOp x.1 (kW (e.fKids.getD 1 dH) x.2.2).1).2,(kW (e.fKids.getD 1 dH) x.2.2).2.2)):=by
  grind[Yg]
 simp only[aD]at fin
 cases h23:(e.fOp==23)with
 | true=>
  have U1:(e.fOp==24)=UV:=Ho (by simp_all);rw[U1,hx]
  cases (x.1==0)with
  | true=>rfl
  | false=>exact fin
 | false=>
  rw[hx]
  cases U1:(e.fOp==24)with
  | true=>
   cases (x.1==0)with
   | true=>exact fin
   | false=>rfl
  | false=>exact fin
theorem agK(F:Nat)(hF:200000<=F)(hm:Eo c m)(hc:c<=100000)(g:Good e)(IJ:e.fOp=26){a:Int}(ha:gJ a):
  IU F (TExpr.mk e.fOp e.fN e.fName e.fKids) a (tU m)=W0 ((OZ e.fN e.fName (a,0,m)).1,tU (OZ e.fN e.fName (a,0,m)).2.2,(OZ e.fN e.fName (a,0,m)).2.1):=by
 rw[TExpr.eta];unfold IU OZ wx;have hlen:(tU m).length<=100000:=by rw[WA];have:=hm.len;omega
 have hg:=hm.get e.fName;rw[OX F _ _ om om,OY];simp;rw[Yh F _ om om]
 have mN:∀n:Int,gJ n->((dP F n).bind λx5=>(BC F (tU m) e.fName x5).bind λx6=>W0 (n,x6,(0:Int)))=W0 (n,tU (jN cW m e.fName (Lib.itoa n)),0):=λn hn=>by
  rw[Kz F om hn];simp;rw[bind_eq F _ _ _ om om,aei hm.nd];rfl
 cases hn:(e.fN != 0)with
 | false=>
  simp_all[aM,jj,aD,sm]
 | true=>
  have hcomp:Bz e.fN=WF:=by
   rcases g.facts.2.2.2.2 IJ with h|h
   ·rw[h]at hn;cases hn
   ·exact h
  have hne:e.fN≠23/\e.fN≠24:=by
   unfold Bz at hcomp
   grind
  simp
  cases (uy (fY cW m e.fName [])).2 with
  | false=>rfl
  | true=>
   have hr:=LR e.fN (LS (fY cW m e.fName [])) ha;rw[aiF F _ _ _ hne.1 hne.2];simp
   cases ((ux e.fN (uy (fY cW m e.fName [])).1 a).2 != 0)with
   | true=>rfl
   | false=>
    simp_all[aM,jj,aD,sm]
theorem adv:∀e,Good e->bL λF n=>∀c m,Eo c m->c+nodes e<=100000->tq F n e (tU m)=W0 ((kW e m).1,tU (kW e m).2.2,(kW e m).2.1):=by
 apply Good.ind;intro e g ih;refine bL.succ ((bL.all ih).kV (bL.ge (p:=λF _=>200000<=F) 200000 λF n h _=>h) λF n ih' hF c m hm hc=>?_);show Hp F (tq F n) e (tU m)=_;rw[Va];unfold Hp evB wx
 cases h1:(e.fOp==1)with
 | true=>rfl
 | false=>
 cases h2:(e.fOp==2)with
 | true=>
  simp only[aY,aM];have hlen:(tU m).length<=100000:=by rw[WA];have:=hm.len;omega
  have hg:=hm.get e.fName;rw[OX F _ _ om om,OY];simp only[aD];rw[Yh F _ om om];simp only[aD];unfold JM
  grind
 | false=>
 simp only[gH]at h1 h2;have hl:0<e.fKids.length:=by rcases g.shape with h|h|h|h|h|h<;>omega
 obtain⟨g0,m0⟩:=g.FC hl;have n0:=abP hl;obtain⟨i1,i2⟩:=O0 _ g0 c m hm;have e0:T1 (0<(e.fKids.length:Int))=WF:=ei om;simp only[aM,e0,gL];rw[FB _ 0 hl,ih' _ m0 c m hm om];simp only[aD];generalize kW (e.fKids.getD 0 dH) m=x at i1 i2⊢
 cases hx0:(x.2.1 != 0)with
 | true=>rfl
 | false=>
 have hx0':x.2.1=0:=by simpa using hx0
 simp only[aM];have hun:(cond (T1 (3<=e.fOp)) (W0 (T1 (e.fOp<=6))) (W0 UV):O Bool)=W0 (T1 (3<=e.fOp)&&T1 (e.fOp<=6)):=by grind
 rw[hun];simp only[aD]
 cases ZY:(T1 (3<=e.fOp)&&T1 (e.fOp<=6))with
 | true=>
  have ak7:3<=e.fOp/\e.fOp<=6:=by simpa using ZY
  have IJ:(e.fOp==26)=UV:=Ho om;rw[IJ]
  simp_all[aY,aM,apE]
 | false=>
 have ak7:¬ (3<=e.fOp/\e.fOp<=6):=by
  simp_all
 simp only[aM]
 cases IJ:(e.fOp==26)with
 | true=>
  have asF:e.fOp=26:=by simpa using IJ
  simp only[aY]
  grind[agK,Prod.ext]
 | false=>
 simp only[gH]at IJ;simp only[aM];have hl1:1<e.fKids.length:=by rcases g.shape with h|h|h|h|h|h<;>omega
 obtain⟨g1,m1⟩:=g.FC hl1;have n01:=IQ (l:=e.fKids) (i:=0) (j:=1) om hl1;have ne:=Hg e;have e1:T1 (1<(e.fKids.length:Int))=WF:=ei om;have f1:=ih' _ m1 _ x.2.2 i1 om;rw[FB _ 1 hl1,e1,f1]
 cases Yd:(e.fOp==25)with
 | true=>
  have apF:e.fOp=25:=by simpa using Yd
  have hl2:2<e.fKids.length:=by rcases g.shape with h|h|h|h|h|h<;>omega
  obtain⟨g2,m2⟩:=g.FC hl2;have n02:=IQ (l:=e.fKids) (i:=0) (j:=2) om hl2;have e2:T1 (2<(e.fKids.length:Int))=WF:=ei om;rw[FB _ 2 hl2,e2,ih' _ m2 _ x.2.2 i1 om];simp only[aY,gL,aD]
  cases (x.1 != 0)<;>rfl
 | false=>
 simp only[aM,gL,aD];have hx:(x.1 != 0)=!(x.1==0):=rfl;unfold abN
 cases h23:(e.fOp==23)with
 | true=>
  have asG:e.fOp=23:=by simpa using h23
  have U1:(e.fOp==24)=UV:=Ho om;rw[U1,hx]
  cases h0:(x.1==0)with
  | true=>rfl
  | false=>
   simp only[aY,aM,aD,PJ,Ti,BD]
   cases ((kW (e.fKids.getD 1 dH) x.2.2).2.1 != 0)with
   | true=>rfl
   | false=>
    have:ux e.fOp x.1 (kW (e.fKids.getD 1 dH) x.2.2).1=(tr ((kW (e.fKids.getD 1 dH) x.2.2).1 != 0),0):=by
     rw[asG];show(tr (x.1 != 0&&(kW (e.fKids.getD 1 dH) x.2.2).1 != 0),(0:Int))=_;rw[hx,h0];rfl
    rw[this]
    rfl
 | false=>
  cases U1:(e.fOp==24)with
  | true=>
   have asH:e.fOp=24:=by simpa using U1
   rw[hx]
   cases h0:(x.1==0)with
   | false=>rfl
   | true=>
    simp only[aY,aM,aD,PJ,Ti,BD,jd]
    cases ((kW (e.fKids.getD 1 dH) x.2.2).2.1 != 0)with
    | true=>rfl
    | false=>
     have:ux e.fOp x.1 (kW (e.fKids.getD 1 dH) x.2.2).1=(tr ((kW (e.fKids.getD 1 dH) x.2.2).1 != 0),0):=by
      rw[asH];show(tr (x.1 != 0||(kW (e.fKids.getD 1 dH) x.2.2).1 != 0),(0:Int))=_
      simp_all
     rw[this]
     rfl
  | false=>
   simp only[gH]at h23 U1;simp only[aM,aD,Ti]
   grind[aiF]
def ya(e:TExpr)(l:J cO):Int×J cO×Int:=
 cond (iA e 0 != 0) (0,[],iA e 0) (cond ((kW e (uw l)).2.1 != 0) (0,[],(kW e (uw l)).2.1) ((kW e (uw l)).1,tU (kW e (uw l)).2.2,0))
theorem MG{α β:Type}(f:α->β):∀(l:J α)(t:J β),l.foldl (λt k=>t++[f k]) t=t++l.map f
 | [],t=>by simp
 | x::l,t=>by rw[vS,MG f l];simp
def SQ(l:J cO):Prop:=∀b,b∈l->b.fName.length<=60/\b.bS.length<=4096
theorem Vb(e:TExpr):Vd e->Nms e:=by
 induction e using TExpr.ind with
 | h op n name kids ih=>
  intro v
  cases v with
  | mk _ _ _ _ h1 h2 h3 h4 h5 h6 h7=>
   refine .mk op n name kids ?_ λk hk=>ih k hk (h7 k hk)
   cases hn:LP op with
   | true=>
    have:=h6 hn;unfold rName at this
    grind
   | false=>
    simp_all
theorem abQ(ho:iM e)(hl:l.length<=1000)(hb:SQ l)(hn:nodes e<=10000):bL λF _=>DW F e l=W0 (ya e l):=by
 by_cases hv:iA e 0=0
 ·have g:Good e:=⟨IL e 0 hv,ho,Vb e (IL e 0 hv)⟩
  refine(Kw ho).CV (YI e g).fst (bL.ge 100000 λF n h _=>h) λF _ h1 h2 hF=>?_;unfold DW ya wx;simp only[TExpr.eta];rw[h1,hv];have hm:=Hj hb;obtain⟨k1,k2⟩:=O0 e g _ _ hm;refine Dm l (λi (t:Env)=>((i:Int),t)) (λm b=>jN cW m b.fName b.bS) (λ_ _=>True) om rfl trivial ?_ (λ_ _ _ _=>trivial) ?_
  ·intro i h t rc _
   simp only[yq h,b9,gd h,bz (i:=i) om];rfl
  ·intro rc _
   simp only[He];show((jF F F e (uw l)).bind _)=_;rw[h2 _ _ hm];simp only[aD];generalize kW e (uw l)=x at k1 k2⊢
   cases (x.2.1 != 0)with
   | true=>rfl
   | false=>
    rw[ara k1 om]
    have hks:(sF (x.2.2.map (·.1))).length<=11000:=by
     rw[(Bx _).length_eq,mg];have:=k1.len;omega
    refine Dm (sF (x.2.2.map (·.1))) (λi (t:J cO)=>(t,(i:Int))) (λt k=>t++[Bk x.2.2 k]) (λi t=>t.length<=i) om rfl si ?_ ?_ ?_
    ·intro i h t rc hI
     simp only[yq h,b9,gd h,bz (i:=i) om];rw[ez bp om];rfl
    ·simp_all
    ·intro rc _
     simp only[He];rw[MG];rfl
 ·refine(Kw ho).mono λF _ h1=>?_
  unfold DW ya wx;simp
  grind
theorem KA(ho:iM e):bL λF _=>Dt F e=W0 (iA e 0):=
 (RL ho).fst.mono λF _ h=>by
  unfold Dt RU wx
  simp_all
theorem adw(ho:iM e)(hl:l.length<=1000)(hb:SQ l)(hn:nodes e<=10000):bL λF _=>BG F e l=W0 (ya e l):=by
 by_cases hv:iA e 0=0
 ·have g:Good e:=⟨IL e 0 hv,ho,Vb e (IL e 0 hv)⟩
  refine(KA ho).CV (adv e g).fst (bL.ge 100000 λF n h _=>h) λF _ h1 h2 hF=>?_;unfold BG ya wx;simp;rw[h1,hv];rw[aiD F l om hl hb];show((tq F F e (tU (uw l))).bind _)=_;rw[h2 _ _ (Hj hb) om]
  grind
 ·refine(KA ho).mono λF _ h1=>?_
  unfold BG ya wx;simp
  grind
theorem aiG(ho:iM e)(hl:l.length<=1000)(hb:SQ l)(hn:nodes e<=10000):(ya e l).2.1.length<=100000:=by
 unfold ya
 cases hv:(iA e 0 != 0)with
 | true=>simp
 | false=>
  have jz:iA e 0=0:=by simpa using hv
  have g:Good e:=⟨IL e 0 jz,ho,Vb e (IL e 0 jz)⟩;obtain⟨k1,k2⟩:=O0 e g _ _ (Hj hb)
  cases ((kW e (uw l)).2.1 != 0)with
  | true=>simp
  | false=>
   simp;rw[WA];have:=k1.len;omega
def aiH:J (Bs×Int×Int):=[([124,124],3,24),([38,38],4,23),([124],5,22),([94],6,21),([38],7,20),([61,61],8,18),([33,61],8,19),([60],9,14),([62],9,15),([60,61],9,16),([62,61],9,17),([60,60],10,12),([62,62],10,13),([43],11,10),([45],11,11),([42],12,7),([47],12,8),([37],12,9)]
def gw(x:Bs):Int×Int:=match aiH.find? (λp=>p.1==x)with|some p=>p.2|none=>(0,0)
def apG:J (Bs×Int):=[([61],0),([43,61],10),([45,61],11),([42,61],7),([47,61],8),([37,61],9),([60,60,61],12),([62,62,61],13),([38,61],20),([94,61],21),([124,61],22)]
def tu(x:Bs):Int:=match apG.find? (λp=>p.1==x)with|some p=>p.2|none=>-1
def uN(x:Bs):Int:=cond (x==[45]) 3 (cond (x==[43]) 4 (cond (x==[33]) 5 (cond (x==[126]) 6 0)))
structure Tab(x:Bs):Prop where
 bin:∀G s p,jV (G+20) s 3 p x=W0 (gw x)
 asg:∀G p,qv (G+20) ⟨3,p,x⟩=W0 (cond (tu x == -1) 0 (tu x),!(tu x == -1))
 asr:∀G,rK (G+20) x=W0 (tu x)
 bir:∀G l,kX (G+20) x l=W0 (cond ((gw x).1==l) (gw x).2 0)
 lv:0<=(gw x).1/\(gw x).1<=12/\((gw x).1=0\/3<=(gw x).1)
 op:(gw x).1≠0->7<=(gw x).2/\(gw x).2<=24/\(lX (gw x).2).1=(gw x).1/\(lX (gw x).2).2=x
variable{x:Bs}
theorem ak9(h:gw x=(0,0))(hr:∀G l,kX (G+20) x l=W0 0):∀G l,kX (G+20) x l=W0 (cond ((gw x).1==l) (gw x).2 0):=by
 simp_all
theorem ala{lv op:Int}(h:gw x=(lv,op))(hr:∀G l,kX (G+20) x l=cond (lv==l) (W0 op) (W0 0)):∀G l,kX (G+20) x l=W0 (cond ((gw x).1==l) (gw x).2 0):=by
 grind
theorem anq:∀x,x∈([]::pQ)->Tab x:=by
 intro x hx;simp[pQ,zJ,agD]at hx
 rcases hx with rfl|rfl|rfl|rfl|rfl|rfl|rfl|rfl|rfl|rfl|rfl|rfl|rfl|rfl|rfl|rfl|rfl|rfl|rfl|rfl|rfl|rfl|rfl|rfl|rfl|rfl|rfl|rfl|rfl|rfl|rfl|rfl|rfl|rfl|rfl|rfl<;>
  exact⟨λG s p=>by kernel_rfl,λG p=>by kernel_rfl,λG=>by kernel_rfl,(by first|exact ak9 de (λG l=>by kernel_rfl)|exact ala rfl (λG l=>by kernel_rfl)),de,de⟩
def kd(s:Bs)(i:Nat):Int:=(uu s i).dN
def tx(s:Bs)(i:Nat):Bs:=(uu s i).dh
def sy(s:Bs)(i:Nat):Bs:=nM (s.drop (skip s i))
def nx(s:Bs)(i:Nat):Nat:=skip s i+(tx s i).length
inductive asI(s:Bs)(i:Nat):Prop
 | fin (h:uu s i=⟨0,skip s i,[]⟩) (hs:sy s i=[]) (hw:lD s (skip s i)=[]) (he:s.length<=skip s i)
 | num (w:Bs) (b:UInt8) (h:uu s i=⟨1,skip s i,b::w⟩) (hs:sy s i=[]) (hw:lD s (skip s i)=b::w) (hd:dg b=WF) (hl:skip s i+(b::w).length<=s.length)
 | nam (w:Bs) (b:UInt8) (h:uu s i=⟨2,skip s i,b::w⟩) (hs:sy s i=[]) (hw:lD s (skip s i)=b::w) (hd:le b=WF) (hl:skip s i+(b::w).length<=s.length)
 | op (x:Bs) (h:uu s i=⟨3,skip s i,x⟩) (hs:sy s i=x) (hw:lD s (skip s i)=[]) (hm:x∈pQ) (hl:skip s i+x.length<=s.length)
 | oth (b:UInt8) (h:uu s i=⟨4,skip s i,[b]⟩) (hs:sy s i=[]) (hw:lD s (skip s i)=[]) (hl:skip s i+1<=s.length)
theorem aiI:∀n:Fin 256,fo (UInt8.ofNat n.val)=WF->∀o,o∈pQ->[UInt8.ofNat n.val].isPrefixOf o=UV:=by decide +kernel
theorem arc(b:UInt8)(h:fo b=WF):∀o,o∈pQ->[b].isPrefixOf o=UV:=
 SO (P:=λb=>fo b=WF->∀o,o∈pQ->[b].isPrefixOf o=UV) aiI b h
theorem alb(b:UInt8)(m:Bs)(h:fo b=WF):nM (b::m)=[]:=by
 rcases OV (b::m)with h1|⟨h1,h2⟩
 ·exact h1
 ·have hne:=CY _ h1
  have:=arc b h _ h1;revert this h2 hne
  cases nM (b::m)with
  | nil=>simp_all
  | cons c o=>
   simp_all
theorem mA(s:Bs)(i:Nat)(hi:i<=s.length):asI s i:=by
 obtain⟨h1,h2⟩:=iu s i hi;have e1:uu s i=U4 s (skip s i):=rfl;have e2:sy s i=nM (s.drop (skip s i)):=rfl;generalize hj:skip s i=j at h1 h2 e1 e2;unfold U4 at e1
 cases hd:s.drop j with
 | nil=>
  rw[hd]at e1 e2;refine .fin (by rw[hj];exact e1) e2 (by rw[hj];unfold lD;rw[hd];rfl) ?_
  simp_all
 | cons b m=>
  have hlen:(s.drop j).length=m.length+1:=by rw[hd];rfl
  rw[Gq]at hlen;rw[hd]at e1 e2;simp only[]at e1
  cases hf:fo b with
  | true=>
   have hw:lD s j=b::m.takeWhile fo:=by unfold lD;simp_all
   have hl:j+(b::m.takeWhile fo).length<=s.length:=by
    grind[zK,List.length_cons]
   rw[alb b m hf]at e2;rw[hf,hw]at e1
   cases hdg:dg b with
   | true=>rw[hdg]at e1;exact .num (m.takeWhile fo) b (by rw[hj];exact e1) e2 (by rw[hj];exact hw) hdg (by rw[hj];exact hl)
   | false=>
    rw[hdg]at e1;refine .nam (m.takeWhile fo) b (by rw[hj];exact e1) e2 (by rw[hj];exact hw) ?_ (by rw[hj];exact hl)
    simp_all[amj]
  | false=>
   have hw:lD s j=[]:=by unfold lD;simp_all
   rw[hf]at e1;rcases OV (b::m)with ho|⟨ho1,ho2⟩
   ·rw[ho]at e1 e2
    exact .oth b (by rw[hj];exact e1) e2 (by rw[hj];exact hw) (by rw[hj];omega)
   ·have hne:=CY _ ho1
    have:(nM (b::m)==[])=UV:=by simpa using hne
    rw[this]at e1;have hle:=ho2.length_le;simp at hle;exact .op (nM (b::m)) (by rw[hj];exact e1) e2 (by rw[hj];exact hw) ho1 (by rw[hj];omega)
theorem O1(s:Bs)(i:Nat):sy s i∈([]::pQ):=by
 unfold sy
 grind[OV,List.mem_cons_of_mem]
theorem zi(s:Bs)(i:Nat):Tab (sy s i):=anq _ (O1 s i)
theorem kO(s:Bs)(i:Nat)(hi:i<=s.length):nx s i<=s.length/\i<=nx s i/\(kd s i≠0->i<nx s i):=by
 obtain⟨h1,h2⟩:=iu s i hi;unfold nx tx kd;rcases mA s i hi with⟨h,_,_,_⟩|⟨w,b,h,_,_,_,hl⟩|⟨w,b,h,_,_,_,hl⟩|⟨x,h,_,_,hm,hl⟩|⟨b,h,_,_,hl⟩<;>rw[h]<;>simp at *
 ·simp_all
 ·grind
 ·grind
 ·have:x.length≠0:=by
   simp_all[CY]
  grind
 grind
theorem BH(s:Bs)(i:Nat)(hi:i<=s.length)(h:sy s i≠[]):kd s i=3/\tx s i=sy s i:=by
 unfold kd tx;rcases mA s i hi with⟨h',hs,_,_⟩|⟨w,b,h',hs,_,_,hl⟩|⟨w,b,h',hs,_,_,hl⟩|⟨x,h',hs,_,hm,hl⟩|⟨b,h',hs,_,hl⟩
 ·exact absurd hs h
 ·exact absurd hs h
 ·exact absurd hs h
 ·simp_all
 ·exact absurd hs h
inductive vA
 | ok (e:TExpr) (j:Nat)
 | err (p:Nat) (c:Int)
inductive nH
 | expr
 | cond
 | oper (l:Int)
 | loop (l:Int) (a:TExpr)
 | un
 | nZ
def jD(s:Bs)(i:Nat):Int:=cond (kd s i==2) (tu (sy s (nx s i))) (-1)
inductive D(s:Bs):nH->Nat->vA->Prop
 | BI {i:Nat} {r:vA} (h:jD s i=-1) (d:D s .cond i r):D s .expr i r
 | BJ {i:Nat} (h:jD s i≠-1) (hn:rName (tx s i)=UV):D s .expr i (.err (skip s i) 10)
 | FD {i j:Nat} {e:TExpr} (h:jD s i≠-1) (hn:rName (tx s i)=WF) (d:D s .expr (nx s (nx s i)) (.ok e j)):D s .expr i (.ok (.mk 26 (jD s i) (tx s i) [e]) j)
 | FE {i p:Nat} {c:Int} (h:jD s i≠-1) (hn:rName (tx s i)=WF) (d:D s .expr (nx s (nx s i)) (.err p c)):D s .expr i (.err p c)
 | FF {i p:Nat} {c:Int} (d:D s (.oper 3) i (.err p c)):D s .cond i (.err p c)
 | FG {i j:Nat} {a:TExpr} (d:D s (.oper 3) i (.ok a j)) (h:sy s j≠[63]):D s .cond i (.ok a j)
 | FH {i j p:Nat} {c:Int} {a:TExpr} (d:D s (.oper 3) i (.ok a j)) (h:sy s j=[63]) (d2:D s .expr (nx s j) (.err p c)):D s .cond i (.err p c)
 | FI {i j k:Nat} {a b:TExpr} (d:D s (.oper 3) i (.ok a j)) (h:sy s j=[63]) (d2:D s .expr (nx s j) (.ok b k)) (h2:sy s k≠[58]):D s .cond i (.err (skip s k) 6)
 | LU {i j k p:Nat} {c:Int} {a b:TExpr} (d:D s (.oper 3) i (.ok a j)) (h:sy s j=[63]) (d2:D s .expr (nx s j) (.ok b k)) (h2:sy s k=[58]) (d3:D s .cond (nx s k) (.err p c)):D s .cond i (.err p c)
 | FJ {i j k m:Nat} {a b e:TExpr} (d:D s (.oper 3) i (.ok a j)) (h:sy s j=[63]) (d2:D s .expr (nx s j) (.ok b k)) (h2:sy s k=[58]) (d3:D s .cond (nx s k) (.ok e m)):D s .cond i (.ok (.mk 25 0 [] [a,b,e]) m)
 | Vc {l:Int} {i p:Nat} {c:Int} (d:D s .un i (.err p c)):D s (.oper l) i (.err p c)
 | WB {l:Int} {i j:Nat} {a:TExpr} {r:vA} (d:D s .un i (.ok a j)) (d2:D s (.loop l a) j r):D s (.oper l) i r
 | wZ {l:Int} {i:Nat} {a:TExpr} (h:(gw (sy s i)).1<l):D s (.loop l a) i (.ok a i)
 | Du {l:Int} {i p:Nat} {c:Int} {a:TExpr} (h:l<=(gw (sy s i)).1) (d:D s (.oper ((gw (sy s i)).1+1)) (nx s i) (.err p c)):D s (.loop l a) i (.err p c)
 | Hq {l:Int} {i j:Nat} {a b:TExpr} {r:vA} (h:l<=(gw (sy s i)).1) (d:D s (.oper ((gw (sy s i)).1+1)) (nx s i) (.ok b j)) (d2:D s (.loop l (.mk (gw (sy s i)).2 0 [] [a,b])) j r):D s (.loop l a) i r
 | BK {i:Nat} {r:vA} (h:uN (sy s i)=0) (d:D s .nZ i r):D s .un i r
 | FK {i p:Nat} {c:Int} (h:uN (sy s i)≠0) (d:D s .un (nx s i) (.err p c)):D s .un i (.err p c)
 | LV {i j:Nat} {a:TExpr} (h:uN (sy s i)≠0) (d:D s .un (nx s i) (.ok a j)):D s .un i (.ok (.mk (uN (sy s i)) 0 [] [a]) j)
 | FL {i:Nat} (h:kd s i=1) (hv:(oW (tx s i)).2=0):D s .nZ i (.ok (.mk 1 (oW (tx s i)).1 [] []) (nx s i))
 | BL {i:Nat} (h:kd s i=1) (hv:(oW (tx s i)).2≠0):D s .nZ i (.err (skip s i) (oW (tx s i)).2)
 | FM {i:Nat} (h:kd s i=2) (hv:rName (tx s i)=WF):D s .nZ i (.ok (.mk 2 0 (tx s i) []) (nx s i))
 | BM {i:Nat} (h:kd s i=2) (hv:rName (tx s i)=UV):D s .nZ i (.err (skip s i) 10)
 | FN {i:Nat} (h1:kd s i≠1) (h2:kd s i≠2) (h:sy s i≠[40]):D s .nZ i (.err (skip s i) 6)
 | LW {i p:Nat} {c:Int} (h:sy s i=[40]) (d:D s .expr (nx s i) (.err p c)):D s .nZ i (.err p c)
 | yb {i j:Nat} {e:TExpr} (h:sy s i=[40]) (d:D s .expr (nx s i) (.ok e j)) (h2:sy s j≠[41]):D s .nZ i (.err (skip s j) 6)
 | LX {i j:Nat} {e:TExpr} (h:sy s i=[40]) (d:D s .expr (nx s i) (.ok e j)) (h2:sy s j=[41]):D s .nZ i (.ok e (nx s j))
def nH.apH:nH->Bool
 | .loop _ _=>WF
 | _=>UV
def ard(s:Bs)(c:nH)(i:Nat):vA->Prop
 | .ok e j=>i<=j/\j<=s.length/\(c.apH=UV->i<j)
 | .err p _=>p<=s.length
variable{s:Bs}
theorem O2(h:jD s i≠-1):kd s i=2/\tu (sy s (nx s i))≠-1/\jD s i=tu (sy s (nx s i)):=by
 unfold jD at h⊢
 grind
theorem abR(h:tu x≠-1):x≠[]:=λe=>h (by rw[e];rfl)
theorem z8{l:Int}(hl:0<l)(h:l<=(gw x).1):x≠[]:=λe=>by rw[e]at h;simp[gw,aiH]at h;omega
theorem Am(h:uN x≠0):x≠[]:=λe=>h (by rw[e];rfl)
def nH.okL:nH->Prop
 | .oper l=>0<l
 | .loop l _=>0<l
 | _=>True
theorem dL(hi:i<=s.length)(h:sy s i≠[]):nx s i<=s.length/\i<nx s i:=by
 simp_all[kO,BH]
theorem w5(hi:i<=s.length)(h:jD s i≠-1):nx s i<=s.length/\i<nx s i/\nx s (nx s i)<=s.length/\i<nx s (nx s i):=by
 grind[O2,kO,dL,abR]
variable{r:vA}
theorem mB{c:nH}(d:D s c i r):i<=s.length->c.okL->ard s c i r:=by
 induction d with
 | @BI i r h d ih=>
  intro hi _;have:=ih hi trivial
  cases r with
  | ok e j=>exact this
  | err p c=>exact this
 | BJ h hn=>intro hi _;exact(iu s _ hi).1
 | FD h hn d ih=>
  intro hi _;obtain⟨a,b,c,e⟩:=w5 hi h;obtain⟨x,y,z⟩:=ih c trivial
  exact⟨om,y,λ_=>om⟩
 | FE h hn d ih=>intro hi _;exact ih (w5 hi h).2.2.1 trivial
 | FF d ih=>intro hi _;exact ih hi (show(0:Int)<3 by decide)
 | FG d h ih=>intro hi _;exact ih hi (show(0:Int)<3 by decide)
 | FH d h d2 ih ih2=>
  intro hi _;obtain⟨x,y,z⟩:=ih hi (show(0:Int)<3 by decide)
  exact ih2 (dL y (by rw[h];decide)).1 trivial
 | FI d h d2 h2 ih ih2=>
  intro hi _;obtain⟨x,y,z⟩:=ih hi (show(0:Int)<3 by decide);obtain⟨x2,y2,z2⟩:=ih2 (dL y (by rw[h];decide)).1 trivial
  exact(iu s _ y2).1
 | LU d h d2 h2 d3 ih ih2 ih3=>
  intro hi _;obtain⟨x,y,z⟩:=ih hi (show(0:Int)<3 by decide);obtain⟨x2,y2,z2⟩:=ih2 (dL y (by rw[h];decide)).1 trivial
  exact ih3 (dL y2 (by rw[h2];decide)).1 trivial
 | FJ d h d2 h2 d3 ih ih2 ih3=>
  intro hi _;obtain⟨x,y,z⟩:=ih hi (show(0:Int)<3 by decide);obtain⟨m1,m2⟩:=dL y (by rw[h];decide);obtain⟨x2,y2,z2⟩:=ih2 m1 trivial;obtain⟨m3,m4⟩:=dL y2 (by rw[h2];decide);obtain⟨x3,y3,z3⟩:=ih3 m3 trivial
  exact⟨om,y3,λ_=>om⟩
 | Vc d ih=>intro hi _;exact ih hi trivial
 | @WB l i j a r d d2 ih ih2=>
  intro hi hl;obtain⟨x,y,z⟩:=ih hi trivial;have:=ih2 y hl
  cases r with
  | ok e j=>
   obtain⟨x2,y2,_⟩:=this;have:=z rfl
   exact⟨om,y2,λ_=>om⟩
  | err p c=>exact this
 | wZ h=>intro hi _;exact⟨eu _,hi,λh=>by cases h⟩
 | @Du l i p c a h d ih=>
  intro hi hl;have hl:0<l:=hl
  exact ih (dL hi (z8 hl h)).1 (show(0:Int)<_ by omega)
 | @Hq l i j a b r h d d2 ih ih2=>
  intro hi hl;have hl':0<l:=hl;obtain⟨m1,m2⟩:=dL hi (z8 hl' h);obtain⟨x,y,z⟩:=ih m1 (show(0:Int)<_ by omega);have:=ih2 y hl
  cases r with
  | ok e j=>
   obtain⟨x2,y2,_⟩:=this
   exact⟨om,y2,λh=>by cases h⟩
  | err p c=>exact this
 | @BK i r h d ih=>
  intro hi _;have:=ih hi trivial
  cases r with
  | ok e j=>exact this
  | err p c=>exact this
 | FK h d ih=>intro hi _;exact ih (dL hi (Am h)).1 trivial
 | LV h d ih=>
  intro hi _;obtain⟨m1,m2⟩:=dL hi (Am h);obtain⟨x,y,z⟩:=ih m1 trivial
  exact⟨om,y,λ_=>om⟩
 | FL h hv=>
  intro hi _;obtain⟨a,b,c⟩:=kO s _ hi;have c:=c (by rw[h];decide)
  exact⟨b,a,λ_=>c⟩
 | BL h hv=>intro hi _;exact(iu s _ hi).1
 | FM h hv=>
  intro hi _;obtain⟨a,b,c⟩:=kO s _ hi;have c:=c (by rw[h];decide)
  exact⟨b,a,λ_=>c⟩
 | BM h hv=>intro hi _;exact(iu s _ hi).1
 | FN h1 h2 h=>intro hi _;exact(iu s _ hi).1
 | LW h d ih=>intro hi _;exact ih (dL hi (by rw[h];decide)).1 trivial
 | yb h d h2 ih=>
  intro hi _;obtain⟨x,y,z⟩:=ih (dL hi (by rw[h];decide)).1 trivial
  exact(iu s _ y).1
 | LX h d h2 ih=>
  intro hi _;obtain⟨m1,m2⟩:=dL hi (by rw[h];decide);obtain⟨x,y,z⟩:=ih m1 trivial;obtain⟨m3,m4⟩:=dL y (by rw[h2];decide);exact⟨om,m3,λ_=>om⟩
def nH.w6:nH->Nat
 | .expr=>4
 | .cond=>3
 | .oper _=>2
 | .loop _ _=>0
 | .un=>1
 | .nZ=>0
theorem anr(s:Bs)(n:Nat):∀(c:nH)(i:Nat),i<=s.length->c.okL->(s.length-i)*5+c.w6<n->∃r,D s c i r:=by
 induction n with
 | zero=>intro c i _ _ h;omega
 | succ n ih=>
  intro c i hi hc hm
  cases c with
  | expr=>
   simp[nH.w6]at hm;by_cases h:jD s i=-1
   ·obtain⟨r,d⟩:=ih .cond i hi trivial (by simp[nH.w6];omega)
    exact⟨r,.BI h d⟩
   ·obtain⟨_,_,m1,m2⟩:=w5 hi h
    cases hn:rName (tx s i)with
    | false=>exact⟨_,.BJ h hn⟩
    | true=>
     obtain⟨r,d⟩:=ih .expr _ m1 trivial (by simp[nH.w6];omega)
     cases r with
     | ok e j=>exact⟨_,.FD h hn d⟩
     | err p c=>exact⟨_,.FE h hn d⟩
  | cond=>
   simp[nH.w6]at hm;have h3:=show(0:Int)<3 by decide
   obtain⟨r,d⟩:=ih (.oper 3) i hi h3 (by simp[nH.w6];omega)
   cases r with
   | err p c=>exact⟨_,.FF d⟩
   | ok a j=>
    obtain⟨x,y,z⟩:=mB d hi h3;by_cases h:sy s j=[63]
    ·obtain⟨m1,m2⟩:=dL y (by rw[h];decide)
     obtain⟨r,d2⟩:=ih .expr _ m1 trivial (by simp[nH.w6];omega)
     cases r with
     | err p c=>exact⟨_,.FH d h d2⟩
     | ok b k=>
      obtain⟨x2,y2,z2⟩:=mB d2 m1 trivial;by_cases h2:sy s k=[58]
      ·obtain⟨m3,m4⟩:=dL y2 (by rw[h2];decide)
       obtain⟨r,d3⟩:=ih .cond _ m3 trivial (by simp[nH.w6];omega)
       cases r with
       | err p c=>exact⟨_,.LU d h d2 h2 d3⟩
       | ok e m=>exact⟨_,.FJ d h d2 h2 d3⟩
      ·exact⟨_,.FI d h d2 h2⟩
    ·exact⟨_,.FG d h⟩
  | oper l=>
   simp[nH.w6]at hm;obtain⟨r,d⟩:=ih .un i hi trivial (by simp[nH.w6];omega)
   cases r with
   | err p c=>exact⟨_,.Vc d⟩
   | ok a j=>
    obtain⟨x,y,z⟩:=mB d hi trivial;obtain⟨r,d2⟩:=ih (.loop l a) j y hc (by simp[nH.w6];omega)
    exact⟨_,.WB d d2⟩
  | loop l a=>
   have hl:0<l:=hc;by_cases h:(gw (sy s i)).1<l
   ·exact⟨_,.wZ h⟩
   ·have h:l<=(gw (sy s i)).1:=om
    obtain⟨m1,m2⟩:=dL hi (z8 hl h);have ho:(nH.oper ((gw (sy s i)).1+1)).okL:=show(0:Int)<_ by omega
    obtain⟨r,d⟩:=ih (.oper ((gw (sy s i)).1+1)) _ m1 ho (by simp[nH.w6];omega)
    cases r with
    | err p c=>exact⟨_,.Du h d⟩
    | ok b j=>
     obtain⟨x,y,z⟩:=mB d m1 ho;obtain⟨r,d2⟩:=ih (.loop l (.mk (gw (sy s i)).2 0 [] [a,b])) j y hc (by simp[nH.w6];omega)
     exact⟨_,.Hq h d d2⟩
  | un=>
   simp[nH.w6]at hm;by_cases h:uN (sy s i)=0
   ·obtain⟨r,d⟩:=ih .nZ i hi trivial (by simp[nH.w6];omega)
    exact⟨_,.BK h d⟩
   ·obtain⟨m1,m2⟩:=dL hi (Am h)
    obtain⟨r,d⟩:=ih .un _ m1 trivial (by simp[nH.w6];omega)
    cases r with
    | ok e j=>exact⟨_,.LV h d⟩
    | err p c=>exact⟨_,.FK h d⟩
  | nZ=>
   by_cases h1:kd s i=1
   ·by_cases hv:(oW (tx s i)).2=0
    ·exact⟨_,.FL h1 hv⟩
    ·exact⟨_,.BL h1 hv⟩
   ·by_cases h2:kd s i=2
    ·cases hv:rName (tx s i)with
     | true=>exact⟨_,.FM h2 hv⟩
     | false=>exact⟨_,.BM h2 hv⟩
    ·by_cases h:sy s i=[40]
     ·obtain⟨m1,m2⟩:=dL hi (by rw[h];decide)
      obtain⟨r,d⟩:=ih .expr _ m1 trivial (by simp[nH.w6];omega)
      cases r with
      | err p c=>exact⟨_,.LW h d⟩
      | ok e j=>
       by_cases h2:sy s j=[41]
       ·exact⟨_,.LX h d h2⟩
       ·exact⟨_,.yb h d h2⟩
     ·exact⟨_,.FN h1 h2 h⟩
theorem apI(s:Bs)(i:Nat)(hi:i<=s.length):∃r,D s .expr i r:=anr s _ .expr i hi trivial (Js _)
abbrev mM(s:Bs)(i:Nat):Int:=(gw (sy s i)).1
inductive WC
 | expr
 | cond
 | level (l:Int)
 | loop (l:Int) (a:TExpr)
 | un
 | nZ
inductive RD(s:Bs):WC->Nat->vA->Prop
 | BI {i:Nat} {r:vA} (h:jD s i=-1) (d:RD s .cond i r):RD s .expr i r
 | BJ {i:Nat} (h:jD s i≠-1) (hn:rName (tx s i)=UV):RD s .expr i (.err (skip s i) 10)
 | FD {i j:Nat} {e:TExpr} (h:jD s i≠-1) (hn:rName (tx s i)=WF) (d:RD s .expr (nx s (nx s i)) (.ok e j)):RD s .expr i (.ok (.mk 26 (jD s i) (tx s i) [e]) j)
 | FE {i p:Nat} {c:Int} (h:jD s i≠-1) (hn:rName (tx s i)=WF) (d:RD s .expr (nx s (nx s i)) (.err p c)):RD s .expr i (.err p c)
 | FF {i p:Nat} {c:Int} (d:RD s (.level 3) i (.err p c)):RD s .cond i (.err p c)
 | FG {i j:Nat} {a:TExpr} (d:RD s (.level 3) i (.ok a j)) (h:sy s j≠[63]):RD s .cond i (.ok a j)
 | FH {i j p:Nat} {c:Int} {a:TExpr} (d:RD s (.level 3) i (.ok a j)) (h:sy s j=[63]) (d2:RD s .expr (nx s j) (.err p c)):RD s .cond i (.err p c)
 | FI {i j k:Nat} {a b:TExpr} (d:RD s (.level 3) i (.ok a j)) (h:sy s j=[63]) (d2:RD s .expr (nx s j) (.ok b k)) (h2:sy s k≠[58]):RD s .cond i (.err (skip s k) 6)
 | LU {i j k p:Nat} {c:Int} {a b:TExpr} (d:RD s (.level 3) i (.ok a j)) (h:sy s j=[63]) (d2:RD s .expr (nx s j) (.ok b k)) (h2:sy s k=[58]) (d3:RD s .cond (nx s k) (.err p c)):RD s .cond i (.err p c)
 | FJ {i j k m:Nat} {a b e:TExpr} (d:RD s (.level 3) i (.ok a j)) (h:sy s j=[63]) (d2:RD s .expr (nx s j) (.ok b k)) (h2:sy s k=[58]) (d3:RD s .cond (nx s k) (.ok e m)):RD s .cond i (.ok (.mk 25 0 [] [a,b,e]) m)
 | agL {l:Int} {i:Nat} {r:vA} (hl:12<l) (d:RD s .un i r):RD s (.level l) i r
 | ZR {l:Int} {i p:Nat} {c:Int} (h3:3<=l) (hl:l<=12) (d:RD s (.level (l+1)) i (.err p c)):RD s (.level l) i (.err p c)
 | alc {l:Int} {i j:Nat} {a:TExpr} {r:vA} (h3:3<=l) (hl:l<=12) (d:RD s (.level (l+1)) i (.ok a j)) (d2:RD s (.loop l a) j r):RD s (.level l) i r
 | wZ {l:Int} {i:Nat} {a:TExpr} (h:mM s i≠l):RD s (.loop l a) i (.ok a i)
 | Du {l:Int} {i p:Nat} {c:Int} {a:TExpr} (h:mM s i=l) (d:RD s (.level (l+1)) (nx s i) (.err p c)):RD s (.loop l a) i (.err p c)
 | Hq {l:Int} {i j:Nat} {a b:TExpr} {r:vA} (h:mM s i=l) (d:RD s (.level (l+1)) (nx s i) (.ok b j)) (d2:RD s (.loop l (.mk (gw (sy s i)).2 0 [] [a,b])) j r):RD s (.loop l a) i r
 | BK {i:Nat} {r:vA} (h:uN (sy s i)=0) (d:RD s .nZ i r):RD s .un i r
 | FK {i p:Nat} {c:Int} (h:uN (sy s i)≠0) (d:RD s .un (nx s i) (.err p c)):RD s .un i (.err p c)
 | LV {i j:Nat} {a:TExpr} (h:uN (sy s i)≠0) (d:RD s .un (nx s i) (.ok a j)):RD s .un i (.ok (.mk (uN (sy s i)) 0 [] [a]) j)
 | FL {i:Nat} (h:kd s i=1) (hv:(oW (tx s i)).2=0):RD s .nZ i (.ok (.mk 1 (oW (tx s i)).1 [] []) (nx s i))
 | BL {i:Nat} (h:kd s i=1) (hv:(oW (tx s i)).2≠0):RD s .nZ i (.err (skip s i) (oW (tx s i)).2)
 | FM {i:Nat} (h:kd s i=2) (hv:rName (tx s i)=WF):RD s .nZ i (.ok (.mk 2 0 (tx s i) []) (nx s i))
 | BM {i:Nat} (h:kd s i=2) (hv:rName (tx s i)=UV):RD s .nZ i (.err (skip s i) 10)
 | FN {i:Nat} (h1:kd s i≠1) (h2:kd s i≠2) (h:sy s i≠[40]):RD s .nZ i (.err (skip s i) 6)
 | LW {i p:Nat} {c:Int} (h:sy s i=[40]) (d:RD s .expr (nx s i) (.err p c)):RD s .nZ i (.err p c)
 | yb {i j:Nat} {e:TExpr} (h:sy s i=[40]) (d:RD s .expr (nx s i) (.ok e j)) (h2:sy s j≠[41]):RD s .nZ i (.err (skip s j) 6)
 | LX {i j:Nat} {e:TExpr} (h:sy s i=[40]) (d:RD s .expr (nx s i) (.ok e j)) (h2:sy s j=[41]):RD s .nZ i (.ok e (nx s j))
inductive Tl(s:Bs):Int->TExpr->Nat->vA->Prop
 | top {a:TExpr} {i:Nat}:Tl s 13 a i (.ok a i)
 | err {l:Int} {a:TExpr} {i p:Nat} {c:Int} (h3:3<=l) (hl:l<=12) (t:Tl s (l+1) a i (.err p c)):Tl s l a i (.err p c)
 | go {l:Int} {a b:TExpr} {i j:Nat} {r:vA} (h3:3<=l) (hl:l<=12) (t:Tl s (l+1) a i (.ok b j)) (d:RD s (.loop l b) j r):Tl s l a i r
theorem QB{s:Bs}{a:TExpr}{i:Nat}:∀(k:Nat)(l:Int),l+k=13->3<=l->mM s i<l->Tl s l a i (.ok a i)
 | 0,l,hk,_,_=>by
  obtain rfl:l=13:=om
  exact .top
 | k+1,l,hk,h3,h=>.go h3 om (QB k (l+1) om om om) (.wZ om)
theorem aek{l:Int}{a:TExpr}(t:Tl s l a i r):mM s i<l->r=.ok a i:=by
 induction t with
 | top=>intro _;rfl
 | err h3 hl t ih=>grind
 | @go l a b i j r h3 hl t d ih=>
  intro h;cases ih om
  cases d with
  | wZ _=>rfl
  | Du h' _=>simp_all
  | Hq h' _ _=>simp_all
theorem agM{s:Bs}{a b:TExpr}{i j:Nat}(hd:RD s (.level (mM s i+1)) (nx s i) (.ok b j))(hj:mM s j<mM s i+1)(h12:mM s i<=12):
  ∀(k:Nat)(l:Int)(r:vA),l+k=mM s i->3<=l->Tl s l (.mk (gw (sy s i)).2 0 [] [a,b]) j r->Tl s l a i r
 | 0,l,r,hk,h3,t=>by
  have hk':mM s i=l:=om;rw[hk']at hd hj h12;have hs:Tl s (l+1) a i (.ok a i):=QB (13-(l+1)).toNat _ om om om;generalize hx:TExpr.mk (gw (sy s i)).2 0 [] [a,b]=x at t
  cases t with
  | top=>omega
  | err _ _ t=>cases aek t hj
  | go _ _ t d=>
   cases aek t hj;subst hx
   exact .go h3 h12 hs (.Hq hk' hd d)
 | k+1,l,r,hk,h3,t=>by
  generalize hx:TExpr.mk (gw (sy s i)).2 0 [] [a,b]=x at t
  cases t with
  | top=>omega
  | err _ _ t=>subst hx;exact .err h3 om (agM hd hj h12 k (l+1) _ om om t)
  | go _ _ t d=>subst hx;exact .go h3 om (agM hd hj h12 k (l+1) _ om om t) d
theorem aiJ{s:Bs}{a:TExpr}{i p:Nat}{c:Int}(hd:RD s (.level (mM s i+1)) (nx s i) (.err p c))(h12:mM s i<=12):
  ∀(k:Nat)(l:Int),l+k=mM s i->3<=l->Tl s l a i (.err p c)
 | 0,l,hk,h3=>by
  obtain rfl:l=mM s i:=om
  exact .go h3 h12 (QB (13-(mM s i+1)).toNat _ om om om) (.Du rfl hd)
 | k+1,l,hk,h3=>.err h3 om (aiJ hd h12 k (l+1) om om)
theorem ald{a:TExpr}(hu:RD s .un i (.ok a j)){l:Int}(t:Tl s l a j r):RD s (.level l) i r:=by
 induction t with
 | top=>exact .agL om hu
 | err h3 hl t ih=>exact .ZR h3 hl (ih hu)
 | go h3 hl t d ih=>exact .alc h3 hl (ih hu) d
theorem Yi{s:Bs}{i p:Nat}{c:Int}(hu:RD s .un i (.err p c)):∀(k:Nat)(l:Int),l+k=13->3<=l->RD s (.level l) i (.err p c)
 | 0,l,hk,_=>.agL om hu
 | k+1,l,hk,h3=>.ZR h3 om (Yi hu k (l+1) om om)
theorem ans{c:nH}(d:D s c i r):∀l,(c=.oper l\/∃a,c=.loop l a)->∀e j,r=.ok e j->mM s j<l:=by
 induction d with
 | WB d d2 ih ih2=>
  simp_all
 | wZ h=>
  simp_all
 | Hq h d d2 ih ih2=>
  simp_all
 | _=>simp_all
def MR(s:Bs):nH->Nat->vA->Prop
 | .expr,i,r=>RD s .expr i r
 | .cond,i,r=>RD s .cond i r
 | .oper l,i,r=>3<=l->l<=13->RD s (.level l) i r
 | .loop l a,i,r=>3<=l->l<=13->Tl s l a i r
 | .un,i,r=>RD s .un i r
 | .nZ,i,r=>RD s .nZ i r
theorem asJ{c:nH}(d:D s c i r):MR s c i r:=by
 induction d with
 | BI h d ih=>exact .BI h ih
 | BJ h hn=>exact .BJ h hn
 | FD h hn d ih=>exact .FD h hn ih
 | FE h hn d ih=>exact .FE h hn ih
 | FF d ih=>exact .FF (ih de de)
 | FG d h ih=>exact .FG (ih de de) h
 | FH d h d2 ih ih2=>exact .FH (ih de de) h ih2
 | FI d h d2 h2 ih ih2=>exact .FI (ih de de) h ih2 h2
 | LU d h d2 h2 d3 ih ih2 ih3=>exact .LU (ih de de) h ih2 h2 ih3
 | FJ d h d2 h2 d3 ih ih2 ih3=>exact .FJ (ih de de) h ih2 h2 ih3
 | @Vc l i p c d ih=>exact λh3 Yc=>Yi ih (13-l).toNat l om h3
 | WB d d2 ih ih2=>exact λh3 Yc=>ald ih (ih2 h3 Yc)
 | @wZ l i a h=>exact λh3 Yc=>QB (13-l).toNat l om h3 h
 | @Du l i p c a h d ih=>
  intro h3 Yc;have hlv:0<=mM s i/\mM s i<=12/\(mM s i=0\/3<=mM s i):=(zi s i).lv;have h:l<=mM s i:=h
  exact aiJ (ih (show 3<=mM s i+1 by omega) (show mM s i+1<=13 by omega)) hlv.2.1 (mM s i-l).toNat l om h3
 | @Hq l i j a b r h d d2 ih ih2=>
  intro h3 Yc;have hlv:0<=mM s i/\mM s i<=12/\(mM s i=0\/3<=mM s i):=(zi s i).lv;have h:l<=mM s i:=h
  exact agM (ih (show 3<=mM s i+1 by omega) (show mM s i+1<=13 by omega)) (ans d _ (.inl rfl) _ _ rfl) hlv.2.1 (mM s i-l).toNat l r om h3 (ih2 h3 Yc)
 | BK h d ih=>exact .BK h ih
 | FK h d ih=>exact .FK h ih
 | LV h d ih=>exact .LV h ih
 | FL h hv=>exact .FL h hv
 | BL h hv=>exact .BL h hv
 | FM h hv=>exact .FM h hv
 | BM h hv=>exact .BM h hv
 | FN h1 h2 h=>exact .FN h1 h2 h
 | LW h d ih=>exact .LW h ih
 | yb h d h2 ih=>exact .yb h ih h2
 | LX h d h2 ih=>exact .LX h ih h2
abbrev RA:=(TExpr×Bs×Int×Int×Bs) ⊕ (dU×Bs×Int×Int×Bs)
abbrev SA:=Bs×Int×Int×Bs×Int×Int×Bs×(J TExpr)
def po(s:Bs)(i:Nat):Int:=(skip s i:Int)
def kY(s:Bs):vA->O RA->Prop
 | .ok e j,x=>x=W0 (.inl (e,s,kd s j,po s j,tx s j))
 | .err p c,x=>∃st,x=W0 (.inr (⟨p,c⟩,st))
def BN(F:Nat)(r:Int->Bs->Int->Int->Bs->O RA)(l:Int):(SA->O RA)->SA->O RA:=
 (λgV x2=>
 (jV F x2.1 x2.2.1 x2.2.2.1 x2.2.2.2.1).bind λx4=>
 cond (T1 (x4.1<l))
 (W0 (.inl ((TExpr.mk ((TExpr.mk x2.2.2.2.2.1 x2.2.2.2.2.2.1 x2.2.2.2.2.2.2.1 x2.2.2.2.2.2.2.2).fOp) ((TExpr.mk x2.2.2.2.2.1 x2.2.2.2.2.2.1 x2.2.2.2.2.2.2.1 x2.2.2.2.2.2.2.2).fN) ((TExpr.mk x2.2.2.2.2.1 x2.2.2.2.2.2.1 x2.2.2.2.2.2.2.1 x2.2.2.2.2.2.2.2).fName) ((TExpr.mk x2.2.2.2.2.1 x2.2.2.2.2.2.1 x2.2.2.2.2.2.2.1 x2.2.2.2.2.2.2.2).fKids)),x2.1,x2.2.1,x2.2.2.1,x2.2.2.2.1)))
 ((eV F x2.1 x2.2.1 x2.2.2.1 x2.2.2.2.1).bind λx5=>
 (r (aC (x4.1+1)) x5.1 x5.2.1 x5.2.2.1 x5.2.2.2).bind (sm (λx6=>
 gV (x6.2.1,x6.2.2.1,x6.2.2.2.1,x6.2.2.2.2,(TExpr.mk x4.2 0 [] ([(TExpr.mk x2.2.2.2.2.1 x2.2.2.2.2.2.1 x2.2.2.2.2.2.2.1 x2.2.2.2.2.2.2.2),(TExpr.mk x6.1.fOp x6.1.fN x6.1.fName x6.1.fKids)]:J TExpr)).fOp,(TExpr.mk x4.2 0 [] ([(TExpr.mk x2.2.2.2.2.1 x2.2.2.2.2.2.1 x2.2.2.2.2.2.2.1 x2.2.2.2.2.2.2.2),(TExpr.mk x6.1.fOp x6.1.fN x6.1.fName x6.1.fKids)]:J TExpr)).fN,(TExpr.mk x4.2 0 [] ([(TExpr.mk x2.2.2.2.2.1 x2.2.2.2.2.2.1 x2.2.2.2.2.2.2.1 x2.2.2.2.2.2.2.2),(TExpr.mk x6.1.fOp x6.1.fN x6.1.fName x6.1.fKids)]:J TExpr)).fName,(TExpr.mk x4.2 0 [] ([(TExpr.mk x2.2.2.2.2.1 x2.2.2.2.2.2.1 x2.2.2.2.2.2.2.1 x2.2.2.2.2.2.2.2),(TExpr.mk x6.1.fOp x6.1.fN x6.1.fName x6.1.fKids)]:J TExpr)).fKids)) (λx7=>W0 (.inr (x7.1,x7.2.1,x7.2.2.1,x7.2.2.2.1,x7.2.2.2.2))))))
theorem QC(s:Bs)(i:Nat)(hi:i<=s.length):uu s i=⟨kd s i,po s i,tx s i⟩:=by
 unfold kd tx po;rcases mA s i hi with⟨h,_,_,_⟩|⟨w,b,h,_,_,_,hl⟩|⟨w,b,h,_,_,_,hl⟩|⟨x,h,_,_,hm,hl⟩|⟨b,h,_,_,hl⟩<;>rw[h]
theorem ant(X:O RA):X.bind (sm (λx=>W0 (.inl ((TExpr.mk x.1.fOp x.1.fN x.1.fName x.1.fKids),x.2.1,x.2.2.1,x.2.2.2.1,x.2.2.2.2))) (λx=>W0 (.inr (x.1,x.2.1,x.2.2.1,x.2.2.2.1,x.2.2.2.2))))=X:=by
 cases X with
 | none=>rfl
 | some y=>grind[sm,TExpr.eta]
variable{F:Nat}
section
variable (hl : s.length <= 1000000) (hi : i <= s.length) (hF : s.length + 60 <= F)
include hl hi hF
theorem Hr:oa F s (kd s i) (po s i) (tx s i)=W0 (uu s (nx s i)):=by
 unfold oa wx;obtain⟨a,_,_⟩:=kO s i hi;have e:po s i+((tx s i).length:Int)=((nx s i:Nat):Int):=by unfold po nx;omega
 grind[bN,Wx]
theorem tv:eV F s (kd s i) (po s i) (tx s i)=W0 (s,kd s (nx s i),po s (nx s i),tx s (nx s i)):=by
 unfold eV wx
 simp_all[kO,Hr,QC]
theorem kC(hx:x≠[]):iU F x s (kd s i) (po s i) (tx s i)=W0 (sy s i==x):=by
 unfold iU wx;by_cases h:sy s i=[]
 ·have hk:(cond (kd s i==3) (W0 (tx s i==x)) (W0 UV):O Bool)=W0 UV:=by
   unfold kd tx;rcases mA s i hi with⟨h',_,_,_⟩|⟨w,b,h',_,_,_,_⟩|⟨w,b,h',_,_,_,_⟩|⟨x',h',hs,_,hm,_⟩|⟨b,h',_,_,_⟩<;>rw[h']<;>try rfl
   simp_all
  simp_all
 simp_all[BH]
theorem WD:jV F s (kd s i) (po s i) (tx s i)=W0 (gw (sy s i)):=by
 by_cases h:sy s i=[]
 ·rw[h]
  have hk:(kd s i==3)=UV:=by
   unfold kd;rcases mA s i hi with⟨h',_,_,_⟩|⟨w,b,h',_,_,_,_⟩|⟨w,b,h',_,_,_,_⟩|⟨x',h',hs,_,hm,_⟩|⟨b,h',_,_,_⟩<;>rw[h']<;>try rfl
   simp_all[CY]
  unfold jV wx;rw[hk];rfl
 ·obtain⟨h1,h2⟩:=BH s i hi h
  rw[h1,h2];obtain⟨G,rfl⟩:∃G,F=G+20:=⟨F-20,om⟩;exact(zi s i).bin G s _
theorem IW:qv F (uu s i)=W0 (cond (tu (sy s i) == -1) 0 (tu (sy s i)),!(tu (sy s i) == -1)):=by
 by_cases h:sy s i=[]
 ·rw[h]
  have hk:((uu s i).dN != 3)=WF:=by
   rcases mA s i hi with⟨h',_,_,_⟩|⟨w,b,h',_,_,_,_⟩|⟨w,b,h',_,_,_,_⟩|⟨x',h',hs,_,hm,_⟩|⟨b,h',_,_,_⟩<;>rw[h']<;>try rfl
   simp_all[CY]
  unfold qv wx;rw[hk];rfl
 ·obtain⟨h1,h2⟩:=BH s i hi h
  rw[QC s i hi,h1,h2];obtain⟨G,rfl⟩:∃G,F=G+20:=⟨F-20,om⟩;exact(zi s i).asg G _
theorem ye(hx:x≠[])(h:sy s i=x):iR F x s (kd s i) (po s i) (tx s i)=W0 (.inl (s,kd s (nx s i),po s (nx s i),tx s (nx s i))):=by
 unfold iR wx
 simp_all[kC,tv,jj,sm]
theorem O3(hx:x≠[])(h:sy s i≠x):iR F x s (kd s i) (po s i) (tx s i)=W0 (.inr ⟨po s i,6⟩):=by
 unfold iR wx;have:(sy s i==x)=UV:=by simp_all
 rw[kC hl hi hF hx,this];rfl
omit hF hl in
theorem aiK:(tx s i).length<=s.length:=by
 obtain⟨a,_,_⟩:=kO s i hi;unfold nx at a;omega
omit hF hl in
theorem arf(h:kd s i=1\/kd s i=2):tx s i≠[]:=by
 unfold kd at h;unfold tx;rcases mA s i hi with⟨h',_,_,_⟩|⟨w,b,h',_,_,_,_⟩|⟨w,b,h',_,_,_,_⟩|⟨x',h',hs,_,hm,_⟩|⟨b,h',_,_,_⟩<;>rw[h']at h⊢ <;> simp at h⊢
theorem abS(h:kd s i=1):ze F (tx s i)=W0 (oW (tx s i)):=by
 grind[aiK,akY,arf]
theorem WG(h:rName (tx s i)=WF):iW F s (kd s i) (po s i) (tx s i)=W0 (.inl (tx s i,s,kd s (nx s i),po s (nx s i),tx s (nx s i))):=by
 unfold iW wx
 grind[EB,tv]
theorem aiL(h:rName (tx s i)=UV):iW F s (kd s i) (po s i) (tx s i)=W0 (.inr ⟨po s i,10⟩):=by
 unfold iW wx
 grind[EB]
end
def StA(s:Bs):nH->Nat->vA->Prop
 | .expr,i,r=>bL λF n=>kY s r (aU F n s (kd s i) (po s i) (tx s i))
 | .cond,i,r=>bL λF n=>kY s r (bB F n s (kd s i) (po s i) (tx s i))
 | .oper l,i,r=>bL λF n=>kY s r (aN F n l s (kd s i) (po s i) (tx s i))
 | .loop l a,i,r=>∃N,∀F n m,N<=F->N<=n->N<=m->kY s r (bW (BN F (aN F n) l) m (s,kd s i,po s i,tx s i,a.fOp,a.fN,a.fName,a.fKids))
 | .un,i,r=>bL λF n=>kY s r (bK F n s (kd s i) (po s i) (tx s i))
 | .nZ,i,r=>bL λF n=>kY s r (bG F n s (kd s i) (po s i) (tx s i))
theorem gG(s:Bs):bL λF _=>s.length+60<=F:=bL.ge (s.length+60) λF n h _=>h
theorem D_A(hl:s.length<=1000000){c:nH}(d:D s c i r):i<=s.length->c.okL->StA s c i r:=by
 induction d with
 | @BI i r h d ih=>
  intro hi _;refine bL.succ (bL.kV (ih hi trivial) (gG s) λF n h1 hF=>?_);show kY s r (eL F (aU F n) (bB F n) (aN F n) (bK F n) (bG F n) s (kd s i) (po s i) (tx s i));unfold eL wx;rw[ant]
  cases hk:(kd s i==2)with
  | false=>
   grind
  | true=>
   have:(kd s i != 2)=UV:=by unfold bne;rw[hk];rfl
   unfold jD at h;rw[hk]at h;simp only[aY]at h;obtain⟨a,_,_⟩:=kO s i hi;rw[this,Hr hl hi hF]
   simp_all[aM,aD,IW]
 | @BJ i h hn=>
  intro hi _;refine bL.succ (bL.mono (gG s) λF n hF=>?_);obtain⟨hk,h2,_⟩:=O2 h;obtain⟨a,_,_⟩:=kO s i hi;show kY s _ (eL F (aU F n) (bB F n) (aN F n) (bK F n) (bG F n) s (kd s i) (po s i) (tx s i));unfold eL wx;have h3:(tu (sy s (nx s i)) == -1)=UV:=by simp_all
  rw[Hr hl hi hF,aiL hl hi hF hn];simp only[aD];rw[IW hl a hF,h3,hk]
  exact⟨_,rfl⟩
 | @FD i j e h hn d ih=>
  intro hi _;obtain⟨m1,m2,m3,m4⟩:=w5 hi h;refine bL.succ (bL.kV (ih m3 trivial) (gG s) λF n h1 hF=>?_);obtain⟨hk,h2,he⟩:=O2 h;show kY s _ (eL F (aU F n) (bB F n) (aN F n) (bK F n) (bG F n) s (kd s i) (po s i) (tx s i));unfold eL wx;have h3:(tu (sy s (nx s i)) == -1)=UV:=by simp_all
  have h1:aU F n s _ _ _=_:=h1;rw[Hr hl hi hF,WG hl hi hF hn];simp only[aD];rw[IW hl m1 hF,h3,hk,he];simp only[Sc,aM,qM,jd,sm];rw[tv hl m1 hF];simp only[aD];rw[h1]
  rfl
 | @FE i p c h hn d ih=>
  intro hi _;obtain⟨m1,m2,m3,m4⟩:=w5 hi h;refine bL.succ (bL.kV (ih m3 trivial) (gG s) λF n h1 hF=>?_);obtain⟨hk,h2,he⟩:=O2 h;show kY s _ (eL F (aU F n) (bB F n) (aN F n) (bK F n) (bG F n) s (kd s i) (po s i) (tx s i));unfold eL wx;have h3:(tu (sy s (nx s i)) == -1)=UV:=by simp_all
  obtain⟨st,h1⟩:=h1;rw[Hr hl hi hF,WG hl hi hF hn];simp only[aD];rw[IW hl m1 hF,h3,hk];simp only[Sc,aM,qM,jd,sm];rw[tv hl m1 hF];simp only[aD];rw[h1]
  exact⟨_,rfl⟩
 | @FF i p c d ih=>
  intro hi _;refine bL.succ (bL.mono (ih hi (show(0:Int)<3 by decide)) λF n h1=>?_);show kY s _ (cZ F (aU F n) (bB F n) (aN F n) (bK F n) (bG F n) s (kd s i) (po s i) (tx s i));unfold cZ wx;obtain⟨st,h1⟩:=h1;rw[h1]
  exact⟨_,rfl⟩
 | @FG i j a d h ih=>
  intro hi _;obtain⟨x,y,z⟩:=mB d hi (show(0:Int)<3 by decide);refine bL.succ (bL.kV (ih hi (show(0:Int)<3 by decide)) (gG s) λF n h1 hF=>?_);show kY s _ (cZ F (aU F n) (bB F n) (aN F n) (bK F n) (bG F n) s (kd s i) (po s i) (tx s i));unfold cZ wx;have h1:aN F n 3 s _ _ _=_:=h1;have hb:(sy s j==[63])=UV:=by simp_all
  rw[h1];simp only[aD,sm];rw[kC hl y hF de,hb]
  simp_all
 | @FH i j p c a d h d2 ih ih2=>
  intro hi _;obtain⟨x,y,z⟩:=mB d hi (show(0:Int)<3 by decide);obtain⟨m1,m2⟩:=dL y (by rw[h];decide);refine bL.succ (bL.CV (ih hi (show(0:Int)<3 by decide)) (ih2 m1 trivial) (gG s) λF n h1 h2 hF=>?_);show kY s _ (cZ F (aU F n) (bB F n) (aN F n) (bK F n) (bG F n) s (kd s i) (po s i) (tx s i));unfold cZ wx;have h1:aN F n 3 s _ _ _=_:=h1;obtain⟨st,h2⟩:=h2;rw[h1];simp only[aD,sm];rw[kC hl y hF de,h,tv hl y hF];simp only[aD];rw[h2]
  exact⟨_,rfl⟩
 | @FI i j k a b d h d2 h2 ih ih2=>
  intro hi _;obtain⟨x,y,z⟩:=mB d hi (show(0:Int)<3 by decide);obtain⟨m1,m2⟩:=dL y (by rw[h];decide);obtain⟨x2,y2,z2⟩:=mB d2 m1 trivial;refine bL.succ (bL.CV (ih hi (show(0:Int)<3 by decide)) (ih2 m1 trivial) (gG s) λF n h1 h3 hF=>?_);show kY s _ (cZ F (aU F n) (bB F n) (aN F n) (bK F n) (bG F n) s (kd s i) (po s i) (tx s i));unfold cZ wx;have h1:aN F n 3 s _ _ _=_:=h1;have h3:aU F n s _ _ _=_:=h3;rw[h1];simp only[aD,sm];rw[kC hl y hF de,h,tv hl y hF];simp only[aD];rw[h3];simp only[aD,sm];rw[O3 hl y2 hF de h2]
  exact⟨_,rfl⟩
 | @LU i j k p c a b d h d2 h2 d3 ih ih2 ih3=>
  intro hi _;obtain⟨x,y,z⟩:=mB d hi (show(0:Int)<3 by decide);obtain⟨m1,m2⟩:=dL y (by rw[h];decide);obtain⟨x2,y2,z2⟩:=mB d2 m1 trivial;obtain⟨m3,m4⟩:=dL y2 (by rw[h2];decide);refine bL.succ (bL.CV ((ih hi (show(0:Int)<3 by decide)).and (ih3 m3 trivial)) (ih2 m1 trivial) (gG s) λF n h1 h3 hF=>?_);show kY s _ (cZ F (aU F n) (bB F n) (aN F n) (bK F n) (bG F n) s (kd s i) (po s i) (tx s i));unfold cZ wx;obtain⟨h1,st,h4⟩:=h1;have h1:aN F n 3 s _ _ _=_:=h1;have h3:aU F n s _ _ _=_:=h3;rw[h1];simp only[aD,sm];rw[kC hl y hF de,h,tv hl y hF];simp only[aD];rw[h3];simp only[aD,sm];rw[ye hl y2 hF de h2];simp only[aD,sm];rw[h4]
  exact⟨_,rfl⟩
 | @FJ i j k m a b e d h d2 h2 d3 ih ih2 ih3=>
  intro hi _;obtain⟨x,y,z⟩:=mB d hi (show(0:Int)<3 by decide);obtain⟨m1,m2⟩:=dL y (by rw[h];decide);obtain⟨x2,y2,z2⟩:=mB d2 m1 trivial;obtain⟨m3,m4⟩:=dL y2 (by rw[h2];decide);refine bL.succ (bL.CV ((ih hi (show(0:Int)<3 by decide)).and (ih3 m3 trivial)) (ih2 m1 trivial) (gG s) λF n h1 h3 hF=>?_);show kY s _ (cZ F (aU F n) (bB F n) (aN F n) (bK F n) (bG F n) s (kd s i) (po s i) (tx s i));unfold cZ wx;obtain⟨h1,h4⟩:=h1;have h1:aN F n 3 s _ _ _=_:=h1;have h3:aU F n s _ _ _=_:=h3;have h4:bB F n s _ _ _=_:=h4;rw[h1];simp only[aD,sm];rw[kC hl y hF de,h,tv hl y hF];simp only[aD];rw[h3];simp only[aD,sm];rw[ye hl y2 hF de h2];simp only[aD,sm];rw[h4];simp only[aD,sm,TExpr.eta]
  rfl
 | @Vc l i p c d ih=>
  intro hi _;refine bL.succ (bL.mono (ih hi trivial) λF n h1=>?_);show kY s _ (kf F (aU F n) (bB F n) (aN F n) (bK F n) (bG F n) l s (kd s i) (po s i) (tx s i));unfold kf wx;obtain⟨st,h1⟩:=h1;rw[h1]
  exact⟨_,rfl⟩
 | @WB l i j a r d d2 ih ih2=>
  intro hi hc;obtain⟨x,y,z⟩:=mB d hi trivial;obtain⟨N,h2⟩:=ih2 y hc;refine bL.succ (bL.kV (ih hi trivial) (bL.ge (p:=λF n=>N<=F/\N<=n) N λF n a b=>⟨a,b⟩) λF n h1 hN=>?_);show kY s _ (kf F (aU F n) (bB F n) (aN F n) (bK F n) (bG F n) l s (kd s i) (po s i) (tx s i));unfold kf wx;have h1:bK F n s _ _ _=_:=h1;rw[h1]
  exact h2 F n F hN.1 hN.2 hN.1
 | @wZ l i a h=>
  intro hi _;refine⟨s.length+60,λF n m hF _ hm=>?_⟩
  cases m with
  | zero=>omega
  | succ m=>
   show kY s _ (BN F (aN F n) l (bW (BN F (aN F n) l) m) (s,kd s i,po s i,tx s i,a.fOp,a.fN,a.fName,a.fKids));unfold BN;rw[WD hl hi hF];simp only[aD,ei h,aY,TExpr.eta]
   rfl
 | @Du l i p c a h d ih=>
  intro hi hc;have hc:0<l:=hc;obtain⟨m1,m2⟩:=dL hi (z8 hc h);obtain⟨N,h1⟩:=ih m1 (show(0:Int)<_ by omega);have hlv:=(zi s i).lv;refine⟨N+s.length+60,λF n m hF hn hm=>?_⟩
  cases m with
  | zero=>omega
  | succ m=>
   show kY s _ (BN F (aN F n) l (bW (BN F (aN F n) l) m) (s,kd s i,po s i,tx s i,a.fOp,a.fN,a.fName,a.fKids));unfold BN;obtain⟨st,h1⟩:=h1 F n om om;rw[WD hl hi om,tv hl hi om];have hx:T1 ((gw (sy s i)).1<l)=UV:=uc om;simp only[aD,hx,aM];rw[bN (x:=(gw (sy s i)).1+1) om,h1]
   exact⟨_,rfl⟩
 | @Hq l i j a b r h d d2 ih ih2=>
  intro hi hc;have s7:0<l:=hc;obtain⟨m1,m2⟩:=dL hi (z8 s7 h);obtain⟨x,y,z⟩:=mB d m1 (show(0:Int)<_ by omega);obtain⟨N,h1⟩:=ih m1 (show(0:Int)<_ by omega);obtain⟨N2,h2⟩:=ih2 y hc;have hlv:=(zi s i).lv;refine⟨N+N2+s.length+60,λF n m hF hn hm=>?_⟩
  cases m with
  | zero=>omega
  | succ m=>
   show kY s _ (BN F (aN F n) l (bW (BN F (aN F n) l) m) (s,kd s i,po s i,tx s i,a.fOp,a.fN,a.fName,a.fKids));have h1:aN F n _ s _ _ _=_:=h1 F n om om;have h2:=h2 F n m om om om;generalize hL:bW (BN F (aN F n) l) m=L at h2⊢;unfold BN;rw[WD hl hi om,tv hl hi om];have hx:T1 ((gw (sy s i)).1<l)=UV:=uc om;simp only[aD,hx,aM]
   grind[bN,sm,TExpr.eta]
 | @BK i r h d ih=>
  intro hi _;refine bL.succ (bL.kV (ih hi trivial) (gG s) λF n h1 hF=>?_);show kY s _ (jq F (aU F n) (bB F n) (aN F n) (bK F n) (bG F n) s (kd s i) (po s i) (tx s i));unfold jq wx;rw[kC hl hi hF de,kC hl hi hF de,kC hl hi hF de,kC hl hi hF de]
  have hu:(sy s i==[45])=UV/\(sy s i==[43])=UV/\(sy s i==[33])=UV/\(sy s i==[126])=UV:=by
   unfold uN at h
   grind
  obtain⟨u1,u2,u3,u4⟩:=hu;rw[u1,u2,u3,u4];revert h1
  cases bG F n s (kd s i) (po s i) (tx s i)with
  | none=>exact id
  | some X=>
   cases X with
   | inl X=>simp_all[aD,aM,jj,sm,TExpr.eta]
   | inr X=>simp_all[aD,aM,jj,sm,TExpr.eta]
 | @FK i p c h d ih=>
  intro hi _;obtain⟨m1,m2⟩:=dL hi (Am h);refine bL.succ (bL.kV (ih m1 trivial) (gG s) λF n h1 hF=>?_);show kY s _ (jq F (aU F n) (bB F n) (aN F n) (bK F n) (bG F n) s (kd s i) (po s i) (tx s i));unfold jq wx;rw[kC hl hi hF de,kC hl hi hF de,kC hl hi hF de,kC hl hi hF de,tv hl hi hF];obtain⟨st,h1⟩:=h1;simp only[aD,h1];unfold uN at h;revert h
  cases (sy s i==[45])<;>cases (sy s i==[43])<;>cases (sy s i==[33])<;>cases (sy s i==[126])<;>intro h<;>first|exact⟨_,rfl⟩|exact absurd rfl h
 | @LV i j a h d ih=>
  intro hi _;obtain⟨m1,m2⟩:=dL hi (Am h);refine bL.succ (bL.kV (ih m1 trivial) (gG s) λF n h1 hF=>?_);show kY s _ (jq F (aU F n) (bB F n) (aN F n) (bK F n) (bG F n) s (kd s i) (po s i) (tx s i));unfold jq wx;rw[kC hl hi hF de,kC hl hi hF de,kC hl hi hF de,kC hl hi hF de,tv hl hi hF];have h1:bK F n s _ _ _=_:=h1;simp only[aD,h1];unfold uN at h⊢;revert h
  cases (sy s i==[45])<;>cases (sy s i==[43])<;>cases (sy s i==[33])<;>cases (sy s i==[126])<;>intro h<;>first|rfl|exact absurd rfl h
 | @FL i h hv=>
  intro hi _;refine bL.succ (bL.mono (gG s) λF n hF=>?_);show kY s _ (cJ F (aU F n) (bB F n) (aN F n) (bK F n) (bG F n) s (kd s i) (po s i) (tx s i));unfold cJ wx;rw[abS hl hi hF h,tv hl hi hF,h];simp only[Gt,aY,aD,hv,Sc,aM]
  rfl
 | @BL i h hv=>
  intro hi _;refine bL.succ (bL.mono (gG s) λF n hF=>?_);show kY s _ (cJ F (aU F n) (bB F n) (aN F n) (bK F n) (bG F n) s (kd s i) (po s i) (tx s i));unfold cJ wx;have jz:((oW (tx s i)).2 != 0)=WF:=by simpa using hv
  rw[abS hl hi hF h,h];simp only[Gt,aY,aD,jz]
  exact⟨_,rfl⟩
 | @FM i h hv=>
  intro hi _;refine bL.succ (bL.mono (gG s) λF n hF=>?_);show kY s _ (cJ F (aU F n) (bB F n) (aN F n) (bK F n) (bG F n) s (kd s i) (po s i) (tx s i));unfold cJ wx;rw[WG hl hi hF hv,h]
  rfl
 | @BM i h hv=>
  intro hi _;refine bL.succ (bL.mono (gG s) λF n hF=>?_);show kY s _ (cJ F (aU F n) (bB F n) (aN F n) (bK F n) (bG F n) s (kd s i) (po s i) (tx s i));unfold cJ wx;rw[aiL hl hi hF hv,h]
  exact⟨_,rfl⟩
 | @FN i h1 h2 h=>
  intro hi _;refine bL.succ (bL.mono (gG s) λF n hF=>?_);show kY s _ (cJ F (aU F n) (bB F n) (aN F n) (bK F n) (bG F n) s (kd s i) (po s i) (tx s i));unfold cJ wx;have k1:(kd s i==1)=UV:=by simp_all
  have k2:(kd s i==2)=UV:=by simp_all
  rw[O3 hl hi hF de h,k1,k2]
  exact⟨_,rfl⟩
 | @LW i p c h d ih=>
  intro hi _;obtain⟨m1,m2⟩:=dL hi (by rw[h];decide);refine bL.succ (bL.kV (ih m1 trivial) (gG s) λF n h1 hF=>?_);show kY s _ (cJ F (aU F n) (bB F n) (aN F n) (bK F n) (bG F n) s (kd s i) (po s i) (tx s i));unfold cJ wx;have hk:=(BH s i hi (by rw[h];decide)).1;obtain⟨st,h1⟩:=h1;rw[ye hl hi hF de h,hk];simp only[aD,sm];rw[h1]
  exact⟨_,rfl⟩
 | @yb i j e h d h2 ih=>
  intro hi _;obtain⟨m1,m2⟩:=dL hi (by rw[h];decide);obtain⟨x,y,z⟩:=mB d m1 trivial;refine bL.succ (bL.kV (ih m1 trivial) (gG s) λF n h1 hF=>?_);show kY s _ (cJ F (aU F n) (bB F n) (aN F n) (bK F n) (bG F n) s (kd s i) (po s i) (tx s i));unfold cJ wx;have hk:=(BH s i hi (by rw[h];decide)).1;have h1:aU F n s _ _ _=_:=h1;rw[ye hl hi hF de h,hk];simp only[aD,sm];rw[h1];simp only[aD,sm];rw[O3 hl y hF de h2]
  exact⟨_,rfl⟩
 | @LX i j e h d h2 ih=>
  intro hi _;obtain⟨m1,m2⟩:=dL hi (by rw[h];decide);obtain⟨x,y,z⟩:=mB d m1 trivial;refine bL.succ (bL.kV (ih m1 trivial) (gG s) λF n h1 hF=>?_);show kY s _ (cJ F (aU F n) (bB F n) (aN F n) (bK F n) (bG F n) s (kd s i) (po s i) (tx s i));unfold cJ wx;have hk:=(BH s i hi (by rw[h];decide)).1;have h1:aU F n s _ _ _=_:=h1;rw[ye hl hi hF de h,hk];simp only[aD,sm];rw[h1];simp only[aD,sm];rw[ye hl y hF de h2];simp only[aD,sm,TExpr.eta];rfl
abbrev RR:=TExpr×Bs×Int×Int×Int
abbrev SR:=Bs×Int×Int×Int×Int×Int×Bs×(J TExpr)
def kK(s:Bs):vA->O RR->Prop
 | .ok e j,x=>∃a:Nat,a<=s.length/\skip s a=skip s j/\x=W0 (e,s,(a:Int),0,0)
 | .err p c,x=>c≠0/\∃(e:TExpr)(a:Nat),a<=s.length/\x=W0 (e,s,(a:Int),c,(p:Int))
def sI(F:Nat)(r:Int->Bs->Int->Int->Int->O RR)(l:Int):(SR->O RR)->SR->O RR:=
 (λkH x3=>
 cond (x3.2.2.1==0)
 ((gW F x3.1 x3.2.1 x3.2.2.1 x3.2.2.2.1).bind λx5=>
 (kX F x5.1 l).bind λx6=>
 cond (x6==0)
 (W0 ((TExpr.mk ((TExpr.mk x3.2.2.2.2.1 x3.2.2.2.2.2.1 x3.2.2.2.2.2.2.1 x3.2.2.2.2.2.2.2).fOp) ((TExpr.mk x3.2.2.2.2.1 x3.2.2.2.2.2.1 x3.2.2.2.2.2.2.1 x3.2.2.2.2.2.2.2).fN) ((TExpr.mk x3.2.2.2.2.1 x3.2.2.2.2.2.1 x3.2.2.2.2.2.2.1 x3.2.2.2.2.2.2.2).fName) ((TExpr.mk x3.2.2.2.2.1 x3.2.2.2.2.2.1 x3.2.2.2.2.2.2.1 x3.2.2.2.2.2.2.2).fKids)),x5.2.1,x5.2.2.1,x5.2.2.2.1,x5.2.2.2.2))
 ((r (aC (l+1)) x5.2.1 (aC (x5.2.2.1+(x5.1.length:Int))) x5.2.2.2.1 x5.2.2.2.2).bind λx7=>
 kH (x7.2.1,x7.2.2.1,x7.2.2.2.1,x7.2.2.2.2,(TExpr.mk x6 0 [] ([(TExpr.mk x3.2.2.2.2.1 x3.2.2.2.2.2.1 x3.2.2.2.2.2.2.1 x3.2.2.2.2.2.2.2),x7.1]:J TExpr)).fOp,(TExpr.mk x6 0 [] ([(TExpr.mk x3.2.2.2.2.1 x3.2.2.2.2.2.1 x3.2.2.2.2.2.2.1 x3.2.2.2.2.2.2.2),x7.1]:J TExpr)).fN,(TExpr.mk x6 0 [] ([(TExpr.mk x3.2.2.2.2.1 x3.2.2.2.2.2.1 x3.2.2.2.2.2.2.1 x3.2.2.2.2.2.2.2),x7.1]:J TExpr)).fName,(TExpr.mk x6 0 [] ([(TExpr.mk x3.2.2.2.2.1 x3.2.2.2.2.2.1 x3.2.2.2.2.2.2.1 x3.2.2.2.2.2.2.2),x7.1]:J TExpr)).fKids)))
 (W0 ((TExpr.mk ((TExpr.mk x3.2.2.2.2.1 x3.2.2.2.2.2.1 x3.2.2.2.2.2.2.1 x3.2.2.2.2.2.2.2).fOp) ((TExpr.mk x3.2.2.2.2.1 x3.2.2.2.2.2.1 x3.2.2.2.2.2.2.1 x3.2.2.2.2.2.2.2).fN) ((TExpr.mk x3.2.2.2.2.1 x3.2.2.2.2.2.1 x3.2.2.2.2.2.2.1 x3.2.2.2.2.2.2.2).fName) ((TExpr.mk x3.2.2.2.2.1 x3.2.2.2.2.2.1 x3.2.2.2.2.2.2.1 x3.2.2.2.2.2.2.2).fKids)),x3.1,x3.2.1,x3.2.2.1,x3.2.2.2.1)))
variable{a:Nat}
section
variable (h : skip s a = skip s i)
include h
theorem ji:sy s a=sy s i:=by unfold sy;rw[h]
theorem Gh:kd s a=kd s i:=by unfold kd uu;rw[h]
theorem An:tx s a=tx s i:=by unfold tx uu;rw[h]
theorem kD:nx s a=nx s i:=by unfold nx;rw[h,An h]
theorem LY:jD s a=jD s i:=by unfold jD;rw[Gh h,kD h]
end
theorem ael:∀x,x∈([]::pQ)->tu x=-1\/0<=tu x:=by decide
theorem aiM:∀n:Fin 256,dg (UInt8.ofNat n.val)=WF->le (UInt8.ofNat n.val)=UV:=by decide +kernel
theorem agN(b:UInt8):dg b=WF->le b=UV:=SO (P:=λb=>dg b=WF->le b=UV) aiM b
theorem Hs(X:O RR):(X.bind λx=>W0 ((TExpr.mk x.1.fOp x.1.fN x.1.fName x.1.fKids),x.2.1,x.2.2.1,x.2.2.2.1,x.2.2.2.2))=X:=by
 cases X with
 | none=>rfl
 | some y=>simp_all
section
variable (hl : s.length <= 1000000) (hi : a <= s.length) (hF : s.length + 60 <= F)
include hl hi hF
theorem zj(hx:x≠[])(h:sy s a=x):iD F x s (a:Int) 0 0=W0 (WF,s,(nx s a:Int),0,0):=by
 unfold iD wx;rw[ny F s a 0 0 hi om hl];obtain⟨m1,m2⟩:=dL hi (by rw[h];exact hx);have e:sy s a=nM (s.drop (skip s a)):=rfl;have e2:nx s a=skip s a+x.length:=by unfold nx;simp_all[BH]
 grind[bN]
theorem ZS(h:sy s a≠x):iD F x s (a:Int) 0 0=W0 (UV,s,(skip s a:Int),0,0):=by
 unfold iD wx;rw[ny F s a 0 0 hi om hl];have e:sy s a=nM (s.drop (skip s a)):=rfl
 grind
omit hl hi hF in
theorem O4{at' c p:Int}(hc:c≠0):iD F x s at' c p=W0 (UV,s,at',c,p):=by
 unfold iD wx;have:(c != 0)=WF:=by simpa using hc
 rw[this];rfl
omit hl hi hF in
theorem SU{at' c p c' p':Int}(hc:c≠0):gq F c' p' s at' c p=W0 (s,at',c,p):=by
 unfold gq wx;have:(c==0)=UV:=by simpa using hc
 rw[this];rfl
theorem GL(rs rc:Bs->Int->Int->Int->O RR)(rl:Int->Bs->Int->Int->Int->O RR)(ru rp:Bs->Int->Int->Int->O RR)(e pos:Int):
  jg F rs rc rl ru rp s (a:Int) e pos=cond (jD s a == -1) (rc s (skip s a:Int) e pos)
   ((rs s (nx s (nx s a):Int) (cond (rName (tx s a)) e (cond (e==0) 10 e)) (cond (rName (tx s a)) pos (cond (e==0) (skip s a:Int) pos))).bind λx=>W0 (.mk 26 (jD s a) (tx s a) [x.1],x.2.1,x.2.2.1,x.2.2.2.1,x.2.2.2.2)):=by
 obtain⟨s1,s2⟩:=iu s a hi;unfold jg wx;rw[tT F s a e pos hi om hl];simp only[aD];rw[LQ F s _ e pos s1 om hl];simp only[aD]
 have hno:∀X:O ((Bs×Int×Int×Int) ⊕ RR),X=W0 (.inl (s,(skip s a:Int),e,pos))->jD s a=-1 ->
   (jj (σ:=Bs×Int×Int×Int) (R:=RR) X λx3=>(rc x3.1 x3.2.1 x3.2.2.1 x3.2.2.2).bind λfO=>W0 ((TExpr.mk fO.1.fOp fO.1.fN fO.1.fName fO.1.fKids),fO.2.1,fO.2.2.1,fO.2.2.2.1,fO.2.2.2.2))=rc s (skip s a:Int) e pos:=by
  intro X hX _;rw[hX];show(rc s (skip s a:Int) e pos).bind _=_;exact Hs _
 have hk2:kd s a≠2->jD s a=-1:=by
  intro hk;unfold jD;have:(kd s a==2)=UV:=by rw[gH];exact hk
  rw[this];rfl
 rcases mA s a hi with⟨h',_,hw,_⟩|⟨w,b,h',_,hw,hd,hl'⟩|⟨w,b,h',hs,hw,hd,hl'⟩|⟨x',h',_,hw,hm,_⟩|⟨b,h',_,hw,_⟩
 ·have ha:=hk2 (by unfold kd;rw[h'];simp)
  rw[hno _ (by rw[hw];rfl) ha,ha];rfl
 ·have ha:=hk2 (by unfold kd;rw[h'];simp)
  rw[hno _ (by
   rw[hw];have hp:T1 (0<((b::w).length:Int))=WF:=ei (by simp only[qL];omega);show(((rq (T1 (0<((b::w).length:Int))) ((nY F (b.toNat:Int)).bind λx5=>W0 x5)):O Bool).bind _)=_;rw[hp,wX,agN b hd];rfl) ha,ha]
  rfl
 ·have hk:kd s a=2:=by unfold kd;rw[h']
  have ht:tx s a=b::w:=by unfold tx;rw[h']
  obtain⟨m1,m2,_⟩:=kO s a hi;have hn:(skip s a:Int)+((b::w).length:Int)=(nx s a:Int):=by unfold nx;rw[ht];omega
  have has:jD s a=tu (sy s (nx s a)):=by unfold jD;rw[hk];rfl
  rw[hw];have hp:T1 (0<((b::w).length:Int))=WF:=ei (by simp only[qL];omega);have hne:(!((b::w)==[]))=WF:=rfl;simp only[hne,aY,hp,gL,PR,wX,hd,aD,hn];rw[bN (x:=(nx s a:Int)) om,ny F s (nx s a) e pos m1 om hl];simp only[aD];rw[show nM (s.drop (skip s (nx s a)))=sy s (nx s a)from rfl]
  have asK:rK F (sy s (nx s a))=W0 (tu (sy s (nx s a))):=by
   obtain⟨G,rfl⟩:∃G,F=G+20:=⟨F-20,om⟩;exact(zi s (nx s a)).asr G
  rw[asK];simp only[aD];rcases ael _ (O1 s (nx s a))with hz|hz
  ·rw[has,hz]
   show(rc s (skip s a:Int) e pos).bind _=_;exact Hs _
  ·have hz1:(tu (sy s (nx s a)) == -1)=UV:=by rw[gH];omega
   obtain⟨_,_,m3,_⟩:=w5 hi (by rw[has];omega);have hx:=abR (x:=sy s (nx s a)) om
   have hnn:(skip s (nx s a):Int)+((sy s (nx s a)).length:Int)=(nx s (nx s a):Int):=by
    have h2:=(BH s _ m1 hx).2;have h3:nx s (nx s a)=skip s (nx s a)+(tx s (nx s a)).length:=rfl;rw[h3,h2];omega
   rw[has,hz1,ei hz,zH F _ om,ht];simp only[aD,aY,aM]
   cases hr:rName (b::w)with
   | true=>
    simp only[jd,aM,aY,aD,hnn];rw[bN (x:=(nx s (nx s a):Int)) om]
    cases rs s (nx s (nx s a):Int) e pos<;>rfl
   | false=>
    unfold gq wx
    cases he:(e==0)with
    | true=>
     simp only[qM,aM,aY,aD,hnn];rw[bN (x:=(nx s (nx s a):Int)) om]
     cases rs s (nx s (nx s a):Int) 10 (skip s a:Int)<;>rfl
    | false=>
     simp only[qM,aM,aY,aD,hnn];rw[bN (x:=(nx s (nx s a):Int)) om];cases rs s (nx s (nx s a):Int) e pos<;>rfl
 ·have ha:=hk2 (by unfold kd;rw[h'];simp)
  rw[hno _ (by rw[hw];rfl) ha,ha];rfl
 ·have ha:=hk2 (by unfold kd;rw[h'];simp)
  rw[hno _ (by rw[hw];rfl) ha,ha];rfl
end
theorem anu(G:Nat)(x:Bs)(k:Int->O RR)(z:O RR):bW (σ:=Int) (λgV x2=>
   (cond (T1 (x2<=6)) (W0 ((0:Int)==0)) (W0 UV):O Bool).bind λx4=>cond x4 ((FO (G+10) x2).bind λx5=>cond (x==x5) (k x2) (gV (aC (x2+1)))) z) (G+10) 3 =
  cond (x==[45]) (k 3) (cond (x==[43]) (k 4) (cond (x==[33]) (k 5) (cond (x==[126]) (k 6) z))):=by kernel_rfl
section
variable (hl : s.length <= 1000000) (hi : a <= s.length) (hF : s.length + 60 <= F)
include hl hi hF
theorem agO(rs rc:Bs->Int->Int->Int->O RR)(rl:Int->Bs->Int->Int->Int->O RR)(ru rp:Bs->Int->Int->Int->O RR):
  gy F rs rc rl ru rp s (a:Int) 0 0=cond (uN (sy s a)==0) (rp s (skip s a:Int) 0 0)
   ((ru s (nx s a:Int) 0 0).bind λx=>W0 (.mk (uN (sy s a)) 0 [] [x.1],x.2.1,x.2.2.1,x.2.2.2.1,x.2.2.2.2)):=by
 unfold gy wx;rw[ny F s a 0 0 hi om hl];obtain⟨G,rfl⟩:∃G,F=G+10:=⟨F-10,om⟩
 have key:=anu G (sy s a) (λx2=>(ru s (aC ((skip s a:Int)+((sy s a).length:Int))) 0 0).bind λx6=>W0 ((TExpr.mk ((TExpr.mk x2 0 [] ([x6.1]:J TExpr)).fOp) ((TExpr.mk x2 0 [] ([x6.1]:J TExpr)).fN) ((TExpr.mk x2 0 [] ([x6.1]:J TExpr)).fName) ((TExpr.mk x2 0 [] ([x6.1]:J TExpr)).fKids)),x6.2.1,x6.2.2.1,x6.2.2.2.1,x6.2.2.2.2))
  ((rp s (skip s a:Int) 0 0).bind λx7=>W0 ((TExpr.mk x7.1.fOp x7.1.fN x7.1.fName x7.1.fKids),x7.2.1,x7.2.2.1,x7.2.2.2.1,x7.2.2.2.2))
 refine key.trans ?_;rw[Hs];by_cases hu:uN (sy s a)=0
 ·have hu':(uN (sy s a)==0)=WF:=by simpa using hu
  unfold uN at hu
  grind
 ·have hu':(uN (sy s a)==0)=UV:=by simp_all
  obtain⟨m1,m2⟩:=dL hi (Am hu)
  have hn:(skip s a:Int)+((sy s a).length:Int)=(nx s a:Int):=by
   have h2:=(BH s a hi (Am hu)).2;have h3:nx s a=skip s a+(tx s a).length:=rfl;rw[h3,h2];omega
  rw[hn,bN om];unfold uN at hu⊢;revert hu;cases (sy s a==[45])<;>cases (sy s a==[43])<;>cases (sy s a==[33])<;>cases (sy s a==[126])<;>intro hu<;>first|rfl|(simp at hu;done)
theorem ale(rs rc:Bs->Int->Int->Int->O RR)(rl:Int->Bs->Int->Int->Int->O RR)(ru rp:Bs->Int->Int->Int->O RR){c p:Int}(hc:c≠0):
  gy F rs rc rl ru rp s (a:Int) c p=rp s (skip s a:Int) c p:=by
 unfold gy wx;rw[ny F s a c p hi om hl];obtain⟨G,rfl⟩:∃G,F=G+1:=⟨F-1,om⟩
 grind[bW,Hs]
theorem agP(rs rc:Bs->Int->Int->Int->O RR)(rl:Int->Bs->Int->Int->Int->O RR)(ru rp:Bs->Int->Int->Int->O RR){c p:Int}(hc:c≠0):
  cM F rs rc rl ru rp s (a:Int) c p=W0 (.mk 0 0 [] [],s,(skip s a:Int),c,p):=by
 unfold cM wx;rw[O4 hc];simp only[aD];obtain⟨s1,s2⟩:=iu s a hi;rw[tT F s a c p hi om hl];simp only[aD];rw[LQ F s _ c p s1 om hl];have s7:(c != 0)=WF:=by simpa using hc
 simp only[s7];rfl
end
def Dv(s:Bs)(x:O RR)(c p:Int):Prop:=∃(e:TExpr)(a:Nat),a<=s.length/\x=W0 (e,s,(a:Int),c,p)
theorem anv(hl:s.length<=1000000):bL λF n=>∀a,a<=s.length->∀c p,c≠0->Dv s (bf F n s ((a:Nat):Int) c p) c p:=
 bL.succ ((gG s).mono λF n hF a hi c p hc=>⟨_,skip s a,(iu s a hi).1,agP hl hi hF (bD F n) (bC F n) (aQ F n) (bw F n) (bf F n) hc⟩)
theorem arh(hl:s.length<=1000000):bL λF n=>∀a,a<=s.length->∀c p,c≠0->Dv s (bw F n s ((a:Nat):Int) c p) c p:=
 bL.succ ((gG s).kV (anv hl) λF n hF h a hi c p hc=>by
  show Dv s (gy F (bD F n) (bC F n) (aQ F n) (bw F n) (bf F n) s (a:Int) c p) c p
  simp_all[ale,iu])
theorem JO(F:Nat)(rs rc:Bs->Int->Int->Int->O RR)(rl:Int->Bs->Int->Int->Int->O RR)(ru rp:Bs->Int->Int->Int->O RR)(l:Int)(h3:3<=l)(hl:l<=12)(s:Bs)(at' c p:Int):
  fI F rs rc rl ru rp l s at' c p=(rl (l+1) s at' c p).bind λx2=>bW (sI F rl l) F (x2.2.1,x2.2.2.1,x2.2.2.2.1,x2.2.2.2.2,x2.1.fOp,x2.1.fN,x2.1.fName,x2.1.fKids):=by
 unfold fI sI wx
 grind[decide_eq_false,bN]
theorem RW(F:Nat)(rs rc:Bs->Int->Int->Int->O RR)(rl:Int->Bs->Int->Int->Int->O RR)(ru rp:Bs->Int->Int->Int->O RR)(l:Int)(hl:12<l)(s:Bs)(at' c p:Int):
  fI F rs rc rl ru rp l s at' c p=ru s at' c p:=by
 unfold fI wx
 grind[decide_eq_true,Hs]
theorem SV(F:Nat)(r:Int->Bs->Int->Int->Int->O RR)(l:Int)(m:Nat)(s:Bs)(at' c p:Int)(a:TExpr)(hc:c≠0):bW (sI F r l) (m+1) (s,at',c,p,a.fOp,a.fN,a.fName,a.fKids)=W0 (a,s,at',c,p):=by
 have s7:(c==0)=UV:=by simpa using hc
 show sI F r l (bW (sI F r l) m) _=_;unfold sI;simp[s7]
theorem abT{s:Bs}(hl:s.length<=1000000):∀(k:Nat)(l:Int),l+k=13->3<=l->bL λF n=>∀a,a<=s.length->∀c p,c≠0->Dv s (aQ F n l s ((a:Nat):Int) c p) c p
 | 0,l,hk,h3=>bL.succ ((arh hl).mono λF n h a hi c p hc=>by
   show Dv s (fI F (bD F n) (bC F n) (aQ F n) (bw F n) (bf F n) l s (a:Int) c p) c p
   simp_all[RW])
 | k+1,l,hk,h3=>bL.succ ((gG s).kV (abT hl k (l+1) om om) λF n hF h a hi c p hc=>by
   show Dv s (fI F (bD F n) (bC F n) (aQ F n) (bw F n) (bf F n) l s (a:Int) c p) c p;rw[JO F _ _ _ _ _ l h3 om];obtain⟨e,a',gF,hx⟩:=h a hi c p hc;obtain⟨G,rfl⟩:∃G,F=G+1:=⟨F-1,om⟩
   grind[SV])
theorem anw(hl:s.length<=1000000):bL λF n=>∀a,a<=s.length->∀c p,c≠0->Dv s (bC F n s ((a:Nat):Int) c p) c p:=
 bL.succ ((abT hl 10 3 de de).mono λF n h a hi c p hc=>by
  show Dv s (dI F (bD F n) (bC F n) (aQ F n) (bw F n) (bf F n) s (a:Int) c p) c p;unfold dI wx;obtain⟨e,a',gF,hx⟩:=h a hi c p hc;rw[hx];simp;rw[O4 hc];exact⟨_,a',gF,rfl⟩)
theorem aiN{s:Bs}(hl:s.length<=1000000):∀k:Nat,bL λF n=>∀a,a<=s.length->s.length-a<k->∀c p,c≠0->Dv s (bD F n s ((a:Nat):Int) c p) c p
 | 0=>bL.of λF n a _ h=>by omega
 | k+1=>bL.succ ((gG s).CV (anw hl) (aiN hl k) λF n hF h1 h2 a hi hk c p hc=>by
   show Dv s (jg F (bD F n) (bC F n) (aQ F n) (bw F n) (bf F n) s (a:Int) c p) c p;rw[GL hl hi hF]
   cases ha:(jD s a == -1)with
   | true=>simp_all[iu]
   | false=>
    have s7:(c==0)=UV:=by simpa using hc
    obtain⟨_,_,m1,m2⟩:=w5 hi (by simp_all);simp only[aM,s7];have e1:cond (rName (tx s a)) c c=c:=by simp_all
    have e2:cond (rName (tx s a)) p p=p:=by simp_all
    rw[e1,e2];obtain⟨e,a',gF,hx⟩:=h2 _ m1 om c p hc;rw[hx];exact⟨_,a',gF,rfl⟩)
def StR(s:Bs):WC->Nat->vA->Prop
 | .expr,i,r=>bL λF n=>∀a,a<=s.length->skip s a=skip s i->kK s r (bD F n s ((a:Nat):Int) 0 0)
 | .cond,i,r=>bL λF n=>∀a,a<=s.length->skip s a=skip s i->kK s r (bC F n s ((a:Nat):Int) 0 0)
 | .level l,i,r=>bL λF n=>∀a,a<=s.length->skip s a=skip s i->kK s r (aQ F n l s ((a:Nat):Int) 0 0)
 | .loop l b,i,r=>∃N,∀F n m,N<=F->N<=n->N<=m->∀a,a<=s.length->skip s a=skip s i->kK s r (bW (sI F (aQ F n) l) m (s,((a:Nat):Int),0,0,b.fOp,b.fN,b.fName,b.fKids))
 | .un,i,r=>bL λF n=>∀a,a<=s.length->skip s a=skip s i->kK s r (bw F n s ((a:Nat):Int) 0 0)
 | .nZ,i,r=>bL λF n=>∀a,a<=s.length->skip s a=skip s i->kK s r (bf F n s ((a:Nat):Int) 0 0)
def apJ(s:Bs):vA->Prop
 | .ok _ j=>j<=s.length
 | .err _ c=>c≠0
theorem DX{c:WC}(d:RD s c i r):i<=s.length->apJ s r:=by
 have nb:∀ {i:Nat},i<=s.length->nx s i<=s.length:=λh=>(kO s _ h).1
 induction d with
 | BI h d ih=>exact ih
 | BJ h hn=>intro _;exact(show(10:Int)≠0 by decide)
 | FD h hn d ih=>intro hi;exact ih (nb (nb hi))
 | FE h hn d ih=>grind
 | FF d ih=>exact ih
 | FG d h ih=>exact ih
 | FH d h d2 ih ih2=>intro hi;exact ih2 (nb (ih hi))
 | FI d h d2 h2 ih ih2=>intro _;exact(show(6:Int)≠0 by decide)
 | LU d h d2 h2 d3 ih ih2 ih3=>intro hi;exact ih3 (nb (ih2 (nb (ih hi))))
 | FJ d h d2 h2 d3 ih ih2 ih3=>intro hi;exact ih3 (nb (ih2 (nb (ih hi))))
 | agL hl d ih=>exact ih
 | ZR h3 hl d ih=>exact ih
 | alc h3 hl d d2 ih ih2=>intro hi;exact ih2 (ih hi)
 | wZ h=>exact id
 | Du h d ih=>simp_all
 | Hq h d d2 ih ih2=>intro hi;exact ih2 (ih (nb hi))
 | BK h d ih=>exact ih
 | FK h d ih=>simp_all
 | LV h d ih=>intro hi;exact ih (nb hi)
 | FL h hv=>exact nb
 | BL h hv=>intro _;exact hv
 | FM h hv=>exact nb
 | BM h hv=>intro _;exact(show(10:Int)≠0 by decide)
 | FN h1 h2 h=>intro _;exact(show(6:Int)≠0 by decide)
 | LW h d ih=>simp_all
 | yb h d h2 ih=>intro _;exact(show(6:Int)≠0 by decide)
 | LX h d h2 ih=>intro hi;exact nb (ih (nb hi))
theorem DY(hl:s.length<=1000000)(hi:a<=s.length)(hF:s.length+60<=F)(h:sy s a≠[40])(rs rc:Bs->Int->Int->Int->O RR)(rl:Int->Bs->Int->Int->Int->O RR)(ru rp:Bs->Int->Int->Int->O RR):
  cM F rs rc rl ru rp s (a:Int) 0 0=cond (lD s (skip s a)==[]) (W0 (.mk 0 0 [] [],s,(skip s a:Int),6,(skip s a:Int)))
   (rq (T1 (0<((lD s (skip s a)).length:Int))) ((nY F (((lD s (skip s a)).getD 0 0).toNat:Int)).bind λx8=>
    cond x8 (cond (rName (lD s (skip s a))) (W0 (.mk 2 0 (lD s (skip s a)) [],s,aC ((skip s a:Int)+((lD s (skip s a)).length:Int)),0,0)) (W0 (.mk 2 0 (lD s (skip s a)) [],s,aC ((skip s a:Int)+((lD s (skip s a)).length:Int)),10,(skip s a:Int))))
     ((lU F (lD s (skip s a))).bind λgm=>cond (cond (gm.2==0&&T1 (9223372036854775807<gm.1)) 14 gm.2 != 0)
       (W0 (.mk 0 0 [] [],s,(skip s a:Int),cond (gm.2==0&&T1 (9223372036854775807<gm.1)) 14 gm.2,(skip s a:Int)))
       (W0 (.mk 1 (aC gm.1) [] [],s,aC ((skip s a:Int)+((lD s (skip s a)).length:Int)),0,0))))):=by
 obtain⟨s1,s2⟩:=iu s a hi;unfold cM wx;rw[ZS hl hi hF h];simp only[aD];rw[tT F s (skip s a) 0 0 s1 om hl,wW];simp only[aD];rw[LQ F s _ 0 0 s1 om hl];simp only[aD];generalize lD s (skip s a)=w;rw[zH F w om]
 cases (w==[])with
 | true=>rfl
 | false=>
  simp;congr 1;congr 1
  funext x8
  cases x8 with
  | true=>cases rName w<;>rfl
  | false=>
   simp;congr 1
   funext gm
   cases (gm.2==0)with
   | false=>simp;cases (gm.2 != 0)<;>rfl
   | true=>
    cases T1 (9223372036854775807<gm.1)with
    | false=>simp;cases (gm.2 != 0)<;>rfl
    | true=>rfl
theorem aem(hl:s.length<=1000000)(hi:a<=s.length)(hF:s.length+60<=F){l:Int}(h3:3<=l)(hlv:mM s a=l)(att:l<=12)(r:Int->Bs->Int->Int->Int->O RR)(rc:SR->O RR)(e:TExpr):
  sI F r l rc (s,(a:Int),0,0,e.fOp,e.fN,e.fName,e.fKids)=(r (l+1) s (nx s a:Int) 0 0).bind λx7=>rc (x7.2.1,x7.2.2.1,x7.2.2.2.1,x7.2.2.2.2,(gw (sy s a)).2,0,[],[e,x7.1]):=by
 have hne:=z8 (l:=l) om (by show l<=mM s a;omega);obtain⟨m1,m2⟩:=dL hi hne
 have hn:(skip s a:Int)+((sy s a).length:Int)=(nx s a:Int):=by
  have h2:=(BH s a hi hne).2;have h3:nx s a=skip s a+(tx s a).length:=rfl;rw[h3,h2];omega
 have hop:=(zi s a).op (show mM s a≠0 by omega)
 have alf:kX F (sy s a) l=W0 (gw (sy s a)).2:=by
  obtain⟨G,rfl⟩:∃G,F=G+20:=⟨F-20,om⟩;rw[(zi s a).bir,show((gw (sy s a)).1==l)=WF by simp_all];rfl
 unfold sI;rw[ny F s a 0 0 hi om hl];simp;rw[show nM (s.drop (skip s a))=sy s a from rfl,alf];have hz:((gw (sy s a)).2==0)=UV:=by grind
 simp[hz,hn];rw[bN (x:=(nx s a:Int)) om,bN om];rfl
def WC.ok:WC->Prop
 | .loop l _=>3<=l/\l<=12
 | _=>True
theorem Ve(x:Bs)(h:(oW x).2=0):0<=(oW x).1/\(oW x).1<=9223372036854775807:=by
 unfold oW at h⊢
 cases hb:((rC x).2==[])with
 | true=>rw[hb]at h;cases h
 | false=>
  unfold qt at h⊢
  grind
theorem asL(hl:s.length<=1000000){c:WC}(d:RD s c i r):i<=s.length->c.ok->StR s c i r:=by
 have nb:∀ {i:Nat},i<=s.length->nx s i<=s.length:=λh=>(kO s _ h).1
 induction d with
 | @BI i r h d ih=>
  intro hi hok;refine bL.succ (bL.kV (ih hi trivial) (gG s) λF n h1 hF a ha hs=>?_);show kK s r (jg F (bD F n) (bC F n) (aQ F n) (bw F n) (bf F n) s (a:Int) 0 0)
  grind[GL,LY,iu,wW]
 | @BJ i h hn=>
  intro hi hok;refine bL.succ (bL.kV (aiN hl (s.length+1)) (gG s) λF n h1 hF a ha hs=>?_);show kK s _ (jg F (bD F n) (bC F n) (aQ F n) (bw F n) (bf F n) s (a:Int) 0 0);have hb:(jD s i == -1)=UV:=by simp_all
  rw[GL hl ha hF,LY hs,hb,An hs,hn,hs];simp only[aM,Gt,aY];obtain⟨e,a',gF,hx⟩:=h1 (nx s (nx s a)) (nb (nb ha)) om 10 (skip s i:Int) de;rw[hx]
  exact⟨by decide,_,a',gF,rfl⟩
 | @FD i j e h hn d ih=>
  intro hi hok;refine bL.succ (bL.kV (ih (nb (nb hi)) trivial) (gG s) λF n h1 hF a ha hs=>?_);show kK s _ (jg F (bD F n) (bC F n) (aQ F n) (bw F n) (bf F n) s (a:Int) 0 0);have hb:(jD s i == -1)=UV:=by simp_all
  rw[GL hl ha hF,LY hs,hb,An hs,hn,kD hs];simp only[aM,aY];obtain⟨a',gF,hs',hx⟩:=h1 (nx s (nx s i)) (nb (nb hi)) rfl;rw[hx]
  exact⟨a',gF,hs',rfl⟩
 | @FE i p c h hn d ih=>
  intro hi hok;refine bL.succ (bL.kV (ih (nb (nb hi)) trivial) (gG s) λF n h1 hF a ha hs=>?_);show kK s _ (jg F (bD F n) (bC F n) (aQ F n) (bw F n) (bf F n) s (a:Int) 0 0);have hb:(jD s i == -1)=UV:=by simp_all
  rw[GL hl ha hF,LY hs,hb,An hs,hn,kD hs];simp only[aM,aY];obtain⟨hc,e,a',gF,hx⟩:=h1 (nx s (nx s i)) (nb (nb hi)) rfl;rw[hx]
  exact⟨hc,_,a',gF,rfl⟩
 | @FF i p c d ih=>
  intro hi hok;refine bL.succ (bL.mono (ih hi trivial) λF n h1 a ha hs=>?_);show kK s _ (dI F (bD F n) (bC F n) (aQ F n) (bw F n) (bf F n) s (a:Int) 0 0);unfold dI wx;obtain⟨hc,e,a',gF,hx⟩:=h1 a ha hs;rw[hx];simp only[aD];rw[O4 hc]
  exact⟨hc,_,a',gF,rfl⟩
 | @FG i j e d h ih=>
  intro hi hok;refine bL.succ (bL.kV (ih hi trivial) (gG s) λF n h1 hF a ha hs=>?_);show kK s _ (dI F (bD F n) (bC F n) (aQ F n) (bw F n) (bf F n) s (a:Int) 0 0);unfold dI wx;obtain⟨a',gF,hs',hx⟩:=h1 a ha hs;rw[hx];simp only[aD];rw[ZS hl gF hF (by rw[ji hs'];exact h)];simp only[aD,qM,aY,TExpr.eta]
  exact⟨skip s a',(iu s a' gF).1,(wW s a').trans hs',rfl⟩
 | @FH i j p c e d h d2 ih ih2=>
  intro hi hok;have hj:j<=s.length:=DX d hi;refine bL.succ (bL.CV (ih hi trivial) (ih2 (nb hj) trivial) (gG s) λF n h1 h2 hF a ha hs=>?_);show kK s _ (dI F (bD F n) (bC F n) (aQ F n) (bw F n) (bf F n) s (a:Int) 0 0);unfold dI wx;obtain⟨a',gF,hs',hx⟩:=h1 a ha hs;rw[hx];simp only[aD];rw[zj hl gF hF de (by rw[ji hs'];exact h),kD hs'];simp only[aD,jd,aM];obtain⟨hc,e2,a2,sM,hx2⟩:=h2 _ (nb hj) rfl;rw[hx2];simp only[aD];rw[O4 hc];simp only[aD,qM,aY];rw[SU hc]
  exact⟨hc,_,a2,sM,rfl⟩
 | @FI i j k e e2 d h d2 h2 ih ih2=>
  intro hi hok;have hj:j<=s.length:=DX d hi;refine bL.succ (bL.CV (ih hi trivial) (ih2 (nb hj) trivial) (gG s) λF n h1 h3 hF a ha hs=>?_);show kK s _ (dI F (bD F n) (bC F n) (aQ F n) (bw F n) (bf F n) s (a:Int) 0 0);unfold dI wx;obtain⟨a',gF,hs',hx⟩:=h1 a ha hs;rw[hx];simp only[aD];rw[zj hl gF hF de (by rw[ji hs'];exact h),kD hs'];simp only[aD,jd,aM];obtain⟨a2,sM,hs2,hx2⟩:=h3 _ (nb hj) rfl;rw[hx2];simp only[aD];rw[ZS hl sM hF (by rw[ji hs2];exact h2),hs2]
  exact⟨by decide,_,skip s k,(by rw[<-hs2];exact(iu s a2 sM).1),rfl⟩
 | @LU i j k p c e e2 d h d2 h2 d3 ih ih2 ih3=>
  intro hi hok;have hj:j<=s.length:=DX d hi;have hk:k<=s.length:=DX d2 (nb hj);refine bL.succ (bL.CV ((ih hi trivial).and (ih3 (nb hk) trivial)) (ih2 (nb hj) trivial) (gG s) λF n h1 h3 hF a ha hs=>?_);obtain⟨h1,h4⟩:=h1;show kK s _ (dI F (bD F n) (bC F n) (aQ F n) (bw F n) (bf F n) s (a:Int) 0 0);unfold dI wx;obtain⟨a',gF,hs',hx⟩:=h1 a ha hs;rw[hx];simp only[aD];rw[zj hl gF hF de (by rw[ji hs'];exact h),kD hs'];simp only[aD,jd,aM];obtain⟨a2,sM,hs2,hx2⟩:=h3 _ (nb hj) rfl;rw[hx2];simp only[aD];rw[zj hl sM hF de (by rw[ji hs2];exact h2),kD hs2];simp only[aD,jd,aM];obtain⟨hc,e4,a4,ha4,hx4⟩:=h4 _ (nb hk) rfl;rw[hx4]
  exact⟨hc,_,a4,ha4,rfl⟩
 | @FJ i j k m e e2 e3 d h d2 h2 d3 ih ih2 ih3=>
  intro hi hok;have hj:j<=s.length:=DX d hi;have hk:k<=s.length:=DX d2 (nb hj);refine bL.succ (bL.CV ((ih hi trivial).and (ih3 (nb hk) trivial)) (ih2 (nb hj) trivial) (gG s) λF n h1 h3 hF a ha hs=>?_);obtain⟨h1,h4⟩:=h1;show kK s _ (dI F (bD F n) (bC F n) (aQ F n) (bw F n) (bf F n) s (a:Int) 0 0);unfold dI wx;obtain⟨a',gF,hs',hx⟩:=h1 a ha hs;rw[hx];simp only[aD];rw[zj hl gF hF de (by rw[ji hs'];exact h),kD hs'];simp only[aD,jd,aM];obtain⟨a2,sM,hs2,hx2⟩:=h3 _ (nb hj) rfl;rw[hx2];simp only[aD];rw[zj hl sM hF de (by rw[ji hs2];exact h2),kD hs2];simp only[aD,jd,aM];obtain⟨a4,ha4,hs4,hx4⟩:=h4 _ (nb hk) rfl;rw[hx4];simp only[aD,TExpr.eta]
  exact⟨a4,ha4,hs4,rfl⟩
 | @agL l i r hv d ih=>
  intro hi hok;refine bL.succ (bL.mono (ih hi trivial) λF n h1 a ha hs=>?_);show kK s _ (fI F (bD F n) (bC F n) (aQ F n) (bw F n) (bf F n) l s (a:Int) 0 0)
  simp_all[RW]
 | @ZR l i p c h3 hv d ih=>
  intro hi hok;refine bL.succ (bL.kV (ih hi trivial) (gG s) λF n h1 hF a ha hs=>?_);show kK s _ (fI F (bD F n) (bC F n) (aQ F n) (bw F n) (bf F n) l s (a:Int) 0 0);rw[JO F _ _ _ _ _ l h3 hv];obtain⟨hc,e,a',gF,hx⟩:=h1 a ha hs;rw[hx];obtain⟨G,rfl⟩:∃G,F=G+1:=⟨F-1,om⟩
  grind[SV]
 | @alc l i j e r h3 hv d d2 ih ih2=>
  intro hi hok;have hj:j<=s.length:=DX d hi;obtain⟨N,h2⟩:=ih2 hj ⟨h3,hv⟩;refine bL.succ (bL.kV (ih hi trivial) (bL.ge (p:=λF n=>N<=F/\N<=n) N λF n a b=>⟨a,b⟩) λF n h1 hN a ha hs=>?_);show kK s _ (fI F (bD F n) (bC F n) (aQ F n) (bw F n) (bf F n) l s (a:Int) 0 0);rw[JO F _ _ _ _ _ l h3 hv];obtain⟨a',gF,hs',hx⟩:=h1 a ha hs
  simp_all
 | @wZ l i e h=>
  intro hi hok;refine⟨s.length+60,λF n m hF _ hm a ha hs=>?_⟩
  cases m with
  | zero=>omega
  | succ m=>
   show kK s _ (sI F (aQ F n) l (bW (sI F (aQ F n) l) m) (s,(a:Int),0,0,e.fOp,e.fN,e.fName,e.fKids));unfold sI
   have alf:kX F (sy s a) l=W0 0:=by
    obtain⟨G,rfl⟩:∃G,F=G+20:=⟨F-20,om⟩;rw[(zi s a).bir,ji hs,show((gw (sy s i)).1==l)=UV by rw[gH];exact h];rfl
   simp only[Gt,aY];rw[ny F s a 0 0 ha om hl];simp only[aD];rw[show nM (s.drop (skip s a))=sy s a from rfl,alf];simp only[aD,Gt,aY,TExpr.eta]
   exact⟨skip s a,(iu s a ha).1,(wW s a).trans hs,rfl⟩
 | @Du l i p c e h d ih=>
  intro hi hok;obtain⟨N,h1⟩:=ih (nb hi) trivial;obtain⟨h3,h12⟩:=hok;refine⟨N+s.length+60,λF n m hF hn hm a ha hs=>?_⟩
  cases m with
  | zero=>omega
  | succ m=>
   cases m with
   | zero=>omega
   | succ m=>
    show kK s _ (sI F (aQ F n) l (bW (sI F (aQ F n) l) (m+1)) (s,(a:Int),0,0,e.fOp,e.fN,e.fName,e.fKids));rw[aem hl ha om h3 (by rw[mM,ji hs];exact h) h12,kD hs,ji hs];obtain⟨hc,e2,a',gF,hx⟩:=h1 F n om om _ (nb hi) rfl;rw[hx];simp only[aD]
    refine⟨hc,_,a',gF,SV F (aQ F n) l m s (a':Int) c (p:Int) (.mk (gw (sy s i)).2 0 [] [e,e2]) hc⟩
 | @Hq l i j e e2 r h d d2 ih ih2=>
  intro hi hok;have hj:j<=s.length:=DX d (nb hi);obtain⟨N,h1⟩:=ih (nb hi) trivial;obtain⟨N2,h2⟩:=ih2 hj hok;obtain⟨h3,h12⟩:=hok;refine⟨N+N2+s.length+60,λF n m hF hn hm a ha hs=>?_⟩
  cases m with
  | zero=>omega
  | succ m=>
   show kK s _ (sI F (aQ F n) l (bW (sI F (aQ F n) l) m) (s,(a:Int),0,0,e.fOp,e.fN,e.fName,e.fKids));rw[aem hl ha om h3 (by rw[mM,ji hs];exact h) h12,kD hs,ji hs];obtain⟨a',gF,hs',hx⟩:=h1 F n om om _ (nb hi) rfl;rw[hx]
   exact h2 F n m om om om a' gF hs'
 | @BK i r h d ih=>
  intro hi hok;refine bL.succ (bL.kV (ih hi trivial) (gG s) λF n h1 hF a ha hs=>?_);show kK s _ (gy F (bD F n) (bC F n) (aQ F n) (bw F n) (bf F n) s (a:Int) 0 0)
  grind[agO,ji,iu,wW]
 | @FK i p c h d ih=>
  intro hi hok;refine bL.succ (bL.kV (ih (nb hi) trivial) (gG s) λF n h1 hF a ha hs=>?_);show kK s _ (gy F (bD F n) (bC F n) (aQ F n) (bw F n) (bf F n) s (a:Int) 0 0);have hb:(uN (sy s i)==0)=UV:=by rw[gH];exact h
  rw[agO hl ha hF,ji hs,hb,kD hs];obtain⟨hc,e,a',gF,hx⟩:=h1 _ (nb hi) rfl;rw[hx]
  exact⟨hc,_,a',gF,rfl⟩
 | @LV i j e h d ih=>
  intro hi hok;refine bL.succ (bL.kV (ih (nb hi) trivial) (gG s) λF n h1 hF a ha hs=>?_);show kK s _ (gy F (bD F n) (bC F n) (aQ F n) (bw F n) (bf F n) s (a:Int) 0 0);have hb:(uN (sy s i)==0)=UV:=by rw[gH];exact h
  rw[agO hl ha hF,ji hs,hb,kD hs];obtain⟨a',gF,hs',hx⟩:=h1 _ (nb hi) rfl;rw[hx]
  exact⟨a',gF,hs',rfl⟩
 | @FL i h hv=>
  intro hi hok;refine bL.succ (bL.mono (gG s) λF n hF a ha hs=>?_);show kK s _ (cM F (bD F n) (bC F n) (aQ F n) (bw F n) (bf F n) s (a:Int) 0 0);rw[<-Gh hs]at h;rw[<-An hs]at hv⊢;rw[<-kD hs];rcases mA s a ha with⟨h',_,_,_⟩|⟨w,b,h',Yj,hw,hd,hl'⟩|⟨w,b,h',_,hw,hd,hl'⟩|⟨x',h',_,hw,hm,_⟩|⟨b,h',_,hw,_⟩<;>(first|(unfold kd at h;rw[h']at h;simp at h;done)|skip);have ht:tx s a=b::w:=by unfold tx;rw[h']
  have hn:(nx s a:Int)=(skip s a:Int)+((b::w).length:Int):=by unfold nx;rw[ht];omega
  rw[ht]at hv⊢;rw[DY hl ha hF (by rw[Yj];decide),hw];have hp:T1 (0<((b::w).length:Int))=WF:=ei (by simp_all);obtain⟨m,e,c1,c2,c3⟩:=abG F (b::w) si om om;have c3:=c3 hv;rw[hv]at c2;simp only[show((b::w)==[])=UV from rfl,aM,hp,gL,PR,wX,agN b hd,aD,c1,c2,Sc];have hrg:=(Ve (b::w) hv);rw[c3,bN (x:=(oW (b::w)).1) om,bN (x:=(skip s a:Int)+((b::w).length:Int)) om,<-hn]
  exact⟨nx s a,nb ha,rfl,rfl⟩
 | @BL i h hv=>
  intro hi hok;refine bL.succ (bL.mono (gG s) λF n hF a ha hs=>?_);show kK s _ (cM F (bD F n) (bC F n) (aQ F n) (bw F n) (bf F n) s (a:Int) 0 0);rw[<-Gh hs]at h;rw[<-An hs]at hv⊢;rw[<-hs];rcases mA s a ha with⟨h',_,_,_⟩|⟨w,b,h',Yj,hw,hd,hl'⟩|⟨w,b,h',_,hw,hd,hl'⟩|⟨x',h',_,hw,hm,_⟩|⟨b,h',_,hw,_⟩<;>(first|(unfold kd at h;rw[h']at h;simp at h;done)|skip);have ht:tx s a=b::w:=by unfold tx;rw[h']
  rw[ht]at hv⊢;rw[DY hl ha hF (by rw[Yj];decide),hw];have hp:T1 (0<((b::w).length:Int))=WF:=ei (by simp_all);obtain⟨m,e,c1,c2,c3⟩:=abG F (b::w) si om om;have hb:((oW (b::w)).2 != 0)=WF:=by simpa using hv
  simp only[show((b::w)==[])=UV from rfl,aM,hp,gL,PR,wX,agN b hd,aD,c1,c2,hb,aY]
  exact⟨hv,_,skip s a,(iu s a ha).1,rfl⟩
 | @FM i h hv=>
  intro hi hok;refine bL.succ (bL.mono (gG s) λF n hF a ha hs=>?_);show kK s _ (cM F (bD F n) (bC F n) (aQ F n) (bw F n) (bf F n) s (a:Int) 0 0);rw[<-Gh hs]at h;rw[<-An hs]at hv⊢;rw[<-kD hs];rcases mA s a ha with⟨h',_,_,_⟩|⟨w,b,h',_,hw,hd,hl'⟩|⟨w,b,h',Yj,hw,hd,hl'⟩|⟨x',h',_,hw,hm,_⟩|⟨b,h',_,hw,_⟩<;>(first|(unfold kd at h;rw[h']at h;simp at h;done)|skip);have ht:tx s a=b::w:=by unfold tx;rw[h']
  have hn:(nx s a:Int)=(skip s a:Int)+((b::w).length:Int):=by unfold nx;rw[ht];omega
  rw[ht]at hv⊢;rw[DY hl ha hF (by rw[Yj];decide),hw];have hp:T1 (0<((b::w).length:Int))=WF:=ei (by simp_all);simp only[show((b::w)==[])=UV from rfl,aM,hp,gL,PR,wX,hd,aD,aY,hv];rw[bN (x:=(skip s a:Int)+((b::w).length:Int)) om,<-hn]
  exact⟨nx s a,nb ha,rfl,rfl⟩
 | @BM i h hv=>
  intro hi hok;refine bL.succ (bL.mono (gG s) λF n hF a ha hs=>?_);show kK s _ (cM F (bD F n) (bC F n) (aQ F n) (bw F n) (bf F n) s (a:Int) 0 0);rw[<-Gh hs]at h;rw[<-An hs]at hv;rw[<-hs];rcases mA s a ha with⟨h',_,_,_⟩|⟨w,b,h',_,hw,hd,hl'⟩|⟨w,b,h',Yj,hw,hd,hl'⟩|⟨x',h',_,hw,hm,_⟩|⟨b,h',_,hw,_⟩<;>(first|(unfold kd at h;rw[h']at h;simp at h;done)|skip);have ht:tx s a=b::w:=by unfold tx;rw[h']
  have hn:(nx s a:Int)=(skip s a:Int)+((b::w).length:Int):=by unfold nx;rw[ht];omega
  rw[ht]at hv;rw[DY hl ha hF (by rw[Yj];decide),hw];have hp:T1 (0<((b::w).length:Int))=WF:=ei (by simp_all);simp only[show((b::w)==[])=UV from rfl,aM,hp,gL,PR,wX,hd,aD,aY,hv];rw[bN (x:=(skip s a:Int)+((b::w).length:Int)) om,<-hn]
  exact⟨by decide,_,nx s a,nb ha,rfl⟩
 | @FN i h1 h2 h=>
  intro hi hok;refine bL.succ (bL.mono (gG s) λF n hF a ha hs=>?_);show kK s _ (cM F (bD F n) (bC F n) (aQ F n) (bw F n) (bf F n) s (a:Int) 0 0);rw[<-Gh hs]at h1 h2;rw[<-ji hs]at h;rw[<-hs]
  have hw:lD s (skip s a)=[]:=by
   rcases mA s a ha with⟨h',_,hw,_⟩|⟨w,b,h',_,hw,hd,hl'⟩|⟨w,b,h',Yj,hw,hd,hl'⟩|⟨x',h',_,hw,hm,_⟩|⟨b,h',_,hw,_⟩
   ·exact hw
   ·unfold kd at h1;simp_all
   ·unfold kd at h2;simp_all
   ·exact hw
   ·exact hw
  rw[DY hl ha hF h,hw]
  exact⟨by decide,_,skip s a,(iu s a ha).1,rfl⟩
 | @LW i p c h d ih=>
  intro hi hok;refine bL.succ (bL.kV (ih (nb hi) trivial) (gG s) λF n h1 hF a ha hs=>?_);show kK s _ (cM F (bD F n) (bC F n) (aQ F n) (bw F n) (bf F n) s (a:Int) 0 0);unfold cM wx;rw[zj hl ha hF de (by rw[ji hs];exact h),kD hs];simp only[aD,aY];obtain⟨hc,e,a',gF,hx⟩:=h1 _ (nb hi) rfl;rw[hx];simp only[aD];rw[O4 hc];simp only[aD,qM,aY];rw[SU hc]
  exact⟨hc,_,a',gF,rfl⟩
 | @yb i j e h d h2 ih=>
  intro hi hok;refine bL.succ (bL.kV (ih (nb hi) trivial) (gG s) λF n h1 hF a ha hs=>?_);show kK s _ (cM F (bD F n) (bC F n) (aQ F n) (bw F n) (bf F n) s (a:Int) 0 0);unfold cM wx;rw[zj hl ha hF de (by rw[ji hs];exact h),kD hs];simp only[aD,aY];obtain⟨a',gF,hs',hx⟩:=h1 _ (nb hi) rfl;rw[hx];simp only[aD];rw[ZS hl gF hF (by rw[ji hs'];exact h2),hs']
  exact⟨by decide,_,skip s j,(by rw[<-hs'];exact(iu s a' gF).1),rfl⟩
 | @LX i j e h d h2 ih=>
  intro hi hok;refine bL.succ (bL.kV (ih (nb hi) trivial) (gG s) λF n h1 hF a ha hs=>?_);show kK s _ (cM F (bD F n) (bC F n) (aQ F n) (bw F n) (bf F n) s (a:Int) 0 0);unfold cM wx;rw[zj hl ha hF de (by rw[ji hs];exact h),kD hs];simp only[aD,aY];obtain⟨a',gF,hs',hx⟩:=h1 _ (nb hi) rfl;rw[hx];simp only[aD];rw[zj hl gF hF de (by rw[ji hs'];exact h2)];simp only[aD,jd,aM,TExpr.eta];exact⟨nx s a',nb gF,(by rw[kD hs']),rfl⟩
theorem aml(h:-9223372036854775808<=n/\n<=9223372036854775807):(Lit.int .i64 n).wf=WF:=by
 have h1:IntKind.i64.min=-9223372036854775808:=by decide
 have h2:IntKind.i64.max=9223372036854775807:=by decide
 simp[Lit.wf];omega
theorem anx:∀x,x∈([]::pQ)->tu x<=26:=by decide
theorem apK(x:Bs):0<=uN x/\uN x<=6:=by
 unfold uN
 grind
theorem anz:∀x,x∈([]::pQ)->0<=(gw x).2/\(gw x).2<=26:=by decide
def ari(s:Bs)(c:nH)(i:Nat):vA->Prop
 | .ok e j=>iM e/\(match c with | .loop _ a=>nodes e+i<=j+nodes a|_=>nodes e+i<=j)
 | .err _ _=>True
def nH.okA:nH->Prop
 | .oper l=>0<l
 | .loop l a=>0<l/\iM a
 | _=>True
theorem CA(s:Bs)(i:Nat)(hl:s.length<=1000000)(hi:i<=s.length):(tx s i).length<=maxLen:=by
 have:=aiK hi;have h:(1000000:Nat)<=maxLen:=by decide
 omega
theorem IX{op:Int}{name:Bs}{kids:J TExpr}(h1:0<=op/\op<=26)(h2:-1<=n/\n<=9223372036854775807)(h3:name.length<=maxLen)(h4:kids.length<=3)(h5:∀x,x∈kids->iM x):iM (.mk op n name kids):=
 .mk op n name kids (aml om) (aml om) h3 (oM h4 de) h5
theorem apL(hl:s.length<=1000000){c:nH}(d:D s c i r):i<=s.length->c.okA->ari s c i r:=by
 induction d with
 | @BI i r h d ih=>
  intro hi _;have:=ih hi trivial
  cases r with
  | ok e j=>exact this
  | err p c=>trivial
 | BJ h hn=>intro _ _;trivial
 | @FD i j e h hn d ih=>
  intro hi _;obtain⟨a,b,c,f⟩:=w5 hi h;obtain⟨x,y⟩:=ih c trivial;have g:=anx _ (O1 s (nx s i));have g2:=ael _ (O1 s (nx s i));rw[(O2 h).2.2];refine⟨IX om om (CA s i hl hi) si (by simpa using x),?_⟩
  simp[nodes,mz];omega
 | FE h hn d ih=>intro _ _;trivial
 | FF d ih=>intro _ _;trivial
 | FG d h ih=>intro hi _;exact ih hi (show(0:Int)<3 by decide)
 | FH d h d2 ih ih2=>intro _ _;trivial
 | FI d h d2 h2 ih ih2=>intro _ _;trivial
 | LU d h d2 h2 d3 ih ih2 ih3=>intro _ _;trivial
 | @FJ i j k m a b e d h d2 h2 d3 ih ih2 ih3=>
  intro hi _;obtain⟨_,p1,_⟩:=mB d hi (show(0:Int)<3 by decide);obtain⟨m1,m2⟩:=dL p1 (by rw[h];decide);obtain⟨_,p2,_⟩:=mB d2 m1 trivial;obtain⟨m3,m4⟩:=dL p2 (by rw[h2];decide);obtain⟨o1,n1⟩:=ih hi (show(0:Int)<3 by decide);obtain⟨o2,n2⟩:=ih2 m1 trivial;obtain⟨o3,n3⟩:=ih3 m3 trivial;refine⟨IX om om si si (by simp_all),?_⟩
  simp[nodes,mz];omega
 | Vc d ih=>intro _ _;trivial
 | @WB l i j a r d d2 ih ih2=>
  intro hi hc;obtain⟨_,p1,_⟩:=mB d hi trivial;obtain⟨o1,n1⟩:=ih hi trivial;have:=ih2 p1 ⟨hc,o1⟩
  cases r with
  | ok e k=>
   obtain⟨o2,n2⟩:=this
   exact⟨o2,show nodes e+i<=k by omega⟩
  | err p c=>trivial
 | wZ h=>intro hi hc;exact⟨hc.2,bp⟩
 | Du h d ih=>intro _ _;trivial
 | @Hq l i j a b r h d d2 ih ih2=>
  intro hi hc;obtain⟨hc1,Ki⟩:=hc;obtain⟨m1,m2⟩:=dL hi (z8 hc1 h);obtain⟨_,p1,_⟩:=mB d m1 (show(0:Int)<_ by omega);obtain⟨o1,n1⟩:=ih m1 (show(0:Int)<_ by omega);have g:=anz _ (O1 s i);have:=ih2 p1 ⟨hc1,IX g om si si (by simpa using⟨Ki,o1⟩)⟩
  cases r with
  | ok e k=>
   obtain⟨o2,n2⟩:=this;refine⟨o2,?_⟩
   simp[nodes,mz]at n2;omega
  | err p c=>trivial
 | @BK i r h d ih=>
  intro hi _;have:=ih hi trivial
  cases r with
  | ok e j=>exact this
  | err p c=>trivial
 | FK h d ih=>intro _ _;trivial
 | @LV i j a h d ih=>
  intro hi _;obtain⟨m1,m2⟩:=dL hi (Am h);obtain⟨o1,n1⟩:=ih m1 trivial;have g:=apK (sy s i);refine⟨IX om om si si (by simpa using o1),?_⟩
  simp[nodes,mz];omega
 | @FL i h hv=>
  intro hi _;have m:=(kO s i hi).2.2 (by rw[h];decide);have g:=Ve _ hv;refine⟨IX om om si si si,?_⟩
  simp[nodes,mz];omega
 | BL h hv=>intro _ _;trivial
 | @FM i h hv=>
  intro hi _;have m:=(kO s i hi).2.2 (by rw[h];decide);refine⟨IX om om (CA s i hl hi) si si,?_⟩
  simp[nodes,mz];omega
 | BM h hv=>intro _ _;trivial
 | FN h1 h2 h=>intro _ _;trivial
 | LW h d ih=>intro _ _;trivial
 | yb h d h2 ih=>intro _ _;trivial
 | @LX i j e h d h2 ih=>
  intro hi _;obtain⟨m1,m2⟩:=dL hi (by rw[h];decide);obtain⟨_,p1,_⟩:=mB d m1 trivial;obtain⟨m3,m4⟩:=dL p1 (by rw[h2];decide);obtain⟨o1,n1⟩:=ih m1 trivial;exact⟨o1,show nodes e+i<=nx s j by omega⟩
mutual
def kZ:TExpr->Int
 | .mk _ _ _ kids=>tw kids 0+1
def tw:J TExpr->Int->Int
 | [],m=>m
 | k::l,m=>tw l (cond (T1 (m<kZ k)) (kZ k) m)
end
theorem aiO(e:TExpr):kZ e=tw e.fKids 0+1:=by cases e;rfl
theorem Vf:∀(l m:J TExpr)(z:Int),tw (l++m) z=tw m (tw l z)
 | [],m,z=>rfl
 | k::l,m,z=>by simp[tw,Vf l m]
theorem IY:∀(l:J TExpr)(z:Int),0<=z->(∀k,k∈l->0<=kZ k/\kZ k<=(nodes k:Int))->z<=tw l z/\tw l z<=z+(mz l:Int)
 | [],z,h,_=>by simp[tw,mz]
 | k::l,z,h,hk=>by
  have h1:=hk k si;simp[tw,mz]
  cases hc:T1 (z<kZ k)with
  | true=>
   have hc:=Cm hc;have h2:=IY l (kZ k) om λk h=>hk k (ku _ h)
   simp;omega
  | false=>
   have h2:=IY l z h λk h=>hk k (ku _ h);simp;omega
theorem aiP(e:TExpr):0<=kZ e/\kZ e<=(nodes e:Int):=by
 induction e using TExpr.ind with
 | h op n name kids ih=>
  have:=IY kids 0 om ih;simp[kZ,nodes];omega
theorem Vg{r:TExpr->O Int}{l:J TExpr}(hF:l.length<F)(hb:l.length<=9223372036854775807)(hn:mz l<=1000000)(hr:∀k,k∈l->r k=W0 (kZ k)):
  bW (σ:=Int×Int) (λbA x1=>
   cond (T1 (x1.2<(l.length:Int)))
   (rq ((T1 (0<=x1.2))&&(T1 (x1.2<(l.length:Int)))) ((r (l.getD (Ts x1.2) dH)).bind λx3=>
   bA (cond (T1 (x1.1<x3)) x3 x1.1,aC (x1.2+1))))
   (W0 (aC (x1.1+1)))) F (0,0)=W0 (tw l 0+1):=by
 refine OT (λi=>(tw (l.take i) 0,(i:Int))) l.length hF rfl ?_ ?_
 ·intro i rc hi
  simp only[yq hi,b9,gd hi,bz (i:=i) om,hr _ (iJ hi)];rw[ais hi,Vf];rfl
 ·intro rc
  have h:=IY l 0 om λk _=>aiP k;simp;rw[bN om]
theorem alg(ho:iM e):nodes e<=1000000->bL λF n=>uO F n e=W0 (kZ e)/\yf F n e=W0 (kZ e):=by
 revert e;apply iM.ind;intro e h4 h5 ih hn;rw[Hg]at hn;refine bL.succ ((bL.all λk hk=>ih k hk (by have:=IK hk;omega)).kV (bL.ge (e.fKids.length+1) λF n h _=>h) λF m ih hF=>?_);rw[aiO];refine⟨?_,Vg hF h4 om λk hk=>(ih k hk).2⟩;show EC F (uO F m) e=_;unfold EC wx;simp;exact Vg hF h4 om λk hk=>(ih k hk).1
def yg:TExpr:=.mk 0 0 [] []
def PS(s:Bs):vA->TExpr×Int×Int
 | .ok e j=>cond (T1 (skip s j<s.length)) (yg,(skip s j:Int),6) (cond (T1 (32<kZ e)) (yg,0,5) (e,0,0))
 | .err p c=>(yg,(p:Int),c)
theorem abU(s:Bs)(i:Nat)(hi:i<=s.length):(kd s i==0)=!(T1 (skip s i<s.length)):=by
 unfold kd;rcases mA s i hi with⟨h',_,_,he⟩|⟨w,b,h',_,_,_,hl⟩|⟨w,b,h',_,_,_,hl⟩|⟨x',h',hs,_,hm,hl⟩|⟨b,h',_,_,hl⟩<;>rw[h']
 ·simp_all
 ·grind
 ·grind
 ·have:x'.length≠0:=by
   simp_all[CY]
  grind
 grind
theorem alh(hlen:s.length<=4096)(h0:skip s 0<s.length)(d:D s .expr 0 r):
  bL λF _=>pX F s=W0 (PS s r)/\pY F s=W0 (PS s r):=by
 have hl:s.length<=1000000:=om;have hA:=D_A hl d (gj _) trivial;have hR:=asL hl (asJ d) (gj _) trivial;have hk0:(kd s 0==0)=UV:=by simp_all[abU,gj,ei]
 have LZ:T1 (4096<(s.length:Int))=UV:=uc om;have hat:((skip s 0:Int)==(s.length:Int))=UV:=by grind
 have start:∀F,s.length+60<=F->uv F s 0=W0 ⟨kd s 0,po s 0,tx s 0⟩:=λF hF=>by
  rw[<-QC s 0 (gj _)];exact Wx F s 0 (gj _) om hl
 have rstart:∀F,s.length+60<=F->fW F s 0 0 0=W0 (s,(skip s 0:Int),0,0):=λF hF=>tT F s 0 0 0 (gj _) om hl
 cases r with
 | err p c=>
  refine bL.CV hA.fst hR.fst (gG s) λF _ h1 h2 hF=>⟨?_,?_⟩
  ·obtain⟨st,h1⟩:=h1
   unfold pX mR wx;rw[LZ,start F hF];simp[aM,hk0];rw[h1];rfl
  ·obtain⟨hc,e,a,ha,hx⟩:=h2 (skip s 0) om (wW s 0)
   unfold pY Aa wx;rw[LZ,rstart F hF];simp[aM,hat,hx];rw[tT F s a c p ha om hl];simp only[aD];rw[SU hc];have s7:(c != 0)=WF:=by simpa using hc
   cases T1 ((skip s a:Int)<(s.length:Int))<;>simp[aY,s7]<;>rfl
 | ok e j=>
  obtain⟨_,hj,_⟩:=mB d (gj _) trivial;obtain⟨ho,hn⟩:=apL hl d (gj _) trivial;refine bL.CV (hA.fst.and hR.fst) (alg ho om).fst (gG s) λF _ h12 hd hF=>?_;obtain⟨h1,h2⟩:=h12;obtain⟨X5,X6⟩:=hd;obtain⟨a,ha,hs,hx⟩:=h2 (skip s 0) om (wW s 0);have hkj:=abU s j hj;have hne:(kd s j != 0)=T1 (skip s j<s.length):=by grind
  refine⟨?_,?_⟩
  ·unfold pX mR JP wx
   rw[LZ,start F hF];simp[aM,hk0];rw[h1];simp[sm,hne,X5];show _=W0 (cond (T1 (skip s j<s.length)) (yg,(skip s j:Int),6) (cond (T1 (32<kZ e)) (yg,0,5) (e,0,0)))
   cases T1 (skip s j<s.length)with
   | true=>rfl
   | false=>cases T1 (32<kZ e)<;>rfl
  ·unfold pY Aa O5 wx
   rw[LZ,rstart F hF];simp[aM,hat,hx];rw[tT F s a 0 0 ha om hl,hs];simp only[aD,X6];show _=W0 (cond (T1 (skip s j<s.length)) (yg,(skip s j:Int),6) (cond (T1 (32<kZ e)) (yg,0,5) (e,0,0)));by_cases hlt:skip s j<s.length
   ·rw[ei hlt,ei om]
    rfl
   ·rw[uc hlt,uc om]
    cases T1 (32<kZ e)<;>rfl
theorem adx(hlen:s.length<=4096)(h0:¬ skip s 0<s.length):bL λF _=>pX F s=W0 (.mk 1 0 [] [],0,0)/\pY F s=W0 (.mk 1 0 [] [],0,0):=by
 have hl:s.length<=1000000:=om;refine(gG s).mono λF _ hF=>?_;have hk0:(kd s 0==0)=WF:=by simp_all[abU,gj,uc]
 have LZ:T1 (4096<(s.length:Int))=UV:=uc om;have hsk:=(iu s 0 (gj _)).1;have hat:((skip s 0:Int)==(s.length:Int))=WF:=by rw[p7];omega
 have start:uv F s 0=W0 ⟨kd s 0,po s 0,tx s 0⟩:=by
  rw[<-QC s 0 (gj _)];exact Wx F s 0 (gj _) om hl
 have rstart:fW F s 0 0 0=W0 (s,(skip s 0:Int),0,0):=tT F s 0 0 0 (gj _) om hl;constructor
 ·unfold pX wx
  rw[LZ,start];simp[aM,hk0];rfl
 ·unfold pY wx
  rw[LZ]
  simp_all
theorem ady(s:Bs)(hs:s.length<=4096):∃x,(iM x.1/\nodes x.1<=10000)/\bL λF _=>pX F s=W0 x/\pY F s=W0 x:=by
 have hz:iM yg/\nodes yg<=10000:=⟨IX om om si si si,by decide⟩;by_cases h0:skip s 0<s.length
 ·obtain⟨r,d⟩:=apI s 0 (gj _)
  refine⟨_,?_,alh om h0 d⟩
  cases r with
  | err p c=>exact hz
  | ok e j=>
   obtain⟨ho,hn⟩:=apL om d (gj _) trivial;obtain⟨_,hj,_⟩:=mB d (gj _) trivial;show iM (cond (T1 (skip s j<s.length)) (yg,(skip s j:Int),(6:Int)) (cond (T1 (32<kZ e)) (yg,0,5) (e,0,0))).1/\nodes (cond (T1 (skip s j<s.length)) (yg,(skip s j:Int),(6:Int)) (cond (T1 (32<kZ e)) (yg,0,5) (e,0,0))).1<=10000
   cases T1 (skip s j<s.length)with
   | true=>exact hz
   | false=>
    cases T1 (32<kZ e)with
    | true=>exact hz
    | false=>
     have hn:nodes e+0<=j:=hn;exact⟨ho,by show nodes e<=10000;omega⟩
 ·exact⟨_,⟨IX om om si si si,by decide⟩,adx om h0⟩
end Go.Proofs.YtkmlndnhiboofaaGreatDoor.K
