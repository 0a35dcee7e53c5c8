import Derived.Test.YtlgmlcgjmcmmgaaGreatDoorZ2
import Derived.Test.YtlgmlcgjmcmmgaaGreatDoorSo
set_option linter.all false
namespace Go.Proofs.YtlgmlcgjmcmmgaaGreatDoor.K
open Go.RT
set_option maxRecDepth 100000
theorem agI{α:Type}(c:Bool)(x y:α):cond c (some x) (some y)=some (cond c x y):=by cases c<;>rfl
def aeY(a:Int):O (Int×Bs):=cond ((24:Int)==a) (some (3,[124,124])) (cond ((23:Int)==a) (some (4,[38,38])) (cond ((22:Int)==a) (some (5,[124])) (cond ((21:Int)==a) (some (6,[94])) (cond ((20:Int)==a) (some (7,[38])) (cond ((18:Int)==a) (some (8,[61,61])) (cond ((19:Int)==a) (some (8,[33,61])) (cond ((14:Int)==a) (some (9,[60])) (cond ((15:Int)==a) (some (9,[62])) (cond ((16:Int)==a) (some (9,[60,61])) (cond ((17:Int)==a) (some (9,[62,61])) (cond ((12:Int)==a) (some (10,[60,60])) (cond ((13:Int)==a) (some (10,[62,62])) (cond ((10:Int)==a) (some (11,[43])) (cond ((11:Int)==a) (some (11,[45])) (cond ((7:Int)==a) (some (12,[42])) (cond ((8:Int)==a) (some (12,[47])) (cond ((9:Int)==a) (some (12,[37])) (some (0,[])))))))))))))))))))
def X4(a:Int):Int×Bs:=cond ((24:Int)==a) (3,[124,124]) (cond ((23:Int)==a) (4,[38,38]) (cond ((22:Int)==a) (5,[124]) (cond ((21:Int)==a) (6,[94]) (cond ((20:Int)==a) (7,[38]) (cond ((18:Int)==a) (8,[61,61]) (cond ((19:Int)==a) (8,[33,61]) (cond ((14:Int)==a) (9,[60]) (cond ((15:Int)==a) (9,[62]) (cond ((16:Int)==a) (9,[60,61]) (cond ((17:Int)==a) (9,[62,61]) (cond ((12:Int)==a) (10,[60,60]) (cond ((13:Int)==a) (10,[62,62]) (cond ((10:Int)==a) (11,[43]) (cond ((11:Int)==a) (11,[45]) (cond ((7:Int)==a) (12,[42]) (cond ((8:Int)==a) (12,[47]) (cond ((9:Int)==a) (12,[37]) ((0,[])))))))))))))))))))
def lq(a:Int):Int×Bs:=cond (a==1||a==2) (14,[]) (cond (a==3) (13,[45]) (cond (a==4) (13,[43]) (cond (a==5) (13,[33]) (cond (a==6) (13,[126]) (cond (a==25) (2,[63]) (cond (a==26) (1,[61]) (X4 a)))))))
def oy(a:Int):Int:=cond (a==1||a==2) 0 (cond ((decide (3<=a)&&decide (a<=6))||a==26) 1 (cond (decide (7<=a)&&decide (a<=24)) 2 (cond (a==25) 3 (-1))))
theorem acA(F:Nat)(a:Int):Ev F a=some (oy a):=by
 unfold Ev oy
 grind
theorem aiM(a:Int):aeY a=some (X4 a):=by simp [aeY,X4,agI]
theorem agJ(G:Nat)(a:Int):((rJ (G+20)).bind fun x2=>
 bU (σ:=Int) (fun kO x3=>
 cond (decide (x3<(x2.length:Int)))
 (rq ((decide (0<=x3))&&(decide (x3<(x2.length:Int)))) (cond (((x2.getD (Int.toNat x3) yD).Z3)==a)
 (some ((x2.getD (Int.toNat x3) yD).NH,(x2.getD (Int.toNat x3) yD).Fj))
 (kO (aB (x3+1)))))
 (some (0,[]))) (G+20) 0)=aeY a:=by kernel_rfl
theorem abJ(G:Nat)(a:Int):vR (G+20) a=some (lq a):=by
 unfold vR lq;cases h1:(a==1)<;>cases h2:(a==2)<;>simp;cases h3:(a==3)<;>simp;cases h4:(a==4)<;>simp;cases h5:(a==5)<;>simp;cases h6:(a==6)<;>simp;cases h7:(a==25)<;>simp;cases h8:(a==26)<;>simp;exact (agJ G a).trans (aiM a)
def aj8(L:Int):Int:=cond (L==1||L==13) 1 (cond (L==2) 3 (cond (L==14) 0 2))
theorem aiN(op:Int):((lq op).1=0/\oy op=-1)\/((lq op).1≠0/\aj8 (lq op).1=oy op):=by
 by_cases h:1<=op/\op<=26
 ·have:op=1\/op=2\/op=3\/op=4\/op=5\/op=6\/op=7\/op=8\/op=9\/op=10\/op=11\/op=12\/op=13\/op=14\/op=15\/op=16\/op=17\/op=18\/op=19\/op=20\/op=21\/op=22\/op=23\/op=24\/op=25\/op=26:=om
  rcases this with rfl|rfl|rfl|rfl|rfl|rfl|rfl|rfl|rfl|rfl|rfl|rfl|rfl|rfl|rfl|rfl|rfl|rfl|rfl|rfl|rfl|rfl|rfl|rfl|rfl|rfl<;>decide
 ·left
  have h1:(op==1)=false:=by grind
  have g1:((1:Int)==op)=false:=by rw [gO];omega
  have h2:(op==2)=false:=by rw [gO];omega
  have g2:((2:Int)==op)=false:=by rw [gO];omega
  have h3:(op==3)=false:=by grind
  have g3:((3:Int)==op)=false:=by grind
  have h4:(op==4)=false:=by grind
  have g4:((4:Int)==op)=false:=by grind
  have h5:(op==5)=false:=by grind
  have g5:((5:Int)==op)=false:=by grind
  have h6:(op==6)=false:=by grind
  have g6:((6:Int)==op)=false:=by grind
  have h7:(op==7)=false:=by grind
  have g7:((7:Int)==op)=false:=by grind
  have h8:(op==8)=false:=by grind
  have g8:((8:Int)==op)=false:=by grind
  have h9:(op==9)=false:=by grind
  have g9:((9:Int)==op)=false:=by rw [gO];omega
  have h10:(op==10)=false:=by rw [gO];omega
  have g10:((10:Int)==op)=false:=by rw [gO];omega
  have h11:(op==11)=false:=by rw [gO];omega
  have g11:((11:Int)==op)=false:=by rw [gO];omega
  have h12:(op==12)=false:=by rw [gO];omega
  have g12:((12:Int)==op)=false:=by rw [gO];omega
  have Wl:(op==13)=false:=by rw [gO];omega
  have g13:((13:Int)==op)=false:=by rw [gO];omega
  have h14:(op==14)=false:=by rw [gO];omega
  have g14:((14:Int)==op)=false:=by rw [gO];omega
  have h15:(op==15)=false:=by rw [gO];omega
  have g15:((15:Int)==op)=false:=by rw [gO];omega
  have h16:(op==16)=false:=by rw [gO];omega
  have g16:((16:Int)==op)=false:=by rw [gO];omega
  have h17:(op==17)=false:=by rw [gO];omega
  have g17:((17:Int)==op)=false:=by rw [gO];omega
  have h18:(op==18)=false:=by rw [gO];omega
  have g18:((18:Int)==op)=false:=by rw [gO];omega
  have h19:(op==19)=false:=by rw [gO];omega
  have g19:((19:Int)==op)=false:=by rw [gO];omega
  have h20:(op==20)=false:=by rw [gO];omega
  have g20:((20:Int)==op)=false:=by rw [gO];omega
  have h21:(op==21)=false:=by rw [gO];omega
  have g21:((21:Int)==op)=false:=by rw [gO];omega
  have h22:(op==22)=false:=by rw [gO];omega
  have g22:((22:Int)==op)=false:=by rw [gO];omega
  have h23:(op==23)=false:=by rw [gO];omega
  have g23:((23:Int)==op)=false:=by rw [gO];omega
  have Tb:(op==24)=false:=by rw [gO];omega
  have g24:((24:Int)==op)=false:=by rw [gO];omega
  have Wm:(op==25)=false:=by rw [gO];omega
  have g25:((25:Int)==op)=false:=by rw [gO];omega
  have HB:(op==26)=false:=by rw [gO];omega
  have g26:((26:Int)==op)=false:=by rw [gO];omega
  have k1:(decide (3<=op)&&decide (op<=6))=false:=by
   grind
  have k2:(decide (7<=op)&&decide (op<=24))=false:=by
   grind
  refine⟨?_,?_⟩
  ·simp only [lq,X4,h1,h2,h3,h4,h5,h6,h7,h8,h9,h10,h11,h12,Wl,h14,h15,h16,h17,h18,h19,h20,h21,h22,h23,Tb,Wm,HB,g1,g2,g3,g4,g5,g6,g7,g8,g9,g10,g11,g12,g13,g14,g15,g16,g17,g18,g19,g20,g21,g22,g23,g24,g25,g26,XE,aU]
  ·simp only [oy,h1,h2,Wm,HB,k1,k2,XE,aU]
def zV(n:Int):Bool:=(decide (7<=n)&&decide (n<=13))||(decide (20<=n)&&decide (n<=22))
theorem aiO(F:Nat)(n:Int):rK F n=some (zV n):=by
 by_cases h:n=7\/n=8\/n=9\/n=10\/n=11\/n=12\/n=13\/n=20\/n=21\/n=22
 ·rcases h with rfl|rfl|rfl|rfl|rfl|rfl|rfl|rfl|rfl|rfl<;>rfl
 ·unfold rK zV
  have k1:(decide (7<=n)&&decide (n<=13))=false:=by
   grind
  have k2:(decide (20<=n)&&decide (n<=22))=false:=by
   grind
  grind
theorem Z4(F:Nat)(n:Int):vS F n=some (n==0||zV n):=by
 unfold vS zV
 grind
end Go.Proofs.YtlgmlcgjmcmmgaaGreatDoor.K
namespace Go.Proofs.YtlgmlcgjmcmmgaaGreatDoor.K
open Go.RT
def fJ(b:Int):Bool:=decide (48<=b)&&decide (b<=57)
def nw(b:Int):Bool:=(decide (97<=b)&&decide (b<=122))||(decide (65<=b)&&decide (b<=90))
def qW(b:Int):Bool:=(nw b||fJ b)||b==95
theorem Tc(F:Nat)(b:Int):kq F b=some (fJ b):=by
 unfold kq fJ;grind
theorem ak3(F:Nat)(b:Int):q9 F b=some (nw b):=by
 unfold q9 nw;grind
theorem aoz(F:Nat)(b:Int):oe F b=some (qW b):=by
 unfold oe qW;rw [ak3,Tc];cases nw b<;>cases fJ b<;>rfl
theorem agK(F:Nat)(b:Int):tO F b=some (fJ b):=by
 unfold tO fJ;grind
theorem ak4(F:Nat)(b:Int):vb F b=some (nw b):=by
 unfold vb nw;grind
theorem agL(b:Int):fJ b=true↔48<=b/\b<=57:=by simp [fJ]
theorem Z5(b:Int):qW b=true↔(97<=b/\b<=122)\/(65<=b/\b<=90)\/(48<=b/\b<=57)\/b=95:=by
 simp [qW,nw,fJ];omega
def qt(s:Bs)(p:Nat):Int:=((s.getD p 0).toNat:Int)
theorem Z6(p:Nat->Bool):∀k i,iter (fun i r=>cond (p i) r (some false)) (some true) k i=some ((List.range' i k).all p)
 | 0,i=>rfl
 | k+1,i=>by
  simp [iter,Xt];rw [Z6 p k (i+1)];cases p i<;>rfl
def rName(s:Bs):Bool:=cond (s==[]||decide (32<(s.length:Int))) false (cond (fJ (qt s 0)) false ((List.range' 0 s.length).all fun i=>qW (qt s i)))
theorem xX(F:Nat)(s:Bs)(hF:33<=F):eU F s=some (rName s):=by
 unfold eU rName;simp only [Tc,aoz]
 cases h1:(s==[]) with
 | true=>rfl
 | false=>
  cases h2:decide (32<(s.length:Int)) with
  | true=>rfl
  | false=>
   have h0:decide (0<(s.length:Int))=true:=by
    cases s with
    | nil=>cases h1
    | cons a s=>simp
   have hl:¬ 32<(s.length:Int):=by simpa using h2
   simp only [aU,h0];show cond (fJ (qt s 0)) _ _=some (cond (fJ (qt s 0)) _ _)
   cases fJ (qt s 0) with
   | true=>rfl
   | false=>
    simp only [aU];rw [<-Z6 (fun i=>qW (qt s i))];refine abI (fun i rc hi=>?_) (fun rc=>?_) F om
    ·have e1:decide ((i:Int)<(s.length:Int))=true:=by simpa using hi
     have e2:decide (0<=(i:Int))=true:=by simp
     simp only [e1];rw [bh om];show cond (!(qW (qt s i))) _ _=_
     simp_all
    simp_all
theorem get_at(l:Bs)(k:Nat):(ByteArray.mk ⟨l⟩).get! k=l.getD k 0:=by
 simp [ByteArray.get!];cases l[k]? <;> rfl
theorem NG{l:Bs}{p:Nat}(h:(l.getD p 0).toNat<128):dec l p=((l.getD p 0).toNat,1):=by
 unfold dec Utf8.decode
 simp_all [get_at,T6,if_pos]
theorem Wn{l:Bs}{p:Nat}(h:¬ (l.getD p 0).toNat<128):128<=(dec l p).1:=by
 unfold dec Utf8.decode;simp [get_at]
 (repeat' split)<;>simp_all [Utf8.runeError]<;>omega
def cOk(c p:Int):Bool:=cond (nw c||c==95) true (cond (fJ c) (decide (0<p)) false)
theorem acB(c p:Int):cOk c p=true↔(97<=c/\c<=122)\/(65<=c/\c<=90)\/c=95\/(48<=c/\c<=57)/\0<p:=by
 simp [cOk,nw,fJ];omega
def PW(s:Bs)(p:Nat):Bool:=qW (qt s p) && !(decide (p=0)&&fJ (qt s p))
theorem ak5(s:Bs)(p:Nat):cOk ((dec s p).1:Int) (p:Int)=PW s p/\(PW s p=true->(dec s p).2=1):=by
 by_cases h:(s.getD p 0).toNat<128
 ·rw [NG h]
  rw [sE,acB];unfold PW qt;rw [cx,Z5]
  grind [agL,decide_eq_false_iff_not]
 ·have h1:=Wn h
  have h2:qW (qt s p)=false:=by
   apply Qe.2;intro hw;unfold qt at hw
   grind [Z5]
  have h3:PW s p=false:=by unfold PW;rw [h2];rfl
  rw [h3];refine⟨?_,fun h=>by cases h⟩
  grind [acB]
theorem Td(F:Nat)(s:Bs):∀(k p n:Nat),p+k=s.length->k<n->bU (σ:=Bs×Int) (R:=Bool) (fun fV x2=>
   cond (Nat.blt (Int.toNat x2.2) x2.1.length)
   (((vb F ((dec x2.1 (Int.toNat x2.2)).1:Int)).bind fun x5=>
   cond x5
   (some true)
   (some (((dec x2.1 (Int.toNat x2.2)).1:Int)==95)):O Bool).bind fun x4=>
   (cond x4
   (some true)
   ((tO F ((dec x2.1 (Int.toNat x2.2)).1:Int)).bind fun x7=>
   cond x7
   (some (decide (0<(((Int.toNat x2.2):Nat):Int))))
   (some false)):O Bool).bind fun x6=>
   cond x6
   (fV (x2.1,((((Int.toNat x2.2)+(dec x2.1 (Int.toNat x2.2)).2):Nat):Int)))
   (some false))
   (some true)) n (s,(p:Int))=some ((List.range' p k).all (PW s))
 | 0,p,n,h,hn=>by
  cases n with
  | zero=>omega
  | succ n=>
   have e:Nat.blt p s.length=false:=by
    simp_all [Qe,XF]
   simp_all [bU,ck,aU]
 | k+1,p,n,h,hn=>by
  cases n with
  | zero=>omega
  | succ n=>
   have e:Nat.blt p s.length=true:=by rw [Nat.blt,XF];omega
   obtain⟨h1,h2⟩:=ak5 s p;have ih:=Td F s k (p+1) n om om;simp only [ak4,agK,aH] at ih⊢;rw [bU];simp only [ck,e,bw]
   have key:∀X:O Bool,((cond (nw ((dec s p).1:Int)) (some true) (some (((dec s p).1:Int)==95)):O Bool).bind fun x4=>
     (cond x4 (some true) (cond (fJ ((dec s p).1:Int)) (some (decide (0<(p:Int)))) (some false)):O Bool).bind fun x6=>cond x6 X (some false))=cond (cOk ((dec s p).1:Int) (p:Int)) X (some false):=by
    intro X;unfold cOk
    grind
   rw [key,h1,Xt,Rt]
   grind
theorem Du(F:Nat)(s:Bs)(hF:33<=F):kJ F s=some (rName s):=by
 unfold kJ rName;by_cases hz:s=[]
 ·subst hz;rfl
 have hlen:=yZ.2 hz;have h1:decide ((s.length:Int)<1)=false:=by simp;omega
 have h2:(s==[])=false:=by simpa using hz
 rw [h1,h2]
 cases hl:decide (32<(s.length:Int)) with
 | true=>rfl
 | false=>
  have hs:¬ 32<(s.length:Int):=by simpa using hl
  rw [Td F s s.length 0 F om om];obtain⟨m,hm⟩:∃m,s.length=m+1:=⟨s.length-1,om⟩;rw [hm,Xt]
  have e:(List.range' (0+1) m).all (PW s)=(List.range' (0+1) m).all fun i=>qW (qt s i):=by
   rw [sE]
   have:∀x,x∈List.range' (0+1) m->PW s x=qW (qt s x):=fun x hx=>by
    unfold PW
    grind
   simp_all
  unfold PW
  grind
theorem F3(F:Nat)(s:Bs)(hF:33<=F):kJ F s=eU F s:=(Du F s hF).trans (xX F s hF).symm
end Go.Proofs.YtlgmlcgjmcmmgaaGreatDoor.K
namespace Go.Proofs.YtlgmlcgjmcmmgaaGreatDoor.K
open Go.RT
abbrev cw:=bV
abbrev cw.mk:=bV.mk
instance:Inhabited TExpr:=⟨dw⟩
inductive ic:TExpr->Prop
 | mk (op n:Int) (name:Bs) (kids:List TExpr) (h1:(Lit.int .i64 op).wf=true) (h2:(Lit.int .i64 n).wf=true) (h3:name.length<=maxLen) (h4:kids.length<=maxLen) (h5:∀x,x∈kids->ic x):ic (.mk op n name kids)
end Go.Proofs.YtlgmlcgjmcmmgaaGreatDoor.K
namespace Go.Proofs.YtlgmlcgjmcmmgaaGreatDoor.K
open Go.RT
set_option maxRecDepth 100000
theorem aeZ(G:Nat)(r:TExpr->Int->O Int)(e:TExpr)(d:Int)(hd:d<=32)(hN:kJ (G+20) e.fName=eU (G+20) e.fName):
  xY (G+20) r e d=kK (G+20) r e d:=by
 unfold xY kK;simp only [abJ,acA,aiO,Z4,hN,aH,TExpr.eta];generalize eU (G+20) e.fName=nm;generalize e.fOp=op;generalize e.fN=n;generalize e.fName=name;generalize e.fKids=kids
 have e32:(d==32)=decide (32<=d):=by
  rw [sE,tV,fW];omega
 have en:decide (n<0)=!(decide (0<=n)):=by
  rw [sE,Fp,fW,ajG];omega
 have o1:(op==1&&op==26)=false:=by
  rw [adg,gO,gO];omega
 rw [e32,en];simp only [bne];cases h32:decide (32<=d)<;>simp only [bw,aU];rcases aiN op with⟨h1,h2⟩|⟨h1,h2⟩
 ·rw [h1,h2]
  have e:((kids.length:Int) == -1)=false:=by rw [gO];omega
  rw [e];cases (op==2)<;>cases (op==26)<;>rfl
 ·have e0:((lq op).1==0)=false:=by rw [gO];exact h1
  have ex:∀k:Int->O Int,jj (σ:=Int) (R:=Int) (cond ((lq op).1==0) (some (.inr 1)) ((cond ((lq op).1==1) (some ((lq op).1==1)) (some ((lq op).1==13)):O Bool).bind fun x3=>
    cond x3 (some (.inl 1)) (cond ((lq op).1==2) (some (.inl 3)) (cond ((lq op).1==14) (some (.inl 0)) (some (.inl 2)))))) k=k (oy op):=by
   intro k;rw [e0,<-h2];unfold aj8;generalize (lq op).1=L;cases (L==1)<;>cases (L==13)<;>cases (L==2)<;>cases (L==14)<;>rfl
  rw [ex];generalize (op==1)=b1 at o1⊢;generalize (op==26)=b26 at o1⊢
  cases ((kids.length:Int)==oy op)<;>cases b1<;>cases b26<;>(first|(cases o1;done)|skip)<;>
   cases (op==2)<;>cases (decide (0<=n))<;>cases (n==0)<;>cases (zV n)<;>cases (name==[])<;>rfl
theorem abK(F:Nat)(r r':TExpr->Int->O Int)(e:TExpr)(d:Int)(h:¬ 32<=d->∀x,r x (aB (d+1))=r' x (aB (d+1))):kK F r e d=kK F r' e d:=by
 unfold kK;by_cases hd:32<=d
 ·rw [show decide (32<=d)=true by simpa using hd];rfl
 ·simp only [h hd]
theorem Z7(G:Nat)(hG:13<=G):∀(n:Nat)(e:TExpr)(d:Int),0<=d->d<=32->qc (G+20) n e d=jL (G+20) n e d
 | 0,e,d,_,_=>rfl
 | n+1,e,d,h0,h1=>by
  show xY (G+20) (qc (G+20) n) e d=kK (G+20) (jL (G+20) n) e d;rw [aeZ G _ e d h1 (F3 _ _ om)];refine abK _ _ _ e d fun hd x=>?_;rw [bI om];exact Z7 G hG n x (d+1) om om
end Go.Proofs.YtlgmlcgjmcmmgaaGreatDoor.K
namespace Go.Proofs.YtlgmlcgjmcmmgaaGreatDoor.K
open Go.RT
theorem TExpr.ind{P:TExpr->Prop}(h:∀op n name kids,(∀k,k∈kids->P k)->P (.mk op n name kids))(e:TExpr):P e:=by
 match e with
 | .mk op n name kids=>exact h op n name kids fun k hk=>TExpr.ind h k
termination_by SizeOf.sizeOf e
decreasing_by
 have:=List.sizeOf_lt_of_mem hk;simp only [TExpr.mk.sizeOf_spec];omega
theorem ic.ind{P:TExpr->Prop}(h:∀e,e.fKids.length<=9223372036854775807->(∀k,k∈e.fKids->ic k)->(∀k,k∈e.fKids->P k)->P e):∀e,ic e->P e:=by
 intro e ho
 induction ho with
 | mk op n name kids h1 h2 h3 h4 h5 ih=>exact h (.mk op n name kids) (nG h4 de) h5 ih
mutual
def nodes:TExpr->Nat
 | .mk _ _ _ kids=>lJ kids+1
def lJ:J TExpr->Nat
 | []=>0
 | k::l=>nodes k+lJ l
end
theorem F4(e:TExpr):nodes e=lJ e.fKids+1:=by cases e;rfl
theorem HC:∀ {l:J TExpr}{k:TExpr},k∈l->nodes k<=lJ l
 | x::l,k,h=>by
  rcases ij.1 h with rfl|h
  ·simp only [lJ];omega
  ·have:=HC h;simp only [lJ];omega
inductive Nms:TExpr->Prop
 | mk (op n:Int) (name:Bs) (kids:List TExpr) (h:name.length<=60) (hk:∀k,k∈kids->Nms k):Nms (.mk op n name kids)
def KN(op:Int):Bool:=op==2||op==26
theorem agM{α:Type}{l:J α}{i:Nat}(h:i<l.length):l.take (i+1)=l.take i++[l[i]]:=by
 rw [qA h]
end Go.Proofs.YtlgmlcgjmcmmgaaGreatDoor.K
namespace Go.Proofs.YtlgmlcgjmcmmgaaGreatDoor.K
open Go.RT
set_option maxRecDepth 100000
def BN(op n:Int)(name:Bs)(len:Nat):Bool:=
 ((len:Int) != oy op)||(KN op==(name==[]))||((op==1&&decide (n<0))||(op==26 && !(n==0||zV n))||(op != 1&&(op != 26&&n != 0)))
mutual
def gW:TExpr->Int->Int
 | .mk op n name kids,d=>cond (decide (32<=d)) 5 (cond (BN op n name kids.length) 1 (cond (KN op && !rName name) 10 (CP kids (d+1))))
def CP:J TExpr->Int->Int
 | [],_=>0
 | k::l,d=>cond (gW k d != 0) (gW k d) (CP l d)
end
theorem agN(e:TExpr)(d:Int):gW e d=cond (decide (32<=d)) 5 (cond (BN e.fOp e.fN e.fName e.fKids.length) 1 (cond (KN e.fOp && !rName e.fName) 10 (CP e.fKids (d+1)))):=by
 cases e;rfl
theorem PX{e:TExpr}(ho:ic e):bF fun F n=>∀d,0<=d->d<=32->jL F n e d=some (gW e d):=by
 revert e;apply ic.ind;intro e h4 h5 ih;refine bF.succ ((bF.all ih).kB (bF.ge (e.fKids.length+34) fun F n h _=>h) fun F m ih hF d Wi Wd=>?_);rw [agN];show kK F (jL F m) e d=_;unfold kK;simp only [acA,Z4,xX F _ (by omega:33<=F)];by_cases hd:32<=d
 ·simp_all
 ·rw [bI om]
  rw [qq e.fKids (fun i (_:Unit)=>(i:Int)) (fun _ k=>(jL F m k (d+1)).bind fun x=>cond (x != 0) (some (.inr x)) (some (.inl ()))) (fun _=>some 0) (t:=()) om ?_ ?_ ?_]
  ·have key:∀l:J TExpr,(∀k,k∈l->k∈e.fKids)->pn (fun _ k=>(jL F m k (d+1)).bind fun x=>cond (x != 0) (some (.inr x)) (some (.inl ()))) (fun _=>some 0) l ()=some (CP l (d+1)):=by
    intro l
    induction l with
    | nil=>intro _;rfl
    | cons k l ihl=>
     intro hm;simp [pn,CP];rw [ih k (hm k si) (d+1) om om];simp;cases (gW k (d+1) != 0)
     ·simp_all [aU,aH,sm,pT]
     ·rfl
   unfold BN KN
   grind
  ·rfl
  ·intro i h t rc
   simp only [wz h,AN,gz,ck,gd h,bh (i:=i) om]
   cases jL F m e.fKids[i] (d+1) with
   | none=>rfl
   | some x=>
    simp;cases (x != 0)<;>rfl
  simp_all
theorem WT{e:TExpr}(ho:ic e):bF fun F n=>∀d,0<=d->d<=32->qc F n e d=some (gW e d):=
 (PX ho).kB (bF.ge 33 fun F n h _=>h) fun F n h hF d h0 h1=>by
  obtain⟨G,rfl⟩:∃G,F=G+20:=⟨F-20,om⟩
  simp_all [Z7]
inductive Vd:TExpr->Prop
 | mk (op n:Int) (name:Bs) (kids:List TExpr) (h1:(kids.length:Int)=oy op) (h2:KN op=!(name==[])) (h3:op=1->0<=n) (h4:op=26->n=0\/zV n=true) (h5:op≠1->op≠26->n=0)
   (h6:KN op=true->rName name=true) (h7:∀k,k∈kids->Vd k):Vd (.mk op n name kids)
theorem PY:∀(l:J TExpr)(d:Int),CP l d=0↔∀k,k∈l->gW k d=0
 | [],d=>by simp [CP]
 | k::l,d=>by
  simp [CP];rw [<-PY l d]
  cases h:(gW k d != 0) with
  | true=>
   have:gW k d≠0:=by simpa using h
   simp [this]
  | false=>
   have:gW k d=0:=by simpa using h
   simp [this]
theorem aiP{op n:Int}{name:Bs}{len:Nat}(h:BN op n name len=false):
  (len:Int)=oy op/\KN op=!(name==[])/\(op=1->0<=n)/\(op=26->n=0\/zV n=true)/\(op≠1->op≠26->n=0):=by
 unfold BN at h
 grind
theorem HD(e:TExpr):∀d,gW e d=0->Vd e:=by
 induction e using TExpr.ind with
 | h op n name kids ih=>
  intro d h;simp [gW] at h
  cases h0:decide (32<=d) with
  | true=>rw [h0] at h;simp at h
  | false=>
   rw [h0] at h
   cases h1:BN op n name kids.length with
   | true=>rw [h1] at h;simp at h
   | false=>
    rw [h1] at h
    cases h2:(KN op && !rName name) with
    | true=>rw [h2] at h;simp at h
    | false=>
     rw [h2] at h;simp at h;rw [PY] at h;obtain⟨a,b,c,d',e⟩:=aiP h1;refine .mk op n name kids a b c d' e (fun hn=>?_) fun k hk=>ih k hk _ (h k hk)
     simp_all
def par(b:Bool)(s:Bs):Bs:=cond b (([40]++s)++[41]) s
theorem aiQ{op:Int}{n:Nat}(h:(n:Int)=oy op):1<=op/\op<=26:=by
 by_cases h1:1<=op/\op<=26
 ·exact h1
 ·have e1:(op==1)=false:=by grind
  have e2:(op==2)=false:=by grind
  have e3:(op==25)=false:=by grind
  have e4:(op==26)=false:=by grind
  have k1:(decide (3<=op)&&decide (op<=6))=false:=by
   grind
  have k2:(decide (7<=op)&&decide (op<=24))=false:=by
   grind
  simp only [oy,e1,e2,e3,e4,k1,k2,XE,aU] at h;omega
theorem aiR{op:Int}(h:1<=op/\op<=26):op=1\/op=2\/op=3\/op=4\/op=5\/op=6\/op=7\/op=8\/op=9\/op=10\/op=11\/op=12\/op=13\/op=14\/op=15\/op=16\/op=17\/op=18\/op=19\/op=20\/op=21\/op=22\/op=23\/op=24\/op=25\/op=26:=om
inductive Kind(op:Int):Prop
 | num (h:op=1\/op=2) (hk:oy op=0) (hl:(lq op).1=14)
 | un (h:3<=op/\op<=6) (hk:oy op=1) (hl:(lq op).1=13) (hs:(lq op).2.length=1)
 | bin (h:7<=op/\op<=24) (hk:oy op=2) (hl:3<=(lq op).1/\(lq op).1<=12) (hs:(lq op).2.length<=2)
 | con (h:op=25) (hk:oy op=3) (hl:(lq op).1=2)
 | set (h:op=26) (hk:oy op=1) (hl:(lq op).1=1)
structure Good(e:TExpr):Prop where
 v:Vd e
 o:ic e
 m:Nms e
theorem Good.kid{e:TExpr}(g:Good e):∀k,k∈e.fKids->Good k:=by
 obtain⟨v,o,m⟩:=g
 cases e with
 | mk op n name kids=>
  cases v with
  | mk _ _ _ _ h1 h2 h3 h4 h5 h6 h7=>
   cases o with
   | mk _ _ _ _ a1 a2 a3 a4 a5=>
    cases m with
    | mk _ _ _ _ b1 b2=>exact fun k hk=>⟨h7 k hk,a5 k hk,b2 k hk⟩
theorem Good.ind{P:TExpr->Prop}(h:∀e,Good e->(∀k,k∈e.fKids->P k)->P e):∀e,Good e->P e:=by
 intro e
 induction e using TExpr.ind with
 | h op n name kids ih=>
  intro g;exact h _ g fun k hk=>ih k hk (g.kid k hk)
theorem am5{n:Int}(h:(Lit.int .i64 n).wf=true):-9223372036854775808<=n/\n<=9223372036854775807:=by
 have h1:IntKind.i64.min=-9223372036854775808:=by decide
 have h2:IntKind.i64.max=9223372036854775807:=by decide
 simp [Lit.wf] at h;omega
theorem Good.facts{e:TExpr}(g:Good e):(e.fKids.length:Int)=oy e.fOp/\(e.fOp=1->0<=e.fN)/\e.fN<=9223372036854775807/\e.fName.length<=60/\(e.fOp=26->e.fN=0\/zV e.fN=true):=by
 obtain⟨v,o,m⟩:=g
 cases e with
 | mk op n name kids=>
  cases v with
  | mk _ _ _ _ h1 h2 h3 h4 h5 h6 h7=>
   cases o with
   | mk _ _ _ _ a1 a2 a3 a4 a5=>
    cases m with
    | mk _ _ _ _ b1 b2=>exact⟨h1,h3,(am5 a2).2,b1,h4⟩
theorem Z8{n:Nat}{inst:Decidable (n<=9223372036854775807)}(h:n<=1000000){R:Type}(k:O R):rq (@decide (n<=9223372036854775807) inst) k=k:=cE (dQ om)
theorem Z9{d:Nat}(h:d<10):bX ([IntKind.wrap .u8 (IntKind.wrap .u64 (48+(d:Int)))]:J Int)=[UInt8.ofNat (48+d)]:=by
 have:d=0\/d=1\/d=2\/d=3\/d=4\/d=5\/d=6\/d=7\/d=8\/d=9:=om;rcases this with rfl|rfl|rfl|rfl|rfl|rfl|rfl|rfl|rfl|rfl<;>rfl
theorem IG:∀(k u m:Nat)(out:Bs),u<10^(k+1)->u<18446744073709551616->k<m->out.length+k<=1000->bU (σ:=Int×Bs) (fun bn x1=>
   cond (decide (9<x1.1))
   (rq (decide ((bX ([IntKind.wrap .u8 (IntKind.wrap .u64 (48+(Int.tmod x1.1 10)))]:J Int)).length+x1.2.length<=9223372036854775807)) (bn (IntKind.wrap .u64 (Int.tdiv x1.1 10),(bX ([IntKind.wrap .u8 (IntKind.wrap .u64 (48+(Int.tmod x1.1 10)))]:J Int))++x1.2)))
   (rq (decide ((bX ([IntKind.wrap .u8 (IntKind.wrap .u64 (48+x1.1))]:J Int)).length+x1.2.length<=9223372036854775807)) (some ((bX ([IntKind.wrap .u8 (IntKind.wrap .u64 (48+x1.1))]:J Int))++x1.2)))) m ((u:Int),out)=some (Lib.decDigits u++out)
 | k,u,0,out,_,_,h,_=>by omega
 | k,u,m+1,out,hu,hu',hk,ho=>by
  simp only [bU];by_cases h9:u<10
  ·rw [show decide (9<(u:Int))=false by simp;omega]
   simp;rw [Z9 h9,Z8 bH,Lib.decDigits_one h9]
  ·have e1:Int.tmod (u:Int) 10=((u%10:Nat):Int):=IntWalk.up_tmod rfl rfl
   have e2:Int.tdiv (u:Int) 10=((u / 10:Nat):Int):=IntWalk.up_tdiv rfl rfl;rw [show decide (9<(u:Int))=true by simp;omega];simp only [e1,e2];rw [Z9 (Xq _ de),Z8 bH,oV _ om]
   cases k with
   | zero=>simp at hu;omega
   | succ k=>
    rw [IG k (u / 10) m _ om om om bH];rw [Lib.decDigits.eq_1 u,dif_neg h9];simp
theorem ae0(F:Nat)(hF:30<=F){n:Int}(h0:0<=n)(h1:n<=9223372036854775807):dB F n=some (Lib.itoa n):=by
 obtain⟨u,rfl⟩:∃u:Nat,n=u:=⟨n.toNat,om⟩;unfold dB vc;rw [show decide ((u:Int)<0)=false by simp,oV (u:Int) om];rw [IG 20 u F [] om om om si];unfold Lib.itoa
 simp_all
theorem Jz{e:TExpr}(ho:ic e):bF fun F _=>Ci F e=some (gW e 0):=
 (WT ho).fst.mono fun F _ h=>by
  unfold Ci PZ
  simp_all
end Go.Proofs.YtlgmlcgjmcmmgaaGreatDoor.K
namespace Go.Proofs.YtlgmlcgjmcmmgaaGreatDoor.K
open Go.RT
set_option maxRecDepth 100000
theorem xu{R σ:Type}{body:(σ->O R)->σ->O R}{s:Bs}{p:UInt8->Bool}{fin:Nat->O R}(st:Nat->σ)
  (hs:∀(i:Nat) rc (h:i<s.length),body rc (st i)=cond (p s[i]) (rc (st (i+1))) (fin i)) (he:∀rc,body rc (st s.length)=fin s.length) :
  ∀(k i F:Nat),i+k=s.length->k<F->bU body F (st i)=fin (i+((s.drop i).takeWhile p).length)
 | 0,i,F,h,hF=>by
  cases F with
  | zero=>omega
  | succ F=>
   obtain rfl:i=s.length:=om;rw [Qf]
   exact he _
 | k+1,i,F,h,hF=>by
  cases F with
  | zero=>omega
  | succ F=>
   have hi:i<s.length:=om;show body (bU body F) (st i)=_;rw [hs i _ hi,Mn hi,Ru]
   cases p s[i] with
   | false=>simp
   | true=>
    simp only [bw,if_true,Dd];rw [xu st hs he k (i+1) F om om];congr 1;omega
def bl(b:UInt8):Bool:=(b.toNat:Int)==9||(b.toNat:Int)==10||(b.toNat:Int)==32
def fo(b:UInt8):Bool:=qW (b.toNat:Int)
def dg(b:UInt8):Bool:=fJ (b.toNat:Int)
def le(b:UInt8):Bool:=nw (b.toNat:Int)||(b.toNat:Int)==95
def skip(s:Bs)(i:Nat):Nat:=i+((s.drop i).takeWhile bl).length
def kM(s:Bs)(j:Nat):Bs:=(s.drop j).takeWhile fo
def xZ:J Bs:=[[60,60,61],[62,62,61],[60,60],[62,62],[60,61],[62,61],[61,61],[33,61],[38,38],[124,124],[43,61],[45,61],[42,61],[47,61],[37,61],[38,61],[94,61],[124,61]]
def ae1:J Bs:=[[43],[45],[42],[47],[37],[60],[62],[38],[94],[124],[33],[126],[63],[58],[40],[41],[61]]
def oz:J Bs:=xZ++ae1
def mP(l:Bs):Bs:=(oz.find? fun o=>o.isPrefixOf l).getD []
def Te(s:Bs)(j:Nat):eZ:=
 match s.drop j with
 | []=>⟨0,j,[]⟩
 | b::_=>cond (fo b) ⟨cond (dg b) 1 2,j,kM s j⟩ (cond (mP (s.drop j)==[]) ⟨4,j,[b]⟩ ⟨3,j,mP (s.drop j)⟩)
def sW(s:Bs)(i:Nat):eZ:=Te s (skip s i)
theorem Lu{l p:Bs}:(l.take p.length==p)=p.isPrefixOf l:=by
 rw [sE,tV,XG,List.prefix_iff_eq_take];exact eq_comm
theorem ya{α:Type}(p:α->Bool)(l:J α):(l.takeWhile p).length<=l.length:=(List.takeWhile_sublist _).length_le
theorem gQ(s:Bs)(i:Nat)(h:i<=s.length):skip s i<=s.length/\i<=skip s i:=by
 have:=ya bl (s.drop i);rw [Mm] at this;unfold skip;omega
theorem JA{α:Type}(p:α->Bool):∀l:J α,l.drop (l.takeWhile p).length=l.dropWhile p
 | []=>rfl
 | x::l=>by
  rw [Ru,List.dropWhile_cons]
  cases p x with
  | true=>simpa using JA p l
  | false=>rfl
theorem agO(s:Bs)(i:Nat):s.drop (skip s i)=(s.drop i).dropWhile bl:=by
 unfold skip;rw [<-List.drop_drop,JA]
theorem JB{α:Type}(p:α->Bool):∀(l:J α)(b:α)(m:J α),l.dropWhile p=b::m->p b=false
 | [],b,m,h=>by simp at h
 | x::l,b,m,h=>by
  rw [List.dropWhile_cons] at h
  cases hx:p x with
  | true=>rw [hx] at h;exact JB p l b m (by simpa using h)
  | false=>rw [hx] at h;simp at h;rw [<-h.1];exact hx
theorem ve(s:Bs)(i:Nat):skip s (skip s i)=skip s i:=by
 have:(s.drop (skip s i)).takeWhile bl=[]:=by
  rw [agO]
  cases h:(s.drop i).dropWhile bl with
  | nil=>rfl
  | cons b m=>rw [Ru,JB bl _ b m h];rfl
 rw [skip,this];rfl
theorem aiS(F:Nat)(b:UInt8):Cj F (b.toNat:Int)=some (bl b):=by
 unfold Cj bl;cases ((b.toNat:Int)==9)<;>cases ((b.toNat:Int)==10)<;>rfl
theorem agP(c:Int):qW c=true↔(97<=c/\c<=122)\/(65<=c/\c<=90)\/(48<=c/\c<=57)\/c=95:=by
 unfold qW nw fJ;simp only [Qi,cx,fW,tV];omega
theorem Tf(F:Nat)(b:UInt8):nQ F (b.toNat:Int)=some (fo b):=by
 unfold nQ fo;generalize (b.toNat:Int)=c
 have:qW c=(c==95||(decide (48<=c)&&decide (c<=57))||(decide (65<=c)&&decide (c<=90))||(decide (97<=c)&&decide (c<=122))):=by
  rw [sE,agP];simp only [Qi,cx,fW,tV];omega
 rw [this];cases (c==95)<;>cases decide (48<=c)<;>cases decide (c<=57)<;>cases decide (65<=c)<;>cases decide (c<=90)<;>cases decide (97<=c)<;>cases decide (c<=122)<;>rfl
theorem vf(F:Nat)(b:UInt8):mX F (b.toNat:Int)=some (le b):=by
 unfold mX le nw;generalize (b.toNat:Int)=c;cases (c==95)<;>cases decide (65<=c)<;>cases decide (c<=90)<;>cases decide (97<=c)<;>cases decide (c<=122)<;>rfl
theorem aaa(F:Nat)(b:UInt8):xw F (b.toNat:Int)=some (dg b):=by
 unfold xw dg fJ;cases decide (48<=(b.toNat:Int))<;>rfl
theorem aj9(b:UInt8):fo b=(le b||dg b):=by
 unfold fo qW le dg;cases nw (b.toNat:Int)<;>cases fJ (b.toNat:Int)<;>cases ((b.toNat:Int)==95)<;>rfl
theorem zX(F:Nat)(a p:Bs):cW F a p=some (p.isPrefixOf a):=by
 unfold cW rL;by_cases h:p.length<=a.length
 ·have e1:decide ((p.length:Int)<=(a.length:Int))=true:=dQ om
  simp only [e1,AN,uB,bw,gz,aH];unfold sl;simp only [ck,Int.toNat_zero,T7,Lu]
 ·have e1:decide ((p.length:Int)<=(a.length:Int))=false:=sD om
  simp only [e1,aU,aH];congr 1;apply Eq.symm;apply Qe.2;intro hp;rw [XG] at hp;exact h hp.length_le
theorem sw(F:Nat)(s:Bs)(i:Nat)(e pos:Int)(hi:i<=s.length)(hF:s.length<F)(hl:s.length<=1000000):fK F s (i:Int) e pos=some (s,(skip s i:Int),e,pos):=by
 unfold fK
 exact xu (s:=s) (p:=bl) (fin:=fun j=>some (s,(j:Int),e,pos)) (fun j=>(s,(j:Int),e,pos)) (fun j rc h=>by
  simp only [wz h,AN,uB,bw,gz,ck,gd h,bh (i:=j) om];unfold bl;cases ((s[j].toNat:Int)==9)<;>cases ((s[j].toNat:Int)==10)<;>cases ((s[j].toNat:Int)==32)<;>rfl) (fun rc=>by
  simp only [F0,aU,aH]) (s.length-i) i F om om
theorem Tg{α:Type}(s:J α)(i n:Nat):sl s (i:Int) ((i+n:Nat):Int)=(s.drop i).take n:=by
 unfold sl;rw [ck,ck,List.take_drop]
theorem BO{α:Type}(p:α->Bool):∀l:J α,l.take (l.takeWhile p).length=l.takeWhile p
 | []=>rfl
 | x::l=>by
  rw [Ru]
  cases p x with
  | true=>simpa using BO p l
  | false=>rfl
theorem KO(F:Nat)(s:Bs)(i:Nat)(e pos:Int)(hi:i<=s.length)(hF:s.length<F)(hl:s.length<=1000000):nZ F s (i:Int) e pos=some (kM s i):=by
 unfold nZ;have hw:=ya fo (s.drop i);rw [Mm] at hw
 refine (xu (s:=s) (p:=fo) (fin:=fun (j:Nat)=>rq ((decide (0<=(i:Int)))&&((decide ((i:Int)<=(j:Int)))&&(decide ((j:Int)<=(s.length:Int))))) (some (sl s i j))) (fun j=>(j:Int)) (fun j rc h=>by
  simp only [wz h,AN,uB,bw,gz,ck,gd h,bh (i:=j) om,vf,aaa,aH];rw [aj9];cases le s[j]<;>cases dg s[j]<;>rfl) (fun rc=>by
  simp only [F0,aU,aH]) (s.length-i) i F om om).trans ?_
 rw [cE (by simp only [cx,fW];omega),Tg,BO];rfl
theorem mG(F:Nat)(s:Bs)(i:Nat)(e pos:Int)(hi:i<=s.length)(hF:s.length+50<F)(hl:s.length<=1000000):gJ F s (i:Int) e pos=some (mP (s.drop (skip s i)),s,(skip s i:Int),e,pos):=by
 unfold gJ;obtain⟨h1,h2⟩:=gQ s i hi;rw [sw F s i e pos hi om hl,show zY F=some oz from rfl];simp only [aH];generalize hj:skip s i=j at h1 h2⊢;have mF:∀o,o∈oz->o.length<=3:=by decide
 have hlen:oz.length=35:=rfl;unfold mP;generalize oz=L at mF hlen⊢;rw [qq L (fun k (_:Unit)=>(k:Int)) (fun (_:Unit) o=>cond (o.isPrefixOf (s.drop j)) (some (.inr (o,s,(j:Int),e,pos))) (some (.inl ()))) (fun _=>some ([],s,(j:Int),e,pos)) (t:=()) om ?_ ?_ ?_]
 ·clear mF hlen
  induction L with
  | nil=>rfl
  | cons o l ih=>
   simp only [pn,Mp];cases o.isPrefixOf (s.drop j)
   ·simpa [sm] using ih
   ·rfl
 ·rfl
 ·intro k h t rc
  have h3:=mF _ (ko h);simp only [wz h,AN,uB,bw,gz,ck,gd h,bh (i:=k) om];rw [bI (x:=(s.length:Int)-(j:Int)) om,bI (x:=(j:Int)+(L[k].length:Int)) om];by_cases hle:L[k].length<=s.length-j
  ·rw [show decide ((L[k].length:Int)<=(s.length:Int)-(j:Int))=true from dQ om]
   have hc:(decide ((j:Int)<=(j:Int)+(L[k].length:Int))&&decide ((j:Int)+(L[k].length:Int)<=(s.length:Int)))=true:=by
    simp only [cx,fW];omega
   simp only [hc,uB,bw,gz,aH];rw [show (j:Int)+(L[k].length:Int)=((j+L[k].length:Nat):Int) by omega,Tg,Lu];cases L[k].isPrefixOf (s.drop j)<;>rfl
  ·rw [show decide ((L[k].length:Int)<=(s.length:Int)-(j:Int))=false from sD om]
   have:L[k].isPrefixOf (s.drop j)=false:=by
    apply Qe.2;intro hp;rw [XG] at hp;have:=hp.length_le;rw [Mm] at this;omega
   rw [this];rfl
 ·intro t rc
  simp only [F0,aU]
theorem acC:∀(l:Bs)(c:UInt8),decide (0<=Lib.indexByte l c)=l.contains c
 | [],c=>rfl
 | b::l,c=>by
  have ih:=acC l c;have hge:=Lib.indexByte_ge l c;unfold Lib.indexByte;rw [List.contains_cons];by_cases h:b=c
  ·subst h;simp
  ·have h1:(b==c)=false:=by simpa using h
   have h2:(c==b)=false:=by simpa using fun e:c=b=>h e.symm
   rw [h1,h2];simp only [Bool.false_eq_true,if_false,Bool.false_or];rw [<-ih];by_cases hm:Lib.indexByte l c=-1
   ·simp [hm]
   ·have:(Lib.indexByte l c == -1)=false:=by simpa using hm
    rw [this];simp only [Bool.false_eq_true,if_false];rw [dQ om,dQ om]
def Th:Bs:=[43,45,42,47,37,60,62,38,94,124,33,126,63,58,40,41,61]
def yb:Bs:=[61,63,58,124,94,38,60,62,43,45,42,47,37,33,126,40,41]
theorem P0:∀(l:Bs)(b:UInt8)(m:Bs),((l.map fun x=>[x]).find? fun o=>o.isPrefixOf (b::m))=cond (l.contains b) (some [b]) none
 | [],b,m=>rfl
 | x::l,b,m=>by
  rw [lC,Mp,List.contains_cons];by_cases h:x=b
  ·subst h;simp [List.isPrefixOf]
  ·have h1:(x==b)=false:=by simpa using h
   have h2:(b==x)=false:=by simpa using fun e:b=x=>h e.symm
   have h3:[x].isPrefixOf (b::m)=false:=by simp [List.isPrefixOf,h1]
   rw [h3,h2,P0 l b m];rfl
theorem aiT(b:UInt8):yb.contains b=Th.contains b:=by
 rw [sE,XB,XB];exact⟨fun h=>(by decide:∀x,x∈yb->x∈Th) b h,fun h=>(by decide:∀x,x∈Th->x∈yb) b h⟩
theorem ae2(b:UInt8)(m:Bs):mP (b::m)=match xZ.find? (fun o=>o.isPrefixOf (b::m)) with|some o=>o|none=>cond (yb.contains b) [b] []:=by
 unfold mP oz;rw [List.find?_append,show ae1=Th.map fun x=>[x] from rfl,P0,<-aiT]
 cases xZ.find? (fun o=>o.isPrefixOf (b::m)) with
 | some o=>rfl
 | none=>cases yb.contains b<;>rfl
theorem BP:∀o,o∈oz->o≠[]:=by decide
theorem NI(l:Bs):mP l=[]\/mP l∈oz/\mP l <+: l:=by
 unfold mP
 cases h:oz.find? (fun o=>o.isPrefixOf l) with
 | none=>exact .inl rfl
 | some o=>
  right;have h1:=XD h;have h2:=adb h;exact⟨h1,XG.1 h2⟩
theorem UY(F:Nat)(s:Bs)(i:Nat)(hi:i<=s.length)(hF:s.length+50<F)(hl:s.length<=1000000):sX F s (i:Int)=some (sW s i):=by
 unfold sX;refine (xu (s:=s) (p:=bl) (fin:=fun j=>
  (cond ((j:Int)==(s.length:Int))
  (some (eZ.mk 0 (j:Int) []))
  (rq ((decide (0<=(j:Int)))&&(decide ((j:Int)<(s.length:Int)))) ((nQ F ((s.getD (Int.toNat (j:Int)) 0).toNat:Int)).bind fun x5=>
  cond x5
  (bU (σ:=Int) (R:=eZ) (fun wk x6=>
  (cond (decide (x6<(s.length:Int)))
  (rq ((decide (0<=x6))&&(decide (x6<(s.length:Int)))) ((nQ F ((s.getD (Int.toNat x6) 0).toNat:Int)).bind fun x9=>
  some x9))
  (some false):Option Bool).bind fun x8=>
  cond x8
  (wk (aB (x6+1)))
  ((rq ((decide (0<=(j:Int)))&&(decide ((j:Int)<(s.length:Int)))) (cond (decide (48<=((s.getD (Int.toNat (j:Int)) 0).toNat:Int)))
  (rq ((decide (0<=(j:Int)))&&(decide ((j:Int)<(s.length:Int)))) (some (decide (((s.getD (Int.toNat (j:Int)) 0).toNat:Int)<=57))))
  (some false)):Option Bool).bind fun bW=>
  cond bW
  (rq ((decide (0<=(j:Int)))&&((decide ((j:Int)<=x6))&&(decide (x6<=(s.length:Int))))) (some (eZ.mk 1 (j:Int) (sl s (j:Int) x6))))
  (rq ((decide (0<=(j:Int)))&&((decide ((j:Int)<=x6))&&(decide (x6<=(s.length:Int))))) (some (eZ.mk 2 (j:Int) (sl s (j:Int) x6)))))) F (aB ((j:Int)+1)))
  (bU (σ:=Int) (R:=eZ) (fun aiU fB=>
  cond (decide (fB<(xZ.length:Int)))
  (rq ((decide (0<=fB))&&(decide (fB<(xZ.length:Int)))) (rq ((decide (0<=(j:Int)))&&((decide ((j:Int)<=(s.length:Int)))&&(decide ((s.length:Int)<=(s.length:Int))))) ((cW F (sl s (j:Int) (s.length:Int)) (xZ.getD (Int.toNat fB) [])).bind fun fF=>
  cond fF
  (some (eZ.mk 3 (j:Int) (xZ.getD (Int.toNat fB) [])))
  (aiU (aB (fB+1))))))
  (rq ((decide (0<=(j:Int)))&&(decide ((j:Int)<(s.length:Int)))) ((strings_IndexByte F ([61,63,58,124,94,38,60,62,43,45,42,47,37,33,126,40,41]:Bs) ((s.getD (Int.toNat (j:Int)) 0).toNat:Int)).bind fun um=>
  cond (decide (0<=um))
  (rq ((decide (0<=(j:Int)))&&((decide ((j:Int)<=aB ((j:Int)+1)))&&(decide (aB ((j:Int)+1)<=(s.length:Int))))) (some (eZ.mk 3 (j:Int) (sl s (j:Int) (aB ((j:Int)+1))))))
  (rq ((decide (0<=(j:Int)))&&((decide ((j:Int)<=aB ((j:Int)+1)))&&(decide (aB ((j:Int)+1)<=(s.length:Int))))) (some (eZ.mk 4 (j:Int) (sl s (j:Int) (aB ((j:Int)+1))))))))) F 0))))) (fun j=>(j:Int)) (fun j rc h=>by
  simp only [wz h,AN,uB,bw,gz,ck,gd h,bh (i:=j) om,aiS,aH];rfl) (fun rc=>by
  simp only [F0,aU,aH];rfl) (s.length-i) i F om om).trans ?_
 obtain⟨h1,h2⟩:=gQ s i hi;show _=some (Te s (skip s i));rw [show i+((s.drop i).takeWhile bl).length=skip s i from rfl];generalize skip s i=j at h1 h2⊢;unfold Te;by_cases hj:j=s.length
 ·subst hj
  rw [Qf];simp only [Fq,bw]
 ·have hj':j<s.length:=om
  have e0:((j:Int)==(s.length:Int))=false:=by rw [gO];omega
  simp only [e0,aU,wz hj',AN,uB,gz,ck,gd hj',Tf,aH,bh (i:=j) om];have hd:=Mn hj';rw [hd];simp only []
  cases hfo:fo s[j] with
  | true=>
   simp only [bw];have hw:=ya fo (s.drop (j+1));rw [Mm] at hw
   refine (xu (s:=s) (p:=fo) (fin:=fun (k:Nat)=>cond (dg s[j]) (rq ((decide ((j:Int)<=(k:Int)))&&(decide ((k:Int)<=(s.length:Int)))) (some (eZ.mk 1 (j:Int) (sl s j k)))) (rq ((decide ((j:Int)<=(k:Int)))&&(decide ((k:Int)<=(s.length:Int)))) (some (eZ.mk 2 (j:Int) (sl s j k))))) (fun k=>(k:Int)) (fun k rc h=>by
    simp only [wz h,AN,uB,bw,gz,ck,gd h,bh (i:=k) om,Tf,aH,Qg];unfold dg fJ;cases fo s[k]<;>cases decide (48<=(s[j].toNat:Int))<;>cases decide ((s[j].toNat:Int)<=57)<;>rfl) (fun rc=>by
    simp only [F0,aU,aH,Qg];unfold dg fJ;cases decide (48<=(s[j].toNat:Int))<;>cases decide ((s[j].toNat:Int)<=57)<;>rfl) (s.length-(j+1)) (j+1) F om om).trans ?_
   have hlen:((s.drop j).takeWhile fo).length=1+((s.drop (j+1)).takeWhile fo).length:=by
    rw [hd,Ru,hfo];simp;omega
   have hc:(decide ((j:Int)<=((j+1+((s.drop (j+1)).takeWhile fo).length:Nat):Int))&&decide (((j+1+((s.drop (j+1)).takeWhile fo).length:Nat):Int)<=(s.length:Int)))=true:=by
    simp only [cx,fW];omega
   have Pt:sl s (j:Int) ((j+1+((s.drop (j+1)).takeWhile fo).length:Nat):Int)=kM s j:=by
    rw [show j+1+((s.drop (j+1)).takeWhile fo).length=j+((s.drop j).takeWhile fo).length by omega,Tg,BO];rfl
   rw [hc,Pt]
   cases dg s[j]<;>rfl
  | false=>
   simp only [aU];have mF:∀o,o∈xZ->o.length<=3:=by decide
   have hlen:xZ.length=18:=rfl;rw [<-hd,hd,ae2];have hne:∀o,o∈xZ->o≠[]:=by decide
   generalize xZ=L at mF hlen hne⊢;have h1:aB ((j:Int)+1)=((j+1:Nat):Int):=bh om;have hs1:sl s (j:Int) ((j+1:Nat):Int)=[s[j]]:=by rw [Tg,hd];rfl
   have Pt:sl s (j:Int) (s.length:Int)=s.drop j:=by
    unfold sl;rw [ck,ck,Bb]
   have hc:(decide ((j:Int)<=((j+1:Nat):Int))&&decide (((j+1:Nat):Int)<=(s.length:Int)))=true:=by
    simp only [cx,fW];omega
   have Jk:(decide ((j:Int)<=(s.length:Int))&&decide ((s.length:Int)<=(s.length:Int)))=true:=by
    simp only [cx,fW];omega
   rw [qq L (fun k (_:Unit)=>(k:Int)) (fun (_:Unit) o=>cond (o.isPrefixOf (s.drop j)) (some (.inr (eZ.mk 3 (j:Int) o))) (some (.inl ()))) (fun _=>cond (yb.contains s[j]) (some (eZ.mk 3 (j:Int) [s[j]])) (some (eZ.mk 4 (j:Int) [s[j]]))) (t:=()) om ?_ ?_ ?_]
   ·have key:∀l:J Bs,pn (fun (_:Unit)(o:Bs)=>cond (o.isPrefixOf (s.drop j)) (some (.inr (eZ.mk 3 (j:Int) o))) (some (.inl ()))) (fun _=>cond (yb.contains s[j]) (some (eZ.mk 3 (j:Int) [s[j]])) (some (eZ.mk 4 (j:Int) [s[j]]))) l ()=match l.find? (fun o=>o.isPrefixOf (s.drop j)) with|some o=>some (eZ.mk 3 (j:Int) o)|none=>cond (yb.contains s[j]) (some (eZ.mk 3 (j:Int) [s[j]])) (some (eZ.mk 4 (j:Int) [s[j]])):=by
     intro l
     induction l with
     | nil=>rfl
     | cons o l ih=>
      simp only [pn,Mp];cases o.isPrefixOf (s.drop j)
      ·simpa [sm] using ih
      ·rfl
    rw [key,<-hd]
    cases hf:L.find? (fun o=>o.isPrefixOf (s.drop j)) with
    | some o=>
     have h1:=hne o (XD hf);have:(o==[])=false:=by simpa using h1
     simp only [this,aU]
    | none=>cases yb.contains s[j]<;>rfl
   ·rfl
   ·intro k h t rc
    simp only [wz h,AN,uB,bw,gz,ck,gd h,bh (i:=k) om,Jk,Pt,zX,aH];cases L[k].isPrefixOf (s.drop j)<;>rfl
   ·intro t rc
    have hix:strings_IndexByte F yb (s[j].toNat:Int)=some (Lib.indexByte yb s[j]):=by
     unfold strings_IndexByte stringslite_IndexByte G8 ibF;simp
    simp only [F0,aU];show (strings_IndexByte F yb (s[j].toNat:Int)).bind _=_;rw [hix];simp only [aH,acC,hc,hs1,gz,Qg]
end Go.Proofs.YtlgmlcgjmcmmgaaGreatDoor.K
namespace Go.Proofs.YtlgmlcgjmcmmgaaGreatDoor.K
open Go.RT
set_option maxRecDepth 100000
theorem NJ{R σ α:Type}{body:(σ->O R)->σ->O R}{l:J α}{p:α->Bool}{z:O R}(st:Nat->σ)(hs:∀(i:Nat) rc (h:i<l.length),body rc (st i)=cond (p l[i]) (rc (st (i+1))) z):
  ∀(k i F:Nat),i+k=l.length->k<F->(l.drop i).all p=false->bU body F (st i)=z
 | 0,i,F,h,hF,hb=>by
  simp_all
 | k+1,i,F,h,hF,hb=>by
  cases F with
  | zero=>omega
  | succ F=>
   have hi:i<l.length:=om;show body (bU body F) (st i)=z;rw [hs i _ hi];rw [Mn hi,Rt] at hb
   cases hp:p l[i] with
   | false=>rfl
   | true=>
    rw [hp] at hb;exact NJ st hs k (i+1) F om om hb
def aoA:Bs:=[48,49,50,51,52,53,54,55,56,57,97,98,99,100,101,102]
def dR(b:UInt8):Int:=cond (dg b) ((b.toNat:Int)-48) (cond (decide (97<=(b.toNat:Int))&&decide ((b.toNat:Int)<=102)) ((b.toNat:Int)-87) (cond (decide (65<=(b.toNat:Int))&&decide ((b.toNat:Int)<=70)) ((b.toNat:Int)-55) (-1)))
def dA(b:UInt8):Int:=Lib.indexByte aoA (PF .u8 (b.toNat:Int) (cond (decide (65<=(b.toNat:Int))&&decide ((b.toNat:Int)<=90)) 32 0)).toNat.toUInt8
theorem am6:∀n:Fin 256,dA (UInt8.ofNat n.val)=dR (UInt8.ofNat n.val):=by decide +kernel
theorem QU{P:UInt8->Prop}(h:∀n:Fin 256,P (UInt8.ofNat n.val))(b:UInt8):P b:=by
 have:=h ⟨b.toNat,b.toNat_lt⟩;simpa using this
theorem aoB(b:UInt8):dA b=dR b:=QU (P:=fun b=>dA b=dR b) am6 b
def okD(base:Int)(l:Bs):Bool:=l.all fun b=>decide (0<=dR b)&&decide (dR b<base)
def qH(base v:Nat)(l:Bs):Nat:=l.foldl (fun v b=>v*base+(dR b).toNat) v
theorem UZ(base:Nat)(hb:1<=base):∀(l:Bs)(v:Nat),v<=qH base v l
 | [],v=>ef _
 | b::l,v=>by
  have h1:=UZ base hb l (v*base+(dR b).toNat);have h2:=adh v hb;show v<=qH base (v*base+(dR b).toNat) l;omega
def pq(base v:Nat)(l:Bs):Int×Int:=cond (okD (base:Int) l) (cond (decide (qH base v l<=9223372036854775807)) ((qH base v l:Int),0) (0,14)) (0,6)
def qm(s:Bs):Nat×Bs:=
 cond ((([48,120]:Bs).isPrefixOf s)||(([48,88]:Bs).isPrefixOf s)) (16,s.drop 2) (cond (((s.getD 0 0).toNat:Int)==48) (8,s) (10,s))
def nS(s:Bs):Int×Int:=cond ((qm s).2==[]) (0,6) (pq (qm s).1 0 (qm s).2)
theorem div_lt{n d base most:Int}(hb:1<=base)(hd:0<=d)(hdm:d<=most):(most-d) / base<n↔most<n*base+d:=by
 grind [Int.ediv_lt_iff_lt_mul]
theorem HE(base:Nat)(hb:1<=base/\base<=16):∀(l:Bs)(n:Int)(F5:Bool)(v:Nat),(F5=false->n=(v:Int)/\v<=9223372036854775807)->(F5=true->9223372036854775807<v) ->
  pn (fun t (b:UInt8)=>cond (decide (dR b<0)||decide ((base:Int)<=dR b)) (some (.inr ((0,6):Int×Int))) (cond (t.2||decide (aB (Int.tdiv (aB (9223372036854775807-dR b)) (base:Int))<t.1)) (some (.inl (t.1,true))) (some (.inl (aB (aB (t.1*(base:Int))+dR b),t.2)))))
   (fun t=>cond t.2 (some (0,14)) (some (t.1,0))) l (n,F5)=some (pq base v l)
 | [],n,F5,v,h1,h2=>by
  cases F5 with
  | false=>
   obtain⟨rfl,h⟩:=h1 rfl
   simp [pn,pq,okD,qH,h]
  | true=>
   have h3:¬ v<=9223372036854775807:=by have:=h2 rfl;omega
   simp [pn,pq,okD,qH,h3]
 | b::l,n,F5,v,h1,h2=>by
  simp [pn];by_cases hbad:dR b<0\/(base:Int)<=dR b
  ·have e1:(decide (dR b<0)||decide ((base:Int)<=dR b))=true:=by simpa using hbad
   have e2:okD (base:Int) (b::l)=false:=by
    unfold okD
    grind
   rw [e1];simp [pq,e2,sm]
  ·have e1:(decide (dR b<0)||decide ((base:Int)<=dR b))=false:=by
    simp_all
   have e2:okD (base:Int) (b::l)=okD (base:Int) l:=by
    unfold okD
    simp_all
   have e3:pq base v (b::l)=pq base (v*base+(dR b).toNat) l:=by
    unfold pq;rw [e2];rfl
   rw [e1,e3]
   have hm:((v*base+(dR b).toNat:Nat):Int)=(v:Int)*(base:Int)+dR b:=by
    grind
   have hvb:=adh v hb.1
   cases F5 with
   | true=>
    have:=h2 rfl
    exact HE base hb l n true _ (fun h=>by cases h) fun _=>by omega
   | false=>
    obtain⟨rfl,hv⟩:=h1 rfl;rw [bI (x:=9223372036854775807-dR b) om,show aB (Int.tdiv (9223372036854775807-dR b) (base:Int))=(9223372036854775807-dR b) / (base:Int) from IntWalk.i64_quo _ _ om];by_cases hx:(9223372036854775807-dR b) / (base:Int)<(v:Int)
    ·rw [dQ hx]
     rw [div_lt om om om] at hx;exact HE base hb l v true _ (fun h=>by cases h) fun _=>by omega
    ·rw [sD hx]
     rw [div_lt om om om] at hx;rw [bI (x:=(v:Int)*(base:Int)) om,bI om];exact HE base hb l _ false _ (fun _=>⟨hm.symm,om⟩) fun h=>by cases h
theorem aiV(F:Nat)(c:Int):Ck F c=some (cond (decide (65<=c)&&decide (c<=90)) 32 0):=by
 unfold Ck;grind
theorem aab(s:Bs):(1<=(qm s).1/\(qm s).1<=16)/\(qm s).2.length<=s.length:=by
 unfold qm
 grind
theorem aiW(F:Nat)(s:Bs)(h0:s≠[])(hF:s.length<F)(hl:s.length<=1000000):xy F s=some (nS s):=by
 obtain⟨hb,hlen⟩:=aab s;have hpos:=yZ.2 h0
 have e1:((cW F s ([48,120]:Bs)).bind fun x3=>cond x3 (some true) ((cW F s ([48,88]:Bs)).bind fun x4=>some x4):O Bool)=some (([48,120]:Bs).isPrefixOf s||([48,88]:Bs).isPrefixOf s):=by
  grind [zX]
 have AL:(cond (([48,120]:Bs).isPrefixOf s||([48,88]:Bs).isPrefixOf s)
   (rq ((decide (2<=(s.length:Int)))&&(decide ((s.length:Int)<=(s.length:Int)))) (some ((16:Int),sl s 2 (s.length:Int))))
   (rq (decide (0<(s.length:Int))) (cond (((s.getD 0 0).toNat:Int)==48) (some (8,s)) (some (10,s)))):O (Int×Bs))=some (((qm s).1:Int),(qm s).2):=by
  unfold qm
  cases hp:(([48,120]:Bs).isPrefixOf s||([48,88]:Bs).isPrefixOf s) with
  | true=>
   rw [cE (by grind)];unfold sl
   simp
  | false=>
   simp;rw [cE (by simp_all)]
   grind
 unfold xy;rw [e1];simp only [aH];rw [AL];simp only [aH];unfold nS;generalize (qm s).2=l at hlen⊢;generalize (qm s).1=base at hb⊢
 cases (l==[]) with
 | true=>rfl
 | false=>
  rw [qq l (fun i (t:Int×Bool)=>(t.1,t.2,(i:Int))) (fun t (b:UInt8)=>cond (decide (dR b<0)||decide ((base:Int)<=dR b)) (some (.inr ((0,6):Int×Int))) (cond (t.2||decide (aB (Int.tdiv (aB (9223372036854775807-dR b)) (base:Int))<t.1)) (some (.inl (t.1,true))) (some (.inl (aB (aB (t.1*(base:Int))+dR b),t.2)))))
    (fun t=>cond t.2 (some (0,14)) (some (t.1,0))) (t:=(0,false)) om ?_ ?_ ?_]
  ·grind [HE]
  ·rfl
  ·intro i h t rc
   simp only [wz h,AN,uB,bw,gz,ck,gd h,bh (i:=i) om,aiV,aH]
   have hix:strings_IndexByte F ([48,49,50,51,52,53,54,55,56,57,97,98,99,100,101,102]:Bs) (PF .u8 (l[i].toNat:Int) (cond (decide (65<=(l[i].toNat:Int))&&decide ((l[i].toNat:Int)<=90)) 32 0))=some (dR l[i]):=by
    rw [<-aoB];rfl
   rw [hix];have hz:(!((base:Int)==0))=true:=by simp;omega
   simp only [aH,hz,gz];cases decide (dR l[i]<0)<;>cases decide ((base:Int)<=dR l[i])<;>cases t.2<;>simp
   all_goals first|rfl|(cases decide (aB (Int.tdiv (aB (9223372036854775807-dR l[i])) (base:Int))<t.1)<;>rfl)
  simp_all
theorem tP(F:Nat)(b:UInt8)(base:Int):xA F (b.toNat:Int) base=some (cond (decide (base<=dR b)) (-1) (dR b)):=by
 have hb:=b.toNat_lt;unfold xA;rw [aaa];simp only [aH];unfold dR
 cases hd:dg b with
 | true=>
  unfold dg fJ at hd;simp only [cx,fW] at hd;simp only [bw,aH];rw [Ub _ om,bI om]
  grind
 | false=>
  simp only [aU];by_cases h3:97<=(b.toNat:Int)/\(b.toNat:Int)<=102
  ·rw [dQ h3.1,dQ h3.2,Ub _ om,bI (x:=(b.toNat:Int)-97) om,bI (x:=(b.toNat:Int)-97+10) om]
   grind
  ·have e3:(decide (97<=(b.toNat:Int))&&decide ((b.toNat:Int)<=102))=false:=by
    simp_all
   have e3':(cond (decide (97<=(b.toNat:Int))) (some (decide ((b.toNat:Int)<=102))) (some false):O Bool)=some false:=by
    grind
   rw [e3',e3];simp only [aH,aU];by_cases h4:65<=(b.toNat:Int)/\(b.toNat:Int)<=70
   ·rw [dQ h4.1,dQ h4.2,Ub _ om,bI (x:=(b.toNat:Int)-65) om,bI (x:=(b.toNat:Int)-65+10) om]
    grind
   grind
theorem ae3{base:Int}(hb:1<=base)(b:UInt8):decide (cond (decide (base<=dR b)) (-1) (dR b)<0)=!(decide (0<=dR b)&&decide (dR b<base)):=by
 grind
theorem Wo(base:Nat)(hb:1<=base/\base<=16):∀(l:Bs)(v:Nat),okD (base:Int) l=true->v<=9223372036854775808 ->
  ∃n e,pn (fun t (b:UInt8)=>cond (decide (IntKind.wrap .u64 (Int.tdiv (IntKind.wrap .u64 (9223372036854775808-(IntKind.wrap .u64 (dR b)))) (base:Int))<t)) (some (.inr ((0,14):Int×Int))) (some (.inl (IntKind.wrap .u64 ((IntKind.wrap .u64 (t*(base:Int)))+(IntKind.wrap .u64 (dR b)))))))
   (fun t=>some (t,0)) l (v:Int)=some (n,e)/\(cond (e==0&&decide (9223372036854775807<n)) 14 e=(pq base v l).2)/\((pq base v l).2=0->n=(pq base v l).1)
 | [],v,_,hv=>by
  refine⟨v,0,rfl,?_⟩;by_cases h:v<=9223372036854775807
  ·have:¬ 9223372036854775807<(v:Int):=om
   simp [pq,okD,qH,h,this]
  ·have:9223372036854775807<(v:Int):=om
   simp [pq,okD,qH,h,this]
 | b::l,v,ho,hv=>by
  have ho':(0<=dR b/\dR b<base)/\okD (base:Int) l=true:=by
   unfold okD at ho⊢
   simp_all
  obtain⟨⟨h0,h1⟩,h2⟩:=ho'
  have hm:((v*base+(dR b).toNat:Nat):Int)=(v:Int)*(base:Int)+dR b:=by
   grind
  have e3:pq base v (b::l)=pq base (v*base+(dR b).toNat) l:=by
   unfold pq;rw [ho,h2];rfl
  simp [pn];rw [oV (dR b) om,oV (9223372036854775808-dR b) om,adi _ _ om];by_cases hx:(9223372036854775808-dR b) / (base:Int)<(v:Int)
  ·refine⟨0,14,?_,?_⟩
   ·rw [dQ hx];rfl
   ·rw [div_lt om om om] at hx
    have hge:=UZ base hb.1 l (v*base+(dR b).toNat);have:¬ qH base (v*base+(dR b).toNat) l<=9223372036854775807:=om;rw [e3];simp [pq,h2,this]
  ·have hx':=hx
   rw [div_lt om om om] at hx';rw [sD hx,oV ((v:Int)*(base:Int)) om,oV ((v:Int)*(base:Int)+dR b) om,e3,<-hm];exact Wo base hb l _ h2 om
def jE(s:Bs):Nat×Bs:=
 cond (decide (2<(s.length:Int))&&((((s.getD 0 0).toNat:Int)==48)&&((((s.getD 1 0).toNat:Int)==120)||(((s.getD 1 0).toNat:Int)==88)))) (16,s.drop 2) (cond (decide (1<(s.length:Int))&&(((s.getD 0 0).toNat:Int)==48)) (8,s.drop 1) (10,s))
theorem agQ(base:Nat)(h:1<=base)(t:Bs):pq base 0 (48::t)=pq base 0 t:=by
 have e1:okD (base:Int) (48::t)=okD (base:Int) t:=by
  unfold okD;rw [Rt,show dR 48=0 from rfl,dQ om,dQ om];rfl
 have e2:qH base 0 (48::t)=qH base 0 t:=by
  unfold qH;rw [Dc,show dR 48=0 from rfl];simp
 unfold pq;rw [e1,e2]
theorem ofNat_eq{b:UInt8}{n:Nat}(hn:n<256)(h:((b.toNat:Int)==(n:Int))=true):b=UInt8.ofNat n:=by
 have:b.toNat=n:=by
  grind
 rw [<-this];simp
theorem agR(s:Bs)(h0:s≠[]):nS s=cond ((jE s).2==[]) (0,6) (pq (jE s).1 0 (jE s).2):=by
 match s,h0 with
 | [a],_=>
  unfold nS qm jE;have p1:([48,120]:Bs).isPrefixOf [a]=false:=by simp [List.isPrefixOf]
  have p2:([48,88]:Bs).isPrefixOf [a]=false:=by simp [List.isPrefixOf]
  rw [p1,p2]
  cases ha:((([a].getD 0 0).toNat:Int)==48) with
  | false=>rfl
  | true=>
   obtain rfl:=ofNat_eq de ha
   rfl
 | a::b::t,_=>
  unfold nS qm jE;simp
  have p1:([48,120]:Bs).isPrefixOf (a::b::t)=(((a.toNat:Int)==48)&&((b.toNat:Int)==120)):=by
   rw [sE];simp;constructor
   ·rintro⟨rfl,rfl⟩;exact⟨rfl,rfl⟩
   ·rintro⟨h1,h2⟩
    exact⟨(ofNat_eq de (by simpa using h1)).symm,(ofNat_eq de (by simpa using h2)).symm⟩
  have p2:([48,88]:Bs).isPrefixOf (a::b::t)=(((a.toNat:Int)==48)&&((b.toNat:Int)==88)):=by
   rw [sE];simp;constructor
   ·rintro⟨rfl,rfl⟩;exact⟨rfl,rfl⟩
   ·rintro⟨h1,h2⟩
    exact⟨(ofNat_eq de (by simpa using h1)).symm,(ofNat_eq de (by simpa using h2)).symm⟩
  rw [p1,p2];have hl1:decide (1<((a::b::t).length:Int))=true:=by simp;omega
  cases ha:((a.toNat:Int)==48) with
  | false=>simp
  | true=>
   obtain rfl:=ofNat_eq de ha;simp
   cases hx:(((b.toNat:Int)==120)||((b.toNat:Int)==88)) with
   | false=>
    simp_all [Rr,aU,agQ]
   | true=>
    cases t with
    | nil=>
     simp only [Qi] at hx;rcases hx with hx|hx
     ·obtain rfl:=ofNat_eq de hx;rfl
     ·obtain rfl:=ofNat_eq de hx;rfl
    | cons c t=>
     grind
theorem aac(F:Nat)(s:Bs)(h0:s≠[])(hF:s.length<F)(hl:s.length<=1000000):
  ∃n e,kY F s=some (n,e)/\(cond (e==0&&decide (9223372036854775807<n)) 14 e=(nS s).2)/\((nS s).2=0->n=(nS s).1):=by
 have hpos:0<s.length:=yZ.2 h0
 have hb:(1<=(jE s).1/\(jE s).1<=16)/\(jE s).2.length<=s.length:=by
  unfold jE
  grind
 rw [agR s h0];unfold kY
 have Sv:((cond (decide (2<(s.length:Int)))
   (rq (decide (0<(s.length:Int))) (some (((s.getD 0 0).toNat:Int)==48)))
   (some false):O Bool).bind fun x2=>
   (cond x2
   (rq (decide (1<(s.length:Int))) (cond (((s.getD 1 0).toNat:Int)==120)
   (some true)
   (rq (decide (1<(s.length:Int))) (some (((s.getD 1 0).toNat:Int)==88)))))
   (some false):O Bool).bind fun x3=>
   cond x3
   (rq ((decide (2<=(s.length:Int)))&&(decide ((s.length:Int)<=(s.length:Int)))) (some (sl s 2 (s.length:Int),(16:Int))))
   ((cond (decide (1<(s.length:Int)))
   (rq (decide (0<(s.length:Int))) (some (((s.getD 0 0).toNat:Int)==48)))
   (some false):O Bool).bind fun x4=>
   cond x4
   (rq ((decide (1<=(s.length:Int)))&&(decide ((s.length:Int)<=(s.length:Int)))) (some (sl s 1 (s.length:Int),8)))
   (some (s,10))):O (Bs×Int))=some ((jE s).2,((jE s).1:Int)):=by
  have s2:sl s 2 (s.length:Int)=s.drop 2:=by unfold sl;simp
  have s1:sl s 1 (s.length:Int)=s.drop 1:=by unfold sl;simp
  rw [show decide (0<(s.length:Int))=true from dQ om,show decide (1<=(s.length:Int))=true from dQ om,show decide ((s.length:Int)<=(s.length:Int))=true from dQ om,s1,s2];unfold jE;by_cases h2:2<(s.length:Int)
  ·rw [dQ h2,show decide (1<(s.length:Int))=true from dQ om,show decide (2<=(s.length:Int))=true from dQ om]
   cases (((s.getD 0 0).toNat:Int)==48)<;>cases (((s.getD 1 0).toNat:Int)==120)<;>cases (((s.getD 1 0).toNat:Int)==88)<;>rfl
  ·rw [sD h2]
   cases decide (1<(s.length:Int))<;>cases (((s.getD 0 0).toNat:Int)==48)<;>rfl
 rw [Sv];simp only [aH];obtain⟨hb,hlen⟩:=hb;generalize (jE s).2=l at hlen⊢;generalize (jE s).1=base at hb⊢
 cases (l==[]) with
 | true=>grind
 | false=>
  simp only [aU]
  cases hok:okD (base:Int) l with
  | false=>
   refine⟨0,6,?_,?_⟩
   ·refine NJ (l:=l) (p:=fun b=>decide (0<=dR b)&&decide (dR b<(base:Int))) (fun i=>(i:Int)) (fun i rc h=>?_) l.length 0 F om om (by rw [T7];exact hok)
    simp only [wz h,AN,uB,bw,gz,ck,gd h,bh (i:=i) om,tP,aH,ae3 (base:=(base:Int)) om]
    grind
   ·unfold pq
    simp_all
  | true=>
   obtain⟨n,e,h1,h2⟩:=Wo base hb l 0 hok om;refine⟨n,e,?_,h2⟩;refine NF (fun i=>(i:Int)) l.length om rfl ?_ ?_
   ·intro i rc h
    have hi:(decide (0<=dR l[i])&&decide (dR l[i]<(base:Int)))=true:=by
     unfold okD at hok
     simp_all
    simp only [wz h,AN,uB,bw,gz,ck,gd h,bh (i:=i) om,tP,aH,ae3 (base:=(base:Int)) om,hi];rfl
   ·intro rc
    simp only [F0,aU];rw [<-h1];refine qq l (fun i (t:Int)=>(t,(i:Int))) _ _ om rfl ?_ ?_
    ·intro i h t rc
     have hi:(decide (0<=dR l[i])&&decide (dR l[i]<(base:Int)))=true:=by
      unfold okD at hok
      simp_all
     have hw:IntKind.wrap .u64 (base:Int)=(base:Int):=oV (base:Int) om;have hz:(!((base:Int)==0))=true:=by simp;omega
     have hv:cond (decide ((base:Int)<=dR l[i])) (-1) (dR l[i])=dR l[i]:=by
      grind
     simp only [wz h,AN,uB,bw,gz,ck,gd h,bh (i:=i) om,tP,aH,hw,hz,hv];generalize decide (IntKind.wrap .u64 (Int.tdiv (IntKind.wrap .u64 (9223372036854775808-(IntKind.wrap .u64 (dR l[i])))) (base:Int))<t)=c;cases c<;>rfl
    simp_all
end Go.Proofs.YtlgmlcgjmcmmgaaGreatDoor.K
namespace Go.Proofs.YtlgmlcgjmcmmgaaGreatDoor.K
open Go.RT
set_option maxRecDepth 100000
def pY(base v:Nat)(l:Bs):Int×Int:=cond (okD (base:Int) l) (cond (decide (qH base v l<=9223372036854775808)) ((qH base v l:Int),0) (0,14)) (0,6)
def qX(s:Bs):Nat×Bs:=
 cond ((([48,120]:Bs).isPrefixOf s)||(([48,88]:Bs).isPrefixOf s)) (16,s.drop 2) (cond (([48]:Bs).isPrefixOf s) (8,s) (10,s))
def nT(s:Bs):Int×Int:=cond ((qX s).2==[]) (0,6) (pY (qX s).1 0 (qX s).2)
def dC(b:UInt8):Int:=cond (decide (0<=dR b)) (dR b) 16
theorem agS(F:Nat)(b:UInt8):Ew F (b.toNat:Int)=some (dC b):=by
 unfold Ew dC dR dg fJ;by_cases h1:48<=(b.toNat:Int)/\(b.toNat:Int)<=57
 ·rw [dQ h1.2,Ub ((b.toNat:Int)-48) om,oV ((b.toNat:Int)-48) om]
  simp_all
 ·have e1:(decide (48<=(b.toNat:Int))&&decide ((b.toNat:Int)<=57))=false:=by
   simp_all
  have YR:(cond (decide (48<=(b.toNat:Int))) (some (decide ((b.toNat:Int)<=57))) (some false):O Bool)=some false:=by
   grind
  by_cases h3:97<=(b.toNat:Int)/\(b.toNat:Int)<=102
  ·rw [dQ h3.2,Ub ((b.toNat:Int)-97) om,oV ((b.toNat:Int)-97) om,oV ((b.toNat:Int)-97+10) om]
   grind
  ·have e3:(decide (97<=(b.toNat:Int))&&decide ((b.toNat:Int)<=102))=false:=by
    simp_all
   have e3':(cond (decide (97<=(b.toNat:Int))) (some (decide ((b.toNat:Int)<=102))) (some false):O Bool)=some false:=by
    grind
   by_cases h4:65<=(b.toNat:Int)/\(b.toNat:Int)<=70
   ·rw [dQ h4.2,Ub ((b.toNat:Int)-65) om,oV ((b.toNat:Int)-65) om,oV ((b.toNat:Int)-65+10) om]
    grind
   grind
theorem OX(base:Nat)(hb:1<=base/\base<=16):∀(l:Bs)(n:Int)(F5:Bool)(v:Nat),(F5=false->n=(v:Int)/\v<=9223372036854775808)->(F5=true->9223372036854775808<v) ->
  pn (fun t (b:UInt8)=>cond (decide ((base:Int)<=dC b)) (some (.inr ((0,6):Int×Int))) (cond (t.2||decide (IntKind.wrap .u64 (Int.tdiv (IntKind.wrap .u64 (9223372036854775808-dC b)) (base:Int))<t.1)) (some (.inl (t.1,true))) (some (.inl (IntKind.wrap .u64 ((IntKind.wrap .u64 (t.1*(base:Int)))+dC b),t.2)))))
   (fun t=>cond t.2 (some (0,14)) (some (t.1,0))) l (n,F5)=some (pY base v l)
 | [],n,F5,v,h1,h2=>by
  cases F5 with
  | false=>
   obtain⟨rfl,h⟩:=h1 rfl
   simp [pn,pY,okD,qH,h]
  | true=>
   have h3:¬ v<=9223372036854775808:=by have:=h2 rfl;omega
   simp [pn,pY,okD,qH,h3]
 | b::l,n,F5,v,h1,h2=>by
  simp [pn];by_cases hbad:dR b<0\/(base:Int)<=dR b
  ·have e1:decide ((base:Int)<=dC b)=true:=by
    unfold dC
    grind
   have e2:okD (base:Int) (b::l)=false:=by
    unfold okD
    grind
   rw [e1];simp [pY,e2,sm]
  ·have hdc:dC b=dR b:=by unfold dC;simp_all
   have e1:decide ((base:Int)<=dC b)=false:=by simp_all
   have e2:okD (base:Int) (b::l)=okD (base:Int) l:=by
    unfold okD
    simp_all
   have e3:pY base v (b::l)=pY base (v*base+(dR b).toNat) l:=by
    unfold pY;rw [e2];rfl
   rw [e1,e3,hdc]
   have hm:((v*base+(dR b).toNat:Nat):Int)=(v:Int)*(base:Int)+dR b:=by
    grind
   have hvb:=adh v hb.1
   cases F5 with
   | true=>
    have:=h2 rfl
    exact OX base hb l n true _ (fun h=>by cases h) fun _=>by omega
   | false=>
    obtain⟨rfl,hv⟩:=h1 rfl;rw [oV (9223372036854775808-dR b) om,adi _ _ om];by_cases hx:(9223372036854775808-dR b) / (base:Int)<(v:Int)
    ·rw [dQ hx]
     rw [div_lt om om om] at hx;exact OX base hb l v true _ (fun h=>by cases h) fun _=>by omega
    ·rw [sD hx]
     rw [div_lt om om om] at hx;rw [oV ((v:Int)*(base:Int)) om,oV ((v:Int)*(base:Int)+dR b) om];exact OX base hb l _ false _ (fun _=>⟨hm.symm,om⟩) fun h=>by cases h
theorem aad(s:Bs):(1<=(qX s).1/\(qX s).1<=16)/\(qX s).2.length<=s.length:=by
 unfold qX
 grind
theorem am7(F:Nat)(s:Bs)(hF:s.length<F)(hl:s.length<=1000000):vT F s=some (nT s):=by
 obtain⟨hb,hlen⟩:=aad s
 have e1:((cW F s ([48,120]:Bs)).bind fun x3=>cond x3 (some true) ((cW F s ([48,88]:Bs)).bind fun x4=>some x4):O Bool)=some (([48,120]:Bs).isPrefixOf s||([48,88]:Bs).isPrefixOf s):=by
  grind [zX]
 have AL:(cond (([48,120]:Bs).isPrefixOf s||([48,88]:Bs).isPrefixOf s)
   (rq ((decide (2<=(s.length:Int)))&&(decide ((s.length:Int)<=(s.length:Int)))) (some ((16:Int),sl s 2 (s.length:Int))))
   ((cW F s ([48]:Bs)).bind fun x5=>cond x5 (some (8,s)) (some (10,s))):O (Int×Bs))=some (((qX s).1:Int),(qX s).2):=by
  unfold qX
  cases hp:(([48,120]:Bs).isPrefixOf s||([48,88]:Bs).isPrefixOf s) with
  | true=>
   rw [cE (by grind)];unfold sl
   simp
  | false=>
   simp [zX]
   grind
 unfold vT;rw [e1];simp only [aH];rw [AL];simp only [aH];unfold nT;generalize (qX s).2=l at hlen⊢;generalize (qX s).1=base at hb⊢
 cases (l==[]) with
 | true=>rfl
 | false=>
  rw [qq l (fun i (t:Int×Bool)=>(t.1,t.2,(i:Int))) (fun t (b:UInt8)=>cond (decide ((base:Int)<=dC b)) (some (.inr ((0,6):Int×Int))) (cond (t.2||decide (IntKind.wrap .u64 (Int.tdiv (IntKind.wrap .u64 (9223372036854775808-dC b)) (base:Int))<t.1)) (some (.inl (t.1,true))) (some (.inl (IntKind.wrap .u64 ((IntKind.wrap .u64 (t.1*(base:Int)))+dC b),t.2)))))
    (fun t=>cond t.2 (some (0,14)) (some (t.1,0))) (t:=(0,false)) om ?_ ?_ ?_]
  ·grind [OX]
  ·rfl
  ·intro i h t rc
   have hz:(!((base:Int)==0))=true:=by simp;omega
   simp only [wz h,ck,gd h,bh (i:=i) om,agS,aH,hz];cases decide ((base:Int)<=dC l[i])<;>cases t.2<;>simp
   all_goals first|rfl|(generalize decide (IntKind.wrap .u64 (Int.tdiv (IntKind.wrap .u64 (9223372036854775808-dC l[i])) (base:Int))<t.1)=c;cases c<;>rfl)
  simp_all
theorem Ti(base:Nat)(hb:1<=base/\base<=16):∀(l:Bs)(v:Nat),okD (base:Int) l=true->v<=9223372036854775808 ->
  pn (fun t (b:UInt8)=>cond (decide (IntKind.wrap .u64 (Int.tdiv (IntKind.wrap .u64 (9223372036854775808-(IntKind.wrap .u64 (dR b)))) (base:Int))<t)) (some (.inr ((0,14):Int×Int))) (some (.inl (IntKind.wrap .u64 ((IntKind.wrap .u64 (t*(base:Int)))+(IntKind.wrap .u64 (dR b)))))))
   (fun t=>some (t,0)) l (v:Int)=some (pY base v l)
 | [],v,_,hv=>by simp [pn,pY,okD,qH,hv]
 | b::l,v,ho,hv=>by
  have ho':(0<=dR b/\dR b<base)/\okD (base:Int) l=true:=by
   unfold okD at ho⊢
   simp_all
  obtain⟨⟨h0,h1⟩,h2⟩:=ho'
  have hm:((v*base+(dR b).toNat:Nat):Int)=(v:Int)*(base:Int)+dR b:=by
   grind
  have e3:pY base v (b::l)=pY base (v*base+(dR b).toNat) l:=by
   unfold pY;rw [ho,h2];rfl
  simp [pn];rw [oV (dR b) om,oV (9223372036854775808-dR b) om,adi _ _ om,e3];by_cases hx:(9223372036854775808-dR b) / (base:Int)<(v:Int)
  ·rw [dQ hx]
   rw [div_lt om om om] at hx;have hge:=UZ base hb.1 l (v*base+(dR b).toNat);have:¬ qH base (v*base+(dR b).toNat) l<=9223372036854775808:=om;simp [pY,h2,this,sm]
  ·have hx':=hx
   rw [div_lt om om om] at hx';rw [sD hx,oV ((v:Int)*(base:Int)) om,oV ((v:Int)*(base:Int)+dR b) om,<-hm];exact Ti base hb l _ h2 om
theorem agT(base:Nat)(h:1<=base)(t:Bs):pY base 0 (48::t)=pY base 0 t:=by
 have e1:okD (base:Int) (48::t)=okD (base:Int) t:=by
  unfold okD;rw [Rt,show dR 48=0 from rfl,dQ om,dQ om];rfl
 have e2:qH base 0 (48::t)=qH base 0 t:=by
  unfold qH;rw [Dc,show dR 48=0 from rfl];simp
 unfold pY;rw [e1,e2]
theorem ae4(s:Bs)(h0:s≠[]):nT s=cond ((jE s).2==[]) (0,6) (pY (jE s).1 0 (jE s).2):=by
 match s,h0 with
 | [a],_=>
  unfold nT qX jE;have p1:([48,120]:Bs).isPrefixOf [a]=false:=by simp [List.isPrefixOf]
  have p2:([48,88]:Bs).isPrefixOf [a]=false:=by simp [List.isPrefixOf]
  rw [p1,p2]
  have p3:([48]:Bs).isPrefixOf [a]=((a.toNat:Int)==48):=by
   rw [sE];simp;constructor
   ·rintro rfl;rfl
   ·intro h;exact (ofNat_eq de (by simpa using h)).symm
  rw [p3]
  cases ha:((a.toNat:Int)==48) with
  | false=>rfl
  | true=>
   obtain rfl:=ofNat_eq de ha
   rfl
 | a::b::t,_=>
  unfold nT qX jE;simp
  have p1:([48,120]:Bs).isPrefixOf (a::b::t)=(((a.toNat:Int)==48)&&((b.toNat:Int)==120)):=by
   rw [sE];simp;constructor
   ·rintro⟨rfl,rfl⟩;exact⟨rfl,rfl⟩
   ·rintro⟨h1,h2⟩
    exact⟨(ofNat_eq de (by simpa using h1)).symm,(ofNat_eq de (by simpa using h2)).symm⟩
  have p2:([48,88]:Bs).isPrefixOf (a::b::t)=(((a.toNat:Int)==48)&&((b.toNat:Int)==88)):=by
   rw [sE];simp;constructor
   ·rintro⟨rfl,rfl⟩;exact⟨rfl,rfl⟩
   ·rintro⟨h1,h2⟩
    exact⟨(ofNat_eq de (by simpa using h1)).symm,(ofNat_eq de (by simpa using h2)).symm⟩
  have p3:([48]:Bs).isPrefixOf (a::b::t)=((a.toNat:Int)==48):=by
   rw [sE];simp;constructor
   ·rintro rfl;rfl
   ·intro h;exact (ofNat_eq de (by simpa using h)).symm
  rw [p1,p2,p3];have hl1:decide (1<((a::b::t).length:Int))=true:=by simp;omega
  cases ha:((a.toNat:Int)==48) with
  | false=>simp
  | true=>
   obtain rfl:=ofNat_eq de ha;simp
   cases hx:(((b.toNat:Int)==120)||((b.toNat:Int)==88)) with
   | false=>
    simp_all [Rr,aU,agT]
   | true=>
    cases t with
    | nil=>
     simp only [Qi] at hx;rcases hx with hx|hx
     ·obtain rfl:=ofNat_eq de hx;rfl
     ·obtain rfl:=ofNat_eq de hx;rfl
    | cons c t=>
     grind
theorem agU(F:Nat)(s:Bs)(h0:s≠[])(hF:s.length<F)(hl:s.length<=1000000):
  kY F s=some (nT s):=by
 have hpos:=yZ.2 h0
 have hb:(1<=(jE s).1/\(jE s).1<=16)/\(jE s).2.length<=s.length:=by
  unfold jE
  grind
 rw [ae4 s h0];unfold kY
 have Sv:((cond (decide (2<(s.length:Int)))
   (rq (decide (0<(s.length:Int))) (some (((s.getD 0 0).toNat:Int)==48)))
   (some false):O Bool).bind fun x2=>
   (cond x2
   (rq (decide (1<(s.length:Int))) (cond (((s.getD 1 0).toNat:Int)==120)
   (some true)
   (rq (decide (1<(s.length:Int))) (some (((s.getD 1 0).toNat:Int)==88)))))
   (some false):O Bool).bind fun x3=>
   cond x3
   (rq ((decide (2<=(s.length:Int)))&&(decide ((s.length:Int)<=(s.length:Int)))) (some (sl s 2 (s.length:Int),(16:Int))))
   ((cond (decide (1<(s.length:Int)))
   (rq (decide (0<(s.length:Int))) (some (((s.getD 0 0).toNat:Int)==48)))
   (some false):O Bool).bind fun x4=>
   cond x4
   (rq ((decide (1<=(s.length:Int)))&&(decide ((s.length:Int)<=(s.length:Int)))) (some (sl s 1 (s.length:Int),8)))
   (some (s,10))):O (Bs×Int))=some ((jE s).2,((jE s).1:Int)):=by
  have s2:sl s 2 (s.length:Int)=s.drop 2:=by unfold sl;simp
  have s1:sl s 1 (s.length:Int)=s.drop 1:=by unfold sl;simp
  rw [show decide (0<(s.length:Int))=true from dQ om,show decide (1<=(s.length:Int))=true from dQ om,show decide ((s.length:Int)<=(s.length:Int))=true from dQ om,s1,s2];unfold jE;by_cases h2:2<(s.length:Int)
  ·rw [dQ h2,show decide (1<(s.length:Int))=true from dQ om,show decide (2<=(s.length:Int))=true from dQ om]
   cases (((s.getD 0 0).toNat:Int)==48)<;>cases (((s.getD 1 0).toNat:Int)==120)<;>cases (((s.getD 1 0).toNat:Int)==88)<;>rfl
  ·rw [sD h2]
   cases decide (1<(s.length:Int))<;>cases (((s.getD 0 0).toNat:Int)==48)<;>rfl
 rw [Sv];simp only [aH];obtain⟨hb,hlen⟩:=hb;generalize (jE s).2=l at hlen⊢;generalize (jE s).1=base at hb⊢
 cases (l==[]) with
 | true=>rfl
 | false=>
  cases hok:okD (base:Int) l with
  | false=>
   have hr:pY base 0 l=(0,6):=by unfold pY;rw [hok];rfl
   ·refine NJ (l:=l) (fun i=>(i:Int)) (fun i rc h=>?_) l.length 0 F om om (by rw [T7];exact hok)
    simp only [wz h,AN,uB,gz,gd h,bh (i:=i) om,tP]
    grind
  | true=>
   have h1:=Ti base hb l 0 hok om;refine NF (fun i=>(i:Int)) l.length om rfl ?_ ?_
   ·intro i rc h
    have hi:(decide (0<=dR l[i])&&decide (dR l[i]<(base:Int)))=true:=by
     unfold okD at hok
     simp_all
    simp only [wz h,AN,gz,ck,gd h,bh (i:=i) om,tP,aH,ae3 (base:=(base:Int)) om,hi];rfl
   ·intro rc
    simp only [F0,aU];rw [<-h1];refine qq l (fun i (t:Int)=>(t,(i:Int))) _ _ om rfl ?_ ?_
    ·intro i h t rc
     have hi:(decide (0<=dR l[i])&&decide (dR l[i]<(base:Int)))=true:=by
      unfold okD at hok
      simp_all
     have hw:=oV (base:Int) om;have hz:(!((base:Int)==0))=true:=by simp;omega
     have hv:cond (decide ((base:Int)<=dR l[i])) (-1) (dR l[i])=dR l[i]:=by
      grind
     simp only [wz h,AN,gz,ck,gd h,bh (i:=i) om,tP,aH,hw,hz,hv];generalize decide (IntKind.wrap .u64 (Int.tdiv (IntKind.wrap .u64 (9223372036854775808-(IntKind.wrap .u64 (dR l[i])))) (base:Int))<t)=c;cases c<;>rfl
    simp_all
theorem aoC(b:UInt8)(h:dg b=false):dR b<0\/10<=dR b:=by
 unfold dR
 grind
theorem aiX(b:UInt8)(t:Bs)(h:dg b=false):nT (b::t)=(0,6):=by
 have hne:((48:UInt8)==b)=false:=by
  rw [gO];intro e;subst e;exact absurd h de
 unfold nT qX;have p1:([48,120]:Bs).isPrefixOf (b::t)=false:=by grind
 have p2:([48,88]:Bs).isPrefixOf (b::t)=false:=by grind
 have p3:([48]:Bs).isPrefixOf (b::t)=false:=by grind
 rw [p1,p2,p3];simp
 have ho:okD ((10:Nat):Int) (b::t)=false:=by
  unfold okD;rw [Rt,adg];rw [adg]
  simp_all [aoC]
 unfold pY;rw [ho];rfl
theorem agV(F:Nat)(s:Bs)(hF:s.length<F)(hl:s.length<=1000000):vU F s=some (nT s):=by
 unfold vU
 cases s with
 | nil=>rfl
 | cons b t=>
  have hp:decide (0<((b::t).length:Int))=true:=dQ (by simp_all);have hne:((b::t)==[])=false:=rfl;rw [agU F (b::t) si hF hl];simp [hne,gz]
  cases hd:dg b with
  | true=>
   unfold dg fJ at hd
   grind
  | false=>
   grind [aiX,Bool.and_eq_false_iff,decide_eq_false_iff_not,decide_eq_true,decide_eq_false]
theorem ae5(s:Bs):((nT s).2=0/\0<=(nT s).1/\(nT s).1<=9223372036854775808)\/(nT s).2=6\/(nT s).2=14:=by
 unfold nT
 cases ((qX s).2==[]) with
 | true=>exact .inr (.inl rfl)
 | false=>
  unfold pY
  grind
end Go.Proofs.YtlgmlcgjmcmmgaaGreatDoor.K
namespace Go.Proofs.YtlgmlcgjmcmmgaaGreatDoor.K
open Go.RT
set_option maxRecDepth 100000
abbrev Env:=J (Bs×Bs)
def Bk(m:Env)(k:Bs):cw:=⟨k,fO cL m k []⟩
def sx(m:Env):J cw:=(qV (m.map (·.1))).map (Bk m)
def Nd(m:Env):Prop:=(m.map (·.1)).Nodup
def Px(l:J cw):Prop:=l.Pairwise fun x y=>x.fName<y.fName
theorem U0{m:Env}(h:Nd m):Px (sx m):=List.pairwise_map.2 ((agH h).imp fun h=>h)
theorem BQ(m:Env)(x:cw):x∈sx m↔∃k,k∈m.map (·.1)/\x=Bk m k:=by
 unfold sx
 grind [zU]
theorem U1(m:Env):(sx m).length=m.length:=by
 unfold sx;rw [wJ,(zU _).length_eq,wJ]
def vg(k v:Bs):J cw->Bool->J cw
 | [],put=>cond put [] [⟨k,v⟩]
 | x::l,put=>cond (!put && !(Op.bytesLess x.fName k)) [⟨k,v⟩] []++(cond (x.fName==k) [] [x]++vg k v l (put || !(Op.bytesLess x.fName k)))
def OY(k v:Bs)(t:J cw×Bool)(x:cw):J cw×Bool:=
 (t.1++(cond (!t.2 && !(Op.bytesLess x.fName k)) [⟨k,v⟩] []++cond (x.fName==k) [] [x]),t.2 || !(Op.bytesLess x.fName k))
theorem Tj(k v:Bs):∀(l:J cw)(t:J cw×Bool),(l.foldl (OY k v) t).1++cond (l.foldl (OY k v) t).2 [] [⟨k,v⟩]=t.1++vg k v l t.2
 | [],t=>rfl
 | x::l,t=>by
  rw [Dc,Tj k v l];simp [OY,vg]
theorem bind_eq(F:Nat)(l:J cw)(k v:Bs)(hF:l.length<F)(hl:l.length<=1000000):zZ F l k v=some (vg k v l false):=by
 refine Ch l (fun i (t:J cw×Bool)=>(t.1,t.2,(i:Int))) (OY k v) (fun i t=>t.1.length<=2*i) (t:=([],false)) hF rfl si ?_ ?_ ?_
 ·intro i h t rc hI
  simp only [wz h,AN,uB,gz,ck,gd h,bh (i:=i) om,OY];rw [ig bH om]
  cases t.2<;>cases Op.bytesLess l[i].fName k<;>cases (l[i].fName==k)<;>
   simp only [bw,aU,aH,kn,sF,Qg,Ro,Bool.or_true,XE,adj,pV,Fs]
  all_goals (try rw [ig bH om])
 ·simp [OY]
  grind
 ·intro rc hI
  have hb:=Tj k v l ([],false);simp only [F0,aU];rw [ig bH om]
  grind
theorem BR(k v:Bs):∀(l:J cw)(put:Bool)(x:cw),x∈vg k v l put↔(put=false/\x=⟨k,v⟩)\/(x∈l/\x.fName≠k)
 | [],put,x=>by cases put<;>simp [vg]
 | y::l,put,x=>by
  have e1:∀c:Bool,x∈(cond c [⟨k,v⟩] []:J cw)↔c=true/\x=⟨k,v⟩:=fun c=>by cases c<;>simp
  have e2:x∈(cond (y.fName==k) [] [y]:J cw)↔x=y/\y.fName≠k:=by
   cases h:(y.fName==k) with
   | true=>simp [eq_of_beq h]
   | false=>rw [gO] at h;simp [h]
  simp [vg,BR k v l,e1,e2];constructor
  ·rintro (⟨h1,h2⟩|⟨rfl,h2⟩|⟨h1,h2⟩|⟨h1,h2⟩)
   ·left;exact⟨by cases put<;>simp_all,h2⟩
   ·right;exact⟨.inl rfl,h2⟩
   ·left;exact⟨by cases put<;>simp_all,h2⟩
   ·right;exact⟨.inr h1,h2⟩
  ·rintro (⟨rfl,h2⟩|⟨rfl|h1,h2⟩)
   ·cases Op.bytesLess y.fName k
    ·left;simp [h2]
    ·right;right;left;simp [h2]
   ·right;left;exact⟨rfl,h2⟩
   ·right;right;right;exact⟨h1,h2⟩
theorem F6{k v:Bs}:∀ {l:J cw}{put:Bool},Px l->(put=true->∀x,x∈l->k<x.fName)->Px (vg k v l put)
 | [],put,_,_=>by cases put<;>simp [vg,Px]
 | y::l,put,h,hp=>by
  obtain⟨h1,h2⟩:=wI.1 h;unfold vg
  cases put with
  | true=>
   have hn:(y.fName==k)=false:=by grind
   simp [kn,hn];refine wI.2 ⟨fun x hx=>?_,F6 h2 fun _ x hx=>hp rfl x (pT _ hx)⟩
   simp_all [BR]
  | false=>
   rcases S9 y.fName k with hlt|he|hgt
   ·have e1:=(Kf _ _).2 hlt
    have hn:(y.fName==k)=false:=by grind
    simp [e1,hn];refine wI.2 ⟨fun x hx=>?_,F6 h2 fun e=>by cases e⟩
    grind [BR]
   ·have e1:Op.bytesLess y.fName k=false:=(CC _ _).2 (by simp_all)
    have hn:(y.fName==k)=true:=by rw [tV];exact he
    simp [e1,hn];refine wI.2 ⟨fun x hx=>?_,F6 h2 fun _ x hx=>by simp_all⟩
    simp_all [BR]
   ·have e1:=(CC _ _).2 fun h'=>lI _ (qj h' hgt)
    have hn:(y.fName==k)=false:=by grind
    simp [e1,hn]
    have eX:∀x,x∈vg k v l true->y.fName<x.fName:=fun x hx=>by
     simp_all [BR]
    refine wI.2 ⟨fun x hx=>?_,wI.2 ⟨eX,F6 h2 fun _ x hx=>qj hgt (h1 x hx)⟩⟩
    grind
theorem acD{m:Env}(h:Nd m)(k v:Bs):sx (jq cL m k v)=vg k v (sx m) false:=by
 refine UX (U0 (Ta h k v)) (F6 (U0 h) fun e=>by cases e) fun x=>?_;rw [BR,BQ,BQ];constructor
 ·rintro⟨q,hq,rfl⟩
  by_cases hk:q=k
  ·left
   unfold Bk
   simp_all [va,Fq]
  ·rcases (xW ..).1 hq with e|hq
   ·exact absurd e hk
   ·unfold Bk
    grind [va,beq_eq_false_iff_ne]
 ·rintro (⟨_,rfl⟩|⟨⟨q,hq,rfl⟩,hk⟩)
  ·refine⟨k,(xW ..).2 (.inl rfl),?_⟩
   unfold Bk
   simp_all [va,Fq]
  ·have hk:¬ q=k:=hk
   refine⟨q,(xW ..).2 (.inr hq),?_⟩;unfold Bk
   grind [va,beq_eq_false_iff_ne]
def X5(l:J cw)(k:Bs):Bs:=match l.reverse.find? (fun x=>x.fName==k) with|some x=>x.bJ|none=>[]
theorem aae(k:Bs):∀l:J cw,pn (fun _ (x:cw)=>cond (x.fName==k) (some (.inr x.bJ)) (some (.inl ()))) (fun _=>some []) l ()=some (match l.find? (fun x=>x.fName==k) with|some x=>x.bJ|none=>[])
 | []=>rfl
 | x::l=>by
  simp [pn,Mp];cases (x.fName==k)
  ·exact aae k l
  ·rfl
theorem NK(F:Nat)(l:J cw)(k:Bs)(hF:l.length<F)(hl:l.length<=1000000):pz F l k=some (X5 l k):=by
 unfold pz X5;rw [<-aae];refine qq l.reverse (fun i (_:Unit)=>((l.length:Int)-1-(i:Int))) _ _ (by simpa using hF) ?_ ?_ ?_
 ·grind [bI]
 ·intro i h t rc
  have hi:i<l.length:=by simpa using h
  have e:(l.length:Int)-1-(i:Int)=((l.length-1-i:Nat):Int):=om;have hj:l.length-1-i<l.length:=om;have hw:aB (((l.length-1-i:Nat):Int)-1)=(l.length:Int)-1-((i+1:Nat):Int):=by grind [bI]
  simp only [e,wz hj,ck,gd hj,hw,List.getElem_reverse];cases (l[l.length-1-i].fName==k)<;>rfl
 grind
theorem NL(m:Env)(k:Bs):X5 (sx m) k=fO cL m k []:=by
 unfold X5
 cases h:(sx m).reverse.find? (fun x=>x.fName==k) with
 | some x=>
  have h1:=XD h;have h2:=adb h;rw [List.mem_reverse,BQ] at h1;obtain⟨q,hq,rfl⟩:=h1;have:q=k:=by simpa [Bk] using h2
  subst this
  rfl
 | none=>
  rcases KM m k ([]:Bs) with⟨p,hp,h1,h2⟩|⟨_,h2⟩
  ·have:=List.find?_eq_none.1 h (Bk m k) (by grind [BQ])
   simp [Bk] at this
  ·exact h2.symm
structure Eo(c:Nat)(m:Env):Prop where
 nd:Nd m
 len:m.length<=c
 sz:∀p,p∈m->p.1.length<=60/\p.2.length<=4096
theorem Eo.mono{c d:Nat}{m:Env}(h:Eo c m)(hd:c<=d):Eo d m:=⟨h.nd,nG h.len hd,h.sz⟩
theorem Eo.set{c:Nat}{m:Env}(h:Eo c m){k v:Bs}(hk:k.length<=60)(hv:v.length<=4096):Eo (c+1) (jq cL m k v):=
 ⟨Ta h.nd k v,nG (aiL m k v) (by have:=h.len;omega),fun p hp=>by
  rcases QT hp with rfl|hp
  ·exact⟨hk,hv⟩
  ·exact h.sz p hp⟩
theorem Eo.get{c:Nat}{m:Env}(h:Eo c m)(k:Bs):(fO cL m k []).length<=4096:=by
 rcases KM m k ([]:Bs) with⟨p,hp,_,h2⟩|⟨_,h2⟩
 ·rw [<-h2];exact (h.sz p hp).2
 ·rw [h2];simp
def sY(l:J cw):Env:=l.foldl (fun m b=>jq cL m b.fName b.bJ) []
theorem QV{c:Nat}:∀(l:J cw)(m:Env),Eo c m->(∀b,b∈l->b.fName.length<=60/\b.bJ.length<=4096) ->
  Eo (c+l.length) (l.foldl (fun m b=>jq cL m b.fName b.bJ) m)/\sx (l.foldl (fun m b=>jq cL m b.fName b.bJ) m)=l.foldl (fun o b=>vg b.fName b.bJ o false) (sx m)
 | [],m,h,_=>⟨h,rfl⟩
 | b::l,m,h,hb=>by
  have h1:=h.set (hb b si).1 (hb b si).2;obtain⟨h2,h3⟩:=QV l _ h1 fun b hm=>hb b (pT _ hm);refine⟨h2.mono bH,?_⟩;rw [Dc,Dc,h3,acD h.nd]
theorem agW:Eo 0 []:=⟨by simp [Nd],si,si⟩
theorem ak6:sx []=[]:=by
 have:=zU ([]:J Bs);simp at this;simp [sx,this]
theorem F7{l:J cw}(h:∀b,b∈l->b.fName.length<=60/\b.bJ.length<=4096):Eo l.length (sY l):=by
 have:=(QV l [] agW h).1;rw [pU] at this;exact this
theorem aaf(k v:Bs):∀(l:J cw)(put:Bool),(vg k v l put).length<=l.length+cond put 0 1
 | [],put=>by cases put<;>simp [vg]
 | x::l,put=>by
  have h1:=aaf k v l (put || !(Op.bytesLess x.fName k));simp [vg];generalize Op.bytesLess x.fName k=b at h1⊢;cases put<;>cases b<;>cases (x.fName==k)<;>simp at h1⊢ <;> omega
theorem agX(F:Nat)(l:J cw)(hF:l.length<F)(hl:l.length<=1000)(h:∀b,b∈l->b.fName.length<=60/\b.bJ.length<=4096):F8 F l=some (sx (sY l)):=by
 refine Ch l (fun i (t:J cw)=>(t,(i:Int))) (fun o b=>vg b.fName b.bJ o false) (fun i t=>t.length<=i) hF rfl si ?_ ?_ ?_
 ·intro i h t rc hI
  simp only [wz h,AN,uB,gz,bh (i:=i) om]
  grind [bind_eq]
 ·grind [aaf]
 ·intro rc hI
  simp;have:=(QV l [] agW h).2;rw [ak6] at this;unfold sY;rw [this]
theorem aoD{c:Nat}{m:Env}(h:Eo c m)(hc:c<=1000000)(F:Nat):skF F m=some (qV (m.map (·.1))):=by
 unfold skF;have h1:(m.all fun p=>decide (p.1.length<=9223372036854775807))=true:=oR.2 fun p hp=>dQ (by have:=(h.sz p hp).1;omega);rw [h1,dQ (by have:=h.len;omega)];rfl
end Go.Proofs.YtlgmlcgjmcmmgaaGreatDoor.K
namespace Go.Proofs.YtlgmlcgjmcmmgaaGreatDoor.K
open Go.RT
set_option maxRecDepth 100000
def gw(x:Int):Prop:=-9223372036854775808<=x/\x<=9223372036854775807
theorem rM(x:Int):gw (aB x):=by
 show gw (if (true&&decide (x%(2^64:Int)>=(2^63:Int)))=true then x%(2^64:Int)-(2^64:Int) else x%(2^64:Int));unfold gw
 grind
theorem aka(b:Int):mR .i64 b 63=b%64:=by
 rw [Uz]
 have h:(BitVec.ofInt 64 b &&& BitVec.ofInt 64 63).toNat=(b%64).toNat:=by
  rw [BitVec.toNat_and];have h63:(BitVec.ofInt 64 63).toNat=2^6-1:=by decide
  rw [h63,Nat.and_two_pow_sub_one_eq_mod,BitVec.toNat_ofInt]
  grind
 show aB (((BitVec.ofInt 64 b &&& BitVec.ofInt 64 63).toNat:Nat):Int)=_
 grind [bI]
theorem not_eq{a:Int}(h:gw a):Uy .i64 a=aB ((aB (0-a))-1):=by
 unfold gw at h
 have h1:(BitVec.ofInt 64 (-1) ^^^ BitVec.ofInt 64 a) = ~~~ BitVec.ofInt 64 a:=by
  rw [show BitVec.ofInt 64 (-1)=BitVec.allOnes 64 from rfl,BitVec.allOnes_xor]
 rw [UA];show aB (((BitVec.ofInt 64 (-1) ^^^ BitVec.ofInt 64 a).toNat:Nat):Int)=_;rw [h1,BitVec.toNat_not,BitVec.toNat_ofInt];by_cases h0:a=-9223372036854775808
 ·subst h0;decide
 ·rw [bI (x:=0-a) om,bI (x:=0-a-1) om]
  by_cases hn:0<=a
  ·have e1:a%((2^64:Nat):Int)=a:=Int.emod_eq_of_lt hn om
   rw [e1];have e2:((2^64-1-a.toNat:Nat):Int)=18446744073709551615-a:=om;rw [e2];unfold aB IntKind.wrap;have e3:(18446744073709551615-a)%(2^IntKind.i64.bits:Int)=18446744073709551615-a:=Int.emod_eq_of_lt om (by show _<(18446744073709551616:Int);omega);simp only [e3];show (if (true&&decide ((18446744073709551615-a)>=(2^63:Int)))=true then (18446744073709551615-a)-(2^64:Int) else 18446744073709551615-a)=_
   grind
  grind [bI]
theorem aiY{a:Int}(b:Int)(h:gw a):gw (Uw .i64 a b):=by
 unfold gw at h⊢;rw [ach];generalize min b.toNat IntKind.i64.bits=k;have hp:(0:Int)<2^k:=Int.pow_pos de;rw [Int.fdiv_eq_ediv_of_nonneg _ om];by_cases h0:0<=a
 ·have h1:=Int.ediv_nonneg h0 (show (0:Int)<=2^k by omega)
  have h2:=Int.ediv_le_self (b:=2^k) h0;omega
 ·have h1:a<=a / 2^k:=by
   apply Int.le_ediv_of_mul_le hp;have:=Int.mul_le_mul_of_nonpos_left (a:=a) (b:=2^k) (c:=1) om om;omega
  have h2:a / 2^k<0:=Int.ediv_neg_of_neg_of_pos om hp;omega
theorem aiZ{a:Int}(b:Int)(h:gw a):gw (Int.tmod a b):=by
 unfold gw at h⊢;by_cases h0:0<=a
 ·have h2:(Int.tmod a b).natAbs<=a.natAbs:=by simp_all [Int.natAbs_tmod,Nat.mod_le]
  omega
 ·have h1:Int.tmod a b=- Int.tmod (-a) b:=by rw [Int.neg_tmod];omega
  have h3:=Int.tmod_nonneg (a:=-a) b om;have h2:(Int.tmod (-a) b).natAbs<=(-a).natAbs:=by simp_all [Int.natAbs_tmod,Nat.mod_le]
  omega
def tr(b:Bool):Int:=cond b 1 0
theorem agY(b:Bool):gw (tr b):=by cases b<;>simp [tr,gw]
theorem Lv(F:Nat)(b:Bool):vV F b=some (tr b):=by cases b<;>rfl
theorem z6(F:Nat)(b:Bool):xB F b=some (tr b):=by cases b<;>rfl
def cUn(op a:Int):Int:=cond (op==3) (aB (0-a)) (cond (op==5) (tr (a==0)) (cond (op==6) (Uy .i64 a) a))
def aag(op a b:Int):Bool:=cond (op==14) (decide (a<b)) (cond (op==15) (decide (b<a)) (cond (op==16) (decide (a<=b)) (cond (op==17) (decide (b<=a)) (cond (op==18) (a==b) (a != b)))))
def sZ(op a b:Int):Int×Int:=
 cond (op==7) (aB (a*b),0) (cond (op==8||op==9) (cond (b==0) (0,13) (cond (op==8) (aB (Int.tdiv a b),0) (Int.tmod a b,0)))
  (cond (op==10) (aB (a+b),0) (cond (op==11) (aB (a-b),0) (cond (op==12) (YK .i64 a (mR .i64 b 63),0) (cond (op==13) (Uw .i64 a (mR .i64 b 63),0)
   (cond (op==20) (mR .i64 a b,0) (cond (op==21) (QC .i64 a b,0) (cond (op==22) (PF .i64 a b,0) (cond (op==23) (tr (a != 0&&b != 0),0) (cond (op==24) (tr (a != 0||b != 0),0) (tr (aag op a b),0)))))))))))
theorem ai0(a:Int):gw (Uy .i64 a):=by rw [UA];exact rM _
theorem ai1(a b:Int):gw (mR .i64 a b):=by rw [Uz];exact rM _
theorem ak7(a b:Int):gw (PF .i64 a b):=by rw [aga];exact rM _
theorem ai2(a b:Int):gw (QC .i64 a b):=by rw [aci];exact rM _
theorem ak8(op:Int){a:Int}(h:gw a):gw (cUn op a):=by
 unfold cUn
 grind [rM,agY,ai0]
theorem KP(op:Int){a b:Int}(h:gw a)(h':gw b):gw (sZ op a b).1:=by
 unfold sZ
 cases (op==7) with
 | true=>exact rM _
 | false=>
 cases (op==8||op==9) with
 | true=>
  grind [rM,aiZ]
 | false=>
 cases (op==10) with
 | true=>exact rM _
 | false=>
 cases (op==11) with
 | true=>exact rM _
 | false=>
 cases (op==12) with
 | true=>exact rM _
 | false=>
 grind [aiY,ai1,ai2,ak7,agY]
theorem aah(b:Int):decide (0<=mR .i64 b 63)=true:=dQ (by rw [aka];omega)
theorem ak9(b:Int):IntKind.wrap .u64 (mR .i64 b 63)=mR .i64 b 63:=oV _ (by rw [aka];omega)
theorem ae6(F:Nat)(op a b:Int):z7 F op a b=some (aag op a b):=by
 unfold z7 aag
 grind
theorem ai3(F:Nat)(op a b:Int):Cl F op a b=some (aag op a b):=by
 unfold Cl aag
 grind
theorem ai4(F:Nat)(op a:Int):Ey F op a=some (cUn op a):=by
 unfold Ey cUn
 grind [Lv]
theorem am8(F:Nat)(op:Int){a:Int}(h:gw a):HF F op a=some (cUn op a):=by
 unfold HF cUn
 grind [z6,not_eq]
theorem Wp(F:Nat)(op a b:Int):tQ F op a b=some (sZ op a b):=by
 unfold tQ sZ;simp [Lv,ae6,aah,gz]
 cases h7:(op==7) with
 | true=>rfl
 | false=>
 cases h8:(op==8) with
 | true=>simp;cases hb:(b==0)<;>rfl
 | false=>
 cases h9:(op==9) with
 | true=>simp;cases hb:(b==0)<;>rfl
 | false=>
 grind
theorem agZ(F:Nat)(op a b:Int)(h:op≠23)(h':op≠24):CQ F op a b=some (sZ op a b):=by
 have e1:(op==23)=false:=by simp_all
 have e2:(op==24)=false:=by simp_all
 unfold CQ sZ;simp [z6,ai3,ak9,aah,gz];by_cases k7:op=7
 ·subst k7;rfl
 have h7:(op==7)=false:=by simp_all
 rw [h7]
 cases h8:(op==8) with
 | true=>simp;cases hb:(b==0)<;>rfl
 | false=>
 cases h9:(op==9) with
 | true=>simp;cases hb:(b==0)<;>rfl
 | false=>
 grind
def pP(s:Bs):Bs:=cond ((((s.getD 0 0).toNat:Int)==45)||(((s.getD 0 0).toNat:Int)==43)) (s.drop 1) s
def s7(s:Bs):Int×Bool:=
 cond (s==[]) (0,true) (cond ((nT (pP s)).2 != 0||((nT (pP s)).1==9223372036854775808 && !(((s.getD 0 0).toNat:Int)==45))) (0,false)
  (cond (((s.getD 0 0).toNat:Int)==45) (aB (IntKind.wrap .u64 (0-(nT (pP s)).1)),true) (aB (nT (pP s)).1,true)))
theorem KQ(s:Bs):gw (s7 s).1:=by
 unfold s7;cases (s==[])<;>cases ((nT (pP s)).2 != 0||((nT (pP s)).1==9223372036854775808 && !(((s.getD 0 0).toNat:Int)==45)))<;>cases (((s.getD 0 0).toNat:Int)==45)<;>first|exact rM _|exact (show gw 0 by unfold gw;decide)
theorem aai(s:Bs):(pP s).length<=s.length:=by
 unfold pP
 grind
theorem ae7(F:Nat)(s:Bs)(hF:s.length<F)(hl:s.length<=1000000):z8 F s=some (s7 s):=by
 unfold z8 s7
 cases hs:(s==[]) with
 | true=>rfl
 | false=>
  have hp:0<s.length:=by
   grind
  have e0:decide (0<(s.length:Int))=true:=dQ om;have e1:(decide (1<=(s.length:Int))&&decide ((s.length:Int)<=(s.length:Int)))=true:=by grind
  have e2:sl s 1 (s.length:Int)=s.drop 1:=by unfold sl;simp
  have et:((cond (((s.getD 0 0).toNat:Int)==45) (some true) (some (((s.getD 0 0).toNat:Int)==43)):O Bool).bind fun x2=>cond x2 (some (s.drop 1)) (some s):O Bs)=some (pP s):=by
   unfold pP
   grind
  simp only [e0,e1,gz]
  grind [aai,am7]
theorem Wq(F:Nat)(s:Bs)(hF:s.length<F)(hl:s.length<=1000000):xC F s=some (s7 s):=by
 unfold xC s7
 cases hs:(s==[]) with
 | true=>rfl
 | false=>
  have hp:0<s.length:=by
   grind
  have e0:decide (0<(s.length:Int))=true:=dQ om;have e1:(decide (1<=(s.length:Int))&&decide ((s.length:Int)<=(s.length:Int)))=true:=by grind
  have e2:sl s 1 (s.length:Int)=s.drop 1:=by unfold sl;simp
  have et:((cond (((s.getD 0 0).toNat:Int)==45) (some true) (some (((s.getD 0 0).toNat:Int)==43)):O Bool).bind fun x2=>cond x2 (some (s.drop 1)) (some s):O Bs)=some (pP s):=by
   unfold pP
   grind
  simp only [e0,e1,e2,gz,et,aH];have:=aai s;rw [agV F (pP s) om om]
  have key:∀(neg:Bool),(cond ((nT (pP s)).2 != 0) true (decide ((cond neg 9223372036854775808 9223372036854775807:Int)<(nT (pP s)).1)))=((nT (pP s)).2 != 0||((nT (pP s)).1==9223372036854775808 && !neg)):=by
   intro neg;rcases ae5 (pP s) with⟨h,h0,h1⟩|h|h
   ·grind
   ·rw [h];rfl
   ·rw [h];rfl
  rw [<-key]
  grind
abbrev Rs:=Int×Int×Env
def NM(n:Int)(name:Bs)(x:Rs):Rs:=
 cond (n != 0)
  (cond (!(s7 (fO cL x.2.2 name [])).2) (0,1,x.2.2)
   (cond ((sZ n (s7 (fO cL x.2.2 name [])).1 x.1).2 != 0) (0,(sZ n (s7 (fO cL x.2.2 name [])).1 x.1).2,x.2.2)
    ((sZ n (s7 (fO cL x.2.2 name [])).1 x.1).1,0,jq cL x.2.2 name (Lib.itoa (sZ n (s7 (fO cL x.2.2 name [])).1 x.1).1))))
  (x.1,0,jq cL x.2.2 name (Lib.itoa x.1))
def II(name:Bs)(m:Env):Rs:=cond (!(s7 (fO cL m name [])).2) (0,1,m) ((s7 (fO cL m name [])).1,0,m)
def aaj(op:Int)(x y:Rs):Rs:=cond (y.2.1 != 0) (0,y.2.1,y.2.2) ((sZ op x.1 y.1).1,(sZ op x.1 y.1).2,y.2.2)
def dK:Env->Rs:=fun m=>(0,0,m)
def evB(op n:Int)(name:Bs)(ks:J (Env->Rs))(m:Env):Rs:=
 cond (op==1) (n,0,m) (cond (op==2) (II name m)
  (cond ((ks.getD 0 dK m).2.1 != 0) (0,(ks.getD 0 dK m).2.1,(ks.getD 0 dK m).2.2)
   (cond (op==26) (NM n name (ks.getD 0 dK m))
    (cond (decide (3<=op)&&decide (op<=6)) (cUn op (ks.getD 0 dK m).1,0,(ks.getD 0 dK m).2.2)
     (cond (op==25) (cond ((ks.getD 0 dK m).1 != 0) (ks.getD 1 dK (ks.getD 0 dK m).2.2) (ks.getD 2 dK (ks.getD 0 dK m).2.2))
      (cond (op==23&&(ks.getD 0 dK m).1==0) (0,0,(ks.getD 0 dK m).2.2)
       (cond (op==24&&(ks.getD 0 dK m).1 != 0) (1,0,(ks.getD 0 dK m).2.2)
        (aaj op (ks.getD 0 dK m) (ks.getD 1 dK (ks.getD 0 dK m).2.2)))))))))
mutual
def kC:TExpr->Env->Rs
 | .mk op n name kids=>evB op n name (evL kids)
def evL:J TExpr->J (Env->Rs)
 | []=>[]
 | k::l=>kC k::evL l
end
theorem acE:∀l,evL l=l.map kC
 | []=>rfl
 | k::l=>by simp [evL,acE l]
theorem Tk(e:TExpr):kC e=evB e.fOp e.fN e.fName (e.fKids.map kC):=by cases e;rw [<-acE];rfl
theorem Ez(l:J TExpr)(i:Nat)(h:i<l.length):(l.map kC).getD i dK=kC (l.getD i dw):=by
 simp [h]
end Go.Proofs.YtlgmlcgjmcmmgaaGreatDoor.K
namespace Go.Proofs.YtlgmlcgjmcmmgaaGreatDoor.K
open Go.RT
set_option maxRecDepth 100000
theorem vW{n:Int}(h:gw n):(Lib.itoa n).length<=60:=by
 have key:∀(k u:Nat),u<10^(k+1)->(Lib.decDigits u).length<=k+1:=by
  intro k
  induction k with
  | zero=>
   intro u hu;rw [Lib.decDigits_one (by simpa using hu)]
   simp
  | succ k ih=>
   intro u hu;by_cases h9:u<10
   ·grind
   ·rw [Lib.decDigits.eq_1 u]
    grind
 unfold gw at h;unfold Lib.itoa;split
 ·have:=key 20 n.natAbs om
  simp;omega
 ·have:=key 20 n.toNat om
  omega
theorem aak(F:Nat){n:Int}(h:gw n):ox F n=some (Lib.itoa n):=by
 unfold ox;unfold gw at h
 simp_all [cE,dQ]
theorem abL(F:Nat)(hF:30<=F){n:Int}(h0:-9223372036854775808<=n)(h1:n<0):dB F n=some (Lib.itoa n):=by
 unfold dB vc;obtain⟨u,hu⟩:∃u:Nat,n=-(u:Int):=⟨(-n).toNat,om⟩;have e1:aB (0-aB (n+1))=(u:Int)-1:=by grind [bI]
 have e2:IntKind.wrap .u64 ((IntKind.wrap .u64 ((u:Int)-1))+1)=(u:Int):=by
  rw [oV ((u:Int)-1) om,oV _ om];omega
 simp only [e1,e2];rw [IG 20 u F [] om om om si];rw [hu,Lib.itoa_neg u om]
 have hl:(Lib.decDigits u).length<=60:=by
  have:=vW (n:=-(u:Int)) ⟨om,om⟩;rw [Lib.itoa_neg u om] at this;simp at this;omega
 grind [afZ]
theorem JC(F:Nat)(hF:30<=F){n:Int}(h:gw n):dB F n=some (Lib.itoa n):=by
 by_cases h0:0<=n
 ·exact ae0 F hF h0 h.2
 ·exact abL F hF h.1 om
theorem Good.okn{e:TExpr}(g:Good e):gw e.fN:=by
 obtain⟨v,o,m⟩:=g
 cases o with
 | mk op n name kids a1 a2 a3 a4 a5=>exact am5 a2
theorem Good.op{e:TExpr}(g:Good e):1<=e.fOp/\e.fOp<=26:=aiQ g.facts.1
theorem Good.EA{e:TExpr}(g:Good e){i:Nat}(h:i<e.fKids.length):Good (e.fKids.getD i dw)/\e.fKids.getD i dw∈e.fKids:=by
 have hm:e.fKids.getD i dw∈e.fKids:=by simp [h]
 exact⟨g.kid _ hm,hm⟩
theorem aal{e:TExpr}{i:Nat}(h:i<e.fKids.length):nodes (e.fKids.getD i dw)<nodes e:=by
 have hm:e.fKids.getD i dw∈e.fKids:=by simp [h]
 have:=HC hm;rw [F4 e];omega
theorem HG{l:J TExpr}{i j:Nat}(hij:i<j)(hj:j<l.length):nodes (l.getD i dw)+nodes (l.getD j dw)<=lJ l:=by
 induction l generalizing i j with
 | nil=>simp at hj
 | cons k l ih=>
  cases j with
  | zero=>omega
  | succ j=>
   have hj':j<l.length:=by simpa using hj
   cases i with
   | zero=>
    have hm:l.getD j dw∈l:=by simp [hj']
    have:=HC hm;simp only [Uc,List.getD_cons_succ,lJ]
    omega
   | succ i=>
    have:=ih (i:=i) om hj';simp only [List.getD_cons_succ,lJ];omega
theorem Good.shape{e:TExpr}(g:Good e):(e.fOp=1)\/(e.fOp=2)\/((3<=e.fOp/\e.fOp<=6)/\e.fKids.length=1)\/((7<=e.fOp/\e.fOp<=24)/\e.fKids.length=2)\/(e.fOp=25/\e.fKids.length=3)\/(e.fOp=26/\e.fKids.length=1):=by
 have h1:=g.facts.1;have h2:=g.op;rcases aiR h2 with h|h|h|h|h|h|h|h|h|h|h|h|h|h|h|h|h|h|h|h|h|h|h|h|h|h<;>rw [h] at h1<;>simp [oy] at h1<;>omega
theorem NN:∀e,Good e->∀c m,Eo c m->Eo (c+nodes e) (kC e m).2.2/\gw (kC e m).1:=by
 apply Good.ind;intro e g ih c m hm;have z:gw 0:=by unfold gw;decide
 have one:gw 1:=by unfold gw;decide
 have aoE:=hm.mono (show c<=c+nodes e by omega);rw [Tk];unfold evB
 cases h1:(e.fOp==1) with
 | true=>exact⟨aoE,g.okn⟩
 | false=>
 cases h2:(e.fOp==2) with
 | true=>
  unfold II
  grind [fO,cL,KQ]
 | false=>
 simp only [gO] at h1 h2;have hl:0<e.fKids.length:=by rcases g.shape with h|h|h|h|h|h<;>omega
 obtain⟨g0,m0⟩:=g.EA hl;obtain⟨i1,i2⟩:=ih _ m0 c m hm;have n0:=aal hl;rw [Ez _ 0 hl];generalize hx:kC (e.fKids.getD 0 dw) m=x at i1 i2⊢;have i1':=i1.mono (show c+nodes (e.fKids.getD 0 dw)<=c+nodes e by omega)
 cases (x.2.1 != 0) with
 | true=>exact⟨i1',z⟩
 | false=>
 cases HB:(e.fOp==26) with
 | true=>
  unfold NM;have hs:∀n:Int,gw n->Eo (c+nodes e) (jq cL x.2.2 e.fName (Lib.itoa n)):=fun n hn=>(i1.set g.facts.2.2.2.1 (nG (vW hn) de)).mono om
  cases (e.fN != 0) with
  | false=>exact⟨hs _ i2,i2⟩
  | true=>
   cases (!(s7 (fO cL x.2.2 e.fName [])).2) with
   | true=>exact⟨i1',z⟩
   | false=>
    have hr:=KP e.fN (KQ (fO cL x.2.2 e.fName [])) i2
    cases ((sZ e.fN (s7 (fO cL x.2.2 e.fName [])).1 x.1).2 != 0) with
    | true=>exact⟨i1',z⟩
    | false=>exact⟨hs _ hr,hr⟩
 | false=>
 simp only [gO] at HB
 cases Yd:(decide (3<=e.fOp)&&decide (e.fOp<=6)) with
 | true=>simp_all [ak8]
 | false=>
 have ai5:¬ (3<=e.fOp/\e.fOp<=6):=by
  simp_all
 have hl1:1<e.fKids.length:=by rcases g.shape with h|h|h|h|h|h<;>omega
 obtain⟨g1,m1⟩:=g.EA hl1;obtain⟨j1,j2⟩:=ih _ m1 _ x.2.2 i1;have n01:=HG (l:=e.fKids) (i:=0) (j:=1) om hl1;rw [Ez _ 1 hl1];have j1':=j1.mono (show c+nodes (e.fKids.getD 0 dw)+nodes (e.fKids.getD 1 dw)<=c+nodes e by rw [F4 e];omega)
 cases Wm:(e.fOp==25) with
 | true=>
  have am9:e.fOp=25:=by simpa using Wm
  have hl2:2<e.fKids.length:=by rcases g.shape with h|h|h|h|h|h<;>omega
  obtain⟨g2,m2⟩:=g.EA hl2;obtain⟨k1,k2⟩:=ih _ m2 _ x.2.2 i1;have n02:=HG (l:=e.fKids) (i:=0) (j:=2) om hl2;rw [Ez _ 2 hl2]
  cases (x.1 != 0) with
  | true=>exact⟨j1',j2⟩
  | false=>exact⟨k1.mono (by rw [F4 e];omega),k2⟩
 | false=>
 cases (e.fOp==23&&x.1==0) with
 | true=>exact⟨i1',z⟩
 | false=>
 cases (e.fOp==24&&x.1 != 0) with
 | true=>exact⟨i1',one⟩
 | false=>
 unfold aaj
 cases ((kC (e.fKids.getD 1 dw) x.2.2).2.1 != 0) with
 | true=>exact⟨j1',z⟩
 | false=>simp_all [KP]
theorem F9{a b:Int}(h:a≠b):(a==b)=false:=by simp_all
theorem var_eq{c:Nat}{m:Env}(F:Nat)(hF:5000<=F)(hm:Eo c m)(name:Bs):jZ F name m=some ((II name m).1,(II name m).2.1):=by
 unfold jZ IJ II;have:=hm.get name
 grind [ae7,fO,cL]
theorem ai6(name:Bs)(m:Env):(II name m).2.2=m:=by
 unfold II
 grind
theorem WU:∀e,Good e->bF fun F n=>∀c m,Eo c m->jg F n e m=some (kC e m):=by
 apply Good.ind;intro e g ih;refine bF.succ (bF.succ (((bF.all ih).and (bF.all ih).up).kB (bF.ge (p:=fun F _=>5000<=F) 5000 fun F n h _=>h) fun F n hi hF c m hm=>?_));obtain⟨ih,ih'⟩:=hi;show qI F (jg F (n+1)) (mg F (n+1)) e m=_;have ha:∀m,mg F (n+1) e m=pZ F (jg F n) (mg F n) e m:=fun m=>rfl;rw [Tk];unfold qI evB
 cases h1:(e.fOp==1) with
 | true=>rfl
 | false=>
 cases h2:(e.fOp==2) with
 | true=>
  simp only [bw,aU]
  grind [var_eq,ai6,Prod.ext]
 | false=>
 simp only [gO] at h1 h2;have hl:0<e.fKids.length:=by rcases g.shape with h|h|h|h|h|h<;>omega
 obtain⟨g0,m0⟩:=g.EA hl;obtain⟨i1,i2⟩:=NN _ g0 c m hm;have e0:decide (0<(e.fKids.length:Int))=true:=dQ om;simp only [aU,e0,gz];rw [Ez _ 0 hl,ih' _ m0 c m hm]
 cases HB:(e.fOp==26) with
 | true=>
  have apI:e.fOp=26:=by simpa using HB
  simp only [bw,TExpr.eta];rw [ha];unfold pZ;rw [e0,ih _ m0 c m hm];simp only [gz,aH];generalize kC (e.fKids.getD 0 dw) m=x at i1 i2⊢
  cases (x.2.1 != 0) with
  | true=>rfl
  | false=>
   simp only [aU];rw [var_eq F hF i1];unfold NM Cm
   cases (e.fN != 0) with
   | false=>
    simp_all [aU,jj,aH,sm,aak]
   | true=>
    simp only [bw,aH];unfold II
    cases (!(s7 (fO cL x.2.2 e.fName [])).2) with
    | true=>rfl
    | false=>
     have hr:=KP e.fN (KQ (fO cL x.2.2 e.fName [])) i2;simp only [aU,Qj];rw [Wp];simp only [aH]
     cases ((sZ e.fN (s7 (fO cL x.2.2 e.fName [])).1 x.1).2 != 0) with
     | true=>rfl
     | false=>
      simp_all [aU,jj,aH,sm,aak]
 | false=>
 simp only [gO] at HB;simp only [aU,aH];generalize kC (e.fKids.getD 0 dw) m=x at i1 i2⊢
 cases (x.2.1 != 0) with
 | true=>rfl
 | false=>
 simp only [aU]
 have hun:(cond (e.fOp==3) (some (e.fOp==3)) (cond (e.fOp==4) (some (e.fOp==4)) (cond (e.fOp==5) (some (e.fOp==5)) (some (e.fOp==6)))):O Bool)=some (decide (3<=e.fOp)&&decide (e.fOp<=6)):=by
  by_cases h:3<=e.fOp/\e.fOp<=6
  ·have:e.fOp=3\/e.fOp=4\/e.fOp=5\/e.fOp=6:=om
   grind
  ·rw [F9 (show e.fOp≠3 by omega),F9 (show e.fOp≠4 by omega),F9 (show e.fOp≠5 by omega),F9 (show e.fOp≠6 by omega)]
   simp_all
 rw [hun];simp only [aH]
 cases Yd:(decide (3<=e.fOp)&&decide (e.fOp<=6)) with
 | true=>
  simp_all [bw,ai4,aH,jj,sm]
 | false=>
 have ai5:¬ (3<=e.fOp/\e.fOp<=6):=by
  simp_all
 simp only [aU];have hl1:1<e.fKids.length:=by rcases g.shape with h|h|h|h|h|h<;>omega
 obtain⟨g1,m1⟩:=g.EA hl1;have e1:decide (1<(e.fKids.length:Int))=true:=dQ om;have f1:=ih' _ m1 _ x.2.2 i1;rw [Ez _ 1 hl1,e1,f1]
 cases Wm:(e.fOp==25) with
 | true=>
  have am9:e.fOp=25:=by simpa using Wm
  have hl2:2<e.fKids.length:=by rcases g.shape with h|h|h|h|h|h<;>omega
  obtain⟨g2,m2⟩:=g.EA hl2;have e2:decide (2<(e.fKids.length:Int))=true:=dQ om;rw [Ez _ 2 hl2,e2,ih' _ m2 _ x.2.2 i1];simp only [bw,gz,aH]
  cases (x.1 != 0)<;>rfl
 | false=>
 simp only [aU,gz,aH];have hx:(x.1 != 0)=!(x.1==0):=rfl;unfold aaj
 have fin:((some (kC (e.fKids.getD 1 dw) x.2.2)).bind fun x9=>cond (x9.2.1 != 0) (some (0,x9.2.1,x9.2.2)) ((tQ F e.fOp x.1 x9.1).bind fun bW=>some (bW.1,bW.2,x9.2.2)))=some (cond ((kC (e.fKids.getD 1 dw) x.2.2).2.1 != 0) (0,(kC (e.fKids.getD 1 dw) x.2.2).2.1,(kC (e.fKids.getD 1 dw) x.2.2).2.2) ((sZ e.fOp x.1 (kC (e.fKids.getD 1 dw) x.2.2).1).1,(sZ e.fOp x.1 (kC (e.fKids.getD 1 dw) x.2.2).1).2,(kC (e.fKids.getD 1 dw) x.2.2).2.2)):=by
  grind [Wp]
 simp only [aH] at fin
 cases h23:(e.fOp==23) with
 | true=>
  have Tb:(e.fOp==24)=false:=F9 (by simp_all);rw [Tb,hx]
  cases (x.1==0) with
  | true=>rfl
  | false=>exact fin
 | false=>
  rw [hx]
  cases Tb:(e.fOp==24) with
  | true=>
   cases (x.1==0) with
   | true=>exact fin
   | false=>rfl
  | false=>exact fin
end Go.Proofs.YtlgmlcgjmcmmgaaGreatDoor.K
namespace Go.Proofs.YtlgmlcgjmcmmgaaGreatDoor.K
open Go.RT
set_option maxRecDepth 100000
theorem ae8{c:Nat}{m:Env}(F:Nat)(hF:200000<=F)(hm:Eo c m)(hc:c<=100000){e:TExpr}(g:Good e)(HB:e.fOp=26){a:Int}(ha:gw a):
  HH F (TExpr.mk e.fOp e.fN e.fName e.fKids) a (sx m)=some ((NM e.fN e.fName (a,0,m)).1,sx (NM e.fN e.fName (a,0,m)).2.2,(NM e.fN e.fName (a,0,m)).2.1):=by
 rw [TExpr.eta];unfold HH NM;have hlen:(sx m).length<=100000:=by rw [U1];have:=hm.len;omega
 have hg:=hm.get e.fName;rw [NK F _ _ om om,NL];simp;rw [Wq F _ om om]
 have lY:∀n:Int,gw n->((dB F n).bind fun x5=>(zZ F (sx m) e.fName x5).bind fun x6=>some (n,x6,(0:Int)))=some (n,sx (jq cL m e.fName (Lib.itoa n)),0):=fun n hn=>by
  rw [JC F om hn];simp;rw [bind_eq F _ _ _ om om,acD hm.nd];rfl
 cases hn:(e.fN != 0) with
 | false=>
  simp_all [aU,jj,aH,sm]
 | true=>
  have hcomp:zV e.fN=true:=by
   rcases g.facts.2.2.2.2 HB with h|h
   ·rw [h] at hn;cases hn
   ·exact h
  have hne:e.fN≠23/\e.fN≠24:=by
   unfold zV at hcomp
   grind
  simp
  cases (s7 (fO cL m e.fName [])).2 with
  | false=>rfl
  | true=>
   have hr:=KP e.fN (KQ (fO cL m e.fName [])) ha;rw [agZ F _ _ _ hne.1 hne.2];simp
   cases ((sZ e.fN (s7 (fO cL m e.fName [])).1 a).2 != 0) with
   | true=>rfl
   | false=>
    simp_all [aU,jj,aH,sm]
theorem abM:∀e,Good e->bF fun F n=>∀c m,Eo c m->c+nodes e<=100000->rN F n e (sx m)=some ((kC e m).1,sx (kC e m).2.2,(kC e m).2.1):=by
 apply Good.ind;intro e g ih;refine bF.succ ((bF.all ih).kB (bF.ge (p:=fun F _=>200000<=F) 200000 fun F n h _=>h) fun F n ih' hF c m hm hc=>?_);show Ga F (rN F n) e (sx m)=_;rw [Tk];unfold Ga evB
 cases h1:(e.fOp==1) with
 | true=>rfl
 | false=>
 cases h2:(e.fOp==2) with
 | true=>
  simp only [bw,aU];have hlen:(sx m).length<=100000:=by rw [U1];have:=hm.len;omega
  have hg:=hm.get e.fName;rw [NK F _ _ om om,NL];simp only [aH];rw [Wq F _ om om];simp only [aH];unfold II
  grind
 | false=>
 simp only [gO] at h1 h2;have hl:0<e.fKids.length:=by rcases g.shape with h|h|h|h|h|h<;>omega
 obtain⟨g0,m0⟩:=g.EA hl;have n0:=aal hl;obtain⟨i1,i2⟩:=NN _ g0 c m hm;have e0:decide (0<(e.fKids.length:Int))=true:=dQ om;simp only [aU,e0,gz];rw [Ez _ 0 hl,ih' _ m0 c m hm om];simp only [aH];generalize kC (e.fKids.getD 0 dw) m=x at i1 i2⊢
 cases hx0:(x.2.1 != 0) with
 | true=>rfl
 | false=>
 have hx0':x.2.1=0:=by simpa using hx0
 simp only [aU];have hun:(cond (decide (3<=e.fOp)) (some (decide (e.fOp<=6))) (some false):O Bool)=some (decide (3<=e.fOp)&&decide (e.fOp<=6)):=by grind
 rw [hun];simp only [aH]
 cases Yd:(decide (3<=e.fOp)&&decide (e.fOp<=6)) with
 | true=>
  have ai5:3<=e.fOp/\e.fOp<=6:=by simpa using Yd
  have HB:(e.fOp==26)=false:=F9 om;rw [HB]
  simp_all [bw,aU,am8]
 | false=>
 have ai5:¬ (3<=e.fOp/\e.fOp<=6):=by
  simp_all
 simp only [aU]
 cases HB:(e.fOp==26) with
 | true=>
  have apI:e.fOp=26:=by simpa using HB
  simp only [bw]
  grind [ae8,Prod.ext]
 | false=>
 simp only [gO] at HB;simp only [aU];have hl1:1<e.fKids.length:=by rcases g.shape with h|h|h|h|h|h<;>omega
 obtain⟨g1,m1⟩:=g.EA hl1;have n01:=HG (l:=e.fKids) (i:=0) (j:=1) om hl1;have ne:=F4 e;have e1:decide (1<(e.fKids.length:Int))=true:=dQ om;have f1:=ih' _ m1 _ x.2.2 i1 om;rw [Ez _ 1 hl1,e1,f1]
 cases Wm:(e.fOp==25) with
 | true=>
  have am9:e.fOp=25:=by simpa using Wm
  have hl2:2<e.fKids.length:=by rcases g.shape with h|h|h|h|h|h<;>omega
  obtain⟨g2,m2⟩:=g.EA hl2;have n02:=HG (l:=e.fKids) (i:=0) (j:=2) om hl2;have e2:decide (2<(e.fKids.length:Int))=true:=dQ om;rw [Ez _ 2 hl2,e2,ih' _ m2 _ x.2.2 i1 om];simp only [bw,gz,aH]
  cases (x.1 != 0)<;>rfl
 | false=>
 simp only [aU,gz,aH];have hx:(x.1 != 0)=!(x.1==0):=rfl;unfold aaj
 cases h23:(e.fOp==23) with
 | true=>
  have apJ:e.fOp=23:=by simpa using h23
  have Tb:(e.fOp==24)=false:=F9 om;rw [Tb,hx]
  cases h0:(x.1==0) with
  | true=>rfl
  | false=>
   simp only [bw,aU,aH,Rr,Ro,z6]
   cases ((kC (e.fKids.getD 1 dw) x.2.2).2.1 != 0) with
   | true=>rfl
   | false=>
    have:sZ e.fOp x.1 (kC (e.fKids.getD 1 dw) x.2.2).1=(tr ((kC (e.fKids.getD 1 dw) x.2.2).1 != 0),0):=by
     rw [apJ];show (tr (x.1 != 0&&(kC (e.fKids.getD 1 dw) x.2.2).1 != 0),(0:Int))=_;rw [hx,h0];rfl
    rw [this]
    rfl
 | false=>
  cases Tb:(e.fOp==24) with
  | true=>
   have apK:e.fOp=24:=by simpa using Tb
   rw [hx]
   cases h0:(x.1==0) with
   | false=>rfl
   | true=>
    simp only [bw,aU,aH,Rr,Ro,z6,kn]
    cases ((kC (e.fKids.getD 1 dw) x.2.2).2.1 != 0) with
    | true=>rfl
    | false=>
     have:sZ e.fOp x.1 (kC (e.fKids.getD 1 dw) x.2.2).1=(tr ((kC (e.fKids.getD 1 dw) x.2.2).1 != 0),0):=by
      rw [apK];show (tr (x.1 != 0||(kC (e.fKids.getD 1 dw) x.2.2).1 != 0),(0:Int))=_
      simp_all
     rw [this]
     rfl
  | false=>
   simp only [gO] at h23 Tb;simp only [aU,aH,Ro]
   grind [agZ]
def vX(e:TExpr)(l:J cw):Int×J cw×Int:=
 cond (gW e 0 != 0) (0,[],gW e 0) (cond ((kC e (sY l)).2.1 != 0) (0,[],(kC e (sY l)).2.1) ((kC e (sY l)).1,sx (kC e (sY l)).2.2,0))
theorem Lw{α β:Type}(f:α->β):∀(l:J α)(t:J β),l.foldl (fun t k=>t++[f k]) t=t++l.map f
 | [],t=>by simp
 | x::l,t=>by rw [Dc,Lw f l];simp
def QW(l:J cw):Prop:=∀b,b∈l->b.fName.length<=60/\b.bJ.length<=4096
theorem Tm(e:TExpr):Vd e->Nms e:=by
 induction e using TExpr.ind with
 | h op n name kids ih=>
  intro v
  cases v with
  | mk _ _ _ _ h1 h2 h3 h4 h5 h6 h7=>
   refine .mk op n name kids ?_ fun k hk=>ih k hk (h7 k hk)
   cases hn:KN op with
   | true=>
    have:=h6 hn;unfold rName at this
    grind
   | false=>
    simp_all
theorem aam{e:TExpr}(ho:ic e){l:J cw}(hl:l.length<=1000)(hb:QW l)(hn:nodes e<=10000):bF fun F _=>CR F e l=some (vX e l):=by
 by_cases hv:gW e 0=0
 ·have g:Good e:=⟨HD e 0 hv,ho,Tm e (HD e 0 hv)⟩
  refine (Jz ho).BM (WU e g).fst (bF.ge 100000 fun F n h _=>h) fun F _ h1 h2 hF=>?_;unfold CR vX;simp only [TExpr.eta];rw [h1,hv];have hm:=F7 hb;obtain⟨k1,k2⟩:=NN e g _ _ hm;refine Ch l (fun i (t:Env)=>((i:Int),t)) (fun m b=>jq cL m b.fName b.bJ) (fun _ _=>True) om rfl trivial ?_ (fun _ _ _ _=>trivial) ?_
  ·intro i h t rc _
   simp only [wz h,ck,gd h,bh (i:=i) om];rfl
  ·intro rc _
   simp only [F0];show ((jg F F e (sY l)).bind _)=_;rw [h2 _ _ hm];simp only [aH];generalize kC e (sY l)=x at k1 k2⊢
   cases (x.2.1 != 0) with
   | true=>rfl
   | false=>
    rw [aoD k1 om]
    have hks:(qV (x.2.2.map (·.1))).length<=11000:=by
     rw [(zU _).length_eq,wJ];have:=k1.len;omega
    refine Ch (qV (x.2.2.map (·.1))) (fun i (t:J cw)=>(t,(i:Int))) (fun t k=>t++[Bk x.2.2 k]) (fun i t=>t.length<=i) om rfl si ?_ ?_ ?_
    ·intro i h t rc hI
     simp only [wz h,ck,gd h,bh (i:=i) om];rw [ig bH om];rfl
    ·simp_all
    ·intro rc _
     simp only [F0];rw [Lw];rfl
 ·refine (Jz ho).mono fun F _ h1=>?_
  unfold CR vX;simp
  grind
theorem JD{e:TExpr}(ho:ic e):bF fun F _=>Co F e=some (gW e 0):=
 (PX ho).fst.mono fun F _ h=>by
  unfold Co P7
  simp_all
theorem abN{e:TExpr}(ho:ic e){l:J cw}(hl:l.length<=1000)(hb:QW l)(hn:nodes e<=10000):bF fun F _=>Aa F e l=some (vX e l):=by
 by_cases hv:gW e 0=0
 ·have g:Good e:=⟨HD e 0 hv,ho,Tm e (HD e 0 hv)⟩
  refine (JD ho).BM (abM e g).fst (bF.ge 100000 fun F n h _=>h) fun F _ h1 h2 hF=>?_;unfold Aa vX;simp;rw [h1,hv];rw [agX F l om hl hb];show ((rN F F e (sx (sY l))).bind _)=_;rw [h2 _ _ (F7 hb) om]
  grind
 ·refine (JD ho).mono fun F _ h1=>?_
  unfold Aa vX;simp
  grind
theorem ag0{e:TExpr}(ho:ic e){l:J cw}(hl:l.length<=1000)(hb:QW l)(hn:nodes e<=10000):(vX e l).2.1.length<=100000:=by
 unfold vX
 cases hv:(gW e 0 != 0) with
 | true=>simp
 | false=>
  have iZ:gW e 0=0:=by simpa using hv
  have g:Good e:=⟨HD e 0 iZ,ho,Tm e (HD e 0 iZ)⟩;obtain⟨k1,k2⟩:=NN e g _ _ (F7 hb)
  cases ((kC e (sY l)).2.1 != 0) with
  | true=>simp
  | false=>
   simp;rw [U1];have:=k1.len;omega
end Go.Proofs.YtlgmlcgjmcmmgaaGreatDoor.K
namespace Go.Proofs.YtlgmlcgjmcmmgaaGreatDoor.K
open Go.RT
set_option maxRecDepth 100000
def ag1:J (Bs×Int×Int):=[([124,124],3,24),([38,38],4,23),([124],5,22),([94],6,21),([38],7,20),([61,61],8,18),([33,61],8,19),([60],9,14),([62],9,15),([60,61],9,16),([62,61],9,17),([60,60],10,12),([62,62],10,13),([43],11,10),([45],11,11),([42],12,7),([47],12,8),([37],12,9)]
def ga(x:Bs):Int×Int:=match ag1.find? (fun p=>p.1==x) with|some p=>p.2|none=>(0,0)
def ana:J (Bs×Int):=[([61],0),([43,61],10),([45,61],11),([42,61],7),([47,61],8),([37,61],9),([60,60,61],12),([62,62,61],13),([38,61],20),([94,61],21),([124,61],22)]
def rO(x:Bs):Int:=match ana.find? (fun p=>p.1==x) with|some p=>p.2|none=>-1
def tE(x:Bs):Int:=cond (x==[45]) 3 (cond (x==[43]) 4 (cond (x==[33]) 5 (cond (x==[126]) 6 0)))
structure Tab(x:Bs):Prop where
 bin:∀G s p,jC (G+20) s 3 p x=some (ga x)
 asg:∀G p,pE (G+20) ⟨3,p,x⟩=some (cond (rO x == -1) 0 (rO x),!(rO x == -1))
 asr:∀G,qu (G+20) x=some (rO x)
 bir:∀G l,kD (G+20) x l=some (cond ((ga x).1==l) (ga x).2 0)
 lv:0<=(ga x).1/\(ga x).1<=12/\((ga x).1=0\/3<=(ga x).1)
 op:(ga x).1≠0->7<=(ga x).2/\(ga x).2<=24/\(lq (ga x).2).1=(ga x).1/\(lq (ga x).2).2=x
theorem ai7{x:Bs}(h:ga x=(0,0))(hr:∀G l,kD (G+20) x l=some 0):∀G l,kD (G+20) x l=some (cond ((ga x).1==l) (ga x).2 0):=by
 simp_all
theorem ai8{x:Bs}{lv op:Int}(h:ga x=(lv,op))(hr:∀G l,kD (G+20) x l=cond (lv==l) (some op) (some 0)):∀G l,kD (G+20) x l=some (cond ((ga x).1==l) (ga x).2 0):=by
 grind
theorem ala:∀x,x∈([]::oz)->Tab x:=by
 intro x hx;simp [oz,xZ,ae1] at hx
 rcases hx with rfl|rfl|rfl|rfl|rfl|rfl|rfl|rfl|rfl|rfl|rfl|rfl|rfl|rfl|rfl|rfl|rfl|rfl|rfl|rfl|rfl|rfl|rfl|rfl|rfl|rfl|rfl|rfl|rfl|rfl|rfl|rfl|rfl|rfl|rfl|rfl<;>
  exact⟨fun G s p=>by kernel_rfl,fun G p=>by kernel_rfl,fun G=>by kernel_rfl,(by first|exact ai7 de (fun G l=>by kernel_rfl)|exact ai8 rfl (fun G l=>by kernel_rfl)),de,de⟩
def kd(s:Bs)(i:Nat):Int:=(sW s i).uo
def tx(s:Bs)(i:Nat):Bs:=(sW s i).fG
def sy(s:Bs)(i:Nat):Bs:=mP (s.drop (skip s i))
def nx(s:Bs)(i:Nat):Nat:=skip s i+(tx s i).length
inductive apL(s:Bs)(i:Nat):Prop
 | fin (h:sW s i=⟨0,skip s i,[]⟩) (hs:sy s i=[]) (hw:kM s (skip s i)=[]) (he:s.length<=skip s i)
 | num (w:Bs) (b:UInt8) (h:sW s i=⟨1,skip s i,b::w⟩) (hs:sy s i=[]) (hw:kM s (skip s i)=b::w) (hd:dg b=true) (hl:skip s i+(b::w).length<=s.length)
 | nam (w:Bs) (b:UInt8) (h:sW s i=⟨2,skip s i,b::w⟩) (hs:sy s i=[]) (hw:kM s (skip s i)=b::w) (hd:le b=true) (hl:skip s i+(b::w).length<=s.length)
 | op (x:Bs) (h:sW s i=⟨3,skip s i,x⟩) (hs:sy s i=x) (hw:kM s (skip s i)=[]) (hm:x∈oz) (hl:skip s i+x.length<=s.length)
 | oth (b:UInt8) (h:sW s i=⟨4,skip s i,[b]⟩) (hs:sy s i=[]) (hw:kM s (skip s i)=[]) (hl:skip s i+1<=s.length)
theorem ag2:∀n:Fin 256,fo (UInt8.ofNat n.val)=true->∀o,o∈oz->[UInt8.ofNat n.val].isPrefixOf o=false:=by decide +kernel
theorem aoF(b:UInt8)(h:fo b=true):∀o,o∈oz->[b].isPrefixOf o=false:=
 QU (P:=fun b=>fo b=true->∀o,o∈oz->[b].isPrefixOf o=false) ag2 b h
theorem ai9(b:UInt8)(m:Bs)(h:fo b=true):mP (b::m)=[]:=by
 rcases NI (b::m) with h1|⟨h1,h2⟩
 ·exact h1
 ·have hne:=BP _ h1
  have:=aoF b h _ h1;revert this h2 hne
  cases mP (b::m) with
  | nil=>simp_all
  | cons c o=>
   simp_all
theorem lK(s:Bs)(i:Nat)(hi:i<=s.length):apL s i:=by
 obtain⟨h1,h2⟩:=gQ s i hi;have e1:sW s i=Te s (skip s i):=rfl;have e2:sy s i=mP (s.drop (skip s i)):=rfl;generalize hj:skip s i=j at h1 h2 e1 e2;unfold Te at e1
 cases hd:s.drop j with
 | nil=>
  rw [hd] at e1 e2;refine .fin (by rw [hj];exact e1) e2 (by rw [hj];unfold kM;rw [hd];rfl) ?_
  simp_all
 | cons b m=>
  have hlen:(s.drop j).length=m.length+1:=by rw [hd];rfl
  rw [Mm] at hlen;rw [hd] at e1 e2;simp only [] at e1
  cases hf:fo b with
  | true=>
   have hw:kM s j=b::m.takeWhile fo:=by unfold kM;simp_all
   have hl:j+(b::m.takeWhile fo).length<=s.length:=by
    grind [ya,List.length_cons]
   rw [ai9 b m hf] at e2;rw [hf,hw] at e1
   cases hdg:dg b with
   | true=>rw [hdg] at e1;exact .num (m.takeWhile fo) b (by rw [hj];exact e1) e2 (by rw [hj];exact hw) hdg (by rw [hj];exact hl)
   | false=>
    rw [hdg] at e1;refine .nam (m.takeWhile fo) b (by rw [hj];exact e1) e2 (by rw [hj];exact hw) ?_ (by rw [hj];exact hl)
    simp_all [aj9]
  | false=>
   have hw:kM s j=[]:=by unfold kM;simp_all
   rw [hf] at e1;rcases NI (b::m) with ho|⟨ho1,ho2⟩
   ·rw [ho] at e1 e2
    exact .oth b (by rw [hj];exact e1) e2 (by rw [hj];exact hw) (by rw [hj];omega)
   ·have hne:=BP _ ho1
    have:(mP (b::m)==[])=false:=by simpa using hne
    rw [this] at e1;have hle:=ho2.length_le;simp at hle;exact .op (mP (b::m)) (by rw [hj];exact e1) e2 (by rw [hj];exact hw) ho1 (by rw [hj];omega)
theorem NO(s:Bs)(i:Nat):sy s i∈([]::oz):=by
 unfold sy
 grind [NI,List.mem_cons_of_mem]
theorem xD(s:Bs)(i:Nat):Tab (sy s i):=ala _ (NO s i)
theorem kg(s:Bs)(i:Nat)(hi:i<=s.length):nx s i<=s.length/\i<=nx s i/\(kd s i≠0->i<nx s i):=by
 obtain⟨h1,h2⟩:=gQ s i hi;unfold nx tx kd;rcases lK s i hi with⟨h,_,_,_⟩|⟨w,b,h,_,_,_,hl⟩|⟨w,b,h,_,_,_,hl⟩|⟨x,h,_,_,hm,hl⟩|⟨b,h,_,_,hl⟩<;>rw [h]<;>simp at *
 ·simp_all
 ·grind
 ·grind
 ·have:x.length≠0:=by
   simp_all [BP]
  grind
 grind
theorem Ab(s:Bs)(i:Nat)(hi:i<=s.length)(h:sy s i≠[]):kd s i=3/\tx s i=sy s i:=by
 unfold kd tx;rcases lK s i hi with⟨h',hs,_,_⟩|⟨w,b,h',hs,_,_,hl⟩|⟨w,b,h',hs,_,_,hl⟩|⟨x,h',hs,_,hm,hl⟩|⟨b,h',hs,_,hl⟩
 ·exact absurd hs h
 ·exact absurd hs h
 ·exact absurd hs h
 ·simp_all
 ·exact absurd hs h
inductive oa
 | ok (e:TExpr) (j:Nat)
 | err (p:Nat) (c:Int)
inductive mJ
 | expr
 | cond
 | oper (l:Int)
 | loop (l:Int) (a:TExpr)
 | un
 | mY
def je(s:Bs)(i:Nat):Int:=cond (kd s i==2) (rO (sy s (nx s i))) (-1)
inductive D(s:Bs):mJ->Nat->oa->Prop
 | Ac {i:Nat} {r:oa} (h:je s i=-1) (d:D s .cond i r):D s .expr i r
 | Ad {i:Nat} (h:je s i≠-1) (hn:rName (tx s i)=false):D s .expr i (.err (skip s i) 10)
 | EB {i j:Nat} {e:TExpr} (h:je s i≠-1) (hn:rName (tx s i)=true) (d:D s .expr (nx s (nx s i)) (.ok e j)):D s .expr i (.ok (.mk 26 (je s i) (tx s i) [e]) j)
 | EC {i p:Nat} {c:Int} (h:je s i≠-1) (hn:rName (tx s i)=true) (d:D s .expr (nx s (nx s i)) (.err p c)):D s .expr i (.err p c)
 | EF {i p:Nat} {c:Int} (d:D s (.oper 3) i (.err p c)):D s .cond i (.err p c)
 | EG {i j:Nat} {a:TExpr} (d:D s (.oper 3) i (.ok a j)) (h:sy s j≠[63]):D s .cond i (.ok a j)
 | EH {i j p:Nat} {c:Int} {a:TExpr} (d:D s (.oper 3) i (.ok a j)) (h:sy s j=[63]) (d2:D s .expr (nx s j) (.err p c)):D s .cond i (.err p c)
 | EI {i j k:Nat} {a b:TExpr} (d:D s (.oper 3) i (.ok a j)) (h:sy s j=[63]) (d2:D s .expr (nx s j) (.ok b k)) (h2:sy s k≠[58]):D s .cond i (.err (skip s k) 6)
 | KR {i j k p:Nat} {c:Int} {a b:TExpr} (d:D s (.oper 3) i (.ok a j)) (h:sy s j=[63]) (d2:D s .expr (nx s j) (.ok b k)) (h2:sy s k=[58]) (d3:D s .cond (nx s k) (.err p c)):D s .cond i (.err p c)
 | EJ {i j k m:Nat} {a b e:TExpr} (d:D s (.oper 3) i (.ok a j)) (h:sy s j=[63]) (d2:D s .expr (nx s j) (.ok b k)) (h2:sy s k=[58]) (d3:D s .cond (nx s k) (.ok e m)):D s .cond i (.ok (.mk 25 0 [] [a,b,e]) m)
 | Tn {l:Int} {i p:Nat} {c:Int} (d:D s .un i (.err p c)):D s (.oper l) i (.err p c)
 | U2 {l:Int} {i j:Nat} {a:TExpr} {r:oa} (d:D s .un i (.ok a j)) (d2:D s (.loop l a) j r):D s (.oper l) i r
 | vh {l:Int} {i:Nat} {a:TExpr} (h:(ga (sy s i)).1<l):D s (.loop l a) i (.ok a i)
 | Cp {l:Int} {i p:Nat} {c:Int} {a:TExpr} (h:l<=(ga (sy s i)).1) (d:D s (.oper ((ga (sy s i)).1+1)) (nx s i) (.err p c)):D s (.loop l a) i (.err p c)
 | Gb {l:Int} {i j:Nat} {a b:TExpr} {r:oa} (h:l<=(ga (sy s i)).1) (d:D s (.oper ((ga (sy s i)).1+1)) (nx s i) (.ok b j)) (d2:D s (.loop l (.mk (ga (sy s i)).2 0 [] [a,b])) j r):D s (.loop l a) i r
 | Ae {i:Nat} {r:oa} (h:tE (sy s i)=0) (d:D s .mY i r):D s .un i r
 | EK {i p:Nat} {c:Int} (h:tE (sy s i)≠0) (d:D s .un (nx s i) (.err p c)):D s .un i (.err p c)
 | KS {i j:Nat} {a:TExpr} (h:tE (sy s i)≠0) (d:D s .un (nx s i) (.ok a j)):D s .un i (.ok (.mk (tE (sy s i)) 0 [] [a]) j)
 | EM {i:Nat} (h:kd s i=1) (hv:(nS (tx s i)).2=0):D s .mY i (.ok (.mk 1 (nS (tx s i)).1 [] []) (nx s i))
 | Af {i:Nat} (h:kd s i=1) (hv:(nS (tx s i)).2≠0):D s .mY i (.err (skip s i) (nS (tx s i)).2)
 | EN {i:Nat} (h:kd s i=2) (hv:rName (tx s i)=true):D s .mY i (.ok (.mk 2 0 (tx s i) []) (nx s i))
 | Ag {i:Nat} (h:kd s i=2) (hv:rName (tx s i)=false):D s .mY i (.err (skip s i) 10)
 | EO {i:Nat} (h1:kd s i≠1) (h2:kd s i≠2) (h:sy s i≠[40]):D s .mY i (.err (skip s i) 6)
 | KT {i p:Nat} {c:Int} (h:sy s i=[40]) (d:D s .expr (nx s i) (.err p c)):D s .mY i (.err p c)
 | vY {i j:Nat} {e:TExpr} (h:sy s i=[40]) (d:D s .expr (nx s i) (.ok e j)) (h2:sy s j≠[41]):D s .mY i (.err (skip s j) 6)
 | KU {i j:Nat} {e:TExpr} (h:sy s i=[40]) (d:D s .expr (nx s i) (.ok e j)) (h2:sy s j=[41]):D s .mY i (.ok e (nx s j))
def mJ.anb:mJ->Bool
 | .loop _ _=>true
 | _=>false
def aoG(s:Bs)(c:mJ)(i:Nat):oa->Prop
 | .ok e j=>i<=j/\j<=s.length/\(c.anb=false->i<j)
 | .err p _=>p<=s.length
theorem NP{s:Bs}{i:Nat}(h:je s i≠-1):kd s i=2/\rO (sy s (nx s i))≠-1/\je s i=rO (sy s (nx s i)):=by
 unfold je at h⊢
 grind
theorem aan{x:Bs}(h:rO x≠-1):x≠[]:=fun e=>h (by rw [e];rfl)
theorem yE{x:Bs}{l:Int}(hl:0<l)(h:l<=(ga x).1):x≠[]:=fun e=>by rw [e] at h;simp [ga,ag1] at h;omega
theorem yS{x:Bs}(h:tE x≠0):x≠[]:=fun e=>h (by rw [e];rfl)
def mJ.okL:mJ->Prop
 | .oper l=>0<l
 | .loop l _=>0<l
 | _=>True
theorem dy{s:Bs}{i:Nat}(hi:i<=s.length)(h:sy s i≠[]):nx s i<=s.length/\i<nx s i:=by
 simp_all [kg,Ab]
theorem vi{s:Bs}{i:Nat}(hi:i<=s.length)(h:je s i≠-1):nx s i<=s.length/\i<nx s i/\nx s (nx s i)<=s.length/\i<nx s (nx s i):=by
 grind [NP,kg,dy,aan]
theorem lM{s:Bs}{c:mJ}{i:Nat}{r:oa}(d:D s c i r):i<=s.length->c.okL->aoG s c i r:=by
 induction d with
 | @Ac i r h d ih=>
  intro hi _;have:=ih hi trivial
  cases r with
  | ok e j=>exact this
  | err p c=>exact this
 | Ad h hn=>intro hi _;exact (gQ s _ hi).1
 | EB h hn d ih=>
  intro hi _;obtain⟨a,b,c,e⟩:=vi hi h;obtain⟨x,y,z⟩:=ih c trivial
  exact⟨om,y,fun _=>om⟩
 | EC h hn d ih=>intro hi _;exact ih (vi hi h).2.2.1 trivial
 | EF d ih=>intro hi _;exact ih hi (show (0:Int)<3 by decide)
 | EG d h ih=>intro hi _;exact ih hi (show (0:Int)<3 by decide)
 | EH d h d2 ih ih2=>
  intro hi _;obtain⟨x,y,z⟩:=ih hi (show (0:Int)<3 by decide)
  exact ih2 (dy y (by rw [h];decide)).1 trivial
 | EI d h d2 h2 ih ih2=>
  intro hi _;obtain⟨x,y,z⟩:=ih hi (show (0:Int)<3 by decide);obtain⟨x2,y2,z2⟩:=ih2 (dy y (by rw [h];decide)).1 trivial
  exact (gQ s _ y2).1
 | KR d h d2 h2 d3 ih ih2 ih3=>
  intro hi _;obtain⟨x,y,z⟩:=ih hi (show (0:Int)<3 by decide);obtain⟨x2,y2,z2⟩:=ih2 (dy y (by rw [h];decide)).1 trivial
  exact ih3 (dy y2 (by rw [h2];decide)).1 trivial
 | EJ d h d2 h2 d3 ih ih2 ih3=>
  intro hi _;obtain⟨x,y,z⟩:=ih hi (show (0:Int)<3 by decide);obtain⟨m1,m2⟩:=dy y (by rw [h];decide);obtain⟨x2,y2,z2⟩:=ih2 m1 trivial;obtain⟨m3,m4⟩:=dy y2 (by rw [h2];decide);obtain⟨x3,y3,z3⟩:=ih3 m3 trivial
  exact⟨om,y3,fun _=>om⟩
 | Tn d ih=>intro hi _;exact ih hi trivial
 | @U2 l i j a r d d2 ih ih2=>
  intro hi hl;obtain⟨x,y,z⟩:=ih hi trivial;have:=ih2 y hl
  cases r with
  | ok e j=>
   obtain⟨x2,y2,_⟩:=this;have:=z rfl
   exact⟨om,y2,fun _=>om⟩
  | err p c=>exact this
 | vh h=>intro hi _;exact⟨ef _,hi,fun h=>by cases h⟩
 | @Cp l i p c a h d ih=>
  intro hi hl;have hl:0<l:=hl
  exact ih (dy hi (yE hl h)).1 (show (0:Int)<_ by omega)
 | @Gb l i j a b r h d d2 ih ih2=>
  intro hi hl;have hl':0<l:=hl;obtain⟨m1,m2⟩:=dy hi (yE hl' h);obtain⟨x,y,z⟩:=ih m1 (show (0:Int)<_ by omega);have:=ih2 y hl
  cases r with
  | ok e j=>
   obtain⟨x2,y2,_⟩:=this
   exact⟨om,y2,fun h=>by cases h⟩
  | err p c=>exact this
 | @Ae i r h d ih=>
  intro hi _;have:=ih hi trivial
  cases r with
  | ok e j=>exact this
  | err p c=>exact this
 | EK h d ih=>intro hi _;exact ih (dy hi (yS h)).1 trivial
 | KS h d ih=>
  intro hi _;obtain⟨m1,m2⟩:=dy hi (yS h);obtain⟨x,y,z⟩:=ih m1 trivial
  exact⟨om,y,fun _=>om⟩
 | EM h hv=>
  intro hi _;obtain⟨a,b,c⟩:=kg s _ hi;have c:=c (by rw [h];decide)
  exact⟨b,a,fun _=>c⟩
 | Af h hv=>intro hi _;exact (gQ s _ hi).1
 | EN h hv=>
  intro hi _;obtain⟨a,b,c⟩:=kg s _ hi;have c:=c (by rw [h];decide)
  exact⟨b,a,fun _=>c⟩
 | Ag h hv=>intro hi _;exact (gQ s _ hi).1
 | EO h1 h2 h=>intro hi _;exact (gQ s _ hi).1
 | KT h d ih=>intro hi _;exact ih (dy hi (by rw [h];decide)).1 trivial
 | vY h d h2 ih=>
  intro hi _;obtain⟨x,y,z⟩:=ih (dy hi (by rw [h];decide)).1 trivial
  exact (gQ s _ y).1
 | KU h d h2 ih=>
  intro hi _;obtain⟨m1,m2⟩:=dy hi (by rw [h];decide);obtain⟨x,y,z⟩:=ih m1 trivial;obtain⟨m3,m4⟩:=dy y (by rw [h2];decide);exact⟨om,m3,fun _=>om⟩
def mJ.vj:mJ->Nat
 | .expr=>4
 | .cond=>3
 | .oper _=>2
 | .loop _ _=>0
 | .un=>1
 | .mY=>0
theorem alb(s:Bs)(n:Nat):∀(c:mJ)(i:Nat),i<=s.length->c.okL->(s.length-i)*5+c.vj<n->∃r,D s c i r:=by
 induction n with
 | zero=>intro c i _ _ h;omega
 | succ n ih=>
  intro c i hi hc hm
  cases c with
  | expr=>
   simp [mJ.vj] at hm;by_cases h:je s i=-1
   ·obtain⟨r,d⟩:=ih .cond i hi trivial (by simp [mJ.vj];omega)
    exact⟨r,.Ac h d⟩
   ·obtain⟨_,_,m1,m2⟩:=vi hi h
    cases hn:rName (tx s i) with
    | false=>exact⟨_,.Ad h hn⟩
    | true=>
     obtain⟨r,d⟩:=ih .expr _ m1 trivial (by simp [mJ.vj];omega)
     cases r with
     | ok e j=>exact⟨_,.EB h hn d⟩
     | err p c=>exact⟨_,.EC h hn d⟩
  | cond=>
   simp [mJ.vj] at hm;have h3:=show (0:Int)<3 by decide
   obtain⟨r,d⟩:=ih (.oper 3) i hi h3 (by simp [mJ.vj];omega)
   cases r with
   | err p c=>exact⟨_,.EF d⟩
   | ok a j=>
    obtain⟨x,y,z⟩:=lM d hi h3;by_cases h:sy s j=[63]
    ·obtain⟨m1,m2⟩:=dy y (by rw [h];decide)
     obtain⟨r,d2⟩:=ih .expr _ m1 trivial (by simp [mJ.vj];omega)
     cases r with
     | err p c=>exact⟨_,.EH d h d2⟩
     | ok b k=>
      obtain⟨x2,y2,z2⟩:=lM d2 m1 trivial;by_cases h2:sy s k=[58]
      ·obtain⟨m3,m4⟩:=dy y2 (by rw [h2];decide)
       obtain⟨r,d3⟩:=ih .cond _ m3 trivial (by simp [mJ.vj];omega)
       cases r with
       | err p c=>exact⟨_,.KR d h d2 h2 d3⟩
       | ok e m=>exact⟨_,.EJ d h d2 h2 d3⟩
      ·exact⟨_,.EI d h d2 h2⟩
    ·exact⟨_,.EG d h⟩
  | oper l=>
   simp [mJ.vj] at hm;obtain⟨r,d⟩:=ih .un i hi trivial (by simp [mJ.vj];omega)
   cases r with
   | err p c=>exact⟨_,.Tn d⟩
   | ok a j=>
    obtain⟨x,y,z⟩:=lM d hi trivial;obtain⟨r,d2⟩:=ih (.loop l a) j y hc (by simp [mJ.vj];omega)
    exact⟨_,.U2 d d2⟩
  | loop l a=>
   have hl:0<l:=hc;by_cases h:(ga (sy s i)).1<l
   ·exact⟨_,.vh h⟩
   ·have h:l<=(ga (sy s i)).1:=om
    obtain⟨m1,m2⟩:=dy hi (yE hl h);have ho:(mJ.oper ((ga (sy s i)).1+1)).okL:=show (0:Int)<_ by omega
    obtain⟨r,d⟩:=ih (.oper ((ga (sy s i)).1+1)) _ m1 ho (by simp [mJ.vj];omega)
    cases r with
    | err p c=>exact⟨_,.Cp h d⟩
    | ok b j=>
     obtain⟨x,y,z⟩:=lM d m1 ho;obtain⟨r,d2⟩:=ih (.loop l (.mk (ga (sy s i)).2 0 [] [a,b])) j y hc (by simp [mJ.vj];omega)
     exact⟨_,.Gb h d d2⟩
  | un=>
   simp [mJ.vj] at hm;by_cases h:tE (sy s i)=0
   ·obtain⟨r,d⟩:=ih .mY i hi trivial (by simp [mJ.vj];omega)
    exact⟨_,.Ae h d⟩
   ·obtain⟨m1,m2⟩:=dy hi (yS h)
    obtain⟨r,d⟩:=ih .un _ m1 trivial (by simp [mJ.vj];omega)
    cases r with
    | ok e j=>exact⟨_,.KS h d⟩
    | err p c=>exact⟨_,.EK h d⟩
  | mY=>
   by_cases h1:kd s i=1
   ·by_cases hv:(nS (tx s i)).2=0
    ·exact⟨_,.EM h1 hv⟩
    ·exact⟨_,.Af h1 hv⟩
   ·by_cases h2:kd s i=2
    ·cases hv:rName (tx s i) with
     | true=>exact⟨_,.EN h2 hv⟩
     | false=>exact⟨_,.Ag h2 hv⟩
    ·by_cases h:sy s i=[40]
     ·obtain⟨m1,m2⟩:=dy hi (by rw [h];decide)
      obtain⟨r,d⟩:=ih .expr _ m1 trivial (by simp [mJ.vj];omega)
      cases r with
      | err p c=>exact⟨_,.KT h d⟩
      | ok e j=>
       by_cases h2:sy s j=[41]
       ·exact⟨_,.KU h d h2⟩
       ·exact⟨_,.vY h d h2⟩
     ·exact⟨_,.EO h1 h2 h⟩
theorem anc(s:Bs)(i:Nat)(hi:i<=s.length):∃r,D s .expr i r:=alb s _ .expr i hi trivial (Ij _)
end Go.Proofs.YtlgmlcgjmcmmgaaGreatDoor.K
namespace Go.Proofs.YtlgmlcgjmcmmgaaGreatDoor.K
open Go.RT
abbrev lX(s:Bs)(i:Nat):Int:=(ga (sy s i)).1
inductive U3
 | expr
 | cond
 | level (l:Int)
 | loop (l:Int) (a:TExpr)
 | un
 | mY
inductive RD(s:Bs):U3->Nat->oa->Prop
 | Ac {i:Nat} {r:oa} (h:je s i=-1) (d:RD s .cond i r):RD s .expr i r
 | Ad {i:Nat} (h:je s i≠-1) (hn:rName (tx s i)=false):RD s .expr i (.err (skip s i) 10)
 | EB {i j:Nat} {e:TExpr} (h:je s i≠-1) (hn:rName (tx s i)=true) (d:RD s .expr (nx s (nx s i)) (.ok e j)):RD s .expr i (.ok (.mk 26 (je s i) (tx s i) [e]) j)
 | EC {i p:Nat} {c:Int} (h:je s i≠-1) (hn:rName (tx s i)=true) (d:RD s .expr (nx s (nx s i)) (.err p c)):RD s .expr i (.err p c)
 | EF {i p:Nat} {c:Int} (d:RD s (.level 3) i (.err p c)):RD s .cond i (.err p c)
 | EG {i j:Nat} {a:TExpr} (d:RD s (.level 3) i (.ok a j)) (h:sy s j≠[63]):RD s .cond i (.ok a j)
 | EH {i j p:Nat} {c:Int} {a:TExpr} (d:RD s (.level 3) i (.ok a j)) (h:sy s j=[63]) (d2:RD s .expr (nx s j) (.err p c)):RD s .cond i (.err p c)
 | EI {i j k:Nat} {a b:TExpr} (d:RD s (.level 3) i (.ok a j)) (h:sy s j=[63]) (d2:RD s .expr (nx s j) (.ok b k)) (h2:sy s k≠[58]):RD s .cond i (.err (skip s k) 6)
 | KR {i j k p:Nat} {c:Int} {a b:TExpr} (d:RD s (.level 3) i (.ok a j)) (h:sy s j=[63]) (d2:RD s .expr (nx s j) (.ok b k)) (h2:sy s k=[58]) (d3:RD s .cond (nx s k) (.err p c)):RD s .cond i (.err p c)
 | EJ {i j k m:Nat} {a b e:TExpr} (d:RD s (.level 3) i (.ok a j)) (h:sy s j=[63]) (d2:RD s .expr (nx s j) (.ok b k)) (h2:sy s k=[58]) (d3:RD s .cond (nx s k) (.ok e m)):RD s .cond i (.ok (.mk 25 0 [] [a,b,e]) m)
 | ae9 {l:Int} {i:Nat} {r:oa} (hl:12<l) (d:RD s .un i r):RD s (.level l) i r
 | X6 {l:Int} {i p:Nat} {c:Int} (h3:3<=l) (hl:l<=12) (d:RD s (.level (l+1)) i (.err p c)):RD s (.level l) i (.err p c)
 | aja {l:Int} {i j:Nat} {a:TExpr} {r:oa} (h3:3<=l) (hl:l<=12) (d:RD s (.level (l+1)) i (.ok a j)) (d2:RD s (.loop l a) j r):RD s (.level l) i r
 | vh {l:Int} {i:Nat} {a:TExpr} (h:lX s i≠l):RD s (.loop l a) i (.ok a i)
 | Cp {l:Int} {i p:Nat} {c:Int} {a:TExpr} (h:lX s i=l) (d:RD s (.level (l+1)) (nx s i) (.err p c)):RD s (.loop l a) i (.err p c)
 | Gb {l:Int} {i j:Nat} {a b:TExpr} {r:oa} (h:lX s i=l) (d:RD s (.level (l+1)) (nx s i) (.ok b j)) (d2:RD s (.loop l (.mk (ga (sy s i)).2 0 [] [a,b])) j r):RD s (.loop l a) i r
 | Ae {i:Nat} {r:oa} (h:tE (sy s i)=0) (d:RD s .mY i r):RD s .un i r
 | EK {i p:Nat} {c:Int} (h:tE (sy s i)≠0) (d:RD s .un (nx s i) (.err p c)):RD s .un i (.err p c)
 | KS {i j:Nat} {a:TExpr} (h:tE (sy s i)≠0) (d:RD s .un (nx s i) (.ok a j)):RD s .un i (.ok (.mk (tE (sy s i)) 0 [] [a]) j)
 | EM {i:Nat} (h:kd s i=1) (hv:(nS (tx s i)).2=0):RD s .mY i (.ok (.mk 1 (nS (tx s i)).1 [] []) (nx s i))
 | Af {i:Nat} (h:kd s i=1) (hv:(nS (tx s i)).2≠0):RD s .mY i (.err (skip s i) (nS (tx s i)).2)
 | EN {i:Nat} (h:kd s i=2) (hv:rName (tx s i)=true):RD s .mY i (.ok (.mk 2 0 (tx s i) []) (nx s i))
 | Ag {i:Nat} (h:kd s i=2) (hv:rName (tx s i)=false):RD s .mY i (.err (skip s i) 10)
 | EO {i:Nat} (h1:kd s i≠1) (h2:kd s i≠2) (h:sy s i≠[40]):RD s .mY i (.err (skip s i) 6)
 | KT {i p:Nat} {c:Int} (h:sy s i=[40]) (d:RD s .expr (nx s i) (.err p c)):RD s .mY i (.err p c)
 | vY {i j:Nat} {e:TExpr} (h:sy s i=[40]) (d:RD s .expr (nx s i) (.ok e j)) (h2:sy s j≠[41]):RD s .mY i (.err (skip s j) 6)
 | KU {i j:Nat} {e:TExpr} (h:sy s i=[40]) (d:RD s .expr (nx s i) (.ok e j)) (h2:sy s j=[41]):RD s .mY i (.ok e (nx s j))
inductive Tl(s:Bs):Int->TExpr->Nat->oa->Prop
 | top {a:TExpr} {i:Nat}:Tl s 13 a i (.ok a i)
 | err {l:Int} {a:TExpr} {i p:Nat} {c:Int} (h3:3<=l) (hl:l<=12) (t:Tl s (l+1) a i (.err p c)):Tl s l a i (.err p c)
 | go {l:Int} {a b:TExpr} {i j:Nat} {r:oa} (h3:3<=l) (hl:l<=12) (t:Tl s (l+1) a i (.ok b j)) (d:RD s (.loop l b) j r):Tl s l a i r
theorem OZ{s:Bs}{a:TExpr}{i:Nat}:∀(k:Nat)(l:Int),l+k=13->3<=l->lX s i<l->Tl s l a i (.ok a i)
 | 0,l,hk,_,_=>by
  obtain rfl:l=13:=om
  exact .top
 | k+1,l,hk,h3,h=>.go h3 om (OZ k (l+1) om om om) (.vh om)
theorem acF{s:Bs}{l:Int}{a:TExpr}{i:Nat}{r:oa}(t:Tl s l a i r):lX s i<l->r=.ok a i:=by
 induction t with
 | top=>intro _;rfl
 | err h3 hl t ih=>grind
 | @go l a b i j r h3 hl t d ih=>
  intro h;cases ih om
  cases d with
  | vh _=>rfl
  | Cp h' _=>simp_all
  | Gb h' _ _=>simp_all
theorem afa{s:Bs}{a b:TExpr}{i j:Nat}(hd:RD s (.level (lX s i+1)) (nx s i) (.ok b j))(hj:lX s j<lX s i+1)(h12:lX s i<=12):
  ∀(k:Nat)(l:Int)(r:oa),l+k=lX s i->3<=l->Tl s l (.mk (ga (sy s i)).2 0 [] [a,b]) j r->Tl s l a i r
 | 0,l,r,hk,h3,t=>by
  have hk':lX s i=l:=om;rw [hk'] at hd hj h12;have hs:Tl s (l+1) a i (.ok a i):=OZ (13-(l+1)).toNat _ om om om;generalize hx:TExpr.mk (ga (sy s i)).2 0 [] [a,b]=x at t
  cases t with
  | top=>omega
  | err _ _ t=>cases acF t hj
  | go _ _ t d=>
   cases acF t hj;subst hx
   exact .go h3 h12 hs (.Gb hk' hd d)
 | k+1,l,r,hk,h3,t=>by
  generalize hx:TExpr.mk (ga (sy s i)).2 0 [] [a,b]=x at t
  cases t with
  | top=>omega
  | err _ _ t=>subst hx;exact .err h3 om (afa hd hj h12 k (l+1) _ om om t)
  | go _ _ t d=>subst hx;exact .go h3 om (afa hd hj h12 k (l+1) _ om om t) d
theorem ag3{s:Bs}{a:TExpr}{i p:Nat}{c:Int}(hd:RD s (.level (lX s i+1)) (nx s i) (.err p c))(h12:lX s i<=12):
  ∀(k:Nat)(l:Int),l+k=lX s i->3<=l->Tl s l a i (.err p c)
 | 0,l,hk,h3=>by
  obtain rfl:l=lX s i:=om
  exact .go h3 h12 (OZ (13-(lX s i+1)).toNat _ om om om) (.Cp rfl hd)
 | k+1,l,hk,h3=>.err h3 om (ag3 hd h12 k (l+1) om om)
theorem ajb{s:Bs}{a:TExpr}{i j:Nat}(hu:RD s .un i (.ok a j)){l:Int}{r:oa}(t:Tl s l a j r):RD s (.level l) i r:=by
 induction t with
 | top=>exact .ae9 om hu
 | err h3 hl t ih=>exact .X6 h3 hl (ih hu)
 | go h3 hl t d ih=>exact .aja h3 hl (ih hu) d
theorem Wr{s:Bs}{i p:Nat}{c:Int}(hu:RD s .un i (.err p c)):∀(k:Nat)(l:Int),l+k=13->3<=l->RD s (.level l) i (.err p c)
 | 0,l,hk,_=>.ae9 om hu
 | k+1,l,hk,h3=>.X6 h3 om (Wr hu k (l+1) om om)
theorem alc{s:Bs}{c:mJ}{i:Nat}{r:oa}(d:D s c i r):∀l,(c=.oper l\/∃a,c=.loop l a)->∀e j,r=.ok e j->lX s j<l:=by
 induction d with
 | U2 d d2 ih ih2=>
  simp_all
 | vh h=>
  simp_all
 | Gb h d d2 ih ih2=>
  simp_all
 | _=>simp_all
def MR(s:Bs):mJ->Nat->oa->Prop
 | .expr,i,r=>RD s .expr i r
 | .cond,i,r=>RD s .cond i r
 | .oper l,i,r=>3<=l->l<=13->RD s (.level l) i r
 | .loop l a,i,r=>3<=l->l<=13->Tl s l a i r
 | .un,i,r=>RD s .un i r
 | .mY,i,r=>RD s .mY i r
theorem apM{s:Bs}{c:mJ}{i:Nat}{r:oa}(d:D s c i r):MR s c i r:=by
 induction d with
 | Ac h d ih=>exact .Ac h ih
 | Ad h hn=>exact .Ad h hn
 | EB h hn d ih=>exact .EB h hn ih
 | EC h hn d ih=>exact .EC h hn ih
 | EF d ih=>exact .EF (ih de de)
 | EG d h ih=>exact .EG (ih de de) h
 | EH d h d2 ih ih2=>exact .EH (ih de de) h ih2
 | EI d h d2 h2 ih ih2=>exact .EI (ih de de) h ih2 h2
 | KR d h d2 h2 d3 ih ih2 ih3=>exact .KR (ih de de) h ih2 h2 ih3
 | EJ d h d2 h2 d3 ih ih2 ih3=>exact .EJ (ih de de) h ih2 h2 ih3
 | @Tn l i p c d ih=>exact fun h3 Wl=>Wr ih (13-l).toNat l om h3
 | U2 d d2 ih ih2=>exact fun h3 Wl=>ajb ih (ih2 h3 Wl)
 | @vh l i a h=>exact fun h3 Wl=>OZ (13-l).toNat l om h3 h
 | @Cp l i p c a h d ih=>
  intro h3 Wl;have hlv:0<=lX s i/\lX s i<=12/\(lX s i=0\/3<=lX s i):=(xD s i).lv;have h:l<=lX s i:=h
  exact ag3 (ih (show 3<=lX s i+1 by omega) (show lX s i+1<=13 by omega)) hlv.2.1 (lX s i-l).toNat l om h3
 | @Gb l i j a b r h d d2 ih ih2=>
  intro h3 Wl;have hlv:0<=lX s i/\lX s i<=12/\(lX s i=0\/3<=lX s i):=(xD s i).lv;have h:l<=lX s i:=h
  exact afa (ih (show 3<=lX s i+1 by omega) (show lX s i+1<=13 by omega)) (alc d _ (.inl rfl) _ _ rfl) hlv.2.1 (lX s i-l).toNat l r om h3 (ih2 h3 Wl)
 | Ae h d ih=>exact .Ae h ih
 | EK h d ih=>exact .EK h ih
 | KS h d ih=>exact .KS h ih
 | EM h hv=>exact .EM h hv
 | Af h hv=>exact .Af h hv
 | EN h hv=>exact .EN h hv
 | Ag h hv=>exact .Ag h hv
 | EO h1 h2 h=>exact .EO h1 h2 h
 | KT h d ih=>exact .KT h ih
 | vY h d h2 ih=>exact .vY h ih h2
 | KU h d h2 ih=>exact .KU h ih h2
end Go.Proofs.YtlgmlcgjmcmmgaaGreatDoor.K
namespace Go.Proofs.YtlgmlcgjmcmmgaaGreatDoor.K
open Go.RT
set_option maxRecDepth 100000
abbrev RA:=(TExpr×Bs×Int×Int×Bs) ⊕ (dD×Bs×Int×Int×Bs)
abbrev SA:=Bs×Int×Int×Bs×Int×Int×Bs×(J TExpr)
def po(s:Bs)(i:Nat):Int:=(skip s i:Int)
def kE(s:Bs):oa->O RA->Prop
 | .ok e j,x=>x=some (.inl (e,s,kd s j,po s j,tx s j))
 | .err p c,x=>∃st,x=some (.inr (⟨p,c⟩,st))
def Ah(F:Nat)(r:Int->Bs->Int->Int->Bs->O RA)(l:Int):(SA->O RA)->SA->O RA:=
 (fun fV x2=>
 (jC F x2.1 x2.2.1 x2.2.2.1 x2.2.2.2.1).bind fun x4=>
 cond (decide (x4.1<l))
 (some (.inl ((TExpr.mk ((TExpr.mk x2.2.2.2.2.1 x2.2.2.2.2.2.1 x2.2.2.2.2.2.2.1 x2.2.2.2.2.2.2.2).fOp) ((TExpr.mk x2.2.2.2.2.1 x2.2.2.2.2.2.1 x2.2.2.2.2.2.2.1 x2.2.2.2.2.2.2.2).fN) ((TExpr.mk x2.2.2.2.2.1 x2.2.2.2.2.2.1 x2.2.2.2.2.2.2.1 x2.2.2.2.2.2.2.2).fName) ((TExpr.mk x2.2.2.2.2.1 x2.2.2.2.2.2.1 x2.2.2.2.2.2.2.1 x2.2.2.2.2.2.2.2).fKids)),x2.1,x2.2.1,x2.2.2.1,x2.2.2.2.1)))
 ((eH F x2.1 x2.2.1 x2.2.2.1 x2.2.2.2.1).bind fun x5=>
 (r (aB (x4.1+1)) x5.1 x5.2.1 x5.2.2.1 x5.2.2.2).bind (sm (fun x6=>
 fV (x6.2.1,x6.2.2.1,x6.2.2.2.1,x6.2.2.2.2,(TExpr.mk x4.2 0 [] ([(TExpr.mk x2.2.2.2.2.1 x2.2.2.2.2.2.1 x2.2.2.2.2.2.2.1 x2.2.2.2.2.2.2.2),(TExpr.mk x6.1.fOp x6.1.fN x6.1.fName x6.1.fKids)]:J TExpr)).fOp,(TExpr.mk x4.2 0 [] ([(TExpr.mk x2.2.2.2.2.1 x2.2.2.2.2.2.1 x2.2.2.2.2.2.2.1 x2.2.2.2.2.2.2.2),(TExpr.mk x6.1.fOp x6.1.fN x6.1.fName x6.1.fKids)]:J TExpr)).fN,(TExpr.mk x4.2 0 [] ([(TExpr.mk x2.2.2.2.2.1 x2.2.2.2.2.2.1 x2.2.2.2.2.2.2.1 x2.2.2.2.2.2.2.2),(TExpr.mk x6.1.fOp x6.1.fN x6.1.fName x6.1.fKids)]:J TExpr)).fName,(TExpr.mk x4.2 0 [] ([(TExpr.mk x2.2.2.2.2.1 x2.2.2.2.2.2.1 x2.2.2.2.2.2.2.1 x2.2.2.2.2.2.2.2),(TExpr.mk x6.1.fOp x6.1.fN x6.1.fName x6.1.fKids)]:J TExpr)).fKids)) (fun x7=>some (.inr (x7.1,x7.2.1,x7.2.2.1,x7.2.2.2.1,x7.2.2.2.2))))))
theorem O0(s:Bs)(i:Nat)(hi:i<=s.length):sW s i=⟨kd s i,po s i,tx s i⟩:=by
 unfold kd tx po;rcases lK s i hi with⟨h,_,_,_⟩|⟨w,b,h,_,_,_,hl⟩|⟨w,b,h,_,_,_,hl⟩|⟨x,h,_,_,hm,hl⟩|⟨b,h,_,_,hl⟩<;>rw [h]
theorem ald(X:O RA):X.bind (sm (fun x=>some (.inl ((TExpr.mk x.1.fOp x.1.fN x.1.fName x.1.fKids),x.2.1,x.2.2.1,x.2.2.2.1,x.2.2.2.2))) (fun x=>some (.inr (x.1,x.2.1,x.2.2.1,x.2.2.2.1,x.2.2.2.2))))=X:=by
 cases X with
 | none=>rfl
 | some y=>grind [sm,TExpr.eta]
section
variable {s : Bs} {i F : Nat} (hl : s.length <= 1000000) (hi : i <= s.length) (hF : s.length + 60 <= F)
include hl hi hF
theorem Gc:nh F s (kd s i) (po s i) (tx s i)=some (sW s (nx s i)):=by
 unfold nh;obtain⟨a,_,_⟩:=kg s i hi;have e:po s i+((tx s i).length:Int)=((nx s i:Nat):Int):=by unfold po nx;omega
 grind [bI,UY]
theorem rP:eH F s (kd s i) (po s i) (tx s i)=some (s,kd s (nx s i),po s (nx s i),tx s (nx s i)):=by
 unfold eH
 simp_all [kg,Gc,O0]
theorem jT{x:Bs}(hx:x≠[]):iw F x s (kd s i) (po s i) (tx s i)=some (sy s i==x):=by
 unfold iw;by_cases h:sy s i=[]
 ·have hk:(cond (kd s i==3) (some (tx s i==x)) (some false):O Bool)=some false:=by
   unfold kd tx;rcases lK s i hi with⟨h',_,_,_⟩|⟨w,b,h',_,_,_,_⟩|⟨w,b,h',_,_,_,_⟩|⟨x',h',hs,_,hm,_⟩|⟨b,h',_,_,_⟩<;>rw [h']<;>try rfl
   simp_all
  simp_all
 simp_all [Ab]
theorem U4:jC F s (kd s i) (po s i) (tx s i)=some (ga (sy s i)):=by
 by_cases h:sy s i=[]
 ·rw [h]
  have hk:(kd s i==3)=false:=by
   unfold kd;rcases lK s i hi with⟨h',_,_,_⟩|⟨w,b,h',_,_,_,_⟩|⟨w,b,h',_,_,_,_⟩|⟨x',h',hs,_,hm,_⟩|⟨b,h',_,_,_⟩<;>rw [h']<;>try rfl
   simp_all [BP]
  unfold jC;rw [hk];rfl
 ·obtain⟨h1,h2⟩:=Ab s i hi h
  rw [h1,h2];obtain⟨G,rfl⟩:∃G,F=G+20:=⟨F-20,om⟩;exact (xD s i).bin G s _
theorem HI:pE F (sW s i)=some (cond (rO (sy s i) == -1) 0 (rO (sy s i)),!(rO (sy s i) == -1)):=by
 by_cases h:sy s i=[]
 ·rw [h]
  have hk:((sW s i).uo != 3)=true:=by
   rcases lK s i hi with⟨h',_,_,_⟩|⟨w,b,h',_,_,_,_⟩|⟨w,b,h',_,_,_,_⟩|⟨x',h',hs,_,hm,_⟩|⟨b,h',_,_,_⟩<;>rw [h']<;>try rfl
   simp_all [BP]
  unfold pE;rw [hk];rfl
 ·obtain⟨h1,h2⟩:=Ab s i hi h
  rw [O0 s i hi,h1,h2];obtain⟨G,rfl⟩:∃G,F=G+20:=⟨F-20,om⟩;exact (xD s i).asg G _
theorem vZ{x:Bs}(hx:x≠[])(h:sy s i=x):ir F x s (kd s i) (po s i) (tx s i)=some (.inl (s,kd s (nx s i),po s (nx s i),tx s (nx s i))):=by
 unfold ir
 simp_all [jT,rP,jj,sm]
theorem NQ{x:Bs}(hx:x≠[])(h:sy s i≠x):ir F x s (kd s i) (po s i) (tx s i)=some (.inr ⟨po s i,6⟩):=by
 unfold ir;have:(sy s i==x)=false:=by simp_all
 rw [jT hl hi hF hx,this];rfl
omit hF hl in
theorem ag4:(tx s i).length<=s.length:=by
 obtain⟨a,_,_⟩:=kg s i hi;unfold nx at a;omega
omit hF hl in
theorem aoH(h:kd s i=1\/kd s i=2):tx s i≠[]:=by
 unfold kd at h;unfold tx;rcases lK s i hi with⟨h',_,_,_⟩|⟨w,b,h',_,_,_,_⟩|⟨w,b,h',_,_,_,_⟩|⟨x',h',hs,_,hm,_⟩|⟨b,h',_,_,_⟩<;>rw [h'] at h⊢ <;> simp at h⊢
theorem aao(h:kd s i=1):xy F (tx s i)=some (nS (tx s i)):=by
 grind [ag4,aiW,aoH]
theorem U5(h:rName (tx s i)=true):iA F s (kd s i) (po s i) (tx s i)=some (.inl (tx s i,s,kd s (nx s i),po s (nx s i),tx s (nx s i))):=by
 unfold iA
 grind [Du,rP]
theorem ag5(h:rName (tx s i)=false):iA F s (kd s i) (po s i) (tx s i)=some (.inr ⟨po s i,10⟩):=by
 unfold iA
 grind [Du]
end
def StA(s:Bs):mJ->Nat->oa->Prop
 | .expr,i,r=>bF fun F n=>kE s r (aR F n s (kd s i) (po s i) (tx s i))
 | .cond,i,r=>bF fun F n=>kE s r (bp F n s (kd s i) (po s i) (tx s i))
 | .oper l,i,r=>bF fun F n=>kE s r (aL F n l s (kd s i) (po s i) (tx s i))
 | .loop l a,i,r=>∃N,∀F n m,N<=F->N<=n->N<=m->kE s r (bU (Ah F (aL F n) l) m (s,kd s i,po s i,tx s i,a.fOp,a.fN,a.fName,a.fKids))
 | .un,i,r=>bF fun F n=>kE s r (bE F n s (kd s i) (po s i) (tx s i))
 | .mY,i,r=>bF fun F n=>kE s r (bz F n s (kd s i) (po s i) (tx s i))
theorem gv(s:Bs):bF fun F _=>s.length+60<=F:=bF.ge (s.length+60) fun F n h _=>h
theorem D_A{s:Bs}(hl:s.length<=1000000){c:mJ}{i:Nat}{r:oa}(d:D s c i r):i<=s.length->c.okL->StA s c i r:=by
 induction d with
 | @Ac i r h d ih=>
  intro hi _;refine bF.succ (bF.kB (ih hi trivial) (gv s) fun F n h1 hF=>?_);show kE s r (ep F (aR F n) (bp F n) (aL F n) (bE F n) (bz F n) s (kd s i) (po s i) (tx s i));unfold ep;rw [ald]
  cases hk:(kd s i==2) with
  | false=>
   grind
  | true=>
   have:(kd s i != 2)=false:=by unfold bne;rw [hk];rfl
   unfold je at h;rw [hk] at h;simp only [bw] at h;obtain⟨a,_,_⟩:=kg s i hi;rw [this,Gc hl hi hF]
   simp_all [aU,aH,HI]
 | @Ad i h hn=>
  intro hi _;refine bF.succ (bF.mono (gv s) fun F n hF=>?_);obtain⟨hk,h2,_⟩:=NP h;obtain⟨a,_,_⟩:=kg s i hi;show kE s _ (ep F (aR F n) (bp F n) (aL F n) (bE F n) (bz F n) s (kd s i) (po s i) (tx s i));unfold ep;have h3:(rO (sy s (nx s i)) == -1)=false:=by simp_all
  rw [Gc hl hi hF,ag5 hl hi hF hn];simp only [aH];rw [HI hl a hF,h3,hk]
  exact⟨_,rfl⟩
 | @EB i j e h hn d ih=>
  intro hi _;obtain⟨m1,m2,m3,m4⟩:=vi hi h;refine bF.succ (bF.kB (ih m3 trivial) (gv s) fun F n h1 hF=>?_);obtain⟨hk,h2,he⟩:=NP h;show kE s _ (ep F (aR F n) (bp F n) (aL F n) (bE F n) (bz F n) s (kd s i) (po s i) (tx s i));unfold ep;have h3:(rO (sy s (nx s i)) == -1)=false:=by simp_all
  have h1:aR F n s _ _ _=_:=h1;rw [Gc hl hi hF,U5 hl hi hF hn];simp only [aH];rw [HI hl m1 hF,h3,hk,he];simp only [Qj,aU,sF,kn,sm];rw [rP hl m1 hF];simp only [aH];rw [h1]
  rfl
 | @EC i p c h hn d ih=>
  intro hi _;obtain⟨m1,m2,m3,m4⟩:=vi hi h;refine bF.succ (bF.kB (ih m3 trivial) (gv s) fun F n h1 hF=>?_);obtain⟨hk,h2,he⟩:=NP h;show kE s _ (ep F (aR F n) (bp F n) (aL F n) (bE F n) (bz F n) s (kd s i) (po s i) (tx s i));unfold ep;have h3:(rO (sy s (nx s i)) == -1)=false:=by simp_all
  obtain⟨st,h1⟩:=h1;rw [Gc hl hi hF,U5 hl hi hF hn];simp only [aH];rw [HI hl m1 hF,h3,hk];simp only [Qj,aU,sF,kn,sm];rw [rP hl m1 hF];simp only [aH];rw [h1]
  exact⟨_,rfl⟩
 | @EF i p c d ih=>
  intro hi _;refine bF.succ (bF.mono (ih hi (show (0:Int)<3 by decide)) fun F n h1=>?_);show kE s _ (cO F (aR F n) (bp F n) (aL F n) (bE F n) (bz F n) s (kd s i) (po s i) (tx s i));unfold cO;obtain⟨st,h1⟩:=h1;rw [h1]
  exact⟨_,rfl⟩
 | @EG i j a d h ih=>
  intro hi _;obtain⟨x,y,z⟩:=lM d hi (show (0:Int)<3 by decide);refine bF.succ (bF.kB (ih hi (show (0:Int)<3 by decide)) (gv s) fun F n h1 hF=>?_);show kE s _ (cO F (aR F n) (bp F n) (aL F n) (bE F n) (bz F n) s (kd s i) (po s i) (tx s i));unfold cO;have h1:aL F n 3 s _ _ _=_:=h1;have hb:(sy s j==[63])=false:=by simp_all
  rw [h1];simp only [aH,sm];rw [jT hl y hF de,hb]
  simp_all
 | @EH i j p c a d h d2 ih ih2=>
  intro hi _;obtain⟨x,y,z⟩:=lM d hi (show (0:Int)<3 by decide);obtain⟨m1,m2⟩:=dy y (by rw [h];decide);refine bF.succ (bF.BM (ih hi (show (0:Int)<3 by decide)) (ih2 m1 trivial) (gv s) fun F n h1 h2 hF=>?_);show kE s _ (cO F (aR F n) (bp F n) (aL F n) (bE F n) (bz F n) s (kd s i) (po s i) (tx s i));unfold cO;have h1:aL F n 3 s _ _ _=_:=h1;obtain⟨st,h2⟩:=h2;rw [h1];simp only [aH,sm];rw [jT hl y hF de,h,rP hl y hF];simp only [aH];rw [h2]
  exact⟨_,rfl⟩
 | @EI i j k a b d h d2 h2 ih ih2=>
  intro hi _;obtain⟨x,y,z⟩:=lM d hi (show (0:Int)<3 by decide);obtain⟨m1,m2⟩:=dy y (by rw [h];decide);obtain⟨x2,y2,z2⟩:=lM d2 m1 trivial;refine bF.succ (bF.BM (ih hi (show (0:Int)<3 by decide)) (ih2 m1 trivial) (gv s) fun F n h1 h3 hF=>?_);show kE s _ (cO F (aR F n) (bp F n) (aL F n) (bE F n) (bz F n) s (kd s i) (po s i) (tx s i));unfold cO;have h1:aL F n 3 s _ _ _=_:=h1;have h3:aR F n s _ _ _=_:=h3;rw [h1];simp only [aH,sm];rw [jT hl y hF de,h,rP hl y hF];simp only [aH];rw [h3];simp only [aH,sm];rw [NQ hl y2 hF de h2]
  exact⟨_,rfl⟩
 | @KR i j k p c a b d h d2 h2 d3 ih ih2 ih3=>
  intro hi _;obtain⟨x,y,z⟩:=lM d hi (show (0:Int)<3 by decide);obtain⟨m1,m2⟩:=dy y (by rw [h];decide);obtain⟨x2,y2,z2⟩:=lM d2 m1 trivial;obtain⟨m3,m4⟩:=dy y2 (by rw [h2];decide);refine bF.succ (bF.BM ((ih hi (show (0:Int)<3 by decide)).and (ih3 m3 trivial)) (ih2 m1 trivial) (gv s) fun F n h1 h3 hF=>?_);show kE s _ (cO F (aR F n) (bp F n) (aL F n) (bE F n) (bz F n) s (kd s i) (po s i) (tx s i));unfold cO;obtain⟨h1,st,h4⟩:=h1;have h1:aL F n 3 s _ _ _=_:=h1;have h3:aR F n s _ _ _=_:=h3;rw [h1];simp only [aH,sm];rw [jT hl y hF de,h,rP hl y hF];simp only [aH];rw [h3];simp only [aH,sm];rw [vZ hl y2 hF de h2];simp only [aH,sm];rw [h4]
  exact⟨_,rfl⟩
 | @EJ i j k m a b e d h d2 h2 d3 ih ih2 ih3=>
  intro hi _;obtain⟨x,y,z⟩:=lM d hi (show (0:Int)<3 by decide);obtain⟨m1,m2⟩:=dy y (by rw [h];decide);obtain⟨x2,y2,z2⟩:=lM d2 m1 trivial;obtain⟨m3,m4⟩:=dy y2 (by rw [h2];decide);refine bF.succ (bF.BM ((ih hi (show (0:Int)<3 by decide)).and (ih3 m3 trivial)) (ih2 m1 trivial) (gv s) fun F n h1 h3 hF=>?_);show kE s _ (cO F (aR F n) (bp F n) (aL F n) (bE F n) (bz F n) s (kd s i) (po s i) (tx s i));unfold cO;obtain⟨h1,h4⟩:=h1;have h1:aL F n 3 s _ _ _=_:=h1;have h3:aR F n s _ _ _=_:=h3;have h4:bp F n s _ _ _=_:=h4;rw [h1];simp only [aH,sm];rw [jT hl y hF de,h,rP hl y hF];simp only [aH];rw [h3];simp only [aH,sm];rw [vZ hl y2 hF de h2];simp only [aH,sm];rw [h4];simp only [aH,sm,TExpr.eta]
  rfl
 | @Tn l i p c d ih=>
  intro hi _;refine bF.succ (bF.mono (ih hi trivial) fun F n h1=>?_);show kE s _ (jI F (aR F n) (bp F n) (aL F n) (bE F n) (bz F n) l s (kd s i) (po s i) (tx s i));unfold jI;obtain⟨st,h1⟩:=h1;rw [h1]
  exact⟨_,rfl⟩
 | @U2 l i j a r d d2 ih ih2=>
  intro hi hc;obtain⟨x,y,z⟩:=lM d hi trivial;obtain⟨N,h2⟩:=ih2 y hc;refine bF.succ (bF.kB (ih hi trivial) (bF.ge (p:=fun F n=>N<=F/\N<=n) N fun F n a b=>⟨a,b⟩) fun F n h1 hN=>?_);show kE s _ (jI F (aR F n) (bp F n) (aL F n) (bE F n) (bz F n) l s (kd s i) (po s i) (tx s i));unfold jI;have h1:bE F n s _ _ _=_:=h1;rw [h1]
  exact h2 F n F hN.1 hN.2 hN.1
 | @vh l i a h=>
  intro hi _;refine⟨s.length+60,fun F n m hF _ hm=>?_⟩
  cases m with
  | zero=>omega
  | succ m=>
   show kE s _ (Ah F (aL F n) l (bU (Ah F (aL F n) l) m) (s,kd s i,po s i,tx s i,a.fOp,a.fN,a.fName,a.fKids));unfold Ah;rw [U4 hl hi hF];simp only [aH,dQ h,bw,TExpr.eta]
   rfl
 | @Cp l i p c a h d ih=>
  intro hi hc;have hc:0<l:=hc;obtain⟨m1,m2⟩:=dy hi (yE hc h);obtain⟨N,h1⟩:=ih m1 (show (0:Int)<_ by omega);have hlv:=(xD s i).lv;refine⟨N+s.length+60,fun F n m hF hn hm=>?_⟩
  cases m with
  | zero=>omega
  | succ m=>
   show kE s _ (Ah F (aL F n) l (bU (Ah F (aL F n) l) m) (s,kd s i,po s i,tx s i,a.fOp,a.fN,a.fName,a.fKids));unfold Ah;obtain⟨st,h1⟩:=h1 F n om om;rw [U4 hl hi om,rP hl hi om];have hx:decide ((ga (sy s i)).1<l)=false:=sD om;simp only [aH,hx,aU];rw [bI (x:=(ga (sy s i)).1+1) om,h1]
   exact⟨_,rfl⟩
 | @Gb l i j a b r h d d2 ih ih2=>
  intro hi hc;have tA:0<l:=hc;obtain⟨m1,m2⟩:=dy hi (yE tA h);obtain⟨x,y,z⟩:=lM d m1 (show (0:Int)<_ by omega);obtain⟨N,h1⟩:=ih m1 (show (0:Int)<_ by omega);obtain⟨N2,h2⟩:=ih2 y hc;have hlv:=(xD s i).lv;refine⟨N+N2+s.length+60,fun F n m hF hn hm=>?_⟩
  cases m with
  | zero=>omega
  | succ m=>
   show kE s _ (Ah F (aL F n) l (bU (Ah F (aL F n) l) m) (s,kd s i,po s i,tx s i,a.fOp,a.fN,a.fName,a.fKids));have h1:aL F n _ s _ _ _=_:=h1 F n om om;have h2:=h2 F n m om om om;generalize hL:bU (Ah F (aL F n) l) m=L at h2⊢;unfold Ah;rw [U4 hl hi om,rP hl hi om];have hx:decide ((ga (sy s i)).1<l)=false:=sD om;simp only [aH,hx,aU]
   grind [bI,sm,TExpr.eta]
 | @Ae i r h d ih=>
  intro hi _;refine bF.succ (bF.kB (ih hi trivial) (gv s) fun F n h1 hF=>?_);show kE s _ (iS F (aR F n) (bp F n) (aL F n) (bE F n) (bz F n) s (kd s i) (po s i) (tx s i));unfold iS;rw [jT hl hi hF de,jT hl hi hF de,jT hl hi hF de,jT hl hi hF de]
  have hu:(sy s i==[45])=false/\(sy s i==[43])=false/\(sy s i==[33])=false/\(sy s i==[126])=false:=by
   unfold tE at h
   grind
  obtain⟨u1,u2,u3,u4⟩:=hu;rw [u1,u2,u3,u4];revert h1
  cases bz F n s (kd s i) (po s i) (tx s i) with
  | none=>exact id
  | some X=>
   cases X with
   | inl X=>simp_all [aH,aU,jj,sm,TExpr.eta]
   | inr X=>simp_all [aH,aU,jj,sm,TExpr.eta]
 | @EK i p c h d ih=>
  intro hi _;obtain⟨m1,m2⟩:=dy hi (yS h);refine bF.succ (bF.kB (ih m1 trivial) (gv s) fun F n h1 hF=>?_);show kE s _ (iS F (aR F n) (bp F n) (aL F n) (bE F n) (bz F n) s (kd s i) (po s i) (tx s i));unfold iS;rw [jT hl hi hF de,jT hl hi hF de,jT hl hi hF de,jT hl hi hF de,rP hl hi hF];obtain⟨st,h1⟩:=h1;simp only [aH,h1];unfold tE at h;revert h
  cases (sy s i==[45])<;>cases (sy s i==[43])<;>cases (sy s i==[33])<;>cases (sy s i==[126])<;>intro h<;>first|exact⟨_,rfl⟩|exact absurd rfl h
 | @KS i j a h d ih=>
  intro hi _;obtain⟨m1,m2⟩:=dy hi (yS h);refine bF.succ (bF.kB (ih m1 trivial) (gv s) fun F n h1 hF=>?_);show kE s _ (iS F (aR F n) (bp F n) (aL F n) (bE F n) (bz F n) s (kd s i) (po s i) (tx s i));unfold iS;rw [jT hl hi hF de,jT hl hi hF de,jT hl hi hF de,jT hl hi hF de,rP hl hi hF];have h1:bE F n s _ _ _=_:=h1;simp only [aH,h1];unfold tE at h⊢;revert h
  cases (sy s i==[45])<;>cases (sy s i==[43])<;>cases (sy s i==[33])<;>cases (sy s i==[126])<;>intro h<;>first|rfl|exact absurd rfl h
 | @EM i h hv=>
  intro hi _;refine bF.succ (bF.mono (gv s) fun F n hF=>?_);show kE s _ (cm F (aR F n) (bp F n) (aL F n) (bE F n) (bz F n) s (kd s i) (po s i) (tx s i));unfold cm;rw [aao hl hi hF h,rP hl hi hF,h];simp only [Fq,bw,aH,hv,Qj,aU]
  rfl
 | @Af i h hv=>
  intro hi _;refine bF.succ (bF.mono (gv s) fun F n hF=>?_);show kE s _ (cm F (aR F n) (bp F n) (aL F n) (bE F n) (bz F n) s (kd s i) (po s i) (tx s i));unfold cm;have iZ:((nS (tx s i)).2 != 0)=true:=by simpa using hv
  rw [aao hl hi hF h,h];simp only [Fq,bw,aH,iZ]
  exact⟨_,rfl⟩
 | @EN i h hv=>
  intro hi _;refine bF.succ (bF.mono (gv s) fun F n hF=>?_);show kE s _ (cm F (aR F n) (bp F n) (aL F n) (bE F n) (bz F n) s (kd s i) (po s i) (tx s i));unfold cm;rw [U5 hl hi hF hv,h]
  rfl
 | @Ag i h hv=>
  intro hi _;refine bF.succ (bF.mono (gv s) fun F n hF=>?_);show kE s _ (cm F (aR F n) (bp F n) (aL F n) (bE F n) (bz F n) s (kd s i) (po s i) (tx s i));unfold cm;rw [ag5 hl hi hF hv,h]
  exact⟨_,rfl⟩
 | @EO i h1 h2 h=>
  intro hi _;refine bF.succ (bF.mono (gv s) fun F n hF=>?_);show kE s _ (cm F (aR F n) (bp F n) (aL F n) (bE F n) (bz F n) s (kd s i) (po s i) (tx s i));unfold cm;have k1:(kd s i==1)=false:=by simp_all
  have k2:(kd s i==2)=false:=by simp_all
  rw [NQ hl hi hF de h,k1,k2]
  exact⟨_,rfl⟩
 | @KT i p c h d ih=>
  intro hi _;obtain⟨m1,m2⟩:=dy hi (by rw [h];decide);refine bF.succ (bF.kB (ih m1 trivial) (gv s) fun F n h1 hF=>?_);show kE s _ (cm F (aR F n) (bp F n) (aL F n) (bE F n) (bz F n) s (kd s i) (po s i) (tx s i));unfold cm;have hk:=(Ab s i hi (by rw [h];decide)).1;obtain⟨st,h1⟩:=h1;rw [vZ hl hi hF de h,hk];simp only [aH,sm];rw [h1]
  exact⟨_,rfl⟩
 | @vY i j e h d h2 ih=>
  intro hi _;obtain⟨m1,m2⟩:=dy hi (by rw [h];decide);obtain⟨x,y,z⟩:=lM d m1 trivial;refine bF.succ (bF.kB (ih m1 trivial) (gv s) fun F n h1 hF=>?_);show kE s _ (cm F (aR F n) (bp F n) (aL F n) (bE F n) (bz F n) s (kd s i) (po s i) (tx s i));unfold cm;have hk:=(Ab s i hi (by rw [h];decide)).1;have h1:aR F n s _ _ _=_:=h1;rw [vZ hl hi hF de h,hk];simp only [aH,sm];rw [h1];simp only [aH,sm];rw [NQ hl y hF de h2]
  exact⟨_,rfl⟩
 | @KU i j e h d h2 ih=>
  intro hi _;obtain⟨m1,m2⟩:=dy hi (by rw [h];decide);obtain⟨x,y,z⟩:=lM d m1 trivial;refine bF.succ (bF.kB (ih m1 trivial) (gv s) fun F n h1 hF=>?_);show kE s _ (cm F (aR F n) (bp F n) (aL F n) (bE F n) (bz F n) s (kd s i) (po s i) (tx s i));unfold cm;have hk:=(Ab s i hi (by rw [h];decide)).1;have h1:aR F n s _ _ _=_:=h1;rw [vZ hl hi hF de h,hk];simp only [aH,sm];rw [h1];simp only [aH,sm];rw [vZ hl y hF de h2];simp only [aH,sm,TExpr.eta];rfl
end Go.Proofs.YtlgmlcgjmcmmgaaGreatDoor.K
namespace Go.Proofs.YtlgmlcgjmcmmgaaGreatDoor.K
open Go.RT
set_option maxRecDepth 100000
abbrev RR:=TExpr×Bs×Int×Int×Int
abbrev SR:=Bs×Int×Int×Int×Int×Int×Bs×(J TExpr)
def j9(s:Bs):oa->O RR->Prop
 | .ok e j,x=>∃a:Nat,a<=s.length/\skip s a=skip s j/\x=some (e,s,(a:Int),0,0)
 | .err p c,x=>c≠0/\∃(e:TExpr)(a:Nat),a<=s.length/\x=some (e,s,(a:Int),c,(p:Int))
def qY(F:Nat)(r:Int->Bs->Int->Int->Int->O RR)(l:Int):(SR->O RR)->SR->O RR:=
 (fun kO x3=>
 cond (x3.2.2.1==0)
 ((gJ F x3.1 x3.2.1 x3.2.2.1 x3.2.2.2.1).bind fun x5=>
 (kD F x5.1 l).bind fun x6=>
 cond (x6==0)
 (some ((TExpr.mk ((TExpr.mk x3.2.2.2.2.1 x3.2.2.2.2.2.1 x3.2.2.2.2.2.2.1 x3.2.2.2.2.2.2.2).fOp) ((TExpr.mk x3.2.2.2.2.1 x3.2.2.2.2.2.1 x3.2.2.2.2.2.2.1 x3.2.2.2.2.2.2.2).fN) ((TExpr.mk x3.2.2.2.2.1 x3.2.2.2.2.2.1 x3.2.2.2.2.2.2.1 x3.2.2.2.2.2.2.2).fName) ((TExpr.mk x3.2.2.2.2.1 x3.2.2.2.2.2.1 x3.2.2.2.2.2.2.1 x3.2.2.2.2.2.2.2).fKids)),x5.2.1,x5.2.2.1,x5.2.2.2.1,x5.2.2.2.2))
 ((r (aB (l+1)) x5.2.1 (aB (x5.2.2.1+(x5.1.length:Int))) x5.2.2.2.1 x5.2.2.2.2).bind fun x7=>
 kO (x7.2.1,x7.2.2.1,x7.2.2.2.1,x7.2.2.2.2,(TExpr.mk x6 0 [] ([(TExpr.mk x3.2.2.2.2.1 x3.2.2.2.2.2.1 x3.2.2.2.2.2.2.1 x3.2.2.2.2.2.2.2),x7.1]:J TExpr)).fOp,(TExpr.mk x6 0 [] ([(TExpr.mk x3.2.2.2.2.1 x3.2.2.2.2.2.1 x3.2.2.2.2.2.2.1 x3.2.2.2.2.2.2.2),x7.1]:J TExpr)).fN,(TExpr.mk x6 0 [] ([(TExpr.mk x3.2.2.2.2.1 x3.2.2.2.2.2.1 x3.2.2.2.2.2.2.1 x3.2.2.2.2.2.2.2),x7.1]:J TExpr)).fName,(TExpr.mk x6 0 [] ([(TExpr.mk x3.2.2.2.2.1 x3.2.2.2.2.2.1 x3.2.2.2.2.2.2.1 x3.2.2.2.2.2.2.2),x7.1]:J TExpr)).fKids)))
 (some ((TExpr.mk ((TExpr.mk x3.2.2.2.2.1 x3.2.2.2.2.2.1 x3.2.2.2.2.2.2.1 x3.2.2.2.2.2.2.2).fOp) ((TExpr.mk x3.2.2.2.2.1 x3.2.2.2.2.2.1 x3.2.2.2.2.2.2.1 x3.2.2.2.2.2.2.2).fN) ((TExpr.mk x3.2.2.2.2.1 x3.2.2.2.2.2.1 x3.2.2.2.2.2.2.1 x3.2.2.2.2.2.2.2).fName) ((TExpr.mk x3.2.2.2.2.1 x3.2.2.2.2.2.1 x3.2.2.2.2.2.2.1 x3.2.2.2.2.2.2.2).fKids)),x3.1,x3.2.1,x3.2.2.1,x3.2.2.2.1)))
section
variable {s : Bs} {a i : Nat} (h : skip s a = skip s i)
include h
theorem iM:sy s a=sy s i:=by unfold sy;rw [h]
theorem Fk:kd s a=kd s i:=by unfold kd sW;rw [h]
theorem yT:tx s a=tx s i:=by unfold tx sW;rw [h]
theorem jU:nx s a=nx s i:=by unfold nx;rw [h,yT h]
theorem KV:je s a=je s i:=by unfold je;rw [Fk h,jU h]
end
theorem acG:∀x,x∈([]::oz)->rO x=-1\/0<=rO x:=by decide
theorem ag6:∀n:Fin 256,dg (UInt8.ofNat n.val)=true->le (UInt8.ofNat n.val)=false:=by decide +kernel
theorem afb(b:UInt8):dg b=true->le b=false:=QU (P:=fun b=>dg b=true->le b=false) ag6 b
theorem Gd(X:O RR):(X.bind fun x=>some ((TExpr.mk x.1.fOp x.1.fN x.1.fName x.1.fKids),x.2.1,x.2.2.1,x.2.2.2.1,x.2.2.2.2))=X:=by
 cases X with
 | none=>rfl
 | some y=>simp_all
section
variable {s : Bs} {a F : Nat} (hl : s.length <= 1000000) (hi : a <= s.length) (hF : s.length + 60 <= F)
include hl hi hF
theorem xE{x:Bs}(hx:x≠[])(h:sy s a=x):gY F x s (a:Int) 0 0=some (true,s,(nx s a:Int),0,0):=by
 unfold gY;rw [mG F s a 0 0 hi om hl];obtain⟨m1,m2⟩:=dy hi (by rw [h];exact hx);have e:sy s a=mP (s.drop (skip s a)):=rfl;have e2:nx s a=skip s a+x.length:=by unfold nx;simp_all [Ab]
 grind [bI]
theorem X7{x:Bs}(h:sy s a≠x):gY F x s (a:Int) 0 0=some (false,s,(skip s a:Int),0,0):=by
 unfold gY;rw [mG F s a 0 0 hi om hl];have e:sy s a=mP (s.drop (skip s a)):=rfl
 grind
omit hl hi hF in
theorem NR{x:Bs}{at' c p:Int}(hc:c≠0):gY F x s at' c p=some (false,s,at',c,p):=by
 unfold gY;have:(c != 0)=true:=by simpa using hc
 rw [this];rfl
omit hl hi hF in
theorem QX{at' c p c' p':Int}(hc:c≠0):fT F c' p' s at' c p=some (s,at',c,p):=by
 unfold fT;have:(c==0)=false:=by simpa using hc
 rw [this];rfl
theorem FF(rs rc:Bs->Int->Int->Int->O RR)(rl:Int->Bs->Int->Int->Int->O RR)(ru rp:Bs->Int->Int->Int->O RR)(e pos:Int):
  iL F rs rc rl ru rp s (a:Int) e pos=cond (je s a == -1) (rc s (skip s a:Int) e pos)
   ((rs s (nx s (nx s a):Int) (cond (rName (tx s a)) e (cond (e==0) 10 e)) (cond (rName (tx s a)) pos (cond (e==0) (skip s a:Int) pos))).bind fun x=>some (.mk 26 (je s a) (tx s a) [x.1],x.2.1,x.2.2.1,x.2.2.2.1,x.2.2.2.2)):=by
 obtain⟨s1,s2⟩:=gQ s a hi;unfold iL;rw [sw F s a e pos hi om hl];simp only [aH];rw [KO F s _ e pos s1 om hl];simp only [aH]
 have hno:∀X:O ((Bs×Int×Int×Int) ⊕ RR),X=some (.inl (s,(skip s a:Int),e,pos))->je s a=-1 ->
   (jj (σ:=Bs×Int×Int×Int) (R:=RR) X fun x3=>(rc x3.1 x3.2.1 x3.2.2.1 x3.2.2.2).bind fun fF=>some ((TExpr.mk fF.1.fOp fF.1.fN fF.1.fName fF.1.fKids),fF.2.1,fF.2.2.1,fF.2.2.2.1,fF.2.2.2.2))=rc s (skip s a:Int) e pos:=by
  intro X hX _;rw [hX];show (rc s (skip s a:Int) e pos).bind _=_;exact Gd _
 have hk2:kd s a≠2->je s a=-1:=by
  intro hk;unfold je;have:(kd s a==2)=false:=by rw [gO];exact hk
  rw [this];rfl
 rcases lK s a hi with⟨h',_,hw,_⟩|⟨w,b,h',_,hw,hd,hl'⟩|⟨w,b,h',hs,hw,hd,hl'⟩|⟨x',h',_,hw,hm,_⟩|⟨b,h',_,hw,_⟩
 ·have ha:=hk2 (by unfold kd;rw [h'];simp)
  rw [hno _ (by rw [hw];rfl) ha,ha];rfl
 ·have ha:=hk2 (by unfold kd;rw [h'];simp)
  rw [hno _ (by
   rw [hw];have hp:decide (0<((b::w).length:Int))=true:=dQ (by simp only [Dd];omega);show (((rq (decide (0<((b::w).length:Int))) ((mX F (b.toNat:Int)).bind fun x5=>some x5)):O Bool).bind _)=_;rw [hp,vf,afb b hd];rfl) ha,ha]
  rfl
 ·have hk:kd s a=2:=by unfold kd;rw [h']
  have ht:tx s a=b::w:=by unfold tx;rw [h']
  obtain⟨m1,m2,_⟩:=kg s a hi;have hn:(skip s a:Int)+((b::w).length:Int)=(nx s a:Int):=by unfold nx;rw [ht];omega
  have has:je s a=rO (sy s (nx s a)):=by unfold je;rw [hk];rfl
  rw [hw];have hp:decide (0<((b::w).length:Int))=true:=dQ (by simp only [Dd];omega);have hne:(!((b::w)==[]))=true:=rfl;simp only [hne,bw,hp,gz,Uc,vf,hd,aH,hn];rw [bI (x:=(nx s a:Int)) om,mG F s (nx s a) e pos m1 om hl];simp only [aH];rw [show mP (s.drop (skip s (nx s a)))=sy s (nx s a) from rfl]
  have apN:qu F (sy s (nx s a))=some (rO (sy s (nx s a))):=by
   obtain⟨G,rfl⟩:∃G,F=G+20:=⟨F-20,om⟩;exact (xD s (nx s a)).asr G
  rw [apN];simp only [aH];rcases acG _ (NO s (nx s a)) with hz|hz
  ·rw [has,hz]
   show (rc s (skip s a:Int) e pos).bind _=_;exact Gd _
  ·have hz1:(rO (sy s (nx s a)) == -1)=false:=by rw [gO];omega
   obtain⟨_,_,m3,_⟩:=vi hi (by rw [has];omega);have hx:=aan (x:=sy s (nx s a)) om
   have hnn:(skip s (nx s a):Int)+((sy s (nx s a)).length:Int)=(nx s (nx s a):Int):=by
    have h2:=(Ab s _ m1 hx).2;have h3:nx s (nx s a)=skip s (nx s a)+(tx s (nx s a)).length:=rfl;rw [h3,h2];omega
   rw [has,hz1,dQ hz,xX F _ om,ht];simp only [aH,bw,aU]
   cases hr:rName (b::w) with
   | true=>
    simp only [kn,aU,bw,aH,hnn];rw [bI (x:=(nx s (nx s a):Int)) om]
    cases rs s (nx s (nx s a):Int) e pos<;>rfl
   | false=>
    unfold fT
    cases he:(e==0) with
    | true=>
     simp only [sF,aU,bw,aH,hnn];rw [bI (x:=(nx s (nx s a):Int)) om]
     cases rs s (nx s (nx s a):Int) 10 (skip s a:Int)<;>rfl
    | false=>
     simp only [sF,aU,bw,aH,hnn];rw [bI (x:=(nx s (nx s a):Int)) om];cases rs s (nx s (nx s a):Int) e pos<;>rfl
 ·have ha:=hk2 (by unfold kd;rw [h'];simp)
  rw [hno _ (by rw [hw];rfl) ha,ha];rfl
 ·have ha:=hk2 (by unfold kd;rw [h'];simp)
  rw [hno _ (by rw [hw];rfl) ha,ha];rfl
end
theorem ale(G:Nat)(x:Bs)(k:Int->O RR)(z:O RR):bU (σ:=Int) (fun fV x2=>
   (cond (decide (x2<=6)) (some ((0:Int)==0)) (some false):O Bool).bind fun x4=>cond x4 ((ER (G+10) x2).bind fun x5=>cond (x==x5) (k x2) (fV (aB (x2+1)))) z) (G+10) 3 =
  cond (x==[45]) (k 3) (cond (x==[43]) (k 4) (cond (x==[33]) (k 5) (cond (x==[126]) (k 6) z))):=by kernel_rfl
section
variable {s : Bs} {a F : Nat} (hl : s.length <= 1000000) (hi : a <= s.length) (hF : s.length + 60 <= F)
include hl hi hF
theorem afc(rs rc:Bs->Int->Int->Int->O RR)(rl:Int->Bs->Int->Int->Int->O RR)(ru rp:Bs->Int->Int->Int->O RR):
  gf F rs rc rl ru rp s (a:Int) 0 0=cond (tE (sy s a)==0) (rp s (skip s a:Int) 0 0)
   ((ru s (nx s a:Int) 0 0).bind fun x=>some (.mk (tE (sy s a)) 0 [] [x.1],x.2.1,x.2.2.1,x.2.2.2.1,x.2.2.2.2)):=by
 unfold gf;rw [mG F s a 0 0 hi om hl];obtain⟨G,rfl⟩:∃G,F=G+10:=⟨F-10,om⟩
 have key:=ale G (sy s a) (fun x2=>(ru s (aB ((skip s a:Int)+((sy s a).length:Int))) 0 0).bind fun x6=>some ((TExpr.mk ((TExpr.mk x2 0 [] ([x6.1]:J TExpr)).fOp) ((TExpr.mk x2 0 [] ([x6.1]:J TExpr)).fN) ((TExpr.mk x2 0 [] ([x6.1]:J TExpr)).fName) ((TExpr.mk x2 0 [] ([x6.1]:J TExpr)).fKids)),x6.2.1,x6.2.2.1,x6.2.2.2.1,x6.2.2.2.2))
  ((rp s (skip s a:Int) 0 0).bind fun x7=>some ((TExpr.mk x7.1.fOp x7.1.fN x7.1.fName x7.1.fKids),x7.2.1,x7.2.2.1,x7.2.2.2.1,x7.2.2.2.2))
 refine key.trans ?_;rw [Gd];by_cases hu:tE (sy s a)=0
 ·have hu':(tE (sy s a)==0)=true:=by simpa using hu
  unfold tE at hu
  grind
 ·have hu':(tE (sy s a)==0)=false:=by simp_all
  obtain⟨m1,m2⟩:=dy hi (yS hu)
  have hn:(skip s a:Int)+((sy s a).length:Int)=(nx s a:Int):=by
   have h2:=(Ab s a hi (yS hu)).2;have h3:nx s a=skip s a+(tx s a).length:=rfl;rw [h3,h2];omega
  rw [hn,bI om];unfold tE at hu⊢;revert hu;cases (sy s a==[45])<;>cases (sy s a==[43])<;>cases (sy s a==[33])<;>cases (sy s a==[126])<;>intro hu<;>first|rfl|(simp at hu;done)
theorem ajc(rs rc:Bs->Int->Int->Int->O RR)(rl:Int->Bs->Int->Int->Int->O RR)(ru rp:Bs->Int->Int->Int->O RR){c p:Int}(hc:c≠0):
  gf F rs rc rl ru rp s (a:Int) c p=rp s (skip s a:Int) c p:=by
 unfold gf;rw [mG F s a c p hi om hl];obtain⟨G,rfl⟩:∃G,F=G+1:=⟨F-1,om⟩
 grind [bU,Gd]
theorem afd(rs rc:Bs->Int->Int->Int->O RR)(rl:Int->Bs->Int->Int->Int->O RR)(ru rp:Bs->Int->Int->Int->O RR){c p:Int}(hc:c≠0):
  cy F rs rc rl ru rp s (a:Int) c p=some (.mk 0 0 [] [],s,(skip s a:Int),c,p):=by
 unfold cy;rw [NR hc];simp only [aH];obtain⟨s1,s2⟩:=gQ s a hi;rw [sw F s a c p hi om hl];simp only [aH];rw [KO F s _ c p s1 om hl];have tA:(c != 0)=true:=by simpa using hc
 simp only [tA];rfl
end
def Cq(s:Bs)(x:O RR)(c p:Int):Prop:=∃(e:TExpr)(a:Nat),a<=s.length/\x=some (e,s,(a:Int),c,p)
theorem alf{s:Bs}(hl:s.length<=1000000):bF fun F n=>∀a,a<=s.length->∀c p,c≠0->Cq s (aY F n s ((a:Nat):Int) c p) c p:=
 bF.succ ((gv s).mono fun F n hF a hi c p hc=>⟨_,skip s a,(gQ s a hi).1,afd hl hi hF (bu F n) (bq F n) (aO F n) (bf F n) (aY F n) hc⟩)
theorem aoI{s:Bs}(hl:s.length<=1000000):bF fun F n=>∀a,a<=s.length->∀c p,c≠0->Cq s (bf F n s ((a:Nat):Int) c p) c p:=
 bF.succ ((gv s).kB (alf hl) fun F n hF h a hi c p hc=>by
  show Cq s (gf F (bu F n) (bq F n) (aO F n) (bf F n) (aY F n) s (a:Int) c p) c p
  simp_all [ajc,gQ])
theorem IK(F:Nat)(rs rc:Bs->Int->Int->Int->O RR)(rl:Int->Bs->Int->Int->Int->O RR)(ru rp:Bs->Int->Int->Int->O RR)(l:Int)(h3:3<=l)(hl:l<=12)(s:Bs)(at' c p:Int):
  fh F rs rc rl ru rp l s at' c p=(rl (l+1) s at' c p).bind fun x2=>bU (qY F rl l) F (x2.2.1,x2.2.2.1,x2.2.2.2.1,x2.2.2.2.2,x2.1.fOp,x2.1.fN,x2.1.fName,x2.1.fKids):=by
 unfold fh qY
 grind [decide_eq_false,bI]
theorem P8(F:Nat)(rs rc:Bs->Int->Int->Int->O RR)(rl:Int->Bs->Int->Int->Int->O RR)(ru rp:Bs->Int->Int->Int->O RR)(l:Int)(hl:12<l)(s:Bs)(at' c p:Int):
  fh F rs rc rl ru rp l s at' c p=ru s at' c p:=by
 unfold fh
 grind [decide_eq_true,Gd]
theorem QY(F:Nat)(r:Int->Bs->Int->Int->Int->O RR)(l:Int)(m:Nat)(s:Bs)(at' c p:Int)(a:TExpr)(hc:c≠0):bU (qY F r l) (m+1) (s,at',c,p,a.fOp,a.fN,a.fName,a.fKids)=some (a,s,at',c,p):=by
 have tA:(c==0)=false:=by simpa using hc
 show qY F r l (bU (qY F r l) m) _=_;unfold qY;simp [tA]
theorem aap{s:Bs}(hl:s.length<=1000000):∀(k:Nat)(l:Int),l+k=13->3<=l->bF fun F n=>∀a,a<=s.length->∀c p,c≠0->Cq s (aO F n l s ((a:Nat):Int) c p) c p
 | 0,l,hk,h3=>bF.succ ((aoI hl).mono fun F n h a hi c p hc=>by
   show Cq s (fh F (bu F n) (bq F n) (aO F n) (bf F n) (aY F n) l s (a:Int) c p) c p
   simp_all [P8])
 | k+1,l,hk,h3=>bF.succ ((gv s).kB (aap hl k (l+1) om om) fun F n hF h a hi c p hc=>by
   show Cq s (fh F (bu F n) (bq F n) (aO F n) (bf F n) (aY F n) l s (a:Int) c p) c p;rw [IK F _ _ _ _ _ l h3 om];obtain⟨e,a',gr,hx⟩:=h a hi c p hc;obtain⟨G,rfl⟩:∃G,F=G+1:=⟨F-1,om⟩
   grind [QY])
theorem alg{s:Bs}(hl:s.length<=1000000):bF fun F n=>∀a,a<=s.length->∀c p,c≠0->Cq s (bq F n s ((a:Nat):Int) c p) c p:=
 bF.succ ((aap hl 10 3 de de).mono fun F n h a hi c p hc=>by
  show Cq s (dx F (bu F n) (bq F n) (aO F n) (bf F n) (aY F n) s (a:Int) c p) c p;unfold dx;obtain⟨e,a',gr,hx⟩:=h a hi c p hc;rw [hx];simp;rw [NR hc];exact⟨_,a',gr,rfl⟩)
theorem ag7{s:Bs}(hl:s.length<=1000000):∀k:Nat,bF fun F n=>∀a,a<=s.length->s.length-a<k->∀c p,c≠0->Cq s (bu F n s ((a:Nat):Int) c p) c p
 | 0=>bF.of fun F n a _ h=>by omega
 | k+1=>bF.succ ((gv s).BM (alg hl) (ag7 hl k) fun F n hF h1 h2 a hi hk c p hc=>by
   show Cq s (iL F (bu F n) (bq F n) (aO F n) (bf F n) (aY F n) s (a:Int) c p) c p;rw [FF hl hi hF]
   cases ha:(je s a == -1) with
   | true=>simp_all [gQ]
   | false=>
    have tA:(c==0)=false:=by simpa using hc
    obtain⟨_,_,m1,m2⟩:=vi hi (by simp_all);simp only [aU,tA];have e1:cond (rName (tx s a)) c c=c:=by simp_all
    have e2:cond (rName (tx s a)) p p=p:=by simp_all
    rw [e1,e2];obtain⟨e,a',gr,hx⟩:=h2 _ m1 om c p hc;rw [hx];exact⟨_,a',gr,rfl⟩)
def StR(s:Bs):U3->Nat->oa->Prop
 | .expr,i,r=>bF fun F n=>∀a,a<=s.length->skip s a=skip s i->j9 s r (bu F n s ((a:Nat):Int) 0 0)
 | .cond,i,r=>bF fun F n=>∀a,a<=s.length->skip s a=skip s i->j9 s r (bq F n s ((a:Nat):Int) 0 0)
 | .level l,i,r=>bF fun F n=>∀a,a<=s.length->skip s a=skip s i->j9 s r (aO F n l s ((a:Nat):Int) 0 0)
 | .loop l b,i,r=>∃N,∀F n m,N<=F->N<=n->N<=m->∀a,a<=s.length->skip s a=skip s i->j9 s r (bU (qY F (aO F n) l) m (s,((a:Nat):Int),0,0,b.fOp,b.fN,b.fName,b.fKids))
 | .un,i,r=>bF fun F n=>∀a,a<=s.length->skip s a=skip s i->j9 s r (bf F n s ((a:Nat):Int) 0 0)
 | .mY,i,r=>bF fun F n=>∀a,a<=s.length->skip s a=skip s i->j9 s r (aY F n s ((a:Nat):Int) 0 0)
def ane(s:Bs):oa->Prop
 | .ok _ j=>j<=s.length
 | .err _ c=>c≠0
theorem CS{s:Bs}{c:U3}{i:Nat}{r:oa}(d:RD s c i r):i<=s.length->ane s r:=by
 have nb:∀ {i:Nat},i<=s.length->nx s i<=s.length:=fun h=>(kg s _ h).1
 induction d with
 | Ac h d ih=>exact ih
 | Ad h hn=>intro _;exact (show (10:Int)≠0 by decide)
 | EB h hn d ih=>intro hi;exact ih (nb (nb hi))
 | EC h hn d ih=>grind
 | EF d ih=>exact ih
 | EG d h ih=>exact ih
 | EH d h d2 ih ih2=>intro hi;exact ih2 (nb (ih hi))
 | EI d h d2 h2 ih ih2=>intro _;exact (show (6:Int)≠0 by decide)
 | KR d h d2 h2 d3 ih ih2 ih3=>intro hi;exact ih3 (nb (ih2 (nb (ih hi))))
 | EJ d h d2 h2 d3 ih ih2 ih3=>intro hi;exact ih3 (nb (ih2 (nb (ih hi))))
 | ae9 hl d ih=>exact ih
 | X6 h3 hl d ih=>exact ih
 | aja h3 hl d d2 ih ih2=>intro hi;exact ih2 (ih hi)
 | vh h=>exact id
 | Cp h d ih=>simp_all
 | Gb h d d2 ih ih2=>intro hi;exact ih2 (ih (nb hi))
 | Ae h d ih=>exact ih
 | EK h d ih=>simp_all
 | KS h d ih=>intro hi;exact ih (nb hi)
 | EM h hv=>exact nb
 | Af h hv=>intro _;exact hv
 | EN h hv=>exact nb
 | Ag h hv=>intro _;exact (show (10:Int)≠0 by decide)
 | EO h1 h2 h=>intro _;exact (show (6:Int)≠0 by decide)
 | KT h d ih=>simp_all
 | vY h d h2 ih=>intro _;exact (show (6:Int)≠0 by decide)
 | KU h d h2 ih=>intro hi;exact nb (ih (nb hi))
theorem CU{s:Bs}{a F:Nat}(hl:s.length<=1000000)(hi:a<=s.length)(hF:s.length+60<=F)(h:sy s a≠[40])(rs rc:Bs->Int->Int->Int->O RR)(rl:Int->Bs->Int->Int->Int->O RR)(ru rp:Bs->Int->Int->Int->O RR):
  cy F rs rc rl ru rp s (a:Int) 0 0=cond (kM s (skip s a)==[]) (some (.mk 0 0 [] [],s,(skip s a:Int),6,(skip s a:Int)))
   (rq (decide (0<((kM s (skip s a)).length:Int))) ((mX F (((kM s (skip s a)).getD 0 0).toNat:Int)).bind fun x8=>
    cond x8 (cond (rName (kM s (skip s a))) (some (.mk 2 0 (kM s (skip s a)) [],s,aB ((skip s a:Int)+((kM s (skip s a)).length:Int)),0,0)) (some (.mk 2 0 (kM s (skip s a)) [],s,aB ((skip s a:Int)+((kM s (skip s a)).length:Int)),10,(skip s a:Int))))
     ((kY F (kM s (skip s a))).bind fun fD=>cond (cond (fD.2==0&&decide (9223372036854775807<fD.1)) 14 fD.2 != 0)
       (some (.mk 0 0 [] [],s,(skip s a:Int),cond (fD.2==0&&decide (9223372036854775807<fD.1)) 14 fD.2,(skip s a:Int)))
       (some (.mk 1 (aB fD.1) [] [],s,aB ((skip s a:Int)+((kM s (skip s a)).length:Int)),0,0))))):=by
 obtain⟨s1,s2⟩:=gQ s a hi;unfold cy;rw [X7 hl hi hF h];simp only [aH];rw [sw F s (skip s a) 0 0 s1 om hl,ve];simp only [aH];rw [KO F s _ 0 0 s1 om hl];simp only [aH];generalize kM s (skip s a)=w;rw [xX F w om]
 cases (w==[]) with
 | true=>rfl
 | false=>
  simp;congr 1;congr 1
  funext x8
  cases x8 with
  | true=>cases rName w<;>rfl
  | false=>
   simp;congr 1
   funext fD
   cases (fD.2==0) with
   | false=>simp;cases (fD.2 != 0)<;>rfl
   | true=>
    cases decide (9223372036854775807<fD.1) with
    | false=>simp;cases (fD.2 != 0)<;>rfl
    | true=>rfl
theorem acH{s:Bs}{a F:Nat}(hl:s.length<=1000000)(hi:a<=s.length)(hF:s.length+60<=F){l:Int}(h3:3<=l)(hlv:lX s a=l)(aqn:l<=12)(r:Int->Bs->Int->Int->Int->O RR)(rc:SR->O RR)(e:TExpr):
  qY F r l rc (s,(a:Int),0,0,e.fOp,e.fN,e.fName,e.fKids)=(r (l+1) s (nx s a:Int) 0 0).bind fun x7=>rc (x7.2.1,x7.2.2.1,x7.2.2.2.1,x7.2.2.2.2,(ga (sy s a)).2,0,[],[e,x7.1]):=by
 have hne:=yE (l:=l) om (by show l<=lX s a;omega);obtain⟨m1,m2⟩:=dy hi hne
 have hn:(skip s a:Int)+((sy s a).length:Int)=(nx s a:Int):=by
  have h2:=(Ab s a hi hne).2;have h3:nx s a=skip s a+(tx s a).length:=rfl;rw [h3,h2];omega
 have hop:=(xD s a).op (show lX s a≠0 by omega)
 have ajd:kD F (sy s a) l=some (ga (sy s a)).2:=by
  obtain⟨G,rfl⟩:∃G,F=G+20:=⟨F-20,om⟩;rw [(xD s a).bir,show ((ga (sy s a)).1==l)=true by simp_all];rfl
 unfold qY;rw [mG F s a 0 0 hi om hl];simp;rw [show mP (s.drop (skip s a))=sy s a from rfl,ajd];have hz:((ga (sy s a)).2==0)=false:=by grind
 simp [hz,hn];rw [bI (x:=(nx s a:Int)) om,bI om];rfl
def U3.ok:U3->Prop
 | .loop l _=>3<=l/\l<=12
 | _=>True
theorem To(x:Bs)(h:(nS x).2=0):0<=(nS x).1/\(nS x).1<=9223372036854775807:=by
 unfold nS at h⊢
 cases hb:((qm x).2==[]) with
 | true=>rw [hb] at h;cases h
 | false=>
  unfold pq at h⊢
  grind
theorem apO{s:Bs}(hl:s.length<=1000000){c:U3}{i:Nat}{r:oa}(d:RD s c i r):i<=s.length->c.ok->StR s c i r:=by
 have nb:∀ {i:Nat},i<=s.length->nx s i<=s.length:=fun h=>(kg s _ h).1
 induction d with
 | @Ac i r h d ih=>
  intro hi hok;refine bF.succ (bF.kB (ih hi trivial) (gv s) fun F n h1 hF a ha hs=>?_);show j9 s r (iL F (bu F n) (bq F n) (aO F n) (bf F n) (aY F n) s (a:Int) 0 0)
  grind [FF,KV,gQ,ve]
 | @Ad i h hn=>
  intro hi hok;refine bF.succ (bF.kB (ag7 hl (s.length+1)) (gv s) fun F n h1 hF a ha hs=>?_);show j9 s _ (iL F (bu F n) (bq F n) (aO F n) (bf F n) (aY F n) s (a:Int) 0 0);have hb:(je s i == -1)=false:=by simp_all
  rw [FF hl ha hF,KV hs,hb,yT hs,hn,hs];simp only [aU,Fq,bw];obtain⟨e,a',gr,hx⟩:=h1 (nx s (nx s a)) (nb (nb ha)) om 10 (skip s i:Int) de;rw [hx]
  exact⟨by decide,_,a',gr,rfl⟩
 | @EB i j e h hn d ih=>
  intro hi hok;refine bF.succ (bF.kB (ih (nb (nb hi)) trivial) (gv s) fun F n h1 hF a ha hs=>?_);show j9 s _ (iL F (bu F n) (bq F n) (aO F n) (bf F n) (aY F n) s (a:Int) 0 0);have hb:(je s i == -1)=false:=by simp_all
  rw [FF hl ha hF,KV hs,hb,yT hs,hn,jU hs];simp only [aU,bw];obtain⟨a',gr,hs',hx⟩:=h1 (nx s (nx s i)) (nb (nb hi)) rfl;rw [hx]
  exact⟨a',gr,hs',rfl⟩
 | @EC i p c h hn d ih=>
  intro hi hok;refine bF.succ (bF.kB (ih (nb (nb hi)) trivial) (gv s) fun F n h1 hF a ha hs=>?_);show j9 s _ (iL F (bu F n) (bq F n) (aO F n) (bf F n) (aY F n) s (a:Int) 0 0);have hb:(je s i == -1)=false:=by simp_all
  rw [FF hl ha hF,KV hs,hb,yT hs,hn,jU hs];simp only [aU,bw];obtain⟨hc,e,a',gr,hx⟩:=h1 (nx s (nx s i)) (nb (nb hi)) rfl;rw [hx]
  exact⟨hc,_,a',gr,rfl⟩
 | @EF i p c d ih=>
  intro hi hok;refine bF.succ (bF.mono (ih hi trivial) fun F n h1 a ha hs=>?_);show j9 s _ (dx F (bu F n) (bq F n) (aO F n) (bf F n) (aY F n) s (a:Int) 0 0);unfold dx;obtain⟨hc,e,a',gr,hx⟩:=h1 a ha hs;rw [hx];simp only [aH];rw [NR hc]
  exact⟨hc,_,a',gr,rfl⟩
 | @EG i j e d h ih=>
  intro hi hok;refine bF.succ (bF.kB (ih hi trivial) (gv s) fun F n h1 hF a ha hs=>?_);show j9 s _ (dx F (bu F n) (bq F n) (aO F n) (bf F n) (aY F n) s (a:Int) 0 0);unfold dx;obtain⟨a',gr,hs',hx⟩:=h1 a ha hs;rw [hx];simp only [aH];rw [X7 hl gr hF (by rw [iM hs'];exact h)];simp only [aH,sF,bw,TExpr.eta]
  exact⟨skip s a',(gQ s a' gr).1,(ve s a').trans hs',rfl⟩
 | @EH i j p c e d h d2 ih ih2=>
  intro hi hok;have hj:j<=s.length:=CS d hi;refine bF.succ (bF.BM (ih hi trivial) (ih2 (nb hj) trivial) (gv s) fun F n h1 h2 hF a ha hs=>?_);show j9 s _ (dx F (bu F n) (bq F n) (aO F n) (bf F n) (aY F n) s (a:Int) 0 0);unfold dx;obtain⟨a',gr,hs',hx⟩:=h1 a ha hs;rw [hx];simp only [aH];rw [xE hl gr hF de (by rw [iM hs'];exact h),jU hs'];simp only [aH,kn,aU];obtain⟨hc,e2,a2,q8,hx2⟩:=h2 _ (nb hj) rfl;rw [hx2];simp only [aH];rw [NR hc];simp only [aH,sF,bw];rw [QX hc]
  exact⟨hc,_,a2,q8,rfl⟩
 | @EI i j k e e2 d h d2 h2 ih ih2=>
  intro hi hok;have hj:j<=s.length:=CS d hi;refine bF.succ (bF.BM (ih hi trivial) (ih2 (nb hj) trivial) (gv s) fun F n h1 h3 hF a ha hs=>?_);show j9 s _ (dx F (bu F n) (bq F n) (aO F n) (bf F n) (aY F n) s (a:Int) 0 0);unfold dx;obtain⟨a',gr,hs',hx⟩:=h1 a ha hs;rw [hx];simp only [aH];rw [xE hl gr hF de (by rw [iM hs'];exact h),jU hs'];simp only [aH,kn,aU];obtain⟨a2,q8,hs2,hx2⟩:=h3 _ (nb hj) rfl;rw [hx2];simp only [aH];rw [X7 hl q8 hF (by rw [iM hs2];exact h2),hs2]
  exact⟨by decide,_,skip s k,(by rw [<-hs2];exact (gQ s a2 q8).1),rfl⟩
 | @KR i j k p c e e2 d h d2 h2 d3 ih ih2 ih3=>
  intro hi hok;have hj:j<=s.length:=CS d hi;have hk:k<=s.length:=CS d2 (nb hj);refine bF.succ (bF.BM ((ih hi trivial).and (ih3 (nb hk) trivial)) (ih2 (nb hj) trivial) (gv s) fun F n h1 h3 hF a ha hs=>?_);obtain⟨h1,h4⟩:=h1;show j9 s _ (dx F (bu F n) (bq F n) (aO F n) (bf F n) (aY F n) s (a:Int) 0 0);unfold dx;obtain⟨a',gr,hs',hx⟩:=h1 a ha hs;rw [hx];simp only [aH];rw [xE hl gr hF de (by rw [iM hs'];exact h),jU hs'];simp only [aH,kn,aU];obtain⟨a2,q8,hs2,hx2⟩:=h3 _ (nb hj) rfl;rw [hx2];simp only [aH];rw [xE hl q8 hF de (by rw [iM hs2];exact h2),jU hs2];simp only [aH,kn,aU];obtain⟨hc,e4,a4,ha4,hx4⟩:=h4 _ (nb hk) rfl;rw [hx4]
  exact⟨hc,_,a4,ha4,rfl⟩
 | @EJ i j k m e e2 e3 d h d2 h2 d3 ih ih2 ih3=>
  intro hi hok;have hj:j<=s.length:=CS d hi;have hk:k<=s.length:=CS d2 (nb hj);refine bF.succ (bF.BM ((ih hi trivial).and (ih3 (nb hk) trivial)) (ih2 (nb hj) trivial) (gv s) fun F n h1 h3 hF a ha hs=>?_);obtain⟨h1,h4⟩:=h1;show j9 s _ (dx F (bu F n) (bq F n) (aO F n) (bf F n) (aY F n) s (a:Int) 0 0);unfold dx;obtain⟨a',gr,hs',hx⟩:=h1 a ha hs;rw [hx];simp only [aH];rw [xE hl gr hF de (by rw [iM hs'];exact h),jU hs'];simp only [aH,kn,aU];obtain⟨a2,q8,hs2,hx2⟩:=h3 _ (nb hj) rfl;rw [hx2];simp only [aH];rw [xE hl q8 hF de (by rw [iM hs2];exact h2),jU hs2];simp only [aH,kn,aU];obtain⟨a4,ha4,hs4,hx4⟩:=h4 _ (nb hk) rfl;rw [hx4];simp only [aH,TExpr.eta]
  exact⟨a4,ha4,hs4,rfl⟩
 | @ae9 l i r hv d ih=>
  intro hi hok;refine bF.succ (bF.mono (ih hi trivial) fun F n h1 a ha hs=>?_);show j9 s _ (fh F (bu F n) (bq F n) (aO F n) (bf F n) (aY F n) l s (a:Int) 0 0)
  simp_all [P8]
 | @X6 l i p c h3 hv d ih=>
  intro hi hok;refine bF.succ (bF.kB (ih hi trivial) (gv s) fun F n h1 hF a ha hs=>?_);show j9 s _ (fh F (bu F n) (bq F n) (aO F n) (bf F n) (aY F n) l s (a:Int) 0 0);rw [IK F _ _ _ _ _ l h3 hv];obtain⟨hc,e,a',gr,hx⟩:=h1 a ha hs;rw [hx];obtain⟨G,rfl⟩:∃G,F=G+1:=⟨F-1,om⟩
  grind [QY]
 | @aja l i j e r h3 hv d d2 ih ih2=>
  intro hi hok;have hj:j<=s.length:=CS d hi;obtain⟨N,h2⟩:=ih2 hj ⟨h3,hv⟩;refine bF.succ (bF.kB (ih hi trivial) (bF.ge (p:=fun F n=>N<=F/\N<=n) N fun F n a b=>⟨a,b⟩) fun F n h1 hN a ha hs=>?_);show j9 s _ (fh F (bu F n) (bq F n) (aO F n) (bf F n) (aY F n) l s (a:Int) 0 0);rw [IK F _ _ _ _ _ l h3 hv];obtain⟨a',gr,hs',hx⟩:=h1 a ha hs
  simp_all
 | @vh l i e h=>
  intro hi hok;refine⟨s.length+60,fun F n m hF _ hm a ha hs=>?_⟩
  cases m with
  | zero=>omega
  | succ m=>
   show j9 s _ (qY F (aO F n) l (bU (qY F (aO F n) l) m) (s,(a:Int),0,0,e.fOp,e.fN,e.fName,e.fKids));unfold qY
   have ajd:kD F (sy s a) l=some 0:=by
    obtain⟨G,rfl⟩:∃G,F=G+20:=⟨F-20,om⟩;rw [(xD s a).bir,iM hs,show ((ga (sy s i)).1==l)=false by rw [gO];exact h];rfl
   simp only [Fq,bw];rw [mG F s a 0 0 ha om hl];simp only [aH];rw [show mP (s.drop (skip s a))=sy s a from rfl,ajd];simp only [aH,Fq,bw,TExpr.eta]
   exact⟨skip s a,(gQ s a ha).1,(ve s a).trans hs,rfl⟩
 | @Cp l i p c e h d ih=>
  intro hi hok;obtain⟨N,h1⟩:=ih (nb hi) trivial;obtain⟨h3,h12⟩:=hok;refine⟨N+s.length+60,fun F n m hF hn hm a ha hs=>?_⟩
  cases m with
  | zero=>omega
  | succ m=>
   cases m with
   | zero=>omega
   | succ m=>
    show j9 s _ (qY F (aO F n) l (bU (qY F (aO F n) l) (m+1)) (s,(a:Int),0,0,e.fOp,e.fN,e.fName,e.fKids));rw [acH hl ha om h3 (by rw [lX,iM hs];exact h) h12,jU hs,iM hs];obtain⟨hc,e2,a',gr,hx⟩:=h1 F n om om _ (nb hi) rfl;rw [hx];simp only [aH]
    refine⟨hc,_,a',gr,QY F (aO F n) l m s (a':Int) c (p:Int) (.mk (ga (sy s i)).2 0 [] [e,e2]) hc⟩
 | @Gb l i j e e2 r h d d2 ih ih2=>
  intro hi hok;have hj:j<=s.length:=CS d (nb hi);obtain⟨N,h1⟩:=ih (nb hi) trivial;obtain⟨N2,h2⟩:=ih2 hj hok;obtain⟨h3,h12⟩:=hok;refine⟨N+N2+s.length+60,fun F n m hF hn hm a ha hs=>?_⟩
  cases m with
  | zero=>omega
  | succ m=>
   show j9 s _ (qY F (aO F n) l (bU (qY F (aO F n) l) m) (s,(a:Int),0,0,e.fOp,e.fN,e.fName,e.fKids));rw [acH hl ha om h3 (by rw [lX,iM hs];exact h) h12,jU hs,iM hs];obtain⟨a',gr,hs',hx⟩:=h1 F n om om _ (nb hi) rfl;rw [hx]
   exact h2 F n m om om om a' gr hs'
 | @Ae i r h d ih=>
  intro hi hok;refine bF.succ (bF.kB (ih hi trivial) (gv s) fun F n h1 hF a ha hs=>?_);show j9 s _ (gf F (bu F n) (bq F n) (aO F n) (bf F n) (aY F n) s (a:Int) 0 0)
  grind [afc,iM,gQ,ve]
 | @EK i p c h d ih=>
  intro hi hok;refine bF.succ (bF.kB (ih (nb hi) trivial) (gv s) fun F n h1 hF a ha hs=>?_);show j9 s _ (gf F (bu F n) (bq F n) (aO F n) (bf F n) (aY F n) s (a:Int) 0 0);have hb:(tE (sy s i)==0)=false:=by rw [gO];exact h
  rw [afc hl ha hF,iM hs,hb,jU hs];obtain⟨hc,e,a',gr,hx⟩:=h1 _ (nb hi) rfl;rw [hx]
  exact⟨hc,_,a',gr,rfl⟩
 | @KS i j e h d ih=>
  intro hi hok;refine bF.succ (bF.kB (ih (nb hi) trivial) (gv s) fun F n h1 hF a ha hs=>?_);show j9 s _ (gf F (bu F n) (bq F n) (aO F n) (bf F n) (aY F n) s (a:Int) 0 0);have hb:(tE (sy s i)==0)=false:=by rw [gO];exact h
  rw [afc hl ha hF,iM hs,hb,jU hs];obtain⟨a',gr,hs',hx⟩:=h1 _ (nb hi) rfl;rw [hx]
  exact⟨a',gr,hs',rfl⟩
 | @EM i h hv=>
  intro hi hok;refine bF.succ (bF.mono (gv s) fun F n hF a ha hs=>?_);show j9 s _ (cy F (bu F n) (bq F n) (aO F n) (bf F n) (aY F n) s (a:Int) 0 0);rw [<-Fk hs] at h;rw [<-yT hs] at hv⊢;rw [<-jU hs];rcases lK s a ha with⟨h',_,_,_⟩|⟨w,b,h',Ws,hw,hd,hl'⟩|⟨w,b,h',_,hw,hd,hl'⟩|⟨x',h',_,hw,hm,_⟩|⟨b,h',_,hw,_⟩<;>(first|(unfold kd at h;rw [h'] at h;simp at h;done)|skip);have ht:tx s a=b::w:=by unfold tx;rw [h']
  have hn:(nx s a:Int)=(skip s a:Int)+((b::w).length:Int):=by unfold nx;rw [ht];omega
  rw [ht] at hv⊢;rw [CU hl ha hF (by rw [Ws];decide),hw];have hp:decide (0<((b::w).length:Int))=true:=dQ (by simp_all);obtain⟨m,e,c1,c2,c3⟩:=aac F (b::w) si om om;have c3:=c3 hv;rw [hv] at c2;simp only [show ((b::w)==[])=false from rfl,aU,hp,gz,Uc,vf,afb b hd,aH,c1,c2,Qj];have hrg:=(To (b::w) hv);rw [c3,bI (x:=(nS (b::w)).1) om,bI (x:=(skip s a:Int)+((b::w).length:Int)) om,<-hn]
  exact⟨nx s a,nb ha,rfl,rfl⟩
 | @Af i h hv=>
  intro hi hok;refine bF.succ (bF.mono (gv s) fun F n hF a ha hs=>?_);show j9 s _ (cy F (bu F n) (bq F n) (aO F n) (bf F n) (aY F n) s (a:Int) 0 0);rw [<-Fk hs] at h;rw [<-yT hs] at hv⊢;rw [<-hs];rcases lK s a ha with⟨h',_,_,_⟩|⟨w,b,h',Ws,hw,hd,hl'⟩|⟨w,b,h',_,hw,hd,hl'⟩|⟨x',h',_,hw,hm,_⟩|⟨b,h',_,hw,_⟩<;>(first|(unfold kd at h;rw [h'] at h;simp at h;done)|skip);have ht:tx s a=b::w:=by unfold tx;rw [h']
  rw [ht] at hv⊢;rw [CU hl ha hF (by rw [Ws];decide),hw];have hp:decide (0<((b::w).length:Int))=true:=dQ (by simp_all);obtain⟨m,e,c1,c2,c3⟩:=aac F (b::w) si om om;have hb:((nS (b::w)).2 != 0)=true:=by simpa using hv
  simp only [show ((b::w)==[])=false from rfl,aU,hp,gz,Uc,vf,afb b hd,aH,c1,c2,hb,bw]
  exact⟨hv,_,skip s a,(gQ s a ha).1,rfl⟩
 | @EN i h hv=>
  intro hi hok;refine bF.succ (bF.mono (gv s) fun F n hF a ha hs=>?_);show j9 s _ (cy F (bu F n) (bq F n) (aO F n) (bf F n) (aY F n) s (a:Int) 0 0);rw [<-Fk hs] at h;rw [<-yT hs] at hv⊢;rw [<-jU hs];rcases lK s a ha with⟨h',_,_,_⟩|⟨w,b,h',_,hw,hd,hl'⟩|⟨w,b,h',Ws,hw,hd,hl'⟩|⟨x',h',_,hw,hm,_⟩|⟨b,h',_,hw,_⟩<;>(first|(unfold kd at h;rw [h'] at h;simp at h;done)|skip);have ht:tx s a=b::w:=by unfold tx;rw [h']
  have hn:(nx s a:Int)=(skip s a:Int)+((b::w).length:Int):=by unfold nx;rw [ht];omega
  rw [ht] at hv⊢;rw [CU hl ha hF (by rw [Ws];decide),hw];have hp:decide (0<((b::w).length:Int))=true:=dQ (by simp_all);simp only [show ((b::w)==[])=false from rfl,aU,hp,gz,Uc,vf,hd,aH,bw,hv];rw [bI (x:=(skip s a:Int)+((b::w).length:Int)) om,<-hn]
  exact⟨nx s a,nb ha,rfl,rfl⟩
 | @Ag i h hv=>
  intro hi hok;refine bF.succ (bF.mono (gv s) fun F n hF a ha hs=>?_);show j9 s _ (cy F (bu F n) (bq F n) (aO F n) (bf F n) (aY F n) s (a:Int) 0 0);rw [<-Fk hs] at h;rw [<-yT hs] at hv;rw [<-hs];rcases lK s a ha with⟨h',_,_,_⟩|⟨w,b,h',_,hw,hd,hl'⟩|⟨w,b,h',Ws,hw,hd,hl'⟩|⟨x',h',_,hw,hm,_⟩|⟨b,h',_,hw,_⟩<;>(first|(unfold kd at h;rw [h'] at h;simp at h;done)|skip);have ht:tx s a=b::w:=by unfold tx;rw [h']
  have hn:(nx s a:Int)=(skip s a:Int)+((b::w).length:Int):=by unfold nx;rw [ht];omega
  rw [ht] at hv;rw [CU hl ha hF (by rw [Ws];decide),hw];have hp:decide (0<((b::w).length:Int))=true:=dQ (by simp_all);simp only [show ((b::w)==[])=false from rfl,aU,hp,gz,Uc,vf,hd,aH,bw,hv];rw [bI (x:=(skip s a:Int)+((b::w).length:Int)) om,<-hn]
  exact⟨by decide,_,nx s a,nb ha,rfl⟩
 | @EO i h1 h2 h=>
  intro hi hok;refine bF.succ (bF.mono (gv s) fun F n hF a ha hs=>?_);show j9 s _ (cy F (bu F n) (bq F n) (aO F n) (bf F n) (aY F n) s (a:Int) 0 0);rw [<-Fk hs] at h1 h2;rw [<-iM hs] at h;rw [<-hs]
  have hw:kM s (skip s a)=[]:=by
   rcases lK s a ha with⟨h',_,hw,_⟩|⟨w,b,h',_,hw,hd,hl'⟩|⟨w,b,h',Ws,hw,hd,hl'⟩|⟨x',h',_,hw,hm,_⟩|⟨b,h',_,hw,_⟩
   ·exact hw
   ·unfold kd at h1;simp_all
   ·unfold kd at h2;simp_all
   ·exact hw
   ·exact hw
  rw [CU hl ha hF h,hw]
  exact⟨by decide,_,skip s a,(gQ s a ha).1,rfl⟩
 | @KT i p c h d ih=>
  intro hi hok;refine bF.succ (bF.kB (ih (nb hi) trivial) (gv s) fun F n h1 hF a ha hs=>?_);show j9 s _ (cy F (bu F n) (bq F n) (aO F n) (bf F n) (aY F n) s (a:Int) 0 0);unfold cy;rw [xE hl ha hF de (by rw [iM hs];exact h),jU hs];simp only [aH,bw];obtain⟨hc,e,a',gr,hx⟩:=h1 _ (nb hi) rfl;rw [hx];simp only [aH];rw [NR hc];simp only [aH,sF,bw];rw [QX hc]
  exact⟨hc,_,a',gr,rfl⟩
 | @vY i j e h d h2 ih=>
  intro hi hok;refine bF.succ (bF.kB (ih (nb hi) trivial) (gv s) fun F n h1 hF a ha hs=>?_);show j9 s _ (cy F (bu F n) (bq F n) (aO F n) (bf F n) (aY F n) s (a:Int) 0 0);unfold cy;rw [xE hl ha hF de (by rw [iM hs];exact h),jU hs];simp only [aH,bw];obtain⟨a',gr,hs',hx⟩:=h1 _ (nb hi) rfl;rw [hx];simp only [aH];rw [X7 hl gr hF (by rw [iM hs'];exact h2),hs']
  exact⟨by decide,_,skip s j,(by rw [<-hs'];exact (gQ s a' gr).1),rfl⟩
 | @KU i j e h d h2 ih=>
  intro hi hok;refine bF.succ (bF.kB (ih (nb hi) trivial) (gv s) fun F n h1 hF a ha hs=>?_);show j9 s _ (cy F (bu F n) (bq F n) (aO F n) (bf F n) (aY F n) s (a:Int) 0 0);unfold cy;rw [xE hl ha hF de (by rw [iM hs];exact h),jU hs];simp only [aH,bw];obtain⟨a',gr,hs',hx⟩:=h1 _ (nb hi) rfl;rw [hx];simp only [aH];rw [xE hl gr hF de (by rw [iM hs'];exact h2)];simp only [aH,kn,aU,TExpr.eta];exact⟨nx s a',nb gr,(by rw [jU hs']),rfl⟩
end Go.Proofs.YtlgmlcgjmcmmgaaGreatDoor.K
namespace Go.Proofs.YtlgmlcgjmcmmgaaGreatDoor.K
open Go.RT
set_option maxRecDepth 100000
theorem akb{n:Int}(h:-9223372036854775808<=n/\n<=9223372036854775807):(Lit.int .i64 n).wf=true:=by
 have h1:IntKind.i64.min=-9223372036854775808:=by decide
 have h2:IntKind.i64.max=9223372036854775807:=by decide
 simp [Lit.wf];omega
theorem alh:∀x,x∈([]::oz)->rO x<=26:=by decide
theorem anf(x:Bs):0<=tE x/\tE x<=6:=by
 unfold tE
 grind
theorem ali:∀x,x∈([]::oz)->0<=(ga x).2/\(ga x).2<=26:=by decide
def aoJ(s:Bs)(c:mJ)(i:Nat):oa->Prop
 | .ok e j=>ic e/\(match c with | .loop _ a=>nodes e+i<=j+nodes a|_=>nodes e+i<=j)
 | .err _ _=>True
def mJ.okA:mJ->Prop
 | .oper l=>0<l
 | .loop l a=>0<l/\ic a
 | _=>True
theorem Ke(s:Bs)(i:Nat)(hl:s.length<=1000000)(hi:i<=s.length):(tx s i).length<=maxLen:=by
 have:=ag4 hi;have h:(1000000:Nat)<=maxLen:=by decide
 omega
theorem HJ{op n:Int}{name:Bs}{kids:J TExpr}(h1:0<=op/\op<=26)(h2:-1<=n/\n<=9223372036854775807)(h3:name.length<=maxLen)(h4:kids.length<=3)(h5:∀x,x∈kids->ic x):ic (.mk op n name kids):=
 .mk op n name kids (akb om) (akb om) h3 (nG h4 de) h5
theorem ang{s:Bs}(hl:s.length<=1000000){c:mJ}{i:Nat}{r:oa}(d:D s c i r):i<=s.length->c.okA->aoJ s c i r:=by
 induction d with
 | @Ac i r h d ih=>
  intro hi _;have:=ih hi trivial
  cases r with
  | ok e j=>exact this
  | err p c=>trivial
 | Ad h hn=>intro _ _;trivial
 | @EB i j e h hn d ih=>
  intro hi _;obtain⟨a,b,c,f⟩:=vi hi h;obtain⟨x,y⟩:=ih c trivial;have g:=alh _ (NO s (nx s i));have g2:=acG _ (NO s (nx s i));rw [(NP h).2.2];refine⟨HJ om om (Ke s i hl hi) si (by simpa using x),?_⟩
  simp [nodes,lJ];omega
 | EC h hn d ih=>intro _ _;trivial
 | EF d ih=>intro _ _;trivial
 | EG d h ih=>intro hi _;exact ih hi (show (0:Int)<3 by decide)
 | EH d h d2 ih ih2=>intro _ _;trivial
 | EI d h d2 h2 ih ih2=>intro _ _;trivial
 | KR d h d2 h2 d3 ih ih2 ih3=>intro _ _;trivial
 | @EJ i j k m a b e d h d2 h2 d3 ih ih2 ih3=>
  intro hi _;obtain⟨_,p1,_⟩:=lM d hi (show (0:Int)<3 by decide);obtain⟨m1,m2⟩:=dy p1 (by rw [h];decide);obtain⟨_,p2,_⟩:=lM d2 m1 trivial;obtain⟨m3,m4⟩:=dy p2 (by rw [h2];decide);obtain⟨o1,n1⟩:=ih hi (show (0:Int)<3 by decide);obtain⟨o2,n2⟩:=ih2 m1 trivial;obtain⟨o3,n3⟩:=ih3 m3 trivial;refine⟨HJ om om si si (by simp_all),?_⟩
  simp [nodes,lJ];omega
 | Tn d ih=>intro _ _;trivial
 | @U2 l i j a r d d2 ih ih2=>
  intro hi hc;obtain⟨_,p1,_⟩:=lM d hi trivial;obtain⟨o1,n1⟩:=ih hi trivial;have:=ih2 p1 ⟨hc,o1⟩
  cases r with
  | ok e k=>
   obtain⟨o2,n2⟩:=this
   exact⟨o2,show nodes e+i<=k by omega⟩
  | err p c=>trivial
 | vh h=>intro hi hc;exact⟨hc.2,bH⟩
 | Cp h d ih=>intro _ _;trivial
 | @Gb l i j a b r h d d2 ih ih2=>
  intro hi hc;obtain⟨hc1,Jk⟩:=hc;obtain⟨m1,m2⟩:=dy hi (yE hc1 h);obtain⟨_,p1,_⟩:=lM d m1 (show (0:Int)<_ by omega);obtain⟨o1,n1⟩:=ih m1 (show (0:Int)<_ by omega);have g:=ali _ (NO s i);have:=ih2 p1 ⟨hc1,HJ g om si si (by simpa using⟨Jk,o1⟩)⟩
  cases r with
  | ok e k=>
   obtain⟨o2,n2⟩:=this;refine⟨o2,?_⟩
   simp [nodes,lJ] at n2;omega
  | err p c=>trivial
 | @Ae i r h d ih=>
  intro hi _;have:=ih hi trivial
  cases r with
  | ok e j=>exact this
  | err p c=>trivial
 | EK h d ih=>intro _ _;trivial
 | @KS i j a h d ih=>
  intro hi _;obtain⟨m1,m2⟩:=dy hi (yS h);obtain⟨o1,n1⟩:=ih m1 trivial;have g:=anf (sy s i);refine⟨HJ om om si si (by simpa using o1),?_⟩
  simp [nodes,lJ];omega
 | @EM i h hv=>
  intro hi _;have m:=(kg s i hi).2.2 (by rw [h];decide);have g:=To _ hv;refine⟨HJ om om si si si,?_⟩
  simp [nodes,lJ];omega
 | Af h hv=>intro _ _;trivial
 | @EN i h hv=>
  intro hi _;have m:=(kg s i hi).2.2 (by rw [h];decide);refine⟨HJ om om (Ke s i hl hi) si si,?_⟩
  simp [nodes,lJ];omega
 | Ag h hv=>intro _ _;trivial
 | EO h1 h2 h=>intro _ _;trivial
 | KT h d ih=>intro _ _;trivial
 | vY h d h2 ih=>intro _ _;trivial
 | @KU i j e h d h2 ih=>
  intro hi _;obtain⟨m1,m2⟩:=dy hi (by rw [h];decide);obtain⟨_,p1,_⟩:=lM d m1 trivial;obtain⟨m3,m4⟩:=dy p1 (by rw [h2];decide);obtain⟨o1,n1⟩:=ih m1 trivial;exact⟨o1,show nodes e+i<=nx s j by omega⟩
mutual
def kF:TExpr->Int
 | .mk _ _ _ kids=>rQ kids 0+1
def rQ:J TExpr->Int->Int
 | [],m=>m
 | k::l,m=>rQ l (cond (decide (m<kF k)) (kF k) m)
end
theorem ag8(e:TExpr):kF e=rQ e.fKids 0+1:=by cases e;rfl
theorem Tp:∀(l m:J TExpr)(z:Int),rQ (l++m) z=rQ m (rQ l z)
 | [],m,z=>rfl
 | k::l,m,z=>by simp [rQ,Tp l m]
theorem HK:∀(l:J TExpr)(z:Int),0<=z->(∀k,k∈l->0<=kF k/\kF k<=(nodes k:Int))->z<=rQ l z/\rQ l z<=z+(lJ l:Int)
 | [],z,h,_=>by simp [rQ,lJ]
 | k::l,z,h,hk=>by
  have h1:=hk k si;simp [rQ,lJ]
  cases hc:decide (z<kF k) with
  | true=>
   have hc:=ym hc;have h2:=HK l (kF k) om fun k h=>hk k (pT _ h)
   simp;omega
  | false=>
   have h2:=HK l z h fun k h=>hk k (pT _ h);simp;omega
theorem ag9(e:TExpr):0<=kF e/\kF e<=(nodes e:Int):=by
 induction e using TExpr.ind with
 | h op n name kids ih=>
  have:=HK kids 0 om ih;simp [kF,nodes];omega
theorem Tq{r:TExpr->O Int}{F:Nat}{l:J TExpr}(hF:l.length<F)(hb:l.length<=9223372036854775807)(hn:lJ l<=1000000)(hr:∀k,k∈l->r k=some (kF k)):
  bU (σ:=Int×Int) (fun bn x1=>
   cond (decide (x1.2<(l.length:Int)))
   (rq ((decide (0<=x1.2))&&(decide (x1.2<(l.length:Int)))) ((r (l.getD (Int.toNat x1.2) dw)).bind fun x3=>
   bn (cond (decide (x1.1<x3)) x3 x1.1,aB (x1.2+1))))
   (some (aB (x1.1+1)))) F (0,0)=some (rQ l 0+1):=by
 refine NF (fun i=>(rQ (l.take i) 0,(i:Int))) l.length hF rfl ?_ ?_
 ·intro i rc hi
  simp only [wz hi,ck,gd hi,bh (i:=i) om,hr _ (ko hi)];rw [agM hi,Tp];rfl
 ·intro rc
  have h:=HK l 0 om fun k _=>ag9 k;simp;rw [bI om]
theorem aje{e:TExpr}(ho:ic e):nodes e<=1000000->bF fun F n=>tF F n e=some (kF e)/\v7 F n e=some (kF e):=by
 revert e;apply ic.ind;intro e h4 h5 ih hn;rw [F4] at hn;refine bF.succ ((bF.all fun k hk=>ih k hk (by have:=HC hk;omega)).kB (bF.ge (e.fKids.length+1) fun F n h _=>h) fun F m ih hF=>?_);rw [ag8];refine⟨?_,Tq hF h4 om fun k hk=>(ih k hk).2⟩;show Dv F (tF F m) e=_;unfold Dv;simp;exact Tq hF h4 om fun k hk=>(ih k hk).1
def v8:TExpr:=.mk 0 0 [] []
def PS(s:Bs):oa->TExpr×Int×Int
 | .ok e j=>cond (decide (skip s j<s.length)) (v8,(skip s j:Int),6) (cond (decide (32<kF e)) (v8,0,5) (e,0,0))
 | .err p c=>(v8,(p:Int),c)
theorem aaq(s:Bs)(i:Nat)(hi:i<=s.length):(kd s i==0)=!(decide (skip s i<s.length)):=by
 unfold kd;rcases lK s i hi with⟨h',_,_,he⟩|⟨w,b,h',_,_,_,hl⟩|⟨w,b,h',_,_,_,hl⟩|⟨x',h',hs,_,hm,hl⟩|⟨b,h',_,_,hl⟩<;>rw [h']
 ·simp_all
 ·grind
 ·grind
 ·have:x'.length≠0:=by
   simp_all [BP]
  grind
 grind
theorem ajf{s:Bs}(hlen:s.length<=4096)(h0:skip s 0<s.length){r:oa}(d:D s .expr 0 r):
  bF fun F _=>oK F s=some (PS s r)/\oM F s=some (PS s r):=by
 have hl:s.length<=1000000:=om;have hA:=D_A hl d (fL _) trivial;have hR:=apO hl (apM d) (fL _) trivial;have hk0:(kd s 0==0)=false:=by simp_all [aaq,fL,dQ]
 have KW:decide (4096<(s.length:Int))=false:=sD om;have hat:((skip s 0:Int)==(s.length:Int))=false:=by grind
 have start:∀F,s.length+60<=F->sX F s 0=some ⟨kd s 0,po s 0,tx s 0⟩:=fun F hF=>by
  rw [<-O0 s 0 (fL _)];exact UY F s 0 (fL _) om hl
 have rstart:∀F,s.length+60<=F->fK F s 0 0 0=some (s,(skip s 0:Int),0,0):=fun F hF=>sw F s 0 0 0 (fL _) om hl
 cases r with
 | err p c=>
  refine bF.BM hA.fst hR.fst (gv s) fun F _ h1 h2 hF=>⟨?_,?_⟩
  ·obtain⟨st,h1⟩:=h1
   unfold oK mh;rw [KW,start F hF];simp [aU,hk0];rw [h1];rfl
  ·obtain⟨hc,e,a,ha,hx⟩:=h2 (skip s 0) om (ve s 0)
   unfold oM yF;rw [KW,rstart F hF];simp [aU,hat,hx];rw [sw F s a c p ha om hl];simp only [aH];rw [QX hc];have tA:(c != 0)=true:=by simpa using hc
   cases decide ((skip s a:Int)<(s.length:Int))<;>simp [bw,tA]<;>rfl
 | ok e j=>
  obtain⟨_,hj,_⟩:=lM d (fL _) trivial;obtain⟨ho,hn⟩:=ang hl d (fL _) trivial;refine bF.BM (hA.fst.and hR.fst) (aje ho om).fst (gv s) fun F _ h12 hd hF=>?_;obtain⟨h1,h2⟩:=h12;obtain⟨Wd,We⟩:=hd;obtain⟨a,ha,hs,hx⟩:=h2 (skip s 0) om (ve s 0);have hkj:=aaq s j hj;have hne:(kd s j != 0)=decide (skip s j<s.length):=by grind
  refine⟨?_,?_⟩
  ·unfold oK mh IL
   rw [KW,start F hF];simp [aU,hk0];rw [h1];simp [sm,hne,Wd];show _=some (cond (decide (skip s j<s.length)) (v8,(skip s j:Int),6) (cond (decide (32<kF e)) (v8,0,5) (e,0,0)))
   cases decide (skip s j<s.length) with
   | true=>rfl
   | false=>cases decide (32<kF e)<;>rfl
  ·unfold oM yF NS
   rw [KW,rstart F hF];simp [aU,hat,hx];rw [sw F s a 0 0 ha om hl,hs];simp only [aH,We];show _=some (cond (decide (skip s j<s.length)) (v8,(skip s j:Int),6) (cond (decide (32<kF e)) (v8,0,5) (e,0,0)));by_cases hlt:skip s j<s.length
   ·rw [dQ hlt,dQ om]
    rfl
   ·rw [sD hlt,sD om]
    cases decide (32<kF e)<;>rfl
theorem abO{s:Bs}(hlen:s.length<=4096)(h0:¬ skip s 0<s.length):bF fun F _=>oK F s=some (.mk 1 0 [] [],0,0)/\oM F s=some (.mk 1 0 [] [],0,0):=by
 have hl:s.length<=1000000:=om;refine (gv s).mono fun F _ hF=>?_;have hk0:(kd s 0==0)=true:=by simp_all [aaq,fL,sD]
 have KW:decide (4096<(s.length:Int))=false:=sD om;have hsk:=(gQ s 0 (fL _)).1;have hat:((skip s 0:Int)==(s.length:Int))=true:=by rw [tV];omega
 have start:sX F s 0=some ⟨kd s 0,po s 0,tx s 0⟩:=by
  rw [<-O0 s 0 (fL _)];exact UY F s 0 (fL _) om hl
 have rstart:fK F s 0 0 0=some (s,(skip s 0:Int),0,0):=sw F s 0 0 0 (fL _) om hl;constructor
 ·unfold oK
  rw [KW,start];simp [aU,hk0];rfl
 ·unfold oM
  rw [KW]
  simp_all
end Go.Proofs.YtlgmlcgjmcmmgaaGreatDoor.K
namespace Go.Proofs.YtlgmlcgjmcmmgaaGreatDoor.K
open Go.RT
set_option maxRecDepth 100000
theorem abP(s:Bs)(hs:s.length<=4096):∃x,(ic x.1/\nodes x.1<=10000)/\bF fun F _=>oK F s=some x/\oM F s=some x:=by
 have hz:ic v8/\nodes v8<=10000:=⟨HJ om om si si si,by decide⟩;by_cases h0:skip s 0<s.length
 ·obtain⟨r,d⟩:=anc s 0 (fL _)
  refine⟨_,?_,ajf om h0 d⟩
  cases r with
  | err p c=>exact hz
  | ok e j=>
   obtain⟨ho,hn⟩:=ang om d (fL _) trivial;obtain⟨_,hj,_⟩:=lM d (fL _) trivial;show ic (cond (decide (skip s j<s.length)) (v8,(skip s j:Int),(6:Int)) (cond (decide (32<kF e)) (v8,0,5) (e,0,0))).1/\nodes (cond (decide (skip s j<s.length)) (v8,(skip s j:Int),(6:Int)) (cond (decide (32<kF e)) (v8,0,5) (e,0,0))).1<=10000
   cases decide (skip s j<s.length) with
   | true=>exact hz
   | false=>
    cases decide (32<kF e) with
    | true=>exact hz
    | false=>
     have hn:nodes e+0<=j:=hn;exact⟨ho,by show nodes e<=10000;omega⟩
 ·exact⟨_,⟨HJ om om si si si,by decide⟩,abO om h0⟩
end Go.Proofs.YtlgmlcgjmcmmgaaGreatDoor.K
