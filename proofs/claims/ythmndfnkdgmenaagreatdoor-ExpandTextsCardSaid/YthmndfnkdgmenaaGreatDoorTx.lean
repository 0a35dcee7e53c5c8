import Derived.Test.YthmndfnkdgmenaaGreatDoorZ2
import Derived.Test.YthmndfnkdgmenaaGreatDoorSo
set_option linter.all false
namespace Go.Proofs.YthmndfnkdgmenaaGreatDoor.K
open Go.RT
set_option maxRecDepth 100000
theorem agQ{α:Type}(c:Bool)(x y:α):cond c (some x) (some y)=some (cond c x y):=by cases c<;>rfl
def ae6(a:Int):O (Int×Bs):=cond ((24:Int)==a) (some (3,[124,124])) (cond ((23:Int)==a) (some (4,[38,38])) (cond ((22:Int)==a) (some (5,[124])) (cond ((21:Int)==a) (some (6,[94])) (cond ((20:Int)==a) (some (7,[38])) (cond ((18:Int)==a) (some (8,[61,61])) (cond ((19:Int)==a) (some (8,[33,61])) (cond ((14:Int)==a) (some (9,[60])) (cond ((15:Int)==a) (some (9,[62])) (cond ((16:Int)==a) (some (9,[60,61])) (cond ((17:Int)==a) (some (9,[62,61])) (cond ((12:Int)==a) (some (10,[60,60])) (cond ((13:Int)==a) (some (10,[62,62])) (cond ((10:Int)==a) (some (11,[43])) (cond ((11:Int)==a) (some (11,[45])) (cond ((7:Int)==a) (some (12,[42])) (cond ((8:Int)==a) (some (12,[47])) (cond ((9:Int)==a) (some (12,[37])) (some (0,[])))))))))))))))))))
def Yk(a:Int):Int×Bs:=cond ((24:Int)==a) (3,[124,124]) (cond ((23:Int)==a) (4,[38,38]) (cond ((22:Int)==a) (5,[124]) (cond ((21:Int)==a) (6,[94]) (cond ((20:Int)==a) (7,[38]) (cond ((18:Int)==a) (8,[61,61]) (cond ((19:Int)==a) (8,[33,61]) (cond ((14:Int)==a) (9,[60]) (cond ((15:Int)==a) (9,[62]) (cond ((16:Int)==a) (9,[60,61]) (cond ((17:Int)==a) (9,[62,61]) (cond ((12:Int)==a) (10,[60,60]) (cond ((13:Int)==a) (10,[62,62]) (cond ((10:Int)==a) (11,[43]) (cond ((11:Int)==a) (11,[45]) (cond ((7:Int)==a) (12,[42]) (cond ((8:Int)==a) (12,[47]) (cond ((9:Int)==a) (12,[37]) ((0,[])))))))))))))))))))
def lz(a:Int):Int×Bs:=cond (a==1||a==2) (14,[]) (cond (a==3) (13,[45]) (cond (a==4) (13,[43]) (cond (a==5) (13,[33]) (cond (a==6) (13,[126]) (cond (a==25) (2,[63]) (cond (a==26) (1,[61]) (Yk a)))))))
def oA(a:Int):Int:=cond (a==1||a==2) 0 (cond ((decide (3<=a)&&decide (a<=6))||a==26) 1 (cond (decide (7<=a)&&decide (a<=24)) 2 (cond (a==25) 3 (-1))))
theorem acN(F:Nat)(a:Int):EG F a=some (oA a):=by
 unfold EG oA
 grind
theorem aiS(a:Int):ae6 a=some (Yk a):=by simp [ae6,Yk,agQ]
theorem agR(G:Nat)(a:Int):((rO (G+20)).bind fun x2=>
 bV (σ:=Int) (fun kR x3=>
 cond (decide (x3<(x2.length:Int)))
 (rq ((decide (0<=x3))&&(decide (x3<(x2.length:Int)))) (cond (((x2.getD (Int.toNat x3) yI).fop)==a)
 (some ((x2.getD (Int.toNat x3) yI).NW,(x2.getD (Int.toNat x3) yI).Fv))
 (kR (aB (x3+1)))))
 (some (0,[]))) (G+20) 0)=ae6 a:=by kernel_rfl
theorem abY(G:Nat)(a:Int):we (G+20) a=some (lz a):=by
 unfold we lz;cases h1:(a==1)<;>cases h2:(a==2)<;>simp;cases h3:(a==3)<;>simp;cases h4:(a==4)<;>simp;cases h5:(a==5)<;>simp;cases h6:(a==6)<;>simp;cases h7:(a==25)<;>simp;cases h8:(a==26)<;>simp;exact (agR G a).trans (aiS a)
def ake(L:Int):Int:=cond (L==1||L==13) 1 (cond (L==2) 3 (cond (L==14) 0 2))
theorem aiT(op:Int):((lz op).1=0/\oA op=-1)\/((lz op).1≠0/\ake (lz op).1=oA op):=by
 by_cases h:1<=op/\op<=26
 ·have:op=1\/op=2\/op=3\/op=4\/op=5\/op=6\/op=7\/op=8\/op=9\/op=10\/op=11\/op=12\/op=13\/op=14\/op=15\/op=16\/op=17\/op=18\/op=19\/op=20\/op=21\/op=22\/op=23\/op=24\/op=25\/op=26:=om
  rcases this with rfl|rfl|rfl|rfl|rfl|rfl|rfl|rfl|rfl|rfl|rfl|rfl|rfl|rfl|rfl|rfl|rfl|rfl|rfl|rfl|rfl|rfl|rfl|rfl|rfl|rfl<;>decide
 ·left
  have h1:(op==1)=false:=by grind
  have g1:((1:Int)==op)=false:=by rw [gN];omega
  have h2:(op==2)=false:=by rw [gN];omega
  have g2:((2:Int)==op)=false:=by rw [gN];omega
  have h3:(op==3)=false:=by grind
  have g3:((3:Int)==op)=false:=by grind
  have h4:(op==4)=false:=by grind
  have g4:((4:Int)==op)=false:=by grind
  have h5:(op==5)=false:=by grind
  have g5:((5:Int)==op)=false:=by grind
  have h6:(op==6)=false:=by grind
  have g6:((6:Int)==op)=false:=by grind
  have h7:(op==7)=false:=by grind
  have g7:((7:Int)==op)=false:=by grind
  have h8:(op==8)=false:=by grind
  have g8:((8:Int)==op)=false:=by grind
  have h9:(op==9)=false:=by grind
  have g9:((9:Int)==op)=false:=by rw [gN];omega
  have h10:(op==10)=false:=by rw [gN];omega
  have g10:((10:Int)==op)=false:=by rw [gN];omega
  have h11:(op==11)=false:=by rw [gN];omega
  have g11:((11:Int)==op)=false:=by rw [gN];omega
  have h12:(op==12)=false:=by rw [gN];omega
  have g12:((12:Int)==op)=false:=by rw [gN];omega
  have Wz:(op==13)=false:=by rw [gN];omega
  have g13:((13:Int)==op)=false:=by rw [gN];omega
  have h14:(op==14)=false:=by rw [gN];omega
  have g14:((14:Int)==op)=false:=by rw [gN];omega
  have h15:(op==15)=false:=by rw [gN];omega
  have g15:((15:Int)==op)=false:=by rw [gN];omega
  have h16:(op==16)=false:=by rw [gN];omega
  have g16:((16:Int)==op)=false:=by rw [gN];omega
  have h17:(op==17)=false:=by rw [gN];omega
  have g17:((17:Int)==op)=false:=by rw [gN];omega
  have h18:(op==18)=false:=by rw [gN];omega
  have g18:((18:Int)==op)=false:=by rw [gN];omega
  have h19:(op==19)=false:=by rw [gN];omega
  have g19:((19:Int)==op)=false:=by rw [gN];omega
  have h20:(op==20)=false:=by rw [gN];omega
  have g20:((20:Int)==op)=false:=by rw [gN];omega
  have h21:(op==21)=false:=by rw [gN];omega
  have g21:((21:Int)==op)=false:=by rw [gN];omega
  have h22:(op==22)=false:=by rw [gN];omega
  have g22:((22:Int)==op)=false:=by rw [gN];omega
  have h23:(op==23)=false:=by rw [gN];omega
  have g23:((23:Int)==op)=false:=by rw [gN];omega
  have Tn:(op==24)=false:=by rw [gN];omega
  have g24:((24:Int)==op)=false:=by rw [gN];omega
  have WA:(op==25)=false:=by rw [gN];omega
  have g25:((25:Int)==op)=false:=by rw [gN];omega
  have HM:(op==26)=false:=by rw [gN];omega
  have g26:((26:Int)==op)=false:=by rw [gN];omega
  have k1:(decide (3<=op)&&decide (op<=6))=false:=by
   grind
  have k2:(decide (7<=op)&&decide (op<=24))=false:=by
   grind
  refine⟨?_,?_⟩
  ·simp only [lz,Yk,h1,h2,h3,h4,h5,h6,h7,h8,h9,h10,h11,h12,Wz,h14,h15,h16,h17,h18,h19,h20,h21,h22,h23,Tn,WA,HM,g1,g2,g3,g4,g5,g6,g7,g8,g9,g10,g11,g12,g13,g14,g15,g16,g17,g18,g19,g20,g21,g22,g23,g24,g25,g26,XN,aS]
  ·simp only [oA,h1,h2,WA,HM,k1,k2,XN,aS]
def Aa(n:Int):Bool:=(decide (7<=n)&&decide (n<=13))||(decide (20<=n)&&decide (n<=22))
theorem aiU(F:Nat)(n:Int):rP F n=some (Aa n):=by
 by_cases h:n=7\/n=8\/n=9\/n=10\/n=11\/n=12\/n=13\/n=20\/n=21\/n=22
 ·rcases h with rfl|rfl|rfl|rfl|rfl|rfl|rfl|rfl|rfl|rfl<;>rfl
 ·unfold rP Aa
  have k1:(decide (7<=n)&&decide (n<=13))=false:=by
   grind
  have k2:(decide (20<=n)&&decide (n<=22))=false:=by
   grind
  grind
theorem aal(F:Nat)(n:Int):wh F n=some (n==0||Aa n):=by
 unfold wh Aa
 grind
end Go.Proofs.YthmndfnkdgmenaaGreatDoor.K
namespace Go.Proofs.YthmndfnkdgmenaaGreatDoor.K
open Go.RT
def fL(b:Int):Bool:=decide (48<=b)&&decide (b<=57)
def ny(b:Int):Bool:=(decide (97<=b)&&decide (b<=122))||(decide (65<=b)&&decide (b<=90))
def qZ(b:Int):Bool:=(ny b||fL b)||b==95
theorem To(F:Nat)(b:Int):kA F b=some (fL b):=by
 unfold kA fL;grind
theorem alb(F:Nat)(b:Int):rz F b=some (ny b):=by
 unfold rz ny;grind
theorem aoE(F:Nat)(b:Int):oe F b=some (qZ b):=by
 unfold oe qZ;rw [alb,To];cases ny b<;>cases fL b<;>rfl
theorem agS(F:Nat)(b:Int):tY F b=some (fL b):=by
 unfold tY fL;grind
theorem alc(F:Nat)(b:Int):vn F b=some (ny b):=by
 unfold vn ny;grind
theorem agT(b:Int):fL b=true↔48<=b/\b<=57:=by simp [fL]
theorem aam(b:Int):qZ b=true↔(97<=b/\b<=122)\/(65<=b/\b<=90)\/(48<=b/\b<=57)\/b=95:=by
 simp [qZ,ny,fL];omega
def qw(s:Bs)(p:Nat):Int:=((s.getD p 0).toNat:Int)
theorem aan(p:Nat->Bool):∀k i,iter (fun i r=>cond (p i) r (some false)) (some true) k i=some ((List.range' i k).all p)
 | 0,i=>rfl
 | k+1,i=>by
  simp [iter,XO];rw [aan p k (i+1)];cases p i<;>rfl
def rName(s:Bs):Bool:=cond (s==[]||decide (32<(s.length:Int))) false (cond (fL (qw s 0)) false ((List.range' 0 s.length).all fun i=>qZ (qw s i)))
theorem yj(F:Nat)(s:Bs)(hF:33<=F):eY F s=some (rName s):=by
 unfold eY rName;simp only [To,aoE]
 cases h1:(s==[]) with
 | true=>rfl
 | false=>
  cases h2:decide (32<(s.length:Int)) with
  | true=>rfl
  | false=>
   have h0:decide (0<(s.length:Int))=true:=by
    cases s with
    | nil=>cases h1
    | cons a s=>simp
   have hl:¬ 32<(s.length:Int):=by simpa using h2
   simp only [aS,h0];show cond (fL (qw s 0)) _ _=some (cond (fL (qw s 0)) _ _)
   cases fL (qw s 0) with
   | true=>rfl
   | false=>
    simp only [aS];rw [<-aan (fun i=>qZ (qw s i))];refine abX (fun i rc hi=>?_) (fun rc=>?_) F om
    ·have e1:decide ((i:Int)<(s.length:Int))=true:=by simpa using hi
     have e2:decide (0<=(i:Int))=true:=by simp
     simp only [e1];rw [bh om];show cond (!(qZ (qw s i))) _ _=_
     simp_all
    simp_all
theorem get_at(l:Bs)(k:Nat):(ByteArray.mk ⟨l⟩).get! k=l.getD k 0:=by
 simp [ByteArray.get!];cases l[k]? <;> rfl
theorem NV{l:Bs}{p:Nat}(h:(l.getD p 0).toNat<128):dec l p=((l.getD p 0).toNat,1):=by
 unfold dec Utf8.decode
 simp_all [get_at,Ud,if_pos]
theorem WB{l:Bs}{p:Nat}(h:¬ (l.getD p 0).toNat<128):128<=(dec l p).1:=by
 unfold dec Utf8.decode;simp [get_at]
 (repeat' split)<;>simp_all [Utf8.runeError]<;>omega
def cOk(c p:Int):Bool:=cond (ny c||c==95) true (cond (fL c) (decide (0<p)) false)
theorem acO(c p:Int):cOk c p=true↔(97<=c/\c<=122)\/(65<=c/\c<=90)\/c=95\/(48<=c/\c<=57)/\0<p:=by
 simp [cOk,ny,fL];omega
def Qj(s:Bs)(p:Nat):Bool:=qZ (qw s p) && !(decide (p=0)&&fL (qw s p))
theorem ald(s:Bs)(p:Nat):cOk ((dec s p).1:Int) (p:Int)=Qj s p/\(Qj s p=true->(dec s p).2=1):=by
 by_cases h:(s.getD p 0).toNat<128
 ·rw [NV h]
  rw [sN,acO];unfold Qj qw;rw [cx,aam]
  grind [agT,decide_eq_false_iff_not]
 ·have h1:=WB h
  have h2:qZ (qw s p)=false:=by
   apply Qw.2;intro hw;unfold qw at hw
   grind [aam]
  have h3:Qj s p=false:=by unfold Qj;rw [h2];rfl
  rw [h3];refine⟨?_,fun h=>by cases h⟩
  grind [acO]
theorem Tp(F:Nat)(s:Bs):∀(k p n:Nat),p+k=s.length->k<n->bV (σ:=Bs×Int) (R:=Bool) (fun gG x2=>
   cond (Nat.blt (Int.toNat x2.2) x2.1.length)
   (((vn F ((dec x2.1 (Int.toNat x2.2)).1:Int)).bind fun x5=>
   cond x5
   (some true)
   (some (((dec x2.1 (Int.toNat x2.2)).1:Int)==95)):O Bool).bind fun x4=>
   (cond x4
   (some true)
   ((tY F ((dec x2.1 (Int.toNat x2.2)).1:Int)).bind fun x7=>
   cond x7
   (some (decide (0<(((Int.toNat x2.2):Nat):Int))))
   (some false)):O Bool).bind fun x6=>
   cond x6
   (gG (x2.1,((((Int.toNat x2.2)+(dec x2.1 (Int.toNat x2.2)).2):Nat):Int)))
   (some false))
   (some true)) n (s,(p:Int))=some ((List.range' p k).all (Qj s))
 | 0,p,n,h,hn=>by
  cases n with
  | zero=>omega
  | succ n=>
   have e:Nat.blt p s.length=false:=by
    simp_all [Qw,XP]
   simp_all [bV,bK,aS]
 | k+1,p,n,h,hn=>by
  cases n with
  | zero=>omega
  | succ n=>
   have e:Nat.blt p s.length=true:=by rw [Nat.blt,XP];omega
   obtain⟨h1,h2⟩:=ald s p;have ih:=Tp F s k (p+1) n om om;simp only [alc,agS,aC] at ih⊢;rw [bV];simp only [bK,e,bq]
   have key:∀X:O Bool,((cond (ny ((dec s p).1:Int)) (some true) (some (((dec s p).1:Int)==95)):O Bool).bind fun x4=>
     (cond x4 (some true) (cond (fL ((dec s p).1:Int)) (some (decide (0<(p:Int)))) (some false)):O Bool).bind fun x6=>cond x6 X (some false))=cond (cOk ((dec s p).1:Int) (p:Int)) X (some false):=by
    intro X;unfold cOk
    grind
   rw [key,h1,XO,RG]
   grind
theorem DC(F:Nat)(s:Bs)(hF:33<=F):kN F s=some (rName s):=by
 unfold kN rName;by_cases hz:s=[]
 ·subst hz;rfl
 have hlen:=zb.2 hz;have h1:decide ((s.length:Int)<1)=false:=by simp;omega
 have h2:(s==[])=false:=by simpa using hz
 rw [h1,h2]
 cases hl:decide (32<(s.length:Int)) with
 | true=>rfl
 | false=>
  have hs:¬ 32<(s.length:Int):=by simpa using hl
  rw [Tp F s s.length 0 F om om];obtain⟨m,hm⟩:∃m,s.length=m+1:=⟨s.length-1,om⟩;rw [hm,XO]
  have e:(List.range' (0+1) m).all (Qj s)=(List.range' (0+1) m).all fun i=>qZ (qw s i):=by
   rw [sN]
   have:∀x,x∈List.range' (0+1) m->Qj s x=qZ (qw s x):=fun x hx=>by
    unfold Qj
    grind
   simp_all
  unfold Qj
  grind
theorem Ge(F:Nat)(s:Bs)(hF:33<=F):kN F s=eY F s:=(DC F s hF).trans (yj F s hF).symm
end Go.Proofs.YthmndfnkdgmenaaGreatDoor.K
namespace Go.Proofs.YthmndfnkdgmenaaGreatDoor.K
open Go.RT
abbrev cw:=bX
abbrev cw.mk:=bX.mk
instance:Inhabited TExpr:=⟨dx⟩
inductive ij:TExpr->Prop
 | mk (op n:Int) (name:Bs) (kids:List TExpr) (h1:(Lit.int .i64 op).wf=true) (h2:(Lit.int .i64 n).wf=true) (h3:name.length<=maxLen) (h4:kids.length<=maxLen) (h5:∀x,x∈kids->ij x):ij (.mk op n name kids)
end Go.Proofs.YthmndfnkdgmenaaGreatDoor.K
namespace Go.Proofs.YthmndfnkdgmenaaGreatDoor.K
open Go.RT
set_option maxRecDepth 100000
theorem ae7(G:Nat)(r:TExpr->Int->O Int)(e:TExpr)(d:Int)(hd:d<=32)(hN:kN (G+20) e.fName=eY (G+20) e.fName):
  yl (G+20) r e d=kO (G+20) r e d:=by
 unfold yl kO;simp only [abY,acN,aiU,aal,hN,aC,TExpr.eta];generalize eY (G+20) e.fName=nm;generalize e.fOp=op;generalize e.fN=n;generalize e.fName=name;generalize e.fKids=kids
 have e32:(d==32)=decide (32<=d):=by
  rw [sN,uh,fX];omega
 have en:decide (n<0)=!(decide (0<=n)):=by
  rw [sN,FE,fX,ajM];omega
 have o1:(op==1&&op==26)=false:=by
  rw [adk,gN,gN];omega
 rw [e32,en];simp only [bne];cases h32:decide (32<=d)<;>simp only [bq,aS];rcases aiT op with⟨h1,h2⟩|⟨h1,h2⟩
 ·rw [h1,h2]
  have e:((kids.length:Int) == -1)=false:=by rw [gN];omega
  rw [e];cases (op==2)<;>cases (op==26)<;>rfl
 ·have e0:((lz op).1==0)=false:=by rw [gN];exact h1
  have ex:∀k:Int->O Int,jj (σ:=Int) (R:=Int) (cond ((lz op).1==0) (some (.inr 1)) ((cond ((lz op).1==1) (some ((lz op).1==1)) (some ((lz op).1==13)):O Bool).bind fun x3=>
    cond x3 (some (.inl 1)) (cond ((lz op).1==2) (some (.inl 3)) (cond ((lz op).1==14) (some (.inl 0)) (some (.inl 2)))))) k=k (oA op):=by
   intro k;rw [e0,<-h2];unfold ake;generalize (lz op).1=L;cases (L==1)<;>cases (L==13)<;>cases (L==2)<;>cases (L==14)<;>rfl
  rw [ex];generalize (op==1)=b1 at o1⊢;generalize (op==26)=b26 at o1⊢
  cases ((kids.length:Int)==oA op)<;>cases b1<;>cases b26<;>(first|(cases o1;done)|skip)<;>
   cases (op==2)<;>cases (decide (0<=n))<;>cases (n==0)<;>cases (Aa n)<;>cases (name==[])<;>rfl
theorem abZ(F:Nat)(r r':TExpr->Int->O Int)(e:TExpr)(d:Int)(h:¬ 32<=d->∀x,r x (aB (d+1))=r' x (aB (d+1))):kO F r e d=kO F r' e d:=by
 unfold kO;by_cases hd:32<=d
 ·rw [show decide (32<=d)=true by simpa using hd];rfl
 ·simp only [h hd]
theorem aao(G:Nat)(hG:13<=G):∀(n:Nat)(e:TExpr)(d:Int),0<=d->d<=32->qg (G+20) n e d=jM (G+20) n e d
 | 0,e,d,_,_=>rfl
 | n+1,e,d,h0,h1=>by
  show yl (G+20) (qg (G+20) n) e d=kO (G+20) (jM (G+20) n) e d;rw [ae7 G _ e d h1 (Ge _ _ om)];refine abZ _ _ _ e d fun hd x=>?_;rw [bG om];exact aao G hG n x (d+1) om om
end Go.Proofs.YthmndfnkdgmenaaGreatDoor.K
namespace Go.Proofs.YthmndfnkdgmenaaGreatDoor.K
open Go.RT
theorem TExpr.ind{P:TExpr->Prop}(h:∀op n name kids,(∀k,k∈kids->P k)->P (.mk op n name kids))(e:TExpr):P e:=by
 match e with
 | .mk op n name kids=>exact h op n name kids fun k hk=>TExpr.ind h k
termination_by SizeOf.sizeOf e
decreasing_by
 have:=List.sizeOf_lt_of_mem hk;simp only [TExpr.mk.sizeOf_spec];omega
theorem ij.ind{P:TExpr->Prop}(h:∀e,e.fKids.length<=9223372036854775807->(∀k,k∈e.fKids->ij k)->(∀k,k∈e.fKids->P k)->P e):∀e,ij e->P e:=by
 intro e ho
 induction ho with
 | mk op n name kids h1 h2 h3 h4 h5 ih=>exact h (.mk op n name kids) (nH h4 de) h5 ih
mutual
def nodes:TExpr->Nat
 | .mk _ _ _ kids=>lK kids+1
def lK:J TExpr->Nat
 | []=>0
 | k::l=>nodes k+lK l
end
theorem Gf(e:TExpr):nodes e=lK e.fKids+1:=by cases e;rfl
theorem HN:∀ {l:J TExpr}{k:TExpr},k∈l->nodes k<=lK l
 | x::l,k,h=>by
  rcases iq.1 h with rfl|h
  ·simp only [lK];omega
  ·have:=HN h;simp only [lK];omega
inductive Nms:TExpr->Prop
 | mk (op n:Int) (name:Bs) (kids:List TExpr) (h:name.length<=60) (hk:∀k,k∈kids->Nms k):Nms (.mk op n name kids)
def KX(op:Int):Bool:=op==2||op==26
theorem agU{α:Type}{l:J α}{i:Nat}(h:i<l.length):l.take (i+1)=l.take i++[l[i]]:=by
 rw [qB h]
end Go.Proofs.YthmndfnkdgmenaaGreatDoor.K
namespace Go.Proofs.YthmndfnkdgmenaaGreatDoor.K
open Go.RT
set_option maxRecDepth 100000
def BV(op n:Int)(name:Bs)(len:Nat):Bool:=
 ((len:Int) != oA op)||(KX op==(name==[]))||((op==1&&decide (n<0))||(op==26 && !(n==0||Aa n))||(op != 1&&(op != 26&&n != 0)))
mutual
def gX:TExpr->Int->Int
 | .mk op n name kids,d=>cond (decide (32<=d)) 5 (cond (BV op n name kids.length) 1 (cond (KX op && !rName name) 10 (CY kids (d+1))))
def CY:J TExpr->Int->Int
 | [],_=>0
 | k::l,d=>cond (gX k d != 0) (gX k d) (CY l d)
end
theorem agV(e:TExpr)(d:Int):gX e d=cond (decide (32<=d)) 5 (cond (BV e.fOp e.fN e.fName e.fKids.length) 1 (cond (KX e.fOp && !rName e.fName) 10 (CY e.fKids (d+1)))):=by
 cases e;rfl
theorem Qk{e:TExpr}(ho:ij e):bH fun F n=>∀d,0<=d->d<=32->jM F n e d=some (gX e d):=by
 revert e;apply ij.ind;intro e h4 h5 ih;refine bH.succ ((bH.all ih).kE (bH.ge (e.fKids.length+34) fun F n h _=>h) fun F m ih hF d Ww Wr=>?_);rw [agV];show kO F (jM F m) e d=_;unfold kO;simp only [acN,aal,yj F _ (by omega:33<=F)];by_cases hd:32<=d
 ·simp_all
 ·rw [bG om]
  rw [qv e.fKids (fun i (_:Unit)=>(i:Int)) (fun _ k=>(jM F m k (d+1)).bind fun x=>cond (x != 0) (some (.inr x)) (some (.inl ()))) (fun _=>some 0) (t:=()) om ?_ ?_ ?_]
  ·have key:∀l:J TExpr,(∀k,k∈l->k∈e.fKids)->pE (fun _ k=>(jM F m k (d+1)).bind fun x=>cond (x != 0) (some (.inr x)) (some (.inl ()))) (fun _=>some 0) l ()=some (CY l (d+1)):=by
    intro l
    induction l with
    | nil=>intro _;rfl
    | cons k l ihl=>
     intro hm;simp [pE,CY];rw [ih k (hm k si) (d+1) om om];simp;cases (gX k (d+1) != 0)
     ·simp_all [aS,aC,sm,pX]
     ·rfl
   unfold BV KX
   grind
  ·rfl
  ·intro i h t rc
   simp only [wI h,AV,gz,bK,gd h,bh (i:=i) om]
   cases jM F m e.fKids[i] (d+1) with
   | none=>rfl
   | some x=>
    simp;cases (x != 0)<;>rfl
  simp_all
theorem Xa{e:TExpr}(ho:ij e):bH fun F n=>∀d,0<=d->d<=32->qg F n e d=some (gX e d):=
 (Qk ho).kE (bH.ge 33 fun F n h _=>h) fun F n h hF d h0 h1=>by
  obtain⟨G,rfl⟩:∃G,F=G+20:=⟨F-20,om⟩
  simp_all [aao]
inductive Vd:TExpr->Prop
 | mk (op n:Int) (name:Bs) (kids:List TExpr) (h1:(kids.length:Int)=oA op) (h2:KX op=!(name==[])) (h3:op=1->0<=n) (h4:op=26->n=0\/Aa n=true) (h5:op≠1->op≠26->n=0)
   (h6:KX op=true->rName name=true) (h7:∀k,k∈kids->Vd k):Vd (.mk op n name kids)
theorem Ql:∀(l:J TExpr)(d:Int),CY l d=0↔∀k,k∈l->gX k d=0
 | [],d=>by simp [CY]
 | k::l,d=>by
  simp [CY];rw [<-Ql l d]
  cases h:(gX k d != 0) with
  | true=>
   have:gX k d≠0:=by simpa using h
   simp [this]
  | false=>
   have:gX k d=0:=by simpa using h
   simp [this]
theorem aiV{op n:Int}{name:Bs}{len:Nat}(h:BV op n name len=false):
  (len:Int)=oA op/\KX op=!(name==[])/\(op=1->0<=n)/\(op=26->n=0\/Aa n=true)/\(op≠1->op≠26->n=0):=by
 unfold BV at h
 grind
theorem HO(e:TExpr):∀d,gX e d=0->Vd e:=by
 induction e using TExpr.ind with
 | h op n name kids ih=>
  intro d h;simp [gX] at h
  cases h0:decide (32<=d) with
  | true=>rw [h0] at h;simp at h
  | false=>
   rw [h0] at h
   cases h1:BV op n name kids.length with
   | true=>rw [h1] at h;simp at h
   | false=>
    rw [h1] at h
    cases h2:(KX op && !rName name) with
    | true=>rw [h2] at h;simp at h
    | false=>
     rw [h2] at h;simp at h;rw [Ql] at h;obtain⟨a,b,c,d',e⟩:=aiV h1;refine .mk op n name kids a b c d' e (fun hn=>?_) fun k hk=>ih k hk _ (h k hk)
     simp_all
def par(b:Bool)(s:Bs):Bs:=cond b (([40]++s)++[41]) s
theorem aiW{op:Int}{n:Nat}(h:(n:Int)=oA op):1<=op/\op<=26:=by
 by_cases h1:1<=op/\op<=26
 ·exact h1
 ·have e1:(op==1)=false:=by grind
  have e2:(op==2)=false:=by grind
  have e3:(op==25)=false:=by grind
  have e4:(op==26)=false:=by grind
  have k1:(decide (3<=op)&&decide (op<=6))=false:=by
   grind
  have k2:(decide (7<=op)&&decide (op<=24))=false:=by
   grind
  simp only [oA,e1,e2,e3,e4,k1,k2,XN,aS] at h;omega
theorem aiX{op:Int}(h:1<=op/\op<=26):op=1\/op=2\/op=3\/op=4\/op=5\/op=6\/op=7\/op=8\/op=9\/op=10\/op=11\/op=12\/op=13\/op=14\/op=15\/op=16\/op=17\/op=18\/op=19\/op=20\/op=21\/op=22\/op=23\/op=24\/op=25\/op=26:=om
inductive Kind(op:Int):Prop
 | num (h:op=1\/op=2) (hk:oA op=0) (hl:(lz op).1=14)
 | un (h:3<=op/\op<=6) (hk:oA op=1) (hl:(lz op).1=13) (hs:(lz op).2.length=1)
 | bin (h:7<=op/\op<=24) (hk:oA op=2) (hl:3<=(lz op).1/\(lz op).1<=12) (hs:(lz op).2.length<=2)
 | con (h:op=25) (hk:oA op=3) (hl:(lz op).1=2)
 | set (h:op=26) (hk:oA op=1) (hl:(lz op).1=1)
structure Good(e:TExpr):Prop where
 v:Vd e
 o:ij e
 m:Nms e
theorem Good.kid{e:TExpr}(g:Good e):∀k,k∈e.fKids->Good k:=by
 obtain⟨v,o,m⟩:=g
 cases e with
 | mk op n name kids=>
  cases v with
  | mk _ _ _ _ h1 h2 h3 h4 h5 h6 h7=>
   cases o with
   | mk _ _ _ _ a1 a2 a3 a4 a5=>
    cases m with
    | mk _ _ _ _ b1 b2=>exact fun k hk=>⟨h7 k hk,a5 k hk,b2 k hk⟩
theorem Good.ind{P:TExpr->Prop}(h:∀e,Good e->(∀k,k∈e.fKids->P k)->P e):∀e,Good e->P e:=by
 intro e
 induction e using TExpr.ind with
 | h op n name kids ih=>
  intro g;exact h _ g fun k hk=>ih k hk (g.kid k hk)
theorem anc{n:Int}(h:(Lit.int .i64 n).wf=true):-9223372036854775808<=n/\n<=9223372036854775807:=by
 have h1:IntKind.i64.min=-9223372036854775808:=by decide
 have h2:IntKind.i64.max=9223372036854775807:=by decide
 simp [Lit.wf] at h;omega
theorem Good.facts{e:TExpr}(g:Good e):(e.fKids.length:Int)=oA e.fOp/\(e.fOp=1->0<=e.fN)/\e.fN<=9223372036854775807/\e.fName.length<=60/\(e.fOp=26->e.fN=0\/Aa e.fN=true):=by
 obtain⟨v,o,m⟩:=g
 cases e with
 | mk op n name kids=>
  cases v with
  | mk _ _ _ _ h1 h2 h3 h4 h5 h6 h7=>
   cases o with
   | mk _ _ _ _ a1 a2 a3 a4 a5=>
    cases m with
    | mk _ _ _ _ b1 b2=>exact⟨h1,h3,(anc a2).2,b1,h4⟩
theorem aap{n:Nat}{inst:Decidable (n<=9223372036854775807)}(h:n<=1000000){R:Type}(k:O R):rq (@decide (n<=9223372036854775807) inst) k=k:=cD (dQ om)
theorem aaq{d:Nat}(h:d<10):bZ ([IntKind.wrap .u8 (IntKind.wrap .u64 (48+(d:Int)))]:J Int)=[UInt8.ofNat (48+d)]:=by
 have:d=0\/d=1\/d=2\/d=3\/d=4\/d=5\/d=6\/d=7\/d=8\/d=9:=om;rcases this with rfl|rfl|rfl|rfl|rfl|rfl|rfl|rfl|rfl|rfl<;>rfl
theorem IW:∀(k u m:Nat)(out:Bs),u<10^(k+1)->u<18446744073709551616->k<m->out.length+k<=1000->bV (σ:=Int×Bs) (fun bt x1=>
   cond (decide (9<x1.1))
   (rq (decide ((bZ ([IntKind.wrap .u8 (IntKind.wrap .u64 (48+(Int.tmod x1.1 10)))]:J Int)).length+x1.2.length<=9223372036854775807)) (bt (IntKind.wrap .u64 (Int.tdiv x1.1 10),(bZ ([IntKind.wrap .u8 (IntKind.wrap .u64 (48+(Int.tmod x1.1 10)))]:J Int))++x1.2)))
   (rq (decide ((bZ ([IntKind.wrap .u8 (IntKind.wrap .u64 (48+x1.1))]:J Int)).length+x1.2.length<=9223372036854775807)) (some ((bZ ([IntKind.wrap .u8 (IntKind.wrap .u64 (48+x1.1))]:J Int))++x1.2)))) m ((u:Int),out)=some (Lib.decDigits u++out)
 | k,u,0,out,_,_,h,_=>by omega
 | k,u,m+1,out,hu,hu',hk,ho=>by
  simp only [bV];by_cases h9:u<10
  ·rw [show decide (9<(u:Int))=false by simp;omega]
   simp;rw [aaq h9,aap bE,Lib.decDigits_one h9]
  ·have e1:Int.tmod (u:Int) 10=((u%10:Nat):Int):=IntWalk.up_tmod rfl rfl
   have e2:Int.tdiv (u:Int) 10=((u / 10:Nat):Int):=IntWalk.up_tdiv rfl rfl;rw [show decide (9<(u:Int))=true by simp;omega];simp only [e1,e2];rw [aaq (XQ _ de),aap bE,oY _ om]
   cases k with
   | zero=>simp at hu;omega
   | succ k=>
    rw [IW k (u / 10) m _ om om om bE];rw [Lib.decDigits.eq_1 u,dif_neg h9];simp
theorem ae8(F:Nat)(hF:30<=F){n:Int}(h0:0<=n)(h1:n<=9223372036854775807):dB F n=some (Lib.itoa n):=by
 obtain⟨u,rfl⟩:∃u:Nat,n=u:=⟨n.toNat,om⟩;unfold dB vo;rw [show decide ((u:Int)<0)=false by simp,oY (u:Int) om];rw [IW 20 u F [] om om om si];unfold Lib.itoa
 simp_all
theorem JI{e:TExpr}(ho:ij e):bH fun F _=>Cq F e=some (gX e 0):=
 (Xa ho).fst.mono fun F _ h=>by
  unfold Cq Qm
  simp_all
end Go.Proofs.YthmndfnkdgmenaaGreatDoor.K
namespace Go.Proofs.YthmndfnkdgmenaaGreatDoor.K
open Go.RT
set_option maxRecDepth 100000
theorem xH{R σ:Type}{body:(σ->O R)->σ->O R}{s:Bs}{p:UInt8->Bool}{fin:Nat->O R}(st:Nat->σ)
  (hs:∀(i:Nat) rc (h:i<s.length),body rc (st i)=cond (p s[i]) (rc (st (i+1))) (fin i)) (he:∀rc,body rc (st s.length)=fin s.length) :
  ∀(k i F:Nat),i+k=s.length->k<F->bV body F (st i)=fin (i+((s.drop i).takeWhile p).length)
 | 0,i,F,h,hF=>by
  cases F with
  | zero=>omega
  | succ F=>
   obtain rfl:i=s.length:=om;rw [Qv]
   exact he _
 | k+1,i,F,h,hF=>by
  cases F with
  | zero=>omega
  | succ F=>
   have hi:i<s.length:=om;show body (bV body F) (st i)=_;rw [hs i _ hi,MB hi,RH]
   cases p s[i] with
   | false=>simp
   | true=>
    simp only [bq,if_true,Bh];rw [xH st hs he k (i+1) F om om];congr 1;omega
def bl(b:UInt8):Bool:=(b.toNat:Int)==9||(b.toNat:Int)==10||(b.toNat:Int)==32
def fo(b:UInt8):Bool:=qZ (b.toNat:Int)
def dg(b:UInt8):Bool:=fL (b.toNat:Int)
def le(b:UInt8):Bool:=ny (b.toNat:Int)||(b.toNat:Int)==95
def skip(s:Bs)(i:Nat):Nat:=i+((s.drop i).takeWhile bl).length
def kP(s:Bs)(j:Nat):Bs:=(s.drop j).takeWhile fo
def ym:J Bs:=[[60,60,61],[62,62,61],[60,60],[62,62],[60,61],[62,61],[61,61],[33,61],[38,38],[124,124],[43,61],[45,61],[42,61],[47,61],[37,61],[38,61],[94,61],[124,61]]
def ae9:J Bs:=[[43],[45],[42],[47],[37],[60],[62],[38],[94],[124],[33],[126],[63],[58],[40],[41],[61]]
def oC:J Bs:=ym++ae9
def mP(l:Bs):Bs:=(oC.find? fun o=>o.isPrefixOf l).getD []
def Tq(s:Bs)(j:Nat):fu:=
 match s.drop j with
 | []=>⟨0,j,[]⟩
 | b::_=>cond (fo b) ⟨cond (dg b) 1 2,j,kP s j⟩ (cond (mP (s.drop j)==[]) ⟨4,j,[b]⟩ ⟨3,j,mP (s.drop j)⟩)
def td(s:Bs)(i:Nat):fu:=Tq s (skip s i)
theorem LJ{l p:Bs}:(l.take p.length==p)=p.isPrefixOf l:=by
 rw [sN,uh,XR,List.prefix_iff_eq_take];exact eq_comm
theorem yo{α:Type}(p:α->Bool)(l:J α):(l.takeWhile p).length<=l.length:=(List.takeWhile_sublist _).length_le
theorem gQ(s:Bs)(i:Nat)(h:i<=s.length):skip s i<=s.length/\i<=skip s i:=by
 have:=yo bl (s.drop i);rw [Kc] at this;unfold skip;omega
theorem JJ{α:Type}(p:α->Bool):∀l:J α,l.drop (l.takeWhile p).length=l.dropWhile p
 | []=>rfl
 | x::l=>by
  rw [RH,List.dropWhile_cons]
  cases p x with
  | true=>simpa using JJ p l
  | false=>rfl
theorem agW(s:Bs)(i:Nat):s.drop (skip s i)=(s.drop i).dropWhile bl:=by
 unfold skip;rw [<-List.drop_drop,JJ]
theorem JK{α:Type}(p:α->Bool):∀(l:J α)(b:α)(m:J α),l.dropWhile p=b::m->p b=false
 | [],b,m,h=>by simp at h
 | x::l,b,m,h=>by
  rw [List.dropWhile_cons] at h
  cases hx:p x with
  | true=>rw [hx] at h;exact JK p l b m (by simpa using h)
  | false=>rw [hx] at h;simp at h;rw [<-h.1];exact hx
theorem vp(s:Bs)(i:Nat):skip s (skip s i)=skip s i:=by
 have:(s.drop (skip s i)).takeWhile bl=[]:=by
  rw [agW]
  cases h:(s.drop i).dropWhile bl with
  | nil=>rfl
  | cons b m=>rw [RH,JK bl _ b m h];rfl
 rw [skip,this];rfl
theorem aiY(F:Nat)(b:UInt8):Cr F (b.toNat:Int)=some (bl b):=by
 unfold Cr bl;cases ((b.toNat:Int)==9)<;>cases ((b.toNat:Int)==10)<;>rfl
theorem agX(c:Int):qZ c=true↔(97<=c/\c<=122)\/(65<=c/\c<=90)\/(48<=c/\c<=57)\/c=95:=by
 unfold qZ ny fL;simp only [Qu,cx,fX,uh];omega
theorem Tr(F:Nat)(b:UInt8):nQ F (b.toNat:Int)=some (fo b):=by
 unfold nQ fo;generalize (b.toNat:Int)=c
 have:qZ c=(c==95||(decide (48<=c)&&decide (c<=57))||(decide (65<=c)&&decide (c<=90))||(decide (97<=c)&&decide (c<=122))):=by
  rw [sN,agX];simp only [Qu,cx,fX,uh];omega
 rw [this];cases (c==95)<;>cases decide (48<=c)<;>cases decide (c<=57)<;>cases decide (65<=c)<;>cases decide (c<=90)<;>cases decide (97<=c)<;>cases decide (c<=122)<;>rfl
theorem vq(F:Nat)(b:UInt8):mX F (b.toNat:Int)=some (le b):=by
 unfold mX le ny;generalize (b.toNat:Int)=c;cases (c==95)<;>cases decide (65<=c)<;>cases decide (c<=90)<;>cases decide (97<=c)<;>cases decide (c<=122)<;>rfl
theorem aar(F:Nat)(b:UInt8):xI F (b.toNat:Int)=some (dg b):=by
 unfold xI dg fL;cases decide (48<=(b.toNat:Int))<;>rfl
theorem akf(b:UInt8):fo b=(le b||dg b):=by
 unfold fo qZ le dg;cases ny (b.toNat:Int)<;>cases fL (b.toNat:Int)<;>cases ((b.toNat:Int)==95)<;>rfl
theorem Ab(F:Nat)(a p:Bs):cW F a p=some (p.isPrefixOf a):=by
 unfold cW rQ;by_cases h:p.length<=a.length
 ·have e1:decide ((p.length:Int)<=(a.length:Int))=true:=dQ om
  simp only [e1,AV,uM,bq,gz,aC];unfold sl;simp only [bK,Int.toNat_zero,Ul,LJ]
 ·have e1:decide ((p.length:Int)<=(a.length:Int))=false:=sO om
  simp only [e1,aS,aC];congr 1;apply Eq.symm;apply Qw.2;intro hp;rw [XR] at hp;exact h hp.length_le
theorem sG(F:Nat)(s:Bs)(i:Nat)(e pos:Int)(hi:i<=s.length)(hF:s.length<F)(hl:s.length<=1000000):fM F s (i:Int) e pos=some (s,(skip s i:Int),e,pos):=by
 unfold fM
 exact xH (s:=s) (p:=bl) (fin:=fun j=>some (s,(j:Int),e,pos)) (fun j=>(s,(j:Int),e,pos)) (fun j rc h=>by
  simp only [wI h,AV,uM,bq,gz,bK,gd h,bh (i:=j) om];unfold bl;cases ((s[j].toNat:Int)==9)<;>cases ((s[j].toNat:Int)==10)<;>cases ((s[j].toNat:Int)==32)<;>rfl) (fun rc=>by
  simp only [Gd,aS,aC]) (s.length-i) i F om om
theorem Tt{α:Type}(s:J α)(i n:Nat):sl s (i:Int) ((i+n:Nat):Int)=(s.drop i).take n:=by
 unfold sl;rw [bK,bK,List.take_drop]
theorem BW{α:Type}(p:α->Bool):∀l:J α,l.take (l.takeWhile p).length=l.takeWhile p
 | []=>rfl
 | x::l=>by
  rw [RH]
  cases p x with
  | true=>simpa using BW p l
  | false=>rfl
theorem KY(F:Nat)(s:Bs)(i:Nat)(e pos:Int)(hi:i<=s.length)(hF:s.length<F)(hl:s.length<=1000000):nZ F s (i:Int) e pos=some (kP s i):=by
 unfold nZ;have hw:=yo fo (s.drop i);rw [Kc] at hw
 refine (xH (s:=s) (p:=fo) (fin:=fun (j:Nat)=>rq ((decide (0<=(i:Int)))&&((decide ((i:Int)<=(j:Int)))&&(decide ((j:Int)<=(s.length:Int))))) (some (sl s i j))) (fun j=>(j:Int)) (fun j rc h=>by
  simp only [wI h,AV,uM,bq,gz,bK,gd h,bh (i:=j) om,vq,aar,aC];rw [akf];cases le s[j]<;>cases dg s[j]<;>rfl) (fun rc=>by
  simp only [Gd,aS,aC]) (s.length-i) i F om om).trans ?_
 rw [cD (by simp only [cx,fX];omega),Tt,BW];rfl
theorem mG(F:Nat)(s:Bs)(i:Nat)(e pos:Int)(hi:i<=s.length)(hF:s.length+50<F)(hl:s.length<=1000000):gH F s (i:Int) e pos=some (mP (s.drop (skip s i)),s,(skip s i:Int),e,pos):=by
 unfold gH;obtain⟨h1,h2⟩:=gQ s i hi;rw [sG F s i e pos hi om hl,show Ac F=some oC from rfl];simp only [aC];generalize hj:skip s i=j at h1 h2⊢;have mF:∀o,o∈oC->o.length<=3:=by decide
 have hlen:oC.length=35:=rfl;unfold mP;generalize oC=L at mF hlen⊢;rw [qv L (fun k (_:Unit)=>(k:Int)) (fun (_:Unit) o=>cond (o.isPrefixOf (s.drop j)) (some (.inr (o,s,(j:Int),e,pos))) (some (.inl ()))) (fun _=>some ([],s,(j:Int),e,pos)) (t:=()) om ?_ ?_ ?_]
 ·clear mF hlen
  induction L with
  | nil=>rfl
  | cons o l ih=>
   simp only [pE,MA];cases o.isPrefixOf (s.drop j)
   ·simpa [sm] using ih
   ·rfl
 ·rfl
 ·intro k h t rc
  have h3:=mF _ (kz h);simp only [wI h,AV,uM,bq,gz,bK,gd h,bh (i:=k) om];rw [bG (x:=(s.length:Int)-(j:Int)) om,bG (x:=(j:Int)+(L[k].length:Int)) om];by_cases hle:L[k].length<=s.length-j
  ·rw [show decide ((L[k].length:Int)<=(s.length:Int)-(j:Int))=true from dQ om]
   have hc:(decide ((j:Int)<=(j:Int)+(L[k].length:Int))&&decide ((j:Int)+(L[k].length:Int)<=(s.length:Int)))=true:=by
    simp only [cx,fX];omega
   simp only [hc,uM,bq,gz,aC];rw [show (j:Int)+(L[k].length:Int)=((j+L[k].length:Nat):Int) by omega,Tt,LJ];cases L[k].isPrefixOf (s.drop j)<;>rfl
  ·rw [show decide ((L[k].length:Int)<=(s.length:Int)-(j:Int))=false from sO om]
   have:L[k].isPrefixOf (s.drop j)=false:=by
    apply Qw.2;intro hp;rw [XR] at hp;have:=hp.length_le;rw [Kc] at this;omega
   rw [this];rfl
 ·intro t rc
  simp only [Gd,aS]
theorem acP:∀(l:Bs)(c:UInt8),decide (0<=Lib.indexByte l c)=l.contains c
 | [],c=>rfl
 | b::l,c=>by
  have ih:=acP l c;have hge:=Lib.indexByte_ge l c;unfold Lib.indexByte;rw [List.contains_cons];by_cases h:b=c
  ·subst h;simp
  ·have h1:(b==c)=false:=by simpa using h
   have h2:(c==b)=false:=by simpa using fun e:c=b=>h e.symm
   rw [h1,h2];simp only [Bool.false_eq_true,if_false,Bool.false_or];rw [<-ih];by_cases hm:Lib.indexByte l c=-1
   ·simp [hm]
   ·have:(Lib.indexByte l c == -1)=false:=by simpa using hm
    rw [this];simp only [Bool.false_eq_true,if_false];rw [dQ om,dQ om]
def Tu:Bs:=[43,45,42,47,37,60,62,38,94,124,33,126,63,58,40,41,61]
def yp:Bs:=[61,63,58,124,94,38,60,62,43,45,42,47,37,33,126,40,41]
theorem Qn:∀(l:Bs)(b:UInt8)(m:Bs),((l.map fun x=>[x]).find? fun o=>o.isPrefixOf (b::m))=cond (l.contains b) (some [b]) none
 | [],b,m=>rfl
 | x::l,b,m=>by
  rw [lD,MA,List.contains_cons];by_cases h:x=b
  ·subst h;simp [List.isPrefixOf]
  ·have h1:(x==b)=false:=by simpa using h
   have h2:(b==x)=false:=by simpa using fun e:b=x=>h e.symm
   have h3:[x].isPrefixOf (b::m)=false:=by simp [List.isPrefixOf,h1]
   rw [h3,h2,Qn l b m];rfl
theorem aiZ(b:UInt8):yp.contains b=Tu.contains b:=by
 rw [sN,XG,XG];exact⟨fun h=>(by decide:∀x,x∈yp->x∈Tu) b h,fun h=>(by decide:∀x,x∈Tu->x∈yp) b h⟩
theorem afa(b:UInt8)(m:Bs):mP (b::m)=match ym.find? (fun o=>o.isPrefixOf (b::m)) with|some o=>o|none=>cond (yp.contains b) [b] []:=by
 unfold mP oC;rw [List.find?_append,show ae9=Tu.map fun x=>[x] from rfl,Qn,<-aiZ]
 cases ym.find? (fun o=>o.isPrefixOf (b::m)) with
 | some o=>rfl
 | none=>cases yp.contains b<;>rfl
theorem BX:∀o,o∈oC->o≠[]:=by decide
theorem NX(l:Bs):mP l=[]\/mP l∈oC/\mP l <+: l:=by
 unfold mP
 cases h:oC.find? (fun o=>o.isPrefixOf l) with
 | none=>exact .inl rfl
 | some o=>
  right;have h1:=RI h;have h2:=XI h;exact⟨h1,XR.1 h2⟩
theorem Vb(F:Nat)(s:Bs)(i:Nat)(hi:i<=s.length)(hF:s.length+50<F)(hl:s.length<=1000000):tf F s (i:Int)=some (td s i):=by
 unfold tf;refine (xH (s:=s) (p:=bl) (fin:=fun j=>
  (cond ((j:Int)==(s.length:Int))
  (some (fu.mk 0 (j:Int) []))
  (rq ((decide (0<=(j:Int)))&&(decide ((j:Int)<(s.length:Int)))) ((nQ F ((s.getD (Int.toNat (j:Int)) 0).toNat:Int)).bind fun x5=>
  cond x5
  (bV (σ:=Int) (R:=fu) (fun ux x6=>
  (cond (decide (x6<(s.length:Int)))
  (rq ((decide (0<=x6))&&(decide (x6<(s.length:Int)))) ((nQ F ((s.getD (Int.toNat x6) 0).toNat:Int)).bind fun x9=>
  some x9))
  (some false):Option Bool).bind fun x8=>
  cond x8
  (ux (aB (x6+1)))
  ((rq ((decide (0<=(j:Int)))&&(decide ((j:Int)<(s.length:Int)))) (cond (decide (48<=((s.getD (Int.toNat (j:Int)) 0).toNat:Int)))
  (rq ((decide (0<=(j:Int)))&&(decide ((j:Int)<(s.length:Int)))) (some (decide (((s.getD (Int.toNat (j:Int)) 0).toNat:Int)<=57))))
  (some false)):Option Bool).bind fun bW=>
  cond bW
  (rq ((decide (0<=(j:Int)))&&((decide ((j:Int)<=x6))&&(decide (x6<=(s.length:Int))))) (some (fu.mk 1 (j:Int) (sl s (j:Int) x6))))
  (rq ((decide (0<=(j:Int)))&&((decide ((j:Int)<=x6))&&(decide (x6<=(s.length:Int))))) (some (fu.mk 2 (j:Int) (sl s (j:Int) x6)))))) F (aB ((j:Int)+1)))
  (bV (σ:=Int) (R:=fu) (fun ai0 fT=>
  cond (decide (fT<(ym.length:Int)))
  (rq ((decide (0<=fT))&&(decide (fT<(ym.length:Int)))) (rq ((decide (0<=(j:Int)))&&((decide ((j:Int)<=(s.length:Int)))&&(decide ((s.length:Int)<=(s.length:Int))))) ((cW F (sl s (j:Int) (s.length:Int)) (ym.getD (Int.toNat fT) [])).bind fun fF=>
  cond fF
  (some (fu.mk 3 (j:Int) (ym.getD (Int.toNat fT) [])))
  (ai0 (aB (fT+1))))))
  (rq ((decide (0<=(j:Int)))&&(decide ((j:Int)<(s.length:Int)))) ((strings_IndexByte F ([61,63,58,124,94,38,60,62,43,45,42,47,37,33,126,40,41]:Bs) ((s.getD (Int.toNat (j:Int)) 0).toNat:Int)).bind fun sH=>
  cond (decide (0<=sH))
  (rq ((decide (0<=(j:Int)))&&((decide ((j:Int)<=aB ((j:Int)+1)))&&(decide (aB ((j:Int)+1)<=(s.length:Int))))) (some (fu.mk 3 (j:Int) (sl s (j:Int) (aB ((j:Int)+1))))))
  (rq ((decide (0<=(j:Int)))&&((decide ((j:Int)<=aB ((j:Int)+1)))&&(decide (aB ((j:Int)+1)<=(s.length:Int))))) (some (fu.mk 4 (j:Int) (sl s (j:Int) (aB ((j:Int)+1))))))))) F 0))))) (fun j=>(j:Int)) (fun j rc h=>by
  simp only [wI h,AV,uM,bq,gz,bK,gd h,bh (i:=j) om,aiY,aC];rfl) (fun rc=>by
  simp only [Gd,aS,aC];rfl) (s.length-i) i F om om).trans ?_
 obtain⟨h1,h2⟩:=gQ s i hi;show _=some (Tq s (skip s i));rw [show i+((s.drop i).takeWhile bl).length=skip s i from rfl];generalize skip s i=j at h1 h2⊢;unfold Tq;by_cases hj:j=s.length
 ·subst hj
  rw [Qv];simp only [FD,bq]
 ·have hj':j<s.length:=om
  have e0:((j:Int)==(s.length:Int))=false:=by rw [gN];omega
  simp only [e0,aS,wI hj',AV,uM,gz,bK,gd hj',Tr,aC,bh (i:=j) om];have hd:=MB hj';rw [hd];simp only []
  cases hfo:fo s[j] with
  | true=>
   simp only [bq];have hw:=yo fo (s.drop (j+1));rw [Kc] at hw
   refine (xH (s:=s) (p:=fo) (fin:=fun (k:Nat)=>cond (dg s[j]) (rq ((decide ((j:Int)<=(k:Int)))&&(decide ((k:Int)<=(s.length:Int)))) (some (fu.mk 1 (j:Int) (sl s j k)))) (rq ((decide ((j:Int)<=(k:Int)))&&(decide ((k:Int)<=(s.length:Int)))) (some (fu.mk 2 (j:Int) (sl s j k))))) (fun k=>(k:Int)) (fun k rc h=>by
    simp only [wI h,AV,uM,bq,gz,bK,gd h,bh (i:=k) om,Tr,aC,Qx];unfold dg fL;cases fo s[k]<;>cases decide (48<=(s[j].toNat:Int))<;>cases decide ((s[j].toNat:Int)<=57)<;>rfl) (fun rc=>by
    simp only [Gd,aS,aC,Qx];unfold dg fL;cases decide (48<=(s[j].toNat:Int))<;>cases decide ((s[j].toNat:Int)<=57)<;>rfl) (s.length-(j+1)) (j+1) F om om).trans ?_
   have hlen:((s.drop j).takeWhile fo).length=1+((s.drop (j+1)).takeWhile fo).length:=by
    rw [hd,RH,hfo];simp;omega
   have hc:(decide ((j:Int)<=((j+1+((s.drop (j+1)).takeWhile fo).length:Nat):Int))&&decide (((j+1+((s.drop (j+1)).takeWhile fo).length:Nat):Int)<=(s.length:Int)))=true:=by
    simp only [cx,fX];omega
   have PN:sl s (j:Int) ((j+1+((s.drop (j+1)).takeWhile fo).length:Nat):Int)=kP s j:=by
    rw [show j+1+((s.drop (j+1)).takeWhile fo).length=j+((s.drop j).takeWhile fo).length by omega,Tt,BW];rfl
   rw [hc,PN]
   cases dg s[j]<;>rfl
  | false=>
   simp only [aS];have mF:∀o,o∈ym->o.length<=3:=by decide
   have hlen:ym.length=18:=rfl;rw [<-hd,hd,afa];have hne:∀o,o∈ym->o≠[]:=by decide
   generalize ym=L at mF hlen hne⊢;have h1:aB ((j:Int)+1)=((j+1:Nat):Int):=bh om;have hs1:sl s (j:Int) ((j+1:Nat):Int)=[s[j]]:=by rw [Tt,hd];rfl
   have PN:sl s (j:Int) (s.length:Int)=s.drop j:=by
    unfold sl;rw [bK,bK,Bl]
   have hc:(decide ((j:Int)<=((j+1:Nat):Int))&&decide (((j+1:Nat):Int)<=(s.length:Int)))=true:=by
    simp only [cx,fX];omega
   have Jt:(decide ((j:Int)<=(s.length:Int))&&decide ((s.length:Int)<=(s.length:Int)))=true:=by
    simp only [cx,fX];omega
   rw [qv L (fun k (_:Unit)=>(k:Int)) (fun (_:Unit) o=>cond (o.isPrefixOf (s.drop j)) (some (.inr (fu.mk 3 (j:Int) o))) (some (.inl ()))) (fun _=>cond (yp.contains s[j]) (some (fu.mk 3 (j:Int) [s[j]])) (some (fu.mk 4 (j:Int) [s[j]]))) (t:=()) om ?_ ?_ ?_]
   ·have key:∀l:J Bs,pE (fun (_:Unit)(o:Bs)=>cond (o.isPrefixOf (s.drop j)) (some (.inr (fu.mk 3 (j:Int) o))) (some (.inl ()))) (fun _=>cond (yp.contains s[j]) (some (fu.mk 3 (j:Int) [s[j]])) (some (fu.mk 4 (j:Int) [s[j]]))) l ()=match l.find? (fun o=>o.isPrefixOf (s.drop j)) with|some o=>some (fu.mk 3 (j:Int) o)|none=>cond (yp.contains s[j]) (some (fu.mk 3 (j:Int) [s[j]])) (some (fu.mk 4 (j:Int) [s[j]])):=by
     intro l
     induction l with
     | nil=>rfl
     | cons o l ih=>
      simp only [pE,MA];cases o.isPrefixOf (s.drop j)
      ·simpa [sm] using ih
      ·rfl
    rw [key,<-hd]
    cases hf:L.find? (fun o=>o.isPrefixOf (s.drop j)) with
    | some o=>
     have h1:=hne o (RI hf);have:(o==[])=false:=by simpa using h1
     simp only [this,aS]
    | none=>cases yp.contains s[j]<;>rfl
   ·rfl
   ·intro k h t rc
    simp only [wI h,AV,uM,bq,gz,bK,gd h,bh (i:=k) om,Jt,PN,Ab,aC];cases L[k].isPrefixOf (s.drop j)<;>rfl
   ·intro t rc
    have hix:strings_IndexByte F yp (s[j].toNat:Int)=some (Lib.indexByte yp s[j]):=by
     unfold strings_IndexByte stringslite_IndexByte Hq ibF;simp
    simp only [Gd,aS];show (strings_IndexByte F yp (s[j].toNat:Int)).bind _=_;rw [hix];simp only [aC,acP,hc,hs1,gz,Qx]
end Go.Proofs.YthmndfnkdgmenaaGreatDoor.K
namespace Go.Proofs.YthmndfnkdgmenaaGreatDoor.K
open Go.RT
set_option maxRecDepth 100000
theorem NY{R σ α:Type}{body:(σ->O R)->σ->O R}{l:J α}{p:α->Bool}{z:O R}(st:Nat->σ)(hs:∀(i:Nat) rc (h:i<l.length),body rc (st i)=cond (p l[i]) (rc (st (i+1))) z):
  ∀(k i F:Nat),i+k=l.length->k<F->(l.drop i).all p=false->bV body F (st i)=z
 | 0,i,F,h,hF,hb=>by
  simp_all
 | k+1,i,F,h,hF,hb=>by
  cases F with
  | zero=>omega
  | succ F=>
   have hi:i<l.length:=om;show body (bV body F) (st i)=z;rw [hs i _ hi];rw [MB hi,RG] at hb
   cases hp:p l[i] with
   | false=>rfl
   | true=>
    rw [hp] at hb;exact NY st hs k (i+1) F om om hb
def aoF:Bs:=[48,49,50,51,52,53,54,55,56,57,97,98,99,100,101,102]
def dR(b:UInt8):Int:=cond (dg b) ((b.toNat:Int)-48) (cond (decide (97<=(b.toNat:Int))&&decide ((b.toNat:Int)<=102)) ((b.toNat:Int)-87) (cond (decide (65<=(b.toNat:Int))&&decide ((b.toNat:Int)<=70)) ((b.toNat:Int)-55) (-1)))
def dA(b:UInt8):Int:=Lib.indexByte aoF (P8 .u8 (b.toNat:Int) (cond (decide (65<=(b.toNat:Int))&&decide ((b.toNat:Int)<=90)) 32 0)).toNat.toUInt8
theorem ane:∀n:Fin 256,dA (UInt8.ofNat n.val)=dR (UInt8.ofNat n.val):=by decide +kernel
theorem Re{P:UInt8->Prop}(h:∀n:Fin 256,P (UInt8.ofNat n.val))(b:UInt8):P b:=by
 have:=h ⟨b.toNat,b.toNat_lt⟩;simpa using this
theorem aoG(b:UInt8):dA b=dR b:=Re (P:=fun b=>dA b=dR b) ane b
def okD(base:Int)(l:Bs):Bool:=l.all fun b=>decide (0<=dR b)&&decide (dR b<base)
def qI(base v:Nat)(l:Bs):Nat:=l.foldl (fun v b=>v*base+(dR b).toNat) v
theorem Vc(base:Nat)(hb:1<=base):∀(l:Bs)(v:Nat),v<=qI base v l
 | [],v=>eo _
 | b::l,v=>by
  have h1:=Vc base hb l (v*base+(dR b).toNat);have h2:=adl v hb;show v<=qI base (v*base+(dR b).toNat) l;omega
def pF(base v:Nat)(l:Bs):Int×Int:=cond (okD (base:Int) l) (cond (decide (qI base v l<=9223372036854775807)) ((qI base v l:Int),0) (0,14)) (0,6)
def qp(s:Bs):Nat×Bs:=
 cond ((([48,120]:Bs).isPrefixOf s)||(([48,88]:Bs).isPrefixOf s)) (16,s.drop 2) (cond (((s.getD 0 0).toNat:Int)==48) (8,s) (10,s))
def nS(s:Bs):Int×Int:=cond ((qp s).2==[]) (0,6) (pF (qp s).1 0 (qp s).2)
theorem div_lt{n d base most:Int}(hb:1<=base)(hd:0<=d)(hdm:d<=most):(most-d) / base<n↔most<n*base+d:=by
 grind [Int.ediv_lt_iff_lt_mul]
theorem HP(base:Nat)(hb:1<=base/\base<=16):∀(l:Bs)(n:Int)(Gg:Bool)(v:Nat),(Gg=false->n=(v:Int)/\v<=9223372036854775807)->(Gg=true->9223372036854775807<v) ->
  pE (fun t (b:UInt8)=>cond (decide (dR b<0)||decide ((base:Int)<=dR b)) (some (.inr ((0,6):Int×Int))) (cond (t.2||decide (aB (Int.tdiv (aB (9223372036854775807-dR b)) (base:Int))<t.1)) (some (.inl (t.1,true))) (some (.inl (aB (aB (t.1*(base:Int))+dR b),t.2)))))
   (fun t=>cond t.2 (some (0,14)) (some (t.1,0))) l (n,Gg)=some (pF base v l)
 | [],n,Gg,v,h1,h2=>by
  cases Gg with
  | false=>
   obtain⟨rfl,h⟩:=h1 rfl
   simp [pE,pF,okD,qI,h]
  | true=>
   have h3:¬ v<=9223372036854775807:=by have:=h2 rfl;omega
   simp [pE,pF,okD,qI,h3]
 | b::l,n,Gg,v,h1,h2=>by
  simp [pE];by_cases hbad:dR b<0\/(base:Int)<=dR b
  ·have e1:(decide (dR b<0)||decide ((base:Int)<=dR b))=true:=by simpa using hbad
   have e2:okD (base:Int) (b::l)=false:=by
    unfold okD
    grind
   rw [e1];simp [pF,e2,sm]
  ·have e1:(decide (dR b<0)||decide ((base:Int)<=dR b))=false:=by
    simp_all
   have e2:okD (base:Int) (b::l)=okD (base:Int) l:=by
    unfold okD
    simp_all
   have e3:pF base v (b::l)=pF base (v*base+(dR b).toNat) l:=by
    unfold pF;rw [e2];rfl
   rw [e1,e3]
   have hm:((v*base+(dR b).toNat:Nat):Int)=(v:Int)*(base:Int)+dR b:=by
    grind
   have hvb:=adl v hb.1
   cases Gg with
   | true=>
    have:=h2 rfl
    exact HP base hb l n true _ (fun h=>by cases h) fun _=>by omega
   | false=>
    obtain⟨rfl,hv⟩:=h1 rfl;rw [bG (x:=9223372036854775807-dR b) om,show aB (Int.tdiv (9223372036854775807-dR b) (base:Int))=(9223372036854775807-dR b) / (base:Int) from IntWalk.i64_quo _ _ om];by_cases hx:(9223372036854775807-dR b) / (base:Int)<(v:Int)
    ·rw [dQ hx]
     rw [div_lt om om om] at hx;exact HP base hb l v true _ (fun h=>by cases h) fun _=>by omega
    ·rw [sO hx]
     rw [div_lt om om om] at hx;rw [bG (x:=(v:Int)*(base:Int)) om,bG om];exact HP base hb l _ false _ (fun _=>⟨hm.symm,om⟩) fun h=>by cases h
theorem ai1(F:Nat)(c:Int):Cs F c=some (cond (decide (65<=c)&&decide (c<=90)) 32 0):=by
 unfold Cs;grind
theorem aas(s:Bs):(1<=(qp s).1/\(qp s).1<=16)/\(qp s).2.length<=s.length:=by
 unfold qp
 grind
theorem ai2(F:Nat)(s:Bs)(h0:s≠[])(hF:s.length<F)(hl:s.length<=1000000):xJ F s=some (nS s):=by
 obtain⟨hb,hlen⟩:=aas s;have hpos:=zb.2 h0
 have e1:((cW F s ([48,120]:Bs)).bind fun x3=>cond x3 (some true) ((cW F s ([48,88]:Bs)).bind fun x4=>some x4):O Bool)=some (([48,120]:Bs).isPrefixOf s||([48,88]:Bs).isPrefixOf s):=by
  grind [Ab]
 have AR:(cond (([48,120]:Bs).isPrefixOf s||([48,88]:Bs).isPrefixOf s)
   (rq ((decide (2<=(s.length:Int)))&&(decide ((s.length:Int)<=(s.length:Int)))) (some ((16:Int),sl s 2 (s.length:Int))))
   (rq (decide (0<(s.length:Int))) (cond (((s.getD 0 0).toNat:Int)==48) (some (8,s)) (some (10,s)))):O (Int×Bs))=some (((qp s).1:Int),(qp s).2):=by
  unfold qp
  cases hp:(([48,120]:Bs).isPrefixOf s||([48,88]:Bs).isPrefixOf s) with
  | true=>
   rw [cD (by grind)];unfold sl
   simp
  | false=>
   simp;rw [cD (by simp_all)]
   grind
 unfold xJ;rw [e1];simp only [aC];rw [AR];simp only [aC];unfold nS;generalize (qp s).2=l at hlen⊢;generalize (qp s).1=base at hb⊢
 cases (l==[]) with
 | true=>rfl
 | false=>
  rw [qv l (fun i (t:Int×Bool)=>(t.1,t.2,(i:Int))) (fun t (b:UInt8)=>cond (decide (dR b<0)||decide ((base:Int)<=dR b)) (some (.inr ((0,6):Int×Int))) (cond (t.2||decide (aB (Int.tdiv (aB (9223372036854775807-dR b)) (base:Int))<t.1)) (some (.inl (t.1,true))) (some (.inl (aB (aB (t.1*(base:Int))+dR b),t.2)))))
    (fun t=>cond t.2 (some (0,14)) (some (t.1,0))) (t:=(0,false)) om ?_ ?_ ?_]
  ·grind [HP]
  ·rfl
  ·intro i h t rc
   simp only [wI h,AV,uM,bq,gz,bK,gd h,bh (i:=i) om,ai1,aC]
   have hix:strings_IndexByte F ([48,49,50,51,52,53,54,55,56,57,97,98,99,100,101,102]:Bs) (P8 .u8 (l[i].toNat:Int) (cond (decide (65<=(l[i].toNat:Int))&&decide ((l[i].toNat:Int)<=90)) 32 0))=some (dR l[i]):=by
    rw [<-aoG];rfl
   rw [hix];have hz:(!((base:Int)==0))=true:=by simp;omega
   simp only [aC,hz,gz];cases decide (dR l[i]<0)<;>cases decide ((base:Int)<=dR l[i])<;>cases t.2<;>simp
   all_goals first|rfl|(cases decide (aB (Int.tdiv (aB (9223372036854775807-dR l[i])) (base:Int))<t.1)<;>rfl)
  simp_all
theorem tZ(F:Nat)(b:UInt8)(base:Int):xK F (b.toNat:Int) base=some (cond (decide (base<=dR b)) (-1) (dR b)):=by
 have hb:=b.toNat_lt;unfold xK;rw [aar];simp only [aC];unfold dR
 cases hd:dg b with
 | true=>
  unfold dg fL at hd;simp only [cx,fX] at hd;simp only [bq,aC];rw [Um _ om,bG om]
  grind
 | false=>
  simp only [aS];by_cases h3:97<=(b.toNat:Int)/\(b.toNat:Int)<=102
  ·rw [dQ h3.1,dQ h3.2,Um _ om,bG (x:=(b.toNat:Int)-97) om,bG (x:=(b.toNat:Int)-97+10) om]
   grind
  ·have e3:(decide (97<=(b.toNat:Int))&&decide ((b.toNat:Int)<=102))=false:=by
    simp_all
   have e3':(cond (decide (97<=(b.toNat:Int))) (some (decide ((b.toNat:Int)<=102))) (some false):O Bool)=some false:=by
    grind
   rw [e3',e3];simp only [aC,aS];by_cases h4:65<=(b.toNat:Int)/\(b.toNat:Int)<=70
   ·rw [dQ h4.1,dQ h4.2,Um _ om,bG (x:=(b.toNat:Int)-65) om,bG (x:=(b.toNat:Int)-65+10) om]
    grind
   grind
theorem afb{base:Int}(hb:1<=base)(b:UInt8):decide (cond (decide (base<=dR b)) (-1) (dR b)<0)=!(decide (0<=dR b)&&decide (dR b<base)):=by
 grind
theorem WC(base:Nat)(hb:1<=base/\base<=16):∀(l:Bs)(v:Nat),okD (base:Int) l=true->v<=9223372036854775808 ->
  ∃n e,pE (fun t (b:UInt8)=>cond (decide (IntKind.wrap .u64 (Int.tdiv (IntKind.wrap .u64 (9223372036854775808-(IntKind.wrap .u64 (dR b)))) (base:Int))<t)) (some (.inr ((0,14):Int×Int))) (some (.inl (IntKind.wrap .u64 ((IntKind.wrap .u64 (t*(base:Int)))+(IntKind.wrap .u64 (dR b)))))))
   (fun t=>some (t,0)) l (v:Int)=some (n,e)/\(cond (e==0&&decide (9223372036854775807<n)) 14 e=(pF base v l).2)/\((pF base v l).2=0->n=(pF base v l).1)
 | [],v,_,hv=>by
  refine⟨v,0,rfl,?_⟩;by_cases h:v<=9223372036854775807
  ·have:¬ 9223372036854775807<(v:Int):=om
   simp [pF,okD,qI,h,this]
  ·have:9223372036854775807<(v:Int):=om
   simp [pF,okD,qI,h,this]
 | b::l,v,ho,hv=>by
  have ho':(0<=dR b/\dR b<base)/\okD (base:Int) l=true:=by
   unfold okD at ho⊢
   simp_all
  obtain⟨⟨h0,h1⟩,h2⟩:=ho'
  have hm:((v*base+(dR b).toNat:Nat):Int)=(v:Int)*(base:Int)+dR b:=by
   grind
  have e3:pF base v (b::l)=pF base (v*base+(dR b).toNat) l:=by
   unfold pF;rw [ho,h2];rfl
  simp [pE];rw [oY (dR b) om,oY (9223372036854775808-dR b) om,adm _ _ om];by_cases hx:(9223372036854775808-dR b) / (base:Int)<(v:Int)
  ·refine⟨0,14,?_,?_⟩
   ·rw [dQ hx];rfl
   ·rw [div_lt om om om] at hx
    have hge:=Vc base hb.1 l (v*base+(dR b).toNat);have:¬ qI base (v*base+(dR b).toNat) l<=9223372036854775807:=om;rw [e3];simp [pF,h2,this]
  ·have hx':=hx
   rw [div_lt om om om] at hx';rw [sO hx,oY ((v:Int)*(base:Int)) om,oY ((v:Int)*(base:Int)+dR b) om,e3,<-hm];exact WC base hb l _ h2 om
def jF(s:Bs):Nat×Bs:=
 cond (decide (2<(s.length:Int))&&((((s.getD 0 0).toNat:Int)==48)&&((((s.getD 1 0).toNat:Int)==120)||(((s.getD 1 0).toNat:Int)==88)))) (16,s.drop 2) (cond (decide (1<(s.length:Int))&&(((s.getD 0 0).toNat:Int)==48)) (8,s.drop 1) (10,s))
theorem agY(base:Nat)(h:1<=base)(t:Bs):pF base 0 (48::t)=pF base 0 t:=by
 have e1:okD (base:Int) (48::t)=okD (base:Int) t:=by
  unfold okD;rw [RG,show dR 48=0 from rfl,dQ om,dQ om];rfl
 have e2:qI base 0 (48::t)=qI base 0 t:=by
  unfold qI;rw [Dk,show dR 48=0 from rfl];simp
 unfold pF;rw [e1,e2]
theorem ofNat_eq{b:UInt8}{n:Nat}(hn:n<256)(h:((b.toNat:Int)==(n:Int))=true):b=UInt8.ofNat n:=by
 have:b.toNat=n:=by
  grind
 rw [<-this];simp
theorem agZ(s:Bs)(h0:s≠[]):nS s=cond ((jF s).2==[]) (0,6) (pF (jF s).1 0 (jF s).2):=by
 match s,h0 with
 | [a],_=>
  unfold nS qp jF;have p1:([48,120]:Bs).isPrefixOf [a]=false:=by simp [List.isPrefixOf]
  have p2:([48,88]:Bs).isPrefixOf [a]=false:=by simp [List.isPrefixOf]
  rw [p1,p2]
  cases ha:((([a].getD 0 0).toNat:Int)==48) with
  | false=>rfl
  | true=>
   obtain rfl:=ofNat_eq de ha
   rfl
 | a::b::t,_=>
  unfold nS qp jF;simp
  have p1:([48,120]:Bs).isPrefixOf (a::b::t)=(((a.toNat:Int)==48)&&((b.toNat:Int)==120)):=by
   rw [sN];simp;constructor
   ·rintro⟨rfl,rfl⟩;exact⟨rfl,rfl⟩
   ·rintro⟨h1,h2⟩
    exact⟨(ofNat_eq de (by simpa using h1)).symm,(ofNat_eq de (by simpa using h2)).symm⟩
  have p2:([48,88]:Bs).isPrefixOf (a::b::t)=(((a.toNat:Int)==48)&&((b.toNat:Int)==88)):=by
   rw [sN];simp;constructor
   ·rintro⟨rfl,rfl⟩;exact⟨rfl,rfl⟩
   ·rintro⟨h1,h2⟩
    exact⟨(ofNat_eq de (by simpa using h1)).symm,(ofNat_eq de (by simpa using h2)).symm⟩
  rw [p1,p2];have hl1:decide (1<((a::b::t).length:Int))=true:=by simp;omega
  cases ha:((a.toNat:Int)==48) with
  | false=>simp
  | true=>
   obtain rfl:=ofNat_eq de ha;simp
   cases hx:(((b.toNat:Int)==120)||((b.toNat:Int)==88)) with
   | false=>
    simp_all [Uk,aS,agY]
   | true=>
    cases t with
    | nil=>
     simp only [Qu] at hx;rcases hx with hx|hx
     ·obtain rfl:=ofNat_eq de hx;rfl
     ·obtain rfl:=ofNat_eq de hx;rfl
    | cons c t=>
     grind
theorem aat(F:Nat)(s:Bs)(h0:s≠[])(hF:s.length<F)(hl:s.length<=1000000):
  ∃n e,ld F s=some (n,e)/\(cond (e==0&&decide (9223372036854775807<n)) 14 e=(nS s).2)/\((nS s).2=0->n=(nS s).1):=by
 have hpos:0<s.length:=zb.2 h0
 have hb:(1<=(jF s).1/\(jF s).1<=16)/\(jF s).2.length<=s.length:=by
  unfold jF
  grind
 rw [agZ s h0];unfold ld
 have SK:((cond (decide (2<(s.length:Int)))
   (rq (decide (0<(s.length:Int))) (some (((s.getD 0 0).toNat:Int)==48)))
   (some false):O Bool).bind fun x2=>
   (cond x2
   (rq (decide (1<(s.length:Int))) (cond (((s.getD 1 0).toNat:Int)==120)
   (some true)
   (rq (decide (1<(s.length:Int))) (some (((s.getD 1 0).toNat:Int)==88)))))
   (some false):O Bool).bind fun x3=>
   cond x3
   (rq ((decide (2<=(s.length:Int)))&&(decide ((s.length:Int)<=(s.length:Int)))) (some (sl s 2 (s.length:Int),(16:Int))))
   ((cond (decide (1<(s.length:Int)))
   (rq (decide (0<(s.length:Int))) (some (((s.getD 0 0).toNat:Int)==48)))
   (some false):O Bool).bind fun x4=>
   cond x4
   (rq ((decide (1<=(s.length:Int)))&&(decide ((s.length:Int)<=(s.length:Int)))) (some (sl s 1 (s.length:Int),8)))
   (some (s,10))):O (Bs×Int))=some ((jF s).2,((jF s).1:Int)):=by
  have s2:sl s 2 (s.length:Int)=s.drop 2:=by unfold sl;simp
  have s1:sl s 1 (s.length:Int)=s.drop 1:=by unfold sl;simp
  rw [show decide (0<(s.length:Int))=true from dQ om,show decide (1<=(s.length:Int))=true from dQ om,show decide ((s.length:Int)<=(s.length:Int))=true from dQ om,s1,s2];unfold jF;by_cases h2:2<(s.length:Int)
  ·rw [dQ h2,show decide (1<(s.length:Int))=true from dQ om,show decide (2<=(s.length:Int))=true from dQ om]
   cases (((s.getD 0 0).toNat:Int)==48)<;>cases (((s.getD 1 0).toNat:Int)==120)<;>cases (((s.getD 1 0).toNat:Int)==88)<;>rfl
  ·rw [sO h2]
   cases decide (1<(s.length:Int))<;>cases (((s.getD 0 0).toNat:Int)==48)<;>rfl
 rw [SK];simp only [aC];obtain⟨hb,hlen⟩:=hb;generalize (jF s).2=l at hlen⊢;generalize (jF s).1=base at hb⊢
 cases (l==[]) with
 | true=>grind
 | false=>
  simp only [aS]
  cases hok:okD (base:Int) l with
  | false=>
   refine⟨0,6,?_,?_⟩
   ·refine NY (l:=l) (p:=fun b=>decide (0<=dR b)&&decide (dR b<(base:Int))) (fun i=>(i:Int)) (fun i rc h=>?_) l.length 0 F om om (by rw [Ul];exact hok)
    simp only [wI h,AV,uM,bq,gz,bK,gd h,bh (i:=i) om,tZ,aC,afb (base:=(base:Int)) om]
    grind
   ·unfold pF
    simp_all
  | true=>
   obtain⟨n,e,h1,h2⟩:=WC base hb l 0 hok om;refine⟨n,e,?_,h2⟩;refine NU (fun i=>(i:Int)) l.length om rfl ?_ ?_
   ·intro i rc h
    have hi:(decide (0<=dR l[i])&&decide (dR l[i]<(base:Int)))=true:=by
     unfold okD at hok
     simp_all
    simp only [wI h,AV,uM,bq,gz,bK,gd h,bh (i:=i) om,tZ,aC,afb (base:=(base:Int)) om,hi];rfl
   ·intro rc
    simp only [Gd,aS];rw [<-h1];refine qv l (fun i (t:Int)=>(t,(i:Int))) _ _ om rfl ?_ ?_
    ·intro i h t rc
     have hi:(decide (0<=dR l[i])&&decide (dR l[i]<(base:Int)))=true:=by
      unfold okD at hok
      simp_all
     have hw:IntKind.wrap .u64 (base:Int)=(base:Int):=oY (base:Int) om;have hz:(!((base:Int)==0))=true:=by simp;omega
     have hv:cond (decide ((base:Int)<=dR l[i])) (-1) (dR l[i])=dR l[i]:=by
      grind
     simp only [wI h,AV,uM,bq,gz,bK,gd h,bh (i:=i) om,tZ,aC,hw,hz,hv];generalize decide (IntKind.wrap .u64 (Int.tdiv (IntKind.wrap .u64 (9223372036854775808-(IntKind.wrap .u64 (dR l[i])))) (base:Int))<t)=c;cases c<;>rfl
    simp_all
end Go.Proofs.YthmndfnkdgmenaaGreatDoor.K
namespace Go.Proofs.YthmndfnkdgmenaaGreatDoor.K
open Go.RT
set_option maxRecDepth 100000
def p5(base v:Nat)(l:Bs):Int×Int:=cond (okD (base:Int) l) (cond (decide (qI base v l<=9223372036854775808)) ((qI base v l:Int),0) (0,14)) (0,6)
def q8(s:Bs):Nat×Bs:=
 cond ((([48,120]:Bs).isPrefixOf s)||(([48,88]:Bs).isPrefixOf s)) (16,s.drop 2) (cond (([48]:Bs).isPrefixOf s) (8,s) (10,s))
def nT(s:Bs):Int×Int:=cond ((q8 s).2==[]) (0,6) (p5 (q8 s).1 0 (q8 s).2)
def dC(b:UInt8):Int:=cond (decide (0<=dR b)) (dR b) 16
theorem ag0(F:Nat)(b:UInt8):EH F (b.toNat:Int)=some (dC b):=by
 unfold EH dC dR dg fL;by_cases h1:48<=(b.toNat:Int)/\(b.toNat:Int)<=57
 ·rw [dQ h1.2,Um ((b.toNat:Int)-48) om,oY ((b.toNat:Int)-48) om]
  simp_all
 ·have e1:(decide (48<=(b.toNat:Int))&&decide ((b.toNat:Int)<=57))=false:=by
   simp_all
  have Y9:(cond (decide (48<=(b.toNat:Int))) (some (decide ((b.toNat:Int)<=57))) (some false):O Bool)=some false:=by
   grind
  by_cases h3:97<=(b.toNat:Int)/\(b.toNat:Int)<=102
  ·rw [dQ h3.2,Um ((b.toNat:Int)-97) om,oY ((b.toNat:Int)-97) om,oY ((b.toNat:Int)-97+10) om]
   grind
  ·have e3:(decide (97<=(b.toNat:Int))&&decide ((b.toNat:Int)<=102))=false:=by
    simp_all
   have e3':(cond (decide (97<=(b.toNat:Int))) (some (decide ((b.toNat:Int)<=102))) (some false):O Bool)=some false:=by
    grind
   by_cases h4:65<=(b.toNat:Int)/\(b.toNat:Int)<=70
   ·rw [dQ h4.2,Um ((b.toNat:Int)-65) om,oY ((b.toNat:Int)-65) om,oY ((b.toNat:Int)-65+10) om]
    grind
   grind
theorem Pf(base:Nat)(hb:1<=base/\base<=16):∀(l:Bs)(n:Int)(Gg:Bool)(v:Nat),(Gg=false->n=(v:Int)/\v<=9223372036854775808)->(Gg=true->9223372036854775808<v) ->
  pE (fun t (b:UInt8)=>cond (decide ((base:Int)<=dC b)) (some (.inr ((0,6):Int×Int))) (cond (t.2||decide (IntKind.wrap .u64 (Int.tdiv (IntKind.wrap .u64 (9223372036854775808-dC b)) (base:Int))<t.1)) (some (.inl (t.1,true))) (some (.inl (IntKind.wrap .u64 ((IntKind.wrap .u64 (t.1*(base:Int)))+dC b),t.2)))))
   (fun t=>cond t.2 (some (0,14)) (some (t.1,0))) l (n,Gg)=some (p5 base v l)
 | [],n,Gg,v,h1,h2=>by
  cases Gg with
  | false=>
   obtain⟨rfl,h⟩:=h1 rfl
   simp [pE,p5,okD,qI,h]
  | true=>
   have h3:¬ v<=9223372036854775808:=by have:=h2 rfl;omega
   simp [pE,p5,okD,qI,h3]
 | b::l,n,Gg,v,h1,h2=>by
  simp [pE];by_cases hbad:dR b<0\/(base:Int)<=dR b
  ·have e1:decide ((base:Int)<=dC b)=true:=by
    unfold dC
    grind
   have e2:okD (base:Int) (b::l)=false:=by
    unfold okD
    grind
   rw [e1];simp [p5,e2,sm]
  ·have hdc:dC b=dR b:=by unfold dC;simp_all
   have e1:decide ((base:Int)<=dC b)=false:=by simp_all
   have e2:okD (base:Int) (b::l)=okD (base:Int) l:=by
    unfold okD
    simp_all
   have e3:p5 base v (b::l)=p5 base (v*base+(dR b).toNat) l:=by
    unfold p5;rw [e2];rfl
   rw [e1,e3,hdc]
   have hm:((v*base+(dR b).toNat:Nat):Int)=(v:Int)*(base:Int)+dR b:=by
    grind
   have hvb:=adl v hb.1
   cases Gg with
   | true=>
    have:=h2 rfl
    exact Pf base hb l n true _ (fun h=>by cases h) fun _=>by omega
   | false=>
    obtain⟨rfl,hv⟩:=h1 rfl;rw [oY (9223372036854775808-dR b) om,adm _ _ om];by_cases hx:(9223372036854775808-dR b) / (base:Int)<(v:Int)
    ·rw [dQ hx]
     rw [div_lt om om om] at hx;exact Pf base hb l v true _ (fun h=>by cases h) fun _=>by omega
    ·rw [sO hx]
     rw [div_lt om om om] at hx;rw [oY ((v:Int)*(base:Int)) om,oY ((v:Int)*(base:Int)+dR b) om];exact Pf base hb l _ false _ (fun _=>⟨hm.symm,om⟩) fun h=>by cases h
theorem aau(s:Bs):(1<=(q8 s).1/\(q8 s).1<=16)/\(q8 s).2.length<=s.length:=by
 unfold q8
 grind
theorem anf(F:Nat)(s:Bs)(hF:s.length<F)(hl:s.length<=1000000):wk F s=some (nT s):=by
 obtain⟨hb,hlen⟩:=aau s
 have e1:((cW F s ([48,120]:Bs)).bind fun x3=>cond x3 (some true) ((cW F s ([48,88]:Bs)).bind fun x4=>some x4):O Bool)=some (([48,120]:Bs).isPrefixOf s||([48,88]:Bs).isPrefixOf s):=by
  grind [Ab]
 have AR:(cond (([48,120]:Bs).isPrefixOf s||([48,88]:Bs).isPrefixOf s)
   (rq ((decide (2<=(s.length:Int)))&&(decide ((s.length:Int)<=(s.length:Int)))) (some ((16:Int),sl s 2 (s.length:Int))))
   ((cW F s ([48]:Bs)).bind fun x5=>cond x5 (some (8,s)) (some (10,s))):O (Int×Bs))=some (((q8 s).1:Int),(q8 s).2):=by
  unfold q8
  cases hp:(([48,120]:Bs).isPrefixOf s||([48,88]:Bs).isPrefixOf s) with
  | true=>
   rw [cD (by grind)];unfold sl
   simp
  | false=>
   simp [Ab]
   grind
 unfold wk;rw [e1];simp only [aC];rw [AR];simp only [aC];unfold nT;generalize (q8 s).2=l at hlen⊢;generalize (q8 s).1=base at hb⊢
 cases (l==[]) with
 | true=>rfl
 | false=>
  rw [qv l (fun i (t:Int×Bool)=>(t.1,t.2,(i:Int))) (fun t (b:UInt8)=>cond (decide ((base:Int)<=dC b)) (some (.inr ((0,6):Int×Int))) (cond (t.2||decide (IntKind.wrap .u64 (Int.tdiv (IntKind.wrap .u64 (9223372036854775808-dC b)) (base:Int))<t.1)) (some (.inl (t.1,true))) (some (.inl (IntKind.wrap .u64 ((IntKind.wrap .u64 (t.1*(base:Int)))+dC b),t.2)))))
    (fun t=>cond t.2 (some (0,14)) (some (t.1,0))) (t:=(0,false)) om ?_ ?_ ?_]
  ·grind [Pf]
  ·rfl
  ·intro i h t rc
   have hz:(!((base:Int)==0))=true:=by simp;omega
   simp only [wI h,bK,gd h,bh (i:=i) om,ag0,aC,hz];cases decide ((base:Int)<=dC l[i])<;>cases t.2<;>simp
   all_goals first|rfl|(generalize decide (IntKind.wrap .u64 (Int.tdiv (IntKind.wrap .u64 (9223372036854775808-dC l[i])) (base:Int))<t.1)=c;cases c<;>rfl)
  simp_all
theorem Tv(base:Nat)(hb:1<=base/\base<=16):∀(l:Bs)(v:Nat),okD (base:Int) l=true->v<=9223372036854775808 ->
  pE (fun t (b:UInt8)=>cond (decide (IntKind.wrap .u64 (Int.tdiv (IntKind.wrap .u64 (9223372036854775808-(IntKind.wrap .u64 (dR b)))) (base:Int))<t)) (some (.inr ((0,14):Int×Int))) (some (.inl (IntKind.wrap .u64 ((IntKind.wrap .u64 (t*(base:Int)))+(IntKind.wrap .u64 (dR b)))))))
   (fun t=>some (t,0)) l (v:Int)=some (p5 base v l)
 | [],v,_,hv=>by simp [pE,p5,okD,qI,hv]
 | b::l,v,ho,hv=>by
  have ho':(0<=dR b/\dR b<base)/\okD (base:Int) l=true:=by
   unfold okD at ho⊢
   simp_all
  obtain⟨⟨h0,h1⟩,h2⟩:=ho'
  have hm:((v*base+(dR b).toNat:Nat):Int)=(v:Int)*(base:Int)+dR b:=by
   grind
  have e3:p5 base v (b::l)=p5 base (v*base+(dR b).toNat) l:=by
   unfold p5;rw [ho,h2];rfl
  simp [pE];rw [oY (dR b) om,oY (9223372036854775808-dR b) om,adm _ _ om,e3];by_cases hx:(9223372036854775808-dR b) / (base:Int)<(v:Int)
  ·rw [dQ hx]
   rw [div_lt om om om] at hx;have hge:=Vc base hb.1 l (v*base+(dR b).toNat);have:¬ qI base (v*base+(dR b).toNat) l<=9223372036854775808:=om;simp [p5,h2,this,sm]
  ·have hx':=hx
   rw [div_lt om om om] at hx';rw [sO hx,oY ((v:Int)*(base:Int)) om,oY ((v:Int)*(base:Int)+dR b) om,<-hm];exact Tv base hb l _ h2 om
theorem ag1(base:Nat)(h:1<=base)(t:Bs):p5 base 0 (48::t)=p5 base 0 t:=by
 have e1:okD (base:Int) (48::t)=okD (base:Int) t:=by
  unfold okD;rw [RG,show dR 48=0 from rfl,dQ om,dQ om];rfl
 have e2:qI base 0 (48::t)=qI base 0 t:=by
  unfold qI;rw [Dk,show dR 48=0 from rfl];simp
 unfold p5;rw [e1,e2]
theorem afc(s:Bs)(h0:s≠[]):nT s=cond ((jF s).2==[]) (0,6) (p5 (jF s).1 0 (jF s).2):=by
 match s,h0 with
 | [a],_=>
  unfold nT q8 jF;have p1:([48,120]:Bs).isPrefixOf [a]=false:=by simp [List.isPrefixOf]
  have p2:([48,88]:Bs).isPrefixOf [a]=false:=by simp [List.isPrefixOf]
  rw [p1,p2]
  have p3:([48]:Bs).isPrefixOf [a]=((a.toNat:Int)==48):=by
   rw [sN];simp;constructor
   ·rintro rfl;rfl
   ·intro h;exact (ofNat_eq de (by simpa using h)).symm
  rw [p3]
  cases ha:((a.toNat:Int)==48) with
  | false=>rfl
  | true=>
   obtain rfl:=ofNat_eq de ha
   rfl
 | a::b::t,_=>
  unfold nT q8 jF;simp
  have p1:([48,120]:Bs).isPrefixOf (a::b::t)=(((a.toNat:Int)==48)&&((b.toNat:Int)==120)):=by
   rw [sN];simp;constructor
   ·rintro⟨rfl,rfl⟩;exact⟨rfl,rfl⟩
   ·rintro⟨h1,h2⟩
    exact⟨(ofNat_eq de (by simpa using h1)).symm,(ofNat_eq de (by simpa using h2)).symm⟩
  have p2:([48,88]:Bs).isPrefixOf (a::b::t)=(((a.toNat:Int)==48)&&((b.toNat:Int)==88)):=by
   rw [sN];simp;constructor
   ·rintro⟨rfl,rfl⟩;exact⟨rfl,rfl⟩
   ·rintro⟨h1,h2⟩
    exact⟨(ofNat_eq de (by simpa using h1)).symm,(ofNat_eq de (by simpa using h2)).symm⟩
  have p3:([48]:Bs).isPrefixOf (a::b::t)=((a.toNat:Int)==48):=by
   rw [sN];simp;constructor
   ·rintro rfl;rfl
   ·intro h;exact (ofNat_eq de (by simpa using h)).symm
  rw [p1,p2,p3];have hl1:decide (1<((a::b::t).length:Int))=true:=by simp;omega
  cases ha:((a.toNat:Int)==48) with
  | false=>simp
  | true=>
   obtain rfl:=ofNat_eq de ha;simp
   cases hx:(((b.toNat:Int)==120)||((b.toNat:Int)==88)) with
   | false=>
    simp_all [Uk,aS,ag1]
   | true=>
    cases t with
    | nil=>
     simp only [Qu] at hx;rcases hx with hx|hx
     ·obtain rfl:=ofNat_eq de hx;rfl
     ·obtain rfl:=ofNat_eq de hx;rfl
    | cons c t=>
     grind
theorem ag2(F:Nat)(s:Bs)(h0:s≠[])(hF:s.length<F)(hl:s.length<=1000000):
  ld F s=some (nT s):=by
 have hpos:=zb.2 h0
 have hb:(1<=(jF s).1/\(jF s).1<=16)/\(jF s).2.length<=s.length:=by
  unfold jF
  grind
 rw [afc s h0];unfold ld
 have SK:((cond (decide (2<(s.length:Int)))
   (rq (decide (0<(s.length:Int))) (some (((s.getD 0 0).toNat:Int)==48)))
   (some false):O Bool).bind fun x2=>
   (cond x2
   (rq (decide (1<(s.length:Int))) (cond (((s.getD 1 0).toNat:Int)==120)
   (some true)
   (rq (decide (1<(s.length:Int))) (some (((s.getD 1 0).toNat:Int)==88)))))
   (some false):O Bool).bind fun x3=>
   cond x3
   (rq ((decide (2<=(s.length:Int)))&&(decide ((s.length:Int)<=(s.length:Int)))) (some (sl s 2 (s.length:Int),(16:Int))))
   ((cond (decide (1<(s.length:Int)))
   (rq (decide (0<(s.length:Int))) (some (((s.getD 0 0).toNat:Int)==48)))
   (some false):O Bool).bind fun x4=>
   cond x4
   (rq ((decide (1<=(s.length:Int)))&&(decide ((s.length:Int)<=(s.length:Int)))) (some (sl s 1 (s.length:Int),8)))
   (some (s,10))):O (Bs×Int))=some ((jF s).2,((jF s).1:Int)):=by
  have s2:sl s 2 (s.length:Int)=s.drop 2:=by unfold sl;simp
  have s1:sl s 1 (s.length:Int)=s.drop 1:=by unfold sl;simp
  rw [show decide (0<(s.length:Int))=true from dQ om,show decide (1<=(s.length:Int))=true from dQ om,show decide ((s.length:Int)<=(s.length:Int))=true from dQ om,s1,s2];unfold jF;by_cases h2:2<(s.length:Int)
  ·rw [dQ h2,show decide (1<(s.length:Int))=true from dQ om,show decide (2<=(s.length:Int))=true from dQ om]
   cases (((s.getD 0 0).toNat:Int)==48)<;>cases (((s.getD 1 0).toNat:Int)==120)<;>cases (((s.getD 1 0).toNat:Int)==88)<;>rfl
  ·rw [sO h2]
   cases decide (1<(s.length:Int))<;>cases (((s.getD 0 0).toNat:Int)==48)<;>rfl
 rw [SK];simp only [aC];obtain⟨hb,hlen⟩:=hb;generalize (jF s).2=l at hlen⊢;generalize (jF s).1=base at hb⊢
 cases (l==[]) with
 | true=>rfl
 | false=>
  cases hok:okD (base:Int) l with
  | false=>
   have hr:p5 base 0 l=(0,6):=by unfold p5;rw [hok];rfl
   ·refine NY (l:=l) (fun i=>(i:Int)) (fun i rc h=>?_) l.length 0 F om om (by rw [Ul];exact hok)
    simp only [wI h,AV,uM,gz,gd h,bh (i:=i) om,tZ]
    grind
  | true=>
   have h1:=Tv base hb l 0 hok om;refine NU (fun i=>(i:Int)) l.length om rfl ?_ ?_
   ·intro i rc h
    have hi:(decide (0<=dR l[i])&&decide (dR l[i]<(base:Int)))=true:=by
     unfold okD at hok
     simp_all
    simp only [wI h,AV,gz,bK,gd h,bh (i:=i) om,tZ,aC,afb (base:=(base:Int)) om,hi];rfl
   ·intro rc
    simp only [Gd,aS];rw [<-h1];refine qv l (fun i (t:Int)=>(t,(i:Int))) _ _ om rfl ?_ ?_
    ·intro i h t rc
     have hi:(decide (0<=dR l[i])&&decide (dR l[i]<(base:Int)))=true:=by
      unfold okD at hok
      simp_all
     have hw:=oY (base:Int) om;have hz:(!((base:Int)==0))=true:=by simp;omega
     have hv:cond (decide ((base:Int)<=dR l[i])) (-1) (dR l[i])=dR l[i]:=by
      grind
     simp only [wI h,AV,gz,bK,gd h,bh (i:=i) om,tZ,aC,hw,hz,hv];generalize decide (IntKind.wrap .u64 (Int.tdiv (IntKind.wrap .u64 (9223372036854775808-(IntKind.wrap .u64 (dR l[i])))) (base:Int))<t)=c;cases c<;>rfl
    simp_all
theorem aoH(b:UInt8)(h:dg b=false):dR b<0\/10<=dR b:=by
 unfold dR
 grind
theorem ai3(b:UInt8)(t:Bs)(h:dg b=false):nT (b::t)=(0,6):=by
 have hne:((48:UInt8)==b)=false:=by
  rw [gN];intro e;subst e;exact absurd h de
 unfold nT q8;have p1:([48,120]:Bs).isPrefixOf (b::t)=false:=by grind
 have p2:([48,88]:Bs).isPrefixOf (b::t)=false:=by grind
 have p3:([48]:Bs).isPrefixOf (b::t)=false:=by grind
 rw [p1,p2,p3];simp
 have ho:okD ((10:Nat):Int) (b::t)=false:=by
  unfold okD;rw [RG,adk];rw [adk]
  simp_all [aoH]
 unfold p5;rw [ho];rfl
theorem ag3(F:Nat)(s:Bs)(hF:s.length<F)(hl:s.length<=1000000):wz F s=some (nT s):=by
 unfold wz
 cases s with
 | nil=>rfl
 | cons b t=>
  have hp:decide (0<((b::t).length:Int))=true:=dQ (by simp_all);have hne:((b::t)==[])=false:=rfl;rw [ag2 F (b::t) si hF hl];simp [hne,gz]
  cases hd:dg b with
  | true=>
   unfold dg fL at hd
   grind
  | false=>
   grind [ai3,Bool.and_eq_false_iff,decide_eq_false_iff_not,decide_eq_true,decide_eq_false]
theorem afd(s:Bs):((nT s).2=0/\0<=(nT s).1/\(nT s).1<=9223372036854775808)\/(nT s).2=6\/(nT s).2=14:=by
 unfold nT
 cases ((q8 s).2==[]) with
 | true=>exact .inr (.inl rfl)
 | false=>
  unfold p5
  grind
end Go.Proofs.YthmndfnkdgmenaaGreatDoor.K
namespace Go.Proofs.YthmndfnkdgmenaaGreatDoor.K
open Go.RT
set_option maxRecDepth 100000
abbrev Env:=J (Bs×Bs)
def Bk(m:Env)(k:Bs):cw:=⟨k,fQ cK m k []⟩
def sI(m:Env):J cw:=(qY (m.map (·.1))).map (Bk m)
def Nd(m:Env):Prop:=(m.map (·.1)).Nodup
def PU(l:J cw):Prop:=l.Pairwise fun x y=>x.fName<y.fName
theorem Ve{m:Env}(h:Nd m):PU (sI m):=List.pairwise_map.2 ((agP h).imp fun h=>h)
theorem BZ(m:Env)(x:cw):x∈sI m↔∃k,k∈m.map (·.1)/\x=Bk m k:=by
 unfold sI
 grind [z8]
theorem Vf(m:Env):(sI m).length=m.length:=by
 unfold sI;rw [wU,(z8 _).length_eq,wU]
def vr(k v:Bs):J cw->Bool->J cw
 | [],put=>cond put [] [⟨k,v⟩]
 | x::l,put=>cond (!put && !(Op.bytesLess x.fName k)) [⟨k,v⟩] []++(cond (x.fName==k) [] [x]++vr k v l (put || !(Op.bytesLess x.fName k)))
def Pg(k v:Bs)(t:J cw×Bool)(x:cw):J cw×Bool:=
 (t.1++(cond (!t.2 && !(Op.bytesLess x.fName k)) [⟨k,v⟩] []++cond (x.fName==k) [] [x]),t.2 || !(Op.bytesLess x.fName k))
theorem Tw(k v:Bs):∀(l:J cw)(t:J cw×Bool),(l.foldl (Pg k v) t).1++cond (l.foldl (Pg k v) t).2 [] [⟨k,v⟩]=t.1++vr k v l t.2
 | [],t=>rfl
 | x::l,t=>by
  rw [Dk,Tw k v l];simp [Pg,vr]
theorem bind_eq(F:Nat)(l:J cw)(k v:Bs)(hF:l.length<F)(hl:l.length<=1000000):Ad F l k v=some (vr k v l false):=by
 refine Cp l (fun i (t:J cw×Bool)=>(t.1,t.2,(i:Int))) (Pg k v) (fun i t=>t.1.length<=2*i) (t:=([],false)) hF rfl si ?_ ?_ ?_
 ·intro i h t rc hI
  simp only [wI h,AV,uM,gz,bK,gd h,bh (i:=i) om,Pg];rw [iB bE om]
  cases t.2<;>cases Op.bytesLess l[i].fName k<;>cases (l[i].fName==k)<;>
   simp only [bq,aS,aC,ku,uL,Qx,RL,XH,XN,adn,pY,FC]
  all_goals (try rw [iB bE om])
 ·simp [Pg]
  grind
 ·intro rc hI
  have hb:=Tw k v l ([],false);simp only [Gd,aS];rw [iB bE om]
  grind
theorem B0(k v:Bs):∀(l:J cw)(put:Bool)(x:cw),x∈vr k v l put↔(put=false/\x=⟨k,v⟩)\/(x∈l/\x.fName≠k)
 | [],put,x=>by cases put<;>simp [vr]
 | y::l,put,x=>by
  have e1:∀c:Bool,x∈(cond c [⟨k,v⟩] []:J cw)↔c=true/\x=⟨k,v⟩:=fun c=>by cases c<;>simp
  have e2:x∈(cond (y.fName==k) [] [y]:J cw)↔x=y/\y.fName≠k:=by
   cases h:(y.fName==k) with
   | true=>simp [eq_of_beq h]
   | false=>rw [gN] at h;simp [h]
  simp [vr,B0 k v l,e1,e2];constructor
  ·rintro (⟨h1,h2⟩|⟨rfl,h2⟩|⟨h1,h2⟩|⟨h1,h2⟩)
   ·left;exact⟨by cases put<;>simp_all,h2⟩
   ·right;exact⟨.inl rfl,h2⟩
   ·left;exact⟨by cases put<;>simp_all,h2⟩
   ·right;exact⟨.inr h1,h2⟩
  ·rintro (⟨rfl,h2⟩|⟨rfl|h1,h2⟩)
   ·cases Op.bytesLess y.fName k
    ·left;simp [h2]
    ·right;right;left;simp [h2]
   ·right;left;exact⟨rfl,h2⟩
   ·right;right;right;exact⟨h1,h2⟩
theorem Gh{k v:Bs}:∀ {l:J cw}{put:Bool},PU l->(put=true->∀x,x∈l->k<x.fName)->PU (vr k v l put)
 | [],put,_,_=>by cases put<;>simp [vr,PU]
 | y::l,put,h,hp=>by
  obtain⟨h1,h2⟩:=wV.1 h;unfold vr
  cases put with
  | true=>
   have hn:(y.fName==k)=false:=by grind
   simp [ku,hn];refine wV.2 ⟨fun x hx=>?_,Gh h2 fun _ x hx=>hp rfl x (pX _ hx)⟩
   simp_all [B0]
  | false=>
   rcases Tk y.fName k with hlt|he|hgt
   ·have e1:=(Kn _ _).2 hlt
    have hn:(y.fName==k)=false:=by grind
    simp [e1,hn];refine wV.2 ⟨fun x hx=>?_,Gh h2 fun e=>by cases e⟩
    grind [B0]
   ·have e1:Op.bytesLess y.fName k=false:=(CK _ _).2 (by simp_all)
    have hn:(y.fName==k)=true:=by rw [uh];exact he
    simp [e1,hn];refine wV.2 ⟨fun x hx=>?_,Gh h2 fun _ x hx=>by simp_all⟩
    simp_all [B0]
   ·have e1:=(CK _ _).2 fun h'=>lJ _ (qo h' hgt)
    have hn:(y.fName==k)=false:=by grind
    simp [e1,hn]
    have ff:∀x,x∈vr k v l true->y.fName<x.fName:=fun x hx=>by
     simp_all [B0]
    refine wV.2 ⟨fun x hx=>?_,wV.2 ⟨ff,Gh h2 fun _ x hx=>qo hgt (h1 x hx)⟩⟩
    grind
theorem acQ{m:Env}(h:Nd m)(k v:Bs):sI (jq cK m k v)=vr k v (sI m) false:=by
 refine Va (Ve (Tm h k v)) (Gh (Ve h) fun e=>by cases e) fun x=>?_;rw [B0,BZ,BZ];constructor
 ·rintro⟨q,hq,rfl⟩
  by_cases hk:q=k
  ·left
   unfold Bk
   simp_all [vm,FD]
  ·rcases (yh ..).1 hq with e|hq
   ·exact absurd e hk
   ·unfold Bk
    grind [vm,beq_eq_false_iff_ne]
 ·rintro (⟨_,rfl⟩|⟨⟨q,hq,rfl⟩,hk⟩)
  ·refine⟨k,(yh ..).2 (.inl rfl),?_⟩
   unfold Bk
   simp_all [vm,FD]
  ·have hk:¬ q=k:=hk
   refine⟨q,(yh ..).2 (.inr hq),?_⟩;unfold Bk
   grind [vm,beq_eq_false_iff_ne]
def Yl(l:J cw)(k:Bs):Bs:=match l.reverse.find? (fun x=>x.fName==k) with|some x=>x.bL|none=>[]
theorem aav(k:Bs):∀l:J cw,pE (fun _ (x:cw)=>cond (x.fName==k) (some (.inr x.bL)) (some (.inl ()))) (fun _=>some []) l ()=some (match l.find? (fun x=>x.fName==k) with|some x=>x.bL|none=>[])
 | []=>rfl
 | x::l=>by
  simp [pE,MA];cases (x.fName==k)
  ·exact aav k l
  ·rfl
theorem NZ(F:Nat)(l:J cw)(k:Bs)(hF:l.length<F)(hl:l.length<=1000000):pG F l k=some (Yl l k):=by
 unfold pG Yl;rw [<-aav];refine qv l.reverse (fun i (_:Unit)=>((l.length:Int)-1-(i:Int))) _ _ (by simpa using hF) ?_ ?_ ?_
 ·grind [bG]
 ·intro i h t rc
  have hi:i<l.length:=by simpa using h
  have e:(l.length:Int)-1-(i:Int)=((l.length-1-i:Nat):Int):=om;have hj:l.length-1-i<l.length:=om;have hw:aB (((l.length-1-i:Nat):Int)-1)=(l.length:Int)-1-((i+1:Nat):Int):=by grind [bG]
  simp only [e,wI hj,bK,gd hj,hw,List.getElem_reverse];cases (l[l.length-1-i].fName==k)<;>rfl
 grind
theorem N0(m:Env)(k:Bs):Yl (sI m) k=fQ cK m k []:=by
 unfold Yl
 cases h:(sI m).reverse.find? (fun x=>x.fName==k) with
 | some x=>
  have h1:=RI h;have h2:=XI h;rw [List.mem_reverse,BZ] at h1;obtain⟨q,hq,rfl⟩:=h1;have:q=k:=by simpa [Bk] using h2
  subst this
  rfl
 | none=>
  rcases KW m k ([]:Bs) with⟨p,hp,h1,h2⟩|⟨_,h2⟩
  ·have:=List.find?_eq_none.1 h (Bk m k) (by grind [BZ])
   simp [Bk] at this
  ·exact h2.symm
structure Eo(c:Nat)(m:Env):Prop where
 nd:Nd m
 len:m.length<=c
 sz:∀p,p∈m->p.1.length<=60/\p.2.length<=4096
theorem Eo.mono{c d:Nat}{m:Env}(h:Eo c m)(hd:c<=d):Eo d m:=⟨h.nd,nH h.len hd,h.sz⟩
theorem Eo.set{c:Nat}{m:Env}(h:Eo c m){k v:Bs}(hk:k.length<=60)(hv:v.length<=4096):Eo (c+1) (jq cK m k v):=
 ⟨Tm h.nd k v,nH (aiR m k v) (by have:=h.len;omega),fun p hp=>by
  rcases Rc hp with rfl|hp
  ·exact⟨hk,hv⟩
  ·exact h.sz p hp⟩
theorem Eo.get{c:Nat}{m:Env}(h:Eo c m)(k:Bs):(fQ cK m k []).length<=4096:=by
 rcases KW m k ([]:Bs) with⟨p,hp,_,h2⟩|⟨_,h2⟩
 ·rw [<-h2];exact (h.sz p hp).2
 ·rw [h2];simp
def tg(l:J cw):Env:=l.foldl (fun m b=>jq cK m b.fName b.bL) []
theorem Rf{c:Nat}:∀(l:J cw)(m:Env),Eo c m->(∀b,b∈l->b.fName.length<=60/\b.bL.length<=4096) ->
  Eo (c+l.length) (l.foldl (fun m b=>jq cK m b.fName b.bL) m)/\sI (l.foldl (fun m b=>jq cK m b.fName b.bL) m)=l.foldl (fun o b=>vr b.fName b.bL o false) (sI m)
 | [],m,h,_=>⟨h,rfl⟩
 | b::l,m,h,hb=>by
  have h1:=h.set (hb b si).1 (hb b si).2;obtain⟨h2,h3⟩:=Rf l _ h1 fun b hm=>hb b (pX _ hm);refine⟨h2.mono bE,?_⟩;rw [Dk,Dk,h3,acQ h.nd]
theorem ag4:Eo 0 []:=⟨by simp [Nd],si,si⟩
theorem ale:sI []=[]:=by
 have:=z8 ([]:J Bs);simp at this;simp [sI,this]
theorem Gi{l:J cw}(h:∀b,b∈l->b.fName.length<=60/\b.bL.length<=4096):Eo l.length (tg l):=by
 have:=(Rf l [] ag4 h).1;rw [pW] at this;exact this
theorem aaw(k v:Bs):∀(l:J cw)(put:Bool),(vr k v l put).length<=l.length+cond put 0 1
 | [],put=>by cases put<;>simp [vr]
 | x::l,put=>by
  have h1:=aaw k v l (put || !(Op.bytesLess x.fName k));simp [vr];generalize Op.bytesLess x.fName k=b at h1⊢;cases put<;>cases b<;>cases (x.fName==k)<;>simp at h1⊢ <;> omega
theorem ag5(F:Nat)(l:J cw)(hF:l.length<F)(hl:l.length<=1000)(h:∀b,b∈l->b.fName.length<=60/\b.bL.length<=4096):Gj F l=some (sI (tg l)):=by
 refine Cp l (fun i (t:J cw)=>(t,(i:Int))) (fun o b=>vr b.fName b.bL o false) (fun i t=>t.length<=i) hF rfl si ?_ ?_ ?_
 ·intro i h t rc hI
  simp only [wI h,AV,uM,gz,bh (i:=i) om]
  grind [bind_eq]
 ·grind [aaw]
 ·intro rc hI
  simp;have:=(Rf l [] ag4 h).2;rw [ale] at this;unfold tg;rw [this]
theorem aoI{c:Nat}{m:Env}(h:Eo c m)(hc:c<=1000000)(F:Nat):skF F m=some (qY (m.map (·.1))):=by
 unfold skF;have h1:(m.all fun p=>decide (p.1.length<=9223372036854775807))=true:=oX.2 fun p hp=>dQ (by have:=(h.sz p hp).1;omega);rw [h1,dQ (by have:=h.len;omega)];rfl
end Go.Proofs.YthmndfnkdgmenaaGreatDoor.K
namespace Go.Proofs.YthmndfnkdgmenaaGreatDoor.K
open Go.RT
set_option maxRecDepth 100000
def gw(x:Int):Prop:=-9223372036854775808<=x/\x<=9223372036854775807
theorem rR(x:Int):gw (aB x):=by
 show gw (if (true&&decide (x%(2^64:Int)>=(2^63:Int)))=true then x%(2^64:Int)-(2^64:Int) else x%(2^64:Int));unfold gw
 grind
theorem akg(b:Int):mR .i64 b 63=b%64:=by
 rw [UM]
 have h:(BitVec.ofInt 64 b &&& BitVec.ofInt 64 63).toNat=(b%64).toNat:=by
  rw [BitVec.toNat_and];have h63:(BitVec.ofInt 64 63).toNat=2^6-1:=by decide
  rw [h63,Nat.and_two_pow_sub_one_eq_mod,BitVec.toNat_ofInt]
  grind
 show aB (((BitVec.ofInt 64 b &&& BitVec.ofInt 64 63).toNat:Nat):Int)=_
 grind [bG]
theorem not_eq{a:Int}(h:gw a):UL .i64 a=aB ((aB (0-a))-1):=by
 unfold gw at h
 have h1:(BitVec.ofInt 64 (-1) ^^^ BitVec.ofInt 64 a) = ~~~ BitVec.ofInt 64 a:=by
  rw [show BitVec.ofInt 64 (-1)=BitVec.allOnes 64 from rfl,BitVec.allOnes_xor]
 rw [UN];show aB (((BitVec.ofInt 64 (-1) ^^^ BitVec.ofInt 64 a).toNat:Nat):Int)=_;rw [h1,BitVec.toNat_not,BitVec.toNat_ofInt];by_cases h0:a=-9223372036854775808
 ·subst h0;decide
 ·rw [bG (x:=0-a) om,bG (x:=0-a-1) om]
  by_cases hn:0<=a
  ·have e1:a%((2^64:Nat):Int)=a:=Int.emod_eq_of_lt hn om
   rw [e1];have e2:((2^64-1-a.toNat:Nat):Int)=18446744073709551615-a:=om;rw [e2];unfold aB IntKind.wrap;have e3:(18446744073709551615-a)%(2^IntKind.i64.bits:Int)=18446744073709551615-a:=Int.emod_eq_of_lt om (by show _<(18446744073709551616:Int);omega);simp only [e3];show (if (true&&decide ((18446744073709551615-a)>=(2^63:Int)))=true then (18446744073709551615-a)-(2^64:Int) else 18446744073709551615-a)=_
   grind
  grind [bG]
theorem ai4{a:Int}(b:Int)(h:gw a):gw (UJ .i64 a b):=by
 unfold gw at h⊢;rw [acw];generalize min b.toNat IntKind.i64.bits=k;have hp:(0:Int)<2^k:=Int.pow_pos de;rw [Int.fdiv_eq_ediv_of_nonneg _ om];by_cases h0:0<=a
 ·have h1:=Int.ediv_nonneg h0 (show (0:Int)<=2^k by omega)
  have h2:=Int.ediv_le_self (b:=2^k) h0;omega
 ·have h1:a<=a / 2^k:=by
   apply Int.le_ediv_of_mul_le hp;have:=Int.mul_le_mul_of_nonpos_left (a:=a) (b:=2^k) (c:=1) om om;omega
  have h2:a / 2^k<0:=Int.ediv_neg_of_neg_of_pos om hp;omega
theorem ai5{a:Int}(b:Int)(h:gw a):gw (Int.tmod a b):=by
 unfold gw at h⊢;by_cases h0:0<=a
 ·have h2:(Int.tmod a b).natAbs<=a.natAbs:=by simp_all [Int.natAbs_tmod,Nat.mod_le]
  omega
 ·have h1:Int.tmod a b=- Int.tmod (-a) b:=by rw [Int.neg_tmod];omega
  have h3:=Int.tmod_nonneg (a:=-a) b om;have h2:(Int.tmod (-a) b).natAbs<=(-a).natAbs:=by simp_all [Int.natAbs_tmod,Nat.mod_le]
  omega
def tr(b:Bool):Int:=cond b 1 0
theorem ag6(b:Bool):gw (tr b):=by cases b<;>simp [tr,gw]
theorem LK(F:Nat)(b:Bool):wA F b=some (tr b):=by cases b<;>rfl
theorem Ae(F:Nat)(b:Bool):xL F b=some (tr b):=by cases b<;>rfl
def cUn(op a:Int):Int:=cond (op==3) (aB (0-a)) (cond (op==5) (tr (a==0)) (cond (op==6) (UL .i64 a) a))
def aax(op a b:Int):Bool:=cond (op==14) (decide (a<b)) (cond (op==15) (decide (b<a)) (cond (op==16) (decide (a<=b)) (cond (op==17) (decide (b<=a)) (cond (op==18) (a==b) (a != b)))))
def th(op a b:Int):Int×Int:=
 cond (op==7) (aB (a*b),0) (cond (op==8||op==9) (cond (b==0) (0,13) (cond (op==8) (aB (Int.tdiv a b),0) (Int.tmod a b,0)))
  (cond (op==10) (aB (a+b),0) (cond (op==11) (aB (a-b),0) (cond (op==12) (Y2 .i64 a (mR .i64 b 63),0) (cond (op==13) (UJ .i64 a (mR .i64 b 63),0)
   (cond (op==20) (mR .i64 a b,0) (cond (op==21) (QS .i64 a b,0) (cond (op==22) (P8 .i64 a b,0) (cond (op==23) (tr (a != 0&&b != 0),0) (cond (op==24) (tr (a != 0||b != 0),0) (tr (aax op a b),0)))))))))))
theorem ai6(a:Int):gw (UL .i64 a):=by rw [UN];exact rR _
theorem ai7(a b:Int):gw (mR .i64 a b):=by rw [UM];exact rR _
theorem alf(a b:Int):gw (P8 .i64 a b):=by rw [agj];exact rR _
theorem ai8(a b:Int):gw (QS .i64 a b):=by rw [acy];exact rR _
theorem alg(op:Int){a:Int}(h:gw a):gw (cUn op a):=by
 unfold cUn
 grind [rR,ag6,ai6]
theorem KZ(op:Int){a b:Int}(h:gw a)(h':gw b):gw (th op a b).1:=by
 unfold th
 cases (op==7) with
 | true=>exact rR _
 | false=>
 cases (op==8||op==9) with
 | true=>
  grind [rR,ai5]
 | false=>
 cases (op==10) with
 | true=>exact rR _
 | false=>
 cases (op==11) with
 | true=>exact rR _
 | false=>
 cases (op==12) with
 | true=>exact rR _
 | false=>
 grind [ai4,ai7,ai8,alf,ag6]
theorem aay(b:Int):decide (0<=mR .i64 b 63)=true:=dQ (by rw [akg];omega)
theorem alh(b:Int):IntKind.wrap .u64 (mR .i64 b 63)=mR .i64 b 63:=oY _ (by rw [akg];omega)
theorem afe(F:Nat)(op a b:Int):Af F op a b=some (aax op a b):=by
 unfold Af aax
 grind
theorem ai9(F:Nat)(op a b:Int):Ct F op a b=some (aax op a b):=by
 unfold Ct aax
 grind
theorem aja(F:Nat)(op a:Int):EI F op a=some (cUn op a):=by
 unfold EI cUn
 grind [LK]
theorem ang(F:Nat)(op:Int){a:Int}(h:gw a):HQ F op a=some (cUn op a):=by
 unfold HQ cUn
 grind [Ae,not_eq]
theorem WD(F:Nat)(op a b:Int):ua F op a b=some (th op a b):=by
 unfold ua th;simp [LK,afe,aay,gz]
 cases h7:(op==7) with
 | true=>rfl
 | false=>
 cases h8:(op==8) with
 | true=>simp;cases hb:(b==0)<;>rfl
 | false=>
 cases h9:(op==9) with
 | true=>simp;cases hb:(b==0)<;>rfl
 | false=>
 grind
theorem ag7(F:Nat)(op a b:Int)(h:op≠23)(h':op≠24):CZ F op a b=some (th op a b):=by
 have e1:(op==23)=false:=by simp_all
 have e2:(op==24)=false:=by simp_all
 unfold CZ th;simp [Ae,ai9,alh,aay,gz];by_cases k7:op=7
 ·subst k7;rfl
 have h7:(op==7)=false:=by simp_all
 rw [h7]
 cases h8:(op==8) with
 | true=>simp;cases hb:(b==0)<;>rfl
 | false=>
 cases h9:(op==9) with
 | true=>simp;cases hb:(b==0)<;>rfl
 | false=>
 grind
def pS(s:Bs):Bs:=cond ((((s.getD 0 0).toNat:Int)==45)||(((s.getD 0 0).toNat:Int)==43)) (s.drop 1) s
def tj(s:Bs):Int×Bool:=
 cond (s==[]) (0,true) (cond ((nT (pS s)).2 != 0||((nT (pS s)).1==9223372036854775808 && !(((s.getD 0 0).toNat:Int)==45))) (0,false)
  (cond (((s.getD 0 0).toNat:Int)==45) (aB (IntKind.wrap .u64 (0-(nT (pS s)).1)),true) (aB (nT (pS s)).1,true)))
theorem K1(s:Bs):gw (tj s).1:=by
 unfold tj;cases (s==[])<;>cases ((nT (pS s)).2 != 0||((nT (pS s)).1==9223372036854775808 && !(((s.getD 0 0).toNat:Int)==45)))<;>cases (((s.getD 0 0).toNat:Int)==45)<;>first|exact rR _|exact (show gw 0 by unfold gw;decide)
theorem aaz(s:Bs):(pS s).length<=s.length:=by
 unfold pS
 grind
theorem aff(F:Nat)(s:Bs)(hF:s.length<F)(hl:s.length<=1000000):Ag F s=some (tj s):=by
 unfold Ag tj
 cases hs:(s==[]) with
 | true=>rfl
 | false=>
  have hp:0<s.length:=by
   grind
  have e0:decide (0<(s.length:Int))=true:=dQ om;have e1:(decide (1<=(s.length:Int))&&decide ((s.length:Int)<=(s.length:Int)))=true:=by grind
  have e2:sl s 1 (s.length:Int)=s.drop 1:=by unfold sl;simp
  have et:((cond (((s.getD 0 0).toNat:Int)==45) (some true) (some (((s.getD 0 0).toNat:Int)==43)):O Bool).bind fun x2=>cond x2 (some (s.drop 1)) (some s):O Bs)=some (pS s):=by
   unfold pS
   grind
  simp only [e0,e1,gz]
  grind [aaz,anf]
theorem WE(F:Nat)(s:Bs)(hF:s.length<F)(hl:s.length<=1000000):xM F s=some (tj s):=by
 unfold xM tj
 cases hs:(s==[]) with
 | true=>rfl
 | false=>
  have hp:0<s.length:=by
   grind
  have e0:decide (0<(s.length:Int))=true:=dQ om;have e1:(decide (1<=(s.length:Int))&&decide ((s.length:Int)<=(s.length:Int)))=true:=by grind
  have e2:sl s 1 (s.length:Int)=s.drop 1:=by unfold sl;simp
  have et:((cond (((s.getD 0 0).toNat:Int)==45) (some true) (some (((s.getD 0 0).toNat:Int)==43)):O Bool).bind fun x2=>cond x2 (some (s.drop 1)) (some s):O Bs)=some (pS s):=by
   unfold pS
   grind
  simp only [e0,e1,e2,gz,et,aC];have:=aaz s;rw [ag3 F (pS s) om om]
  have key:∀(neg:Bool),(cond ((nT (pS s)).2 != 0) true (decide ((cond neg 9223372036854775808 9223372036854775807:Int)<(nT (pS s)).1)))=((nT (pS s)).2 != 0||((nT (pS s)).1==9223372036854775808 && !neg)):=by
   intro neg;rcases afd (pS s) with⟨h,h0,h1⟩|h|h
   ·grind
   ·rw [h];rfl
   ·rw [h];rfl
  rw [<-key]
  grind
abbrev Rs:=Int×Int×Env
def N1(n:Int)(name:Bs)(x:Rs):Rs:=
 cond (n != 0)
  (cond (!(tj (fQ cK x.2.2 name [])).2) (0,1,x.2.2)
   (cond ((th n (tj (fQ cK x.2.2 name [])).1 x.1).2 != 0) (0,(th n (tj (fQ cK x.2.2 name [])).1 x.1).2,x.2.2)
    ((th n (tj (fQ cK x.2.2 name [])).1 x.1).1,0,jq cK x.2.2 name (Lib.itoa (th n (tj (fQ cK x.2.2 name [])).1 x.1).1))))
  (x.1,0,jq cK x.2.2 name (Lib.itoa x.1))
def IX(name:Bs)(m:Env):Rs:=cond (!(tj (fQ cK m name [])).2) (0,1,m) ((tj (fQ cK m name [])).1,0,m)
def aaA(op:Int)(x y:Rs):Rs:=cond (y.2.1 != 0) (0,y.2.1,y.2.2) ((th op x.1 y.1).1,(th op x.1 y.1).2,y.2.2)
def dK:Env->Rs:=fun m=>(0,0,m)
def evB(op n:Int)(name:Bs)(ks:J (Env->Rs))(m:Env):Rs:=
 cond (op==1) (n,0,m) (cond (op==2) (IX name m)
  (cond ((ks.getD 0 dK m).2.1 != 0) (0,(ks.getD 0 dK m).2.1,(ks.getD 0 dK m).2.2)
   (cond (op==26) (N1 n name (ks.getD 0 dK m))
    (cond (decide (3<=op)&&decide (op<=6)) (cUn op (ks.getD 0 dK m).1,0,(ks.getD 0 dK m).2.2)
     (cond (op==25) (cond ((ks.getD 0 dK m).1 != 0) (ks.getD 1 dK (ks.getD 0 dK m).2.2) (ks.getD 2 dK (ks.getD 0 dK m).2.2))
      (cond (op==23&&(ks.getD 0 dK m).1==0) (0,0,(ks.getD 0 dK m).2.2)
       (cond (op==24&&(ks.getD 0 dK m).1 != 0) (1,0,(ks.getD 0 dK m).2.2)
        (aaA op (ks.getD 0 dK m) (ks.getD 1 dK (ks.getD 0 dK m).2.2)))))))))
mutual
def kF:TExpr->Env->Rs
 | .mk op n name kids=>evB op n name (evL kids)
def evL:J TExpr->J (Env->Rs)
 | []=>[]
 | k::l=>kF k::evL l
end
theorem acR:∀l,evL l=l.map kF
 | []=>rfl
 | k::l=>by simp [evL,acR l]
theorem Tx(e:TExpr):kF e=evB e.fOp e.fN e.fName (e.fKids.map kF):=by cases e;rw [<-acR];rfl
theorem EJ(l:J TExpr)(i:Nat)(h:i<l.length):(l.map kF).getD i dK=kF (l.getD i dx):=by
 simp [h]
end Go.Proofs.YthmndfnkdgmenaaGreatDoor.K
namespace Go.Proofs.YthmndfnkdgmenaaGreatDoor.K
open Go.RT
set_option maxRecDepth 100000
theorem wB{n:Int}(h:gw n):(Lib.itoa n).length<=60:=by
 have key:∀(k u:Nat),u<10^(k+1)->(Lib.decDigits u).length<=k+1:=by
  intro k
  induction k with
  | zero=>
   intro u hu;rw [Lib.decDigits_one (by simpa using hu)]
   simp
  | succ k ih=>
   intro u hu;by_cases h9:u<10
   ·grind
   ·rw [Lib.decDigits.eq_1 u]
    grind
 unfold gw at h;unfold Lib.itoa;split
 ·have:=key 20 n.natAbs om
  simp;omega
 ·have:=key 20 n.toNat om
  omega
theorem aaB(F:Nat){n:Int}(h:gw n):oz F n=some (Lib.itoa n):=by
 unfold oz;unfold gw at h
 simp_all [cD,dQ]
theorem ab0(F:Nat)(hF:30<=F){n:Int}(h0:-9223372036854775808<=n)(h1:n<0):dB F n=some (Lib.itoa n):=by
 unfold dB vo;obtain⟨u,hu⟩:∃u:Nat,n=-(u:Int):=⟨(-n).toNat,om⟩;have e1:aB (0-aB (n+1))=(u:Int)-1:=by grind [bG]
 have e2:IntKind.wrap .u64 ((IntKind.wrap .u64 ((u:Int)-1))+1)=(u:Int):=by
  rw [oY ((u:Int)-1) om,oY _ om];omega
 simp only [e1,e2];rw [IW 20 u F [] om om om si];rw [hu,Lib.itoa_neg u om]
 have hl:(Lib.decDigits u).length<=60:=by
  have:=wB (n:=-(u:Int)) ⟨om,om⟩;rw [Lib.itoa_neg u om] at this;simp at this;omega
 grind [af7]
theorem JL(F:Nat)(hF:30<=F){n:Int}(h:gw n):dB F n=some (Lib.itoa n):=by
 by_cases h0:0<=n
 ·exact ae8 F hF h0 h.2
 ·exact ab0 F hF h.1 om
theorem Good.okn{e:TExpr}(g:Good e):gw e.fN:=by
 obtain⟨v,o,m⟩:=g
 cases o with
 | mk op n name kids a1 a2 a3 a4 a5=>exact anc a2
theorem Good.op{e:TExpr}(g:Good e):1<=e.fOp/\e.fOp<=26:=aiW g.facts.1
theorem Good.EK{e:TExpr}(g:Good e){i:Nat}(h:i<e.fKids.length):Good (e.fKids.getD i dx)/\e.fKids.getD i dx∈e.fKids:=by
 have hm:e.fKids.getD i dx∈e.fKids:=by simp [h]
 exact⟨g.kid _ hm,hm⟩
theorem aaC{e:TExpr}{i:Nat}(h:i<e.fKids.length):nodes (e.fKids.getD i dx)<nodes e:=by
 have hm:e.fKids.getD i dx∈e.fKids:=by simp [h]
 have:=HN hm;rw [Gf e];omega
theorem HR{l:J TExpr}{i j:Nat}(hij:i<j)(hj:j<l.length):nodes (l.getD i dx)+nodes (l.getD j dx)<=lK l:=by
 induction l generalizing i j with
 | nil=>simp at hj
 | cons k l ih=>
  cases j with
  | zero=>omega
  | succ j=>
   have hj':j<l.length:=by simpa using hj
   cases i with
   | zero=>
    have hm:l.getD j dx∈l:=by simp [hj']
    have:=HN hm;simp only [Un,List.getD_cons_succ,lK]
    omega
   | succ i=>
    have:=ih (i:=i) om hj';simp only [List.getD_cons_succ,lK];omega
theorem Good.shape{e:TExpr}(g:Good e):(e.fOp=1)\/(e.fOp=2)\/((3<=e.fOp/\e.fOp<=6)/\e.fKids.length=1)\/((7<=e.fOp/\e.fOp<=24)/\e.fKids.length=2)\/(e.fOp=25/\e.fKids.length=3)\/(e.fOp=26/\e.fKids.length=1):=by
 have h1:=g.facts.1;have h2:=g.op;rcases aiX h2 with h|h|h|h|h|h|h|h|h|h|h|h|h|h|h|h|h|h|h|h|h|h|h|h|h|h<;>rw [h] at h1<;>simp [oA] at h1<;>omega
theorem N3:∀e,Good e->∀c m,Eo c m->Eo (c+nodes e) (kF e m).2.2/\gw (kF e m).1:=by
 apply Good.ind;intro e g ih c m hm;have z:gw 0:=by unfold gw;decide
 have one:gw 1:=by unfold gw;decide
 have aoJ:=hm.mono (show c<=c+nodes e by omega);rw [Tx];unfold evB
 cases h1:(e.fOp==1) with
 | true=>exact⟨aoJ,g.okn⟩
 | false=>
 cases h2:(e.fOp==2) with
 | true=>
  unfold IX
  grind [fQ,cK,K1]
 | false=>
 simp only [gN] at h1 h2;have hl:0<e.fKids.length:=by rcases g.shape with h|h|h|h|h|h<;>omega
 obtain⟨g0,m0⟩:=g.EK hl;obtain⟨i1,i2⟩:=ih _ m0 c m hm;have n0:=aaC hl;rw [EJ _ 0 hl];generalize hx:kF (e.fKids.getD 0 dx) m=x at i1 i2⊢;have i1':=i1.mono (show c+nodes (e.fKids.getD 0 dx)<=c+nodes e by omega)
 cases (x.2.1 != 0) with
 | true=>exact⟨i1',z⟩
 | false=>
 cases HM:(e.fOp==26) with
 | true=>
  unfold N1;have hs:∀n:Int,gw n->Eo (c+nodes e) (jq cK x.2.2 e.fName (Lib.itoa n)):=fun n hn=>(i1.set g.facts.2.2.2.1 (nH (wB hn) de)).mono om
  cases (e.fN != 0) with
  | false=>exact⟨hs _ i2,i2⟩
  | true=>
   cases (!(tj (fQ cK x.2.2 e.fName [])).2) with
   | true=>exact⟨i1',z⟩
   | false=>
    have hr:=KZ e.fN (K1 (fQ cK x.2.2 e.fName [])) i2
    cases ((th e.fN (tj (fQ cK x.2.2 e.fName [])).1 x.1).2 != 0) with
    | true=>exact⟨i1',z⟩
    | false=>exact⟨hs _ hr,hr⟩
 | false=>
 simp only [gN] at HM
 cases Yt:(decide (3<=e.fOp)&&decide (e.fOp<=6)) with
 | true=>simp_all [alg]
 | false=>
 have ajb:¬ (3<=e.fOp/\e.fOp<=6):=by
  simp_all
 have hl1:1<e.fKids.length:=by rcases g.shape with h|h|h|h|h|h<;>omega
 obtain⟨g1,m1⟩:=g.EK hl1;obtain⟨j1,j2⟩:=ih _ m1 _ x.2.2 i1;have n01:=HR (l:=e.fKids) (i:=0) (j:=1) om hl1;rw [EJ _ 1 hl1];have j1':=j1.mono (show c+nodes (e.fKids.getD 0 dx)+nodes (e.fKids.getD 1 dx)<=c+nodes e by rw [Gf e];omega)
 cases WA:(e.fOp==25) with
 | true=>
  have anh:e.fOp=25:=by simpa using WA
  have hl2:2<e.fKids.length:=by rcases g.shape with h|h|h|h|h|h<;>omega
  obtain⟨g2,m2⟩:=g.EK hl2;obtain⟨k1,k2⟩:=ih _ m2 _ x.2.2 i1;have n02:=HR (l:=e.fKids) (i:=0) (j:=2) om hl2;rw [EJ _ 2 hl2]
  cases (x.1 != 0) with
  | true=>exact⟨j1',j2⟩
  | false=>exact⟨k1.mono (by rw [Gf e];omega),k2⟩
 | false=>
 cases (e.fOp==23&&x.1==0) with
 | true=>exact⟨i1',z⟩
 | false=>
 cases (e.fOp==24&&x.1 != 0) with
 | true=>exact⟨i1',one⟩
 | false=>
 unfold aaA
 cases ((kF (e.fKids.getD 1 dx) x.2.2).2.1 != 0) with
 | true=>exact⟨j1',z⟩
 | false=>simp_all [KZ]
theorem Gk{a b:Int}(h:a≠b):(a==b)=false:=by simp_all
theorem var_eq{c:Nat}{m:Env}(F:Nat)(hF:5000<=F)(hm:Eo c m)(name:Bs):j7 F name m=some ((IX name m).1,(IX name m).2.1):=by
 unfold j7 IY IX;have:=hm.get name
 grind [aff,fQ,cK]
theorem ajc(name:Bs)(m:Env):(IX name m).2.2=m:=by
 unfold IX
 grind
theorem Xb:∀e,Good e->bH fun F n=>∀c m,Eo c m->jf F n e m=some (kF e m):=by
 apply Good.ind;intro e g ih;refine bH.succ (bH.succ (((bH.all ih).and (bH.all ih).up).kE (bH.ge (p:=fun F _=>5000<=F) 5000 fun F n h _=>h) fun F n hi hF c m hm=>?_));obtain⟨ih,ih'⟩:=hi;show qJ F (jf F (n+1)) (mj F (n+1)) e m=_;have ha:∀m,mj F (n+1) e m=p6 F (jf F n) (mj F n) e m:=fun m=>rfl;rw [Tx];unfold qJ evB
 cases h1:(e.fOp==1) with
 | true=>rfl
 | false=>
 cases h2:(e.fOp==2) with
 | true=>
  simp only [bq,aS]
  grind [var_eq,ajc,Prod.ext]
 | false=>
 simp only [gN] at h1 h2;have hl:0<e.fKids.length:=by rcases g.shape with h|h|h|h|h|h<;>omega
 obtain⟨g0,m0⟩:=g.EK hl;obtain⟨i1,i2⟩:=N3 _ g0 c m hm;have e0:decide (0<(e.fKids.length:Int))=true:=dQ om;simp only [aS,e0,gz];rw [EJ _ 0 hl,ih' _ m0 c m hm]
 cases HM:(e.fOp==26) with
 | true=>
  have apS:e.fOp=26:=by simpa using HM
  simp only [bq,TExpr.eta];rw [ha];unfold p6;rw [e0,ih _ m0 c m hm];simp only [gz,aC];generalize kF (e.fKids.getD 0 dx) m=x at i1 i2⊢
  cases (x.2.1 != 0) with
  | true=>rfl
  | false=>
   simp only [aS];rw [var_eq F hF i1];unfold N1 Cu
   cases (e.fN != 0) with
   | false=>
    simp_all [aS,jj,aC,sm,aaB]
   | true=>
    simp only [bq,aC];unfold IX
    cases (!(tj (fQ cK x.2.2 e.fName [])).2) with
    | true=>rfl
    | false=>
     have hr:=KZ e.fN (K1 (fQ cK x.2.2 e.fName [])) i2;simp only [aS,ME];rw [WD];simp only [aC]
     cases ((th e.fN (tj (fQ cK x.2.2 e.fName [])).1 x.1).2 != 0) with
     | true=>rfl
     | false=>
      simp_all [aS,jj,aC,sm,aaB]
 | false=>
 simp only [gN] at HM;simp only [aS,aC];generalize kF (e.fKids.getD 0 dx) m=x at i1 i2⊢
 cases (x.2.1 != 0) with
 | true=>rfl
 | false=>
 simp only [aS]
 have hun:(cond (e.fOp==3) (some (e.fOp==3)) (cond (e.fOp==4) (some (e.fOp==4)) (cond (e.fOp==5) (some (e.fOp==5)) (some (e.fOp==6)))):O Bool)=some (decide (3<=e.fOp)&&decide (e.fOp<=6)):=by
  by_cases h:3<=e.fOp/\e.fOp<=6
  ·have:e.fOp=3\/e.fOp=4\/e.fOp=5\/e.fOp=6:=om
   grind
  ·rw [Gk (show e.fOp≠3 by omega),Gk (show e.fOp≠4 by omega),Gk (show e.fOp≠5 by omega),Gk (show e.fOp≠6 by omega)]
   simp_all
 rw [hun];simp only [aC]
 cases Yt:(decide (3<=e.fOp)&&decide (e.fOp<=6)) with
 | true=>
  simp_all [bq,aja,aC,jj,sm]
 | false=>
 have ajb:¬ (3<=e.fOp/\e.fOp<=6):=by
  simp_all
 simp only [aS];have hl1:1<e.fKids.length:=by rcases g.shape with h|h|h|h|h|h<;>omega
 obtain⟨g1,m1⟩:=g.EK hl1;have e1:decide (1<(e.fKids.length:Int))=true:=dQ om;have f1:=ih' _ m1 _ x.2.2 i1;rw [EJ _ 1 hl1,e1,f1]
 cases WA:(e.fOp==25) with
 | true=>
  have anh:e.fOp=25:=by simpa using WA
  have hl2:2<e.fKids.length:=by rcases g.shape with h|h|h|h|h|h<;>omega
  obtain⟨g2,m2⟩:=g.EK hl2;have e2:decide (2<(e.fKids.length:Int))=true:=dQ om;rw [EJ _ 2 hl2,e2,ih' _ m2 _ x.2.2 i1];simp only [bq,gz,aC]
  cases (x.1 != 0)<;>rfl
 | false=>
 simp only [aS,gz,aC];have hx:(x.1 != 0)=!(x.1==0):=rfl;unfold aaA
 have fin:((some (kF (e.fKids.getD 1 dx) x.2.2)).bind fun x9=>cond (x9.2.1 != 0) (some (0,x9.2.1,x9.2.2)) ((ua F e.fOp x.1 x9.1).bind fun bW=>some (bW.1,bW.2,x9.2.2)))=some (cond ((kF (e.fKids.getD 1 dx) x.2.2).2.1 != 0) (0,(kF (e.fKids.getD 1 dx) x.2.2).2.1,(kF (e.fKids.getD 1 dx) x.2.2).2.2) ((th e.fOp x.1 (kF (e.fKids.getD 1 dx) x.2.2).1).1,(th e.fOp x.1 (kF (e.fKids.getD 1 dx) x.2.2).1).2,(kF (e.fKids.getD 1 dx) x.2.2).2.2)):=by
  grind [WD]
 simp only [aC] at fin
 cases h23:(e.fOp==23) with
 | true=>
  have Tn:(e.fOp==24)=false:=Gk (by simp_all);rw [Tn,hx]
  cases (x.1==0) with
  | true=>rfl
  | false=>exact fin
 | false=>
  rw [hx]
  cases Tn:(e.fOp==24) with
  | true=>
   cases (x.1==0) with
   | true=>exact fin
   | false=>rfl
  | false=>exact fin
end Go.Proofs.YthmndfnkdgmenaaGreatDoor.K
namespace Go.Proofs.YthmndfnkdgmenaaGreatDoor.K
open Go.RT
set_option maxRecDepth 100000
theorem afg{c:Nat}{m:Env}(F:Nat)(hF:200000<=F)(hm:Eo c m)(hc:c<=100000){e:TExpr}(g:Good e)(HM:e.fOp=26){a:Int}(ha:gw a):
  HS F (TExpr.mk e.fOp e.fN e.fName e.fKids) a (sI m)=some ((N1 e.fN e.fName (a,0,m)).1,sI (N1 e.fN e.fName (a,0,m)).2.2,(N1 e.fN e.fName (a,0,m)).2.1):=by
 rw [TExpr.eta];unfold HS N1;have hlen:(sI m).length<=100000:=by rw [Vf];have:=hm.len;omega
 have hg:=hm.get e.fName;rw [NZ F _ _ om om,N0];simp;rw [WE F _ om om]
 have mc:∀n:Int,gw n->((dB F n).bind fun x5=>(Ad F (sI m) e.fName x5).bind fun x6=>some (n,x6,(0:Int)))=some (n,sI (jq cK m e.fName (Lib.itoa n)),0):=fun n hn=>by
  rw [JL F om hn];simp;rw [bind_eq F _ _ _ om om,acQ hm.nd];rfl
 cases hn:(e.fN != 0) with
 | false=>
  simp_all [aS,jj,aC,sm]
 | true=>
  have hcomp:Aa e.fN=true:=by
   rcases g.facts.2.2.2.2 HM with h|h
   ·rw [h] at hn;cases hn
   ·exact h
  have hne:e.fN≠23/\e.fN≠24:=by
   unfold Aa at hcomp
   grind
  simp
  cases (tj (fQ cK m e.fName [])).2 with
  | false=>rfl
  | true=>
   have hr:=KZ e.fN (K1 (fQ cK m e.fName [])) ha;rw [ag7 F _ _ _ hne.1 hne.2];simp
   cases ((th e.fN (tj (fQ cK m e.fName [])).1 a).2 != 0) with
   | true=>rfl
   | false=>
    simp_all [aS,jj,aC,sm]
theorem ab1:∀e,Good e->bH fun F n=>∀c m,Eo c m->c+nodes e<=100000->rS F n e (sI m)=some ((kF e m).1,sI (kF e m).2.2,(kF e m).2.1):=by
 apply Good.ind;intro e g ih;refine bH.succ ((bH.all ih).kE (bH.ge (p:=fun F _=>200000<=F) 200000 fun F n h _=>h) fun F n ih' hF c m hm hc=>?_);show Gl F (rS F n) e (sI m)=_;rw [Tx];unfold Gl evB
 cases h1:(e.fOp==1) with
 | true=>rfl
 | false=>
 cases h2:(e.fOp==2) with
 | true=>
  simp only [bq,aS];have hlen:(sI m).length<=100000:=by rw [Vf];have:=hm.len;omega
  have hg:=hm.get e.fName;rw [NZ F _ _ om om,N0];simp only [aC];rw [WE F _ om om];simp only [aC];unfold IX
  grind
 | false=>
 simp only [gN] at h1 h2;have hl:0<e.fKids.length:=by rcases g.shape with h|h|h|h|h|h<;>omega
 obtain⟨g0,m0⟩:=g.EK hl;have n0:=aaC hl;obtain⟨i1,i2⟩:=N3 _ g0 c m hm;have e0:decide (0<(e.fKids.length:Int))=true:=dQ om;simp only [aS,e0,gz];rw [EJ _ 0 hl,ih' _ m0 c m hm om];simp only [aC];generalize kF (e.fKids.getD 0 dx) m=x at i1 i2⊢
 cases hx0:(x.2.1 != 0) with
 | true=>rfl
 | false=>
 have hx0':x.2.1=0:=by simpa using hx0
 simp only [aS];have hun:(cond (decide (3<=e.fOp)) (some (decide (e.fOp<=6))) (some false):O Bool)=some (decide (3<=e.fOp)&&decide (e.fOp<=6)):=by grind
 rw [hun];simp only [aC]
 cases Yt:(decide (3<=e.fOp)&&decide (e.fOp<=6)) with
 | true=>
  have ajb:3<=e.fOp/\e.fOp<=6:=by simpa using Yt
  have HM:(e.fOp==26)=false:=Gk om;rw [HM]
  simp_all [bq,aS,ang]
 | false=>
 have ajb:¬ (3<=e.fOp/\e.fOp<=6):=by
  simp_all
 simp only [aS]
 cases HM:(e.fOp==26) with
 | true=>
  have apS:e.fOp=26:=by simpa using HM
  simp only [bq]
  grind [afg,Prod.ext]
 | false=>
 simp only [gN] at HM;simp only [aS];have hl1:1<e.fKids.length:=by rcases g.shape with h|h|h|h|h|h<;>omega
 obtain⟨g1,m1⟩:=g.EK hl1;have n01:=HR (l:=e.fKids) (i:=0) (j:=1) om hl1;have ne:=Gf e;have e1:decide (1<(e.fKids.length:Int))=true:=dQ om;have f1:=ih' _ m1 _ x.2.2 i1 om;rw [EJ _ 1 hl1,e1,f1]
 cases WA:(e.fOp==25) with
 | true=>
  have anh:e.fOp=25:=by simpa using WA
  have hl2:2<e.fKids.length:=by rcases g.shape with h|h|h|h|h|h<;>omega
  obtain⟨g2,m2⟩:=g.EK hl2;have n02:=HR (l:=e.fKids) (i:=0) (j:=2) om hl2;have e2:decide (2<(e.fKids.length:Int))=true:=dQ om;rw [EJ _ 2 hl2,e2,ih' _ m2 _ x.2.2 i1 om];simp only [bq,gz,aC]
  cases (x.1 != 0)<;>rfl
 | false=>
 simp only [aS,gz,aC];have hx:(x.1 != 0)=!(x.1==0):=rfl;unfold aaA
 cases h23:(e.fOp==23) with
 | true=>
  have apT:e.fOp=23:=by simpa using h23
  have Tn:(e.fOp==24)=false:=Gk om;rw [Tn,hx]
  cases h0:(x.1==0) with
  | true=>rfl
  | false=>
   simp only [bq,aS,aC,Uk,RL,Ae]
   cases ((kF (e.fKids.getD 1 dx) x.2.2).2.1 != 0) with
   | true=>rfl
   | false=>
    have:th e.fOp x.1 (kF (e.fKids.getD 1 dx) x.2.2).1=(tr ((kF (e.fKids.getD 1 dx) x.2.2).1 != 0),0):=by
     rw [apT];show (tr (x.1 != 0&&(kF (e.fKids.getD 1 dx) x.2.2).1 != 0),(0:Int))=_;rw [hx,h0];rfl
    rw [this]
    rfl
 | false=>
  cases Tn:(e.fOp==24) with
  | true=>
   have apU:e.fOp=24:=by simpa using Tn
   rw [hx]
   cases h0:(x.1==0) with
   | false=>rfl
   | true=>
    simp only [bq,aS,aC,Uk,RL,Ae,ku]
    cases ((kF (e.fKids.getD 1 dx) x.2.2).2.1 != 0) with
    | true=>rfl
    | false=>
     have:th e.fOp x.1 (kF (e.fKids.getD 1 dx) x.2.2).1=(tr ((kF (e.fKids.getD 1 dx) x.2.2).1 != 0),0):=by
      rw [apU];show (tr (x.1 != 0||(kF (e.fKids.getD 1 dx) x.2.2).1 != 0),(0:Int))=_
      simp_all
     rw [this]
     rfl
  | false=>
   simp only [gN] at h23 Tn;simp only [aS,aC,RL]
   grind [ag7]
def wC(e:TExpr)(l:J cw):Int×J cw×Int:=
 cond (gX e 0 != 0) (0,[],gX e 0) (cond ((kF e (tg l)).2.1 != 0) (0,[],(kF e (tg l)).2.1) ((kF e (tg l)).1,sI (kF e (tg l)).2.2,0))
theorem LL{α β:Type}(f:α->β):∀(l:J α)(t:J β),l.foldl (fun t k=>t++[f k]) t=t++l.map f
 | [],t=>by simp
 | x::l,t=>by rw [Dk,LL f l];simp
def Rg(l:J cw):Prop:=∀b,b∈l->b.fName.length<=60/\b.bL.length<=4096
theorem Tz(e:TExpr):Vd e->Nms e:=by
 induction e using TExpr.ind with
 | h op n name kids ih=>
  intro v
  cases v with
  | mk _ _ _ _ h1 h2 h3 h4 h5 h6 h7=>
   refine .mk op n name kids ?_ fun k hk=>ih k hk (h7 k hk)
   cases hn:KX op with
   | true=>
    have:=h6 hn;unfold rName at this
    grind
   | false=>
    simp_all
theorem aaD{e:TExpr}(ho:ij e){l:J cw}(hl:l.length<=1000)(hb:Rg l)(hn:nodes e<=10000):bH fun F _=>C1 F e l=some (wC e l):=by
 by_cases hv:gX e 0=0
 ·have g:Good e:=⟨HO e 0 hv,ho,Tz e (HO e 0 hv)⟩
  refine (JI ho).BU (Xb e g).fst (bH.ge 100000 fun F n h _=>h) fun F _ h1 h2 hF=>?_;unfold C1 wC;simp only [TExpr.eta];rw [h1,hv];have hm:=Gi hb;obtain⟨k1,k2⟩:=N3 e g _ _ hm;refine Cp l (fun i (t:Env)=>((i:Int),t)) (fun m b=>jq cK m b.fName b.bL) (fun _ _=>True) om rfl trivial ?_ (fun _ _ _ _=>trivial) ?_
  ·intro i h t rc _
   simp only [wI h,bK,gd h,bh (i:=i) om];rfl
  ·intro rc _
   simp only [Gd];show ((jf F F e (tg l)).bind _)=_;rw [h2 _ _ hm];simp only [aC];generalize kF e (tg l)=x at k1 k2⊢
   cases (x.2.1 != 0) with
   | true=>rfl
   | false=>
    rw [aoI k1 om]
    have hks:(qY (x.2.2.map (·.1))).length<=11000:=by
     rw [(z8 _).length_eq,wU];have:=k1.len;omega
    refine Cp (qY (x.2.2.map (·.1))) (fun i (t:J cw)=>(t,(i:Int))) (fun t k=>t++[Bk x.2.2 k]) (fun i t=>t.length<=i) om rfl si ?_ ?_ ?_
    ·intro i h t rc hI
     simp only [wI h,bK,gd h,bh (i:=i) om];rw [iB bE om];rfl
    ·simp_all
    ·intro rc _
     simp only [Gd];rw [LL];rfl
 ·refine (JI ho).mono fun F _ h1=>?_
  unfold C1 wC;simp
  grind
theorem JM{e:TExpr}(ho:ij e):bH fun F _=>Cv F e=some (gX e 0):=
 (Qk ho).fst.mono fun F _ h=>by
  unfold Cv Qo
  simp_all
theorem ab2{e:TExpr}(ho:ij e){l:J cw}(hl:l.length<=1000)(hb:Rg l)(hn:nodes e<=10000):bH fun F _=>Ah F e l=some (wC e l):=by
 by_cases hv:gX e 0=0
 ·have g:Good e:=⟨HO e 0 hv,ho,Tz e (HO e 0 hv)⟩
  refine (JM ho).BU (ab1 e g).fst (bH.ge 100000 fun F n h _=>h) fun F _ h1 h2 hF=>?_;unfold Ah wC;simp;rw [h1,hv];rw [ag5 F l om hl hb];show ((rS F F e (sI (tg l))).bind _)=_;rw [h2 _ _ (Gi hb) om]
  grind
 ·refine (JM ho).mono fun F _ h1=>?_
  unfold Ah wC;simp
  grind
theorem ag8{e:TExpr}(ho:ij e){l:J cw}(hl:l.length<=1000)(hb:Rg l)(hn:nodes e<=10000):(wC e l).2.1.length<=100000:=by
 unfold wC
 cases hv:(gX e 0 != 0) with
 | true=>simp
 | false=>
  have iZ:gX e 0=0:=by simpa using hv
  have g:Good e:=⟨HO e 0 iZ,ho,Tz e (HO e 0 iZ)⟩;obtain⟨k1,k2⟩:=N3 e g _ _ (Gi hb)
  cases ((kF e (tg l)).2.1 != 0) with
  | true=>simp
  | false=>
   simp;rw [Vf];have:=k1.len;omega
end Go.Proofs.YthmndfnkdgmenaaGreatDoor.K
namespace Go.Proofs.YthmndfnkdgmenaaGreatDoor.K
open Go.RT
set_option maxRecDepth 100000
def ag9:J (Bs×Int×Int):=[([124,124],3,24),([38,38],4,23),([124],5,22),([94],6,21),([38],7,20),([61,61],8,18),([33,61],8,19),([60],9,14),([62],9,15),([60,61],9,16),([62,61],9,17),([60,60],10,12),([62,62],10,13),([43],11,10),([45],11,11),([42],12,7),([47],12,8),([37],12,9)]
def gi(x:Bs):Int×Int:=match ag9.find? (fun p=>p.1==x) with|some p=>p.2|none=>(0,0)
def ani:J (Bs×Int):=[([61],0),([43,61],10),([45,61],11),([42,61],7),([47,61],8),([37,61],9),([60,60,61],12),([62,62,61],13),([38,61],20),([94,61],21),([124,61],22)]
def rT(x:Bs):Int:=match ani.find? (fun p=>p.1==x) with|some p=>p.2|none=>-1
def tL(x:Bs):Int:=cond (x==[45]) 3 (cond (x==[43]) 4 (cond (x==[33]) 5 (cond (x==[126]) 6 0)))
structure Tab(x:Bs):Prop where
 bin:∀G s p,jC (G+20) s 3 p x=some (gi x)
 asg:∀G p,pH (G+20) ⟨3,p,x⟩=some (cond (rT x == -1) 0 (rT x),!(rT x == -1))
 asr:∀G,qx (G+20) x=some (rT x)
 bir:∀G l,kG (G+20) x l=some (cond ((gi x).1==l) (gi x).2 0)
 lv:0<=(gi x).1/\(gi x).1<=12/\((gi x).1=0\/3<=(gi x).1)
 op:(gi x).1≠0->7<=(gi x).2/\(gi x).2<=24/\(lz (gi x).2).1=(gi x).1/\(lz (gi x).2).2=x
theorem ajd{x:Bs}(h:gi x=(0,0))(hr:∀G l,kG (G+20) x l=some 0):∀G l,kG (G+20) x l=some (cond ((gi x).1==l) (gi x).2 0):=by
 simp_all
theorem aje{x:Bs}{lv op:Int}(h:gi x=(lv,op))(hr:∀G l,kG (G+20) x l=cond (lv==l) (some op) (some 0)):∀G l,kG (G+20) x l=some (cond ((gi x).1==l) (gi x).2 0):=by
 grind
theorem ali:∀x,x∈([]::oC)->Tab x:=by
 intro x hx;simp [oC,ym,ae9] at hx
 rcases hx with rfl|rfl|rfl|rfl|rfl|rfl|rfl|rfl|rfl|rfl|rfl|rfl|rfl|rfl|rfl|rfl|rfl|rfl|rfl|rfl|rfl|rfl|rfl|rfl|rfl|rfl|rfl|rfl|rfl|rfl|rfl|rfl|rfl|rfl|rfl|rfl<;>
  exact⟨fun G s p=>by kernel_rfl,fun G p=>by kernel_rfl,fun G=>by kernel_rfl,(by first|exact ajd de (fun G l=>by kernel_rfl)|exact aje rfl (fun G l=>by kernel_rfl)),de,de⟩
def kd(s:Bs)(i:Nat):Int:=(td s i).uD
def tx(s:Bs)(i:Nat):Bs:=(td s i).fI
def sy(s:Bs)(i:Nat):Bs:=mP (s.drop (skip s i))
def nx(s:Bs)(i:Nat):Nat:=skip s i+(tx s i).length
inductive apV(s:Bs)(i:Nat):Prop
 | fin (h:td s i=⟨0,skip s i,[]⟩) (hs:sy s i=[]) (hw:kP s (skip s i)=[]) (he:s.length<=skip s i)
 | num (w:Bs) (b:UInt8) (h:td s i=⟨1,skip s i,b::w⟩) (hs:sy s i=[]) (hw:kP s (skip s i)=b::w) (hd:dg b=true) (hl:skip s i+(b::w).length<=s.length)
 | nam (w:Bs) (b:UInt8) (h:td s i=⟨2,skip s i,b::w⟩) (hs:sy s i=[]) (hw:kP s (skip s i)=b::w) (hd:le b=true) (hl:skip s i+(b::w).length<=s.length)
 | op (x:Bs) (h:td s i=⟨3,skip s i,x⟩) (hs:sy s i=x) (hw:kP s (skip s i)=[]) (hm:x∈oC) (hl:skip s i+x.length<=s.length)
 | oth (b:UInt8) (h:td s i=⟨4,skip s i,[b]⟩) (hs:sy s i=[]) (hw:kP s (skip s i)=[]) (hl:skip s i+1<=s.length)
theorem aha:∀n:Fin 256,fo (UInt8.ofNat n.val)=true->∀o,o∈oC->[UInt8.ofNat n.val].isPrefixOf o=false:=by decide +kernel
theorem aoK(b:UInt8)(h:fo b=true):∀o,o∈oC->[b].isPrefixOf o=false:=
 Re (P:=fun b=>fo b=true->∀o,o∈oC->[b].isPrefixOf o=false) aha b h
theorem ajf(b:UInt8)(m:Bs)(h:fo b=true):mP (b::m)=[]:=by
 rcases NX (b::m) with h1|⟨h1,h2⟩
 ·exact h1
 ·have hne:=BX _ h1
  have:=aoK b h _ h1;revert this h2 hne
  cases mP (b::m) with
  | nil=>simp_all
  | cons c o=>
   simp_all
theorem lM(s:Bs)(i:Nat)(hi:i<=s.length):apV s i:=by
 obtain⟨h1,h2⟩:=gQ s i hi;have e1:td s i=Tq s (skip s i):=rfl;have e2:sy s i=mP (s.drop (skip s i)):=rfl;generalize hj:skip s i=j at h1 h2 e1 e2;unfold Tq at e1
 cases hd:s.drop j with
 | nil=>
  rw [hd] at e1 e2;refine .fin (by rw [hj];exact e1) e2 (by rw [hj];unfold kP;rw [hd];rfl) ?_
  simp_all
 | cons b m=>
  have hlen:(s.drop j).length=m.length+1:=by rw [hd];rfl
  rw [Kc] at hlen;rw [hd] at e1 e2;simp only [] at e1
  cases hf:fo b with
  | true=>
   have hw:kP s j=b::m.takeWhile fo:=by unfold kP;simp_all
   have hl:j+(b::m.takeWhile fo).length<=s.length:=by
    grind [yo,List.length_cons]
   rw [ajf b m hf] at e2;rw [hf,hw] at e1
   cases hdg:dg b with
   | true=>rw [hdg] at e1;exact .num (m.takeWhile fo) b (by rw [hj];exact e1) e2 (by rw [hj];exact hw) hdg (by rw [hj];exact hl)
   | false=>
    rw [hdg] at e1;refine .nam (m.takeWhile fo) b (by rw [hj];exact e1) e2 (by rw [hj];exact hw) ?_ (by rw [hj];exact hl)
    simp_all [akf]
  | false=>
   have hw:kP s j=[]:=by unfold kP;simp_all
   rw [hf] at e1;rcases NX (b::m) with ho|⟨ho1,ho2⟩
   ·rw [ho] at e1 e2
    exact .oth b (by rw [hj];exact e1) e2 (by rw [hj];exact hw) (by rw [hj];omega)
   ·have hne:=BX _ ho1
    have:(mP (b::m)==[])=false:=by simpa using hne
    rw [this] at e1;have hle:=ho2.length_le;simp at hle;exact .op (mP (b::m)) (by rw [hj];exact e1) e2 (by rw [hj];exact hw) ho1 (by rw [hj];omega)
theorem N4(s:Bs)(i:Nat):sy s i∈([]::oC):=by
 unfold sy
 grind [NX,List.mem_cons_of_mem]
theorem xN(s:Bs)(i:Nat):Tab (sy s i):=ali _ (N4 s i)
theorem kj(s:Bs)(i:Nat)(hi:i<=s.length):nx s i<=s.length/\i<=nx s i/\(kd s i≠0->i<nx s i):=by
 obtain⟨h1,h2⟩:=gQ s i hi;unfold nx tx kd;rcases lM s i hi with⟨h,_,_,_⟩|⟨w,b,h,_,_,_,hl⟩|⟨w,b,h,_,_,_,hl⟩|⟨x,h,_,_,hm,hl⟩|⟨b,h,_,_,hl⟩<;>rw [h]<;>simp at *
 ·simp_all
 ·grind
 ·grind
 ·have:x.length≠0:=by
   simp_all [BX]
  grind
 grind
theorem Ai(s:Bs)(i:Nat)(hi:i<=s.length)(h:sy s i≠[]):kd s i=3/\tx s i=sy s i:=by
 unfold kd tx;rcases lM s i hi with⟨h',hs,_,_⟩|⟨w,b,h',hs,_,_,hl⟩|⟨w,b,h',hs,_,_,hl⟩|⟨x,h',hs,_,hm,hl⟩|⟨b,h',hs,_,hl⟩
 ·exact absurd hs h
 ·exact absurd hs h
 ·exact absurd hs h
 ·simp_all
 ·exact absurd hs h
inductive oa
 | ok (e:TExpr) (j:Nat)
 | err (p:Nat) (c:Int)
inductive mJ
 | expr
 | cond
 | oper (l:Int)
 | loop (l:Int) (a:TExpr)
 | un
 | mY
def jd(s:Bs)(i:Nat):Int:=cond (kd s i==2) (rT (sy s (nx s i))) (-1)
inductive D(s:Bs):mJ->Nat->oa->Prop
 | Aj {i:Nat} {r:oa} (h:jd s i=-1) (d:D s .cond i r):D s .expr i r
 | Ak {i:Nat} (h:jd s i≠-1) (hn:rName (tx s i)=false):D s .expr i (.err (skip s i) 10)
 | EM {i j:Nat} {e:TExpr} (h:jd s i≠-1) (hn:rName (tx s i)=true) (d:D s .expr (nx s (nx s i)) (.ok e j)):D s .expr i (.ok (.mk 26 (jd s i) (tx s i) [e]) j)
 | EN {i p:Nat} {c:Int} (h:jd s i≠-1) (hn:rName (tx s i)=true) (d:D s .expr (nx s (nx s i)) (.err p c)):D s .expr i (.err p c)
 | EO {i p:Nat} {c:Int} (d:D s (.oper 3) i (.err p c)):D s .cond i (.err p c)
 | ER {i j:Nat} {a:TExpr} (d:D s (.oper 3) i (.ok a j)) (h:sy s j≠[63]):D s .cond i (.ok a j)
 | ES {i j p:Nat} {c:Int} {a:TExpr} (d:D s (.oper 3) i (.ok a j)) (h:sy s j=[63]) (d2:D s .expr (nx s j) (.err p c)):D s .cond i (.err p c)
 | ET {i j k:Nat} {a b:TExpr} (d:D s (.oper 3) i (.ok a j)) (h:sy s j=[63]) (d2:D s .expr (nx s j) (.ok b k)) (h2:sy s k≠[58]):D s .cond i (.err (skip s k) 6)
 | K2 {i j k p:Nat} {c:Int} {a b:TExpr} (d:D s (.oper 3) i (.ok a j)) (h:sy s j=[63]) (d2:D s .expr (nx s j) (.ok b k)) (h2:sy s k=[58]) (d3:D s .cond (nx s k) (.err p c)):D s .cond i (.err p c)
 | EU {i j k m:Nat} {a b e:TExpr} (d:D s (.oper 3) i (.ok a j)) (h:sy s j=[63]) (d2:D s .expr (nx s j) (.ok b k)) (h2:sy s k=[58]) (d3:D s .cond (nx s k) (.ok e m)):D s .cond i (.ok (.mk 25 0 [] [a,b,e]) m)
 | TA {l:Int} {i p:Nat} {c:Int} (d:D s .un i (.err p c)):D s (.oper l) i (.err p c)
 | Vg {l:Int} {i j:Nat} {a:TExpr} {r:oa} (d:D s .un i (.ok a j)) (d2:D s (.loop l a) j r):D s (.oper l) i r
 | vu {l:Int} {i:Nat} {a:TExpr} (h:(gi (sy s i)).1<l):D s (.loop l a) i (.ok a i)
 | Cw {l:Int} {i p:Nat} {c:Int} {a:TExpr} (h:l<=(gi (sy s i)).1) (d:D s (.oper ((gi (sy s i)).1+1)) (nx s i) (.err p c)):D s (.loop l a) i (.err p c)
 | Gm {l:Int} {i j:Nat} {a b:TExpr} {r:oa} (h:l<=(gi (sy s i)).1) (d:D s (.oper ((gi (sy s i)).1+1)) (nx s i) (.ok b j)) (d2:D s (.loop l (.mk (gi (sy s i)).2 0 [] [a,b])) j r):D s (.loop l a) i r
 | Al {i:Nat} {r:oa} (h:tL (sy s i)=0) (d:D s .mY i r):D s .un i r
 | EV {i p:Nat} {c:Int} (h:tL (sy s i)≠0) (d:D s .un (nx s i) (.err p c)):D s .un i (.err p c)
 | K3 {i j:Nat} {a:TExpr} (h:tL (sy s i)≠0) (d:D s .un (nx s i) (.ok a j)):D s .un i (.ok (.mk (tL (sy s i)) 0 [] [a]) j)
 | EW {i:Nat} (h:kd s i=1) (hv:(nS (tx s i)).2=0):D s .mY i (.ok (.mk 1 (nS (tx s i)).1 [] []) (nx s i))
 | Am {i:Nat} (h:kd s i=1) (hv:(nS (tx s i)).2≠0):D s .mY i (.err (skip s i) (nS (tx s i)).2)
 | EY {i:Nat} (h:kd s i=2) (hv:rName (tx s i)=true):D s .mY i (.ok (.mk 2 0 (tx s i) []) (nx s i))
 | An {i:Nat} (h:kd s i=2) (hv:rName (tx s i)=false):D s .mY i (.err (skip s i) 10)
 | EZ {i:Nat} (h1:kd s i≠1) (h2:kd s i≠2) (h:sy s i≠[40]):D s .mY i (.err (skip s i) 6)
 | K4 {i p:Nat} {c:Int} (h:sy s i=[40]) (d:D s .expr (nx s i) (.err p c)):D s .mY i (.err p c)
 | wD {i j:Nat} {e:TExpr} (h:sy s i=[40]) (d:D s .expr (nx s i) (.ok e j)) (h2:sy s j≠[41]):D s .mY i (.err (skip s j) 6)
 | K5 {i j:Nat} {e:TExpr} (h:sy s i=[40]) (d:D s .expr (nx s i) (.ok e j)) (h2:sy s j=[41]):D s .mY i (.ok e (nx s j))
def mJ.anj:mJ->Bool
 | .loop _ _=>true
 | _=>false
def aoL(s:Bs)(c:mJ)(i:Nat):oa->Prop
 | .ok e j=>i<=j/\j<=s.length/\(c.anj=false->i<j)
 | .err p _=>p<=s.length
theorem N5{s:Bs}{i:Nat}(h:jd s i≠-1):kd s i=2/\rT (sy s (nx s i))≠-1/\jd s i=rT (sy s (nx s i)):=by
 unfold jd at h⊢
 grind
theorem aaE{x:Bs}(h:rT x≠-1):x≠[]:=fun e=>h (by rw [e];rfl)
theorem yJ{x:Bs}{l:Int}(hl:0<l)(h:l<=(gi x).1):x≠[]:=fun e=>by rw [e] at h;simp [gi,ag9] at h;omega
theorem yY{x:Bs}(h:tL x≠0):x≠[]:=fun e=>h (by rw [e];rfl)
def mJ.okL:mJ->Prop
 | .oper l=>0<l
 | .loop l _=>0<l
 | _=>True
theorem dz{s:Bs}{i:Nat}(hi:i<=s.length)(h:sy s i≠[]):nx s i<=s.length/\i<nx s i:=by
 simp_all [kj,Ai]
theorem vw{s:Bs}{i:Nat}(hi:i<=s.length)(h:jd s i≠-1):nx s i<=s.length/\i<nx s i/\nx s (nx s i)<=s.length/\i<nx s (nx s i):=by
 grind [N5,kj,dz,aaE]
theorem lN{s:Bs}{c:mJ}{i:Nat}{r:oa}(d:D s c i r):i<=s.length->c.okL->aoL s c i r:=by
 induction d with
 | @Aj i r h d ih=>
  intro hi _;have:=ih hi trivial
  cases r with
  | ok e j=>exact this
  | err p c=>exact this
 | Ak h hn=>intro hi _;exact (gQ s _ hi).1
 | EM h hn d ih=>
  intro hi _;obtain⟨a,b,c,e⟩:=vw hi h;obtain⟨x,y,z⟩:=ih c trivial
  exact⟨om,y,fun _=>om⟩
 | EN h hn d ih=>intro hi _;exact ih (vw hi h).2.2.1 trivial
 | EO d ih=>intro hi _;exact ih hi (show (0:Int)<3 by decide)
 | ER d h ih=>intro hi _;exact ih hi (show (0:Int)<3 by decide)
 | ES d h d2 ih ih2=>
  intro hi _;obtain⟨x,y,z⟩:=ih hi (show (0:Int)<3 by decide)
  exact ih2 (dz y (by rw [h];decide)).1 trivial
 | ET d h d2 h2 ih ih2=>
  intro hi _;obtain⟨x,y,z⟩:=ih hi (show (0:Int)<3 by decide);obtain⟨x2,y2,z2⟩:=ih2 (dz y (by rw [h];decide)).1 trivial
  exact (gQ s _ y2).1
 | K2 d h d2 h2 d3 ih ih2 ih3=>
  intro hi _;obtain⟨x,y,z⟩:=ih hi (show (0:Int)<3 by decide);obtain⟨x2,y2,z2⟩:=ih2 (dz y (by rw [h];decide)).1 trivial
  exact ih3 (dz y2 (by rw [h2];decide)).1 trivial
 | EU d h d2 h2 d3 ih ih2 ih3=>
  intro hi _;obtain⟨x,y,z⟩:=ih hi (show (0:Int)<3 by decide);obtain⟨m1,m2⟩:=dz y (by rw [h];decide);obtain⟨x2,y2,z2⟩:=ih2 m1 trivial;obtain⟨m3,m4⟩:=dz y2 (by rw [h2];decide);obtain⟨x3,y3,z3⟩:=ih3 m3 trivial
  exact⟨om,y3,fun _=>om⟩
 | TA d ih=>intro hi _;exact ih hi trivial
 | @Vg l i j a r d d2 ih ih2=>
  intro hi hl;obtain⟨x,y,z⟩:=ih hi trivial;have:=ih2 y hl
  cases r with
  | ok e j=>
   obtain⟨x2,y2,_⟩:=this;have:=z rfl
   exact⟨om,y2,fun _=>om⟩
  | err p c=>exact this
 | vu h=>intro hi _;exact⟨eo _,hi,fun h=>by cases h⟩
 | @Cw l i p c a h d ih=>
  intro hi hl;have hl:0<l:=hl
  exact ih (dz hi (yJ hl h)).1 (show (0:Int)<_ by omega)
 | @Gm l i j a b r h d d2 ih ih2=>
  intro hi hl;have hl':0<l:=hl;obtain⟨m1,m2⟩:=dz hi (yJ hl' h);obtain⟨x,y,z⟩:=ih m1 (show (0:Int)<_ by omega);have:=ih2 y hl
  cases r with
  | ok e j=>
   obtain⟨x2,y2,_⟩:=this
   exact⟨om,y2,fun h=>by cases h⟩
  | err p c=>exact this
 | @Al i r h d ih=>
  intro hi _;have:=ih hi trivial
  cases r with
  | ok e j=>exact this
  | err p c=>exact this
 | EV h d ih=>intro hi _;exact ih (dz hi (yY h)).1 trivial
 | K3 h d ih=>
  intro hi _;obtain⟨m1,m2⟩:=dz hi (yY h);obtain⟨x,y,z⟩:=ih m1 trivial
  exact⟨om,y,fun _=>om⟩
 | EW h hv=>
  intro hi _;obtain⟨a,b,c⟩:=kj s _ hi;have c:=c (by rw [h];decide)
  exact⟨b,a,fun _=>c⟩
 | Am h hv=>intro hi _;exact (gQ s _ hi).1
 | EY h hv=>
  intro hi _;obtain⟨a,b,c⟩:=kj s _ hi;have c:=c (by rw [h];decide)
  exact⟨b,a,fun _=>c⟩
 | An h hv=>intro hi _;exact (gQ s _ hi).1
 | EZ h1 h2 h=>intro hi _;exact (gQ s _ hi).1
 | K4 h d ih=>intro hi _;exact ih (dz hi (by rw [h];decide)).1 trivial
 | wD h d h2 ih=>
  intro hi _;obtain⟨x,y,z⟩:=ih (dz hi (by rw [h];decide)).1 trivial
  exact (gQ s _ y).1
 | K5 h d h2 ih=>
  intro hi _;obtain⟨m1,m2⟩:=dz hi (by rw [h];decide);obtain⟨x,y,z⟩:=ih m1 trivial;obtain⟨m3,m4⟩:=dz y (by rw [h2];decide);exact⟨om,m3,fun _=>om⟩
def mJ.vz:mJ->Nat
 | .expr=>4
 | .cond=>3
 | .oper _=>2
 | .loop _ _=>0
 | .un=>1
 | .mY=>0
theorem alj(s:Bs)(n:Nat):∀(c:mJ)(i:Nat),i<=s.length->c.okL->(s.length-i)*5+c.vz<n->∃r,D s c i r:=by
 induction n with
 | zero=>intro c i _ _ h;omega
 | succ n ih=>
  intro c i hi hc hm
  cases c with
  | expr=>
   simp [mJ.vz] at hm;by_cases h:jd s i=-1
   ·obtain⟨r,d⟩:=ih .cond i hi trivial (by simp [mJ.vz];omega)
    exact⟨r,.Aj h d⟩
   ·obtain⟨_,_,m1,m2⟩:=vw hi h
    cases hn:rName (tx s i) with
    | false=>exact⟨_,.Ak h hn⟩
    | true=>
     obtain⟨r,d⟩:=ih .expr _ m1 trivial (by simp [mJ.vz];omega)
     cases r with
     | ok e j=>exact⟨_,.EM h hn d⟩
     | err p c=>exact⟨_,.EN h hn d⟩
  | cond=>
   simp [mJ.vz] at hm;have h3:=show (0:Int)<3 by decide
   obtain⟨r,d⟩:=ih (.oper 3) i hi h3 (by simp [mJ.vz];omega)
   cases r with
   | err p c=>exact⟨_,.EO d⟩
   | ok a j=>
    obtain⟨x,y,z⟩:=lN d hi h3;by_cases h:sy s j=[63]
    ·obtain⟨m1,m2⟩:=dz y (by rw [h];decide)
     obtain⟨r,d2⟩:=ih .expr _ m1 trivial (by simp [mJ.vz];omega)
     cases r with
     | err p c=>exact⟨_,.ES d h d2⟩
     | ok b k=>
      obtain⟨x2,y2,z2⟩:=lN d2 m1 trivial;by_cases h2:sy s k=[58]
      ·obtain⟨m3,m4⟩:=dz y2 (by rw [h2];decide)
       obtain⟨r,d3⟩:=ih .cond _ m3 trivial (by simp [mJ.vz];omega)
       cases r with
       | err p c=>exact⟨_,.K2 d h d2 h2 d3⟩
       | ok e m=>exact⟨_,.EU d h d2 h2 d3⟩
      ·exact⟨_,.ET d h d2 h2⟩
    ·exact⟨_,.ER d h⟩
  | oper l=>
   simp [mJ.vz] at hm;obtain⟨r,d⟩:=ih .un i hi trivial (by simp [mJ.vz];omega)
   cases r with
   | err p c=>exact⟨_,.TA d⟩
   | ok a j=>
    obtain⟨x,y,z⟩:=lN d hi trivial;obtain⟨r,d2⟩:=ih (.loop l a) j y hc (by simp [mJ.vz];omega)
    exact⟨_,.Vg d d2⟩
  | loop l a=>
   have hl:0<l:=hc;by_cases h:(gi (sy s i)).1<l
   ·exact⟨_,.vu h⟩
   ·have h:l<=(gi (sy s i)).1:=om
    obtain⟨m1,m2⟩:=dz hi (yJ hl h);have ho:(mJ.oper ((gi (sy s i)).1+1)).okL:=show (0:Int)<_ by omega
    obtain⟨r,d⟩:=ih (.oper ((gi (sy s i)).1+1)) _ m1 ho (by simp [mJ.vz];omega)
    cases r with
    | err p c=>exact⟨_,.Cw h d⟩
    | ok b j=>
     obtain⟨x,y,z⟩:=lN d m1 ho;obtain⟨r,d2⟩:=ih (.loop l (.mk (gi (sy s i)).2 0 [] [a,b])) j y hc (by simp [mJ.vz];omega)
     exact⟨_,.Gm h d d2⟩
  | un=>
   simp [mJ.vz] at hm;by_cases h:tL (sy s i)=0
   ·obtain⟨r,d⟩:=ih .mY i hi trivial (by simp [mJ.vz];omega)
    exact⟨_,.Al h d⟩
   ·obtain⟨m1,m2⟩:=dz hi (yY h)
    obtain⟨r,d⟩:=ih .un _ m1 trivial (by simp [mJ.vz];omega)
    cases r with
    | ok e j=>exact⟨_,.K3 h d⟩
    | err p c=>exact⟨_,.EV h d⟩
  | mY=>
   by_cases h1:kd s i=1
   ·by_cases hv:(nS (tx s i)).2=0
    ·exact⟨_,.EW h1 hv⟩
    ·exact⟨_,.Am h1 hv⟩
   ·by_cases h2:kd s i=2
    ·cases hv:rName (tx s i) with
     | true=>exact⟨_,.EY h2 hv⟩
     | false=>exact⟨_,.An h2 hv⟩
    ·by_cases h:sy s i=[40]
     ·obtain⟨m1,m2⟩:=dz hi (by rw [h];decide)
      obtain⟨r,d⟩:=ih .expr _ m1 trivial (by simp [mJ.vz];omega)
      cases r with
      | err p c=>exact⟨_,.K4 h d⟩
      | ok e j=>
       by_cases h2:sy s j=[41]
       ·exact⟨_,.K5 h d h2⟩
       ·exact⟨_,.wD h d h2⟩
     ·exact⟨_,.EZ h1 h2 h⟩
theorem ank(s:Bs)(i:Nat)(hi:i<=s.length):∃r,D s .expr i r:=alj s _ .expr i hi trivial (Iv _)
end Go.Proofs.YthmndfnkdgmenaaGreatDoor.K
namespace Go.Proofs.YthmndfnkdgmenaaGreatDoor.K
open Go.RT
abbrev lY(s:Bs)(i:Nat):Int:=(gi (sy s i)).1
inductive Vh
 | expr
 | cond
 | level (l:Int)
 | loop (l:Int) (a:TExpr)
 | un
 | mY
inductive RD(s:Bs):Vh->Nat->oa->Prop
 | Aj {i:Nat} {r:oa} (h:jd s i=-1) (d:RD s .cond i r):RD s .expr i r
 | Ak {i:Nat} (h:jd s i≠-1) (hn:rName (tx s i)=false):RD s .expr i (.err (skip s i) 10)
 | EM {i j:Nat} {e:TExpr} (h:jd s i≠-1) (hn:rName (tx s i)=true) (d:RD s .expr (nx s (nx s i)) (.ok e j)):RD s .expr i (.ok (.mk 26 (jd s i) (tx s i) [e]) j)
 | EN {i p:Nat} {c:Int} (h:jd s i≠-1) (hn:rName (tx s i)=true) (d:RD s .expr (nx s (nx s i)) (.err p c)):RD s .expr i (.err p c)
 | EO {i p:Nat} {c:Int} (d:RD s (.level 3) i (.err p c)):RD s .cond i (.err p c)
 | ER {i j:Nat} {a:TExpr} (d:RD s (.level 3) i (.ok a j)) (h:sy s j≠[63]):RD s .cond i (.ok a j)
 | ES {i j p:Nat} {c:Int} {a:TExpr} (d:RD s (.level 3) i (.ok a j)) (h:sy s j=[63]) (d2:RD s .expr (nx s j) (.err p c)):RD s .cond i (.err p c)
 | ET {i j k:Nat} {a b:TExpr} (d:RD s (.level 3) i (.ok a j)) (h:sy s j=[63]) (d2:RD s .expr (nx s j) (.ok b k)) (h2:sy s k≠[58]):RD s .cond i (.err (skip s k) 6)
 | K2 {i j k p:Nat} {c:Int} {a b:TExpr} (d:RD s (.level 3) i (.ok a j)) (h:sy s j=[63]) (d2:RD s .expr (nx s j) (.ok b k)) (h2:sy s k=[58]) (d3:RD s .cond (nx s k) (.err p c)):RD s .cond i (.err p c)
 | EU {i j k m:Nat} {a b e:TExpr} (d:RD s (.level 3) i (.ok a j)) (h:sy s j=[63]) (d2:RD s .expr (nx s j) (.ok b k)) (h2:sy s k=[58]) (d3:RD s .cond (nx s k) (.ok e m)):RD s .cond i (.ok (.mk 25 0 [] [a,b,e]) m)
 | afh {l:Int} {i:Nat} {r:oa} (hl:12<l) (d:RD s .un i r):RD s (.level l) i r
 | Ym {l:Int} {i p:Nat} {c:Int} (h3:3<=l) (hl:l<=12) (d:RD s (.level (l+1)) i (.err p c)):RD s (.level l) i (.err p c)
 | ajg {l:Int} {i j:Nat} {a:TExpr} {r:oa} (h3:3<=l) (hl:l<=12) (d:RD s (.level (l+1)) i (.ok a j)) (d2:RD s (.loop l a) j r):RD s (.level l) i r
 | vu {l:Int} {i:Nat} {a:TExpr} (h:lY s i≠l):RD s (.loop l a) i (.ok a i)
 | Cw {l:Int} {i p:Nat} {c:Int} {a:TExpr} (h:lY s i=l) (d:RD s (.level (l+1)) (nx s i) (.err p c)):RD s (.loop l a) i (.err p c)
 | Gm {l:Int} {i j:Nat} {a b:TExpr} {r:oa} (h:lY s i=l) (d:RD s (.level (l+1)) (nx s i) (.ok b j)) (d2:RD s (.loop l (.mk (gi (sy s i)).2 0 [] [a,b])) j r):RD s (.loop l a) i r
 | Al {i:Nat} {r:oa} (h:tL (sy s i)=0) (d:RD s .mY i r):RD s .un i r
 | EV {i p:Nat} {c:Int} (h:tL (sy s i)≠0) (d:RD s .un (nx s i) (.err p c)):RD s .un i (.err p c)
 | K3 {i j:Nat} {a:TExpr} (h:tL (sy s i)≠0) (d:RD s .un (nx s i) (.ok a j)):RD s .un i (.ok (.mk (tL (sy s i)) 0 [] [a]) j)
 | EW {i:Nat} (h:kd s i=1) (hv:(nS (tx s i)).2=0):RD s .mY i (.ok (.mk 1 (nS (tx s i)).1 [] []) (nx s i))
 | Am {i:Nat} (h:kd s i=1) (hv:(nS (tx s i)).2≠0):RD s .mY i (.err (skip s i) (nS (tx s i)).2)
 | EY {i:Nat} (h:kd s i=2) (hv:rName (tx s i)=true):RD s .mY i (.ok (.mk 2 0 (tx s i) []) (nx s i))
 | An {i:Nat} (h:kd s i=2) (hv:rName (tx s i)=false):RD s .mY i (.err (skip s i) 10)
 | EZ {i:Nat} (h1:kd s i≠1) (h2:kd s i≠2) (h:sy s i≠[40]):RD s .mY i (.err (skip s i) 6)
 | K4 {i p:Nat} {c:Int} (h:sy s i=[40]) (d:RD s .expr (nx s i) (.err p c)):RD s .mY i (.err p c)
 | wD {i j:Nat} {e:TExpr} (h:sy s i=[40]) (d:RD s .expr (nx s i) (.ok e j)) (h2:sy s j≠[41]):RD s .mY i (.err (skip s j) 6)
 | K5 {i j:Nat} {e:TExpr} (h:sy s i=[40]) (d:RD s .expr (nx s i) (.ok e j)) (h2:sy s j=[41]):RD s .mY i (.ok e (nx s j))
inductive Tl(s:Bs):Int->TExpr->Nat->oa->Prop
 | top {a:TExpr} {i:Nat}:Tl s 13 a i (.ok a i)
 | err {l:Int} {a:TExpr} {i p:Nat} {c:Int} (h3:3<=l) (hl:l<=12) (t:Tl s (l+1) a i (.err p c)):Tl s l a i (.err p c)
 | go {l:Int} {a b:TExpr} {i j:Nat} {r:oa} (h3:3<=l) (hl:l<=12) (t:Tl s (l+1) a i (.ok b j)) (d:RD s (.loop l b) j r):Tl s l a i r
theorem Ph{s:Bs}{a:TExpr}{i:Nat}:∀(k:Nat)(l:Int),l+k=13->3<=l->lY s i<l->Tl s l a i (.ok a i)
 | 0,l,hk,_,_=>by
  obtain rfl:l=13:=om
  exact .top
 | k+1,l,hk,h3,h=>.go h3 om (Ph k (l+1) om om om) (.vu om)
theorem acS{s:Bs}{l:Int}{a:TExpr}{i:Nat}{r:oa}(t:Tl s l a i r):lY s i<l->r=.ok a i:=by
 induction t with
 | top=>intro _;rfl
 | err h3 hl t ih=>grind
 | @go l a b i j r h3 hl t d ih=>
  intro h;cases ih om
  cases d with
  | vu _=>rfl
  | Cw h' _=>simp_all
  | Gm h' _ _=>simp_all
theorem afi{s:Bs}{a b:TExpr}{i j:Nat}(hd:RD s (.level (lY s i+1)) (nx s i) (.ok b j))(hj:lY s j<lY s i+1)(h12:lY s i<=12):
  ∀(k:Nat)(l:Int)(r:oa),l+k=lY s i->3<=l->Tl s l (.mk (gi (sy s i)).2 0 [] [a,b]) j r->Tl s l a i r
 | 0,l,r,hk,h3,t=>by
  have hk':lY s i=l:=om;rw [hk'] at hd hj h12;have hs:Tl s (l+1) a i (.ok a i):=Ph (13-(l+1)).toNat _ om om om;generalize hx:TExpr.mk (gi (sy s i)).2 0 [] [a,b]=x at t
  cases t with
  | top=>omega
  | err _ _ t=>cases acS t hj
  | go _ _ t d=>
   cases acS t hj;subst hx
   exact .go h3 h12 hs (.Gm hk' hd d)
 | k+1,l,r,hk,h3,t=>by
  generalize hx:TExpr.mk (gi (sy s i)).2 0 [] [a,b]=x at t
  cases t with
  | top=>omega
  | err _ _ t=>subst hx;exact .err h3 om (afi hd hj h12 k (l+1) _ om om t)
  | go _ _ t d=>subst hx;exact .go h3 om (afi hd hj h12 k (l+1) _ om om t) d
theorem ahb{s:Bs}{a:TExpr}{i p:Nat}{c:Int}(hd:RD s (.level (lY s i+1)) (nx s i) (.err p c))(h12:lY s i<=12):
  ∀(k:Nat)(l:Int),l+k=lY s i->3<=l->Tl s l a i (.err p c)
 | 0,l,hk,h3=>by
  obtain rfl:l=lY s i:=om
  exact .go h3 h12 (Ph (13-(lY s i+1)).toNat _ om om om) (.Cw rfl hd)
 | k+1,l,hk,h3=>.err h3 om (ahb hd h12 k (l+1) om om)
theorem ajh{s:Bs}{a:TExpr}{i j:Nat}(hu:RD s .un i (.ok a j)){l:Int}{r:oa}(t:Tl s l a j r):RD s (.level l) i r:=by
 induction t with
 | top=>exact .afh om hu
 | err h3 hl t ih=>exact .Ym h3 hl (ih hu)
 | go h3 hl t d ih=>exact .ajg h3 hl (ih hu) d
theorem WG{s:Bs}{i p:Nat}{c:Int}(hu:RD s .un i (.err p c)):∀(k:Nat)(l:Int),l+k=13->3<=l->RD s (.level l) i (.err p c)
 | 0,l,hk,_=>.afh om hu
 | k+1,l,hk,h3=>.Ym h3 om (WG hu k (l+1) om om)
theorem alk{s:Bs}{c:mJ}{i:Nat}{r:oa}(d:D s c i r):∀l,(c=.oper l\/∃a,c=.loop l a)->∀e j,r=.ok e j->lY s j<l:=by
 induction d with
 | Vg d d2 ih ih2=>
  simp_all
 | vu h=>
  simp_all
 | Gm h d d2 ih ih2=>
  simp_all
 | _=>simp_all
def MR(s:Bs):mJ->Nat->oa->Prop
 | .expr,i,r=>RD s .expr i r
 | .cond,i,r=>RD s .cond i r
 | .oper l,i,r=>3<=l->l<=13->RD s (.level l) i r
 | .loop l a,i,r=>3<=l->l<=13->Tl s l a i r
 | .un,i,r=>RD s .un i r
 | .mY,i,r=>RD s .mY i r
theorem apW{s:Bs}{c:mJ}{i:Nat}{r:oa}(d:D s c i r):MR s c i r:=by
 induction d with
 | Aj h d ih=>exact .Aj h ih
 | Ak h hn=>exact .Ak h hn
 | EM h hn d ih=>exact .EM h hn ih
 | EN h hn d ih=>exact .EN h hn ih
 | EO d ih=>exact .EO (ih de de)
 | ER d h ih=>exact .ER (ih de de) h
 | ES d h d2 ih ih2=>exact .ES (ih de de) h ih2
 | ET d h d2 h2 ih ih2=>exact .ET (ih de de) h ih2 h2
 | K2 d h d2 h2 d3 ih ih2 ih3=>exact .K2 (ih de de) h ih2 h2 ih3
 | EU d h d2 h2 d3 ih ih2 ih3=>exact .EU (ih de de) h ih2 h2 ih3
 | @TA l i p c d ih=>exact fun h3 Wz=>WG ih (13-l).toNat l om h3
 | Vg d d2 ih ih2=>exact fun h3 Wz=>ajh ih (ih2 h3 Wz)
 | @vu l i a h=>exact fun h3 Wz=>Ph (13-l).toNat l om h3 h
 | @Cw l i p c a h d ih=>
  intro h3 Wz;have hlv:0<=lY s i/\lY s i<=12/\(lY s i=0\/3<=lY s i):=(xN s i).lv;have h:l<=lY s i:=h
  exact ahb (ih (show 3<=lY s i+1 by omega) (show lY s i+1<=13 by omega)) hlv.2.1 (lY s i-l).toNat l om h3
 | @Gm l i j a b r h d d2 ih ih2=>
  intro h3 Wz;have hlv:0<=lY s i/\lY s i<=12/\(lY s i=0\/3<=lY s i):=(xN s i).lv;have h:l<=lY s i:=h
  exact afi (ih (show 3<=lY s i+1 by omega) (show lY s i+1<=13 by omega)) (alk d _ (.inl rfl) _ _ rfl) hlv.2.1 (lY s i-l).toNat l r om h3 (ih2 h3 Wz)
 | Al h d ih=>exact .Al h ih
 | EV h d ih=>exact .EV h ih
 | K3 h d ih=>exact .K3 h ih
 | EW h hv=>exact .EW h hv
 | Am h hv=>exact .Am h hv
 | EY h hv=>exact .EY h hv
 | An h hv=>exact .An h hv
 | EZ h1 h2 h=>exact .EZ h1 h2 h
 | K4 h d ih=>exact .K4 h ih
 | wD h d h2 ih=>exact .wD h ih h2
 | K5 h d h2 ih=>exact .K5 h ih h2
end Go.Proofs.YthmndfnkdgmenaaGreatDoor.K
namespace Go.Proofs.YthmndfnkdgmenaaGreatDoor.K
open Go.RT
set_option maxRecDepth 100000
abbrev RA:=(TExpr×Bs×Int×Int×Bs) ⊕ (dD×Bs×Int×Int×Bs)
abbrev SA:=Bs×Int×Int×Bs×Int×Int×Bs×(J TExpr)
def po(s:Bs)(i:Nat):Int:=(skip s i:Int)
def kH(s:Bs):oa->O RA->Prop
 | .ok e j,x=>x=some (.inl (e,s,kd s j,po s j,tx s j))
 | .err p c,x=>∃st,x=some (.inr (⟨p,c⟩,st))
def Ao(F:Nat)(r:Int->Bs->Int->Int->Bs->O RA)(l:Int):(SA->O RA)->SA->O RA:=
 (fun gG x2=>
 (jC F x2.1 x2.2.1 x2.2.2.1 x2.2.2.2.1).bind fun x4=>
 cond (decide (x4.1<l))
 (some (.inl ((TExpr.mk ((TExpr.mk x2.2.2.2.2.1 x2.2.2.2.2.2.1 x2.2.2.2.2.2.2.1 x2.2.2.2.2.2.2.2).fOp) ((TExpr.mk x2.2.2.2.2.1 x2.2.2.2.2.2.1 x2.2.2.2.2.2.2.1 x2.2.2.2.2.2.2.2).fN) ((TExpr.mk x2.2.2.2.2.1 x2.2.2.2.2.2.1 x2.2.2.2.2.2.2.1 x2.2.2.2.2.2.2.2).fName) ((TExpr.mk x2.2.2.2.2.1 x2.2.2.2.2.2.1 x2.2.2.2.2.2.2.1 x2.2.2.2.2.2.2.2).fKids)),x2.1,x2.2.1,x2.2.2.1,x2.2.2.2.1)))
 ((eH F x2.1 x2.2.1 x2.2.2.1 x2.2.2.2.1).bind fun x5=>
 (r (aB (x4.1+1)) x5.1 x5.2.1 x5.2.2.1 x5.2.2.2).bind (sm (fun x6=>
 gG (x6.2.1,x6.2.2.1,x6.2.2.2.1,x6.2.2.2.2,(TExpr.mk x4.2 0 [] ([(TExpr.mk x2.2.2.2.2.1 x2.2.2.2.2.2.1 x2.2.2.2.2.2.2.1 x2.2.2.2.2.2.2.2),(TExpr.mk x6.1.fOp x6.1.fN x6.1.fName x6.1.fKids)]:J TExpr)).fOp,(TExpr.mk x4.2 0 [] ([(TExpr.mk x2.2.2.2.2.1 x2.2.2.2.2.2.1 x2.2.2.2.2.2.2.1 x2.2.2.2.2.2.2.2),(TExpr.mk x6.1.fOp x6.1.fN x6.1.fName x6.1.fKids)]:J TExpr)).fN,(TExpr.mk x4.2 0 [] ([(TExpr.mk x2.2.2.2.2.1 x2.2.2.2.2.2.1 x2.2.2.2.2.2.2.1 x2.2.2.2.2.2.2.2),(TExpr.mk x6.1.fOp x6.1.fN x6.1.fName x6.1.fKids)]:J TExpr)).fName,(TExpr.mk x4.2 0 [] ([(TExpr.mk x2.2.2.2.2.1 x2.2.2.2.2.2.1 x2.2.2.2.2.2.2.1 x2.2.2.2.2.2.2.2),(TExpr.mk x6.1.fOp x6.1.fN x6.1.fName x6.1.fKids)]:J TExpr)).fKids)) (fun x7=>some (.inr (x7.1,x7.2.1,x7.2.2.1,x7.2.2.2.1,x7.2.2.2.2))))))
theorem Pj(s:Bs)(i:Nat)(hi:i<=s.length):td s i=⟨kd s i,po s i,tx s i⟩:=by
 unfold kd tx po;rcases lM s i hi with⟨h,_,_,_⟩|⟨w,b,h,_,_,_,hl⟩|⟨w,b,h,_,_,_,hl⟩|⟨x,h,_,_,hm,hl⟩|⟨b,h,_,_,hl⟩<;>rw [h]
theorem alm(X:O RA):X.bind (sm (fun x=>some (.inl ((TExpr.mk x.1.fOp x.1.fN x.1.fName x.1.fKids),x.2.1,x.2.2.1,x.2.2.2.1,x.2.2.2.2))) (fun x=>some (.inr (x.1,x.2.1,x.2.2.1,x.2.2.2.1,x.2.2.2.2))))=X:=by
 cases X with
 | none=>rfl
 | some y=>grind [sm,TExpr.eta]
section
variable {s : Bs} {i F : Nat} (hl : s.length <= 1000000) (hi : i <= s.length) (hF : s.length + 60 <= F)
include hl hi hF
theorem Gp:nh F s (kd s i) (po s i) (tx s i)=some (td s (nx s i)):=by
 unfold nh;obtain⟨a,_,_⟩:=kj s i hi;have e:po s i+((tx s i).length:Int)=((nx s i:Nat):Int):=by unfold po nx;omega
 grind [bG,Vb]
theorem rU:eH F s (kd s i) (po s i) (tx s i)=some (s,kd s (nx s i),po s (nx s i),tx s (nx s i)):=by
 unfold eH
 simp_all [kj,Gp,Pj]
theorem jT{x:Bs}(hx:x≠[]):iz F x s (kd s i) (po s i) (tx s i)=some (sy s i==x):=by
 unfold iz;by_cases h:sy s i=[]
 ·have hk:(cond (kd s i==3) (some (tx s i==x)) (some false):O Bool)=some false:=by
   unfold kd tx;rcases lM s i hi with⟨h',_,_,_⟩|⟨w,b,h',_,_,_,_⟩|⟨w,b,h',_,_,_,_⟩|⟨x',h',hs,_,hm,_⟩|⟨b,h',_,_,_⟩<;>rw [h']<;>try rfl
   simp_all
  simp_all
 simp_all [Ai]
theorem Vi:jC F s (kd s i) (po s i) (tx s i)=some (gi (sy s i)):=by
 by_cases h:sy s i=[]
 ·rw [h]
  have hk:(kd s i==3)=false:=by
   unfold kd;rcases lM s i hi with⟨h',_,_,_⟩|⟨w,b,h',_,_,_,_⟩|⟨w,b,h',_,_,_,_⟩|⟨x',h',hs,_,hm,_⟩|⟨b,h',_,_,_⟩<;>rw [h']<;>try rfl
   simp_all [BX]
  unfold jC;rw [hk];rfl
 ·obtain⟨h1,h2⟩:=Ai s i hi h
  rw [h1,h2];obtain⟨G,rfl⟩:∃G,F=G+20:=⟨F-20,om⟩;exact (xN s i).bin G s _
theorem HT:pH F (td s i)=some (cond (rT (sy s i) == -1) 0 (rT (sy s i)),!(rT (sy s i) == -1)):=by
 by_cases h:sy s i=[]
 ·rw [h]
  have hk:((td s i).uD != 3)=true:=by
   rcases lM s i hi with⟨h',_,_,_⟩|⟨w,b,h',_,_,_,_⟩|⟨w,b,h',_,_,_,_⟩|⟨x',h',hs,_,hm,_⟩|⟨b,h',_,_,_⟩<;>rw [h']<;>try rfl
   simp_all [BX]
  unfold pH;rw [hk];rfl
 ·obtain⟨h1,h2⟩:=Ai s i hi h
  rw [Pj s i hi,h1,h2];obtain⟨G,rfl⟩:∃G,F=G+20:=⟨F-20,om⟩;exact (xN s i).asg G _
theorem wE{x:Bs}(hx:x≠[])(h:sy s i=x):iu F x s (kd s i) (po s i) (tx s i)=some (.inl (s,kd s (nx s i),po s (nx s i),tx s (nx s i))):=by
 unfold iu
 simp_all [jT,rU,jj,sm]
theorem N6{x:Bs}(hx:x≠[])(h:sy s i≠x):iu F x s (kd s i) (po s i) (tx s i)=some (.inr ⟨po s i,6⟩):=by
 unfold iu;have:(sy s i==x)=false:=by simp_all
 rw [jT hl hi hF hx,this];rfl
omit hF hl in
theorem ahc:(tx s i).length<=s.length:=by
 obtain⟨a,_,_⟩:=kj s i hi;unfold nx at a;omega
omit hF hl in
theorem aoM(h:kd s i=1\/kd s i=2):tx s i≠[]:=by
 unfold kd at h;unfold tx;rcases lM s i hi with⟨h',_,_,_⟩|⟨w,b,h',_,_,_,_⟩|⟨w,b,h',_,_,_,_⟩|⟨x',h',hs,_,hm,_⟩|⟨b,h',_,_,_⟩<;>rw [h'] at h⊢ <;> simp at h⊢
theorem aaF(h:kd s i=1):xJ F (tx s i)=some (nS (tx s i)):=by
 grind [ahc,ai2,aoM]
theorem Vj(h:rName (tx s i)=true):iD F s (kd s i) (po s i) (tx s i)=some (.inl (tx s i,s,kd s (nx s i),po s (nx s i),tx s (nx s i))):=by
 unfold iD
 grind [DC,rU]
theorem ahd(h:rName (tx s i)=false):iD F s (kd s i) (po s i) (tx s i)=some (.inr ⟨po s i,10⟩):=by
 unfold iD
 grind [DC]
end
def StA(s:Bs):mJ->Nat->oa->Prop
 | .expr,i,r=>bH fun F n=>kH s r (aR F n s (kd s i) (po s i) (tx s i))
 | .cond,i,r=>bH fun F n=>kH s r (bn F n s (kd s i) (po s i) (tx s i))
 | .oper l,i,r=>bH fun F n=>kH s r (aL F n l s (kd s i) (po s i) (tx s i))
 | .loop l a,i,r=>∃N,∀F n m,N<=F->N<=n->N<=m->kH s r (bV (Ao F (aL F n) l) m (s,kd s i,po s i,tx s i,a.fOp,a.fN,a.fName,a.fKids))
 | .un,i,r=>bH fun F n=>kH s r (bF F n s (kd s i) (po s i) (tx s i))
 | .mY,i,r=>bH fun F n=>kH s r (bz F n s (kd s i) (po s i) (tx s i))
theorem gv(s:Bs):bH fun F _=>s.length+60<=F:=bH.ge (s.length+60) fun F n h _=>h
theorem D_A{s:Bs}(hl:s.length<=1000000){c:mJ}{i:Nat}{r:oa}(d:D s c i r):i<=s.length->c.okL->StA s c i r:=by
 induction d with
 | @Aj i r h d ih=>
  intro hi _;refine bH.succ (bH.kE (ih hi trivial) (gv s) fun F n h1 hF=>?_);show kH s r (eA F (aR F n) (bn F n) (aL F n) (bF F n) (bz F n) s (kd s i) (po s i) (tx s i));unfold eA;rw [alm]
  cases hk:(kd s i==2) with
  | false=>
   grind
  | true=>
   have:(kd s i != 2)=false:=by unfold bne;rw [hk];rfl
   unfold jd at h;rw [hk] at h;simp only [bq] at h;obtain⟨a,_,_⟩:=kj s i hi;rw [this,Gp hl hi hF]
   simp_all [aS,aC,HT]
 | @Ak i h hn=>
  intro hi _;refine bH.succ (bH.mono (gv s) fun F n hF=>?_);obtain⟨hk,h2,_⟩:=N5 h;obtain⟨a,_,_⟩:=kj s i hi;show kH s _ (eA F (aR F n) (bn F n) (aL F n) (bF F n) (bz F n) s (kd s i) (po s i) (tx s i));unfold eA;have h3:(rT (sy s (nx s i)) == -1)=false:=by simp_all
  rw [Gp hl hi hF,ahd hl hi hF hn];simp only [aC];rw [HT hl a hF,h3,hk]
  exact⟨_,rfl⟩
 | @EM i j e h hn d ih=>
  intro hi _;obtain⟨m1,m2,m3,m4⟩:=vw hi h;refine bH.succ (bH.kE (ih m3 trivial) (gv s) fun F n h1 hF=>?_);obtain⟨hk,h2,he⟩:=N5 h;show kH s _ (eA F (aR F n) (bn F n) (aL F n) (bF F n) (bz F n) s (kd s i) (po s i) (tx s i));unfold eA;have h3:(rT (sy s (nx s i)) == -1)=false:=by simp_all
  have h1:aR F n s _ _ _=_:=h1;rw [Gp hl hi hF,Vj hl hi hF hn];simp only [aC];rw [HT hl m1 hF,h3,hk,he];simp only [ME,aS,uL,ku,sm];rw [rU hl m1 hF];simp only [aC];rw [h1]
  rfl
 | @EN i p c h hn d ih=>
  intro hi _;obtain⟨m1,m2,m3,m4⟩:=vw hi h;refine bH.succ (bH.kE (ih m3 trivial) (gv s) fun F n h1 hF=>?_);obtain⟨hk,h2,he⟩:=N5 h;show kH s _ (eA F (aR F n) (bn F n) (aL F n) (bF F n) (bz F n) s (kd s i) (po s i) (tx s i));unfold eA;have h3:(rT (sy s (nx s i)) == -1)=false:=by simp_all
  obtain⟨st,h1⟩:=h1;rw [Gp hl hi hF,Vj hl hi hF hn];simp only [aC];rw [HT hl m1 hF,h3,hk];simp only [ME,aS,uL,ku,sm];rw [rU hl m1 hF];simp only [aC];rw [h1]
  exact⟨_,rfl⟩
 | @EO i p c d ih=>
  intro hi _;refine bH.succ (bH.mono (ih hi (show (0:Int)<3 by decide)) fun F n h1=>?_);show kH s _ (cQ F (aR F n) (bn F n) (aL F n) (bF F n) (bz F n) s (kd s i) (po s i) (tx s i));unfold cQ;obtain⟨st,h1⟩:=h1;rw [h1]
  exact⟨_,rfl⟩
 | @ER i j a d h ih=>
  intro hi _;obtain⟨x,y,z⟩:=lN d hi (show (0:Int)<3 by decide);refine bH.succ (bH.kE (ih hi (show (0:Int)<3 by decide)) (gv s) fun F n h1 hF=>?_);show kH s _ (cQ F (aR F n) (bn F n) (aL F n) (bF F n) (bz F n) s (kd s i) (po s i) (tx s i));unfold cQ;have h1:aL F n 3 s _ _ _=_:=h1;have hb:(sy s j==[63])=false:=by simp_all
  rw [h1];simp only [aC,sm];rw [jT hl y hF de,hb]
  simp_all
 | @ES i j p c a d h d2 ih ih2=>
  intro hi _;obtain⟨x,y,z⟩:=lN d hi (show (0:Int)<3 by decide);obtain⟨m1,m2⟩:=dz y (by rw [h];decide);refine bH.succ (bH.BU (ih hi (show (0:Int)<3 by decide)) (ih2 m1 trivial) (gv s) fun F n h1 h2 hF=>?_);show kH s _ (cQ F (aR F n) (bn F n) (aL F n) (bF F n) (bz F n) s (kd s i) (po s i) (tx s i));unfold cQ;have h1:aL F n 3 s _ _ _=_:=h1;obtain⟨st,h2⟩:=h2;rw [h1];simp only [aC,sm];rw [jT hl y hF de,h,rU hl y hF];simp only [aC];rw [h2]
  exact⟨_,rfl⟩
 | @ET i j k a b d h d2 h2 ih ih2=>
  intro hi _;obtain⟨x,y,z⟩:=lN d hi (show (0:Int)<3 by decide);obtain⟨m1,m2⟩:=dz y (by rw [h];decide);obtain⟨x2,y2,z2⟩:=lN d2 m1 trivial;refine bH.succ (bH.BU (ih hi (show (0:Int)<3 by decide)) (ih2 m1 trivial) (gv s) fun F n h1 h3 hF=>?_);show kH s _ (cQ F (aR F n) (bn F n) (aL F n) (bF F n) (bz F n) s (kd s i) (po s i) (tx s i));unfold cQ;have h1:aL F n 3 s _ _ _=_:=h1;have h3:aR F n s _ _ _=_:=h3;rw [h1];simp only [aC,sm];rw [jT hl y hF de,h,rU hl y hF];simp only [aC];rw [h3];simp only [aC,sm];rw [N6 hl y2 hF de h2]
  exact⟨_,rfl⟩
 | @K2 i j k p c a b d h d2 h2 d3 ih ih2 ih3=>
  intro hi _;obtain⟨x,y,z⟩:=lN d hi (show (0:Int)<3 by decide);obtain⟨m1,m2⟩:=dz y (by rw [h];decide);obtain⟨x2,y2,z2⟩:=lN d2 m1 trivial;obtain⟨m3,m4⟩:=dz y2 (by rw [h2];decide);refine bH.succ (bH.BU ((ih hi (show (0:Int)<3 by decide)).and (ih3 m3 trivial)) (ih2 m1 trivial) (gv s) fun F n h1 h3 hF=>?_);show kH s _ (cQ F (aR F n) (bn F n) (aL F n) (bF F n) (bz F n) s (kd s i) (po s i) (tx s i));unfold cQ;obtain⟨h1,st,h4⟩:=h1;have h1:aL F n 3 s _ _ _=_:=h1;have h3:aR F n s _ _ _=_:=h3;rw [h1];simp only [aC,sm];rw [jT hl y hF de,h,rU hl y hF];simp only [aC];rw [h3];simp only [aC,sm];rw [wE hl y2 hF de h2];simp only [aC,sm];rw [h4]
  exact⟨_,rfl⟩
 | @EU i j k m a b e d h d2 h2 d3 ih ih2 ih3=>
  intro hi _;obtain⟨x,y,z⟩:=lN d hi (show (0:Int)<3 by decide);obtain⟨m1,m2⟩:=dz y (by rw [h];decide);obtain⟨x2,y2,z2⟩:=lN d2 m1 trivial;obtain⟨m3,m4⟩:=dz y2 (by rw [h2];decide);refine bH.succ (bH.BU ((ih hi (show (0:Int)<3 by decide)).and (ih3 m3 trivial)) (ih2 m1 trivial) (gv s) fun F n h1 h3 hF=>?_);show kH s _ (cQ F (aR F n) (bn F n) (aL F n) (bF F n) (bz F n) s (kd s i) (po s i) (tx s i));unfold cQ;obtain⟨h1,h4⟩:=h1;have h1:aL F n 3 s _ _ _=_:=h1;have h3:aR F n s _ _ _=_:=h3;have h4:bn F n s _ _ _=_:=h4;rw [h1];simp only [aC,sm];rw [jT hl y hF de,h,rU hl y hF];simp only [aC];rw [h3];simp only [aC,sm];rw [wE hl y2 hF de h2];simp only [aC,sm];rw [h4];simp only [aC,sm,TExpr.eta]
  rfl
 | @TA l i p c d ih=>
  intro hi _;refine bH.succ (bH.mono (ih hi trivial) fun F n h1=>?_);show kH s _ (jI F (aR F n) (bn F n) (aL F n) (bF F n) (bz F n) l s (kd s i) (po s i) (tx s i));unfold jI;obtain⟨st,h1⟩:=h1;rw [h1]
  exact⟨_,rfl⟩
 | @Vg l i j a r d d2 ih ih2=>
  intro hi hc;obtain⟨x,y,z⟩:=lN d hi trivial;obtain⟨N,h2⟩:=ih2 y hc;refine bH.succ (bH.kE (ih hi trivial) (bH.ge (p:=fun F n=>N<=F/\N<=n) N fun F n a b=>⟨a,b⟩) fun F n h1 hN=>?_);show kH s _ (jI F (aR F n) (bn F n) (aL F n) (bF F n) (bz F n) l s (kd s i) (po s i) (tx s i));unfold jI;have h1:bF F n s _ _ _=_:=h1;rw [h1]
  exact h2 F n F hN.1 hN.2 hN.1
 | @vu l i a h=>
  intro hi _;refine⟨s.length+60,fun F n m hF _ hm=>?_⟩
  cases m with
  | zero=>omega
  | succ m=>
   show kH s _ (Ao F (aL F n) l (bV (Ao F (aL F n) l) m) (s,kd s i,po s i,tx s i,a.fOp,a.fN,a.fName,a.fKids));unfold Ao;rw [Vi hl hi hF];simp only [aC,dQ h,bq,TExpr.eta]
   rfl
 | @Cw l i p c a h d ih=>
  intro hi hc;have hc:0<l:=hc;obtain⟨m1,m2⟩:=dz hi (yJ hc h);obtain⟨N,h1⟩:=ih m1 (show (0:Int)<_ by omega);have hlv:=(xN s i).lv;refine⟨N+s.length+60,fun F n m hF hn hm=>?_⟩
  cases m with
  | zero=>omega
  | succ m=>
   show kH s _ (Ao F (aL F n) l (bV (Ao F (aL F n) l) m) (s,kd s i,po s i,tx s i,a.fOp,a.fN,a.fName,a.fKids));unfold Ao;obtain⟨st,h1⟩:=h1 F n om om;rw [Vi hl hi om,rU hl hi om];have hx:decide ((gi (sy s i)).1<l)=false:=sO om;simp only [aC,hx,aS];rw [bG (x:=(gi (sy s i)).1+1) om,h1]
   exact⟨_,rfl⟩
 | @Gm l i j a b r h d d2 ih ih2=>
  intro hi hc;have sD:0<l:=hc;obtain⟨m1,m2⟩:=dz hi (yJ sD h);obtain⟨x,y,z⟩:=lN d m1 (show (0:Int)<_ by omega);obtain⟨N,h1⟩:=ih m1 (show (0:Int)<_ by omega);obtain⟨N2,h2⟩:=ih2 y hc;have hlv:=(xN s i).lv;refine⟨N+N2+s.length+60,fun F n m hF hn hm=>?_⟩
  cases m with
  | zero=>omega
  | succ m=>
   show kH s _ (Ao F (aL F n) l (bV (Ao F (aL F n) l) m) (s,kd s i,po s i,tx s i,a.fOp,a.fN,a.fName,a.fKids));have h1:aL F n _ s _ _ _=_:=h1 F n om om;have h2:=h2 F n m om om om;generalize hL:bV (Ao F (aL F n) l) m=L at h2⊢;unfold Ao;rw [Vi hl hi om,rU hl hi om];have hx:decide ((gi (sy s i)).1<l)=false:=sO om;simp only [aC,hx,aS]
   grind [bG,sm,TExpr.eta]
 | @Al i r h d ih=>
  intro hi _;refine bH.succ (bH.kE (ih hi trivial) (gv s) fun F n h1 hF=>?_);show kH s _ (iU F (aR F n) (bn F n) (aL F n) (bF F n) (bz F n) s (kd s i) (po s i) (tx s i));unfold iU;rw [jT hl hi hF de,jT hl hi hF de,jT hl hi hF de,jT hl hi hF de]
  have hu:(sy s i==[45])=false/\(sy s i==[43])=false/\(sy s i==[33])=false/\(sy s i==[126])=false:=by
   unfold tL at h
   grind
  obtain⟨u1,u2,u3,u4⟩:=hu;rw [u1,u2,u3,u4];revert h1
  cases bz F n s (kd s i) (po s i) (tx s i) with
  | none=>exact id
  | some X=>
   cases X with
   | inl X=>simp_all [aC,aS,jj,sm,TExpr.eta]
   | inr X=>simp_all [aC,aS,jj,sm,TExpr.eta]
 | @EV i p c h d ih=>
  intro hi _;obtain⟨m1,m2⟩:=dz hi (yY h);refine bH.succ (bH.kE (ih m1 trivial) (gv s) fun F n h1 hF=>?_);show kH s _ (iU F (aR F n) (bn F n) (aL F n) (bF F n) (bz F n) s (kd s i) (po s i) (tx s i));unfold iU;rw [jT hl hi hF de,jT hl hi hF de,jT hl hi hF de,jT hl hi hF de,rU hl hi hF];obtain⟨st,h1⟩:=h1;simp only [aC,h1];unfold tL at h;revert h
  cases (sy s i==[45])<;>cases (sy s i==[43])<;>cases (sy s i==[33])<;>cases (sy s i==[126])<;>intro h<;>first|exact⟨_,rfl⟩|exact absurd rfl h
 | @K3 i j a h d ih=>
  intro hi _;obtain⟨m1,m2⟩:=dz hi (yY h);refine bH.succ (bH.kE (ih m1 trivial) (gv s) fun F n h1 hF=>?_);show kH s _ (iU F (aR F n) (bn F n) (aL F n) (bF F n) (bz F n) s (kd s i) (po s i) (tx s i));unfold iU;rw [jT hl hi hF de,jT hl hi hF de,jT hl hi hF de,jT hl hi hF de,rU hl hi hF];have h1:bF F n s _ _ _=_:=h1;simp only [aC,h1];unfold tL at h⊢;revert h
  cases (sy s i==[45])<;>cases (sy s i==[43])<;>cases (sy s i==[33])<;>cases (sy s i==[126])<;>intro h<;>first|rfl|exact absurd rfl h
 | @EW i h hv=>
  intro hi _;refine bH.succ (bH.mono (gv s) fun F n hF=>?_);show kH s _ (cm F (aR F n) (bn F n) (aL F n) (bF F n) (bz F n) s (kd s i) (po s i) (tx s i));unfold cm;rw [aaF hl hi hF h,rU hl hi hF,h];simp only [FD,bq,aC,hv,ME,aS]
  rfl
 | @Am i h hv=>
  intro hi _;refine bH.succ (bH.mono (gv s) fun F n hF=>?_);show kH s _ (cm F (aR F n) (bn F n) (aL F n) (bF F n) (bz F n) s (kd s i) (po s i) (tx s i));unfold cm;have iZ:((nS (tx s i)).2 != 0)=true:=by simpa using hv
  rw [aaF hl hi hF h,h];simp only [FD,bq,aC,iZ]
  exact⟨_,rfl⟩
 | @EY i h hv=>
  intro hi _;refine bH.succ (bH.mono (gv s) fun F n hF=>?_);show kH s _ (cm F (aR F n) (bn F n) (aL F n) (bF F n) (bz F n) s (kd s i) (po s i) (tx s i));unfold cm;rw [Vj hl hi hF hv,h]
  rfl
 | @An i h hv=>
  intro hi _;refine bH.succ (bH.mono (gv s) fun F n hF=>?_);show kH s _ (cm F (aR F n) (bn F n) (aL F n) (bF F n) (bz F n) s (kd s i) (po s i) (tx s i));unfold cm;rw [ahd hl hi hF hv,h]
  exact⟨_,rfl⟩
 | @EZ i h1 h2 h=>
  intro hi _;refine bH.succ (bH.mono (gv s) fun F n hF=>?_);show kH s _ (cm F (aR F n) (bn F n) (aL F n) (bF F n) (bz F n) s (kd s i) (po s i) (tx s i));unfold cm;have k1:(kd s i==1)=false:=by simp_all
  have k2:(kd s i==2)=false:=by simp_all
  rw [N6 hl hi hF de h,k1,k2]
  exact⟨_,rfl⟩
 | @K4 i p c h d ih=>
  intro hi _;obtain⟨m1,m2⟩:=dz hi (by rw [h];decide);refine bH.succ (bH.kE (ih m1 trivial) (gv s) fun F n h1 hF=>?_);show kH s _ (cm F (aR F n) (bn F n) (aL F n) (bF F n) (bz F n) s (kd s i) (po s i) (tx s i));unfold cm;have hk:=(Ai s i hi (by rw [h];decide)).1;obtain⟨st,h1⟩:=h1;rw [wE hl hi hF de h,hk];simp only [aC,sm];rw [h1]
  exact⟨_,rfl⟩
 | @wD i j e h d h2 ih=>
  intro hi _;obtain⟨m1,m2⟩:=dz hi (by rw [h];decide);obtain⟨x,y,z⟩:=lN d m1 trivial;refine bH.succ (bH.kE (ih m1 trivial) (gv s) fun F n h1 hF=>?_);show kH s _ (cm F (aR F n) (bn F n) (aL F n) (bF F n) (bz F n) s (kd s i) (po s i) (tx s i));unfold cm;have hk:=(Ai s i hi (by rw [h];decide)).1;have h1:aR F n s _ _ _=_:=h1;rw [wE hl hi hF de h,hk];simp only [aC,sm];rw [h1];simp only [aC,sm];rw [N6 hl y hF de h2]
  exact⟨_,rfl⟩
 | @K5 i j e h d h2 ih=>
  intro hi _;obtain⟨m1,m2⟩:=dz hi (by rw [h];decide);obtain⟨x,y,z⟩:=lN d m1 trivial;refine bH.succ (bH.kE (ih m1 trivial) (gv s) fun F n h1 hF=>?_);show kH s _ (cm F (aR F n) (bn F n) (aL F n) (bF F n) (bz F n) s (kd s i) (po s i) (tx s i));unfold cm;have hk:=(Ai s i hi (by rw [h];decide)).1;have h1:aR F n s _ _ _=_:=h1;rw [wE hl hi hF de h,hk];simp only [aC,sm];rw [h1];simp only [aC,sm];rw [wE hl y hF de h2];simp only [aC,sm,TExpr.eta];rfl
end Go.Proofs.YthmndfnkdgmenaaGreatDoor.K
namespace Go.Proofs.YthmndfnkdgmenaaGreatDoor.K
open Go.RT
set_option maxRecDepth 100000
abbrev RR:=TExpr×Bs×Int×Int×Int
abbrev SR:=Bs×Int×Int×Int×Int×Int×Bs×(J TExpr)
def kf(s:Bs):oa->O RR->Prop
 | .ok e j,x=>∃a:Nat,a<=s.length/\skip s a=skip s j/\x=some (e,s,(a:Int),0,0)
 | .err p c,x=>c≠0/\∃(e:TExpr)(a:Nat),a<=s.length/\x=some (e,s,(a:Int),c,(p:Int))
def q9(F:Nat)(r:Int->Bs->Int->Int->Int->O RR)(l:Int):(SR->O RR)->SR->O RR:=
 (fun kR x3=>
 cond (x3.2.2.1==0)
 ((gH F x3.1 x3.2.1 x3.2.2.1 x3.2.2.2.1).bind fun x5=>
 (kG F x5.1 l).bind fun x6=>
 cond (x6==0)
 (some ((TExpr.mk ((TExpr.mk x3.2.2.2.2.1 x3.2.2.2.2.2.1 x3.2.2.2.2.2.2.1 x3.2.2.2.2.2.2.2).fOp) ((TExpr.mk x3.2.2.2.2.1 x3.2.2.2.2.2.1 x3.2.2.2.2.2.2.1 x3.2.2.2.2.2.2.2).fN) ((TExpr.mk x3.2.2.2.2.1 x3.2.2.2.2.2.1 x3.2.2.2.2.2.2.1 x3.2.2.2.2.2.2.2).fName) ((TExpr.mk x3.2.2.2.2.1 x3.2.2.2.2.2.1 x3.2.2.2.2.2.2.1 x3.2.2.2.2.2.2.2).fKids)),x5.2.1,x5.2.2.1,x5.2.2.2.1,x5.2.2.2.2))
 ((r (aB (l+1)) x5.2.1 (aB (x5.2.2.1+(x5.1.length:Int))) x5.2.2.2.1 x5.2.2.2.2).bind fun x7=>
 kR (x7.2.1,x7.2.2.1,x7.2.2.2.1,x7.2.2.2.2,(TExpr.mk x6 0 [] ([(TExpr.mk x3.2.2.2.2.1 x3.2.2.2.2.2.1 x3.2.2.2.2.2.2.1 x3.2.2.2.2.2.2.2),x7.1]:J TExpr)).fOp,(TExpr.mk x6 0 [] ([(TExpr.mk x3.2.2.2.2.1 x3.2.2.2.2.2.1 x3.2.2.2.2.2.2.1 x3.2.2.2.2.2.2.2),x7.1]:J TExpr)).fN,(TExpr.mk x6 0 [] ([(TExpr.mk x3.2.2.2.2.1 x3.2.2.2.2.2.1 x3.2.2.2.2.2.2.1 x3.2.2.2.2.2.2.2),x7.1]:J TExpr)).fName,(TExpr.mk x6 0 [] ([(TExpr.mk x3.2.2.2.2.1 x3.2.2.2.2.2.1 x3.2.2.2.2.2.2.1 x3.2.2.2.2.2.2.2),x7.1]:J TExpr)).fKids)))
 (some ((TExpr.mk ((TExpr.mk x3.2.2.2.2.1 x3.2.2.2.2.2.1 x3.2.2.2.2.2.2.1 x3.2.2.2.2.2.2.2).fOp) ((TExpr.mk x3.2.2.2.2.1 x3.2.2.2.2.2.1 x3.2.2.2.2.2.2.1 x3.2.2.2.2.2.2.2).fN) ((TExpr.mk x3.2.2.2.2.1 x3.2.2.2.2.2.1 x3.2.2.2.2.2.2.1 x3.2.2.2.2.2.2.2).fName) ((TExpr.mk x3.2.2.2.2.1 x3.2.2.2.2.2.1 x3.2.2.2.2.2.2.1 x3.2.2.2.2.2.2.2).fKids)),x3.1,x3.2.1,x3.2.2.1,x3.2.2.2.1)))
section
variable {s : Bs} {a i : Nat} (h : skip s a = skip s i)
include h
theorem iQ:sy s a=sy s i:=by unfold sy;rw [h]
theorem Fw:kd s a=kd s i:=by unfold kd td;rw [h]
theorem yZ:tx s a=tx s i:=by unfold tx td;rw [h]
theorem jU:nx s a=nx s i:=by unfold nx;rw [h,yZ h]
theorem K6:jd s a=jd s i:=by unfold jd;rw [Fw h,jU h]
end
theorem acT:∀x,x∈([]::oC)->rT x=-1\/0<=rT x:=by decide
theorem ahe:∀n:Fin 256,dg (UInt8.ofNat n.val)=true->le (UInt8.ofNat n.val)=false:=by decide +kernel
theorem afj(b:UInt8):dg b=true->le b=false:=Re (P:=fun b=>dg b=true->le b=false) ahe b
theorem Gq(X:O RR):(X.bind fun x=>some ((TExpr.mk x.1.fOp x.1.fN x.1.fName x.1.fKids),x.2.1,x.2.2.1,x.2.2.2.1,x.2.2.2.2))=X:=by
 cases X with
 | none=>rfl
 | some y=>simp_all
section
variable {s : Bs} {a F : Nat} (hl : s.length <= 1000000) (hi : a <= s.length) (hF : s.length + 60 <= F)
include hl hi hF
theorem xO{x:Bs}(hx:x≠[])(h:sy s a=x):gZ F x s (a:Int) 0 0=some (true,s,(nx s a:Int),0,0):=by
 unfold gZ;rw [mG F s a 0 0 hi om hl];obtain⟨m1,m2⟩:=dz hi (by rw [h];exact hx);have e:sy s a=mP (s.drop (skip s a)):=rfl;have e2:nx s a=skip s a+x.length:=by unfold nx;simp_all [Ai]
 grind [bG]
theorem Yn{x:Bs}(h:sy s a≠x):gZ F x s (a:Int) 0 0=some (false,s,(skip s a:Int),0,0):=by
 unfold gZ;rw [mG F s a 0 0 hi om hl];have e:sy s a=mP (s.drop (skip s a)):=rfl
 grind
omit hl hi hF in
theorem N7{x:Bs}{at' c p:Int}(hc:c≠0):gZ F x s at' c p=some (false,s,at',c,p):=by
 unfold gZ;have:(c != 0)=true:=by simpa using hc
 rw [this];rfl
omit hl hi hF in
theorem Rh{at' c p c' p':Int}(hc:c≠0):fW F c' p' s at' c p=some (s,at',c,p):=by
 unfold fW;have:(c==0)=false:=by simpa using hc
 rw [this];rfl
theorem FQ(rs rc:Bs->Int->Int->Int->O RR)(rl:Int->Bs->Int->Int->Int->O RR)(ru rp:Bs->Int->Int->Int->O RR)(e pos:Int):
  iP F rs rc rl ru rp s (a:Int) e pos=cond (jd s a == -1) (rc s (skip s a:Int) e pos)
   ((rs s (nx s (nx s a):Int) (cond (rName (tx s a)) e (cond (e==0) 10 e)) (cond (rName (tx s a)) pos (cond (e==0) (skip s a:Int) pos))).bind fun x=>some (.mk 26 (jd s a) (tx s a) [x.1],x.2.1,x.2.2.1,x.2.2.2.1,x.2.2.2.2)):=by
 obtain⟨s1,s2⟩:=gQ s a hi;unfold iP;rw [sG F s a e pos hi om hl];simp only [aC];rw [KY F s _ e pos s1 om hl];simp only [aC]
 have hno:∀X:O ((Bs×Int×Int×Int) ⊕ RR),X=some (.inl (s,(skip s a:Int),e,pos))->jd s a=-1 ->
   (jj (σ:=Bs×Int×Int×Int) (R:=RR) X fun x3=>(rc x3.1 x3.2.1 x3.2.2.1 x3.2.2.2).bind fun fF=>some ((TExpr.mk fF.1.fOp fF.1.fN fF.1.fName fF.1.fKids),fF.2.1,fF.2.2.1,fF.2.2.2.1,fF.2.2.2.2))=rc s (skip s a:Int) e pos:=by
  intro X hX _;rw [hX];show (rc s (skip s a:Int) e pos).bind _=_;exact Gq _
 have hk2:kd s a≠2->jd s a=-1:=by
  intro hk;unfold jd;have:(kd s a==2)=false:=by rw [gN];exact hk
  rw [this];rfl
 rcases lM s a hi with⟨h',_,hw,_⟩|⟨w,b,h',_,hw,hd,hl'⟩|⟨w,b,h',hs,hw,hd,hl'⟩|⟨x',h',_,hw,hm,_⟩|⟨b,h',_,hw,_⟩
 ·have ha:=hk2 (by unfold kd;rw [h'];simp)
  rw [hno _ (by rw [hw];rfl) ha,ha];rfl
 ·have ha:=hk2 (by unfold kd;rw [h'];simp)
  rw [hno _ (by
   rw [hw];have hp:decide (0<((b::w).length:Int))=true:=dQ (by simp only [Bh];omega);show (((rq (decide (0<((b::w).length:Int))) ((mX F (b.toNat:Int)).bind fun x5=>some x5)):O Bool).bind _)=_;rw [hp,vq,afj b hd];rfl) ha,ha]
  rfl
 ·have hk:kd s a=2:=by unfold kd;rw [h']
  have ht:tx s a=b::w:=by unfold tx;rw [h']
  obtain⟨m1,m2,_⟩:=kj s a hi;have hn:(skip s a:Int)+((b::w).length:Int)=(nx s a:Int):=by unfold nx;rw [ht];omega
  have has:jd s a=rT (sy s (nx s a)):=by unfold jd;rw [hk];rfl
  rw [hw];have hp:decide (0<((b::w).length:Int))=true:=dQ (by simp only [Bh];omega);have hne:(!((b::w)==[]))=true:=rfl;simp only [hne,bq,hp,gz,Un,vq,hd,aC,hn];rw [bG (x:=(nx s a:Int)) om,mG F s (nx s a) e pos m1 om hl];simp only [aC];rw [show mP (s.drop (skip s (nx s a)))=sy s (nx s a) from rfl]
  have apX:qx F (sy s (nx s a))=some (rT (sy s (nx s a))):=by
   obtain⟨G,rfl⟩:∃G,F=G+20:=⟨F-20,om⟩;exact (xN s (nx s a)).asr G
  rw [apX];simp only [aC];rcases acT _ (N4 s (nx s a)) with hz|hz
  ·rw [has,hz]
   show (rc s (skip s a:Int) e pos).bind _=_;exact Gq _
  ·have hz1:(rT (sy s (nx s a)) == -1)=false:=by rw [gN];omega
   obtain⟨_,_,m3,_⟩:=vw hi (by rw [has];omega);have hx:=aaE (x:=sy s (nx s a)) om
   have hnn:(skip s (nx s a):Int)+((sy s (nx s a)).length:Int)=(nx s (nx s a):Int):=by
    have h2:=(Ai s _ m1 hx).2;have h3:nx s (nx s a)=skip s (nx s a)+(tx s (nx s a)).length:=rfl;rw [h3,h2];omega
   rw [has,hz1,dQ hz,yj F _ om,ht];simp only [aC,bq,aS]
   cases hr:rName (b::w) with
   | true=>
    simp only [ku,aS,bq,aC,hnn];rw [bG (x:=(nx s (nx s a):Int)) om]
    cases rs s (nx s (nx s a):Int) e pos<;>rfl
   | false=>
    unfold fW
    cases he:(e==0) with
    | true=>
     simp only [uL,aS,bq,aC,hnn];rw [bG (x:=(nx s (nx s a):Int)) om]
     cases rs s (nx s (nx s a):Int) 10 (skip s a:Int)<;>rfl
    | false=>
     simp only [uL,aS,bq,aC,hnn];rw [bG (x:=(nx s (nx s a):Int)) om];cases rs s (nx s (nx s a):Int) e pos<;>rfl
 ·have ha:=hk2 (by unfold kd;rw [h'];simp)
  rw [hno _ (by rw [hw];rfl) ha,ha];rfl
 ·have ha:=hk2 (by unfold kd;rw [h'];simp)
  rw [hno _ (by rw [hw];rfl) ha,ha];rfl
end
theorem aln(G:Nat)(x:Bs)(k:Int->O RR)(z:O RR):bV (σ:=Int) (fun gG x2=>
   (cond (decide (x2<=6)) (some ((0:Int)==0)) (some false):O Bool).bind fun x4=>cond x4 ((E0 (G+10) x2).bind fun x5=>cond (x==x5) (k x2) (gG (aB (x2+1)))) z) (G+10) 3 =
  cond (x==[45]) (k 3) (cond (x==[43]) (k 4) (cond (x==[33]) (k 5) (cond (x==[126]) (k 6) z))):=by kernel_rfl
section
variable {s : Bs} {a F : Nat} (hl : s.length <= 1000000) (hi : a <= s.length) (hF : s.length + 60 <= F)
include hl hi hF
theorem afk(rs rc:Bs->Int->Int->Int->O RR)(rl:Int->Bs->Int->Int->Int->O RR)(ru rp:Bs->Int->Int->Int->O RR):
  gj F rs rc rl ru rp s (a:Int) 0 0=cond (tL (sy s a)==0) (rp s (skip s a:Int) 0 0)
   ((ru s (nx s a:Int) 0 0).bind fun x=>some (.mk (tL (sy s a)) 0 [] [x.1],x.2.1,x.2.2.1,x.2.2.2.1,x.2.2.2.2)):=by
 unfold gj;rw [mG F s a 0 0 hi om hl];obtain⟨G,rfl⟩:∃G,F=G+10:=⟨F-10,om⟩
 have key:=aln G (sy s a) (fun x2=>(ru s (aB ((skip s a:Int)+((sy s a).length:Int))) 0 0).bind fun x6=>some ((TExpr.mk ((TExpr.mk x2 0 [] ([x6.1]:J TExpr)).fOp) ((TExpr.mk x2 0 [] ([x6.1]:J TExpr)).fN) ((TExpr.mk x2 0 [] ([x6.1]:J TExpr)).fName) ((TExpr.mk x2 0 [] ([x6.1]:J TExpr)).fKids)),x6.2.1,x6.2.2.1,x6.2.2.2.1,x6.2.2.2.2))
  ((rp s (skip s a:Int) 0 0).bind fun x7=>some ((TExpr.mk x7.1.fOp x7.1.fN x7.1.fName x7.1.fKids),x7.2.1,x7.2.2.1,x7.2.2.2.1,x7.2.2.2.2))
 refine key.trans ?_;rw [Gq];by_cases hu:tL (sy s a)=0
 ·have hu':(tL (sy s a)==0)=true:=by simpa using hu
  unfold tL at hu
  grind
 ·have hu':(tL (sy s a)==0)=false:=by simp_all
  obtain⟨m1,m2⟩:=dz hi (yY hu)
  have hn:(skip s a:Int)+((sy s a).length:Int)=(nx s a:Int):=by
   have h2:=(Ai s a hi (yY hu)).2;have h3:nx s a=skip s a+(tx s a).length:=rfl;rw [h3,h2];omega
  rw [hn,bG om];unfold tL at hu⊢;revert hu;cases (sy s a==[45])<;>cases (sy s a==[43])<;>cases (sy s a==[33])<;>cases (sy s a==[126])<;>intro hu<;>first|rfl|(simp at hu;done)
theorem aji(rs rc:Bs->Int->Int->Int->O RR)(rl:Int->Bs->Int->Int->Int->O RR)(ru rp:Bs->Int->Int->Int->O RR){c p:Int}(hc:c≠0):
  gj F rs rc rl ru rp s (a:Int) c p=rp s (skip s a:Int) c p:=by
 unfold gj;rw [mG F s a c p hi om hl];obtain⟨G,rfl⟩:∃G,F=G+1:=⟨F-1,om⟩
 grind [bV,Gq]
theorem afl(rs rc:Bs->Int->Int->Int->O RR)(rl:Int->Bs->Int->Int->Int->O RR)(ru rp:Bs->Int->Int->Int->O RR){c p:Int}(hc:c≠0):
  cy F rs rc rl ru rp s (a:Int) c p=some (.mk 0 0 [] [],s,(skip s a:Int),c,p):=by
 unfold cy;rw [N7 hc];simp only [aC];obtain⟨s1,s2⟩:=gQ s a hi;rw [sG F s a c p hi om hl];simp only [aC];rw [KY F s _ c p s1 om hl];have sD:(c != 0)=true:=by simpa using hc
 simp only [sD];rfl
end
def Cy(s:Bs)(x:O RR)(c p:Int):Prop:=∃(e:TExpr)(a:Nat),a<=s.length/\x=some (e,s,(a:Int),c,p)
theorem alo{s:Bs}(hl:s.length<=1000000):bH fun F n=>∀a,a<=s.length->∀c p,c≠0->Cy s (aY F n s ((a:Nat):Int) c p) c p:=
 bH.succ ((gv s).mono fun F n hF a hi c p hc=>⟨_,skip s a,(gQ s a hi).1,afl hl hi hF (bw F n) (bp F n) (aO F n) (bf F n) (aY F n) hc⟩)
theorem aoN{s:Bs}(hl:s.length<=1000000):bH fun F n=>∀a,a<=s.length->∀c p,c≠0->Cy s (bf F n s ((a:Nat):Int) c p) c p:=
 bH.succ ((gv s).kE (alo hl) fun F n hF h a hi c p hc=>by
  show Cy s (gj F (bw F n) (bp F n) (aO F n) (bf F n) (aY F n) s (a:Int) c p) c p
  simp_all [aji,gQ])
theorem IZ(F:Nat)(rs rc:Bs->Int->Int->Int->O RR)(rl:Int->Bs->Int->Int->Int->O RR)(ru rp:Bs->Int->Int->Int->O RR)(l:Int)(h3:3<=l)(hl:l<=12)(s:Bs)(at' c p:Int):
  fA F rs rc rl ru rp l s at' c p=(rl (l+1) s at' c p).bind fun x2=>bV (q9 F rl l) F (x2.2.1,x2.2.2.1,x2.2.2.2.1,x2.2.2.2.2,x2.1.fOp,x2.1.fN,x2.1.fName,x2.1.fKids):=by
 unfold fA q9
 grind [decide_eq_false,bG]
theorem Qp(F:Nat)(rs rc:Bs->Int->Int->Int->O RR)(rl:Int->Bs->Int->Int->Int->O RR)(ru rp:Bs->Int->Int->Int->O RR)(l:Int)(hl:12<l)(s:Bs)(at' c p:Int):
  fA F rs rc rl ru rp l s at' c p=ru s at' c p:=by
 unfold fA
 grind [decide_eq_true,Gq]
theorem Ri(F:Nat)(r:Int->Bs->Int->Int->Int->O RR)(l:Int)(m:Nat)(s:Bs)(at' c p:Int)(a:TExpr)(hc:c≠0):bV (q9 F r l) (m+1) (s,at',c,p,a.fOp,a.fN,a.fName,a.fKids)=some (a,s,at',c,p):=by
 have sD:(c==0)=false:=by simpa using hc
 show q9 F r l (bV (q9 F r l) m) _=_;unfold q9;simp [sD]
theorem aaG{s:Bs}(hl:s.length<=1000000):∀(k:Nat)(l:Int),l+k=13->3<=l->bH fun F n=>∀a,a<=s.length->∀c p,c≠0->Cy s (aO F n l s ((a:Nat):Int) c p) c p
 | 0,l,hk,h3=>bH.succ ((aoN hl).mono fun F n h a hi c p hc=>by
   show Cy s (fA F (bw F n) (bp F n) (aO F n) (bf F n) (aY F n) l s (a:Int) c p) c p
   simp_all [Qp])
 | k+1,l,hk,h3=>bH.succ ((gv s).kE (aaG hl k (l+1) om om) fun F n hF h a hi c p hc=>by
   show Cy s (fA F (bw F n) (bp F n) (aO F n) (bf F n) (aY F n) l s (a:Int) c p) c p;rw [IZ F _ _ _ _ _ l h3 om];obtain⟨e,a',gu,hx⟩:=h a hi c p hc;obtain⟨G,rfl⟩:∃G,F=G+1:=⟨F-1,om⟩
   grind [Ri])
theorem alp{s:Bs}(hl:s.length<=1000000):bH fun F n=>∀a,a<=s.length->∀c p,c≠0->Cy s (bp F n s ((a:Nat):Int) c p) c p:=
 bH.succ ((aaG hl 10 3 de de).mono fun F n h a hi c p hc=>by
  show Cy s (dy F (bw F n) (bp F n) (aO F n) (bf F n) (aY F n) s (a:Int) c p) c p;unfold dy;obtain⟨e,a',gu,hx⟩:=h a hi c p hc;rw [hx];simp;rw [N7 hc];exact⟨_,a',gu,rfl⟩)
theorem ahf{s:Bs}(hl:s.length<=1000000):∀k:Nat,bH fun F n=>∀a,a<=s.length->s.length-a<k->∀c p,c≠0->Cy s (bw F n s ((a:Nat):Int) c p) c p
 | 0=>bH.of fun F n a _ h=>by omega
 | k+1=>bH.succ ((gv s).BU (alp hl) (ahf hl k) fun F n hF h1 h2 a hi hk c p hc=>by
   show Cy s (iP F (bw F n) (bp F n) (aO F n) (bf F n) (aY F n) s (a:Int) c p) c p;rw [FQ hl hi hF]
   cases ha:(jd s a == -1) with
   | true=>simp_all [gQ]
   | false=>
    have sD:(c==0)=false:=by simpa using hc
    obtain⟨_,_,m1,m2⟩:=vw hi (by simp_all);simp only [aS,sD];have e1:cond (rName (tx s a)) c c=c:=by simp_all
    have e2:cond (rName (tx s a)) p p=p:=by simp_all
    rw [e1,e2];obtain⟨e,a',gu,hx⟩:=h2 _ m1 om c p hc;rw [hx];exact⟨_,a',gu,rfl⟩)
def StR(s:Bs):Vh->Nat->oa->Prop
 | .expr,i,r=>bH fun F n=>∀a,a<=s.length->skip s a=skip s i->kf s r (bw F n s ((a:Nat):Int) 0 0)
 | .cond,i,r=>bH fun F n=>∀a,a<=s.length->skip s a=skip s i->kf s r (bp F n s ((a:Nat):Int) 0 0)
 | .level l,i,r=>bH fun F n=>∀a,a<=s.length->skip s a=skip s i->kf s r (aO F n l s ((a:Nat):Int) 0 0)
 | .loop l b,i,r=>∃N,∀F n m,N<=F->N<=n->N<=m->∀a,a<=s.length->skip s a=skip s i->kf s r (bV (q9 F (aO F n) l) m (s,((a:Nat):Int),0,0,b.fOp,b.fN,b.fName,b.fKids))
 | .un,i,r=>bH fun F n=>∀a,a<=s.length->skip s a=skip s i->kf s r (bf F n s ((a:Nat):Int) 0 0)
 | .mY,i,r=>bH fun F n=>∀a,a<=s.length->skip s a=skip s i->kf s r (aY F n s ((a:Nat):Int) 0 0)
def anl(s:Bs):oa->Prop
 | .ok _ j=>j<=s.length
 | .err _ c=>c≠0
theorem C2{s:Bs}{c:Vh}{i:Nat}{r:oa}(d:RD s c i r):i<=s.length->anl s r:=by
 have nb:∀ {i:Nat},i<=s.length->nx s i<=s.length:=fun h=>(kj s _ h).1
 induction d with
 | Aj h d ih=>exact ih
 | Ak h hn=>intro _;exact (show (10:Int)≠0 by decide)
 | EM h hn d ih=>intro hi;exact ih (nb (nb hi))
 | EN h hn d ih=>grind
 | EO d ih=>exact ih
 | ER d h ih=>exact ih
 | ES d h d2 ih ih2=>intro hi;exact ih2 (nb (ih hi))
 | ET d h d2 h2 ih ih2=>intro _;exact (show (6:Int)≠0 by decide)
 | K2 d h d2 h2 d3 ih ih2 ih3=>intro hi;exact ih3 (nb (ih2 (nb (ih hi))))
 | EU d h d2 h2 d3 ih ih2 ih3=>intro hi;exact ih3 (nb (ih2 (nb (ih hi))))
 | afh hl d ih=>exact ih
 | Ym h3 hl d ih=>exact ih
 | ajg h3 hl d d2 ih ih2=>intro hi;exact ih2 (ih hi)
 | vu h=>exact id
 | Cw h d ih=>simp_all
 | Gm h d d2 ih ih2=>intro hi;exact ih2 (ih (nb hi))
 | Al h d ih=>exact ih
 | EV h d ih=>simp_all
 | K3 h d ih=>intro hi;exact ih (nb hi)
 | EW h hv=>exact nb
 | Am h hv=>intro _;exact hv
 | EY h hv=>exact nb
 | An h hv=>intro _;exact (show (10:Int)≠0 by decide)
 | EZ h1 h2 h=>intro _;exact (show (6:Int)≠0 by decide)
 | K4 h d ih=>simp_all
 | wD h d h2 ih=>intro _;exact (show (6:Int)≠0 by decide)
 | K5 h d h2 ih=>intro hi;exact nb (ih (nb hi))
theorem C3{s:Bs}{a F:Nat}(hl:s.length<=1000000)(hi:a<=s.length)(hF:s.length+60<=F)(h:sy s a≠[40])(rs rc:Bs->Int->Int->Int->O RR)(rl:Int->Bs->Int->Int->Int->O RR)(ru rp:Bs->Int->Int->Int->O RR):
  cy F rs rc rl ru rp s (a:Int) 0 0=cond (kP s (skip s a)==[]) (some (.mk 0 0 [] [],s,(skip s a:Int),6,(skip s a:Int)))
   (rq (decide (0<((kP s (skip s a)).length:Int))) ((mX F (((kP s (skip s a)).getD 0 0).toNat:Int)).bind fun x8=>
    cond x8 (cond (rName (kP s (skip s a))) (some (.mk 2 0 (kP s (skip s a)) [],s,aB ((skip s a:Int)+((kP s (skip s a)).length:Int)),0,0)) (some (.mk 2 0 (kP s (skip s a)) [],s,aB ((skip s a:Int)+((kP s (skip s a)).length:Int)),10,(skip s a:Int))))
     ((ld F (kP s (skip s a))).bind fun fD=>cond (cond (fD.2==0&&decide (9223372036854775807<fD.1)) 14 fD.2 != 0)
       (some (.mk 0 0 [] [],s,(skip s a:Int),cond (fD.2==0&&decide (9223372036854775807<fD.1)) 14 fD.2,(skip s a:Int)))
       (some (.mk 1 (aB fD.1) [] [],s,aB ((skip s a:Int)+((kP s (skip s a)).length:Int)),0,0))))):=by
 obtain⟨s1,s2⟩:=gQ s a hi;unfold cy;rw [Yn hl hi hF h];simp only [aC];rw [sG F s (skip s a) 0 0 s1 om hl,vp];simp only [aC];rw [KY F s _ 0 0 s1 om hl];simp only [aC];generalize kP s (skip s a)=w;rw [yj F w om]
 cases (w==[]) with
 | true=>rfl
 | false=>
  simp;congr 1;congr 1
  funext x8
  cases x8 with
  | true=>cases rName w<;>rfl
  | false=>
   simp;congr 1
   funext fD
   cases (fD.2==0) with
   | false=>simp;cases (fD.2 != 0)<;>rfl
   | true=>
    cases decide (9223372036854775807<fD.1) with
    | false=>simp;cases (fD.2 != 0)<;>rfl
    | true=>rfl
theorem acU{s:Bs}{a F:Nat}(hl:s.length<=1000000)(hi:a<=s.length)(hF:s.length+60<=F){l:Int}(h3:3<=l)(hlv:lY s a=l)(aqw:l<=12)(r:Int->Bs->Int->Int->Int->O RR)(rc:SR->O RR)(e:TExpr):
  q9 F r l rc (s,(a:Int),0,0,e.fOp,e.fN,e.fName,e.fKids)=(r (l+1) s (nx s a:Int) 0 0).bind fun x7=>rc (x7.2.1,x7.2.2.1,x7.2.2.2.1,x7.2.2.2.2,(gi (sy s a)).2,0,[],[e,x7.1]):=by
 have hne:=yJ (l:=l) om (by show l<=lY s a;omega);obtain⟨m1,m2⟩:=dz hi hne
 have hn:(skip s a:Int)+((sy s a).length:Int)=(nx s a:Int):=by
  have h2:=(Ai s a hi hne).2;have h3:nx s a=skip s a+(tx s a).length:=rfl;rw [h3,h2];omega
 have hop:=(xN s a).op (show lY s a≠0 by omega)
 have ajj:kG F (sy s a) l=some (gi (sy s a)).2:=by
  obtain⟨G,rfl⟩:∃G,F=G+20:=⟨F-20,om⟩;rw [(xN s a).bir,show ((gi (sy s a)).1==l)=true by simp_all];rfl
 unfold q9;rw [mG F s a 0 0 hi om hl];simp;rw [show mP (s.drop (skip s a))=sy s a from rfl,ajj];have hz:((gi (sy s a)).2==0)=false:=by grind
 simp [hz,hn];rw [bG (x:=(nx s a:Int)) om,bG om];rfl
def Vh.ok:Vh->Prop
 | .loop l _=>3<=l/\l<=12
 | _=>True
theorem TB(x:Bs)(h:(nS x).2=0):0<=(nS x).1/\(nS x).1<=9223372036854775807:=by
 unfold nS at h⊢
 cases hb:((qp x).2==[]) with
 | true=>rw [hb] at h;cases h
 | false=>
  unfold pF at h⊢
  grind
theorem apY{s:Bs}(hl:s.length<=1000000){c:Vh}{i:Nat}{r:oa}(d:RD s c i r):i<=s.length->c.ok->StR s c i r:=by
 have nb:∀ {i:Nat},i<=s.length->nx s i<=s.length:=fun h=>(kj s _ h).1
 induction d with
 | @Aj i r h d ih=>
  intro hi hok;refine bH.succ (bH.kE (ih hi trivial) (gv s) fun F n h1 hF a ha hs=>?_);show kf s r (iP F (bw F n) (bp F n) (aO F n) (bf F n) (aY F n) s (a:Int) 0 0)
  grind [FQ,K6,gQ,vp]
 | @Ak i h hn=>
  intro hi hok;refine bH.succ (bH.kE (ahf hl (s.length+1)) (gv s) fun F n h1 hF a ha hs=>?_);show kf s _ (iP F (bw F n) (bp F n) (aO F n) (bf F n) (aY F n) s (a:Int) 0 0);have hb:(jd s i == -1)=false:=by simp_all
  rw [FQ hl ha hF,K6 hs,hb,yZ hs,hn,hs];simp only [aS,FD,bq];obtain⟨e,a',gu,hx⟩:=h1 (nx s (nx s a)) (nb (nb ha)) om 10 (skip s i:Int) de;rw [hx]
  exact⟨by decide,_,a',gu,rfl⟩
 | @EM i j e h hn d ih=>
  intro hi hok;refine bH.succ (bH.kE (ih (nb (nb hi)) trivial) (gv s) fun F n h1 hF a ha hs=>?_);show kf s _ (iP F (bw F n) (bp F n) (aO F n) (bf F n) (aY F n) s (a:Int) 0 0);have hb:(jd s i == -1)=false:=by simp_all
  rw [FQ hl ha hF,K6 hs,hb,yZ hs,hn,jU hs];simp only [aS,bq];obtain⟨a',gu,hs',hx⟩:=h1 (nx s (nx s i)) (nb (nb hi)) rfl;rw [hx]
  exact⟨a',gu,hs',rfl⟩
 | @EN i p c h hn d ih=>
  intro hi hok;refine bH.succ (bH.kE (ih (nb (nb hi)) trivial) (gv s) fun F n h1 hF a ha hs=>?_);show kf s _ (iP F (bw F n) (bp F n) (aO F n) (bf F n) (aY F n) s (a:Int) 0 0);have hb:(jd s i == -1)=false:=by simp_all
  rw [FQ hl ha hF,K6 hs,hb,yZ hs,hn,jU hs];simp only [aS,bq];obtain⟨hc,e,a',gu,hx⟩:=h1 (nx s (nx s i)) (nb (nb hi)) rfl;rw [hx]
  exact⟨hc,_,a',gu,rfl⟩
 | @EO i p c d ih=>
  intro hi hok;refine bH.succ (bH.mono (ih hi trivial) fun F n h1 a ha hs=>?_);show kf s _ (dy F (bw F n) (bp F n) (aO F n) (bf F n) (aY F n) s (a:Int) 0 0);unfold dy;obtain⟨hc,e,a',gu,hx⟩:=h1 a ha hs;rw [hx];simp only [aC];rw [N7 hc]
  exact⟨hc,_,a',gu,rfl⟩
 | @ER i j e d h ih=>
  intro hi hok;refine bH.succ (bH.kE (ih hi trivial) (gv s) fun F n h1 hF a ha hs=>?_);show kf s _ (dy F (bw F n) (bp F n) (aO F n) (bf F n) (aY F n) s (a:Int) 0 0);unfold dy;obtain⟨a',gu,hs',hx⟩:=h1 a ha hs;rw [hx];simp only [aC];rw [Yn hl gu hF (by rw [iQ hs'];exact h)];simp only [aC,uL,bq,TExpr.eta]
  exact⟨skip s a',(gQ s a' gu).1,(vp s a').trans hs',rfl⟩
 | @ES i j p c e d h d2 ih ih2=>
  intro hi hok;have hj:j<=s.length:=C2 d hi;refine bH.succ (bH.BU (ih hi trivial) (ih2 (nb hj) trivial) (gv s) fun F n h1 h2 hF a ha hs=>?_);show kf s _ (dy F (bw F n) (bp F n) (aO F n) (bf F n) (aY F n) s (a:Int) 0 0);unfold dy;obtain⟨a',gu,hs',hx⟩:=h1 a ha hs;rw [hx];simp only [aC];rw [xO hl gu hF de (by rw [iQ hs'];exact h),jU hs'];simp only [aC,ku,aS];obtain⟨hc,e2,a2,ry,hx2⟩:=h2 _ (nb hj) rfl;rw [hx2];simp only [aC];rw [N7 hc];simp only [aC,uL,bq];rw [Rh hc]
  exact⟨hc,_,a2,ry,rfl⟩
 | @ET i j k e e2 d h d2 h2 ih ih2=>
  intro hi hok;have hj:j<=s.length:=C2 d hi;refine bH.succ (bH.BU (ih hi trivial) (ih2 (nb hj) trivial) (gv s) fun F n h1 h3 hF a ha hs=>?_);show kf s _ (dy F (bw F n) (bp F n) (aO F n) (bf F n) (aY F n) s (a:Int) 0 0);unfold dy;obtain⟨a',gu,hs',hx⟩:=h1 a ha hs;rw [hx];simp only [aC];rw [xO hl gu hF de (by rw [iQ hs'];exact h),jU hs'];simp only [aC,ku,aS];obtain⟨a2,ry,hs2,hx2⟩:=h3 _ (nb hj) rfl;rw [hx2];simp only [aC];rw [Yn hl ry hF (by rw [iQ hs2];exact h2),hs2]
  exact⟨by decide,_,skip s k,(by rw [<-hs2];exact (gQ s a2 ry).1),rfl⟩
 | @K2 i j k p c e e2 d h d2 h2 d3 ih ih2 ih3=>
  intro hi hok;have hj:j<=s.length:=C2 d hi;have hk:k<=s.length:=C2 d2 (nb hj);refine bH.succ (bH.BU ((ih hi trivial).and (ih3 (nb hk) trivial)) (ih2 (nb hj) trivial) (gv s) fun F n h1 h3 hF a ha hs=>?_);obtain⟨h1,h4⟩:=h1;show kf s _ (dy F (bw F n) (bp F n) (aO F n) (bf F n) (aY F n) s (a:Int) 0 0);unfold dy;obtain⟨a',gu,hs',hx⟩:=h1 a ha hs;rw [hx];simp only [aC];rw [xO hl gu hF de (by rw [iQ hs'];exact h),jU hs'];simp only [aC,ku,aS];obtain⟨a2,ry,hs2,hx2⟩:=h3 _ (nb hj) rfl;rw [hx2];simp only [aC];rw [xO hl ry hF de (by rw [iQ hs2];exact h2),jU hs2];simp only [aC,ku,aS];obtain⟨hc,e4,a4,ha4,hx4⟩:=h4 _ (nb hk) rfl;rw [hx4]
  exact⟨hc,_,a4,ha4,rfl⟩
 | @EU i j k m e e2 e3 d h d2 h2 d3 ih ih2 ih3=>
  intro hi hok;have hj:j<=s.length:=C2 d hi;have hk:k<=s.length:=C2 d2 (nb hj);refine bH.succ (bH.BU ((ih hi trivial).and (ih3 (nb hk) trivial)) (ih2 (nb hj) trivial) (gv s) fun F n h1 h3 hF a ha hs=>?_);obtain⟨h1,h4⟩:=h1;show kf s _ (dy F (bw F n) (bp F n) (aO F n) (bf F n) (aY F n) s (a:Int) 0 0);unfold dy;obtain⟨a',gu,hs',hx⟩:=h1 a ha hs;rw [hx];simp only [aC];rw [xO hl gu hF de (by rw [iQ hs'];exact h),jU hs'];simp only [aC,ku,aS];obtain⟨a2,ry,hs2,hx2⟩:=h3 _ (nb hj) rfl;rw [hx2];simp only [aC];rw [xO hl ry hF de (by rw [iQ hs2];exact h2),jU hs2];simp only [aC,ku,aS];obtain⟨a4,ha4,hs4,hx4⟩:=h4 _ (nb hk) rfl;rw [hx4];simp only [aC,TExpr.eta]
  exact⟨a4,ha4,hs4,rfl⟩
 | @afh l i r hv d ih=>
  intro hi hok;refine bH.succ (bH.mono (ih hi trivial) fun F n h1 a ha hs=>?_);show kf s _ (fA F (bw F n) (bp F n) (aO F n) (bf F n) (aY F n) l s (a:Int) 0 0)
  simp_all [Qp]
 | @Ym l i p c h3 hv d ih=>
  intro hi hok;refine bH.succ (bH.kE (ih hi trivial) (gv s) fun F n h1 hF a ha hs=>?_);show kf s _ (fA F (bw F n) (bp F n) (aO F n) (bf F n) (aY F n) l s (a:Int) 0 0);rw [IZ F _ _ _ _ _ l h3 hv];obtain⟨hc,e,a',gu,hx⟩:=h1 a ha hs;rw [hx];obtain⟨G,rfl⟩:∃G,F=G+1:=⟨F-1,om⟩
  grind [Ri]
 | @ajg l i j e r h3 hv d d2 ih ih2=>
  intro hi hok;have hj:j<=s.length:=C2 d hi;obtain⟨N,h2⟩:=ih2 hj ⟨h3,hv⟩;refine bH.succ (bH.kE (ih hi trivial) (bH.ge (p:=fun F n=>N<=F/\N<=n) N fun F n a b=>⟨a,b⟩) fun F n h1 hN a ha hs=>?_);show kf s _ (fA F (bw F n) (bp F n) (aO F n) (bf F n) (aY F n) l s (a:Int) 0 0);rw [IZ F _ _ _ _ _ l h3 hv];obtain⟨a',gu,hs',hx⟩:=h1 a ha hs
  simp_all
 | @vu l i e h=>
  intro hi hok;refine⟨s.length+60,fun F n m hF _ hm a ha hs=>?_⟩
  cases m with
  | zero=>omega
  | succ m=>
   show kf s _ (q9 F (aO F n) l (bV (q9 F (aO F n) l) m) (s,(a:Int),0,0,e.fOp,e.fN,e.fName,e.fKids));unfold q9
   have ajj:kG F (sy s a) l=some 0:=by
    obtain⟨G,rfl⟩:∃G,F=G+20:=⟨F-20,om⟩;rw [(xN s a).bir,iQ hs,show ((gi (sy s i)).1==l)=false by rw [gN];exact h];rfl
   simp only [FD,bq];rw [mG F s a 0 0 ha om hl];simp only [aC];rw [show mP (s.drop (skip s a))=sy s a from rfl,ajj];simp only [aC,FD,bq,TExpr.eta]
   exact⟨skip s a,(gQ s a ha).1,(vp s a).trans hs,rfl⟩
 | @Cw l i p c e h d ih=>
  intro hi hok;obtain⟨N,h1⟩:=ih (nb hi) trivial;obtain⟨h3,h12⟩:=hok;refine⟨N+s.length+60,fun F n m hF hn hm a ha hs=>?_⟩
  cases m with
  | zero=>omega
  | succ m=>
   cases m with
   | zero=>omega
   | succ m=>
    show kf s _ (q9 F (aO F n) l (bV (q9 F (aO F n) l) (m+1)) (s,(a:Int),0,0,e.fOp,e.fN,e.fName,e.fKids));rw [acU hl ha om h3 (by rw [lY,iQ hs];exact h) h12,jU hs,iQ hs];obtain⟨hc,e2,a',gu,hx⟩:=h1 F n om om _ (nb hi) rfl;rw [hx];simp only [aC]
    refine⟨hc,_,a',gu,Ri F (aO F n) l m s (a':Int) c (p:Int) (.mk (gi (sy s i)).2 0 [] [e,e2]) hc⟩
 | @Gm l i j e e2 r h d d2 ih ih2=>
  intro hi hok;have hj:j<=s.length:=C2 d (nb hi);obtain⟨N,h1⟩:=ih (nb hi) trivial;obtain⟨N2,h2⟩:=ih2 hj hok;obtain⟨h3,h12⟩:=hok;refine⟨N+N2+s.length+60,fun F n m hF hn hm a ha hs=>?_⟩
  cases m with
  | zero=>omega
  | succ m=>
   show kf s _ (q9 F (aO F n) l (bV (q9 F (aO F n) l) m) (s,(a:Int),0,0,e.fOp,e.fN,e.fName,e.fKids));rw [acU hl ha om h3 (by rw [lY,iQ hs];exact h) h12,jU hs,iQ hs];obtain⟨a',gu,hs',hx⟩:=h1 F n om om _ (nb hi) rfl;rw [hx]
   exact h2 F n m om om om a' gu hs'
 | @Al i r h d ih=>
  intro hi hok;refine bH.succ (bH.kE (ih hi trivial) (gv s) fun F n h1 hF a ha hs=>?_);show kf s _ (gj F (bw F n) (bp F n) (aO F n) (bf F n) (aY F n) s (a:Int) 0 0)
  grind [afk,iQ,gQ,vp]
 | @EV i p c h d ih=>
  intro hi hok;refine bH.succ (bH.kE (ih (nb hi) trivial) (gv s) fun F n h1 hF a ha hs=>?_);show kf s _ (gj F (bw F n) (bp F n) (aO F n) (bf F n) (aY F n) s (a:Int) 0 0);have hb:(tL (sy s i)==0)=false:=by rw [gN];exact h
  rw [afk hl ha hF,iQ hs,hb,jU hs];obtain⟨hc,e,a',gu,hx⟩:=h1 _ (nb hi) rfl;rw [hx]
  exact⟨hc,_,a',gu,rfl⟩
 | @K3 i j e h d ih=>
  intro hi hok;refine bH.succ (bH.kE (ih (nb hi) trivial) (gv s) fun F n h1 hF a ha hs=>?_);show kf s _ (gj F (bw F n) (bp F n) (aO F n) (bf F n) (aY F n) s (a:Int) 0 0);have hb:(tL (sy s i)==0)=false:=by rw [gN];exact h
  rw [afk hl ha hF,iQ hs,hb,jU hs];obtain⟨a',gu,hs',hx⟩:=h1 _ (nb hi) rfl;rw [hx]
  exact⟨a',gu,hs',rfl⟩
 | @EW i h hv=>
  intro hi hok;refine bH.succ (bH.mono (gv s) fun F n hF a ha hs=>?_);show kf s _ (cy F (bw F n) (bp F n) (aO F n) (bf F n) (aY F n) s (a:Int) 0 0);rw [<-Fw hs] at h;rw [<-yZ hs] at hv⊢;rw [<-jU hs];rcases lM s a ha with⟨h',_,_,_⟩|⟨w,b,h',WH,hw,hd,hl'⟩|⟨w,b,h',_,hw,hd,hl'⟩|⟨x',h',_,hw,hm,_⟩|⟨b,h',_,hw,_⟩<;>(first|(unfold kd at h;rw [h'] at h;simp at h;done)|skip);have ht:tx s a=b::w:=by unfold tx;rw [h']
  have hn:(nx s a:Int)=(skip s a:Int)+((b::w).length:Int):=by unfold nx;rw [ht];omega
  rw [ht] at hv⊢;rw [C3 hl ha hF (by rw [WH];decide),hw];have hp:decide (0<((b::w).length:Int))=true:=dQ (by simp_all);obtain⟨m,e,c1,c2,c3⟩:=aat F (b::w) si om om;have c3:=c3 hv;rw [hv] at c2;simp only [show ((b::w)==[])=false from rfl,aS,hp,gz,Un,vq,afj b hd,aC,c1,c2,ME];have hrg:=(TB (b::w) hv);rw [c3,bG (x:=(nS (b::w)).1) om,bG (x:=(skip s a:Int)+((b::w).length:Int)) om,<-hn]
  exact⟨nx s a,nb ha,rfl,rfl⟩
 | @Am i h hv=>
  intro hi hok;refine bH.succ (bH.mono (gv s) fun F n hF a ha hs=>?_);show kf s _ (cy F (bw F n) (bp F n) (aO F n) (bf F n) (aY F n) s (a:Int) 0 0);rw [<-Fw hs] at h;rw [<-yZ hs] at hv⊢;rw [<-hs];rcases lM s a ha with⟨h',_,_,_⟩|⟨w,b,h',WH,hw,hd,hl'⟩|⟨w,b,h',_,hw,hd,hl'⟩|⟨x',h',_,hw,hm,_⟩|⟨b,h',_,hw,_⟩<;>(first|(unfold kd at h;rw [h'] at h;simp at h;done)|skip);have ht:tx s a=b::w:=by unfold tx;rw [h']
  rw [ht] at hv⊢;rw [C3 hl ha hF (by rw [WH];decide),hw];have hp:decide (0<((b::w).length:Int))=true:=dQ (by simp_all);obtain⟨m,e,c1,c2,c3⟩:=aat F (b::w) si om om;have hb:((nS (b::w)).2 != 0)=true:=by simpa using hv
  simp only [show ((b::w)==[])=false from rfl,aS,hp,gz,Un,vq,afj b hd,aC,c1,c2,hb,bq]
  exact⟨hv,_,skip s a,(gQ s a ha).1,rfl⟩
 | @EY i h hv=>
  intro hi hok;refine bH.succ (bH.mono (gv s) fun F n hF a ha hs=>?_);show kf s _ (cy F (bw F n) (bp F n) (aO F n) (bf F n) (aY F n) s (a:Int) 0 0);rw [<-Fw hs] at h;rw [<-yZ hs] at hv⊢;rw [<-jU hs];rcases lM s a ha with⟨h',_,_,_⟩|⟨w,b,h',_,hw,hd,hl'⟩|⟨w,b,h',WH,hw,hd,hl'⟩|⟨x',h',_,hw,hm,_⟩|⟨b,h',_,hw,_⟩<;>(first|(unfold kd at h;rw [h'] at h;simp at h;done)|skip);have ht:tx s a=b::w:=by unfold tx;rw [h']
  have hn:(nx s a:Int)=(skip s a:Int)+((b::w).length:Int):=by unfold nx;rw [ht];omega
  rw [ht] at hv⊢;rw [C3 hl ha hF (by rw [WH];decide),hw];have hp:decide (0<((b::w).length:Int))=true:=dQ (by simp_all);simp only [show ((b::w)==[])=false from rfl,aS,hp,gz,Un,vq,hd,aC,bq,hv];rw [bG (x:=(skip s a:Int)+((b::w).length:Int)) om,<-hn]
  exact⟨nx s a,nb ha,rfl,rfl⟩
 | @An i h hv=>
  intro hi hok;refine bH.succ (bH.mono (gv s) fun F n hF a ha hs=>?_);show kf s _ (cy F (bw F n) (bp F n) (aO F n) (bf F n) (aY F n) s (a:Int) 0 0);rw [<-Fw hs] at h;rw [<-yZ hs] at hv;rw [<-hs];rcases lM s a ha with⟨h',_,_,_⟩|⟨w,b,h',_,hw,hd,hl'⟩|⟨w,b,h',WH,hw,hd,hl'⟩|⟨x',h',_,hw,hm,_⟩|⟨b,h',_,hw,_⟩<;>(first|(unfold kd at h;rw [h'] at h;simp at h;done)|skip);have ht:tx s a=b::w:=by unfold tx;rw [h']
  have hn:(nx s a:Int)=(skip s a:Int)+((b::w).length:Int):=by unfold nx;rw [ht];omega
  rw [ht] at hv;rw [C3 hl ha hF (by rw [WH];decide),hw];have hp:decide (0<((b::w).length:Int))=true:=dQ (by simp_all);simp only [show ((b::w)==[])=false from rfl,aS,hp,gz,Un,vq,hd,aC,bq,hv];rw [bG (x:=(skip s a:Int)+((b::w).length:Int)) om,<-hn]
  exact⟨by decide,_,nx s a,nb ha,rfl⟩
 | @EZ i h1 h2 h=>
  intro hi hok;refine bH.succ (bH.mono (gv s) fun F n hF a ha hs=>?_);show kf s _ (cy F (bw F n) (bp F n) (aO F n) (bf F n) (aY F n) s (a:Int) 0 0);rw [<-Fw hs] at h1 h2;rw [<-iQ hs] at h;rw [<-hs]
  have hw:kP s (skip s a)=[]:=by
   rcases lM s a ha with⟨h',_,hw,_⟩|⟨w,b,h',_,hw,hd,hl'⟩|⟨w,b,h',WH,hw,hd,hl'⟩|⟨x',h',_,hw,hm,_⟩|⟨b,h',_,hw,_⟩
   ·exact hw
   ·unfold kd at h1;simp_all
   ·unfold kd at h2;simp_all
   ·exact hw
   ·exact hw
  rw [C3 hl ha hF h,hw]
  exact⟨by decide,_,skip s a,(gQ s a ha).1,rfl⟩
 | @K4 i p c h d ih=>
  intro hi hok;refine bH.succ (bH.kE (ih (nb hi) trivial) (gv s) fun F n h1 hF a ha hs=>?_);show kf s _ (cy F (bw F n) (bp F n) (aO F n) (bf F n) (aY F n) s (a:Int) 0 0);unfold cy;rw [xO hl ha hF de (by rw [iQ hs];exact h),jU hs];simp only [aC,bq];obtain⟨hc,e,a',gu,hx⟩:=h1 _ (nb hi) rfl;rw [hx];simp only [aC];rw [N7 hc];simp only [aC,uL,bq];rw [Rh hc]
  exact⟨hc,_,a',gu,rfl⟩
 | @wD i j e h d h2 ih=>
  intro hi hok;refine bH.succ (bH.kE (ih (nb hi) trivial) (gv s) fun F n h1 hF a ha hs=>?_);show kf s _ (cy F (bw F n) (bp F n) (aO F n) (bf F n) (aY F n) s (a:Int) 0 0);unfold cy;rw [xO hl ha hF de (by rw [iQ hs];exact h),jU hs];simp only [aC,bq];obtain⟨a',gu,hs',hx⟩:=h1 _ (nb hi) rfl;rw [hx];simp only [aC];rw [Yn hl gu hF (by rw [iQ hs'];exact h2),hs']
  exact⟨by decide,_,skip s j,(by rw [<-hs'];exact (gQ s a' gu).1),rfl⟩
 | @K5 i j e h d h2 ih=>
  intro hi hok;refine bH.succ (bH.kE (ih (nb hi) trivial) (gv s) fun F n h1 hF a ha hs=>?_);show kf s _ (cy F (bw F n) (bp F n) (aO F n) (bf F n) (aY F n) s (a:Int) 0 0);unfold cy;rw [xO hl ha hF de (by rw [iQ hs];exact h),jU hs];simp only [aC,bq];obtain⟨a',gu,hs',hx⟩:=h1 _ (nb hi) rfl;rw [hx];simp only [aC];rw [xO hl gu hF de (by rw [iQ hs'];exact h2)];simp only [aC,ku,aS,TExpr.eta];exact⟨nx s a',nb gu,(by rw [jU hs']),rfl⟩
end Go.Proofs.YthmndfnkdgmenaaGreatDoor.K
namespace Go.Proofs.YthmndfnkdgmenaaGreatDoor.K
open Go.RT
set_option maxRecDepth 100000
theorem akh{n:Int}(h:-9223372036854775808<=n/\n<=9223372036854775807):(Lit.int .i64 n).wf=true:=by
 have h1:IntKind.i64.min=-9223372036854775808:=by decide
 have h2:IntKind.i64.max=9223372036854775807:=by decide
 simp [Lit.wf];omega
theorem alq:∀x,x∈([]::oC)->rT x<=26:=by decide
theorem anm(x:Bs):0<=tL x/\tL x<=6:=by
 unfold tL
 grind
theorem alr:∀x,x∈([]::oC)->0<=(gi x).2/\(gi x).2<=26:=by decide
def aoO(s:Bs)(c:mJ)(i:Nat):oa->Prop
 | .ok e j=>ij e/\(match c with | .loop _ a=>nodes e+i<=j+nodes a|_=>nodes e+i<=j)
 | .err _ _=>True
def mJ.okA:mJ->Prop
 | .oper l=>0<l
 | .loop l a=>0<l/\ij a
 | _=>True
theorem Km(s:Bs)(i:Nat)(hl:s.length<=1000000)(hi:i<=s.length):(tx s i).length<=maxLen:=by
 have:=ahc hi;have h:(1000000:Nat)<=maxLen:=by decide
 omega
theorem HU{op n:Int}{name:Bs}{kids:J TExpr}(h1:0<=op/\op<=26)(h2:-1<=n/\n<=9223372036854775807)(h3:name.length<=maxLen)(h4:kids.length<=3)(h5:∀x,x∈kids->ij x):ij (.mk op n name kids):=
 .mk op n name kids (akh om) (akh om) h3 (nH h4 de) h5
theorem ann{s:Bs}(hl:s.length<=1000000){c:mJ}{i:Nat}{r:oa}(d:D s c i r):i<=s.length->c.okA->aoO s c i r:=by
 induction d with
 | @Aj i r h d ih=>
  intro hi _;have:=ih hi trivial
  cases r with
  | ok e j=>exact this
  | err p c=>trivial
 | Ak h hn=>intro _ _;trivial
 | @EM i j e h hn d ih=>
  intro hi _;obtain⟨a,b,c,f⟩:=vw hi h;obtain⟨x,y⟩:=ih c trivial;have g:=alq _ (N4 s (nx s i));have g2:=acT _ (N4 s (nx s i));rw [(N5 h).2.2];refine⟨HU om om (Km s i hl hi) si (by simpa using x),?_⟩
  simp [nodes,lK];omega
 | EN h hn d ih=>intro _ _;trivial
 | EO d ih=>intro _ _;trivial
 | ER d h ih=>intro hi _;exact ih hi (show (0:Int)<3 by decide)
 | ES d h d2 ih ih2=>intro _ _;trivial
 | ET d h d2 h2 ih ih2=>intro _ _;trivial
 | K2 d h d2 h2 d3 ih ih2 ih3=>intro _ _;trivial
 | @EU i j k m a b e d h d2 h2 d3 ih ih2 ih3=>
  intro hi _;obtain⟨_,p1,_⟩:=lN d hi (show (0:Int)<3 by decide);obtain⟨m1,m2⟩:=dz p1 (by rw [h];decide);obtain⟨_,p2,_⟩:=lN d2 m1 trivial;obtain⟨m3,m4⟩:=dz p2 (by rw [h2];decide);obtain⟨o1,n1⟩:=ih hi (show (0:Int)<3 by decide);obtain⟨o2,n2⟩:=ih2 m1 trivial;obtain⟨o3,n3⟩:=ih3 m3 trivial;refine⟨HU om om si si (by simp_all),?_⟩
  simp [nodes,lK];omega
 | TA d ih=>intro _ _;trivial
 | @Vg l i j a r d d2 ih ih2=>
  intro hi hc;obtain⟨_,p1,_⟩:=lN d hi trivial;obtain⟨o1,n1⟩:=ih hi trivial;have:=ih2 p1 ⟨hc,o1⟩
  cases r with
  | ok e k=>
   obtain⟨o2,n2⟩:=this
   exact⟨o2,show nodes e+i<=k by omega⟩
  | err p c=>trivial
 | vu h=>intro hi hc;exact⟨hc.2,bE⟩
 | Cw h d ih=>intro _ _;trivial
 | @Gm l i j a b r h d d2 ih ih2=>
  intro hi hc;obtain⟨hc1,Jt⟩:=hc;obtain⟨m1,m2⟩:=dz hi (yJ hc1 h);obtain⟨_,p1,_⟩:=lN d m1 (show (0:Int)<_ by omega);obtain⟨o1,n1⟩:=ih m1 (show (0:Int)<_ by omega);have g:=alr _ (N4 s i);have:=ih2 p1 ⟨hc1,HU g om si si (by simpa using⟨Jt,o1⟩)⟩
  cases r with
  | ok e k=>
   obtain⟨o2,n2⟩:=this;refine⟨o2,?_⟩
   simp [nodes,lK] at n2;omega
  | err p c=>trivial
 | @Al i r h d ih=>
  intro hi _;have:=ih hi trivial
  cases r with
  | ok e j=>exact this
  | err p c=>trivial
 | EV h d ih=>intro _ _;trivial
 | @K3 i j a h d ih=>
  intro hi _;obtain⟨m1,m2⟩:=dz hi (yY h);obtain⟨o1,n1⟩:=ih m1 trivial;have g:=anm (sy s i);refine⟨HU om om si si (by simpa using o1),?_⟩
  simp [nodes,lK];omega
 | @EW i h hv=>
  intro hi _;have m:=(kj s i hi).2.2 (by rw [h];decide);have g:=TB _ hv;refine⟨HU om om si si si,?_⟩
  simp [nodes,lK];omega
 | Am h hv=>intro _ _;trivial
 | @EY i h hv=>
  intro hi _;have m:=(kj s i hi).2.2 (by rw [h];decide);refine⟨HU om om (Km s i hl hi) si si,?_⟩
  simp [nodes,lK];omega
 | An h hv=>intro _ _;trivial
 | EZ h1 h2 h=>intro _ _;trivial
 | K4 h d ih=>intro _ _;trivial
 | wD h d h2 ih=>intro _ _;trivial
 | @K5 i j e h d h2 ih=>
  intro hi _;obtain⟨m1,m2⟩:=dz hi (by rw [h];decide);obtain⟨_,p1,_⟩:=lN d m1 trivial;obtain⟨m3,m4⟩:=dz p1 (by rw [h2];decide);obtain⟨o1,n1⟩:=ih m1 trivial;exact⟨o1,show nodes e+i<=nx s j by omega⟩
mutual
def kI:TExpr->Int
 | .mk _ _ _ kids=>rV kids 0+1
def rV:J TExpr->Int->Int
 | [],m=>m
 | k::l,m=>rV l (cond (decide (m<kI k)) (kI k) m)
end
theorem ahg(e:TExpr):kI e=rV e.fKids 0+1:=by cases e;rfl
theorem TC:∀(l m:J TExpr)(z:Int),rV (l++m) z=rV m (rV l z)
 | [],m,z=>rfl
 | k::l,m,z=>by simp [rV,TC l m]
theorem HV:∀(l:J TExpr)(z:Int),0<=z->(∀k,k∈l->0<=kI k/\kI k<=(nodes k:Int))->z<=rV l z/\rV l z<=z+(lK l:Int)
 | [],z,h,_=>by simp [rV,lK]
 | k::l,z,h,hk=>by
  have h1:=hk k si;simp [rV,lK]
  cases hc:decide (z<kI k) with
  | true=>
   have hc:=wS hc;have h2:=HV l (kI k) om fun k h=>hk k (pX _ h)
   simp;omega
  | false=>
   have h2:=HV l z h fun k h=>hk k (pX _ h);simp;omega
theorem ahh(e:TExpr):0<=kI e/\kI e<=(nodes e:Int):=by
 induction e using TExpr.ind with
 | h op n name kids ih=>
  have:=HV kids 0 om ih;simp [kI,nodes];omega
theorem TD{r:TExpr->O Int}{F:Nat}{l:J TExpr}(hF:l.length<F)(hb:l.length<=9223372036854775807)(hn:lK l<=1000000)(hr:∀k,k∈l->r k=some (kI k)):
  bV (σ:=Int×Int) (fun bt x1=>
   cond (decide (x1.2<(l.length:Int)))
   (rq ((decide (0<=x1.2))&&(decide (x1.2<(l.length:Int)))) ((r (l.getD (Int.toNat x1.2) dx)).bind fun x3=>
   bt (cond (decide (x1.1<x3)) x3 x1.1,aB (x1.2+1))))
   (some (aB (x1.1+1)))) F (0,0)=some (rV l 0+1):=by
 refine NU (fun i=>(rV (l.take i) 0,(i:Int))) l.length hF rfl ?_ ?_
 ·intro i rc hi
  simp only [wI hi,bK,gd hi,bh (i:=i) om,hr _ (kz hi)];rw [agU hi,TC];rfl
 ·intro rc
  have h:=HV l 0 om fun k _=>ahh k;simp;rw [bG om]
theorem ajk{e:TExpr}(ho:ij e):nodes e<=1000000->bH fun F n=>tM F n e=some (kI e)/\wF F n e=some (kI e):=by
 revert e;apply ij.ind;intro e h4 h5 ih hn;rw [Gf] at hn;refine bH.succ ((bH.all fun k hk=>ih k hk (by have:=HN hk;omega)).kE (bH.ge (e.fKids.length+1) fun F n h _=>h) fun F m ih hF=>?_);rw [ahg];refine⟨?_,TD hF h4 om fun k hk=>(ih k hk).2⟩;show DE F (tM F m) e=_;unfold DE;simp;exact TD hF h4 om fun k hk=>(ih k hk).1
def wG:TExpr:=.mk 0 0 [] []
def PS(s:Bs):oa->TExpr×Int×Int
 | .ok e j=>cond (decide (skip s j<s.length)) (wG,(skip s j:Int),6) (cond (decide (32<kI e)) (wG,0,5) (e,0,0))
 | .err p c=>(wG,(p:Int),c)
theorem aaH(s:Bs)(i:Nat)(hi:i<=s.length):(kd s i==0)=!(decide (skip s i<s.length)):=by
 unfold kd;rcases lM s i hi with⟨h',_,_,he⟩|⟨w,b,h',_,_,_,hl⟩|⟨w,b,h',_,_,_,hl⟩|⟨x',h',hs,_,hm,hl⟩|⟨b,h',_,_,hl⟩<;>rw [h']
 ·simp_all
 ·grind
 ·grind
 ·have:x'.length≠0:=by
   simp_all [BX]
  grind
 grind
theorem ajl{s:Bs}(hlen:s.length<=4096)(h0:skip s 0<s.length){r:oa}(d:D s .expr 0 r):
  bH fun F _=>oO F s=some (PS s r)/\oP F s=some (PS s r):=by
 have hl:s.length<=1000000:=om;have hA:=D_A hl d (fO _) trivial;have hR:=apY hl (apW d) (fO _) trivial;have hk0:(kd s 0==0)=false:=by simp_all [aaH,fO,dQ]
 have K7:decide (4096<(s.length:Int))=false:=sO om;have hat:((skip s 0:Int)==(s.length:Int))=false:=by grind
 have start:∀F,s.length+60<=F->tf F s 0=some ⟨kd s 0,po s 0,tx s 0⟩:=fun F hF=>by
  rw [<-Pj s 0 (fO _)];exact Vb F s 0 (fO _) om hl
 have rstart:∀F,s.length+60<=F->fM F s 0 0 0=some (s,(skip s 0:Int),0,0):=fun F hF=>sG F s 0 0 0 (fO _) om hl
 cases r with
 | err p c=>
  refine bH.BU hA.fst hR.fst (gv s) fun F _ h1 h2 hF=>⟨?_,?_⟩
  ·obtain⟨st,h1⟩:=h1
   unfold oO mm;rw [K7,start F hF];simp [aS,hk0];rw [h1];rfl
  ·obtain⟨hc,e,a,ha,hx⟩:=h2 (skip s 0) om (vp s 0)
   unfold oP yK;rw [K7,rstart F hF];simp [aS,hat,hx];rw [sG F s a c p ha om hl];simp only [aC];rw [Rh hc];have sD:(c != 0)=true:=by simpa using hc
   cases decide ((skip s a:Int)<(s.length:Int))<;>simp [bq,sD]<;>rfl
 | ok e j=>
  obtain⟨_,hj,_⟩:=lN d (fO _) trivial;obtain⟨ho,hn⟩:=ann hl d (fO _) trivial;refine bH.BU (hA.fst.and hR.fst) (ajk ho om).fst (gv s) fun F _ h12 hd hF=>?_;obtain⟨h1,h2⟩:=h12;obtain⟨Wr,Ws⟩:=hd;obtain⟨a,ha,hs,hx⟩:=h2 (skip s 0) om (vp s 0);have hkj:=aaH s j hj;have hne:(kd s j != 0)=decide (skip s j<s.length):=by grind
  refine⟨?_,?_⟩
  ·unfold oO mm I0
   rw [K7,start F hF];simp [aS,hk0];rw [h1];simp [sm,hne,Wr];show _=some (cond (decide (skip s j<s.length)) (wG,(skip s j:Int),6) (cond (decide (32<kI e)) (wG,0,5) (e,0,0)))
   cases decide (skip s j<s.length) with
   | true=>rfl
   | false=>cases decide (32<kI e)<;>rfl
  ·unfold oP yK N8
   rw [K7,rstart F hF];simp [aS,hat,hx];rw [sG F s a 0 0 ha om hl,hs];simp only [aC,Ws];show _=some (cond (decide (skip s j<s.length)) (wG,(skip s j:Int),6) (cond (decide (32<kI e)) (wG,0,5) (e,0,0)));by_cases hlt:skip s j<s.length
   ·rw [dQ hlt,dQ om]
    rfl
   ·rw [sO hlt,sO om]
    cases decide (32<kI e)<;>rfl
theorem ab3{s:Bs}(hlen:s.length<=4096)(h0:¬ skip s 0<s.length):bH fun F _=>oO F s=some (.mk 1 0 [] [],0,0)/\oP F s=some (.mk 1 0 [] [],0,0):=by
 have hl:s.length<=1000000:=om;refine (gv s).mono fun F _ hF=>?_;have hk0:(kd s 0==0)=true:=by simp_all [aaH,fO,sO]
 have K7:decide (4096<(s.length:Int))=false:=sO om;have hsk:=(gQ s 0 (fO _)).1;have hat:((skip s 0:Int)==(s.length:Int))=true:=by rw [uh];omega
 have start:tf F s 0=some ⟨kd s 0,po s 0,tx s 0⟩:=by
  rw [<-Pj s 0 (fO _)];exact Vb F s 0 (fO _) om hl
 have rstart:fM F s 0 0 0=some (s,(skip s 0:Int),0,0):=sG F s 0 0 0 (fO _) om hl;constructor
 ·unfold oO
  rw [K7,start];simp [aS,hk0];rfl
 ·unfold oP
  rw [K7]
  simp_all
end Go.Proofs.YthmndfnkdgmenaaGreatDoor.K
namespace Go.Proofs.YthmndfnkdgmenaaGreatDoor.K
open Go.RT
set_option maxRecDepth 100000
theorem ab4(s:Bs)(hs:s.length<=4096):∃x,(ij x.1/\nodes x.1<=10000)/\bH fun F _=>oO F s=some x/\oP F s=some x:=by
 have hz:ij wG/\nodes wG<=10000:=⟨HU om om si si si,by decide⟩;by_cases h0:skip s 0<s.length
 ·obtain⟨r,d⟩:=ank s 0 (fO _)
  refine⟨_,?_,ajl om h0 d⟩
  cases r with
  | err p c=>exact hz
  | ok e j=>
   obtain⟨ho,hn⟩:=ann om d (fO _) trivial;obtain⟨_,hj,_⟩:=lN d (fO _) trivial;show ij (cond (decide (skip s j<s.length)) (wG,(skip s j:Int),(6:Int)) (cond (decide (32<kI e)) (wG,0,5) (e,0,0))).1/\nodes (cond (decide (skip s j<s.length)) (wG,(skip s j:Int),(6:Int)) (cond (decide (32<kI e)) (wG,0,5) (e,0,0))).1<=10000
   cases decide (skip s j<s.length) with
   | true=>exact hz
   | false=>
    cases decide (32<kI e) with
    | true=>exact hz
    | false=>
     have hn:nodes e+0<=j:=hn;exact⟨ho,by show nodes e<=10000;omega⟩
 ·exact⟨_,⟨HU om om si si si,by decide⟩,ab3 om h0⟩
end Go.Proofs.YthmndfnkdgmenaaGreatDoor.K
