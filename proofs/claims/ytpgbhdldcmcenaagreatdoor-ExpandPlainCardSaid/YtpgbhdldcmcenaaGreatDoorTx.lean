import Derived.Test.YtpgbhdldcmcenaaGreatDoorZ2
import Derived.Test.YtpgbhdldcmcenaaGreatDoorSo
set_option linter.all false
namespace Go.Proofs.YtpgbhdldcmcenaaGreatDoor.K
open Go.RT
set_option maxRecDepth 100000
variable{α:Type}
theorem ahH(c:Bool)(x y:α):cond c (some x) (some y)=some (cond c x y):=by cases c<;>rfl
def afT(a:Int):O (Int×Bs):=cond ((24:Int)==a) (some (3,[124,124])) (cond ((23:Int)==a) (some (4,[38,38])) (cond ((22:Int)==a) (some (5,[124])) (cond ((21:Int)==a) (some (6,[94])) (cond ((20:Int)==a) (some (7,[38])) (cond ((18:Int)==a) (some (8,[61,61])) (cond ((19:Int)==a) (some (8,[33,61])) (cond ((14:Int)==a) (some (9,[60])) (cond ((15:Int)==a) (some (9,[62])) (cond ((16:Int)==a) (some (9,[60,61])) (cond ((17:Int)==a) (some (9,[62,61])) (cond ((12:Int)==a) (some (10,[60,60])) (cond ((13:Int)==a) (some (10,[62,62])) (cond ((10:Int)==a) (some (11,[43])) (cond ((11:Int)==a) (some (11,[45])) (cond ((7:Int)==a) (some (12,[42])) (cond ((8:Int)==a) (some (12,[47])) (cond ((9:Int)==a) (some (12,[37])) (some (0,[])))))))))))))))))))
def Y4(a:Int):Int×Bs:=cond ((24:Int)==a) (3,[124,124]) (cond ((23:Int)==a) (4,[38,38]) (cond ((22:Int)==a) (5,[124]) (cond ((21:Int)==a) (6,[94]) (cond ((20:Int)==a) (7,[38]) (cond ((18:Int)==a) (8,[61,61]) (cond ((19:Int)==a) (8,[33,61]) (cond ((14:Int)==a) (9,[60]) (cond ((15:Int)==a) (9,[62]) (cond ((16:Int)==a) (9,[60,61]) (cond ((17:Int)==a) (9,[62,61]) (cond ((12:Int)==a) (10,[60,60]) (cond ((13:Int)==a) (10,[62,62]) (cond ((10:Int)==a) (11,[43]) (cond ((11:Int)==a) (11,[45]) (cond ((7:Int)==a) (12,[42]) (cond ((8:Int)==a) (12,[47]) (cond ((9:Int)==a) (12,[37]) ((0,[])))))))))))))))))))
def lQ(a:Int):Int×Bs:=cond (a==1||a==2) (14,[]) (cond (a==3) (13,[45]) (cond (a==4) (13,[43]) (cond (a==5) (13,[33]) (cond (a==6) (13,[126]) (cond (a==25) (2,[63]) (cond (a==26) (1,[61]) (Y4 a)))))))
def pK(a:Int):Int:=cond (a==1||a==2) 0 (cond ((decide (3<=a)&&decide (a<=6))||a==26) 1 (cond (decide (7<=a)&&decide (a<=24)) 2 (cond (a==25) 3 (-1))))
theorem adx(F:Nat)(a:Int):Fj F a=some (pK a):=by
 unfold Fj pK wx
 grind
theorem ajU(a:Int):afT a=some (Y4 a):=by simp [afT,Y4,ahH]
theorem ahI(G:Nat)(a:Int):((sR (G+20)).bind fun x2=>
 b8 (σ:=Int) (fun lu x3=>
 cond (decide (x3<(x2.length:Int)))
 (rq ((decide (0<=x3))&&(decide (x3<(x2.length:Int)))) (cond (((x2.getD (Int.toNat x3) zK).fop)==a)
 (some ((x2.getD (Int.toNat x3) zK).Oz,(x2.getD (Int.toNat x3) zK).F8))
 (lu (aB (x3+1)))))
 (some (0,[]))) (G+20) 0)=afT a:=by kernel_rfl
theorem acL(G:Nat)(a:Int):xA (G+20) a=some (lQ a):=by
 unfold xA lQ wx;cases h1:(a==1)<;>cases h2:(a==2)<;>simp;cases h3:(a==3)<;>simp;cases h4:(a==4)<;>simp;cases h5:(a==5)<;>simp;cases h6:(a==6)<;>simp;cases h7:(a==25)<;>simp;cases h8:(a==26)<;>simp;exact (ahI G a).trans (ajU a)
def alq(L:Int):Int:=cond (L==1||L==13) 1 (cond (L==2) 3 (cond (L==14) 0 2))
theorem ajV(op:Int):((lQ op).1=0/\pK op=-1)\/((lQ op).1≠0/\alq (lQ op).1=pK op):=by
 by_cases h:1<=op/\op<=26
 ·have:op=1\/op=2\/op=3\/op=4\/op=5\/op=6\/op=7\/op=8\/op=9\/op=10\/op=11\/op=12\/op=13\/op=14\/op=15\/op=16\/op=17\/op=18\/op=19\/op=20\/op=21\/op=22\/op=23\/op=24\/op=25\/op=26:=om
  rcases this with rfl|rfl|rfl|rfl|rfl|rfl|rfl|rfl|rfl|rfl|rfl|rfl|rfl|rfl|rfl|rfl|rfl|rfl|rfl|rfl|rfl|rfl|rfl|rfl|rfl|rfl<;>decide
 ·left
  have h1:(op==1)=false:=by grind
  have g1:((1:Int)==op)=false:=by rw [gK];omega
  have h2:(op==2)=false:=by rw [gK];omega
  have g2:((2:Int)==op)=false:=by rw [gK];omega
  have h3:(op==3)=false:=by grind
  have g3:((3:Int)==op)=false:=by grind
  have h4:(op==4)=false:=by grind
  have g4:((4:Int)==op)=false:=by grind
  have h5:(op==5)=false:=by grind
  have g5:((5:Int)==op)=false:=by grind
  have h6:(op==6)=false:=by grind
  have g6:((6:Int)==op)=false:=by grind
  have h7:(op==7)=false:=by grind
  have g7:((7:Int)==op)=false:=by grind
  have h8:(op==8)=false:=by grind
  have g8:((8:Int)==op)=false:=by grind
  have h9:(op==9)=false:=by grind
  have g9:((9:Int)==op)=false:=by rw [gK];omega
  have h10:(op==10)=false:=by rw [gK];omega
  have g10:((10:Int)==op)=false:=by rw [gK];omega
  have h11:(op==11)=false:=by rw [gK];omega
  have g11:((11:Int)==op)=false:=by rw [gK];omega
  have h12:(op==12)=false:=by rw [gK];omega
  have g12:((12:Int)==op)=false:=by rw [gK];omega
  have Xq:(op==13)=false:=by rw [gK];omega
  have g13:((13:Int)==op)=false:=by rw [gK];omega
  have h14:(op==14)=false:=by rw [gK];omega
  have g14:((14:Int)==op)=false:=by rw [gK];omega
  have h15:(op==15)=false:=by rw [gK];omega
  have g15:((15:Int)==op)=false:=by rw [gK];omega
  have h16:(op==16)=false:=by rw [gK];omega
  have g16:((16:Int)==op)=false:=by rw [gK];omega
  have h17:(op==17)=false:=by rw [gK];omega
  have g17:((17:Int)==op)=false:=by rw [gK];omega
  have h18:(op==18)=false:=by rw [gK];omega
  have g18:((18:Int)==op)=false:=by rw [gK];omega
  have h19:(op==19)=false:=by rw [gK];omega
  have g19:((19:Int)==op)=false:=by rw [gK];omega
  have h20:(op==20)=false:=by rw [gK];omega
  have g20:((20:Int)==op)=false:=by rw [gK];omega
  have h21:(op==21)=false:=by rw [gK];omega
  have g21:((21:Int)==op)=false:=by rw [gK];omega
  have h22:(op==22)=false:=by rw [gK];omega
  have g22:((22:Int)==op)=false:=by rw [gK];omega
  have h23:(op==23)=false:=by rw [gK];omega
  have g23:((23:Int)==op)=false:=by rw [gK];omega
  have Ui:(op==24)=false:=by rw [gK];omega
  have g24:((24:Int)==op)=false:=by rw [gK];omega
  have Xr:(op==25)=false:=by rw [gK];omega
  have g25:((25:Int)==op)=false:=by rw [gK];omega
  have Il:(op==26)=false:=by rw [gK];omega
  have g26:((26:Int)==op)=false:=by rw [gK];omega
  have k1:(decide (3<=op)&&decide (op<=6))=false:=by
   grind
  have k2:(decide (7<=op)&&decide (op<=24))=false:=by
   grind
  refine⟨?_,?_⟩
  ·simp only [lQ,Y4,h1,h2,h3,h4,h5,h6,h7,h8,h9,h10,h11,h12,Xq,h14,h15,h16,h17,h18,h19,h20,h21,h22,h23,Ui,Xr,Il,g1,g2,g3,g4,g5,g6,g7,g8,g9,g10,g11,g12,g13,g14,g15,g16,g17,g18,g19,g20,g21,g22,g23,g24,g25,g26,Yp,aK]
  ·simp only [pK,h1,h2,Xr,Il,k1,k2,Yp,aK]
def Bi(n:Int):Bool:=(decide (7<=n)&&decide (n<=13))||(decide (20<=n)&&decide (n<=22))
theorem ajW(F:Nat)(n:Int):sS F n=some (Bi n):=by
 by_cases h:n=7\/n=8\/n=9\/n=10\/n=11\/n=12\/n=13\/n=20\/n=21\/n=22
 ·rcases h with rfl|rfl|rfl|rfl|rfl|rfl|rfl|rfl|rfl|rfl<;>rfl
 ·unfold sS Bi wx
  have k1:(decide (7<=n)&&decide (n<=13))=false:=by
   grind
  have k2:(decide (20<=n)&&decide (n<=22))=false:=by
   grind
  grind
theorem aaT(F:Nat)(n:Int):xB F n=some (n==0||Bi n):=by
 unfold xB Bi wx
 grind
def fW(b:Int):Bool:=decide (48<=b)&&decide (b<=57)
def ou(b:Int):Bool:=(decide (97<=b)&&decide (b<=122))||(decide (65<=b)&&decide (b<=90))
def r7(b:Int):Bool:=(ou b||fW b)||b==95
theorem Uj(F:Nat)(b:Int):kN F b=some (fW b):=by
 unfold kN fW wx;grind
theorem amo(F:Nat)(b:Int):sx F b=some (ou b):=by
 unfold sx ou wx;grind
theorem apX(F:Nat)(b:Int):pq F b=some (r7 b):=by
 unfold pq r7 wx;rw [amo,Uj];cases ou b<;>cases fW b<;>rfl
theorem ahJ(F:Nat)(b:Int):uO F b=some (fW b):=by
 unfold uO fW wx;grind
theorem amq(F:Nat)(b:Int):we F b=some (ou b):=by
 unfold we ou wx;grind
theorem ahK(b:Int):fW b=true↔48<=b/\b<=57:=by simp [fW]
theorem aaU(b:Int):r7 b=true↔(97<=b/\b<=122)\/(65<=b/\b<=90)\/(48<=b/\b<=57)\/b=95:=by
 simp [r7,ou,fW];omega
def rj(s:Bs)(p:Nat):Int:=((s.getD p 0).toNat:Int)
theorem aaV(p:Nat->Bool):∀k i,iter (fun i r=>cond (p i) r (some false)) (some true) k i=some ((List.range' i k).all p)
 | 0,i=>rfl
 | k+1,i=>by
  simp [iter,Yq];rw [aaV p k (i+1)];cases p i<;>rfl
def rName(s:Bs):Bool:=cond (s==[]||decide (32<(s.length:Int))) false (cond (fW (rj s 0)) false ((List.range' 0 s.length).all fun i=>r7 (rj s i)))
theorem zh(F:Nat)(s:Bs)(hF:33<=F):fA F s=some (rName s):=by
 unfold fA rName wx;simp only [Uj,apX]
 cases h1:(s==[]) with
 | true=>rfl
 | false=>
  cases h2:decide (32<(s.length:Int)) with
  | true=>rfl
  | false=>
   have h0:decide (0<(s.length:Int))=true:=by
    cases s with
    | nil=>cases h1
    | cons a s=>simp
   have hl:¬ 32<(s.length:Int):=by simpa using h2
   simp only [aK,h0];show cond (fW (rj s 0)) _ _=some (cond (fW (rj s 0)) _ _)
   cases fW (rj s 0) with
   | true=>rfl
   | false=>
    simp only [aK];rw [<-aaV (fun i=>r7 (rj s i))];refine acK (fun i rc hi=>?_) (fun rc=>?_) F om
    ·have e1:decide ((i:Int)<(s.length:Int))=true:=by simpa using hi
     have e2:decide (0<=(i:Int))=true:=by simp
     simp only [e1];rw [bx om];show cond (!(r7 (rj s i))) _ _=_
     simp_all
    simp_all
theorem get_at(l:Bs)(k:Nat):(ByteArray.mk ⟨l⟩).get! k=l.getD k 0:=by
 simp [ByteArray.get!];cases l[k]? <;> rfl
variable{p:Nat}
theorem Oy{l:Bs}(h:(l.getD p 0).toNat<128):dec l p=((l.getD p 0).toNat,1):=by
 unfold dec Utf8.decode
 simp_all [get_at,UU,if_pos]
theorem Xs{l:Bs}(h:¬ (l.getD p 0).toNat<128):128<=(dec l p).1:=by
 unfold dec Utf8.decode;simp [get_at]
 (repeat' split)<;>simp_all [Utf8.runeError]<;>omega
def cOk(c p:Int):Bool:=cond (ou c||c==95) true (cond (fW c) (decide (0<p)) false)
theorem ady(c p:Int):cOk c p=true↔(97<=c/\c<=122)\/(65<=c/\c<=90)\/c=95\/(48<=c/\c<=57)/\0<p:=by
 simp [cOk,ou,fW];omega
def Rb(s:Bs)(p:Nat):Bool:=r7 (rj s p) && !(decide (p=0)&&fW (rj s p))
theorem amr(s:Bs)(p:Nat):cOk ((dec s p).1:Int) (p:Int)=Rb s p/\(Rb s p=true->(dec s p).2=1):=by
 by_cases h:(s.getD p 0).toNat<128
 ·rw [Oy h]
  rw [tJ,ady];unfold Rb rj;rw [cE,aaU]
  grind [ahK,decide_eq_false_iff_not]
 ·have h1:=Xs h
  have h2:r7 (rj s p)=false:=by
   apply Rq.2;intro hw;unfold rj at hw
   grind [aaU]
  have h3:Rb s p=false:=by unfold Rb;rw [h2];rfl
  rw [h3];refine⟨?_,fun h=>by cases h⟩
  grind [ady]
theorem Uk(F:Nat)(s:Bs):∀(k p n:Nat),p+k=s.length->k<n->b8 (σ:=Bs×Int) (R:=Bool) (fun gP x2=>
   cond (Nat.blt (Int.toNat x2.2) x2.1.length)
   (((we F ((dec x2.1 (Int.toNat x2.2)).1:Int)).bind fun x5=>
   cond x5
   (some true)
   (some (((dec x2.1 (Int.toNat x2.2)).1:Int)==95)):O Bool).bind fun x4=>
   (cond x4
   (some true)
   ((uO F ((dec x2.1 (Int.toNat x2.2)).1:Int)).bind fun x7=>
   cond x7
   (some (decide (0<(((Int.toNat x2.2):Nat):Int))))
   (some false)):O Bool).bind fun x6=>
   cond x6
   (gP (x2.1,((((Int.toNat x2.2)+(dec x2.1 (Int.toNat x2.2)).2):Nat):Int)))
   (some false))
   (some true)) n (s,(p:Int))=some ((List.range' p k).all (Rb s))
 | 0,p,n,h,hn=>by
  cases n with
  | zero=>omega
  | succ n=>
   have e:Nat.blt p s.length=false:=by
    simp_all [Rq,Yr]
   simp_all [b8,bZ,aK]
 | k+1,p,n,h,hn=>by
  cases n with
  | zero=>omega
  | succ n=>
   have e:Nat.blt p s.length=true:=by rw [Nat.blt,Yr];omega
   obtain⟨h1,h2⟩:=amr s p;have ih:=Uk F s k (p+1) n om om;simp only [amq,ahJ,aC] at ih⊢;rw [b8];simp only [bZ,e,aZ]
   have key:∀X:O Bool,((cond (ou ((dec s p).1:Int)) (some true) (some (((dec s p).1:Int)==95)):O Bool).bind fun x4=>
     (cond x4 (some true) (cond (fW ((dec s p).1:Int)) (some (decide (0<(p:Int)))) (some false)):O Bool).bind fun x6=>cond x6 X (some false))=cond (cOk ((dec s p).1:Int) (p:Int)) X (some false):=by
    intro X;unfold cOk
    grind
   rw [key,h1,Yq,SE]
   grind
theorem Ej(F:Nat)(s:Bs)(hF:33<=F):ld F s=some (rName s):=by
 unfold ld rName wx;by_cases hz:s=[]
 ·subst hz;rfl
 have hlen:=zu.2 hz;have h1:decide ((s.length:Int)<1)=false:=by simp;omega
 have h2:(s==[])=false:=by simpa using hz
 rw [h1,h2]
 cases hl:decide (32<(s.length:Int)) with
 | true=>rfl
 | false=>
  have hs:¬ 32<(s.length:Int):=by simpa using hl
  rw [Uk F s s.length 0 F om om];obtain⟨m,hm⟩:∃m,s.length=m+1:=⟨s.length-1,om⟩;rw [hm,Yq]
  have e:(List.range' (0+1) m).all (Rb s)=(List.range' (0+1) m).all fun i=>r7 (rj s i):=by
   rw [tJ]
   have:∀x,x∈List.range' (0+1) m->Rb s x=r7 (rj s x):=fun x hx=>by
    unfold Rb
    grind
   simp_all
  unfold Rb
  grind
theorem GN(F:Nat)(s:Bs)(hF:33<=F):ld F s=fA F s:=(Ej F s hF).trans (zh F s hF).symm
abbrev cO:=cm
abbrev cO.mk:=cm.mk
instance:Inhabited TExpr:=⟨dB⟩
inductive iD:TExpr->Prop
 | mk (op n:Int) (name:Bs) (kids:List TExpr) (h1:(Lit.int .i64 op).wf=true) (h2:(Lit.int .i64 n).wf=true) (h3:name.length<=maxLen) (h4:kids.length<=maxLen) (h5:∀x,x∈kids->iD x):iD (.mk op n name kids)
theorem afU(G:Nat)(r:TExpr->Int->O Int)(e:TExpr)(d:Int)(hd:d<=32)(hN:ld (G+20) e.fName=fA (G+20) e.fName):
  zi (G+20) r e d=lq (G+20) r e d:=by
 unfold zi lq wx;simp only [acL,adx,ajW,aaT,hN,aC,TExpr.eta];generalize fA (G+20) e.fName=nm;generalize e.fOp=op;generalize e.fN=n;generalize e.fName=name;generalize e.fKids=kids
 have e32:(d==32)=decide (32<=d):=by
  rw [tJ,uW,fL];omega
 have en:decide (n<0)=!(decide (0<=n)):=by
  rw [tJ,Gd,fL,akT];omega
 have o1:(op==1&&op==26)=false:=by
  rw [adP,gK,gK];omega
 rw [e32,en];simp only [bne];cases h32:decide (32<=d)<;>simp only [aZ,aK];rcases ajV op with⟨h1,h2⟩|⟨h1,h2⟩
 ·rw [h1,h2]
  have e:((kids.length:Int) == -1)=false:=by rw [gK];omega
  rw [e];cases (op==2)<;>cases (op==26)<;>rfl
 ·have e0:((lQ op).1==0)=false:=by rw [gK];exact h1
  have ex:∀k:Int->O Int,jj (σ:=Int) (R:=Int) (cond ((lQ op).1==0) (some (.inr 1)) ((cond ((lQ op).1==1) (some ((lQ op).1==1)) (some ((lQ op).1==13)):O Bool).bind fun x3=>
    cond x3 (some (.inl 1)) (cond ((lQ op).1==2) (some (.inl 3)) (cond ((lQ op).1==14) (some (.inl 0)) (some (.inl 2)))))) k=k (pK op):=by
   intro k;rw [e0,<-h2];unfold alq;generalize (lQ op).1=L;cases (L==1)<;>cases (L==13)<;>cases (L==2)<;>cases (L==14)<;>rfl
  rw [ex];generalize (op==1)=b1 at o1⊢;generalize (op==26)=b26 at o1⊢
  cases ((kids.length:Int)==pK op)<;>cases b1<;>cases b26<;>(first|(cases o1;done)|skip)<;>
   cases (op==2)<;>cases (decide (0<=n))<;>cases (n==0)<;>cases (Bi n)<;>cases (name==[])<;>rfl
theorem acM(F:Nat)(r r':TExpr->Int->O Int)(e:TExpr)(d:Int)(h:¬ 32<=d->∀x,r x (aB (d+1))=r' x (aB (d+1))):lq F r e d=lq F r' e d:=by
 unfold lq wx;by_cases hd:32<=d
 ·rw [show decide (32<=d)=true by simpa using hd];rfl
 ·simp only [h hd]
theorem aaW(G:Nat)(hG:13<=G):∀(n:Nat)(e:TExpr)(d:Int),0<=d->d<=32->qR (G+20) n e d=j9 (G+20) n e d
 | 0,e,d,_,_=>rfl
 | n+1,e,d,h0,h1=>by
  show zi (G+20) (qR (G+20) n) e d=lq (G+20) (j9 (G+20) n) e d;rw [afU G _ e d h1 (GN _ _ om)];refine acM _ _ _ e d fun hd x=>?_;rw [bN om];exact aaW G hG n x (d+1) om om
theorem TExpr.ind{P:TExpr->Prop}(h:∀op n name kids,(∀k,k∈kids->P k)->P (.mk op n name kids))(e:TExpr):P e:=by
 match e with
 | .mk op n name kids=>exact h op n name kids fun k hk=>TExpr.ind h k
termination_by SizeOf.sizeOf e
decreasing_by
 have:=List.sizeOf_lt_of_mem hk;simp only [TExpr.mk.sizeOf_spec];omega
variable{P:TExpr->Prop}
theorem iD.ind(h:∀e,e.fKids.length<=9223372036854775807->(∀k,k∈e.fKids->iD k)->(∀k,k∈e.fKids->P k)->P e):∀e,iD e->P e:=by
 intro e ho
 induction ho with
 | mk op n name kids h1 h2 h3 h4 h5 ih=>exact h (.mk op n name kids) (oD h4 de) h5 ih
mutual
def nodes:TExpr->Nat
 | .mk _ _ _ kids=>mm kids+1
def mm:J TExpr->Nat
 | []=>0
 | k::l=>nodes k+mm l
end
theorem GO(e:TExpr):nodes e=mm e.fKids+1:=by cases e;rfl
theorem Im:∀ {l:J TExpr}{k:TExpr},k∈l->nodes k<=mm l
 | x::l,k,h=>by
  rcases iE.1 h with rfl|h
  ·simp only [mm];omega
  ·have:=Im h;simp only [mm];omega
inductive Nms:TExpr->Prop
 | mk (op n:Int) (name:Bs) (kids:List TExpr) (h:name.length<=60) (hk:∀k,k∈kids->Nms k):Nms (.mk op n name kids)
def Lx(op:Int):Bool:=op==2||op==26
variable{i:Nat}
theorem ahL{l:J α}(h:i<l.length):l.take (i+1)=l.take i++[l[i]]:=by
 rw [lB h]
def CE(op n:Int)(name:Bs)(len:Nat):Bool:=
 ((len:Int) != pK op)||(Lx op==(name==[]))||((op==1&&decide (n<0))||(op==26 && !(n==0||Bi n))||(op != 1&&(op != 26&&n != 0)))
mutual
def gW:TExpr->Int->Int
 | .mk op n name kids,d=>cond (decide (32<=d)) 5 (cond (CE op n name kids.length) 1 (cond (Lx op && !rName name) 10 (DB kids (d+1))))
def DB:J TExpr->Int->Int
 | [],_=>0
 | k::l,d=>cond (gW k d != 0) (gW k d) (DB l d)
end
theorem ahM(e:TExpr)(d:Int):gW e d=cond (decide (32<=d)) 5 (cond (CE e.fOp e.fN e.fName e.fKids.length) 1 (cond (Lx e.fOp && !rName e.fName) 10 (DB e.fKids (d+1)))):=by
 cases e;rfl
variable{e:TExpr}
theorem Rc(ho:iD e):bL fun F n=>∀d,0<=d->d<=32->j9 F n e d=some (gW e d):=by
 revert e;apply iD.ind;intro e h4 h5 ih;refine bL.succ ((bL.all ih).kS (bL.ge (e.fKids.length+34) fun F n h _=>h) fun F m ih hF d Q7 Xj=>?_);rw [ahM];show lq F (j9 F m) e d=_;unfold lq wx;simp only [adx,aaT,zh F _ (by omega:33<=F)];by_cases hd:32<=d
 ·simp_all
 ·rw [bN om]
  rw [ri e.fKids (fun i (_:Unit)=>(i:Int)) (fun _ k=>(j9 F m k (d+1)).bind fun x=>cond (x != 0) (some (.inr x)) (some (.inl ()))) (fun _=>some 0) (t:=()) om ?_ ?_ ?_]
  ·have key:∀l:J TExpr,(∀k,k∈l->k∈e.fKids)->qg (fun _ k=>(j9 F m k (d+1)).bind fun x=>cond (x != 0) (some (.inr x)) (some (.inl ()))) (fun _=>some 0) l ()=some (DB l (d+1)):=by
    intro l
    induction l with
    | nil=>intro _;rfl
    | cons k l ihl=>
     intro hm;simp [qg,DB];rw [ih k (hm k si) (d+1) om om];simp;cases (gW k (d+1) != 0)
     ·simp_all [aK,aC,sm,kf]
     ·rfl
   unfold CE Lx
   grind
  ·rfl
  ·intro i h t rc
   simp only [xU h,B0,gJ,bZ,gd h,bx (i:=i) om]
   cases j9 F m e.fKids[i] (d+1) with
   | none=>rfl
   | some x=>
    simp;cases (x != 0)<;>rfl
  simp_all
theorem XY(ho:iD e):bL fun F n=>∀d,0<=d->d<=32->qR F n e d=some (gW e d):=
 (Rc ho).kS (bL.ge 33 fun F n h _=>h) fun F n h hF d h0 h1=>by
  obtain⟨G,rfl⟩:∃G,F=G+20:=⟨F-20,om⟩
  simp_all [aaW]
inductive Vd:TExpr->Prop
 | mk (op n:Int) (name:Bs) (kids:List TExpr) (h1:(kids.length:Int)=pK op) (h2:Lx op=!(name==[])) (h3:op=1->0<=n) (h4:op=26->n=0\/Bi n=true) (h5:op≠1->op≠26->n=0)
   (h6:Lx op=true->rName name=true) (h7:∀k,k∈kids->Vd k):Vd (.mk op n name kids)
theorem Re:∀(l:J TExpr)(d:Int),DB l d=0↔∀k,k∈l->gW k d=0
 | [],d=>by simp [DB]
 | k::l,d=>by
  simp [DB];rw [<-Re l d]
  cases h:(gW k d != 0) with
  | true=>
   have:gW k d≠0:=by simpa using h
   simp [this]
  | false=>
   have:gW k d=0:=by simpa using h
   simp [this]
variable{n:Int}
theorem ajX{op:Int}{name:Bs}{len:Nat}(h:CE op n name len=false):
  (len:Int)=pK op/\Lx op=!(name==[])/\(op=1->0<=n)/\(op=26->n=0\/Bi n=true)/\(op≠1->op≠26->n=0):=by
 unfold CE at h
 grind
theorem Ip(e:TExpr):∀d,gW e d=0->Vd e:=by
 induction e using TExpr.ind with
 | h op n name kids ih=>
  intro d h;simp [gW] at h
  cases h0:decide (32<=d) with
  | true=>rw [h0] at h;simp at h
  | false=>
   rw [h0] at h
   cases h1:CE op n name kids.length with
   | true=>rw [h1] at h;simp at h
   | false=>
    rw [h1] at h
    cases h2:(Lx op && !rName name) with
    | true=>rw [h2] at h;simp at h
    | false=>
     rw [h2] at h;simp at h;rw [Re] at h;obtain⟨a,b,c,d',e⟩:=ajX h1;refine .mk op n name kids a b c d' e (fun hn=>?_) fun k hk=>ih k hk _ (h k hk)
     simp_all
def par(b:Bool)(s:Bs):Bs:=cond b (([40]++s)++[41]) s
theorem ajY{op:Int}{n:Nat}(h:(n:Int)=pK op):1<=op/\op<=26:=by
 by_cases h1:1<=op/\op<=26
 ·exact h1
 ·have e1:(op==1)=false:=by grind
  have e2:(op==2)=false:=by grind
  have e3:(op==25)=false:=by grind
  have e4:(op==26)=false:=by grind
  have k1:(decide (3<=op)&&decide (op<=6))=false:=by
   grind
  have k2:(decide (7<=op)&&decide (op<=24))=false:=by
   grind
  simp only [pK,e1,e2,e3,e4,k1,k2,Yp,aK] at h;omega
theorem ajZ{op:Int}(h:1<=op/\op<=26):op=1\/op=2\/op=3\/op=4\/op=5\/op=6\/op=7\/op=8\/op=9\/op=10\/op=11\/op=12\/op=13\/op=14\/op=15\/op=16\/op=17\/op=18\/op=19\/op=20\/op=21\/op=22\/op=23\/op=24\/op=25\/op=26:=om
inductive Kind(op:Int):Prop
 | num (h:op=1\/op=2) (hk:pK op=0) (hl:(lQ op).1=14)
 | un (h:3<=op/\op<=6) (hk:pK op=1) (hl:(lQ op).1=13) (hs:(lQ op).2.length=1)
 | bin (h:7<=op/\op<=24) (hk:pK op=2) (hl:3<=(lQ op).1/\(lQ op).1<=12) (hs:(lQ op).2.length<=2)
 | con (h:op=25) (hk:pK op=3) (hl:(lQ op).1=2)
 | set (h:op=26) (hk:pK op=1) (hl:(lQ op).1=1)
structure Good(e:TExpr):Prop where
 v:Vd e
 o:iD e
 m:Nms e
theorem Good.kid(g:Good e):∀k,k∈e.fKids->Good k:=by
 obtain⟨v,o,m⟩:=g
 cases e with
 | mk op n name kids=>
  cases v with
  | mk _ _ _ _ h1 h2 h3 h4 h5 h6 h7=>
   cases o with
   | mk _ _ _ _ a1 a2 a3 a4 a5=>
    cases m with
    | mk _ _ _ _ b1 b2=>exact fun k hk=>⟨h7 k hk,a5 k hk,b2 k hk⟩
theorem Good.ind(h:∀e,Good e->(∀k,k∈e.fKids->P k)->P e):∀e,Good e->P e:=by
 intro e
 induction e using TExpr.ind with
 | h op n name kids ih=>
  intro g;exact h _ g fun k hk=>ih k hk (g.kid k hk)
theorem aoy(h:(Lit.int .i64 n).wf=true):-9223372036854775808<=n/\n<=9223372036854775807:=by
 have h1:IntKind.i64.min=-9223372036854775808:=by decide
 have h2:IntKind.i64.max=9223372036854775807:=by decide
 simp [Lit.wf] at h;omega
theorem Good.facts(g:Good e):(e.fKids.length:Int)=pK e.fOp/\(e.fOp=1->0<=e.fN)/\e.fN<=9223372036854775807/\e.fName.length<=60/\(e.fOp=26->e.fN=0\/Bi e.fN=true):=by
 obtain⟨v,o,m⟩:=g
 cases e with
 | mk op n name kids=>
  cases v with
  | mk _ _ _ _ h1 h2 h3 h4 h5 h6 h7=>
   cases o with
   | mk _ _ _ _ a1 a2 a3 a4 a5=>
    cases m with
    | mk _ _ _ _ b1 b2=>exact⟨h1,h3,(aoy a2).2,b1,h4⟩
variable{R:Type}
theorem aaX{n:Nat}{inst:Decidable (n<=9223372036854775807)}(h:n<=1000000)(k:O R):rq (@decide (n<=9223372036854775807) inst) k=k:=cC (dW om)
theorem aaY{d:Nat}(h:d<10):cu ([IntKind.wrap .u8 (IntKind.wrap .u64 (48+(d:Int)))]:J Int)=[UInt8.ofNat (48+d)]:=by
 have:d=0\/d=1\/d=2\/d=3\/d=4\/d=5\/d=6\/d=7\/d=8\/d=9:=om;rcases this with rfl|rfl|rfl|rfl|rfl|rfl|rfl|rfl|rfl|rfl<;>rfl
theorem Jo:∀(k u m:Nat)(out:Bs),u<10^(k+1)->u<18446744073709551616->k<m->out.length+k<=1000->b8 (σ:=Int×Bs) (fun bA x1=>
   cond (decide (9<x1.1))
   (rq (decide ((cu ([IntKind.wrap .u8 (IntKind.wrap .u64 (48+(Int.tmod x1.1 10)))]:J Int)).length+x1.2.length<=9223372036854775807)) (bA (IntKind.wrap .u64 (Int.tdiv x1.1 10),(cu ([IntKind.wrap .u8 (IntKind.wrap .u64 (48+(Int.tmod x1.1 10)))]:J Int))++x1.2)))
   (rq (decide ((cu ([IntKind.wrap .u8 (IntKind.wrap .u64 (48+x1.1))]:J Int)).length+x1.2.length<=9223372036854775807)) (some ((cu ([IntKind.wrap .u8 (IntKind.wrap .u64 (48+x1.1))]:J Int))++x1.2)))) m ((u:Int),out)=some (Lib.decDigits u++out)
 | k,u,0,out,_,_,h,_=>by omega
 | k,u,m+1,out,hu,hu',hk,ho=>by
  simp only [b8];by_cases h9:u<10
  ·rw [show decide (9<(u:Int))=false by simp;omega]
   simp;rw [aaY h9,aaX bz,Lib.decDigits_one h9]
  ·have e1:Int.tmod (u:Int) 10=((u%10:Nat):Int):=IntWalk.up_tmod rfl rfl
   have e2:Int.tdiv (u:Int) 10=((u / 10:Nat):Int):=IntWalk.up_tdiv rfl rfl;rw [show decide (9<(u:Int))=true by simp;omega];simp only [e1,e2];rw [aaY (Ys _ de),aaX bz,pZ _ om]
   cases k with
   | zero=>simp at hu;omega
   | succ k=>
    rw [Jo k (u / 10) m _ om om om bz];rw [Lib.decDigits.eq_1 u,dif_neg h9];simp
theorem afV(F:Nat)(hF:30<=F)(h0:0<=n)(h1:n<=9223372036854775807):dJ F n=some (Lib.itoa n):=by
 obtain⟨u,rfl⟩:∃u:Nat,n=u:=⟨n.toNat,om⟩;unfold dJ wh wx;rw [show decide ((u:Int)<0)=false by simp,pZ (u:Int) om];rw [Jo 20 u F [] om om om si];unfold Lib.itoa
 simp_all
theorem Kh(ho:iD e):bL fun F _=>C7 F e=some (gW e 0):=
 (XY ho).fst.mono fun F _ h=>by
  unfold C7 Rf wx
  simp_all
theorem yL{R σ:Type}{body:(σ->O R)->σ->O R}{s:Bs}{p:UInt8->Bool}{fin:Nat->O R}(st:Nat->σ)
  (hs:∀(i:Nat) rc (h:i<s.length),body rc (st i)=cond (p s[i]) (rc (st (i+1))) (fin i)) (he:∀rc,body rc (st s.length)=fin s.length) :
  ∀(k i F:Nat),i+k=s.length->k<F->b8 body F (st i)=fin (i+((s.drop i).takeWhile p).length)
 | 0,i,F,h,hF=>by
  cases F with
  | zero=>omega
  | succ F=>
   obtain rfl:i=s.length:=om;rw [M6]
   exact he _
 | k+1,i,F,h,hF=>by
  cases F with
  | zero=>omega
  | succ F=>
   have hi:i<s.length:=om;show body (b8 body F) (st i)=_;rw [hs i _ hi,vo hi,SF]
   cases p s[i] with
   | false=>simp
   | true=>
    simp only [aZ,if_true,su];rw [yL st hs he k (i+1) F om om];congr 1;omega
def bl(b:UInt8):Bool:=(b.toNat:Int)==9||(b.toNat:Int)==10||(b.toNat:Int)==32
def fo(b:UInt8):Bool:=r7 (b.toNat:Int)
def dg(b:UInt8):Bool:=fW (b.toNat:Int)
def le(b:UInt8):Bool:=ou (b.toNat:Int)||(b.toNat:Int)==95
def skip(s:Bs)(i:Nat):Nat:=i+((s.drop i).takeWhile bl).length
def kq(s:Bs)(j:Nat):Bs:=(s.drop j).takeWhile fo
def zj:J Bs:=[[60,60,61],[62,62,61],[60,60],[62,62],[60,61],[62,61],[61,61],[33,61],[38,38],[124,124],[43,61],[45,61],[42,61],[47,61],[37,61],[38,61],[94,61],[124,61]]
def afW:J Bs:=[[43],[45],[42],[47],[37],[60],[62],[38],[94],[124],[33],[126],[63],[58],[40],[41],[61]]
def pL:J Bs:=zj++afW
def nK(l:Bs):Bs:=(pL.find? fun o=>o.isPrefixOf l).getD []
def Ul(s:Bs)(j:Nat):fD:=
 match s.drop j with
 | []=>⟨0,j,[]⟩
 | b::_=>cond (fo b) ⟨cond (dg b) 1 2,j,kq s j⟩ (cond (nK (s.drop j)==[]) ⟨4,j,[b]⟩ ⟨3,j,nK (s.drop j)⟩)
def tZ(s:Bs)(i:Nat):fD:=Ul s (skip s i)
theorem Mj{l p:Bs}:(l.take p.length==p)=p.isPrefixOf l:=by
 rw [tJ,uW,Yt,List.prefix_iff_eq_take];exact eq_comm
theorem zk(p:α->Bool)(l:J α):(l.takeWhile p).length<=l.length:=(List.takeWhile_sublist _).length_le
theorem ic(s:Bs)(i:Nat)(h:i<=s.length):skip s i<=s.length/\i<=skip s i:=by
 have:=zk bl (s.drop i);rw [KJ] at this;unfold skip;omega
theorem Ki{α:Type}(p:α->Bool):∀l:J α,l.drop (l.takeWhile p).length=l.dropWhile p
 | []=>rfl
 | x::l=>by
  rw [SF,KK]
  cases p x with
  | true=>simpa using Ki p l
  | false=>rfl
theorem ahN(s:Bs)(i:Nat):s.drop (skip s i)=(s.drop i).dropWhile bl:=by
 unfold skip;rw [<-adQ,Ki]
theorem Kj{α:Type}(p:α->Bool):∀(l:J α)(b:α)(m:J α),l.dropWhile p=b::m->p b=false
 | [],b,m,h=>by simp at h
 | x::l,b,m,h=>by
  rw [KK] at h
  cases hx:p x with
  | true=>rw [hx] at h;exact Kj p l b m (by simpa using h)
  | false=>rw [hx] at h;simp at h;rw [<-h.1];exact hx
theorem wk(s:Bs)(i:Nat):skip s (skip s i)=skip s i:=by
 have:(s.drop (skip s i)).takeWhile bl=[]:=by
  rw [ahN]
  cases h:(s.drop i).dropWhile bl with
  | nil=>rfl
  | cons b m=>rw [SF,Kj bl _ b m h];rfl
 rw [skip,this];rfl
theorem aj0(F:Nat)(b:UInt8):C8 F (b.toNat:Int)=some (bl b):=by
 unfold C8 bl wx;cases ((b.toNat:Int)==9)<;>cases ((b.toNat:Int)==10)<;>rfl
theorem ahO(c:Int):r7 c=true↔(97<=c/\c<=122)\/(65<=c/\c<=90)\/(48<=c/\c<=57)\/c=95:=by
 unfold r7 ou fW;simp only [Rr,cE,fL,uW];omega
theorem Um(F:Nat)(b:UInt8):oO F (b.toNat:Int)=some (fo b):=by
 unfold oO fo wx;generalize (b.toNat:Int)=c
 have:r7 c=(c==95||(decide (48<=c)&&decide (c<=57))||(decide (65<=c)&&decide (c<=90))||(decide (97<=c)&&decide (c<=122))):=by
  rw [tJ,ahO];simp only [Rr,cE,fL,uW];omega
 rw [this];cases (c==95)<;>cases decide (48<=c)<;>cases decide (c<=57)<;>cases decide (65<=c)<;>cases decide (c<=90)<;>cases decide (97<=c)<;>cases decide (c<=122)<;>rfl
theorem wz(F:Nat)(b:UInt8):nV F (b.toNat:Int)=some (le b):=by
 unfold nV le ou wx;generalize (b.toNat:Int)=c;cases (c==95)<;>cases decide (65<=c)<;>cases decide (c<=90)<;>cases decide (97<=c)<;>cases decide (c<=122)<;>rfl
theorem aaZ(F:Nat)(b:UInt8):yM F (b.toNat:Int)=some (dg b):=by
 unfold yM dg fW wx;cases decide (48<=(b.toNat:Int))<;>rfl
theorem alr(b:UInt8):fo b=(le b||dg b):=by
 unfold fo r7 le dg;cases ou (b.toNat:Int)<;>cases fW (b.toNat:Int)<;>cases ((b.toNat:Int)==95)<;>rfl
theorem Bj(F:Nat)(a p:Bs):dw F a p=some (p.isPrefixOf a):=by
 unfold dw sU wx;by_cases h:p.length<=a.length
 ·have e1:decide ((p.length:Int)<=(a.length:Int))=true:=dW om
  simp only [e1,B0,vp,aZ,gJ,aC];unfold sl;simp only [bZ,Int.toNat_zero,UW,Mj]
 ·have e1:decide ((p.length:Int)<=(a.length:Int))=false:=tK om
  simp only [e1,aK,aC];congr 1;apply Eq.symm;apply Rq.2;intro hp;rw [Yt] at hp;exact h hp.length_le
theorem tD(F:Nat)(s:Bs)(i:Nat)(e pos:Int)(hi:i<=s.length)(hF:s.length<F)(hl:s.length<=1000000):fX F s (i:Int) e pos=some (s,(skip s i:Int),e,pos):=by
 unfold fX wx
 exact yL (s:=s) (p:=bl) (fin:=fun j=>some (s,(j:Int),e,pos)) (fun j=>(s,(j:Int),e,pos)) (fun j rc h=>by
  simp only [xU h,B0,vp,aZ,gJ,bZ,gd h,bx (i:=j) om];unfold bl;cases ((s[j].toNat:Int)==9)<;>cases ((s[j].toNat:Int)==10)<;>cases ((s[j].toNat:Int)==32)<;>rfl) (fun rc=>by
  simp only [GM,aK,aC]) (s.length-i) i F om om
theorem Un(s:J α)(i n:Nat):sl s (i:Int) ((i+n:Nat):Int)=(s.drop i).take n:=by
 unfold sl;rw [bZ,bZ,List.take_drop]
theorem CF{α:Type}(p:α->Bool):∀l:J α,l.take (l.takeWhile p).length=l.takeWhile p
 | []=>rfl
 | x::l=>by
  rw [SF]
  cases p x with
  | true=>simpa using CF p l
  | false=>rfl
theorem Lz(F:Nat)(s:Bs)(i:Nat)(e pos:Int)(hi:i<=s.length)(hF:s.length<F)(hl:s.length<=1000000):o7 F s (i:Int) e pos=some (kq s i):=by
 unfold o7 wx;have hw:=zk fo (s.drop i);rw [KJ] at hw
 refine (yL (s:=s) (p:=fo) (fin:=fun (j:Nat)=>rq ((decide (0<=(i:Int)))&&((decide ((i:Int)<=(j:Int)))&&(decide ((j:Int)<=(s.length:Int))))) (some (sl s i j))) (fun j=>(j:Int)) (fun j rc h=>by
  simp only [xU h,B0,vp,aZ,gJ,bZ,gd h,bx (i:=j) om,wz,aaZ,aC];rw [alr];cases le s[j]<;>cases dg s[j]<;>rfl) (fun rc=>by
  simp only [GM,aK,aC]) (s.length-i) i F om om).trans ?_
 rw [cC (by simp only [cE,fL];omega),Un,CF];rfl
theorem ny(F:Nat)(s:Bs)(i:Nat)(e pos:Int)(hi:i<=s.length)(hF:s.length+50<F)(hl:s.length<=1000000):gQ F s (i:Int) e pos=some (nK (s.drop (skip s i)),s,(skip s i:Int),e,pos):=by
 unfold gQ wx;obtain⟨h1,h2⟩:=ic s i hi;rw [tD F s i e pos hi om hl,show Bl F=some pL from rfl];simp only [aC];generalize hj:skip s i=j at h1 h2⊢;have nw:∀o,o∈pL->o.length<=3:=by decide
 have hlen:pL.length=35:=rfl;unfold nK;generalize pL=L at nw hlen⊢;rw [ri L (fun k (_:Unit)=>(k:Int)) (fun (_:Unit) o=>cond (o.isPrefixOf (s.drop j)) (some (.inr (o,s,(j:Int),e,pos))) (some (.inl ()))) (fun _=>some ([],s,(j:Int),e,pos)) (t:=()) om ?_ ?_ ?_]
 ·clear nw hlen
  induction L with
  | nil=>rfl
  | cons o l ih=>
   simp only [qg,M7];cases o.isPrefixOf (s.drop j)
   ·simpa [sm] using ih
   ·rfl
 ·rfl
 ·intro k h t rc
  have h3:=nw _ (gU h);simp only [xU h,B0,vp,aZ,gJ,bZ,gd h,bx (i:=k) om];rw [bN (x:=(s.length:Int)-(j:Int)) om,bN (x:=(j:Int)+(L[k].length:Int)) om];by_cases hle:L[k].length<=s.length-j
  ·rw [show decide ((L[k].length:Int)<=(s.length:Int)-(j:Int))=true from dW om]
   have hc:(decide ((j:Int)<=(j:Int)+(L[k].length:Int))&&decide ((j:Int)+(L[k].length:Int)<=(s.length:Int)))=true:=by
    simp only [cE,fL];omega
   simp only [hc,vp,aZ,gJ,aC];rw [show (j:Int)+(L[k].length:Int)=((j+L[k].length:Nat):Int) by omega,Un,Mj];cases L[k].isPrefixOf (s.drop j)<;>rfl
  ·rw [show decide ((L[k].length:Int)<=(s.length:Int)-(j:Int))=false from tK om]
   have:L[k].isPrefixOf (s.drop j)=false:=by
    apply Rq.2;intro hp;rw [Yt] at hp;have:=hp.length_le;rw [KJ] at this;omega
   rw [this];rfl
 ·intro t rc
  simp only [GM,aK]
theorem VS:∀(l:Bs)(c:UInt8),decide (0<=Lib.indexByte l c)=l.contains c
 | [],c=>rfl
 | b::l,c=>by
  have ih:=VS l c;have hge:=Lib.indexByte_ge l c;unfold Lib.indexByte;rw [adR];by_cases h:b=c
  ·subst h;simp
  ·have h1:(b==c)=false:=by simpa using h
   have h2:(c==b)=false:=by simpa using fun e:c=b=>h e.symm
   rw [h1,h2];simp only [Bool.false_eq_true,if_false,adS];rw [<-ih];by_cases hm:Lib.indexByte l c=-1
   ·simp [hm]
   ·have:(Lib.indexByte l c == -1)=false:=by simpa using hm
    rw [this];simp only [Bool.false_eq_true,if_false];rw [dW om,dW om]
def Uo:Bs:=[43,45,42,47,37,60,62,38,94,124,33,126,63,58,40,41,61]
def zl:Bs:=[61,63,58,124,94,38,60,62,43,45,42,47,37,33,126,40,41]
theorem Rg:∀(l:Bs)(b:UInt8)(m:Bs),((l.map fun x=>[x]).find? fun o=>o.isPrefixOf (b::m))=cond (l.contains b) (some [b]) none
 | [],b,m=>rfl
 | x::l,b,m=>by
  rw [jU,M7,adR];by_cases h:x=b
  ·subst h;simp [List.isPrefixOf]
  ·have h1:(x==b)=false:=by simpa using h
   have h2:(b==x)=false:=by simpa using fun e:b=x=>h e.symm
   have h3:[x].isPrefixOf (b::m)=false:=by simp [List.isPrefixOf,h1]
   rw [h3,h2,Rg l b m];rfl
theorem aj1(b:UInt8):zl.contains b=Uo.contains b:=by
 rw [tJ,Yu,Yu];exact⟨fun h=>(by decide:∀x,x∈zl->x∈Uo) b h,fun h=>(by decide:∀x,x∈Uo->x∈zl) b h⟩
theorem afX(b:UInt8)(m:Bs):nK (b::m)=match zj.find? (fun o=>o.isPrefixOf (b::m)) with|some o=>o|none=>cond (zl.contains b) [b] []:=by
 unfold nK pL;rw [List.find?_append,show afW=Uo.map fun x=>[x] from rfl,Rg,<-aj1]
 cases zj.find? (fun o=>o.isPrefixOf (b::m)) with
 | some o=>rfl
 | none=>cases zl.contains b<;>rfl
theorem CG:∀o,o∈pL->o≠[]:=by decide
theorem OA(l:Bs):nK l=[]\/nK l∈pL/\nK l <+: l:=by
 unfold nK
 cases h:pL.find? (fun o=>o.isPrefixOf l) with
 | none=>exact .inl rfl
 | some o=>
  right;have h1:=Yv h;have h2:=adT h;exact⟨h1,Yt.1 h2⟩
theorem VU(F:Nat)(s:Bs)(i:Nat)(hi:i<=s.length)(hF:s.length+50<F)(hl:s.length<=1000000):ua F s (i:Int)=some (tZ s i):=by
 unfold ua wx;refine (yL (s:=s) (p:=bl) (fin:=fun j=>
  (cond ((j:Int)==(s.length:Int))
  (some (fD.mk 0 (j:Int) []))
  (rq ((decide (0<=(j:Int)))&&(decide ((j:Int)<(s.length:Int)))) ((oO F ((s.getD (Int.toNat (j:Int)) 0).toNat:Int)).bind fun x5=>
  cond x5
  (b8 (σ:=Int) (R:=fD) (fun xR x6=>
  (cond (decide (x6<(s.length:Int)))
  (rq ((decide (0<=x6))&&(decide (x6<(s.length:Int)))) ((oO F ((s.getD (Int.toNat x6) 0).toNat:Int)).bind fun x9=>
  some x9))
  (some false):Option Bool).bind fun x8=>
  cond x8
  (xR (aB (x6+1)))
  ((rq ((decide (0<=(j:Int)))&&(decide ((j:Int)<(s.length:Int)))) (cond (decide (48<=((s.getD (Int.toNat (j:Int)) 0).toNat:Int)))
  (rq ((decide (0<=(j:Int)))&&(decide ((j:Int)<(s.length:Int)))) (some (decide (((s.getD (Int.toNat (j:Int)) 0).toNat:Int)<=57))))
  (some false)):Option Bool).bind fun cq=>
  cond cq
  (rq ((decide (0<=(j:Int)))&&((decide ((j:Int)<=x6))&&(decide (x6<=(s.length:Int))))) (some (fD.mk 1 (j:Int) (sl s (j:Int) x6))))
  (rq ((decide (0<=(j:Int)))&&((decide ((j:Int)<=x6))&&(decide (x6<=(s.length:Int))))) (some (fD.mk 2 (j:Int) (sl s (j:Int) x6)))))) F (aB ((j:Int)+1)))
  (b8 (σ:=Int) (R:=fD) (fun aj2 fR=>
  cond (decide (fR<(zj.length:Int)))
  (rq ((decide (0<=fR))&&(decide (fR<(zj.length:Int)))) (rq ((decide (0<=(j:Int)))&&((decide ((j:Int)<=(s.length:Int)))&&(decide ((s.length:Int)<=(s.length:Int))))) ((dw F (sl s (j:Int) (s.length:Int)) (zj.getD (Int.toNat fR) [])).bind fun fT=>
  cond fT
  (some (fD.mk 3 (j:Int) (zj.getD (Int.toNat fR) [])))
  (aj2 (aB (fR+1))))))
  (rq ((decide (0<=(j:Int)))&&(decide ((j:Int)<(s.length:Int)))) ((strings_IndexByte F ([61,63,58,124,94,38,60,62,43,45,42,47,37,33,126,40,41]:Bs) ((s.getD (Int.toNat (j:Int)) 0).toNat:Int)).bind fun vi=>
  cond (decide (0<=vi))
  (rq ((decide (0<=(j:Int)))&&((decide ((j:Int)<=aB ((j:Int)+1)))&&(decide (aB ((j:Int)+1)<=(s.length:Int))))) (some (fD.mk 3 (j:Int) (sl s (j:Int) (aB ((j:Int)+1))))))
  (rq ((decide (0<=(j:Int)))&&((decide ((j:Int)<=aB ((j:Int)+1)))&&(decide (aB ((j:Int)+1)<=(s.length:Int))))) (some (fD.mk 4 (j:Int) (sl s (j:Int) (aB ((j:Int)+1))))))))) F 0))))) (fun j=>(j:Int)) (fun j rc h=>by
  simp only [xU h,B0,vp,aZ,gJ,bZ,gd h,bx (i:=j) om,aj0,aC];rfl) (fun rc=>by
  simp only [GM,aK,aC];rfl) (s.length-i) i F om om).trans ?_
 obtain⟨h1,h2⟩:=ic s i hi;show _=some (Ul s (skip s i));rw [show i+((s.drop i).takeWhile bl).length=skip s i from rfl];generalize skip s i=j at h1 h2⊢;unfold Ul;by_cases hj:j=s.length
 ·subst hj
  rw [M6];simp only [I3,aZ]
 ·have hj':j<s.length:=om
  have e0:((j:Int)==(s.length:Int))=false:=by rw [gK];omega
  simp only [e0,aK,xU hj',B0,vp,gJ,bZ,gd hj',Um,aC,bx (i:=j) om];have hd:=vo hj';rw [hd];simp only []
  cases hfo:fo s[j] with
  | true=>
   simp only [aZ];have hw:=zk fo (s.drop (j+1));rw [KJ] at hw
   refine (yL (s:=s) (p:=fo) (fin:=fun (k:Nat)=>cond (dg s[j]) (rq ((decide ((j:Int)<=(k:Int)))&&(decide ((k:Int)<=(s.length:Int)))) (some (fD.mk 1 (j:Int) (sl s j k)))) (rq ((decide ((j:Int)<=(k:Int)))&&(decide ((k:Int)<=(s.length:Int)))) (some (fD.mk 2 (j:Int) (sl s j k))))) (fun k=>(k:Int)) (fun k rc h=>by
    simp only [xU h,B0,vp,aZ,gJ,bZ,gd h,bx (i:=k) om,Um,aC,I4];unfold dg fW;cases fo s[k]<;>cases decide (48<=(s[j].toNat:Int))<;>cases decide ((s[j].toNat:Int)<=57)<;>rfl) (fun rc=>by
    simp only [GM,aK,aC,I4];unfold dg fW;cases decide (48<=(s[j].toNat:Int))<;>cases decide ((s[j].toNat:Int)<=57)<;>rfl) (s.length-(j+1)) (j+1) F om om).trans ?_
   have hlen:((s.drop j).takeWhile fo).length=1+((s.drop (j+1)).takeWhile fo).length:=by
    rw [hd,SF,hfo];simp;omega
   have hc:(decide ((j:Int)<=((j+1+((s.drop (j+1)).takeWhile fo).length:Nat):Int))&&decide (((j+1+((s.drop (j+1)).takeWhile fo).length:Nat):Int)<=(s.length:Int)))=true:=by
    simp only [cE,fL];omega
   have QE:sl s (j:Int) ((j+1+((s.drop (j+1)).takeWhile fo).length:Nat):Int)=kq s j:=by
    rw [show j+1+((s.drop (j+1)).takeWhile fo).length=j+((s.drop j).takeWhile fo).length by omega,Un,CF];rfl
   rw [hc,QE]
   cases dg s[j]<;>rfl
  | false=>
   simp only [aK];have nw:∀o,o∈zj->o.length<=3:=by decide
   have hlen:zj.length=18:=rfl;rw [<-hd,hd,afX];have hne:∀o,o∈zj->o≠[]:=by decide
   generalize zj=L at nw hlen hne⊢;have h1:aB ((j:Int)+1)=((j+1:Nat):Int):=bx om;have hs1:sl s (j:Int) ((j+1:Nat):Int)=[s[j]]:=by rw [Un,hd];rfl
   have QE:sl s (j:Int) (s.length:Int)=s.drop j:=by
    unfold sl;rw [bZ,bZ,yf]
   have hc:(decide ((j:Int)<=((j+1:Nat):Int))&&decide (((j+1:Nat):Int)<=(s.length:Int)))=true:=by
    simp only [cE,fL];omega
   have JY:(decide ((j:Int)<=(s.length:Int))&&decide ((s.length:Int)<=(s.length:Int)))=true:=by
    simp only [cE,fL];omega
   rw [ri L (fun k (_:Unit)=>(k:Int)) (fun (_:Unit) o=>cond (o.isPrefixOf (s.drop j)) (some (.inr (fD.mk 3 (j:Int) o))) (some (.inl ()))) (fun _=>cond (zl.contains s[j]) (some (fD.mk 3 (j:Int) [s[j]])) (some (fD.mk 4 (j:Int) [s[j]]))) (t:=()) om ?_ ?_ ?_]
   ·have key:∀l:J Bs,qg (fun (_:Unit)(o:Bs)=>cond (o.isPrefixOf (s.drop j)) (some (.inr (fD.mk 3 (j:Int) o))) (some (.inl ()))) (fun _=>cond (zl.contains s[j]) (some (fD.mk 3 (j:Int) [s[j]])) (some (fD.mk 4 (j:Int) [s[j]]))) l ()=match l.find? (fun o=>o.isPrefixOf (s.drop j)) with|some o=>some (fD.mk 3 (j:Int) o)|none=>cond (zl.contains s[j]) (some (fD.mk 3 (j:Int) [s[j]])) (some (fD.mk 4 (j:Int) [s[j]])):=by
     intro l
     induction l with
     | nil=>rfl
     | cons o l ih=>
      simp only [qg,M7];cases o.isPrefixOf (s.drop j)
      ·simpa [sm] using ih
      ·rfl
    rw [key,<-hd]
    cases hf:L.find? (fun o=>o.isPrefixOf (s.drop j)) with
    | some o=>
     have h1:=hne o (Yv hf);have:(o==[])=false:=by simpa using h1
     simp only [this,aK]
    | none=>cases zl.contains s[j]<;>rfl
   ·rfl
   ·intro k h t rc
    simp only [xU h,B0,vp,aZ,gJ,bZ,gd h,bx (i:=k) om,JY,QE,Bj,aC];cases L[k].isPrefixOf (s.drop j)<;>rfl
   ·intro t rc
    have hix:strings_IndexByte F zl (s[j].toNat:Int)=some (Lib.indexByte zl s[j]):=by
     unfold strings_IndexByte stringslite_IndexByte Ai ibF wx;simp
    simp only [GM,aK];show (strings_IndexByte F zl (s[j].toNat:Int)).bind _=_;rw [hix];simp only [aC,VS,hc,hs1,gJ,I4]
theorem OB{R σ α:Type}{body:(σ->O R)->σ->O R}{l:J α}{p:α->Bool}{z:O R}(st:Nat->σ)(hs:∀(i:Nat) rc (h:i<l.length),body rc (st i)=cond (p l[i]) (rc (st (i+1))) z):
  ∀(k i F:Nat),i+k=l.length->k<F->(l.drop i).all p=false->b8 body F (st i)=z
 | 0,i,F,h,hF,hb=>by
  simp_all
 | k+1,i,F,h,hF,hb=>by
  cases F with
  | zero=>omega
  | succ F=>
   have hi:i<l.length:=om;show body (b8 body F) (st i)=z;rw [hs i _ hi];rw [vo hi,SE] at hb
   cases hp:p l[i] with
   | false=>rfl
   | true=>
    rw [hp] at hb;exact OB st hs k (i+1) F om om hb
def apY:Bs:=[48,49,50,51,52,53,54,55,56,57,97,98,99,100,101,102]
def dR(b:UInt8):Int:=cond (dg b) ((b.toNat:Int)-48) (cond (decide (97<=(b.toNat:Int))&&decide ((b.toNat:Int)<=102)) ((b.toNat:Int)-87) (cond (decide (65<=(b.toNat:Int))&&decide ((b.toNat:Int)<=70)) ((b.toNat:Int)-55) (-1)))
def dA(b:UInt8):Int:=Lib.indexByte apY (J0 .u8 (b.toNat:Int) (cond (decide (65<=(b.toNat:Int))&&decide ((b.toNat:Int)<=90)) 32 0)).toNat.toUInt8
theorem aoz:∀n:Fin 256,dA (UInt8.ofNat n.val)=dR (UInt8.ofNat n.val):=by decide +kernel
theorem Sh{P:UInt8->Prop}(h:∀n:Fin 256,P (UInt8.ofNat n.val))(b:UInt8):P b:=by
 have:=h ⟨b.toNat,b.toNat_lt⟩;simpa using this
theorem apZ(b:UInt8):dA b=dR b:=Sh (P:=fun b=>dA b=dR b) aoz b
def okD(base:Int)(l:Bs):Bool:=l.all fun b=>decide (0<=dR b)&&decide (dR b<base)
def rK(base v:Nat)(l:Bs):Nat:=l.foldl (fun v b=>v*base+(dR b).toNat) v
theorem VV(base:Nat)(hb:1<=base):∀(l:Bs)(v:Nat),v<=rK base v l
 | [],v=>ek _
 | b::l,v=>by
  have h1:=VV base hb l (v*base+(dR b).toNat);have h2:=adU v hb;show v<=rK base (v*base+(dR b).toNat) l;omega
def qh(base v:Nat)(l:Bs):Int×Int:=cond (okD (base:Int) l) (cond (decide (rK base v l<=9223372036854775807)) ((rK base v l:Int),0) (0,14)) (0,6)
def qY(s:Bs):Nat×Bs:=
 cond ((([48,120]:Bs).isPrefixOf s)||(([48,88]:Bs).isPrefixOf s)) (16,s.drop 2) (cond (((s.getD 0 0).toNat:Int)==48) (8,s) (10,s))
def oP(s:Bs):Int×Int:=cond ((qY s).2==[]) (0,6) (qh (qY s).1 0 (qY s).2)
theorem div_lt{d base most:Int}(hb:1<=base)(hd:0<=d)(Tj:d<=most):(most-d) / base<n↔most<n*base+d:=by
 grind [Int.ediv_lt_iff_lt_mul]
theorem Iq(base:Nat)(hb:1<=base/\base<=16):∀(l:Bs)(n:Int)(GP:Bool)(v:Nat),(GP=false->n=(v:Int)/\v<=9223372036854775807)->(GP=true->9223372036854775807<v) ->
  qg (fun t (b:UInt8)=>cond (decide (dR b<0)||decide ((base:Int)<=dR b)) (some (.inr ((0,6):Int×Int))) (cond (t.2||decide (aB (Int.tdiv (aB (9223372036854775807-dR b)) (base:Int))<t.1)) (some (.inl (t.1,true))) (some (.inl (aB (aB (t.1*(base:Int))+dR b),t.2)))))
   (fun t=>cond t.2 (some (0,14)) (some (t.1,0))) l (n,GP)=some (qh base v l)
 | [],n,GP,v,h1,h2=>by
  cases GP with
  | false=>
   obtain⟨rfl,h⟩:=h1 rfl
   simp [qg,qh,okD,rK,h]
  | true=>
   have h3:¬ v<=9223372036854775807:=by have:=h2 rfl;omega
   simp [qg,qh,okD,rK,h3]
 | b::l,n,GP,v,h1,h2=>by
  simp [qg];by_cases hbad:dR b<0\/(base:Int)<=dR b
  ·have e1:(decide (dR b<0)||decide ((base:Int)<=dR b))=true:=by simpa using hbad
   have e2:okD (base:Int) (b::l)=false:=by
    unfold okD
    grind
   rw [e1];simp [qh,e2,sm]
  ·have e1:(decide (dR b<0)||decide ((base:Int)<=dR b))=false:=by
    simp_all
   have e2:okD (base:Int) (b::l)=okD (base:Int) l:=by
    unfold okD
    simp_all
   have e3:qh base v (b::l)=qh base (v*base+(dR b).toNat) l:=by
    unfold qh;rw [e2];rfl
   rw [e1,e3]
   have hm:((v*base+(dR b).toNat:Nat):Int)=(v:Int)*(base:Int)+dR b:=by
    grind
   have hvb:=adU v hb.1
   cases GP with
   | true=>
    have:=h2 rfl
    exact Iq base hb l n true _ (fun h=>by cases h) fun _=>by omega
   | false=>
    obtain⟨rfl,hv⟩:=h1 rfl;rw [bN (x:=9223372036854775807-dR b) om,show aB (Int.tdiv (9223372036854775807-dR b) (base:Int))=(9223372036854775807-dR b) / (base:Int) from IntWalk.i64_quo _ _ om];by_cases hx:(9223372036854775807-dR b) / (base:Int)<(v:Int)
    ·rw [dW hx]
     rw [div_lt om om om] at hx;exact Iq base hb l v true _ (fun h=>by cases h) fun _=>by omega
    ·rw [tK hx]
     rw [div_lt om om om] at hx;rw [bN (x:=(v:Int)*(base:Int)) om,bN om];exact Iq base hb l _ false _ (fun _=>⟨hm.symm,om⟩) fun h=>by cases h
theorem aj3(F:Nat)(c:Int):C9 F c=some (cond (decide (65<=c)&&decide (c<=90)) 32 0):=by
 unfold C9 wx;grind
theorem aa0(s:Bs):(1<=(qY s).1/\(qY s).1<=16)/\(qY s).2.length<=s.length:=by
 unfold qY
 grind
theorem aj4(F:Nat)(s:Bs)(h0:s≠[])(hF:s.length<F)(hl:s.length<=1000000):yN F s=some (oP s):=by
 obtain⟨hb,hlen⟩:=aa0 s;have hpos:=zu.2 h0
 have e1:((dw F s ([48,120]:Bs)).bind fun x3=>cond x3 (some true) ((dw F s ([48,88]:Bs)).bind fun x4=>some x4):O Bool)=some (([48,120]:Bs).isPrefixOf s||([48,88]:Bs).isPrefixOf s):=by
  grind [Bj]
 have BX:(cond (([48,120]:Bs).isPrefixOf s||([48,88]:Bs).isPrefixOf s)
   (rq ((decide (2<=(s.length:Int)))&&(decide ((s.length:Int)<=(s.length:Int)))) (some ((16:Int),sl s 2 (s.length:Int))))
   (rq (decide (0<(s.length:Int))) (cond (((s.getD 0 0).toNat:Int)==48) (some (8,s)) (some (10,s)))):O (Int×Bs))=some (((qY s).1:Int),(qY s).2):=by
  unfold qY
  cases hp:(([48,120]:Bs).isPrefixOf s||([48,88]:Bs).isPrefixOf s) with
  | true=>
   rw [cC (by grind)];unfold sl
   simp
  | false=>
   simp;rw [cC (by simp_all)]
   grind
 unfold yN wx;rw [e1];simp only [aC];rw [BX];simp only [aC];unfold oP;generalize (qY s).2=l at hlen⊢;generalize (qY s).1=base at hb⊢
 cases (l==[]) with
 | true=>rfl
 | false=>
  rw [ri l (fun i (t:Int×Bool)=>(t.1,t.2,(i:Int))) (fun t (b:UInt8)=>cond (decide (dR b<0)||decide ((base:Int)<=dR b)) (some (.inr ((0,6):Int×Int))) (cond (t.2||decide (aB (Int.tdiv (aB (9223372036854775807-dR b)) (base:Int))<t.1)) (some (.inl (t.1,true))) (some (.inl (aB (aB (t.1*(base:Int))+dR b),t.2)))))
    (fun t=>cond t.2 (some (0,14)) (some (t.1,0))) (t:=(0,false)) om ?_ ?_ ?_]
  ·grind [Iq]
  ·rfl
  ·intro i h t rc
   simp only [xU h,B0,vp,aZ,gJ,bZ,gd h,bx (i:=i) om,aj3,aC]
   have hix:strings_IndexByte F ([48,49,50,51,52,53,54,55,56,57,97,98,99,100,101,102]:Bs) (J0 .u8 (l[i].toNat:Int) (cond (decide (65<=(l[i].toNat:Int))&&decide ((l[i].toNat:Int)<=90)) 32 0))=some (dR l[i]):=by
    rw [<-apZ];rfl
   rw [hix];have hz:(!((base:Int)==0))=true:=by simp;omega
   simp only [aC,hz,gJ];cases decide (dR l[i]<0)<;>cases decide ((base:Int)<=dR l[i])<;>cases t.2<;>simp
   all_goals first|rfl|(cases decide (aB (Int.tdiv (aB (9223372036854775807-dR l[i])) (base:Int))<t.1)<;>rfl)
  simp_all
theorem uP(F:Nat)(b:UInt8)(base:Int):yO F (b.toNat:Int) base=some (cond (decide (base<=dR b)) (-1) (dR b)):=by
 have hb:=b.toNat_lt;unfold yO wx;rw [aaZ];simp only [aC];unfold dR
 cases hd:dg b with
 | true=>
  unfold dg fW at hd;simp only [cE,fL] at hd;simp only [aZ,aC];rw [UX _ om,bN om]
  grind
 | false=>
  simp only [aK];by_cases h3:97<=(b.toNat:Int)/\(b.toNat:Int)<=102
  ·rw [dW h3.1,dW h3.2,UX _ om,bN (x:=(b.toNat:Int)-97) om,bN (x:=(b.toNat:Int)-97+10) om]
   grind
  ·have e3:(decide (97<=(b.toNat:Int))&&decide ((b.toNat:Int)<=102))=false:=by
    simp_all
   have e3':(cond (decide (97<=(b.toNat:Int))) (some (decide ((b.toNat:Int)<=102))) (some false):O Bool)=some false:=by
    grind
   rw [e3',e3];simp only [aC,aK];by_cases h4:65<=(b.toNat:Int)/\(b.toNat:Int)<=70
   ·rw [dW h4.1,dW h4.2,UX _ om,bN (x:=(b.toNat:Int)-65) om,bN (x:=(b.toNat:Int)-65+10) om]
    grind
   grind
theorem afY{base:Int}(hb:1<=base)(b:UInt8):decide (cond (decide (base<=dR b)) (-1) (dR b)<0)=!(decide (0<=dR b)&&decide (dR b<base)):=by
 grind
theorem Xt(base:Nat)(hb:1<=base/\base<=16):∀(l:Bs)(v:Nat),okD (base:Int) l=true->v<=9223372036854775808 ->
  ∃n e,qg (fun t (b:UInt8)=>cond (decide (IntKind.wrap .u64 (Int.tdiv (IntKind.wrap .u64 (9223372036854775808-(IntKind.wrap .u64 (dR b)))) (base:Int))<t)) (some (.inr ((0,14):Int×Int))) (some (.inl (IntKind.wrap .u64 ((IntKind.wrap .u64 (t*(base:Int)))+(IntKind.wrap .u64 (dR b)))))))
   (fun t=>some (t,0)) l (v:Int)=some (n,e)/\(cond (e==0&&decide (9223372036854775807<n)) 14 e=(qh base v l).2)/\((qh base v l).2=0->n=(qh base v l).1)
 | [],v,_,hv=>by
  refine⟨v,0,rfl,?_⟩;by_cases h:v<=9223372036854775807
  ·have:¬ 9223372036854775807<(v:Int):=om
   simp [qh,okD,rK,h,this]
  ·have:9223372036854775807<(v:Int):=om
   simp [qh,okD,rK,h,this]
 | b::l,v,ho,hv=>by
  have ho':(0<=dR b/\dR b<base)/\okD (base:Int) l=true:=by
   unfold okD at ho⊢
   simp_all
  obtain⟨⟨h0,h1⟩,h2⟩:=ho'
  have hm:((v*base+(dR b).toNat:Nat):Int)=(v:Int)*(base:Int)+dR b:=by
   grind
  have e3:qh base v (b::l)=qh base (v*base+(dR b).toNat) l:=by
   unfold qh;rw [ho,h2];rfl
  simp [qg];rw [pZ (dR b) om,pZ (9223372036854775808-dR b) om,adV _ _ om];by_cases hx:(9223372036854775808-dR b) / (base:Int)<(v:Int)
  ·refine⟨0,14,?_,?_⟩
   ·rw [dW hx];rfl
   ·rw [div_lt om om om] at hx
    have hge:=VV base hb.1 l (v*base+(dR b).toNat);have:¬ rK base (v*base+(dR b).toNat) l<=9223372036854775807:=om;rw [e3];simp [qh,h2,this]
  ·have hx':=hx
   rw [div_lt om om om] at hx';rw [tK hx,pZ ((v:Int)*(base:Int)) om,pZ ((v:Int)*(base:Int)+dR b) om,e3,<-hm];exact Xt base hb l _ h2 om
def jT(s:Bs):Nat×Bs:=
 cond (decide (2<(s.length:Int))&&((((s.getD 0 0).toNat:Int)==48)&&((((s.getD 1 0).toNat:Int)==120)||(((s.getD 1 0).toNat:Int)==88)))) (16,s.drop 2) (cond (decide (1<(s.length:Int))&&(((s.getD 0 0).toNat:Int)==48)) (8,s.drop 1) (10,s))
theorem ahP(base:Nat)(h:1<=base)(t:Bs):qh base 0 (48::t)=qh base 0 t:=by
 have e1:okD (base:Int) (48::t)=okD (base:Int) t:=by
  unfold okD;rw [SE,show dR 48=0 from rfl,dW om,dW om];rfl
 have e2:rK base 0 (48::t)=rK base 0 t:=by
  unfold rK;rw [yg,show dR 48=0 from rfl];simp
 unfold qh;rw [e1,e2]
theorem ofNat_eq{b:UInt8}{n:Nat}(hn:n<256)(h:((b.toNat:Int)==(n:Int))=true):b=UInt8.ofNat n:=by
 have:b.toNat=n:=by
  grind
 rw [<-this];simp
theorem ahQ(s:Bs)(h0:s≠[]):oP s=cond ((jT s).2==[]) (0,6) (qh (jT s).1 0 (jT s).2):=by
 match s,h0 with
 | [a],_=>
  unfold oP qY jT;have p1:([48,120]:Bs).isPrefixOf [a]=false:=by simp [List.isPrefixOf]
  have p2:([48,88]:Bs).isPrefixOf [a]=false:=by simp [List.isPrefixOf]
  rw [p1,p2]
  cases ha:((([a].getD 0 0).toNat:Int)==48) with
  | false=>rfl
  | true=>
   obtain rfl:=ofNat_eq de ha
   rfl
 | a::b::t,_=>
  unfold oP qY jT;simp
  have p1:([48,120]:Bs).isPrefixOf (a::b::t)=(((a.toNat:Int)==48)&&((b.toNat:Int)==120)):=by
   rw [tJ];simp;constructor
   ·rintro⟨rfl,rfl⟩;exact⟨rfl,rfl⟩
   ·rintro⟨h1,h2⟩
    exact⟨(ofNat_eq de (by simpa using h1)).symm,(ofNat_eq de (by simpa using h2)).symm⟩
  have p2:([48,88]:Bs).isPrefixOf (a::b::t)=(((a.toNat:Int)==48)&&((b.toNat:Int)==88)):=by
   rw [tJ];simp;constructor
   ·rintro⟨rfl,rfl⟩;exact⟨rfl,rfl⟩
   ·rintro⟨h1,h2⟩
    exact⟨(ofNat_eq de (by simpa using h1)).symm,(ofNat_eq de (by simpa using h2)).symm⟩
  rw [p1,p2];have hl1:decide (1<((a::b::t).length:Int))=true:=by simp;omega
  cases ha:((a.toNat:Int)==48) with
  | false=>simp
  | true=>
   obtain rfl:=ofNat_eq de ha;simp
   cases hx:(((b.toNat:Int)==120)||((b.toNat:Int)==88)) with
   | false=>
    simp_all [SG,aK,ahP]
   | true=>
    cases t with
    | nil=>
     simp only [Rr] at hx;rcases hx with hx|hx
     ·obtain rfl:=ofNat_eq de hx;rfl
     ·obtain rfl:=ofNat_eq de hx;rfl
    | cons c t=>
     grind
theorem aa1(F:Nat)(s:Bs)(h0:s≠[])(hF:s.length<F)(hl:s.length<=1000000):
  ∃n e,lK F s=some (n,e)/\(cond (e==0&&decide (9223372036854775807<n)) 14 e=(oP s).2)/\((oP s).2=0->n=(oP s).1):=by
 have hpos:0<s.length:=zu.2 h0
 have hb:(1<=(jT s).1/\(jT s).1<=16)/\(jT s).2.length<=s.length:=by
  unfold jT
  grind
 rw [ahQ s h0];unfold lK wx
 have TE:((cond (decide (2<(s.length:Int)))
   (rq (decide (0<(s.length:Int))) (some (((s.getD 0 0).toNat:Int)==48)))
   (some false):O Bool).bind fun x2=>
   (cond x2
   (rq (decide (1<(s.length:Int))) (cond (((s.getD 1 0).toNat:Int)==120)
   (some true)
   (rq (decide (1<(s.length:Int))) (some (((s.getD 1 0).toNat:Int)==88)))))
   (some false):O Bool).bind fun x3=>
   cond x3
   (rq ((decide (2<=(s.length:Int)))&&(decide ((s.length:Int)<=(s.length:Int)))) (some (sl s 2 (s.length:Int),(16:Int))))
   ((cond (decide (1<(s.length:Int)))
   (rq (decide (0<(s.length:Int))) (some (((s.getD 0 0).toNat:Int)==48)))
   (some false):O Bool).bind fun x4=>
   cond x4
   (rq ((decide (1<=(s.length:Int)))&&(decide ((s.length:Int)<=(s.length:Int)))) (some (sl s 1 (s.length:Int),8)))
   (some (s,10))):O (Bs×Int))=some ((jT s).2,((jT s).1:Int)):=by
  have s2:sl s 2 (s.length:Int)=s.drop 2:=by unfold sl;simp
  have s1:sl s 1 (s.length:Int)=s.drop 1:=by unfold sl;simp
  rw [show decide (0<(s.length:Int))=true from dW om,show decide (1<=(s.length:Int))=true from dW om,show decide ((s.length:Int)<=(s.length:Int))=true from dW om,s1,s2];unfold jT;by_cases h2:2<(s.length:Int)
  ·rw [dW h2,show decide (1<(s.length:Int))=true from dW om,show decide (2<=(s.length:Int))=true from dW om]
   cases (((s.getD 0 0).toNat:Int)==48)<;>cases (((s.getD 1 0).toNat:Int)==120)<;>cases (((s.getD 1 0).toNat:Int)==88)<;>rfl
  ·rw [tK h2]
   cases decide (1<(s.length:Int))<;>cases (((s.getD 0 0).toNat:Int)==48)<;>rfl
 rw [TE];simp only [aC];obtain⟨hb,hlen⟩:=hb;generalize (jT s).2=l at hlen⊢;generalize (jT s).1=base at hb⊢
 cases (l==[]) with
 | true=>grind
 | false=>
  simp only [aK]
  cases hok:okD (base:Int) l with
  | false=>
   refine⟨0,6,?_,?_⟩
   ·refine OB (l:=l) (p:=fun b=>decide (0<=dR b)&&decide (dR b<(base:Int))) (fun i=>(i:Int)) (fun i rc h=>?_) l.length 0 F om om (by rw [UW];exact hok)
    simp only [xU h,B0,vp,aZ,gJ,bZ,gd h,bx (i:=i) om,uP,aC,afY (base:=(base:Int)) om]
    grind
   ·unfold qh
    simp_all
  | true=>
   obtain⟨n,e,h1,h2⟩:=Xt base hb l 0 hok om;refine⟨n,e,?_,h2⟩;refine Ox (fun i=>(i:Int)) l.length om rfl ?_ ?_
   ·intro i rc h
    have hi:(decide (0<=dR l[i])&&decide (dR l[i]<(base:Int)))=true:=by
     unfold okD at hok
     simp_all
    simp only [xU h,B0,vp,aZ,gJ,bZ,gd h,bx (i:=i) om,uP,aC,afY (base:=(base:Int)) om,hi];rfl
   ·intro rc
    simp only [GM,aK];rw [<-h1];refine ri l (fun i (t:Int)=>(t,(i:Int))) _ _ om rfl ?_ ?_
    ·intro i h t rc
     have hi:(decide (0<=dR l[i])&&decide (dR l[i]<(base:Int)))=true:=by
      unfold okD at hok
      simp_all
     have hw:IntKind.wrap .u64 (base:Int)=(base:Int):=pZ (base:Int) om;have hz:(!((base:Int)==0))=true:=by simp;omega
     have hv:cond (decide ((base:Int)<=dR l[i])) (-1) (dR l[i])=dR l[i]:=by
      grind
     simp only [xU h,B0,vp,aZ,gJ,bZ,gd h,bx (i:=i) om,uP,aC,hw,hz,hv];generalize decide (IntKind.wrap .u64 (Int.tdiv (IntKind.wrap .u64 (9223372036854775808-(IntKind.wrap .u64 (dR l[i])))) (base:Int))<t)=c;cases c<;>rfl
    simp_all
def qI(base v:Nat)(l:Bs):Int×Int:=cond (okD (base:Int) l) (cond (decide (rK base v l<=9223372036854775808)) ((rK base v l:Int),0) (0,14)) (0,6)
def sg(s:Bs):Nat×Bs:=
 cond ((([48,120]:Bs).isPrefixOf s)||(([48,88]:Bs).isPrefixOf s)) (16,s.drop 2) (cond (([48]:Bs).isPrefixOf s) (8,s) (10,s))
def oQ(s:Bs):Int×Int:=cond ((sg s).2==[]) (0,6) (qI (sg s).1 0 (sg s).2)
def dC(b:UInt8):Int:=cond (decide (0<=dR b)) (dR b) 16
theorem ahR(F:Nat)(b:UInt8):Fk F (b.toNat:Int)=some (dC b):=by
 unfold Fk dC dR dg fW wx;by_cases h1:48<=(b.toNat:Int)/\(b.toNat:Int)<=57
 ·rw [dW h1.2,UX ((b.toNat:Int)-48) om,pZ ((b.toNat:Int)-48) om]
  simp_all
 ·have e1:(decide (48<=(b.toNat:Int))&&decide ((b.toNat:Int)<=57))=false:=by
   simp_all
  have ZS:(cond (decide (48<=(b.toNat:Int))) (some (decide ((b.toNat:Int)<=57))) (some false):O Bool)=some false:=by
   grind
  by_cases h3:97<=(b.toNat:Int)/\(b.toNat:Int)<=102
  ·rw [dW h3.2,UX ((b.toNat:Int)-97) om,pZ ((b.toNat:Int)-97) om,pZ ((b.toNat:Int)-97+10) om]
   grind
  ·have e3:(decide (97<=(b.toNat:Int))&&decide ((b.toNat:Int)<=102))=false:=by
    simp_all
   have e3':(cond (decide (97<=(b.toNat:Int))) (some (decide ((b.toNat:Int)<=102))) (some false):O Bool)=some false:=by
    grind
   by_cases h4:65<=(b.toNat:Int)/\(b.toNat:Int)<=70
   ·rw [dW h4.2,UX ((b.toNat:Int)-65) om,pZ ((b.toNat:Int)-65) om,pZ ((b.toNat:Int)-65+10) om]
    grind
   grind
theorem P7(base:Nat)(hb:1<=base/\base<=16):∀(l:Bs)(n:Int)(GP:Bool)(v:Nat),(GP=false->n=(v:Int)/\v<=9223372036854775808)->(GP=true->9223372036854775808<v) ->
  qg (fun t (b:UInt8)=>cond (decide ((base:Int)<=dC b)) (some (.inr ((0,6):Int×Int))) (cond (t.2||decide (IntKind.wrap .u64 (Int.tdiv (IntKind.wrap .u64 (9223372036854775808-dC b)) (base:Int))<t.1)) (some (.inl (t.1,true))) (some (.inl (IntKind.wrap .u64 ((IntKind.wrap .u64 (t.1*(base:Int)))+dC b),t.2)))))
   (fun t=>cond t.2 (some (0,14)) (some (t.1,0))) l (n,GP)=some (qI base v l)
 | [],n,GP,v,h1,h2=>by
  cases GP with
  | false=>
   obtain⟨rfl,h⟩:=h1 rfl
   simp [qg,qI,okD,rK,h]
  | true=>
   have h3:¬ v<=9223372036854775808:=by have:=h2 rfl;omega
   simp [qg,qI,okD,rK,h3]
 | b::l,n,GP,v,h1,h2=>by
  simp [qg];by_cases hbad:dR b<0\/(base:Int)<=dR b
  ·have e1:decide ((base:Int)<=dC b)=true:=by
    unfold dC
    grind
   have e2:okD (base:Int) (b::l)=false:=by
    unfold okD
    grind
   rw [e1];simp [qI,e2,sm]
  ·have hdc:dC b=dR b:=by unfold dC;simp_all
   have e1:decide ((base:Int)<=dC b)=false:=by simp_all
   have e2:okD (base:Int) (b::l)=okD (base:Int) l:=by
    unfold okD
    simp_all
   have e3:qI base v (b::l)=qI base (v*base+(dR b).toNat) l:=by
    unfold qI;rw [e2];rfl
   rw [e1,e3,hdc]
   have hm:((v*base+(dR b).toNat:Nat):Int)=(v:Int)*(base:Int)+dR b:=by
    grind
   have hvb:=adU v hb.1
   cases GP with
   | true=>
    have:=h2 rfl
    exact P7 base hb l n true _ (fun h=>by cases h) fun _=>by omega
   | false=>
    obtain⟨rfl,hv⟩:=h1 rfl;rw [pZ (9223372036854775808-dR b) om,adV _ _ om];by_cases hx:(9223372036854775808-dR b) / (base:Int)<(v:Int)
    ·rw [dW hx]
     rw [div_lt om om om] at hx;exact P7 base hb l v true _ (fun h=>by cases h) fun _=>by omega
    ·rw [tK hx]
     rw [div_lt om om om] at hx;rw [pZ ((v:Int)*(base:Int)) om,pZ ((v:Int)*(base:Int)+dR b) om];exact P7 base hb l _ false _ (fun _=>⟨hm.symm,om⟩) fun h=>by cases h
theorem aa2(s:Bs):(1<=(sg s).1/\(sg s).1<=16)/\(sg s).2.length<=s.length:=by
 unfold sg
 grind
theorem aoA(F:Nat)(s:Bs)(hF:s.length<F)(hl:s.length<=1000000):xC F s=some (oQ s):=by
 obtain⟨hb,hlen⟩:=aa2 s
 have e1:((dw F s ([48,120]:Bs)).bind fun x3=>cond x3 (some true) ((dw F s ([48,88]:Bs)).bind fun x4=>some x4):O Bool)=some (([48,120]:Bs).isPrefixOf s||([48,88]:Bs).isPrefixOf s):=by
  grind [Bj]
 have BX:(cond (([48,120]:Bs).isPrefixOf s||([48,88]:Bs).isPrefixOf s)
   (rq ((decide (2<=(s.length:Int)))&&(decide ((s.length:Int)<=(s.length:Int)))) (some ((16:Int),sl s 2 (s.length:Int))))
   ((dw F s ([48]:Bs)).bind fun x5=>cond x5 (some (8,s)) (some (10,s))):O (Int×Bs))=some (((sg s).1:Int),(sg s).2):=by
  unfold sg
  cases hp:(([48,120]:Bs).isPrefixOf s||([48,88]:Bs).isPrefixOf s) with
  | true=>
   rw [cC (by grind)];unfold sl
   simp
  | false=>
   simp [Bj]
   grind
 unfold xC wx;rw [e1];simp only [aC];rw [BX];simp only [aC];unfold oQ;generalize (sg s).2=l at hlen⊢;generalize (sg s).1=base at hb⊢
 cases (l==[]) with
 | true=>rfl
 | false=>
  rw [ri l (fun i (t:Int×Bool)=>(t.1,t.2,(i:Int))) (fun t (b:UInt8)=>cond (decide ((base:Int)<=dC b)) (some (.inr ((0,6):Int×Int))) (cond (t.2||decide (IntKind.wrap .u64 (Int.tdiv (IntKind.wrap .u64 (9223372036854775808-dC b)) (base:Int))<t.1)) (some (.inl (t.1,true))) (some (.inl (IntKind.wrap .u64 ((IntKind.wrap .u64 (t.1*(base:Int)))+dC b),t.2)))))
    (fun t=>cond t.2 (some (0,14)) (some (t.1,0))) (t:=(0,false)) om ?_ ?_ ?_]
  ·grind [P7]
  ·rfl
  ·intro i h t rc
   have hz:(!((base:Int)==0))=true:=by simp;omega
   simp only [xU h,bZ,gd h,bx (i:=i) om,ahR,aC,hz];cases decide ((base:Int)<=dC l[i])<;>cases t.2<;>simp
   all_goals first|rfl|(generalize decide (IntKind.wrap .u64 (Int.tdiv (IntKind.wrap .u64 (9223372036854775808-dC l[i])) (base:Int))<t.1)=c;cases c<;>rfl)
  simp_all
theorem Up(base:Nat)(hb:1<=base/\base<=16):∀(l:Bs)(v:Nat),okD (base:Int) l=true->v<=9223372036854775808 ->
  qg (fun t (b:UInt8)=>cond (decide (IntKind.wrap .u64 (Int.tdiv (IntKind.wrap .u64 (9223372036854775808-(IntKind.wrap .u64 (dR b)))) (base:Int))<t)) (some (.inr ((0,14):Int×Int))) (some (.inl (IntKind.wrap .u64 ((IntKind.wrap .u64 (t*(base:Int)))+(IntKind.wrap .u64 (dR b)))))))
   (fun t=>some (t,0)) l (v:Int)=some (qI base v l)
 | [],v,_,hv=>by simp [qg,qI,okD,rK,hv]
 | b::l,v,ho,hv=>by
  have ho':(0<=dR b/\dR b<base)/\okD (base:Int) l=true:=by
   unfold okD at ho⊢
   simp_all
  obtain⟨⟨h0,h1⟩,h2⟩:=ho'
  have hm:((v*base+(dR b).toNat:Nat):Int)=(v:Int)*(base:Int)+dR b:=by
   grind
  have e3:qI base v (b::l)=qI base (v*base+(dR b).toNat) l:=by
   unfold qI;rw [ho,h2];rfl
  simp [qg];rw [pZ (dR b) om,pZ (9223372036854775808-dR b) om,adV _ _ om,e3];by_cases hx:(9223372036854775808-dR b) / (base:Int)<(v:Int)
  ·rw [dW hx]
   rw [div_lt om om om] at hx;have hge:=VV base hb.1 l (v*base+(dR b).toNat);have:¬ rK base (v*base+(dR b).toNat) l<=9223372036854775808:=om;simp [qI,h2,this,sm]
  ·have hx':=hx
   rw [div_lt om om om] at hx';rw [tK hx,pZ ((v:Int)*(base:Int)) om,pZ ((v:Int)*(base:Int)+dR b) om,<-hm];exact Up base hb l _ h2 om
theorem ahS(base:Nat)(h:1<=base)(t:Bs):qI base 0 (48::t)=qI base 0 t:=by
 have e1:okD (base:Int) (48::t)=okD (base:Int) t:=by
  unfold okD;rw [SE,show dR 48=0 from rfl,dW om,dW om];rfl
 have e2:rK base 0 (48::t)=rK base 0 t:=by
  unfold rK;rw [yg,show dR 48=0 from rfl];simp
 unfold qI;rw [e1,e2]
theorem afZ(s:Bs)(h0:s≠[]):oQ s=cond ((jT s).2==[]) (0,6) (qI (jT s).1 0 (jT s).2):=by
 match s,h0 with
 | [a],_=>
  unfold oQ sg jT;have p1:([48,120]:Bs).isPrefixOf [a]=false:=by simp [List.isPrefixOf]
  have p2:([48,88]:Bs).isPrefixOf [a]=false:=by simp [List.isPrefixOf]
  rw [p1,p2]
  have p3:([48]:Bs).isPrefixOf [a]=((a.toNat:Int)==48):=by
   rw [tJ];simp;constructor
   ·rintro rfl;rfl
   ·intro h;exact (ofNat_eq de (by simpa using h)).symm
  rw [p3]
  cases ha:((a.toNat:Int)==48) with
  | false=>rfl
  | true=>
   obtain rfl:=ofNat_eq de ha
   rfl
 | a::b::t,_=>
  unfold oQ sg jT;simp
  have p1:([48,120]:Bs).isPrefixOf (a::b::t)=(((a.toNat:Int)==48)&&((b.toNat:Int)==120)):=by
   rw [tJ];simp;constructor
   ·rintro⟨rfl,rfl⟩;exact⟨rfl,rfl⟩
   ·rintro⟨h1,h2⟩
    exact⟨(ofNat_eq de (by simpa using h1)).symm,(ofNat_eq de (by simpa using h2)).symm⟩
  have p2:([48,88]:Bs).isPrefixOf (a::b::t)=(((a.toNat:Int)==48)&&((b.toNat:Int)==88)):=by
   rw [tJ];simp;constructor
   ·rintro⟨rfl,rfl⟩;exact⟨rfl,rfl⟩
   ·rintro⟨h1,h2⟩
    exact⟨(ofNat_eq de (by simpa using h1)).symm,(ofNat_eq de (by simpa using h2)).symm⟩
  have p3:([48]:Bs).isPrefixOf (a::b::t)=((a.toNat:Int)==48):=by
   rw [tJ];simp;constructor
   ·rintro rfl;rfl
   ·intro h;exact (ofNat_eq de (by simpa using h)).symm
  rw [p1,p2,p3];have hl1:decide (1<((a::b::t).length:Int))=true:=by simp;omega
  cases ha:((a.toNat:Int)==48) with
  | false=>simp
  | true=>
   obtain rfl:=ofNat_eq de ha;simp
   cases hx:(((b.toNat:Int)==120)||((b.toNat:Int)==88)) with
   | false=>
    simp_all [SG,aK,ahS]
   | true=>
    cases t with
    | nil=>
     simp only [Rr] at hx;rcases hx with hx|hx
     ·obtain rfl:=ofNat_eq de hx;rfl
     ·obtain rfl:=ofNat_eq de hx;rfl
    | cons c t=>
     grind
theorem ahT(F:Nat)(s:Bs)(h0:s≠[])(hF:s.length<F)(hl:s.length<=1000000):
  lK F s=some (oQ s):=by
 have hpos:=zu.2 h0
 have hb:(1<=(jT s).1/\(jT s).1<=16)/\(jT s).2.length<=s.length:=by
  unfold jT
  grind
 rw [afZ s h0];unfold lK wx
 have TE:((cond (decide (2<(s.length:Int)))
   (rq (decide (0<(s.length:Int))) (some (((s.getD 0 0).toNat:Int)==48)))
   (some false):O Bool).bind fun x2=>
   (cond x2
   (rq (decide (1<(s.length:Int))) (cond (((s.getD 1 0).toNat:Int)==120)
   (some true)
   (rq (decide (1<(s.length:Int))) (some (((s.getD 1 0).toNat:Int)==88)))))
   (some false):O Bool).bind fun x3=>
   cond x3
   (rq ((decide (2<=(s.length:Int)))&&(decide ((s.length:Int)<=(s.length:Int)))) (some (sl s 2 (s.length:Int),(16:Int))))
   ((cond (decide (1<(s.length:Int)))
   (rq (decide (0<(s.length:Int))) (some (((s.getD 0 0).toNat:Int)==48)))
   (some false):O Bool).bind fun x4=>
   cond x4
   (rq ((decide (1<=(s.length:Int)))&&(decide ((s.length:Int)<=(s.length:Int)))) (some (sl s 1 (s.length:Int),8)))
   (some (s,10))):O (Bs×Int))=some ((jT s).2,((jT s).1:Int)):=by
  have s2:sl s 2 (s.length:Int)=s.drop 2:=by unfold sl;simp
  have s1:sl s 1 (s.length:Int)=s.drop 1:=by unfold sl;simp
  rw [show decide (0<(s.length:Int))=true from dW om,show decide (1<=(s.length:Int))=true from dW om,show decide ((s.length:Int)<=(s.length:Int))=true from dW om,s1,s2];unfold jT;by_cases h2:2<(s.length:Int)
  ·rw [dW h2,show decide (1<(s.length:Int))=true from dW om,show decide (2<=(s.length:Int))=true from dW om]
   cases (((s.getD 0 0).toNat:Int)==48)<;>cases (((s.getD 1 0).toNat:Int)==120)<;>cases (((s.getD 1 0).toNat:Int)==88)<;>rfl
  ·rw [tK h2]
   cases decide (1<(s.length:Int))<;>cases (((s.getD 0 0).toNat:Int)==48)<;>rfl
 rw [TE];simp only [aC];obtain⟨hb,hlen⟩:=hb;generalize (jT s).2=l at hlen⊢;generalize (jT s).1=base at hb⊢
 cases (l==[]) with
 | true=>rfl
 | false=>
  cases hok:okD (base:Int) l with
  | false=>
   have hr:qI base 0 l=(0,6):=by unfold qI;rw [hok];rfl
   ·refine OB (l:=l) (fun i=>(i:Int)) (fun i rc h=>?_) l.length 0 F om om (by rw [UW];exact hok)
    simp only [xU h,B0,vp,gJ,gd h,bx (i:=i) om,uP]
    grind
  | true=>
   have h1:=Up base hb l 0 hok om;refine Ox (fun i=>(i:Int)) l.length om rfl ?_ ?_
   ·intro i rc h
    have hi:(decide (0<=dR l[i])&&decide (dR l[i]<(base:Int)))=true:=by
     unfold okD at hok
     simp_all
    simp only [xU h,B0,gJ,bZ,gd h,bx (i:=i) om,uP,aC,afY (base:=(base:Int)) om,hi];rfl
   ·intro rc
    simp only [GM,aK];rw [<-h1];refine ri l (fun i (t:Int)=>(t,(i:Int))) _ _ om rfl ?_ ?_
    ·intro i h t rc
     have hi:(decide (0<=dR l[i])&&decide (dR l[i]<(base:Int)))=true:=by
      unfold okD at hok
      simp_all
     have hw:=pZ (base:Int) om;have hz:(!((base:Int)==0))=true:=by simp;omega
     have hv:cond (decide ((base:Int)<=dR l[i])) (-1) (dR l[i])=dR l[i]:=by
      grind
     simp only [xU h,B0,gJ,bZ,gd h,bx (i:=i) om,uP,aC,hw,hz,hv];generalize decide (IntKind.wrap .u64 (Int.tdiv (IntKind.wrap .u64 (9223372036854775808-(IntKind.wrap .u64 (dR l[i])))) (base:Int))<t)=c;cases c<;>rfl
    simp_all
theorem ap0(b:UInt8)(h:dg b=false):dR b<0\/10<=dR b:=by
 unfold dR
 grind
theorem aj5(b:UInt8)(t:Bs)(h:dg b=false):oQ (b::t)=(0,6):=by
 have hne:((48:UInt8)==b)=false:=by
  rw [gK];intro e;subst e;exact absurd h de
 unfold oQ sg;have p1:([48,120]:Bs).isPrefixOf (b::t)=false:=by grind
 have p2:([48,88]:Bs).isPrefixOf (b::t)=false:=by grind
 have p3:([48]:Bs).isPrefixOf (b::t)=false:=by grind
 rw [p1,p2,p3];simp
 have ho:okD ((10:Nat):Int) (b::t)=false:=by
  unfold okD;rw [SE,adP];rw [adP]
  simp_all [ap0]
 unfold qI;rw [ho];rfl
theorem ahU(F:Nat)(s:Bs)(hF:s.length<F)(hl:s.length<=1000000):xD F s=some (oQ s):=by
 unfold xD wx
 cases s with
 | nil=>rfl
 | cons b t=>
  have hp:decide (0<((b::t).length:Int))=true:=dW (by simp_all);have hne:((b::t)==[])=false:=rfl;rw [ahT F (b::t) si hF hl];simp [hne,gJ]
  cases hd:dg b with
  | true=>
   unfold dg fW at hd
   grind
  | false=>
   grind [aj5,Bool.and_eq_false_iff,decide_eq_false_iff_not,decide_eq_true,decide_eq_false]
theorem af0(s:Bs):((oQ s).2=0/\0<=(oQ s).1/\(oQ s).1<=9223372036854775808)\/(oQ s).2=6\/(oQ s).2=14:=by
 unfold oQ
 cases ((sg s).2==[]) with
 | true=>exact .inr (.inl rfl)
 | false=>
  unfold qI
  grind
abbrev Env:=J (Bs×Bs)
def Bk(m:Env)(k:Bs):cO:=⟨k,fZ cV m k []⟩
def tE(m:Env):J cO:=(rZ (m.map (·.1))).map (Bk m)
def Nd(m:Env):Prop:=(m.map (·.1)).Nodup
def QI(l:J cO):Prop:=l.Pairwise fun x y=>x.fName<y.fName
variable{m:Env}
theorem VW(h:Nd m):QI (tE m):=List.pairwise_map.2 ((ahG h).imp fun h=>h)
theorem CH(m:Env)(x:cO):x∈tE m↔∃k,k∈m.map (·.1)/\x=Bk m k:=by
 unfold tE
 grind [Bh]
theorem VX(m:Env):(tE m).length=m.length:=by
 unfold tE;rw [lW,(Bh _).length_eq,lW]
def wA(k v:Bs):J cO->Bool->J cO
 | [],put=>cond put [] [⟨k,v⟩]
 | x::l,put=>cond (!put && !(Op.bytesLess x.fName k)) [⟨k,v⟩] []++(cond (x.fName==k) [] [x]++wA k v l (put || !(Op.bytesLess x.fName k)))
def P8(k v:Bs)(t:J cO×Bool)(x:cO):J cO×Bool:=
 (t.1++(cond (!t.2 && !(Op.bytesLess x.fName k)) [⟨k,v⟩] []++cond (x.fName==k) [] [x]),t.2 || !(Op.bytesLess x.fName k))
theorem Uq(k v:Bs):∀(l:J cO)(t:J cO×Bool),(l.foldl (P8 k v) t).1++cond (l.foldl (P8 k v) t).2 [] [⟨k,v⟩]=t.1++wA k v l t.2
 | [],t=>rfl
 | x::l,t=>by
  rw [yg,Uq k v l];simp [P8,wA]
theorem bind_eq(F:Nat)(l:J cO)(k v:Bs)(hF:l.length<F)(hl:l.length<=1000000):Bn F l k v=some (wA k v l false):=by
 refine C6 l (fun i (t:J cO×Bool)=>(t.1,t.2,(i:Int))) (P8 k v) (fun i t=>t.1.length<=2*i) (t:=([],false)) hF rfl si ?_ ?_ ?_
 ·intro i h t rc hI
  simp only [xU h,B0,vp,gJ,bZ,gd h,bx (i:=i) om,P8];rw [fu bz om]
  cases t.2<;>cases Op.bytesLess l[i].fName k<;>cases (l[i].fName==k)<;>
   simp only [aZ,aK,aC,je,qB,I4,SH,Bool.or_true,Yp,Yw,o9,uX]
  all_goals (try rw [fu bz om])
 ·simp [P8]
  grind
 ·intro rc hI
  have hb:=Uq k v l ([],false);simp only [GM,aK];rw [fu bz om]
  grind
theorem CI(k v:Bs):∀(l:J cO)(put:Bool)(x:cO),x∈wA k v l put↔(put=false/\x=⟨k,v⟩)\/(x∈l/\x.fName≠k)
 | [],put,x=>by cases put<;>simp [wA]
 | y::l,put,x=>by
  have e1:∀c:Bool,x∈(cond c [⟨k,v⟩] []:J cO)↔c=true/\x=⟨k,v⟩:=fun c=>by cases c<;>simp
  have e2:x∈(cond (y.fName==k) [] [y]:J cO)↔x=y/\y.fName≠k:=by
   cases h:(y.fName==k) with
   | true=>simp [eq_of_beq h]
   | false=>rw [gK] at h;simp [h]
  simp [wA,CI k v l,e1,e2];constructor
  ·rintro (⟨h1,h2⟩|⟨rfl,h2⟩|⟨h1,h2⟩|⟨h1,h2⟩)
   ·left;exact⟨by cases put<;>simp_all,h2⟩
   ·right;exact⟨.inl rfl,h2⟩
   ·left;exact⟨by cases put<;>simp_all,h2⟩
   ·right;exact⟨.inr h1,h2⟩
  ·rintro (⟨rfl,h2⟩|⟨rfl|h1,h2⟩)
   ·cases Op.bytesLess y.fName k
    ·left;simp [h2]
    ·right;right;left;simp [h2]
   ·right;left;exact⟨rfl,h2⟩
   ·right;right;right;exact⟨h1,h2⟩
theorem GQ{k v:Bs}:∀ {l:J cO}{put:Bool},QI l->(put=true->∀x,x∈l->k<x.fName)->QI (wA k v l put)
 | [],put,_,_=>by cases put<;>simp [wA,QI]
 | y::l,put,h,hp=>by
  obtain⟨h1,h2⟩:=yh.1 h;unfold wA
  cases put with
  | true=>
   have hn:(y.fName==k)=false:=by grind
   simp [je,hn];refine yh.2 ⟨fun x hx=>?_,GQ h2 fun _ x hx=>hp rfl x (kf _ hx)⟩
   simp_all [CI]
  | false=>
   rcases Ug y.fName k with hlt|he|hgt
   ·have e1:=(KU _ _).2 hlt
    have hn:(y.fName==k)=false:=by grind
    simp [e1,hn];refine yh.2 ⟨fun x hx=>?_,GQ h2 fun e=>by cases e⟩
    grind [CI]
   ·have e1:Op.bytesLess y.fName k=false:=(Dm _ _).2 (by simp_all)
    have hn:(y.fName==k)=true:=by rw [uW];exact he
    simp [e1,hn];refine yh.2 ⟨fun x hx=>?_,GQ h2 fun _ x hx=>by simp_all⟩
    simp_all [CI]
   ·have e1:=(Dm _ _).2 fun h'=>mj _ (qX h' hgt)
    have hn:(y.fName==k)=false:=by grind
    simp [e1,hn]
    have fC:∀x,x∈wA k v l true->y.fName<x.fName:=fun x hx=>by
     simp_all [CI]
    refine yh.2 ⟨fun x hx=>?_,yh.2 ⟨fC,GQ h2 fun _ x hx=>qX hgt (h1 x hx)⟩⟩
    grind
theorem adz(h:Nd m)(k v:Bs):tE (jI cV m k v)=wA k v (tE m) false:=by
 refine VR (VW (Uh h k v)) (GQ (VW h) fun e=>by cases e) fun x=>?_;rw [CI,CH,CH];constructor
 ·rintro⟨q,hq,rfl⟩
  by_cases hk:q=k
  ·left
   unfold Bk
   simp_all [v8,I3]
  ·rcases (zg ..).1 hq with e|hq
   ·exact absurd e hk
   ·unfold Bk
    grind [v8,beq_eq_false_iff_ne]
 ·rintro (⟨_,rfl⟩|⟨⟨q,hq,rfl⟩,hk⟩)
  ·refine⟨k,(zg ..).2 (.inl rfl),?_⟩
   unfold Bk
   simp_all [v8,I3]
  ·have hk:¬ q=k:=hk
   refine⟨q,(zg ..).2 (.inr hq),?_⟩;unfold Bk
   grind [v8,beq_eq_false_iff_ne]
def Y5(l:J cO)(k:Bs):Bs:=match l.reverse.find? (fun x=>x.fName==k) with|some x=>x.bS|none=>[]
theorem aa3(k:Bs):∀l:J cO,qg (fun _ (x:cO)=>cond (x.fName==k) (some (.inr x.bS)) (some (.inl ()))) (fun _=>some []) l ()=some (match l.find? (fun x=>x.fName==k) with|some x=>x.bS|none=>[])
 | []=>rfl
 | x::l=>by
  simp [qg,M7];cases (x.fName==k)
  ·exact aa3 k l
  ·rfl
theorem OC(F:Nat)(l:J cO)(k:Bs)(hF:l.length<F)(hl:l.length<=1000000):qi F l k=some (Y5 l k):=by
 unfold qi Y5 wx;rw [<-aa3];refine ri l.reverse (fun i (_:Unit)=>((l.length:Int)-1-(i:Int))) _ _ (by simpa using hF) ?_ ?_ ?_
 ·grind [bN]
 ·intro i h t rc
  have hi:i<l.length:=by simpa using h
  have e:(l.length:Int)-1-(i:Int)=((l.length-1-i:Nat):Int):=om;have hj:l.length-1-i<l.length:=om;have hw:aB (((l.length-1-i:Nat):Int)-1)=(l.length:Int)-1-((i+1:Nat):Int):=by grind [bN]
  simp only [e,xU hj,bZ,gd hj,hw,List.getElem_reverse];cases (l[l.length-1-i].fName==k)<;>rfl
 grind
theorem OD(m:Env)(k:Bs):Y5 (tE m) k=fZ cV m k []:=by
 unfold Y5
 cases h:(tE m).reverse.find? (fun x=>x.fName==k) with
 | some x=>
  have h1:=Yv h;have h2:=adT h;rw [List.mem_reverse,CH] at h1;obtain⟨q,hq,rfl⟩:=h1;have:q=k:=by simpa [Bk] using h2
  subst this
  rfl
 | none=>
  rcases Lw m k ([]:Bs) with⟨p,hp,h1,h2⟩|⟨_,h2⟩
  ·have:=List.find?_eq_none.1 h (Bk m k) (by grind [CH])
   simp [Bk] at this
  ·exact h2.symm
structure Eo(c:Nat)(m:Env):Prop where
 nd:Nd m
 len:m.length<=c
 sz:∀p,p∈m->p.1.length<=60/\p.2.length<=4096
variable{c:Nat}
theorem Eo.mono{d:Nat}(h:Eo c m)(hd:c<=d):Eo d m:=⟨h.nd,oD h.len hd,h.sz⟩
theorem Eo.set(h:Eo c m){k v:Bs}(hk:k.length<=60)(hv:v.length<=4096):Eo (c+1) (jI cV m k v):=
 ⟨Uh h.nd k v,oD (ajT m k v) (by have:=h.len;omega),fun p hp=>by
  rcases Sg hp with rfl|hp
  ·exact⟨hk,hv⟩
  ·exact h.sz p hp⟩
theorem Eo.get(h:Eo c m)(k:Bs):(fZ cV m k []).length<=4096:=by
 rcases Lw m k ([]:Bs) with⟨p,hp,_,h2⟩|⟨_,h2⟩
 ·rw [<-h2];exact (h.sz p hp).2
 ·rw [h2];simp
def uc(l:J cO):Env:=l.foldl (fun m b=>jI cV m b.fName b.bS) []
theorem Si{c:Nat}:∀(l:J cO)(m:Env),Eo c m->(∀b,b∈l->b.fName.length<=60/\b.bS.length<=4096) ->
  Eo (c+l.length) (l.foldl (fun m b=>jI cV m b.fName b.bS) m)/\tE (l.foldl (fun m b=>jI cV m b.fName b.bS) m)=l.foldl (fun o b=>wA b.fName b.bS o false) (tE m)
 | [],m,h,_=>⟨h,rfl⟩
 | b::l,m,h,hb=>by
  have h1:=h.set (hb b si).1 (hb b si).2;obtain⟨h2,h3⟩:=Si l _ h1 fun b hm=>hb b (kf _ hm);refine⟨h2.mono bz,?_⟩;rw [yg,yg,h3,adz h.nd]
theorem ahV:Eo 0 []:=⟨by simp [Nd],si,si⟩
theorem ams:tE []=[]:=by
 have:=Bh ([]:J Bs);simp at this;simp [tE,this]
variable{l:J cO}
theorem GR(h:∀b,b∈l->b.fName.length<=60/\b.bS.length<=4096):Eo l.length (uc l):=by
 have:=(Si l [] ahV h).1;rw [qC] at this;exact this
theorem aa4(k v:Bs):∀(l:J cO)(put:Bool),(wA k v l put).length<=l.length+cond put 0 1
 | [],put=>by cases put<;>simp [wA]
 | x::l,put=>by
  have h1:=aa4 k v l (put || !(Op.bytesLess x.fName k));simp [wA];generalize Op.bytesLess x.fName k=b at h1⊢;cases put<;>cases b<;>cases (x.fName==k)<;>simp at h1⊢ <;> omega
theorem ahW(F:Nat)(l:J cO)(hF:l.length<F)(hl:l.length<=1000)(h:∀b,b∈l->b.fName.length<=60/\b.bS.length<=4096):GU F l=some (tE (uc l)):=by
 refine C6 l (fun i (t:J cO)=>(t,(i:Int))) (fun o b=>wA b.fName b.bS o false) (fun i t=>t.length<=i) hF rfl si ?_ ?_ ?_
 ·intro i h t rc hI
  simp only [xU h,B0,vp,gJ,bx (i:=i) om]
  grind [bind_eq]
 ·grind [aa4]
 ·intro rc hI
  simp;have:=(Si l [] ahV h).2;rw [ams] at this;unfold uc;rw [this]
theorem ap1(h:Eo c m)(hc:c<=1000000)(F:Nat):skF F m=some (rZ (m.map (·.1))):=by
 unfold skF;have h1:(m.all fun p=>decide (p.1.length<=9223372036854775807))=true:=p4.2 fun p hp=>dW (by have:=(h.sz p hp).1;omega);rw [h1,dW (by have:=h.len;omega)];rfl
def gG(x:Int):Prop:=-9223372036854775808<=x/\x<=9223372036854775807
theorem sV(x:Int):gG (aB x):=by
 show gG (if (true&&decide (x%(2^64:Int)>=(2^63:Int)))=true then x%(2^64:Int)-(2^64:Int) else x%(2^64:Int));unfold gG
 grind
theorem als(b:Int):lD .i64 b 63=b%64:=by
 rw [Vs]
 have h:(BitVec.ofInt 64 b &&& BitVec.ofInt 64 63).toNat=(b%64).toNat:=by
  rw [BitVec.toNat_and];have h63:(BitVec.ofInt 64 63).toNat=2^6-1:=by decide
  rw [h63,Nat.and_two_pow_sub_one_eq_mod,BitVec.toNat_ofInt]
  grind
 show aB (((BitVec.ofInt 64 b &&& BitVec.ofInt 64 63).toNat:Nat):Int)=_
 grind [bN]
theorem not_eq{a:Int}(h:gG a):Vr .i64 a=aB ((aB (0-a))-1):=by
 unfold gG at h
 have h1:(BitVec.ofInt 64 (-1) ^^^ BitVec.ofInt 64 a) = ~~~ BitVec.ofInt 64 a:=by
  rw [show BitVec.ofInt 64 (-1)=BitVec.allOnes 64 from rfl,BitVec.allOnes_xor]
 rw [Vt];show aB (((BitVec.ofInt 64 (-1) ^^^ BitVec.ofInt 64 a).toNat:Nat):Int)=_;rw [h1,BitVec.toNat_not,BitVec.toNat_ofInt];by_cases h0:a=-9223372036854775808
 ·subst h0;decide
 ·rw [bN (x:=0-a) om,bN (x:=0-a-1) om]
  by_cases hn:0<=a
  ·have e1:a%((2^64:Nat):Int)=a:=Int.emod_eq_of_lt hn om
   rw [e1];have e2:((2^64-1-a.toNat:Nat):Int)=18446744073709551615-a:=om;rw [e2];unfold aB IntKind.wrap;have e3:(18446744073709551615-a)%(2^IntKind.i64.bits:Int)=18446744073709551615-a:=Int.emod_eq_of_lt om (by show _<(18446744073709551616:Int);omega);simp only [e3];show (if (true&&decide ((18446744073709551615-a)>=(2^63:Int)))=true then (18446744073709551615-a)-(2^64:Int) else 18446744073709551615-a)=_
   grind
  grind [bN]
theorem aj6{a:Int}(b:Int)(h:gG a):gG (Vp .i64 a b):=by
 unfold gG at h⊢;rw [adh];generalize min b.toNat IntKind.i64.bits=k;have hp:(0:Int)<2^k:=Int.pow_pos de;rw [Int.fdiv_eq_ediv_of_nonneg _ om];by_cases h0:0<=a
 ·have h1:=Int.ediv_nonneg h0 (show (0:Int)<=2^k by omega)
  have h2:=Int.ediv_le_self (b:=2^k) h0;omega
 ·have h1:a<=a / 2^k:=by
   apply Int.le_ediv_of_mul_le hp;have:=Int.mul_le_mul_of_nonpos_left (a:=a) (b:=2^k) (c:=1) om om;omega
  have h2:a / 2^k<0:=Int.ediv_neg_of_neg_of_pos om hp;omega
theorem aj7{a:Int}(b:Int)(h:gG a):gG (Int.tmod a b):=by
 unfold gG at h⊢;by_cases h0:0<=a
 ·have h2:(Int.tmod a b).natAbs<=a.natAbs:=by simp_all [Int.natAbs_tmod,Nat.mod_le]
  omega
 ·have h1:Int.tmod a b=- Int.tmod (-a) b:=by rw [Int.neg_tmod];omega
  have h3:=Int.tmod_nonneg (a:=-a) b om;have h2:(Int.tmod (-a) b).natAbs<=(-a).natAbs:=by simp_all [Int.natAbs_tmod,Nat.mod_le]
  omega
def tr(b:Bool):Int:=cond b 1 0
theorem ahX(b:Bool):gG (tr b):=by cases b<;>simp [tr,gG]
theorem Mk(F:Nat)(b:Bool):xE F b=some (tr b):=by cases b<;>rfl
theorem Bo(F:Nat)(b:Bool):yP F b=some (tr b):=by cases b<;>rfl
def cUn(op a:Int):Int:=cond (op==3) (aB (0-a)) (cond (op==5) (tr (a==0)) (cond (op==6) (Vr .i64 a) a))
def aa5(op a b:Int):Bool:=cond (op==14) (decide (a<b)) (cond (op==15) (decide (b<a)) (cond (op==16) (decide (a<=b)) (cond (op==17) (decide (b<=a)) (cond (op==18) (a==b) (a != b)))))
def ud(op a b:Int):Int×Int:=
 cond (op==7) (aB (a*b),0) (cond (op==8||op==9) (cond (b==0) (0,13) (cond (op==8) (aB (Int.tdiv a b),0) (Int.tmod a b,0)))
  (cond (op==10) (aB (a+b),0) (cond (op==11) (aB (a-b),0) (cond (op==12) (ZM .i64 a (lD .i64 b 63),0) (cond (op==13) (Vp .i64 a (lD .i64 b 63),0)
   (cond (op==20) (lD .i64 a b,0) (cond (op==21) (R2 .i64 a b,0) (cond (op==22) (J0 .i64 a b,0) (cond (op==23) (tr (a != 0&&b != 0),0) (cond (op==24) (tr (a != 0||b != 0),0) (tr (aa5 op a b),0)))))))))))
theorem aj8(a:Int):gG (Vr .i64 a):=by rw [Vt];exact sV _
theorem aj9(a b:Int):gG (lD .i64 a b):=by rw [Vs];exact sV _
theorem amt(a b:Int):gG (J0 .i64 a b):=by rw [ahb];exact sV _
theorem aka(a b:Int):gG (R2 .i64 a b):=by rw [adi];exact sV _
theorem amu(op:Int){a:Int}(h:gG a):gG (cUn op a):=by
 unfold cUn
 grind [sV,ahX,aj8]
theorem LA(op:Int){a b:Int}(h:gG a)(h':gG b):gG (ud op a b).1:=by
 unfold ud
 cases (op==7) with
 | true=>exact sV _
 | false=>
 cases (op==8||op==9) with
 | true=>
  grind [sV,aj7]
 | false=>
 cases (op==10) with
 | true=>exact sV _
 | false=>
 cases (op==11) with
 | true=>exact sV _
 | false=>
 cases (op==12) with
 | true=>exact sV _
 | false=>
 grind [aj6,aj9,aka,amt,ahX]
theorem aa6(b:Int):decide (0<=lD .i64 b 63)=true:=dW (by rw [als];omega)
theorem amv(b:Int):IntKind.wrap .u64 (lD .i64 b 63)=lD .i64 b 63:=pZ _ (by rw [als];omega)
theorem af1(F:Nat)(op a b:Int):Bp F op a b=some (aa5 op a b):=by
 unfold Bp aa5 wx
 grind
theorem akb(F:Nat)(op a b:Int):Da F op a b=some (aa5 op a b):=by
 unfold Da aa5 wx
 grind
theorem akc(F:Nat)(op a:Int):Fl F op a=some (cUn op a):=by
 unfold Fl cUn wx
 grind [Mk]
theorem aoB(F:Nat)(op:Int){a:Int}(h:gG a):Ir F op a=some (cUn op a):=by
 unfold Ir cUn wx
 grind [Bo,not_eq]
theorem Xu(F:Nat)(op a b:Int):uQ F op a b=some (ud op a b):=by
 unfold uQ ud wx;simp [Mk,af1,aa6,gJ]
 cases h7:(op==7) with
 | true=>rfl
 | false=>
 cases h8:(op==8) with
 | true=>simp;cases hb:(b==0)<;>rfl
 | false=>
 cases h9:(op==9) with
 | true=>simp;cases hb:(b==0)<;>rfl
 | false=>
 grind
theorem ahY(F:Nat)(op a b:Int)(h:op≠23)(h':op≠24):DC F op a b=some (ud op a b):=by
 have e1:(op==23)=false:=by simp_all
 have e2:(op==24)=false:=by simp_all
 unfold DC ud wx;simp [Bo,akb,amv,aa6,gJ];by_cases k7:op=7
 ·subst k7;rfl
 have h7:(op==7)=false:=by simp_all
 rw [h7]
 cases h8:(op==8) with
 | true=>simp;cases hb:(b==0)<;>rfl
 | false=>
 cases h9:(op==9) with
 | true=>simp;cases hb:(b==0)<;>rfl
 | false=>
 grind
def qx(s:Bs):Bs:=cond ((((s.getD 0 0).toNat:Int)==45)||(((s.getD 0 0).toNat:Int)==43)) (s.drop 1) s
def ue(s:Bs):Int×Bool:=
 cond (s==[]) (0,true) (cond ((oQ (qx s)).2 != 0||((oQ (qx s)).1==9223372036854775808 && !(((s.getD 0 0).toNat:Int)==45))) (0,false)
  (cond (((s.getD 0 0).toNat:Int)==45) (aB (IntKind.wrap .u64 (0-(oQ (qx s)).1)),true) (aB (oQ (qx s)).1,true)))
theorem LB(s:Bs):gG (ue s).1:=by
 unfold ue;cases (s==[])<;>cases ((oQ (qx s)).2 != 0||((oQ (qx s)).1==9223372036854775808 && !(((s.getD 0 0).toNat:Int)==45)))<;>cases (((s.getD 0 0).toNat:Int)==45)<;>first|exact sV _|exact (show gG 0 by unfold gG;decide)
theorem aa7(s:Bs):(qx s).length<=s.length:=by
 unfold qx
 grind
theorem af2(F:Nat)(s:Bs)(hF:s.length<F)(hl:s.length<=1000000):Bq F s=some (ue s):=by
 unfold Bq ue wx
 cases hs:(s==[]) with
 | true=>rfl
 | false=>
  have hp:0<s.length:=by
   grind
  have e0:decide (0<(s.length:Int))=true:=dW om;have e1:(decide (1<=(s.length:Int))&&decide ((s.length:Int)<=(s.length:Int)))=true:=by grind
  have e2:sl s 1 (s.length:Int)=s.drop 1:=by unfold sl;simp
  have et:((cond (((s.getD 0 0).toNat:Int)==45) (some true) (some (((s.getD 0 0).toNat:Int)==43)):O Bool).bind fun x2=>cond x2 (some (s.drop 1)) (some s):O Bs)=some (qx s):=by
   unfold qx
   grind
  simp only [e0,e1,gJ]
  grind [aa7,aoA]
theorem Xv(F:Nat)(s:Bs)(hF:s.length<F)(hl:s.length<=1000000):yQ F s=some (ue s):=by
 unfold yQ ue wx
 cases hs:(s==[]) with
 | true=>rfl
 | false=>
  have hp:0<s.length:=by
   grind
  have e0:decide (0<(s.length:Int))=true:=dW om;have e1:(decide (1<=(s.length:Int))&&decide ((s.length:Int)<=(s.length:Int)))=true:=by grind
  have e2:sl s 1 (s.length:Int)=s.drop 1:=by unfold sl;simp
  have et:((cond (((s.getD 0 0).toNat:Int)==45) (some true) (some (((s.getD 0 0).toNat:Int)==43)):O Bool).bind fun x2=>cond x2 (some (s.drop 1)) (some s):O Bs)=some (qx s):=by
   unfold qx
   grind
  simp only [e0,e1,e2,gJ,et,aC];have:=aa7 s;rw [ahU F (qx s) om om]
  have key:∀(neg:Bool),(cond ((oQ (qx s)).2 != 0) true (decide ((cond neg 9223372036854775808 9223372036854775807:Int)<(oQ (qx s)).1)))=((oQ (qx s)).2 != 0||((oQ (qx s)).1==9223372036854775808 && !neg)):=by
   intro neg;rcases af0 (qx s) with⟨h,h0,h1⟩|h|h
   ·grind
   ·rw [h];rfl
   ·rw [h];rfl
  rw [<-key]
  grind
abbrev Rs:=Int×Int×Env
def OE(n:Int)(name:Bs)(x:Rs):Rs:=
 cond (n != 0)
  (cond (!(ue (fZ cV x.2.2 name [])).2) (0,1,x.2.2)
   (cond ((ud n (ue (fZ cV x.2.2 name [])).1 x.1).2 != 0) (0,(ud n (ue (fZ cV x.2.2 name [])).1 x.1).2,x.2.2)
    ((ud n (ue (fZ cV x.2.2 name [])).1 x.1).1,0,jI cV x.2.2 name (Lib.itoa (ud n (ue (fZ cV x.2.2 name [])).1 x.1).1))))
  (x.1,0,jI cV x.2.2 name (Lib.itoa x.1))
def Jp(name:Bs)(m:Env):Rs:=cond (!(ue (fZ cV m name [])).2) (0,1,m) ((ue (fZ cV m name [])).1,0,m)
def aa8(op:Int)(x y:Rs):Rs:=cond (y.2.1 != 0) (0,y.2.1,y.2.2) ((ud op x.1 y.1).1,(ud op x.1 y.1).2,y.2.2)
def dK:Env->Rs:=fun m=>(0,0,m)
def evB(op n:Int)(name:Bs)(ks:J (Env->Rs))(m:Env):Rs:=
 cond (op==1) (n,0,m) (cond (op==2) (Jp name m)
  (cond ((ks.getD 0 dK m).2.1 != 0) (0,(ks.getD 0 dK m).2.1,(ks.getD 0 dK m).2.2)
   (cond (op==26) (OE n name (ks.getD 0 dK m))
    (cond (decide (3<=op)&&decide (op<=6)) (cUn op (ks.getD 0 dK m).1,0,(ks.getD 0 dK m).2.2)
     (cond (op==25) (cond ((ks.getD 0 dK m).1 != 0) (ks.getD 1 dK (ks.getD 0 dK m).2.2) (ks.getD 2 dK (ks.getD 0 dK m).2.2))
      (cond (op==23&&(ks.getD 0 dK m).1==0) (0,0,(ks.getD 0 dK m).2.2)
       (cond (op==24&&(ks.getD 0 dK m).1 != 0) (1,0,(ks.getD 0 dK m).2.2)
        (aa8 op (ks.getD 0 dK m) (ks.getD 1 dK (ks.getD 0 dK m).2.2)))))))))
mutual
def kT:TExpr->Env->Rs
 | .mk op n name kids=>evB op n name (evL kids)
def evL:J TExpr->J (Env->Rs)
 | []=>[]
 | k::l=>kT k::evL l
end
theorem adA:∀l,evL l=l.map kT
 | []=>rfl
 | k::l=>by simp [evL,adA l]
theorem Ur(e:TExpr):kT e=evB e.fOp e.fN e.fName (e.fKids.map kT):=by cases e;rw [<-adA];rfl
theorem Fm(l:J TExpr)(i:Nat)(h:i<l.length):(l.map kT).getD i dK=kT (l.getD i dB):=by
 simp [h]
theorem xF(h:gG n):(Lib.itoa n).length<=60:=by
 have key:∀(k u:Nat),u<10^(k+1)->(Lib.decDigits u).length<=k+1:=by
  intro k
  induction k with
  | zero=>
   intro u hu;rw [Lib.decDigits_one (by simpa using hu)]
   simp
  | succ k ih=>
   intro u hu;by_cases h9:u<10
   ·grind
   ·rw [Lib.decDigits.eq_1 u]
    grind
 unfold gG at h;unfold Lib.itoa;split
 ·have:=key 20 n.natAbs om
  simp;omega
 ·have:=key 20 n.toNat om
  omega
theorem aa9(F:Nat)(h:gG n):pJ F n=some (Lib.itoa n):=by
 unfold pJ;unfold gG at h
 simp_all [cC,dW]
theorem acN(F:Nat)(hF:30<=F)(h0:-9223372036854775808<=n)(h1:n<0):dJ F n=some (Lib.itoa n):=by
 unfold dJ wh wx;obtain⟨u,hu⟩:∃u:Nat,n=-(u:Int):=⟨(-n).toNat,om⟩;have e1:aB (0-aB (n+1))=(u:Int)-1:=by grind [bN]
 have e2:IntKind.wrap .u64 ((IntKind.wrap .u64 ((u:Int)-1))+1)=(u:Int):=by
  rw [pZ ((u:Int)-1) om,pZ _ om];omega
 simp only [e1,e2];rw [Jo 20 u F [] om om om si];rw [hu,Lib.itoa_neg u om]
 have hl:(Lib.decDigits u).length<=60:=by
  have:=xF (n:=-(u:Int)) ⟨om,om⟩;rw [Lib.itoa_neg u om] at this;simp at this;omega
 grind [ag1]
theorem Kk(F:Nat)(hF:30<=F)(h:gG n):dJ F n=some (Lib.itoa n):=by
 by_cases h0:0<=n
 ·exact afV F hF h0 h.2
 ·exact acN F hF h.1 om
theorem Good.okn(g:Good e):gG e.fN:=by
 obtain⟨v,o,m⟩:=g
 cases o with
 | mk op n name kids a1 a2 a3 a4 a5=>exact aoy a2
theorem Good.op(g:Good e):1<=e.fOp/\e.fOp<=26:=ajY g.facts.1
theorem Good.Fo(g:Good e)(h:i<e.fKids.length):Good (e.fKids.getD i dB)/\e.fKids.getD i dB∈e.fKids:=by
 have hm:e.fKids.getD i dB∈e.fKids:=by simp [h]
 exact⟨g.kid _ hm,hm⟩
theorem aba(h:i<e.fKids.length):nodes (e.fKids.getD i dB)<nodes e:=by
 have hm:e.fKids.getD i dB∈e.fKids:=by simp [h]
 have:=Im hm;rw [GO e];omega
variable{j:Nat}
theorem Is{l:J TExpr}(hij:i<j)(hj:j<l.length):nodes (l.getD i dB)+nodes (l.getD j dB)<=mm l:=by
 induction l generalizing i j with
 | nil=>simp at hj
 | cons k l ih=>
  cases j with
  | zero=>omega
  | succ j=>
   have hj':j<l.length:=by simpa using hj
   cases i with
   | zero=>
    have hm:l.getD j dB∈l:=by simp [hj']
    have:=Im hm;simp only [UY,List.getD_cons_succ,mm]
    omega
   | succ i=>
    have:=ih (i:=i) om hj';simp only [List.getD_cons_succ,mm];omega
theorem Good.shape(g:Good e):(e.fOp=1)\/(e.fOp=2)\/((3<=e.fOp/\e.fOp<=6)/\e.fKids.length=1)\/((7<=e.fOp/\e.fOp<=24)/\e.fKids.length=2)\/(e.fOp=25/\e.fKids.length=3)\/(e.fOp=26/\e.fKids.length=1):=by
 have h1:=g.facts.1;have h2:=g.op;rcases ajZ h2 with h|h|h|h|h|h|h|h|h|h|h|h|h|h|h|h|h|h|h|h|h|h|h|h|h|h<;>rw [h] at h1<;>simp [pK] at h1<;>omega
theorem OG:∀e,Good e->∀c m,Eo c m->Eo (c+nodes e) (kT e m).2.2/\gG (kT e m).1:=by
 apply Good.ind;intro e g ih c m hm;have z:gG 0:=by unfold gG;decide
 have one:gG 1:=by unfold gG;decide
 have ap2:=hm.mono (show c<=c+nodes e by omega);rw [Ur];unfold evB
 cases h1:(e.fOp==1) with
 | true=>exact⟨ap2,g.okn⟩
 | false=>
 cases h2:(e.fOp==2) with
 | true=>
  unfold Jp
  grind [fZ,cV,LB]
 | false=>
 simp only [gK] at h1 h2;have hl:0<e.fKids.length:=by rcases g.shape with h|h|h|h|h|h<;>omega
 obtain⟨g0,m0⟩:=g.Fo hl;obtain⟨i1,i2⟩:=ih _ m0 c m hm;have n0:=aba hl;rw [Fm _ 0 hl];generalize hx:kT (e.fKids.getD 0 dB) m=x at i1 i2⊢;have i1':=i1.mono (show c+nodes (e.fKids.getD 0 dB)<=c+nodes e by omega)
 cases (x.2.1 != 0) with
 | true=>exact⟨i1',z⟩
 | false=>
 cases Il:(e.fOp==26) with
 | true=>
  unfold OE;have hs:∀n:Int,gG n->Eo (c+nodes e) (jI cV x.2.2 e.fName (Lib.itoa n)):=fun n hn=>(i1.set g.facts.2.2.2.1 (oD (xF hn) de)).mono om
  cases (e.fN != 0) with
  | false=>exact⟨hs _ i2,i2⟩
  | true=>
   cases (!(ue (fZ cV x.2.2 e.fName [])).2) with
   | true=>exact⟨i1',z⟩
   | false=>
    have hr:=LA e.fN (LB (fZ cV x.2.2 e.fName [])) i2
    cases ((ud e.fN (ue (fZ cV x.2.2 e.fName [])).1 x.1).2 != 0) with
    | true=>exact⟨i1',z⟩
    | false=>exact⟨hs _ hr,hr⟩
 | false=>
 simp only [gK] at Il
 cases Ze:(decide (3<=e.fOp)&&decide (e.fOp<=6)) with
 | true=>simp_all [amu]
 | false=>
 have akd:¬ (3<=e.fOp/\e.fOp<=6):=by
  simp_all
 have hl1:1<e.fKids.length:=by rcases g.shape with h|h|h|h|h|h<;>omega
 obtain⟨g1,m1⟩:=g.Fo hl1;obtain⟨j1,j2⟩:=ih _ m1 _ x.2.2 i1;have n01:=Is (l:=e.fKids) (i:=0) (j:=1) om hl1;rw [Fm _ 1 hl1];have j1':=j1.mono (show c+nodes (e.fKids.getD 0 dB)+nodes (e.fKids.getD 1 dB)<=c+nodes e by rw [GO e];omega)
 cases Xr:(e.fOp==25) with
 | true=>
  have aoC:e.fOp=25:=by simpa using Xr
  have hl2:2<e.fKids.length:=by rcases g.shape with h|h|h|h|h|h<;>omega
  obtain⟨g2,m2⟩:=g.Fo hl2;obtain⟨k1,k2⟩:=ih _ m2 _ x.2.2 i1;have n02:=Is (l:=e.fKids) (i:=0) (j:=2) om hl2;rw [Fm _ 2 hl2]
  cases (x.1 != 0) with
  | true=>exact⟨j1',j2⟩
  | false=>exact⟨k1.mono (by rw [GO e];omega),k2⟩
 | false=>
 cases (e.fOp==23&&x.1==0) with
 | true=>exact⟨i1',z⟩
 | false=>
 cases (e.fOp==24&&x.1 != 0) with
 | true=>exact⟨i1',one⟩
 | false=>
 unfold aa8
 cases ((kT (e.fKids.getD 1 dB) x.2.2).2.1 != 0) with
 | true=>exact⟨j1',z⟩
 | false=>simp_all [LA]
theorem GW{a b:Int}(h:a≠b):(a==b)=false:=by simp_all
theorem var_eq(F:Nat)(hF:5000<=F)(hm:Eo c m)(name:Bs):kD F name m=some ((Jp name m).1,(Jp name m).2.1):=by
 unfold kD Jq Jp wx;have:=hm.get name
 grind [af2,fZ,cV]
theorem ake(name:Bs)(m:Env):(Jp name m).2.2=m:=by
 unfold Jp
 grind
theorem XZ:∀e,Good e->bL fun F n=>∀c m,Eo c m->jA F n e m=some (kT e m):=by
 apply Good.ind;intro e g ih;refine bL.succ (bL.succ (((bL.all ih).and (bL.all ih).up).kS (bL.ge (p:=fun F _=>5000<=F) 5000 fun F n h _=>h) fun F n hi hF c m hm=>?_));obtain⟨ih,ih'⟩:=hi;show rL F (jA F (n+1)) (mO F (n+1)) e m=_;have ha:∀m,mO F (n+1) e m=qJ F (jA F n) (mO F n) e m:=fun m=>rfl;rw [Ur];unfold rL evB wx
 cases h1:(e.fOp==1) with
 | true=>rfl
 | false=>
 cases h2:(e.fOp==2) with
 | true=>
  simp only [aZ,aK]
  grind [var_eq,ake,Prod.ext]
 | false=>
 simp only [gK] at h1 h2;have hl:0<e.fKids.length:=by rcases g.shape with h|h|h|h|h|h<;>omega
 obtain⟨g0,m0⟩:=g.Fo hl;obtain⟨i1,i2⟩:=OG _ g0 c m hm;have e0:decide (0<(e.fKids.length:Int))=true:=dW om;simp only [aK,e0,gJ];rw [Fm _ 0 hl,ih' _ m0 c m hm]
 cases Il:(e.fOp==26) with
 | true=>
  have arh:e.fOp=26:=by simpa using Il
  simp only [aZ,TExpr.eta];rw [ha];unfold qJ wx;rw [e0,ih _ m0 c m hm];simp only [gJ,aC];generalize kT (e.fKids.getD 0 dB) m=x at i1 i2⊢
  cases (x.2.1 != 0) with
  | true=>rfl
  | false=>
   simp only [aK];rw [var_eq F hF i1];unfold OE Db
   cases (e.fN != 0) with
   | false=>
    simp_all [aK,jj,aC,sm,aa9]
   | true=>
    simp only [aZ,aC];unfold Jp
    cases (!(ue (fZ cV x.2.2 e.fName [])).2) with
    | true=>rfl
    | false=>
     have hr:=LA e.fN (LB (fZ cV x.2.2 e.fName [])) i2;simp only [aK,M8];rw [Xu];simp only [aC]
     cases ((ud e.fN (ue (fZ cV x.2.2 e.fName [])).1 x.1).2 != 0) with
     | true=>rfl
     | false=>
      simp_all [aK,jj,aC,sm,aa9]
 | false=>
 simp only [gK] at Il;simp only [aK,aC];generalize kT (e.fKids.getD 0 dB) m=x at i1 i2⊢
 cases (x.2.1 != 0) with
 | true=>rfl
 | false=>
 simp only [aK]
 have hun:(cond (e.fOp==3) (some (e.fOp==3)) (cond (e.fOp==4) (some (e.fOp==4)) (cond (e.fOp==5) (some (e.fOp==5)) (some (e.fOp==6)))):O Bool)=some (decide (3<=e.fOp)&&decide (e.fOp<=6)):=by
  by_cases h:3<=e.fOp/\e.fOp<=6
  ·have:e.fOp=3\/e.fOp=4\/e.fOp=5\/e.fOp=6:=om
   grind
  ·rw [GW (show e.fOp≠3 by omega),GW (show e.fOp≠4 by omega),GW (show e.fOp≠5 by omega),GW (show e.fOp≠6 by omega)]
   simp_all
 rw [hun];simp only [aC]
 cases Ze:(decide (3<=e.fOp)&&decide (e.fOp<=6)) with
 | true=>
  simp_all [aZ,akc,aC,jj,sm]
 | false=>
 have akd:¬ (3<=e.fOp/\e.fOp<=6):=by
  simp_all
 simp only [aK];have hl1:1<e.fKids.length:=by rcases g.shape with h|h|h|h|h|h<;>omega
 obtain⟨g1,m1⟩:=g.Fo hl1;have e1:decide (1<(e.fKids.length:Int))=true:=dW om;have f1:=ih' _ m1 _ x.2.2 i1;rw [Fm _ 1 hl1,e1,f1]
 cases Xr:(e.fOp==25) with
 | true=>
  have aoC:e.fOp=25:=by simpa using Xr
  have hl2:2<e.fKids.length:=by rcases g.shape with h|h|h|h|h|h<;>omega
  obtain⟨g2,m2⟩:=g.Fo hl2;have e2:decide (2<(e.fKids.length:Int))=true:=dW om;rw [Fm _ 2 hl2,e2,ih' _ m2 _ x.2.2 i1];simp only [aZ,gJ,aC]
  cases (x.1 != 0)<;>rfl
 | false=>
 simp only [aK,gJ,aC];have hx:(x.1 != 0)=!(x.1==0):=rfl;unfold aa8
 have fin:((some (kT (e.fKids.getD 1 dB) x.2.2)).bind fun x9=>cond (x9.2.1 != 0) (some (0,x9.2.1,x9.2.2)) ((uQ F e.fOp x.1 x9.1).bind fun cq=>some (cq.1,cq.2,x9.2.2)))=some (cond ((kT (e.fKids.getD 1 dB) x.2.2).2.1 != 0) (0,(kT (e.fKids.getD 1 dB) x.2.2).2.1,(kT (e.fKids.getD 1 dB) x.2.2).2.2) ((ud e.fOp x.1 (kT (e.fKids.getD 1 dB) x.2.2).1).1,(ud e.fOp x.1 (kT (e.fKids.getD 1 dB) x.2.2).1).2,(kT (e.fKids.getD 1 dB) x.2.2).2.2)):=by
  grind [Xu]
 simp only [aC] at fin
 cases h23:(e.fOp==23) with
 | true=>
  have Ui:(e.fOp==24)=false:=GW (by simp_all);rw [Ui,hx]
  cases (x.1==0) with
  | true=>rfl
  | false=>exact fin
 | false=>
  rw [hx]
  cases Ui:(e.fOp==24) with
  | true=>
   cases (x.1==0) with
   | true=>exact fin
   | false=>rfl
  | false=>exact fin
theorem af3(F:Nat)(hF:200000<=F)(hm:Eo c m)(hc:c<=100000)(g:Good e)(Il:e.fOp=26){a:Int}(ha:gG a):
  It F (TExpr.mk e.fOp e.fN e.fName e.fKids) a (tE m)=some ((OE e.fN e.fName (a,0,m)).1,tE (OE e.fN e.fName (a,0,m)).2.2,(OE e.fN e.fName (a,0,m)).2.1):=by
 rw [TExpr.eta];unfold It OE wx;have hlen:(tE m).length<=100000:=by rw [VX];have:=hm.len;omega
 have hg:=hm.get e.fName;rw [OC F _ _ om om,OD];simp;rw [Xv F _ om om]
 have mL:∀n:Int,gG n->((dJ F n).bind fun x5=>(Bn F (tE m) e.fName x5).bind fun x6=>some (n,x6,(0:Int)))=some (n,tE (jI cV m e.fName (Lib.itoa n)),0):=fun n hn=>by
  rw [Kk F om hn];simp;rw [bind_eq F _ _ _ om om,adz hm.nd];rfl
 cases hn:(e.fN != 0) with
 | false=>
  simp_all [aK,jj,aC,sm]
 | true=>
  have hcomp:Bi e.fN=true:=by
   rcases g.facts.2.2.2.2 Il with h|h
   ·rw [h] at hn;cases hn
   ·exact h
  have hne:e.fN≠23/\e.fN≠24:=by
   unfold Bi at hcomp
   grind
  simp
  cases (ue (fZ cV m e.fName [])).2 with
  | false=>rfl
  | true=>
   have hr:=LA e.fN (LB (fZ cV m e.fName [])) ha;rw [ahY F _ _ _ hne.1 hne.2];simp
   cases ((ud e.fN (ue (fZ cV m e.fName [])).1 a).2 != 0) with
   | true=>rfl
   | false=>
    simp_all [aK,jj,aC,sm]
theorem acO:∀e,Good e->bL fun F n=>∀c m,Eo c m->c+nodes e<=100000->sW F n e (tE m)=some ((kT e m).1,tE (kT e m).2.2,(kT e m).2.1):=by
 apply Good.ind;intro e g ih;refine bL.succ ((bL.all ih).kS (bL.ge (p:=fun F _=>200000<=F) 200000 fun F n h _=>h) fun F n ih' hF c m hm hc=>?_);show GX F (sW F n) e (tE m)=_;rw [Ur];unfold GX evB wx
 cases h1:(e.fOp==1) with
 | true=>rfl
 | false=>
 cases h2:(e.fOp==2) with
 | true=>
  simp only [aZ,aK];have hlen:(tE m).length<=100000:=by rw [VX];have:=hm.len;omega
  have hg:=hm.get e.fName;rw [OC F _ _ om om,OD];simp only [aC];rw [Xv F _ om om];simp only [aC];unfold Jp
  grind
 | false=>
 simp only [gK] at h1 h2;have hl:0<e.fKids.length:=by rcases g.shape with h|h|h|h|h|h<;>omega
 obtain⟨g0,m0⟩:=g.Fo hl;have n0:=aba hl;obtain⟨i1,i2⟩:=OG _ g0 c m hm;have e0:decide (0<(e.fKids.length:Int))=true:=dW om;simp only [aK,e0,gJ];rw [Fm _ 0 hl,ih' _ m0 c m hm om];simp only [aC];generalize kT (e.fKids.getD 0 dB) m=x at i1 i2⊢
 cases hx0:(x.2.1 != 0) with
 | true=>rfl
 | false=>
 have hx0':x.2.1=0:=by simpa using hx0
 simp only [aK];have hun:(cond (decide (3<=e.fOp)) (some (decide (e.fOp<=6))) (some false):O Bool)=some (decide (3<=e.fOp)&&decide (e.fOp<=6)):=by grind
 rw [hun];simp only [aC]
 cases Ze:(decide (3<=e.fOp)&&decide (e.fOp<=6)) with
 | true=>
  have akd:3<=e.fOp/\e.fOp<=6:=by simpa using Ze
  have Il:(e.fOp==26)=false:=GW om;rw [Il]
  simp_all [aZ,aK,aoB]
 | false=>
 have akd:¬ (3<=e.fOp/\e.fOp<=6):=by
  simp_all
 simp only [aK]
 cases Il:(e.fOp==26) with
 | true=>
  have arh:e.fOp=26:=by simpa using Il
  simp only [aZ]
  grind [af3,Prod.ext]
 | false=>
 simp only [gK] at Il;simp only [aK];have hl1:1<e.fKids.length:=by rcases g.shape with h|h|h|h|h|h<;>omega
 obtain⟨g1,m1⟩:=g.Fo hl1;have n01:=Is (l:=e.fKids) (i:=0) (j:=1) om hl1;have ne:=GO e;have e1:decide (1<(e.fKids.length:Int))=true:=dW om;have f1:=ih' _ m1 _ x.2.2 i1 om;rw [Fm _ 1 hl1,e1,f1]
 cases Xr:(e.fOp==25) with
 | true=>
  have aoC:e.fOp=25:=by simpa using Xr
  have hl2:2<e.fKids.length:=by rcases g.shape with h|h|h|h|h|h<;>omega
  obtain⟨g2,m2⟩:=g.Fo hl2;have n02:=Is (l:=e.fKids) (i:=0) (j:=2) om hl2;have e2:decide (2<(e.fKids.length:Int))=true:=dW om;rw [Fm _ 2 hl2,e2,ih' _ m2 _ x.2.2 i1 om];simp only [aZ,gJ,aC]
  cases (x.1 != 0)<;>rfl
 | false=>
 simp only [aK,gJ,aC];have hx:(x.1 != 0)=!(x.1==0):=rfl;unfold aa8
 cases h23:(e.fOp==23) with
 | true=>
  have ari:e.fOp=23:=by simpa using h23
  have Ui:(e.fOp==24)=false:=GW om;rw [Ui,hx]
  cases h0:(x.1==0) with
  | true=>rfl
  | false=>
   simp only [aZ,aK,aC,SG,SH,Bo]
   cases ((kT (e.fKids.getD 1 dB) x.2.2).2.1 != 0) with
   | true=>rfl
   | false=>
    have:ud e.fOp x.1 (kT (e.fKids.getD 1 dB) x.2.2).1=(tr ((kT (e.fKids.getD 1 dB) x.2.2).1 != 0),0):=by
     rw [ari];show (tr (x.1 != 0&&(kT (e.fKids.getD 1 dB) x.2.2).1 != 0),(0:Int))=_;rw [hx,h0];rfl
    rw [this]
    rfl
 | false=>
  cases Ui:(e.fOp==24) with
  | true=>
   have arj:e.fOp=24:=by simpa using Ui
   rw [hx]
   cases h0:(x.1==0) with
   | false=>rfl
   | true=>
    simp only [aZ,aK,aC,SG,SH,Bo,je]
    cases ((kT (e.fKids.getD 1 dB) x.2.2).2.1 != 0) with
    | true=>rfl
    | false=>
     have:ud e.fOp x.1 (kT (e.fKids.getD 1 dB) x.2.2).1=(tr ((kT (e.fKids.getD 1 dB) x.2.2).1 != 0),0):=by
      rw [arj];show (tr (x.1 != 0||(kT (e.fKids.getD 1 dB) x.2.2).1 != 0),(0:Int))=_
      simp_all
     rw [this]
     rfl
  | false=>
   simp only [gK] at h23 Ui;simp only [aK,aC,SH]
   grind [ahY]
def xG(e:TExpr)(l:J cO):Int×J cO×Int:=
 cond (gW e 0 != 0) (0,[],gW e 0) (cond ((kT e (uc l)).2.1 != 0) (0,[],(kT e (uc l)).2.1) ((kT e (uc l)).1,tE (kT e (uc l)).2.2,0))
theorem Ml{α β:Type}(f:α->β):∀(l:J α)(t:J β),l.foldl (fun t k=>t++[f k]) t=t++l.map f
 | [],t=>by simp
 | x::l,t=>by rw [yg,Ml f l];simp
def Sj(l:J cO):Prop:=∀b,b∈l->b.fName.length<=60/\b.bS.length<=4096
theorem Us(e:TExpr):Vd e->Nms e:=by
 induction e using TExpr.ind with
 | h op n name kids ih=>
  intro v
  cases v with
  | mk _ _ _ _ h1 h2 h3 h4 h5 h6 h7=>
   refine .mk op n name kids ?_ fun k hk=>ih k hk (h7 k hk)
   cases hn:Lx op with
   | true=>
    have:=h6 hn;unfold rName at this
    grind
   | false=>
    simp_all
theorem abb(ho:iD e)(hl:l.length<=1000)(hb:Sj l)(hn:nodes e<=10000):bL fun F _=>DE F e l=some (xG e l):=by
 by_cases hv:gW e 0=0
 ·have g:Good e:=⟨Ip e 0 hv,ho,Us e (Ip e 0 hv)⟩
  refine (Kh ho).CD (XZ e g).fst (bL.ge 100000 fun F n h _=>h) fun F _ h1 h2 hF=>?_;unfold DE xG wx;simp only [TExpr.eta];rw [h1,hv];have hm:=GR hb;obtain⟨k1,k2⟩:=OG e g _ _ hm;refine C6 l (fun i (t:Env)=>((i:Int),t)) (fun m b=>jI cV m b.fName b.bS) (fun _ _=>True) om rfl trivial ?_ (fun _ _ _ _=>trivial) ?_
  ·intro i h t rc _
   simp only [xU h,bZ,gd h,bx (i:=i) om];rfl
  ·intro rc _
   simp only [GM];show ((jA F F e (uc l)).bind _)=_;rw [h2 _ _ hm];simp only [aC];generalize kT e (uc l)=x at k1 k2⊢
   cases (x.2.1 != 0) with
   | true=>rfl
   | false=>
    rw [ap1 k1 om]
    have hks:(rZ (x.2.2.map (·.1))).length<=11000:=by
     rw [(Bh _).length_eq,lW];have:=k1.len;omega
    refine C6 (rZ (x.2.2.map (·.1))) (fun i (t:J cO)=>(t,(i:Int))) (fun t k=>t++[Bk x.2.2 k]) (fun i t=>t.length<=i) om rfl si ?_ ?_ ?_
    ·intro i h t rc hI
     simp only [xU h,bZ,gd h,bx (i:=i) om];rw [fu bz om];rfl
    ·simp_all
    ·intro rc _
     simp only [GM];rw [Ml];rfl
 ·refine (Kh ho).mono fun F _ h1=>?_
  unfold DE xG wx;simp
  grind
theorem Kl(ho:iD e):bL fun F _=>Dc F e=some (gW e 0):=
 (Rc ho).fst.mono fun F _ h=>by
  unfold Dc Rh wx
  simp_all
theorem acP(ho:iD e)(hl:l.length<=1000)(hb:Sj l)(hn:nodes e<=10000):bL fun F _=>Br F e l=some (xG e l):=by
 by_cases hv:gW e 0=0
 ·have g:Good e:=⟨Ip e 0 hv,ho,Us e (Ip e 0 hv)⟩
  refine (Kl ho).CD (acO e g).fst (bL.ge 100000 fun F n h _=>h) fun F _ h1 h2 hF=>?_;unfold Br xG wx;simp;rw [h1,hv];rw [ahW F l om hl hb];show ((sW F F e (tE (uc l))).bind _)=_;rw [h2 _ _ (GR hb) om]
  grind
 ·refine (Kl ho).mono fun F _ h1=>?_
  unfold Br xG wx;simp
  grind
theorem ahZ(ho:iD e)(hl:l.length<=1000)(hb:Sj l)(hn:nodes e<=10000):(xG e l).2.1.length<=100000:=by
 unfold xG
 cases hv:(gW e 0 != 0) with
 | true=>simp
 | false=>
  have jt:gW e 0=0:=by simpa using hv
  have g:Good e:=⟨Ip e 0 jt,ho,Us e (Ip e 0 jt)⟩;obtain⟨k1,k2⟩:=OG e g _ _ (GR hb)
  cases ((kT e (uc l)).2.1 != 0) with
  | true=>simp
  | false=>
   simp;rw [VX];have:=k1.len;omega
def ah0:J (Bs×Int×Int):=[([124,124],3,24),([38,38],4,23),([124],5,22),([94],6,21),([38],7,20),([61,61],8,18),([33,61],8,19),([60],9,14),([62],9,15),([60,61],9,16),([62,61],9,17),([60,60],10,12),([62,62],10,13),([43],11,10),([45],11,11),([42],12,7),([47],12,8),([37],12,9)]
def gu(x:Bs):Int×Int:=match ah0.find? (fun p=>p.1==x) with|some p=>p.2|none=>(0,0)
def aoD:J (Bs×Int):=[([61],0),([43,61],10),([45,61],11),([42,61],7),([47,61],8),([37,61],9),([60,60,61],12),([62,62,61],13),([38,61],20),([94,61],21),([124,61],22)]
def sX(x:Bs):Int:=match aoD.find? (fun p=>p.1==x) with|some p=>p.2|none=>-1
def uD(x:Bs):Int:=cond (x==[45]) 3 (cond (x==[43]) 4 (cond (x==[33]) 5 (cond (x==[126]) 6 0)))
structure Tab(x:Bs):Prop where
 bin:∀G s p,jQ (G+20) s 3 p x=some (gu x)
 asg:∀G p,qj (G+20) ⟨3,p,x⟩=some (cond (sX x == -1) 0 (sX x),!(sX x == -1))
 asr:∀G,ry (G+20) x=some (sX x)
 bir:∀G l,kU (G+20) x l=some (cond ((gu x).1==l) (gu x).2 0)
 lv:0<=(gu x).1/\(gu x).1<=12/\((gu x).1=0\/3<=(gu x).1)
 op:(gu x).1≠0->7<=(gu x).2/\(gu x).2<=24/\(lQ (gu x).2).1=(gu x).1/\(lQ (gu x).2).2=x
variable{x:Bs}
theorem akf(h:gu x=(0,0))(hr:∀G l,kU (G+20) x l=some 0):∀G l,kU (G+20) x l=some (cond ((gu x).1==l) (gu x).2 0):=by
 simp_all
theorem akg{lv op:Int}(h:gu x=(lv,op))(hr:∀G l,kU (G+20) x l=cond (lv==l) (some op) (some 0)):∀G l,kU (G+20) x l=some (cond ((gu x).1==l) (gu x).2 0):=by
 grind
theorem amw:∀x,x∈([]::pL)->Tab x:=by
 intro x hx;simp [pL,zj,afW] at hx
 rcases hx with rfl|rfl|rfl|rfl|rfl|rfl|rfl|rfl|rfl|rfl|rfl|rfl|rfl|rfl|rfl|rfl|rfl|rfl|rfl|rfl|rfl|rfl|rfl|rfl|rfl|rfl|rfl|rfl|rfl|rfl|rfl|rfl|rfl|rfl|rfl|rfl<;>
  exact⟨fun G s p=>by kernel_rfl,fun G p=>by kernel_rfl,fun G=>by kernel_rfl,(by first|exact akf de (fun G l=>by kernel_rfl)|exact akg rfl (fun G l=>by kernel_rfl)),de,de⟩
def kd(s:Bs)(i:Nat):Int:=(tZ s i).dI
def tx(s:Bs)(i:Nat):Bs:=(tZ s i).dm
def sy(s:Bs)(i:Nat):Bs:=nK (s.drop (skip s i))
def nx(s:Bs)(i:Nat):Nat:=skip s i+(tx s i).length
inductive ark(s:Bs)(i:Nat):Prop
 | fin (h:tZ s i=⟨0,skip s i,[]⟩) (hs:sy s i=[]) (hw:kq s (skip s i)=[]) (he:s.length<=skip s i)
 | num (w:Bs) (b:UInt8) (h:tZ s i=⟨1,skip s i,b::w⟩) (hs:sy s i=[]) (hw:kq s (skip s i)=b::w) (hd:dg b=true) (hl:skip s i+(b::w).length<=s.length)
 | nam (w:Bs) (b:UInt8) (h:tZ s i=⟨2,skip s i,b::w⟩) (hs:sy s i=[]) (hw:kq s (skip s i)=b::w) (hd:le b=true) (hl:skip s i+(b::w).length<=s.length)
 | op (x:Bs) (h:tZ s i=⟨3,skip s i,x⟩) (hs:sy s i=x) (hw:kq s (skip s i)=[]) (hm:x∈pL) (hl:skip s i+x.length<=s.length)
 | oth (b:UInt8) (h:tZ s i=⟨4,skip s i,[b]⟩) (hs:sy s i=[]) (hw:kq s (skip s i)=[]) (hl:skip s i+1<=s.length)
theorem ah1:∀n:Fin 256,fo (UInt8.ofNat n.val)=true->∀o,o∈pL->[UInt8.ofNat n.val].isPrefixOf o=false:=by decide +kernel
theorem ap3(b:UInt8)(h:fo b=true):∀o,o∈pL->[b].isPrefixOf o=false:=
 Sh (P:=fun b=>fo b=true->∀o,o∈pL->[b].isPrefixOf o=false) ah1 b h
theorem akh(b:UInt8)(m:Bs)(h:fo b=true):nK (b::m)=[]:=by
 rcases OA (b::m) with h1|⟨h1,h2⟩
 ·exact h1
 ·have hne:=CG _ h1
  have:=ap3 b h _ h1;revert this h2 hne
  cases nK (b::m) with
  | nil=>simp_all
  | cons c o=>
   simp_all
theorem mo(s:Bs)(i:Nat)(hi:i<=s.length):ark s i:=by
 obtain⟨h1,h2⟩:=ic s i hi;have e1:tZ s i=Ul s (skip s i):=rfl;have e2:sy s i=nK (s.drop (skip s i)):=rfl;generalize hj:skip s i=j at h1 h2 e1 e2;unfold Ul at e1
 cases hd:s.drop j with
 | nil=>
  rw [hd] at e1 e2;refine .fin (by rw [hj];exact e1) e2 (by rw [hj];unfold kq;rw [hd];rfl) ?_
  simp_all
 | cons b m=>
  have hlen:(s.drop j).length=m.length+1:=by rw [hd];rfl
  rw [KJ] at hlen;rw [hd] at e1 e2;simp only [] at e1
  cases hf:fo b with
  | true=>
   have hw:kq s j=b::m.takeWhile fo:=by unfold kq;simp_all
   have hl:j+(b::m.takeWhile fo).length<=s.length:=by
    grind [zk,List.length_cons]
   rw [akh b m hf] at e2;rw [hf,hw] at e1
   cases hdg:dg b with
   | true=>rw [hdg] at e1;exact .num (m.takeWhile fo) b (by rw [hj];exact e1) e2 (by rw [hj];exact hw) hdg (by rw [hj];exact hl)
   | false=>
    rw [hdg] at e1;refine .nam (m.takeWhile fo) b (by rw [hj];exact e1) e2 (by rw [hj];exact hw) ?_ (by rw [hj];exact hl)
    simp_all [alr]
  | false=>
   have hw:kq s j=[]:=by unfold kq;simp_all
   rw [hf] at e1;rcases OA (b::m) with ho|⟨ho1,ho2⟩
   ·rw [ho] at e1 e2
    exact .oth b (by rw [hj];exact e1) e2 (by rw [hj];exact hw) (by rw [hj];omega)
   ·have hne:=CG _ ho1
    have:(nK (b::m)==[])=false:=by simpa using hne
    rw [this] at e1;have hle:=ho2.length_le;simp at hle;exact .op (nK (b::m)) (by rw [hj];exact e1) e2 (by rw [hj];exact hw) ho1 (by rw [hj];omega)
theorem OH(s:Bs)(i:Nat):sy s i∈([]::pL):=by
 unfold sy
 grind [OA,List.mem_cons_of_mem]
theorem yR(s:Bs)(i:Nat):Tab (sy s i):=amw _ (OH s i)
theorem kI(s:Bs)(i:Nat)(hi:i<=s.length):nx s i<=s.length/\i<=nx s i/\(kd s i≠0->i<nx s i):=by
 obtain⟨h1,h2⟩:=ic s i hi;unfold nx tx kd;rcases mo s i hi with⟨h,_,_,_⟩|⟨w,b,h,_,_,_,hl⟩|⟨w,b,h,_,_,_,hl⟩|⟨x,h,_,_,hm,hl⟩|⟨b,h,_,_,hl⟩<;>rw [h]<;>simp at *
 ·simp_all
 ·grind
 ·grind
 ·have:x.length≠0:=by
   simp_all [CG]
  grind
 grind
theorem Bt(s:Bs)(i:Nat)(hi:i<=s.length)(h:sy s i≠[]):kd s i=3/\tx s i=sy s i:=by
 unfold kd tx;rcases mo s i hi with⟨h',hs,_,_⟩|⟨w,b,h',hs,_,_,hl⟩|⟨w,b,h',hs,_,_,hl⟩|⟨x,h',hs,_,hm,hl⟩|⟨b,h',hs,_,hl⟩
 ·exact absurd hs h
 ·exact absurd hs h
 ·exact absurd hs h
 ·simp_all
 ·exact absurd hs h
inductive vj
 | ok (e:TExpr) (j:Nat)
 | err (p:Nat) (c:Int)
inductive nH
 | expr
 | cond
 | oper (l:Int)
 | loop (l:Int) (a:TExpr)
 | un
 | nW
def jy(s:Bs)(i:Nat):Int:=cond (kd s i==2) (sX (sy s (nx s i))) (-1)
inductive D(s:Bs):nH->Nat->vj->Prop
 | Bu {i:Nat} {r:vj} (h:jy s i=-1) (d:D s .cond i r):D s .expr i r
 | Bv {i:Nat} (h:jy s i≠-1) (hn:rName (tx s i)=false):D s .expr i (.err (skip s i) 10)
 | Fp {i j:Nat} {e:TExpr} (h:jy s i≠-1) (hn:rName (tx s i)=true) (d:D s .expr (nx s (nx s i)) (.ok e j)):D s .expr i (.ok (.mk 26 (jy s i) (tx s i) [e]) j)
 | Fq {i p:Nat} {c:Int} (h:jy s i≠-1) (hn:rName (tx s i)=true) (d:D s .expr (nx s (nx s i)) (.err p c)):D s .expr i (.err p c)
 | Fs {i p:Nat} {c:Int} (d:D s (.oper 3) i (.err p c)):D s .cond i (.err p c)
 | Ft {i j:Nat} {a:TExpr} (d:D s (.oper 3) i (.ok a j)) (h:sy s j≠[63]):D s .cond i (.ok a j)
 | Fu {i j p:Nat} {c:Int} {a:TExpr} (d:D s (.oper 3) i (.ok a j)) (h:sy s j=[63]) (d2:D s .expr (nx s j) (.err p c)):D s .cond i (.err p c)
 | Fv {i j k:Nat} {a b:TExpr} (d:D s (.oper 3) i (.ok a j)) (h:sy s j=[63]) (d2:D s .expr (nx s j) (.ok b k)) (h2:sy s k≠[58]):D s .cond i (.err (skip s k) 6)
 | LC {i j k p:Nat} {c:Int} {a b:TExpr} (d:D s (.oper 3) i (.ok a j)) (h:sy s j=[63]) (d2:D s .expr (nx s j) (.ok b k)) (h2:sy s k=[58]) (d3:D s .cond (nx s k) (.err p c)):D s .cond i (.err p c)
 | Fw {i j k m:Nat} {a b e:TExpr} (d:D s (.oper 3) i (.ok a j)) (h:sy s j=[63]) (d2:D s .expr (nx s j) (.ok b k)) (h2:sy s k=[58]) (d3:D s .cond (nx s k) (.ok e m)):D s .cond i (.ok (.mk 25 0 [] [a,b,e]) m)
 | Ut {l:Int} {i p:Nat} {c:Int} (d:D s .un i (.err p c)):D s (.oper l) i (.err p c)
 | VY {l:Int} {i j:Nat} {a:TExpr} {r:vj} (d:D s .un i (.ok a j)) (d2:D s (.loop l a) j r):D s (.oper l) i r
 | wB {l:Int} {i:Nat} {a:TExpr} (h:(gu (sy s i)).1<l):D s (.loop l a) i (.ok a i)
 | Dd {l:Int} {i p:Nat} {c:Int} {a:TExpr} (h:l<=(gu (sy s i)).1) (d:D s (.oper ((gu (sy s i)).1+1)) (nx s i) (.err p c)):D s (.loop l a) i (.err p c)
 | GY {l:Int} {i j:Nat} {a b:TExpr} {r:vj} (h:l<=(gu (sy s i)).1) (d:D s (.oper ((gu (sy s i)).1+1)) (nx s i) (.ok b j)) (d2:D s (.loop l (.mk (gu (sy s i)).2 0 [] [a,b])) j r):D s (.loop l a) i r
 | Bw {i:Nat} {r:vj} (h:uD (sy s i)=0) (d:D s .nW i r):D s .un i r
 | Fx {i p:Nat} {c:Int} (h:uD (sy s i)≠0) (d:D s .un (nx s i) (.err p c)):D s .un i (.err p c)
 | LF {i j:Nat} {a:TExpr} (h:uD (sy s i)≠0) (d:D s .un (nx s i) (.ok a j)):D s .un i (.ok (.mk (uD (sy s i)) 0 [] [a]) j)
 | Fy {i:Nat} (h:kd s i=1) (hv:(oP (tx s i)).2=0):D s .nW i (.ok (.mk 1 (oP (tx s i)).1 [] []) (nx s i))
 | Bx {i:Nat} (h:kd s i=1) (hv:(oP (tx s i)).2≠0):D s .nW i (.err (skip s i) (oP (tx s i)).2)
 | Fz {i:Nat} (h:kd s i=2) (hv:rName (tx s i)=true):D s .nW i (.ok (.mk 2 0 (tx s i) []) (nx s i))
 | Bz {i:Nat} (h:kd s i=2) (hv:rName (tx s i)=false):D s .nW i (.err (skip s i) 10)
 | FA {i:Nat} (h1:kd s i≠1) (h2:kd s i≠2) (h:sy s i≠[40]):D s .nW i (.err (skip s i) 6)
 | LG {i p:Nat} {c:Int} (h:sy s i=[40]) (d:D s .expr (nx s i) (.err p c)):D s .nW i (.err p c)
 | xH {i j:Nat} {e:TExpr} (h:sy s i=[40]) (d:D s .expr (nx s i) (.ok e j)) (h2:sy s j≠[41]):D s .nW i (.err (skip s j) 6)
 | LH {i j:Nat} {e:TExpr} (h:sy s i=[40]) (d:D s .expr (nx s i) (.ok e j)) (h2:sy s j=[41]):D s .nW i (.ok e (nx s j))
def nH.aoE:nH->Bool
 | .loop _ _=>true
 | _=>false
def ap4(s:Bs)(c:nH)(i:Nat):vj->Prop
 | .ok e j=>i<=j/\j<=s.length/\(c.aoE=false->i<j)
 | .err p _=>p<=s.length
variable{s:Bs}
theorem OI(h:jy s i≠-1):kd s i=2/\sX (sy s (nx s i))≠-1/\jy s i=sX (sy s (nx s i)):=by
 unfold jy at h⊢
 grind
theorem abc(h:sX x≠-1):x≠[]:=fun e=>h (by rw [e];rfl)
theorem zL{l:Int}(hl:0<l)(h:l<=(gu x).1):x≠[]:=fun e=>by rw [e] at h;simp [gu,ah0] at h;omega
theorem z7(h:uD x≠0):x≠[]:=fun e=>h (by rw [e];rfl)
def nH.okL:nH->Prop
 | .oper l=>0<l
 | .loop l _=>0<l
 | _=>True
theorem dH(hi:i<=s.length)(h:sy s i≠[]):nx s i<=s.length/\i<nx s i:=by
 simp_all [kI,Bt]
theorem wC(hi:i<=s.length)(h:jy s i≠-1):nx s i<=s.length/\i<nx s i/\nx s (nx s i)<=s.length/\i<nx s (nx s i):=by
 grind [OI,kI,dH,abc]
variable{r:vj}
theorem mq{c:nH}(d:D s c i r):i<=s.length->c.okL->ap4 s c i r:=by
 induction d with
 | @Bu i r h d ih=>
  intro hi _;have:=ih hi trivial
  cases r with
  | ok e j=>exact this
  | err p c=>exact this
 | Bv h hn=>intro hi _;exact (ic s _ hi).1
 | Fp h hn d ih=>
  intro hi _;obtain⟨a,b,c,e⟩:=wC hi h;obtain⟨x,y,z⟩:=ih c trivial
  exact⟨om,y,fun _=>om⟩
 | Fq h hn d ih=>intro hi _;exact ih (wC hi h).2.2.1 trivial
 | Fs d ih=>intro hi _;exact ih hi (show (0:Int)<3 by decide)
 | Ft d h ih=>intro hi _;exact ih hi (show (0:Int)<3 by decide)
 | Fu d h d2 ih ih2=>
  intro hi _;obtain⟨x,y,z⟩:=ih hi (show (0:Int)<3 by decide)
  exact ih2 (dH y (by rw [h];decide)).1 trivial
 | Fv d h d2 h2 ih ih2=>
  intro hi _;obtain⟨x,y,z⟩:=ih hi (show (0:Int)<3 by decide);obtain⟨x2,y2,z2⟩:=ih2 (dH y (by rw [h];decide)).1 trivial
  exact (ic s _ y2).1
 | LC d h d2 h2 d3 ih ih2 ih3=>
  intro hi _;obtain⟨x,y,z⟩:=ih hi (show (0:Int)<3 by decide);obtain⟨x2,y2,z2⟩:=ih2 (dH y (by rw [h];decide)).1 trivial
  exact ih3 (dH y2 (by rw [h2];decide)).1 trivial
 | Fw d h d2 h2 d3 ih ih2 ih3=>
  intro hi _;obtain⟨x,y,z⟩:=ih hi (show (0:Int)<3 by decide);obtain⟨m1,m2⟩:=dH y (by rw [h];decide);obtain⟨x2,y2,z2⟩:=ih2 m1 trivial;obtain⟨m3,m4⟩:=dH y2 (by rw [h2];decide);obtain⟨x3,y3,z3⟩:=ih3 m3 trivial
  exact⟨om,y3,fun _=>om⟩
 | Ut d ih=>intro hi _;exact ih hi trivial
 | @VY l i j a r d d2 ih ih2=>
  intro hi hl;obtain⟨x,y,z⟩:=ih hi trivial;have:=ih2 y hl
  cases r with
  | ok e j=>
   obtain⟨x2,y2,_⟩:=this;have:=z rfl
   exact⟨om,y2,fun _=>om⟩
  | err p c=>exact this
 | wB h=>intro hi _;exact⟨ek _,hi,fun h=>by cases h⟩
 | @Dd l i p c a h d ih=>
  intro hi hl;have hl:0<l:=hl
  exact ih (dH hi (zL hl h)).1 (show (0:Int)<_ by omega)
 | @GY l i j a b r h d d2 ih ih2=>
  intro hi hl;have hl':0<l:=hl;obtain⟨m1,m2⟩:=dH hi (zL hl' h);obtain⟨x,y,z⟩:=ih m1 (show (0:Int)<_ by omega);have:=ih2 y hl
  cases r with
  | ok e j=>
   obtain⟨x2,y2,_⟩:=this
   exact⟨om,y2,fun h=>by cases h⟩
  | err p c=>exact this
 | @Bw i r h d ih=>
  intro hi _;have:=ih hi trivial
  cases r with
  | ok e j=>exact this
  | err p c=>exact this
 | Fx h d ih=>intro hi _;exact ih (dH hi (z7 h)).1 trivial
 | LF h d ih=>
  intro hi _;obtain⟨m1,m2⟩:=dH hi (z7 h);obtain⟨x,y,z⟩:=ih m1 trivial
  exact⟨om,y,fun _=>om⟩
 | Fy h hv=>
  intro hi _;obtain⟨a,b,c⟩:=kI s _ hi;have c:=c (by rw [h];decide)
  exact⟨b,a,fun _=>c⟩
 | Bx h hv=>intro hi _;exact (ic s _ hi).1
 | Fz h hv=>
  intro hi _;obtain⟨a,b,c⟩:=kI s _ hi;have c:=c (by rw [h];decide)
  exact⟨b,a,fun _=>c⟩
 | Bz h hv=>intro hi _;exact (ic s _ hi).1
 | FA h1 h2 h=>intro hi _;exact (ic s _ hi).1
 | LG h d ih=>intro hi _;exact ih (dH hi (by rw [h];decide)).1 trivial
 | xH h d h2 ih=>
  intro hi _;obtain⟨x,y,z⟩:=ih (dH hi (by rw [h];decide)).1 trivial
  exact (ic s _ y).1
 | LH h d h2 ih=>
  intro hi _;obtain⟨m1,m2⟩:=dH hi (by rw [h];decide);obtain⟨x,y,z⟩:=ih m1 trivial;obtain⟨m3,m4⟩:=dH y (by rw [h2];decide);exact⟨om,m3,fun _=>om⟩
def nH.wD:nH->Nat
 | .expr=>4
 | .cond=>3
 | .oper _=>2
 | .loop _ _=>0
 | .un=>1
 | .nW=>0
theorem amx(s:Bs)(n:Nat):∀(c:nH)(i:Nat),i<=s.length->c.okL->(s.length-i)*5+c.wD<n->∃r,D s c i r:=by
 induction n with
 | zero=>intro c i _ _ h;omega
 | succ n ih=>
  intro c i hi hc hm
  cases c with
  | expr=>
   simp [nH.wD] at hm;by_cases h:jy s i=-1
   ·obtain⟨r,d⟩:=ih .cond i hi trivial (by simp [nH.wD];omega)
    exact⟨r,.Bu h d⟩
   ·obtain⟨_,_,m1,m2⟩:=wC hi h
    cases hn:rName (tx s i) with
    | false=>exact⟨_,.Bv h hn⟩
    | true=>
     obtain⟨r,d⟩:=ih .expr _ m1 trivial (by simp [nH.wD];omega)
     cases r with
     | ok e j=>exact⟨_,.Fp h hn d⟩
     | err p c=>exact⟨_,.Fq h hn d⟩
  | cond=>
   simp [nH.wD] at hm;have h3:=show (0:Int)<3 by decide
   obtain⟨r,d⟩:=ih (.oper 3) i hi h3 (by simp [nH.wD];omega)
   cases r with
   | err p c=>exact⟨_,.Fs d⟩
   | ok a j=>
    obtain⟨x,y,z⟩:=mq d hi h3;by_cases h:sy s j=[63]
    ·obtain⟨m1,m2⟩:=dH y (by rw [h];decide)
     obtain⟨r,d2⟩:=ih .expr _ m1 trivial (by simp [nH.wD];omega)
     cases r with
     | err p c=>exact⟨_,.Fu d h d2⟩
     | ok b k=>
      obtain⟨x2,y2,z2⟩:=mq d2 m1 trivial;by_cases h2:sy s k=[58]
      ·obtain⟨m3,m4⟩:=dH y2 (by rw [h2];decide)
       obtain⟨r,d3⟩:=ih .cond _ m3 trivial (by simp [nH.wD];omega)
       cases r with
       | err p c=>exact⟨_,.LC d h d2 h2 d3⟩
       | ok e m=>exact⟨_,.Fw d h d2 h2 d3⟩
      ·exact⟨_,.Fv d h d2 h2⟩
    ·exact⟨_,.Ft d h⟩
  | oper l=>
   simp [nH.wD] at hm;obtain⟨r,d⟩:=ih .un i hi trivial (by simp [nH.wD];omega)
   cases r with
   | err p c=>exact⟨_,.Ut d⟩
   | ok a j=>
    obtain⟨x,y,z⟩:=mq d hi trivial;obtain⟨r,d2⟩:=ih (.loop l a) j y hc (by simp [nH.wD];omega)
    exact⟨_,.VY d d2⟩
  | loop l a=>
   have hl:0<l:=hc;by_cases h:(gu (sy s i)).1<l
   ·exact⟨_,.wB h⟩
   ·have h:l<=(gu (sy s i)).1:=om
    obtain⟨m1,m2⟩:=dH hi (zL hl h);have ho:(nH.oper ((gu (sy s i)).1+1)).okL:=show (0:Int)<_ by omega
    obtain⟨r,d⟩:=ih (.oper ((gu (sy s i)).1+1)) _ m1 ho (by simp [nH.wD];omega)
    cases r with
    | err p c=>exact⟨_,.Dd h d⟩
    | ok b j=>
     obtain⟨x,y,z⟩:=mq d m1 ho;obtain⟨r,d2⟩:=ih (.loop l (.mk (gu (sy s i)).2 0 [] [a,b])) j y hc (by simp [nH.wD];omega)
     exact⟨_,.GY h d d2⟩
  | un=>
   simp [nH.wD] at hm;by_cases h:uD (sy s i)=0
   ·obtain⟨r,d⟩:=ih .nW i hi trivial (by simp [nH.wD];omega)
    exact⟨_,.Bw h d⟩
   ·obtain⟨m1,m2⟩:=dH hi (z7 h)
    obtain⟨r,d⟩:=ih .un _ m1 trivial (by simp [nH.wD];omega)
    cases r with
    | ok e j=>exact⟨_,.LF h d⟩
    | err p c=>exact⟨_,.Fx h d⟩
  | nW=>
   by_cases h1:kd s i=1
   ·by_cases hv:(oP (tx s i)).2=0
    ·exact⟨_,.Fy h1 hv⟩
    ·exact⟨_,.Bx h1 hv⟩
   ·by_cases h2:kd s i=2
    ·cases hv:rName (tx s i) with
     | true=>exact⟨_,.Fz h2 hv⟩
     | false=>exact⟨_,.Bz h2 hv⟩
    ·by_cases h:sy s i=[40]
     ·obtain⟨m1,m2⟩:=dH hi (by rw [h];decide)
      obtain⟨r,d⟩:=ih .expr _ m1 trivial (by simp [nH.wD];omega)
      cases r with
      | err p c=>exact⟨_,.LG h d⟩
      | ok e j=>
       by_cases h2:sy s j=[41]
       ·exact⟨_,.LH h d h2⟩
       ·exact⟨_,.xH h d h2⟩
     ·exact⟨_,.FA h1 h2 h⟩
theorem aoF(s:Bs)(i:Nat)(hi:i<=s.length):∃r,D s .expr i r:=amx s _ .expr i hi trivial (I5 _)
abbrev mG(s:Bs)(i:Nat):Int:=(gu (sy s i)).1
inductive VZ
 | expr
 | cond
 | level (l:Int)
 | loop (l:Int) (a:TExpr)
 | un
 | nW
inductive RD(s:Bs):VZ->Nat->vj->Prop
 | Bu {i:Nat} {r:vj} (h:jy s i=-1) (d:RD s .cond i r):RD s .expr i r
 | Bv {i:Nat} (h:jy s i≠-1) (hn:rName (tx s i)=false):RD s .expr i (.err (skip s i) 10)
 | Fp {i j:Nat} {e:TExpr} (h:jy s i≠-1) (hn:rName (tx s i)=true) (d:RD s .expr (nx s (nx s i)) (.ok e j)):RD s .expr i (.ok (.mk 26 (jy s i) (tx s i) [e]) j)
 | Fq {i p:Nat} {c:Int} (h:jy s i≠-1) (hn:rName (tx s i)=true) (d:RD s .expr (nx s (nx s i)) (.err p c)):RD s .expr i (.err p c)
 | Fs {i p:Nat} {c:Int} (d:RD s (.level 3) i (.err p c)):RD s .cond i (.err p c)
 | Ft {i j:Nat} {a:TExpr} (d:RD s (.level 3) i (.ok a j)) (h:sy s j≠[63]):RD s .cond i (.ok a j)
 | Fu {i j p:Nat} {c:Int} {a:TExpr} (d:RD s (.level 3) i (.ok a j)) (h:sy s j=[63]) (d2:RD s .expr (nx s j) (.err p c)):RD s .cond i (.err p c)
 | Fv {i j k:Nat} {a b:TExpr} (d:RD s (.level 3) i (.ok a j)) (h:sy s j=[63]) (d2:RD s .expr (nx s j) (.ok b k)) (h2:sy s k≠[58]):RD s .cond i (.err (skip s k) 6)
 | LC {i j k p:Nat} {c:Int} {a b:TExpr} (d:RD s (.level 3) i (.ok a j)) (h:sy s j=[63]) (d2:RD s .expr (nx s j) (.ok b k)) (h2:sy s k=[58]) (d3:RD s .cond (nx s k) (.err p c)):RD s .cond i (.err p c)
 | Fw {i j k m:Nat} {a b e:TExpr} (d:RD s (.level 3) i (.ok a j)) (h:sy s j=[63]) (d2:RD s .expr (nx s j) (.ok b k)) (h2:sy s k=[58]) (d3:RD s .cond (nx s k) (.ok e m)):RD s .cond i (.ok (.mk 25 0 [] [a,b,e]) m)
 | af4 {l:Int} {i:Nat} {r:vj} (hl:12<l) (d:RD s .un i r):RD s (.level l) i r
 | Y6 {l:Int} {i p:Nat} {c:Int} (h3:3<=l) (hl:l<=12) (d:RD s (.level (l+1)) i (.err p c)):RD s (.level l) i (.err p c)
 | aki {l:Int} {i j:Nat} {a:TExpr} {r:vj} (h3:3<=l) (hl:l<=12) (d:RD s (.level (l+1)) i (.ok a j)) (d2:RD s (.loop l a) j r):RD s (.level l) i r
 | wB {l:Int} {i:Nat} {a:TExpr} (h:mG s i≠l):RD s (.loop l a) i (.ok a i)
 | Dd {l:Int} {i p:Nat} {c:Int} {a:TExpr} (h:mG s i=l) (d:RD s (.level (l+1)) (nx s i) (.err p c)):RD s (.loop l a) i (.err p c)
 | GY {l:Int} {i j:Nat} {a b:TExpr} {r:vj} (h:mG s i=l) (d:RD s (.level (l+1)) (nx s i) (.ok b j)) (d2:RD s (.loop l (.mk (gu (sy s i)).2 0 [] [a,b])) j r):RD s (.loop l a) i r
 | Bw {i:Nat} {r:vj} (h:uD (sy s i)=0) (d:RD s .nW i r):RD s .un i r
 | Fx {i p:Nat} {c:Int} (h:uD (sy s i)≠0) (d:RD s .un (nx s i) (.err p c)):RD s .un i (.err p c)
 | LF {i j:Nat} {a:TExpr} (h:uD (sy s i)≠0) (d:RD s .un (nx s i) (.ok a j)):RD s .un i (.ok (.mk (uD (sy s i)) 0 [] [a]) j)
 | Fy {i:Nat} (h:kd s i=1) (hv:(oP (tx s i)).2=0):RD s .nW i (.ok (.mk 1 (oP (tx s i)).1 [] []) (nx s i))
 | Bx {i:Nat} (h:kd s i=1) (hv:(oP (tx s i)).2≠0):RD s .nW i (.err (skip s i) (oP (tx s i)).2)
 | Fz {i:Nat} (h:kd s i=2) (hv:rName (tx s i)=true):RD s .nW i (.ok (.mk 2 0 (tx s i) []) (nx s i))
 | Bz {i:Nat} (h:kd s i=2) (hv:rName (tx s i)=false):RD s .nW i (.err (skip s i) 10)
 | FA {i:Nat} (h1:kd s i≠1) (h2:kd s i≠2) (h:sy s i≠[40]):RD s .nW i (.err (skip s i) 6)
 | LG {i p:Nat} {c:Int} (h:sy s i=[40]) (d:RD s .expr (nx s i) (.err p c)):RD s .nW i (.err p c)
 | xH {i j:Nat} {e:TExpr} (h:sy s i=[40]) (d:RD s .expr (nx s i) (.ok e j)) (h2:sy s j≠[41]):RD s .nW i (.err (skip s j) 6)
 | LH {i j:Nat} {e:TExpr} (h:sy s i=[40]) (d:RD s .expr (nx s i) (.ok e j)) (h2:sy s j=[41]):RD s .nW i (.ok e (nx s j))
inductive Tl(s:Bs):Int->TExpr->Nat->vj->Prop
 | top {a:TExpr} {i:Nat}:Tl s 13 a i (.ok a i)
 | err {l:Int} {a:TExpr} {i p:Nat} {c:Int} (h3:3<=l) (hl:l<=12) (t:Tl s (l+1) a i (.err p c)):Tl s l a i (.err p c)
 | go {l:Int} {a b:TExpr} {i j:Nat} {r:vj} (h3:3<=l) (hl:l<=12) (t:Tl s (l+1) a i (.ok b j)) (d:RD s (.loop l b) j r):Tl s l a i r
theorem P9{s:Bs}{a:TExpr}{i:Nat}:∀(k:Nat)(l:Int),l+k=13->3<=l->mG s i<l->Tl s l a i (.ok a i)
 | 0,l,hk,_,_=>by
  obtain rfl:l=13:=om
  exact .top
 | k+1,l,hk,h3,h=>.go h3 om (P9 k (l+1) om om om) (.wB om)
theorem adB{l:Int}{a:TExpr}(t:Tl s l a i r):mG s i<l->r=.ok a i:=by
 induction t with
 | top=>intro _;rfl
 | err h3 hl t ih=>grind
 | @go l a b i j r h3 hl t d ih=>
  intro h;cases ih om
  cases d with
  | wB _=>rfl
  | Dd h' _=>simp_all
  | GY h' _ _=>simp_all
theorem af5{s:Bs}{a b:TExpr}{i j:Nat}(hd:RD s (.level (mG s i+1)) (nx s i) (.ok b j))(hj:mG s j<mG s i+1)(h12:mG s i<=12):
  ∀(k:Nat)(l:Int)(r:vj),l+k=mG s i->3<=l->Tl s l (.mk (gu (sy s i)).2 0 [] [a,b]) j r->Tl s l a i r
 | 0,l,r,hk,h3,t=>by
  have hk':mG s i=l:=om;rw [hk'] at hd hj h12;have hs:Tl s (l+1) a i (.ok a i):=P9 (13-(l+1)).toNat _ om om om;generalize hx:TExpr.mk (gu (sy s i)).2 0 [] [a,b]=x at t
  cases t with
  | top=>omega
  | err _ _ t=>cases adB t hj
  | go _ _ t d=>
   cases adB t hj;subst hx
   exact .go h3 h12 hs (.GY hk' hd d)
 | k+1,l,r,hk,h3,t=>by
  generalize hx:TExpr.mk (gu (sy s i)).2 0 [] [a,b]=x at t
  cases t with
  | top=>omega
  | err _ _ t=>subst hx;exact .err h3 om (af5 hd hj h12 k (l+1) _ om om t)
  | go _ _ t d=>subst hx;exact .go h3 om (af5 hd hj h12 k (l+1) _ om om t) d
theorem ah2{s:Bs}{a:TExpr}{i p:Nat}{c:Int}(hd:RD s (.level (mG s i+1)) (nx s i) (.err p c))(h12:mG s i<=12):
  ∀(k:Nat)(l:Int),l+k=mG s i->3<=l->Tl s l a i (.err p c)
 | 0,l,hk,h3=>by
  obtain rfl:l=mG s i:=om
  exact .go h3 h12 (P9 (13-(mG s i+1)).toNat _ om om om) (.Dd rfl hd)
 | k+1,l,hk,h3=>.err h3 om (ah2 hd h12 k (l+1) om om)
theorem akj{a:TExpr}(hu:RD s .un i (.ok a j)){l:Int}(t:Tl s l a j r):RD s (.level l) i r:=by
 induction t with
 | top=>exact .af4 om hu
 | err h3 hl t ih=>exact .Y6 h3 hl (ih hu)
 | go h3 hl t d ih=>exact .aki h3 hl (ih hu) d
theorem Xw{s:Bs}{i p:Nat}{c:Int}(hu:RD s .un i (.err p c)):∀(k:Nat)(l:Int),l+k=13->3<=l->RD s (.level l) i (.err p c)
 | 0,l,hk,_=>.af4 om hu
 | k+1,l,hk,h3=>.Y6 h3 om (Xw hu k (l+1) om om)
theorem amy{c:nH}(d:D s c i r):∀l,(c=.oper l\/∃a,c=.loop l a)->∀e j,r=.ok e j->mG s j<l:=by
 induction d with
 | VY d d2 ih ih2=>
  simp_all
 | wB h=>
  simp_all
 | GY h d d2 ih ih2=>
  simp_all
 | _=>simp_all
def MR(s:Bs):nH->Nat->vj->Prop
 | .expr,i,r=>RD s .expr i r
 | .cond,i,r=>RD s .cond i r
 | .oper l,i,r=>3<=l->l<=13->RD s (.level l) i r
 | .loop l a,i,r=>3<=l->l<=13->Tl s l a i r
 | .un,i,r=>RD s .un i r
 | .nW,i,r=>RD s .nW i r
theorem arl{c:nH}(d:D s c i r):MR s c i r:=by
 induction d with
 | Bu h d ih=>exact .Bu h ih
 | Bv h hn=>exact .Bv h hn
 | Fp h hn d ih=>exact .Fp h hn ih
 | Fq h hn d ih=>exact .Fq h hn ih
 | Fs d ih=>exact .Fs (ih de de)
 | Ft d h ih=>exact .Ft (ih de de) h
 | Fu d h d2 ih ih2=>exact .Fu (ih de de) h ih2
 | Fv d h d2 h2 ih ih2=>exact .Fv (ih de de) h ih2 h2
 | LC d h d2 h2 d3 ih ih2 ih3=>exact .LC (ih de de) h ih2 h2 ih3
 | Fw d h d2 h2 d3 ih ih2 ih3=>exact .Fw (ih de de) h ih2 h2 ih3
 | @Ut l i p c d ih=>exact fun h3 Xq=>Xw ih (13-l).toNat l om h3
 | VY d d2 ih ih2=>exact fun h3 Xq=>akj ih (ih2 h3 Xq)
 | @wB l i a h=>exact fun h3 Xq=>P9 (13-l).toNat l om h3 h
 | @Dd l i p c a h d ih=>
  intro h3 Xq;have hlv:0<=mG s i/\mG s i<=12/\(mG s i=0\/3<=mG s i):=(yR s i).lv;have h:l<=mG s i:=h
  exact ah2 (ih (show 3<=mG s i+1 by omega) (show mG s i+1<=13 by omega)) hlv.2.1 (mG s i-l).toNat l om h3
 | @GY l i j a b r h d d2 ih ih2=>
  intro h3 Xq;have hlv:0<=mG s i/\mG s i<=12/\(mG s i=0\/3<=mG s i):=(yR s i).lv;have h:l<=mG s i:=h
  exact af5 (ih (show 3<=mG s i+1 by omega) (show mG s i+1<=13 by omega)) (amy d _ (.inl rfl) _ _ rfl) hlv.2.1 (mG s i-l).toNat l r om h3 (ih2 h3 Xq)
 | Bw h d ih=>exact .Bw h ih
 | Fx h d ih=>exact .Fx h ih
 | LF h d ih=>exact .LF h ih
 | Fy h hv=>exact .Fy h hv
 | Bx h hv=>exact .Bx h hv
 | Fz h hv=>exact .Fz h hv
 | Bz h hv=>exact .Bz h hv
 | FA h1 h2 h=>exact .FA h1 h2 h
 | LG h d ih=>exact .LG h ih
 | xH h d h2 ih=>exact .xH h ih h2
 | LH h d h2 ih=>exact .LH h ih h2
abbrev RA:=(TExpr×Bs×Int×Int×Bs) ⊕ (dP×Bs×Int×Int×Bs)
abbrev SA:=Bs×Int×Int×Bs×Int×Int×Bs×(J TExpr)
def po(s:Bs)(i:Nat):Int:=(skip s i:Int)
def kV(s:Bs):vj->O RA->Prop
 | .ok e j,x=>x=some (.inl (e,s,kd s j,po s j,tx s j))
 | .err p c,x=>∃st,x=some (.inr (⟨p,c⟩,st))
def BA(F:Nat)(r:Int->Bs->Int->Int->Bs->O RA)(l:Int):(SA->O RA)->SA->O RA:=
 (fun gP x2=>
 (jQ F x2.1 x2.2.1 x2.2.2.1 x2.2.2.2.1).bind fun x4=>
 cond (decide (x4.1<l))
 (some (.inl ((TExpr.mk ((TExpr.mk x2.2.2.2.2.1 x2.2.2.2.2.2.1 x2.2.2.2.2.2.2.1 x2.2.2.2.2.2.2.2).fOp) ((TExpr.mk x2.2.2.2.2.1 x2.2.2.2.2.2.1 x2.2.2.2.2.2.2.1 x2.2.2.2.2.2.2.2).fN) ((TExpr.mk x2.2.2.2.2.1 x2.2.2.2.2.2.1 x2.2.2.2.2.2.2.1 x2.2.2.2.2.2.2.2).fName) ((TExpr.mk x2.2.2.2.2.1 x2.2.2.2.2.2.1 x2.2.2.2.2.2.2.1 x2.2.2.2.2.2.2.2).fKids)),x2.1,x2.2.1,x2.2.2.1,x2.2.2.2.1)))
 ((eS F x2.1 x2.2.1 x2.2.2.1 x2.2.2.2.1).bind fun x5=>
 (r (aB (x4.1+1)) x5.1 x5.2.1 x5.2.2.1 x5.2.2.2).bind (sm (fun x6=>
 gP (x6.2.1,x6.2.2.1,x6.2.2.2.1,x6.2.2.2.2,(TExpr.mk x4.2 0 [] ([(TExpr.mk x2.2.2.2.2.1 x2.2.2.2.2.2.1 x2.2.2.2.2.2.2.1 x2.2.2.2.2.2.2.2),(TExpr.mk x6.1.fOp x6.1.fN x6.1.fName x6.1.fKids)]:J TExpr)).fOp,(TExpr.mk x4.2 0 [] ([(TExpr.mk x2.2.2.2.2.1 x2.2.2.2.2.2.1 x2.2.2.2.2.2.2.1 x2.2.2.2.2.2.2.2),(TExpr.mk x6.1.fOp x6.1.fN x6.1.fName x6.1.fKids)]:J TExpr)).fN,(TExpr.mk x4.2 0 [] ([(TExpr.mk x2.2.2.2.2.1 x2.2.2.2.2.2.1 x2.2.2.2.2.2.2.1 x2.2.2.2.2.2.2.2),(TExpr.mk x6.1.fOp x6.1.fN x6.1.fName x6.1.fKids)]:J TExpr)).fName,(TExpr.mk x4.2 0 [] ([(TExpr.mk x2.2.2.2.2.1 x2.2.2.2.2.2.1 x2.2.2.2.2.2.2.1 x2.2.2.2.2.2.2.2),(TExpr.mk x6.1.fOp x6.1.fN x6.1.fName x6.1.fKids)]:J TExpr)).fKids)) (fun x7=>some (.inr (x7.1,x7.2.1,x7.2.2.1,x7.2.2.2.1,x7.2.2.2.2))))))
theorem Qa(s:Bs)(i:Nat)(hi:i<=s.length):tZ s i=⟨kd s i,po s i,tx s i⟩:=by
 unfold kd tx po;rcases mo s i hi with⟨h,_,_,_⟩|⟨w,b,h,_,_,_,hl⟩|⟨w,b,h,_,_,_,hl⟩|⟨x,h,_,_,hm,hl⟩|⟨b,h,_,_,hl⟩<;>rw [h]
theorem amz(X:O RA):X.bind (sm (fun x=>some (.inl ((TExpr.mk x.1.fOp x.1.fN x.1.fName x.1.fKids),x.2.1,x.2.2.1,x.2.2.2.1,x.2.2.2.2))) (fun x=>some (.inr (x.1,x.2.1,x.2.2.1,x.2.2.2.1,x.2.2.2.2))))=X:=by
 cases X with
 | none=>rfl
 | some y=>grind [sm,TExpr.eta]
variable{F:Nat}
section
variable (hl : s.length <= 1000000) (hi : i <= s.length) (hF : s.length + 60 <= F)
include hl hi hF
theorem GZ:nX F s (kd s i) (po s i) (tx s i)=some (tZ s (nx s i)):=by
 unfold nX wx;obtain⟨a,_,_⟩:=kI s i hi;have e:po s i+((tx s i).length:Int)=((nx s i:Nat):Int):=by unfold po nx;omega
 grind [bN,VU]
theorem sY:eS F s (kd s i) (po s i) (tx s i)=some (s,kd s (nx s i),po s (nx s i),tx s (nx s i)):=by
 unfold eS wx
 simp_all [kI,GZ,Qa]
theorem ku(hx:x≠[]):iL F x s (kd s i) (po s i) (tx s i)=some (sy s i==x):=by
 unfold iL wx;by_cases h:sy s i=[]
 ·have hk:(cond (kd s i==3) (some (tx s i==x)) (some false):O Bool)=some false:=by
   unfold kd tx;rcases mo s i hi with⟨h',_,_,_⟩|⟨w,b,h',_,_,_,_⟩|⟨w,b,h',_,_,_,_⟩|⟨x',h',hs,_,hm,_⟩|⟨b,h',_,_,_⟩<;>rw [h']<;>try rfl
   simp_all
  simp_all
 simp_all [Bt]
theorem V0:jQ F s (kd s i) (po s i) (tx s i)=some (gu (sy s i)):=by
 by_cases h:sy s i=[]
 ·rw [h]
  have hk:(kd s i==3)=false:=by
   unfold kd;rcases mo s i hi with⟨h',_,_,_⟩|⟨w,b,h',_,_,_,_⟩|⟨w,b,h',_,_,_,_⟩|⟨x',h',hs,_,hm,_⟩|⟨b,h',_,_,_⟩<;>rw [h']<;>try rfl
   simp_all [CG]
  unfold jQ wx;rw [hk];rfl
 ·obtain⟨h1,h2⟩:=Bt s i hi h
  rw [h1,h2];obtain⟨G,rfl⟩:∃G,F=G+20:=⟨F-20,om⟩;exact (yR s i).bin G s _
theorem Iu:qj F (tZ s i)=some (cond (sX (sy s i) == -1) 0 (sX (sy s i)),!(sX (sy s i) == -1)):=by
 by_cases h:sy s i=[]
 ·rw [h]
  have hk:((tZ s i).dI != 3)=true:=by
   rcases mo s i hi with⟨h',_,_,_⟩|⟨w,b,h',_,_,_,_⟩|⟨w,b,h',_,_,_,_⟩|⟨x',h',hs,_,hm,_⟩|⟨b,h',_,_,_⟩<;>rw [h']<;>try rfl
   simp_all [CG]
  unfold qj wx;rw [hk];rfl
 ·obtain⟨h1,h2⟩:=Bt s i hi h
  rw [Qa s i hi,h1,h2];obtain⟨G,rfl⟩:∃G,F=G+20:=⟨F-20,om⟩;exact (yR s i).asg G _
theorem xI(hx:x≠[])(h:sy s i=x):iH F x s (kd s i) (po s i) (tx s i)=some (.inl (s,kd s (nx s i),po s (nx s i),tx s (nx s i))):=by
 unfold iH wx
 simp_all [ku,sY,jj,sm]
theorem OJ(hx:x≠[])(h:sy s i≠x):iH F x s (kd s i) (po s i) (tx s i)=some (.inr ⟨po s i,6⟩):=by
 unfold iH wx;have:(sy s i==x)=false:=by simp_all
 rw [ku hl hi hF hx,this];rfl
omit hF hl in
theorem ah3:(tx s i).length<=s.length:=by
 obtain⟨a,_,_⟩:=kI s i hi;unfold nx at a;omega
omit hF hl in
theorem ap5(h:kd s i=1\/kd s i=2):tx s i≠[]:=by
 unfold kd at h;unfold tx;rcases mo s i hi with⟨h',_,_,_⟩|⟨w,b,h',_,_,_,_⟩|⟨w,b,h',_,_,_,_⟩|⟨x',h',hs,_,hm,_⟩|⟨b,h',_,_,_⟩<;>rw [h'] at h⊢ <;> simp at h⊢
theorem abd(h:kd s i=1):yN F (tx s i)=some (oP (tx s i)):=by
 grind [ah3,aj4,ap5]
theorem V1(h:rName (tx s i)=true):iQ F s (kd s i) (po s i) (tx s i)=some (.inl (tx s i,s,kd s (nx s i),po s (nx s i),tx s (nx s i))):=by
 unfold iQ wx
 grind [Ej,sY]
theorem ah4(h:rName (tx s i)=false):iQ F s (kd s i) (po s i) (tx s i)=some (.inr ⟨po s i,10⟩):=by
 unfold iQ wx
 grind [Ej]
end
def StA(s:Bs):nH->Nat->vj->Prop
 | .expr,i,r=>bL fun F n=>kV s r (aR F n s (kd s i) (po s i) (tx s i))
 | .cond,i,r=>bL fun F n=>kV s r (bB F n s (kd s i) (po s i) (tx s i))
 | .oper l,i,r=>bL fun F n=>kV s r (aJ F n l s (kd s i) (po s i) (tx s i))
 | .loop l a,i,r=>∃N,∀F n m,N<=F->N<=n->N<=m->kV s r (b8 (BA F (aJ F n) l) m (s,kd s i,po s i,tx s i,a.fOp,a.fN,a.fName,a.fKids))
 | .un,i,r=>bL fun F n=>kV s r (bK F n s (kd s i) (po s i) (tx s i))
 | .nW,i,r=>bL fun F n=>kV s r (bF F n s (kd s i) (po s i) (tx s i))
theorem gF(s:Bs):bL fun F _=>s.length+60<=F:=bL.ge (s.length+60) fun F n h _=>h
theorem D_A(hl:s.length<=1000000){c:nH}(d:D s c i r):i<=s.length->c.okL->StA s c i r:=by
 induction d with
 | @Bu i r h d ih=>
  intro hi _;refine bL.succ (bL.kS (ih hi trivial) (gF s) fun F n h1 hF=>?_);show kV s r (eL F (aR F n) (bB F n) (aJ F n) (bK F n) (bF F n) s (kd s i) (po s i) (tx s i));unfold eL wx;rw [amz]
  cases hk:(kd s i==2) with
  | false=>
   grind
  | true=>
   have:(kd s i != 2)=false:=by unfold bne;rw [hk];rfl
   unfold jy at h;rw [hk] at h;simp only [aZ] at h;obtain⟨a,_,_⟩:=kI s i hi;rw [this,GZ hl hi hF]
   simp_all [aK,aC,Iu]
 | @Bv i h hn=>
  intro hi _;refine bL.succ (bL.mono (gF s) fun F n hF=>?_);obtain⟨hk,h2,_⟩:=OI h;obtain⟨a,_,_⟩:=kI s i hi;show kV s _ (eL F (aR F n) (bB F n) (aJ F n) (bK F n) (bF F n) s (kd s i) (po s i) (tx s i));unfold eL wx;have h3:(sX (sy s (nx s i)) == -1)=false:=by simp_all
  rw [GZ hl hi hF,ah4 hl hi hF hn];simp only [aC];rw [Iu hl a hF,h3,hk]
  exact⟨_,rfl⟩
 | @Fp i j e h hn d ih=>
  intro hi _;obtain⟨m1,m2,m3,m4⟩:=wC hi h;refine bL.succ (bL.kS (ih m3 trivial) (gF s) fun F n h1 hF=>?_);obtain⟨hk,h2,he⟩:=OI h;show kV s _ (eL F (aR F n) (bB F n) (aJ F n) (bK F n) (bF F n) s (kd s i) (po s i) (tx s i));unfold eL wx;have h3:(sX (sy s (nx s i)) == -1)=false:=by simp_all
  have h1:aR F n s _ _ _=_:=h1;rw [GZ hl hi hF,V1 hl hi hF hn];simp only [aC];rw [Iu hl m1 hF,h3,hk,he];simp only [M8,aK,qB,je,sm];rw [sY hl m1 hF];simp only [aC];rw [h1]
  rfl
 | @Fq i p c h hn d ih=>
  intro hi _;obtain⟨m1,m2,m3,m4⟩:=wC hi h;refine bL.succ (bL.kS (ih m3 trivial) (gF s) fun F n h1 hF=>?_);obtain⟨hk,h2,he⟩:=OI h;show kV s _ (eL F (aR F n) (bB F n) (aJ F n) (bK F n) (bF F n) s (kd s i) (po s i) (tx s i));unfold eL wx;have h3:(sX (sy s (nx s i)) == -1)=false:=by simp_all
  obtain⟨st,h1⟩:=h1;rw [GZ hl hi hF,V1 hl hi hF hn];simp only [aC];rw [Iu hl m1 hF,h3,hk];simp only [M8,aK,qB,je,sm];rw [sY hl m1 hF];simp only [aC];rw [h1]
  exact⟨_,rfl⟩
 | @Fs i p c d ih=>
  intro hi _;refine bL.succ (bL.mono (ih hi (show (0:Int)<3 by decide)) fun F n h1=>?_);show kV s _ (cZ F (aR F n) (bB F n) (aJ F n) (bK F n) (bF F n) s (kd s i) (po s i) (tx s i));unfold cZ wx;obtain⟨st,h1⟩:=h1;rw [h1]
  exact⟨_,rfl⟩
 | @Ft i j a d h ih=>
  intro hi _;obtain⟨x,y,z⟩:=mq d hi (show (0:Int)<3 by decide);refine bL.succ (bL.kS (ih hi (show (0:Int)<3 by decide)) (gF s) fun F n h1 hF=>?_);show kV s _ (cZ F (aR F n) (bB F n) (aJ F n) (bK F n) (bF F n) s (kd s i) (po s i) (tx s i));unfold cZ wx;have h1:aJ F n 3 s _ _ _=_:=h1;have hb:(sy s j==[63])=false:=by simp_all
  rw [h1];simp only [aC,sm];rw [ku hl y hF de,hb]
  simp_all
 | @Fu i j p c a d h d2 ih ih2=>
  intro hi _;obtain⟨x,y,z⟩:=mq d hi (show (0:Int)<3 by decide);obtain⟨m1,m2⟩:=dH y (by rw [h];decide);refine bL.succ (bL.CD (ih hi (show (0:Int)<3 by decide)) (ih2 m1 trivial) (gF s) fun F n h1 h2 hF=>?_);show kV s _ (cZ F (aR F n) (bB F n) (aJ F n) (bK F n) (bF F n) s (kd s i) (po s i) (tx s i));unfold cZ wx;have h1:aJ F n 3 s _ _ _=_:=h1;obtain⟨st,h2⟩:=h2;rw [h1];simp only [aC,sm];rw [ku hl y hF de,h,sY hl y hF];simp only [aC];rw [h2]
  exact⟨_,rfl⟩
 | @Fv i j k a b d h d2 h2 ih ih2=>
  intro hi _;obtain⟨x,y,z⟩:=mq d hi (show (0:Int)<3 by decide);obtain⟨m1,m2⟩:=dH y (by rw [h];decide);obtain⟨x2,y2,z2⟩:=mq d2 m1 trivial;refine bL.succ (bL.CD (ih hi (show (0:Int)<3 by decide)) (ih2 m1 trivial) (gF s) fun F n h1 h3 hF=>?_);show kV s _ (cZ F (aR F n) (bB F n) (aJ F n) (bK F n) (bF F n) s (kd s i) (po s i) (tx s i));unfold cZ wx;have h1:aJ F n 3 s _ _ _=_:=h1;have h3:aR F n s _ _ _=_:=h3;rw [h1];simp only [aC,sm];rw [ku hl y hF de,h,sY hl y hF];simp only [aC];rw [h3];simp only [aC,sm];rw [OJ hl y2 hF de h2]
  exact⟨_,rfl⟩
 | @LC i j k p c a b d h d2 h2 d3 ih ih2 ih3=>
  intro hi _;obtain⟨x,y,z⟩:=mq d hi (show (0:Int)<3 by decide);obtain⟨m1,m2⟩:=dH y (by rw [h];decide);obtain⟨x2,y2,z2⟩:=mq d2 m1 trivial;obtain⟨m3,m4⟩:=dH y2 (by rw [h2];decide);refine bL.succ (bL.CD ((ih hi (show (0:Int)<3 by decide)).and (ih3 m3 trivial)) (ih2 m1 trivial) (gF s) fun F n h1 h3 hF=>?_);show kV s _ (cZ F (aR F n) (bB F n) (aJ F n) (bK F n) (bF F n) s (kd s i) (po s i) (tx s i));unfold cZ wx;obtain⟨h1,st,h4⟩:=h1;have h1:aJ F n 3 s _ _ _=_:=h1;have h3:aR F n s _ _ _=_:=h3;rw [h1];simp only [aC,sm];rw [ku hl y hF de,h,sY hl y hF];simp only [aC];rw [h3];simp only [aC,sm];rw [xI hl y2 hF de h2];simp only [aC,sm];rw [h4]
  exact⟨_,rfl⟩
 | @Fw i j k m a b e d h d2 h2 d3 ih ih2 ih3=>
  intro hi _;obtain⟨x,y,z⟩:=mq d hi (show (0:Int)<3 by decide);obtain⟨m1,m2⟩:=dH y (by rw [h];decide);obtain⟨x2,y2,z2⟩:=mq d2 m1 trivial;obtain⟨m3,m4⟩:=dH y2 (by rw [h2];decide);refine bL.succ (bL.CD ((ih hi (show (0:Int)<3 by decide)).and (ih3 m3 trivial)) (ih2 m1 trivial) (gF s) fun F n h1 h3 hF=>?_);show kV s _ (cZ F (aR F n) (bB F n) (aJ F n) (bK F n) (bF F n) s (kd s i) (po s i) (tx s i));unfold cZ wx;obtain⟨h1,h4⟩:=h1;have h1:aJ F n 3 s _ _ _=_:=h1;have h3:aR F n s _ _ _=_:=h3;have h4:bB F n s _ _ _=_:=h4;rw [h1];simp only [aC,sm];rw [ku hl y hF de,h,sY hl y hF];simp only [aC];rw [h3];simp only [aC,sm];rw [xI hl y2 hF de h2];simp only [aC,sm];rw [h4];simp only [aC,sm,TExpr.eta]
  rfl
 | @Ut l i p c d ih=>
  intro hi _;refine bL.succ (bL.mono (ih hi trivial) fun F n h1=>?_);show kV s _ (jY F (aR F n) (bB F n) (aJ F n) (bK F n) (bF F n) l s (kd s i) (po s i) (tx s i));unfold jY wx;obtain⟨st,h1⟩:=h1;rw [h1]
  exact⟨_,rfl⟩
 | @VY l i j a r d d2 ih ih2=>
  intro hi hc;obtain⟨x,y,z⟩:=mq d hi trivial;obtain⟨N,h2⟩:=ih2 y hc;refine bL.succ (bL.kS (ih hi trivial) (bL.ge (p:=fun F n=>N<=F/\N<=n) N fun F n a b=>⟨a,b⟩) fun F n h1 hN=>?_);show kV s _ (jY F (aR F n) (bB F n) (aJ F n) (bK F n) (bF F n) l s (kd s i) (po s i) (tx s i));unfold jY wx;have h1:bK F n s _ _ _=_:=h1;rw [h1]
  exact h2 F n F hN.1 hN.2 hN.1
 | @wB l i a h=>
  intro hi _;refine⟨s.length+60,fun F n m hF _ hm=>?_⟩
  cases m with
  | zero=>omega
  | succ m=>
   show kV s _ (BA F (aJ F n) l (b8 (BA F (aJ F n) l) m) (s,kd s i,po s i,tx s i,a.fOp,a.fN,a.fName,a.fKids));unfold BA;rw [V0 hl hi hF];simp only [aC,dW h,aZ,TExpr.eta]
   rfl
 | @Dd l i p c a h d ih=>
  intro hi hc;have hc:0<l:=hc;obtain⟨m1,m2⟩:=dH hi (zL hc h);obtain⟨N,h1⟩:=ih m1 (show (0:Int)<_ by omega);have hlv:=(yR s i).lv;refine⟨N+s.length+60,fun F n m hF hn hm=>?_⟩
  cases m with
  | zero=>omega
  | succ m=>
   show kV s _ (BA F (aJ F n) l (b8 (BA F (aJ F n) l) m) (s,kd s i,po s i,tx s i,a.fOp,a.fN,a.fName,a.fKids));unfold BA;obtain⟨st,h1⟩:=h1 F n om om;rw [V0 hl hi om,sY hl hi om];have hx:decide ((gu (sy s i)).1<l)=false:=tK om;simp only [aC,hx,aK];rw [bN (x:=(gu (sy s i)).1+1) om,h1]
   exact⟨_,rfl⟩
 | @GY l i j a b r h d d2 ih ih2=>
  intro hi hc;have uz:0<l:=hc;obtain⟨m1,m2⟩:=dH hi (zL uz h);obtain⟨x,y,z⟩:=mq d m1 (show (0:Int)<_ by omega);obtain⟨N,h1⟩:=ih m1 (show (0:Int)<_ by omega);obtain⟨N2,h2⟩:=ih2 y hc;have hlv:=(yR s i).lv;refine⟨N+N2+s.length+60,fun F n m hF hn hm=>?_⟩
  cases m with
  | zero=>omega
  | succ m=>
   show kV s _ (BA F (aJ F n) l (b8 (BA F (aJ F n) l) m) (s,kd s i,po s i,tx s i,a.fOp,a.fN,a.fName,a.fKids));have h1:aJ F n _ s _ _ _=_:=h1 F n om om;have h2:=h2 F n m om om om;generalize hL:b8 (BA F (aJ F n) l) m=L at h2⊢;unfold BA;rw [V0 hl hi om,sY hl hi om];have hx:decide ((gu (sy s i)).1<l)=false:=tK om;simp only [aC,hx,aK]
   grind [bN,sm,TExpr.eta]
 | @Bw i r h d ih=>
  intro hi _;refine bL.succ (bL.kS (ih hi trivial) (gF s) fun F n h1 hF=>?_);show kV s _ (jh F (aR F n) (bB F n) (aJ F n) (bK F n) (bF F n) s (kd s i) (po s i) (tx s i));unfold jh wx;rw [ku hl hi hF de,ku hl hi hF de,ku hl hi hF de,ku hl hi hF de]
  have hu:(sy s i==[45])=false/\(sy s i==[43])=false/\(sy s i==[33])=false/\(sy s i==[126])=false:=by
   unfold uD at h
   grind
  obtain⟨u1,u2,u3,u4⟩:=hu;rw [u1,u2,u3,u4];revert h1
  cases bF F n s (kd s i) (po s i) (tx s i) with
  | none=>exact id
  | some X=>
   cases X with
   | inl X=>simp_all [aC,aK,jj,sm,TExpr.eta]
   | inr X=>simp_all [aC,aK,jj,sm,TExpr.eta]
 | @Fx i p c h d ih=>
  intro hi _;obtain⟨m1,m2⟩:=dH hi (z7 h);refine bL.succ (bL.kS (ih m1 trivial) (gF s) fun F n h1 hF=>?_);show kV s _ (jh F (aR F n) (bB F n) (aJ F n) (bK F n) (bF F n) s (kd s i) (po s i) (tx s i));unfold jh wx;rw [ku hl hi hF de,ku hl hi hF de,ku hl hi hF de,ku hl hi hF de,sY hl hi hF];obtain⟨st,h1⟩:=h1;simp only [aC,h1];unfold uD at h;revert h
  cases (sy s i==[45])<;>cases (sy s i==[43])<;>cases (sy s i==[33])<;>cases (sy s i==[126])<;>intro h<;>first|exact⟨_,rfl⟩|exact absurd rfl h
 | @LF i j a h d ih=>
  intro hi _;obtain⟨m1,m2⟩:=dH hi (z7 h);refine bL.succ (bL.kS (ih m1 trivial) (gF s) fun F n h1 hF=>?_);show kV s _ (jh F (aR F n) (bB F n) (aJ F n) (bK F n) (bF F n) s (kd s i) (po s i) (tx s i));unfold jh wx;rw [ku hl hi hF de,ku hl hi hF de,ku hl hi hF de,ku hl hi hF de,sY hl hi hF];have h1:bK F n s _ _ _=_:=h1;simp only [aC,h1];unfold uD at h⊢;revert h
  cases (sy s i==[45])<;>cases (sy s i==[43])<;>cases (sy s i==[33])<;>cases (sy s i==[126])<;>intro h<;>first|rfl|exact absurd rfl h
 | @Fy i h hv=>
  intro hi _;refine bL.succ (bL.mono (gF s) fun F n hF=>?_);show kV s _ (cD F (aR F n) (bB F n) (aJ F n) (bK F n) (bF F n) s (kd s i) (po s i) (tx s i));unfold cD wx;rw [abd hl hi hF h,sY hl hi hF,h];simp only [I3,aZ,aC,hv,M8,aK]
  rfl
 | @Bx i h hv=>
  intro hi _;refine bL.succ (bL.mono (gF s) fun F n hF=>?_);show kV s _ (cD F (aR F n) (bB F n) (aJ F n) (bK F n) (bF F n) s (kd s i) (po s i) (tx s i));unfold cD wx;have jt:((oP (tx s i)).2 != 0)=true:=by simpa using hv
  rw [abd hl hi hF h,h];simp only [I3,aZ,aC,jt]
  exact⟨_,rfl⟩
 | @Fz i h hv=>
  intro hi _;refine bL.succ (bL.mono (gF s) fun F n hF=>?_);show kV s _ (cD F (aR F n) (bB F n) (aJ F n) (bK F n) (bF F n) s (kd s i) (po s i) (tx s i));unfold cD wx;rw [V1 hl hi hF hv,h]
  rfl
 | @Bz i h hv=>
  intro hi _;refine bL.succ (bL.mono (gF s) fun F n hF=>?_);show kV s _ (cD F (aR F n) (bB F n) (aJ F n) (bK F n) (bF F n) s (kd s i) (po s i) (tx s i));unfold cD wx;rw [ah4 hl hi hF hv,h]
  exact⟨_,rfl⟩
 | @FA i h1 h2 h=>
  intro hi _;refine bL.succ (bL.mono (gF s) fun F n hF=>?_);show kV s _ (cD F (aR F n) (bB F n) (aJ F n) (bK F n) (bF F n) s (kd s i) (po s i) (tx s i));unfold cD wx;have k1:(kd s i==1)=false:=by simp_all
  have k2:(kd s i==2)=false:=by simp_all
  rw [OJ hl hi hF de h,k1,k2]
  exact⟨_,rfl⟩
 | @LG i p c h d ih=>
  intro hi _;obtain⟨m1,m2⟩:=dH hi (by rw [h];decide);refine bL.succ (bL.kS (ih m1 trivial) (gF s) fun F n h1 hF=>?_);show kV s _ (cD F (aR F n) (bB F n) (aJ F n) (bK F n) (bF F n) s (kd s i) (po s i) (tx s i));unfold cD wx;have hk:=(Bt s i hi (by rw [h];decide)).1;obtain⟨st,h1⟩:=h1;rw [xI hl hi hF de h,hk];simp only [aC,sm];rw [h1]
  exact⟨_,rfl⟩
 | @xH i j e h d h2 ih=>
  intro hi _;obtain⟨m1,m2⟩:=dH hi (by rw [h];decide);obtain⟨x,y,z⟩:=mq d m1 trivial;refine bL.succ (bL.kS (ih m1 trivial) (gF s) fun F n h1 hF=>?_);show kV s _ (cD F (aR F n) (bB F n) (aJ F n) (bK F n) (bF F n) s (kd s i) (po s i) (tx s i));unfold cD wx;have hk:=(Bt s i hi (by rw [h];decide)).1;have h1:aR F n s _ _ _=_:=h1;rw [xI hl hi hF de h,hk];simp only [aC,sm];rw [h1];simp only [aC,sm];rw [OJ hl y hF de h2]
  exact⟨_,rfl⟩
 | @LH i j e h d h2 ih=>
  intro hi _;obtain⟨m1,m2⟩:=dH hi (by rw [h];decide);obtain⟨x,y,z⟩:=mq d m1 trivial;refine bL.succ (bL.kS (ih m1 trivial) (gF s) fun F n h1 hF=>?_);show kV s _ (cD F (aR F n) (bB F n) (aJ F n) (bK F n) (bF F n) s (kd s i) (po s i) (tx s i));unfold cD wx;have hk:=(Bt s i hi (by rw [h];decide)).1;have h1:aR F n s _ _ _=_:=h1;rw [xI hl hi hF de h,hk];simp only [aC,sm];rw [h1];simp only [aC,sm];rw [xI hl y hF de h2];simp only [aC,sm,TExpr.eta];rfl
abbrev RR:=TExpr×Bs×Int×Int×Int
abbrev SR:=Bs×Int×Int×Int×Int×Int×Bs×(J TExpr)
def kG(s:Bs):vj->O RR->Prop
 | .ok e j,x=>∃a:Nat,a<=s.length/\skip s a=skip s j/\x=some (e,s,(a:Int),0,0)
 | .err p c,x=>c≠0/\∃(e:TExpr)(a:Nat),a<=s.length/\x=some (e,s,(a:Int),c,(p:Int))
def sj(F:Nat)(r:Int->Bs->Int->Int->Int->O RR)(l:Int):(SR->O RR)->SR->O RR:=
 (fun lu x3=>
 cond (x3.2.2.1==0)
 ((gQ F x3.1 x3.2.1 x3.2.2.1 x3.2.2.2.1).bind fun x5=>
 (kU F x5.1 l).bind fun x6=>
 cond (x6==0)
 (some ((TExpr.mk ((TExpr.mk x3.2.2.2.2.1 x3.2.2.2.2.2.1 x3.2.2.2.2.2.2.1 x3.2.2.2.2.2.2.2).fOp) ((TExpr.mk x3.2.2.2.2.1 x3.2.2.2.2.2.1 x3.2.2.2.2.2.2.1 x3.2.2.2.2.2.2.2).fN) ((TExpr.mk x3.2.2.2.2.1 x3.2.2.2.2.2.1 x3.2.2.2.2.2.2.1 x3.2.2.2.2.2.2.2).fName) ((TExpr.mk x3.2.2.2.2.1 x3.2.2.2.2.2.1 x3.2.2.2.2.2.2.1 x3.2.2.2.2.2.2.2).fKids)),x5.2.1,x5.2.2.1,x5.2.2.2.1,x5.2.2.2.2))
 ((r (aB (l+1)) x5.2.1 (aB (x5.2.2.1+(x5.1.length:Int))) x5.2.2.2.1 x5.2.2.2.2).bind fun x7=>
 lu (x7.2.1,x7.2.2.1,x7.2.2.2.1,x7.2.2.2.2,(TExpr.mk x6 0 [] ([(TExpr.mk x3.2.2.2.2.1 x3.2.2.2.2.2.1 x3.2.2.2.2.2.2.1 x3.2.2.2.2.2.2.2),x7.1]:J TExpr)).fOp,(TExpr.mk x6 0 [] ([(TExpr.mk x3.2.2.2.2.1 x3.2.2.2.2.2.1 x3.2.2.2.2.2.2.1 x3.2.2.2.2.2.2.2),x7.1]:J TExpr)).fN,(TExpr.mk x6 0 [] ([(TExpr.mk x3.2.2.2.2.1 x3.2.2.2.2.2.1 x3.2.2.2.2.2.2.1 x3.2.2.2.2.2.2.2),x7.1]:J TExpr)).fName,(TExpr.mk x6 0 [] ([(TExpr.mk x3.2.2.2.2.1 x3.2.2.2.2.2.1 x3.2.2.2.2.2.2.1 x3.2.2.2.2.2.2.2),x7.1]:J TExpr)).fKids)))
 (some ((TExpr.mk ((TExpr.mk x3.2.2.2.2.1 x3.2.2.2.2.2.1 x3.2.2.2.2.2.2.1 x3.2.2.2.2.2.2.2).fOp) ((TExpr.mk x3.2.2.2.2.1 x3.2.2.2.2.2.1 x3.2.2.2.2.2.2.1 x3.2.2.2.2.2.2.2).fN) ((TExpr.mk x3.2.2.2.2.1 x3.2.2.2.2.2.1 x3.2.2.2.2.2.2.1 x3.2.2.2.2.2.2.2).fName) ((TExpr.mk x3.2.2.2.2.1 x3.2.2.2.2.2.1 x3.2.2.2.2.2.2.1 x3.2.2.2.2.2.2.2).fKids)),x3.1,x3.2.1,x3.2.2.1,x3.2.2.2.1)))
variable{a:Nat}
section
variable (h : skip s a = skip s i)
include h
theorem jc:sy s a=sy s i:=by unfold sy;rw [h]
theorem F9:kd s a=kd s i:=by unfold kd tZ;rw [h]
theorem z8:tx s a=tx s i:=by unfold tx tZ;rw [h]
theorem kz:nx s a=nx s i:=by unfold nx;rw [h,z8 h]
theorem LI:jy s a=jy s i:=by unfold jy;rw [F9 h,kz h]
end
theorem adC:∀x,x∈([]::pL)->sX x=-1\/0<=sX x:=by decide
theorem ah5:∀n:Fin 256,dg (UInt8.ofNat n.val)=true->le (UInt8.ofNat n.val)=false:=by decide +kernel
theorem af6(b:UInt8):dg b=true->le b=false:=Sh (P:=fun b=>dg b=true->le b=false) ah5 b
theorem G4(X:O RR):(X.bind fun x=>some ((TExpr.mk x.1.fOp x.1.fN x.1.fName x.1.fKids),x.2.1,x.2.2.1,x.2.2.2.1,x.2.2.2.2))=X:=by
 cases X with
 | none=>rfl
 | some y=>simp_all
section
variable (hl : s.length <= 1000000) (hi : a <= s.length) (hF : s.length + 60 <= F)
include hl hi hF
theorem yS(hx:x≠[])(h:sy s a=x):iu F x s (a:Int) 0 0=some (true,s,(nx s a:Int),0,0):=by
 unfold iu wx;rw [ny F s a 0 0 hi om hl];obtain⟨m1,m2⟩:=dH hi (by rw [h];exact hx);have e:sy s a=nK (s.drop (skip s a)):=rfl;have e2:nx s a=skip s a+x.length:=by unfold nx;simp_all [Bt]
 grind [bN]
theorem Y7(h:sy s a≠x):iu F x s (a:Int) 0 0=some (false,s,(skip s a:Int),0,0):=by
 unfold iu wx;rw [ny F s a 0 0 hi om hl];have e:sy s a=nK (s.drop (skip s a)):=rfl
 grind
omit hl hi hF in
theorem OK{at' c p:Int}(hc:c≠0):iu F x s at' c p=some (false,s,at',c,p):=by
 unfold iu wx;have:(c != 0)=true:=by simpa using hc
 rw [this];rfl
omit hl hi hF in
theorem Sk{at' c p c' p':Int}(hc:c≠0):gm F c' p' s at' c p=some (s,at',c,p):=by
 unfold gm wx;have:(c==0)=false:=by simpa using hc
 rw [this];rfl
theorem Gq(rs rc:Bs->Int->Int->Int->O RR)(rl:Int->Bs->Int->Int->Int->O RR)(ru rp:Bs->Int->Int->Int->O RR)(e pos:Int):
  ja F rs rc rl ru rp s (a:Int) e pos=cond (jy s a == -1) (rc s (skip s a:Int) e pos)
   ((rs s (nx s (nx s a):Int) (cond (rName (tx s a)) e (cond (e==0) 10 e)) (cond (rName (tx s a)) pos (cond (e==0) (skip s a:Int) pos))).bind fun x=>some (.mk 26 (jy s a) (tx s a) [x.1],x.2.1,x.2.2.1,x.2.2.2.1,x.2.2.2.2)):=by
 obtain⟨s1,s2⟩:=ic s a hi;unfold ja wx;rw [tD F s a e pos hi om hl];simp only [aC];rw [Lz F s _ e pos s1 om hl];simp only [aC]
 have hno:∀X:O ((Bs×Int×Int×Int) ⊕ RR),X=some (.inl (s,(skip s a:Int),e,pos))->jy s a=-1 ->
   (jj (σ:=Bs×Int×Int×Int) (R:=RR) X fun x3=>(rc x3.1 x3.2.1 x3.2.2.1 x3.2.2.2).bind fun fT=>some ((TExpr.mk fT.1.fOp fT.1.fN fT.1.fName fT.1.fKids),fT.2.1,fT.2.2.1,fT.2.2.2.1,fT.2.2.2.2))=rc s (skip s a:Int) e pos:=by
  intro X hX _;rw [hX];show (rc s (skip s a:Int) e pos).bind _=_;exact G4 _
 have hk2:kd s a≠2->jy s a=-1:=by
  intro hk;unfold jy;have:(kd s a==2)=false:=by rw [gK];exact hk
  rw [this];rfl
 rcases mo s a hi with⟨h',_,hw,_⟩|⟨w,b,h',_,hw,hd,hl'⟩|⟨w,b,h',hs,hw,hd,hl'⟩|⟨x',h',_,hw,hm,_⟩|⟨b,h',_,hw,_⟩
 ·have ha:=hk2 (by unfold kd;rw [h'];simp)
  rw [hno _ (by rw [hw];rfl) ha,ha];rfl
 ·have ha:=hk2 (by unfold kd;rw [h'];simp)
  rw [hno _ (by
   rw [hw];have hp:decide (0<((b::w).length:Int))=true:=dW (by simp only [su];omega);show (((rq (decide (0<((b::w).length:Int))) ((nV F (b.toNat:Int)).bind fun x5=>some x5)):O Bool).bind _)=_;rw [hp,wz,af6 b hd];rfl) ha,ha]
  rfl
 ·have hk:kd s a=2:=by unfold kd;rw [h']
  have ht:tx s a=b::w:=by unfold tx;rw [h']
  obtain⟨m1,m2,_⟩:=kI s a hi;have hn:(skip s a:Int)+((b::w).length:Int)=(nx s a:Int):=by unfold nx;rw [ht];omega
  have has:jy s a=sX (sy s (nx s a)):=by unfold jy;rw [hk];rfl
  rw [hw];have hp:decide (0<((b::w).length:Int))=true:=dW (by simp only [su];omega);have hne:(!((b::w)==[]))=true:=rfl;simp only [hne,aZ,hp,gJ,UY,wz,hd,aC,hn];rw [bN (x:=(nx s a:Int)) om,ny F s (nx s a) e pos m1 om hl];simp only [aC];rw [show nK (s.drop (skip s (nx s a)))=sy s (nx s a) from rfl]
  have arn:ry F (sy s (nx s a))=some (sX (sy s (nx s a))):=by
   obtain⟨G,rfl⟩:∃G,F=G+20:=⟨F-20,om⟩;exact (yR s (nx s a)).asr G
  rw [arn];simp only [aC];rcases adC _ (OH s (nx s a)) with hz|hz
  ·rw [has,hz]
   show (rc s (skip s a:Int) e pos).bind _=_;exact G4 _
  ·have hz1:(sX (sy s (nx s a)) == -1)=false:=by rw [gK];omega
   obtain⟨_,_,m3,_⟩:=wC hi (by rw [has];omega);have hx:=abc (x:=sy s (nx s a)) om
   have hnn:(skip s (nx s a):Int)+((sy s (nx s a)).length:Int)=(nx s (nx s a):Int):=by
    have h2:=(Bt s _ m1 hx).2;have h3:nx s (nx s a)=skip s (nx s a)+(tx s (nx s a)).length:=rfl;rw [h3,h2];omega
   rw [has,hz1,dW hz,zh F _ om,ht];simp only [aC,aZ,aK]
   cases hr:rName (b::w) with
   | true=>
    simp only [je,aK,aZ,aC,hnn];rw [bN (x:=(nx s (nx s a):Int)) om]
    cases rs s (nx s (nx s a):Int) e pos<;>rfl
   | false=>
    unfold gm wx
    cases he:(e==0) with
    | true=>
     simp only [qB,aK,aZ,aC,hnn];rw [bN (x:=(nx s (nx s a):Int)) om]
     cases rs s (nx s (nx s a):Int) 10 (skip s a:Int)<;>rfl
    | false=>
     simp only [qB,aK,aZ,aC,hnn];rw [bN (x:=(nx s (nx s a):Int)) om];cases rs s (nx s (nx s a):Int) e pos<;>rfl
 ·have ha:=hk2 (by unfold kd;rw [h'];simp)
  rw [hno _ (by rw [hw];rfl) ha,ha];rfl
 ·have ha:=hk2 (by unfold kd;rw [h'];simp)
  rw [hno _ (by rw [hw];rfl) ha,ha];rfl
end
theorem amA(G:Nat)(x:Bs)(k:Int->O RR)(z:O RR):b8 (σ:=Int) (fun gP x2=>
   (cond (decide (x2<=6)) (some ((0:Int)==0)) (some false):O Bool).bind fun x4=>cond x4 ((FB (G+10) x2).bind fun x5=>cond (x==x5) (k x2) (gP (aB (x2+1)))) z) (G+10) 3 =
  cond (x==[45]) (k 3) (cond (x==[43]) (k 4) (cond (x==[33]) (k 5) (cond (x==[126]) (k 6) z))):=by kernel_rfl
section
variable (hl : s.length <= 1000000) (hi : a <= s.length) (hF : s.length + 60 <= F)
include hl hi hF
theorem af7(rs rc:Bs->Int->Int->Int->O RR)(rl:Int->Bs->Int->Int->Int->O RR)(ru rp:Bs->Int->Int->Int->O RR):
  gv F rs rc rl ru rp s (a:Int) 0 0=cond (uD (sy s a)==0) (rp s (skip s a:Int) 0 0)
   ((ru s (nx s a:Int) 0 0).bind fun x=>some (.mk (uD (sy s a)) 0 [] [x.1],x.2.1,x.2.2.1,x.2.2.2.1,x.2.2.2.2)):=by
 unfold gv wx;rw [ny F s a 0 0 hi om hl];obtain⟨G,rfl⟩:∃G,F=G+10:=⟨F-10,om⟩
 have key:=amA G (sy s a) (fun x2=>(ru s (aB ((skip s a:Int)+((sy s a).length:Int))) 0 0).bind fun x6=>some ((TExpr.mk ((TExpr.mk x2 0 [] ([x6.1]:J TExpr)).fOp) ((TExpr.mk x2 0 [] ([x6.1]:J TExpr)).fN) ((TExpr.mk x2 0 [] ([x6.1]:J TExpr)).fName) ((TExpr.mk x2 0 [] ([x6.1]:J TExpr)).fKids)),x6.2.1,x6.2.2.1,x6.2.2.2.1,x6.2.2.2.2))
  ((rp s (skip s a:Int) 0 0).bind fun x7=>some ((TExpr.mk x7.1.fOp x7.1.fN x7.1.fName x7.1.fKids),x7.2.1,x7.2.2.1,x7.2.2.2.1,x7.2.2.2.2))
 refine key.trans ?_;rw [G4];by_cases hu:uD (sy s a)=0
 ·have hu':(uD (sy s a)==0)=true:=by simpa using hu
  unfold uD at hu
  grind
 ·have hu':(uD (sy s a)==0)=false:=by simp_all
  obtain⟨m1,m2⟩:=dH hi (z7 hu)
  have hn:(skip s a:Int)+((sy s a).length:Int)=(nx s a:Int):=by
   have h2:=(Bt s a hi (z7 hu)).2;have h3:nx s a=skip s a+(tx s a).length:=rfl;rw [h3,h2];omega
  rw [hn,bN om];unfold uD at hu⊢;revert hu;cases (sy s a==[45])<;>cases (sy s a==[43])<;>cases (sy s a==[33])<;>cases (sy s a==[126])<;>intro hu<;>first|rfl|(simp at hu;done)
theorem akk(rs rc:Bs->Int->Int->Int->O RR)(rl:Int->Bs->Int->Int->Int->O RR)(ru rp:Bs->Int->Int->Int->O RR){c p:Int}(hc:c≠0):
  gv F rs rc rl ru rp s (a:Int) c p=rp s (skip s a:Int) c p:=by
 unfold gv wx;rw [ny F s a c p hi om hl];obtain⟨G,rfl⟩:∃G,F=G+1:=⟨F-1,om⟩
 grind [b8,G4]
theorem af8(rs rc:Bs->Int->Int->Int->O RR)(rl:Int->Bs->Int->Int->Int->O RR)(ru rp:Bs->Int->Int->Int->O RR){c p:Int}(hc:c≠0):
  cJ F rs rc rl ru rp s (a:Int) c p=some (.mk 0 0 [] [],s,(skip s a:Int),c,p):=by
 unfold cJ wx;rw [OK hc];simp only [aC];obtain⟨s1,s2⟩:=ic s a hi;rw [tD F s a c p hi om hl];simp only [aC];rw [Lz F s _ c p s1 om hl];have uz:(c != 0)=true:=by simpa using hc
 simp only [uz];rfl
end
def De(s:Bs)(x:O RR)(c p:Int):Prop:=∃(e:TExpr)(a:Nat),a<=s.length/\x=some (e,s,(a:Int),c,p)
theorem amB(hl:s.length<=1000000):bL fun F n=>∀a,a<=s.length->∀c p,c≠0->De s (bf F n s ((a:Nat):Int) c p) c p:=
 bL.succ ((gF s).mono fun F n hF a hi c p hc=>⟨_,skip s a,(ic s a hi).1,af8 hl hi hF (bD F n) (bC F n) (aO F n) (bp F n) (bf F n) hc⟩)
theorem ap6(hl:s.length<=1000000):bL fun F n=>∀a,a<=s.length->∀c p,c≠0->De s (bp F n s ((a:Nat):Int) c p) c p:=
 bL.succ ((gF s).kS (amB hl) fun F n hF h a hi c p hc=>by
  show De s (gv F (bD F n) (bC F n) (aO F n) (bp F n) (bf F n) s (a:Int) c p) c p
  simp_all [akk,ic])
theorem Jr(F:Nat)(rs rc:Bs->Int->Int->Int->O RR)(rl:Int->Bs->Int->Int->Int->O RR)(ru rp:Bs->Int->Int->Int->O RR)(l:Int)(h3:3<=l)(hl:l<=12)(s:Bs)(at' c p:Int):
  fH F rs rc rl ru rp l s at' c p=(rl (l+1) s at' c p).bind fun x2=>b8 (sj F rl l) F (x2.2.1,x2.2.2.1,x2.2.2.2.1,x2.2.2.2.2,x2.1.fOp,x2.1.fN,x2.1.fName,x2.1.fKids):=by
 unfold fH sj wx
 grind [decide_eq_false,bN]
theorem Ri(F:Nat)(rs rc:Bs->Int->Int->Int->O RR)(rl:Int->Bs->Int->Int->Int->O RR)(ru rp:Bs->Int->Int->Int->O RR)(l:Int)(hl:12<l)(s:Bs)(at' c p:Int):
  fH F rs rc rl ru rp l s at' c p=ru s at' c p:=by
 unfold fH wx
 grind [decide_eq_true,G4]
theorem Sm(F:Nat)(r:Int->Bs->Int->Int->Int->O RR)(l:Int)(m:Nat)(s:Bs)(at' c p:Int)(a:TExpr)(hc:c≠0):b8 (sj F r l) (m+1) (s,at',c,p,a.fOp,a.fN,a.fName,a.fKids)=some (a,s,at',c,p):=by
 have uz:(c==0)=false:=by simpa using hc
 show sj F r l (b8 (sj F r l) m) _=_;unfold sj;simp [uz]
theorem abe{s:Bs}(hl:s.length<=1000000):∀(k:Nat)(l:Int),l+k=13->3<=l->bL fun F n=>∀a,a<=s.length->∀c p,c≠0->De s (aO F n l s ((a:Nat):Int) c p) c p
 | 0,l,hk,h3=>bL.succ ((ap6 hl).mono fun F n h a hi c p hc=>by
   show De s (fH F (bD F n) (bC F n) (aO F n) (bp F n) (bf F n) l s (a:Int) c p) c p
   simp_all [Ri])
 | k+1,l,hk,h3=>bL.succ ((gF s).kS (abe hl k (l+1) om om) fun F n hF h a hi c p hc=>by
   show De s (fH F (bD F n) (bC F n) (aO F n) (bp F n) (bf F n) l s (a:Int) c p) c p;rw [Jr F _ _ _ _ _ l h3 om];obtain⟨e,a',gD,hx⟩:=h a hi c p hc;obtain⟨G,rfl⟩:∃G,F=G+1:=⟨F-1,om⟩
   grind [Sm])
theorem amC(hl:s.length<=1000000):bL fun F n=>∀a,a<=s.length->∀c p,c≠0->De s (bC F n s ((a:Nat):Int) c p) c p:=
 bL.succ ((abe hl 10 3 de de).mono fun F n h a hi c p hc=>by
  show De s (dG F (bD F n) (bC F n) (aO F n) (bp F n) (bf F n) s (a:Int) c p) c p;unfold dG wx;obtain⟨e,a',gD,hx⟩:=h a hi c p hc;rw [hx];simp;rw [OK hc];exact⟨_,a',gD,rfl⟩)
theorem ah6{s:Bs}(hl:s.length<=1000000):∀k:Nat,bL fun F n=>∀a,a<=s.length->s.length-a<k->∀c p,c≠0->De s (bD F n s ((a:Nat):Int) c p) c p
 | 0=>bL.of fun F n a _ h=>by omega
 | k+1=>bL.succ ((gF s).CD (amC hl) (ah6 hl k) fun F n hF h1 h2 a hi hk c p hc=>by
   show De s (ja F (bD F n) (bC F n) (aO F n) (bp F n) (bf F n) s (a:Int) c p) c p;rw [Gq hl hi hF]
   cases ha:(jy s a == -1) with
   | true=>simp_all [ic]
   | false=>
    have uz:(c==0)=false:=by simpa using hc
    obtain⟨_,_,m1,m2⟩:=wC hi (by simp_all);simp only [aK,uz];have e1:cond (rName (tx s a)) c c=c:=by simp_all
    have e2:cond (rName (tx s a)) p p=p:=by simp_all
    rw [e1,e2];obtain⟨e,a',gD,hx⟩:=h2 _ m1 om c p hc;rw [hx];exact⟨_,a',gD,rfl⟩)
def StR(s:Bs):VZ->Nat->vj->Prop
 | .expr,i,r=>bL fun F n=>∀a,a<=s.length->skip s a=skip s i->kG s r (bD F n s ((a:Nat):Int) 0 0)
 | .cond,i,r=>bL fun F n=>∀a,a<=s.length->skip s a=skip s i->kG s r (bC F n s ((a:Nat):Int) 0 0)
 | .level l,i,r=>bL fun F n=>∀a,a<=s.length->skip s a=skip s i->kG s r (aO F n l s ((a:Nat):Int) 0 0)
 | .loop l b,i,r=>∃N,∀F n m,N<=F->N<=n->N<=m->∀a,a<=s.length->skip s a=skip s i->kG s r (b8 (sj F (aO F n) l) m (s,((a:Nat):Int),0,0,b.fOp,b.fN,b.fName,b.fKids))
 | .un,i,r=>bL fun F n=>∀a,a<=s.length->skip s a=skip s i->kG s r (bp F n s ((a:Nat):Int) 0 0)
 | .nW,i,r=>bL fun F n=>∀a,a<=s.length->skip s a=skip s i->kG s r (bf F n s ((a:Nat):Int) 0 0)
def aoG(s:Bs):vj->Prop
 | .ok _ j=>j<=s.length
 | .err _ c=>c≠0
theorem DF{c:VZ}(d:RD s c i r):i<=s.length->aoG s r:=by
 have nb:∀ {i:Nat},i<=s.length->nx s i<=s.length:=fun h=>(kI s _ h).1
 induction d with
 | Bu h d ih=>exact ih
 | Bv h hn=>intro _;exact (show (10:Int)≠0 by decide)
 | Fp h hn d ih=>intro hi;exact ih (nb (nb hi))
 | Fq h hn d ih=>grind
 | Fs d ih=>exact ih
 | Ft d h ih=>exact ih
 | Fu d h d2 ih ih2=>intro hi;exact ih2 (nb (ih hi))
 | Fv d h d2 h2 ih ih2=>intro _;exact (show (6:Int)≠0 by decide)
 | LC d h d2 h2 d3 ih ih2 ih3=>intro hi;exact ih3 (nb (ih2 (nb (ih hi))))
 | Fw d h d2 h2 d3 ih ih2 ih3=>intro hi;exact ih3 (nb (ih2 (nb (ih hi))))
 | af4 hl d ih=>exact ih
 | Y6 h3 hl d ih=>exact ih
 | aki h3 hl d d2 ih ih2=>intro hi;exact ih2 (ih hi)
 | wB h=>exact id
 | Dd h d ih=>simp_all
 | GY h d d2 ih ih2=>intro hi;exact ih2 (ih (nb hi))
 | Bw h d ih=>exact ih
 | Fx h d ih=>simp_all
 | LF h d ih=>intro hi;exact ih (nb hi)
 | Fy h hv=>exact nb
 | Bx h hv=>intro _;exact hv
 | Fz h hv=>exact nb
 | Bz h hv=>intro _;exact (show (10:Int)≠0 by decide)
 | FA h1 h2 h=>intro _;exact (show (6:Int)≠0 by decide)
 | LG h d ih=>simp_all
 | xH h d h2 ih=>intro _;exact (show (6:Int)≠0 by decide)
 | LH h d h2 ih=>intro hi;exact nb (ih (nb hi))
theorem DG(hl:s.length<=1000000)(hi:a<=s.length)(hF:s.length+60<=F)(h:sy s a≠[40])(rs rc:Bs->Int->Int->Int->O RR)(rl:Int->Bs->Int->Int->Int->O RR)(ru rp:Bs->Int->Int->Int->O RR):
  cJ F rs rc rl ru rp s (a:Int) 0 0=cond (kq s (skip s a)==[]) (some (.mk 0 0 [] [],s,(skip s a:Int),6,(skip s a:Int)))
   (rq (decide (0<((kq s (skip s a)).length:Int))) ((nV F (((kq s (skip s a)).getD 0 0).toNat:Int)).bind fun x8=>
    cond x8 (cond (rName (kq s (skip s a))) (some (.mk 2 0 (kq s (skip s a)) [],s,aB ((skip s a:Int)+((kq s (skip s a)).length:Int)),0,0)) (some (.mk 2 0 (kq s (skip s a)) [],s,aB ((skip s a:Int)+((kq s (skip s a)).length:Int)),10,(skip s a:Int))))
     ((lK F (kq s (skip s a))).bind fun fq=>cond (cond (fq.2==0&&decide (9223372036854775807<fq.1)) 14 fq.2 != 0)
       (some (.mk 0 0 [] [],s,(skip s a:Int),cond (fq.2==0&&decide (9223372036854775807<fq.1)) 14 fq.2,(skip s a:Int)))
       (some (.mk 1 (aB fq.1) [] [],s,aB ((skip s a:Int)+((kq s (skip s a)).length:Int)),0,0))))):=by
 obtain⟨s1,s2⟩:=ic s a hi;unfold cJ wx;rw [Y7 hl hi hF h];simp only [aC];rw [tD F s (skip s a) 0 0 s1 om hl,wk];simp only [aC];rw [Lz F s _ 0 0 s1 om hl];simp only [aC];generalize kq s (skip s a)=w;rw [zh F w om]
 cases (w==[]) with
 | true=>rfl
 | false=>
  simp;congr 1;congr 1
  funext x8
  cases x8 with
  | true=>cases rName w<;>rfl
  | false=>
   simp;congr 1
   funext fq
   cases (fq.2==0) with
   | false=>simp;cases (fq.2 != 0)<;>rfl
   | true=>
    cases decide (9223372036854775807<fq.1) with
    | false=>simp;cases (fq.2 != 0)<;>rfl
    | true=>rfl
theorem adD(hl:s.length<=1000000)(hi:a<=s.length)(hF:s.length+60<=F){l:Int}(h3:3<=l)(hlv:mG s a=l)(ar6:l<=12)(r:Int->Bs->Int->Int->Int->O RR)(rc:SR->O RR)(e:TExpr):
  sj F r l rc (s,(a:Int),0,0,e.fOp,e.fN,e.fName,e.fKids)=(r (l+1) s (nx s a:Int) 0 0).bind fun x7=>rc (x7.2.1,x7.2.2.1,x7.2.2.2.1,x7.2.2.2.2,(gu (sy s a)).2,0,[],[e,x7.1]):=by
 have hne:=zL (l:=l) om (by show l<=mG s a;omega);obtain⟨m1,m2⟩:=dH hi hne
 have hn:(skip s a:Int)+((sy s a).length:Int)=(nx s a:Int):=by
  have h2:=(Bt s a hi hne).2;have h3:nx s a=skip s a+(tx s a).length:=rfl;rw [h3,h2];omega
 have hop:=(yR s a).op (show mG s a≠0 by omega)
 have akl:kU F (sy s a) l=some (gu (sy s a)).2:=by
  obtain⟨G,rfl⟩:∃G,F=G+20:=⟨F-20,om⟩;rw [(yR s a).bir,show ((gu (sy s a)).1==l)=true by simp_all];rfl
 unfold sj;rw [ny F s a 0 0 hi om hl];simp;rw [show nK (s.drop (skip s a))=sy s a from rfl,akl];have hz:((gu (sy s a)).2==0)=false:=by grind
 simp [hz,hn];rw [bN (x:=(nx s a:Int)) om,bN om];rfl
def VZ.ok:VZ->Prop
 | .loop l _=>3<=l/\l<=12
 | _=>True
theorem Uu(x:Bs)(h:(oP x).2=0):0<=(oP x).1/\(oP x).1<=9223372036854775807:=by
 unfold oP at h⊢
 cases hb:((qY x).2==[]) with
 | true=>rw [hb] at h;cases h
 | false=>
  unfold qh at h⊢
  grind
theorem aro(hl:s.length<=1000000){c:VZ}(d:RD s c i r):i<=s.length->c.ok->StR s c i r:=by
 have nb:∀ {i:Nat},i<=s.length->nx s i<=s.length:=fun h=>(kI s _ h).1
 induction d with
 | @Bu i r h d ih=>
  intro hi hok;refine bL.succ (bL.kS (ih hi trivial) (gF s) fun F n h1 hF a ha hs=>?_);show kG s r (ja F (bD F n) (bC F n) (aO F n) (bp F n) (bf F n) s (a:Int) 0 0)
  grind [Gq,LI,ic,wk]
 | @Bv i h hn=>
  intro hi hok;refine bL.succ (bL.kS (ah6 hl (s.length+1)) (gF s) fun F n h1 hF a ha hs=>?_);show kG s _ (ja F (bD F n) (bC F n) (aO F n) (bp F n) (bf F n) s (a:Int) 0 0);have hb:(jy s i == -1)=false:=by simp_all
  rw [Gq hl ha hF,LI hs,hb,z8 hs,hn,hs];simp only [aK,I3,aZ];obtain⟨e,a',gD,hx⟩:=h1 (nx s (nx s a)) (nb (nb ha)) om 10 (skip s i:Int) de;rw [hx]
  exact⟨by decide,_,a',gD,rfl⟩
 | @Fp i j e h hn d ih=>
  intro hi hok;refine bL.succ (bL.kS (ih (nb (nb hi)) trivial) (gF s) fun F n h1 hF a ha hs=>?_);show kG s _ (ja F (bD F n) (bC F n) (aO F n) (bp F n) (bf F n) s (a:Int) 0 0);have hb:(jy s i == -1)=false:=by simp_all
  rw [Gq hl ha hF,LI hs,hb,z8 hs,hn,kz hs];simp only [aK,aZ];obtain⟨a',gD,hs',hx⟩:=h1 (nx s (nx s i)) (nb (nb hi)) rfl;rw [hx]
  exact⟨a',gD,hs',rfl⟩
 | @Fq i p c h hn d ih=>
  intro hi hok;refine bL.succ (bL.kS (ih (nb (nb hi)) trivial) (gF s) fun F n h1 hF a ha hs=>?_);show kG s _ (ja F (bD F n) (bC F n) (aO F n) (bp F n) (bf F n) s (a:Int) 0 0);have hb:(jy s i == -1)=false:=by simp_all
  rw [Gq hl ha hF,LI hs,hb,z8 hs,hn,kz hs];simp only [aK,aZ];obtain⟨hc,e,a',gD,hx⟩:=h1 (nx s (nx s i)) (nb (nb hi)) rfl;rw [hx]
  exact⟨hc,_,a',gD,rfl⟩
 | @Fs i p c d ih=>
  intro hi hok;refine bL.succ (bL.mono (ih hi trivial) fun F n h1 a ha hs=>?_);show kG s _ (dG F (bD F n) (bC F n) (aO F n) (bp F n) (bf F n) s (a:Int) 0 0);unfold dG wx;obtain⟨hc,e,a',gD,hx⟩:=h1 a ha hs;rw [hx];simp only [aC];rw [OK hc]
  exact⟨hc,_,a',gD,rfl⟩
 | @Ft i j e d h ih=>
  intro hi hok;refine bL.succ (bL.kS (ih hi trivial) (gF s) fun F n h1 hF a ha hs=>?_);show kG s _ (dG F (bD F n) (bC F n) (aO F n) (bp F n) (bf F n) s (a:Int) 0 0);unfold dG wx;obtain⟨a',gD,hs',hx⟩:=h1 a ha hs;rw [hx];simp only [aC];rw [Y7 hl gD hF (by rw [jc hs'];exact h)];simp only [aC,qB,aZ,TExpr.eta]
  exact⟨skip s a',(ic s a' gD).1,(wk s a').trans hs',rfl⟩
 | @Fu i j p c e d h d2 ih ih2=>
  intro hi hok;have hj:j<=s.length:=DF d hi;refine bL.succ (bL.CD (ih hi trivial) (ih2 (nb hj) trivial) (gF s) fun F n h1 h2 hF a ha hs=>?_);show kG s _ (dG F (bD F n) (bC F n) (aO F n) (bp F n) (bf F n) s (a:Int) 0 0);unfold dG wx;obtain⟨a',gD,hs',hx⟩:=h1 a ha hs;rw [hx];simp only [aC];rw [yS hl gD hF de (by rw [jc hs'];exact h),kz hs'];simp only [aC,je,aK];obtain⟨hc,e2,a2,sw,hx2⟩:=h2 _ (nb hj) rfl;rw [hx2];simp only [aC];rw [OK hc];simp only [aC,qB,aZ];rw [Sk hc]
  exact⟨hc,_,a2,sw,rfl⟩
 | @Fv i j k e e2 d h d2 h2 ih ih2=>
  intro hi hok;have hj:j<=s.length:=DF d hi;refine bL.succ (bL.CD (ih hi trivial) (ih2 (nb hj) trivial) (gF s) fun F n h1 h3 hF a ha hs=>?_);show kG s _ (dG F (bD F n) (bC F n) (aO F n) (bp F n) (bf F n) s (a:Int) 0 0);unfold dG wx;obtain⟨a',gD,hs',hx⟩:=h1 a ha hs;rw [hx];simp only [aC];rw [yS hl gD hF de (by rw [jc hs'];exact h),kz hs'];simp only [aC,je,aK];obtain⟨a2,sw,hs2,hx2⟩:=h3 _ (nb hj) rfl;rw [hx2];simp only [aC];rw [Y7 hl sw hF (by rw [jc hs2];exact h2),hs2]
  exact⟨by decide,_,skip s k,(by rw [<-hs2];exact (ic s a2 sw).1),rfl⟩
 | @LC i j k p c e e2 d h d2 h2 d3 ih ih2 ih3=>
  intro hi hok;have hj:j<=s.length:=DF d hi;have hk:k<=s.length:=DF d2 (nb hj);refine bL.succ (bL.CD ((ih hi trivial).and (ih3 (nb hk) trivial)) (ih2 (nb hj) trivial) (gF s) fun F n h1 h3 hF a ha hs=>?_);obtain⟨h1,h4⟩:=h1;show kG s _ (dG F (bD F n) (bC F n) (aO F n) (bp F n) (bf F n) s (a:Int) 0 0);unfold dG wx;obtain⟨a',gD,hs',hx⟩:=h1 a ha hs;rw [hx];simp only [aC];rw [yS hl gD hF de (by rw [jc hs'];exact h),kz hs'];simp only [aC,je,aK];obtain⟨a2,sw,hs2,hx2⟩:=h3 _ (nb hj) rfl;rw [hx2];simp only [aC];rw [yS hl sw hF de (by rw [jc hs2];exact h2),kz hs2];simp only [aC,je,aK];obtain⟨hc,e4,a4,ha4,hx4⟩:=h4 _ (nb hk) rfl;rw [hx4]
  exact⟨hc,_,a4,ha4,rfl⟩
 | @Fw i j k m e e2 e3 d h d2 h2 d3 ih ih2 ih3=>
  intro hi hok;have hj:j<=s.length:=DF d hi;have hk:k<=s.length:=DF d2 (nb hj);refine bL.succ (bL.CD ((ih hi trivial).and (ih3 (nb hk) trivial)) (ih2 (nb hj) trivial) (gF s) fun F n h1 h3 hF a ha hs=>?_);obtain⟨h1,h4⟩:=h1;show kG s _ (dG F (bD F n) (bC F n) (aO F n) (bp F n) (bf F n) s (a:Int) 0 0);unfold dG wx;obtain⟨a',gD,hs',hx⟩:=h1 a ha hs;rw [hx];simp only [aC];rw [yS hl gD hF de (by rw [jc hs'];exact h),kz hs'];simp only [aC,je,aK];obtain⟨a2,sw,hs2,hx2⟩:=h3 _ (nb hj) rfl;rw [hx2];simp only [aC];rw [yS hl sw hF de (by rw [jc hs2];exact h2),kz hs2];simp only [aC,je,aK];obtain⟨a4,ha4,hs4,hx4⟩:=h4 _ (nb hk) rfl;rw [hx4];simp only [aC,TExpr.eta]
  exact⟨a4,ha4,hs4,rfl⟩
 | @af4 l i r hv d ih=>
  intro hi hok;refine bL.succ (bL.mono (ih hi trivial) fun F n h1 a ha hs=>?_);show kG s _ (fH F (bD F n) (bC F n) (aO F n) (bp F n) (bf F n) l s (a:Int) 0 0)
  simp_all [Ri]
 | @Y6 l i p c h3 hv d ih=>
  intro hi hok;refine bL.succ (bL.kS (ih hi trivial) (gF s) fun F n h1 hF a ha hs=>?_);show kG s _ (fH F (bD F n) (bC F n) (aO F n) (bp F n) (bf F n) l s (a:Int) 0 0);rw [Jr F _ _ _ _ _ l h3 hv];obtain⟨hc,e,a',gD,hx⟩:=h1 a ha hs;rw [hx];obtain⟨G,rfl⟩:∃G,F=G+1:=⟨F-1,om⟩
  grind [Sm]
 | @aki l i j e r h3 hv d d2 ih ih2=>
  intro hi hok;have hj:j<=s.length:=DF d hi;obtain⟨N,h2⟩:=ih2 hj ⟨h3,hv⟩;refine bL.succ (bL.kS (ih hi trivial) (bL.ge (p:=fun F n=>N<=F/\N<=n) N fun F n a b=>⟨a,b⟩) fun F n h1 hN a ha hs=>?_);show kG s _ (fH F (bD F n) (bC F n) (aO F n) (bp F n) (bf F n) l s (a:Int) 0 0);rw [Jr F _ _ _ _ _ l h3 hv];obtain⟨a',gD,hs',hx⟩:=h1 a ha hs
  simp_all
 | @wB l i e h=>
  intro hi hok;refine⟨s.length+60,fun F n m hF _ hm a ha hs=>?_⟩
  cases m with
  | zero=>omega
  | succ m=>
   show kG s _ (sj F (aO F n) l (b8 (sj F (aO F n) l) m) (s,(a:Int),0,0,e.fOp,e.fN,e.fName,e.fKids));unfold sj
   have akl:kU F (sy s a) l=some 0:=by
    obtain⟨G,rfl⟩:∃G,F=G+20:=⟨F-20,om⟩;rw [(yR s a).bir,jc hs,show ((gu (sy s i)).1==l)=false by rw [gK];exact h];rfl
   simp only [I3,aZ];rw [ny F s a 0 0 ha om hl];simp only [aC];rw [show nK (s.drop (skip s a))=sy s a from rfl,akl];simp only [aC,I3,aZ,TExpr.eta]
   exact⟨skip s a,(ic s a ha).1,(wk s a).trans hs,rfl⟩
 | @Dd l i p c e h d ih=>
  intro hi hok;obtain⟨N,h1⟩:=ih (nb hi) trivial;obtain⟨h3,h12⟩:=hok;refine⟨N+s.length+60,fun F n m hF hn hm a ha hs=>?_⟩
  cases m with
  | zero=>omega
  | succ m=>
   cases m with
   | zero=>omega
   | succ m=>
    show kG s _ (sj F (aO F n) l (b8 (sj F (aO F n) l) (m+1)) (s,(a:Int),0,0,e.fOp,e.fN,e.fName,e.fKids));rw [adD hl ha om h3 (by rw [mG,jc hs];exact h) h12,kz hs,jc hs];obtain⟨hc,e2,a',gD,hx⟩:=h1 F n om om _ (nb hi) rfl;rw [hx];simp only [aC]
    refine⟨hc,_,a',gD,Sm F (aO F n) l m s (a':Int) c (p:Int) (.mk (gu (sy s i)).2 0 [] [e,e2]) hc⟩
 | @GY l i j e e2 r h d d2 ih ih2=>
  intro hi hok;have hj:j<=s.length:=DF d (nb hi);obtain⟨N,h1⟩:=ih (nb hi) trivial;obtain⟨N2,h2⟩:=ih2 hj hok;obtain⟨h3,h12⟩:=hok;refine⟨N+N2+s.length+60,fun F n m hF hn hm a ha hs=>?_⟩
  cases m with
  | zero=>omega
  | succ m=>
   show kG s _ (sj F (aO F n) l (b8 (sj F (aO F n) l) m) (s,(a:Int),0,0,e.fOp,e.fN,e.fName,e.fKids));rw [adD hl ha om h3 (by rw [mG,jc hs];exact h) h12,kz hs,jc hs];obtain⟨a',gD,hs',hx⟩:=h1 F n om om _ (nb hi) rfl;rw [hx]
   exact h2 F n m om om om a' gD hs'
 | @Bw i r h d ih=>
  intro hi hok;refine bL.succ (bL.kS (ih hi trivial) (gF s) fun F n h1 hF a ha hs=>?_);show kG s _ (gv F (bD F n) (bC F n) (aO F n) (bp F n) (bf F n) s (a:Int) 0 0)
  grind [af7,jc,ic,wk]
 | @Fx i p c h d ih=>
  intro hi hok;refine bL.succ (bL.kS (ih (nb hi) trivial) (gF s) fun F n h1 hF a ha hs=>?_);show kG s _ (gv F (bD F n) (bC F n) (aO F n) (bp F n) (bf F n) s (a:Int) 0 0);have hb:(uD (sy s i)==0)=false:=by rw [gK];exact h
  rw [af7 hl ha hF,jc hs,hb,kz hs];obtain⟨hc,e,a',gD,hx⟩:=h1 _ (nb hi) rfl;rw [hx]
  exact⟨hc,_,a',gD,rfl⟩
 | @LF i j e h d ih=>
  intro hi hok;refine bL.succ (bL.kS (ih (nb hi) trivial) (gF s) fun F n h1 hF a ha hs=>?_);show kG s _ (gv F (bD F n) (bC F n) (aO F n) (bp F n) (bf F n) s (a:Int) 0 0);have hb:(uD (sy s i)==0)=false:=by rw [gK];exact h
  rw [af7 hl ha hF,jc hs,hb,kz hs];obtain⟨a',gD,hs',hx⟩:=h1 _ (nb hi) rfl;rw [hx]
  exact⟨a',gD,hs',rfl⟩
 | @Fy i h hv=>
  intro hi hok;refine bL.succ (bL.mono (gF s) fun F n hF a ha hs=>?_);show kG s _ (cJ F (bD F n) (bC F n) (aO F n) (bp F n) (bf F n) s (a:Int) 0 0);rw [<-F9 hs] at h;rw [<-z8 hs] at hv⊢;rw [<-kz hs];rcases mo s a ha with⟨h',_,_,_⟩|⟨w,b,h',Xx,hw,hd,hl'⟩|⟨w,b,h',_,hw,hd,hl'⟩|⟨x',h',_,hw,hm,_⟩|⟨b,h',_,hw,_⟩<;>(first|(unfold kd at h;rw [h'] at h;simp at h;done)|skip);have ht:tx s a=b::w:=by unfold tx;rw [h']
  have hn:(nx s a:Int)=(skip s a:Int)+((b::w).length:Int):=by unfold nx;rw [ht];omega
  rw [ht] at hv⊢;rw [DG hl ha hF (by rw [Xx];decide),hw];have hp:decide (0<((b::w).length:Int))=true:=dW (by simp_all);obtain⟨m,e,c1,c2,c3⟩:=aa1 F (b::w) si om om;have c3:=c3 hv;rw [hv] at c2;simp only [show ((b::w)==[])=false from rfl,aK,hp,gJ,UY,wz,af6 b hd,aC,c1,c2,M8];have hrg:=(Uu (b::w) hv);rw [c3,bN (x:=(oP (b::w)).1) om,bN (x:=(skip s a:Int)+((b::w).length:Int)) om,<-hn]
  exact⟨nx s a,nb ha,rfl,rfl⟩
 | @Bx i h hv=>
  intro hi hok;refine bL.succ (bL.mono (gF s) fun F n hF a ha hs=>?_);show kG s _ (cJ F (bD F n) (bC F n) (aO F n) (bp F n) (bf F n) s (a:Int) 0 0);rw [<-F9 hs] at h;rw [<-z8 hs] at hv⊢;rw [<-hs];rcases mo s a ha with⟨h',_,_,_⟩|⟨w,b,h',Xx,hw,hd,hl'⟩|⟨w,b,h',_,hw,hd,hl'⟩|⟨x',h',_,hw,hm,_⟩|⟨b,h',_,hw,_⟩<;>(first|(unfold kd at h;rw [h'] at h;simp at h;done)|skip);have ht:tx s a=b::w:=by unfold tx;rw [h']
  rw [ht] at hv⊢;rw [DG hl ha hF (by rw [Xx];decide),hw];have hp:decide (0<((b::w).length:Int))=true:=dW (by simp_all);obtain⟨m,e,c1,c2,c3⟩:=aa1 F (b::w) si om om;have hb:((oP (b::w)).2 != 0)=true:=by simpa using hv
  simp only [show ((b::w)==[])=false from rfl,aK,hp,gJ,UY,wz,af6 b hd,aC,c1,c2,hb,aZ]
  exact⟨hv,_,skip s a,(ic s a ha).1,rfl⟩
 | @Fz i h hv=>
  intro hi hok;refine bL.succ (bL.mono (gF s) fun F n hF a ha hs=>?_);show kG s _ (cJ F (bD F n) (bC F n) (aO F n) (bp F n) (bf F n) s (a:Int) 0 0);rw [<-F9 hs] at h;rw [<-z8 hs] at hv⊢;rw [<-kz hs];rcases mo s a ha with⟨h',_,_,_⟩|⟨w,b,h',_,hw,hd,hl'⟩|⟨w,b,h',Xx,hw,hd,hl'⟩|⟨x',h',_,hw,hm,_⟩|⟨b,h',_,hw,_⟩<;>(first|(unfold kd at h;rw [h'] at h;simp at h;done)|skip);have ht:tx s a=b::w:=by unfold tx;rw [h']
  have hn:(nx s a:Int)=(skip s a:Int)+((b::w).length:Int):=by unfold nx;rw [ht];omega
  rw [ht] at hv⊢;rw [DG hl ha hF (by rw [Xx];decide),hw];have hp:decide (0<((b::w).length:Int))=true:=dW (by simp_all);simp only [show ((b::w)==[])=false from rfl,aK,hp,gJ,UY,wz,hd,aC,aZ,hv];rw [bN (x:=(skip s a:Int)+((b::w).length:Int)) om,<-hn]
  exact⟨nx s a,nb ha,rfl,rfl⟩
 | @Bz i h hv=>
  intro hi hok;refine bL.succ (bL.mono (gF s) fun F n hF a ha hs=>?_);show kG s _ (cJ F (bD F n) (bC F n) (aO F n) (bp F n) (bf F n) s (a:Int) 0 0);rw [<-F9 hs] at h;rw [<-z8 hs] at hv;rw [<-hs];rcases mo s a ha with⟨h',_,_,_⟩|⟨w,b,h',_,hw,hd,hl'⟩|⟨w,b,h',Xx,hw,hd,hl'⟩|⟨x',h',_,hw,hm,_⟩|⟨b,h',_,hw,_⟩<;>(first|(unfold kd at h;rw [h'] at h;simp at h;done)|skip);have ht:tx s a=b::w:=by unfold tx;rw [h']
  have hn:(nx s a:Int)=(skip s a:Int)+((b::w).length:Int):=by unfold nx;rw [ht];omega
  rw [ht] at hv;rw [DG hl ha hF (by rw [Xx];decide),hw];have hp:decide (0<((b::w).length:Int))=true:=dW (by simp_all);simp only [show ((b::w)==[])=false from rfl,aK,hp,gJ,UY,wz,hd,aC,aZ,hv];rw [bN (x:=(skip s a:Int)+((b::w).length:Int)) om,<-hn]
  exact⟨by decide,_,nx s a,nb ha,rfl⟩
 | @FA i h1 h2 h=>
  intro hi hok;refine bL.succ (bL.mono (gF s) fun F n hF a ha hs=>?_);show kG s _ (cJ F (bD F n) (bC F n) (aO F n) (bp F n) (bf F n) s (a:Int) 0 0);rw [<-F9 hs] at h1 h2;rw [<-jc hs] at h;rw [<-hs]
  have hw:kq s (skip s a)=[]:=by
   rcases mo s a ha with⟨h',_,hw,_⟩|⟨w,b,h',_,hw,hd,hl'⟩|⟨w,b,h',Xx,hw,hd,hl'⟩|⟨x',h',_,hw,hm,_⟩|⟨b,h',_,hw,_⟩
   ·exact hw
   ·unfold kd at h1;simp_all
   ·unfold kd at h2;simp_all
   ·exact hw
   ·exact hw
  rw [DG hl ha hF h,hw]
  exact⟨by decide,_,skip s a,(ic s a ha).1,rfl⟩
 | @LG i p c h d ih=>
  intro hi hok;refine bL.succ (bL.kS (ih (nb hi) trivial) (gF s) fun F n h1 hF a ha hs=>?_);show kG s _ (cJ F (bD F n) (bC F n) (aO F n) (bp F n) (bf F n) s (a:Int) 0 0);unfold cJ wx;rw [yS hl ha hF de (by rw [jc hs];exact h),kz hs];simp only [aC,aZ];obtain⟨hc,e,a',gD,hx⟩:=h1 _ (nb hi) rfl;rw [hx];simp only [aC];rw [OK hc];simp only [aC,qB,aZ];rw [Sk hc]
  exact⟨hc,_,a',gD,rfl⟩
 | @xH i j e h d h2 ih=>
  intro hi hok;refine bL.succ (bL.kS (ih (nb hi) trivial) (gF s) fun F n h1 hF a ha hs=>?_);show kG s _ (cJ F (bD F n) (bC F n) (aO F n) (bp F n) (bf F n) s (a:Int) 0 0);unfold cJ wx;rw [yS hl ha hF de (by rw [jc hs];exact h),kz hs];simp only [aC,aZ];obtain⟨a',gD,hs',hx⟩:=h1 _ (nb hi) rfl;rw [hx];simp only [aC];rw [Y7 hl gD hF (by rw [jc hs'];exact h2),hs']
  exact⟨by decide,_,skip s j,(by rw [<-hs'];exact (ic s a' gD).1),rfl⟩
 | @LH i j e h d h2 ih=>
  intro hi hok;refine bL.succ (bL.kS (ih (nb hi) trivial) (gF s) fun F n h1 hF a ha hs=>?_);show kG s _ (cJ F (bD F n) (bC F n) (aO F n) (bp F n) (bf F n) s (a:Int) 0 0);unfold cJ wx;rw [yS hl ha hF de (by rw [jc hs];exact h),kz hs];simp only [aC,aZ];obtain⟨a',gD,hs',hx⟩:=h1 _ (nb hi) rfl;rw [hx];simp only [aC];rw [yS hl gD hF de (by rw [jc hs'];exact h2)];simp only [aC,je,aK,TExpr.eta];exact⟨nx s a',nb gD,(by rw [kz hs']),rfl⟩
theorem alu(h:-9223372036854775808<=n/\n<=9223372036854775807):(Lit.int .i64 n).wf=true:=by
 have h1:IntKind.i64.min=-9223372036854775808:=by decide
 have h2:IntKind.i64.max=9223372036854775807:=by decide
 simp [Lit.wf];omega
theorem amD:∀x,x∈([]::pL)->sX x<=26:=by decide
theorem aoH(x:Bs):0<=uD x/\uD x<=6:=by
 unfold uD
 grind
theorem amE:∀x,x∈([]::pL)->0<=(gu x).2/\(gu x).2<=26:=by decide
def ap7(s:Bs)(c:nH)(i:Nat):vj->Prop
 | .ok e j=>iD e/\(match c with | .loop _ a=>nodes e+i<=j+nodes a|_=>nodes e+i<=j)
 | .err _ _=>True
def nH.okA:nH->Prop
 | .oper l=>0<l
 | .loop l a=>0<l/\iD a
 | _=>True
theorem KT(s:Bs)(i:Nat)(hl:s.length<=1000000)(hi:i<=s.length):(tx s i).length<=maxLen:=by
 have:=ah3 hi;have h:(1000000:Nat)<=maxLen:=by decide
 omega
theorem Iv{op:Int}{name:Bs}{kids:J TExpr}(h1:0<=op/\op<=26)(h2:-1<=n/\n<=9223372036854775807)(h3:name.length<=maxLen)(h4:kids.length<=3)(h5:∀x,x∈kids->iD x):iD (.mk op n name kids):=
 .mk op n name kids (alu om) (alu om) h3 (oD h4 de) h5
theorem aoI(hl:s.length<=1000000){c:nH}(d:D s c i r):i<=s.length->c.okA->ap7 s c i r:=by
 induction d with
 | @Bu i r h d ih=>
  intro hi _;have:=ih hi trivial
  cases r with
  | ok e j=>exact this
  | err p c=>trivial
 | Bv h hn=>intro _ _;trivial
 | @Fp i j e h hn d ih=>
  intro hi _;obtain⟨a,b,c,f⟩:=wC hi h;obtain⟨x,y⟩:=ih c trivial;have g:=amD _ (OH s (nx s i));have g2:=adC _ (OH s (nx s i));rw [(OI h).2.2];refine⟨Iv om om (KT s i hl hi) si (by simpa using x),?_⟩
  simp [nodes,mm];omega
 | Fq h hn d ih=>intro _ _;trivial
 | Fs d ih=>intro _ _;trivial
 | Ft d h ih=>intro hi _;exact ih hi (show (0:Int)<3 by decide)
 | Fu d h d2 ih ih2=>intro _ _;trivial
 | Fv d h d2 h2 ih ih2=>intro _ _;trivial
 | LC d h d2 h2 d3 ih ih2 ih3=>intro _ _;trivial
 | @Fw i j k m a b e d h d2 h2 d3 ih ih2 ih3=>
  intro hi _;obtain⟨_,p1,_⟩:=mq d hi (show (0:Int)<3 by decide);obtain⟨m1,m2⟩:=dH p1 (by rw [h];decide);obtain⟨_,p2,_⟩:=mq d2 m1 trivial;obtain⟨m3,m4⟩:=dH p2 (by rw [h2];decide);obtain⟨o1,n1⟩:=ih hi (show (0:Int)<3 by decide);obtain⟨o2,n2⟩:=ih2 m1 trivial;obtain⟨o3,n3⟩:=ih3 m3 trivial;refine⟨Iv om om si si (by simp_all),?_⟩
  simp [nodes,mm];omega
 | Ut d ih=>intro _ _;trivial
 | @VY l i j a r d d2 ih ih2=>
  intro hi hc;obtain⟨_,p1,_⟩:=mq d hi trivial;obtain⟨o1,n1⟩:=ih hi trivial;have:=ih2 p1 ⟨hc,o1⟩
  cases r with
  | ok e k=>
   obtain⟨o2,n2⟩:=this
   exact⟨o2,show nodes e+i<=k by omega⟩
  | err p c=>trivial
 | wB h=>intro hi hc;exact⟨hc.2,bz⟩
 | Dd h d ih=>intro _ _;trivial
 | @GY l i j a b r h d d2 ih ih2=>
  intro hi hc;obtain⟨hc1,JY⟩:=hc;obtain⟨m1,m2⟩:=dH hi (zL hc1 h);obtain⟨_,p1,_⟩:=mq d m1 (show (0:Int)<_ by omega);obtain⟨o1,n1⟩:=ih m1 (show (0:Int)<_ by omega);have g:=amE _ (OH s i);have:=ih2 p1 ⟨hc1,Iv g om si si (by simpa using⟨JY,o1⟩)⟩
  cases r with
  | ok e k=>
   obtain⟨o2,n2⟩:=this;refine⟨o2,?_⟩
   simp [nodes,mm] at n2;omega
  | err p c=>trivial
 | @Bw i r h d ih=>
  intro hi _;have:=ih hi trivial
  cases r with
  | ok e j=>exact this
  | err p c=>trivial
 | Fx h d ih=>intro _ _;trivial
 | @LF i j a h d ih=>
  intro hi _;obtain⟨m1,m2⟩:=dH hi (z7 h);obtain⟨o1,n1⟩:=ih m1 trivial;have g:=aoH (sy s i);refine⟨Iv om om si si (by simpa using o1),?_⟩
  simp [nodes,mm];omega
 | @Fy i h hv=>
  intro hi _;have m:=(kI s i hi).2.2 (by rw [h];decide);have g:=Uu _ hv;refine⟨Iv om om si si si,?_⟩
  simp [nodes,mm];omega
 | Bx h hv=>intro _ _;trivial
 | @Fz i h hv=>
  intro hi _;have m:=(kI s i hi).2.2 (by rw [h];decide);refine⟨Iv om om (KT s i hl hi) si si,?_⟩
  simp [nodes,mm];omega
 | Bz h hv=>intro _ _;trivial
 | FA h1 h2 h=>intro _ _;trivial
 | LG h d ih=>intro _ _;trivial
 | xH h d h2 ih=>intro _ _;trivial
 | @LH i j e h d h2 ih=>
  intro hi _;obtain⟨m1,m2⟩:=dH hi (by rw [h];decide);obtain⟨_,p1,_⟩:=mq d m1 trivial;obtain⟨m3,m4⟩:=dH p1 (by rw [h2];decide);obtain⟨o1,n1⟩:=ih m1 trivial;exact⟨o1,show nodes e+i<=nx s j by omega⟩
mutual
def kW:TExpr->Int
 | .mk _ _ _ kids=>sZ kids 0+1
def sZ:J TExpr->Int->Int
 | [],m=>m
 | k::l,m=>sZ l (cond (decide (m<kW k)) (kW k) m)
end
theorem ah7(e:TExpr):kW e=sZ e.fKids 0+1:=by cases e;rfl
theorem Uv:∀(l m:J TExpr)(z:Int),sZ (l++m) z=sZ m (sZ l z)
 | [],m,z=>rfl
 | k::l,m,z=>by simp [sZ,Uv l m]
theorem Iw:∀(l:J TExpr)(z:Int),0<=z->(∀k,k∈l->0<=kW k/\kW k<=(nodes k:Int))->z<=sZ l z/\sZ l z<=z+(mm l:Int)
 | [],z,h,_=>by simp [sZ,mm]
 | k::l,z,h,hk=>by
  have h1:=hk k si;simp [sZ,mm]
  cases hc:decide (z<kW k) with
  | true=>
   have hc:=Ae hc;have h2:=Iw l (kW k) om fun k h=>hk k (kf _ h)
   simp;omega
  | false=>
   have h2:=Iw l z h fun k h=>hk k (kf _ h);simp;omega
theorem ah8(e:TExpr):0<=kW e/\kW e<=(nodes e:Int):=by
 induction e using TExpr.ind with
 | h op n name kids ih=>
  have:=Iw kids 0 om ih;simp [kW,nodes];omega
theorem Uw{r:TExpr->O Int}{l:J TExpr}(hF:l.length<F)(hb:l.length<=9223372036854775807)(hn:mm l<=1000000)(hr:∀k,k∈l->r k=some (kW k)):
  b8 (σ:=Int×Int) (fun bA x1=>
   cond (decide (x1.2<(l.length:Int)))
   (rq ((decide (0<=x1.2))&&(decide (x1.2<(l.length:Int)))) ((r (l.getD (Int.toNat x1.2) dB)).bind fun x3=>
   bA (cond (decide (x1.1<x3)) x3 x1.1,aB (x1.2+1))))
   (some (aB (x1.1+1)))) F (0,0)=some (sZ l 0+1):=by
 refine Ox (fun i=>(sZ (l.take i) 0,(i:Int))) l.length hF rfl ?_ ?_
 ·intro i rc hi
  simp only [xU hi,bZ,gd hi,bx (i:=i) om,hr _ (gU hi)];rw [ahL hi,Uv];rfl
 ·intro rc
  have h:=Iw l 0 om fun k _=>ah8 k;simp;rw [bN om]
theorem akm(ho:iD e):nodes e<=1000000->bL fun F n=>uE F n e=some (kW e)/\xJ F n e=some (kW e):=by
 revert e;apply iD.ind;intro e h4 h5 ih hn;rw [GO] at hn;refine bL.succ ((bL.all fun k hk=>ih k hk (by have:=Im hk;omega)).kS (bL.ge (e.fKids.length+1) fun F n h _=>h) fun F m ih hF=>?_);rw [ah7];refine⟨?_,Uw hF h4 om fun k hk=>(ih k hk).2⟩;show Ek F (uE F m) e=_;unfold Ek wx;simp;exact Uw hF h4 om fun k hk=>(ih k hk).1
def xK:TExpr:=.mk 0 0 [] []
def PS(s:Bs):vj->TExpr×Int×Int
 | .ok e j=>cond (decide (skip s j<s.length)) (xK,(skip s j:Int),6) (cond (decide (32<kW e)) (xK,0,5) (e,0,0))
 | .err p c=>(xK,(p:Int),c)
theorem abf(s:Bs)(i:Nat)(hi:i<=s.length):(kd s i==0)=!(decide (skip s i<s.length)):=by
 unfold kd;rcases mo s i hi with⟨h',_,_,he⟩|⟨w,b,h',_,_,_,hl⟩|⟨w,b,h',_,_,_,hl⟩|⟨x',h',hs,_,hm,hl⟩|⟨b,h',_,_,hl⟩<;>rw [h']
 ·simp_all
 ·grind
 ·grind
 ·have:x'.length≠0:=by
   simp_all [CG]
  grind
 grind
theorem akn(hlen:s.length<=4096)(h0:skip s 0<s.length)(d:D s .expr 0 r):
  bL fun F _=>pS F s=some (PS s r)/\pT F s=some (PS s r):=by
 have hl:s.length<=1000000:=om;have hA:=D_A hl d (eA _) trivial;have hR:=aro hl (arl d) (eA _) trivial;have hk0:(kd s 0==0)=false:=by simp_all [abf,eA,dW]
 have LJ:decide (4096<(s.length:Int))=false:=tK om;have hat:((skip s 0:Int)==(s.length:Int))=false:=by grind
 have start:∀F,s.length+60<=F->ua F s 0=some ⟨kd s 0,po s 0,tx s 0⟩:=fun F hF=>by
  rw [<-Qa s 0 (eA _)];exact VU F s 0 (eA _) om hl
 have rstart:∀F,s.length+60<=F->fX F s 0 0 0=some (s,(skip s 0:Int),0,0):=fun F hF=>tD F s 0 0 0 (eA _) om hl
 cases r with
 | err p c=>
  refine bL.CD hA.fst hR.fst (gF s) fun F _ h1 h2 hF=>⟨?_,?_⟩
  ·obtain⟨st,h1⟩:=h1
   unfold pS mP wx;rw [LJ,start F hF];simp [aK,hk0];rw [h1];rfl
  ·obtain⟨hc,e,a,ha,hx⟩:=h2 (skip s 0) om (wk s 0)
   unfold pT zM wx;rw [LJ,rstart F hF];simp [aK,hat,hx];rw [tD F s a c p ha om hl];simp only [aC];rw [Sk hc];have uz:(c != 0)=true:=by simpa using hc
   cases decide ((skip s a:Int)<(s.length:Int))<;>simp [aZ,uz]<;>rfl
 | ok e j=>
  obtain⟨_,hj,_⟩:=mq d (eA _) trivial;obtain⟨ho,hn⟩:=aoI hl d (eA _) trivial;refine bL.CD (hA.fst.and hR.fst) (akm ho om).fst (gF s) fun F _ h12 hd hF=>?_;obtain⟨h1,h2⟩:=h12;obtain⟨Xj,Xk⟩:=hd;obtain⟨a,ha,hs,hx⟩:=h2 (skip s 0) om (wk s 0);have hkj:=abf s j hj;have hne:(kd s j != 0)=decide (skip s j<s.length):=by grind
  refine⟨?_,?_⟩
  ·unfold pS mP Js wx
   rw [LJ,start F hF];simp [aK,hk0];rw [h1];simp [sm,hne,Xj];show _=some (cond (decide (skip s j<s.length)) (xK,(skip s j:Int),6) (cond (decide (32<kW e)) (xK,0,5) (e,0,0)))
   cases decide (skip s j<s.length) with
   | true=>rfl
   | false=>cases decide (32<kW e)<;>rfl
  ·unfold pT zM OL wx
   rw [LJ,rstart F hF];simp [aK,hat,hx];rw [tD F s a 0 0 ha om hl,hs];simp only [aC,Xk];show _=some (cond (decide (skip s j<s.length)) (xK,(skip s j:Int),6) (cond (decide (32<kW e)) (xK,0,5) (e,0,0)));by_cases hlt:skip s j<s.length
   ·rw [dW hlt,dW om]
    rfl
   ·rw [tK hlt,tK om]
    cases decide (32<kW e)<;>rfl
theorem acQ(hlen:s.length<=4096)(h0:¬ skip s 0<s.length):bL fun F _=>pS F s=some (.mk 1 0 [] [],0,0)/\pT F s=some (.mk 1 0 [] [],0,0):=by
 have hl:s.length<=1000000:=om;refine (gF s).mono fun F _ hF=>?_;have hk0:(kd s 0==0)=true:=by simp_all [abf,eA,tK]
 have LJ:decide (4096<(s.length:Int))=false:=tK om;have hsk:=(ic s 0 (eA _)).1;have hat:((skip s 0:Int)==(s.length:Int))=true:=by rw [uW];omega
 have start:ua F s 0=some ⟨kd s 0,po s 0,tx s 0⟩:=by
  rw [<-Qa s 0 (eA _)];exact VU F s 0 (eA _) om hl
 have rstart:fX F s 0 0 0=some (s,(skip s 0:Int),0,0):=tD F s 0 0 0 (eA _) om hl;constructor
 ·unfold pS wx
  rw [LJ,start];simp [aK,hk0];rfl
 ·unfold pT wx
  rw [LJ]
  simp_all
theorem acR(s:Bs)(hs:s.length<=4096):∃x,(iD x.1/\nodes x.1<=10000)/\bL fun F _=>pS F s=some x/\pT F s=some x:=by
 have hz:iD xK/\nodes xK<=10000:=⟨Iv om om si si si,by decide⟩;by_cases h0:skip s 0<s.length
 ·obtain⟨r,d⟩:=aoF s 0 (eA _)
  refine⟨_,?_,akn om h0 d⟩
  cases r with
  | err p c=>exact hz
  | ok e j=>
   obtain⟨ho,hn⟩:=aoI om d (eA _) trivial;obtain⟨_,hj,_⟩:=mq d (eA _) trivial;show iD (cond (decide (skip s j<s.length)) (xK,(skip s j:Int),(6:Int)) (cond (decide (32<kW e)) (xK,0,5) (e,0,0))).1/\nodes (cond (decide (skip s j<s.length)) (xK,(skip s j:Int),(6:Int)) (cond (decide (32<kW e)) (xK,0,5) (e,0,0))).1<=10000
   cases decide (skip s j<s.length) with
   | true=>exact hz
   | false=>
    cases decide (32<kW e) with
    | true=>exact hz
    | false=>
     have hn:nodes e+0<=j:=hn;exact⟨ho,by show nodes e<=10000;omega⟩
 ·exact⟨_,⟨Iv om om si si si,by decide⟩,acQ om h0⟩
end Go.Proofs.YtpgbhdldcmcenaaGreatDoor.K
