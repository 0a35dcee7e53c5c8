import Derived.Test.YthmndfnkdgmenaaGreatDoorZ2
import Derived.Test.YthmndfnkdgmenaaGreatDoorSo
import Derived.Lib.SplitLaws
import Derived.Lib.LastIndexByte
import Derived.Lib.Join
set_option linter.all false
namespace Go.Proofs.YthmndfnkdgmenaaGreatDoor
open Go.RT
def lG:Bs->J Bs
 | []=>[[]]
 | b::l=>cond (b==47) ([]::lG l) (match lG l with
  | []=>[[b]]
  | p::ps=>(b::p)::ps)
theorem afS(l:Bs):(lG l).length<=l.length+1:=by
 induction l with
 | nil=>simp [lG]
 | cons b l ih=>
  unfold lG
  grind
theorem WZ(l:Bs):∀p∈lG l,p.length<=l.length:=by
 induction l with
 | nil=>intro p hp;simp [lG] at hp;subst hp;simp
 | cons b l ih=>
  intro p hp;unfold lG at hp
  grind
theorem VW:∀(l:Bs)(n:Nat),(∀j,j<n->l.getD j 0≠47)->n<l.length->l.getD n 0=47->lG l=l.take n::lG (l.drop (n+1))
 | [],n,_,h,_=>by simp at h
 | b::l,0,_,_,h=>by
  have hb:b=47:=by simpa using h
  subst hb
  simp [lG]
 | b::l,n+1,h0,h1,h2=>by
  have hb:(b==47)=false:=by
   have:=h0 0 om;simpa using this
  have ih:=VW l n (fun j hj=>by
   grind) (by simpa using h1) (by simpa using h2)
  rw [lG,hb,ih];simp
theorem RZ:∀(l:Bs),(∀j,j<l.length->l.getD j 0≠47)->lG l=[l]
 | [],_=>rfl
 | b::l,h0=>by
  have hb:(b==47)=false:=by
   have:=h0 0 si;simpa using this
  have ih:=RZ l (fun j hj=>by
   have:=h0 (j+1) (by simpa using hj);simpa using this)
  unfold lG;rw [hb,aS,ih]
theorem akB{α:Type}(l:J α)(f k:Nat):sl l (f:Int) (k:Int)=(l.take k).drop f:=by simp [sl]
theorem acj{α:Type}(l:J α)(f:Nat):sl l (f:Int) (l.length:Int)=l.drop f:=by simp [sl]
theorem ama{α:Type}(l:J α):sl l 1 (l.length:Int)=l.drop 1:=acj l 1
theorem UB{α:Type}(l:J α)(k:Nat):sl l 0 (k:Int)=l.take k:=by simp [sl]
theorem afT(F:Nat)(s:Bs)(hF:s.length<F)(hs:s.length<1000000000):IB F s=some (lG s):=by
 refine dw (fun x=>∃f k:Nat,x.2.1=(f:Int)/\x.2.2=(k:Int)/\f<=k/\k<=s.length/\x.1.length<=f/\x.1++lG (s.drop f)=lG s/\∀j,f<=j->j<k->s.getD j 0≠47) (fun x=>s.length-x.2.2.toNat) ?_ F _ ⟨0,0,rfl,rfl,om,om,si,si,fun j _ hj=>om⟩ (by simpa using hF);rintro⟨o,fr,ii⟩ ⟨f,k,h0,h0',h1,h2,h3,h4,h5⟩;dsimp only at h0 h0' h3 h4 h5⊢;subst h0 h0';by_cases hk:k<s.length
 ·left
  have hg:s.getD k 0=s[k]:=gd hk
  cases hb:(s[k]==47) with
  | true=>
   refine⟨(o++[sl s (f:Int) (k:Int)],((k+1:Nat):Int),((k+1:Nat):Int)),⟨k+1,k+1,rfl,rfl,om,om,bF,?_,fun j h h'=>om⟩,bF,fun rc=>?_⟩
   ·have hc:=VW (s.drop f) (k-f) (fun j hj=>by
     have:=h5 (f+j) om om
     simp_all)
    grind [List.drop_drop,akB,List.take_drop]
   ·rw [cO om,bR om om,bQ,hg,qT _ 47 om,hb,bu,CH om om om,bR bF bF,cJ om]
  | false=>
   refine⟨(o,(f:Int),((k+1:Nat):Int)),⟨f,k+1,rfl,rfl,om,om,h3,h4,fun j h h'=>?_⟩,bF,fun rc=>?_⟩
   ·grind
   ·rw [cO om,bR om om,bQ,hg,qT _ 47 om,hb,aS,cJ om]
 ·right
  obtain rfl:k=s.length:=om;intro rc;rw [cf om,CH om om om,bR bF bF,<-h4,acj,RZ]
  simp_all
def amb(b:UInt8):Bool:=b==47||b==0
def ux(s:Bs):Bool:=(decide (1<=s.length)&&decide (s.length<=32))&&(!(s==[46])&&(!(s==[46,46]) && !(s.any amb)))
theorem ahR(F:Nat)(s:Bs)(hF:s.length<F)(hs:s.length<1000000000000):El F s=some (ux s):=by
 unfold El;rw [qj s (fun i=>(i:Int)) amb (fun _ _=>some false) (some true) hF (by rfl) (fun i h rc=>?_) (fun rc=>?_),FN]
 ·simp [aK]
  have e1:(decide ((s.length:Int)<1)||decide (32<(s.length:Int)))=!(decide (1<=s.length)&&decide (s.length<=32)):=by
   grind
  unfold ux
  grind
 ·rw [cO om,bR om om,bR om om,bQ,gd h,qT _ 47 om,qT _ 0 om,aK,cJ om]
  rfl
 ·rw [cf om]
def Em(s:Bs):Bool:=s==[47]||((decide (2<=s.length)&&decide (s.length<=128))&&(s.getD 0 0==47&&(lG (s.drop 1)).all ux))
theorem afU(p:J Bs):cond (p.any fun n=>!ux n) (some false) (some true)=some (p.all ux):=by
 grind
theorem Yz(F:Nat)(s:Bs)(hF:200<=F):uW F s=some (Em s):=by
 unfold uW Em
 cases h1:(s==[47]) with
 | true=>rfl
 | false=>
  simp only [aS,aK,aD,cT];by_cases h2:2<=s.length/\s.length<=128
  ·rw [dF om,dF om,Bool.or_self,aS,sw om,aD,Ym _ 47 om,dT h2.1,dT h2.2]
   cases h3:(s.getD 0 0==47) with
   | false=>rfl
   | true=>
    rw [ku,bR om om,ama,afT F _ bF bF,aD];have hl:=afS (s.drop 1);have hm:=WZ (s.drop 1);simp only [Kc] at hl hm;rw [qj (lG (s.drop 1)) (fun i=>(i:Int)) (fun n=>!ux n) (fun _ _=>some false) (some true) om (by rfl) (fun i h rc=>?_) (fun rc=>?_),FN,afU]
    ·rfl
    ·have:=hm _ (kz h)
     rw [cO om,bR om om,bQ,gd h,ahR F _ om om,aD,cJ om]
    ·rw [cf om]
  grind
def uf(s:Bs):Nat:=(Lib.lastIndexByte ⟨⟨s⟩⟩ 47).toNat
def p9(s:Bs):Bs:=cond (uf s==0) [47] (s.take (uf s))
theorem b47(b:UInt8):((b.toNat:Int)=47)↔b=47:=by
 have:=qT b 47 om;rw [sM] at this;simpa using this
theorem YA(s:Bs):(Lib.lastIndexByte ⟨⟨s⟩⟩ 47=-1/\∀j,j<s.length->s.getD j 0≠47) \/
  ∃i:Nat,i<s.length/\Lib.lastIndexByte ⟨⟨s⟩⟩ 47=i/\s.getD i 0=47/\∀j,i<j->j<s.length->s.getD j 0≠47:=by
 have h:=Lib.lastIdx_spec ⟨⟨s⟩⟩ 47 s.length;simp [b47] at h;exact h
theorem R1(s:Bs)(a:Nat)(h1:(a<s.length/\s.getD a 0=47)\/a=0)(h2:∀j,a<j->j<s.length->s.getD j 0≠47):uf s=a:=by
 unfold uf
 grind [YA,Nat.lt_trichotomy]
theorem ahS(s:Bs):((uf s<s.length/\s.getD (uf s) 0=47)\/uf s=0)/\∀j,uf s<j->j<s.length->s.getD j 0≠47:=by
 unfold uf
 grind [YA]
theorem amc(s:Bs):uf s<=s.length:=by
 grind [ahS]
theorem akC(F:Nat)(s:Bs)(hF:s.length<F)(hs:s.length<1000000000):MV F s=some (uf s:Int):=by
 refine dw (fun x=>∃a k:Nat,x.1=(a:Int)/\x.2=(k:Int)/\k<=s.length/\((a<k/\s.getD a 0=47)\/a=0)/\∀j,a<j->j<k->s.getD j 0≠47) (fun x=>s.length-x.2.toNat) ?_ F _ ⟨0,0,rfl,rfl,om,.inr rfl,fun j _ hj=>om⟩ (by simpa using hF);rintro⟨aa,ii⟩ ⟨a,k,h0,h0',h1,h2,h3⟩;subst h0 h0';by_cases hk:k<s.length
 ·left
  have hg:s.getD k 0=s[k]:=gd hk
  cases hb:(s[k]==47) with
  | true=>
   refine⟨((k:Int),((k+1:Nat):Int)),⟨k,k+1,rfl,rfl,om,.inl ⟨om,by simp_all⟩,fun j h h'=>om⟩,bF,fun rc=>?_⟩
   rw [cO om,bR om om,bQ,hg,qT _ 47 om,hb,bu,cJ om]
  | false=>
   refine⟨((a:Int),((k+1:Nat):Int)),⟨a,k+1,rfl,rfl,om,?_,fun j h h'=>?_⟩,bF,fun rc=>?_⟩
   ·grind
   ·grind
   ·rw [cO om,bR om om,bQ,hg,qT _ 47 om,hb,aS,cJ om]
 ·right
  obtain rfl:k=s.length:=om;intro rc;rw [cf om,R1 s a h2 h3]
theorem adN(F:Nat)(s:Bs)(hF:s.length<F)(hs:s.length<1000000000):zq F s=some (p9 s):=by
 unfold zq p9;rw [akC F s hF hs,aD];have:=amc s;by_cases h:uf s=0
 ·rw [h];rfl
 ·have e1:((uf s:Int)==0)=false:=by simpa using h
  have e2:(uf s==0)=false:=by simpa using h
  rw [e1,e2,aS,aS,bR om om,UB]
def MW(p:Bs)(f:bt):Bool:=f.bS==p
def Kl(l:J bt)(p:Bs):O bt:=l.find? (MW p)
def QF(l:J bt)(p:Bs):Bool:=l.any (MW p)
def fiS(l:J bt)(p:Bs):Int:=(l.findIdx? (MW p)).elim (-1) fun j=>(j:Int)
theorem ahT(F:Nat)(l:J bt)(p:Bs)(hF:l.length<F)(hl:l.length<1000000000):En F l p=some (fiS l p):=by
 unfold En fiS;rw [qj l (fun i=>(i:Int)) (MW p) (fun i _=>some (i:Int)) (some (-1)) hF (by rfl) (fun i h rc=>?_) (fun rc=>?_),QG _ _ _ bO]
 ·cases l.findIdx? (MW p)<;>simp
 ·rw [cO om,bR om om,bQ,gd h,cJ om]
  rfl
 ·rw [cf om]
theorem afV(l:J bt)(p:Bs):(l.findIdx? (MW p)=none/\Kl l p=none/\QF l p=false)\/∃j,j<l.length/\l.findIdx? (MW p)=some j/\Kl l p=some (l.getD j bO)/\QF l p=true:=by
 unfold Kl QF
 induction l with
 | nil=>simp_all
 | cons f l ih=>
  grind
theorem ahU(l:J bt)(p:Bs):(fiS l p=-1/\Kl l p=none/\QF l p=false)\/∃j:Nat,j<l.length/\fiS l p=(j:Int)/\Kl l p=some (l.getD j bO)/\QF l p=true:=by
 unfold fiS
 grind [afV]
def R2(a p:Bs):Bool:=cond (a==[47]) (!(p==[47])) (decide (a.length+1<=p.length)&&p.take (a.length+1)==a++[47])
theorem afW(F:Nat)(a p:Bs):Cb F a p=some (R2 a p):=by
 unfold Cb R2;cases (a==[47])
 ·by_cases h:a.length+1<=p.length
  ·have hl:a.length<p.length:=om
   rw [cO om,bR om om,UB,aD,dT h]
   have e:(p.take (a.length+1)==a++[47])=(p.take a.length==a&&p.getD a.length 0==47):=by
    rw [qA hl]
    grind [List.append_inj]
   rw [e];cases (p.take a.length==a)
   ·rfl
   ·rw [bR om om,qT _ 47 om]
    rfl
  grind
 ·rfl
def OS(l:J bt)(p:Bs):Int:=cond (l.any fun f=>!f.nM&&R2 f.bS p) 18 (cond (QF l (p9 p)) 0 8)
theorem ahV(F:Nat)(l:J bt)(p:Bs)(hF:l.length<F)(hl:l.length<1000000000)(hp:p.length<1000000000)(hpF:p.length<F):zu F l p=some (OS l p):=by
 unfold zu;rw [qj l (fun i=>(i:Int)) (fun f=>!f.nM&&R2 f.bS p) (fun _ _=>some 18) (some (cond (QF l (p9 p)) 0 8)) hF (by rfl) (fun i h rc=>?_) (fun rc=>?_),FN,aK]
 ·rfl
 ·rw [bR om om,bR om om,bQ,afW F _ _,cJ om]
  grind
 ·rw [cf om,adN F p hpF hp,aD,ahT F l _ hF hl]
  rcases ahU l (p9 p) with⟨h1,h2,h3⟩|⟨j,h0,h1,h2,h3⟩
  ·rw [h1,h3];rfl
  grind
def Lx(l:J bt)(k:Nat):Int:=
 cond (!Em (l.getD k bO).bS) 10
 (cond (((l.getD k bO).nM && !((l.getD k bO).fData==[]))||((l.getD k bO).bS==[47] && !(l.getD k bO).nM)) 1
 (cond (decide (8192<(l.getD k bO).fData.length)) 3
 (cond (decide (0<k)&&(Op.bytesLess (l.getD k bO).bS (l.getD (k-1) bO).bS||(l.getD k bO).bS==(l.getD (k-1) bO).bS)) 25
 (cond (decide (0<k)) (OS (l.take k) (l.getD k bO).bS) 0))))
def VX(l:J bt):Nat->Nat->Int
 | 0,_=>0
 | n+1,k=>cond (Lx l k==0) (VX l n (k+1)) (Lx l k)
def gX(l:J bt):Int:=cond (decide (128<l.length)) 4 (cond (l.length==0 || !((l.getD 0 bO).bS==[47])) 8 (VX l l.length 0))
def MX(l:J bt):Prop:=l.length<=140/\∀f∈l,f.bS.length<=300/\f.fData.length<=9000
theorem MX.at{l:J bt}(h:MX l)(k:Nat):(l.getD k bO).bS.length<=300/\(l.getD k bO).fData.length<=9000:=by
 by_cases hk:k<l.length
 ·rw [gd hk];exact h.2 _ (kz hk)
 ·have:l.getD k bO=bO:=by simp_all
  rw [this];exact⟨by decide,by decide⟩
theorem an4(l:J bt):(cond ((l.length:Int)==0)
 (some true)
 (rq (decide (0<(l.length:Int))) (some (!(((l.getD 0 bO).bS)==([47]:Bs))))):O Bool)=some (l.length==0 || !((l.getD 0 bO).bS==[47])):=by
  cases l with
  | nil=>rfl
  | cons f l=>
   have e1:((((f::l).length:Nat):Int)==0)=false:=by simp;omega
   have e2:((f::l).length==0)=false:=by simp
   rw [e2,sw si];rfl
theorem ahW(l:J bt)(k:Nat)(r:O Int):cond (!Em (l.getD k bO).bS) (some 10)
 (cond (((l.getD k bO).nM && !((l.getD k bO).fData==[]))||((l.getD k bO).bS==[47] && !(l.getD k bO).nM)) (some 1)
 (cond (decide (8192<(l.getD k bO).fData.length)) (some 3)
 (cond (decide (0<k)&&(Op.bytesLess (l.getD k bO).bS (l.getD (k-1) bO).bS||(l.getD k bO).bS==(l.getD (k-1) bO).bS)) (some 25)
 (cond (decide (0<k)) (cond (OS (l.take k) (l.getD k bO).bS != 0) (some (OS (l.take k) (l.getD k bO).bS)) r) r))))=cond (Lx l k==0) r (some (Lx l k)):=by
 unfold Lx
 grind
theorem an5{l:J bt}{body:(Int->O Int)->Int->O Int}(F:Nat)(hF:l.length<F)(hs:∀(k:Nat) rc,k<l.length->body rc (k:Int)=cond (Lx l k==0) (rc ((k+1:Nat):Int)) (some (Lx l k)))(he:∀rc,body rc (l.length:Int)=some 0):bV body F 0=some (VX l l.length 0):=by
 refine dw (fun x=>∃k n:Nat,x=(k:Int)/\k+n=l.length/\VX l n k=VX l l.length 0) (fun x=>l.length-x.toNat) ?_ F _ ⟨0,l.length,rfl,om,rfl⟩ (by simpa using hF);rintro x ⟨k,n,rfl,h1,h2⟩
 cases n with
 | zero=>
  right;obtain rfl:k=l.length:=om;intro rc
  rw [he,<-h2];rfl
 | succ n=>
  rw [VX] at h2
  cases hv:(Lx l k==0) with
  | true=>
   left;rw [hv] at h2
   exact⟨_,⟨k+1,n,rfl,om,h2⟩,bF,fun rc=>by grind⟩
  | false=>
   grind
theorem amd(l:J bt)(k:Nat)(hk:k<l.length)(hl:l.length<1000000000):(cond (decide (0<(k:Int)))
 (rq ((decide (0<=aB ((k:Int)-1)))&&(decide (aB ((k:Int)-1)<(l.length:Int)))) (some (Op.bytesLess ((l.getD k bO).bS) ((l.getD (Int.toNat (aB ((k:Int)-1))) bO).bS)||((l.getD k bO).bS)==((l.getD (Int.toNat (aB ((k:Int)-1))) bO).bS))))
 (some false):O Bool)=some (decide (0<k)&&(Op.bytesLess (l.getD k bO).bS (l.getD (k-1) bO).bS||(l.getD k bO).bS==(l.getD (k-1) bO).bS)):=by
  by_cases h0:0<k
  ·rw [cO om,wY om h0,bR om om,bQ,dT h0,Qw]
  simp_all
theorem apf(k:Nat):decide (0<(k:Int))=decide (0<k):=by
 simp_all
theorem ame(n k:Nat):decide ((k:Int)<(n:Int))=decide (k<n):=by
 simp_all
theorem afX(F:Nat)(l:J bt)(hF:400<=F)(h:MX l):Cc F l=some (gX l):=by
 have hl:=h.1;unfold Cc gX;rw [show decide (128<(l.length:Int))=decide (128<l.length) from ame _ 128,an4]
 cases decide (128<l.length) with
 | true=>rfl
 | false=>
  cases (l.length==0 || !((l.getD 0 bO).bS==[47])) with
  | true=>rfl
  | false=>
   refine an5 F om (fun k rc hk=>?_) (fun rc=>?_)
   ·rw [cO om,bR om om,bQ,Yz F _ om,amd l k hk om]
    simp only [aK,cF,aD,cT];rw [show decide (8192<(((l.getD k bO).fData.length:Nat):Int))=decide (8192<(l.getD k bO).fData.length) from ame _ 8192,apf,bR om om,UB];have:=(h.at k).1;rw [ahV F (l.take k) _ bF bF om om,aD,cJ om,<-ahW]
   ·rw [cf om]
theorem ahX(F:Nat)(l:J bt)(hF:200<=F):∃b,(b=true->MX l)/\IC F l=some b:=by
 refine Ep (fun b=>b=true->MX l) (fun x=>∃n k:Nat,x.1=(n:Int)/\x.2=(k:Int)/\k<=l.length/\k<=140/\n<=10000*k/\∀f∈l.take k,f.bS.length<=300/\f.fData.length<=9000) (fun x=>140-x.2.toNat) ?_ F _ ⟨0,0,rfl,rfl,om,om,om,si⟩ bF;rintro⟨nn,ii⟩ ⟨n,k,h0,h0',h1,h2,h3,h4⟩;subst h0 h0';simp only [aK,cF,aD];by_cases hc:k<l.length/\k<140/\n<40000
 ·have hk:=hc.1
  have e:((decide ((k:Int)<(l.length:Int))&&decide ((k:Int)<140))&&decide ((n:Int)<40000))=true:=by
   grind
  rw [e];simp only [bQ,gd hk];by_cases hb:l[k].bS.length<=300/\l[k].fData.length<=9000
  ·left
   refine⟨(((n+l[k].bS.length+l[k].fData.length:Nat):Int),((k+1:Nat):Int)),⟨_,k+1,rfl,rfl,om,om,om,fun f hf=>?_⟩,bF,fun rc=>?_⟩
   ·grind [List.take_succ_eq_append_getElem,List.mem_singleton]
   ·grind [bG,bR]
  ·right
   refine⟨false,fun h=>(by cases h),fun rc=>?_⟩;rw [bR om om];by_cases hp:l[k].bS.length<=300
   ·rw [cf om,bR om om,dT om];rfl
   grind
 ·have e:((decide ((k:Int)<(l.length:Int))&&decide ((k:Int)<140))&&decide ((n:Int)<40000))=false:=by
   grind
  right;rw [e];refine⟨_,fun h=>?_,fun rc=>rfl⟩;simp at h;refine⟨om,fun f hf=>h4 f ?_⟩
  grind
set_option maxRecDepth 100000
theorem w1:Cd 60 [47,97,47,98] [46,46,47,99,47,46,47,100,47]=some ([47,97,47,99,47,100],0):=by kernel_rfl
theorem w2:Cd 60 [47] [46,46]=some ([47],0):=by kernel_rfl
def zw:J Bs->Bs
 | []=>[]
 | [x]=>x
 | x::y::l=>x++47::zw (y::l)
theorem adO(x:Bs){l:J Bs}(h:l≠[]):zw (x::l)=x++47::zw l:=by
 cases l with
 | nil=>exact absurd rfl h
 | cons y l=>rfl
theorem R3:∀(l:J Bs)(c:Bs),l≠[]->zw (l++[c])=zw l++47::c
 | [],c,h=>absurd rfl h
 | [x],c,_=>rfl
 | x::y::l,c,_=>by
  have ih:=R3 (y::l) c si;rw [wV,adO x si,ih,zw];simp
def amf(c:Bs):Prop:=∀b∈c,b≠47
theorem afY{c:Bs}(h:ux c=true):amf c:=by
 intro b hb e;unfold ux at h;simp only [cx,FD] at h;have:=List.any_eq_false.1 h.2.2.2 b hb;subst e;exact this rfl
theorem Km{c:Bs}(h:ux c=true):1<=c.length/\c.length<=32:=by
 unfold ux at h;simp only [cx,fW] at h;exact h.1
def pathOf(l:J Bs):Bs:=[47]++zw l
def Names(l:J Bs):Prop:=∀c∈l,ux c=true
theorem Names.snoc{l:J Bs}(h:Names l){c:Bs}(hc:ux c=true):Names (l++[c]):=by
 intro x hx;rcases yy.1 hx with hx|hx
 ·exact h x hx
 ·simp only [MD] at hx;subst hx;exact hc
theorem Names.dropLast{l:J Bs}(h:Names l):Names l.dropLast:=fun c hc=>h c (List.dropLast_subset l hc)
theorem akD{l:J Bs}(h:Names l)(hl:l≠[]):zw l≠[]:=by
 match l,hl with
 | [x],_=>
  have:=Km (h x si)
  intro e;rw [zw] at e;rw [e] at this;simp at this
 | x::y::l,_=>intro e;rw [zw] at e;simp at e
theorem abc{l:J Bs}(h:Names l):(pathOf l==[47])=(l==[]):=by
 cases l with
 | nil=>rfl
 | cons x l=>
  have:=akD h si;rw [show ((x::l)==[])=false from rfl];simp only [pathOf,wV,pX,gN,ne_eq,List.cons.injEq,uL];exact this
theorem R4(a c:Bs)(hc:amf c):uf (a++47::c)=a.length:=by
 refine R1 _ _ (.inl ⟨si,by simp [List.getD]⟩) fun j hj hl=>?_
 have e:(a++47::c).getD j 0=c.getD (j-a.length-1) 0:=by
  rw [List.getD,Iy om,show j-a.length=(j-a.length-1)+1 by omega,List.getElem?_cons_succ];rfl
 simp at hl;rw [e,gd om];exact hc _ (kz _)
theorem abd{l:J Bs}(h:Names l){c:Bs}(hc:ux c=true):p9 (pathOf (l++[c]))=pathOf l:=by
 have h47:=afY hc
 cases l with
 | nil=>
  have:uf (pathOf ([]++[c]))=0:=R4 [] c h47;unfold p9;rw [this]
  rfl
 | cons x l=>
  have e:pathOf ((x::l)++[c])=pathOf (x::l)++47::c:=by
   rw [pathOf,R3 _ _ si,pathOf];simp
  have:uf (pathOf ((x::l)++[c]))=(pathOf (x::l)).length:=by rw [e];exact R4 _ c h47
  unfold p9;rw [this];have h0:((pathOf (x::l)).length==0)=false:=by simp [pathOf]
  rw [h0,aS,e];simp
theorem YB{l:J Bs}(h:Names l):p9 (pathOf l)=pathOf l.dropLast:=by
 rcases List.eq_nil_or_concat l with rfl|⟨l',c,rfl⟩
 ·rfl
 ·rw [List.concat_eq_append] at h⊢
  have hc:ux c=true:=h c si;have hl:Names l':=fun x hx=>h x (by simp [hx]);rw [abd hl hc];simp
def PU(l:J bt):Prop:=l.Pairwise fun x y=>x.bS<y.bS
structure VL(l:List bt):Prop where
 len:l.length<=128
 pos:0<l.length
 root:(l.getD 0 bO).bS=[47]
 path:∀f∈l,Em f.bS=true
 dir:∀f∈l,f.nM=true->f.fData=[]
 amg:∀f∈l,f.bS=[47]->f.nM=true
 data:∀f∈l,f.fData.length<=8192
 asc:PU l
 apg:∀k,0<k->k<l.length->OS (l.take k) (l.getD k bO).bS=0
theorem YC(l:J bt):∀(n k:Nat),VX l n k=0↔∀j,k<=j->j<k+n->Lx l j=0
 | 0,k=>⟨fun _ j h h'=>om,fun _=>rfl⟩
 | n+1,k=>by
  rw [VX]
  cases h:(Lx l k==0) with
  | true=>
   rw [bu,YC l n (k+1)];constructor
   ·intro h1 j h2 h3
    by_cases e:j=k
    ·subst e;simpa using h
    ·exact h1 j om om
   ·intro h1 j h2 h3
    exact h1 j om om
  | false=>
   rw [aS];constructor
   ·intro h1;rw [h1] at h;cases h
   ·intro h1
    have:=h1 k om om;rw [this] at h;cases h
theorem R5:∀ {l:J bt},(∀k,0<k->k<l.length->(l.getD (k-1) bO).bS<(l.getD k bO).bS)->PU l
 | [],_=>List.Pairwise.nil
 | [x],_=>ac8 _ _
 | x::y::l,h=>by
  have ih:PU (y::l):=R5 fun k h1 h2=>by
   have:=h (k+1) om (by simpa using h2);rw [show k+1-1=(k-1)+1 by omega] at this;simpa using this
  have hxy:x.bS<y.bS:=by
   have:=h 1 om si;simpa using this
  refine wU.2 ⟨fun z hz=>?_,ih⟩;rcases iq.1 hz with rfl|hz
  ·exact hxy
  ·exact qn hxy ((wU.1 ih).1 z hz)
theorem akE{l:J bt}(h:PU l)(i j:Nat)(hij:i<j)(hj:j<l.length):(l.getD i bO).bS<(l.getD j bO).bS:=by
 rw [gd (show i<l.length by omega),gd hj];exact adt.1 h i j om hj hij
theorem ahY(l:J bt)(k:Nat):Lx l k=0↔Em (l.getD k bO).bS=true/\((l.getD k bO).nM=true->(l.getD k bO).fData=[])/\((l.getD k bO).bS=[47]->(l.getD k bO).nM=true) /\
  (l.getD k bO).fData.length<=8192/\(0<k->(l.getD (k-1) bO).bS<(l.getD k bO).bS)/\(0<k->OS (l.take k) (l.getD k bO).bS=0):=by
 unfold Lx;generalize l.getD k bO=f;generalize l.getD (k-1) bO=g
 cases h1:Em f.bS with
 | false=>simp
 | true=>
  cases h2:((f.nM && !(f.fData==[]))||(f.bS==[47] && !f.nM)) with
  | true=>
   grind
  | false=>
   have h3:f.nM=true->f.fData=[]:=fun h=>by
    simp_all
   have h4:f.bS=[47]->f.nM=true:=fun h=>by
    simp_all
   by_cases h5:8192<f.fData.length
   ·grind
   ·rw [cf h5]
    by_cases h6:0<k
    ·rw [<-an6 g.bS f.bS]
     cases h7:Op.bytesLess g.bS f.bS with
     | true=>
      simp_all [Kn,ku,aS]
     | false=>
      have:=(CI _ _).1 h7
      grind
    simp_all
theorem afZ(l:J bt):gX l=0↔VL l:=by
 unfold gX;by_cases h1:128<l.length
 ·rw [cO h1]
  exact⟨fun h=>(by cases h),fun h=>by have:=h.len;omega⟩
 ·rw [cf h1]
  cases h2:(l.length==0 || !((l.getD 0 bO).bS==[47])) with
  | true=>
   refine⟨fun h=>(by cases h),fun h=>?_⟩;have a:=h.pos;have b:=h.root
   simp_all
  | false=>
   rw [aS];simp only [XG,gN,Bool.not_eq_false',ue] at h2;rw [YC];simp only [ahY];constructor
   ·intro h
    have hm:∀f∈l,∃k,k<l.length/\l.getD k bO=f:=fun f hf=>by
     grind [List.getElem_of_mem,gd]
    refine⟨om,om,h2.2,?_,?_,?_,?_,R5 fun k h3 h4=>(h k om om).2.2.2.2.1 h3,fun k h3 h4=>(h k om om).2.2.2.2.2 h3⟩
    ·grind
    ·grind
    ·grind
    grind
   ·intro h j hj hj'
    have hj':j<l.length:=om;have hm:l.getD j bO∈l:=by simp_all
    exact⟨h.path _ hm,h.dir _ hm,h.amg _ hm,h.data _ hm,fun h0=>akE h.asc (j-1) j om hj',fun h0=>h.apg j h0 hj'⟩
def qo(s:Bs):Bs:=s.drop (uf s+1)
def aph(p:Bs)(f:bt):Bool:=!(f.bS==[47])&&p9 f.bS==p
def an7(l:J bt)(p:Bs):J Bs:=(l.filter (aph p)).map fun f=>qo f.bS
end Go.Proofs.YthmndfnkdgmenaaGreatDoor

namespace Go.Proofs.YthmndfnkdgmenaaGreatDoor
open Go.RT
theorem YE(s:Bs):bZ (dn s)=s:=by
 unfold bZ dn;rw [Be];have:((fun n=>UInt8.ofNat n.toNat) ∘ fun b=>(b.toNat:Int))=id:=by funext b;simp
 rw [this,T9]
def MY(c:Int):Bool:=c != 0&&(c != 1&&c != 2)
def MZ(r:aH):J fG:=cond (MY r.b8) [] (r.fText.map fun b=>fG.mk (b.toNat:Int) (r.b8 != 1))
def rB(r:aH):J eG:=cond (MY r.b8) [] (r.fText.map fun b=>eG.mk (b.toNat:Int) (r.b8 != 1))
theorem ack(r:aH):(MZ r).length<=r.fText.length:=by unfold MZ;grind
theorem UC(r:aH):(rB r).length<=r.fText.length:=by unfold rB;grind
theorem Jq{α:Type}(f:aH->J α)(hf:∀r,(f r).length<=r.fText.length):∀l:J aH,(l.flatMap f).length<=cz l
 | []=>by simp
 | r::l=>by
  have:=Jq f hf l;have:=hf r;simp [XF,cz] at *;omega
theorem akF{l:J aH}{r:aH}(h:r∈l):r.fText.length<=cz l:=by
 induction l with
 | nil=>cases h
 | cons a l ih=>
  rcases iq.1 h with rfl|h
  ·simp [cz]
  ·have:=ih h
   simp [cz] at *;omega
theorem M0{α:Type}(f:aH->J α)(l:J aH)(k:Nat)(h:k<l.length):(l.take (k+1)).flatMap f=(l.take k).flatMap f++f l[k]:=by
 grind [List.take_succ_eq_append_getElem]
theorem YF(c:Int):(cond (c != 0) (some (c != 1)) (some false):O Bool)=some (c != 0&&c != 1):=by cases (c != 0)<;>rfl
theorem acm(c:Int):cond (c != 0&&c != 1) (c != 2) false=MY c:=by unfold MY;grind
theorem PV(F:Nat)(l:J aH)(hF:l.length<F)(qR:cz l<F)(h1:l.length<1000000000)(h2:cz l<=1000000000):Bz F l=some (l.flatMap MZ):=by
 refine dw (fun x=>∃k:Nat,x.2=(k:Int)/\k<=l.length/\x.1=(l.take k).flatMap MZ) (fun x=>l.length-x.2.toNat) ?_ F _ ⟨0,rfl,om,si⟩ bF;rintro⟨acc,ii⟩ ⟨k,h0,hk,ha⟩;subst h0;by_cases hk:k<l.length
 ·left
  have hg:l.getD k dm=l[k]:=gd hk;have hal:acc.length<=cz (l.take k):=by grind [Jq,ack]
  have hs:=p6 l k hk;have hle:=tT l (k+1);refine⟨((l.take (k+1)).flatMap MZ,((k+1:Nat):Int)),⟨k+1,rfl,om,rfl⟩,bF,fun rc=>?_⟩;rw [cO om,cq hk,cq hk,bQ,hg,YF,aD,cJ om,M0 _ _ _ hk,<-ha,cq hk,aK,aD,acm];unfold MZ
  cases hc:MY l[k].b8 with
  | true=>simp_all
  | false=>
   rw [aS,aS];refine dw (fun x=>∃j:Nat,x.2=(j:Int)/\j<=l[k].fText.length/\x.1=acc++(l[k].fText.take j).map fun b=>fG.mk (b.toNat:Int) (l[k].b8 != 1)) (fun x=>l[k].fText.length-x.2.toNat) ?_ F _ ⟨0,rfl,om,si⟩ bF;rintro⟨a2,jj⟩ ⟨j,h0,hj,hb⟩;dsimp only at h0 hb⊢;subst h0;by_cases hj:j<l[k].fText.length
   ·left
    refine⟨(acc++(l[k].fText.take (j+1)).map fun b=>fG.mk (b.toNat:Int) (l[k].b8 != 1),((j+1:Nat):Int)),⟨j+1,rfl,om,rfl⟩,bF,fun bq=>?_⟩;have YG:l[k].fText.getD j 0=l[k].fText[j]:=gd hj;have Jr:a2.length<=acc.length+j:=by rw [hb];simp;omega
    simp only [cq hk];rw [cO om];simp only [cq hj];rw [bQ,YG,cJ om,iB bF om,qA hj,Kb,<-FB,<-hb];rfl
   ·right
    obtain rfl:j=l[k].fText.length:=om;intro bq;rw [cq hk,cf om,hb,Bi]
 grind
theorem Ko(F:Nat)(l:J aH)(hF:l.length<F)(qR:cz l<F)(h1:l.length<1000000000)(h2:cz l<=1000000000):Dp F l=some (l.flatMap rB):=by
 refine dw (fun x=>∃k:Nat,x.2=(k:Int)/\k<=l.length/\x.1=(l.take k).flatMap rB) (fun x=>l.length-x.2.toNat) ?_ F _ ⟨0,rfl,om,si⟩ bF;rintro⟨acc,ii⟩ ⟨k,h0,hk,ha⟩;subst h0;by_cases hk:k<l.length
 ·left
  have hg:l.getD k dm=l[k]:=gd hk;have hal:acc.length<=cz (l.take k):=by grind [Jq,UC]
  have hs:=p6 l k hk;have hle:=tT l (k+1);refine⟨((l.take (k+1)).flatMap rB,((k+1:Nat):Int)),⟨k+1,rfl,om,rfl⟩,bF,fun rc=>?_⟩;rw [cO om,cq hk,bQ,hg,YF,aD,cJ om,M0 _ _ _ hk,<-ha,aK,acm];unfold rB
  cases hc:MY l[k].b8 with
  | true=>simp_all
  | false=>
   refine dw (fun x=>∃j:Nat,x.2=(j:Int)/\j<=l[k].fText.length/\x.1=acc++(l[k].fText.take j).map fun b=>eG.mk (b.toNat:Int) (l[k].b8 != 1)) (fun x=>l[k].fText.length-x.2.toNat) ?_ F _ ⟨0,rfl,om,si⟩ bF;rintro⟨a2,jj⟩ ⟨j,h0,hj,hb⟩;dsimp only at h0 hb⊢;subst h0;by_cases hj:j<l[k].fText.length
   ·left
    refine⟨(acc++(l[k].fText.take (j+1)).map fun b=>eG.mk (b.toNat:Int) (l[k].b8 != 1),((j+1:Nat):Int)),⟨j+1,rfl,om,rfl⟩,bF,fun bq=>?_⟩;have YG:l[k].fText.getD j 0=l[k].fText[j]:=gd hj;have Jr:a2.length<=acc.length+j:=by rw [hb];simp;omega
    rw [cO om];simp only [cq hj];rw [bQ,YG,cJ om,iB bF om,qA hj,Kb,<-FB,<-hb];rfl
   grind
 grind
def CJ(x:J fG)(i:Nat)(b:Int):Bool:=decide (i<x.length)&&((x.getD i iL).lR&&(x.getD i iL).fb==b)
theorem ja(F:Nat)(x:J fG)(i:Nat)(b:Int):nN F x (i:Int) b=some (CJ x i b):=by
 unfold nN CJ;by_cases h:i<x.length
 ·rw [cO om,cq h,aD,cq h,aK]
  simp_all
 grind
def eu(x:J eG)(i:Nat)(b:Int):Bool:=decide (i<x.length)&&((x.getD i cA).lR&&(x.getD i cA).fb==b)
theorem gK(F:Nat)(x:J eG)(i:Nat)(b:Int):fy F x (i:Int) b=some (eu x i b):=by
 unfold fy eu;by_cases h:i<x.length
 ·rw [cO om,cq h,aD]
  congr 1
  grind
 grind
set_option maxRecDepth 100000
theorem ir{σ R:Type}{body:(σ->O R)->σ->O R}(Q:R->Prop)(P:σ->Prop)(m:σ->Nat)
  (hs:∀s,P s->∀rc,(∀s',P s'->m s'<m s->∃r,Q r/\rc s'=some r)->∃r,Q r/\body rc s=some r):∀(F:Nat)(s:σ),P s->m s<F->∃r,Q r/\bV body F s=some r
 | 0,s,_,h=>by omega
 | F+1,s,hP,h=>hs s hP (bV body F) fun s' h1 h2=>ir Q P m hs F s' h1 om
def QH(x:J eG):Prop:=∀e∈x,0<=e.fb/\e.fb<=255
theorem YH(l:J aH):QH (l.flatMap rB):=by
 intro e he;obtain⟨r,-,he⟩:=List.mem_flatMap.1 he;unfold rB at he;cases hc:MY r.b8<;>rw [hc] at he
 ·obtain⟨b,-,rfl⟩:=yu.1 he
  have:=b.toNat_lt;dsimp only;omega
 ·cases he
theorem QH.at{x:J eG}(h:QH x){i:Nat}(hi:i<x.length):0<=(x.getD i cA).fb/\(x.getD i cA).fb<=255:=by
 rw [gd hi];exact h _ (kz hi)
def BA(e:eG):Bool:=e.lR&&(decide (97<=e.fb)&&decide (e.fb<=122))
def jF(x:J eG)(i:Nat):J Int:=((x.drop i).takeWhile BA).map fun e=>e.fb
def isName(n:Bs):Bool:=n==[97,108,112,104,97]||(n==[100,105,103,105,116]||(n==[97,108,110,117,109]||(n==[117,112,112,101,114]||(n==[108,111,119,101,114]||(n==[115,112,97,99,101]||(n==[98,108,97,110,107]||n==[112,117,110,99,116]))))))
def xu(x:J eG)(i:Nat):Bs×Int×Bool:=
 cond ((eu x i 91&&eu x (i+1) 58)&&((eu x (i+2+(jF x (i+2)).length) 58&&eu x (i+2+(jF x (i+2)).length+1) 93)&&isName (bZ (jF x (i+2)))))
  (bZ (jF x (i+2)),((i+2+(jF x (i+2)).length+2:Nat):Int),true) ([],0,false)
theorem amh(x:J eG)(i:Nat):(jF x i).length<=x.length-i:=by
 unfold jF
 grind [List.length_map,List.takeWhile_sublist,List.length_drop]
theorem ajU{p:eG->Bool}:∀(l:J eG)(k:Nat)(h:k<(l.takeWhile p).length),∃hk:k<l.length,(l.takeWhile p)[k]=l[k]/\p l[k]=true
 | [],k,h=>by simp at h
 | a::l,k,h=>by
  cases hp:p a with
  | false=>simp [hp] at h
  | true=>
   cases k with
   | zero=>exact⟨si,by simp [hp],by simpa using hp⟩
   | succ k=>
    have h':k<(l.takeWhile p).length:=by simpa [hp] using h
    obtain⟨h1,h2,h3⟩:=ajU l k h';exact⟨by simpa using h1,by simp [hp,h2],by simpa using h3⟩
theorem af0{p:eG->Bool}:∀(l:J eG)(h:(l.takeWhile p).length<l.length),p l[(l.takeWhile p).length]=false
 | [],h=>by simp at h
 | a::l,h=>by
  cases hp:p a with
  | false=>simp [hp]
  | true=>
   have h':(l.takeWhile p).length<l.length:=by simpa [hp] using h
   have:=af0 l h';simpa [hp] using this
theorem af1(x:J eG)(i k:Nat)(h:k<(jF x i).length):i+k<x.length/\(jF x i).getD k 0=(x.getD (i+k) cA).fb/\BA (x.getD (i+k) cA)=true:=by
 unfold jF at h⊢;rw [wS] at h;obtain⟨h1,h2,h3⟩:=ajU (x.drop i) k h
 grind
theorem akG(x:J eG)(i:Nat)(h:i+(jF x i).length<x.length):BA (x.getD (i+(jF x i).length) cA)=false:=by
 unfold jF at h⊢;rw [wS] at h⊢;have:=af0 (p:=BA) (x.drop i) (by grind)
 simp_all
theorem Kp(a b:Bool)(x:O Bool)(hb:x=some b):cond a (some a) x=some (a||b):=by subst hb;cases a<;>rfl
theorem QI(F:Nat)(x:J eG)(i:Nat)(hF:x.length+10<F)(hx:x.length<500000000):ya F x (i:Int)=some (xu x i)\/500000000<=i:=by
 by_cases hi:500000000<=i
 ·exact .inr hi
 left;unfold ya xu;rw [gK,aD,show aB ((i:Int)+1)=((i+1:Nat):Int) from cJ om,gK]
 cases h1:eu x i 91 with
 | false=>rfl
 | true=>
  cases h2:eu x (i+1) 58 with
  | false=>rfl
  | true=>
   have zx:aB ((i:Int)+2)=((i+2:Nat):Int):=by grind [bG]
   rw [zx];have hrl:=amh x (i+2);generalize hr:jF x (i+2)=r at hrl;have hat:=af1 x (i+2);have hend:=akG x (i+2);rw [hr] at hat hend;refine dw (fun s:Int×J Int=>∃k:Nat,s.1=((i+2+k:Nat):Int)/\k<=r.length/\s.2=r.take k) (fun s=>(i+2+r.length)-s.1.toNat) ?_ F _ ⟨0,rfl,om,si⟩ bF;rintro⟨ii,nm⟩ ⟨k,h0,hk,hn⟩;dsimp only at h0 hn⊢;subst h0;by_cases hk:k<r.length
   ·left
    obtain⟨g1,g2,g3⟩:=hat k hk;have hnl:nm.length=k:=by simp_all
    refine⟨(((i+2+(k+1):Nat):Int),r.take (k+1)),⟨k+1,rfl,om,rfl⟩,bF,fun rc=>?_⟩;unfold BA at g3;simp only [cx] at g3;obtain⟨g3,g4,g5⟩:=g3;rw [cO om,cq g1,bQ,g3,aD,bu,cq g1,g4,aD,bu,cq g1,g5,aD,bu,cq g1,iB bF om,cJ om,<-g2,gd hk,qA hk,<-hn];rfl
   ·right
    obtain rfl:k=r.length:=om;intro rc;rw [Bi] at hn;subst hn
    have e1:(((cond (decide (((i+2+nm.length:Nat):Int)<(x.length:Int))) (rq (decide (0<=((i+2+nm.length:Nat):Int))&&decide (((i+2+nm.length:Nat):Int)<(x.length:Int))) (some (x.getD (Int.toNat ((i+2+nm.length:Nat):Int)) cA).lR)) (some false)):O Bool).bind fun x6=>
      (cond x6 (rq (decide (0<=((i+2+nm.length:Nat):Int))&&decide (((i+2+nm.length:Nat):Int)<(x.length:Int))) (some (decide (97<=(x.getD (Int.toNat ((i+2+nm.length:Nat):Int)) cA).fb)))) (some false):O Bool).bind fun x7=>
      (cond x7 (rq (decide (0<=((i+2+nm.length:Nat):Int))&&decide (((i+2+nm.length:Nat):Int)<(x.length:Int))) (some (decide ((x.getD (Int.toNat ((i+2+nm.length:Nat):Int)) cA).fb<=122)))) (some false):O Bool))=some false:=by
     by_cases hl:i+2+nm.length<x.length
     ·have:=hend hl
      unfold BA at this;simp only [cq hl]
      grind
     grind
    have e2:∀ {β:Type}(A:O Bool)(B:Bool->O Bool)(C:Bool->O Bool)(k:Bool->O β),(A.bind fun x6=>(B x6).bind fun x7=>(C x7).bind k)=((A.bind fun x6=>(B x6).bind fun x7=>C x7)).bind k:=by
     grind
    rw [e2,e1,aD,aS,gK,aD,cJ om,gK]
    cases eu x (i+2+nm.length) 58 with
    | false=>rfl
    | true=>
     cases eu x (i+2+nm.length+1) 93 with
     | false=>rfl
     | true=>
      simp only [ku,aS,aD,uK,Qw];rw [Kp _ _ _ (Kp _ _ _ (Kp _ _ _ (Kp _ _ _ (Kp _ _ _ (Kp _ _ _ (Kp _ _ _ rfl)))))),aD];have VY:aB (((i+2+nm.length:Nat):Int)+2)=((i+2+nm.length+2:Nat):Int):=by rw [bG om];omega
      rw [VY,aK];rfl
theorem af2{x:J eG}{i:Nat}{b:Int}(h:eu x i b=true):i<x.length:=by
 unfold eu at h
 simp_all
theorem adP(F:Nat)(n:Bs)(c:Int):∃b,mA F n c=some b:=by
 unfold mA
 simp_all [aK,aD]
theorem adQ(F:Nat)(x:J eG)(i:Nat)(set:J Bool)(hF:x.length+1000<F)(hx:x.length<500000000)(hc:QH x)(hi:i<x.length)(hs:set.length=256):
  ∃r:Int×J Bool,(∃e:Nat,r.1=(e:Int)/\i<e/\e<=x.length/\r.2.length=256)/\kW F x (i:Int) set=some r:=by
 unfold kW;obtain hcl|hcl:=QI F x i om hx
 rotate_left
 ·omega
 rw [hcl,aD]
 cases h1:(xu x i).2.2 with
 | true=>
  rw [bu];unfold xu at h1⊢
  cases h2:((eu x i 91&&eu x (i+1) 58)&&((eu x (i+2+(jF x (i+2)).length) 58&&eu x (i+2+(jF x (i+2)).length+1) 93)&&isName (bZ (jF x (i+2))))) with
  | false=>rw [h2] at h1;cases h1
  | true=>
   rw [bu];simp only [cx] at h2;have h3:=af2 h2.2.1.2;refine ir _ (fun s:Int×J Bool=>∃k:Nat,s.1=(k:Int)/\k<=256/\s.2.length=256) (fun s=>256-s.1.toNat) ?_ F _ ⟨0,rfl,om,hs⟩ bF;rintro⟨ii,st⟩ ⟨k,h0,hk,hl⟩ rc hrc;dsimp only at h0 hl⊢;subst h0;by_cases hk:k<256
   ·obtain⟨b,hb⟩:=adP F (bZ (jF x (i+2))) (k:Int)
    rw [cO om,hb,aD,cJ om]
    cases b with
    | false=>exact hrc _ ⟨k+1,rfl,om,hl⟩ bF
    | true=>
     rw [bu,CH om om om];exact hrc _ ⟨k+1,rfl,om,by simpa using hl⟩ bF
   ·rw [cf om]
    exact⟨_,⟨_,rfl,om,om,hl⟩,rfl⟩
 | false=>
  have hw1:aB ((i:Int)+1)=((i+1:Nat):Int):=cJ om;have zx:aB ((i:Int)+2)=((i+2:Nat):Int):=by grind [bG]
  have VY:aB ((i:Int)+3)=((i+3:Nat):Int):=by grind [bG]
  rw [aS,hw1,zx,VY,gK,aD,gK,aK,aD];have e1:cond (eu x (i+1) 45) (decide (((i+2:Nat):Int)<(x.length:Int)),set) (false,set)=((eu x (i+1) 45&&decide (((i+2:Nat):Int)<(x.length:Int))),set):=by grind
  rw [e1];dsimp only;rw [aD,aK,aD];have e2:∀a b:Bool,cond a (b,set) (false,set)=((a&&b),set):=by simp_all
  rw [e2];dsimp only;have hb:=hc.at hi
  cases h4:((eu x (i+1) 45&&decide (((i+2:Nat):Int)<(x.length:Int))) && !eu x (i+2) 93) with
  | false=>
   rw [aS,cq hi,bQ,CH om om om]
   exact⟨_,⟨_,rfl,om,om,by simpa using hs⟩,rfl⟩
  | true=>
   simp only [cx,fW] at h4;have h5:i+2<x.length:=om;have o4:=hc.at h5;rw [bu,cq hi,bQ,bQ,bG (x:=(x.getD i cA).fb) om,bG (x:=(x.getD (i+2) cA).fb) om];generalize (x.getD (i+2) cA).fb=hi2 at o4;refine ir _ (fun s:Int×J Bool=>0<=s.1/\s.1<=256/\s.2.length=256) (fun s=>256-s.1.toNat) ?_ F _ ⟨hb.1,om,hs⟩ bF;rintro⟨ii,st⟩ ⟨h6,h7,hl⟩ rc hrc;dsimp only at h6 h7 hl⊢;rw [cq h5];by_cases hle:ii<=hi2
   ·rw [cO hle,CH om om om,bG om]
    exact hrc _ ⟨by dsimp only;omega,by dsimp only;omega,by simpa using hl⟩ (by dsimp only;omega)
   ·rw [cf hle]
    exact⟨_,⟨_,rfl,om,om,hl⟩,rfl⟩
theorem af3(F:Nat)(set:J Bool)(hF:1000<F)(hs:set.length=256):∃l:J bU,l.length<=256/\qb F set=some l:=by
 unfold qb;rw [cD (by rw [hs];rfl)];refine ir _ (fun s=>∃k:Nat,s.2.1=(k:Int)/\k<=256/\s.1.length<=k/\s.2.2.length=256) (fun s=>256-s.2.1.toNat) ?_ F _ ⟨0,rfl,om,si,hs⟩ bF;rintro⟨acc,ii,st⟩ ⟨k,h0,hk,ha,hl⟩ rc hrc;dsimp only at h0 ha hl⊢;subst h0;by_cases hk:k<256
 ·rw [cO om,CH om om om,cJ om]
  cases hb:(!(st.getD (Int.toNat (k:Int)) false)) with
  | true=>exact hrc _ ⟨k+1,rfl,om,by dsimp only;omega,hl⟩ bF
  | false=>
   refine ir _ (fun s=>∃j:Nat,s.1=(j:Int)/\k<=j/\j<=255/\s.2.length=256) (fun s=>256-s.1.toNat) ?_ F _ ⟨k,rfl,om,om,hl⟩ bF;rintro⟨jj,Hu⟩ ⟨j,h0,hkj,hj,hl2⟩ bq api;subst h0
   have hend:∀YI:J Bool,YI.length=256->∃r:J bU,r.length<=256/\rq ((decide (acc.length+([(bU.mk (IntKind.wrap .u8 (k:Int)) (IntKind.wrap .u8 (j:Int)))]:J bU).length<=9223372036854775807))&&(decide ((acc.length+([(bU.mk (IntKind.wrap .u8 (k:Int)) (IntKind.wrap .u8 (j:Int)))]:J bU).length)*2<=140737488355328))) (rc (acc++([(bU.mk (IntKind.wrap .u8 (k:Int)) (IntKind.wrap .u8 (j:Int)))]:J bU),aB ((j:Int)+1),YI))=some r:=by
    intro YI h3;rw [iB bF om,cJ om];exact hrc _ ⟨j+1,rfl,om,bF,h3⟩ bF
   by_cases hj2:j<255
   ·rw [cO om,cJ om,CH om om om]
    cases Hu.getD (Int.toNat ((j+1:Nat):Int)) false with
    | true=>exact api _ ⟨j+1,rfl,om,om,hl2⟩ bF
    | false=>
     grind [cJ]
   grind
 grind
def mB(p:aG):Prop:=(p.fKind=1->0<p.fText.length)/\p.fText.length<=10/\p.cE.length<=256
theorem PW(F:Nat)(x:J eG)(i:Nat)(hF:x.length+1000<F)(hx:x.length<50000000)(hc:QH x)(hi:i<x.length):
  ∃r:aG×Int×Bool,(r.2.2=true->mB r.1/\∃e:Nat,r.2.1=(e:Int)/\i<e/\e<=x.length)/\nq F x (i:Int)=some r:=by
 unfold nq;have hw1:aB ((i:Int)+1)=((i+1:Nat):Int):=cJ om;rw [hw1,gK,aD,gK,aD,aK,aD,cJ om,aK]
 obtain⟨s0,hs0,hs1,hs2⟩:∃s0:Nat,cond (cond (eu x (i+1) 33) true (eu x (i+1) 94)) (((i+1+1:Nat):Int)) ((i+1:Nat):Int)=(s0:Int)/\i<s0/\s0<=i+2:=by
  cases (cond (eu x (i+1) 33) true (eu x (i+1) 94))
  ·exact⟨i+1,rfl,om,om⟩
  ·exact⟨i+2,rfl,om,om⟩
 rw [hs0];refine ir _ (fun s=>∃k:Nat,s.1=(k:Int)/\i<k/\k<=x.length+2/\s.2.2.length=256) (fun s=>x.length+2-s.1.toNat) ?_ F _ ⟨s0,rfl,hs1,om,si⟩ bF;rintro⟨ii,fi,st⟩ ⟨k,h0,hk,hk2,hl⟩ rc hrc;subst h0;by_cases DQ:k<x.length
 ·rw [cO om,gK,aD,aK,aD]
  have e2:cond (eu x k 93) (!fi,st) (false,st)=((eu x k 93 && !fi),st):=by cases eu x k 93<;>rfl
  rw [e2]
  cases (eu x k 93 && !fi) with
  | true=>
   obtain⟨l,h1,h2⟩:=af3 F st om hl;rw [cD (by rw [hl];rfl),h2,cJ om]
   exact⟨_,fun _=>⟨⟨(fun h=>absurd h (show ¬ ((4:Int)=1) by decide)),si,h1⟩,k+1,rfl,om,om⟩,rfl⟩
  | false=>
   obtain⟨r,⟨e,h1,h2,h3,h4⟩,h5⟩:=adQ F x k st om om hc DQ hl;rw [h5];exact hrc _ ⟨e,h1,om,om,h4⟩ (by grind)
 simp_all [cf]
theorem abe(F:Nat)(l:J aH)(hF:l.length<F)(qR:cz l+1000<F)(h1:l.length<1000000000)(h2:cz l<=40000000):∃p:J aG,((∀it∈p,mB it)/\p.length<=cz l)/\iK F l=some p:=by
 unfold iK;rw [Ko F l hF om h1 om];have hx:(l.flatMap rB).length<=cz l:=Jq _ UC _;have hc:=YH l;generalize (l.flatMap rB)=x at hx hc;refine ir _ (fun s=>∃k:Nat,s.2=(k:Int)/\k<=x.length/\s.1.length<=k/\∀it∈s.1,mB it) (fun s=>x.length-s.2.toNat) ?_ F _ ⟨0,rfl,om,si,fun it h=>by cases h⟩ bF;rintro⟨acc,ii⟩ ⟨k,h0,hk,ha,hit⟩ rc hrc;dsimp only at h0 ha hit⊢;subst h0
 have Dq:∀(it:aG)(e:Nat),mB it->k<e->e<=x.length->∃p:J aG,((∀it∈p,mB it)/\p.length<=cz l)/\rc (acc++[it],(e:Int))=some p:=by
  intro it e h3 h4 h5;refine hrc _ ⟨e,rfl,h5,bF,fun y hy=>?_⟩ bF
  grind
 by_cases DQ:k<x.length
 ·rw [cO om]
  have ff:∃p:J aG,((∀it∈p,mB it)/\p.length<=cz l)/\((fy F x (k:Int) 42).bind fun x7=>
    cond x7
    (rq ((decide (acc.length+([(aG.mk 3 [] false [])]:J aG).length<=9223372036854775807))&&(decide ((acc.length+([(aG.mk 3 [] false [])]:J aG).length)*56<=140737488355328))) (rc (acc++([(aG.mk 3 [] false [])]:J aG),aB ((k:Int)+1))))
    ((fy F x (k:Int) 63).bind fun x8=>
    cond x8
    (rq ((decide (acc.length+([(aG.mk 2 [] false [])]:J aG).length<=9223372036854775807))&&(decide ((acc.length+([(aG.mk 2 [] false [])]:J aG).length)*56<=140737488355328))) (rc (acc++([(aG.mk 2 [] false [])]:J aG),aB ((k:Int)+1))))
    (rq ((decide (0<=(k:Int)))&&(decide ((k:Int)<(x.length:Int)))) (rq ((decide (acc.length+([(aG.mk 1 (bZ ([(x.getD (Int.toNat (k:Int)) cA).fb]:J Int)) false [])]:J aG).length<=9223372036854775807))&&(decide ((acc.length+([(aG.mk 1 (bZ ([(x.getD (Int.toNat (k:Int)) cA).fb]:J Int)) false [])]:J aG).length)*56<=140737488355328))) (rc (acc++([(aG.mk 1 (bZ ([(x.getD (Int.toNat (k:Int)) cA).fb]:J Int)) false [])]:J aG),aB ((k:Int)+1)))))))=some p:=by
   rw [gK,gK,iB bF om,iB bF om,cq DQ,iB bF om,cJ om]
   cases eu x k 42 with
   | true=>exact Dq _ _ ⟨(fun h=>absurd h de),si,si⟩ om om
   | false=>
    cases eu x k 63 with
    | true=>exact Dq _ _ ⟨(fun h=>absurd h de),si,si⟩ om om
    | false=>exact Dq _ _ ⟨(fun _=>by simp [bZ]),by simp [bZ],si⟩ om om
  rw [gK,aD]
  cases eu x k 91 with
  | false=>exact ff
  | true=>
   obtain⟨r,h3,h4⟩:=PW F x k om om hc DQ;rw [h4,aD]
   cases h5:r.2.2 with
   | false=>exact ff
   | true=>
    obtain⟨g1,e,g2,g3,g4⟩:=h3 h5;rw [iB bF om,g2];obtain⟨p,hp,hq⟩:=Dq r.1 e g1 g3 g4;rw [hq];exact⟨p,hp,rfl⟩
 grind
theorem ami{x:J fG}{i:Nat}{b:Int}(h:CJ x i b=true):i<x.length:=by
 unfold CJ at h
 simp_all
theorem ahZ(F:Nat)(x:J fG)(i:Nat)(s:Bs)(hF:s.length<F)(hi:i<=x.length)(hx:x.length<500000000)(hs:s.length<500000000):∃b:Bool,(b=true->i+s.length<=x.length)/\Er F x (i:Int) s=some b:=by
 refine ir _ (fun k'=>∃k:Nat,k'=(k:Int)/\k<=s.length/\i+k<=x.length) (fun k'=>s.length-k'.toNat) ?_ F _ ⟨0,rfl,om,om⟩ bF;rintro ii ⟨k,rfl,hk,hik⟩ rc hrc;by_cases hk:k<s.length
 ·have hw:aB ((i:Int)+(k:Int))=((i+k:Nat):Int):=by grind [bG]
  rw [cO om,cq hk,hw,ja,cJ om]
  cases h:CJ x (i+k) (((s.getD (Int.toNat (k:Int)) 0).toNat:Int)) with
  | false=>simp_all
  | true=>
   have:=ami h;exact hrc _ ⟨k+1,rfl,om,om⟩ bF
 ·rw [cf om]
  grind
def CL:J lH:=(yb 0).getD []
theorem ajV(F:Nat):yb F=some CL:=rfl
theorem R6:CL.length=8:=rfl
theorem adR:∀c∈CL,c.fname.length=5/\c.rC.length<=4:=by decide
theorem abf(F:Nat)(x:J fG)(i:Nat)(hF:100<F)(hi:i<x.length)(hx:x.length<50000000):∃r:J bU×Int,(∃e:Nat,r.2=(e:Int)/\i<e/\e<=x.length/\r.1.length<=4)/\o6 F x (i:Int)=some r:=by
 unfold o6;rw [ajV];refine ir _ (fun k'=>∃k:Nat,k'=(k:Int)/\k<=8) (fun k'=>8-k'.toNat) ?_ F _ ⟨0,rfl,om⟩ bF;rintro ii ⟨k,rfl,hk⟩ rc hrc;have hw1:aB ((i:Int)+1)=((i+1:Nat):Int):=cJ om;have zx:aB ((i:Int)+2)=((i+2:Nat):Int):=by grind [bG]
 have VY:aB ((i:Int)+3)=((i+3:Nat):Int):=by grind [bG]
 by_cases hk:k<CL.length
 ·have hm:=adR _ (kz hk)
  rw [cO om,cq hk,bQ,gd hk,cJ om];generalize CL[k]=c at hm;rw [sw bF,sw bF];have hl:((([91,58]:Bs)++c.fname)++([58,93]:Bs)).length=9:=by simp;omega
  obtain⟨b,h1,h2⟩:=ahZ F x i ((([91,58]:Bs)++c.fname)++([58,93]:Bs)) om om om om;rw [h2,aD];rw [hl] at h1⊢
  cases b with
  | true=>
   have:=h1 rfl;have hw:aB ((i:Int)+((9:Nat):Int))=((i+9:Nat):Int):=by grind [bG]
   rw [cq hk,hw]
   exact⟨_,⟨i+9,rfl,om,om,hm.2⟩,rfl⟩
  | false=>
   have h8:k<8:=by rw [<-R6];exact hk
   exact hrc _ ⟨k+1,rfl,om⟩ bF
 ·rw [cf om,cq hi,hw1,zx,VY,ja,aD,ja,aK,aD,aD,aK,aD]
  cases h4:cond (cond (CJ x (i+1) 45) (decide (((i+2:Nat):Int)<(x.length:Int))) false) (!CJ x (i+2) 93) false with
  | false=>exact⟨_,⟨i+1,rfl,om,om,si⟩,rfl⟩
  | true=>
   have h5:i+2<x.length:=by
    grind
   rw [cq h5];cases decide ((x.getD (Int.toNat (i:Int)) iL).fb<=(x.getD (Int.toNat ((i+2:Nat):Int)) iL).fb)
   ·exact⟨_,⟨i+3,rfl,om,om,si⟩,rfl⟩
   ·exact⟨_,⟨i+3,rfl,om,om,si⟩,rfl⟩
theorem akH(F:Nat)(l:J bU)(b:Int)(hF:l.length<F)(hl:l.length<500000000):∃r,uX F l b=some r:=by
 obtain⟨r,-,h⟩:∃r:Bool,True/\uX F l b=some r:=by
  refine ir _ (fun k'=>∃k:Nat,k'=(k:Int)/\k<=l.length) (fun k'=>l.length-k'.toNat) ?_ F _ ⟨0,rfl,om⟩ bF;rintro ii ⟨k,rfl,hk⟩ rc hrc;by_cases hk:k<l.length
  ·rw [cO om,cq hk,cq hk,aK,cJ om]
   cases cond (decide ((l.getD (Int.toNat (k:Int)) gr).pY<=b)) (decide (b<=(l.getD (Int.toNat (k:Int)) gr).jO)) false with
   | true=>simp_all
   | false=>exact hrc _ ⟨k+1,rfl,om⟩ bF
  simp_all [cf,trivial]
 exact⟨r,h⟩
theorem ah0(F:Nat)(l:J bU)(hF:l.length+300<F)(hl:l.length<500000000):∃r:J bU,r.length<=256/\Hv F l=some r:=by
 refine ir _ (fun s=>∃k:Nat,s.1=(k:Int)/\k<=256/\s.2.length<=k) (fun s=>256-s.1.toNat) ?_ F _ ⟨0,rfl,om,si⟩ bF;rintro⟨ii,o⟩ ⟨k,h0,hk,ho⟩ rc hrc;dsimp only at h0 ho⊢;subst h0;by_cases hk:k<256
 ·obtain⟨b,hb⟩:=akH F l (IntKind.wrap .u8 (k:Int)) om hl
  rw [cO om,hb,aD,cJ om]
  cases b with
  | false=>exact hrc _ ⟨k+1,rfl,om,by dsimp only;omega⟩ bF
  | true=>
   by_cases h0:0<o.length
   ·have hw:=wY om h0
    rw [cO om,hw,cq om,aD];dsimp only
    cases (aB ((aB ((o.getD (Int.toNat ((o.length-1:Nat):Int)) gr).jO))+1))==(k:Int) with
    | true=>
     rw [cq om]
     exact hrc _ ⟨k+1,rfl,om,bF⟩ bF
    | false=>
     rw [iB bF om];exact hrc _ ⟨k+1,rfl,om,bF⟩ bF
   ·rw [cf om,aD]
    rw [iB bF om];exact hrc _ ⟨k+1,rfl,om,bF⟩ bF
 grind
theorem YJ(F:Nat)(x:J fG)(i:Nat)(hF:4*x.length+1000<F)(hx:x.length<40000000)(hi:i<x.length):
  ∃r:aG×Int×Bool,(r.2.2=true->mB r.1/\∃e:Nat,r.2.1=(e:Int)/\i<e/\e<=x.length)/\qc F x (i:Int)=some r:=by
 unfold qc;have hw1:aB ((i:Int)+1)=((i+1:Nat):Int):=cJ om;rw [hw1,ja,aD,ja,aD,aK,aD,cJ om,aK,aD]
 have h0:∃y:Int×Int×Bs×Bool×J bU,cond (cond (CJ x (i+1) 33) true (CJ x (i+1) 94)) (((i+1+1:Nat):Int),(aG.mk 4 [] false []).fKind,(aG.mk 4 [] false []).fText,true,(aG.mk 4 [] false []).cE) (((i+1:Nat):Int),(aG.mk 4 [] false []).fKind,(aG.mk 4 [] false []).fText,(aG.mk 4 [] false []).BB,(aG.mk 4 [] false []).cE)=y/\(∃s0:Nat,y.1=(s0:Int)/\i<s0/\s0<=i+2)/\y.2.1=4/\y.2.2.1=[]:=by
  cases (cond (CJ x (i+1) 33) true (CJ x (i+1) 94))
  ·exact⟨_,rfl,⟨i+1,rfl,om,om⟩,rfl,rfl⟩
  ·exact⟨_,rfl,⟨i+2,rfl,om,om⟩,rfl,rfl⟩
 obtain⟨y,hy,⟨s0,hs0,hs1,hs2⟩,hy2,hy3⟩:=h0;rw [hy,hs0,hy2,hy3];refine ir _ (fun s=>∃k:Nat,s.1=(k:Int)/\i<k/\k<=x.length+2/\s.2.1.length<=4*k) (fun s=>x.length+2-s.1.toNat) ?_ F _ ⟨s0,rfl,hs1,om,si⟩ bF;rintro⟨ii,sp,fi⟩ ⟨k,h0,hk,hk2,hl⟩ rc hrc;dsimp only at h0 hl⊢;subst h0;rw [ja,aD,aK,aK,aD];by_cases DQ:k<x.length
 ·rw [cO (show (k:Int)<(x.length:Int) by omega)]
  cases (cond fi true (!CJ x k 93)) with
  | true=>
   obtain⟨r,⟨e,h1,h2,h3,h4⟩,h5⟩:=abf F x k om DQ om;rw [h5,aD,iB om om]
   exact hrc _ ⟨e,h1,om,om,by grind⟩ (by grind)
  | false=>
   obtain⟨r,h1,h2⟩:=ah0 F sp om om;rw [cf (show ¬ (x.length:Int)<=(k:Int) by omega),h2,cJ om];exact⟨_,fun _=>⟨⟨(fun h=>absurd h (show ¬ ((4:Int)=1) by decide)),si,h1⟩,k+1,rfl,om,om⟩,rfl⟩
 simp_all [cf,aS,cO]
theorem YK(F:Nat)(l:J aH)(hF:l.length<F)(qR:4*cz l+1000<F)(h1:l.length<1000000000)(h2:cz l<=20000000):∃p:J aG,((∀it∈p,mB it)/\p.length<=cz l)/\jK F l=some p:=by
 unfold jK;rw [PV F l hF om h1 om];have hx:(l.flatMap MZ).length<=cz l:=Jq _ ack _;generalize (l.flatMap MZ)=x at hx;refine ir _ (fun s=>∃k:Nat,s.2=(k:Int)/\k<=x.length/\s.1.length<=k/\∀it∈s.1,mB it) (fun s=>x.length-s.2.toNat) ?_ F _ ⟨0,rfl,om,si,fun it h=>by cases h⟩ bF;rintro⟨acc,ii⟩ ⟨k,h0,hk,ha,hit⟩ rc hrc;dsimp only at h0 ha hit⊢;subst h0
 have Dq:∀(it:aG)(e:Nat),mB it->k<e->e<=x.length->∃p:J aG,((∀it∈p,mB it)/\p.length<=cz l)/\rc (acc++[it],(e:Int))=some p:=by
  intro it e h3 h4 h5;refine hrc _ ⟨e,rfl,h5,bF,fun y hy=>?_⟩ bF
  grind
 by_cases DQ:k<x.length
 ·rw [cO om,ja,aD,ja,aD,iB bF om,iB bF om,cJ om]
  cases CJ x k 42 with
  | true=>exact Dq _ _ ⟨(fun h=>absurd h (show ¬ ((3:Int)=1) by decide)),si,si⟩ om om
  | false=>
   cases CJ x k 63 with
   | true=>exact Dq _ _ ⟨(fun h=>absurd h (show ¬ ((2:Int)=1) by decide)),si,si⟩ om om
   | false=>
    rw [ja,aD]
    have ff:∃p:J aG,((∀it∈p,mB it)/\p.length<=cz l)/\(rq ((decide (0<=(k:Int)))&&(decide ((k:Int)<(x.length:Int)))) (rq ((decide (acc.length+([(aG.mk 1 (bZ ([(x.getD (Int.toNat (k:Int)) iL).fb]:J Int)) false [])]:J aG).length<=9223372036854775807))&&(decide ((acc.length+([(aG.mk 1 (bZ ([(x.getD (Int.toNat (k:Int)) iL).fb]:J Int)) false [])]:J aG).length)*56<=140737488355328))) (rc (acc++([(aG.mk 1 (bZ ([(x.getD (Int.toNat (k:Int)) iL).fb]:J Int)) false [])]:J aG),aB ((k:Int)+1)))))=some p:=by
     rw [cq DQ,iB bF om,cJ om];exact Dq _ _ ⟨(fun _=>by simp [bZ]),by simp [bZ],si⟩ om om
    cases CJ x k 91 with
    | false=>exact ff
    | true=>
     obtain⟨r,h3,h4⟩:=YJ F x k om om DQ;rw [h4,aD]
     cases h5:r.2.2 with
     | false=>exact ff
     | true=>
      obtain⟨g1,e,g2,g3,g4⟩:=h3 h5;rw [iB bF om,g2];obtain⟨p,hp,hq⟩:=Dq r.1 e g1 g3 g4;rw [hq];exact⟨p,hp,rfl⟩
 grind
theorem BC(F:Nat)(l:J bU)(hF:l.length<F)(hl:l.length<500000000):∃r,nr F l=some r:=by
 obtain⟨r,-,h⟩:∃r:Bool,True/\nr F l=some r:=by
  refine ir _ (fun k'=>∃k:Nat,k'=(k:Int)/\k<=l.length) (fun k'=>l.length-k'.toNat) ?_ F _ ⟨0,rfl,om⟩ bF;rintro ii ⟨k,rfl,hk⟩ rc hrc;by_cases hk:k<l.length
  ·rw [cO om,cq hk,cq hk]
   have e:∃b,(cond (decide ((l.getD (Int.toNat (k:Int)) gr).jO<(l.getD (Int.toNat (k:Int)) gr).pY)) (some true) (cond (decide (0<(k:Int))) (rq ((decide (0<=(k:Int)))&&(decide ((k:Int)<(l.length:Int)))) (rq ((decide (0<=aB ((k:Int)-1)))&&(decide (aB ((k:Int)-1)<(l.length:Int)))) (some (decide (aB ((l.getD (Int.toNat (k:Int)) gr).pY)<=aB ((aB ((l.getD (Int.toNat (aB ((k:Int)-1))) gr).jO))+1)))))) (some false)):O Bool)=some b:=by
    by_cases h0:0<k
    ·rw [cq hk,wY om h0,cO (show (0:Int)<(k:Int) by omega),bR om om,aK];exact⟨_,rfl⟩
    simp_all [cf,aK]
   obtain⟨b,hb⟩:=e;rw [hb,cJ om]
   cases b with
   | true=>simp_all
   | false=>exact hrc _ ⟨k+1,rfl,om⟩ bF
  simp_all [cf,trivial]
 exact⟨r,h⟩
theorem adS(F:Nat)(p:J aG)(hF:p.length+300<F)(hp:p.length<50000000)(hit:∀it∈p,mB it):∃b,kB F p=some b:=by
 obtain⟨b,-,h⟩:∃b:Bool,True/\kB F p=some b:=by
  refine ir _ (fun s=>∃k:Nat,s=(k:Int)/\k<=p.length) (fun s=>p.length-s.toNat) ?_ F _ ⟨0,rfl,om⟩ bF;rintro ii ⟨k,rfl,hk⟩ rc hrc;by_cases hk:k<p.length
  ·have hI:=hit _ (kz hk)
   rw [cO om,cq hk,bQ,gd hk];generalize p[k]=it at hI;obtain⟨c,hc⟩:=BC F it.cE (by have:=hI.2.2;omega) (by have:=hI.2.2;omega);simp only [aK,aD,hc];rw [cJ om]
   cases (cond (cond (cond (cond (decide (it.fKind<1)) true (decide (4<it.fKind))) true ((it.fText.length:Int) != cond (it.fKind==1) 1 0)) true (cond (it.fKind != 4) (cond it.BB true (decide (0<(it.cE.length:Int)))) false)) true !c) with
   | true=>simp_all
   | false=>exact hrc _ ⟨k+1,rfl,om⟩ bF
  simp_all [cf,trivial]
 exact⟨b,h⟩
theorem YL(F:Nat)(p:J aG)(hF:p.length+300<F)(hp:p.length<50000000)(hit:∀it∈p,mB it):∃r,tD F p=some r:=by
 obtain⟨b,hb⟩:=adS F p hF hp hit
 obtain⟨b,-,h⟩:∃b:Bs×Bool,True/\tD F p=some b:=by
  refine ir _ (fun s=>∃k:Nat,s.2=(k:Int)/\k<=p.length/\s.1.length<=10*k) (fun s=>p.length-s.2.toNat) ?_ F _ ⟨0,rfl,om,si⟩ bF;rintro⟨acc,ii⟩ ⟨k,h0,hk,ha⟩ rc hrc;subst h0;by_cases hk:k<p.length
  ·have hI:=hit _ (kz hk)
   have hl:=hI.2.1;rw [cO om,cq hk,cq hk,bQ,gd hk]
   cases (p[k].fKind != 1) with
   | true=>simp_all
   | false=>
    rw [af4 om,cJ om];exact hrc _ ⟨k+1,rfl,om,by grind⟩ bF
  simp_all [cf,aD,aK,trivial]
 exact⟨b,h⟩
def zy(l:J aH):Bs:=l.flatMap fun r=>r.fText
theorem Fp:∀l:J aH,(zy l).length=cz l
 | []=>rfl
 | r::l=>by
  have:=Fp l;unfold zy cz at *;simp only [XF,uI,lD,XE];omega
theorem af5(s:Bs):Js (dn s)=true:=by
 unfold Js dn;rw [oW];intro x hx;obtain⟨b,-,rfl⟩:=yu.1 hx;have:=b.toNat_lt;simp;omega
theorem apj(F:Nat)(s:Bs)(c:Bool)(buf:J Int)(h:buf.length+s.length<=100000000):iM F s c buf=some ((s.length:Int),true,buf++dn s):=by
 unfold iM;rw [show ou F c buf=some (true,buf) by cases c<;>rfl,aD,iB (by simp [dn];omega) om]
theorem FO(F:Nat)(l:J aH)(hF:l.length<F)(h1:l.length<1000000000)(h2:cz l<=100000000):mL F l=some (zy l):=by
 unfold mL;refine dw (fun x=>∃k:Nat,x.1=(k:Int)/\k<=l.length/\x.2.2=dn (zy (l.take k))) (fun x=>l.length-x.1.toNat) ?_ F _ ⟨0,rfl,om,by simp [zy,dn]⟩ bF;rintro⟨ii,c,buf⟩ ⟨k,h0,hk,ha⟩;dsimp only at h0 ha⊢;subst h0;by_cases hk:k<l.length
 ·left
  have hs:=p6 l k hk;have hle:=tT l (k+1);refine⟨(((k+1:Nat):Int),true,dn (zy (l.take (k+1)))),⟨k+1,rfl,om,rfl⟩,bF,fun rc=>?_⟩;have Jr:buf.length=cz (l.take k):=by rw [ha,dn,wS,Fp]
  rw [cO om,cq hk,bQ,gd hk,apj F _ c buf om,aD,cJ om];show rc (((k+1:Nat):Int),true,buf++dn l[k].fText)=_;rw [ha,zy,zy,M0 _ _ _ hk];simp [dn]
 ·right
  obtain rfl:k=l.length:=om;intro rc;rw [Bi] at ha;subst ha;have:(dn (zy l)).length=cz l:=by rw [dn,wS,Fp]
  rw [cf om];unfold mM;rw [cD (by rw [dQ rfl,af5,dQ om];rfl),YE];rfl
theorem adT{F:Nat}{r:J aH}(hF:(zf r).length<F)(h0:(zf r).length<1000000000)(h1:r.length<=1000000000)(h2:cz r<=1000000000)(h:∀c∈zf r,∃p x,jK F c=some p/\tD F p=some x):∃b,(b=true->True)/\tE F r=some b:=by
 unfold tE RO;rw [bR h1 h2,aD];have hB:∀(F2:Nat)(x:O Bool),(∃b,True/\x=some b)->∃b,(b=true->True)/\x=some b:=fun _ x ⟨b,_,h⟩=>⟨b,fun _=>trivial,h⟩;refine hB F _ (Ep (fun _=>True) (fun x:Int×Int×Int=>∃k:Nat,x.2.2=(k:Int)/\k<=(zf r).length) (fun x=>(zf r).length-x.2.2.toNat) ?_ F (0,0,0) ⟨0,rfl,om⟩ bF)
 ·rintro⟨a,b,ii⟩ ⟨k,h0,hk⟩
  dsimp only at h0⊢;subst h0;by_cases hk:k<(zf r).length
  ·left
   obtain⟨p,x,e1,e2⟩:=h (zf r)[k] (kz hk);refine⟨(cond (!x.2) (aB (a+1),b,((k+1:Nat):Int)) (cond (x.1==[46,46]) (a,aB (b+1),((k+1:Nat):Int)) (a,b,((k+1:Nat):Int)))),⟨k+1,?_,om⟩,?_,fun rc=>?_⟩
   ·cases x.2<;>cases (x.1==[46,46])<;>rfl
   ·cases x.2<;>cases (x.1==[46,46])<;>simp<;>omega
   ·rw [cO om,cq hk,bQ,gd hk,e1,aD,e2,aD,cJ om]
    cases x.2<;>cases (x.1==[46,46])<;>rfl
  ·right
   refine⟨cond (decide (a<=2)) true (b==0),trivial,fun rc=>?_⟩;rw [cf om,aK,aD]
theorem ah1(l:J aH):(zf l).length<=cz l+1:=by
 have:=QB l ([],[]);unfold zf fY;simp only [FG,uI,Bf,Ka] at *;omega
theorem adU:∀ {c:J aH},(∀r∈c,r.fText.length=1)->cz c=c.length
 | [],_=>rfl
 | r::c,h=>by
  have:=adU (c:=c) fun x hx=>h x (by simp [hx]);have:=h r si;unfold cz at *;simp only [lD,XE,Bf];omega
def adV(p n:Bs):Bs:=cond (p==[47]) ([47]++n) ((p++[47])++n)
def apk(l:J bt)(p:Bs):Bool:=(Kl l p).elim false fun f=>f.nM
def amj(n:Bs):Bool:=n.take 1==[46]
def apl(c:bA):Bool:=decide (0<c.qD.length)&&((c.qD.getD 0 fT).fKind==1&&(c.qD.getD 0 fT).fText==[46])
def an8(mt:J aG->Bs->Bool)(c:bA)(n:Bs):Bool:=!((amj n && !apl c) || !mt c.qD n)
def W(l:J bt)(mt:J aG->Bs->Bool):J bA->Bs->J (J Bs)
 | [],p=>[[]]
 | c::cs,p=>cond (!apk l p) [] (cond (!c.qE) (((an7 l p).filter (an8 mt c)).flatMap fun n=>(W l mt cs (adV p n)).map (n :: ·))
   (cond (c.fI==[]||c.fI==[46]) ((W l mt cs p).map (c.fI :: ·)) (cond (c.fI==[46,46]) ((W l mt cs (p9 p)).map (c.fI :: ·))
   (cond (Kl l (adV p c.fI)).isNone [] ((W l mt cs (adV p c.fI)).map (c.fI :: ·))))))
section
variable {F : Nat} {l : J bt} {mt : J aG -> Bs -> Bool} {parts : J bA}
abbrev amk:=Bool×(J bt)×(J bA)×(J (dH×Bool))×(J Bs)×(J Bs)
def aml(l:J bt)(mt:J aG->Bs->Bool)(parts:J bA)(dead:J (dH×Bool)):Prop:=∀(i:Nat) p,fP cK dead (dH.mk (i:Int) p) false=true->W l mt (parts.drop i) p=[]
structure OT(parts:List bA)(i:Nat)(names:List Bs):Prop where
 len:names.length=parts.length
 lit:∀j,i<=j->∀h:j<parts.length,parts[j].qE=true->names.getD j []=parts[j].fI
 sz:∀n∈names,n.length<=4000
def SOk(l:J bt)(mt:J aG->Bs->Bool)(parts:J bA)(i:Nat)(path:Bs)(names found:J Bs)(r:amk):Prop:=
 ∃ajW names',r=(!(W l mt (parts.drop i) path).isEmpty,l,parts,ajW,names',found++(W l mt (parts.drop i) path).map fun ws=>zw (names.take i++ws))/\aml l mt parts ajW/\OT parts i names'/\names'.take i=names.take i
theorem OT.up{i:Nat}{names:J Bs}(h:OT parts i names):OT parts (i+1) names:=⟨h.len,fun j hj=>h.lit j om,h.sz⟩
theorem YM{i:Nat}{names:J Bs}(h:OT parts i names)(hi:i<parts.length)(hl:parts[i].qE=true):names.take (i+1)=names.take i++[parts[i].fI]:=by
 have h1:i<names.length:=by rw [h.len];exact hi
 rw [qA h1];have:=h.lit i (eo _) hi hl;rw [gd h1] at this;rw [this]
theorem SOk.lit{i:Nat}{path path':Bs}{names found:J Bs}{r:amk}(hn:OT parts i names)(hi:i<parts.length)(hl:parts[i].qE=true)
  (hW:W l mt (parts.drop i) path=(W l mt (parts.drop (i+1)) path').map (parts[i].fI :: ·)) (h:SOk l mt parts (i+1) path' names found r):SOk l mt parts i path names found r:=by
 obtain⟨d,n',rfl,h1,h2,h3⟩:=h
 have h4:n'.take i=names.take i:=by
  have:=congrArg (List.take i) h3;rwa [XR,XR,adq om] at this
 refine⟨d,n',?_,h1,⟨h2.len,fun j hj hlt hlj=>?_,h2.sz⟩,h4⟩
 ·rw [hW,YM hn hi hl]
  simp only [Be,List.isEmpty_map,FB,List.singleton_append];rfl
 ·by_cases e:j=i
  ·subst e
   have h5:=YM hn hi hl;rw [<-h3] at h5;have h6:j<n'.length:=by rw [h2.len];exact hi
   rw [qA h6,h4] at h5;have h7:=List.append_cancel_left h5;rw [gd h6];exact List.singleton_inj.1 h7
  ·exact h2.lit j om hlt hlj
end
theorem BD(a b:J aH):cz (a++b)=cz a+cz b:=by unfold cz;rw [Kb,adn]
def Hw(e:eG):fG:=fG.mk e.fb e.lR
theorem akI(r:aH):MZ r=(rB r).map Hw:=by
 unfold MZ rB;cases MY r.b8
 ·rw [aS,aS,Be];rfl
 ·rfl
theorem an9(l:J aH):l.flatMap MZ=(l.flatMap rB).map Hw:=by
 induction l with
 | nil=>rfl
 | cons r l ih=>simp_all [XF,Kb,akI]
theorem je(x:J eG)(i:Nat)(b:Int):CJ (x.map Hw) i b=eu x i b:=by
 unfold CJ eu;rw [wS];by_cases h:i<x.length
 ·rw [gd (by simp_all),Ub,gd h];rfl
 ·rw [dF h];rfl
def vU(x:J eG)(i:Nat)(s:Bs):Bool:=(List.range s.length).all fun j=>eu x (i+j) ((s.getD j 0).toNat:Int)
theorem akJ(F:Nat)(x:J eG)(i:Nat)(s:Bs)(hF:s.length<F)(hi:i<50000000)(hs:s.length<50000000):Er F (x.map Hw) (i:Int) s=some (vU x i s):=by
 refine dw (fun k'=>∃k:Nat,k'=(k:Int)/\k<=s.length/\∀j,j<k->eu x (i+j) ((s.getD j 0).toNat:Int)=true) (fun k'=>s.length-k'.toNat) ?_ F _ ⟨0,rfl,om,fun j h=>om⟩ bF;rintro ii ⟨k,rfl,hk,hj⟩;by_cases hk:k<s.length
 ·have hw:aB ((i:Int)+(k:Int))=((i+k:Nat):Int):=by grind [bG]
  cases h:eu x (i+k) ((s.getD k 0).toNat:Int) with
  | true=>
   left;refine⟨((k+1:Nat):Int),⟨k+1,rfl,om,fun j hj2=>?_⟩,bF,fun rc=>?_⟩
   ·grind
   ·rw [cO om,cq hk,hw,ja,je,bQ,h,cJ om];rfl
  | false=>
   right;intro rc;rw [cO om,cq hk,hw,ja,je,bQ,h]
   have:vU x i s=false:=by
    unfold vU
    grind
   rw [this];rfl
 ·right
  obtain rfl:k=s.length:=om;intro rc;rw [cf om]
  have:vU x i s=true:=by
   unfold vU
   simp_all
  rw [this]
theorem yQ{x:J eG}{i:Nat}{b:Int}:eu x i b=true↔i<x.length/\(x.getD i cA).lR=true/\(x.getD i cA).fb=b:=by
 unfold eu
 simp_all
theorem adW(x:J eG)(i:Nat)(n:Bs)(h5:n.length=5)(YN:∀b∈n,97<=b.toNat/\b.toNat<=122):
  vU x i ((([91,58]:Bs)++n)++([58,93]:Bs))=((eu x i 91&&eu x (i+1) 58)&&((eu x (i+2+(jF x (i+2)).length) 58&&eu x (i+2+(jF x (i+2)).length+1) 93)&&jF x (i+2)==dn n)):=by
 match n,h5 with
 | [a,b,c,d,e],_=>
  have ha:=YN a si;have hb:=YN b si;have hc:=YN c si;have hd:=YN d si;have he:=YN e si;rw [sM];unfold vU;rw [show ((([91,58]:Bs)++[a,b,c,d,e])++([58,93]:Bs)).length=9 from rfl]
  have apm:((List.range 9).all fun j=>eu x (i+j) ((((([91,58]:Bs)++[a,b,c,d,e])++([58,93]:Bs)).getD j 0).toNat:Int))=true ↔
    (eu x i 91=true/\eu x (i+1) 58=true/\eu x (i+2) (a.toNat:Int)=true/\eu x (i+3) (b.toNat:Int)=true/\eu x (i+4) (c.toNat:Int)=true/\eu x (i+5) (d.toNat:Int)=true/\eu x (i+6) (e.toNat:Int)=true/\eu x (i+7) 58=true/\eu x (i+8) 93=true):=by
   rw [oW];constructor
   ·intro h
    exact⟨h 0 si,h 1 si,h 2 si,h 3 si,h 4 si,h 5 si,h 6 si,h 7 si,h 8 si⟩
   ·rintro⟨h0,h1,h2,h3,h4,h5,h6,h7,h8⟩ j hj
    match j,hj with
    | 0,_=>exact h0
    | 1,_=>exact h1
    | 2,_=>exact h2
    | 3,_=>exact h3
    | 4,_=>exact h4
    | 5,_=>exact h5
    | 6,_=>exact h6
    | 7,_=>exact h7
    | 8,_=>exact h8
  rw [apm];have hat:=af1 x (i+2);simp only [cx,ue];constructor
  ·rintro⟨h0,h1,h2,h3,h4,h5,h6,h7,h8⟩
   have g2:=yQ.1 h2;have g3:=yQ.1 h3;have g4:=yQ.1 h4;have g5:=yQ.1 h5;have g6:=yQ.1 h6;have g7:=yQ.1 h7
   have hl:∀(k:Nat)(v:UInt8),97<=v.toNat/\v.toNat<=122->(x.getD k cA).lR=true/\(x.getD k cA).fb=(v.toNat:Int)->BA (x.getD k cA)=true:=by
    unfold BA
    grind
   have gW:x.drop (i+2)=x.getD (i+2) cA::x.getD (i+3) cA::x.getD (i+4) cA::x.getD (i+5) cA::x.getD (i+6) cA::x.getD (i+7) cA::x.drop (i+8):=by
    simp_all
   have hnl:BA (x.getD (i+7) cA)=false:=by
    unfold BA
    grind
   have hrun:jF x (i+2)=dn [a,b,c,d,e]:=by
    unfold jF;rw [gW];simp only [List.takeWhile,hl _ a ha g2.2,hl _ b hb g3.2,hl _ c hc g4.2,hl _ d hd g5.2,hl _ e he g6.2,hnl];simp only [lD,Xz,g2.2.2,g3.2.2,g4.2.2,g5.2.2,g6.2.2];rfl
   rw [hrun];exact⟨⟨h0,h1⟩,⟨h7,h8⟩,rfl⟩
  ·rintro⟨⟨h0,h1⟩,⟨h7,h8⟩,hr⟩
   rw [hr] at hat h7 h8
   have hk:∀(k:Nat)(v:UInt8),k<5->(dn [a,b,c,d,e]).getD k 0=(v.toNat:Int)->eu x (i+2+k) (v.toNat:Int)=true:=by
    intro k v hk e1;obtain⟨q1,q2,q3⟩:=hat k hk;unfold BA at q3
    simp_all [cx,yQ]
   exact⟨h0,h1,hk 0 a om rfl,hk 1 b om rfl,hk 2 c om rfl,hk 3 d om rfl,hk 4 e om rfl,h7,h8⟩
def YO(l:J bU)(b:Nat):J bU:=cond (decide (0<l.length)&&(l.getD (l.length-1) gr).jO+1==(b:Int)) (l.set (l.length-1) (bU.mk (l.getD (l.length-1) gr).pY (b:Int))) (l++[bU.mk (b:Int) (b:Int)])
def DD(P:Nat->Bool):Nat->J bU
 | 0=>[]
 | k+1=>cond (P k) (YO (DD P k) k) (DD P k)
theorem akK(l:J bU)(b:Nat):(YO l b).length<=l.length+1:=by
 unfold YO
 grind
theorem YP(P:Nat->Bool):∀k,(DD P k).length<=k
 | 0=>by simp [DD]
 | k+1=>by
  have ih:=YP P k;have:=akK (DD P k) k;unfold DD;cases P k
  ·rw [aS];omega
  ·rw [bu];omega
theorem UD(P:Nat->Bool):∀k,∀s∈DD P k,∃h:Nat,h<k/\s.jO=(h:Int)/\P h=true
 | 0,s,hs=>by cases hs
 | k+1,s,hs=>by
  have ih:=UD P k;unfold DD at hs
  cases hP:P k with
  | false=>
   rw [hP] at hs;obtain⟨h,h1,h2,h3⟩:=ih s hs
   exact⟨h,om,h2,h3⟩
  | true=>
   rw [hP] at hs;unfold YO at hs
   cases hb:(decide (0<(DD P k).length)&&((DD P k).getD ((DD P k).length-1) gr).jO+1==(k:Int)) with
   | true=>
    rw [hb] at hs;rcases List.mem_or_eq_of_mem_set hs with hs|rfl
    ·obtain⟨h,h1,h2,h3⟩:=ih s hs
     exact⟨h,om,h2,h3⟩
    ·exact⟨k,om,rfl,hP⟩
   | false=>
    rw [hb] at hs;rcases yy.1 hs with hs|hs
    ·obtain⟨h,h1,h2,h3⟩:=ih s hs
     exact⟨h,om,h2,h3⟩
    ·obtain rfl:=MD.1 hs
     exact⟨k,om,rfl,hP⟩
theorem amm(P:Nat->Bool)(c:Nat)(h:P c=true)(h0:c=0\/P (c-1)=false):DD P (c+1)=DD P c++[bU.mk (c:Int) (c:Int)]:=by
 rw [DD,h,bu,YO]
 have:(decide (0<(DD P c).length)&&((DD P c).getD ((DD P c).length-1) gr).jO+1==(c:Int))=false:=by
  by_cases hl:0<(DD P c).length
  ·grind [gd,List.getElem_mem,UD,beq_eq_false_iff_ne]
  ·rw [dF hl];rfl
 rw [this,aS]
theorem af6(P:Nat->Bool)(c:Nat)(h0:c=0\/P (c-1)=false):∀(k:Nat),(∀j,c<=j->j<=c+k->P j=true)->DD P (c+k+1)=DD P c++[bU.mk (c:Int) ((c+k:Nat):Int)]
 | 0,h=>amm P c (h c (eo _) om) h0
 | k+1,h=>by
  have ih:=af6 P c h0 k fun j h1 h2=>h j h1 om;rw [show c+(k+1)+1=(c+k+1)+1 by omega,DD,h (c+k+1) om om,ih,YO];have hl:(DD P c++[bU.mk (c:Int) ((c+k:Nat):Int)]).length-1=(DD P c).length:=by simp
  have hg:(DD P c++[bU.mk (c:Int) ((c+k:Nat):Int)]).getD ((DD P c++[bU.mk (c:Int) ((c+k:Nat):Int)]).length-1) gr=bU.mk (c:Int) ((c+k:Nat):Int):=by
   simp
  have e:((bU.mk (c:Int) ((c+k:Nat):Int)).jO+1==((c+k+1:Nat):Int))=true:=by
   rw [ue];show ((c+k:Nat):Int)+1=_;omega
  simp;omega
theorem af7(P:Nat->Bool):∀(m c:Nat),c+m=255->P c=true->∃k,c+k<=255/\(∀j,c<=j->j<=c+k->P j=true)/\(c+k=255\/P (c+k+1)=false)
 | 0,c,h,hP=>⟨0,om,(fun j h1 h2=>(show j=c by omega)▸hP),.inl om⟩
 | m+1,c,h,hP=>by
  cases h1:P (c+1) with
  | false=>exact⟨0,om,(fun j h1 h2=>(show j=c by omega)▸hP),.inr h1⟩
  | true=>
   obtain⟨k,g1,g2,g3⟩:=af7 P m (c+1) om h1;refine⟨k+1,om,fun j h2 h3=>?_,?_⟩
   ·grind
   grind
theorem adX{c:Nat}(h:c<256):IntKind.wrap .u8 (c:Int)=(c:Int):=by
 show ((c:Int)%256)=c;omega
theorem ah2(F:Nat)(set:J Bool)(hF:1000<F)(hs:set.length=256):qb F set=some (DD (fun c=>set.getD c false) 256):=by
 unfold qb;rw [cD (by rw [hs];rfl)];generalize hP:(fun c=>set.getD c false)=P;have hPc:∀c,set.getD c false=P c:=fun c=>by rw [<-hP]
 refine dw (fun s:J bU×Int×J Bool=>∃c:Nat,s=(DD P c,(c:Int),set)/\c<=256/\(c<256->P c=true->c=0\/P (c-1)=false)) (fun s=>256-s.2.1.toNat) ?_ F _ ⟨0,rfl,om,fun _ _=>.inl rfl⟩ bF;rintro s ⟨c,rfl,hc,hst⟩;have hdl:=YP P c;by_cases Jt:c<256
 ·left
  cases hb:P c with
  | false=>
   refine⟨(DD P (c+1),((c+1:Nat):Int),set),⟨c+1,rfl,om,fun _ _=>.inr (by simpa using hb)⟩,bF,fun rc=>?_⟩;dsimp only;rw [cO om,CH om om om,bQ,hPc,hb,cJ om];show rc _=_
   rw [DD,hb,aS]
  | true=>
   have h0:=hst Jt hb;obtain⟨k,k1,k2,k3⟩:=af7 P (255-c) c om hb;have hrun:=af6 P c h0 k k2;refine⟨(DD P (c+k+1),((c+k+1:Nat):Int),set),⟨c+k+1,rfl,om,fun h1 h2=>?_⟩,bF,fun rc=>?_⟩
   ·simp_all
   ·dsimp only
    rw [cO om,CH om om om,bQ,hPc,hb,ku,aS];refine dw (fun s:Int×J Bool=>∃j:Nat,s=(((c+j:Nat):Int),set)/\j<=k) (fun s=>256-s.1.toNat) ?_ F _ ⟨0,rfl,om⟩ bF;rintro s ⟨j,rfl,hj⟩;by_cases hjk:j<k
    ·left
     refine⟨(((c+(j+1):Nat):Int),set),⟨j+1,rfl,om⟩,bF,fun bq=>?_⟩;dsimp only;rw [cO om,cJ om,CH om om om,aD]
     grind
    ·right
     obtain rfl:j=k:=om;intro bq;dsimp only
     have e:(cond (decide (((c+j:Nat):Int)<255)) (rq ((decide (0<=aB (((c+j:Nat):Int)+1)))&&((decide (aB (((c+j:Nat):Int)+1)<256))&&(decide (aB (((c+j:Nat):Int)+1)<(set.length:Int))))) (some (set.getD (Int.toNat (aB (((c+j:Nat):Int)+1))) false,set))) (some (false,set)):O (Bool×J Bool))=some (false,set):=by
      by_cases aqi:c+j<255
      ·rw [cO om,cJ om,CH om om om,bQ,hPc]
       grind
      ·rw [cf om]
     rw [e,aD];dsimp only;rw [aS,adX om,adX om,iB bF om,cJ om,hrun]
 grind
def zA(l:J bU)(b:Int):Bool:=l.any fun s=>decide (s.pY<=b)&&decide (b<=s.jO)
theorem aoa(F:Nat)(l:J bU)(b:Int)(hF:l.length<F)(hl:l.length<50000000):uX F l b=some (zA l b):=by
 unfold uX;rw [qj l (fun i=>(i:Int)) (fun s=>decide (s.pY<=b)&&decide (b<=s.jO)) (fun _ _=>some true) (some false) hF (by rfl) (fun i h rc=>?_) (fun rc=>?_),FN]
 ·rw [aK,cI];rfl
 ·rw [cO om,cq h,cq h,bQ,gd h,aK,aD,cF,cJ om]
 ·rw [cf om]
theorem FP(F:Nat)(l:J bU)(hF:l.length+300<F)(hl:l.length<50000000):Hv F l=some (DD (fun c=>zA l (c:Int)) 256):=by
 generalize hP:(fun c:Nat=>zA l (c:Int))=P;have hPc:∀c:Nat,zA l (c:Int)=P c:=fun c=>by rw [<-hP]
 refine dw (fun s=>∃c:Nat,s=((c:Int),DD P c)/\c<=256) (fun s=>256-s.1.toNat) ?_ F _ ⟨0,rfl,om⟩ bF;rintro s ⟨c,rfl,hc⟩;have hdl:=YP P c;by_cases Jt:c<256
 ·left
  refine⟨(((c+1:Nat):Int),DD P (c+1)),⟨c+1,rfl,om⟩,bF,fun rc=>?_⟩;dsimp only;rw [cO om,adX Jt,aoa F l _ om hl,aD,hPc,cJ om,DD]
  cases hb:P c with
  | false=>rfl
  | true=>
   rw [ku,aS,bu,YO];by_cases h0:0<(DD P c).length
   ·have hm:(DD P c).getD ((DD P c).length-1) gr∈DD P c:=by
     grind
    obtain⟨q,q1,q2,q3⟩:=UD P c _ hm;rw [cO om,wY om h0,cq om,aD,bQ,dT h0,Qw];dsimp only;rw [q2,bG (x:=(q:Int)) om,cJ om,show ((q:Int)+1==(c:Int))=(((q+1:Nat):Int)==(c:Int)) from rfl]
    cases (((q+1:Nat):Int)==(c:Int)) with
    | true=>rw [bu,bu,cq om]
    | false=>rw [aS,aS,iB bF om]
   ·rw [cf om,aD,dF h0,RH]
    rw [aS,aS,iB bF om]
 grind
def RS(set:J Bool)(sp:J bU):Prop:=set.length=256/\∀c:Nat,c<256->set.getD c false=zA sp (c:Int)
theorem OU(a b:J bU)(c:Int):zA (a++b) c=(zA a c||zA b c):=by unfold zA;rw [List.any_append]
theorem QJ{st:J Bool}{k:Nat}(h:k<st.length)(c:Nat):(st.set k true).getD c false=(st.getD c false||c==k):=by
 grind
theorem af8:∀k:Fin 8,∀b:Fin 256,mA 0 (CL.getD k.val oP).fname (b.val:Int)=some (zA (CL.getD k.val oP).rC (b.val:Int)):=by decide +kernel
theorem af9(F:Nat){c:lH}(hc:c∈CL){b:Nat}(hb:b<256):mA F c.fname (b:Int)=some (zA c.rC (b:Int)):=by
 obtain⟨k,hk,rfl⟩:=lB hc;have:=af8 ⟨k,by rw [<-R6];exact hk⟩ ⟨b,hb⟩;rw [gd hk] at this;exact this
def YQ(run:J Int)(c:lH):Bool:=run==dn c.fname
theorem abg(n:Bs)(h:isName n=true):∃c∈CL,CL.find? (YQ (dn n))=some c/\c.fname=n:=by
 unfold isName at h;simp at h;rcases h with rfl|rfl|rfl|rfl|rfl|rfl|rfl|rfl
 ·exact⟨CL.getD 0 oP,by decide,by decide,by decide⟩
 ·exact⟨CL.getD 1 oP,by decide,by decide,by decide⟩
 ·exact⟨CL.getD 2 oP,by decide,by decide,by decide⟩
 ·exact⟨CL.getD 3 oP,by decide,by decide,by decide⟩
 ·exact⟨CL.getD 4 oP,by decide,by decide,by decide⟩
 ·exact⟨CL.getD 5 oP,by decide,by decide,by decide⟩
 ·exact⟨CL.getD 6 oP,by decide,by decide,by decide⟩
 ·exact⟨CL.getD 7 oP,by decide,by decide,by decide⟩
theorem Kq:∀c∈CL,isName c.fname=true/\c.fname.length=5/\∀b∈c.fname,97<=b.toNat/\b.toNat<=122:=by decide
theorem VZ(x:J eG)(i:Nat):dn (bZ (jF x i))=jF x i:=by
 unfold dn bZ;rw [Be]
 conv=>rhs;rw [<-T9 (jF x i)]
 refine ac1 fun v hv=>?_;obtain⟨e,he,rfl⟩:=yu.1 hv;have hl:=List.all_takeWhile (p:=BA) (l:=x.drop i);have:=oW.1 hl e he;unfold BA at this
 grind [UInt8.toNat_ofNat']
theorem adY(x:J eG)(i:Nat):(∃c∈CL,CL.find? (fun c=>vU x i ((([91,58]:Bs)++c.fname)++([58,93]:Bs)))=some c/\xu x i=(c.fname,((i+9:Nat):Int),true)/\i+9<=x.length) \/
  (CL.find? (fun c=>vU x i ((([91,58]:Bs)++c.fname)++([58,93]:Bs)))=none/\(xu x i).2.2=false):=by
 have hp:∀c∈CL,vU x i ((([91,58]:Bs)++c.fname)++([58,93]:Bs))=((eu x i 91&&eu x (i+1) 58)&&((eu x (i+2+(jF x (i+2)).length) 58&&eu x (i+2+(jF x (i+2)).length+1) 93)&&YQ (jF x (i+2)) c)):=fun c hc=>adW x i c.fname (Kq c hc).2.1 (Kq c hc).2.2
 cases hA:(eu x i 91&&eu x (i+1) 58) with
 | false=>
  right;refine⟨?_,by unfold xu;rw [hA];rfl⟩
  simp_all
 | true=>
  cases hB:(eu x (i+2+(jF x (i+2)).length) 58&&eu x (i+2+(jF x (i+2)).length+1) 93) with
  | false=>
   right;refine⟨?_,by unfold xu;rw [hA,hB];rfl⟩
   simp_all
  | true=>
   cases hN:isName (bZ (jF x (i+2))) with
   | true=>
    left;obtain⟨c,h1,h2,h3⟩:=abg _ hN;rw [VZ] at h2
    have hlen:(jF x (i+2)).length=5:=by
     grind [Kq,dn,bZ,List.length_map,VZ]
    refine⟨c,h1,?_,?_,?_⟩
    ·have:∀(L:J lH),(∀c∈L,c∈CL)->L.find? (fun c=>vU x i ((([91,58]:Bs)++c.fname)++([58,93]:Bs)))=L.find? (YQ (jF x (i+2))):=by
      intro L
      induction L with
      | nil=>intro _;rfl
      | cons a L ih=>
       grind
     simp_all
    ·unfold xu
     grind
    ·have h8:=af2 (cx _ _▸hB:_/\_).2
     omega
   | false=>
    right;refine⟨?_,by unfold xu;rw [hA,hB,hN];rfl⟩;rw [List.find?_eq_none];intro c hc;rw [hp c hc,hA,hB];simp
    cases hq:YQ (jF x (i+2)) c with
    | false=>rfl
    | true=>
     unfold YQ at hq
     simp_all [YE,Kq]
theorem aga(F:Nat)(x:J eG)(i:Nat)(set:J Bool)(sp:J bU)(hF:x.length+1000<F)(hx:x.length<50000000)(hc:QH x)(hi:i<x.length)(hR:RS set sp):
  ∃(e:Nat)(set':J Bool)(sp':J bU),kW F x (i:Int) set=some ((e:Int),set')/\o6 F (x.map Hw) (i:Int)=some (sp',(e:Int))/\RS set' (sp++sp')/\i<e/\e<=x.length/\sp'.length<=4:=by
 obtain⟨hs,hR⟩:=hR;have hw1:aB ((i:Int)+1)=((i+1:Nat):Int):=cJ om;have zx:aB ((i:Int)+2)=((i+2:Nat):Int):=by grind [bG]
 have VY:aB ((i:Int)+3)=((i+3:Nat):Int):=by grind [bG]
 have hml:(x.map Hw).length=x.length:=wS _
 have hfb:∀k,k<x.length->((x.map Hw).getD k iL).fb=(x.getD k cA).fb:=fun k hk=>by
  rw [gd (l:=x.map Hw) (by rw [hml];exact hk),Ub,gd hk];rfl
 have apn:o6 F (x.map Hw) (i:Int)=(CL.find? (fun c=>vU x i ((([91,58]:Bs)++c.fname)++([58,93]:Bs)))).elim
   (cond (cond (cond (eu x (i+1) 45) (decide (i+2<x.length)) false) (!eu x (i+2) 93) false)
    (cond (decide ((x.getD i cA).fb<=(x.getD (i+2) cA).fb)) (some ([bU.mk (x.getD i cA).fb (x.getD (i+2) cA).fb],((i+3:Nat):Int))) (some ([],((i+3:Nat):Int))))
    (some ([bU.mk (x.getD i cA).fb (x.getD i cA).fb],((i+1:Nat):Int)))) fun c=>some (c.rC,((i+9:Nat):Int)):=by
  unfold o6;rw [ajV,aD]
  rw [qj CL (fun i=>(i:Int)) (fun c=>vU x i ((([91,58]:Bs)++c.fname)++([58,93]:Bs))) (fun _ c=>some (c.rC,((i+9:Nat):Int))) (cond (cond (cond (eu x (i+1) 45) (decide (i+2<x.length)) false) (!eu x (i+2) 93) false)
    (cond (decide ((x.getD i cA).fb<=(x.getD (i+2) cA).fb)) (some ([bU.mk (x.getD i cA).fb (x.getD (i+2) cA).fb],((i+3:Nat):Int))) (some ([],((i+3:Nat):Int))))
    (some ([bU.mk (x.getD i cA).fb (x.getD i cA).fb],((i+1:Nat):Int)))) (by rw [R6];omega) (by rfl) (fun k hk rc=>?_) (fun rc=>?_),MN]
  ·have hm:=adR _ (kz hk)
   have hk8:k<8:=by rw [<-R6];exact hk
   rw [cO om,cq hk,bQ,gd hk,cJ om];generalize CL[k]=c at hm;have hl:((([91,58]:Bs)++c.fname)++([58,93]:Bs)).length=9:=by simp;omega
   grind [aB,bG,sw,akJ,cq]
  ·rw [cf om,cq om,hw1,zx,VY,ja,je,aD,ja,je,aK,aD,aD,aK,aD,hml]
   rw [show decide (((i+2:Nat):Int)<(x.length:Int))=decide (i+2<x.length) from decide_eq_decide.2 om]
   cases h4:cond (cond (eu x (i+1) 45) (decide (i+2<x.length)) false) (!eu x (i+2) 93) false with
   | false=>simp_all
   | true=>
    have h5:i+2<x.length:=by
     simp_all
    rw [bu,bu,bR om om,bQ,bQ,hfb i hi,hfb (i+2) h5]
 rw [apn];have hb:=hc.at hi;rcases adY x i with⟨c,hcm,hfind,hcl,h9⟩|⟨hfind,hcl⟩
 ·rw [hfind]
  refine (fun (h:∃st:J Bool,st.length=256/\(∀b:Nat,b<256->st.getD b false=(set.getD b false||zA c.rC (b:Int)))/\kW F x (i:Int) set=some (((i+9:Nat):Int),st))=>?_) ?_
  ·obtain⟨st,h1,h2,h3⟩:=h
   exact⟨i+9,st,c.rC,h3,rfl,⟨h1,fun b hb=>by simp_all [OU]⟩,om,h9,(adR c hcm).2⟩
  ·unfold kW
   rw [(QI F x i om om).resolve_right om,hcl,aD,bu]
   obtain⟨r,⟨st,h1,h2,rfl⟩,h3⟩:∃r:Int×J Bool,(∃st:J Bool,st.length=256/\(∀b:Nat,b<256->st.getD b false=(set.getD b false||zA c.rC (b:Int)))/\r=(((i+9:Nat):Int),st))/\(bV (σ:=Int×(J Bool)) (R:=Int×(J Bool)) (fun gG x2=>
     cond (decide (x2.1<256))
     ((mA F c.fname x2.1).bind fun x4=>
     cond x4
     (rq ((decide (0<=x2.1))&&((decide (x2.1<256))&&(decide (x2.1<(x2.2.length:Int))))) (gG (aB (x2.1+1),x2.2.set (Int.toNat x2.1) true)))
     (gG (aB (x2.1+1),x2.2)))
     (some (((i+9:Nat):Int),x2.2))) F (0,set))=some r:=by
    refine ir _ (fun s:Int×J Bool=>∃k:Nat,s.1=(k:Int)/\k<=256/\s.2.length=256/\∀b:Nat,s.2.getD b false=(set.getD b false||(decide (b<k)&&zA c.rC (b:Int)))) (fun s=>256-s.1.toNat) ?_ F _ ⟨0,rfl,om,hs,fun b=>by simp⟩ bF;rintro⟨ii,st⟩ ⟨k,h0,hk,hl,hst⟩ rc hrc;dsimp only at h0 hl hst⊢;subst h0;by_cases hk:k<256
    ·rw [cO om,af9 F hcm hk,aD,cJ om]
     cases hin:zA c.rC (k:Int) with
     | true=>
      rw [bu,CH om om om,bQ];refine hrc _ ⟨k+1,rfl,om,by simpa using hl,fun b=>?_⟩ bF;dsimp only;rw [QJ om,hst b]
      grind
     | false=>
      refine hrc _ ⟨k+1,rfl,om,hl,fun b=>?_⟩ bF
      grind
    grind
   simp_all
 ·rw [hfind]
  show ∃(e:Nat)(set':J Bool)(sp':J bU),_/\(cond _ _ _)=_/\_;unfold kW;rw [(QI F x i om om).resolve_right om,aD,hcl,aS,hw1,zx,VY,gK,aD,gK,aK,aD]
  have e1:cond (eu x (i+1) 45) (decide (((i+2:Nat):Int)<(x.length:Int)),set) (false,set)=((cond (eu x (i+1) 45) (decide (i+2<x.length)) false),set):=by
   grind
  rw [e1];dsimp only;rw [aD,aK,aD];have e2:∀a b:Bool,cond a (b,set) (false,set)=(cond a b false,set):=by simp_all
  rw [e2];dsimp only
  cases h4:cond (cond (eu x (i+1) 45) (decide (i+2<x.length)) false) (!eu x (i+2) 93) false with
  | false=>
   rw [aS,aS,cq hi,bQ,CH om om om];refine⟨i+1,_,_,rfl,rfl,⟨by simpa using hs,fun b o4=>?_⟩,om,om,si⟩;rw [QJ om,hR b o4,OU];congr 1;unfold zA
   grind
  | true=>
   have h5:i+2<x.length:=by
    simp_all
   have o4:=hc.at h5;rw [bu,bu,cq hi,bQ,bQ,bG (x:=(x.getD i cA).fb) om,bG (x:=(x.getD (i+2) cA).fb) om];generalize (x.getD i cA).fb=lo at hb;generalize (x.getD (i+2) cA).fb=hi2 at o4
   obtain⟨r,⟨st,h1,h2,rfl⟩,h3⟩:∃r:Int×J Bool,(∃st:J Bool,st.length=256/\(∀b:Nat,b<256->st.getD b false=(set.getD b false||(decide (lo<=(b:Int))&&decide ((b:Int)<=hi2))))/\r=(((i+3:Nat):Int),st))/\(bV (σ:=Int×(J Bool)) (R:=Int×(J Bool)) (fun QK x9=>
     rq ((decide (0<=((i+2:Nat):Int)))&&(decide (((i+2:Nat):Int)<(x.length:Int)))) (cond (decide (x9.1<=hi2))
     (rq ((decide (0<=x9.1))&&((decide (x9.1<256))&&(decide (x9.1<(x9.2.length:Int))))) (QK (aB (x9.1+1),x9.2.set (Int.toNat x9.1) true)))
     (some (((i+3:Nat):Int),x9.2)))) F (lo,set))=some r:=by
    refine ir _ (fun s:Int×J Bool=>lo<=s.1/\s.1<=256/\s.2.length=256/\(∀v:Int,lo<=v->v<s.1->v<=hi2)/\∀b:Nat,s.2.getD b false=(set.getD b false||(decide (lo<=(b:Int))&&decide ((b:Int)<s.1)))) (fun s=>256-s.1.toNat) ?_ F _ ⟨XP _,om,hs,fun v h1 h2=>om,fun b=>by
     grind⟩ bF
    rintro⟨ii,st⟩ ⟨h6,h7,hl,hv,hst⟩ rc hrc;dsimp only at h6 h7 hl hv hst⊢;rw [cq h5];by_cases hle:ii<=hi2
    ·rw [cO hle,CH om om om,bG om]
     refine hrc _ ⟨by dsimp only;omega,by dsimp only;omega,by simpa using hl,fun v h1 h2=>by dsimp only at h2;omega,fun b=>?_⟩ (by dsimp only;omega);dsimp only;rw [QJ om,hst b,Bool.or_assoc]
     grind
    grind
   by_cases hlh:lo<=hi2
   ·rw [cO hlh]
    refine⟨i+3,st,[bU.mk lo hi2],h3,rfl,⟨h1,fun b YR=>?_⟩,om,om,si⟩;rw [h2 b YR,hR b YR,OU];congr 1;unfold zA;simp
   ·rw [cf hlh]
    refine⟨i+3,st,[],h3,rfl,⟨h1,fun b YR=>?_⟩,om,om,si⟩;rw [h2 b YR,hR b YR,OU];congr 1;unfold zA
    grind
theorem M1{σ τ R:Type}{b1:(σ->O R)->σ->O R}{b2:(τ->O R)->τ->O R}(P:σ->τ->Prop)(m:σ->Nat)
  (hs:∀s t,P s t->(∃s' t',P s' t'/\m s'<m s/\(∀rc,b1 rc s=rc s')/\∀rc,b2 rc t=rc t')\/∃z,(∀rc,b1 rc s=some z)/\∀rc,b2 rc t=some z) :
  ∀(F1 F2:Nat)(s:σ)(t:τ),P s t->m s<F1->m s<F2->∃z,bV b1 F1 s=some z/\bV b2 F2 t=some z
 | 0,_,s,t,_,h,_=>by omega
 | _+1,0,s,t,_,_,h=>by omega
 | F1+1,F2+1,s,t,hP,h1,h2=>by
  show ∃z,b1 (bV b1 F1) s=some z/\b2 (bV b2 F2) t=some z;rcases hs s t hP with⟨s',t',g1,g2,g3,g4⟩|⟨z,g1,g2⟩
  ·rw [g3,g4];exact M1 P m hs F1 F2 s' t' g1 om om
  simp_all
theorem YS{P Q:Nat->Bool}:∀k,(∀c,c<k->P c=Q c)->DD P k=DD Q k
 | 0,_=>rfl
 | k+1,h=>by
  unfold DD;rw [YS k fun c hc=>h c om,h k om]
theorem adZ(F:Nat)(x:J eG)(i:Nat)(hF:4*x.length+1000<F)(hx:x.length<12000000)(hc:QH x)(hi:i<x.length):∃z,nq F x (i:Int)=some z/\qc F (x.map Hw) (i:Int)=some z:=by
 have hml:(x.map Hw).length=x.length:=wS _;have hw1:aB ((i:Int)+1)=((i+1:Nat):Int):=cJ om;unfold nq qc;rw [hw1,gK,aD,gK,aD,aK,aD,cJ om,aK,aD,ja,je,aD,ja,je,aD,aK,aD,aK,aD];generalize hneg:cond (eu x (i+1) 33) true (eu x (i+1) 94)=neg
 obtain⟨s0,hs0,hs1,hs2,hy⟩:∃s0:Nat,cond neg (((i+1+1:Nat):Int)) ((i+1:Nat):Int)=(s0:Int)/\i<s0/\s0<=i+2/\cond neg (((i+1+1:Nat):Int),(aG.mk 4 [] false []).fKind,(aG.mk 4 [] false []).fText,true,(aG.mk 4 [] false []).cE) (((i+1:Nat):Int),(aG.mk 4 [] false []).fKind,(aG.mk 4 [] false []).fText,(aG.mk 4 [] false []).BB,(aG.mk 4 [] false []).cE)=((s0:Int),4,[],neg,[]):=by
  cases neg
  ·grind
  ·exact⟨i+2,rfl,om,om,rfl⟩
 rw [hs0,hy]
 refine M1 (fun (s:Int×Bool×J Bool)(t:Int×J bU×Bool)=>∃(k:Nat)(fi:Bool)(set:J Bool)(sp:J bU),s=((k:Int),fi,set)/\t=((k:Int),sp,fi)/\i<k/\k<=x.length+2/\RS set sp/\sp.length<=4*k) (fun s=>x.length+2-s.1.toNat) ?_ F F _ _ ⟨s0,true,_,_,rfl,rfl,hs1,om,⟨si,fun c h=>by
  rw [ac7,List.getElem?_replicate];simp [h,zA]⟩,si⟩ bF bF
 rintro _ _ ⟨k,fi,set,sp,rfl,rfl,hk,hk2,hR,hl⟩;dsimp only;by_cases DQ:k<x.length
 ·have e2:cond (eu x k 93) (!fi,set) (false,set)=((eu x k 93 && !fi),set):=by cases eu x k 93<;>rfl
  cases h4:(eu x k 93 && !fi) with
  | true=>
   right
   have h5:cond fi true (!eu x k 93)=false:=by
    simp_all
   refine⟨(aG.mk 4 [] neg (DD (fun c=>set.getD c false) 256),((k+1:Nat):Int),true),fun rc=>?_,fun rc=>?_⟩
   ·rw [cO om,gK,aD,aK,aD,e2,h4]
    rw [bu,cD (by rw [hR.1];rfl),ah2 F set om hR.1,aD,cJ om]
   ·rw [ja,je,aD,aK,hml,cO (show (k:Int)<(x.length:Int) by omega),aD,h5,aS,cf (show ¬ (x.length:Int)<=(k:Int) by omega),FP F sp om om,aD,cJ om]
    rw [YS 256 fun c hc=>(hR.2 c hc).symm]
  | false=>
   left
   have h5:cond fi true (!eu x k 93)=true:=by
    grind
   obtain⟨e,set',sp',g1,g2,g3,g4,g5,g6⟩:=aga F x k set sp om om hc DQ hR;refine⟨_,_,⟨e,false,set',sp++sp',rfl,rfl,om,om,g3,by grind⟩,bF,fun rc=>?_,fun rc=>?_⟩
   ·simp_all [cO,gK,aD,aK,aS]
   ·rw [ja,je,Option.bind_some,aK,hml,cO (show (k:Int)<(x.length:Int) by omega),Option.bind_some,h5,cond_true,g2,Option.bind_some,iB (by dsimp only;omega) om]
 ·right
  simp_all [cf,ja,je,aD,aK,aS,cO]
theorem ad1(F:Nat)(l:J aH)(hF:l.length<F)(qR:4*cz l+1000<F)(h1:l.length<1000000000)(h2:cz l<=10000000):∃p,iK F l=some p/\jK F l=some p:=by
 unfold iK jK;rw [Ko F l hF om h1 om,PV F l hF om h1 om,aD,aD,an9];have hx:(l.flatMap rB).length<=cz l:=Jq _ UC _;have hc:=YH l;generalize (l.flatMap rB)=x at hx hc;have hml:(x.map Hw).length=x.length:=wS _;refine M1 (fun (s t:J aG×Int)=>s=t/\∃k:Nat,s.2=(k:Int)/\k<=x.length/\s.1.length<=k) (fun s=>x.length-s.2.toNat) ?_ F F _ _ ⟨rfl,0,rfl,om,si⟩ bF bF;rintro⟨acc,ii⟩ _ ⟨rfl,k,h0,hk,ha⟩;dsimp only at h0 ha⊢;subst h0
 have hex:∀a b:Int,a≠b->eu x k a=true->eu x k b=false:=by
  grind [yQ]
 have hfb:k<x.length->((x.map Hw).getD k iL).fb=(x.getD k cA).fb:=fun hk=>by
  rw [gd (l:=x.map Hw) (by rw [hml];exact hk),Ub,gd hk];rfl
 by_cases DQ:k<x.length
 ·left
  have hc1:∀(it:aG),(decide (acc.length+([it]:J aG).length<=9223372036854775807)&&decide ((acc.length+([it]:J aG).length)*56<=140737488355328))=true:=fun it=>nJ bF om
  cases PX:eu x k 91 with
  | true=>
   have PY:=hex 91 42 de PX;have h63:=hex 91 63 de PX;obtain⟨z,z1,z2⟩:=adZ F x k om om hc DQ;obtain⟨r,r1,r2⟩:=PW F x k om om hc DQ;have hzr:z=r:=uH (z1.symm.trans r2);subst hzr
   cases hz:z.2.2 with
   | true=>
    obtain⟨-,e,g2,g3,g4⟩:=r1 hz;refine⟨(acc++[z.1],(e:Int)),(acc++[z.1],(e:Int)),⟨rfl,e,rfl,g4,bF⟩,bF,fun rc=>?_,fun rc=>?_⟩
    ·rw [cO om,gK,aD,PX,bu,z1,aD,hz,bu,cD (hc1 _),g2]
     cases h:rc (acc++[z.1],(e:Int))<;>rfl
    ·rw [hml,cO om,ja,je,aD,PY,aS,ja,je,aD,h63,aS,ja,je,aD,PX,bu,z2,aD,hz,bu,cD (hc1 _),g2]
     cases h:rc (acc++[z.1],(e:Int))<;>rfl
   | false=>
    refine⟨(acc++[aG.mk 1 (bZ [(x.getD k cA).fb]) false []],((k+1:Nat):Int)),_,⟨rfl,k+1,rfl,om,bF⟩,bF,fun rc=>?_,fun rc=>?_⟩
    ·rw [cO om,gK,aD,PX,bu,z1,aD,hz,aS]
     show ((fy F x (k:Int) 42).bind _)=_;rw [gK,aD,PY,aS,gK,aD,h63,aS,cq DQ,cD (hc1 _),cJ om,bQ]
    ·rw [hml,cO om,ja,je,aD,PY,aS,ja,je,aD,h63,aS,ja,je,aD,PX,bu,z2,aD,hz,aS]
     show rq _ (rq _ (rc _))=_
     grind [cq,cD,cJ,Int.toNat_natCast]
  | false=>
   cases PY:eu x k 42 with
   | true=>
    refine⟨(acc++[aG.mk 3 [] false []],((k+1:Nat):Int)),_,⟨rfl,k+1,rfl,om,bF⟩,bF,fun rc=>?_,fun rc=>?_⟩
    ·rw [cO om,gK,aD,PX,aS]
     show ((fy F x (k:Int) 42).bind _)=_;rw [gK,aD,PY,bu,cD (hc1 _),cJ om]
    ·rw [hml,cO om,ja,je,aD,PY,bu,cD (hc1 _),cJ om]
   | false=>
    cases h63:eu x k 63 with
    | true=>
     refine⟨(acc++[aG.mk 2 [] false []],((k+1:Nat):Int)),_,⟨rfl,k+1,rfl,om,bF⟩,bF,fun rc=>?_,fun rc=>?_⟩
     ·rw [cO om,gK,aD,PX,aS]
      show ((fy F x (k:Int) 42).bind _)=_;rw [gK,aD,PY,aS,gK,aD,h63,bu,cD (hc1 _),cJ om]
     ·rw [hml,cO om,ja,je,aD,PY,aS,ja,je,aD,h63,bu,cD (hc1 _),cJ om]
    | false=>
     refine⟨(acc++[aG.mk 1 (bZ [(x.getD k cA).fb]) false []],((k+1:Nat):Int)),_,⟨rfl,k+1,rfl,om,bF⟩,bF,fun rc=>?_,fun rc=>?_⟩
     ·rw [cO om,gK,aD,PX,aS]
      show ((fy F x (k:Int) 42).bind _)=_;rw [gK,aD,PY,aS,gK,aD,h63,aS,cq DQ,cD (hc1 _),cJ om,bQ]
     ·rw [hml,cO om,ja,je,aD,PY,aS,ja,je,aD,h63,aS,ja,je,aD,PX,aS]
      show rq _ (rq _ (rc _))=_
      grind [cq,cD,cJ,Int.toNat_natCast]
 simp_all [cf]
theorem Kr{σ τ R S:Type}{b1:(σ->O R)->σ->O R}{b2:(τ->O S)->τ->O S}(Q:O R->O S->Prop)(P:σ->τ->Prop)(m:σ->Nat)
  (hs:∀s t,P s t->∀rc1 bq,(∀s' t',P s' t'->m s'<m s->Q (rc1 s') (bq t'))->Q (b1 rc1 s) (b2 bq t)) :
  ∀(F1 F2:Nat)(s:σ)(t:τ),P s t->m s<F1->m s<F2->Q (bV b1 F1 s) (bV b2 F2 t)
 | 0,_,s,t,_,h,_=>by omega
 | _+1,0,s,t,_,_,h=>by omega
 | F1+1,F2+1,s,t,hP,h1,h2=>hs s t hP (bV b1 F1) (bV b2 F2) fun s' t' g1 g2=>Kr Q P m hs F1 F2 s' t' g1 om om
theorem Hx(F:Nat)(p:J aG)(hF:p.length+300<F)(hp:p.length<50000000)(hit:∀it∈p,mB it):lV F p=kB F p:=by
 unfold lV kB;refine Kr (fun a b=>a=b) (fun s t=>s=t/\∃k:Nat,s=(k:Int)/\k<=p.length) (fun s=>p.length-s.toNat) ?_ F F _ _ ⟨rfl,0,rfl,om⟩ bF bF;rintro _ _ ⟨rfl,k,rfl,hk⟩ rc1 bq hrc;by_cases hk:k<p.length
 ·have hI:=hit _ (kz hk)
  rw [cO (show (k:Int)<(p.length:Int) by omega),cO (show (k:Int)<(p.length:Int) by omega),cq hk,cq hk,bQ,gd hk];generalize p[k]=it at hI;have hl:=hI.2.2;obtain⟨c,hc⟩:=BC F it.cE om om;have hnext:=hrc ((k+1:Nat):Int) ((k+1:Nat):Int) ⟨rfl,k+1,rfl,om⟩ bF;simp only [aK,aD,hc];rw [cJ om]
  cases (cond (cond (decide (it.fKind<1)) true (decide (4<it.fKind))) true ((it.fText.length:Int) != cond (it.fKind==1) 1 0)) with
  | true=>rfl
  | false=>
   rw [aS,aS]
   cases (cond (it.fKind != 4) (cond it.BB true (decide (0<(it.cE.length:Int)))) false) with
   | true=>rfl
   | false=>
    rw [aS,aS]
    have hin:∀A:O Bool,bV (σ:=Int) (R:=Bool) (fun PZ x7=>
       cond (decide (x7<(it.cE.length:Int)))
       (rq ((decide (0<=x7))&&(decide (x7<(it.cE.length:Int)))) ((cond (decide ((it.cE.getD (Int.toNat x7) gr).jO<(it.cE.getD (Int.toNat x7) gr).pY))
       (some true)
       (cond (decide (0<x7))
       (rq ((decide (0<=aB (x7-1)))&&(decide (aB (x7-1)<(it.cE.length:Int)))) (some (decide (aB ((it.cE.getD (Int.toNat x7) gr).pY)<=aB ((aB ((it.cE.getD (Int.toNat (aB (x7-1))) gr).jO))+1)))))
       (some false)):O Bool).bind fun x9=>
       cond x9
       (some false)
       (PZ (aB (x7+1)))))
       A) F 0=cond c A (some false):=by
     intro A;have Jt:=hc;unfold nr at Jt
     have hsw:∀(a b:O Bool),b=some c->(∃c',b=some c'/\a=cond c' A (some false))->a=cond c A (some false):=by
      rintro a b h1 ⟨c',h2,h3⟩;rw [h1] at h2;cases h2;exact h3
     refine hsw _ _ Jt (Kr (fun a b=>∃c',b=some c'/\a=cond c' A (some false)) (fun (s t:Int)=>s=t/\∃j:Nat,s=(j:Int)/\j<=it.cE.length) (fun s=>it.cE.length-s.toNat) ?_ F F 0 0 ⟨rfl,0,rfl,om⟩ bF bF);rintro s t hst rcA rcB hAB
     ·obtain⟨rfl,j,rfl,hj⟩:=hst
      by_cases hj:j<it.cE.length
      ·have e:∃b,(cond (decide ((it.cE.getD (Int.toNat (j:Int)) gr).jO<(it.cE.getD (Int.toNat (j:Int)) gr).pY)) (some true) (cond (decide (0<(j:Int))) (rq ((decide (0<=aB ((j:Int)-1)))&&(decide (aB ((j:Int)-1)<(it.cE.length:Int)))) (some (decide (aB ((it.cE.getD (Int.toNat (j:Int)) gr).pY)<=aB ((aB ((it.cE.getD (Int.toNat (aB ((j:Int)-1))) gr).jO))+1))))) (some false)):O Bool)=some b:=by
        by_cases h0:0<j
        ·rw [wY om h0,cO (show (0:Int)<(j:Int) by omega),bR om om,aK];exact⟨_,rfl⟩
        ·rw [cf (show ¬ (0:Int)<(j:Int) by omega),aK];exact⟨_,rfl⟩
       obtain⟨b,hb⟩:=e;rw [cO (show (j:Int)<(it.cE.length:Int) by omega),cO (show (j:Int)<(it.cE.length:Int) by omega),cq hj,cq hj];simp only [cq hj];rw [hb,aD,aD,cJ om]
       cases b with
       | true=>exact⟨false,rfl,rfl⟩
       | false=>exact hAB _ _ ⟨rfl,j+1,rfl,om⟩ bF
      ·rw [cf (show ¬ (j:Int)<(it.cE.length:Int) by omega),cf (show ¬ (j:Int)<(it.cE.length:Int) by omega)]
       exact⟨true,rfl,rfl⟩
    rw [hin]
    cases c with
    | true=>exact hnext
    | false=>rfl
 ·rw [cf (show ¬ (k:Int)<(p.length:Int) by omega),cf (show ¬ (k:Int)<(p.length:Int) by omega)]
def iC(n:Nat)(f:Nat->Bool):J Bool:=(List.range n).map f
theorem BE(n:Nat)(f:Nat->Bool):(iC n f).length=n:=by unfold iC;simp
theorem vV{n i:Nat}(f:Nat->Bool)(h:i<n):(iC n f).getD i false=f i:=by
 unfold iC
 simp_all
theorem kM{n:Nat}{f g:Nat->Bool}(h:∀i,i<n->f i=g i):iC n f=iC n g:=by
 unfold iC
 simp_all
theorem FQ(n i:Nat)(f:Nat->Bool)(b:Bool):(iC n f).set i b=iC n (fun j=>cond (j==i) b (f j)):=by
 unfold iC;refine y6 si fun j h1 h2=>?_
 grind
theorem QL(n:Nat):List.replicate n false=iC n (fun _=>false):=by
 refine y6 (by simp [iC]) fun j h1 h2=>?_;simp [iC]
section
variable (p : J aG) (s : Bs)
def R7(i:Nat):aG:=p.getD i fT
def lW(i:Nat):Bool:=(R7 p i).fKind==3
def QM(it:aG)(b:Int):Bool:=
 cond (it.fKind==1) (((it.fText.getD 0 0).toNat:Int)==b) (cond (it.fKind==4) (!((it.cE.any fun x=>decide (x.pY<=b)&&decide (b<=x.jO))==it.BB)) true)
def M3(i k:Nat):Bool:=QM (R7 p i) ((s.getD k 0).toNat:Int)
def upE(f:Nat->Bool):Nat->Bool
 | 0=>f 0
 | k+1=>f (k+1)||upE f k
def prE(f g:Nat->Bool):Nat->Bool
 | 0=>false
 | k+1=>f k&&g k
def EE:Nat->Nat->Bool
 | 0,k=>k==0
 | i+1,k=>cond (lW p i) (upE (EE i) k) (prE (EE i) (M3 p s i) k)
def EP(i k:Nat):Bool:=EE p s i k||(lW p i&&EE p s (i+1) k)
theorem acn:lW p p.length=false:=by
 unfold lW R7;rw [ac7,Ue (eo _)];rfl
theorem OV{i:Nat}(h:lW p i=true)(k:Nat):EE p s (i+1) (k+1)=(EE p s i (k+1)||EE p s (i+1) k):=by
 rw [EE,EE,h];rfl
theorem Ks{i:Nat}(h:lW p i=true):EE p s (i+1) 0=EE p s i 0:=by rw [EE,h];rfl
theorem UE{i:Nat}(h:lW p i=false)(k:Nat):EE p s (i+1) (k+1)=(EE p s i k&&M3 p s i k):=by rw [EE,h];rfl
theorem YT{i:Nat}(h:lW p i=false):EE p s (i+1) 0=false:=by rw [EE,h];rfl
theorem ad2{i:Nat}(h:lW p i=true):∀k,EE p s i k=true->EE p s (i+1) k=true
 | 0,e=>by simp_all [Ks]
 | k+1,e=>by simp_all [OV]
def xw(f:Nat->Bool):Nat->Bool
 | 0=>f 0
 | i+1=>f (i+1)||(xw f i&&lW p i)
def uY(f:Nat->Bool)(b k j:Nat):Bool:=(decide (j<b)&&(f j&&lW p j))||(decide (0<j)&&(decide (j<=b)&&(f (j-1)&&(!lW p (j-1)&&M3 p s (j-1) k))))
theorem ah3:∀i,xw p (fun j=>j==0) i=EP p s i 0:=by
 have hE:∀i,EP p s i 0=EE p s i 0:=by
  unfold EP
  simp_all [Ks]
 intro i
 induction i with
 | zero=>rfl
 | succ i ih=>
  rw [xw]
  grind [YT,Ks]
theorem aco(k:Nat):∀i,i<=p.length->xw p (uY p s (fun j=>EP p s j k) p.length k) i=EP p s i (k+1):=by
 have hpre:∀i,i<=p.length->uY p s (fun j=>EP p s j k) p.length k i=((lW p i&&EE p s (i+1) k)||(decide (0<i)&&(!lW p (i-1)&&EE p s i (k+1)))):=by
  intro i hi;unfold uY;congr 1
  ·by_cases h:i<p.length
   ·unfold EP
    grind [ad2]
   grind [acn,decide_eq_false]
  ·cases i with
   | zero=>simp
   | succ i=>
    unfold EP
    grind [UE]
 intro i
 induction i with
 | zero=>
  intro hi;rw [xw,hpre 0 hi];unfold EP;rw [show EE p s 0 (k+1)=false from rfl]
  cases hs:lW p 0 with
  | false=>simp
  | true=>rw [OV p s hs,show EE p s 0 (k+1)=false from rfl];simp
 | succ i ih=>
  intro hi;rw [xw,hpre (i+1) hi,ih om]
  have e2:EP p s (i+1) (k+1)=(EE p s (i+1) (k+1)||(lW p (i+1)&&EE p s (i+2) k)):=by
   unfold EP
   grind [OV]
  rw [e2];unfold EP
  grind [ad2]
theorem YU(f:Nat->Bool)(n:Nat)(h:∀i,i<=n->f i=false):∀i,i<=n->xw p f i=false
 | 0,hi=>h 0 hi
 | i+1,hi=>by rw [xw,h _ hi,YU f n h i om];rfl
theorem UF(k:Nat)(h:∀i,i<=p.length->EP p s i k=false):∀d i,i<=p.length->EP p s i (k+d)=false
 | 0,i,hi=>h i hi
 | d+1,i,hi=>by
  rw [<-Uh,<-aco p s (k+d) i hi];refine YU p _ p.length (fun j hj=>?_) i hi;unfold uY;dsimp only;rw [UF k h d j hj];by_cases h0:0<j
  ·rw [UF k h d (j-1) om];simp
  ·simp [h0]
theorem agb(k:Nat):EP p s p.length k=EE p s p.length k:=by unfold EP;rw [acn];simp
end
def Kt(b:Int)(x:bU):Bool:=decide (x.pY<=b)&&decide (b<=x.jO)
theorem akL(F:Nat)(it:aG)(b:Int)(hF:300<F)(h:mB it):uZ F it b=some (QM it b):=by
 unfold uZ QM
 cases hk:(it.fKind==1) with
 | true=>
  have:=h.1 (eq_of_beq hk)
  rw [bu,bu,sw om]
 | false=>
  cases (it.fKind==4) with
  | false=>rfl
  | true=>
   have hl:=h.2.2;refine dw (fun s=>∃k:Nat,s=((it.cE.take k).any (Kt b),(k:Int))/\k<=it.cE.length) (fun s=>it.cE.length-s.2.toNat) ?_ F _ ⟨0,rfl,om⟩ bF;rintro s ⟨k,rfl,hk2⟩;by_cases hk2:k<it.cE.length
   ·left
    refine⟨_,⟨k+1,rfl,om⟩,bF,fun rc=>?_⟩;rw [cq hk2,bQ,aK,aK,cJ om,qA hk2,List.any_append];unfold Kt
    simp_all
   ·right
    obtain rfl:k=it.cE.length:=om;intro rc;rw [cf om,Bi];rfl
theorem ah4(F:Nat)(it:aG)(b:Int)(hF:300<F)(h:mB it):Ce F it b=some (QM it b):=by
 unfold Ce QM
 cases hk:(it.fKind==1) with
 | true=>
  have:=h.1 (eq_of_beq hk)
  rw [bu,bu,sw om]
 | false=>
  cases (it.fKind==4) with
  | false=>rfl
  | true=>
   have hl:=h.2.2
   have e:uX F it.cE b=some (it.cE.any (Kt b)):=by
    refine dw (fun s=>∃k:Nat,s=(k:Int)/\k<=it.cE.length/\(it.cE.take k).any (Kt b)=false) (fun s=>it.cE.length-s.toNat) ?_ F _ ⟨0,rfl,om,rfl⟩ bF;rintro s ⟨k,rfl,hk2,hn⟩;by_cases hk2:k<it.cE.length
    ·have hin:(cond (decide (it.cE[k].pY<=b)) (rq ((decide (0<=(k:Int)))&&(decide ((k:Int)<(it.cE.length:Int)))) (some (decide (b<=it.cE[k].jO)))) (some false):O Bool)=some (Kt b it.cE[k]):=by
      rw [cq hk2];unfold Kt
      grind
     have aob:(it.cE.take (k+1)).any (Kt b)=Kt b it.cE[k]:=by
      grind [List.take_succ_eq_append_getElem]
     cases hb:Kt b it.cE[k] with
     | true=>
      right;intro rc;have:=Ug.2 ⟨_,kz hk2,hb⟩;rw [cO om,cq hk2,bQ,gd hk2,hin,hb,this]
      rfl
     | false=>
      left;refine⟨_,⟨k+1,rfl,om,by rw [aob,hb]⟩,bF,fun rc=>?_⟩;rw [cO om,cq hk2,bQ,gd hk2,hin,hb,cJ om];rfl
    grind
   rw [e];rfl
theorem V0(F:Nat)(p:J aG)(f:Nat->Bool)(hF:p.length<F)(hp:p.length<50000000):rD F p (iC (p.length+1) f)=some (iC (p.length+1) (xw p f)):=by
 refine dw (fun s=>∃k:Nat,s=((k:Int),iC (p.length+1) (fun j=>cond (decide (j<=k)) (xw p f j) (f j)))/\k<=p.length) (fun s=>p.length-s.1.toNat) ?_ F _ ⟨0,congrArg (Prod.mk (0:Int)) (kM fun i hi=>by
   cases i with
   | zero=>rfl
   | succ i=>simp_all),om⟩ bF
 rintro s ⟨k,rfl,hk⟩;have hlen:∀g:Nat->Bool,(iC (p.length+1) g).length=p.length+1:=fun g=>BE _ g;by_cases hk:k<p.length
 ·left
  refine⟨_,⟨k+1,rfl,om⟩,bF,fun rc=>?_⟩;rw [cO om,cq hk,bR om (by rw [hlen];omega),bQ,vV _ (show k<p.length+1 by omega),aK,cJ om,dT (show k<=k by omega),bu];have e:∀(A B:Bool)(L:J Bool),cond A (B,L) (false,L)=((A&&B),L):=by simp_all
  rw [e];show cond (xw p f k&&lW p k) _ _=_
  have e2:iC (p.length+1) (fun j=>cond (decide (j<=k+1)) (xw p f j) (f j))=cond (xw p f k&&lW p k) ((iC (p.length+1) (fun j=>cond (decide (j<=k)) (xw p f j) (f j))).set (k+1) true) (iC (p.length+1) (fun j=>cond (decide (j<=k)) (xw p f j) (f j))):=by
   cases hc:(xw p f k&&lW p k) with
   | true=>
    rw [FQ];refine kM fun j hj=>?_;by_cases h1:j=k+1
    ·subst h1
     rw [FC,dT om,xw,hc];simp
    grind
   | false=>
    refine kM fun j hj=>?_;by_cases h1:j=k+1
    ·subst h1
     rw [dT (show k+1<=k+1 by omega),dF (show ¬ k+1<=k by omega),xw,hc];simp
    grind
  rw [e2]
  cases hc:(xw p f k&&lW p k) with
  | true=>rw [bu,bu,bR om (by rw [hlen];omega),bQ]
  | false=>rfl
 ·right
  intro rc;rw [cf om];rw [kM (g:=xw p f) fun j hj=>by grind]
theorem agc(p:J aG)(s:Bs)(f:Nat->Bool)(k j:Nat):uY p s f 0 k j=false:=by
 unfold uY
 grind
theorem agd(p:J aG)(s:Bs)(f:Nat->Bool)(b k j:Nat):
  uY p s f (b+1) k j=cond (f b&&lW p b) (cond (j==b) true (uY p s f b k j)) (cond (f b&&M3 p s b k) (cond (j==b+1) true (uY p s f b k j)) (uY p s f b k j)):=by
 unfold uY
 grind
theorem ad3(F:Nat)(p:J aG)(s:Bs)(f:Nat->Bool)(k:Nat)(hF:p.length+300<F)(hp:p.length<50000000)(hit:∀it∈p,mB it):
  qU F p (iC (p.length+1) f) ((s.getD k 0).toNat:Int)=some (iC (p.length+1) (xw p (uY p s f p.length k))):=by
 unfold qU;have hw:aB ((p.length:Int)+1)=((p.length+1:Nat):Int):=cJ om;have hlen:∀g:Nat->Bool,(iC (p.length+1) g).length=p.length+1:=fun g=>BE _ g;rw [hw,cD (by rw [dT om,dT om,dT om,dT om,dT om];rfl),QL];refine dw (fun x=>∃b:Nat,x=((b:Int),iC (p.length+1) (uY p s f b k))/\b<=p.length) (fun x=>p.length-x.1.toNat) ?_ F _ ⟨0,by grind [kM,agc],om⟩ bF;rintro x ⟨b,rfl,hb⟩;by_cases hb:b<p.length
 ·left
  refine⟨_,⟨b+1,rfl,om⟩,bF,fun rc=>?_⟩;have hki:(R7 p b)=p[b]:=by unfold R7;rw [gd hb]
  have hst:(p[b].fKind==3)=lW p b:=by unfold lW;rw [hki]
  have hfi:QM p[b] ((s.getD k 0).toNat:Int)=M3 p s b k:=by unfold M3;rw [hki]
  rw [cO om,cq hb,bR om (by rw [hlen];omega),bQ,gd hb,vV _ (show b<p.length+1 by omega),cJ om,hst,akL F p[b] _ om (hit _ (kz hb)),hfi]
  have e:iC (p.length+1) (uY p s f (b+1) k)=cond (f b&&lW p b) ((iC (p.length+1) (uY p s f b k)).set b true) (cond (f b&&M3 p s b k) ((iC (p.length+1) (uY p s f b k)).set (b+1) true) (iC (p.length+1) (uY p s f b k))):=by
   grind [FQ,kM,agd]
  rw [e]
  cases hf:f b with
  | false=>rfl
  | true=>
   cases hs:lW p b with
   | true=>
    grind [bR]
   | false=>
    cases hx:M3 p s b k with
    | true=>
     grind [bR,Int.toNat_natCast]
    | false=>rfl
 ·right
  obtain rfl:b=p.length:=om;intro rc;rw [cf om,V0 F p _ om hp,aD]
theorem abh(F:Nat)(st:J Bool)(hF:st.length<F)(hs:st.length<100000000):∃b,(b=false->∀i,i<st.length->st.getD i false=false)/\qV F st true=some b:=by
 unfold qV
 obtain⟨r,hr,h⟩:∃r:Int,(r<0->∀i,i<st.length->st.getD i false=false)/\BF F st true=some r:=by
  refine Ep _ (fun s=>∃k:Nat,s=(k:Int)/\k<=st.length/\∀i,i<k->st.getD i false=false) (fun s=>st.length-s.toNat) ?_ F _ ⟨0,rfl,om,fun i hi=>om⟩ bF;rintro ii ⟨k,rfl,hk,hn⟩;by_cases hk:k<st.length
  ·cases hv:st.getD k false with
   | true=>
    right;refine⟨(k:Int),fun h=>om,fun rc=>?_⟩;rw [cO om,cq hk,bQ,hv]
    rfl
   | false=>
    left;refine⟨_,⟨k+1,rfl,om,fun i hi=>?_⟩,bF,fun rc=>?_⟩
    ·grind
    ·rw [cO om,cq hk,bQ,hv,cJ om]
     rfl
  ·obtain rfl:k=st.length:=om
   simp_all
 simp_all
theorem acp(F:Nat)(p:J aG)(s:Bs)(hF:p.length+300<F)(qR:s.length+1<F)(hs:s.length<50000000)(hp:p.length<50000000)(hit:∀it∈p,mB it):
  zB F p s=some (iC (s.length+1) (EE p s p.length)):=by
 unfold zB;have hw:aB ((s.length:Int)+1)=((s.length+1:Nat):Int):=cJ om;have hlen:∀g:Nat->Bool,(iC (s.length+1) g).length=s.length+1:=fun g=>BE _ g
 have hrq:∀ {α:Type}(x:O α),rq ((decide (0<=((s.length+1:Nat):Int)))&&((decide (((s.length+1:Nat):Int)<=((s.length+1:Nat):Int)))&&((decide (0<((s.length+1:Nat):Int)))&&((decide (((s.length+1:Nat):Int)<=9223372036854775807))&&(decide ((1:Int)*((s.length+1:Nat):Int)<=140737488355328)))))) x=x:=by
  grind [cD,dT]
 rw [hw,hrq,bQ,sw si,QL,FQ]
 refine dw (fun x:J Bool×Int=>∃i:Nat,x=(iC (s.length+1) (EE p s i),(i:Int))/\i<=p.length) (fun x=>p.length-x.2.toNat) ?_ F _ ⟨0,congrArg (fun y=>(y,(0:Int))) (kM fun j _=>by
   show cond (j==0) true false=(j==0);cases (j==0)<;>rfl),om⟩ bF
 rintro x ⟨i,rfl,hi⟩;dsimp only;by_cases hi:i<p.length
 ·left
  refine⟨(iC (s.length+1) (EE p s (i+1)),((i+1:Nat):Int)),⟨i+1,rfl,om⟩,bF,fun rc=>?_⟩;rw [cO om,hrq];refine dw (fun x:Int×J Bool=>∃k:Nat,x=((k:Int),iC (s.length+1) (fun j=>decide (j<k)&&EE p s (i+1) j))/\k<=s.length+1) (fun x=>s.length+1-x.1.toNat) ?_ F _ ⟨0,congrArg (Prod.mk (0:Int)) (kM fun j _=>by simp),om⟩ bF;rintro x ⟨k,rfl,hk⟩;dsimp only;by_cases hk:k<=s.length
  ·left
   refine⟨_,⟨k+1,rfl,om⟩,bF,fun bq=>?_⟩;have hki:(R7 p i)=p[i]:=by unfold R7;rw [gd hi]
   have hst:(p[i].fKind==3)=lW p i:=by unfold lW;rw [hki]
   have mc:∀b,b=EE p s (i+1) k->(iC (s.length+1) (fun j=>decide (j<k)&&EE p s (i+1) j)).set k b=iC (s.length+1) (fun j=>decide (j<k+1)&&EE p s (i+1) j):=by
    rintro b rfl;rw [FQ]
    grind
   rw [cO om,cq hi,bQ,gd (l:=p) hi,hst,cJ om]
   cases hs3:lW p i with
   | true=>
    rw [bu,bR om (by rw [hlen];omega),bQ,vV _ om]
    have hres:∀b,b=EE p s (i+1) k->((some ((k:Int),b,iC (s.length+1) (fun j=>decide (j<k)&&EE p s (i+1) j)):O (Int×Bool×(J Bool))).bind fun x5=>
      rq ((decide (0<=x5.1))&&(decide (x5.1<(x5.2.2.length:Int)))) (bq (((k+1:Nat):Int),x5.2.2.set (Int.toNat x5.1) x5.2.1)))=bq (((k+1:Nat):Int),iC (s.length+1) (fun j=>decide (j<k+1)&&EE p s (i+1) j)):=by
     grind [bR,Int.toNat_natCast]
    cases he:EE p s i k with
    | true=>simp_all [ad2]
    | false=>
     rw [aS]
     cases k with
     | zero=>
      simp_all [cf,Ks]
     | succ k=>
      rw [cO om,wY om om,bR om (by rw [hlen];omega),bQ,vV _ om]
      simp_all [OV,Nat.add_sub_cancel,dT]
   | false=>
    rw [aS]
    cases k with
    | zero=>
     rw [cf om,bR om (by rw [hlen];omega),bQ,mc false (by rw [YT p s hs3])]
    | succ k=>
     rw [cO om,wY om om,bR om (by rw [hlen];omega),bQ,Nat.add_sub_cancel,vV _ om]
     cases he:EE p s i k with
     | false=>rw [aS,bR om (by rw [hlen];omega),bQ,mc false (by simp_all [UE])]
     | true=>
      rw [bu,cq hi,cq (show k<s.length by omega),bQ,ah4 F p[i] _ om (hit _ (kz hi)),aD,bR om (by rw [hlen];omega),mc _ (by rw [UE p s hs3,he];unfold M3;rw [hki];rfl)]
  ·right
   obtain rfl:k=s.length+1:=om;intro bq;rw [cf om,cJ om,kM (g:=EE p s (i+1)) fun j hj=>by simp_all]
 grind
theorem age(F:Nat)(p:J aG)(n:Bs)(hF:p.length+300<F)(qR:n.length+1<F)(hn:n.length<50000000)(hp:p.length<50000000)(hit:∀it∈p,mB it){v:Bool}(hv:lV F p=some v):
  Cf F p n=some (v&&EE p n p.length n.length):=by
 unfold Cf;rw [<-Hx F p hF hp hit,hv,aD,acp F p n hF qR hn hp hit]
 cases v with
 | false=>rfl
 | true=>
  rw [aD,bR om (by rw [BE];omega),vV _ om];rfl
theorem Names.left{a b:J Bs}(h:Names (a++b)):Names a:=fun c hc=>h c (by simp [hc])
theorem UG{n:J Bs}(h:Names n):pathOf n=[47]↔n=[]:=by
 have:=abc h;rw [sM] at this;simpa using this
structure VT(l:List bt):Prop where
 len:l.length<=128
 root:∃f∈l,f.bS=[47]
 path:∀f∈l,Em f.bS=true
 dir:∀f∈l,f.nM=true->f.fData=[]
 amg:∀f∈l,f.bS=[47]->f.nM=true
 data:∀f∈l,f.fData.length<=8192
 asc:PU l
 par:∀f∈l,f.bS≠[47]->∃p∈l,p.bS=p9 f.bS/\p.nM=true
theorem VT.up{l:J bt}(h:VT l):∀(r:J Bs)(m:J Bs)(c:Bs),Names (m++c::r)->(∃f∈l,f.bS=pathOf (m++c::r))->∃f∈l,f.bS=pathOf (m++[c]):=by
 intro r
 induction hn:r.length generalizing r with
 | zero=>
  intro m c _ hf;obtain rfl:r=[]:=Dh hn
  exact hf
 | succ k ih=>
  intro m c hN ⟨f,hf,e⟩;have hr:r≠[]:=by intro e;subst e;simp at hn
  have hne:f.bS≠[47]:=by
   rw [e];intro e';have:=(UG hN).1 e';simp at this
  obtain⟨p,hp,e1,-⟩:=h.par f hf hne;rw [e,YB hN] at e1
  have e2:(m++c::r).dropLast=m++c::r.dropLast:=by
   rw [List.dropLast_append_of_ne_nil si,List.dropLast_cons_of_ne_nil hr]
  rw [e2] at e1;exact ih r.dropLast (by simp [hn]) m c (by rw [<-e2];exact hN.dropLast) ⟨p,hp,e1⟩
def GI(n:Nat)(o:J (J aH)×J aH):Prop:=(∀c∈o.1,(∀r∈c,r.fText.length=1)/\c.length<=n)/\(∀r∈o.2,r.fText.length=1)/\o.2.length<=n
theorem GI.up{n m:Nat}{o:J (J aH)×J aH}(h:GI n o)(hm:n<=m):GI m o:=⟨fun c hc=>⟨(h.1 c hc).1,by have:=(h.1 c hc).2;omega⟩,h.2.1,by have:=h.2.2;omega⟩
theorem YV(cl:Int):∀(t:Bs)(n:Nat)(o:J (J aH)×J aH),GI n o->GI (n+t.length) (t.foldl (mh cl) o)
 | [],n,o,h=>h
 | b::t,n,o,h=>by
  have h2:GI (n+1) (mh cl o b):=by
   obtain⟨h1,h2,h3⟩:=h;unfold mh;cases (b==47)
   ·refine⟨fun c hc=>⟨(h1 c hc).1,by have:=(h1 c hc).2;omega⟩,fun r hr=>?_,bF⟩
    rcases yy.1 hr with hr|hr
    ·exact h2 r hr
    ·obtain rfl:=MD.1 hr;rfl
   ·refine⟨fun c hc=>?_,fun r hr=>(by cases hr),si⟩
    rcases yy.1 hc with hc|hc
    ·exact⟨(h1 c hc).1,by have:=(h1 c hc).2;omega⟩
    ·obtain rfl:=MD.1 hc;exact⟨h2,om⟩
  have:=YV cl t (n+1) _ h2;rwa [show n+1+t.length=n+(b::t).length by simp;omega] at this
theorem amn:∀(l:J aH)(n:Nat)(o:J (J aH)×J aH),GI n o->GI (n+cz l) (l.foldl ze o)
 | [],n,o,h=>h
 | r::l,n,o,h=>by
  have h2:GI (n+r.fText.length) (ze o r):=by
   unfold ze;cases (r.b8 != 0&&(r.b8 != 1&&r.b8 != 2))
   ·exact YV _ _ _ _ h
   ·exact h.up om
  have:=amn l _ _ h2;rwa [show n+r.fText.length+cz l=n+cz (r::l) by simp [cz];omega] at this
theorem amo(l:J aH):∀c∈zf l,cz c=c.length/\c.length<=cz l:=by
 have h:=amn l 0 ([],[]) ⟨fun c hc=>(by cases hc),fun r hr=>(by cases hr),si⟩;rw [pV] at h;intro c hc;rcases yy.1 hc with hc|hc
 ·exact⟨adU (h.1 c hc).1,(h.1 c hc).2⟩
 ·obtain rfl:=MD.1 hc;exact⟨adU h.2.1,h.2.2⟩
end Go.Proofs.YthmndfnkdgmenaaGreatDoor
