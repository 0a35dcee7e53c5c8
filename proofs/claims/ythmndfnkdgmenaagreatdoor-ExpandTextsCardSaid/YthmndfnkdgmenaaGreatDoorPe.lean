import Derived.Test.YthmndfnkdgmenaaGreatDoorZ2
import Derived.Test.YthmndfnkdgmenaaGreatDoorSo
import Derived.Lib.SplitLaws
import Derived.Lib.LastIndexByte
import Derived.Lib.Join
set_option linter.all false
namespace Go.Proofs.YthmndfnkdgmenaaGreatDoor
open Go.RT
def lG:Bs->J Bs
 | []=>[[]]
 | b::l=>cond (b==47) ([]::lG l) (match lG l with
  | []=>[[b]]
  | p::ps=>(b::p)::ps)
theorem afV(l:Bs):(lG l).length<=l.length+1:=by
 induction l with
 | nil=>simp [lG]
 | cons b l ih=>
  unfold lG
  grind
theorem W5(l:Bs):∀p∈lG l,p.length<=l.length:=by
 induction l with
 | nil=>intro p hp;simp [lG] at hp;subst hp;simp
 | cons b l ih=>
  intro p hp;unfold lG at hp
  grind
theorem VY:∀(l:Bs)(n:Nat),(∀j,j<n->l.getD j 0≠47)->n<l.length->l.getD n 0=47->lG l=l.take n::lG (l.drop (n+1))
 | [],n,_,h,_=>by simp at h
 | b::l,0,_,_,h=>by
  have hb:b=47:=by simpa using h
  subst hb
  simp [lG]
 | b::l,n+1,h0,h1,h2=>by
  have hb:(b==47)=false:=by
   have:=h0 0 om;simpa using this
  have ih:=VY l n (fun j hj=>by
   grind) (by simpa using h1) (by simpa using h2)
  rw [lG,hb,ih];simp
theorem R3:∀(l:Bs),(∀j,j<l.length->l.getD j 0≠47)->lG l=[l]
 | [],_=>rfl
 | b::l,h0=>by
  have hb:(b==47)=false:=by
   have:=h0 0 si;simpa using this
  have ih:=R3 l (fun j hj=>by
   have:=h0 (j+1) (by simpa using hj);simpa using this)
  unfold lG;rw [hb,aS,ih]
theorem akE{α:Type}(l:J α)(f k:Nat):sl l (f:Int) (k:Int)=(l.take k).drop f:=by simp [sl]
theorem acp{α:Type}(l:J α)(f:Nat):sl l (f:Int) (l.length:Int)=l.drop f:=by simp [sl]
theorem amd{α:Type}(l:J α):sl l 1 (l.length:Int)=l.drop 1:=acp l 1
theorem UD{α:Type}(l:J α)(k:Nat):sl l 0 (k:Int)=l.take k:=by simp [sl]
theorem afW(F:Nat)(s:Bs)(hF:s.length<F)(hs:s.length<1000000000):IB F s=some (lG s):=by
 refine dw (fun x=>∃f k:Nat,x.2.1=(f:Int)/\x.2.2=(k:Int)/\f<=k/\k<=s.length/\x.1.length<=f/\x.1++lG (s.drop f)=lG s/\∀j,f<=j->j<k->s.getD j 0≠47) (fun x=>s.length-x.2.2.toNat) ?_ F _ ⟨0,0,rfl,rfl,om,om,si,si,fun j _ hj=>om⟩ (by simpa using hF);rintro⟨o,fr,ii⟩ ⟨f,k,h0,h0',h1,h2,h3,h4,h5⟩;dsimp only at h0 h0' h3 h4 h5⊢;subst h0 h0';by_cases hk:k<s.length
 ·left
  have hg:s.getD k 0=s[k]:=gd hk
  cases hb:(s[k]==47) with
  | true=>
   refine⟨(o++[sl s (f:Int) (k:Int)],((k+1:Nat):Int),((k+1:Nat):Int)),⟨k+1,k+1,rfl,rfl,om,om,bE,?_,fun j h h'=>om⟩,bE,fun rc=>?_⟩
   ·have hc:=VY (s.drop f) (k-f) (fun j hj=>by
     have:=h5 (f+j) om om
     simp_all)
    grind [List.drop_drop,akE,List.take_drop]
   ·rw [cO om,bR om om,bK,hg,qU _ 47 om,hb,bq,CJ om om om,bR bE bE,cJ om]
  | false=>
   refine⟨(o,(f:Int),((k+1:Nat):Int)),⟨f,k+1,rfl,rfl,om,om,h3,h4,fun j h h'=>?_⟩,bE,fun rc=>?_⟩
   ·grind
   ·rw [cO om,bR om om,bK,hg,qU _ 47 om,hb,aS,cJ om]
 ·right
  obtain rfl:k=s.length:=om;intro rc;rw [cf om,CJ om om om,bR bE bE,<-h4,acp,R3]
  simp_all
def ame(b:UInt8):Bool:=b==47||b==0
def uA(s:Bs):Bool:=(decide (1<=s.length)&&decide (s.length<=32))&&(!(s==[46])&&(!(s==[46,46]) && !(s.any ame)))
theorem ahU(F:Nat)(s:Bs)(hF:s.length<F)(hs:s.length<1000000000000):Em F s=some (uA s):=by
 unfold Em;rw [qm s (fun i=>(i:Int)) ame (fun _ _=>some false) (some true) hF (by rfl) (fun i h rc=>?_) (fun rc=>?_),FO]
 ·simp [aK]
  have e1:(decide ((s.length:Int)<1)||decide (32<(s.length:Int)))=!(decide (1<=s.length)&&decide (s.length<=32)):=by
   grind
  unfold uA
  grind
 ·rw [cO om,bR om om,bR om om,bK,gd h,qU _ 47 om,qU _ 0 om,aK,cJ om]
  rfl
 ·rw [cf om]
def En(s:Bs):Bool:=s==[47]||((decide (2<=s.length)&&decide (s.length<=128))&&(s.getD 0 0==47&&(lG (s.drop 1)).all uA))
theorem afX(p:J Bs):cond (p.any fun n=>!uA n) (some false) (some true)=some (p.all uA):=by
 grind
theorem YF(F:Nat)(s:Bs)(hF:200<=F):uY F s=some (En s):=by
 unfold uY En
 cases h1:(s==[47]) with
 | true=>rfl
 | false=>
  simp only [aS,aK,aC,cT];by_cases h2:2<=s.length/\s.length<=128
  ·rw [dF om,dF om,Bool.or_self,aS,sx om,aC,Yr _ 47 om,dT h2.1,dT h2.2]
   cases h3:(s.getD 0 0==47) with
   | false=>rfl
   | true=>
    rw [ku,bR om om,amd,afW F _ bE bE,aC];have hl:=afV (s.drop 1);have hm:=W5 (s.drop 1);simp only [Kc] at hl hm;rw [qm (lG (s.drop 1)) (fun i=>(i:Int)) (fun n=>!uA n) (fun _ _=>some false) (some true) om (by rfl) (fun i h rc=>?_) (fun rc=>?_),FO,afX]
    ·rfl
    ·have:=hm _ (kz h)
     rw [cO om,bR om om,bK,gd h,ahU F _ om om,aC,cJ om]
    ·rw [cf om]
  grind
def uj(s:Bs):Nat:=(Lib.lastIndexByte ⟨⟨s⟩⟩ 47).toNat
def qb(s:Bs):Bs:=cond (uj s==0) [47] (s.take (uj s))
theorem b47(b:UInt8):((b.toNat:Int)=47)↔b=47:=by
 have:=qU b 47 om;rw [sN] at this;simpa using this
theorem YG(s:Bs):(Lib.lastIndexByte ⟨⟨s⟩⟩ 47=-1/\∀j,j<s.length->s.getD j 0≠47) \/
  ∃i:Nat,i<s.length/\Lib.lastIndexByte ⟨⟨s⟩⟩ 47=i/\s.getD i 0=47/\∀j,i<j->j<s.length->s.getD j 0≠47:=by
 have h:=Lib.lastIdx_spec ⟨⟨s⟩⟩ 47 s.length;simp [b47] at h;exact h
theorem R4(s:Bs)(a:Nat)(h1:(a<s.length/\s.getD a 0=47)\/a=0)(h2:∀j,a<j->j<s.length->s.getD j 0≠47):uj s=a:=by
 unfold uj
 grind [YG,Nat.lt_trichotomy]
theorem ahV(s:Bs):((uj s<s.length/\s.getD (uj s) 0=47)\/uj s=0)/\∀j,uj s<j->j<s.length->s.getD j 0≠47:=by
 unfold uj
 grind [YG]
theorem amf(s:Bs):uj s<=s.length:=by
 grind [ahV]
theorem akF(F:Nat)(s:Bs)(hF:s.length<F)(hs:s.length<1000000000):MV F s=some (uj s:Int):=by
 refine dw (fun x=>∃a k:Nat,x.1=(a:Int)/\x.2=(k:Int)/\k<=s.length/\((a<k/\s.getD a 0=47)\/a=0)/\∀j,a<j->j<k->s.getD j 0≠47) (fun x=>s.length-x.2.toNat) ?_ F _ ⟨0,0,rfl,rfl,om,.inr rfl,fun j _ hj=>om⟩ (by simpa using hF);rintro⟨aa,ii⟩ ⟨a,k,h0,h0',h1,h2,h3⟩;subst h0 h0';by_cases hk:k<s.length
 ·left
  have hg:s.getD k 0=s[k]:=gd hk
  cases hb:(s[k]==47) with
  | true=>
   refine⟨((k:Int),((k+1:Nat):Int)),⟨k,k+1,rfl,rfl,om,.inl ⟨om,by simp_all⟩,fun j h h'=>om⟩,bE,fun rc=>?_⟩
   rw [cO om,bR om om,bK,hg,qU _ 47 om,hb,bq,cJ om]
  | false=>
   refine⟨((a:Int),((k+1:Nat):Int)),⟨a,k+1,rfl,rfl,om,?_,fun j h h'=>?_⟩,bE,fun rc=>?_⟩
   ·grind
   ·grind
   ·rw [cO om,bR om om,bK,hg,qU _ 47 om,hb,aS,cJ om]
 ·right
  obtain rfl:k=s.length:=om;intro rc;rw [cf om,R4 s a h2 h3]
theorem adQ(F:Nat)(s:Bs)(hF:s.length<F)(hs:s.length<1000000000):zw F s=some (qb s):=by
 unfold zw qb;rw [akF F s hF hs,aC];have:=amf s;by_cases h:uj s=0
 ·rw [h];rfl
 ·have e1:((uj s:Int)==0)=false:=by simpa using h
  have e2:(uj s==0)=false:=by simpa using h
  rw [e1,e2,aS,aS,bR om om,UD]
def MW(p:Bs)(f:bu):Bool:=f.bS==p
def Kl(l:J bu)(p:Bs):O bu:=l.find? (MW p)
def QG(l:J bu)(p:Bs):Bool:=l.any (MW p)
def fiS(l:J bu)(p:Bs):Int:=(l.findIdx? (MW p)).elim (-1) fun j=>(j:Int)
theorem ahW(F:Nat)(l:J bu)(p:Bs)(hF:l.length<F)(hl:l.length<1000000000):Ep F l p=some (fiS l p):=by
 unfold Ep fiS;rw [qm l (fun i=>(i:Int)) (MW p) (fun i _=>some (i:Int)) (some (-1)) hF (by rfl) (fun i h rc=>?_) (fun rc=>?_),QH _ _ _ bP]
 ·cases l.findIdx? (MW p)<;>simp
 ·rw [cO om,bR om om,bK,gd h,cJ om]
  rfl
 ·rw [cf om]
theorem afY(l:J bu)(p:Bs):(l.findIdx? (MW p)=none/\Kl l p=none/\QG l p=false)\/∃j,j<l.length/\l.findIdx? (MW p)=some j/\Kl l p=some (l.getD j bP)/\QG l p=true:=by
 unfold Kl QG
 induction l with
 | nil=>simp_all
 | cons f l ih=>
  grind
theorem ahX(l:J bu)(p:Bs):(fiS l p=-1/\Kl l p=none/\QG l p=false)\/∃j:Nat,j<l.length/\fiS l p=(j:Int)/\Kl l p=some (l.getD j bP)/\QG l p=true:=by
 unfold fiS
 grind [afY]
def R5(a p:Bs):Bool:=cond (a==[47]) (!(p==[47])) (decide (a.length+1<=p.length)&&p.take (a.length+1)==a++[47])
theorem afZ(F:Nat)(a p:Bs):Cd F a p=some (R5 a p):=by
 unfold Cd R5;cases (a==[47])
 ·by_cases h:a.length+1<=p.length
  ·have hl:a.length<p.length:=om
   rw [cO om,bR om om,UD,aC,dT h]
   have e:(p.take (a.length+1)==a++[47])=(p.take a.length==a&&p.getD a.length 0==47):=by
    rw [qB hl]
    grind [List.append_inj]
   rw [e];cases (p.take a.length==a)
   ·rfl
   ·rw [bR om om,qU _ 47 om]
    rfl
  grind
 ·rfl
def OS(l:J bu)(p:Bs):Int:=cond (l.any fun f=>!f.nM&&R5 f.bS p) 18 (cond (QG l (qb p)) 0 8)
theorem ahY(F:Nat)(l:J bu)(p:Bs)(hF:l.length<F)(hl:l.length<1000000000)(hp:p.length<1000000000)(hpF:p.length<F):zx F l p=some (OS l p):=by
 unfold zx;rw [qm l (fun i=>(i:Int)) (fun f=>!f.nM&&R5 f.bS p) (fun _ _=>some 18) (some (cond (QG l (qb p)) 0 8)) hF (by rfl) (fun i h rc=>?_) (fun rc=>?_),FO,aK]
 ·rfl
 ·rw [bR om om,bR om om,bK,afZ F _ _,cJ om]
  grind
 ·rw [cf om,adQ F p hpF hp,aC,ahW F l _ hF hl]
  rcases ahX l (qb p) with⟨h1,h2,h3⟩|⟨j,h0,h1,h2,h3⟩
  ·rw [h1,h3];rfl
  grind
def Lx(l:J bu)(k:Nat):Int:=
 cond (!En (l.getD k bP).bS) 10
 (cond (((l.getD k bP).nM && !((l.getD k bP).fData==[]))||((l.getD k bP).bS==[47] && !(l.getD k bP).nM)) 1
 (cond (decide (8192<(l.getD k bP).fData.length)) 3
 (cond (decide (0<k)&&(Op.bytesLess (l.getD k bP).bS (l.getD (k-1) bP).bS||(l.getD k bP).bS==(l.getD (k-1) bP).bS)) 25
 (cond (decide (0<k)) (OS (l.take k) (l.getD k bP).bS) 0))))
def VZ(l:J bu):Nat->Nat->Int
 | 0,_=>0
 | n+1,k=>cond (Lx l k==0) (VZ l n (k+1)) (Lx l k)
def gX(l:J bu):Int:=cond (decide (128<l.length)) 4 (cond (l.length==0 || !((l.getD 0 bP).bS==[47])) 8 (VZ l l.length 0))
def MX(l:J bu):Prop:=l.length<=140/\∀f∈l,f.bS.length<=300/\f.fData.length<=9000
theorem MX.at{l:J bu}(h:MX l)(k:Nat):(l.getD k bP).bS.length<=300/\(l.getD k bP).fData.length<=9000:=by
 by_cases hk:k<l.length
 ·rw [gd hk];exact h.2 _ (kz hk)
 ·have:l.getD k bP=bP:=by simp_all
  rw [this];exact⟨by decide,by decide⟩
theorem an7(l:J bu):(cond ((l.length:Int)==0)
 (some true)
 (rq (decide (0<(l.length:Int))) (some (!(((l.getD 0 bP).bS)==([47]:Bs))))):O Bool)=some (l.length==0 || !((l.getD 0 bP).bS==[47])):=by
  cases l with
  | nil=>rfl
  | cons f l=>
   have e1:((((f::l).length:Nat):Int)==0)=false:=by simp;omega
   have e2:((f::l).length==0)=false:=by simp
   rw [e2,sx si];rfl
theorem ahZ(l:J bu)(k:Nat)(r:O Int):cond (!En (l.getD k bP).bS) (some 10)
 (cond (((l.getD k bP).nM && !((l.getD k bP).fData==[]))||((l.getD k bP).bS==[47] && !(l.getD k bP).nM)) (some 1)
 (cond (decide (8192<(l.getD k bP).fData.length)) (some 3)
 (cond (decide (0<k)&&(Op.bytesLess (l.getD k bP).bS (l.getD (k-1) bP).bS||(l.getD k bP).bS==(l.getD (k-1) bP).bS)) (some 25)
 (cond (decide (0<k)) (cond (OS (l.take k) (l.getD k bP).bS != 0) (some (OS (l.take k) (l.getD k bP).bS)) r) r))))=cond (Lx l k==0) r (some (Lx l k)):=by
 unfold Lx
 grind
theorem an8{l:J bu}{body:(Int->O Int)->Int->O Int}(F:Nat)(hF:l.length<F)(hs:∀(k:Nat) rc,k<l.length->body rc (k:Int)=cond (Lx l k==0) (rc ((k+1:Nat):Int)) (some (Lx l k)))(he:∀rc,body rc (l.length:Int)=some 0):bV body F 0=some (VZ l l.length 0):=by
 refine dw (fun x=>∃k n:Nat,x=(k:Int)/\k+n=l.length/\VZ l n k=VZ l l.length 0) (fun x=>l.length-x.toNat) ?_ F _ ⟨0,l.length,rfl,om,rfl⟩ (by simpa using hF);rintro x ⟨k,n,rfl,h1,h2⟩
 cases n with
 | zero=>
  right;obtain rfl:k=l.length:=om;intro rc
  rw [he,<-h2];rfl
 | succ n=>
  rw [VZ] at h2
  cases hv:(Lx l k==0) with
  | true=>
   left;rw [hv] at h2
   exact⟨_,⟨k+1,n,rfl,om,h2⟩,bE,fun rc=>by grind⟩
  | false=>
   grind
theorem amg(l:J bu)(k:Nat)(hk:k<l.length)(hl:l.length<1000000000):(cond (decide (0<(k:Int)))
 (rq ((decide (0<=aB ((k:Int)-1)))&&(decide (aB ((k:Int)-1)<(l.length:Int)))) (some (Op.bytesLess ((l.getD k bP).bS) ((l.getD (Int.toNat (aB ((k:Int)-1))) bP).bS)||((l.getD k bP).bS)==((l.getD (Int.toNat (aB ((k:Int)-1))) bP).bS))))
 (some false):O Bool)=some (decide (0<k)&&(Op.bytesLess (l.getD k bP).bS (l.getD (k-1) bP).bS||(l.getD k bP).bS==(l.getD (k-1) bP).bS)):=by
  by_cases h0:0<k
  ·rw [cO om,w5 om h0,bR om om,bK,dT h0,Qx]
  simp_all
theorem api(k:Nat):decide (0<(k:Int))=decide (0<k):=by
 simp_all
theorem amh(n k:Nat):decide ((k:Int)<(n:Int))=decide (k<n):=by
 simp_all
theorem af0(F:Nat)(l:J bu)(hF:400<=F)(h:MX l):Ce F l=some (gX l):=by
 have hl:=h.1;unfold Ce gX;rw [show decide (128<(l.length:Int))=decide (128<l.length) from amh _ 128,an7]
 cases decide (128<l.length) with
 | true=>rfl
 | false=>
  cases (l.length==0 || !((l.getD 0 bP).bS==[47])) with
  | true=>rfl
  | false=>
   refine an8 F om (fun k rc hk=>?_) (fun rc=>?_)
   ·rw [cO om,bR om om,bK,YF F _ om,amg l k hk om]
    simp only [aK,cF,aC,cT];rw [show decide (8192<(((l.getD k bP).fData.length:Nat):Int))=decide (8192<(l.getD k bP).fData.length) from amh _ 8192,api,bR om om,UD];have:=(h.at k).1;rw [ahY F (l.take k) _ bE bE om om,aC,cJ om,<-ahZ]
   ·rw [cf om]
theorem ah0(F:Nat)(l:J bu)(hF:200<=F):∃b,(b=true->MX l)/\IC F l=some b:=by
 refine Er (fun b=>b=true->MX l) (fun x=>∃n k:Nat,x.1=(n:Int)/\x.2=(k:Int)/\k<=l.length/\k<=140/\n<=10000*k/\∀f∈l.take k,f.bS.length<=300/\f.fData.length<=9000) (fun x=>140-x.2.toNat) ?_ F _ ⟨0,0,rfl,rfl,om,om,om,si⟩ bE;rintro⟨nn,ii⟩ ⟨n,k,h0,h0',h1,h2,h3,h4⟩;subst h0 h0';simp only [aK,cF,aC];by_cases hc:k<l.length/\k<140/\n<40000
 ·have hk:=hc.1
  have e:((decide ((k:Int)<(l.length:Int))&&decide ((k:Int)<140))&&decide ((n:Int)<40000))=true:=by
   grind
  rw [e];simp only [bK,gd hk];by_cases hb:l[k].bS.length<=300/\l[k].fData.length<=9000
  ·left
   refine⟨(((n+l[k].bS.length+l[k].fData.length:Nat):Int),((k+1:Nat):Int)),⟨_,k+1,rfl,rfl,om,om,om,fun f hf=>?_⟩,bE,fun rc=>?_⟩
   ·grind [List.take_succ_eq_append_getElem,List.mem_singleton]
   ·grind [bG,bR]
  ·right
   refine⟨false,fun h=>(by cases h),fun rc=>?_⟩;rw [bR om om];by_cases hp:l[k].bS.length<=300
   ·rw [cf om,bR om om,dT om];rfl
   grind
 ·have e:((decide ((k:Int)<(l.length:Int))&&decide ((k:Int)<140))&&decide ((n:Int)<40000))=false:=by
   grind
  right;rw [e];refine⟨_,fun h=>?_,fun rc=>rfl⟩;simp at h;refine⟨om,fun f hf=>h4 f ?_⟩
  grind
set_option maxRecDepth 100000
theorem w1:Cf 60 [47,97,47,98] [46,46,47,99,47,46,47,100,47]=some ([47,97,47,99,47,100],0):=by kernel_rfl
theorem w2:Cf 60 [47] [46,46]=some ([47],0):=by kernel_rfl
def zy:J Bs->Bs
 | []=>[]
 | [x]=>x
 | x::y::l=>x++47::zy (y::l)
theorem adR(x:Bs){l:J Bs}(h:l≠[]):zy (x::l)=x++47::zy l:=by
 cases l with
 | nil=>exact absurd rfl h
 | cons y l=>rfl
theorem R6:∀(l:J Bs)(c:Bs),l≠[]->zy (l++[c])=zy l++47::c
 | [],c,h=>absurd rfl h
 | [x],c,_=>rfl
 | x::y::l,c,_=>by
  have ih:=R6 (y::l) c si;rw [wW,adR x si,ih,zy];simp
def ami(c:Bs):Prop:=∀b∈c,b≠47
theorem af1{c:Bs}(h:uA c=true):ami c:=by
 intro b hb e;unfold uA at h;simp only [cx,FE] at h;have:=List.any_eq_false.1 h.2.2.2 b hb;subst e;exact this rfl
theorem Km{c:Bs}(h:uA c=true):1<=c.length/\c.length<=32:=by
 unfold uA at h;simp only [cx,fX] at h;exact h.1
def pathOf(l:J Bs):Bs:=[47]++zy l
def Names(l:J Bs):Prop:=∀c∈l,uA c=true
theorem Names.snoc{l:J Bs}(h:Names l){c:Bs}(hc:uA c=true):Names (l++[c]):=by
 intro x hx;rcases wX.1 hx with hx|hx
 ·exact h x hx
 ·simp only [MD] at hx;subst hx;exact hc
theorem Names.dropLast{l:J Bs}(h:Names l):Names l.dropLast:=fun c hc=>h c (List.dropLast_subset l hc)
theorem akG{l:J Bs}(h:Names l)(hl:l≠[]):zy l≠[]:=by
 match l,hl with
 | [x],_=>
  have:=Km (h x si)
  intro e;rw [zy] at e;rw [e] at this;simp at this
 | x::y::l,_=>intro e;rw [zy] at e;simp at e
theorem abh{l:J Bs}(h:Names l):(pathOf l==[47])=(l==[]):=by
 cases l with
 | nil=>rfl
 | cons x l=>
  have:=akG h si;rw [show ((x::l)==[])=false from rfl];simp only [pathOf,wW,pY,gN,ne_eq,List.cons.injEq,uN];exact this
theorem R7(a c:Bs)(hc:ami c):uj (a++47::c)=a.length:=by
 refine R4 _ _ (.inl ⟨si,by simp [List.getD]⟩) fun j hj hl=>?_
 have e:(a++47::c).getD j 0=c.getD (j-a.length-1) 0:=by
  rw [List.getD,Iy om,show j-a.length=(j-a.length-1)+1 by omega,List.getElem?_cons_succ];rfl
 simp at hl;rw [e,gd om];exact hc _ (kz _)
theorem abj{l:J Bs}(h:Names l){c:Bs}(hc:uA c=true):qb (pathOf (l++[c]))=pathOf l:=by
 have h47:=af1 hc
 cases l with
 | nil=>
  have:uj (pathOf ([]++[c]))=0:=R7 [] c h47;unfold qb;rw [this]
  rfl
 | cons x l=>
  have e:pathOf ((x::l)++[c])=pathOf (x::l)++47::c:=by
   rw [pathOf,R6 _ _ si,pathOf];simp
  have:uj (pathOf ((x::l)++[c]))=(pathOf (x::l)).length:=by rw [e];exact R7 _ c h47
  unfold qb;rw [this];have h0:((pathOf (x::l)).length==0)=false:=by simp [pathOf]
  rw [h0,aS,e];simp
theorem YH{l:J Bs}(h:Names l):qb (pathOf l)=pathOf l.dropLast:=by
 rcases List.eq_nil_or_concat l with rfl|⟨l',c,rfl⟩
 ·rfl
 ·rw [List.concat_eq_append] at h⊢
  have hc:uA c=true:=h c si;have hl:Names l':=fun x hx=>h x (by simp [hx]);rw [abj hl hc];simp
def PU(l:J bu):Prop:=l.Pairwise fun x y=>x.bS<y.bS
structure VL(l:List bu):Prop where
 len:l.length<=128
 pos:0<l.length
 root:(l.getD 0 bP).bS=[47]
 path:∀f∈l,En f.bS=true
 dir:∀f∈l,f.nM=true->f.fData=[]
 amj:∀f∈l,f.bS=[47]->f.nM=true
 data:∀f∈l,f.fData.length<=8192
 asc:PU l
 apj:∀k,0<k->k<l.length->OS (l.take k) (l.getD k bP).bS=0
theorem YI(l:J bu):∀(n k:Nat),VZ l n k=0↔∀j,k<=j->j<k+n->Lx l j=0
 | 0,k=>⟨fun _ j h h'=>om,fun _=>rfl⟩
 | n+1,k=>by
  rw [VZ]
  cases h:(Lx l k==0) with
  | true=>
   rw [bq,YI l n (k+1)];constructor
   ·intro h1 j h2 h3
    by_cases e:j=k
    ·subst e;simpa using h
    ·exact h1 j om om
   ·intro h1 j h2 h3
    exact h1 j om om
  | false=>
   rw [aS];constructor
   ·intro h1;rw [h1] at h;cases h
   ·intro h1
    have:=h1 k om om;rw [this] at h;cases h
theorem R8:∀ {l:J bu},(∀k,0<k->k<l.length->(l.getD (k-1) bP).bS<(l.getD k bP).bS)->PU l
 | [],_=>List.Pairwise.nil
 | [x],_=>ade _ _
 | x::y::l,h=>by
  have ih:PU (y::l):=R8 fun k h1 h2=>by
   have:=h (k+1) om (by simpa using h2);rw [show k+1-1=(k-1)+1 by omega] at this;simpa using this
  have hxy:x.bS<y.bS:=by
   have:=h 1 om si;simpa using this
  refine wV.2 ⟨fun z hz=>?_,ih⟩;rcases iq.1 hz with rfl|hz
  ·exact hxy
  ·exact qo hxy ((wV.1 ih).1 z hz)
theorem akH{l:J bu}(h:PU l)(i j:Nat)(hij:i<j)(hj:j<l.length):(l.getD i bP).bS<(l.getD j bP).bS:=by
 rw [gd (show i<l.length by omega),gd hj];exact adw.1 h i j om hj hij
theorem ah1(l:J bu)(k:Nat):Lx l k=0↔En (l.getD k bP).bS=true/\((l.getD k bP).nM=true->(l.getD k bP).fData=[])/\((l.getD k bP).bS=[47]->(l.getD k bP).nM=true) /\
  (l.getD k bP).fData.length<=8192/\(0<k->(l.getD (k-1) bP).bS<(l.getD k bP).bS)/\(0<k->OS (l.take k) (l.getD k bP).bS=0):=by
 unfold Lx;generalize l.getD k bP=f;generalize l.getD (k-1) bP=g
 cases h1:En f.bS with
 | false=>simp
 | true=>
  cases h2:((f.nM && !(f.fData==[]))||(f.bS==[47] && !f.nM)) with
  | true=>
   grind
  | false=>
   have h3:f.nM=true->f.fData=[]:=fun h=>by
    simp_all
   have h4:f.bS=[47]->f.nM=true:=fun h=>by
    simp_all
   by_cases h5:8192<f.fData.length
   ·grind
   ·rw [cf h5]
    by_cases h6:0<k
    ·rw [<-an9 g.bS f.bS]
     cases h7:Op.bytesLess g.bS f.bS with
     | true=>
      simp_all [Kn,ku,aS]
     | false=>
      have:=(CK _ _).1 h7
      grind
    simp_all
theorem af2(l:J bu):gX l=0↔VL l:=by
 unfold gX;by_cases h1:128<l.length
 ·rw [cO h1]
  exact⟨fun h=>(by cases h),fun h=>by have:=h.len;omega⟩
 ·rw [cf h1]
  cases h2:(l.length==0 || !((l.getD 0 bP).bS==[47])) with
  | true=>
   refine⟨fun h=>(by cases h),fun h=>?_⟩;have a:=h.pos;have b:=h.root
   simp_all
  | false=>
   rw [aS];simp only [XL,gN,Bool.not_eq_false',uh] at h2;rw [YI];simp only [ah1];constructor
   ·intro h
    have hm:∀f∈l,∃k,k<l.length/\l.getD k bP=f:=fun f hf=>by
     grind [List.getElem_of_mem,gd]
    refine⟨om,om,h2.2,?_,?_,?_,?_,R8 fun k h3 h4=>(h k om om).2.2.2.2.1 h3,fun k h3 h4=>(h k om om).2.2.2.2.2 h3⟩
    ·grind
    ·grind
    ·grind
    grind
   ·intro h j hj hj'
    have hj':j<l.length:=om;have hm:l.getD j bP∈l:=by simp_all
    exact⟨h.path _ hm,h.dir _ hm,h.amj _ hm,h.data _ hm,fun h0=>akH h.asc (j-1) j om hj',fun h0=>h.apj j h0 hj'⟩
def qp(s:Bs):Bs:=s.drop (uj s+1)
def apk(p:Bs)(f:bu):Bool:=!(f.bS==[47])&&qb f.bS==p
def aoa(l:J bu)(p:Bs):J Bs:=(l.filter (apk p)).map fun f=>qp f.bS
end Go.Proofs.YthmndfnkdgmenaaGreatDoor

namespace Go.Proofs.YthmndfnkdgmenaaGreatDoor
open Go.RT
theorem YJ(s:Bs):bZ (dn s)=s:=by
 unfold bZ dn;rw [Bg];have:((fun n=>UInt8.ofNat n.toNat) ∘ fun b=>(b.toNat:Int))=id:=by funext b;simp
 rw [this,Uc]
def MY(c:Int):Bool:=c != 0&&(c != 1&&c != 2)
def MZ(r:aH):J fG:=cond (MY r.b8) [] (r.fText.map fun b=>fG.mk (b.toNat:Int) (r.b8 != 1))
def rC(r:aH):J eG:=cond (MY r.b8) [] (r.fText.map fun b=>eG.mk (b.toNat:Int) (r.b8 != 1))
theorem acq(r:aH):(MZ r).length<=r.fText.length:=by unfold MZ;grind
theorem UE(r:aH):(rC r).length<=r.fText.length:=by unfold rC;grind
theorem Jq{α:Type}(f:aH->J α)(hf:∀r,(f r).length<=r.fText.length):∀l:J aH,(l.flatMap f).length<=cz l
 | []=>by simp
 | r::l=>by
  have:=Jq f hf l;have:=hf r;simp [XK,cz] at *;omega
theorem akI{l:J aH}{r:aH}(h:r∈l):r.fText.length<=cz l:=by
 induction l with
 | nil=>cases h
 | cons a l ih=>
  rcases iq.1 h with rfl|h
  ·simp [cz]
  ·have:=ih h
   simp [cz] at *;omega
theorem M0{α:Type}(f:aH->J α)(l:J aH)(k:Nat)(h:k<l.length):(l.take (k+1)).flatMap f=(l.take k).flatMap f++f l[k]:=by
 grind [List.take_succ_eq_append_getElem]
theorem YK(c:Int):(cond (c != 0) (some (c != 1)) (some false):O Bool)=some (c != 0&&c != 1):=by cases (c != 0)<;>rfl
theorem acr(c:Int):cond (c != 0&&c != 1) (c != 2) false=MY c:=by unfold MY;grind
theorem PV(F:Nat)(l:J aH)(hF:l.length<F)(qS:cz l<F)(h1:l.length<1000000000)(h2:cz l<=1000000000):BB F l=some (l.flatMap MZ):=by
 refine dw (fun x=>∃k:Nat,x.2=(k:Int)/\k<=l.length/\x.1=(l.take k).flatMap MZ) (fun x=>l.length-x.2.toNat) ?_ F _ ⟨0,rfl,om,si⟩ bE;rintro⟨acc,ii⟩ ⟨k,h0,hk,ha⟩;subst h0;by_cases hk:k<l.length
 ·left
  have hg:l.getD k dm=l[k]:=gd hk;have hal:acc.length<=cz (l.take k):=by grind [Jq,acq]
  have hs:=p7 l k hk;have hle:=tU l (k+1);refine⟨((l.take (k+1)).flatMap MZ,((k+1:Nat):Int)),⟨k+1,rfl,om,rfl⟩,bE,fun rc=>?_⟩;rw [cO om,cq hk,cq hk,bK,hg,YK,aC,cJ om,M0 _ _ _ hk,<-ha,cq hk,aK,aC,acr];unfold MZ
  cases hc:MY l[k].b8 with
  | true=>simp_all
  | false=>
   rw [aS,aS];refine dw (fun x=>∃j:Nat,x.2=(j:Int)/\j<=l[k].fText.length/\x.1=acc++(l[k].fText.take j).map fun b=>fG.mk (b.toNat:Int) (l[k].b8 != 1)) (fun x=>l[k].fText.length-x.2.toNat) ?_ F _ ⟨0,rfl,om,si⟩ bE;rintro⟨a2,jj⟩ ⟨j,h0,hj,hb⟩;dsimp only at h0 hb⊢;subst h0;by_cases hj:j<l[k].fText.length
   ·left
    refine⟨(acc++(l[k].fText.take (j+1)).map fun b=>fG.mk (b.toNat:Int) (l[k].b8 != 1),((j+1:Nat):Int)),⟨j+1,rfl,om,rfl⟩,bE,fun bt=>?_⟩;have YL:l[k].fText.getD j 0=l[k].fText[j]:=gd hj;have Jr:a2.length<=acc.length+j:=by rw [hb];simp;omega
    simp only [cq hk];rw [cO om];simp only [cq hj];rw [bK,YL,cJ om,iB bE om,qB hj,Kb,<-FC,<-hb];rfl
   ·right
    obtain rfl:j=l[k].fText.length:=om;intro bt;rw [cq hk,cf om,hb,Bl]
 grind
theorem Ko(F:Nat)(l:J aH)(hF:l.length<F)(qS:cz l<F)(h1:l.length<1000000000)(h2:cz l<=1000000000):Dq F l=some (l.flatMap rC):=by
 refine dw (fun x=>∃k:Nat,x.2=(k:Int)/\k<=l.length/\x.1=(l.take k).flatMap rC) (fun x=>l.length-x.2.toNat) ?_ F _ ⟨0,rfl,om,si⟩ bE;rintro⟨acc,ii⟩ ⟨k,h0,hk,ha⟩;subst h0;by_cases hk:k<l.length
 ·left
  have hg:l.getD k dm=l[k]:=gd hk;have hal:acc.length<=cz (l.take k):=by grind [Jq,UE]
  have hs:=p7 l k hk;have hle:=tU l (k+1);refine⟨((l.take (k+1)).flatMap rC,((k+1:Nat):Int)),⟨k+1,rfl,om,rfl⟩,bE,fun rc=>?_⟩;rw [cO om,cq hk,bK,hg,YK,aC,cJ om,M0 _ _ _ hk,<-ha,aK,acr];unfold rC
  cases hc:MY l[k].b8 with
  | true=>simp_all
  | false=>
   refine dw (fun x=>∃j:Nat,x.2=(j:Int)/\j<=l[k].fText.length/\x.1=acc++(l[k].fText.take j).map fun b=>eG.mk (b.toNat:Int) (l[k].b8 != 1)) (fun x=>l[k].fText.length-x.2.toNat) ?_ F _ ⟨0,rfl,om,si⟩ bE;rintro⟨a2,jj⟩ ⟨j,h0,hj,hb⟩;dsimp only at h0 hb⊢;subst h0;by_cases hj:j<l[k].fText.length
   ·left
    refine⟨(acc++(l[k].fText.take (j+1)).map fun b=>eG.mk (b.toNat:Int) (l[k].b8 != 1),((j+1:Nat):Int)),⟨j+1,rfl,om,rfl⟩,bE,fun bt=>?_⟩;have YL:l[k].fText.getD j 0=l[k].fText[j]:=gd hj;have Jr:a2.length<=acc.length+j:=by rw [hb];simp;omega
    rw [cO om];simp only [cq hj];rw [bK,YL,cJ om,iB bE om,qB hj,Kb,<-FC,<-hb];rfl
   grind
 grind
def CM(x:J fG)(i:Nat)(b:Int):Bool:=decide (i<x.length)&&((x.getD i iL).lR&&(x.getD i iL).fb==b)
theorem ja(F:Nat)(x:J fG)(i:Nat)(b:Int):nN F x (i:Int) b=some (CM x i b):=by
 unfold nN CM;by_cases h:i<x.length
 ·rw [cO om,cq h,aC,cq h,aK]
  simp_all
 grind
def eu(x:J eG)(i:Nat)(b:Int):Bool:=decide (i<x.length)&&((x.getD i cA).lR&&(x.getD i cA).fb==b)
theorem gK(F:Nat)(x:J eG)(i:Nat)(b:Int):fy F x (i:Int) b=some (eu x i b):=by
 unfold fy eu;by_cases h:i<x.length
 ·rw [cO om,cq h,aC]
  congr 1
  grind
 grind
set_option maxRecDepth 100000
theorem ir{σ R:Type}{body:(σ->O R)->σ->O R}(Q:R->Prop)(P:σ->Prop)(m:σ->Nat)
  (hs:∀s,P s->∀rc,(∀s',P s'->m s'<m s->∃r,Q r/\rc s'=some r)->∃r,Q r/\body rc s=some r):∀(F:Nat)(s:σ),P s->m s<F->∃r,Q r/\bV body F s=some r
 | 0,s,_,h=>by omega
 | F+1,s,hP,h=>hs s hP (bV body F) fun s' h1 h2=>ir Q P m hs F s' h1 om
def QI(x:J eG):Prop:=∀e∈x,0<=e.fb/\e.fb<=255
theorem YM(l:J aH):QI (l.flatMap rC):=by
 intro e he;obtain⟨r,-,he⟩:=List.mem_flatMap.1 he;unfold rC at he;cases hc:MY r.b8<;>rw [hc] at he
 ·obtain⟨b,-,rfl⟩:=yx.1 he
  have:=b.toNat_lt;dsimp only;omega
 ·cases he
theorem QI.at{x:J eG}(h:QI x){i:Nat}(hi:i<x.length):0<=(x.getD i cA).fb/\(x.getD i cA).fb<=255:=by
 rw [gd hi];exact h _ (kz hi)
def BC(e:eG):Bool:=e.lR&&(decide (97<=e.fb)&&decide (e.fb<=122))
def jG(x:J eG)(i:Nat):J Int:=((x.drop i).takeWhile BC).map fun e=>e.fb
def isName(n:Bs):Bool:=n==[97,108,112,104,97]||(n==[100,105,103,105,116]||(n==[97,108,110,117,109]||(n==[117,112,112,101,114]||(n==[108,111,119,101,114]||(n==[115,112,97,99,101]||(n==[98,108,97,110,107]||n==[112,117,110,99,116]))))))
def xw(x:J eG)(i:Nat):Bs×Int×Bool:=
 cond ((eu x i 91&&eu x (i+1) 58)&&((eu x (i+2+(jG x (i+2)).length) 58&&eu x (i+2+(jG x (i+2)).length+1) 93)&&isName (bZ (jG x (i+2)))))
  (bZ (jG x (i+2)),((i+2+(jG x (i+2)).length+2:Nat):Int),true) ([],0,false)
theorem amk(x:J eG)(i:Nat):(jG x i).length<=x.length-i:=by
 unfold jG
 grind [List.length_map,List.takeWhile_sublist,List.length_drop]
theorem ajX{p:eG->Bool}:∀(l:J eG)(k:Nat)(h:k<(l.takeWhile p).length),∃hk:k<l.length,(l.takeWhile p)[k]=l[k]/\p l[k]=true
 | [],k,h=>by simp at h
 | a::l,k,h=>by
  cases hp:p a with
  | false=>simp [hp] at h
  | true=>
   cases k with
   | zero=>exact⟨si,by simp [hp],by simpa using hp⟩
   | succ k=>
    have h':k<(l.takeWhile p).length:=by simpa [hp] using h
    obtain⟨h1,h2,h3⟩:=ajX l k h';exact⟨by simpa using h1,by simp [hp,h2],by simpa using h3⟩
theorem af3{p:eG->Bool}:∀(l:J eG)(h:(l.takeWhile p).length<l.length),p l[(l.takeWhile p).length]=false
 | [],h=>by simp at h
 | a::l,h=>by
  cases hp:p a with
  | false=>simp [hp]
  | true=>
   have h':(l.takeWhile p).length<l.length:=by simpa [hp] using h
   have:=af3 l h';simpa [hp] using this
theorem af4(x:J eG)(i k:Nat)(h:k<(jG x i).length):i+k<x.length/\(jG x i).getD k 0=(x.getD (i+k) cA).fb/\BC (x.getD (i+k) cA)=true:=by
 unfold jG at h⊢;rw [wU] at h;obtain⟨h1,h2,h3⟩:=ajX (x.drop i) k h
 grind
theorem akJ(x:J eG)(i:Nat)(h:i+(jG x i).length<x.length):BC (x.getD (i+(jG x i).length) cA)=false:=by
 unfold jG at h⊢;rw [wU] at h⊢;have:=af3 (p:=BC) (x.drop i) (by grind)
 simp_all
theorem Kp(a b:Bool)(x:O Bool)(hb:x=some b):cond a (some a) x=some (a||b):=by subst hb;cases a<;>rfl
theorem QJ(F:Nat)(x:J eG)(i:Nat)(hF:x.length+10<F)(hx:x.length<500000000):ye F x (i:Int)=some (xw x i)\/500000000<=i:=by
 by_cases hi:500000000<=i
 ·exact .inr hi
 left;unfold ye xw;rw [gK,aC,show aB ((i:Int)+1)=((i+1:Nat):Int) from cJ om,gK]
 cases h1:eu x i 91 with
 | false=>rfl
 | true=>
  cases h2:eu x (i+1) 58 with
  | false=>rfl
  | true=>
   have zA:aB ((i:Int)+2)=((i+2:Nat):Int):=by grind [bG]
   rw [zA];have hrl:=amk x (i+2);generalize hr:jG x (i+2)=r at hrl;have hat:=af4 x (i+2);have hend:=akJ x (i+2);rw [hr] at hat hend;refine dw (fun s:Int×J Int=>∃k:Nat,s.1=((i+2+k:Nat):Int)/\k<=r.length/\s.2=r.take k) (fun s=>(i+2+r.length)-s.1.toNat) ?_ F _ ⟨0,rfl,om,si⟩ bE;rintro⟨ii,nm⟩ ⟨k,h0,hk,hn⟩;dsimp only at h0 hn⊢;subst h0;by_cases hk:k<r.length
   ·left
    obtain⟨g1,g2,g3⟩:=hat k hk;have hnl:nm.length=k:=by simp_all
    refine⟨(((i+2+(k+1):Nat):Int),r.take (k+1)),⟨k+1,rfl,om,rfl⟩,bE,fun rc=>?_⟩;unfold BC at g3;simp only [cx] at g3;obtain⟨g3,g4,g5⟩:=g3;rw [cO om,cq g1,bK,g3,aC,bq,cq g1,g4,aC,bq,cq g1,g5,aC,bq,cq g1,iB bE om,cJ om,<-g2,gd hk,qB hk,<-hn];rfl
   ·right
    obtain rfl:k=r.length:=om;intro rc;rw [Bl] at hn;subst hn
    have e1:(((cond (decide (((i+2+nm.length:Nat):Int)<(x.length:Int))) (rq (decide (0<=((i+2+nm.length:Nat):Int))&&decide (((i+2+nm.length:Nat):Int)<(x.length:Int))) (some (x.getD (Int.toNat ((i+2+nm.length:Nat):Int)) cA).lR)) (some false)):O Bool).bind fun x6=>
      (cond x6 (rq (decide (0<=((i+2+nm.length:Nat):Int))&&decide (((i+2+nm.length:Nat):Int)<(x.length:Int))) (some (decide (97<=(x.getD (Int.toNat ((i+2+nm.length:Nat):Int)) cA).fb)))) (some false):O Bool).bind fun x7=>
      (cond x7 (rq (decide (0<=((i+2+nm.length:Nat):Int))&&decide (((i+2+nm.length:Nat):Int)<(x.length:Int))) (some (decide ((x.getD (Int.toNat ((i+2+nm.length:Nat):Int)) cA).fb<=122)))) (some false):O Bool))=some false:=by
     by_cases hl:i+2+nm.length<x.length
     ·have:=hend hl
      unfold BC at this;simp only [cq hl]
      grind
     grind
    have e2:∀ {β:Type}(A:O Bool)(B:Bool->O Bool)(C:Bool->O Bool)(k:Bool->O β),(A.bind fun x6=>(B x6).bind fun x7=>(C x7).bind k)=((A.bind fun x6=>(B x6).bind fun x7=>C x7)).bind k:=by
     grind
    rw [e2,e1,aC,aS,gK,aC,cJ om,gK]
    cases eu x (i+2+nm.length) 58 with
    | false=>rfl
    | true=>
     cases eu x (i+2+nm.length+1) 93 with
     | false=>rfl
     | true=>
      simp only [ku,aS,aC,uM,Qx];rw [Kp _ _ _ (Kp _ _ _ (Kp _ _ _ (Kp _ _ _ (Kp _ _ _ (Kp _ _ _ (Kp _ _ _ rfl)))))),aC];have V0:aB (((i+2+nm.length:Nat):Int)+2)=((i+2+nm.length+2:Nat):Int):=by rw [bG om];omega
      rw [V0,aK];rfl
theorem af5{x:J eG}{i:Nat}{b:Int}(h:eu x i b=true):i<x.length:=by
 unfold eu at h
 simp_all
theorem adS(F:Nat)(n:Bs)(c:Int):∃b,mA F n c=some b:=by
 unfold mA
 simp_all [aK,aC]
theorem adT(F:Nat)(x:J eG)(i:Nat)(set:J Bool)(hF:x.length+1000<F)(hx:x.length<500000000)(hc:QI x)(hi:i<x.length)(hs:set.length=256):
  ∃r:Int×J Bool,(∃e:Nat,r.1=(e:Int)/\i<e/\e<=x.length/\r.2.length=256)/\kW F x (i:Int) set=some r:=by
 unfold kW;obtain hcl|hcl:=QJ F x i om hx
 rotate_left
 ·omega
 rw [hcl,aC]
 cases h1:(xw x i).2.2 with
 | true=>
  rw [bq];unfold xw at h1⊢
  cases h2:((eu x i 91&&eu x (i+1) 58)&&((eu x (i+2+(jG x (i+2)).length) 58&&eu x (i+2+(jG x (i+2)).length+1) 93)&&isName (bZ (jG x (i+2))))) with
  | false=>rw [h2] at h1;cases h1
  | true=>
   rw [bq];simp only [cx] at h2;have h3:=af5 h2.2.1.2;refine ir _ (fun s:Int×J Bool=>∃k:Nat,s.1=(k:Int)/\k<=256/\s.2.length=256) (fun s=>256-s.1.toNat) ?_ F _ ⟨0,rfl,om,hs⟩ bE;rintro⟨ii,st⟩ ⟨k,h0,hk,hl⟩ rc hrc;dsimp only at h0 hl⊢;subst h0;by_cases hk:k<256
   ·obtain⟨b,hb⟩:=adS F (bZ (jG x (i+2))) (k:Int)
    rw [cO om,hb,aC,cJ om]
    cases b with
    | false=>exact hrc _ ⟨k+1,rfl,om,hl⟩ bE
    | true=>
     rw [bq,CJ om om om];exact hrc _ ⟨k+1,rfl,om,by simpa using hl⟩ bE
   ·rw [cf om]
    exact⟨_,⟨_,rfl,om,om,hl⟩,rfl⟩
 | false=>
  have hw1:aB ((i:Int)+1)=((i+1:Nat):Int):=cJ om;have zA:aB ((i:Int)+2)=((i+2:Nat):Int):=by grind [bG]
  have V0:aB ((i:Int)+3)=((i+3:Nat):Int):=by grind [bG]
  rw [aS,hw1,zA,V0,gK,aC,gK,aK,aC];have e1:cond (eu x (i+1) 45) (decide (((i+2:Nat):Int)<(x.length:Int)),set) (false,set)=((eu x (i+1) 45&&decide (((i+2:Nat):Int)<(x.length:Int))),set):=by grind
  rw [e1];dsimp only;rw [aC,aK,aC];have e2:∀a b:Bool,cond a (b,set) (false,set)=((a&&b),set):=by simp_all
  rw [e2];dsimp only;have hb:=hc.at hi
  cases h4:((eu x (i+1) 45&&decide (((i+2:Nat):Int)<(x.length:Int))) && !eu x (i+2) 93) with
  | false=>
   rw [aS,cq hi,bK,CJ om om om]
   exact⟨_,⟨_,rfl,om,om,by simpa using hs⟩,rfl⟩
  | true=>
   simp only [cx,fX] at h4;have h5:i+2<x.length:=om;have o5:=hc.at h5;rw [bq,cq hi,bK,bK,bG (x:=(x.getD i cA).fb) om,bG (x:=(x.getD (i+2) cA).fb) om];generalize (x.getD (i+2) cA).fb=hi2 at o5;refine ir _ (fun s:Int×J Bool=>0<=s.1/\s.1<=256/\s.2.length=256) (fun s=>256-s.1.toNat) ?_ F _ ⟨hb.1,om,hs⟩ bE;rintro⟨ii,st⟩ ⟨h6,h7,hl⟩ rc hrc;dsimp only at h6 h7 hl⊢;rw [cq h5];by_cases hle:ii<=hi2
   ·rw [cO hle,CJ om om om,bG om]
    exact hrc _ ⟨by dsimp only;omega,by dsimp only;omega,by simpa using hl⟩ (by dsimp only;omega)
   ·rw [cf hle]
    exact⟨_,⟨_,rfl,om,om,hl⟩,rfl⟩
theorem af6(F:Nat)(set:J Bool)(hF:1000<F)(hs:set.length=256):∃l:J bU,l.length<=256/\qc F set=some l:=by
 unfold qc;rw [cD (by rw [hs];rfl)];refine ir _ (fun s=>∃k:Nat,s.2.1=(k:Int)/\k<=256/\s.1.length<=k/\s.2.2.length=256) (fun s=>256-s.2.1.toNat) ?_ F _ ⟨0,rfl,om,si,hs⟩ bE;rintro⟨acc,ii,st⟩ ⟨k,h0,hk,ha,hl⟩ rc hrc;dsimp only at h0 ha hl⊢;subst h0;by_cases hk:k<256
 ·rw [cO om,CJ om om om,cJ om]
  cases hb:(!(st.getD (Int.toNat (k:Int)) false)) with
  | true=>exact hrc _ ⟨k+1,rfl,om,by dsimp only;omega,hl⟩ bE
  | false=>
   refine ir _ (fun s=>∃j:Nat,s.1=(j:Int)/\k<=j/\j<=255/\s.2.length=256) (fun s=>256-s.1.toNat) ?_ F _ ⟨k,rfl,om,om,hl⟩ bE;rintro⟨jj,Hu⟩ ⟨j,h0,hkj,hj,hl2⟩ bt apl;subst h0
   have hend:∀YN:J Bool,YN.length=256->∃r:J bU,r.length<=256/\rq ((decide (acc.length+([(bU.mk (IntKind.wrap .u8 (k:Int)) (IntKind.wrap .u8 (j:Int)))]:J bU).length<=9223372036854775807))&&(decide ((acc.length+([(bU.mk (IntKind.wrap .u8 (k:Int)) (IntKind.wrap .u8 (j:Int)))]:J bU).length)*2<=140737488355328))) (rc (acc++([(bU.mk (IntKind.wrap .u8 (k:Int)) (IntKind.wrap .u8 (j:Int)))]:J bU),aB ((j:Int)+1),YN))=some r:=by
    intro YN h3;rw [iB bE om,cJ om];exact hrc _ ⟨j+1,rfl,om,bE,h3⟩ bE
   by_cases hj2:j<255
   ·rw [cO om,cJ om,CJ om om om]
    cases Hu.getD (Int.toNat ((j+1:Nat):Int)) false with
    | true=>exact apl _ ⟨j+1,rfl,om,om,hl2⟩ bE
    | false=>
     grind [cJ]
   grind
 grind
def mB(p:aG):Prop:=(p.fKind=1->0<p.fText.length)/\p.fText.length<=10/\p.cE.length<=256
theorem PW(F:Nat)(x:J eG)(i:Nat)(hF:x.length+1000<F)(hx:x.length<50000000)(hc:QI x)(hi:i<x.length):
  ∃r:aG×Int×Bool,(r.2.2=true->mB r.1/\∃e:Nat,r.2.1=(e:Int)/\i<e/\e<=x.length)/\nq F x (i:Int)=some r:=by
 unfold nq;have hw1:aB ((i:Int)+1)=((i+1:Nat):Int):=cJ om;rw [hw1,gK,aC,gK,aC,aK,aC,cJ om,aK]
 obtain⟨s0,hs0,hs1,hs2⟩:∃s0:Nat,cond (cond (eu x (i+1) 33) true (eu x (i+1) 94)) (((i+1+1:Nat):Int)) ((i+1:Nat):Int)=(s0:Int)/\i<s0/\s0<=i+2:=by
  cases (cond (eu x (i+1) 33) true (eu x (i+1) 94))
  ·exact⟨i+1,rfl,om,om⟩
  ·exact⟨i+2,rfl,om,om⟩
 rw [hs0];refine ir _ (fun s=>∃k:Nat,s.1=(k:Int)/\i<k/\k<=x.length+2/\s.2.2.length=256) (fun s=>x.length+2-s.1.toNat) ?_ F _ ⟨s0,rfl,hs1,om,si⟩ bE;rintro⟨ii,fi,st⟩ ⟨k,h0,hk,hk2,hl⟩ rc hrc;subst h0;by_cases DR:k<x.length
 ·rw [cO om,gK,aC,aK,aC]
  have e2:cond (eu x k 93) (!fi,st) (false,st)=((eu x k 93 && !fi),st):=by cases eu x k 93<;>rfl
  rw [e2]
  cases (eu x k 93 && !fi) with
  | true=>
   obtain⟨l,h1,h2⟩:=af6 F st om hl;rw [cD (by rw [hl];rfl),h2,cJ om]
   exact⟨_,fun _=>⟨⟨(fun h=>absurd h (show ¬ ((4:Int)=1) by decide)),si,h1⟩,k+1,rfl,om,om⟩,rfl⟩
  | false=>
   obtain⟨r,⟨e,h1,h2,h3,h4⟩,h5⟩:=adT F x k st om om hc DR hl;rw [h5];exact hrc _ ⟨e,h1,om,om,h4⟩ (by grind)
 simp_all [cf]
theorem abk(F:Nat)(l:J aH)(hF:l.length<F)(qS:cz l+1000<F)(h1:l.length<1000000000)(h2:cz l<=40000000):∃p:J aG,((∀it∈p,mB it)/\p.length<=cz l)/\iK F l=some p:=by
 unfold iK;rw [Ko F l hF om h1 om];have hx:(l.flatMap rC).length<=cz l:=Jq _ UE _;have hc:=YM l;generalize (l.flatMap rC)=x at hx hc;refine ir _ (fun s=>∃k:Nat,s.2=(k:Int)/\k<=x.length/\s.1.length<=k/\∀it∈s.1,mB it) (fun s=>x.length-s.2.toNat) ?_ F _ ⟨0,rfl,om,si,fun it h=>by cases h⟩ bE;rintro⟨acc,ii⟩ ⟨k,h0,hk,ha,hit⟩ rc hrc;dsimp only at h0 ha hit⊢;subst h0
 have Dr:∀(it:aG)(e:Nat),mB it->k<e->e<=x.length->∃p:J aG,((∀it∈p,mB it)/\p.length<=cz l)/\rc (acc++[it],(e:Int))=some p:=by
  intro it e h3 h4 h5;refine hrc _ ⟨e,rfl,h5,bE,fun y hy=>?_⟩ bE
  grind
 by_cases DR:k<x.length
 ·rw [cO om]
  have ff:∃p:J aG,((∀it∈p,mB it)/\p.length<=cz l)/\((fy F x (k:Int) 42).bind fun x7=>
    cond x7
    (rq ((decide (acc.length+([(aG.mk 3 [] false [])]:J aG).length<=9223372036854775807))&&(decide ((acc.length+([(aG.mk 3 [] false [])]:J aG).length)*56<=140737488355328))) (rc (acc++([(aG.mk 3 [] false [])]:J aG),aB ((k:Int)+1))))
    ((fy F x (k:Int) 63).bind fun x8=>
    cond x8
    (rq ((decide (acc.length+([(aG.mk 2 [] false [])]:J aG).length<=9223372036854775807))&&(decide ((acc.length+([(aG.mk 2 [] false [])]:J aG).length)*56<=140737488355328))) (rc (acc++([(aG.mk 2 [] false [])]:J aG),aB ((k:Int)+1))))
    (rq ((decide (0<=(k:Int)))&&(decide ((k:Int)<(x.length:Int)))) (rq ((decide (acc.length+([(aG.mk 1 (bZ ([(x.getD (Int.toNat (k:Int)) cA).fb]:J Int)) false [])]:J aG).length<=9223372036854775807))&&(decide ((acc.length+([(aG.mk 1 (bZ ([(x.getD (Int.toNat (k:Int)) cA).fb]:J Int)) false [])]:J aG).length)*56<=140737488355328))) (rc (acc++([(aG.mk 1 (bZ ([(x.getD (Int.toNat (k:Int)) cA).fb]:J Int)) false [])]:J aG),aB ((k:Int)+1)))))))=some p:=by
   rw [gK,gK,iB bE om,iB bE om,cq DR,iB bE om,cJ om]
   cases eu x k 42 with
   | true=>exact Dr _ _ ⟨(fun h=>absurd h de),si,si⟩ om om
   | false=>
    cases eu x k 63 with
    | true=>exact Dr _ _ ⟨(fun h=>absurd h de),si,si⟩ om om
    | false=>exact Dr _ _ ⟨(fun _=>by simp [bZ]),by simp [bZ],si⟩ om om
  rw [gK,aC]
  cases eu x k 91 with
  | false=>exact ff
  | true=>
   obtain⟨r,h3,h4⟩:=PW F x k om om hc DR;rw [h4,aC]
   cases h5:r.2.2 with
   | false=>exact ff
   | true=>
    obtain⟨g1,e,g2,g3,g4⟩:=h3 h5;rw [iB bE om,g2];obtain⟨p,hp,hq⟩:=Dr r.1 e g1 g3 g4;rw [hq];exact⟨p,hp,rfl⟩
 grind
theorem aml{x:J fG}{i:Nat}{b:Int}(h:CM x i b=true):i<x.length:=by
 unfold CM at h
 simp_all
theorem ah2(F:Nat)(x:J fG)(i:Nat)(s:Bs)(hF:s.length<F)(hi:i<=x.length)(hx:x.length<500000000)(hs:s.length<500000000):∃b:Bool,(b=true->i+s.length<=x.length)/\Es F x (i:Int) s=some b:=by
 refine ir _ (fun k'=>∃k:Nat,k'=(k:Int)/\k<=s.length/\i+k<=x.length) (fun k'=>s.length-k'.toNat) ?_ F _ ⟨0,rfl,om,om⟩ bE;rintro ii ⟨k,rfl,hk,hik⟩ rc hrc;by_cases hk:k<s.length
 ·have hw:aB ((i:Int)+(k:Int))=((i+k:Nat):Int):=by grind [bG]
  rw [cO om,cq hk,hw,ja,cJ om]
  cases h:CM x (i+k) (((s.getD (Int.toNat (k:Int)) 0).toNat:Int)) with
  | false=>simp_all
  | true=>
   have:=aml h;exact hrc _ ⟨k+1,rfl,om,om⟩ bE
 ·rw [cf om]
  grind
def CL:J lH:=(yf 0).getD []
theorem ajY(F:Nat):yf F=some CL:=rfl
theorem R9:CL.length=8:=rfl
theorem adU:∀c∈CL,c.fname.length=5/\c.rD.length<=4:=by decide
theorem abl(F:Nat)(x:J fG)(i:Nat)(hF:100<F)(hi:i<x.length)(hx:x.length<50000000):∃r:J bU×Int,(∃e:Nat,r.2=(e:Int)/\i<e/\e<=x.length/\r.1.length<=4)/\o7 F x (i:Int)=some r:=by
 unfold o7;rw [ajY];refine ir _ (fun k'=>∃k:Nat,k'=(k:Int)/\k<=8) (fun k'=>8-k'.toNat) ?_ F _ ⟨0,rfl,om⟩ bE;rintro ii ⟨k,rfl,hk⟩ rc hrc;have hw1:aB ((i:Int)+1)=((i+1:Nat):Int):=cJ om;have zA:aB ((i:Int)+2)=((i+2:Nat):Int):=by grind [bG]
 have V0:aB ((i:Int)+3)=((i+3:Nat):Int):=by grind [bG]
 by_cases hk:k<CL.length
 ·have hm:=adU _ (kz hk)
  rw [cO om,cq hk,bK,gd hk,cJ om];generalize CL[k]=c at hm;rw [sx bE,sx bE];have hl:((([91,58]:Bs)++c.fname)++([58,93]:Bs)).length=9:=by simp;omega
  obtain⟨b,h1,h2⟩:=ah2 F x i ((([91,58]:Bs)++c.fname)++([58,93]:Bs)) om om om om;rw [h2,aC];rw [hl] at h1⊢
  cases b with
  | true=>
   have:=h1 rfl;have hw:aB ((i:Int)+((9:Nat):Int))=((i+9:Nat):Int):=by grind [bG]
   rw [cq hk,hw]
   exact⟨_,⟨i+9,rfl,om,om,hm.2⟩,rfl⟩
  | false=>
   have h8:k<8:=by rw [<-R9];exact hk
   exact hrc _ ⟨k+1,rfl,om⟩ bE
 ·rw [cf om,cq hi,hw1,zA,V0,ja,aC,ja,aK,aC,aC,aK,aC]
  cases h4:cond (cond (CM x (i+1) 45) (decide (((i+2:Nat):Int)<(x.length:Int))) false) (!CM x (i+2) 93) false with
  | false=>exact⟨_,⟨i+1,rfl,om,om,si⟩,rfl⟩
  | true=>
   have h5:i+2<x.length:=by
    grind
   rw [cq h5];cases decide ((x.getD (Int.toNat (i:Int)) iL).fb<=(x.getD (Int.toNat ((i+2:Nat):Int)) iL).fb)
   ·exact⟨_,⟨i+3,rfl,om,om,si⟩,rfl⟩
   ·exact⟨_,⟨i+3,rfl,om,om,si⟩,rfl⟩
theorem akK(F:Nat)(l:J bU)(b:Int)(hF:l.length<F)(hl:l.length<500000000):∃r,uZ F l b=some r:=by
 obtain⟨r,-,h⟩:∃r:Bool,True/\uZ F l b=some r:=by
  refine ir _ (fun k'=>∃k:Nat,k'=(k:Int)/\k<=l.length) (fun k'=>l.length-k'.toNat) ?_ F _ ⟨0,rfl,om⟩ bE;rintro ii ⟨k,rfl,hk⟩ rc hrc;by_cases hk:k<l.length
  ·rw [cO om,cq hk,cq hk,aK,cJ om]
   cases cond (decide ((l.getD (Int.toNat (k:Int)) gr).pZ<=b)) (decide (b<=(l.getD (Int.toNat (k:Int)) gr).jP)) false with
   | true=>simp_all
   | false=>exact hrc _ ⟨k+1,rfl,om⟩ bE
  simp_all [cf,trivial]
 exact⟨r,h⟩
theorem ah3(F:Nat)(l:J bU)(hF:l.length+300<F)(hl:l.length<500000000):∃r:J bU,r.length<=256/\Hv F l=some r:=by
 refine ir _ (fun s=>∃k:Nat,s.1=(k:Int)/\k<=256/\s.2.length<=k) (fun s=>256-s.1.toNat) ?_ F _ ⟨0,rfl,om,si⟩ bE;rintro⟨ii,o⟩ ⟨k,h0,hk,ho⟩ rc hrc;dsimp only at h0 ho⊢;subst h0;by_cases hk:k<256
 ·obtain⟨b,hb⟩:=akK F l (IntKind.wrap .u8 (k:Int)) om hl
  rw [cO om,hb,aC,cJ om]
  cases b with
  | false=>exact hrc _ ⟨k+1,rfl,om,by dsimp only;omega⟩ bE
  | true=>
   by_cases h0:0<o.length
   ·have hw:=w5 om h0
    rw [cO om,hw,cq om,aC];dsimp only
    cases (aB ((aB ((o.getD (Int.toNat ((o.length-1:Nat):Int)) gr).jP))+1))==(k:Int) with
    | true=>
     rw [cq om]
     exact hrc _ ⟨k+1,rfl,om,bE⟩ bE
    | false=>
     rw [iB bE om];exact hrc _ ⟨k+1,rfl,om,bE⟩ bE
   ·rw [cf om,aC]
    rw [iB bE om];exact hrc _ ⟨k+1,rfl,om,bE⟩ bE
 grind
theorem YO(F:Nat)(x:J fG)(i:Nat)(hF:4*x.length+1000<F)(hx:x.length<40000000)(hi:i<x.length):
  ∃r:aG×Int×Bool,(r.2.2=true->mB r.1/\∃e:Nat,r.2.1=(e:Int)/\i<e/\e<=x.length)/\qd F x (i:Int)=some r:=by
 unfold qd;have hw1:aB ((i:Int)+1)=((i+1:Nat):Int):=cJ om;rw [hw1,ja,aC,ja,aC,aK,aC,cJ om,aK,aC]
 have h0:∃y:Int×Int×Bs×Bool×J bU,cond (cond (CM x (i+1) 33) true (CM x (i+1) 94)) (((i+1+1:Nat):Int),(aG.mk 4 [] false []).fKind,(aG.mk 4 [] false []).fText,true,(aG.mk 4 [] false []).cE) (((i+1:Nat):Int),(aG.mk 4 [] false []).fKind,(aG.mk 4 [] false []).fText,(aG.mk 4 [] false []).BD,(aG.mk 4 [] false []).cE)=y/\(∃s0:Nat,y.1=(s0:Int)/\i<s0/\s0<=i+2)/\y.2.1=4/\y.2.2.1=[]:=by
  cases (cond (CM x (i+1) 33) true (CM x (i+1) 94))
  ·exact⟨_,rfl,⟨i+1,rfl,om,om⟩,rfl,rfl⟩
  ·exact⟨_,rfl,⟨i+2,rfl,om,om⟩,rfl,rfl⟩
 obtain⟨y,hy,⟨s0,hs0,hs1,hs2⟩,hy2,hy3⟩:=h0;rw [hy,hs0,hy2,hy3];refine ir _ (fun s=>∃k:Nat,s.1=(k:Int)/\i<k/\k<=x.length+2/\s.2.1.length<=4*k) (fun s=>x.length+2-s.1.toNat) ?_ F _ ⟨s0,rfl,hs1,om,si⟩ bE;rintro⟨ii,sp,fi⟩ ⟨k,h0,hk,hk2,hl⟩ rc hrc;dsimp only at h0 hl⊢;subst h0;rw [ja,aC,aK,aK,aC];by_cases DR:k<x.length
 ·rw [cO (show (k:Int)<(x.length:Int) by omega)]
  cases (cond fi true (!CM x k 93)) with
  | true=>
   obtain⟨r,⟨e,h1,h2,h3,h4⟩,h5⟩:=abl F x k om DR om;rw [h5,aC,iB om om]
   exact hrc _ ⟨e,h1,om,om,by grind⟩ (by grind)
  | false=>
   obtain⟨r,h1,h2⟩:=ah3 F sp om om;rw [cf (show ¬ (x.length:Int)<=(k:Int) by omega),h2,cJ om];exact⟨_,fun _=>⟨⟨(fun h=>absurd h (show ¬ ((4:Int)=1) by decide)),si,h1⟩,k+1,rfl,om,om⟩,rfl⟩
 simp_all [cf,aS,cO]
theorem YP(F:Nat)(l:J aH)(hF:l.length<F)(qS:4*cz l+1000<F)(h1:l.length<1000000000)(h2:cz l<=20000000):∃p:J aG,((∀it∈p,mB it)/\p.length<=cz l)/\jL F l=some p:=by
 unfold jL;rw [PV F l hF om h1 om];have hx:(l.flatMap MZ).length<=cz l:=Jq _ acq _;generalize (l.flatMap MZ)=x at hx;refine ir _ (fun s=>∃k:Nat,s.2=(k:Int)/\k<=x.length/\s.1.length<=k/\∀it∈s.1,mB it) (fun s=>x.length-s.2.toNat) ?_ F _ ⟨0,rfl,om,si,fun it h=>by cases h⟩ bE;rintro⟨acc,ii⟩ ⟨k,h0,hk,ha,hit⟩ rc hrc;dsimp only at h0 ha hit⊢;subst h0
 have Dr:∀(it:aG)(e:Nat),mB it->k<e->e<=x.length->∃p:J aG,((∀it∈p,mB it)/\p.length<=cz l)/\rc (acc++[it],(e:Int))=some p:=by
  intro it e h3 h4 h5;refine hrc _ ⟨e,rfl,h5,bE,fun y hy=>?_⟩ bE
  grind
 by_cases DR:k<x.length
 ·rw [cO om,ja,aC,ja,aC,iB bE om,iB bE om,cJ om]
  cases CM x k 42 with
  | true=>exact Dr _ _ ⟨(fun h=>absurd h (show ¬ ((3:Int)=1) by decide)),si,si⟩ om om
  | false=>
   cases CM x k 63 with
   | true=>exact Dr _ _ ⟨(fun h=>absurd h (show ¬ ((2:Int)=1) by decide)),si,si⟩ om om
   | false=>
    rw [ja,aC]
    have ff:∃p:J aG,((∀it∈p,mB it)/\p.length<=cz l)/\(rq ((decide (0<=(k:Int)))&&(decide ((k:Int)<(x.length:Int)))) (rq ((decide (acc.length+([(aG.mk 1 (bZ ([(x.getD (Int.toNat (k:Int)) iL).fb]:J Int)) false [])]:J aG).length<=9223372036854775807))&&(decide ((acc.length+([(aG.mk 1 (bZ ([(x.getD (Int.toNat (k:Int)) iL).fb]:J Int)) false [])]:J aG).length)*56<=140737488355328))) (rc (acc++([(aG.mk 1 (bZ ([(x.getD (Int.toNat (k:Int)) iL).fb]:J Int)) false [])]:J aG),aB ((k:Int)+1)))))=some p:=by
     rw [cq DR,iB bE om,cJ om];exact Dr _ _ ⟨(fun _=>by simp [bZ]),by simp [bZ],si⟩ om om
    cases CM x k 91 with
    | false=>exact ff
    | true=>
     obtain⟨r,h3,h4⟩:=YO F x k om om DR;rw [h4,aC]
     cases h5:r.2.2 with
     | false=>exact ff
     | true=>
      obtain⟨g1,e,g2,g3,g4⟩:=h3 h5;rw [iB bE om,g2];obtain⟨p,hp,hq⟩:=Dr r.1 e g1 g3 g4;rw [hq];exact⟨p,hp,rfl⟩
 grind
theorem BE(F:Nat)(l:J bU)(hF:l.length<F)(hl:l.length<500000000):∃r,nr F l=some r:=by
 obtain⟨r,-,h⟩:∃r:Bool,True/\nr F l=some r:=by
  refine ir _ (fun k'=>∃k:Nat,k'=(k:Int)/\k<=l.length) (fun k'=>l.length-k'.toNat) ?_ F _ ⟨0,rfl,om⟩ bE;rintro ii ⟨k,rfl,hk⟩ rc hrc;by_cases hk:k<l.length
  ·rw [cO om,cq hk,cq hk]
   have e:∃b,(cond (decide ((l.getD (Int.toNat (k:Int)) gr).jP<(l.getD (Int.toNat (k:Int)) gr).pZ)) (some true) (cond (decide (0<(k:Int))) (rq ((decide (0<=(k:Int)))&&(decide ((k:Int)<(l.length:Int)))) (rq ((decide (0<=aB ((k:Int)-1)))&&(decide (aB ((k:Int)-1)<(l.length:Int)))) (some (decide (aB ((l.getD (Int.toNat (k:Int)) gr).pZ)<=aB ((aB ((l.getD (Int.toNat (aB ((k:Int)-1))) gr).jP))+1)))))) (some false)):O Bool)=some b:=by
    by_cases h0:0<k
    ·rw [cq hk,w5 om h0,cO (show (0:Int)<(k:Int) by omega),bR om om,aK];exact⟨_,rfl⟩
    simp_all [cf,aK]
   obtain⟨b,hb⟩:=e;rw [hb,cJ om]
   cases b with
   | true=>simp_all
   | false=>exact hrc _ ⟨k+1,rfl,om⟩ bE
  simp_all [cf,trivial]
 exact⟨r,h⟩
theorem adV(F:Nat)(p:J aG)(hF:p.length+300<F)(hp:p.length<50000000)(hit:∀it∈p,mB it):∃b,kB F p=some b:=by
 obtain⟨b,-,h⟩:∃b:Bool,True/\kB F p=some b:=by
  refine ir _ (fun s=>∃k:Nat,s=(k:Int)/\k<=p.length) (fun s=>p.length-s.toNat) ?_ F _ ⟨0,rfl,om⟩ bE;rintro ii ⟨k,rfl,hk⟩ rc hrc;by_cases hk:k<p.length
  ·have hI:=hit _ (kz hk)
   rw [cO om,cq hk,bK,gd hk];generalize p[k]=it at hI;obtain⟨c,hc⟩:=BE F it.cE (by have:=hI.2.2;omega) (by have:=hI.2.2;omega);simp only [aK,aC,hc];rw [cJ om]
   cases (cond (cond (cond (cond (decide (it.fKind<1)) true (decide (4<it.fKind))) true ((it.fText.length:Int) != cond (it.fKind==1) 1 0)) true (cond (it.fKind != 4) (cond it.BD true (decide (0<(it.cE.length:Int)))) false)) true !c) with
   | true=>simp_all
   | false=>exact hrc _ ⟨k+1,rfl,om⟩ bE
  simp_all [cf,trivial]
 exact⟨b,h⟩
theorem YQ(F:Nat)(p:J aG)(hF:p.length+300<F)(hp:p.length<50000000)(hit:∀it∈p,mB it):∃r,tE F p=some r:=by
 obtain⟨b,hb⟩:=adV F p hF hp hit
 obtain⟨b,-,h⟩:∃b:Bs×Bool,True/\tE F p=some b:=by
  refine ir _ (fun s=>∃k:Nat,s.2=(k:Int)/\k<=p.length/\s.1.length<=10*k) (fun s=>p.length-s.2.toNat) ?_ F _ ⟨0,rfl,om,si⟩ bE;rintro⟨acc,ii⟩ ⟨k,h0,hk,ha⟩ rc hrc;subst h0;by_cases hk:k<p.length
  ·have hI:=hit _ (kz hk)
   have hl:=hI.2.1;rw [cO om,cq hk,cq hk,bK,gd hk]
   cases (p[k].fKind != 1) with
   | true=>simp_all
   | false=>
    rw [af7 om,cJ om];exact hrc _ ⟨k+1,rfl,om,by grind⟩ bE
  simp_all [cf,aC,aK,trivial]
 exact⟨b,h⟩
def zB(l:J aH):Bs:=l.flatMap fun r=>r.fText
theorem Fq:∀l:J aH,(zB l).length=cz l
 | []=>rfl
 | r::l=>by
  have:=Fq l;unfold zB cz at *;simp only [XK,ug,lD,XJ];omega
theorem af8(s:Bs):Js (dn s)=true:=by
 unfold Js dn;rw [oX];intro x hx;obtain⟨b,-,rfl⟩:=yx.1 hx;have:=b.toNat_lt;simp;omega
theorem apm(F:Nat)(s:Bs)(c:Bool)(buf:J Int)(h:buf.length+s.length<=100000000):iM F s c buf=some ((s.length:Int),true,buf++dn s):=by
 unfold iM;rw [show ov F c buf=some (true,buf) by cases c<;>rfl,aC,iB (by simp [dn];omega) om]
theorem FP(F:Nat)(l:J aH)(hF:l.length<F)(h1:l.length<1000000000)(h2:cz l<=100000000):mL F l=some (zB l):=by
 unfold mL;refine dw (fun x=>∃k:Nat,x.1=(k:Int)/\k<=l.length/\x.2.2=dn (zB (l.take k))) (fun x=>l.length-x.1.toNat) ?_ F _ ⟨0,rfl,om,by simp [zB,dn]⟩ bE;rintro⟨ii,c,buf⟩ ⟨k,h0,hk,ha⟩;dsimp only at h0 ha⊢;subst h0;by_cases hk:k<l.length
 ·left
  have hs:=p7 l k hk;have hle:=tU l (k+1);refine⟨(((k+1:Nat):Int),true,dn (zB (l.take (k+1)))),⟨k+1,rfl,om,rfl⟩,bE,fun rc=>?_⟩;have Jr:buf.length=cz (l.take k):=by rw [ha,dn,wU,Fq]
  rw [cO om,cq hk,bK,gd hk,apm F _ c buf om,aC,cJ om];show rc (((k+1:Nat):Int),true,buf++dn l[k].fText)=_;rw [ha,zB,zB,M0 _ _ _ hk];simp [dn]
 ·right
  obtain rfl:k=l.length:=om;intro rc;rw [Bl] at ha;subst ha;have:(dn (zB l)).length=cz l:=by rw [dn,wU,Fq]
  rw [cf om];unfold mM;rw [cD (by rw [dQ rfl,af8,dQ om];rfl),YJ];rfl
theorem adW{F:Nat}{r:J aH}(hF:(zh r).length<F)(h0:(zh r).length<1000000000)(h1:r.length<=1000000000)(h2:cz r<=1000000000)(h:∀c∈zh r,∃p x,jL F c=some p/\tE F p=some x):∃b,(b=true->True)/\tF F r=some b:=by
 unfold tF RX;rw [bR h1 h2,aC];have hB:∀(F2:Nat)(x:O Bool),(∃b,True/\x=some b)->∃b,(b=true->True)/\x=some b:=fun _ x ⟨b,_,h⟩=>⟨b,fun _=>trivial,h⟩;refine hB F _ (Er (fun _=>True) (fun x:Int×Int×Int=>∃k:Nat,x.2.2=(k:Int)/\k<=(zh r).length) (fun x=>(zh r).length-x.2.2.toNat) ?_ F (0,0,0) ⟨0,rfl,om⟩ bE)
 ·rintro⟨a,b,ii⟩ ⟨k,h0,hk⟩
  dsimp only at h0⊢;subst h0;by_cases hk:k<(zh r).length
  ·left
   obtain⟨p,x,e1,e2⟩:=h (zh r)[k] (kz hk);refine⟨(cond (!x.2) (aB (a+1),b,((k+1:Nat):Int)) (cond (x.1==[46,46]) (a,aB (b+1),((k+1:Nat):Int)) (a,b,((k+1:Nat):Int)))),⟨k+1,?_,om⟩,?_,fun rc=>?_⟩
   ·cases x.2<;>cases (x.1==[46,46])<;>rfl
   ·cases x.2<;>cases (x.1==[46,46])<;>simp<;>omega
   ·rw [cO om,cq hk,bK,gd hk,e1,aC,e2,aC,cJ om]
    cases x.2<;>cases (x.1==[46,46])<;>rfl
  ·right
   refine⟨cond (decide (a<=2)) true (b==0),trivial,fun rc=>?_⟩;rw [cf om,aK,aC]
theorem ah4(l:J aH):(zh l).length<=cz l+1:=by
 have:=QC l ([],[]);unfold zh fY;simp only [FH,ug,Bh,Ka] at *;omega
theorem adX:∀ {c:J aH},(∀r∈c,r.fText.length=1)->cz c=c.length
 | [],_=>rfl
 | r::c,h=>by
  have:=adX (c:=c) fun x hx=>h x (by simp [hx]);have:=h r si;unfold cz at *;simp only [lD,XJ,Bh];omega
def adY(p n:Bs):Bs:=cond (p==[47]) ([47]++n) ((p++[47])++n)
def apn(l:J bu)(p:Bs):Bool:=(Kl l p).elim false fun f=>f.nM
def amm(n:Bs):Bool:=n.take 1==[46]
def apo(c:bA):Bool:=decide (0<c.qE.length)&&((c.qE.getD 0 fU).fKind==1&&(c.qE.getD 0 fU).fText==[46])
def aob(mt:J aG->Bs->Bool)(c:bA)(n:Bs):Bool:=!((amm n && !apo c) || !mt c.qE n)
def W(l:J bu)(mt:J aG->Bs->Bool):J bA->Bs->J (J Bs)
 | [],p=>[[]]
 | c::cs,p=>cond (!apn l p) [] (cond (!c.qF) (((aoa l p).filter (aob mt c)).flatMap fun n=>(W l mt cs (adY p n)).map (n :: ·))
   (cond (c.fI==[]||c.fI==[46]) ((W l mt cs p).map (c.fI :: ·)) (cond (c.fI==[46,46]) ((W l mt cs (qb p)).map (c.fI :: ·))
   (cond (Kl l (adY p c.fI)).isNone [] ((W l mt cs (adY p c.fI)).map (c.fI :: ·))))))
section
variable {F : Nat} {l : J bu} {mt : J aG -> Bs -> Bool} {parts : J bA}
abbrev amn:=Bool×(J bu)×(J bA)×(J (dH×Bool))×(J Bs)×(J Bs)
def amo(l:J bu)(mt:J aG->Bs->Bool)(parts:J bA)(dead:J (dH×Bool)):Prop:=∀(i:Nat) p,fQ cK dead (dH.mk (i:Int) p) false=true->W l mt (parts.drop i) p=[]
structure OT(parts:List bA)(i:Nat)(names:List Bs):Prop where
 len:names.length=parts.length
 lit:∀j,i<=j->∀h:j<parts.length,parts[j].qF=true->names.getD j []=parts[j].fI
 sz:∀n∈names,n.length<=4000
def SOk(l:J bu)(mt:J aG->Bs->Bool)(parts:J bA)(i:Nat)(path:Bs)(names found:J Bs)(r:amn):Prop:=
 ∃ajZ names',r=(!(W l mt (parts.drop i) path).isEmpty,l,parts,ajZ,names',found++(W l mt (parts.drop i) path).map fun ws=>zy (names.take i++ws))/\amo l mt parts ajZ/\OT parts i names'/\names'.take i=names.take i
theorem OT.up{i:Nat}{names:J Bs}(h:OT parts i names):OT parts (i+1) names:=⟨h.len,fun j hj=>h.lit j om,h.sz⟩
theorem YR{i:Nat}{names:J Bs}(h:OT parts i names)(hi:i<parts.length)(hl:parts[i].qF=true):names.take (i+1)=names.take i++[parts[i].fI]:=by
 have h1:i<names.length:=by rw [h.len];exact hi
 rw [qB h1];have:=h.lit i (eo _) hi hl;rw [gd h1] at this;rw [this]
theorem SOk.lit{i:Nat}{path path':Bs}{names found:J Bs}{r:amn}(hn:OT parts i names)(hi:i<parts.length)(hl:parts[i].qF=true)
  (hW:W l mt (parts.drop i) path=(W l mt (parts.drop (i+1)) path').map (parts[i].fI :: ·)) (h:SOk l mt parts (i+1) path' names found r):SOk l mt parts i path names found r:=by
 obtain⟨d,n',rfl,h1,h2,h3⟩:=h
 have h4:n'.take i=names.take i:=by
  have:=congrArg (List.take i) h3;rwa [XY,XY,adt om] at this
 refine⟨d,n',?_,h1,⟨h2.len,fun j hj hlt hlj=>?_,h2.sz⟩,h4⟩
 ·rw [hW,YR hn hi hl]
  simp only [Bg,List.isEmpty_map,FC,List.singleton_append];rfl
 ·by_cases e:j=i
  ·subst e
   have h5:=YR hn hi hl;rw [<-h3] at h5;have h6:j<n'.length:=by rw [h2.len];exact hi
   rw [qB h6,h4] at h5;have h7:=List.append_cancel_left h5;rw [gd h6];exact List.singleton_inj.1 h7
  ·exact h2.lit j om hlt hlj
end
theorem BF(a b:J aH):cz (a++b)=cz a+cz b:=by unfold cz;rw [Kb,adq]
def Hw(e:eG):fG:=fG.mk e.fb e.lR
theorem akL(r:aH):MZ r=(rC r).map Hw:=by
 unfold MZ rC;cases MY r.b8
 ·rw [aS,aS,Bg];rfl
 ·rfl
theorem aoc(l:J aH):l.flatMap MZ=(l.flatMap rC).map Hw:=by
 induction l with
 | nil=>rfl
 | cons r l ih=>simp_all [XK,Kb,akL]
theorem je(x:J eG)(i:Nat)(b:Int):CM (x.map Hw) i b=eu x i b:=by
 unfold CM eu;rw [wU];by_cases h:i<x.length
 ·rw [gd (by simp_all),Ue,gd h];rfl
 ·rw [dF h];rfl
def vV(x:J eG)(i:Nat)(s:Bs):Bool:=(List.range s.length).all fun j=>eu x (i+j) ((s.getD j 0).toNat:Int)
theorem akM(F:Nat)(x:J eG)(i:Nat)(s:Bs)(hF:s.length<F)(hi:i<50000000)(hs:s.length<50000000):Es F (x.map Hw) (i:Int) s=some (vV x i s):=by
 refine dw (fun k'=>∃k:Nat,k'=(k:Int)/\k<=s.length/\∀j,j<k->eu x (i+j) ((s.getD j 0).toNat:Int)=true) (fun k'=>s.length-k'.toNat) ?_ F _ ⟨0,rfl,om,fun j h=>om⟩ bE;rintro ii ⟨k,rfl,hk,hj⟩;by_cases hk:k<s.length
 ·have hw:aB ((i:Int)+(k:Int))=((i+k:Nat):Int):=by grind [bG]
  cases h:eu x (i+k) ((s.getD k 0).toNat:Int) with
  | true=>
   left;refine⟨((k+1:Nat):Int),⟨k+1,rfl,om,fun j hj2=>?_⟩,bE,fun rc=>?_⟩
   ·grind
   ·rw [cO om,cq hk,hw,ja,je,bK,h,cJ om];rfl
  | false=>
   right;intro rc;rw [cO om,cq hk,hw,ja,je,bK,h]
   have:vV x i s=false:=by
    unfold vV
    grind
   rw [this];rfl
 ·right
  obtain rfl:k=s.length:=om;intro rc;rw [cf om]
  have:vV x i s=true:=by
   unfold vV
   simp_all
  rw [this]
theorem yS{x:J eG}{i:Nat}{b:Int}:eu x i b=true↔i<x.length/\(x.getD i cA).lR=true/\(x.getD i cA).fb=b:=by
 unfold eu
 simp_all
theorem adZ(x:J eG)(i:Nat)(n:Bs)(h5:n.length=5)(YS:∀b∈n,97<=b.toNat/\b.toNat<=122):
  vV x i ((([91,58]:Bs)++n)++([58,93]:Bs))=((eu x i 91&&eu x (i+1) 58)&&((eu x (i+2+(jG x (i+2)).length) 58&&eu x (i+2+(jG x (i+2)).length+1) 93)&&jG x (i+2)==dn n)):=by
 match n,h5 with
 | [a,b,c,d,e],_=>
  have ha:=YS a si;have hb:=YS b si;have hc:=YS c si;have hd:=YS d si;have he:=YS e si;rw [sN];unfold vV;rw [show ((([91,58]:Bs)++[a,b,c,d,e])++([58,93]:Bs)).length=9 from rfl]
  have apq:((List.range 9).all fun j=>eu x (i+j) ((((([91,58]:Bs)++[a,b,c,d,e])++([58,93]:Bs)).getD j 0).toNat:Int))=true ↔
    (eu x i 91=true/\eu x (i+1) 58=true/\eu x (i+2) (a.toNat:Int)=true/\eu x (i+3) (b.toNat:Int)=true/\eu x (i+4) (c.toNat:Int)=true/\eu x (i+5) (d.toNat:Int)=true/\eu x (i+6) (e.toNat:Int)=true/\eu x (i+7) 58=true/\eu x (i+8) 93=true):=by
   rw [oX];constructor
   ·intro h
    exact⟨h 0 si,h 1 si,h 2 si,h 3 si,h 4 si,h 5 si,h 6 si,h 7 si,h 8 si⟩
   ·rintro⟨h0,h1,h2,h3,h4,h5,h6,h7,h8⟩ j hj
    match j,hj with
    | 0,_=>exact h0
    | 1,_=>exact h1
    | 2,_=>exact h2
    | 3,_=>exact h3
    | 4,_=>exact h4
    | 5,_=>exact h5
    | 6,_=>exact h6
    | 7,_=>exact h7
    | 8,_=>exact h8
  rw [apq];have hat:=af4 x (i+2);simp only [cx,uh];constructor
  ·rintro⟨h0,h1,h2,h3,h4,h5,h6,h7,h8⟩
   have g2:=yS.1 h2;have g3:=yS.1 h3;have g4:=yS.1 h4;have g5:=yS.1 h5;have g6:=yS.1 h6;have g7:=yS.1 h7
   have hl:∀(k:Nat)(v:UInt8),97<=v.toNat/\v.toNat<=122->(x.getD k cA).lR=true/\(x.getD k cA).fb=(v.toNat:Int)->BC (x.getD k cA)=true:=by
    unfold BC
    grind
   have gW:x.drop (i+2)=x.getD (i+2) cA::x.getD (i+3) cA::x.getD (i+4) cA::x.getD (i+5) cA::x.getD (i+6) cA::x.getD (i+7) cA::x.drop (i+8):=by
    simp_all
   have hnl:BC (x.getD (i+7) cA)=false:=by
    unfold BC
    grind
   have hrun:jG x (i+2)=dn [a,b,c,d,e]:=by
    unfold jG;rw [gW];simp only [List.takeWhile,hl _ a ha g2.2,hl _ b hb g3.2,hl _ c hc g4.2,hl _ d hd g5.2,hl _ e he g6.2,hnl];simp only [lD,XB,g2.2.2,g3.2.2,g4.2.2,g5.2.2,g6.2.2];rfl
   rw [hrun];exact⟨⟨h0,h1⟩,⟨h7,h8⟩,rfl⟩
  ·rintro⟨⟨h0,h1⟩,⟨h7,h8⟩,hr⟩
   rw [hr] at hat h7 h8
   have hk:∀(k:Nat)(v:UInt8),k<5->(dn [a,b,c,d,e]).getD k 0=(v.toNat:Int)->eu x (i+2+k) (v.toNat:Int)=true:=by
    intro k v hk e1;obtain⟨q1,q2,q3⟩:=hat k hk;unfold BC at q3
    simp_all [cx,yS]
   exact⟨h0,h1,hk 0 a om rfl,hk 1 b om rfl,hk 2 c om rfl,hk 3 d om rfl,hk 4 e om rfl,h7,h8⟩
def YT(l:J bU)(b:Nat):J bU:=cond (decide (0<l.length)&&(l.getD (l.length-1) gr).jP+1==(b:Int)) (l.set (l.length-1) (bU.mk (l.getD (l.length-1) gr).pZ (b:Int))) (l++[bU.mk (b:Int) (b:Int)])
def DD(P:Nat->Bool):Nat->J bU
 | 0=>[]
 | k+1=>cond (P k) (YT (DD P k) k) (DD P k)
theorem akN(l:J bU)(b:Nat):(YT l b).length<=l.length+1:=by
 unfold YT
 grind
theorem YU(P:Nat->Bool):∀k,(DD P k).length<=k
 | 0=>by simp [DD]
 | k+1=>by
  have ih:=YU P k;have:=akN (DD P k) k;unfold DD;cases P k
  ·rw [aS];omega
  ·rw [bq];omega
theorem UF(P:Nat->Bool):∀k,∀s∈DD P k,∃h:Nat,h<k/\s.jP=(h:Int)/\P h=true
 | 0,s,hs=>by cases hs
 | k+1,s,hs=>by
  have ih:=UF P k;unfold DD at hs
  cases hP:P k with
  | false=>
   rw [hP] at hs;obtain⟨h,h1,h2,h3⟩:=ih s hs
   exact⟨h,om,h2,h3⟩
  | true=>
   rw [hP] at hs;unfold YT at hs
   cases hb:(decide (0<(DD P k).length)&&((DD P k).getD ((DD P k).length-1) gr).jP+1==(k:Int)) with
   | true=>
    rw [hb] at hs;rcases List.mem_or_eq_of_mem_set hs with hs|rfl
    ·obtain⟨h,h1,h2,h3⟩:=ih s hs
     exact⟨h,om,h2,h3⟩
    ·exact⟨k,om,rfl,hP⟩
   | false=>
    rw [hb] at hs;rcases wX.1 hs with hs|hs
    ·obtain⟨h,h1,h2,h3⟩:=ih s hs
     exact⟨h,om,h2,h3⟩
    ·obtain rfl:=MD.1 hs
     exact⟨k,om,rfl,hP⟩
theorem amq(P:Nat->Bool)(c:Nat)(h:P c=true)(h0:c=0\/P (c-1)=false):DD P (c+1)=DD P c++[bU.mk (c:Int) (c:Int)]:=by
 rw [DD,h,bq,YT]
 have:(decide (0<(DD P c).length)&&((DD P c).getD ((DD P c).length-1) gr).jP+1==(c:Int))=false:=by
  by_cases hl:0<(DD P c).length
  ·grind [gd,List.getElem_mem,UF,beq_eq_false_iff_ne]
  ·rw [dF hl];rfl
 rw [this,aS]
theorem af9(P:Nat->Bool)(c:Nat)(h0:c=0\/P (c-1)=false):∀(k:Nat),(∀j,c<=j->j<=c+k->P j=true)->DD P (c+k+1)=DD P c++[bU.mk (c:Int) ((c+k:Nat):Int)]
 | 0,h=>amq P c (h c (eo _) om) h0
 | k+1,h=>by
  have ih:=af9 P c h0 k fun j h1 h2=>h j h1 om;rw [show c+(k+1)+1=(c+k+1)+1 by omega,DD,h (c+k+1) om om,ih,YT];have hl:(DD P c++[bU.mk (c:Int) ((c+k:Nat):Int)]).length-1=(DD P c).length:=by simp
  have hg:(DD P c++[bU.mk (c:Int) ((c+k:Nat):Int)]).getD ((DD P c++[bU.mk (c:Int) ((c+k:Nat):Int)]).length-1) gr=bU.mk (c:Int) ((c+k:Nat):Int):=by
   simp
  have e:((bU.mk (c:Int) ((c+k:Nat):Int)).jP+1==((c+k+1:Nat):Int))=true:=by
   rw [uh];show ((c+k:Nat):Int)+1=_;omega
  simp;omega
theorem aga(P:Nat->Bool):∀(m c:Nat),c+m=255->P c=true->∃k,c+k<=255/\(∀j,c<=j->j<=c+k->P j=true)/\(c+k=255\/P (c+k+1)=false)
 | 0,c,h,hP=>⟨0,om,(fun j h1 h2=>(show j=c by omega)▸hP),.inl om⟩
 | m+1,c,h,hP=>by
  cases h1:P (c+1) with
  | false=>exact⟨0,om,(fun j h1 h2=>(show j=c by omega)▸hP),.inr h1⟩
  | true=>
   obtain⟨k,g1,g2,g3⟩:=aga P m (c+1) om h1;refine⟨k+1,om,fun j h2 h3=>?_,?_⟩
   ·grind
   grind
theorem ad1{c:Nat}(h:c<256):IntKind.wrap .u8 (c:Int)=(c:Int):=by
 show ((c:Int)%256)=c;omega
theorem ah5(F:Nat)(set:J Bool)(hF:1000<F)(hs:set.length=256):qc F set=some (DD (fun c=>set.getD c false) 256):=by
 unfold qc;rw [cD (by rw [hs];rfl)];generalize hP:(fun c=>set.getD c false)=P;have hPc:∀c,set.getD c false=P c:=fun c=>by rw [<-hP]
 refine dw (fun s:J bU×Int×J Bool=>∃c:Nat,s=(DD P c,(c:Int),set)/\c<=256/\(c<256->P c=true->c=0\/P (c-1)=false)) (fun s=>256-s.2.1.toNat) ?_ F _ ⟨0,rfl,om,fun _ _=>.inl rfl⟩ bE;rintro s ⟨c,rfl,hc,hst⟩;have hdl:=YU P c;by_cases Jt:c<256
 ·left
  cases hb:P c with
  | false=>
   refine⟨(DD P (c+1),((c+1:Nat):Int),set),⟨c+1,rfl,om,fun _ _=>.inr (by simpa using hb)⟩,bE,fun rc=>?_⟩;dsimp only;rw [cO om,CJ om om om,bK,hPc,hb,cJ om];show rc _=_
   rw [DD,hb,aS]
  | true=>
   have h0:=hst Jt hb;obtain⟨k,k1,k2,k3⟩:=aga P (255-c) c om hb;have hrun:=af9 P c h0 k k2;refine⟨(DD P (c+k+1),((c+k+1:Nat):Int),set),⟨c+k+1,rfl,om,fun h1 h2=>?_⟩,bE,fun rc=>?_⟩
   ·simp_all
   ·dsimp only
    rw [cO om,CJ om om om,bK,hPc,hb,ku,aS];refine dw (fun s:Int×J Bool=>∃j:Nat,s=(((c+j:Nat):Int),set)/\j<=k) (fun s=>256-s.1.toNat) ?_ F _ ⟨0,rfl,om⟩ bE;rintro s ⟨j,rfl,hj⟩;by_cases hjk:j<k
    ·left
     refine⟨(((c+(j+1):Nat):Int),set),⟨j+1,rfl,om⟩,bE,fun bt=>?_⟩;dsimp only;rw [cO om,cJ om,CJ om om om,aC]
     grind
    ·right
     obtain rfl:j=k:=om;intro bt;dsimp only
     have e:(cond (decide (((c+j:Nat):Int)<255)) (rq ((decide (0<=aB (((c+j:Nat):Int)+1)))&&((decide (aB (((c+j:Nat):Int)+1)<256))&&(decide (aB (((c+j:Nat):Int)+1)<(set.length:Int))))) (some (set.getD (Int.toNat (aB (((c+j:Nat):Int)+1))) false,set))) (some (false,set)):O (Bool×J Bool))=some (false,set):=by
      by_cases aql:c+j<255
      ·rw [cO om,cJ om,CJ om om om,bK,hPc]
       grind
      ·rw [cf om]
     rw [e,aC];dsimp only;rw [aS,ad1 om,ad1 om,iB bE om,cJ om,hrun]
 grind
def zC(l:J bU)(b:Int):Bool:=l.any fun s=>decide (s.pZ<=b)&&decide (b<=s.jP)
theorem aod(F:Nat)(l:J bU)(b:Int)(hF:l.length<F)(hl:l.length<50000000):uZ F l b=some (zC l b):=by
 unfold uZ;rw [qm l (fun i=>(i:Int)) (fun s=>decide (s.pZ<=b)&&decide (b<=s.jP)) (fun _ _=>some true) (some false) hF (by rfl) (fun i h rc=>?_) (fun rc=>?_),FO]
 ·rw [aK,cI];rfl
 ·rw [cO om,cq h,cq h,bK,gd h,aK,aC,cF,cJ om]
 ·rw [cf om]
theorem FQ(F:Nat)(l:J bU)(hF:l.length+300<F)(hl:l.length<50000000):Hv F l=some (DD (fun c=>zC l (c:Int)) 256):=by
 generalize hP:(fun c:Nat=>zC l (c:Int))=P;have hPc:∀c:Nat,zC l (c:Int)=P c:=fun c=>by rw [<-hP]
 refine dw (fun s=>∃c:Nat,s=((c:Int),DD P c)/\c<=256) (fun s=>256-s.1.toNat) ?_ F _ ⟨0,rfl,om⟩ bE;rintro s ⟨c,rfl,hc⟩;have hdl:=YU P c;by_cases Jt:c<256
 ·left
  refine⟨(((c+1:Nat):Int),DD P (c+1)),⟨c+1,rfl,om⟩,bE,fun rc=>?_⟩;dsimp only;rw [cO om,ad1 Jt,aod F l _ om hl,aC,hPc,cJ om,DD]
  cases hb:P c with
  | false=>rfl
  | true=>
   rw [ku,aS,bq,YT];by_cases h0:0<(DD P c).length
   ·have hm:(DD P c).getD ((DD P c).length-1) gr∈DD P c:=by
     grind
    obtain⟨q,q1,q2,q3⟩:=UF P c _ hm;rw [cO om,w5 om h0,cq om,aC,bK,dT h0,Qx];dsimp only;rw [q2,bG (x:=(q:Int)) om,cJ om,show ((q:Int)+1==(c:Int))=(((q+1:Nat):Int)==(c:Int)) from rfl]
    cases (((q+1:Nat):Int)==(c:Int)) with
    | true=>rw [bq,bq,cq om]
    | false=>rw [aS,aS,iB bE om]
   ·rw [cf om,aC,dF h0,RL]
    rw [aS,aS,iB bE om]
 grind
def RS(set:J Bool)(sp:J bU):Prop:=set.length=256/\∀c:Nat,c<256->set.getD c false=zC sp (c:Int)
theorem OU(a b:J bU)(c:Int):zC (a++b) c=(zC a c||zC b c):=by unfold zC;rw [List.any_append]
theorem QK{st:J Bool}{k:Nat}(h:k<st.length)(c:Nat):(st.set k true).getD c false=(st.getD c false||c==k):=by
 grind
theorem agb:∀k:Fin 8,∀b:Fin 256,mA 0 (CL.getD k.val oQ).fname (b.val:Int)=some (zC (CL.getD k.val oQ).rD (b.val:Int)):=by decide +kernel
theorem agc(F:Nat){c:lH}(hc:c∈CL){b:Nat}(hb:b<256):mA F c.fname (b:Int)=some (zC c.rD (b:Int)):=by
 obtain⟨k,hk,rfl⟩:=lB hc;have:=agb ⟨k,by rw [<-R9];exact hk⟩ ⟨b,hb⟩;rw [gd hk] at this;exact this
def YV(run:J Int)(c:lH):Bool:=run==dn c.fname
theorem abm(n:Bs)(h:isName n=true):∃c∈CL,CL.find? (YV (dn n))=some c/\c.fname=n:=by
 unfold isName at h;simp at h;rcases h with rfl|rfl|rfl|rfl|rfl|rfl|rfl|rfl
 ·exact⟨CL.getD 0 oQ,by decide,by decide,by decide⟩
 ·exact⟨CL.getD 1 oQ,by decide,by decide,by decide⟩
 ·exact⟨CL.getD 2 oQ,by decide,by decide,by decide⟩
 ·exact⟨CL.getD 3 oQ,by decide,by decide,by decide⟩
 ·exact⟨CL.getD 4 oQ,by decide,by decide,by decide⟩
 ·exact⟨CL.getD 5 oQ,by decide,by decide,by decide⟩
 ·exact⟨CL.getD 6 oQ,by decide,by decide,by decide⟩
 ·exact⟨CL.getD 7 oQ,by decide,by decide,by decide⟩
theorem Kq:∀c∈CL,isName c.fname=true/\c.fname.length=5/\∀b∈c.fname,97<=b.toNat/\b.toNat<=122:=by decide
theorem V1(x:J eG)(i:Nat):dn (bZ (jG x i))=jG x i:=by
 unfold dn bZ;rw [Bg]
 conv=>rhs;rw [<-Uc (jG x i)]
 refine ac6 fun v hv=>?_;obtain⟨e,he,rfl⟩:=yx.1 hv;have hl:=List.all_takeWhile (p:=BC) (l:=x.drop i);have:=oX.1 hl e he;unfold BC at this
 grind [UInt8.toNat_ofNat']
theorem ad2(x:J eG)(i:Nat):(∃c∈CL,CL.find? (fun c=>vV x i ((([91,58]:Bs)++c.fname)++([58,93]:Bs)))=some c/\xw x i=(c.fname,((i+9:Nat):Int),true)/\i+9<=x.length) \/
  (CL.find? (fun c=>vV x i ((([91,58]:Bs)++c.fname)++([58,93]:Bs)))=none/\(xw x i).2.2=false):=by
 have hp:∀c∈CL,vV x i ((([91,58]:Bs)++c.fname)++([58,93]:Bs))=((eu x i 91&&eu x (i+1) 58)&&((eu x (i+2+(jG x (i+2)).length) 58&&eu x (i+2+(jG x (i+2)).length+1) 93)&&YV (jG x (i+2)) c)):=fun c hc=>adZ x i c.fname (Kq c hc).2.1 (Kq c hc).2.2
 cases hA:(eu x i 91&&eu x (i+1) 58) with
 | false=>
  right;refine⟨?_,by unfold xw;rw [hA];rfl⟩
  simp_all
 | true=>
  cases hB:(eu x (i+2+(jG x (i+2)).length) 58&&eu x (i+2+(jG x (i+2)).length+1) 93) with
  | false=>
   right;refine⟨?_,by unfold xw;rw [hA,hB];rfl⟩
   simp_all
  | true=>
   cases hN:isName (bZ (jG x (i+2))) with
   | true=>
    left;obtain⟨c,h1,h2,h3⟩:=abm _ hN;rw [V1] at h2
    have hlen:(jG x (i+2)).length=5:=by
     grind [Kq,dn,bZ,List.length_map,V1]
    refine⟨c,h1,?_,?_,?_⟩
    ·have:∀(L:J lH),(∀c∈L,c∈CL)->L.find? (fun c=>vV x i ((([91,58]:Bs)++c.fname)++([58,93]:Bs)))=L.find? (YV (jG x (i+2))):=by
      intro L
      induction L with
      | nil=>intro _;rfl
      | cons a L ih=>
       grind
     simp_all
    ·unfold xw
     grind
    ·have h8:=af5 (cx _ _▸hB:_/\_).2
     omega
   | false=>
    right;refine⟨?_,by unfold xw;rw [hA,hB,hN];rfl⟩;rw [List.find?_eq_none];intro c hc;rw [hp c hc,hA,hB];simp
    cases hq:YV (jG x (i+2)) c with
    | false=>rfl
    | true=>
     unfold YV at hq
     simp_all [YJ,Kq]
theorem agd(F:Nat)(x:J eG)(i:Nat)(set:J Bool)(sp:J bU)(hF:x.length+1000<F)(hx:x.length<50000000)(hc:QI x)(hi:i<x.length)(hR:RS set sp):
  ∃(e:Nat)(set':J Bool)(sp':J bU),kW F x (i:Int) set=some ((e:Int),set')/\o7 F (x.map Hw) (i:Int)=some (sp',(e:Int))/\RS set' (sp++sp')/\i<e/\e<=x.length/\sp'.length<=4:=by
 obtain⟨hs,hR⟩:=hR;have hw1:aB ((i:Int)+1)=((i+1:Nat):Int):=cJ om;have zA:aB ((i:Int)+2)=((i+2:Nat):Int):=by grind [bG]
 have V0:aB ((i:Int)+3)=((i+3:Nat):Int):=by grind [bG]
 have hml:(x.map Hw).length=x.length:=wU _
 have hfb:∀k,k<x.length->((x.map Hw).getD k iL).fb=(x.getD k cA).fb:=fun k hk=>by
  rw [gd (l:=x.map Hw) (by rw [hml];exact hk),Ue,gd hk];rfl
 have apr:o7 F (x.map Hw) (i:Int)=(CL.find? (fun c=>vV x i ((([91,58]:Bs)++c.fname)++([58,93]:Bs)))).elim
   (cond (cond (cond (eu x (i+1) 45) (decide (i+2<x.length)) false) (!eu x (i+2) 93) false)
    (cond (decide ((x.getD i cA).fb<=(x.getD (i+2) cA).fb)) (some ([bU.mk (x.getD i cA).fb (x.getD (i+2) cA).fb],((i+3:Nat):Int))) (some ([],((i+3:Nat):Int))))
    (some ([bU.mk (x.getD i cA).fb (x.getD i cA).fb],((i+1:Nat):Int)))) fun c=>some (c.rD,((i+9:Nat):Int)):=by
  unfold o7;rw [ajY,aC]
  rw [qm CL (fun i=>(i:Int)) (fun c=>vV x i ((([91,58]:Bs)++c.fname)++([58,93]:Bs))) (fun _ c=>some (c.rD,((i+9:Nat):Int))) (cond (cond (cond (eu x (i+1) 45) (decide (i+2<x.length)) false) (!eu x (i+2) 93) false)
    (cond (decide ((x.getD i cA).fb<=(x.getD (i+2) cA).fb)) (some ([bU.mk (x.getD i cA).fb (x.getD (i+2) cA).fb],((i+3:Nat):Int))) (some ([],((i+3:Nat):Int))))
    (some ([bU.mk (x.getD i cA).fb (x.getD i cA).fb],((i+1:Nat):Int)))) (by rw [R9];omega) (by rfl) (fun k hk rc=>?_) (fun rc=>?_),MN]
  ·have hm:=adU _ (kz hk)
   have hk8:k<8:=by rw [<-R9];exact hk
   rw [cO om,cq hk,bK,gd hk,cJ om];generalize CL[k]=c at hm;have hl:((([91,58]:Bs)++c.fname)++([58,93]:Bs)).length=9:=by simp;omega
   grind [aB,bG,sx,akM,cq]
  ·rw [cf om,cq om,hw1,zA,V0,ja,je,aC,ja,je,aK,aC,aC,aK,aC,hml]
   rw [show decide (((i+2:Nat):Int)<(x.length:Int))=decide (i+2<x.length) from decide_eq_decide.2 om]
   cases h4:cond (cond (eu x (i+1) 45) (decide (i+2<x.length)) false) (!eu x (i+2) 93) false with
   | false=>simp_all
   | true=>
    have h5:i+2<x.length:=by
     simp_all
    rw [bq,bq,bR om om,bK,bK,hfb i hi,hfb (i+2) h5]
 rw [apr];have hb:=hc.at hi;rcases ad2 x i with⟨c,hcm,hfind,hcl,h9⟩|⟨hfind,hcl⟩
 ·rw [hfind]
  refine (fun (h:∃st:J Bool,st.length=256/\(∀b:Nat,b<256->st.getD b false=(set.getD b false||zC c.rD (b:Int)))/\kW F x (i:Int) set=some (((i+9:Nat):Int),st))=>?_) ?_
  ·obtain⟨st,h1,h2,h3⟩:=h
   exact⟨i+9,st,c.rD,h3,rfl,⟨h1,fun b hb=>by simp_all [OU]⟩,om,h9,(adU c hcm).2⟩
  ·unfold kW
   rw [(QJ F x i om om).resolve_right om,hcl,aC,bq]
   obtain⟨r,⟨st,h1,h2,rfl⟩,h3⟩:∃r:Int×J Bool,(∃st:J Bool,st.length=256/\(∀b:Nat,b<256->st.getD b false=(set.getD b false||zC c.rD (b:Int)))/\r=(((i+9:Nat):Int),st))/\(bV (σ:=Int×(J Bool)) (R:=Int×(J Bool)) (fun gG x2=>
     cond (decide (x2.1<256))
     ((mA F c.fname x2.1).bind fun x4=>
     cond x4
     (rq ((decide (0<=x2.1))&&((decide (x2.1<256))&&(decide (x2.1<(x2.2.length:Int))))) (gG (aB (x2.1+1),x2.2.set (Int.toNat x2.1) true)))
     (gG (aB (x2.1+1),x2.2)))
     (some (((i+9:Nat):Int),x2.2))) F (0,set))=some r:=by
    refine ir _ (fun s:Int×J Bool=>∃k:Nat,s.1=(k:Int)/\k<=256/\s.2.length=256/\∀b:Nat,s.2.getD b false=(set.getD b false||(decide (b<k)&&zC c.rD (b:Int)))) (fun s=>256-s.1.toNat) ?_ F _ ⟨0,rfl,om,hs,fun b=>by simp⟩ bE;rintro⟨ii,st⟩ ⟨k,h0,hk,hl,hst⟩ rc hrc;dsimp only at h0 hl hst⊢;subst h0;by_cases hk:k<256
    ·rw [cO om,agc F hcm hk,aC,cJ om]
     cases hin:zC c.rD (k:Int) with
     | true=>
      rw [bq,CJ om om om,bK];refine hrc _ ⟨k+1,rfl,om,by simpa using hl,fun b=>?_⟩ bE;dsimp only;rw [QK om,hst b]
      grind
     | false=>
      refine hrc _ ⟨k+1,rfl,om,hl,fun b=>?_⟩ bE
      grind
    grind
   simp_all
 ·rw [hfind]
  show ∃(e:Nat)(set':J Bool)(sp':J bU),_/\(cond _ _ _)=_/\_;unfold kW;rw [(QJ F x i om om).resolve_right om,aC,hcl,aS,hw1,zA,V0,gK,aC,gK,aK,aC]
  have e1:cond (eu x (i+1) 45) (decide (((i+2:Nat):Int)<(x.length:Int)),set) (false,set)=((cond (eu x (i+1) 45) (decide (i+2<x.length)) false),set):=by
   grind
  rw [e1];dsimp only;rw [aC,aK,aC];have e2:∀a b:Bool,cond a (b,set) (false,set)=(cond a b false,set):=by simp_all
  rw [e2];dsimp only
  cases h4:cond (cond (eu x (i+1) 45) (decide (i+2<x.length)) false) (!eu x (i+2) 93) false with
  | false=>
   rw [aS,aS,cq hi,bK,CJ om om om];refine⟨i+1,_,_,rfl,rfl,⟨by simpa using hs,fun b o5=>?_⟩,om,om,si⟩;rw [QK om,hR b o5,OU];congr 1;unfold zC
   grind
  | true=>
   have h5:i+2<x.length:=by
    simp_all
   have o5:=hc.at h5;rw [bq,bq,cq hi,bK,bK,bG (x:=(x.getD i cA).fb) om,bG (x:=(x.getD (i+2) cA).fb) om];generalize (x.getD i cA).fb=lo at hb;generalize (x.getD (i+2) cA).fb=hi2 at o5
   obtain⟨r,⟨st,h1,h2,rfl⟩,h3⟩:∃r:Int×J Bool,(∃st:J Bool,st.length=256/\(∀b:Nat,b<256->st.getD b false=(set.getD b false||(decide (lo<=(b:Int))&&decide ((b:Int)<=hi2))))/\r=(((i+3:Nat):Int),st))/\(bV (σ:=Int×(J Bool)) (R:=Int×(J Bool)) (fun QL x9=>
     rq ((decide (0<=((i+2:Nat):Int)))&&(decide (((i+2:Nat):Int)<(x.length:Int)))) (cond (decide (x9.1<=hi2))
     (rq ((decide (0<=x9.1))&&((decide (x9.1<256))&&(decide (x9.1<(x9.2.length:Int))))) (QL (aB (x9.1+1),x9.2.set (Int.toNat x9.1) true)))
     (some (((i+3:Nat):Int),x9.2)))) F (lo,set))=some r:=by
    refine ir _ (fun s:Int×J Bool=>lo<=s.1/\s.1<=256/\s.2.length=256/\(∀v:Int,lo<=v->v<s.1->v<=hi2)/\∀b:Nat,s.2.getD b false=(set.getD b false||(decide (lo<=(b:Int))&&decide ((b:Int)<s.1)))) (fun s=>256-s.1.toNat) ?_ F _ ⟨XW _,om,hs,fun v h1 h2=>om,fun b=>by
     grind⟩ bE
    rintro⟨ii,st⟩ ⟨h6,h7,hl,hv,hst⟩ rc hrc;dsimp only at h6 h7 hl hv hst⊢;rw [cq h5];by_cases hle:ii<=hi2
    ·rw [cO hle,CJ om om om,bG om]
     refine hrc _ ⟨by dsimp only;omega,by dsimp only;omega,by simpa using hl,fun v h1 h2=>by dsimp only at h2;omega,fun b=>?_⟩ (by dsimp only;omega);dsimp only;rw [QK om,hst b,Bool.or_assoc]
     grind
    grind
   by_cases hlh:lo<=hi2
   ·rw [cO hlh]
    refine⟨i+3,st,[bU.mk lo hi2],h3,rfl,⟨h1,fun b YW=>?_⟩,om,om,si⟩;rw [h2 b YW,hR b YW,OU];congr 1;unfold zC;simp
   ·rw [cf hlh]
    refine⟨i+3,st,[],h3,rfl,⟨h1,fun b YW=>?_⟩,om,om,si⟩;rw [h2 b YW,hR b YW,OU];congr 1;unfold zC
    grind
theorem M1{σ τ R:Type}{b1:(σ->O R)->σ->O R}{b2:(τ->O R)->τ->O R}(P:σ->τ->Prop)(m:σ->Nat)
  (hs:∀s t,P s t->(∃s' t',P s' t'/\m s'<m s/\(∀rc,b1 rc s=rc s')/\∀rc,b2 rc t=rc t')\/∃z,(∀rc,b1 rc s=some z)/\∀rc,b2 rc t=some z) :
  ∀(F1 F2:Nat)(s:σ)(t:τ),P s t->m s<F1->m s<F2->∃z,bV b1 F1 s=some z/\bV b2 F2 t=some z
 | 0,_,s,t,_,h,_=>by omega
 | _+1,0,s,t,_,_,h=>by omega
 | F1+1,F2+1,s,t,hP,h1,h2=>by
  show ∃z,b1 (bV b1 F1) s=some z/\b2 (bV b2 F2) t=some z;rcases hs s t hP with⟨s',t',g1,g2,g3,g4⟩|⟨z,g1,g2⟩
  ·rw [g3,g4];exact M1 P m hs F1 F2 s' t' g1 om om
  simp_all
theorem YX{P Q:Nat->Bool}:∀k,(∀c,c<k->P c=Q c)->DD P k=DD Q k
 | 0,_=>rfl
 | k+1,h=>by
  unfold DD;rw [YX k fun c hc=>h c om,h k om]
theorem ad3(F:Nat)(x:J eG)(i:Nat)(hF:4*x.length+1000<F)(hx:x.length<12000000)(hc:QI x)(hi:i<x.length):∃z,nq F x (i:Int)=some z/\qd F (x.map Hw) (i:Int)=some z:=by
 have hml:(x.map Hw).length=x.length:=wU _;have hw1:aB ((i:Int)+1)=((i+1:Nat):Int):=cJ om;unfold nq qd;rw [hw1,gK,aC,gK,aC,aK,aC,cJ om,aK,aC,ja,je,aC,ja,je,aC,aK,aC,aK,aC];generalize hneg:cond (eu x (i+1) 33) true (eu x (i+1) 94)=neg
 obtain⟨s0,hs0,hs1,hs2,hy⟩:∃s0:Nat,cond neg (((i+1+1:Nat):Int)) ((i+1:Nat):Int)=(s0:Int)/\i<s0/\s0<=i+2/\cond neg (((i+1+1:Nat):Int),(aG.mk 4 [] false []).fKind,(aG.mk 4 [] false []).fText,true,(aG.mk 4 [] false []).cE) (((i+1:Nat):Int),(aG.mk 4 [] false []).fKind,(aG.mk 4 [] false []).fText,(aG.mk 4 [] false []).BD,(aG.mk 4 [] false []).cE)=((s0:Int),4,[],neg,[]):=by
  cases neg
  ·grind
  ·exact⟨i+2,rfl,om,om,rfl⟩
 rw [hs0,hy]
 refine M1 (fun (s:Int×Bool×J Bool)(t:Int×J bU×Bool)=>∃(k:Nat)(fi:Bool)(set:J Bool)(sp:J bU),s=((k:Int),fi,set)/\t=((k:Int),sp,fi)/\i<k/\k<=x.length+2/\RS set sp/\sp.length<=4*k) (fun s=>x.length+2-s.1.toNat) ?_ F F _ _ ⟨s0,true,_,_,rfl,rfl,hs1,om,⟨si,fun c h=>by
  rw [XC,List.getElem?_replicate];simp [h,zC]⟩,si⟩ bE bE
 rintro _ _ ⟨k,fi,set,sp,rfl,rfl,hk,hk2,hR,hl⟩;dsimp only;by_cases DR:k<x.length
 ·have e2:cond (eu x k 93) (!fi,set) (false,set)=((eu x k 93 && !fi),set):=by cases eu x k 93<;>rfl
  cases h4:(eu x k 93 && !fi) with
  | true=>
   right
   have h5:cond fi true (!eu x k 93)=false:=by
    simp_all
   refine⟨(aG.mk 4 [] neg (DD (fun c=>set.getD c false) 256),((k+1:Nat):Int),true),fun rc=>?_,fun rc=>?_⟩
   ·rw [cO om,gK,aC,aK,aC,e2,h4]
    rw [bq,cD (by rw [hR.1];rfl),ah5 F set om hR.1,aC,cJ om]
   ·rw [ja,je,aC,aK,hml,cO (show (k:Int)<(x.length:Int) by omega),aC,h5,aS,cf (show ¬ (x.length:Int)<=(k:Int) by omega),FQ F sp om om,aC,cJ om]
    rw [YX 256 fun c hc=>(hR.2 c hc).symm]
  | false=>
   left
   have h5:cond fi true (!eu x k 93)=true:=by
    grind
   obtain⟨e,set',sp',g1,g2,g3,g4,g5,g6⟩:=agd F x k set sp om om hc DR hR;refine⟨_,_,⟨e,false,set',sp++sp',rfl,rfl,om,om,g3,by grind⟩,bE,fun rc=>?_,fun rc=>?_⟩
   ·simp_all [cO,gK,aC,aK,aS]
   ·rw [ja,je,Option.bind_some,aK,hml,cO (show (k:Int)<(x.length:Int) by omega),Option.bind_some,h5,cond_true,g2,Option.bind_some,iB (by dsimp only;omega) om]
 ·right
  simp_all [cf,ja,je,aC,aK,aS,cO]
theorem ad4(F:Nat)(l:J aH)(hF:l.length<F)(qS:4*cz l+1000<F)(h1:l.length<1000000000)(h2:cz l<=10000000):∃p,iK F l=some p/\jL F l=some p:=by
 unfold iK jL;rw [Ko F l hF om h1 om,PV F l hF om h1 om,aC,aC,aoc];have hx:(l.flatMap rC).length<=cz l:=Jq _ UE _;have hc:=YM l;generalize (l.flatMap rC)=x at hx hc;have hml:(x.map Hw).length=x.length:=wU _;refine M1 (fun (s t:J aG×Int)=>s=t/\∃k:Nat,s.2=(k:Int)/\k<=x.length/\s.1.length<=k) (fun s=>x.length-s.2.toNat) ?_ F F _ _ ⟨rfl,0,rfl,om,si⟩ bE bE;rintro⟨acc,ii⟩ _ ⟨rfl,k,h0,hk,ha⟩;dsimp only at h0 ha⊢;subst h0
 have hex:∀a b:Int,a≠b->eu x k a=true->eu x k b=false:=by
  grind [yS]
 have hfb:k<x.length->((x.map Hw).getD k iL).fb=(x.getD k cA).fb:=fun hk=>by
  rw [gd (l:=x.map Hw) (by rw [hml];exact hk),Ue,gd hk];rfl
 by_cases DR:k<x.length
 ·left
  have hc1:∀(it:aG),(decide (acc.length+([it]:J aG).length<=9223372036854775807)&&decide ((acc.length+([it]:J aG).length)*56<=140737488355328))=true:=fun it=>nJ bE om
  cases PX:eu x k 91 with
  | true=>
   have PY:=hex 91 42 de PX;have h63:=hex 91 63 de PX;obtain⟨z,z1,z2⟩:=ad3 F x k om om hc DR;obtain⟨r,r1,r2⟩:=PW F x k om om hc DR;have hzr:z=r:=uK (z1.symm.trans r2);subst hzr
   cases hz:z.2.2 with
   | true=>
    obtain⟨-,e,g2,g3,g4⟩:=r1 hz;refine⟨(acc++[z.1],(e:Int)),(acc++[z.1],(e:Int)),⟨rfl,e,rfl,g4,bE⟩,bE,fun rc=>?_,fun rc=>?_⟩
    ·rw [cO om,gK,aC,PX,bq,z1,aC,hz,bq,cD (hc1 _),g2]
     cases h:rc (acc++[z.1],(e:Int))<;>rfl
    ·rw [hml,cO om,ja,je,aC,PY,aS,ja,je,aC,h63,aS,ja,je,aC,PX,bq,z2,aC,hz,bq,cD (hc1 _),g2]
     cases h:rc (acc++[z.1],(e:Int))<;>rfl
   | false=>
    refine⟨(acc++[aG.mk 1 (bZ [(x.getD k cA).fb]) false []],((k+1:Nat):Int)),_,⟨rfl,k+1,rfl,om,bE⟩,bE,fun rc=>?_,fun rc=>?_⟩
    ·rw [cO om,gK,aC,PX,bq,z1,aC,hz,aS]
     show ((fy F x (k:Int) 42).bind _)=_;rw [gK,aC,PY,aS,gK,aC,h63,aS,cq DR,cD (hc1 _),cJ om,bK]
    ·rw [hml,cO om,ja,je,aC,PY,aS,ja,je,aC,h63,aS,ja,je,aC,PX,bq,z2,aC,hz,aS]
     show rq _ (rq _ (rc _))=_
     grind [cq,cD,cJ,Int.toNat_natCast]
  | false=>
   cases PY:eu x k 42 with
   | true=>
    refine⟨(acc++[aG.mk 3 [] false []],((k+1:Nat):Int)),_,⟨rfl,k+1,rfl,om,bE⟩,bE,fun rc=>?_,fun rc=>?_⟩
    ·rw [cO om,gK,aC,PX,aS]
     show ((fy F x (k:Int) 42).bind _)=_;rw [gK,aC,PY,bq,cD (hc1 _),cJ om]
    ·rw [hml,cO om,ja,je,aC,PY,bq,cD (hc1 _),cJ om]
   | false=>
    cases h63:eu x k 63 with
    | true=>
     refine⟨(acc++[aG.mk 2 [] false []],((k+1:Nat):Int)),_,⟨rfl,k+1,rfl,om,bE⟩,bE,fun rc=>?_,fun rc=>?_⟩
     ·rw [cO om,gK,aC,PX,aS]
      show ((fy F x (k:Int) 42).bind _)=_;rw [gK,aC,PY,aS,gK,aC,h63,bq,cD (hc1 _),cJ om]
     ·rw [hml,cO om,ja,je,aC,PY,aS,ja,je,aC,h63,bq,cD (hc1 _),cJ om]
    | false=>
     refine⟨(acc++[aG.mk 1 (bZ [(x.getD k cA).fb]) false []],((k+1:Nat):Int)),_,⟨rfl,k+1,rfl,om,bE⟩,bE,fun rc=>?_,fun rc=>?_⟩
     ·rw [cO om,gK,aC,PX,aS]
      show ((fy F x (k:Int) 42).bind _)=_;rw [gK,aC,PY,aS,gK,aC,h63,aS,cq DR,cD (hc1 _),cJ om,bK]
     ·rw [hml,cO om,ja,je,aC,PY,aS,ja,je,aC,h63,aS,ja,je,aC,PX,aS]
      show rq _ (rq _ (rc _))=_
      grind [cq,cD,cJ,Int.toNat_natCast]
 simp_all [cf]
theorem Kr{σ τ R S:Type}{b1:(σ->O R)->σ->O R}{b2:(τ->O S)->τ->O S}(Q:O R->O S->Prop)(P:σ->τ->Prop)(m:σ->Nat)
  (hs:∀s t,P s t->∀rc1 bt,(∀s' t',P s' t'->m s'<m s->Q (rc1 s') (bt t'))->Q (b1 rc1 s) (b2 bt t)) :
  ∀(F1 F2:Nat)(s:σ)(t:τ),P s t->m s<F1->m s<F2->Q (bV b1 F1 s) (bV b2 F2 t)
 | 0,_,s,t,_,h,_=>by omega
 | _+1,0,s,t,_,_,h=>by omega
 | F1+1,F2+1,s,t,hP,h1,h2=>hs s t hP (bV b1 F1) (bV b2 F2) fun s' t' g1 g2=>Kr Q P m hs F1 F2 s' t' g1 om om
theorem Hx(F:Nat)(p:J aG)(hF:p.length+300<F)(hp:p.length<50000000)(hit:∀it∈p,mB it):lV F p=kB F p:=by
 unfold lV kB;refine Kr (fun a b=>a=b) (fun s t=>s=t/\∃k:Nat,s=(k:Int)/\k<=p.length) (fun s=>p.length-s.toNat) ?_ F F _ _ ⟨rfl,0,rfl,om⟩ bE bE;rintro _ _ ⟨rfl,k,rfl,hk⟩ rc1 bt hrc;by_cases hk:k<p.length
 ·have hI:=hit _ (kz hk)
  rw [cO (show (k:Int)<(p.length:Int) by omega),cO (show (k:Int)<(p.length:Int) by omega),cq hk,cq hk,bK,gd hk];generalize p[k]=it at hI;have hl:=hI.2.2;obtain⟨c,hc⟩:=BE F it.cE om om;have hnext:=hrc ((k+1:Nat):Int) ((k+1:Nat):Int) ⟨rfl,k+1,rfl,om⟩ bE;simp only [aK,aC,hc];rw [cJ om]
  cases (cond (cond (decide (it.fKind<1)) true (decide (4<it.fKind))) true ((it.fText.length:Int) != cond (it.fKind==1) 1 0)) with
  | true=>rfl
  | false=>
   rw [aS,aS]
   cases (cond (it.fKind != 4) (cond it.BD true (decide (0<(it.cE.length:Int)))) false) with
   | true=>rfl
   | false=>
    rw [aS,aS]
    have hin:∀A:O Bool,bV (σ:=Int) (R:=Bool) (fun PZ x7=>
       cond (decide (x7<(it.cE.length:Int)))
       (rq ((decide (0<=x7))&&(decide (x7<(it.cE.length:Int)))) ((cond (decide ((it.cE.getD (Int.toNat x7) gr).jP<(it.cE.getD (Int.toNat x7) gr).pZ))
       (some true)
       (cond (decide (0<x7))
       (rq ((decide (0<=aB (x7-1)))&&(decide (aB (x7-1)<(it.cE.length:Int)))) (some (decide (aB ((it.cE.getD (Int.toNat x7) gr).pZ)<=aB ((aB ((it.cE.getD (Int.toNat (aB (x7-1))) gr).jP))+1)))))
       (some false)):O Bool).bind fun x9=>
       cond x9
       (some false)
       (PZ (aB (x7+1)))))
       A) F 0=cond c A (some false):=by
     intro A;have Jt:=hc;unfold nr at Jt
     have hsw:∀(a b:O Bool),b=some c->(∃c',b=some c'/\a=cond c' A (some false))->a=cond c A (some false):=by
      rintro a b h1 ⟨c',h2,h3⟩;rw [h1] at h2;cases h2;exact h3
     refine hsw _ _ Jt (Kr (fun a b=>∃c',b=some c'/\a=cond c' A (some false)) (fun (s t:Int)=>s=t/\∃j:Nat,s=(j:Int)/\j<=it.cE.length) (fun s=>it.cE.length-s.toNat) ?_ F F 0 0 ⟨rfl,0,rfl,om⟩ bE bE);rintro s t hst rcA rcB hAB
     ·obtain⟨rfl,j,rfl,hj⟩:=hst
      by_cases hj:j<it.cE.length
      ·have e:∃b,(cond (decide ((it.cE.getD (Int.toNat (j:Int)) gr).jP<(it.cE.getD (Int.toNat (j:Int)) gr).pZ)) (some true) (cond (decide (0<(j:Int))) (rq ((decide (0<=aB ((j:Int)-1)))&&(decide (aB ((j:Int)-1)<(it.cE.length:Int)))) (some (decide (aB ((it.cE.getD (Int.toNat (j:Int)) gr).pZ)<=aB ((aB ((it.cE.getD (Int.toNat (aB ((j:Int)-1))) gr).jP))+1))))) (some false)):O Bool)=some b:=by
        by_cases h0:0<j
        ·rw [w5 om h0,cO (show (0:Int)<(j:Int) by omega),bR om om,aK];exact⟨_,rfl⟩
        ·rw [cf (show ¬ (0:Int)<(j:Int) by omega),aK];exact⟨_,rfl⟩
       obtain⟨b,hb⟩:=e;rw [cO (show (j:Int)<(it.cE.length:Int) by omega),cO (show (j:Int)<(it.cE.length:Int) by omega),cq hj,cq hj];simp only [cq hj];rw [hb,aC,aC,cJ om]
       cases b with
       | true=>exact⟨false,rfl,rfl⟩
       | false=>exact hAB _ _ ⟨rfl,j+1,rfl,om⟩ bE
      ·rw [cf (show ¬ (j:Int)<(it.cE.length:Int) by omega),cf (show ¬ (j:Int)<(it.cE.length:Int) by omega)]
       exact⟨true,rfl,rfl⟩
    rw [hin]
    cases c with
    | true=>exact hnext
    | false=>rfl
 ·rw [cf (show ¬ (k:Int)<(p.length:Int) by omega),cf (show ¬ (k:Int)<(p.length:Int) by omega)]
def iC(n:Nat)(f:Nat->Bool):J Bool:=(List.range n).map f
theorem BG(n:Nat)(f:Nat->Bool):(iC n f).length=n:=by unfold iC;simp
theorem vW{n i:Nat}(f:Nat->Bool)(h:i<n):(iC n f).getD i false=f i:=by
 unfold iC
 simp_all
theorem kM{n:Nat}{f g:Nat->Bool}(h:∀i,i<n->f i=g i):iC n f=iC n g:=by
 unfold iC
 simp_all
theorem FR(n i:Nat)(f:Nat->Bool)(b:Bool):(iC n f).set i b=iC n (fun j=>cond (j==i) b (f j)):=by
 unfold iC;refine y9 si fun j h1 h2=>?_
 grind
theorem QM(n:Nat):List.replicate n false=iC n (fun _=>false):=by
 refine y9 (by simp [iC]) fun j h1 h2=>?_;simp [iC]
section
variable (p : J aG) (s : Bs)
def Sa(i:Nat):aG:=p.getD i fU
def lW(i:Nat):Bool:=(Sa p i).fKind==3
def QN(it:aG)(b:Int):Bool:=
 cond (it.fKind==1) (((it.fText.getD 0 0).toNat:Int)==b) (cond (it.fKind==4) (!((it.cE.any fun x=>decide (x.pZ<=b)&&decide (b<=x.jP))==it.BD)) true)
def M3(i k:Nat):Bool:=QN (Sa p i) ((s.getD k 0).toNat:Int)
def upE(f:Nat->Bool):Nat->Bool
 | 0=>f 0
 | k+1=>f (k+1)||upE f k
def prE(f g:Nat->Bool):Nat->Bool
 | 0=>false
 | k+1=>f k&&g k
def EE:Nat->Nat->Bool
 | 0,k=>k==0
 | i+1,k=>cond (lW p i) (upE (EE i) k) (prE (EE i) (M3 p s i) k)
def EP(i k:Nat):Bool:=EE p s i k||(lW p i&&EE p s (i+1) k)
theorem acs:lW p p.length=false:=by
 unfold lW Sa;rw [XC,Qt (eo _)];rfl
theorem OV{i:Nat}(h:lW p i=true)(k:Nat):EE p s (i+1) (k+1)=(EE p s i (k+1)||EE p s (i+1) k):=by
 rw [EE,EE,h];rfl
theorem Ks{i:Nat}(h:lW p i=true):EE p s (i+1) 0=EE p s i 0:=by rw [EE,h];rfl
theorem UG{i:Nat}(h:lW p i=false)(k:Nat):EE p s (i+1) (k+1)=(EE p s i k&&M3 p s i k):=by rw [EE,h];rfl
theorem YY{i:Nat}(h:lW p i=false):EE p s (i+1) 0=false:=by rw [EE,h];rfl
theorem ad5{i:Nat}(h:lW p i=true):∀k,EE p s i k=true->EE p s (i+1) k=true
 | 0,e=>by simp_all [Ks]
 | k+1,e=>by simp_all [OV]
def xy(f:Nat->Bool):Nat->Bool
 | 0=>f 0
 | i+1=>f (i+1)||(xy f i&&lW p i)
def u9(f:Nat->Bool)(b k j:Nat):Bool:=(decide (j<b)&&(f j&&lW p j))||(decide (0<j)&&(decide (j<=b)&&(f (j-1)&&(!lW p (j-1)&&M3 p s (j-1) k))))
theorem ah6:∀i,xy p (fun j=>j==0) i=EP p s i 0:=by
 have hE:∀i,EP p s i 0=EE p s i 0:=by
  unfold EP
  simp_all [Ks]
 intro i
 induction i with
 | zero=>rfl
 | succ i ih=>
  rw [xy]
  grind [YY,Ks]
theorem acu(k:Nat):∀i,i<=p.length->xy p (u9 p s (fun j=>EP p s j k) p.length k) i=EP p s i (k+1):=by
 have hpre:∀i,i<=p.length->u9 p s (fun j=>EP p s j k) p.length k i=((lW p i&&EE p s (i+1) k)||(decide (0<i)&&(!lW p (i-1)&&EE p s i (k+1)))):=by
  intro i hi;unfold u9;congr 1
  ·by_cases h:i<p.length
   ·unfold EP
    grind [ad5]
   grind [acs,decide_eq_false]
  ·cases i with
   | zero=>simp
   | succ i=>
    unfold EP
    grind [UG]
 intro i
 induction i with
 | zero=>
  intro hi;rw [xy,hpre 0 hi];unfold EP;rw [show EE p s 0 (k+1)=false from rfl]
  cases hs:lW p 0 with
  | false=>simp
  | true=>rw [OV p s hs,show EE p s 0 (k+1)=false from rfl];simp
 | succ i ih=>
  intro hi;rw [xy,hpre (i+1) hi,ih om]
  have e2:EP p s (i+1) (k+1)=(EE p s (i+1) (k+1)||(lW p (i+1)&&EE p s (i+2) k)):=by
   unfold EP
   grind [OV]
  rw [e2];unfold EP
  grind [ad5]
theorem YZ(f:Nat->Bool)(n:Nat)(h:∀i,i<=n->f i=false):∀i,i<=n->xy p f i=false
 | 0,hi=>h 0 hi
 | i+1,hi=>by rw [xy,h _ hi,YZ f n h i om];rfl
theorem UH(k:Nat)(h:∀i,i<=p.length->EP p s i k=false):∀d i,i<=p.length->EP p s i (k+d)=false
 | 0,i,hi=>h i hi
 | d+1,i,hi=>by
  rw [<-Uj,<-acu p s (k+d) i hi];refine YZ p _ p.length (fun j hj=>?_) i hi;unfold u9;dsimp only;rw [UH k h d j hj];by_cases h0:0<j
  ·rw [UH k h d (j-1) om];simp
  ·simp [h0]
theorem age(k:Nat):EP p s p.length k=EE p s p.length k:=by unfold EP;rw [acs];simp
end
def Kt(b:Int)(x:bU):Bool:=decide (x.pZ<=b)&&decide (b<=x.jP)
theorem akO(F:Nat)(it:aG)(b:Int)(hF:300<F)(h:mB it):va F it b=some (QN it b):=by
 unfold va QN
 cases hk:(it.fKind==1) with
 | true=>
  have:=h.1 (eq_of_beq hk)
  rw [bq,bq,sx om]
 | false=>
  cases (it.fKind==4) with
  | false=>rfl
  | true=>
   have hl:=h.2.2;refine dw (fun s=>∃k:Nat,s=((it.cE.take k).any (Kt b),(k:Int))/\k<=it.cE.length) (fun s=>it.cE.length-s.2.toNat) ?_ F _ ⟨0,rfl,om⟩ bE;rintro s ⟨k,rfl,hk2⟩;by_cases hk2:k<it.cE.length
   ·left
    refine⟨_,⟨k+1,rfl,om⟩,bE,fun rc=>?_⟩;rw [cq hk2,bK,aK,aK,cJ om,qB hk2,List.any_append];unfold Kt
    simp_all
   ·right
    obtain rfl:k=it.cE.length:=om;intro rc;rw [cf om,Bl];rfl
theorem ah7(F:Nat)(it:aG)(b:Int)(hF:300<F)(h:mB it):Cg F it b=some (QN it b):=by
 unfold Cg QN
 cases hk:(it.fKind==1) with
 | true=>
  have:=h.1 (eq_of_beq hk)
  rw [bq,bq,sx om]
 | false=>
  cases (it.fKind==4) with
  | false=>rfl
  | true=>
   have hl:=h.2.2
   have e:uZ F it.cE b=some (it.cE.any (Kt b)):=by
    refine dw (fun s=>∃k:Nat,s=(k:Int)/\k<=it.cE.length/\(it.cE.take k).any (Kt b)=false) (fun s=>it.cE.length-s.toNat) ?_ F _ ⟨0,rfl,om,rfl⟩ bE;rintro s ⟨k,rfl,hk2,hn⟩;by_cases hk2:k<it.cE.length
    ·have hin:(cond (decide (it.cE[k].pZ<=b)) (rq ((decide (0<=(k:Int)))&&(decide ((k:Int)<(it.cE.length:Int)))) (some (decide (b<=it.cE[k].jP)))) (some false):O Bool)=some (Kt b it.cE[k]):=by
      rw [cq hk2];unfold Kt
      grind
     have aoe:(it.cE.take (k+1)).any (Kt b)=Kt b it.cE[k]:=by
      grind [List.take_succ_eq_append_getElem]
     cases hb:Kt b it.cE[k] with
     | true=>
      right;intro rc;have:=Ui.2 ⟨_,kz hk2,hb⟩;rw [cO om,cq hk2,bK,gd hk2,hin,hb,this]
      rfl
     | false=>
      left;refine⟨_,⟨k+1,rfl,om,by rw [aoe,hb]⟩,bE,fun rc=>?_⟩;rw [cO om,cq hk2,bK,gd hk2,hin,hb,cJ om];rfl
    grind
   rw [e];rfl
theorem V2(F:Nat)(p:J aG)(f:Nat->Bool)(hF:p.length<F)(hp:p.length<50000000):rE F p (iC (p.length+1) f)=some (iC (p.length+1) (xy p f)):=by
 refine dw (fun s=>∃k:Nat,s=((k:Int),iC (p.length+1) (fun j=>cond (decide (j<=k)) (xy p f j) (f j)))/\k<=p.length) (fun s=>p.length-s.1.toNat) ?_ F _ ⟨0,congrArg (Prod.mk (0:Int)) (kM fun i hi=>by
   cases i with
   | zero=>rfl
   | succ i=>simp_all),om⟩ bE
 rintro s ⟨k,rfl,hk⟩;have hlen:∀g:Nat->Bool,(iC (p.length+1) g).length=p.length+1:=fun g=>BG _ g;by_cases hk:k<p.length
 ·left
  refine⟨_,⟨k+1,rfl,om⟩,bE,fun rc=>?_⟩;rw [cO om,cq hk,bR om (by rw [hlen];omega),bK,vW _ (show k<p.length+1 by omega),aK,cJ om,dT (show k<=k by omega),bq];have e:∀(A B:Bool)(L:J Bool),cond A (B,L) (false,L)=((A&&B),L):=by simp_all
  rw [e];show cond (xy p f k&&lW p k) _ _=_
  have e2:iC (p.length+1) (fun j=>cond (decide (j<=k+1)) (xy p f j) (f j))=cond (xy p f k&&lW p k) ((iC (p.length+1) (fun j=>cond (decide (j<=k)) (xy p f j) (f j))).set (k+1) true) (iC (p.length+1) (fun j=>cond (decide (j<=k)) (xy p f j) (f j))):=by
   cases hc:(xy p f k&&lW p k) with
   | true=>
    rw [FR];refine kM fun j hj=>?_;by_cases h1:j=k+1
    ·subst h1
     rw [FD,dT om,xy,hc];simp
    grind
   | false=>
    refine kM fun j hj=>?_;by_cases h1:j=k+1
    ·subst h1
     rw [dT (show k+1<=k+1 by omega),dF (show ¬ k+1<=k by omega),xy,hc];simp
    grind
  rw [e2]
  cases hc:(xy p f k&&lW p k) with
  | true=>rw [bq,bq,bR om (by rw [hlen];omega),bK]
  | false=>rfl
 ·right
  intro rc;rw [cf om];rw [kM (g:=xy p f) fun j hj=>by grind]
theorem agf(p:J aG)(s:Bs)(f:Nat->Bool)(k j:Nat):u9 p s f 0 k j=false:=by
 unfold u9
 grind
theorem agh(p:J aG)(s:Bs)(f:Nat->Bool)(b k j:Nat):
  u9 p s f (b+1) k j=cond (f b&&lW p b) (cond (j==b) true (u9 p s f b k j)) (cond (f b&&M3 p s b k) (cond (j==b+1) true (u9 p s f b k j)) (u9 p s f b k j)):=by
 unfold u9
 grind
theorem ad6(F:Nat)(p:J aG)(s:Bs)(f:Nat->Bool)(k:Nat)(hF:p.length+300<F)(hp:p.length<50000000)(hit:∀it∈p,mB it):
  qV F p (iC (p.length+1) f) ((s.getD k 0).toNat:Int)=some (iC (p.length+1) (xy p (u9 p s f p.length k))):=by
 unfold qV;have hw:aB ((p.length:Int)+1)=((p.length+1:Nat):Int):=cJ om;have hlen:∀g:Nat->Bool,(iC (p.length+1) g).length=p.length+1:=fun g=>BG _ g;rw [hw,cD (by rw [dT om,dT om,dT om,dT om,dT om];rfl),QM];refine dw (fun x=>∃b:Nat,x=((b:Int),iC (p.length+1) (u9 p s f b k))/\b<=p.length) (fun x=>p.length-x.1.toNat) ?_ F _ ⟨0,by grind [kM,agf],om⟩ bE;rintro x ⟨b,rfl,hb⟩;by_cases hb:b<p.length
 ·left
  refine⟨_,⟨b+1,rfl,om⟩,bE,fun rc=>?_⟩;have hki:(Sa p b)=p[b]:=by unfold Sa;rw [gd hb]
  have hst:(p[b].fKind==3)=lW p b:=by unfold lW;rw [hki]
  have hfi:QN p[b] ((s.getD k 0).toNat:Int)=M3 p s b k:=by unfold M3;rw [hki]
  rw [cO om,cq hb,bR om (by rw [hlen];omega),bK,gd hb,vW _ (show b<p.length+1 by omega),cJ om,hst,akO F p[b] _ om (hit _ (kz hb)),hfi]
  have e:iC (p.length+1) (u9 p s f (b+1) k)=cond (f b&&lW p b) ((iC (p.length+1) (u9 p s f b k)).set b true) (cond (f b&&M3 p s b k) ((iC (p.length+1) (u9 p s f b k)).set (b+1) true) (iC (p.length+1) (u9 p s f b k))):=by
   grind [FR,kM,agh]
  rw [e]
  cases hf:f b with
  | false=>rfl
  | true=>
   cases hs:lW p b with
   | true=>
    grind [bR]
   | false=>
    cases hx:M3 p s b k with
    | true=>
     grind [bR,Int.toNat_natCast]
    | false=>rfl
 ·right
  obtain rfl:b=p.length:=om;intro rc;rw [cf om,V2 F p _ om hp,aC]
theorem abn(F:Nat)(st:J Bool)(hF:st.length<F)(hs:st.length<100000000):∃b,(b=false->∀i,i<st.length->st.getD i false=false)/\qW F st true=some b:=by
 unfold qW
 obtain⟨r,hr,h⟩:∃r:Int,(r<0->∀i,i<st.length->st.getD i false=false)/\BH F st true=some r:=by
  refine Er _ (fun s=>∃k:Nat,s=(k:Int)/\k<=st.length/\∀i,i<k->st.getD i false=false) (fun s=>st.length-s.toNat) ?_ F _ ⟨0,rfl,om,fun i hi=>om⟩ bE;rintro ii ⟨k,rfl,hk,hn⟩;by_cases hk:k<st.length
  ·cases hv:st.getD k false with
   | true=>
    right;refine⟨(k:Int),fun h=>om,fun rc=>?_⟩;rw [cO om,cq hk,bK,hv]
    rfl
   | false=>
    left;refine⟨_,⟨k+1,rfl,om,fun i hi=>?_⟩,bE,fun rc=>?_⟩
    ·grind
    ·rw [cO om,cq hk,bK,hv,cJ om]
     rfl
  ·obtain rfl:k=st.length:=om
   simp_all
 simp_all
theorem acv(F:Nat)(p:J aG)(s:Bs)(hF:p.length+300<F)(qS:s.length+1<F)(hs:s.length<50000000)(hp:p.length<50000000)(hit:∀it∈p,mB it):
  zD F p s=some (iC (s.length+1) (EE p s p.length)):=by
 unfold zD;have hw:aB ((s.length:Int)+1)=((s.length+1:Nat):Int):=cJ om;have hlen:∀g:Nat->Bool,(iC (s.length+1) g).length=s.length+1:=fun g=>BG _ g
 have hrq:∀ {α:Type}(x:O α),rq ((decide (0<=((s.length+1:Nat):Int)))&&((decide (((s.length+1:Nat):Int)<=((s.length+1:Nat):Int)))&&((decide (0<((s.length+1:Nat):Int)))&&((decide (((s.length+1:Nat):Int)<=9223372036854775807))&&(decide ((1:Int)*((s.length+1:Nat):Int)<=140737488355328)))))) x=x:=by
  grind [cD,dT]
 rw [hw,hrq,bK,sx si,QM,FR]
 refine dw (fun x:J Bool×Int=>∃i:Nat,x=(iC (s.length+1) (EE p s i),(i:Int))/\i<=p.length) (fun x=>p.length-x.2.toNat) ?_ F _ ⟨0,congrArg (fun y=>(y,(0:Int))) (kM fun j _=>by
   show cond (j==0) true false=(j==0);cases (j==0)<;>rfl),om⟩ bE
 rintro x ⟨i,rfl,hi⟩;dsimp only;by_cases hi:i<p.length
 ·left
  refine⟨(iC (s.length+1) (EE p s (i+1)),((i+1:Nat):Int)),⟨i+1,rfl,om⟩,bE,fun rc=>?_⟩;rw [cO om,hrq];refine dw (fun x:Int×J Bool=>∃k:Nat,x=((k:Int),iC (s.length+1) (fun j=>decide (j<k)&&EE p s (i+1) j))/\k<=s.length+1) (fun x=>s.length+1-x.1.toNat) ?_ F _ ⟨0,congrArg (Prod.mk (0:Int)) (kM fun j _=>by simp),om⟩ bE;rintro x ⟨k,rfl,hk⟩;dsimp only;by_cases hk:k<=s.length
  ·left
   refine⟨_,⟨k+1,rfl,om⟩,bE,fun bt=>?_⟩;have hki:(Sa p i)=p[i]:=by unfold Sa;rw [gd hi]
   have hst:(p[i].fKind==3)=lW p i:=by unfold lW;rw [hki]
   have mc:∀b,b=EE p s (i+1) k->(iC (s.length+1) (fun j=>decide (j<k)&&EE p s (i+1) j)).set k b=iC (s.length+1) (fun j=>decide (j<k+1)&&EE p s (i+1) j):=by
    rintro b rfl;rw [FR]
    grind
   rw [cO om,cq hi,bK,gd (l:=p) hi,hst,cJ om]
   cases hs3:lW p i with
   | true=>
    rw [bq,bR om (by rw [hlen];omega),bK,vW _ om]
    have hres:∀b,b=EE p s (i+1) k->((some ((k:Int),b,iC (s.length+1) (fun j=>decide (j<k)&&EE p s (i+1) j)):O (Int×Bool×(J Bool))).bind fun x5=>
      rq ((decide (0<=x5.1))&&(decide (x5.1<(x5.2.2.length:Int)))) (bt (((k+1:Nat):Int),x5.2.2.set (Int.toNat x5.1) x5.2.1)))=bt (((k+1:Nat):Int),iC (s.length+1) (fun j=>decide (j<k+1)&&EE p s (i+1) j)):=by
     grind [bR,Int.toNat_natCast]
    cases he:EE p s i k with
    | true=>simp_all [ad5]
    | false=>
     rw [aS]
     cases k with
     | zero=>
      simp_all [cf,Ks]
     | succ k=>
      rw [cO om,w5 om om,bR om (by rw [hlen];omega),bK,vW _ om]
      simp_all [OV,Nat.add_sub_cancel,dT]
   | false=>
    rw [aS]
    cases k with
    | zero=>
     rw [cf om,bR om (by rw [hlen];omega),bK,mc false (by rw [YY p s hs3])]
    | succ k=>
     rw [cO om,w5 om om,bR om (by rw [hlen];omega),bK,Nat.add_sub_cancel,vW _ om]
     cases he:EE p s i k with
     | false=>rw [aS,bR om (by rw [hlen];omega),bK,mc false (by simp_all [UG])]
     | true=>
      rw [bq,cq hi,cq (show k<s.length by omega),bK,ah7 F p[i] _ om (hit _ (kz hi)),aC,bR om (by rw [hlen];omega),mc _ (by rw [UG p s hs3,he];unfold M3;rw [hki];rfl)]
  ·right
   obtain rfl:k=s.length+1:=om;intro bt;rw [cf om,cJ om,kM (g:=EE p s (i+1)) fun j hj=>by simp_all]
 grind
theorem agi(F:Nat)(p:J aG)(n:Bs)(hF:p.length+300<F)(qS:n.length+1<F)(hn:n.length<50000000)(hp:p.length<50000000)(hit:∀it∈p,mB it){v:Bool}(hv:lV F p=some v):
  Ch F p n=some (v&&EE p n p.length n.length):=by
 unfold Ch;rw [<-Hx F p hF hp hit,hv,aC,acv F p n hF qS hn hp hit]
 cases v with
 | false=>rfl
 | true=>
  rw [aC,bR om (by rw [BG];omega),vW _ om];rfl
theorem Names.left{a b:J Bs}(h:Names (a++b)):Names a:=fun c hc=>h c (by simp [hc])
theorem UI{n:J Bs}(h:Names n):pathOf n=[47]↔n=[]:=by
 have:=abh h;rw [sN] at this;simpa using this
structure VT(l:List bu):Prop where
 len:l.length<=128
 root:∃f∈l,f.bS=[47]
 path:∀f∈l,En f.bS=true
 dir:∀f∈l,f.nM=true->f.fData=[]
 amj:∀f∈l,f.bS=[47]->f.nM=true
 data:∀f∈l,f.fData.length<=8192
 asc:PU l
 par:∀f∈l,f.bS≠[47]->∃p∈l,p.bS=qb f.bS/\p.nM=true
theorem VT.up{l:J bu}(h:VT l):∀(r:J Bs)(m:J Bs)(c:Bs),Names (m++c::r)->(∃f∈l,f.bS=pathOf (m++c::r))->∃f∈l,f.bS=pathOf (m++[c]):=by
 intro r
 induction hn:r.length generalizing r with
 | zero=>
  intro m c _ hf;obtain rfl:r=[]:=Dj hn
  exact hf
 | succ k ih=>
  intro m c hN ⟨f,hf,e⟩;have hr:r≠[]:=by intro e;subst e;simp at hn
  have hne:f.bS≠[47]:=by
   rw [e];intro e';have:=(UI hN).1 e';simp at this
  obtain⟨p,hp,e1,-⟩:=h.par f hf hne;rw [e,YH hN] at e1
  have e2:(m++c::r).dropLast=m++c::r.dropLast:=by
   rw [List.dropLast_append_of_ne_nil si,List.dropLast_cons_of_ne_nil hr]
  rw [e2] at e1;exact ih r.dropLast (by simp [hn]) m c (by rw [<-e2];exact hN.dropLast) ⟨p,hp,e1⟩
def GI(n:Nat)(o:J (J aH)×J aH):Prop:=(∀c∈o.1,(∀r∈c,r.fText.length=1)/\c.length<=n)/\(∀r∈o.2,r.fText.length=1)/\o.2.length<=n
theorem GI.up{n m:Nat}{o:J (J aH)×J aH}(h:GI n o)(hm:n<=m):GI m o:=⟨fun c hc=>⟨(h.1 c hc).1,by have:=(h.1 c hc).2;omega⟩,h.2.1,by have:=h.2.2;omega⟩
theorem Y0(cl:Int):∀(t:Bs)(n:Nat)(o:J (J aH)×J aH),GI n o->GI (n+t.length) (t.foldl (mh cl) o)
 | [],n,o,h=>h
 | b::t,n,o,h=>by
  have h2:GI (n+1) (mh cl o b):=by
   obtain⟨h1,h2,h3⟩:=h;unfold mh;cases (b==47)
   ·refine⟨fun c hc=>⟨(h1 c hc).1,by have:=(h1 c hc).2;omega⟩,fun r hr=>?_,bE⟩
    rcases wX.1 hr with hr|hr
    ·exact h2 r hr
    ·obtain rfl:=MD.1 hr;rfl
   ·refine⟨fun c hc=>?_,fun r hr=>(by cases hr),si⟩
    rcases wX.1 hc with hc|hc
    ·exact⟨(h1 c hc).1,by have:=(h1 c hc).2;omega⟩
    ·obtain rfl:=MD.1 hc;exact⟨h2,om⟩
  have:=Y0 cl t (n+1) _ h2;rwa [show n+1+t.length=n+(b::t).length by simp;omega] at this
theorem amr:∀(l:J aH)(n:Nat)(o:J (J aH)×J aH),GI n o->GI (n+cz l) (l.foldl zg o)
 | [],n,o,h=>h
 | r::l,n,o,h=>by
  have h2:GI (n+r.fText.length) (zg o r):=by
   unfold zg;cases (r.b8 != 0&&(r.b8 != 1&&r.b8 != 2))
   ·exact Y0 _ _ _ _ h
   ·exact h.up om
  have:=amr l _ _ h2;rwa [show n+r.fText.length+cz l=n+cz (r::l) by simp [cz];omega] at this
theorem ams(l:J aH):∀c∈zh l,cz c=c.length/\c.length<=cz l:=by
 have h:=amr l 0 ([],[]) ⟨fun c hc=>(by cases hc),fun r hr=>(by cases hr),si⟩;rw [pW] at h;intro c hc;rcases wX.1 hc with hc|hc
 ·exact⟨adX (h.1 c hc).1,(h.1 c hc).2⟩
 ·obtain rfl:=MD.1 hc;exact⟨adX h.2.1,h.2.2⟩
end Go.Proofs.YthmndfnkdgmenaaGreatDoor
