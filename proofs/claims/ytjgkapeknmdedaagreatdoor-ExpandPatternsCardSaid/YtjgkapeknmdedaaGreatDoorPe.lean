import Derived.Test.YtjgkapeknmdedaaGreatDoorZ2
import Derived.Test.YtjgkapeknmdedaaGreatDoorSo
import Derived.Lib.SplitLaws
import Derived.Lib.LastIndexByte
import Derived.Lib.Join
set_option linter.all false
namespace Go.Proofs.YtjgkapeknmdedaaGreatDoor
open Go.RT
def lz:Bs->J Bs
 | []=>[[]]
 | b::l=>cond (b==47) ([]::lz l) (match lz l with
  | []=>[[b]]
  | p::ps=>(b::p)::ps)
theorem afP(l:Bs):(lz l).length<=l.length+1:=by
 induction l with
 | nil=>simp [lz]
 | cons b l ih=>
  unfold lz
  grind
theorem WT(l:Bs):∀p∈lz l,p.length<=l.length:=by
 induction l with
 | nil=>intro p hp;simp [lz] at hp;subst hp;simp
 | cons b l ih=>
  intro p hp;unfold lz at hp
  grind
theorem VM:∀(l:Bs)(n:Nat),(∀j,j<n->l.getD j 0≠47)->n<l.length->l.getD n 0=47->lz l=l.take n::lz (l.drop (n+1))
 | [],n,_,h,_=>by simp at h
 | b::l,0,_,_,h=>by
  have hb:b=47:=by simpa using h
  subst hb
  simp [lz]
 | b::l,n+1,h0,h1,h2=>by
  have hb:(b==47)=false:=by
   have:=h0 0 om;simpa using this
  have ih:=VM l n (fun j hj=>by
   grind) (by simpa using h1) (by simpa using h2)
  rw [lz,hb,ih];simp
theorem RW:∀(l:Bs),(∀j,j<l.length->l.getD j 0≠47)->lz l=[l]
 | [],_=>rfl
 | b::l,h0=>by
  have hb:(b==47)=false:=by
   have:=h0 0 si;simpa using this
  have ih:=RW l (fun j hj=>by
   have:=h0 (j+1) (by simpa using hj);simpa using this)
  unfold lz;rw [hb,aO,ih]
theorem akv{α:Type}(l:J α)(f k:Nat):sl l (f:Int) (k:Int)=(l.take k).drop f:=by simp [sl]
theorem acg{α:Type}(l:J α)(f:Nat):sl l (f:Int) (l.length:Int)=l.drop f:=by simp [sl]
theorem al4{α:Type}(l:J α):sl l 1 (l.length:Int)=l.drop 1:=acg l 1
theorem Ur{α:Type}(l:J α)(k:Nat):sl l 0 (k:Int)=l.take k:=by simp [sl]
theorem afQ(F:Nat)(s:Bs)(hF:s.length<F)(hs:s.length<1000000000):Ii F s=some (lz s):=by
 refine cW (fun x=>∃f k:Nat,x.2.1=(f:Int)/\x.2.2=(k:Int)/\f<=k/\k<=s.length/\x.1.length<=f/\x.1++lz (s.drop f)=lz s/\∀j,f<=j->j<k->s.getD j 0≠47) (fun x=>s.length-x.2.2.toNat) ?_ F _ ⟨0,0,rfl,rfl,om,om,si,si,fun j _ hj=>om⟩ (by simpa using hF);rintro⟨o,fr,ii⟩ ⟨f,k,h0,h0',h1,h2,h3,h4,h5⟩;dsimp only at h0 h0' h3 h4 h5⊢;subst h0 h0';by_cases hk:k<s.length
 ·left
  have hg:s.getD k 0=s[k]:=gd hk
  cases hb:(s[k]==47) with
  | true=>
   refine⟨(o++[sl s (f:Int) (k:Int)],((k+1:Nat):Int),((k+1:Nat):Int)),⟨k+1,k+1,rfl,rfl,om,om,bE,?_,fun j h h'=>om⟩,bE,fun rc=>?_⟩
   ·have hc:=VM (s.drop f) (k-f) (fun j hj=>by
     have:=h5 (f+j) om om
     simp_all)
    grind [List.drop_drop,akv,List.take_drop]
   ·rw [cM om,bU om om,bL,hg,qN _ 47 om,hb,bf,Cw om om om,bU bE bE,cG om]
  | false=>
   refine⟨(o,(f:Int),((k+1:Nat):Int)),⟨f,k+1,rfl,rfl,om,om,h3,h4,fun j h h'=>?_⟩,bE,fun rc=>?_⟩
   ·grind
   ·rw [cM om,bU om om,bL,hg,qN _ 47 om,hb,aO,cG om]
 ·right
  obtain rfl:k=s.length:=om;intro rc;rw [cf om,Cw om om om,bU bE bE,<-h4,acg,RW]
  simp_all
def al5(b:UInt8):Bool:=b==47||b==0
def ue(s:Bs):Bool:=(decide (1<=s.length)&&decide (s.length<=32))&&(!(s==[46])&&(!(s==[46,46]) && !(s.any al5)))
theorem ahM(F:Nat)(s:Bs)(hF:s.length<F)(hs:s.length<1000000000000):Ed F s=some (ue s):=by
 unfold Ed;rw [qf s (fun i=>(i:Int)) al5 (fun _ _=>some false) (some true) hF (by rfl) (fun i h rc=>?_) (fun rc=>?_),Fw]
 ·simp [aK]
  have e1:(decide ((s.length:Int)<1)||decide (32<(s.length:Int)))=!(decide (1<=s.length)&&decide (s.length<=32)):=by
   grind
  unfold ue
  grind
 ·rw [cM om,bU om om,bU om om,bL,gd h,qN _ 47 om,qN _ 0 om,aK,cG om]
  rfl
 ·rw [cf om]
def Ee(s:Bs):Bool:=s==[47]||((decide (2<=s.length)&&decide (s.length<=128))&&(s.getD 0 0==47&&(lz (s.drop 1)).all ue))
theorem afR(p:J Bs):cond (p.any fun n=>!ue n) (some false) (some true)=some (p.all ue):=by
 grind
theorem Yt(F:Nat)(s:Bs)(hF:200<=F):uJ F s=some (Ee s):=by
 unfold uJ Ee
 cases h1:(s==[47]) with
 | true=>rfl
 | false=>
  simp only [aO,aK,aD,cT];by_cases h2:2<=s.length/\s.length<=128
  ·rw [dF om,dF om,Bool.or_self,aO,qZ om,aD,Yg _ 47 om,dT h2.1,dT h2.2]
   cases h3:(s.getD 0 0==47) with
   | false=>rfl
   | true=>
    rw [jD,bU om om,al4,afQ F _ bE bE,aD];have hl:=afP (s.drop 1);have hm:=WT (s.drop 1);simp only [yg] at hl hm;rw [qf (lz (s.drop 1)) (fun i=>(i:Int)) (fun n=>!ue n) (fun _ _=>some false) (some true) om (by rfl) (fun i h rc=>?_) (fun rc=>?_),Fw,afR]
    ·rfl
    ·have:=hm _ (jN h)
     rw [cM om,bU om om,bL,gd h,ahM F _ om om,aD,cG om]
    ·rw [cf om]
  grind
def tU(s:Bs):Nat:=(Lib.lastIndexByte ⟨⟨s⟩⟩ 47).toNat
def p5(s:Bs):Bs:=cond (tU s==0) [47] (s.take (tU s))
theorem b47(b:UInt8):((b.toNat:Int)=47)↔b=47:=by
 have:=qN b 47 om;rw [sC] at this;simpa using this
theorem Yu(s:Bs):(Lib.lastIndexByte ⟨⟨s⟩⟩ 47=-1/\∀j,j<s.length->s.getD j 0≠47) \/
  ∃i:Nat,i<s.length/\Lib.lastIndexByte ⟨⟨s⟩⟩ 47=i/\s.getD i 0=47/\∀j,i<j->j<s.length->s.getD j 0≠47:=by
 have h:=Lib.lastIdx_spec ⟨⟨s⟩⟩ 47 s.length;simp [b47] at h;exact h
theorem RX(s:Bs)(a:Nat)(h1:(a<s.length/\s.getD a 0=47)\/a=0)(h2:∀j,a<j->j<s.length->s.getD j 0≠47):tU s=a:=by
 unfold tU
 grind [Yu,Nat.lt_trichotomy]
theorem ahN(s:Bs):((tU s<s.length/\s.getD (tU s) 0=47)\/tU s=0)/\∀j,tU s<j->j<s.length->s.getD j 0≠47:=by
 unfold tU
 grind [Yu]
theorem al6(s:Bs):tU s<=s.length:=by
 grind [ahN]
theorem akw(F:Nat)(s:Bs)(hF:s.length<F)(hs:s.length<1000000000):MF F s=some (tU s:Int):=by
 refine cW (fun x=>∃a k:Nat,x.1=(a:Int)/\x.2=(k:Int)/\k<=s.length/\((a<k/\s.getD a 0=47)\/a=0)/\∀j,a<j->j<k->s.getD j 0≠47) (fun x=>s.length-x.2.toNat) ?_ F _ ⟨0,0,rfl,rfl,om,.inr rfl,fun j _ hj=>om⟩ (by simpa using hF);rintro⟨aa,ii⟩ ⟨a,k,h0,h0',h1,h2,h3⟩;subst h0 h0';by_cases hk:k<s.length
 ·left
  have hg:s.getD k 0=s[k]:=gd hk
  cases hb:(s[k]==47) with
  | true=>
   refine⟨((k:Int),((k+1:Nat):Int)),⟨k,k+1,rfl,rfl,om,.inl ⟨om,by simp_all⟩,fun j h h'=>om⟩,bE,fun rc=>?_⟩
   rw [cM om,bU om om,bL,hg,qN _ 47 om,hb,bf,cG om]
  | false=>
   refine⟨((a:Int),((k+1:Nat):Int)),⟨a,k+1,rfl,rfl,om,?_,fun j h h'=>?_⟩,bE,fun rc=>?_⟩
   ·grind
   ·grind
   ·rw [cM om,bU om om,bL,hg,qN _ 47 om,hb,aO,cG om]
 ·right
  obtain rfl:k=s.length:=om;intro rc;rw [cf om,RX s a h2 h3]
theorem adJ(F:Nat)(s:Bs)(hF:s.length<F)(hs:s.length<1000000000):zn F s=some (p5 s):=by
 unfold zn p5;rw [akw F s hF hs,aD];have:=al6 s;by_cases h:tU s=0
 ·rw [h];rfl
 ·have e1:((tU s:Int)==0)=false:=by simpa using h
  have e2:(tU s==0)=false:=by simpa using h
  rw [e1,e2,aO,aO,bU om om,Ur]
def MG(p:Bs)(f:bu):Bool:=f.bW==p
def J9(l:J bu)(p:Bs):O bu:=l.find? (MG p)
def Qv(l:J bu)(p:Bs):Bool:=l.any (MG p)
def fiS(l:J bu)(p:Bs):Int:=(l.findIdx? (MG p)).elim (-1) fun j=>(j:Int)
theorem ahO(F:Nat)(l:J bu)(p:Bs)(hF:l.length<F)(hl:l.length<1000000000):Ef F l p=some (fiS l p):=by
 unfold Ef fiS;rw [qf l (fun i=>(i:Int)) (MG p) (fun i _=>some (i:Int)) (some (-1)) hF (by rfl) (fun i h rc=>?_) (fun rc=>?_),Qw _ _ _ bP]
 ·cases l.findIdx? (MG p)<;>simp
 ·rw [cM om,bU om om,bL,gd h,cG om]
  rfl
 ·rw [cf om]
theorem afS(l:J bu)(p:Bs):(l.findIdx? (MG p)=none/\J9 l p=none/\Qv l p=false)\/∃j,j<l.length/\l.findIdx? (MG p)=some j/\J9 l p=some (l.getD j bP)/\Qv l p=true:=by
 unfold J9 Qv
 induction l with
 | nil=>simp_all
 | cons f l ih=>
  grind
theorem ahP(l:J bu)(p:Bs):(fiS l p=-1/\J9 l p=none/\Qv l p=false)\/∃j:Nat,j<l.length/\fiS l p=(j:Int)/\J9 l p=some (l.getD j bP)/\Qv l p=true:=by
 unfold fiS
 grind [afS]
def RY(a p:Bs):Bool:=cond (a==[47]) (!(p==[47])) (decide (a.length+1<=p.length)&&p.take (a.length+1)==a++[47])
theorem afT(F:Nat)(a p:Bs):B3 F a p=some (RY a p):=by
 unfold B3 RY;cases (a==[47])
 ·by_cases h:a.length+1<=p.length
  ·have hl:a.length<p.length:=om
   rw [cM om,bU om om,Ur,aD,dT h]
   have e:(p.take (a.length+1)==a++[47])=(p.take a.length==a&&p.getD a.length 0==47):=by
    rw [pR hl]
    grind [List.append_inj]
   rw [e];cases (p.take a.length==a)
   ·rfl
   ·rw [bU om om,qN _ 47 om]
    rfl
  grind
 ·rfl
def OH(l:J bu)(p:Bs):Int:=cond (l.any fun f=>!f.nH&&RY f.bW p) 18 (cond (Qv l (p5 p)) 0 8)
theorem ahQ(F:Nat)(l:J bu)(p:Bs)(hF:l.length<F)(hl:l.length<1000000000)(hp:p.length<1000000000)(hpF:p.length<F):zo F l p=some (OH l p):=by
 unfold zo;rw [qf l (fun i=>(i:Int)) (fun f=>!f.nH&&RY f.bW p) (fun _ _=>some 18) (some (cond (Qv l (p5 p)) 0 8)) hF (by rfl) (fun i h rc=>?_) (fun rc=>?_),Fw,aK]
 ·rfl
 ·rw [bU om om,bU om om,bL,afT F _ _,cG om]
  grind
 ·rw [cf om,adJ F p hpF hp,aD,ahO F l _ hF hl]
  rcases ahP l (p5 p) with⟨h1,h2,h3⟩|⟨j,h0,h1,h2,h3⟩
  ·rw [h1,h3];rfl
  grind
def Li(l:J bu)(k:Nat):Int:=
 cond (!Ee (l.getD k bP).bW) 10
 (cond (((l.getD k bP).nH && !((l.getD k bP).fData==[]))||((l.getD k bP).bW==[47] && !(l.getD k bP).nH)) 1
 (cond (decide (8192<(l.getD k bP).fData.length)) 3
 (cond (decide (0<k)&&(Op.bytesLess (l.getD k bP).bW (l.getD (k-1) bP).bW||(l.getD k bP).bW==(l.getD (k-1) bP).bW)) 25
 (cond (decide (0<k)) (OH (l.take k) (l.getD k bP).bW) 0))))
def VN(l:J bu):Nat->Nat->Int
 | 0,_=>0
 | n+1,k=>cond (Li l k==0) (VN l n (k+1)) (Li l k)
def gQ(l:J bu):Int:=cond (decide (128<l.length)) 4 (cond (l.length==0 || !((l.getD 0 bP).bW==[47])) 8 (VN l l.length 0))
def MH(l:J bu):Prop:=l.length<=140/\∀f∈l,f.bW.length<=300/\f.fData.length<=9000
theorem MH.at{l:J bu}(h:MH l)(k:Nat):(l.getD k bP).bW.length<=300/\(l.getD k bP).fData.length<=9000:=by
 by_cases hk:k<l.length
 ·rw [gd hk];exact h.2 _ (jN hk)
 ·have:l.getD k bP=bP:=by simp_all
  rw [this];exact⟨by decide,by decide⟩
theorem anZ(l:J bu):(cond ((l.length:Int)==0)
 (some true)
 (rq (decide (0<(l.length:Int))) (some (!(((l.getD 0 bP).bW)==([47]:Bs))))):O Bool)=some (l.length==0 || !((l.getD 0 bP).bW==[47])):=by
  cases l with
  | nil=>rfl
  | cons f l=>
   have e1:((((f::l).length:Nat):Int)==0)=false:=by simp;omega
   have e2:((f::l).length==0)=false:=by simp
   rw [e2,qZ si];rfl
theorem ahR(l:J bu)(k:Nat)(r:O Int):cond (!Ee (l.getD k bP).bW) (some 10)
 (cond (((l.getD k bP).nH && !((l.getD k bP).fData==[]))||((l.getD k bP).bW==[47] && !(l.getD k bP).nH)) (some 1)
 (cond (decide (8192<(l.getD k bP).fData.length)) (some 3)
 (cond (decide (0<k)&&(Op.bytesLess (l.getD k bP).bW (l.getD (k-1) bP).bW||(l.getD k bP).bW==(l.getD (k-1) bP).bW)) (some 25)
 (cond (decide (0<k)) (cond (OH (l.take k) (l.getD k bP).bW != 0) (some (OH (l.take k) (l.getD k bP).bW)) r) r))))=cond (Li l k==0) r (some (Li l k)):=by
 unfold Li
 grind
theorem an0{l:J bu}{body:(Int->O Int)->Int->O Int}(F:Nat)(hF:l.length<F)(hs:∀(k:Nat) rc,k<l.length->body rc (k:Int)=cond (Li l k==0) (rc ((k+1:Nat):Int)) (some (Li l k)))(he:∀rc,body rc (l.length:Int)=some 0):bV body F 0=some (VN l l.length 0):=by
 refine cW (fun x=>∃k n:Nat,x=(k:Int)/\k+n=l.length/\VN l n k=VN l l.length 0) (fun x=>l.length-x.toNat) ?_ F _ ⟨0,l.length,rfl,om,rfl⟩ (by simpa using hF);rintro x ⟨k,n,rfl,h1,h2⟩
 cases n with
 | zero=>
  right;obtain rfl:k=l.length:=om;intro rc
  rw [he,<-h2];rfl
 | succ n=>
  rw [VN] at h2
  cases hv:(Li l k==0) with
  | true=>
   left;rw [hv] at h2
   exact⟨_,⟨k+1,n,rfl,om,h2⟩,bE,fun rc=>by grind⟩
  | false=>
   grind
theorem al7(l:J bu)(k:Nat)(hk:k<l.length)(hl:l.length<1000000000):(cond (decide (0<(k:Int)))
 (rq ((decide (0<=aB ((k:Int)-1)))&&(decide (aB ((k:Int)-1)<(l.length:Int)))) (some (Op.bytesLess ((l.getD k bP).bW) ((l.getD (Int.toNat (aB ((k:Int)-1))) bP).bW)||((l.getD k bP).bW)==((l.getD (Int.toNat (aB ((k:Int)-1))) bP).bW))))
 (some false):O Bool)=some (decide (0<k)&&(Op.bytesLess (l.getD k bP).bW (l.getD (k-1) bP).bW||(l.getD k bP).bW==(l.getD (k-1) bP).bW)):=by
  by_cases h0:0<k
  ·rw [cM om,uE om h0,bU om om,bL,dT h0,Ib]
  simp_all
theorem ao6(k:Nat):decide (0<(k:Int))=decide (0<k):=by
 simp_all
theorem al8(n k:Nat):decide ((k:Int)<(n:Int))=decide (k<n):=by
 simp_all
theorem afU(F:Nat)(l:J bu)(hF:400<=F)(h:MH l):B4 F l=some (gQ l):=by
 have hl:=h.1;unfold B4 gQ;rw [show decide (128<(l.length:Int))=decide (128<l.length) from al8 _ 128,anZ]
 cases decide (128<l.length) with
 | true=>rfl
 | false=>
  cases (l.length==0 || !((l.getD 0 bP).bW==[47])) with
  | true=>rfl
  | false=>
   refine an0 F om (fun k rc hk=>?_) (fun rc=>?_)
   ·rw [cM om,bU om om,bL,Yt F _ om,al7 l k hk om]
    simp only [aK,cF,aD,cT];rw [show decide (8192<(((l.getD k bP).fData.length:Nat):Int))=decide (8192<(l.getD k bP).fData.length) from al8 _ 8192,ao6,bU om om,Ur];have:=(h.at k).1;rw [ahQ F (l.take k) _ bE bE om om,aD,cG om,<-ahR]
   ·rw [cf om]
theorem ahS(F:Nat)(l:J bu)(hF:200<=F):∃b,(b=true->MH l)/\Ij F l=some b:=by
 refine Eg (fun b=>b=true->MH l) (fun x=>∃n k:Nat,x.1=(n:Int)/\x.2=(k:Int)/\k<=l.length/\k<=140/\n<=10000*k/\∀f∈l.take k,f.bW.length<=300/\f.fData.length<=9000) (fun x=>140-x.2.toNat) ?_ F _ ⟨0,0,rfl,rfl,om,om,om,si⟩ bE;rintro⟨nn,ii⟩ ⟨n,k,h0,h0',h1,h2,h3,h4⟩;subst h0 h0';simp only [aK,cF,aD];by_cases hc:k<l.length/\k<140/\n<40000
 ·have hk:=hc.1
  have e:((decide ((k:Int)<(l.length:Int))&&decide ((k:Int)<140))&&decide ((n:Int)<40000))=true:=by
   grind
  rw [e];simp only [bL,gd hk];by_cases hb:l[k].bW.length<=300/\l[k].fData.length<=9000
  ·left
   refine⟨(((n+l[k].bW.length+l[k].fData.length:Nat):Int),((k+1:Nat):Int)),⟨_,k+1,rfl,rfl,om,om,om,fun f hf=>?_⟩,bE,fun rc=>?_⟩
   ·grind [List.take_succ_eq_append_getElem,List.mem_singleton]
   ·grind [bI,bU]
  ·right
   refine⟨false,fun h=>(by cases h),fun rc=>?_⟩;rw [bU om om];by_cases hp:l[k].bW.length<=300
   ·rw [cf om,bU om om,dT om];rfl
   grind
 ·have e:((decide ((k:Int)<(l.length:Int))&&decide ((k:Int)<140))&&decide ((n:Int)<40000))=false:=by
   grind
  right;rw [e];refine⟨_,fun h=>?_,fun rc=>rfl⟩;simp at h;refine⟨om,fun f hf=>h4 f ?_⟩
  grind
set_option maxRecDepth 100000
theorem w1:B5 60 [47,97,47,98] [46,46,47,99,47,46,47,100,47]=some ([47,97,47,99,47,100],0):=by kernel_rfl
theorem w2:B5 60 [47] [46,46]=some ([47],0):=by kernel_rfl
def zq:J Bs->Bs
 | []=>[]
 | [x]=>x
 | x::y::l=>x++47::zq (y::l)
theorem adK(x:Bs){l:J Bs}(h:l≠[]):zq (x::l)=x++47::zq l:=by
 cases l with
 | nil=>exact absurd rfl h
 | cons y l=>rfl
theorem RZ:∀(l:J Bs)(c:Bs),l≠[]->zq (l++[c])=zq l++47::c
 | [],c,h=>absurd rfl h
 | [x],c,_=>rfl
 | x::y::l,c,_=>by
  have ih:=RZ (y::l) c si;rw [yh,adK x si,ih,zq];simp
def al9(c:Bs):Prop:=∀b∈c,b≠47
theorem afV{c:Bs}(h:ue c=true):al9 c:=by
 intro b hb e;unfold ue at h;simp only [cw,C9] at h;have:=List.any_eq_false.1 h.2.2.2 b hb;subst e;exact this rfl
theorem Ka{c:Bs}(h:ue c=true):1<=c.length/\c.length<=32:=by
 unfold ue at h;simp only [cw,fq] at h;exact h.1
def pathOf(l:J Bs):Bs:=[47]++zq l
def Names(l:J Bs):Prop:=∀c∈l,ue c=true
theorem Names.snoc{l:J Bs}(h:Names l){c:Bs}(hc:ue c=true):Names (l++[c]):=by
 intro x hx;rcases uw.1 hx with hx|hx
 ·exact h x hx
 ·simp only [J0] at hx;subst hx;exact hc
theorem Names.dropLast{l:J Bs}(h:Names l):Names l.dropLast:=fun c hc=>h c (List.dropLast_subset l hc)
theorem akx{l:J Bs}(h:Names l)(hl:l≠[]):zq l≠[]:=by
 match l,hl with
 | [x],_=>
  have:=Ka (h x si)
  intro e;rw [zq] at e;rw [e] at this;simp at this
 | x::y::l,_=>intro e;rw [zq] at e;simp at e
theorem aa7{l:J Bs}(h:Names l):(pathOf l==[47])=(l==[]):=by
 cases l with
 | nil=>rfl
 | cons x l=>
  have:=akx h si;rw [show ((x::l)==[])=false from rfl];simp only [pathOf,yh,pS,fO,ne_eq,List.cons.injEq,ux];exact this
theorem R1(a c:Bs)(hc:al9 c):tU (a++47::c)=a.length:=by
 refine RX _ _ (.inl ⟨si,by simp [List.getD]⟩) fun j hj hl=>?_
 have e:(a++47::c).getD j 0=c.getD (j-a.length-1) 0:=by
  rw [List.getD,H7 om,show j-a.length=(j-a.length-1)+1 by omega,List.getElem?_cons_succ];rfl
 simp at hl;rw [e,gd om];exact hc _ (jN _)
theorem aa8{l:J Bs}(h:Names l){c:Bs}(hc:ue c=true):p5 (pathOf (l++[c]))=pathOf l:=by
 have h47:=afV hc
 cases l with
 | nil=>
  have:tU (pathOf ([]++[c]))=0:=R1 [] c h47;unfold p5;rw [this]
  rfl
 | cons x l=>
  have e:pathOf ((x::l)++[c])=pathOf (x::l)++47::c:=by
   rw [pathOf,RZ _ _ si,pathOf];simp
  have:tU (pathOf ((x::l)++[c]))=(pathOf (x::l)).length:=by rw [e];exact R1 _ c h47
  unfold p5;rw [this];have h0:((pathOf (x::l)).length==0)=false:=by simp [pathOf]
  rw [h0,aO,e];simp
theorem Yv{l:J Bs}(h:Names l):p5 (pathOf l)=pathOf l.dropLast:=by
 rcases List.eq_nil_or_concat l with rfl|⟨l',c,rfl⟩
 ·rfl
 ·rw [List.concat_eq_append] at h⊢
  have hc:ue c=true:=h c si;have hl:Names l':=fun x hx=>h x (by simp [hx]);rw [aa8 hl hc];simp
def PF(l:J bu):Prop:=l.Pairwise fun x y=>x.bW<y.bW
structure VL(l:List bu):Prop where
 len:l.length<=128
 pos:0<l.length
 root:(l.getD 0 bP).bW=[47]
 path:∀f∈l,Ee f.bW=true
 dir:∀f∈l,f.nH=true->f.fData=[]
 ama:∀f∈l,f.bW=[47]->f.nH=true
 data:∀f∈l,f.fData.length<=8192
 asc:PF l
 ao7:∀k,0<k->k<l.length->OH (l.take k) (l.getD k bP).bW=0
theorem Yw(l:J bu):∀(n k:Nat),VN l n k=0↔∀j,k<=j->j<k+n->Li l j=0
 | 0,k=>⟨fun _ j h h'=>om,fun _=>rfl⟩
 | n+1,k=>by
  rw [VN]
  cases h:(Li l k==0) with
  | true=>
   rw [bf,Yw l n (k+1)];constructor
   ·intro h1 j h2 h3
    by_cases e:j=k
    ·subst e;simpa using h
    ·exact h1 j om om
   ·intro h1 j h2 h3
    exact h1 j om om
  | false=>
   rw [aO];constructor
   ·intro h1;rw [h1] at h;cases h
   ·intro h1
    have:=h1 k om om;rw [this] at h;cases h
theorem R2:∀ {l:J bu},(∀k,0<k->k<l.length->(l.getD (k-1) bP).bW<(l.getD k bP).bW)->PF l
 | [],_=>List.Pairwise.nil
 | [x],_=>ade _ _
 | x::y::l,h=>by
  have ih:PF (y::l):=R2 fun k h1 h2=>by
   have:=h (k+1) om (by simpa using h2);rw [show k+1-1=(k-1)+1 by omega] at this;simpa using this
  have hxy:x.bW<y.bW:=by
   have:=h 1 om si;simpa using this
  refine wE.2 ⟨fun z hz=>?_,ih⟩;rcases gY.1 hz with rfl|hz
  ·exact hxy
  ·exact qh hxy ((wE.1 ih).1 z hz)
theorem aky{l:J bu}(h:PF l)(i j:Nat)(hij:i<j)(hj:j<l.length):(l.getD i bP).bW<(l.getD j bP).bW:=by
 rw [gd (show i<l.length by omega),gd hj];exact ac9.1 h i j om hj hij
theorem ahT(l:J bu)(k:Nat):Li l k=0↔Ee (l.getD k bP).bW=true/\((l.getD k bP).nH=true->(l.getD k bP).fData=[])/\((l.getD k bP).bW=[47]->(l.getD k bP).nH=true) /\
  (l.getD k bP).fData.length<=8192/\(0<k->(l.getD (k-1) bP).bW<(l.getD k bP).bW)/\(0<k->OH (l.take k) (l.getD k bP).bW=0):=by
 unfold Li;generalize l.getD k bP=f;generalize l.getD (k-1) bP=g
 cases h1:Ee f.bW with
 | false=>simp
 | true=>
  cases h2:((f.nH && !(f.fData==[]))||(f.bW==[47] && !f.nH)) with
  | true=>
   grind
  | false=>
   have h3:f.nH=true->f.fData=[]:=fun h=>by
    simp_all
   have h4:f.bW=[47]->f.nH=true:=fun h=>by
    simp_all
   by_cases h5:8192<f.fData.length
   ·grind
   ·rw [cf h5]
    by_cases h6:0<k
    ·rw [<-an1 g.bW f.bW]
     cases h7:Op.bytesLess g.bW f.bW with
     | true=>
      simp_all [Kb,jD,aO]
     | false=>
      have:=(Cy _ _).1 h7
      grind
    simp_all
theorem afW(l:J bu):gQ l=0↔VL l:=by
 unfold gQ;by_cases h1:128<l.length
 ·rw [cM h1]
  exact⟨fun h=>(by cases h),fun h=>by have:=h.len;omega⟩
 ·rw [cf h1]
  cases h2:(l.length==0 || !((l.getD 0 bP).bW==[47])) with
  | true=>
   refine⟨fun h=>(by cases h),fun h=>?_⟩;have a:=h.pos;have b:=h.root
   simp_all
  | false=>
   rw [aO];simp only [Rx,fO,adi,oO] at h2;rw [Yw];simp only [ahT];constructor
   ·intro h
    have hm:∀f∈l,∃k,k<l.length/\l.getD k bP=f:=fun f hf=>by
     grind [List.getElem_of_mem,gd]
    refine⟨om,om,h2.2,?_,?_,?_,?_,R2 fun k h3 h4=>(h k om om).2.2.2.2.1 h3,fun k h3 h4=>(h k om om).2.2.2.2.2 h3⟩
    ·grind
    ·grind
    ·grind
    grind
   ·intro h j hj hj'
    have hj':j<l.length:=om;have hm:l.getD j bP∈l:=by simp_all
    exact⟨h.path _ hm,h.dir _ hm,h.ama _ hm,h.data _ hm,fun h0=>aky h.asc (j-1) j om hj',fun h0=>h.ao7 j h0 hj'⟩
def qi(s:Bs):Bs:=s.drop (tU s+1)
def ao8(p:Bs)(f:bu):Bool:=!(f.bW==[47])&&p5 f.bW==p
def an2(l:J bu)(p:Bs):J Bs:=(l.filter (ao8 p)).map fun f=>qi f.bW
end Go.Proofs.YtjgkapeknmdedaaGreatDoor

namespace Go.Proofs.YtjgkapeknmdedaaGreatDoor
open Go.RT
theorem Yx(s:Bs):b9 (di s)=s:=by
 unfold b9 di;rw [Ba];have:((fun n=>UInt8.ofNat n.toNat) ∘ fun b=>(b.toNat:Int))=id:=by funext b;simp
 rw [this,T7]
def MI(c:Int):Bool:=c != 0&&(c != 1&&c != 2)
def MJ(r:aH):J fA:=cond (MI r.bO) [] (r.fText.map fun b=>fA.mk (b.toNat:Int) (r.bO != 1))
def ri(r:aH):J eA:=cond (MI r.bO) [] (r.fText.map fun b=>eA.mk (b.toNat:Int) (r.bO != 1))
theorem ach(r:aH):(MJ r).length<=r.fText.length:=by unfold MJ;grind
theorem Us(r:aH):(ri r).length<=r.fText.length:=by unfold ri;grind
theorem Jc{α:Type}(f:aH->J α)(hf:∀r,(f r).length<=r.fText.length):∀l:J aH,(l.flatMap f).length<=cA l
 | []=>by simp
 | r::l=>by
  have:=Jc f hf l;have:=hf r;simp [Rz,cA] at *;omega
theorem Ut{l:J aH}{r:aH}(h:r∈l):r.fText.length<=cA l:=by
 induction l with
 | nil=>cases h
 | cons a l ih=>
  rcases gY.1 h with rfl|h
  ·simp [cA]
  ·have:=ih h
   simp [cA] at *;omega
theorem MK{α:Type}(f:aH->J α)(l:J aH)(k:Nat)(h:k<l.length):(l.take (k+1)).flatMap f=(l.take k).flatMap f++f l[k]:=by
 grind [List.take_succ_eq_append_getElem]
theorem Yy(c:Int):(cond (c != 0) (some (c != 1)) (some false):O Bool)=some (c != 0&&c != 1):=by cases (c != 0)<;>rfl
theorem aci(c:Int):cond (c != 0&&c != 1) (c != 2) false=MI c:=by unfold MI;grind
theorem PG(F:Nat)(l:J aH)(hF:l.length<F)(qL:cA l<F)(h1:l.length<1000000000)(h2:cA l<=1000000000):Bq F l=some (l.flatMap MJ):=by
 refine cW (fun x=>∃k:Nat,x.2=(k:Int)/\k<=l.length/\x.1=(l.take k).flatMap MJ) (fun x=>l.length-x.2.toNat) ?_ F _ ⟨0,rfl,om,si⟩ bE;rintro⟨acc,ii⟩ ⟨k,h0,hk,ha⟩;subst h0;by_cases hk:k<l.length
 ·left
  have hg:l.getD k cx=l[k]:=gd hk;have hal:acc.length<=cA (l.take k):=by grind [Jc,ach]
  have hs:=pY l k hk;have hle:=tJ l (k+1);refine⟨((l.take (k+1)).flatMap MJ,((k+1:Nat):Int)),⟨k+1,rfl,om,rfl⟩,bE,fun rc=>?_⟩;rw [cM om,bZ hk,bZ hk,bL,hg,Yy,aD,cG om,MK _ _ _ hk,<-ha,bZ hk,aK,aD,aci];unfold MJ
  cases hc:MI l[k].bO with
  | true=>simp_all
  | false=>
   rw [aO,aO];refine cW (fun x=>∃j:Nat,x.2=(j:Int)/\j<=l[k].fText.length/\x.1=acc++(l[k].fText.take j).map fun b=>fA.mk (b.toNat:Int) (l[k].bO != 1)) (fun x=>l[k].fText.length-x.2.toNat) ?_ F _ ⟨0,rfl,om,si⟩ bE;rintro⟨a2,jj⟩ ⟨j,h0,hj,hb⟩;dsimp only at h0 hb⊢;subst h0;by_cases hj:j<l[k].fText.length
   ·left
    refine⟨(acc++(l[k].fText.take (j+1)).map fun b=>fA.mk (b.toNat:Int) (l[k].bO != 1),((j+1:Nat):Int)),⟨j+1,rfl,om,rfl⟩,bE,fun bp=>?_⟩;have Yz:l[k].fText.getD j 0=l[k].fText[j]:=gd hj;have Jd:a2.length<=acc.length+j:=by rw [hb];simp;omega
    simp only [bZ hk];rw [cM om];simp only [bZ hj];rw [bL,Yz,cG om,gT bE om,pR hj,JZ,<-Fo,<-hb];rfl
   ·right
    obtain rfl:j=l[k].fText.length:=om;intro bp;rw [bZ hk,cf om,hb,yf]
 grind
theorem Kc(F:Nat)(l:J aH)(hF:l.length<F)(qL:cA l<F)(h1:l.length<1000000000)(h2:cA l<=1000000000):De F l=some (l.flatMap ri):=by
 refine cW (fun x=>∃k:Nat,x.2=(k:Int)/\k<=l.length/\x.1=(l.take k).flatMap ri) (fun x=>l.length-x.2.toNat) ?_ F _ ⟨0,rfl,om,si⟩ bE;rintro⟨acc,ii⟩ ⟨k,h0,hk,ha⟩;subst h0;by_cases hk:k<l.length
 ·left
  have hg:l.getD k cx=l[k]:=gd hk;have hal:acc.length<=cA (l.take k):=by grind [Jc,Us]
  have hs:=pY l k hk;have hle:=tJ l (k+1);refine⟨((l.take (k+1)).flatMap ri,((k+1:Nat):Int)),⟨k+1,rfl,om,rfl⟩,bE,fun rc=>?_⟩;rw [cM om,bZ hk,bL,hg,Yy,aD,cG om,MK _ _ _ hk,<-ha,aK,aci];unfold ri
  cases hc:MI l[k].bO with
  | true=>simp_all
  | false=>
   refine cW (fun x=>∃j:Nat,x.2=(j:Int)/\j<=l[k].fText.length/\x.1=acc++(l[k].fText.take j).map fun b=>eA.mk (b.toNat:Int) (l[k].bO != 1)) (fun x=>l[k].fText.length-x.2.toNat) ?_ F _ ⟨0,rfl,om,si⟩ bE;rintro⟨a2,jj⟩ ⟨j,h0,hj,hb⟩;dsimp only at h0 hb⊢;subst h0;by_cases hj:j<l[k].fText.length
   ·left
    refine⟨(acc++(l[k].fText.take (j+1)).map fun b=>eA.mk (b.toNat:Int) (l[k].bO != 1),((j+1:Nat):Int)),⟨j+1,rfl,om,rfl⟩,bE,fun bp=>?_⟩;have Yz:l[k].fText.getD j 0=l[k].fText[j]:=gd hj;have Jd:a2.length<=acc.length+j:=by rw [hb];simp;omega
    rw [cM om];simp only [bZ hj];rw [bL,Yz,cG om,gT bE om,pR hj,JZ,<-Fo,<-hb];rfl
   grind
 grind
def Cz(x:J fA)(i:Nat)(b:Int):Bool:=decide (i<x.length)&&((x.getD i iI).ke&&(x.getD i iI).fb==b)
theorem iY(F:Nat)(x:J fA)(i:Nat)(b:Int):nI F x (i:Int) b=some (Cz x i b):=by
 unfold nI Cz;by_cases h:i<x.length
 ·rw [cM om,bZ h,aD,bZ h,aK]
  simp_all
 grind
def dZ(x:J eA)(i:Nat)(b:Int):Bool:=decide (i<x.length)&&((x.getD i cq).ke&&(x.getD i cq).fb==b)
theorem gF(F:Nat)(x:J eA)(i:Nat)(b:Int):eY F x (i:Int) b=some (dZ x i b):=by
 unfold eY dZ;by_cases h:i<x.length
 ·rw [cM om,bZ h,aD]
  congr 1
  grind
 grind
set_option maxRecDepth 100000
theorem ig{σ R:Type}{body:(σ->O R)->σ->O R}(Q:R->Prop)(P:σ->Prop)(m:σ->Nat)
  (hs:∀s,P s->∀rc,(∀s',P s'->m s'<m s->∃r,Q r/\rc s'=some r)->∃r,Q r/\body rc s=some r):∀(F:Nat)(s:σ),P s->m s<F->∃r,Q r/\bV body F s=some r
 | 0,s,_,h=>by omega
 | F+1,s,hP,h=>hs s hP (bV body F) fun s' h1 h2=>ig Q P m hs F s' h1 om
def Qx(x:J eA):Prop:=∀e∈x,0<=e.fb/\e.fb<=255
theorem YA(l:J aH):Qx (l.flatMap ri):=by
 intro e he;obtain⟨r,-,he⟩:=List.mem_flatMap.1 he;unfold ri at he;cases hc:MI r.bO<;>rw [hc] at he
 ·obtain⟨b,-,rfl⟩:=xZ.1 (show e∈r.fText.map _ from he)
  have:=b.toNat_lt;dsimp only;omega
 ·cases he
theorem Qx.at{x:J eA}(h:Qx x){i:Nat}(hi:i<x.length):0<=(x.getD i cq).fb/\(x.getD i cq).fb<=255:=by
 rw [gd hi];exact h _ (jN hi)
def yp(e:eA):Bool:=e.ke&&(decide (97<=e.fb)&&decide (e.fb<=122))
def jF(x:J eA)(i:Nat):J Int:=((x.drop i).takeWhile yp).map fun e=>e.fb
def isName(n:Bs):Bool:=n==[97,108,112,104,97]||(n==[100,105,103,105,116]||(n==[97,108,110,117,109]||(n==[117,112,112,101,114]||(n==[108,111,119,101,114]||(n==[115,112,97,99,101]||(n==[98,108,97,110,107]||n==[112,117,110,99,116]))))))
def wU(x:J eA)(i:Nat):Bs×Int×Bool:=
 cond ((dZ x i 91&&dZ x (i+1) 58)&&((dZ x (i+2+(jF x (i+2)).length) 58&&dZ x (i+2+(jF x (i+2)).length+1) 93)&&isName (b9 (jF x (i+2)))))
  (b9 (jF x (i+2)),((i+2+(jF x (i+2)).length+2:Nat):Int),true) ([],0,false)
theorem amb(x:J eA)(i:Nat):(jF x i).length<=x.length-i:=by
 unfold jF;rw [sA];have:=(List.takeWhile_sublist yp (l:=x.drop i)).length_le;rw [yg] at this;exact this
theorem ajO{p:eA->Bool}:∀(l:J eA)(k:Nat)(h:k<(l.takeWhile p).length),∃hk:k<l.length,(l.takeWhile p)[k]=l[k]/\p l[k]=true
 | [],k,h=>by simp at h
 | a::l,k,h=>by
  cases hp:p a with
  | false=>simp [List.takeWhile,hp] at h
  | true=>
   cases k with
   | zero=>exact⟨si,by simp [List.takeWhile,hp],by simpa using hp⟩
   | succ k=>
    have h':k<(l.takeWhile p).length:=by simpa [List.takeWhile,hp] using h
    obtain⟨h1,h2,h3⟩:=ajO l k h';exact⟨by simpa using h1,by simp [List.takeWhile,hp,h2],by simpa using h3⟩
theorem afX{p:eA->Bool}:∀(l:J eA)(h:(l.takeWhile p).length<l.length),p l[(l.takeWhile p).length]=false
 | [],h=>by simp at h
 | a::l,h=>by
  cases hp:p a with
  | false=>simp [List.takeWhile,hp]
  | true=>
   have h':(l.takeWhile p).length<l.length:=by simpa [List.takeWhile,hp] using h
   have:=afX l h';simpa [List.takeWhile,hp] using this
theorem afY(x:J eA)(i k:Nat)(h:k<(jF x i).length):i+k<x.length/\(jF x i).getD k 0=(x.getD (i+k) cq).fb/\yp (x.getD (i+k) cq)=true:=by
 unfold jF at h⊢;rw [sA] at h;obtain⟨h1,h2,h3⟩:=ajO (p:=yp) (x.drop i) k h;rw [yg] at h1;refine⟨om,?_,?_⟩
 ·rw [gd (by rw [sA];exact h),Qk,h2,adk,gd om]
 ·rw [gd om,<-adk (h:=by rw [yg];omega)];exact h3
theorem acj(x:J eA)(i:Nat)(h:i+(jF x i).length<x.length):yp (x.getD (i+(jF x i).length) cq)=false:=by
 unfold jF at h⊢;rw [sA] at h⊢;have:=afX (p:=yp) (x.drop i) (by rw [yg];omega);rw [adk] at this;rw [gd om];exact this
theorem Ke(a b:Bool)(x:O Bool)(hb:x=some b):cond a (some a) x=some (a||b):=by subst hb;cases a<;>rfl
theorem Qy(F:Nat)(x:J eA)(i:Nat)(hF:x.length+10<F)(hx:x.length<500000000):xJ F x (i:Int)=some (wU x i)\/500000000<=i:=by
 by_cases hi:500000000<=i
 ·exact .inr hi
 left;unfold xJ wU;rw [gF,aD,show aB ((i:Int)+1)=((i+1:Nat):Int) from cG om,gF]
 cases h1:dZ x i 91 with
 | false=>rfl
 | true=>
  cases h2:dZ x (i+1) 58 with
  | false=>rfl
  | true=>
   simp only [jD,aO,aD,qW,Ib];have zu:aB ((i:Int)+2)=((i+2:Nat):Int):=by rw [bI om];omega
   rw [zu];have hrl:=amb x (i+2);generalize hr:jF x (i+2)=r at hrl;have hat:=afY x (i+2);have hend:=acj x (i+2);rw [hr] at hat hend;refine cW (fun s:Int×J Int=>∃k:Nat,s.1=((i+2+k:Nat):Int)/\k<=r.length/\s.2=r.take k) (fun s=>(i+2+r.length)-s.1.toNat) ?_ F _ ⟨0,rfl,om,si⟩ bE;rintro⟨ii,nm⟩ ⟨k,h0,hk,hn⟩;dsimp only at h0 hn⊢;subst h0;by_cases hk:k<r.length
   ·left
    obtain⟨g1,g2,g3⟩:=hat k hk;have hnl:nm.length=k:=by rw [hn,Fm];omega
    refine⟨(((i+2+(k+1):Nat):Int),r.take (k+1)),⟨k+1,rfl,om,rfl⟩,bE,fun rc=>?_⟩;unfold yp at g3;simp only [cw] at g3;obtain⟨g3,g4,g5⟩:=g3;rw [cM om,bZ g1,bL,g3,aD,bf,bZ g1,g4,aD,bf,bZ g1,g5,aD,bf,bZ g1,gT bE om,cG om,<-g2,gd hk,pR hk,<-hn];rfl
   ·right
    obtain rfl:k=r.length:=om;intro rc;rw [yf] at hn;subst hn
    have e1:(((cond (decide (((i+2+nm.length:Nat):Int)<(x.length:Int))) (rq (decide (0<=((i+2+nm.length:Nat):Int))&&decide (((i+2+nm.length:Nat):Int)<(x.length:Int))) (some (x.getD (Int.toNat ((i+2+nm.length:Nat):Int)) cq).ke)) (some false)):O Bool).bind fun x6=>
      (cond x6 (rq (decide (0<=((i+2+nm.length:Nat):Int))&&decide (((i+2+nm.length:Nat):Int)<(x.length:Int))) (some (decide (97<=(x.getD (Int.toNat ((i+2+nm.length:Nat):Int)) cq).fb)))) (some false):O Bool).bind fun x7=>
      (cond x7 (rq (decide (0<=((i+2+nm.length:Nat):Int))&&decide (((i+2+nm.length:Nat):Int)<(x.length:Int))) (some (decide ((x.getD (Int.toNat ((i+2+nm.length:Nat):Int)) cq).fb<=122)))) (some false):O Bool))=some false:=by
     by_cases hl:i+2+nm.length<x.length
     ·have:=hend hl
      unfold yp at this;rw [cM om,bZ hl,bL];simp only [bZ hl];revert this
      cases (x.getD (i+2+nm.length) cq).ke with
      | false=>intro _;rfl
      | true=>
       cases decide (97<=(x.getD (i+2+nm.length) cq).fb) with
       | false=>intro _;rfl
       | true=>
        intro h;have h:decide ((x.getD (i+2+nm.length) cq).fb<=122)=false:=h;rw [h];rfl
     ·rw [cf om];rfl
    have e2:∀ {β:Type}(A:O Bool)(B:Bool->O Bool)(C:Bool->O Bool)(k:Bool->O β),(A.bind fun x6=>(B x6).bind fun x7=>(C x7).bind k)=((A.bind fun x6=>(B x6).bind fun x7=>C x7)).bind k:=by
     intro β A B C k;cases A<;>simp [XI]
    rw [e2,e1,aD,aO,gF,aD,cG om,gF]
    cases dZ x (i+2+nm.length) 58 with
    | false=>rfl
    | true=>
     cases dZ x (i+2+nm.length+1) 93 with
     | false=>rfl
     | true=>
      simp only [jD,aO,aD,qW,Ib];rw [Ke _ _ _ (Ke _ _ _ (Ke _ _ _ (Ke _ _ _ (Ke _ _ _ (Ke _ _ _ (Ke _ _ _ rfl)))))),aD];have VO:aB (((i+2+nm.length:Nat):Int)+2)=((i+2+nm.length+2:Nat):Int):=by rw [bI om];omega
      rw [VO,aK];rfl
theorem afZ{x:J eA}{i:Nat}{b:Int}(h:dZ x i b=true):i<x.length:=by
 unfold dZ at h;rw [cw] at h;exact yX h.1
theorem adL(F:Nat)(n:Bs)(c:Int):∃b,mm F n c=some b:=by
 unfold mm;simp only [aK,aD];exact⟨_,rfl⟩
theorem adM(F:Nat)(x:J eA)(i:Nat)(set:J Bool)(hF:x.length+1000<F)(hx:x.length<500000000)(hc:Qx x)(hi:i<x.length)(hs:set.length=256):
  ∃r:Int×J Bool,(∃e:Nat,r.1=(e:Int)/\i<e/\e<=x.length/\r.2.length=256)/\kP F x (i:Int) set=some r:=by
 unfold kP;obtain hcl|hcl:=Qy F x i om hx
 rotate_left
 ·omega
 rw [hcl,aD]
 cases h1:(wU x i).2.2 with
 | true=>
  rw [bf];unfold wU at h1⊢
  cases h2:((dZ x i 91&&dZ x (i+1) 58)&&((dZ x (i+2+(jF x (i+2)).length) 58&&dZ x (i+2+(jF x (i+2)).length+1) 93)&&isName (b9 (jF x (i+2))))) with
  | false=>rw [h2] at h1;cases h1
  | true=>
   rw [bf];simp only [cw] at h2;have h3:=afZ h2.2.1.2;refine ig _ (fun s:Int×J Bool=>∃k:Nat,s.1=(k:Int)/\k<=256/\s.2.length=256) (fun s=>256-s.1.toNat) ?_ F _ ⟨0,rfl,om,hs⟩ bE;rintro⟨ii,st⟩ ⟨k,h0,hk,hl⟩ rc hrc;dsimp only at h0 hl⊢;subst h0;by_cases hk:k<256
   ·obtain⟨b,hb⟩:=adL F (b9 (jF x (i+2))) (k:Int)
    rw [cM om,hb,aD,cG om]
    cases b with
    | false=>exact hrc _ ⟨k+1,rfl,om,hl⟩ bE
    | true=>
     rw [bf,Cw om om om];exact hrc _ ⟨k+1,rfl,om,by simpa using hl⟩ bE
   ·rw [cf om]
    exact⟨_,⟨_,rfl,om,om,hl⟩,rfl⟩
 | false=>
  have hw1:aB ((i:Int)+1)=((i+1:Nat):Int):=cG om;have zu:aB ((i:Int)+2)=((i+2:Nat):Int):=by rw [bI om];omega
  have VO:aB ((i:Int)+3)=((i+3:Nat):Int):=by rw [bI om];omega
  rw [aO,hw1,zu,VO,gF,aD,gF,aK,aD];have e1:cond (dZ x (i+1) 45) (decide (((i+2:Nat):Int)<(x.length:Int)),set) (false,set)=((dZ x (i+1) 45&&decide (((i+2:Nat):Int)<(x.length:Int))),set):=by cases dZ x (i+1) 45<;>rfl
  rw [e1];dsimp only;rw [aD,aK,aD];have e2:∀a b:Bool,cond a (b,set) (false,set)=((a&&b),set):=by intro a b;cases a<;>rfl
  rw [e2];dsimp only;have hb:=hc.at hi
  cases h4:((dZ x (i+1) 45&&decide (((i+2:Nat):Int)<(x.length:Int))) && !dZ x (i+2) 93) with
  | false=>
   rw [aO,bZ hi,bL,Cw om om om]
   exact⟨_,⟨_,rfl,om,om,by simpa using hs⟩,rfl⟩
  | true=>
   simp only [cw,fq] at h4;have h5:i+2<x.length:=om;have oV:=hc.at h5;rw [bf,bZ hi,bL,bL,bI (x:=(x.getD i cq).fb) om,bI (x:=(x.getD (i+2) cq).fb) om];generalize (x.getD i cq).fb=lo at hb;generalize (x.getD (i+2) cq).fb=hi2 at oV;refine ig _ (fun s:Int×J Bool=>0<=s.1/\s.1<=256/\s.2.length=256) (fun s=>256-s.1.toNat) ?_ F _ ⟨hb.1,om,hs⟩ bE;rintro⟨ii,st⟩ ⟨h6,h7,hl⟩ rc hrc;dsimp only at h6 h7 hl⊢;rw [bZ h5];by_cases hle:ii<=hi2
   ·rw [cM hle,Cw om om om,bI om]
    exact hrc _ ⟨by dsimp only;omega,by dsimp only;omega,by simpa using hl⟩ (by dsimp only;omega)
   ·rw [cf hle]
    exact⟨_,⟨_,rfl,om,om,hl⟩,rfl⟩
theorem af0(F:Nat)(set:J Bool)(hF:1000<F)(hs:set.length=256):∃l:J bS,l.length<=256/\p6 F set=some l:=by
 unfold p6;rw [cE (by rw [hs];rfl)];refine ig _ (fun s:J bS×Int×J Bool=>∃k:Nat,s.2.1=(k:Int)/\k<=256/\s.1.length<=k/\s.2.2.length=256) (fun s=>256-s.2.1.toNat) ?_ F _ ⟨0,rfl,om,si,hs⟩ bE;rintro⟨acc,ii,st⟩ ⟨k,h0,hk,ha,hl⟩ rc hrc;dsimp only at h0 ha hl⊢;subst h0;by_cases hk:k<256
 ·rw [cM om,Cw om om om,cG om]
  cases hb:(!(st.getD (Int.toNat (k:Int)) false)) with
  | true=>exact hrc _ ⟨k+1,rfl,om,by dsimp only;omega,hl⟩ bE
  | false=>
   rw [aO];refine ig _ (fun s:Int×J Bool=>∃j:Nat,s.1=(j:Int)/\k<=j/\j<=255/\s.2.length=256) (fun s=>256-s.1.toNat) ?_ F _ ⟨k,rfl,om,om,hl⟩ bE;rintro⟨jj,DI⟩ ⟨j,h0,hkj,hj,hl2⟩ bp ao9;dsimp only at h0 hl2⊢;subst h0
   have hend:∀YB:J Bool,YB.length=256->∃r:J bS,r.length<=256/\rq ((decide (acc.length+([(bS.mk (IntKind.wrap .u8 (k:Int)) (IntKind.wrap .u8 (j:Int)))]:J bS).length<=9223372036854775807))&&(decide ((acc.length+([(bS.mk (IntKind.wrap .u8 (k:Int)) (IntKind.wrap .u8 (j:Int)))]:J bS).length)*2<=140737488355328))) (rc (acc++([(bS.mk (IntKind.wrap .u8 (k:Int)) (IntKind.wrap .u8 (j:Int)))]:J bS),aB ((j:Int)+1),YB))=some r:=by
    intro YB h3;rw [gT bE om,cG om];exact hrc _ ⟨j+1,rfl,om,bE,h3⟩ bE
   by_cases hj2:j<255
   ·rw [cM om,cG om,Cw om om om,aD]
    dsimp only
    cases DI.getD (Int.toNat ((j+1:Nat):Int)) false with
    | true=>exact ao9 _ ⟨j+1,rfl,om,om,hl2⟩ bE
    | false=>
     rw [aO];have:=hend DI hl2;rw [cG om] at this;exact this
   ·rw [cf om,aD]
    exact hend DI hl2
 ·rw [cf om]
  exact⟨_,om,rfl⟩
def mo(p:aF):Prop:=(p.fKind=1->0<p.fText.length)/\p.fText.length<=10/\p.cH.length<=256
theorem PI(F:Nat)(x:J eA)(i:Nat)(hF:x.length+1000<F)(hx:x.length<50000000)(hc:Qx x)(hi:i<x.length):
  ∃r:aF×Int×Bool,(r.2.2=true->mo r.1/\∃e:Nat,r.2.1=(e:Int)/\i<e/\e<=x.length)/\mX F x (i:Int)=some r:=by
 unfold mX;have hw1:aB ((i:Int)+1)=((i+1:Nat):Int):=cG om;rw [hw1,gF,aD,gF,aD,aK,aD,cG om,aK,aD]
 obtain⟨s0,hs0,hs1,hs2⟩:∃s0:Nat,cond (cond (dZ x (i+1) 33) true (dZ x (i+1) 94)) (((i+1+1:Nat):Int)) ((i+1:Nat):Int)=(s0:Int)/\i<s0/\s0<=i+2:=by
  cases (cond (dZ x (i+1) 33) true (dZ x (i+1) 94))
  ·exact⟨i+1,rfl,om,om⟩
  ·exact⟨i+2,rfl,om,om⟩
 rw [hs0];refine ig _ (fun s:Int×Bool×J Bool=>∃k:Nat,s.1=(k:Int)/\i<k/\k<=x.length+2/\s.2.2.length=256) (fun s=>x.length+2-s.1.toNat) ?_ F _ ⟨s0,rfl,hs1,om,si⟩ bE;rintro⟨ii,fi,st⟩ ⟨k,h0,hk,hk2,hl⟩ rc hrc;dsimp only at h0 hl⊢;subst h0;by_cases DJ:k<x.length
 ·rw [cM om,gF,aD,aK,aD]
  have e2:cond (dZ x k 93) (!fi,st) (false,st)=((dZ x k 93 && !fi),st):=by cases dZ x k 93<;>rfl
  rw [e2];dsimp only
  cases (dZ x k 93 && !fi) with
  | true=>
   obtain⟨l,h1,h2⟩:=af0 F st om hl;rw [bf,cE (by rw [hl];rfl),h2,aD,cG om]
   exact⟨_,fun _=>⟨⟨(fun h=>absurd h (show ¬ ((4:Int)=1) by decide)),si,h1⟩,k+1,rfl,om,om⟩,rfl⟩
  | false=>
   obtain⟨r,⟨e,h1,h2,h3,h4⟩,h5⟩:=adM F x k st om om hc DJ hl;rw [aO,h5,aD];exact hrc _ ⟨e,h1,om,om,h4⟩ (by dsimp only;rw [h1];simp;omega)
 ·rw [cf om]
  exact⟨_,(fun h=>by cases h),rfl⟩
theorem aa9(F:Nat)(l:J aH)(hF:l.length<F)(qL:cA l+1000<F)(h1:l.length<1000000000)(h2:cA l<=40000000):∃p:J aF,((∀it∈p,mo it)/\p.length<=cA l)/\iG F l=some p:=by
 unfold iG;rw [Kc F l hF om h1 om,aD];have hx:(l.flatMap ri).length<=cA l:=Jc _ Us _;have hc:=YA l;generalize (l.flatMap ri)=x at hx hc;refine ig _ (fun s:J aF×Int=>∃k:Nat,s.2=(k:Int)/\k<=x.length/\s.1.length<=k/\∀it∈s.1,mo it) (fun s=>x.length-s.2.toNat) ?_ F _ ⟨0,rfl,om,si,fun it h=>by cases h⟩ bE;rintro⟨acc,ii⟩ ⟨k,h0,hk,ha,hit⟩ rc hrc;dsimp only at h0 ha hit⊢;subst h0
 have Df:∀(it:aF)(e:Nat),mo it->k<e->e<=x.length->∃p:J aF,((∀it∈p,mo it)/\p.length<=cA l)/\rc (acc++[it],(e:Int))=some p:=by
  intro it e h3 h4 h5;refine hrc _ ⟨e,rfl,h5,bE,fun y hy=>?_⟩ bE;rcases uw.1 hy with hy|hy
  ·exact hit y hy
  ·obtain rfl:=J0.1 hy;exact h3
 by_cases DJ:k<x.length
 ·rw [cM om]
  have eU:∃p:J aF,((∀it∈p,mo it)/\p.length<=cA l)/\((eY F x (k:Int) 42).bind fun x7=>
    cond x7
    (rq ((decide (acc.length+([(aF.mk 3 [] false [])]:J aF).length<=9223372036854775807))&&(decide ((acc.length+([(aF.mk 3 [] false [])]:J aF).length)*56<=140737488355328))) (rc (acc++([(aF.mk 3 [] false [])]:J aF),aB ((k:Int)+1))))
    ((eY F x (k:Int) 63).bind fun x8=>
    cond x8
    (rq ((decide (acc.length+([(aF.mk 2 [] false [])]:J aF).length<=9223372036854775807))&&(decide ((acc.length+([(aF.mk 2 [] false [])]:J aF).length)*56<=140737488355328))) (rc (acc++([(aF.mk 2 [] false [])]:J aF),aB ((k:Int)+1))))
    (rq ((decide (0<=(k:Int)))&&(decide ((k:Int)<(x.length:Int)))) (rq ((decide (acc.length+([(aF.mk 1 (b9 ([(x.getD (Int.toNat (k:Int)) cq).fb]:J Int)) false [])]:J aF).length<=9223372036854775807))&&(decide ((acc.length+([(aF.mk 1 (b9 ([(x.getD (Int.toNat (k:Int)) cq).fb]:J Int)) false [])]:J aF).length)*56<=140737488355328))) (rc (acc++([(aF.mk 1 (b9 ([(x.getD (Int.toNat (k:Int)) cq).fb]:J Int)) false [])]:J aF),aB ((k:Int)+1)))))))=some p:=by
   rw [gF,aD,gF,aD,gT bE om,gT bE om,bZ DJ,gT bE om,cG om]
   cases dZ x k 42 with
   | true=>exact Df _ _ ⟨(fun h=>absurd h de),si,si⟩ om om
   | false=>
    cases dZ x k 63 with
    | true=>exact Df _ _ ⟨(fun h=>absurd h de),si,si⟩ om om
    | false=>exact Df _ _ ⟨(fun _=>by simp [b9]),by simp [b9],si⟩ om om
  rw [gF,aD]
  cases dZ x k 91 with
  | false=>exact eU
  | true=>
   obtain⟨r,h3,h4⟩:=PI F x k om om hc DJ;rw [bf,h4,aD]
   cases h5:r.2.2 with
   | false=>exact eU
   | true=>
    obtain⟨g1,e,g2,g3,g4⟩:=h3 h5;rw [bf,gT bE om,g2];obtain⟨p,hp,hq⟩:=Df r.1 e g1 g3 g4;rw [hq];exact⟨p,hp,rfl⟩
 ·rw [cf om]
  exact⟨_,⟨hit,om⟩,rfl⟩
theorem amc{x:J fA}{i:Nat}{b:Int}(h:Cz x i b=true):i<x.length:=by
 unfold Cz at h
 simp_all
theorem ahU(F:Nat)(x:J fA)(i:Nat)(s:Bs)(hF:s.length<F)(hi:i<=x.length)(hx:x.length<500000000)(hs:s.length<500000000):∃b:Bool,(b=true->i+s.length<=x.length)/\zw F x (i:Int) s=some b:=by
 refine ig _ (fun k'=>∃k:Nat,k'=(k:Int)/\k<=s.length/\i+k<=x.length) (fun k'=>s.length-k'.toNat) ?_ F _ ⟨0,rfl,om,om⟩ bE;rintro ii ⟨k,rfl,hk,hik⟩ rc hrc;by_cases hk:k<s.length
 ·have hw:aB ((i:Int)+(k:Int))=((i+k:Nat):Int):=by grind [bI]
  rw [cM om,bZ hk,hw,iY,cG om]
  cases h:Cz x (i+k) (((s.getD (Int.toNat (k:Int)) 0).toNat:Int)) with
  | false=>simp_all
  | true=>
   have:=amc h;exact hrc _ ⟨k+1,rfl,om,om⟩ bE
 ·rw [cf om]
  grind
def CL:J lB:=(xK 0).getD []
theorem ajP(F:Nat):xK F=some CL:=rfl
theorem R3:CL.length=8:=rfl
theorem adN:∀c∈CL,c.fname.length=5/\c.rj.length<=4:=by decide
theorem aba(F:Nat)(x:J fA)(i:Nat)(hF:100<F)(hi:i<x.length)(hx:x.length<50000000):∃r:J bS×Int,(∃e:Nat,r.2=(e:Int)/\i<e/\e<=x.length/\r.1.length<=4)/\oX F x (i:Int)=some r:=by
 unfold oX;rw [ajP];refine ig _ (fun k'=>∃k:Nat,k'=(k:Int)/\k<=8) (fun k'=>8-k'.toNat) ?_ F _ ⟨0,rfl,om⟩ bE;rintro ii ⟨k,rfl,hk⟩ rc hrc;have hw1:aB ((i:Int)+1)=((i+1:Nat):Int):=cG om;have zu:aB ((i:Int)+2)=((i+2:Nat):Int):=by grind [bI]
 have VO:aB ((i:Int)+3)=((i+3:Nat):Int):=by grind [bI]
 by_cases hk:k<CL.length
 ·have hm:=adN _ (jN hk)
  rw [cM om,bZ hk,bL,gd hk,cG om];generalize CL[k]=c at hm;rw [qZ bE,qZ bE];have hl:((([91,58]:Bs)++c.fname)++([58,93]:Bs)).length=9:=by simp;omega
  obtain⟨b,h1,h2⟩:=ahU F x i ((([91,58]:Bs)++c.fname)++([58,93]:Bs)) om om om om;rw [h2,aD];rw [hl] at h1⊢
  cases b with
  | true=>
   have:=h1 rfl;have hw:aB ((i:Int)+((9:Nat):Int))=((i+9:Nat):Int):=by grind [bI]
   rw [bZ hk,hw]
   exact⟨_,⟨i+9,rfl,om,om,hm.2⟩,rfl⟩
  | false=>
   have h8:k<8:=by rw [<-R3];exact hk
   exact hrc _ ⟨k+1,rfl,om⟩ bE
 ·rw [cf om,bZ hi,hw1,zu,VO,iY,aD,iY,aK,aD,aD,aK,aD]
  cases h4:cond (cond (Cz x (i+1) 45) (decide (((i+2:Nat):Int)<(x.length:Int))) false) (!Cz x (i+2) 93) false with
  | false=>exact⟨_,⟨i+1,rfl,om,om,si⟩,rfl⟩
  | true=>
   have h5:i+2<x.length:=by
    grind
   rw [bZ h5];cases decide ((x.getD (Int.toNat (i:Int)) iI).fb<=(x.getD (Int.toNat ((i+2:Nat):Int)) iI).fb)
   ·exact⟨_,⟨i+3,rfl,om,om,si⟩,rfl⟩
   ·exact⟨_,⟨i+3,rfl,om,om,si⟩,rfl⟩
theorem akz(F:Nat)(l:J bS)(b:Int)(hF:l.length<F)(hl:l.length<500000000):∃r,uK F l b=some r:=by
 obtain⟨r,-,h⟩:∃r:Bool,True/\uK F l b=some r:=by
  refine ig _ (fun k'=>∃k:Nat,k'=(k:Int)/\k<=l.length) (fun k'=>l.length-k'.toNat) ?_ F _ ⟨0,rfl,om⟩ bE;rintro ii ⟨k,rfl,hk⟩ rc hrc;by_cases hk:k<l.length
  ·rw [cM om,bZ hk,bZ hk,aK,cG om]
   cases cond (decide ((l.getD (Int.toNat (k:Int)) fY).pT<=b)) (decide (b<=(l.getD (Int.toNat (k:Int)) fY).jO)) false with
   | true=>simp_all
   | false=>exact hrc _ ⟨k+1,rfl,om⟩ bE
  simp_all [cf,trivial]
 exact⟨r,h⟩
theorem ahV(F:Nat)(l:J bS)(hF:l.length+300<F)(hl:l.length<500000000):∃r:J bS,r.length<=256/\G5 F l=some r:=by
 refine ig _ (fun s=>∃k:Nat,s.1=(k:Int)/\k<=256/\s.2.length<=k) (fun s=>256-s.1.toNat) ?_ F _ ⟨0,rfl,om,si⟩ bE;rintro⟨ii,o⟩ ⟨k,h0,hk,ho⟩ rc hrc;dsimp only at h0 ho⊢;subst h0;by_cases hk:k<256
 ·obtain⟨b,hb⟩:=akz F l (IntKind.wrap .u8 (k:Int)) om hl
  rw [cM om,hb,aD,cG om]
  cases b with
  | false=>exact hrc _ ⟨k+1,rfl,om,by dsimp only;omega⟩ bE
  | true=>
   by_cases h0:0<o.length
   ·have hw:=uE om h0
    rw [cM om,hw,bZ om,aD];dsimp only
    cases (aB ((aB ((o.getD (Int.toNat ((o.length-1:Nat):Int)) fY).jO))+1))==(k:Int) with
    | true=>
     rw [bZ om]
     exact hrc _ ⟨k+1,rfl,om,bE⟩ bE
    | false=>
     rw [gT bE om];exact hrc _ ⟨k+1,rfl,om,bE⟩ bE
   ·rw [cf om,aD]
    rw [gT bE om];exact hrc _ ⟨k+1,rfl,om,bE⟩ bE
 grind
theorem YC(F:Nat)(x:J fA)(i:Nat)(hF:4*x.length+1000<F)(hx:x.length<40000000)(hi:i<x.length):
  ∃r:aF×Int×Bool,(r.2.2=true->mo r.1/\∃e:Nat,r.2.1=(e:Int)/\i<e/\e<=x.length)/\p7 F x (i:Int)=some r:=by
 unfold p7;have hw1:aB ((i:Int)+1)=((i+1:Nat):Int):=cG om;rw [hw1,iY,aD,iY,aD,aK,aD,cG om,aK,aD]
 have h0:∃y:Int×Int×Bs×Bool×J bS,cond (cond (Cz x (i+1) 33) true (Cz x (i+1) 94)) (((i+1+1:Nat):Int),(aF.mk 4 [] false []).fKind,(aF.mk 4 [] false []).fText,true,(aF.mk 4 [] false []).cH) (((i+1:Nat):Int),(aF.mk 4 [] false []).fKind,(aF.mk 4 [] false []).fText,(aF.mk 4 [] false []).Br,(aF.mk 4 [] false []).cH)=y/\(∃s0:Nat,y.1=(s0:Int)/\i<s0/\s0<=i+2)/\y.2.1=4/\y.2.2.1=[]:=by
  cases (cond (Cz x (i+1) 33) true (Cz x (i+1) 94))
  ·exact⟨_,rfl,⟨i+1,rfl,om,om⟩,rfl,rfl⟩
  ·exact⟨_,rfl,⟨i+2,rfl,om,om⟩,rfl,rfl⟩
 obtain⟨y,hy,⟨s0,hs0,hs1,hs2⟩,hy2,hy3⟩:=h0;rw [hy,hs0,hy2,hy3];refine ig _ (fun s=>∃k:Nat,s.1=(k:Int)/\i<k/\k<=x.length+2/\s.2.1.length<=4*k) (fun s=>x.length+2-s.1.toNat) ?_ F _ ⟨s0,rfl,hs1,om,si⟩ bE;rintro⟨ii,sp,fi⟩ ⟨k,h0,hk,hk2,hl⟩ rc hrc;dsimp only at h0 hl⊢;subst h0;rw [iY,aD,aK,aK,aD];by_cases DJ:k<x.length
 ·rw [cM (show (k:Int)<(x.length:Int) by omega)]
  cases (cond fi true (!Cz x k 93)) with
  | true=>
   obtain⟨r,⟨e,h1,h2,h3,h4⟩,h5⟩:=aba F x k om DJ om;rw [h5,aD,gT om om]
   exact hrc _ ⟨e,h1,om,om,by grind⟩ (by grind)
  | false=>
   obtain⟨r,h1,h2⟩:=ahV F sp om om;rw [cf (show ¬ (x.length:Int)<=(k:Int) by omega),h2,cG om];exact⟨_,fun _=>⟨⟨(fun h=>absurd h (show ¬ ((4:Int)=1) by decide)),si,h1⟩,k+1,rfl,om,om⟩,rfl⟩
 simp_all [cf,aO,cM]
theorem YE(F:Nat)(l:J aH)(hF:l.length<F)(qL:4*cA l+1000<F)(h1:l.length<1000000000)(h2:cA l<=20000000):∃p:J aF,((∀it∈p,mo it)/\p.length<=cA l)/\jJ F l=some p:=by
 unfold jJ;rw [PG F l hF om h1 om];have hx:(l.flatMap MJ).length<=cA l:=Jc _ ach _;generalize (l.flatMap MJ)=x at hx;refine ig _ (fun s=>∃k:Nat,s.2=(k:Int)/\k<=x.length/\s.1.length<=k/\∀it∈s.1,mo it) (fun s=>x.length-s.2.toNat) ?_ F _ ⟨0,rfl,om,si,fun it h=>by cases h⟩ bE;rintro⟨acc,ii⟩ ⟨k,h0,hk,ha,hit⟩ rc hrc;dsimp only at h0 ha hit⊢;subst h0
 have Df:∀(it:aF)(e:Nat),mo it->k<e->e<=x.length->∃p:J aF,((∀it∈p,mo it)/\p.length<=cA l)/\rc (acc++[it],(e:Int))=some p:=by
  intro it e h3 h4 h5;refine hrc _ ⟨e,rfl,h5,bE,fun y hy=>?_⟩ bE
  grind
 by_cases DJ:k<x.length
 ·rw [cM om,iY,aD,iY,aD,gT bE om,gT bE om,cG om]
  cases Cz x k 42 with
  | true=>exact Df _ _ ⟨(fun h=>absurd h (show ¬ ((3:Int)=1) by decide)),si,si⟩ om om
  | false=>
   cases Cz x k 63 with
   | true=>exact Df _ _ ⟨(fun h=>absurd h (show ¬ ((2:Int)=1) by decide)),si,si⟩ om om
   | false=>
    rw [iY,aD]
    have eU:∃p:J aF,((∀it∈p,mo it)/\p.length<=cA l)/\(rq ((decide (0<=(k:Int)))&&(decide ((k:Int)<(x.length:Int)))) (rq ((decide (acc.length+([(aF.mk 1 (b9 ([(x.getD (Int.toNat (k:Int)) iI).fb]:J Int)) false [])]:J aF).length<=9223372036854775807))&&(decide ((acc.length+([(aF.mk 1 (b9 ([(x.getD (Int.toNat (k:Int)) iI).fb]:J Int)) false [])]:J aF).length)*56<=140737488355328))) (rc (acc++([(aF.mk 1 (b9 ([(x.getD (Int.toNat (k:Int)) iI).fb]:J Int)) false [])]:J aF),aB ((k:Int)+1)))))=some p:=by
     rw [bZ DJ,gT bE om,cG om];exact Df _ _ ⟨(fun _=>by simp [b9]),by simp [b9],si⟩ om om
    cases Cz x k 91 with
    | false=>exact eU
    | true=>
     obtain⟨r,h3,h4⟩:=YC F x k om om DJ;rw [h4,aD]
     cases h5:r.2.2 with
     | false=>exact eU
     | true=>
      obtain⟨g1,e,g2,g3,g4⟩:=h3 h5;rw [gT bE om,g2];obtain⟨p,hp,hq⟩:=Df r.1 e g1 g3 g4;rw [hq];exact⟨p,hp,rfl⟩
 grind
theorem Bt(F:Nat)(l:J bS)(hF:l.length<F)(hl:l.length<500000000):∃r,mY F l=some r:=by
 obtain⟨r,-,h⟩:∃r:Bool,True/\mY F l=some r:=by
  refine ig _ (fun k'=>∃k:Nat,k'=(k:Int)/\k<=l.length) (fun k'=>l.length-k'.toNat) ?_ F _ ⟨0,rfl,om⟩ bE;rintro ii ⟨k,rfl,hk⟩ rc hrc;by_cases hk:k<l.length
  ·rw [cM om,bZ hk,bZ hk]
   have e:∃b,(cond (decide ((l.getD (Int.toNat (k:Int)) fY).jO<(l.getD (Int.toNat (k:Int)) fY).pT)) (some true) (cond (decide (0<(k:Int))) (rq ((decide (0<=(k:Int)))&&(decide ((k:Int)<(l.length:Int)))) (rq ((decide (0<=aB ((k:Int)-1)))&&(decide (aB ((k:Int)-1)<(l.length:Int)))) (some (decide (aB ((l.getD (Int.toNat (k:Int)) fY).pT)<=aB ((aB ((l.getD (Int.toNat (aB ((k:Int)-1))) fY).jO))+1)))))) (some false)):O Bool)=some b:=by
    by_cases h0:0<k
    ·rw [bZ hk,uE om h0,cM (show (0:Int)<(k:Int) by omega),bU om om,aK];exact⟨_,rfl⟩
    simp_all [cf,aK]
   obtain⟨b,hb⟩:=e;rw [hb,cG om]
   cases b with
   | true=>simp_all
   | false=>exact hrc _ ⟨k+1,rfl,om⟩ bE
  simp_all [cf,trivial]
 exact⟨r,h⟩
theorem adO(F:Nat)(p:J aF)(hF:p.length+300<F)(hp:p.length<50000000)(hit:∀it∈p,mo it):∃b,kj F p=some b:=by
 obtain⟨b,-,h⟩:∃b:Bool,True/\kj F p=some b:=by
  refine ig _ (fun s=>∃k:Nat,s=(k:Int)/\k<=p.length) (fun s=>p.length-s.toNat) ?_ F _ ⟨0,rfl,om⟩ bE;rintro ii ⟨k,rfl,hk⟩ rc hrc;by_cases hk:k<p.length
  ·have hI:=hit _ (jN hk)
   rw [cM om,bZ hk,bL,gd hk];generalize p[k]=it at hI;obtain⟨c,hc⟩:=Bt F it.cH (by have:=hI.2.2;omega) (by have:=hI.2.2;omega);simp only [aK,aD,hc];rw [cG om]
   cases (cond (cond (cond (cond (decide (it.fKind<1)) true (decide (4<it.fKind))) true ((it.fText.length:Int) != cond (it.fKind==1) 1 0)) true (cond (it.fKind != 4) (cond it.Br true (decide (0<(it.cH.length:Int)))) false)) true !c) with
   | true=>simp_all
   | false=>exact hrc _ ⟨k+1,rfl,om⟩ bE
  simp_all [cf,trivial]
 exact⟨b,h⟩
theorem YF(F:Nat)(p:J aF)(hF:p.length+300<F)(hp:p.length<50000000)(hit:∀it∈p,mo it):∃r,th F p=some r:=by
 obtain⟨b,hb⟩:=adO F p hF hp hit
 obtain⟨b,-,h⟩:∃b:Bs×Bool,True/\th F p=some b:=by
  refine ig _ (fun s=>∃k:Nat,s.2=(k:Int)/\k<=p.length/\s.1.length<=10*k) (fun s=>p.length-s.2.toNat) ?_ F _ ⟨0,rfl,om,si⟩ bE;rintro⟨acc,ii⟩ ⟨k,h0,hk,ha⟩ rc hrc;subst h0;by_cases hk:k<p.length
  ·have hI:=hit _ (jN hk)
   have hl:=hI.2.1;rw [cM om,bZ hk,bZ hk,bL,gd hk]
   cases (p[k].fKind != 1) with
   | true=>simp_all
   | false=>
    rw [af1 om,cG om];exact hrc _ ⟨k+1,rfl,om,by grind⟩ bE
  simp_all [cf,aD,aK,trivial]
 exact⟨b,h⟩
def CA(l:J aH):Bs:=l.flatMap fun r=>r.fText
theorem Fb:∀l:J aH,(CA l).length=cA l
 | []=>rfl
 | r::l=>by
  have:=Fb l;unfold CA cA at *;simp only [Rz,yb,ld,XH];omega
theorem af2(s:Bs):Je (di s)=true:=by
 unfold Je di;rw [mL];intro x hx;obtain⟨b,-,rfl⟩:=xZ.1 hx;have:=b.toNat_lt;simp;omega
theorem apa(F:Nat)(s:Bs)(c:Bool)(buf:J Int)(h:buf.length+s.length<=100000000):iJ F s c buf=some ((s.length:Int),true,buf++di s):=by
 unfold iJ;rw [show od F c buf=some (true,buf) by cases c<;>rfl,aD,gT (by simp [di];omega) om]
theorem Qz(F:Nat)(l:J aH)(hF:l.length<F)(h1:l.length<1000000000)(h2:cA l<=100000000):oe F l=some (CA l):=by
 unfold oe;refine cW (fun x=>∃k:Nat,x.1=(k:Int)/\k<=l.length/\x.2.2=di (CA (l.take k))) (fun x=>l.length-x.1.toNat) ?_ F _ ⟨0,rfl,om,by simp [CA,di]⟩ bE;rintro⟨ii,c,buf⟩ ⟨k,h0,hk,ha⟩;dsimp only at h0 ha⊢;subst h0;by_cases hk:k<l.length
 ·left
  have hs:=pY l k hk;have hle:=tJ l (k+1);refine⟨(((k+1:Nat):Int),true,di (CA (l.take (k+1)))),⟨k+1,rfl,om,rfl⟩,bE,fun rc=>?_⟩;have Jd:buf.length=cA (l.take k):=by rw [ha,di,sA,Fb]
  rw [cM om,bZ hk,bL,gd hk,apa F _ c buf om,aD,cG om];show rc (((k+1:Nat):Int),true,buf++di l[k].fText)=_;rw [ha,CA,CA,MK _ _ _ hk];simp [di]
 ·right
  obtain rfl:k=l.length:=om;intro rc;rw [yf] at ha;subst ha;have:(di (CA l)).length=cA l:=by rw [di,sA,Fb]
  rw [cf om];unfold mF;rw [cE (by rw [dN rfl,af2,dN om];rfl),Yx];rfl
theorem adP{F:Nat}{r:J aH}(hF:(zb r).length<F)(h0:(zb r).length<1000000000)(h1:r.length<=1000000000)(h2:cA r<=1000000000)(h:∀c∈zb r,∃p x,jJ F c=some p/\th F p=some x):∃b,(b=true->True)/\tj F r=some b:=by
 unfold tj RI;rw [bU h1 h2,aD];have hB:∀(F2:Nat)(x:O Bool),(∃b,True/\x=some b)->∃b,(b=true->True)/\x=some b:=fun _ x ⟨b,_,h⟩=>⟨b,fun _=>trivial,h⟩;refine hB F _ (Eg (fun _=>True) (fun x:Int×Int×Int=>∃k:Nat,x.2.2=(k:Int)/\k<=(zb r).length) (fun x=>(zb r).length-x.2.2.toNat) ?_ F (0,0,0) ⟨0,rfl,om⟩ bE)
 ·rintro⟨a,b,ii⟩ ⟨k,h0,hk⟩
  dsimp only at h0⊢;subst h0;by_cases hk:k<(zb r).length
  ·left
   obtain⟨p,x,e1,e2⟩:=h (zb r)[k] (jN hk);refine⟨(cond (!x.2) (aB (a+1),b,((k+1:Nat):Int)) (cond (x.1==[46,46]) (a,aB (b+1),((k+1:Nat):Int)) (a,b,((k+1:Nat):Int)))),⟨k+1,?_,om⟩,?_,fun rc=>?_⟩
   ·cases x.2<;>cases (x.1==[46,46])<;>rfl
   ·cases x.2<;>cases (x.1==[46,46])<;>simp<;>omega
   ·rw [cM om,bZ hk,bL,gd hk,e1,aD,e2,aD,cG om]
    cases x.2<;>cases (x.1==[46,46])<;>rfl
  ·right
   refine⟨cond (decide (a<=2)) true (b==0),trivial,fun rc=>?_⟩;rw [cf om,aK,aD]
theorem ahW(l:J aH):(zb l).length<=cA l+1:=by
 have:=Qr l ([],[]);unfold zb fP;simp only [Fp,yb,C8,JY] at *;omega
theorem adQ:∀ {c:J aH},(∀r∈c,r.fText.length=1)->cA c=c.length
 | [],_=>rfl
 | r::c,h=>by
  have:=adQ (c:=c) fun x hx=>h x (by simp [hx]);have:=h r si;unfold cA at *;simp only [ld,XH,C8];omega
def adR(p n:Bs):Bs:=cond (p==[47]) ([47]++n) ((p++[47])++n)
def apb(l:J bu)(p:Bs):Bool:=(J9 l p).elim false fun f=>f.nH
def amd(n:Bs):Bool:=n.take 1==[46]
def apc(c:bA):Bool:=decide (0<c.qz.length)&&((c.qz.getD 0 fK).fKind==1&&(c.qz.getD 0 fK).fText==[46])
def an3(mt:J aF->Bs->Bool)(c:bA)(n:Bs):Bool:=!((amd n && !apc c) || !mt c.qz n)
def W(l:J bu)(mt:J aF->Bs->Bool):J bA->Bs->J (J Bs)
 | [],p=>[[]]
 | c::cs,p=>cond (!apb l p) [] (cond (!c.qA) (((an2 l p).filter (an3 mt c)).flatMap fun n=>(W l mt cs (adR p n)).map (n :: ·))
   (cond (c.fD==[]||c.fD==[46]) ((W l mt cs p).map (c.fD :: ·)) (cond (c.fD==[46,46]) ((W l mt cs (p5 p)).map (c.fD :: ·))
   (cond (J9 l (adR p c.fD)).isNone [] ((W l mt cs (adR p c.fD)).map (c.fD :: ·))))))
section
variable {F : Nat} {l : J bu} {mt : J aF -> Bs -> Bool} {parts : J bA}
abbrev ame:=Bool×(J bu)×(J bA)×(J (dD×Bool))×(J Bs)×(J Bs)
def amf(l:J bu)(mt:J aF->Bs->Bool)(parts:J bA)(dead:J (dD×Bool)):Prop:=∀(i:Nat) p,fI cL dead (dD.mk (i:Int) p) false=true->W l mt (parts.drop i) p=[]
structure OI(parts:List bA)(i:Nat)(names:List Bs):Prop where
 len:names.length=parts.length
 lit:∀j,i<=j->∀h:j<parts.length,parts[j].qA=true->names.getD j []=parts[j].fD
 sz:∀n∈names,n.length<=300
def SOk(l:J bu)(mt:J aF->Bs->Bool)(parts:J bA)(i:Nat)(path:Bs)(names found:J Bs)(r:ame):Prop:=
 ∃ajQ names',r=(!(W l mt (parts.drop i) path).isEmpty,l,parts,ajQ,names',found++(W l mt (parts.drop i) path).map fun ws=>zq (names.take i++ws))/\amf l mt parts ajQ/\OI parts i names'/\names'.take i=names.take i
theorem OI.up{i:Nat}{names:J Bs}(h:OI parts i names):OI parts (i+1) names:=⟨h.len,fun j hj=>h.lit j om,h.sz⟩
theorem YG{i:Nat}{names:J Bs}(h:OI parts i names)(hi:i<parts.length)(hl:parts[i].qA=true):names.take (i+1)=names.take i++[parts[i].fD]:=by
 have h1:i<names.length:=by rw [h.len];exact hi
 rw [pR h1];have:=h.lit i (dY _) hi hl;rw [gd h1] at this;rw [this]
theorem SOk.lit{i:Nat}{path path':Bs}{names found:J Bs}{r:ame}(hn:OI parts i names)(hi:i<parts.length)(hl:parts[i].qA=true)
  (hW:W l mt (parts.drop i) path=(W l mt (parts.drop (i+1)) path').map (parts[i].fD :: ·)) (h:SOk l mt parts (i+1) path' names found r):SOk l mt parts i path names found r:=by
 obtain⟨d,n',rfl,h1,h2,h3⟩:=h
 have h4:n'.take i=names.take i:=by
  have:=congrArg (List.take i) h3;rwa [Rv,Rv,XE om] at this
 refine⟨d,n',?_,h1,⟨h2.len,fun j hj hlt hlj=>?_,h2.sz⟩,h4⟩
 ·rw [hW,YG hn hi hl]
  simp only [Ba,List.isEmpty_map,Fo,List.singleton_append];rfl
 ·by_cases e:j=i
  ·subst e
   have h5:=YG hn hi hl;rw [<-h3] at h5;have h6:j<n'.length:=by rw [h2.len];exact hi
   rw [pR h6,h4] at h5;have h7:=List.append_cancel_left h5;rw [gd h6];exact List.singleton_inj.1 h7
  ·exact h2.lit j om hlt hlj
end
theorem Bu(a b:J aH):cA (a++b)=cA a+cA b:=by unfold cA;rw [JZ,adj]
def Fx(e:eA):fA:=fA.mk e.fb e.ke
theorem akA(r:aH):MJ r=(ri r).map Fx:=by
 unfold MJ ri;cases MI r.bO
 ·rw [aO,aO,Ba];rfl
 ·rfl
theorem an4(l:J aH):l.flatMap MJ=(l.flatMap ri).map Fx:=by
 induction l with
 | nil=>rfl
 | cons r l ih=>rw [Rz,Rz,JZ,ih,akA]
theorem jc(x:J eA)(i:Nat)(b:Int):Cz (x.map Fx) i b=dZ x i b:=by
 unfold Cz dZ;rw [sA];by_cases h:i<x.length
 ·rw [gd (l:=x.map Fx) (by rw [sA];exact h),Qk,gd h];rfl
 ·rw [dF h];rfl
def vC(x:J eA)(i:Nat)(s:Bs):Bool:=(List.range s.length).all fun j=>dZ x (i+j) ((s.getD j 0).toNat:Int)
theorem akB(F:Nat)(x:J eA)(i:Nat)(s:Bs)(hF:s.length<F)(hi:i<50000000)(hs:s.length<50000000):zw F (x.map Fx) (i:Int) s=some (vC x i s):=by
 unfold zw;refine cW (fun k':Int=>∃k:Nat,k'=(k:Int)/\k<=s.length/\∀j,j<k->dZ x (i+j) ((s.getD j 0).toNat:Int)=true) (fun k'=>s.length-k'.toNat) ?_ F _ ⟨0,rfl,om,fun j h=>om⟩ bE;rintro ii ⟨k,rfl,hk,hj⟩;by_cases hk:k<s.length
 ·have hw:aB ((i:Int)+(k:Int))=((i+k:Nat):Int):=by rw [bI om];omega
  cases h:dZ x (i+k) ((s.getD k 0).toNat:Int) with
  | true=>
   left;refine⟨((k+1:Nat):Int),⟨k+1,rfl,om,fun j hj2=>?_⟩,bE,fun rc=>?_⟩
   ·by_cases e:j=k
    ·subst e;exact h
    ·exact hj j om
   ·rw [cM om,bZ hk,hw,iY,jc,aD,bL,h,cG om];rfl
  | false=>
   right;intro rc;rw [cM om,bZ hk,hw,iY,jc,aD,bL,h]
   have:vC x i s=false:=by
    unfold vC;rw [List.all_eq_false];exact⟨k,XK.2 hk,by rw [h];simp⟩
   rw [this];rfl
 ·right
  obtain rfl:k=s.length:=om;intro rc;rw [cf om]
  have:vC x i s=true:=by
   unfold vC;rw [mL];intro j hj2;exact hj j (XK.1 hj2)
  rw [this]
theorem yJ{x:J eA}{i:Nat}{b:Int}:dZ x i b=true↔i<x.length/\(x.getD i cq).ke=true/\(x.getD i cq).fb=b:=by
 unfold dZ;rw [cw,cw,fq,oO]
theorem adS(x:J eA)(i:Nat)(n:Bs)(h5:n.length=5)(YH:∀b∈n,97<=b.toNat/\b.toNat<=122):
  vC x i ((([91,58]:Bs)++n)++([58,93]:Bs))=((dZ x i 91&&dZ x (i+1) 58)&&((dZ x (i+2+(jF x (i+2)).length) 58&&dZ x (i+2+(jF x (i+2)).length+1) 93)&&jF x (i+2)==di n)):=by
 match n,h5 with
 | [a,b,c,d,e],_=>
  have ha:=YH a si;have hb:=YH b si;have hc:=YH c si;have hd:=YH d si;have he:=YH e si;rw [sC];unfold vC;rw [show ((([91,58]:Bs)++[a,b,c,d,e])++([58,93]:Bs)).length=9 from rfl]
  have apd:((List.range 9).all fun j=>dZ x (i+j) ((((([91,58]:Bs)++[a,b,c,d,e])++([58,93]:Bs)).getD j 0).toNat:Int))=true ↔
    (dZ x i 91=true/\dZ x (i+1) 58=true/\dZ x (i+2) (a.toNat:Int)=true/\dZ x (i+3) (b.toNat:Int)=true/\dZ x (i+4) (c.toNat:Int)=true/\dZ x (i+5) (d.toNat:Int)=true/\dZ x (i+6) (e.toNat:Int)=true/\dZ x (i+7) 58=true/\dZ x (i+8) 93=true):=by
   rw [mL];constructor
   ·intro h
    exact⟨h 0 si,h 1 si,h 2 si,h 3 si,h 4 si,h 5 si,h 6 si,h 7 si,h 8 si⟩
   ·rintro⟨h0,h1,h2,h3,h4,h5,h6,h7,h8⟩ j hj
    have hj:=XK.1 hj
    match j,hj with
    | 0,_=>exact h0
    | 1,_=>exact h1
    | 2,_=>exact h2
    | 3,_=>exact h3
    | 4,_=>exact h4
    | 5,_=>exact h5
    | 6,_=>exact h6
    | 7,_=>exact h7
    | 8,_=>exact h8
  rw [apd];have hat:=afY x (i+2);have hend:=acj x (i+2);simp only [cw,oO];constructor
  ·rintro⟨h0,h1,h2,h3,h4,h5,h6,h7,h8⟩
   have g2:=yJ.1 h2;have g3:=yJ.1 h3;have g4:=yJ.1 h4;have g5:=yJ.1 h5;have g6:=yJ.1 h6;have g7:=yJ.1 h7
   have hl:∀(k:Nat)(v:UInt8),97<=v.toNat/\v.toNat<=122->(x.getD k cq).ke=true/\(x.getD k cq).fb=(v.toNat:Int)->yp (x.getD k cq)=true:=by
    intro k v hv hk;unfold yp;rw [hk.1,hk.2,dT om,dT om];rfl
   have gP:x.drop (i+2)=x.getD (i+2) cq::x.getD (i+3) cq::x.getD (i+4) cq::x.getD (i+5) cq::x.getD (i+6) cq::x.getD (i+7) cq::x.drop (i+8):=by
    rw [y5 (show i+2<x.length by omega),y5 (show i+2+1<x.length by omega),y5 (show i+2+1+1<x.length by omega),y5 (show i+2+1+1+1<x.length by omega),y5 (show i+2+1+1+1+1<x.length by omega),y5 (show i+2+1+1+1+1+1<x.length by omega)];rw [gd (l:=x) (i:=i+2) om,gd (l:=x) (i:=i+3) om,gd (l:=x) (i:=i+4) om,gd (l:=x) (i:=i+5) om,gd (l:=x) (i:=i+6) om,gd (l:=x) (i:=i+7) om]
   have hnl:yp (x.getD (i+7) cq)=false:=by
    unfold yp;rw [g7.2.2];cases (x.getD (i+7) cq).ke<;>rfl
   have hrun:jF x (i+2)=di [a,b,c,d,e]:=by
    unfold jF;rw [gP];simp only [List.takeWhile,hl _ a ha g2.2,hl _ b hb g3.2,hl _ c hc g4.2,hl _ d hd g5.2,hl _ e he g6.2,hnl];simp only [ld,Xt,g2.2.2,g3.2.2,g4.2.2,g5.2.2,g6.2.2];rfl
   rw [hrun];exact⟨⟨h0,h1⟩,⟨h7,h8⟩,rfl⟩
  ·rintro⟨⟨h0,h1⟩,⟨h7,h8⟩,hr⟩
   rw [hr] at hat h7 h8
   have hk:∀(k:Nat)(v:UInt8),k<5->(di [a,b,c,d,e]).getD k 0=(v.toNat:Int)->dZ x (i+2+k) (v.toNat:Int)=true:=by
    intro k v hk e1;obtain⟨q1,q2,q3⟩:=hat k hk;unfold yp at q3;simp only [cw] at q3;exact yJ.2 ⟨q1,q3.1,by rw [<-q2];exact e1⟩
   exact⟨h0,h1,hk 0 a om rfl,hk 1 b om rfl,hk 2 c om rfl,hk 3 d om rfl,hk 4 e om rfl,h7,h8⟩
def YI(l:J bS)(b:Nat):J bS:=cond (decide (0<l.length)&&(l.getD (l.length-1) fY).jO+1==(b:Int)) (l.set (l.length-1) (bS.mk (l.getD (l.length-1) fY).pT (b:Int))) (l++[bS.mk (b:Int) (b:Int)])
def DD(P:Nat->Bool):Nat->J bS
 | 0=>[]
 | k+1=>cond (P k) (YI (DD P k) k) (DD P k)
theorem akC(l:J bS)(b:Nat):(YI l b).length<=l.length+1:=by
 unfold YI
 grind
theorem YJ(P:Nat->Bool):∀k,(DD P k).length<=k
 | 0=>by simp [DD]
 | k+1=>by
  have ih:=YJ P k;have:=akC (DD P k) k;unfold DD;cases P k
  ·rw [aO];omega
  ·rw [bf];omega
theorem Uu(P:Nat->Bool):∀k,∀s∈DD P k,∃h:Nat,h<k/\s.jO=(h:Int)/\P h=true
 | 0,s,hs=>by cases hs
 | k+1,s,hs=>by
  have ih:=Uu P k;unfold DD at hs
  cases hP:P k with
  | false=>
   rw [hP] at hs;obtain⟨h,h1,h2,h3⟩:=ih s hs
   exact⟨h,om,h2,h3⟩
  | true=>
   rw [hP] at hs;unfold YI at hs
   cases hb:(decide (0<(DD P k).length)&&((DD P k).getD ((DD P k).length-1) fY).jO+1==(k:Int)) with
   | true=>
    rw [hb] at hs;rcases List.mem_or_eq_of_mem_set hs with hs|rfl
    ·obtain⟨h,h1,h2,h3⟩:=ih s hs
     exact⟨h,om,h2,h3⟩
    ·exact⟨k,om,rfl,hP⟩
   | false=>
    rw [hb] at hs;rcases uw.1 hs with hs|hs
    ·obtain⟨h,h1,h2,h3⟩:=ih s hs
     exact⟨h,om,h2,h3⟩
    ·obtain rfl:=J0.1 hs
     exact⟨k,om,rfl,hP⟩
theorem amg(P:Nat->Bool)(c:Nat)(h:P c=true)(h0:c=0\/P (c-1)=false):DD P (c+1)=DD P c++[bS.mk (c:Int) (c:Int)]:=by
 rw [DD,h,bf,YI]
 have:(decide (0<(DD P c).length)&&((DD P c).getD ((DD P c).length-1) fY).jO+1==(c:Int))=false:=by
  by_cases hl:0<(DD P c).length
  ·grind [gd,List.getElem_mem,Uu,beq_eq_false_iff_ne]
  ·rw [dF hl];rfl
 rw [this,aO]
theorem af3(P:Nat->Bool)(c:Nat)(h0:c=0\/P (c-1)=false):∀(k:Nat),(∀j,c<=j->j<=c+k->P j=true)->DD P (c+k+1)=DD P c++[bS.mk (c:Int) ((c+k:Nat):Int)]
 | 0,h=>amg P c (h c (dY _) om) h0
 | k+1,h=>by
  have ih:=af3 P c h0 k fun j h1 h2=>h j h1 om;rw [show c+(k+1)+1=(c+k+1)+1 by omega,DD,h (c+k+1) om om,ih,YI];have hl:(DD P c++[bS.mk (c:Int) ((c+k:Nat):Int)]).length-1=(DD P c).length:=by simp
  have hg:(DD P c++[bS.mk (c:Int) ((c+k:Nat):Int)]).getD ((DD P c++[bS.mk (c:Int) ((c+k:Nat):Int)]).length-1) fY=bS.mk (c:Int) ((c+k:Nat):Int):=by
   simp
  have e:((bS.mk (c:Int) ((c+k:Nat):Int)).jO+1==((c+k+1:Nat):Int))=true:=by
   rw [oO];show ((c+k:Nat):Int)+1=_;omega
  simp;omega
theorem af4(P:Nat->Bool):∀(m c:Nat),c+m=255->P c=true->∃k,c+k<=255/\(∀j,c<=j->j<=c+k->P j=true)/\(c+k=255\/P (c+k+1)=false)
 | 0,c,h,hP=>⟨0,om,(fun j h1 h2=>(show j=c by omega)▸hP),.inl om⟩
 | m+1,c,h,hP=>by
  cases h1:P (c+1) with
  | false=>exact⟨0,om,(fun j h1 h2=>(show j=c by omega)▸hP),.inr h1⟩
  | true=>
   obtain⟨k,g1,g2,g3⟩:=af4 P m (c+1) om h1;refine⟨k+1,om,fun j h2 h3=>?_,?_⟩
   ·grind
   grind
theorem adT{c:Nat}(h:c<256):IntKind.wrap .u8 (c:Int)=(c:Int):=by
 show ((c:Int)%256)=c;omega
theorem ahX(F:Nat)(set:J Bool)(hF:1000<F)(hs:set.length=256):p6 F set=some (DD (fun c=>set.getD c false) 256):=by
 unfold p6;rw [cE (by rw [hs];rfl)];generalize hP:(fun c=>set.getD c false)=P;have hPc:∀c,set.getD c false=P c:=fun c=>by rw [<-hP]
 refine cW (fun s:J bS×Int×J Bool=>∃c:Nat,s=(DD P c,(c:Int),set)/\c<=256/\(c<256->P c=true->c=0\/P (c-1)=false)) (fun s=>256-s.2.1.toNat) ?_ F _ ⟨0,rfl,om,fun _ _=>.inl rfl⟩ bE;rintro s ⟨c,rfl,hc,hst⟩;have hdl:=YJ P c;by_cases Jf:c<256
 ·left
  cases hb:P c with
  | false=>
   refine⟨(DD P (c+1),((c+1:Nat):Int),set),⟨c+1,rfl,om,fun _ _=>.inr (by simpa using hb)⟩,bE,fun rc=>?_⟩;dsimp only;rw [cM om,Cw om om om,bL,hPc,hb,cG om];show rc _=_
   rw [DD,hb,aO]
  | true=>
   have h0:=hst Jf hb;obtain⟨k,k1,k2,k3⟩:=af4 P (255-c) c om hb;have hrun:=af3 P c h0 k k2;refine⟨(DD P (c+k+1),((c+k+1:Nat):Int),set),⟨c+k+1,rfl,om,fun h1 h2=>?_⟩,bE,fun rc=>?_⟩
   ·simp_all
   ·dsimp only
    rw [cM om,Cw om om om,bL,hPc,hb,jD,aO];refine cW (fun s:Int×J Bool=>∃j:Nat,s=(((c+j:Nat):Int),set)/\j<=k) (fun s=>256-s.1.toNat) ?_ F _ ⟨0,rfl,om⟩ bE;rintro s ⟨j,rfl,hj⟩;by_cases hjk:j<k
    ·left
     refine⟨(((c+(j+1):Nat):Int),set),⟨j+1,rfl,om⟩,bE,fun bp=>?_⟩;dsimp only;rw [cM om,cG om,Cw om om om,aD]
     grind
    ·right
     obtain rfl:j=k:=om;intro bp;dsimp only
     have e:(cond (decide (((c+j:Nat):Int)<255)) (rq ((decide (0<=aB (((c+j:Nat):Int)+1)))&&((decide (aB (((c+j:Nat):Int)+1)<256))&&(decide (aB (((c+j:Nat):Int)+1)<(set.length:Int))))) (some (set.getD (Int.toNat (aB (((c+j:Nat):Int)+1))) false,set))) (some (false,set)):O (Bool×J Bool))=some (false,set):=by
      by_cases aqa:c+j<255
      ·rw [cM om,cG om,Cw om om om,bL,hPc]
       grind
      ·rw [cf om]
     rw [e,aD];dsimp only;rw [aO,adT om,adT om,gT bE om,cG om,hrun]
 grind
def zx(l:J bS)(b:Int):Bool:=l.any fun s=>decide (s.pT<=b)&&decide (b<=s.jO)
theorem an5(F:Nat)(l:J bS)(b:Int)(hF:l.length<F)(hl:l.length<50000000):uK F l b=some (zx l b):=by
 unfold uK;rw [qf l (fun i=>(i:Int)) (fun s=>decide (s.pT<=b)&&decide (b<=s.jO)) (fun _ _=>some true) (some false) hF (by rfl) (fun i h rc=>?_) (fun rc=>?_),Fw]
 ·rw [aK,cI];rfl
 ·rw [cM om,bZ h,bZ h,bL,gd h,aK,aD,cF,cG om]
 ·rw [cf om]
theorem Fy(F:Nat)(l:J bS)(hF:l.length+300<F)(hl:l.length<50000000):G5 F l=some (DD (fun c=>zx l (c:Int)) 256):=by
 generalize hP:(fun c:Nat=>zx l (c:Int))=P;have hPc:∀c:Nat,zx l (c:Int)=P c:=fun c=>by rw [<-hP]
 refine cW (fun s=>∃c:Nat,s=((c:Int),DD P c)/\c<=256) (fun s=>256-s.1.toNat) ?_ F _ ⟨0,rfl,om⟩ bE;rintro s ⟨c,rfl,hc⟩;have hdl:=YJ P c;by_cases Jf:c<256
 ·left
  refine⟨(((c+1:Nat):Int),DD P (c+1)),⟨c+1,rfl,om⟩,bE,fun rc=>?_⟩;dsimp only;rw [cM om,adT Jf,an5 F l _ om hl,aD,hPc,cG om,DD]
  cases hb:P c with
  | false=>rfl
  | true=>
   rw [jD,aO,bf,YI];by_cases h0:0<(DD P c).length
   ·have hm:(DD P c).getD ((DD P c).length-1) fY∈DD P c:=by
     grind
    obtain⟨q,q1,q2,q3⟩:=Uu P c _ hm;rw [cM om,uE om h0,bZ om,aD,bL,dT h0,Ib];dsimp only;rw [q2,bI (x:=(q:Int)) om,cG om,show ((q:Int)+1==(c:Int))=(((q+1:Nat):Int)==(c:Int)) from rfl]
    cases (((q+1:Nat):Int)==(c:Int)) with
    | true=>rw [bf,bf,bZ om]
    | false=>rw [aO,aO,gT bE om]
   ·rw [cf om,aD,dF h0,RE]
    rw [aO,aO,gT bE om]
 grind
def RS(set:J Bool)(sp:J bS):Prop:=set.length=256/\∀c:Nat,c<256->set.getD c false=zx sp (c:Int)
theorem OJ(a b:J bS)(c:Int):zx (a++b) c=(zx a c||zx b c):=by unfold zx;rw [List.any_append]
theorem QA{st:J Bool}{k:Nat}(h:k<st.length)(c:Nat):(st.set k true).getD c false=(st.getD c false||c==k):=by
 grind
theorem af5:∀k:Fin 8,∀b:Fin 256,mm 0 (CL.getD k.val oJ).fname (b.val:Int)=some (zx (CL.getD k.val oJ).rj (b.val:Int)):=by decide +kernel
theorem af6(F:Nat){c:lB}(hc:c∈CL){b:Nat}(hb:b<256):mm F c.fname (b:Int)=some (zx c.rj (b:Int)):=by
 obtain⟨k,hk,rfl⟩:=kY hc;have:=af5 ⟨k,by rw [<-R3];exact hk⟩ ⟨b,hb⟩;rw [gd hk] at this;exact this
def YK(run:J Int)(c:lB):Bool:=run==di c.fname
theorem abb(n:Bs)(h:isName n=true):∃c∈CL,CL.find? (YK (di n))=some c/\c.fname=n:=by
 unfold isName at h;simp at h;rcases h with rfl|rfl|rfl|rfl|rfl|rfl|rfl|rfl
 ·exact⟨CL.getD 0 oJ,by decide,by decide,by decide⟩
 ·exact⟨CL.getD 1 oJ,by decide,by decide,by decide⟩
 ·exact⟨CL.getD 2 oJ,by decide,by decide,by decide⟩
 ·exact⟨CL.getD 3 oJ,by decide,by decide,by decide⟩
 ·exact⟨CL.getD 4 oJ,by decide,by decide,by decide⟩
 ·exact⟨CL.getD 5 oJ,by decide,by decide,by decide⟩
 ·exact⟨CL.getD 6 oJ,by decide,by decide,by decide⟩
 ·exact⟨CL.getD 7 oJ,by decide,by decide,by decide⟩
theorem Kf:∀c∈CL,isName c.fname=true/\c.fname.length=5/\∀b∈c.fname,97<=b.toNat/\b.toNat<=122:=by decide
theorem VP(x:J eA)(i:Nat):di (b9 (jF x i))=jF x i:=by
 unfold di b9;rw [Ba]
 conv=>rhs;rw [<-T7 (jF x i)]
 refine acZ fun v hv=>?_;obtain⟨e,he,rfl⟩:=xZ.1 hv;have hl:=List.all_takeWhile (p:=yp) (l:=x.drop i);have:=mL.1 hl e he;unfold yp at this
 grind [UInt8.toNat_ofNat']
theorem adU(x:J eA)(i:Nat):(∃c∈CL,CL.find? (fun c=>vC x i ((([91,58]:Bs)++c.fname)++([58,93]:Bs)))=some c/\wU x i=(c.fname,((i+9:Nat):Int),true)/\i+9<=x.length) \/
  (CL.find? (fun c=>vC x i ((([91,58]:Bs)++c.fname)++([58,93]:Bs)))=none/\(wU x i).2.2=false):=by
 have hp:∀c∈CL,vC x i ((([91,58]:Bs)++c.fname)++([58,93]:Bs))=((dZ x i 91&&dZ x (i+1) 58)&&((dZ x (i+2+(jF x (i+2)).length) 58&&dZ x (i+2+(jF x (i+2)).length+1) 93)&&YK (jF x (i+2)) c)):=fun c hc=>adS x i c.fname (Kf c hc).2.1 (Kf c hc).2.2
 cases hA:(dZ x i 91&&dZ x (i+1) 58) with
 | false=>
  right;refine⟨?_,by unfold wU;rw [hA];rfl⟩
  simp_all
 | true=>
  cases hB:(dZ x (i+2+(jF x (i+2)).length) 58&&dZ x (i+2+(jF x (i+2)).length+1) 93) with
  | false=>
   right;refine⟨?_,by unfold wU;rw [hA,hB];rfl⟩
   simp_all
  | true=>
   cases hN:isName (b9 (jF x (i+2))) with
   | true=>
    left;obtain⟨c,h1,h2,h3⟩:=abb _ hN;rw [VP] at h2
    have hlen:(jF x (i+2)).length=5:=by
     grind [Kf,di,b9,List.length_map,VP]
    refine⟨c,h1,?_,?_,?_⟩
    ·have:∀(L:J lB),(∀c∈L,c∈CL)->L.find? (fun c=>vC x i ((([91,58]:Bs)++c.fname)++([58,93]:Bs)))=L.find? (YK (jF x (i+2))):=by
      intro L
      induction L with
      | nil=>intro _;rfl
      | cons a L ih=>
       grind
     simp_all
    ·unfold wU
     grind
    ·have h8:=afZ (cw _ _▸hB:_/\_).2
     omega
   | false=>
    right;refine⟨?_,by unfold wU;rw [hA,hB,hN];rfl⟩;rw [List.find?_eq_none];intro c hc;rw [hp c hc,hA,hB];simp
    cases hq:YK (jF x (i+2)) c with
    | false=>rfl
    | true=>
     unfold YK at hq
     simp_all [Yx,Kf]
theorem af7(F:Nat)(x:J eA)(i:Nat)(set:J Bool)(sp:J bS)(hF:x.length+1000<F)(hx:x.length<50000000)(hc:Qx x)(hi:i<x.length)(hR:RS set sp):
  ∃(e:Nat)(set':J Bool)(sp':J bS),kP F x (i:Int) set=some ((e:Int),set')/\oX F (x.map Fx) (i:Int)=some (sp',(e:Int))/\RS set' (sp++sp')/\i<e/\e<=x.length/\sp'.length<=4:=by
 obtain⟨hs,hR⟩:=hR;have hw1:aB ((i:Int)+1)=((i+1:Nat):Int):=cG om;have zu:aB ((i:Int)+2)=((i+2:Nat):Int):=by grind [bI]
 have VO:aB ((i:Int)+3)=((i+3:Nat):Int):=by grind [bI]
 have hml:(x.map Fx).length=x.length:=sA _
 have hfb:∀k,k<x.length->((x.map Fx).getD k iI).fb=(x.getD k cq).fb:=fun k hk=>by
  rw [gd (l:=x.map Fx) (by rw [hml];exact hk),Qk,gd hk];rfl
 have ape:oX F (x.map Fx) (i:Int)=(CL.find? (fun c=>vC x i ((([91,58]:Bs)++c.fname)++([58,93]:Bs)))).elim
   (cond (cond (cond (dZ x (i+1) 45) (decide (i+2<x.length)) false) (!dZ x (i+2) 93) false)
    (cond (decide ((x.getD i cq).fb<=(x.getD (i+2) cq).fb)) (some ([bS.mk (x.getD i cq).fb (x.getD (i+2) cq).fb],((i+3:Nat):Int))) (some ([],((i+3:Nat):Int))))
    (some ([bS.mk (x.getD i cq).fb (x.getD i cq).fb],((i+1:Nat):Int)))) fun c=>some (c.rj,((i+9:Nat):Int)):=by
  unfold oX;rw [ajP,aD]
  rw [qf CL (fun i=>(i:Int)) (fun c=>vC x i ((([91,58]:Bs)++c.fname)++([58,93]:Bs))) (fun _ c=>some (c.rj,((i+9:Nat):Int))) (cond (cond (cond (dZ x (i+1) 45) (decide (i+2<x.length)) false) (!dZ x (i+2) 93) false)
    (cond (decide ((x.getD i cq).fb<=(x.getD (i+2) cq).fb)) (some ([bS.mk (x.getD i cq).fb (x.getD (i+2) cq).fb],((i+3:Nat):Int))) (some ([],((i+3:Nat):Int))))
    (some ([bS.mk (x.getD i cq).fb (x.getD i cq).fb],((i+1:Nat):Int)))) (by rw [R3];omega) (by rfl) (fun k hk rc=>?_) (fun rc=>?_),Mx]
  ·have hm:=adN _ (jN hk)
   have hk8:k<8:=by rw [<-R3];exact hk
   rw [cM om,bZ hk,bL,gd hk,cG om];generalize CL[k]=c at hm;have hl:((([91,58]:Bs)++c.fname)++([58,93]:Bs)).length=9:=by simp;omega
   grind [aB,bI,qZ,akB,bZ]
  ·rw [cf om,bZ om,hw1,zu,VO,iY,jc,aD,iY,jc,aK,aD,aD,aK,aD,hml]
   rw [show decide (((i+2:Nat):Int)<(x.length:Int))=decide (i+2<x.length) from decide_eq_decide.2 om]
   cases h4:cond (cond (dZ x (i+1) 45) (decide (i+2<x.length)) false) (!dZ x (i+2) 93) false with
   | false=>simp_all
   | true=>
    have h5:i+2<x.length:=by
     simp_all
    rw [bf,bf,bU om om,bL,bL,hfb i hi,hfb (i+2) h5]
 rw [ape];have hb:=hc.at hi;rcases adU x i with⟨c,hcm,hfind,hcl,h9⟩|⟨hfind,hcl⟩
 ·rw [hfind]
  refine (fun (h:∃st:J Bool,st.length=256/\(∀b:Nat,b<256->st.getD b false=(set.getD b false||zx c.rj (b:Int)))/\kP F x (i:Int) set=some (((i+9:Nat):Int),st))=>?_) ?_
  ·obtain⟨st,h1,h2,h3⟩:=h
   exact⟨i+9,st,c.rj,h3,rfl,⟨h1,fun b hb=>by simp_all [OJ]⟩,om,h9,(adN c hcm).2⟩
  ·unfold kP
   rw [(Qy F x i om om).resolve_right om,hcl,aD,bf]
   obtain⟨r,⟨st,h1,h2,rfl⟩,h3⟩:∃r:Int×J Bool,(∃st:J Bool,st.length=256/\(∀b:Nat,b<256->st.getD b false=(set.getD b false||zx c.rj (b:Int)))/\r=(((i+9:Nat):Int),st))/\(bV (σ:=Int×(J Bool)) (R:=Int×(J Bool)) (fun gC x2=>
     cond (decide (x2.1<256))
     ((mm F c.fname x2.1).bind fun x4=>
     cond x4
     (rq ((decide (0<=x2.1))&&((decide (x2.1<256))&&(decide (x2.1<(x2.2.length:Int))))) (gC (aB (x2.1+1),x2.2.set (Int.toNat x2.1) true)))
     (gC (aB (x2.1+1),x2.2)))
     (some (((i+9:Nat):Int),x2.2))) F (0,set))=some r:=by
    refine ig _ (fun s:Int×J Bool=>∃k:Nat,s.1=(k:Int)/\k<=256/\s.2.length=256/\∀b:Nat,s.2.getD b false=(set.getD b false||(decide (b<k)&&zx c.rj (b:Int)))) (fun s=>256-s.1.toNat) ?_ F _ ⟨0,rfl,om,hs,fun b=>by simp⟩ bE;rintro⟨ii,st⟩ ⟨k,h0,hk,hl,hst⟩ rc hrc;dsimp only at h0 hl hst⊢;subst h0;by_cases hk:k<256
    ·rw [cM om,af6 F hcm hk,aD,cG om]
     cases hin:zx c.rj (k:Int) with
     | true=>
      rw [bf,Cw om om om,bL];refine hrc _ ⟨k+1,rfl,om,by simpa using hl,fun b=>?_⟩ bE;dsimp only;rw [QA om,hst b]
      grind
     | false=>
      refine hrc _ ⟨k+1,rfl,om,hl,fun b=>?_⟩ bE
      grind
    grind
   simp_all
 ·rw [hfind]
  show ∃(e:Nat)(set':J Bool)(sp':J bS),_/\(cond _ _ _)=_/\_;unfold kP;rw [(Qy F x i om om).resolve_right om,aD,hcl,aO,hw1,zu,VO,gF,aD,gF,aK,aD]
  have e1:cond (dZ x (i+1) 45) (decide (((i+2:Nat):Int)<(x.length:Int)),set) (false,set)=((cond (dZ x (i+1) 45) (decide (i+2<x.length)) false),set):=by
   grind
  rw [e1];dsimp only;rw [aD,aK,aD];have e2:∀a b:Bool,cond a (b,set) (false,set)=(cond a b false,set):=by simp_all
  rw [e2];dsimp only
  cases h4:cond (cond (dZ x (i+1) 45) (decide (i+2<x.length)) false) (!dZ x (i+2) 93) false with
  | false=>
   rw [aO,aO,bZ hi,bL,Cw om om om];refine⟨i+1,_,_,rfl,rfl,⟨by simpa using hs,fun b oV=>?_⟩,om,om,si⟩;rw [QA om,hR b oV,OJ];congr 1;unfold zx
   grind
  | true=>
   have h5:i+2<x.length:=by
    simp_all
   have oV:=hc.at h5;rw [bf,bf,bZ hi,bL,bL,bI (x:=(x.getD i cq).fb) om,bI (x:=(x.getD (i+2) cq).fb) om];generalize (x.getD i cq).fb=lo at hb;generalize (x.getD (i+2) cq).fb=hi2 at oV
   obtain⟨r,⟨st,h1,h2,rfl⟩,h3⟩:∃r:Int×J Bool,(∃st:J Bool,st.length=256/\(∀b:Nat,b<256->st.getD b false=(set.getD b false||(decide (lo<=(b:Int))&&decide ((b:Int)<=hi2))))/\r=(((i+3:Nat):Int),st))/\(bV (σ:=Int×(J Bool)) (R:=Int×(J Bool)) (fun QB x9=>
     rq ((decide (0<=((i+2:Nat):Int)))&&(decide (((i+2:Nat):Int)<(x.length:Int)))) (cond (decide (x9.1<=hi2))
     (rq ((decide (0<=x9.1))&&((decide (x9.1<256))&&(decide (x9.1<(x9.2.length:Int))))) (QB (aB (x9.1+1),x9.2.set (Int.toNat x9.1) true)))
     (some (((i+3:Nat):Int),x9.2)))) F (lo,set))=some r:=by
    refine ig _ (fun s:Int×J Bool=>lo<=s.1/\s.1<=256/\s.2.length=256/\(∀v:Int,lo<=v->v<s.1->v<=hi2)/\∀b:Nat,s.2.getD b false=(set.getD b false||(decide (lo<=(b:Int))&&decide ((b:Int)<s.1)))) (fun s=>256-s.1.toNat) ?_ F _ ⟨XL _,om,hs,fun v h1 h2=>om,fun b=>by
     grind⟩ bE
    rintro⟨ii,st⟩ ⟨h6,h7,hl,hv,hst⟩ rc hrc;dsimp only at h6 h7 hl hv hst⊢;rw [bZ h5];by_cases hle:ii<=hi2
    ·rw [cM hle,Cw om om om,bI om]
     refine hrc _ ⟨by dsimp only;omega,by dsimp only;omega,by simpa using hl,fun v h1 h2=>by dsimp only at h2;omega,fun b=>?_⟩ (by dsimp only;omega);dsimp only;rw [QA om,hst b,Bool.or_assoc]
     grind
    grind
   by_cases hlh:lo<=hi2
   ·rw [cM hlh]
    refine⟨i+3,st,[bS.mk lo hi2],h3,rfl,⟨h1,fun b YL=>?_⟩,om,om,si⟩;rw [h2 b YL,hR b YL,OJ];congr 1;unfold zx;simp
   ·rw [cf hlh]
    refine⟨i+3,st,[],h3,rfl,⟨h1,fun b YL=>?_⟩,om,om,si⟩;rw [h2 b YL,hR b YL,OJ];congr 1;unfold zx
    grind
theorem ML{σ τ R:Type}{b1:(σ->O R)->σ->O R}{b2:(τ->O R)->τ->O R}(P:σ->τ->Prop)(m:σ->Nat)
  (hs:∀s t,P s t->(∃s' t',P s' t'/\m s'<m s/\(∀rc,b1 rc s=rc s')/\∀rc,b2 rc t=rc t')\/∃z,(∀rc,b1 rc s=some z)/\∀rc,b2 rc t=some z) :
  ∀(F1 F2:Nat)(s:σ)(t:τ),P s t->m s<F1->m s<F2->∃z,bV b1 F1 s=some z/\bV b2 F2 t=some z
 | 0,_,s,t,_,h,_=>by omega
 | _+1,0,s,t,_,_,h=>by omega
 | F1+1,F2+1,s,t,hP,h1,h2=>by
  show ∃z,b1 (bV b1 F1) s=some z/\b2 (bV b2 F2) t=some z;rcases hs s t hP with⟨s',t',g1,g2,g3,g4⟩|⟨z,g1,g2⟩
  ·rw [g3,g4];exact ML P m hs F1 F2 s' t' g1 om om
  simp_all
theorem YM{P Q:Nat->Bool}:∀k,(∀c,c<k->P c=Q c)->DD P k=DD Q k
 | 0,_=>rfl
 | k+1,h=>by
  unfold DD;rw [YM k fun c hc=>h c om,h k om]
theorem adV(F:Nat)(x:J eA)(i:Nat)(hF:4*x.length+1000<F)(hx:x.length<12000000)(hc:Qx x)(hi:i<x.length):∃z,mX F x (i:Int)=some z/\p7 F (x.map Fx) (i:Int)=some z:=by
 have hml:(x.map Fx).length=x.length:=sA _;have hw1:aB ((i:Int)+1)=((i+1:Nat):Int):=cG om;unfold mX p7;rw [hw1,gF,aD,gF,aD,aK,aD,cG om,aK,aD,iY,jc,aD,iY,jc,aD,aK,aD,aK,aD];generalize hneg:cond (dZ x (i+1) 33) true (dZ x (i+1) 94)=neg
 obtain⟨s0,hs0,hs1,hs2,hy⟩:∃s0:Nat,cond neg (((i+1+1:Nat):Int)) ((i+1:Nat):Int)=(s0:Int)/\i<s0/\s0<=i+2/\cond neg (((i+1+1:Nat):Int),(aF.mk 4 [] false []).fKind,(aF.mk 4 [] false []).fText,true,(aF.mk 4 [] false []).cH) (((i+1:Nat):Int),(aF.mk 4 [] false []).fKind,(aF.mk 4 [] false []).fText,(aF.mk 4 [] false []).Br,(aF.mk 4 [] false []).cH)=((s0:Int),4,[],neg,[]):=by
  cases neg
  ·grind
  ·exact⟨i+2,rfl,om,om,rfl⟩
 rw [hs0,hy]
 refine ML (fun (s:Int×Bool×J Bool)(t:Int×J bS×Bool)=>∃(k:Nat)(fi:Bool)(set:J Bool)(sp:J bS),s=((k:Int),fi,set)/\t=((k:Int),sp,fi)/\i<k/\k<=x.length+2/\RS set sp/\sp.length<=4*k) (fun s=>x.length+2-s.1.toNat) ?_ F F _ _ ⟨s0,true,_,_,rfl,rfl,hs1,om,⟨si,fun c h=>by
  rw [Ov,List.getElem?_replicate];simp [h,zx]⟩,si⟩ bE bE
 rintro _ _ ⟨k,fi,set,sp,rfl,rfl,hk,hk2,hR,hl⟩;dsimp only;by_cases DJ:k<x.length
 ·have e2:cond (dZ x k 93) (!fi,set) (false,set)=((dZ x k 93 && !fi),set):=by cases dZ x k 93<;>rfl
  cases h4:(dZ x k 93 && !fi) with
  | true=>
   right
   have h5:cond fi true (!dZ x k 93)=false:=by
    simp_all
   refine⟨(aF.mk 4 [] neg (DD (fun c=>set.getD c false) 256),((k+1:Nat):Int),true),fun rc=>?_,fun rc=>?_⟩
   ·rw [cM om,gF,aD,aK,aD,e2,h4]
    rw [bf,cE (by rw [hR.1];rfl),ahX F set om hR.1,aD,cG om]
   ·rw [iY,jc,aD,aK,hml,cM (show (k:Int)<(x.length:Int) by omega),aD,h5,aO,cf (show ¬ (x.length:Int)<=(k:Int) by omega),Fy F sp om om,aD,cG om]
    rw [YM 256 fun c hc=>(hR.2 c hc).symm]
  | false=>
   left
   have h5:cond fi true (!dZ x k 93)=true:=by
    grind
   obtain⟨e,set',sp',g1,g2,g3,g4,g5,g6⟩:=af7 F x k set sp om om hc DJ hR;refine⟨_,_,⟨e,false,set',sp++sp',rfl,rfl,om,om,g3,by grind⟩,bE,fun rc=>?_,fun rc=>?_⟩
   ·simp_all [cM,gF,aD,aK,aO]
   ·rw [iY,jc,Option.bind_some,aK,hml,cM (show (k:Int)<(x.length:Int) by omega),Option.bind_some,h5,cond_true,g2,Option.bind_some,gT (by dsimp only;omega) om]
 ·right
  simp_all [cf,iY,jc,aD,aK,aO,cM]
theorem adW(F:Nat)(l:J aH)(hF:l.length<F)(qL:4*cA l+1000<F)(h1:l.length<1000000000)(h2:cA l<=10000000):∃p,iG F l=some p/\jJ F l=some p:=by
 unfold iG jJ;rw [Kc F l hF om h1 om,PG F l hF om h1 om,aD,aD,an4];have hx:(l.flatMap ri).length<=cA l:=Jc _ Us _;have hc:=YA l;generalize (l.flatMap ri)=x at hx hc;have hml:(x.map Fx).length=x.length:=sA _;refine ML (fun (s t:J aF×Int)=>s=t/\∃k:Nat,s.2=(k:Int)/\k<=x.length/\s.1.length<=k) (fun s=>x.length-s.2.toNat) ?_ F F _ _ ⟨rfl,0,rfl,om,si⟩ bE bE;rintro⟨acc,ii⟩ _ ⟨rfl,k,h0,hk,ha⟩;dsimp only at h0 ha⊢;subst h0
 have hex:∀a b:Int,a≠b->dZ x k a=true->dZ x k b=false:=by
  grind [yJ]
 have hfb:k<x.length->((x.map Fx).getD k iI).fb=(x.getD k cq).fb:=fun hk=>by
  rw [gd (l:=x.map Fx) (by rw [hml];exact hk),Qk,gd hk];rfl
 by_cases DJ:k<x.length
 ·left
  have hc1:∀(it:aF),(decide (acc.length+([it]:J aF).length<=9223372036854775807)&&decide ((acc.length+([it]:J aF).length)*56<=140737488355328))=true:=fun it=>nD bE om
  cases PJ:dZ x k 91 with
  | true=>
   have PK:=hex 91 42 de PJ;have h63:=hex 91 63 de PJ;obtain⟨z,z1,z2⟩:=adV F x k om om hc DJ;obtain⟨r,r1,r2⟩:=PI F x k om om hc DJ;have hzr:z=r:=uv (z1.symm.trans r2);subst hzr
   cases hz:z.2.2 with
   | true=>
    obtain⟨-,e,g2,g3,g4⟩:=r1 hz;refine⟨(acc++[z.1],(e:Int)),(acc++[z.1],(e:Int)),⟨rfl,e,rfl,g4,bE⟩,bE,fun rc=>?_,fun rc=>?_⟩
    ·rw [cM om,gF,aD,PJ,bf,z1,aD,hz,bf,cE (hc1 _),g2]
     cases h:rc (acc++[z.1],(e:Int))<;>rfl
    ·rw [hml,cM om,iY,jc,aD,PK,aO,iY,jc,aD,h63,aO,iY,jc,aD,PJ,bf,z2,aD,hz,bf,cE (hc1 _),g2]
     cases h:rc (acc++[z.1],(e:Int))<;>rfl
   | false=>
    refine⟨(acc++[aF.mk 1 (b9 [(x.getD k cq).fb]) false []],((k+1:Nat):Int)),_,⟨rfl,k+1,rfl,om,bE⟩,bE,fun rc=>?_,fun rc=>?_⟩
    ·rw [cM om,gF,aD,PJ,bf,z1,aD,hz,aO]
     show ((eY F x (k:Int) 42).bind _)=_;rw [gF,aD,PK,aO,gF,aD,h63,aO,bZ DJ,cE (hc1 _),cG om,bL]
    ·rw [hml,cM om,iY,jc,aD,PK,aO,iY,jc,aD,h63,aO,iY,jc,aD,PJ,bf,z2,aD,hz,aO]
     show rq _ (rq _ (rc _))=_
     grind [bZ,cE,cG,Int.toNat_natCast]
  | false=>
   cases PK:dZ x k 42 with
   | true=>
    refine⟨(acc++[aF.mk 3 [] false []],((k+1:Nat):Int)),_,⟨rfl,k+1,rfl,om,bE⟩,bE,fun rc=>?_,fun rc=>?_⟩
    ·rw [cM om,gF,aD,PJ,aO]
     show ((eY F x (k:Int) 42).bind _)=_;rw [gF,aD,PK,bf,cE (hc1 _),cG om]
    ·rw [hml,cM om,iY,jc,aD,PK,bf,cE (hc1 _),cG om]
   | false=>
    cases h63:dZ x k 63 with
    | true=>
     refine⟨(acc++[aF.mk 2 [] false []],((k+1:Nat):Int)),_,⟨rfl,k+1,rfl,om,bE⟩,bE,fun rc=>?_,fun rc=>?_⟩
     ·rw [cM om,gF,aD,PJ,aO]
      show ((eY F x (k:Int) 42).bind _)=_;rw [gF,aD,PK,aO,gF,aD,h63,bf,cE (hc1 _),cG om]
     ·rw [hml,cM om,iY,jc,aD,PK,aO,iY,jc,aD,h63,bf,cE (hc1 _),cG om]
    | false=>
     refine⟨(acc++[aF.mk 1 (b9 [(x.getD k cq).fb]) false []],((k+1:Nat):Int)),_,⟨rfl,k+1,rfl,om,bE⟩,bE,fun rc=>?_,fun rc=>?_⟩
     ·rw [cM om,gF,aD,PJ,aO]
      show ((eY F x (k:Int) 42).bind _)=_;rw [gF,aD,PK,aO,gF,aD,h63,aO,bZ DJ,cE (hc1 _),cG om,bL]
     ·rw [hml,cM om,iY,jc,aD,PK,aO,iY,jc,aD,h63,aO,iY,jc,aD,PJ,aO]
      show rq _ (rq _ (rc _))=_
      grind [bZ,cE,cG,Int.toNat_natCast]
 simp_all [cf]
theorem Kg{σ τ R S:Type}{b1:(σ->O R)->σ->O R}{b2:(τ->O S)->τ->O S}(Q:O R->O S->Prop)(P:σ->τ->Prop)(m:σ->Nat)
  (hs:∀s t,P s t->∀rc1 bp,(∀s' t',P s' t'->m s'<m s->Q (rc1 s') (bp t'))->Q (b1 rc1 s) (b2 bp t)) :
  ∀(F1 F2:Nat)(s:σ)(t:τ),P s t->m s<F1->m s<F2->Q (bV b1 F1 s) (bV b2 F2 t)
 | 0,_,s,t,_,h,_=>by omega
 | _+1,0,s,t,_,_,h=>by omega
 | F1+1,F2+1,s,t,hP,h1,h2=>hs s t hP (bV b1 F1) (bV b2 F2) fun s' t' g1 g2=>Kg Q P m hs F1 F2 s' t' g1 om om
theorem G6(F:Nat)(p:J aF)(hF:p.length+300<F)(hp:p.length<50000000)(hit:∀it∈p,mo it):lP F p=kj F p:=by
 unfold lP kj;refine Kg (fun a b=>a=b) (fun s t=>s=t/\∃k:Nat,s=(k:Int)/\k<=p.length) (fun s=>p.length-s.toNat) ?_ F F _ _ ⟨rfl,0,rfl,om⟩ bE bE;rintro _ _ ⟨rfl,k,rfl,hk⟩ rc1 bp hrc;by_cases hk:k<p.length
 ·have hI:=hit _ (jN hk)
  rw [cM (show (k:Int)<(p.length:Int) by omega),cM (show (k:Int)<(p.length:Int) by omega),bZ hk,bZ hk,bL,gd hk];generalize p[k]=it at hI;have hl:=hI.2.2;obtain⟨c,hc⟩:=Bt F it.cH om om;have hnext:=hrc ((k+1:Nat):Int) ((k+1:Nat):Int) ⟨rfl,k+1,rfl,om⟩ bE;simp only [aK,aD,hc];rw [cG om]
  cases (cond (cond (decide (it.fKind<1)) true (decide (4<it.fKind))) true ((it.fText.length:Int) != cond (it.fKind==1) 1 0)) with
  | true=>rfl
  | false=>
   rw [aO,aO]
   cases (cond (it.fKind != 4) (cond it.Br true (decide (0<(it.cH.length:Int)))) false) with
   | true=>rfl
   | false=>
    rw [aO,aO]
    have hin:∀A:O Bool,bV (σ:=Int) (R:=Bool) (fun PM x7=>
       cond (decide (x7<(it.cH.length:Int)))
       (rq ((decide (0<=x7))&&(decide (x7<(it.cH.length:Int)))) ((cond (decide ((it.cH.getD (Int.toNat x7) fY).jO<(it.cH.getD (Int.toNat x7) fY).pT))
       (some true)
       (cond (decide (0<x7))
       (rq ((decide (0<=aB (x7-1)))&&(decide (aB (x7-1)<(it.cH.length:Int)))) (some (decide (aB ((it.cH.getD (Int.toNat x7) fY).pT)<=aB ((aB ((it.cH.getD (Int.toNat (aB (x7-1))) fY).jO))+1)))))
       (some false)):O Bool).bind fun x9=>
       cond x9
       (some false)
       (PM (aB (x7+1)))))
       A) F 0=cond c A (some false):=by
     intro A;have Jf:=hc;unfold mY at Jf
     have hsw:∀(a b:O Bool),b=some c->(∃c',b=some c'/\a=cond c' A (some false))->a=cond c A (some false):=by
      rintro a b h1 ⟨c',h2,h3⟩;rw [h1] at h2;cases h2;exact h3
     refine hsw _ _ Jf (Kg (fun a b=>∃c',b=some c'/\a=cond c' A (some false)) (fun (s t:Int)=>s=t/\∃j:Nat,s=(j:Int)/\j<=it.cH.length) (fun s=>it.cH.length-s.toNat) ?_ F F 0 0 ⟨rfl,0,rfl,om⟩ bE bE);rintro s t hst rcA rcB hAB
     ·obtain⟨rfl,j,rfl,hj⟩:=hst
      by_cases hj:j<it.cH.length
      ·have e:∃b,(cond (decide ((it.cH.getD (Int.toNat (j:Int)) fY).jO<(it.cH.getD (Int.toNat (j:Int)) fY).pT)) (some true) (cond (decide (0<(j:Int))) (rq ((decide (0<=aB ((j:Int)-1)))&&(decide (aB ((j:Int)-1)<(it.cH.length:Int)))) (some (decide (aB ((it.cH.getD (Int.toNat (j:Int)) fY).pT)<=aB ((aB ((it.cH.getD (Int.toNat (aB ((j:Int)-1))) fY).jO))+1))))) (some false)):O Bool)=some b:=by
        by_cases h0:0<j
        ·rw [uE om h0,cM (show (0:Int)<(j:Int) by omega),bU om om,aK];exact⟨_,rfl⟩
        ·rw [cf (show ¬ (0:Int)<(j:Int) by omega),aK];exact⟨_,rfl⟩
       obtain⟨b,hb⟩:=e;rw [cM (show (j:Int)<(it.cH.length:Int) by omega),cM (show (j:Int)<(it.cH.length:Int) by omega),bZ hj,bZ hj];simp only [bZ hj];rw [hb,aD,aD,cG om]
       cases b with
       | true=>exact⟨false,rfl,rfl⟩
       | false=>exact hAB _ _ ⟨rfl,j+1,rfl,om⟩ bE
      ·rw [cf (show ¬ (j:Int)<(it.cH.length:Int) by omega),cf (show ¬ (j:Int)<(it.cH.length:Int) by omega)]
       exact⟨true,rfl,rfl⟩
    rw [hin]
    cases c with
    | true=>exact hnext
    | false=>rfl
 ·rw [cf (show ¬ (k:Int)<(p.length:Int) by omega),cf (show ¬ (k:Int)<(p.length:Int) by omega)]
def iw(n:Nat)(f:Nat->Bool):J Bool:=(List.range n).map f
theorem Bv(n:Nat)(f:Nat->Bool):(iw n f).length=n:=by unfold iw;simp
theorem vD{n i:Nat}(f:Nat->Bool)(h:i<n):(iw n f).getD i false=f i:=by
 unfold iw
 simp_all
theorem kE{n:Nat}{f g:Nat->Bool}(h:∀i,i<n->f i=g i):iw n f=iw n g:=by
 unfold iw
 simp_all
theorem Fz(n i:Nat)(f:Nat->Bool)(b:Bool):(iw n f).set i b=iw n (fun j=>cond (j==i) b (f j)):=by
 unfold iw;refine yY si fun j h1 h2=>?_
 grind
theorem QC(n:Nat):List.replicate n false=iw n (fun _=>false):=by
 refine yY (by simp [iw]) fun j h1 h2=>?_;simp [iw]
section
variable (p : J aF) (s : Bs)
def R4(i:Nat):aF:=p.getD i fK
def lQ(i:Nat):Bool:=(R4 p i).fKind==3
def QD(it:aF)(b:Int):Bool:=
 cond (it.fKind==1) (((it.fText.getD 0 0).toNat:Int)==b) (cond (it.fKind==4) (!((it.cH.any fun x=>decide (x.pT<=b)&&decide (b<=x.jO))==it.Br)) true)
def MM(i k:Nat):Bool:=QD (R4 p i) ((s.getD k 0).toNat:Int)
def upE(f:Nat->Bool):Nat->Bool
 | 0=>f 0
 | k+1=>f (k+1)||upE f k
def prE(f g:Nat->Bool):Nat->Bool
 | 0=>false
 | k+1=>f k&&g k
def EE:Nat->Nat->Bool
 | 0,k=>k==0
 | i+1,k=>cond (lQ p i) (upE (EE i) k) (prE (EE i) (MM p s i) k)
def EP(i k:Nat):Bool:=EE p s i k||(lQ p i&&EE p s (i+1) k)
theorem ack:lQ p p.length=false:=by
 unfold lQ R4;rw [Ov,Qm (dY _)];rfl
theorem OK{i:Nat}(h:lQ p i=true)(k:Nat):EE p s (i+1) (k+1)=(EE p s i (k+1)||EE p s (i+1) k):=by
 rw [EE,EE,h];rfl
theorem Kh{i:Nat}(h:lQ p i=true):EE p s (i+1) 0=EE p s i 0:=by rw [EE,h];rfl
theorem Uv{i:Nat}(h:lQ p i=false)(k:Nat):EE p s (i+1) (k+1)=(EE p s i k&&MM p s i k):=by rw [EE,h];rfl
theorem YN{i:Nat}(h:lQ p i=false):EE p s (i+1) 0=false:=by rw [EE,h];rfl
theorem adX{i:Nat}(h:lQ p i=true):∀k,EE p s i k=true->EE p s (i+1) k=true
 | 0,e=>by simp_all [Kh]
 | k+1,e=>by simp_all [OK]
def wV(f:Nat->Bool):Nat->Bool
 | 0=>f 0
 | i+1=>f (i+1)||(wV f i&&lQ p i)
def uL(f:Nat->Bool)(b k j:Nat):Bool:=(decide (j<b)&&(f j&&lQ p j))||(decide (0<j)&&(decide (j<=b)&&(f (j-1)&&(!lQ p (j-1)&&MM p s (j-1) k))))
theorem ahY:∀i,wV p (fun j=>j==0) i=EP p s i 0:=by
 have hE:∀i,EP p s i 0=EE p s i 0:=by
  unfold EP
  simp_all [Kh]
 intro i
 induction i with
 | zero=>rfl
 | succ i ih=>
  rw [wV]
  grind [YN,Kh]
theorem acm(k:Nat):∀i,i<=p.length->wV p (uL p s (fun j=>EP p s j k) p.length k) i=EP p s i (k+1):=by
 have hpre:∀i,i<=p.length->uL p s (fun j=>EP p s j k) p.length k i=((lQ p i&&EE p s (i+1) k)||(decide (0<i)&&(!lQ p (i-1)&&EE p s i (k+1)))):=by
  intro i hi;unfold uL;congr 1
  ·by_cases h:i<p.length
   ·unfold EP
    grind [adX]
   grind [ack,decide_eq_false]
  ·cases i with
   | zero=>simp
   | succ i=>
    unfold EP
    grind [Uv]
 intro i
 induction i with
 | zero=>
  intro hi;rw [wV,hpre 0 hi];unfold EP;rw [show EE p s 0 (k+1)=false from rfl]
  cases hs:lQ p 0 with
  | false=>simp
  | true=>rw [OK p s hs,show EE p s 0 (k+1)=false from rfl];simp
 | succ i ih=>
  intro hi;rw [wV,hpre (i+1) hi,ih om]
  have e2:EP p s (i+1) (k+1)=(EE p s (i+1) (k+1)||(lQ p (i+1)&&EE p s (i+2) k)):=by
   unfold EP
   grind [OK]
  rw [e2];unfold EP
  grind [adX]
theorem YO(f:Nat->Bool)(n:Nat)(h:∀i,i<=n->f i=false):∀i,i<=n->wV p f i=false
 | 0,hi=>h 0 hi
 | i+1,hi=>by rw [wV,h _ hi,YO f n h i om];rfl
theorem Uw(k:Nat)(h:∀i,i<=p.length->EP p s i k=false):∀d i,i<=p.length->EP p s i (k+d)=false
 | 0,i,hi=>h i hi
 | d+1,i,hi=>by
  rw [<-Ue,<-acm p s (k+d) i hi];refine YO p _ p.length (fun j hj=>?_) i hi;unfold uL;dsimp only;rw [Uw k h d j hj];by_cases h0:0<j
  ·rw [Uw k h d (j-1) om];simp
  ·simp [h0]
theorem af8(k:Nat):EP p s p.length k=EE p s p.length k:=by unfold EP;rw [ack];simp
end
def Ki(b:Int)(x:bS):Bool:=decide (x.pT<=b)&&decide (b<=x.jO)
theorem akD(F:Nat)(it:aF)(b:Int)(hF:300<F)(h:mo it):uM F it b=some (QD it b):=by
 unfold uM QD
 cases hk:(it.fKind==1) with
 | true=>
  have:=h.1 (eq_of_beq hk)
  rw [bf,bf,qZ om]
 | false=>
  cases (it.fKind==4) with
  | false=>rfl
  | true=>
   have hl:=h.2.2;refine cW (fun s=>∃k:Nat,s=((it.cH.take k).any (Ki b),(k:Int))/\k<=it.cH.length) (fun s=>it.cH.length-s.2.toNat) ?_ F _ ⟨0,rfl,om⟩ bE;rintro s ⟨k,rfl,hk2⟩;by_cases hk2:k<it.cH.length
   ·left
    refine⟨_,⟨k+1,rfl,om⟩,bE,fun rc=>?_⟩;rw [bZ hk2,bL,aK,aK,cG om,pR hk2,List.any_append];unfold Ki
    simp_all
   ·right
    obtain rfl:k=it.cH.length:=om;intro rc;rw [cf om,yf];rfl
theorem ahZ(F:Nat)(it:aF)(b:Int)(hF:300<F)(h:mo it):B6 F it b=some (QD it b):=by
 unfold B6 QD
 cases hk:(it.fKind==1) with
 | true=>
  have:=h.1 (eq_of_beq hk)
  rw [bf,bf,qZ om]
 | false=>
  cases (it.fKind==4) with
  | false=>rfl
  | true=>
   have hl:=h.2.2
   have e:uK F it.cH b=some (it.cH.any (Ki b)):=by
    refine cW (fun s=>∃k:Nat,s=(k:Int)/\k<=it.cH.length/\(it.cH.take k).any (Ki b)=false) (fun s=>it.cH.length-s.toNat) ?_ F _ ⟨0,rfl,om,rfl⟩ bE;rintro s ⟨k,rfl,hk2,hn⟩;by_cases hk2:k<it.cH.length
    ·have hin:(cond (decide (it.cH[k].pT<=b)) (rq ((decide (0<=(k:Int)))&&(decide ((k:Int)<(it.cH.length:Int)))) (some (decide (b<=it.cH[k].jO)))) (some false):O Bool)=some (Ki b it.cH[k]):=by
      rw [bZ hk2];unfold Ki
      grind
     have an6:(it.cH.take (k+1)).any (Ki b)=Ki b it.cH[k]:=by
      grind [List.take_succ_eq_append_getElem]
     cases hb:Ki b it.cH[k] with
     | true=>
      right;intro rc;have:=Ou.2 ⟨_,jN hk2,hb⟩;rw [cM om,bZ hk2,bL,gd hk2,hin,hb,this]
      rfl
     | false=>
      left;refine⟨_,⟨k+1,rfl,om,by rw [an6,hb]⟩,bE,fun rc=>?_⟩;rw [cM om,bZ hk2,bL,gd hk2,hin,hb,cG om];rfl
    grind
   rw [e];rfl
theorem VQ(F:Nat)(p:J aF)(f:Nat->Bool)(hF:p.length<F)(hp:p.length<50000000):ry F p (iw (p.length+1) f)=some (iw (p.length+1) (wV p f)):=by
 refine cW (fun s=>∃k:Nat,s=((k:Int),iw (p.length+1) (fun j=>cond (decide (j<=k)) (wV p f j) (f j)))/\k<=p.length) (fun s=>p.length-s.1.toNat) ?_ F _ ⟨0,congrArg (Prod.mk (0:Int)) (kE fun i hi=>by
   cases i with
   | zero=>rfl
   | succ i=>simp_all),om⟩ bE
 rintro s ⟨k,rfl,hk⟩;have hlen:∀g:Nat->Bool,(iw (p.length+1) g).length=p.length+1:=fun g=>Bv _ g;by_cases hk:k<p.length
 ·left
  refine⟨_,⟨k+1,rfl,om⟩,bE,fun rc=>?_⟩;rw [cM om,bZ hk,bU om (by rw [hlen];omega),bL,vD _ (show k<p.length+1 by omega),aK,cG om,dT (show k<=k by omega),bf];have e:∀(A B:Bool)(L:J Bool),cond A (B,L) (false,L)=((A&&B),L):=by simp_all
  rw [e];show cond (wV p f k&&lQ p k) _ _=_
  have e2:iw (p.length+1) (fun j=>cond (decide (j<=k+1)) (wV p f j) (f j))=cond (wV p f k&&lQ p k) ((iw (p.length+1) (fun j=>cond (decide (j<=k)) (wV p f j) (f j))).set (k+1) true) (iw (p.length+1) (fun j=>cond (decide (j<=k)) (wV p f j) (f j))):=by
   cases hc:(wV p f k&&lQ p k) with
   | true=>
    rw [Fz];refine kE fun j hj=>?_;by_cases h1:j=k+1
    ·subst h1
     rw [H8,dT om,wV,hc];simp
    grind
   | false=>
    refine kE fun j hj=>?_;by_cases h1:j=k+1
    ·subst h1
     rw [dT (show k+1<=k+1 by omega),dF (show ¬ k+1<=k by omega),wV,hc];simp
    grind
  rw [e2]
  cases hc:(wV p f k&&lQ p k) with
  | true=>rw [bf,bf,bU om (by rw [hlen];omega),bL]
  | false=>rfl
 ·right
  intro rc;rw [cf om];rw [kE (g:=wV p f) fun j hj=>by grind]
theorem af9(p:J aF)(s:Bs)(f:Nat->Bool)(k j:Nat):uL p s f 0 k j=false:=by
 unfold uL
 grind
theorem aga(p:J aF)(s:Bs)(f:Nat->Bool)(b k j:Nat):
  uL p s f (b+1) k j=cond (f b&&lQ p b) (cond (j==b) true (uL p s f b k j)) (cond (f b&&MM p s b k) (cond (j==b+1) true (uL p s f b k j)) (uL p s f b k j)):=by
 unfold uL
 grind
theorem adY(F:Nat)(p:J aF)(s:Bs)(f:Nat->Bool)(k:Nat)(hF:p.length+300<F)(hp:p.length<50000000)(hit:∀it∈p,mo it):
  qO F p (iw (p.length+1) f) ((s.getD k 0).toNat:Int)=some (iw (p.length+1) (wV p (uL p s f p.length k))):=by
 unfold qO;have hw:aB ((p.length:Int)+1)=((p.length+1:Nat):Int):=cG om;have hlen:∀g:Nat->Bool,(iw (p.length+1) g).length=p.length+1:=fun g=>Bv _ g;rw [hw,cE (by rw [dT om,dT om,dT om,dT om,dT om];rfl),QC];refine cW (fun x=>∃b:Nat,x=((b:Int),iw (p.length+1) (uL p s f b k))/\b<=p.length) (fun x=>p.length-x.1.toNat) ?_ F _ ⟨0,by grind [kE,af9],om⟩ bE;rintro x ⟨b,rfl,hb⟩;by_cases hb:b<p.length
 ·left
  refine⟨_,⟨b+1,rfl,om⟩,bE,fun rc=>?_⟩;have hki:(R4 p b)=p[b]:=by unfold R4;rw [gd hb]
  have hst:(p[b].fKind==3)=lQ p b:=by unfold lQ;rw [hki]
  have hfi:QD p[b] ((s.getD k 0).toNat:Int)=MM p s b k:=by unfold MM;rw [hki]
  rw [cM om,bZ hb,bU om (by rw [hlen];omega),bL,gd hb,vD _ (show b<p.length+1 by omega),cG om,hst,akD F p[b] _ om (hit _ (jN hb)),hfi]
  have e:iw (p.length+1) (uL p s f (b+1) k)=cond (f b&&lQ p b) ((iw (p.length+1) (uL p s f b k)).set b true) (cond (f b&&MM p s b k) ((iw (p.length+1) (uL p s f b k)).set (b+1) true) (iw (p.length+1) (uL p s f b k))):=by
   grind [Fz,kE,aga]
  rw [e]
  cases hf:f b with
  | false=>rfl
  | true=>
   cases hs:lQ p b with
   | true=>
    grind [bU]
   | false=>
    cases hx:MM p s b k with
    | true=>
     grind [bU,Int.toNat_natCast]
    | false=>rfl
 ·right
  obtain rfl:b=p.length:=om;intro rc;rw [cf om,VQ F p _ om hp,aD]
theorem abc(F:Nat)(st:J Bool)(hF:st.length<F)(hs:st.length<100000000):∃b,(b=false->∀i,i<st.length->st.getD i false=false)/\qP F st true=some b:=by
 unfold qP
 obtain⟨r,hr,h⟩:∃r:Int,(r<0->∀i,i<st.length->st.getD i false=false)/\Bw F st true=some r:=by
  refine Eg _ (fun s=>∃k:Nat,s=(k:Int)/\k<=st.length/\∀i,i<k->st.getD i false=false) (fun s=>st.length-s.toNat) ?_ F _ ⟨0,rfl,om,fun i hi=>om⟩ bE;rintro ii ⟨k,rfl,hk,hn⟩;by_cases hk:k<st.length
  ·cases hv:st.getD k false with
   | true=>
    right;refine⟨(k:Int),fun h=>om,fun rc=>?_⟩;rw [cM om,bZ hk,bL,hv]
    rfl
   | false=>
    left;refine⟨_,⟨k+1,rfl,om,fun i hi=>?_⟩,bE,fun rc=>?_⟩
    ·grind
    ·rw [cM om,bZ hk,bL,hv,cG om]
     rfl
  ·obtain rfl:k=st.length:=om
   simp_all
 simp_all
theorem acn(F:Nat)(p:J aF)(s:Bs)(hF:p.length+300<F)(qL:s.length+1<F)(hs:s.length<50000000)(hp:p.length<50000000)(hit:∀it∈p,mo it):
  zy F p s=some (iw (s.length+1) (EE p s p.length)):=by
 unfold zy;have hw:aB ((s.length:Int)+1)=((s.length+1:Nat):Int):=cG om;have hlen:∀g:Nat->Bool,(iw (s.length+1) g).length=s.length+1:=fun g=>Bv _ g
 have hrq:∀ {α:Type}(x:O α),rq ((decide (0<=((s.length+1:Nat):Int)))&&((decide (((s.length+1:Nat):Int)<=((s.length+1:Nat):Int)))&&((decide (0<((s.length+1:Nat):Int)))&&((decide (((s.length+1:Nat):Int)<=9223372036854775807))&&(decide ((1:Int)*((s.length+1:Nat):Int)<=140737488355328)))))) x=x:=by
  grind [cE,dT]
 rw [hw,hrq,bL,qZ si,QC,Fz]
 refine cW (fun x:J Bool×Int=>∃i:Nat,x=(iw (s.length+1) (EE p s i),(i:Int))/\i<=p.length) (fun x=>p.length-x.2.toNat) ?_ F _ ⟨0,congrArg (fun y=>(y,(0:Int))) (kE fun j _=>by
   show cond (j==0) true false=(j==0);cases (j==0)<;>rfl),om⟩ bE
 rintro x ⟨i,rfl,hi⟩;dsimp only;by_cases hi:i<p.length
 ·left
  refine⟨(iw (s.length+1) (EE p s (i+1)),((i+1:Nat):Int)),⟨i+1,rfl,om⟩,bE,fun rc=>?_⟩;rw [cM om,hrq];refine cW (fun x:Int×J Bool=>∃k:Nat,x=((k:Int),iw (s.length+1) (fun j=>decide (j<k)&&EE p s (i+1) j))/\k<=s.length+1) (fun x=>s.length+1-x.1.toNat) ?_ F _ ⟨0,congrArg (Prod.mk (0:Int)) (kE fun j _=>by simp),om⟩ bE;rintro x ⟨k,rfl,hk⟩;dsimp only;by_cases hk:k<=s.length
  ·left
   refine⟨_,⟨k+1,rfl,om⟩,bE,fun bp=>?_⟩;have hki:(R4 p i)=p[i]:=by unfold R4;rw [gd hi]
   have hst:(p[i].fKind==3)=lQ p i:=by unfold lQ;rw [hki]
   have lT:∀b,b=EE p s (i+1) k->(iw (s.length+1) (fun j=>decide (j<k)&&EE p s (i+1) j)).set k b=iw (s.length+1) (fun j=>decide (j<k+1)&&EE p s (i+1) j):=by
    rintro b rfl;rw [Fz]
    grind
   rw [cM om,bZ hi,bL,gd (l:=p) hi,hst,cG om]
   cases hs3:lQ p i with
   | true=>
    rw [bf,bU om (by rw [hlen];omega),bL,vD _ om]
    have hres:∀b,b=EE p s (i+1) k->((some ((k:Int),b,iw (s.length+1) (fun j=>decide (j<k)&&EE p s (i+1) j)):O (Int×Bool×(J Bool))).bind fun x5=>
      rq ((decide (0<=x5.1))&&(decide (x5.1<(x5.2.2.length:Int)))) (bp (((k+1:Nat):Int),x5.2.2.set (Int.toNat x5.1) x5.2.1)))=bp (((k+1:Nat):Int),iw (s.length+1) (fun j=>decide (j<k+1)&&EE p s (i+1) j)):=by
     grind [bU,Int.toNat_natCast]
    cases he:EE p s i k with
    | true=>simp_all [adX]
    | false=>
     rw [aO]
     cases k with
     | zero=>
      simp_all [cf,Kh]
     | succ k=>
      rw [cM om,uE om om,bU om (by rw [hlen];omega),bL,vD _ om]
      simp_all [OK,Nat.add_sub_cancel,dT]
   | false=>
    rw [aO]
    cases k with
    | zero=>
     rw [cf om,bU om (by rw [hlen];omega),bL,lT false (by rw [YN p s hs3])]
    | succ k=>
     rw [cM om,uE om om,bU om (by rw [hlen];omega),bL,Nat.add_sub_cancel,vD _ om]
     cases he:EE p s i k with
     | false=>rw [aO,bU om (by rw [hlen];omega),bL,lT false (by simp_all [Uv])]
     | true=>
      rw [bf,bZ hi,bZ (show k<s.length by omega),bL,ahZ F p[i] _ om (hit _ (jN hi)),aD,bU om (by rw [hlen];omega),lT _ (by rw [Uv p s hs3,he];unfold MM;rw [hki];rfl)]
  ·right
   obtain rfl:k=s.length+1:=om;intro bp;rw [cf om,cG om,kE (g:=EE p s (i+1)) fun j hj=>by simp_all]
 grind
theorem agb(F:Nat)(p:J aF)(n:Bs)(hF:p.length+300<F)(qL:n.length+1<F)(hn:n.length<50000000)(hp:p.length<50000000)(hit:∀it∈p,mo it){v:Bool}(hv:lP F p=some v):
  B7 F p n=some (v&&EE p n p.length n.length):=by
 unfold B7;rw [<-G6 F p hF hp hit,hv,aD,acn F p n hF qL hn hp hit]
 cases v with
 | false=>rfl
 | true=>
  rw [aD,bU om (by rw [Bv];omega),vD _ om];rfl
theorem Names.left{a b:J Bs}(h:Names (a++b)):Names a:=fun c hc=>h c (by simp [hc])
theorem Ux{n:J Bs}(h:Names n):pathOf n=[47]↔n=[]:=by
 have:=aa7 h;rw [sC] at this;simpa using this
structure VT(l:List bu):Prop where
 len:l.length<=128
 root:∃f∈l,f.bW=[47]
 path:∀f∈l,Ee f.bW=true
 dir:∀f∈l,f.nH=true->f.fData=[]
 ama:∀f∈l,f.bW=[47]->f.nH=true
 data:∀f∈l,f.fData.length<=8192
 asc:PF l
 par:∀f∈l,f.bW≠[47]->∃p∈l,p.bW=p5 f.bW/\p.nH=true
theorem VT.up{l:J bu}(h:VT l):∀(r:J Bs)(m:J Bs)(c:Bs),Names (m++c::r)->(∃f∈l,f.bW=pathOf (m++c::r))->∃f∈l,f.bW=pathOf (m++[c]):=by
 intro r
 induction hn:r.length generalizing r with
 | zero=>
  intro m c _ hf;obtain rfl:r=[]:=C7 hn
  exact hf
 | succ k ih=>
  intro m c hN ⟨f,hf,e⟩;have hr:r≠[]:=by intro e;subst e;simp at hn
  have hne:f.bW≠[47]:=by
   rw [e];intro e';have:=(Ux hN).1 e';simp at this
  obtain⟨p,hp,e1,-⟩:=h.par f hf hne;rw [e,Yv hN] at e1
  have e2:(m++c::r).dropLast=m++c::r.dropLast:=by
   rw [List.dropLast_append_of_ne_nil si,List.dropLast_cons_of_ne_nil hr]
  rw [e2] at e1;exact ih r.dropLast (by simp [hn]) m c (by rw [<-e2];exact hN.dropLast) ⟨p,hp,e1⟩
def GI(n:Nat)(o:J (J aH)×J aH):Prop:=(∀c∈o.1,(∀r∈c,r.fText.length=1)/\c.length<=n)/\(∀r∈o.2,r.fText.length=1)/\o.2.length<=n
theorem GI.up{n m:Nat}{o:J (J aH)×J aH}(h:GI n o)(hm:n<=m):GI m o:=⟨fun c hc=>⟨(h.1 c hc).1,by have:=(h.1 c hc).2;omega⟩,h.2.1,by have:=h.2.2;omega⟩
theorem YP(cl:Int):∀(t:Bs)(n:Nat)(o:J (J aH)×J aH),GI n o->GI (n+t.length) (t.foldl (lV cl) o)
 | [],n,o,h=>h
 | b::t,n,o,h=>by
  have h2:GI (n+1) (lV cl o b):=by
   obtain⟨h1,h2,h3⟩:=h;unfold lV;cases (b==47)
   ·refine⟨fun c hc=>⟨(h1 c hc).1,by have:=(h1 c hc).2;omega⟩,fun r hr=>?_,bE⟩
    rcases uw.1 hr with hr|hr
    ·exact h2 r hr
    ·obtain rfl:=J0.1 hr;rfl
   ·refine⟨fun c hc=>?_,fun r hr=>(by cases hr),si⟩
    rcases uw.1 hc with hc|hc
    ·exact⟨(h1 c hc).1,by have:=(h1 c hc).2;omega⟩
    ·obtain rfl:=J0.1 hc;exact⟨h2,om⟩
  have:=YP cl t (n+1) _ h2;rwa [show n+1+t.length=n+(b::t).length by simp;omega] at this
theorem amh:∀(l:J aH)(n:Nat)(o:J (J aH)×J aH),GI n o->GI (n+cA l) (l.foldl za o)
 | [],n,o,h=>h
 | r::l,n,o,h=>by
  have h2:GI (n+r.fText.length) (za o r):=by
   unfold za;cases (r.bO != 0&&(r.bO != 1&&r.bO != 2))
   ·exact YP _ _ _ _ h
   ·exact h.up om
  have:=amh l _ _ h2;rwa [show n+r.fText.length+cA l=n+cA (r::l) by simp [cA];omega] at this
theorem ami(l:J aH):∀c∈zb l,cA c=c.length/\c.length<=cA l:=by
 have h:=amh l 0 ([],[]) ⟨fun c hc=>(by cases hc),fun r hr=>(by cases hr),si⟩;rw [pP] at h;intro c hc;rcases uw.1 hc with hc|hc
 ·exact⟨adQ (h.1 c hc).1,(h.1 c hc).2⟩
 ·obtain rfl:=J0.1 hc;exact⟨adQ h.2.1,h.2.2⟩
end Go.Proofs.YtjgkapeknmdedaaGreatDoor
