import Derived.Test.YtlgmlcgjmcmmgaaGreatDoorZ2
import Derived.Test.YtlgmlcgjmcmmgaaGreatDoorSo
import Derived.Lib.SplitLaws
import Derived.Lib.LastIndexByte
import Derived.Lib.Join
set_option linter.all false
namespace Go.Proofs.YtlgmlcgjmcmmgaaGreatDoor
open Go.RT
def lF:Bs->J Bs
 | []=>[[]]
 | b::l=>cond (b==47) ([]::lF l) (match lF l with
  | []=>[[b]]
  | p::ps=>(b::p)::ps)
theorem afN(l:Bs):(lF l).length<=l.length+1:=by
 induction l with
 | nil=>simp [lF]
 | cons b l ih=>
  unfold lF
  grind
theorem WM(l:Bs):∀p∈lF l,p.length<=l.length:=by
 induction l with
 | nil=>intro p hp;simp [lF] at hp;subst hp;simp
 | cons b l ih=>
  intro p hp;unfold lF at hp
  grind
theorem VI:∀(l:Bs)(n:Nat),(∀j,j<n->l.getD j 0≠47)->n<l.length->l.getD n 0=47->lF l=l.take n::lF (l.drop (n+1))
 | [],n,_,h,_=>by simp at h
 | b::l,0,_,_,h=>by
  have hb:b=47:=by simpa using h
  subst hb
  simp [lF]
 | b::l,n+1,h0,h1,h2=>by
  have hb:(b==47)=false:=by
   have:=h0 0 om;simpa using this
  have ih:=VI l n (fun j hj=>by
   grind) (by simpa using h1) (by simpa using h2)
  rw [lF,hb,ih];simp
theorem RH:∀(l:Bs),(∀j,j<l.length->l.getD j 0≠47)->lF l=[l]
 | [],_=>rfl
 | b::l,h0=>by
  have hb:(b==47)=false:=by
   have:=h0 0 si;simpa using this
  have ih:=RH l (fun j hj=>by
   have:=h0 (j+1) (by simpa using hj);simpa using this)
  unfold lF;rw [hb,aU,ih]
theorem akw{α:Type}(l:J α)(f k:Nat):sl l (f:Int) (k:Int)=(l.take k).drop f:=by simp [sl]
theorem ab8{α:Type}(l:J α)(f:Nat):sl l (f:Int) (l.length:Int)=l.drop f:=by simp [sl]
theorem al6{α:Type}(l:J α):sl l 1 (l.length:Int)=l.drop 1:=ab8 l 1
theorem Uq{α:Type}(l:J α)(k:Nat):sl l 0 (k:Int)=l.take k:=by simp [sl]
theorem afO(F:Nat)(s:Bs)(hF:s.length<F)(hs:s.length<1000000000):Ir F s=some (lF s):=by
 refine dn (fun x=>∃f k:Nat,x.2.1=(f:Int)/\x.2.2=(k:Int)/\f<=k/\k<=s.length/\x.1.length<=f/\x.1++lF (s.drop f)=lF s/\∀j,f<=j->j<k->s.getD j 0≠47) (fun x=>s.length-x.2.2.toNat) ?_ F _ ⟨0,0,rfl,rfl,om,om,si,si,fun j _ hj=>om⟩ (by simpa using hF);rintro⟨o,fr,ii⟩ ⟨f,k,h0,h0',h1,h2,h3,h4,h5⟩;dsimp only at h0 h0' h3 h4 h5⊢;subst h0 h0';by_cases hk:k<s.length
 ·left
  have hg:s.getD k 0=s[k]:=gd hk
  cases hb:(s[k]==47) with
  | true=>
   refine⟨(o++[sl s (f:Int) (k:Int)],((k+1:Nat):Int),((k+1:Nat):Int)),⟨k+1,k+1,rfl,rfl,om,om,bH,?_,fun j h h'=>om⟩,bH,fun rc=>?_⟩
   ·have hc:=VI (s.drop f) (k-f) (fun j hj=>by
     have:=h5 (f+j) om om
     simp_all)
    grind [List.drop_drop,akw,List.take_drop]
   ·rw [cM om,bQ om om,ck,hg,qR _ 47 om,hb,bw,CB om om om,bQ bH bH,cG om]
  | false=>
   refine⟨(o,(f:Int),((k+1:Nat):Int)),⟨f,k+1,rfl,rfl,om,om,h3,h4,fun j h h'=>?_⟩,bH,fun rc=>?_⟩
   ·grind
   ·rw [cM om,bQ om om,ck,hg,qR _ 47 om,hb,aU,cG om]
 ·right
  obtain rfl:k=s.length:=om;intro rc;rw [cf om,CB om om om,bQ bH bH,<-h4,ab8,RH]
  simp_all
def al7(b:UInt8):Bool:=b==47||b==0
def uh(s:Bs):Bool:=(decide (1<=s.length)&&decide (s.length<=32))&&(!(s==[46])&&(!(s==[46,46]) && !(s.any al7)))
theorem ahN(F:Nat)(s:Bs)(hF:s.length<F)(hs:s.length<1000000000000):Ee F s=some (uh s):=by
 unfold Ee;rw [qh s (fun i=>(i:Int)) al7 (fun _ _=>some false) (some true) hF (by rfl) (fun i h rc=>?_) (fun rc=>?_),FE]
 ·simp [aK]
  have e1:(decide ((s.length:Int)<1)||decide (32<(s.length:Int)))=!(decide (1<=s.length)&&decide (s.length<=32)):=by
   grind
  unfold uh
  grind
 ·rw [cM om,bQ om om,bQ om om,ck,gd h,qR _ 47 om,qR _ 0 om,aK,cG om]
  rfl
 ·rw [cf om]
def Ef(s:Bs):Bool:=s==[47]||((decide (2<=s.length)&&decide (s.length<=128))&&(s.getD 0 0==47&&(lF (s.drop 1)).all uh))
theorem afP(p:J Bs):cond (p.any fun n=>!uh n) (some false) (some true)=some (p.all uh):=by
 grind
theorem Ym(F:Nat)(s:Bs)(hF:200<=F):uN F s=some (Ef s):=by
 unfold uN Ef
 cases h1:(s==[47]) with
 | true=>rfl
 | false=>
  simp only [aU,aK,aH,cT];by_cases h2:2<=s.length/\s.length<=128
  ·rw [dF om,dF om,Bool.or_self,aU,r7 om,aH,Yb _ 47 om,dT h2.1,dT h2.2]
   cases h3:(s.getD 0 0==47) with
   | false=>rfl
   | true=>
    rw [kn,bQ om om,al6,afO F _ bH bH,aH];have hl:=afN (s.drop 1);have hm:=WM (s.drop 1);simp only [Mm] at hl hm;rw [qh (lF (s.drop 1)) (fun i=>(i:Int)) (fun n=>!uh n) (fun _ _=>some false) (some true) om (by rfl) (fun i h rc=>?_) (fun rc=>?_),FE,afP]
    ·rfl
    ·have:=hm _ (ko h)
     rw [cM om,bQ om om,ck,gd h,ahN F _ om om,aH,cG om]
    ·rw [cf om]
  grind
def tW(s:Bs):Nat:=(Lib.lastIndexByte ⟨⟨s⟩⟩ 47).toNat
def p7(s:Bs):Bs:=cond (tW s==0) [47] (s.take (tW s))
theorem b47(b:UInt8):((b.toNat:Int)=47)↔b=47:=by
 have:=qR b 47 om;rw [sE] at this;simpa using this
theorem Yn(s:Bs):(Lib.lastIndexByte ⟨⟨s⟩⟩ 47=-1/\∀j,j<s.length->s.getD j 0≠47) \/
  ∃i:Nat,i<s.length/\Lib.lastIndexByte ⟨⟨s⟩⟩ 47=i/\s.getD i 0=47/\∀j,i<j->j<s.length->s.getD j 0≠47:=by
 have h:=Lib.lastIdx_spec ⟨⟨s⟩⟩ 47 s.length;simp [b47] at h;exact h
theorem RI(s:Bs)(a:Nat)(h1:(a<s.length/\s.getD a 0=47)\/a=0)(h2:∀j,a<j->j<s.length->s.getD j 0≠47):tW s=a:=by
 unfold tW
 grind [Yn,Nat.lt_trichotomy]
theorem ahO(s:Bs):((tW s<s.length/\s.getD (tW s) 0=47)\/tW s=0)/\∀j,tW s<j->j<s.length->s.getD j 0≠47:=by
 unfold tW
 grind [Yn]
theorem al8(s:Bs):tW s<=s.length:=by
 grind [ahO]
theorem akx(F:Nat)(s:Bs)(hF:s.length<F)(hs:s.length<1000000000):MF F s=some (tW s:Int):=by
 refine dn (fun x=>∃a k:Nat,x.1=(a:Int)/\x.2=(k:Int)/\k<=s.length/\((a<k/\s.getD a 0=47)\/a=0)/\∀j,a<j->j<k->s.getD j 0≠47) (fun x=>s.length-x.2.toNat) ?_ F _ ⟨0,0,rfl,rfl,om,.inr rfl,fun j _ hj=>om⟩ (by simpa using hF);rintro⟨aa,ii⟩ ⟨a,k,h0,h0',h1,h2,h3⟩;subst h0 h0';by_cases hk:k<s.length
 ·left
  have hg:s.getD k 0=s[k]:=gd hk
  cases hb:(s[k]==47) with
  | true=>
   refine⟨((k:Int),((k+1:Nat):Int)),⟨k,k+1,rfl,rfl,om,.inl ⟨om,by simp_all⟩,fun j h h'=>om⟩,bH,fun rc=>?_⟩
   rw [cM om,bQ om om,ck,hg,qR _ 47 om,hb,bw,cG om]
  | false=>
   refine⟨((a:Int),((k+1:Nat):Int)),⟨a,k+1,rfl,rfl,om,?_,fun j h h'=>?_⟩,bH,fun rc=>?_⟩
   ·grind
   ·grind
   ·rw [cM om,bQ om om,ck,hg,qR _ 47 om,hb,aU,cG om]
 ·right
  obtain rfl:k=s.length:=om;intro rc;rw [cf om,RI s a h2 h3]
theorem adI(F:Nat)(s:Bs)(hF:s.length<F)(hs:s.length<1000000000):zl F s=some (p7 s):=by
 unfold zl p7;rw [akx F s hF hs,aH];have:=al8 s;by_cases h:tW s=0
 ·rw [h];rfl
 ·have e1:((tW s:Int)==0)=false:=by simpa using h
  have e2:(tW s==0)=false:=by simpa using h
  rw [e1,e2,aU,aU,bQ om om,Uq]
def MG(p:Bs)(f:bt):Bool:=f.bR==p
def Kc(l:J bt)(p:Bs):O bt:=l.find? (MG p)
def Qt(l:J bt)(p:Bs):Bool:=l.any (MG p)
def fiS(l:J bt)(p:Bs):Int:=(l.findIdx? (MG p)).elim (-1) fun j=>(j:Int)
theorem ahP(F:Nat)(l:J bt)(p:Bs)(hF:l.length<F)(hl:l.length<1000000000):Eg F l p=some (fiS l p):=by
 unfold Eg fiS;rw [qh l (fun i=>(i:Int)) (MG p) (fun i _=>some (i:Int)) (some (-1)) hF (by rfl) (fun i h rc=>?_) (fun rc=>?_),Qu _ _ _ bN]
 ·cases l.findIdx? (MG p)<;>simp
 ·rw [cM om,bQ om om,ck,gd h,cG om]
  rfl
 ·rw [cf om]
theorem afQ(l:J bt)(p:Bs):(l.findIdx? (MG p)=none/\Kc l p=none/\Qt l p=false)\/∃j,j<l.length/\l.findIdx? (MG p)=some j/\Kc l p=some (l.getD j bN)/\Qt l p=true:=by
 unfold Kc Qt
 induction l with
 | nil=>simp_all
 | cons f l ih=>
  grind
theorem ahQ(l:J bt)(p:Bs):(fiS l p=-1/\Kc l p=none/\Qt l p=false)\/∃j:Nat,j<l.length/\fiS l p=(j:Int)/\Kc l p=some (l.getD j bN)/\Qt l p=true:=by
 unfold fiS
 grind [afQ]
def RL(a p:Bs):Bool:=cond (a==[47]) (!(p==[47])) (decide (a.length+1<=p.length)&&p.take (a.length+1)==a++[47])
theorem afR(F:Nat)(a p:Bs):B6 F a p=some (RL a p):=by
 unfold B6 RL;cases (a==[47])
 ·by_cases h:a.length+1<=p.length
  ·have hl:a.length<p.length:=om
   rw [cM om,bQ om om,Uq,aH,dT h]
   have e:(p.take (a.length+1)==a++[47])=(p.take a.length==a&&p.getD a.length 0==47):=by
    rw [qA hl]
    grind [List.append_inj]
   rw [e];cases (p.take a.length==a)
   ·rfl
   ·rw [bQ om om,qR _ 47 om]
    rfl
  grind
 ·rfl
def Oz(l:J bt)(p:Bs):Int:=cond (l.any fun f=>!f.nM&&RL f.bR p) 18 (cond (Qt l (p7 p)) 0 8)
theorem ahR(F:Nat)(l:J bt)(p:Bs)(hF:l.length<F)(hl:l.length<1000000000)(hp:p.length<1000000000)(hpF:p.length<F):zm F l p=some (Oz l p):=by
 unfold zm;rw [qh l (fun i=>(i:Int)) (fun f=>!f.nM&&RL f.bR p) (fun _ _=>some 18) (some (cond (Qt l (p7 p)) 0 8)) hF (by rfl) (fun i h rc=>?_) (fun rc=>?_),FE,aK]
 ·rfl
 ·rw [bQ om om,bQ om om,ck,afR F _ _,cG om]
  grind
 ·rw [cf om,adI F p hpF hp,aH,ahP F l _ hF hl]
  rcases ahQ l (p7 p) with⟨h1,h2,h3⟩|⟨j,h0,h1,h2,h3⟩
  ·rw [h1,h3];rfl
  grind
def Ll(l:J bt)(k:Nat):Int:=
 cond (!Ef (l.getD k bN).bR) 10
 (cond (((l.getD k bN).nM && !((l.getD k bN).fData==[]))||((l.getD k bN).bR==[47] && !(l.getD k bN).nM)) 1
 (cond (decide (8192<(l.getD k bN).fData.length)) 3
 (cond (decide (0<k)&&(Op.bytesLess (l.getD k bN).bR (l.getD (k-1) bN).bR||(l.getD k bN).bR==(l.getD (k-1) bN).bR)) 25
 (cond (decide (0<k)) (Oz (l.take k) (l.getD k bN).bR) 0))))
def VJ(l:J bt):Nat->Nat->Int
 | 0,_=>0
 | n+1,k=>cond (Ll l k==0) (VJ l n (k+1)) (Ll l k)
def gW(l:J bt):Int:=cond (decide (128<l.length)) 4 (cond (l.length==0 || !((l.getD 0 bN).bR==[47])) 8 (VJ l l.length 0))
def MH(l:J bt):Prop:=l.length<=140/\∀f∈l,f.bR.length<=300/\f.fData.length<=9000
theorem MH.at{l:J bt}(h:MH l)(k:Nat):(l.getD k bN).bR.length<=300/\(l.getD k bN).fData.length<=9000:=by
 by_cases hk:k<l.length
 ·rw [gd hk];exact h.2 _ (ko hk)
 ·have:l.getD k bN=bN:=by simp_all
  rw [this];exact⟨by decide,by decide⟩
theorem an2(l:J bt):(cond ((l.length:Int)==0)
 (some true)
 (rq (decide (0<(l.length:Int))) (some (!(((l.getD 0 bN).bR)==([47]:Bs))))):O Bool)=some (l.length==0 || !((l.getD 0 bN).bR==[47])):=by
  cases l with
  | nil=>rfl
  | cons f l=>
   have e1:((((f::l).length:Nat):Int)==0)=false:=by simp;omega
   have e2:((f::l).length==0)=false:=by simp
   rw [e2,r7 si];rfl
theorem ahS(l:J bt)(k:Nat)(r:O Int):cond (!Ef (l.getD k bN).bR) (some 10)
 (cond (((l.getD k bN).nM && !((l.getD k bN).fData==[]))||((l.getD k bN).bR==[47] && !(l.getD k bN).nM)) (some 1)
 (cond (decide (8192<(l.getD k bN).fData.length)) (some 3)
 (cond (decide (0<k)&&(Op.bytesLess (l.getD k bN).bR (l.getD (k-1) bN).bR||(l.getD k bN).bR==(l.getD (k-1) bN).bR)) (some 25)
 (cond (decide (0<k)) (cond (Oz (l.take k) (l.getD k bN).bR != 0) (some (Oz (l.take k) (l.getD k bN).bR)) r) r))))=cond (Ll l k==0) r (some (Ll l k)):=by
 unfold Ll
 grind
theorem an3{l:J bt}{body:(Int->O Int)->Int->O Int}(F:Nat)(hF:l.length<F)(hs:∀(k:Nat) rc,k<l.length->body rc (k:Int)=cond (Ll l k==0) (rc ((k+1:Nat):Int)) (some (Ll l k)))(he:∀rc,body rc (l.length:Int)=some 0):bU body F 0=some (VJ l l.length 0):=by
 refine dn (fun x=>∃k n:Nat,x=(k:Int)/\k+n=l.length/\VJ l n k=VJ l l.length 0) (fun x=>l.length-x.toNat) ?_ F _ ⟨0,l.length,rfl,om,rfl⟩ (by simpa using hF);rintro x ⟨k,n,rfl,h1,h2⟩
 cases n with
 | zero=>
  right;obtain rfl:k=l.length:=om;intro rc
  rw [he,<-h2];rfl
 | succ n=>
  rw [VJ] at h2
  cases hv:(Ll l k==0) with
  | true=>
   left;rw [hv] at h2
   exact⟨_,⟨k+1,n,rfl,om,h2⟩,bH,fun rc=>by grind⟩
  | false=>
   grind
theorem al9(l:J bt)(k:Nat)(hk:k<l.length)(hl:l.length<1000000000):(cond (decide (0<(k:Int)))
 (rq ((decide (0<=aB ((k:Int)-1)))&&(decide (aB ((k:Int)-1)<(l.length:Int)))) (some (Op.bytesLess ((l.getD k bN).bR) ((l.getD (Int.toNat (aB ((k:Int)-1))) bN).bR)||((l.getD k bN).bR)==((l.getD (Int.toNat (aB ((k:Int)-1))) bN).bR))))
 (some false):O Bool)=some (decide (0<k)&&(Op.bytesLess (l.getD k bN).bR (l.getD (k-1) bN).bR||(l.getD k bN).bR==(l.getD (k-1) bN).bR)):=by
  by_cases h0:0<k
  ·rw [cM om,wM om h0,bQ om om,ck,dT h0,Qg]
  simp_all
theorem ao8(k:Nat):decide (0<(k:Int))=decide (0<k):=by
 simp_all
theorem ama(n k:Nat):decide ((k:Int)<(n:Int))=decide (k<n):=by
 simp_all
theorem afS(F:Nat)(l:J bt)(hF:400<=F)(h:MH l):B7 F l=some (gW l):=by
 have hl:=h.1;unfold B7 gW;rw [show decide (128<(l.length:Int))=decide (128<l.length) from ama _ 128,an2]
 cases decide (128<l.length) with
 | true=>rfl
 | false=>
  cases (l.length==0 || !((l.getD 0 bN).bR==[47])) with
  | true=>rfl
  | false=>
   refine an3 F om (fun k rc hk=>?_) (fun rc=>?_)
   ·rw [cM om,bQ om om,ck,Ym F _ om,al9 l k hk om]
    simp only [aK,cF,aH,cT];rw [show decide (8192<(((l.getD k bN).fData.length:Nat):Int))=decide (8192<(l.getD k bN).fData.length) from ama _ 8192,ao8,bQ om om,Uq];have:=(h.at k).1;rw [ahR F (l.take k) _ bH bH om om,aH,cG om,<-ahS]
   ·rw [cf om]
theorem ahT(F:Nat)(l:J bt)(hF:200<=F):∃b,(b=true->MH l)/\Is F l=some b:=by
 refine Eh (fun b=>b=true->MH l) (fun x=>∃n k:Nat,x.1=(n:Int)/\x.2=(k:Int)/\k<=l.length/\k<=140/\n<=10000*k/\∀f∈l.take k,f.bR.length<=300/\f.fData.length<=9000) (fun x=>140-x.2.toNat) ?_ F _ ⟨0,0,rfl,rfl,om,om,om,si⟩ bH;rintro⟨nn,ii⟩ ⟨n,k,h0,h0',h1,h2,h3,h4⟩;subst h0 h0';simp only [aK,cF,aH];by_cases hc:k<l.length/\k<140/\n<40000
 ·have hk:=hc.1
  have e:((decide ((k:Int)<(l.length:Int))&&decide ((k:Int)<140))&&decide ((n:Int)<40000))=true:=by
   grind
  rw [e];simp only [ck,gd hk];by_cases hb:l[k].bR.length<=300/\l[k].fData.length<=9000
  ·left
   refine⟨(((n+l[k].bR.length+l[k].fData.length:Nat):Int),((k+1:Nat):Int)),⟨_,k+1,rfl,rfl,om,om,om,fun f hf=>?_⟩,bH,fun rc=>?_⟩
   ·grind [List.take_succ_eq_append_getElem,List.mem_singleton]
   ·grind [bI,bQ]
  ·right
   refine⟨false,fun h=>(by cases h),fun rc=>?_⟩;rw [bQ om om];by_cases hp:l[k].bR.length<=300
   ·rw [cf om,bQ om om,dT om];rfl
   grind
 ·have e:((decide ((k:Int)<(l.length:Int))&&decide ((k:Int)<140))&&decide ((n:Int)<40000))=false:=by
   grind
  right;rw [e];refine⟨_,fun h=>?_,fun rc=>rfl⟩;simp at h;refine⟨om,fun f hf=>h4 f ?_⟩
  grind
set_option maxRecDepth 100000
theorem w1:B8 60 [47,97,47,98] [46,46,47,99,47,46,47,100,47]=some ([47,97,47,99,47,100],0):=by kernel_rfl
theorem w2:B8 60 [47] [46,46]=some ([47],0):=by kernel_rfl
def zn:J Bs->Bs
 | []=>[]
 | [x]=>x
 | x::y::l=>x++47::zn (y::l)
theorem adJ(x:Bs){l:J Bs}(h:l≠[]):zn (x::l)=x++47::zn l:=by
 cases l with
 | nil=>exact absurd rfl h
 | cons y l=>rfl
theorem RM:∀(l:J Bs)(c:Bs),l≠[]->zn (l++[c])=zn l++47::c
 | [],c,h=>absurd rfl h
 | [x],c,_=>rfl
 | x::y::l,c,_=>by
  have ih:=RM (y::l) c si;rw [yo,adJ x si,ih,zn];simp
def amb(c:Bs):Prop:=∀b∈c,b≠47
theorem afT{c:Bs}(h:uh c=true):amb c:=by
 intro b hb e;unfold uh at h;simp only [cx,Fp] at h;have:=List.any_eq_false.1 h.2.2.2 b hb;subst e;exact this rfl
theorem Ke{c:Bs}(h:uh c=true):1<=c.length/\c.length<=32:=by
 unfold uh at h;simp only [cx,fW] at h;exact h.1
def pathOf(l:J Bs):Bs:=[47]++zn l
def Names(l:J Bs):Prop:=∀c∈l,uh c=true
theorem Names.snoc{l:J Bs}(h:Names l){c:Bs}(hc:uh c=true):Names (l++[c]):=by
 intro x hx;rcases wH.1 hx with hx|hx
 ·exact h x hx
 ·simp only [J2] at hx;subst hx;exact hc
theorem Names.dropLast{l:J Bs}(h:Names l):Names l.dropLast:=fun c hc=>h c (List.dropLast_subset l hc)
theorem aky{l:J Bs}(h:Names l)(hl:l≠[]):zn l≠[]:=by
 match l,hl with
 | [x],_=>
  have:=Ke (h x si)
  intro e;rw [zn] at e;rw [e] at this;simp at this
 | x::y::l,_=>intro e;rw [zn] at e;simp at e
theorem aa2{l:J Bs}(h:Names l):(pathOf l==[47])=(l==[]):=by
 cases l with
 | nil=>rfl
 | cons x l=>
  have:=aky h si;rw [show ((x::l)==[])=false from rfl];simp only [pathOf,yo,pV,gO,ne_eq,List.cons.injEq,uA];exact this
theorem RN(a c:Bs)(hc:amb c):tW (a++47::c)=a.length:=by
 refine RI _ _ (.inl ⟨si,by simp [List.getD]⟩) fun j hj hl=>?_
 have e:(a++47::c).getD j 0=c.getD (j-a.length-1) 0:=by
  rw [List.getD,Ih om,show j-a.length=(j-a.length-1)+1 by omega,List.getElem?_cons_succ];rfl
 simp at hl;rw [e,gd om];exact hc _ (ko _)
theorem aa3{l:J Bs}(h:Names l){c:Bs}(hc:uh c=true):p7 (pathOf (l++[c]))=pathOf l:=by
 have h47:=afT hc
 cases l with
 | nil=>
  have:tW (pathOf ([]++[c]))=0:=RN [] c h47;unfold p7;rw [this]
  rfl
 | cons x l=>
  have e:pathOf ((x::l)++[c])=pathOf (x::l)++47::c:=by
   rw [pathOf,RM _ _ si,pathOf];simp
  have:tW (pathOf ((x::l)++[c]))=(pathOf (x::l)).length:=by rw [e];exact RN _ c h47
  unfold p7;rw [this];have h0:((pathOf (x::l)).length==0)=false:=by simp [pathOf]
  rw [h0,aU,e];simp
theorem Yo{l:J Bs}(h:Names l):p7 (pathOf l)=pathOf l.dropLast:=by
 rcases List.eq_nil_or_concat l with rfl|⟨l',c,rfl⟩
 ·rfl
 ·rw [List.concat_eq_append] at h⊢
  have hc:uh c=true:=h c si;have hl:Names l':=fun x hx=>h x (by simp [hx]);rw [aa3 hl hc];simp
def Px(l:J bt):Prop:=l.Pairwise fun x y=>x.bR<y.bR
structure VL(l:List bt):Prop where
 len:l.length<=128
 pos:0<l.length
 root:(l.getD 0 bN).bR=[47]
 path:∀f∈l,Ef f.bR=true
 dir:∀f∈l,f.nM=true->f.fData=[]
 amc:∀f∈l,f.bR=[47]->f.nM=true
 data:∀f∈l,f.fData.length<=8192
 asc:Px l
 ao9:∀k,0<k->k<l.length->Oz (l.take k) (l.getD k bN).bR=0
theorem Yp(l:J bt):∀(n k:Nat),VJ l n k=0↔∀j,k<=j->j<k+n->Ll l j=0
 | 0,k=>⟨fun _ j h h'=>om,fun _=>rfl⟩
 | n+1,k=>by
  rw [VJ]
  cases h:(Ll l k==0) with
  | true=>
   rw [bw,Yp l n (k+1)];constructor
   ·intro h1 j h2 h3
    by_cases e:j=k
    ·subst e;simpa using h
    ·exact h1 j om om
   ·intro h1 j h2 h3
    exact h1 j om om
  | false=>
   rw [aU];constructor
   ·intro h1;rw [h1] at h;cases h
   ·intro h1
    have:=h1 k om om;rw [this] at h;cases h
theorem RO:∀ {l:J bt},(∀k,0<k->k<l.length->(l.getD (k-1) bN).bR<(l.getD k bN).bR)->Px l
 | [],_=>List.Pairwise.nil
 | [x],_=>ac2 _ _
 | x::y::l,h=>by
  have ih:Px (y::l):=RO fun k h1 h2=>by
   have:=h (k+1) om (by simpa using h2);rw [show k+1-1=(k-1)+1 by omega] at this;simpa using this
  have hxy:x.bR<y.bR:=by
   have:=h 1 om si;simpa using this
  refine wI.2 ⟨fun z hz=>?_,ih⟩;rcases ij.1 hz with rfl|hz
  ·exact hxy
  ·exact qj hxy ((wI.1 ih).1 z hz)
theorem akz{l:J bt}(h:Px l)(i j:Nat)(hij:i<j)(hj:j<l.length):(l.getD i bN).bR<(l.getD j bN).bR:=by
 rw [gd (show i<l.length by omega),gd hj];exact ac0.1 h i j om hj hij
theorem ahU(l:J bt)(k:Nat):Ll l k=0↔Ef (l.getD k bN).bR=true/\((l.getD k bN).nM=true->(l.getD k bN).fData=[])/\((l.getD k bN).bR=[47]->(l.getD k bN).nM=true) /\
  (l.getD k bN).fData.length<=8192/\(0<k->(l.getD (k-1) bN).bR<(l.getD k bN).bR)/\(0<k->Oz (l.take k) (l.getD k bN).bR=0):=by
 unfold Ll;generalize l.getD k bN=f;generalize l.getD (k-1) bN=g
 cases h1:Ef f.bR with
 | false=>simp
 | true=>
  cases h2:((f.nM && !(f.fData==[]))||(f.bR==[47] && !f.nM)) with
  | true=>
   grind
  | false=>
   have h3:f.nM=true->f.fData=[]:=fun h=>by
    simp_all
   have h4:f.bR=[47]->f.nM=true:=fun h=>by
    simp_all
   by_cases h5:8192<f.fData.length
   ·grind
   ·rw [cf h5]
    by_cases h6:0<k
    ·rw [<-an4 g.bR f.bR]
     cases h7:Op.bytesLess g.bR f.bR with
     | true=>
      simp_all [Kf,kn,aU]
     | false=>
      have:=(CC _ _).1 h7
      grind
    simp_all
theorem afU(l:J bt):gW l=0↔VL l:=by
 unfold gW;by_cases h1:128<l.length
 ·rw [cM h1]
  exact⟨fun h=>(by cases h),fun h=>by have:=h.len;omega⟩
 ·rw [cf h1]
  cases h2:(l.length==0 || !((l.getD 0 bN).bR==[47])) with
  | true=>
   refine⟨fun h=>(by cases h),fun h=>?_⟩;have a:=h.pos;have b:=h.root
   simp_all
  | false=>
   rw [aU];simp only [ac3,gO,Bool.not_eq_false',tV] at h2;rw [Yp];simp only [ahU];constructor
   ·intro h
    have hm:∀f∈l,∃k,k<l.length/\l.getD k bN=f:=fun f hf=>by
     grind [List.getElem_of_mem,gd]
    refine⟨om,om,h2.2,?_,?_,?_,?_,RO fun k h3 h4=>(h k om om).2.2.2.2.1 h3,fun k h3 h4=>(h k om om).2.2.2.2.2 h3⟩
    ·grind
    ·grind
    ·grind
    grind
   ·intro h j hj hj'
    have hj':j<l.length:=om;have hm:l.getD j bN∈l:=by simp_all
    exact⟨h.path _ hm,h.dir _ hm,h.amc _ hm,h.data _ hm,fun h0=>akz h.asc (j-1) j om hj',fun h0=>h.ao9 j h0 hj'⟩
def qm(s:Bs):Bs:=s.drop (tW s+1)
def apa(p:Bs)(f:bt):Bool:=!(f.bR==[47])&&p7 f.bR==p
def an5(l:J bt)(p:Bs):J Bs:=(l.filter (apa p)).map fun f=>qm f.bR
end Go.Proofs.YtlgmlcgjmcmmgaaGreatDoor

namespace Go.Proofs.YtlgmlcgjmcmmgaaGreatDoor
open Go.RT
theorem Yq(s:Bs):bX (dm s)=s:=by
 unfold bX dm;rw [Bc];have:((fun n=>UInt8.ofNat n.toNat) ∘ fun b=>(b.toNat:Int))=id:=by funext b;simp
 rw [this,T8]
def MI(c:Int):Bool:=c != 0&&(c != 1&&c != 2)
def MJ(r:aG):J fu:=cond (MI r.bZ) [] (r.fText.map fun b=>fu.mk (b.toNat:Int) (r.bZ != 1))
def rj(r:aG):J eG:=cond (MI r.bZ) [] (r.fText.map fun b=>eG.mk (b.toNat:Int) (r.bZ != 1))
theorem ab9(r:aG):(MJ r).length<=r.fText.length:=by unfold MJ;grind
theorem Ur(r:aG):(rj r).length<=r.fText.length:=by unfold rj;grind
theorem Jg{α:Type}(f:aG->J α)(hf:∀r,(f r).length<=r.fText.length):∀l:J aG,(l.flatMap f).length<=cC l
 | []=>by simp
 | r::l=>by
  have:=Jg f hf l;have:=hf r;simp [Xy,cC] at *;omega
theorem akA{l:J aG}{r:aG}(h:r∈l):r.fText.length<=cC l:=by
 induction l with
 | nil=>cases h
 | cons a l ih=>
  rcases ij.1 h with rfl|h
  ·simp [cC]
  ·have:=ih h
   simp [cC] at *;omega
theorem MK{α:Type}(f:aG->J α)(l:J aG)(k:Nat)(h:k<l.length):(l.take (k+1)).flatMap f=(l.take k).flatMap f++f l[k]:=by
 grind [List.take_succ_eq_append_getElem]
theorem Yr(c:Int):(cond (c != 0) (some (c != 1)) (some false):O Bool)=some (c != 0&&c != 1):=by cases (c != 0)<;>rfl
theorem acd(c:Int):cond (c != 0&&c != 1) (c != 2) false=MI c:=by unfold MI;grind
theorem Py(F:Nat)(l:J aG)(hF:l.length<F)(qP:cC l<F)(h1:l.length<1000000000)(h2:cC l<=1000000000):Bt F l=some (l.flatMap MJ):=by
 refine dn (fun x=>∃k:Nat,x.2=(k:Int)/\k<=l.length/\x.1=(l.take k).flatMap MJ) (fun x=>l.length-x.2.toNat) ?_ F _ ⟨0,rfl,om,si⟩ bH;rintro⟨acc,ii⟩ ⟨k,h0,hk,ha⟩;subst h0;by_cases hk:k<l.length
 ·left
  have hg:l.getD k dc=l[k]:=gd hk;have hal:acc.length<=cC (l.take k):=by grind [Jg,ab9]
  have hs:=p4 l k hk;have hle:=tL l (k+1);refine⟨((l.take (k+1)).flatMap MJ,((k+1:Nat):Int)),⟨k+1,rfl,om,rfl⟩,bH,fun rc=>?_⟩;rw [cM om,cj hk,cj hk,ck,hg,Yr,aH,cG om,MK _ _ _ hk,<-ha,cj hk,aK,aH,acd];unfold MJ
  cases hc:MI l[k].bZ with
  | true=>simp_all
  | false=>
   rw [aU,aU];refine dn (fun x=>∃j:Nat,x.2=(j:Int)/\j<=l[k].fText.length/\x.1=acc++(l[k].fText.take j).map fun b=>fu.mk (b.toNat:Int) (l[k].bZ != 1)) (fun x=>l[k].fText.length-x.2.toNat) ?_ F _ ⟨0,rfl,om,si⟩ bH;rintro⟨a2,jj⟩ ⟨j,h0,hj,hb⟩;dsimp only at h0 hb⊢;subst h0;by_cases hj:j<l[k].fText.length
   ·left
    refine⟨(acc++(l[k].fText.take (j+1)).map fun b=>fu.mk (b.toNat:Int) (l[k].bZ != 1),((j+1:Nat):Int)),⟨j+1,rfl,om,rfl⟩,bH,fun bn=>?_⟩;have Ys:l[k].fText.getD j 0=l[k].fText[j]:=gd hj;have Jh:a2.length<=acc.length+j:=by rw [hb];simp;omega
    simp only [cj hk];rw [cM om];simp only [cj hj];rw [ck,Ys,cG om,ig bH om,qA hj,J3,<-Fs,<-hb];rfl
   ·right
    obtain rfl:j=l[k].fText.length:=om;intro bn;rw [cj hk,cf om,hb,Bb]
 grind
theorem Kg(F:Nat)(l:J aG)(hF:l.length<F)(qP:cC l<F)(h1:l.length<1000000000)(h2:cC l<=1000000000):Di F l=some (l.flatMap rj):=by
 refine dn (fun x=>∃k:Nat,x.2=(k:Int)/\k<=l.length/\x.1=(l.take k).flatMap rj) (fun x=>l.length-x.2.toNat) ?_ F _ ⟨0,rfl,om,si⟩ bH;rintro⟨acc,ii⟩ ⟨k,h0,hk,ha⟩;subst h0;by_cases hk:k<l.length
 ·left
  have hg:l.getD k dc=l[k]:=gd hk;have hal:acc.length<=cC (l.take k):=by grind [Jg,Ur]
  have hs:=p4 l k hk;have hle:=tL l (k+1);refine⟨((l.take (k+1)).flatMap rj,((k+1:Nat):Int)),⟨k+1,rfl,om,rfl⟩,bH,fun rc=>?_⟩;rw [cM om,cj hk,ck,hg,Yr,aH,cG om,MK _ _ _ hk,<-ha,aK,acd];unfold rj
  cases hc:MI l[k].bZ with
  | true=>simp_all
  | false=>
   refine dn (fun x=>∃j:Nat,x.2=(j:Int)/\j<=l[k].fText.length/\x.1=acc++(l[k].fText.take j).map fun b=>eG.mk (b.toNat:Int) (l[k].bZ != 1)) (fun x=>l[k].fText.length-x.2.toNat) ?_ F _ ⟨0,rfl,om,si⟩ bH;rintro⟨a2,jj⟩ ⟨j,h0,hj,hb⟩;dsimp only at h0 hb⊢;subst h0;by_cases hj:j<l[k].fText.length
   ·left
    refine⟨(acc++(l[k].fText.take (j+1)).map fun b=>eG.mk (b.toNat:Int) (l[k].bZ != 1),((j+1:Nat):Int)),⟨j+1,rfl,om,rfl⟩,bH,fun bn=>?_⟩;have Ys:l[k].fText.getD j 0=l[k].fText[j]:=gd hj;have Jh:a2.length<=acc.length+j:=by rw [hb];simp;omega
    rw [cM om];simp only [cj hj];rw [ck,Ys,cG om,ig bH om,qA hj,J3,<-Fs,<-hb];rfl
   grind
 grind
def CD(x:J fu)(i:Nat)(b:Int):Bool:=decide (i<x.length)&&((x.getD i iJ).lQ&&(x.getD i iJ).fb==b)
theorem jb(F:Nat)(x:J fu)(i:Nat)(b:Int):nN F x (i:Int) b=some (CD x i b):=by
 unfold nN CD;by_cases h:i<x.length
 ·rw [cM om,cj h,aH,cj h,aK]
  simp_all
 grind
def ei(x:J eG)(i:Nat)(b:Int):Bool:=decide (i<x.length)&&((x.getD i cz).lQ&&(x.getD i cz).fb==b)
theorem gL(F:Nat)(x:J eG)(i:Nat)(b:Int):ff F x (i:Int) b=some (ei x i b):=by
 unfold ff ei;by_cases h:i<x.length
 ·rw [cM om,cj h,aH]
  congr 1
  grind
 grind
set_option maxRecDepth 100000
theorem iq{σ R:Type}{body:(σ->O R)->σ->O R}(Q:R->Prop)(P:σ->Prop)(m:σ->Nat)
  (hs:∀s,P s->∀rc,(∀s',P s'->m s'<m s->∃r,Q r/\rc s'=some r)->∃r,Q r/\body rc s=some r):∀(F:Nat)(s:σ),P s->m s<F->∃r,Q r/\bU body F s=some r
 | 0,s,_,h=>by omega
 | F+1,s,hP,h=>hs s hP (bU body F) fun s' h1 h2=>iq Q P m hs F s' h1 om
def Qv(x:J eG):Prop:=∀e∈x,0<=e.fb/\e.fb<=255
theorem Yt(l:J aG):Qv (l.flatMap rj):=by
 intro e he;obtain⟨r,-,he⟩:=List.mem_flatMap.1 he;unfold rj at he;cases hc:MI r.bZ<;>rw [hc] at he
 ·obtain⟨b,-,rfl⟩:=yp.1 he
  have:=b.toNat_lt;dsimp only;omega
 ·cases he
theorem Qv.at{x:J eG}(h:Qv x){i:Nat}(hi:i<x.length):0<=(x.getD i cz).fb/\(x.getD i cz).fb<=255:=by
 rw [gd hi];exact h _ (ko hi)
def Bu(e:eG):Bool:=e.lQ&&(decide (97<=e.fb)&&decide (e.fb<=122))
def jG(x:J eG)(i:Nat):J Int:=((x.drop i).takeWhile Bu).map fun e=>e.fb
def isName(n:Bs):Bool:=n==[97,108,112,104,97]||(n==[100,105,103,105,116]||(n==[97,108,110,117,109]||(n==[117,112,112,101,114]||(n==[108,111,119,101,114]||(n==[115,112,97,99,101]||(n==[98,108,97,110,107]||n==[112,117,110,99,116]))))))
def w6(x:J eG)(i:Nat):Bs×Int×Bool:=
 cond ((ei x i 91&&ei x (i+1) 58)&&((ei x (i+2+(jG x (i+2)).length) 58&&ei x (i+2+(jG x (i+2)).length+1) 93)&&isName (bX (jG x (i+2)))))
  (bX (jG x (i+2)),((i+2+(jG x (i+2)).length+2:Nat):Int),true) ([],0,false)
theorem amd(x:J eG)(i:Nat):(jG x i).length<=x.length-i:=by
 unfold jG
 grind [List.length_map,List.takeWhile_sublist,List.length_drop]
theorem ajR{p:eG->Bool}:∀(l:J eG)(k:Nat)(h:k<(l.takeWhile p).length),∃hk:k<l.length,(l.takeWhile p)[k]=l[k]/\p l[k]=true
 | [],k,h=>by simp at h
 | a::l,k,h=>by
  cases hp:p a with
  | false=>simp [hp] at h
  | true=>
   cases k with
   | zero=>exact⟨si,by simp [hp],by simpa using hp⟩
   | succ k=>
    have h':k<(l.takeWhile p).length:=by simpa [hp] using h
    obtain⟨h1,h2,h3⟩:=ajR l k h';exact⟨by simpa using h1,by simp [hp,h2],by simpa using h3⟩
theorem afV{p:eG->Bool}:∀(l:J eG)(h:(l.takeWhile p).length<l.length),p l[(l.takeWhile p).length]=false
 | [],h=>by simp at h
 | a::l,h=>by
  cases hp:p a with
  | false=>simp [hp]
  | true=>
   have h':(l.takeWhile p).length<l.length:=by simpa [hp] using h
   have:=afV l h';simpa [hp] using this
theorem afW(x:J eG)(i k:Nat)(h:k<(jG x i).length):i+k<x.length/\(jG x i).getD k 0=(x.getD (i+k) cz).fb/\Bu (x.getD (i+k) cz)=true:=by
 unfold jG at h⊢;rw [wJ] at h;obtain⟨h1,h2,h3⟩:=ajR (x.drop i) k h
 grind
theorem akB(x:J eG)(i:Nat)(h:i+(jG x i).length<x.length):Bu (x.getD (i+(jG x i).length) cz)=false:=by
 unfold jG at h⊢;rw [wJ] at h⊢;have:=afV (p:=Bu) (x.drop i) (by grind)
 simp_all
theorem Kh(a b:Bool)(x:O Bool)(hb:x=some b):cond a (some a) x=some (a||b):=by subst hb;cases a<;>rfl
theorem Qw(F:Nat)(x:J eG)(i:Nat)(hF:x.length+10<F)(hx:x.length<500000000):xR F x (i:Int)=some (w6 x i)\/500000000<=i:=by
 by_cases hi:500000000<=i
 ·exact .inr hi
 left;unfold xR w6;rw [gL,aH,show aB ((i:Int)+1)=((i+1:Nat):Int) from cG om,gL]
 cases h1:ei x i 91 with
 | false=>rfl
 | true=>
  cases h2:ei x (i+1) 58 with
  | false=>rfl
  | true=>
   have zo:aB ((i:Int)+2)=((i+2:Nat):Int):=by grind [bI]
   rw [zo];have hrl:=amd x (i+2);generalize hr:jG x (i+2)=r at hrl;have hat:=afW x (i+2);have hend:=akB x (i+2);rw [hr] at hat hend;refine dn (fun s:Int×J Int=>∃k:Nat,s.1=((i+2+k:Nat):Int)/\k<=r.length/\s.2=r.take k) (fun s=>(i+2+r.length)-s.1.toNat) ?_ F _ ⟨0,rfl,om,si⟩ bH;rintro⟨ii,nm⟩ ⟨k,h0,hk,hn⟩;dsimp only at h0 hn⊢;subst h0;by_cases hk:k<r.length
   ·left
    obtain⟨g1,g2,g3⟩:=hat k hk;have hnl:nm.length=k:=by simp_all
    refine⟨(((i+2+(k+1):Nat):Int),r.take (k+1)),⟨k+1,rfl,om,rfl⟩,bH,fun rc=>?_⟩;unfold Bu at g3;simp only [cx] at g3;obtain⟨g3,g4,g5⟩:=g3;rw [cM om,cj g1,ck,g3,aH,bw,cj g1,g4,aH,bw,cj g1,g5,aH,bw,cj g1,ig bH om,cG om,<-g2,gd hk,qA hk,<-hn];rfl
   ·right
    obtain rfl:k=r.length:=om;intro rc;rw [Bb] at hn;subst hn
    have e1:(((cond (decide (((i+2+nm.length:Nat):Int)<(x.length:Int))) (rq (decide (0<=((i+2+nm.length:Nat):Int))&&decide (((i+2+nm.length:Nat):Int)<(x.length:Int))) (some (x.getD (Int.toNat ((i+2+nm.length:Nat):Int)) cz).lQ)) (some false)):O Bool).bind fun x6=>
      (cond x6 (rq (decide (0<=((i+2+nm.length:Nat):Int))&&decide (((i+2+nm.length:Nat):Int)<(x.length:Int))) (some (decide (97<=(x.getD (Int.toNat ((i+2+nm.length:Nat):Int)) cz).fb)))) (some false):O Bool).bind fun x7=>
      (cond x7 (rq (decide (0<=((i+2+nm.length:Nat):Int))&&decide (((i+2+nm.length:Nat):Int)<(x.length:Int))) (some (decide ((x.getD (Int.toNat ((i+2+nm.length:Nat):Int)) cz).fb<=122)))) (some false):O Bool))=some false:=by
     by_cases hl:i+2+nm.length<x.length
     ·have:=hend hl
      unfold Bu at this;simp only [cj hl]
      grind
     grind
    have e2:∀ {β:Type}(A:O Bool)(B:Bool->O Bool)(C:Bool->O Bool)(k:Bool->O β),(A.bind fun x6=>(B x6).bind fun x7=>(C x7).bind k)=((A.bind fun x6=>(B x6).bind fun x7=>C x7)).bind k:=by
     grind
    rw [e2,e1,aH,aU,gL,aH,cG om,gL]
    cases ei x (i+2+nm.length) 58 with
    | false=>rfl
    | true=>
     cases ei x (i+2+nm.length+1) 93 with
     | false=>rfl
     | true=>
      simp only [kn,aU,aH,uB,Qg];rw [Kh _ _ _ (Kh _ _ _ (Kh _ _ _ (Kh _ _ _ (Kh _ _ _ (Kh _ _ _ (Kh _ _ _ rfl)))))),aH];have VK:aB (((i+2+nm.length:Nat):Int)+2)=((i+2+nm.length+2:Nat):Int):=by rw [bI om];omega
      rw [VK,aK];rfl
theorem afX{x:J eG}{i:Nat}{b:Int}(h:ei x i b=true):i<x.length:=by
 unfold ei at h
 simp_all
theorem adK(F:Nat)(n:Bs)(c:Int):∃b,mA F n c=some b:=by
 unfold mA
 simp_all [aK,aH]
theorem adL(F:Nat)(x:J eG)(i:Nat)(set:J Bool)(hF:x.length+1000<F)(hx:x.length<500000000)(hc:Qv x)(hi:i<x.length)(hs:set.length=256):
  ∃r:Int×J Bool,(∃e:Nat,r.1=(e:Int)/\i<e/\e<=x.length/\r.2.length=256)/\kU F x (i:Int) set=some r:=by
 unfold kU;obtain hcl|hcl:=Qw F x i om hx
 rotate_left
 ·omega
 rw [hcl,aH]
 cases h1:(w6 x i).2.2 with
 | true=>
  rw [bw];unfold w6 at h1⊢
  cases h2:((ei x i 91&&ei x (i+1) 58)&&((ei x (i+2+(jG x (i+2)).length) 58&&ei x (i+2+(jG x (i+2)).length+1) 93)&&isName (bX (jG x (i+2))))) with
  | false=>rw [h2] at h1;cases h1
  | true=>
   rw [bw];simp only [cx] at h2;have h3:=afX h2.2.1.2;refine iq _ (fun s:Int×J Bool=>∃k:Nat,s.1=(k:Int)/\k<=256/\s.2.length=256) (fun s=>256-s.1.toNat) ?_ F _ ⟨0,rfl,om,hs⟩ bH;rintro⟨ii,st⟩ ⟨k,h0,hk,hl⟩ rc hrc;dsimp only at h0 hl⊢;subst h0;by_cases hk:k<256
   ·obtain⟨b,hb⟩:=adK F (bX (jG x (i+2))) (k:Int)
    rw [cM om,hb,aH,cG om]
    cases b with
    | false=>exact hrc _ ⟨k+1,rfl,om,hl⟩ bH
    | true=>
     rw [bw,CB om om om];exact hrc _ ⟨k+1,rfl,om,by simpa using hl⟩ bH
   ·rw [cf om]
    exact⟨_,⟨_,rfl,om,om,hl⟩,rfl⟩
 | false=>
  have hw1:aB ((i:Int)+1)=((i+1:Nat):Int):=cG om;have zo:aB ((i:Int)+2)=((i+2:Nat):Int):=by grind [bI]
  have VK:aB ((i:Int)+3)=((i+3:Nat):Int):=by grind [bI]
  rw [aU,hw1,zo,VK,gL,aH,gL,aK,aH];have e1:cond (ei x (i+1) 45) (decide (((i+2:Nat):Int)<(x.length:Int)),set) (false,set)=((ei x (i+1) 45&&decide (((i+2:Nat):Int)<(x.length:Int))),set):=by grind
  rw [e1];dsimp only;rw [aH,aK,aH];have e2:∀a b:Bool,cond a (b,set) (false,set)=((a&&b),set):=by simp_all
  rw [e2];dsimp only;have hb:=hc.at hi
  cases h4:((ei x (i+1) 45&&decide (((i+2:Nat):Int)<(x.length:Int))) && !ei x (i+2) 93) with
  | false=>
   rw [aU,cj hi,ck,CB om om om]
   exact⟨_,⟨_,rfl,om,om,by simpa using hs⟩,rfl⟩
  | true=>
   simp only [cx,fW] at h4;have h5:i+2<x.length:=om;have oY:=hc.at h5;rw [bw,cj hi,ck,ck,bI (x:=(x.getD i cz).fb) om,bI (x:=(x.getD (i+2) cz).fb) om];generalize (x.getD (i+2) cz).fb=hi2 at oY;refine iq _ (fun s:Int×J Bool=>0<=s.1/\s.1<=256/\s.2.length=256) (fun s=>256-s.1.toNat) ?_ F _ ⟨hb.1,om,hs⟩ bH;rintro⟨ii,st⟩ ⟨h6,h7,hl⟩ rc hrc;dsimp only at h6 h7 hl⊢;rw [cj h5];by_cases hle:ii<=hi2
   ·rw [cM hle,CB om om om,bI om]
    exact hrc _ ⟨by dsimp only;omega,by dsimp only;omega,by simpa using hl⟩ (by dsimp only;omega)
   ·rw [cf hle]
    exact⟨_,⟨_,rfl,om,om,hl⟩,rfl⟩
theorem afY(F:Nat)(set:J Bool)(hF:1000<F)(hs:set.length=256):∃l:J bS,l.length<=256/\p8 F set=some l:=by
 unfold p8;rw [cE (by rw [hs];rfl)];refine iq _ (fun s=>∃k:Nat,s.2.1=(k:Int)/\k<=256/\s.1.length<=k/\s.2.2.length=256) (fun s=>256-s.2.1.toNat) ?_ F _ ⟨0,rfl,om,si,hs⟩ bH;rintro⟨acc,ii,st⟩ ⟨k,h0,hk,ha,hl⟩ rc hrc;dsimp only at h0 ha hl⊢;subst h0;by_cases hk:k<256
 ·rw [cM om,CB om om om,cG om]
  cases hb:(!(st.getD (Int.toNat (k:Int)) false)) with
  | true=>exact hrc _ ⟨k+1,rfl,om,by dsimp only;omega,hl⟩ bH
  | false=>
   refine iq _ (fun s=>∃j:Nat,s.1=(j:Int)/\k<=j/\j<=255/\s.2.length=256) (fun s=>256-s.1.toNat) ?_ F _ ⟨k,rfl,om,om,hl⟩ bH;rintro⟨jj,Hg⟩ ⟨j,h0,hkj,hj,hl2⟩ bn apb;subst h0
   have hend:∀Yu:J Bool,Yu.length=256->∃r:J bS,r.length<=256/\rq ((decide (acc.length+([(bS.mk (IntKind.wrap .u8 (k:Int)) (IntKind.wrap .u8 (j:Int)))]:J bS).length<=9223372036854775807))&&(decide ((acc.length+([(bS.mk (IntKind.wrap .u8 (k:Int)) (IntKind.wrap .u8 (j:Int)))]:J bS).length)*2<=140737488355328))) (rc (acc++([(bS.mk (IntKind.wrap .u8 (k:Int)) (IntKind.wrap .u8 (j:Int)))]:J bS),aB ((j:Int)+1),Yu))=some r:=by
    intro Yu h3;rw [ig bH om,cG om];exact hrc _ ⟨j+1,rfl,om,bH,h3⟩ bH
   by_cases hj2:j<255
   ·rw [cM om,cG om,CB om om om]
    cases Hg.getD (Int.toNat ((j+1:Nat):Int)) false with
    | true=>exact apb _ ⟨j+1,rfl,om,om,hl2⟩ bH
    | false=>
     grind [cG]
   grind
 grind
def mB(p:aF):Prop:=(p.fKind=1->0<p.fText.length)/\p.fText.length<=10/\p.cH.length<=256
theorem Pz(F:Nat)(x:J eG)(i:Nat)(hF:x.length+1000<F)(hx:x.length<50000000)(hc:Qv x)(hi:i<x.length):
  ∃r:aF×Int×Bool,(r.2.2=true->mB r.1/\∃e:Nat,r.2.1=(e:Int)/\i<e/\e<=x.length)/\nk F x (i:Int)=some r:=by
 unfold nk;have hw1:aB ((i:Int)+1)=((i+1:Nat):Int):=cG om;rw [hw1,gL,aH,gL,aH,aK,aH,cG om,aK]
 obtain⟨s0,hs0,hs1,hs2⟩:∃s0:Nat,cond (cond (ei x (i+1) 33) true (ei x (i+1) 94)) (((i+1+1:Nat):Int)) ((i+1:Nat):Int)=(s0:Int)/\i<s0/\s0<=i+2:=by
  cases (cond (ei x (i+1) 33) true (ei x (i+1) 94))
  ·exact⟨i+1,rfl,om,om⟩
  ·exact⟨i+2,rfl,om,om⟩
 rw [hs0];refine iq _ (fun s=>∃k:Nat,s.1=(k:Int)/\i<k/\k<=x.length+2/\s.2.2.length=256) (fun s=>x.length+2-s.1.toNat) ?_ F _ ⟨s0,rfl,hs1,om,si⟩ bH;rintro⟨ii,fi,st⟩ ⟨k,h0,hk,hk2,hl⟩ rc hrc;subst h0;by_cases DJ:k<x.length
 ·rw [cM om,gL,aH,aK,aH]
  have e2:cond (ei x k 93) (!fi,st) (false,st)=((ei x k 93 && !fi),st):=by cases ei x k 93<;>rfl
  rw [e2]
  cases (ei x k 93 && !fi) with
  | true=>
   obtain⟨l,h1,h2⟩:=afY F st om hl;rw [cE (by rw [hl];rfl),h2,cG om]
   exact⟨_,fun _=>⟨⟨(fun h=>absurd h (show ¬ ((4:Int)=1) by decide)),si,h1⟩,k+1,rfl,om,om⟩,rfl⟩
  | false=>
   obtain⟨r,⟨e,h1,h2,h3,h4⟩,h5⟩:=adL F x k st om om hc DJ hl;rw [h5];exact hrc _ ⟨e,h1,om,om,h4⟩ (by grind)
 simp_all [cf]
theorem aa4(F:Nat)(l:J aG)(hF:l.length<F)(qP:cC l+1000<F)(h1:l.length<1000000000)(h2:cC l<=40000000):∃p:J aF,((∀it∈p,mB it)/\p.length<=cC l)/\iI F l=some p:=by
 unfold iI;rw [Kg F l hF om h1 om];have hx:(l.flatMap rj).length<=cC l:=Jg _ Ur _;have hc:=Yt l;generalize (l.flatMap rj)=x at hx hc;refine iq _ (fun s=>∃k:Nat,s.2=(k:Int)/\k<=x.length/\s.1.length<=k/\∀it∈s.1,mB it) (fun s=>x.length-s.2.toNat) ?_ F _ ⟨0,rfl,om,si,fun it h=>by cases h⟩ bH;rintro⟨acc,ii⟩ ⟨k,h0,hk,ha,hit⟩ rc hrc;dsimp only at h0 ha hit⊢;subst h0
 have Dj:∀(it:aF)(e:Nat),mB it->k<e->e<=x.length->∃p:J aF,((∀it∈p,mB it)/\p.length<=cC l)/\rc (acc++[it],(e:Int))=some p:=by
  intro it e h3 h4 h5;refine hrc _ ⟨e,rfl,h5,bH,fun y hy=>?_⟩ bH
  grind
 by_cases DJ:k<x.length
 ·rw [cM om]
  have eX:∃p:J aF,((∀it∈p,mB it)/\p.length<=cC l)/\((ff F x (k:Int) 42).bind fun x7=>
    cond x7
    (rq ((decide (acc.length+([(aF.mk 3 [] false [])]:J aF).length<=9223372036854775807))&&(decide ((acc.length+([(aF.mk 3 [] false [])]:J aF).length)*56<=140737488355328))) (rc (acc++([(aF.mk 3 [] false [])]:J aF),aB ((k:Int)+1))))
    ((ff F x (k:Int) 63).bind fun x8=>
    cond x8
    (rq ((decide (acc.length+([(aF.mk 2 [] false [])]:J aF).length<=9223372036854775807))&&(decide ((acc.length+([(aF.mk 2 [] false [])]:J aF).length)*56<=140737488355328))) (rc (acc++([(aF.mk 2 [] false [])]:J aF),aB ((k:Int)+1))))
    (rq ((decide (0<=(k:Int)))&&(decide ((k:Int)<(x.length:Int)))) (rq ((decide (acc.length+([(aF.mk 1 (bX ([(x.getD (Int.toNat (k:Int)) cz).fb]:J Int)) false [])]:J aF).length<=9223372036854775807))&&(decide ((acc.length+([(aF.mk 1 (bX ([(x.getD (Int.toNat (k:Int)) cz).fb]:J Int)) false [])]:J aF).length)*56<=140737488355328))) (rc (acc++([(aF.mk 1 (bX ([(x.getD (Int.toNat (k:Int)) cz).fb]:J Int)) false [])]:J aF),aB ((k:Int)+1)))))))=some p:=by
   rw [gL,gL,ig bH om,ig bH om,cj DJ,ig bH om,cG om]
   cases ei x k 42 with
   | true=>exact Dj _ _ ⟨(fun h=>absurd h de),si,si⟩ om om
   | false=>
    cases ei x k 63 with
    | true=>exact Dj _ _ ⟨(fun h=>absurd h de),si,si⟩ om om
    | false=>exact Dj _ _ ⟨(fun _=>by simp [bX]),by simp [bX],si⟩ om om
  rw [gL,aH]
  cases ei x k 91 with
  | false=>exact eX
  | true=>
   obtain⟨r,h3,h4⟩:=Pz F x k om om hc DJ;rw [h4,aH]
   cases h5:r.2.2 with
   | false=>exact eX
   | true=>
    obtain⟨g1,e,g2,g3,g4⟩:=h3 h5;rw [ig bH om,g2];obtain⟨p,hp,hq⟩:=Dj r.1 e g1 g3 g4;rw [hq];exact⟨p,hp,rfl⟩
 grind
theorem ame{x:J fu}{i:Nat}{b:Int}(h:CD x i b=true):i<x.length:=by
 unfold CD at h
 simp_all
theorem ahV(F:Nat)(x:J fu)(i:Nat)(s:Bs)(hF:s.length<F)(hi:i<=x.length)(hx:x.length<500000000)(hs:s.length<500000000):∃b:Bool,(b=true->i+s.length<=x.length)/\Ei F x (i:Int) s=some b:=by
 refine iq _ (fun k'=>∃k:Nat,k'=(k:Int)/\k<=s.length/\i+k<=x.length) (fun k'=>s.length-k'.toNat) ?_ F _ ⟨0,rfl,om,om⟩ bH;rintro ii ⟨k,rfl,hk,hik⟩ rc hrc;by_cases hk:k<s.length
 ·have hw:aB ((i:Int)+(k:Int))=((i+k:Nat):Int):=by grind [bI]
  rw [cM om,cj hk,hw,jb,cG om]
  cases h:CD x (i+k) (((s.getD (Int.toNat (k:Int)) 0).toNat:Int)) with
  | false=>simp_all
  | true=>
   have:=ame h;exact hrc _ ⟨k+1,rfl,om,om⟩ bH
 ·rw [cf om]
  grind
def CL:J lG:=(xS 0).getD []
theorem ajS(F:Nat):xS F=some CL:=rfl
theorem RU:CL.length=8:=rfl
theorem adM:∀c∈CL,c.fname.length=5/\c.ry.length<=4:=by decide
theorem aa5(F:Nat)(x:J fu)(i:Nat)(hF:100<F)(hi:i<x.length)(hx:x.length<50000000):∃r:J bS×Int,(∃e:Nat,r.2=(e:Int)/\i<e/\e<=x.length/\r.1.length<=4)/\o4 F x (i:Int)=some r:=by
 unfold o4;rw [ajS];refine iq _ (fun k'=>∃k:Nat,k'=(k:Int)/\k<=8) (fun k'=>8-k'.toNat) ?_ F _ ⟨0,rfl,om⟩ bH;rintro ii ⟨k,rfl,hk⟩ rc hrc;have hw1:aB ((i:Int)+1)=((i+1:Nat):Int):=cG om;have zo:aB ((i:Int)+2)=((i+2:Nat):Int):=by grind [bI]
 have VK:aB ((i:Int)+3)=((i+3:Nat):Int):=by grind [bI]
 by_cases hk:k<CL.length
 ·have hm:=adM _ (ko hk)
  rw [cM om,cj hk,ck,gd hk,cG om];generalize CL[k]=c at hm;rw [r7 bH,r7 bH];have hl:((([91,58]:Bs)++c.fname)++([58,93]:Bs)).length=9:=by simp;omega
  obtain⟨b,h1,h2⟩:=ahV F x i ((([91,58]:Bs)++c.fname)++([58,93]:Bs)) om om om om;rw [h2,aH];rw [hl] at h1⊢
  cases b with
  | true=>
   have:=h1 rfl;have hw:aB ((i:Int)+((9:Nat):Int))=((i+9:Nat):Int):=by grind [bI]
   rw [cj hk,hw]
   exact⟨_,⟨i+9,rfl,om,om,hm.2⟩,rfl⟩
  | false=>
   have h8:k<8:=by rw [<-RU];exact hk
   exact hrc _ ⟨k+1,rfl,om⟩ bH
 ·rw [cf om,cj hi,hw1,zo,VK,jb,aH,jb,aK,aH,aH,aK,aH]
  cases h4:cond (cond (CD x (i+1) 45) (decide (((i+2:Nat):Int)<(x.length:Int))) false) (!CD x (i+2) 93) false with
  | false=>exact⟨_,⟨i+1,rfl,om,om,si⟩,rfl⟩
  | true=>
   have h5:i+2<x.length:=by
    grind
   rw [cj h5];cases decide ((x.getD (Int.toNat (i:Int)) iJ).fb<=(x.getD (Int.toNat ((i+2:Nat):Int)) iJ).fb)
   ·exact⟨_,⟨i+3,rfl,om,om,si⟩,rfl⟩
   ·exact⟨_,⟨i+3,rfl,om,om,si⟩,rfl⟩
theorem akC(F:Nat)(l:J bS)(b:Int)(hF:l.length<F)(hl:l.length<500000000):∃r,uO F l b=some r:=by
 obtain⟨r,-,h⟩:∃r:Bool,True/\uO F l b=some r:=by
  refine iq _ (fun k'=>∃k:Nat,k'=(k:Int)/\k<=l.length) (fun k'=>l.length-k'.toNat) ?_ F _ ⟨0,rfl,om⟩ bH;rintro ii ⟨k,rfl,hk⟩ rc hrc;by_cases hk:k<l.length
  ·rw [cM om,cj hk,cj hk,aK,cG om]
   cases cond (decide ((l.getD (Int.toNat (k:Int)) gq).pW<=b)) (decide (b<=(l.getD (Int.toNat (k:Int)) gq).jP)) false with
   | true=>simp_all
   | false=>exact hrc _ ⟨k+1,rfl,om⟩ bH
  simp_all [cf,trivial]
 exact⟨r,h⟩
theorem ahW(F:Nat)(l:J bS)(hF:l.length+300<F)(hl:l.length<500000000):∃r:J bS,r.length<=256/\Hh F l=some r:=by
 refine iq _ (fun s=>∃k:Nat,s.1=(k:Int)/\k<=256/\s.2.length<=k) (fun s=>256-s.1.toNat) ?_ F _ ⟨0,rfl,om,si⟩ bH;rintro⟨ii,o⟩ ⟨k,h0,hk,ho⟩ rc hrc;dsimp only at h0 ho⊢;subst h0;by_cases hk:k<256
 ·obtain⟨b,hb⟩:=akC F l (IntKind.wrap .u8 (k:Int)) om hl
  rw [cM om,hb,aH,cG om]
  cases b with
  | false=>exact hrc _ ⟨k+1,rfl,om,by dsimp only;omega⟩ bH
  | true=>
   by_cases h0:0<o.length
   ·have hw:=wM om h0
    rw [cM om,hw,cj om,aH];dsimp only
    cases (aB ((aB ((o.getD (Int.toNat ((o.length-1:Nat):Int)) gq).jP))+1))==(k:Int) with
    | true=>
     rw [cj om]
     exact hrc _ ⟨k+1,rfl,om,bH⟩ bH
    | false=>
     rw [ig bH om];exact hrc _ ⟨k+1,rfl,om,bH⟩ bH
   ·rw [cf om,aH]
    rw [ig bH om];exact hrc _ ⟨k+1,rfl,om,bH⟩ bH
 grind
theorem Yv(F:Nat)(x:J fu)(i:Nat)(hF:4*x.length+1000<F)(hx:x.length<40000000)(hi:i<x.length):
  ∃r:aF×Int×Bool,(r.2.2=true->mB r.1/\∃e:Nat,r.2.1=(e:Int)/\i<e/\e<=x.length)/\p9 F x (i:Int)=some r:=by
 unfold p9;have hw1:aB ((i:Int)+1)=((i+1:Nat):Int):=cG om;rw [hw1,jb,aH,jb,aH,aK,aH,cG om,aK,aH]
 have h0:∃y:Int×Int×Bs×Bool×J bS,cond (cond (CD x (i+1) 33) true (CD x (i+1) 94)) (((i+1+1:Nat):Int),(aF.mk 4 [] false []).fKind,(aF.mk 4 [] false []).fText,true,(aF.mk 4 [] false []).cH) (((i+1:Nat):Int),(aF.mk 4 [] false []).fKind,(aF.mk 4 [] false []).fText,(aF.mk 4 [] false []).Bv,(aF.mk 4 [] false []).cH)=y/\(∃s0:Nat,y.1=(s0:Int)/\i<s0/\s0<=i+2)/\y.2.1=4/\y.2.2.1=[]:=by
  cases (cond (CD x (i+1) 33) true (CD x (i+1) 94))
  ·exact⟨_,rfl,⟨i+1,rfl,om,om⟩,rfl,rfl⟩
  ·exact⟨_,rfl,⟨i+2,rfl,om,om⟩,rfl,rfl⟩
 obtain⟨y,hy,⟨s0,hs0,hs1,hs2⟩,hy2,hy3⟩:=h0;rw [hy,hs0,hy2,hy3];refine iq _ (fun s=>∃k:Nat,s.1=(k:Int)/\i<k/\k<=x.length+2/\s.2.1.length<=4*k) (fun s=>x.length+2-s.1.toNat) ?_ F _ ⟨s0,rfl,hs1,om,si⟩ bH;rintro⟨ii,sp,fi⟩ ⟨k,h0,hk,hk2,hl⟩ rc hrc;dsimp only at h0 hl⊢;subst h0;rw [jb,aH,aK,aK,aH];by_cases DJ:k<x.length
 ·rw [cM (show (k:Int)<(x.length:Int) by omega)]
  cases (cond fi true (!CD x k 93)) with
  | true=>
   obtain⟨r,⟨e,h1,h2,h3,h4⟩,h5⟩:=aa5 F x k om DJ om;rw [h5,aH,ig om om]
   exact hrc _ ⟨e,h1,om,om,by grind⟩ (by grind)
  | false=>
   obtain⟨r,h1,h2⟩:=ahW F sp om om;rw [cf (show ¬ (x.length:Int)<=(k:Int) by omega),h2,cG om];exact⟨_,fun _=>⟨⟨(fun h=>absurd h (show ¬ ((4:Int)=1) by decide)),si,h1⟩,k+1,rfl,om,om⟩,rfl⟩
 simp_all [cf,aU,cM]
theorem Yw(F:Nat)(l:J aG)(hF:l.length<F)(qP:4*cC l+1000<F)(h1:l.length<1000000000)(h2:cC l<=20000000):∃p:J aF,((∀it∈p,mB it)/\p.length<=cC l)/\jK F l=some p:=by
 unfold jK;rw [Py F l hF om h1 om];have hx:(l.flatMap MJ).length<=cC l:=Jg _ ab9 _;generalize (l.flatMap MJ)=x at hx;refine iq _ (fun s=>∃k:Nat,s.2=(k:Int)/\k<=x.length/\s.1.length<=k/\∀it∈s.1,mB it) (fun s=>x.length-s.2.toNat) ?_ F _ ⟨0,rfl,om,si,fun it h=>by cases h⟩ bH;rintro⟨acc,ii⟩ ⟨k,h0,hk,ha,hit⟩ rc hrc;dsimp only at h0 ha hit⊢;subst h0
 have Dj:∀(it:aF)(e:Nat),mB it->k<e->e<=x.length->∃p:J aF,((∀it∈p,mB it)/\p.length<=cC l)/\rc (acc++[it],(e:Int))=some p:=by
  intro it e h3 h4 h5;refine hrc _ ⟨e,rfl,h5,bH,fun y hy=>?_⟩ bH
  grind
 by_cases DJ:k<x.length
 ·rw [cM om,jb,aH,jb,aH,ig bH om,ig bH om,cG om]
  cases CD x k 42 with
  | true=>exact Dj _ _ ⟨(fun h=>absurd h (show ¬ ((3:Int)=1) by decide)),si,si⟩ om om
  | false=>
   cases CD x k 63 with
   | true=>exact Dj _ _ ⟨(fun h=>absurd h (show ¬ ((2:Int)=1) by decide)),si,si⟩ om om
   | false=>
    rw [jb,aH]
    have eX:∃p:J aF,((∀it∈p,mB it)/\p.length<=cC l)/\(rq ((decide (0<=(k:Int)))&&(decide ((k:Int)<(x.length:Int)))) (rq ((decide (acc.length+([(aF.mk 1 (bX ([(x.getD (Int.toNat (k:Int)) iJ).fb]:J Int)) false [])]:J aF).length<=9223372036854775807))&&(decide ((acc.length+([(aF.mk 1 (bX ([(x.getD (Int.toNat (k:Int)) iJ).fb]:J Int)) false [])]:J aF).length)*56<=140737488355328))) (rc (acc++([(aF.mk 1 (bX ([(x.getD (Int.toNat (k:Int)) iJ).fb]:J Int)) false [])]:J aF),aB ((k:Int)+1)))))=some p:=by
     rw [cj DJ,ig bH om,cG om];exact Dj _ _ ⟨(fun _=>by simp [bX]),by simp [bX],si⟩ om om
    cases CD x k 91 with
    | false=>exact eX
    | true=>
     obtain⟨r,h3,h4⟩:=Yv F x k om om DJ;rw [h4,aH]
     cases h5:r.2.2 with
     | false=>exact eX
     | true=>
      obtain⟨g1,e,g2,g3,g4⟩:=h3 h5;rw [ig bH om,g2];obtain⟨p,hp,hq⟩:=Dj r.1 e g1 g3 g4;rw [hq];exact⟨p,hp,rfl⟩
 grind
theorem Bw(F:Nat)(l:J bS)(hF:l.length<F)(hl:l.length<500000000):∃r,nq F l=some r:=by
 obtain⟨r,-,h⟩:∃r:Bool,True/\nq F l=some r:=by
  refine iq _ (fun k'=>∃k:Nat,k'=(k:Int)/\k<=l.length) (fun k'=>l.length-k'.toNat) ?_ F _ ⟨0,rfl,om⟩ bH;rintro ii ⟨k,rfl,hk⟩ rc hrc;by_cases hk:k<l.length
  ·rw [cM om,cj hk,cj hk]
   have e:∃b,(cond (decide ((l.getD (Int.toNat (k:Int)) gq).jP<(l.getD (Int.toNat (k:Int)) gq).pW)) (some true) (cond (decide (0<(k:Int))) (rq ((decide (0<=(k:Int)))&&(decide ((k:Int)<(l.length:Int)))) (rq ((decide (0<=aB ((k:Int)-1)))&&(decide (aB ((k:Int)-1)<(l.length:Int)))) (some (decide (aB ((l.getD (Int.toNat (k:Int)) gq).pW)<=aB ((aB ((l.getD (Int.toNat (aB ((k:Int)-1))) gq).jP))+1)))))) (some false)):O Bool)=some b:=by
    by_cases h0:0<k
    ·rw [cj hk,wM om h0,cM (show (0:Int)<(k:Int) by omega),bQ om om,aK];exact⟨_,rfl⟩
    simp_all [cf,aK]
   obtain⟨b,hb⟩:=e;rw [hb,cG om]
   cases b with
   | true=>simp_all
   | false=>exact hrc _ ⟨k+1,rfl,om⟩ bH
  simp_all [cf,trivial]
 exact⟨r,h⟩
theorem adN(F:Nat)(p:J aF)(hF:p.length+300<F)(hp:p.length<50000000)(hit:∀it∈p,mB it):∃b,ku F p=some b:=by
 obtain⟨b,-,h⟩:∃b:Bool,True/\ku F p=some b:=by
  refine iq _ (fun s=>∃k:Nat,s=(k:Int)/\k<=p.length) (fun s=>p.length-s.toNat) ?_ F _ ⟨0,rfl,om⟩ bH;rintro ii ⟨k,rfl,hk⟩ rc hrc;by_cases hk:k<p.length
  ·have hI:=hit _ (ko hk)
   rw [cM om,cj hk,ck,gd hk];generalize p[k]=it at hI;obtain⟨c,hc⟩:=Bw F it.cH (by have:=hI.2.2;omega) (by have:=hI.2.2;omega);simp only [aK,aH,hc];rw [cG om]
   cases (cond (cond (cond (cond (decide (it.fKind<1)) true (decide (4<it.fKind))) true ((it.fText.length:Int) != cond (it.fKind==1) 1 0)) true (cond (it.fKind != 4) (cond it.Bv true (decide (0<(it.cH.length:Int)))) false)) true !c) with
   | true=>simp_all
   | false=>exact hrc _ ⟨k+1,rfl,om⟩ bH
  simp_all [cf,trivial]
 exact⟨b,h⟩
theorem Yx(F:Nat)(p:J aF)(hF:p.length+300<F)(hp:p.length<50000000)(hit:∀it∈p,mB it):∃r,tq F p=some r:=by
 obtain⟨b,hb⟩:=adN F p hF hp hit
 obtain⟨b,-,h⟩:∃b:Bs×Bool,True/\tq F p=some b:=by
  refine iq _ (fun s=>∃k:Nat,s.2=(k:Int)/\k<=p.length/\s.1.length<=10*k) (fun s=>p.length-s.2.toNat) ?_ F _ ⟨0,rfl,om,si⟩ bH;rintro⟨acc,ii⟩ ⟨k,h0,hk,ha⟩ rc hrc;subst h0;by_cases hk:k<p.length
  ·have hI:=hit _ (ko hk)
   have hl:=hI.2.1;rw [cM om,cj hk,cj hk,ck,gd hk]
   cases (p[k].fKind != 1) with
   | true=>simp_all
   | false=>
    rw [afZ om,cG om];exact hrc _ ⟨k+1,rfl,om,by grind⟩ bH
  simp_all [cf,aH,aK,trivial]
 exact⟨b,h⟩
def Ji(l:J aG):Bs:=l.flatMap fun r=>r.fText
theorem Ff:∀l:J aG,(Ji l).length=cC l
 | []=>rfl
 | r::l=>by
  have:=Ff l;unfold Ji cC at *;simp only [Xy,yq,lC,Xz];omega
theorem af0(s:Bs):Jj (dm s)=true:=by
 unfold Jj dm;rw [oR];intro x hx;obtain⟨b,-,rfl⟩:=yp.1 hx;have:=b.toNat_lt;simp;omega
theorem apc(F:Nat)(s:Bs)(c:Bool)(buf:J Int)(h:buf.length+s.length<=100000000):iK F s c buf=some ((s.length:Int),true,buf++dm s):=by
 unfold iK;rw [show oq F c buf=some (true,buf) by cases c<;>rfl,aH,ig (by simp [dm];omega) om]
theorem ahX(F:Nat)(l:J aG)(hF:l.length<F)(h1:l.length<1000000000)(h2:cC l<=100000000):sP F l=some (Ji l):=by
 unfold sP;refine dn (fun x=>∃k:Nat,x.1=(k:Int)/\k<=l.length/\x.2.2=dm (Ji (l.take k))) (fun x=>l.length-x.1.toNat) ?_ F _ ⟨0,rfl,om,by simp [Ji,dm]⟩ bH;rintro⟨ii,c,buf⟩ ⟨k,h0,hk,ha⟩;dsimp only at h0 ha⊢;subst h0;by_cases hk:k<l.length
 ·left
  have hs:=p4 l k hk;have hle:=tL l (k+1);refine⟨(((k+1:Nat):Int),true,dm (Ji (l.take (k+1)))),⟨k+1,rfl,om,rfl⟩,bH,fun rc=>?_⟩;have Jh:buf.length=cC (l.take k):=by rw [ha,dm,wJ,Ff]
  rw [cM om,cj hk,ck,gd hk,apc F _ c buf om,aH,cG om];show rc (((k+1:Nat):Int),true,buf++dm l[k].fText)=_;rw [ha,Ji,Ji,MK _ _ _ hk];simp [dm]
 ·right
  obtain rfl:k=l.length:=om;intro rc;rw [Bb] at ha;subst ha;have:(dm (Ji l)).length=cC l:=by rw [dm,wJ,Ff]
  rw [cf om];unfold mM;rw [cE (by rw [dQ rfl,af0,dQ om];rfl),Yq];rfl
theorem adO{F:Nat}{r:J aG}(hF:(y9 r).length<F)(h0:(y9 r).length<1000000000)(h1:r.length<=1000000000)(h2:cC r<=1000000000)(h:∀c∈y9 r,∃p x,jK F c=some p/\tq F p=some x):∃b,(b=true->True)/\tu F r=some b:=by
 unfold tu Rx;rw [bQ h1 h2,aH];have hB:∀(F2:Nat)(x:O Bool),(∃b,True/\x=some b)->∃b,(b=true->True)/\x=some b:=fun _ x ⟨b,_,h⟩=>⟨b,fun _=>trivial,h⟩;refine hB F _ (Eh (fun _=>True) (fun x:Int×Int×Int=>∃k:Nat,x.2.2=(k:Int)/\k<=(y9 r).length) (fun x=>(y9 r).length-x.2.2.toNat) ?_ F (0,0,0) ⟨0,rfl,om⟩ bH)
 ·rintro⟨a,b,ii⟩ ⟨k,h0,hk⟩
  dsimp only at h0⊢;subst h0;by_cases hk:k<(y9 r).length
  ·left
   obtain⟨p,x,e1,e2⟩:=h (y9 r)[k] (ko hk);refine⟨(cond (!x.2) (aB (a+1),b,((k+1:Nat):Int)) (cond (x.1==[46,46]) (a,aB (b+1),((k+1:Nat):Int)) (a,b,((k+1:Nat):Int)))),⟨k+1,?_,om⟩,?_,fun rc=>?_⟩
   ·cases x.2<;>cases (x.1==[46,46])<;>rfl
   ·cases x.2<;>cases (x.1==[46,46])<;>simp<;>omega
   ·rw [cM om,cj hk,ck,gd hk,e1,aH,e2,aH,cG om]
    cases x.2<;>cases (x.1==[46,46])<;>rfl
  ·right
   refine⟨cond (decide (a<=2)) true (b==0),trivial,fun rc=>?_⟩;rw [cf om,aK,aH]
theorem ahY(l:J aG):(y9 l).length<=cC l+1:=by
 have:=Qp l ([],[]);unfold y9 fX;simp only [Fy,yq,Dd,Qh] at *;omega
theorem adP:∀ {c:J aG},(∀r∈c,r.fText.length=1)->cC c=c.length
 | [],_=>rfl
 | r::c,h=>by
  have:=adP (c:=c) fun x hx=>h x (by simp [hx]);have:=h r si;unfold cC at *;simp only [lC,Xz,Dd];omega
def adQ(p n:Bs):Bs:=cond (p==[47]) ([47]++n) ((p++[47])++n)
def apd(l:J bt)(p:Bs):Bool:=(Kc l p).elim false fun f=>f.nM
def amf(n:Bs):Bool:=n.take 1==[46]
def ape(c:bA):Bool:=decide (0<c.qD.length)&&((c.qD.getD 0 fQ).fKind==1&&(c.qD.getD 0 fQ).fText==[46])
def an6(mt:J aF->Bs->Bool)(c:bA)(n:Bs):Bool:=!((amf n && !ape c) || !mt c.qD n)
def W(l:J bt)(mt:J aF->Bs->Bool):J bA->Bs->J (J Bs)
 | [],p=>[[]]
 | c::cs,p=>cond (!apd l p) [] (cond (!c.qE) (((an5 l p).filter (an6 mt c)).flatMap fun n=>(W l mt cs (adQ p n)).map (n :: ·))
   (cond (c.fG==[]||c.fG==[46]) ((W l mt cs p).map (c.fG :: ·)) (cond (c.fG==[46,46]) ((W l mt cs (p7 p)).map (c.fG :: ·))
   (cond (Kc l (adQ p c.fG)).isNone [] ((W l mt cs (adQ p c.fG)).map (c.fG :: ·))))))
section
variable {F : Nat} {l : J bt} {mt : J aF -> Bs -> Bool} {parts : J bA}
abbrev amg:=Bool×(J bt)×(J bA)×(J (dH×Bool))×(J Bs)×(J Bs)
def amh(l:J bt)(mt:J aF->Bs->Bool)(parts:J bA)(dead:J (dH×Bool)):Prop:=∀(i:Nat) p,fO cL dead (dH.mk (i:Int) p) false=true->W l mt (parts.drop i) p=[]
structure OA(parts:List bA)(i:Nat)(names:List Bs):Prop where
 len:names.length=parts.length
 lit:∀j,i<=j->∀h:j<parts.length,parts[j].qE=true->names.getD j []=parts[j].fG
 sz:∀n∈names,n.length<=300
def SOk(l:J bt)(mt:J aF->Bs->Bool)(parts:J bA)(i:Nat)(path:Bs)(names found:J Bs)(r:amg):Prop:=
 ∃ajT names',r=(!(W l mt (parts.drop i) path).isEmpty,l,parts,ajT,names',found++(W l mt (parts.drop i) path).map fun ws=>zn (names.take i++ws))/\amh l mt parts ajT/\OA parts i names'/\names'.take i=names.take i
theorem OA.up{i:Nat}{names:J Bs}(h:OA parts i names):OA parts (i+1) names:=⟨h.len,fun j hj=>h.lit j om,h.sz⟩
theorem Yy{i:Nat}{names:J Bs}(h:OA parts i names)(hi:i<parts.length)(hl:parts[i].qE=true):names.take (i+1)=names.take i++[parts[i].fG]:=by
 have h1:i<names.length:=by rw [h.len];exact hi
 rw [qA h1];have:=h.lit i (ef _) hi hl;rw [gd h1] at this;rw [this]
theorem SOk.lit{i:Nat}{path path':Bs}{names found:J Bs}{r:amg}(hn:OA parts i names)(hi:i<parts.length)(hl:parts[i].qE=true)
  (hW:W l mt (parts.drop i) path=(W l mt (parts.drop (i+1)) path').map (parts[i].fG :: ·)) (h:SOk l mt parts (i+1) path' names found r):SOk l mt parts i path names found r:=by
 obtain⟨d,n',rfl,h1,h2,h3⟩:=h
 have h4:n'.take i=names.take i:=by
  have:=congrArg (List.take i) h3;rwa [Xv,Xv,ac4 om] at this
 refine⟨d,n',?_,h1,⟨h2.len,fun j hj hlt hlj=>?_,h2.sz⟩,h4⟩
 ·rw [hW,Yy hn hi hl]
  simp only [Bc,List.isEmpty_map,Fs,List.singleton_append];rfl
 ·by_cases e:j=i
  ·subst e
   have h5:=Yy hn hi hl;rw [<-h3] at h5;have h6:j<n'.length:=by rw [h2.len];exact hi
   rw [qA h6,h4] at h5;have h7:=List.append_cancel_left h5;rw [gd h6];exact List.singleton_inj.1 h7
  ·exact h2.lit j om hlt hlj
end
theorem Bx(a b:J aG):cC (a++b)=cC a+cC b:=by unfold cC;rw [J3,ac5]
def Hi(e:eG):fu:=fu.mk e.fb e.lQ
theorem akD(r:aG):MJ r=(rj r).map Hi:=by
 unfold MJ rj;cases MI r.bZ
 ·rw [aU,aU,Bc];rfl
 ·rfl
theorem an7(l:J aG):l.flatMap MJ=(l.flatMap rj).map Hi:=by
 induction l with
 | nil=>rfl
 | cons r l ih=>simp_all [Xy,J3,akD]
theorem jf(x:J eG)(i:Nat)(b:Int):CD (x.map Hi) i b=ei x i b:=by
 unfold CD ei;rw [wJ];by_cases h:i<x.length
 ·rw [gd (by simp_all),T5,gd h];rfl
 ·rw [dF h];rfl
def vJ(x:J eG)(i:Nat)(s:Bs):Bool:=(List.range s.length).all fun j=>ei x (i+j) ((s.getD j 0).toNat:Int)
theorem akE(F:Nat)(x:J eG)(i:Nat)(s:Bs)(hF:s.length<F)(hi:i<50000000)(hs:s.length<50000000):Ei F (x.map Hi) (i:Int) s=some (vJ x i s):=by
 refine dn (fun k'=>∃k:Nat,k'=(k:Int)/\k<=s.length/\∀j,j<k->ei x (i+j) ((s.getD j 0).toNat:Int)=true) (fun k'=>s.length-k'.toNat) ?_ F _ ⟨0,rfl,om,fun j h=>om⟩ bH;rintro ii ⟨k,rfl,hk,hj⟩;by_cases hk:k<s.length
 ·have hw:aB ((i:Int)+(k:Int))=((i+k:Nat):Int):=by grind [bI]
  cases h:ei x (i+k) ((s.getD k 0).toNat:Int) with
  | true=>
   left;refine⟨((k+1:Nat):Int),⟨k+1,rfl,om,fun j hj2=>?_⟩,bH,fun rc=>?_⟩
   ·grind
   ·rw [cM om,cj hk,hw,jb,jf,ck,h,cG om];rfl
  | false=>
   right;intro rc;rw [cM om,cj hk,hw,jb,jf,ck,h]
   have:vJ x i s=false:=by
    unfold vJ
    grind
   rw [this];rfl
 ·right
  obtain rfl:k=s.length:=om;intro rc;rw [cf om]
  have:vJ x i s=true:=by
   unfold vJ
   simp_all
  rw [this]
theorem yM{x:J eG}{i:Nat}{b:Int}:ei x i b=true↔i<x.length/\(x.getD i cz).lQ=true/\(x.getD i cz).fb=b:=by
 unfold ei
 simp_all
theorem adR(x:J eG)(i:Nat)(n:Bs)(h5:n.length=5)(Yz:∀b∈n,97<=b.toNat/\b.toNat<=122):
  vJ x i ((([91,58]:Bs)++n)++([58,93]:Bs))=((ei x i 91&&ei x (i+1) 58)&&((ei x (i+2+(jG x (i+2)).length) 58&&ei x (i+2+(jG x (i+2)).length+1) 93)&&jG x (i+2)==dm n)):=by
 match n,h5 with
 | [a,b,c,d,e],_=>
  have ha:=Yz a si;have hb:=Yz b si;have hc:=Yz c si;have hd:=Yz d si;have he:=Yz e si;rw [sE];unfold vJ;rw [show ((([91,58]:Bs)++[a,b,c,d,e])++([58,93]:Bs)).length=9 from rfl]
  have apf:((List.range 9).all fun j=>ei x (i+j) ((((([91,58]:Bs)++[a,b,c,d,e])++([58,93]:Bs)).getD j 0).toNat:Int))=true ↔
    (ei x i 91=true/\ei x (i+1) 58=true/\ei x (i+2) (a.toNat:Int)=true/\ei x (i+3) (b.toNat:Int)=true/\ei x (i+4) (c.toNat:Int)=true/\ei x (i+5) (d.toNat:Int)=true/\ei x (i+6) (e.toNat:Int)=true/\ei x (i+7) 58=true/\ei x (i+8) 93=true):=by
   rw [oR];constructor
   ·intro h
    exact⟨h 0 si,h 1 si,h 2 si,h 3 si,h 4 si,h 5 si,h 6 si,h 7 si,h 8 si⟩
   ·rintro⟨h0,h1,h2,h3,h4,h5,h6,h7,h8⟩ j hj
    match j,hj with
    | 0,_=>exact h0
    | 1,_=>exact h1
    | 2,_=>exact h2
    | 3,_=>exact h3
    | 4,_=>exact h4
    | 5,_=>exact h5
    | 6,_=>exact h6
    | 7,_=>exact h7
    | 8,_=>exact h8
  rw [apf];have hat:=afW x (i+2);simp only [cx,tV];constructor
  ·rintro⟨h0,h1,h2,h3,h4,h5,h6,h7,h8⟩
   have g2:=yM.1 h2;have g3:=yM.1 h3;have g4:=yM.1 h4;have g5:=yM.1 h5;have g6:=yM.1 h6;have g7:=yM.1 h7
   have hl:∀(k:Nat)(v:UInt8),97<=v.toNat/\v.toNat<=122->(x.getD k cz).lQ=true/\(x.getD k cz).fb=(v.toNat:Int)->Bu (x.getD k cz)=true:=by
    unfold Bu
    grind
   have gV:x.drop (i+2)=x.getD (i+2) cz::x.getD (i+3) cz::x.getD (i+4) cz::x.getD (i+5) cz::x.getD (i+6) cz::x.getD (i+7) cz::x.drop (i+8):=by
    simp_all
   have hnl:Bu (x.getD (i+7) cz)=false:=by
    unfold Bu
    grind
   have hrun:jG x (i+2)=dm [a,b,c,d,e]:=by
    unfold jG;rw [gV];simp only [List.takeWhile,hl _ a ha g2.2,hl _ b hb g3.2,hl _ c hc g4.2,hl _ d hd g5.2,hl _ e he g6.2,hnl];simp only [lC,Xw,g2.2.2,g3.2.2,g4.2.2,g5.2.2,g6.2.2];rfl
   rw [hrun];exact⟨⟨h0,h1⟩,⟨h7,h8⟩,rfl⟩
  ·rintro⟨⟨h0,h1⟩,⟨h7,h8⟩,hr⟩
   rw [hr] at hat h7 h8
   have hk:∀(k:Nat)(v:UInt8),k<5->(dm [a,b,c,d,e]).getD k 0=(v.toNat:Int)->ei x (i+2+k) (v.toNat:Int)=true:=by
    intro k v hk e1;obtain⟨q1,q2,q3⟩:=hat k hk;unfold Bu at q3
    simp_all [cx,yM]
   exact⟨h0,h1,hk 0 a om rfl,hk 1 b om rfl,hk 2 c om rfl,hk 3 d om rfl,hk 4 e om rfl,h7,h8⟩
def YA(l:J bS)(b:Nat):J bS:=cond (decide (0<l.length)&&(l.getD (l.length-1) gq).jP+1==(b:Int)) (l.set (l.length-1) (bS.mk (l.getD (l.length-1) gq).pW (b:Int))) (l++[bS.mk (b:Int) (b:Int)])
def DD(P:Nat->Bool):Nat->J bS
 | 0=>[]
 | k+1=>cond (P k) (YA (DD P k) k) (DD P k)
theorem akF(l:J bS)(b:Nat):(YA l b).length<=l.length+1:=by
 unfold YA
 grind
theorem YB(P:Nat->Bool):∀k,(DD P k).length<=k
 | 0=>by simp [DD]
 | k+1=>by
  have ih:=YB P k;have:=akF (DD P k) k;unfold DD;cases P k
  ·rw [aU];omega
  ·rw [bw];omega
theorem Us(P:Nat->Bool):∀k,∀s∈DD P k,∃h:Nat,h<k/\s.jP=(h:Int)/\P h=true
 | 0,s,hs=>by cases hs
 | k+1,s,hs=>by
  have ih:=Us P k;unfold DD at hs
  cases hP:P k with
  | false=>
   rw [hP] at hs;obtain⟨h,h1,h2,h3⟩:=ih s hs
   exact⟨h,om,h2,h3⟩
  | true=>
   rw [hP] at hs;unfold YA at hs
   cases hb:(decide (0<(DD P k).length)&&((DD P k).getD ((DD P k).length-1) gq).jP+1==(k:Int)) with
   | true=>
    rw [hb] at hs;rcases List.mem_or_eq_of_mem_set hs with hs|rfl
    ·obtain⟨h,h1,h2,h3⟩:=ih s hs
     exact⟨h,om,h2,h3⟩
    ·exact⟨k,om,rfl,hP⟩
   | false=>
    rw [hb] at hs;rcases wH.1 hs with hs|hs
    ·obtain⟨h,h1,h2,h3⟩:=ih s hs
     exact⟨h,om,h2,h3⟩
    ·obtain rfl:=J2.1 hs
     exact⟨k,om,rfl,hP⟩
theorem ami(P:Nat->Bool)(c:Nat)(h:P c=true)(h0:c=0\/P (c-1)=false):DD P (c+1)=DD P c++[bS.mk (c:Int) (c:Int)]:=by
 rw [DD,h,bw,YA]
 have:(decide (0<(DD P c).length)&&((DD P c).getD ((DD P c).length-1) gq).jP+1==(c:Int))=false:=by
  by_cases hl:0<(DD P c).length
  ·grind [gd,List.getElem_mem,Us,beq_eq_false_iff_ne]
  ·rw [dF hl];rfl
 rw [this,aU]
theorem af1(P:Nat->Bool)(c:Nat)(h0:c=0\/P (c-1)=false):∀(k:Nat),(∀j,c<=j->j<=c+k->P j=true)->DD P (c+k+1)=DD P c++[bS.mk (c:Int) ((c+k:Nat):Int)]
 | 0,h=>ami P c (h c (ef _) om) h0
 | k+1,h=>by
  have ih:=af1 P c h0 k fun j h1 h2=>h j h1 om;rw [show c+(k+1)+1=(c+k+1)+1 by omega,DD,h (c+k+1) om om,ih,YA];have hl:(DD P c++[bS.mk (c:Int) ((c+k:Nat):Int)]).length-1=(DD P c).length:=by simp
  have hg:(DD P c++[bS.mk (c:Int) ((c+k:Nat):Int)]).getD ((DD P c++[bS.mk (c:Int) ((c+k:Nat):Int)]).length-1) gq=bS.mk (c:Int) ((c+k:Nat):Int):=by
   simp
  have e:((bS.mk (c:Int) ((c+k:Nat):Int)).jP+1==((c+k+1:Nat):Int))=true:=by
   rw [tV];show ((c+k:Nat):Int)+1=_;omega
  simp;omega
theorem af2(P:Nat->Bool):∀(m c:Nat),c+m=255->P c=true->∃k,c+k<=255/\(∀j,c<=j->j<=c+k->P j=true)/\(c+k=255\/P (c+k+1)=false)
 | 0,c,h,hP=>⟨0,om,(fun j h1 h2=>(show j=c by omega)▸hP),.inl om⟩
 | m+1,c,h,hP=>by
  cases h1:P (c+1) with
  | false=>exact⟨0,om,(fun j h1 h2=>(show j=c by omega)▸hP),.inr h1⟩
  | true=>
   obtain⟨k,g1,g2,g3⟩:=af2 P m (c+1) om h1;refine⟨k+1,om,fun j h2 h3=>?_,?_⟩
   ·grind
   grind
theorem adS{c:Nat}(h:c<256):IntKind.wrap .u8 (c:Int)=(c:Int):=by
 show ((c:Int)%256)=c;omega
theorem ahZ(F:Nat)(set:J Bool)(hF:1000<F)(hs:set.length=256):p8 F set=some (DD (fun c=>set.getD c false) 256):=by
 unfold p8;rw [cE (by rw [hs];rfl)];generalize hP:(fun c=>set.getD c false)=P;have hPc:∀c,set.getD c false=P c:=fun c=>by rw [<-hP]
 refine dn (fun s:J bS×Int×J Bool=>∃c:Nat,s=(DD P c,(c:Int),set)/\c<=256/\(c<256->P c=true->c=0\/P (c-1)=false)) (fun s=>256-s.2.1.toNat) ?_ F _ ⟨0,rfl,om,fun _ _=>.inl rfl⟩ bH;rintro s ⟨c,rfl,hc,hst⟩;have hdl:=YB P c;by_cases Jk:c<256
 ·left
  cases hb:P c with
  | false=>
   refine⟨(DD P (c+1),((c+1:Nat):Int),set),⟨c+1,rfl,om,fun _ _=>.inr (by simpa using hb)⟩,bH,fun rc=>?_⟩;dsimp only;rw [cM om,CB om om om,ck,hPc,hb,cG om];show rc _=_
   rw [DD,hb,aU]
  | true=>
   have h0:=hst Jk hb;obtain⟨k,k1,k2,k3⟩:=af2 P (255-c) c om hb;have hrun:=af1 P c h0 k k2;refine⟨(DD P (c+k+1),((c+k+1:Nat):Int),set),⟨c+k+1,rfl,om,fun h1 h2=>?_⟩,bH,fun rc=>?_⟩
   ·simp_all
   ·dsimp only
    rw [cM om,CB om om om,ck,hPc,hb,kn,aU];refine dn (fun s:Int×J Bool=>∃j:Nat,s=(((c+j:Nat):Int),set)/\j<=k) (fun s=>256-s.1.toNat) ?_ F _ ⟨0,rfl,om⟩ bH;rintro s ⟨j,rfl,hj⟩;by_cases hjk:j<k
    ·left
     refine⟨(((c+(j+1):Nat):Int),set),⟨j+1,rfl,om⟩,bH,fun bn=>?_⟩;dsimp only;rw [cM om,cG om,CB om om om,aH]
     grind
    ·right
     obtain rfl:j=k:=om;intro bn;dsimp only
     have e:(cond (decide (((c+j:Nat):Int)<255)) (rq ((decide (0<=aB (((c+j:Nat):Int)+1)))&&((decide (aB (((c+j:Nat):Int)+1)<256))&&(decide (aB (((c+j:Nat):Int)+1)<(set.length:Int))))) (some (set.getD (Int.toNat (aB (((c+j:Nat):Int)+1))) false,set))) (some (false,set)):O (Bool×J Bool))=some (false,set):=by
      by_cases aqc:c+j<255
      ·rw [cM om,cG om,CB om om om,ck,hPc]
       grind
      ·rw [cf om]
     rw [e,aH];dsimp only;rw [aU,adS om,adS om,ig bH om,cG om,hrun]
 grind
def zq(l:J bS)(b:Int):Bool:=l.any fun s=>decide (s.pW<=b)&&decide (b<=s.jP)
theorem an8(F:Nat)(l:J bS)(b:Int)(hF:l.length<F)(hl:l.length<50000000):uO F l b=some (zq l b):=by
 unfold uO;rw [qh l (fun i=>(i:Int)) (fun s=>decide (s.pW<=b)&&decide (b<=s.jP)) (fun _ _=>some true) (some false) hF (by rfl) (fun i h rc=>?_) (fun rc=>?_),FE]
 ·rw [aK,cI];rfl
 ·rw [cM om,cj h,cj h,ck,gd h,aK,aH,cF,cG om]
 ·rw [cf om]
theorem FF(F:Nat)(l:J bS)(hF:l.length+300<F)(hl:l.length<50000000):Hh F l=some (DD (fun c=>zq l (c:Int)) 256):=by
 generalize hP:(fun c:Nat=>zq l (c:Int))=P;have hPc:∀c:Nat,zq l (c:Int)=P c:=fun c=>by rw [<-hP]
 refine dn (fun s=>∃c:Nat,s=((c:Int),DD P c)/\c<=256) (fun s=>256-s.1.toNat) ?_ F _ ⟨0,rfl,om⟩ bH;rintro s ⟨c,rfl,hc⟩;have hdl:=YB P c;by_cases Jk:c<256
 ·left
  refine⟨(((c+1:Nat):Int),DD P (c+1)),⟨c+1,rfl,om⟩,bH,fun rc=>?_⟩;dsimp only;rw [cM om,adS Jk,an8 F l _ om hl,aH,hPc,cG om,DD]
  cases hb:P c with
  | false=>rfl
  | true=>
   rw [kn,aU,bw,YA];by_cases h0:0<(DD P c).length
   ·have hm:(DD P c).getD ((DD P c).length-1) gq∈DD P c:=by
     grind
    obtain⟨q,q1,q2,q3⟩:=Us P c _ hm;rw [cM om,wM om h0,cj om,aH,ck,dT h0,Qg];dsimp only;rw [q2,bI (x:=(q:Int)) om,cG om,show ((q:Int)+1==(c:Int))=(((q+1:Nat):Int)==(c:Int)) from rfl]
    cases (((q+1:Nat):Int)==(c:Int)) with
    | true=>rw [bw,bw,cj om]
    | false=>rw [aU,aU,ig bH om]
   ·rw [cf om,aH,dF h0,Ro]
    rw [aU,aU,ig bH om]
 grind
def RS(set:J Bool)(sp:J bS):Prop:=set.length=256/\∀c:Nat,c<256->set.getD c false=zq sp (c:Int)
theorem OB(a b:J bS)(c:Int):zq (a++b) c=(zq a c||zq b c):=by unfold zq;rw [List.any_append]
theorem Qx{st:J Bool}{k:Nat}(h:k<st.length)(c:Nat):(st.set k true).getD c false=(st.getD c false||c==k):=by
 grind
theorem af3:∀k:Fin 8,∀b:Fin 256,mA 0 (CL.getD k.val oN).fname (b.val:Int)=some (zq (CL.getD k.val oN).ry (b.val:Int)):=by decide +kernel
theorem af4(F:Nat){c:lG}(hc:c∈CL){b:Nat}(hb:b<256):mA F c.fname (b:Int)=some (zq c.ry (b:Int)):=by
 obtain⟨k,hk,rfl⟩:=lB hc;have:=af3 ⟨k,by rw [<-RU];exact hk⟩ ⟨b,hb⟩;rw [gd hk] at this;exact this
def YC(run:J Int)(c:lG):Bool:=run==dm c.fname
theorem aa6(n:Bs)(h:isName n=true):∃c∈CL,CL.find? (YC (dm n))=some c/\c.fname=n:=by
 unfold isName at h;simp at h;rcases h with rfl|rfl|rfl|rfl|rfl|rfl|rfl|rfl
 ·exact⟨CL.getD 0 oN,by decide,by decide,by decide⟩
 ·exact⟨CL.getD 1 oN,by decide,by decide,by decide⟩
 ·exact⟨CL.getD 2 oN,by decide,by decide,by decide⟩
 ·exact⟨CL.getD 3 oN,by decide,by decide,by decide⟩
 ·exact⟨CL.getD 4 oN,by decide,by decide,by decide⟩
 ·exact⟨CL.getD 5 oN,by decide,by decide,by decide⟩
 ·exact⟨CL.getD 6 oN,by decide,by decide,by decide⟩
 ·exact⟨CL.getD 7 oN,by decide,by decide,by decide⟩
theorem Ki:∀c∈CL,isName c.fname=true/\c.fname.length=5/\∀b∈c.fname,97<=b.toNat/\b.toNat<=122:=by decide
theorem VM(x:J eG)(i:Nat):dm (bX (jG x i))=jG x i:=by
 unfold dm bX;rw [Bc]
 conv=>rhs;rw [<-T8 (jG x i)]
 refine ac6 fun v hv=>?_;obtain⟨e,he,rfl⟩:=yp.1 hv;have hl:=List.all_takeWhile (p:=Bu) (l:=x.drop i);have:=oR.1 hl e he;unfold Bu at this
 grind [UInt8.toNat_ofNat']
theorem adT(x:J eG)(i:Nat):(∃c∈CL,CL.find? (fun c=>vJ x i ((([91,58]:Bs)++c.fname)++([58,93]:Bs)))=some c/\w6 x i=(c.fname,((i+9:Nat):Int),true)/\i+9<=x.length) \/
  (CL.find? (fun c=>vJ x i ((([91,58]:Bs)++c.fname)++([58,93]:Bs)))=none/\(w6 x i).2.2=false):=by
 have hp:∀c∈CL,vJ x i ((([91,58]:Bs)++c.fname)++([58,93]:Bs))=((ei x i 91&&ei x (i+1) 58)&&((ei x (i+2+(jG x (i+2)).length) 58&&ei x (i+2+(jG x (i+2)).length+1) 93)&&YC (jG x (i+2)) c)):=fun c hc=>adR x i c.fname (Ki c hc).2.1 (Ki c hc).2.2
 cases hA:(ei x i 91&&ei x (i+1) 58) with
 | false=>
  right;refine⟨?_,by unfold w6;rw [hA];rfl⟩
  simp_all
 | true=>
  cases hB:(ei x (i+2+(jG x (i+2)).length) 58&&ei x (i+2+(jG x (i+2)).length+1) 93) with
  | false=>
   right;refine⟨?_,by unfold w6;rw [hA,hB];rfl⟩
   simp_all
  | true=>
   cases hN:isName (bX (jG x (i+2))) with
   | true=>
    left;obtain⟨c,h1,h2,h3⟩:=aa6 _ hN;rw [VM] at h2
    have hlen:(jG x (i+2)).length=5:=by
     grind [Ki,dm,bX,List.length_map,VM]
    refine⟨c,h1,?_,?_,?_⟩
    ·have:∀(L:J lG),(∀c∈L,c∈CL)->L.find? (fun c=>vJ x i ((([91,58]:Bs)++c.fname)++([58,93]:Bs)))=L.find? (YC (jG x (i+2))):=by
      intro L
      induction L with
      | nil=>intro _;rfl
      | cons a L ih=>
       grind
     simp_all
    ·unfold w6
     grind
    ·have h8:=afX (cx _ _▸hB:_/\_).2
     omega
   | false=>
    right;refine⟨?_,by unfold w6;rw [hA,hB,hN];rfl⟩;rw [List.find?_eq_none];intro c hc;rw [hp c hc,hA,hB];simp
    cases hq:YC (jG x (i+2)) c with
    | false=>rfl
    | true=>
     unfold YC at hq
     simp_all [Yq,Ki]
theorem af5(F:Nat)(x:J eG)(i:Nat)(set:J Bool)(sp:J bS)(hF:x.length+1000<F)(hx:x.length<50000000)(hc:Qv x)(hi:i<x.length)(hR:RS set sp):
  ∃(e:Nat)(set':J Bool)(sp':J bS),kU F x (i:Int) set=some ((e:Int),set')/\o4 F (x.map Hi) (i:Int)=some (sp',(e:Int))/\RS set' (sp++sp')/\i<e/\e<=x.length/\sp'.length<=4:=by
 obtain⟨hs,hR⟩:=hR;have hw1:aB ((i:Int)+1)=((i+1:Nat):Int):=cG om;have zo:aB ((i:Int)+2)=((i+2:Nat):Int):=by grind [bI]
 have VK:aB ((i:Int)+3)=((i+3:Nat):Int):=by grind [bI]
 have hml:(x.map Hi).length=x.length:=wJ _
 have hfb:∀k,k<x.length->((x.map Hi).getD k iJ).fb=(x.getD k cz).fb:=fun k hk=>by
  rw [gd (l:=x.map Hi) (by rw [hml];exact hk),T5,gd hk];rfl
 have apg:o4 F (x.map Hi) (i:Int)=(CL.find? (fun c=>vJ x i ((([91,58]:Bs)++c.fname)++([58,93]:Bs)))).elim
   (cond (cond (cond (ei x (i+1) 45) (decide (i+2<x.length)) false) (!ei x (i+2) 93) false)
    (cond (decide ((x.getD i cz).fb<=(x.getD (i+2) cz).fb)) (some ([bS.mk (x.getD i cz).fb (x.getD (i+2) cz).fb],((i+3:Nat):Int))) (some ([],((i+3:Nat):Int))))
    (some ([bS.mk (x.getD i cz).fb (x.getD i cz).fb],((i+1:Nat):Int)))) fun c=>some (c.ry,((i+9:Nat):Int)):=by
  unfold o4;rw [ajS,aH]
  rw [qh CL (fun i=>(i:Int)) (fun c=>vJ x i ((([91,58]:Bs)++c.fname)++([58,93]:Bs))) (fun _ c=>some (c.ry,((i+9:Nat):Int))) (cond (cond (cond (ei x (i+1) 45) (decide (i+2<x.length)) false) (!ei x (i+2) 93) false)
    (cond (decide ((x.getD i cz).fb<=(x.getD (i+2) cz).fb)) (some ([bS.mk (x.getD i cz).fb (x.getD (i+2) cz).fb],((i+3:Nat):Int))) (some ([],((i+3:Nat):Int))))
    (some ([bS.mk (x.getD i cz).fb (x.getD i cz).fb],((i+1:Nat):Int)))) (by rw [RU];omega) (by rfl) (fun k hk rc=>?_) (fun rc=>?_),Mx]
  ·have hm:=adM _ (ko hk)
   have hk8:k<8:=by rw [<-RU];exact hk
   rw [cM om,cj hk,ck,gd hk,cG om];generalize CL[k]=c at hm;have hl:((([91,58]:Bs)++c.fname)++([58,93]:Bs)).length=9:=by simp;omega
   grind [aB,bI,r7,akE,cj]
  ·rw [cf om,cj om,hw1,zo,VK,jb,jf,aH,jb,jf,aK,aH,aH,aK,aH,hml]
   rw [show decide (((i+2:Nat):Int)<(x.length:Int))=decide (i+2<x.length) from decide_eq_decide.2 om]
   cases h4:cond (cond (ei x (i+1) 45) (decide (i+2<x.length)) false) (!ei x (i+2) 93) false with
   | false=>simp_all
   | true=>
    have h5:i+2<x.length:=by
     simp_all
    rw [bw,bw,bQ om om,ck,ck,hfb i hi,hfb (i+2) h5]
 rw [apg];have hb:=hc.at hi;rcases adT x i with⟨c,hcm,hfind,hcl,h9⟩|⟨hfind,hcl⟩
 ·rw [hfind]
  refine (fun (h:∃st:J Bool,st.length=256/\(∀b:Nat,b<256->st.getD b false=(set.getD b false||zq c.ry (b:Int)))/\kU F x (i:Int) set=some (((i+9:Nat):Int),st))=>?_) ?_
  ·obtain⟨st,h1,h2,h3⟩:=h
   exact⟨i+9,st,c.ry,h3,rfl,⟨h1,fun b hb=>by simp_all [OB]⟩,om,h9,(adM c hcm).2⟩
  ·unfold kU
   rw [(Qw F x i om om).resolve_right om,hcl,aH,bw]
   obtain⟨r,⟨st,h1,h2,rfl⟩,h3⟩:∃r:Int×J Bool,(∃st:J Bool,st.length=256/\(∀b:Nat,b<256->st.getD b false=(set.getD b false||zq c.ry (b:Int)))/\r=(((i+9:Nat):Int),st))/\(bU (σ:=Int×(J Bool)) (R:=Int×(J Bool)) (fun fV x2=>
     cond (decide (x2.1<256))
     ((mA F c.fname x2.1).bind fun x4=>
     cond x4
     (rq ((decide (0<=x2.1))&&((decide (x2.1<256))&&(decide (x2.1<(x2.2.length:Int))))) (fV (aB (x2.1+1),x2.2.set (Int.toNat x2.1) true)))
     (fV (aB (x2.1+1),x2.2)))
     (some (((i+9:Nat):Int),x2.2))) F (0,set))=some r:=by
    refine iq _ (fun s:Int×J Bool=>∃k:Nat,s.1=(k:Int)/\k<=256/\s.2.length=256/\∀b:Nat,s.2.getD b false=(set.getD b false||(decide (b<k)&&zq c.ry (b:Int)))) (fun s=>256-s.1.toNat) ?_ F _ ⟨0,rfl,om,hs,fun b=>by simp⟩ bH;rintro⟨ii,st⟩ ⟨k,h0,hk,hl,hst⟩ rc hrc;dsimp only at h0 hl hst⊢;subst h0;by_cases hk:k<256
    ·rw [cM om,af4 F hcm hk,aH,cG om]
     cases hin:zq c.ry (k:Int) with
     | true=>
      rw [bw,CB om om om,ck];refine hrc _ ⟨k+1,rfl,om,by simpa using hl,fun b=>?_⟩ bH;dsimp only;rw [Qx om,hst b]
      grind
     | false=>
      refine hrc _ ⟨k+1,rfl,om,hl,fun b=>?_⟩ bH
      grind
    grind
   simp_all
 ·rw [hfind]
  show ∃(e:Nat)(set':J Bool)(sp':J bS),_/\(cond _ _ _)=_/\_;unfold kU;rw [(Qw F x i om om).resolve_right om,aH,hcl,aU,hw1,zo,VK,gL,aH,gL,aK,aH]
  have e1:cond (ei x (i+1) 45) (decide (((i+2:Nat):Int)<(x.length:Int)),set) (false,set)=((cond (ei x (i+1) 45) (decide (i+2<x.length)) false),set):=by
   grind
  rw [e1];dsimp only;rw [aH,aK,aH];have e2:∀a b:Bool,cond a (b,set) (false,set)=(cond a b false,set):=by simp_all
  rw [e2];dsimp only
  cases h4:cond (cond (ei x (i+1) 45) (decide (i+2<x.length)) false) (!ei x (i+2) 93) false with
  | false=>
   rw [aU,aU,cj hi,ck,CB om om om];refine⟨i+1,_,_,rfl,rfl,⟨by simpa using hs,fun b oY=>?_⟩,om,om,si⟩;rw [Qx om,hR b oY,OB];congr 1;unfold zq
   grind
  | true=>
   have h5:i+2<x.length:=by
    simp_all
   have oY:=hc.at h5;rw [bw,bw,cj hi,ck,ck,bI (x:=(x.getD i cz).fb) om,bI (x:=(x.getD (i+2) cz).fb) om];generalize (x.getD i cz).fb=lo at hb;generalize (x.getD (i+2) cz).fb=hi2 at oY
   obtain⟨r,⟨st,h1,h2,rfl⟩,h3⟩:∃r:Int×J Bool,(∃st:J Bool,st.length=256/\(∀b:Nat,b<256->st.getD b false=(set.getD b false||(decide (lo<=(b:Int))&&decide ((b:Int)<=hi2))))/\r=(((i+3:Nat):Int),st))/\(bU (σ:=Int×(J Bool)) (R:=Int×(J Bool)) (fun Qy x9=>
     rq ((decide (0<=((i+2:Nat):Int)))&&(decide (((i+2:Nat):Int)<(x.length:Int)))) (cond (decide (x9.1<=hi2))
     (rq ((decide (0<=x9.1))&&((decide (x9.1<256))&&(decide (x9.1<(x9.2.length:Int))))) (Qy (aB (x9.1+1),x9.2.set (Int.toNat x9.1) true)))
     (some (((i+3:Nat):Int),x9.2)))) F (lo,set))=some r:=by
    refine iq _ (fun s:Int×J Bool=>lo<=s.1/\s.1<=256/\s.2.length=256/\(∀v:Int,lo<=v->v<s.1->v<=hi2)/\∀b:Nat,s.2.getD b false=(set.getD b false||(decide (lo<=(b:Int))&&decide ((b:Int)<s.1)))) (fun s=>256-s.1.toNat) ?_ F _ ⟨XA _,om,hs,fun v h1 h2=>om,fun b=>by
     grind⟩ bH
    rintro⟨ii,st⟩ ⟨h6,h7,hl,hv,hst⟩ rc hrc;dsimp only at h6 h7 hl hv hst⊢;rw [cj h5];by_cases hle:ii<=hi2
    ·rw [cM hle,CB om om om,bI om]
     refine hrc _ ⟨by dsimp only;omega,by dsimp only;omega,by simpa using hl,fun v h1 h2=>by dsimp only at h2;omega,fun b=>?_⟩ (by dsimp only;omega);dsimp only;rw [Qx om,hst b,Bool.or_assoc]
     grind
    grind
   by_cases hlh:lo<=hi2
   ·rw [cM hlh]
    refine⟨i+3,st,[bS.mk lo hi2],h3,rfl,⟨h1,fun b YE=>?_⟩,om,om,si⟩;rw [h2 b YE,hR b YE,OB];congr 1;unfold zq;simp
   ·rw [cf hlh]
    refine⟨i+3,st,[],h3,rfl,⟨h1,fun b YE=>?_⟩,om,om,si⟩;rw [h2 b YE,hR b YE,OB];congr 1;unfold zq
    grind
theorem ML{σ τ R:Type}{b1:(σ->O R)->σ->O R}{b2:(τ->O R)->τ->O R}(P:σ->τ->Prop)(m:σ->Nat)
  (hs:∀s t,P s t->(∃s' t',P s' t'/\m s'<m s/\(∀rc,b1 rc s=rc s')/\∀rc,b2 rc t=rc t')\/∃z,(∀rc,b1 rc s=some z)/\∀rc,b2 rc t=some z) :
  ∀(F1 F2:Nat)(s:σ)(t:τ),P s t->m s<F1->m s<F2->∃z,bU b1 F1 s=some z/\bU b2 F2 t=some z
 | 0,_,s,t,_,h,_=>by omega
 | _+1,0,s,t,_,_,h=>by omega
 | F1+1,F2+1,s,t,hP,h1,h2=>by
  show ∃z,b1 (bU b1 F1) s=some z/\b2 (bU b2 F2) t=some z;rcases hs s t hP with⟨s',t',g1,g2,g3,g4⟩|⟨z,g1,g2⟩
  ·rw [g3,g4];exact ML P m hs F1 F2 s' t' g1 om om
  simp_all
theorem YF{P Q:Nat->Bool}:∀k,(∀c,c<k->P c=Q c)->DD P k=DD Q k
 | 0,_=>rfl
 | k+1,h=>by
  unfold DD;rw [YF k fun c hc=>h c om,h k om]
theorem adU(F:Nat)(x:J eG)(i:Nat)(hF:4*x.length+1000<F)(hx:x.length<12000000)(hc:Qv x)(hi:i<x.length):∃z,nk F x (i:Int)=some z/\p9 F (x.map Hi) (i:Int)=some z:=by
 have hml:(x.map Hi).length=x.length:=wJ _;have hw1:aB ((i:Int)+1)=((i+1:Nat):Int):=cG om;unfold nk p9;rw [hw1,gL,aH,gL,aH,aK,aH,cG om,aK,aH,jb,jf,aH,jb,jf,aH,aK,aH,aK,aH];generalize hneg:cond (ei x (i+1) 33) true (ei x (i+1) 94)=neg
 obtain⟨s0,hs0,hs1,hs2,hy⟩:∃s0:Nat,cond neg (((i+1+1:Nat):Int)) ((i+1:Nat):Int)=(s0:Int)/\i<s0/\s0<=i+2/\cond neg (((i+1+1:Nat):Int),(aF.mk 4 [] false []).fKind,(aF.mk 4 [] false []).fText,true,(aF.mk 4 [] false []).cH) (((i+1:Nat):Int),(aF.mk 4 [] false []).fKind,(aF.mk 4 [] false []).fText,(aF.mk 4 [] false []).Bv,(aF.mk 4 [] false []).cH)=((s0:Int),4,[],neg,[]):=by
  cases neg
  ·grind
  ·exact⟨i+2,rfl,om,om,rfl⟩
 rw [hs0,hy]
 refine ML (fun (s:Int×Bool×J Bool)(t:Int×J bS×Bool)=>∃(k:Nat)(fi:Bool)(set:J Bool)(sp:J bS),s=((k:Int),fi,set)/\t=((k:Int),sp,fi)/\i<k/\k<=x.length+2/\RS set sp/\sp.length<=4*k) (fun s=>x.length+2-s.1.toNat) ?_ F F _ _ ⟨s0,true,_,_,rfl,rfl,hs1,om,⟨si,fun c h=>by
  rw [ac7,List.getElem?_replicate];simp [h,zq]⟩,si⟩ bH bH
 rintro _ _ ⟨k,fi,set,sp,rfl,rfl,hk,hk2,hR,hl⟩;dsimp only;by_cases DJ:k<x.length
 ·have e2:cond (ei x k 93) (!fi,set) (false,set)=((ei x k 93 && !fi),set):=by cases ei x k 93<;>rfl
  cases h4:(ei x k 93 && !fi) with
  | true=>
   right
   have h5:cond fi true (!ei x k 93)=false:=by
    simp_all
   refine⟨(aF.mk 4 [] neg (DD (fun c=>set.getD c false) 256),((k+1:Nat):Int),true),fun rc=>?_,fun rc=>?_⟩
   ·rw [cM om,gL,aH,aK,aH,e2,h4]
    rw [bw,cE (by rw [hR.1];rfl),ahZ F set om hR.1,aH,cG om]
   ·rw [jb,jf,aH,aK,hml,cM (show (k:Int)<(x.length:Int) by omega),aH,h5,aU,cf (show ¬ (x.length:Int)<=(k:Int) by omega),FF F sp om om,aH,cG om]
    rw [YF 256 fun c hc=>(hR.2 c hc).symm]
  | false=>
   left
   have h5:cond fi true (!ei x k 93)=true:=by
    grind
   obtain⟨e,set',sp',g1,g2,g3,g4,g5,g6⟩:=af5 F x k set sp om om hc DJ hR;refine⟨_,_,⟨e,false,set',sp++sp',rfl,rfl,om,om,g3,by grind⟩,bH,fun rc=>?_,fun rc=>?_⟩
   ·simp_all [cM,gL,aH,aK,aU]
   ·rw [jb,jf,Option.bind_some,aK,hml,cM (show (k:Int)<(x.length:Int) by omega),Option.bind_some,h5,cond_true,g2,Option.bind_some,ig (by dsimp only;omega) om]
 ·right
  simp_all [cf,jb,jf,aH,aK,aU,cM]
theorem adV(F:Nat)(l:J aG)(hF:l.length<F)(qP:4*cC l+1000<F)(h1:l.length<1000000000)(h2:cC l<=10000000):∃p,iI F l=some p/\jK F l=some p:=by
 unfold iI jK;rw [Kg F l hF om h1 om,Py F l hF om h1 om,aH,aH,an7];have hx:(l.flatMap rj).length<=cC l:=Jg _ Ur _;have hc:=Yt l;generalize (l.flatMap rj)=x at hx hc;have hml:(x.map Hi).length=x.length:=wJ _;refine ML (fun (s t:J aF×Int)=>s=t/\∃k:Nat,s.2=(k:Int)/\k<=x.length/\s.1.length<=k) (fun s=>x.length-s.2.toNat) ?_ F F _ _ ⟨rfl,0,rfl,om,si⟩ bH bH;rintro⟨acc,ii⟩ _ ⟨rfl,k,h0,hk,ha⟩;dsimp only at h0 ha⊢;subst h0
 have hex:∀a b:Int,a≠b->ei x k a=true->ei x k b=false:=by
  grind [yM]
 have hfb:k<x.length->((x.map Hi).getD k iJ).fb=(x.getD k cz).fb:=fun hk=>by
  rw [gd (l:=x.map Hi) (by rw [hml];exact hk),T5,gd hk];rfl
 by_cases DJ:k<x.length
 ·left
  have hc1:∀(it:aF),(decide (acc.length+([it]:J aF).length<=9223372036854775807)&&decide ((acc.length+([it]:J aF).length)*56<=140737488355328))=true:=fun it=>nI bH om
  cases PA:ei x k 91 with
  | true=>
   have PB:=hex 91 42 de PA;have h63:=hex 91 63 de PA;obtain⟨z,z1,z2⟩:=adU F x k om om hc DJ;obtain⟨r,r1,r2⟩:=Pz F x k om om hc DJ;have hzr:z=r:=uy (z1.symm.trans r2);subst hzr
   cases hz:z.2.2 with
   | true=>
    obtain⟨-,e,g2,g3,g4⟩:=r1 hz;refine⟨(acc++[z.1],(e:Int)),(acc++[z.1],(e:Int)),⟨rfl,e,rfl,g4,bH⟩,bH,fun rc=>?_,fun rc=>?_⟩
    ·rw [cM om,gL,aH,PA,bw,z1,aH,hz,bw,cE (hc1 _),g2]
     cases h:rc (acc++[z.1],(e:Int))<;>rfl
    ·rw [hml,cM om,jb,jf,aH,PB,aU,jb,jf,aH,h63,aU,jb,jf,aH,PA,bw,z2,aH,hz,bw,cE (hc1 _),g2]
     cases h:rc (acc++[z.1],(e:Int))<;>rfl
   | false=>
    refine⟨(acc++[aF.mk 1 (bX [(x.getD k cz).fb]) false []],((k+1:Nat):Int)),_,⟨rfl,k+1,rfl,om,bH⟩,bH,fun rc=>?_,fun rc=>?_⟩
    ·rw [cM om,gL,aH,PA,bw,z1,aH,hz,aU]
     show ((ff F x (k:Int) 42).bind _)=_;rw [gL,aH,PB,aU,gL,aH,h63,aU,cj DJ,cE (hc1 _),cG om,ck]
    ·rw [hml,cM om,jb,jf,aH,PB,aU,jb,jf,aH,h63,aU,jb,jf,aH,PA,bw,z2,aH,hz,aU]
     show rq _ (rq _ (rc _))=_
     grind [cj,cE,cG,Int.toNat_natCast]
  | false=>
   cases PB:ei x k 42 with
   | true=>
    refine⟨(acc++[aF.mk 3 [] false []],((k+1:Nat):Int)),_,⟨rfl,k+1,rfl,om,bH⟩,bH,fun rc=>?_,fun rc=>?_⟩
    ·rw [cM om,gL,aH,PA,aU]
     show ((ff F x (k:Int) 42).bind _)=_;rw [gL,aH,PB,bw,cE (hc1 _),cG om]
    ·rw [hml,cM om,jb,jf,aH,PB,bw,cE (hc1 _),cG om]
   | false=>
    cases h63:ei x k 63 with
    | true=>
     refine⟨(acc++[aF.mk 2 [] false []],((k+1:Nat):Int)),_,⟨rfl,k+1,rfl,om,bH⟩,bH,fun rc=>?_,fun rc=>?_⟩
     ·rw [cM om,gL,aH,PA,aU]
      show ((ff F x (k:Int) 42).bind _)=_;rw [gL,aH,PB,aU,gL,aH,h63,bw,cE (hc1 _),cG om]
     ·rw [hml,cM om,jb,jf,aH,PB,aU,jb,jf,aH,h63,bw,cE (hc1 _),cG om]
    | false=>
     refine⟨(acc++[aF.mk 1 (bX [(x.getD k cz).fb]) false []],((k+1:Nat):Int)),_,⟨rfl,k+1,rfl,om,bH⟩,bH,fun rc=>?_,fun rc=>?_⟩
     ·rw [cM om,gL,aH,PA,aU]
      show ((ff F x (k:Int) 42).bind _)=_;rw [gL,aH,PB,aU,gL,aH,h63,aU,cj DJ,cE (hc1 _),cG om,ck]
     ·rw [hml,cM om,jb,jf,aH,PB,aU,jb,jf,aH,h63,aU,jb,jf,aH,PA,aU]
      show rq _ (rq _ (rc _))=_
      grind [cj,cE,cG,Int.toNat_natCast]
 simp_all [cf]
theorem Kj{σ τ R S:Type}{b1:(σ->O R)->σ->O R}{b2:(τ->O S)->τ->O S}(Q:O R->O S->Prop)(P:σ->τ->Prop)(m:σ->Nat)
  (hs:∀s t,P s t->∀rc1 bn,(∀s' t',P s' t'->m s'<m s->Q (rc1 s') (bn t'))->Q (b1 rc1 s) (b2 bn t)) :
  ∀(F1 F2:Nat)(s:σ)(t:τ),P s t->m s<F1->m s<F2->Q (bU b1 F1 s) (bU b2 F2 t)
 | 0,_,s,t,_,h,_=>by omega
 | _+1,0,s,t,_,_,h=>by omega
 | F1+1,F2+1,s,t,hP,h1,h2=>hs s t hP (bU b1 F1) (bU b2 F2) fun s' t' g1 g2=>Kj Q P m hs F1 F2 s' t' g1 om om
theorem Hj(F:Nat)(p:J aF)(hF:p.length+300<F)(hp:p.length<50000000)(hit:∀it∈p,mB it):lU F p=ku F p:=by
 unfold lU ku;refine Kj (fun a b=>a=b) (fun s t=>s=t/\∃k:Nat,s=(k:Int)/\k<=p.length) (fun s=>p.length-s.toNat) ?_ F F _ _ ⟨rfl,0,rfl,om⟩ bH bH;rintro _ _ ⟨rfl,k,rfl,hk⟩ rc1 bn hrc;by_cases hk:k<p.length
 ·have hI:=hit _ (ko hk)
  rw [cM (show (k:Int)<(p.length:Int) by omega),cM (show (k:Int)<(p.length:Int) by omega),cj hk,cj hk,ck,gd hk];generalize p[k]=it at hI;have hl:=hI.2.2;obtain⟨c,hc⟩:=Bw F it.cH om om;have hnext:=hrc ((k+1:Nat):Int) ((k+1:Nat):Int) ⟨rfl,k+1,rfl,om⟩ bH;simp only [aK,aH,hc];rw [cG om]
  cases (cond (cond (decide (it.fKind<1)) true (decide (4<it.fKind))) true ((it.fText.length:Int) != cond (it.fKind==1) 1 0)) with
  | true=>rfl
  | false=>
   rw [aU,aU]
   cases (cond (it.fKind != 4) (cond it.Bv true (decide (0<(it.cH.length:Int)))) false) with
   | true=>rfl
   | false=>
    rw [aU,aU]
    have hin:∀A:O Bool,bU (σ:=Int) (R:=Bool) (fun PC x7=>
       cond (decide (x7<(it.cH.length:Int)))
       (rq ((decide (0<=x7))&&(decide (x7<(it.cH.length:Int)))) ((cond (decide ((it.cH.getD (Int.toNat x7) gq).jP<(it.cH.getD (Int.toNat x7) gq).pW))
       (some true)
       (cond (decide (0<x7))
       (rq ((decide (0<=aB (x7-1)))&&(decide (aB (x7-1)<(it.cH.length:Int)))) (some (decide (aB ((it.cH.getD (Int.toNat x7) gq).pW)<=aB ((aB ((it.cH.getD (Int.toNat (aB (x7-1))) gq).jP))+1)))))
       (some false)):O Bool).bind fun x9=>
       cond x9
       (some false)
       (PC (aB (x7+1)))))
       A) F 0=cond c A (some false):=by
     intro A;have Jk:=hc;unfold nq at Jk
     have hsw:∀(a b:O Bool),b=some c->(∃c',b=some c'/\a=cond c' A (some false))->a=cond c A (some false):=by
      rintro a b h1 ⟨c',h2,h3⟩;rw [h1] at h2;cases h2;exact h3
     refine hsw _ _ Jk (Kj (fun a b=>∃c',b=some c'/\a=cond c' A (some false)) (fun (s t:Int)=>s=t/\∃j:Nat,s=(j:Int)/\j<=it.cH.length) (fun s=>it.cH.length-s.toNat) ?_ F F 0 0 ⟨rfl,0,rfl,om⟩ bH bH);rintro s t hst rcA rcB hAB
     ·obtain⟨rfl,j,rfl,hj⟩:=hst
      by_cases hj:j<it.cH.length
      ·have e:∃b,(cond (decide ((it.cH.getD (Int.toNat (j:Int)) gq).jP<(it.cH.getD (Int.toNat (j:Int)) gq).pW)) (some true) (cond (decide (0<(j:Int))) (rq ((decide (0<=aB ((j:Int)-1)))&&(decide (aB ((j:Int)-1)<(it.cH.length:Int)))) (some (decide (aB ((it.cH.getD (Int.toNat (j:Int)) gq).pW)<=aB ((aB ((it.cH.getD (Int.toNat (aB ((j:Int)-1))) gq).jP))+1))))) (some false)):O Bool)=some b:=by
        by_cases h0:0<j
        ·rw [wM om h0,cM (show (0:Int)<(j:Int) by omega),bQ om om,aK];exact⟨_,rfl⟩
        ·rw [cf (show ¬ (0:Int)<(j:Int) by omega),aK];exact⟨_,rfl⟩
       obtain⟨b,hb⟩:=e;rw [cM (show (j:Int)<(it.cH.length:Int) by omega),cM (show (j:Int)<(it.cH.length:Int) by omega),cj hj,cj hj];simp only [cj hj];rw [hb,aH,aH,cG om]
       cases b with
       | true=>exact⟨false,rfl,rfl⟩
       | false=>exact hAB _ _ ⟨rfl,j+1,rfl,om⟩ bH
      ·rw [cf (show ¬ (j:Int)<(it.cH.length:Int) by omega),cf (show ¬ (j:Int)<(it.cH.length:Int) by omega)]
       exact⟨true,rfl,rfl⟩
    rw [hin]
    cases c with
    | true=>exact hnext
    | false=>rfl
 ·rw [cf (show ¬ (k:Int)<(p.length:Int) by omega),cf (show ¬ (k:Int)<(p.length:Int) by omega)]
def iz(n:Nat)(f:Nat->Bool):J Bool:=(List.range n).map f
theorem Bz(n:Nat)(f:Nat->Bool):(iz n f).length=n:=by unfold iz;simp
theorem vK{n i:Nat}(f:Nat->Bool)(h:i<n):(iz n f).getD i false=f i:=by
 unfold iz
 simp_all
theorem kI{n:Nat}{f g:Nat->Bool}(h:∀i,i<n->f i=g i):iz n f=iz n g:=by
 unfold iz
 simp_all
theorem FG(n i:Nat)(f:Nat->Bool)(b:Bool):(iz n f).set i b=iz n (fun j=>cond (j==i) b (f j)):=by
 unfold iz;refine yX si fun j h1 h2=>?_
 grind
theorem Qz(n:Nat):List.replicate n false=iz n (fun _=>false):=by
 refine yX (by simp [iz]) fun j h1 h2=>?_;simp [iz]
section
variable (p : J aF) (s : Bs)
def RW(i:Nat):aF:=p.getD i fQ
def lV(i:Nat):Bool:=(RW p i).fKind==3
def QA(it:aF)(b:Int):Bool:=
 cond (it.fKind==1) (((it.fText.getD 0 0).toNat:Int)==b) (cond (it.fKind==4) (!((it.cH.any fun x=>decide (x.pW<=b)&&decide (b<=x.jP))==it.Bv)) true)
def MM(i k:Nat):Bool:=QA (RW p i) ((s.getD k 0).toNat:Int)
def upE(f:Nat->Bool):Nat->Bool
 | 0=>f 0
 | k+1=>f (k+1)||upE f k
def prE(f g:Nat->Bool):Nat->Bool
 | 0=>false
 | k+1=>f k&&g k
def EE:Nat->Nat->Bool
 | 0,k=>k==0
 | i+1,k=>cond (lV p i) (upE (EE i) k) (prE (EE i) (MM p s i) k)
def EP(i k:Nat):Bool:=EE p s i k||(lV p i&&EE p s (i+1) k)
theorem ace:lV p p.length=false:=by
 unfold lV RW;rw [ac7,T9 (ef _)];rfl
theorem OC{i:Nat}(h:lV p i=true)(k:Nat):EE p s (i+1) (k+1)=(EE p s i (k+1)||EE p s (i+1) k):=by
 rw [EE,EE,h];rfl
theorem Kk{i:Nat}(h:lV p i=true):EE p s (i+1) 0=EE p s i 0:=by rw [EE,h];rfl
theorem Ut{i:Nat}(h:lV p i=false)(k:Nat):EE p s (i+1) (k+1)=(EE p s i k&&MM p s i k):=by rw [EE,h];rfl
theorem YG{i:Nat}(h:lV p i=false):EE p s (i+1) 0=false:=by rw [EE,h];rfl
theorem adW{i:Nat}(h:lV p i=true):∀k,EE p s i k=true->EE p s (i+1) k=true
 | 0,e=>by simp_all [Kk]
 | k+1,e=>by simp_all [OC]
def w8(f:Nat->Bool):Nat->Bool
 | 0=>f 0
 | i+1=>f (i+1)||(w8 f i&&lV p i)
def uP(f:Nat->Bool)(b k j:Nat):Bool:=(decide (j<b)&&(f j&&lV p j))||(decide (0<j)&&(decide (j<=b)&&(f (j-1)&&(!lV p (j-1)&&MM p s (j-1) k))))
theorem ah0:∀i,w8 p (fun j=>j==0) i=EP p s i 0:=by
 have hE:∀i,EP p s i 0=EE p s i 0:=by
  unfold EP
  simp_all [Kk]
 intro i
 induction i with
 | zero=>rfl
 | succ i ih=>
  rw [w8]
  grind [YG,Kk]
theorem acf(k:Nat):∀i,i<=p.length->w8 p (uP p s (fun j=>EP p s j k) p.length k) i=EP p s i (k+1):=by
 have hpre:∀i,i<=p.length->uP p s (fun j=>EP p s j k) p.length k i=((lV p i&&EE p s (i+1) k)||(decide (0<i)&&(!lV p (i-1)&&EE p s i (k+1)))):=by
  intro i hi;unfold uP;congr 1
  ·by_cases h:i<p.length
   ·unfold EP
    grind [adW]
   grind [ace,decide_eq_false]
  ·cases i with
   | zero=>simp
   | succ i=>
    unfold EP
    grind [Ut]
 intro i
 induction i with
 | zero=>
  intro hi;rw [w8,hpre 0 hi];unfold EP;rw [show EE p s 0 (k+1)=false from rfl]
  cases hs:lV p 0 with
  | false=>simp
  | true=>rw [OC p s hs,show EE p s 0 (k+1)=false from rfl];simp
 | succ i ih=>
  intro hi;rw [w8,hpre (i+1) hi,ih om]
  have e2:EP p s (i+1) (k+1)=(EE p s (i+1) (k+1)||(lV p (i+1)&&EE p s (i+2) k)):=by
   unfold EP
   grind [OC]
  rw [e2];unfold EP
  grind [adW]
theorem YH(f:Nat->Bool)(n:Nat)(h:∀i,i<=n->f i=false):∀i,i<=n->w8 p f i=false
 | 0,hi=>h 0 hi
 | i+1,hi=>by rw [w8,h _ hi,YH f n h i om];rfl
theorem Uu(k:Nat)(h:∀i,i<=p.length->EP p s i k=false):∀d i,i<=p.length->EP p s i (k+d)=false
 | 0,i,hi=>h i hi
 | d+1,i,hi=>by
  rw [<-TY,<-acf p s (k+d) i hi];refine YH p _ p.length (fun j hj=>?_) i hi;unfold uP;dsimp only;rw [Uu k h d j hj];by_cases h0:0<j
  ·rw [Uu k h d (j-1) om];simp
  ·simp [h0]
theorem af6(k:Nat):EP p s p.length k=EE p s p.length k:=by unfold EP;rw [ace];simp
end
def Kl(b:Int)(x:bS):Bool:=decide (x.pW<=b)&&decide (b<=x.jP)
theorem akG(F:Nat)(it:aF)(b:Int)(hF:300<F)(h:mB it):uQ F it b=some (QA it b):=by
 unfold uQ QA
 cases hk:(it.fKind==1) with
 | true=>
  have:=h.1 (eq_of_beq hk)
  rw [bw,bw,r7 om]
 | false=>
  cases (it.fKind==4) with
  | false=>rfl
  | true=>
   have hl:=h.2.2;refine dn (fun s=>∃k:Nat,s=((it.cH.take k).any (Kl b),(k:Int))/\k<=it.cH.length) (fun s=>it.cH.length-s.2.toNat) ?_ F _ ⟨0,rfl,om⟩ bH;rintro s ⟨k,rfl,hk2⟩;by_cases hk2:k<it.cH.length
   ·left
    refine⟨_,⟨k+1,rfl,om⟩,bH,fun rc=>?_⟩;rw [cj hk2,ck,aK,aK,cG om,qA hk2,List.any_append];unfold Kl
    simp_all
   ·right
    obtain rfl:k=it.cH.length:=om;intro rc;rw [cf om,Bb];rfl
theorem ah1(F:Nat)(it:aF)(b:Int)(hF:300<F)(h:mB it):B9 F it b=some (QA it b):=by
 unfold B9 QA
 cases hk:(it.fKind==1) with
 | true=>
  have:=h.1 (eq_of_beq hk)
  rw [bw,bw,r7 om]
 | false=>
  cases (it.fKind==4) with
  | false=>rfl
  | true=>
   have hl:=h.2.2
   have e:uO F it.cH b=some (it.cH.any (Kl b)):=by
    refine dn (fun s=>∃k:Nat,s=(k:Int)/\k<=it.cH.length/\(it.cH.take k).any (Kl b)=false) (fun s=>it.cH.length-s.toNat) ?_ F _ ⟨0,rfl,om,rfl⟩ bH;rintro s ⟨k,rfl,hk2,hn⟩;by_cases hk2:k<it.cH.length
    ·have hin:(cond (decide (it.cH[k].pW<=b)) (rq ((decide (0<=(k:Int)))&&(decide ((k:Int)<(it.cH.length:Int)))) (some (decide (b<=it.cH[k].jP)))) (some false):O Bool)=some (Kl b it.cH[k]):=by
      rw [cj hk2];unfold Kl
      grind
     have an9:(it.cH.take (k+1)).any (Kl b)=Kl b it.cH[k]:=by
      grind [List.take_succ_eq_append_getElem]
     cases hb:Kl b it.cH[k] with
     | true=>
      right;intro rc;have:=T4.2 ⟨_,ko hk2,hb⟩;rw [cM om,cj hk2,ck,gd hk2,hin,hb,this]
      rfl
     | false=>
      left;refine⟨_,⟨k+1,rfl,om,by rw [an9,hb]⟩,bH,fun rc=>?_⟩;rw [cM om,cj hk2,ck,gd hk2,hin,hb,cG om];rfl
    grind
   rw [e];rfl
theorem VN(F:Nat)(p:J aF)(f:Nat->Bool)(hF:p.length<F)(hp:p.length<50000000):rz F p (iz (p.length+1) f)=some (iz (p.length+1) (w8 p f)):=by
 refine dn (fun s=>∃k:Nat,s=((k:Int),iz (p.length+1) (fun j=>cond (decide (j<=k)) (w8 p f j) (f j)))/\k<=p.length) (fun s=>p.length-s.1.toNat) ?_ F _ ⟨0,congrArg (Prod.mk (0:Int)) (kI fun i hi=>by
   cases i with
   | zero=>rfl
   | succ i=>simp_all),om⟩ bH
 rintro s ⟨k,rfl,hk⟩;have hlen:∀g:Nat->Bool,(iz (p.length+1) g).length=p.length+1:=fun g=>Bz _ g;by_cases hk:k<p.length
 ·left
  refine⟨_,⟨k+1,rfl,om⟩,bH,fun rc=>?_⟩;rw [cM om,cj hk,bQ om (by rw [hlen];omega),ck,vK _ (show k<p.length+1 by omega),aK,cG om,dT (show k<=k by omega),bw];have e:∀(A B:Bool)(L:J Bool),cond A (B,L) (false,L)=((A&&B),L):=by simp_all
  rw [e];show cond (w8 p f k&&lV p k) _ _=_
  have e2:iz (p.length+1) (fun j=>cond (decide (j<=k+1)) (w8 p f j) (f j))=cond (w8 p f k&&lV p k) ((iz (p.length+1) (fun j=>cond (decide (j<=k)) (w8 p f j) (f j))).set (k+1) true) (iz (p.length+1) (fun j=>cond (decide (j<=k)) (w8 p f j) (f j))):=by
   cases hc:(w8 p f k&&lV p k) with
   | true=>
    rw [FG];refine kI fun j hj=>?_;by_cases h1:j=k+1
    ·subst h1
     rw [Fq,dT om,w8,hc];simp
    grind
   | false=>
    refine kI fun j hj=>?_;by_cases h1:j=k+1
    ·subst h1
     rw [dT (show k+1<=k+1 by omega),dF (show ¬ k+1<=k by omega),w8,hc];simp
    grind
  rw [e2]
  cases hc:(w8 p f k&&lV p k) with
  | true=>rw [bw,bw,bQ om (by rw [hlen];omega),ck]
  | false=>rfl
 ·right
  intro rc;rw [cf om];rw [kI (g:=w8 p f) fun j hj=>by grind]
theorem af7(p:J aF)(s:Bs)(f:Nat->Bool)(k j:Nat):uP p s f 0 k j=false:=by
 unfold uP
 grind
theorem af8(p:J aF)(s:Bs)(f:Nat->Bool)(b k j:Nat):
  uP p s f (b+1) k j=cond (f b&&lV p b) (cond (j==b) true (uP p s f b k j)) (cond (f b&&MM p s b k) (cond (j==b+1) true (uP p s f b k j)) (uP p s f b k j)):=by
 unfold uP
 grind
theorem adX(F:Nat)(p:J aF)(s:Bs)(f:Nat->Bool)(k:Nat)(hF:p.length+300<F)(hp:p.length<50000000)(hit:∀it∈p,mB it):
  qS F p (iz (p.length+1) f) ((s.getD k 0).toNat:Int)=some (iz (p.length+1) (w8 p (uP p s f p.length k))):=by
 unfold qS;have hw:aB ((p.length:Int)+1)=((p.length+1:Nat):Int):=cG om;have hlen:∀g:Nat->Bool,(iz (p.length+1) g).length=p.length+1:=fun g=>Bz _ g;rw [hw,cE (by rw [dT om,dT om,dT om,dT om,dT om];rfl),Qz];refine dn (fun x=>∃b:Nat,x=((b:Int),iz (p.length+1) (uP p s f b k))/\b<=p.length) (fun x=>p.length-x.1.toNat) ?_ F _ ⟨0,by grind [kI,af7],om⟩ bH;rintro x ⟨b,rfl,hb⟩;by_cases hb:b<p.length
 ·left
  refine⟨_,⟨b+1,rfl,om⟩,bH,fun rc=>?_⟩;have hki:(RW p b)=p[b]:=by unfold RW;rw [gd hb]
  have hst:(p[b].fKind==3)=lV p b:=by unfold lV;rw [hki]
  have hfi:QA p[b] ((s.getD k 0).toNat:Int)=MM p s b k:=by unfold MM;rw [hki]
  rw [cM om,cj hb,bQ om (by rw [hlen];omega),ck,gd hb,vK _ (show b<p.length+1 by omega),cG om,hst,akG F p[b] _ om (hit _ (ko hb)),hfi]
  have e:iz (p.length+1) (uP p s f (b+1) k)=cond (f b&&lV p b) ((iz (p.length+1) (uP p s f b k)).set b true) (cond (f b&&MM p s b k) ((iz (p.length+1) (uP p s f b k)).set (b+1) true) (iz (p.length+1) (uP p s f b k))):=by
   grind [FG,kI,af8]
  rw [e]
  cases hf:f b with
  | false=>rfl
  | true=>
   cases hs:lV p b with
   | true=>
    grind [bQ]
   | false=>
    cases hx:MM p s b k with
    | true=>
     grind [bQ,Int.toNat_natCast]
    | false=>rfl
 ·right
  obtain rfl:b=p.length:=om;intro rc;rw [cf om,VN F p _ om hp,aH]
theorem aa7(F:Nat)(st:J Bool)(hF:st.length<F)(hs:st.length<100000000):∃b,(b=false->∀i,i<st.length->st.getD i false=false)/\qT F st true=some b:=by
 unfold qT
 obtain⟨r,hr,h⟩:∃r:Int,(r<0->∀i,i<st.length->st.getD i false=false)/\BA F st true=some r:=by
  refine Eh _ (fun s=>∃k:Nat,s=(k:Int)/\k<=st.length/\∀i,i<k->st.getD i false=false) (fun s=>st.length-s.toNat) ?_ F _ ⟨0,rfl,om,fun i hi=>om⟩ bH;rintro ii ⟨k,rfl,hk,hn⟩;by_cases hk:k<st.length
  ·cases hv:st.getD k false with
   | true=>
    right;refine⟨(k:Int),fun h=>om,fun rc=>?_⟩;rw [cM om,cj hk,ck,hv]
    rfl
   | false=>
    left;refine⟨_,⟨k+1,rfl,om,fun i hi=>?_⟩,bH,fun rc=>?_⟩
    ·grind
    ·rw [cM om,cj hk,ck,hv,cG om]
     rfl
  ·obtain rfl:k=st.length:=om
   simp_all
 simp_all
theorem acg(F:Nat)(p:J aF)(s:Bs)(hF:p.length+300<F)(qP:s.length+1<F)(hs:s.length<50000000)(hp:p.length<50000000)(hit:∀it∈p,mB it):
  zu F p s=some (iz (s.length+1) (EE p s p.length)):=by
 unfold zu;have hw:aB ((s.length:Int)+1)=((s.length+1:Nat):Int):=cG om;have hlen:∀g:Nat->Bool,(iz (s.length+1) g).length=s.length+1:=fun g=>Bz _ g
 have hrq:∀ {α:Type}(x:O α),rq ((decide (0<=((s.length+1:Nat):Int)))&&((decide (((s.length+1:Nat):Int)<=((s.length+1:Nat):Int)))&&((decide (0<((s.length+1:Nat):Int)))&&((decide (((s.length+1:Nat):Int)<=9223372036854775807))&&(decide ((1:Int)*((s.length+1:Nat):Int)<=140737488355328)))))) x=x:=by
  grind [cE,dT]
 rw [hw,hrq,ck,r7 si,Qz,FG]
 refine dn (fun x:J Bool×Int=>∃i:Nat,x=(iz (s.length+1) (EE p s i),(i:Int))/\i<=p.length) (fun x=>p.length-x.2.toNat) ?_ F _ ⟨0,congrArg (fun y=>(y,(0:Int))) (kI fun j _=>by
   show cond (j==0) true false=(j==0);cases (j==0)<;>rfl),om⟩ bH
 rintro x ⟨i,rfl,hi⟩;dsimp only;by_cases hi:i<p.length
 ·left
  refine⟨(iz (s.length+1) (EE p s (i+1)),((i+1:Nat):Int)),⟨i+1,rfl,om⟩,bH,fun rc=>?_⟩;rw [cM om,hrq];refine dn (fun x:Int×J Bool=>∃k:Nat,x=((k:Int),iz (s.length+1) (fun j=>decide (j<k)&&EE p s (i+1) j))/\k<=s.length+1) (fun x=>s.length+1-x.1.toNat) ?_ F _ ⟨0,congrArg (Prod.mk (0:Int)) (kI fun j _=>by simp),om⟩ bH;rintro x ⟨k,rfl,hk⟩;dsimp only;by_cases hk:k<=s.length
  ·left
   refine⟨_,⟨k+1,rfl,om⟩,bH,fun bn=>?_⟩;have hki:(RW p i)=p[i]:=by unfold RW;rw [gd hi]
   have hst:(p[i].fKind==3)=lV p i:=by unfold lV;rw [hki]
   have lY:∀b,b=EE p s (i+1) k->(iz (s.length+1) (fun j=>decide (j<k)&&EE p s (i+1) j)).set k b=iz (s.length+1) (fun j=>decide (j<k+1)&&EE p s (i+1) j):=by
    rintro b rfl;rw [FG]
    grind
   rw [cM om,cj hi,ck,gd (l:=p) hi,hst,cG om]
   cases hs3:lV p i with
   | true=>
    rw [bw,bQ om (by rw [hlen];omega),ck,vK _ om]
    have hres:∀b,b=EE p s (i+1) k->((some ((k:Int),b,iz (s.length+1) (fun j=>decide (j<k)&&EE p s (i+1) j)):O (Int×Bool×(J Bool))).bind fun x5=>
      rq ((decide (0<=x5.1))&&(decide (x5.1<(x5.2.2.length:Int)))) (bn (((k+1:Nat):Int),x5.2.2.set (Int.toNat x5.1) x5.2.1)))=bn (((k+1:Nat):Int),iz (s.length+1) (fun j=>decide (j<k+1)&&EE p s (i+1) j)):=by
     grind [bQ,Int.toNat_natCast]
    cases he:EE p s i k with
    | true=>simp_all [adW]
    | false=>
     rw [aU]
     cases k with
     | zero=>
      simp_all [cf,Kk]
     | succ k=>
      rw [cM om,wM om om,bQ om (by rw [hlen];omega),ck,vK _ om]
      simp_all [OC,Nat.add_sub_cancel,dT]
   | false=>
    rw [aU]
    cases k with
    | zero=>
     rw [cf om,bQ om (by rw [hlen];omega),ck,lY false (by rw [YG p s hs3])]
    | succ k=>
     rw [cM om,wM om om,bQ om (by rw [hlen];omega),ck,Nat.add_sub_cancel,vK _ om]
     cases he:EE p s i k with
     | false=>rw [aU,bQ om (by rw [hlen];omega),ck,lY false (by simp_all [Ut])]
     | true=>
      rw [bw,cj hi,cj (show k<s.length by omega),ck,ah1 F p[i] _ om (hit _ (ko hi)),aH,bQ om (by rw [hlen];omega),lY _ (by rw [Ut p s hs3,he];unfold MM;rw [hki];rfl)]
  ·right
   obtain rfl:k=s.length+1:=om;intro bn;rw [cf om,cG om,kI (g:=EE p s (i+1)) fun j hj=>by simp_all]
 grind
theorem af9(F:Nat)(p:J aF)(n:Bs)(hF:p.length+300<F)(qP:n.length+1<F)(hn:n.length<50000000)(hp:p.length<50000000)(hit:∀it∈p,mB it){v:Bool}(hv:lU F p=some v):
  Ca F p n=some (v&&EE p n p.length n.length):=by
 unfold Ca;rw [<-Hj F p hF hp hit,hv,aH,acg F p n hF qP hn hp hit]
 cases v with
 | false=>rfl
 | true=>
  rw [aH,bQ om (by rw [Bz];omega),vK _ om];rfl
theorem Names.left{a b:J Bs}(h:Names (a++b)):Names a:=fun c hc=>h c (by simp [hc])
theorem Uv{n:J Bs}(h:Names n):pathOf n=[47]↔n=[]:=by
 have:=aa2 h;rw [sE] at this;simpa using this
structure VT(l:List bt):Prop where
 len:l.length<=128
 root:∃f∈l,f.bR=[47]
 path:∀f∈l,Ef f.bR=true
 dir:∀f∈l,f.nM=true->f.fData=[]
 amc:∀f∈l,f.bR=[47]->f.nM=true
 data:∀f∈l,f.fData.length<=8192
 asc:Px l
 par:∀f∈l,f.bR≠[47]->∃p∈l,p.bR=p7 f.bR/\p.nM=true
theorem VT.up{l:J bt}(h:VT l):∀(r:J Bs)(m:J Bs)(c:Bs),Names (m++c::r)->(∃f∈l,f.bR=pathOf (m++c::r))->∃f∈l,f.bR=pathOf (m++[c]):=by
 intro r
 induction hn:r.length generalizing r with
 | zero=>
  intro m c _ hf;obtain rfl:r=[]:=Db hn
  exact hf
 | succ k ih=>
  intro m c hN ⟨f,hf,e⟩;have hr:r≠[]:=by intro e;subst e;simp at hn
  have hne:f.bR≠[47]:=by
   rw [e];intro e';have:=(Uv hN).1 e';simp at this
  obtain⟨p,hp,e1,-⟩:=h.par f hf hne;rw [e,Yo hN] at e1
  have e2:(m++c::r).dropLast=m++c::r.dropLast:=by
   rw [List.dropLast_append_of_ne_nil si,List.dropLast_cons_of_ne_nil hr]
  rw [e2] at e1;exact ih r.dropLast (by simp [hn]) m c (by rw [<-e2];exact hN.dropLast) ⟨p,hp,e1⟩
def GI(n:Nat)(o:J (J aG)×J aG):Prop:=(∀c∈o.1,(∀r∈c,r.fText.length=1)/\c.length<=n)/\(∀r∈o.2,r.fText.length=1)/\o.2.length<=n
theorem GI.up{n m:Nat}{o:J (J aG)×J aG}(h:GI n o)(hm:n<=m):GI m o:=⟨fun c hc=>⟨(h.1 c hc).1,by have:=(h.1 c hc).2;omega⟩,h.2.1,by have:=h.2.2;omega⟩
theorem YI(cl:Int):∀(t:Bs)(n:Nat)(o:J (J aG)×J aG),GI n o->GI (n+t.length) (t.foldl (mc cl) o)
 | [],n,o,h=>h
 | b::t,n,o,h=>by
  have h2:GI (n+1) (mc cl o b):=by
   obtain⟨h1,h2,h3⟩:=h;unfold mc;cases (b==47)
   ·refine⟨fun c hc=>⟨(h1 c hc).1,by have:=(h1 c hc).2;omega⟩,fun r hr=>?_,bH⟩
    rcases wH.1 hr with hr|hr
    ·exact h2 r hr
    ·obtain rfl:=J2.1 hr;rfl
   ·refine⟨fun c hc=>?_,fun r hr=>(by cases hr),si⟩
    rcases wH.1 hc with hc|hc
    ·exact⟨(h1 c hc).1,by have:=(h1 c hc).2;omega⟩
    ·obtain rfl:=J2.1 hc;exact⟨h2,om⟩
  have:=YI cl t (n+1) _ h2;rwa [show n+1+t.length=n+(b::t).length by simp;omega] at this
theorem amj:∀(l:J aG)(n:Nat)(o:J (J aG)×J aG),GI n o->GI (n+cC l) (l.foldl y7 o)
 | [],n,o,h=>h
 | r::l,n,o,h=>by
  have h2:GI (n+r.fText.length) (y7 o r):=by
   unfold y7;cases (r.bZ != 0&&(r.bZ != 1&&r.bZ != 2))
   ·exact YI _ _ _ _ h
   ·exact h.up om
  have:=amj l _ _ h2;rwa [show n+r.fText.length+cC l=n+cC (r::l) by simp [cC];omega] at this
theorem amk(l:J aG):∀c∈y9 l,cC c=c.length/\c.length<=cC l:=by
 have h:=amj l 0 ([],[]) ⟨fun c hc=>(by cases hc),fun r hr=>(by cases hr),si⟩;rw [pU] at h;intro c hc;rcases wH.1 hc with hc|hc
 ·exact⟨adP (h.1 c hc).1,(h.1 c hc).2⟩
 ·obtain rfl:=J2.1 hc;exact⟨adP h.2.1,h.2.2⟩
end Go.Proofs.YtlgmlcgjmcmmgaaGreatDoor
