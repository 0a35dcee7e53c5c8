import Derived.Test.YtpgbhdldcmcenaaGreatDoorZ2
import Derived.Test.YtpgbhdldcmcenaaGreatDoorSo
import Derived.Lib.SplitLaws
import Derived.Lib.LastIndexByte
import Derived.Lib.Join
set_option linter.all false
namespace Go.Proofs.YtpgbhdldcmcenaaGreatDoor
open Go.RT
def lZ:Bs->J Bs
 | []=>[[]]
 | b::l=>cond (b==47) ([]::lZ l) (match lZ l with
  | []=>[[b]]
  | p::ps=>(b::p)::ps)
theorem agQ(l:Bs):(lZ l).length<=l.length+1:=by
 induction l with
 | nil=>simp [lZ]
 | cons b l ih=>
  unfold lZ
  grind
theorem XS(l:Bs):∀p∈lZ l,p.length<=l.length:=by
 induction l with
 | nil=>intro p hp;simp [lZ] at hp;subst hp;simp
 | cons b l ih=>
  intro p hp;unfold lZ at hp
  grind
theorem WI:∀(l:Bs)(n:Nat),(∀j,j<n->l.getD j 0≠47)->n<l.length->l.getD n 0=47->lZ l=l.take n::lZ (l.drop (n+1))
 | [],n,_,h,_=>by simp at h
 | b::l,0,_,_,h=>by
  have hb:b=47:=by simpa using h
  subst hb
  simp [lZ]
 | b::l,n+1,h0,h1,h2=>by
  have hb:(b==47)=false:=by
   have:=h0 0 om;simpa using this
  have ih:=WI l n (fun j hj=>by
   grind) (by simpa using h1) (by simpa using h2)
  rw [lZ,hb,ih];simp
theorem SW:∀(l:Bs),(∀j,j<l.length->l.getD j 0≠47)->lZ l=[l]
 | [],_=>rfl
 | b::l,h0=>by
  have hb:(b==47)=false:=by
   have:=h0 0 si;simpa using this
  have ih:=SW l (fun j hj=>by
   have:=h0 (j+1) (by simpa using hj);simpa using this)
  unfold lZ;rw [hb,aK,ih]
variable{α:Type}
theorem alS(l:J α)(f k:Nat):sl l (f:Int) (k:Int)=(l.take k).drop f:=by simp [sl]
theorem ac9(l:J α)(f:Nat):sl l (f:Int) (l.length:Int)=l.drop f:=by simp [sl]
theorem anz(l:J α):sl l 1 (l.length:Int)=l.drop 1:=ac9 l 1
theorem Vi(l:J α)(k:Nat):sl l 0 (k:Int)=l.take k:=by simp [sl]
theorem agR(F:Nat)(s:Bs)(hF:s.length<F)(hs:s.length<1000000000):Ja F s=some (lZ s):=by
 refine cN (fun x=>∃f k:Nat,x.2.1=(f:Int)/\x.2.2=(k:Int)/\f<=k/\k<=s.length/\x.1.length<=f/\x.1++lZ (s.drop f)=lZ s/\∀j,f<=j->j<k->s.getD j 0≠47) (fun x=>s.length-x.2.2.toNat) ?_ F _ ⟨0,0,rfl,rfl,om,om,si,si,fun j _ hj=>om⟩ (by simpa using hF);rintro⟨o,fr,ii⟩ ⟨f,k,h0,h0',h1,h2,h3,h4,h5⟩;dsimp only at h0 h0' h3 h4 h5⊢;subst h0 h0';by_cases hk:k<s.length
 ·left
  have hg:s.getD k 0=s[k]:=gd hk
  cases hb:(s[k]==47) with
  | true=>
   refine⟨(o++[sl s (f:Int) (k:Int)],((k+1:Nat):Int),((k+1:Nat):Int)),⟨k+1,k+1,rfl,rfl,om,om,bz,?_,fun j h h'=>om⟩,bz,fun rc=>?_⟩
   ·have hc:=WI (s.drop f) (k-f) (fun j hj=>by
     have:=h5 (f+j) om om
     simp_all)
    grind [List.drop_drop,alS,List.take_drop]
   ·rw [cz om,b9 om om,bZ,hg,pn _ 47 om,hb,aZ,xS om om om,b9 bz bz,cw om]
  | false=>
   refine⟨(o,(f:Int),((k+1:Nat):Int)),⟨f,k+1,rfl,rfl,om,om,h3,h4,fun j h h'=>?_⟩,bz,fun rc=>?_⟩
   ·grind
   ·rw [cz om,b9 om om,bZ,hg,pn _ 47 om,hb,aK,cw om]
 ·right
  obtain rfl:k=s.length:=om;intro rc;rw [cf om,xS om om om,b9 bz bz,<-h4,ac9,SW]
  simp_all
def anA(b:UInt8):Bool:=b==47||b==0
def xg(s:Bs):Bool:=(decide (1<=s.length)&&decide (s.length<=32))&&(!(s==[46])&&(!(s==[46,46]) && !(s.any anA)))
theorem aiY(F:Nat)(s:Bs)(hF:s.length<F)(hs:s.length<1000000000000):E3 F s=some (xg s):=by
 unfold E3 wx;rw [qV s (fun i=>(i:Int)) anA (fun _ _=>some false) (some true) hF (by rfl) (fun i h rc=>?_) (fun rc=>?_),Gm]
 ·simp [aH]
  have e1:(decide ((s.length:Int)<1)||decide (32<(s.length:Int)))=!(decide (1<=s.length)&&decide (s.length<=32)):=by
   grind
  unfold xg
  grind
 ·rw [cz om,b9 om om,b9 om om,bZ,gd h,pn _ 47 om,pn _ 0 om,aH,cw om]
  rfl
 ·rw [cf om]
def E4(s:Bs):Bool:=s==[47]||((decide (2<=s.length)&&decide (s.length<=128))&&(s.getD 0 0==47&&(lZ (s.drop 1)).all xg))
theorem agS(p:J Bs):cond (p.any fun n=>!xg n) (some false) (some true)=some (p.all xg):=by
 grind
theorem Zp(F:Nat)(s:Bs)(hF:200<=F):vN F s=some (E4 s):=by
 unfold vN E4 wx
 cases h1:(s==[47]) with
 | true=>rfl
 | false=>
  simp only [aK,aH,aC,cT];by_cases h2:2<=s.length/\s.length<=128
  ·rw [dF om,dF om,Bool.or_self,aK,oY om,aC,Zc _ 47 om,dT h2.1,dT h2.2]
   cases h3:(s.getD 0 0==47) with
   | false=>rfl
   | true=>
    rw [je,b9 om om,anz,agR F _ bz bz,aC];have hl:=agQ (s.drop 1);have hm:=XS (s.drop 1);simp only [KJ] at hl hm;rw [qV (lZ (s.drop 1)) (fun i=>(i:Int)) (fun n=>!xg n) (fun _ _=>some false) (some true) om (by rfl) (fun i h rc=>?_) (fun rc=>?_),Gm,agS]
    ·rfl
    ·have:=hm _ (gU h)
     rw [cz om,b9 om om,bZ,gd h,aiY F _ om om,aC,cw om]
    ·rw [cf om]
  grind
def u9(s:Bs):Nat:=(Lib.lastIndexByte ⟨⟨s⟩⟩ 47).toNat
def qN(s:Bs):Bs:=cond (u9 s==0) [47] (s.take (u9 s))
theorem b47(b:UInt8):((b.toNat:Int)=47)↔b=47:=by
 have:=pn b 47 om;rw [tJ] at this;simpa using this
theorem Zq(s:Bs):(Lib.lastIndexByte ⟨⟨s⟩⟩ 47=-1/\∀j,j<s.length->s.getD j 0≠47) \/
  ∃i:Nat,i<s.length/\Lib.lastIndexByte ⟨⟨s⟩⟩ 47=i/\s.getD i 0=47/\∀j,i<j->j<s.length->s.getD j 0≠47:=by
 have h:=Lib.lastIdx_spec ⟨⟨s⟩⟩ 47 s.length;simp [b47] at h;exact h
theorem SY(s:Bs)(a:Nat)(h1:(a<s.length/\s.getD a 0=47)\/a=0)(h2:∀j,a<j->j<s.length->s.getD j 0≠47):u9 s=a:=by
 unfold u9
 grind [Zq,Nat.lt_trichotomy]
theorem aiZ(s:Bs):((u9 s<s.length/\s.getD (u9 s) 0=47)\/u9 s=0)/\∀j,u9 s<j->j<s.length->s.getD j 0≠47:=by
 unfold u9
 grind [Zq]
theorem anB(s:Bs):u9 s<=s.length:=by
 grind [aiZ]
theorem alT(F:Nat)(s:Bs)(hF:s.length<F)(hs:s.length<1000000000):Nu F s=some (u9 s:Int):=by
 refine cN (fun x=>∃a k:Nat,x.1=(a:Int)/\x.2=(k:Int)/\k<=s.length/\((a<k/\s.getD a 0=47)\/a=0)/\∀j,a<j->j<k->s.getD j 0≠47) (fun x=>s.length-x.2.toNat) ?_ F _ ⟨0,0,rfl,rfl,om,.inr rfl,fun j _ hj=>om⟩ (by simpa using hF);rintro⟨aa,ii⟩ ⟨a,k,h0,h0',h1,h2,h3⟩;subst h0 h0';by_cases hk:k<s.length
 ·left
  have hg:s.getD k 0=s[k]:=gd hk
  cases hb:(s[k]==47) with
  | true=>
   refine⟨((k:Int),((k+1:Nat):Int)),⟨k,k+1,rfl,rfl,om,.inl ⟨om,by simp_all⟩,fun j h h'=>om⟩,bz,fun rc=>?_⟩
   rw [cz om,b9 om om,bZ,hg,pn _ 47 om,hb,aZ,cw om]
  | false=>
   refine⟨((a:Int),((k+1:Nat):Int)),⟨a,k+1,rfl,rfl,om,?_,fun j h h'=>?_⟩,bz,fun rc=>?_⟩
   ·grind
   ·grind
   ·rw [cz om,b9 om om,bZ,hg,pn _ 47 om,hb,aK,cw om]
 ·right
  obtain rfl:k=s.length:=om;intro rc;rw [cf om,SY s a h2 h3]
theorem aeG(F:Nat)(s:Bs)(hF:s.length<F)(hs:s.length<1000000000):Ax F s=some (qN s):=by
 unfold Ax qN wx;rw [alT F s hF hs,aC];have:=anB s;by_cases h:u9 s=0
 ·rw [h];rfl
 ·have e1:((u9 s:Int)==0)=false:=by simpa using h
  have e2:(u9 s==0)=false:=by simpa using h
  rw [e1,e2,aK,aK,b9 om om,Vi]
def Nv(p:Bs)(f:bE):Bool:=f.cg==p
def KS(l:J bE)(p:Bs):O bE:=l.find? (Nv p)
def RI(l:J bE)(p:Bs):Bool:=l.any (Nv p)
def fiS(l:J bE)(p:Bs):Int:=(l.findIdx? (Nv p)).elim (-1) fun j=>(j:Int)
theorem ai0(F:Nat)(l:J bE)(p:Bs)(hF:l.length<F)(hl:l.length<1000000000):E5 F l p=some (fiS l p):=by
 unfold E5 fiS wx;rw [qV l (fun i=>(i:Int)) (Nv p) (fun i _=>some (i:Int)) (some (-1)) hF (by rfl) (fun i h rc=>?_) (fun rc=>?_),RL _ _ _ bW]
 ·cases l.findIdx? (Nv p)<;>simp
 ·rw [cz om,b9 om om,bZ,gd h,cw om]
  rfl
 ·rw [cf om]
theorem agT(l:J bE)(p:Bs):(l.findIdx? (Nv p)=none/\KS l p=none/\RI l p=false)\/∃j,j<l.length/\l.findIdx? (Nv p)=some j/\KS l p=some (l.getD j bW)/\RI l p=true:=by
 unfold KS RI
 induction l with
 | nil=>simp_all
 | cons f l ih=>
  grind
theorem ai1(l:J bE)(p:Bs):(fiS l p=-1/\KS l p=none/\RI l p=false)\/∃j:Nat,j<l.length/\fiS l p=(j:Int)/\KS l p=some (l.getD j bW)/\RI l p=true:=by
 unfold fiS
 grind [agT]
def SZ(a p:Bs):Bool:=cond (a==[47]) (!(p==[47])) (decide (a.length+1<=p.length)&&p.take (a.length+1)==a++[47])
theorem agU(F:Nat)(a p:Bs):CS F a p=some (SZ a p):=by
 unfold CS SZ wx;cases (a==[47])
 ·by_cases h:a.length+1<=p.length
  ·have hl:a.length<p.length:=om
   rw [cz om,b9 om om,Vi,aC,dT h]
   have e:(p.take (a.length+1)==a++[47])=(p.take a.length==a&&p.getD a.length 0==47):=by
    rw [lB hl]
    grind [List.append_inj]
   rw [e];cases (p.take a.length==a)
   ·rfl
   ·rw [b9 om om,pn _ 47 om]
    rfl
  grind
 ·rfl
def Px(l:J bE)(p:Bs):Int:=cond (l.any fun f=>!f.oJ&&SZ f.cg p) 18 (cond (RI l (qN p)) 0 8)
theorem ai2(F:Nat)(l:J bE)(p:Bs)(hF:l.length<F)(hl:l.length<1000000000)(hp:p.length<1000000000)(hpF:p.length<F):Ay F l p=some (Px l p):=by
 unfold Ay wx;rw [qV l (fun i=>(i:Int)) (fun f=>!f.oJ&&SZ f.cg p) (fun _ _=>some 18) (some (cond (RI l (qN p)) 0 8)) hF (by rfl) (fun i h rc=>?_) (fun rc=>?_),Gm,aH]
 ·rfl
 ·rw [b9 om om,b9 om om,bZ,agU F _ _,cw om]
  grind
 ·rw [cf om,aeG F p hpF hp,aC,ai0 F l _ hF hl]
  rcases ai1 l (qN p) with⟨h1,h2,h3⟩|⟨j,h0,h1,h2,h3⟩
  ·rw [h1,h3];rfl
  grind
def Ma(l:J bE)(k:Nat):Int:=
 cond (!E4 (l.getD k bW).cg) 10
 (cond (((l.getD k bW).oJ && !((l.getD k bW).fData==[]))||((l.getD k bW).cg==[47] && !(l.getD k bW).oJ)) 1
 (cond (decide (8192<(l.getD k bW).fData.length)) 3
 (cond (decide (0<k)&&(Op.bytesLess (l.getD k bW).cg (l.getD (k-1) bW).cg||(l.getD k bW).cg==(l.getD (k-1) bW).cg)) 25
 (cond (decide (0<k)) (Px (l.take k) (l.getD k bW).cg) 0))))
def WJ(l:J bE):Nat->Nat->Int
 | 0,_=>0
 | n+1,k=>cond (Ma l k==0) (WJ l n (k+1)) (Ma l k)
def gW(l:J bE):Int:=cond (decide (128<l.length)) 4 (cond (l.length==0 || !((l.getD 0 bW).cg==[47])) 8 (WJ l l.length 0))
def Nw(l:J bE):Prop:=l.length<=140/\∀f∈l,f.cg.length<=300/\f.fData.length<=9000
theorem Nw.at{l:J bE}(h:Nw l)(k:Nat):(l.getD k bW).cg.length<=300/\(l.getD k bW).fData.length<=9000:=by
 by_cases hk:k<l.length
 ·rw [gd hk];exact h.2 _ (gU hk)
 ·have:l.getD k bW=bW:=by simp_all
  rw [this];exact⟨by decide,by decide⟩
theorem apq(l:J bE):(cond ((l.length:Int)==0)
 (some true)
 (rq (decide (0<(l.length:Int))) (some (!(((l.getD 0 bW).cg)==([47]:Bs))))):O Bool)=some (l.length==0 || !((l.getD 0 bW).cg==[47])):=by
  cases l with
  | nil=>rfl
  | cons f l=>
   have e1:((((f::l).length:Nat):Int)==0)=false:=by simp;omega
   have e2:((f::l).length==0)=false:=by simp
   rw [e2,oY si];rfl
theorem ai3(l:J bE)(k:Nat)(r:O Int):cond (!E4 (l.getD k bW).cg) (some 10)
 (cond (((l.getD k bW).oJ && !((l.getD k bW).fData==[]))||((l.getD k bW).cg==[47] && !(l.getD k bW).oJ)) (some 1)
 (cond (decide (8192<(l.getD k bW).fData.length)) (some 3)
 (cond (decide (0<k)&&(Op.bytesLess (l.getD k bW).cg (l.getD (k-1) bW).cg||(l.getD k bW).cg==(l.getD (k-1) bW).cg)) (some 25)
 (cond (decide (0<k)) (cond (Px (l.take k) (l.getD k bW).cg != 0) (some (Px (l.take k) (l.getD k bW).cg)) r) r))))=cond (Ma l k==0) r (some (Ma l k)):=by
 unfold Ma
 grind
theorem apr{l:J bE}{body:(Int->O Int)->Int->O Int}(F:Nat)(hF:l.length<F)(hs:∀(k:Nat) rc,k<l.length->body rc (k:Int)=cond (Ma l k==0) (rc ((k+1:Nat):Int)) (some (Ma l k)))(he:∀rc,body rc (l.length:Int)=some 0):b8 body F 0=some (WJ l l.length 0):=by
 refine cN (fun x=>∃k n:Nat,x=(k:Int)/\k+n=l.length/\WJ l n k=WJ l l.length 0) (fun x=>l.length-x.toNat) ?_ F _ ⟨0,l.length,rfl,om,rfl⟩ (by simpa using hF);rintro x ⟨k,n,rfl,h1,h2⟩
 cases n with
 | zero=>
  right;obtain rfl:k=l.length:=om;intro rc
  rw [he,<-h2];rfl
 | succ n=>
  rw [WJ] at h2
  cases hv:(Ma l k==0) with
  | true=>
   left;rw [hv] at h2
   exact⟨_,⟨k+1,n,rfl,om,h2⟩,bz,fun rc=>by grind⟩
  | false=>
   grind
theorem anC(l:J bE)(k:Nat)(hk:k<l.length)(hl:l.length<1000000000):(cond (decide (0<(k:Int)))
 (rq ((decide (0<=aB ((k:Int)-1)))&&(decide (aB ((k:Int)-1)<(l.length:Int)))) (some (Op.bytesLess ((l.getD k bW).cg) ((l.getD (Int.toNat (aB ((k:Int)-1))) bW).cg)||((l.getD k bW).cg)==((l.getD (Int.toNat (aB ((k:Int)-1))) bW).cg))))
 (some false):O Bool)=some (decide (0<k)&&(Op.bytesLess (l.getD k bW).cg (l.getD (k-1) bW).cg||(l.getD k bW).cg==(l.getD (k-1) bW).cg)):=by
  by_cases h0:0<k
  ·rw [cz om,zC om h0,b9 om om,bZ,dT h0,I4]
  simp_all
theorem aqH(k:Nat):decide (0<(k:Int))=decide (0<k):=by
 simp_all
theorem anD(n k:Nat):decide ((k:Int)<(n:Int))=decide (k<n):=by
 simp_all
theorem WK(F:Nat)(l:J bE)(hF:400<=F)(h:Nw l):yB F l=some (gW l):=by
 have hl:=h.1;unfold yB gW wx;rw [show decide (128<(l.length:Int))=decide (128<l.length) from anD _ 128,apq]
 cases decide (128<l.length) with
 | true=>rfl
 | false=>
  cases (l.length==0 || !((l.getD 0 bW).cg==[47])) with
  | true=>rfl
  | false=>
   refine apr F om (fun k rc hk=>?_) (fun rc=>?_)
   ·rw [cz om,b9 om om,bZ,Zp F _ om,anC l k hk om]
    simp only [aH,cF,aC,cT];rw [show decide (8192<(((l.getD k bW).fData.length:Nat):Int))=decide (8192<(l.getD k bW).fData.length) from anD _ 8192,aqH,b9 om om,Vi];have:=(h.at k).1;rw [ai2 F (l.take k) _ bz bz om om,aC,cw om,<-ai3]
   ·rw [cf om]
theorem Zr(F:Nat)(l:J bE)(hF:200<=F):∃b,(b=true->Nw l)/\CU F l=some b:=by
 refine E6 (fun b=>b=true->Nw l) (fun x=>∃n k:Nat,x.1=(n:Int)/\x.2=(k:Int)/\k<=l.length/\k<=140/\n<=10000*k/\∀f∈l.take k,f.cg.length<=300/\f.fData.length<=9000) (fun x=>140-x.2.toNat) ?_ F _ ⟨0,0,rfl,rfl,om,om,om,si⟩ bz;rintro⟨nn,ii⟩ ⟨n,k,h0,h0',h1,h2,h3,h4⟩;subst h0 h0';simp only [aH,cF,aC];by_cases hc:k<l.length/\k<140/\n<40000
 ·have hk:=hc.1
  have e:((decide ((k:Int)<(l.length:Int))&&decide ((k:Int)<140))&&decide ((n:Int)<40000))=true:=by
   grind
  rw [e];simp only [bZ,gd hk];by_cases hb:l[k].cg.length<=300/\l[k].fData.length<=9000
  ·left
   refine⟨(((n+l[k].cg.length+l[k].fData.length:Nat):Int),((k+1:Nat):Int)),⟨_,k+1,rfl,rfl,om,om,om,fun f hf=>?_⟩,bz,fun rc=>?_⟩
   ·grind [List.take_succ_eq_append_getElem,List.mem_singleton]
   ·grind [bN,b9]
  ·right
   refine⟨false,fun h=>(by cases h),fun rc=>?_⟩;rw [b9 om om];by_cases hp:l[k].cg.length<=300
   ·rw [cf om,b9 om om,dT om];rfl
   grind
 ·have e:((decide ((k:Int)<(l.length:Int))&&decide ((k:Int)<140))&&decide ((n:Int)<40000))=false:=by
   grind
  right;rw [e];refine⟨_,fun h=>?_,fun rc=>rfl⟩;simp at h;refine⟨om,fun f hf=>h4 f ?_⟩
  grind
set_option maxRecDepth 100000
theorem w1:CV 60 [47,97,47,98] [46,46,47,99,47,46,47,100,47]=some ([47,97,47,99,47,100],0):=by kernel_rfl
theorem w2:CV 60 [47] [46,46]=some ([47],0):=by kernel_rfl
def Az:J Bs->Bs
 | []=>[]
 | [x]=>x
 | x::y::l=>x++47::Az (y::l)
variable{l:J Bs}
theorem aeH(x:Bs)(h:l≠[]):Az (x::l)=x++47::Az l:=by
 cases l with
 | nil=>exact absurd rfl h
 | cons y l=>rfl
theorem S0:∀(l:J Bs)(c:Bs),l≠[]->Az (l++[c])=Az l++47::c
 | [],c,h=>absurd rfl h
 | [x],c,_=>rfl
 | x::y::l,c,_=>by
  have ih:=S0 (y::l) c si;rw [zw,aeH x si,ih,Az];simp
def anE(c:Bs):Prop:=∀b∈c,b≠47
variable{c:Bs}
theorem agV(h:xg c=true):anE c:=by
 intro b hb e;unfold xg at h;simp only [cE,Gd] at h;have:=List.any_eq_false.1 h.2.2.2 b hb;subst e;exact this rfl
theorem KT(h:xg c=true):1<=c.length/\c.length<=32:=by
 unfold xg at h;simp only [cE,fL] at h;exact h.1
def pathOf(l:J Bs):Bs:=[47]++Az l
def Names(l:J Bs):Prop:=∀c∈l,xg c=true
theorem Names.dropLast(h:Names l):Names l.dropLast:=fun c hc=>h c (List.dropLast_subset l hc)
theorem alU(h:Names l)(hl:l≠[]):Az l≠[]:=by
 match l,hl with
 | [x],_=>
  have:=KT (h x si)
  intro e;rw [Az] at e;rw [e] at this;simp at this
 | x::y::l,_=>intro e;rw [Az] at e;simp at e
theorem ab0(h:Names l):(pathOf l==[47])=(l==[]):=by
 cases l with
 | nil=>rfl
 | cons x l=>
  have:=alU h si;rw [show ((x::l)==[])=false from rfl];simp only [pathOf,zw,o9,gK,ne_eq,List.cons.injEq,vr];exact this
theorem S1(a c:Bs)(hc:anE c):u9 (a++47::c)=a.length:=by
 refine SY _ _ (.inl ⟨si,by simp [List.getD]⟩) fun j hj hl=>?_
 have e:(a++47::c).getD j 0=c.getD (j-a.length-1) 0:=by
  rw [List.getD,I7 om,show j-a.length=(j-a.length-1)+1 by omega,List.getElem?_cons_succ];rfl
 simp at hl;rw [e,gd om];exact hc _ (gU _)
theorem ab1(h:Names l)(hc:xg c=true):qN (pathOf (l++[c]))=pathOf l:=by
 have h47:=agV hc
 cases l with
 | nil=>
  have:u9 (pathOf ([]++[c]))=0:=S1 [] c h47;unfold qN;rw [this]
  rfl
 | cons x l=>
  have e:pathOf ((x::l)++[c])=pathOf (x::l)++47::c:=by
   rw [pathOf,S0 _ _ si,pathOf];simp
  have:u9 (pathOf ((x::l)++[c]))=(pathOf (x::l)).length:=by rw [e];exact S1 _ c h47
  unfold qN;rw [this];have h0:((pathOf (x::l)).length==0)=false:=by simp [pathOf]
  rw [h0,aK,e];simp
theorem Zs(h:Names l):qN (pathOf l)=pathOf l.dropLast:=by
 rcases aec l with rfl|⟨l',c,rfl⟩
 ·rfl
 ·rw [aed] at h⊢
  have hc:xg c=true:=h c si;have hl:Names l':=fun x hx=>h x (by simp [hx]);rw [ab1 hl hc];simp
def QI(l:J bE):Prop:=l.Pairwise fun x y=>x.cg<y.cg
structure VL(l:List bE):Prop where
 len:l.length<=128
 pos:0<l.length
 root:(l.getD 0 bW).cg=[47]
 path:∀f∈l,E4 f.cg=true
 dir:∀f∈l,f.oJ=true->f.fData=[]
 anF:∀f∈l,f.cg=[47]->f.oJ=true
 data:∀f∈l,f.fData.length<=8192
 asc:QI l
 aqI:∀k,0<k->k<l.length->Px (l.take k) (l.getD k bW).cg=0
theorem Zt(l:J bE):∀(n k:Nat),WJ l n k=0↔∀j,k<=j->j<k+n->Ma l j=0
 | 0,k=>⟨fun _ j h h'=>om,fun _=>rfl⟩
 | n+1,k=>by
  rw [WJ]
  cases h:(Ma l k==0) with
  | true=>
   rw [aZ,Zt l n (k+1)];constructor
   ·intro h1 j h2 h3
    by_cases e:j=k
    ·subst e;simpa using h
    ·exact h1 j om om
   ·intro h1 j h2 h3
    exact h1 j om om
  | false=>
   rw [aK];constructor
   ·intro h1;rw [h1] at h;cases h
   ·intro h1
    have:=h1 k om om;rw [this] at h;cases h
theorem S2:∀ {l:J bE},(∀k,0<k->k<l.length->(l.getD (k-1) bW).cg<(l.getD k bW).cg)->QI l
 | [],_=>List.Pairwise.nil
 | [x],_=>aee _ _
 | x::y::l,h=>by
  have ih:QI (y::l):=S2 fun k h1 h2=>by
   have:=h (k+1) om (by simpa using h2);rw [show k+1-1=(k-1)+1 by omega] at this;simpa using this
  have hxy:x.cg<y.cg:=by
   have:=h 1 om si;simpa using this
  refine yh.2 ⟨fun z hz=>?_,ih⟩;rcases iE.1 hz with rfl|hz
  ·exact hxy
  ·exact qX hxy ((yh.1 ih).1 z hz)
theorem alV{l:J bE}(h:QI l)(i j:Nat)(hij:i<j)(hj:j<l.length):(l.getD i bW).cg<(l.getD j bW).cg:=by
 rw [gd (show i<l.length by omega),gd hj];exact ad8.1 h i j om hj hij
theorem ai4(l:J bE)(k:Nat):Ma l k=0↔E4 (l.getD k bW).cg=true/\((l.getD k bW).oJ=true->(l.getD k bW).fData=[])/\((l.getD k bW).cg=[47]->(l.getD k bW).oJ=true) /\
  (l.getD k bW).fData.length<=8192/\(0<k->(l.getD (k-1) bW).cg<(l.getD k bW).cg)/\(0<k->Px (l.take k) (l.getD k bW).cg=0):=by
 unfold Ma;generalize l.getD k bW=f;generalize l.getD (k-1) bW=g
 cases h1:E4 f.cg with
 | false=>simp
 | true=>
  cases h2:((f.oJ && !(f.fData==[]))||(f.cg==[47] && !f.oJ)) with
  | true=>
   grind
  | false=>
   have h3:f.oJ=true->f.fData=[]:=fun h=>by
    simp_all
   have h4:f.cg=[47]->f.oJ=true:=fun h=>by
    simp_all
   by_cases h5:8192<f.fData.length
   ·grind
   ·rw [cf h5]
    by_cases h6:0<k
    ·rw [<-aps g.cg f.cg]
     cases h7:Op.bytesLess g.cg f.cg with
     | true=>
      simp_all [KU,je,aK]
     | false=>
      have:=(Dm _ _).1 h7
      grind
    simp_all
theorem agW(l:J bE):gW l=0↔VL l:=by
 unfold gW;by_cases h1:128<l.length
 ·rw [cz h1]
  exact⟨fun h=>(by cases h),fun h=>by have:=h.len;omega⟩
 ·rw [cf h1]
  cases h2:(l.length==0 || !((l.getD 0 bW).cg==[47])) with
  | true=>
   refine⟨fun h=>(by cases h),fun h=>?_⟩;have a:=h.pos;have b:=h.root
   simp_all
  | false=>
   rw [aK];simp only [aef,gK,Bool.not_eq_false',uW] at h2;rw [Zt];simp only [ai4];constructor
   ·intro h
    have hm:∀f∈l,∃k,k<l.length/\l.getD k bW=f:=fun f hf=>by
     grind [List.getElem_of_mem,gd]
    refine⟨om,om,h2.2,?_,?_,?_,?_,S2 fun k h3 h4=>(h k om om).2.2.2.2.1 h3,fun k h3 h4=>(h k om om).2.2.2.2.2 h3⟩
    ·grind
    ·grind
    ·grind
    grind
   ·intro h j hj hj'
    have hj':j<l.length:=om;have hm:l.getD j bW∈l:=by simp_all
    exact⟨h.path _ hm,h.dir _ hm,h.anF _ hm,h.data _ hm,fun h0=>alV h.asc (j-1) j om hj',fun h0=>h.aqI j h0 hj'⟩
def qY(s:Bs):Bs:=s.drop (u9 s+1)
def aqJ(p:Bs)(f:bE):Bool:=!(f.cg==[47])&&qN f.cg==p
def apt(l:J bE)(p:Bs):J Bs:=(l.filter (aqJ p)).map fun f=>qY f.cg
end Go.Proofs.YtpgbhdldcmcenaaGreatDoor

namespace Go.Proofs.YtpgbhdldcmcenaaGreatDoor
open Go.RT
theorem RM(s:Bs):cu (cU s)=s:=by
 unfold cu cU;rw [Ah];have:((fun n=>UInt8.ofNat n.toNat) ∘ fun b=>(b.toNat:Int))=id:=by funext b;simp
 rw [this,U1]
def Nx(c:Int):Bool:=c != 0&&(c != 1&&c != 2)
def Ny(r:aD):J fP:=cond (Nx r.aN) [] (r.fText.map fun b=>fP.mk (b.toNat:Int) (r.aN != 1))
def sE(r:aD):J fB:=cond (Nx r.aN) [] (r.fText.map fun b=>fB.mk (b.toNat:Int) (r.aN != 1))
theorem ada(r:aD):(Ny r).length<=r.fText.length:=by unfold Ny;grind
theorem Vj(r:aD):(sE r).length<=r.fText.length:=by unfold sE;grind
theorem JW{α:Type}(f:aD->J α)(hf:∀r,(f r).length<=r.fText.length):∀l:J aD,(l.flatMap f).length<=ck l
 | []=>by simp
 | r::l=>by
  have:=JW f hf l;have:=hf r;simp [yl,ck] at *;omega
theorem Vk{l:J aD}{r:aD}(h:r∈l):r.fText.length<=ck l:=by
 induction l with
 | nil=>cases h
 | cons a l ih=>
  rcases iE.1 h with rfl|h
  ·simp [ck]
  ·have:=ih h
   simp [ck] at *;omega
theorem Nz{α:Type}(f:aD->J α)(l:J aD)(k:Nat)(h:k<l.length):(l.take (k+1)).flatMap f=(l.take k).flatMap f++f l[k]:=by
 grind [List.take_succ_eq_append_getElem]
theorem Zu(c:Int):(cond (c != 0) (some (c != 1)) (some false):O Bool)=some (c != 0&&c != 1):=by cases (c != 0)<;>rfl
theorem adb(c:Int):cond (c != 0&&c != 1) (c != 2) false=Nx c:=by unfold Nx;grind
theorem QJ(F:Nat)(l:J aD)(hF:l.length<F)(rU:ck l<F)(h1:l.length<1000000000)(h2:ck l<=1000000000):Ck F l=some (l.flatMap Ny):=by
 refine cN (fun x=>∃k:Nat,x.2=(k:Int)/\k<=l.length/\x.1=(l.take k).flatMap Ny) (fun x=>l.length-x.2.toNat) ?_ F _ ⟨0,rfl,om,si⟩ bz;rintro⟨acc,ii⟩ ⟨k,h0,hk,ha⟩;subst h0;by_cases hk:k<l.length
 ·left
  have hg:l.getD k di=l[k]:=gd hk;have hal:acc.length<=ck (l.take k):=by grind [JW,ada]
  have hs:=qK l k hk;have hle:=uK l (k+1);refine⟨((l.take (k+1)).flatMap Ny,((k+1:Nat):Int)),⟨k+1,rfl,om,rfl⟩,bz,fun rc=>?_⟩;rw [cz om,bP hk,bP hk,bZ,hg,Zu,aC,cw om,Nz _ _ _ hk,<-ha,bP hk,aH,aC,adb];unfold Ny
  cases hc:Nx l[k].aN with
  | true=>simp_all
  | false=>
   rw [aK,aK];refine cN (fun x=>∃j:Nat,x.2=(j:Int)/\j<=l[k].fText.length/\x.1=acc++(l[k].fText.take j).map fun b=>fP.mk (b.toNat:Int) (l[k].aN != 1)) (fun x=>l[k].fText.length-x.2.toNat) ?_ F _ ⟨0,rfl,om,si⟩ bz;rintro⟨a2,jj⟩ ⟨j,h0,hj,hb⟩;dsimp only at h0 hb⊢;subst h0;by_cases hj:j<l[k].fText.length
   ·left
    refine⟨(acc++(l[k].fText.take (j+1)).map fun b=>fP.mk (b.toNat:Int) (l[k].aN != 1),((j+1:Nat):Int)),⟨j+1,rfl,om,rfl⟩,bz,fun bA=>?_⟩;have Zv:l[k].fText.getD j 0=l[k].fText[j]:=gd hj;have Gp:a2.length<=acc.length+j:=by rw [hb];simp;omega
    simp only [bP hk];rw [cz om];simp only [bP hj];rw [bZ,Zv,cw om,fu bz om,lB hj,uY,<-uX,<-hb];rfl
   ·right
    obtain rfl:j=l[k].fText.length:=om;intro bA;rw [bP hk,cf om,hb,yf]
 grind
theorem KV(F:Nat)(l:J aD)(hF:l.length<F)(rU:ck l<F)(h1:l.length<1000000000)(h2:ck l<=1000000000):D9 F l=some (l.flatMap sE):=by
 refine cN (fun x=>∃k:Nat,x.2=(k:Int)/\k<=l.length/\x.1=(l.take k).flatMap sE) (fun x=>l.length-x.2.toNat) ?_ F _ ⟨0,rfl,om,si⟩ bz;rintro⟨acc,ii⟩ ⟨k,h0,hk,ha⟩;subst h0;by_cases hk:k<l.length
 ·left
  have hg:l.getD k di=l[k]:=gd hk;have hal:acc.length<=ck (l.take k):=by grind [JW,Vj]
  have hs:=qK l k hk;have hle:=uK l (k+1);refine⟨((l.take (k+1)).flatMap sE,((k+1:Nat):Int)),⟨k+1,rfl,om,rfl⟩,bz,fun rc=>?_⟩;rw [cz om,bP hk,bZ,hg,Zu,aC,cw om,Nz _ _ _ hk,<-ha,aH,adb];unfold sE
  cases hc:Nx l[k].aN with
  | true=>simp_all
  | false=>
   refine cN (fun x=>∃j:Nat,x.2=(j:Int)/\j<=l[k].fText.length/\x.1=acc++(l[k].fText.take j).map fun b=>fB.mk (b.toNat:Int) (l[k].aN != 1)) (fun x=>l[k].fText.length-x.2.toNat) ?_ F _ ⟨0,rfl,om,si⟩ bz;rintro⟨a2,jj⟩ ⟨j,h0,hj,hb⟩;dsimp only at h0 hb⊢;subst h0;by_cases hj:j<l[k].fText.length
   ·left
    refine⟨(acc++(l[k].fText.take (j+1)).map fun b=>fB.mk (b.toNat:Int) (l[k].aN != 1),((j+1:Nat):Int)),⟨j+1,rfl,om,rfl⟩,bz,fun bA=>?_⟩;have Zv:l[k].fText.getD j 0=l[k].fText[j]:=gd hj;have Gp:a2.length<=acc.length+j:=by rw [hb];simp;omega
    rw [cz om];simp only [bP hj];rw [bZ,Zv,cw om,fu bz om,lB hj,uY,<-uX,<-hb];rfl
   grind
 grind
def Dn(x:J fP)(i:Nat)(b:Int):Bool:=decide (i<x.length)&&((x.getD i iY).mA&&(x.getD i iY).fb==b)
theorem ju(F:Nat)(x:J fP)(i:Nat)(b:Int):oK F x (i:Int) b=some (Dn x i b):=by
 unfold oK Dn wx;by_cases h:i<x.length
 ·rw [cz om,bP h,aC,bP h,aH]
  simp_all
 grind
def eD(x:J fB)(i:Nat)(b:Int):Bool:=decide (i<x.length)&&((x.getD i cM).mA&&(x.getD i cM).fb==b)
theorem gX(F:Nat)(x:J fB)(i:Nat)(b:Int):fG F x (i:Int) b=some (eD x i b):=by
 unfold fG eD wx;by_cases h:i<x.length
 ·rw [cz om,bP h,aC]
  congr 1
  grind
 grind
set_option maxRecDepth 100000
theorem iG{σ R:Type}{body:(σ->O R)->σ->O R}(Q:R->Prop)(P:σ->Prop)(m:σ->Nat)
  (hs:∀s,P s->∀rc,(∀s',P s'->m s'<m s->∃r,Q r/\rc s'=some r)->∃r,Q r/\body rc s=some r):∀(F:Nat)(s:σ),P s->m s<F->∃r,Q r/\b8 body F s=some r
 | 0,s,_,h=>by omega
 | F+1,s,hP,h=>hs s hP (b8 body F) fun s' h1 h2=>iG Q P m hs F s' h1 om
def RN(x:J fB):Prop:=∀e∈x,0<=e.fb/\e.fb<=255
theorem Zw(l:J aD):RN (l.flatMap sE):=by
 intro e he;obtain⟨r,-,he⟩:=Pp.1 he;unfold sE at he;cases hc:Nx r.aN<;>rw [hc] at he
 ·obtain⟨b,-,rfl⟩:=rD.1 he
  have:=b.toNat_lt;dsimp only;omega
 ·cases he
variable{x:J fB}{i:Nat}
theorem RN.at(h:RN x)(hi:i<x.length):0<=(x.getD i cM).fb/\(x.getD i cM).fb<=255:=by
 rw [gd hi];exact h _ (gU hi)
def Cl(e:fB):Bool:=e.mA&&(decide (97<=e.fb)&&decide (e.fb<=122))
def jW(x:J fB)(i:Nat):J Int:=((x.drop i).takeWhile Cl).map fun e=>e.fb
def isName(n:Bs):Bool:=n==[97,108,112,104,97]||(n==[100,105,103,105,116]||(n==[97,108,110,117,109]||(n==[117,112,112,101,114]||(n==[108,111,119,101,114]||(n==[115,112,97,99,101]||(n==[98,108,97,110,107]||n==[112,117,110,99,116]))))))
def yC(x:J fB)(i:Nat):Bs×Int×Bool:=
 cond ((eD x i 91&&eD x (i+1) 58)&&((eD x (i+2+(jW x (i+2)).length) 58&&eD x (i+2+(jW x (i+2)).length+1) 93)&&isName (cu (jW x (i+2)))))
  (cu (jW x (i+2)),((i+2+(jW x (i+2)).length+2:Nat):Int),true) ([],0,false)
theorem anG(x:J fB)(i:Nat):(jW x i).length<=x.length-i:=by
 unfold jW
 grind [List.length_map,List.takeWhile_sublist,List.length_drop]
theorem ak8{p:fB->Bool}:∀(l:J fB)(k:Nat)(h:k<(l.takeWhile p).length),∃hk:k<l.length,(l.takeWhile p)[k]=l[k]/\p l[k]=true
 | [],k,h=>by simp at h
 | a::l,k,h=>by
  cases hp:p a with
  | false=>simp [hp] at h
  | true=>
   cases k with
   | zero=>exact⟨si,by simp [hp],by simpa using hp⟩
   | succ k=>
    have h':k<(l.takeWhile p).length:=by simpa [hp] using h
    obtain⟨h1,h2,h3⟩:=ak8 l k h';exact⟨by simpa using h1,by simp [hp,h2],by simpa using h3⟩
theorem agX{p:fB->Bool}:∀(l:J fB)(h:(l.takeWhile p).length<l.length),p l[(l.takeWhile p).length]=false
 | [],h=>by simp at h
 | a::l,h=>by
  cases hp:p a with
  | false=>simp [hp]
  | true=>
   have h':(l.takeWhile p).length<l.length:=by simpa [hp] using h
   have:=agX l h';simpa [hp] using this
theorem agY(x:J fB)(i k:Nat)(h:k<(jW x i).length):i+k<x.length/\(jW x i).getD k 0=(x.getD (i+k) cM).fb/\Cl (x.getD (i+k) cM)=true:=by
 unfold jW at h⊢;rw [lW] at h;obtain⟨h1,h2,h3⟩:=ak8 (x.drop i) k h
 grind
theorem alW(x:J fB)(i:Nat)(h:i+(jW x i).length<x.length):Cl (x.getD (i+(jW x i).length) cM)=false:=by
 unfold jW at h⊢;rw [lW] at h⊢;have:=agX (p:=Cl) (x.drop i) (by grind)
 simp_all
theorem KW(a b:Bool)(x:O Bool)(hb:x=some b):cond a (some a) x=some (a||b):=by subst hb;cases a<;>rfl
theorem RO(F:Nat)(x:J fB)(i:Nat)(hF:x.length+10<F)(hx:x.length<500000000):zb F x (i:Int)=some (yC x i)\/500000000<=i:=by
 by_cases hi:500000000<=i
 ·exact .inr hi
 left;unfold zb yC wx;rw [gX,aC,show aB ((i:Int)+1)=((i+1:Nat):Int) from cw om,gX]
 cases h1:eD x i 91 with
 | false=>rfl
 | true=>
  cases h2:eD x (i+1) 58 with
  | false=>rfl
  | true=>
   have AA:aB ((i:Int)+2)=((i+2:Nat):Int):=by grind [bN]
   rw [AA];have hrl:=anG x (i+2);generalize hr:jW x (i+2)=r at hrl;have hat:=agY x (i+2);have hend:=alW x (i+2);rw [hr] at hat hend;refine cN (fun s:Int×J Int=>∃k:Nat,s.1=((i+2+k:Nat):Int)/\k<=r.length/\s.2=r.take k) (fun s=>(i+2+r.length)-s.1.toNat) ?_ F _ ⟨0,rfl,om,si⟩ bz;rintro⟨ii,nm⟩ ⟨k,h0,hk,hn⟩;dsimp only at h0 hn⊢;subst h0;by_cases hk:k<r.length
   ·left
    obtain⟨g1,g2,g3⟩:=hat k hk;have hnl:nm.length=k:=by simp_all
    refine⟨(((i+2+(k+1):Nat):Int),r.take (k+1)),⟨k+1,rfl,om,rfl⟩,bz,fun rc=>?_⟩;unfold Cl at g3;simp only [cE] at g3;obtain⟨g3,g4,g5⟩:=g3;rw [cz om,bP g1,bZ,g3,aC,aZ,bP g1,g4,aC,aZ,bP g1,g5,aC,aZ,bP g1,fu bz om,cw om,<-g2,gd hk,lB hk,<-hn];rfl
   ·right
    obtain rfl:k=r.length:=om;intro rc;rw [yf] at hn;subst hn
    have e1:(((cond (decide (((i+2+nm.length:Nat):Int)<(x.length:Int))) (rq (decide (0<=((i+2+nm.length:Nat):Int))&&decide (((i+2+nm.length:Nat):Int)<(x.length:Int))) (some (x.getD (Int.toNat ((i+2+nm.length:Nat):Int)) cM).mA)) (some false)):O Bool).bind fun x6=>
      (cond x6 (rq (decide (0<=((i+2+nm.length:Nat):Int))&&decide (((i+2+nm.length:Nat):Int)<(x.length:Int))) (some (decide (97<=(x.getD (Int.toNat ((i+2+nm.length:Nat):Int)) cM).fb)))) (some false):O Bool).bind fun x7=>
      (cond x7 (rq (decide (0<=((i+2+nm.length:Nat):Int))&&decide (((i+2+nm.length:Nat):Int)<(x.length:Int))) (some (decide ((x.getD (Int.toNat ((i+2+nm.length:Nat):Int)) cM).fb<=122)))) (some false):O Bool))=some false:=by
     by_cases hl:i+2+nm.length<x.length
     ·have:=hend hl
      unfold Cl at this;simp only [bP hl]
      grind
     grind
    have e2:∀ {β:Type}(A:O Bool)(B:Bool->O Bool)(C:Bool->O Bool)(k:Bool->O β),(A.bind fun x6=>(B x6).bind fun x7=>(C x7).bind k)=((A.bind fun x6=>(B x6).bind fun x7=>C x7)).bind k:=by
     grind
    rw [e2,e1,aC,aK,gX,aC,cw om,gX]
    cases eD x (i+2+nm.length) 58 with
    | false=>rfl
    | true=>
     cases eD x (i+2+nm.length+1) 93 with
     | false=>rfl
     | true=>
      simp only [je,aK,aC,vp,I4];rw [KW _ _ _ (KW _ _ _ (KW _ _ _ (KW _ _ _ (KW _ _ _ (KW _ _ _ (KW _ _ _ rfl)))))),aC];have WL:aB (((i+2+nm.length:Nat):Int)+2)=((i+2+nm.length+2:Nat):Int):=by rw [bN om];omega
      rw [WL,aH];rfl
variable{b:Int}
theorem agZ(h:eD x i b=true):i<x.length:=by
 unfold eD at h
 simp_all
theorem aeI(F:Nat)(n:Bs)(c:Int):∃b,nq F n c=some b:=by
 unfold nq wx
 simp_all [aH,aC]
theorem aeJ(F:Nat)(x:J fB)(i:Nat)(set:J Bool)(hF:x.length+1000<F)(hx:x.length<500000000)(hc:RN x)(hi:i<x.length)(hs:set.length=256):
  ∃r:Int×J Bool,(∃e:Nat,r.1=(e:Int)/\i<e/\e<=x.length/\r.2.length=256)/\lG F x (i:Int) set=some r:=by
 unfold lG wx;obtain hcl|hcl:=RO F x i om hx
 rotate_left
 ·omega
 rw [hcl,aC]
 cases h1:(yC x i).2.2 with
 | true=>
  rw [aZ];unfold yC at h1⊢
  cases h2:((eD x i 91&&eD x (i+1) 58)&&((eD x (i+2+(jW x (i+2)).length) 58&&eD x (i+2+(jW x (i+2)).length+1) 93)&&isName (cu (jW x (i+2))))) with
  | false=>rw [h2] at h1;cases h1
  | true=>
   rw [aZ];simp only [cE] at h2;have h3:=agZ h2.2.1.2;refine iG _ (fun s:Int×J Bool=>∃k:Nat,s.1=(k:Int)/\k<=256/\s.2.length=256) (fun s=>256-s.1.toNat) ?_ F _ ⟨0,rfl,om,hs⟩ bz;rintro⟨ii,st⟩ ⟨k,h0,hk,hl⟩ rc hrc;dsimp only at h0 hl⊢;subst h0;by_cases hk:k<256
   ·obtain⟨b,hb⟩:=aeI F (cu (jW x (i+2))) (k:Int)
    rw [cz om,hb,aC,cw om]
    cases b with
    | false=>exact hrc _ ⟨k+1,rfl,om,hl⟩ bz
    | true=>
     rw [aZ,xS om om om];exact hrc _ ⟨k+1,rfl,om,by simpa using hl⟩ bz
   ·rw [cf om]
    exact⟨_,⟨_,rfl,om,om,hl⟩,rfl⟩
 | false=>
  have hw1:aB ((i:Int)+1)=((i+1:Nat):Int):=cw om;have AA:aB ((i:Int)+2)=((i+2:Nat):Int):=by grind [bN]
  have WL:aB ((i:Int)+3)=((i+3:Nat):Int):=by grind [bN]
  rw [aK,hw1,AA,WL,gX,aC,gX,aH,aC];have e1:cond (eD x (i+1) 45) (decide (((i+2:Nat):Int)<(x.length:Int)),set) (false,set)=((eD x (i+1) 45&&decide (((i+2:Nat):Int)<(x.length:Int))),set):=by grind
  rw [e1];dsimp only;rw [aC,aH,aC];have e2:∀a b:Bool,cond a (b,set) (false,set)=((a&&b),set):=by simp_all
  rw [e2];dsimp only;have hb:=hc.at hi
  cases h4:((eD x (i+1) 45&&decide (((i+2:Nat):Int)<(x.length:Int))) && !eD x (i+2) 93) with
  | false=>
   rw [aK,bP hi,bZ,xS om om om]
   exact⟨_,⟨_,rfl,om,om,by simpa using hs⟩,rfl⟩
  | true=>
   simp only [cE,fL] at h4;have h5:i+2<x.length:=om;have nN:=hc.at h5;rw [aZ,bP hi,bZ,bZ,bN (x:=(x.getD i cM).fb) om,bN (x:=(x.getD (i+2) cM).fb) om];generalize (x.getD (i+2) cM).fb=hi2 at nN;refine iG _ (fun s:Int×J Bool=>0<=s.1/\s.1<=256/\s.2.length=256) (fun s=>256-s.1.toNat) ?_ F _ ⟨hb.1,om,hs⟩ bz;rintro⟨ii,st⟩ ⟨h6,h7,hl⟩ rc hrc;dsimp only at h6 h7 hl⊢;rw [bP h5];by_cases hle:ii<=hi2
   ·rw [cz hle,xS om om om,bN om]
    exact hrc _ ⟨by dsimp only;omega,by dsimp only;omega,by simpa using hl⟩ (by dsimp only;omega)
   ·rw [cf hle]
    exact⟨_,⟨_,rfl,om,om,hl⟩,rfl⟩
theorem ag0(F:Nat)(set:J Bool)(hF:1000<F)(hs:set.length=256):∃l:J cj,l.length<=256/\qO F set=some l:=by
 unfold qO wx;rw [cC (by rw [hs];rfl)];refine iG _ (fun s=>∃k:Nat,s.2.1=(k:Int)/\k<=256/\s.1.length<=k/\s.2.2.length=256) (fun s=>256-s.2.1.toNat) ?_ F _ ⟨0,rfl,om,si,hs⟩ bz;rintro⟨acc,ii,st⟩ ⟨k,h0,hk,ha,hl⟩ rc hrc;dsimp only at h0 ha hl⊢;subst h0;by_cases hk:k<256
 ·rw [cz om,xS om om om,cw om]
  cases hb:(!(st.getD (Int.toNat (k:Int)) false)) with
  | true=>exact hrc _ ⟨k+1,rfl,om,by dsimp only;omega,hl⟩ bz
  | false=>
   refine iG _ (fun s=>∃j:Nat,s.1=(j:Int)/\k<=j/\j<=255/\s.2.length=256) (fun s=>256-s.1.toNat) ?_ F _ ⟨k,rfl,om,om,hl⟩ bz;rintro⟨jj,zT⟩ ⟨j,h0,hkj,hj,hl2⟩ bA aqK;subst h0
   have hend:∀Zx:J Bool,Zx.length=256->∃r:J cj,r.length<=256/\rq ((decide (acc.length+([(cj.mk (IntKind.wrap .u8 (k:Int)) (IntKind.wrap .u8 (j:Int)))]:J cj).length<=9223372036854775807))&&(decide ((acc.length+([(cj.mk (IntKind.wrap .u8 (k:Int)) (IntKind.wrap .u8 (j:Int)))]:J cj).length)*2<=140737488355328))) (rc (acc++([(cj.mk (IntKind.wrap .u8 (k:Int)) (IntKind.wrap .u8 (j:Int)))]:J cj),aB ((j:Int)+1),Zx))=some r:=by
    intro Zx h3;rw [fu bz om,cw om];exact hrc _ ⟨j+1,rfl,om,bz,h3⟩ bz
   by_cases hj2:j<255
   ·rw [cz om,cw om,xS om om om]
    cases zT.getD (Int.toNat ((j+1:Nat):Int)) false with
    | true=>exact aqK _ ⟨j+1,rfl,om,om,hl2⟩ bz
    | false=>
     grind [cw]
   grind
 grind
def nr(p:aE):Prop:=(p.fKind=1->0<p.fText.length)/\p.fText.length<=10/\p.cL.length<=256
theorem QK(F:Nat)(x:J fB)(i:Nat)(hF:x.length+1000<F)(hx:x.length<50000000)(hc:RN x)(hi:i<x.length):
  ∃r:aE×Int×Bool,(r.2.2=true->nr r.1/\∃e:Nat,r.2.1=(e:Int)/\i<e/\e<=x.length)/\oc F x (i:Int)=some r:=by
 unfold oc wx;have hw1:aB ((i:Int)+1)=((i+1:Nat):Int):=cw om;rw [hw1,gX,aC,gX,aC,aH,aC,cw om,aH]
 obtain⟨s0,hs0,hs1,hs2⟩:∃s0:Nat,cond (cond (eD x (i+1) 33) true (eD x (i+1) 94)) (((i+1+1:Nat):Int)) ((i+1:Nat):Int)=(s0:Int)/\i<s0/\s0<=i+2:=by
  cases (cond (eD x (i+1) 33) true (eD x (i+1) 94))
  ·exact⟨i+1,rfl,om,om⟩
  ·exact⟨i+2,rfl,om,om⟩
 rw [hs0];refine iG _ (fun s=>∃k:Nat,s.1=(k:Int)/\i<k/\k<=x.length+2/\s.2.2.length=256) (fun s=>x.length+2-s.1.toNat) ?_ F _ ⟨s0,rfl,hs1,om,si⟩ bz;rintro⟨ii,fi,st⟩ ⟨k,h0,hk,hk2,hl⟩ rc hrc;subst h0;by_cases Ez:k<x.length
 ·rw [cz om,gX,aC,aH,aC]
  have e2:cond (eD x k 93) (!fi,st) (false,st)=((eD x k 93 && !fi),st):=by cases eD x k 93<;>rfl
  rw [e2]
  cases (eD x k 93 && !fi) with
  | true=>
   obtain⟨l,h1,h2⟩:=ag0 F st om hl;rw [cC (by rw [hl];rfl),h2,cw om]
   exact⟨_,fun _=>⟨⟨(fun h=>absurd h (show ¬ ((4:Int)=1) by decide)),si,h1⟩,k+1,rfl,om,om⟩,rfl⟩
  | false=>
   obtain⟨r,⟨e,h1,h2,h3,h4⟩,h5⟩:=aeJ F x k st om om hc Ez hl;rw [h5];exact hrc _ ⟨e,h1,om,om,h4⟩ (by grind)
 simp_all [cf]
theorem ab2(F:Nat)(l:J aD)(hF:l.length<F)(rU:ck l+1000<F)(h1:l.length<1000000000)(h2:ck l<=40000000):∃p:J aE,((∀it∈p,nr it)/\p.length<=ck l)/\iX F l=some p:=by
 unfold iX wx;rw [KV F l hF om h1 om];have hx:(l.flatMap sE).length<=ck l:=JW _ Vj _;have hc:=Zw l;generalize (l.flatMap sE)=x at hx hc;refine iG _ (fun s=>∃k:Nat,s.2=(k:Int)/\k<=x.length/\s.1.length<=k/\∀it∈s.1,nr it) (fun s=>x.length-s.2.toNat) ?_ F _ ⟨0,rfl,om,si,fun it h=>by cases h⟩ bz;rintro⟨acc,ii⟩ ⟨k,h0,hk,ha,hit⟩ rc hrc;dsimp only at h0 ha hit⊢;subst h0
 have KX:∀(it:aE)(e:Nat),nr it->k<e->e<=x.length->∃p:J aE,((∀it∈p,nr it)/\p.length<=ck l)/\rc (acc++[it],(e:Int))=some p:=by
  intro it e h3 h4 h5;refine hrc _ ⟨e,rfl,h5,bz,fun y hy=>?_⟩ bz
  grind
 by_cases Ez:k<x.length
 ·rw [cz om]
  have fC:∃p:J aE,((∀it∈p,nr it)/\p.length<=ck l)/\((fG F x (k:Int) 42).bind fun x7=>
    cond x7
    (rq ((decide (acc.length+([(aE.mk 3 [] false [])]:J aE).length<=9223372036854775807))&&(decide ((acc.length+([(aE.mk 3 [] false [])]:J aE).length)*56<=140737488355328))) (rc (acc++([(aE.mk 3 [] false [])]:J aE),aB ((k:Int)+1))))
    ((fG F x (k:Int) 63).bind fun x8=>
    cond x8
    (rq ((decide (acc.length+([(aE.mk 2 [] false [])]:J aE).length<=9223372036854775807))&&(decide ((acc.length+([(aE.mk 2 [] false [])]:J aE).length)*56<=140737488355328))) (rc (acc++([(aE.mk 2 [] false [])]:J aE),aB ((k:Int)+1))))
    (rq ((decide (0<=(k:Int)))&&(decide ((k:Int)<(x.length:Int)))) (rq ((decide (acc.length+([(aE.mk 1 (cu ([(x.getD (Int.toNat (k:Int)) cM).fb]:J Int)) false [])]:J aE).length<=9223372036854775807))&&(decide ((acc.length+([(aE.mk 1 (cu ([(x.getD (Int.toNat (k:Int)) cM).fb]:J Int)) false [])]:J aE).length)*56<=140737488355328))) (rc (acc++([(aE.mk 1 (cu ([(x.getD (Int.toNat (k:Int)) cM).fb]:J Int)) false [])]:J aE),aB ((k:Int)+1)))))))=some p:=by
   rw [gX,gX,fu bz om,fu bz om,bP Ez,fu bz om,cw om]
   cases eD x k 42 with
   | true=>exact KX _ _ ⟨(fun h=>absurd h de),si,si⟩ om om
   | false=>
    cases eD x k 63 with
    | true=>exact KX _ _ ⟨(fun h=>absurd h de),si,si⟩ om om
    | false=>exact KX _ _ ⟨(fun _=>by simp [cu]),by simp [cu],si⟩ om om
  rw [gX,aC]
  cases eD x k 91 with
  | false=>exact fC
  | true=>
   obtain⟨r,h3,h4⟩:=QK F x k om om hc Ez;rw [h4,aC]
   cases h5:r.2.2 with
   | false=>exact fC
   | true=>
    obtain⟨g1,e,g2,g3,g4⟩:=h3 h5;rw [fu bz om,g2];obtain⟨p,hp,hq⟩:=KX r.1 e g1 g3 g4;rw [hq];exact⟨p,hp,rfl⟩
 grind
theorem anH{x:J fP}(h:Dn x i b=true):i<x.length:=by
 unfold Dn at h
 simp_all
theorem ai5(F:Nat)(x:J fP)(i:Nat)(s:Bs)(hF:s.length<F)(hi:i<=x.length)(hx:x.length<500000000)(hs:s.length<500000000):∃b:Bool,(b=true->i+s.length<=x.length)/\E7 F x (i:Int) s=some b:=by
 refine iG _ (fun k'=>∃k:Nat,k'=(k:Int)/\k<=s.length/\i+k<=x.length) (fun k'=>s.length-k'.toNat) ?_ F _ ⟨0,rfl,om,om⟩ bz;rintro ii ⟨k,rfl,hk,hik⟩ rc hrc;by_cases hk:k<s.length
 ·have hw:aB ((i:Int)+(k:Int))=((i+k:Nat):Int):=by grind [bN]
  rw [cz om,bP hk,hw,ju,cw om]
  cases h:Dn x (i+k) (((s.getD (Int.toNat (k:Int)) 0).toNat:Int)) with
  | false=>simp_all
  | true=>
   have:=anH h;exact hrc _ ⟨k+1,rfl,om,om⟩ bz
 ·rw [cf om]
  grind
def CL:J mc:=(ze 0).getD []
theorem ak9(F:Nat):ze F=some CL:=rfl
theorem S3:CL.length=8:=rfl
theorem aeK:∀c∈CL,c.fname.length=5/\c.sF.length<=4:=by decide
theorem ab3(F:Nat)(x:J fP)(i:Nat)(hF:100<F)(hi:i<x.length)(hx:x.length<50000000):∃r:J cj×Int,(∃e:Nat,r.2=(e:Int)/\i<e/\e<=x.length/\r.1.length<=4)/\p8 F x (i:Int)=some r:=by
 unfold p8 wx;rw [ak9];refine iG _ (fun k'=>∃k:Nat,k'=(k:Int)/\k<=8) (fun k'=>8-k'.toNat) ?_ F _ ⟨0,rfl,om⟩ bz;rintro ii ⟨k,rfl,hk⟩ rc hrc;have hw1:aB ((i:Int)+1)=((i+1:Nat):Int):=cw om;have AA:aB ((i:Int)+2)=((i+2:Nat):Int):=by grind [bN]
 have WL:aB ((i:Int)+3)=((i+3:Nat):Int):=by grind [bN]
 by_cases hk:k<CL.length
 ·have hm:=aeK _ (gU hk)
  rw [cz om,bP hk,bZ,gd hk,cw om];generalize CL[k]=c at hm;rw [oY bz,oY bz];have hl:((([91,58]:Bs)++c.fname)++([58,93]:Bs)).length=9:=by simp;omega
  obtain⟨b,h1,h2⟩:=ai5 F x i ((([91,58]:Bs)++c.fname)++([58,93]:Bs)) om om om om;rw [h2,aC];rw [hl] at h1⊢
  cases b with
  | true=>
   have:=h1 rfl;have hw:aB ((i:Int)+((9:Nat):Int))=((i+9:Nat):Int):=by grind [bN]
   rw [bP hk,hw]
   exact⟨_,⟨i+9,rfl,om,om,hm.2⟩,rfl⟩
  | false=>
   have h8:k<8:=by rw [<-S3];exact hk
   exact hrc _ ⟨k+1,rfl,om⟩ bz
 ·rw [cf om,bP hi,hw1,AA,WL,ju,aC,ju,aH,aC,aC,aH,aC]
  cases h4:cond (cond (Dn x (i+1) 45) (decide (((i+2:Nat):Int)<(x.length:Int))) false) (!Dn x (i+2) 93) false with
  | false=>exact⟨_,⟨i+1,rfl,om,om,si⟩,rfl⟩
  | true=>
   have h5:i+2<x.length:=by
    grind
   rw [bP h5];cases decide ((x.getD (Int.toNat (i:Int)) iY).fb<=(x.getD (Int.toNat ((i+2:Nat):Int)) iY).fb)
   ·exact⟨_,⟨i+3,rfl,om,om,si⟩,rfl⟩
   ·exact⟨_,⟨i+3,rfl,om,om,si⟩,rfl⟩
theorem alX(F:Nat)(l:J cj)(b:Int)(hF:l.length<F)(hl:l.length<500000000):∃r,vO F l b=some r:=by
 obtain⟨r,-,h⟩:∃r:Bool,True/\vO F l b=some r:=by
  refine iG _ (fun k'=>∃k:Nat,k'=(k:Int)/\k<=l.length) (fun k'=>l.length-k'.toNat) ?_ F _ ⟨0,rfl,om⟩ bz;rintro ii ⟨k,rfl,hk⟩ rc hrc;by_cases hk:k<l.length
  ·rw [cz om,bP hk,bP hk,aH,cw om]
   cases cond (decide ((l.getD (Int.toNat (k:Int)) gC).qG<=b)) (decide (b<=(l.getD (Int.toNat (k:Int)) gC).kg)) false with
   | true=>simp_all
   | false=>exact hrc _ ⟨k+1,rfl,om⟩ bz
  simp_all [cf,trivial]
 exact⟨r,h⟩
theorem ai6(F:Nat)(l:J cj)(hF:l.length+300<F)(hl:l.length<500000000):∃r:J cj,r.length<=256/\HW F l=some r:=by
 refine iG _ (fun s=>∃k:Nat,s.1=(k:Int)/\k<=256/\s.2.length<=k) (fun s=>256-s.1.toNat) ?_ F _ ⟨0,rfl,om,si⟩ bz;rintro⟨ii,o⟩ ⟨k,h0,hk,ho⟩ rc hrc;dsimp only at h0 ho⊢;subst h0;by_cases hk:k<256
 ·obtain⟨b,hb⟩:=alX F l (IntKind.wrap .u8 (k:Int)) om hl
  rw [cz om,hb,aC,cw om]
  cases b with
  | false=>exact hrc _ ⟨k+1,rfl,om,by dsimp only;omega⟩ bz
  | true=>
   by_cases h0:0<o.length
   ·have hw:=zC om h0
    rw [cz om,hw,bP om,aC];dsimp only
    cases (aB ((aB ((o.getD (Int.toNat ((o.length-1:Nat):Int)) gC).kg))+1))==(k:Int) with
    | true=>
     rw [bP om]
     exact hrc _ ⟨k+1,rfl,om,bz⟩ bz
    | false=>
     rw [fu bz om];exact hrc _ ⟨k+1,rfl,om,bz⟩ bz
   ·rw [cf om,aC]
    rw [fu bz om];exact hrc _ ⟨k+1,rfl,om,bz⟩ bz
 grind
theorem Zy(F:Nat)(x:J fP)(i:Nat)(hF:4*x.length+1000<F)(hx:x.length<40000000)(hi:i<x.length):
  ∃r:aE×Int×Bool,(r.2.2=true->nr r.1/\∃e:Nat,r.2.1=(e:Int)/\i<e/\e<=x.length)/\qP F x (i:Int)=some r:=by
 unfold qP wx;have hw1:aB ((i:Int)+1)=((i+1:Nat):Int):=cw om;rw [hw1,ju,aC,ju,aC,aH,aC,cw om,aH,aC]
 have h0:∃y:Int×Int×Bs×Bool×J cj,cond (cond (Dn x (i+1) 33) true (Dn x (i+1) 94)) (((i+1+1:Nat):Int),(aE.mk 4 [] false []).fKind,(aE.mk 4 [] false []).fText,true,(aE.mk 4 [] false []).cL) (((i+1:Nat):Int),(aE.mk 4 [] false []).fKind,(aE.mk 4 [] false []).fText,(aE.mk 4 [] false []).Cm,(aE.mk 4 [] false []).cL)=y/\(∃s0:Nat,y.1=(s0:Int)/\i<s0/\s0<=i+2)/\y.2.1=4/\y.2.2.1=[]:=by
  cases (cond (Dn x (i+1) 33) true (Dn x (i+1) 94))
  ·exact⟨_,rfl,⟨i+1,rfl,om,om⟩,rfl,rfl⟩
  ·exact⟨_,rfl,⟨i+2,rfl,om,om⟩,rfl,rfl⟩
 obtain⟨y,hy,⟨s0,hs0,hs1,hs2⟩,hy2,hy3⟩:=h0;rw [hy,hs0,hy2,hy3];refine iG _ (fun s=>∃k:Nat,s.1=(k:Int)/\i<k/\k<=x.length+2/\s.2.1.length<=4*k) (fun s=>x.length+2-s.1.toNat) ?_ F _ ⟨s0,rfl,hs1,om,si⟩ bz;rintro⟨ii,sp,fi⟩ ⟨k,h0,hk,hk2,hl⟩ rc hrc;dsimp only at h0 hl⊢;subst h0;rw [ju,aC,aH,aH,aC];by_cases Ez:k<x.length
 ·rw [cz (show (k:Int)<(x.length:Int) by omega)]
  cases (cond fi true (!Dn x k 93)) with
  | true=>
   obtain⟨r,⟨e,h1,h2,h3,h4⟩,h5⟩:=ab3 F x k om Ez om;rw [h5,aC,fu om om]
   exact hrc _ ⟨e,h1,om,om,by grind⟩ (by grind)
  | false=>
   obtain⟨r,h1,h2⟩:=ai6 F sp om om;rw [cf (show ¬ (x.length:Int)<=(k:Int) by omega),h2,cw om];exact⟨_,fun _=>⟨⟨(fun h=>absurd h (show ¬ ((4:Int)=1) by decide)),si,h1⟩,k+1,rfl,om,om⟩,rfl⟩
 simp_all [cf,aK,cz]
theorem Zz(F:Nat)(l:J aD)(hF:l.length<F)(rU:4*ck l+1000<F)(h1:l.length<1000000000)(h2:ck l<=20000000):∃p:J aE,((∀it∈p,nr it)/\p.length<=ck l)/\j8 F l=some p:=by
 unfold j8 wx;rw [QJ F l hF om h1 om];have hx:(l.flatMap Ny).length<=ck l:=JW _ ada _;generalize (l.flatMap Ny)=x at hx;refine iG _ (fun s=>∃k:Nat,s.2=(k:Int)/\k<=x.length/\s.1.length<=k/\∀it∈s.1,nr it) (fun s=>x.length-s.2.toNat) ?_ F _ ⟨0,rfl,om,si,fun it h=>by cases h⟩ bz;rintro⟨acc,ii⟩ ⟨k,h0,hk,ha,hit⟩ rc hrc;dsimp only at h0 ha hit⊢;subst h0
 have KX:∀(it:aE)(e:Nat),nr it->k<e->e<=x.length->∃p:J aE,((∀it∈p,nr it)/\p.length<=ck l)/\rc (acc++[it],(e:Int))=some p:=by
  intro it e h3 h4 h5;refine hrc _ ⟨e,rfl,h5,bz,fun y hy=>?_⟩ bz
  grind
 by_cases Ez:k<x.length
 ·rw [cz om,ju,aC,ju,aC,fu bz om,fu bz om,cw om]
  cases Dn x k 42 with
  | true=>exact KX _ _ ⟨(fun h=>absurd h (show ¬ ((3:Int)=1) by decide)),si,si⟩ om om
  | false=>
   cases Dn x k 63 with
   | true=>exact KX _ _ ⟨(fun h=>absurd h (show ¬ ((2:Int)=1) by decide)),si,si⟩ om om
   | false=>
    rw [ju,aC]
    have fC:∃p:J aE,((∀it∈p,nr it)/\p.length<=ck l)/\(rq ((decide (0<=(k:Int)))&&(decide ((k:Int)<(x.length:Int)))) (rq ((decide (acc.length+([(aE.mk 1 (cu ([(x.getD (Int.toNat (k:Int)) iY).fb]:J Int)) false [])]:J aE).length<=9223372036854775807))&&(decide ((acc.length+([(aE.mk 1 (cu ([(x.getD (Int.toNat (k:Int)) iY).fb]:J Int)) false [])]:J aE).length)*56<=140737488355328))) (rc (acc++([(aE.mk 1 (cu ([(x.getD (Int.toNat (k:Int)) iY).fb]:J Int)) false [])]:J aE),aB ((k:Int)+1)))))=some p:=by
     rw [bP Ez,fu bz om,cw om];exact KX _ _ ⟨(fun _=>by simp [cu]),by simp [cu],si⟩ om om
    cases Dn x k 91 with
    | false=>exact fC
    | true=>
     obtain⟨r,h3,h4⟩:=Zy F x k om om Ez;rw [h4,aC]
     cases h5:r.2.2 with
     | false=>exact fC
     | true=>
      obtain⟨g1,e,g2,g3,g4⟩:=h3 h5;rw [fu bz om,g2];obtain⟨p,hp,hq⟩:=KX r.1 e g1 g3 g4;rw [hq];exact⟨p,hp,rfl⟩
 grind
theorem Co(F:Nat)(l:J cj)(hF:l.length<F)(hl:l.length<500000000):∃r,od F l=some r:=by
 obtain⟨r,-,h⟩:∃r:Bool,True/\od F l=some r:=by
  refine iG _ (fun k'=>∃k:Nat,k'=(k:Int)/\k<=l.length) (fun k'=>l.length-k'.toNat) ?_ F _ ⟨0,rfl,om⟩ bz;rintro ii ⟨k,rfl,hk⟩ rc hrc;by_cases hk:k<l.length
  ·rw [cz om,bP hk,bP hk]
   have e:∃b,(cond (decide ((l.getD (Int.toNat (k:Int)) gC).kg<(l.getD (Int.toNat (k:Int)) gC).qG)) (some true) (cond (decide (0<(k:Int))) (rq ((decide (0<=(k:Int)))&&(decide ((k:Int)<(l.length:Int)))) (rq ((decide (0<=aB ((k:Int)-1)))&&(decide (aB ((k:Int)-1)<(l.length:Int)))) (some (decide (aB ((l.getD (Int.toNat (k:Int)) gC).qG)<=aB ((aB ((l.getD (Int.toNat (aB ((k:Int)-1))) gC).kg))+1)))))) (some false)):O Bool)=some b:=by
    by_cases h0:0<k
    ·rw [bP hk,zC om h0,cz (show (0:Int)<(k:Int) by omega),b9 om om,aH];exact⟨_,rfl⟩
    simp_all [cf,aH]
   obtain⟨b,hb⟩:=e;rw [hb,cw om]
   cases b with
   | true=>simp_all
   | false=>exact hrc _ ⟨k+1,rfl,om⟩ bz
  simp_all [cf,trivial]
 exact⟨r,h⟩
theorem aeL(F:Nat)(p:J aE)(hF:p.length+300<F)(hp:p.length<50000000)(hit:∀it∈p,nr it):∃b,kO F p=some b:=by
 obtain⟨b,-,h⟩:∃b:Bool,True/\kO F p=some b:=by
  refine iG _ (fun s=>∃k:Nat,s=(k:Int)/\k<=p.length) (fun s=>p.length-s.toNat) ?_ F _ ⟨0,rfl,om⟩ bz;rintro ii ⟨k,rfl,hk⟩ rc hrc;by_cases hk:k<p.length
  ·have hI:=hit _ (gU hk)
   rw [cz om,bP hk,bZ,gd hk];generalize p[k]=it at hI;obtain⟨c,hc⟩:=Co F it.cL (by have:=hI.2.2;omega) (by have:=hI.2.2;omega);simp only [aH,aC,hc];rw [cw om]
   cases (cond (cond (cond (cond (decide (it.fKind<1)) true (decide (4<it.fKind))) true ((it.fText.length:Int) != cond (it.fKind==1) 1 0)) true (cond (it.fKind != 4) (cond it.Cm true (decide (0<(it.cL.length:Int)))) false)) true !c) with
   | true=>simp_all
   | false=>exact hrc _ ⟨k+1,rfl,om⟩ bz
  simp_all [cf,trivial]
 exact⟨b,h⟩
theorem ZA(F:Nat)(p:J aE)(hF:p.length+300<F)(hp:p.length<50000000)(hit:∀it∈p,nr it):∃r,uv F p=some r:=by
 obtain⟨b,hb⟩:=aeL F p hF hp hit
 obtain⟨b,-,h⟩:∃b:Bs×Bool,True/\uv F p=some b:=by
  refine iG _ (fun s=>∃k:Nat,s.2=(k:Int)/\k<=p.length/\s.1.length<=10*k) (fun s=>p.length-s.2.toNat) ?_ F _ ⟨0,rfl,om,si⟩ bz;rintro⟨acc,ii⟩ ⟨k,h0,hk,ha⟩ rc hrc;subst h0;by_cases hk:k<p.length
  ·have hI:=hit _ (gU hk)
   have hl:=hI.2.1;rw [cz om,bP hk,bP hk,bZ,gd hk]
   cases (p[k].fKind != 1) with
   | true=>simp_all
   | false=>
    rw [ag1 om,cw om];exact hrc _ ⟨k+1,rfl,om,by grind⟩ bz
  simp_all [cf,aC,aH,trivial]
 exact⟨b,h⟩
def mg(l:J aD):Bs:=l.flatMap fun r=>r.fText
theorem F3:∀l:J aD,(mg l).length=ck l
 | []=>rfl
 | r::l=>by
  have:=F3 l;unfold mg ck at *;simp only [yl,tM,jU,Po];omega
theorem WM(s:Bs):JX (cU s)=true:=by
 unfold JX cU;rw [p4];intro x hx;obtain⟨b,-,rfl⟩:=rD.1 hx;have:=b.toNat_lt;simp;omega
theorem anI(F:Nat)(s:Bs)(c:Bool)(buf:J Int)(h:buf.length+s.length<=100000000):iZ F s c buf=some ((s.length:Int),true,buf++cU s):=by
 unfold iZ wx;rw [show pF F c buf=some (true,buf) by cases c<;>rfl,aC,fu (by simp [cU];omega) om]
theorem RU(F:Nat)(l:J aD)(hF:l.length<F)(h1:l.length<1000000000)(h2:ck l<=100000000):pG F l=some (mg l):=by
 unfold pG wx;refine cN (fun x=>∃k:Nat,x.1=(k:Int)/\k<=l.length/\x.2.2=cU (mg (l.take k))) (fun x=>l.length-x.1.toNat) ?_ F _ ⟨0,rfl,om,by simp [mg,cU]⟩ bz;rintro⟨ii,c,buf⟩ ⟨k,h0,hk,ha⟩;dsimp only at h0 ha⊢;subst h0;by_cases hk:k<l.length
 ·left
  have hs:=qK l k hk;have hle:=uK l (k+1);refine⟨(((k+1:Nat):Int),true,cU (mg (l.take (k+1)))),⟨k+1,rfl,om,rfl⟩,bz,fun rc=>?_⟩;have Gp:buf.length=ck (l.take k):=by rw [ha,cU,lW,F3]
  rw [cz om,bP hk,bZ,gd hk,anI F _ c buf om,aC,cw om];show rc (((k+1:Nat):Int),true,buf++cU l[k].fText)=_;rw [ha,mg,mg,Nz _ _ _ hk];simp [cU]
 ·right
  obtain rfl:k=l.length:=om;intro rc;rw [yf] at ha;subst ha;have:(cU (mg l)).length=ck l:=by rw [cU,lW,F3]
  rw [cf om];unfold kP wx;rw [cC (by rw [dW rfl,WM,dW om];rfl),RM];rfl
variable{F:Nat}
theorem aeM{r:J aD}(hF:(Am r).length<F)(h0:(Am r).length<1000000000)(h1:r.length<=1000000000)(h2:ck r<=1000000000)(h:∀c∈Am r,∃p x,j8 F c=some p/\uv F p=some x):∃b,(b=true->True)/\uw F r=some b:=by
 unfold uw SP wx;rw [b9 h1 h2,aC];have hB:∀(F2:Nat)(x:O Bool),(∃b,True/\x=some b)->∃b,(b=true->True)/\x=some b:=fun _ x ⟨b,_,h⟩=>⟨b,fun _=>trivial,h⟩;refine hB F _ (E6 (fun _=>True) (fun x:Int×Int×Int=>∃k:Nat,x.2.2=(k:Int)/\k<=(Am r).length) (fun x=>(Am r).length-x.2.2.toNat) ?_ F (0,0,0) ⟨0,rfl,om⟩ bz)
 ·rintro⟨a,b,ii⟩ ⟨k,h0,hk⟩
  dsimp only at h0⊢;subst h0;by_cases hk:k<(Am r).length
  ·left
   obtain⟨p,x,e1,e2⟩:=h (Am r)[k] (gU hk);refine⟨(cond (!x.2) (aB (a+1),b,((k+1:Nat):Int)) (cond (x.1==[46,46]) (a,aB (b+1),((k+1:Nat):Int)) (a,b,((k+1:Nat):Int)))),⟨k+1,?_,om⟩,?_,fun rc=>?_⟩
   ·cases x.2<;>cases (x.1==[46,46])<;>rfl
   ·cases x.2<;>cases (x.1==[46,46])<;>simp<;>omega
   ·rw [cz om,bP hk,bZ,gd hk,e1,aC,e2,aC,cw om]
    cases x.2<;>cases (x.1==[46,46])<;>rfl
  ·right
   refine⟨cond (decide (a<=2)) true (b==0),trivial,fun rc=>?_⟩;rw [cf om,aH,aC]
theorem ai7(l:J aD):(Am l).length<=ck l+1:=by
 have:=RE l ([],[]);unfold Am gp;simp only [Gh,tM,su,D4] at *;omega
theorem aeN:∀ {c:J aD},(∀r∈c,r.fText.length=1)->ck c=c.length
 | [],_=>rfl
 | r::c,h=>by
  have:=aeN (c:=c) fun x hx=>h x (by simp [hx]);have:=h r si;unfold ck at *;simp only [jU,Po,su];omega
def aeO(p n:Bs):Bs:=cond (p==[47]) ([47]++n) ((p++[47])++n)
def aqL(l:J bE)(p:Bs):Bool:=(KS l p).elim false fun f=>f.oJ
def anJ(n:Bs):Bool:=n.take 1==[46]
def aqM(c:bG):Bool:=decide (0<c.rG.length)&&((c.rG.getD 0 gi).fKind==1&&(c.rG.getD 0 gi).fText==[46])
def apu(mt:J aE->Bs->Bool)(c:bG)(n:Bs):Bool:=!((anJ n && !aqM c) || !mt c.rG n)
def W(l:J bE)(mt:J aE->Bs->Bool):J bG->Bs->J (J Bs)
 | [],p=>[[]]
 | c::cs,p=>cond (!aqL l p) [] (cond (!c.rH) (((apt l p).filter (apu mt c)).flatMap fun n=>(W l mt cs (aeO p n)).map (n :: ·))
   (cond (c.dm==[]||c.dm==[46]) ((W l mt cs p).map (c.dm :: ·)) (cond (c.dm==[46,46]) ((W l mt cs (qN p)).map (c.dm :: ·))
   (cond (KS l (aeO p c.dm)).isNone [] ((W l mt cs (aeO p c.dm)).map (c.dm :: ·))))))
variable{l:J bE}{mt:J aE -> Bs -> Bool}{parts:J bG}{names:J Bs}
abbrev anK:=Bool×(J bE)×(J bG)×(J (dU×Bool))×(J Bs)×(J Bs)
def anL(l:J bE)(mt:J aE->Bs->Bool)(parts:J bG)(dead:J (dU×Bool)):Prop:=∀(i:Nat) p,fZ cV dead (dU.mk (i:Int) p) false=true->W l mt (parts.drop i) p=[]
structure Py(parts:List bG)(i:Nat)(names:List Bs):Prop where
 len:names.length=parts.length
 lit:∀j,i<=j->∀h:j<parts.length,parts[j].rH=true->names.getD j []=parts[j].dm
 sz:∀n∈names,n.length<=4000
def SOk(l:J bE)(mt:J aE->Bs->Bool)(parts:J bG)(i:Nat)(path:Bs)(names found:J Bs)(r:anK):Prop:=
 ∃ala names',r=(!(W l mt (parts.drop i) path).isEmpty,l,parts,ala,names',found++(W l mt (parts.drop i) path).map fun ws=>Az (names.take i++ws))/\anL l mt parts ala/\Py parts i names'/\names'.take i=names.take i
theorem Py.up(h:Py parts i names):Py parts (i+1) names:=⟨h.len,fun j hj=>h.lit j om,h.sz⟩
theorem ZB(h:Py parts i names)(hi:i<parts.length)(hl:parts[i].rH=true):names.take (i+1)=names.take i++[parts[i].dm]:=by
 have h1:i<names.length:=by rw [h.len];exact hi
 rw [lB h1];have:=h.lit i (ek _) hi hl;rw [gd h1] at this;rw [this]
theorem SOk.lit{path path':Bs}{found:J Bs}{r:anK}(hn:Py parts i names)(hi:i<parts.length)(hl:parts[i].rH=true)
  (hW:W l mt (parts.drop i) path=(W l mt (parts.drop (i+1)) path').map (parts[i].dm :: ·)) (h:SOk l mt parts (i+1) path' names found r):SOk l mt parts i path names found r:=by
 obtain⟨d,n',rfl,h1,h2,h3⟩:=h
 have h4:n'.take i=names.take i:=by
  have:=congrArg (List.take i) h3;rwa [YH,YH,aeg om] at this
 refine⟨d,n',?_,h1,⟨h2.len,fun j hj hlt hlj=>?_,h2.sz⟩,h4⟩
 ·rw [hW,ZB hn hi hl]
  simp only [Ah,List.isEmpty_map,uX,List.singleton_append];rfl
 ·by_cases e:j=i
  ·subst e
   have h5:=ZB hn hi hl;rw [<-h3] at h5;have h6:j<n'.length:=by rw [h2.len];exact hi
   rw [lB h6,h4] at h5;have h7:=List.append_cancel_left h5;rw [gd h6];exact List.singleton_inj.1 h7
  ·exact h2.lit j om hlt hlj
theorem F4(a b:J aD):ck (a++b)=ck a+ck b:=by unfold ck;rw [uY,aeb]
def HX(e:fB):fP:=fP.mk e.fb e.mA
theorem alY(r:aD):Ny r=(sE r).map HX:=by
 unfold Ny sE;cases Nx r.aN
 ·rw [aK,aK,Ah];rfl
 ·rfl
theorem apv(l:J aD):l.flatMap Ny=(l.flatMap sE).map HX:=by
 induction l with
 | nil=>rfl
 | cons r l ih=>simp_all [yl,uY,alY]
theorem jz(x:J fB)(i:Nat)(b:Int):Dn (x.map HX) i b=eD x i b:=by
 unfold Dn eD;rw [lW];by_cases h:i<x.length
 ·rw [gd (by simp_all),Rt,gd h];rfl
 ·rw [dF h];rfl
def xh(x:J fB)(i:Nat)(s:Bs):Bool:=(List.range s.length).all fun j=>eD x (i+j) ((s.getD j 0).toNat:Int)
theorem alZ(F:Nat)(x:J fB)(i:Nat)(s:Bs)(hF:s.length<F)(hi:i<50000000)(hs:s.length<50000000):E7 F (x.map HX) (i:Int) s=some (xh x i s):=by
 refine cN (fun k'=>∃k:Nat,k'=(k:Int)/\k<=s.length/\∀j,j<k->eD x (i+j) ((s.getD j 0).toNat:Int)=true) (fun k'=>s.length-k'.toNat) ?_ F _ ⟨0,rfl,om,fun j h=>om⟩ bz;rintro ii ⟨k,rfl,hk,hj⟩;by_cases hk:k<s.length
 ·have hw:aB ((i:Int)+(k:Int))=((i+k:Nat):Int):=by grind [bN]
  cases h:eD x (i+k) ((s.getD k 0).toNat:Int) with
  | true=>
   left;refine⟨((k+1:Nat):Int),⟨k+1,rfl,om,fun j hj2=>?_⟩,bz,fun rc=>?_⟩
   ·grind
   ·rw [cz om,bP hk,hw,ju,jz,bZ,h,cw om];rfl
  | false=>
   right;intro rc;rw [cz om,bP hk,hw,ju,jz,bZ,h]
   have:xh x i s=false:=by
    unfold xh
    grind
   rw [this];rfl
 ·right
  obtain rfl:k=s.length:=om;intro rc;rw [cf om]
  have:xh x i s=true:=by
   unfold xh
   simp_all
  rw [this]
theorem zU:eD x i b=true↔i<x.length/\(x.getD i cM).mA=true/\(x.getD i cM).fb=b:=by
 unfold eD
 simp_all
theorem aeP(x:J fB)(i:Nat)(n:Bs)(h5:n.length=5)(ZC:∀b∈n,97<=b.toNat/\b.toNat<=122):
  xh x i ((([91,58]:Bs)++n)++([58,93]:Bs))=((eD x i 91&&eD x (i+1) 58)&&((eD x (i+2+(jW x (i+2)).length) 58&&eD x (i+2+(jW x (i+2)).length+1) 93)&&jW x (i+2)==cU n)):=by
 match n,h5 with
 | [a,b,c,d,e],_=>
  have ha:=ZC a si;have hb:=ZC b si;have hc:=ZC c si;have hd:=ZC d si;have he:=ZC e si;rw [tJ];unfold xh;rw [show ((([91,58]:Bs)++[a,b,c,d,e])++([58,93]:Bs)).length=9 from rfl]
  have aqN:((List.range 9).all fun j=>eD x (i+j) ((((([91,58]:Bs)++[a,b,c,d,e])++([58,93]:Bs)).getD j 0).toNat:Int))=true ↔
    (eD x i 91=true/\eD x (i+1) 58=true/\eD x (i+2) (a.toNat:Int)=true/\eD x (i+3) (b.toNat:Int)=true/\eD x (i+4) (c.toNat:Int)=true/\eD x (i+5) (d.toNat:Int)=true/\eD x (i+6) (e.toNat:Int)=true/\eD x (i+7) 58=true/\eD x (i+8) 93=true):=by
   rw [p4];constructor
   ·intro h
    exact⟨h 0 si,h 1 si,h 2 si,h 3 si,h 4 si,h 5 si,h 6 si,h 7 si,h 8 si⟩
   ·rintro⟨h0,h1,h2,h3,h4,h5,h6,h7,h8⟩ j hj
    match j,hj with
    | 0,_=>exact h0
    | 1,_=>exact h1
    | 2,_=>exact h2
    | 3,_=>exact h3
    | 4,_=>exact h4
    | 5,_=>exact h5
    | 6,_=>exact h6
    | 7,_=>exact h7
    | 8,_=>exact h8
  rw [aqN];have hat:=agY x (i+2);simp only [cE,uW];constructor
  ·rintro⟨h0,h1,h2,h3,h4,h5,h6,h7,h8⟩
   have g2:=zU.1 h2;have g3:=zU.1 h3;have g4:=zU.1 h4;have g5:=zU.1 h5;have g6:=zU.1 h6;have g7:=zU.1 h7
   have hl:∀(k:Nat)(v:UInt8),97<=v.toNat/\v.toNat<=122->(x.getD k cM).mA=true/\(x.getD k cM).fb=(v.toNat:Int)->Cl (x.getD k cM)=true:=by
    unfold Cl
    grind
   have iq:x.drop (i+2)=x.getD (i+2) cM::x.getD (i+3) cM::x.getD (i+4) cM::x.getD (i+5) cM::x.getD (i+6) cM::x.getD (i+7) cM::x.drop (i+8):=by
    simp_all
   have hnl:Cl (x.getD (i+7) cM)=false:=by
    unfold Cl
    grind
   have hrun:jW x (i+2)=cU [a,b,c,d,e]:=by
    unfold jW;rw [iq];simp only [List.takeWhile,hl _ a ha g2.2,hl _ b hb g3.2,hl _ c hc g4.2,hl _ d hd g5.2,hl _ e he g6.2,hnl];simp only [jU,Nc,g2.2.2,g3.2.2,g4.2.2,g5.2.2,g6.2.2];rfl
   rw [hrun];exact⟨⟨h0,h1⟩,⟨h7,h8⟩,rfl⟩
  ·rintro⟨⟨h0,h1⟩,⟨h7,h8⟩,hr⟩
   rw [hr] at hat h7 h8
   have hk:∀(k:Nat)(v:UInt8),k<5->(cU [a,b,c,d,e]).getD k 0=(v.toNat:Int)->eD x (i+2+k) (v.toNat:Int)=true:=by
    intro k v hk e1;obtain⟨q1,q2,q3⟩:=hat k hk;unfold Cl at q3
    simp_all [cE,zU]
   exact⟨h0,h1,hk 0 a om rfl,hk 1 b om rfl,hk 2 c om rfl,hk 3 d om rfl,hk 4 e om rfl,h7,h8⟩
def ZD(l:J cj)(b:Nat):J cj:=cond (decide (0<l.length)&&(l.getD (l.length-1) gC).kg+1==(b:Int)) (l.set (l.length-1) (cj.mk (l.getD (l.length-1) gC).qG (b:Int))) (l++[cj.mk (b:Int) (b:Int)])
def DD(P:Nat->Bool):Nat->J cj
 | 0=>[]
 | k+1=>cond (P k) (ZD (DD P k) k) (DD P k)
theorem al0(l:J cj)(b:Nat):(ZD l b).length<=l.length+1:=by
 unfold ZD
 grind
theorem ZE(P:Nat->Bool):∀k,(DD P k).length<=k
 | 0=>by simp [DD]
 | k+1=>by
  have ih:=ZE P k;have:=al0 (DD P k) k;unfold DD;cases P k
  ·rw [aK];omega
  ·rw [aZ];omega
theorem Vl(P:Nat->Bool):∀k,∀s∈DD P k,∃h:Nat,h<k/\s.kg=(h:Int)/\P h=true
 | 0,s,hs=>by cases hs
 | k+1,s,hs=>by
  have ih:=Vl P k;unfold DD at hs
  cases hP:P k with
  | false=>
   rw [hP] at hs;obtain⟨h,h1,h2,h3⟩:=ih s hs
   exact⟨h,om,h2,h3⟩
  | true=>
   rw [hP] at hs;unfold ZD at hs
   cases hb:(decide (0<(DD P k).length)&&((DD P k).getD ((DD P k).length-1) gC).kg+1==(k:Int)) with
   | true=>
    rw [hb] at hs;rcases List.mem_or_eq_of_mem_set hs with hs|rfl
    ·obtain⟨h,h1,h2,h3⟩:=ih s hs
     exact⟨h,om,h2,h3⟩
    ·exact⟨k,om,rfl,hP⟩
   | false=>
    rw [hb] at hs;rcases qF.1 hs with hs|hs
    ·obtain⟨h,h1,h2,h3⟩:=ih s hs
     exact⟨h,om,h2,h3⟩
    ·obtain rfl:=nM.1 hs
     exact⟨k,om,rfl,hP⟩
theorem anM(P:Nat->Bool)(c:Nat)(h:P c=true)(h0:c=0\/P (c-1)=false):DD P (c+1)=DD P c++[cj.mk (c:Int) (c:Int)]:=by
 rw [DD,h,aZ,ZD]
 have:(decide (0<(DD P c).length)&&((DD P c).getD ((DD P c).length-1) gC).kg+1==(c:Int))=false:=by
  by_cases hl:0<(DD P c).length
  ·grind [gd,List.getElem_mem,Vl,beq_eq_false_iff_ne]
  ·rw [dF hl];rfl
 rw [this,aK]
theorem ag2(P:Nat->Bool)(c:Nat)(h0:c=0\/P (c-1)=false):∀(k:Nat),(∀j,c<=j->j<=c+k->P j=true)->DD P (c+k+1)=DD P c++[cj.mk (c:Int) ((c+k:Nat):Int)]
 | 0,h=>anM P c (h c (ek _) om) h0
 | k+1,h=>by
  have ih:=ag2 P c h0 k fun j h1 h2=>h j h1 om;rw [show c+(k+1)+1=(c+k+1)+1 by omega,DD,h (c+k+1) om om,ih,ZD];have hl:(DD P c++[cj.mk (c:Int) ((c+k:Nat):Int)]).length-1=(DD P c).length:=by simp
  have hg:(DD P c++[cj.mk (c:Int) ((c+k:Nat):Int)]).getD ((DD P c++[cj.mk (c:Int) ((c+k:Nat):Int)]).length-1) gC=cj.mk (c:Int) ((c+k:Nat):Int):=by
   simp
  have e:((cj.mk (c:Int) ((c+k:Nat):Int)).kg+1==((c+k+1:Nat):Int))=true:=by
   rw [uW];show ((c+k:Nat):Int)+1=_;omega
  simp;omega
theorem ag3(P:Nat->Bool):∀(m c:Nat),c+m=255->P c=true->∃k,c+k<=255/\(∀j,c<=j->j<=c+k->P j=true)/\(c+k=255\/P (c+k+1)=false)
 | 0,c,h,hP=>⟨0,om,(fun j h1 h2=>(show j=c by omega)▸hP),.inl om⟩
 | m+1,c,h,hP=>by
  cases h1:P (c+1) with
  | false=>exact⟨0,om,(fun j h1 h2=>(show j=c by omega)▸hP),.inr h1⟩
  | true=>
   obtain⟨k,g1,g2,g3⟩:=ag3 P m (c+1) om h1;refine⟨k+1,om,fun j h2 h3=>?_,?_⟩
   ·grind
   grind
theorem aeQ{c:Nat}(h:c<256):IntKind.wrap .u8 (c:Int)=(c:Int):=by
 show ((c:Int)%256)=c;omega
theorem ai8(F:Nat)(set:J Bool)(hF:1000<F)(hs:set.length=256):qO F set=some (DD (fun c=>set.getD c false) 256):=by
 unfold qO wx;rw [cC (by rw [hs];rfl)];generalize hP:(fun c=>set.getD c false)=P;have hPc:∀c,set.getD c false=P c:=fun c=>by rw [<-hP]
 refine cN (fun s:J cj×Int×J Bool=>∃c:Nat,s=(DD P c,(c:Int),set)/\c<=256/\(c<256->P c=true->c=0\/P (c-1)=false)) (fun s=>256-s.2.1.toNat) ?_ F _ ⟨0,rfl,om,fun _ _=>.inl rfl⟩ bz;rintro s ⟨c,rfl,hc,hst⟩;have hdl:=ZE P c;by_cases JY:c<256
 ·left
  cases hb:P c with
  | false=>
   refine⟨(DD P (c+1),((c+1:Nat):Int),set),⟨c+1,rfl,om,fun _ _=>.inr (by simpa using hb)⟩,bz,fun rc=>?_⟩;dsimp only;rw [cz om,xS om om om,bZ,hPc,hb,cw om];show rc _=_
   rw [DD,hb,aK]
  | true=>
   have h0:=hst JY hb;obtain⟨k,k1,k2,k3⟩:=ag3 P (255-c) c om hb;have hrun:=ag2 P c h0 k k2;refine⟨(DD P (c+k+1),((c+k+1:Nat):Int),set),⟨c+k+1,rfl,om,fun h1 h2=>?_⟩,bz,fun rc=>?_⟩
   ·simp_all
   ·dsimp only
    rw [cz om,xS om om om,bZ,hPc,hb,je,aK];refine cN (fun s:Int×J Bool=>∃j:Nat,s=(((c+j:Nat):Int),set)/\j<=k) (fun s=>256-s.1.toNat) ?_ F _ ⟨0,rfl,om⟩ bz;rintro s ⟨j,rfl,hj⟩;by_cases hjk:j<k
    ·left
     refine⟨(((c+(j+1):Nat):Int),set),⟨j+1,rfl,om⟩,bz,fun bA=>?_⟩;dsimp only;rw [cz om,cw om,xS om om om,aC]
     grind
    ·right
     obtain rfl:j=k:=om;intro bA;dsimp only
     have e:(cond (decide (((c+j:Nat):Int)<255)) (rq ((decide (0<=aB (((c+j:Nat):Int)+1)))&&((decide (aB (((c+j:Nat):Int)+1)<256))&&(decide (aB (((c+j:Nat):Int)+1)<(set.length:Int))))) (some (set.getD (Int.toNat (aB (((c+j:Nat):Int)+1))) false,set))) (some (false,set)):O (Bool×J Bool))=some (false,set):=by
      by_cases arV:c+j<255
      ·rw [cz om,cw om,xS om om om,bZ,hPc]
       grind
      ·rw [cf om]
     rw [e,aC];dsimp only;rw [aK,aeQ om,aeQ om,fu bz om,cw om,hrun]
 grind
def AB(l:J cj)(b:Int):Bool:=l.any fun s=>decide (s.qG<=b)&&decide (b<=s.kg)
theorem apw(F:Nat)(l:J cj)(b:Int)(hF:l.length<F)(hl:l.length<50000000):vO F l b=some (AB l b):=by
 unfold vO wx;rw [qV l (fun i=>(i:Int)) (fun s=>decide (s.qG<=b)&&decide (b<=s.kg)) (fun _ _=>some true) (some false) hF (by rfl) (fun i h rc=>?_) (fun rc=>?_),Gm]
 ·rw [aH,cI];rfl
 ·rw [cz om,bP h,bP h,bZ,gd h,aH,aC,cF,cw om]
 ·rw [cf om]
theorem Gq(F:Nat)(l:J cj)(hF:l.length+300<F)(hl:l.length<50000000):HW F l=some (DD (fun c=>AB l (c:Int)) 256):=by
 generalize hP:(fun c:Nat=>AB l (c:Int))=P;have hPc:∀c:Nat,AB l (c:Int)=P c:=fun c=>by rw [<-hP]
 refine cN (fun s=>∃c:Nat,s=((c:Int),DD P c)/\c<=256) (fun s=>256-s.1.toNat) ?_ F _ ⟨0,rfl,om⟩ bz;rintro s ⟨c,rfl,hc⟩;have hdl:=ZE P c;by_cases JY:c<256
 ·left
  refine⟨(((c+1:Nat):Int),DD P (c+1)),⟨c+1,rfl,om⟩,bz,fun rc=>?_⟩;dsimp only;rw [cz om,aeQ JY,apw F l _ om hl,aC,hPc,cw om,DD]
  cases hb:P c with
  | false=>rfl
  | true=>
   rw [je,aK,aZ,ZD];by_cases h0:0<(DD P c).length
   ·have hm:(DD P c).getD ((DD P c).length-1) gC∈DD P c:=by
     grind
    obtain⟨q,q1,q2,q3⟩:=Vl P c _ hm;rw [cz om,zC om h0,bP om,aC,bZ,dT h0,I4];dsimp only;rw [q2,bN (x:=(q:Int)) om,cw om,show ((q:Int)+1==(c:Int))=(((q+1:Nat):Int)==(c:Int)) from rfl]
    cases (((q+1:Nat):Int)==(c:Int)) with
    | true=>rw [aZ,aZ,bP om]
    | false=>rw [aK,aK,fu bz om]
   ·rw [cf om,aC,dF h0,SH]
    rw [aK,aK,fu bz om]
 grind
def RS(set:J Bool)(sp:J cj):Prop:=set.length=256/\∀c:Nat,c<256->set.getD c false=AB sp (c:Int)
theorem Pz(a b:J cj)(c:Int):AB (a++b) c=(AB a c||AB b c):=by unfold AB;rw [List.any_append]
theorem RW{st:J Bool}{k:Nat}(h:k<st.length)(c:Nat):(st.set k true).getD c false=(st.getD c false||c==k):=by
 grind
theorem ag4:∀k:Fin 8,∀b:Fin 256,nq 0 (CL.getD k.val pV).fname (b.val:Int)=some (AB (CL.getD k.val pV).sF (b.val:Int)):=by decide +kernel
theorem ag5(F:Nat){c:mc}(hc:c∈CL){b:Nat}(hb:b<256):nq F c.fname (b:Int)=some (AB c.sF (b:Int)):=by
 obtain⟨k,hk,rfl⟩:=lS hc;have:=ag4 ⟨k,by rw [<-S3];exact hk⟩ ⟨b,hb⟩;rw [gd hk] at this;exact this
def ZF(run:J Int)(c:mc):Bool:=run==cU c.fname
theorem ab4(n:Bs)(h:isName n=true):∃c∈CL,CL.find? (ZF (cU n))=some c/\c.fname=n:=by
 unfold isName at h;simp at h;rcases h with rfl|rfl|rfl|rfl|rfl|rfl|rfl|rfl
 ·exact⟨CL.getD 0 pV,by decide,by decide,by decide⟩
 ·exact⟨CL.getD 1 pV,by decide,by decide,by decide⟩
 ·exact⟨CL.getD 2 pV,by decide,by decide,by decide⟩
 ·exact⟨CL.getD 3 pV,by decide,by decide,by decide⟩
 ·exact⟨CL.getD 4 pV,by decide,by decide,by decide⟩
 ·exact⟨CL.getD 5 pV,by decide,by decide,by decide⟩
 ·exact⟨CL.getD 6 pV,by decide,by decide,by decide⟩
 ·exact⟨CL.getD 7 pV,by decide,by decide,by decide⟩
theorem KY:∀c∈CL,isName c.fname=true/\c.fname.length=5/\∀b∈c.fname,97<=b.toNat/\b.toNat<=122:=by decide
theorem WN(x:J fB)(i:Nat):cU (cu (jW x i))=jW x i:=by
 unfold cU cu;rw [Ah]
 conv=>rhs;rw [<-U1 (jW x i)]
 refine adY fun v hv=>?_;obtain⟨e,he,rfl⟩:=rD.1 hv;have hl:=List.all_takeWhile (p:=Cl) (l:=x.drop i);have:=p4.1 hl e he;unfold Cl at this
 grind [UInt8.toNat_ofNat']
theorem aeR(x:J fB)(i:Nat):(∃c∈CL,CL.find? (fun c=>xh x i ((([91,58]:Bs)++c.fname)++([58,93]:Bs)))=some c/\yC x i=(c.fname,((i+9:Nat):Int),true)/\i+9<=x.length) \/
  (CL.find? (fun c=>xh x i ((([91,58]:Bs)++c.fname)++([58,93]:Bs)))=none/\(yC x i).2.2=false):=by
 have hp:∀c∈CL,xh x i ((([91,58]:Bs)++c.fname)++([58,93]:Bs))=((eD x i 91&&eD x (i+1) 58)&&((eD x (i+2+(jW x (i+2)).length) 58&&eD x (i+2+(jW x (i+2)).length+1) 93)&&ZF (jW x (i+2)) c)):=fun c hc=>aeP x i c.fname (KY c hc).2.1 (KY c hc).2.2
 cases hA:(eD x i 91&&eD x (i+1) 58) with
 | false=>
  right;refine⟨?_,by unfold yC;rw [hA];rfl⟩
  simp_all
 | true=>
  cases hB:(eD x (i+2+(jW x (i+2)).length) 58&&eD x (i+2+(jW x (i+2)).length+1) 93) with
  | false=>
   right;refine⟨?_,by unfold yC;rw [hA,hB];rfl⟩
   simp_all
  | true=>
   cases hN:isName (cu (jW x (i+2))) with
   | true=>
    left;obtain⟨c,h1,h2,h3⟩:=ab4 _ hN;rw [WN] at h2
    have hlen:(jW x (i+2)).length=5:=by
     grind [KY,cU,cu,List.length_map,WN]
    refine⟨c,h1,?_,?_,?_⟩
    ·have:∀(L:J mc),(∀c∈L,c∈CL)->L.find? (fun c=>xh x i ((([91,58]:Bs)++c.fname)++([58,93]:Bs)))=L.find? (ZF (jW x (i+2))):=by
      intro L
      induction L with
      | nil=>intro _;rfl
      | cons a L ih=>
       grind
     simp_all
    ·unfold yC
     grind
    ·have h8:=agZ (cE _ _▸hB:_/\_).2
     omega
   | false=>
    right;refine⟨?_,by unfold yC;rw [hA,hB,hN];rfl⟩;rw [List.find?_eq_none];intro c hc;rw [hp c hc,hA,hB];simp
    cases hq:ZF (jW x (i+2)) c with
    | false=>rfl
    | true=>
     unfold ZF at hq
     simp_all [RM,KY]
theorem ag6(F:Nat)(x:J fB)(i:Nat)(set:J Bool)(sp:J cj)(hF:x.length+1000<F)(hx:x.length<50000000)(hc:RN x)(hi:i<x.length)(hR:RS set sp):
  ∃(e:Nat)(set':J Bool)(sp':J cj),lG F x (i:Int) set=some ((e:Int),set')/\p8 F (x.map HX) (i:Int)=some (sp',(e:Int))/\RS set' (sp++sp')/\i<e/\e<=x.length/\sp'.length<=4:=by
 obtain⟨hs,hR⟩:=hR;have hw1:aB ((i:Int)+1)=((i+1:Nat):Int):=cw om;have AA:aB ((i:Int)+2)=((i+2:Nat):Int):=by grind [bN]
 have WL:aB ((i:Int)+3)=((i+3:Nat):Int):=by grind [bN]
 have hml:(x.map HX).length=x.length:=lW _
 have hfb:∀k,k<x.length->((x.map HX).getD k iY).fb=(x.getD k cM).fb:=fun k hk=>by
  rw [gd (l:=x.map HX) (by rw [hml];exact hk),Rt,gd hk];rfl
 have aqO:p8 F (x.map HX) (i:Int)=(CL.find? (fun c=>xh x i ((([91,58]:Bs)++c.fname)++([58,93]:Bs)))).elim
   (cond (cond (cond (eD x (i+1) 45) (decide (i+2<x.length)) false) (!eD x (i+2) 93) false)
    (cond (decide ((x.getD i cM).fb<=(x.getD (i+2) cM).fb)) (some ([cj.mk (x.getD i cM).fb (x.getD (i+2) cM).fb],((i+3:Nat):Int))) (some ([],((i+3:Nat):Int))))
    (some ([cj.mk (x.getD i cM).fb (x.getD i cM).fb],((i+1:Nat):Int)))) fun c=>some (c.sF,((i+9:Nat):Int)):=by
  unfold p8 wx;rw [ak9,aC]
  rw [qV CL (fun i=>(i:Int)) (fun c=>xh x i ((([91,58]:Bs)++c.fname)++([58,93]:Bs))) (fun _ c=>some (c.sF,((i+9:Nat):Int))) (cond (cond (cond (eD x (i+1) 45) (decide (i+2<x.length)) false) (!eD x (i+2) 93) false)
    (cond (decide ((x.getD i cM).fb<=(x.getD (i+2) cM).fb)) (some ([cj.mk (x.getD i cM).fb (x.getD (i+2) cM).fb],((i+3:Nat):Int))) (some ([],((i+3:Nat):Int))))
    (some ([cj.mk (x.getD i cM).fb (x.getD i cM).fb],((i+1:Nat):Int)))) (by rw [S3];omega) (by rfl) (fun k hk rc=>?_) (fun rc=>?_),Nk]
  ·have hm:=aeK _ (gU hk)
   have hk8:k<8:=by rw [<-S3];exact hk
   rw [cz om,bP hk,bZ,gd hk,cw om];generalize CL[k]=c at hm;have hl:((([91,58]:Bs)++c.fname)++([58,93]:Bs)).length=9:=by simp;omega
   grind [aB,bN,oY,alZ,bP]
  ·rw [cf om,bP om,hw1,AA,WL,ju,jz,aC,ju,jz,aH,aC,aC,aH,aC,hml]
   rw [show decide (((i+2:Nat):Int)<(x.length:Int))=decide (i+2<x.length) from decide_eq_decide.2 om]
   cases h4:cond (cond (eD x (i+1) 45) (decide (i+2<x.length)) false) (!eD x (i+2) 93) false with
   | false=>simp_all
   | true=>
    have h5:i+2<x.length:=by
     simp_all
    rw [aZ,aZ,b9 om om,bZ,bZ,hfb i hi,hfb (i+2) h5]
 rw [aqO];have hb:=hc.at hi;rcases aeR x i with⟨c,hcm,hfind,hcl,h9⟩|⟨hfind,hcl⟩
 ·rw [hfind]
  refine (fun (h:∃st:J Bool,st.length=256/\(∀b:Nat,b<256->st.getD b false=(set.getD b false||AB c.sF (b:Int)))/\lG F x (i:Int) set=some (((i+9:Nat):Int),st))=>?_) ?_
  ·obtain⟨st,h1,h2,h3⟩:=h
   exact⟨i+9,st,c.sF,h3,rfl,⟨h1,fun b hb=>by simp_all [Pz]⟩,om,h9,(aeK c hcm).2⟩
  ·unfold lG wx
   rw [(RO F x i om om).resolve_right om,hcl,aC,aZ]
   obtain⟨r,⟨st,h1,h2,rfl⟩,h3⟩:∃r:Int×J Bool,(∃st:J Bool,st.length=256/\(∀b:Nat,b<256->st.getD b false=(set.getD b false||AB c.sF (b:Int)))/\r=(((i+9:Nat):Int),st))/\(b8 (σ:=Int×(J Bool)) (R:=Int×(J Bool)) (fun gP x2=>
     cond (decide (x2.1<256))
     ((nq F c.fname x2.1).bind fun x4=>
     cond x4
     (rq ((decide (0<=x2.1))&&((decide (x2.1<256))&&(decide (x2.1<(x2.2.length:Int))))) (gP (aB (x2.1+1),x2.2.set (Int.toNat x2.1) true)))
     (gP (aB (x2.1+1),x2.2)))
     (some (((i+9:Nat):Int),x2.2))) F (0,set))=some r:=by
    refine iG _ (fun s:Int×J Bool=>∃k:Nat,s.1=(k:Int)/\k<=256/\s.2.length=256/\∀b:Nat,s.2.getD b false=(set.getD b false||(decide (b<k)&&AB c.sF (b:Int)))) (fun s=>256-s.1.toNat) ?_ F _ ⟨0,rfl,om,hs,fun b=>by simp⟩ bz;rintro⟨ii,st⟩ ⟨k,h0,hk,hl,hst⟩ rc hrc;dsimp only at h0 hl hst⊢;subst h0;by_cases hk:k<256
    ·rw [cz om,ag5 F hcm hk,aC,cw om]
     cases hin:AB c.sF (k:Int) with
     | true=>
      rw [aZ,xS om om om,bZ];refine hrc _ ⟨k+1,rfl,om,by simpa using hl,fun b=>?_⟩ bz;dsimp only;rw [RW om,hst b]
      grind
     | false=>
      refine hrc _ ⟨k+1,rfl,om,hl,fun b=>?_⟩ bz
      grind
    grind
   simp_all
 ·rw [hfind]
  show ∃(e:Nat)(set':J Bool)(sp':J cj),_/\(cond _ _ _)=_/\_;unfold lG wx;rw [(RO F x i om om).resolve_right om,aC,hcl,aK,hw1,AA,WL,gX,aC,gX,aH,aC]
  have e1:cond (eD x (i+1) 45) (decide (((i+2:Nat):Int)<(x.length:Int)),set) (false,set)=((cond (eD x (i+1) 45) (decide (i+2<x.length)) false),set):=by
   grind
  rw [e1];dsimp only;rw [aC,aH,aC];have e2:∀a b:Bool,cond a (b,set) (false,set)=(cond a b false,set):=by simp_all
  rw [e2];dsimp only
  cases h4:cond (cond (eD x (i+1) 45) (decide (i+2<x.length)) false) (!eD x (i+2) 93) false with
  | false=>
   rw [aK,aK,bP hi,bZ,xS om om om];refine⟨i+1,_,_,rfl,rfl,⟨by simpa using hs,fun b nN=>?_⟩,om,om,si⟩;rw [RW om,hR b nN,Pz];congr 1;unfold AB
   grind
  | true=>
   have h5:i+2<x.length:=by
    simp_all
   have nN:=hc.at h5;rw [aZ,aZ,bP hi,bZ,bZ,bN (x:=(x.getD i cM).fb) om,bN (x:=(x.getD (i+2) cM).fb) om];generalize (x.getD i cM).fb=lo at hb;generalize (x.getD (i+2) cM).fb=hi2 at nN
   obtain⟨r,⟨st,h1,h2,rfl⟩,h3⟩:∃r:Int×J Bool,(∃st:J Bool,st.length=256/\(∀b:Nat,b<256->st.getD b false=(set.getD b false||(decide (lo<=(b:Int))&&decide ((b:Int)<=hi2))))/\r=(((i+3:Nat):Int),st))/\(b8 (σ:=Int×(J Bool)) (R:=Int×(J Bool)) (fun RX x9=>
     rq ((decide (0<=((i+2:Nat):Int)))&&(decide (((i+2:Nat):Int)<(x.length:Int)))) (cond (decide (x9.1<=hi2))
     (rq ((decide (0<=x9.1))&&((decide (x9.1<256))&&(decide (x9.1<(x9.2.length:Int))))) (RX (aB (x9.1+1),x9.2.set (Int.toNat x9.1) true)))
     (some (((i+3:Nat):Int),x9.2)))) F (lo,set))=some r:=by
    refine iG _ (fun s:Int×J Bool=>lo<=s.1/\s.1<=256/\s.2.length=256/\(∀v:Int,lo<=v->v<s.1->v<=hi2)/\∀b:Nat,s.2.getD b false=(set.getD b false||(decide (lo<=(b:Int))&&decide ((b:Int)<s.1)))) (fun s=>256-s.1.toNat) ?_ F _ ⟨YL _,om,hs,fun v h1 h2=>om,fun b=>by
     grind⟩ bz
    rintro⟨ii,st⟩ ⟨h6,h7,hl,hv,hst⟩ rc hrc;dsimp only at h6 h7 hl hv hst⊢;rw [bP h5];by_cases hle:ii<=hi2
    ·rw [cz hle,xS om om om,bN om]
     refine hrc _ ⟨by dsimp only;omega,by dsimp only;omega,by simpa using hl,fun v h1 h2=>by dsimp only at h2;omega,fun b=>?_⟩ (by dsimp only;omega);dsimp only;rw [RW om,hst b,Bool.or_assoc]
     grind
    grind
   by_cases hlh:lo<=hi2
   ·rw [cz hlh]
    refine⟨i+3,st,[cj.mk lo hi2],h3,rfl,⟨h1,fun b ZG=>?_⟩,om,om,si⟩;rw [h2 b ZG,hR b ZG,Pz];congr 1;unfold AB;simp
   ·rw [cf hlh]
    refine⟨i+3,st,[],h3,rfl,⟨h1,fun b ZG=>?_⟩,om,om,si⟩;rw [h2 b ZG,hR b ZG,Pz];congr 1;unfold AB
    grind
theorem NA{σ τ R:Type}{b1:(σ->O R)->σ->O R}{b2:(τ->O R)->τ->O R}(P:σ->τ->Prop)(m:σ->Nat)
  (hs:∀s t,P s t->(∃s' t',P s' t'/\m s'<m s/\(∀rc,b1 rc s=rc s')/\∀rc,b2 rc t=rc t')\/∃z,(∀rc,b1 rc s=some z)/\∀rc,b2 rc t=some z) :
  ∀(F1 F2:Nat)(s:σ)(t:τ),P s t->m s<F1->m s<F2->∃z,b8 b1 F1 s=some z/\b8 b2 F2 t=some z
 | 0,_,s,t,_,h,_=>by omega
 | _+1,0,s,t,_,_,h=>by omega
 | F1+1,F2+1,s,t,hP,h1,h2=>by
  show ∃z,b1 (b8 b1 F1) s=some z/\b2 (b8 b2 F2) t=some z;rcases hs s t hP with⟨s',t',g1,g2,g3,g4⟩|⟨z,g1,g2⟩
  ·rw [g3,g4];exact NA P m hs F1 F2 s' t' g1 om om
  simp_all
theorem ZH{P Q:Nat->Bool}:∀k,(∀c,c<k->P c=Q c)->DD P k=DD Q k
 | 0,_=>rfl
 | k+1,h=>by
  unfold DD;rw [ZH k fun c hc=>h c om,h k om]
theorem aeS(F:Nat)(x:J fB)(i:Nat)(hF:4*x.length+1000<F)(hx:x.length<12000000)(hc:RN x)(hi:i<x.length):∃z,oc F x (i:Int)=some z/\qP F (x.map HX) (i:Int)=some z:=by
 have hml:(x.map HX).length=x.length:=lW _;have hw1:aB ((i:Int)+1)=((i+1:Nat):Int):=cw om;unfold oc qP wx;rw [hw1,gX,aC,gX,aC,aH,aC,cw om,aH,aC,ju,jz,aC,ju,jz,aC,aH,aC,aH,aC];generalize hneg:cond (eD x (i+1) 33) true (eD x (i+1) 94)=neg
 obtain⟨s0,hs0,hs1,hs2,hy⟩:∃s0:Nat,cond neg (((i+1+1:Nat):Int)) ((i+1:Nat):Int)=(s0:Int)/\i<s0/\s0<=i+2/\cond neg (((i+1+1:Nat):Int),(aE.mk 4 [] false []).fKind,(aE.mk 4 [] false []).fText,true,(aE.mk 4 [] false []).cL) (((i+1:Nat):Int),(aE.mk 4 [] false []).fKind,(aE.mk 4 [] false []).fText,(aE.mk 4 [] false []).Cm,(aE.mk 4 [] false []).cL)=((s0:Int),4,[],neg,[]):=by
  cases neg
  ·grind
  ·exact⟨i+2,rfl,om,om,rfl⟩
 rw [hs0,hy]
 refine NA (fun (s:Int×Bool×J Bool)(t:Int×J cj×Bool)=>∃(k:Nat)(fi:Bool)(set:J Bool)(sp:J cj),s=((k:Int),fi,set)/\t=((k:Int),sp,fi)/\i<k/\k<=x.length+2/\RS set sp/\sp.length<=4*k) (fun s=>x.length+2-s.1.toNat) ?_ F F _ _ ⟨s0,true,_,_,rfl,rfl,hs1,om,⟨si,fun c h=>by
  rw [aeh,List.getElem?_replicate];simp [h,AB]⟩,si⟩ bz bz
 rintro _ _ ⟨k,fi,set,sp,rfl,rfl,hk,hk2,hR,hl⟩;dsimp only;by_cases Ez:k<x.length
 ·have e2:cond (eD x k 93) (!fi,set) (false,set)=((eD x k 93 && !fi),set):=by cases eD x k 93<;>rfl
  cases h4:(eD x k 93 && !fi) with
  | true=>
   right
   have h5:cond fi true (!eD x k 93)=false:=by
    simp_all
   refine⟨(aE.mk 4 [] neg (DD (fun c=>set.getD c false) 256),((k+1:Nat):Int),true),fun rc=>?_,fun rc=>?_⟩
   ·rw [cz om,gX,aC,aH,aC,e2,h4]
    rw [aZ,cC (by rw [hR.1];rfl),ai8 F set om hR.1,aC,cw om]
   ·rw [ju,jz,aC,aH,hml,cz (show (k:Int)<(x.length:Int) by omega),aC,h5,aK,cf (show ¬ (x.length:Int)<=(k:Int) by omega),Gq F sp om om,aC,cw om]
    rw [ZH 256 fun c hc=>(hR.2 c hc).symm]
  | false=>
   left
   have h5:cond fi true (!eD x k 93)=true:=by
    grind
   obtain⟨e,set',sp',g1,g2,g3,g4,g5,g6⟩:=ag6 F x k set sp om om hc Ez hR;refine⟨_,_,⟨e,false,set',sp++sp',rfl,rfl,om,om,g3,by grind⟩,bz,fun rc=>?_,fun rc=>?_⟩
   ·simp_all [cz,gX,aC,aH,aK]
   ·rw [ju,jz,Option.bind_some,aH,hml,cz (show (k:Int)<(x.length:Int) by omega),Option.bind_some,h5,cond_true,g2,Option.bind_some,fu (by dsimp only;omega) om]
 ·right
  simp_all [cf,ju,jz,aC,aH,aK,cz]
theorem aeT(F:Nat)(l:J aD)(hF:l.length<F)(rU:4*ck l+1000<F)(h1:l.length<1000000000)(h2:ck l<=10000000):∃p,iX F l=some p/\j8 F l=some p:=by
 unfold iX j8 wx;rw [KV F l hF om h1 om,QJ F l hF om h1 om,aC,aC,apv];have hx:(l.flatMap sE).length<=ck l:=JW _ Vj _;have hc:=Zw l;generalize (l.flatMap sE)=x at hx hc;have hml:(x.map HX).length=x.length:=lW _;refine NA (fun (s t:J aE×Int)=>s=t/\∃k:Nat,s.2=(k:Int)/\k<=x.length/\s.1.length<=k) (fun s=>x.length-s.2.toNat) ?_ F F _ _ ⟨rfl,0,rfl,om,si⟩ bz bz;rintro⟨acc,ii⟩ _ ⟨rfl,k,h0,hk,ha⟩;dsimp only at h0 ha⊢;subst h0
 have hex:∀a b:Int,a≠b->eD x k a=true->eD x k b=false:=by
  grind [zU]
 have hfb:k<x.length->((x.map HX).getD k iY).fb=(x.getD k cM).fb:=fun hk=>by
  rw [gd (l:=x.map HX) (by rw [hml];exact hk),Rt,gd hk];rfl
 by_cases Ez:k<x.length
 ·left
  have hc1:∀(it:aE),(decide (acc.length+([it]:J aE).length<=9223372036854775807)&&decide ((acc.length+([it]:J aE).length)*56<=140737488355328))=true:=fun it=>nO bz om
  cases QL:eD x k 91 with
  | true=>
   have QM:=hex 91 42 de QL;have h63:=hex 91 63 de QL;obtain⟨z,z1,z2⟩:=aeS F x k om om hc Ez;obtain⟨r,r1,r2⟩:=QK F x k om om hc Ez;have hzr:z=r:=qE (z1.symm.trans r2);subst hzr
   cases hz:z.2.2 with
   | true=>
    obtain⟨-,e,g2,g3,g4⟩:=r1 hz;refine⟨(acc++[z.1],(e:Int)),(acc++[z.1],(e:Int)),⟨rfl,e,rfl,g4,bz⟩,bz,fun rc=>?_,fun rc=>?_⟩
    ·rw [cz om,gX,aC,QL,aZ,z1,aC,hz,aZ,cC (hc1 _),g2]
     cases h:rc (acc++[z.1],(e:Int))<;>rfl
    ·rw [hml,cz om,ju,jz,aC,QM,aK,ju,jz,aC,h63,aK,ju,jz,aC,QL,aZ,z2,aC,hz,aZ,cC (hc1 _),g2]
     cases h:rc (acc++[z.1],(e:Int))<;>rfl
   | false=>
    refine⟨(acc++[aE.mk 1 (cu [(x.getD k cM).fb]) false []],((k+1:Nat):Int)),_,⟨rfl,k+1,rfl,om,bz⟩,bz,fun rc=>?_,fun rc=>?_⟩
    ·rw [cz om,gX,aC,QL,aZ,z1,aC,hz,aK]
     show ((fG F x (k:Int) 42).bind _)=_;rw [gX,aC,QM,aK,gX,aC,h63,aK,bP Ez,cC (hc1 _),cw om,bZ]
    ·rw [hml,cz om,ju,jz,aC,QM,aK,ju,jz,aC,h63,aK,ju,jz,aC,QL,aZ,z2,aC,hz,aK]
     show rq _ (rq _ (rc _))=_
     grind [bP,cC,cw,Int.toNat_natCast]
  | false=>
   cases QM:eD x k 42 with
   | true=>
    refine⟨(acc++[aE.mk 3 [] false []],((k+1:Nat):Int)),_,⟨rfl,k+1,rfl,om,bz⟩,bz,fun rc=>?_,fun rc=>?_⟩
    ·rw [cz om,gX,aC,QL,aK]
     show ((fG F x (k:Int) 42).bind _)=_;rw [gX,aC,QM,aZ,cC (hc1 _),cw om]
    ·rw [hml,cz om,ju,jz,aC,QM,aZ,cC (hc1 _),cw om]
   | false=>
    cases h63:eD x k 63 with
    | true=>
     refine⟨(acc++[aE.mk 2 [] false []],((k+1:Nat):Int)),_,⟨rfl,k+1,rfl,om,bz⟩,bz,fun rc=>?_,fun rc=>?_⟩
     ·rw [cz om,gX,aC,QL,aK]
      show ((fG F x (k:Int) 42).bind _)=_;rw [gX,aC,QM,aK,gX,aC,h63,aZ,cC (hc1 _),cw om]
     ·rw [hml,cz om,ju,jz,aC,QM,aK,ju,jz,aC,h63,aZ,cC (hc1 _),cw om]
    | false=>
     refine⟨(acc++[aE.mk 1 (cu [(x.getD k cM).fb]) false []],((k+1:Nat):Int)),_,⟨rfl,k+1,rfl,om,bz⟩,bz,fun rc=>?_,fun rc=>?_⟩
     ·rw [cz om,gX,aC,QL,aK]
      show ((fG F x (k:Int) 42).bind _)=_;rw [gX,aC,QM,aK,gX,aC,h63,aK,bP Ez,cC (hc1 _),cw om,bZ]
     ·rw [hml,cz om,ju,jz,aC,QM,aK,ju,jz,aC,h63,aK,ju,jz,aC,QL,aK]
      show rq _ (rq _ (rc _))=_
      grind [bP,cC,cw,Int.toNat_natCast]
 simp_all [cf]
theorem KZ{σ τ R S:Type}{b1:(σ->O R)->σ->O R}{b2:(τ->O S)->τ->O S}(Q:O R->O S->Prop)(P:σ->τ->Prop)(m:σ->Nat)
  (hs:∀s t,P s t->∀rc1 bA,(∀s' t',P s' t'->m s'<m s->Q (rc1 s') (bA t'))->Q (b1 rc1 s) (b2 bA t)) :
  ∀(F1 F2:Nat)(s:σ)(t:τ),P s t->m s<F1->m s<F2->Q (b8 b1 F1 s) (b8 b2 F2 t)
 | 0,_,s,t,_,h,_=>by omega
 | _+1,0,s,t,_,_,h=>by omega
 | F1+1,F2+1,s,t,hP,h1,h2=>hs s t hP (b8 b1 F1) (b8 b2 F2) fun s' t' g1 g2=>KZ Q P m hs F1 F2 s' t' g1 om om
theorem HY(F:Nat)(p:J aE)(hF:p.length+300<F)(hp:p.length<50000000)(hit:∀it∈p,nr it):mD F p=kO F p:=by
 unfold mD kO wx;refine KZ (fun a b=>a=b) (fun s t=>s=t/\∃k:Nat,s=(k:Int)/\k<=p.length) (fun s=>p.length-s.toNat) ?_ F F _ _ ⟨rfl,0,rfl,om⟩ bz bz;rintro _ _ ⟨rfl,k,rfl,hk⟩ rc1 bA hrc;by_cases hk:k<p.length
 ·have hI:=hit _ (gU hk)
  rw [cz (show (k:Int)<(p.length:Int) by omega),cz (show (k:Int)<(p.length:Int) by omega),bP hk,bP hk,bZ,gd hk];generalize p[k]=it at hI;have hl:=hI.2.2;obtain⟨c,hc⟩:=Co F it.cL om om;have hnext:=hrc ((k+1:Nat):Int) ((k+1:Nat):Int) ⟨rfl,k+1,rfl,om⟩ bz;simp only [aH,aC,hc];rw [cw om]
  cases (cond (cond (decide (it.fKind<1)) true (decide (4<it.fKind))) true ((it.fText.length:Int) != cond (it.fKind==1) 1 0)) with
  | true=>rfl
  | false=>
   rw [aK,aK]
   cases (cond (it.fKind != 4) (cond it.Cm true (decide (0<(it.cL.length:Int)))) false) with
   | true=>rfl
   | false=>
    rw [aK,aK]
    have hin:∀A:O Bool,b8 (σ:=Int) (R:=Bool) (fun QN x7=>
       cond (decide (x7<(it.cL.length:Int)))
       (rq ((decide (0<=x7))&&(decide (x7<(it.cL.length:Int)))) ((cond (decide ((it.cL.getD (Int.toNat x7) gC).kg<(it.cL.getD (Int.toNat x7) gC).qG))
       (some true)
       (cond (decide (0<x7))
       (rq ((decide (0<=aB (x7-1)))&&(decide (aB (x7-1)<(it.cL.length:Int)))) (some (decide (aB ((it.cL.getD (Int.toNat x7) gC).qG)<=aB ((aB ((it.cL.getD (Int.toNat (aB (x7-1))) gC).kg))+1)))))
       (some false)):O Bool).bind fun x9=>
       cond x9
       (some false)
       (QN (aB (x7+1)))))
       A) F 0=cond c A (some false):=by
     intro A;have JY:=hc;unfold od wx at JY
     have hsw:∀(a b:O Bool),b=some c->(∃c',b=some c'/\a=cond c' A (some false))->a=cond c A (some false):=by
      rintro a b h1 ⟨c',h2,h3⟩;rw [h1] at h2;cases h2;exact h3
     refine hsw _ _ JY (KZ (fun a b=>∃c',b=some c'/\a=cond c' A (some false)) (fun (s t:Int)=>s=t/\∃j:Nat,s=(j:Int)/\j<=it.cL.length) (fun s=>it.cL.length-s.toNat) ?_ F F 0 0 ⟨rfl,0,rfl,om⟩ bz bz);rintro s t hst rcA rcB hAB
     ·obtain⟨rfl,j,rfl,hj⟩:=hst
      by_cases hj:j<it.cL.length
      ·have e:∃b,(cond (decide ((it.cL.getD (Int.toNat (j:Int)) gC).kg<(it.cL.getD (Int.toNat (j:Int)) gC).qG)) (some true) (cond (decide (0<(j:Int))) (rq ((decide (0<=aB ((j:Int)-1)))&&(decide (aB ((j:Int)-1)<(it.cL.length:Int)))) (some (decide (aB ((it.cL.getD (Int.toNat (j:Int)) gC).qG)<=aB ((aB ((it.cL.getD (Int.toNat (aB ((j:Int)-1))) gC).kg))+1))))) (some false)):O Bool)=some b:=by
        by_cases h0:0<j
        ·rw [zC om h0,cz (show (0:Int)<(j:Int) by omega),b9 om om,aH];exact⟨_,rfl⟩
        ·rw [cf (show ¬ (0:Int)<(j:Int) by omega),aH];exact⟨_,rfl⟩
       obtain⟨b,hb⟩:=e;rw [cz (show (j:Int)<(it.cL.length:Int) by omega),cz (show (j:Int)<(it.cL.length:Int) by omega),bP hj,bP hj];simp only [bP hj];rw [hb,aC,aC,cw om]
       cases b with
       | true=>exact⟨false,rfl,rfl⟩
       | false=>exact hAB _ _ ⟨rfl,j+1,rfl,om⟩ bz
      ·rw [cf (show ¬ (j:Int)<(it.cL.length:Int) by omega),cf (show ¬ (j:Int)<(it.cL.length:Int) by omega)]
       exact⟨true,rfl,rfl⟩
    rw [hin]
    cases c with
    | true=>exact hnext
    | false=>rfl
 ·rw [cf (show ¬ (k:Int)<(p.length:Int) by omega),cf (show ¬ (k:Int)<(p.length:Int) by omega)]
def iP(n:Nat)(f:Nat->Bool):J Bool:=(List.range n).map f
theorem Cp(n:Nat)(f:Nat->Bool):(iP n f).length=n:=by unfold iP;simp
variable{n:Nat}
theorem xj(f:Nat->Bool)(h:i<n):(iP n f).getD i false=f i:=by
 unfold iP
 simp_all
theorem kZ{f g:Nat->Bool}(h:∀i,i<n->f i=g i):iP n f=iP n g:=by
 unfold iP
 simp_all
theorem Gr(n i:Nat)(f:Nat->Bool)(b:Bool):(iP n f).set i b=iP n (fun j=>cond (j==i) b (f j)):=by
 unfold iP;refine Af si fun j h1 h2=>?_
 grind
theorem RY(n:Nat):List.replicate n false=iP n (fun _=>false):=by
 refine Af (by simp [iP]) fun j h1 h2=>?_;simp [iP]
section
variable (p : J aE) (s : Bs)
def S4(i:Nat):aE:=p.getD i gi
def mE(i:Nat):Bool:=(S4 p i).fKind==3
def RZ(it:aE)(b:Int):Bool:=
 cond (it.fKind==1) (((it.fText.getD 0 0).toNat:Int)==b) (cond (it.fKind==4) (!((it.cL.any fun x=>decide (x.qG<=b)&&decide (b<=x.kg))==it.Cm)) true)
def NB(i k:Nat):Bool:=RZ (S4 p i) ((s.getD k 0).toNat:Int)
def upE(f:Nat->Bool):Nat->Bool
 | 0=>f 0
 | k+1=>f (k+1)||upE f k
def prE(f g:Nat->Bool):Nat->Bool
 | 0=>false
 | k+1=>f k&&g k
def EE:Nat->Nat->Bool
 | 0,k=>k==0
 | i+1,k=>cond (mE p i) (upE (EE i) k) (prE (EE i) (NB p s i) k)
def EP(i k:Nat):Bool:=EE p s i k||(mE p i&&EE p s (i+1) k)
theorem ade:mE p p.length=false:=by
 unfold mE S4;rw [aeh,Pq (ek _)];rfl
theorem PA(h:mE p i=true)(k:Nat):EE p s (i+1) (k+1)=(EE p s i (k+1)||EE p s (i+1) k):=by
 rw [EE,EE,h];rfl
theorem K1(h:mE p i=true):EE p s (i+1) 0=EE p s i 0:=by rw [EE,h];rfl
theorem Vm(h:mE p i=false)(k:Nat):EE p s (i+1) (k+1)=(EE p s i k&&NB p s i k):=by rw [EE,h];rfl
theorem ZI(h:mE p i=false):EE p s (i+1) 0=false:=by rw [EE,h];rfl
theorem aeU(h:mE p i=true):∀k,EE p s i k=true->EE p s (i+1) k=true
 | 0,e=>by simp_all [K1]
 | k+1,e=>by simp_all [PA]
def yD(f:Nat->Bool):Nat->Bool
 | 0=>f 0
 | i+1=>f (i+1)||(yD f i&&mE p i)
def vP(f:Nat->Bool)(b k j:Nat):Bool:=(decide (j<b)&&(f j&&mE p j))||(decide (0<j)&&(decide (j<=b)&&(f (j-1)&&(!mE p (j-1)&&NB p s (j-1) k))))
theorem ai9:∀i,yD p (fun j=>j==0) i=EP p s i 0:=by
 have hE:∀i,EP p s i 0=EE p s i 0:=by
  unfold EP
  simp_all [K1]
 intro i
 induction i with
 | zero=>rfl
 | succ i ih=>
  rw [yD]
  grind [ZI,K1]
theorem adf(k:Nat):∀i,i<=p.length->yD p (vP p s (fun j=>EP p s j k) p.length k) i=EP p s i (k+1):=by
 have hpre:∀i,i<=p.length->vP p s (fun j=>EP p s j k) p.length k i=((mE p i&&EE p s (i+1) k)||(decide (0<i)&&(!mE p (i-1)&&EE p s i (k+1)))):=by
  intro i hi;unfold vP;congr 1
  ·by_cases h:i<p.length
   ·unfold EP
    grind [aeU]
   grind [ade,decide_eq_false]
  ·cases i with
   | zero=>simp
   | succ i=>
    unfold EP
    grind [Vm]
 intro i
 induction i with
 | zero=>
  intro hi;rw [yD,hpre 0 hi];unfold EP;rw [show EE p s 0 (k+1)=false from rfl]
  cases hs:mE p 0 with
  | false=>simp
  | true=>rw [PA p s hs,show EE p s 0 (k+1)=false from rfl];simp
 | succ i ih=>
  intro hi;rw [yD,hpre (i+1) hi,ih om]
  have e2:EP p s (i+1) (k+1)=(EE p s (i+1) (k+1)||(mE p (i+1)&&EE p s (i+2) k)):=by
   unfold EP
   grind [PA]
  rw [e2];unfold EP
  grind [aeU]
theorem ZJ(f:Nat->Bool)(n:Nat)(h:∀i,i<=n->f i=false):∀i,i<=n->yD p f i=false
 | 0,hi=>h 0 hi
 | i+1,hi=>by rw [yD,h _ hi,ZJ f n h i om];rfl
theorem Vn(k:Nat)(h:∀i,i<=p.length->EP p s i k=false):∀d i,i<=p.length->EP p s i (k+d)=false
 | 0,i,hi=>h i hi
 | d+1,i,hi=>by
  rw [<-Pg,<-adf p s (k+d) i hi];refine ZJ p _ p.length (fun j hj=>?_) i hi;unfold vP;dsimp only;rw [Vn k h d j hj];by_cases h0:0<j
  ·rw [Vn k h d (j-1) om];simp
  ·simp [h0]
theorem ag7(k:Nat):EP p s p.length k=EE p s p.length k:=by unfold EP;rw [ade];simp
end
def K2(b:Int)(x:cj):Bool:=decide (x.qG<=b)&&decide (b<=x.kg)
theorem al1(F:Nat)(it:aE)(b:Int)(hF:300<F)(h:nr it):vQ F it b=some (RZ it b):=by
 unfold vQ RZ wx
 cases hk:(it.fKind==1) with
 | true=>
  have:=h.1 (eq_of_beq hk)
  rw [aZ,aZ,oY om]
 | false=>
  cases (it.fKind==4) with
  | false=>rfl
  | true=>
   have hl:=h.2.2;refine cN (fun s=>∃k:Nat,s=((it.cL.take k).any (K2 b),(k:Int))/\k<=it.cL.length) (fun s=>it.cL.length-s.2.toNat) ?_ F _ ⟨0,rfl,om⟩ bz;rintro s ⟨k,rfl,hk2⟩;by_cases hk2:k<it.cL.length
   ·left
    refine⟨_,⟨k+1,rfl,om⟩,bz,fun rc=>?_⟩;rw [bP hk2,bZ,aH,aH,cw om,lB hk2,List.any_append];unfold K2
    simp_all
   ·right
    obtain rfl:k=it.cL.length:=om;intro rc;rw [cf om,yf];rfl
theorem aja(F:Nat)(it:aE)(b:Int)(hF:300<F)(h:nr it):CW F it b=some (RZ it b):=by
 unfold CW RZ wx
 cases hk:(it.fKind==1) with
 | true=>
  have:=h.1 (eq_of_beq hk)
  rw [aZ,aZ,oY om]
 | false=>
  cases (it.fKind==4) with
  | false=>rfl
  | true=>
   have hl:=h.2.2
   have e:vO F it.cL b=some (it.cL.any (K2 b)):=by
    refine cN (fun s=>∃k:Nat,s=(k:Int)/\k<=it.cL.length/\(it.cL.take k).any (K2 b)=false) (fun s=>it.cL.length-s.toNat) ?_ F _ ⟨0,rfl,om,rfl⟩ bz;rintro s ⟨k,rfl,hk2,hn⟩;by_cases hk2:k<it.cL.length
    ·have hin:(cond (decide (it.cL[k].qG<=b)) (rq ((decide (0<=(k:Int)))&&(decide ((k:Int)<(it.cL.length:Int)))) (some (decide (b<=it.cL[k].kg)))) (some false):O Bool)=some (K2 b it.cL[k]):=by
      rw [bP hk2];unfold K2
      grind
     have apx:(it.cL.take (k+1)).any (K2 b)=K2 b it.cL[k]:=by
      grind [List.take_succ_eq_append_getElem]
     cases hb:K2 b it.cL[k] with
     | true=>
      right;intro rc;have:=Pk.2 ⟨_,gU hk2,hb⟩;rw [cz om,bP hk2,bZ,gd hk2,hin,hb,this]
      rfl
     | false=>
      left;refine⟨_,⟨k+1,rfl,om,by rw [apx,hb]⟩,bz,fun rc=>?_⟩;rw [cz om,bP hk2,bZ,gd hk2,hin,hb,cw om];rfl
    grind
   rw [e];rfl
theorem WO(F:Nat)(p:J aE)(f:Nat->Bool)(hF:p.length<F)(hp:p.length<50000000):sG F p (iP (p.length+1) f)=some (iP (p.length+1) (yD p f)):=by
 refine cN (fun s=>∃k:Nat,s=((k:Int),iP (p.length+1) (fun j=>cond (decide (j<=k)) (yD p f j) (f j)))/\k<=p.length) (fun s=>p.length-s.1.toNat) ?_ F _ ⟨0,congrArg (Prod.mk (0:Int)) (kZ fun i hi=>by
   cases i with
   | zero=>rfl
   | succ i=>simp_all),om⟩ bz
 rintro s ⟨k,rfl,hk⟩;have hlen:∀g:Nat->Bool,(iP (p.length+1) g).length=p.length+1:=fun g=>Cp _ g;by_cases hk:k<p.length
 ·left
  refine⟨_,⟨k+1,rfl,om⟩,bz,fun rc=>?_⟩;rw [cz om,bP hk,b9 om (by rw [hlen];omega),bZ,xj _ (show k<p.length+1 by omega),aH,cw om,dT (show k<=k by omega),aZ];have e:∀(A B:Bool)(L:J Bool),cond A (B,L) (false,L)=((A&&B),L):=by simp_all
  rw [e];show cond (yD p f k&&mE p k) _ _=_
  have e2:iP (p.length+1) (fun j=>cond (decide (j<=k+1)) (yD p f j) (f j))=cond (yD p f k&&mE p k) ((iP (p.length+1) (fun j=>cond (decide (j<=k)) (yD p f j) (f j))).set (k+1) true) (iP (p.length+1) (fun j=>cond (decide (j<=k)) (yD p f j) (f j))):=by
   cases hc:(yD p f k&&mE p k) with
   | true=>
    rw [Gr];refine kZ fun j hj=>?_;by_cases h1:j=k+1
    ·subst h1
     rw [I3,dT om,yD,hc];simp
    grind
   | false=>
    refine kZ fun j hj=>?_;by_cases h1:j=k+1
    ·subst h1
     rw [dT (show k+1<=k+1 by omega),dF (show ¬ k+1<=k by omega),yD,hc];simp
    grind
  rw [e2]
  cases hc:(yD p f k&&mE p k) with
  | true=>rw [aZ,aZ,b9 om (by rw [hlen];omega),bZ]
  | false=>rfl
 ·right
  intro rc;rw [cf om];rw [kZ (g:=yD p f) fun j hj=>by grind]
theorem ag8(p:J aE)(s:Bs)(f:Nat->Bool)(k j:Nat):vP p s f 0 k j=false:=by
 unfold vP
 grind
theorem ag9(p:J aE)(s:Bs)(f:Nat->Bool)(b k j:Nat):
  vP p s f (b+1) k j=cond (f b&&mE p b) (cond (j==b) true (vP p s f b k j)) (cond (f b&&NB p s b k) (cond (j==b+1) true (vP p s f b k j)) (vP p s f b k j)):=by
 unfold vP
 grind
theorem aeV(F:Nat)(p:J aE)(s:Bs)(f:Nat->Bool)(k:Nat)(hF:p.length+300<F)(hp:p.length<50000000)(hit:∀it∈p,nr it):
  rW F p (iP (p.length+1) f) ((s.getD k 0).toNat:Int)=some (iP (p.length+1) (yD p (vP p s f p.length k))):=by
 unfold rW wx;have hw:aB ((p.length:Int)+1)=((p.length+1:Nat):Int):=cw om;have hlen:∀g:Nat->Bool,(iP (p.length+1) g).length=p.length+1:=fun g=>Cp _ g;rw [hw,cC (by rw [dT om,dT om,dT om,dT om,dT om];rfl),RY];refine cN (fun x=>∃b:Nat,x=((b:Int),iP (p.length+1) (vP p s f b k))/\b<=p.length) (fun x=>p.length-x.1.toNat) ?_ F _ ⟨0,by grind [kZ,ag8],om⟩ bz;rintro x ⟨b,rfl,hb⟩;by_cases hb:b<p.length
 ·left
  refine⟨_,⟨b+1,rfl,om⟩,bz,fun rc=>?_⟩;have hki:(S4 p b)=p[b]:=by unfold S4;rw [gd hb]
  have hst:(p[b].fKind==3)=mE p b:=by unfold mE;rw [hki]
  have hfi:RZ p[b] ((s.getD k 0).toNat:Int)=NB p s b k:=by unfold NB;rw [hki]
  rw [cz om,bP hb,b9 om (by rw [hlen];omega),bZ,gd hb,xj _ (show b<p.length+1 by omega),cw om,hst,al1 F p[b] _ om (hit _ (gU hb)),hfi]
  have e:iP (p.length+1) (vP p s f (b+1) k)=cond (f b&&mE p b) ((iP (p.length+1) (vP p s f b k)).set b true) (cond (f b&&NB p s b k) ((iP (p.length+1) (vP p s f b k)).set (b+1) true) (iP (p.length+1) (vP p s f b k))):=by
   grind [Gr,kZ,ag9]
  rw [e]
  cases hf:f b with
  | false=>rfl
  | true=>
   cases hs:mE p b with
   | true=>
    grind [b9]
   | false=>
    cases hx:NB p s b k with
    | true=>
     grind [b9,Int.toNat_natCast]
    | false=>rfl
 ·right
  obtain rfl:b=p.length:=om;intro rc;rw [cf om,WO F p _ om hp,aC]
theorem ab5(F:Nat)(st:J Bool)(hF:st.length<F)(hs:st.length<100000000):∃b,(b=false->∀i,i<st.length->st.getD i false=false)/\rX F st true=some b:=by
 unfold rX wx
 obtain⟨r,hr,h⟩:∃r:Int,(r<0->∀i,i<st.length->st.getD i false=false)/\Cq F st true=some r:=by
  refine E6 _ (fun s=>∃k:Nat,s=(k:Int)/\k<=st.length/\∀i,i<k->st.getD i false=false) (fun s=>st.length-s.toNat) ?_ F _ ⟨0,rfl,om,fun i hi=>om⟩ bz;rintro ii ⟨k,rfl,hk,hn⟩;by_cases hk:k<st.length
  ·cases hv:st.getD k false with
   | true=>
    right;refine⟨(k:Int),fun h=>om,fun rc=>?_⟩;rw [cz om,bP hk,bZ,hv]
    rfl
   | false=>
    left;refine⟨_,⟨k+1,rfl,om,fun i hi=>?_⟩,bz,fun rc=>?_⟩
    ·grind
    ·rw [cz om,bP hk,bZ,hv,cw om]
     rfl
  ·obtain rfl:k=st.length:=om
   simp_all
 simp_all
theorem adg(F:Nat)(p:J aE)(s:Bs)(hF:p.length+300<F)(rU:s.length+1<F)(hs:s.length<50000000)(hp:p.length<50000000)(hit:∀it∈p,nr it):
  AD F p s=some (iP (s.length+1) (EE p s p.length)):=by
 unfold AD wx;have hw:aB ((s.length:Int)+1)=((s.length+1:Nat):Int):=cw om;have hlen:∀g:Nat->Bool,(iP (s.length+1) g).length=s.length+1:=fun g=>Cp _ g
 have hrq:∀ {α:Type}(x:O α),rq ((decide (0<=((s.length+1:Nat):Int)))&&((decide (((s.length+1:Nat):Int)<=((s.length+1:Nat):Int)))&&((decide (0<((s.length+1:Nat):Int)))&&((decide (((s.length+1:Nat):Int)<=9223372036854775807))&&(decide ((1:Int)*((s.length+1:Nat):Int)<=140737488355328)))))) x=x:=by
  grind [cC,dT]
 rw [hw,hrq,bZ,oY si,RY,Gr]
 refine cN (fun x:J Bool×Int=>∃i:Nat,x=(iP (s.length+1) (EE p s i),(i:Int))/\i<=p.length) (fun x=>p.length-x.2.toNat) ?_ F _ ⟨0,congrArg (fun y=>(y,(0:Int))) (kZ fun j _=>by
   show cond (j==0) true false=(j==0);cases (j==0)<;>rfl),om⟩ bz
 rintro x ⟨i,rfl,hi⟩;dsimp only;by_cases hi:i<p.length
 ·left
  refine⟨(iP (s.length+1) (EE p s (i+1)),((i+1:Nat):Int)),⟨i+1,rfl,om⟩,bz,fun rc=>?_⟩;rw [cz om,hrq];refine cN (fun x:Int×J Bool=>∃k:Nat,x=((k:Int),iP (s.length+1) (fun j=>decide (j<k)&&EE p s (i+1) j))/\k<=s.length+1) (fun x=>s.length+1-x.1.toNat) ?_ F _ ⟨0,congrArg (Prod.mk (0:Int)) (kZ fun j _=>by simp),om⟩ bz;rintro x ⟨k,rfl,hk⟩;dsimp only;by_cases hk:k<=s.length
  ·left
   refine⟨_,⟨k+1,rfl,om⟩,bz,fun bA=>?_⟩;have hki:(S4 p i)=p[i]:=by unfold S4;rw [gd hi]
   have hst:(p[i].fKind==3)=mE p i:=by unfold mE;rw [hki]
   have mL:∀b,b=EE p s (i+1) k->(iP (s.length+1) (fun j=>decide (j<k)&&EE p s (i+1) j)).set k b=iP (s.length+1) (fun j=>decide (j<k+1)&&EE p s (i+1) j):=by
    rintro b rfl;rw [Gr]
    grind
   rw [cz om,bP hi,bZ,gd (l:=p) hi,hst,cw om]
   cases hs3:mE p i with
   | true=>
    rw [aZ,b9 om (by rw [hlen];omega),bZ,xj _ om]
    have hres:∀b,b=EE p s (i+1) k->((some ((k:Int),b,iP (s.length+1) (fun j=>decide (j<k)&&EE p s (i+1) j)):O (Int×Bool×(J Bool))).bind fun x5=>
      rq ((decide (0<=x5.1))&&(decide (x5.1<(x5.2.2.length:Int)))) (bA (((k+1:Nat):Int),x5.2.2.set (Int.toNat x5.1) x5.2.1)))=bA (((k+1:Nat):Int),iP (s.length+1) (fun j=>decide (j<k+1)&&EE p s (i+1) j)):=by
     grind [b9,Int.toNat_natCast]
    cases he:EE p s i k with
    | true=>simp_all [aeU]
    | false=>
     rw [aK]
     cases k with
     | zero=>
      simp_all [cf,K1]
     | succ k=>
      rw [cz om,zC om om,b9 om (by rw [hlen];omega),bZ,xj _ om]
      simp_all [PA,Nat.add_sub_cancel,dT]
   | false=>
    rw [aK]
    cases k with
    | zero=>
     rw [cf om,b9 om (by rw [hlen];omega),bZ,mL false (by rw [ZI p s hs3])]
    | succ k=>
     rw [cz om,zC om om,b9 om (by rw [hlen];omega),bZ,Nat.add_sub_cancel,xj _ om]
     cases he:EE p s i k with
     | false=>rw [aK,b9 om (by rw [hlen];omega),bZ,mL false (by simp_all [Vm])]
     | true=>
      rw [aZ,bP hi,bP (show k<s.length by omega),bZ,aja F p[i] _ om (hit _ (gU hi)),aC,b9 om (by rw [hlen];omega),mL _ (by rw [Vm p s hs3,he];unfold NB;rw [hki];rfl)]
  ·right
   obtain rfl:k=s.length+1:=om;intro bA;rw [cf om,cw om,kZ (g:=EE p s (i+1)) fun j hj=>by simp_all]
 grind
theorem aha(F:Nat)(p:J aE)(n:Bs)(hF:p.length+300<F)(rU:n.length+1<F)(hn:n.length<50000000)(hp:p.length<50000000)(hit:∀it∈p,nr it){v:Bool}(hv:mD F p=some v):
  CX F p n=some (v&&EE p n p.length n.length):=by
 unfold CX wx;rw [<-HY F p hF hp hit,hv,aC,adg F p n hF rU hn hp hit]
 cases v with
 | false=>rfl
 | true=>
  rw [aC,b9 om (by rw [Cp];omega),xj _ om];rfl
theorem Names.app{a b:J Bs}(ha:Names a)(hb:Names b):Names (a++b):=fun c hc=>by
 rcases qF.1 hc with h|h
 ·exact ha c h
 ·exact hb c h
theorem Names.left{a b:J Bs}(h:Names (a++b)):Names a:=fun c hc=>h c (by simp [hc])
theorem Vo{n:J Bs}(h:Names n):pathOf n=[47]↔n=[]:=by
 have:=ab0 h;rw [tJ] at this;simpa using this
structure VT(l:List bE):Prop where
 len:l.length<=128
 root:∃f∈l,f.cg=[47]
 path:∀f∈l,E4 f.cg=true
 dir:∀f∈l,f.oJ=true->f.fData=[]
 anF:∀f∈l,f.cg=[47]->f.oJ=true
 data:∀f∈l,f.fData.length<=8192
 asc:QI l
 par:∀f∈l,f.cg≠[47]->∃p∈l,p.cg=qN f.cg/\p.oJ=true
theorem VT.up{l:J bE}(h:VT l):∀(r:J Bs)(m:J Bs)(c:Bs),Names (m++c::r)->(∃f∈l,f.cg=pathOf (m++c::r))->∃f∈l,f.cg=pathOf (m++[c]):=by
 intro r
 induction hn:r.length generalizing r with
 | zero=>
  intro m c _ hf;obtain rfl:r=[]:=D3 hn
  exact hf
 | succ k ih=>
  intro m c hN ⟨f,hf,e⟩;have hr:r≠[]:=by intro e;subst e;simp at hn
  have hne:f.cg≠[47]:=by
   rw [e];intro e';have:=(Vo hN).1 e';simp at this
  obtain⟨p,hp,e1,-⟩:=h.par f hf hne;rw [e,Zs hN] at e1
  have e2:(m++c::r).dropLast=m++c::r.dropLast:=by
   rw [List.dropLast_append_of_ne_nil si,List.dropLast_cons_of_ne_nil hr]
  rw [e2] at e1;exact ih r.dropLast (by simp [hn]) m c (by rw [<-e2];exact hN.dropLast) ⟨p,hp,e1⟩
def GI(n:Nat)(o:J (J aD)×J aD):Prop:=(∀c∈o.1,(∀r∈c,r.fText.length=1)/\c.length<=n)/\(∀r∈o.2,r.fText.length=1)/\o.2.length<=n
theorem GI.up{m:Nat}{o:J (J aD)×J aD}(h:GI n o)(hm:n<=m):GI m o:=⟨fun c hc=>⟨(h.1 c hc).1,by have:=(h.1 c hc).2;omega⟩,h.2.1,by have:=h.2.2;omega⟩
theorem ZK(cl:Int):∀(t:Bs)(n:Nat)(o:J (J aD)×J aD),GI n o->GI (n+t.length) (t.foldl (mN cl) o)
 | [],n,o,h=>h
 | b::t,n,o,h=>by
  have h2:GI (n+1) (mN cl o b):=by
   obtain⟨h1,h2,h3⟩:=h;unfold mN;cases (b==47)
   ·refine⟨fun c hc=>⟨(h1 c hc).1,by have:=(h1 c hc).2;omega⟩,fun r hr=>?_,bz⟩
    rcases qF.1 hr with hr|hr
    ·exact h2 r hr
    ·obtain rfl:=nM.1 hr;rfl
   ·refine⟨fun c hc=>?_,fun r hr=>(by cases hr),si⟩
    rcases qF.1 hc with hc|hc
    ·exact⟨(h1 c hc).1,by have:=(h1 c hc).2;omega⟩
    ·obtain rfl:=nM.1 hc;exact⟨h2,om⟩
  have:=ZK cl t (n+1) _ h2;rwa [show n+1+t.length=n+(b::t).length by simp;omega] at this
theorem anN:∀(l:J aD)(n:Nat)(o:J (J aD)×J aD),GI n o->GI (n+ck l) (l.foldl Al o)
 | [],n,o,h=>h
 | r::l,n,o,h=>by
  have h2:GI (n+r.fText.length) (Al o r):=by
   unfold Al;cases (r.aN != 0&&(r.aN != 1&&r.aN != 2))
   ·exact ZK _ _ _ _ h
   ·exact h.up om
  have:=anN l _ _ h2;rwa [show n+r.fText.length+ck l=n+ck (r::l) by simp [ck];omega] at this
theorem anO(l:J aD):∀c∈Am l,ck c=c.length/\c.length<=ck l:=by
 have h:=anN l 0 ([],[]) ⟨fun c hc=>(by cases hc),fun r hr=>(by cases hr),si⟩;rw [qC] at h;intro c hc;rcases qF.1 hc with hc|hc
 ·exact⟨aeN (h.1 c hc).1,(h.1 c hc).2⟩
 ·obtain rfl:=nM.1 hc;exact⟨aeN h.2.1,h.2.2⟩
end Go.Proofs.YtpgbhdldcmcenaaGreatDoor
