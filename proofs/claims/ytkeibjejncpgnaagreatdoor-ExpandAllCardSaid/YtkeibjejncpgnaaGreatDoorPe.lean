import Derived.Test.YtkeibjejncpgnaaGreatDoorZ2
import Derived.Test.YtkeibjejncpgnaaGreatDoorSo
import Derived.Lib.SplitLaws
import Derived.Lib.LastIndexByte
import Derived.Lib.Join
set_option linter.all false
namespace Go.Proofs.YtkeibjejncpgnaaGreatDoor
open Go.RT
def bA:Bs→List Bs
 | []=>[[]]
 | b::l=>cond (b==47) ([]::bA l) (match bA l with
  | []=>[[b]]
  | p::ps=>(b::p)::ps)
theorem xC (l:Bs):bA l≠[]:=by
 cases l with
 | nil=>simp [bA]
 | cons b l =>
  unfold bA;cases (b==47)
  ·simp only [cond_false];split<;>simp
  ·simp
theorem yY (l:Bs):(bA l).length≤l.length+1:=by
 induction l with
 | nil=>simp [bA]
 | cons b l ih =>
  unfold bA;cases (b==47)
  ·simp only [cond_false]
   split
   ·simp
   ·rename_i p ps h
    rw [h] at ih;simp at ih ⊢;omega
  ·simp only [cond_true,jd];omega
theorem HR (l:Bs):∀p∈bA l,p.length≤l.length:=by
 induction l with
 | nil=>intro p hp;simp [bA] at hp;subst hp;simp
 | cons b l ih =>
  intro p hp;unfold bA at hp;cases hb:(b==47)<;>rw [hb] at hp
  ·simp only [cond_false] at hp
   split at hp
   ·exact absurd ‹_› (xC l)
   ·rename_i q qs h
    rcases fK.1 hp with rfl | hp
    ·have:=ih q (by rw [h];simp)
     simp;omega
    ·have:=ih p (by rw [h];simp [hp])
     simp;omega
  ·simp only [cond_true] at hp
   rcases fK.1 hp with rfl | hp
   ·simp
   ·have:=ih p hp
    simp;omega
theorem JF:∀(l:Bs),Lib.splitK [47] 0 (l.count 47) l=bA l
 | []=>rfl
 | b::l=>by
  have ih:=JF l;by_cases hb:b=47
  ·subst hb
   have hc:((47:UInt8)::l).count 47=l.count 47+1:=by simp
   have hi:Lib.index ((47:UInt8)::l) [47]=0:=by rw [Lib.index_one];simp [Lib.indexByte]
   rw [hc,Lib.splitK,hi];simp only [show ((0:Int) == -1)=false from rfl];simp [bA,ih]
  ·have MR:(b==47)=false:=by simpa using hb
   have hc:(b::l).count 47=l.count 47:=by simp [List.count_cons,MR]
   have hi:Lib.index (b::l) [47]=if Lib.index l [47] == -1 then -1 else Lib.index l [47]+1:=by
    rw [Lib.index_one,Lib.index_one,Lib.indexByte];simp [hb]
   rw [hc];unfold bA;rw [MR,cond_false,←ih]
   cases hk:l.count 47 with
   | zero=>simp [Lib.splitK]
   | succ k =>
    rw [Lib.splitK,Lib.splitK,hi];by_cases hm:Lib.index l [47]=-1
    ·rw [hm];simp
    ·have hge:0≤Lib.index l [47]:=by
      have:=Lib.indexByte_ge l 47;rw [Lib.index_one] at hm ⊢;omega
     have e1:(Lib.index l [47] == -1)=false:=by simpa using hm
     have e2:((Lib.index l [47]+1) == -1)=false:=by simp;omega
     have e3:(Lib.index l [47]+1).toNat=(Lib.index l [47]).toNat+1:=om;rw [e1];simp only [Bw,if_false];rw [e2];simp only [Bw,if_false,e3,lE,List.length_singleton];rw [XT,show (Lib.index l [47]).toNat+1+1=((Lib.index l [47]).toNat+1)+1 from rfl,List.drop_succ_cons]
theorem NT (F:Nat) (s:Bs) (h:s.length<4294967281):BD F s [47]=some (bA s):=by
 unfold BD;rw [eu (by rw [decide_eq_true h];rfl),Lib.splitB_data];congr 1;rw [←JF];congr 1;show Lib.countB _ _=_;unfold Lib.countB;exact Lib.count_one 47 s
theorem UW:∀(l:Bs) (n:Nat),(∀j,j<n→l.getD j 0≠47)→n<l.length→l.getD n 0=47→bA l=l.take n::bA (l.drop (n+1))
 | [],n,_,h,_=>by simp at h
 | b::l,0,_,_,h=>by
  have hb:b=47:=by simpa using h
  subst hb
  simp [bA]
 | b::l,n+1,h0,h1,h2=>by
  have hb:(b==47)=false:=by
   have:=h0 0 om;simpa using this
  have ih:=UW l n (fun j hj=>by
   have:=h0 (j+1) om;simpa using this) (by simpa using h1) (by simpa using h2)
  rw [bA,hb,cond_false,ih];simp
theorem Pe:∀(l:Bs),(∀j,j<l.length→l.getD j 0≠47)→bA l=[l]
 | [],_=>rfl
 | b::l,h0=>by
  have hb:(b==47)=false:=by
   have:=h0 0 si;simpa using this
  have ih:=Pe l (fun j hj=>by
   have:=h0 (j+1) (by simpa using hj);simpa using this)
  unfold bA;rw [hb,cond_false,ih]
theorem ajf {α:Type} (l:List α) (f k:Nat):sl l (f:Int) (k:Int)=(l.take k).drop f:=by simp [sl]
theorem acE {α:Type} (l:List α) (f:Nat):sl l (f:Int) (l.length:Int)=l.drop f:=by simp [sl]
theorem Yu {α:Type} (l:List α):sl l 1 (l.length:Int)=l.drop 1:=acE l 1
theorem Lx {α:Type} (l:List α) (k:Nat):sl l 0 (k:Int)=l.take k:=by simp [sl]
theorem afH (F:Nat) (s:Bs) (hF:s.length<F) (hs:s.length<1000000000):yw F s=some (bA s):=by
 unfold yw;refine eG (fun x=>∃f k:Nat,x.2.1=(f:Int)∧x.2.2=(k:Int)∧f≤k∧k≤s.length∧x.1.length≤f∧x.1++bA (s.drop f)=bA s∧∀j,f≤j→j<k→s.getD j 0≠47) (fun x=>s.length - x.2.2.toNat) ?_ F _ ⟨0,0,rfl,rfl,om,om,si,si,fun j _ hj=>om⟩ (by simpa using hF);rintro⟨o,fr,ii⟩ ⟨f,k,h0,h0',h1,h2,h3,h4,h5⟩;dsimp only at h0 h0' h3 h4 h5 ⊢;subst h0 h0';by_cases hk:k<s.length
 ·left
  have hg:s.getD k 0=s[k]:=gd hk
  cases hb:(s[k]==47) with
  | true =>
   have hb':s.getD k 0=47:=by rw [hg];exact eq_of_beq hb
   refine⟨(o++[sl s (f:Int) (k:Int)],((k+1:Nat):Int),((k+1:Nat):Int)),⟨k+1,k+1,rfl,rfl,om,om,bx,?_,fun j h h'=>om⟩,bx,fun rc=>?_⟩
   ·have hc:=UW (s.drop f) (k - f) (fun j hj=>by
     have:=h5 (f+j) om om;simpa [List.getD,sQ] using this) bx (by
     have:f+(k - f)=k:=om;simpa [List.getD,sQ,this] using hb')
    rw [←h4,hc,XB,ajf,show f+(k - f+1)=k+1 by omega,List.take_drop,show f+(k - f)=k by omega];simp
   ·rw [ctq om,bu om om,bf,hg,mW _ 47 om,hb,cond_true,Yl om om om,bu bx bx,fo om]
  | false =>
   refine⟨(o,(f:Int),((k+1:Nat):Int)),⟨f,k+1,rfl,rfl,om,om,h3,h4,fun j h h'=>?_⟩,bx,fun rc=>?_⟩
   ·by_cases e:j=k
    ·subst e
     rw [hg];simpa using hb
    ·exact h5 j h om
   ·rw [ctq om,bu om om,bf,hg,mW _ 47 om,hb,cond_false,fo om]
 ·right
  obtain rfl:k=s.length:=om;intro rc;rw [cf om,Yl om om om,bu bx bx,←h4,acE,Pe];intro j hj;have:=h5 (f+j) om (by simp at hj;omega);simpa [List.getD,sQ] using this
def sR (b:UInt8):Bool:=b==47||b==0
def jH (s:Bs):Bool:=(decide (1≤s.length)&&decide (s.length≤32))&&(!(s==[46])&&(!(s==[46,46]) && !(s.any sR)))
theorem ag1 (F:Nat) (s:Bs) (hF:s.length<F) (hs:s.length<1000000000000):AD F s=some (jH s):=by
 unfold AD;rw [oM s (fun i=>(i:Int)) sR (fun _ _=>some false) (some true) hF (by rfl) (fun i h rc=>?_) (fun rc=>?_),BE]
 ·simp only [ax,aE,cT,cN]
  have e1:(decide ((s.length:Int)<1)||decide (32<(s.length:Int)))=!(decide (1≤s.length)&&decide (s.length≤32)):=by
   rw [Eg];simp only [Ef,decide_eq_true_eq,nq,NJ,decide_eq_false_iff_not];omega
  rw [e1];unfold jH;cases (decide (1≤s.length)&&decide (s.length≤32))<;>cases (s==[46])<;>cases (s==[46,46])<;>simp
 ·rw [ctq om,bu om om,bu om om,bf,gd h,mW _ 47 om,mW _ 0 om,ax,aE,cT,fo om]
  rfl
 ·rw [cf om]
set_option maxRecDepth 100000 in
theorem akt (F:Nat) (r:Nat) (hr:128≤r) (hF:4≤F):fR F [47,0] (r:Int)=some (-1):=by
 unfold fR;rw [dT om,dF om];simp only [cond_true,aE,cond_false]
 cases h1:((r:Int)==65533) with
 | true =>
  simp only [cond_true];obtain⟨F,rfl⟩:∃G,F=G+4:=⟨F - 4,om⟩;have e0:dec ([47,0]:Bs) 0=(47,1):=by rw [JG de];rfl
  have e1:dec ([47,0]:Bs) 1=(0,1):=by rw [JG de];rfl
  simp [aF,e0,e1,Nat.blt];rw [show Nat.ble 1 2=true from rfl,show Nat.ble 2 2=true from rfl,show Nat.ble 3 2=false from rfl]
  rfl
 | false =>
  simp only [cond_false]
  have hv:nt F (r:Int)=some true∨nt F (r:Int)=some false:=by
   unfold nt;cases decide (0≤(r:Int))<;>cases decide ((r:Int)<55296)<;>cases decide (57343<(r:Int))<;>cases decide ((r:Int)≤1114111)<;>simp
  rcases hv with hv | hv
  ·rw [hv]
   simp only [aE,Bv,cond_false];obtain⟨h2,h3,h4⟩:=abj hr;have hn:ag (((cU (r:Int)).length:Int) - 1)=(((cU (r:Int)).length - 1:Nat):Int):=qJ om om;obtain⟨F,rfl⟩:∃G,F=G+1:=⟨F - 1,om⟩;rw [hn];simp only [aF];by_cases e:(cU (r:Int)).length=2
   ·have hx:((([47,0]:Bs).getD 1 0).toNat:Int)≠((((cU (r:Int)).getD 1 0).toNat:Int)):=by
     rw [e,show 2 - 1=1 from rfl] at h4;have:(([47,0]:Bs).getD 1 0).toNat=0:=rfl;omega
    rw [e]
    have hx':(((([47,0]:Bs).getD (Int.toNat ((2 - 1:Nat):Int)) 0).toNat:Int) != (((cU (r:Int)).getD (Int.toNat ((2 - 1:Nat):Int)) 0).toNat:Int))=true:=by
     simpa using hx
    have hw:ag (((2 - 1:Nat):Int)+1)=((2:Nat):Int):=by rw [cr om];rfl
    have hsl:sl ([47,0]:Bs) ((2:Nat):Int) ((([47,0]:Bs).length:Nat):Int)=[]:=rfl;rw [hx',hw,hsl];rw [ctq si,bu si si,bu si si,cond_true,Yl si si si,bu si si];unfold strings_IndexByte stringslite_IndexByte u9 ibF;simp only [Lib.indexByte,aE];rw [ctq de];rfl
   ·rw [cf (by simp only [jd,kg];omega)]
  ·rw [hv]
   simp only [aE,ady,cond_true]
theorem ag2 (F:Nat) (r:Nat) (hr:r<128):∃x,fR F [47,0] (r:Int)=some x∧decide (0≤x)=sR (UInt8.ofNat r):=by
 unfold fR strings_IndexByte stringslite_IndexByte u9 ibF;rw [dT om,dT om];simp only [cond_true,aE];refine⟨_,rfl,?_⟩
 have hw:(IntKind.wrap .u8 (r:Int)).toNat.toUInt8=UInt8.ofNat r:=by
  have:IntKind.wrap .u8 (r:Int)=(r:Int):=by
   show ((r:Int) % 256)=r;omega
  rw [this];rfl
 rw [hw];generalize UInt8.ofNat r=b;simp only [Lib.indexByte,sR];by_cases h1:b=47
 ·subst h1;rfl
 ·by_cases h2:b=0
  ·subst h2;rfl
  ·have e1:(b==47)=false:=by simpa using h1
   have e2:(b==0)=false:=by simpa using h2
   have e3:¬ (47:UInt8)=b:=fun h=>h1 h.symm;have e4:¬ (0:UInt8)=b:=fun h=>h2 h.symm;simp [e1,e2,e3,e4]
theorem aku (l:Bs):decide (0≤Lib.indexAny l [47,0])=l.any sR:=by
 induction l with
 | nil=>rfl
 | cons b l ih =>
  have hge:=Lib.indexAny_ge [47,0] l;unfold Lib.indexAny
  have hc:([47,0]:Bs).contains b=sR b:=by
   simp [sR,List.contains,List.elem];cases (b==47)<;>cases (b==0)<;>rfl
  rw [hc,XU]
  cases hb:sR b with
  | true=>simp
  | false =>
   simp only [Bw,if_false,Lt];rw [←ih];by_cases h:Lib.indexAny l [47,0]=-1
   ·rw [h];rfl
   ·have:(Lib.indexAny l [47,0] == -1)=false:=by simpa using h
    rw [this];simp only [Bw,if_false];rw [Eg];simp only [decide_eq_true_eq];omega
theorem ag3 (F:Nat) (s:Bs) (hs:s.length≤8) (hF:10≤F):∃x,strings_IndexAny F s [47,0]=some x∧decide (0≤x)=s.any sR:=by
 have key:∀(n p G:Nat),s.length - p≤n→p≤s.length→n<G→(∀j,j<p→sR (s.getD j 0)=false)→∃x,aF (σ:=Bs × Int) (R:=Int) (fun tg x4 =>
 cond (Nat.blt (Int.toNat x4.2) x4.1.length)
 ((fR F [47,0] ((dec x4.1 (Int.toNat x4.2)).1:Int)).bind fun x6 =>
 cond (decide (0≤x6))
 (some (((Int.toNat x4.2):Nat):Int))
 (tg (x4.1,((((Int.toNat x4.2)+(dec x4.1 (Int.toNat x4.2)).2):Nat):Int))))
 (some (-1))) G (s,((p:Nat):Int))=some x∧decide (0≤x)=s.any sR:=by
  intro n
  induction n with
  | zero =>
   intro p G h1 h2 h3 h4;obtain rfl:p=s.length:=om;obtain⟨G,rfl⟩:∃H,G=H+1:=⟨G - 1,om⟩;refine⟨-1,?_,?_⟩
   ·simp only [aF,bf]
    rw [amj om];rfl
   ·have:s.any sR=false:=by
     rw [adD];intro b hb;obtain⟨j,hj,rfl⟩:=gZ hb;have:=h4 j hj;rw [gd hj] at this;simp [this]
    rw [this];rfl
  | succ n ih =>
   intro p G h1 h2 h3 h4;obtain⟨G,rfl⟩:∃H,G=H+1:=⟨G - 1,om⟩;by_cases hp:p<s.length
   ·simp only [aF,bf]
    rw [amk hp,cond_true];by_cases ha:(s.getD p 0).toNat<128
    ·rw [JG ha]
     obtain⟨x,hx,hx2⟩:=ag2 F _ ha;have hof:UInt8.ofNat (s.getD p 0).toNat=s.getD p 0:=by simp
     rw [hof] at hx2;rw [show (((s.getD p 0).toNat,1):Nat × Nat).1=(s.getD p 0).toNat from rfl,hx,aE,hx2]
     cases hb:sR (s.getD p 0) with
     | true =>
      refine⟨(p:Int),rfl,?_⟩
      have:s.any sR=true:=by
       rw [XR];exact⟨s[p],ei hp,by rw [←gd hp];exact hb⟩
      rw [this,dT om]
     | false =>
      rw [cond_false]
      exact ih (p+1) G om om om (fun j hj=>by
       by_cases e:j=p
       ·subst e;exact hb
       ·exact h4 j om)
    ·obtain⟨d1,d2,d3,d4⟩:=ag4 ha
     rw [akt F _ d1 om,aE];rw [cf om];have:=d3 hp
     exact ih (p+(dec s p).2) G om om om (fun j hj=>by
      by_cases e:j<p
      ·exact h4 j e
      ·have h:=d4 (j - p) om
       rw [show p+(j - p)=j by omega] at h;unfold sR
       have e1:(s.getD j 0==47)=false:=by
        simp only [beq_eq_false_iff_ne,ne_eq];intro e;rw [e] at h;exact absurd h de
       have e2:(s.getD j 0==0)=false:=by
        simp only [beq_eq_false_iff_ne,ne_eq];intro e;rw [e] at h;exact absurd h de
       rw [e1,e2];rfl)
   ·obtain rfl:p=s.length:=om
    exact ih s.length (G+1) om om om h4
 obtain⟨x,h1,h2⟩:=key s.length 0 F om om om (fun j hj=>om);refine⟨x,?_,h2⟩;unfold strings_IndexAny strings_shouldUseASCIISet;rw [show (([47,0]:Bs)==[])=false from rfl,cond_false,show (((([47,0]:Bs).length:Nat):Int)==1)=false from rfl,cond_false];simp only [aE];rw [cf om];exact h1
theorem aml (F:Nat) (s:Bs) (hs:s.length≤32) (hF:10≤F):strings_ContainsAny F s [47,0]=some (s.any sR):=by
 unfold strings_ContainsAny Yk;by_cases h8:s.length≤8
 ·obtain⟨x,h1,h2⟩:=ag3 F s h8 hF
  rw [adK h8,cond_true,h1,aE,h2]
 ·have:Nat.ble s.length 8=false:=by
   cases h:Nat.ble s.length 8
   ·rfl
   ·exact absurd (ef h) h8
  rw [this,cond_false,eu,aE,aku];rw [dT om];rfl
theorem acF (F:Nat) (s:Bs) (hF:10≤F):qK F s=some (jH s):=by
 unfold qK;simp only [ax,aE,cF]
 have e1:(decide (1≤(s.length:Int))&&decide ((s.length:Int)≤32))=(decide (1≤s.length)&&decide (s.length≤32)):=by
  rw [Eg];simp only [aV,decide_eq_true_eq];omega
 rw [e1];unfold jH;cases h1:(decide (1≤s.length)&&decide (s.length≤32))
 ·rfl
 ·simp only [aV,decide_eq_true_eq] at h1
  rw [aml F s h1.2 hF];cases (s==[46])<;>cases (s==[46,46])<;>rfl
def jI (s:Bs):Bool:=s==[47]||((decide (2≤s.length)&&decide (s.length≤128))&&(s.getD 0 0==47&&(bA (s.drop 1)).all jH))
theorem UX (p:List Bs):cond (p.any fun n=>!jH n) (some false) (some true)=some (p.all jH):=by
 rw [ax,cN];congr 1
 induction p with
 | nil=>rfl
 | cons a l ih=>rw [XU,List.all_cons,Bool.not_or,ih,Bool.not_not]
theorem Yv (F:Nat) (s:Bs) (hF:200≤F):qL F s=some (jI s):=by
 unfold qL jI
 cases h1:(s==[47]) with
 | true=>rfl
 | false =>
  simp only [cond_false,ax,aE,cT,Lt];by_cases h2:2≤s.length∧s.length≤128
  ·rw [dF om,dF om,Bool.or_self,cond_false,mS om,aE,Pf _ 47 om,dT h2.1,dT h2.2]
   cases h3:(s.getD 0 0==47) with
   | false=>rfl
   | true =>
    rw [Bv,cond_false,bu om om,Yu,afH F _ bx bx,aE];have hl:=yY (s.drop 1);have hm:=HR (s.drop 1);simp only [xw] at hl hm;rw [oM (bA (s.drop 1)) (fun i=>(i:Int)) (fun n=>!jH n) (fun _ _=>some false) (some true) om (by rfl) (fun i h rc=>?_) (fun rc=>?_),BE,UX]
    ·rfl
    ·have:=hm _ (ei h)
     rw [ctq om,bu om om,bf,gd h,ag1 F _ om om,aE,fo om]
    ·rw [cf om]
  ·have:(decide ((s.length:Int)<2)||decide (128<(s.length:Int)))=true:=by
    simp only [Ef,decide_eq_true_eq];omega
   have h3:(decide (2≤s.length)&&decide (s.length≤128))=false:=by
    rw [NJ];simp only [decide_eq_false_iff_not];omega
   rw [this,cond_true,aE,cond_true,h3];rfl
theorem afI (F:Nat) (s p:Bs):cW F s p=some (decide (p.length≤s.length)&&s.take p.length==p):=by
 unfold cW nw;by_cases h:p.length≤s.length
 ·rw [ctq om,bu om om,dT h,Lx]
  rfl
 ·rw [dF om,dF h]
  rfl
theorem ajg (F:Nat) (s:Bs) (hF:200≤F):qM F s=some (jI s):=by
 unfold qM jI
 cases h1:(s==[47]) with
 | true=>rfl
 | false =>
  have hne:s≠[47]:=by simpa using h1
  simp only [cond_false,Lt];rw [afI];simp only [aE,ax,cT];by_cases h2:2≤s.length∧s.length≤128
  ·rw [dF om,Lt,dT h2.1,dT h2.2]
   have e:(decide (([47]:Bs).length≤s.length)&&s.take ([47]:Bs).length==[47])=(s.getD 0 0==47):=by
    rw [dT bx]
    cases s with
    | nil=>simp at h2
    | cons b l=>simp
   rw [e]
   cases h3:(s.getD 0 0==47) with
   | false=>rfl
   | true =>
    rw [Bv,cond_false,bu om om,Yu,NT F _ bx];simp only [aE];have hl:=yY (s.drop 1);simp only [xw] at hl;rw [oM (bA (s.drop 1)) (fun i=>(i:Int)) (fun n=>!jH n) (fun _ _=>some false) (some true) om (by rfl) (fun i h rc=>?_) (fun rc=>?_),BE,UX]
    ·rfl
    ·rw [ctq om,bu om om,bf,gd h,acF F _ om,aE,fo om]
    ·rw [cf om]
  ·have h3:(decide (2≤s.length)&&decide (s.length≤128))=false:=by
    rw [NJ];simp only [decide_eq_false_iff_not];omega
   rw [h3]
   have:(decide (128<(s.length:Int)) || !(decide (([47]:Bs).length≤s.length)&&s.take ([47]:Bs).length==[47]))=true:=by
    by_cases h4:128<s.length
    ·rw [dT om];rfl
    ·have h5:s.length<2:=om
     rw [Ef,nq,NJ];right
     match s,h5 with
     | [],_=>left;rfl
     | [b],_ =>
      right;simp at hne ⊢;exact hne
   rw [this];rfl
def p9 (s:Bs):Nat:=(Lib.lastIndexByte ⟨⟨s⟩⟩ 47).toNat
def lN (s:Bs):Bs:=cond (p9 s==0) [47] (s.take (p9 s))
theorem ajh (l:Bs) (j:Nat):((Array.mk l)[j]!)=l.getD j 0:=by
 simp [List.getD,getElem!_def];cases l[j]? <;> rfl
theorem b47 (b:UInt8):((b.toNat:Int)=47)↔b=47:=by
 have:=mW b 47 om;rw [Eg] at this;simpa using this
theorem Yw (s:Bs):(Lib.lastIndexByte ⟨⟨s⟩⟩ 47=-1∧∀j,j<s.length→s.getD j 0≠47) ∨
  ∃i:Nat,i<s.length∧Lib.lastIndexByte ⟨⟨s⟩⟩ 47=i∧s.getD i 0=47∧∀j,i<j→j<s.length→s.getD j 0≠47:=by
 have h:=Lib.lastIdx_spec ⟨⟨s⟩⟩ 47 s.length;simp only [ne_eq,b47,ajh] at h;exact h
theorem Pg (s:Bs) (a:Nat) (h1:(a<s.length∧s.getD a 0=47)∨a=0) (h2:∀j,a<j→j<s.length→s.getD j 0≠47):p9 s=a:=by
 unfold p9;rcases Yw s with⟨e,h⟩ | ⟨i,hi,e,h3,h4⟩
 ·rw [e]
  rcases h1 with⟨h5,h6⟩ | h5
  ·exact absurd h6 (h a h5)
  ·subst h5;rfl
 ·rw [e]
  have:i=a:=by
   rcases Nat.lt_trichotomy a i with q | q | q
   ·exact absurd h3 (h2 i q hi)
   ·exact q.symm
   ·rcases h1 with⟨h5,h6⟩ | h5
    ·exact absurd h6 (h4 a q h5)
    ·omega
  omega
theorem ag5 (s:Bs):((p9 s<s.length∧s.getD (p9 s) 0=47)∨p9 s=0)∧∀j,p9 s<j→j<s.length→s.getD j 0≠47:=by
 unfold p9;rcases Yw s with⟨e,h⟩ | ⟨i,hi,e,h3,h4⟩
 ·rw [e];exact⟨.inr rfl,fun j _ hj=>h j hj⟩
 ·rw [e];exact⟨.inl ⟨hi,h3⟩,fun j h h'=>h4 j om h'⟩
theorem akv (s:Bs):p9 s≤s.length:=by
 rcases (ag5 s).1 with h | h<;>omega
theorem aji (F:Nat) (s:Bs) (hF:s.length<F) (hs:s.length<1000000000):Dd F s=some (p9 s:Int):=by
 unfold Dd;refine eG (fun x=>∃a k:Nat,x.1=(a:Int)∧x.2=(k:Int)∧k≤s.length∧((a<k∧s.getD a 0=47)∨a=0)∧∀j,a<j→j<k→s.getD j 0≠47) (fun x=>s.length - x.2.toNat) ?_ F _ ⟨0,0,rfl,rfl,om,.inr rfl,fun j _ hj=>om⟩ (by simpa using hF);rintro⟨aa,ii⟩ ⟨a,k,h0,h0',h1,h2,h3⟩;dsimp only at h0 h0' ⊢;subst h0 h0';by_cases hk:k<s.length
 ·left
  have hg:s.getD k 0=s[k]:=gd hk
  cases hb:(s[k]==47) with
  | true =>
   refine⟨((k:Int),((k+1:Nat):Int)),⟨k,k+1,rfl,rfl,om,.inl ⟨om,by rw [hg];exact eq_of_beq hb⟩,fun j h h'=>om⟩,bx,fun rc=>?_⟩
   rw [ctq om,bu om om,bf,hg,mW _ 47 om,hb,cond_true,fo om]
  | false =>
   have hb':s.getD k 0≠47:=by rw [hg];simpa using hb
   refine⟨((a:Int),((k+1:Nat):Int)),⟨a,k+1,rfl,rfl,om,?_,fun j h h'=>?_⟩,bx,fun rc=>?_⟩
   ·rcases h2 with h2 | h2
    ·exact .inl ⟨om,h2.2⟩
    ·exact .inr h2
   ·by_cases e:j=k
    ·subst e;exact hb'
    ·exact h3 j h om
   ·rw [ctq om,bu om om,bf,hg,mW _ 47 om,hb,cond_false,fo om]
 ·right
  obtain rfl:k=s.length:=om;intro rc;rw [cf om,Pg s a h2 h3]
theorem adS (F:Nat) (s:Bs) (hF:s.length<F) (hs:s.length<1000000000):vg F s=some (lN s):=by
 unfold vg lN;rw [aji F s hF hs,aE];have:=akv s;by_cases h:p9 s=0
 ·rw [h];rfl
 ·have e1:((p9 s:Int)==0)=false:=by simpa using h
  have e2:(p9 s==0)=false:=by simpa using h
  rw [e1,e2,cond_false,cond_false,bu om om,Lx]
def HS (p:Bs) (f:aL):Bool:=f.aU==p
def Gu (l:List aL) (p:Bs):Option aL:=l.find? (HS p)
def NU (l:List aL) (p:Bs):Bool:=l.any (HS p)
def fiS (l:List aL) (p:Bs):Int:=(l.findIdx? (HS p)).elim (-1) fun j=>(j:Int)
theorem ag6 (F:Nat) (l:List aL) (p:Bs) (hF:l.length<F) (hl:l.length<1000000000):AE F l p=some (fiS l p):=by
 unfold AE fiS;rw [oM l (fun i=>(i:Int)) (HS p) (fun i _=>some (i:Int)) (some (-1)) hF (by rfl) (fun i h rc=>?_) (fun rc=>?_),NV _ _ _ aN]
 ·cases l.findIdx? (HS p)<;>simp
 ·rw [ctq om,bu om om,bf,gd h,fo om]
  rfl
 ·rw [cf om]
theorem afJ (l:List aL) (p:Bs):(l.findIdx? (HS p)=none∧Gu l p=none∧NU l p=false)∨∃j,j<l.length∧l.findIdx? (HS p)=some j∧Gu l p=some (l.getD j aN)∧NU l p=true:=by
 unfold Gu NU
 induction l with
 | nil=>exact .inl ⟨rfl,rfl,rfl⟩
 | cons f l ih =>
  rw [List.findIdx?_cons,List.find?_cons,XU]
  cases h:HS p f with
  | true=>exact .inr ⟨0,si,si,si,rfl⟩
  | false =>
   rcases ih with⟨h1,h2,h3⟩ | ⟨j,h0,h1,h2,h3⟩
   ·exact .inl ⟨by simp [h1],h2,by simp [h3]⟩
   ·exact .inr ⟨j+1,by simpa using h0,by simp [h1],by simpa using h2,by simp [h3]⟩
theorem ag7 (l:List aL) (p:Bs):(fiS l p=-1∧Gu l p=none∧NU l p=false)∨∃j:Nat,j<l.length∧fiS l p=(j:Int)∧Gu l p=some (l.getD j aN)∧NU l p=true:=by
 unfold fiS;rcases afJ l p with⟨h1,h2,h3⟩ | ⟨j,h0,h1,h2,h3⟩
 ·rw [h1];exact .inl ⟨rfl,h2,h3⟩
 ·rw [h1];exact .inr ⟨j,h0,rfl,h2,h3⟩
def Ph (a p:Bs):Bool:=cond (a==[47]) (!(p==[47])) (decide (a.length+1≤p.length)&&p.take (a.length+1)==a++[47])
theorem afK (F:Nat) (a p:Bs):yx F a p=some (Ph a p):=by
 unfold yx Ph;cases (a==[47])
 ·rw [cond_false,cond_false]
  by_cases h:a.length+1≤p.length
  ·have hl:a.length<p.length:=om
   rw [ctq om,bu om om,Lx,aE,dT h,O4]
   have e:(p.take (a.length+1)==a++[47])=(p.take a.length==a&&p.getD a.length 0==47):=by
    rw [Eg,jT hl,gd hl];simp only [beq_iff_eq,aV];constructor
    ·intro h
     have:=List.append_inj h bx;exact⟨this.1,by simpa using this.2⟩
    ·rintro⟨h1,h2⟩
     rw [h1,h2]
   rw [e];cases (p.take a.length==a)
   ·rfl
   ·rw [cond_true,bu om om,bf,mW _ 47 om]
    rfl
  ·rw [cf om,dF h]
   rfl
 ·rfl
def De (l:List aL) (p:Bs):Int:=cond (l.any fun f=>!f.jg&&Ph f.aU p) 18 (cond (NU l (lN p)) 0 8)
theorem ag8 (F:Nat) (l:List aL) (p:Bs) (hF:l.length<F) (hl:l.length<1000000000) (hp:p.length<1000000000) (hpF:p.length<F):vh F l p=some (De l p):=by
 unfold vh;rw [oM l (fun i=>(i:Int)) (fun f=>!f.jg&&Ph f.aU p) (fun _ _=>some 18) (some (cond (NU l (lN p)) 0 8)) hF (by rfl) (fun i h rc=>?_) (fun rc=>?_),BE,ax]
 ·rfl
 ·rw [ctq om,bu om om,bu om om,bf,gd h,afK F _ _,fo om]
  simp only [aE,ax,cF]
 ·rw [cf om,adS F p hpF hp,aE,ag6 F l _ hF hl,aE]
  rcases ag7 l (lN p) with⟨h1,h2,h3⟩ | ⟨j,h0,h1,h2,h3⟩
  ·rw [h1,h3];rfl
  ·rw [h1,h3,cf om]
   rfl
def HT (l:List aL) (k:Nat):Int :=
 cond (!jI (l.getD k aN).aU) 10
 (cond (((l.getD k aN).jg && !((l.getD k aN).fData==[]))||((l.getD k aN).aU==[47] && !(l.getD k aN).jg)) 1
 (cond (decide (8192<(l.getD k aN).fData.length)) 3
 (cond (decide (0<k)&&(Op.bytesLess (l.getD k aN).aU (l.getD (k - 1) aN).aU||(l.getD k aN).aU==(l.getD (k - 1) aN).aU)) 25
 (cond (decide (0<k)) (De (l.take k) (l.getD k aN).aU) 0))))
def UY (l:List aL):Nat→Nat→Int
 | 0,_=>0
 | n+1,k=>cond (HT l k==0) (UY l n (k+1)) (HT l k)
def JH (l:List aL):Int:=cond (decide (128<l.length)) 4 (cond (l.length==0 || !((l.getD 0 aN).aU==[47])) 8 (UY l l.length 0))
def JI (l:List aL):Prop:=l.length≤140∧∀f∈l,f.aU.length≤300∧f.fData.length≤9000
theorem JI.at {l:List aL} (h:JI l) (k:Nat):(l.getD k aN).aU.length≤300∧(l.getD k aN).fData.length≤9000:=by
 by_cases hk:k<l.length
 ·rw [gd hk];exact h.2 _ (ei hk)
 ·have:l.getD k aN=aN:=by simp [List.getD,uX (O3 hk)]
  rw [this];exact⟨by decide,by decide⟩
theorem amm (l:List aL):(cond ((l.length:Int)==0)
 (some true)
 (rq (decide (0<(l.length:Int))) (some (!(((l.getD 0 aN).aU)==([47]:Bs))))):Option Bool)=some (l.length==0 || !((l.getD 0 aN).aU==[47])):=by
  cases l with
  | nil=>rfl
  | cons f l =>
   have e1:((((f::l).length:Nat):Int)==0)=false:=by simp;omega
   have e2:((f::l).length==0)=false:=by simp
   rw [e1,e2,cond_false,mS si];rfl
theorem ag9 (l:List aL) (k:Nat) (r:Option Int):cond (!jI (l.getD k aN).aU) (some 10)
 (cond (((l.getD k aN).jg && !((l.getD k aN).fData==[]))||((l.getD k aN).aU==[47] && !(l.getD k aN).jg)) (some 1)
 (cond (decide (8192<(l.getD k aN).fData.length)) (some 3)
 (cond (decide (0<k)&&(Op.bytesLess (l.getD k aN).aU (l.getD (k - 1) aN).aU||(l.getD k aN).aU==(l.getD (k - 1) aN).aU)) (some 25)
 (cond (decide (0<k)) (cond (De (l.take k) (l.getD k aN).aU != 0) (some (De (l.take k) (l.getD k aN).aU)) r) r))))=cond (HT l k==0) r (some (HT l k)):=by
 unfold HT;cases (!jI (l.getD k aN).aU)
 ·cases (((l.getD k aN).jg && !((l.getD k aN).fData==[]))||((l.getD k aN).aU==[47] && !(l.getD k aN).jg))
  ·cases (decide (8192<(l.getD k aN).fData.length))
   ·cases (decide (0<k)&&(Op.bytesLess (l.getD k aN).aU (l.getD (k - 1) aN).aU||(l.getD k aN).aU==(l.getD (k - 1) aN).aU))
    ·cases (decide (0<k))
     ·rfl
     ·simp only [cond_false,cond_true]
      cases h:(De (l.take k) (l.getD k aN).aU==0)
      ·simp only [bne,h];rfl
      ·simp only [bne,h];rfl
    ·rfl
   ·rfl
  ·rfl
 ·rfl
theorem amn {l:List aL} {body:(Int→Option Int)→Int→Option Int} (F:Nat) (hF:l.length<F) (hs:∀(k:Nat) rc,k<l.length→body rc (k:Int)=cond (HT l k==0) (rc ((k+1:Nat):Int)) (some (HT l k))) (he:∀rc,body rc (l.length:Int)=some 0):aF body F 0=some (UY l l.length 0):=by
 refine eG (fun x=>∃k n:Nat,x=(k:Int)∧k+n=l.length∧UY l n k=UY l l.length 0) (fun x=>l.length - x.toNat) ?_ F _ ⟨0,l.length,rfl,om,rfl⟩ (by simpa using hF);rintro x ⟨k,n,rfl,h1,h2⟩
 cases n with
 | zero =>
  right;obtain rfl:k=l.length:=om;intro rc
  rw [he,←h2];rfl
 | succ n =>
  rw [UY] at h2
  cases hv:(HT l k==0) with
  | true =>
   left;rw [hv,cond_true] at h2
   exact⟨_,⟨k+1,n,rfl,om,h2⟩,bx,fun rc=>by rw [hs k rc om,hv];rfl⟩
  | false =>
   right;rw [hv,cond_false] at h2;intro rc;rw [hs k rc om,hv,cond_false,h2]
theorem akw (l:List aL) (k:Nat) (hk:k<l.length) (hl:l.length<1000000000):(cond (decide (0<(k:Int)))
 (rq ((decide (0≤ag ((k:Int) - 1)))&&(decide (ag ((k:Int) - 1)<(l.length:Int)))) (some (Op.bytesLess ((l.getD k aN).aU) ((l.getD (Int.toNat (ag ((k:Int) - 1))) aN).aU)||((l.getD k aN).aU)==((l.getD (Int.toNat (ag ((k:Int) - 1))) aN).aU))))
 (some false):Option Bool)=some (decide (0<k)&&(Op.bytesLess (l.getD k aN).aU (l.getD (k - 1) aN).aU||(l.getD k aN).aU==(l.getD (k - 1) aN).aU)):=by
  by_cases h0:0<k
  ·rw [ctq om,qJ om h0,bu om om,bf,dT h0,O4]
  ·rw [cf om,dF h0,Bool.false_and]
theorem ann (k:Nat):decide (0<(k:Int))=decide (0<k):=by
 rw [Eg];simp only [decide_eq_true_eq];omega
theorem aha (n k:Nat):decide ((k:Int)<(n:Int))=decide (k<n):=by
 rw [Eg];simp only [decide_eq_true_eq];omega
theorem afL (F:Nat) (l:List aL) (hF:400≤F) (h:JI l):yy F l=some (JH l):=by
 have hl:=h.1;unfold yy JH;rw [show decide (128<(l.length:Int))=decide (128<l.length) from aha _ 128,amm,aE]
 cases decide (128<l.length) with
 | true=>rfl
 | false =>
  rw [cond_false,cond_false]
  cases (l.length==0 || !((l.getD 0 aN).aU==[47])) with
  | true=>rfl
  | false =>
   rw [cond_false,cond_false];refine amn F om (fun k rc hk=>?_) (fun rc=>?_)
   ·rw [ctq om,bu om om,bf,Yv F _ om,aE,akw l k hk om,aE]
    simp only [ax,cF,aE,cT];rw [show decide (8192<(((l.getD k aN).fData.length:Nat):Int))=decide (8192<(l.getD k aN).fData.length) from aha _ 8192,ann,bu om om,Lx];have:=(h.at k).1;rw [ag8 F (l.take k) _ bx bx om om,aE,fo om,←ag9]
   ·rw [cf om]
theorem ahb (F:Nat) (l:List aL) (hF:200≤F):∃b,(b=true→JI l)∧yz F l=some b:=by
 unfold yz;refine Gv (fun b=>b=true→JI l) (fun x=>∃n k:Nat,x.1=(n:Int)∧x.2=(k:Int)∧k≤l.length∧k≤140∧n≤10000 * k∧∀f∈l.take k,f.aU.length≤300∧f.fData.length≤9000) (fun x=>140 - x.2.toNat) ?_ F _ ⟨0,0,rfl,rfl,om,om,om,si⟩ bx;rintro⟨nn,ii⟩ ⟨n,k,h0,h0',h1,h2,h3,h4⟩;dsimp only at h0 h0' ⊢;subst h0 h0';simp only [ax,cF,aE];by_cases hc:k<l.length∧k<140∧n<40000
 ·have hk:=hc.1
  have e:((decide ((k:Int)<(l.length:Int))&&decide ((k:Int)<140))&&decide ((n:Int)<40000))=true:=by
   rw [dT om,dT om,dT om];rfl
  rw [e];simp only [cond_true,bf,gd hk];by_cases hb:l[k].aU.length≤300∧l[k].fData.length≤9000
  ·left
   refine⟨(((n+l[k].aU.length+l[k].fData.length:Nat):Int),((k+1:Nat):Int)),⟨_,k+1,rfl,rfl,om,om,om,fun f hf=>?_⟩,bx,fun rc=>?_⟩
   ·rw [jT hk] at hf
    rcases gz.1 hf with hf | hf
    ·exact h4 f hf
    ·simp only [iw] at hf;subst hf;exact hb
   ·rw [bu om om,cf om,bu om om,dF om,aE,cond_false,fo om]
    rw [cr (x:=(n:Int)+_) om,cr om,bu om om,bu om om];congr 2
  ·right
   refine⟨false,fun h=>(by cases h),fun rc=>?_⟩;rw [bu om om];by_cases hp:l[k].aU.length≤300
   ·rw [cf om,bu om om,dT om];rfl
   ·rw [ctq om];rfl
 ·have e:((decide ((k:Int)<(l.length:Int))&&decide ((k:Int)<140))&&decide ((n:Int)<40000))=false:=by
   rw [NJ,NJ];simp only [decide_eq_false_iff_not];omega
  right;rw [e];simp only [cond_false];refine⟨_,fun h=>?_,fun rc=>rfl⟩;simp only [aV,decide_eq_true_eq] at h;refine⟨om,fun f hf=>h4 f ?_⟩;rw [mw om];exact hf
set_option maxRecDepth 100000
theorem w1:mE 60 [47,97,47,98] [46,46,47,99,47,46,47,100,47]=some ([47,97,47,99,47,100],0):=by kernel_rfl
theorem w2:mE 60 [47] [46,46]=some ([47],0):=by kernel_rfl
theorem w3:mE 60 [47,97] []=some ([],8):=by kernel_rfl
def iD:List Bs→Bs
 | []=>[]
 | [x]=>x
 | x::y::l=>x++47::iD (y::l)
theorem join_eq:∀(l:List Bs),Lib.join l [47]=iD l
 | []=>rfl
 | [x]=>by simp [Lib.join,List.intercalate,iD]
 | x::y::l=>by
  have ih:=join_eq (y::l);simp only [Lib.join,List.intercalate] at ih ⊢;rw [iD,←ih];simp
theorem Pj (x:Bs) {l:List Bs} (h:l≠[]):iD (x::l)=x++47::iD l:=by
 cases l with
 | nil=>exact absurd rfl h
 | cons y l=>rfl
theorem Pk:∀(l:List Bs) (c:Bs),l≠[]→iD (l++[c])=iD l++47::c
 | [],c,h=>absurd rfl h
 | [x],c,_=>rfl
 | x::y::l,c,_=>by
  have ih:=Pk (y::l) c si;rw [je,Pj x si,ih,iD];simp
theorem AF:∀(s:Bs),iD (bA s)=s
 | []=>rfl
 | b::l=>by
  have ih:=AF l;rw [bA]
  cases hb:(b==47) with
  | true =>
   rw [cond_true,Pj _ (xC l),ih]
   rw [eq_of_beq hb];rfl
  | false =>
   rw [cond_false]
   cases hp:bA l with
   | nil=>exact absurd hp (xC l)
   | cons p ps =>
    dsimp only;rw [hp] at ih
    cases ps with
    | nil=>rw [iD] at ih ⊢;rw [ih]
    | cons q qs=>rw [iD] at ih ⊢;rw [je,ih]
def akx (c:Bs):Prop:=∀b∈c,b≠47
theorem afM {c:Bs} (h:jH c=true):akx c:=by
 intro b hb e;unfold jH at h;simp only [aV,nq] at h;have:=adD.1 h.2.2.2 b hb;subst e;exact this rfl
theorem NW {c:Bs} (h:jH c=true):1≤c.length∧c.length≤32:=by
 unfold jH at h;simp only [aV,decide_eq_true_eq] at h;exact h.1
theorem join_le:∀(l:List Bs),(∀c∈l,jH c=true)→(iD l).length≤33 * l.length
 | [],_=>by simp [iD]
 | [x],h=>by
  have:=NW (h x si)
  simp [iD];omega
 | x::y::l,h=>by
  have h1:=NW (h x si);have h2:=join_le (y::l) fun c hc=>h c (by simp [hc]);rw [iD];simp at h2 ⊢;omega
def pathOf (l:List Bs):Bs:=[47]++iD l
def Names (l:List Bs):Prop:=∀c∈l,jH c=true
theorem Names.snoc {l:List Bs} (h:Names l) {c:Bs} (hc:jH c=true):Names (l++[c]):=by
 intro x hx;rcases gz.1 hx with hx | hx
 ·exact h x hx
 ·simp only [iw] at hx;subst hx;exact hc
theorem Names.dropLast {l:List Bs} (h:Names l):Names l.dropLast:=fun c hc=>h c (List.dropLast_subset l hc)
theorem ajj {l:List Bs} (h:Names l) (hl:l≠[]):iD l≠[]:=by
 match l,hl with
 | [x],_ =>
  have:=NW (h x si)
  intro e;rw [iD] at e;rw [e] at this;simp at this
 | x::y::l,_=>intro e;rw [iD] at e;simp at e
theorem abk {l:List Bs} (h:Names l):(pathOf l==[47])=(l==[]):=by
 cases l with
 | nil=>rfl
 | cons x l =>
  have:=ajj h si;rw [show ((x::l)==[])=false from rfl];simp only [pathOf,je,iV,beq_eq_false_iff_ne,ne_eq,List.cons.injEq,true_and];exact this
theorem Pm (a c:Bs) (hc:akx c):p9 (a++47::c)=a.length:=by
 refine Pg _ _ (.inl ⟨si,by simp [List.getD]⟩) fun j hj hl=>?_
 have e:(a++47::c).getD j 0=c.getD (j - a.length - 1) 0:=by
  rw [List.getD,lG om,show j - a.length=(j - a.length - 1)+1 by omega,adq];rfl
 simp at hl;rw [e,gd om];exact hc _ (ei _)
theorem abl {l:List Bs} (h:Names l) {c:Bs} (hc:jH c=true):lN (pathOf (l++[c]))=pathOf l:=by
 have h47:=afM hc
 cases l with
 | nil =>
  have:p9 (pathOf ([]++[c]))=0:=Pm [] c h47;unfold lN;rw [this]
  rfl
 | cons x l =>
  have e:pathOf ((x::l)++[c])=pathOf (x::l)++47::c:=by
   rw [pathOf,Pk _ _ si,pathOf];simp
  have:p9 (pathOf ((x::l)++[c]))=(pathOf (x::l)).length:=by rw [e];exact Pm _ c h47
  unfold lN;rw [this];have h0:((pathOf (x::l)).length==0)=false:=by simp [pathOf]
  rw [h0,cond_false,e];simp
theorem Yx {l:List Bs} (h:Names l):lN (pathOf l)=pathOf l.dropLast:=by
 rcases List.eq_nil_or_concat l with rfl | ⟨l',c,rfl⟩
 ·rfl
 ·rw [List.concat_eq_append] at h ⊢
  have hc:jH c=true:=h c si;have hl:Names l':=fun x hx=>h x (by simp [hx]);rw [abl hl hc];simp
theorem Pn {s:Bs} (h:jI s=true) (hr:(s==[47])=false):Names (bA (s.drop 1))∧pathOf (bA (s.drop 1))=s∧s.length≤128∧bA (s.drop 1)≠[]:=by
 unfold jI at h;rw [hr,Lt] at h;simp only [aV,decide_eq_true_eq,nk] at h;obtain⟨⟨h1,h2⟩,h3,h4⟩:=h;refine⟨h4,?_,h2,xC _⟩;rw [pathOf,AF]
 cases s with
 | nil=>simp at h1
 | cons b s =>
  have:b=47:=by simpa using h3
  subst this;rfl
def UZ:List Bs→List Bs→Option (List Bs)
 | [],n=>some n
 | c::cs,n=>cond (c==[]||c==[46]) (UZ cs n) (cond (c==[46,46]) (UZ cs n.dropLast) (cond (jH c) (UZ cs (n++[c])) none))
def clF:Option (List Bs)→Bs × Int
 | none=>([],10)
 | some n=>cond (decide (128<(pathOf n).length)) ([],3) (pathOf n,0)
def Ff (cwd path:Bs):List Bs:=cond (!(path.getD 0 0==47) && !(cwd==[47])) (bA (cwd.drop 1)) []
def Po (cwd path:Bs):Bs × Int:=cond (!jI cwd) ([],10) (cond (path==[]) ([],8) (clF (UZ (bA path) (Ff cwd path))))
theorem abm {cwd path:Bs} (h:jI cwd=true):Names (Ff cwd path)∧(Ff cwd path).length≤200:=by
 unfold Ff
 cases hr:(cwd==[47]) with
 | true=>rw [Bv,Bool.and_false];exact⟨fun c hc=>(by cases hc),si⟩
 | false =>
  obtain⟨h1,h2,h3,-⟩:=Pn h hr;have:=yY (cwd.drop 1);simp only [xw] at this;cases (path.getD 0 0==47)
  ·exact⟨h1,by show (bA (cwd.drop 1)).length≤200;omega⟩
  ·exact⟨fun c hc=>(by cases hc),si⟩
theorem dropLast_take (n:List Bs) (h:n.length<1000000000):n.take (Int.toNat (cond (decide (ag ((n.length:Int) - 1)<0)) 0 (ag ((n.length:Int) - 1))))=n.dropLast:=by
 rw [List.dropLast_eq_take];congr 1;by_cases h0:n.length=0
 ·rw [h0];rfl
 ·rw [qJ om om,cf om,bf]
theorem abn (n:List Bs) (h:n.length<1000000000):(decide (0≤cond (decide (ag ((n.length:Int) - 1)<0)) 0 (ag ((n.length:Int) - 1)))&&(decide (cond (decide (ag ((n.length:Int) - 1)<0)) 0 (ag ((n.length:Int) - 1))≤(n.length:Int))))=true:=by
 by_cases h0:n.length=0
 ·rw [h0];rfl
 ·rw [qJ om om,cf om,dT om,dT om];rfl
theorem ahc (F:Nat) (cwd path:Bs) (hF:1000≤F) (hp:path.length≤600):mE F cwd path=some (Po cwd path):=by
 unfold mE Po;rw [ajg F cwd om,aE]
 cases hc:jI cwd with
 | false=>rfl
 | true =>
  rw [Bv,cond_false,cond_false]
  cases hpe:(path==[]) with
  | true=>rfl
  | false =>
   have hpl:0<path.length:=by
    cases path with
    | nil=>cases hpe
    | cons b l=>simp
   obtain⟨hn,hnl⟩:=abm (path:=path) hc
   have hcl:1≤cwd.length∧cwd.length≤128:=by
    cases hr:(cwd==[47]) with
    | true=>rw [eq_of_beq hr];exact⟨by decide,by decide⟩
    | false =>
     obtain⟨h1,h2,h3,h4⟩:=Pn hc hr;refine⟨?_,h3⟩;rw [←h2];simp [pathOf]
   rw [cond_false,cond_false,mS om,bu om om,Yu,NT F _ bx,NT F _ om,Pf _ 47 om];simp only [aE,ax,cF];show aF _ F (0,Ff cwd path)=_;have aoe:=yY path;refine eG (fun x=>∃k:Nat,x.1=(k:Int)∧k≤(bA path).length∧x.2.length≤200+k∧Names x.2∧UZ ((bA path).drop k) x.2=UZ (bA path) (Ff cwd path)) (fun x=>(bA path).length - x.1.toNat) ?_ F _ ⟨0,rfl,om,om,hn,si⟩ bx;rintro⟨ii,ns⟩ ⟨k,h0,h1,h2,h3,h4⟩;dsimp only at h0 h2 h3 h4 ⊢;subst h0;by_cases hk:k<(bA path).length
   ·have hg:(bA path).getD k []=(bA path)[k]:=gd hk
    rw [adt hk] at h4;simp only [ctq (show (k:Int)<((bA path).length:Int) by omega),bu (show 0≤(k:Int) by omega) (show (k:Int)<((bA path).length:Int) by omega),bf,hg,ax,aE];generalize (bA path)[k]=c at h4;rw [UZ] at h4
    cases h5:(c==[]||c==[46]) with
    | true =>
     left;rw [h5,cond_true] at h4;refine⟨(((k+1:Nat):Int),ns),⟨k+1,rfl,om,by dsimp only;omega,h3,h4⟩,bx,fun rc=>?_⟩;rw [show (cond (c==[]) (true,ns) (c==[46],ns))=((c==[]||c==[46]),ns) by cases (c==[])<;>rfl,h5];dsimp only
     rw [cond_true,fo om]
    | false =>
     rw [h5,cond_false] at h4;simp only [show (cond (c==[]) (true,ns) (c==[46],ns))=(false,ns) by rw [←h5];cases (c==[])<;>rfl,cond_false]
     cases h6:(c==[46,46]) with
     | true =>
      left;rw [h6,cond_true] at h4;refine⟨(((k+1:Nat):Int),ns.dropLast),⟨k+1,rfl,om,bx,h3.dropLast,h4⟩,bx,fun rc=>?_⟩
      rw [cond_true,eu (abn ns om),dropLast_take ns om,fo om]
     | false =>
      rw [h6,cond_false] at h4;simp only [cond_false,acF F c om,aE]
      cases h7:jH c with
      | true =>
       left;rw [h7,cond_true] at h4;refine⟨(((k+1:Nat):Int),ns++[c]),⟨k+1,rfl,om,bx,h3.snoc h7,h4⟩,bx,fun rc=>?_⟩
       rw [cond_true,bu bx bx,fo om]
      | false =>
       right;rw [h7,cond_false] at h4;intro rc;rw [cond_false,←h4];rfl
   ·obtain rfl:k=(bA path).length:=om
    right;intro rc;rw [adu,UZ] at h4;have hj:=join_le ns h3
    first
    | rw [cf om,rO,join_eq,bu om om,aE,mS bx,←h4]
    | rw [cf om,vi,rO,join_eq,bu om om,aE,aE,mS bx,←h4]
    show some (cond (decide (128<(((pathOf ns).length:Nat):Int))) ([],3) (pathOf ns,0))=_;rw [show decide (128<(((pathOf ns).length:Nat):Int))=decide (128<(pathOf ns).length) from aha _ 128];rfl
def Asc (l:List aL):Prop:=l.Pairwise fun x y=>x.aU<y.aU
structure VL (l:List aL):Prop where
 len:l.length≤128
 pos:0<l.length
 root:(l.getD 0 aN).aU=[47]
 path:∀f∈l,jI f.aU=true
 dir:∀f∈l,f.jg=true→f.fData=[]
 aky:∀f∈l,f.aU=[47]→f.jg=true
 data:∀f∈l,f.fData.length≤8192
 asc:Asc l
 ano:∀k,0<k→k<l.length→De (l.take k) (l.getD k aN).aU=0
theorem Yy (l:List aL):∀(n k:Nat),UY l n k=0↔∀j,k≤j→j<k+n→HT l j=0
 | 0,k=>⟨fun _ j h h'=>om,fun _=>rfl⟩
 | n+1,k=>by
  rw [UY]
  cases h:(HT l k==0) with
  | true =>
   rw [cond_true,Yy l n (k+1)];constructor
   ·intro h1 j h2 h3
    by_cases e:j=k
    ·subst e;simpa using h
    ·exact h1 j om om
   ·intro h1 j h2 h3
    exact h1 j om om
  | false =>
   rw [cond_false];constructor
   ·intro h1;rw [h1] at h;cases h
   ·intro h1
    have:=h1 k om om;rw [this] at h;cases h
theorem Pp:∀ {l:List aL},(∀k,0<k→k<l.length→(l.getD (k - 1) aN).aU<(l.getD k aN).aU)→Asc l
 | [],_=>List.Pairwise.nil
 | [x],_=>List.pairwise_singleton _ _
 | x::y::l,h=>by
  have ih:Asc (y::l):=Pp fun k h1 h2=>by
   have:=h (k+1) om (by simpa using h2);rw [show k+1 - 1=(k - 1)+1 by omega] at this;simpa using this
  have hxy:x.aU<y.aU:=by
   have:=h 1 om si;simpa using this
  refine List.pairwise_cons.2 ⟨fun z hz=>?_,ih⟩;rcases fK.1 hz with rfl | hz
  ·exact hxy
  ·exact JJ hxy ((List.pairwise_cons.1 ih).1 z hz)
theorem ajk {l:List aL} (h:Asc l) (i j:Nat) (hij:i<j) (hj:j<l.length):(l.getD i aN).aU<(l.getD j aN).aU:=by
 rw [gd (show i<l.length by omega),gd hj];exact XJ.1 h i j om hj hij
theorem ahd (l:List aL) (k:Nat):HT l k=0↔jI (l.getD k aN).aU=true∧((l.getD k aN).jg=true→(l.getD k aN).fData=[])∧((l.getD k aN).aU=[47]→(l.getD k aN).jg=true) ∧
  (l.getD k aN).fData.length≤8192∧(0<k→(l.getD (k - 1) aN).aU<(l.getD k aN).aU)∧(0<k→De (l.take k) (l.getD k aN).aU=0):=by
 unfold HT;generalize l.getD k aN=f;generalize l.getD (k - 1) aN=g;generalize De (l.take k) f.aU=e
 cases h1:jI f.aU with
 | false=>simp
 | true =>
  rw [Bv,cond_false]
  cases h2:((f.jg && !(f.fData==[]))||(f.aU==[47] && !f.jg)) with
  | true =>
   rw [cond_true];simp only [Ef,aV,nq,beq_eq_false_iff_ne,beq_iff_eq] at h2;constructor
   ·intro h;cases h
   ·rintro⟨-,h3,h4,-⟩
    rcases h2 with⟨a,b⟩ | ⟨a,b⟩
    ·exact absurd (h3 a) b
    ·rw [h4 a] at b;cases b
  | false =>
   rw [cond_false];simp only [zG,NJ,XO,beq_iff_eq,beq_eq_false_iff_ne] at h2
   have h3:f.jg=true→f.fData=[]:=fun h=>by
    rcases h2.1 with h' | h'
    ·rw [h] at h';cases h'
    ·exact h'
   have h4:f.aU=[47]→f.jg=true:=fun h=>by
    rcases h2.2 with h' | h'
    ·exact absurd h h'
    ·exact h'
   by_cases h5:8192<f.fData.length
   ·rw [ctq h5]
    constructor
    ·intro h;cases h
    ·rintro⟨-,-,-,h,-⟩;omega
   ·rw [cf h5]
    have h5':f.fData.length≤8192:=om;by_cases h6:0<k
    ·rw [dT h6,O4,cond_true]
     rw [←amo g.aU f.aU]
     cases h7:Op.bytesLess g.aU f.aU with
     | true =>
      have:=(XY _ _).1 h7;rw [Bv,cond_false]
      exact⟨fun h=>⟨rfl,h3,h4,h5',fun _=>this,fun _=>h⟩,fun h=>h.2.2.2.2.2 h6⟩
     | false =>
      have:=(Pq _ _).1 h7;rw [ady,cond_true];exact⟨fun h=>(by cases h),fun h=>absurd (h.2.2.2.2.1 h6) this⟩
    ·rw [dF h6,Bool.false_and,cond_false,cond_false]
     exact⟨fun _=>⟨rfl,h3,h4,h5',fun h=>absurd h h6,fun h=>absurd h h6⟩,fun _=>rfl⟩
theorem afN (l:List aL):JH l=0↔VL l:=by
 unfold JH;by_cases h1:128<l.length
 ·rw [ctq h1]
  exact⟨fun h=>(by cases h),fun h=>by have:=h.len;omega⟩
 ·rw [cf h1]
  cases h2:(l.length==0 || !((l.getD 0 aN).aU==[47])) with
  | true =>
   rw [cond_true];refine⟨fun h=>(by cases h),fun h=>?_⟩;have a:=h.pos;have b:=h.root;rw [b] at h2;simp at h2;subst h2
   simp at a
  | false =>
   rw [cond_false];simp only [zG,beq_eq_false_iff_ne,ne_eq,XO,beq_iff_eq] at h2;rw [Yy];simp only [ahd];constructor
   ·intro h
    have hm:∀f∈l,∃k,k<l.length∧l.getD k aN=f:=fun f hf=>by
     obtain⟨k,hk,e⟩:=gZ hf;exact⟨k,hk,by rw [gd hk];exact e⟩
    refine⟨om,om,h2.2,?_,?_,?_,?_,Pp fun k h3 h4=>(h k om om).2.2.2.2.1 h3,fun k h3 h4=>(h k om om).2.2.2.2.2 h3⟩
    ·intro f hf;obtain⟨k,hk,rfl⟩:=hm f hf;exact (h k om om).1
    ·intro f hf;obtain⟨k,hk,rfl⟩:=hm f hf;exact (h k om om).2.1
    ·intro f hf;obtain⟨k,hk,rfl⟩:=hm f hf;exact (h k om om).2.2.1
    ·intro f hf;obtain⟨k,hk,rfl⟩:=hm f hf;exact (h k om om).2.2.2.1
   ·intro h j hj hj'
    have hj':j<l.length:=om;have hm:l.getD j aN∈l:=by rw [gd hj'];exact ei hj'
    exact⟨h.path _ hm,h.dir _ hm,h.aky _ hm,h.data _ hm,fun h0=>ajk h.asc (j - 1) j om hj',fun h0=>h.ano j h0 hj'⟩
def amq (s:Bs):Bs:=s.drop (p9 s+1)
def anp (p:Bs) (f:aL):Bool:=!(f.aU==[47])&&lN f.aU==p
def amr (l:List aL) (p:Bs):List Bs:=(l.filter (anp p)).map fun f=>amq f.aU
end Go.Proofs.YtkeibjejncpgnaaGreatDoor

namespace Go.Proofs.YtkeibjejncpgnaaGreatDoor
open Go.RT
theorem NX (s:Bs):bh (bI s)=s:=by
 unfold bh bI;rw [qE];have:((fun n:Int=>UInt8.ofNat n.toNat) ∘ fun b:UInt8=>(b.toNat:Int))=id:=by funext b;simp
 rw [this,NH]
theorem afO:∀l:List Int,(l.flatMap fun b=>bh [b]).length=l.length
 | []=>rfl
 | b::l=>by rw [zI,eW,afO l];simp [bh];omega
def uu (c:Int):Bool:=c != 0&&(c != 1&&c != 2)
def U0 (r:ah):List cA:=cond (uu r.aC) [] (r.fText.map fun b=>cA.mk (b.toNat:Int) (r.aC != 1))
def wS (r:ah):List fm:=cond (uu r.aC) [] (r.fText.map fun b=>fm.mk (b.toNat:Int) (r.aC != 1))
theorem acG (r:ah):(U0 r).length≤r.fText.length:=by unfold U0;cases uu r.aC<;>simp
theorem Sp (r:ah):(wS r).length≤r.fText.length:=by unfold wS;cases uu r.aC<;>simp
theorem Fg {α:Type} (f:ah→List α) (hf:∀r,(f r).length≤r.fText.length):∀l:List ah,(l.flatMap f).length≤bJ l
 | []=>by simp
 | r::l=>by
  have:=Fg f hf l;have:=hf r;simp only [zI,eW,bJ,eV,O6] at *;omega
theorem Fh {l:List ah} {r:ah} (h:r∈l):r.fText.length≤bJ l:=by
 induction l with
 | nil=>cases h
 | cons a l ih =>
  rcases fK.1 h with rfl | h
  ·simp [bJ]
  ·have:=ih h
   simp only [bJ,eV,O6] at *;omega
theorem JK {α:Type} (f:ah→List α) (l:List ah) (k:Nat) (h:k<l.length):(l.take (k+1)).flatMap f=(l.take k).flatMap f++f l[k]:=by
 rw [jT h,NG];simp
theorem Yz (c:Int):(cond (c != 0) (some (c != 1)) (some false):Option Bool)=some (c != 0&&c != 1):=by cases (c != 0)<;>rfl
theorem Sq (c:Int):cond (c != 0&&c != 1) (c != 2) false=uu c:=by unfold uu;cases (c != 0)<;>cases (c != 1)<;>rfl
theorem abo (F:Nat) (l:List ah) (hF:l.length<F) (tq:bJ l<F) (h1:l.length<1000000000) (h2:bJ l≤1000000000):rP F l=some (l.flatMap U0):=by
 unfold rP;refine eG (fun x=>∃k:Nat,x.2=(k:Int)∧k≤l.length∧x.1=(l.take k).flatMap U0) (fun x=>l.length - x.2.toNat) ?_ F _ ⟨0,rfl,om,si⟩ bx;rintro⟨acc,ii⟩ ⟨k,h0,hk,ha⟩;dsimp only at h0 ha ⊢;subst h0;by_cases hk:k<l.length
 ·left
  have hg:l.getD k aY=l[k]:=gd hk;have hm:l[k].fText.length≤bJ l:=Fh (ei hk);have hal:acc.length≤bJ (l.take k):=by rw [ha];exact Fg _ acG _
  have hs:=tV l k hk;have hle:=yu l (k+1);refine⟨((l.take (k+1)).flatMap U0,((k+1:Nat):Int)),⟨k+1,rfl,om,rfl⟩,bx,fun rc=>?_⟩;rw [ctq om,eT hk,eT hk,bf,hg,Yz,aE,fo om,JK _ _ _ hk,←ha,eT hk,ax,aE,Sq];unfold U0
  cases hc:uu l[k].aC with
  | true=>rw [cond_true,cond_true,qC]
  | false =>
   rw [cond_false,cond_false];refine eG (fun x=>∃j:Nat,x.2=(j:Int)∧j≤l[k].fText.length∧x.1=acc++(l[k].fText.take j).map fun b=>cA.mk (b.toNat:Int) (l[k].aC != 1)) (fun x=>l[k].fText.length - x.2.toNat) ?_ F _ ⟨0,rfl,om,si⟩ bx;rintro⟨a2,jj⟩ ⟨j,h0,hj,hb⟩;dsimp only at h0 hb ⊢;subst h0;by_cases hj:j<l[k].fText.length
   ·left
    refine⟨(acc++(l[k].fText.take (j+1)).map fun b=>cA.mk (b.toNat:Int) (l[k].aC != 1),((j+1:Nat):Int)),⟨j+1,rfl,om,rfl⟩,bx,fun aS=>?_⟩;have YA:l[k].fText.getD j 0=l[k].fText[j]:=gd hj;have wU:a2.length≤acc.length+j:=by rw [hb];simp;omega
    simp only [eT hk];rw [ctq om];simp only [eT hj];rw [bf,YA,fo om,iY bx om,jT hj,zH,←iu,←hb];rfl
   ·right
    obtain rfl:j=l[k].fText.length:=om;intro aS;rw [eT hk,cf om,hb,Bx]
 ·right
  obtain rfl:k=l.length:=om;intro rc;rw [cf om,ha,Bx]
theorem ahe (F:Nat) (l:List ah) (hF:l.length<F) (tq:bJ l<F) (h1:l.length<1000000000) (h2:bJ l≤1000000000):tW F l=some (l.flatMap wS):=by
 unfold tW;refine eG (fun x=>∃k:Nat,x.2=(k:Int)∧k≤l.length∧x.1=(l.take k).flatMap wS) (fun x=>l.length - x.2.toNat) ?_ F _ ⟨0,rfl,om,si⟩ bx;rintro⟨acc,ii⟩ ⟨k,h0,hk,ha⟩;dsimp only at h0 ha ⊢;subst h0;by_cases hk:k<l.length
 ·left
  have hg:l.getD k aY=l[k]:=gd hk;have hm:l[k].fText.length≤bJ l:=Fh (ei hk);have hal:acc.length≤bJ (l.take k):=by rw [ha];exact Fg _ Sp _
  have hs:=tV l k hk;have hle:=yu l (k+1);refine⟨((l.take (k+1)).flatMap wS,((k+1:Nat):Int)),⟨k+1,rfl,om,rfl⟩,bx,fun rc=>?_⟩;rw [ctq om,eT hk,bf,hg,Yz,aE,fo om,JK _ _ _ hk,←ha,ax,aE,Sq];unfold wS
  cases hc:uu l[k].aC with
  | true=>rw [cond_true,cond_true,qC]
  | false =>
   rw [cond_false,cond_false];refine eG (fun x=>∃j:Nat,x.2=(j:Int)∧j≤l[k].fText.length∧x.1=acc++(l[k].fText.take j).map fun b=>fm.mk (b.toNat:Int) (l[k].aC != 1)) (fun x=>l[k].fText.length - x.2.toNat) ?_ F _ ⟨0,rfl,om,si⟩ bx;rintro⟨a2,jj⟩ ⟨j,h0,hj,hb⟩;dsimp only at h0 hb ⊢;subst h0;by_cases hj:j<l[k].fText.length
   ·left
    refine⟨(acc++(l[k].fText.take (j+1)).map fun b=>fm.mk (b.toNat:Int) (l[k].aC != 1),((j+1:Nat):Int)),⟨j+1,rfl,om,rfl⟩,bx,fun aS=>?_⟩;have YA:l[k].fText.getD j 0=l[k].fText[j]:=gd hj;have wU:a2.length≤acc.length+j:=by rw [hb];simp;omega
    rw [ctq om];simp only [eT hj];rw [bf,YA,fo om,iY bx om,jT hj,zH,←iu,←hb];rfl
   ·right
    obtain rfl:j=l[k].fText.length:=om;intro aS;rw [cf om,hb,Bx]
 ·right
  obtain rfl:k=l.length:=om;intro rc;rw [cf om,ha,Bx]
def Ah (x:List cA) (i:Nat) (b:Int):Bool:=decide (i<x.length)&&((x.getD i dY).gS&&(x.getD i dY).fb==b)
theorem AG (F:Nat) (x:List cA) (i:Nat) (b:Int):jU F x (i:Int) b=some (Ah x i b):=by
 unfold jU Ah;by_cases h:i<x.length
 ·rw [ctq om,eT h,bf,aE,dT h,eT h,ax,aE]
  cases (x.getD i dY).gS<;>rfl
 ·rw [cf om,dF h];rfl
def isC (x:List fm) (i:Nat) (b:Int):Bool:=decide (i<x.length)&&((x.getD i ey).gS&&(x.getD i ey).fb==b)
theorem afP (F:Nat) (x:List fm) (i:Nat) (b:Int):eU F x (i:Int) b=some (isC x i b):=by
 unfold eU isC;by_cases h:i<x.length
 ·rw [ctq om,eT h,bf,aE,dT h]
  congr 1;show ((x.getD i ey).fb==b&&((x.getD i ey).gS==true&&true))=(true&&((x.getD i ey).gS&&(x.getD i ey).fb==b));cases (x.getD i ey).gS<;>cases ((x.getD i ey).fb==b)<;>rfl
 ·rw [cf om,dF h];rfl
def pb (b:Int):av:=av.mk 1 (bh [b]) false []
theorem afQ (F:Nat) (l:List ah) (hF:l.length<F) (tq:bJ l<F) (h1:l.length<1000000000) (h2:bJ l≤1000000) (hq:∀e∈l.flatMap wS,e.gS=false):lS F l=some ((l.flatMap wS).map fun e=>pb e.fb):=by
 unfold lS;rw [ahe F l hF tq h1 om,aE];have hx:(l.flatMap wS).length≤bJ l:=Fg _ Sp _;generalize (l.flatMap wS)=x at hx hq
 have hno:∀(i:Nat) (b:Int),isC x i b=false:=by
  intro i b;unfold isC;by_cases h:i<x.length
  ·rw [show (x.getD i ey).gS=false by rw [gd h];exact hq _ (ei h)]
   simp
  ·rw [dF h];rfl
 refine eG (fun s=>∃k:Nat,s.2=(k:Int)∧k≤x.length∧s.1=(x.take k).map fun e=>pb e.fb) (fun s=>x.length - s.2.toNat) ?_ F _ ⟨0,rfl,om,si⟩ bx;rintro⟨acc,ii⟩ ⟨k,h0,hk,ha⟩;dsimp only at h0 ha ⊢;subst h0;by_cases hk:k<x.length
 ·left
  refine⟨((x.take (k+1)).map fun e=>pb e.fb,((k+1:Nat):Int)),⟨k+1,rfl,om,rfl⟩,bx,fun rc=>?_⟩;have hal:acc.length=k:=by rw [ha];simp;omega
  rw [ctq om];simp only [afP,hno,aE,cond_false];show ((eU F x (k:Int) 42).bind _)=_;simp only [afP,hno,aE,cond_false];rw [eT hk,iY bx om,fo om,bf,gd hk,jT hk,zH,←ha];rfl
 ·right
  obtain rfl:k=x.length:=om;intro rc;rw [cf om,ha,Bx]
theorem ajl (F:Nat) (x:List Int) (hF:x.length+1<F) (hx:x.length<1000000):pJ F (x.map pb)=some true:=by
 unfold pJ;refine eG (fun s=>∃k:Nat,s=(k:Int)∧k≤x.length) (fun s=>x.length - s.toNat) ?_ F _ ⟨0,rfl,om⟩ bx;rintro ii ⟨k,rfl,hk⟩;have hl:(x.map pb).length=x.length:=by simp
 by_cases hk:k<x.length
 ·left
  refine⟨((k+1:Nat):Int),⟨k+1,rfl,om⟩,bx,fun rc=>?_⟩;rw [ctq om,eT om,bf,gd (l:=x.map pb) om,Jp,fo om];obtain⟨G,rfl⟩:∃G,F=G+1:=⟨F - 1,om⟩;rfl
 ·right
  intro rc;rw [cf om]
theorem afR (F:Nat) (x:List Int) (hF:x.length+1<F) (hx:x.length<1000000):iE F (x.map pb)=some (x.flatMap fun b=>bh [b],true):=by
 unfold iE;rw [ajl F x hF hx,aE,Bv,cond_false];refine eG (fun s=>∃k:Nat,s.2=(k:Int)∧k≤x.length∧s.1=bI ((x.take k).flatMap fun b=>bh [b])) (fun s=>x.length - s.2.toNat) ?_ F _ ⟨0,rfl,om,by simp [bI]⟩ bx;rintro⟨acc,ii⟩ ⟨k,h0,hk,ha⟩;dsimp only at h0 ha ⊢;subst h0;have hl:(x.map pb).length=x.length:=by simp
 by_cases hk:k<x.length
 ·left
  refine⟨(bI ((x.take (k+1)).flatMap fun b=>bh [b]),((k+1:Nat):Int)),⟨k+1,rfl,om,rfl⟩,bx,fun rc=>?_⟩;have hal:acc.length=k:=by rw [ha,bI,oC,afO,gB];omega
  rw [ctq om,eT om,bf,gd (l:=x.map pb) om,Jp,fo om];show rq _ (rc (acc++bI (bh [x[k]]),_))=_;rw [iY (by rw [hal];show k+1≤_;omega) om,jT hk,NG,ha];simp [bI]
 ·right
  obtain rfl:k=x.length:=om;intro rc;rw [cf om,ha,Bx];congr 2;exact NX _
set_option maxRecDepth 100000
theorem kD {σ R:Type} {body:(σ→Option R)→σ→Option R} (Q:R→Prop) (P:σ→Prop) (m:σ→Nat)
  (hs:∀s,P s→∀rc,(∀s',P s'→m s'<m s→∃r,Q r∧rc s'=some r)→∃r,Q r∧body rc s=some r):∀(F:Nat) (s:σ),P s→m s<F→∃r,Q r∧aF body F s=some r
 | 0,s,_,h=>by omega
 | F+1,s,hP,h=>hs s hP (aF body F) fun s' h1 h2=>kD Q P m hs F s' h1 om
def akz (x:List fm):Prop:=∀e∈x,0≤e.fb∧e.fb≤255
theorem akz.at {x:List fm} (h:akz x) {i:Nat} (hi:i<x.length):0≤(x.getD i ey).fb∧(x.getD i ey).fb≤255:=by
 rw [gd hi];exact h _ (ei hi)
def vj (p:av):Prop:=(p.fKind=1→0<p.fText.length)∧p.fText.length≤10∧p.fq.length≤256
theorem akA {x:List cA} {i:Nat} {b:Int} (h:Ah x i b=true):i<x.length:=by
 unfold Ah at h;rw [aV] at h;exact of_decide_eq_true h.1
theorem ahf (F:Nat) (x:List cA) (i:Nat) (s:Bs) (hF:s.length<F) (hi:i≤x.length) (hx:x.length<500000000) (hs:s.length<500000000):∃b:Bool,(b=true→i+s.length≤x.length)∧AH F x (i:Int) s=some b:=by
 unfold AH;refine kD _ (fun k':Int=>∃k:Nat,k'=(k:Int)∧k≤s.length∧i+k≤x.length) (fun k'=>s.length - k'.toNat) ?_ F _ ⟨0,rfl,om,om⟩ bx;rintro ii ⟨k,rfl,hk,hik⟩ rc hrc;by_cases hk:k<s.length
 ·have hw:ag ((i:Int)+(k:Int))=((i+k:Nat):Int):=by rw [cr om];omega
  rw [ctq om,eT hk,hw,AG,aE,fo om]
  cases h:Ah x (i+k) (((s.getD (Int.toNat (k:Int)) 0).toNat:Int)) with
  | false=>exact⟨false,(fun h=>by cases h),rfl⟩
  | true =>
   have:=akA h;exact hrc _ ⟨k+1,rfl,om,om⟩ bx
 ·rw [cf om]
  exact⟨true,(fun _=>om),rfl⟩
def CL:List j8:=(tX 0).getD []
theorem ams (F:Nat):tX F=some CL:=rfl
theorem akB:CL.length=8:=rfl
theorem amt:∀c∈CL,c.fname.length=5∧c.Pr.length≤4:=by decide
theorem abp (F:Nat) (x:List cA) (i:Nat) (hF:100<F) (hi:i<x.length) (hx:x.length<50000000):∃r:List bH × Int,(∃e:Nat,r.2=(e:Int)∧i<e∧e≤x.length∧r.1.length≤4)∧vk F x (i:Int)=some r:=by
 unfold vk;rw [ams,aE];refine kD _ (fun k':Int=>∃k:Nat,k'=(k:Int)∧k≤8) (fun k'=>8 - k'.toNat) ?_ F _ ⟨0,rfl,om⟩ bx;rintro ii ⟨k,rfl,hk⟩ rc hrc;have hw1:ag ((i:Int)+1)=((i+1:Nat):Int):=fo om;have HU:ag ((i:Int)+2)=((i+2:Nat):Int):=by rw [cr om];omega
 have hw3:ag ((i:Int)+3)=((i+3:Nat):Int):=by rw [cr om];omega
 by_cases hk:k<CL.length
 ·have hm:=amt _ (ei hk)
  rw [ctq om,eT hk,bf,gd hk,fo om];generalize CL[k]=c at hm;rw [mS bx,mS bx];have hl:((([91,58]:Bs)++c.fname)++([58,93]:Bs)).length=9:=by simp;omega
  obtain⟨b,h1,h2⟩:=ahf F x i ((([91,58]:Bs)++c.fname)++([58,93]:Bs)) om om om om;rw [h2,aE];rw [hl] at h1 ⊢
  cases b with
  | true =>
   have:=h1 rfl;have hw:ag ((i:Int)+((9:Nat):Int))=((i+9:Nat):Int):=by rw [cr om];omega
   rw [cond_true,eT hk,hw]
   exact⟨_,⟨i+9,rfl,om,om,hm.2⟩,rfl⟩
  | false =>
   have h8:k<8:=by rw [←akB];exact hk
   exact hrc _ ⟨k+1,rfl,om⟩ bx
 ·rw [cf om,eT hi,hw1,HU,hw3,AG,aE,AG,ax,aE,aE,ax,aE]
  cases h4:cond (cond (Ah x (i+1) 45) (decide (((i+2:Nat):Int)<(x.length:Int))) false) (!Ah x (i+2) 93) false with
  | false=>exact⟨_,⟨i+1,rfl,om,om,si⟩,rfl⟩
  | true =>
   have h5:i+2<x.length:=by
    by_cases h:i+2<x.length
    ·exact h
    ·rw [dF (show ¬ ((i+2:Nat):Int)<(x.length:Int) by omega)] at h4
     cases Ah x (i+1) 45<;>simp at h4
   rw [cond_true,eT h5,ax];cases decide ((x.getD (Int.toNat (i:Int)) dY).fb≤(x.getD (Int.toNat ((i+2:Nat):Int)) dY).fb)
   ·exact⟨_,⟨i+3,rfl,om,om,si⟩,rfl⟩
   ·exact⟨_,⟨i+3,rfl,om,om,si⟩,rfl⟩
theorem acH (F:Nat) (l:List bH) (b:Int) (hF:l.length<F) (hl:l.length<500000000):∃r,xD F l b=some r:=by
 obtain⟨r,-,h⟩:∃r:Bool,True∧xD F l b=some r:=by
  unfold xD;refine kD _ (fun k':Int=>∃k:Nat,k'=(k:Int)∧k≤l.length) (fun k'=>l.length - k'.toNat) ?_ F _ ⟨0,rfl,om⟩ bx;rintro ii ⟨k,rfl,hk⟩ rc hrc;by_cases hk:k<l.length
  ·rw [ctq om,eT hk,eT hk,ax,aE,fo om]
   cases cond (decide ((l.getD (Int.toNat (k:Int)) gJ).zM≤b)) (decide (b≤(l.getD (Int.toNat (k:Int)) gJ).rQ)) false with
   | true=>exact⟨_,trivial,rfl⟩
   | false=>exact hrc _ ⟨k+1,rfl,om⟩ bx
  ·rw [cf om]
   exact⟨_,trivial,rfl⟩
 exact⟨r,h⟩
theorem ahg (F:Nat) (l:List bH) (hF:l.length+300<F) (hl:l.length<500000000):∃r:List bH,r.length≤256∧Df F l=some r:=by
 unfold Df;refine kD _ (fun s:Int × List bH=>∃k:Nat,s.1=(k:Int)∧k≤256∧s.2.length≤k) (fun s=>256 - s.1.toNat) ?_ F _ ⟨0,rfl,om,si⟩ bx;rintro⟨ii,o⟩ ⟨k,h0,hk,ho⟩ rc hrc;dsimp only at h0 ho ⊢;subst h0;by_cases hk:k<256
 ·obtain⟨b,hb⟩:=acH F l (IntKind.wrap .u8 (k:Int)) om hl
  rw [ctq om,hb,aE,fo om]
  cases b with
  | false=>exact hrc _ ⟨k+1,rfl,om,by dsimp only;omega⟩ bx
  | true =>
   rw [Bv,cond_false];by_cases h0:0<o.length
   ·have hw:ag ((o.length:Int) - 1)=((o.length - 1:Nat):Int):=qJ om h0
    rw [ctq om,hw,eT om,aE];dsimp only
    cases (ag ((ag ((o.getD (Int.toNat ((o.length - 1:Nat):Int)) gJ).rQ))+1))==(k:Int) with
    | true =>
     rw [cond_true,eT om]
     exact hrc _ ⟨k+1,rfl,om,bx⟩ bx
    | false =>
     rw [cond_false,iY bx om];exact hrc _ ⟨k+1,rfl,om,bx⟩ bx
   ·rw [cf om,aE]
    dsimp only;rw [cond_false,iY bx om];exact hrc _ ⟨k+1,rfl,om,bx⟩ bx
 ·rw [cf om]
  exact⟨_,om,rfl⟩
theorem YB (F:Nat) (x:List cA) (i:Nat) (hF:4 * x.length+1000<F) (hx:x.length<40000000) (hi:i<x.length) :
  ∃r:av × Int × Bool,(r.2.2=true→vj r.1∧∃e:Nat,r.2.1=(e:Int)∧i<e∧e≤x.length)∧tY F x (i:Int)=some r:=by
 unfold tY;have hw1:ag ((i:Int)+1)=((i+1:Nat):Int):=fo om;rw [hw1,AG,aE,AG,aE,ax,aE,fo om,ax,aE]
 have h0:∃y:Int × Int × Bs × Bool × List bH,cond (cond (Ah x (i+1) 33) true (Ah x (i+1) 94)) (((i+1+1:Nat):Int),(av.mk 4 [] false []).fKind,(av.mk 4 [] false []).fText,true,(av.mk 4 [] false []).fq) (((i+1:Nat):Int),(av.mk 4 [] false []).fKind,(av.mk 4 [] false []).fText,(av.mk 4 [] false []).Gw,(av.mk 4 [] false []).fq)=y∧(∃s0:Nat,y.1=(s0:Int)∧i<s0∧s0≤i+2)∧y.2.1=4∧y.2.2.1=[]:=by
  cases (cond (Ah x (i+1) 33) true (Ah x (i+1) 94))
  ·exact⟨_,rfl,⟨i+1,rfl,om,om⟩,rfl,rfl⟩
  ·exact⟨_,rfl,⟨i+2,rfl,om,om⟩,rfl,rfl⟩
 obtain⟨y,hy,⟨s0,hs0,hs1,hs2⟩,hy2,hy3⟩:=h0;rw [hy,hs0,hy2,hy3];refine kD _ (fun s:Int × List bH × Bool=>∃k:Nat,s.1=(k:Int)∧i<k∧k≤x.length+2∧s.2.1.length≤4 * k) (fun s=>x.length+2 - s.1.toNat) ?_ F _ ⟨s0,rfl,hs1,om,si⟩ bx;rintro⟨ii,sp,fi⟩ ⟨k,h0,hk,hk2,hl⟩ rc hrc;dsimp only at h0 hl ⊢;subst h0;rw [AG,aE,ax,ax,aE];by_cases YC:k<x.length
 ·rw [ctq (show (k:Int)<(x.length:Int) by omega)]
  cases (cond fi true (!Ah x k 93)) with
  | true =>
   obtain⟨r,⟨e,h1,h2,h3,h4⟩,h5⟩:=abp F x k om YC om;rw [cond_true,h5,aE,iY om om]
   exact hrc _ ⟨e,h1,om,om,by dsimp only;rw [List.length_append];omega⟩ (by dsimp only;rw [h1];simp;omega)
  | false =>
   obtain⟨r,h1,h2⟩:=ahg F sp om om;rw [cond_false,cf (show ¬ (x.length:Int)≤(k:Int) by omega),h2,aE,fo om];exact⟨_,fun _=>⟨⟨(fun h=>absurd h (show ¬ ((4:Int)=1) by decide)),si,h1⟩,k+1,rfl,om,om⟩,rfl⟩
 ·rw [cf (show ¬ (k:Int)<(x.length:Int) by omega),cond_false,ctq (show (x.length:Int)≤(k:Int) by omega)]
  exact⟨_,(fun h=>by cases h),rfl⟩
theorem JL (F:Nat) (l:List ah) (hF:l.length<F) (tq:4 * bJ l+1000<F) (h1:l.length<1000000000) (h2:bJ l≤20000000):∃p:List av,((∀it∈p,vj it)∧p.length≤bJ l)∧lP F l=some p:=by
 unfold lP;rw [abo F l hF om h1 om,aE];have hx:(l.flatMap U0).length≤bJ l:=Fg _ acG _;generalize (l.flatMap U0)=x at hx;refine kD _ (fun s:List av × Int=>∃k:Nat,s.2=(k:Int)∧k≤x.length∧s.1.length≤k∧∀it∈s.1,vj it) (fun s=>x.length - s.2.toNat) ?_ F _ ⟨0,rfl,om,si,fun it h=>by cases h⟩ bx;rintro⟨acc,ii⟩ ⟨k,h0,hk,ha,hit⟩ rc hrc;dsimp only at h0 ha hit ⊢;subst h0
 have NY:∀(it:av) (e:Nat),vj it→k<e→e≤x.length→∃p:List av,((∀it∈p,vj it)∧p.length≤bJ l)∧rc (acc++[it],(e:Int))=some p:=by
  intro it e h3 h4 h5;refine hrc _ ⟨e,rfl,h5,bx,fun y hy=>?_⟩ bx;rcases gz.1 hy with hy | hy
  ·exact hit y hy
  ·obtain rfl:=iw.1 hy;exact h3
 by_cases YC:k<x.length
 ·rw [ctq om,AG,aE,AG,aE,iY bx om,iY bx om,fo om]
  cases Ah x k 42 with
  | true=>exact NY _ _ ⟨(fun h=>absurd h (show ¬ ((3:Int)=1) by decide)),si,si⟩ om om
  | false =>
   rw [cond_false]
   cases Ah x k 63 with
   | true=>exact NY _ _ ⟨(fun h=>absurd h (show ¬ ((2:Int)=1) by decide)),si,si⟩ om om
   | false =>
    rw [cond_false,AG,aE]
    have cX:∃p:List av,((∀it∈p,vj it)∧p.length≤bJ l)∧(rq ((decide (0≤(k:Int)))&&(decide ((k:Int)<(x.length:Int)))) (rq ((decide (acc.length+([(av.mk 1 (bh ([(x.getD (Int.toNat (k:Int)) dY).fb]:List Int)) false [])]:List av).length≤9223372036854775807))&&(decide ((acc.length+([(av.mk 1 (bh ([(x.getD (Int.toNat (k:Int)) dY).fb]:List Int)) false [])]:List av).length) * 56≤140737488355328))) (rc (acc++([(av.mk 1 (bh ([(x.getD (Int.toNat (k:Int)) dY).fb]:List Int)) false [])]:List av),ag ((k:Int)+1)))))=some p:=by
     rw [eT YC,iY bx om,fo om];exact NY _ _ ⟨(fun _=>by simp [bh]),by simp [bh],si⟩ om om
    cases Ah x k 91 with
    | false=>exact cX
    | true =>
     obtain⟨r,h3,h4⟩:=YB F x k om om YC;rw [cond_true,h4,aE]
     cases h5:r.2.2 with
     | false=>exact cX
     | true =>
      obtain⟨g1,e,g2,g3,g4⟩:=h3 h5;rw [cond_true,iY bx om,g2];obtain⟨p,hp,hq⟩:=NY r.1 e g1 g3 g4;rw [hq];exact⟨p,hp,rfl⟩
 ·rw [cf om]
  exact⟨_,⟨hit,om⟩,rfl⟩
theorem Sr (F:Nat) (l:List bH) (hF:l.length<F) (hl:l.length<500000000):∃r,lT F l=some r:=by
 obtain⟨r,-,h⟩:∃r:Bool,True∧lT F l=some r:=by
  unfold lT;refine kD _ (fun k':Int=>∃k:Nat,k'=(k:Int)∧k≤l.length) (fun k'=>l.length - k'.toNat) ?_ F _ ⟨0,rfl,om⟩ bx;rintro ii ⟨k,rfl,hk⟩ rc hrc;by_cases hk:k<l.length
  ·rw [ctq om,eT hk,eT hk]
   have e:∃b,(cond (decide ((l.getD (Int.toNat (k:Int)) gJ).rQ<(l.getD (Int.toNat (k:Int)) gJ).zM)) (some true) (cond (decide (0<(k:Int))) (rq ((decide (0≤(k:Int)))&&(decide ((k:Int)<(l.length:Int)))) (rq ((decide (0≤ag ((k:Int) - 1)))&&(decide (ag ((k:Int) - 1)<(l.length:Int)))) (some (decide (ag ((l.getD (Int.toNat (k:Int)) gJ).zM)≤ag ((ag ((l.getD (Int.toNat (ag ((k:Int) - 1))) gJ).rQ))+1)))))) (some false)):Option Bool)=some b:=by
    by_cases h0:0<k
    ·rw [eT hk,qJ om h0,ctq (show (0:Int)<(k:Int) by omega),bu om om,ax];exact⟨_,rfl⟩
    ·rw [cf (show ¬ (0:Int)<(k:Int) by omega),ax];exact⟨_,rfl⟩
   obtain⟨b,hb⟩:=e;rw [hb,aE,fo om]
   cases b with
   | true=>exact⟨_,trivial,rfl⟩
   | false=>exact hrc _ ⟨k+1,rfl,om⟩ bx
  ·rw [cf om]
   exact⟨_,trivial,rfl⟩
 exact⟨r,h⟩
theorem Gx (F:Nat) (p:List av) (hF:p.length+300<F) (hp:p.length<50000000) (hit:∀it∈p,vj it):∃b,mF F p=some b:=by
 obtain⟨b,-,h⟩:∃b:Bool,True∧mF F p=some b:=by
  unfold mF;refine kD _ (fun s:Int=>∃k:Nat,s=(k:Int)∧k≤p.length) (fun s=>p.length - s.toNat) ?_ F _ ⟨0,rfl,om⟩ bx;rintro ii ⟨k,rfl,hk⟩ rc hrc;by_cases hk:k<p.length
  ·have hI:=hit _ (ei hk)
   rw [ctq om,eT hk,bf,gd hk];generalize p[k]=it at hI;obtain⟨c,hc⟩:=Sr F it.fq (by have:=hI.2.2;omega) (by have:=hI.2.2;omega);simp only [ax,aE,hc];rw [fo om]
   cases (cond (cond (cond (cond (decide (it.fKind<1)) true (decide (4<it.fKind))) true ((it.fText.length:Int) != cond (it.fKind==1) 1 0)) true (cond (it.fKind != 4) (cond it.Gw true (decide (0<(it.fq.length:Int)))) false)) true !c) with
   | true=>exact⟨_,trivial,rfl⟩
   | false=>exact hrc _ ⟨k+1,rfl,om⟩ bx
  ·rw [cf om]
   exact⟨_,trivial,rfl⟩
 exact⟨b,h⟩
theorem YE (F:Nat) (p:List av) (hF:p.length+300<F) (hp:p.length<50000000) (hit:∀it∈p,vj it):∃r,lQ F p=some r:=by
 obtain⟨b,hb⟩:=Gx F p hF hp hit
 obtain⟨b,-,h⟩:∃b:Bs × Bool,True∧lQ F p=some b:=by
  unfold lQ;refine kD _ (fun s:Bs × Int=>∃k:Nat,s.2=(k:Int)∧k≤p.length∧s.1.length≤10 * k) (fun s=>p.length - s.2.toNat) ?_ F _ ⟨0,rfl,om,si⟩ bx;rintro⟨acc,ii⟩ ⟨k,h0,hk,ha⟩ rc hrc;dsimp only at h0 ha ⊢;subst h0;by_cases hk:k<p.length
  ·have hI:=hit _ (ei hk)
   have hl:=hI.2.1;rw [ctq om,eT hk,eT hk,bf,gd hk]
   cases (p[k].fKind != 1) with
   | true=>exact⟨_,trivial,rfl⟩
   | false =>
    rw [cond_false,akC om,fo om];exact hrc _ ⟨k+1,rfl,om,by dsimp only;rw [List.length_append];omega⟩ bx
  ·rw [cf om,hb,aE,ax]
   exact⟨_,trivial,rfl⟩
 exact⟨b,h⟩
theorem Dg:∀s:Bs,(Lib.cut s [47]=(s,[],false)∧bA s=[s])∨∃a r,Lib.cut s [47]=(a,r,true)∧bA s=a::bA r∧a.length+r.length+1=s.length
 | []=>.inl ⟨rfl,rfl⟩
 | b::l=>by
  have ih:=Dg l;have hge:=Lib.indexByte_ge l 47;by_cases hb:b=47
  ·right
   subst hb;have h0:Lib.index ((47:UInt8)::l) [47]=0:=by rw [Lib.index_one];simp [Lib.indexByte]
   exact⟨[],l,by unfold Lib.cut;rw [h0];simp,rfl,si⟩
  ·have MR:(b==47)=false:=by simpa using hb
   have h0:Lib.index (b::l) [47]=if Lib.index l [47] == -1 then -1 else Lib.index l [47]+1:=by
    rw [Lib.index_one,Lib.index_one,Lib.indexByte];simp [hb]
   have hp:bA (b::l)=(match bA l with
    | []=>[[b]]
    | p::ps=>(b::p)::ps):=by rw [bA,MR,cond_false] <;> cases bA l<;>rfl
   rw [←Lib.index_one] at hge;unfold Lib.cut at ih ⊢;rw [hp,h0];rcases ih with⟨h1,h2⟩ | ⟨a,r,h1,h2,h3⟩
   ·left
    by_cases hi:0≤Lib.index l [47]
    ·rw [if_pos hi] at h1
     have:=congrArg (fun x=>x.2.2) h1;cases this
    ·have e:Lib.index l [47]=-1:=om
     rw [e,h2];exact⟨rfl,rfl⟩
   ·right
    by_cases hi:0≤Lib.index l [47]
    ·rw [if_pos hi] at h1
     have e1:(Lib.index l [47] == -1)=false:=by simp;omega
     refine⟨b::a,r,?_,by rw [h2],bx⟩;rw [e1];simp only [Bw,if_false];rw [if_pos om,show (Lib.index l [47]+1).toNat=(Lib.index l [47]).toNat+1 by omega];simp only [Bu] at h1;obtain⟨g1,g2,-⟩:=h1;rw [XT,g1];simp only [Bu,true_and,and_true];rw [←g2,Nat.add_right_comm,List.drop_succ_cons]
    ·rw [if_neg hi] at h1
     have:=congrArg (fun x=>x.2.2) h1;cases this
theorem Ss (F:Nat) (s:Bs) (h:s.length≤1000000):St F s [47]=some (Lib.cut s [47]):=by
 unfold St;rw [mS om]
theorem ahh (F:Nat) (l:List Bs) (h1:l.length≤1000000) (h2:(iD l).length≤1000000):vi F [47] l=some (iD l,l):=by
 unfold vi rO;rw [join_eq,bu om om];rfl
def ny (l:List ah):Bs:=l.flatMap fun r=>r.fText
theorem Su:∀l:List ah,(ny l).length=bJ l
 | []=>rfl
 | r::l=>by
  have:=Su l;unfold ny bJ at *;simp only [zI,eW,eV,O6];omega
theorem U1 (s:Bs):Fi (bI s)=true:=by
 unfold Fi bI;rw [nk];intro x hx;obtain⟨b,-,rfl⟩:=p8.1 hx;have:=b.toNat_lt;simp;omega
theorem akD (F:Nat) (s:Bs) (c:Bool) (buf:List Int) (h:buf.length+s.length≤100000000):fy F s c buf=some ((s.length:Int),true,buf++bI s):=by
 unfold fy;rw [show kn F c buf=some (true,buf) by cases c<;>rfl,aE,iY (by simp [bI];omega) om]
theorem acI (F:Nat) (l:List ah) (hF:l.length<F) (h1:l.length<1000000000) (h2:bJ l≤1000000):lU F l=some (ny l):=by
 unfold lU;refine eG (fun x=>∃k:Nat,x.1=(k:Int)∧k≤l.length∧x.2.2=bI (ny (l.take k))) (fun x=>l.length - x.1.toNat) ?_ F _ ⟨0,rfl,om,by simp [ny,bI]⟩ bx;rintro⟨ii,c,buf⟩ ⟨k,h0,hk,ha⟩;dsimp only at h0 ha ⊢;subst h0;by_cases hk:k<l.length
 ·left
  have hs:=tV l k hk;have hle:=yu l (k+1);refine⟨(((k+1:Nat):Int),true,bI (ny (l.take (k+1)))),⟨k+1,rfl,om,rfl⟩,bx,fun rc=>?_⟩;have wU:buf.length=bJ (l.take k):=by rw [ha,bI,oC,Su]
  rw [ctq om,eT hk,bf,gd hk,akD F _ c buf om,aE,fo om];show rc (((k+1:Nat):Int),true,buf++bI l[k].fText)=_;rw [ha,ny,ny,JK _ _ _ hk];simp [bI]
 ·right
  obtain rfl:k=l.length:=om;intro rc;rw [Bx] at ha;subst ha;have:(bI (ny l)).length=bJ l:=by rw [bI,oC,Su]
  rw [cf om];unfold gT;rw [eu (by rw [decide_eq_true rfl,U1,decide_eq_true om];rfl),NX];rfl
def U2 (c:Int) (o:List (List ah) × List ah) (q:Bs):List (List ah) × List ah:=(o.1++[o.2],[ah.mk q c])
def pcP (c:Int) (o:List (List ah) × List ah):List Bs→List (List ah) × List ah
 | []=>o
 | p::ps=>ps.foldl (U2 c) (o.1,o.2++[ah.mk p c])
def tu (o:List (List ah) × List ah) (r:ah):List (List ah) × List ah:=cond (uu r.aC) o (pcP r.aC o (bA r.fText))
def Fj (l:List ah):List (List ah) × List ah:=l.foldl tu ([],[])
def HV (l:List ah):List (List ah):=(Fj l).1++[(Fj l).2]
theorem Sv (c:Int):∀(ps:List Bs) (o:List (List ah) × List ah),o.1 <+: (ps.foldl (U2 c) o).1
 | [],o=>XV
 | q::ps,o=>(List.prefix_append o.1 [o.2]).trans (Sv c ps (U2 c o q))
theorem ajm (o:List (List ah) × List ah) (r:ah):o.1 <+: (tu o r).1:=by
 unfold tu;cases uu r.aC
 ·rw [cond_false]
  cases bA r.fText with
  | nil=>exact XV
  | cons p ps=>exact Sv r.aC ps (o.1,o.2++[ah.mk p r.aC])
 ·exact XV
theorem Sw:∀(l:List ah) (o:List (List ah) × List ah),o.1 <+: (l.foldl tu o).1
 | [],o=>XV
 | r::l,o=>(ajm o r).trans (Sw l (tu o r))
section
variable {F : Nat} {pat : List ah → List av} {lit : List ah → Bool}
def Sx (pat:List ah→List av) (lit:List ah→Bool) (t:List ah):aI:=aI.mk (ny t) (pat t) (lit t)
def PcK (F:Nat) (pat:List ah→List av) (lit:List ah→Bool) (t:List ah):Prop:=lS F t=some (pat t)∧(∃x,iE F (pat t)=some (x,lit t))∧t.length<F∧t.length<1000000∧bJ t≤1000000
theorem akE {t:List ah} (hK:PcK F pat lit t) (fs:List aL) (ds:List (List ah)) (dead:List (bB × Bool)) (found:List Bs) (hd:ds.length≤1000000) :
  j9 F t fs (ds.map (Sx pat lit)) (ds.all lit) dead (ds.map ny) found=some (fs,(ds++[t]).map (Sx pat lit),(ds++[t]).all lit,(ds++[t]).map ny,found):=by
 obtain⟨h1,⟨x,h2⟩,h3,h4,h5⟩:=hK;unfold j9;rw [acI F t h3 om h5,aE,h1,aE];show ((iE F (pat t)).bind _)=_;rw [h2,aE,ax,aE];have e:cond (ds.all lit) ((x,lit t).2,ds.map ny,found) (false,ds.map ny,found)=(ds.all lit&&lit t,ds.map ny,found):=by cases ds.all lit<;>rfl
 rw [e];dsimp only;rw [iY bx om,iY bx om];simp [Sx,List.all_append]
abbrev PSt:=(List ah) × Int × (List aL) × (List aI) × Bool × (List Bs) × (List Bs)
def pSt (pat:List ah→List av) (lit:List ah→Bool) (fs:List aL) (i:Nat) (o:List (List ah) × List ah):PSt:=(o.2,(i:Int),fs,o.1.map (Sx pat lit),o.1.all lit,o.1.map ny,[])
theorem pieces_eq {l:List ah} {fs:List aL} {dead:List (bB × Bool)} (hF:l.length<F) (tq:bJ l+1<F) (h1:l.length<1000000) (h2:bJ l≤1000000) (hn:(HV l).length≤1000000) (ahi:∀k,((l.take k).foldl tu ([],[])).2.length≤1000000) (hK:∀t∈HV l,PcK F pat lit t) :
  iP F l fs [] true dead [] []=some (fs,(HV l).map (Sx pat lit),(HV l).all lit,(HV l).map ny,[]):=by
 have hmem:∀t,t∈(Fj l).1→PcK F pat lit t:=fun t ht=>hK t (by unfold HV;simp [ht]);have amu:PcK F pat lit (Fj l).2:=hK _ (by unfold HV;simp);have hlen:(Fj l).1.length+1≤1000000:=by have:=hn;unfold HV at this;simpa using this
 unfold iP;refine eG (fun x:PSt=>∃k:Nat,k≤l.length∧x=pSt pat lit fs k ((l.take k).foldl tu ([],[]))) (fun x=>l.length - x.2.1.toNat) ?_ F _ ⟨0,om,rfl⟩ bx;rintro x ⟨k,hk,rfl⟩
 have hpre:((l.take k).foldl tu ([],[])).1 <+: (Fj l).1:=by
  have:=Sw (l.drop k) ((l.take k).foldl tu ([],[]));rwa [←Lr,um] at this
 have hnk:=ahi k;by_cases hk:k<l.length
 ·left
  have aiJ:(l.take (k+1)).foldl tu ([],[])=tu ((l.take k).foldl tu ([],[])) l[k]:=by rw [jT hk,Lr];rfl
  refine⟨pSt pat lit fs (k+1) ((l.take (k+1)).foldl tu ([],[])),⟨k+1,om,rfl⟩,by simp only [pSt];omega,fun rc=>?_⟩
  have Lz:(tu ((l.take k).foldl tu ([],[])) l[k]).1 <+: (Fj l).1:=by
   rw [←aiJ];have:=Sw (l.drop (k+1)) ((l.take (k+1)).foldl tu ([],[]));rwa [←Lr,um] at this
  have MT:l[k].fText.length≤bJ l:=Fh (ei hk);rw [aiJ];generalize (l.take k).foldl tu ([],[])=o at hpre Lz hnk;unfold pSt;dsimp only;rw [ctq om,eT hk,bf,gd hk,ax,aE];have e1:cond (l[k].aC != 0) (l[k].aC != 1,o.1.map ny,([]:List Bs)) (false,o.1.map ny,[])=(l[k].aC != 0&&l[k].aC != 1,o.1.map ny,[]):=by cases (l[k].aC != 0)<;>rfl
  rw [e1];dsimp only;rw [ax,aE];have e2:cond (l[k].aC != 0&&l[k].aC != 1) (l[k].aC != 2,o.1.map ny,([]:List Bs)) (false,o.1.map ny,[])=(uu l[k].aC,o.1.map ny,[]):=by rw [←Sq];cases (l[k].aC != 0&&l[k].aC != 1)<;>rfl
  rw [e2];dsimp only;rw [fo om];unfold tu at Lz ⊢
  cases hc:uu l[k].aC with
  | true=>rfl
  | false =>
   rw [hc] at Lz;rw [cond_false,cond_false] at *;rw [Ss F _ om,aE,iY bx om];generalize adT:pcP l[k].aC o (bA l[k].fText)=fin at Lz;have an9:fin.1.length≤1000000:=by have:=Lz.length_le;omega
   refine eG (R:=(List aL) × (List aI) × Bool × (List Bs) × (List Bs))
    (fun x=>∃(o2:List (List ah) × List ah) (rest:Bs) (sl:Bool),x=(o2.2,rest,sl,fs,o2.1.map (Sx pat lit),o2.1.all lit,o2.1.map ny,[])∧rest.length≤l[k].fText.length ∧
     ((sl=false∧o2=fin)∨(sl=true∧(bA rest).foldl (U2 l[k].aC) o2=fin))) (fun x=>cond x.2.2.1 (x.2.1.length+1) 0) ?_ F _ ?_ ?_
   ·rintro x ⟨o2,rest,sl,rfl,hrl,rR⟩
    dsimp only;rcases rR with⟨rfl,rfl⟩ | ⟨rfl,hf⟩
    ·right
     intro aS;rfl
    ·left
     have hne:=xC rest
     have hy:o2.2∈(Fj l).1∧o2.1.length≤1000000:=by
      cases hp:bA rest with
      | nil=>exact absurd hp hne
      | cons p ps =>
       rw [hp] at hf;have vl:(o2.1++[o2.2]) <+: fin.1:=by rw [←hf];exact Sv l[k].aC ps (U2 l[k].aC o2 p)
       refine⟨(vl.trans Lz).subset si,?_⟩;have:=vl.length_le;simp at this;omega
     have hyy:=akE (hmem _ hy.1) fs o2.1 dead [] hy.2;rcases Dg rest with⟨g1,g2⟩ | ⟨a,r,g1,g2,g3⟩
     ·refine⟨_,⟨(o2.1++[o2.2],[ah.mk rest l[k].aC]),[],false,rfl,si,.inl ⟨rfl,?_⟩⟩,si,fun aS=>?_⟩
      ·rw [g2] at hf;exact hf
      ·rw [cond_true,hyy,aE,Ss F _ om,g1,aE]
     ·refine⟨_,⟨(o2.1++[o2.2],[ah.mk a l[k].aC]),r,true,rfl,om,.inr ⟨rfl,?_⟩⟩,bx,fun aS=>?_⟩
      ·rw [g2] at hf;exact hf
      ·rw [cond_true,hyy,aE,Ss F _ om,g1,aE]
   ·rcases Dg l[k].fText with⟨g1,g2⟩ | ⟨a,r,g1,g2,g3⟩
    ·refine⟨(o.1,o.2++[ah.mk l[k].fText l[k].aC]),[],false,by rw [g1],si,.inl ⟨rfl,?_⟩⟩
     rw [g2] at adT;exact adT
    ·refine⟨(o.1,o.2++[ah.mk a l[k].aC]),r,true,by rw [g1],om,.inr ⟨rfl,?_⟩⟩
     rw [g2] at adT;exact adT
   ·rcases Dg l[k].fText with⟨g1,g2⟩ | ⟨a,r,g1,g2,g3⟩
    ·rw [g1];show 0<F;omega
    ·rw [g1];show r.length+1<F;omega
 ·right
  obtain rfl:k=l.length:=om;intro rc;have ht:(l.take l.length).foldl tu ([],[])=Fj l:=by rw [Bx];rfl
  rw [ht];unfold pSt;dsimp only;rw [cf om,akE amu fs (Fj l).1 dead [] om];rfl
end
theorem adU {F:Nat} {r:List ah} (hF:(vb r).length<F) (h0:(vb r).length<1000000000) (h1:r.length≤1000000000) (h2:bJ r≤1000000000) (h:∀c∈vb r,∃p x,lP F c=some p∧lQ F p=some x):∃b,(b=true→True)∧pK F r=some b:=by
 unfold pK O7;rw [bu h1 h2,aE];have hB:∀(F2:Nat) (x:Option Bool),(∃b,True∧x=some b)→∃b,(b=true→True)∧x=some b:=fun _ x ⟨b,_,h⟩=>⟨b,fun _=>trivial,h⟩;refine hB F _ (Gv (fun _=>True) (fun x:Int × Int × Int=>∃k:Nat,x.2.2=(k:Int)∧k≤(vb r).length) (fun x=>(vb r).length - x.2.2.toNat) ?_ F (0,0,0) ⟨0,rfl,om⟩ bx)
 ·rintro⟨a,b,ii⟩ ⟨k,h0,hk⟩
  dsimp only at h0 ⊢;subst h0;by_cases hk:k<(vb r).length
  ·left
   obtain⟨p,x,e1,e2⟩:=h (vb r)[k] (ei hk);refine⟨(cond (!x.2) (ag (a+1),b,((k+1:Nat):Int)) (cond (x.1==[46,46]) (a,ag (b+1),((k+1:Nat):Int)) (a,b,((k+1:Nat):Int)))),⟨k+1,?_,om⟩,?_,fun rc=>?_⟩
   ·cases x.2<;>cases (x.1==[46,46])<;>rfl
   ·cases x.2<;>cases (x.1==[46,46])<;>simp<;>omega
   ·rw [ctq om,eT hk,bf,gd hk,e1,aE,e2,aE,fo om]
    cases x.2<;>cases (x.1==[46,46])<;>rfl
  ·right
   refine⟨cond (decide (a≤2)) true (b==0),trivial,fun rc=>?_⟩;rw [cf om,ax,aE]
theorem ahj (l:List ah):(vb l).length≤bJ l+1:=by
 have:=NP l ([],[]);unfold vb dG;simp only [Bz,eW,jd,kg] at *;omega
theorem adV:∀ {c:List ah},(∀r∈c,r.fText.length=1)→bJ c=c.length
 | [],_=>rfl
 | r::c,h=>by
  have:=adV (c:=c) fun x hx=>h x (by simp [hx]);have:=h r si;unfold bJ at *;simp only [eV,O6,jd];omega
theorem anq {c:List ah} (h:∀r∈c,r.aC=1):∀e∈c.flatMap wS,e.gS=false:=by
 intro e he;obtain⟨r,hr,he⟩:=List.mem_flatMap.1 he;have hc:=h r hr;unfold wS at he;rw [hc] at he;obtain⟨b,-,rfl⟩:=p8.1 (show e∈r.fText.map fun b=>fm.mk (b.toNat:Int) ((1:Int) != 1) from he);rfl
theorem acJ (c:Int):∀(ps:List Bs) (d:List (List ah)) (t:List ah),(ps.foldl (U2 c) (d,t)).1++[(ps.foldl (U2 c) (d,t)).2]=d++(t::ps.map fun q=>[ah.mk q c])
 | [],d,t=>rfl
 | q::ps,d,t=>by
  have:=acJ c ps (d++[t]) [ah.mk q c];rw [NI];unfold U2 at *;rw [this];simp
theorem acK (s:Bs) (c:Int) (hc:uu c=false):HV [ah.mk s c]=(bA s).map fun p=>[ah.mk p c]:=by
 unfold HV Fj;rw [NI,List.foldl_nil];unfold tu;rw [show uu (ah.mk s c).aC=false from hc,cond_false];show (pcP c ([],[]) (bA s)).1++[(pcP c ([],[]) (bA s)).2]=_
 cases h:bA s with
 | nil=>exact absurd h (xC s)
 | cons p ps=>exact acJ c ps [] [ah.mk p c]
theorem akF (s:Bs) (c:Int) (hc:uu c=false) (k:Nat):(([ah.mk s c].take k).foldl tu ([],[])).2.length≤1000000:=by
 cases k with
 | zero=>simp
 | succ k =>
  have h:(Fj [ah.mk s c]).2∈HV [ah.mk s c]:=by unfold HV;simp
  rw [acK s c hc] at h;obtain⟨p,-,hp⟩:=p8.1 h;rw [mw si];show (Fj [ah.mk s c]).2.length≤_;rw [←hp];simp
def akG (t:List ah):List av:=(t.flatMap wS).map fun e=>pb e.fb
theorem acL (p:Bs) (c:Int):ny [ah.mk p c]=p:=by simp [ny]
theorem afS (s:Bs) (c:Int):((bA s).map fun p=>[ah.mk p c]).map ny=bA s:=by
 rw [qE]
 conv=>rhs;rw [←NH (bA s)]
 exact XP fun p _=>acL p c
theorem adW {cwd:Bs} (h:jI cwd=true):Po cwd [47]=([47],0):=by
 unfold Po;rw [h];rfl
def adX (p n:Bs):Bs:=cond (p==[47]) ([47]++n) ((p++[47])++n)
def anr (l:List aL) (p:Bs):Bool:=(Gu l p).elim false fun f=>f.jg
def akH (n:Bs):Bool:=n.take 1==[46]
def ans (c:aI):Bool:=decide (0<c.jh.length)&&((c.jh.getD 0 bE).fKind==1&&(c.jh.getD 0 bE).fText==[46])
def amv (mt:List av→Bs→Bool) (c:aI) (n:Bs):Bool:=!((akH n && !ans c) || !mt c.jh n)
def W (l:List aL) (mt:List av→Bs→Bool):List aI→Bs→List (List Bs)
 | [],p=>[[]]
 | c::cs,p=>cond (!anr l p) [] (cond (!c.mG) (((amr l p).filter (amv mt c)).flatMap fun n=>(W l mt cs (adX p n)).map (n :: ·))
   (cond (c.bR==[]||c.bR==[46]) ((W l mt cs p).map (c.bR :: ·)) (cond (c.bR==[46,46]) ((W l mt cs (lN p)).map (c.bR :: ·))
   (cond (Gu l (adX p c.bR)).isNone [] ((W l mt cs (adX p c.bR)).map (c.bR :: ·))))))
section
variable {F : Nat} {l : List aL} {mt : List av → Bs → Bool} {parts : List aI}
abbrev akI:=Bool × (List aL) × (List aI) × (List (bB × Bool)) × (List Bs) × (List Bs)
def akJ (l:List aL) (mt:List av→Bs→Bool) (parts:List aI) (dead:List (bB × Bool)):Prop:=∀(i:Nat) p,sS fI dead (bB.mk (i:Int) p) false=true→W l mt (parts.drop i) p=[]
structure LA (parts:List aI) (i:Nat) (names:List Bs):Prop where
 len:names.length=parts.length
 lit:∀j,i≤j→∀h:j<parts.length,parts[j].mG=true→names.getD j []=parts[j].bR
 sz:∀n∈names,n.length≤300
def SOk (l:List aL) (mt:List av→Bs→Bool) (parts:List aI) (i:Nat) (path:Bs) (names found:List Bs) (r:akI):Prop :=
 ∃aiK names',r=(!(W l mt (parts.drop i) path).isEmpty,l,parts,aiK,names',found++(W l mt (parts.drop i) path).map fun ws=>iD (names.take i++ws))∧akJ l mt parts aiK∧LA parts i names'∧names'.take i=names.take i
theorem LA.up {i:Nat} {names:List Bs} (h:LA parts i names):LA parts (i+1) names:=⟨h.len,fun j hj=>h.lit j om,h.sz⟩
theorem YF {i:Nat} {names:List Bs} (h:LA parts i names) (hi:i<parts.length) (hl:parts[i].mG=true):names.take (i+1)=names.take i++[parts[i].bR]:=by
 have h1:i<names.length:=by rw [h.len];exact hi
 rw [jT h1];have:=h.lit i (bM _) hi hl;rw [gd h1] at this;rw [this]
theorem SOk.lit {i:Nat} {path path':Bs} {names found:List Bs} {r:akI} (hn:LA parts i names) (hi:i<parts.length) (hl:parts[i].mG=true)
  (hW:W l mt (parts.drop i) path=(W l mt (parts.drop (i+1)) path').map (parts[i].bR :: ·)) (h:SOk l mt parts (i+1) path' names found r):SOk l mt parts i path names found r:=by
 obtain⟨d,n',rfl,h1,h2,h3⟩:=h
 have h4:n'.take i=names.take i:=by
  have:=congrArg (List.take i) h3;rwa [XF,XF,Ee om] at this
 refine⟨d,n',?_,h1,⟨h2.len,fun j hj hlt hlj=>?_,h2.sz⟩,h4⟩
 ·rw [hW,YF hn hi hl]
  simp only [qE,List.isEmpty_map,iu,List.singleton_append];rfl
 ·by_cases e:j=i
  ·subst e
   have h5:=YF hn hi hl;rw [←h3] at h5;have h6:j<n'.length:=by rw [h2.len];exact hi
   rw [jT h6,h4] at h5;have h7:=List.append_cancel_left h5;rw [gd h6];exact List.singleton_inj.1 h7
  ·exact h2.lit j om hlt hlj
end
theorem xE (a b:List ah):bJ (a++b)=bJ a+bJ b:=by unfold bJ;rw [zH,adL]
theorem Sy {n:List Bs} (h:Names n):pathOf n=[47]↔n=[]:=by
 have:=abk h;rw [Eg] at this;simpa using this
structure VT (l:List aL):Prop where
 len:l.length≤128
 root:∃f∈l,f.aU=[47]
 path:∀f∈l,jI f.aU=true
 dir:∀f∈l,f.jg=true→f.fData=[]
 aky:∀f∈l,f.aU=[47]→f.jg=true
 data:∀f∈l,f.fData.length≤8192
 asc:Asc l
 par:∀f∈l,f.aU≠[47]→∃p∈l,p.aU=lN f.aU∧p.jg=true
theorem VT.up {l:List aL} (h:VT l):∀(r:List Bs) (m:List Bs) (c:Bs),Names (m++c::r)→(∃f∈l,f.aU=pathOf (m++c::r))→∃f∈l,f.aU=pathOf (m++[c]):=by
 intro r
 induction hn:r.length generalizing r with
 | zero =>
  intro m c _ hf;obtain rfl:r=[]:=oA hn
  exact hf
 | succ k ih =>
  intro m c hN ⟨f,hf,e⟩;have hr:r≠[]:=by intro e;subst e;simp at hn
  have hne:f.aU≠[47]:=by
   rw [e];intro e';have:=(Sy hN).1 e';simp at this
  obtain⟨p,hp,e1,-⟩:=h.par f hf hne;rw [e,Yx hN] at e1
  have e2:(m++c::r).dropLast=m++c::r.dropLast:=by
   rw [List.dropLast_append_of_ne_nil si,List.dropLast_cons_of_ne_nil hr]
  rw [e2] at e1;exact ih r.dropLast (by simp [hn]) m c (by rw [←e2];exact hN.dropLast) ⟨p,hp,e1⟩
def GI (n:Nat) (o:List (List ah) × List ah):Prop:=(∀c∈o.1,(∀r∈c,r.fText.length=1)∧c.length≤n)∧(∀r∈o.2,r.fText.length=1)∧o.2.length≤n
theorem GI.up {n m:Nat} {o:List (List ah) × List ah} (h:GI n o) (hm:n≤m):GI m o:=⟨fun c hc=>⟨(h.1 c hc).1,by have:=(h.1 c hc).2;omega⟩,h.2.1,by have:=h.2.2;omega⟩
theorem YG (cl:Int):∀(t:Bs) (n:Nat) (o:List (List ah) × List ah),GI n o→GI (n+t.length) (t.foldl (iW cl) o)
 | [],n,o,h=>h
 | b::t,n,o,h=>by
  have h2:GI (n+1) (iW cl o b):=by
   obtain⟨h1,h2,h3⟩:=h;unfold iW;cases (b==47)
   ·refine⟨fun c hc=>⟨(h1 c hc).1,by have:=(h1 c hc).2;omega⟩,fun r hr=>?_,bx⟩
    rcases gz.1 hr with hr | hr
    ·exact h2 r hr
    ·obtain rfl:=iw.1 hr;rfl
   ·refine⟨fun c hc=>?_,fun r hr=>(by cases hr),si⟩
    rcases gz.1 hc with hc | hc
    ·exact⟨(h1 c hc).1,by have:=(h1 c hc).2;omega⟩
    ·obtain rfl:=iw.1 hc;exact⟨h2,om⟩
  have:=YG cl t (n+1) _ h2;rwa [show n+1+t.length=n+(b::t).length by simp;omega] at this
theorem akK:∀(l:List ah) (n:Nat) (o:List (List ah) × List ah),GI n o→GI (n+bJ l) (l.foldl va o)
 | [],n,o,h=>h
 | r::l,n,o,h=>by
  have h2:GI (n+r.fText.length) (va o r):=by
   unfold va;cases (r.aC != 0&&(r.aC != 1&&r.aC != 2))
   ·exact YG _ _ _ _ h
   ·exact h.up om
  have:=akK l _ _ h2;rwa [show n+r.fText.length+bJ l=n+bJ (r::l) by simp [bJ];omega] at this
theorem akL (l:List ah):∀c∈vb l,bJ c=c.length∧c.length≤bJ l:=by
 have h:=akK l 0 ([],[]) ⟨fun c hc=>(by cases hc),fun r hr=>(by cases hr),si⟩;rw [fC] at h;intro c hc;rcases gz.1 hc with hc | hc
 ·exact⟨adV (h.1 c hc).1,(h.1 c hc).2⟩
 ·obtain rfl:=iw.1 hc;exact⟨adV h.2.1,h.2.2⟩
end Go.Proofs.YtkeibjejncpgnaaGreatDoor
