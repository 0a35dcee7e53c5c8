import Derived.Test.YtkmlndnhiboofaaGreatDoorEf
import Derived.Test.YtkmlndnhiboofaaGreatDoorTx
import Derived.Test.YtkmlndnhiboofaaGreatDoorSo
import Derived.Test.YtkmlndnhiboofaaGreatDoorPe
open Option renaming some->W0,none->WP
open Bool renaming true->WF,false->UV
open Decidable renaming decide->T1
open Int renaming toNat->Ts
open Go.IntKind renaming wrap->Sx
open Nat renaming blt->So
set_option linter.all false
namespace Go.Proofs.YtkmlndnhiboofaaGreatDoor
open Go.RT
set_option maxRecDepth 100000
theorem arP (F : Nat) (l : J aB) (hF : l.length < F) (rD : bX l < F) (h1 : l.length < 1000000000) (h2 : bX l ≤ 1000000) (hq : ∀ e ∈ l.flatMap nS, e.lN = false) : iB F l = some ((l.flatMap nS).map fun e => pb e.fb) := by
  unfold iB wx
  rw [K9 F l hF rD h1 (by omega), Option.bind_some]
  have hx : (l.flatMap nS).length ≤ bX l := GH _ Qa _
  generalize (l.flatMap nS) = x at hx hq
  have hno : ∀ (i : Nat) (b : Int), eF x i b = false := by
    intro i b
    unfold eF
    by_cases h : i < x.length
    · rw [show (x.getD i cN).lN = false by rw [gd h]; exact hq _ (List.getElem_mem h)]
      simp
    · rw [dF h]; rfl
  refine cG (fun s => ∃ k : Nat, s.2 = (k : Int) ∧ k ≤ x.length ∧ s.1 = (x.take k).map fun e => pb e.fb) (fun s => x.length - s.2.toNat) ?_ F _ ⟨0, rfl, by omega, by simp⟩ (by simp; omega)
  rintro ⟨acc, ii⟩ ⟨k, h0, hk, ha⟩
  dsimp only at h0 ha ⊢
  subst h0
  by_cases hk : k < x.length
  · left
    refine ⟨((x.take (k + 1)).map fun e => pb e.fb, ((k + 1 : Nat) : Int)), ⟨k + 1, rfl, by omega, rfl⟩, by simp; omega, fun rc => ?_⟩
    have hal : acc.length = k := by rw [ha]; simp; omega
    rw [cC (by omega)]
    simp only [hU, hno, Option.bind_some, cond_false]
    show ((fH F x (k : Int) 42).bind _) = _
    simp only [hU, hno, Option.bind_some, cond_false]
    rw [bR hk, ez (by simp; omega) (by omega), cy (by omega), Int.toNat_natCast, gd hk, List.take_succ_eq_append_getElem hk, List.map_append, ← ha]
    rfl
  · right
    obtain rfl : k = x.length := by omega
    intro rc
    rw [cf (by omega), ha, List.take_length]
theorem pvq0 (F : Nat) (x : J Int) (hF : x.length + 1 < F) (hx : x.length < 1000000) : mI F (x.map pb) = some true := by
  unfold mI wx
  refine cG (fun s => ∃ k : Nat, s = (k : Int) ∧ k ≤ x.length) (fun s => x.length - s.toNat) ?_ F _ ⟨0, rfl, by omega⟩ (by simp; omega)
  rintro ii ⟨k, rfl, hk⟩
  have hl : (x.map pb).length = x.length := by simp
  by_cases hk : k < x.length
  · left
    refine ⟨((k + 1 : Nat) : Int), ⟨k + 1, rfl, by omega⟩, by simp; omega, fun rc => ?_⟩
    rw [cC (by omega), bR (by omega), Int.toNat_natCast, gd (l := x.map pb) (by omega), List.getElem_map, cy (by omega)]
    obtain ⟨G, rfl⟩ : ∃ G, F = G + 1 := ⟨F - 1, by omega⟩
    rfl
  · right
    intro rc
    rw [cf (by omega)]
theorem fbl0 : ∀ l : J Int, (l.flatMap fun b => cu [b]).length = l.length
  | [] => rfl
  | b :: l => by rw [List.flatMap_cons, List.length_append, fbl0 l]; simp [cu]; omega
theorem arQ (F : Nat) (x : J Int) (hF : x.length + 1 < F) (hx : x.length < 1000000) : rE F (x.map pb) = some (x.flatMap fun b => cu [b], true) := by
  unfold rE wx
  rw [pvq0 F x hF hx, Option.bind_some, Bool.not_true, cond_false]
  refine cG (fun s => ∃ k : Nat, s.2 = (k : Int) ∧ k ≤ x.length ∧ s.1 = cV ((x.take k).flatMap fun b => cu [b])) (fun s => x.length - s.2.toNat) ?_ F _ ⟨0, rfl, by omega, by simp [cV]⟩ (by simp; omega)
  rintro ⟨acc, ii⟩ ⟨k, h0, hk, ha⟩
  dsimp only at h0 ha ⊢
  subst h0
  have hl : (x.map pb).length = x.length := by simp
  by_cases hk : k < x.length
  · left
    refine ⟨(cV ((x.take (k + 1)).flatMap fun b => cu [b]), ((k + 1 : Nat) : Int)), ⟨k + 1, rfl, by omega, rfl⟩, by simp; omega, fun rc => ?_⟩
    have hal : acc.length = k := by rw [ha, cV, List.length_map, fbl0, List.length_take]; omega
    rw [cC (by omega), bR (by omega), Int.toNat_natCast, gd (l := x.map pb) (by omega), List.getElem_map, cy (by omega)]
    show rq _ (rc (acc ++ cV (cu [x[k]]), _)) = _
    rw [ez (by rw [hal]; show k + 1 ≤ _; omega) (by omega), List.take_succ_eq_append_getElem hk, List.flatMap_append, ha]
    simp [cV]
  · right
    obtain rfl : k = x.length := by omega
    intro rc
    rw [cf (by omega), ha, List.take_length]
    congr 2
    exact Sn _
def HS{α:Type}(S:α->Prop):Prop:=∀P:α->Nat->Prop,(∀a n m,n<=m->P a n->P a m)->(∀a,S a->∃N,P a N)->∃N,∀a,S a->P a N
theorem ab9:∀(k:Nat),HS (λn=>n<k)
 | 0=>λP hm h=>⟨0,λa ha=>absurd ha (aeW _)⟩
 | k+1=>λP hm h=>by
  obtain⟨N,hN⟩:=ab9 k P hm λa ha=>h a om;obtain⟨M,hM⟩:=h k om;refine⟨N+M,λa ha=>?_⟩;by_cases e:a=k
  ·grind
  ·exact hm _ N _ om (hN a om)
variable{α:Type}{S:α->Prop}
theorem S6{β:Type}{T:β->Prop}(hS:HS S)(f:α->β)(hf:∀b,T b->∃a,S a/\f a=b):HS T:=λP hm h=>by
 obtain⟨N,hN⟩:=hS (λa n=>T (f a)->P (f a) n) (λa n m hnm h1 h2=>hm _ n m hnm (h1 h2)) (λa ha=>by
  by_cases ht:T (f a)
  ·simp_all
  simp_all)
 refine⟨N,λb hb=>?_⟩
 grind
theorem anE:HS (λ_:UInt8=>True):=S6 (ab9 256) UInt8.ofNat λb _=>⟨b.toNat,b.toNat_lt,si⟩
theorem Py{α β:Type}{S:α->Prop}{T:β->Prop}(hS:HS S)(hT:HS T):HS (λp:α×β=>S p.1/\T p.2):=λP hm h=>by
 obtain⟨N,hN⟩:=hS (λa n=>∀b,T b->P (a,b) n) (λa n m hnm h1 b hb=>hm _ n m hnm (h1 b hb)) λa ha=>hT (λb n=>P (a,b) n) (λb n m hnm h1=>hm _ n m hnm h1) λb hb=>h (a,b) ⟨ha,hb⟩;exact⟨N,λp hp=>hN p.1 hp.1 p.2 hp.2⟩
theorem Pz{α:Type}{S:α->Prop}(hS:HS S):∀(k:Nat),HS (λl:J α=>l.length<=k/\∀a∈l,S a)
 | 0=>λP hm h=>by
  simp_all
 | k+1=>λP hm h=>by
  obtain⟨M,hM⟩:=h [] ⟨gj _,λ_ h=>nomatch h⟩
  obtain⟨N,hN⟩:=Py hS (Pz hS k) (λp n=>P (p.1::p.2) n) (λp n m hnm h1=>hm _ n m hnm h1) λp hp=>h _ ⟨by simp_all,λa ha=>by
   grind⟩
  refine⟨N+M,λl hl=>?_⟩
  cases l with
  | nil=>grind
  | cons a t=>exact hm _ N _ om (hN (a,t) ⟨hl.2 a (qK),by simp_all,λx hx=>hl.2 x (ku _ hx)⟩)
theorem S7(k:Nat):HS (λs:Bs=>s.length<=k):=S6 (Pz anE k) id λs hs=>⟨s,⟨hs,λ_ _=>trivial⟩,rfl⟩
theorem alr:HS (λl:J cw=>l.length<=128/\∀b∈l,b.fName.length<=60/\b.bS.length<=4096):=
 Pz (S6 (Py (S7 60) (S7 4096)) (λp=>cw.mk p.1 p.2) λb hb=>⟨(b.fName,b.bS),hb,rfl⟩) 128
end Go.Proofs.YtkmlndnhiboofaaGreatDoor
namespace Go.Proofs.YtkmlndnhiboofaaGreatDoor.K
open Go.RT
theorem anF{e:TExpr}(ho:iM e){l:J cO}(hl:l.length<=1000)(hb:SQ l):gJ (ya e l).1:=by
 have z:gJ 0:=by unfold gJ;decide
 unfold ya
 cases hv:(iA e 0 != 0)with
 | true=>exact z
 | false=>
  have jz:iA e 0=0:=by simpa using hv
  have g:Good e:=⟨IL e 0 jz,ho,Vb e (IL e 0 jz)⟩;obtain⟨k1,k2⟩:=O0 e g _ _ (Hj hb)
  grind
theorem als{I:Env->Prop}(hI:∀m k n,I m->I (jN cW m k (Lib.itoa n))):∀(e:TExpr)(m:Env),I m->I (kW e m).2.2:=by
 intro e
 induction e using TExpr.ind with
 | h op n name kids ih=>
  intro m hm;rw[Va];show I (evB op n name (kids.map kW) m).2.2
  have hk:∀(i:Nat)(m:Env),I m->I ((kids.map kW).getD i dK m).2.2:=λi m hm=>by
   by_cases h:i<kids.length
   ·simp_all
   ·rw[aeR,Ny (by simpa using h)];exact hm
  unfold evB JM OZ abN
  grind
theorem aiW(e:TExpr)(l:J cO):∀b∈(ya e l).2.1,b.bS≠[]\/b∈l:=by
 have nd:∀u:Nat,Lib.decDigits u≠[]:=λu=>by
  rw[Lib.decDigits];split<;>simp
 have nn:∀n:Int,Lib.itoa n≠[]:=λn=>by
  unfold Lib.itoa
  grind
 have hI:=als (I:=λm=>∀p∈m,p.2≠[]\/cO.mk p.1 p.2∈l) (λm k n h p hp=>by
  rcases SN hp with rfl|hp
  ·exact .inl (nn n)
  ·exact h p hp) e (uw l) (by
  unfold uw
  have key:∀(k:J cO)(m:Env),(∀b∈k,b∈l)->(∀p∈m,p.2≠[]\/cO.mk p.1 p.2∈l)->∀p∈k.foldl (λm b=>jN cW m b.fName b.bS) m,p.2≠[]\/cO.mk p.1 p.2∈l:=by
   intro k
   induction k with
   | nil=>intro m _ h;exact h
   | cons b k ih=>
    intro m hk h;refine ih _ (λc hc=>hk c (ku _ hc)) λp hp=>?_;rcases SN hp with rfl|hp
    ·simp_all
    ·exact h p hp
  grind)
 intro b hb;unfold ya at hb;revert hb;cases (iA e 0 != 0)
 ·cases ((kW e (uw l)).2.1 != 0)
  ·intro hb
   obtain⟨k,hk,rfl⟩:=(CZ _ _).1 hb;rcases LO (kW e (uw l)).2.2 k ([]:Bs)with⟨p,hp,h1,h2⟩|⟨h1,_⟩
   ·have:=hI p hp
    rw[h1,h2]at this;exact this
   ·exact absurd hk h1
  ·intro hb;cases hb
 ·intro hb;cases hb
def VA(N:Nat)(s:Bs)(b:J cO):Prop:=∃r:Int×J cO×Int,(gJ r.1/\r.2.1.length<=100000/\∀c∈r.2.1,c.bS≠[]\/c∈b)/\∀F,N<=F->D9 F s b=W0 r/\BS F s b=W0 r
theorem anG(s:Bs)(b:J cO)(hs:s.length<=4096)(hl:b.length<=128)(hb:SQ b):∃N,VA N s b:=by
 obtain⟨x,⟨ho,hn⟩,hp⟩:=ady s hs;have h1:=abQ ho om hb hn;have h2:=adw ho om hb hn;obtain⟨N,hN⟩:=hp.and (h1.and h2);refine⟨N,cond (x.2.2 != 0) (0,[],x.2.2) (ya x.1 b),?_,λF hF=>?_⟩
 ·cases (x.2.2 != 0)with
  | true=>exact⟨show gJ 0 by unfold gJ;decide,gj _,λ_ h=>nomatch h⟩
  | false=>grind[anF,aiG,aiW]
 ·unfold D9 BS wx
  grind[TExpr.eta]
theorem acd:∃N,∀(s:Bs)(b:J cO),s.length<=4096->b.length<=128->SQ b->VA N s b:=by
 obtain⟨N,hN⟩:=Py (S7 4096) alr (λp n=>VA n p.1 p.2) (λp n m hnm ⟨r,h1,h2⟩=>⟨r,h1,λF hF=>h2 F om⟩) λp hp=>anG p.1 p.2 hp.1 hp.2.1 hp.2.2;exact⟨N,λs b h1 h2 h3=>hN (s,b) ⟨h1,h2,h3⟩⟩
noncomputable def NC:Nat:=Classical.choose acd
theorem Xe:∀(s:Bs)(b:J cO),s.length<=4096->b.length<=128->SQ b->VA NC s b:=Classical.choose_spec acd
end Go.Proofs.YtkmlndnhiboofaaGreatDoor.K
namespace Go.Proofs.YtkmlndnhiboofaaGreatDoor
open Go.RT
noncomputable def NC:Nat:=K.NC
abbrev DN(l:J cw):Prop:=∀b,b∈l->b.fName.length<=60/\b.bS.length<=4096
theorem Xe(s:Bs)(b:J cw)(h1:s.length<=4096)(h2:b.length<=128)(h3:DN b):∃r:Int×J cw×Int,(K.gJ r.1/\r.2.1.length<=100000/\∀c∈r.2.1,c.bS≠[]\/c∈b)/\∀F,NC<=F->D9 F s b=W0 r/\BS F s b=W0 r:=K.Xe s b h1 h2 h3
set_option maxRecDepth 100000
def yJ(l:J bO):Prop:=l.Pairwise λa b=>a.fName<b.fName
variable{F:Nat}
theorem S8(l:J bO)(p:bO->Bool){m:bO->O Bool}(hm:∀v,m v=W0 (p v))(hF:l.length<F)(hl:l.length<=1000):
  bW (σ:=Int) (λbA x1=>cond (T1 (x1<(l.length:Int))) (rq ((T1 (0<=x1))&&(T1 (x1<(l.length:Int)))) ((m (l.getD (Ts x1) fP)).bind λx3=>cond x3 (W0 x1) (bA (aC (x1+1))))) (W0 (-1))) F 0=W0 ((l.findIdx? p).elim (-1) λi=>(i:Int)):=by
 rw[pJ l (λi=>(i:Int)) p (λi _=>W0 (i:Int)) (W0 (-1)) (s:=(0:Int)) hF rfl (λi h rc=>?_) (λrc=>?_)]
 ·rw[Sm _ _ _ fP];cases l.findIdx? p<;>simp
 ·rw[cC om,bZ om om,b9,gd h,hm,aD,bz om]
 ·rw[cf om]
theorem S9(p:bO->Bool):∀l:J bO,l.find? p=(l.findIdx? p).map λi=>l.getD i fP
 | []=>rfl
 | x::l=>by
  rw[ND,Zt,S9 p l];cases p x
  ·cases List.findIdx? p l<;>simp
  ·rfl
theorem Mf{p:bO->Bool}{l:J bO}{i:Nat}(h:l.findIdx? p=W0 i):i<l.length/\p (l.getD i fP)=WF:=by
 grind[List.findIdx?_eq_some_iff_getElem,gd]
theorem ag0(F:Nat)(l:J bO)(n:Bs)(hF:l.length<F)(hl:l.length<=1000):xl F l n=W0 (j7 l n):=by
 unfold xl Pp j7 wx;rw[S8 l (λv=>v.fName==n) (m:=λv=>L9 F v n) (λv=>rfl) hF hl,S9]
 cases h:l.findIdx? λv=>v.fName==n with
 | none=>rfl
 | some i=>
  obtain⟨h1,-⟩:=Mf h
  simp_all[cC,rq,bZ]
theorem QD(F:Nat)(l:J bO)(i k:Nat)(v:bO)(hi:i+k<=l.length)(hl:l.length<=1000):sw F l (i:Int) (k:Int) [v]=W0 (l.take i++v::l.drop (i+k)):=by
 unfold sw wx;have e1:aC ((l.length:Int)+(([v]:J bO).length:Int))=((l.length+1:Nat):Int):=bN bp;have e2:aC ((i:Int)+(k:Int))=((i+k:Nat):Int):=bN om;have s1:sl l 0 (i:Int)=l.take i:=by simp[sl]
 have s2:sl l ((i+k:Nat):Int) (l.length:Int)=l.drop (i+k):=by grind[sl,Int.toNat_natCast,List.take_length]
 grind[cq,bZ,pI,Ka]
def iH(l:J bO)(n:Bs):Nat×Bool:=match l.findIdx? λv=>v.fName==n with
 | some i=>(i,WF)
 | none=>match l.findIdx? λv=>!(Op.bytesLess v.fName n||v.fName==n)with
  | some i=>(i,UV)
  | none=>(l.length,UV)
theorem aiX(F:Nat)(l:J bO)(n:Bs)(hF:l.length<F)(hl:l.length<=1000):B2 F l n=W0 ((((iH l n).1:Nat):Int),(iH l n).2):=by
 unfold B2 JY JZ iH wx;rw[S8 l (λv=>v.fName==n) (m:=λv=>HA F v n) (λv=>rfl) hF hl,S8 l (λv=>!(Op.bytesLess v.fName n||v.fName==n)) (m:=λv=>HB F v n) (λv=>rfl) hF hl]
 grind
theorem ace(l:J bO)(n:Bs):(iH l n).1+cond (iH l n).2 1 0<=l.length:=by
 unfold iH;split
 ·rename_i i h
  exact(Mf h).1
 ·split
  ·rename_i i h
   exact Nat.le_of_lt (Mf h).1
  ·exact eu _
theorem Yp{l:J bO}{n:Bs}:j7 l n=cond (iH l n).2 (l.getD (iH l n).1 fP,WF) (bO.mk [] [] UV UV UV,UV):=by
 unfold iH j7
 grind[S9]
theorem VB{l:J bO}{n:Bs}(h:(iH l n).2=WF):(l.getD (iH l n).1 fP).fName=n:=by
 unfold iH at h⊢
 grind[Mf]
theorem Eh(v:bO):∀(l:J bO),(∀x∈l,¬ x.fName=v.fName)->nk v l WF=l
 | [],_=>rfl
 | x::l,h=>by
  have h1:(x.fName==v.fName)=UV:=by simpa using h x qK
  simp only[nk,h1,Bool.true_or];rw[Eh v l λy hy=>h y (ku _ hy)];rfl
theorem Gl(v:bO):∀ {l:J bO},yJ l->nk v l UV=l.take (iH l v.fName).1++v::l.drop ((iH l v.fName).1+cond (iH l v.fName).2 1 0)
 | [],_=>rfl
 | x::l,h=>by
  obtain⟨h1,h2⟩:=yE.1 h;rcases UZ x.fName v.fName with hx|hx|hx
  ·have b1:=(K8 _ _).2 hx
   have b2:(x.fName==v.fName)=UV:=by simpa using λe:x.fName=v.fName=>mw _ (e▸hx)
   have:=Gl v h2
   have e:iH (x::l) v.fName=((iH l v.fName).1+1,(iH l v.fName).2):=by
    unfold iH;rw[Zt,Zt,b2,b1]
    cases l.findIdx? λy=>y.fName==v.fName with
    | some i=>simp
    | none=>cases l.findIdx? λy=>!(Op.bytesLess y.fName v.fName||y.fName==v.fName)<;>simp
   rw[e];simp only[nk,b1,b2];rw[show(UV || !WF)=UV from rfl,this,show(iH l v.fName).1+1+cond (iH l v.fName).2 1 0=((iH l v.fName).1+cond (iH l v.fName).2 1 0)+1 by omega];rfl
  ·have b1:Op.bytesLess x.fName v.fName=UV:=(DG _ _).2 (by simp_all)
   have b2:(x.fName==v.fName)=WF:=by simpa using hx
   have e:iH (x::l) v.fName=(0,WF):=by unfold iH;grind
   simp only[nk]
   grind[Eh,mw]
  ·have b1:=(DG _ _).2 λh=>mw _ (rB h hx)
   have b2:(x.fName==v.fName)=UV:=by grind
   have hy:∀y∈l,¬ y.fName=v.fName:=λy hy e=>mw v.fName (rB hx (by grind))
   have e:iH (x::l) v.fName=(0,UV):=by
    unfold iH
    grind
   simp[nk,b2]
   simp_all[Eh]
theorem Ta{v:bO}:∀ {l:J bO},yJ l->yJ (nk v l UV)
 | [],_=>by unfold yJ;exact aeP _ _
 | x::l,h=>by
  obtain⟨h1,h2⟩:=yE.1 h;rcases UZ x.fName v.fName with hx|hx|hx
  ·have b1:=(K8 _ _).2 hx
   have b2:(x.fName==v.fName)=UV:=by simpa using λe:x.fName=v.fName=>mw _ (e▸hx)
   simp[nk,b1,b2];refine yE.2 ⟨λy hy=>?_,Ta h2⟩;rcases Sg v l _ y hy with rfl|hy
   ·exact hx
   ·exact h1 y hy
  ·have b1:Op.bytesLess x.fName v.fName=UV:=(DG _ _).2 (by simp_all)
   have b2:(x.fName==v.fName)=WF:=by simpa using hx
   simp only[nk,b1,b2];rw[show(UV || !UV)=WF from rfl,Eh v l λy hy e=>mw _ (by have:=h1 y hy;rw[hx,e]at this;exact this)];exact yE.2 ⟨λy hy=>by simp_all,h2⟩
  ·have b1:=(DG _ _).2 λh=>mw _ (rB h hx)
   have b2:(x.fName==v.fName)=UV:=by grind
   simp only[nk,b1,b2];rw[show(UV || !UV)=WF from rfl,Eh v l λy hy e=>mw v.fName (rB hx (by grind))];refine yE.2 ⟨λy hy=>?_,h⟩;rcases iy.1 hy with rfl|hy
   ·exact hx
   ·exact rB hx (h1 y hy)
def GA(l:J bO):Prop:=GV l/\yJ l
theorem GA.len{l:J bO}(h:GA l):l.length<=128:=h.1.1
theorem asQ(F:Nat){l:J bO}(h:GA l)(n v:Bs)(hF:1000<F):∃r,GA r.1/\tM F l n v=W0 r/\HC F l n v=W0 r:=by
 have hl:=h.1.1;obtain⟨r0,h0,e0⟩:=aqp F h.1 n v hF;refine⟨r0,?_⟩;obtain⟨b,hb,eb⟩:=Fh F n om;unfold tM wx at e0⊢;unfold HC;rw[K.Hf F n om,eb];rw[zy F l n om om]at e0⊢;rw[eb]at e0
 cases b with
 | false=>
  grind
 | true=>
  have hle:=ace l n;have hgt:=Yp (l:=l) (n:=n);have hnm:=VB (l:=l) (n:=n);have hat:=λa (b c d:Bool)=>(PZ F l (bO.mk n a b c d) om om).trans (congrArg W0 (Gl (bO.mk n a b c d) h.2));have yK:=λa (b c d:Bool)=>Gl (bO.mk n a b c d) h.2▸Ta h.2;rw[aiX F l n om om];rw[hgt]at e0⊢;dsimp only at hat yK hnm⊢;generalize iH l n=q at hle hgt hnm hat yK e0⊢;obtain⟨i,b⟩:=q
  cases b with
  | false=>
   dsimp at hle hat yK e0⊢;by_cases h4:4096<v.length
   ·grind
   rw[cf om]at e0⊢;rw[cf om];simp at e0⊢;by_cases h5:128<=l.length
   ·grind
   rw[cf om]at e0⊢;rw[hat]at e0⊢;cases e0;refine⟨⟨h0,yK _ _ _ _⟩,rfl,?_⟩;rw[cf om,show((0:Int))=((0:Nat):Int)from rfl,QD F l i 0 _ om om]
   rfl
  | true=>
   dsimp only[cond_false,cond_true,Option.bind_some]at hle hat yK hnm e0⊢;rw[bZ om om,b9];generalize l.getD i fP=o at hnm e0⊢
   cases hr:o.rL with
   | true=>
    grind
   | false=>
   rw[hr]at e0;by_cases h4:4096<v.length
   ·grind
   rw[cf om]at e0⊢;rw[cf om];rw[hat]at e0⊢;cases e0;refine⟨⟨h0,yK _ _ _ _⟩,rfl,?_⟩;rw[bZ om om,show((1:Int))=((1:Nat):Int)from rfl,QD F l i 1 _ om om]
   simp_all
theorem aro(F:Nat){l:J bO}(h:GA l)(n:Bs)(a b:Bool)(hF:1000<F):∃r,GA r.1/\rz F l n a b=W0 r/\Ea F l n a b=W0 r:=by
 have hl:=h.1.1;obtain⟨r0,h0,e0⟩:=aou F h.1 n a b hF;refine⟨r0,?_⟩;obtain⟨c,hb,eb⟩:=Fh F n om;unfold rz wx at e0⊢;unfold Ea;rw[K.Hf F n om,eb];rw[eb]at e0
 cases c with
 | false=>
  grind
 | true=>
  rw[zy F l n om om]at e0⊢;have hle:=ace l n;have hgt:=Yp (l:=l) (n:=n);have hnm:=VB (l:=l) (n:=n);have hat:=λa (b c d:Bool)=>(PZ F l (bO.mk n a b c d) om om).trans (congrArg W0 (Gl (bO.mk n a b c d) h.2));have yK:=λa (b c d:Bool)=>Gl (bO.mk n a b c d) h.2▸Ta h.2;rw[aiX F l n om om];rw[hgt]at e0⊢;dsimp only at hat yK hnm⊢;generalize iH l n=q at hle hgt hnm hat yK e0⊢;obtain⟨i,c⟩:=q
  cases c with
  | false=>
   dsimp at hle hat yK e0⊢;simp at e0⊢;by_cases h5:128<=l.length
   ·grind
   rw[cf om]at e0⊢;rw[hat]at e0⊢;cases e0;refine⟨⟨h0,yK _ _ _ _⟩,rfl,?_⟩;rw[cf om,show((0:Int))=((0:Nat):Int)from rfl,QD F l i 0 _ om om]
   rfl
  | true=>
   dsimp only[cond_false,cond_true,Option.bind_some]at hle hat yK hnm e0⊢;rw[bZ om om];simp[aH]at e0⊢;rw[hat]at e0⊢;cases e0;refine⟨⟨h0,yK _ _ _ _⟩,rfl,?_⟩;rw[show((1:Int))=((1:Nat):Int)from rfl,QD F l i 1 _ om om]
   simp_all
def qE:Nat->Bs->Nat
 | a,[]=>a
 | a,b::l=>qE (10*a+(b.toNat-48)) l
def Cl(b:UInt8):Bool:=T1 (48<=b.toNat)&&T1 (b.toNat<=57)
theorem Xf:∀(l:Bs)(a:Nat),a*10^l.length<=qE a l
 | [],a=>Nat.le_of_eq (Td a)
 | b::l,a=>by
  have:=Xf l (10*a+(b.toNat-48))
  have h2:a*10^(l.length+1)<=(10*a+(b.toNat-48))*10^l.length:=by
   rw[Nat.pow_succ,Zc (10^l.length)]
   grind
  show a*10^(l.length+1)<=qE (10*a+(b.toNat-48)) l
  grind
theorem anH(l:Bs)(a:Nat):a<=qE a l:=by
 have:=Xf l a;have h:=aeD a (Nat.pow_pos (n:=l.length) (by decide:0<10));omega
theorem Tb:∀(l m:Bs)(a:Nat),qE a (l++m)=qE (qE a l) m
 | [],m,a=>rfl
 | b::l,m,a=>Tb l m _
theorem Yq(s:Bs){k:Nat}(h:k<s.length):qE 0 (s.take (k+1))=10*qE 0 (s.take k)+(s[k].toNat-48):=by
 rw[mh h,Tb];rfl
theorem aiY(s:Bs)(k:Nat):qE 0 (s.take k)<=qE 0 s:=by
 grind[List.take_append_drop,Tb,anH]
def B9(s:Bs):Int×Bool:=if s.all Cl=WF/\qE 0 s<=2147483647 then((qE 0 s:Nat),WF)else(0,UV)
theorem acf{s:Bs}{k:Nat}(h:k<s.length)(ha:(s.take k).all Cl=WF)(hd:Cl s[k]=WF):(s.take (k+1)).all Cl=WF:=by
 grind[List.take_succ_eq_append_getElem]
theorem Xg{s:Bs}{k:Nat}(h:k<s.length)(hd:Cl s[k]=UV):B9 s=(0,UV):=by
 unfold B9
 grind
theorem asR(F:Nat)(s:Bs)(hF:s.length<F)(hl:s.length<=1000)(h0:s≠[])(h1:s.getD 0 0≠48):qz F s=W0 (B9 s):=by
 have:aA (λr=>r=B9 s) (qz F s):=by
  unfold qz wx
  have e1:(s==[48])=UV:=by
   grind
  have e2:(s==[])=UV:=by simpa using h0
  have e3:(((s.getD 0 0).toNat:Int)==48)=UV:=by
   have:(s.getD 0 0).toNat≠48:=λh=>h1 (by apply aeX.1;rw[h];rfl)
   grind
  have:=Aw.2 h0;rw[e1,e2,aM,aM,mW om,e3,aD,aM];refine aA.lp (λz:Int×Bs×Int=>z.2.1=s/\∃k:Nat,z.2.2=(k:Int)/\k<=s.length/\(s.take k).all Cl=WF/\z.1=(qE 0 (s.take k):Nat)/\qE 0 (s.take k)<=2147483647) (λz=>s.length-z.2.2.toNat) ⟨rfl,0,rfl,om,rfl,rfl,gj _⟩ (by simp_all) ?_;rintro⟨x,s',p⟩ ⟨q1,k,q2,h2,h3,q3,h4⟩ rc hrc;have q1:=q1.symm;subst q1 q2 q3;rw[b9];by_cases hk:k<s.length
  ·have hb:So k s.length=WF:=aeN hk
   rw[hb,aY,K.aiq,aD];have hgd:s.getD k 0=s[k]:=gd hk;by_cases hs:(s.getD k 0).toNat<128
   ·rw[K.Af hs]
    have hdd:K.fV ((s.getD k 0).toNat:Int)=Cl s[k]:=by
     unfold K.fV Cl;grind
    rw[hdd]
    cases hd:Cl s[k]with
    | false=>grind[aA.ok,Xg]
    | true=>
     have hd':=hd;unfold Cl at hd';rw[cH,eT,eT]at hd';have ev:=Yq s hk
     have e5:aC ((aC (10*((qE 0 (s.take k):Nat):Int)))+(aC (Sx .i32 (((s.getD k 0).toNat:Int)-48))))=((qE 0 (s.take (k+1)):Nat):Int):=by
      rw[hgd,show Sx .i32 ((s[k].toNat:Int)-48)=(s[k].toNat:Int)-48 from IntWalk.i32_in _ om,bN (x:=(s[k].toNat:Int)-48) om,bN (x:=10*_) om,bN om,ev];omega
     dsimp only;rw[e5];refine aA.cd (λh=>aA.ok ?_) λh=>hrc _ ⟨rfl,k+1,rfl,hk,acf hk h3 hd,rfl,om⟩ (by grind);have:=aiY s (k+1);unfold B9;rw[if_neg om]
   ·have:=K.Ye hs
    have:K.fV ((dec s k).1:Int)=UV:=by
     unfold K.fV;grind
    rw[this];refine aA.ok (Xg hk ?_).symm;unfold Cl;grind
  ·have hb:So k s.length=UV:=by
    cases h:So k s.length with
    | false=>rfl
    | true=>exact absurd (lG h) hk
   rw[hb,aM];refine aA.ok ?_;unfold B9
   grind
 obtain⟨r,h,e⟩:=this;rw[e,h]
theorem asS(F:Nat)(s:Bs)(hF:s.length<F)(hl:s.length<=1000)(h0:s≠[])(h1:s.getD 0 0≠48):mj F s=W0 (B9 s):=by
 have:aA (λr=>r=B9 s) (mj F s):=by
  unfold mj wx;have e2:(s==[])=UV:=by simpa using h0
  have e3:(((s.getD 0 0).toNat:Int)==48)=UV:=by
   have:(s.getD 0 0).toNat≠48:=λh=>h1 (by apply aeX.1;rw[h];rfl)
   grind
  have hp:=Aw.2 h0;rw[e2,aM,aD];refine aA.bd (P:=λb=>b=T1 (10<s.length)) (aA.cd (λh=>aA.ok (by grind)) λh=>?_) λb hb=>?_
  ·grind[mW,aA.ok,decide_eq_false]
  subst hb;refine aA.cd (λh=>aA.ok ?_) λh=>?_
  ·unfold B9
   rw[if_neg λhh=>?_];have hall:=pE.1 hh.1
   obtain⟨a,l,rfl⟩:∃a l,s=a::l:=by cases s with
    | nil=>exact absurd rfl h0
    | cons a l=>exact⟨a,l,rfl⟩
   have ha:=hall a qK;unfold Cl at ha;rw[cH,eT,eT]at ha;have hne:a.toNat≠48:=λh=>h1 (by simp_all);have h5:=Xf l (10*0+(a.toNat-48));have h6:10^10<=10^l.length:=Nat.pow_le_pow_right de (by simp at h;omega);have h7:1*10^l.length<=(10*0+(a.toNat-48))*10^l.length:=zP _ om;have h8:qE 0 (a::l)=qE (10*0+(a.toNat-48)) l:=rfl
   grind
  ·refine aA.lp (λz:Int×Int=>∃k:Nat,z.2=(k:Int)/\k<=s.length/\(s.take k).all Cl=WF/\z.1=(qE 0 (s.take k):Nat)/\qE 0 (s.take k)<10^k) (λz=>s.length-z.2.toNat) ⟨0,rfl,om,rfl,rfl,Nat.one_pos⟩ (by simp_all) ?_
   rintro⟨x,p⟩ ⟨k,q2,h2,h3,q3,h4⟩ rc hrc;dsimp only at q2 q3 hrc⊢;subst q2 q3;refine aA.cd (λhk=>?_) λhk=>?_
   ·have hk:k<s.length:=om
    have hgd:s.getD k 0=s[k]:=gd hk;rw[bZ om om,b9,K.U2,aD,hgd]
    have hdd:K.fV (s[k].toNat:Int)=Cl s[k]:=by
     unfold K.fV Cl
     grind
    rw[hdd]
    cases hd:Cl s[k]with
    | false=>grind[aA.ok,Xg]
    | true=>
     have hd':=hd;unfold Cl at hd';rw[cH,eT,eT]at hd';have ev:=Yq s hk;have h10:10^k<=10^9:=Nat.pow_le_pow_right de om
     have e5:aC ((aC (10*((qE 0 (s.take k):Nat):Int)))+(aC (Sx .u8 ((s[k].toNat:Int)-48))))=((qE 0 (s.take (k+1)):Nat):Int):=by
      rw[show Sx .u8 ((s[k].toNat:Int)-48)=(s[k].toNat:Int)-48 from by
       show((s[k].toNat:Int)-48)%256=_;omega,bN (x:=(s[k].toNat:Int)-48) om,bN (x:=10*_) om,bN om,ev]
      omega
     rw[jd,aM,bZ om om,e5,bz om];refine hrc _ ⟨k+1,rfl,hk,acf hk h3 hd,rfl,?_⟩ (by grind)
     grind
   ·rw[vN om]at h3 h4⊢
    unfold B9;refine aA.cd (λh=>aA.ok ?_) λh=>aA.ok ?_
    ·rw[if_neg om]
    grind
 obtain⟨r,h,e⟩:=this;rw[e,h]
def NoF(e:eU):Prop:=e.yR=[]/\e.rV=[]/\e.yS=[]
def VC(e:eU):Prop:=GV e.bV/\e.cU.length<=12/\(∀x∈e.cU,x.length<=60)/\e.fName.length<=60/\K.gJ e.ir/\K.gJ e.GC/\K.gJ e.rA/\NoF e
def GS(s:bn):Prop:=VC s.cx/\(∀a∈s.eP,a.fText.length<=60)/\s.eP.length<=2000/\∃u:Nat,s.fused=(u:Int)/\u<=s.eP.length
def stop(s:bn):Bool:=s.fe != 0||s.nN
def RB(k:Nat)(l:J aB):Prop:=l.length<=26*k/\bX l<=5000*k
variable{t:Bs}
theorem RB.one{k:Nat}{c:Int}(hk:1<=k)(h:t.length<=5000*k):RB k [aB.mk t c]:=⟨bp,by simp[bX];omega⟩
theorem RB.nil{k:Nat}:RB k []:=⟨si,by simp[bX]⟩
theorem RB.mono{k j:Nat}{l:J aB}(h:RB k l)(hj:k<=j):RB j l:=⟨by have:=h.1;omega,by have:=h.2;omega⟩
theorem RB.app{k j:Nat}{l m:J aB}(h:RB k l)(h':RB j m):RB (k+j) (l++m):=⟨by have:=h.1;have:=h'.1;grind,by have:=h.2;have:=h'.2;rw[Gc];omega⟩
theorem tZ(F:Nat)(s:bn):iS F s=W0 (stop s):=by unfold iS wx;rw[aH];rfl
theorem uV(F:Nat)(e:Int)(m:Bs)(s:bn):gN F e m s=W0 (cond (stop s) s {s with fe:=e,fZ:=m}):=by
 unfold gN wx;grind[tZ]
variable{s:bn}
theorem aiZ{e:Int}(he:e≠0)(m:Bs):stop (cond (stop s) s {s with fe:=e,fZ:=m})=WF:=by
 cases h:stop s with
 | true=>exact h
 | false=>show(e != 0||_)=WF;simp_all
theorem QE(F:Nat)(p:cg):∃c,dV F p=W0 c:=by unfold dV wx;simp_all[aH]
theorem apR(F:Nat)(p:cg):∃c,lJ F p=W0 c:=by unfold lJ wx;simp_all[aH]
theorem alu(F:Nat)(e:Int):aA (λr=>r.length<=100) (BU F e):=by
 exact aA.cb (λ_=>aA.ok de) λ_=>aA.cb (λ_=>aA.ok de) λ_=>aA.cb (λ_=>aA.ok de) λ_=>aA.cb (λ_=>aA.ok de) λ_=>aA.ok de
theorem alv(F:Nat)(o:Int)(c s:Bool)(v:Bs):∃r,tE F o c s v=W0 r:=by unfold tE wx;simp_all[aH,aD]
theorem amn(F:Nat)(p:TPart):∃b,tX F p=W0 b:=by unfold tX wx;simp_all[aH,aD]
theorem arp(F:Nat)(n:Int)(hF:30<=F)(h:K.gJ n):∃r,r.length<=60/\dP F n=W0 r:=⟨_,K.xZ h,K.Kz F hF h⟩
theorem acg(F:Nat)(l:J aB)(hF:l.length<F)(h1:l.length<=1000000000)(h2:bX l<=1000000000):uz F l=W0 (l.flatMap λr=>r.fText):=by
 have:aA (λr=>r=l.flatMap λr=>r.fText) (uz F l):=by
  have hsz:∀k,((l.take k).flatMap λr=>r.fText).length<=bX l:=λk=>by
   have h:(l.flatMap λr=>r.fText)=((l.take k).flatMap λr=>r.fText)++((l.drop k).flatMap λr=>r.fText):=by rw[<-aeY,KY]
   have h2:bX l=(l.flatMap λr=>r.fText).length:=by unfold bX;rw[List.length_flatMap]
   simp_all
  refine aA.lp (λz=>∃k:Nat,z.2=(k:Int)/\k<=l.length/\z.1=(l.take k).flatMap λr=>r.fText) (λz=>l.length-z.2.toNat) ⟨0,rfl,om,si⟩ (by simp_all) ?_;rintro⟨_,_⟩ ⟨k,rfl,h3,rfl⟩ rc hrc;dsimp only at hrc⊢;refine aA.cd (λh=>?_) λh=>aA.ok (by grind);have hk:k<l.length:=om;have e1:((l.take (k+1)).flatMap λr=>r.fText)=((l.take k).flatMap λr=>r.fText)++l[k].fText:=by rw[II _ _ _ hk]
  have h5:=hsz (k+1);rw[e1,vi]at h5;rw[bZ om om,b9,gd hk,bz om];exact aA.rq (decide_eq_true om) (hrc _ ⟨k+1,rfl,hk,e1.symm⟩ (by grind))
 obtain⟨r,h,e⟩:=this;rw[e,h]
theorem arq(F:Nat)(n:Bs)(hF:n.length<F)(hn:n.length<=1000):∃r,gO F n=W0 r:=by
 by_cases h:n=[]
 ·subst h;exact⟨0,rfl⟩
 have:=Aw.2 h;obtain⟨d,hd⟩:=VK F n hF om;unfold gO wx;rw[mW om]
 simp_all[aD,aH]
variable{e:eU}
theorem anI(F:Nat)(h:VC e)(n:Bs)(hF:1000<F)(hn:n.length<=1000):aA (λr=>r.1.length<=4096) (ko F e n):=by
 obtain⟨hV,hP,hP',hN,h1,h2,h3,-⟩:=h;have hl:=hV.1;unfold ko wx;obtain⟨p,hp⟩:=arq F n om om;rw[hp,aD,zy F e.bV n om om];refine aA.bd (Fh F n om) λb _=>aA.cb (λ_=>?_) λ_=>?_
 ·exact aA.cb (λ_=>aA.ok de) λ_=>aA.ok (PY hV n).2
 rw[aH];refine aA.cb (λhc=>?_) λ_=>?_
 ·rw[cF,cH]at hc
  have c1:=Cm hc.1;have c2:=Cm hc.2;rw[bN om];refine aA.rq (lM om om) (aA.ok ?_);have hk:(p-1).toNat<e.cU.length:=om;rw[gd hk]
  grind
 refine aA.cb (λ_=>aA.ok (by grind)) λ_=>?_
 have dec:∀(m:Int),K.gJ m->aA (λr=>r.1.length<=4096) ((dP F m).bind λx=>W0 (x,WF)):=λm hm=>by
  obtain⟨r,h1,h2⟩:=arp F m om hm
  grind[aA.ok]
 refine aA.cb (λ_=>dec _ ⟨om,om⟩) λ_=>aA.cb (λ_=>dec _ h1) λ_=>aA.cb (λ_=>?_) λ_=>aA.cb (λ_=>dec _ h2) λ_=>?_
 ·grind[aA.bd,amF,aA.ok]
 rw[aH];refine aA.cb (λ_=>dec _ h3) λ_=>aA.cb (λ_=>?_) λ_=>aA.cb (λ_=>?_) λ_=>aA.ok de
 ·grind[aA.bd,ahi,aA.ok]
 grind[aA.bd,ahj,ahi,aA.ok]
theorem anJ(F:Nat)(h:GS s)(n v:Bs)(p:cg)(hv:v.length<=4096)(hF:1000<F):aA (RB 1) (gZ F n v p s):=by
 obtain⟨⟨hV,hP,hP',-⟩,-⟩:=h;unfold gZ wx;simp only[aH];obtain⟨c,hc⟩:=QE F p;rw[hc];refine aA.cb (λ_=>aA.ok (RB.one om om)) λ_=>?_;refine aA.lp (λz=>∃k:Nat,z.2=(k:Int)/\k<=s.cx.cU.length/\z.1.length<=2*k/\bX z.1<=60*k) (λz=>s.cx.cU.length-z.2.toNat) ⟨0,rfl,om,si,by simp[bX]⟩ (by grind) ?_;rintro⟨o,_⟩ ⟨k,rfl,h1,h2,h3⟩ rc hrc;refine aA.cd (λh=>?_) λ_=>aA.ok ⟨om,om⟩;have hk:k<s.cx.cU.length:=om;have hx:=hP' _ (iJ hk);refine aA.bd (P:=λu=>u.length<=2*k+1/\bX u<=60*k) (aA.cd (λ_=>aA.rq (pI (by grind) de) (aA.ok ⟨bp,by rw[Gc];show bX o+0<=_;omega⟩)) λ_=>aA.ok ⟨om,h3⟩) λu hu=>?_;rw[bZ om om,b9,gd hk,bz om];refine aA.rq (pI (by grind) de) (hrc _ ⟨k+1,rfl,hk,?_,?_⟩ (by grind))
 ·grind
 ·show bX (u++[aB.mk s.cx.cU[k] c])<=_;rw[Gc];simp[bX]at hu⊢;omega
theorem apS(F:Nat)(o:Int):DB F o=yP F o:=rfl
theorem ai0(g x:Bs):∀l:J Bs,l≠[]->Lib.join (l++[x]) g=Lib.join l g++(g++x)
 | [],h=>absurd rfl h
 | a::l,_=>by
  rw[vO,Lib.join_cons,Lib.join_cons];unfold Lib.joinTail;simp
theorem Yr(l:J Bs)(g:Bs)(n:Nat)(hg:g.length<=1)(h:∀a∈l,a.length<=n):(Lib.join l g).length<=(n+1)*l.length:=by
 cases l with
 | nil=>simp[Lib.join_nil]
 | cons a r=>
  rw[Lib.join_cons]
  have h2:∀r:J Bs,(∀c∈r,c.length<=n)->(Lib.joinTail g r).length<=(n+1)*r.length:=λr=>by
   unfold Lib.joinTail
   induction r with
   | nil=>intro _;simp
   | cons b r ih=>grind[List.mem_cons_self,List.mem_cons_of_mem,List.flatten_cons,List.length_append,List.length_cons,Nat.mul_succ]
  grind[List.mem_cons_of_mem,List.length_append,List.length_cons,Nat.mul_succ]
theorem ars(F:Nat)(l:J Bs)(g:Bs)(hF:100<F)(h1:l.length<=12)(h2:∀x∈l,x.length<=60)(hg:g.length<=1):zB F l g=W0 (Lib.join l g)/\ug F l g=W0 (Lib.join l g):=by
 have hlen:=Yr l g 60 hg h2;constructor
 ·grind[zB,bZ]
 have:aA (λr=>r=Lib.join l g) (ug F l g):=by
  refine aA.lp (λz=>∃k:Nat,z.2=(k:Int)/\k<=l.length/\z.1=Lib.join (l.take k) g) (λz=>l.length-z.2.toNat) ⟨0,rfl,om,by simp[Lib.join_nil]⟩ (by grind) ?_;rintro⟨o,p⟩ ⟨k,q1,h3,q2⟩ rc hrc;dsimp only at q1 q2 hrc⊢;subst q1 q2
  have hj:(Lib.join (l.take k) g).length<=61*12:=by
   have a:=Yr (l.take k) g 60 hg λx hx=>h2 x (R3 hx)
   grind
  refine aA.cd (λh=>?_) λh=>aA.ok (by grind);have hk:k<l.length:=om;have hx:=h2 _ (iJ hk)
  have e1:Lib.join (l.take (k+1)) g=(if 0<k then Lib.join (l.take k) g++g else Lib.join (l.take k) g)++l[k]:=by
   rw[mh hk];by_cases h0:0<k
   ·rw[if_pos h0,ai0 _ _ _ (λe=>by have:=congrArg List.length e;simp_all),vM]
   ·obtain rfl:k=0:=om
    simp[Lib.join_nil,Lib.join_cons,Lib.joinTail]
  refine aA.bd (P:=λu=>u=if 0<k then Lib.join (l.take k) g++g else Lib.join (l.take k) g) (aA.cd (λh0=>aA.rq (ei om) (aA.ok (by rw[if_pos om]))) λh0=>aA.ok (by rw[if_neg om])) λu hu=>?_;have hul:u.length<=61*12+1:=by grind
  rw[bZ om om,b9,gd hk,bz om];refine aA.rq (decide_eq_true om) (hrc _ ⟨k+1,rfl,hk,by dsimp only;rw[e1,hu]⟩ (by grind))
 obtain⟨r,h,e⟩:=this;rw[e,h]
def spec(n:Bs):Bool:=[[64],[42],[35],[63],[45],[36],[33],[48]].contains n
theorem ai1:∀n:Fin 256,T1 (0<=Lib.indexByte [64,42,35,63,45,36,33,48] (UInt8.ofNat n.val))=spec [UInt8.ofNat n.val]:=by decide +kernel
theorem ach{n:Bs}(h:spec n=WF):n.length=1:=by
 unfold spec at h;simp at h
 grind
theorem art(F:Nat)(n:Bs):zO F n=W0 (spec n):=by
 unfold zO wx;by_cases h:n.length=1
 ·obtain⟨b,rfl⟩:=Y9.1 h
  have hb:=ai1 ⟨b.toNat,b.toNat_lt⟩
  have e:stringslite_Index F [64,42,35,63,45,36,33,48] [b]=W0 (Lib.indexByte [64,42,35,63,45,36,33,48] b):=by
   unfold stringslite_Index stringslite_IndexByte wx
   have e1:(([b]:Bs)==[64,42,35,63,45,36,33,48])=UV:=by
    simp_all
   simp;show((Xo F _ _).bind _)=_
   simp_all[Xo,b9]
  unfold strings_Contains strings_Index wx
  simp_all
 grind[beq_eq_false_iff_ne,ach]
theorem ag1(F:Nat)(hF:30<=F){n:Int}(h:K.gJ n):pO F n=W0 (Lib.itoa n):=by
 unfold pO;rw[bZ h.1 h.2]
theorem asT(F:Nat)(e:eU)(hF:1000<F)(hl:e.bV.length<=128):rM F e=uh F e.bV:=by
 unfold rM nD uh wx;rw[ag0 F _ _ om om,zy F _ _ om om]
 have hb:(j7 e.bV [73,70,83]).2=UV->(j7 e.bV [73,70,83]).1=bO.mk [] [] UV UV UV:=by
  unfold j7;cases e.bV.find? _<;>simp
 grind
theorem asU(F:Nat)(e:eU)(n:Bs)(hF:1000<F)(hl:e.bV.length<=128):nD F e n=W0 (cond (j7 e.bV n).1.cY ((j7 e.bV n).1.bS,WF) ([],UV)):=by
 unfold nD wx;rw[ag0 F _ _ om om]
 have hb:(j7 e.bV n).2=UV->(j7 e.bV n).1=bO.mk [] [] UV UV UV:=by
  unfold j7;cases e.bV.find? _<;>simp
 grind
theorem apT(F:Nat)(h:VC e)(n:Bs)(hF:2000<F)(hn:n.length<=1000):zn F e n=ko F e n:=by
 obtain⟨hV,hP,hP',hN,r1,r2,r3,-⟩:=h;have hl:=hV.1;have hj:=λg hg=>ars F e.cU g om hP hP' hg;have R:K.gJ (e.cU.length:Int):=⟨om,om⟩;have I:=λ{x:Int}(h:K.gJ x)=>ag1 F om h;have D:=λ{x:Int}(h:K.gJ x)=>K.Kz F om h;unfold zn wx;rw[art,aD]
 cases hs:spec n with
 | true=>
  rw[aY,mW (by have:=ach hs;omega)];unfold spec at hs;simp only[Zs,iy,Co,Cp]at hs;have fin:∀x:O (Bs×Bool),(x.bind λx2=>W0 (x2.1,x2.2))=x:=λx=>by cases x<;>rfl
  rw[fin];unfold xw ko gO wx;obtain⟨g,hg,eg⟩:=ahj F hV om;obtain⟨m,rfl⟩:∃m,F=m+100:=⟨F-100,om⟩;rcases hs with rfl|rfl|rfl|rfl|rfl|rfl|rfl|rfl
  ·show((zB (m+100) e.cU [32]).bind _)=((ug (m+100) e.cU [32]).bind _)
   rw[(hj [32] de).1,(hj [32] de).2]
  ·show((rM (m+100) e).bind _)=((uh (m+100) e.bV).bind _)
   grind[asT]
  ·show((pO (m+100) _).bind _)=((dP (m+100) _).bind _)
   rw[I R,D R]
  ·show((pO (m+100) _).bind _)=((dP (m+100) _).bind _)
   rw[I r1,D r1]
  ·show((DB (m+100) _).bind _)=((yP (m+100) _).bind _)
   rw[apS]
  ·show((pO (m+100) _).bind _)=((dP (m+100) _).bind _)
   rw[I r2,D r2]
  ·show cond (e.rA==0) (W0 ([],UV)) ((pO (m+100) e.rA).bind _)=(Option.bind (W0 (e.rA != 0)) λx9=>cond x9 ((dP (m+100) e.rA).bind λcm=>W0 (cm,WF)) (W0 ([],UV)))
   grind
  ·rfl
 | false=>
  rw[aM]
  have ne:∀x,x∈([[64],[42],[35],[63],[45],[36],[33],[48]]:J Bs)->(n==x)=UV:=λx hx=>by
   rw[gH];intro h;subst h;have:spec n=WF:=by unfold spec;exact Zs.2 hx
   rw[this]at hs;cases hs
  have ends:∀(p:Int),¬ (0<p/\p<=e.cU.length)->gO F n=W0 p->fy F n=W0 UV->ko F e n=W0 ([],UV):=by
   intro p hp h1 h2;unfold ko wx;rw[h1,aD,h2,aD,aM,aH,aD]
   rw[show(cond (T1 (0<p)) (T1 (p<=(e.cU.length:Int))) UV)=UV from by
    simp_all]
   rw[ne [48] de,ne [35] de,ne [63] de,ne [45] de,ne [36] de,ne [33] de,ne [64] de,ne [42] de];rfl
  have amo:∀b,fy F n=W0 b->gO F n=W0 0->((lB F n).bind λx5=>cond (!x5) (W0 ([],UV)) ((nD F e n).bind λx6=>W0 (x6.1,x6.2)))=ko F e n:=by
   intro b hb hp;rw[K.Hf F n om,hb,aD]
   cases b with
   | false=>rw[ends 0 om hp hb];rfl
   | true=>
    unfold ko wx;rw[hp,aD,hb,aD,aY,asU F e n om hl,zy F _ _ om om,aD,aD];cases (j7 e.bV n).1.cY<;>rfl
  obtain⟨b,-,hb⟩:=Fh F n om;by_cases h0:n=[]
  ·subst h0
   exact amo b hb rfl
  by_cases h1:n.getD 0 0=48
  ·have hp:=Aw.2 h0
   have hc:(((n.getD 0 0).toNat:Int)==48)=WF:=by rw[h1];rfl
   have e1:qz F n=W0 (0,UV):=by
    unfold qz wx;rw[ne [48] de,aM,show(n==[])=UV from by simpa using h0,aM,mW om,hc,aD];rfl
   obtain⟨d,hd⟩:=VK F n om om
   have e2:gO F n=W0 0:=by
    unfold gO wx;rw[hd,mW om,hc]
    grind
   rw[e1,aD];exact amo b hb e2
  ·have hp:=Aw.2 h0
   have hc:(((n.getD 0 0).toNat:Int)==48)=UV:=by
    rw[beq_eq_false_iff_ne];intro h;exact h1 (by apply UInt8.toNat_inj.1;grind)
   rw[asR F n om hn h0 h1,aD]
   have e2:gO F n=W0 (cond (B9 n).2 (B9 n).1 0):=by
    unfold gO wx;rw[asS F n om hn h0 h1,mW om,hc,aD];simp only[aH,aD];unfold B9
    grind
   cases hd:(B9 n).2 with
   | false=>
    simp_all
   | true=>
    rw[hd,aY]at e2;rw[aY]
    have hnm:fy F n=W0 UV:=by
     unfold B9 at hd;split at hd
     ·rename_i hh
      have h8:=pE.1 hh.1 _ (iJ (n:=0) hp);unfold Cl at h8;rw[cH,eT,eT]at h8;unfold fy wx;rw[show(n==[])=UV from by simpa using h0,aM,aD,mW om,K.U2]
      have:K.fV ((n.getD 0 0).toNat:Int)=WF:=by
       unfold K.fV;grind
      simp_all
     ·cases hd
    have RC:0<=(B9 n).1/\(B9 n).1<=2147483647:=by
     unfold B9;grind
    generalize(B9 n).1=d at e2 RC⊢;rw[aH,aD];by_cases vW:0<d/\d<=e.cU.length
    ·rw[show(cond (T1 (d<1)) WF (T1 ((e.cU.length:Int)<d)))=UV from by grind,cond_false]
     unfold ko wx
     simp_all
    grind
def T2{A B:Type}(Q:A->B->Prop)(x:O A)(y:O B):Prop:=∃a b,Q a b/\x=W0 a/\y=W0 b
variable{A B C D σ τ:Type}{P:C->D->Prop}{x:O A}{y:O B}{f:C->O A}{g:D->O B}{x':O A}{y':O B}{b1:(σ->O A)->σ->O A}{b2:(τ->O B)->τ->O B}
section
variable {Q : A -> B -> Prop}
theorem T2.ok{a:A}{b:B}(h:Q a b):T2 Q (W0 a) (W0 b):=⟨a,b,h,rfl,rfl⟩
theorem T2.mono{P:A->B->Prop}(h:T2 P x y)(f:∀a b,P a b->Q a b):T2 Q x y:=by
 obtain⟨a,b,h,e⟩:=h;exact⟨a,b,f a b h,e⟩
theorem T2.bd{x:O C}{y:O D}(h:T2 P x y)(k:∀a b,P a b->T2 Q (f a) (g b)):T2 Q (x.bind f) (y.bind g):=by
 obtain⟨a,b,h,rfl,rfl⟩:=h;exact k a b h
theorem T2.l{P:C->Prop}{x:O C}(h:aA P x)(k:∀a,P a->T2 Q (f a) y):T2 Q (x.bind f) y:=by
 obtain⟨a,h,rfl⟩:=h;exact k a h
theorem T2.r{P:D->Prop}{y:O D}(h:aA P y)(k:∀b,P b->T2 Q x (g b)):T2 Q x (y.bind g):=by
 obtain⟨a,h,rfl⟩:=h;exact k a h
theorem T2.ql{c:Bool}(h:c=WF)(k:T2 Q x y):T2 Q (rq c x) y:=by subst h;exact k
theorem T2.qr{c:Bool}(h:c=WF)(k:T2 Q x y):T2 Q x (rq c y):=by subst h;exact k
theorem T2.cb{c:Bool}(a:c=WF->T2 Q x y)(b:c=UV->T2 Q x' y'):T2 Q (cond c x x') (cond c y y'):=by
 grind
theorem T2.cl{c:Bool}(a:c=WF->T2 Q x y)(b:c=UV->T2 Q x' y):T2 Q (cond c x x') y:=by
 grind
theorem T2.cr{c:Bool}(a:c=WF->T2 Q x y)(b:c=UV->T2 Q x y'):T2 Q x (cond c y y'):=by
 grind
theorem T2.lp(P:σ->τ->Prop)(m:σ->Nat){s:σ}{t:τ}(h0:P s t)(hF:m s<F)
  (hs:∀s t,P s t->∀r1 r2,(∀s' t',P s' t'->m s'<m s->T2 Q (r1 s') (r2 t'))->T2 Q (b1 r1 s) (b2 r2 t)):T2 Q (bW b1 F s) (bW b2 F t):=by
 induction F generalizing s t with
 | zero=>omega
 | succ F ih=>grind[bW]
end
def og(s:bn):Prop:=GS s/\yJ s.cx.bV/\(s.nN=UV->s.zM=[])
def gi(fl:J bF)(s:bn):aO:=aO.mk s.cx fl (s.eP.drop s.fused.toNat) s.lV UV [] [] 0
def Fin(x:aO)(s:bn):Prop:=(s.fe≠0/\x.nN=UV/\x.w8=s.fe/\x.fZ=s.fZ)\/(s.fe=0/\x.nN=WF/\x.zM=s.zM/\x.cx=s.cx/\x.lV=s.lV)
def RR{A:Type}(fl:J bF)(I:J A->Prop)(a:J A×Bool×aO)(b:J A×bn):Prop:=og b.2/\I b.1/\((stop b.2=UV/\a=(b.1,WF,gi fl b.2))\/(stop b.2=WF/\a.2.1=UV/\Fin a.2.2 b.2/\a.1=[]))
def RA(fl:J bF)(a:Bool×aO)(b:bn):Prop:=og b/\((stop b=UV/\a=(WF,gi fl b))\/(stop b=WF/\a.1=UV/\Fin a.2 b))
theorem RR.go{A:Type}{fl:J bF}{I:J A->Prop}{r:J A}{s:bn}(h:og s)(hi:I r)(hs:stop s=UV):RR fl I (r,WF,gi fl s) (r,s):=⟨h,hi,.inl ⟨hs,rfl⟩⟩
theorem aeo(h:stop s=UV):s.fe=0/\s.nN=UV:=by
 unfold stop at h;simp_all
theorem apU{e:Int}{m:Bs}(he:e≠0):stop {s with fe:=e,fZ:=m} = WF:=by
 show(e != 0||s.nN)=WF
 simp_all
variable{fl:J bF}
theorem failed{e:Int}{m:Bs}(hs:stop s=UV)(he:e≠0):stop (cond (stop s) s {s with fe:=e,fZ:=m})=WF/\Fin {gi fl s with w8:=e,fZ:=m} (cond (stop s) s {s with fe:=e,fZ:=m}):=by
 rw[hs];exact⟨apU he,.inl ⟨he,rfl,rfl,rfl⟩⟩
theorem Mg(h:og s)(e:Int)(m:Bs):og (cond (stop s) s {s with fe:=e,fZ:=m}):=by cases stop s<;>exact h
theorem RR.err{I:J A->Prop}{r:J A}{e:Int}{m:Bs}{x:aO}(h:og s)(hi:I r)(hs:stop s=UV)(he:e≠0)(hx:x={gi fl s with w8:=e,fZ:=m}):RR fl I ([],UV,x) (r,cond (stop s) s {s with fe:=e,fZ:=m}):=by
 subst hx;have:=failed (fl:=fl) (m:=m) hs he;exact⟨Mg h _ _,hi,.inr ⟨this.1,rfl,this.2,rfl⟩⟩
theorem KV(F:Nat)(m:Bs)(x:aO):gX F m x=W0 (UV,{x with fZ:=m,w8:=32}):=rfl
theorem ai2(v:bO){l:J bO}(h:yJ l):v∈nk v l UV:=by rw[Gl v h];simp
theorem get_mem{l:J bO}{n:Bs}{v:bO}(h:v∈l)(hn:v.fName=n):(j7 l n).2=WF:=by
 unfold j7
 cases e:l.find? λv=>v.fName==n with
 | none=>simp_all
 | some x=>rfl
theorem alw(F:Nat){l:J bO}(h:GA l)(n v:Bs)(hF:1000<F){r:J bO×Int}(e:tM F l n v=W0 r)(h0:r.2=0):fy F n=W0 WF/\(j7 r.1 n).2=WF:=by
 have hl:=h.len;obtain⟨b,hb,eb⟩:=Fh F n om;unfold tM wx at e;rw[zy F l n om om,aD,eb,aD]at e
 cases b with
 | false=>grind
 | true=>
  refine⟨eb,?_⟩
  cases hr:(j7 l n).1.rL with
  | true=>grind
  | false=>
   rw[hr]at e;by_cases h4:4096<v.length
   ·grind
   rw[cf om,aH,aD]at e
   cases h5:(cond (!(j7 l n).2) (T1 (128<=(l.length:Int))) UV)with
   | true=>grind
   | false=>
    rw[h5,PZ F l _ om om]at e;cases e;exact get_mem (ai2 _ h.2) rfl
theorem anK(F:Nat){l:J bO}(h:GA l)(n:Bs)(hF:1000<F)(h1:fy F n=W0 WF)(h2:(j7 l n).2=WF){r:J bO×Int}(e:rz F l n WF UV=W0 r):r.2=0:=by
 have hl:=h.len;unfold rz wx at e;rw[h1,aD,jd,aM,zy F l n om om,aD,h2,jd,aM,aD,aH,aD,aH,aD,PZ F l _ om om]at e;cases e;rfl
theorem aep(F:Nat)(fl:J bF)(h:og s)(hs:stop s=UV)(n v:Bs)(hF:1000<F):T2 (RA fl) (jI F n v (gi fl s)) (iG F n v s):=by
 have hA:GA s.cx.bV:=⟨h.1.1.1,h.2.1⟩;obtain⟨r,hr,e1,e2⟩:=asQ F hA n v hF;unfold jI iG wx;rw[tZ,aD,hs,e1,show HC F (gi fl s).cx.bV n v=W0 r from e2,aD,aD];have go:∀l:J bO,GA l->T2 (RA fl) (cond ((0:Int) != 0) ((gz F 0 (gi fl s)).bind λx5=>W0 (x5.1,x5.2)) (W0 (WF,{gi fl s with cx:={(gi fl s).cx with bV:=l}}))) (W0 {s with cx:={s.cx with bV:=l}}):=λl hl=>T2.ok ⟨⟨⟨⟨hl.1,h.1.1.2⟩,h.1.2⟩,hl.2,h.2.2⟩,.inl ⟨hs,rfl⟩⟩;by_cases h0:r.2=0
 ·rw[h0]
  show T2 _ (((cond ((nT .i64 s.cx.jM 32) != 0) ((Ea F r.1 n WF UV).bind λx4=>W0 (x4.1,x4.2)) (W0 (r.1,0)):O (J bO×Int)).bind _)) ((cond ((nT .i64 s.cx.jM 32) != 0) ((rz F r.1 n WF UV).bind λx5=>W0 x5.1) (W0 r.1):O (J bO)).bind _)
  cases hb:((nT .i64 s.cx.jM 32) != 0)with
  | false=>exact go r.1 hr
  | true=>
   obtain⟨q,hq,e3,e4⟩:=aro F hr n WF UV hF;obtain⟨k1,k2⟩:=alw F hA n v hF e1 h0;have hq0:=anK F hr n hF k1 k2 e3
   simp_all
 ·have hne:(r.2 != 0)=WF:=by simpa using h0
  have aj7:(r.2==0)=UV:=by simpa using h0
  rw[aj7,aM,aD,aM,aD];rw[hne,uV];have:=failed (fl:=fl) (m:=[]) hs h0;exact T2.ok ⟨Mg h _ _,.inr ⟨this.1,rfl,this.2⟩⟩
theorem asV(F:Nat)(fl:J bF)(h:og s)(hs:stop s=UV)(x:TPart)(m:dm)(p:cg)(hm:m.fD=p.fD)(hF:1000<F):T2 (RR fl (RB 1)) (mU F x m (gi fl s)) ((qG F x.fText s).bind λx7=>(dV F p).bind λx8=>W0 ([aB.mk x7.1 x8],x7.2)):=by
 obtain⟨⟨hE,hA,hL,u,hu,hul⟩,yK⟩:=h;have hv:ey F m=dV F p:=by unfold ey dV wx;rw[hm]
 obtain⟨c,hc⟩:=QE F p;unfold mU qG wx;rw[hv,hc,hu];have hx:(gi fl s).eP=s.eP.drop u:=by unfold gi;simp_all
 rw[hx];by_cases hk:u<s.eP.length
 ·have hd:s.eP.drop u=s.eP[u]::s.eP.drop (u+1):=ua hk
  have e0:(((s.eP.drop u).length:Int)==0)=UV:=by grind
  have e1:sl (s.eP.drop u) 1 ((s.eP.drop u).length:Int)=s.eP.drop (u+1):=by
   grind[sl,Int.toNat_natCast,List.take_length,List.drop_drop]
  have e2:(s.eP.drop u).getD 0 Cy=s.eP[u]:=by rw[hd];rfl
  have hln:0<(s.eP.drop u).length:=by grind
  rw[e0,aM,mW om,bZ om om,e1,e2,cf om,bZ om om,b9,gd hk];have ha:=hA _ (iJ hk);generalize s.eP[u]=a at ha⊢
  have key:T2 (λ(t:Bs)(y:Bs×bn)=>t.length<=60/\y=(t,{s with fused:=(((u+1:Nat)):Int),lV:=a.ir})) (sJ F a.fText [10]) (bW (σ:=Int) (R:=Bs×bn) (λbA x1=>
    (cond (T1 (0<x1))
    (rq ((T1 (0<=aC (x1-1)))&&(T1 (aC (x1-1)<((a.fText).length:Int)))) (W0 (((a.fText.getD (Ts (aC (x1-1))) 0).toNat:Int)==10)))
    (W0 UV):Option Bool).bind λx3=>
    cond x3
    (bA (aC (x1-1)))
    (rq ((T1 (0<=x1))&&(T1 (x1<=(a.fText.length:Int)))) (W0 (sl a.fText 0 x1,{s with fused:=aC ((u:Int)+1),lV:=a.ir})))) F (a.fText.length:Int)):=by
   have fin:∀k:Nat,k<=a.fText.length->T2 (λ(t:Bs)(y:Bs×bn)=>t.length<=60/\y=(t,{s with fused:=(((u+1:Nat)):Int),lV:=a.ir})) (W0 (a.fText.take k)) (rq ((T1 (0<=(k:Int)))&&(T1 ((k:Int)<=(a.fText.length:Int)))) (W0 (sl a.fText 0 (k:Int),{s with fused:=aC ((u:Int)+1),lV:=a.ir}))):=λk hk=>by
    grind[T2.qr,lM,T2.ok,List.length_take,bz,sl,Int.toNat_natCast]
   unfold sJ wx;by_cases hz:a.fText=[]
   ·rw[hz]at fin⊢
    obtain⟨f,rfl⟩:∃f,F=f+1:=⟨F-1,om⟩;exact fin 0 (eu _)
   rw[show(a.fText==[])=UV from by simpa using hz];show T2 _ ((oG F a.fText 10).bind λx3=>W0 x3) _;have ret:∀x:Option Bs,(x.bind λx3=>W0 x3)=x:=λx=>by cases x<;>rfl
   rw[ret];unfold oG wx;refine T2.lp (λ(t:Bs)(i:Int)=>∃k:Nat,i=(k:Int)/\k<=a.fText.length/\t=a.fText.take k) (λt=>t.length) ⟨_,rfl,eu _,by rw[vQ]⟩ om ?_;rintro t i ⟨k,rfl,h1,rfl⟩ r1 r2 hrc;have hlk:(a.fText.take k).length=k:=List.length_take_of_le h1;rw[hlk];by_cases h0:0<k
   ·rw[vm om om,cC om,bZ om om,cC om,bZ om om,aD,bZ om om,aD,b9]
    have eg:(a.fText.take k).getD (k-1) 0=a.fText.getD (k-1) 0:=by grind
    rw[eg];refine T2.cb (λ_=>?_) λ_=>fin k h1
    grind[sl,Int.toNat_natCast,Nat.min_eq_left,List.length_take]
   grind
  refine T2.bd key λt y ⟨ht,hy⟩=>?_;subst hy;rw[aD,aD];refine T2.ok ⟨⟨⟨hE,hA,hL,u+1,rfl,hk⟩,yK⟩,RB.one om (by grind),.inl ⟨hs,?_⟩⟩;unfold gi
  grind
 ·have e0:(((s.eP.drop u).length:Int)==0)=WF:=by simp_all
  rw[e0,aY,cC om,aD,aD];obtain⟨s1,s2⟩:=aeo hs;refine T2.ok ⟨⟨⟨hE,hA,hL,u,rfl,hul⟩,yK.1,λh=>nomatch h⟩,RB.one om (gj _),.inr ⟨?_,rfl,.inr ⟨s1,rfl,rfl,rfl,rfl⟩,rfl⟩⟩;show(s.fe != 0||true)=WF;rw[Bool.or_true]
theorem wS(k v q z:Bs)(m:J (Bs×Bs)):fY cW (jN cW m k v) q z=if k=q then v else fY cW m q z:=by
 unfold jN fY cW
 cases ha:m.any λp=>p.1==k with
 | false=>
  grind
 | true=>
  rw[aY]
  have hf:((λp=>p.1==q) ∘ λp=>bif p.1==k then(k,v)else p)=λp=>p.1==q:=by
   grind
  cases e:m.find? λp=>p.1==q with
  | none=>
   grind
  | some p=>
   grind
def tL(l:J bO):J cw:=l.flatMap λv=>cond v.cY [cw.mk v.fName v.bS] []
def EM(b:J cw):J (Bs×Bs):=b.foldl (λm x=>jN cW m x.fName x.bS) []
theorem alx(l:J bO){k:Nat}(h:k<l.length):tL (l.take (k+1))=tL (l.take k)++cond l[k].cY [cw.mk l[k].fName l[k].bS] []:=by
 unfold tL;grind[List.take_succ_eq_append_getElem]
theorem anL{l:J bO}{b:cw}(h:b∈tL l):∃v∈l,b=cw.mk v.fName v.bS:=by
 unfold tL at h
 grind
theorem Xh:∀l:J bO,(tL l).length<=l.length
 | []=>eu _
 | v::l=>by
  have:=Xh l;unfold tL at this⊢
  grind
theorem anM{l:J bO}(h:yJ l):(tL l).Pairwise λa b=>a.fName<b.fName:=by
 induction l with
 | nil=>exact .nil
 | cons v l ih=>
  obtain⟨h1,h2⟩:=yE.1 h;unfold tL
  grind
theorem anN{l:J bO}(h:GV l):DN (tL l):=λb hb=>by
 obtain⟨v,hv,rfl⟩:=anL hb;exact h.2 v hv
theorem anO{b:J cw}(h:b.Pairwise λx y=>x.fName<y.fName)(hb:DN b):K.tU (EM b)=b:=by
 have hE:=K.Hj hb;refine Wv (f:=λx:cw=>x.fName) (K.Wz hE.nd) h λx=>?_
 have key:∀(k:J cw)(m:J (Bs×Bs)),(k.Pairwise λx y=>x.fName<y.fName)->∀q:Bs,fY cW (k.foldl (λm x=>jN cW m x.fName x.bS) m) q []=(match k.find? λx=>x.fName==q with|some x=>x.bS|none=>fY cW m q []):=by
  intro k
  induction k with
  | nil=>intro m _ q;rfl
  | cons a k ih=>
   intro m hk q;obtain⟨h1,h2⟩:=yE.1 hk;rw[vS,ih _ h2 q,ND]
   cases e:k.find? λx=>x.fName==q with
   | some y=>
    grind
   | none=>
    cases hq:(a.fName==q)with
    | true=>simp_all[p7,wS,if_pos]
    | false=>simp_all[wS,if_neg]
 have kk:∀(k:J cw)(m:J (Bs×Bs))(q:Bs),q∈(k.foldl (λm x=>jN cW m x.fName x.bS) m).map (·.1)↔q∈m.map (·.1)\/∃x∈k,x.fName=q:=by
  intro k
  induction k with
  | nil=>intro m q;simp
  | cons a k ih=>
   grind[zG,List.mem_cons_self,List.mem_cons_of_mem]
 have fnd:∀y∈b,b.find? (λx=>x.fName==y.fName)=W0 y:=λy hy=>by
  cases e:b.find? λx=>x.fName==y.fName with
  | none=>grind
  | some z=>
   have hq:(z.fName==y.fName)=WF:=aeT (p:=λx:cw=>x.fName==y.fName) e
   grind[List.pairwise_iff_getElem,List.getElem_of_mem,Nat.lt_trichotomy,mw]
 rw[K.CZ];constructor
 ·rintro⟨k,hk,rfl⟩
  rcases(kk b [] k).1 hk with h|⟨y,hy,rfl⟩
  ·cases h
  ·have:=key b [] h y.fName
   rw[fnd y hy]at this;unfold K.Bk;rw[show fY cW (EM b) y.fName []=y.bS from this];exact hy
 ·intro hx
  refine⟨x.fName,(kk b [] _).2 (.inr ⟨x,hx,rfl⟩),?_⟩;have:=key b [] h x.fName;rw[fnd x hx]at this;unfold K.Bk;rw[show fY cW (EM b) x.fName []=x.bS from this]
theorem aci(m:J (Bs×Bs))(k:Bs):Et cW m k=WF↔k∈m.map (·.1):=by
 simp_all[Et,cW,R7,oK]
theorem T2.lpe{ι:Type}{Q:A->B->Prop}(P:σ->τ->Prop)(m:σ->Nat)(E:ι->τ->Prop)(m2:τ->Nat)(R:ι->B->Prop){s:σ}{t:τ}(h0:P s t)(hF:m s<F)
  (hs:∀s t,P s t->∀r1 r2,(∀s' t',P s' t'->m s'<m s->T2 Q (r1 s') (r2 t'))->(∀i t',E i t'->m2 t'<m s->aA (R i) (r2 t'))->T2 Q (b1 r1 s) (b2 r2 t))
  (he:∀i t,E i t->∀r2,(∀t',E i t'->m2 t'<m2 t->aA (R i) (r2 t'))->aA (R i) (b2 r2 t)):T2 Q (bW b1 F s) (bW b2 F t):=by
 induction F generalizing s t with
 | zero=>omega
 | succ F ih=>exact hs s t h0 (bW b1 F) (bW b2 F) (λs' t' h1 h2=>ih h1 om) λi t' h1 h2=>aA.lp (E i) m2 h1 om (he i)
theorem T2.map{Q:A->B->Prop}{y:O D}(f:D->B)(h:T2 (λa d=>Q a (f d)) x y):T2 Q x (y.bind λd=>W0 (f d)):=by
 obtain⟨a,d,h,e1,rfl⟩:=h;exact⟨a,f d,h,e1,rfl⟩
theorem anP(F:Nat)(e:Int):EI F e=BU F e:=rfl
def RV(fl:J bF)(a:Bs×Bool×aO)(b:Bs×bn):Prop:=RR fl (λt=>t.length<=10000000) a b/\(stop b.2=UV->b.1.length<=4096)
theorem amq(F:Nat)(h:stop s=WF)(n v:Bs):iG F n v s=W0 s:=by
 unfold iG wx;simp_all[tZ,aD]
theorem apV(hN:NC<=F)(hF:100000000<=F)(fl:J bF)(g1:ep)(g2:iT)(x:TPart)(m:dm)(p:cg)(hm:m.fD=p.fD)(s:bn)
  (hv:T2 (RV fl) (g1.2.2.2.2.1 x.fParts (dm.mk WF UV 0) (gi fl s)) (g2.2.2.2.1 x.fParts WF s)) :
  T2 (RR fl (RB 1)) (nE F g1 x m (gi fl s)) ((nh F g2 x.fParts s).bind λx9=>(dV F p).bind λcm=>W0 ([aB.mk x9.1 cm],x9.2)):=by
 obtain⟨c,hc⟩:=QE F p;have jz:ey F m=W0 c:=by rw[<-hc];unfold ey dV wx;rw[hm]
 unfold nE nh wx;rw[hc];obtain⟨⟨t0,ok,x'⟩,⟨t,s'⟩,⟨⟨hg,hi,hh⟩,hlen⟩,e1,e2⟩:=hv;rw[e1,e2];dsimp only at hg hi hh hlen;refine T2.map (λx9:Bs×bn=>([aB.mk x9.1 c],x9.2)) ?_;rw[aD,aD];dsimp only;rw[tZ,aD];rcases hh with⟨hs,hh⟩|⟨hs,hok,Lc,-⟩
 ·cases hh
  have ht:=hlen hs;have hV:=hg.1.1.1;have hvl:=hV.1;rw[hs,jd,aM,aM,show(gi fl s').cx=s'.cx from rfl];have hb:=anN hV;have GJ:=Xh s'.cx.bV;have hba:=anM hg.2.1;refine T2.lp (λ(z:J cw×Int×J (Bs×Bs))(y:J cw×Int)=>∃k:Nat,k<=s'.cx.bV.length/\z=(tL (s'.cx.bV.take k),(k:Int),EM (tL (s'.cx.bV.take k)))/\y=(tL (s'.cx.bV.take k),(k:Int))) (λz=>s'.cx.bV.length-z.2.1.toNat) ⟨0,gj _,rfl,rfl⟩ (by show s'.cx.bV.length-0<F;omega) ?_;rintro _ _ ⟨k,hk,rfl,rfl⟩ q1 q2 hrc;dsimp only at hrc⊢;have hkl:(tL (s'.cx.bV.take k)).length<=k:=by have:=Xh (s'.cx.bV.take k);rw[As]at this;omega
  by_cases hk1:k<s'.cx.bV.length
  ·have nx:=hrc _ _ ⟨k+1,hk1,rfl,rfl⟩ (by grind)
   have es:=alx s'.cx.bV hk1;rw[cC om,cC om];refine T2.ql (lM om om) (T2.qr (lM om om) ?_);rw[bz om,b9,gd hk1];have cp:∀(v:cw),((T1 ((tL (s'.cx.bV.take k)).length+([v]:J cw).length<=9223372036854775807))&&(T1 (((tL (s'.cx.bV.take k)).length+([v]:J cw).length)*32<=140737488355328)))=WF:=λv=>pI (by grind) de;refine T2.cb (λmN=>?_) λmN=>?_
   ·rw[mN,aY]at es
    rw[es]at nx;refine T2.ql (cp _) (T2.qr (cp _) ?_);unfold EM at nx;rw[Jr]at nx;exact nx
   simp_all
  ·rw[cf om,cf om,vN om]
   have hE:=anO hba hb
   have hkeys:∀n:Bs,Et cW (EM (tL s'.cx.bV)) n=WF↔∃a∈tL s'.cx.bV,a.fName=n:=λn=>by
    rw[aci];have:∀x,x∈tL s'.cx.bV↔∃k,k∈(EM (tL s'.cx.bV)).map (·.1)/\x=K.Bk (EM (tL s'.cx.bV)) k:=λx=>by rw[<-K.CZ,hE]
    constructor
    ·intro h;exact⟨_,(this _).2 ⟨n,h,rfl⟩,rfl⟩
    ·rintro⟨a,ha,rfl⟩
     obtain⟨k,h1,h2⟩:=(this a).1 ha;rw[h2];exact h1
   have ZT:∀n,qu F (tL s'.cx.bV) n=W0 (fY cW (EM (tL s'.cx.bV)) n []):=λn=>by
    rw[K.OX F _ n om om,<-K.OY,hE]
   have amr:∀n,Et cW (EM (tL s'.cx.bV)) n=UV->fY cW (EM (tL s'.cx.bV)) n []=[]:=λn h=>by
    grind[LO,aci]
   generalize EM (tL s'.cx.bV)=mp at hkeys ZT amr⊢;generalize tL s'.cx.bV=b at hb GJ hkeys ZT⊢;obtain⟨r,⟨hR,hL,hne⟩,hr⟩:=Xe t0 b ht om hb;rw[(hr F hN).1,(hr F hN).2,aD,aD];refine T2.cb (λhe=>?_) λhe=>?_
   ·have he0:r.2.2≠0:=by simpa using he
    obtain⟨w,hw,ew⟩:=alu F r.2.2;rw[anP,ew,aD,aD];have l1:T1 (t0.length+([58,32]:Bs).length<=9223372036854775807)=WF:=ei (by show t0.length+2<=_;omega);have l2:T1 ((t0++([58,32]:Bs)).length+w.length<=9223372036854775807)=WF:=decide_eq_true (by grind);refine T2.ql l1 (T2.qr l1 (T2.ql l2 (T2.qr l2 ?_)));rw[KV,uV];exact T2.ok (RR.err hg (RB.one om (gj _)) hs de rfl)
   ·refine T2.lpe (λ(z:Int×aO)(y:Int×bn)=>∃(k:Nat)(u:bn),k<=r.2.1.length/\og u/\stop u=UV/\z=((k:Int),gi fl u)/\y=((k:Int),u)) (λz=>r.2.1.length-z.1.toNat) (λ(u:bn)(y:Int×bn)=>stop u=WF/\y.2=u/\∃k:Nat,y.1=(k:Int)/\k<=r.2.1.length) (λy=>r.2.1.length-y.1.toNat) (λu (y:Bs×bn)=>y.2=u/\y.1.length<=60) ⟨0,s',gj _,hg,hs,rfl,rfl⟩ (by show r.2.1.length-0<F;omega) ?_ ?_
    ·rintro _ _ ⟨k,u,hk,hu,hsu,rfl,rfl⟩ q1 q2 hrc hex
     dsimp only at hrc hex⊢;by_cases hk1:k<r.2.1.length
     ·have hm:r.2.1.length-Int.toNat ((k+1:Nat):Int)<r.2.1.length-Int.toNat (k:Int):=om
      rw[cC om,cC om,bZ om om,bZ om om,bZ om om,bz om,b9,gd hk1,ZT,aD];have hc1:=hne _ (iJ hk1);generalize r.2.1[k]=a at hc1⊢
      have go:T2 (λa d=>RR fl (RB 1) a ([aB.mk d.1 c],d.2)) ((jI F a.fName a.bS (gi fl u)).bind λcm=>cond (!cm.1) (W0 ([],UV,cm.2)) (q1 (((k+1:Nat):Int),cm.2)))
        ((iG F a.fName a.bS u).bind λfQ=>q2 (((k+1:Nat):Int),fQ)):=by
       refine T2.bd (aep F fl hu hsu a.fName a.bS om) ?_;rintro⟨ok,x2⟩ u2 ⟨hu2,⟨h1,h2⟩|⟨h1,h2,h3⟩⟩
       ·grind
       ·dsimp only at h2 h3
        subst h2;rw[qM,aY];obtain⟨y,⟨hy1,hy2⟩,hy⟩:=hex u2 (((k+1:Nat):Int),u2) ⟨h1,rfl,k+1,rfl,hk1⟩ hm;rw[hy];refine T2.ok ⟨?_,RB.one om om,.inr ⟨?_,rfl,?_,rfl⟩⟩
        ·show og y.2;rw[hy1];exact hu2
        ·show stop y.2=WF;rw[hy1];exact h1
        ·show Fin x2 y.2;rw[hy1];exact h3
      cases asW:Et cW mp a.fName with
      | true=>
       rw[aY,aD]
       cases ri:(fY cW mp a.fName []==a.bS)with
       | true=>grind
       | false=>
        rw[aM,qM,aY,bZ om om,bZ om om]
        exact go
      | false=>
       rw[aM,aD,aM,amr _ asW]
       have hnil:a.bS≠[]:=hc1.resolve_right λh=>by
        grind
       have:(([]:Bs)==a.bS)=UV:=by grind
       rw[this,qM,aY,bZ om om,bZ om om];exact go
     ·rw[cf om,cf om,ag1 F om hR,K.Kz F om hR,aD,aD,jz]
      have:=K.xZ hR;exact T2.ok ⟨hu,RB.one om (by show(Lib.itoa r.1).length<=_;omega),.inl ⟨hsu,rfl⟩⟩
    ·rintro u ⟨_,_⟩ ⟨h1,rfl,k,rfl,hk⟩ q2 hrc
     dsimp only at h1 hrc⊢;refine aA.cd (λh=>?_) λ_=>?_
     ·have hm:r.2.1.length-Int.toNat ((k+1:Nat):Int)<r.2.1.length-Int.toNat (k:Int):=om
      rw[bZ om om,bZ om om,bz om,b9,ZT,aD];refine aA.cb (λ_=>?_) λ_=>hrc _ ⟨h1,rfl,k+1,rfl,om⟩ hm
      grind[bZ,amq]
     ·rw[K.Kz F om hR]
      exact aA.ok ⟨rfl,K.xZ hR⟩
 ·have hok:ok=UV:=hok
  subst hok;rw[hs,aY,qM,aY];exact T2.ok ⟨hg,RB.one om (gj _),.inr ⟨hs,rfl,Lc,rfl⟩⟩
def COk(m:dm)(p:cg):Prop:=m.fD=UV->m.dD=cond p.C3 2 0
def Mo(m:dm)(p:cg):Prop:=m.fD=p.fD/\m.kE=p.kE
def JR(m:dm)(p:cg)(a b:J aB):Prop:=a.map (·.fText)=b.map (·.fText)/\(COk m p->a=b)
def RJ(fl:J bF)(k:Nat)(m:dm)(p:cg)(a:J aB×Bool×aO)(b:J aB×bn):Prop:=og b.2/\RB k b.1/\((stop b.2=UV/\a.2=(WF,gi fl b.2)/\JR m p a.1 b.1)\/(stop b.2=WF/\a.2.1=UV/\Fin a.2.2 b.2/\a.1=[]))
variable{m:dm}
theorem JR.eq{p:cg}(a:J aB):JR m p a a:=⟨rfl,λ_=>rfl⟩
theorem RR.j{k j:Nat}{p:cg}{a:J aB×Bool×aO}{b:J aB×bn}(h:RR fl (RB k) a b)(hk:k<=j):RJ fl j m p a b:=by
 obtain⟨h1,h2,⟨h3,h4⟩|h3⟩:=h
 ·exact⟨h1,h2.mono hk,.inl ⟨h3,by rw[h4],by rw[h4];exact JR.eq _⟩⟩
 ·exact⟨h1,h2.mono hk,.inr h3⟩
theorem RJ.rr{k:Nat}{p:cg}{a:J aB×Bool×aO}{b:J aB×bn}(h:RJ fl k m p a b)(hc:COk m p):RR fl (RB k) a b:=by
 obtain⟨h1,h2,⟨h3,h4,h5⟩|h3⟩:=h
 ·exact⟨h1,h2,.inl ⟨h3,Prod.ext (h5.2 hc) h4⟩⟩
 ·exact⟨h1,h2,.inr h3⟩
theorem RJ.go{fl:J bF}{k:Nat}{m:dm}{p:cg}{r:J aB}{s:bn}(h:og s)(hi:RB k r)(hs:stop s=UV):RJ fl k m p (r,WF,gi fl s) (r,s):=⟨h,hi,.inl ⟨hs,rfl,JR.eq _⟩⟩
theorem ams(F:Nat){p:cg}(h:m.fD=p.fD):ey F m=dV F p:=by unfold ey dV wx;rw[h]
def X1(fl:J bF)(F n:Nat):Prop:=∀(N:Nat)(l:J TPart)(m:dm)(p:cg)(s:bn),Mo m p->og s->stop s=UV->fL l<=1000->9*fL l+9<=n->6*fL l+6<=N->T2 (RJ fl (fL l) m p) ((aW F n).1 l m (gi fl s)) ((aG F N).1 l p s)
def X2(fl:J bF)(F n:Nat):Prop:=∀(N:Nat)(x:TPart)(m:dm)(p:cg)(s:bn),Mo m p->og s->stop s=UV->wP x<=1000->9*wP x+8<=n->6*wP x+5<=N->T2 (RJ fl (wP x) m p) ((aW F n).2.1 x m (gi fl s)) ((aG F N).2.1 x p s)
def XV(fl:J bF)(F n:Nat):Prop:=∀(N:Nat)(l:J TPart)(m:dm)(q:Bool)(s:bn),m.fD=q->og s->stop s=UV->fL l<=1000->9*fL l+10<=n->6*fL l+7<=N->T2 (λa b=>RV fl a b/\b.1.length<=5000*fL l) ((aW F n).2.2.2.2.1 l m (gi fl s)) ((aG F N).2.2.2.1 l q s)
variable{n:Nat}{a b:J aB}
theorem anQ(hF:100000000<=F)(h2:X2 fl F n):X1 fl F (n+1):=by
 intro N l m p s hm hs hst hl hn hN;obtain⟨N,rfl⟩:∃k,N=k+1:=⟨N-1,om⟩;have hll:=Ct l;show T2 _ (yx F (aW F n) l m (gi fl s)) (eR F (aG F N) l p s)
 refine T2.lpe (λ(z:J aB×Int×aO)(y:J aB×Int×bn)=>∃k:Nat,k<=l.length/\z.2=((k:Int),gi fl y.2.2)/\y.2.1=(k:Int)/\JR m p z.1 y.1/\RB (fL (l.take k)) y.1/\og y.2.2/\stop y.2.2=UV) (λz=>l.length-z.2.1.toNat)
  (λ(u:bn×J aB)(y:J aB×Int×bn)=>stop u.1=WF/\y.1=u.2/\y.2.2=u.1/\∃k:Nat,y.2.1=(k:Int)/\k<=l.length) (λy=>l.length-y.2.1.toNat) (λu (y:J aB×bn)=>y=(u.2,u.1)) ⟨0,Nat.zero_le _,rfl,rfl,JR.eq _,RB.nil,hs,hst⟩ (by grind) ?_ ?_
 ·rintro⟨a,i,x⟩ ⟨o,i',s⟩ ⟨k,h3,h4,h5,h6,h7,h8,h9⟩ q1 q2 hrc hex
  dsimp only at h4 h5 h6 h7 h8 h9 hrc hex⊢;cases h4;subst h5;have hwk:=Gz l k;rw[tZ,h9];have jl:a.length=o.length:=by have:=congrArg List.length h6.1;simpa using this
  by_cases hk:k<l.length
  ·have hwm:=VI hk
   have ha:=Tz hk;have Xs:l.length-Int.toNat ((k+1:Nat):Int)<l.length-Int.toNat (k:Int):=om;rw[cC om,cC om,aD,aD,qM,aY,bZ om om,bZ om om,bz om,b9,TPart.eta];refine T2.bd (h2 N (l.getD k iP) m p s hm h8 h9 om om om) ?_;rintro⟨r,ok,x'⟩ ⟨r',s'⟩ ⟨g1,g2,g3⟩;dsimp only at g1 g2 g3⊢;have h10:=RB.app h7 g2;rw[<-ha]at h10;have AQ:=Gz l (k+1);have h11:=h10.1;rw[vi]at h11;have sz:∀a b:Nat,a+b<=26*1000->((T1 (a+b<=9223372036854775807))&&(T1 ((a+b)*24<=140737488355328)))=WF:=λa b h=>lM om om;rcases g3 with⟨k1,k2,k3⟩|⟨k1,k2,k3,-⟩
   ·cases k2
    have jr:r.length=r'.length:=by have:=congrArg List.length k3.1;simpa using this
    refine T2.ql (sz _ _ om) (T2.qr (sz _ _ om) (hrc _ _ ⟨k+1,hk,rfl,rfl,⟨?_,λhc=>by rw[h6.2 hc,k3.2 hc]⟩,h10,g1,k1⟩ Xs));rw[vj,vj,h6.1,k3.1]
   ·subst k2
    refine T2.qr (sz _ _ om) ?_;obtain⟨y,rfl,hy⟩:=hex (s',o++r') (o++r',((k+1:Nat):Int),s') ⟨k1,rfl,rfl,k+1,rfl,hk⟩ Xs;rw[hy];exact T2.ok ⟨g1,h10.mono om,.inr ⟨k1,rfl,k3,rfl⟩⟩
  ·rw[cf om,cf om,aD,aM]
   rw[vN om]at h7;exact T2.ok ⟨h8,h7,.inl ⟨h9,rfl,h6⟩⟩
 simp_all[tZ,aA.ok]
theorem aeq(h:a.map (·.fText)=b.map (·.fText)):fR a=fR b:=by
 unfold fR
 grind
theorem anR(h:a.map (·.fText)=b.map (·.fText)):bX a=bX b:=by rw[<-CF,<-CF,aeq h]
theorem aer(hF:100000000<=F)(h1:X1 fl F n):XV fl F (n+1):=by
 intro N l m q s hm hs hst hl hn hN;obtain⟨N,rfl⟩:∃k,N=k+1:=⟨N-1,om⟩;show T2 _ (yy F (aW F n) l m (gi fl s)) (mG F (aG F N) l q s);refine T2.bd (h1 N l {m with kE:=UV} (cg.mk q UV UV) s ⟨hm,rfl⟩ hs hst hl om om) ?_;rintro⟨r,ok,x'⟩ ⟨r',s'⟩ ⟨g1,g2,g3⟩;dsimp only at g1 g2 g3⊢;have z1:=g2.1;have z2:=g2.2;have e18:=acg F r' om om om;have etx:(r'.flatMap λr=>r.fText)=fR r':=rfl;rw[e18];have hlen:=CF r';rcases g3 with⟨k1,k2,k3⟩|⟨k1,k2,k3,-⟩
 ·cases k2
  have jr:r.length=r'.length:=by have:=congrArg List.length k3.1;simpa using this
  have js:=anR k3.1;rw[jd,aM,GK F r om om om,aeq k3.1];refine T2.cb (λh=>?_) λh=>T2.ok ⟨⟨⟨g1,by grind,.inl ⟨k1,rfl⟩⟩,λ_=>?_⟩,by simp_all⟩
  ·rw[uV]
   refine T2.ok ⟨⟨RR.err g1 (by grind) k1 de rfl,λh=>?_⟩,by simp_all⟩
   grind[aiZ]
  grind
 ·subst k2
  rw[qM,aY,uV,k1,aY];refine T2.cr (λ_=>T2.ok ?_) λ_=>T2.ok ?_
  all_goals exact⟨⟨⟨g1,by grind,.inr ⟨k1,rfl,k3,rfl⟩⟩,λh=>by rw[k1]at h;cases h⟩,by simp_all⟩
variable{R:Type}
theorem aA.eqv{x:O R}{v:R}(h:aA (λr=>r=v) x):x=W0 v:=by
 obtain⟨r,h,e⟩:=h;rw[e,h]
def rO(o:J aB)(r:aB):J aB:=cond (r.fText==[]) o (cond (T1 (0<o.length)&&((o.getD (o.length-1) dw).aL==r.aL)) (o.set (o.length-1) (aB.mk ((o.getD (o.length-1) dw).fText++r.fText) (o.getD (o.length-1) dw).aL)) (o++[r]))
def oJ(l:J aB):J aB:=l.foldl rO []
theorem acj:∀(l:J aB)(k:Nat)(t:Bs)(c:Int),k<l.length->bX (l.set k (aB.mk ((l.getD k dw).fText++t) c))=bX l+t.length
 | [],k,t,c,h=>absurd h (aeW _)
 | a::l,0,t,c,h=>by
  unfold bX
  grind
 | a::l,k+1,t,c,h=>by
  have:=acj l k t c (by simpa using h);show bX (a::l.set k (aB.mk ((l.getD k dw).fText++t) c))=_;unfold bX at this⊢;simp only[jY,PK];omega
theorem aly(o:J aB)(r:aB):bX (rO o r)=bX o+r.fText.length/\(rO o r).length<=o.length+1:=by
 unfold rO
 cases h1:(r.fText==[])with
 | true=>
  simp_all
 | false=>
  cases h2:(T1 (0<o.length)&&((o.getD (o.length-1) dw).aL==r.aL))with
  | true=>
   grind[acj,List.length_set]
  | false=>
   refine⟨?_,by simp_all⟩;show bX (o++[r])=_;rw[Gc];simp[bX]
theorem Mh:∀(l o:J aB),bX (l.foldl rO o)=bX o+bX l/\(l.foldl rO o).length<=o.length+l.length
 | [],o=>⟨by simp[bX],si⟩
 | r::l,o=>by
  obtain⟨h1,h2⟩:=Mh l (rO o r);obtain⟨h3,h4⟩:=aly o r;rw[vS];refine⟨by rw[h1,h3];simp[bX];omega,bp⟩
theorem aes(F:Nat)(l:J aB)(f:J aB->R)(hF:l.length<F)(h1:l.length<=1000000)(h2:bX l<=100000000):
  bW (σ:=Int×(J aB)) (R:=R) (λgV x2=>
   cond (T1 (x2.1<(l.length:Int)))
   (rq ((T1 (0<=x2.1))&&(T1 (x2.1<(l.length:Int)))) (cond (((l.getD (Ts x2.1) dw).fText)==[])
   (gV (aC (x2.1+1),x2.2))
   ((cond (T1 (0<=aC ((x2.2.length:Int)-1)))
   (rq ((T1 (0<=aC ((x2.2.length:Int)-1)))&&(T1 (aC ((x2.2.length:Int)-1)<(x2.2.length:Int)))) (W0 (((x2.2.getD (Ts (aC ((x2.2.length:Int)-1))) dw).aL)==((l.getD (Ts x2.1) dw).aL),x2.2)))
   (W0 (UV,x2.2)):O (Bool×(J aB))).bind λx4=>
   cond x4.1
   (rq ((T1 (0<=aC ((x2.2.length:Int)-1)))&&(T1 (aC ((x2.2.length:Int)-1)<(x4.2.length:Int)))) (rq (T1 (((x4.2.getD (Ts (aC ((x2.2.length:Int)-1))) dw).fText).length+((l.getD (Ts x2.1) dw).fText).length<=9223372036854775807)) (rq ((T1 (0<=aC ((x2.2.length:Int)-1)))&&(T1 (aC ((x2.2.length:Int)-1)<(x4.2.length:Int)))) (gV (aC (x2.1+1),x4.2.set (Ts (aC ((x2.2.length:Int)-1))) (aB.mk (((x4.2.getD (Ts (aC ((x2.2.length:Int)-1))) dw).fText)++((l.getD (Ts x2.1) dw).fText)) ((x4.2.getD (Ts (aC ((x2.2.length:Int)-1))) dw).aL)))))))
   (rq ((T1 (x4.2.length+([(l.getD (Ts x2.1) dw)]:J aB).length<=9223372036854775807))&&(T1 ((x4.2.length+([(l.getD (Ts x2.1) dw)]:J aB).length)*24<=140737488355328))) (gV (aC (x2.1+1),x4.2++([(l.getD (Ts x2.1) dw)]:J aB)))))))
   (W0 (f x2.2))) F (0,([]:J aB))=W0 (f (oJ l)):=by
 refine aA.eqv ?_;refine aA.lp (λz:Int×J aB=>∃k:Nat,z.1=(k:Int)/\k<=l.length/\z.2=oJ (l.take k)) (λz=>l.length-z.1.toNat) ⟨0,rfl,gj _,rfl⟩ (by simp_all) ?_;rintro⟨i,o⟩ ⟨k,q1,hk,q2⟩ rc hrc;dsimp only at q1 q2 hrc⊢;subst q1;refine aA.cd (λh=>?_) λh=>?_
 ·have hk:k<l.length:=om
  have hm:l.length-Int.toNat ((k+1:Nat):Int)<l.length-Int.toNat (k:Int):=om
  have es:oJ (l.take (k+1))=rO o l[k]:=by
   unfold oJ;rw[mh hk,Jr,q2];rfl
  obtain⟨b1,b2⟩:=Mh (l.take k) [];rw[show(l.take k).foldl rO []=o from q2.symm]at b1 b2;have b3:=uW l k;have b5:=uW l (k+1);have b6:=qS l k hk;have z0:bX ([]:J aB)=0:=rfl;simp only[Ax]at b2;have nx:∀o',o'=rO o l[k]->aA (λr=>r=f (oJ l)) (rc (((k+1:Nat):Int),o')):=λo' ho=>hrc _ ⟨k+1,rfl,hk,by rw[es];exact ho⟩ hm;rw[bZ om om,bz om,b9,gd hk];generalize l[k]=a at nx b6⊢;refine aA.cb (λha=>nx o (by unfold rO;rw[ha];rfl)) λha=>?_;by_cases h0:0<o.length
  ·have e1:aC ((o.length:Int)-1)=((o.length-1:Nat):Int):=by grind[bN]
   rw[e1,cC om,bZ om om,b9,aD]
   refine aA.cb (λhc=>?_) λhc=>aA.rq (pI (by grind) de) (nx _ (by
    unfold rO;grind))
   have hle:(o.getD (o.length-1) dw).fText.length<=bX o:=by
    have hlt:o.length-1<o.length:=om;rw[gd hlt];have:=qS o (o.length-1) hlt
    grind
   refine aA.rq (lM om (by dsimp only;omega)) (aA.rq (decide_eq_true (by dsimp only;omega)) (aA.rq (lM om (by dsimp only;omega)) (nx _ ?_)));unfold rO;grind
  ·have e1:aC ((o.length:Int)-1)=-1:=by simp_all[bN]
   rw[e1,cf om,aD];exact aA.rq (pI (by simp_all) de) (nx _ (by unfold rO;grind))
 simp_all[vN,aA.ok]
def RPt(fl:J bF)(k:Nat)(a:J aB×Bool×aO)(b:J aB×bn):Prop:=og b.2/\RB k b.1/\((stop b.2=UV/\a=(oJ b.1,WF,gi fl b.2))\/(stop b.2=WF/\a.2.1=UV/\Fin a.2.2 b.2))
theorem amt(F:Nat)(t:Bs):ve F t=W0 ((t==[64])||(t==[42])):=by unfold ve wx;rw[aH];rfl
theorem anS(F:Nat)(o:Int)(c s:Bool)(v:Bs):B4 F o c s v=tE F o c s v:=by
 unfold B4 tE wx;simp only[aH,aD]
 grind
theorem ai3(hF:100000000<=F)(h1:X1 fl F n)(N:Nat)(l:J TPart)(s:bn)(hs:og s)(hst:stop s=UV)(hl:fL l<=1000)(hn:9*fL l+9<=n)(hN:6*fL l+6<=N):
  T2 (RPt fl (fL l)) ((aW F (n+1)).2.2.2.2.2.2.1 l (gi fl s)) ((aG F N).1 l (cg.mk UV UV UV) s):=by
 show T2 _ (pS F (aW F n) l (gi fl s)) _;unfold pS wx;obtain⟨⟨r,ok,x'⟩,⟨r',s'⟩,h,e1,e2⟩:=h1 N l (dm.mk UV UV 0) (cg.mk UV UV UV) s ⟨rfl,rfl⟩ hs hst hl hn hN;have h:=h.rr (λ_=>rfl);rw[e1,e2,aD];obtain⟨g1,g2,⟨k1,k2⟩|⟨k1,k2,k3,k4⟩⟩:=h
 ·cases k2
  have z1:=g2.1;have z2:=g2.2;dsimp only at z1 z2⊢;rw[aes F _ (λo=>(o,WF,gi fl s')) om om om];exact T2.ok ⟨g1,g2,.inl ⟨k1,rfl⟩⟩
 ·have k4:=k4
  subst k2 k4;rw[aes F [] (λo=>(o,UV,x')) bp si (by simp[bX])];exact T2.ok ⟨g1,g2,.inr ⟨k1,rfl,k3⟩⟩
theorem ai4(hF:100000000<=F)(hv:XV fl F n)(N:Nat)(x:TPart)(m:dm)(p:cg)(s:bn)(hm:m.fD=p.fD)(hs:og s)(hst:stop s=UV)(hl:wP x<=1000)(hn:9*fL x.fParts+10<=n)(hN:6*fL x.fParts+7<=N):
  T2 (λa b=>og b/\stop b=WF/\a.1=UV/\Fin a.2 b) ((aW F (n+1)).2.2.2.2.2.2.2.2 x m (gi fl s)) ((aG F (N+1)).2.2.2.2.2 x p s):=by
 have hw:=Gy x;show T2 _ (pT F (aW F n) x m (gi fl s)) (ni F (aG F N) x p s);unfold pT ni wx;rw[aH,aD];have l1:T1 (x.fText.length+([58,32]:Bs).length<=9223372036854775807)=WF:=decide_eq_true (by grind);have bad:∀(t:Bs)(u:bn),og u->stop u=UV->og (cond (stop u) u {u with fe:=32,fZ:=t})/\stop (cond (stop u) u {u with fe:=32,fZ:=t})=WF/\Fin {gi fl u with fZ:=t,w8:=32} (cond (stop u) u {u with fe:=32,fZ:=t}):=λt u hu hsu=>⟨Mg hu _ _,(failed (fl:=fl) hsu de).1,(failed hsu de).2⟩;by_cases h0:0<x.fParts.length
 ·rw[cC om]
  obtain⟨⟨t0,ok,x'⟩,⟨t,s'⟩,⟨⟨⟨hg,hi,hh⟩,hlen⟩,-⟩,e1,e2⟩:=hv N x.fParts m p.fD s hm hs hst om hn hN;rw[e2];rcases hh with⟨k1,k2⟩|⟨k1,k2,k3,k4⟩
  ·cases k2
   grind[T2.ql,T2.qr,KV,uV,T2.ok]
  ·subst k2
   grind[T2.qr,uV,T2.ok]
 ·rw[cf om,cf om]
  cases x.fColon with
  | true=>
   refine T2.ql (ei (by show x.fText.length+27<=_;omega)) (T2.qr l1 (T2.qr (ei (by rw[vi];show x.fText.length+2+25<=_;omega)) ?_))
   simp_all[KV,uV,T2.ok]
  | false=>
   refine T2.ql (ei (by show x.fText.length+19<=_;omega)) (T2.qr l1 (T2.qr (ei (by rw[vi];show x.fText.length+2+17<=_;omega)) ?_))
   simp_all[KV,uV,T2.ok]
def VE(F:Nat):Prop:=∀(op:Int)(v:Bs)(l:J aB),6<=op->op<=9->v.length<=4096->l.length<=26000->bX l<=5000000 ->
 T2 (λa b=>a=b/\b.length<=v.length) ((iB F (oJ l)).bind λp=>FZ F op v p) ((kj F l).bind λp=>FQ F op v p)
theorem T2.bd2{X Y:Type}{Q:A->B->Prop}{x:O X}{y:O Y}{f:X->O C}{g:Y->O D}{h:C->O A}{h':D->O B}(t:T2 P (x.bind f) (y.bind g))(k:∀a b,P a b->T2 Q (h a) (h' b)):T2 Q (x.bind λa=>(f a).bind h) (y.bind λb=>(g b).bind h'):=by
 rw[<-aeZ,<-aeZ];exact T2.bd t k
theorem aru{X Y:Type}{y:O X}{g:X->O D}{h:D->O Y}{b:D}(e:(y.bind g)=W0 b):(y.bind λb=>(g b).bind h)=h b:=by
 rw[<-aeZ,e];rfl
theorem pid(y:O (A×B×C)):(y.bind λx=>W0 (x.1,x.2.1,x.2.2))=y:=by cases y<;>rfl
theorem apW(y:O (A×B)):(y.bind λx=>W0 (x.1,x.2))=y:=by cases y<;>rfl
theorem trB(o:Int):(cond (o==6) (o==6) (cond (o==7) (o==7) (cond (o==8) (o==8) (o==9))))=cond (T1 (6<=o)) (T1 (o<=9)) UV:=by
 rw[cF]
 grind
theorem anT(F:Nat)(fl:J bF)(h:og s)(n v:Bs)(m:dm)(p:cg)(hm:Mo m p)(hv:v.length<=4096)(hF:1000<F):T2 (λa b=>a=b/\RB 1 b) (nO F n v m (gi fl s)) (gZ F n v p s):=by
 obtain⟨r,hr,er⟩:=anJ F h.1 n v p hv hF;refine⟨r,r,⟨rfl,hr⟩,?_,er⟩;rw[<-er];obtain⟨m1,m2⟩:=hm;unfold nO gZ wx;rw[amt,ams F m1,m1,m2,show(gi fl s).cx=s.cx from rfl];simp only[aH,aD];obtain⟨c,hc⟩:=QE F p
 have e:cond (cond (!p.kE) WF (!((n==[64])||(n==[42])))) WF (cond (n==[42]) p.fD UV)=cond (cond (!p.kE) WF (cond (!(n==[64])) (!(n==[42])) UV)) WF (cond p.fD (n==[42]) UV):=by
  grind
 rw[e]
 cases (cond (cond (!p.kE) WF (cond (!(n==[64])) (!(n==[42])) UV)) WF (cond p.fD (n==[42]) UV))with
 | true=>rfl
 | false=>
  rw[aM];congr 1
  funext rc z
  cases hd:T1 (z.2<(s.cx.cU.length:Int))with
  | false=>rfl
  | true=>
   cases h0:T1 (0<=z.2)with
   | false=>
    grind
   | true=>
    rfl
theorem anU(hF:100000000<=F)(hT:VE F)(h1:∀k,k<n->X1 fl F k)(hV:∀k,k<n->XV fl F k)(N:Nat)(x:TPart)(m:dm)(p:cg)(s:bn)(hm:Mo m p)(hs:og s)(hst:stop s=UV)(hx:wP x<=1000)(hn:9*wP x+7<=n)(hN:6*wP x+4<=N):
  T2 (RJ fl (wP x) m p) ((aW F n).2.2.2.2.2.1 x m (gi fl s)) ((aG F N).2.2.2.2.1 x p s):=by
 have hw:=Gy x;obtain⟨j,rfl⟩:∃j,n=j+3:=⟨n-3,om⟩;obtain⟨M,rfl⟩:∃j,N=j+2:=⟨N-2,om⟩;show T2 _ (od F (aW F (j+2)) x m (gi fl s)) (gQ F (aG F (M+1)) x p s);unfold od gQ wx;obtain⟨⟨v,st⟩,hv,ev⟩:=anI F hs.1.1 x.fText om om;rw[show zn F (gi fl s).cx x.fText=ko F s.cx x.fText from apT F hs.1.1 x.fText om om,ev,aD,aD];obtain⟨c,hc⟩:=QE F p;have hmc:ey F m=W0 c:=by rw[ams F hm.1,hc]
 have htr:DA F x.fOp=W0 (cond (T1 (6<=x.fOp)) (T1 (x.fOp<=9)) UV):=by unfold DA wx;rw[aH];rfl
 simp only[amt,htr,hc,hmc,aH,aD,trB,cT];dsimp only at hv⊢;rw[show(gi fl s).cx=s.cx from rfl];generalize htB:cond (T1 (6<=x.fOp)) (T1 (x.fOp<=9)) UV=tr;generalize hnb:((nT .i64 s.cx.jM 2) != 0)=nb;have l1:T1 (x.fText.length+([58,32,112,97,114,97,109,101,116,101,114,32,110,111,116,32,115,101,116]:Bs).length<=9223372036854775807)=WF:=ei (by show x.fText.length+19<=_;omega)
 have key:∀A B:O (Unit ⊕ (J aB×Bool×aO)),(cond (cond (x.fOp==0) (x.fOp==0) (cond (x.fOp==5) (x.fOp==5) tr)) (cond (cond (cond nb (!st) UV) (!((x.fText==[64])||(x.fText==[42]))) UV) A B) B)=cond (cond (cond (cond nb (!((x.fText==[64])||(x.fText==[42]))) UV) (!st) UV) ((x.fOp==0)||((x.fOp==5)||tr)) UV) A B:=λA B=>by
  grind
 rw[key];have one:∀(t:Bs)(u:bn),t.length<=5000*wP x->og u->stop u=UV->T2 (RJ fl (wP x) m p) ((gT F t c).bind λfO=>W0 (fO,WF,gi fl u)) (W0 ([aB.mk t c],u)):=λt u ht hu hsu=>T2.ok (RJ.go hu (RB.one om ht) hsu)
 cases (cond (cond (cond nb (!((x.fText==[64])||(x.fText==[42]))) UV) (!st) UV) ((x.fOp==0)||((x.fOp==5)||tr)) UV)with
 | true=>
  rw[aY,aY,cq l1,cq l1,KV,uV]
  exact T2.ok (RR.j (RR.err hs (RB.nil (k:=1)) hst de rfl) om)
 | false=>
  rw[aM,aM];show T2 _ (cond (x.fOp==5) _ _) _;have R:∀k:Nat,k<=1000000->K.gJ (k:Int):=λk hk=>⟨om,om⟩
  have dec:∀k:Nat,k<=1000000->T2 (RJ fl (wP x) m p) ((pO F (k:Int)).bind λfQ=>(gT F fQ c).bind λfO=>W0 (fO,WF,gi fl s)) ((dP F (k:Int)).bind λx9=>W0 ([aB.mk x9 c],s)):=λk hk=>by
   grind[K.xZ,ag1,K.Kz]
  cases h5:(x.fOp==5)with
  | true=>
   rw[aY,aY,aY];have hp:=hs.1.1.2.1;show T2 _ ((pO F (cond ((x.fText==[64])||(x.fText==[42])) (s.cx.cU.length:Int) (v.length:Int))).bind _) _
   grind
  | false=>
   rw[aM,aM,aM,aM]
   cases tr with
   | true=>
    rw[aY,aY]
    have hop:6<=x.fOp/\x.fOp<=9:=by
     simp_all
    refine T2.bd (ai3 hF (h1 (j+1) om) (M+1) x.fParts s hs hst om om om) ?_;rintro⟨r,ok,x'⟩ ⟨r',s'⟩ ⟨g1,g2,g3⟩;dsimp only at g1 g2 g3⊢;have z1:=g2.1;have z2:=g2.2;have hTr:=hT x.fOp v r' hop.1 hop.2 hv om om;rcases g3 with⟨k1,k2⟩|⟨k1,k2,k3⟩
    ·cases k2
     rw[jd,aM];refine T2.bd2 hTr ?_
     grind
    ·have k2:ok=UV:=k2
     subst k2;rw[qM,aY];obtain⟨a,b,⟨-,hb⟩,-,e2⟩:=hTr;rw[aru e2]
     exact T2.ok ⟨g1,RB.one om om,.inr ⟨k1,rfl,k3,rfl⟩⟩
   | false=>
    rw[aM,aM,TPart.eta,pid];show T2 _ (qB F (aW F (j+1)) x m v st (gi fl s)) _;unfold qB wx;rw[anS];obtain⟨ch,hch⟩:=alv F x.fOp x.fColon st v;rw[hch,aD,aD,hmc];simp only[pid,apW,TPart.eta];refine T2.cb (λ_=>?_) λ_=>T2.cb (λ_=>one [] s (gj _) hs hst) λ_=>T2.cb (λ_=>?_) λ_=>T2.cb (λ_=>?_) λ_=>?_
    ·refine T2.mono (h1 (j+1) om (M+1) x.fParts {m with dD:=2} {p with C3:=WF} s hm hs hst om om om) ?_
     rintro a b h;exact RR.j (h.rr λ_=>rfl) om
    ·rw[K.Hf F _ om]
     obtain⟨nm,-,enm⟩:=Fh F x.fText om;rw[enm,aD,aD];have l3:T1 (x.fText.length+([58,32,99,97,110,110,111,116,32,97,115,115,105,103,110]:Bs).length<=9223372036854775807)=WF:=ei (by show x.fText.length+15<=_;omega);refine T2.cb (λ_=>?_) λ_=>?_
     ·rw[cq l3,cq l3,KV,uV]
      exact T2.ok (RR.j (RR.err hs (RB.nil (k:=1)) hst de rfl) om)
     ·refine T2.bd (hV (j+1) om (M+1) x.fParts m p.fD s hm.1 hs hst om om om) ?_
      rintro⟨t0,ok,x'⟩ ⟨t,s'⟩ ⟨⟨⟨g1,g2,g3⟩,g4⟩,g5⟩;dsimp only at g1 g2 g3 g4 g5⊢
      have ht:t.length<=5000*wP x:=by
       grind
      rcases g3 with⟨k1,k2⟩|⟨k1,k2,k3,k4⟩
      ·cases k2
       rw[jd,aM];refine T2.l (P:=λy:Bool×aO=>∃s2,iG F x.fText t0 s'=W0 s2/\og s2/\((stop s2=UV/\y=(UV,gi fl s2))\/(stop s2=WF/\y.1=WF/\Fin y.2 s2))) ?_ ?_
       ·obtain⟨⟨a1,a2⟩,s2,⟨b1,b2⟩,e1,e2⟩:=aep F fl g1 k1 x.fText t0 om
        simp_all[aD,aA.ok]
       ·rintro⟨a1,a2⟩ ⟨s2,e2,b1,b2⟩
        rw[e2,aD];rcases b2 with⟨b2,b3⟩|⟨b2,b3,b4⟩
        ·simp_all
        ·have b3:a1=WF:=b3
         subst b3;exact T2.ok ⟨b1,RB.one om ht,.inr ⟨b2,rfl,b4,rfl⟩⟩
      ·have k2:ok=UV:=k2
       subst k2;rw[qM,aY,aD,amq F k1,aD];exact T2.ok ⟨g1,RB.one om ht,.inr ⟨k1,rfl,k3,rfl⟩⟩
    ·refine T2.bd (ai4 hF (hV j om) M x m p s hm.1 hs hst hx om om) ?_
     rintro⟨a1,a2⟩ s2 ⟨b1,b2,b3,b4⟩;have b3:a1=UV:=b3;subst b3;exact T2.ok ⟨b1,RB.nil,.inr ⟨b2,rfl,b4,rfl⟩⟩
    ·refine T2.bd (anT F fl hs x.fText v m p hm hv om) ?_
     rintro a b ⟨rfl,hb⟩;exact T2.ok (RJ.go hs (hb.mono om) hst)
theorem asX(F:Nat)(p:TPart)(f:Bool->O R):((cond (p.fKind==4) (W0 (p.fText==([64]:Bs))) (W0 UV):O Bool).bind λx4=>(cond x4 (W0 (p.fOp==0)) (W0 UV):O Bool).bind f)=(tX F p).bind f:=by
 unfold tX wx
 grind
theorem arv(F:Nat){l:J bO}(hl:l.length<=128)(hF:1000<F)(n:Bs)(A:bO->O R)(B:O R):((xl F l n).bind λx5=>(cond x5.2 (W0 x5.1.cY) (W0 UV):O Bool).bind λx6=>cond x6 (A x5.1) B)=cond (j7 l n).1.cY (A (j7 l n).1) B:=by
 rw[ag0 F _ _ om om]
 have hb:(j7 l n).2=UV->(j7 l n).1=bO.mk [] [] UV UV UV:=by
  unfold j7;cases l.find? _<;>simp
 grind
theorem apX(hN':NC<=F)(hF:100000000<=F)(hT:VE F)(h1:∀k,k<n->X1 fl F k)(hV:∀k,k<n->XV fl F k):X2 fl F n:=by
 intro N x m p s hm hs hst hx hn hN;have hw:=Gy x;obtain⟨j,rfl⟩:∃j,n=j+2:=⟨n-2,om⟩;obtain⟨M,rfl⟩:∃j,N=j+2:=⟨N-2,om⟩;show T2 _ (sx F (aW F (j+1)) x m (gi fl s)) (dW F (aG F (M+1)) x p s);unfold sx dW wx;obtain⟨c,hc⟩:=QE F p;obtain⟨d,hd⟩:=apR F p;simp only[pid,TPart.eta];have one:∀(t:Bs)(c:Int),t.length<=5000*wP x->T2 (RJ fl (wP x) m p) ((gT F t c).bind λfO=>W0 (fO,WF,gi fl s)) (W0 ([aB.mk t c],s)):=λt c ht=>T2.ok (RJ.go hs (RB.one om ht) hst);refine T2.cb (λ_=>?_) λ_=>T2.cb (λ_=>one _ _ om) λ_=>T2.cb (λ_=>?_) λ_=>T2.cb (λ_=>?_) λ_=>T2.cb (λ_=>?_) λ_=>T2.cb (λ_=>?_) λ_=>T2.cb (λ_=>?_) λ_=>T2.ok (RJ.go hs RB.nil hst)
 ·
  have hl:∃d',qH F m=W0 d'/\(COk m p->d'=d):=by
   unfold qH wx;unfold lJ wx at hd;rw[<-hm.1]at hd;unfold COk
   grind
  obtain⟨d',hd',he⟩:=hl;rw[hd,hd',aD,aD];exact T2.ok ⟨hs,RB.one om (by grind),.inl ⟨hst,rfl,rfl,λh=>by rw[he h]⟩⟩
 ·
  show T2 _ (qA F (aW F j) x m (gi fl s)) _;unfold qA wx;have hkl:=Ct x.fParts
  have rl:∀(r:J aB)(u:bn),aA (λy=>y=(r,u)\/(r=[]/\y=([aB.mk [] 1],u))) (bW (σ:=Int) (R:=(J aB)×bn) (λkH x3=>
    cond (T1 (x3<(x.fParts.length:Int)))
    (rq ((T1 (0<=x3))&&(T1 (x3<(x.fParts.length:Int)))) ((tX F (x.fParts.getD (Ts x3) iP)).bind λx5=>
    cond x5
    (W0 (r,u))
    (kH (aC (x3+1)))))
    (cond ((r.length:Int)==0)
    (W0 (([(aB.mk [] 1)]:J aB),u))
    (W0 (r,u)))) F 0):=λr u=>by
   refine aA.lp (λi:Int=>∃k:Nat,i=(k:Int)/\k<=x.fParts.length) (λi=>x.fParts.length-i.toNat) ⟨0,rfl,om⟩ (by grind) ?_;rintro _ ⟨k,rfl,hk⟩ rc hrc;refine aA.cd (λh=>?_) λ_=>aA.cb (λh=>aA.ok (.inr ⟨ae0.1 (by simp_all),rfl⟩)) λ_=>aA.ok (.inl rfl);obtain⟨b,hb⟩:=amn F (x.fParts.getD (Ts (k:Int)) iP);rw[bZ om om,hb,aD,bz om];exact aA.cb (λ_=>aA.ok (.inl rfl)) λ_=>hrc _ ⟨k+1,rfl,om⟩ (by grind)
  refine T2.bd (h1 j om (M+1) x.fParts (dm.mk WF m.kE 0) (cg.mk WF UV p.kE) s ⟨rfl,hm.2⟩ hs hst om om om) ?_;intro a b h;have h:=h.rr (λh=>nomatch h);obtain⟨r,ok,x'⟩:=a;obtain⟨r',s'⟩:=b;obtain⟨g1,g2,⟨k1,k2⟩|⟨k1,k2,k3,k4⟩⟩:=h
  ·cases k2
   dsimp only at g1 g2 k1⊢;rw[jd,aM];by_cases h0:0<r'.length
   ·rw[cC om]
    obtain⟨y,hy,e⟩:=rl r' s';rw[e];rcases hy with rfl|⟨h,_⟩
    ·exact T2.ok (RJ.go g1 (g2.mono om) k1)
    simp_all
   ·rw[cf om]
    have hnil:r'=[]:=ae0.1 om;subst hnil;refine T2.lp (λ(i i':Int)=>∃k:Nat,i=(k:Int)/\i'=(k:Int)/\k<=x.fParts.length) (λi=>x.fParts.length-i.toNat) ⟨0,rfl,rfl,om⟩ (by grind) ?_;rintro _ _ ⟨k,rfl,rfl,hk⟩ q1 q2 hrc;refine T2.cb (λh=>?_) λ_=>T2.ok (RJ.go g1 (RB.one om (gj _)) k1);have h:=Cm h;have e:=asX (R:=J aB×Bool×aO) F (x.fParts.getD (Ts (k:Int)) iP);obtain⟨b,hb⟩:=amn F (x.fParts.getD (Ts (k:Int)) iP);refine T2.ql (lM om om) (T2.qr (lM om om) ?_);rw[e,hb,aD,aD,bz om];exact T2.cb (λ_=>T2.ok (RJ.go g1 RB.nil k1)) λ_=>hrc _ _ ⟨k+1,rfl,rfl,om⟩ (by grind)
  ·have k2:ok=UV:=k2
   have k4:r=[]:=k4;subst k2 k4;dsimp only at g1 g2 k1 k3⊢;rw[qM,aY];obtain⟨y,hy,e⟩:=rl r' s';rw[e];rcases hy with rfl|⟨_,rfl⟩
   ·exact T2.ok ⟨g1,g2.mono om,.inr ⟨k1,rfl,k3,rfl⟩⟩
   ·exact T2.ok ⟨g1,RB.one om (gj _),.inr ⟨k1,rfl,k3,rfl⟩⟩
 ·
  have hl:=hs.1.1.1.1;have hv:=(PY hs.1.1.1 [72,79,77,69]).2;have e:=arv F (l:=s.cx.bV) hl om [72,79,77,69] (λv=>(gT F v.bS 1).bind λx7=>W0 (x7,WF,gi fl s)) ((gT F [126] 0).bind λx8=>W0 (x8,WF,gi fl s));rw[show(gi fl s).cx=s.cx from rfl,e,zy F s.cx.bV _ om om,aD]
  grind
 ·
  exact(asV F fl hs hst x m p hm.1 om).mono λa b h=>RR.j h om
 ·
  have:=apV hN' hF fl (aW F j) (aG F M) x m p hm.1 s ((hV j om M x.fParts (dm.mk WF UV 0) WF s rfl hs hst om om om).mono λa b h=>h.1);exact this.mono λa b h=>RR.j h om
 grind[anU,apW]
theorem ag2(hN':NC<=F)(hF:100000000<=F)(hT:VE F):∀n,X1 fl F n:=by
 intro n
 induction n using Nat.strongRecOn with
 | ind n ih=>
  cases n with
  | zero=>intro N l m p s _ _ _ _ h _;omega
  | succ n=>
   have hV:∀k,k<n+1->XV fl F k:=λk hk=>by
    cases k with
    | zero=>intro N l m q s _ _ _ _ h _;omega
    | succ k=>grind[aer]
   grind[anQ,apX]
def ag3(it:aE)(t:Bs):Prop:=it.fKind=3\/∃b,t=[b]/\Su it (b.toNat:Int)=WF
def Mt:J aE->Bs->Prop
 | [],s=>s=[]
 | it::p,s=>∃a b,s=a++b/\ag3 it a/\Mt p b
theorem QF:∀(p:J aE)(it:aE)(s:Bs),Mt (p++[it]) s↔∃a b,s=a++b/\Mt p a/\ag3 it b
 | [],it,s=>by
  constructor
  ·rintro⟨a,b,rfl,h,rfl⟩;exact⟨[],a,si,rfl,h⟩
  ·rintro⟨a,b,rfl,rfl,h⟩;exact⟨b,[],si,h,rfl⟩
 | x::p,it,s=>by
  constructor
  ·rintro⟨a,b,rfl,h,hb⟩
   obtain⟨c,d,rfl,h1,h2⟩:=(QF p it b).1 hb;exact⟨a++c,d,si,⟨a,c,rfl,h,h1⟩,h2⟩
  ·rintro⟨a,b,rfl,⟨c,d,rfl,h1,h2⟩,h3⟩
   exact⟨c,d++b,si,h1,(QF p it _).2 ⟨d,b,rfl,h2,h3⟩⟩
theorem alz{it:aE}(h:ag3 it t):ag3 it t.reverse:=by
 rcases h with h|⟨b,rfl,h⟩
 ·exact .inl h
 ·exact .inr ⟨b,rfl,h⟩
theorem ack:∀(p:J aE)(s:Bs),Mt p s->Mt p.reverse s.reverse
 | [],s,h=>by
  obtain rfl:s=[]:=h
  rfl
 | it::p,s,h=>by
  obtain⟨a,b,rfl,h1,h2⟩:=h;rw[List.reverse_cons,List.reverse_append];exact(QF _ _ _).2 ⟨_,_,rfl,ack p b h2,alz h1⟩
theorem aet(f:Nat->Bool):∀k,upE f k=WF↔∃j,j<=k/\f j=WF
 | 0=>⟨λh=>⟨0,eu _,h⟩,λ⟨j,h,e⟩=>by rwa [show j=0 by omega]at e⟩
 | k+1=>by
  rw[upE,NB,aet f k];constructor
  ·rintro (h|⟨j,h,e⟩)
   ·exact⟨k+1,eu _,h⟩
   ·exact⟨j,om,e⟩
  ·rintro⟨j,h,e⟩
   by_cases hj:j=k+1
   ·subst hj;exact .inl e
   ·exact .inr ⟨j,om,e⟩
theorem PA(p:J aE)(s:Bs):∀i,i<=p.length->∀k,k<=s.length->(EE p s i k=WF↔Mt (p.take i) (s.take k))
 | 0,_,k,hk=>by
  show(k==0)=WF↔s.take k=[];rw[List.take_eq_nil_iff]
  grind
 | i+1,hi,k,hk=>by
  have hki:TP p i=p[i]:=by unfold TP;rw[gd om]
  rw[mh (show i<p.length by omega),QF,EE]
  cases hs:mJ p i with
  | true=>
   rw[aY,aet];have h3:p[i].fKind=3:=by unfold mJ at hs;simp_all
   constructor
   ·rintro⟨j,hj,e⟩
    refine⟨s.take j,(s.take k).drop j,?_,(PA p s i om j om).1 e,.inl h3⟩
    grind[Nat.min_eq_left,List.take_append_drop]
   ·rintro⟨a,b,e,h1,-⟩
    have hl:=congrArg List.length e;rw[As,vi]at hl;refine⟨a.length,om,(PA p s i om _ om).2 ?_⟩
    grind[Nat.min_eq_left,List.take_left]
  | false=>
   have h3:p[i].fKind≠3:=by unfold mJ at hs;simp_all
   cases k with
   | zero=>
    refine⟨λh=>(by cases h),?_⟩;rintro⟨a,b,e,-,h|⟨c,rfl,h⟩⟩
    ·exact absurd h h3
    ·simp at e
   | succ k=>
    have hsk:s.take (k+1)=s.take k++[s[k]]:=mh om;show(EE p s i k&&N3 p s i k)=WF↔_;rw[cH,PA p s i om k om,hsk];unfold N3;rw[hki,gd (show k<s.length by omega)];constructor
    ·rintro⟨h1,h2⟩
     exact⟨_,_,rfl,h1,.inr ⟨_,rfl,h2⟩⟩
    ·rintro⟨a,b,e,h1,h|⟨c,rfl,h⟩⟩
     ·exact absurd h h3
     grind[List.append_inj']
theorem apY(p:J aE)(s:Bs){k:Nat}(hk:k<=s.length):EE p.reverse s.reverse p.reverse.length k=EE p (s.drop (s.length-k)) p.length (s.drop (s.length-k)).length:=by
 rw[qb,PA _ _ _ (eu _) _ (by simpa using hk),PA _ _ _ (eu _) _ (eu _),vQ,vQ,vQ,List.take_reverse];exact⟨λh=>by simpa using ack _ _ h,λh=>ack _ _ h⟩
def ek(long:Bool)(g:Nat->Bool):Nat->Int×Bool
 | 0=>(0,UV)
 | k+1=>cond (g k&&cond long WF (!(ek long g k).2)) ((k:Int),WF) (ek long g k)
theorem Jn(b:Bool){f g:Nat->Bool}:∀k,(∀j,j<k->f j=g j)->ek b f k=ek b g k
 | 0,_=>rfl
 | k+1,h=>by rw[ek,ek,h k om,Jn b k λj hj=>h j om]
theorem Mi(b:Bool)(g:Nat->Bool)(k:Nat)(h:∀j,k<=j->g j=UV):∀d,ek b g (k+d)=ek b g k
 | 0=>rfl
 | d+1=>by rw[<-PM,ek,h _ om,Mi b g k h d];rfl
theorem Ys(g:Nat->Bool)(k:Nat)(h:(ek UV g k).2=WF):∀d,ek UV g (k+d)=ek UV g k
 | 0=>rfl
 | d+1=>by rw[<-PM,ek,Ys g k h d,h,aM,jd,PJ,aM]
theorem acm(b:Bool)(g:Nat->Bool):∀k,∃j:Nat,(ek b g k).1=(j:Int)/\j<=k-1/\((ek b g k).2=UV->j=0)
 | 0=>⟨0,rfl,eu _,λ_=>rfl⟩
 | k+1=>by
  obtain⟨j,h1,h2,h3⟩:=acm b g k;rw[ek]
  grind
variable{v:Bool}
theorem Yt(F:Nat)(p:J aE)(n:Bs)(long:Bool)(hF:p.length+300<F)(rD:n.length<F)(hn:n.length<50000000)(hp:p.length<50000000)(hit:∀it∈p,nr it)(hv:mI F p=W0 v):
  p4 F p n 0 long=W0 (ek long (λk=>v&&EE p n p.length k) (n.length+1)):=by
 unfold p4 wx;rw[hv,aD]
 cases v with
 | false=>
  have:=Mi long (λk=>UV&&EE p n p.length k) 0 (λ_ _=>rfl) (n.length+1);rw[qJ]at this
  rw[this];rfl
 | true=>
  have hw:aC ((p.length:Int)+1)=((p.length+1:Nat):Int):=cy om;have hlen:∀g:Nat->Bool,(iV (p.length+1) g).length=p.length+1:=λg=>CG _ g;rw[hw,jd,aM,cq (by rw[dT om,dT om,dT om,dT om,dT om];rfl),b9,mW si,St,GM];rw[lz (g:=λj=>j==0) λj _=>by cases (j==0)<;>rfl,XD F p _ om hp,aD,lz λj _=>aj2 p n j]
  have hsw:∀x:O (Int×Bool),x=W0 (ek long (EE p n p.length) (n.length+1))->(x.bind λx3=>W0 (x3.1,x3.2))=W0 (ek long (EE p n p.length) (n.length+1)):=by
   rintro x rfl;rfl
  refine hsw _ (cG (λs=>∃k:Nat,s=(iV (p.length+1) (λj=>EP p n j k),(ek long (EE p n p.length) k).1,(ek long (EE p n p.length) k).2,(k:Int))/\k<=n.length/\(long=UV->(ek long (EE p n p.length) k).2=UV)) (λs=>n.length-s.2.2.2.toNat) ?_ F _ ⟨0,rfl,om,λ_=>rfl⟩ bp);rintro s ⟨k,rfl,hk,hsh⟩;rw[bZ om (by rw[hlen];omega),b9 p.length,b9 k,xM _ om,ahN,aH]
  have hS:ek long (EE p n p.length) (k+1)=cond (EE p n p.length k) ((k:Int),WF) (ek long (EE p n p.length) k):=by
   rw[ek]
   grind
  have hend:∀d,(∀j,k<j->j<=n.length->EE p n p.length j=UV)->k+1+d=n.length+1->ek long (EE p n p.length) (n.length+1)=ek long (EE p n p.length) (k+1):=by
   intro d h1 h2;rw[Jn long (n.length+1) (g:=λj=>EE p n p.length j&&T1 (j<=n.length)) λj hj=>by grind,Jn long (k+1) (g:=λj=>EE p n p.length j&&T1 (j<=n.length)) λj hj=>by grind,<-h2];refine Mi _ _ _ (λj hj=>?_) d
   grind
  by_cases Lc:(EE p n p.length k && !long)=WF
  ·right
   rw[cH]at Lc;obtain⟨h1,h2⟩:=Lc;have hl:long=UV:=by simpa using h2
   subst hl;intro rc;rw[h1];rw[h1,aY]at hS;have:=Ys (EE p n p.length) (k+1) (by rw[hS]) (n.length-k);rw[show k+1+(n.length-k)=n.length+1 by omega,hS]at this;rw[this];rfl
  ·have hstep:∀G:Int×Bool->O (Int×Bool),(jj (σ:=Int×Bool) ((W0 (cond (EE p n p.length k) (T1 ((0:Int)<=(k:Int))) UV):O Bool).bind λx7=>cond x7 (cond (!long) (W0 (.inr ((k:Int),WF))) (W0 (.inl ((k:Int),WF)))) (W0 (.inl ((ek long (EE p n p.length) k).1,(ek long (EE p n p.length) k).2)))) G)=G (ek long (EE p n p.length) (k+1)):=by
    intro G;rw[hS,aD]
    cases h1:EE p n p.length k with
    | false=>rfl
    | true=>
     have:long=WF:=by
      simp_all
     rw[this];rfl
   by_cases hkn:k<n.length
   ·obtain⟨c,hc1,hc⟩:=acQ F (iV (p.length+1) (λj=>EP p n j k)) (by rw[hlen];omega) (by rw[hlen];omega)
    cases c with
    | false=>
     have hz:∀j,k<j->j<=n.length->EE p n p.length j=UV:=by
      intro j h1 h2
      have:=V3 p n k (λi hi=>by
       have:=hc1 rfl i (by rw[hlen];omega)
       grind[xM]) (j-k) p.length (Nat.le_refl _)
      grind[ahN]
     rw[hend (n.length-k) hz om]
     simp_all
    | true=>
     left;refine⟨(iV (p.length+1) (λj=>EP p n j (k+1)),(ek long (EE p n p.length) (k+1)).1,(ek long (EE p n p.length) (k+1)).2,((k+1:Nat):Int)),⟨k+1,rfl,om,λhl=>?_⟩,bp,λrc=>?_⟩
     ·simp_all
     ·refine(hstep _).trans ?_
      rw[show((k:Int)==(n.length:Int))=UV by simp;omega,aM,hc,aD,aD,jd,aM,bR hkn,afA F p n _ k hF hp hit,aD,cy om]
      grind[lz,adX]
   grind
theorem ag4(F:Nat)(p:J aE)(n:Bs)(long:Bool)(hF:p.length+300<F)(rD:n.length+1<F)(hn:n.length<50000000)(hp:p.length<50000000)(hit:∀it∈p,nr it)(hv:kR F p=W0 v):
  tD F p n long=W0 (ek long (λk=>v&&EE p n p.length k) (n.length+1)):=by
 unfold tD wx;rw[hv,aD]
 cases v with
 | false=>
  have:=Mi long (λk=>UV&&EE p n p.length k) 0 (λ_ _=>rfl) (n.length+1);rw[qJ]at this
  rw[this];rfl
 | true=>
  rw[jd,adY F p n hF rD hn hp hit];refine cG (λs=>∃k:Nat,s=((ek long (EE p n p.length) k).1,(ek long (EE p n p.length) k).2,(k:Int))/\k<=n.length+1) (λs=>n.length+1-s.2.2.toNat) ?_ F _ ⟨0,rfl,om⟩ bp;rintro s ⟨k,rfl,hk⟩;dsimp only;by_cases hk2:k<=n.length
  ·left
   refine⟨_,⟨k+1,rfl,om⟩,bp,λrc=>?_⟩;rw[bZ om (by rw[CG];omega),xM _ om,cy om,ek]
   grind
  grind
theorem ag5(F:Nat)(p:J aE)(n:Bs)(long:Bool)(hF:p.length+300<F)(rD:n.length+1<F)(hn:n.length<50000000)(hp:p.length<50000000)(hit:∀it∈p,nr it)(hv:mI F p=W0 v):
  tC F p n long=W0 (ek long (λk=>v&&EE p (n.drop (n.length-k)) p.length (n.drop (n.length-k)).length) (n.length+1)):=by
 generalize hg:(λk=>v&&EE p (n.drop (n.length-k)) p.length (n.drop (n.length-k)).length)=g;refine cG (λs=>∃k:Nat,s=((ek long g k).1,(ek long g k).2,(k:Int))/\k<=n.length+1) (λs=>n.length+1-s.2.2.toNat) ?_ F _ ⟨0,rfl,om⟩ bp;rintro s ⟨k,rfl,hk⟩;dsimp only;by_cases hk2:k<=n.length
 ·left
  refine⟨_,⟨k+1,rfl,om⟩,bp,λrc=>?_⟩
  have Mn:sl n (aC ((n.length:Int)-(k:Int))) (n.length:Int)=n.drop (n.length-k):=by
   rw[bN om];unfold sl;simp
  rw[Mn,bN om,cq (by grind),ahQ F p _ hF (by grind) (by grind) hp hit hv,aH,Option.bind_some,Option.bind_some,cy om,ek]
  grind
 grind
theorem ag6(F:Nat)(x:J aE)(hF:x.length<F)(hx:x.length<50000000):slices_Reverse F x=W0 x.reverse:=by
 unfold slices_Reverse wx;have h0:aC ((x.length:Int)-1)=(x.length:Int)-1:=bN om;rw[h0];refine cG (λs:Int×Int×J aE=>∃k:Nat,s.1=(k:Int)/\s.2.1=(x.length:Int)-1-(k:Int)/\2*k<=x.length+1/\s.2.2.length=x.length/\∀m,m<x.length->s.2.2.getD m gf=cond (T1 (m<k)||decide (x.length<=m+k)) (x.getD (x.length-1-m) gf) (x.getD m gf)) (λs=>x.length-s.1.toNat) ?_ F _ ⟨0,rfl,si,om,rfl,λm hm=>by grind⟩ bp;rintro⟨i,j,l⟩ ⟨k,h1,h2,h3,h4,h5⟩;dsimp only at h1 h2 h4 h5⊢;subst h1 h2;by_cases hk:(k:Int)<(x.length:Int)-1-(k:Int)
 ·left
  have hj:(x.length:Int)-1-(k:Int)=((x.length-1-k:Nat):Int):=om;rw[hj];refine⟨(((k+1:Nat):Int),((x.length-1-k-1:Nat):Int),(l.set k (l.getD (x.length-1-k) gf)).set (x.length-1-k) (l.getD k gf)),⟨k+1,rfl,by dsimp only;omega,om,by simp_all,λm hm=>?_⟩,bp,λrc=>?_⟩
  ·dsimp only
   grind
  ·rw[cC om,bZ om om,bZ om om,bZ om om,bZ om (by grind),Int.toNat_natCast,Int.toNat_natCast,cy om,vm om om]
 ·right
  intro rc;rw[cf hk];refine congrArg W0 (Au (by simp_all) λm Xs hm2=>?_)
  grind
theorem ai5(F:Nat)(x:J aE)(hx:x.length<50000000):B3 F x=W0 x:=by
 unfold B3 wx
 grind[LA,rq,ez]
def EN(F:Nat)(it:aE):Bool:=cond (cond (cond (cond (T1 (it.fKind<1)) WF (T1 (4<it.fKind))) WF ((it.fText.length:Int) != cond (it.fKind==1) 1 0)) WF (cond (it.fKind != 4) (cond it.CD WF (T1 (0<(it.cY.length:Int)))) UV)) WF (!((oy F it.cY).getD UV))
theorem PB(F:Nat)(p:J aE)(hF:p.length+300<F)(hp:p.length<50000000)(hit:∀it∈p,nr it):kR F p=W0 (!p.any (EN F)):=by
 unfold kR wx;refine cG (λs:Int=>∃k:Nat,s=(k:Int)/\k<=p.length/\(p.take k).any (EN F)=UV) (λs=>p.length-s.toNat) ?_ F _ ⟨0,rfl,om,rfl⟩ bp;rintro _ ⟨k,rfl,hk,hn⟩;by_cases hk:k<p.length
 ·have hI:=hit _ (iJ hk)
  have hl:=hI.2.2;obtain⟨c,hc⟩:=CE F p[k].cY om om;have hb:∀rc:Int->O Bool,cond (EN F p[k]) (W0 UV) (rc ((k+1:Nat):Int))=_:=λrc=>rfl;unfold EN at hb;rw[hc]at hb;have e:(p.take (k+1)).any (EN F)=EN F p[k]:=by grind[List.take_succ_eq_append_getElem]
  cases hv:EN F p[k]with
  | true=>
   right;intro rc;rw[cC (show(k:Int)<(p.length:Int) by omega),bR hk,b9,gd hk];rw[show p.any (EN F)=WF from R7.2 ⟨_,iJ hk,hv⟩];unfold EN at hv
   grind
  | false=>
   left;refine⟨_,⟨k+1,rfl,om,by rw[e,hv]⟩,bp,λrc=>?_⟩;rw[cC (show(k:Int)<(p.length:Int) by omega),bR hk,b9,gd hk];unfold EN at hv
   grind[cy]
 grind
theorem ai6(F:Nat)(p:J aE)(n:Bs)(long:Bool)(hF:p.length+300<F)(rD:n.length+1<F)(hn:n.length<50000000)(hp:p.length<50000000)(hit:∀it∈p,nr it):
  ∃r:Int×Bool,(∃j:Nat,r.1=(j:Int)/\j<=n.length/\(r.2=UV->j=0))/\p5 F p n long=W0 r/\tC F p n long=W0 r:=by
 have hv:=PB F p hF hp hit;rw[<-Ir F p hF hp hit]at hv;have alA:=λit h=>hit it (List.mem_reverse.1 h);have hlr:p.reverse.length=p.length:=List.length_reverse;have hvr:=PB F p.reverse (by rw[hlr];exact hF) (by rw[hlr];exact hp) alA;rw[<-Ir F p.reverse (by rw[hlr];exact hF) (by rw[hlr];exact hp) alA]at hvr;refine⟨_,?_,?_,ag5 F p n long hF rD hn hp hit hv⟩
 ·obtain⟨j,h1,h2,h3⟩:=acm long (λk=>(!p.any (EN F))&&EE p (n.drop (n.length-k)) p.length (n.drop (n.length-k)).length) (n.length+1)
  grind
 ·unfold p5 wx
  rw[ai5 F p hp,aD,ag6 F p om hp,aD,mW om,Yt F p.reverse n.reverse long (by rw[hlr];exact hF) bp (by simpa using hn) (by rw[hlr];exact hp) alA hvr]
  grind[List.length_reverse,Jn,apY]
theorem ag7(F:Nat)(p:J aE)(n:Bs)(long:Bool)(hF:p.length+300<F)(rD:n.length+1<F)(hn:n.length<50000000)(hp:p.length<50000000)(hit:∀it∈p,nr it):
  ∃r:Int×Bool,(∃j:Nat,r.1=(j:Int)/\j<=n.length/\(r.2=UV->j=0))/\p6 F p n long=W0 r/\tD F p n long=W0 r:=by
 have hv:=PB F p hF hp hit;have ri:=hv;rw[<-Ir F p hF hp hit]at ri;refine⟨_,?_,?_,ag4 F p n long hF rD hn hp hit hv⟩
 ·obtain⟨j,h1,h2,h3⟩:=acm long (λk=>(!p.any (EN F))&&EE p n p.length k) (n.length+1)
  grind
 ·unfold p6 wx
  grind[Yt]
theorem anV(a b:Bs)(c:Int):nS (aB.mk (a++b) c)=nS (aB.mk a c)++nS (aB.mk b c):=by
 unfold nS
 grind
theorem alB(o:J aB)(r:aB):(rO o r).flatMap nS=o.flatMap nS++nS r:=by
 obtain⟨t,c⟩:=r;unfold rO
 cases h1:(t==[])with
 | true=>
  have:nS (aB.mk [] c)=[]:=by unfold nS;simp_all
  simp_all
 | false=>
  rw[aM]
  cases h2:(T1 (0<o.length)&&((o.getD (o.length-1) dw).aL==c))with
  | true=>
   rw[cH,eT]at h2;have hk:o.length-1<o.length:=om;have hc:=eq_of_beq h2.2
   have ho:o=o.take (o.length-1)++[o.getD (o.length-1) dw]:=by
    rw[gd hk,<-mh hk,show o.length-1+1=o.length by omega,vQ]
   rw[aY,alP,if_pos hk,show o.length-1+1=o.length by omega,KZ,aeY,List.flatMap_singleton,anV]
   conv=>rhs;rw[ho]
   rw[aeY,List.flatMap_singleton,vM]
   rw[<-hc]
  | false=>simp_all
theorem Yu:∀(l o:J aB),(l.foldl rO o).flatMap nS=o.flatMap nS++l.flatMap nS
 | [],o=>by simp
 | r::l,o=>by rw[vS,Yu l,alB,R9,vM]
theorem alC(F:Nat)(l:J aB)(hF:100000000<=F)(h1:l.length<=26000)(h2:bX l<=5000000):∃p,((∀it∈p,nr it)/\p.length<=5000000)/\iB F (oJ l)=W0 p/\kj F l=W0 p:=by
 obtain⟨p,hp1,hp2⟩:=afy F l om om om om;obtain⟨q,⟨g1,g2⟩,hq⟩:=acN F l om om om om;rw[hp1]at hq;obtain rfl:=rQ hq;refine⟨p,⟨g1,om⟩,?_,hp2⟩;obtain⟨j1,j2⟩:=Mh l [];have e0:bX ([]:J aB)=0:=rfl;have hj1:bX (oJ l)<=5000000:=by unfold oJ;omega
 have hj2:(oJ l).length<=26000:=by unfold oJ;grind
 rw[<-hp1];unfold iB wx;rw[K9 F l om om om om,K9 F (oJ l) om om om om];have:=Yu l [];rw[List.flatMap_nil,p9]at this;unfold oJ;rw[this]
theorem Xi(F:Nat)(hF:100000000<=F):VE F:=by
 intro op v l h6 h9 hv h1 h2;obtain⟨p,⟨g1,g2⟩,e1,e2⟩:=alC F l hF h1 h2;have hs:=λb=>ai6 F p v b om om om om g1;have hq:=λb=>ag7 F p v b om om om om g1;have sl0:sl v 0 (v.length:Int)=v:=by unfold sl;simp
 have hS:∀b,T2 (λa b:Bs=>a=b/\b.length<=v.length) ((p5 F p v b).bind λx3=>
  cond x3.2
  (rq ((T1 (0<=aC ((v.length:Int)-x3.1)))&&(T1 (aC ((v.length:Int)-x3.1)<=(v.length:Int)))) (W0 (sl v 0 (aC ((v.length:Int)-x3.1)))))
  (W0 v)) ((tC F p v b).bind λx2=>
  rq ((T1 (0<=aC ((v.length:Int)-x2.1)))&&(T1 (aC ((v.length:Int)-x2.1)<=(v.length:Int)))) (W0 (sl v 0 (aC ((v.length:Int)-x2.1))))):=by
  intro b;obtain⟨⟨i,f⟩,⟨j,rfl,h1,h2⟩,r1,r2⟩:=hs b;rw[r1,r2,aD,aD];rw[bN om,bZ om om]
  cases f with
  | true=>exact⟨_,_,⟨rfl,by unfold sl;simp⟩,rfl,rfl⟩
  | false=>
   refine⟨_,_,⟨?_,?_⟩,rfl,rfl⟩
   ·simp_all
   ·unfold sl;simp
 have hP:∀b,T2 (λa b:Bs=>a=b/\b.length<=v.length) ((p6 F p v b).bind λx4=>
  cond x4.2
  (rq ((T1 (0<=x4.1))&&((T1 (x4.1<=(v.length:Int)))&&(T1 ((v.length:Int)<=(v.length:Int))))) (W0 (sl v x4.1 (v.length:Int))))
  (W0 v)) ((tD F p v b).bind λx4=>
  rq ((T1 (0<=x4.1))&&((T1 (x4.1<=(v.length:Int)))&&(T1 ((v.length:Int)<=(v.length:Int))))) (W0 (sl v x4.1 (v.length:Int)))):=by
  intro b;obtain⟨⟨i,f⟩,⟨j,rfl,h1,h2⟩,r1,r2⟩:=hq b;rw[r1,r2,aD,aD];rw[cq (by simp_all)]
  cases f with
  | true=>exact⟨_,_,⟨rfl,by unfold sl;simp⟩,rfl,rfl⟩
  | false=>
   obtain rfl:=h2 rfl;refine⟨_,_,⟨?_,?_⟩,rfl,rfl⟩
   ·exact sl0.symm
   ·unfold sl;simp
 have jjl:∀ {σ R:Type}(a:σ)(G:σ->O R),jj (W0 (.inl a)) G=G a:=λ_ _=>rfl;have jjr:∀ {σ R:Type}(a:R)(G:σ->O R),jj (W0 (.inr a)) G=W0 a:=λ_ _=>rfl;have hd:∀b,T2 (λa b:Bs=>a=b/\b.length<=v.length) (jj (σ:=Bool) (R:=Bs) (jj (σ:=Bool) (R:=Bool ⊕ Bs) (W0 (.inl b)) λx2=>
  (p5 F p v x2).bind λx3=>
  cond x3.2
  (rq ((T1 (0<=aC ((v.length:Int)-x3.1)))&&(T1 (aC ((v.length:Int)-x3.1)<=(v.length:Int)))) (W0 (.inr (sl v 0 (aC ((v.length:Int)-x3.1))))))
  (W0 (.inr v))) λx1=>
  (p6 F p v x1).bind λx4=>
  cond x4.2
  (rq ((T1 (0<=x4.1))&&((T1 (x4.1<=(v.length:Int)))&&(T1 ((v.length:Int)<=(v.length:Int))))) (W0 (sl v x4.1 (v.length:Int))))
  (W0 v)) ((tC F p v b).bind λx2=>
  rq ((T1 (0<=aC ((v.length:Int)-x2.1)))&&(T1 (aC ((v.length:Int)-x2.1)<=(v.length:Int)))) (W0 (sl v 0 (aC ((v.length:Int)-x2.1))))):=by
  intro b;rw[jjl];have:=hS b;obtain⟨r,-,r1,-⟩:=hs b;rw[r1,aD]at this⊢
  cases h:r.2 with
  | false=>simp_all
  | true=>
   rw[h,aY]at this;unfold rq at this⊢
   cases h3:((T1 (0<=aC ((v.length:Int)-r.1)))&&(T1 (aC ((v.length:Int)-r.1)<=(v.length:Int))))with
   | true=>simp_all
   | false=>rw[h3]at this;exact this
 unfold FZ FQ wx
 grind
theorem acn(l:J aB)(k:Nat):bX (l.take k)<=bX l:=by
 have:=Gc (l.take k) (l.drop k);rw[KY]at this;omega
def lZ(r:aB):J aX:=cond (r.aL==3) [aX.mk [] 3] (cond (r.aL==0||(r.aL==1||r.aL==2)) (cond (r.fText==[]&&r.aL==1) [aX.mk [] 1] []++r.fText.map λb=>aX.mk [b] r.aL) [])
theorem anW(r:aB):(lZ r).length<=r.fText.length+1:=by
 unfold lZ;cases (r.aL==3)<;>cases (r.aL==0||(r.aL==1||r.aL==2))<;>cases (r.fText==[]&&r.aL==1)<;>simp
theorem KW(l:J aB):(l.flatMap lZ).length<=bX l+l.length:=by
 induction l with
 | nil=>simp[bX]
 | cons a l ih=>have:=anW a;simp only[R9,vi,qL];simp[bX]at ih⊢;omega
theorem aeu{s:Bs}{i:Nat}(h:i<s.length):sl s (i:Int) ((i+1:Nat):Int)=[s[i]]:=by
 unfold sl;rw[b9,b9,mh h,List.drop_append_of_le_length (by rw[As];omega),Y8 (by rw[As];omega)];rfl
theorem arw(F:Nat)(l:J aB)(hF:l.length+bX l<F)(h1:l.length<=100000000)(h2:bX l<=100000000):tK F l=W0 (l.flatMap lZ):=by
 have:aA (λr=>r=l.flatMap lZ) (tK F l):=by
  unfold tK wx;refine aA.lp (λz:J aX×Int=>∃k:Nat,z.2=(k:Int)/\k<=l.length/\z.1=(l.take k).flatMap lZ) (λz=>l.length-z.2.toNat) ⟨0,rfl,om,si⟩ (by show l.length-0<F;omega) ?_;rintro⟨o,_⟩ ⟨k,rfl,h3,h4⟩ rc hrc;dsimp only at h4 hrc⊢;refine aA.cd (λh=>?_) λh=>aA.ok (by rw[h4,vN om]);have hk:k<l.length:=om;have hm:l.length-Int.toNat ((k+1:Nat):Int)<l.length-Int.toNat (k:Int):=om;have e1:(l.take (k+1)).flatMap lZ=o++lZ l[k]:=by rw[h4,II _ _ _ hk]
  have ho:o.length<=bX l+l.length:=by
   have:=KW (l.take k);have h5:=acn l k;rw[<-h4,As]at this;omega
  have ht:l[k].fText.length<=bX l:=Qb (iJ hk);rw[bZ om om,bz (i:=k) om,b9,gd hk];generalize l[k]=r at e1 ht;obtain⟨q,hq⟩:∃q,q=lZ r:=⟨_,rfl⟩;rw[<-hq]at e1;unfold lZ at hq
  cases c3:(r.aL==3)with
  | true=>
   rw[c3,aY]at hq;subst hq
   exact aA.rq (pI (by show o.length+1<=_;omega) de) (hrc _ ⟨k+1,rfl,hk,e1.symm⟩ hm)
  | false=>
   rw[c3,aM]at hq;simp only[aH,aD,aM]
   have ec:(cond (r.aL==0) (r.aL==0) (cond (r.aL==1) (r.aL==1) (r.aL==2)))=(r.aL==0||(r.aL==1||r.aL==2)):=by
    cases (r.aL==0)<;>cases (r.aL==1)<;>rfl
   rw[ec]
   cases cc:(r.aL==0||(r.aL==1||r.aL==2))with
   | false=>rw[cc,aM]at hq;subst hq;exact hrc _ ⟨k+1,rfl,hk,by rw[e1];simp⟩ hm
   | true=>
    rw[cc,aY]at hq;subst hq;simp only[aY];have ed:(cond (r.fText==[]) (r.aL==1) UV)=(r.fText==[]&&r.aL==1):=by cases (r.fText==[])<;>rfl
    rw[ed];refine aA.bd (P:=λo':J aX=>o'=o++cond (r.fText==[]&&r.aL==1) [aX.mk [] 1] []) ?_ ?_
    ·cases (r.fText==[]&&r.aL==1)with
     | true=>exact aA.rq (pI (by show o.length+1<=_;omega) de) (aA.ok rfl)
     | false=>exact aA.ok si
    ·rintro o' ho'
     have hol:o'.length<=o.length+1:=by rw[ho'];cases (r.fText==[]&&r.aL==1)<;>simp
     refine aA.lp (λz:J aX×Int=>∃i:Nat,z.2=(i:Int)/\i<=r.fText.length/\z.1=o'++(r.fText.take i).map λb=>aX.mk [b] r.aL) (λz=>r.fText.length-z.2.toNat) ⟨0,rfl,om,si⟩ (by show r.fText.length-0<F;omega) ?_;rintro⟨o2,_⟩ ⟨i,rfl,i1,i2⟩ rc' pH;dsimp only at i2 pH⊢;have hl2:o2.length<=o'.length+r.fText.length:=by rw[i2];simp;omega
     refine aA.cd (λh=>?_) λh=>hrc _ ⟨k+1,rfl,hk,by rw[e1];show o2=_;rw[i2,ho',vN om,vM]⟩ hm;have hi:i<r.fText.length:=om;rw[bz om,vV om om om,aeu hi];exact aA.rq (pI (by show o2.length+1<=_;omega) de) (pH _ ⟨i+1,rfl,om,by show o2++_=_;rw[i2,mh hi,vj,vM];rfl⟩ (by show r.fText.length-Int.toNat ((i+1:Nat):Int)<r.fText.length-Int.toNat (i:Int);omega))
 obtain⟨r,h,e⟩:=this;rw[e,h]
def Fe(l:J aX):Bs:=l.flatMap λe=>e.dh
theorem arx(F:Nat)(l:J aX)(hF:l.length<F)(h1:l.length<=100000000)(h2:∀e∈l,e.dh.length<=1):ym F l=W0 (Fe l):=by
 have hb:∀k,(Fe (l.take k)).length<=k:=λk=>by
  unfold Fe;rw[List.length_flatMap]
  have:∀m:J aX,(∀e∈m,e.dh.length<=1)->(m.map λa=>a.dh.length).sum<=m.length:=λm=>by
   induction m with
   | nil=>simp
   | cons a m ih=>intro h;have:=h a qK;have:=ih λe he=>h e (ku _ he);simp;omega
  have:=this (l.take k) λe he=>h2 e (R3 he);rw[As]at this;omega
 have:aA (λr=>r=Fe l) (ym F l):=by
  unfold ym wx;refine aA.lp (λx:Int×Bool×J Int=>∃k:Nat,x.1=(k:Int)/\k<=l.length/\x.2.2=cV (Fe (l.take k))) (λx=>l.length-x.1.toNat) ⟨0,rfl,om,by simp[Fe,cV]⟩ (by show l.length-0<F;omega) ?_;rintro⟨_,c,buf⟩ ⟨k,rfl,h3,h4⟩ rc hrc;dsimp only at h4 hrc⊢;have GJ:buf.length<=k:=by rw[h4,cV,mg];exact hb k
  refine aA.cd (λh=>?_) λh=>?_
  ·have hk:k<l.length:=om
   have hx:=h2 _ (iJ hk);rw[bZ om om,b9,gd hk,aoG F _ c buf om,aD,bz om];refine hrc _ ⟨k+1,rfl,hk,?_⟩ (by show l.length-Int.toNat ((k+1:Nat):Int)<l.length-Int.toNat (k:Int);omega);show buf++cV l[k].dh=_;unfold Fe;rw[h4,II _ _ _ hk];simp[cV,Fe]
  ·rw[vN om]at h4
   subst h4;have:(cV (Fe l)).length<=k:=GJ;unfold kS wx;rw[cq (by rw[ei rfl,XA,ei om];rfl),Sn];exact aA.ok rfl
 obtain⟨r,h,e⟩:=this;rw[e,h]
def Mj(s:Bs)(b:UInt8)(c:Int):Int:=cond (c==2&&s.contains b) (cond (b==32||(b==9||b==10)) 1 2) 0
def iI(s:Bs)(e:aX):Int:=cond (e.dh==[]) (cond (e.dD==3) 3 0) (Mj s (e.dh.getD 0 0) e.dD)
def R2(s:Bs)(e:aX):bH:=bH.mk e.dh e.dD (iI s e)
theorem ary(F:Nat)(b:UInt8)(c:Int)(s:Bs)(hF:s.length<F)(hs:s.length<=100000):FR F (b.toNat:Int) c s=W0 (Mj s b c):=by
 unfold FR Mj wx;simp only[bne]
 cases hc:(c==2)with
 | false=>rfl
 | true=>
  rw[jd,aM,Jq];refine cG (λi:Int=>∃n:Nat,i=(n:Int)/\n<=s.length/\(s.drop n).contains b=s.contains b) (λi=>s.length-i.toNat) ?_ F _ ⟨0,rfl,om,si⟩ bp;rintro _ ⟨n,rfl,hn,hd⟩;by_cases hk:n<s.length
  ·have e1:((((s.getD (Ts (n:Int)) 0).toNat:Int))==(b.toNat:Int))=(s[n]==b):=by
    rw[b9,gd hk];have:((s[n].toNat:Int)=(b.toNat:Int))↔s[n]=b:=⟨λh=>aeX.1 om,λh=>by rw[h]⟩;by_cases h:s[n]=b
    ·rw[h];simp
    ·rw[gH.2 h,gH.2 λh'=>h (this.1 h')]
   rw[ua hk,Zr]at hd;have hcm:(b==s[n])=(s[n]==b):=ae1
   cases hb:(s[n]==b)with
   | true=>
    right;intro rc;rw[hcm,hb,Bool.true_or]at hd;rw[cC om,bR hk,bR hk,e1,hb,<-hd];simp only[aY,aH,aD,pF b 32 om,pF b 9 om,pF b 10 om]
    cases (b==32)<;>cases (b==9)<;>cases (b==10)<;>rfl
   | false=>
    left;rw[hcm,hb,R6]at hd;refine⟨_,⟨n+1,rfl,hk,hd⟩,bp,λrc=>?_⟩;rw[cC om,bR hk,bR hk,e1,hb,cy om];rfl
  ·right
   intro rc;rw[cf om,<-hd,Tn om];rfl
theorem apZ(s:Bs)(r:aB):∀e∈lZ r,(e.dh=[]/\(e.dD=3\/e.dD=1))\/∃b,e.dh=[b]/\e.dD=r.aL/\(e.dD==3)=UV:=by
 intro e he;unfold lZ at he
 cases c3:(r.aL==3)with
 | true=>rw[c3]at he;obtain rfl:=vk.1 he;exact .inl ⟨rfl,.inl rfl⟩
 | false=>
  rw[c3,aM]at he
  cases cc:(r.aL==0||(r.aL==1||r.aL==2))with
  | false=>rw[cc]at he;cases he
  | true=>
   rw[cc,aY]at he;rcases p8.1 he with he|he
   ·cases hh:(r.fText==[]&&r.aL==1)with
    | false=>rw[hh]at he;cases he
    | true=>rw[hh]at he;obtain rfl:=vk.1 he;exact .inl ⟨rfl,.inr rfl⟩
   ·obtain⟨b,-,rfl⟩:=oK.1 he
    exact .inr ⟨b,rfl,rfl,c3⟩
def WE(e:aX):Prop:=(e.dh=[]/\(e.dD=3\/e.dD=1))\/∃b,e.dh=[b]/\(e.dD==3)=UV
theorem ai7(l:J aB):∀e∈l.flatMap lZ,WE e:=λe he=>by
 obtain⟨r,-,h⟩:=Th.1 he;rcases apZ [] r e h with h|⟨b,h1,-,h2⟩
 ·exact .inl h
 ·exact .inr ⟨b,h1,h2⟩
theorem alD(F:Nat)(s:Bs){e:aX}(h:WE e):oH F e s=W0 (iI s e==1||iI s e==2):=by
 unfold oH iI Mj wx;rcases h with⟨h1,h2⟩|⟨b,h1,h2⟩
 ·rcases h2 with h2|h2<;>rw[h1,h2]<;>rfl
 ·rw[h1]
  have hx:strings_Contains F s [b]=W0 (s.contains b):=by
   unfold strings_Contains strings_Index stringslite_Index stringslite_IndexByte q9 Xo wx
   have e1:cond (([b]:Bs)==s) 0 (Lib.indexByte s b)=Lib.indexByte s b:=by
    cases hb:(([b]:Bs)==s)with
    | false=>rfl
    | true=>rw[<-eq_of_beq hb];unfold Lib.indexByte;simp
   rw[<-K.Ww];simp only[aH,aD];rw[show((([b]:Bs).length:Int)==0)=UV from rfl,show((([b]:Bs).length:Int)==1)=WF from rfl,mW si];simp only[aM,aY,aD];have e2:(((([b]:Bs).getD 0 0).toNat:Int)).toNat.toUInt8=b:=by simp
   rw[e2,aH,aD,e1];rfl
  rw[hx,show(([b]:Bs)==[])=UV from rfl,show([b]:Bs).getD 0 0=b from rfl];cases (e.dD==2)
  ·rfl
  ·cases s.contains b
   ·rfl
   ·cases (b==32||(b==9||b==10))<;>rfl
theorem aco(F:Nat)(s:Bs){e:aX}(h:WE e):vf F e s=W0 (iI s e==1):=by
 unfold vf wx;rw[alD F s h,aD];unfold iI Mj;rcases h with⟨h1,h2⟩|⟨b,h1,h2⟩
 ·rcases h2 with h2|h2<;>rw[h1,h2]<;>rfl
 ·rw[h1,show(([b]:Bs)==[])=UV from rfl,show([b]:Bs).getD 0 0=b from rfl]
  have e1:∀c:UInt8,(([b]:Bs)==[c])=(b==c):=λc=>by simp
  rw[e1,e1,e1];cases (e.dD==2)
  ·rfl
  ·cases s.contains b
   ·rfl
   ·cases (b==32)<;>cases (b==9)<;>cases (b==10)<;>rfl
theorem arz(F:Nat)(l:J aB)(s:Bs)(hF:l.length+bX l+200000<F)(h1:l.length<=100000000)(h2:bX l<=100000000)(hs:s.length<=100000):tF F l s=W0 ((l.flatMap lZ).map (R2 s)):=by
 have:aA (λr=>r=(l.flatMap lZ).map (R2 s)) (tF F l s):=by
  unfold tF wx;refine aA.lp (λz:J bH×Int=>∃k:Nat,z.2=(k:Int)/\k<=l.length/\z.1=((l.take k).flatMap lZ).map (R2 s)) (λz=>l.length-z.2.toNat) ⟨0,rfl,om,si⟩ (by show l.length-0<F;omega) ?_;rintro⟨o,_⟩ ⟨k,rfl,h3,h4⟩ rc hrc;dsimp only at h4 hrc⊢;refine aA.cd (λh=>?_) λh=>aA.ok (by rw[h4,vN om]);have hk:k<l.length:=om;have hm:l.length-Int.toNat ((k+1:Nat):Int)<l.length-Int.toNat (k:Int):=om;have e1:((l.take (k+1)).flatMap lZ).map (R2 s)=o++(lZ l[k]).map (R2 s):=by rw[h4,II _ _ _ hk,vj]
  have ho:o.length<=bX l+l.length:=by
   have:=KW (l.take k);have h5:=acn l k;rw[h4,mg];rw[As]at this;omega
  have ht:l[k].fText.length<=bX l:=Qb (iJ hk);rw[bZ om om,bz (i:=k) om,b9,gd hk];generalize l[k]=r at e1 ht;obtain⟨q,hq⟩:∃q,q=lZ r:=⟨_,rfl⟩;rw[<-hq]at e1;unfold lZ at hq
  cases c3:(r.aL==3)with
  | true=>
   rw[c3,aY]at hq;subst hq;have h3:=eq_of_beq c3;rw[h3]
   exact aA.rq (pI (by show o.length+1<=_;omega) de) (hrc _ ⟨k+1,rfl,hk,e1.symm⟩ hm)
  | false=>
   rw[c3,aM]at hq;simp only[aH,aD,aM]
   cases hb:(r.fText==[]&&r.aL==1)with
   | true=>
    rw[hb]at hq;obtain⟨b1,b2⟩:=(cH _ _).mp hb;rw[b1,b2,aY,aY];have h1:=eq_of_beq b2;have h0:=eq_of_beq b1;rw[h1]at hq⊢;rw[h0]at hq;subst hq
    exact aA.rq (pI (by show o.length+1<=_;omega) de) (hrc _ ⟨k+1,rfl,hk,e1.symm⟩ hm)
   | false=>
    have nP:cond (r.aL==1) (r.fText==[]) UV=UV:=by
     rw[<-hb];cases (r.aL==1)<;>cases (r.fText==[])<;>rfl
    have o9:cond (cond (r.aL==0) WF (r.aL==1)) WF (r.aL==2)=(r.aL==0||(r.aL==1||r.aL==2)):=by
     cases (r.aL==0)<;>cases (r.aL==1)<;>rfl
    rw[hb,aM,p9]at hq;rw[nP,aM,o9]
    cases cc:(r.aL==0||(r.aL==1||r.aL==2))with
    | false=>rw[cc,aM]at hq;subst hq;exact hrc _ ⟨k+1,rfl,hk,by rw[e1];simp⟩ hm
    | true=>
     rw[cc,aY]at hq;subst hq;rw[aY];refine aA.lp (λz:J bH×Int=>∃i:Nat,z.2=(i:Int)/\i<=r.fText.length/\z.1=o++((r.fText.take i).map λb=>aX.mk [b] r.aL).map (R2 s)) (λz=>r.fText.length-z.2.toNat) ⟨0,rfl,om,si⟩ (by show r.fText.length-0<F;omega) ?_;rintro⟨o2,_⟩ ⟨i,rfl,i1,i2⟩ rc' pH;dsimp only at i2 pH⊢;have hl2:o2.length<=o.length+r.fText.length:=by rw[i2];simp;omega
     refine aA.cd (λh=>?_) λh=>hrc _ ⟨k+1,rfl,hk,by rw[e1];show o2=_;rw[i2,vN om]⟩ hm;have hi:i<r.fText.length:=om;rw[bz om,vV om om om,bZ om om,b9,gd hi,ary F r.fText[i] r.aL s om hs,aD,aeu hi];refine aA.rq (pI (by show o2.length+1<=_;omega) de) (pH _ ⟨i+1,rfl,om,?_⟩ (by show r.fText.length-Int.toNat ((i+1:Nat):Int)<r.fText.length-Int.toNat (i:Int);omega));show o2++_=_;rw[i2,mh hi,vj,vj,vM];rfl
 obtain⟨r,h,e⟩:=this;rw[e,h]
def nX{α:Type}(f:J (J α))(n:J α):J (J α):=match n with | []=>f|a::t=>f++[a::t]
def dS{α:Type}(k:α->Int):Nat->J α->J (J α)->J α->J (J α)
 | _,[],f,n=>nX f n
 | m,x::l,f,n=>cond (k x==1) (dS k (cond (m==2) 2 1) l f n) (cond (k x==2) (dS k 2 l (f++[n]) []) (cond (m==1) (cond (k x==3) (dS k 0 l (nX f n) []) (dS k 0 l (nX f n) [x])) (cond (k x==3) (dS k 0 l (nX f n) []) (dS k 0 l f (n++[x])))))
variable{α:Type}
theorem acp{β:Type}(g:α->β)(f:J (J α))(n:J α):nX (f.map (List.map g)) (n.map g)=(nX f n).map (List.map g):=by cases n<;>simp[nX]
theorem ai8{α β:Type}(k:α->Int)(k':β->Int)(g:α->β):∀(l:J α)(m:Nat)(f:J (J α))(n:J α),(∀x∈l,k' (g x)=k x)->dS k' m (l.map g) (f.map (List.map g)) (n.map g)=(dS k m l f n).map (List.map g)
 | [],m,f,n,h=>by simp only[Nu,dS];exact acp g f n
 | x::l,m,f,n,h=>by
  have hx:=h x qK;have ih:=λm f n=>ai8 k k' g l m f n λy hy=>h y (ku _ hy);have i1:=ih 2 (f++[n]) [];have i2:=ih 0 f (n++[x]);have i3:=ih 0 (nX f n) [];have i4:=ih 0 (nX f n) [x];simp only[vj,jY,Nu]at i1 i2 i3 i4;simp only[jY,dS,hx,ih,i1,i2,i3,i4,acp];cases (k x==1)<;>cases (k x==2)<;>cases (m==1)<;>cases (k x==3)<;>rfl
section
variable (k : α -> Int)
abbrev wE(x:α):Bool:=k x==1
theorem KX(m:Nat)(hm:m=1\/m=2):∀(l:J α)(f:J (J α))(n:J α),dS k m (l.dropWhile (wE k)) f n=dS k m l f n
 | [],f,n=>rfl
 | x::l,f,n=>by
  rw[K1]
  cases hx:wE k x with
  | false=>rfl
  | true=>
   rw[if_pos rfl,KX m hm l f n];simp only[dS];rw[show(k x==1)=WF from hx,aY];rcases hm with rfl|rfl<;>rfl
theorem ai9{l:J α}(h:∀x∈l.head?,(k x==1)=UV)(f:J (J α))(n:J α):dS k 2 l f n=dS k 0 l f n:=by
 cases l with
 | nil=>rfl
 | cons x l=>simp only[dS];rw[h x rfl];rfl
theorem QG{x:α}{l:J α}(hx:(k x==2)=WF)(m:Nat)(f:J (J α))(n:J α):dS k m (x::l) f n=dS k 2 l (f++[n]) []:=by
 have h1:(k x==1)=UV:=by rw[eq_of_beq hx];rfl
 simp only[dS];rw[h1,hx];rfl
theorem aja{l:J α}(h:∀x∈l.head?,(k x==1)=UV/\(k x==2)=UV)(f:J (J α))(n:J α):dS k 1 l f n=dS k 0 l (nX f n) []:=by
 cases l with
 | nil=>rfl
 | cons x l=>
  obtain⟨h1,h2⟩:=h x rfl;simp only[dS];rw[h1,h2];cases (k x==3)<;>rfl
theorem Jo(l:J α):∀x∈(l.dropWhile (wE k)).head?,(k x==1)=UV:=by
 induction l with
 | nil=>intro x hx;cases hx
 | cons a l ih=>
  rw[K1]
  cases ha:wE k a with
  | true=>rw[if_pos rfl];exact ih
  | false=>intro x hx;obtain rfl:=rQ hx;exact ha
end
theorem Mk(f:J (J α))(n:J α):(nX f n).length<=f.length+n.length:=by cases n<;>simp[nX]
theorem ajb{α:Type}(k:α->Int):∀(l:J α)(m:Nat)(f:J (J α))(n:J α),(dS k m l f n).length<=f.length+n.length+l.length
 | [],m,f,n=>by simp only[dS];exact Mk f n
 | x::l,m,f,n=>by
  have ih:=ajb k l;have he:=Mk f n;have i1:=ih 2 (f++[n]) [];have i2:=ih (cond (m==2) 2 1) f n;have i3:=ih 0 (nX f n) [];have i4:=ih 0 (nX f n) [x];have i5:=ih 0 f (n++[x]);simp only[vi,qL,Ax]at i1 i2 i3 i4 i5;simp only[dS,qL];cases (k x==1)<;>cases (k x==2)<;>cases (m==1)<;>cases (k x==3)<;>simp only[aY,aM]<;>omega
theorem ajc{α:Type}(k:α->Int)(μ:α->Nat)(K:Nat)(P:α->Prop):∀(l:J α)(m:Nat)(f:J (J α))(n:J α),(∀g∈f,(g.map μ).sum<=K/\∀x∈g,P x)->(n.map μ).sum+(l.map μ).sum<=K->(∀x∈n,P x)->(∀x∈l,P x)->∀g∈dS k m l f n,(g.map μ).sum<=K/\∀x∈g,P x
 | l,m,f,n,hf,hK,hn,hl=>by
  have he:∀g∈nX f n,(g.map μ).sum<=K/\∀x∈g,P x:=λg hg=>by
   cases n with
   | nil=>exact hf g hg
   | cons a t=>rcases p8.1 (show g∈f++[a::t]from hg)with hg|hg
               ·exact hf g hg
               ·obtain rfl:=vk.1 hg;exact⟨om,hn⟩
  cases l with
  | nil=>exact he
  | cons x l=>
   have hl':=λy hy=>hl y (ku x hy);have ih:=λm f n a b c=>ajc k μ K P l m f n a b c hl';simp only[jY,PK]at hK;have hx:=hl x qK;simp only[dS]
   cases (k x==1)with
   | true=>exact ih _ f n hf om hn
   | false=>
    cases (k x==2)with
    | true=>exact ih _ _ _ (λg hg=>by
      rcases p8.1 hg with hg|hg
      ·exact hf g hg
      ·obtain rfl:=vk.1 hg;exact⟨om,hn⟩) bp (λ_ h=>nomatch h)
    | false=>
     have g1:=ih 0 (nX f n) [] he bp (λ_ h=>nomatch h);have g2:=ih 0 (nX f n) [x] he bp (λy hy=>by obtain rfl:=vk.1 hy;exact hx)
     have g3:=ih 0 f (n++[x]) hf bp (λy hy=>by
      rcases p8.1 hy with hy|hy
      ·exact hn y hy
      ·obtain rfl:=vk.1 hy;exact hx)
     cases (m==1)<;>cases (k x==3)<;>assumption
theorem Xj(l:J α):(l.map λ_=>1).sum=l.length:=by
 induction l with
 | nil=>rfl
 | cons a l ih=>simp only[jY,PK,ih,qL];omega
theorem slA(l:J α)(f:Nat):sl l (f:Int) (l.length:Int)=l.drop f:=by simp[sl]
theorem slB(l:J α)(k:Nat):sl l 0 (k:Int)=l.take k:=by simp[sl]
theorem slC(l:J α):sl l 1 (l.length:Int)=l.drop 1:=slA l 1
theorem amu(F:Nat)(s:Bs)(l:J aX)(h:∀e∈l,WE e)(hF:l.length<F)(hl:l.length<=500000000):yj F l s=W0 (l.dropWhile (wE (iI s))):=by
 unfold yj wx;refine cG (λi:Int=>∃n:Nat,i=(n:Int)/\n<=l.length/\(l.drop n).dropWhile (wE (iI s))=l.dropWhile (wE (iI s))) (λi=>l.length-i.toNat) ?_ F _ ⟨0,rfl,om,rfl⟩ bp;rintro _ ⟨n,rfl,hn,hd⟩;have hR:∀x:O (J aX),rq ((T1 (0<=(n:Int)))&&((T1 ((n:Int)<=(l.length:Int)))&&((T1 ((l.length:Int)<=(l.length:Int)))&&(T1 ((l.length:Int)<=(l.length:Int)))))) x=x:=λx=>cq (by rw[dT om,dT om,dT om];rfl);by_cases hk:n<l.length
 ·rw[ua hk,K1]at hd
  have hw:=aco F s (h _ (iJ hk))
  cases hb:wE (iI s) l[n]with
  | true=>
   left;rw[hb,if_pos rfl]at hd;refine⟨_,⟨n+1,rfl,hk,hd⟩,bp,λrc=>?_⟩
   rw[cC om,bR hk,b9,gd hk,hw,aD,aD,show(iI s l[n]==1)=WF from hb,aY,cy om]
  | false=>
   right;intro rc;rw[hb]at hd;rw[cC om,bR hk,b9,gd hk,hw,aD,aD,show(iI s l[n]==1)=UV from hb,aM,hR,slA,<-hd,ua hk];rfl
 ·right
  intro rc;rw[cf om,aD,aM,hR,slA,<-hd,Tn om];rfl
theorem asY(F:Nat)(s:Bs)(l:J aX)(h:∀e∈l,WE e):yl F l s=W0 (l.head?.any λx=>iI s x==2):=by
 unfold yl wx
 cases l with
 | nil=>rfl
 | cons x l=>
  have hx:=h x qK;rw[cC si,mW si,mW si,show(x::l).getD 0 mc=x from rfl,alD F s hx,aco F s hx];have:(iI s x==1)=WF->(iI s x==2)=UV:=λh=>by rw[eq_of_beq h];rfl
  show(cond (iI s x==1||iI s x==2) (W0 (!(iI s x==1))) (W0 UV):O Bool).bind _=W0 (iI s x==2)
  cases h1:(iI s x==1)with
  | true=>rw[this h1];rfl
  | false=>cases (iI s x==2)<;>rfl
theorem ag8(F:Nat)(f:J (J aX))(n:J aX)(hf:f.length<=100000000):nF F UV n f=W0 ([],nX f n):=by
 unfold nF nX wx
 cases n with
 | nil=>rfl
 | cons a t=>
  rw[aM,aD,dT si,aY,ez (by show f.length+1<=_;omega) de]
theorem arA(F:Nat)(f:J (J aX))(n:J aX)(hf:f.length<=100000000):nF F WF n f=W0 ([],f++[n]):=by
 unfold nF wx;rw[aY,aD,aY,ez (by show f.length+1<=_;omega) de]
theorem kd3{s:Bs}{e:aX}(h:WE e):(e.dD==3)=(iI s e==3):=by
 unfold iI Mj;rcases h with⟨h1,h2⟩|⟨b,h1,h2⟩
 ·rcases h2 with h2|h2<;>rw[h1,h2]<;>rfl
 ·rw[h1,h2,show(([b]:Bs)==[])=UV from rfl]
  cases (e.dD==2&&s.contains (([b]:Bs).getD 0 0))<;>cases (([b]:Bs).getD 0 0==32||(([b]:Bs).getD 0 0==9||([b]:Bs).getD 0 0==10))<;>rfl
theorem anX(F:Nat)(s:Bs)(l:J aX)(h:∀e∈l,WE e)(hF:l.length<F)(hl:l.length<=50000000):xB F l s=W0 (dS (iI s) 0 l [] []):=by
 have:aA (λr=>r=dS (iI s) 0 l [] []) (xB F l s):=by
  unfold xB wx;refine aA.lp (λz:J aX×J (J aX)×J aX=>(∀x∈z.1,WE x)/\z.1.length+z.2.1.length+z.2.2.length<=l.length/\dS (iI s) 0 z.1 z.2.1 z.2.2=dS (iI s) 0 l [] []) (λz=>z.1.length) ⟨h,si,rfl⟩ hF ?_;rintro⟨m,f,n⟩ ⟨h1,h2,h3⟩ rc hrc;dsimp only at h1 h2 h3 hrc⊢;have hel:=Mk f n
  cases m with
  | nil=>
   rw[cf si,ag8 F f n om]
   exact aA.ok h3
  | cons x m=>
   have hx:=h1 x qK;have hm:=λy hy=>h1 y (ku x hy);simp only[qL]at h2 hrc;have hlen:((x::m:J aX).length:Int)=(m.length:Int)+1:=by simp
   have hdw:=(ae2 (wE (iI s)) (l:=m)).length_le;have T9:∀y∈m.dropWhile (wE (iI s)),WE y:=λy hy=>hm y ((ae2 _).subset hy);rw[cC om,mW om,show(x::m).getD 0 mc=x from rfl,slC,show(x::m).drop 1=m from rfl,aco F s hx,alD F s hx,kd3 (s:=s) hx];simp only[dS]at h3
   cases k3:(iI s x==3)with
   | true=>
    have e3:=eq_of_beq k3;rw[e3]at h3;rw[aY,ag8 F f n om,aD,vV om om om]
    exact hrc _ ⟨hm,bp,h3⟩ si
   | false=>
    rw[k3]at h3;rw[aM,aD,aD]
    cases k1:(iI s x==1)with
    | true=>
     rw[k1,aY]at h3
     have hsk:yj F (x::m) s=W0 (m.dropWhile (wE (iI s))):=by
      rw[amu F s _ h1 bp bp,K1,show wE (iI s) x=WF from k1,if_pos rfl]
     have h3':dS (iI s) 1 (m.dropWhile (wE (iI s))) f n=dS (iI s) 0 l [] []:=by rw[KX (iI s) 1 (.inl rfl)];exact h3
     have hdh:=Jo (iI s) m;rw[aY,hsk,aD,asY F s _ T9,aD];generalize m.dropWhile (wE (iI s))=r at h3' hdh hdw T9
     cases hr:(r.head?.any λx=>iI s x==2)with
     | true=>
      refine hrc _ ⟨T9,by dsimp only;omega,?_⟩ (by dsimp only;omega)
      cases r with
      | nil=>cases hr
      | cons y r=>rw[QG _ hr]at h3';exact(QG _ hr 0 f n).trans h3'
     | false=>
      rw[qM,aY,ag8 F f n om,aD];refine hrc _ ⟨T9,bp,?_⟩ (by dsimp only;omega);rw[aja]at h3'
      ·exact h3'
      ·intro y hy
       refine⟨hdh y hy,?_⟩
       cases r with
       | nil=>cases hy
       | cons z r=>obtain rfl:=rQ hy;exact hr
    | false=>
     rw[k1,aM]at h3
     cases k2:(iI s x==2)with
     | true=>
      rw[k2,aY]at h3;rw[aM,R6,aY,arA F f n om,aD,bZ om om,amu F s m hm om om,aD];refine hrc _ ⟨T9,bp,?_⟩ (by dsimp only;omega);rw[<-KX (iI s) 2 (.inr rfl),ai9]at h3
      ·exact h3
      ·exact Jo (iI s) m
     | false=>
      rw[k2]at h3;rw[aM,Bool.or_self,aM,ez (by show n.length+1<=_;omega) de,vV om om om];exact hrc _ ⟨hm,bp,h3⟩ si
 obtain⟨r,h,e⟩:=this;rw[e,h]
theorem amv(F:Nat)(l:J bH)(a:Nat)(hF:l.length<F)(hl:l.length<=500000000)(ha:a<=l.length):∃e:Nat,a<=e/\e<=l.length/\l.drop e=(l.drop a).dropWhile (wE λx=>x.dN)/\yh F l (a:Int)=W0 (e:Int):=by
 have:aA (λr=>∃e:Nat,r=(e:Int)/\a<=e/\e<=l.length/\l.drop e=(l.drop a).dropWhile (wE λx=>x.dN)) (yh F l (a:Int)):=by
  unfold yh wx;refine aA.lp (λi:Int=>∃n:Nat,i=(n:Int)/\a<=n/\n<=l.length/\(l.drop n).dropWhile (wE λx=>x.dN)=(l.drop a).dropWhile (wE λx=>x.dN)) (λi=>l.length-i.toNat) ⟨a,rfl,eu _,ha,rfl⟩ bp ?_;rintro _ ⟨n,rfl,h1,h2,h3⟩ rc hrc;by_cases hk:n<l.length
  ·rw[ua hk,K1]at h3
   rw[cC om,bR hk,aD,b9,gd hk,cy om]
   cases hb:(l[n].dN==1)with
   | true=>
    rw[show wE (λx:bH=>x.dN) l[n]=WF from hb,if_pos rfl]at h3
    exact hrc _ ⟨n+1,rfl,om,hk,h3⟩ bp
   | false=>
    rw[show wE (λx:bH=>x.dN) l[n]=UV from hb]at h3;exact aA.ok ⟨n,rfl,h1,h2,by rw[ua hk];exact h3⟩
  ·rw[cf om]
   exact aA.ok ⟨n,rfl,h1,h2,by rw[<-h3,Tn om];rfl⟩
 obtain⟨r,⟨e,rfl,h1,h2,h3⟩,h⟩:=this;exact⟨e,h1,h2,h3,h⟩
theorem anY(F:Nat)(l:J bH)(hk:∀x∈l,x.dN=0\/x.dN=1\/x.dN=2\/x.dN=3)(hF:l.length<F)(hl:l.length<=50000000):xg F l=W0 (dS (λx=>x.dN) 0 l [] []):=by
 have:aA (λr=>r=dS (λx:bH=>x.dN) 0 l [] []) (xg F l):=by
  unfold xg wx;refine aA.lp (λz:J (J bH)×J bH×Int=>∃a:Nat,z.2.2=(a:Int)/\a<=l.length/\z.1.length+z.2.1.length<=a/\dS (λx:bH=>x.dN) 0 (l.drop a) z.1 z.2.1=dS (λx:bH=>x.dN) 0 l [] []) (λz=>l.length-z.2.2.toNat) ⟨0,rfl,om,si,rfl⟩ bp ?_;rintro⟨f,n,_⟩ ⟨a,rfl,h1,h2,h3⟩ rc hrc;dsimp only at h2 h3 hrc⊢;have hel:=Mk f n
  have fin:∀(b:Bool)(e:Nat),(b=WF->dS (λx:bH=>x.dN) 0 (l.drop e) (f++[n]) []=dS (λx:bH=>x.dN) 0 l [] [])->(b=UV->n=[]/\dS (λx:bH=>x.dN) 0 (l.drop e) f []=dS (λx:bH=>x.dN) 0 l [] [])->a<e->e<=l.length ->
    aA (λr=>r=dS (λx:bH=>x.dN) 0 l [] []) (cond b (rq ((T1 (f.length+([n]:J (J bH)).length<=9223372036854775807))&&(T1 ((f.length+([n]:J (J bH)).length)*24<=140737488355328))) (rc (f++([n]:J (J bH)),([]:J bH),(e:Int)))) (rc (f,n,(e:Int)))):=by
   intro b e vW nP he hle
   cases b with
   | true=>
    rw[aY,ez (by show f.length+1<=_;omega) de]
    exact hrc _ ⟨e,rfl,hle,bp,vW rfl⟩ bp
   | false=>
    obtain⟨h0,h4⟩:=nP rfl;rw[aM];subst h0;exact hrc _ ⟨e,rfl,hle,by simp at h2⊢;omega,h4⟩ bp
  have OP:∀e:Nat,dS (λx:bH=>x.dN) 0 (l.drop e) (nX f n) []=dS (λx:bH=>x.dN) 0 l [] []->(T1 (0<(n.length:Int))=WF->dS (λx:bH=>x.dN) 0 (l.drop e) (f++[n]) []=dS (λx:bH=>x.dN) 0 l [] [])/\(T1 (0<(n.length:Int))=UV->n=[]/\dS (λx:bH=>x.dN) 0 (l.drop e) f []=dS (λx:bH=>x.dN) 0 l [] []):=by
   intro e he
   cases n with
   | nil=>exact⟨λh=>by simp at h,λ_=>⟨rfl,he⟩⟩
   | cons y n=>exact⟨λ_=>he,λh=>by simp at h⟩
  by_cases VF:a<l.length
  ·have hda:=ua VF
   have Ru:=hk _ (iJ VF);rw[cC om,bR VF,b9,gd VF]
   cases k0:(l[a].dN==0)with
   | true=>
    have e0:=eq_of_beq k0;rw[aY,bR VF,ez (by show n.length+1<=_;omega) de,cy om];refine hrc _ ⟨a+1,rfl,VF,bp,?_⟩ bp;rw[<-h3,hda];simp only[dS]
    rw[e0];rfl
   | false=>
    obtain⟨e,e1,e2,e3,e4⟩:=amv F l a hF om om;rw[aM,e4,aD]
    have hw:a<e->dS (λx:bH=>x.dN) 1 (l.drop e) f n=dS (λx:bH=>x.dN) 0 l [] []:=by
     intro hlt;rw[hda,K1]at e3
     cases hb:wE (λx:bH=>x.dN) l[a]with
     | true=>
      rw[hb,if_pos rfl]at e3;rw[e3,KX _ 1 (.inl rfl),<-h3,hda];simp only[dS]
      rw[show(l[a].dN==1)=WF from hb];rfl
     | false=>
      rw[hb]at e3;have:=congrArg List.length e3;simp at this;omega
    have hnw:a=e->(l[a].dN==1)=UV:=by
     rintro rfl;rw[hda,K1]at e3
     cases hb:wE (λx:bH=>x.dN) l[a]with
     | true=>
      rw[hb,if_pos rfl]at e3;have h5:=congrArg List.length e3;have h6:=(ae2 (wE λx:bH=>x.dN) (l:=l.drop (a+1))).length_le;simp at h5 h6
      omega
     | false=>exact hb
    by_cases hmk:e<l.length/\(l.getD e mC).dN==2
    ·obtain⟨m1,m2⟩:=hmk
     obtain⟨g,g1,g2,g3,g4⟩:=amv F l (e+1) hF om om;rw[cC om,bR m1,aD,b9,m2,aY,cy om,g4,aD,aD];refine fin WF g (λ_=>?_) (λh=>nomatch h) om g2;rw[gd m1]at m2;have hde:=ua m1
     have h5:dS (λx:bH=>x.dN) 2 (l.drop (e+1)) (f++[n]) []=dS (λx:bH=>x.dN) 0 l [] []:=by
      rcases Nat.lt_or_eq_of_le e1 with hlt|heq
      ·have:=hw hlt
       rw[hde,QG _ m2]at this;exact this
      ·subst heq
       rw[hda,QG _ m2]at h3;exact h3
     rw[<-ai9,g3,KX _ 2 (.inr rfl)]
     ·exact h5
     ·rw[g3];exact Jo _ _
    ·have hnm:(cond (T1 ((e:Int)<(l.length:Int))) (rq ((T1 (0<=(e:Int)))&&(T1 ((e:Int)<(l.length:Int)))) (W0 (((l.getD (Ts (e:Int)) mC).dN)==2))) (W0 UV):Option Bool)=W0 UV:=by
      by_cases hlt:e<l.length
      ·rw[cC om,bR hlt,b9]
       congr 1
       cases hb:((l.getD e mC).dN==2)with
       | false=>rfl
       | true=>exact absurd ⟨hlt,hb⟩ hmk
      ·rw[cf om]
     rw[hnm,aD,aM];rcases Nat.lt_or_eq_of_le e1 with hlt|heq
     ·rw[show((e:Int)==(a:Int))=UV by simp;omega,aM,aD]
      have h5:=hw hlt;rw[aja]at h5
      ·obtain⟨q1,q2⟩:=OP e h5
       exact fin _ e q1 q2 hlt e2
      ·intro y hy
       have hh:=Jo (λx:bH=>x.dN) (l.drop a);rw[<-e3]at hh;refine⟨hh y hy,?_⟩
       cases hb:(y.dN==2)with
       | false=>rfl
       | true=>
        refine absurd ?_ hmk
        have hlt2:e<l.length:=by
         rcases Zu e l.length with h|h
         ·exact h
         ·rw[Tn h]at hy;cases hy
        rw[ua hlt2]at hy;obtain rfl:=rQ hy;exact⟨hlt2,by rw[gd hlt2];exact hb⟩
     ·subst heq
      rw[show((a:Int)==(a:Int))=WF by simp,aY,aD,cy om];have k1:=hnw rfl
      have k2:(l[a].dN==2)=UV:=by
       cases hb:(l[a].dN==2)with
       | false=>rfl
       | true=>exact absurd ⟨VF,by rw[gd VF];exact hb⟩ hmk
      have k3:l[a].dN=3:=by
       rcases Ru with h|h|h|h
       ·rw[h]at k0;cases k0
       ·rw[h]at k1;cases k1
       ·rw[h]at k2;cases k2
       ·exact h
      rw[hda]at h3;simp only[dS]at h3;rw[k3]at h3;obtain⟨q1,q2⟩:=OP (a+1) h3;exact fin _ (a+1) q1 q2 om VF
  ·obtain rfl:a=l.length:=om
   rw[KZ]at h3;simp only[dS]at h3;rw[cf om]
   cases n with
   | nil=>exact aA.ok h3
   | cons y n=>
    rw[dT si,aY,ez (by show f.length+1<=_;omega) de];exact aA.ok h3
 obtain⟨r,h,e⟩:=this;rw[e,h]
def stepG(o:J aB)(r:aB):J aB:=cond (T1 (0<o.length)&&((o.getD (o.length-1) dw).aL==r.aL)) (o.set (o.length-1) (aB.mk ((o.getD (o.length-1) dw).fText++r.fText) (o.getD (o.length-1) dw).aL)) (o++[r])
def rP(e:aX):aB:=aB.mk e.dh e.dD
def rR(e:bH):aB:=aB.mk e.dh e.dD
theorem Ml(o:J aB)(x r:aB):stepG (o++[x]) r=cond (x.aL==r.aL) (o++[aB.mk (x.fText++r.fText) x.aL]) (o++[x]++[r]):=by
 unfold stepG;have e1:(o++[x]).length-1=o.length:=by simp
 have e2:(o++[x]).getD o.length dw=x:=by simp
 rw[e1,e2,dT si,Jq,List.set_append_right _ _ (eu _),Nat.sub_self];rfl
theorem alE(o:J aB)(r:aB):bX (stepG o r)=bX o+r.fText.length/\(stepG o r).length<=o.length+1:=by
 rcases List.eq_nil_or_concat o with rfl|⟨p,x,rfl⟩
 ·simp[stepG,bX]
 ·rw[List.concat_eq_append,Ml]
  cases (x.aL==r.aL)<;>simp[Gc,bX]<;>omega
theorem Mm:∀(l o:J aB),bX (l.foldl stepG o)=bX o+bX l/\(l.foldl stepG o).length<=o.length+l.length
 | [],o=>by simp[bX]
 | r::l,o=>by
  obtain⟨h1,h2⟩:=Mm l (stepG o r);obtain⟨h3,h4⟩:=alE o r;rw[vS];have:bX (r::l)=r.fText.length+bX l:=by simp[bX]
  simp only[qL];omega
theorem PC:∀(g o:J aB)(t:Bs)(c:Int),(∀r∈g,r.aL=c)->g.foldl stepG (o++[aB.mk t c])=o++[aB.mk (t++fR g) c]
 | [],o,t,c,h=>by simp[fR]
 | r::g,o,t,c,h=>by
  have hr:=h r qK;rw[vS,Ml];dsimp only;rw[hr,show(c==c)=WF by simp,aY,PC g o _ c λx hx=>h x (ku _ hx)];unfold fR;rw[R9,vM]
theorem arB(F:Nat)(l:J bH)(h:∀e∈l,e.dh.length<=1)(hF:l.length<F)(hl:l.length<=50000000):FU F l=W0 ((l.map rR).foldl stepG []):=by
 unfold FU wx
 have hsz:∀m:J bH,(∀e∈m,e.dh.length<=1)->bX (m.map rR)<=m.length:=λm=>by
  induction m with
  | nil=>intro _;simp[bX]
  | cons a m ih=>
   intro hm;have h1:=hm a qK;have h2:=ih λe he=>hm e (ku _ he);have:bX ((a::m).map rR)=a.dh.length+bX (m.map rR):=by simp[bX,rR]
   simp only[qL];omega
 refine cG (λz:Int×J aB=>∃k:Nat,z=((k:Int),((l.take k).map rR).foldl stepG [])/\k<=l.length) (λz=>l.length-z.1.toNat) ?_ F _ ⟨0,rfl,om⟩ bp;rintro _ ⟨k,rfl,hk⟩;dsimp only;by_cases hk:k<l.length
 ·left
  refine⟨_,⟨k+1,rfl,hk⟩,bp,λrc=>?_⟩;obtain⟨z1,z2⟩:=Mm ((l.take k).map rR) [];have z3:=hsz (l.take k) λe he=>h e (R3 he);have hx:=h _ (iJ hk);rw[As]at z3;simp only[mg,As,Ax]at z2;have e0:bX ([]:J aB)=0:=rfl
  have hfl:((l.take (k+1)).map rR).foldl stepG []=stepG (((l.take k).map rR).foldl stepG []) (rR l[k]):=by
   rw[mh hk,vj,Jr];rfl
  rw[cC om,b9,gd hk,cy om,hfl];generalize((l.take k).map rR).foldl stepG []=o at z1 z2⊢;unfold stepG;by_cases h0:0<o.length
  ·have hmo:(o.getD (o.length-1) dw).fText.length<=bX o:=by rw[gd om];exact Qb (iJ om)
   have e1:aC ((o.length:Int)-1)=((o.length-1:Nat):Int):=vm om h0;rw[e1,cC om,bR om,bR hk,b9,aD,dT h0,Jq];dsimp only;show cond ((o.getD (o.length-1) dw).aL==l[k].dD) _ _=rc (_,cond ((o.getD (o.length-1) dw).aL==l[k].dD) _ _)
   cases ((o.getD (o.length-1) dw).aL==l[k].dD)with
   | true=>rw[aY,aY,bR om,bR hk,mW om,bR om];rfl
   | false=>rw[aM,aM,bR hk,bR hk,ez (by show o.length+1<=_;omega) de];rfl
  ·rw[cf om,aD]
   dsimp only;rw[aM,bR hk,bR hk,ez (by show o.length+1<=_;omega) de,dF h0];rfl
 ·right
  obtain rfl:k=l.length:=om;intro rc;rw[cf om,vQ]
theorem ajd(m:J aX):fR (m.map rP)=Fe m:=by unfold fR Fe;rw[List.flatMap_map];rfl
theorem arC(F:Nat)(l:J aX)(h:∀e∈l,e.dh.length<=1)(hF:l.length+1<F)(hl:l.length<=10000000):B5 F l=W0 ((l.map rP).foldl stepG []):=by
 have:aA (λr=>r=(l.map rP).foldl stepG []) (B5 F l):=by
  unfold B5 wx;refine aA.lp (λz:J aX×J aB=>∃i:Nat,z.1=l.drop i/\i<=l.length/\z.2=((l.take i).map rP).foldl stepG []/\(z.2=[]\/∃o' x,z.2=o'++[x]/\∀y∈z.1.head?,(x.aL==y.dD)=UV)) (λz=>z.1.length) ⟨0,rfl,om,rfl,.inl rfl⟩ (by show l.length<F;omega) ?_;rintro⟨m,o⟩ ⟨i,h1,h2,h3,h4⟩ rc hrc;dsimp only at h1 h3 h4 hrc⊢;have hm:∀e∈m,e.dh.length<=1:=λe he=>h e (aeH (h1▸he));have hml:m.length=l.length-i:=by rw[h1,Gq]
  have hol:o.length<=i:=by
   have:=(Mm ((l.take i).map rP) []).2;rw[<-h3]at this;simp at this;omega
  cases hme:m with
  | nil=>
   rw[cf si];rw[hme]at hml;simp at hml;refine aA.ok ?_;show o=_
   rw[h3,vN om]
  | cons x m'=>
   rw[<-hme];have hpos:0<m.length:=by rw[hme];simp
   have RC:m.getD 0 mc=x:=by rw[hme];rfl
   rw[cC om,RC];refine aA.lp (λj:Int=>∃n:Nat,j=(n:Int)/\1<=n/\n<=m.length/\∀e∈m.take n,e.dD=x.dD) (λj=>m.length-j.toNat) ⟨1,rfl,eu _,hpos,λe he=>by rw[hme]at he;simp at he;rw[he]⟩ (by show m.length-1<F;omega) ?_;rintro _ ⟨n,rfl,n1,n2,n3⟩ rc' pH
   have fin:(∀y∈(m.drop n).head?,(x.dD==y.dD)=UV)->aA (λr=>r=(l.map rP).foldl stepG []) (rq ((T1 (0<=(n:Int)))&&(T1 ((n:Int)<=(m.length:Int)))) (rq (T1 (0<(m.length:Int))) ((ym F (sl m 0 (n:Int))).bind λx6=>
     rq ((T1 (o.length+([(aB.mk x6 (x.dD))]:J aB).length<=9223372036854775807))&&(T1 ((o.length+([(aB.mk x6 (x.dD))]:J aB).length)*24<=140737488355328))) (rq ((T1 (0<=(n:Int)))&&((T1 ((n:Int)<=(m.length:Int)))&&(T1 ((m.length:Int)<=(m.length:Int))))) (rc (sl m (n:Int) (m.length:Int),o++([(aB.mk x6 (x.dD))]:J aB))))))):=by
    intro hy;rw[bZ om om,mW om,slB,arx F (m.take n) bp bp λe he=>hm e (R3 he),aD,ez (by show o.length+1<=_;omega) de,vV om om om,slA];refine hrc _ ⟨i+n,by rw[h1,aeS],om,?_,.inr ⟨o,_,rfl,hy⟩⟩ bp;show o++_=_;have ht:l.take (i+n)=l.take i++m.take n:=by rw[h1];exact List.take_add
    rw[ht,vj,Jr,<-h3,<-ajd]
    have hmt:m.take n=x::m'.take (n-1):=by
     rw[hme]
     cases n with
     | zero=>omega
     | succ n=>rfl
    rw[hmt]at n3⊢
    have hf:stepG o (rP x)=o++[rP x]:=by
     rcases h4 with rfl|⟨o',z,rfl,hz⟩
     ·rfl
     ·rw[Ml,show(z.aL==(rP x).aL)=UV from hz x (by rw[hme];rfl)];rfl
    rw[jY,vS,hf]
    have:=PC ((m'.take (n-1)).map rP) o x.dh x.dD (λr hr=>by
     obtain⟨e,he,rfl⟩:=oK.1 hr;exact n3 e (ku _ he))
    exact(this.trans (by unfold fR;rw[R9];rfl)).symm
   by_cases hn:n<m.length
   ·rw[cC om,bR hn,mW om,aD,b9,gd hn]
    cases hb:(m[n].dD==x.dD)with
    | true=>
     rw[aY,cy om];refine pH _ ⟨n+1,rfl,om,hn,λe he=>?_⟩ bp;rw[mh hn]at he;rcases p8.1 he with he|he
     ·exact n3 e he
     ·obtain rfl:=vk.1 he;exact eq_of_beq hb
    | false=>
     rw[aM];refine fin λy hy=>?_;rw[ua hn]at hy;obtain rfl:=rQ hy;rw[ae1]at hb⊢
     first|exact hb|(rw[ae1];exact hb)|skip
   ·rw[cf om,aD,aM]
    exact fin λy hy=>by rw[Tn om]at hy;cases hy
 obtain⟨r,h,e⟩:=this;rw[e,h]
def yo(l:J aB)(s:Bs):J (J aB):=(dS (iI s) 0 (l.flatMap lZ) [] []).map λg=>(g.map rP).foldl stepG []
theorem acq{e:aX}(h:WE e):e.dh.length<=1:=by
 rcases h with⟨h,-⟩|⟨b,h,-⟩<;>rw[h]<;>simp
theorem acr(l:J aB)(s:Bs)(h1:l.length<=1000000)(h2:bX l<=5000000):(dS (iI s) 0 (l.flatMap lZ) [] []).length<=6000000/\∀g∈dS (iI s) 0 (l.flatMap lZ) [] [],g.length<=6000000/\∀x∈g,WE x:=by
 have hE:=KW l;have:=ajb (iI s) (l.flatMap lZ) 0 [] [];simp only[Ax]at this
 exact⟨om,λg hg=>by
  have:=ajc (iI s) (λ_=>1) 6000000 WE (l.flatMap lZ) 0 [] [] (λ_ h=>nomatch h) (by rw[Xj,Xj];simp only[Ax];omega) (λ_ h=>nomatch h) (ai7 l) g hg;rwa [Xj]at this⟩
theorem anZ(F:Nat)(l:J aB)(s:Bs)(hF:100000000<=F)(h1:l.length<=1000000)(h2:bX l<=5000000):xC F l s=W0 (yo l s):=by
 have hE:=KW l;obtain⟨d1,d2⟩:=acr l s h1 h2;unfold xC yo wx;rw[arw F l om om om,aD,anX F s _ (ai7 l) om om,aD];generalize dS (iI s) 0 (l.flatMap lZ) [] []=fs at d1 d2;refine cG (λz:J (J aB)×Int=>∃k:Nat,z=((fs.take k).map (λg=>(g.map rP).foldl stepG []),(k:Int))/\k<=fs.length) (λz=>fs.length-z.2.toNat) ?_ F _ ⟨0,rfl,om⟩ bp;rintro _ ⟨k,rfl,hk⟩;dsimp only;by_cases hk:k<fs.length
 ·left
  refine⟨_,⟨k+1,rfl,hk⟩,bp,λrc=>?_⟩;obtain⟨g1,g2⟩:=d2 _ (iJ hk);rw[cC om,bR hk,b9,gd hk,arC F _ (λe he=>acq (g2 e he)) om om,aD,ez bp de,cy om,mh hk,vj];rfl
 ·right
  obtain rfl:k=fs.length:=om;intro rc;rw[cf om,vQ]
theorem aje(s:Bs)(e:aX):iI s e=0\/iI s e=1\/iI s e=2\/iI s e=3:=by
 unfold iI Mj
 cases (e.dh==[])with
 | true=>cases (e.dD==3)<;>simp
 | false=>cases (e.dD==2&&s.contains (e.dh.getD 0 0))<;>cases (e.dh.getD 0 0==32||(e.dh.getD 0 0==9||e.dh.getD 0 0==10))<;>simp
theorem an0(F:Nat)(l:J aB)(s:Bs)(hF:100000000<=F)(h1:l.length<=1000000)(h2:bX l<=5000000)(hs:s.length<=5000):xh F l s=W0 (yo l s):=by
 have hE:=KW l;obtain⟨d1,d2⟩:=acr l s h1 h2;unfold xh yo wx;rw[arz F l s om om om om,aD,anY F _ (λx hx=>by obtain⟨e,-,rfl⟩:=oK.1 hx;exact aje s e) (by rw[mg];omega) (by rw[mg];omega),aD];have hmap:=ai8 (iI s) (λx:bH=>x.dN) (R2 s) (l.flatMap lZ) 0 [] [] λ_ _=>rfl;rw[Nu,Nu]at hmap;rw[hmap];generalize dS (iI s) 0 (l.flatMap lZ) [] []=fs at d1 d2;have hrr:∀g:J aX,(g.map (R2 s)).map rR=g.map rP:=λg=>by rw[yD];rfl
 refine cG (λz:J (J aB)×Int=>∃k:Nat,z=((fs.take k).map (λg=>(g.map rP).foldl stepG []),(k:Int))/\k<=fs.length) (λz=>fs.length-z.2.toNat) ?_ F _ ⟨0,rfl,om⟩ bp;rintro _ ⟨k,rfl,hk⟩;dsimp only;by_cases hk:k<fs.length
 ·left
  refine⟨_,⟨k+1,rfl,hk⟩,bp,λrc=>?_⟩;obtain⟨g1,g2⟩:=d2 _ (iJ hk);have e1:(fs.map (List.map (R2 s))).getD k []=fs[k].map (R2 s):=by rw[gd (by rw[mg];exact hk),Sa]
  rw[cC (by rw[mg];omega),bR (by rw[mg];exact hk),b9,e1,arB F _ (λe he=>by obtain⟨x,hx,rfl⟩:=oK.1 he;exact acq (g2 x hx)) (by rw[mg];omega) (by rw[mg];omega),aD,ez bp de,cy om,mh hk,vj,hrr];rfl
 ·right
  obtain rfl:k=fs.length:=om;intro rc;rw[cf (by rw[mg];omega),vQ]
theorem ap0(g:J aX)(h:∀x∈g,WE x):bX (g.map rP)<=g.length:=by
 induction g with
 | nil=>simp[bX]
 | cons a m ih=>
  have h1:=acq (h a qK);have h2:=ih λe he=>h e (ku _ he);have:bX ((a::m).map rP)=a.dh.length+bX (m.map rP):=by simp[bX,rP]
  simp only[qL];omega
theorem ag9(l:J aB)(s:Bs)(h1:l.length<=1000000)(h2:bX l<=5000000):(yo l s).length<=6000000/\∀f∈yo l s,f.length<=6000000/\bX f<=6000000:=by
 obtain⟨d1,d2⟩:=acr l s h1 h2;unfold yo;refine⟨by rw[mg];exact d1,λf hf=>?_⟩;obtain⟨g,hg,rfl⟩:=oK.1 hf;obtain⟨g1,g2⟩:=d2 g hg;obtain⟨z1,z2⟩:=Mm (g.map rP) [];have:=ap0 g g2;have e0:bX ([]:J aB)=0:=rfl;simp only[mg,Ax]at z2;omega
theorem alF(F:Nat)(l:J aB)(s:Bs)(hF:100000000<=F)(h1:l.length<=100000)(h2:bX l<=5000000)(hs:s.length<=5000):aA (λr:J (J aB)=>r.length<=6000000/\∀f∈r,f.length<=6000000/\bX f<=6000000) (xh F l s):=⟨_,ag9 l s om h2,an0 F l s hF om h2 hs⟩
theorem ajf(F:Nat)(r:J aB)(hF:100000000<=F)(h1:r.length<=10000000)(h2:bX r<=10000000):∃b,uH F r=W0 b:=by
 have hcl:=aj0 r
 obtain⟨b,-,h⟩:=afq (F:=F) (r:=r) om om om om λc hc=>by
  have:=aoQ r c hc;obtain⟨p,⟨g1,g2⟩,h⟩:=aah F c om om om om;obtain⟨x,hx⟩:=aai F p om om g1;exact⟨p,x,h,hx⟩
 exact⟨b,h⟩
theorem an1(F:Nat)(l:J TPart)(p:cg)(hN:NC<=F)(hF:100000000<=F)(hl:fL l<=1000)(hs:og s)(hst:stop s=UV):aA (λr=>RB (fL l) r.1/\og r.2) (E2 F l p s):=by
 obtain⟨a,b,⟨h1,h2,-⟩,-,e⟩:=ag2 (fl:=[]) hN hF (Xi F hF) F F l (dm.mk p.fD p.kE 0) p s ⟨rfl,rfl⟩ hs hst hl om om;exact⟨b,⟨h2,h1⟩,e⟩
theorem ajg(F:Nat)(e:eU)(w:J jc)(a:J gU)(hN:NC<=F)(hF:100000000<=F)(hw:w.length<=100)(hp:∀x∈w,fL x.fParts<=1000)(he:VC e)(hA:yJ e.bV)(ha:(∀x∈a,x.fText.length<=60)/\a.length<=2000):∃b,uQ F e w a=W0 b:=by
 have:aA (λ_=>True) (uQ F e w a):=by
  unfold uQ JT wx;refine aA.lp (λz=>∃k:Nat,z.2.1=(k:Int)/\k<=w.length/\og z.2.2) (λz=>w.length-z.2.1.toNat) ⟨0,rfl,om,⟨he,ha.1,ha.2,0,rfl,Nat.zero_le _⟩,hA,λ_=>rfl⟩ (by grind) ?_;rintro⟨n,_,s⟩ ⟨k,rfl,h1,h2⟩ rc hrc;dsimp only at h2 hrc⊢;refine aA.bd (P:=λb=>b=WF->k<w.length/\stop s=UV) (aA.cd (λh=>?_) λ_=>aA.ok λh=>nomatch h) λb hb=>aA.cb (λh=>?_) λ_=>aA.ok trivial
  ·simp_all[tZ,aA.ok]
  obtain⟨hk,hst⟩:=hb h;rw[bZ om om,bz om,b9,gd hk];have hpk:=hp _ (iJ hk);refine aA.bd (an1 F _ _ hN hF hpk h2 hst) λr ⟨r1,r2⟩=>?_;have hV:=r2.1.1.1;have hvl:=hV.1;have q1:=r1.1;have q2:=r1.2;refine aA.bd ?_ λifs asZ=>aA.bd (alF F r.1 ifs hF om om asZ) λfs ⟨f1,f2⟩=>?_
  ·unfold Po wx
   rw[zy F _ _ om om];exact aA.cb (λ_=>aA.ok (by grind[PY])) λ_=>aA.ok de
  refine aA.lp (λz=>∃i:Nat,z.2=(i:Int)/\i<=fs.length) (λz=>fs.length-z.2.toNat) ⟨0,rfl,om⟩ (by grind) ?_;rintro⟨n',_⟩ ⟨i,rfl,i1⟩ rc' pH;refine aA.cd (λh=>?_) λ_=>hrc _ ⟨k+1,rfl,hk,r2⟩ (by grind);have hi:i<fs.length:=om;have hfi:=f2 _ (iJ hi);obtain⟨b,hb⟩:=ajf F fs[i] hF om om;rw[bZ om om,bz om,b9,gd hi,acg F _ om om om,aD,bZ om om,hb,aD,aH];exact aA.cb (λ_=>aA.ok trivial) λ_=>pH _ ⟨i+1,rfl,om⟩ (by grind)
 obtain⟨b,-,h⟩:=this;exact⟨b,h⟩
theorem aA.sc{Q:R->Prop}{c:Bool}{x y:R}(a:c=WF->Q x)(b:c=UV->Q y):aA Q (W0 (cond c x y)):=by
 grind[aA.ok]
theorem an2(F:Nat)(e:eU)(hF:100<F):aA (λb=>b=WF->(e.bV.length<=12/\∀v∈e.bV,v.fName.length<=60/\v.bS.length<=60)/\e.cU.length<=12/\(∀x∈e.cU,x.length<=60)/\e.fName.length<=60) (Dy F e):=by
 unfold Dy wx;simp only[aH,aD];refine aA.cb (λ_=>aA.ok λh=>nomatch h) λhc=>?_;simp at hc;refine aA.lp (λi=>∃k:Nat,i=(k:Int)/\k<=e.bV.length/\∀v∈e.bV.take k,v.fName.length<=60/\v.bS.length<=60) (λi=>e.bV.length-i.toNat) ⟨0,rfl,om,si⟩ (by grind) ?_;rintro _ ⟨k,rfl,h1,h2⟩ rc hrc;refine aA.cd (λh=>?_) λh=>?_
 ·have hk:k<e.bV.length:=om
  rw[bZ om om,bZ om om,bz om,b9,gd hk,aH,aD];refine aA.cb (λ_=>aA.ok λh=>nomatch h) λhv=>hrc _ ⟨k+1,rfl,hk,λv jz=>?_⟩ (by grind)
  grind[List.take_succ_eq_append_getElem,List.mem_singleton,cT,Bool.or_eq_false_iff,decide_eq_false_iff_not]
 ·have h2:∀v∈e.bV,v.fName.length<=60/\v.bS.length<=60:=by grind
  refine aA.lp (λi=>∃k:Nat,i=(k:Int)/\k<=e.cU.length/\∀v∈e.cU.take k,v.length<=60) (λi=>e.cU.length-i.toNat) ⟨0,rfl,om,si⟩ (by grind) ?_;rintro _ ⟨k,rfl,p1,p2⟩ rc' pH;refine aA.cd (λh=>?_) λh=>aA.ok λ_=>⟨⟨om,h2⟩,om,by grind,om⟩;have hk:k<e.cU.length:=om;rw[bZ om om,bz om,b9,gd hk];refine aA.cd (λ_=>aA.ok λh=>nomatch h) λhv=>pH _ ⟨k+1,rfl,hk,λv jz=>?_⟩ (by grind)
  grind[List.take_succ_eq_append_getElem,List.mem_singleton]
theorem an3(F:Nat)(l:J bO)(hF:200<F):aA (λr=>r=0->yJ l) (Dz F l):=by
 unfold Dz wx;refine aA.cd (λ_=>aA.ok λh=>nomatch h) λhl=>?_;refine aA.lp (λi:Int=>∃k:Nat,i=(k:Int)/\k<=l.length/\yJ (l.take k)) (λi=>l.length-i.toNat) ⟨0,rfl,om,List.Pairwise.nil⟩ (by grind) ?_;rintro _ ⟨k,rfl,h1,hA⟩ rc hrc;refine aA.cd (λh=>?_) λh=>aA.ok λ_=>by grind
 have hk:k<l.length:=om
 have lt:aA (λb:Bool=>b=UV->k=0\/(l.getD (k-1) fP).fName<(l.getD k fP).fName) (cond (T1 (0<(k:Int))) (rq ((T1 (0<=aC ((k:Int)-1)))&&(T1 (aC ((k:Int)-1)<(l.length:Int)))) (rq ((T1 (0<=(k:Int)))&&(T1 ((k:Int)<(l.length:Int)))) (W0 (!(Op.bytesLess ((l.getD (Ts (aC ((k:Int)-1))) fP).fName) ((l.getD (Ts (k:Int)) fP).fName)))))) (W0 UV)):=by
  refine aA.cd (λh0=>?_) λ_=>aA.ok λ_=>.inl om;rw[vm om om]
  grind[aA.rq,lM,aA.ok,K8]
 refine aA.rq (lM om om) (aA.bd (Fh F _ om) λb _=>aA.cb (λ_=>aA.ok λh=>nomatch h) λ_=>aA.rq (lM om om) (aA.cd (λ_=>aA.ok λh=>nomatch h) λ_=>?_));refine aA.bd (P:=λb:Bool=>b=UV->k=0\/(l.getD (k-1) fP).fName<(l.getD k fP).fName) (aA.rq (lM om om) (aA.cb (λ_=>aA.rq (lM om om) (aA.cb (λ_=>aA.ok λh=>nomatch h) λ_=>lt)) λ_=>lt)) λb hb=>aA.cb (λ_=>aA.ok λh=>nomatch h) λhb0=>?_;rw[bz om];refine hrc _ ⟨k+1,rfl,hk,?_⟩ (by grind);unfold yJ at hA⊢;rw[mh hk,List.pairwise_append];refine⟨hA,aeP _ _,λa ha c hc=>?_⟩;obtain rfl:=vk.1 hc;obtain⟨m,hm,rfl⟩:=lH ha;have hm2:m<k:=by grind
 rcases hb hb0 with h0|h0
 ·omega
 ·rw[gd hk,gd (show k-1<l.length by omega)]at h0
  by_cases e:m=k-1
  ·simp_all
  ·have:=(List.pairwise_iff_getElem.1 hA) m (k-1) hm (by grind) om
   grind
def alG(e:eU):Prop:=((e.bV.length<=12/\∀v∈e.bV,v.fName.length<=60/\v.bS.length<=60)/\e.cU.length<=12/\(∀x∈e.cU,x.length<=60)/\e.fName.length<=60)/\e.yR=[]/\e.rV=[]/\e.yS=[]/\nI e.GD=WF/\(0<=e.jM/\e.jM<=255)/\(0<=e.ir/\e.ir<=255)/\0<=e.GC/\0<=e.rA/\yJ e.bV
theorem acs{l:J α}(h:¬ 0<(l.length:Int)):l=[]:=ae0.1 om
theorem ap1(F:Nat)(e:eU)(hF:1000<F):aA (λb=>b=WF->alG e) (FP F e):=by
 unfold FP wx;obtain⟨b1,h1,e1⟩:=an2 F e om;obtain⟨b2,nP,e2⟩:=an3 F e.bV om;rw[e1,e2,aaa F e.GD om];simp only[aH,aD];refine aA.sc (λ_=>λh=>nomatch h) λhc=>λht=>?_;simp only[cT,cF,Nv,cH,aeO,Bool.not_eq_false',eT]at hc ht;exact⟨h1 hc.1.1.1.1.1,acs hc.1.1.1.2,acs hc.1.1.2,acs hc.1.2,hc.2,om,om,om,om,nP (by simpa using hc.1.1.1.1.2)⟩
theorem an4(F:Nat)(l:J Bs)(hF:10000<F):aA (λr=>r.1.length<=8/\∀w∈r.1,fL w.fParts<=160) (sn F l):=by
 refine aA.lp (λz=>∃k:Nat,z.2=(k:Int)/\k<=8/\z.1.length<=k/\∀w∈z.1,fL w.fParts<=160) (λz=>8-z.2.toNat) ⟨0,rfl,om,si,λ_ h=>nomatch h⟩ (by show 8-0<F;omega) ?_;rintro⟨o,_⟩ ⟨k,rfl,h1,h2,h3⟩ rc hrc;rw[aH];refine aA.cb (λhc=>?_) λ_=>aA.ok ⟨by grind,h3⟩;rw[cF,cH]at hc;have c1:=Cm hc.1;have c2:=Cm hc.2;have no:aA (λr:J jc×Bool=>r.1.length<=8/\∀w∈r.1,fL w.fParts<=160) (W0 ([],UV)):=aA.ok ⟨si,λ_ h=>nomatch h⟩;refine aA.rq (lM om om) (aA.cd (λ_=>no) λh80=>aA.rq (lM om om) (aA.bd (aot F _ om om) λr hr=>J8 (λ_=>no) λ_=>?_));rw[bz om];refine aA.rq (pI (by grind) de) (hrc _ ⟨k+1,rfl,om,bp,λw hw=>?_⟩ (by grind))
 grind
theorem aev(h:alG e)(h1:K.gJ e.GC)(h2:K.gJ e.rA):VC e:=by
 obtain⟨⟨⟨a1,a2⟩,a3,a4,a5⟩,f1,f2,f3,-,-,h6,-⟩:=h;exact⟨⟨om,λv hv=>by have:=a2 v hv;omega⟩,a3,a4,a5,⟨om,om⟩,h1,h2,f1,f2,f3⟩
def Rdy(j:vl)(w:J jc):Prop:=alG j.rW/\VL j.qh/\j.qh.length<=40/\(j.j8.length<=12/\∀a∈j.j8,a.fText.length<=60)/\w.length<=8/\∀x∈w,fL x.fParts<=160
theorem an5(F:Nat)(j:vl)(hN:NC<=F)(hF:100000000<=F)(h1:K.gJ j.rW.GC)(h2:K.gJ j.rW.rA):aA (λr=>r.2=WF->Rdy j r.1) (zk F j):=by
 unfold zk wx;obtain⟨b,hb,e1⟩:=ap1 F j.rW om;obtain⟨c,hc,e2⟩:=ajU F j.qh om;rw[e1,e2];simp only[aH,aD];refine aA.cb (λ_=>aA.ok λh=>nomatch h) λhx=>?_;simp at hx;have hfit:=hb hx.1.1.1;have hsm:=hc hx.1.2;have hge:=aev hfit h1 h2;refine aA.lp (λi=>∃k:Nat,i=(k:Int)/\k<=j.j8.length/\∀a∈j.j8.take k,a.fText.length<=60) (λi=>j.j8.length-i.toNat) ⟨0,rfl,om,si⟩ (by grind) ?_;rintro _ ⟨k,rfl,k1,k2⟩ rc hrc;refine aA.cd (λh=>?_) λh=>?_
 ·have hk:k<j.j8.length:=om
  rw[bZ om om,bz om,b9];refine aA.cd (λ_=>aA.ok λh=>nomatch h) λhv=>hrc _ ⟨k+1,rfl,hk,λv jz=>?_⟩ (by grind)
  grind[List.take_succ_eq_append_getElem,List.mem_singleton]
 ·have k2:∀a∈j.j8,a.fText.length<=60:=by grind
  refine aA.bd (an4 F j.Ke om) λr ⟨r1,r2⟩=>?_;rw[ahz F j.qh om hsm];simp[aH];obtain⟨bd,hbd⟩:=ajg F j.rW r.1 j.j8 hN hF om (λx hx=>by have:=r2 x hx;omega) hge hfit.2.2.2.2.2.2.2.2.2 ⟨k2,om⟩;rw[hbd,aD,aH];refine aA.sc (λ_=>λh=>nomatch h) λhy=>λ_=>?_;have hv:iA j.qh=0:=by simp_all
  exact⟨hfit,(ahB _).1 hv,om,⟨om,k2⟩,r1,r2⟩
theorem an6{k:Nat}(h:k<=F):∃n,F=n+k:=⟨F-k,om⟩
theorem ajh(F:Nat)(e:eU)(hF:10<=F)(h1:e.bV.length<=1000)(h2:e.cU.length<=1000)(h3:e.yR=[])(h4:e.rV=[])(h5:e.yS=[]):rN F e=W0 e:=by
 obtain⟨m,rfl⟩:=an6 hF;unfold rN Ac xE xF xG xH wx;rw[h3,h4,h5,ez om de,ez om de];obtain⟨a1,a2,a3,a4,a5,a6,a7,a8,a9,a10,a11,a12,a13,a14⟩:=e;dsimp only at h3 h4 h5;subst h3 h4 h5;rfl
def as0:eU:=eU.mk [] [] [] [] [] [] 0 0 0 0 [] (nQ.mk 0 0) 0 UV
def yL(s:bn)(fs:J Bs):iE×Int:=cond (s.fe != 0) (iE.mk [] as0 UV [] s.fZ 0,s.fe) (iE.mk (cond s.nN [] fs) s.cx s.nN s.zM [] s.lV,0)
theorem aji(F:Nat)(h:VC e)(hF:10<=F):rN F e=W0 e:=ajh F e hF (by have:=h.1.1;omega) (by have:=h.2.1;omega) h.2.2.2.2.2.2.2.1 h.2.2.2.2.2.2.2.2.1 h.2.2.2.2.2.2.2.2.2
theorem ajj(F:Nat)(fl:J bF)(h:og s)(hs:stop s=UV)(hF:10<=F)(fs:J Bs):eS F fs WF (gi fl s)=W0 (yL s fs):=by
 obtain⟨h1,h2⟩:=aeo hs;unfold eS wx;rw[aY,show(gi fl s).cx=s.cx from rfl,aji F h.1.1 hF,aD];unfold yL;rw[h1,h2,h.2.2 h2];rfl
theorem Tc(F:Nat){x:aO}(h:og s)(hx:Fin x s)(hF:10<=F)(fs gs:J Bs)(hs:stop s=WF):eS F fs UV x=W0 (yL s gs):=by
 unfold eS yL wx;rw[aM];rcases hx with⟨h1,h2,h3,h4⟩|⟨h1,h2,h3,h4,h5⟩
 ·rw[h2,h3,h4,show(s.fe != 0)=WF by simpa using h1];rfl
 ·have hw:s.nN=WF:=by
   unfold stop at hs;rw[h1]at hs;exact hs
  rw[h2,h4,aji F h.1.1 hF,h1,hw,h3,h5];rfl
def s0(e:eU)(a:J gU):bn:=bn.mk e a 0 (-1) 0 [] UV []
theorem ap2{a:J gU}(h:VC e)(hA:yJ e.bV)(h1:∀x∈a,x.fText.length<=60)(h2:a.length<=2000):og (s0 e a):=⟨⟨h,h1,h2,0,rfl,gj _⟩,hA,λ_=>rfl⟩
theorem arD(F:Nat)(l:J aB)(hF:l.length<F)(h1:l.length<=1000000)(h2:bX l<=100000000):nJ F l=uz F l:=by
 rw[GK F l hF om h2,acg F l hF om om];rfl
theorem as1(hN:NC<=F)(hF:100000000<=F)(w:jc)(hw:fL w.fParts<=200)(h:og s)(hs:stop s=UV):T2 (λa b=>RV fl a b/\b.1.length<=5000*fL w.fParts) (tI F w.fParts (dm.mk UV UV 0) (gi fl s)) (vC F w.fParts UV s):=by
 obtain⟨n,rfl⟩:∃n,F=n+1:=⟨F-1,om⟩;exact aer (n:=n) hF (ag2 hN hF (Xi _ hF) n) (n+1) w.fParts (dm.mk UV UV 0) UV s rfl h hs om om om
theorem an7:DC 60=W0 WF:=by
 unfold DC wx
 try simp only[LA]
 kernel_rfl
def SX(x:iE):Prop:=x.q8.length<=1000/\NoF x.rW/\x.rW.bV.length<=1000/\x.rW.cU.length<=1000
theorem aew(h:og s){fs:J Bs}(hf:fs.length<=1000):SX (yL s fs).1:=by
 have h1:=h.1.1.1.1;have h2:=h.1.1.2.1;unfold yL
 cases (s.fe != 0)with
 | true=>exact⟨gj _,⟨rfl,rfl,rfl⟩,gj _,gj _⟩
 | false=>exact⟨by show(cond s.nN [] fs).length<=_;cases s.nN<;>simp;exact hf,h.1.1.2.2.2.2.2.2.2,by show s.cx.bV.length<=_;omega,by show s.cx.cU.length<=_;omega⟩
def RF(a b:iE×Int):Prop:=a=b/\SX a.1
def aI{R:Type}(Q:R->Prop)(x:O R):Prop:=∀r,x=W0 r->Q r
variable{S:Type}{body:(σ->O R)->σ->O R}
section
variable {Q : R -> Prop}
theorem aI.ok{r:R}(h:Q r):aI Q (W0 r):=λ_ e=>by cases e;exact h
theorem aI.no:aI Q WP:=λ_ e=>nomatch e
theorem aI.rq{x:O R}{c:Bool}(k:aI Q x):aI Q (rq c x):=by cases c;exact aI.no;exact k
theorem aI.cb{x y:O R}{c:Bool}(a:aI Q x)(b:aI Q y):aI Q (cond c x y):=by cases c;exact b;exact a
theorem aI.bb{P:S->Prop}{x:O S}{f:S->O R}(h:aI P x)(k:∀a,P a->aI Q (f a)):aI Q (x.bind f):=λr e=>by
 obtain⟨a,e1,e2⟩:=To.1 e;exact k a (h a e1) r e2
theorem aI.bd{x:O S}{f:S->O R}(k:∀a,aI Q (f a)):aI Q (x.bind f):=aI.bb (P:=λ_=>True) (λ_ _=>trivial) λa _=>k a
theorem aI.lp(P:σ->Prop){s:σ}(h0:P s)(hs:∀s,P s->∀rc,(∀s',P s'->aI Q (rc s'))->aI Q (body rc s)):aI Q (bW body F s):=by
 induction F generalizing s with
 | zero=>exact aI.no
 | succ F ih=>exact hs s h0 (bW body F) λs' h=>ih h
theorem aI.lT{s:σ}(hs:∀s rc,(∀s',aI Q (rc s'))->aI Q (body rc s)):aI Q (bW body F s):=aI.lp (λ_=>True) trivial λs _ rc h=>hs s rc λs'=>h s' trivial
end
variable{c:eU}
section
variable {Q : R -> Prop}
def IV(c:eU)(s:bn):Prop:={s.cx with bV:=[]} = c
theorem aI.bi{x:O (A×bn)}{f:A×bn->O R}(h:aI (λz=>IV c z.2) x)(k:∀a,IV c a.2->aI Q (f a)):aI Q (x.bind f):=aI.bb h k
theorem aI.bt{x:O bn}{f:bn->O R}(h:aI (IV c) x)(k:∀a,IV c a->aI Q (f a)):aI Q (x.bind f):=aI.bb h k
theorem aI.ls{body:(Int×bn->O R)->Int×bn->O R}{s:Int×bn}(h0:IV c s.2)(hs:∀s:Int×bn,IV c s.2->∀rc,(∀s':Int×bn,IV c s'.2->aI Q (rc s'))->aI Q (body rc s)):aI Q (bW body F s):=aI.lp (λz=>IV c z.2) h0 hs
theorem aI.au{Q:R->Prop}{x:O R}(h:aI Q x:=by repeat' first|exact aI.no|exact aI.ok ‹_› | exact aI.ok NE.nil|exact aI.ok NT.nil|exact aI.ok (C1.one _)|exact aI.ok C1.nil|exact aI.ok λ_=>rfl|exact fin|exact go|exact go 0|exact go _ _ _ _ _ _ (λKF=>aC (KF.Mr+1))|exact g3|exact hrc _ ‹_› | exact hrc _|exact pH _ ‹_› | exact h1 _ _ _ ‹_› | exact h2 _ _ _ ‹_› | exact h3 _ _ ‹_› | exact h4 _ _ _ ‹_› | exact h5 _ _ _ ‹_› | exact h6 _ _ _ ‹_› | exact as5 _ _ _ ‹_› | exact arO _ _ _ ‹_› | exact as6 _ _ ‹_› | exact QH _ _|exact arE _ _ _|exact arF _ _|exact alH _ rfl|exact acu _ de|exact acu _ (aha ‹_› (ws1 _))|exact QI _ _|exact arG _ _ _|exact arH _ _ _|exact alI _ rfl|exact h1 _ _ _ _ _|exact h3 _ _ _ _|exact h4 _ _ _ _|exact h5 _ _ _ _|exact h6 _ _ _|exact h6 _ _ _ _|exact h1 _ _ _ h.2|exact h1 _ _ _ h|exact ajk _ _ _ _|(refine aI.ok λ_ h=>?_;cases h;done)|(refine aI.ok λ_ h=>?_;cases h;assumption)|refine aI.rg λ_=>?_|refine aI.cb ?_ ?_|refine aI.rq ?_|refine aI.bu (p:=p) ?_ λ_ _=>?_|refine aI.br ?_ λ_ _=>?_|refine aI.bt (c:=c) ?_ λ_ _=>?_|refine aI.bi (c:=c) ?_ λ_ _=>?_|refine aI.bv ?_ λ_ _=>?_|refine aI.bc ?_ λ_ _=>?_|refine aI.bd λ_=>?_|refine aI.ls (c:=c) ‹_› λ_ _ rc' pH=>?_|refine aI.lT λ_ rc hrc=>?_):aI Q x:=h
def J1(c:eU)(F n:Nat):Prop:=(∀l p s,IV c s->aI (λz=>IV c z.2) ((aG F n).1 l p s))/\(∀l p s,IV c s->aI (λz=>IV c z.2) ((aG F n).2.1 l p s))/\(∀l s,IV c s->aI (λz=>IV c z.2) ((aG F n).2.2.1 l s)) /\
 (∀l p s,IV c s->aI (λz=>IV c z.2) ((aG F n).2.2.2.1 l p s))/\(∀l p s,IV c s->aI (λz=>IV c z.2) ((aG F n).2.2.2.2.1 l p s))/\(∀l p s,IV c s->aI (IV c) ((aG F n).2.2.2.2.2 l p s))
theorem ajl:∀n,J1 c F n
 | 0=>⟨λ_ _ _ _=>aI.no,λ_ _ _ _=>aI.no,λ_ _ _=>aI.no,λ_ _ _ _=>aI.no,λ_ _ _ _=>aI.no,λ_ _ _ _=>aI.no⟩
 | n+1=>by
  obtain⟨h1,h2,h3,h4,h5,h6⟩:=ajl n;refine⟨λl p s h=>?_,λl p s h=>?_,λl s h=>?_,λl p s h=>?_,λl p s h=>?_,λl p s h=>?_⟩
  ·show aI _ (eR F (aG F n) l p s)
   unfold eR wx;refine aI.lp (λz=>IV c z.2.2) h λz hz rc hrc=>?_;exact aI.au
  ·show aI _ (dW F (aG F n) l p s)
   unfold dW wx;exact aI.au
  ·show aI _ (nh F (aG F n) l s)
   unfold nh wx;refine aI.bi (h4 _ _ _ h) λz hz=>aI.bd λ_=>aI.cb (aI.ok hz) (aI.lT λ_ rc hrc=>?_);exact aI.au
  ·show aI _ (mG F (aG F n) l p s)
   unfold mG wx;exact aI.au
  ·show aI _ (gQ F (aG F n) l p s)
   unfold gQ wx;exact aI.au
  ·show aI _ (ni F (aG F n) l p s)
   unfold ni wx;exact aI.au
end
def NE(l:J TPart):Prop:=∀p∈l,p.fKind=1->p.fText≠[]
def NR(r:dy):Prop:=NE r.fParts
section
variable {Q : R -> Prop}
theorem aI.rg{x:O R}{c:Bool}(k:c=WF->aI Q x):aI Q (Go.RT.rq c x):=by cases c;exact aI.no;exact k rfl
theorem aI.cc{x y:O R}{c:Bool}(a:c=WF->aI Q x)(b:aI Q y):aI Q (cond c x y):=by grind
theorem aI.jj{X:O (σ ⊕ R)}{f:σ->O R}(h:aI (λz=>∀r,z=.inr r->Q r) X)(k:∀s,aI Q (f s)):aI Q (Go.RT.jj X f):=λr e=>by
 obtain⟨a,e1,e2⟩:=To.1 e
 cases a with
 | inl a=>exact k a r e2
 | inr a=>cases e2;exact h _ e1 _ rfl
theorem aI.br{x:O dy}{f:dy->O R}(h:aI NR x)(k:∀a,NR a->aI Q (f a)):aI Q (x.bind f):=aI.bb h k
end
variable {F : Nat}
theorem NE.nil:NE []:=λ_ h=>nomatch h
theorem NE.app{a b:J TPart}(h:NE a)(h':NE b):NE (a++b):=λp hp=>by
 rcases p8.1 hp with hp|hp
 ·exact h p hp
 ·exact h' p hp
theorem NE.one{p:TPart}(h:p.fKind=1->p.fText≠[]):NE [p]:=λq hq=>by simp_all
theorem QH(a e:Int):aI NR (dM F a e):=aI.ok NE.nil
theorem ajm{p:TPart}(a:Int)(h:p.fKind=1->p.fText≠[]):aI NR (eD F p a):=aI.ok (NE.one h)
variable{o:Int}{ps:J TPart}
theorem alH{k:Int}{c:Bool}(a:Int)(h:(k==1)=UV):aI NR (eD F (TPart.mk k t o c ps) a):=ajm a λe=>by
 have e:k=1:=e;rw[e]at h;cases h
theorem acu{k:Int}{c:Bool}(a:Int)(h:t≠[]):aI NR (eD F (TPart.mk k t o c ps) a):=ajm a λ_=>h
variable{p:Int}
theorem aha{s:Bs}{q:Int}(h:((T1 (0<=p))&&((T1 (p<=q))&&(T1 (q<=(s.length:Int)))))=WF)(hne:p≠q):sl s p q≠[]:=by
 simp at h;intro e;have:=congrArg List.length e;simp[sl]at this;omega
theorem ws1(a:Int):a≠aC (a+1):=by unfold aC Sx;simp[IntKind.bits];omega
theorem ws2(a:Int):a≠aC (a+2):=by unfold aC Sx;simp[IntKind.bits];omega
theorem ws3(a:Int):aC (a+1)≠aC (a+2):=by unfold aC Sx;simp[IntKind.bits];omega
theorem arE(s:Bs)(a p:Int):aI NR (oh F s a p):=by
 repeat' first|exact aI.no|exact aI.ok NE.nil|exact aI.ok ‹_› | exact QH _ _|exact alH _ rfl|exact acu _ de|exact acu _ (aha ‹_› (ws3 _))|exact acu _ (aha ‹_› (ws2 _))|refine aI.rg λ_=>?_|refine aI.cb ?_ ?_|refine aI.br ?_ λ_ _=>?_|refine aI.bd λ_=>?_
theorem arF(s:Bs)(a:Int):aI NR (nj F s a):=by
 refine aI.bd λ_=>aI.cb (aI.br (QH _ _) λ_ h=>aI.ok h) (aI.lT λ_ rc hrc=>?_)
 repeat' first|exact aI.no|exact hrc _|exact aI.ok NE.nil|exact aI.ok ‹_› | exact QH _ _|exact alH _ rfl|refine aI.rq ?_|refine aI.cb ?_ ?_|refine aI.br ?_ λ_ _=>?_|refine aI.bd λ_=>?_
mutual
def Yv:TPart->Bool
 | .mk k t _ _ ps=>((k==4)&&(t==[64]))||qR ps
def qR:J TPart->Bool
 | []=>UV
 | p::l=>Yv p||qR l
end
theorem acv:∀ {l:J TPart}{x:TPart},x∈l->qR l=UV->Yv x=UV
 | a::l,x,h,h0=>by
  have h0:(Yv a||qR l)=UV:=h0;rw[Nv]at h0;rcases iy.1 h with rfl|h
  ·exact h0.1
  ·exact acv h h0.2
theorem acw{l:J TPart}(h:qR l=UV)(i:Nat):Yv (l.getD i iP)=UV:=by
 by_cases hi:i<l.length
 ·grind[gd,acv,List.getElem_mem]
 ·unfold List.getD;rw[Ny om];rfl
theorem ap3(o b:Bool):lJ F (cg.mk WF o b)=W0 1:=rfl
theorem alJ(o b:Bool):dV F (cg.mk WF o b)=W0 1:=rfl
theorem arI(t v:Bs)(o:Bool)(s:bn)(h:(t==[64])=UV):gZ F t v (cg.mk WF o WF) s=gZ F t v (cg.mk WF o UV) s:=by
 unfold gZ wx;simp[h];cases (t==[42])<;>rfl
theorem arJ:∀(n:Nat)(x:TPart)(o:Bool)(s:bn),(aG F n).2.2.2.2.2 x (cg.mk WF o WF) s=(aG F n).2.2.2.2.2 x (cg.mk WF o UV) s
 | 0,_,_,_=>rfl
 | _+1,_,_,_=>rfl
def NA(F n:Nat):Prop:=(∀l o s,qR l=UV->(aG F n).1 l (cg.mk WF o WF) s=(aG F n).1 l (cg.mk WF o UV) s)/\(∀x o s,Yv x=UV->(aG F n).2.1 x (cg.mk WF o WF) s=(aG F n).2.1 x (cg.mk WF o UV) s) /\
 (∀x o s,(x.fText==[64])=UV->qR x.fParts=UV->(aG F n).2.2.2.2.1 x (cg.mk WF o WF) s=(aG F n).2.2.2.2.1 x (cg.mk WF o UV) s)
theorem ajn:∀n,NA F n
 | 0=>⟨λ_ _ _ _=>rfl,λ_ _ _ _=>rfl,λ_ _ _ _ _=>rfl⟩
 | n+1=>by
  obtain⟨h1,h2,h3⟩:=ajn n;refine⟨λl o s h=>?_,λx o s h=>?_,λx o s h h'=>?_⟩
  ·show eR F (aG F n) l _ s=eR F (aG F n) l _ s
   unfold eR wx;have hg:=acw h;simp only[h2,hg]
  ·cases x with|mk k t op c ps=>
   have h:(((k==4)&&(t==[64]))||qR ps)=UV:=h;rw[Nv,PI]at h;show dW F (aG F n) _ _ s=dW F (aG F n) _ _ s;unfold dW wx;simp[TPart.fKind,TPart.fText,TPart.fOp,TPart.fColon,TPart.fParts,ap3,alJ,h1 ps _ _ h.2]
   cases hk:(k==4)with
   | false=>rfl
   | true=>
    have ht:(t==[64])=UV:=by rcases h.1 with h|h;rw[h]at hk;cases hk;exact h
    rw[h3 (TPart.mk k t op c ps) o s ht h.2]
  ·show gQ F (aG F n) x _ s=gQ F (aG F n) x _ s
   unfold gQ wx;simp[alJ,h1 _ _ _ h',arJ,arI _ _ _ _ h]
mutual
def tP:TPart->Bool
 | .mk k _ _ _ ps=>(k==7)||vK ps
def vK:J TPart->Bool
 | []=>UV
 | p::l=>tP p||vK l
end
theorem aex:∀ {l m:J TPart},vK l=UV->vK m=UV->vK (l++m)=UV
 | [],m,_,h=>h
 | a::l,m,h,h'=>by
  have h:(tP a||vK l)=UV:=h;rw[Nv]at h;show(tP a||vK (l++m))=UV;rw[h.1,aex h.2 h'];rfl
theorem Xk:∀ {l:J TPart}{x:TPart},x∈l->vK l=UV->tP x=UV
 | a::l,x,h,h0=>by
  have h0:(tP a||vK l)=UV:=h0;rw[Nv]at h0;rcases iy.1 h with rfl|h
  ·exact h0.1
  ·exact Xk h h0.2
theorem ajo:∀ {l:J TPart},(∀x∈l,tP x=UV)->vK l=UV
 | [],_=>rfl
 | a::l,h=>by
  show(tP a||vK l)=UV;rw[h a qK,ajo λx hx=>h x (ku _ hx)];rfl
def gY(p:Int):Bool:=(p==0)||(p==1)
def NT(p:Int)(l:J TPart):Prop:=(gY p=UV->vK l=UV)/\∀x∈l,x.fKind=3->vK x.fParts=UV
def NU(p:Int)(r:dy):Prop:=NT p r.fParts
theorem NT.nil:NT p []:=⟨λ_=>rfl,λ_ h=>nomatch h⟩
theorem NT.app{l m:J TPart}(h:NT p l)(h':NT p m):NT p (l++m):=⟨λe=>aex (h.1 e) (h'.1 e),λx hx=>by
 rcases p8.1 hx with hx|hx
 ·exact h.2 x hx
 ·exact h'.2 x hx⟩
theorem NT.sub{l m:J TPart}(h:NT p l)(hm:∀x∈m,x∈l):NT p m:=⟨λe=>ajo λx hx=>Xk (hm x hx) (h.1 e),λx hx=>h.2 x (hm x hx)⟩
theorem NT.mk{k:Int}{c:Bool}(h:(k==7)=UV)(h1:gY p=UV->vK ps=UV)(h3:k=3->vK ps=UV):NT p [TPart.mk k t o c ps]:=⟨λe=>by
 show(((k==7)||vK ps)||false)=UV;rw[h,h1 e];rfl,λx hx=>by
 obtain rfl:=vk.1 hx;exact h3⟩
variable {F : Nat}
section
variable {Q : R -> Prop}
theorem aI.bu{x:O dy}{f:dy->O R}(h:aI (NU p) x)(k:∀a,NU p a->aI Q (f a)):aI Q (x.bind f):=aI.bb h k
end
theorem QI(a e:Int):aI (NU p) (dM F a e):=aI.ok NT.nil
theorem alI{k:Int}{c:Bool}(a:Int)(h:(k==7)=UV):aI (NU p) (eD F (TPart.mk k t o c []) a):=aI.ok (NT.mk h (λ_=>rfl) λ_=>rfl)
theorem ap4{k:Int}{c:Bool}(a:Int)(h:(k==7)=UV)(hp:vK ps=UV):aI (NU p) (eD F (TPart.mk k t o c ps) a):=aI.ok (NT.mk h (λ_=>hp) λ_=>hp)
theorem an8{l:J TPart}(h:NT p l):aI (NT p) (AJ F l t):=by
 have hs:∀q,NT p (sl l 0 q):=λq=>h.sub λx hx=>R3 (aeH hx);have h1:∀t,NT p [TPart.mk 1 t 0 UV []]:=λt=>NT.mk rfl (λ_=>rfl) λ_=>rfl;exact aI.bd λ_=>aI.cb (aI.rq (aI.rq (aI.rq (aI.rq (aI.rq (aI.ok (NT.app (NT.app NT.nil (hs _)) (h1 _)))))))) (aI.rq (aI.ok (NT.app h (h1 _))))
theorem alK(s:Bs)(a p:Int):aI (λb=>b=WF->gY p=WF) (rS F s a p):=by
 unfold rS wx;have ho:lu F p=W0 (gY p):=by unfold lu gY wx;cases (p==0)<;>rfl
 cases h:gY p with
 | true=>exact λ_ _ _=>rfl
 | false=>simp_all[aI.bb,aI.ok]
theorem ajp(p:Int):aI (λq=>gY p=UV->gY q=UV) (qg F p):=by
 unfold qg wx
 cases h:(p==0)with
 | true=>exact λ_ _ e=>by simp_all[gY]
 | false=>
  cases h1:(p==1)with
  | true=>exact λ_ _ e=>by simp_all
  | false=>
   exact aI.au
theorem arG(s:Bs)(a p:Int):aI (NU p) (oh F s a p):=by
 repeat' first|exact aI.no|exact aI.ok NT.nil|exact aI.ok ‹_› | exact QI _ _|exact alI _ rfl|refine aI.rq ?_|refine aI.cb ?_ ?_|refine aI.bu (p:=p) ?_ λ_ _=>?_|refine aI.bd λ_=>?_
theorem arH(s:Bs)(a p:Int):aI (NU p) (nj F s a):=by
 refine aI.bd λ_=>aI.cb (aI.bu (QI _ _) λ_ h=>aI.ok h) (aI.lT λ_ rc hrc=>?_)
 repeat' first|exact aI.no|exact hrc _|exact aI.ok ‹_› | exact QI _ _|exact alI _ rfl|refine aI.rq ?_|refine aI.cb ?_ ?_|refine aI.bu (p:=p) ?_ λ_ _=>?_|refine aI.bd λ_=>?_
def J9(F n:Nat):Prop:=(∀s a p l f,aI (NU p) ((bQ F n).1 s a p l f))/\(∀s a p l,aI (NU p) ((bQ F n).2.1 s a p l))/\(∀s a p l,aI (NU p) ((bQ F n).2.2.1 s a p l))/\(∀s a p l,aI (NU p) ((bQ F n).2.2.2.1 s a p l))/\(∀s a p l,aI (NU p) ((bQ F n).2.2.2.2.1 s a p l))/\(∀s a l p,aI (NU p) ((bQ F n).2.2.2.2.2 s a l))
theorem ajq:∀n,J9 F n
 | 0=>⟨λ_ _ _ _ _=>aI.no,λ_ _ _ _=>aI.no,λ_ _ _ _=>aI.no,λ_ _ _ _=>aI.no,λ_ _ _ _=>aI.no,λ_ _ _ _=>aI.no⟩
 | n+1=>by
  obtain⟨h1,h2,h3,h4,h5,h6⟩:=ajq n;refine⟨λs a p l f=>?_,λs a p l=>?_,λs a p l=>?_,λs a p l=>?_,λs a p l=>?_,λs a l p=>?_⟩
  ·show aI _ (zx F (bQ F n) s a p l f)
   unfold zx wx;refine aI.lp (λz=>NT p z.2.1) NT.nil λz hz rc hrc=>?_;have fin:aI (NU p) (W0 (dy.mk z.2.1 z.1 0)):=aI.ok hz
   have t7:gY p=WF->NT p [TPart.mk 7 [] 0 UV []]:=λh=>⟨λe=>by rw[h]at e;exact absurd e de,λx hx h3=>by
    obtain rfl:=vk.1 hx;exact absurd (show(7:Int)=3 from h3) de⟩
   refine aI.cb (aI.bd λ_=>aI.cb ?_ (aI.bb (P:=λb=>b=WF->gY p=WF) (aI.cb (aI.bb (alK _ _ _) λ_ h=>aI.ok h) (aI.ok λh=>by cases h)) λb hb=>aI.cc (λht=>aI.rq (hrc _ (NT.app hz (t7 (hb ht))))) (aI.bd λ_=>aI.bd λ_=>aI.bu (h2 _ _ _ _) λr hr=>aI.cb (aI.ok hr) ?_))) ?_
   ·exact aI.au
   ·refine aI.lp (λz=>NT p z.1) hz λy hy rc' pH=>aI.cb (aI.rg λg=>aI.cb (aI.rq (aI.bb (an8 hy) λx hx=>pH _ hx)) (aI.rq (aI.rq (pH _ ?_)))) (hrc _ hy)
    simp only[cH,eT]at g;have hi:y.2.toNat<r.fParts.length:=om;show NT p (y.1++[r.fParts.getD (Ts y.2) iP]);rw[gd hi];exact NT.app hy (NT.sub hr λx hx=>by obtain rfl:=vk.1 hx;exact iJ hi)
   ·exact aI.au
  ·show aI _ (v7 F (bQ F n) s a p l)
   unfold v7 wx;exact aI.au
  ·show aI _ (xK F (bQ F n) s a p l)
   unfold xK wx;exact aI.au
  ·show aI _ (o5 F (bQ F n) s a p l)
   unfold o5 wx;have go:∀b:Int,aI (NU p) (((bQ F n).1 s (aC (a+3)) 4 (aC (l+1)) a).bind λx5=>cond (x5.fE != 0) (W0 x5) ((eD F (TPart.mk 6 [] 0 UV x5.fParts) (aC (x5.Mr+2))).bind λx6=>W0 x6)):=λ_=>aI.bu (h1 _ _ _ _ _) λr hr=>aI.cb (aI.ok ⟨λ_=>hr.1 rfl,hr.2⟩) (aI.bu (ap4 (p:=p) _ rfl (hr.1 rfl)) λ_ h=>aI.ok h);exact aI.au
  ·show aI _ (sQ F (bQ F n) s a p l)
   unfold sQ wx;refine aI.jj ?_ λ_=>?_
   ·exact aI.au
   ·have go:∀(cm:Int)(o:Int)(c:Bool)(a2 l2 f:Int)(b:dy->Int),aI (NU p) ((qg F p).bind λx26=>((bQ F n).1 s a2 x26 l2 f).bind λKF=>cond (KF.fE != 0) (W0 KF) ((eD F (TPart.mk 4 (sl s (aC (a+2)) cm) o c KF.fParts) (b KF)).bind λx28=>W0 x28)):=λcm o c a2 l2 f b=>aI.bb (ajp p) λq hq=>aI.bu (h1 _ _ _ _ _) λr hr=>aI.cb (aI.ok ⟨λe=>hr.1 (hq e),hr.2⟩) (aI.bu (p:=p) (aI.ok (NT.mk rfl (λe=>hr.1 (hq e)) λh=>nomatch h)) λ_ h=>aI.ok h)
    exact aI.au
  ·show aI _ (sP F (bQ F n) s a l)
   unfold sP wx;have go:aI (NU p) (((bQ F n).1 s (aC (a+1)) 2 (aC (l+1)) a).bind λx5=>cond (x5.fE != 0) (W0 x5) ((eD F (TPart.mk 3 [] 0 UV x5.fParts) (aC (x5.Mr+1))).bind λx6=>W0 x6)):=aI.bu (h1 _ _ _ _ _) λr hr=>aI.cb (aI.ok ⟨λ_=>hr.1 rfl,hr.2⟩) (aI.bu (ap4 (p:=p) _ rfl (hr.1 rfl)) λ_ h=>aI.ok h);exact aI.au
def D3(l:J TPart):Prop:=∀x∈l,x.fKind=3->vK x.fParts=UV
theorem alL(s:Bs):aI (λr=>D3 r.1) (yO F s):=by
 refine aI.cb (aI.ok λ_ h=>nomatch h) (aI.bb ((ajq F).1 _ _ _ _ _) λr hr=>aI.cb (aI.ok λ_ h=>nomatch h) (aI.ok hr.2))
theorem alM(l:J Bs):aI (λr=>∀w∈r.1,D3 w.fParts) (sn F l):=by
 refine aI.lp (λz=>∀w∈z.1,D3 w.fParts) (λ_ h=>nomatch h) λz hz rc hrc=>aI.bd λ_=>aI.cb (aI.rq (aI.cb (aI.ok λ_ h=>nomatch h) (aI.rq (aI.bb (alL _) λr hr=>aI.cb (aI.ok λ_ h=>nomatch h) (aI.rq (hrc _ ?_)))))) (aI.ok hz)
 grind
theorem alN(j:vl):aI (λr=>∀w∈r.1,D3 w.fParts) (zk F j):=by
 refine aI.bd λ_=>aI.bd λ_=>aI.bd λ_=>aI.cb (aI.ok λ_ h=>nomatch h) (aI.lT λ_ rc hrc=>aI.cb (aI.rq (aI.cb (aI.ok λ_ h=>nomatch h) (hrc _))) (aI.bb (alM _) λr hr=>aI.bd λ_=>aI.bd λ_=>aI.cb (aI.ok λ_ h=>nomatch h) (aI.ok hr)))
def C1(l:J aB):Prop:=∀r∈l,r.aL=1
theorem C1.nil:C1 []:=λ_ h=>nomatch h
theorem C1.one(t:Bs):C1 [aB.mk t 1]:=λr h=>by simp_all
theorem C1.app(h:C1 a)(h':C1 b):C1 (a++b):=λr hr=>by
 rcases p8.1 hr with hr|hr
 ·exact h r hr
 ·exact h' r hr
section
variable {Q : R -> Prop}
theorem aI.bc{x:O (J aB×bn)}{f:J aB×bn->O R}(h:aI (λz=>C1 z.1) x)(k:∀a,C1 a.1->aI Q (f a)):aI Q (x.bind f):=aI.bb h k
theorem aI.bv{x:O (J aB)}{f:J aB->O R}(h:aI C1 x)(k:∀a,C1 a->aI Q (f a)):aI Q (x.bind f):=aI.bb h k
end
theorem ajk(t v:Bs)(o:Bool)(s:bn):aI C1 (gZ F t v (cg.mk WF o UV) s):=by
 exact aI.ok (C1.one _)
def JC(F n:Nat):Prop:=(∀l o s,vK l=UV->aI (λz=>C1 z.1) ((aG F n).1 l (cg.mk WF o UV) s))/\(∀x o s,tP x=UV->aI (λz=>C1 z.1) ((aG F n).2.1 x (cg.mk WF o UV) s)) /\
 (∀x o s,vK x.fParts=UV->aI (λz=>C1 z.1) ((aG F n).2.2.2.2.1 x (cg.mk WF o UV) s))
theorem an9{l:J TPart}(h:vK l=UV)(i:Nat):tP (l.getD i iP)=UV:=by
 by_cases hi:i<l.length
 ·grind[gd,Xk,List.getElem_mem]
 ·unfold List.getD;rw[Ny om];rfl
theorem ajr:∀n,JC F n
 | 0=>⟨λ_ _ _ _=>aI.no,λ_ _ _ _=>aI.no,λ_ _ _ _=>aI.no⟩
 | n+1=>by
  obtain⟨h1,h2,h3⟩:=ajr n;refine⟨λl o s h=>?_,λx o s h=>?_,λx o s h=>?_⟩
  ·show aI _ (eR F (aG F n) l _ s)
   refine aI.lp (λz=>C1 z.1) C1.nil λz hz rc hrc=>aI.bd λ_=>aI.cb (aI.rq (aI.bc (h2 _ _ _ (an9 h _)) λr hr=>aI.rq (hrc _ (C1.app hz hr)))) (aI.ok hz)
  ·cases x with|mk k t op c ps=>
   have h:((k==7)||vK ps)=UV:=h;rw[Nv]at h;show aI _ (dW F (aG F n) _ _ s);unfold dW wx;simp[TPart.fKind,TPart.fText,TPart.fOp,TPart.fColon,TPart.fParts,ap3,alJ,h.1,aM,aD];have g3:=h3 (TPart.mk k t op c ps) o s h.2;exact aI.au
  ·show aI _ (gQ F (aG F n) x _ s)
   repeat' first|exact aI.no|exact aI.ok (C1.one _)|exact aI.ok C1.nil|exact aI.ok ‹_› | exact h1 _ _ _ h|exact ajk _ _ _ _|refine aI.cb ?_ ?_|refine aI.rq ?_|refine aI.bv ?_ λ_ _=>?_|(refine aI.bc (h1 _ _ _ h) λ_ _=>?_)|refine aI.bd λ_=>?_
theorem aI.ix{Q:R->Prop}{i:Int}{x:O R}(k:i.toNat<n->0<=i->aI Q x):aI Q (Go.RT.rq ((T1 (0<=i))&&(T1 (i<(n:Int)))) x):=aI.rg λh=>by
 simp_all
theorem aI.cd{Q:R->Prop}{x y:O R}{p:Prop}{i:Decidable p}(a:p->aI Q x)(b:¬p->aI Q y):aI Q (cond (@T1 p i) x y):=by
 grind
def Vis(r:aB):Prop:=r.fText≠[]\/r.aL=1
def C01(l:J aB):Prop:=∀r∈l,r.aL=0\/r.aL=1
theorem aey{α:Type}{k:α->Int}:∀(l:J α)(f:J (J α))(n:J α),(∀x∈l,k x=0)->dS k 0 l f n=nX f (n++l)
 | [],f,n,_=>by rw[Te];rfl
 | x::l,f,n,h=>by
  have hx:=h x qK;have:=aey l f (n++[x]) λy hy=>h y (ku _ hy);simp[dS,hx];rw[vM]at this;exact this
theorem Xl(s:Bs){r:aB}(h:r.aL=0\/r.aL=1):(∀e∈lZ r,iI s e=0)/\Fe (lZ r)=r.fText/\(Vis r->lZ r≠[]):=by
 obtain⟨t,c⟩:=r
 have ht:Fe (t.map λb=>aX.mk [b] c)=t:=by
  induction t with
  | nil=>rfl
  | cons b t ih=>unfold Fe at ih⊢;simp_all
 have hk:∀e∈t.map λb=>aX.mk [b] c,iI s e=0:=λe he=>by
  obtain⟨b,-,rfl⟩:=oK.1 he;rcases h with rfl|rfl<;>rfl
 have he:lZ (aB.mk t c)=cond (t==[]&&c==1) [aX.mk [] 1] []++t.map λb=>aX.mk [b] c:=by rcases h with rfl|rfl<;>rfl
 cases t with
 | nil=>
  refine⟨λe he=>?_,?_,λhv=>?_⟩
  ·rcases h with rfl|rfl
   ·cases he
   ·obtain rfl:=vk.1 he;rfl
  ·rcases h with rfl|rfl<;>rfl
  ·rcases hv with hv|hv
   ·exact absurd rfl hv
   simp_all
 | cons b t=>simp_all
theorem adH(l:J aB)(s:Bs)(hc:C01 l)(hv:∃r∈l,Vis r):yo l s=[((l.flatMap lZ).map rP).foldl stepG []]/\Fe (l.flatMap lZ)=fR l/\l.flatMap lZ≠[]:=by
 have h1:∀e∈l.flatMap lZ,iI s e=0:=λe he=>by
  obtain⟨r,hr,he⟩:=Th.1 he;exact(Xl s (hc r hr)).1 e he
 have h2:l.flatMap lZ≠[]:=by
  obtain⟨r,hr,hv⟩:=hv;have:=(Xl s (hc r hr)).2.2 hv
  grind[List.flatMap_eq_nil_iff]
 refine⟨?_,?_,h2⟩
 ·unfold yo
  rw[aey _ _ _ h1];revert h2
  cases l.flatMap lZ with
  | nil=>simp_all
  | cons a t=>intro _;rfl
 ·clear h1 h2 hv
  induction l with
  | nil=>rfl
  | cons r l ih=>
   have ih:=ih λx hx=>hc x (ku _ hx);have:=(Xl s (hc r qK)).2.1;unfold Fe fR at *
   simp_all
theorem ap5(F:Nat)(p:Bs)(hF:20000<=F)(hp:p.length<=5000):PcK F aoK (λ_=>WF) [aB.mk p 1]:=by
 have hsz:bX [aB.mk p 1]=p.length:=by simp[bX]
 have h4:([aB.mk p 1].flatMap nS).length<=bX [aB.mk p 1]:=GH _ Qa _;refine⟨arP F _ bp om si om (ar6 λr hr=>by simp_all),⟨(([aB.mk p 1].flatMap nS).map (·.fb)).flatMap λb=>cu [b],?_⟩,bp,si,om⟩;show rE F (([aB.mk p 1].flatMap nS).map λe=>pb e.fb)=_;rw[show(([aB.mk p 1].flatMap nS).map λe=>pb e.fb)=(([aB.mk p 1].flatMap nS).map (·.fb)).map pb by rw[yD];rfl]
 grind[arQ,List.length_map]
theorem ajs(F:Nat)(l:J bF)(cwd s:Bs)(hF:20000<=F)(hc:nI cwd=WF)(hs:s.length<=5000):vJ F l cwd [aB.mk s 1]=W0 ([s],0):=by
 have hsz:bX [aB.mk s 1]=s.length:=by simp[bX]
 have hpl:=DF s;have hP:=adV s 1 rfl
 have hpc:=pieces_eq (F:=F) (pat:=aoK) (lit:=λ_=>WF) (fs:=l) (dead:=[]) bp om si om (by grind) (aoJ s 1 rfl) (λt ht=>by
  rw[hP]at ht;obtain⟨p,hp,rfl⟩:=oK.1 ht;have:=Ms s p hp
  grind[ap5])
 unfold vJ wx;rw[ajV F cwd [47] om si,afs hc];show((o7 F [aB.mk s 1] l [] WF [] [] []).bind _)=_;rw[hpc,aD];dsimp only;rw[hP,ahH,ajZ F _ om (by rw[Fl];omega),Fl,show(((cE s).map λp=>[aB.mk p 1]).all λ_=>WF)=WF by simp];rfl
theorem aoa(l:J aB)(s:Bs)(hl:l.length<=100000)(hz:bX l<=5000000)(hc:C1 l)(h0:l≠[])(hF:100000000<=F):xC F l s=W0 [[aB.mk (fR l) 1]]:=by
 obtain⟨h4,h3,h5⟩:=adH l s (λr hr=>.inr (hc r hr)) (by
  cases l with
  | nil=>exact absurd rfl h0
  | cons a l=>exact⟨a,qK,.inr (hc a qK)⟩)
 have hk:∀e∈l.flatMap lZ,e.dD=1:=λe he=>by
  obtain⟨⟨t,c⟩,hr,he⟩:=Th.1 he;obtain rfl:c=1:=hc _ hr;rcases p8.1 he with he|he
  ·grind
  grind
 rw[anZ F l s hF om hz,h4,<-h3];revert h5 hk
 cases l.flatMap lZ with
 | nil=>simp_all
 | cons a t=>
  intro _ hk;have ha:=hk a qK;have:=PC (t.map rP) [] a.dh 1 (λr hr=>by obtain⟨e,he,rfl⟩:=oK.1 hr;exact hk e (ku _ he));rw[ajd]at this;have hr:rP a=aB.mk a.dh 1:=by unfold rP;rw[ha]
  rw[jY,hr];exact congrArg (λx=>W0 [x]) this
theorem as2(b:Bool):lJ F (cg.mk UV UV b)=W0 0:=rfl
theorem as3(b:Bool):dV F (cg.mk UV UV b)=W0 2:=rfl
theorem aob:∀(n:Nat)(x:TPart)(s:bn),(x.fKind==4)=UV->qR x.fParts=UV->(aG F n).2.1 x (cg.mk UV UV WF) s=(aG F n).2.1 x (cg.mk UV UV UV) s
 | 0,_,_,_,_=>rfl
 | n+1,x,s,h,h'=>by
  show dW F (aG F n) _ _ s=dW F (aG F n) _ _ s;unfold dW wx;simp[as2,as3,(ajn n).1 _ _ _ h',h]
theorem alO(n:Nat)(x:TPart)(s:bn)(h:(x.fKind==4)=UV)(h':qR x.fParts=UV):(aG F n).1 [x] (cg.mk UV UV WF) s=(aG F n).1 [x] (cg.mk UV UV UV) s:=by
 cases n with
 | zero=>rfl
 | succ n=>
  show eR F (aG F n) _ _ s=eR F (aG F n) _ _ s;unfold eR wx
  grind[aob]
theorem ap6{x:TPart}(h:Yv x=UV):tX F x=W0 UV:=by
 cases x with|mk k t o c ps=>
 have h:(((k==4)&&(t==[64]))||qR ps)=UV:=h;show(((cond (k==4) (W0 (o==0)) (W0 UV):O Bool).bind λx1=>(cond x1 (W0 (t==[64])) (W0 UV):O Bool).bind λx2=>W0 x2))=_
 grind
theorem aoc(n:Nat)(x:TPart)(s:bn)(hs:stop s=UV)(hk:x.fKind=3)(ha:qR x.fParts=UV)(ht:vK x.fParts=UV):aI (λz=>C1 z.1/\z.1≠[]) ((aG F n).1 [x] (cg.mk UV UV UV) s):=by
 have hpt:∀n,aI (λz=>C1 z.1/\z.1≠[]) ((aG F n).2.1 x (cg.mk UV UV UV) s):=λn=>by
  cases n with
  | zero=>exact aI.no
  | succ n=>
   show aI _ (dW F (aG F n) x _ s);unfold dW wx;rw[hk];refine aI.bb ((ajr n).1 x.fParts _ _ ht) λr hr=>aI.lT λi rc hrc=>aI.cd (λh=>aI.ix λhi h0=>?_) λ_=>?_
   ·rw[ap6 (acw ha _),aD]
    exact hrc _
   grind[aI.ok,C1.one]
 cases n with
 | zero=>exact aI.no
 | succ n=>
  show aI _ (eR F (aG F n) _ _ s);refine aI.lp (λz=>(z.1=[]/\z.2.1=0/\z.2.2=s)\/(z.2.1=1/\C1 z.1/\z.1≠[])) (.inl ⟨rfl,rfl,rfl⟩) ?_;rintro⟨o,_,s'⟩ (⟨rfl,rfl,h5⟩|⟨rfl,h5,h6⟩) rc hrc
  ·subst h5
   rw[tZ,hs,cC si,aD,aD,qM,show aC (0+1)=1 from by decide]
   grind[aI.rq,aI.bb]
  simp_all[cf,aD,aM,aI.ok]
def QR(x y:iE×Int):Prop:=x.2=y.2/\x.1.Dw=y.1.Dw/\(x.2=0->x.1.Dw=UV->∃t,x.1.q8=[t]/\y.1.q8=[t])
theorem aod(t:Bs):QR (yL s [t]) (yL s [t]):=⟨rfl,rfl,λh1 h2=>⟨t,by
 unfold yL at h1 h2⊢
 grind⟩⟩
theorem aez(hs:stop s=WF)(a b:J Bs):QR (yL s a) (yL s b):=by
 unfold yL
 cases h:(s.fe != 0)with
 | true=>exact⟨rfl,rfl,λh1 _=>by simp_all⟩
 | false=>
  have hw:s.nN=WF:=by unfold stop at hs;rw[h]at hs;exact hs
  exact⟨rfl,rfl,λ_ h2=>by simp_all⟩
theorem arK(hF:100000000<=F)(w:jc){s':bn}{l:J aB}(hp:tH F w.fParts (dm.mk UV WF 0) (gi fl s)=W0 (l,WF,gi fl s'))(g1:og s')(hc:nI s'.cx.GD=WF)(hl:l.length<=100000)(hz:bX l<=5000000)(h1:C1 l)(h0:l≠[]):
  jw F w (gi fl s)=W0 (cond (T1 (4096<((fR l).length:Int))) ([],UV,{gi fl s' with w8:=3}) ([fR l],WF,gi fl s')):=by
 have hv:=g1.1.1.1.1
 have hX:∃v,((xl F s'.cx.bV ([73,70,83]:Bs)).bind λx3=>(cond x3.2 (W0 x3.1.cY) (W0 UV):Option Bool).bind λx4=>cond x4 (W0 x3.1.bS) (W0 ([32,9,10]:Bs)):Option Bs)=W0 v:=by
  rw[ag0 F _ _ om om,aD]
  cases (j7 s'.cx.bV [73,70,83]).2 with
  | false=>exact⟨_,rfl⟩
  | true=>rw[aY,aD];cases (j7 s'.cx.bV [73,70,83]).1.cY<;>exact⟨_,rfl⟩
 obtain⟨v,hv⟩:=hX;have ef:=aoa l v hl hz h1 h0 hF
 have hT:nJ F [aB.mk (fR l) 1]=W0 (fR l):=by
  have hsz:bX [aB.mk (fR l) 1]=bX l:=by rw[<-CF l];simp[bX]
  have:=GK F [aB.mk (fR l) 1] bp si om;rw[this];simp[fR]
 obtain⟨res,hres⟩:∃z:J Bs×Bool×aO,cond (T1 (4096<((fR l).length:Int))) ([],UV,{gi fl s' with w8:=3}) ([fR l],WF,gi fl s')=z:=⟨_,rfl⟩;rw[hres]
 have main:aA (λr=>r=res) (jw F w (gi fl s)):=by
  unfold jw wx;rw[hp,aD];have hx:(gi fl s').cx=s'.cx:=rfl;have hx2:(gi fl s').Vh=fl:=rfl;simp only[hx,hx2];rw[jd,aM,hv,aD,ef,aD];refine aA.lp (λi=>∃k:Nat,i=(k:Int)/\k<=1/\(k=1->T1 (4096<((fR l).length:Int))=UV)) (λi=>1-i.toNat) ⟨0,rfl,om,λh=>nomatch h⟩ (by show 1-0<F;omega) ?_;rintro _ ⟨k,rfl,hk,hd⟩ rc hrc;by_cases hk:k<1
  ·obtain rfl:k=0:=om
   rw[cC si,cq si,show([[aB.mk (fR l) 1]].getD (Ts ((0:Nat):Int)) [])=[aB.mk (fR l) 1]from rfl,hT,aD,cy de]
   cases hb:T1 (4096<((fR l).length:Int))with
   | true=>rw[hb]at hres;exact aA.ok hres
   | false=>grind
  ·obtain rfl:k=1:=om
   have hd:=hd rfl;have hle:=of_decide_eq_false hd;refine aA.lp (λz=>∃k:Nat,z.2=(k:Int)/\k<=1/\z.1=[fR l].take k) (λz=>1-z.2.toNat) ⟨0,rfl,om,rfl⟩ (by show 1-0<F;omega) ?_;rintro⟨_,_⟩ ⟨k,rfl,hk,rfl⟩ rc' pH;by_cases hk:k<1
   ·obtain rfl:k=0:=om
    rw[cC si,cq si,show([[aB.mk (fR l) 1]].getD (Ts ((0:Nat):Int)) [])=[aB.mk (fR l) 1]from rfl,hT,aD,cq si,ajs F fl _ (fR l) om hc om,aD,cy de];refine aA.cb (λ_=>pH _ ⟨1,rfl,eu _,rfl⟩ (ae3 _)) λ_=>?_;exact pH _ ⟨1,rfl,eu _,rfl⟩ (ae3 _)
   ·obtain rfl:k=1:=om
    simp_all[cf,aA.ok]
 obtain⟨r,rfl,e⟩:=main;exact e
theorem arL(hN:NC<=F)(hF:100000000<=F)(w:jc)(hw:fL w.fParts<=200){a:J gU}(he:VC e)(hA:yJ e.bV)(h1:∀x∈a,x.fText.length<=60)(h2:a.length<=2000):
  T2 RF ((tI F w.fParts (dm.mk UV UV 0) (aO.mk e fl a (-1) UV [] [] 0)).bind λx=>eS F [x.1] x.2.1 x.2.2) ((vC F w.fParts UV (bn.mk e a 0 (-1) 0 [] UV [])).bind λy=>W0 (yL y.2 [y.1])):=by
 refine T2.bd (as1 hN hF w hw (ap2 he hA h1 h2) rfl) ?_;rintro⟨t,ok,x⟩ ⟨t',s'⟩ ⟨⟨⟨g1,g2,g3⟩,-⟩,-⟩;rcases g3 with⟨k1,k2⟩|⟨k1,k2,k3,-⟩
 ·cases k2
  rw[ajj F fl g1 k1 om];exact T2.ok ⟨rfl,aew g1 si⟩
 ·subst k2
  rw[Tc F g1 k3 om [t] [t'] k1];exact T2.ok ⟨rfl,aew g1 si⟩
theorem aoe(hN:NC<=F)(hF:100000000<=F)(w:jc)(p:TPart)(hp:w.fParts=[p])(hw:fL w.fParts<=200)(hk:p.fKind=3)(ha:qR p.fParts=UV)(ht:vK p.fParts=UV){a:J gU}(he:VC e)(hA:yJ e.bV)(hc:nI e.GD=WF)(h1:∀x∈a,x.fText.length<=60)(h2:a.length<=2000):
  T2 QR (oe F e fl [w] a) (vg F e fl w a):=by
 have hg:=ap2 he hA h1 h2;obtain⟨m,rfl⟩:∃m,F=m+1:=⟨F-1,om⟩;obtain⟨⟨r1,ok1,x1⟩,⟨r',s'⟩,⟨g1,g2,g3⟩,e1,e2⟩:=ag2 (fl:=fl) hN hF (Xi _ hF) (m+1) m w.fParts (dm.mk UV WF 0) (cg.mk UV UV WF) (s0 e a) ⟨rfl,rfl⟩ hg rfl om om om;have hkk:(p.fKind==4)=UV:=by rw[hk];rfl
 have XF:(aG (m+1) m).1 w.fParts (cg.mk UV UV UV) (s0 e a)=W0 (r',s'):=by
  simp_all[alO]
 obtain⟨c1,c2⟩:C1 r'/\r'≠[]:=aoc (F:=m+1) m p (s0 e a) rfl hk ha ht (r',s') (by rw[hp]at XF;exact XF);have hi:IV {e with bV:=[]} s':=(ajl (F:=m+1) m).1 _ _ (s0 e a) rfl _ e2
 have s7:nI s'.cx.GD=WF:=by
  have q:=congrArg eU.GD (show({s'.cx with bV:=[]}:eU)={e with bV:=[]}from hi)
  simp_all
 have b1:r'.length<=26*fL w.fParts:=g2.1;have b2:bX r'<=5000*fL w.fParts:=g2.2;have hT:uz (m+1) r'=W0 (fR r'):=by rw[<-arD (m+1) _ om om om,GK (m+1) _ om om om]
 obtain⟨tx,ty,hxy,t1,t2⟩:=arL (fl:=fl) hN hF w hw he hA h1 h2;have hxy:tx=ty:=hxy.1;subst hxy
 have hone:vC (m+1) w.fParts UV (s0 e a)=(cond (T1 (4096<((fR r').length:Int))) ((gN (m+1) 3 [] s').bind λx3=>W0 (fR r',x3)) (W0 (fR r',s'))):=by
  show mG (m+1) (aG (m+1) m) w.fParts UV (s0 e a)=_;unfold mG wx
  simp_all
 have t2:((vC (m+1) w.fParts UV (s0 e a)).bind λy=>W0 (yL y.2 [y.1]))=W0 tx:=t2;rw[hone]at t2
 have arM:vg (m+1) e fl w a=W0 tx:=by
  unfold vg xj wx
  simp_all[aD,To]
 rw[arM]
 have main:aA (λr=>QR r tx) (oe (m+1) e fl [w] a):=by
  unfold oe xj wx;dsimp only[Option.bind_some];refine aA.lp (λz:J Bs×Int×aO=>z=([],0,gi fl (s0 e a))\/(z=([fR r'],1,gi fl s')/\stop s'=UV/\tx=yL s' [fR r'])) (λz=>1-z.2.1.toNat) (.inl rfl) (by show 1-0<m+1;omega) ?_;rintro _ (rfl|⟨rfl,st,rfl⟩) rc hrc
  ·dsimp only at hrc⊢
   rw[cC si,cq si,show([w].getD (Ts 0) yQ)=w from rfl];dsimp only at g1 g3;rcases g3 with⟨st,a1,j1⟩|⟨st,a1,a2,-⟩
   ·cases a1
    have q1:=j1.2 λ_=>rfl;subst q1;rw[arK hF w (s:=s0 e a) e1 g1 s7 om om c1 c2,aD]
    cases hb:T1 (4096<((fR r1).length:Int))with
    | true=>
     rw[hb,aY,uV,aD,aD]at t2;cases t2;obtain⟨f1,f2⟩:=failed (fl:=fl) (e:=3) (m:=[]) st de;simp only[aY,aM,aD,qM];have hq:eS (m+1) [] UV {gi fl s' with w8:=3} = W0 (yL _ []):=Tc (m+1) (Mg g1 3 []) f2 om [] [] f1
     grind[aA.ok,aez]
    | false=>
     rw[hb,aM,aD]at t2;cases t2;simp only[aY,aM,aD,jd];rw[cf (by show ¬ ((512:Int)<aC (0+1));decide),aD];dsimp only;rw[jd,aM,cq si];exact hrc _ (.inr ⟨by simp;decide,st,rfl⟩) (ae3 _)
   ·have a1:ok1=UV:=a1
    subst a1
    have hw1:jw (m+1) w (gi fl (s0 e a))=W0 ([],UV,x1):=by
     unfold jw wx;rw[show tH (m+1) w.fParts (dm.mk UV WF 0) (gi fl (s0 e a))=W0 (r1,UV,x1)from e1];rfl
    have hs:(cond (T1 (4096<((fR r').length:Int))) ((gN (m+1) 3 [] s').bind λx3=>W0 (fR r',x3)) (W0 (fR r',s')):O (Bs×bn))=W0 (fR r',s'):=by
     simp_all[uV]
    rw[hs,aD]at t2;cases t2;rw[hw1,aD];simp only[aM,aD,qM,aY]
    grind[Tc,aA.ok,aez]
  ·dsimp only at hrc⊢
   rw[cf si,ajj (m+1) fl g1 st om];exact aA.ok (aod _)
 obtain⟨r,hr,e⟩:=main;exact⟨r,tx,hr,e,rfl⟩
mutual
def tzP(d:Int):TPart->J Bs
 | .mk k t _ _ ps=>cond (k==d) [t] []++nG d ps
def nG(d:Int):J TPart->J Bs
 | []=>[]
 | p::l=>tzP d p++nG d l
end
theorem acy(d:Int):∀l m:J TPart,nG d (l++m)=nG d l++nG d m
 | [],m=>rfl
 | p::l,m=>by rw[vO,nG,nG,acy d l m,vM]
mutual
theorem aof(d:Int):∀p:TPart,(tzP d p).length<=wP p
 | .mk k t o c ps=>by
  have:=HT d ps;show(cond (k==d) [t] []++nG d ps).length<=1+t.length+fL ps;rw[vi];cases (k==d)<;>simp<;>omega
theorem HT(d:Int):∀l:J TPart,(nG d l).length<=fL l
 | []=>eu _
 | p::l=>by
  have h1:=aof d p;have h2:=HT d l;show(tzP d p++nG d l).length<=wP p+fL l;rw[vi];omega
end
theorem ajt(F:Nat)(d:Int)(hF:100000000<=F):∀(n:Nat)(l:J TPart),fL l<n->fL l<=1000000->uU F n l d=W0 (nG d l)
 | 0,l,h,_=>absurd h (aeW _)
 | n+1,l,h,hl=>by
  have hlen:=Ct l;show M3 F (uU F n) l d=_;refine cG (λz:J Bs×Int=>∃k:Nat,z=(nG d (l.take k),(k:Int))/\k<=l.length) (λz=>l.length-z.2.toNat) ?_ F _ ⟨0,rfl,Nat.zero_le _⟩ (by grind);rintro _ ⟨k,rfl,hk⟩;dsimp only;by_cases hk:k<l.length
  ·left
   refine⟨(nG d (l.take (k+1)),((k+1:Nat):Int)),⟨k+1,rfl,hk⟩,bp,λrc=>?_⟩;have hm:=VI hk;rw[gd hk]at hm;have hone:=Gy l[k];have ih:=ajt F d hF n (l[k]).fParts om om;have h1:=HT d (l.take k);have h2:=Gz l k;have h3:=HT d (l[k]).fParts
   have e:nG d (l.take (k+1))=nG d (l.take k)++(cond ((l[k]).fKind==d) [(l[k]).fText] []++nG d (l[k]).fParts):=by
    rw[mh hk,acy];congr 1;show tzP d l[k]++[]=_;rw[Te];cases l[k];rfl
   have hc:(cond ((l[k]).fKind==d) (rq ((T1 (0<=(k:Int)))&&(T1 ((k:Int)<(l.length:Int)))) (rq ((T1 ((nG d (l.take k)).length+([(l[k]).fText]:J Bs).length<=9223372036854775807))&&(T1 (((nG d (l.take k)).length+([(l[k]).fText]:J Bs).length)*16<=140737488355328))) (W0 (nG d (l.take k)++([(l[k]).fText]:J Bs)))))
     (W0 (nG d (l.take k))):O (J Bs))=W0 (nG d (l.take k)++cond ((l[k]).fKind==d) [(l[k]).fText] []):=by
    cases ((l[k]).fKind==d)with
    | true=>rw[aY,bR hk,ez bp de];rfl
    | false=>simp_all
   rw[cC om,bR hk,b9,gd hk,hc,aD,bR hk,ih,aD,cy om,ez (by
    grind) de,e,List.append_assoc]
  grind
mutual
theorem ap7:∀p:TPart,(tzP 4 p).contains [64]=Yv p
 | .mk k t _ _ ps=>by
  have h:=Xm ps;show(cond (k==4) [t] []++nG 4 ps).contains [64]=(((k==4)&&(t==[64]))||qR ps);rw[<-h]
  cases (k==4)with
  | false=>simp
  | true=>
   have e:([64]==t)=(t==[64]):=by rw[qb,p7,p7];exact eq_comm
   show(t::nG 4 ps).contains [64]=_;rw[Zr,e];simp
theorem Xm:∀l:J TPart,(nG 4 l).contains [64]=qR l
 | []=>rfl
 | p::l=>by
  have h1:=ap7 p;have h2:=Xm l;show(tzP 4 p++nG 4 l).contains [64]=(Yv p||qR l);rw[<-h1,<-h2];rw[qb];simp
end
theorem arN{l:J α}{k:Nat}(h:k<l.length):sl l (k:Int) ((k+1:Nat):Int)=[l[k]]:=by
 grind[sl,Int.toNat_natCast,List.take_succ_eq_append_getElem,List.length_take,List.drop_eq_nil_of_le]
theorem as4(F:Nat)(l:J Bs)(t:Bs)(hF:l.length<F)(hl:l.length<=1000000):Jm F l t=W0 (l.contains t):=by
 refine cG (λz=>∃k:Nat,z=(k:Int)/\k<=l.length/\l.contains t=(l.drop k).contains t) (λz=>l.length-z.toNat) ?_ F _ ⟨0,rfl,gj _,rfl⟩ (by simp_all);rintro _ ⟨k,rfl,hk,h⟩;by_cases hk:k<l.length
 ·have hd:=ua hk
  cases he:(l[k]==t)with
  | true=>
   right;intro rc;rw[cC om,bR hk,b9,gd hk,h,hd,eq_of_beq he]
   simp
  | false=>
   left;refine⟨_,⟨k+1,rfl,hk,?_⟩,bp,λrc=>by rw[cC om,bR hk,b9,gd hk,he,aM,cy om]⟩
   grind
 grind
theorem expandQuotes(j:vl)(h1:K.gJ j.rW.GC)(h2:K.gJ j.rW.rA):∃F,jZ F j=W0 WF:=by
 obtain⟨F,hN,hF⟩:∃F,NC<=F/\100000000<=F:=⟨NC+100000000,om,om⟩;refine⟨F,?_⟩;obtain⟨r,hr,e⟩:=an5 F j hN hF h1 h2;have hd3:=alN j r e;unfold jZ wx
 try simp only[LA]
 rw[e,aD,an7]
 cases hb:r.2 with
 | false=>rfl
 | true=>
  obtain⟨hfit,-,-,⟨a1,a2⟩,w1,w2⟩:=hr hb;have hge:=aev hfit h1 h2;have hA:=hfit.2.2.2.2.2.2.2.2.2;rw[jd,aM];refine cG (λs:Int=>∃k:Nat,s=(k:Int)/\k<=r.1.length) (λs=>r.1.length-s.toNat) ?_ F _ ⟨0,rfl,om⟩ bp;rintro _ ⟨k,rfl,hk⟩;by_cases hk:k<r.1.length
  ·left
   refine⟨_,⟨k+1,rfl,om⟩,bp,λrc=>?_⟩;have hwk:=w2 _ (iJ hk);have hd:=hd3 _ (iJ hk);simp only[cC (show(k:Int)<(r.1.length:Int) by omega),bR hk,b9,gd hk,cy (show k<9223372036854775807 by omega),vV (show(0:Int)<=(k:Int) by omega) (show(k:Int)<=((k+1:Nat):Int) by omega) (show((k+1:Nat):Int)<=(r.1.length:Int) by omega),arN hk];revert hwk hd;generalize r.1[k]=w;intro hwk hd;rcases hp:w.fParts with _|⟨p,_|⟨p2,l⟩⟩
   ·rfl
   ·have hl:=Ct w.fParts
    have hw5:=HT 4 w.fParts
    have hP:B8 F [p]=W0 (nG 4 [p]):=by
     unfold B8 R1 wx
     grind[ajt]
    have hH:Jm F (nG 4 [p]) [64]=W0 (qR [p]):=by grind[as4,Xm]
    rw[cq si,show([p].getD 0 iP)=p from rfl,hP];simp only[aD,hH]
    cases yU:(p.fKind==3)with
    | false=>
     grind
    | true=>
     have:(p.fKind != 3)=UV:=by simp only[bne,yU];rfl
     rw[this];simp only[List.length_singleton,Sc,aM,aD,show(((0+1:Nat):Int) != 1)=UV from rfl,show(((1:Nat):Int) != 1)=UV from rfl,qL,Ax];have hk4:(p.fKind==4)=UV:=by rw[eq_of_beq yU];rfl
     have hat:qR [p]=qR p.fParts:=by
      obtain⟨pk,pt,po,pc,pl⟩:=p;show((((pk==4)&&(pt==[64]))||qR pl)||false)=qR pl;rw[show(pk==4)=UV from hk4];simp
     cases ha:qR [p]with
     | true=>rfl
     | false=>
      simp only[aM];obtain⟨x,y,⟨q1,q2,q3⟩,e1,e2⟩:=aoe (fl:=j.qh) hN hF w p hp om (eq_of_beq yU) (hat▸ha) (hd p (by simp_all) (eq_of_beq yU)) hge hA hfit.2.2.2.2.1 a2 om;simp only[e1,e2,aD];rw[q1,q2];simp only[Sc,Gt,jd,aM,aD];rw[q1,q2]at q3
      cases hy:(y.2==0)with
      | false=>rfl
      | true=>
       cases hyw:y.1.Dw with
       | true=>rfl
       | false=>
        obtain⟨t,t1,t2⟩:=q3 (eq_of_beq hy) hyw;rw[t1,t2];simp;rfl
   grind
  grind
end Go.Proofs.YtkmlndnhiboofaaGreatDoor
