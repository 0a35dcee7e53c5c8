import Derived.Test.YteagcbkkonabbaaGreatDoorRi
import Derived.Lib.RowBridge
set_option linter.all false
namespace Go.RT
set_option linter.unusedVariables false
open Go.RowKit
variable {E : TEnv}
theorem grow_none (w:World):Sort.grow w #[]=w:=by
 unfold Sort.grow
 simp
def revF (F:Nat) (l:List (List UInt8)):Option (List (List UInt8)):=rq (decide (l.length≤9223372036854775807)) (some l.reverse)
def revC (E:TEnv) (f:FuncId) (e:TypeId) (F:Nat):Ctr E:=⟨⟨f,[.one (.gso 0)],[],[(e,1)],⟨.one .any,[],[none],[(0,.str)]⟩,none,[(0,.str)]⟩,fun (x:List (List UInt8))=>revF F x⟩
structure RevSAt (P:Program) (f:FuncId):Prop where
 enters:∀args w,(callFunc f args).run P w=.ok (.enter f args) w
 some:∀(blk cap:Nat) (ss:List (List UInt8)) (w:World),Sort.Holds Go.Proofs.encStr w blk 0 ss.toArray→ss.length≤9223372036854775807→Calls P f #[.slice (some ⟨blk,0,none⟩) ss.length cap] w fun e w' =>
   e=.returned (.tuple #[])∧∃n,w'=Sort.putRow Go.Proofs.encStr (Sort.ahead w n) blk 0 ss.reverse.toArray
 none:∀(p:Option Addr) (cap:Nat) (w:World),Calls P f #[.slice p 0 cap] w fun e w'=>e=.returned (.tuple #[])∧w'=w
theorem revS_ok {P:Program} {f:FuncId} {e:TypeId} (h:RevSAt P f) (F:Nat):(revC E f e F).Ok P:=by
 have key:∀(l y:List (List UInt8)),revF F l=some y→ACalls (E:=E) P f [.gso 0 0] [] [⟨0,e,1⟩] [(0,⟨.str,l⟩)] ⟨true,.any,[],[⟨0,e,1⟩],[],[(0,⟨.str,y⟩)]⟩:=by
  intro l y hy
  obtain⟨h1,h2⟩:=rq_some hy
  rw [decide_eq_true_eq] at h1
  cases h2
  intro w G args hP hB hS hv
  obtain⟨u,us,ha,hv1,hv2⟩:=hv.cons_inv
  have hv2:us=[]:=by simpa only [VTs] using hv2
  subst hv2
  have ha:args=#[u]:=by apply Array.ext';exact ha
  subst ha
  unfold Invokes
  rw [h.enters]
  have hr:=Rel.initL (n:=0) (ds:=[]) (args:=#[]) hP hB hS .nil
  obtain⟨v,hj,hs,hval⟩:=hr.soft (j:=0) (g:=⟨0,e,1⟩) (c:=⟨.str,l⟩) rfl rfl
  have hve:=hval u hv1
  subst hve
  rcases hs.block with⟨q1,q2⟩ | ⟨b,cap,cur,q1,hheap,hcap,hcm,hcs,hfv,hnp⟩
  ·have q2:l=[]:=q2
   subst q2 q1
   refine (h.none none 0 w).mono fun e' w' hh=>?_
   obtain⟨rfl,rfl⟩:=hh
   exact⟨_,G,rfl,Evol.refl _ G,hB,hS,by simp only [VT],fun _ _ _ _=>rfl⟩
  ·subst q1
   have hft:=flat_strs hfv
   have hft:cur.toList.take l.length=l.map Go.Proofs.encStr:=by rw [Nat.mul_one] at hft;exact hft
   have hH:=Go.holds_of_block hheap hft
   refine (h.some b cap l w hH h1).mono fun e' w' hh=>?_
   obtain⟨rfl,n,rfl⟩:=hh
   have hsl:l.reverse.length=l.length:=List.length_reverse
   have hown:=Go.ownsRow_sorted (n:=n) (os:=#[]) (base:=0) (ts:=l.reverse) (ss:=l) hsl (Nat.zero_le _) hheap hcap hcm hcs
   have hgb:=Go.grownBy_sorted (w:=w) (g:=b) (n:=n) (os:=#[]) l.reverse.toArray
   rw [grow_none] at hown hgb
   have hR:=hr.rewSoft (j:=0) (g:=⟨0,e,1⟩) (c:=⟨.str,l⟩) rfl rfl hj (w':=Sort.putRow Go.Proofs.encStr (Sort.ahead w n) b 0 l.reverse.toArray) hgb (ys:=l.reverse) (by rw [hsl];exact hown) (strs_flatL l.reverse)
   exact⟨_,G,rfl,hR.evol,hR.boxes,hR.softs,by simp only [VT],fun q b hq _=>hR.fix q b hq (by simp)⟩
 intro x y hy
 exact key x y hy
def compF' (F:Nat) (l:List (List UInt8)):Option (List (List UInt8)):=rq (decide (l.length≤9223372036854775807)) (some (Lib.compact l))
def compC' (E:TEnv) (f:FuncId) (e:TypeId) (F:Nat):Ctr E:=⟨⟨f,[.one (.gso 0)],[],[(e,1)],⟨.one (.gso 0),[],[some (e,1)],[(0,.str)]⟩,none,[(0,.str)]⟩,fun (x:List (List UInt8))=>compF' F x⟩
structure CompAt (P:Program) (f:FuncId):Prop where
 enters:∀args w,(callFunc f args).run P w=.ok (.enter f args) w
 some:∀(blk cap:Nat) (ss:List (List UInt8)) (w:World),Sort.Holds Go.Proofs.encStr w blk 0 ss.toArray→ss.length≤9223372036854775807→ss.length≤cap→Calls P f #[.slice (some ⟨blk,0,none⟩) ss.length cap] w fun e w' =>
   e=.returned (.slice (some ⟨blk,0,none⟩) (Lib.compact ss).length cap)∧∃n,w'=Sort.putRow Go.Proofs.encStr (Sort.ahead w n) blk 0 (Lib.compact ss++List.replicate (ss.length - (Lib.compact ss).length) []).toArray
 none:∀(p:Option Addr) (cap:Nat) (w:World),Calls P f #[.slice p 0 cap] w fun e w'=>e=.returned (.slice p 0 cap)∧w'=w
theorem comp_ok' {P:Program} {f:FuncId} {e:TypeId} (h:CompAt P f) (F:Nat):(compC' E f e F).Ok P:=by
 have key:∀(l y:List (List UInt8)),compF' F l=some y→ACalls (E:=E) P f [.gso 0 0] [] [⟨0,e,1⟩] [(0,⟨.str,l⟩)] ⟨true,.gso 0 1,[],[⟨1,e,1⟩],[],[(0,⟨.str,y⟩)]⟩:=by
  intro l y hy
  obtain⟨h1,h2⟩:=rq_some hy
  rw [decide_eq_true_eq] at h1
  cases h2
  intro w G args hP hB hS hv
  obtain⟨u,us,ha,hv1,hv2⟩:=hv.cons_inv
  have hv2:us=[]:=by simpa only [VTs] using hv2
  subst hv2
  have ha:args=#[u]:=by apply Array.ext';exact ha
  subst ha
  unfold Invokes
  rw [h.enters]
  have hr:=Rel.initL (n:=0) (ds:=[]) (args:=#[]) hP hB hS .nil
  obtain⟨v,hj,hs,hval⟩:=hr.soft (j:=0) (g:=⟨0,e,1⟩) (c:=⟨.str,l⟩) rfl rfl
  have hve:=hval u hv1
  subst hve
  obtain⟨n0,xs0,hown0,hz0,hb0⟩:=hr.boxes.grow 0 _ _ hj
  have hz:∀a m,u=.slice (some a) m 0→E.zc e=true:=hz0
  rcases hs.block with⟨q1,q2⟩ | ⟨b,cap,cur,q1,hheap,hcap,hcm,hcs,hfv,hnp⟩
  ·have q2:l=[]:=q2
   subst q2 q1
   refine (h.none none 0 w).mono fun e' w' hh=>?_
   obtain⟨rfl,rfl⟩:=hh
   obtain⟨G',hR,hV⟩:=hr.reSoft (j:=0) (g:=⟨0,e,1⟩) (c:=⟨.str,[]⟩) rfl rfl hj (w':=w') (v':=.slice none 0 0) ⟨rfl,rfl,rfl,Nat.le_refl _,fun _ _ _=>rfl⟩ (ys:=[]) (vals:=[]) ⟨rfl,.inl ⟨rfl,rfl⟩⟩ (strs_flatL []) (fun b hb=>by cases hb) (fun a m he=>by cases he) rfl
   exact⟨_,G',rfl,hR.evol,hR.boxes,hR.softs,hV,fun q b hq _=>hR.fix q b hq (by simp)⟩
  ·subst q1
   have hft:=flat_strs hfv
   have hft:cur.toList.take l.length=l.map Go.Proofs.encStr:=by rw [Nat.mul_one] at hft;exact hft
   have hH:=Go.holds_of_block hheap hft
   refine (h.some b cap l w hH h1 hcap).mono fun e' w' hh=>?_
   obtain⟨rfl,n,rfl⟩:=hh
   have hcl:(Lib.compact l).length≤l.length:=Lib.compact_length_le l
   have hsl:(Lib.compact l++List.replicate (l.length - (Lib.compact l).length) ([]:List UInt8)).length=l.length:=by simp;omega
   have hown:=Go.ownsRow_sorted (n:=n) (os:=#[]) (base:=0) (ts:=Lib.compact l++List.replicate (l.length - (Lib.compact l).length) []) (ss:=l) (e:=e) hsl (Nat.zero_le _) hheap hcap hcm hcs
   have hgb:=Go.grownBy_sorted (w:=w) (g:=b) (n:=n) (os:=#[]) (Lib.compact l++List.replicate (l.length - (Lib.compact l).length) []).toArray
   rw [grow_none] at hown hgb
   have hown2:(Sort.putRow Go.Proofs.encStr (Sort.ahead w n) b 0 (Lib.compact l++List.replicate (l.length - (Lib.compact l).length) []).toArray).ownsRow 0 e 1 (.slice (some ⟨b,0,none⟩) (Lib.compact l).length cap) (Lib.compact l).length ((Lib.compact l).map Go.Proofs.encStr):=by
    obtain⟨o1,o2⟩:=hown
    rcases o2 with⟨o2,-⟩ | ⟨g,cap',cur',o2,o3,o4,o5,o6,o7,o8⟩
    ·cases o2
    ·simp only [Value.slice.injEq,Option.some.injEq,Addr.mk.injEq] at o2
     obtain⟨⟨rfl,-,-⟩,-,rfl⟩:=o2
     refine⟨by simp,.inr ⟨b,cap,cur',rfl,Nat.zero_le _,o4,by omega,o6,o7,?_⟩⟩
     have:=congrArg (List.take (Lib.compact l).length) o8
     have e1:((Lib.compact l).map Go.Proofs.encStr).length=(Lib.compact l).length:=List.length_map _
     rw [List.take_take,Nat.mul_one,Nat.min_eq_left hcl,List.map_append,←e1,List.take_left,e1] at this
     rw [Nat.mul_one]
     exact this
   generalize Sort.putRow Go.Proofs.encStr (Sort.ahead w n) b 0 (Lib.compact l++List.replicate (l.length - (Lib.compact l).length) []).toArray=W' at hgb hown2 ⊢
   generalize Lib.compact l=y at hown2 ⊢
   have hz':∀a m,Value.slice (some ⟨b,0,none⟩) y.length cap=.slice (some a) m 0→E.zc e=true:=fun a m he=>by
    simp only [Value.slice.injEq] at he
    exact hz ⟨b,0,none⟩ l.length (congrArg (fun c=>Value.slice (some ⟨b,0,none⟩) l.length c) he.2.2)
   obtain⟨G',hR,hV⟩:=hr.reSoft (j:=0) (g:=⟨0,e,1⟩) (c:=⟨.str,l⟩) rfl rfl hj (w':=W') (v':=.slice (some ⟨b,0,none⟩) y.length cap) hgb (ys:=y) (vals:=y.map Go.Proofs.encStr) hown2 (strs_flatL y) (fun b' hb=>.inr hb) hz' rfl
   exact⟨_,G',rfl,hR.evol,hR.boxes,hR.softs,hV,fun q b hq _=>hR.fix q b hq (by simp)⟩
 intro x y hy
 exact key x y hy
end Go.RT
