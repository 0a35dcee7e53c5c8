import Derived.Test.YteagcbkkonabbaaGreatDoorRi
import Derived.Lib.AtoiAll
import Derived.Lib.ConvBytes
import Derived.Below
import Derived.Lib.LaidTab
set_option linter.all false
namespace Go.RT
set_option linter.unusedVariables false
open Go.Proofs Go.RowKit
variable {E : TEnv}
def atoiF (F:Nat) (s:List UInt8):Option Int:=match Lib.atoiAll s with
 | .ok v=>rq (decide (s.length≤9223372036854775806)) (some v)
 | _=>none
def atoiC (E:TEnv) (f:FuncId) (F:Nat):Ctr E:=⟨⟨f,[.one (.dat .str)],[],[],⟨.tup [.dat (.int .i64),.nil .iface],[],[],[]⟩,none,[]⟩,fun (x:List UInt8)=>atoiF F x⟩
structure AtoiAt (P:Program) (f:FuncId):Prop where
 enters:∀args w,(callFunc f args).run P w=.ok (.enter f args) w
 call:∀(s:ByteArray) (v:Int) (w:World),s.size≤9223372036854775806→Lib.atoiAll s.data.toList=.ok v→Calls P f #[.string s] w fun e w' =>
  e=.returned (.tuple #[.int .i64 v,.nilIface])∧(w'=w∨∃t u,w'=Lib.bytesWorld w t u)
theorem below_bytes (w:World) (t:TypeId) (s:ByteArray):Below w.heap.size w (Lib.bytesWorld w t s):=by
 unfold Lib.bytesWorld
 have h:=((Below.refl w.heap.size w).drew).alloc (Nat.le_refl _) (.cells (Lib.bytesCells w t s) t)
 refine h.trans ⟨rfl,rfl,rfl,by simp [World.freeze],fun k hk=>?_⟩
 unfold World.freeze
 show (Array.modify _ _ _)[k]? = _
 rw [Array.getElem?_modify,if_neg (by simp;omega)]
theorem atoi_ok {P:Program} {f:FuncId} (h:AtoiAt P f) (F:Nat):(atoiC E f F).Ok P:=by
 have key:∀(s:List UInt8) (v:Int),atoiF F s=some v→ACalls (E:=E) P f [.dat .str s] [] [] [] ⟨true,.tuple [.dat (.int .i64) v,.val .nilIface],[],[],[],[]⟩:=by
  intro s v hy
  unfold atoiF at hy
  have hex:∃v',Lib.atoiAll s=.ok v'∧rq (decide (s.length≤9223372036854775806)) (some v')=some v:=by
   cases hv:Lib.atoiAll s<;>rw [hv] at hy<;>first | exact⟨_,rfl,hy⟩ | (cases hy;done)
  obtain⟨v',hv',hy⟩:=hex
  obtain⟨h1,h2⟩:=rq_some hy
  rw [decide_eq_true_eq] at h1
  cases h2
  refine calls_plain h.enters fun w G args hP hv=>⟨.tuple #[.int .i64 v,.nilIface],fun w G=>?_,?_⟩
  ·simp only [VT]
   exact⟨_,rfl,.cons (.int _ _ _ _) (.cons (by simp only [VT]) .nil)⟩
  obtain⟨u,us,ha,hv1,hv2⟩:=hv.cons_inv
  have hv2:us=[]:=by simpa only [VTs] using hv2
  have e1:=hv1.str_inv
  subst e1 hv2
  have ha:args=#[mkStr s]:=by apply Array.ext';exact ha
  subst ha
  refine (h.call ⟨⟨s⟩⟩ v w h1 hv').mono fun e w' hh=>?_
  obtain⟨rfl,hw⟩:=hh
  refine⟨rfl,?_⟩
  rcases hw with rfl | ⟨t,u,rfl⟩
  ·exact Below.refl _ _
  ·exact below_bytes _ _ _
 intro x y hy
 exact key x y hy
def tabDataS {H:Type} (zs:List (List UInt8)):DataW H:=.agg (zs.map fun z=>.lit (.string z))
def TabIsS (P:Program) (w:World) (name:String) (zs:List (List UInt8)):Prop:=w.var? P name=some (zs.map mkStr).toArray
theorem cells_of_tabS {H:Type} {enc:TypeId × Value→H} {P:Program} {w:World} {base:Nat} {sp:Nat→Bool} {held:Bool} {fuel:Nat} {t e:TypeId} {n:Nat} {cs:List Value} {zs:List (List UInt8)} {p:List MemPlace}
  (ht:P.underlying t=some (.array n e)) (he:P.underlying e=some .string) (hce:P.cellsOf e=1) (hct:P.cellsOf t=n)
  (h:DataW.trod enc P w base sp held fuel t cs=some (tabDataS zs,p)):cs=zs.map mkStr:=by
 cases fuel with
 | zero=>simp [DataW.trod] at h
 | succ fuel =>
  simp only [DataW.trod,ht,hce,hct,Nat.mul_one] at h
  split at h
  ·rename_i hl
   obtain⟨xs,hm,hx⟩:=Option.map_eq_some_iff.1 h
   have hxs:xs.map (·.1)=zs.map fun z=>(DataW.lit (.string z):DataW H):=by
    have:=congrArg Prod.fst hx
    simpa [tabDataS] using this
   have hxl:xs.length=n:=by simpa using Lib.mapM_length hm
   have hzl:zs.length=n:=by
    have:=congrArg List.length hxs
    simp at this
    omega
   apply List.ext_getElem?
   intro i
   by_cases hi:i<n
   ·obtain⟨b,hb,hf⟩:=Lib.mapM_at hm i i (by simp [hi])
    obtain⟨z,hc,rfl,_⟩:=DataW.trod_string he hf
    have h1:cs[i]? = some (.string z):=by
     have:=congrArg (·[0]?) hc
     simpa [List.getElem?_take,List.getElem?_drop] using this
    have h2:(xs.map (·.1))[i]? = some (DataW.lit (.string z.data.toList):DataW H):=by simp [hb]
    rw [hxs] at h2
    simp only [List.getElem?_map,Option.map_eq_some_iff,DataW.lit.injEq,Lit.string.injEq] at h2
    obtain⟨z',hz',e⟩:=h2
    rw [h1,List.getElem?_map,hz',e]
    rfl
   ·rw [List.getElem?_eq_none (by omega),List.getElem?_eq_none (by simp;omega)]
  ·cases h
theorem tabIsS_of_head {P:Program} {W:World} {name:String} {zs:List (List UInt8)} {rest:List (String × DataW Unit)} {g:Nat} {t e:TypeId} {n:Nat}
  (hg:P.globalNamed name=some g) (hty:(P.globals[g]?).map (·.type)=some t) (ht:P.underlying t=some (.array n e)) (he:P.underlying e=some .string) (hce:P.cellsOf e=1) (hct:P.cellsOf t=n)
  (h:laidMet P ((name,tabDataS zs)::rest) W):TabIsS P W name zs:=by
 obtain⟨ps,⟨g',t',cs,fuel,p,q,hg',ht',hvar,hd,_,_⟩,_⟩:=h
 obtain rfl:=Option.some.inj (hg.symm.trans hg')
 obtain rfl:=Option.some.inj (hty.symm.trans ht')
 unfold TabIsS
 rw [hvar,←cells_of_tabS ht he hce hct hd]
theorem tabOk_strs {W:World} {b:Nat} {zs:List (List UInt8)} {t:TypeId} {m:Nat × Nat} (h:W.heap[b]? = some (.cells (zs.map mkStr).toArray t m)) :
  TabOk E W (fun b _=>b<W.heap.size) b .str zs:=by
 have hb:b<W.heap.size:=(Array.getElem?_eq_some_iff.1 h).1
 unfold TabOk
 have hl:(zs.map (Ty.cells E .str)).length=zs.length:=by simp
 rw [←hl]
 refine .slice b 0 _ _ _ (fun j _=>mkStr (zs.getD j [])) (Nat.le_refl _) (fun j hj=>?_) (fun j l hj hl'=>⟨hb,?_⟩) (fun j l hj hl'=>?_)
 all_goals rw [hl] at hj
 ·simp [List.getD,hj,Ty.cells,Ty.size]
 ·obtain rfl:l=0:=by simp [Ty.size] at hl';exact hl'
  simp [World.cell?,h,Ty.size,List.getD,hj]
 ·obtain rfl:l=0:=by simp [Ty.size] at hl';exact hl'
  simp only [List.getD,List.getElem?_map,List.getElem?_eq_getElem hj,Option.map_some,Option.getD_some,Ty.cells]
  exact .str _
end Go.RT
