import Derived.Test.YtmklhkmeampamaaGreatDoorTy
import Derived.Test.YtmklhkmeampamaaGreatDoorIa
import Derived.Test.YtmklhkmeampamaaGreatDoorRi
import Derived.KernelRfl
namespace Go.Proofs.YtmklhkmeampamaaGreatDoor
set_option linter.all false
open Go.RT Go.RowKit Go.Maps Go.Sort Go.Shelf
open Go.Proofs (encStr)
theorem xtra : Builder.Extra Tryz.prog Tryz.joinL_ren := {
  sizeBuilder := by kernel_rfl
  liesBuilder := by kernel_rfl
  t5 := Tryz.underlying5
  a5 := Tryz.isAgg5
  z5 := Tryz.sizeOf5
  v5 := Tryz.zeroValue5
  infoByte := by kernel_rfl
  cellsByte := by kernel_rfl
  sizeByte := by kernel_rfl
  neB5 := by decide }
theorem joinAt : JoinAt Tryz.prog 31 :=
  ⟨entersOf Tryz.func31 (by kernel_rfl) (by kernel_rfl), fun bk o c xs sep w h1 h2 h3 h4 h5 => Any.strings_Join Tryz.joinL xtra bk o c xs sep w h1 h2 h3 h4 h5, fun a c sep w => Any.strings_Join_none Tryz.joinL xtra a c sep w⟩
theorem libAt : LibAt Tryz.prog 47 :=
  ⟨entersOf Tryz.func47 (by kernel_rfl) (by kernel_rfl), fun s c w h => Any.strings_LastIndexByte Tryz.libL s c h w⟩
theorem sortAt : SortAt Tryz.prog 34 :=
  ⟨entersOf Tryz.func34 (by kernel_rfl) (by kernel_rfl), fun blk cap ss w h1 h2 h3 => AnyM.slices_Sort_string Tryz.sortA blk 0 cap ss w h1 h2 h3, fun p cap w => AnyM.slices_Sort_string_none Tryz.sortA p cap w⟩
theorem maxLen_at {w : World} {G : Ghost} (hP : Pins E w G) : ∃ m, w.cell? ⟨0, 0, none⟩ = some (.int .i64 m) := by
  obtain ⟨cs, t, m, h1, n, h2⟩ := (hP 0 _ rfl).1
  exact ⟨n, by simp [World.cell?, h1, h2]⟩
theorem splitAt : SplitAt E Tryz.prog 49 9 :=
  ⟨entersOf Tryz.func49 (by kernel_rfl) (by kernel_rfl), fun s sep w G hP h1 h2 => by
    obtain ⟨m, hm⟩ := maxLen_at hP
    exact Any.strings_Split Tryz.splitL (by kernel_rfl) s sep m w h1 hm h2,
   fun s sep h => Lib.splitB_all sep h 0 _ s rfl, fun s sep h => Lib.countB_le sep h s.size s (Nat.le_refl _)⟩
theorem cutAt : CutAt E Tryz.prog 52 :=
  ⟨entersOf Tryz.func52 (by kernel_rfl) (by kernel_rfl), fun s sep w G hP h => by
    obtain ⟨m, hm⟩ := maxLen_at hP
    exact Any.strings_Cut Tryz.cutL s sep m w h hm⟩
def iaMF (F : Nat) (s cs : List UInt8) : Option Int := cond (Nat.ble s.length 8) (strings_IndexAny F s cs)
  (rq (decide (s.length < 4294967281) && (decide (2 ≤ cs.length) && (decide (cs.length < 4294967281) && cs.all fun b => decide (b.toNat < 128)))) (some (Lib.indexAny s cs)))
def iaMC (E : TEnv) (f : FuncId) (F : Nat) : Ctr E := ⟨⟨f, [.one (.dat .str), .one (.dat .str)], [], [], ⟨.one (.dat (.int .i64)), [], [], []⟩, none, []⟩, fun (x : List UInt8 × List UInt8) => iaMF F x.1 x.2⟩
set_option maxRecDepth 100000 in
theorem iaM_ok (F : Nat) : (iaMC E 102 F).Ok Tryz.prog := by
  have key : ∀ (s cs : List UInt8) (y : Int), iaMF F s cs = some y → ACalls (E := E) Tryz.prog 102 [.dat .str s, .dat .str cs] [] [] [] ⟨true, .dat (.int .i64) y, [], [], [], []⟩ := by
    intro s cs y hy
    unfold iaMF at hy
    cases hb : Nat.ble s.length 8 <;> rw [hb] at hy <;> simp only [cond_true, cond_false] at hy
    · obtain ⟨h1, h2⟩ := rq_some hy
      rw [Bool.and_eq_true, Bool.and_eq_true, Bool.and_eq_true, decide_eq_true_eq, decide_eq_true_eq, decide_eq_true_eq, List.all_eq_true] at h1
      obtain ⟨c1, c2, c3, c4⟩ := h1
      cases h2
      have h8 : 8 < s.length := by
        rcases Nat.lt_or_ge 8 s.length with h | h
        · exact h
        · rw [Nat.ble_eq_true_of_le h] at hb; cases hb
      refine calls_plain (entersOf Tryz.func102 (by kernel_rfl) (by kernel_rfl)) fun w G args hP hv => ⟨_, fun w G => .int w G .i64 (Lib.indexAny s cs), ?_⟩
      obtain ⟨u, us, ha, hv1, hv2⟩ := hv.cons_inv
      obtain ⟨u2, us2, ha2, hv3, hv4⟩ := hv2.cons_inv
      have hv4 : us2 = [] := by simpa only [VTs] using hv4
      have e1 := hv1.str_inv
      have e2 := hv3.str_inv
      subst e1 e2 hv4 ha2
      have ha : args = #[mkStr s, mkStr cs] := by apply Array.ext'; exact ha
      subst ha
      have hz := zero_of_info (P := Tryz.prog) (t := Tryz.iaL_ren.t 116) (v := .agg (Array.replicate 256 (.bool false))) (n := 256) (by kernel_rfl)
      refine (Any.strings_IndexAny_long Tryz.iaL hz.1 hz.2 ⟨⟨s⟩⟩ ⟨⟨cs⟩⟩ w c2 h8 c1 c3 fun j b hb => by simpa using c4 b (List.mem_of_getElem? hb)).mono fun e w' hh => ?_
      obtain ⟨q1, q2⟩ := hh
      refine ⟨q1, ?_⟩
      rw [q2]
      exact ((Below.refl _ _).alloc (Nat.le_refl _) _).alloc (by simp) _
    · exact strings_IndexAny_ok F (s, cs) y hy
  intro x y hy
  exact key x.1 x.2 y hy
end Go.Proofs.YtmklhkmeampamaaGreatDoor
