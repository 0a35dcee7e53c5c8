/-
  RT, part 41: strconv.Itoa, out of the shelf's contract.
-/
import Derived.Test.YtnbdahlceddihaaDoorR40
import Derived.Lib.LaidTab
import Derived.Shelf.Strconv.Itoa3
namespace Go.RT
set_option linter.unusedVariables false

variable {E : TEnv}

theorem Boxes.grown {w w' : World} {G : Ghost} {H : List (TBox E)} {gs : List TGrow} (hP : Pins E w G) (hB : Boxes E w G H gs) (hs : Same w w') (h1 : w'.os = w.os) (h2 : w'.tape = w.tape) (h3 : w'.output = w.output) :
    Evol w G w' G ∧ Boxes E w' G H gs ∧ ∀ (q b : Nat), G.i[q]? = some b → w'.heap[b]? = w.heap[b]? := by
  have hr := Rel.initL (n := 0) (ds := []) (args := #[]) hP hB .nil
  have hr' := hr.grow (w' := w') hs h1 h2 h3 G.pr (fun _ _ h => h) (fun _ _ _ h => h) (fun b o hp => Nat.lt_of_lt_of_le (hB.prok b o hp).1 hs.1)
  exact ⟨hr'.evol, hr'.boxes, fun q b hq => hr'.fix q b hq (by simp)⟩

theorem entersOf {P : Program} {f : FuncId} {fn : Func} (hf : P.funcs[f]? = some fn) (hb : fn.body.isSome = true) (hn : (fn.name == "runtime.NumGoroutine") = false) : ∀ args w, (callFunc f args).run P w = .ok (.enter f args) w := by
  obtain ⟨c, hc⟩ := Option.isSome_iff_exists.1 hb
  exact Go.RT.enters_of hf hc hn

def itoaF (F : Nat) (n : Int) : Option (List UInt8) := rq (decide (-9223372036854775808 ≤ n) && decide (n ≤ 9223372036854775807)) (some (Lib.itoa n))
def itoaS (f : FuncId) : Shp := ⟨f, [.one (.dat (.int .i64))], [], [], ⟨.one (.dat .str), [], []⟩, none⟩
def itoaC (E : TEnv) (f : FuncId) (F : Nat) : Ctr E := ⟨itoaS f, fun (x : Int) => itoaF F x⟩

theorem tabIs_of_pins {P : Program} {w : World} {G : Ghost} {name : String} {k : IntKind} {zs : List Int} {g : Nat} (hP : Pins E w G) (hg : P.globalNamed name = some g)
    (he : E.gb g = some (zs.map fun z => Value.int k z).toArray) : Lib.TabIs P w name k zs := by
  obtain ⟨t, m, this⟩ := (hP g _ he).1
  simp [Lib.TabIs, World.var?, hg, this]

theorem itoa_ok {P : Program} {f : FuncId} (he : ∀ args w, (callFunc f args).run P w = .ok (.enter f args) w) (hT : ∀ w G, Pins E w G → Lib.TabIs P w "internal/strconv.uint64pow10" .u64 Lib.pow10Tab)
    (hC : ∀ (n : Int), -9223372036854775808 ≤ n → n ≤ 9223372036854775807 → ∀ (w : World), Lib.TabIs P w "internal/strconv.uint64pow10" .u64 Lib.pow10Tab →
      Calls P f #[.int .i64 n] w fun e w' => e = .returned (.string ⟨(Lib.itoa n).toArray⟩) ∧ ∃ k os, w' = Go.Sort.grow (w.drewN k) os) (F : Nat) : (itoaC E f F).Ok P := by
  have key : ∀ (n : Int), -9223372036854775808 ≤ n → n ≤ 9223372036854775807 → ACalls (E := E) P f [.dat (.int .i64) n] [] [] ⟨true, .dat .str (Lib.itoa n), [], [], []⟩ := by
    intro n h0 h1 w G args hP hB hv
    obtain ⟨u, us, ha, hv1, hv2⟩ := hv.cons_inv
    have hv2 : us = [] := by simpa only [VTs] using hv2
    have e1 := hv1.int_inv
    subst e1 hv2
    have ha : args = #[.int .i64 n] := by apply Array.ext'; exact ha
    subst ha
    unfold Invokes
    rw [he]
    refine Calls.mono (hC n h0 h1 w (hT w G hP)) fun e w' hh => ?_
    obtain ⟨rfl, k, os, rfl⟩ := hh
    have hs : Same w (Go.Sort.grow (w.drewN k) os) := ⟨by simp [Go.Sort.grow, World.drewN], fun b hb => by
      show (w.heap ++ os)[b]? = _
      rw [Array.getElem?_append_left hb]⟩
    obtain ⟨q1, q2, q3⟩ := hB.grown hP hs rfl rfl rfl
    exact ⟨_, G, rfl, q1, q2, .str _ _ _, fun q b hq _ => q3 q b hq⟩
  have key2 : ∀ (n : Int) (y : List UInt8), itoaF F n = some y → ACalls (E := E) P f [.dat (.int .i64) n] [] [] ⟨true, .dat .str y, [], [], []⟩ := by
    intro n y hy
    obtain ⟨h1, h2⟩ := rq_some hy
    rw [Bool.and_eq_true, decide_eq_true_eq, decide_eq_true_eq] at h1
    cases h2
    exact key n h1.1 h1.2
  intro x y hy
  exact key2 x y hy

end Go.RT
