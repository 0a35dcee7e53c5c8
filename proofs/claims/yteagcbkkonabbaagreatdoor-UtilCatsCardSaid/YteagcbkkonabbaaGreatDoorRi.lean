import Derived.Test.YteagcbkkonabbaaGreatDoorRh
import Derived.Lib.LaidTab
import Derived.Shelf.Strconv.Itoa3
import Derived.OpenShut
import Derived.RowKit
import Derived.Sort.KeysCollected
import Derived.Sort.OwnSorted
import Derived.Lib.Join
import Derived.Lib.Split
import Derived.Lib.LastIndexByte
import Derived.Lib.IndexAny
import Derived.Lib.Repeat
set_option linter.all false
namespace Go.RT
set_option linter.unusedVariables false
variable {E : TEnv}
theorem Boxes.grown {w w' : World} {G : Ghost} {H : List (TBox E)} {gs : List TGrow} {cs : List (Nat × Cn E)} (hP : Pins E w G) (hB : Boxes E w G H gs) (hS : Softs E w G cs) (hs : Same w w') (h1 : w'.os = w.os) (h2 : w'.tape = w.tape) (h3 : w'.output = w.output) :
    Evol w G w' G ∧ Boxes E w' G H gs ∧ Softs E w' G cs ∧ ∀ (q b : Nat), G.i[q]? = some b → w'.heap[b]? = w.heap[b]? := by
  have hr := Rel.initL (n := 0) (ds := []) (args := #[]) hP hB hS .nil
  have hr' := hr.grow (w' := w') hs h1 h2 h3 G.pr (fun _ _ h => h) (fun _ _ _ h => h) (fun b o hp => Nat.lt_of_lt_of_le (hB.prok b o hp).1 hs.1)
  exact ⟨hr'.evol, hr'.boxes, hr'.softs, fun q b hq => hr'.fix q b hq (by simp)⟩
theorem entersOf {P : Program} {f : FuncId} {fn : Func} (hf : P.funcs[f]? = some fn) (hb : fn.body.isSome = true) (hn : (fn.name == "runtime.NumGoroutine") = false) : ∀ args w, (callFunc f args).run P w = .ok (.enter f args) w := by
  obtain ⟨c, hc⟩ := Option.isSome_iff_exists.1 hb
  exact Go.RT.enters_of hf hc hn
def itoaF (F : Nat) (n : Int) : Option (List UInt8) := rq (decide (-9223372036854775808 ≤ n) && decide (n ≤ 9223372036854775807)) (some (Lib.itoa n))
def itoaS (f : FuncId) : Shp := ⟨f, [.one (.dat (.int .i64))], [], [], ⟨.one (.dat .str), [], [], []⟩, none, []⟩
def itoaC (E : TEnv) (f : FuncId) (F : Nat) : Ctr E := ⟨itoaS f, fun (x : Int) => itoaF F x⟩
theorem tabIs_of_pins {P : Program} {w : World} {G : Ghost} {name : String} {k : IntKind} {zs : List Int} {g : Nat} (hP : Pins E w G) (hg : P.globalNamed name = some g)
    (he : E.gb g = some (fun cs => cs = (zs.map fun z => Value.int k z).toArray)) : Lib.TabIs P w name k zs := by
  obtain ⟨cs, t, m, this, rfl⟩ := (hP g _ he).1
  simp [Lib.TabIs, World.var?, hg, this]
theorem itoa_ok {P : Program} {f : FuncId} (he : ∀ args w, (callFunc f args).run P w = .ok (.enter f args) w) (hT : ∀ w G, Pins E w G → Lib.TabIs P w "internal/strconv.uint64pow10" .u64 Lib.pow10Tab)
    (hC : ∀ (n : Int), -9223372036854775808 ≤ n → n ≤ 9223372036854775807 → ∀ (w : World), Lib.TabIs P w "internal/strconv.uint64pow10" .u64 Lib.pow10Tab →
      Calls P f #[.int .i64 n] w fun e w' => e = .returned (.string ⟨(Lib.itoa n).toArray⟩) ∧ ∃ k os, w' = Go.Sort.grow (w.drewN k) os) (F : Nat) : (itoaC E f F).Ok P := by
  have key : ∀ (n : Int), -9223372036854775808 ≤ n → n ≤ 9223372036854775807 → ACalls (E := E) P f [.dat (.int .i64) n] [] [] [] ⟨true, .dat .str (Lib.itoa n), [], [], [], []⟩ := by
    intro n h0 h1 w G args hP hB hS hv
    obtain ⟨u, us, ha, hv1, hv2⟩ := hv.cons_inv
    have hv2 : us = [] := by simpa only [VTs] using hv2
    have e1 := hv1.int_inv
    subst e1 hv2
    have ha : args = #[.int .i64 n] := by apply Array.ext'; exact ha
    subst ha
    unfold Invokes
    rw [he]
    refine Calls.mono (hC n h0 h1 w (hT w G hP)) fun e w' hh => ?_
    obtain ⟨rfl, k, os, rfl⟩ := hh
    have hs : Same w (Go.Sort.grow (w.drewN k) os) := ⟨by simp [Go.Sort.grow, World.drewN], fun b hb => by
      show (w.heap ++ os)[b]? = _
      rw [Array.getElem?_append_left hb]⟩
    obtain ⟨q1, q2, q4, q3⟩ := hB.grown hP hS hs rfl rfl rfl
    exact ⟨_, G, rfl, q1, q2, q4, .str _ _ _, fun q b hq _ => q3 q b hq⟩
  have key2 : ∀ (n : Int) (y : List UInt8), itoaF F n = some y → ACalls (E := E) P f [.dat (.int .i64) n] [] [] [] ⟨true, .dat .str y, [], [], [], []⟩ := by
    intro n y hy
    obtain ⟨h1, h2⟩ := rq_some hy
    rw [Bool.and_eq_true, decide_eq_true_eq, decide_eq_true_eq] at h1
    cases h2
    exact key n h1.1 h1.2
  intro x y hy
  exact key2 x y hy
end Go.RT
namespace Go.RT
set_option linter.unusedVariables false
section
variable {w : World} {pr : Nat → Nat → Prop}
theorem LD.getD : ∀ {cs : List Value} {ds : List DV}, LD w pr cs ds → ∀ {l : Nat}, l < ds.length → VD w pr (cs.getD l undef) (ds.getD l default)
  | [], [], _, l, h => by simp at h
  | c :: cs, d :: ds, h, 0, _ => h.1
  | c :: cs, d :: ds, h, l + 1, hl => by simpa using LD.getD h.2 (l := l) (by simpa using hl)
  | [], _ :: _, h, _, _ => h.elim
  | _ :: _, [], h, _, _ => h.elim
end
def wOk {H : Type} (P : Program) (t : TypeId) (d : DataW H) : Prop := ∀ n ∈ d.weights P t, n ≤ reachBytes
theorem wEach_mem {H : Type} {P : Program} {t : TypeId} {d : DataW H} {n : Nat} (hn : n ∈ d.weights P t) : ∀ {ts : List TypeId} {ds : List (DataW H)} (j : Nat), ts[j]? = some t → ds[j]? = some d → n ∈ DataW.weightsEach P ts ds
  | t' :: ts, d' :: ds, 0, h1, h2 => by
    obtain rfl : t' = t := by simpa using h1
    obtain rfl : d' = d := by simpa using h2
    unfold DataW.weightsEach
    exact List.mem_append_left _ hn
  | t' :: ts, d' :: ds, j + 1, h1, h2 => by
    unfold DataW.weightsEach
    exact List.mem_append_right _ (wEach_mem hn j (by simpa using h1) (by simpa using h2))
  | [], _, j, h1, _ => by simp at h1
  | _ :: _, [], j, _, h2 => by simp at h2
theorem wAt {H : Type} {P : Program} {ts : List TypeId} {ds : List (DataW H)} (h : (DataW.weightsEach P ts ds).all (· ≤ reachBytes) = true) (j : Nat) {t : TypeId} {d : DataW H} (h1 : ts[j]? = some t) (h2 : ds[j]? = some d) : wOk P t d :=
  fun n hn => of_decide_eq_true (List.all_eq_true.1 h n (wEach_mem hn j h1 h2))
def OpensF {H : Type} (henc : TypeId × Value → H) (P : Program) (W : World) (fuel : Nat) (t : TypeId) {α : Type} (enc : α → List DV) (ok : α → Prop) : Prop :=
  ∀ cs d ps, DataW.trod henc P W 0 (fun _ => true) true fuel t cs = some (d, ps) → wOk P t d → ∃ x, ok x ∧ LD W (fun b _ => b < W.heap.size) cs (enc x)
section
variable {H : Type} {henc : TypeId × Value → H} {P : Program} {W : World}
theorem opens_int {t : TypeId} {k : IntKind} (ht : P.underlying t = some (.int k)) (fuel : Nat) : OpensF henc P W fuel t (fun n : Int => [.int k n]) (fun n => (Lit.int k n).wf = true) := by
  intro cs d ps h _
  cases fuel with
  | zero => cases h
  | succ n =>
    simp only [DataW.trod, ht] at h
    split at h <;> try (simp_all; done)
    rename_i k2 k' m h1
    cases h1
    split at h <;> try (cases h; done)
    rename_i hc
    obtain ⟨rfl, hw⟩ := hc
    exact ⟨m, hw, ⟨.int _ _, trivial⟩⟩
theorem opens_string {t : TypeId} (ht : P.underlying t = some .string) (fuel : Nat) : OpensF henc P W fuel t (fun l : List UInt8 => [.str l]) (fun l => l.length ≤ 140737488351232) := by
  intro cs d ps h hw
  cases fuel with
  | zero => cases h
  | succ n =>
    simp only [DataW.trod, ht] at h
    split at h <;> try (simp_all; done)
    rename_i s h1
    split at h <;> try (cases h; done)
    rename_i hc
    cases h
    exact ⟨s.data.toList, hw _ (by simp [DataW.weights]), ⟨.str s.data.toList, trivial⟩⟩
theorem Opens.arg {t : TypeId} {v : Value} {α : Type} {enc : α → List DV} {ok : α → Prop} (ho : ∀ fuel, OpensF henc P W fuel t enc ok) {d : DataW H} {ps : List MemPlace} (h : DataW.Trod henc P W 0 (fun _ => true) true t v d ps) (hw : wOk P t d) :
    ∃ x, ok x ∧ LD W (fun b _ => b < W.heap.size) v.cells.toList (enc x) := by
  obtain ⟨fuel, hf⟩ := h
  exact ho fuel _ _ _ hf hw
end
theorem tabOk_ints {E : TEnv} {W : World} {b : Nat} {k : IntKind} {zs : List Int} {t : TypeId} {m : Nat × Nat} (h : W.heap[b]? = some (.cells (zs.map fun z => Value.int k z).toArray t m)) :
    TabOk E W (fun b _ => b < W.heap.size) b (.int k) zs := by
  have hb : b < W.heap.size := (Array.getElem?_eq_some_iff.1 h).1
  unfold TabOk
  have hl : (zs.map (Ty.cells E (.int k))).length = zs.length := by simp
  rw [← hl]
  refine .slice b 0 _ _ _ (fun j _ => .int k (zs.getD j 0)) (Nat.le_refl _) (fun j hj => ?_) (fun j l hj hl' => ⟨hb, ?_⟩) (fun j l hj hl' => ?_)
  all_goals rw [hl] at hj
  · simp [List.getD, hj, Ty.cells, Ty.size]
  · obtain rfl : l = 0 := by simp [Ty.size] at hl'; exact hl'
    simp [World.cell?, h, Ty.size, List.getD, hj]
  · obtain rfl : l = 0 := by simp [Ty.size] at hl'; exact hl'
    simp only [List.getD, List.getElem?_map, List.getElem?_eq_getElem hj, Option.map_some, Option.getD_some, Ty.cells]
    exact .int _ _
theorem law_calls {E : TEnv} {P : Program} {f : FuncId} {ds : List (TV E)} {args : Array Value} {W : World} (h : ACalls P f ds [] [] [] ⟨true, .dat .bool true, [], [], [], []⟩) (he : ∀ args w, (callFunc f args).run P w = .ok (.enter f args) w) (hgl : ∀ b c, E.gt b = some c → TabOk E W (fun b _ => b < W.heap.size) b c.1 c.2) (hpin : ∀ b p, E.gb b = some p → ∃ cs t m, W.heap[b]? = some (.cells cs t m) ∧ p cs)
    (hv : VTs E W ⟨[], [], fun b _ => b < W.heap.size⟩ ds args.toList) : Calls P f args W fun e w' => e = .returned (.bool true) ∧ RowKit.Below W.heap.size W w' := by
  have hf : ∀ b, ¬ (⟨[], [], fun b _ => b < W.heap.size⟩ : Ghost).foot b := fun b hb => by
    rcases hb with hb | ⟨x, y, hb, -⟩ <;> cases hb
  have hI := h W ⟨[], [], fun b _ => b < W.heap.size⟩ args (fun b cs hb => ⟨hpin b cs hb, hf b⟩)
    ⟨rfl, rfl, fun r b x hb => (by simp at hb), fun b hb => (by cases hb), List.nodup_nil, fun b o hp => ⟨hp, (by simp)⟩, fun j x y hj => (by simp at hj), fun j j' x h x' h' b hj => (by simp at hj), hgl⟩ (fun j c hm => by cases hm) hv
  unfold Invokes at hI
  rw [he] at hI
  refine Calls.mono hI fun e w' hp => ?_
  obtain ⟨v, G', rfl, hE, hR, -, hV, -⟩ := hp
  refine ⟨?_, hE.os, hE.tape, hE.output, hE.size, fun k hk => hE.old k hk (hf k)⟩
  have := hV.bool_inv
  rw [this]; rfl
end Go.RT
namespace Go.RT
set_option linter.unusedVariables false
open Go.MapKept Go.Maps Go.RowKit
open Go.WideElems (Fit rd rg pl)
open Go.Proofs (encStr)
variable {E : TEnv}
end Go.RT
namespace Go.RT
set_option linter.unusedVariables false
open Go.RowKit
variable {E : TEnv}
theorem calls_plain {P : Program} {f : FuncId} {ds : List (TV E)} {d : TV E} (he : ∀ args w, (callFunc f args).run P w = .ok (.enter f args) w)
    (h : ∀ w G args, Pins E w G → VTs E w G ds args.toList → ∃ v, (∀ w G, VT E w G d v) ∧ Calls P f args w fun e w' => e = .returned v ∧ Below w.heap.size w w') : ACalls P f ds [] [] [] ⟨true, d, [], [], [], []⟩ := by
  intro w G args hP hB hS hv
  obtain ⟨v, hV, hC⟩ := h w G args hP hv
  unfold Invokes
  rw [he]
  refine Calls.mono hC fun e w' hh => ?_
  obtain ⟨rfl, bel⟩ := hh
  obtain ⟨q1, q2, q4, q3⟩ := hB.grown hP hS ⟨bel.size, fun k hk => bel.block k hk⟩ bel.os bel.tape bel.output
  exact ⟨v, G, rfl, q1, q2, q4, hV _ _, fun q b hq _ => q3 q b hq⟩
structure JoinAt (P : Program) (f : FuncId) : Prop where
  enters : ∀ args w, (callFunc f args).run P w = .ok (.enter f args) w
  some : ∀ (bk o c : Nat) (xs : List ByteArray) (sep : ByteArray) (w : World), (∀ (j : Nat) x, xs[j]? = some x → w.cell? ⟨bk, o + j, none⟩ = some (.string x)) → bk < w.heap.size → xs.length ≤ 140737488355328 → xs.length ≤ c →
    (Lib.join (xs.map (·.data.toList)) sep.data.toList).length ≤ 140737488355328 →
    Calls P f #[.slice (some ⟨bk, o, none⟩) xs.length c, .string sep] w fun e w' => e = .returned (.string ⟨(Lib.join (xs.map (·.data.toList)) sep.data.toList).toArray⟩) ∧ Below w.heap.size w w'
  none : ∀ (a : Option Addr) (c : Nat) (sep : ByteArray) (w : World), Calls P f #[.slice a 0 c, .string sep] w fun e w' => e = .returned (.string ⟨#[]⟩) ∧ w' = w
structure RepAt (P : Program) (f : FuncId) : Prop where
  enters : ∀ args w, (callFunc f args).run P w = .ok (.enter f args) w
  call : ∀ (s : ByteArray) (c : Nat) (w : World), c ≤ 9223372036854775807 → s.size * c ≤ 140737488355328 → Calls P f #[.string s, .int .i64 c] w fun e w' => e = .returned (.string ⟨(Lib.repeatL s.data.toList c).toArray⟩) ∧ Below w.heap.size w w'
structure LibAt (P : Program) (f : FuncId) : Prop where
  enters : ∀ args w, (callFunc f args).run P w = .ok (.enter f args) w
  call : ∀ (s : ByteArray) (c : Int) (w : World), s.size < 4611686018427387904 → Calls P f #[.string s, .int .u8 c] w fun e w' => e = .returned (.int .i64 (Lib.lastIndexByte s c)) ∧ w' = w
structure CaAt (P : Program) (f : FuncId) : Prop where
  enters : ∀ args w, (callFunc f args).run P w = .ok (.enter f args) w
  call : ∀ (s cs : ByteArray) (w : World), s.size < 4294967281 → cs.size < 4294967281 → (∀ (j : Nat) b, cs.data.toList[j]? = some b → b.toNat < 128) →
    Calls P f #[.string s, .string cs] w fun e w' => e = .returned (.bool (Lib.containsAny s.data.toList cs.data.toList)) ∧ Below w.heap.size w w'
structure SplitAt (E : TEnv) (P : Program) (f : FuncId) (e : TypeId) : Prop where
  enters : ∀ args w, (callFunc f args).run P w = .ok (.enter f args) w
  call : ∀ (s sep : ByteArray) (w : World) (G : Ghost), Pins E w G → s.size < 4294967281 → 1 ≤ sep.size → Calls P f #[.string s, .string sep] w fun e' w' =>
      e' = .returned (.slice (some ⟨w.heap.size, 0, none⟩) (Lib.countB s sep + 1) (Lib.countB s sep + 1)) ∧ w' = w.alloc (.cells ((Lib.splitB sep 0 (Lib.countB s sep) s).map Value.string).toArray e)
  len : ∀ (s sep : ByteArray), 1 ≤ sep.size → (Lib.splitB sep 0 (Lib.countB s sep) s).length = Lib.countB s sep + 1
  le : ∀ (s sep : ByteArray), 1 ≤ sep.size → Lib.countB s sep ≤ s.size
structure SortAt (P : Program) (f : FuncId) : Prop where
  enters : ∀ args w, (callFunc f args).run P w = .ok (.enter f args) w
  some : ∀ (blk cap : Nat) (ss : List (List UInt8)) (w : World), Sort.Holds Go.Proofs.encStr w blk 0 ss.toArray → blk < w.heap.size → ss.length < 4611686018427387904 → Calls P f #[.slice (some ⟨blk, 0, none⟩) ss.length cap] w fun e w' =>
      e = .returned (.tuple #[]) ∧ ∃ n os, w' = Sort.grow (Sort.putRow Go.Proofs.encStr (Sort.ahead w n) blk 0 (ss.mergeSort fun x y => decide (x ≤ y)).toArray) os
  none : ∀ (p : Option Addr) (cap : Nat) (w : World), Calls P f #[.slice p 0 cap] w fun e w' => e = .returned (.tuple #[]) ∧ w' = w
structure CutAt (E : TEnv) (P : Program) (f : FuncId) : Prop where
  enters : ∀ args w, (callFunc f args).run P w = .ok (.enter f args) w
  call : ∀ (s sep : ByteArray) (w : World) (G : Ghost), Pins E w G → s.size < 4294967281 → Calls P f #[.string s, .string sep] w fun e w' =>
    e = .returned (.tuple #[.string ⟨(Lib.cut s.data.toList sep.data.toList).1.toArray⟩, .string ⟨(Lib.cut s.data.toList sep.data.toList).2.1.toArray⟩, .bool (Lib.cut s.data.toList sep.data.toList).2.2]) ∧ ∃ n, w' = w.drewN n
end Go.RT
