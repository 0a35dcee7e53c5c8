/-
  RT: parts 43 to 43.
-/
import Derived.Test.YtamjncikmfpihaaGreatDoorRg
import Derived.Sort.KeysCollected
/-
  RT, part 43: slices.Sorted of the sequence that maps.Keys gives, for maps with string keys.
-/
namespace Go.RT
set_option linter.unusedVariables false
open Go.MapKept Go.Maps Go.RowKit
open Go.WideElems (Fit rd rg pl)
open Go.Proofs (encStr)

variable {E : TEnv}

/-- Keys in order. -/
def sortK (l : List (List UInt8)) : List (List UInt8) := l.mergeSort (fun x y => decide (x ≤ y))
def skF {β : Type} (F : Nat) (m : List (List UInt8 × β)) : Option (List (List UInt8)) :=
  rq ((m.all fun p => decide (p.1.length ≤ 9223372036854775807)) && decide (m.length * 16 ≤ 140737488355328)) (some (sortK (m.map fun p => p.1)))
def skS (f fk ty : Nat) (vt : Ty) : Shp := ⟨f, [.one (.func fk [(0, 0)])], [.cells ty [.mref 1], .map .str vt], [], ⟨.one (.dat (.lst .str)), [none, none], []⟩, none⟩
def skC (E : TEnv) (f fk ty : Nat) (vt : Ty) (F : Nat) : Ctr E := ⟨skS f fk ty vt, fun (x : List (List UInt8 × vt.den E.D)) => skF F x⟩

/-- What the call does (the library's contract, laid for a program's numbers). -/
def SortedAt (P : Program) (fS fk ty kt : Nat) : Prop :=
  ∀ (w : World) (b0 b n : Nat) (D0 : DataW Unit) (R : Value → Option (DataW Unit × List MemPlace)), w.heap[b0]? = some (.cells #[.map (some b)] ty (0, 0)) → w.ownsMap P kt R b n D0 → Maps.size D0 ≤ maxLen → Maps.size D0 * 16 ≤ 140737488355328 →
    Calls P fS #[.func (.func fk) #[] #[.pointer (some ⟨b0, 0, none⟩)]] w fun e w2 => ∃ (u : Value) (ss : List (List UInt8)), e = .returned u ∧ ss.Perm (strKeys D0) ∧
      w2.ownsRow w.heap.size kt 1 u ss.length ((ss.mergeSort (fun x y => decide (x ≤ y))).map encStr) ∧ Below w.heap.size w w2

theorem keys_of_rel {w : World} {G : Ghost} {vt : Ty} : ∀ {es : List MapEntry} {m : List (List UInt8 × vt.den E.D)}, MapRel E w G .str vt es m → es.map (fun e => e.key) = m.map fun p => mkStr p.1
  | [], [], _ => rfl
  | e :: es, p :: ps, h => by
    have h1 : e.key = mkStr p.1 := h.1.str_inv
    simp only [List.map_cons, h1, keys_of_rel h.2.2]
  | [], _ :: _, h => h.elim
  | _ :: _, [], h => h.elim

theorem owns_of_keys {P : Program} {kt : TypeId} {w : World} {b : Nat} {es : Array MapEntry} {clock : Nat} (ks : List (List UInt8)) (hk : P.underlying kt = some .string) (hb : w.heap[b]? = some (.map es clock)) (hs : Stamped es clock) (hm : es.toList.map (fun e => e.key) = ks.map mkStr)
    (hl : ∀ p ∈ ks, p.length ≤ maxLen) (hlen : ks.length ≤ maxLen) : ∃ D0 : DataW Unit, w.ownsMap P kt (fun _ => some (.lit (.bool true), [])) b ks.length D0 ∧ Maps.size D0 = ks.length ∧ (strKeys D0).Perm ks := by
  have hsz : es.size = ks.length := by
    have := congrArg List.length hm
    simpa using this
  have hrd : ∀ x ∈ es.toList, ∃ p ∈ ks, x.key = mkStr p ∧ rd P kt (fun _ => some ((.lit (.bool true) : DataW Unit), [])) x = some (.string p, .lit (.bool true)) := by
    intro x hx
    have hmem : x.key ∈ ks.map mkStr := by rw [← hm]; exact List.mem_map_of_mem hx
    obtain ⟨p, hp, hkx⟩ := List.mem_map.1 hmem
    refine ⟨p, hp, hkx.symm, ?_⟩
    have hko : keyOf P kt x.key = some (.string p) := by
      rw [← hkx]
      exact WideMaps.keyOf_string_mk hk (s := ⟨⟨p⟩⟩) (hl p hp)
    simp [rd, hko]
  have hF : Fit P kt (fun _ => some ((.lit (.bool true) : DataW Unit), [])) es clock := ⟨by omega, hs, fun x hx => by obtain ⟨p, -, -, h⟩ := hrd x hx; exact ⟨_, h⟩⟩
  refine ⟨_, ⟨es, clock, hb, hF, by omega, rfl⟩, ?_, ?_⟩
  · show ((es.toList.map (rg P kt _)).foldr DataW.insert []).length = _
    rw [length_sorted]; simp; omega
  · show (((es.toList.map (rg P kt _)).foldr DataW.insert []).map fun p => strOf p.1).Perm _
    refine ((WideShapes.sorted_perm _).map _).trans ?_
    have : (es.toList.map (rg P kt (fun _ => some ((.lit (.bool true) : DataW Unit), [])))).map (fun p => strOf p.1) = ks := by
      have h2 : (es.toList.map (rg P kt (fun _ => some ((.lit (.bool true) : DataW Unit), [])))).map (fun p => strOf p.1) = (es.toList.map (fun e => e.key)).map (fun v => match v with | .string s => s.data.toList | _ => []) := by
        rw [List.map_map, List.map_map]
        refine List.map_congr_left fun x hx => ?_
        obtain ⟨p, -, hkx, hr⟩ := hrd x hx
        simp [rg, hr, hkx, strOf, mkStr]
      rw [h2, hm, List.map_map]
      have : ((fun v => match v with | Value.string s => s.data.toList | _ => []) ∘ mkStr) = id := by
        funext l; simp [mkStr]
      rw [this, List.map_id]
    rw [this]

/-- The row that a callee made, read. -/
theorem VD_owned {w : World} {pr : Nat → Nat → Prop} {base : Nat} {kt : TypeId} {u : Value} {n : Nat} {l : List (List UInt8)} (hn : n = l.length) (h : w.ownsRow base kt 1 u n (l.map encStr)) (hp : ∀ g, u.ownBlock = some g → ∀ o, o < n → pr g o) :
    VD w pr u (.slice 1 (l.map fun x => [.str x])) := by
  subst hn
  rcases h.2 with ⟨rfl, hz⟩ | ⟨g, cap, cur, rfl, hbase, hg, h1, h2, h3, h4⟩
  · have : l = [] := List.eq_nil_of_length_eq_zero hz
    subst this
    exact .nils _ _
  · have hlen : (l.map fun x => [DV.str x]).length = l.length := by simp
    have cellq : ∀ q, q < l.length → w.cell? ⟨g, q, none⟩ = some (mkStr (l.getD q [])) := by
      intro q hq
      rw [cell_of_row w g q cur kt (0, 0) hg]
      have h5 := congrArg (fun t => t[q]?) h4
      simp only [Nat.mul_one] at h5
      rw [List.getElem?_take, if_pos hq] at h5
      simp only [List.getElem?_map, Array.getElem?_toList] at h5
      rw [h5]
      simp [List.getD, hq, encStr, mkStr]
    have := VD.slice (w := w) (pr := pr) g 0 cap 1 (l.map fun x => [DV.str x]) (fun j _ => mkStr (l.getD j [])) (by rw [hlen]; simpa using h1) (fun j hj => by
        have hj' : j < l.length := by simpa using hj
        simp [List.getD, hj']) (fun j q hj hq => by
        have hj' : j < l.length := by simpa using hj
        obtain rfl : q = 0 := by omega
        refine ⟨hp g rfl _ (by omega), ?_⟩
        have := cellq j hj'
        rw [show 0 + j * 1 + 0 = j by omega]
        exact this) (fun j q hj hq => by
        have hj' : j < l.length := by simpa using hj
        obtain rfl : q = 0 := by omega
        have e2 : ((l.map fun x => [DV.str x]).getD j []).getD 0 default = .str (l.getD j []) := by
          simp [List.getD, hj']
        rw [e2]
        exact .str _)
    rw [hlen] at this
    exact this

theorem sk_ok {P : Program} {f fk ty kt : Nat} {vt : Ty} (he : ∀ args w, (callFunc f args).run P w = .ok (.enter f args) w) (hS : SortedAt P f fk ty kt) (hkt : P.underlying kt = some .string) (F : Nat) : (skC E f fk ty vt F).Ok P := by
  have key : ∀ (m : List (List UInt8 × vt.den E.D)), (∀ p ∈ m.map (fun p => p.1), p.length ≤ maxLen) → m.length * 16 ≤ 140737488355328 →
      ACalls (E := E) P f [.func (.func fk) [.ptr 0 0]] [.cells ty [.mref 1], .map .str vt m] [] ⟨true, .dat (.lst .str) (sortK (m.map fun p => p.1)), [.cells ty [.mref 1], .map .str vt m], [], []⟩ := by
    intro m hm hlen w G args hP hB hv
    obtain ⟨u, us, ha, hv1, hv2⟩ := hv.cons_inv
    have hv2 : us = [] := by simpa only [VTs] using hv2
    subst hv2
    simp only [VT, VTs] at hv1
    obtain ⟨vs, rfl, u0, us0, hvs, ⟨b0, rfl, hb0⟩, rfl⟩ := hv1
    have hvs' : vs = #[.pointer (some ⟨b0, 0, none⟩)] := by apply Array.ext'; exact hvs
    subst hvs'
    have ha : args = #[.func (.func fk) #[] #[.pointer (some ⟨b0, 0, none⟩)]] := by apply Array.ext'; exact ha
    subst ha
    obtain ⟨cs, hc1, hc2, hc3⟩ := hB.box 0 b0 _ hb0 rfl
    simp only [VTs, VT] at hc3
    obtain ⟨u1, us1, hcs, ⟨b1, rfl, hb1⟩, rfl⟩ := hc3
    have hcs' : cs = #[.map (some b1)] := by apply Array.ext'; exact hcs
    subst hcs'
    obtain ⟨es, clock, hm1, hm2, hm3⟩ := hB.box 1 b1 _ hb1 rfl
    have hks : es.toList.map (fun e => e.key) = (m.map fun p => p.1).map mkStr := by rw [keys_of_rel hm3, List.map_map]; rfl
    have hml : (m.map fun p => p.1).length ≤ maxLen := by
      have : (8796093022208 : Nat) ≤ maxLen := by decide
      rw [List.length_map]; omega
    obtain ⟨D0, hown, hsz, hperm⟩ := owns_of_keys (P := P) (kt := kt) (m.map fun p => p.1) hkt hm1 hm2 hks hm hml
    unfold Invokes
    rw [he]
    refine Calls.mono (hS w b0 b1 _ D0 _ hc1 hown (by rw [hsz]; exact hml) (by rw [hsz, List.length_map]; exact hlen)) fun e w2 hh => ?_
    obtain ⟨u, ss, rfl, hss, hrow, hbel⟩ := hh
    have hsort : ss.mergeSort (fun x y => decide (x ≤ y)) = sortK (m.map fun p => p.1) := mergeSort_of_perm (hss.trans hperm)
    have hslen : ss.length = (sortK (m.map fun p => p.1)).length := by rw [← hsort, List.length_mergeSort]
    rw [hsort] at hrow
    have hs : Same w w2 := ⟨hbel.size, fun k hk => hbel.block k hk⟩
    let pr' : Nat → Nat → Prop := fun g o => G.pr g o ∨ (u.ownBlock = some g ∧ o < ss.length)
    have hr := Rel.initL (n := 0) (ds := []) (args := #[]) hP hB .nil
    have hr' := hr.grow (w' := w2) hs hbel.os hbel.tape hbel.output pr' (fun b o h => .inl h) (fun b o hb h => by
        rcases h with h | ⟨h, -⟩
        · exact h
        · have := (hrow.lt b h).1; omega) (fun b o h => by
        rcases h with h | ⟨h, -⟩
        · exact Nat.lt_of_lt_of_le (hB.prok b o h).1 hbel.size
        · exact (hrow.lt b h).2)
    refine ⟨u, { G with pr := pr' }, rfl, hr'.evol, hr'.boxes, ?_, fun q b hq _ => hr'.fix q b hq (by simp)⟩
    exact ⟨VD_owned hslen hrow (fun g hg o ho => .inr ⟨hg, ho⟩), trivial⟩
  have key2 : ∀ (m : List (List UInt8 × vt.den E.D)) (y : List (List UInt8)), skF F m = some y →
      ACalls (E := E) P f [.func (.func fk) [.ptr 0 0]] [.cells ty [.mref 1], .map .str vt m] [] ⟨true, .dat (.lst .str) y, [.cells ty [.mref 1], .map .str vt m], [], []⟩ := by
    intro m y hy
    obtain ⟨h1, h2⟩ := rq_some hy
    rw [Bool.and_eq_true, decide_eq_true_eq, List.all_eq_true] at h1
    cases h2
    refine key m (fun p hp => ?_) h1.2
    obtain ⟨q, hq, rfl⟩ := List.mem_map.1 hp
    have := h1.1 q hq
    simpa [maxLen] using this
  intro x y hy
  exact key2 x y hy
end Go.RT
