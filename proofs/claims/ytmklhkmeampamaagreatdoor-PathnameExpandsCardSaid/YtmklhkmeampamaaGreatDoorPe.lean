import Derived.Test.YtmklhkmeampamaaGreatDoorPx
import Derived.Test.YtmklhkmeampamaaGreatDoorPz
import Derived.Test.YtmklhkmeampamaaGreatDoorFt
namespace Go.Proofs.YtmklhkmeampamaaGreatDoor
open Go.RT
set_option linter.all false
set_option maxRecDepth 100000
def patF (t : List TRun) : List TPatItem := (pattern_Compile 100000 t).getD []
def litF (t : List TRun) : Bool := ((pattern_Literal 100000 (patF t)).getD ([], false)).2
def mtF (p : List TPatItem) (n : List UInt8) : Bool := (pattern_Match 100000 p n).getD false
theorem patF_ok (t : List TRun) (h1 : t.length ≤ 1000) (h2 : szL t ≤ 1000) : pattern_Compile 100000 t = some (patF t) ∧ (∀ it ∈ patF t, ItOk it) ∧ (patF t).length ≤ 1000 := by
  obtain ⟨p, ⟨g1, g2⟩, h⟩ := compile_tot 100000 t (by omega) (by omega) (by omega) (by omega)
  unfold patF
  rw [h]
  exact ⟨rfl, g1, by show p.length ≤ _; omega⟩
theorem litF_ok (t : List TRun) (h1 : t.length ≤ 1000) (h2 : szL t ≤ 1000) : ∃ x, pattern_Literal 100000 (patF t) = some (x, litF t) := by
  obtain ⟨-, g1, g2⟩ := patF_ok t h1 h2
  obtain ⟨r, h⟩ := literal_tot 100000 (patF t) (by omega) (by omega) g1
  unfold litF
  rw [h]
  exact ⟨r.1, rfl⟩
theorem mtF_ok (t : List TRun) (h1 : t.length ≤ 1000) (h2 : szL t ≤ 1000) (n : List UInt8) (hn : n.length ≤ 1000) : pattern_Match 100000 (patF t) n = some (mtF (patF t) n) := by
  obtain ⟨-, g1, g2⟩ := patF_ok t h1 h2
  obtain ⟨r, h⟩ := match_tot 100000 (patF t) n (by omega) (by omega) (by omega) (by omega) g1
  unfold mtF
  rw [h]
  rfl
theorem expand_all {l : List TFile} {cwd : List UInt8} {r : List TRun} (hv : VL l) (hc : pathS cwd = true) (h1 : r.length ≤ 20) (h2 : szL r ≤ 250) (hW : (W l mtF (partsOf patF litF r) (startP cwd (fieldOf r))).length ≤ 1000000) : pathname_Expand 100000 l cwd r = some (expS l mtF patF litF cwd r, 0) := by
  have hsz : ∀ t ∈ pcL r, t.length ≤ 1000 ∧ szL t ≤ 1000 := fun t ht => ⟨by have := pc_len t ht; omega, by have := (pc_sz (l := r)).2 t ht; omega⟩
  exact expand_eq (by omega) hv hc h1 h2 (fun t ht => ⟨(patF_ok t (hsz t ht).1 (hsz t ht).2).1, litF_ok t (hsz t ht).1 (hsz t ht).2⟩) (fun t ht _ n hn => mtF_ok t (hsz t ht).1 (hsz t ht).2 n (by omega)) hW
def GI (n : Nat) (o : List (List TRun) × List TRun) : Prop := (∀ c ∈ o.1, (∀ r ∈ c, r.fText.length = 1) ∧ c.length ≤ n) ∧ (∀ r ∈ o.2, r.fText.length = 1) ∧ o.2.length ≤ n
theorem GI.up {n m : Nat} {o : List (List TRun) × List TRun} (h : GI n o) (hm : n ≤ m) : GI m o := ⟨fun c hc => ⟨(h.1 c hc).1, by have := (h.1 c hc).2; omega⟩, h.2.1, by have := h.2.2; omega⟩
theorem GI_foldB (cl : Int) : ∀ (t : List UInt8) (n : Nat) (o : List (List TRun) × List TRun), GI n o → GI (n + t.length) (t.foldl (stepB cl) o)
  | [], n, o, h => h
  | b :: t, n, o, h => by
    have h2 : GI (n + 1) (stepB cl o b) := by
      obtain ⟨h1, h2, h3⟩ := h
      unfold stepB
      cases (b == 47)
      · refine ⟨fun c hc => ⟨(h1 c hc).1, by have := (h1 c hc).2; omega⟩, fun r hr => ?_, by simp; omega⟩
        rcases List.mem_append.1 hr with hr | hr
        · exact h2 r hr
        · obtain rfl := List.mem_singleton.1 hr; rfl
      · refine ⟨fun c hc => ?_, fun r hr => (by cases hr), by simp⟩
        rcases List.mem_append.1 hc with hc | hc
        · exact ⟨(h1 c hc).1, by have := (h1 c hc).2; omega⟩
        · obtain rfl := List.mem_singleton.1 hc; exact ⟨h2, by omega⟩
    have := GI_foldB cl t (n + 1) _ h2
    rwa [show n + 1 + t.length = n + (b :: t).length by simp; omega] at this
theorem GI_F : ∀ (l : List TRun) (n : Nat) (o : List (List TRun) × List TRun), GI n o → GI (n + szL l) (l.foldl stepR o)
  | [], n, o, h => h
  | r :: l, n, o, h => by
    have h2 : GI (n + r.fText.length) (stepR o r) := by
      unfold stepR
      cases (r.fClass != 0 && (r.fClass != 1 && r.fClass != 2))
      · exact GI_foldB _ _ _ _ h
      · exact h.up (by omega)
    have := GI_F l _ _ h2
    rwa [show n + r.fText.length + szL l = n + szL (r :: l) by simp [szL]; omega] at this
theorem comp_g (l : List TRun) : ∀ c ∈ compL l, szL c = c.length ∧ c.length ≤ szL l := by
  have h := GI_F l 0 ([], []) ⟨fun c hc => (by cases hc), fun r hr => (by cases hr), by simp⟩
  rw [Nat.zero_add] at h
  intro c hc
  rcases List.mem_append.1 hc with hc | hc
  · exact ⟨szL_q (h.1 c hc).1, (h.1 c hc).2⟩
  · obtain rfl := List.mem_singleton.1 hc; exact ⟨szL_q h.2.1, h.2.2⟩
theorem dir_pre {l : List TFile} (hv : VL l) {n done rest : List (List UInt8)} (hn : Names n) (hd : dirD l (pathOf n) = true) (e : n = done ++ rest) : dirD l (pathOf done) = true := by
  have hV := hv.tree
  cases rest with
  | nil => rw [List.append_nil] at e; rw [← e]; exact hd
  | cons c r =>
    unfold dirD at hd
    cases hf : findS l (pathOf n) with
    | none => rw [hf] at hd; cases hd
    | some f =>
      obtain ⟨h1, h2⟩ := find_path hf
      have hdn : Names done := fun x hx => hn x (by rw [e]; simp [hx])
      have hp := hv.path f h1
      rw [h2] at hp
      obtain ⟨p, hp1, hp2, hp3, -⟩ := hV.above (a := pathOf done) (by
        have hl2 : (pathOf n).length ≤ 128 := by rw [← h2]; exact hv.small f h1
        refine pathS_of hdn ?_
        have : (pathOf done).length ≤ (pathOf n).length := by
          rw [e]
          unfold pathOf
          have hj : ∀ (a b : List (List UInt8)), (joinR a).length ≤ (joinR (a ++ b)).length := by
            intro a
            induction a with
            | nil => intro b; simp [joinR]
            | cons x a ih =>
              intro b
              cases a with
              | nil =>
                cases b with
                | nil => simp
                | cons y b => simp [joinR]
              | cons z a =>
                have := ih b
                simp only [List.cons_append, joinR, List.length_append, List.length_cons] at this ⊢
                omega
          have := hj done (c :: r)
          simp only [List.length_append]
          omega
        omega) h1 (by rw [h2]; exact (above_names hdn hn).2 ⟨c, r, e⟩)
      unfold dirD
      rw [← hp2, find_of_asc hv.asc hp1]
      exact hp3
theorem joinP_path {d : List (List UInt8)} (hd : Names d) (c : List UInt8) : joinP (pathOf d) c = pathOf (d ++ [c]) := by
  rw [pathOf_snoc hd]
  unfold joinP
  cases h : (pathOf d == [47]) <;> simp
end Go.Proofs.YtmklhkmeampamaaGreatDoor
