import Derived.Test.YtmklhkmeampamaaGreatDoorPs
import Derived.Test.YtmklhkmeampamaaGreatDoorPv
namespace Go.Proofs.YtmklhkmeampamaaGreatDoor
open Go.RT
set_option linter.all false
set_option maxRecDepth 100000
theorem parts_sum : ∀ s : List UInt8, ((partsS s).map fun p => p.length + 1).sum = s.length + 1
  | [] => rfl
  | b :: l => by
    have ih := parts_sum l
    have hne := parts_ne l
    unfold partsS
    cases (b == 47)
    · rw [cond_false]
      cases h : partsS l with
      | nil => exact absurd h hne
      | cons p ps =>
        rw [h] at ih
        simp only [List.map_cons, List.sum_cons, List.length_cons] at *
        omega
    · rw [cond_true, List.map_cons, List.sum_cons, ih]
      simp only [List.length_nil, List.length_cons]; omega
def muP (o : List (List TRun) × List TRun) : Nat := (o.1.map fun c => szL c + 1).sum + szL o.2
theorem szL_app (a b : List TRun) : szL (a ++ b) = szL a + szL b := by unfold szL; rw [List.map_append, List.sum_append]
theorem muP_Q (c : Int) : ∀ (ps : List (List UInt8)) (o : List (List TRun) × List TRun), muP (ps.foldl (pcQ c) o) = muP o + (ps.map fun p => p.length + 1).sum
  | [], o => by simp
  | q :: ps, o => by
    rw [List.foldl_cons, muP_Q c ps]
    unfold muP pcQ
    simp only [List.map_append, List.sum_append, List.map_cons, List.map_nil, List.sum_cons, List.sum_nil, szL]
    omega
theorem muP_R (o : List (List TRun) × List TRun) (r : TRun) : muP (pcR o r) ≤ muP o + r.fText.length := by
  unfold pcR
  cases clsB r.fClass
  · rw [cond_false]
    have hs := parts_sum r.fText
    cases h : partsS r.fText with
    | nil => exact absurd h (parts_ne _)
    | cons p ps =>
      rw [h] at hs
      show muP (ps.foldl (pcQ r.fClass) (o.1, o.2 ++ [TRun.mk p r.fClass])) ≤ _
      rw [muP_Q]
      unfold muP
      simp only [szL_app, List.map_cons, List.sum_cons] at *
      have : szL [TRun.mk p r.fClass] = p.length := by simp [szL]
      omega
  · simp
theorem muP_F : ∀ (l : List TRun) (o : List (List TRun) × List TRun), muP (l.foldl pcR o) ≤ muP o + szL l
  | [], o => by simp [szL]
  | r :: l, o => by
    have h1 := muP_F l (pcR o r)
    have h2 := muP_R o r
    simp only [List.foldl_cons, szL, List.map_cons, List.sum_cons] at *
    omega
theorem sum_mem {l : List (List TRun)} {c : List TRun} (h : c ∈ l) : szL c + 1 ≤ (l.map fun c => szL c + 1).sum := by
  induction l with
  | nil => cases h
  | cons a l ih =>
    simp only [List.map_cons, List.sum_cons]
    rcases List.mem_cons.1 h with rfl | h
    · omega
    · have := ih h; omega
theorem sum_len (l : List (List TRun)) : l.length ≤ (l.map fun c => szL c + 1).sum := by
  induction l with
  | nil => simp
  | cons a l ih => simp only [List.map_cons, List.sum_cons, List.length_cons]; omega
theorem pc_sz {l : List TRun} : (pcL l).length ≤ szL l + 1 ∧ ∀ t ∈ pcL l, szL t ≤ szL l := by
  have h := muP_F l ([], [])
  have h0 : muP ([], []) = 0 := rfl
  rw [h0] at h
  have h : muP (pcO l) ≤ szL l := by unfold pcO; omega
  unfold muP at h
  have h1 := sum_len (pcO l).1
  refine ⟨by unfold pcL; simp only [List.length_append, List.length_singleton]; omega, fun t ht => ?_⟩
  rcases List.mem_append.1 ht with ht | ht
  · have := sum_mem ht; omega
  · obtain rfl := List.mem_singleton.1 ht; omega
def LI (k : Nat) (o : List (List TRun) × List TRun) : Prop := (∀ c ∈ o.1, c.length ≤ k) ∧ o.2.length ≤ k
theorem LI_Q (c : Int) : ∀ (ps : List (List UInt8)) (k : Nat) (o : List (List TRun) × List TRun), LI (k + 1) o → LI (k + 1) (ps.foldl (pcQ c) o)
  | [], k, o, h => h
  | q :: ps, k, o, h => LI_Q c ps k _ ⟨fun x hx => by
      rcases List.mem_append.1 hx with hx | hx
      · exact h.1 x hx
      · obtain rfl := List.mem_singleton.1 hx; exact h.2, by simp [pcQ]⟩
theorem LI_R {k : Nat} {o : List (List TRun) × List TRun} (h : LI k o) (r : TRun) : LI (k + 1) (pcR o r) := by
  unfold pcR
  cases clsB r.fClass
  · rw [cond_false]
    cases hp : partsS r.fText with
    | nil => exact absurd hp (parts_ne _)
    | cons p ps => exact LI_Q r.fClass ps k (o.1, o.2 ++ [TRun.mk p r.fClass]) ⟨fun x hx => Nat.le_succ_of_le (h.1 x hx), by have := h.2; simp; omega⟩
  · exact ⟨fun x hx => Nat.le_succ_of_le (h.1 x hx), Nat.le_succ_of_le h.2⟩
theorem LI_F : ∀ (l : List TRun) (k : Nat) (o : List (List TRun) × List TRun), LI k o → LI (k + l.length) (l.foldl pcR o)
  | [], k, o, h => h
  | r :: l, k, o, h => by
    have := LI_F l (k + 1) _ (LI_R h r)
    rwa [show k + 1 + l.length = k + (r :: l).length by simp; omega] at this
theorem LI_0 (l : List TRun) : LI l.length (l.foldl pcR ([], [])) := by
  have := LI_F l 0 ([], []) ⟨fun c hc => (by cases hc), by simp⟩
  rwa [Nat.zero_add] at this
theorem pc_now' (l : List TRun) (k : Nat) : ((l.take k).foldl pcR ([], [])).2.length ≤ l.length := by
  have := (LI_0 (l.take k)).2
  simp only [List.length_take] at this
  omega
theorem pc_len {l : List TRun} : ∀ t ∈ pcL l, t.length ≤ l.length := by
  intro t ht
  rcases List.mem_append.1 ht with ht | ht
  · exact (LI_0 l).1 t ht
  · obtain rfl := List.mem_singleton.1 ht; exact (LI_0 l).2
def startP (cwd field : List UInt8) : List UInt8 := cond (field.take 1 == [47]) [47] cwd
def partsOf (pat : List TRun → List TPatItem) (lit : List TRun → Bool) (r : List TRun) : List Tcomponent := (pcL r).map (cmpP pat lit)
def fieldOf (r : List TRun) : List UInt8 := joinR ((pcL r).map txt)
def expS (l : List TFile) (mt : List TPatItem → List UInt8 → Bool) (pat : List TRun → List TPatItem) (lit : List TRun → Bool) (cwd : List UInt8) (r : List TRun) : List (List UInt8) :=
  cond ((pcL r).all lit || (W l mt (partsOf pat lit r) (startP cwd (fieldOf r))).isEmpty) [fieldOf r] (sortK ((W l mt (partsOf pat lit r) (startP cwd (fieldOf r))).map joinR))
theorem expand_eq {F : Nat} {l : List TFile} {mt : List TPatItem → List UInt8 → Bool} {pat : List TRun → List TPatItem} {lit : List TRun → Bool} {cwd : List UInt8} {r : List TRun} (hF : 100000 ≤ F) (hv : VL l) (hc : pathS cwd = true) (h1 : r.length ≤ 20) (h2 : szL r ≤ 250)
    (hK : ∀ t ∈ pcL r, pattern_Compile F t = some (pat t) ∧ ∃ x, pattern_Literal F (pat t) = some (x, lit t))
    (hM : ∀ t ∈ pcL r, lit t = false → ∀ n : List UInt8, n.length ≤ 32 → pattern_Match F (pat t) n = some (mt (pat t) n))
    (hW : (W l mt (partsOf pat lit r) (startP cwd (fieldOf r))).length ≤ 1000000) : pathname_Expand F l cwd r = some (expS l mt pat lit cwd r, 0) := by
  obtain ⟨g1, g2⟩ := pc_sz (l := r)
  have g3 := pc_len (l := r)
  have hpc : pathname_pieces_1 F r l [] true [] [] [] = some (l, _, _, _, []) := pieces_eq (F := F) (pat := pat) (lit := lit) (l := r) (fs := l) (dead := []) (by omega) (by omega) (by omega) (by omega) (by omega) (fun k => by have := pc_now' r k; omega) (fun t ht => by
    have := g2 t ht
    have := g3 t ht
    exact ⟨(hK t ht).1, (hK t ht).2, by omega, by omega, by omega⟩)
  have hnsz : ∀ n ∈ (pcL r).map txt, n.length ≤ 300 := by
    intro n hn
    obtain ⟨t, ht, rfl⟩ := List.mem_map.1 hn
    have := g2 t ht
    rw [txt_len]; omega
  have hjl := joinR_le _ hnsz
  rw [List.length_map] at hjl
  unfold pathname_Expand
  rw [clean_eq F cwd [47] (by omega) (by simp), clean_root hc]
  show ((pathname_pieces_1 F r l [] true [] [] []).bind _) = _
  rw [hpc, Option.bind_some]
  dsimp only
  rw [join_eqS F _ (by rw [List.length_map]; omega) (by omega), Option.bind_some]
  dsimp only
  unfold expS
  cases ha : (pcL r).all lit with
  | true => rfl
  | false =>
    rw [cond_false, pre47_eq, Option.bind_some, cond_som, Option.bind_some]
    have hDead : DeadOk l mt (partsOf pat lit r) [] := fun i p h => by cases h
    have hNam : NamOk (partsOf pat lit r) 0 ((pcL r).map txt) := ⟨by unfold partsOf; rw [List.length_map, List.length_map], fun j _ hj _ => by
      unfold partsOf at hj ⊢
      rw [List.length_map] at hj
      rw [gd (by rw [List.length_map]; exact hj), List.getElem_map, List.getElem_map]
      rfl, hnsz⟩
    obtain ⟨-, hfrom⟩ := search_spec (F := F) (l := l) (mt := mt) (parts := partsOf pat lit r) hF ⟨hv, by unfold partsOf; rw [List.length_map]; omega, fun c hc => by
        obtain ⟨t, ht, rfl⟩ := List.mem_map.1 hc
        have := g2 t ht
        show (txt t).length ≤ _
        rw [txt_len]; omega⟩ (fun c hc hl n hn => by
        obtain ⟨t, ht, rfl⟩ := List.mem_map.1 hc
        exact hM t ht hl n hn) (partsOf pat lit r).length 0 (startP cwd (fieldOf r)) [] ((pcL r).map txt) [] (by omega) hDead hNam (by simpa using hW)
    obtain ⟨x, hx, d, n', rfl, -, -, -⟩ := hfrom F (by unfold partsOf; rw [List.length_map]; omega)
    have e1 : cond ((joinR ((pcL r).map txt)).take 1 == [47]) (([47] : List UInt8), (pcL r).map txt, ([] : List (List UInt8))) (cwd, (pcL r).map txt, []) = (startP cwd (fieldOf r), (pcL r).map txt, []) := by
      unfold startP fieldOf
      cases (List.take 1 (joinR ((pcL r).map txt)) == [47]) <;> rfl
    rw [e1]
    dsimp only
    unfold pathname_search_from
    rw [show (0 : Int) = ((0 : Nat) : Int) from rfl]
    unfold partsOf at hx ⊢
    rw [hx, Option.bind_some]
    dsimp only
    rw [Bool.not_not, Bool.false_or, List.drop_zero]
    cases hE : (W l mt ((pcL r).map (cmpP pat lit)) (startP cwd (fieldOf r))).isEmpty with
    | true => rfl
    | false =>
      rw [cond_false, cond_false]
      unfold sortF
      unfold partsOf at hW
      rw [rq1 (by simp; omega), Option.bind_some]
      simp
end Go.Proofs.YtmklhkmeampamaaGreatDoor
