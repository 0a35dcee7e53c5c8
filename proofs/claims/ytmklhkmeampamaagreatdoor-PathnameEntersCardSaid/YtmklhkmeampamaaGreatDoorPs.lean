/-
  Pathname, plain part 3: Quotes.
-/
import Derived.Test.YtmklhkmeampamaaGreatDoorPr
namespace Go.Proofs.YtmklhkmeampamaaGreatDoor
open Go.RT
set_option linter.all false
set_option maxRecDepth 100000

/-! ### The document's components of quoted runs -/
def qRun (r : TRun) : Prop := r.fClass = 1 ∧ r.fText.length = 1
def QI (n : Nat) (o : List (List TRun) × List TRun) : Prop := (∀ c ∈ o.1, (∀ r ∈ c, qRun r) ∧ c.length ≤ n) ∧ (∀ r ∈ o.2, qRun r) ∧ o.2.length ≤ n
theorem QI_foldB : ∀ (t : List UInt8) (n : Nat) (o : List (List TRun) × List TRun), QI n o → QI (n + t.length) (t.foldl (stepB 1) o)
  | [], n, o, h => h
  | b :: t, n, o, h => by
    have h2 : QI (n + 1) (stepB 1 o b) := by
      obtain ⟨h1, h2, h3⟩ := h
      unfold stepB
      cases (b == 47)
      · refine ⟨fun c hc => ⟨(h1 c hc).1, by have := (h1 c hc).2; omega⟩, fun r hr => ?_, by simp; omega⟩
        rcases List.mem_append.1 hr with hr | hr
        · exact h2 r hr
        · obtain rfl := List.mem_singleton.1 hr; exact ⟨rfl, rfl⟩
      · refine ⟨fun c hc => ?_, fun r hr => (by cases hr), by simp⟩
        rcases List.mem_append.1 hc with hc | hc
        · exact ⟨(h1 c hc).1, by have := (h1 c hc).2; omega⟩
        · obtain rfl := List.mem_singleton.1 hc; exact ⟨h2, by omega⟩
    have := QI_foldB t (n + 1) _ h2
    rwa [show n + 1 + t.length = n + (b :: t).length by simp; omega] at this
theorem comp_q (s : List UInt8) : ∀ c ∈ compL [TRun.mk s 1], (∀ r ∈ c, qRun r) ∧ c.length ≤ s.length := by
  have h : QI (0 + s.length) (compO [TRun.mk s 1]) := QI_foldB s 0 ([], []) ⟨fun c hc => (by cases hc), fun r hr => (by cases hr), by simp⟩
  rw [Nat.zero_add] at h
  intro c hc
  rcases List.mem_append.1 hc with hc | hc
  · exact h.1 c hc
  · obtain rfl := List.mem_singleton.1 hc; exact h.2
theorem comp_len (l : List TRun) : (compL l).length ≤ szL l + 1 := by
  have := foldR_sz l ([], [])
  unfold compL compO
  simp only [szO, List.length_append, List.length_cons, List.length_nil] at *
  omega
theorem szL_q : ∀ {c : List TRun}, (∀ r ∈ c, r.fText.length = 1) → szL c = c.length
  | [], _ => rfl
  | r :: c, h => by
    have := szL_q (c := c) fun x hx => h x (by simp [hx])
    have := h r (by simp)
    unfold szL at *
    simp only [List.map_cons, List.sum_cons, List.length_cons]
    omega
theorem el_q {c : List TRun} (h : ∀ r ∈ c, r.fClass = 1) : ∀ e ∈ c.flatMap elR, e.factive = false := by
  intro e he
  obtain ⟨r, hr, he⟩ := List.mem_flatMap.1 he
  have hc := h r hr
  unfold elR at he
  rw [hc] at he
  obtain ⟨b, -, rfl⟩ := List.mem_map.1 (show e ∈ r.fText.map fun b => Telement.mk (b.toNat : Int) ((1 : Int) != 1) from he)
  rfl
theorem ch_q {c : List TRun} (h : ∀ r ∈ c, r.fClass = 1) : ∀ e ∈ c.flatMap chR, e.factive = false := by
  intro e he
  obtain ⟨r, hr, he⟩ := List.mem_flatMap.1 he
  have hc := h r hr
  unfold chR at he
  rw [hc] at he
  obtain ⟨b, -, rfl⟩ := List.mem_map.1 (show e ∈ r.fText.map fun b => Tchar.mk (b.toNat : Int) ((1 : Int) != 1) from he)
  rfl
theorem bounded_q (F : Nat) (s : List UInt8) (hF : 1000 ≤ F) (hs : s.length ≤ 80) : ∃ b, (b = true → True) ∧ ref20_Bounded F [TRun.mk s 1] = some b := by
  have hsz : szL [TRun.mk s 1] = s.length := by simp [szL]
  have hcl := comp_len [TRun.mk s 1]
  refine bounded_of (by omega) (by omega) (by simp) (by omega) fun c hc => ?_
  obtain ⟨h1, h2⟩ := comp_q s c hc
  have h3 : szL c = c.length := szL_q fun r hr => (h1 r hr).2
  have h4 : (c.flatMap elR).length ≤ szL c := fl_len _ elR_len _
  refine ⟨_, (((c.flatMap elR).map (·.fb)).flatMap fun b => toBytes [b], true), compileQ F c (by omega) (by omega) (by omega) (by omega) (el_q fun r hr => (h1 r hr).1), ?_⟩
  rw [show ((c.flatMap elR).map fun e => pb e.fb) = ((c.flatMap elR).map (·.fb)).map pb by rw [List.map_map]; rfl]
  exact rliteralQ F _ (by rw [List.length_map]; omega) (by rw [List.length_map]; omega)

/-! ### The program's pieces of a quoted run -/
theorem pc_fold (c : Int) : ∀ (ps : List (List UInt8)) (d : List (List TRun)) (t : List TRun), (ps.foldl (pcQ c) (d, t)).1 ++ [(ps.foldl (pcQ c) (d, t)).2] = d ++ (t :: ps.map fun q => [TRun.mk q c])
  | [], d, t => rfl
  | q :: ps, d, t => by
    have := pc_fold c ps (d ++ [t]) [TRun.mk q c]
    rw [List.foldl_cons]
    unfold pcQ at *
    rw [this]
    simp
theorem pcL_one (s : List UInt8) (c : Int) (hc : clsB c = false) : pcL [TRun.mk s c] = (partsS s).map fun p => [TRun.mk p c] := by
  unfold pcL pcO
  rw [List.foldl_cons, List.foldl_nil]
  unfold pcR
  rw [show clsB (TRun.mk s c).fClass = false from hc, cond_false]
  show (pcP c ([], []) (partsS s)).1 ++ [(pcP c ([], []) (partsS s)).2] = _
  cases h : partsS s with
  | nil => exact absurd h (parts_ne s)
  | cons p ps => exact pc_fold c ps [] [TRun.mk p c]
theorem pc_now (s : List UInt8) (c : Int) (hc : clsB c = false) (k : Nat) : (([TRun.mk s c].take k).foldl pcR ([], [])).2.length ≤ 1000000 := by
  cases k with
  | zero => simp
  | succ k =>
    have h : (pcO [TRun.mk s c]).2 ∈ pcL [TRun.mk s c] := by unfold pcL; simp
    rw [pcL_one s c hc] at h
    obtain ⟨p, -, hp⟩ := List.mem_map.1 h
    rw [List.take_of_length_le (by simp)]
    show (pcO [TRun.mk s c]).2.length ≤ _
    rw [← hp]
    simp
def patQ (t : List TRun) : List TPatItem := (t.flatMap chR).map fun e => pb e.fb
theorem pck_q (F : Nat) (p : List UInt8) (hF : 1000 ≤ F) (hp : p.length ≤ 80) : PcK F patQ (fun _ => true) [TRun.mk p 1] := by
  have hsz : szL [TRun.mk p 1] = p.length := by simp [szL]
  have h4 : ([TRun.mk p 1].flatMap chR).length ≤ szL [TRun.mk p 1] := fl_len _ chR_len _
  refine ⟨pcompileQ F _ (by simp; omega) (by omega) (by simp) (by omega) (ch_q fun r hr => by obtain rfl := List.mem_singleton.1 hr; rfl), ⟨(([TRun.mk p 1].flatMap chR).map (·.fb)).flatMap fun b => toBytes [b], ?_⟩, by simp; omega, by simp, by omega⟩
  show pattern_Literal F (([TRun.mk p 1].flatMap chR).map fun e => pb e.fb) = _
  rw [show (([TRun.mk p 1].flatMap chR).map fun e => pb e.fb) = (([TRun.mk p 1].flatMap chR).map (·.fb)).map pb by rw [List.map_map]; rfl]
  exact pliteralQ F _ (by rw [List.length_map]; omega) (by rw [List.length_map]; omega)
theorem txt_one (p : List UInt8) (c : Int) : txt [TRun.mk p c] = p := by simp [txt]
theorem txt_parts (s : List UInt8) (c : Int) : ((partsS s).map fun p => [TRun.mk p c]).map txt = partsS s := by
  rw [List.map_map]
  conv => rhs; rw [← List.map_id (partsS s)]
  exact List.map_congr_left fun p _ => txt_one p c
theorem clean_root {cwd : List UInt8} (h : pathS cwd = true) : cleanS cwd [47] = ([47], 0) := by
  unfold cleanS
  rw [h]
  rfl
theorem expand_q (F : Nat) (l : List TFile) (cwd s : List UInt8) (hF : 1000 ≤ F) (hc : pathS cwd = true) (hs : s.length ≤ 80) : pathname_Expand F l cwd [TRun.mk s 1] = some ([s], 0) := by
  have hsz : szL [TRun.mk s 1] = s.length := by simp [szL]
  have hpl := parts_len s
  have hP := pcL_one s 1 rfl
  have hpc : pathname_pieces_1 F [TRun.mk s 1] l [] true [] [] [] = some (l, _, _, _, []) := pieces_eq (F := F) (pat := patQ) (lit := fun _ => true) (l := [TRun.mk s 1]) (fs := l) (dead := []) (by simp; omega) (by omega) (by simp) (by omega) (by rw [hP, List.length_map]; omega) (pc_now s 1 rfl) (fun t ht => by
    rw [hP] at ht
    obtain ⟨p, hp, rfl⟩ := List.mem_map.1 ht
    have := parts_mem_len s p hp
    exact pck_q F p hF (by omega))
  unfold pathname_Expand
  rw [clean_eq F cwd [47] hF (by simp), clean_root hc]
  show ((pathname_pieces_1 F [TRun.mk s 1] l [] true [] [] []).bind _) = _
  rw [hpc, Option.bind_some]
  dsimp only
  rw [hP, txt_parts, join_eqS F _ (by omega) (by rw [join_parts]; omega), Option.bind_some, join_parts, show (((partsS s).map fun p => [TRun.mk p 1]).all fun _ => true) = true by simp]
  rfl

end Go.Proofs.YtmklhkmeampamaaGreatDoor
