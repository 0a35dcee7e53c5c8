import Derived.Test.YteagcbkkonabbaaGreatDoorVh
namespace Go.Proofs.YteagcbkkonabbaaGreatDoor
open Go.RT
set_option linter.all false
set_option maxRecDepth 100000
section
variable {C : Cx} {part k j : Nat} {s : List UInt8} {n : Int} {buf d : List UInt8} {ls : List (List UInt8)} {r : Rg} {o : List Int} {a : TAns} {ops : List (List UInt8)} {nm : List UInt8}
def Goes (C : Cx) (part k j : Nat) (s : List UInt8) (a : TAns) (z : TReq × Bool × Eg) : Prop := ∀ e, adw KB a e = some z → Fin KB C part k j s a e
theorem goes_go {e1 : Eg} {q0 : TReq} {j' : Nat} (h : Fin KB C part k j s a e1) (hj : j + 1 ≤ j') : Goes C part k j' s a (q0, false, e1) := fun e he => .go he h hj
theorem goes_ask {e1 : Eg} {q : TReq} {j' : Nat} {s' : List UInt8} {a' : TAns} (hi : C.In e1) (hq : Rep part s q s' a') (h : Fin KB C part k j s' a' (relines e1)) (hj : j ≤ 90) : Goes C part (k + 1) j' s a (q, true, e1) := fun e he => .ask he hi hq h hj (Nat.le_refl _)
theorem Goes.mono {z : TReq × Bool × Eg} (h : Goes C part k j s a z) {k' j' : Nat} (h1 : k ≤ k') (h2 : j ≤ j') : Goes C part k' j' s a z := fun e he => (h e he).mono h1 h2
theorem adv0 {u : TUtil} {w : Twords} {r : TAinti648} {z : TReq × Bool × Eg} (h : u.fState = 0) (hz : util_engine_begin KB u w r o = some z) : adw KB a (u, w, r, o) = some z := by
  unfold adw util_engine_advance
  simp only [h, hz]
  rfl
theorem fin_b (hp : 1 ≤ part) (hn : C.nm.length ≤ 30) (hr : r.Ok) (ho : smO o) {ft : Option Bool} {br : Option (TReq × Bool × Eg)}
    (e : util_engine_begin KB (zu C 0 n buf ls) C.w (rv r) o = (ft.bind fun x2 => some (!x2)).bind fun x1 => cond x1 ((util_engine_usage KB (zu C 0 n buf ls) C.w (rv r) o).bind fun x3 => some (rq0, false, x3.1, x3.2.1, x3.2.2.1, x3.2.2.2)) br)
    (hf : ∃ b, ft = some b ∧ (b = true → ∃ z, br = some z ∧ Goes C part k 40 s a z)) : Fin KB C part (k + 100) 40 s a (eg C 0 n buf [] ls r o) := by
  obtain ⟨b, hb, hz⟩ := hf
  rw [hb, Option.bind_some, Option.bind_some] at e
  cases b with
  | true =>
    obtain ⟨z, h1, h2⟩ := hz rfl
    rw [h1] at e
    exact (h2 _ (adv0 (u := zu C 0 n buf ls) rfl e)).mono (by omega) (Nat.le_refl _)
  | false =>
    obtain ⟨m, hm, hu⟩ := usage_ok (F := KB) (C := C) (st := 0) (n := n) (buf := buf) (ls := ls) (r := r) (o := o) hn
    rw [show (!false) = true from rfl, cond_true, hu _ rfl, Option.bind_some] at e
    refine Fin.go (j := 10) (q0 := rq0) (adv0 (u := zu C 0 n buf ls) (z := (rq0, false, wrE C 2 m 4 2 buf ls r o)) rfl e) ?_ (by omega)
    exact (fin_wr (k := 0) (j := 10) hp hr ho (by decide) (by decide) (by omega) (by omega) (by omega) (aft4 hr ho (by decide) (by decide))).mono (by omega) (by omega)
theorem rd0 (hr : r.Ok) (h1 : r.it = 0) (h2 : r.inn = 0) (h3 : r.sp = 0) (hh : nm ≠ nmHead) : Rd (cx nm ops) r := ⟨hr, h1, h2, h3, fun h => absurd h hh⟩
theorem inp_std (h1 : (nm == nmTee) = false) (h2 : (nm == nmGrep) = false) : Inp (cx nm ops) (cond ops.isEmpty [[45]] ops) := fun u r o hu => by
  unfold util_engine_inputs
  rw [hu, show (cx nm ops).nm = nm from rfl, h1, h2, cond_false, cond_false, Option.bind_some]
  show cond ((ops.length : Int) == 0) _ _ = _
  cases ops with
  | nil => rfl
  | cons p l =>
    have e : (((p :: l).length : Int) == 0) = false := beq_false_of_ne (by rw [List.length_cons]; omega)
    rw [e]
    rfl
theorem inp_grep (h : ops ≠ []) : Inp (cx nmGrep ops) (cond (ops.drop 1).isEmpty [[45]] (ops.drop 1)) := fun u r o hu => by
  unfold util_engine_inputs
  rw [hu]
  have hpos : 0 < ops.length := List.length_pos_iff.2 h
  show ((rq ((decide (0 ≤ cond (decide (1 < (ops.length : Int))) 1 (ops.length : Int))) && ((decide (cond (decide (1 < (ops.length : Int))) 1 (ops.length : Int) ≤ (ops.length : Int))) && (decide ((ops.length : Int) ≤ (ops.length : Int))))) (some (sl ops (cond (decide (1 < (ops.length : Int))) 1 (ops.length : Int)) (ops.length : Int))) : Option (List (List UInt8))).bind _) = _
  have e1 : (cond (decide (1 < (ops.length : Int))) 1 (ops.length : Int) : Int) = 1 := by
    by_cases h1 : (1 : Int) < (ops.length : Int)
    · rw [ct h1]
    · rw [cf h1]; omega
  have e2 : sl ops 1 (ops.length : Int) = ops.drop 1 := by simp [sl, List.take_of_length_le]
  rw [e1, rq3 (by omega) (by omega) (by omega), e2, Option.bind_some]
  generalize ops.drop 1 = l
  cases l with
  | nil => rfl
  | cons p l =>
    have e : (((p :: l).length : Int) == 0) = false := beq_false_of_ne (by rw [List.length_cons]; omega)
    rw [e]
    rfl
theorem fin_stream (hp : 1 ≤ part) (hs : s.length ≤ 200) {l : List (List UInt8)} (hl : NWL l) (hll : l.length ≤ 20) (hI : Inp C (cond l.isEmpty [[45]] l)) (hcp : (C.nm == nmCp) = false) (hF : ∀ b : List UInt8, b.length ≤ 200 → FinOk C b) (hC : ConOk C part []) (hr : Rd C r) :
    Fin KB C part 7001 5 s a (eg C 10 n [] [] ls r []) := by
  have ho : smO [] := ⟨fun n hn => (by cases hn), by simp⟩
  cases l with
  | nil => exact (fin_stdin hp hI hcp hF ho hC hs hr).mono (Nat.le_refl _) (by omega)
  | cons p q => exact (fin_files hp hI (fun x hx => nw_dash (hl x hx)) (by show (p :: q).length ≤ 100; omega) hcp (hF [] (by simp)) _ r rfl hr.sp hr.ok ho a ls).mono (by show 3 * ((p :: q).length - r.it) + 1000 ≤ 7001; omega) (Nat.le_refl _)
abbrev r0 : Rg := ⟨0, 0, 0, 0, 0, 0, 0, 0⟩
theorem r0_ok : r0.Ok := ⟨by decide, by decide, by decide, by decide, by decide, by decide, by decide, by decide⟩
theorem so0 : smO [] := ⟨fun n hn => (by cases hn), by simp⟩
def E0 (nm : List UInt8) (ops : List (List UInt8)) : Eg := eg (cx nm ops) 0 0 [] [] [] r0 []
def Ends (nm : List UInt8) (ops : List (List UInt8)) : Prop := ∀ (part : Nat) (s : List UInt8), 1 ≤ part → s.length ≤ 200 → Fin KB (cx nm ops) part 11000 60 s an0 (E0 nm ops)
theorem ends_of {br : Option (TReq × Bool × Eg)} {ft : Option Bool} (hn : nm.length ≤ 30)
    (e : util_engine_begin KB (zu (cx nm ops) 0 0 [] []) (cx nm ops).w (rv r0) [] = (ft.bind fun x2 => some (!x2)).bind fun x1 => cond x1 ((util_engine_usage KB (zu (cx nm ops) 0 0 [] []) (cx nm ops).w (rv r0) []).bind fun x3 => some (rq0, false, x3.1, x3.2.1, x3.2.2.1, x3.2.2.2)) br)
    (hf : ∃ b, ft = some b ∧ (b = true → ∃ z, br = some z ∧ ∀ (part : Nat) (s : List UInt8), 1 ≤ part → s.length ≤ 200 → Goes (cx nm ops) part 10900 40 s an0 z)) : Ends nm ops := fun part s hp hs => by
  obtain ⟨b, h1, h2⟩ := hf
  exact (fin_b (k := 10900) hp hn r0_ok so0 e ⟨b, h1, fun hb => by obtain ⟨z, h3, h4⟩ := h2 hb; exact ⟨z, h3, h4 part s hp hs⟩⟩).mono (by omega) (by omega)
abbrev rh : Rg := ⟨0, 0, 0, 0, 0, 0, 10, 0⟩
theorem rh_ok : rh.Ok := ⟨by decide, by decide, by decide, by decide, by decide, by decide, by decide, by decide⟩
section
theorem ends_cat (hn : NWL ops) (hl : ops.length ≤ 19) : Ends nmCat ops := by
  refine ends_of (ft := some true) (br := some (rq0, false, eg (cx nmCat ops) 10 0 [] [] [] r0 [])) (by decide) rfl ⟨true, rfl, fun _ => ⟨_, rfl, fun part s hp hs => goes_go (j := 5) ?_ (by omega)⟩⟩
  exact (fin_stream hp hs hn (by omega) (inp_std rfl rfl) rfl (fun b hb => fin_none (.inl rfl)) (con_cat hp so0) (rd0 r0_ok rfl rfl rfl (by decide))).mono (by omega) (Nat.le_refl _)
theorem ends_head (hn : NWL ops) (hl : ops.length ≤ 19) : Ends nmHead ops := by
  refine ends_of (ft := some true) (br := some (rq0, false, eg (cx nmHead ops) 10 0 [] [] [] rh [])) (by decide) rfl ⟨true, rfl, fun _ => ⟨_, rfl, fun part s hp hs => goes_go (j := 5) ?_ (by omega)⟩⟩
  exact (fin_stream hp hs hn (by omega) (inp_std rfl rfl) rfl (fun b hb => fin_none (.inr (.inl rfl))) (con_head hp so0) ⟨rh_ok, rfl, rfl, rfl, fun _ => by decide⟩).mono (by omega) (Nat.le_refl _)
theorem ends_tail (hn : NWL ops) (hl : ops.length ≤ 19) : Ends nmTail ops := by
  refine ends_of (ft := some true) (br := some (rq0, false, eg (cx nmTail ops) 10 0 [] [] [] r0 [])) (by decide) rfl ⟨true, rfl, fun _ => ⟨_, rfl, fun part s hp hs => goes_go (j := 5) ?_ (by omega)⟩⟩
  exact (fin_stream hp hs hn (by omega) (inp_std rfl rfl) rfl (fun b hb => fin_tail (by omega)) (con_buf rfl rfl rfl rfl) (rd0 r0_ok rfl rfl rfl (by decide))).mono (by omega) (Nat.le_refl _)
theorem ends_wc (hn : NWL ops) (hl : ops.length ≤ 19) : Ends nmWc ops := by
  refine ends_of (ft := some true) (br := some (rq0, false, eg (cx nmWc ops) 10 0 [] [] [] r0 [])) (by decide) rfl ⟨true, rfl, fun _ => ⟨_, rfl, fun part s hp hs => goes_go (j := 5) ?_ (by omega)⟩⟩
  exact (fin_stream hp hs hn (by omega) (inp_std rfl rfl) rfl (fun b hb => fin_wc (by omega)) (con_buf rfl rfl rfl rfl) (rd0 r0_ok rfl rfl rfl (by decide))).mono (by omega) (Nat.le_refl _)
theorem ends_sort (hn : NWL ops) (hl : ops.length ≤ 19) : Ends nmSort ops := by
  refine ends_of (ft := some true) (br := some (rq0, false, eg (cx nmSort ops) 10 0 [] [] [] r0 [])) (by decide) rfl ⟨true, rfl, fun _ => ⟨_, rfl, fun part s hp hs => goes_go (j := 5) ?_ (by omega)⟩⟩
  exact (fin_stream hp hs hn (by omega) (inp_std rfl rfl) rfl (fun b hb => fin_sort (by omega)) (con_buf rfl rfl rfl rfl) (rd0 r0_ok rfl rfl rfl (by decide))).mono (by omega) (Nat.le_refl _)
theorem ends_uniq (hn : NWL ops) (hl : ops.length ≤ 19) : Ends nmUniq ops := by
  refine ends_of (ft := some true) (br := some (rq0, false, eg (cx nmUniq ops) 10 0 [] [] [] r0 [])) (by decide) rfl ⟨true, rfl, fun _ => ⟨_, rfl, fun part s hp hs => goes_go (j := 5) ?_ (by omega)⟩⟩
  exact (fin_stream hp hs hn (by omega) (inp_std rfl rfl) rfl (fun b hb => fin_uniq (by omega)) (con_buf rfl rfl rfl rfl) (rd0 r0_ok rfl rfl rfl (by decide))).mono (by omega) (Nat.le_refl _)
theorem ends_rev (hn : NWL ops) (hl : ops.length ≤ 19) : Ends nmRev ops := by
  refine ends_of (ft := some true) (br := some (rq0, false, eg (cx nmRev ops) 10 0 [] [] [] r0 [])) (by decide) rfl ⟨true, rfl, fun _ => ⟨_, rfl, fun part s hp hs => goes_go (j := 5) ?_ (by omega)⟩⟩
  exact (fin_stream hp hs hn (by omega) (inp_std rfl rfl) rfl (fun b hb => fin_rev (by omega)) (con_buf rfl rfl rfl rfl) (rd0 r0_ok rfl rfl rfl (by decide))).mono (by omega) (Nat.le_refl _)
theorem ends_grep (hn : NWL ops) (hl : ops.length ≤ 19) : Ends nmGrep ops := by
  refine ends_of (ft := some (decide (0 < (ops.length : Int)))) (br := some (rq0, false, eg (cx nmGrep ops) 10 0 [] [] [] r0 [])) (by decide) rfl ⟨_, rfl, fun h => ⟨_, rfl, fun part s hp hs => goes_go (j := 5) ?_ (by omega)⟩⟩
  have h0 : ops ≠ [] := fun h1 => by rw [h1] at h; cases h
  exact (fin_stream hp hs (hn.drop 1) (by rw [List.length_drop]; omega) (inp_grep h0) rfl (fun b hb => fin_grep hn (by omega)) (con_buf rfl rfl rfl rfl) (rd0 r0_ok rfl rfl rfl (by decide))).mono (by omega) (Nat.le_refl _)
theorem fin_tee (hl : ops.length ≤ 19) (hp : 1 ≤ part) (hs : s.length ≤ 200) : ∀ (m : Nat) (r : Rg) (o : List Int), ops.length - r.it = m → r.it = o.length → r.Ok → r.inn = 0 → r.sp = 0 → smO o → o.length ≤ 20 → ∀ (a : TAns) (ls : List (List UInt8)), Fin KB (cx nmTee ops) part (m + 7002) 5 s a (eg (cx nmTee ops) 17 0 [] [] ls r o) := by
  intro m
  induction m with
  | zero =>
    intro r o h1 h2 hr h3 h4 ho hol a ls
    obtain ⟨p, hp1⟩ := el_ex [[45]] r.it
    obtain ⟨q, hq1⟩ := el_ex ops r.it
    have hr2 : Rg.Ok { r with it := 0 } := ⟨hr.af, hr.fd, hr.sta, by show 0 < 1000; omega, hr.inn, hr.nx, hr.lf, hr.sp⟩
    refine Fin.go (j := 4) (q0 := rq0) (e1 := eg (cx nmTee ops) 10 0 [] [] ls { r with it := 0 } o) (g17 (u := zu (cx nmTee ops) 17 0 [] ls) (r := rv r) (.inl rfl) (inp_tee _ _ _ rfl) hp1 (open_end (u := zu (cx nmTee ops) 17 0 [] ls) rfl hq1 (by show (ops.length : Int) ≤ (r.it : Int); omega))) ?_ (by omega)
    exact (fin_stdin hp inp_tee rfl (fun b hb => fin_none (.inr (.inr rfl))) ho (con_tee hp ho hol) hs (rd0 hr2 rfl h3 h4 (by decide))).mono (by omega) (by omega)
  | succ m ih =>
    intro r o h1 h2 hr h3 h4 ho hol a ls
    obtain ⟨p, hp1⟩ := el_ex [[45]] r.it
    obtain ⟨q, hq1⟩ := el_ex ops r.it
    have hr2 : Rg.Ok { r with it := r.it + 1 } := ⟨hr.af, hr.fd, hr.sta, by show r.it + 1 < 1000; omega, hr.inn, hr.nx, hr.lf, hr.sp⟩
    have ho2 : smO (o ++ [3]) := ⟨fun n hn => by
      rcases List.mem_append.1 hn with h | h
      · exact ho.1 n h
      · rw [List.mem_singleton.1 h]; exact ⟨by decide, by decide⟩, by simp; omega⟩
    refine Fin.ask (k := m + 7002) (j := 6) (g17 (u := zu (cx nmTee ops) 17 0 [] ls) (r := rv r) (.inl rfl) (inp_tee _ _ _ rfl) hp1 (open_ask (u := zu (cx nmTee ops) 17 0 [] ls) rfl hq1 (by show (r.it : Int) < (ops.length : Int); omega) (has_nil ops 97))) (inE (st := 18) (n := 0) (buf := []) (out := []) (ls := ls) hr ho) .opn ?_ (by omega) (by omega)
    refine Fin.go (j := 5) (q0 := rq0) (e1 := eg (cx nmTee ops) 17 0 [] [] (linesO (rv r) o) { r with it := r.it + 1 } (o ++ [3])) ?_ (ih { r with it := r.it + 1 } (o ++ [3]) (by show ops.length - (r.it + 1) = m; omega) (by show r.it + 1 = (o ++ [3]).length; simp; omega) hr2 h3 h4 ho2 (by simp; omega) _ _) (by omega)
    have h := g17 (u := zu (cx nmTee ops) 18 0 [] (linesO (rv r) o)) (w := (cx nmTee ops).w) (r := rv r) (o := o) (a := anF 3) (.inr rfl) (inp_tee _ _ _ rfl) hp1 (open_got (u := zu (cx nmTee ops) 18 0 [] (linesO (rv r) o)) rfl rfl hq1 (by omega))
    have e1 : w64 ((rv r).2.2.2.1 + 1) = ((r.it + 1 : Nat) : Int) := by
      show w64 ((r.it : Int) + 1) = _
      exact w64s (by have := hr.it; omega)
    rw [e1] at h
    exact h
theorem ends_tee (hn : NWL ops) (hl : ops.length ≤ 19) : Ends nmTee ops := by
  refine ends_of (ft := some true) (br := some (rq0, false, eg (cx nmTee ops) 17 0 [] [] [] r0 [])) (by decide) rfl ⟨true, rfl, fun _ => ⟨_, rfl, fun part s hp hs => goes_go (j := 5) ?_ (by omega)⟩⟩
  exact (fin_tee hl hp hs _ r0 [] rfl rfl r0_ok rfl rfl so0 (by simp) _ _).mono (by show ops.length - 0 + 7002 ≤ 10900; omega) (Nat.le_refl _)
end
end
end Go.Proofs.YteagcbkkonabbaaGreatDoor
