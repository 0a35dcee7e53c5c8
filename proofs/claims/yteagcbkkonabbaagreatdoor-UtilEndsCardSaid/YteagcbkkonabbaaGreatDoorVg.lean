import Derived.Test.YteagcbkkonabbaaGreatDoorVf
namespace Go.Proofs.YteagcbkkonabbaaGreatDoor
open Go.RT
set_option linter.all false
set_option maxRecDepth 100000
def Inp (C : Cx) (inp : List (List UInt8)) : Prop := ∀ (u : TUtil) (r : TAinti648) (o : List Int), u.fName = C.nm → util_engine_inputs KB u C.w r o = some inp
section
variable {C : Cx} {part k j : Nat} {s : List UInt8} {n : Int} {buf d : List UInt8} {ls : List (List UInt8)} {r : Rg} {o : List Int} {a : TAns} {inp : List (List UInt8)}
theorem el_ex (l : List (List UInt8)) (i : Nat) : ∃ p, util_element KB l (i : Int) = some p := by
  by_cases hi : i < l.length
  · exact ⟨_, el_in hi KB⟩
  · exact ⟨[], el_out (by omega) KB⟩
theorem fin_end (hp : 1 ≤ part) (hI : Inp C inp) (hF : FinOk C buf) (hr : r.Ok) (ho : smO o) (h : inp.length ≤ r.it ∨ r.sp ≠ 0) : Fin KB C part 1000 5 s a (eg C 10 n buf [] ls r o) := by
  obtain ⟨p, hp1⟩ := el_ex inp r.it
  obtain ⟨d, hd, hf⟩ := hF 10 n ls r o hr
  have hh : (inp.length : Int) ≤ (r.it : Int) ∨ (r.sp : Int) ≠ 0 := by omega
  rcases hf with hf | ⟨m, ⟨h0, h2⟩, hf⟩
  · exact .go (j := 4) (g10end (u := zu C 10 n buf ls) (r := rv r) rfl (hI _ _ _ rfl) hp1 hh hf) ((fin_wr (k := 0) (j := 4) hp hr ho (by omega) (by omega) (by omega) (by omega) (by omega) (aft3 hr ho (by omega))).mono (by omega) (by omega)) (by omega)
  · exact .go (j := 4) (g10end (u := zu C 10 n buf ls) (r := rv r) rfl (hI _ _ _ rfl) hp1 hh hf) ((fin_wr (k := 0) (j := 4) hp hr ho (by omega) (by omega) (by omega) (by omega) (by omega) (aft4 hr ho h0 (by omega))).mono (by omega) (by omega)) (by omega)
theorem fin_files (hp : 1 ≤ part) (hI : Inp C inp) (hfile : ∀ p ∈ inp, (p == ([45] : List UInt8)) = false) (hlen : inp.length ≤ 100) (hcp : (C.nm == nmCp) = false) (hF : FinOk C buf) :
    ∀ (m : Nat) (r : Rg), inp.length - r.it = m → r.sp = 0 → r.Ok → smO o → ∀ (a : TAns) (ls : List (List UInt8)), Fin KB C part (3 * m + 1000) 5 s a (eg C 10 n buf [] ls r o) := by
  intro m
  induction m with
  | zero => intro r h1 h2 hr ho a ls; exact (fin_end hp hI hF hr ho (.inl (by omega))).mono (by omega) (by omega)
  | succ m ih =>
    intro r h1 h2 hr ho a ls
    have hit : r.it < inp.length := by omega
    have hel : util_element KB inp (r.it : Int) = some inp[r.it] := (el_in hit KB).trans (by rw [gd hit])
    have hpf := hfile _ (List.getElem_mem hit)
    have hr1 : Rg.Ok { r with inn := 3 } := ⟨hr.af, hr.fd, hr.sta, hr.it, by show 3 < 1000; omega, hr.nx, hr.lf, hr.sp⟩
    have hr2 : Rg.Ok { r with inn := 3, it := r.it + 1 } := ⟨hr.af, hr.fd, hr.sta, by show r.it + 1 < 1000; omega, by show 3 < 1000; omega, hr.nx, hr.lf, hr.sp⟩
    refine Fin.ask (k := 3 * m + 1002) (j := 2) (g10file (u := zu C 10 n buf ls) (r := rv r) rfl (hI _ _ _ rfl) hel hpf (by show (r.it : Int) < _; omega) (by show (r.sp : Int) = 0; omega)) (inE (st := 11) (n := n) (buf := buf) (out := []) (ls := ls) hr ho) .opn ?_ (by omega) (by omega)
    refine Fin.go (j := 1) (e1 := eg C 12 n buf [] (linesO (rv r) o) { r with inn := 3 } o) (g11 (u := zu C 11 n buf (linesO (rv r) o)) (r := rv r) (a := anF 3) rfl rfl (hI _ _ _ rfl) hel) ?_ (by omega)
    refine Fin.ask (k := 3 * m + 1001) (j := 3) (g12 (u := zu C 12 n buf (linesO (rv r) o)) (r := rv { r with inn := 3 }) rfl (hI _ _ _ rfl) hel) (inE (st := 13) (n := n) (buf := buf) (out := []) (ls := linesO (rv r) o) hr1 ho) (.readfd (by rfl)) ?_ (by omega) (by omega)
    refine Fin.go (j := 2) (e1 := eg C 15 n buf [] (linesO (rv { r with inn := 3 }) o) { r with inn := 3 } o) (g13empty (u := zu C 13 n buf (linesO (rv { r with inn := 3 }) o)) (r := rv { r with inn := 3 }) (a := an0) rfl rfl rfl hcp (hI _ _ _ rfl) hel) ?_ (by omega)
    refine Fin.ask (k := 3 * m + 1000) (j := 6) (g15file (u := zu C 15 n buf (linesO (rv { r with inn := 3 }) o)) (r := rv { r with inn := 3 }) rfl (hI _ _ _ rfl) hel hpf) (inE (st := 16) (n := n) (buf := buf) (out := []) (ls := linesO (rv { r with inn := 3 }) o) hr1 ho) (.other rfl rfl rfl rfl) ?_ (by omega) (by omega)
    refine Fin.go (j := 5) (q0 := rq0) (e1 := eg C 10 n buf [] (linesO (rv { r with inn := 3 }) o) { r with inn := 3, it := r.it + 1 } o) ?_ (ih { r with inn := 3, it := r.it + 1 } (by show inp.length - (r.it + 1) = m; omega) h2 hr2 ho _ _) (by omega)
    have h16 := g16 (u := zu C 16 n buf (linesO (rv { r with inn := 3 }) o)) (w := C.w) (r := rv { r with inn := 3 }) (o := o) (a := an0) rfl (hI _ _ _ rfl) hel
    have e1 : w64 ((rv { r with inn := 3 }).2.2.2.1 + 1) = ((r.it + 1 : Nat) : Int) := by
      show w64 ((r.it : Int) + 1) = _
      exact w64s (by have := hr.it; omega)
    rw [e1] at h16
    exact h16
structure Rd (C : Cx) (r : Rg) : Prop where
  ok : r.Ok
  it : r.it = 0
  inn : r.inn = 0
  sp : r.sp = 0
  lf : C.nm = nmHead → 1 ≤ r.lf
def ConOk (C : Cx) (part : Nat) (o : List Int) : Prop := ∀ (data b : List UInt8) (r : Rg) (n : Int) (ls : List (List UInt8)) (a : TAns) (s : List UInt8) (k : Nat), data ≠ [] → b.length + data.length ≤ 200 → Rd C r →
  (∀ (b' : List UInt8) (r' : Rg) (a : TAns) (ls : List (List UInt8)), b'.length ≤ b.length + data.length → Rd C r' → Fin KB C part k 10 s a (eg C 12 n b' [] ls r' o)) →
  (∀ (r' : Rg) (a : TAns) (ls : List (List UInt8)), r'.it = 0 → r'.Ok → Fin KB C part k 10 s a (eg C 15 n b [] ls r' o)) →
  ∃ z : Eg, util_engine_consume KB data (zu C 13 n b ls) C.w (rv r) o = some z ∧ Fin KB C part (k + 25 * data.length) 15 s a z
theorem el45r (i : Nat) (h : i = 0) : util_element KB [[45]] (i : Int) = some [45] := by subst h; rfl
theorem fin15 (hp : 1 ≤ part) (hI : Inp C [[45]]) (hF : FinOk C buf) (hr : r.Ok) (ho : smO o) (hit : r.it = 0) : Fin KB C part 1000 10 s a (eg C 15 n buf [] ls r o) := by
  have hr2 : Rg.Ok { r with it := 1 } := ⟨hr.af, hr.fd, hr.sta, by show 1 < 1000; omega, hr.inn, hr.nx, hr.lf, hr.sp⟩
  refine Fin.go (j := 6) (e1 := eg C 16 n buf [] ls r o) (g15dash (u := zu C 15 n buf ls) (r := rv r) rfl (hI _ _ _ rfl) (el45r _ hit)) ?_ (by omega)
  refine Fin.go (j := 5) (q0 := rq0) (e1 := eg C 10 n buf [] ls { r with it := 1 } o) ?_ (fin_end hp hI hF hr2 ho (.inl (by show 1 ≤ 1; omega))) (by omega)
  have h16 := g16 (u := zu C 16 n buf ls) (w := C.w) (r := rv r) (o := o) (a := a) rfl (hI _ _ _ rfl) (el45r _ hit)
  have e1 : w64 ((rv r).2.2.2.1 + 1) = ((1 : Nat) : Int) := by show w64 ((r.it : Int) + 1) = _; rw [hit]; rfl
  rw [e1] at h16
  exact h16
theorem fin_read (hp : 1 ≤ part) (hI : Inp C [[45]]) (hcp : (C.nm == nmCp) = false) (hF : ∀ b : List UInt8, b.length ≤ 200 → FinOk C b) (ho : smO o) (hC : ConOk C part o) :
    ∀ (L : Nat) (s buf : List UInt8) (r : Rg) (a : TAns) (ls : List (List UInt8)), s.length ≤ L → buf.length + s.length ≤ 200 → Rd C r → Fin KB C part (30 * s.length + 1001) 1 s a (eg C 12 n buf [] ls r o) := by
  intro L
  induction L with
  | zero =>
    intro s buf r a ls hL hb hr
    have hs : s = [] := List.eq_nil_of_length_eq_zero (by omega)
    subst hs
    refine Fin.ask (k := 1000) (j := 15) (s' := ([] : List UInt8).drop (rdN part [])) (a' := anR (rdN part ([] : List UInt8) : Int) (([] : List UInt8).take (rdN part []))) (g12 (u := zu C 12 n buf ls) (r := rv r) rfl (hI _ _ _ rfl) (el45r _ hr.it)) (inE (st := 13) (n := n) (buf := buf) (out := []) (ls := ls) hr.ok ho) ?_ ?_ (by omega) (by simp only [List.length_nil]; omega)
    · have : (rv r).2.2.2.2.1 = 0 := by show (r.inn : Int) = 0; rw [hr.inn]; rfl
      rw [this]
      exact .read
    · rw [List.drop_nil]
      refine Fin.go (j := 10) (e1 := eg C 15 n buf [] (linesO (rv r) o) r o) (g13empty (u := zu C 13 n buf (linesO (rv r) o)) (r := rv r) (a := anR (rdN part ([] : List UInt8) : Int) (([] : List UInt8).take (rdN part []))) rfl rfl (by show List.take _ [] = []; exact List.take_nil) hcp (hI _ _ _ rfl) (el45r _ hr.it)) ?_ (by omega)
      exact fin15 hp hI (hF buf (by omega)) hr.ok ho hr.it
  | succ L ih =>
    intro s buf r a ls hL hb hr
    by_cases hs : s = []
    · subst hs; exact ih [] buf r a ls (by simp) hb hr
    have hpos : 0 < s.length := List.length_pos_iff.2 hs
    have hm : 1 ≤ rdN part s ∧ rdN part s ≤ s.length := by unfold rdN; omega
    have hdl : (s.drop (rdN part s)).length = s.length - rdN part s := List.length_drop
    have htl : (s.take (rdN part s)).length = rdN part s := by rw [List.length_take]; omega
    have hne : s.take (rdN part s) ≠ [] := fun h => by rw [h] at htl; simp only [List.length_nil] at htl; omega
    have hnb : (s.take (rdN part s) == []) = false := by
      cases hq : s.take (rdN part s) with
      | nil => exact absurd hq hne
      | cons _ _ => rfl
    refine Fin.ask (k := 30 * (s.drop (rdN part s)).length + 1001 + 25 * (s.take (rdN part s)).length) (j := 16) (s' := s.drop (rdN part s)) (a' := anR (rdN part s : Int) (s.take (rdN part s))) (g12 (u := zu C 12 n buf ls) (r := rv r) rfl (hI _ _ _ rfl) (el45r _ hr.it)) (inE (st := 13) (n := n) (buf := buf) (out := []) (ls := ls) hr.ok ho) ?_ ?_ (by omega) (by omega)
    · have : (rv r).2.2.2.2.1 = 0 := by show (r.inn : Int) = 0; rw [hr.inn]; rfl
      rw [this]
      exact .read
    · obtain ⟨z, hz, hfz⟩ := hC (s.take (rdN part s)) buf r n (linesO (rv r) o) (anR (rdN part s : Int) (s.take (rdN part s))) (s.drop (rdN part s)) (30 * (s.drop (rdN part s)).length + 1001) hne (by omega) hr
        (fun b' r' a ls hb' hr' => (ih (s.drop (rdN part s)) b' r' a ls (by omega) (by omega) hr').mono (by omega) (by omega))
        (fun r' a ls hit hok => (fin15 hp hI (hF buf (by omega)) hok ho hit).mono (by omega) (by omega))
      exact Fin.go (j := 15) (g13data (u := zu C 13 n buf (linesO (rv r) o)) (r := rv r) (a := anR (rdN part s : Int) (s.take (rdN part s))) rfl rfl hnb hcp (hI _ _ _ rfl) (el45r _ hr.it) hz) hfz (by omega)
theorem fin_stdin (hp : 1 ≤ part) (hI : Inp C [[45]]) (hcp : (C.nm == nmCp) = false) (hF : ∀ b : List UInt8, b.length ≤ 200 → FinOk C b) (ho : smO o) (hC : ConOk C part o) (hs : s.length ≤ 200) (hr : Rd C r) : Fin KB C part 7001 2 s a (eg C 10 n [] [] ls r o) := by
  refine Fin.go (j := 1) (q0 := rq0) (e1 := eg C 12 n [] [] ls r o) ?_ ((fin_read hp hI hcp hF ho hC s.length s [] r a ls (Nat.le_refl _) (by simp only [List.length_nil]; omega) hr).mono (by omega) (by omega)) (by omega)
  have h := g10dash (u := zu C 10 n [] ls) (w := C.w) (r := rv r) (o := o) (a := a) rfl (hI _ _ _ rfl) (el45r _ hr.it) (by show (r.it : Int) < ((1 : Nat) : Int); rw [hr.it]; decide) (by show (r.sp : Int) = 0; rw [hr.sp]; rfl)
  have e1 : (0 : Int) = (r.inn : Int) := by rw [hr.inn]; rfl
  rw [e1] at h
  exact h
end
end Go.Proofs.YteagcbkkonabbaaGreatDoor
