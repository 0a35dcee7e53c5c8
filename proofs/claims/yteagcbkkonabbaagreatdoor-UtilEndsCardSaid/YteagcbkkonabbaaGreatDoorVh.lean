import Derived.Test.YteagcbkkonabbaaGreatDoorVg
namespace Go.Proofs.YteagcbkkonabbaaGreatDoor
open Go.RT
set_option linter.all false
set_option maxRecDepth 100000
section
variable {C : Cx} {part k j : Nat} {s : List UInt8} {n : Int} {buf d : List UInt8} {ls : List (List UInt8)} {r : Rg} {o : List Int} {a : TAns} {ops : List (List UInt8)}
theorem fin_wr1 (hp : 1 ≤ part) (hr : r.Ok) (ho : smO o) {after fd : Nat} (h1 : after < 1000) (h2 : fd < 1000) (hd : d.length ≤ 10000) (hne : d ≠ []) (hj : j ≤ 80) (hk : Aft KB C part k j s after n buf r o) :
    Fin KB C part (k + d.length) 1 s a (wrE C fd d after n buf ls r o) := by
  have hdn : (d == []) = false := by cases d with | nil => exact absurd rfl hne | cons _ _ => rfl
  unfold wrE
  rw [hdn, cond_false]
  have hr' : Rg.Ok { r with af := after, fd := fd } := ⟨h1, h2, hr.sta, hr.it, hr.inn, hr.nx, hr.lf, hr.sp⟩
  exact fin_put hp hr' ho hj (fun a ls => hk a ls after fd h1 h2) d.length d (Nat.le_refl _) hne hd a ls
theorem rd_af (h : Rd C r) {af fd : Nat} (h1 : af < 1000) (h2 : fd < 1000) : Rd C { r with af := af, fd := fd } :=
  ⟨⟨h1, h2, h.ok.sta, h.ok.it, h.ok.inn, h.ok.nx, h.ok.lf, h.ok.sp⟩, h.it, h.inn, h.sp, h.lf⟩
theorem con_cat (hp : 1 ≤ part) (ho : smO o) : ConOk (cx nmCat ops) part o := fun data b r n ls a s k hne hl hr hk he => by
  have e : util_engine_consume KB data (zu (cx nmCat ops) 13 n b ls) (cx nmCat ops).w (rv r) o = (util_engine_write KB 1 data 12 (zu (cx nmCat ops) 13 n b ls) (cx nmCat ops).w (rv r) o).bind fun x => some (x.1, x.2.1, x.2.2.1, x.2.2.2) := rfl
  refine ⟨wrE (cx nmCat ops) 1 data 12 n b ls r o, ?_, ?_⟩
  · rw [e]; exact wrb (fd := 1) (after := 12)
  · exact (fin_wr1 hp hr.ok ho (by decide) (by decide) (by omega) hne (j := 10) (by omega) fun a ls af fd h1 h2 => hk b _ a ls (by omega) (rd_af hr h1 h2)).mono (by omega) (by omega)
theorem con_buf {nm : List UInt8} (h1 : (nm == nmCat) = false) (h2 : (nm == nmHead) = false) (h3 : (nm == nmTee) = false) (h4 : (nm == nmCp) = false) : ConOk (cx nm ops) part o := fun data b r n ls a s k hne hl hr hk he => by
  refine ⟨eg (cx nm ops) 12 n (b ++ data) [] ls r o, ?_, (hk (b ++ data) r a ls (by simp) hr).mono (by omega) (by omega)⟩
  unfold util_engine_consume
  rw [show (zu (cx nm ops) 13 n b ls).fName = nm from rfl, h1, h2, h3, h4, cond_false, cond_false, cond_false, cond_false, show (zu (cx nm ops) 13 n b ls).fBuf = b from rfl]
  rw [w64_in (by omega), cf (by omega), rq1 (by omega)]
  rfl
theorem con_head (hp : 1 ≤ part) (ho : smO o) : ConOk (cx nmHead ops) part o := fun data b r n ls a s k hne hl hr hk he => by
  have e : util_engine_consume KB data (zu (cx nmHead ops) 13 n b ls) (cx nmHead ops).w (rv r) o = (util_engine_head KB data (zu (cx nmHead ops) 13 n b ls) (cx nmHead ops).w (rv r) o).bind fun x => some (x.1, x.2.1, x.2.2.1, x.2.2.2) := rfl
  suffices h : ∃ z : Eg, Fin KB (cx nmHead ops) part (k + 25 * data.length) 15 s a z ∧ util_engine_head KB data (zu (cx nmHead ops) 13 n b ls) (cx nmHead ops).w (rv r) o = some z by
    obtain ⟨z, h1, h2⟩ := h
    exact ⟨z, by rw [e, h2]; rfl, h1⟩
  have hlf := hr.lf rfl
  have hlf2 := hr.ok.lf
  unfold util_engine_head
  refine loopF_tot (fun z : Eg => Fin KB (cx nmHead ops) part (k + 25 * data.length) 15 s a z) (fun x : Int × TUtil × Twords × TAinti648 × List Int => ∃ (i l : Nat), x = ((i : Int), zu (cx nmHead ops) 13 n b ls, (cx nmHead ops).w, rv { r with lf := l }, o) ∧ i ≤ data.length ∧ 1 ≤ l ∧ l < 1000) (fun x => data.length - x.1.toNat) ?_ KB _ ⟨0, r.lf, rfl, Nat.zero_le _, hlf, hlf2⟩ (by show data.length - 0 < 12000; omega)
  rintro x ⟨i, l, hx, hi, h1, h2⟩ rc hrc
  subst hx
  dsimp only at hrc ⊢
  have hok : ∀ (l' sp' : Nat), l' < 1000 → sp' < 1000 → Rg.Ok { r with lf := l', sp := sp' } := fun l' sp' q1 q2 => ⟨hr.ok.af, hr.ok.fd, hr.ok.sta, hr.ok.it, hr.ok.inn, hr.ok.nx, q1, q2⟩
  by_cases hlt : i < data.length
  · rw [ct (by omega), rq2 (by omega) (by omega), Int.toNat_natCast]
    cases (((data.getD i 0).toNat : Int) != 10) with
    | true =>
      rw [cond_true, w64s (by omega)]
      exact hrc _ ⟨i + 1, l, rfl, hlt, h1, h2⟩ (by show data.length - Int.toNat ((i + 1 : Nat) : Int) < data.length - Int.toNat (i : Int); rw [Int.toNat_natCast, Int.toNat_natCast]; omega)
    | false =>
      rw [cond_false]
      have e1 : w64 ((rv { r with lf := l }).2.2.2.2.2.2.1 - 1) = ((l - 1 : Nat) : Int) := by
        show w64 ((l : Int) - 1) = _
        exact w64p (by omega) (by omega)
      rw [e1]
      by_cases hl1 : l = 1
      · subst hl1
        have e2 : (((1 - 1 : Nat) : Int) == 0) = true := rfl
        rw [e2, cond_true, w64s (by omega), rq2 (by omega) (by omega)]
        have e3 : sl data 0 ((i + 1 : Nat) : Int) = data.take (i + 1) := by simp [sl]
        rw [e3]
        have htl : (data.take (i + 1)).length = i + 1 := by rw [List.length_take]; omega
        have hne2 : data.take (i + 1) ≠ [] := fun h => by rw [h] at htl; simp at htl
        refine ⟨wrE (cx nmHead ops) 1 (data.take (i + 1)) 15 n b ls { r with lf := 0, sp := 1 } o, ?_, wrb (C := cx nmHead ops) (r := { r with lf := 0, sp := 1 }) (fd := 1) (after := 15)⟩
        exact (fin_wr1 hp (hok 0 1 (by omega) (by omega)) ho (by decide) (by decide) (by omega) hne2 (j := 10) (by omega) fun a ls af fd q1 q2 => he _ a ls hr.it ⟨q1, q2, hr.ok.sta, hr.ok.it, hr.ok.inn, hr.ok.nx, by show 0 < 1000; omega, by show 1 < 1000; omega⟩).mono (by omega) (by omega)
      · have e2 : (((l - 1 : Nat) : Int) == 0) = false := beq_false_of_ne (by omega)
        rw [e2, cond_false, w64s (by omega)]
        exact hrc _ ⟨i + 1, l - 1, rfl, hlt, by omega, by omega⟩ (by show data.length - Int.toNat ((i + 1 : Nat) : Int) < data.length - Int.toNat (i : Int); rw [Int.toNat_natCast, Int.toNat_natCast]; omega)
  · rw [cf (by omega)]
    have hr2 : Rd (cx nmHead ops) { r with lf := l } := ⟨⟨hr.ok.af, hr.ok.fd, hr.ok.sta, hr.ok.it, hr.ok.inn, hr.ok.nx, h2, hr.ok.sp⟩, hr.it, hr.inn, hr.sp, fun _ => h1⟩
    refine ⟨wrE (cx nmHead ops) 1 data 12 n b ls { r with lf := l } o, ?_, wrb (C := cx nmHead ops) (r := { r with lf := l }) (fd := 1) (after := 12)⟩
    exact (fin_wr1 hp hr2.ok ho (by decide) (by decide) (by omega) hne (j := 10) (by omega) fun a ls af fd q1 q2 => hk b _ a ls (by omega) (rd_af hr2 q1 q2)).mono (by omega) (by omega)
theorem inp_tee : Inp (cx nmTee ops) [[45]] := fun u r o hu => by
  unfold util_engine_inputs
  rw [hu]
  rfl
theorem fin_share (hp : 1 ≤ part) (ho : smO o) {data : List UInt8} (hne : data ≠ []) (hl : data.length ≤ 200)
    (hk : ∀ (r' : Rg) (a : TAns) (ls : List (List UInt8)), Rd (cx nmTee ops) r' → Fin KB (cx nmTee ops) part k 10 s a (eg (cx nmTee ops) 12 n data [] ls r' o)) :
    ∀ (m : Nat) (r : Rg), o.length - r.nx = m → Rd (cx nmTee ops) r → ∀ (a : TAns) (ls : List (List UInt8)), Fin KB (cx nmTee ops) part (k + m * data.length) 12 s a (eg (cx nmTee ops) 14 n data [] ls r o) := by
  intro m
  induction m with
  | zero =>
    intro r h hr a ls
    have hol := ho.2
    refine Fin.go (j := 10) (e1 := eg (cx nmTee ops) 12 n data [] ls r o) (g14 (u := zu (cx nmTee ops) 14 n data ls) (r := rv r) rfl (inp_tee _ _ _ rfl) (el45r _ hr.it) (share_end (by show (0 : Int) ≤ (r.nx : Int); omega) (by show (o.length : Int) ≤ (r.nx : Int); omega))) ?_ (by omega)
    exact (hk r a ls hr).mono (by omega) (by omega)
  | succ m ih =>
    intro r h hr a ls
    have hol := ho.2
    have hlt : r.nx < o.length := by omega
    obtain ⟨fd, hfd, hfl⟩ : ∃ fd : Nat, o.getD r.nx 0 = (fd : Int) ∧ fd < 1000 := by
      have h1 := ho.1 o[r.nx] (List.getElem_mem hlt)
      refine ⟨o[r.nx].toNat, ?_, ?_⟩
      · rw [List.getD_eq_getElem?_getD, List.getElem?_eq_getElem hlt, Option.getD_some]; have := h1.1; omega
      · have := h1.1; have := h1.2; omega
    have hr2 : Rd (cx nmTee ops) { r with nx := r.nx + 1 } := ⟨⟨hr.ok.af, hr.ok.fd, hr.ok.sta, hr.ok.it, hr.ok.inn, by show r.nx + 1 < 1000; omega, hr.ok.lf, hr.ok.sp⟩, hr.it, hr.inn, hr.sp, hr.lf⟩
    have hw := wr_eq (F := KB) (C := cx nmTee ops) (st := 14) (n := n) (buf := data) (ls := ls) (r := { r with nx := r.nx + 1 }) (o := o) (d := data) (fd := fd) (after := 14) (z := zu (cx nmTee ops) 14 n data ls) rfl
    rw [← hfd] at hw
    refine Fin.go (j := 1) (q0 := rq0) (e1 := wrE (cx nmTee ops) fd data 14 n data ls { r with nx := r.nx + 1 } o) (g14 (u := zu (cx nmTee ops) 14 n data ls) (r := rv r) rfl (inp_tee _ _ _ rfl) (el45r _ hr.it) (share_more (i := r.nx) rfl hlt hol hw)) ?_ (by omega)
    have hm : (m + 1) * data.length = m * data.length + data.length := by rw [Nat.succ_mul]
    refine (fin_wr1 (k := k + m * data.length) hp hr2.ok ho (by decide) hfl (by omega) hne (j := 12) (by omega) fun a ls af fd q1 q2 => ?_).mono (by omega) (by omega)
    exact ih _ (by show o.length - (r.nx + 1) = m; omega) (rd_af hr2 q1 q2) a ls
theorem con_tee (hp : 1 ≤ part) (ho : smO o) (hol : o.length ≤ 20) : ConOk (cx nmTee ops) part o := fun data b r n ls a s k hne hl hr hk he => by
  have e : util_engine_consume KB data (zu (cx nmTee ops) 13 n b ls) (cx nmTee ops).w (rv r) o = (util_engine_write KB 1 data 14 (zu (cx nmTee ops) 13 n data ls) (cx nmTee ops).w (rv { r with nx := 0 }) o).bind fun x => some (x.1, x.2.1, x.2.2.1, x.2.2.2) := rfl
  have hr2 : Rd (cx nmTee ops) { r with nx := 0 } := ⟨⟨hr.ok.af, hr.ok.fd, hr.ok.sta, hr.ok.it, hr.ok.inn, by show 0 < 1000; omega, hr.ok.lf, hr.ok.sp⟩, hr.it, hr.inn, hr.sp, hr.lf⟩
  refine ⟨wrE (cx nmTee ops) 1 data 14 n data ls { r with nx := 0 } o, ?_, ?_⟩
  · rw [e]; exact wrb (C := cx nmTee ops) (r := { r with nx := 0 }) (fd := 1) (after := 14)
  · have hm : o.length * data.length ≤ 20 * data.length := Nat.mul_le_mul_right _ hol
    refine (fin_wr1 (k := k + o.length * data.length) hp hr2.ok ho (by decide) (by decide) (by omega) hne (j := 12) (by omega) fun a ls af fd q1 q2 => ?_).mono (by omega) (by omega)
    exact fin_share hp ho hne (by omega) (fun r' a ls hr' => hk data r' a ls (by omega) hr') o.length _ (by show o.length - 0 = o.length; omega) (rd_af hr2 q1 q2) a ls
end
end Go.Proofs.YteagcbkkonabbaaGreatDoor
