import Derived.Test.YteagcbkkonabbaaGreatDoorVi
namespace Go.Proofs.YteagcbkkonabbaaGreatDoor
open Go.RT
set_option linter.all false
set_option maxRecDepth 100000
abbrev nmTrue : List UInt8 := [116, 114, 117, 101]
abbrev nmFalse : List UInt8 := [102, 97, 108, 115, 101]
abbrev nmEcho : List UInt8 := [101, 99, 104, 111]
abbrev nmPwd : List UInt8 := [112, 119, 100]
abbrev nmTest : List UInt8 := [116, 101, 115, 116]
abbrev nmBr : List UInt8 := [91]
abbrev nmSleep : List UInt8 := [115, 108, 101, 101, 112]
abbrev nmSeq : List UInt8 := [115, 101, 113]
abbrev nmEnv : List UInt8 := [101, 110, 118]
section
variable {C : Cx} {part k j : Nat} {s : List UInt8} {st n : Int} {buf d : List UInt8} {ls : List (List UInt8)} {r : Rg} {o : List Int} {a : TAns} {ops : List (List UInt8)} {nm : List UInt8}
theorem wrq {fd after : Nat} : ((util_engine_write KB (fd : Int) d (after : Int) (zu C st n buf ls) C.w (rv r) o).bind fun x => some (rq0, false, x.1, x.2.1, x.2.2.1, x.2.2.2)) = some (rq0, false, wrE C fd d after n buf ls r o) := by
  rw [wr_eq (C := C) (st := st) (n := n) (buf := buf) (ls := ls) (r := r) (o := o) rfl]
  rfl
theorem goes_wr3 (hp : 1 ≤ part) (hd : d.length ≤ 1000) (hr : r.Ok) (ho : smO o) : Goes C part 10900 40 s a (rq0, false, wrE C 1 d 3 n buf ls r o) :=
  goes_go (j := 5) ((fin_wr (k := 0) (j := 5) hp hr ho (by decide) (by decide) (by omega) (by omega) (by omega) (aft3 hr ho (by omega))).mono (by omega) (by omega)) (by omega)
theorem goes_wr4 (hp : 1 ≤ part) {fd : Nat} (hfd : fd < 1000) (hd : d.length ≤ 1000) (hr : r.Ok) (ho : smO o) (h0 : 0 ≤ n) (h1 : n ≤ 255) : Goes C part 10900 40 s a (rq0, false, wrE C fd d 4 n buf ls r o) :=
  goes_go (j := 5) ((fin_wr (k := 0) (j := 5) hp hr ho (by decide) hfd (by omega) (by omega) (by omega) (aft4 hr ho h0 h1)).mono (by omega) (by omega)) (by omega)
theorem goes_3 (hr : r.Ok) (ho : smO o) : Goes C part 10900 40 s a (rq0, false, eg C 3 n buf d ls r o) := goes_go (j := 5) (fin3 hr ho (by omega)) (by omega)
theorem goes_4 (hr : r.Ok) (ho : smO o) (h0 : 0 ≤ n) (h1 : n ≤ 255) : Goes C part 10900 40 s a (rq0, false, eg C 4 n buf d ls r o) := goes_go (j := 5) (fin4 hr ho h0 h1) (by omega)
theorem ends_true : Ends nmTrue ops := by
  refine ends_of (ft := some true) (br := some (rq0, false, eg (cx nmTrue ops) 4 0 [] [] [] r0 [])) (by decide) rfl ⟨true, rfl, fun _ => ⟨_, rfl, fun part s hp hs => goes_4 r0_ok so0 (by decide) (by decide)⟩⟩
theorem ends_false : Ends nmFalse ops := by
  refine ends_of (ft := some true) (br := some (rq0, false, eg (cx nmFalse ops) 4 1 [] [] [] r0 [])) (by decide) rfl ⟨true, rfl, fun _ => ⟨_, rfl, fun part s hp hs => goes_4 r0_ok so0 (by decide) (by decide)⟩⟩
theorem ends_echo (hn : NWL ops) (hl : ops.length ≤ 19) : Ends nmEcho ops := by
  obtain ⟨d, h1, h2⟩ := echo_tot hn (by omega)
  refine ends_of (ft := some true) (br := (format_Echo KB ops).bind fun x6 => (util_engine_write KB 1 x6 3 (zu (cx nmEcho ops) 0 0 [] []) (cx nmEcho ops).w (rv r0) []).bind fun x7 => some (rq0, false, x7.1, x7.2.1, x7.2.2.1, x7.2.2.2)) (by decide) rfl ⟨true, rfl, fun _ => ⟨_, ?_, fun part s hp hs => goes_wr3 (d := d) (n := 0) (buf := []) (ls := []) hp (by omega) r0_ok so0⟩⟩
  rw [h2, Option.bind_some]
  exact wrq (fd := 1) (after := 3)
theorem dir_eq : util_engine_directory KB (zu (cx nmPwd ops) 0 0 [] []) (cx nmPwd ops).w (rv r0) [] = some [47, 97] := by kernel_rfl
theorem ends_pwd : Ends nmPwd ops := by
  refine ends_of (ft := some true) (br := (util_engine_directory KB (zu (cx nmPwd ops) 0 0 [] []) (cx nmPwd ops).w (rv r0) []).bind fun x8 => rq (decide (x8.length + ([10] : List UInt8).length ≤ 9223372036854775807)) ((util_engine_write KB 1 (x8 ++ ([10] : List UInt8)) 3 (zu (cx nmPwd ops) 0 0 [] []) (cx nmPwd ops).w (rv r0) []).bind fun x9 => some (rq0, false, x9.1, x9.2.1, x9.2.2.1, x9.2.2.2))) (by decide) rfl ⟨true, rfl, fun _ => ⟨_, ?_, fun part s hp hs => goes_wr3 (d := [47, 97, 10]) (n := 0) (buf := []) (ls := []) hp (by decide) r0_ok so0⟩⟩
  rw [dir_eq, Option.bind_some, rq1 (by decide)]
  exact wrq (fd := 1) (after := 3)
theorem test_goes (hp : 1 ≤ part) (hC : C.nm.length ≤ 30) {l : List (List UInt8)} (h : NWL l) (hl : l.length ≤ 20) (hr : r.Ok) (ho : smO o) : ∃ z, ((((testexpr_Eval KB l [] [47]).bind fun x2 =>
 cond (x2.2 != 0)
 ((util_engine_usage KB (zu C 0 n buf ls) C.w (rv r) o).bind fun x3 =>
 some (x3.1, x3.2.1, x3.2.2.1, x3.2.2.2))
 (cond x2.1
 ((util_engine_exit KB 0 (zu C 0 n buf ls) C.w (rv r) o).bind fun x4 =>
 some (x4.1, x4.2.1, x4.2.2.1, x4.2.2.2))
 ((util_engine_exit KB 1 (zu C 0 n buf ls) C.w (rv r) o).bind fun x5 =>
 some (x5.1, x5.2.1, x5.2.2.1, x5.2.2.2))) : Option Eg)).bind fun x11 => some (rq0, false, x11.1, x11.2.1, x11.2.2.1, x11.2.2.2)) = some z ∧ ∀ (part : Nat) (s : List UInt8), 1 ≤ part → s.length ≤ 200 → Goes C part 10900 40 s a z := by
  obtain ⟨v, hv⟩ := eval_tot h hl
  rw [hv, Option.bind_some]
  cases (v.2 != 0) with
  | true =>
    obtain ⟨m, hm, hu⟩ := usage_ok (F := KB) (C := C) (st := 0) (n := n) (buf := buf) (ls := ls) (r := r) (o := o) hC
    rw [cond_true, hu _ rfl]
    exact ⟨(rq0, false, wrE C 2 m 4 2 buf ls r o), rfl, fun part s hp hs => goes_wr4 hp (by decide) (by omega) hr ho (by decide) (by decide)⟩
  | false =>
    rw [cond_false]
    cases v.1 with
    | true => exact ⟨(rq0, false, eg C 4 0 buf [] ls r o), rfl, fun part s hp hs => goes_4 hr ho (by decide) (by decide)⟩
    | false => exact ⟨(rq0, false, eg C 4 1 buf [] ls r o), rfl, fun part s hp hs => goes_4 hr ho (by decide) (by decide)⟩
theorem ends_test (hn : NWL ops) (hl : ops.length ≤ 19) : Ends nmTest ops := by
  refine ends_of (ft := some true) (br := (util_engine_test KB (zu (cx nmTest ops) 0 0 [] []) (cx nmTest ops).w (rv r0) []).bind fun x11 => some (rq0, false, x11.1, x11.2.1, x11.2.2.1, x11.2.2.2)) (by decide) rfl ⟨true, rfl, fun _ => ?_⟩
  exact test_goes (part := 1) (C := cx nmTest ops) (n := 0) (buf := []) (ls := []) (r := r0) (o := []) (l := ops) (by decide) (by show nmTest.length ≤ 30; decide) hn (by omega) r0_ok so0
theorem NWL.take {l : List (List UInt8)} (h : NWL l) (i : Nat) : NWL (l.take i) := fun p hp => h p (List.mem_of_mem_take hp)
theorem ends_br (hn : NWL ops) (hl : ops.length ≤ 19) : Ends nmBr ops := by
  refine ends_of (ft := ((cond (decide (0 < (ops.length : Int)))
 (rq ((decide (0 ≤ w64 ((ops.length : Int) - 1))) && (decide (w64 ((ops.length : Int) - 1) < (ops.length : Int)))) (some ((ops.getD (Int.toNat (w64 ((ops.length : Int) - 1))) []) == ([93] : List UInt8))))
 (some false) : Option Bool).bind fun x1 =>
 some x1)) (br := (util_engine_test KB (zu (cx nmBr ops) 0 0 [] []) (cx nmBr ops).w (rv r0) []).bind fun x11 => some (rq0, false, x11.1, x11.2.1, x11.2.2.1, x11.2.2.2)) (by decide) rfl ?_
  by_cases h0 : (0 : Int) < (ops.length : Int)
  · have e1 : w64 ((ops.length : Int) - 1) = ((ops.length - 1 : Nat) : Int) := w64p (by omega) (by omega)
    rw [ct h0, e1, rq2 (by omega) (by omega)]
    refine ⟨_, rfl, fun _ => ?_⟩
    have e2 : sl ops 0 ((ops.length - 1 : Nat) : Int) = ops.take (ops.length - 1) := by simp [sl]
    have e : util_engine_test KB (zu (cx nmBr ops) 0 0 [] []) (cx nmBr ops).w (rv r0) [] = ((rq ((decide (0 ≤ w64 ((ops.length : Int) - 1))) && (decide (w64 ((ops.length : Int) - 1) ≤ (ops.length : Int)))) (some (sl ops 0 (w64 ((ops.length : Int) - 1)))) : Option (List (List UInt8))).bind fun x1 => (testexpr_Eval KB x1 [] ([47] : List UInt8)).bind fun x2 =>
 cond (x2.2 != 0)
 ((util_engine_usage KB (zu (cx nmBr ops) 0 0 [] []) (cx nmBr ops).w (rv r0) []).bind fun x3 =>
 some (x3.1, x3.2.1, x3.2.2.1, x3.2.2.2))
 (cond x2.1
 ((util_engine_exit KB 0 (zu (cx nmBr ops) 0 0 [] []) (cx nmBr ops).w (rv r0) []).bind fun x4 =>
 some (x4.1, x4.2.1, x4.2.2.1, x4.2.2.2))
 ((util_engine_exit KB 1 (zu (cx nmBr ops) 0 0 [] []) (cx nmBr ops).w (rv r0) []).bind fun x5 =>
 some (x5.1, x5.2.1, x5.2.2.1, x5.2.2.2)))) := rfl
    rw [e, e1, rq2 (by omega) (by omega), Option.bind_some, e2]
    exact test_goes (part := 1) (C := cx nmBr ops) (n := 0) (buf := []) (ls := []) (r := r0) (o := []) (by decide) (by show nmBr.length ≤ 30; decide) (hn.take _) (by rw [List.length_take]; omega) r0_ok so0
  · rw [cf h0]
    exact ⟨false, rfl, fun h => (by cases h)⟩
theorem adv7 {p : List UInt8} (hop : C.w.foperands = ops) (hp1 : util_element KB ops 0 = some p) (he : a.fErr = 0) : adw KB a (eg C 7 n buf [] ls r o) = some (rq0, false, eg C 3 n buf [] ls r o) := by
  unfold adw eg util_engine_advance util_engine_result
  have hp1 : util_element KB C.w.foperands 0 = some p := by rw [hop]; exact hp1
  simp only [hp1, he, Option.bind_some]
  rfl
theorem ends_sleep (hn : NWL ops) (hl : ops.length ≤ 19) : Ends nmSleep ops := by
  obtain ⟨p, hp1, hp2⟩ := el_nw0 hn
  refine ends_of (ft := (util_element KB ops 0).bind fun x2 => (chars_Digits KB x2).bind fun x3 => (cond ((ops.length : Int) == 1) (some x3.2) (some false) : Option Bool).bind fun x4 => some x4) (br := rq (decide (0 < (ops.length : Int))) ((chars_Digits KB (ops.getD 0 [])).bind fun x15 =>
 (util_engine_ask KB 7 (TReq.mk 15 0 0 0 0 0 x15.1 0 [] [] [] []) (zu (cx nmSleep ops) 0 0 [] []) (cx nmSleep ops).w (rv r0) []).bind fun x16 =>
 some (x16.1, x16.2.1, x16.2.2.1, x16.2.2.2.1, x16.2.2.2.2.1, x16.2.2.2.2.2))) (by decide) rfl ?_
  rw [hp1, Option.bind_some, digits_nw hp2, Option.bind_some]
  cases h1 : ((ops.length : Int) == 1) with
  | false => exact ⟨false, rfl, fun h => (by cases h)⟩
  | true =>
    rw [beq_iff_eq] at h1
    refine ⟨_, rfl, fun _ => ?_⟩
    rw [rq1 (by omega), digits_nw (hn.getD 0), Option.bind_some]
    refine ⟨(TReq.mk 15 0 0 0 0 0 0 0 [] [] [] [], true, eg (cx nmSleep ops) 7 0 [] [] [] r0 []), rfl, fun part s hp hs => ?_⟩
    refine (goes_ask (k := 10) (j := 8) (j' := 40) (inE r0_ok so0) (.other rfl rfl rfl rfl) ?_ (by omega)).mono (by omega) (by omega)
    exact Fin.go (j := 5) (adv7 (C := cx nmSleep ops) rfl hp1 rfl) (fin3 r0_ok so0 (by omega)) (by omega)
theorem ends_seq (hn : NWL ops) (hl : ops.length ≤ 19) : Ends nmSeq ops := by
  obtain ⟨p, hp1, hp2⟩ := el_nw0 hn
  refine ends_of (ft := (util_element KB ops 0).bind fun x5 => (util_integer KB x5).bind fun x6 => (util_element KB ops (w64 ((ops.length : Int) - 1))).bind fun x7 => (util_integer KB x7).bind fun x8 =>
 (cond ((ops.length : Int) == 1) (some true) (some ((ops.length : Int) == 2)) : Option Bool).bind fun x9 => (cond x9 (some x6.2) (some false) : Option Bool).bind fun x10 => (cond x10 (some x8.2) (some false) : Option Bool).bind fun x11 => some x11)
    (br := (util_engine_sequence KB (zu (cx nmSeq ops) 0 0 [] []) (cx nmSeq ops).w (rv r0) []).bind fun x17 => some (rq0, false, x17.1, x17.2.1, x17.2.2.1, x17.2.2.2)) (by decide) rfl ?_
  rw [hp1, Option.bind_some, integer_nw hp2, Option.bind_some]
  cases ops with
  | nil =>
    obtain ⟨q, hq1, hq2⟩ : ∃ q, util_element KB [] (w64 ((([] : List (List UInt8)).length : Int) - 1)) = some q ∧ NW q := ⟨[], rfl, NW.nil⟩
    rw [hq1, Option.bind_some, integer_nw hq2, Option.bind_some]
    exact ⟨false, rfl, fun h => (by cases h)⟩
  | cons w1 t =>
    have hp3 : p = w1 := by have := el_in (l := w1 :: t) (i := 0) (by simp) KB; rw [show (((0 : Nat) : Int)) = 0 from rfl, hp1] at this; exact Option.some.inj this
    subst hp3
    cases t with
    | nil =>
      have hq1 : util_element KB [p] (w64 ((([p] : List (List UInt8)).length : Int) - 1)) = some p := hp1
      rw [hq1, Option.bind_some, integer_nw hp2, Option.bind_some]
      cases hz : (p == ([48] : List UInt8)) with
      | false => exact ⟨false, rfl, fun h => (by cases h)⟩
      | true =>
        rw [beq_iff_eq] at hz
        subst hz
        refine ⟨true, rfl, fun _ => ⟨(rq0, false, eg (cx nmSeq [[48]]) 3 0 [] [] [] r0 []), by kernel_rfl, fun part s hp hs => goes_3 r0_ok so0⟩⟩
    | cons w2 t2 =>
      cases t2 with
      | nil =>
        have hq1 : util_element KB [p, w2] (w64 ((([p, w2] : List (List UInt8)).length : Int) - 1)) = some w2 := rfl
        have hw2 : NW w2 := hn w2 (by simp)
        rw [hq1, Option.bind_some, integer_nw hw2, Option.bind_some]
        cases hz : (p == ([48] : List UInt8)) with
        | false => exact ⟨false, rfl, fun h => (by cases h)⟩
        | true =>
          cases hy : (w2 == ([48] : List UInt8)) with
          | false => exact ⟨false, rfl, fun h => (by cases h)⟩
          | true =>
            rw [beq_iff_eq] at hz hy
            subst hz hy
            refine ⟨true, rfl, fun _ => ⟨(rq0, false, wrE (cx nmSeq [[48], [48]]) 1 [48, 10] 3 0 [] [] r0 []), by kernel_rfl, fun part s hp hs => goes_wr3 hp (by decide) r0_ok so0⟩⟩
      | cons w3 t3 =>
        have e3 : w64 (((p :: w2 :: w3 :: t3).length : Int) - 1) = ((t3.length + 2 : Nat) : Int) := by
          have : ((p :: w2 :: w3 :: t3).length) = t3.length + 3 := rfl
          rw [this]
          have hl' : t3.length + 3 ≤ 19 := hl
          rw [w64p (by omega) (by omega)]
          rfl
        obtain ⟨q, hq1, hq2⟩ := el_nw hn (t3.length + 2)
        rw [e3, hq1, Option.bind_some, integer_nw hq2, Option.bind_some]
        have b1 : (((p :: w2 :: w3 :: t3).length : Int) == 1) = false := beq_false_of_ne (by simp only [List.length_cons]; omega)
        have b2 : (((p :: w2 :: w3 :: t3).length : Int) == 2) = false := beq_false_of_ne (by simp only [List.length_cons]; omega)
        rw [b1, b2]
        exact ⟨false, rfl, fun h => (by cases h)⟩
theorem adv8 {u : TUtil} {w : Twords} {r : TAinti648} {y : List (List UInt8) × List (List UInt8)} (h : u.fState = 8) (hy : util_engine_assigned KB u w r o = some y) : adw KB a (u, w, r, o) = some (TReq.mk 8 0 0 0 0 0 0 0 [] [] y.2 y.1, true, { u with fState := 9 }, w, r, o) := by
  unfold adw util_engine_advance util_engine_exec
  simp only [h, hy, Option.bind_some]
  rfl
theorem adv9 {u : TUtil} {w : Twords} {r : TAinti648} {y : List (List UInt8) × List (List UInt8)} {p : List UInt8} {z : Eg} (h : u.fState = 9) (hy : util_engine_assigned KB u w r o = some y) (hp : util_element KB y.2 0 = some p)
    (hz : util_engine_report KB p a.fErr 4 { u with fN := 127 } w r o = some z) : adw KB a (u, w, r, o) = some (rq0, false, z) := by
  unfold adw util_engine_advance util_engine_exec
  simp only [h] at hz
  simp only [h, hy, hp, hz, Option.bind_some]
  rfl
theorem joB_bound (l : List (List UInt8)) (n : Nat) (h : ∀ p ∈ l, p.length ≤ n) : (joB l).length ≤ (n + 1) * l.length := by
  induction l with
  | nil => simp [joB]
  | cons p l ih =>
    have h1 := h p (by simp)
    have h2 := ih fun q hq => h q (by simp [hq])
    have : joB (p :: l) = p ++ 10 :: joB l := by simp [joB]
    rw [this]
    simp only [List.length_append, List.length_cons, Nat.mul_succ]
    omega
theorem ends_env (hn : NWL ops) (hl : ops.length ≤ 19) : Ends nmEnv ops := by
  obtain ⟨y, ⟨h1, h2, h3, h4⟩, hy⟩ := assigned_tot (z := zu (cx nmEnv ops) 0 0 [] []) rfl hn (by omega) (rv r0) []
  refine ends_of (ft := some true) (br := (util_engine_environment KB (zu (cx nmEnv ops) 0 0 [] []) (cx nmEnv ops).w (rv r0) []).bind fun x18 => some (rq0, false, x18.1, x18.2.1, x18.2.2.1, x18.2.2.2)) (by decide) rfl ⟨true, rfl, fun _ => ?_⟩
  unfold util_engine_environment
  have hy : util_engine_assigned KB (zu (cx nmEnv ops) 0 0 [] []) (cx nmEnv ops).w (rv r0) [] = some y := hy
  rw [hy, Option.bind_some]
  cases ((y.2.length : Int) == 0) with
  | true =>
    have hb := joB_bound y.1 30 h2
    have : (30 + 1) * y.1.length ≤ 31 * 21 := Nat.mul_le_mul_left 31 h1
    have hlj := len_joB y.1
    rw [cond_true, joined_eq KB _ (by show _ < 12000; omega) (by omega), Option.bind_some]
    refine ⟨(rq0, false, wrE (cx nmEnv ops) 1 (joB y.1) 3 0 [] [] r0 []), ?_, fun part s hp hs => goes_wr3 hp (by omega) r0_ok so0⟩
    have hw := wrb (C := cx nmEnv ops) (st := 0) (n := 0) (buf := []) (ls := []) (r := r0) (o := []) (d := joB y.1) (fd := 1) (after := 3)
    have hw' : ((util_engine_write KB 1 (joB y.1) 3 (zu (cx nmEnv ops) 0 0 [] []) (cx nmEnv ops).w (rv r0) []).bind fun x => some (x.1, x.2.1, x.2.2.1, x.2.2.2)) = some (wrE (cx nmEnv ops) 1 (joB y.1) 3 0 [] [] r0 []) := hw
    rw [hw']
    rfl
  | false =>
    refine ⟨(rq0, false, eg (cx nmEnv ops) 8 0 [] [] [] r0 []), rfl, fun part s hp hs => goes_go (j := 1) ?_ (by omega)⟩
    obtain ⟨y2, -, hy2⟩ := assigned_tot (z := zu (cx nmEnv ops) 8 0 [] []) rfl hn (by omega) (rv r0) []
    refine Fin.ask (k := 200) (j := 10) (adv8 (u := zu (cx nmEnv ops) 8 0 [] []) rfl hy2) (inE (st := 9) (n := 0) (buf := []) (out := []) (ls := []) r0_ok so0) (.other rfl rfl rfl rfl) ?_ (by omega) (by omega)
    obtain ⟨y3, ⟨-, -, h7, -⟩, hy3⟩ := assigned_tot (z := zu (cx nmEnv ops) 9 0 [] (linesO (rv r0) [])) rfl hn (by omega) (rv r0) []
    obtain ⟨p, hp1, hp2⟩ := el_nw0 h7
    obtain ⟨m, ⟨hm, -⟩, hz⟩ := report_ok (F := KB) (C := cx nmEnv ops) (st := 9) (n := 127) (buf := []) (ls := linesO (rv r0) []) (r := r0) (o := []) 0 (by show nmEnv.length ≤ 30; decide) (p := p) (by have := hp2.len; omega) (after := 4)
    refine Fin.go (j := 8) (q0 := rq0) (e1 := wrE (cx nmEnv ops) 2 m 4 127 [] (linesO (rv r0) []) r0 []) (adv9 (u := zu (cx nmEnv ops) 9 0 [] (linesO (rv r0) [])) (a := an0) rfl hy3 hp1 (hz _ rfl)) ?_ (by omega)
    have := hp2.len
    exact (fin_wr (k := 0) (j := 8) hp r0_ok so0 (by decide) (by decide) (by omega) (by omega) (by omega) (aft4 r0_ok so0 (by decide) (by decide))).mono (by omega) (by omega)
end
end Go.Proofs.YteagcbkkonabbaaGreatDoor
