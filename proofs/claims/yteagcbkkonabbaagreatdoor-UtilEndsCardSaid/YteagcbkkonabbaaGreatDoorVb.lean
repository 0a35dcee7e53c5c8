import Derived.Test.YteagcbkkonabbaaGreatDoorVa
import Derived.KernelRfl
namespace Go.Proofs.YteagcbkkonabbaaGreatDoor
open Go.RT
set_option linter.all false
structure Rg where
  af : Nat
  fd : Nat
  sta : Nat
  it : Nat
  inn : Nat
  nx : Nat
  lf : Nat
  sp : Nat
def rv (r : Rg) : TAinti648 := ((r.af : Int), ((r.fd : Int), ((r.sta : Int), ((r.it : Int), ((r.inn : Int), ((r.nx : Int), ((r.lf : Int), ((r.sp : Int), ()))))))))
structure Rg.Ok (r : Rg) : Prop where
  af : r.af < 1000
  fd : r.fd < 1000
  sta : r.sta ≤ 1
  it : r.it < 1000
  inn : r.inn < 1000
  nx : r.nx < 1000
  lf : r.lf < 1000
  sp : r.sp < 1000
theorem smRv {r : Rg} (h : r.Ok) : smR (rv r) := by
  obtain ⟨h1, h2, h3, h4, h5, h6, h7, h8⟩ := h
  intro n hn
  simp only [rl, rv, List.mem_cons, List.not_mem_nil, or_false] at hn
  unfold sm
  omega
def eg (C : Cx) (st n : Int) (buf out : List UInt8) (ls : List (List UInt8)) (r : Rg) (o : List Int) : Eg := (TUtil.mk C.nm C.args C.env st n buf ls out, C.w, rv r, o)
theorem inE {C : Cx} {st n : Int} {buf out : List UInt8} {ls : List (List UInt8)} {r : Rg} {o : List Int} (hr : r.Ok) (ho : smO o) : C.In (eg C st n buf out ls r o) := ⟨rfl, rfl, rfl, rfl, smRv hr, ho⟩
section
variable {F : Nat} {C : Cx} {part k j : Nat} {s : List UInt8} {st n : Int} {buf d : List UInt8} {ls : List (List UInt8)} {r : Rg} {o : List Int} {a : TAns}
theorem w1a : adw F a (eg C 1 n buf d ls r o) = some (TReq.mk 2 (r.fd : Int) 0 0 0 0 0 0 [] d [] [], true, eg C 2 n buf d ls r o) := rfl
theorem w2more (he : a.fErr = 0) (h0 : 0 ≤ a.fN) (hn : a.fN < (d.length : Int)) :
    adw F a (eg C 2 n buf d ls r o) = some (rq0, false, eg C 1 n buf (sl d a.fN (d.length : Int)) ls r o) := by
  unfold adw eg util_engine_advance util_engine_written
  simp only [he]
  have e1 : (cond (decide (a.fN < 0)) 0 a.fN : Int) = a.fN := cf (by omega)
  rw [e1, ct hn, rq3 h0 (by omega) (by omega)]
  rfl
theorem w2done (he : a.fErr = 0) (hn : ¬ a.fN < (d.length : Int)) :
    adw F a (eg C 2 n buf d ls r o) = some (rq0, false, eg C (r.af : Int) n buf [] ls r o) := by
  unfold adw eg util_engine_advance util_engine_written
  simp only [he]
  rw [cf hn]
  rfl
theorem e3 : adw F a (eg C 3 n buf d ls r o) = some (rq0, false, eg C 4 (r.sta : Int) buf d ls r o) := rfl
theorem e4 : adw F a (eg C 4 n buf d ls r o) = some (TReq.mk 9 0 0 0 0 0 n 0 [] [] [] [], true, eg C 4 n buf d ls r o) := rfl
theorem fin4 (hr : r.Ok) (ho : smO o) (h0 : 0 ≤ n) (h1 : n ≤ 255) : Fin F C part k j s a (eg C 4 n buf d ls r o) := .exit e4 h0 h1 (inE hr ho)
theorem fin3 (hr : r.Ok) (ho : smO o) (hj : 1 ≤ j) : Fin F C part k j s a (eg C 3 n buf d ls r o) :=
  .go e3 (j := 0) (fin4 hr ho (by omega) (by have := hr.sta; omega)) hj
theorem fin_put (hp : 1 ≤ part) (hr : r.Ok) (ho : smO o) (hj : j ≤ 80) (hk : ∀ a ls, Fin F C part k j s a (eg C (r.af : Int) n buf [] ls r o)) :
    ∀ (L : Nat) (d : List UInt8), d.length ≤ L → d ≠ [] → d.length ≤ 10000 → ∀ a ls, Fin F C part (k + d.length) 1 s a (eg C 1 n buf d ls r o) := by
  intro L
  induction L with
  | zero => intro d hd hne; exact absurd (List.eq_nil_of_length_eq_zero (by omega)) hne
  | succ L ih =>
    intro d hd hne hb a ls
    have hpos : 0 < d.length := List.length_pos_iff.2 hne
    refine Fin.ask (k := k + d.length - 1) (j := 82) (w1a) (inE hr ho) (.write hb) ?_ (by omega) (by omega)
    show Fin F C part _ _ s (anN ((min part d.length : Nat) : Int)) (eg C 2 n buf d _ r o)
    by_cases hm : min part d.length < d.length
    · refine Fin.go (j := 1) (w2more (a := anN ((min part d.length : Nat) : Int)) rfl (by show (0 : Int) ≤ ((min part d.length : Nat) : Int); omega) (by show ((min part d.length : Nat) : Int) < (d.length : Int); omega)) ?_ (by omega)
      have e1 : sl d ((min part d.length : Nat) : Int) (d.length : Int) = d.drop (min part d.length) := by simp [sl, List.take_of_length_le]
      show Fin F C part _ _ s _ (eg C 1 n buf (sl d ((min part d.length : Nat) : Int) (d.length : Int)) _ r o)
      rw [e1]
      have hdl : (d.drop (min part d.length)).length = d.length - min part d.length := List.length_drop
      have hne2 : d.drop (min part d.length) ≠ [] := fun h => by rw [h] at hdl; simp only [List.length_nil] at hdl; omega
      exact (ih (d.drop (min part d.length)) (by omega) hne2 (by omega) _ _).mono (by omega) (by omega)
    · refine Fin.go (j := j) (w2done (a := anN ((min part d.length : Nat) : Int)) rfl (by show ¬ ((min part d.length : Nat) : Int) < (d.length : Int); omega)) ?_ (by omega)
      exact (hk _ _).mono (by omega) (Nat.le_refl _)
def wrE (C : Cx) (fd : Nat) (d : List UInt8) (after : Nat) (n : Int) (buf : List UInt8) (ls : List (List UInt8)) (r : Rg) (o : List Int) : Eg :=
  cond (d == []) (eg C (after : Int) n buf [] ls r o) (eg C 1 n buf d ls { r with af := after, fd := fd } o)
theorem wr_eq {fd after : Nat} {z : TUtil} (hz : z = TUtil.mk C.nm C.args C.env st n buf ls []) : util_engine_write F (fd : Int) d (after : Int) z C.w (rv r) o = some (wrE C fd d after n buf ls r o) := by
  subst hz
  unfold util_engine_write wrE
  cases d == [] <;> rfl
def Aft (F : Nat) (C : Cx) (part k j : Nat) (s : List UInt8) (after : Nat) (n : Int) (buf : List UInt8) (r : Rg) (o : List Int) : Prop :=
  ∀ (a : TAns) (ls : List (List UInt8)) (af fd : Nat), af < 1000 → fd < 1000 → Fin F C part k j s a (eg C (after : Int) n buf [] ls { r with af := af, fd := fd } o)
theorem fin_wr (hp : 1 ≤ part) (hr : r.Ok) (ho : smO o) {after fd : Nat} (h1 : after < 1000) (h2 : fd < 1000) (hd : d.length ≤ 10000) (hj : j ≤ 80) (hj1 : 1 ≤ j) (hk : Aft F C part k j s after n buf r o) :
    Fin F C part (k + d.length) j s a (wrE C fd d after n buf ls r o) := by
  unfold wrE
  cases hdn : d == [] with
  | true => rw [cond_true]; exact (hk a ls r.af r.fd hr.af hr.fd).mono (by omega) (Nat.le_refl _)
  | false =>
    rw [cond_false]
    have hne : d ≠ [] := fun h => by rw [h] at hdn; cases hdn
    have hr' : Rg.Ok { r with af := after, fd := fd } := ⟨h1, h2, hr.sta, hr.it, hr.inn, hr.nx, hr.lf, hr.sp⟩
    exact (fin_put hp hr' ho hj (fun a ls => hk a ls after fd h1 h2) d.length d (Nat.le_refl _) hne hd a ls).mono (Nat.le_refl _) hj1
theorem aft3 (hr : r.Ok) (ho : smO o) (hj : 1 ≤ j) : Aft F C part k j s 3 n buf r o := fun a ls af fd h1 h2 => fin3 ⟨h1, h2, hr.sta, hr.it, hr.inn, hr.nx, hr.lf, hr.sp⟩ ho hj
theorem aft4 (hr : r.Ok) (ho : smO o) (h0 : 0 ≤ n) (h1 : n ≤ 255) : Aft F C part k j s 4 n buf r o := fun a ls af fd h2 h3 => fin4 ⟨h2, h3, hr.sta, hr.it, hr.inn, hr.nx, hr.lf, hr.sp⟩ ho h0 h1
theorem reason_ok (e : Int) : ∃ m, util_reason F e = some m ∧ m.length ≤ 20 := by
  unfold util_reason
  repeat' first
    | exact ⟨_, rfl, by decide⟩
    | (rw [cond_eq_ite]; split)
theorem report_ok (e : Int) {p : List UInt8} (hn : C.nm.length ≤ 30) (hp : p.length ≤ 1000) {after : Nat} :
    ∃ m, (m.length ≤ p.length + 70 ∧ m ≠ []) ∧ ∀ z, z = TUtil.mk C.nm C.args C.env st n buf ls [] → util_engine_report F p e (after : Int) z C.w (rv r) o = some (wrE C 2 m after n buf ls r o) := by
  obtain ⟨m, hm, hl⟩ := reason_ok (F := F) e
  refine ⟨((((C.nm ++ [58, 32]) ++ p) ++ [58, 32]) ++ m) ++ [10], ⟨by simp only [List.length_append, List.length_cons, List.length_nil]; omega, by simp⟩, fun z hz => ?_⟩
  have hz1 : z.fName = C.nm := by rw [hz]
  unfold util_engine_report
  rw [hz1]
  have wr := wr_eq (F := F) (C := C) (st := st) (n := n) (buf := buf) (ls := ls) (r := r) (o := o) (d := ((((C.nm ++ [58, 32]) ++ p) ++ [58, 32]) ++ m) ++ [10]) (fd := 2) (after := after) hz
  rw [rq1 (by simp only [List.length_append, List.length_cons, List.length_nil]; omega), rq1 (by simp only [List.length_append, List.length_cons, List.length_nil]; omega), rq1 (by simp only [List.length_append, List.length_cons, List.length_nil]; omega), hm, Option.bind_some,
    rq1 (by simp only [List.length_append, List.length_cons, List.length_nil]; omega), rq1 (by simp only [List.length_append, List.length_cons, List.length_nil]; omega)]
  exact (congrArg (fun y => y.bind fun x2 => some (x2.1, x2.2.1, x2.2.2.1, x2.2.2.2)) wr).trans rfl
theorem fail_ok (e : Int) {p : List UInt8} (hn : C.nm.length ≤ 30) (hp : p.length ≤ 1000) {after : Nat} :
    ∃ m, (m.length ≤ p.length + 70 ∧ m ≠ []) ∧ ∀ z, z = TUtil.mk C.nm C.args C.env st n buf ls [] → util_engine_fail F p e (after : Int) z C.w (rv r) o = some (wrE C 2 m after n buf ls { r with sta := 1 } o) := by
  obtain ⟨m, hl, h⟩ := report_ok (F := F) (C := C) (st := st) (n := n) (buf := buf) (ls := ls) (r := { r with sta := 1 }) (o := o) e hn hp (after := after)
  refine ⟨m, hl, fun z hz => ?_⟩
  unfold util_engine_fail
  exact (congrArg (fun y => y.bind fun x2 => some (x2.1, x2.2.1, x2.2.2.1, x2.2.2.2)) (h z hz)).trans rfl
theorem usage_ok (hn : C.nm.length ≤ 30) : ∃ m, m.length ≤ 70 ∧ ∀ z, z = TUtil.mk C.nm C.args C.env st n buf ls [] → util_engine_usage F z C.w (rv r) o = some (wrE C 2 m 4 2 buf ls r o) := by
  refine ⟨C.nm ++ [58, 32, 117, 115, 97, 103, 101, 10], by simp only [List.length_append, List.length_cons, List.length_nil]; omega, fun z hz => ?_⟩
  subst hz
  have wr := wr_eq (F := F) (C := C) (st := st) (n := 2) (buf := buf) (ls := ls) (r := r) (o := o) (d := C.nm ++ [58, 32, 117, 115, 97, 103, 101, 10]) (fd := 2) (after := 4) (z := TUtil.mk C.nm C.args C.env st 2 buf ls []) rfl
  unfold util_engine_usage
  dsimp only
  rw [rq1 (by simp only [List.length_append, List.length_cons, List.length_nil]; omega)]
  exact (congrArg (fun y => y.bind fun x2 => some (x2.1, x2.2.1, x2.2.2.1, x2.2.2.2)) wr).trans rfl
end
end Go.Proofs.YteagcbkkonabbaaGreatDoor
