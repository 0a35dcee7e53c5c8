/-
  Util: utilities that read all their input and then write.
-/
import Derived.Test.YteagcbkkonabbaaGreatDoorUb
namespace Go.Proofs.YteagcbkkonabbaaGreatDoor
open Go.RT
set_option linter.all false

abbrev KB : Nat := 12000
def bu (nm : List UInt8) (args : List (List UInt8)) (st n : Int) (buf out : List UInt8) (ls : List (List UInt8)) : TUtil := TUtil.mk nm args [] st n buf ls out
/-- Registers: after a write, descriptor written, operand. -/
def br (af fd it : Nat) : TAinti648 := ((af : Int), ((fd : Int), (0, ((it : Int), (0, (0, (0, (0, ()))))))))
theorem smR_br {af fd it : Nat} (h1 : af < 1000) (h2 : fd < 1000) (h3 : it < 1000) : smR (br af fd it) := by
  intro n hn
  simp only [rl, br, List.mem_cons, List.not_mem_nil, or_false] at hn
  unfold sm
  omega
theorem loopB {F G : Nat} {part : Int} (s : Sp) : loopF (pbody F part) (G + 1) s = pbody F part (loopF (pbody F part) G) s := rfl

/-- A utility nm that at the end of its input S writes d, then goes to the state nx; n: its number then. -/
structure BufU (nm : List UInt8) (args : List (List UInt8)) (w : Twords) (S d : List UInt8) (nx : Nat) (n : Int) : Prop where
  start : util_Start KB args [] = some (bu nm args 0 0 [] [] [], true)
  split : util_split KB nm (sl args 1 (args.length : Int)) = some w
  pos : 0 < args.length
  ok : okL args
  ins : ∀ u r, u.fName = nm → util_engine_inputs KB u w r [] = some [[45]]
  beg : ∀ a, adv KB a (bu nm args 0 0 [] [] [], w, br 0 0 0) = some (rq0, false, bu nm args 10 0 [] [] [], w, br 0 0 0, [])
  con : ∀ (b e : List UInt8) (ls : List (List UInt8)), b.length + e.length ≤ 400 → util_engine_consume KB e (bu nm args 13 0 b [] ls) w (br 0 0 0) [] = some (bu nm args 12 0 (b ++ e) [] ls, w, br 0 0 0, [])
  fin : ∀ ls, util_engine_finish KB (bu nm args 10 0 S [] ls) w (br 0 0 1) [] = some (cond (d == []) (bu nm args (nx : Int) n S [] ls, w, br 0 0 1, []) (bu nm args 1 n S d ls, w, br nx 1 1, []))
  cp : (nm == ([99, 112] : List UInt8)) = false
  nx34 : nx = 3 ∨ nx = 4
  dl : d.length ≤ 5000

/-- The status: state 3 takes it from the registers. -/
def stN (nx : Nat) (n : Int) : Int := if nx = 3 then 0 else n

section
variable {nm : List UInt8} {args : List (List UInt8)} {w : Twords} {S d : List UInt8} {nx : Nat} {n : Int}
theorem el45 : util_element KB [[45]] (0 : Int) = some [45] := rfl
theorem el45' : util_element KB [[45]] ((1 : Nat) : Int) = some [] := rfl

theorem b_step (hC : BufU nm args w S d nx n) {k : Nat} {a : TAns} {st st' m m' : Int} {b b' o o' : List UInt8} {r r' : TAinti648} (hr : smR r) {q : TReq}
    (h : Runs KB a k (bu nm args st m b o (linesOf r), w, r) q (bu nm args st' m' b' o' (linesOf r), w, r')) (hk : k < 100) (hr' : smR r') :
    util_Step KB (bu nm args st m b o (linesOf r)) a = some (bu nm args st' m' b' o' (linesOf r'), q) :=
  step_eq (e := (bu nm args st m b o (linesOf r), w, r)) (load_eq KB _ w r (by decide) hC.pos hC.split hr rfl) h hk (by decide) hr' hC.ok (by show ([] : List (List UInt8)).length ≤ 1000000; decide)

/-- The end: state nx, then exit. -/
theorem b_exit (hC : BufU nm args w S d nx n) {a : TAns} {b : List UInt8} {ls : List (List UInt8)} {af fd it : Nat} :
    ∃ k, k < 5 ∧ Runs KB a k (bu nm args (nx : Int) n b [] ls, w, br af fd it) (TReq.mk 9 0 0 0 0 0 (stN nx n) 0 [] [] [] []) (bu nm args 4 (stN nx n) b [] ls, w, br af fd it) := by
  rcases hC.nx34 with h | h
  · subst h
    refine ⟨1, by omega, ?_⟩
    refine Runs.go (e1 := (bu nm args 4 0 b [] ls, w, br af fd it)) (t3 rfl) ?_
    exact Runs.stop (e := (bu nm args 4 0 b [] ls, w, br af fd it)) (e' := (bu nm args 4 0 b [] ls, w, br af fd it)) (t4 rfl)
  · subst h
    refine ⟨0, by omega, ?_⟩
    exact Runs.stop (e := (bu nm args 4 n b [] ls, w, br af fd it)) (e' := (bu nm args 4 n b [] ls, w, br af fd it)) (t4 rfl)

/-- The input's end: what is written is there. -/
theorem b_end (hC : BufU nm args w S d nx n) {a : TAns} (hda : a.fData = []) (he : a.fErr = 0) {ls : List (List UInt8)} :
    ∃ k q e', k < 20 ∧ Runs KB a k (bu nm args 13 0 S [] ls, w, br 0 0 0) q (e'.1, w, e'.2) ∧ smR e'.2 ∧
      ((d = [] ∧ q = TReq.mk 9 0 0 0 0 0 (stN nx n) 0 [] [] [] [] ∧ e' = (bu nm args 4 (stN nx n) S [] ls, br 0 0 1)) ∨ (d ≠ [] ∧ q = TReq.mk 2 1 0 0 0 0 0 0 [] d [] [] ∧ e' = (bu nm args 2 n S d ls, br nx 1 1))) := by
  have hnx : nx < 1000 := by rcases hC.nx34 with h | h <;> omega
  have go : ∀ {k : Nat} {q : TReq} {e' : Eng}, (∃ x : TUtil × TAinti648, (cond (d == []) (bu nm args (nx : Int) n S [] ls, w, br 0 0 1, ([] : List Int)) (bu nm args 1 n S d ls, w, br nx 1 1, [])) = (x.1, w, x.2, []) ∧ Runs KB a k (x.1, w, x.2) q e') → Runs KB a (k + 4) (bu nm args 13 0 S [] ls, w, br 0 0 0) q e' := by
    rintro k q e' ⟨x, hx, hR⟩
    refine Runs.go (e1 := (bu nm args 15 0 S [] ls, w, br 0 0 0)) (t13empty rfl he hda hC.cp (hC.ins _ _ rfl) el45) ?_
    refine Runs.go (e1 := (bu nm args 16 0 S [] ls, w, br 0 0 0)) (t15dash rfl (hC.ins _ _ rfl) el45) ?_
    refine Runs.go (e1 := (bu nm args 10 0 S [] ls, w, br 0 0 1)) (t16 rfl (hC.ins _ _ rfl) el45) ?_
    refine Runs.go (e1 := (x.1, w, x.2)) (t10end (r := br 0 0 1) (inp := [[45]]) rfl (hC.ins _ _ rfl) el45' (.inl (by show (1 : Int) ≤ ((1 : Nat) : Int); decide)) ?_) hR
    rw [hC.fin, hx]
  by_cases hd : d = []
  · subst hd
    obtain ⟨k, hk, hR⟩ := b_exit hC (a := a) (b := S) (ls := ls) (af := 0) (fd := 0) (it := 1)
    exact ⟨k + 4, _, (bu nm args 4 (stN nx n) S [] ls, br 0 0 1), by omega, go ⟨(bu nm args (nx : Int) n S [] ls, br 0 0 1), rfl, hR⟩, smR_br (by omega) (by omega) (by omega), .inl ⟨rfl, rfl, rfl⟩⟩
  · have hne : (d == []) = false := by cases d with | nil => exact absurd rfl hd | cons _ _ => rfl
    refine ⟨0 + 4, _, (bu nm args 2 n S d ls, br nx 1 1), by omega, go ⟨(bu nm args 1 n S d ls, br nx 1 1), by rw [hne]; rfl, Runs.stop (t1 rfl)⟩, smR_br (by omega) (by omega) (by omega), .inr ⟨hd, rfl, rfl⟩⟩

/-- A state of play. -/
inductive BI (nm : List UInt8) (args : List (List UInt8)) (S d : List UInt8) (nx : Nat) (n : Int) (part : Nat) : Nat → List UInt8 → List UInt8 → TUtil → TAns → Prop
  | got {s b e : List UInt8} {u : TUtil} {a : TAns} (hu : u = bu nm args 13 0 b [] (linesOf (br 0 0 0))) (ha : a = anR (e.length : Int) e) (hs : b ++ e ++ s = S) (hd : e = [] → s = []) : BI nm args S d nx n part (4 * s.length + 2 * e.length + 2 * d.length + 20) s [] u a
  | put {m : Nat} {s o e : List UInt8} {u : TUtil} {a : TAns} (hu : u = bu nm args 2 n S e (linesOf (br nx 1 1))) (ha : a = anN (m : Int)) (hs : o ++ e.drop m = d) (hm : m ≤ e.length) (hed : e.length ≤ 5000) : BI nm args S d nx n part (2 * (e.length - m) + 11) s o u a

theorem b_run (hC : BufU nm args w S d nx n) (hS : S.length ≤ 400) {part : Nat} (hp : 1 ≤ part) :
    ∀ (k : Nat) (s o : List UInt8) (u : TUtil) (a : TAns), BI nm args S d nx n part k s o u a → ∀ (G i : Nat), i + k ≤ 11990 → k + 5 ≤ G → loopF (pbody KB (part : Int)) G (s, (i : Int), Tplayed.mk o 0 false, u, a) = some (Tplayed.mk d (stN nx n) true) := by
  have hnx : nx < 1000 := by rcases hC.nx34 with h | h <;> omega
  have hdl := hC.dl
  intro k
  induction k using Nat.strongRecOn with
  | _ k ih =>
    intro s o u a hI G i hi hG
    obtain ⟨G, rfl⟩ : ∃ g, G = g + 1 := ⟨G - 1, by omega⟩
    cases hI with
    | @got _ b e _ _ hu ha hs hd =>
      have hlen : b.length + e.length + s.length = S.length := by have := congrArg List.length hs; simp only [List.length_append] at this; omega
      by_cases hen : e = []
      · have hsn := hd hen
        subst hen hsn hu
        simp only [List.append_nil] at hs
        subst hs
        obtain ⟨k0, q, e', hk0, hR, hsm, hc⟩ := b_end hC (a := a) (by rw [ha]) (by rw [ha]) (ls := linesOf (br 0 0 0))
        rcases hc with ⟨hdn, rfl, rfl⟩ | ⟨hdn, rfl, rfl⟩
        · have hst := b_step hC (smR_br (by omega) (by omega) (by omega)) hR (by omega) hsm
          subst hdn
          rw [loopB, p_exit (by omega) hst]
        · have hst := b_step hC (smR_br (by omega) (by omega) (by omega)) hR (by omega) hsm
          rw [loopB, p_write (by omega) (by show ([] : List UInt8).length ≤ 1000000; decide) (by omega) hst]
          refine ih _ ?_ [] ([] ++ d.take (min part d.length)) _ _ (BI.put (e := d) (m := min part d.length) rfl rfl ?_ (Nat.min_le_right _ _) hdl) G (i + 1) ?_ ?_
          · simp only [List.length_nil]; omega
          · rw [List.nil_append, List.take_append_drop]
          · simp only [List.length_nil] at hi; omega
          · simp only [List.length_nil] at hG; omega
      · have hel : 0 < e.length := by cases e with | nil => exact absurd rfl hen | cons _ _ => simp
        have hne : (e == []) = false := by cases e with | nil => exact absurd rfl hen | cons _ _ => rfl
        subst hu
        have hR : Runs KB a 1 (bu nm args 13 0 b [] (linesOf (br 0 0 0)), w, br 0 0 0) (TReq.mk 1 0 0 0 0 0 32 0 [] [] [] []) (bu nm args 13 0 (b ++ e) [] (linesOf (br 0 0 0)), w, br 0 0 0) := by
          refine Runs.go (e1 := (bu nm args 12 0 (b ++ e) [] (linesOf (br 0 0 0)), w, br 0 0 0)) (t13data rfl (by rw [ha]) (by rw [ha]; exact hne) hC.cp (hC.ins _ _ rfl) el45 (by rw [ha]; exact hC.con b e _ (by omega))) ?_
          exact Runs.stop (t12 rfl (hC.ins _ _ rfl) el45)
        have hst := b_step hC (smR_br (by omega) (by omega) (by omega)) hR (by omega) (smR_br (by omega) (by omega) (by omega))
        rw [loopB, p_read (by omega) hst]
        have hr1 : rdN part s ≤ s.length := by unfold rdN; omega
        have hl1 : (s.take (rdN part s)).length = rdN part s := by simp; omega
        have hl2 : (s.drop (rdN part s)).length = s.length - rdN part s := List.length_drop
        refine ih _ ?_ (s.drop (rdN part s)) [] _ _ (BI.got (b := b ++ e) (e := s.take (rdN part s)) rfl ?_ ?_ ?_) G (i + 1) ?_ ?_
        · omega
        · rw [hl1]
        · rw [List.append_assoc, List.take_append_drop]; exact hs
        · intro h0
          have : rdN part s = 0 := by rw [← hl1, h0]; rfl
          unfold rdN at this
          have : s.length = 0 := by omega
          rw [List.eq_nil_of_length_eq_zero this, List.drop_nil]
        · omega
        · omega
    | @put m _ _ e _ _ hu ha hs hm hed =>
      subst hu
      by_cases hlt : m < e.length
      · have hR : Runs KB a 1 (bu nm args 2 n S e (linesOf (br nx 1 1)), w, br nx 1 1) (TReq.mk 2 1 0 0 0 0 0 0 [] (e.drop m) [] []) (bu nm args 2 n S (e.drop m) (linesOf (br nx 1 1)), w, br nx 1 1) := by
          refine Runs.go (q0 := rq0) (e1 := (bu nm args 1 n S (e.drop m) (linesOf (br nx 1 1)), w, br nx 1 1)) ?_ (Runs.stop (t1 rfl))
          have := t2more (F := KB) (u := bu nm args 2 n S e (linesOf (br nx 1 1))) (w := w) (r := br nx 1 1) (a := a) rfl (by rw [ha]) (by rw [ha]; show (0 : Int) ≤ (m : Int); omega) (by rw [ha]; show (m : Int) < (e.length : Int); omega)
          rw [this, ha]
          have e1 : sl e (m : Int) (e.length : Int) = e.drop m := by simp [sl, List.take_of_length_le]
          show some (_, _, ({ bu nm args 2 n S e (linesOf (br nx 1 1)) with fState := 1, fOut := sl e (m : Int) (e.length : Int) } : TUtil), _) = _
          rw [e1]
          rfl
        have hst := b_step hC (smR_br (by omega) (by omega) (by omega)) hR (by omega) (smR_br (by omega) (by omega) (by omega))
        have hdr : (e.drop m).length = e.length - m := List.length_drop
        have hol : o.length ≤ 5000 := by have := congrArg List.length hs; simp only [List.length_append] at this; omega
        rw [loopB, p_write (by omega) (by show o.length ≤ 1000000; omega) (by omega) hst]
        refine ih _ ?_ s (o ++ (e.drop m).take (min part (e.drop m).length)) _ _ (BI.put (e := e.drop m) (m := min part (e.drop m).length) rfl rfl ?_ (Nat.min_le_right _ _) (by omega)) G (i + 1) ?_ ?_
        · omega
        · rw [List.append_assoc, List.take_append_drop]; exact hs
        · omega
        · omega
      · have hnd : m = e.length := by omega
        obtain ⟨k0, hk0, hR0⟩ := b_exit hC (a := a) (b := S) (ls := linesOf (br nx 1 1)) (af := nx) (fd := 1) (it := 1)
        have hR : Runs KB a (k0 + 1) (bu nm args 2 n S e (linesOf (br nx 1 1)), w, br nx 1 1) (TReq.mk 9 0 0 0 0 0 (stN nx n) 0 [] [] [] []) (bu nm args 4 (stN nx n) S [] (linesOf (br nx 1 1)), w, br nx 1 1) :=
          Runs.go (e1 := (bu nm args (nx : Int) n S [] (linesOf (br nx 1 1)), w, br nx 1 1)) (t2done rfl (by rw [ha]) (by rw [ha]; show ¬ (m : Int) < (e.length : Int); omega)) hR0
        have hst := b_step hC (smR_br (by omega) (by omega) (by omega)) hR (by omega) (smR_br (by omega) (by omega) (by omega))
        rw [hnd, List.drop_length, List.append_nil] at hs
        rw [loopB, p_exit (by omega) hst, hs]

/-- The whole play. -/
theorem b_play (hC : BufU nm args w S d nx n) (hS : S.length ≤ 400) {part : Nat} (hp : 1 ≤ part) : law31_play KB args [] S (part : Int) = some (Tplayed.mk d (stN nx n) true) := by
  have hdl := hC.dl
  rw [play_eq KB _ _ _ _ _ hC.start, show KB = 11999 + 1 from rfl, loopB]
  have hl := load_first KB (bu nm args 0 0 [] [] []) w (by decide) hC.pos hC.split rfl
  have hst : util_Step KB (bu nm args 0 0 [] [] []) an0 = some (bu nm args 13 0 [] [] (linesOf (br 0 0 0)), TReq.mk 1 0 0 0 0 0 32 0 [] [] [] []) :=
    step_eq (e := (bu nm args 0 0 [] [] [], w, br 0 0 0)) (e' := (bu nm args 13 0 [] [] [], w, br 0 0 0)) hl
      (Runs.go (e1 := (bu nm args 10 0 [] [] [], w, br 0 0 0)) (hC.beg _) (Runs.go (e1 := (bu nm args 12 0 [] [] [], w, br 0 0 0)) (t10dash rfl (hC.ins _ _ rfl) el45 (by show (0 : Int) < ((1 : Nat) : Int); decide) rfl) (Runs.stop (t12 rfl (hC.ins _ _ rfl) el45))))
      (by omega) (by decide) (smR_br (by omega) (by omega) (by omega)) hC.ok (by show ([] : List (List UInt8)).length ≤ 1000000; decide)
  rw [p_read (F := KB) (by omega) hst]
  have hr1 : rdN part S ≤ S.length := by unfold rdN; omega
  have hl1 : (S.take (rdN part S)).length = rdN part S := by simp; omega
  have hl2 : (S.drop (rdN part S)).length = S.length - rdN part S := List.length_drop
  refine b_run hC hS hp _ _ _ _ _ (BI.got (b := []) (e := S.take (rdN part S)) rfl ?_ ?_ ?_) 11999 (0 + 1) ?_ ?_
  · rw [hl1]
  · rw [List.nil_append, List.take_append_drop]
  · intro h0
    have : rdN part S = 0 := by rw [← hl1, h0]; rfl
    unfold rdN at this
    have : S.length = 0 := by omega
    rw [List.eq_nil_of_length_eq_zero this, List.drop_nil]
  · omega
  · omega
end

/-! ### What holds for every utility that reads all first -/
theorem start_gen {nm : List UInt8} {l : List (List UInt8)} (hk : util_Known KB nm = some true) (hl : l.length ≤ 1000) : util_Start KB (nm :: l) [] = some (bu nm (nm :: l) 0 0 [] [] [], true) := by
  unfold util_Start
  have hl0 : ((nm :: l).length : Int) = (l.length : Int) + 1 := by simp
  have e0 : (((nm :: l).length : Int) == 0) = false := by rw [hl0]; exact beq_false_of_ne (by omega)
  rw [e0, cond_false, rq1 (by rw [hl0]; omega), show (nm :: l).getD 0 [] = nm from rfl, hk, Option.bind_some, Option.bind_some]
  show rq _ _ = _
  rw [rq1 (by rw [hl0]; omega), clone_ok (by unfold okL; simp; omega), Option.bind_some, clone_ok (by unfold okL; simp), Option.bind_some]
  rfl
theorem con_gen {nm : List UInt8} {args : List (List UInt8)} {w : Twords} (h1 : (nm == ([99, 97, 116] : List UInt8)) = false) (h2 : (nm == ([104, 101, 97, 100] : List UInt8)) = false) (h3 : (nm == ([116, 101, 101] : List UInt8)) = false) (h4 : (nm == ([99, 112] : List UInt8)) = false)
    (b e : List UInt8) (ls : List (List UInt8)) (h : b.length + e.length ≤ 400) : util_engine_consume KB e (bu nm args 13 0 b [] ls) w (br 0 0 0) [] = some (bu nm args 12 0 (b ++ e) [] ls, w, br 0 0 0, []) := by
  unfold util_engine_consume
  rw [show (bu nm args 13 0 b [] ls).fName = nm from rfl, h1, h2, h3, h4, cond_false, cond_false, cond_false, cond_false, show (bu nm args 13 0 b [] ls).fBuf = b from rfl]
  rw [w64_in (by omega), cf (by omega), rq1 (by omega)]
  rfl


end Go.Proofs.YteagcbkkonabbaaGreatDoor
