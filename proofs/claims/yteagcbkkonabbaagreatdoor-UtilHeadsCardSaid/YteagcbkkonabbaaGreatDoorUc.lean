/-
  UtilCats: cat writes what it reads.
-/
import Derived.Test.YteagcbkkonabbaaGreatDoorUb
namespace Go.Proofs.YteagcbkkonabbaaGreatDoor
open Go.RT
set_option linter.all false

/-- Registers: after a write, descriptor written, operand, descriptor read. -/
def rg (af fd it inn : Nat) : TAinti648 := ((af : Int), ((fd : Int), (0, ((it : Int), ((inn : Int), (0, (0, (0, ()))))))))
theorem smR_rg {af fd it inn : Nat} (h1 : af < 1000) (h2 : fd < 1000) (h3 : it < 1000) (h4 : inn < 1000) : smR (rg af fd it inn) := by
  intro n hn
  simp only [rl, rg, List.mem_cons, List.not_mem_nil, or_false] at hn
  unfold sm
  omega
abbrev nmCat : List UInt8 := [99, 97, 116]
def cu (args : List (List UInt8)) (st : Int) (out : List UInt8) (ls : List (List UInt8)) : TUtil := TUtil.mk nmCat args [] st 0 [] ls out

structure Cat (args inp : List (List UInt8)) (w : Twords) : Prop where
  split : ∀ F, 20 ≤ F → util_split F nmCat (sl args 1 (args.length : Int)) = some w
  pos : 0 < args.length
  ok : okL args
  ins : ∀ F st out ls r, util_engine_inputs F (cu args st out ls) w r [] = some inp
  small : inp.length < 900

section
variable {args inp : List (List UInt8)} {w : Twords} {F : Nat} {a : TAns} {af fd it inn : Nat} {ls : List (List UInt8)}

theorem nxt (k : Nat) (h : k < 900) (x : Int) (af fd inn : Nat) : ((rg af fd k inn).1, ((rg af fd k inn).2.1, ((rg af fd k inn).2.2.1, (w64 ((rg af fd k inn).2.2.2.1 + 1), (rg af fd k inn).2.2.2.2)))) = rg af fd (k + 1) inn := by
  show ((af : Int), ((fd : Int), ((0 : Int), (w64 ((k : Int) + 1), ((inn : Int), ((0 : Int), ((0 : Int), ((0 : Int), ())))))))) = _
  rw [w64_nat (by omega)]
  rfl

/-- The next operand: none is left. -/
theorem runs_end (hC : Cat args inp w) (hk : inp.length ≤ it) : Runs F a 2 (cu args 10 [] ls, w, rg af fd it inn) (TReq.mk 9 0 0 0 0 0 0 0 [] [] [] []) (cu args 4 [] ls, w, rg af fd it inn) := by
  refine Runs.go (e1 := (cu args 3 [] ls, w, rg af fd it inn)) (t10end rfl (hC.ins _ _ _ _ _) (el_out hk F) (.inl (by show (inp.length : Int) ≤ (it : Int); omega)) rfl) ?_
  refine Runs.go (e1 := (cu args 4 [] ls, w, rg af fd it inn)) (t3 rfl) ?_
  exact Runs.stop (e := (cu args 4 [] ls, w, rg af fd it inn)) (e' := (cu args 4 [] ls, w, rg af fd it inn)) (t4 rfl)
/-- The standard input. -/
theorem runs_dash (hC : Cat args inp w) (hk : it < inp.length) (hd : inp.getD it [] = [45]) :
    Runs F a 1 (cu args 10 [] ls, w, rg af fd it inn) (TReq.mk 1 0 0 0 0 0 32 0 [] [] [] []) (cu args 13 [] ls, w, rg af fd it 0) := by
  refine Runs.go (e1 := (cu args 12 [] ls, w, rg af fd it 0)) (t10dash rfl (hC.ins _ _ _ _ _) ((el_in hk F).trans (by rw [hd])) (by show (it : Int) < (inp.length : Int); omega) rfl) ?_
  exact Runs.stop (t12 rfl (hC.ins _ _ _ _ _) (el_in hk F))
/-- A file. -/
theorem runs_file (hC : Cat args inp w) (hk : it < inp.length) {p : List UInt8} (hd : inp.getD it [] = p) (hp : (p == ([45] : List UInt8)) = false) :
    Runs F a 0 (cu args 10 [] ls, w, rg af fd it inn) (TReq.mk 3 0 0 0 0 0 3 1 p [] [] []) (cu args 11 [] ls, w, rg af fd it inn) :=
  Runs.stop (t10file rfl (hC.ins _ _ _ _ _) ((el_in hk F).trans (by rw [hd])) hp (by show (it : Int) < (inp.length : Int); omega) rfl)
theorem runs_opened (hC : Cat args inp w) (hk : it < inp.length) {n : Nat} (ha : a = anF (n : Int)) :
    Runs F a 1 (cu args 11 [] ls, w, rg af fd it inn) (TReq.mk 1 (n : Int) 0 0 0 0 32 0 [] [] [] []) (cu args 13 [] ls, w, rg af fd it n) := by
  subst ha
  refine Runs.go (e1 := (cu args 12 [] ls, w, rg af fd it n)) (t11 rfl rfl (hC.ins _ _ _ _ _) (el_in hk F)) ?_
  exact Runs.stop (t12 rfl (hC.ins _ _ _ _ _) (el_in hk F))
/-- A file is read to its end. -/
theorem runs_fileEnd (hC : Cat args inp w) (hk : it < inp.length) {p : List UInt8} (hd : inp.getD it [] = p) (hp : (p == ([45] : List UInt8)) = false) :
    Runs F an0 1 (cu args 13 [] ls, w, rg af fd it inn) (TReq.mk 4 (inn : Int) 0 0 0 0 0 0 [] [] [] []) (cu args 16 [] ls, w, rg af fd it inn) := by
  refine Runs.go (e1 := (cu args 15 [] ls, w, rg af fd it inn)) (t13empty rfl rfl rfl rfl (hC.ins _ _ _ _ _) (el_in hk F)) ?_
  exact Runs.stop (t15file rfl (hC.ins _ _ _ _ _) ((el_in hk F).trans (by rw [hd])) hp)
/-- It is closed. -/
theorem runs_closed (hC : Cat args inp w) (hk : it < inp.length) {n : Nat} {q : TReq} {e' : Eng} (h : Runs F a n (cu args 10 [] ls, w, rg af fd (it + 1) inn) q e') : Runs F a (n + 1) (cu args 16 [] ls, w, rg af fd it inn) q e' := by
  refine Runs.go (q0 := rq0) (e1 := (cu args 10 [] ls, w, rg af fd (it + 1) inn)) ?_ h
  have := t16 (F := F) (a := a) (u := cu args 16 [] ls) (r := rg af fd it inn) rfl (hC.ins _ _ _ _ _) (el_in hk F)
  rw [nxt it (by have := hC.small; omega) 0] at this
  exact this
/-- The standard input is read to its end. -/
theorem runs_inEnd (hC : Cat args inp w) (hk : it < inp.length) (hd : inp.getD it [] = [45]) (hda : a.fData = []) (he : a.fErr = 0) {n : Nat} {q : TReq} {e' : Eng} (h : Runs F a n (cu args 10 [] ls, w, rg af fd (it + 1) inn) q e') :
    Runs F a (n + 3) (cu args 13 [] ls, w, rg af fd it inn) q e' := by
  refine Runs.go (e1 := (cu args 15 [] ls, w, rg af fd it inn)) (t13empty rfl he hda rfl (hC.ins _ _ _ _ _) (el_in hk F)) ?_
  refine Runs.go (e1 := (cu args 16 [] ls, w, rg af fd it inn)) (t15dash rfl (hC.ins _ _ _ _ _) ((el_in hk F).trans (by rw [hd]))) ?_
  exact runs_closed hC hk h
/-- Bytes were read: they are written. -/
theorem runs_data (hC : Cat args inp w) (hk : it < inp.length) {d : List UInt8} (hda : a.fData = d) (hne : (d == []) = false) (he : a.fErr = 0) :
    Runs F a 1 (cu args 13 [] ls, w, rg af fd it inn) (TReq.mk 2 1 0 0 0 0 0 0 [] d [] []) (cu args 2 d ls, w, rg 12 1 it inn) := by
  refine Runs.go (e1 := (cu args 1 d ls, w, rg 12 1 it inn)) (t13data rfl he (by rw [hda]; exact hne) rfl (hC.ins _ _ _ _ _) (el_in hk F) ?_) ?_
  · rw [hda]
    show (util_engine_consume F d (cu args 13 [] ls) w (rg af fd it inn) []) = _
    unfold util_engine_consume
    rw [show ((cu args 13 [] ls).fName == ([99, 97, 116] : List UInt8)) = true from rfl, cond_true]
    unfold util_engine_write
    rw [hne]
    rfl
  · exact Runs.stop (t1 rfl)
theorem runs_more (hC : Cat args inp w) {d : List UInt8} {n : Nat} (ha : a.fN = (n : Int)) (he : a.fErr = 0) (hn : n < d.length) :
    Runs F a 1 (cu args 2 d ls, w, rg 12 1 it inn) (TReq.mk 2 1 0 0 0 0 0 0 [] (d.drop n) [] []) (cu args 2 (d.drop n) ls, w, rg 12 1 it inn) := by
  refine Runs.go (q0 := rq0) (e1 := (cu args 1 (d.drop n) ls, w, rg 12 1 it inn)) ?_ (Runs.stop (t1 rfl))
  have := t2more (F := F) (u := cu args 2 d ls) (w := w) (r := rg 12 1 it inn) (a := a) rfl he (by omega) (by rw [ha]; show (n : Int) < (d.length : Int); omega)
  rw [this, ha]
  have e : sl d (n : Int) (d.length : Int) = d.drop n := by simp [sl, List.take_of_length_le]
  show some (_, _, ({ cu args 2 d ls with fState := 1, fOut := sl d (n : Int) (d.length : Int) } : TUtil), _) = _
  rw [e]
  rfl
theorem runs_again (hC : Cat args inp w) (hk : it < inp.length) {d : List UInt8} {n : Nat} (ha : a.fN = (n : Int)) (he : a.fErr = 0) (hn : d.length ≤ n) :
    Runs F a 1 (cu args 2 d ls, w, rg 12 1 it inn) (TReq.mk 1 (inn : Int) 0 0 0 0 32 0 [] [] [] []) (cu args 13 [] ls, w, rg 12 1 it inn) := by
  refine Runs.go (e1 := (cu args 12 [] ls, w, rg 12 1 it inn)) (t2done rfl he (by rw [ha]; show ¬ (n : Int) < (d.length : Int); omega)) ?_
  exact Runs.stop (t12 rfl (hC.ins _ _ _ _ _) (el_in hk F))

theorem step_cat (hC : Cat args inp w) (hF : 200 ≤ F) {n : Nat} {st : Int} {out : List UInt8} {r : TAinti648} (hr : smR r) {q : TReq} {st' : Int} {out' : List UInt8} {r' : TAinti648}
    (h : Runs F a n (cu args st out (linesOf r), w, r) q (cu args st' out' (linesOf r), w, r')) (hn : n < 100) (hr' : smR r') :
    util_Step F (cu args st out (linesOf r)) a = some (cu args st' out' (linesOf r'), q) :=
  step_eq (e := (cu args st out (linesOf r), w, r)) (load_eq F _ w r (by omega) hC.pos (hC.split F (by omega)) hr rfl) h hn hF hr' hC.ok (by show ([] : List (List UInt8)).length ≤ 1000000; decide)
end

/-- A state of play: what is left of the input, what was written, the utility, the answer. Its number: rounds that are left at most. -/
inductive CI (args inp : List (List UInt8)) (S : List UInt8) (part j : Nat) : Nat → List UInt8 → List UInt8 → TUtil → TAns → Prop
  | got {af fd inn : Nat} {s o d : List UInt8} {u : TUtil} {a : TAns} (h1 : af < 1000) (h2 : fd < 1000) (hu : u = cu args 13 [] (linesOf (rg af fd j 0))) (ha : a = anR (d.length : Int) d) (hs : o ++ d ++ s = S) (hd : d = [] → s = []) :
      CI args inp S part j (3 * s.length + 2 * d.length + 10) s o u a
  | put {n : Nat} {s o d : List UInt8} {u : TUtil} {a : TAns} (hu : u = cu args 2 d (linesOf (rg 12 1 j 0))) (ha : a = anN (n : Int)) (hs : o ++ d.drop n ++ s = S) (hn : n ≤ d.length) (hd : d.length ≤ 300) :
      CI args inp S part j (3 * s.length + 2 * (d.length - n) + 11) s o u a

theorem loopS {F G : Nat} {part : Int} (s : Sp) : loopF (pbody F part) (G + 1) s = pbody F part (loopF (pbody F part) G) s := rfl
/-- Reading the standard input as operand j: then the rest of play. -/
theorem cat_reads {args inp : List (List UInt8)} {w : Twords} (hC : Cat args inp w) {S : List UInt8} (hS : S.length ≤ 300) {part j : Nat} (hp : 1 ≤ part) (hj : j < inp.length) (hdash : inp.getD j [] = [45]) {F : Nat} (hF : 200 ≤ F) {z : Option Tplayed}
    (hend : ∀ (G i af fd : Nat), af < 1000 → fd < 1000 → i ≤ 11000 → 20 ≤ G → loopF (pbody F (part : Int)) G ([], (i : Int), Tplayed.mk S 0 false, cu args 13 [] (linesOf (rg af fd j 0)), anR (([] : List UInt8).length : Int) []) = z) :
    ∀ (k : Nat) (s o : List UInt8) (u : TUtil) (a : TAns), CI args inp S part j k s o u a → ∀ (G i : Nat), i + k ≤ 11000 → k + 30 ≤ G → loopF (pbody F (part : Int)) G (s, (i : Int), Tplayed.mk o 0 false, u, a) = z := by
  have hj9 := hC.small
  intro k
  induction k using Nat.strongRecOn with
  | _ k ih =>
    intro s o u a hI G i hi hG
    obtain ⟨G, rfl⟩ : ∃ g, G = g + 1 := ⟨G - 1, by omega⟩
    cases hI with
    | @got af fd inn _ _ d _ _ h1 h2 hu ha hs hd =>
      have hlen : o.length + d.length + s.length = S.length := by have := congrArg List.length hs; simp only [List.length_append, List.length_drop] at this; omega
      by_cases hdn : d = []
      · have hsn := hd hdn
        subst hdn hsn hu ha
        simp only [List.append_nil] at hs
        subst hs
        exact hend (G + 1) i af fd h1 h2 (by omega) (by omega)
      · have hdl : 0 < d.length := by cases d with | nil => exact absurd rfl hdn | cons _ _ => simp
        have hne : (d == []) = false := by cases d with | nil => exact absurd rfl hdn | cons _ _ => rfl
        subst hu
        have hst := step_cat (F := F) (a := a) hC hF (smR_rg h1 h2 (by omega) (by omega)) (runs_data hC (ls := linesOf (rg af fd j 0)) hj (by rw [ha]) hne (by rw [ha])) (by omega) (smR_rg (af := 12) (fd := 1) (it := j) (inn := 0) (by omega) (by omega) (by omega) (by omega))
        rw [loopS, p_write (by omega) (by show o.length ≤ 1000000; omega) (by omega) hst]
        refine ih _ ?_ s (o ++ d.take (min part d.length)) _ _ (CI.put (d := d) (n := min part d.length) rfl rfl ?_ (Nat.min_le_right _ _) (by omega)) G (i + 1) ?_ ?_
        · omega
        · rw [List.append_assoc o, List.take_append_drop]; exact hs
        · omega
        · omega
    | @put n _ _ d _ _ hu ha hs hn hd =>
      have hlen : o.length + (d.length - n) + s.length = S.length := by have := congrArg List.length hs; simp only [List.length_append, List.length_drop] at this; omega
      by_cases hlt : n < d.length
      · subst hu
        have hst := step_cat (F := F) (a := a) hC hF (smR_rg (af := 12) (fd := 1) (it := j) (inn := 0) (by omega) (by omega) (by omega) (by omega)) (runs_more hC (ls := linesOf (rg 12 1 j 0)) (it := j) (inn := 0) (by rw [ha]) (by rw [ha]) hlt) (by omega) (smR_rg (af := 12) (fd := 1) (it := j) (inn := 0) (by omega) (by omega) (by omega) (by omega))
        have hdr : (d.drop n).length = d.length - n := List.length_drop
        rw [loopS, p_write (by omega) (by show o.length ≤ 1000000; omega) (by omega) hst]
        refine ih _ ?_ s (o ++ (d.drop n).take (min part (d.drop n).length)) _ _ (CI.put (d := d.drop n) (n := min part (d.drop n).length) rfl rfl ?_ (Nat.min_le_right _ _) (by omega)) G (i + 1) ?_ ?_
        · omega
        · rw [List.append_assoc o, List.take_append_drop]; exact hs
        · omega
        · omega
      · have hnd : n = d.length := by omega
        subst hu
        have hst := step_cat (F := F) (a := a) hC hF (smR_rg (af := 12) (fd := 1) (it := j) (inn := 0) (by omega) (by omega) (by omega) (by omega)) (runs_again hC (ls := linesOf (rg 12 1 j 0)) (it := j) (inn := 0) hj (by rw [ha]) (by rw [ha]) (by omega : d.length ≤ n)) (by omega) (smR_rg (af := 12) (fd := 1) (it := j) (inn := 0) (by omega) (by omega) (by omega) (by omega))
        rw [loopS, p_read (by omega) hst]
        have hr1 : rdN part s ≤ s.length := by unfold rdN; omega
        have hl1 : (s.take (rdN part s)).length = rdN part s := by simp; omega
        have hl2 : (s.drop (rdN part s)).length = s.length - rdN part s := List.length_drop
        refine ih _ ?_ (s.drop (rdN part s)) o _ _ (CI.got (d := s.take (rdN part s)) (af := 12) (fd := 1) (inn := 0) (by omega) (by omega) rfl ?_ ?_ ?_) G (i + 1) ?_ ?_
        · omega
        · rw [hl1]
        · rw [hnd, List.drop_length, List.append_nil] at hs
          rw [List.append_assoc, List.take_append_drop]; exact hs
        · intro h0
          have : rdN part s = 0 := by rw [← hl1, h0]; rfl
          unfold rdN at this
          have : s.length = 0 := by omega
          rw [List.eq_nil_of_length_eq_zero this, List.drop_nil]
        · omega
        · omega

/-! ### cat alone -/
def w1 : Twords := Twords.mk [] [] 10 false
theorem C1 : Cat [nmCat] [[45]] w1 where
  split := fun F hF => by
    obtain ⟨G, rfl⟩ : ∃ G, F = G + 1 := ⟨F - 1, by omega⟩
    rfl
  pos := by decide
  ok := by show (1 : Nat) ≤ 1000000; decide
  ins := fun F st out ls r => rfl
  small := by decide
theorem known_cat (F : Nat) (hF : 40 ≤ F) : util_Known F nmCat = some true := by
  obtain ⟨G, rfl⟩ : ∃ G, F = G + 8 := ⟨F - 8, by omega⟩
  rfl
theorem start_cat (F : Nat) (hF : 40 ≤ F) (l : List (List UInt8)) (hl : l.length ≤ 1000) : util_Start F (nmCat :: l) [] = some (cu (nmCat :: l) 0 [] [], true) := by
  unfold util_Start
  have hl0 : ((nmCat :: l).length : Int) = (l.length : Int) + 1 := by simp
  have e0 : (((nmCat :: l).length : Int) == 0) = false := by rw [hl0]; exact beq_false_of_ne (by omega)
  rw [e0, cond_false, rq1 (by rw [hl0]; omega), show (nmCat :: l).getD 0 [] = nmCat from rfl, known_cat F hF, Option.bind_some, Option.bind_some]
  show rq _ _ = _
  rw [rq1 (by rw [hl0]; omega), clone_ok (by unfold okL; simp; omega), Option.bind_some, clone_ok (by unfold okL; simp), Option.bind_some]
  rfl
/-- The first step of cat. -/
theorem adv_begin {F : Nat} {a : TAns} {args ops : List (List UInt8)} {ls : List (List UInt8)} {r : TAinti648} : adv F a (cu args 0 [] ls, Twords.mk ops [] 10 false, r) = some (rq0, false, cu args 10 [] ls, Twords.mk ops [] 10 false, r, []) := by
  rfl

end Go.Proofs.YteagcbkkonabbaaGreatDoor
