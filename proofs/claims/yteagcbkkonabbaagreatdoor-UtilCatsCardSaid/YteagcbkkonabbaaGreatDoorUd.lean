/-
  UtilCats: both calls of play copy the input.
-/
import Derived.Test.YteagcbkkonabbaaGreatDoorUc
namespace Go.Proofs.YteagcbkkonabbaaGreatDoor
open Go.RT
set_option linter.all false

section
variable {args inp : List (List UInt8)} {F : Nat} {ops : List (List UInt8)}
/-- The first step: what comes after the beginning. -/
theorem step_begin (hC : Cat args inp (Twords.mk ops [] 10 false)) (hF : 200 ≤ F) {a : TAns} {n : Nat} {q : TReq} {st' : Int} {out' : List UInt8} {r' : TAinti648}
    (h : Runs F a n (cu args 10 [] [], Twords.mk ops [] 10 false, rg 0 0 0 0) q (cu args st' out' [], Twords.mk ops [] 10 false, r')) (hn : n < 90) (hr' : smR r') :
    util_Step F (cu args 0 [] []) a = some (cu args st' out' (linesOf r'), q) :=
  step_eq (e := (cu args 0 [] [], Twords.mk ops [] 10 false, rg 0 0 0 0)) (e' := (cu args st' out' [], Twords.mk ops [] 10 false, r')) (load_first F _ _ (by omega) hC.pos (hC.split F (by omega)) rfl)
    (Runs.go (e1 := (cu args 10 [] [], Twords.mk ops [] 10 false, rg 0 0 0 0)) adv_begin h) (by omega) hF hr' hC.ok (by show ([] : List (List UInt8)).length ≤ 1000000; decide)
end

/-- cat alone. -/
theorem play1 {S : List UInt8} (hS : S.length ≤ 300) {part : Nat} (hp : 1 ≤ part) {F : Nat} (hF : 12000 ≤ F) : law31_play F [nmCat] [] S (part : Int) = some (Tplayed.mk S 0 true) := by
  rw [play_eq F _ _ _ _ _ (start_cat F (by omega) [] (by decide))]
  obtain ⟨G, hG⟩ : ∃ G, F = G + 1 := ⟨F - 1, by omega⟩
  have h1 := step_begin (F := F) (a := an0) C1 (by omega) (runs_dash (ls := []) (it := 0) (inn := 0) (af := 0) (fd := 0) (a := an0) C1 (by decide) rfl) (by omega) (smR_rg (by omega) (by omega) (by omega) (by omega))
  conv => lhs; rw [show loopF (pbody F (part : Int)) F = loopF (pbody F (part : Int)) (G + 1) by rw [← hG]]
  rw [loopS, p_read (by omega) h1]
  have hr1 : rdN part S ≤ S.length := by unfold rdN; omega
  have hl1 : (S.take (rdN part S)).length = rdN part S := by simp; omega
  have hl2 : (S.drop (rdN part S)).length = S.length - rdN part S := List.length_drop
  refine cat_reads C1 hS hp (j := 0) (by decide) rfl (by omega) (fun G i af fd ha hf hi hG => ?_) _ _ _ _ _ (CI.got (d := S.take (rdN part S)) (af := 0) (fd := 0) (inn := 0) (by omega) (by omega) rfl ?_ ?_ ?_) G (0 + 1) (by omega) (by omega)
  · obtain ⟨G, rfl⟩ : ∃ g, G = g + 1 := ⟨G - 1, by omega⟩
    have h2 := step_cat (F := F) (a := anR (([] : List UInt8).length : Int) []) C1 (by omega) (smR_rg (af := af) (fd := fd) (it := 0) (inn := 0) (by omega) (by omega) (by omega) (by omega))
      (runs_inEnd C1 (ls := linesOf (rg af fd 0 0)) (by decide) rfl rfl rfl (runs_end C1 (by decide))) (by omega) (smR_rg (by omega) (by omega) (by omega) (by omega))
    rw [loopS, p_exit (by omega) h2]
  · rw [hl1]
  · show [] ++ S.take (rdN part S) ++ S.drop (rdN part S) = S
    rw [List.nil_append, List.take_append_drop]
  · intro h0
    have : rdN part S = 0 := by rw [← hl1, h0]; rfl
    unfold rdN at this
    have : S.length = 0 := by omega
    rw [List.eq_nil_of_length_eq_zero this, List.drop_nil]

abbrev nmE : List UInt8 := [101, 109, 112, 116, 121]
abbrev ops2 : List (List UInt8) := [nmE, [45], nmE]
theorem C2 : Cat (nmCat :: ops2) ops2 (Twords.mk ops2 [] 10 false) where
  split := fun F hF => by
    obtain ⟨G, rfl⟩ : ∃ G, F = G + 1 := ⟨F - 1, by omega⟩
    rfl
  pos := by decide
  ok := by show (4 : Nat) ≤ 1000000; decide
  ins := fun F st out ls r => rfl
  small := by decide

/-- cat with two files beside the standard input. -/
theorem play2 {S : List UInt8} (hS : S.length ≤ 300) {part : Nat} (hp : 1 ≤ part) {F : Nat} (hF : 12000 ≤ F) : law31_play F (nmCat :: ops2) [] S (part : Int) = some (Tplayed.mk S 0 true) := by
  rw [play_eq F _ _ _ _ _ (start_cat F (by omega) ops2 (by decide))]
  have hsm : ∀ {af fd it inn : Nat}, af < 1000 → fd < 1000 → it < 1000 → inn < 1000 → smR (rg af fd it inn) := fun h1 h2 h3 h4 => smR_rg h1 h2 h3 h4
  obtain ⟨G, hG⟩ : ∃ G, F = G + 4 := ⟨F - 4, by omega⟩
  -- empty is opened, read and closed
  have h1 := step_begin (F := F) (a := an0) C2 (by omega) (runs_file (ls := []) (it := 0) (inn := 0) (af := 0) (fd := 0) (a := an0) C2 (by decide) rfl rfl) (by omega) (hsm (by omega) (by omega) (by omega) (by omega))
  have h2 := step_cat (F := F) (a := anF 3) C2 (by omega) (hsm (af := 0) (fd := 0) (it := 0) (inn := 0) (by omega) (by omega) (by omega) (by omega)) (runs_opened C2 (ls := linesOf (rg 0 0 0 0)) (it := 0) (by decide) (n := 3) rfl) (by omega) (hsm (by omega) (by omega) (by omega) (by omega))
  have h3 := step_cat (F := F) (a := an0) C2 (by omega) (hsm (af := 0) (fd := 0) (it := 0) (inn := 3) (by omega) (by omega) (by omega) (by omega)) (runs_fileEnd C2 (ls := linesOf (rg 0 0 0 3)) (it := 0) (by decide) rfl rfl) (by omega) (hsm (by omega) (by omega) (by omega) (by omega))
  have h4 := step_cat (F := F) (a := an0) C2 (by omega) (hsm (af := 0) (fd := 0) (it := 0) (inn := 3) (by omega) (by omega) (by omega) (by omega)) (runs_closed C2 (ls := linesOf (rg 0 0 0 3)) (it := 0) (by decide) (runs_dash C2 (it := 1) (by decide) rfl)) (by omega) (hsm (by omega) (by omega) (by omega) (by omega))
  conv => lhs; rw [show loopF (pbody F (part : Int)) F = loopF (pbody F (part : Int)) (G + 1 + 1 + 1 + 1) by rw [hG]]
  rw [loopS, p_open (by omega) h1, loopS, p_readfd (by omega) hp rfl h2, loopS, p_close (by omega) h3, loopS, p_read (by omega) h4]
  have hr1 : rdN part S ≤ S.length := by unfold rdN; omega
  have hl1 : (S.take (rdN part S)).length = rdN part S := by simp; omega
  have hl2 : (S.drop (rdN part S)).length = S.length - rdN part S := List.length_drop
  refine cat_reads C2 hS hp (j := 1) (by decide) rfl (by omega) (fun G i af fd ha hf hi hG => ?_) _ _ _ _ _ (CI.got (d := S.take (rdN part S)) (af := 0) (fd := 0) (inn := 0) (by omega) (by omega) rfl ?_ ?_ ?_) G (0 + 1 + 1 + 1 + 1) (by omega) (by omega)
  · obtain ⟨G, rfl⟩ : ∃ g, G = g + 1 + 1 + 1 + 1 := ⟨G - 4, by omega⟩
    have q1 := step_cat (F := F) (a := anR (([] : List UInt8).length : Int) []) C2 (by omega) (hsm (af := af) (fd := fd) (it := 1) (inn := 0) (by omega) (by omega) (by omega) (by omega))
      (runs_inEnd C2 (ls := linesOf (rg af fd 1 0)) (by decide) rfl rfl rfl (runs_file C2 (it := 2) (by decide) rfl rfl)) (by omega) (hsm (by omega) (by omega) (by omega) (by omega))
    have q2 := step_cat (F := F) (a := anF 3) C2 (by omega) (hsm (af := af) (fd := fd) (it := 2) (inn := 0) (by omega) (by omega) (by omega) (by omega)) (runs_opened C2 (ls := linesOf (rg af fd 2 0)) (it := 2) (by decide) (n := 3) rfl) (by omega) (hsm (by omega) (by omega) (by omega) (by omega))
    have q3 := step_cat (F := F) (a := an0) C2 (by omega) (hsm (af := af) (fd := fd) (it := 2) (inn := 3) (by omega) (by omega) (by omega) (by omega)) (runs_fileEnd C2 (ls := linesOf (rg af fd 2 3)) (it := 2) (by decide) rfl rfl) (by omega) (hsm (by omega) (by omega) (by omega) (by omega))
    have q4 := step_cat (F := F) (a := an0) C2 (by omega) (hsm (af := af) (fd := fd) (it := 2) (inn := 3) (by omega) (by omega) (by omega) (by omega)) (runs_closed C2 (ls := linesOf (rg af fd 2 3)) (it := 2) (by decide) (runs_end C2 (by decide))) (by omega) (hsm (by omega) (by omega) (by omega) (by omega))
    rw [loopS, p_open (by omega) q1, loopS, p_readfd (by omega) hp rfl q2, loopS, p_close (by omega) q3, loopS, p_exit (by omega) q4]
  · rw [hl1]
  · show [] ++ S.take (rdN part S) ++ S.drop (rdN part S) = S
    rw [List.nil_append, List.take_append_drop]
  · intro h0
    have : rdN part S = 0 := by rw [← hl1, h0]; rfl
    unfold rdN at this
    have : S.length = 0 := by omega
    rw [List.eq_nil_of_length_eq_zero this, List.drop_nil]

theorem utilCats (a0 : List UInt8) (a1 : Int) : ∃ F, law31_UtilCats F a0 a1 = some true := by
  refine ⟨12000, ?_⟩
  unfold law31_UtilCats
  rw [awake_ok]
  by_cases h : (300 : Int) < (a0.length : Int)
  · rw [ct h]; rfl
  · rw [cf h]
    by_cases h1 : a1 < 1
    · rw [dT h1]; rfl
    · rw [dF h1]
      obtain ⟨part, rfl⟩ : ∃ p : Nat, a1 = (p : Int) := ⟨a1.toNat, by omega⟩
      have p1 : law31_play 12000 ([([99, 97, 116] : List UInt8)] : List (List UInt8)) [] a0 (part : Int) = some (Tplayed.mk a0 0 true) := play1 (by omega) (by omega) (Nat.le_refl _)
      have p2 : law31_play 12000 ([([99, 97, 116] : List UInt8), ([101, 109, 112, 116, 121] : List UInt8), ([45] : List UInt8), ([101, 109, 112, 116, 121] : List UInt8)] : List (List UInt8)) [] a0 (part : Int) = some (Tplayed.mk a0 0 true) := play2 (by omega) (by omega) (Nat.le_refl _)
      generalize h12 : (12000 : Nat) = K at p1 p2
      rw [Option.bind_some, cond_false, p1, Option.bind_some, p2, Option.bind_some]
      have e : (a0 == a0) = true := beq_self_eq_true _
      dsimp only
      rw [e]
      rfl

end Go.Proofs.YteagcbkkonabbaaGreatDoor
