import Derived.Test.YteagcbkkonabbaaGreatDoorUa
namespace Go.Proofs.YteagcbkkonabbaaGreatDoor
open Go.RT
set_option linter.all false
abbrev rq0 : TReq := TReq.mk 0 0 0 0 0 0 0 0 [] [] [] []
abbrev an0 : TAns := TAns.mk 0 false 0 0 0 0 0 [] [] false []
abbrev anF (n : Int) : TAns := TAns.mk 0 false 0 n 0 0 0 [] [] false []
abbrev anN (n : Int) : TAns := TAns.mk 0 false n 0 0 0 0 [] [] false []
abbrev anR (n : Int) (d : List UInt8) : TAns := TAns.mk 0 false n 0 0 0 0 d [] false []
section
variable {F : Nat} {a : TAns} {u : TUtil} {w : Twords} {r : TAinti648} {inp : List (List UInt8)} {p : List UInt8}
theorem t3 (h : u.fState = 3) : adv F a (u, w, r) = some (rq0, false, { u with fState := 4, fN := r.2.2.1 }, w, r, []) := by
  unfold adv util_engine_advance
  simp only [h]
  rfl
theorem el_in {l : List (List UInt8)} {i : Nat} (hi : i < l.length) (F : Nat) : util_element F l (i : Int) = some (l.getD i []) := by
  unfold util_element
  rw [cf (by omega), Option.bind_some, cf (by omega), rq2 (by omega) (by omega), Int.toNat_natCast]
theorem el_out {l : List (List UInt8)} {i : Nat} (hi : l.length ≤ i) (F : Nat) : util_element F l (i : Int) = some [] := by
  unfold util_element
  rw [cf (by omega), Option.bind_some, ct (by omega)]
end
abbrev Sp := (List UInt8) × Int × Tplayed × TUtil × TAns
noncomputable def pbody (F : Nat) (a3 : Int) : (Sp → Option Tplayed) → Sp → Option Tplayed := (fun rc3 x2 =>
 cond (decide (x2.2.1 < 12000))
 ((util_Step F x2.2.2.2.1 x2.2.2.2.2).bind fun x4 =>
 cond (x4.2.fOp == 9)
 (some (Tplayed.mk x2.2.2.1.fout x4.2.fN true))
 (cond (x4.2.fOp == 1)
 ((cond (decide (x4.2.fN < a3))
 (some x4.2.fN)
 (some a3) : Option Int).bind fun x5 =>
 ((cond (x4.2.fFd != 0)
 (some true)
 (some (decide (x5 < 0))) : Option Bool).bind fun x7 =>
 cond x7
 (some 0)
 (some x5) : Option Int).bind fun x6 =>
 (cond (decide ((x2.1.length : Int) < x6))
 (some (x2.1.length : Int))
 (some x6) : Option Int).bind fun x8 =>
 rq ((decide (0 ≤ x8)) && (decide (x8 ≤ (x2.1.length : Int)))) (rq ((decide (0 ≤ x8)) && ((decide (x8 ≤ (x2.1.length : Int))) && (decide ((x2.1.length : Int) ≤ (x2.1.length : Int))))) (rc3 (sl x2.1 x8 (x2.1.length : Int), w64 (x2.2.1 + 1), x2.2.2.1, x4.1, { (TAns.mk 0 false 0 0 0 0 0 [] [] false []) with fN := x8, fData := sl x2.1 0 x8 }))))
 (cond (x4.2.fOp == 2)
 ((cond (decide ((x4.2.fData.length : Int) < a3))
 (some (x4.2.fData.length : Int))
 (some a3) : Option Int).bind fun x9 =>
 cond (x4.2.fFd == 1)
 (rq ((decide (0 ≤ x9)) && (decide (x9 ≤ (x4.2.fData.length : Int)))) (rq (decide (x2.2.2.1.fout.length + (sl x4.2.fData 0 x9).length ≤ 9223372036854775807)) (rc3 (x2.1, w64 (x2.2.1 + 1), { x2.2.2.1 with fout := x2.2.2.1.fout ++ (sl x4.2.fData 0 x9) }, x4.1, { (TAns.mk 0 false 0 0 0 0 0 [] [] false []) with fN := x9 }))))
 (rc3 (x2.1, w64 (x2.2.1 + 1), x2.2.2.1, x4.1, { (TAns.mk 0 false 0 0 0 0 0 [] [] false []) with fN := x9 })))
 (cond (x4.2.fOp == 3)
 (rc3 (x2.1, w64 (x2.2.1 + 1), x2.2.2.1, x4.1, { (TAns.mk 0 false 0 0 0 0 0 [] [] false []) with fFd := x4.2.fN }))
 (rc3 (x2.1, w64 (x2.2.1 + 1), x2.2.2.1, x4.1, (TAns.mk 0 false 0 0 0 0 0 [] [] false [])))))))
 (some x2.2.2.1))
theorem play_eq (F : Nat) (a0 a1 : List (List UInt8)) (s : List UInt8) (part : Int) (u : TUtil) (h : util_Start F a0 a1 = some (u, true)) :
    law31_play F a0 a1 s part = loopF (pbody F part) F (s, ((0 : Nat) : Int), Tplayed.mk [] 0 false, u, an0) := by
  unfold law31_play
  rw [h]
  rfl
section
variable {F : Nat} {part : Nat} {rc : Sp → Option Tplayed} {s : List UInt8} {i : Nat} {x : Tplayed} {u u' : TUtil} {a : TAns}
theorem p_exit (hi : i < 12000) {n : Int} (h : util_Step F u a = some (u', TReq.mk 9 0 0 0 0 0 n 0 [] [] [] [])) : pbody F (part : Int) rc (s, (i : Int), x, u, a) = some (Tplayed.mk x.fout n true) := by
  unfold pbody
  dsimp only
  rw [ct (by omega), h]
  rfl
def rdN (part : Nat) (s : List UInt8) : Nat := min (min 32 part) s.length
theorem p_read (hi : i < 12000) (h : util_Step F u a = some (u', TReq.mk 1 0 0 0 0 0 32 0 [] [] [] [])) :
    pbody F (part : Int) rc (s, (i : Int), x, u, a) = rc (s.drop (rdN part s), ((i + 1 : Nat) : Int), x, u', anR (rdN part s : Int) (s.take (rdN part s))) := by
  unfold pbody
  dsimp only
  rw [ct (by omega), h, Option.bind_some]
  dsimp only
  have e0 : ((1 : Int) == 9) = false := rfl
  have e1 : ((1 : Int) == 1) = true := rfl
  have e2 : ((0 : Int) != 0) = false := rfl
  simp only [e0, e1, e2, cond_true, cond_false, Option.bind_some]
  have h5 : (cond (decide ((32 : Int) < (part : Int))) (some 32) (some (part : Int)) : Option Int) = some ((min 32 part : Nat) : Int) := by
    by_cases hp : (32 : Int) < (part : Int)
    · rw [ct hp]; congr 1; omega
    · rw [cf hp]; congr 1; omega
  rw [h5, Option.bind_some, dF (by omega), cond_false, Option.bind_some]
  have h6 : (cond (decide ((s.length : Int) < ((min 32 part : Nat) : Int))) (some (s.length : Int)) (some ((min 32 part : Nat) : Int)) : Option Int) = some ((rdN part s : Nat) : Int) := by
    unfold rdN
    by_cases hp : (s.length : Int) < ((min 32 part : Nat) : Int)
    · rw [ct hp]; congr 1; omega
    · rw [cf hp]; congr 1; omega
  have hle : rdN part s ≤ s.length := by unfold rdN; omega
  rw [h6, Option.bind_some, rq2 (by omega) (by omega), rq3 (by omega) (by omega) (by omega), w64_nat (by omega)]
  have e3 : sl s ((rdN part s : Nat) : Int) (s.length : Int) = s.drop (rdN part s) := by simp [sl, List.take_of_length_le]
  have e4 : sl s 0 ((rdN part s : Nat) : Int) = s.take (rdN part s) := by simp [sl]
  rw [e3, e4]
theorem p_readfd (hi : i < 12000) (hp : 1 ≤ part) {fd : Int} (hfd : (fd != 0) = true) (h : util_Step F u a = some (u', TReq.mk 1 fd 0 0 0 0 32 0 [] [] [] [])) :
    pbody F (part : Int) rc (s, (i : Int), x, u, a) = rc (s, ((i + 1 : Nat) : Int), x, u', an0) := by
  unfold pbody
  dsimp only
  rw [ct (by omega), h, Option.bind_some]
  dsimp only
  have e0 : ((1 : Int) == 9) = false := rfl
  have e1 : ((1 : Int) == 1) = true := rfl
  simp only [e0, e1, hfd, cond_true, cond_false, Option.bind_some]
  have h5 : ∃ y : Int, (cond (decide ((32 : Int) < (part : Int))) (some 32) (some (part : Int)) : Option Int) = some y := by
    by_cases hp : (32 : Int) < (part : Int)
    · exact ⟨_, ct hp⟩
    · exact ⟨_, cf hp⟩
  obtain ⟨y, hy⟩ := h5
  rw [hy, Option.bind_some, cf (by omega), Option.bind_some, rq2 (by omega) (by omega), rq3 (by omega) (by omega) (by omega), w64_nat (by omega)]
  have e3 : sl s 0 (s.length : Int) = s := by simp [sl]
  have e4 : sl s 0 0 = [] := by simp [sl]
  rw [e3, e4]
theorem p_open (hi : i < 12000) {n : Int} {fl : Int} {p : List UInt8} (h : util_Step F u a = some (u', TReq.mk 3 0 0 0 0 0 n fl p [] [] [])) :
    pbody F (part : Int) rc (s, (i : Int), x, u, a) = rc (s, ((i + 1 : Nat) : Int), x, u', anF n) := by
  unfold pbody
  dsimp only
  rw [ct (by omega), h, Option.bind_some, w64_nat (by omega)]
  rfl
end
end Go.Proofs.YteagcbkkonabbaaGreatDoor
