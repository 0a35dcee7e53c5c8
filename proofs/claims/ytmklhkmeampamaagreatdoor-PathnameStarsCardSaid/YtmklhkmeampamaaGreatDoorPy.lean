/-
  Pathname, plain part 6: Stars.
-/
import Derived.Test.YtmklhkmeampamaaGreatDoorPx
namespace Go.Proofs.YtmklhkmeampamaaGreatDoor
open Go.RT
set_option linter.all false
set_option maxRecDepth 100000

theorem same_eq' (F : Nat) (a b : List (List UInt8)) (hF : a.length < F) (hl : a.length < 1000000000) : ref03_SameTexts F a b = some (decide (a = b)) := by
  unfold ref03_SameTexts
  by_cases h : a.length = b.length
  · have e : ((a.length : Int) != (b.length : Int)) = false := by rw [h]; simp
    rw [e, cond_false]
    refine loopF_hoare (fun x => ∃ k : Nat, x = (k : Int) ∧ k ≤ a.length ∧ a.take k = b.take k) (fun x => a.length - x.toNat) ?_ F _ ⟨0, rfl, by omega, by simp⟩ (by simp; omega)
    rintro ii ⟨k, rfl, hk, ht⟩
    by_cases hk : k < a.length
    · have hb : k < b.length := by omega
      cases hx : (a[k] == b[k]) with
      | true =>
        left
        refine ⟨((k + 1 : Nat) : Int), ⟨k + 1, rfl, by omega, ?_⟩, by simp; omega, fun rc => ?_⟩
        · rw [List.take_succ_eq_append_getElem hk, List.take_succ_eq_append_getElem hb, ht, eq_of_beq hx]
        · rw [ct (by omega), rq_ix hk, rq_ix hb, Int.toNat_natCast, gd hk, gd hb, hx, Bool.not_true, cond_false, w64s (by omega)]
      | false =>
        right
        intro rc
        rw [ct (by omega), rq_ix hk, rq_ix hb, Int.toNat_natCast, gd hk, gd hb, hx, Bool.not_false, cond_true]
        rw [dF]
        intro e
        subst e
        simp at hx
    · right
      intro rc
      rw [cf (by omega)]
      rw [List.take_of_length_le (by omega), List.take_of_length_le (by omega)] at ht
      rw [dT ht]
  · have e : ((a.length : Int) != (b.length : Int)) = true := by simp; omega
    rw [e, cond_true, dF (fun e => h (by rw [e]))]

abbrev sp : List TPatItem := [TPatItem.mk 3 [] false []]
theorem sp_compile : pattern_Compile 100000 [TRun.mk [42] 0] = some sp := by kernel_rfl
theorem sp_literal : pattern_Literal 100000 sp = some ([], false) := by kernel_rfl
theorem sp_valid : pattern_valid 100000 sp = some true := by kernel_rfl
theorem sp_spread : pattern_spread 100000 sp [true, false] = some [true, true] := by kernel_rfl
theorem sp_set : (List.replicate (Int.toNat (w64 ((sp.length : Int) + 1))) false).set 0 true = [true, false] := by kernel_rfl
theorem sp_contains : slices_Contains_1 100000 [true, true] true = some true := by kernel_rfl
theorem sp_advance (b : Int) : pattern_advance_1 100000 sp [true, true] b = some [true, true] := by kernel_rfl
theorem sp_match (n : List UInt8) (hn : n.length ≤ 1000) : pattern_Match 100000 sp n = some true := by
  unfold pattern_Match pattern_search
  rw [sp_valid, Option.bind_some, Bool.not_true, cond_false, rq_true (by kernel_rfl), rq_true (by kernel_rfl), sp_set, sp_spread, Option.bind_some]
  rw [loopF_hoare (z := some ((n.length : Int), true)) (fun x : (List Bool) × Int × Bool × Int => ∃ k : Nat, x.2.2.2 = (k : Int) ∧ k ≤ n.length ∧ x.1 = [true, true]) (fun x => n.length - x.2.2.2.toNat) ?_ 100000 _ ⟨0, rfl, by omega, rfl⟩ (by simp; omega)]
  · rfl
  · rintro ⟨st, sz, fd, ii⟩ ⟨k, h0, hk, hs⟩
    dsimp only at h0 hs ⊢
    subst h0 hs
    by_cases hk : k < n.length
    · left
      refine ⟨([true, true], sz, fd, ((k + 1 : Nat) : Int)), ⟨k + 1, rfl, by omega, rfl⟩, by simp; omega, fun rc => ?_⟩
      have e : decide ((n.length : Int) ≤ (k : Int)) = false := dF (by omega)
      have e2 : ((k : Int) == (n.length : Int)) = false := by simp; omega
      show (jj (σ := Int × Bool) (R := Int × Bool) ((some (decide ((n.length : Int) ≤ (k : Int)))).bind _) _) = _
      rw [e]
      show ((cond ((k : Int) == (n.length : Int)) _ _ : Option Bool).bind _) = _
      rw [e2, cond_false, sp_contains]
      show rq _ _ = _
      rw [rq_ix hk, sp_advance, Option.bind_some, w64s (by omega)]
    · right
      obtain rfl : k = n.length := by omega
      intro rc
      have e : decide ((n.length : Int) ≤ (n.length : Int)) = true := dT (by omega)
      have e2 : ((n.length : Int) == (n.length : Int)) = true := by simp
      show (jj (σ := Int × Bool) (R := Int × Bool) ((some (decide ((n.length : Int) ≤ (n.length : Int)))).bind _) _) = _
      rw [e]
      show ((cond ((n.length : Int) == (n.length : Int)) _ _ : Option Bool).bind _) = _
      rw [e2]
      rfl

def patS (t : List TRun) : List TPatItem := sp
def mtS (p : List TPatItem) (n : List UInt8) : Bool := true
abbrev rS : List TRun := [TRun.mk [42] 0]
theorem pcS : pcL rS = [rS] := rfl
theorem flat_one {α : Type} : ∀ l : List α, (l.flatMap fun n => [[n]]) = l.map fun n => [n]
  | [] => rfl
  | a :: l => by rw [List.flatMap_cons, flat_one l]; rfl
def wantN (n : List UInt8) : Bool := !(n == []) && ((n.getD 0 0).toNat : Int) != 46
theorem W_star (l : List TFile) (cwd : List UInt8) : W l mtS (partsOf patS (fun _ => false) rS) (startP cwd (fieldOf rS)) = cond (dirD l cwd) (((kidsL l cwd).filter fun n => !preDot n).map fun n => [n]) [] := by
  have e : ∀ c : Tcomponent, c = cmpP patS (fun _ => false) rS → keepN mtS c = fun n => !preDot n := by
    rintro c rfl
    funext n
    unfold keepN
    rw [show dotC (cmpP patS (fun _ => false) rS) = false from rfl]
    simp [mtS]
  show W l mtS [cmpP patS (fun _ => false) rS] cwd = _
  rw [W_cons, e _ rfl]
  cases dirD l cwd with
  | false => rfl
  | true =>
    show (((kidsL l cwd).filter fun n => !preDot n).flatMap fun n => [[n]]) = _
    rw [flat_one]
    rfl
theorem want_kids {l : List TFile} (hv : VL l) (p : List UInt8) : (kidsL l p).filter wantN = (kidsL l p).filter fun n => !preDot n := by
  refine List.filter_congr fun n hn => ?_
  obtain ⟨h1, -⟩ := kid_len hv hn
  cases n with
  | nil => cases h1
  | cons b n =>
    unfold wantN preDot
    show (true && ((b.toNat : Int) != 46)) = !([b] == [46])
    rw [u8litn b 46 (by omega), Bool.true_and]
    have : (([b] : List UInt8) == [46]) = (b == 46) := by simp [List.beq_cons₂]
    rw [this]
theorem small_nil : ref04_Small 100000 [] 10 80 = some true := by kernel_rfl
theorem bounded_nil : ∃ b, (b = true → True) ∧ ref20_Bounded 100000 [] = some b := by
  refine bounded_of (by decide) (by decide) (by decide) (by decide) fun c hc => ?_
  obtain rfl := List.mem_singleton.1 (show c ∈ [([] : List TRun)] from hc)
  exact ⟨[], ([], true), by kernel_rfl, by kernel_rfl⟩
theorem pathnameStars (a0 : List TFile) (a1 : List UInt8) : ∃ F, law20_PathnameStars F a0 a1 = some true := by
  refine ⟨100000, ?_⟩
  unfold law20_PathnameStars
  obtain ⟨b, hb, e⟩ := lsmall (F := 100000) (l := a0) (cwd := a1) (r := []) (P := True) (P2 := True) (by omega) ⟨true, fun _ => trivial, small_nil⟩ (fun _ => bounded_nil)
  rw [e, awake_ok, Option.bind_some]
  cases b with
  | false => rfl
  | true =>
    obtain ⟨h1, h2, -, hv, -⟩ := hb rfl
    rw [Bool.not_true, cond_false, ref_path _ a1 (by omega), Option.bind_some]
    cases hp : pathS a1 with
    | false => rfl
    | true =>
      rw [Bool.not_true, Option.bind_some, cond_false, ref_list _ a0 a1 (by omega) hv, Option.bind_some]
      have hkl : ∀ p, (kidsL a0 p).length ≤ 40 := fun p => by unfold kidsL; rw [List.length_map]; exact Nat.le_trans (List.length_filter_le _ _) h1
      have hls : (listS a0 a1).1 = cond (dirD a0 a1) (kidsL a0 a1) [] := by
        unfold listS dirD
        rw [hp]
        cases findS a0 a1 with
        | none => rfl
        | some f =>
          dsimp only [Option.elim]
          cases f.fDir <;> rfl
      have hll : (listS a0 a1).1.length ≤ 40 := by
        rw [hls]
        cases dirD a0 a1
        · simp
        · exact hkl a1
      have hexp := expand_eq (F := 100000) (l := a0) (mt := mtS) (pat := patS) (lit := fun _ => false) (cwd := a1) (r := rS) (by omega) hv hp (by decide) (by decide) (fun t ht => by
          obtain rfl := List.mem_singleton.1 (show t ∈ [rS] from ht)
          exact ⟨sp_compile, [], sp_literal⟩) (fun t ht _ n hn => sp_match n (by omega)) (by
          rw [W_star]
          have := Nat.le_trans (List.length_filter_le (fun n => !preDot n) (kidsL a0 a1)) (hkl a1)
          cases dirD a0 a1
          · simp
          · rw [cond_true, List.length_map]; omega)
      have hval : expS a0 mtS patS (fun _ => false) a1 rS = cond ((((listS a0 a1).1.filter wantN).length : Int) == 0) [[42]] ((listS a0 a1).1.filter wantN) := by
        unfold expS
        rw [W_star, hls]
        show cond (false || _) [fieldOf rS] _ = _
        rw [Bool.false_or]
        cases hd : dirD a0 a1 with
        | false => rfl
        | true =>
          rw [cond_true, cond_true, want_kids hv, List.map_map, show (joinR ∘ fun n => [n]) = id from rfl, List.map_id, List.isEmpty_map]
          rw [sortK_id ((kids_asc hv a1).filter _)]
          cases (kidsL a0 a1).filter fun n => !preDot n with
          | nil => rfl
          | cons x y => rfl
      refine loopF_hoare (fun x : (List (List UInt8)) × Int => ∃ k : Nat, x.2 = (k : Int) ∧ k ≤ (listS a0 a1).1.length ∧ x.1 = ((listS a0 a1).1.take k).filter wantN) (fun x => (listS a0 a1).1.length - x.2.toNat) ?_ 100000 _ ⟨0, rfl, by omega, by simp⟩ (by simp; omega)
      rintro ⟨acc, ii⟩ ⟨k, h0, hk, ha⟩
      dsimp only at h0 ha ⊢
      subst h0
      by_cases hk : k < (listS a0 a1).1.length
      · left
        have hg : (listS a0 a1).1.getD k [] = (listS a0 a1).1[k] := gd hk
        have hal : acc.length ≤ k := by rw [ha]; exact Nat.le_trans (List.length_filter_le _ _) (by rw [List.length_take]; omega)
        refine ⟨(((listS a0 a1).1.take (k + 1)).filter wantN, ((k + 1 : Nat) : Int)), ⟨k + 1, rfl, by omega, rfl⟩, by simp; omega, fun rc => ?_⟩
        rw [ct (by omega), rq_ix hk, Int.toNat_natCast, hg, List.take_succ_eq_append_getElem hk, List.filter_append, ← ha, w64s (by omega)]
        have e3 : (cond (!((listS a0 a1).1[k] == [])) (rq (decide (0 ≤ (k : Int)) && decide ((k : Int) < ((listS a0 a1).1.length : Int))) (rq (decide (0 < ((listS a0 a1).1[k].length : Int))) (some ((((listS a0 a1).1[k].getD 0 0).toNat : Int) != 46)))) (some false) : Option Bool) = some (wantN (listS a0 a1).1[k]) := by
          unfold wantN
          cases hn : (listS a0 a1).1[k] with
          | nil => rfl
          | cons b n =>
            rw [rq_ix hk, rq1 (by simp)]
            rfl
        rw [e3, Option.bind_some]
        cases hw : wantN (listS a0 a1).1[k] with
        | true => rw [cond_true, rq_ix hk, rq_cap (by simp; omega) (by omega)]; simp [hw]
        | false => rw [cond_false]; simp [hw]
      · right
        obtain rfl : k = (listS a0 a1).1.length := by omega
        intro rc
        rw [List.take_length] at ha
        subst ha
        have hfl := Nat.le_trans (List.length_filter_le wantN (listS a0 a1).1) hll
        rw [cf (by omega), cond_som, Option.bind_some, show law20_lit 100000 [42] = some rS from rfl, Option.bind_some, hexp, Option.bind_some, hval]
        show (((ref03_SameTexts 100000 _ _).bind fun x13 => some x13 : Option Bool).bind _) = _
        rw [same_eq' 100000 _ _ (by cases ((((listS a0 a1).1.filter wantN).length : Int) == 0) <;> simp <;> omega) (by cases ((((listS a0 a1).1.filter wantN).length : Int) == 0) <;> simp <;> omega), dT rfl]
        rfl
end Go.Proofs.YtmklhkmeampamaaGreatDoor
