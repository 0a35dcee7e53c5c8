/-
  Pathname, plain part 11: Enters.
-/
import Derived.Test.YtmklhkmeampamaaGreatDoorPe
namespace Go.Proofs.YtmklhkmeampamaaGreatDoor
open Go.RT
set_option linter.all false
set_option maxRecDepth 100000
theorem special_tot (r : List TRun) (h1 : r.length ≤ 100) (h2 : szL r ≤ 300) : ∃ b, ref04_Special 100000 r = some b := by
  obtain ⟨p, x, e1, e2⟩ := refcl_tot r (by omega) (by omega)
  unfold ref04_Special
  rw [e1, Option.bind_some, e2]
  exact ⟨_, rfl⟩
theorem pathnameEnters (a0 : List TFile) (a1 a2 : List UInt8) (q2 : a2.length ≤ maxLen) : ∃ F, law20_PathnameEnters F a0 a1 a2 = some true := by
  refine ⟨100000, ?_⟩
  unfold law20_PathnameEnters
  have hsz : szL [TRun.mk a2 0] = a2.length := by simp [szL]
  obtain ⟨b, hb, e⟩ := lsmall (F := 100000) (l := a0) (cwd := a1) (r := [TRun.mk a2 0]) (P := a2.length ≤ 80) (P2 := True) (by omega) ⟨_, fun h => of_decide_eq_true h, small1 _ _ (by omega) q2⟩ (fun h => bounded_g _ (by simp) (by omega))
  rw [show law20_lit 100000 a2 = some [TRun.mk a2 0] from rfl]
  simp only [Option.bind_some]
  rw [e, awake_ok, Option.bind_some]
  cases b with
  | false => rfl
  | true =>
    obtain ⟨h1, h2, h3, hv, -⟩ := hb rfl
    rw [Bool.not_true, cond_false, ref_path _ a1 (by omega), Option.bind_some]
    cases hp : pathS a1 with
    | false => rfl
    | true =>
      rw [Bool.not_true, Option.bind_some, cond_false, Option.bind_some]
      cases hne2 : (a2 == []) with
      | true => rfl
      | false =>
        obtain ⟨sb, hsb⟩ := special_tot [TRun.mk a2 0] (by simp) (by omega)
        rw [cond_false, hsb, Option.bind_some, Option.bind_some]
        cases sb with
        | false => rfl
        | true =>
          rw [Bool.not_true, cond_false]
          refine loopF_hoare (fun x : Int => ∃ k : Nat, x = (k : Int) ∧ k ≤ a2.length ∧ ∀ b ∈ a2.take k, b ≠ 47) (fun x => a2.length - x.toNat) ?_ 100000 _ ⟨0, rfl, by omega, fun b h => by simp at h⟩ (by simp; omega)
          rintro ii ⟨k, rfl, hk, hns⟩
          by_cases hk : k < a2.length
          · have hg : a2.getD k 0 = a2[k] := gd hk
            cases hb47 : (a2[k] == 47) with
            | true =>
              right
              intro rc
              rw [ct (by omega), rq_ix hk, Int.toNat_natCast, hg, u8lit _ 47 (by omega), hb47]
              rfl
            | false =>
              left
              refine ⟨((k + 1 : Nat) : Int), ⟨k + 1, rfl, by omega, fun b h => ?_⟩, by simp; omega, fun rc => ?_⟩
              · rw [List.take_succ_eq_append_getElem hk] at h
                rcases List.mem_append.1 h with h | h
                · exact hns b h
                · obtain rfl := List.mem_singleton.1 h
                  simpa using hb47
              · rw [ct (by omega), rq_ix hk, Int.toNat_natCast, hg, u8lit _ 47 (by omega), hb47, cond_false, w64s (by omega)]
          · right
            obtain rfl : k = a2.length := by omega
            rw [List.take_length] at hns
            intro rc
            rw [cf (by omega), ref_Find _ a0 a1 (by omega) (by omega), Option.bind_some]
            cases hf : findS a0 a1 with
            | none => rfl
            | some f =>
              dsimp only [Option.elim]
              rw [Bool.not_true, cond_false, Option.bind_some]
              cases hfd : f.fDir with
              | false => rfl
              | true =>
                rw [Bool.not_true, cond_false, Option.bind_some]
                cases hr : (a1 == [47]) with
                | true => rfl
                | false =>
                  rw [cond_false]
                  obtain ⟨hn, hpo, hl128, hnn⟩ := path_names hp hr
                  have hd : dirD a0 a1 = true := by unfold dirD; rw [hf]; exact hfd
                  generalize partsS (a1.drop 1) = n at hn hpo hnn
                  subst hpo
                  obtain ⟨g1, g2, g3⟩ := expS_dir hv hn hnn hd hns h3
                  have hsz2 : szL [TRun.mk (pathOf n ++ [47]) 1, TRun.mk a2 0] ≤ 250 := by simp [szL]; omega
                  have x1 := expand_all hv hp (r := [TRun.mk a2 0]) (by simp) (by omega) (by omega)
                  have x2 := expand_all hv (cwd := [47]) (by decide) (r := [TRun.mk (pathOf n ++ [47]) 1, TRun.mk a2 0]) (by simp) hsz2 (by omega)
                  rw [x1, Option.bind_some, rq1 (by simp; omega), show law20_quoted 100000 (pathOf n ++ [47]) = some [TRun.mk (pathOf n ++ [47]) 1] from rfl, Option.bind_some, rq_cap (by simp) (by omega)]
                  rw [show ([TRun.mk (pathOf n ++ [47]) 1] ++ [TRun.mk a2 0] : List TRun) = [TRun.mk (pathOf n ++ [47]) 1, TRun.mk a2 0] from rfl, x2, Option.bind_some, g1]
                  have hel : (expS a0 mtF patF litF (pathOf n) [TRun.mk a2 0]).length ≤ 200 := by
                    unfold expS
                    cases ((pcL [TRun.mk a2 0]).all litF || (W a0 mtF (partsOf patF litF [TRun.mk a2 0]) (startP (pathOf n) (fieldOf [TRun.mk a2 0]))).isEmpty)
                    · rw [cond_false, (sortK_perm _).length_eq, List.length_map]; omega
                    · simp
                  have hem : ∀ x ∈ expS a0 mtF patF litF (pathOf n) [TRun.mk a2 0], x.length ≤ 1000000000000 := by
                    intro x hx
                    have hx2 : (pathOf n ++ [47]) ++ x ∈ expS a0 mtF patF litF [47] [TRun.mk (pathOf n ++ [47]) 1, TRun.mk a2 0] := by rw [g1]; exact List.mem_map.2 ⟨x, hx, rfl⟩
                    unfold expS at hx
                    cases hC : ((pcL [TRun.mk a2 0]).all litF || (W a0 mtF (partsOf patF litF [TRun.mk a2 0]) (startP (pathOf n) (fieldOf [TRun.mk a2 0]))).isEmpty) with
                    | true =>
                      rw [hC, cond_true] at hx
                      obtain rfl := List.mem_singleton.1 hx
                      have hp1 : pcL [TRun.mk a2 0] = [[TRun.mk a2 0]] := by rw [pcL_one a2 0 rfl, parts_noSl a2 hns]; rfl
                      unfold fieldOf
                      rw [hp1]
                      show (txt [TRun.mk a2 0]).length ≤ _
                      rw [txt_one]; omega
                    | false =>
                      rw [hC, cond_false] at hx
                      rw [(sortK_perm _).mem_iff] at hx
                      have hp1 : pcL [TRun.mk a2 0] = [[TRun.mk a2 0]] := by rw [pcL_one a2 0 rfl, parts_noSl a2 hns]; rfl
                      have hP1 : partsOf patF litF [TRun.mk a2 0] = [cmpP patF litF [TRun.mk a2 0]] := by unfold partsOf; rw [hp1]; rfl
                      rw [Bool.or_eq_false_iff, hp1] at hC
                      have hL : (cmpP patF litF [TRun.mk a2 0]).fliteral = false := by
                        have := hC.1
                        simpa [cmpP] using this
                      rw [hP1, W_one _ _ hL, List.map_map] at hx
                      obtain ⟨k, hk, rfl⟩ := List.mem_map.1 hx
                      show k.length ≤ _
                      cases hdd : dirD a0 (startP (pathOf n) (fieldOf [TRun.mk a2 0])) with
                      | false => rw [hdd] at hk; cases hk
                      | true =>
                        rw [hdd, cond_true, List.mem_filter] at hk
                        have := (kid_len hv hk.1).2
                        omega
                  generalize expS a0 mtF patF litF (pathOf n) [TRun.mk a2 0] = A at hel hem
                  have e5 : (((A.length : Int)) != ((A.map ((pathOf n ++ [47]) ++ ·)).length : Int)) = false := by rw [List.length_map]; simp
                  show ((cond ((0 : Int) != 0) (some true) (some ((0 : Int) != 0)) : Option Bool).bind _) = _
                  rw [show ((0 : Int) != 0) = false from rfl, cond_false, Option.bind_some, cond_false, e5, Option.bind_some, cond_false]
                  refine loopF_hoare (fun x : Int => ∃ k : Nat, x = (k : Int) ∧ k ≤ A.length) (fun x => A.length - x.toNat) ?_ 100000 _ ⟨0, rfl, by omega⟩ (by simp; omega)
                  rintro ii ⟨k, rfl, hk⟩
                  by_cases hk : k < A.length
                  · left
                    have hm := hem _ (List.getElem_mem hk)
                    refine ⟨((k + 1 : Nat) : Int), ⟨k + 1, rfl, by omega⟩, by simp; omega, fun rc => ?_⟩
                    dsimp only
                    rw [ct (by omega), rq_ix (by rw [List.length_map]; exact hk), rq1 (by simp; omega), rq_ix hk, Int.toNat_natCast, gd hk, gd (l := A.map _) (by rw [List.length_map]; exact hk), List.getElem_map, rq1 (by simp; omega), beq_self_eq_true, w64s (by omega)]
                    rfl
                  · right
                    intro rc
                    dsimp only
                    rw [cf (by omega)]
                    rfl
end Go.Proofs.YtmklhkmeampamaaGreatDoor
