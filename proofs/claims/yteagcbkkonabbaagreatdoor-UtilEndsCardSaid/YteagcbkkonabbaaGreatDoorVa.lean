import Derived.Test.YteagcbkkonabbaaGreatDoorUh
namespace Go.Proofs.YteagcbkkonabbaaGreatDoor
open Go.RT
set_option linter.all false
section
variable {F : Nat}
abbrev Eg := TUtil × Twords × TAinti648 × List Int
noncomputable def adw (F : Nat) (a : TAns) (e : Eg) : Option (TReq × Bool × TUtil × Twords × TAinti648 × (List Int)) := util_engine_advance F a e.1 e.2.1 e.2.2.1 e.2.2.2
def linesO (r : TAinti648) (o : List Int) : List (List UInt8) := (rl r ++ o).map Lib.itoa
def smO (o : List Int) : Prop := (∀ n ∈ o, sm n) ∧ o.length ≤ 50
theorem smRO {r : TAinti648} {o : List Int} (h1 : smR r) (h2 : smO o) : ∀ n ∈ rl r ++ o, sm n := by
  intro n hn
  rcases List.mem_append.1 hn with h | h
  · exact h1 n h
  · exact h2.1 n h
theorem store_eqO (hF : 200 ≤ F) (u : TUtil) (w : Twords) (r : TAinti648) (o : List Int) (hr : smR r) (ho : smO o) (h1 : okL u.fArgs) (h2 : okL u.fEnv) : util_engine_store F u w r o = some { u with fLines := linesO r o } := by
  have hol := ho.2
  unfold util_engine_store
  rw [clone_ok h1, Option.bind_some, clone_ok h2, Option.bind_some]
  have h3 : slices_Clone_1 F u w r o = some (rl r) := by
    unfold slices_Clone_1
    simp only [List.nil_append]
    rw [rq2 (by simp only [List.length_cons, List.length_nil]; omega) (by simp only [List.length_cons, List.length_nil]; omega)]
    rfl
  rw [h3, Option.bind_some]
  have hl : (rl r ++ o).length = 8 + o.length := by rw [List.length_append]; rfl
  have hl8 : (rl r).length = 8 := rfl
  rw [rq2 (by omega) (by omega)]
  refine loopF_seq (fun i => ((i : Int), u.fName, u.fArgs, u.fEnv, u.fState, u.fN, u.fBuf, (linesO r o).take i, u.fOut)) (8 + o.length) (by omega) rfl (fun i rc hi => ?_) (fun rc => ?_)
  · dsimp only
    rw [hl, ct (by omega), rq2 (by omega) (by omega), Int.toNat_natCast]
    have hi' : i < (rl r ++ o).length := by omega
    have e1 : (rl r ++ o).getD i 0 = (rl r ++ o)[i] := by rw [List.getD_eq_getElem?_getD, List.getElem?_eq_getElem hi', Option.getD_some]
    rw [e1, itoa_small (smRO hr ho _ (List.getElem_mem hi')), Option.bind_some]
    have hlen : ((linesO r o).take i).length ≤ 60 := by simp only [linesO, List.length_take, List.length_map]; omega
    rw [rq2 (by simp only [List.length_cons, List.length_nil]; omega) (by simp only [List.length_cons, List.length_nil]; omega), w64_nat (by omega)]
    have e2 : (linesO r o).take (i + 1) = (linesO r o).take i ++ [Lib.itoa (rl r ++ o)[i]] := by
      have : i < (linesO r o).length := by simpa only [linesO, List.length_map] using hi'
      rw [List.take_succ_eq_append_getElem this]
      simp only [linesO, List.getElem_map]
    rw [e2]
  · dsimp only
    rw [hl, cf (by omega)]
    have : (linesO r o).take (8 + o.length) = linesO r o := List.take_of_length_le (by simp only [linesO, List.length_map]; omega)
    rw [this]
theorem load_eqO (hF : 200 ≤ F) (u : TUtil) (w : Twords) (r : TAinti648) (o : List Int) (ha : 0 < u.fArgs.length) (hw : util_split F u.fName (sl u.fArgs 1 (u.fArgs.length : Int)) = some w) (hr : smR r) (ho : smO o) (hl : u.fLines = linesO r o) :
    util_load F u = some (u, u, w, r, o) := by
  have hol := ho.2
  unfold util_load
  rw [ct (by omega), rq2 (by omega) (by omega), hw, Option.bind_some, Option.bind_some]
  have hll : (rl r ++ o).length = 8 + o.length := by rw [List.length_append]; rfl
  have hlen : u.fLines.length = 8 + o.length := by rw [hl, linesO, List.length_map, hll]
  refine loopF_seq (fun i => ((i : Int), u, w, regsAt r i, o.take (i - 8))) (8 + o.length) (by omega) rfl (fun i rc hi => ?_) (fun rc => ?_)
  · dsimp only
    rw [hlen, ct (by omega), rq2 (by omega) (by omega), Int.toNat_natCast, hl]
    have hi' : i < (rl r ++ o).length := by omega
    have e1 : (linesO r o).getD i [] = Lib.itoa (rl r ++ o)[i] := by
      rw [List.getD_eq_getElem?_getD, linesO, List.getElem?_map, List.getElem?_eq_getElem hi']
      rfl
    rw [e1, atoi_small (smRO hr ho _ (List.getElem_mem hi')), Option.bind_some, w64_nat (by omega)]
    by_cases h8 : i < 8
    · rw [ct (by omega)]
      have e2 : o.take (i + 1 - 8) = o.take (i - 8) := by rw [show i + 1 - 8 = 0 by omega, show i - 8 = 0 by omega]
      rw [e2]
      have hi8 : i < (rl r).length := h8
      rw [List.getElem_append_left hi8]
      have hc : i = 0 ∨ i = 1 ∨ i = 2 ∨ i = 3 ∨ i = 4 ∨ i = 5 ∨ i = 6 ∨ i = 7 := by omega
      rcases hc with rfl | rfl | rfl | rfl | rfl | rfl | rfl | rfl <;> rfl
    · rw [cf (by omega)]
      have hl8 : (rl r).length = 8 := rfl
      have hio : i - 8 < o.length := by omega
      have e3 : o.take (i + 1 - 8) = o.take (i - 8) ++ [(rl r ++ o)[i]] := by
        rw [show i + 1 - 8 = (i - 8) + 1 by omega, List.take_succ_eq_append_getElem hio, List.getElem_append_right (by omega)]
        simp only [hl8]
      have htl : (o.take (i - 8)).length ≤ 50 := by rw [List.length_take]; omega
      have e4 : regsAt r (i + 1) = regsAt r i := by
        have : ∃ k, i = k + 8 := ⟨i - 8, by omega⟩
        obtain ⟨k, rfl⟩ := this
        rfl
      rw [rq2 (by simp only [List.length_cons, List.length_nil]; omega) (by simp only [List.length_cons, List.length_nil]; omega), e3, e4]
  · dsimp only
    rw [hlen, cf (by omega), show 8 + o.length - 8 = o.length by omega, List.take_length]
    have : regsAt r (8 + o.length) = r := by
      rw [Nat.add_comm]
      rfl
    rw [this]
inductive Rep (part : Nat) (s : List UInt8) : TReq → List UInt8 → TAns → Prop
  | read : Rep part s (TReq.mk 1 0 0 0 0 0 32 0 [] [] [] []) (s.drop (rdN part s)) (anR (rdN part s : Int) (s.take (rdN part s)))
  | readfd {fd : Int} (h : (fd != 0) = true) : Rep part s (TReq.mk 1 fd 0 0 0 0 32 0 [] [] [] []) s an0
  | write {fd : Int} {d : List UInt8} (h : d.length ≤ 10000) : Rep part s (TReq.mk 2 fd 0 0 0 0 0 0 [] d [] []) s (anN ((min part d.length : Nat) : Int))
  | opn {n fl : Int} {p : List UInt8} : Rep part s (TReq.mk 3 0 0 0 0 0 n fl p [] [] []) s (anF n)
  | other {q : TReq} (h9 : (q.fOp == 9) = false) (h1 : (q.fOp == 1) = false) (h2 : (q.fOp == 2) = false) (h3 : (q.fOp == 3) = false) : Rep part s q s an0
structure OkE (nm : List UInt8) (args env : List (List UInt8)) (w : Twords) (e : Eg) : Prop where
  nm : e.1.fName = nm
  args : e.1.fArgs = args
  env : e.1.fEnv = env
  w : e.2.1 = w
  r : smR e.2.2.1
  o : smO e.2.2.2
structure Cx where
  nm : List UInt8
  args : List (List UInt8)
  env : List (List UInt8)
  w : Twords
structure Cx.Ok (F : Nat) (C : Cx) : Prop where
  split : util_split F C.nm (sl C.args 1 (C.args.length : Int)) = some C.w
  pos : 0 < C.args.length
  a : okL C.args
  e : okL C.env
abbrev Cx.In (C : Cx) (e : Eg) : Prop := OkE C.nm C.args C.env C.w e
abbrev relines (e : Eg) : Eg := ({ e.1 with fLines := linesO e.2.2.1 e.2.2.2 }, e.2)
inductive Fin (F : Nat) (C : Cx) (part : Nat) : Nat → Nat → List UInt8 → TAns → Eg → Prop
  | go {k j j' : Nat} {s : List UInt8} {a : TAns} {e e1 : Eg} {q0 : TReq} (h : adw F a e = some (q0, false, e1)) (hf : Fin F C part k j s a e1) (hj : j + 1 ≤ j') : Fin F C part k j' s a e
  | exit {k j : Nat} {s : List UInt8} {a : TAns} {e e1 : Eg} {n : Int} (h : adw F a e = some (TReq.mk 9 0 0 0 0 0 n 0 [] [] [] [], true, e1)) (h1 : 0 ≤ n) (h2 : n ≤ 255) (hi : C.In e1) : Fin F C part k j s a e
  | ask {k k' j j' : Nat} {s s' : List UInt8} {a a' : TAns} {e e1 : Eg} {q : TReq} (h : adw F a e = some (q, true, e1)) (hi : C.In e1) (hq : Rep part s q s' a') (hf : Fin F C part k j s' a' (relines e1)) (hj : j ≤ 90) (hk : k + 1 ≤ k') : Fin F C part k' j' s a e
theorem Fin.mono {C : Cx} {part k j : Nat} {s : List UInt8} {a : TAns} {e : Eg} (h : Fin F C part k j s a e) {k' j' : Nat} (hk : k ≤ k') (hj : j ≤ j') : Fin F C part k' j' s a e := by
  induction h generalizing k' j' with
  | go h hf hj' ih => exact .go h (ih hk (Nat.le_refl _)) (by omega)
  | exit h h1 h2 hi => exact .exit h h1 h2 hi
  | ask h hi hq hf hj' hk' ih => exact .ask h hi hq hf hj' (by omega)
noncomputable def sbody (F : Nat) (a : TAns) : (Int × TUtil × Twords × TAinti648 × (List Int) → Option (TUtil × TReq)) → Int × TUtil × Twords × TAinti648 × (List Int) → Option (TUtil × TReq) := fun rc3 x2 =>
 cond (decide (x2.1 < 100))
 ((util_engine_advance F a x2.2.1 x2.2.2.1 x2.2.2.2.1 x2.2.2.2.2).bind fun x4 =>
 cond x4.2.1
 ((util_engine_store F x4.2.2.1 x4.2.2.2.1 x4.2.2.2.2.1 x4.2.2.2.2.2).bind fun x5 =>
 some (x5, x4.1))
 (rc3 (w64 (x2.1 + 1), x4.2.2.1, x4.2.2.2.1, x4.2.2.2.2.1, x4.2.2.2.2.2)))
 ((util_engine_exit F 1 x2.2.1 x2.2.2.1 x2.2.2.2.1 x2.2.2.2.2).bind fun x6 =>
 (util_engine_store F x6.1 x6.2.1 x6.2.2.1 x6.2.2.2).bind fun x7 =>
 some (x7, (TReq.mk 9 0 0 0 0 0 x6.1.fN 0 [] [] [] [])))
theorem stepE {u : TUtil} {a : TAns} {e : Eg} (hl : util_load F u = some (u, e)) : util_Step F u a = loopF (sbody F a) F ((0 : Nat), e) := by
  unfold util_Step
  rw [hl]
  rfl
theorem sb_go {G i : Nat} {a : TAns} {e e1 : Eg} {q0 : TReq} (hi : i < 100) (h : adw F a e = some (q0, false, e1)) : loopF (sbody F a) (G + 1) ((i : Int), e) = loopF (sbody F a) G (((i + 1 : Nat) : Int), e1) := by
  show sbody F a (loopF (sbody F a) G) ((i : Int), e) = _
  unfold sbody
  dsimp only
  rw [ct (by omega), show util_engine_advance F a e.1 e.2.1 e.2.2.1 e.2.2.2 = adw F a e from rfl, h, Option.bind_some]
  dsimp only [cond_false]
  rw [w64_nat (by omega)]
theorem sb_ask (hF : 200 ≤ F) {C : Cx} (hC : Cx.Ok F C) {G i : Nat} {a : TAns} {e e1 : Eg} {q : TReq} (hi : i < 100) (h : adw F a e = some (q, true, e1)) (hI : C.In e1) : loopF (sbody F a) (G + 1) ((i : Int), e) = some ((relines e1).1, q) := by
  show sbody F a (loopF (sbody F a) G) ((i : Int), e) = _
  unfold sbody
  dsimp only
  rw [ct (by omega), show util_engine_advance F a e.1 e.2.1 e.2.2.1 e.2.2.2 = adw F a e from rfl, h, Option.bind_some]
  dsimp only [cond_true]
  rw [store_eqO hF _ _ _ _ hI.r hI.o (by rw [hI.args]; exact hC.a) (by rw [hI.env]; exact hC.e)]
  rfl
theorem loadC (hF : 200 ≤ F) {C : Cx} (hC : Cx.Ok F C) {e : Eg} (hI : C.In e) : util_load F (relines e).1 = some ((relines e).1, relines e) := by
  have h := load_eqO hF (relines e).1 e.2.1 e.2.2.1 e.2.2.2 (by show 0 < e.1.fArgs.length; rw [hI.args]; exact hC.pos) (by show util_split F e.1.fName (sl e.1.fArgs 1 _) = _; rw [hI.args, hI.nm, hI.w]; exact hC.split) hI.r hI.o rfl
  exact h
theorem p_rep {part : Nat} (hp : 1 ≤ part) {s s' : List UInt8} {q : TReq} {a a' : TAns} (hq : Rep part s q s' a') {i : Nat} (hi : i < 12000) {x : Tplayed} (hx : x.fout.length ≤ i * 10000) {u u' : TUtil} (h : util_Step F u a = some (u', q)) {rc : Sp → Option Tplayed} :
    ∃ o, o.length ≤ (i + 1) * 10000 ∧ pbody F (part : Int) rc (s, (i : Int), x, u, a) = rc (s', ((i + 1 : Nat) : Int), { x with fout := o }, u', a') := by
  cases hq with
  | read => exact ⟨x.fout, Nat.le_trans hx (Nat.mul_le_mul_right _ (Nat.le_succ _)), by rw [p_read hi h]⟩
  | readfd hfd => exact ⟨x.fout, Nat.le_trans hx (Nat.mul_le_mul_right _ (Nat.le_succ _)), by rw [p_readfd hi hp hfd h]⟩
  | @write fd d hd =>
    have h5 : (cond (decide ((d.length : Int) < (part : Int))) (some (d.length : Int)) (some (part : Int)) : Option Int) = some ((min part d.length : Nat) : Int) := by
      by_cases hp : (d.length : Int) < (part : Int)
      · rw [ct hp]; congr 1; omega
      · rw [cf hp]; congr 1; omega
    have e0 : ((2 : Int) == 9) = false := rfl
    have e1 : ((2 : Int) == 1) = false := rfl
    have e2 : ((2 : Int) == 2) = true := rfl
    by_cases h1 : fd = 1
    · subst h1
      refine ⟨x.fout ++ d.take (min part d.length), by simp only [List.length_append, List.length_take]; omega, ?_⟩
      unfold pbody
      dsimp only
      rw [ct (by omega), h, Option.bind_some]
      dsimp only
      have e3 : ((1 : Int) == 1) = true := rfl
      simp only [e0, e1, e2, e3, cond_true, cond_false]
      have e4 : sl d 0 ((min part d.length : Nat) : Int) = d.take (min part d.length) := by simp [sl]
      rw [h5, Option.bind_some, rq2 (by omega) (by omega), e4, rq1 (by simp only [List.length_take]; omega), w64_nat (by omega)]
    · refine ⟨x.fout, Nat.le_trans hx (Nat.mul_le_mul_right _ (Nat.le_succ _)), ?_⟩
      unfold pbody
      dsimp only
      rw [ct (by omega), h, Option.bind_some]
      dsimp only
      have e3 : (fd == 1) = false := beq_false_of_ne h1
      simp only [e0, e1, e2, e3, cond_true, cond_false]
      rw [h5, Option.bind_some, w64_nat (by omega)]
  | opn => exact ⟨x.fout, Nat.le_trans hx (Nat.mul_le_mul_right _ (Nat.le_succ _)), by rw [p_open hi h]⟩
  | other h9 h1 h2 h3 =>
    refine ⟨x.fout, Nat.le_trans hx (Nat.mul_le_mul_right _ (Nat.le_succ _)), ?_⟩
    unfold pbody
    dsimp only
    rw [ct (by omega), h, Option.bind_some]
    dsimp only
    rw [h9, h1, h2, h3]
    simp only [cond_false]
    rw [w64_nat (by omega)]
def endsWell (z : Option Tplayed) : Prop := ∃ o n, z = some (Tplayed.mk o n true) ∧ 0 ≤ n ∧ n ≤ 255
theorem fin_play (hF : 12000 ≤ F) {C : Cx} (hC : Cx.Ok F C) {part : Nat} (hp : 1 ≤ part) {k j : Nat} {s : List UInt8} {a : TAns} {e : Eg} (h : Fin F C part k j s a e) :
    ∀ (i G m Gs : Nat) (u : TUtil) (o : List UInt8), i + k ≤ 11990 → k + 1 ≤ G → m + j < 100 → j < Gs → o.length ≤ i * 10000 → util_Step F u a = loopF (sbody F a) Gs ((m : Int), e) →
      endsWell (pbody F (part : Int) (loopF (pbody F (part : Int)) G) (s, (i : Int), Tplayed.mk o 0 false, u, a)) := by
  induction h with
  | @go k j j' s a e e1 q0 h hf hj ih =>
    intro i G m Gs u o hi hG hm hGs ho hst
    obtain ⟨Gs, rfl⟩ : ∃ g, Gs = g + 1 := ⟨Gs - 1, by omega⟩
    rw [sb_go (by omega) h] at hst
    exact ih i G (m + 1) Gs u o hi hG (by omega) (by omega) ho hst
  | @exit k j s a e e1 n h h1 h2 hI =>
    intro i G m Gs u o hi hG hm hGs ho hst
    obtain ⟨Gs, rfl⟩ : ∃ g, Gs = g + 1 := ⟨Gs - 1, by omega⟩
    rw [sb_ask (by omega) hC (by omega) h hI] at hst
    exact ⟨o, n, p_exit (by omega) hst, h1, h2⟩
  | @ask k k' j j' s s' a a' e e1 q h hI hq hf hj hk ih =>
    intro i G m Gs u o hi hG hm hGs ho hst
    obtain ⟨Gs, rfl⟩ : ∃ g, Gs = g + 1 := ⟨Gs - 1, by omega⟩
    rw [sb_ask (by omega) hC (by omega) h hI] at hst
    obtain ⟨o', ho', hpb⟩ := p_rep hp hq (by omega) (x := Tplayed.mk o 0 false) ho hst (rc := loopF (pbody F (part : Int)) G)
    rw [hpb]
    obtain ⟨G, rfl⟩ : ∃ g, G = g + 1 := ⟨G - 1, by omega⟩
    exact ih (i + 1) G 0 F (relines e1).1 o' (by omega) (by omega) (by omega) (by omega) ho' (stepE (loadC (by omega) hC hI))
theorem fin_all (hF : 12000 ≤ F) {C : Cx} (hC : Cx.Ok F C) {part : Nat} (hp : 1 ≤ part) {k j : Nat} {s : List UInt8} {u : TUtil} {a1 : List (List UInt8)} (hs : util_Start F C.args a1 = some (u, true)) (hu : C.In (u, C.w, (0, (0, (0, (0, (0, (0, (0, (0, ())))))))), [])) (hl : u.fLines = [])
    (h : Fin F C part k j s an0 (u, C.w, (0, (0, (0, (0, (0, (0, (0, (0, ())))))))), [])) (hk : k ≤ 11980) (hj : j ≤ 90) : endsWell (law31_play F C.args a1 s (part : Int)) := by
  obtain ⟨G, rfl⟩ : ∃ G, F = G + 1 := ⟨F - 1, by omega⟩
  rw [play_eq (G + 1) _ _ _ _ _ hs]
  refine fin_play (by omega) hC hp h 0 G 0 (G + 1) u [] (by omega) (by omega) (by omega) (by omega) (by simp) (stepE ?_)
  exact load_first (G + 1) u C.w (by omega) (by rw [hu.args]; exact hC.pos) (by rw [hu.args, hu.nm]; exact hC.split) hl
end
end Go.Proofs.YteagcbkkonabbaaGreatDoor
