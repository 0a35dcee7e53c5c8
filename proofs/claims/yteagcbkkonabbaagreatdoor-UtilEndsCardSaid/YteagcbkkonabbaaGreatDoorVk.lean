import Derived.Test.YteagcbkkonabbaaGreatDoorVj
import Derived.Test.YteagcbkkonabbaaGreatDoorAw
namespace Go.Proofs.YteagcbkkonabbaaGreatDoor
open Go.RT
set_option linter.all false
set_option maxRecDepth 100000
abbrev nmTouch : List UInt8 := [116, 111, 117, 99, 104]
abbrev nmRm : List UInt8 := [114, 109]
abbrev nmMkdir : List UInt8 := [109, 107, 100, 105, 114]
abbrev nmRmdir : List UInt8 := [114, 109, 100, 105, 114]
abbrev nmLs : List UInt8 := [108, 115]
abbrev nmKill : List UInt8 := [107, 105, 108, 108]
abbrev nmMv : List UInt8 := [109, 118]
def Itm (C : Cx) (l : List (List UInt8)) : Prop := ∀ (u : TUtil) (r : TAinti648) (o : List Int), u.fName = C.nm → util_engine_items KB u C.w r o = some l
section
variable {C : Cx} {part k j : Nat} {s : List UInt8} {n : Int} {buf d : List UInt8} {ls : List (List UInt8)} {r : Rg} {o : List Int} {a : TAns} {ops l : List (List UInt8)} {nm : List UInt8}
abbrev nx1 (r : Rg) : Rg := { r with it := r.it + 1 }
theorem nx1_eq (h : r.it < 100) : w64 ((rv r).2.2.2.1 + 1) = ((r.it + 1 : Nat) : Int) := by
  show w64 ((r.it : Int) + 1) = _
  exact w64s (by omega)
def Done (C : Cx) (part k : Nat) (s : List UInt8) (r : Rg) : Prop := ∀ (a : TAns) (ls : List (List UInt8)) (af fd sta : Nat), af < 1000 → fd < 1000 → sta ≤ 1 → Fin KB C part k 5 s a (eg C 19 0 [] [] ls { r with it := r.it + 1, af := af, fd := fd, sta := sta } [])
def Step1 (C : Cx) (part : Nat) (l : List (List UInt8)) (s : List UInt8) : Prop := ∀ (k : Nat) (r : Rg) (a : TAns) (ls : List (List UInt8)) (p : List UInt8), r.it < l.length → l.length ≤ 20 → r.Ok → util_element KB l (r.it : Int) = some p → NW p → Done C part k s r → Fin KB C part (k + 110) 5 s a (eg C 19 0 [] [] ls r [])
theorem fin_items (hI : Itm C l) (hl : l.length ≤ 20) (hw : NWL l) (hs : Step1 C part l s) : ∀ (m : Nat) (r : Rg), l.length - r.it = m → r.Ok → ∀ (a : TAns) (ls : List (List UInt8)), Fin KB C part (110 * m) 5 s a (eg C 19 0 [] [] ls r []) := by
  intro m
  induction m with
  | zero =>
    intro r h hr a ls
    obtain ⟨p, hp⟩ := el_ex l r.it
    exact Fin.go (j := 2) (q0 := rq0) (e1 := eg C 3 0 [] [] ls r []) (h19end (u := zu C 19 0 [] ls) (r := rv r) rfl (hI _ _ _ rfl) hp (by show (l.length : Int) ≤ (r.it : Int); omega)) (fin3 hr so0 (by omega)) (by omega)
  | succ m ih =>
    intro r h hr a ls
    have hlt : r.it < l.length := by omega
    refine (hs (110 * m) r a ls _ hlt hl hr (el_in hlt KB) (hw.getD _) fun a ls af fd sta h1 h2 h3 => ?_).mono (by omega) (Nat.le_refl _)
    exact ih { r with it := r.it + 1, af := af, fd := fd, sta := sta } (by show l.length - (r.it + 1) = m; omega) ⟨h1, h2, h3, by show r.it + 1 < 1000; omega, hr.inn, hr.nx, hr.lf, hr.sp⟩ a ls
theorem fin_problem (hp : 1 ≤ part) (hnm : C.nm.length ≤ 30) (hr : r.Ok) (hit : r.it < 100) {p : List UInt8} (hpl : NW p) (e : Int) {st : Int} (hk : Done C part k s r) :
    ∃ z : Eg, util_engine_problem KB p e (zu C st 0 [] ls) C.w (rv r) [] = some (rq0, false, z) ∧ Fin KB C part (k + 102) 1 s a z := by
  have hpl' := hpl.len
  obtain ⟨m, ⟨hm, hmn⟩, h⟩ := fail_ok (F := KB) (C := C) (st := st) (n := 0) (buf := []) (ls := ls) (r := nx1 r) (o := []) e hnm (p := p) (by omega) (after := 19)
  refine ⟨wrE C 2 m 19 0 [] ls { nx1 r with sta := 1 } [], ?_, ?_⟩
  · unfold util_engine_problem
    rw [nx1_eq hit]
    have h' : util_engine_fail KB p e 19 (zu C st 0 [] ls) C.w ((rv r).1, ((rv r).2.1, ((rv r).2.2.1, (((r.it + 1 : Nat) : Int), (rv r).2.2.2.2)))) [] = some (wrE C 2 m 19 0 [] ls { nx1 r with sta := 1 } []) := h _ rfl
    rw [h']
    rfl
  · have hr2 : Rg.Ok { nx1 r with sta := 1 } := ⟨hr.af, hr.fd, by show 1 ≤ 1; omega, by show r.it + 1 < 1000; omega, hr.inn, hr.nx, hr.lf, hr.sp⟩
    exact (fin_wr1 (k := k) (j := 5) hp hr2 so0 (by decide) (by decide) (by omega) hmn (by omega) fun a ls af fd h1 h2 => hk a ls af fd 1 h1 h2 (by omega)).mono (by omega) (Nat.le_refl _)
theorem itm_std (h1 : (nm == nmKill) = false) (h2 : (nm == nmLs) = false) : Itm (cx nm ops) ops := fun u r o hu => by
  unfold util_engine_items
  rw [hu, show (cx nm ops).nm = nm from rfl, h1, h2]
  rfl
theorem itm_ls : Itm (cx nmLs ops) (cond ops.isEmpty [[46]] ops) := fun u r o hu => by
  unfold util_engine_items
  rw [hu]
  show cond ((ops.length : Int) == 0) _ _ = _
  cases ops with
  | nil => rfl
  | cons p l =>
    have e : (((p :: l).length : Int) == 0) = false := beq_false_of_ne (by rw [List.length_cons]; omega)
    rw [e]
    rfl
theorem targets_eq (hn : NWL ops) (u : TUtil) (r : TAinti648) (o : List Int) : util_engine_targets KB u (Twords.mk ops [] 10 false) r o = some (ops, 15) := by
  unfold util_engine_targets
  have e1 : (cond (decide (1 < ((Twords.mk ops [] 10 false).foperands.length : Int))) (rq (decide (0 < ((Twords.mk ops [] 10 false).foperands.length : Int))) ((strings_HasPrefix KB ((Twords.mk ops [] 10 false).foperands.getD 0 []) ([45] : List UInt8)).bind fun x2 => some x2)) (some false) : Option Bool) = some false := by
    show (cond (decide (1 < (ops.length : Int))) (rq (decide (0 < (ops.length : Int))) ((strings_HasPrefix KB (ops.getD 0 []) ([45] : List UInt8)).bind fun x2 => some x2)) (some false) : Option Bool) = some false
    by_cases h : (1 : Int) < (ops.length : Int)
    · rw [ct h, rq1 (by omega), hasPre_nw (t := []) (hn.getD 0)]; rfl
    · rw [cf h]
  rw [e1]
  rfl
theorem itm_kill (hn : NWL ops) : Itm (cx nmKill ops) ops := fun u r o hu => by
  unfold util_engine_items
  rw [hu]
  show ((util_engine_targets KB u (Twords.mk ops [] 10 false) r o).bind fun x1 => some x1.1) = _
  rw [targets_eq hn]
  rfl
theorem fin22 (hI : Itm C l) (hr : r.Ok) (hit : r.it < 100) (hk : Done C part k s r) : Fin KB C part k 6 s a (eg C 22 0 [] [] ls r []) := by
  obtain ⟨p, hp⟩ := el_ex l r.it
  have h := h22 (u := zu C 22 0 [] ls) (w := C.w) (r := rv r) (o := []) (a := a) rfl (hI _ _ _ rfl) hp
  rw [nx1_eq hit] at h
  exact Fin.go (j := 5) (q0 := rq0) (e1 := eg C 19 0 [] [] ls (nx1 r) []) h (hk a ls r.af r.fd r.sta hr.af hr.fd hr.sta) (by omega)
theorem fin21 (hI : Itm C l) (hr : r.Ok) (hit : r.it < 100) (he : a.fErr = 0) (hk : Done C part k s r) : Fin KB C part k 6 s a (eg C 21 0 [] [] ls r []) := by
  obtain ⟨p, hp⟩ := el_ex l r.it
  have h := h21 (u := zu C 21 0 [] ls) (w := C.w) (r := rv r) (o := []) (a := a) rfl he (hI _ _ _ rfl) hp
  rw [nx1_eq hit] at h
  exact Fin.go (j := 5) (q0 := rq0) (e1 := eg C 19 0 [] [] ls (nx1 r) []) h (hk a ls r.af r.fd r.sta hr.af hr.fd hr.sta) (by omega)
theorem st_touch : Step1 (cx nmTouch ops) part ops s := fun k r a ls p hlt hl hr he hw hk => by
  have hI : Itm (cx nmTouch ops) ops := itm_std rfl rfl
  refine Fin.ask (k := k + 1) (j := 8) (h19 (u := zu (cx nmTouch ops) 19 0 [] ls) (r := rv r) (z := (TReq.mk 3 0 0 0 0 0 3 10 p [] [] [], true, eg (cx nmTouch ops) 20 0 [] [] ls r [])) rfl (hI _ _ _ rfl) he (by show (r.it : Int) < _; omega) rfl) (inE hr so0) .opn ?_ (by omega) (by omega)
  refine Fin.ask (k := k) (j := 8) (h20 (u := zu (cx nmTouch ops) 20 0 [] (linesO (rv r) [])) (r := rv r) (a := anF 3) (z := (TReq.mk 4 3 0 0 0 0 0 0 [] [] [] [], true, eg (cx nmTouch ops) 22 0 [] [] (linesO (rv r) []) r [])) rfl (hI _ _ _ rfl) he rfl) (inE hr so0) (.other rfl rfl rfl rfl) ?_ (by omega) (by omega)
  exact (fin22 hI hr (by omega) hk).mono (Nat.le_refl _) (by omega)
theorem st_mkdir : Step1 (cx nmMkdir ops) part ops s := fun k r a ls p hlt hl hr he hw hk => by
  have hI : Itm (cx nmMkdir ops) ops := itm_std rfl rfl
  refine Fin.ask (k := k) (j := 8) (h19 (u := zu (cx nmMkdir ops) 19 0 [] ls) (r := rv r) (z := (TReq.mk 17 0 0 0 0 0 0 0 p [] [] [], true, eg (cx nmMkdir ops) 21 0 [] [] ls r [])) rfl (hI _ _ _ rfl) he (by show (r.it : Int) < _; omega) rfl) (inE hr so0) (.other rfl rfl rfl rfl) ?_ (by omega) (by omega)
  exact (fin21 hI hr (by omega) rfl hk).mono (Nat.le_refl _) (by omega)
theorem st_rm : Step1 (cx nmRm ops) part ops s := fun k r a ls p hlt hl hr he hw hk => by
  have hI : Itm (cx nmRm ops) ops := itm_std rfl rfl
  refine Fin.ask (k := k + 1) (j := 8) (h19 (u := zu (cx nmRm ops) 19 0 [] ls) (r := rv r) (z := (TReq.mk 21 0 0 0 0 0 0 0 p [] [] [], true, eg (cx nmRm ops) 20 0 [] [] ls r [])) rfl (hI _ _ _ rfl) he (by show (r.it : Int) < _; omega) rfl) (inE hr so0) (.other rfl rfl rfl rfl) ?_ (by omega) (by omega)
  refine Fin.ask (k := k) (j := 8) (h20 (u := zu (cx nmRm ops) 20 0 [] (linesO (rv r) [])) (r := rv r) (a := an0) (z := (TReq.mk 18 0 0 0 0 0 0 0 p [] [] [], true, eg (cx nmRm ops) 21 0 [] [] (linesO (rv r) []) r [])) rfl (hI _ _ _ rfl) he rfl) (inE hr so0) (.other rfl rfl rfl rfl) ?_ (by omega) (by omega)
  exact (fin21 hI hr (by omega) rfl hk).mono (Nat.le_refl _) (by omega)
theorem st_rmdir (hp : 1 ≤ part) : Step1 (cx nmRmdir ops) part ops s := fun k r a ls p hlt hl hr he hw hk => by
  have hI : Itm (cx nmRmdir ops) ops := itm_std rfl rfl
  refine Fin.ask (k := k + 102) (j := 8) (h19 (u := zu (cx nmRmdir ops) 19 0 [] ls) (r := rv r) (z := (TReq.mk 21 0 0 0 0 0 0 0 p [] [] [], true, eg (cx nmRmdir ops) 20 0 [] [] ls r [])) rfl (hI _ _ _ rfl) he (by show (r.it : Int) < _; omega) rfl) (inE hr so0) (.other rfl rfl rfl rfl) ?_ (by omega) (by omega)
  obtain ⟨z, h1, h2⟩ := fin_problem (C := cx nmRmdir ops) (ls := linesO (rv r) []) (a := an0) (st := 20) hp (by show nmRmdir.length ≤ 30; decide) hr (by omega) hw 18 hk
  have hz : util_engine_second KB p an0 (zu (cx nmRmdir ops) 20 0 [] (linesO (rv r) [])) (cx nmRmdir ops).w (rv r) [] = some (rq0, false, z) := by
    have e : util_engine_second KB p an0 (zu (cx nmRmdir ops) 20 0 [] (linesO (rv r) [])) (cx nmRmdir ops).w (rv r) [] = (util_engine_problem KB p 18 (zu (cx nmRmdir ops) 20 0 [] (linesO (rv r) [])) (cx nmRmdir ops).w (rv r) []).bind fun x8 => some (x8.1, x8.2.1, x8.2.2.1, x8.2.2.2.1, x8.2.2.2.2.1, x8.2.2.2.2.2) := rfl
    rw [e, h1]
    rfl
  exact Fin.go (j := 5) (h20 (u := zu (cx nmRmdir ops) 20 0 [] (linesO (rv r) [])) (r := rv r) (a := an0) rfl (hI _ _ _ rfl) he hz) (h2.mono (Nat.le_refl _) (by omega)) (by omega)
theorem st_kill (hn : NWL ops) (hp : 1 ≤ part) : Step1 (cx nmKill ops) part ops s := fun k r a ls p hlt hl hr he hw hk => by
  have hI : Itm (cx nmKill ops) ops := itm_kill hn
  have e : util_engine_first KB p (zu (cx nmKill ops) 19 0 [] ls) (cx nmKill ops).w (rv r) [] = (util_engine_targets KB (zu (cx nmKill ops) 19 0 [] ls) (Twords.mk ops [] 10 false) (rv r) []).bind fun x4 => (util_integer KB p).bind fun x5 => cond (!x5.2) ((util_engine_problem KB p 1 (zu (cx nmKill ops) 19 0 [] ls) (cx nmKill ops).w (rv r) []).bind fun x6 => some (x6.1, x6.2.1, x6.2.2.1, x6.2.2.2.1, x6.2.2.2.2.1, x6.2.2.2.2.2)) ((util_engine_ask KB 21 (TReq.mk 11 0 0 x5.1 0 x4.2 0 0 [] [] [] []) (zu (cx nmKill ops) 19 0 [] ls) (cx nmKill ops).w (rv r) []).bind fun x7 => some (x7.1, x7.2.1, x7.2.2.1, x7.2.2.2.1, x7.2.2.2.2.1, x7.2.2.2.2.2)) := rfl
  rw [targets_eq hn, Option.bind_some, integer_nw hw, Option.bind_some] at e
  cases hz : (p == ([48] : List UInt8)) with
  | true =>
    rw [hz] at e
    refine Fin.ask (k := k) (j := 8) (h19 (u := zu (cx nmKill ops) 19 0 [] ls) (r := rv r) (z := (TReq.mk 11 0 0 0 0 15 0 0 [] [] [] [], true, eg (cx nmKill ops) 21 0 [] [] ls r [])) rfl (hI _ _ _ rfl) he (by show (r.it : Int) < _; omega) e) (inE hr so0) (.other rfl rfl rfl rfl) ?_ (by omega) (by omega)
    exact (fin21 hI hr (by omega) rfl hk).mono (Nat.le_refl _) (by omega)
  | false =>
    rw [hz] at e
    obtain ⟨z, h1, h2⟩ := fin_problem (C := cx nmKill ops) (ls := ls) (a := a) (st := 19) hp (by show nmKill.length ≤ 30; decide) hr (by omega) hw 1 hk
    rw [show (!false) = true from rfl, cond_true, h1] at e
    exact Fin.go (j := 1) (h19 (u := zu (cx nmKill ops) 19 0 [] ls) (w := (cx nmKill ops).w) (r := rv r) (o := []) (a := a) (z := (rq0, false, z)) rfl (hI _ _ _ rfl) he (by show (r.it : Int) < _; omega) e) (h2.mono (by omega) (Nat.le_refl _)) (by omega)
theorem st_ls {l : List (List UInt8)} (hI : Itm (cx nmLs ops) l) (hp : 1 ≤ part) : Step1 (cx nmLs ops) part l s := fun k r a ls p hlt hl hr he hw hk => by
  refine Fin.ask (k := k) (j := 8) (h19 (u := zu (cx nmLs ops) 19 0 [] ls) (r := rv r) (z := (TReq.mk 20 0 0 0 0 0 0 0 p [] [] [], true, eg (cx nmLs ops) 20 0 [] [] ls r [])) rfl (hI _ _ _ rfl) he (by show (r.it : Int) < _; omega) rfl) (inE hr so0) (.other rfl rfl rfl rfl) ?_ (by omega) (by omega)
  have hz : util_engine_second KB p an0 (zu (cx nmLs ops) 20 0 [] (linesO (rv r) [])) (cx nmLs ops).w (rv r) [] = some (rq0, false, eg (cx nmLs ops) 19 0 [] [] (linesO (rv r) []) (nx1 r) []) := by
    have e : util_engine_second KB p an0 (zu (cx nmLs ops) 20 0 [] (linesO (rv r) [])) (cx nmLs ops).w (rv r) [] = (util_joined KB []).bind fun x6 => (util_engine_write KB 1 x6 19 (zu (cx nmLs ops) 20 0 [] (linesO (rv r) [])) (cx nmLs ops).w ((rv r).1, ((rv r).2.1, ((rv r).2.2.1, (w64 ((rv r).2.2.2.1 + 1), (rv r).2.2.2.2)))) []).bind fun x7 => some (rq0, false, x7.1, x7.2.1, x7.2.2.1, x7.2.2.2) := rfl
    have hj : util_joined KB [] = some [] := by kernel_rfl
    rw [e, hj, nx1_eq (by omega)]
    rfl
  exact Fin.go (j := 5) (h20 (u := zu (cx nmLs ops) 20 0 [] (linesO (rv r) [])) (r := rv r) (a := an0) rfl (hI _ _ _ rfl) he hz) (hk _ _ r.af r.fd r.sta hr.af hr.fd hr.sta) (by omega)
theorem ends_items {l : List (List UInt8)} {ft : Option Bool} {b : Bool} (hnm : nm.length ≤ 30) (e : util_engine_begin KB (zu (cx nm ops) 0 0 [] []) (cx nm ops).w (rv r0) [] = (ft.bind fun x2 => some (!x2)).bind fun x1 => cond x1 ((util_engine_usage KB (zu (cx nm ops) 0 0 [] []) (cx nm ops).w (rv r0) []).bind fun x3 => some (rq0, false, x3.1, x3.2.1, x3.2.2.1, x3.2.2.2)) (some (rq0, false, eg (cx nm ops) 19 0 [] [] [] r0 [])))
    (hb : ft = some b) (hI : Itm (cx nm ops) l) (hl : l.length ≤ 20) (hw : NWL l) (hs : ∀ part s, 1 ≤ part → Step1 (cx nm ops) part l s) : Ends nm ops := by
  refine ends_of hnm e ⟨b, hb, fun _ => ⟨_, rfl, fun part s hp hs' => goes_go (j := 5) ?_ (by omega)⟩⟩
  exact (fin_items hI hl hw (hs part s hp) _ r0 rfl r0_ok _ _).mono (by show 110 * (l.length - 0) ≤ 10900; omega) (Nat.le_refl _)
theorem ends_touch (hn : NWL ops) (hl : ops.length ≤ 19) : Ends nmTouch ops := ends_items (ft := some (decide (0 < (ops.length : Int)))) (by decide) rfl rfl (itm_std rfl rfl) (by omega) hn fun part s hp => st_touch
theorem ends_mkdir (hn : NWL ops) (hl : ops.length ≤ 19) : Ends nmMkdir ops := ends_items (ft := some (decide (0 < (ops.length : Int)))) (by decide) rfl rfl (itm_std rfl rfl) (by omega) hn fun part s hp => st_mkdir
theorem ends_rmdir (hn : NWL ops) (hl : ops.length ≤ 19) : Ends nmRmdir ops := ends_items (ft := some (decide (0 < (ops.length : Int)))) (by decide) rfl rfl (itm_std rfl rfl) (by omega) hn fun part s hp => st_rmdir hp
theorem ends_kill (hn : NWL ops) (hl : ops.length ≤ 19) : Ends nmKill ops := ends_items (ft := some (decide (0 < (ops.length : Int)))) (by decide) rfl rfl (itm_kill hn) (by omega) hn fun part s hp => st_kill hn hp
theorem nw_dot : NW [46] := ⟨by decide, fun b t h => by cases h; decide⟩
theorem ends_ls (hn : NWL ops) (hl : ops.length ≤ 19) : Ends nmLs ops := by
  refine ends_items (ft := some true) (by decide) rfl rfl itm_ls ?_ ?_ fun part s hp => st_ls itm_ls hp
  · cases ops with
    | nil => show 1 ≤ 20; omega
    | cons p l => show (p :: l).length ≤ 20; omega
  · cases ops with
    | nil => intro p hp; rw [List.mem_singleton.1 hp]; exact nw_dot
    | cons p l => exact hn
theorem rm_fits : ((cond (decide (0 < (ops.length : Int))) (some true) ((util_words_has KB (Twords.mk ops [] 10 false) 102).bind fun x13 => some x13) : Option Bool).bind fun x12 => some x12) = some (decide (0 < (ops.length : Int))) := by
  rw [has_nil]
  cases decide (0 < (ops.length : Int)) <;> rfl
theorem ends_rm (hn : NWL ops) (hl : ops.length ≤ 19) : Ends nmRm ops := ends_items (ft := (cond (decide (0 < (ops.length : Int))) (some true) ((util_words_has KB (Twords.mk ops [] 10 false) 102).bind fun x13 => some x13) : Option Bool).bind fun x12 => some x12) (by decide) rfl rm_fits (itm_std rfl rfl) (by omega) hn fun part s hp => st_rm
theorem adv23mv {u : TUtil} {r : TAinti648} {p q : List UInt8} (h : u.fState = 23) (hnm : u.fName = nmMv) (hp : util_element KB ops 0 = some p) (hq : util_element KB ops 1 = some q) (hd : a.fDir = false) : adw KB a (u, Twords.mk ops [] 10 false, r, o) = some (TReq.mk 19 0 0 0 0 0 0 0 p q [] [], true, { u with fState := 24, fBuf := q }, Twords.mk ops [] 10 false, r, o) := by
  unfold adw util_engine_advance util_engine_transfer
  have e1 : (cond (a.fErr == 0) (some a.fDir) (some false) : Option Bool) = some false := by rw [hd]; cases (a.fErr == 0) <;> rfl
  simp only [h, hp, hq, Option.bind_some, e1, hnm]
  rfl
theorem adv24 {u : TUtil} {r : TAinti648} {p q : List UInt8} (h : u.fState = 24) (he : a.fErr = 0) (hp : util_element KB ops 0 = some p) (hq : util_element KB ops 1 = some q) : adw KB a (u, Twords.mk ops [] 10 false, r, o) = some (rq0, false, { u with fState := 3 }, Twords.mk ops [] 10 false, r, o) := by
  unfold adw util_engine_advance util_engine_transfer util_engine_result
  simp only [h, hp, hq, he, Option.bind_some]
  rfl
theorem adv25 {u : TUtil} {r : TAinti648} {p q : List UInt8} (h : u.fState = 25) (he : a.fErr = 0) (hp : util_element KB ops 0 = some p) (hq : util_element KB ops 1 = some q) : adw KB a (u, Twords.mk ops [] 10 false, r, o) = some (TReq.mk 21 0 0 0 0 0 0 0 q [] [] [], true, { u with fState := 23 }, Twords.mk ops [] 10 false, (r.1, (r.2.1, (r.2.2.1, (r.2.2.2.1, (a.fFd, r.2.2.2.2.2))))), o) := by
  unfold adw util_engine_advance util_engine_transfer
  simp only [h, hp, hq, he, Option.bind_some]
  rfl
theorem adv23cp {u : TUtil} {r : TAinti648} {p q : List UInt8} (h : u.fState = 23) (hnm : u.fName = nmCp) (hp : util_element KB ops 0 = some p) (hq : util_element KB ops 1 = some q) (hd : a.fDir = false) : adw KB a (u, Twords.mk ops [] 10 false, r, o) = some (TReq.mk 3 0 0 0 0 0 3 26 q [] [] [], true, { u with fState := 26, fBuf := q }, Twords.mk ops [] 10 false, r, o) := by
  unfold adw util_engine_advance util_engine_transfer
  have e1 : (cond (a.fErr == 0) (some a.fDir) (some false) : Option Bool) = some false := by rw [hd]; cases (a.fErr == 0) <;> rfl
  simp only [h, hp, hq, Option.bind_some, e1, hnm]
  rfl
theorem adv26 {u : TUtil} {r : TAinti648} {p q : List UInt8} (h : u.fState = 26) (he : a.fErr = 0) (hp : util_element KB ops 0 = some p) (hq : util_element KB ops 1 = some q) : adw KB a (u, Twords.mk ops [] 10 false, r, o) = some (rq0, false, { u with fState := 12 }, Twords.mk ops [] 10 false, (r.1, (r.2.1, (r.2.2.1, (r.2.2.2.1, (r.2.2.2.2.1, (a.fFd, r.2.2.2.2.2.2)))))), o) := by
  unfold adw util_engine_advance util_engine_transfer
  simp only [h, hp, hq, he, Option.bind_some]
  rfl
theorem adv13cp {u : TUtil} {w : Twords} {r : TAinti648} {inp : List (List UInt8)} {p : List UInt8} (h : u.fState = 13) (he : a.fErr = 0) (hd : a.fData = []) (hn : u.fName = nmCp) (hi : util_engine_inputs KB u w r o = some inp) (hp : util_element KB inp r.2.2.2.1 = some p) :
    adw KB a (u, w, r, o) = some (rq0, false, { u with fState := 28 }, w, r, o) := by
  unfold adw util_engine_advance util_engine_stream util_engine_got
  simp only [h, hi, hp, he, hd, hn, Option.bind_some]
  rfl
theorem adv28 {u : TUtil} {r : TAinti648} {p q : List UInt8} (h : u.fState = 28) (hsp : r.2.2.2.2.2.2.2.1 = 0) (hp : util_element KB ops 0 = some p) (hq : util_element KB ops 1 = some q) : adw KB a (u, Twords.mk ops [] 10 false, r, o) = some (TReq.mk 4 r.2.2.2.2.1 0 0 0 0 0 0 [] [] [] [], true, { u with fState := 29 }, Twords.mk ops [] 10 false, r, o) := by
  unfold adw util_engine_advance util_engine_transfer
  simp only [h, hp, hq, hsp, Option.bind_some]
  rfl
theorem adv29 {u : TUtil} {r : TAinti648} {p q : List UInt8} (h : u.fState = 29) (hp : util_element KB ops 0 = some p) (hq : util_element KB ops 1 = some q) : adw KB a (u, Twords.mk ops [] 10 false, r, o) = some (TReq.mk 4 r.2.2.2.2.2.1 0 0 0 0 0 0 [] [] [] [], true, { u with fState := 3 }, Twords.mk ops [] 10 false, r, o) := by
  unfold adw util_engine_advance util_engine_transfer
  simp only [h, hp, hq, Option.bind_some]
  rfl
theorem two_ops (h : ((ops.length : Int) == 2) = true) : ∃ p q, ops = [p, q] := by
  rw [beq_iff_eq] at h
  match ops, h with
  | [p, q], _ => exact ⟨p, q, rfl⟩
  | [], h => simp at h
  | [_], h => simp at h
  | _ :: _ :: _ :: t, h => simp only [List.length_cons] at h; omega
theorem ends_mv (hn : NWL ops) (hl : ops.length ≤ 19) : Ends nmMv ops := by
  refine ends_of (ft := some ((ops.length : Int) == 2)) (br := (util_engine_start KB (zu (cx nmMv ops) 0 0 [] []) (cx nmMv ops).w (rv r0) []).bind fun x19 => some (x19.1, x19.2.1, x19.2.2.1, x19.2.2.2.1, x19.2.2.2.2.1, x19.2.2.2.2.2)) (by decide) rfl ⟨_, rfl, fun h => ?_⟩
  obtain ⟨p, q, rfl⟩ := two_ops h
  have h1 : util_element KB [p, q] 0 = some p := rfl
  have h2 : util_element KB [p, q] 1 = some q := rfl
  refine ⟨(TReq.mk 21 0 0 0 0 0 0 0 q [] [] [], true, eg (cx nmMv [p, q]) 23 0 [] [] [] r0 []), rfl, fun part s hp hs => ?_⟩
  refine (goes_ask (k := 10) (j := 8) (j' := 40) (inE r0_ok so0) (.other rfl rfl rfl rfl) ?_ (by omega)).mono (by omega) (by omega)
  refine Fin.ask (k := 5) (j := 8) (adv23mv (u := zu (cx nmMv [p, q]) 23 0 [] (linesO (rv r0) [])) (a := an0) rfl rfl h1 h2 rfl) (inE (st := 24) (n := 0) (buf := q) (out := []) (ls := linesO (rv r0) []) r0_ok so0) (.other rfl rfl rfl rfl) ?_ (by omega) (by omega)
  exact Fin.go (j := 5) (q0 := rq0) (e1 := eg (cx nmMv [p, q]) 3 0 q [] (linesO (rv r0) []) r0 []) (adv24 (u := zu (cx nmMv [p, q]) 24 0 q (linesO (rv r0) [])) (a := an0) rfl rfl h1 h2) (fin3 r0_ok so0 (by omega)) (by omega)
theorem ends_cp (hn : NWL ops) (hl : ops.length ≤ 19) : Ends nmCp ops := by
  refine ends_of (ft := some ((ops.length : Int) == 2)) (br := (util_engine_start KB (zu (cx nmCp ops) 0 0 [] []) (cx nmCp ops).w (rv r0) []).bind fun x19 => some (x19.1, x19.2.1, x19.2.2.1, x19.2.2.2.1, x19.2.2.2.2.1, x19.2.2.2.2.2)) (by decide) rfl ⟨_, rfl, fun h => ?_⟩
  obtain ⟨p, q, rfl⟩ := two_ops h
  have h1 : util_element KB [p, q] 0 = some p := rfl
  have h2 : util_element KB [p, q] 1 = some q := rfl
  have hI : Inp (cx nmCp [p, q]) [p, q] := inp_std (ops := [p, q]) rfl rfl
  let L : List (List UInt8) := linesO (rv r0) []
  let r1 : Rg := { r0 with inn := 3 }
  let r2 : Rg := { r0 with inn := 3, nx := 3 }
  have hr1 : r1.Ok := ⟨by decide, by decide, by decide, by decide, by decide, by decide, by decide, by decide⟩
  have hr2 : r2.Ok := ⟨by decide, by decide, by decide, by decide, by decide, by decide, by decide, by decide⟩
  refine ⟨(TReq.mk 3 0 0 0 0 0 3 1 p [] [] [], true, eg (cx nmCp [p, q]) 25 0 [] [] [] r0 []), rfl, fun part s hp hs => ?_⟩
  refine (goes_ask (k := 50) (j := 8) (j' := 40) (inE r0_ok so0) .opn ?_ (by omega)).mono (by omega) (by omega)
  refine Fin.ask (k := 40) (j := 8) (adv25 (u := zu (cx nmCp [p, q]) 25 0 [] (linesO (rv r0) [])) (r := rv r0) (a := anF 3) rfl rfl h1 h2) (inE (st := 23) (n := 0) (buf := []) (out := []) (ls := linesO (rv r0) []) hr1 so0) (.other rfl rfl rfl rfl) ?_ (by omega) (by omega)
  refine Fin.ask (k := 30) (j := 8) (adv23cp (u := zu (cx nmCp [p, q]) 23 0 [] (linesO (rv r1) [])) (r := rv r1) (a := an0) rfl rfl h1 h2 rfl) (inE (st := 26) (n := 0) (buf := q) (out := []) (ls := linesO (rv r1) []) hr1 so0) .opn ?_ (by omega) (by omega)
  refine Fin.go (j := 5) (q0 := rq0) (e1 := eg (cx nmCp [p, q]) 12 0 q [] (linesO (rv r1) []) r2 []) (adv26 (u := zu (cx nmCp [p, q]) 26 0 q (linesO (rv r1) [])) (r := rv r1) (a := anF 3) rfl rfl h1 h2) ?_ (by omega)
  refine Fin.ask (k := 20) (j := 8) (g12 (u := zu (cx nmCp [p, q]) 12 0 q (linesO (rv r1) [])) (r := rv r2) rfl (hI _ _ _ rfl) h1) (inE (st := 13) (n := 0) (buf := q) (out := []) (ls := linesO (rv r1) []) hr2 so0) (.readfd rfl) ?_ (by omega) (by omega)
  refine Fin.go (j := 5) (q0 := rq0) (e1 := eg (cx nmCp [p, q]) 28 0 q [] (linesO (rv r2) []) r2 []) (adv13cp (u := zu (cx nmCp [p, q]) 13 0 q (linesO (rv r2) [])) (r := rv r2) (a := an0) rfl rfl rfl rfl (hI _ _ _ rfl) h1) ?_ (by omega)
  refine Fin.ask (k := 15) (j := 8) (adv28 (u := zu (cx nmCp [p, q]) 28 0 q (linesO (rv r2) [])) (r := rv r2) (a := an0) rfl rfl h1 h2) (inE (st := 29) (n := 0) (buf := q) (out := []) (ls := linesO (rv r2) []) hr2 so0) (.other rfl rfl rfl rfl) ?_ (by omega) (by omega)
  refine Fin.ask (k := 10) (j := 8) (adv29 (u := zu (cx nmCp [p, q]) 29 0 q (linesO (rv r2) [])) (r := rv r2) (a := an0) rfl h1 h2) (inE (st := 3) (n := 0) (buf := q) (out := []) (ls := linesO (rv r2) []) hr2 so0) (.other rfl rfl rfl rfl) ?_ (by omega) (by omega)
  exact (fin3 hr2 so0 (by omega) : Fin KB (cx nmCp [p, q]) part 10 8 s an0 (eg (cx nmCp [p, q]) 3 0 q [] (linesO (rv r2) []) r2 []))
end
end Go.Proofs.YteagcbkkonabbaaGreatDoor
