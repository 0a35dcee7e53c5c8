import Derived.Test.YteagcbkkonabbaaGreatDoorVe
namespace Go.Proofs.YteagcbkkonabbaaGreatDoor
open Go.RT
set_option linter.all false
section
variable {a : TAns} {u : TUtil} {w : Twords} {r : TAinti648} {o : List Int} {inp : List (List UInt8)} {p : List UInt8}
theorem g12 (h : u.fState = 12) (hi : util_engine_inputs KB u w r o = some inp) (hp : util_element KB inp r.2.2.2.1 = some p) :
    adw KB a (u, w, r, o) = some (TReq.mk 1 r.2.2.2.2.1 0 0 0 0 32 0 [] [] [] [], true, { u with fState := 13 }, w, r, o) := by
  unfold adw util_engine_advance util_engine_stream
  simp only [h, hi, hp, Option.bind_some]
  rfl
theorem g11 (h : u.fState = 11) (he : a.fErr = 0) (hi : util_engine_inputs KB u w r o = some inp) (hp : util_element KB inp r.2.2.2.1 = some p) :
    adw KB a (u, w, r, o) = some (rq0, false, { u with fState := 12 }, w, (r.1, (r.2.1, (r.2.2.1, (r.2.2.2.1, (a.fFd, r.2.2.2.2.2))))), o) := by
  unfold adw util_engine_advance util_engine_stream
  simp only [h, hi, hp, he, Option.bind_some]
  rfl
theorem g15dash (h : u.fState = 15) (hi : util_engine_inputs KB u w r o = some inp) (hp : util_element KB inp r.2.2.2.1 = some [45]) :
    adw KB a (u, w, r, o) = some (rq0, false, { u with fState := 16 }, w, r, o) := by
  unfold adw util_engine_advance util_engine_stream
  simp only [h, hi, hp, Option.bind_some]
  rfl
theorem g15file (h : u.fState = 15) (hi : util_engine_inputs KB u w r o = some inp) (hp : util_element KB inp r.2.2.2.1 = some p) (hd : (p == ([45] : List UInt8)) = false) :
    adw KB a (u, w, r, o) = some (TReq.mk 4 r.2.2.2.2.1 0 0 0 0 0 0 [] [] [] [], true, { u with fState := 16 }, w, r, o) := by
  unfold adw util_engine_advance util_engine_stream
  simp only [h, hi, hp, hd, Option.bind_some]
  rfl
theorem g16 (h : u.fState = 16) (hi : util_engine_inputs KB u w r o = some inp) (hp : util_element KB inp r.2.2.2.1 = some p) :
    adw KB a (u, w, r, o) = some (rq0, false, { u with fState := 10 }, w, (r.1, (r.2.1, (r.2.2.1, (w64 (r.2.2.2.1 + 1), r.2.2.2.2)))), o) := by
  unfold adw util_engine_advance util_engine_stream
  simp only [h, hi, hp, Option.bind_some]
  rfl
theorem g10dash (h : u.fState = 10) (hi : util_engine_inputs KB u w r o = some inp) (hp : util_element KB inp r.2.2.2.1 = some [45]) (hl : r.2.2.2.1 < (inp.length : Int)) (hs : r.2.2.2.2.2.2.2.1 = 0) :
    adw KB a (u, w, r, o) = some (rq0, false, { u with fState := 12 }, w, (r.1, (r.2.1, (r.2.2.1, (r.2.2.2.1, (0, r.2.2.2.2.2))))), o) := by
  unfold adw util_engine_advance util_engine_stream
  simp only [h, hi, hp, hs, Option.bind_some]
  rw [cf (by omega)]
  rfl
theorem g10file (h : u.fState = 10) (hi : util_engine_inputs KB u w r o = some inp) (hp : util_element KB inp r.2.2.2.1 = some p) (hd : (p == ([45] : List UInt8)) = false) (hl : r.2.2.2.1 < (inp.length : Int)) (hs : r.2.2.2.2.2.2.2.1 = 0) :
    adw KB a (u, w, r, o) = some (TReq.mk 3 0 0 0 0 0 3 1 p [] [] [], true, { u with fState := 11 }, w, r, o) := by
  unfold adw util_engine_advance util_engine_stream
  simp only [h, hi, hp, hs, Option.bind_some]
  rw [cf (by omega)]
  simp only [hd]
  rfl
theorem g10end (h : u.fState = 10) (hi : util_engine_inputs KB u w r o = some inp) (hp : util_element KB inp r.2.2.2.1 = some p) (hl : (inp.length : Int) ≤ r.2.2.2.1 ∨ r.2.2.2.2.2.2.2.1 ≠ 0) {z : Eg} (hf : util_engine_finish KB u w r o = some z) :
    adw KB a (u, w, r, o) = some (rq0, false, z) := by
  unfold adw util_engine_advance util_engine_stream
  simp only [h, hi, hp, hf, Option.bind_some]
  have e : (cond (decide ((inp.length : Int) ≤ r.2.2.2.1)) (some true) (some (r.2.2.2.2.2.2.2.1 != 0)) : Option Bool) = some true := by
    by_cases h1 : (inp.length : Int) ≤ r.2.2.2.1
    · rw [ct h1]
    · rw [cf h1]
      have h2 : r.2.2.2.2.2.2.2.1 ≠ 0 := hl.resolve_left h1
      simp [h2]
  rw [e]
  rfl
theorem g13empty (h : u.fState = 13) (he : a.fErr = 0) (hd : a.fData = []) (hn : (u.fName == ([99, 112] : List UInt8)) = false) (hi : util_engine_inputs KB u w r o = some inp) (hp : util_element KB inp r.2.2.2.1 = some p) :
    adw KB a (u, w, r, o) = some (rq0, false, { u with fState := 15 }, w, r, o) := by
  unfold adw util_engine_advance util_engine_stream util_engine_got
  simp only [h, hi, hp, he, hd, hn, Option.bind_some]
  rfl
theorem g13data (h : u.fState = 13) (he : a.fErr = 0) (hd : (a.fData == []) = false) (hn : (u.fName == ([99, 112] : List UInt8)) = false) (hi : util_engine_inputs KB u w r o = some inp) (hp : util_element KB inp r.2.2.2.1 = some p) {z : Eg} (hc : util_engine_consume KB a.fData u w r o = some z) :
    adw KB a (u, w, r, o) = some (rq0, false, z) := by
  unfold adw util_engine_advance util_engine_stream util_engine_got
  simp only [h, hi, hp, he, hd, hn, hc, Option.bind_some]
  rfl
theorem share_end (h0 : 0 ≤ r.2.2.2.2.2.1) (hn : (o.length : Int) ≤ r.2.2.2.2.2.1) : util_engine_share KB u w r o = some (rq0, false, { u with fState := 12 }, w, r, o) := by
  unfold util_engine_share
  rw [cf (by omega), Option.bind_some, ct hn]
  rfl
theorem share_more {i : Nat} (hn : r.2.2.2.2.2.1 = (i : Int)) (hi2 : i < o.length) {z : Eg} (hol : o.length ≤ 50)
    (hz : util_engine_write KB (o.getD i 0) u.fBuf 14 u w (r.1, (r.2.1, (r.2.2.1, (r.2.2.2.1, (r.2.2.2.2.1, (((i + 1 : Nat) : Int), r.2.2.2.2.2.2)))))) o = some z) : util_engine_share KB u w r o = some (rq0, false, z) := by
  unfold util_engine_share
  rw [hn, cf (by omega), Option.bind_some, cf (by omega), rq2 (by omega) (by omega), Int.toNat_natCast, w64s (by omega), hz]
  rfl
theorem g14 (h : u.fState = 14) (hi : util_engine_inputs KB u w r o = some inp) (hp : util_element KB inp r.2.2.2.1 = some p) {z : TReq × Bool × Eg} (hz : util_engine_share KB u w r o = some z) : adw KB a (u, w, r, o) = some z := by
  unfold adw util_engine_advance util_engine_stream
  simp only [h, hi, hp, hz, Option.bind_some]
  rfl
theorem open_end (h : u.fState = 17) {q : List UInt8} (hq : util_element KB w.foperands r.2.2.2.1 = some q) (hn : (w.foperands.length : Int) ≤ r.2.2.2.1) :
    util_engine_open KB a u w r o = some (rq0, false, { u with fState := 10 }, w, (r.1, (r.2.1, (r.2.2.1, (0, r.2.2.2.2)))), o) := by
  unfold util_engine_open
  rw [hq, Option.bind_some, h, show ((17 : Int) == 17) = true from rfl, cond_true, ct hn]
  rfl
theorem open_ask (h : u.fState = 17) {q : List UInt8} (hq : util_element KB w.foperands r.2.2.2.1 = some q) (hn : r.2.2.2.1 < (w.foperands.length : Int)) (hw : util_words_has KB w 97 = some false) :
    util_engine_open KB a u w r o = some (TReq.mk 3 0 0 0 0 0 3 26 q [] [] [], true, { u with fState := 18 }, w, r, o) := by
  unfold util_engine_open
  rw [hq, Option.bind_some, h, show ((17 : Int) == 17) = true from rfl, cond_true, cf (by omega), hw]
  rfl
theorem open_got (h : u.fState = 18) (he : a.fErr = 0) {q : List UInt8} (hq : util_element KB w.foperands r.2.2.2.1 = some q) (ho : o.length ≤ 100) :
    util_engine_open KB a u w r o = some (rq0, false, { u with fState := 17 }, w, (r.1, (r.2.1, (r.2.2.1, (w64 (r.2.2.2.1 + 1), r.2.2.2.2)))), o ++ [a.fFd]) := by
  unfold util_engine_open
  rw [hq, Option.bind_some, h, show ((18 : Int) == 17) = false from rfl, cond_false, he, show ((0 : Int) != 0) = false from rfl, cond_false, rq2 (by simp only [List.length_cons, List.length_nil]; omega) (by simp only [List.length_cons, List.length_nil]; omega)]
  rfl
theorem g17 (h : u.fState = 17 ∨ u.fState = 18) (hi : util_engine_inputs KB u w r o = some inp) (hp : util_element KB inp r.2.2.2.1 = some p) {z : TReq × Bool × Eg} (hz : util_engine_open KB a u w r o = some z) : adw KB a (u, w, r, o) = some z := by
  unfold adw util_engine_advance util_engine_stream
  rcases h with h | h
  · simp only [h, hi, hp, hz, Option.bind_some]
    rfl
  · simp only [h, hi, hp, hz, Option.bind_some]
    rfl
theorem h19 (h : u.fState = 19) (hi : util_engine_items KB u w r o = some inp) (hp : util_element KB inp r.2.2.2.1 = some p) (hn : r.2.2.2.1 < (inp.length : Int)) {z : TReq × Bool × Eg} (hz : util_engine_first KB p u w r o = some z) : adw KB a (u, w, r, o) = some z := by
  unfold adw util_engine_advance util_engine_file
  simp only [h, hi, hp, hz, Option.bind_some]
  rw [cf (by omega)]
  rfl
theorem h19end (h : u.fState = 19) (hi : util_engine_items KB u w r o = some inp) (hp : util_element KB inp r.2.2.2.1 = some p) (hn : (inp.length : Int) ≤ r.2.2.2.1) : adw KB a (u, w, r, o) = some (rq0, false, { u with fState := 3 }, w, r, o) := by
  unfold adw util_engine_advance util_engine_file
  simp only [h, hi, hp, Option.bind_some]
  rw [ct hn]
  rfl
theorem h20 (h : u.fState = 20) (hi : util_engine_items KB u w r o = some inp) (hp : util_element KB inp r.2.2.2.1 = some p) {z : TReq × Bool × Eg} (hz : util_engine_second KB p a u w r o = some z) : adw KB a (u, w, r, o) = some z := by
  unfold adw util_engine_advance util_engine_file
  simp only [h, hi, hp, hz, Option.bind_some]
  rfl
theorem h21 (h : u.fState = 21) (he : a.fErr = 0) (hi : util_engine_items KB u w r o = some inp) (hp : util_element KB inp r.2.2.2.1 = some p) : adw KB a (u, w, r, o) = some (rq0, false, { u with fState := 19 }, w, (r.1, (r.2.1, (r.2.2.1, (w64 (r.2.2.2.1 + 1), r.2.2.2.2)))), o) := by
  unfold adw util_engine_advance util_engine_file
  simp only [h, hi, hp, he, Option.bind_some]
  rfl
theorem h22 (h : u.fState = 22) (hi : util_engine_items KB u w r o = some inp) (hp : util_element KB inp r.2.2.2.1 = some p) : adw KB a (u, w, r, o) = some (rq0, false, { u with fState := 19 }, w, (r.1, (r.2.1, (r.2.2.1, (w64 (r.2.2.2.1 + 1), r.2.2.2.2)))), o) := by
  unfold adw util_engine_advance util_engine_file
  simp only [h, hi, hp, Option.bind_some]
  rfl
end
end Go.Proofs.YteagcbkkonabbaaGreatDoor
