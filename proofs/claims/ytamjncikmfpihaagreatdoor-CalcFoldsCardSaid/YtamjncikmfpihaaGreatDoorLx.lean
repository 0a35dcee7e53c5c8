/-
  The tokens of an expression: what the program's scanner and the reference's reader see at an offset.
-/
import Derived.Test.YtamjncikmfpihaaGreatDoorSw1
namespace Go.Proofs.YtamjncikmfpihaaGreatDoor
open Go.RT
set_option linter.unusedVariables false
set_option linter.unusedSimpArgs false
set_option linter.all false
set_option maxRecDepth 100000

/-- A loop over bytes that goes on as long as p holds. -/
theorem loopF_while {R σ : Type} {body : (σ → Option R) → σ → Option R} {s : List UInt8} {p : UInt8 → Bool} {fin : Nat → Option R} (st : Nat → σ)
    (hs : ∀ (i : Nat) rc (h : i < s.length), body rc (st i) = cond (p s[i]) (rc (st (i + 1))) (fin i)) (he : ∀ rc, body rc (st s.length) = fin s.length) :
    ∀ (k i F : Nat), i + k = s.length → k < F → loopF body F (st i) = fin (i + ((s.drop i).takeWhile p).length)
  | 0, i, F, h, hF => by
    cases F with
    | zero => omega
    | succ F =>
      obtain rfl : i = s.length := by omega
      rw [List.drop_length]
      exact he _
  | k + 1, i, F, h, hF => by
    cases F with
    | zero => omega
    | succ F =>
      have hi : i < s.length := by omega
      show body (loopF body F) (st i) = _
      rw [hs i _ hi, List.drop_eq_getElem_cons hi, List.takeWhile_cons]
      cases p s[i] with
      | false => simp
      | true =>
        simp only [cond_true, if_true, List.length_cons]
        rw [loopF_while st hs he k (i + 1) F (by omega) (by omega)]
        congr 1
        omega

def bl (b : UInt8) : Bool := (b.toNat : Int) == 9 || (b.toNat : Int) == 10 || (b.toNat : Int) == 32
def fo (b : UInt8) : Bool := wordS (b.toNat : Int)
def dg (b : UInt8) : Bool := digitS (b.toNat : Int)
def le (b : UInt8) : Bool := letterS (b.toNat : Int) || (b.toNat : Int) == 95
def skip (s : List UInt8) (i : Nat) : Nat := i + ((s.drop i).takeWhile bl).length
def wordL (s : List UInt8) (j : Nat) : List UInt8 := (s.drop j).takeWhile fo

def ops18 : List (List UInt8) := [[60, 60, 61], [62, 62, 61], [60, 60], [62, 62], [60, 61], [62, 61], [61, 61], [33, 61], [38, 38], [124, 124], [43, 61], [45, 61], [42, 61], [47, 61], [37, 61], [38, 61], [94, 61], [124, 61]]
def ops17 : List (List UInt8) := [[43], [45], [42], [47], [37], [60], [62], [38], [94], [124], [33], [126], [63], [58], [40], [41], [61]]
def ops35 : List (List UInt8) := ops18 ++ ops17
/-- The operator at the head of a text, or the empty text. -/
def opTxt (l : List UInt8) : List UInt8 := (ops35.find? fun o => o.isPrefixOf l).getD []

/-- The token at an offset where no blank stands. -/
def tokAt (s : List UInt8) (j : Nat) : Ttoken :=
  match s.drop j with
  | [] => ⟨0, j, []⟩
  | b :: _ => cond (fo b) ⟨cond (dg b) 1 2, j, wordL s j⟩ (cond (opTxt (s.drop j) == []) ⟨4, j, [b]⟩ ⟨3, j, opTxt (s.drop j)⟩)
def scanS (s : List UInt8) (i : Nat) : Ttoken := tokAt s (skip s i)

theorem take_isPrefix {l p : List UInt8} : (l.take p.length == p) = p.isPrefixOf l := by
  rw [Bool.eq_iff_iff, beq_iff_eq, List.isPrefixOf_iff_prefix, List.prefix_iff_eq_take]
  exact eq_comm
theorem takeWhile_len {α : Type} (p : α → Bool) (l : List α) : (l.takeWhile p).length ≤ l.length := (List.takeWhile_sublist _).length_le
theorem skip_le (s : List UInt8) (i : Nat) (h : i ≤ s.length) : skip s i ≤ s.length ∧ i ≤ skip s i := by
  have := takeWhile_len bl (s.drop i)
  rw [List.length_drop] at this
  unfold skip; omega
theorem drop_takeWhile {α : Type} (p : α → Bool) : ∀ l : List α, l.drop (l.takeWhile p).length = l.dropWhile p
  | [] => rfl
  | x :: l => by
    rw [List.takeWhile_cons, List.dropWhile_cons]
    cases p x with
    | true => simpa using drop_takeWhile p l
    | false => rfl
theorem skip_drop (s : List UInt8) (i : Nat) : s.drop (skip s i) = (s.drop i).dropWhile bl := by
  unfold skip
  rw [← List.drop_drop, drop_takeWhile]
theorem dropWhile_head {α : Type} (p : α → Bool) : ∀ (l : List α) (b : α) (m : List α), l.dropWhile p = b :: m → p b = false
  | [], b, m, h => by simp at h
  | x :: l, b, m, h => by
    rw [List.dropWhile_cons] at h
    cases hx : p x with
    | true => rw [hx] at h; exact dropWhile_head p l b m (by simpa using h)
    | false => rw [hx] at h; simp at h; rw [← h.1]; exact hx
theorem skip_skip (s : List UInt8) (i : Nat) : skip s (skip s i) = skip s i := by
  have : (s.drop (skip s i)).takeWhile bl = [] := by
    rw [skip_drop]
    cases h : (s.drop i).dropWhile bl with
    | nil => rfl
    | cons b m => rw [List.takeWhile_cons, dropWhile_head bl _ b m h]; rfl
  rw [skip, this]
  rfl

theorem space_eq (F : Nat) (b : UInt8) : arith_space F (b.toNat : Int) = some (bl b) := by
  unfold arith_space bl; cases ((b.toNat : Int) == 9) <;> cases ((b.toNat : Int) == 10) <;> rfl
theorem word_iff' (c : Int) : wordS c = true ↔ (97 ≤ c ∧ c ≤ 122) ∨ (65 ≤ c ∧ c ≤ 90) ∨ (48 ≤ c ∧ c ≤ 57) ∨ c = 95 := by
  unfold wordS letterS digitS
  simp only [Bool.or_eq_true, Bool.and_eq_true, decide_eq_true_eq, beq_iff_eq]
  omega
theorem follows_eq (F : Nat) (b : UInt8) : arith_follows F (b.toNat : Int) = some (fo b) := by
  unfold arith_follows fo
  generalize (b.toNat : Int) = c
  have : wordS c = (c == 95 || (decide (48 ≤ c) && decide (c ≤ 57)) || (decide (65 ≤ c) && decide (c ≤ 90)) || (decide (97 ≤ c) && decide (c ≤ 122))) := by
    rw [Bool.eq_iff_iff, word_iff']
    simp only [Bool.or_eq_true, Bool.and_eq_true, decide_eq_true_eq, beq_iff_eq]
    omega
  rw [this]
  cases (c == 95) <;> cases decide (48 ≤ c) <;> cases decide (c ≤ 57) <;> cases decide (65 ≤ c) <;> cases decide (c ≤ 90) <;> cases decide (97 ≤ c) <;> cases decide (c ≤ 122) <;> rfl
theorem letter_eq (F : Nat) (b : UInt8) : ref05_Letter F (b.toNat : Int) = some (le b) := by
  unfold ref05_Letter le letterS
  generalize (b.toNat : Int) = c
  cases (c == 95) <;> cases decide (65 ≤ c) <;> cases decide (c ≤ 90) <;> cases decide (97 ≤ c) <;> cases decide (c ≤ 122) <;> rfl
theorem digit_eq (F : Nat) (b : UInt8) : ref05_digit F (b.toNat : Int) = some (dg b) := by
  unfold ref05_digit dg digitS
  cases decide (48 ≤ (b.toNat : Int)) <;> rfl
theorem fo_eq (b : UInt8) : fo b = (le b || dg b) := by
  unfold fo wordS le dg
  cases letterS (b.toNat : Int) <;> cases digitS (b.toNat : Int) <;> cases ((b.toNat : Int) == 95) <;> rfl

theorem hasPrefix_eq (F : Nat) (a p : List UInt8) : strings_HasPrefix F a p = some (p.isPrefixOf a) := by
  unfold strings_HasPrefix stringslite_HasPrefix
  by_cases h : p.length ≤ a.length
  · have e1 : decide ((p.length : Int) ≤ (a.length : Int)) = true := decide_eq_true (by omega)
    simp only [e1, dnn, Bool.and_self, cond_true, rq_tt, Option.bind_some]
    unfold sl
    simp only [Int.toNat_natCast, Int.toNat_zero, List.drop_zero, take_isPrefix]
  · have e1 : decide ((p.length : Int) ≤ (a.length : Int)) = false := decide_eq_false (by omega)
    simp only [e1, cond_false, Option.bind_some]
    congr 1
    apply Eq.symm
    apply Bool.eq_false_iff.2
    intro hp
    rw [List.isPrefixOf_iff_prefix] at hp
    exact h hp.length_le

theorem blanks_eq (F : Nat) (s : List UInt8) (i : Nat) (e pos : Int) (hi : i ≤ s.length) (hF : s.length < F) (hl : s.length ≤ 1000000) : ref05_reader_blanks F s (i : Int) e pos = some (s, (skip s i : Int), e, pos) := by
  unfold ref05_reader_blanks
  exact loopF_while (s := s) (p := bl) (fin := fun j => some (s, (j : Int), e, pos)) (fun j => (s, (j : Int), e, pos)) (fun j rc h => by
    simp only [dlt h, dnn, Bool.and_self, cond_true, rq_tt, Int.toNat_natCast, gd h, w64_nat (i := j) (by omega)]
    unfold bl
    cases ((s[j].toNat : Int) == 9) <;> cases ((s[j].toNat : Int) == 10) <;> cases ((s[j].toNat : Int) == 32) <;> rfl) (fun rc => by
    simp only [dltn, cond_false, Option.bind_some]) (s.length - i) i F (by omega) (by omega)

theorem sl_nat {α : Type} (s : List α) (i n : Nat) : sl s (i : Int) ((i + n : Nat) : Int) = (s.drop i).take n := by
  unfold sl
  rw [Int.toNat_natCast, Int.toNat_natCast, List.take_drop]
theorem takeWhile_take {α : Type} (p : α → Bool) : ∀ l : List α, l.take (l.takeWhile p).length = l.takeWhile p
  | [] => rfl
  | x :: l => by
    rw [List.takeWhile_cons]
    cases p x with
    | true => simpa using takeWhile_take p l
    | false => rfl
theorem refWord_eq (F : Nat) (s : List UInt8) (i : Nat) (e pos : Int) (hi : i ≤ s.length) (hF : s.length < F) (hl : s.length ≤ 1000000) : ref05_reader_word F s (i : Int) e pos = some (wordL s i) := by
  unfold ref05_reader_word
  have hw := takeWhile_len fo (s.drop i)
  rw [List.length_drop] at hw
  refine (loopF_while (s := s) (p := fo) (fin := fun (j : Nat) => rq ((decide (0 ≤ (i : Int))) && ((decide ((i : Int) ≤ (j : Int))) && (decide ((j : Int) ≤ (s.length : Int))))) (some (sl s i j))) (fun j => (j : Int)) (fun j rc h => by
    simp only [dlt h, dnn, Bool.and_self, cond_true, rq_tt, Int.toNat_natCast, gd h, w64_nat (i := j) (by omega), letter_eq, digit_eq, Option.bind_some]
    rw [fo_eq]
    cases le s[j] <;> cases dg s[j] <;> rfl) (fun rc => by
    simp only [dltn, cond_false, Option.bind_some]) (s.length - i) i F (by omega) (by omega)).trans ?_
  rw [rq_true (by simp only [Bool.and_eq_true, decide_eq_true_eq]; omega), sl_nat, takeWhile_take]
  rfl

theorem refOperator_eq (F : Nat) (s : List UInt8) (i : Nat) (e pos : Int) (hi : i ≤ s.length) (hF : s.length + 50 < F) (hl : s.length ≤ 1000000) : ref05_reader_operator F s (i : Int) e pos = some (opTxt (s.drop (skip s i)), s, (skip s i : Int), e, pos) := by
  unfold ref05_reader_operator
  obtain ⟨h1, h2⟩ := skip_le s i hi
  rw [blanks_eq F s i e pos hi (by omega) hl, show ref05_operators F = some ops35 from rfl]
  simp only [Option.bind_some]
  generalize hj : skip s i = j at h1 h2 ⊢
  have hops : ∀ o, o ∈ ops35 → o.length ≤ 3 := by decide
  have hlen : ops35.length = 35 := rfl
  unfold opTxt
  generalize ops35 = L at hops hlen ⊢
  rw [loopF_lrun L (fun k (_ : Unit) => (k : Int)) (fun (_ : Unit) o => cond (o.isPrefixOf (s.drop j)) (some (.inr (o, s, (j : Int), e, pos))) (some (.inl ()))) (fun _ => some ([], s, (j : Int), e, pos)) (t := ()) (by omega) ?_ ?_ ?_]
  · clear hops hlen
    induction L with
    | nil => rfl
    | cons o l ih =>
      simp only [lrun, List.find?_cons]
      cases o.isPrefixOf (s.drop j)
      · simpa [sm] using ih
      · rfl
  · rfl
  · intro k h t rc
    have h3 := hops _ (List.getElem_mem h)
    simp only [dlt h, dnn, Bool.and_self, cond_true, rq_tt, Int.toNat_natCast, gd h, w64_nat (i := k) (by omega)]
    rw [w64_in (x := (s.length : Int) - (j : Int)) (by omega), w64_in (x := (j : Int) + (L[k].length : Int)) (by omega)]
    by_cases hle : L[k].length ≤ s.length - j
    · rw [show decide ((L[k].length : Int) ≤ (s.length : Int) - (j : Int)) = true from decide_eq_true (by omega)]
      have hc : (decide ((j : Int) ≤ (j : Int) + (L[k].length : Int)) && decide ((j : Int) + (L[k].length : Int) ≤ (s.length : Int))) = true := by
        simp only [Bool.and_eq_true, decide_eq_true_eq]; omega
      simp only [hc, Bool.and_self, cond_true, rq_tt, Option.bind_some]
      rw [show (j : Int) + (L[k].length : Int) = ((j + L[k].length : Nat) : Int) by omega, sl_nat, take_isPrefix]
      cases L[k].isPrefixOf (s.drop j) <;> rfl
    · rw [show decide ((L[k].length : Int) ≤ (s.length : Int) - (j : Int)) = false from decide_eq_false (by omega)]
      have : L[k].isPrefixOf (s.drop j) = false := by
        apply Bool.eq_false_iff.2
        intro hp
        rw [List.isPrefixOf_iff_prefix] at hp
        have := hp.length_le
        rw [List.length_drop] at this
        omega
      rw [this]
      rfl
  · intro t rc
    simp only [dltn, cond_false]

theorem idx_mem : ∀ (l : List UInt8) (c : UInt8), decide (0 ≤ Lib.indexByte l c) = l.contains c
  | [], c => rfl
  | b :: l, c => by
    have ih := idx_mem l c
    have hge := Lib.indexByte_ge l c
    unfold Lib.indexByte
    rw [List.contains_cons]
    by_cases h : b = c
    · subst h; simp
    · have h1 : (b == c) = false := by simpa using h
      have h2 : (c == b) = false := by simpa using fun e : c = b => h e.symm
      rw [h1, h2]
      simp only [Bool.false_eq_true, if_false, Bool.false_or]
      rw [← ih]
      by_cases hm : Lib.indexByte l c = -1
      · simp [hm]
      · have : (Lib.indexByte l c == -1) = false := by simpa using hm
        rw [this]
        simp only [Bool.false_eq_true, if_false]
        rw [decide_eq_true (by omega), decide_eq_true (by omega)]
def sing17 : List UInt8 := [43, 45, 42, 47, 37, 60, 62, 38, 94, 124, 33, 126, 63, 58, 40, 41, 61]
def singA : List UInt8 := [61, 63, 58, 124, 94, 38, 60, 62, 43, 45, 42, 47, 37, 33, 126, 40, 41]
theorem find_single : ∀ (l : List UInt8) (b : UInt8) (m : List UInt8), ((l.map fun x => [x]).find? fun o => o.isPrefixOf (b :: m)) = cond (l.contains b) (some [b]) none
  | [], b, m => rfl
  | x :: l, b, m => by
    rw [List.map_cons, List.find?_cons, List.contains_cons]
    by_cases h : x = b
    · subst h; simp [List.isPrefixOf]
    · have h1 : (x == b) = false := by simpa using h
      have h2 : (b == x) = false := by simpa using fun e : b = x => h e.symm
      have h3 : [x].isPrefixOf (b :: m) = false := by simp [List.isPrefixOf, h1]
      rw [h3, h2, find_single l b m]
      rfl
theorem singA_eq (b : UInt8) : singA.contains b = sing17.contains b := by
  rw [Bool.eq_iff_iff, List.contains_iff_mem, List.contains_iff_mem]
  exact ⟨fun h => (by decide : ∀ x, x ∈ singA → x ∈ sing17) b h, fun h => (by decide : ∀ x, x ∈ sing17 → x ∈ singA) b h⟩
theorem opTxt_cons (b : UInt8) (m : List UInt8) : opTxt (b :: m) = match ops18.find? (fun o => o.isPrefixOf (b :: m)) with | some o => o | none => cond (singA.contains b) [b] [] := by
  unfold opTxt ops35
  rw [List.find?_append, show ops17 = sing17.map fun x => [x] from rfl, find_single, ← singA_eq]
  cases ops18.find? (fun o => o.isPrefixOf (b :: m)) with
  | some o => rfl
  | none => cases singA.contains b <;> rfl
theorem ops35_ne : ∀ o, o ∈ ops35 → o ≠ [] := by decide
theorem opTxt_mem (l : List UInt8) : opTxt l = [] ∨ opTxt l ∈ ops35 ∧ opTxt l <+: l := by
  unfold opTxt
  cases h : ops35.find? (fun o => o.isPrefixOf l) with
  | none => exact .inl rfl
  | some o =>
    right
    have h1 := List.mem_of_find?_eq_some h
    have h2 := List.find?_some h
    exact ⟨h1, List.isPrefixOf_iff_prefix.1 h2⟩

theorem scan_eq (F : Nat) (s : List UInt8) (i : Nat) (hi : i ≤ s.length) (hF : s.length + 50 < F) (hl : s.length ≤ 1000000) : arith_scan F s (i : Int) = some (scanS s i) := by
  unfold arith_scan
  refine (loopF_while (s := s) (p := bl) (fin := fun j =>
 (cond ((j : Int) == (s.length : Int))
 (some (Ttoken.mk 0 (j : Int) []))
 (rq ((decide (0 ≤ (j : Int))) && (decide ((j : Int) < (s.length : Int)))) ((arith_follows F ((s.getD (Int.toNat (j : Int)) 0).toNat : Int)).bind fun x5 =>
 cond x5
 (loopF (σ := Int) (R := Ttoken) (fun rc7 x6 =>
 (cond (decide (x6 < (s.length : Int)))
 (rq ((decide (0 ≤ x6)) && (decide (x6 < (s.length : Int)))) ((arith_follows F ((s.getD (Int.toNat x6) 0).toNat : Int)).bind fun x9 =>
 some x9))
 (some false) : Option Bool).bind fun x8 =>
 cond x8
 (rc7 (w64 (x6 + 1)))
 ((rq ((decide (0 ≤ (j : Int))) && (decide ((j : Int) < (s.length : Int)))) (cond (decide (48 ≤ ((s.getD (Int.toNat (j : Int)) 0).toNat : Int)))
 (rq ((decide (0 ≤ (j : Int))) && (decide ((j : Int) < (s.length : Int)))) (some (decide (((s.getD (Int.toNat (j : Int)) 0).toNat : Int) ≤ 57))))
 (some false)) : Option Bool).bind fun x10 =>
 cond x10
 (rq ((decide (0 ≤ (j : Int))) && ((decide ((j : Int) ≤ x6)) && (decide (x6 ≤ (s.length : Int))))) (some (Ttoken.mk 1 (j : Int) (sl s (j : Int) x6))))
 (rq ((decide (0 ≤ (j : Int))) && ((decide ((j : Int) ≤ x6)) && (decide (x6 ≤ (s.length : Int))))) (some (Ttoken.mk 2 (j : Int) (sl s (j : Int) x6)))))) F (w64 ((j : Int) + 1)))
 (loopF (σ := Int) (R := Ttoken) (fun rc12 x11 =>
 cond (decide (x11 < (ops18.length : Int)))
 (rq ((decide (0 ≤ x11)) && (decide (x11 < (ops18.length : Int)))) (rq ((decide (0 ≤ (j : Int))) && ((decide ((j : Int) ≤ (s.length : Int))) && (decide ((s.length : Int) ≤ (s.length : Int))))) ((strings_HasPrefix F (sl s (j : Int) (s.length : Int)) (ops18.getD (Int.toNat x11) [])).bind fun x13 =>
 cond x13
 (some (Ttoken.mk 3 (j : Int) (ops18.getD (Int.toNat x11) [])))
 (rc12 (w64 (x11 + 1))))))
 (rq ((decide (0 ≤ (j : Int))) && (decide ((j : Int) < (s.length : Int)))) ((strings_IndexByte F ([61, 63, 58, 124, 94, 38, 60, 62, 43, 45, 42, 47, 37, 33, 126, 40, 41] : List UInt8) ((s.getD (Int.toNat (j : Int)) 0).toNat : Int)).bind fun x14 =>
 cond (decide (0 ≤ x14))
 (rq ((decide (0 ≤ (j : Int))) && ((decide ((j : Int) ≤ w64 ((j : Int) + 1))) && (decide (w64 ((j : Int) + 1) ≤ (s.length : Int))))) (some (Ttoken.mk 3 (j : Int) (sl s (j : Int) (w64 ((j : Int) + 1))))))
 (rq ((decide (0 ≤ (j : Int))) && ((decide ((j : Int) ≤ w64 ((j : Int) + 1))) && (decide (w64 ((j : Int) + 1) ≤ (s.length : Int))))) (some (Ttoken.mk 4 (j : Int) (sl s (j : Int) (w64 ((j : Int) + 1))))))))) F 0))))) (fun j => (j : Int)) (fun j rc h => by
    simp only [dlt h, dnn, Bool.and_self, cond_true, rq_tt, Int.toNat_natCast, gd h, w64_nat (i := j) (by omega), space_eq, Option.bind_some]
    rfl) (fun rc => by
    simp only [dltn, cond_false, Option.bind_some]
    rfl) (s.length - i) i F (by omega) (by omega)).trans ?_
  obtain ⟨h1, h2⟩ := skip_le s i hi
  show _ = some (tokAt s (skip s i))
  rw [show i + ((s.drop i).takeWhile bl).length = skip s i from rfl]
  generalize skip s i = j at h1 h2 ⊢
  unfold tokAt
  by_cases hj : j = s.length
  · subst hj
    rw [List.drop_length]
    simp only [beq_self_eq_true, cond_true]
  · have hj' : j < s.length := by omega
    have e0 : ((j : Int) == (s.length : Int)) = false := by rw [beq_eq_false_iff_ne]; omega
    simp only [e0, cond_false, dlt hj', dnn, Bool.and_self, rq_tt, Int.toNat_natCast, gd hj', follows_eq, Option.bind_some, w64_nat (i := j) (by omega)]
    have hd := List.drop_eq_getElem_cons hj'
    rw [hd]
    simp only []
    cases hfo : fo s[j] with
    | true =>
      simp only [cond_true]
      have hw := takeWhile_len fo (s.drop (j + 1))
      rw [List.length_drop] at hw
      refine (loopF_while (s := s) (p := fo) (fin := fun (k : Nat) => cond (dg s[j]) (rq ((decide ((j : Int) ≤ (k : Int))) && (decide ((k : Int) ≤ (s.length : Int)))) (some (Ttoken.mk 1 (j : Int) (sl s j k)))) (rq ((decide ((j : Int) ≤ (k : Int))) && (decide ((k : Int) ≤ (s.length : Int)))) (some (Ttoken.mk 2 (j : Int) (sl s j k))))) (fun k => (k : Int)) (fun k rc h => by
        simp only [dlt h, dnn, Bool.and_self, cond_true, rq_tt, Int.toNat_natCast, gd h, w64_nat (i := k) (by omega), follows_eq, Option.bind_some, Bool.true_and]
        unfold dg digitS
        cases fo s[k] <;> cases decide (48 ≤ (s[j].toNat : Int)) <;> cases decide ((s[j].toNat : Int) ≤ 57) <;> rfl) (fun rc => by
        simp only [dltn, cond_false, Option.bind_some, Bool.true_and]
        unfold dg digitS
        cases decide (48 ≤ (s[j].toNat : Int)) <;> cases decide ((s[j].toNat : Int) ≤ 57) <;> rfl) (s.length - (j + 1)) (j + 1) F (by omega) (by omega)).trans ?_
      have hlen : ((s.drop j).takeWhile fo).length = 1 + ((s.drop (j + 1)).takeWhile fo).length := by
        rw [hd, List.takeWhile_cons, hfo]; simp; omega
      have hc : (decide ((j : Int) ≤ ((j + 1 + ((s.drop (j + 1)).takeWhile fo).length : Nat) : Int)) && decide (((j + 1 + ((s.drop (j + 1)).takeWhile fo).length : Nat) : Int) ≤ (s.length : Int))) = true := by
        simp only [Bool.and_eq_true, decide_eq_true_eq]; omega
      have hsl : sl s (j : Int) ((j + 1 + ((s.drop (j + 1)).takeWhile fo).length : Nat) : Int) = wordL s j := by
        rw [show j + 1 + ((s.drop (j + 1)).takeWhile fo).length = j + ((s.drop j).takeWhile fo).length by omega, sl_nat, takeWhile_take]; rfl
      rw [hc, hsl]
      cases dg s[j] <;> rfl
    | false =>
      simp only [cond_false]
      have hops : ∀ o, o ∈ ops18 → o.length ≤ 3 := by decide
      have hlen : ops18.length = 18 := rfl
      rw [← hd, hd, opTxt_cons]
      have hne : ∀ o, o ∈ ops18 → o ≠ [] := by decide
      generalize ops18 = L at hops hlen hne ⊢
      have h1 : w64 ((j : Int) + 1) = ((j + 1 : Nat) : Int) := w64_nat (by omega)
      have hs1 : sl s (j : Int) ((j + 1 : Nat) : Int) = [s[j]] := by rw [sl_nat, hd]; rfl
      have hsl : sl s (j : Int) (s.length : Int) = s.drop j := by
        unfold sl; rw [Int.toNat_natCast, Int.toNat_natCast, List.take_length]
      have hc : (decide ((j : Int) ≤ ((j + 1 : Nat) : Int)) && decide (((j + 1 : Nat) : Int) ≤ (s.length : Int))) = true := by
        simp only [Bool.and_eq_true, decide_eq_true_eq]; omega
      have hc2 : (decide ((j : Int) ≤ (s.length : Int)) && decide ((s.length : Int) ≤ (s.length : Int))) = true := by
        simp only [Bool.and_eq_true, decide_eq_true_eq]; omega
      rw [loopF_lrun L (fun k (_ : Unit) => (k : Int)) (fun (_ : Unit) o => cond (o.isPrefixOf (s.drop j)) (some (.inr (Ttoken.mk 3 (j : Int) o))) (some (.inl ()))) (fun _ => cond (singA.contains s[j]) (some (Ttoken.mk 3 (j : Int) [s[j]])) (some (Ttoken.mk 4 (j : Int) [s[j]]))) (t := ()) (by omega) ?_ ?_ ?_]
      · have key : ∀ l : List (List UInt8), lrun (fun (_ : Unit) (o : List UInt8) => cond (o.isPrefixOf (s.drop j)) (some (.inr (Ttoken.mk 3 (j : Int) o))) (some (.inl ()))) (fun _ => cond (singA.contains s[j]) (some (Ttoken.mk 3 (j : Int) [s[j]])) (some (Ttoken.mk 4 (j : Int) [s[j]]))) l () = match l.find? (fun o => o.isPrefixOf (s.drop j)) with | some o => some (Ttoken.mk 3 (j : Int) o) | none => cond (singA.contains s[j]) (some (Ttoken.mk 3 (j : Int) [s[j]])) (some (Ttoken.mk 4 (j : Int) [s[j]])) := by
          intro l
          induction l with
          | nil => rfl
          | cons o l ih =>
            simp only [lrun, List.find?_cons]
            cases o.isPrefixOf (s.drop j)
            · simpa [sm] using ih
            · rfl
        rw [key, ← hd]
        cases hf : L.find? (fun o => o.isPrefixOf (s.drop j)) with
        | some o =>
          have h1 := hne o (List.mem_of_find?_eq_some hf)
          have : (o == []) = false := by simpa using h1
          simp only [this, cond_false]
        | none => cases singA.contains s[j] <;> rfl
      · rfl
      · intro k h t rc
        simp only [dlt h, dnn, Bool.and_self, cond_true, rq_tt, Int.toNat_natCast, gd h, w64_nat (i := k) (by omega), hc2, hsl, hasPrefix_eq, Option.bind_some]
        cases L[k].isPrefixOf (s.drop j) <;> rfl
      · intro t rc
        have hix : strings_IndexByte F singA (s[j].toNat : Int) = some (Lib.indexByte singA s[j]) := by
          unfold strings_IndexByte stringslite_IndexByte indexByteString ibF
          simp
        simp only [dltn, cond_false]
        show (strings_IndexByte F singA (s[j].toNat : Int)).bind _ = _
        rw [hix]
        simp only [Option.bind_some, idx_mem, hc, hs1, rq_tt, Bool.true_and]
end Go.Proofs.YtamjncikmfpihaaGreatDoor
