/-
  RT, part 29: the state behind a call.
-/
import Derived.Test.YtnbdahlceddihaaDoorR28
namespace Go.RT
set_option linter.unusedVariables false

variable {E : TEnv}

def setAll {α : Type} : List (Nat × α) → List α → List α
  | [], l => l
  | (i, x) :: ps, l => setAll ps (l.set i x)
theorem setAll_length {α : Type} : ∀ (ps : List (Nat × α)) (l : List α), (setAll ps l).length = l.length
  | [], l => rfl
  | (i, x) :: ps, l => by simp [setAll, setAll_length ps]
theorem setAll_out {α : Type} : ∀ (ps : List (Nat × α)) (l : List α) (q : Nat), q ∉ ps.map (·.1) → (setAll ps l)[q]? = l[q]?
  | [], l, q, _ => rfl
  | (i, x) :: ps, l, q, h => by
    simp only [List.map_cons, List.mem_cons, not_or] at h
    rw [setAll, setAll_out ps _ q h.2, List.getElem?_set_ne (fun e => h.1 e.symm)]
theorem setAll_in {α : Type} : ∀ (ps : List (Nat × α)) (l : List α) (q : Nat) (x : α), (ps.map (·.1)).Nodup → (q, x) ∈ ps → q < l.length → (setAll ps l)[q]? = some x
  | (i, y) :: ps, l, q, x, hn, hm, hq => by
    simp only [List.map_cons, List.nodup_cons] at hn
    rcases List.mem_cons.1 hm with he | hm
    · simp only [Prod.mk.injEq] at he
      obtain ⟨rfl, rfl⟩ := he
      rw [setAll, setAll_out ps _ _ hn.1, List.getElem?_set_self hq]
    · rw [setAll]
      exact setAll_in ps _ q x hn.2 hm (by simpa using hq)

def pairsB {α : Type} : List (Option BT) → List Nat → List α → List (Nat × α)
  | some _ :: os, i :: is, x :: xs => (i, x) :: pairsB os is xs
  | none :: os, _ :: is, _ :: xs => pairsB os is xs
  | _, _, _ => []
theorem pairsB_mem {α : Type} : ∀ {os : List (Option BT)} {is : List Nat} {xs : List α} {i : Nat} {x : α}, (i, x) ∈ pairsB os is xs → ∃ (r : Nat) (t : BT), os[r]? = some (some t) ∧ is[r]? = some i ∧ xs[r]? = some x
  | some t :: os, j :: is, y :: xs, i, x, h => by
    rcases List.mem_cons.1 h with he | h
    · cases he; exact ⟨0, t, rfl, rfl, rfl⟩
    · obtain ⟨r, t', h1, h2, h3⟩ := pairsB_mem h
      exact ⟨r + 1, t', by simpa using h1, by simpa using h2, by simpa using h3⟩
  | none :: os, j :: is, y :: xs, i, x, h => by
    obtain ⟨r, t', h1, h2, h3⟩ := pairsB_mem (os := os) (is := is) (xs := xs) h
    exact ⟨r + 1, t', by simpa using h1, by simpa using h2, by simpa using h3⟩
  | [], _, _, _, _, h => by cases h
  | some _ :: _, [], _, _, _, h => by cases h
  | none :: _, [], _, _, _, h => by cases h
  | some _ :: _, _ :: _, [], _, _, h => by cases h
  | none :: _, _ :: _, [], _, _, h => by cases h
theorem mem_pairsB {α : Type} : ∀ {os : List (Option BT)} {is : List Nat} {xs : List α} (r : Nat) {t : BT} {i : Nat} {x : α}, os[r]? = some (some t) → is[r]? = some i → xs[r]? = some x → (i, x) ∈ pairsB os is xs
  | o :: os, j :: is, y :: xs, 0, t, i, x, h1, h2, h3 => by
    simp at h1 h2 h3; subst h1; subst h2; subst h3
    simp [pairsB]
  | o :: os, j :: is, y :: xs, r + 1, t, i, x, h1, h2, h3 => by
    have := mem_pairsB (os := os) (is := is) (xs := xs) r (by simpa using h1) (by simpa using h2) (by simpa using h3)
    cases o <;> simp [pairsB, this]
  | [], _, _, _, _, _, _, h, _, _ => by simp at h
  | _ :: _, [], _, _, _, _, _, _, h, _ => by simp at h
  | _ :: _, _ :: _, [], _, _, _, _, _, _, h => by simp at h
theorem pairsB_nodup {α : Type} : ∀ {os : List (Option BT)} {is : List Nat} {xs : List α}, is.Nodup → ((pairsB os is xs).map (·.1)).Nodup
  | some t :: os, j :: is, y :: xs, h => by
    rw [List.nodup_cons] at h
    simp only [pairsB, List.map_cons, List.nodup_cons]
    refine ⟨fun hm => ?_, pairsB_nodup h.2⟩
    obtain ⟨p, hp, he⟩ := List.mem_map.1 hm
    obtain ⟨i, x⟩ := p
    obtain ⟨r, t', -, h2, -⟩ := pairsB_mem hp
    exact h.1 (by rw [← show i = j from he]; exact List.mem_of_getElem? h2)
  | none :: os, j :: is, y :: xs, h => pairsB_nodup (os := os) (xs := xs) (List.nodup_cons.1 h).2
  | [], _, _, _ => List.nodup_nil
  | some _ :: _, [], _, _ => List.nodup_nil
  | none :: _, [], _, _ => List.nodup_nil
  | some _ :: _, _ :: _, [], _ => List.nodup_nil
  | none :: _, _ :: _, [], _ => List.nodup_nil

theorem chg_mem : ∀ {bs : List (Option BT)} {r q : Nat}, r + q ∈ chg r bs → ∃ t, bs[q]? = some (some t)
  | [], _, _, h => by cases h
  | none :: bs, r, q, h => by
    simp only [chg] at h
    cases q with
    | zero =>
      have key : ∀ (bs : List (Option BT)) (r x : Nat), x ∈ chg r bs → r ≤ x := by
        intro bs
        induction bs with
        | nil => intro r x h; cases h
        | cons o bs ih =>
          intro r x h
          cases o with
          | none => have := ih (r + 1) x h; omega
          | some t => rcases List.mem_cons.1 h with rfl | h; exact Nat.le_refl _; have := ih (r + 1) x h; omega
      have := key bs (r + 1) _ h; omega
    | succ q =>
      obtain ⟨t, ht⟩ := chg_mem (bs := bs) (r := r + 1) (q := q) (by rw [show r + 1 + q = r + (q + 1) by omega]; exact h)
      exact ⟨t, by simpa using ht⟩
  | some t :: bs, r, q, h => by
    cases q with
    | zero => exact ⟨t, rfl⟩
    | succ q =>
      simp only [chg] at h
      rcases List.mem_cons.1 h with he | h
      · omega
      · obtain ⟨t, ht⟩ := chg_mem (bs := bs) (r := r + 1) (q := q) (by rw [show r + 1 + q = r + (q + 1) by omega]; exact h)
        exact ⟨t, by simpa using ht⟩

def rowAt : Option (TypeId × Nat) → Option TGrow → TGrow
  | none, some x => x
  | some p, some x => ⟨x.ver + 1, p.1, p.2⟩
  | some p, none => ⟨0, p.1, p.2⟩
  | none, none => ⟨0, 0, 0⟩
theorem newRows_length : ∀ (rs : List (Option (TypeId × Nat))) (g : List TGrow), (newRows rs g).length = rs.length
  | [], _ => rfl
  | none :: rs, _ :: g => by simp [newRows, newRows_length rs g]
  | some _ :: rs, _ :: g => by simp [newRows, newRows_length rs g]
  | some _ :: rs, [] => by simp [newRows, newRows_length rs []]
  | none :: rs, [] => by simp [newRows, newRows_length rs []]
theorem newRows_get : ∀ (rs : List (Option (TypeId × Nat))) (g : List TGrow) (j : Nat) (o : Option (TypeId × Nat)), rs[j]? = some o → (newRows rs g)[j]? = some (rowAt o g[j]?)
  | [], _, _, _, h => by simp at h
  | r :: rs, x :: g, 0, o, h => by simp at h; subst h; cases r <;> simp [newRows, rowAt]
  | r :: rs, [], 0, o, h => by simp at h; subst h; cases r <;> simp [newRows, rowAt]
  | r :: rs, x :: g, j + 1, o, h => by
    have := newRows_get rs g j o (by simpa using h)
    cases r <;> simpa [newRows] using this
  | r :: rs, [], j + 1, o, h => by
    have := newRows_get rs [] j o (by simpa using h)
    cases r <;> simpa [newRows] using this

theorem boxesPut_length (n : Rn) : ∀ (bs : List (Option BT)) (H : List (TBox E)) (ls : List (Lf E)), (boxesPut n bs H ls).length = bs.length
  | [], _, _ => rfl
  | none :: bs, H, ls => by simp [boxesPut, boxesPut_length n bs]
  | some t :: bs, H, ls => by simp [boxesPut, boxesPut_length n bs]
theorem boxesPut_move {w : World} {G G2 : Ghost} {n n2 : Rn} (hL : Link2 w G n G2 n2) : ∀ (bs : List (Option BT)) (H H' : List (TBox E)) (ls : List (Lf E)) (r : Nat) {t : BT} {b : Nat} {x y : TBox E}, bs[r]? = some (some t) →
    (boxesPut n bs H ls)[r]? = some x → (boxesPut n2 bs H' ls)[r]? = some y → BoxOk E w G b x → BoxOk E w G2 b y
  | [], _, _, _, _, _, _, _, _, h, _, _, _ => by simp at h
  | none :: bs, H, H', ls, r + 1, t, b, x, y, h, hx, hy, hb => boxesPut_move hL bs H.tail H'.tail ls r (by simpa using h) (by simpa [boxesPut] using hx) (by simpa [boxesPut] using hy) hb
  | none :: bs, H, H', ls, 0, t, b, x, y, h, hx, hy, hb => by simp at h
  | some t' :: bs, H, H', ls, 0, t, b, x, y, h, hx, hy, hb => by
    simp [boxesPut] at hx hy
    subst hx; subst hy
    exact BT.move hL t' ls hb
  | some t' :: bs, H, H', ls, r + 1, t, b, x, y, h, hx, hy, hb => by
    simp only [boxesPut, List.getElem?_cons_succ] at hx hy
    rw [BT.put_rest n2 n] at hy
    exact boxesPut_move hL bs H.tail H'.tail _ r (by simpa using h) hx hy hb

/-- New boxes are described. -/
def someFrom : Nat → List (Option BT) → Bool
  | 0, [] => true
  | 0, some _ :: bs => someFrom 0 bs
  | 0, none :: _ => false
  | _ + 1, [] => false
  | n + 1, _ :: bs => someFrom n bs
theorem someFrom_ok : ∀ {n : Nat} {bs : List (Option BT)}, someFrom n bs = true → n ≤ bs.length ∧ ∀ r, n ≤ r → r < bs.length → ∃ t, bs[r]? = some (some t)
  | 0, [], _ => ⟨Nat.le_refl _, fun r _ h => by simp at h⟩
  | 0, some t :: bs, h => by
    obtain ⟨_, q⟩ := someFrom_ok (n := 0) (bs := bs) h
    refine ⟨Nat.zero_le _, fun r _ hr => ?_⟩
    cases r with
    | zero => exact ⟨t, rfl⟩
    | succ r => simpa using q r (Nat.zero_le _) (by simpa using hr)
  | 0, none :: _, h => by cases h
  | _ + 1, [], h => by cases h
  | n + 1, o :: bs, h => by
    obtain ⟨q1, q2⟩ := someFrom_ok (n := n) (bs := bs) h
    refine ⟨by simpa using q1, fun r h1 h2 => ?_⟩
    cases r with
    | zero => omega
    | succ r => simpa using q2 r (by omega) (by simpa using h2)

def Outs.n2 (o : Outs) (bs gs : List Nat) (st : TS E) : Rn :=
  ⟨bs ++ List.range' st.H.length (o.boxes.length - bs.length), gs ++ List.range' st.g.length (o.rows.length - gs.length), (newRows o.rows ((pick st.g gs).getD [])).map (·.ver)⟩
def Outs.val (o : Outs) (bs gs : List Nat) (st : TS E) (ls : List (Lf E)) : TV E := (o.res.put (o.n2 bs gs st) ls).1
def Outs.hc (o : Outs) (bs gs : List Nat) (st : TS E) (ls : List (Lf E)) : List (TBox E) := boxesPut (o.n2 bs gs st) o.boxes [] (o.res.put (o.n2 bs gs st) ls).2
def Outs.after (o : Outs) (bs gs : List Nat) (st : TS E) (ls : List (Lf E)) : TS E :=
  { st with
    H := setAll (pairsB o.boxes bs (o.hc bs gs st ls)) st.H ++ (o.hc bs gs st ls).drop bs.length
    g := setAll (gs.zip (newRows o.rows ((pick st.g gs).getD []))) st.g ++ (newRows o.rows ((pick st.g gs).getD [])).drop gs.length
    d := (pairsB o.boxes bs (o.hc bs gs st ls)).map (·.1) ++ st.d }

theorem zip_nodup {α : Type} : ∀ {l : List Nat} {m : List α}, l.Nodup → ((l.zip m).map (·.1)).Nodup
  | [], _, _ => List.nodup_nil
  | _ :: _, [], _ => List.nodup_nil
  | x :: l, y :: m, h => by
    rw [List.nodup_cons] at h
    simp only [List.zip_cons_cons, List.map_cons, List.nodup_cons]
    refine ⟨fun hm => h.1 ?_, zip_nodup h.2⟩
    obtain ⟨p, hp, he⟩ := List.mem_map.1 hm
    rw [← he]
    exact (List.of_mem_zip hp).1
theorem mem_zip_get {α : Type} : ∀ {l : List Nat} {m : List α} (j : Nat) {i : Nat} {x : α}, l[j]? = some i → m[j]? = some x → (i, x) ∈ l.zip m
  | y :: l, z :: m, 0, i, x, h1, h2 => by simp at h1 h2; subst h1; subst h2; simp
  | y :: l, z :: m, j + 1, i, x, h1, h2 => by
    have := mem_zip_get (l := l) (m := m) j (by simpa using h1) (by simpa using h2)
    simp [this]
  | [], _, _, _, _, h, _ => by simp at h
  | _ :: _, [], _, _, _, _, h => by simp at h
theorem zip_mem_get {α : Type} : ∀ {l : List Nat} {m : List α} {i : Nat} {x : α}, (i, x) ∈ l.zip m → ∃ j : Nat, l[j]? = some i ∧ m[j]? = some x
  | y :: l, z :: m, i, x, h => by
    simp only [List.zip_cons_cons] at h
    rcases List.mem_cons.1 h with he | h
    · cases he; exact ⟨0, rfl, rfl⟩
    · obtain ⟨j, h1, h2⟩ := zip_mem_get h
      exact ⟨j + 1, by simpa using h1, by simpa using h2⟩
  | [], _, _, _, h => by simp at h
  | _ :: _, [], _, _, h => by simp at h

end Go.RT
