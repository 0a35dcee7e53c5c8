/-
  AL, part 17: nil slices read as empty ones, and owners given up at a return.
-/
import Derived.Test.YtboofbgcdhjhnaaAl16
namespace Go.AL
set_option linter.unusedVariables false

section
variable {P : Program} {ops : Array Oper} {st : St} {Q : AExit → St → Prop}

/-- A slot that holds a nil slice owns an empty row. -/
theorem Rel.nilown {B : Nat} {a : Act} {w : World} {G : Ghost} (hr : Rel B st a w G) {i e k : Nat} (h : st.t.getD i .any = .val (.slice none 0 0)) (hi : i < st.t.length) :
    Rel B ⟨st.t.set i (.slice k []), st.L, st.S, ⟨.slot i, e, k⟩ :: st.own⟩ a w G := by
  have hv : a.tmps.getD i undef = .slice none 0 0 := by
    have := hr.tmps i hi
    rw [h] at this
    exact this.val_inv
  refine ⟨by simpa using hr.size, fun j hj => ?_, hr.defers, hr.boxes, hr.newL, fun x hx => ?_, ?_⟩
  · have hj' : j < st.t.length := by simpa using hj
    by_cases hji : j = i
    · subst hji
      rw [hv]
      have : (st.t.set j (DV.slice k [])).getD j .any = .slice k [] := by simp [List.getD, hj']
      show V w G.pr G.at _ ((st.t.set j (DV.slice k [])).getD j .any)
      rw [this]
      exact .nils _ _ _
    · have : (st.t.set i (DV.slice k [])).getD j .any = st.t.getD j .any := by simp [List.getD, Ne.symm hji]
      show V w G.pr G.at _ ((st.t.set i (DV.slice k [])).getD j .any)
      rw [this]
      exact hr.tmps j hj'
  · rcases List.mem_cons.1 hx with rfl | hx
    · exact ⟨_, congrArg some hv, 0, [], ⟨by simp, .inl ⟨rfl, rfl⟩⟩, fun g hg => by simp [Value.ownBlock] at hg⟩
    · exact hr.own x hx
  · refine List.pairwise_cons.2 ⟨fun y hy v u h1 h2 g hg => ?_, hr.dist⟩
    have : v = .slice none 0 0 := by
      have h3 : some (a.tmps.getD i undef) = some v := h1
      rw [hv] at h3
      exact (Option.some.inj h3).symm
    subst this
    simp [Value.ownBlock] at hg

theorem AWp.nilown {c : Code} {st' : St} (i e k : Nat) (h : st.t.getD i .any = .val (.slice none 0 0)) (hi : i < st.t.length)
    (hst : (⟨st.t.set i (.slice k []), st.L, st.S, ⟨.slot i, e, k⟩ :: st.own⟩ : St) = st') (hrest : AWp P c st' Q) : AWp P c st Q := by
  subst hst
  exact fun w0 G0 a w G hE hr => hrest w0 G0 a w G hE (hr.nilown h hi)
theorem AOps.nilown {l : List Oper} {st' : St} (i e k : Nat) (h : st.t.getD i .any = .val (.slice none 0 0)) (hi : i < st.t.length)
    (hst : (⟨st.t.set i (.slice k []), st.L, st.S, ⟨.slot i, e, k⟩ :: st.own⟩ : St) = st') (hrest : AOps P ops l st' Q) : AOps P ops l st Q := by
  subst hst
  exact fun w0 G0 a w G hE hr => hrest w0 G0 a w G hE (hr.nilown h hi)

/-- The same data, but for nil slices read as empty ones. -/
def nilLe : List DV → List DV → Prop
  | [], [] => True
  | a :: as, b :: bs => (a = b ∨ (a = .val (.slice none 0 0) ∧ ∃ k, b = .slice k [])) ∧ nilLe as bs
  | _, _ => False
theorem nilLe_len : ∀ {l m : List DV}, nilLe l m → l.length = m.length
  | [], [], _ => rfl
  | _ :: _, _ :: _, h => by simp [nilLe_len h.2]
  | [], _ :: _, h => h.elim
  | _ :: _, [], h => h.elim
theorem nilLe_get {w : World} {pr : Nat → Nat → Prop} {i : Places} : ∀ {l m : List DV}, nilLe l m → ∀ (j : Nat) (v : Value), V w pr i v (l.getD j .any) → V w pr i v (m.getD j .any)
  | [], [], _, _, _, h => h
  | a :: as, b :: bs, h, 0, v, hv => by
    simp only [List.getD_cons_zero] at hv ⊢
    rcases h.1 with rfl | ⟨rfl, k, rfl⟩
    · exact hv
    · rw [hv.val_inv]; exact .nils _ _ _
  | _ :: _, _ :: _, h, j + 1, v, hv => by
    simp only [List.getD_cons_succ] at hv ⊢
    exact nilLe_get h.2 j v hv
  | [], _ :: _, h, _, _, _ => h.elim
  | _ :: _, [], h, _, _, _ => h.elim
theorem ACalls.nils {f : FuncId} {ds ds' : List DV} {S : List Box} {R : ARes → Prop} (h : ACalls P f ds' S R) (hn : nilLe ds ds') : ACalls P f ds S R := by
  intro w G args h1 h2 h3 h4
  have hl := nilLe_len hn
  exact h w G args h1 h2 (by omega) fun j hj => nilLe_get hn j _ (h4 j (by omega))

/-- Owners that a result need not tell. -/
theorem ACalls.noown {f : FuncId} {ds : List DV} {S S1 : List Box} {d : DV} (h : ACalls P f ds S (fun r => r.d = d ∧ r.S = S1 ∧ r.N = [])) : ACalls P f ds S (fun r => r = ⟨d, S1, [], []⟩) := by
  intro w G args h1 h2 h3 h4
  refine Calls.mono (h w G args h1 h2 h3 h4) fun e w' hp => ?_
  obtain ⟨v, r, G', he, hE, hr, hd, hS, hN⟩ := hp
  refine ⟨v, ⟨d, S1, [], []⟩, G', he, hE, ⟨?_, ?_, fun x hx => by simp at hx, List.Pairwise.nil⟩, rfl⟩
  · have := hr.boxes; rw [hS, hN] at this; exact this
  · have := hr.val; rw [hd] at this; exact this

end
end Go.AL
