/-
  RT, part 12: how states follow the changes of a world: rows added, a new box.
-/
import Derived.Test.YtnbdahlceddihaaDoorR11
namespace Go.RT
set_option linter.unusedVariables false

variable {E : TEnv}
section
variable {P : Program} {w0 w w' w'' : World} {G0 G G' G'' : Ghost} {st : TS E} {a : Act}

theorem Goes.refl (w : World) (G : Ghost) : Goes w G w G :=
  ⟨fun _ _ h => h, fun _ _ _ _ h => h, fun _ _ h => h, fun j x h hj => ⟨x, h, hj, Nat.le_refl _, fun _ => rfl⟩⟩
theorem Goes.trans (h : Goes w G w' G') (h' : Goes w' G' w'' G'') : Goes w G w'' G'' := by
  refine ⟨fun b o hp => h'.pr b o (h.pr b o hp), fun b o v hp hv => h'.cells b o v (h.pr b o hp) (h.cells b o v hp hv), fun r b hb => h'.i r b (h.i r b hb), fun j x y hj => ?_⟩
  obtain ⟨x1, y1, h1, l1, e1⟩ := h.g j x y hj
  obtain ⟨x2, y2, h2, l2, e2⟩ := h'.g j x1 y1 h1
  refine ⟨x2, y2, h2, Nat.le_trans l1 l2, fun e => ?_⟩
  have : x.ver = x1.ver := Nat.le_antisymm l1 (e ▸ l2)
  rw [e2 (this.symm.trans e), e1 this]
theorem Evol.refl (w : World) (G : Ghost) : Evol w G w G :=
  ⟨rfl, rfl, rfl, Nat.le_refl _, fun _ _ _ => rfl, .refl w G, fun _ _ _ h => .inl h, fun r b hl hb => by
    have := (List.getElem?_eq_some_iff.1 hb).1; omega, fun j x h b hj hb => .inr ⟨x, h, hj, hb⟩⟩

theorem MapRel.mono (hg : Goes w G w' G') {kt vt : Ty} : ∀ {es : List MapEntry} {m : List (kt.den E.D × vt.den E.D)}, MapRel E w G kt vt es m → MapRel E w' G' kt vt es m
  | [], [], _ => trivial
  | _ :: _, _ :: _, h => ⟨h.1.mono hg, h.2.1.mono hg, MapRel.mono hg h.2.2⟩
  | [], _ :: _, h => h.elim
  | _ :: _, [], h => h.elim
theorem DRel.mono (hg : Goes w G w' G') : ∀ {ds : List Deferred} {xs : List (FuncId × List (TV E))}, DRel E w G ds xs → DRel E w' G' ds xs
  | [], [], _ => trivial
  | _ :: _, _ :: _, h => ⟨by obtain ⟨cap, h1, h2⟩ := h.1; exact ⟨cap, h1, h2.mono hg⟩, DRel.mono hg h.2⟩
  | [], _ :: _, h => h.elim
  | _ :: _, [], h => h.elim
theorem glob_mono (hg : Goes w G w' G') (h : ∀ b o v, E.gl b o = some v → G.pr b o ∧ w.cell? ⟨b, o, none⟩ = some v) : ∀ b o v, E.gl b o = some v → G'.pr b o ∧ w'.cell? ⟨b, o, none⟩ = some v :=
  fun b o v hv => ⟨hg.pr b o (h b o v hv).1, hg.cells b o v (h b o v hv).1 (h b o v hv).2⟩

theorem BoxOk.mono (hg : Goes w G w' G') {b : Nat} {x : TBox E} (h : BoxOk E w G b x) (hb : w'.heap[b]? = w.heap[b]?) : BoxOk E w' G' b x := by
  cases x with
  | cells t cs =>
    obtain ⟨vs, h1, h2, h3⟩ := h
    exact ⟨vs, by rw [hb]; exact h1, h2, h3.mono hg⟩
  | iter s pos => show _ = _; rw [hb]; exact h
  | map kt vt m => obtain ⟨es, clock, h1, h2, h3⟩ := h; exact ⟨es, clock, by rw [hb]; exact h1, h2, h3.mono hg⟩

theorem Same.alloc (w : World) (o : Obj) : Same w (w.alloc o) := ⟨by simp, fun b hb => heap_alloc_old w o b hb⟩
theorem Same.trans {w1 w2 w3 : World} (h : Same w1 w2) (h' : Same w2 w3) : Same w1 w3 := ⟨Nat.le_trans h.1 h'.1, fun b hb => (h'.2 b (Nat.lt_of_lt_of_le hb h.1)).trans (h.2 b hb)⟩

theorem GrowOk.same {x : TGrow} {h : Value} (hg : GrowOk w G x h) (hs : Same w w') (hi : ∀ b, b ∈ G'.i → b < w.heap.size → b ∈ G.i) (hpo : ∀ b o, b < w.heap.size → G'.pr b o → G.pr b o) : GrowOk w' G' x h := by
  obtain ⟨n, xs, ho, hz, hb⟩ := hg
  refine ⟨n, xs, ⟨ho.1, ?_⟩, hz, fun b hbl => ?_⟩
  · rcases ho.2 with h2 | ⟨g, cap, cur, h2, h3, h4, h5⟩
    · exact .inl h2
    · exact .inr ⟨g, cap, cur, h2, h3, by rw [hs.2 g (Array.getElem?_eq_some_iff.1 h4).1]; exact h4, h5⟩
  · obtain ⟨h1, h2, h3⟩ := hb b hbl
    exact ⟨Nat.lt_of_lt_of_le h1 hs.1, fun hm => h2 (hi b hm h1), fun o hno hpr => h3 o hno (hpo b o h1 hpr)⟩

/-- The blocks that the state speaks of are kept: rows may be added, cells of new blocks protected, boxes put onto new blocks. -/
theorem Rel.grow (h : Rel E w0 G0 st a w G) (hs : Same w w') (h1 : w'.os = w.os) (h2 : w'.tape = w.tape) (h3 : w'.output = w.output) (pr' : Nat → Nat → Prop)
    (hp : ∀ b o, G.pr b o → pr' b o) (hpo : ∀ b o, b < w.heap.size → pr' b o → G.pr b o) (hpn : ∀ b o, pr' b o → b < w'.heap.size) :
    Rel E w0 G0 st a w' { G with pr := pr' } := by
  have hg : Goes w G w' { G with pr := pr' } := ⟨hp, fun b o v _ hv => hs.cell hv, fun _ _ h => h, fun j x y hj => ⟨x, y, hj, Nat.le_refl _, fun _ => rfl⟩⟩
  have ev := h.evol
  refine ⟨⟨h1.trans ev.os, h2.trans ev.tape, h3.trans ev.output, Nat.le_trans ev.size hs.1, fun b hb hn => (hs.2 b (Nat.lt_of_lt_of_le hb ev.size)).trans (ev.old b hb hn), ev.goes.trans hg,
    fun b o hb hpr => ev.prold b o hb (hpo b o (Nat.lt_of_lt_of_le hb ev.size) hpr), ev.newB, ev.newG⟩, h.size, fun j d hj => (h.tmps j d hj).mono hg, h.defers.mono hg, ?_, fun r b hb hd => (hs.2 b (h.boxes.lt b (List.mem_of_getElem? (h.evol.goes.i r b hb)))).trans (h.fix r b hb hd), h.pins⟩
  refine ⟨h.boxes.len, h.boxes.gs, fun r b x hb hx => (h.boxes.box r b x hb hx).mono hg (hs.2 b (h.boxes.lt b (List.mem_of_getElem? hb))), fun b hb => Nat.lt_of_lt_of_le (h.boxes.lt b hb) hs.1, h.boxes.nodup,
    fun b o hpr => ⟨hpn b o hpr, fun hm => (h.boxes.prok b o (hpo b o (h.boxes.lt b hm) hpr)).2 hm⟩, fun j x y hj => (h.boxes.grow j x y hj).same hs (fun b hb _ => hb) hpo, h.boxes.apart, glob_mono hg h.boxes.glob⟩

/-- A new box. -/
theorem Rel.newBox (h : Rel E w0 G0 st a w G) (o : Obj) (x : TBox E) (hx : BoxOk E (w.alloc o) G w.heap.size x) :
    Rel E w0 G0 { st with H := st.H ++ [x] } a (w.alloc o) { G with i := G.i ++ [w.heap.size] } := by
  have h' := h.grow (Same.alloc w o) rfl rfl rfl G.pr (fun _ _ h => h) (fun _ _ _ h => h) (fun b o' hp => Nat.lt_of_lt_of_le (h.boxes.prok b o' hp).1 (by simp))
  have hg : Goes (w.alloc o) G (w.alloc o) { G with i := G.i ++ [w.heap.size] } := ⟨fun _ _ h => h, fun _ _ _ _ h => h, fun r b hb => by
    show (G.i ++ [w.heap.size])[r]? = some b
    rw [List.getElem?_append_left (List.getElem?_eq_some_iff.1 hb).1]; exact hb, fun j x y hj => ⟨x, y, hj, Nat.le_refl _, fun _ => rfl⟩⟩
  have ev := h'.evol
  have hlen : G0.i.length ≤ G.i.length := by
    by_cases h0 : G0.i.length = 0
    · omega
    · have hl : G0.i.length - 1 < G0.i.length := by omega
      have := (List.getElem?_eq_some_iff.1 (ev.goes.i _ _ (List.getElem?_eq_getElem hl))).1
      have this : G0.i.length - 1 < G.i.length := this
      omega
  refine ⟨⟨ev.os, ev.tape, ev.output, ev.size, ev.old, ev.goes.trans hg, ev.prold, fun r b hl hb => ?_, ev.newG⟩, h.size, fun j d hj => (h'.tmps j d hj).mono hg, h'.defers.mono hg, ?_, h'.fix, h.pins⟩
  · by_cases hr : r < G.i.length
    · rw [List.getElem?_append_left hr] at hb
      exact ev.newB r b hl hb
    · have := (List.getElem?_eq_some_iff.1 hb).1
      simp at this
      have hre : r = G.i.length := by omega
      subst hre
      simp at hb
      subst hb
      exact h.evol.size
  refine ⟨by simp [h.boxes.len], h.boxes.gs, fun r b y hb hy => ?_, fun b hb => ?_, ?_, fun b o' hp => ?_, fun j y z hj => ?_, h.boxes.apart, glob_mono hg h'.boxes.glob⟩
  · by_cases hr : r < G.i.length
    · rw [List.getElem?_append_left hr] at hb
      rw [List.getElem?_append_left (by rw [← h.boxes.len]; exact hr)] at hy
      exact (h'.boxes.box r b y hb hy).mono hg rfl
    · have := (List.getElem?_eq_some_iff.1 hb).1
      simp at this
      have hre : r = G.i.length := by omega
      subst hre
      simp at hb
      rw [h.boxes.len] at hy
      simp at hy
      subst hb; subst hy
      exact hx.mono hg rfl
  · rcases List.mem_append.1 hb with hb | hb
    · exact h'.boxes.lt b hb
    · simp at hb; subst hb; simp
  · refine List.nodup_append.2 ⟨h.boxes.nodup, by simp, fun b hb c hc => ?_⟩
    simp at hc
    subst hc
    exact Nat.ne_of_lt (h.boxes.lt b hb)
  · obtain ⟨p1, p2⟩ := h.boxes.prok b o' hp
    refine ⟨Nat.lt_of_lt_of_le p1 (by simp), fun hm => ?_⟩
    rcases List.mem_append.1 hm with hm | hm
    · exact p2 hm
    · simp at hm; omega
  · refine (h.boxes.grow j y z hj).same (Same.alloc w o) (fun b hb hlt => ?_) (fun _ _ _ h => h)
    rcases List.mem_append.1 hb with hb | hb
    · exact hb
    · simp at hb; omega
end

end Go.RT
