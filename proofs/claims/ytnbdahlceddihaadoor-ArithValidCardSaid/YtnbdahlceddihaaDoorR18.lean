/-
  RT, part 18: append to a growable row.
-/
import Derived.Test.YtnbdahlceddihaaDoorR17
namespace Go.RT
set_option linter.unusedVariables false

variable {E : TEnv}
section
variable {P : Program} {w0 w w' : World} {G0 G G' : Ghost} {st : TS E} {a : Act} {o : Oper}

theorem Rel.append (h : Rel E w0 G0 st a w G) {t tx ty e : TypeId} {i : TI} {j1 j2 : Nat} {z : Value} (ht : tinfo P t = some ⟨.slice e, j1, j2, z⟩) (hi : tinfo P e = some i)
    (hk0 : 0 < i.size) (hzs : i.zero.cells.size = i.size) {j : Nat} {x : TGrow} {v : Value} (hj : G.g[j]? = some (x, v)) (hxe : x.e = e) (hxk : x.k = i.size) {es fs : List (List DV)}
    (hv : VD w G.pr v (.slice i.size es)) {y : Value} {news : List Value} (hsrc : Src P i.size tx y fs.length news w) (hf : Flat w G.pr i.size news fs)
    (h63 : es.length + fs.length ≤ maxLen) (hbytes : (es.length + fs.length) * i.bytes ≤ 140737488355328) :
    ∃ v' w' pr', (Builtin.append_ #[t, tx] ty #[v, y]).run P w = .ok v' w' ∧
      Rel E w0 G0 { st with g := st.g.set j { x with ver := x.ver + 1 } } a w' { G with g := G.g.set j ({ x with ver := x.ver + 1 }, v'), pr := pr' } ∧
      VD w' pr' v' (.slice i.size (es ++ fs)) := by
  obtain ⟨xt, hxt, hut, -⟩ := tinfo_some ht
  obtain ⟨xe, hxe', hue, hsz, hby, hz⟩ := tinfo_some hi
  obtain ⟨n, xs, ho, hz0, hg⟩ := h.boxes.grow j x v hj
  obtain ⟨xs', hfl, hcase⟩ := hv.flat hk0
  have hmaxI : maxLen = 9223372036854775807 := rfl
  subst hxe
  rw [hxk] at ho hg
  by_cases hm : fs.length = 0
  · have hfs : fs = [] := List.eq_nil_of_length_eq_zero hm
    subst hfs
    have hnn : news = [] := List.eq_nil_of_length_eq_zero (by simpa using hf.1)
    subst hnn
    refine ⟨v, w, G.pr, ?_, h.setGrow hj (Nat.le_refl _) rfl rfl rfl (fun _ _ _ => rfl) (fun _ _ _ _ h => h) G.pr (fun _ _ h => h) (fun _ _ h => .inl h) ?_ (fun b hb => .inr hb), by rw [List.append_nil]; exact hv⟩
    · have hsrc' : Src P xe.size tx y 0 [] w := by rw [hsz]; exact hsrc
      rcases hcase with ⟨ad, rfl, -⟩ | ⟨b, off, cap, rfl, hcap, -⟩
      · exact run_append_nothing w t tx ty x.e xe hut hxe' ad 0 0 (Nat.le_refl _) y hsrc'
      · exact run_append_nothing w t tx ty x.e xe hut hxe' _ _ _ hcap y hsrc'
    · exact ⟨n, xs, by dsimp only; rw [hxk]; exact ho, hz0, by dsimp only; rw [hxk]; exact hg⟩
  have hsrc' : Src P xe.size tx y fs.length news w := by rw [hsz]; exact hsrc
  have hzl : ∀ c, (Builtin.zeroCells i.zero.cells c).size = c * i.size := fun c => by rw [size_zeroCells, hzs]
  have hff := hfl.append hf
  have hlen : (es ++ fs).length = es.length + fs.length := by simp
  -- a new row
  have grow : ∀ (base : Option Addr) (old : Nat), v = .slice base es.length old → old < es.length + fs.length →
      (Builtin.firstCells xe.size es.length (.slice base es.length old)).run P w.drew = .ok xs'.toArray w.drew →
      ∃ v' w' pr', (Builtin.append_ #[t, tx] ty #[v, y]).run P w = .ok v' w' ∧
      Rel E w0 G0 { st with g := st.g.set j { x with ver := x.ver + 1 } } a w' { G with g := G.g.set j ({ x with ver := x.ver + 1 }, v'), pr := pr' } ∧
      VD w' pr' v' (.slice i.size (es ++ fs)) := by
    intro base old hv0 hlt hfc
    have hfit := growslice_fits (need := es.length + fs.length) (old := old) (bytes := xe.bytes) hlt (by rw [hby]; exact hbytes)
    have hr := run_append_grow_src (P := P) w t tx ty x.e xe i.zero hut hxe' hz base es.length old xs' hfc y fs.length news hsrc' hlt (by simp only [hmaxI] at h63; omega) hfit
    have hge := grownCap_ge w (es.length + fs.length) old x.e
    have hcm := grownCap_le_maxLen w (es.length + fs.length) old x.e h63
    generalize hcap : grownCap w (es.length + fs.length) old x.e = cap at hr hge hcm
    generalize hcs : (xs' ++ news).toArray ++ Builtin.zeroCells i.zero.cells (cap - (es.length + fs.length)) = cs at hr
    have hcsz : cs.size = cap * i.size := by
      rw [← hcs, Array.size_append, List.size_toArray, hff.1, hzl, hlen, ← Nat.add_mul]
      congr 1
      omega
    have hcl : cs.toList = (xs' ++ news) ++ (Builtin.zeroCells i.zero.cells (cap - (es.length + fs.length))).toList := by rw [← hcs]; simp
    have hheap : (w.drew.alloc (.cells cs x.e)).heap = w.heap.push (.cells cs x.e) := rfl
    have hnew : (w.drew.alloc (.cells cs x.e)).heap[w.heap.size]? = some (.cells cs x.e) := by rw [hheap]; simp
    have hsame : Same w (w.drew.alloc (.cells cs x.e)) := ⟨by rw [hheap]; simp, fun b hb => by rw [hheap, Array.getElem?_push, if_neg (by omega)]⟩
    have hcellq : ∀ q, q < (es ++ fs).length * i.size → (w.drew.alloc (.cells cs x.e)).cell? ⟨w.heap.size, q, none⟩ = some ((xs' ++ news).getD q undef) := by
      intro q hq
      rw [cell_of_row _ w.heap.size q cs x.e (0, 0) hnew]
      have h1 : q < (xs' ++ news).length := by rw [hff.1]; exact hq
      have : cs[q]? = cs.toList[q]? := by simp
      rw [this, hcl, List.getElem?_append_left h1]
      simp only [List.getD, List.getElem?_eq_getElem h1, Option.getD_some]
    refine ⟨_, _, fun b o => G.pr b o ∨ (b = w.heap.size ∧ o < (es ++ fs).length * i.size), by rw [hv0]; exact hr, ?_, ?_⟩
    · refine h.setGrow hj hsame.1 rfl rfl rfl (fun b hb _ => hsame.2 b hb) (fun b o u _ hu => hsame.cell hu) _ (fun _ _ h => .inl h) (fun b o hp => ?_) ?_ (fun b hb => ?_)
      · rcases hp with hp | ⟨rfl, -⟩
        · exact .inl hp
        · exact .inr rfl
      · refine ⟨es.length + fs.length, cs.toList.take ((es.length + fs.length) * i.size), ⟨?_, .inr ⟨w.heap.size, cap, cs, rfl, Nat.zero_le _, hnew, hge, hcm, by dsimp only; rw [hxk]; exact hcsz, by dsimp only; rw [hxk]⟩⟩, fun a m e => by simp at e; omega, fun b hb => ?_⟩
        · dsimp only
          rw [hxk, List.length_take, show cs.toList.length = cs.size from Array.length_toList, hcsz]
          exact Nat.min_eq_left (Nat.mul_le_mul_right _ hge)
        · cases hb
          refine ⟨by rw [hheap]; simp, fun hm => absurd (h.boxes.lt _ hm) (Nat.lt_irrefl _), fun o ho' hp => ?_⟩
          rcases hp with hp | ⟨-, hp⟩
          · exact absurd (h.boxes.prok _ _ hp).1 (Nat.lt_irrefl _)
          · dsimp only at ho'
            rw [hxk] at ho'
            rw [hlen] at hp
            omega
      · cases hb; exact .inl (Nat.le_refl _)
    · rw [← hlen]
      exact VD_row (xs := xs' ++ news) (by rw [hlen]; exact hge) (fun q hq => ⟨.inr ⟨rfl, hq⟩, hcellq q hq⟩) (hff.mono (fun _ _ h => .inl h) (fun b o u _ hu => hsame.cell hu))
  rcases hcase with ⟨ad, hv0, hes⟩ | ⟨b, off, cap, hv0, hcap, hcells⟩
  · subst hes
    have hx' : xs' = [] := List.eq_nil_of_length_eq_zero (by simpa using hfl.1)
    cases ad with
    | some ad =>
      refine grow (some ad) 0 hv0 (by simp; omega) ?_
      rw [hx', hsz]
      exact run_firstCells_some w.drew i.size 0 ad 0 0 [] (by simp) (fun j u hu => by simp at hu)
    | none =>
      refine grow none 0 hv0 (by simp; omega) ?_
      rw [hx']
      simp [Builtin.firstCells]
  · rcases ho.2 with ⟨hvn, -⟩ | ⟨g, cap', cur, hvg, hBg, hgg, hncap, hcm, hcs, htake⟩
    · rw [hv0] at hvn; cases hvn
    have hvg' := hvg
    rw [hv0] at hvg'
    simp only [Value.slice.injEq, Option.some.injEq, Addr.mk.injEq] at hvg'
    obtain ⟨⟨rfl, rfl, -⟩, hn, rfl⟩ := hvg'
    by_cases hroom : es.length + fs.length ≤ cap
    · -- in place
      have hfitc : es.length * i.size + news.length ≤ cur.size := by
        rw [hf.1, hcs, ← Nat.add_mul]; exact Nat.mul_le_mul_right _ hroom
      have hr := run_append_room_src (P := P) w t tx ty x.e xe hut hxe' b 0 es.length cap y fs.length news hsrc' hroom
        (fun j hj => by
          rw [cell_of_row w b _ cur x.e (0, 0) hgg, hsz]
          have : 0 + es.length * i.size + j < cur.size := by omega
          rw [Array.getElem?_eq_getElem this]; rfl)
        (fun j hj => frozen_of_row w b _ cur x.e hgg)
      rw [hsz, Nat.zero_add, setCells_row b x.e news (es.length * i.size) cur w hgg hfitc] at hr
      obtain ⟨g0, g1, g3⟩ := hg b (by rw [hv0]; rfl)
      have hbl : b < w.heap.size := (Array.getElem?_eq_some_iff.1 hgg).1
      have hnk : n * i.size = es.length * i.size := by rw [hn]
      let cur' := (cur.toList.take (es.length * i.size) ++ news ++ cur.toList.drop (es.length * i.size + news.length)).toArray
      have hcur' : cur'.size = cur.size := by
        simp only [cur', List.size_toArray, List.length_append, List.length_take, List.length_drop, Array.length_toList]; omega
      have hhb : (w.setRow b cur').heap[b]? = some (.cells cur' x.e (0, 0)) := setRow_heap w b cur _ x.e _ hgg
      have hoth : ∀ b', b' ≠ b → (w.setRow b cur').heap[b']? = w.heap[b']? := fun b' hb' => setRow_other w b b' _ hb'
      have hxs' : xs' = cur.toList.take (es.length * i.size) := by
        have hl1 : xs'.length = (cur.toList.take (es.length * i.size)).length := by
          rw [hfl.1, List.length_take, show cur.toList.length = cur.size from Array.length_toList, hcs]
          exact (Nat.min_eq_left (Nat.mul_le_mul_right _ hcap)).symm
        refine List.ext_getElem hl1 fun q h1 h2 => ?_
        have hq : q < es.length * i.size := by rw [← hfl.1]; exact h1
        have hc := (hcells q hq).2
        rw [Nat.zero_add, cell_of_row w b q cur x.e (0, 0) hgg] at hc
        have hqc : q < cur.size := by
          rw [hcs]; exact Nat.lt_of_lt_of_le hq (Nat.mul_le_mul_right _ hcap)
        simp [hqc, List.getD, h1] at hc
        simp [hc]
      have hcurl : cur'.toList = (xs' ++ news) ++ cur.toList.drop (es.length * i.size + news.length) := by
        simp only [cur', hxs', List.append_assoc]
      have hgc : ∀ o u, G.pr b o → w.cell? ⟨b, o, none⟩ = some u → (w.setRow b cur').cell? ⟨b, o, none⟩ = some u := by
        intro o u hp hu
        have hlt : o < es.length * i.size := by
          rcases Nat.lt_or_ge o (es.length * i.size) with h | h
          · exact h
          · exact (g3 o (by rw [hnk]; exact h) hp).elim
        rw [cell_of_row w b o cur x.e (0, 0) hgg] at hu
        rw [cell_of_row _ b o cur' x.e (0, 0) hhb]
        have hoc : o < cur.size := by rw [hcs]; exact Nat.lt_of_lt_of_le hlt (Nat.mul_le_mul_right _ hcap)
        simp [hoc] at hu
        have : cur'[o]? = cur'.toList[o]? := by simp
        rw [this, hcurl, List.append_assoc, List.getElem?_append_left (by rw [hfl.1]; exact hlt), hxs', List.getElem?_take, if_pos hlt]
        simp [hoc, hu]
      have hcc : ∀ b' o u, G.pr b' o → w.cell? ⟨b', o, none⟩ = some u → (w.setRow b cur').cell? ⟨b', o, none⟩ = some u := by
        intro b' o u hp hu
        by_cases he : b' = b
        · subst he; exact hgc o u hp hu
        · rw [World.cell?_of_block (hoth b' he)]; exact hu
      have hcellq : ∀ q, q < (es ++ fs).length * i.size → (w.setRow b cur').cell? ⟨b, q, none⟩ = some ((xs' ++ news).getD q undef) := by
        intro q hq
        rw [cell_of_row _ b q cur' x.e (0, 0) hhb]
        have h1 : q < (xs' ++ news).length := by rw [hff.1]; exact hq
        have : cur'[q]? = cur'.toList[q]? := by simp
        rw [this, hcurl, List.getElem?_append_left h1]
        simp only [List.getD, List.getElem?_eq_getElem h1, Option.getD_some]
      refine ⟨_, _, fun b' o => G.pr b' o ∨ (b' = b ∧ o < (es ++ fs).length * i.size), by rw [hv0]; exact hr, ?_, ?_⟩
      · refine h.setGrow (w' := w.setRow b cur') hj (by simp) rfl rfl rfl (fun b' _ hne => hoth b' (fun e' => hne (by rw [hv0, e']; rfl))) hcc (fun b' o => G.pr b' o ∨ (b' = b ∧ o < (es ++ fs).length * i.size)) (fun _ _ h => .inl h) (fun b' o hp => ?_) ?_ (fun b' hb' => .inr (by rw [hv0]; exact hb'))
        · rcases hp with hp | ⟨rfl, -⟩
          · exact .inl hp
          · exact .inr rfl
        · refine ⟨es.length + fs.length, xs' ++ news, ⟨by dsimp only; rw [hff.1, hlen, hxk], .inr ⟨b, cap, cur', rfl, hBg, hhb, hroom, hcm, by dsimp only; rw [hcur', hxk]; exact hcs, ?_⟩⟩, fun a m e => by simp at e; omega, fun g' hg' => ?_⟩
          · dsimp only
            rw [hxk, hcurl, ← hlen, ← hff.1, List.take_left]
          · cases hg'
            refine ⟨by simpa using g0, g1, fun o ho' hp => ?_⟩
            dsimp only at ho'
            rw [hxk] at ho'
            rcases hp with hp | ⟨-, hp⟩
            · refine g3 o ?_ hp
              rw [hnk]
              exact Nat.le_trans (Nat.mul_le_mul_right _ (Nat.le_add_right _ _)) ho'
            · rw [hlen] at hp; omega
      · rw [show es.length + fs.length = (es ++ fs).length from hlen.symm]
        exact VD_row (xs := xs' ++ news) (by rw [hlen]; exact hroom) (fun q hq => ⟨.inr ⟨rfl, hq⟩, hcellq q hq⟩) (hff.mono (fun _ _ hp => .inl hp) hcc)
    · refine grow _ cap hv0 (by omega) ?_
      rw [hsz]
      refine run_firstCells_some w.drew i.size es.length ⟨b, 0, none⟩ es.length cap xs' hfl.1 (fun j u hu => ?_)
      have hj : j < xs'.length := (List.getElem?_eq_some_iff.1 hu).1
      have := (hcells j (by rw [← hfl.1]; exact hj)).2
      rw [add_lit]
      simp [List.getD, hu] at this ⊢
      exact this
end

end Go.RT
