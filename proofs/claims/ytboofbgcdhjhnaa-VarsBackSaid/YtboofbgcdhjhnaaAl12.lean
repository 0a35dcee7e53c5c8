/-
  AL, part 12: weaker states, loops, calls, contracts out of bodies.
-/
import Derived.Test.YtboofbgcdhjhnaaAl11
namespace Go.AL
set_option linter.unusedVariables false

def low1 (n : Nat) : DV → Bool
  | .ptr l r _ => !l || Nat.blt r n
  | .mref l r => !l || Nat.blt r n
  | .any => true
  | d => noref1 d
/-- The reading names no local box from number n on. -/
def low (n : Nat) : DV → Bool
  | .func _ cs => cs.all (low1 n)
  | .agg cs => cs.all (low1 n)
  | .tuple cs => cs.all (low1 n)
  | .whn _ d => low1 n d
  | d => low1 n d

def weakT (n : Nat) : List DV → List DV → Prop
  | [], [] => True
  | d :: ds, e :: es => (e = .any ∨ (e = d ∧ low n d = true)) ∧ weakT n ds es
  | _, _ => False

def lowBox (n : Nat) : Box → Bool
  | .cells _ cs => cs.all (low n)
  | .iter _ _ => true
  | .obj _ => true
def lowOwn (n : Nat) (x : Own) : Bool := match x.loc with
  | .cell r _ => Nat.blt r n
  | _ => true

/-- Some of the owners, in whatever order. -/
def SubP (m l : List Own) : Prop := ∃ s : List Own, s.Sublist l ∧ s.Perm m

/-- A state that says less: slots forgotten, owners given up, local boxes beyond some number let go. -/
structure Weak (st st' : St) : Prop where
  t : weakT st'.L.length st.t st'.t
  S : st'.S = st.S
  L : st'.L = st.L.take st'.L.length
  low : st'.L.all (lowBox st'.L.length) = true
  own : SubP st'.own st.own
  lowO : st'.own.all (lowOwn st'.L.length) = true

section
variable {P : Program} {ops : Array Oper} {st : St} {Q : AExit → St → Prop}

theorem weakT_len {n : Nat} : ∀ {l m : List DV}, weakT n l m → m.length = l.length
  | [], [], _ => rfl
  | _ :: _, _ :: _, h => by simp [weakT_len h.2]
  | [], _ :: _, h => h.elim
  | _ :: _, [], h => h.elim
theorem weakT_get {n : Nat} : ∀ {l m : List DV}, weakT n l m → ∀ j, m.getD j .any = .any ∨ (m.getD j .any = l.getD j .any ∧ low n (l.getD j .any) = true)
  | [], [], _, j => .inl (by simp [List.getD])
  | _ :: _, _ :: _, h, 0 => h.1
  | _ :: _, _ :: _, h, j + 1 => by simpa [List.getD] using weakT_get h.2 j
  | [], _ :: _, h, _ => h.elim
  | _ :: _, [], h, _ => h.elim

theorem V.low1 {w : World} {G : Ghost} {v : Value} {d : DV} {n : Nat} (h : V w G.pr G.at v d) (hl : Go.AL.low1 n d = true) : V w G.pr ({ G with iL := G.iL.take n } : Ghost).at v d := by
  cases d with
  | ptr l r off =>
    obtain ⟨b, rfl, hb⟩ := h.ptr_inv
    refine .ptr _ _ _ _ b ?_
    cases l with
    | false => exact hb
    | true =>
      simp [Go.AL.low1] at hl
      show (G.iL.take n)[r]? = some b
      rw [List.getElem?_take, if_pos hl]
      exact hb
  | mref l r =>
    obtain ⟨b, rfl, hb⟩ := h.mref_inv
    refine .mref _ _ _ b ?_
    cases l with
    | false => exact hb
    | true =>
      simp [Go.AL.low1] at hl
      show (G.iL.take n)[r]? = some b
      rw [List.getElem?_take, if_pos hl]
      exact hb
  | any => exact .any _ _
  | _ => exact (h.noref hl).any_places _

theorem V.low {w : World} {G : Ghost} {v : Value} {d : DV} {n : Nat} (h : V w G.pr G.at v d) (hl : Go.AL.low n d = true) : V w G.pr ({ G with iL := G.iL.take n } : Ghost).at v d := by
  have mem : ∀ (cs : List DV) (j : Nat), j < cs.length → cs.all (Go.AL.low1 n) = true → Go.AL.low1 n (cs.getD j .any) = true := by
    intro cs j hj hall
    refine List.all_eq_true.1 hall _ ?_
    simp [List.getD, hj]
  cases d with
  | func fn cs =>
    obtain ⟨vs, rfl, hs, hv⟩ := h.func_inv
    exact .func _ _ _ _ hs fun j hj => (hv j hj).low1 (mem cs j hj hl)
  | agg cs =>
    obtain ⟨vs, rfl, hs, h1, hv⟩ := h.agg_inv
    exact .agg _ _ _ hs h1 fun j hj => (hv j hj).low1 (mem cs j hj hl)
  | tuple cs =>
    obtain ⟨vs, rfl, hs, hv⟩ := h.tuple_inv
    exact .tuple _ _ _ hs fun j hj => (hv j hj).low1 (mem cs j hj hl)
  | whn b d =>
    cases h with
    | whn _ _ _ _ h h0 => exact .whn _ _ _ _ (fun hb => (h hb).low1 hl) h0
  | any => exact .any _ _
  | int k n => exact h.low1 hl
  | bool b => exact h.low1 hl
  | str l => exact h.low1 hl
  | val v => exact h.low1 hl
  | slice k es => exact h.low1 hl
  | iface t d => exact h.low1 hl
  | cptr cs off => exact h.low1 hl
  | ptr l r off => exact h.low1 hl
  | mref l r => exact h.low1 hl

theorem Rel.weak {B : Nat} {st st' : St} {a : Act} {w : World} {G : Ghost} (h : Rel B st a w G) (hw : Weak st st') : Rel B st' a w { G with iL := G.iL.take st'.L.length } := by
  have hlen := weakT_len hw.t
  have hLn : st'.L.length ≤ st.L.length := by
    have := congrArg List.length hw.L
    simp at this
    omega
  have hsub : ∀ b, b ∈ G.iL.take st'.L.length → b ∈ G.iL := fun b hb => List.mem_of_mem_take hb
  have hval : ∀ x, x ∈ st'.own → valAt a w { G with iL := G.iL.take st'.L.length } x.loc = valAt a w G x.loc := by
    intro x hx
    have hlo := List.all_eq_true.1 hw.lowO x hx
    cases hl : x.loc with
    | slot i => rfl
    | tup i j => rfl
    | cell r off =>
      simp only [lowOwn, hl] at hlo
      have hr : r < st'.L.length := by simpa using hlo
      simp only [valAt]
      rw [List.getElem?_take, if_pos hr]
  obtain ⟨s, hsl, hsp⟩ := hw.own
  have hsubL : ∀ x, x ∈ st'.own → x ∈ st.own := fun x hx => hsl.subset (hsp.mem_iff.2 hx)
  refine ⟨by rw [h.size, hlen], fun j hj => ?_, h.defers, ?_, fun b hb => h.newL b (hsub b hb), fun x hx => ?_, ?_⟩
  · rcases weakT_get hw.t j with he | ⟨he, hl⟩
    · rw [he]; exact .any _ _
    · rw [he]; exact (h.tmps j (by omega)).low hl
  · refine ⟨by rw [hw.S]; exact h.boxes.lenS, ?_, fun r b x hb hx => ?_, fun r b x hb hx => ?_, ?_, fun b o hp => ?_⟩
    · simp only [List.length_take, h.boxes.lenL]; omega
    · rw [hw.S] at hx; exact h.boxes.boxS r b x hb hx
    · have hr : r < st'.L.length := (List.getElem?_eq_some_iff.1 hx).1
      have hb' : G.iL[r]? = some b := by
        have hb2 : (G.iL.take st'.L.length)[r]? = some b := hb
        rwa [List.getElem?_take, if_pos hr] at hb2
      have hx' : st.L[r]? = some x := by
        rw [hw.L, List.getElem?_take, if_pos hr] at hx; exact hx
      have hbox := h.boxes.boxL r b x hb' hx'
      have hlo := List.all_eq_true.1 hw.low x (List.mem_of_getElem? hx)
      cases x with
      | cells t cs =>
        obtain ⟨vs, q1, q2, q3, q4⟩ := hbox
        refine ⟨vs, q1, q2, q3, fun j hj => (q4 j hj).low ?_⟩
        exact List.all_eq_true.1 hlo _ (by simp [List.getD, hj])
      | iter s pos => exact hbox
      | obj p => exact hbox
    · have := h.boxes.nodup
      refine List.Sublist.nodup ?_ this
      exact List.Sublist.append (List.Sublist.refl _) (List.take_sublist _ _)
    · obtain ⟨p1, p2, p3⟩ := h.boxes.prok b o hp
      exact ⟨p1, p2, fun hm => p3 (hsub b hm)⟩
  · obtain ⟨v, hv, n, xs, ho, hg⟩ := h.own x (hsubL x hx)
    refine ⟨v, by rw [hval x hx]; exact hv, n, xs, ho, fun g hgv => ?_⟩
    obtain ⟨g1, g2, g3⟩ := hg g hgv
    exact ⟨g1, fun hm => g2 (hsub g hm), g3⟩
  · have hd : st'.own.Pairwise fun x y => ∀ v u, valAt a w G x.loc = some v → valAt a w G y.loc = some u → apart v u :=
      (hsp.pairwise_iff (fun {x y} hxy v u hv hu => apart_symm (hxy u v hu hv))).1 (h.dist.sublist hsl)
    refine hd.imp_of_mem fun {x y} hx hy hxy v u hv hu => ?_
    rw [hval x hx] at hv
    rw [hval y hy] at hu
    exact hxy v u hv hu

theorem Evol.weak {w0 w : World} {G0 G : Ghost} (h : Evol w0 G0 w G) (n : Nat) : Evol w0 G0 w { G with iL := G.iL.take n } := ⟨h.os, h.tape, h.output, h.size, h.old, h.iS, h.pr, h.prold⟩

theorem AWp.weak {c : Code} {st' : St} (hw : Weak st st') (h : AWp P c st' Q) : AWp P c st Q := fun w0 G0 a w G hE hr => h w0 G0 a w _ (hE.weak _) (hr.weak hw)

theorem wp_loop_ix {ι : Type} {P : Program} {c : Code} {a : Act} {w : World} {Q : Exit → Act → World → Prop} (I : ι → Act → World → Prop) (μ : ι → Nat) (x0 : ι) (h₀ : I x0 a w)
    (round : ∀ x a w, I x a w → c.wp P (Exit.then (fun a' w' => ∃ y, I y a' w' ∧ μ y < μ x) Q) a w) : (Code.loop c).wp P Q a w := by
  intro b k cs
  have key : ∀ n x a w, μ x = n → I x a w →
      ∃ e a' w', Q e a' w' ∧ Arrives P (lone (b.at a (.code c :: .inLoop c :: k)) cs w) b k cs e a' w' := by
    intro n
    induction n using Nat.strongRecOn with
    | _ n ih =>
      intro x a w hn hI
      obtain ⟨e, a₁, w₁, hq, harr⟩ := round x a w hI b (.inLoop c :: k) cs
      cases e with
      | normal =>
        obtain ⟨y, hI₁, hlt⟩ := hq
        obtain ⟨e₂, a₂, w₂, hq₂, harr₂⟩ := ih (μ y) (hn ▸ hlt) y a₁ w₁ rfl hI₁
        exact ⟨e₂, a₂, w₂, hq₂, .of_steps (Steps.trans harr (.one step_inLoop)) harr₂⟩
      | exit id => exact ⟨_, a₁, w₁, hq, .pass (x := .inLoop c) rfl (fun _ _ => .inl (by simp)) harr⟩
      | goto l => exact ⟨_, a₁, w₁, hq, .pass (x := .inLoop c) rfl (fun _ _ => .inl (by simp)) harr⟩
      | ret => exact ⟨_, a₁, w₁, hq, .pass (x := .inLoop c) rfl (fun _ _ => .inl (by simp)) harr⟩
      | panic ch => exact ⟨_, a₁, w₁, hq, .pass (x := .inLoop c) rfl (fun _ _ => .inl (by simp)) harr⟩
      | outgrown => exact ⟨_, a₁, w₁, hq, .pass (x := .inLoop c) rfl (fun _ _ => .inl (by simp)) harr⟩
  obtain ⟨e, a', w', hq, harr⟩ := key _ x0 a w rfl h₀
  exact ⟨e, a', w', hq, .of_steps (.one step_loop) harr⟩

def loopQ {ι : Type} (inv : ι → St) (μ : ι → Nat) (x : ι) (Q : AExit → St → Prop) : AExit → St → Prop
  | .normal, st => ∃ y, μ y < μ x ∧ Weak st (inv y)
  | e, st => Q e st

theorem AWp.loop {ι : Type} {c : Code} (inv : ι → St) (μ : ι → Nat) (x0 : ι) (h0 : Weak st (inv x0)) (round : ∀ x, AWp P c (inv x) (loopQ inv μ x Q)) : AWp P (.loop c) st Q := by
  intro w0 G0 a w G hE hr
  refine wp_loop_ix (I := fun x a w => ∃ G, Evol w0 G0 w G ∧ Rel w0.heap.size (inv x) a w G) μ x0 ⟨_, hE.weak _, hr.weak h0⟩ ?_
  rintro x a w ⟨G, hE, hr⟩
  refine wp_mono (round x w0 G0 a w G hE hr) fun e a' w' hp => ?_
  obtain ⟨x', st', G', he, hE', hr', hQ⟩ := hp
  have he' := he
  cases e <;> cases x' <;> simp only [ERel] at he'
  case normal.normal =>
    obtain ⟨y, hlt, hwk⟩ := hQ
    exact ⟨y, ⟨_, hE'.weak _, hr'.weak hwk⟩, hlt⟩
  all_goals exact ⟨_, st', G', he, hE', hr', hQ⟩

/-- Data without pointers. -/
def norefD : DV → Bool
  | .agg cs => cs.all noref1
  | d => noref1 d

theorem V.norefD {w : World} {pr : Nat → Nat → Prop} {i : Places} {v : Value} {d : DV} (h : V w pr i v d) (hn : Go.AL.norefD d = true) : V w pr noPlaces v d := by
  cases d with
  | agg cs =>
    obtain ⟨vs, rfl, hs, h1, hv⟩ := h.agg_inv
    exact .agg _ _ _ hs h1 fun j hj => (hv j hj).noref (List.all_eq_true.1 hn _ (by simp [List.getD, hj]))
  | _ => exact h.noref hn

/-- Where the owned parts of a result stand once it is in slot i. -/
def ownAt (i : Nat) (x : Own) : Own := match x.loc with
  | .slot _ => { x with loc := .slot i }
  | .tup _ j => { x with loc := .tup i j }
  | .cell _ _ => x
def afterCall (st : St) (dst : Option Nat) (r : ARes) : St :=
  { st with t := setO st.t dst r.d, own := (match dst with | some i => if i < st.t.length then r.own.map (ownAt i) else [] | none => []) ++ st.own.filterMap (renOwn (renDst dst)) }

theorem Rel.result {B : Nat} {a : Act} {w' : World} {G : Ghost} {pr' : Nat → Nat → Prop} (hr : Rel B st a w' { G with pr := pr' }) (dst : Option Nat) {v : Value} {r : ARes} {B' : Nat} (hB : B ≤ B') (hBw : ∀ b, b ∈ G.iS ∨ b ∈ G.iL → b < B') (hv : V w' pr' noPlaces v r.d)
    (hown : ∀ x, x ∈ r.own → ∃ u, resAt v x.loc = some u ∧ ∃ n xs, w'.ownsRow B' x.e x.k u n xs ∧ ∀ g, u.ownBlock = some g → ∀ o, n * x.k ≤ o → ¬ pr' g o)
    (hdist : r.own.Pairwise fun x y => ∀ u t, resAt v x.loc = some u → resAt v y.loc = some t → apart u t) (hold : ∀ x u, x ∈ st.own → valAt a w' { G with pr := pr' } x.loc = some u → ∀ g, u.ownBlock = some g → g < B') :
    Rel B (afterCall st dst r) (a.put dst v) w' { G with pr := pr' } := by
  have hP := hr.put (hv.any_places _) dst (renDst dst) (fun x hx l hl => renDst_ok hl)
  cases dst with
  | none => exact hP
  | some i =>
    by_cases hi : i < st.t.length
    · have hkey : ∀ x, x ∈ r.own → valAt (a.put (some i) v) w' { G with pr := pr' } (ownAt i x).loc = resAt v x.loc := by
        intro x hx
        obtain ⟨u, hu, -⟩ := hown x hx
        unfold ownAt
        cases hl : x.loc with
        | slot s => exact valAt_put_same (by rw [hr.size]; exact hi)
        | tup s j => exact valAt_put_same_tup (by rw [hr.size]; exact hi)
        | cell r off => rw [hl] at hu; cases hu
      have hek : ∀ x : Own, (ownAt i x).e = x.e ∧ (ownAt i x).k = x.k := fun x => by unfold ownAt; split <;> exact ⟨rfl, rfl⟩
      unfold afterCall
      simp only [hi, if_true]
      refine ⟨hP.size, hP.tmps, hP.defers, hP.boxes, hP.newL, fun y hy => ?_, ?_⟩
      · rcases List.mem_append.1 hy with hy | hy
        · obtain ⟨x, hx, rfl⟩ := List.mem_map.1 hy
          obtain ⟨u, hu, n, xs, ho, hg⟩ := hown x hx
          refine ⟨u, by rw [hkey x hx]; exact hu, n, xs, ?_, fun g hgu => ⟨fun hm => ?_, fun hm => ?_, ?_⟩⟩
          · rw [(hek x).1, (hek x).2]
            refine ⟨ho.1, ?_⟩
            rcases ho.2 with h2 | ⟨g, cap, cur, h2, h3, h4⟩
            · exact .inl h2
            · exact .inr ⟨g, cap, cur, h2, Nat.le_trans hB h3, h4⟩
          · have := hBw g (.inl hm); have := (ho.lt g hgu).1; omega
          · have := hBw g (.inr hm); have := (ho.lt g hgu).1; omega
          · rw [(hek x).2]; exact hg g hgu
        · exact hP.own y hy
      · refine List.pairwise_append.2 ⟨?_, hP.dist, fun x hx y hy u t hu ht => ?_⟩
        · refine List.pairwise_map.2 (hdist.imp_of_mem fun {x y} hx hy hxy u t hu ht => ?_)
          rw [hkey x hx] at hu
          rw [hkey y hy] at ht
          exact hxy u t hu ht
        · obtain ⟨x', hx', rfl⟩ := List.mem_map.1 hx
          rw [hkey x' hx'] at hu
          obtain ⟨u', hu', n, xs, ho, -⟩ := hown x' hx'
          rw [hu] at hu'
          cases hu'
          intro g hg hgt
          have h1 := (ho.lt g hg).1
          obtain ⟨y', hy', hyy⟩ := List.mem_filterMap.1 hy
          unfold renOwn at hyy
          split at hyy <;> try (cases hyy; done)
          rename_i l hl
          cases hyy
          rw [show valAt (a.put (some i) v) w' { G with pr := pr' } l = _ from renDst_ok hl] at ht
          have := hold y' t hy' ht g hgt
          omega
    · unfold afterCall
      simp only [hi, if_false, List.nil_append]
      exact hP

/-- The concrete arguments of a call. -/
theorem run_call {a : Act} {w : World} {o : Oper} {c : Call} {x : Operand} {f : FuncId} {fn : Func} {code : Code} {caps : Array Value} (ho : o.op = .call c) (hc : c.callee = .value x) (hx : a.eval x = .func (.func f) #[] caps)
    (hf : P.funcs[f]? = some fn) (hb : fn.body = some code) (hn : (fn.name == "runtime.NumGoroutine") = false) :
    (execOp a.eval o).run P w = .ok (.enter f (c.args.map a.eval ++ caps)) w := by
  simp only [execOp, ho, resolve, hc, hx, Deferred.ofValue, Sem.run_bind, Sem.run_pure, Result.andThen_ok, invoke, callFunc, run_program, hf, hn, hb]
  simp

/-- A call of a function whose arguments hold no pointers: no box is touched. -/
theorem AOps.pcall {o : Oper} {rest : List Oper} {c : Call} {x : Operand} {f : FuncId} {fn : Func} {code : Code} (hg : o.guard = none) (ho : o.op = .call c) (hc : c.callee = .value x) (hx : st.ev x = .func (.func f) [])
    (hf : P.funcs[f]? = some fn) (hb : fn.body = some code) (hn : (fn.name == "runtime.NumGoroutine") = false) {ds : List DV} (hds : c.args.toList.map (fun y => strip (st.ev y)) = ds)
    (hob : ∀ y, y ∈ c.args.toList → stripOb (st.ev y)) (hnr : ds.all norefD = true) {R : ARes → Prop} (h : ACalls P f ds [] R)
    (hN : ∀ r, R r → r.N = []) (hrest : ∀ r, R r → AOps P ops rest (afterCall st o.dst r) Q) : AOps P ops (o :: rest) st Q := by
  intro w0 G0 a w G hE hr
  refine wpList_plain hg fun K hK => ?_
  have hvx := hr.ev x
  rw [hx] at hvx
  obtain ⟨vs, hxv, hvs, -⟩ := hvx.func_inv
  have hvs0 : vs = #[] := by simpa using hvs
  unfold Oper.wp
  rw [run_call ho hc hxv hf hb hn]
  show Calls _ _ _ _ _
  have hsz : (c.args.map a.eval ++ vs).size = ds.length := by rw [← hds]; simp [hvs0]
  have hcall := h w ⟨[], [], G.pr⟩ (c.args.map a.eval ++ vs) rfl ⟨rfl, rfl, fun r b x hb => by simp at hb, fun r b x hb => by simp at hb, by simp, fun b o hp => ⟨(hr.boxes.prok b o hp).1, by simp, by simp⟩⟩ hsz (fun j hj => by
    have hj' : j < c.args.size := by rw [← hds] at hj; simpa using hj
    have e1 : (c.args.map a.eval ++ vs).getD j undef = a.eval c.args[j] := by simp [hvs0, Array.getD, hj']
    have e2 : ds.getD j .any = strip (st.ev c.args[j]) := by rw [← hds]; simp [List.getD, hj']
    rw [e1, e2]
    have hm : c.args[j] ∈ c.args.toList := by simp
    have hv := hr.arg c.args[j] (hob _ hm)
    have hnn : norefD (strip (st.ev c.args[j])) = true := by
      refine List.all_eq_true.1 hnr _ ?_
      rw [← hds]
      exact List.mem_map.2 ⟨_, hm, rfl⟩
    exact (hv.norefD hnn).any_places _)
  refine hcall.mono fun e w' hp => ?_
  obtain ⟨v, r, G', rfl, hE', hR, hRr⟩ := hp
  have hs : Same w w' := ⟨hE'.size, fun b hb => hE'.old b hb (by simp)⟩
  have hiS : G'.iS = [] := hE'.iS
  have hG := hr.grow hs G'.pr hE'.pr hE'.prold (fun b o hp => (hR.boxes.prok b o hp).1)
  have hEn := hE.grow (G' := { G with pr := G'.pr }) hs hE'.os hE'.tape hE'.output rfl hE'.pr hE'.prold
  refine hK _ _ ?_
  have hiL : G'.iL = [] := by
    have := hR.boxes.lenL
    rw [hN r hRr] at this
    simpa using this
  have hvn : V w' G'.pr noPlaces v r.d := hR.val.mono (fun _ _ h => h) (fun _ _ _ _ h => h) _ (fun l r b hb => by
    cases l with
    | true => have hb' : G'.iL[r]? = some b := hb; rw [hiL] at hb'; simp at hb'
    | false => have hb' : G'.iS[r]? = some b := hb; rw [hiS] at hb'; simp at hb')
  refine hrest r hRr w0 G0 _ w' _ hEn ?_
  refine hG.result o.dst hE.size (B' := w.heap.size) (fun b hb => ?_) hvn (fun x hx => ?_) hR.dist (fun x u hx hu g hgu => ?_)
  · rcases hb with hb | hb
    · exact hr.boxes.ltS hb
    · exact hr.boxes.ltL hb
  · obtain ⟨u, hu, n, xs, ho', hg'⟩ := hR.own x hx
    exact ⟨u, hu, n, xs, ho', fun g hgu => (hg' g hgu).2.2⟩
  · obtain ⟨u', hu', n, xs, ho', -⟩ := hr.own x hx
    have hval : valAt a w' { G with pr := G'.pr } x.loc = valAt a w G x.loc := by
      cases hl : x.loc with
      | slot i => rfl
      | tup i j => rfl
      | cell r off =>
        simp only [valAt]
        cases hrl : G.iL[r]? with
        | none => rfl
        | some b => exact World.cell?_of_block (hs.2 b (hr.boxes.ltL (List.mem_of_getElem? hrl)))
    rw [hval, hu'] at hu
    cases hu
    exact (ho'.lt g hgu).2

/-- The results of a function. -/
def resOne (P : Program) (st : St) : ResultVar → Option (DV × Prop)
  | .tmp t => some (strip (st.t.getD t .any), stripOb (st.t.getD t .any))
  | .cell p t => match tinfo P t, st.t.getD p .any with
    | some i, .ptr l r off => match boxAt st l r with
      | .cells _ cs => some (partD i.isAgg i.size cs off, partOb i.isAgg i.size cs off)
      | _ => none
    | _, _ => none
def resAll (P : Program) (st : St) : List ResultVar → Option (List DV × Prop)
  | [] => some ([], True)
  | r :: rs => match resOne P st r, resAll P st rs with
    | some (d, ob), some (ds, ob') => some (d :: ds, ob ∧ ob')
    | _, _ => none
def packRes : List DV → DV
  | [d] => d
  | ds => .tuple ds

/-- No pointer at all, in a result. -/
def flatD : DV → Bool
  | .tuple ds => ds.all norefD
  | d => norefD d

def resLoc (rs : List ResultVar) (j : Nat) : OLoc := match rs with | [_] => .slot 0 | _ => .tup 0 j
def ownRes (rs : List ResultVar) (x : Own) : Option Own :=
  match x.loc with
  | .slot s => match rs.findIdx? (fun r => match r with | .tmp t => t == s | _ => false) with
    | some j => some { x with loc := resLoc rs j }
    | none => none
  | _ => none

def retQ (P : Program) (fn : Func) (R : ARes → Prop) : AExit → St → Prop
  | .ret, st => ∃ ds ob, resAll P st fn.results.toList = some (ds, ob) ∧ ob ∧ flatD (packRes ds) = true ∧ R ⟨packRes ds, st.S, [], st.own.filterMap (ownRes fn.results.toList)⟩
  | .normal, st => ∃ ds ob, resAll P st fn.results.toList = some (ds, ob) ∧ ob ∧ flatD (packRes ds) = true ∧ R ⟨packRes ds, st.S, [], st.own.filterMap (ownRes fn.results.toList)⟩
  | _, _ => False

def loadRes (tmps : Array Value) : ResultVar → Sem Value
  | .tmp t => pure (tmps.getD t undef)
  | .cell a t => do loadVar t (← asAddr (tmps.getD a undef))
theorem results_eq (fn : Func) (tmps : Array Value) : results fn tmps = (do
    let vs ← fn.results.mapM (loadRes tmps)
    pure (if h : vs.size = 1 then vs[0] else .tuple vs)) := by
  unfold results
  congr 2

theorem resOne_ok {B : Nat} {a : Act} {w : World} {G : Ghost} (hr : Rel B st a w G) {rv : ResultVar} {d : DV} {ob : Prop} (h : resOne P st rv = some (d, ob)) (hob : ob) :
    ∃ v, V w G.pr G.at v d ∧ (loadRes a.tmps rv).run P w = .ok v w ∧
      (∀ t, rv = .tmp t → v = a.tmps.getD t undef) := by
  cases rv with
  | tmp t =>
    simp only [resOne] at h
    cases h
    exact ⟨_, (hr.ev (.tmp t)).strip hob, rfl, fun t' ht' => by cases ht'; rfl⟩
  | cell p t =>
    simp only [resOne] at h
    split at h <;> try (cases h; done)
    rename_i i l r off hi hd
    split at h <;> try (cases h; done)
    rename_i t' cs hb
    cases h
    have hv := hr.ev (.tmp p)
    simp only [St.ev] at hv
    rw [hd] at hv
    obtain ⟨b, he, hat⟩ := hv.ptr_inv
    have hbox := hr.box hat
    rw [hb] at hbox
    obtain ⟨vs, hh, hs, h1, h⟩ := hbox
    refine ⟨_, V_part (n := cs.length) (c := fun l => vs.getD l undef) rfl h1 h hob, ?_, fun t' ht' => by cases ht'⟩
    have hl := run_load_part (P := P) hi b 0 cs.length (fun l => vs.getD l undef) (fun l hl => by
      rw [cell_of_row w b (0 + l) vs t' (0, 0) hh]
      simp [Array.getD, hs, hl]) off (by simpa [partOb] using hob) w (Same.refl w)
    have he' : a.tmps.getD p undef = .pointer (some ⟨b, off, none⟩) := he
    simp only [loadRes]
    rw [he']
    rw [Nat.zero_add] at hl
    simpa [Instr.loadAt, Instr.sureAddr, asAddr] using hl

theorem resAll_ok {B : Nat} {a : Act} {w : World} {G : Ghost} (hr : Rel B st a w G) : ∀ {rs : List ResultVar} {ds : List DV} {ob : Prop}, resAll P st rs = some (ds, ob) → ob →
    ∃ vs : List Value, vs.length = ds.length ∧ rs.length = ds.length ∧ (∀ j, j < ds.length → V w G.pr G.at (vs.getD j undef) (ds.getD j .any)) ∧
      (rs.mapM (loadRes a.tmps)).run P w = .ok vs w ∧
      (∀ (j : Nat) t, rs[j]? = some (.tmp t) → vs[j]? = some (a.tmps.getD t undef))
  | [], ds, ob, h, _ => by
    cases h
    exact ⟨[], rfl, rfl, fun j hj => by simp at hj, rfl, fun j t hj => by simp at hj⟩
  | r :: rs, ds, ob, h, hob => by
    simp only [resAll] at h
    split at h <;> try (cases h; done)
    rename_i d ob1 ds' ob2 h1 h2
    cases h
    obtain ⟨v, hv, hrun, ht⟩ := resOne_ok hr h1 hob.1
    obtain ⟨vs, q1, q2, q3, q4, q5⟩ := resAll_ok hr h2 hob.2
    refine ⟨v :: vs, by simp [q1], by simp [q2], fun j hj => ?_, ?_, fun j t hj => ?_⟩
    · cases j with
      | zero => exact hv
      | succ j => simpa [List.getD] using q3 j (by simpa using hj)
    · simp only [List.mapM_cons, Sem.run_bind, hrun, Result.andThen_ok, q4, Sem.run_pure]
    · cases j with
      | zero => simp at hj; simp [ht t hj]
      | succ j =>
        have hj' : rs[j]? = some (.tmp t) := by simpa using hj
        have := q5 j t hj'
        simpa using this

theorem V.flatD {w : World} {pr : Nat → Nat → Prop} {i : Places} {v : Value} {d : DV} (h : V w pr i v d) (hn : Go.AL.flatD d = true) : V w pr noPlaces v d := by
  cases d with
  | tuple ds =>
    obtain ⟨vs, rfl, hs, hv⟩ := h.tuple_inv
    exact .tuple _ _ _ hs fun j hj => (hv j hj).norefD (List.all_eq_true.1 hn _ (by simp [List.getD, hj]))
  | _ => exact h.norefD hn

def packV : List Value → Value
  | [v] => v
  | vs => .tuple vs.toArray
theorem packV_eq (vs : List Value) : (if h : vs.toArray.size = 1 then vs.toArray[0] else .tuple vs.toArray) = packV vs := by
  match vs with
  | [] => rfl
  | [v] => rfl
  | v :: u :: r => simp [packV]
theorem V_pack {w : World} {pr : Nat → Nat → Prop} {i : Places} : ∀ (vs : List Value) (ds : List DV), vs.length = ds.length → (∀ j, j < ds.length → V w pr i (vs.getD j undef) (ds.getD j .any)) → V w pr i (packV vs) (packRes ds)
  | [], [], _, _ => .tuple _ #[] [] rfl (fun j hj => by simp at hj)
  | [u], [d], _, h => h 0 (by simp)
  | u1 :: u2 :: ur, d1 :: d2 :: dr, hl, h => .tuple _ _ _ (by simpa using hl) (fun j hj => by
      have := h j hj
      simpa [List.getD, Array.getD_eq_getD_getElem?] using this)
  | [], _ :: _, hl, _ => by simp at hl
  | _ :: _, [], hl, _ => by simp at hl
  | [_], _ :: _ :: _, hl, _ => by simp at hl
  | _ :: _ :: _, [_], hl, _ => by simp at hl
theorem resAt_pack (rs : List ResultVar) (vs : List Value) (hl : rs.length = vs.length) {j : Nat} {v : Value} (hj : vs[j]? = some v) : resAt (packV vs) (resLoc rs j) = some v := by
  match rs, vs with
  | [_], [u] =>
    have hj0 : j = 0 := by
      have := (List.getElem?_eq_some_iff.1 hj).1
      simp at this; exact this
    subst hj0
    simpa [resAt, packV, resLoc] using hj
  | [], [] => simp at hj
  | r1 :: r2 :: rr, u1 :: u2 :: ur => simpa [resAt, packV, resLoc] using hj
  | [], _ :: _ => simp at hl
  | _ :: _, [] => simp at hl
  | [_], _ :: _ :: _ => simp at hl
  | _ :: _ :: _, [_] => simp at hl

/-- A contract out of a body. -/
theorem ACalls.intro {f : FuncId} {fn : Func} {c : Code} {ds : List DV} {S : List Box} {R : ARes → Prop} (hf : P.funcs[f]? = some fn) (hb : fn.body = some c)
    (h : AWp P c ⟨ds ++ List.replicate (fn.ntmps - ds.length) .any, [], S, []⟩ (retQ P fn R)) : ACalls P f ds S R := by
  intro w G args hiL hbx hsz hargs
  refine calls_of_wp hf hb (wp_mono (h w G _ w G (Evol.refl w G) ?_) fun e a' w' hp => ?_)
  · refine ⟨by simp [hsz], fun j hj => ?_, rfl, hbx, fun b hb => (by rw [hiL] at hb; simp at hb), fun x hx => (by simp at hx), List.Pairwise.nil⟩
    by_cases hlt : j < ds.length
    · have e1 : (args ++ Array.replicate (fn.ntmps - args.size) undef).getD j undef = args.getD j undef := by
        have : j < args.size := by omega
        simp [Array.getD, this, show j < args.size + (fn.ntmps - args.size) by omega]
      have e2 : (ds ++ List.replicate (fn.ntmps - ds.length) DV.any).getD j DV.any = ds.getD j .any := by simp [List.getD, List.getElem?_append_left hlt]
      rw [e1]
      simp only [e2]
      exact hargs j hlt
    · have e2 : (ds ++ List.replicate (fn.ntmps - ds.length) DV.any).getD j DV.any = .any := by
        simp only [List.getD]
        rw [List.getElem?_append_right (by omega)]
        cases hq : (List.replicate (fn.ntmps - ds.length) DV.any)[j - ds.length]? with
        | none => rfl
        | some d => have := List.mem_of_getElem? hq; simp at this; simp [this.2]
      simp only [e2]
      exact .any _ _
  · obtain ⟨x, st, G', he, hE, hr, hQ⟩ := hp
    have fin : (∃ ds ob, resAll P st fn.results.toList = some (ds, ob) ∧ ob ∧ flatD (packRes ds) = true ∧ R ⟨packRes ds, st.S, [], st.own.filterMap (ownRes fn.results.toList)⟩) →
        a'.defers = [] ∧ ∃ v, (results fn a'.tmps).run P w' = .ok v w' ∧ ∃ v1 r G1, Ending.returned v = .returned v1 ∧ Evol w G w' G1 ∧ ResOk w.heap.size w' G1 v1 r ∧ R r := by
      rintro ⟨ds', ob, hres, hob, hfl, hR⟩
      obtain ⟨vs, q1, q2, q3, q4, q5⟩ := resAll_ok hr hres hob
      have hrun : (results fn a'.tmps).run P w' = .ok (packV vs) w' := by
        rw [results_eq, Array.mapM_eq_mapM_toList]
        simp only [Sem.run_bind, Sem.run_map, q4, Result.andThen_ok, Sem.run_pure, packV_eq]
      have hV : V w' G'.pr G'.at (packV vs) (packRes ds') := V_pack vs ds' q1 q3
      have hVn := hV.flatD hfl
      have hres1 : ∀ x, x ∈ st.own → ∀ y, ownRes fn.results.toList x = some y → y.e = x.e ∧ y.k = x.k ∧ resAt (packV vs) y.loc = valAt a' w' G' x.loc := by
        intro x hx y hy
        unfold ownRes at hy
        split at hy <;> try (cases hy; done)
        rename_i s hl
        split at hy <;> try (cases hy; done)
        rename_i j hj
        cases hy
        refine ⟨rfl, rfl, ?_⟩
        have hjr : fn.results.toList[j]? = some (.tmp s) := by
          obtain ⟨hjl, hp, -⟩ := List.findIdx?_eq_some_iff_getElem.1 hj
          rw [List.getElem?_eq_getElem hjl]
          split at hp
          · rename_i t ht; rw [ht]; simp at hp; rw [hp]
          · cases hp
        have hvj := q5 j s hjr
        rw [hl]
        exact resAt_pack fn.results.toList vs (by omega) hvj
      refine ⟨hr.defers, packV vs, hrun, packV vs, _, { G' with iL := [] }, rfl, ⟨hE.os, hE.tape, hE.output, hE.size, hE.old, hE.iS, hE.pr, hE.prold⟩, ⟨?_, hVn.any_places _, fun y hy => ?_, ?_⟩, hR⟩
      · refine ⟨hr.boxes.lenS, rfl, hr.boxes.boxS, fun r b x hb => by simp at hb, ?_, fun b o hp => ?_⟩
        · have := (List.nodup_append.1 hr.boxes.nodup).1
          simpa using this
        · obtain ⟨p1, p2, -⟩ := hr.boxes.prok b o hp
          exact ⟨p1, p2, by simp⟩
      · obtain ⟨x, hx, hxy⟩ := List.mem_filterMap.1 hy
        obtain ⟨e1, e2, e3⟩ := hres1 x hx y hxy
        obtain ⟨u, hu, n, xs, ho, hg⟩ := hr.own x hx
        refine ⟨u, by rw [e3]; exact hu, n, xs, by rw [e1, e2]; exact ho, fun g hgu => ?_⟩
        obtain ⟨g1, -, g3⟩ := hg g hgu
        exact ⟨g1, by simp, by rw [e2]; exact g3⟩
      · refine List.pairwise_filterMap.2 (hr.dist.imp_of_mem fun {x y} hx hy hxy x' hx' y' hy' u t hu ht => ?_)
        rw [(hres1 x hx x' hx').2.2] at hu
        rw [(hres1 y hy y' hy').2.2] at ht
        exact hxy u t hu ht
    cases e <;> cases x <;> simp only [ERel] at he
    case normal.normal => exact fin hQ
    case ret.ret => exact fin hQ
    all_goals exact hQ.elim

end
end Go.AL
