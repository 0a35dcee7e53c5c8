import Derived.Test.YteagcbkkonabbaaGreatDoorRb
import Derived.Deep.Upon
set_option linter.all false
namespace Go.RT
set_option linter.unusedVariables false
variable {E : TEnv}
section
variable {P : Program} {w0 w w' w'' : World} {G0 G G' G'' : Ghost} {st : TS E} {a : Act} {o : Oper}
theorem Rel.setBox (h:Rel E w0 G0 st a w G) {r b:Nat} (hat:G.i[r]? = some b) (hsz:w'.heap.size=w.heap.size) (h1:w'.os=w.os) (h2:w'.tape=w.tape) (h3:w'.output=w.output)
  (hother:∀b',b'≠b→w'.heap[b']? = w.heap[b']?) {x:TBox E} (hx:Goes w G w' G→BoxOk E w' G b x):Rel E w0 G0 { st with H:=st.H.set r x,d:=r::st.d } a w' G:=by
 have hin:b∈G.i:=List.mem_of_getElem? hat
 have hprb:∀o,¬ G.pr b o:=fun o hp=>(h.boxes.prok b o hp).2 hin
 have hg:Goes w G w' G:=⟨fun _ _ h=>h,fun b' o v hp hv=>by
  have:b'≠b:=fun e=>by subst e;exact hprb o hp
  rw [World.cell?_of_block (w:=w) (w':=w') (hother b' this)]
  exact hv,fun _ _ h=>h,fun j x y hj=>⟨x,y,hj,Nat.le_refl _,fun _=>rfl⟩⟩
 have ev:=h.evol
 refine⟨⟨h1.trans ev.os,h2.trans ev.tape,h3.trans ev.output,by rw [hsz];exact ev.size,fun b' hb' hn=>?_,ev.goes.trans hg,ev.prold,ev.newB,ev.newG⟩,h.size,fun j d hj=>(h.tmps j d hj).mono hg,h.defers.mono hg,?_,fun r' b' hb' hd=>?_,h.pins,h.softs.keep hg fun j y z hj _=>⟨y,hj,rfl,rfl,fun c hbk=>⟨hother c (fun e=>by
   obtain⟨n,xs,-,-,hb⟩:=h.boxes.grow j y z hj
   subst e
   exact (hb c hbk).2.1 hin),fun o h=>h⟩⟩⟩
 ·rw [hother b' (fun e=>?_)]
  ·exact ev.old b' hb' hn
  ·subst e
   by_cases hr:r<G0.i.length
   ·have e1:=ev.goes.i r _ (List.getElem?_eq_getElem hr)
    rw [hat] at e1
    exact hn (.inl (by rw [Option.some.inj e1];exact List.getElem_mem hr))
   ·have:=ev.newB r b' (by omega) hat
    omega
 rotate_left
 ·simp only [List.mem_cons,not_or] at hd
  have q0:=ev.goes.i r' b' hb'
  rw [hother b' (fun e=>?_)]
  ·exact h.fix r' b' hb' hd.2
  ·subst e
   have q1:=List.getElem?_eq_some_iff.1 hat
   have q2:=List.getElem?_eq_some_iff.1 q0
   exact hd.1 ((List.getElem_inj h.boxes.nodup).1 (q2.2.trans q1.2.symm))
 refine⟨by simp [h.boxes.len],h.boxes.gs,fun r' b' y hb' hy=>?_,fun b' hb'=>by rw [hsz];exact h.boxes.lt b' hb',h.boxes.nodup,fun b' o hp=>by rw [hsz];exact h.boxes.prok b' o hp,fun j y z hj=>?_,h.boxes.apart,glob_mono hg h.boxes.glob⟩
 ·by_cases hr:r=r'
  ·subst hr
   rw [hat] at hb'
   cases hb'
   have hl:r<st.H.length:=by rw [←h.boxes.len];exact (List.getElem?_eq_some_iff.1 hat).1
   simp [hl] at hy
   subst hy
   exact hx hg
  ·have hne:b'≠b:=fun e=>by
    subst e
    have q1:=List.getElem?_eq_some_iff.1 hat
    have q2:=List.getElem?_eq_some_iff.1 hb'
    exact hr ((List.getElem_inj h.boxes.nodup).1 (q1.2.trans q2.2.symm))
   rw [List.getElem?_set_ne hr] at hy
   exact (h.boxes.box r' b' y hb' hy).mono hg (hother b' hne)
 ·obtain⟨n,xs,ho,hz,hb⟩:=h.boxes.grow j y z hj
  refine⟨n,xs,⟨ho.1,?_⟩,hz,fun c hcl=>?_⟩
  ·rcases ho.2 with h2 | ⟨g,cap,cur,h2,h3,h4,h5⟩
   ·exact .inl h2
   ·refine .inr ⟨g,cap,cur,h2,h3,?_,h5⟩
    rw [hother g (fun e=>?_)]
    ·exact h4
    ·subst e
     exact (hb g (by rw [h2];rfl)).2.1 hin
  ·rw [hsz];exact hb c hcl
end
end Go.RT
namespace Go.RT
set_option linter.unusedVariables false
variable {E : TEnv}
section
variable {P : Program} {w0 w w' : World} {G0 G G' : Ghost} {st : TS E} {a : Act} {o : Oper}
def Does (P:Program) (w0:World) (G0:Ghost) (a:Act) (w:World) (o:Oper) (st':TS E):Prop :=
 ∃nx v w' G',(execOp a.eval o).run P w=.ok nx w'∧(nx=.value v∨(nx=.skip∧v=undef))∧Rel E w0 G0 st' (a.put o.dst v) w' G'
theorem Gives.does (hr:Rel E w0 G0 st a w G) {d:TV E} (h:Gives P a w G o d):Does P w0 G0 a w o { st with t:=setT st.t o.dst d }:=by
 obtain⟨v,hv,hrun⟩:=h
 exact⟨_,v,w,G,hrun w (SameL.refl _ w),.inl rfl,hr.put hv o.dst⟩
theorem does_newBox (hr:Rel E w0 G0 st a w G) {ob:Obj} {x:TBox E} (hx:BoxOk E (w.alloc ob) G w.heap.size x)
  (hrun:(execOp a.eval o).run P w=.ok (.value (.pointer (some ⟨w.heap.size,0,none⟩))) (w.alloc ob)) :
  Does P w0 G0 a w o { st with t:=setT st.t o.dst (.ptr st.H.length 0),H:=st.H++[x] }:=by
 have hN:=hr.newBox ob x hx
 refine⟨_,_,_,_,hrun,.inl rfl,hN.put (d:=.ptr st.H.length 0) ?_ o.dst⟩
 simp only [VT]
 refine⟨_,rfl,?_⟩
 rw [←hr.boxes.len];simp
theorem does_store (hE:E.Ok) (hr:Rel E w0 G0 st a w G) {t:TypeId} {x y:Operand} {i:TI} (ho:o.op=.store t x y) (ht:tinfo P t=some i) {r off:Nat} (hd:st.ev x=.ptr r off)
  {t':TypeId} {cs ds:List (TV E)} (hb:st.H[r]? = some (.cells t' cs)) (hy:(st.ev y).cellsT=some ds) (h4:ds.length=i.size) (h5:off+i.size≤cs.length) :
  Does P w0 G0 a w o { st with t:=setT st.t o.dst .any,H:=st.H.set r (.cells t' (cs.take off++ds++cs.drop (off+ds.length))),d:=r::st.d }:=by
 have hvx:=hr.ev x
 rw [hd] at hvx
 simp only [VT] at hvx
 obtain⟨b,he,hat⟩:=hvx
 obtain⟨vs,hh,hone,hvs⟩:=hr.box hat hb
 obtain⟨hl,hl1⟩:=cellsT_sound hE (hr.ev y) hy
 have hlen:(a.eval y).cells.toList.length=i.size:=by rw [hl.length,h4]
 have hlen':(a.eval y).cells.size=i.size:=by simpa using hlen
 have hsz:vs.size=cs.length:=by simpa using hvs.length
 obtain⟨xt,hxt,-,hxs,-⟩:=tinfo_some ht
 have hfit:off+0+(a.eval y).cells.toList.length≤vs.size:=by rw [hlen,hsz];omega
 have hstore:=run_storeCells_at (P:=P) b off t' (a.eval y).cells.toList 0 vs w hh hfit (fun v hv=>hl1 v (by simpa using hv))
 simp only [Nat.add_zero] at hstore
 let new:=(vs.toList.take off++(a.eval y).cells.toList++vs.toList.drop (off+(a.eval y).cells.toList.length)).toArray
 have hrun:(execOp a.eval o).run P w=.ok .skip (w.setRow b new):=by
  simp only [execOp,ho,Instr.storeAt,Instr.sureAddr,he,storeVar,Sem.run_bind,Sem.run_pure,Result.andThen_ok,run_sizeOf' hxt,hxs,hlen']
  simp only [ne_eq,not_true,if_false,hstore,Result.andThen_ok]
  rfl
 have hnew:(w.setRow b new).heap[b]? = some (.cells new t' (0,0)):=setRow_heap w b vs _ t' _ hh
 have hoth:∀b',b'≠b→(w.setRow b new).heap[b']? = w.heap[b']?:=fun b' hb'=>setRow_other w b b' _ hb'
 have hR:=hr.setBox (w':=w.setRow b new) hat (by simp) rfl rfl rfl hoth (x:=.cells t' (cs.take off++ds++cs.drop (off+ds.length))) (fun hg=>by
  refine⟨new,hnew,fun u hu=>?_,?_⟩
  ·have hu:u∈vs.toList.take off++(a.eval y).cells.toList++vs.toList.drop (off+(a.eval y).cells.toList.length):=by simpa [new] using hu
   simp only [List.mem_append] at hu
   rcases hu with (hu | hu) | hu
   ·exact hone u (by simpa using List.mem_of_mem_take hu)
   ·exact hl1 u (by simpa using hu)
   ·exact hone u (by simpa using List.mem_of_mem_drop hu)
  ·have:=(((hvs.mono hg).take off).append (hl.mono hg)).append ((hvs.mono hg).drop (off+ds.length))
   simpa only [new,List.toList_toArray,hl.length] using this)
 refine⟨_,undef,_,G,hrun,.inr ⟨rfl,rfl⟩,hR.put (v:=undef) (by simp only [VT]) o.dst⟩
end
end Go.RT
namespace Go.RT
set_option linter.unusedVariables false
variable {E : TEnv}
section
variable {P : Program} {w0 w w' : World} {G0 G G' : Ghost} {st : TS E} {a : Act} {o : Oper}
theorem Rel.addGrow (h:Rel E w0 G0 st a w G) (x:TGrow) (hd:Value) (hok:GrowOk E w G x hd) (hnew:∀b,hd.ownBlock=some b→w0.heap.size≤b)
  (hap:∀(j:Nat) y z b,G.g[j]? = some (y,z)→z.ownBlock=some b→hd.ownBlock≠some b) :
  Rel E w0 G0 { st with g:=st.g++[x] } a w { G with g:=G.g++[(x,hd)] }:=by
 have hg:Goes w G w { G with g:=G.g++[(x,hd)] }:=⟨fun _ _ h=>h,fun _ _ _ _ h=>h,fun _ _ h=>h,fun j y z hj=>⟨y,z,by
  show (G.g++[(x,hd)])[j]? = _
  rw [List.getElem?_append_left (List.getElem?_eq_some_iff.1 hj).1];exact hj,Nat.le_refl _,fun _=>rfl⟩⟩
 have last:∀(j:Nat) y z,(G.g++[(x,hd)])[j]? = some (y,z)→G.g[j]? = some (y,z)∨(j=G.g.length∧y=x∧z=hd):=by
  intro j y z hj
  by_cases hl:j<G.g.length
  ·rw [List.getElem?_append_left hl] at hj
   exact .inl hj
  ·have:=(List.getElem?_eq_some_iff.1 hj).1
   simp at this
   have e:j=G.g.length:=by omega
   subst e
   simp at hj
   exact .inr ⟨rfl,hj.1.symm,hj.2.symm⟩
 have ev:=h.evol
 refine⟨⟨ev.os,ev.tape,ev.output,ev.size,ev.old,ev.goes.trans hg,ev.prold,ev.newB,fun j y z b hj hb=>?_⟩,h.size,fun j d hj=>(h.tmps j d hj).mono hg,h.defers.mono hg,?_,h.fix,h.pins,h.softs.keep hg fun j y z hj _=>⟨y,by
   show (G.g++[(x,hd)])[j]? = _
   rw [List.getElem?_append_left (List.getElem?_eq_some_iff.1 hj).1];exact hj,rfl,rfl,fun b hbk=>⟨rfl,fun o h=>h⟩⟩⟩
 ·rcases last j y z hj with hj | ⟨-,-,rfl⟩
  ·exact ev.newG j y z b hj hb
  ·exact .inl (hnew b hb)
 refine⟨h.boxes.len,by simp [h.boxes.gs],fun r b y hb hy=>(h.boxes.box r b y hb hy).mono hg rfl,h.boxes.lt,h.boxes.nodup,h.boxes.prok,fun j y z hj=>?_,fun j j' y z y' z' b hj hj' hb hb'=>?_,glob_mono hg h.boxes.glob⟩
 ·rcases last j y z hj with hj | ⟨-,rfl,rfl⟩
  ·exact h.boxes.grow j y z hj
  ·exact hok
 ·rcases last j y z hj with q | ⟨q1,-,q3⟩<;>rcases last j' y' z' hj' with q' | ⟨q1',-,q3'⟩
  ·exact h.boxes.apart j j' y z y' z' b q q' hb hb'
  ·rw [q3'] at hb'
   exact (hap j y z b q hb hb').elim
  ·rw [q3] at hb
   exact (hap j' y' z' b q' hb' hb).elim
  ·rw [q1,q1']
theorem Rel.zeroRow (h:Rel E w0 G0 st a w G) {e:TypeId} {k:Nat} (hz:E.zc e=true) :
  Rel E w0 G0 { st with g:=st.g++[⟨0,e,k⟩] } a (w.alloc (.cells #[] e))
   { G with g:=G.g++[(⟨0,e,k⟩,.slice (some ⟨w.heap.size,0,none⟩) 0 0)] }:=by
 have hG:=h.grow (Same.alloc w (.cells #[] e)) rfl rfl rfl G.pr (fun _ _ h=>h) (fun b o hb hp=>hp) (fun b o hp=>Nat.lt_of_lt_of_le (h.boxes.prok b o hp).1 (by simp))
 refine hG.addGrow ⟨0,e,k⟩ (.slice (some ⟨w.heap.size,0,none⟩) 0 0) ?_ (fun b hb=>?_) (fun j y z b hj hz hb=>?_)
 ·refine⟨0,[],⟨by simp,.inr ⟨w.heap.size,0,#[],rfl,Nat.zero_le _,heap_alloc_new w _,Nat.le_refl _,Nat.zero_le _,by simp,by simp⟩⟩,fun a m _=>hz,fun b hb=>?_⟩
  cases hb
  refine⟨by simp,fun hm=>?_,fun o ho hp=>?_⟩
  ·exact absurd (h.boxes.lt _ hm) (Nat.lt_irrefl _)
  ·exact absurd (h.boxes.prok _ _ hp).1 (Nat.lt_irrefl _)
 ·cases hb;exact h.evol.size
 ·cases hb
  obtain⟨n',xs',-,-,hb'⟩:=h.boxes.grow j y z hj
  exact absurd (hb' _ hz).1 (Nat.lt_irrefl _)
theorem Rel.newRow (h:Rel E w0 G0 st a w G) {e:TypeId} {k n cap:Nat} {cur:Array Value} (hsz:cur.size=cap * k) (hn:n≤cap) (hc0:0<cap) (hcap:cap≤maxLen) :
  Rel E w0 G0 { st with g:=st.g++[⟨0,e,k⟩] } a (w.alloc (.cells cur e))
   { G with g:=G.g++[(⟨0,e,k⟩,.slice (some ⟨w.heap.size,0,none⟩) n cap)],pr:=fun b o=>G.pr b o∨(b=w.heap.size∧o<n * k) }:=by
 have hG:=h.grow (Same.alloc w (.cells cur e)) rfl rfl rfl (fun b o=>G.pr b o∨(b=w.heap.size∧o<n * k)) (fun _ _ h=>.inl h)
  (fun b o hb hp=>hp.elim id fun q=>absurd hb (by rw [q.1];omega)) (fun b o hp=>by
   rcases hp with hp | ⟨rfl,-⟩
   ·exact Nat.lt_of_lt_of_le (h.boxes.prok b o hp).1 (by simp)
   ·simp)
 refine hG.addGrow ⟨0,e,k⟩ (.slice (some ⟨w.heap.size,0,none⟩) n cap) ?_ (fun b hb=>?_) (fun j y z b hj hz hb=>?_)
 ·refine⟨n,cur.toList.take (n * k),⟨?_,.inr ⟨w.heap.size,cap,cur,rfl,Nat.zero_le _,heap_alloc_new w _,hn,hcap,hsz,rfl⟩⟩,fun a m e=>by simp at e;omega,fun b hb=>?_⟩
  ·rw [List.length_take,Array.length_toList,hsz]
   exact Nat.min_eq_left (Nat.mul_le_mul_right k hn)
  ·cases hb
   refine⟨by simp,fun hm=>?_,fun o ho hp=>?_⟩
   ·exact absurd (h.boxes.lt _ hm) (Nat.lt_irrefl _)
   ·rcases hp with hp | ⟨-,hlt⟩
    ·exact absurd (h.boxes.prok _ _ hp).1 (Nat.lt_irrefl _)
    ·have ho:n * k≤o:=ho
     omega
 ·cases hb;exact h.evol.size
 ·cases hb
  obtain⟨n',xs',-,-,hb'⟩:=h.boxes.grow j y z hj
  exact absurd (hb' _ hz).1 (Nat.lt_irrefl _)
end
end Go.RT
namespace Go.RT
set_option linter.unusedVariables false
variable {E : TEnv}
section
variable {P : Program} {w0 w w' : World} {G0 G G' : Ghost} {st : TS E} {a : Act} {o : Oper}
theorem Rel.setGrow (h:Rel E w0 G0 st a w G) {j:Nat} {x:TGrow} {hd hd':Value} (hj:G.g[j]? = some (x,hd)) (hsoft:∀c,(j,c)∉st.c) (hsz:w.heap.size≤w'.heap.size) (h1:w'.os=w.os) (h2:w'.tape=w.tape) (h3:w'.output=w.output)
  (hother:∀b,b<w.heap.size→hd.ownBlock≠some b→w'.heap[b]? = w.heap[b]?) (hcells:∀b o v,G.pr b o→w.cell? ⟨b,o,none⟩=some v→w'.cell? ⟨b,o,none⟩=some v)
  (pr':Nat→Nat→Prop) (hp:∀b o,G.pr b o→pr' b o) (hpo:∀b o,pr' b o→G.pr b o∨hd'.ownBlock=some b)
  (hok:GrowOk E w' { G with pr:=pr' } { x with ver:=x.ver+1 } hd') (hblk:∀b,hd'.ownBlock=some b→w.heap.size≤b∨hd.ownBlock=some b) :
  Rel E w0 G0 { st with g:=st.g.set j { x with ver:=x.ver+1 } } a w' { G with g:=G.g.set j ({ x with ver:=x.ver+1 },hd'),pr:=pr' }:=by
 have hjl:j<G.g.length:=(List.getElem?_eq_some_iff.1 hj).1
 obtain⟨n0,xs0,-,-,hhd⟩:=h.boxes.grow j x hd hj
 have at':∀(m:Nat) y z,(G.g.set j ({ x with ver:=x.ver+1 },hd'))[m]? = some (y,z)→(m=j∧y={ x with ver:=x.ver+1 }∧z=hd')∨(m≠j∧G.g[m]? = some (y,z)):=by
  intro m y z hm
  by_cases e:m=j
  ·subst e
   simp [hjl] at hm
   exact .inl ⟨rfl,hm.1.symm,hm.2.symm⟩
  ·rw [List.getElem?_set_ne (fun q=>e q.symm)] at hm
   exact .inr ⟨e,hm⟩
 have hg:Goes w G w' { G with g:=G.g.set j ({ x with ver:=x.ver+1 },hd'),pr:=pr' }:=by
  refine⟨hp,hcells,fun _ _ h=>h,fun m y z hm=>?_⟩
  by_cases e:m=j
  ·subst e
   rw [hj] at hm
   cases hm
   exact⟨_,_,by simp [hjl];exact⟨rfl,rfl⟩,Nat.le_succ _,fun q=>by simp at q⟩
  ·exact⟨y,z,by
    show (G.g.set j _)[m]? = _
    rw [List.getElem?_set_ne (fun q=>e q.symm)];exact hm,Nat.le_refl _,fun _=>rfl⟩
 have hbox:∀b,b∈G.i→hd.ownBlock≠some b:=fun b hb e=>(hhd b e).2.1 hb
 have ev:=h.evol
 have hrow:∀b,b<w0.heap.size→hd.ownBlock=some b→G0.rows b:=fun b hb e=>by
  rcases ev.newG j x hd b hj e with q | ⟨y,z,q1,q2⟩
  ·omega
  ·exact⟨y,z,List.mem_of_getElem? q1,q2⟩
 have hsofts:Softs E w' { G with g:=G.g.set j ({ x with ver:=x.ver+1 },hd'),pr:=pr' } st.c:=h.softs.keep hg fun m y z hm hc=>by
  have hne:m≠j:=fun e=>by subst e;obtain⟨c,hc⟩:=hc;exact hsoft c hc
  obtain⟨n,xs,-,-,hq⟩:=h.boxes.grow m y z hm
  refine⟨y,by show (G.g.set j _)[m]? = _;rw [List.getElem?_set_ne (fun q=>hne q.symm)];exact hm,rfl,rfl,fun b hb=>⟨hother b (hq b hb).1 (fun e=>hne (h.boxes.apart m j y z x hd b hm hj hb e)),fun o hpr=>?_⟩⟩
  rcases hpo b o hpr with q | q
  ·exact q
  ·rcases hblk b q with q' | q'
   ·have:=(hq b hb).1;omega
   ·exact (hne (h.boxes.apart m j y z x hd b hm hj hb q')).elim
 refine⟨⟨h1.trans ev.os,h2.trans ev.tape,h3.trans ev.output,Nat.le_trans ev.size hsz,fun b hb hn=>?_,ev.goes.trans hg,fun b o hb hpr=>?_,ev.newB,fun m y z b hm hb=>?_⟩,h.size,
  fun m d hm=>(h.tmps m d hm).mono hg,h.defers.mono hg,?_,fun r b hb hd=>(hother b (h.boxes.lt b (List.mem_of_getElem? (ev.goes.i r b hb))) (hbox b (List.mem_of_getElem? (ev.goes.i r b hb)))).trans (h.fix r b hb hd),h.pins,hsofts⟩
 ·rw [hother b (Nat.lt_of_lt_of_le hb ev.size) (fun e=>hn (.inr (hrow b hb e)))]
  exact ev.old b hb hn
 ·rcases hpo b o hpr with q | q
  ·exact ev.prold b o hb q
  ·rcases hblk b q with q' | q'
   ·have:=ev.size;omega
   ·exact .inr (hrow b hb q')
 ·rcases at' m y z hm with⟨rfl,-,rfl⟩ | ⟨-,q⟩
  ·rcases hblk b hb with q | q
   ·exact .inl (Nat.le_trans ev.size q)
   ·exact ev.newG m x hd b hj q
  ·exact ev.newG m y z b q hb
 refine⟨h.boxes.len,?_,fun r b y hb hy=>?_,fun b hb=>Nat.lt_of_lt_of_le (h.boxes.lt b hb) hsz,h.boxes.nodup,fun b o hpr=>?_,fun m y z hm=>?_,fun m m' y z y' z' b hm hm' hb hb'=>?_,glob_mono hg h.boxes.glob⟩
 ·simp only []
  rw [←h.boxes.gs,List.map_set]
 ·have hm:=List.mem_of_getElem? hb
  exact (h.boxes.box r b y hb hy).mono hg (hother b (h.boxes.lt b hm) (hbox b hm))
 ·rcases hpo b o hpr with q | q
  ·exact⟨Nat.lt_of_lt_of_le (h.boxes.prok b o q).1 hsz,(h.boxes.prok b o q).2⟩
  ·obtain⟨n,xs,-,-,hq⟩:=hok
   exact⟨(hq b q).1,(hq b q).2.1⟩
 ·rcases at' m y z hm with⟨-,rfl,rfl⟩ | ⟨hne,q⟩
  ·exact hok
  ·obtain⟨n,xs,ho,hz,hq⟩:=h.boxes.grow m y z q
   refine⟨n,xs,⟨ho.1,?_⟩,hz,fun b hb=>?_⟩
   ·rcases ho.2 with q2 | ⟨g,cap,cur,q2,q3,q4,q5⟩
    ·exact .inl q2
    ·have hgb:z.ownBlock=some g:=by rw [q2];rfl
     refine .inr ⟨g,cap,cur,q2,q3,?_,q5⟩
     rw [hother g (hq g hgb).1 (fun e=>hne (h.boxes.apart m j y z x hd g q hj hgb e))]
     exact q4
   ·obtain⟨p1,p2,p3⟩:=hq b hb
    refine⟨Nat.lt_of_lt_of_le p1 hsz,p2,fun o ho' hpr=>?_⟩
    rcases hpo b o hpr with q' | q'
    ·exact p3 o ho' q'
    ·rcases hblk b q' with q'' | q''
     ·omega
     ·exact hne (h.boxes.apart m j y z x hd b q hj hb q'')
 ·have key:∀(m:Nat) y z,m≠j→G.g[m]? = some (y,z)→z.ownBlock=some b→hd'.ownBlock=some b→False:=by
   intro m y z hne q hb hb'
   obtain⟨n,xs,-,-,hq⟩:=h.boxes.grow m y z q
   rcases hblk b hb' with q'' | q''
   ·have:=(hq b hb).1;omega
   ·exact hne (h.boxes.apart m j y z x hd b q hj hb q'')
  rcases at' m y z hm with⟨e1,-,e2⟩ | ⟨hne,q⟩<;>rcases at' m' y' z' hm' with⟨e1',-,e2'⟩ | ⟨hne',q'⟩
  ·rw [e1,e1']
  ·rw [e2] at hb
   exact (key m' y' z' hne' q' hb' hb).elim
  ·rw [e2'] at hb'
   exact (key m y z hne q hb hb').elim
  ·exact h.boxes.apart m m' y z y' z' b q q' hb hb'
end
end Go.RT
namespace Go.RT
set_option linter.unusedVariables false
variable {E : TEnv}
theorem idx_lt {j l n k:Nat} (hj:j<n) (hl:l<k):j * k+l<n * k:=by
 have:(j+1) * k≤n * k:=Nat.mul_le_mul_right k hj
 rw [Nat.add_mul,Nat.one_mul] at this
 omega
theorem Flat.append {w:World} {pr:Nat→Nat→Prop} {k:Nat} {xs ys:List Value} {es fs:List (List DV)} (h:Flat w pr k xs es) (h':Flat w pr k ys fs):Flat w pr k (xs++ys) (es++fs):=by
 have e1:∀j,j<es.length→(es++fs).getD j []=es.getD j []:=fun j hj=>by simp [List.getD,List.getElem?_append_left hj]
 have e2:∀j,¬ j<es.length→(es++fs).getD j []=fs.getD (j - es.length) []:=fun j hj=>by simp [List.getD,List.getElem?_append_right (Nat.le_of_not_lt hj)]
 refine⟨by simp [h.1,h'.1,Nat.add_mul],fun j hj=>?_,fun j l hj hl=>?_⟩
 ·by_cases hlt:j<es.length
  ·rw [e1 j hlt];exact h.2.1 j hlt
  ·rw [e2 j hlt];exact h'.2.1 _ (by simp at hj;omega)
 ·by_cases hlt:j<es.length
  ·have hq:j * k+l<xs.length:=by rw [h.1];exact idx_lt hlt hl
   have:(xs++ys).getD (j * k+l) undef=xs.getD (j * k+l) undef:=by simp [List.getD,List.getElem?_append_left hq]
   rw [this,e1 j hlt]
   exact h.2.2 j l hlt hl
  ·have hge:es.length≤j:=Nat.le_of_not_lt hlt
   have hq:es.length * k≤j * k+l:=Nat.le_trans (Nat.mul_le_mul_right k hge) (Nat.le_add_right _ _)
   have hsub:j * k+l - es.length * k=(j - es.length) * k+l:=by
    rw [Nat.sub_mul]
    have:=Nat.mul_le_mul_right k hge
    omega
   have:(xs++ys).getD (j * k+l) undef=ys.getD ((j - es.length) * k+l) undef:=by
    simp only [List.getD]
    rw [List.getElem?_append_right (by rw [h.1];exact hq),h.1,hsub]
   rw [this,e2 j hlt]
   exact h'.2.2 (j - es.length) l (by simp at hj;omega) hl
theorem Flat.nil {w:World} {pr:Nat→Nat→Prop} {k:Nat}:Flat w pr k [] []:=⟨by simp,fun j hj=>by simp at hj,fun j l hj=>by simp at hj⟩
theorem Flat.one {w:World} {pr:Nat→Nat→Prop} {k:Nat} (hk0:0<k) {xs:List Value} {es:List (List DV)} (h:Flat w pr k xs es):∀u,u∈xs→u.oneCell'=true:=by
 intro u hu
 obtain⟨q,hq,rfl⟩:=List.getElem_of_mem hu
 have hq':q<es.length * k:=by rw [←h.1];exact hq
 have:=(h.2.2 (q / k) (q % k) ((Nat.div_lt_iff_lt_mul hk0).2 hq') (Nat.mod_lt _ hk0)).one
 rw [show q / k * k+q % k=q by have:=Nat.div_add_mod q k;rw [Nat.mul_comm] at this;exact this] at this
 simpa [List.getD,hq] using this
theorem VD_row {w:World} {pr:Nat→Nat→Prop} {b k cap:Nat} {es:List (List DV)} {xs:List Value} (hcap:es.length≤cap)
  (hx:∀q,q<es.length * k→pr b q∧w.cell? ⟨b,q,none⟩=some (xs.getD q undef)) (h:Flat w pr k xs es) :
  VD w pr (.slice (some ⟨b,0,none⟩) es.length cap) (.slice k es):=by
 refine .slice b 0 cap k es (fun j l=>xs.getD (j * k+l) undef) hcap h.2.1 (fun j l hj hl=>?_) (fun j l hj hl=>h.2.2 j l hj hl)
 rw [Nat.zero_add]
 exact hx _ (idx_lt hj hl)
theorem setCells_row (g:Nat) (t:TypeId):∀(vs:List Value) (o:Nat) (cur:Array Value) (w:World),w.heap[g]? = some (.cells cur t (0,0))→o+vs.length≤cur.size →
  w.setCells g o vs=w.setRow g (cur.toList.take o++vs++cur.toList.drop (o+vs.length)).toArray
 | [],o,cur,w,hg,_=>by
  simp only [World.setCells,List.append_nil,List.length_nil,Nat.add_zero,List.take_append_drop,Array.toArray_toList]
  rw [setRow_self w g cur t (0,0) hg]
 | v::rest,o,cur,w,hg,hl=>by
  simp only [World.setCells]
  rw [setCell_eq_setRow w g o cur t (0,0) v hg]
  have ih:=setCells_row g t rest (o+1) (cur.setIfInBounds o v) (w.setRow g (cur.setIfInBounds o v)) (setRow_heap w g cur _ t _ hg) (by simp at hl ⊢;omega)
  rw [ih,setRow_setRow]
  congr 2
  have e:=list_seg_step cur.toList o v rest (by simp at hl ⊢;omega)
  simpa [Array.toList_setIfInBounds,Nat.add_assoc,Nat.add_comm] using e
theorem VD.flat {w:World} {pr:Nat→Nat→Prop} {v:Value} {k:Nat} {es:List (List DV)} (hk:0<k) (h:VD w pr v (.slice k es)) :
  ∃xs:List Value,Flat w pr k xs es∧((∃a,v=.slice a 0 0∧es=[])∨∃b off cap,v=.slice (some ⟨b,off,none⟩) es.length cap∧es.length≤cap ∧
   ∀q,q<es.length * k→pr b (off+q)∧w.cell? ⟨b,off+q,none⟩=some (xs.getD q undef)):=by
 rcases h.slice_inv with⟨ad,rfl,rfl⟩ | ⟨b,off,cap,c,rfl,hcap,hkk,h0,hv⟩
 ·exact⟨[],Flat.nil,.inl ⟨ad,rfl,rfl⟩⟩
 ·have hg:∀q,q<es.length * k→((List.range (es.length * k)).map fun q=>c (q / k) (q % k)).getD q undef=c (q / k) (q % k):=fun q hq=>by simp [List.getD,hq]
  have hdm:∀q,q<es.length * k→q / k<es.length∧q % k<k:=fun q hq=>⟨(Nat.div_lt_iff_lt_mul hk).2 hq,Nat.mod_lt q hk⟩
  refine⟨(List.range (es.length * k)).map fun q=>c (q / k) (q % k),⟨by simp,hkk,fun j l hj hl=>?_⟩,.inr ⟨b,off,cap,rfl,hcap,fun q hq=>?_⟩⟩
  ·have hlt:=idx_lt hj hl
   have e1:(j * k+l) / k=j:=by rw [Nat.mul_comm,Nat.mul_add_div hk,Nat.div_eq_of_lt hl,Nat.add_zero]
   have e2:(j * k+l) % k=l:=by rw [Nat.mul_comm,Nat.mul_add_mod,Nat.mod_eq_of_lt hl]
   rw [hg _ hlt,e1,e2]
   exact hv j l hj hl
  ·obtain⟨d1,d2⟩:=hdm q hq
   have:=h0 (q / k) (q % k) d1 d2
   rw [hg q hq]
   have e:off+q / k * k+q % k=off+q:=by
    have:=Nat.div_add_mod q k
    rw [Nat.mul_comm] at this
    omega
   rw [e] at this
   exact this
end Go.RT
namespace Go.RT
set_option linter.unusedVariables false
variable {E : TEnv}
section
variable {P : Program} {w0 w w' : World} {G0 G G' : Ghost} {st : TS E} {a : Act} {o : Oper}
theorem Rel.append (h:Rel E w0 G0 st a w G) {t tx ty e:TypeId} {i:TI} {j1 j2:Nat} {z:Value} (ht:tinfo P t=some ⟨.slice e,j1,j2,z⟩) (hi:tinfo P e=some i)
  (hk0:0<i.size) (hzs:i.zero.cells.size=i.size) {j:Nat} {x:TGrow} {v:Value} (hj:G.g[j]? = some (x,v)) (hsoft:∀c,(j,c)∉st.c) (hxe:x.e=e) (hxk:x.k=i.size) {es fs:List (List DV)}
  (hv:VD w G.pr v (.slice i.size es)) {y:Value} {news:List Value} (hsrc:Src P i.size tx y fs.length news w) (hf:Flat w G.pr i.size news fs)
  (h63:es.length+fs.length≤maxLen) (hbytes:(es.length+fs.length) * i.bytes≤140737488355328) :
  ∃v' w' pr',(Builtin.append_ #[t,tx] ty #[v,y]).run P w=.ok v' w' ∧
   Rel E w0 G0 { st with g:=st.g.set j { x with ver:=x.ver+1 } } a w' { G with g:=G.g.set j ({ x with ver:=x.ver+1 },v'),pr:=pr' } ∧
   VD w' pr' v' (.slice i.size (es++fs)):=by
 obtain⟨xt,hxt,hut,-⟩:=tinfo_some ht
 obtain⟨xe,hxe',hue,hsz,hby,hz⟩:=tinfo_some hi
 obtain⟨n,xs,ho,hz0,hg⟩:=h.boxes.grow j x v hj
 obtain⟨xs',hfl,hcase⟩:=hv.flat hk0
 have hmaxI:maxLen=9223372036854775807:=rfl
 subst hxe
 rw [hxk] at ho hg
 by_cases hm:fs.length=0
 ·have hfs:fs=[]:=List.eq_nil_of_length_eq_zero hm
  subst hfs
  have hnn:news=[]:=List.eq_nil_of_length_eq_zero (by simpa using hf.1)
  subst hnn
  refine⟨v,w,G.pr,?_,h.setGrow hj hsoft (Nat.le_refl _) rfl rfl rfl (fun _ _ _=>rfl) (fun _ _ _ _ h=>h) G.pr (fun _ _ h=>h) (fun _ _ h=>.inl h) ?_ (fun b hb=>.inr hb),by rw [List.append_nil];exact hv⟩
  ·have hsrc':Src P xe.size tx y 0 [] w:=by rw [hsz];exact hsrc
   rcases hcase with⟨ad,rfl,-⟩ | ⟨b,off,cap,rfl,hcap,-⟩
   ·exact run_append_nothing w t tx ty x.e xe hut hxe' ad 0 0 (Nat.le_refl _) y hsrc'
   ·exact run_append_nothing w t tx ty x.e xe hut hxe' _ _ _ hcap y hsrc'
  ·exact⟨n,xs,by dsimp only;rw [hxk];exact ho,hz0,by dsimp only;rw [hxk];exact hg⟩
 have hsrc':Src P xe.size tx y fs.length news w:=by rw [hsz];exact hsrc
 have hzl:∀c,(Builtin.zeroCells i.zero.cells c).size=c * i.size:=fun c=>by rw [size_zeroCells,hzs]
 have hff:=hfl.append hf
 have hlen:(es++fs).length=es.length+fs.length:=by simp
 have grow:∀(base:Option Addr) (old:Nat),v=.slice base es.length old→old<es.length+fs.length →
   (Builtin.firstCells xe.size es.length (.slice base es.length old)).run P w.drew=.ok xs'.toArray w.drew →
   ∃v' w' pr',(Builtin.append_ #[t,tx] ty #[v,y]).run P w=.ok v' w' ∧
   Rel E w0 G0 { st with g:=st.g.set j { x with ver:=x.ver+1 } } a w' { G with g:=G.g.set j ({ x with ver:=x.ver+1 },v'),pr:=pr' } ∧
   VD w' pr' v' (.slice i.size (es++fs)):=by
  intro base old hv0 hlt hfc
  have hfit:=growslice_fits (need:=es.length+fs.length) (old:=old) (bytes:=xe.bytes) hlt (by rw [hby];exact hbytes)
  have hr:=run_append_grow_src (P:=P) w t tx ty x.e xe i.zero hut hxe' hz base es.length old xs' hfc y fs.length news hsrc' hlt (by simp only [hmaxI] at h63;omega) hfit
  have hge:=grownCap_ge w (es.length+fs.length) old x.e
  have hcm:=grownCap_le_maxLen w (es.length+fs.length) old x.e h63
  generalize hcap:grownCap w (es.length+fs.length) old x.e=cap at hr hge hcm
  generalize hcs:(xs'++news).toArray++Builtin.zeroCells i.zero.cells (cap - (es.length+fs.length))=cs at hr
  have hcsz:cs.size=cap * i.size:=by
   rw [←hcs,Array.size_append,List.size_toArray,hff.1,hzl,hlen,←Nat.add_mul]
   congr 1
   omega
  have hcl:cs.toList=(xs'++news)++(Builtin.zeroCells i.zero.cells (cap - (es.length+fs.length))).toList:=by rw [←hcs];simp
  have hheap:(w.drew.alloc (.cells cs x.e)).heap=w.heap.push (.cells cs x.e):=rfl
  have hnew:(w.drew.alloc (.cells cs x.e)).heap[w.heap.size]? = some (.cells cs x.e):=by rw [hheap];simp
  have hsame:Same w (w.drew.alloc (.cells cs x.e)):=⟨by rw [hheap];simp,fun b hb=>by rw [hheap,Array.getElem?_push,if_neg (by omega)]⟩
  have hcellq:∀q,q<(es++fs).length * i.size→(w.drew.alloc (.cells cs x.e)).cell? ⟨w.heap.size,q,none⟩=some ((xs'++news).getD q undef):=by
   intro q hq
   rw [cell_of_row _ w.heap.size q cs x.e (0,0) hnew]
   have h1:q<(xs'++news).length:=by rw [hff.1];exact hq
   have:cs[q]? = cs.toList[q]?:=by simp
   rw [this,hcl,List.getElem?_append_left h1]
   simp only [List.getD,List.getElem?_eq_getElem h1,Option.getD_some]
  refine⟨_,_,fun b o=>G.pr b o∨(b=w.heap.size∧o<(es++fs).length * i.size),by rw [hv0];exact hr,?_,?_⟩
  ·refine h.setGrow hj hsoft hsame.1 rfl rfl rfl (fun b hb _=>hsame.2 b hb) (fun b o u _ hu=>hsame.cell hu) _ (fun _ _ h=>.inl h) (fun b o hp=>?_) ?_ (fun b hb=>?_)
   ·rcases hp with hp | ⟨rfl,-⟩
    ·exact .inl hp
    ·exact .inr rfl
   ·refine⟨es.length+fs.length,cs.toList.take ((es.length+fs.length) * i.size),⟨?_,.inr ⟨w.heap.size,cap,cs,rfl,Nat.zero_le _,hnew,hge,hcm,by dsimp only;rw [hxk];exact hcsz,by dsimp only;rw [hxk]⟩⟩,fun a m e=>by simp at e;omega,fun b hb=>?_⟩
    ·dsimp only
     rw [hxk,List.length_take,show cs.toList.length=cs.size from Array.length_toList,hcsz]
     exact Nat.min_eq_left (Nat.mul_le_mul_right _ hge)
    ·cases hb
     refine⟨by rw [hheap];simp,fun hm=>absurd (h.boxes.lt _ hm) (Nat.lt_irrefl _),fun o ho' hp=>?_⟩
     rcases hp with hp | ⟨-,hp⟩
     ·exact absurd (h.boxes.prok _ _ hp).1 (Nat.lt_irrefl _)
     ·dsimp only at ho'
      rw [hxk] at ho'
      rw [hlen] at hp
      omega
   ·cases hb;exact .inl (Nat.le_refl _)
  ·rw [←hlen]
   exact VD_row (xs:=xs'++news) (by rw [hlen];exact hge) (fun q hq=>⟨.inr ⟨rfl,hq⟩,hcellq q hq⟩) (hff.mono (fun _ _ h=>.inl h) (fun b o u _ hu=>hsame.cell hu))
 rcases hcase with⟨ad,hv0,hes⟩ | ⟨b,off,cap,hv0,hcap,hcells⟩
 ·subst hes
  have hx':xs'=[]:=List.eq_nil_of_length_eq_zero (by simpa using hfl.1)
  cases ad with
  | some ad =>
   refine grow (some ad) 0 hv0 (by simp;omega) ?_
   rw [hx',hsz]
   exact run_firstCells_some w.drew i.size 0 ad 0 0 [] (by simp) (fun j u hu=>by simp at hu)
  | none =>
   refine grow none 0 hv0 (by simp;omega) ?_
   rw [hx']
   simp [Builtin.firstCells]
 ·rcases ho.2 with⟨hvn,-⟩ | ⟨g,cap',cur,hvg,hBg,hgg,hncap,hcm,hcs,htake⟩
  ·rw [hv0] at hvn;cases hvn
  have hvg':=hvg
  rw [hv0] at hvg'
  simp only [Value.slice.injEq,Option.some.injEq,Addr.mk.injEq] at hvg'
  obtain⟨⟨rfl,rfl,-⟩,hn,rfl⟩:=hvg'
  by_cases hroom:es.length+fs.length≤cap
  ·
   have hfitc:es.length * i.size+news.length≤cur.size:=by
    rw [hf.1,hcs,←Nat.add_mul];exact Nat.mul_le_mul_right _ hroom
   have hr:=run_append_room_src (P:=P) w t tx ty x.e xe hut hxe' b 0 es.length cap y fs.length news hsrc' hroom
    (fun j hj=>by
     rw [cell_of_row w b _ cur x.e (0,0) hgg,hsz]
     have:0+es.length * i.size+j<cur.size:=by omega
     rw [Array.getElem?_eq_getElem this];rfl)
    (fun j hj=>frozen_of_row w b _ cur x.e hgg)
   rw [hsz,Nat.zero_add,setCells_row b x.e news (es.length * i.size) cur w hgg hfitc] at hr
   obtain⟨g0,g1,g3⟩:=hg b (by rw [hv0];rfl)
   have hbl:b<w.heap.size:=(Array.getElem?_eq_some_iff.1 hgg).1
   have hnk:n * i.size=es.length * i.size:=by rw [hn]
   let cur':=(cur.toList.take (es.length * i.size)++news++cur.toList.drop (es.length * i.size+news.length)).toArray
   have hcur':cur'.size=cur.size:=by
    simp only [cur',List.size_toArray,List.length_append,List.length_take,List.length_drop,Array.length_toList];omega
   have hhb:(w.setRow b cur').heap[b]? = some (.cells cur' x.e (0,0)):=setRow_heap w b cur _ x.e _ hgg
   have hoth:∀b',b'≠b→(w.setRow b cur').heap[b']? = w.heap[b']?:=fun b' hb'=>setRow_other w b b' _ hb'
   have hxs':xs'=cur.toList.take (es.length * i.size):=by
    have hl1:xs'.length=(cur.toList.take (es.length * i.size)).length:=by
     rw [hfl.1,List.length_take,show cur.toList.length=cur.size from Array.length_toList,hcs]
     exact (Nat.min_eq_left (Nat.mul_le_mul_right _ hcap)).symm
    refine List.ext_getElem hl1 fun q h1 h2=>?_
    have hq:q<es.length * i.size:=by rw [←hfl.1];exact h1
    have hc:=(hcells q hq).2
    rw [Nat.zero_add,cell_of_row w b q cur x.e (0,0) hgg] at hc
    have hqc:q<cur.size:=by
     rw [hcs];exact Nat.lt_of_lt_of_le hq (Nat.mul_le_mul_right _ hcap)
    simp [hqc,List.getD,h1] at hc
    simp [hc]
   have hcurl:cur'.toList=(xs'++news)++cur.toList.drop (es.length * i.size+news.length):=by
    simp only [cur',hxs',List.append_assoc]
   have hgc:∀o u,G.pr b o→w.cell? ⟨b,o,none⟩=some u→(w.setRow b cur').cell? ⟨b,o,none⟩=some u:=by
    intro o u hp hu
    have hlt:o<es.length * i.size:=by
     rcases Nat.lt_or_ge o (es.length * i.size) with h | h
     ·exact h
     ·exact (g3 o (by rw [hnk];exact h) hp).elim
    rw [cell_of_row w b o cur x.e (0,0) hgg] at hu
    rw [cell_of_row _ b o cur' x.e (0,0) hhb]
    have hoc:o<cur.size:=by rw [hcs];exact Nat.lt_of_lt_of_le hlt (Nat.mul_le_mul_right _ hcap)
    simp [hoc] at hu
    have:cur'[o]? = cur'.toList[o]?:=by simp
    rw [this,hcurl,List.append_assoc,List.getElem?_append_left (by rw [hfl.1];exact hlt),hxs',List.getElem?_take,if_pos hlt]
    simp [hoc,hu]
   have hcc:∀b' o u,G.pr b' o→w.cell? ⟨b',o,none⟩=some u→(w.setRow b cur').cell? ⟨b',o,none⟩=some u:=by
    intro b' o u hp hu
    by_cases he:b'=b
    ·subst he;exact hgc o u hp hu
    ·rw [World.cell?_of_block (hoth b' he)];exact hu
   have hcellq:∀q,q<(es++fs).length * i.size→(w.setRow b cur').cell? ⟨b,q,none⟩=some ((xs'++news).getD q undef):=by
    intro q hq
    rw [cell_of_row _ b q cur' x.e (0,0) hhb]
    have h1:q<(xs'++news).length:=by rw [hff.1];exact hq
    have:cur'[q]? = cur'.toList[q]?:=by simp
    rw [this,hcurl,List.getElem?_append_left h1]
    simp only [List.getD,List.getElem?_eq_getElem h1,Option.getD_some]
   refine⟨_,_,fun b' o=>G.pr b' o∨(b'=b∧o<(es++fs).length * i.size),by rw [hv0];exact hr,?_,?_⟩
   ·refine h.setGrow (w':=w.setRow b cur') hj hsoft (by simp) rfl rfl rfl (fun b' _ hne=>hoth b' (fun e'=>hne (by rw [hv0,e'];rfl))) hcc (fun b' o=>G.pr b' o∨(b'=b∧o<(es++fs).length * i.size)) (fun _ _ h=>.inl h) (fun b' o hp=>?_) ?_ (fun b' hb'=>.inr (by rw [hv0];exact hb'))
    ·rcases hp with hp | ⟨rfl,-⟩
     ·exact .inl hp
     ·exact .inr rfl
    ·refine⟨es.length+fs.length,xs'++news,⟨by dsimp only;rw [hff.1,hlen,hxk],.inr ⟨b,cap,cur',rfl,hBg,hhb,hroom,hcm,by dsimp only;rw [hcur',hxk];exact hcs,?_⟩⟩,fun a m e=>by simp at e;omega,fun g' hg'=>?_⟩
     ·dsimp only
      rw [hxk,hcurl,←hlen,←hff.1,List.take_left]
     ·cases hg'
      refine⟨by simpa using g0,g1,fun o ho' hp=>?_⟩
      dsimp only at ho'
      rw [hxk] at ho'
      rcases hp with hp | ⟨-,hp⟩
      ·refine g3 o ?_ hp
       rw [hnk]
       exact Nat.le_trans (Nat.mul_le_mul_right _ (Nat.le_add_right _ _)) ho'
      ·rw [hlen] at hp;omega
   ·rw [show es.length+fs.length=(es++fs).length from hlen.symm]
    exact VD_row (xs:=xs'++news) (by rw [hlen];exact hroom) (fun q hq=>⟨.inr ⟨rfl,hq⟩,hcellq q hq⟩) (hff.mono (fun _ _ hp=>.inl hp) hcc)
  ·refine grow _ cap hv0 (by omega) ?_
   rw [hsz]
   refine run_firstCells_some w.drew i.size es.length ⟨b,0,none⟩ es.length cap xs' hfl.1 (fun j u hu=>?_)
   have hj:j<xs'.length:=(List.getElem?_eq_some_iff.1 hu).1
   have:=(hcells j (by rw [←hfl.1];exact hj)).2
   rw [add_lit]
   simp [List.getD,hu] at this ⊢
   exact this
end
end Go.RT
