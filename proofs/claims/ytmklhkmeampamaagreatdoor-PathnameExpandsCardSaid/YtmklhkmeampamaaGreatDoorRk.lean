import Derived.Test.YtmklhkmeampamaaGreatDoorRi
set_option linter.all false
namespace Go.RT
set_option linter.unusedVariables false
open Go.RowKit
variable {E : TEnv}
def tOf (n:Nat) (m:List (Nat × TV E)):List (TV E):=m.foldl (fun t p=>t.set p.1 p.2) (List.replicate n .any)
def SS (n:Nat) (m:List (Nat × TV E)) (H:List (TBox E)) (g:List TGrow):TS E:=⟨tOf n m,H,g,[],[],[]⟩
theorem tOf_fold:∀(m:List (Nat × TV E)) (t:List (TV E)),(m.foldl (fun t p=>t.set p.1 p.2) t).length=t.length∧∀j d,(m.foldl (fun t p=>t.set p.1 p.2) t)[j]? = some d→t[j]? = some d∨(j,d)∈m
 | [],t=>⟨rfl,fun j d h=>.inl h⟩
 | p::m,t=>by
  obtain⟨h1,h2⟩:=tOf_fold m (t.set p.1 p.2)
  refine⟨by simpa using h1,fun j d h=>?_⟩
  rcases h2 j d h with h | h
  ·by_cases e:p.1=j
   ·subst e
    have hl:p.1<t.length:=by
     have:=(List.getElem?_eq_some_iff.1 h).1
     simpa using this
    rw [List.getElem?_set_self hl] at h
    cases h
    exact .inr (by simp)
   ·rw [List.getElem?_set_ne e] at h
    exact .inl h
  ·exact .inr (by simp [h])
theorem tOf_len (n:Nat) (m:List (Nat × TV E)):(tOf n m).length=n:=by unfold tOf;rw [(tOf_fold m _).1];simp
theorem tOf_get {n:Nat} {m:List (Nat × TV E)} {j:Nat} {d:TV E} (h:(tOf n m)[j]? = some d):d=.any∨(j,d)∈m:=by
 rcases (tOf_fold m _).2 j d h with h | h
 ·left
  rw [List.getElem?_replicate] at h
  split at h<;>cases h
  rfl
 ·exact .inr h
section
variable {P : Program} {w0 w w' : World} {G0 G G' : Ghost} {st : TS E} {a : Act}
theorem Rel.weak (hr:Rel E w0 G0 st a w G) (hi:G0.i=[]) {t':List (TV E)} (hl:t'.length=st.t.length) (ht:∀(j:Nat) d,t'[j]? = some d→d=.any∨st.t[j]? = some d) (d':List Nat) :
  Rel E w0 G0 { st with t:=t',d:=d' } a w G:=by
 refine⟨hr.evol,hr.size.trans hl.symm,fun j d hj=>?_,hr.defers,hr.boxes,fun r b hb=>?_,hr.pins,hr.softs⟩
 ·rcases ht j d hj with rfl | h
  ·simp only [VT]
  ·exact hr.tmps j d h
 ·rw [hi] at hb;cases hb
def AW (P:Program) (w0:World) (G0:Ghost) (c:Code) (st:TS E) (Q:Ex E→TS E→Prop):Prop:=∀a w G,Rel E w0 G0 st a w G→c.wp P (CPost E w0 G0 Q) a w
variable {Q Q' : Ex E → TS E → Prop} {c c' : Code}
theorem AW.mono (h:AW P w0 G0 c st Q) (hq:∀x s,Q x s→Q' x s):AW P w0 G0 c st Q':=fun a w G hr=>wp_mono (h a w G hr) fun _ _ _ hp=>CPost.mono hq hp
theorem AW.seq (h:AW P w0 G0 c st (fun x s=>(x=.normal∧AW P w0 G0 c' s Q)∨(x≠.normal∧Q x s))):AW P w0 G0 (.seq c c') st Q:=fun a w G hr=>by
 refine wp_seq (wp_mono (h a w G hr) fun e a' w' hp=>?_)
 obtain⟨x,s,G',he,hr',hq⟩:=hp
 rcases hq with⟨rfl,hq⟩ | ⟨hne,hq⟩
 ·cases e<;>try (exact he.elim)
  exact hq a' w' G' hr'
 ·have hcp:CPost E w0 G0 Q e a' w':=⟨x,s,G',he,hr',hq⟩
  cases x with
  | normal=>exact (hne rfl).elim
  | _=>cases e<;>first | exact he.elim | exact hcp
theorem AW.seqN (h:AW P w0 G0 c st (fun x s=>x=.normal∧Q' x s)) (h':∀s,Q' .normal s→AW P w0 G0 c' s Q):AW P w0 G0 (.seq c c') st Q :=
 AW.seq (h.mono fun x s hq=>.inl ⟨hq.1,h' s (hq.1▸hq.2)⟩)
theorem AW.block {i:Nat} (h:AW P w0 G0 c st (fun x s=>(x=.exit i∧Q .normal s)∨(x≠.exit i∧Q x s))):AW P w0 G0 (.block i c) st Q:=fun a w G hr=>by
 refine wp_block (wp_mono (h a w G hr) fun e a' w' hp=>?_)
 obtain⟨x,s,G',he,hr',hq⟩:=hp
 cases x with
 | exit j =>
  cases e<;>try (exact he.elim)
  rename_i i'
  have he:i'=j:=he
  subst he
  simp only [Exit.inBlock]
  rcases hq with⟨hx,hq⟩ | ⟨hx,hq⟩
  ·cases hx
   rw [if_pos rfl]
   exact⟨.normal,s,G',trivial,hr',hq⟩
  ·rw [if_neg (fun e=>hx (by rw [e]))]
   exact⟨.exit i',s,G',rfl,hr',hq⟩
 | _ =>
  rcases hq with⟨hx,-⟩ | ⟨-,hq⟩
  ·cases hx
  ·have hcp:CPost E w0 G0 Q e a' w':=⟨_,s,G',he,hr',hq⟩
   cases e<;>first | exact he.elim | exact hcp
theorem AW.cond {o:Operand} {b:Bool} (ho:st.ev o=.dat .bool b) (h:AW P w0 G0 (if b then c else c') st Q):AW P w0 G0 (.cond o c c') st Q:=fun a w G hr=>by
 have hv:=hr.ev o
 rw [ho] at hv
 exact wp_cond hv.bool_inv (h a w G hr)
theorem AW.skip (h:Q .normal st):AW P w0 G0 .skip st Q:=fun a w G hr=>wp_skip ⟨.normal,st,G,trivial,hr,h⟩
theorem AW.ret (h:Q .ret st):AW P w0 G0 .ret st Q:=fun a w G hr=>wp_ret ⟨.ret,st,G,trivial,hr,h⟩
theorem AW.exit {i:Nat} (h:Q (.exit i) st):AW P w0 G0 (.exit i) st Q:=fun a w G hr=>wp_exit ⟨.exit i,st,G,rfl,hr,h⟩
theorem AW.loop {ι:Type} (S:ι→TS E) (I:ι→Prop) (μ:ι→Nat) (x0:ι) (h0:I x0) (hS:st=S x0)
  (hs:∀x,I x→AW P w0 G0 c (S x) (fun e s=>(e=.normal∧∃y,I y∧μ y<μ x∧s=S y)∨(e≠.normal∧Q e s))):AW P w0 G0 (.loop c) st Q:=fun a w G hr=>by
 subst hS
 refine (wpIn_wide (n:=0)).1 (wpIn_loop_ix (ι:=ι) (fun x a' w'=>I x∧∃G',Rel E w0 G0 (S x) a' w' G') μ x0 ⟨h0,G,hr⟩ ?_)
 rintro x a' w' ⟨hx,G',hr'⟩
 refine (wpIn_wide (n:=0)).2 (wp_mono (hs x hx a' w' G' hr') fun e a2 w2 hp=>?_)
 obtain⟨e',s,G2,he,hr2,hq⟩:=hp
 rcases hq with⟨rfl,y,hy,hlt,rfl⟩ | ⟨hne,hq⟩
 ·cases e<;>try (exact he.elim)
  exact⟨y,⟨hy,G2,hr2⟩,hlt⟩
 ·have hcp:CPost E w0 G0 Q e a2 w2:=⟨e',s,G2,he,hr2,hq⟩
  cases e' with
  | normal=>exact (hne rfl).elim
  | _=>cases e<;>first | exact he.elim | exact hcp
def proj (js:List Nat):Ex E→TS E→Option (List (Option (TV E)) × List (TBox E) × List TGrow × List (Nat × Cn E) × List (FuncId × List (TV E)))
 | .normal,s=>some (js.map fun j=>s.t[j]?,s.H,s.g,s.c,s.df)
 | _,_=>none
theorem AW.rt {X:Cx E} (hX:X.Ok) (hi:G0.i=[]) {pl:Plan} {n:Nat} {m m':List (Nat × TV E)} {H H':List (TBox E)} {g g':List TGrow}
  (h:runT X 0 c pl (SS n m H g) (proj (m'.map (·.1)))=some (m'.map (fun p=>some p.2),H',g',[],[])) :
  AW X.P w0 G0 c (SS n m H g) (fun x s=>x=.normal∧s=SS n m' H' g'):=fun a w G hr=>by
 refine wp_mono ((runT_sound hX c pl h).wp hr) fun e a' w' hp=>?_
 obtain⟨x,s,G',he,hr',hk,hF⟩:=hp
 cases x with
 | normal =>
  simp only [proj,Option.some.injEq,Prod.mk.injEq] at hk
  obtain⟨k1,k2,k3,k4,k5⟩:=hk
  obtain⟨t,H1,g1,d1,df1,c1⟩:=s
  dsimp only at k1 k2 k3 k4 k5 hF hr'
  subst k2 k3 k4 k5
  have hlen:t.length=n:=by rw [show t.length=_ from hF.len];exact tOf_len n m
  refine⟨.normal,SS n m' H1 g1,G',he,?_,rfl,rfl⟩
  refine hr'.weak hi (by rw [tOf_len];exact hlen.symm) (fun j d hj=>?_) []
  rcases tOf_get hj with h | h
  ·exact .inl h
  ·right
   obtain⟨q,hq,he'⟩:=List.getElem_of_mem h
   have hq':q<(m'.map (·.1)).length:=by simpa using hq
   have:=congrArg (fun l=>l[q]?) k1
   simp only [List.getElem?_map,List.getElem?_eq_getElem hq,Option.map_some,he'] at this
   exact Option.some.inj this
 | _=>cases hk
def DatS (m:List (Nat × TV E)):Prop:=∀p∈m,∃t x,p.2=.dat t x
theorem Rel.noDefers {n:Nat} {m:List (Nat × TV E)} {H:List (TBox E)} {g:List TGrow} (hr:Rel E w0 G0 (SS n m H g) a w G):DRel E w' G' a.defers []:=by
 have h:DRel E w G a.defers []:=hr.defers
 cases hd:a.defers with
 | nil=>trivial
 | cons d ds=>rw [hd] at h;exact h.elim
theorem Rel.dropBoxes {n:Nat} {m:List (Nat × TV E)} {H:List (TBox E)} {g:List TGrow} (hr:Rel E w0 G0 (SS n m H g) a w G) (hi:G0.i=[]) (hm:DatS m):Rel E w0 G0 (SS n m [] g) a w { G with i:=[] }:=by
 have ev:=hr.evol
 refine⟨⟨ev.os,ev.tape,ev.output,ev.size,ev.old,⟨ev.goes.pr,ev.goes.cells,fun r b h=>(by rw [hi] at h;cases h),ev.goes.g⟩,ev.prold,fun r b _ h=>(by cases h),ev.newG⟩,hr.size,fun j d hj=>?_,hr.noDefers,?_,fun r b hb=>(by rw [hi] at hb;cases hb),hr.pins,fun j c h=>(by cases h)⟩
 ·have hv:=hr.tmps j d hj
  rcases tOf_get hj with rfl | h
  ·simp only [VT]
  ·obtain⟨t,x,e⟩:=hm _ h
   simp only at e
   subst e
   exact hv.dat_pr (fun _ _ h=>h)
 ·refine⟨rfl,hr.boxes.gs,fun r b x h=>(by cases h),fun b h=>(by cases h),List.nodup_nil,fun b o hp=>⟨(hr.boxes.prok b o hp).1,fun h=>by cases h⟩,fun j x h hj=>?_,hr.boxes.apart,hr.boxes.glob⟩
  obtain⟨n',xs,h1,h2,h3⟩:=hr.boxes.grow j x h hj
  exact⟨n',xs,h1,h2,fun b hb=>⟨(h3 b hb).1,(fun h=>by cases h),(h3 b hb).2.2⟩⟩
theorem VT.dat_w {t:Ty} {x:t.den E.D} {v:Value} (h:VT E w G (.dat t x) v) (hp:∀b o,G.pr b o→G'.pr b o) (hc:∀b o u,G.pr b o→w.cell? ⟨b,o,none⟩=some u→w'.cell? ⟨b,o,none⟩=some u):VT E w' G' (.dat t x) v :=
 (h.mono (show Goes w G w' { G with pr:=G'.pr } from⟨hp,hc,fun _ _ h=>h,fun j x y hj=>⟨x,y,hj,Nat.le_refl _,fun _=>rfl⟩⟩)).dat_pr (fun _ _ h=>h)
theorem wpList_step {ops:Array Oper} {Q:Exit→Act→World→Prop} {o:Oper} {l:List Oper} {v:Value} (hg:o.guard=none) (hrun:(execOp a.eval o).run P w=.ok (.value v) w') (h:wpList P ops Q l (a.put o.dst v) w'):wpList P ops Q (o::l) a w:=by
 unfold wpList
 rw [if_pos (by simp [Region.wanted,hg])]
 left
 unfold Oper.wp
 rw [hrun]
 exact h
theorem run_buildNil {t e:TypeId} {j1 j2:Nat} {z:Value} {ie:TI} {o:Oper} (ho:o.op=.buildSlice t 1 #[(0,.const (.slice none 0 0))]) (ht:tinfo P t=some ⟨.slice e,j1,j2,z⟩) (hi:tinfo P e=some ie) (hs:ie.size=1) (a:Act) (w:World) :
  (execOp a.eval o).run P w=.ok (.value (.slice (some ⟨w.heap.size,0,none⟩) 1 1)) (w.alloc (.cells #[.slice none 0 0] e)):=by
 obtain⟨xt,hxt,hut,-⟩:=tinfo_some ht
 obtain⟨xe,hxe,hue,hsz,-⟩:=tinfo_some hi
 have hfill:∀base:Array Value,base.size=1→Instr.fill (fun i=>some (i * 1,1)) base [(0,(.slice none 0 0:Value))]=some #[.slice none 0 0]:=by
  intro base hb
  have h:=fill_rows (k:=1) [(.slice none 0 0:Value)] 0 base (by intro v hv;simp at hv;subst hv;rfl) (by simp [hb])
  have hd:base.toList.drop 1=[]:=List.drop_eq_nil_of_le (by simp [hb])
  simp only [List.length_cons,List.length_nil,Nat.zero_add,Nat.zero_mul,List.take_zero,List.nil_append,List.map_cons,List.map_nil,List.flatten_cons,List.flatten_nil,List.append_nil,Nat.mul_one] at h
  rw [hd,List.append_nil] at h
  exact h
 simp only [execOp,ho,Instr.buildSlice,Sem.run_bind,run_underlying' hut,Result.andThen_ok,run_sizeOf' hxe,hsz,hs]
 rw [if_neg (by decide),if_neg (by decide)]
 have hf:=hfill ((Array.range (1 * 1)).map (ie.zero.cells[· % ie.zero.cells.size]!)) (by simp)
 simp only [Sem.run_bind,Sem.run_pure,run_zeroValue' hi,Result.andThen_ok]
 have he:(#[(0,Operand.const (.slice none 0 0))].map fun x=>(x.1,a.eval x.2)).toList=[(0,(.slice none 0 0:Value))]:=by simp [Act.eval]
 rw [he,hf]
 simp only [newRow,Sem.run_bind,Sem.run_pure,Result.andThen_ok]
 rfl
theorem tOf_app (n:Nat) (m m2:List (Nat × TV E)):tOf n (m++m2)=m2.foldl (fun t p=>t.set p.1 p.2) (tOf n m):=by unfold tOf;rw [List.foldl_append]
theorem put_at {j:Nat} (a:Act) (v:Value) (h:j<a.tmps.size):(a.put (some j) v).eval (.tmp j)=v:=by
 show (a.put (some j) v).tmps.getD j undef=v
 rw [put_getD,if_pos ⟨rfl,h⟩]
theorem run_assign {o:Oper} {x:Operand} (ho:o.op=.assign x) (a:Act) (w:World):(execOp a.eval o).run P w=.ok (.value (a.eval x)) w:=by simp [execOp,ho]
theorem run_move {o:Oper} {x:Operand} (ho:o.op=.move x) (a:Act) (w:World):(execOp a.eval o).run P w=.ok (.value (a.eval x)) w:=by simp [execOp,ho]
theorem AW.mkRow {n id:Nat} {ops:Array Oper} {o0 o1:Oper} (hops:ops.toList=[o0,o1]) {t e e2:TypeId} {j1 j2:Nat} {z:Value} {ie:TI} {j3 j6:Nat} (h0:o0.op=.buildSlice t 1 #[(0,.const (.slice none 0 0))]) (g0:o0.guard=none) (d0:o0.dst=some j6)
  (h1:o1.op=.assign (.tmp j6)) (g1:o1.guard=none) (d1:o1.dst=some j3) (ht:tinfo P t=some ⟨.slice e,j1,j2,z⟩) (hi:tinfo P e=some ie) (hs:ie.size=1) (tR:Ty) {m m':List (Nat × TV E)} (hn:j6<n) (hiG:G0.i=[])
  (hsub:∀p∈m',(tOf n (m++[(j6,.any),(j3,.hdr 0 1 1)]))[p.1]? = some p.2) :
  AW P w0 G0 (.region id ops false) (SS n m [] []) (fun x s=>x=.normal∧s=SS n m' [.nrow e 1 (.lst tR) [] (.gsl 0 0 tR [])] [⟨0,e2,tR.size E⟩]):=by
 intro a w G hr
 refine wp_region_list ?_
 rw [hops]
 have hsz:a.tmps.size=n:=hr.size.trans (tOf_len n m)
 have hGi:G.i=[]:=List.eq_nil_of_length_eq_zero hr.boxes.len
 refine wpList_step g0 (run_buildNil h0 ht hi hs a w) ?_
 refine wpList_step g1 (run_assign h1 _ _) ?_
 rw [d0,put_at _ _ (by rw [hsz];exact hn)]
 have r1:=hr.nilRow e2 (tR.size E)
 have hgl:G.g.length=(SS n m [] []:TS E).g.length:=hr.rows_len
 have r2:=r1.newBox (.cells #[.slice none 0 0] e) (.nrow e 1 (.lst tR) [] (.gsl 0 0 tR [])) (by
  refine⟨#[.slice none 0 0],heap_alloc_new w _,rfl,fun i x hx=>(by cases hx),?_,Nat.one_pos⟩
  ·exact VT_nilRow (w:=w.alloc (.cells #[.slice none 0 0] e)) hgl e2 tR)
 have r3:=r2.put (v:=.slice (some ⟨w.heap.size,0,none⟩) 1 1) (d:=.any) (by simp only [VT]) (some j6)
 have r4:=r3.put (v:=.slice (some ⟨w.heap.size,0,none⟩) 1 1) (d:=.hdr 0 1 1) (by
  simp only [VT]
  exact⟨w.heap.size,rfl,by simp [hGi]⟩) (some j3)
 rw [d1]
 refine⟨.normal,_,_,trivial,r4.weak hiG (t':=tOf n m') (by simp [SS,setT,tOf_len]) (fun j d hj=>?_) [],rfl,rfl⟩
 rcases tOf_get hj with h | h
 ·exact .inl h
 ·right
  have:=hsub _ h
  rw [tOf_app] at this
  exact this
theorem AW.growRow (hE:E.Ok) {n id:Nat} {ops:Array Oper} {o0 o1 o2 o3:Oper} (hops:ops.toList=[o0,o1,o2,o3]) {t e e2:TypeId} {j1 j2:Nat} {z:Value} {ie:TI} {j3 j53 j54 j55:Nat} (h0:o0.op=.move (.tmp j3)) (g0:o0.guard=none) (d0:o0.dst=some j53)
  (h1:o1.op=.buildSlice t 1 #[(0,.const (.slice none 0 0))]) (g1:o1.guard=none) (d1:o1.dst=some j54) {cl:Call} (h2:o2.op=.call cl) (hcl:cl.callee=.builtin .append) (ha:cl.args=#[.tmp j53,.tmp j54]) (hat:cl.argTypes=#[t,t]) (g2:o2.guard=none) (d2:o2.dst=some j55)
  (h3:o3.op=.assign (.tmp j55)) (g3:o3.guard=none) (d3:o3.dst=some j3) (ht:tinfo P t=some ⟨.slice e,j1,j2,z⟩) (hi:tinfo P e=some ie) (hs:ie.size=1) (hzs:ie.zero.cells.size=ie.size) (tR:Ty)
  {m0:List (Nat × TV E)} (hm0:DatS m0) (hn:j53<n∧j54<n∧j55<n∧j53≠j54) (hiG:G0.i=[]) {cap ver:Nat} {xs:List (List (tR.den E.D))} {last:List (tR.den E.D)}
  (hj3:(tOf n (m0++[(j3,.hdr 0 (xs.length+1) cap)]))[j3]? = some (.hdr 0 (xs.length+1) cap)) (hlen:(xs.length+2) * ie.bytes≤140737488355328) (hl63:xs.length+2≤9223372036854775807)
  (hsub:∀c':Nat,∀p∈m0++[(j3,.hdr 0 (xs.length+2) c')],(tOf n ((((m0++[(j53,.any)])++[(j54,.any)])++[(j55,.any)])++[(j3,.hdr 0 (xs.length+2) c')]))[p.1]? = some p.2) (hmd:∀p∈m0,(tOf n (m0++[(j3,.hdr 0 (xs.length+1) cap)]))[p.1]? = some p.2) :
  AW P w0 G0 (.region id ops false) (SS n (m0++[(j3,.hdr 0 (xs.length+1) cap)]) [.nrow e cap (.lst tR) xs (.gsl 0 ver tR last)] [⟨ver,e2,tR.size E⟩])
   (fun x s=>x=.normal∧∃c',s=SS n (m0++[(j3,.hdr 0 (xs.length+2) c')]) [.nrow e c' (.lst tR) (xs++[last]) (.gsl 0 (ver+1) tR [])] [⟨ver+1,e2,tR.size E⟩]):=by
 intro a w G hr
 refine wp_region_list ?_
 rw [hops]
 have hsz:a.tmps.size=n:=hr.size.trans (tOf_len n _)
 obtain⟨xt,hxt,hut,-⟩:=tinfo_some ht
 obtain⟨xe,hxe,hue,hsize,hby,hz⟩:=tinfo_some hi
 have hv3:=hr.tmps j3 _ hj3
 simp only [VT] at hv3
 obtain⟨b,hv3,hat0⟩:=hv3
 have hGi:G.i=[b]:=by
  have hl:G.i.length=1:=hr.boxes.len
  match hq:G.i,hl with
  | [b'],_=>rw [hq] at hat0;simp at hat0;rw [hat0]
 obtain⟨cur,c1,c2,c4,c5,c6⟩:=hr.box (x:=.nrow e cap (.lst tR) xs (.gsl 0 ver tR last)) hat0 rfl
 have hblt:b<w.heap.size:=(Array.getElem?_eq_some_iff.1 c1).1
 obtain⟨hd,hrow⟩:=hr.row_at (j:=0) (g:=⟨ver,e2,tR.size E⟩) rfl
 have hlastD:VT E w G (.dat (.lst tR) last) (cur.getD xs.length undef):=by
  have h5:=c5
  simp only [VT] at h5
  exact .list h5.1
 have hdata:Rel E w0 G0 (SS n m0 [] [⟨ver,e2,tR.size E⟩]) a w { G with i:=[] }:=by
  have h:=hr.weak hiG (t':=tOf n m0) (by simp [SS,tOf_len]) (fun j d hj=>by
   rcases tOf_get hj with h | h
   ·exact .inl h
   ·exact .inr (hmd _ h)) []
  exact h.dropBoxes hiG hm0
 have hpb:∀o,¬ G.pr b o:=fun o hp=>(hr.boxes.prok b o hp).2 (by rw [hGi];simp)
 refine wpList_step g0 (run_move h0 a w) ?_
 refine wpList_step g1 (run_buildNil h1 ht hi hs _ w) ?_
 obtain⟨a2,ha2⟩:∃a2,((a.put o0.dst (a.eval (.tmp j3))).put o1.dst (.slice (some ⟨w.heap.size,0,none⟩) 1 1))=a2:=⟨_,rfl⟩
 rw [ha2]
 have hsz2:a2.tmps.size=n:=by rw [←ha2,put_size,put_size];exact hsz
 have e54:a2.eval (.tmp j54)=.slice (some ⟨w.heap.size,0,none⟩) 1 1:=by rw [←ha2,d1];exact put_at _ _ (by rw [put_size,hsz];exact hn.2.1)
 have e53:a2.eval (.tmp j53)=.slice (some ⟨b,0,none⟩) (xs.length+1) cap:=by
  rw [←ha2,d1,d0]
  show ((a.put (some j53) (a.eval (.tmp j3))).put (some j54) _).tmps.getD j53 undef=_
  rw [put_getD,if_neg (fun h=>hn.2.2.2 (Option.some.inj h.1).symm),put_getD,if_pos ⟨rfl,by rw [hsz];exact hn.1⟩]
  exact hv3
 obtain⟨W,hW⟩:∃W,w.alloc (.cells #[.slice none 0 0] e)=W:=⟨_,rfl⟩
 rw [hW]
 have hbW:W.heap[b]? = some (.cells cur e (0,0)):=by rw [←hW,(Same.alloc w _).2 b hblt];exact c1
 have hcW:W.cell? ⟨w.heap.size,0,none⟩=some (.slice none 0 0):=by rw [←hW,cell_of_row _ w.heap.size 0 _ e (0,0) (heap_alloc_new w _)];rfl
 have hsrc:Src P xe.size t (.slice (some ⟨w.heap.size,0,none⟩) 1 1) 1 [.slice none 0 0] W:=Src.ofSlice W hut _ 1 1 _ (by rw [hsize,hs];rfl) (fun j u hj=>by
  match j,hj with
  | 0,hj=>simp at hj;subst hj;exact hcW
  | j+1,hj=>simp at hj) (fun u hu=>by simp at hu;subst hu;rfl)
 have hcurl:cur.toList.length=cap:=by rw [←c2];simp
 have key:∀(c':Nat) (W':World) (cur':Array Value) (b':Nat),(Builtin.append_ #[t,t] o2.type #[.slice (some ⟨b,0,none⟩) (xs.length+1) cap,.slice (some ⟨w.heap.size,0,none⟩) 1 1]).run P W=.ok (.slice (some ⟨b',0,none⟩) (xs.length+2) c') W' →
   (∃G',Rel E w0 G0 (SS n m0 [.nrow e c' (.lst tR) (xs++[last]) (.gsl 0 (ver+1) tR [])] [⟨ver+1,e2,tR.size E⟩]) a W' G'∧G'.i=[b']) →
   wpList P ops (CPost E w0 G0 (fun x s=>x=.normal∧∃c',s=SS n (m0++[(j3,.hdr 0 (xs.length+2) c')]) [.nrow e c' (.lst tR) (xs++[last]) (.gsl 0 (ver+1) tR [])] [⟨ver+1,e2,tR.size E⟩])) [o2,o3] a2 W:=by
  intro c' W' cur' b' hrun hG'
  obtain⟨G',hR,hi'⟩:=hG'
  refine wpList_step g2 (v:=.slice (some ⟨b',0,none⟩) (xs.length+2) c') (w':=W') ?_ ?_
  ·unfold execOp
   simp only [h2,resolve,hcl,Sem.run_bind,Sem.run_pure,Result.andThen_ok,invoke,builtin,ha,hat,List.map_toArray,List.map_cons,List.map_nil]
   rw [e53,e54,hrun]
   rfl
  refine wpList_step g3 (run_assign h3 _ _) ?_
  rw [d2,put_at _ _ (by rw [hsz2];exact hn.2.2.1),d3,←ha2,d0,d1]
  have r1:=hR.put (v:=a.eval (.tmp j3)) (d:=.any) (by simp only [VT]) (some j53)
  have r2:=r1.put (v:=.slice (some ⟨w.heap.size,0,none⟩) 1 1) (d:=.any) (by simp only [VT]) (some j54)
  have r3:=r2.put (v:=.slice (some ⟨b',0,none⟩) (xs.length+2) c') (d:=.any) (by simp only [VT]) (some j55)
  have r4:=r3.put (v:=.slice (some ⟨b',0,none⟩) (xs.length+2) c') (d:=.hdr 0 (xs.length+2) c') (by
   simp only [VT]
   exact⟨b',rfl,by rw [hi'];rfl⟩) (some j3)
  refine⟨.normal,_,_,trivial,r4.weak hiG (t':=tOf n (m0++[(j3,.hdr 0 (xs.length+2) c')])) (by simp [SS,setT,tOf_len]) (fun j d hj=>?_) [],rfl,c',rfl⟩
  rcases tOf_get hj with h | h
  ·exact .inl h
  ·right
   have:=hsub c' _ h
   rw [tOf_app,tOf_app,tOf_app,tOf_app] at this
   exact this
 by_cases hroom:xs.length+1+1≤cap
 ·have hfitc:(xs.length+1) * xe.size+1≤cur.size:=by rw [hsize,hs,c2];omega
  have hr':=run_append_room_src (P:=P) W t t o2.type e xe hut hxe b 0 (xs.length+1) cap _ 1 _ hsrc hroom
   (fun j hj=>by
    have hj:j<1:=hj
    rw [cell_of_row W b _ cur e (0,0) hbW]
    have:0+(xs.length+1) * xe.size+j<cur.size:=by omega
    rw [Array.getElem?_eq_getElem this];rfl)
   (fun j hj=>frozen_of_row W b _ cur e hbW)
  rw [Nat.zero_add,setCells_row b e [.slice none 0 0] ((xs.length+1) * xe.size) cur W hbW (by simpa using hfitc)] at hr'
  obtain⟨new,hnew⟩:∃new,(cur.toList.take ((xs.length+1) * xe.size)++[(.slice none 0 0:Value)]++cur.toList.drop ((xs.length+1) * xe.size+[(.slice none 0 0:Value)].length)).toArray=new:=⟨_,rfl⟩
  rw [hnew] at hr'
  refine key cap (W.setRow b new) new b hr' ?_
  have hget:∀q,q≤xs.length+1→new.getD q undef=if q=xs.length+1 then .slice none 0 0 else cur.getD q undef:=by
   intro q hq
   rw [Array.getD_eq_getD_getElem?,Array.getD_eq_getD_getElem?,←hnew,List.getElem?_toArray,hsize,hs,Nat.mul_one]
   have htl:(cur.toList.take (xs.length+1)).length=xs.length+1:=by rw [List.length_take,hcurl];omega
   by_cases h1:q=xs.length+1
   ·subst h1
    rw [if_pos rfl,List.append_assoc,List.getElem?_append_right (by rw [htl];exact Nat.le_refl _),htl,Nat.sub_self]
    rfl
   ·rw [if_neg h1,List.append_assoc,List.getElem?_append_left (by rw [htl];omega),List.getElem?_take_of_lt (by omega)];simp
  have hns:new.size=cap:=by
   rw [←hnew,hsize,hs]
   simp only [List.size_toArray,List.length_append,List.length_take,List.length_drop,hcurl,List.length_cons,List.length_nil,Nat.mul_one]
   omega
  have hGr:=hr.grow (Same.alloc w (.cells #[.slice none 0 0] e)) rfl rfl rfl G.pr (fun _ _ h=>h) (fun _ _ _ h=>h) (fun b o hp=>Nat.lt_of_lt_of_le (hr.boxes.prok b o hp).1 (by simp))
  rw [hW] at hGr
  have r1:=hGr.rerow (x':=⟨ver+1,e2,tR.size E⟩) (hd':=.slice none 0 0) hrow (Nat.lt_succ_self _) (growOk_nil _) (fun c h=>by cases h) (fun b hb=>nomatch hb) (fun _ _ _ _ _ _ _ hb=>nomatch hb)
  have r2:=r1.weak hiG (t':=tOf n m0) (by simp [SS,tOf_len]) (fun j d hj=>by
   rcases tOf_get hj with h | h
   ·exact .inl h
   ·exact .inr (hmd _ h)) []
  obtain⟨cur2,x1,x2,x4,x5,x6⟩:=r2.box (x:=.nrow e cap (.lst tR) xs (.gsl 0 ver tR last)) hat0 rfl
  rw [hbW] at x1
  cases x1
  have hgl:0<G.g.length:=(List.getElem?_eq_some_iff.1 hrow).1
  have r3:=r2.setBox (w':=W.setRow b new) (r:=0) hat0 (by simp) rfl rfl rfl (fun b' hb'=>setRow_other W b b' _ hb') (x:=.nrow e cap (.lst tR) (xs++[last]) (.gsl 0 (ver+1) tR [])) (fun hg=>by
   refine⟨new,setRow_heap W b cur _ e _ hbW,hns,fun q x hx=>?_,?_,by simp;omega⟩
   ·have hq:q<xs.length+1:=by have:=(List.getElem?_eq_some_iff.1 hx).1;simpa using this
    rw [hget q (by omega),if_neg (by omega)]
    by_cases h1:q<xs.length
    ·rw [List.getElem?_append_left h1] at hx
     exact (x4 q x hx).mono hg
    ·obtain rfl:q=xs.length:=by omega
     simp at hx
     subst hx
     simp only [VT] at x5
     exact (VT.list x5.1).mono hg
   ·simp only [List.length_append,List.length_cons,List.length_nil,Nat.zero_add]
    rw [hget _ (Nat.le_refl _),if_pos rfl]
    simp only [VT]
    exact⟨.nils _ _,⟨ver+1,e2,tR.size E⟩,.slice none 0 0,by simp [hgl],Nat.le_refl _,fun _=>rfl⟩)
  exact⟨_,r3.weak hiG (t':=tOf n m0) rfl (fun j d hj=>.inr hj) [],hGi⟩
 ·have hlt:cap<xs.length+1+1:=by omega
  have hcapn:cap=xs.length+1:=by omega
  have hfit:=growslice_fits (need:=xs.length+1+1) (old:=cap) (bytes:=xe.bytes) hlt (by rw [hby];exact hlen)
  have hfc:(Builtin.firstCells xe.size (xs.length+1) (.slice (some ⟨b,0,none⟩) (xs.length+1) cap)).run P W.drew=.ok cur.toList.toArray W.drew :=
   run_firstCells_some W.drew xe.size (xs.length+1) ⟨b,0,none⟩ (xs.length+1) cap cur.toList (by rw [hcurl,hsize,hs,hcapn,Nat.mul_one]) (fun j v hj=>by
    have e1:(W.drew).cell? (Addr.add ⟨b,0,none⟩ j)=W.cell? ⟨b,j,none⟩:=by rw [add_lit,Nat.zero_add];rfl
    rw [e1,cell_of_row W b j cur e (0,0) hbW]
    simpa using hj)
  have hr':=run_append_grow_src (P:=P) W t t o2.type e xe ie.zero hut hxe hz (some ⟨b,0,none⟩) (xs.length+1) cap cur.toList hfc _ 1 _ hsrc hlt (by omega) hfit
  have hge':=grownCap_ge W (xs.length+1+1) cap e
  generalize grownCap W (xs.length+1+1) cap e=cap' at hr' hge'
  obtain⟨cs,hcs⟩:∃cs,(cur.toList++[(.slice none 0 0:Value)]).toArray++Builtin.zeroCells ie.zero.cells (cap' - (xs.length+1+1))=cs:=⟨_,rfl⟩
  rw [hcs] at hr'
  refine key cap' (W.drew.alloc (.cells cs e)) cs W.heap.size hr' ?_
  have hcl:cs.toList=(cur.toList++[(.slice none 0 0:Value)])++(Builtin.zeroCells ie.zero.cells (cap' - (xs.length+1+1))).toList:=by rw [←hcs];simp
  have hns:cs.size=cap':=by
   rw [←hcs,Array.size_append,size_zeroCells,hzs,hs,List.size_toArray,List.length_append,hcurl]
   simp only [List.length_cons,List.length_nil]
   omega
  have hget:∀q,q≤xs.length+1→cs.getD q undef=if q=xs.length+1 then .slice none 0 0 else cur.getD q undef:=by
   intro q hq
   rw [Array.getD_eq_getD_getElem?,Array.getD_eq_getD_getElem?,←Array.getElem?_toList,hcl]
   by_cases h1:q=xs.length+1
   ·subst h1
    rw [if_pos rfl,List.append_assoc,List.getElem?_append_right (by rw [hcurl];omega),hcurl,hcapn,Nat.sub_self]
    rfl
   ·rw [if_neg h1,List.append_assoc,List.getElem?_append_left (by rw [hcurl];omega)];simp
  have d1':=hdata.grow (Same.alloc w (.cells #[.slice none 0 0] e)) rfl rfl rfl G.pr (fun _ _ h=>h) (fun _ _ _ h=>h) (fun b o hp=>Nat.lt_of_lt_of_le (hr.boxes.prok b o hp).1 (by simp))
  rw [hW] at d1'
  have d2':=d1'.rerow (x':=⟨ver+1,e2,tR.size E⟩) (hd':=.slice none 0 0) hrow (Nat.lt_succ_self _) (growOk_nil _) (fun c h=>by cases h) (fun b hb=>nomatch hb) (fun _ _ _ _ _ _ _ hb=>nomatch hb)
  have d3':=d2'.grow (w':=W.drew) ⟨Nat.le_refl _,fun _ _=>rfl⟩ rfl rfl rfl G.pr (fun _ _ h=>h) (fun _ _ _ h=>h) (fun b o hp=>(d2'.boxes.prok b o hp).1)
  have hgl:0<G.g.length:=(List.getElem?_eq_some_iff.1 hrow).1
  have hsame:∀b o u,G.pr b o→w.cell? ⟨b,o,none⟩=some u→(W.drew.alloc (.cells cs e)).cell? ⟨b,o,none⟩=some u:=fun b o u hp hu=>by
   have q1:W.cell? ⟨b,o,none⟩=some u:=by rw [←hW];exact (Same.alloc w _).cell hu
   have q2:(W.drew).cell? ⟨b,o,none⟩=some u:=q1
   exact (Same.alloc W.drew _).cell q2
  have d4':=d3'.newBox (.cells cs e) (.nrow e cap' (.lst tR) (xs++[last]) (.gsl 0 (ver+1) tR [])) (by
   refine⟨cs,heap_alloc_new _ _,hns,fun q x hx=>?_,?_,by simp;omega⟩
   ·have hq:q<xs.length+1:=by have:=(List.getElem?_eq_some_iff.1 hx).1;simpa using this
    rw [hget q (by omega),if_neg (by omega)]
    by_cases h1:q<xs.length
    ·rw [List.getElem?_append_left h1] at hx
     exact (c4 q x hx).dat_w (fun _ _ h=>h) hsame
    ·obtain rfl:q=xs.length:=by omega
     simp at hx
     subst hx
     exact hlastD.dat_w (fun _ _ h=>h) hsame
   ·simp only [List.length_append,List.length_cons,List.length_nil,Nat.zero_add]
    rw [hget _ (Nat.le_refl _),if_pos rfl]
    simp only [VT]
    exact⟨.nils _ _,⟨ver+1,e2,tR.size E⟩,.slice none 0 0,by simp [hgl],Nat.le_refl _,fun _=>rfl⟩)
  exact⟨_,d4'.weak hiG (t':=tOf n m0) rfl (fun j d hj=>.inr hj) [],rfl⟩
theorem rowsOut {n:Nat} {m:List (Nat × TV E)} {e e2:TypeId} {cap ver j k2:Nat} {tR:Ty} {xs:List (List (tR.den E.D))} {last:List (tR.den E.D)} (hr:Rel E w0 G0 (SS n m [.nrow e cap (.lst tR) xs (.gsl 0 ver tR last)] [⟨ver,e2,k2⟩]) a w G)
  (hi:G0.i=[]) (hg:G0.g=[]) (hj:(tOf n m)[j]? = some (.hdr 0 (xs.length+1) cap)) :
  ∃G',Evol w0 G0 w G'∧Boxes E w G' [] []∧Softs E w G' []∧VT E w G' (.dat (.lst (.lst tR)) (xs++[last])) (a.tmps.getD j undef):=by
 have hv:=hr.tmps j _ hj
 simp only [VT] at hv
 obtain⟨b,hv,hat⟩:=hv
 obtain⟨cur,c1,c2,c4,c5,c6⟩:=hr.box (x:=.nrow e cap (.lst tR) xs (.gsl 0 ver tR last)) hat rfl
 have hblt:b<w.heap.size:=(Array.getElem?_eq_some_iff.1 c1).1
 have ev:=hr.evol
 have hnew:w0.heap.size≤b:=ev.newB 0 b (by rw [hi];exact Nat.le_refl _) hat
 refine⟨⟨[],[],fun b' o=>G.pr b' o∨(b'=b∧o<xs.length+1)⟩,?_,?_,fun j c h=>(by cases h),?_⟩
 ·refine⟨ev.os,ev.tape,ev.output,ev.size,ev.old,⟨fun b o h=>.inl (ev.goes.pr b o h),ev.goes.cells,fun r b h=>(by rw [hi] at h;cases h),fun j x h hj=>(by rw [hg] at hj;cases hj)⟩,fun b' o hb hp=>?_,fun r b _ h=>(by cases h),fun j x h b hj=>(by cases hj)⟩
  rcases hp with hp | ⟨rfl,-⟩
  ·exact ev.prold b' o hb hp
  ·omega
 ·refine⟨rfl,rfl,fun r b x h=>(by cases h),fun b h=>(by cases h),List.nodup_nil,fun b' o hp=>⟨?_,fun h=>by cases h⟩,fun j x h hj=>(by cases hj),fun j j' x h x' h' b hj=>(by cases hj),fun b c h=>VD.mono (fun _ _ h=>.inl h) (fun _ _ _ _ h=>h) (hr.boxes.glob b c h)⟩
  rcases hp with hp | ⟨rfl,-⟩
  ·exact (hr.boxes.prok b' o hp).1
  ·exact hblt
 ·rw [hv]
  refine .list ?_
  have hl:((xs++[last]).map (Ty.cells E (.lst tR))).length=xs.length+1:=by simp
  have hcurl:cur.toList.length=cap:=by rw [←c2];simp
  have hD:∀q,q<xs.length+1→VT E w G (.dat (.lst tR) ((xs++[last]).getD q [])) (cur.getD q undef):=by
   intro q hq
   by_cases h1:q<xs.length
   ·have:=c4 q xs[q] (List.getElem?_eq_getElem h1)
    rw [show (xs++[last]).getD q []=xs[q] by simp [List.getD,List.getElem?_append_left h1,h1]]
    exact this
   ·obtain rfl:q=xs.length:=by omega
    simp only [VT] at c5
    rw [show (xs++[last]).getD xs.length []=last by simp [List.getD]]
    exact .list c5.1
  have:=VD_row (w:=w) (pr:=fun b' o=>G.pr b' o∨(b'=b∧o<xs.length+1)) (b:=b) (cap:=cap) (k:=1) (es:=(xs++[last]).map (Ty.cells E (.lst tR))) (xs:=cur.toList.take (xs.length+1)) (by rw [hl];omega)
   (fun q hq=>by
    rw [hl,Nat.mul_one] at hq
    refine⟨.inr ⟨rfl,hq⟩,?_⟩
    rw [cell_of_row w b q cur e (0,0) c1]
    have:q<cur.size:=by omega
    simp [List.getD,hq,this])
   ⟨by rw [hl,List.length_take,hcurl];omega,fun q hq=>by
    rw [hl] at hq
    have:q<(xs++[last]).length:=by simpa using hq
    simp only [List.getD,List.getElem?_map,List.getElem?_eq_getElem this,Option.map_some,Option.getD_some]
    rfl,fun q l hq hl'=>by
    rw [hl] at hq
    obtain rfl:l=0:=by omega
    have h2:q<(xs++[last]).length:=by simpa using hq
    have h3:=((hD q hq).atom rfl).of_single
    have e1:(cur.toList.take (xs.length+1)).getD (q * 1+0) undef=cur.getD q undef:=by
     have:q<cur.size:=by omega
     simp [List.getD,hq,this]
    have e2:((((xs++[last]).map (Ty.cells E (.lst tR))).getD q []).getD 0 default)=.slice (tR.size E) (((xs++[last]).getD q []).map (tR.cells E)):=by
     simp only [List.getD,List.getElem?_map,List.getElem?_eq_getElem h2,Option.map_some,Option.getD_some]
     rfl
    rw [e1,e2]
    exact h3.mono (fun _ _ h=>.inl h) (fun _ _ _ _ h=>h)⟩
  rw [hl] at this
  exact this
def opsOf:Code→Array Oper
 | .region _ ops _=>ops
 | _=>#[]
def idOf:Code→Nat
 | .region i _ _=>i
 | _=>0
theorem AW.mkRowC {n:Nat} {t e:TypeId} (e2:TypeId) {j1 j2:Nat} {z:Value} {ie:TI} {j3 j6:Nat} (hc:c=.region (idOf c) (opsOf c) false)
  (hops:(opsOf c).toList.map (fun o=>(o.dst,o.op,o.guard))=[(some j6,.buildSlice t 1 #[(0,.const (.slice none 0 0))],none),(some j3,.assign (.tmp j6),none)]) (ht:tinfo P t=some ⟨.slice e,j1,j2,z⟩) (hi:tinfo P e=some ie) (hs:ie.size=1) (tR:Ty) {m m':List (Nat × TV E)} (hn:j6<n) (hiG:G0.i=[])
  (hsub:∀p∈m',(tOf n (m++[(j6,.any),(j3,.hdr 0 1 1)]))[p.1]? = some p.2) :
  AW P w0 G0 c (SS n m [] []) (fun x s=>x=.normal∧s=SS n m' [.nrow e 1 (.lst tR) [] (.gsl 0 0 tR [])] [⟨0,e2,tR.size E⟩]):=by
 obtain⟨o0,l1,h0,f0,hops⟩:=List.map_eq_cons_iff.1 hops
 obtain⟨o1,l2,h1,f1,hops⟩:=List.map_eq_cons_iff.1 hops
 have h2:=List.map_eq_nil_iff.1 hops
 subst h2 h1
 simp only [Prod.mk.injEq] at f0 f1
 rw [hc]
 exact AW.mkRow h0 f0.2.1 f0.2.2 f0.1 f1.2.1 f1.2.2 f1.1 ht hi hs tR hn hiG hsub
theorem AW.growRowC (hE:E.Ok) {n:Nat} {t e e2:TypeId} {j1 j2:Nat} {z:Value} {ie:TI} {j3 j53 j54 j55:Nat} {cl:Call} (hc:c=.region (idOf c) (opsOf c) false)
  (hops:(opsOf c).toList.map (fun o=>(o.dst,o.op,o.guard))=[(some j53,.move (.tmp j3),none),(some j54,.buildSlice t 1 #[(0,.const (.slice none 0 0))],none),(some j55,.call cl,none),(some j3,.assign (.tmp j55),none)])
  (hcl:cl.callee=.builtin .append) (ha:cl.args=#[.tmp j53,.tmp j54]) (hat:cl.argTypes=#[t,t]) (ht:tinfo P t=some ⟨.slice e,j1,j2,z⟩) (hi:tinfo P e=some ie) (hs:ie.size=1) (hzs:ie.zero.cells.size=ie.size) (tR:Ty)
  {m0:List (Nat × TV E)} (hm0:DatS m0) (hn:j53<n∧j54<n∧j55<n∧j53≠j54) (hiG:G0.i=[]) {cap ver:Nat} {xs:List (List (tR.den E.D))} {last:List (tR.den E.D)}
  (hj3:(tOf n (m0++[(j3,.hdr 0 (xs.length+1) cap)]))[j3]? = some (.hdr 0 (xs.length+1) cap)) (hlen:(xs.length+2) * ie.bytes≤140737488355328) (hl63:xs.length+2≤9223372036854775807)
  (hsub:∀c':Nat,∀p∈m0++[(j3,.hdr 0 (xs.length+2) c')],(tOf n ((((m0++[(j53,.any)])++[(j54,.any)])++[(j55,.any)])++[(j3,.hdr 0 (xs.length+2) c')]))[p.1]? = some p.2) (hmd:∀p∈m0,(tOf n (m0++[(j3,.hdr 0 (xs.length+1) cap)]))[p.1]? = some p.2) :
  AW P w0 G0 c (SS n (m0++[(j3,.hdr 0 (xs.length+1) cap)]) [.nrow e cap (.lst tR) xs (.gsl 0 ver tR last)] [⟨ver,e2,tR.size E⟩])
   (fun x s=>x=.normal∧∃c',s=SS n (m0++[(j3,.hdr 0 (xs.length+2) c')]) [.nrow e c' (.lst tR) (xs++[last]) (.gsl 0 (ver+1) tR [])] [⟨ver+1,e2,tR.size E⟩]):=by
 obtain⟨o0,l1,h0,f0,hops⟩:=List.map_eq_cons_iff.1 hops
 obtain⟨o1,l2,h1,f1,hops⟩:=List.map_eq_cons_iff.1 hops
 obtain⟨o2,l3,h2,f2,hops⟩:=List.map_eq_cons_iff.1 hops
 obtain⟨o3,l4,h3,f3,hops⟩:=List.map_eq_cons_iff.1 hops
 have h4:=List.map_eq_nil_iff.1 hops
 subst h4 h3 h2 h1
 simp only [Prod.mk.injEq] at f0 f1 f2 f3
 rw [hc]
 exact AW.growRow hE h0 f0.2.1 f0.2.2 f0.1 f1.2.1 f1.2.2 f1.1 f2.2.1 hcl ha hat f2.2.2 f2.1 f3.2.1 f3.2.2 f3.1 ht hi hs hzs tR hm0 hn hiG hj3 hlen hl63 hsub hmd
theorem AW.sub {n:Nat} {m m':List (Nat × TV E)} {H:List (TBox E)} {g:List TGrow} (hi:G0.i=[]) (hs:∀p∈m',(tOf n m)[p.1]? = some p.2) (h:AW P w0 G0 c (SS n m' H g) Q):AW P w0 G0 c (SS n m H g) Q:=fun a w G hr =>
 h a w G (hr.weak hi (t':=tOf n m') (by simp [SS,tOf_len]) (fun j d hj=>by
  rcases tOf_get hj with h | h
  ·exact .inl h
  ·exact .inr (hs _ h)) [])
theorem Rel.subS {n:Nat} {m m':List (Nat × TV E)} {H:List (TBox E)} {g:List TGrow} (hi:G0.i=[]) (hs:∀p∈m',(tOf n m)[p.1]? = some p.2) (h:Rel E w0 G0 (SS n m H g) a w G):Rel E w0 G0 (SS n m' H g) a w G :=
 h.weak hi (t':=tOf n m') (by simp [SS,tOf_len]) (fun j d hj=>by
  rcases tOf_get hj with h | h
  ·exact .inl h
  ·exact .inr (hs _ h)) []
def HdrS (m:List (Nat × TV E)):Prop:=∀p∈m,(∃t x,p.2=.dat t x)∨∃r n cap,p.2=.hdr r n cap
theorem Rel.dropRows {n:Nat} {m:List (Nat × TV E)} {e:TypeId} {cap ver:Nat} {T tR:Ty} {xs:List (T.den E.D)} {last:List (tR.den E.D)} {g0:TGrow} {gs:List TGrow} (hr:Rel E w0 G0 (SS n m [.nrow e cap T xs (.gsl 0 ver tR last)] (g0::gs)) a w G) (hg:G0.g=[]) (hm:HdrS m) :
  Rel E w0 G0 (SS n m [.nrow e cap T xs (.gsl 0 ver tR last)] [g0]) a w { G with g:=G.g.take 1 }:=by
 have ev:=hr.evol
 have hsub:∀(j:Nat) y,(G.g.take 1)[j]? = some y→G.g[j]? = some y:=fun j y h=>by
  rw [List.getElem?_take] at h
  split at h
  ·exact h
  ·cases h
 refine⟨⟨ev.os,ev.tape,ev.output,ev.size,ev.old,⟨ev.goes.pr,ev.goes.cells,ev.goes.i,fun j x h hj=>(by rw [hg] at hj;cases hj)⟩,ev.prold,ev.newB,fun j x h b hj hb=>ev.newG j x h b (hsub j _ hj) hb⟩,hr.size,fun j d hj=>?_,hr.noDefers,?_,hr.fix,hr.pins,fun j c h=>(by cases h)⟩
 ·have hv:=hr.tmps j d hj
  rcases tOf_get hj with rfl | h
  ·simp only [VT]
  ·rcases hm _ h with⟨t,x,e⟩ | ⟨r,n,cap,e⟩
   ·simp only at e
    subst e
    exact hv.dat_pr (fun _ _ h=>h)
   ·simp only at e
    subst e
    simp only [VT] at hv ⊢
    exact hv
 ·refine⟨hr.boxes.len,?_,fun r b x hb hx=>?_,hr.boxes.lt,hr.boxes.nodup,hr.boxes.prok,fun j x h hj=>?_,fun j j' x h x' h' b hj hj'=>hr.boxes.apart j j' x h x' h' b (hsub j _ hj) (hsub j' _ hj'),hr.boxes.glob⟩
  ·have:=hr.boxes.gs
   show (G.g.take 1).map (·.1)=[g0]
   rw [List.map_take,this];rfl
  ·have h:=hr.boxes.box r b x hb hx
   cases r with
   | succ r=>simp [SS] at hx
   | zero =>
    simp [SS] at hx
    subst hx
    obtain⟨cur,c1,c2,c4,c5,c6⟩:=h
    refine⟨cur,c1,c2,fun i x hx=>(c4 i x hx).dat_pr (fun _ _ h=>h),?_,c6⟩
    simp only [VT] at c5 ⊢
    obtain⟨h1,x,h,h2,h3⟩:=c5
    exact⟨h1,x,h,by rw [List.getElem?_take];simpa using h2,h3⟩
  ·obtain⟨n',xs',h1,h2,h3⟩:=hr.boxes.grow j x h (hsub j _ hj)
   exact⟨n',xs',h1,h2,h3⟩
end
end Go.RT
