import Derived.Test.YteagcbkkonabbaaGreatDoorRc
import Derived.IntWalk
import Derived.Lib.UnsafeStr
import Derived.Laws.BytesString
import Derived.Lib.Builder
set_option linter.all false
namespace Go.RT
set_option linter.unusedVariables false
variable {E : TEnv}
theorem Flat.of_rows {w:World} {pr:Nat→Nat→Prop} {k:Nat}:∀ {rows:List (List Value)} {es:List (List DV)},rows.length=es.length→(∀j,j<es.length→(es.getD j []).length=k) →
  (∀j,j<es.length→LD w pr (rows.getD j []) (es.getD j []))→Flat w pr k rows.flatten es
 | [],[],_,_,_=>Flat.nil
 | r::rows,e::es,hl,hk,h=>by
  have h0:=h 0 (by simp)
  have hk0:=hk 0 (by simp)
  simp only [List.getD_cons_zero] at h0 hk0
  have ih:=Flat.of_rows (k:=k) (rows:=rows) (es:=es) (by simpa using hl) (fun j hj=>by simpa using hk (j+1) (by simpa using hj)) (fun j hj=>by simpa using h (j+1) (by simpa using hj))
  have h1:Flat w pr k r [e]:=by
   refine⟨by simp [h0.length,hk0],fun j hj=>?_,fun j l hj hl'=>?_⟩
   ·simp at hj;subst hj;simpa using hk0
   ·simp at hj;subst hj
    have:∀ {vs:List Value} {ds:List DV} (l:Nat),LD w pr vs ds→l<ds.length→VD w pr (vs.getD l undef) (ds.getD l default):=by
     intro vs
     induction vs with
     | nil=>intro ds l h hl;cases ds with | nil=>simp at hl | cons _ _=>exact h.elim
     | cons v vs ih =>
      intro ds l h hl
      cases ds with
      | nil=>exact h.elim
      | cons d ds =>
       cases l with
       | zero=>simpa using h.1
       | succ l=>simpa using ih l h.2 (by simpa using hl)
    simpa using this l h0 (by rw [hk0];exact hl')
  have:=h1.append ih
  simpa using this
 | [],_::_,hl,_,_=>by simp at hl
 | _::_,[],hl,_,_=>by simp at hl
theorem VT.dat_cells {w:World} {G:Ghost} {T:Ty} {x:T.den E.D} {v:Value} (h:VT E w G (.dat T x) v):LD w G.pr v.cells.toList (T.cells E x):=by
 cases ha:T.isAgg
 ·have h0:=h.atom ha
  have h1:=h0.one v (by simp)
  have:v.cells=#[v]:=by cases v<;>first | rfl | cases h1
  rw [this];exact h0
 ·obtain⟨vs,rfl,h0⟩:=h.aggr ha
  exact h0
def getList (T:Ty):List (TV E)→Option (List (T.den E.D))
 | []=>some []
 | d::ds=>match d.get T,getList T ds with
  | some x,some xs=>some (x::xs)
  | _,_=>none
theorem getList_length {T:Ty}:∀ {ds:List (TV E)} {xs:List (T.den E.D)},getList T ds=some xs→xs.length=ds.length
 | [],xs,h=>by cases h;rfl
 | d::ds,xs,h=>by
  simp only [getList] at h
  split at h<;>try (cases h;done)
  rename_i x xs' h1 h2
  cases h
  simp [getList_length h2]
section
variable {P : Program} {w0 w w' : World} {G0 G G' : Ghost} {st : TS E} {a : Act} {o : Oper}
theorem getList_ok (hr:Rel E w0 G0 st a w G) {T:Ty}:∀ {l:List Operand} {xs:List (T.den E.D)},getList T (l.map st.ev)=some xs →
  ∀j,j<l.length→LD w G.pr ((l.map fun x=>(a.eval x).cells.toList).getD j []) ((xs.map (T.cells E)).getD j [])
 | [],xs,_,j,hj=>by simp at hj
 | x::l,xs,h,j,hj=>by
  simp only [List.map_cons,getList] at h
  split at h<;>try (cases h;done)
  rename_i y ys h1 h2
  cases h
  cases j with
  | zero=>simpa using (TV.get_vt h1 (hr.ev x)).dat_cells
  | succ j=>simpa using getList_ok hr h2 j (by simpa using hj)
theorem does_alloc (hr:Rel E w0 G0 st a w G) {t:TypeId} {i:TI} (ho:o.op=.alloc t) (ht:tinfo P t=some i) (hz:i.zero.cells.toList.all (·.oneCell')=true) :
  Does P w0 G0 a w o { st with t:=setT st.t o.dst (.ptr st.H.length 0),H:=st.H++[.cells t (i.zero.cells.toList.map TV.ofV)] }:=by
 refine does_newBox (ob:=.cells i.zero.cells t) hr ?_ ?_
 ·exact⟨i.zero.cells,heap_alloc_new w _,fun u hu=>List.all_eq_true.1 hz u (by simpa using hu),VTs.ofValues⟩
 ·obtain⟨x,hx,hu,hs,hb,hzz⟩:=tinfo_some ht
  simp only [execOp,ho,Instr.alloc,Sem.run_bind,run_zeroValue' ht,Result.andThen_ok]
  rfl
theorem does_box (hE:E.Ok) (hr:Rel E w0 G0 st a w G) {t:TypeId} {x:Operand} (ho:o.op=.box t x) {cs:List (TV E)} (hc:(st.ev x).cellsT=some cs) :
  Does P w0 G0 a w o { st with t:=setT st.t o.dst (.ptr st.H.length 0),H:=st.H++[.cells t cs] }:=by
 obtain⟨h1,h2⟩:=cellsT_sound hE (hr.ev x) hc
 refine does_newBox (ob:=.cells (a.eval x).cells t) hr ?_ ?_
 ·have hg:Goes w G (w.alloc (.cells (a.eval x).cells t)) G:=⟨fun _ _ h=>h,fun b o v _ hv=>(Same.alloc w _).cell hv,fun _ _ h=>h,fun j x y hj=>⟨x,y,hj,Nat.le_refl _,fun _=>rfl⟩⟩
  exact⟨(a.eval x).cells,heap_alloc_new w _,h2,h1.mono hg⟩
 ·simp only [execOp,ho,Instr.box,Sem.run_bind]
  rfl
theorem Rel.rowPut (h:Rel E w0 G0 st a w G) {e:TypeId} {k n cap:Nat} {cur:Array Value} (hsz:cur.size=cap * k) (hn:n≤cap) (hc0:0<cap) (hcap:cap≤maxLen) {T:Ty} {xs:List (T.den E.D)} (hk:k=T.size E) (hl:xs.length=n)
  (hf:Flat w G.pr k (cur.toList.take (n * k)) (xs.map (T.cells E))) (dst:Option Nat) :
  ∃G',Rel E w0 G0 { st with t:=setT st.t dst (.gsl st.g.length 0 T xs),g:=st.g++[⟨0,e,k⟩] } (a.put dst (.slice (some ⟨w.heap.size,0,none⟩) n cap)) (w.alloc (.cells cur e)) G':=by
 have hN:=h.newRow (e:=e) hsz hn hc0 hcap
 refine⟨_,hN.put (d:=.gsl st.g.length 0 T xs) ?_ dst⟩
 simp only [VT]
 subst hk
 refine⟨?_,⟨0,e,T.size E⟩,_,?_,Nat.le_refl _,fun _=>rfl⟩
 ·have hlm:(xs.map (T.cells E)).length=n:=by simp [hl]
  have:=VD_row (w:=w.alloc (.cells cur e)) (pr:=fun b o=>G.pr b o∨(b=w.heap.size∧o<n * T.size E)) (b:=w.heap.size) (cap:=cap) (es:=xs.map (T.cells E)) (xs:=cur.toList.take (n * T.size E)) (by rw [hlm];exact hn)
   (fun q hq=>by
    rw [hlm] at hq
    refine⟨.inr ⟨rfl,hq⟩,?_⟩
    rw [cell_of_row _ w.heap.size q cur e (0,0) (heap_alloc_new w _)]
    have hq2:q<cur.size:=by rw [hsz];exact Nat.lt_of_lt_of_le hq (Nat.mul_le_mul_right _ hn)
    simp [List.getD,hq,hq2])
   (hf.mono (fun _ _ h=>.inl h) (fun b o v _ hv=>(Same.alloc w _).cell hv))
  rw [hlm] at this
  exact this
 ·have:=h.boxes.gs
  have hl2:G.g.length=st.g.length:=by rw [←this];simp
  show (G.g++[_])[st.g.length]? = _
  rw [List.getElem?_append_right (by omega)]
  simp [hl2]
theorem fill_rows {k:Nat}:∀(vs:List Value) (m:Nat) (cells:Array Value),(∀v,v∈vs→v.cells.size=k)→(m+vs.length) * k≤cells.size →
  Instr.fill (fun i=>some (i * k,k)) cells ((List.range' m vs.length).zip vs)=some (cells.toList.take (m * k)++(vs.map fun v=>v.cells.toList).flatten++cells.toList.drop ((m+vs.length) * k)).toArray
 | [],m,cells,_,_=>by simp [Instr.fill]
 | v::vs,m,cells,hk,hle=>by
  have hv:=hk v (by simp)
  have hle':(m+1+vs.length) * k≤cells.size:=by simpa [Nat.add_comm,Nat.add_left_comm,Nat.add_assoc] using hle
  have hmk:m * k+k≤cells.size:=by
   have:(m+1) * k≤(m+1+vs.length) * k:=Nat.mul_le_mul_right k (by omega)
   rw [Nat.add_mul,Nat.one_mul] at this
   omega
  simp only [List.length_cons,List.range'_succ,List.zip_cons_cons]
  rw [fill_step rfl hv hmk]
  have hcl:cells.toList.length=cells.size:=Array.length_toList
  have hsz:(cells.toList.take (m * k)++v.cells.toList++cells.toList.drop (m * k+v.cells.size)).toArray.size=cells.size:=by
   simp only [List.size_toArray,List.length_append,List.length_take,List.length_drop,hcl,Array.length_toList,hv];omega
  rw [fill_rows vs (m+1) _ (fun u hu=>hk u (by simp [hu])) (by rw [hsz];exact hle')]
  congr 2
  simp only [List.map_cons,List.flatten_cons]
  have hl2:(cells.toList.take (m * k)++v.cells.toList).length=(m+1) * k:=by
   rw [List.length_append,List.length_take,hcl,Array.length_toList,hv,Nat.add_mul,Nat.one_mul];omega
  rw [List.take_append_of_le_length (by rw [hl2];exact Nat.le_refl _),←hl2,List.take_length]
  have hd:(cells.toList.take (m * k)++v.cells.toList++cells.toList.drop (m * k+v.cells.size)).drop ((m+1+vs.length) * k)=cells.toList.drop ((m+(vs.length+1)) * k):=by
   rw [List.drop_append,hl2]
   have h0:(cells.toList.take (m * k)++v.cells.toList).drop ((m+1+vs.length) * k)=[]:=by
    apply List.drop_eq_nil_of_le
    rw [hl2]
    exact Nat.mul_le_mul_right k (by omega)
   rw [h0,List.nil_append,List.drop_drop,hv]
   congr 1
   have e1:(m+1+vs.length) * k=(m+1) * k+vs.length * k:=Nat.add_mul _ _ _
   have e2:(m+(vs.length+1)) * k=m * k+(vs.length * k+k):=by rw [Nat.add_mul,Nat.add_mul,Nat.one_mul]
   have e3:(m+1) * k=m * k+k:=by rw [Nat.add_mul,Nat.one_mul]
   omega
  rw [hd]
  simp [List.append_assoc]
theorem run_buildRow (hE:E.Ok) (hr:Rel E w0 G0 st a w G) {t e:TypeId} {len:Nat} {parts:Array (Nat × Operand)} {j1 j2:Nat} {z:Value} {ie:TI} (ho:o.op=.buildSlice t len parts)
  (ht:tinfo P t=some ⟨.slice e,j1,j2,z⟩) (hi:tinfo P e=some ie) (h1:parts.toList.map (·.1)=List.range len) (h2:len * ie.size≤16777216) (h3:0<ie.size) (h0':0<len)
  {T:Ty} {xs:List (T.den E.D)} (hk:ie.size=T.size E) (hx:getList T (parts.toList.map fun p=>st.ev p.2)=some xs) :
  ∃cs:Array Value,(execOp a.eval o).run P w=.ok (.value (.slice (some ⟨w.heap.size,0,none⟩) len len)) (w.alloc (.cells cs e))∧cs.size=len * ie.size∧xs.length=len∧Flat w G.pr ie.size (cs.toList.take (len * ie.size)) (xs.map (T.cells E)):=by
 obtain⟨xt,hxt,hut,-⟩:=tinfo_some ht
 obtain⟨xe,hxe,hue,hsz,-⟩:=tinfo_some hi
 have hlen:parts.toList.length=len:=by simpa using congrArg List.length h1
 let vs:=parts.toList.map fun p=>a.eval p.2
 have hvl:vs.length=len:=by simp [vs,hlen]
 have hrowsL:=getList_ok hr (l:=parts.toList.map (·.2)) (T:=T) (xs:=xs) (by rw [List.map_map];exact hx)
 have hxl:=getList_length hx
 have hrow:(parts.toList.map (·.2)).map (fun x=>(a.eval x).cells.toList)=vs.map fun v=>v.cells.toList:=by simp [vs,List.map_map,Function.comp_def]
 rw [hrow] at hrowsL
 have hxlen:xs.length=len:=by rw [hxl];simp [hlen]
 have hck:∀j,j<(xs.map (T.cells E)).length→((xs.map (T.cells E)).getD j []).length=ie.size:=fun j hj=>by
  have hj':j<xs.length:=by simpa using hj
  rw [hk,show (xs.map (T.cells E)).getD j []=T.cells E xs[j] by simp [List.getD,hj'],Ty.cells_length E hE]
 have hflat:Flat w G.pr ie.size (vs.map fun v=>v.cells.toList).flatten (xs.map (T.cells E)) :=
  Flat.of_rows (by simp [hvl,hxlen]) hck (fun j hj=>hrowsL j (by rw [List.length_map];rw [List.length_map,hxlen] at hj;rw [hlen];exact hj))
 have hvk:∀v,v∈vs→v.cells.size=ie.size:=by
  intro v hv
  obtain⟨j,hj,rfl⟩:=List.getElem_of_mem hv
  have hjl:j<len:=by rw [←hvl];exact hj
  have:=(hrowsL j (by simpa [hlen] using hjl)).length
  rw [hck j (by simpa [hxlen] using hjl)] at this
  simpa [List.getD,hj] using this
 have hzip:(parts.map fun (i,x)=>(i,a.eval x)).toList=(List.range' 0 vs.length).zip vs:=by
  rw [hvl,←List.range_eq_range',←h1]
  simp only [Array.toList_map,vs]
  generalize parts.toList=l
  induction l with
  | nil=>rfl
  | cons p l ih=>simp [ih]
 let zero:Array Value:=if len * ie.size=0 then #[] else ie.zero.cells
 let base:Array Value:=(Array.range (len * ie.size)).map (zero[· % zero.size]!)
 have hbs:base.size=len * ie.size:=by simp [base]
 have hfill:=fill_rows (k:=ie.size) vs 0 base hvk (by rw [hbs,hvl];simp)
 have hbl:base.toList.length=base.size:=Array.length_toList
 let cs:Array Value:=((vs.map fun v=>v.cells.toList).flatten).toArray
 have hfill':Instr.fill (fun i=>some (i * ie.size,ie.size)) base (parts.map fun (i,x)=>(i,a.eval x)).toList=some cs:=by
  rw [hzip,hfill,hvl]
  have:base.toList.drop ((0+len) * ie.size)=[]:=List.drop_eq_nil_of_le (by rw [hbl,hbs,Nat.zero_add];exact Nat.le_refl _)
  rw [this];simp [cs]
 have hrun:(execOp a.eval o).run P w=.ok (.value (.slice (some ⟨w.heap.size,0,none⟩) len len)) (w.alloc (.cells cs e)):=by
  simp only [execOp,ho,Instr.buildSlice,Sem.run_bind,run_underlying' hut,Result.andThen_ok,run_sizeOf' hxe,hsz]
  rw [if_neg (show ¬ len * ie.size>2 ^ 24 by simpa using h2)]
  have hfill2:Instr.fill (fun i=>some (i * ie.size,ie.size)) ((Array.range (len * ie.size)).map (zero[· % zero.size]!)) (parts.map fun x=>(x.1,a.eval x.2)).toList=some cs:=hfill'
  by_cases h0:len * ie.size=0
  ·rw [if_pos h0]
   have hz:zero=#[]:=by simp only [zero,if_pos h0]
   rw [hz] at hfill2
   simp only [Sem.run_bind,Sem.run_pure,Result.andThen_ok,hfill2,newRow]
   rfl
  ·rw [if_neg h0]
   have hz:zero=ie.zero.cells:=by simp only [zero,if_neg h0]
   rw [hz] at hfill2
   simp only [Sem.run_bind,Sem.run_pure,run_zeroValue' hi,Result.andThen_ok,hfill2,newRow]
   rfl
 have hcs:cs.size=len * ie.size:=by
  have:=hflat.1
  simp only [cs,List.size_toArray,this];simp [hxlen]
 refine⟨cs,hrun,hcs,hxlen,?_⟩
 have e1:cs.toList.take (len * ie.size)=(vs.map fun v=>v.cells.toList).flatten:=by
  have e0:cs.toList=(vs.map fun v=>v.cells.toList).flatten:=by simp only [cs]
  rw [e0,List.take_of_length_le]
  rw [hflat.1,List.length_map,hxlen]
  exact Nat.le_refl _
 rw [e1];exact hflat
theorem does_buildSlice (hE:E.Ok) (hr:Rel E w0 G0 st a w G) {t e:TypeId} {len:Nat} {parts:Array (Nat × Operand)} {j1 j2:Nat} {z:Value} {ie:TI} (ho:o.op=.buildSlice t len parts)
  (ht:tinfo P t=some ⟨.slice e,j1,j2,z⟩) (hi:tinfo P e=some ie) (h1:parts.toList.map (·.1)=List.range len) (h2:len * ie.size≤16777216) (h3:0<ie.size) (h0':0<len)
  {T:Ty} {xs:List (T.den E.D)} (hk:ie.size=T.size E) (hx:getList T (parts.toList.map fun p=>st.ev p.2)=some xs) :
  Does P w0 G0 a w o { st with t:=setT st.t o.dst (.gsl st.g.length 0 T xs),g:=st.g++[⟨0,e,ie.size⟩] }:=by
 obtain⟨cs,hrun,hcs,hxlen,hfl⟩:=run_buildRow hE hr ho ht hi h1 h2 h3 h0' hk hx
 obtain⟨G',hG'⟩:=hr.rowPut (e:=e) (k:=ie.size) (n:=len) (cap:=len) (cur:=cs) hcs (Nat.le_refl _) h0' (by
   have:len≤len * ie.size:=Nat.le_mul_of_pos_right _ h3
   have hm:maxLen=9223372036854775807:=rfl
   omega) hk hxlen hfl o.dst
 exact⟨_,_,_,G',hrun,.inl rfl,hG'⟩
theorem src_list (hr:Rel E w0 G0 st a w G) {y:Operand} {tx:TypeId} {ix:TI} {e':TypeId} (htx:tinfo P tx=some ix) (hkx:ix.kind=.slice e') {T:Ty} (hk0:0<T.size E) {xs:List (T.den E.D)}
  (hd:VD w G.pr (a.eval y) (.slice (T.size E) (xs.map (T.cells E)))):∃news,Src P (T.size E) tx (a.eval y) xs.length news w∧Flat w G.pr (T.size E) news (xs.map (T.cells E)):=by
 obtain⟨xt,hxt,hut,-⟩:=tinfo_some htx
 rw [hkx] at hut
 obtain⟨cs,hfl,hcase⟩:=hd.flat hk0
 refine⟨cs,?_,hfl⟩
 have hone:=hfl.one hk0
 have hl:(xs.map (T.cells E)).length=xs.length:=by simp
 rcases hcase with⟨ad,he,hn⟩ | ⟨b,off,cap,he,hcap,hcells⟩
 ·have hx:cs=[]:=List.eq_nil_of_length_eq_zero (by rw [hfl.1,hn];simp)
  have hx':xs=[]:=by simpa using hn
  subst hx'
  rw [he,hx]
  cases ad with
  | none=>exact Src.ofNil w hut 0
  | some ad=>exact Src.ofSlice w hut ad 0 0 [] (by simp) (fun j u hu=>by simp at hu) (fun u hu=>by simp at hu)
 ·rw [he,hl]
  refine Src.ofSlice w hut _ _ _ cs (by rw [hfl.1,hl]) (fun j u hu=>?_) hone
  have hj:j<cs.length:=(List.getElem?_eq_some_iff.1 hu).1
  have:=(hcells j (by rw [←hfl.1];exact hj)).2
  rw [add_lit,this]
  simp [List.getD,hu]
def toInts (l:List UInt8):List Int:=l.map fun b=>(b.toNat:Int)
theorem src_string (hr:Rel E w0 G0 st a w G) {y:Operand} {tx:TypeId} {ix:TI} (htx:tinfo P tx=some ix) (hkx:ix.kind=.string) {l:List UInt8} (hd:st.ev y=.dat .str l) :
  ∃news,Src P 1 tx (a.eval y) l.length news w∧Flat w G.pr 1 news ((toInts l).map (Ty.cells E (.int .u8))):=by
 obtain⟨xt,hxt,hut,-⟩:=tinfo_some htx
 rw [hkx] at hut
 have hv:=hr.ev y
 rw [hd] at hv
 rw [hv.str_inv]
 refine⟨byteCells ⟨⟨l⟩⟩,?_,?_⟩
 ·exact Src.ofString (P:=P) w hut ⟨⟨l⟩⟩
 ·refine⟨by simp [byteCells,toInts],fun j hj=>?_,fun j k hj hk=>?_⟩
  ·simp [toInts] at hj
   simp [List.getD,hj,toInts,Ty.cells]
  ·simp [toInts] at hj
   obtain rfl:k=0:=by omega
   have e1:(byteCells ⟨⟨l⟩⟩).getD (j * 1+0) undef=.int .u8 l[j].toNat:=by simp [byteCells,List.getD,hj]
   have e2:(((toInts l).map (Ty.cells E (.int .u8))).getD j []).getD 0 default=.int .u8 l[j].toNat:=by simp [List.getD,hj,toInts,Ty.cells]
   rw [e1,e2]
   exact .int _ _
theorem does_append (hE:E.Ok) (hr:Rel E w0 G0 st a w G) {c:Call} {x y:Operand} {t tx e:TypeId} {j1 j2:Nat} {z:Value} {ie:TI} (ho:o.op=.call c) (hcl:c.callee=.builtin .append)
  (ha:c.args.toList=[x,y]) (hat:c.argTypes.toList=[t,tx]) (ht:tinfo P t=some ⟨.slice e,j1,j2,z⟩) (hi:tinfo P e=some ie) {j ver:Nat} {T:Ty} {xs ys:List (T.den E.D)}
  (hx:st.ev x=.gsl j ver T xs) {g:TGrow} (hg:st.g[j]? = some g) (hsoft:∀c,(j,c)∉st.c) (hver:g.ver=ver) (hge:g.e=e) (hgk:g.k=ie.size) (hk:ie.size=T.size E) (hk0:0<ie.size) (hzs:ie.zero.cells.size=ie.size)
  (h63:xs.length+ys.length≤9223372036854775807) (hbytes:(xs.length+ys.length) * ie.bytes≤140737488355328)
  {news:List Value} (hsrc:Src P ie.size tx (a.eval y) ys.length news w) (hf:Flat w G.pr ie.size news (ys.map (T.cells E))) :
  Does P w0 G0 a w o { st with t:=setT st.t o.dst (.gsl j (g.ver+1) T (xs++ys)),g:=st.g.set j { g with ver:=g.ver+1 } }:=by
 have ha':c.args=#[x,y]:=by rw [←Array.toArray_toList (xs:=c.args),ha]
 have hat':c.argTypes=#[t,tx]:=by rw [←Array.toArray_toList (xs:=c.argTypes),hat]
 have hv:=hr.ev x
 rw [hx] at hv
 simp only [VT] at hv
 obtain⟨hvd,gx,gh,hgj,hle,heq⟩:=hv
 have hgg:gx=g:=by
  have:=hr.boxes.gs
  have h2:(G.g.map (·.1))[j]? = some gx:=by simp [hgj]
  rw [this,hg] at h2
  exact (Option.some.inj h2).symm
 subst hgg
 have hve:=heq hver.symm
 rw [←hve] at hgj
 have hl1:(xs.map (T.cells E)).length=xs.length:=by simp
 have hl2:(ys.map (T.cells E)).length=ys.length:=by simp
 obtain⟨v',w',pr',hrun,hR,hV⟩:=hr.append (P:=P) (t:=t) (tx:=tx) (ty:=o.type) (i:=ie) (e:=e) ht hi hk0 hzs hgj hsoft hge hgk (es:=xs.map (T.cells E)) (fs:=ys.map (T.cells E)) (y:=a.eval y) (news:=news)
  (by rw [hk];exact hvd) (by rw [hl2];exact hsrc) hf (by rw [hl1,hl2];exact h63) (by rw [hl1,hl2];exact hbytes)
 refine⟨.value v',v',w',_,?_,.inl rfl,hR.put (d:=.gsl j (gx.ver+1) T (xs++ys)) ?_ o.dst⟩
 ·unfold execOp
  simp only [ho,resolve,hcl,Sem.run_bind,Sem.run_pure,Result.andThen_ok,invoke,builtin,ha',hat',List.map_toArray,List.map_cons,List.map_nil]
  rw [hrun]
  rfl
 ·simp only [VT]
  have hjl:j<G.g.length:=(List.getElem?_eq_some_iff.1 hgj).1
  refine⟨by rw [List.map_append,←hk];exact hV,{ gx with ver:=gx.ver+1 },v',by simp [hjl],Nat.le_refl _,fun _=>rfl⟩
end
end Go.RT
namespace Go.RT
set_option linter.unusedVariables false
variable {E : TEnv}
def eqDV:DV→DV→Option Bool
 | .int _ a,.int _ b=>some (a==b)
 | .bool a,.bool b=>some (a==b)
 | .str a,.str b=>some (a==b)
 | _,_=>none
def eqDVs:List DV→List DV→Option Bool
 | [],[]=>some true
 | a::as,b::bs=>match eqDV a b,eqDVs as bs with
  | some p,some q=>some (p&&q)
  | _,_=>none
 | _,_=>none
def flatK (P:Program) (t:TypeId):DV→Bool
 | .int k _=>match P.underlying t with
  | some (.int k')=>decide (k=k')
  | _=>false
 | .bool _=>match P.underlying t with
  | some .bool=>true
  | _=>false
 | .str _=>match P.underlying t with
  | some .string=>true
  | _=>false
 | _=>false
def flatFs (P:Program):Nat→List Field→List DV→List DV→Bool
 | _,[],[],[]=>true
 | n,f::fs,d::ds,c::cs=>Nat.beq f.offset n && !(f.name == "_")&&flatK P f.type d&&flatK P f.type c&&flatFs P (n+1) fs ds cs
 | _,_,_,_=>false
theorem eqOne {P:Program} {w:World} {pr:Nat→Nat→Prop} {t:TypeId} {u v:Value} {d c:DV} {b:Bool} (hu:VD w pr u d) (hv:VD w pr v c) (hd:flatK P t d=true) (hc:flatK P t c=true) (h:eqDV d c=some b) :
  (∀w',(isAgg t).run P w'=.ok false w')∧∀w' n,(Op.equalIn (n+1) t u v).run P w'=.ok b w':=by
 unfold eqDV at h
 split at h<;>try (cases h;done)
 ·rename_i k a k' a'
  cases h
  cases hu
  cases hv
  unfold flatK at hd hc
  cases ht:P.underlying t with
  | none=>rw [ht] at hd;cases hd
  | some dd =>
   rw [ht] at hd hc
   cases dd<;>simp only [Bool.false_eq_true,decide_eq_true_eq] at hd hc
   subst hd
   subst hc
   exact⟨fun w'=>by simp [isAgg,run_underlying' ht],fun w' n=>run_equalIn_int w' n t _ _ a a' ht⟩
 ·rename_i a a'
  cases h
  cases hu
  cases hv
  unfold flatK at hd
  cases ht:P.underlying t with
  | none=>rw [ht] at hd;cases hd
  | some dd =>
   rw [ht] at hd
   cases dd<;>simp only [Bool.false_eq_true] at hd
   exact⟨fun w'=>by simp [isAgg,run_underlying' ht],fun w' n=>run_equalIn_bool' w' n t a a' ht⟩
 ·rename_i a a'
  cases h
  cases hu
  cases hv
  unfold flatK at hd
  cases ht:P.underlying t with
  | none=>rw [ht] at hd;cases hd
  | some dd =>
   rw [ht] at hd
   cases dd<;>simp only [Bool.false_eq_true] at hd
   exact⟨fun w'=>by simp [isAgg,run_underlying' ht],fun w' n=>by
    have:=run_equalIn_string (P:=P) w' n t ⟨⟨a⟩⟩ ⟨⟨a'⟩⟩ ht
    simpa [mkStr] using this⟩
theorem eqFlat {P:Program} {w:World} {pr:Nat→Nat→Prop} {xs ys:Array Value}:∀(fs:List Field) (n:Nat) (as bs:List Value) (ds cs:List DV) (b:Bool),(∀j:Nat,xs[n+j]? = as[j]?)→(∀j:Nat,ys[n+j]? = bs[j]?) →
  LD w pr as ds→LD w pr bs cs→flatFs P n fs ds cs=true→eqDVs ds cs=some b→∀w' d,(Op.eqFields (d+1) xs ys fs).run P w'=.ok b w'
 | [],n,as,bs,[],[],b,_,_,_,_,_,h,w',d=>by
  cases h
  simp [Op.eqFields]
 | f::fs,n,a::as,b'::bs,dd::ds,c::cs,b,hx,hy,hA,hB,hf,h,w',d=>by
  simp only [flatFs,Bool.and_eq_true,Bool.not_eq_true'] at hf
  obtain⟨⟨⟨⟨f1,f2⟩,f3⟩,f4⟩,f5⟩:=hf
  have f1:=Nat.eq_of_beq_eq_true f1
  have f2:f.name ≠ "_" := by simpa using f2
  unfold eqDVs at h
  cases h1:eqDV dd c with
  | none=>rw [h1] at h;cases h
  | some p =>
   cases h2:eqDVs ds cs with
   | none=>rw [h1,h2] at h;cases h
   | some q =>
    rw [h1,h2] at h
    cases h
    obtain⟨g1,g2⟩:=eqOne hA.1 hB.1 f3 f4 h1
    have hx0:xs[f.offset]? = some a:=by rw [f1];simpa using hx 0
    have hy0:ys[f.offset]? = some b':=by rw [f1];simpa using hy 0
    have px:∀w',(part f.type xs f.offset).run P w'=.ok a w':=fun w'=>by simp [part,g1,hx0]
    have py:∀w',(part f.type ys f.offset).run P w'=.ok b' w':=fun w'=>by simp [part,g1,hy0]
    have ih:=eqFlat fs (n+1) as bs ds cs q (fun j=>by have:=hx (j+1);rw [show n+(j+1)=n+1+j by omega] at this;simpa using this) (fun j=>by have:=hy (j+1);rw [show n+(j+1)=n+1+j by omega] at this;simpa using this) hA.2 hB.2 f5 h2 w' d
    simp only [Op.eqFields]
    rw [if_pos f2]
    simp only [Sem.run_bind,px,py,g2,Result.andThen_ok]
    cases p with
    | false=>simp
    | true=>simpa using ih
 | [],_,_,_,_::_,_,_,_,_,_,_,hf,_,_,_=>by simp [flatFs] at hf
 | [],_,_,_,[],_::_,_,_,_,_,_,hf,_,_,_=>by simp [flatFs] at hf
 | _::_,_,_,_,[],_,_,_,_,_,_,hf,_,_,_=>by simp [flatFs] at hf
 | _::_,_,_,_,_::_,[],_,_,_,_,_,hf,_,_,_=>by simp [flatFs] at hf
 | _::_,_,[],_,_::_,_::_,_,_,_,hA,_,_,_,_,_=>hA.elim
 | _::_,_,_::_,[],_::_,_::_,_,_,_,_,hB,_,_,_,_=>hB.elim
def eqX (P:Program) (t:TypeId) (yc:Bool) (x y:TV E):Option Bool :=
 match tinfo P t,x,y with
 | some ⟨.bool,_,_,_⟩,.dat .bool a,.dat .bool b=>some (a==b)
 | some ⟨.pointer _,_,_,_⟩,.optr c _ _,.val (.pointer none)=>some (!c)
 | some ⟨.pointer _,_,_,_⟩,.ptr _ _,.val (.pointer none)=>some false
 | some ⟨.pointer _,_,_,_⟩,.cel _ _ _,.val (.pointer none)=>some false
 | some ⟨.slice _,_,_,_⟩,.bsl _ _ _,.val (.slice none 0 0)=>some false
 | some ⟨.pointer _,_,_,_⟩,.val (.pointer none),.val (.pointer none)=>some true
 | some ⟨.pointer e,_,_,_⟩,.optr c r off,.ptr r' off'=>cond (Nat.beq r r'&&Nat.beq off off') (match tinfo P e with | some _=>some c | none=>none) none
 | some ⟨.pointer e,_,_,_⟩,.ptr r off,.ptr r' off'=>cond (Nat.beq r r'&&Nat.beq off off') (match tinfo P e with | some _=>some true | none=>none) none
 | some ⟨.interface _,_,_,_⟩,.iface _ _,.val .nilIface=>some false
 | some ⟨.interface _,_,_,_⟩,.val .nilIface,.val .nilIface=>cond yc (some true) none
 | some ⟨.func _ _ _,_,_,_⟩,.func _ _,.val .nilFunc=>some false
 | some ⟨.func _ _ _,_,_,_⟩,.val .nilFunc,.val .nilFunc=>some true
 | some ⟨.struct fs,_,_,_⟩,.dat a x,.dat b y=>cond (a.isAgg&&b.isAgg && !(P.stoodInHeld t) && !(P.eqGuardType P.depth t)&&flatFs P 0 fs.toList (a.cells E x) (b.cells E y)) (eqDVs (a.cells E x) (b.cells E y)) none
 | _,_,_=>none
def isConst:Operand→Bool
 | .const _=>true
 | _=>false
def eqRes (op:BinOp) (b:Bool):Bool:=match op with
 | .eql=>b
 | _=>!b
theorem run_sameAddr_self {P:Program} (a:Addr) (w:World):(sameAddr a a).run P w=.ok true w:=by simp [sameAddr]
theorem eqX_sound {P:Program} {w:World} {G:Ghost} {t:TypeId} {x y:Operand} {u v:Value} {du dv:TV E} {b:Bool}
  (hu:VT E w G du u) (hv:VT E w G dv v) (h:eqX P t (isConst y) du dv=some b) (op:BinOp) (hop:op=.eql∨op=.neq) :
  ∀w',(do eqGuard op t x y u v;binOp op t u v).run P w'=.ok (.bool (eqRes op b)) w':=by
 have fin:(∀w',(eqGuard op t x y u v).run P w'=.ok () w')→(∀w' d,(Op.equalIn (d+1) t u v).run P w'=.ok b w')→(∀op',op'=.eql∨op'=.neq→binOp op' t u v=(do let r ←Op.equal t u v;pure (.bool (eqRes op' r)))) →
   ∀w',(do eqGuard op t x y u v;binOp op t u v).run P w'=.ok (.bool (eqRes op b)) w':=by
  intro h1 h2 h3 w'
  simp only [Sem.run_bind,h1,Result.andThen_ok,h3 op hop,Op.equal,Op.maxDepth,h2 w' 9999,Sem.run_pure]
 unfold eqX at h
 split at h<;>try (cases h;done)
 ·rename_i j1 j2 z a c ht
  cases h
  obtain⟨xt,hxt,hut,-⟩:=tinfo_some ht
  rw [hu.bool_inv,hv.bool_inv] at *
  exact fin (fun w'=>by rcases hop with rfl | rfl<;>rfl) (fun w' d=>by simp [Op.equalIn,run_underlying' hut]) (fun op' h=>by rcases h with rfl | rfl<;>rfl)
 ·rename_i e j1 j2 z c r off ht
  cases h
  obtain⟨xt,hxt,hut,-⟩:=tinfo_some ht
  cases c<;>simp only [VT] at hu hv
  ·subst hu;subst hv
   exact fin (fun w'=>by rcases hop with rfl | rfl<;>rfl) (fun w' d=>by simp [Op.equalIn,run_underlying' hut]) (fun op' h=>by rcases h with rfl | rfl<;>rfl)
  ·obtain⟨b,rfl,-⟩:=hu
   subst hv
   exact fin (fun w'=>by rcases hop with rfl | rfl<;>rfl) (fun w' d=>by simp [Op.equalIn,run_underlying' hut]) (fun op' h=>by rcases h with rfl | rfl<;>rfl)
 ·rename_i e j1 j2 z r off ht
  cases h
  obtain⟨xt,hxt,hut,-⟩:=tinfo_some ht
  simp only [VT] at hu hv
  obtain⟨b,rfl,-⟩:=hu
  subst hv
  exact fin (fun w'=>by rcases hop with rfl | rfl<;>rfl) (fun w' d=>by simp [Op.equalIn,run_underlying' hut]) (fun op' h=>by rcases h with rfl | rfl<;>rfl)
 ·rename_i e j1 j2 z T y' off ht
  cases h
  obtain⟨xt,hxt,hut,-⟩:=tinfo_some ht
  simp only [VT] at hu hv
  obtain⟨b,o,c,rfl,-⟩:=hu
  subst hv
  exact fin (fun w'=>by rcases hop with rfl | rfl<;>rfl) (fun w' d=>by simp [Op.equalIn,run_underlying' hut]) (fun op' h=>by rcases h with rfl | rfl<;>rfl)
 ·rename_i e j1 j2 z r off n ht
  cases h
  obtain⟨xt,hxt,hut,-⟩:=tinfo_some ht
  simp only [VT] at hu hv
  obtain⟨b,rfl,-⟩:=hu
  subst hv
  exact fin (fun w'=>by rcases hop with rfl | rfl<;>rfl) (fun w' d=>by simp [Op.equalIn,run_underlying' hut]) (fun op' h=>by rcases h with rfl | rfl<;>rfl)
 ·rename_i e j1 j2 z ht
  cases h
  obtain⟨xt,hxt,hut,-⟩:=tinfo_some ht
  simp only [VT] at hu hv
  subst hu;subst hv
  exact fin (fun w'=>by rcases hop with rfl | rfl<;>rfl) (fun w' d=>by simp [Op.equalIn,run_underlying' hut]) (fun op' h=>by rcases h with rfl | rfl<;>rfl)
 ·rename_i e j1 j2 z c r off r' off' ht
  obtain⟨xt,hxt,hut,-⟩:=tinfo_some ht
  cases hb:(Nat.beq r r'&&Nat.beq off off')<;>rw [hb] at h<;>simp only [cond_true,cond_false] at h
  ·cases h
  rw [Bool.and_eq_true] at hb
  obtain rfl:=Nat.eq_of_beq_eq_true hb.1
  obtain rfl:=Nat.eq_of_beq_eq_true hb.2
  split at h<;>try (cases h;done)
  rename_i ie hie
  cases h
  obtain⟨xe,hxe,-⟩:=tinfo_some hie
  cases b<;>simp only [VT] at hu hv
  ·obtain⟨b,rfl,-⟩:=hv
   subst hu
   exact fin (fun w'=>by rcases hop with rfl | rfl<;>rfl) (fun w' d=>by simp [Op.equalIn,run_underlying' hut]) (fun op' h=>by rcases h with rfl | rfl<;>rfl)
  ·obtain⟨b,rfl,h1⟩:=hu
   obtain⟨b',rfl,h2⟩:=hv
   rw [h1] at h2
   cases h2
   exact fin (fun w'=>by rcases hop with rfl | rfl<;>rfl) (fun w' d=>by simp [Op.equalIn,run_underlying' hut,sizeOf,typeInfo,hxe,run_sameAddr_self]) (fun op' h=>by rcases h with rfl | rfl<;>rfl)
 ·rename_i e j1 j2 z r off r' off' ht
  obtain⟨xt,hxt,hut,-⟩:=tinfo_some ht
  cases hb:(Nat.beq r r'&&Nat.beq off off')<;>rw [hb] at h<;>simp only [cond_true,cond_false] at h
  ·cases h
  rw [Bool.and_eq_true] at hb
  obtain rfl:=Nat.eq_of_beq_eq_true hb.1
  obtain rfl:=Nat.eq_of_beq_eq_true hb.2
  split at h<;>try (cases h;done)
  rename_i ie hie
  cases h
  obtain⟨xe,hxe,-⟩:=tinfo_some hie
  simp only [VT] at hu hv
  obtain⟨b,rfl,h1⟩:=hu
  obtain⟨b',rfl,h2⟩:=hv
  rw [h1] at h2
  cases h2
  exact fin (fun w'=>by rcases hop with rfl | rfl<;>rfl) (fun w' d=>by simp [Op.equalIn,run_underlying' hut,sizeOf,typeInfo,hxe,run_sameAddr_self]) (fun op' h=>by rcases h with rfl | rfl<;>rfl)
 ·rename_i ms j1 j2 z ty d ht
  cases h
  obtain⟨xt,hxt,hut,-⟩:=tinfo_some ht
  simp only [VT] at hu hv
  obtain⟨u',rfl,-⟩:=hu
  subst hv
  exact fin (fun w'=>by rcases hop with rfl | rfl<;>rfl) (fun w' d=>by simp [Op.equalIn,run_underlying' hut]) (fun op' h=>by rcases h with rfl | rfl<;>rfl)
 ·rename_i ms j1 j2 z ht
  obtain⟨xt,hxt,hut,-⟩:=tinfo_some ht
  simp only [VT] at hu hv
  subst hu;subst hv
  cases hc:isConst y<;>rw [hc] at h<;>simp only [cond_true,cond_false] at h
  ·cases h
  cases h
  have hcy:∃c,y=.const c:=by unfold isConst at hc;split at hc;exact⟨_,rfl⟩;cases hc
  obtain⟨c,rfl⟩:=hcy
  exact fin (fun w'=>by rcases hop with rfl | rfl<;>simp [eqGuard]) (fun w' d=>by simp [Op.equalIn,run_underlying' hut]) (fun op' h=>by rcases h with rfl | rfl<;>rfl)
 ·rename_i f1 f2 f3 j1 j2 z fn caps ht
  cases h
  obtain⟨xt,hxt,hut,-⟩:=tinfo_some ht
  simp only [VT] at hu hv
  obtain⟨u',rfl,-⟩:=hu
  subst hv
  exact fin (fun w'=>by rcases hop with rfl | rfl<;>rfl) (fun w' d=>by simp [Op.equalIn,run_underlying' hut]) (fun op' h=>by rcases h with rfl | rfl<;>rfl)
 ·rename_i f1 f2 f3 j1 j2 z ht
  cases h
  obtain⟨xt,hxt,hut,-⟩:=tinfo_some ht
  simp only [VT] at hu hv
  subst hu;subst hv
  exact fin (fun w'=>by rcases hop with rfl | rfl<;>rfl) (fun w' d=>by simp [Op.equalIn,run_underlying' hut]) (fun op' h=>by rcases h with rfl | rfl<;>rfl)
 ·rename_i fs j1 j2 z a x' b' y' ht
  obtain⟨xt,hxt,hut,-⟩:=tinfo_some ht
  have hut:P.underlying t=some (.struct fs):=hut
  cases hb:(a.isAgg&&b'.isAgg && !(P.stoodInHeld t) && !(P.eqGuardType P.depth t)&&flatFs P 0 fs.toList (a.cells E x') (b'.cells E y'))<;>rw [hb] at h<;>simp only [cond_true,cond_false] at h
  ·cases h
  simp only [Bool.and_eq_true,Bool.not_eq_true'] at hb
  obtain⟨⟨⟨⟨a1,a2⟩,a3⟩,a4⟩,a5⟩:=hb
  simp only [VT,a1] at hu
  simp only [VT,a2] at hv
  obtain⟨us,rfl,hu⟩:=hu
  obtain⟨vs,rfl,hv⟩:=hv
  have hfs:P.fieldsOf t=fs:=by unfold Program.fieldsOf;rw [hut]
  intro w'
  have he:(Op.equalIn 10000 t (.agg us) (.agg vs)).run P w'=.ok b w':=by
   rw [run_equalIn_struct w' 9999 t us vs (by rw [hfs];exact hut) a3,hfs]
   exact eqFlat fs.toList 0 us.toList vs.toList _ _ b (fun j=>by simp) (fun j=>by simp) hu hv a5 h w' 9998
  rcases hop with rfl | rfl
  ·simp only [Sem.run_bind,run_eqGuard_agg w' .eql t x y us vs a4,Result.andThen_ok,run_eql_struct,he]
   rfl
  ·simp only [Sem.run_bind,run_eqGuard_agg w' .neq t x y us vs a4,Result.andThen_ok,run_neq_struct,he]
   rfl
def zeroTV (E:TEnv) (ty:Option Ty):Value→TV E
 | .agg cs=>packT E ty (cs.toList.map TV.ofV)
 | v=>.ofV v
def assertT (E:TEnv) (ty:TypeId→Option Ty) (asserted:TypeId) (i:TI) (ok:Bool) (d:TV E):Option (TV E) :=
 match i.kind,d with
 | .interface _,_=>none
 | _,.iface t v=>cond (Nat.beq t asserted) (some (cond ok (.tuple [v,.dat .bool true]) v)) (cond ok (some (.tuple [zeroTV E (ty asserted) i.zero,.dat .bool false])) none)
 | _,.val .nilIface=>cond ok (some (.tuple [zeroTV E (ty asserted) i.zero,.dat .bool false])) none
 | _,_=>none
def evalX (P:Program) (ty:TypeId→Option Ty) (st:TS E):Op→Option (Bool × TV E)
 | .binOp op t x y _=>match op,eqX P t (isConst y) (st.ev x) (st.ev y) with
  | .eql,some b=>some (true,.dat .bool b)
  | .neq,some b=>some (true,.dat .bool (!b))
  | _,_=>none
 | .typeAssert x _ asserted ok=>match tinfo P asserted with
  | some i=>match assertT E ty asserted i ok (st.ev x) with
   | some d=>some (i.zero.cells.toList.all (·.oneCell'),d)
   | none=>none
  | none=>none
 | .call c=>match c.callee,c.args.toList,c.argTypes.toList with
  | .builtin .max,[x,y],_=>match st.ev x,st.ev y with
   | .dat (.int k) a,.dat (.int _) b=>some (true,.dat (.int k) (cond (decide (a<b)) b a))
   | _,_=>none
  | .builtin .min,[x,y],_=>match st.ev x,st.ev y with
   | .dat (.int k) a,.dat (.int _) b=>some (true,.dat (.int k) (cond (decide (b<a)) b a))
   | _,_=>none
  | .builtin .unsafeSliceData,[x],_=>match st.ev x with
   | .gsl j ver (.int .u8) xs=>match st.g[j]? with
    | some g=>some (Nat.beq g.ver ver && !(E.zc g.e),.sdp j ver xs)
    | none=>none
   | _=>none
  | _,_,_=>none
 | _=>none
section
variable {P : Program} {w0 : World} {G0 : Ghost} {st : TS E} {a : Act} {w : World} {G : Ghost} {o : Oper}
theorem VT_zero (hE:E.Ok) {ty:Option Ty} {z:Value} (h:z.cells.toList.all (·.oneCell')=true):VT E w G (zeroTV E ty z) z:=by
 cases z with
 | agg cs=>exact packT_sound hE VTs.ofValues (fun u hu=>List.all_eq_true.1 h u hu)
 | _=>simp only [zeroTV];exact VT_ofV w G _
theorem gives_assert (hE:E.Ok) (hr:Rel E w0 G0 st a w G) {ty:TypeId→Option Ty} {x:Operand} {xt t:TypeId} {ok:Bool} {i:TI} {d:TV E} (ho:o.op=.typeAssert x xt t ok) (ht:tinfo P t=some i) (h:assertT E ty t i ok (st.ev x)=some d)
  (hz:i.zero.cells.toList.all (·.oneCell')=true):Gives P a w G o d:=by
 have hv:=hr.ev x
 obtain⟨xi,hxi,hut,-⟩:=tinfo_some ht
 have hzv:=VT_zero (w:=w) (G:=G) hE (ty:=ty t) hz
 have tup:∀(u:Value) (d:TV E) (b:Bool),VT E w G d u→VT E w G (.tuple [d,.dat .bool b]) (.tuple #[u,.bool b]):=fun u d b hd=>by
  simp only [VT]
  exact⟨_,rfl,.cons hd (.cons (.bool _ _ _) .nil)⟩
 suffices hs:∃v,VT E w G d v∧∀w',(Instr.typeAssert (a.eval x) xt t ok).run P w'=.ok v w' by
  obtain⟨v,h1,h2⟩:=hs
  exact gives_v (f:=fun ρ=>Instr.typeAssert (ρ x) xt t ok) (by simp [execOp,ho]) ⟨v,h1,fun w' _=>h2 w'⟩
 unfold assertT at h
 split at h<;>try (cases h;done)
 ·rename_i ty' v' hd hni
  rw [hd] at hv
  simp only [VT] at hv
  obtain⟨u,hu,hv⟩:=hv
  have hnot:∀ms,i.kind≠.interface ms:=fun ms e=>hni ms e
  cases hb:Nat.beq ty' t<;>rw [hb] at h<;>simp only [cond_true,cond_false] at h
  ·have hne:ty'≠t:=fun e=>by rw [e,Nat.beq_refl] at hb;cases hb
   cases ok<;>simp only [cond_true,cond_false] at h
   ·cases h
   cases h
   refine⟨_,tup _ _ _ hzv,fun w'=>?_⟩
   rw [hu]
   unfold Instr.typeAssert
   simp only [Sem.run_bind,run_underlying' hut,Result.andThen_ok]
   cases hk:i.kind<;>simp_all [run_zeroValue' ht]
  ·have he:=Nat.eq_of_beq_eq_true hb
   subst he
   cases h
   cases ok
   ·refine⟨u,hv,fun w'=>?_⟩
    rw [hu]
    unfold Instr.typeAssert
    simp only [Sem.run_bind,run_underlying' hut,Result.andThen_ok]
    cases hk:i.kind<;>simp_all
   ·refine⟨_,tup _ _ _ hv,fun w'=>?_⟩
    rw [hu]
    unfold Instr.typeAssert
    simp only [Sem.run_bind,run_underlying' hut,Result.andThen_ok]
    cases hk:i.kind<;>simp_all
 ·rename_i hd hni
  rw [hd] at hv
  simp only [VT] at hv
  cases ok<;>simp only [cond_true,cond_false] at h
  ·cases h
  cases h
  refine⟨_,tup _ _ _ hzv,fun w'=>?_⟩
  rw [hv]
  unfold Instr.typeAssert
  simp only [Sem.run_bind,run_underlying' hut,Result.andThen_ok]
  cases hk:i.kind<;>simp_all [run_zeroValue' ht]
theorem evalX_sound (hE:E.Ok) (hr:Rel E w0 G0 st a w G) {ty:TypeId→Option Ty} {d:TV E} {c:Bool} (h:evalX P ty st o.op=some (c,d)) (hc:c=true):Gives P a w G o d:=by
 cases ho:o.op<;>rw [ho] at h<;>simp only [evalX] at h<;>try (cases h;done)
 case binOp op t x y yt =>
  split at h<;>try (cases h;done)
  ·rename_i b hb
   cases h
   exact gives_v (f:=fun ρ=>do eqGuard .eql t x y (ρ x) (ρ y);binOp .eql t (ρ x) (ρ y)) (by simp [execOp,ho]) ⟨_,.bool _ _ _,fun w' _=>eqX_sound (hr.ev x) (hr.ev y) hb .eql (.inl rfl) w'⟩
  ·rename_i b hb
   cases h
   exact gives_v (f:=fun ρ=>do eqGuard .neq t x y (ρ x) (ρ y);binOp .neq t (ρ x) (ρ y)) (by simp [execOp,ho]) ⟨_,.bool _ _ _,fun w' _=>eqX_sound (hr.ev x) (hr.ev y) hb .neq (.inr rfl) w'⟩
 case typeAssert x xt t ok =>
  split at h<;>try (cases h;done)
  rename_i i hi
  split at h<;>try (cases h;done)
  rename_i d' hd
  cases h
  exact gives_assert hE hr ho hi hd hc
 case call c' =>
  split at h<;>try (cases h;done)
  ·rename_i _ x y hcl ha
   split at h<;>try (cases h;done)
   rename_i k p k' q hx hy
   cases h
   have hvx:=hr.ev x
   rw [hx] at hvx
   have hvy:=hr.ev y
   rw [hy] at hvy
   have ha':c'.args=#[x,y]:=by rw [←Array.toArray_toList (xs:=c'.args),ha]
   refine⟨_,.int _ _ _ _,fun w' hs=>?_⟩
   unfold execOp
   simp only [ho,resolve,hcl,Sem.run_bind,Sem.run_pure,Result.andThen_ok,invoke,builtin,ha',List.map_toArray,List.map_cons,List.map_nil]
   rw [hvx.int_inv,hvy.int_inv]
   simp only [Builtin.max_,List.foldlM_cons,List.foldlM_nil,Builtin.max2,Sem.run_bind,Sem.run_pure,Result.andThen_ok]
   by_cases hpq:p<q<;>simp [hpq]
  ·rename_i _ x y hcl ha
   split at h<;>try (cases h;done)
   rename_i k p k' q hx hy
   cases h
   have hvx:=hr.ev x
   rw [hx] at hvx
   have hvy:=hr.ev y
   rw [hy] at hvy
   have ha':c'.args=#[x,y]:=by rw [←Array.toArray_toList (xs:=c'.args),ha]
   refine⟨_,.int _ _ _ _,fun w' hs=>?_⟩
   unfold execOp
   simp only [ho,resolve,hcl,Sem.run_bind,Sem.run_pure,Result.andThen_ok,invoke,builtin,ha',List.map_toArray,List.map_cons,List.map_nil]
   rw [hvx.int_inv,hvy.int_inv]
   simp only [Builtin.min_,List.foldlM_cons,List.foldlM_nil,Builtin.min2,Sem.run_bind,Sem.run_pure,Result.andThen_ok]
   by_cases hpq:q<p<;>simp [hpq]
  ·rename_i _ x hcl ha
   split at h<;>try (cases h;done)
   rename_i j ver xs hx
   split at h<;>try (cases h;done)
   rename_i g hg
   cases h
   rw [Bool.and_eq_true,Bool.not_eq_true'] at hc
   obtain⟨hc,hzc⟩:=hc
   have hver:=Nat.eq_of_beq_eq_true hc
   have ha':c'.args=#[x]:=by rw [←Array.toArray_toList (xs:=c'.args),ha]
   have hv:=hr.ev x
   rw [hx] at hv
   simp only [VT] at hv
   obtain⟨hvd,gx,gh,hgj,hle,heq⟩:=hv
   have hgg:gx=g:=by
    have h2:(G.g.map (·.1))[j]? = some gx:=by simp [hgj]
    rw [hr.boxes.gs,hg] at h2
    exact (Option.some.inj h2).symm
   subst hgg
   have hve:=heq hver.symm
   obtain⟨n,ys,ho',hz0,hgb⟩:=hr.boxes.grow j gx gh hgj
   rcases hvd.slice_inv with⟨ad,he,hn⟩ | ⟨b,off,cap,c,he,hcap,hk,-⟩
   ·have hxs:xs=[]:=by simpa using hn
    have:ad=none:=by
     cases ad with
     | none=>rfl
     | some ad=>have:=hz0 ad 0 (hve▸he);rw [hzc] at this;cases this
    subst this
    refine⟨.pointer none,?_,fun w' hs=>?_⟩
    ·simp only [VT]
     exact⟨gx,gh,a.eval x,hgj,hle,hvd,fun _=>⟨hve,.inl ⟨by rw [←hve,he],hxs,trivial⟩⟩⟩
    ·unfold execOp
     simp only [ho,resolve,hcl,Sem.run_bind,Sem.run_pure,Result.andThen_ok,invoke,builtin,ha',List.map_toArray,List.map_cons,List.map_nil]
     rw [he,Lib.run_unsafeSliceData_nil]
     rfl
   ·have hl:(xs.map (Ty.cells E (.int .u8))).length=xs.length:=by simp
    rw [hl] at he
    have hc0:cap≠0:=fun e=>by subst e;have:=hz0 _ _ (hve▸he);rw [hzc] at this;cases this
    have hoff:off=0:=by
     rcases ho'.2 with⟨hnil,-⟩ | ⟨g',cap',cur,h2,-⟩
     ·rw [←hve,he] at hnil;cases hnil
     ·rw [←hve,he] at h2
      simp only [Value.slice.injEq,Option.some.injEq,Addr.mk.injEq] at h2
      exact h2.1.2.1
    subst hoff
    refine⟨.pointer (some ⟨b,0,none⟩),?_,fun w' hs=>?_⟩
    ·simp only [VT]
     exact⟨gx,gh,a.eval x,hgj,hle,hvd,fun _=>⟨hve,.inr ⟨b,cap,by rw [←hve,he],rfl⟩⟩⟩
    ·unfold execOp
     simp only [ho,resolve,hcl,Sem.run_bind,Sem.run_pure,Result.andThen_ok,invoke,builtin,ha',List.map_toArray,List.map_cons,List.map_nil]
     rw [he,Lib.run_unsafeSliceData_row _ _ _ _ _ _ hc0]
     rfl
def evalA0 (P:Program) (ty:TypeId→Option Ty) (st:TS E) (o:Op):Option (Bool × TV E):=match evalT P ty st o with
 | some x=>some x
 | none=>evalX P ty st o
theorem evalA0_sound (hE:E.Ok) (hr:Rel E w0 G0 st a w G) {ty:TypeId→Option Ty} {d:TV E} {c:Bool} (h:evalA0 P ty st o.op=some (c,d)) (hc:c=true):Gives P a w G o d:=by
 unfold evalA0 at h
 split at h
 ·rename_i x hx
  cases h
  exact evalT_sound hE hr hx hc
 ·exact evalX_sound hE hr h hc
end
end Go.RT
namespace Go.RT
set_option linter.unusedVariables false
variable {E : TEnv}
section
variable {P : Program} {w0 w w' : World} {G0 G G' : Ghost} {st : TS E} {a : Act} {o : Oper}
theorem Rel.nilRow (h:Rel E w0 G0 st a w G) (e:TypeId) (k:Nat):Rel E w0 G0 { st with g:=st.g++[⟨0,e,k⟩] } a w { G with g:=G.g++[(⟨0,e,k⟩,.slice none 0 0)] }:=by
 refine h.addGrow ⟨0,e,k⟩ (.slice none 0 0) ⟨0,[],⟨by simp,.inl ⟨rfl,rfl⟩⟩,(fun a m e=>nomatch e),(fun b hb=>nomatch hb)⟩ (fun b hb=>nomatch hb) (fun j y z b hj hb e=>nomatch e)
theorem Rel.rows_len (h:Rel E w0 G0 st a w G):G.g.length=st.g.length:=by rw [←h.boxes.gs];simp
theorem VT_nilRow (hl:G.g.length=st.g.length) (e:TypeId) (T:Ty):VT E w { G with g:=G.g++[(⟨0,e,T.size E⟩,.slice none 0 0)] } (.gsl st.g.length 0 T []) (.slice none 0 0):=by
 simp only [VT]
 refine⟨.nils _ _,⟨0,e,T.size E⟩,.slice none 0 0,?_,Nat.le_refl _,fun _=>rfl⟩
 rw [List.getElem?_append_right (by omega)]
 simp [hl]
theorem Rel.adopt (h:Rel E w0 G0 st a w G) {i:Nat} (hi:st.t[i]? = some (.val (.slice none 0 0))) (e:TypeId) (T:Ty) :
  ∃G',Rel E w0 G0 { st with t:=st.t.set i (.gsl st.g.length 0 T []),g:=st.g++[⟨0,e,T.size E⟩] } a w G':=by
 have hN:=h.nilRow e (T.size E)
 refine⟨_,hN.evol,by simpa using hN.size,fun j d hj=>?_,hN.defers,hN.boxes,hN.fix,hN.pins,hN.softs⟩
 simp only [List.getElem?_set] at hj
 by_cases hij:i=j
 ·subst hij
  have hlt:i<st.t.length:=(List.getElem?_eq_some_iff.1 hi).1
  simp [hlt] at hj
  subst hj
  have hv:=h.tmps i _ hi
  simp only [VT] at hv
  rw [hv]
  exact VT_nilRow h.rows_len e T
 ·rw [if_neg hij] at hj
  exact hN.tmps j d hj
theorem Rel.adoptCell (h:Rel E w0 G0 st a w G) {r c:Nat} {t:TypeId} {cs:List (TV E)} (hr:st.H[r]? = some (.cells t cs)) (hc:cs[c]? = some (.val (.slice none 0 0))) (e:TypeId) (T:Ty) :
  ∃G',Rel E w0 G0 { st with H:=st.H.set r (.cells t (cs.set c (.gsl st.g.length 0 T []))),g:=st.g++[⟨0,e,T.size E⟩],d:=r::st.d } a w G':=by
 have hN:=h.nilRow e (T.size E)
 have hlr:r<G.i.length:=by rw [h.boxes.len];exact (List.getElem?_eq_some_iff.1 hr).1
 have hat:G.i[r]? = some G.i[r]:=List.getElem?_eq_getElem hlr
 have hS:=hN.setBox (w':=w) (r:=r) (b:=G.i[r]) hat rfl rfl rfl rfl (fun _ _=>rfl) (x:=.cells t (cs.set c (.gsl st.g.length 0 T []))) (fun _=>?_)
 ·exact⟨_,hS⟩
 ·obtain⟨vs,h1,h2,h3⟩:=hN.boxes.box r _ _ hat hr
  refine⟨vs,h1,h2,?_⟩
  obtain⟨u,hu,hv⟩:=h3.get c hc
  simp only [VT] at hv
  subst hv
  have key:∀(cs:List (TV E)) (vs:List Value) (c:Nat) (d:TV E),VTs E w { G with g:=G.g++[(⟨0,e,T.size E⟩,.slice none 0 0)] } cs vs→vs[c]? = some (.slice none 0 0) →
    VT E w { G with g:=G.g++[(⟨0,e,T.size E⟩,.slice none 0 0)] } d (.slice none 0 0)→VTs E w { G with g:=G.g++[(⟨0,e,T.size E⟩,.slice none 0 0)] } (cs.set c d) vs:=by
   intro cs
   induction cs with
   | nil=>intro vs c d h1 h2 h3;exact h1
   | cons x cs ih =>
    intro vs c d h1 h2 h3
    obtain⟨u,us,rfl,q1,q2⟩:=h1.cons_inv
    cases c with
    | zero=>simp at h2;subst h2;exact .cons h3 q2
    | succ c=>exact .cons q1 (ih us c d q2 (by simpa using h2) h3)
  exact key cs vs.toList c _ h3 hu (VT_nilRow h.rows_len e T)
theorem does_appendNil (hE:E.Ok) (hr:Rel E w0 G0 st a w G) {c:Call} {x y:Operand} {t tx e:TypeId} {j1 j2:Nat} {z:Value} {ie:TI} (ho:o.op=.call c) (hcl:c.callee=.builtin .append)
  (ha:c.args.toList=[x,y]) (hat:c.argTypes.toList=[t,tx]) (ht:tinfo P t=some ⟨.slice e,j1,j2,z⟩) (hi:tinfo P e=some ie) {T:Ty} {ys:List (T.den E.D)}
  (hx:st.ev x=.val (.slice none 0 0)) (hk:ie.size=T.size E) (hk0:0<ie.size) (hzs:ie.zero.cells.size=ie.size)
  (h63:ys.length≤9223372036854775807) (hbytes:ys.length * ie.bytes≤140737488355328)
  {news:List Value} (hsrc:Src P ie.size tx (a.eval y) ys.length news w) (hf:Flat w G.pr ie.size news (ys.map (T.cells E))) :
  Does P w0 G0 a w o { st with t:=setT st.t o.dst (.gsl st.g.length 1 T ys),g:=st.g++[⟨1,e,ie.size⟩] }:=by
 have ha':c.args=#[x,y]:=by rw [←Array.toArray_toList (xs:=c.args),ha]
 have hat':c.argTypes=#[t,tx]:=by rw [←Array.toArray_toList (xs:=c.argTypes),hat]
 have hv:=hr.ev x
 rw [hx] at hv
 simp only [VT] at hv
 have hN:=hr.nilRow e ie.size
 have hl2:(ys.map (T.cells E)).length=ys.length:=by simp
 have hrl:=hr.rows_len
 have hgj:(G.g++[((⟨0,e,ie.size⟩:TGrow),Value.slice none 0 0)])[G.g.length]? = some (⟨0,e,ie.size⟩,.slice none 0 0):=by simp
 obtain⟨v',w',pr',hrun,hR,hV⟩:=hN.append (P:=P) (t:=t) (tx:=tx) (ty:=o.type) (i:=ie) (e:=e) ht hi hk0 hzs (j:=G.g.length) (x:=⟨0,e,ie.size⟩) (v:=.slice none 0 0) hgj (fun c hc=>by
   obtain⟨x,h,h1,-⟩:=hr.softs _ c hc
   rw [List.getElem?_eq_none (Nat.le_refl _)] at h1;cases h1) rfl rfl (es:=[]) (fs:=ys.map (T.cells E)) (y:=a.eval y) (news:=news)
  (.nils _ _) (by rw [hl2];exact hsrc) hf (by simp only [List.length_nil,Nat.zero_add,hl2];exact h63) (by simp only [List.length_nil,Nat.zero_add,hl2];exact hbytes)
 have hset:(st.g++[(⟨0,e,ie.size⟩:TGrow)]).set G.g.length ⟨0+1,e,ie.size⟩=st.g++[⟨1,e,ie.size⟩]:=by
  rw [hrl,List.set_append_right _ _ (Nat.le_refl _)];simp
 have hset2:(G.g++[((⟨0,e,ie.size⟩:TGrow),Value.slice none 0 0)]).set G.g.length (⟨0+1,e,ie.size⟩,v')=G.g++[(⟨1,e,ie.size⟩,v')]:=by
  rw [List.set_append_right _ _ (Nat.le_refl _)];simp
 simp only [hset,hset2] at hR
 refine⟨.value v',v',w',_,?_,.inl rfl,hR.put (d:=.gsl st.g.length 1 T ys) ?_ o.dst⟩
 ·unfold execOp
  simp only [ho,resolve,hcl,Sem.run_bind,Sem.run_pure,Result.andThen_ok,invoke,builtin,ha',hat',List.map_toArray,List.map_cons,List.map_nil]
  rw [hv,hrun]
  rfl
 ·simp only [VT]
  refine⟨by rw [←hk];simpa using hV,⟨1,e,ie.size⟩,v',by rw [←hrl];simp,Nat.le_refl _,fun _=>rfl⟩
def byteOk (l:List Int):Bool:=l.all fun n=>decide (0≤n)&&decide (n<256)
def toBytes (l:List Int):List UInt8:=l.map fun n=>UInt8.ofNat n.toNat
theorem toBytes_at {l:List Int} (h:byteOk l=true) {j:Nat} {x:UInt8} (hx:(toBytes l)[j]? = some x):l[j]? = some (x.toNat:Int):=by
 unfold toBytes at hx
 rw [List.getElem?_map] at hx
 obtain⟨n,hn,rfl⟩:=Option.map_eq_some_iff.1 hx
 have:=List.all_eq_true.1 h n (List.mem_of_getElem? hn)
 simp only [Bool.and_eq_true,decide_eq_true_eq] at this
 rw [hn]
 congr 1
 simp
 omega
theorem VD.bytes_cell {pr:Nat→Nat→Prop} {v:Value} {xs:List Int} (h:VD w pr v (.slice 1 (xs.map (Ty.cells E (.int .u8))))) :
  (∃ad,v=.slice ad 0 0∧xs=[])∨∃b off cap,v=.slice (some ⟨b,off,none⟩) xs.length cap∧xs.length≤cap∧∀(j:Nat) n,xs[j]? = some n→pr b (off+j)∧w.cell? ⟨b,off+j,none⟩=some (.int .u8 n):=by
 rcases h.slice_inv with⟨ad,he,hn⟩ | ⟨b,off,cap,c,he,hcap,hk,h0,hc⟩
 ·exact .inl ⟨ad,he,by simpa using hn⟩
 ·refine .inr ⟨b,off,cap,by simpa using he,by simpa using hcap,fun j n hj=>?_⟩
  have hjl:j<xs.length:=(List.getElem?_eq_some_iff.1 hj).1
  have h1:=h0 j 0 (by simpa using hjl) (by omega)
  have h2:=hc j 0 (by simpa using hjl) (by omega)
  have e1:((xs.map (Ty.cells E (.int .u8))).getD j []).getD 0 default=.int .u8 n:=by
   have:xs[j]=n:=by rw [List.getElem?_eq_getElem hjl] at hj;exact Option.some.inj hj
   simp [List.getD,hjl,this,Ty.cells]
  rw [e1] at h2
  rw [h2.int_inv] at h1
  simpa using h1
theorem fold_push:∀(ns:List Int) (r:ByteArray),ns.foldl (fun r n=>r.push (UInt8.ofNat n.toNat)) r=⟨⟨r.data.toList++toBytes ns⟩⟩
 | [],r=>by simp [toBytes]
 | n::ns,r=>by
  rw [List.foldl_cons,fold_push ns]
  congr 2
  simp [toBytes]
theorem run_bytesStr {P:Program} (ad:Addr) (cap:Nat) (xs:List Int) (hc:∀(j:Nat) n,xs[j]? = some n→w.cell? (ad.add j)=some (.int .u8 n)):(Conv.bytesToString (.slice (some ad) xs.length cap)).run P w=.ok (mkStr (toBytes xs)) w:=by
 have hl:=run_loadCells (P:=P) w ad xs.length (fun j=>.int .u8 (xs.getD j 0)) (fun j hj=>hc j _ (by simp [List.getD,hj]))
 have hm:((List.range xs.length).map fun j=>Value.int .u8 (xs.getD j 0))=xs.map (Value.int .u8):=by
  apply List.ext_getElem (by simp)
  intro j h1 h2
  simp at h1
  simp [List.getD,h1]
 rw [run_bytesToString (P:=P) w ad xs.length cap xs (by rw [hl];simp only [Result.ok.injEq,and_true];rw [←hm]),fold_push]
 rfl
theorem does_bytesToString (hr:Rel E w0 G0 st a w G) {src dst e:TypeId} {x:Operand} {j1 j2 j3 j4 j5 j6:Nat} {z1 z2 z3:Value} (ho:o.op=.convert src dst x) (hs:tinfo P src=some ⟨.slice e,j1,j2,z1⟩) (hd:tinfo P dst=some ⟨.string,j3,j4,z2⟩)
  (he:tinfo P e=some ⟨.int .u8,j5,j6,z3⟩) {xs:List Int} (hx:AsList (st.ev x) (.int .u8) xs):Does P w0 G0 a w o { st with t:=setT st.t o.dst (.dat .str (toBytes xs)) }:=by
 obtain⟨_,_,hus,-⟩:=tinfo_some hs
 obtain⟨_,_,hud,-⟩:=tinfo_some hd
 obtain⟨_,_,hue,-⟩:=tinfo_some he
 have hv:=hx.vd (hr.ev x)
 have hrun:(convert src dst (a.eval x)).run P w=.ok (mkStr (toBytes xs)) w:=by
  rcases hv.bytes_cell with⟨ad,hv',rfl⟩ | ⟨b,off,cap,hv',hcap,hc⟩
  ·rw [hv']
   cases ad with
   | none =>
    unfold convert
    simp only [Sem.run_bind,run_underlying' hus,run_underlying' hud,Result.andThen_ok,run_underlying' hue]
    rfl
   | some ad =>
    have:=run_bytesStr (P:=P) (w:=w) ad 0 [] (fun j n hj=>by simp at hj)
    simp only [List.length_nil] at this
    unfold convert
    simp only [Sem.run_bind,run_underlying' hus,run_underlying' hud,Result.andThen_ok,run_underlying' hue,this]
  ·rw [hv']
   have:=run_bytesStr (P:=P) (w:=w) ⟨b,off,none⟩ cap xs (fun j n hj=>by rw [add_lit];exact (hc j n hj).2)
   unfold convert
   simp only [Sem.run_bind,run_underlying' hus,run_underlying' hud,Result.andThen_ok,run_underlying' hue,this]
 refine⟨_,mkStr (toBytes xs),w,G,?_,.inl rfl,hr.put (.str _ _ _) o.dst⟩
 simp only [execOp,ho,Sem.run_bind,hrun,Result.andThen_ok,Sem.run_pure]
theorem freeze_heap (w:World) (p:Addr) (n b:Nat) (hb:b≠p.block):(w.freeze p n).heap[b]? = w.heap[b]?:=by
 unfold World.freeze
 split
 ·rfl
 ·simp only [Array.getElem?_modify]
  rw [if_neg (fun e=>hb e.symm)]
theorem freeze_cell (w:World) (p:Addr) (n:Nat) (x:Addr):(w.freeze p n).cell? x=w.cell? x:=by
 by_cases h0:n=0
 ·simp [World.freeze,h0]
 by_cases hx:x.block=p.block
 ·simp only [World.cell?,World.freeze,h0,if_false,hx,Array.getElem?_modify,if_true]
  cases hh:w.heap[p.block]? with
  | none=>simp
  | some ob=>cases ob<;>simp
 ·exact World.cell?_of_block (freeze_heap w p n x.block hx)
theorem does_unsafeString (hr:Rel E w0 G0 st a w G) {c:Call} {x y:Operand} {pt it e:TypeId} {j1 j2 j3 j4:Nat} {z1 z2:Value} (ho:o.op=.call c) (hcl:c.callee=.builtin .unsafeString) (ha:c.args.toList=[x,y]) (hat:c.argTypes.toList=[pt,it])
  (hp:tinfo P pt=some ⟨.pointer e,j1,j2,z1⟩) (hce:P.cellsOf e=1) {j ver:Nat} {xs:List Int} (hx:st.ev x=.sdp j ver xs) {g:TGrow} (hg:st.g[j]? = some g) (hsoft:∀c,(j,c)∉st.c) (hver:g.ver=ver) (hge:g.e=e) (hgk:g.k=1)
  {n:Int} (hy:st.ev y=.dat (.int .i64) n) (hn:n=xs.length) (hok:byteOk xs=true) (h63:xs.length≤9223372036854775807) :
  Does P w0 G0 a w o { st with t:=setT st.t o.dst (.dat .str (toBytes xs)),g:=st.g.set j { g with ver:=g.ver+1 } }:=by
 have ha':c.args=#[x,y]:=by rw [←Array.toArray_toList (xs:=c.args),ha]
 have hat':c.argTypes=#[pt,it]:=by rw [←Array.toArray_toList (xs:=c.argTypes),hat]
 obtain⟨_,_,hup,-⟩:=tinfo_some hp
 have hv:=hr.ev x
 rw [hx] at hv
 have hvy:=hr.ev y
 rw [hy] at hvy
 have hvy:=hvy.int_inv
 subst hn
 simp only [VT] at hv
 obtain⟨gx,gh,u,hgj,hle,hvd,heq⟩:=hv
 have hgg:gx=g:=by
  have h2:(G.g.map (·.1))[j]? = some gx:=by simp [hgj]
  rw [hr.boxes.gs,hg] at h2
  exact (Option.some.inj h2).symm
 subst hgg
 obtain⟨hve,hcase⟩:=heq hver.symm
 have hlen:(toBytes xs).length=xs.length:=by simp [toBytes]
 have step:∀w1,w.heap.size≤w1.heap.size→w1.os=w.os→w1.tape=w.tape→w1.output=w.output→(∀b,b<w.heap.size→gh.ownBlock≠some b→w1.heap[b]? = w.heap[b]?)→(∀b o v,G.pr b o→w.cell? ⟨b,o,none⟩=some v→w1.cell? ⟨b,o,none⟩=some v) →
   ∃G1,Rel E w0 G0 { st with g:=st.g.set j { gx with ver:=gx.ver+1 } } a w1 G1:=fun w1 s1 s2 s3 s4 s5 s6 =>
  ⟨_,hr.setGrow hgj hsoft s1 s2 s3 s4 s5 s6 G.pr (fun _ _ h=>h) (fun _ _ h=>.inl h) (hd':=.slice none 0 0) ⟨0,[],⟨by simp,.inl ⟨rfl,rfl⟩⟩,(fun a m e=>nomatch e),(fun b hb=>nomatch hb)⟩ (fun b hb=>nomatch hb)⟩
 have nothing:(Builtin.unsafeString_ c.argTypes o.type #[a.eval x,a.eval y]).run P w=.ok (mkStr (toBytes xs)) w→Does P w0 G0 a w o { st with t:=setT st.t o.dst (.dat .str (toBytes xs)),g:=st.g.set j { gx with ver:=gx.ver+1 } }:=by
  intro hrun
  obtain⟨G1,hR⟩:=step w (Nat.le_refl _) rfl rfl rfl (fun _ _ _=>rfl) (fun _ _ _ _ h=>h)
  refine⟨_,mkStr (toBytes xs),w,G1,?_,.inl rfl,hR.put (.str _ _ _) o.dst⟩
  unfold execOp
  simp only [ho,resolve,hcl,Sem.run_bind,Sem.run_pure,Result.andThen_ok,invoke,builtin,ha',List.map_toArray,List.map_cons,List.map_nil,hrun]
 by_cases h0:xs=[]
 ·subst h0
  refine nothing ?_
  rw [hvy,hat']
  rcases hcase with⟨-,-,he⟩ | ⟨b,cap,-,he⟩<;>rw [he]<;>exact Lib.run_unsafeString_none w pt it o.type _
 ·rcases hcase with⟨-,hl,-⟩ | ⟨b,cap,hgh,he⟩
  ·exact (h0 hl).elim
  rw [hve,hgh] at hvd
  replace hvd:VD w G.pr _ (.slice 1 (xs.map (Ty.cells E (.int .u8)))):=hvd
  have hcell:∀(q:Nat) nn,xs[q]? = some nn→G.pr b q∧w.cell? ⟨b,q,none⟩=some (.int .u8 nn):=by
   rcases hvd.bytes_cell with⟨ad,h1,h2⟩ | ⟨b',off,cap',h1,-,h3⟩
   ·exact (h0 h2).elim
   ·simp only [Value.slice.injEq,Option.some.injEq,Addr.mk.injEq] at h1
    obtain⟨⟨rfl,rfl,-⟩,-,rfl⟩:=h1
    intro q nn hq
    simpa using h3 q nn hq
  obtain⟨n',ys,hown,-,hblk⟩:=hr.boxes.grow j gx gh hgj
  rcases hown.2 with⟨hnil,-⟩ | ⟨gb,cap',cur,h2,-,hheap,hn',hcm,hcs,-⟩
  ·rw [hgh] at hnil;cases hnil
  rw [hgh] at h2
  simp only [Value.slice.injEq,Option.some.injEq,Addr.mk.injEq] at h2
  obtain⟨⟨rfl,-,-⟩,rfl,rfl⟩:=h2
  have hsh:w.shape? b=some (e,cap):=by
   simp only [World.shape?,hheap,hge,hcs,hgk,Nat.mul_one]
  have hrun:=Lib.run_unsafeString_row (P:=P) w pt it o.type e hup hce b cap hsh (toBytes xs) (by simpa [toBytes] using h0) (by rw [hlen];exact hn') (by rw [hlen];exact h63)
   (fun q u hq=>by rw [add_lit,Nat.zero_add];exact (hcell q _ (toBytes_at hok hq)).2)
  rw [hlen] at hrun
  obtain⟨G1,hR⟩:=step (w.freeze ⟨b,0,none⟩ xs.length) (by unfold World.freeze;split<;>simp) (by unfold World.freeze;split<;>rfl) (by unfold World.freeze;split<;>rfl) (by unfold World.freeze;split<;>rfl)
   (fun b' _ hne=>freeze_heap w _ _ b' (fun e'=>hne (by rw [hgh];simp at e';rw [e'];rfl))) (fun b' o' v _ hv=>by rw [freeze_cell];exact hv)
  refine⟨_,mkStr (toBytes xs),_,G1,?_,.inl rfl,hR.put (.str _ _ _) o.dst⟩
  unfold execOp
  simp only [ho,resolve,hcl,Sem.run_bind,Sem.run_pure,Result.andThen_ok,invoke,builtin,ha',hat',List.map_toArray,List.map_cons,List.map_nil]
  rw [he,hvy,hrun]
  rfl
theorem does_ptrConv (hr:Rel E w0 G0 st a w G) {src dst:TypeId} {x:Operand} (ho:o.op=.convert src dst x) {r off:Nat} (hx:st.ev x=.ptr r off) {t':TypeId} {cs:List (TV E)} (hb:st.H[r]? = some (.cells t' cs))
  (hcase:(∃t i,P.underlying src=some (.pointer t)∧P.underlying dst=some .unsafePointer∧tinfo P t=some i∧i.size≠0∧off<cs.length) ∨
   ∃t i,P.underlying src=some .unsafePointer∧P.underlying dst=some (.pointer t)∧tinfo P t=some i∧liesAt P P.depth t' (cs.length / P.cellsOf t') off t 1=true) :
  Does P w0 G0 a w o { st with t:=setT st.t o.dst (.ptr r off) }:=by
 have hv:=hr.ev x
 rw [hx] at hv
 have hv0:=hv
 simp only [VT] at hv
 obtain⟨b,he,hat⟩:=hv
 obtain⟨vs,hh,-,hvs⟩:=hr.box hat hb
 have hsz:vs.size=cs.length:=by simpa using hvs.length
 have hsh:w.shape? b=some (t',cs.length):=by simp only [World.shape?,hh,hsz]
 have hrun:(convert src dst (a.eval x)).run P w=.ok (a.eval x) w:=by
  rw [he]
  rcases hcase with⟨t,i,h1,h2,h3,h4,h5⟩ | ⟨t,i,h1,h2,h3,h4⟩
  ·obtain⟨j,hj,-,hjs,-⟩:=tinfo_some h3
   exact Lib.run_to_unsafe w ⟨b,off,none⟩ h1 h2 hj (by rw [hjs];exact h4) hsh h5
  ·obtain⟨j,hj,-⟩:=tinfo_some h3
   exact Lib.run_from_unsafe w ⟨b,off,none⟩ h1 h2 hj hsh h4
 refine⟨_,a.eval x,w,G,?_,.inl rfl,hr.put hv0 o.dst⟩
 simp only [execOp,ho,Sem.run_bind,hrun,Result.andThen_ok,Sem.run_pure]
end
end Go.RT
namespace Go.RT
set_option linter.unusedVariables false
open Go.MapKept
variable {E : TEnv}
def mset {α β:Type} (eq:α→α→Bool) (m:List (α × β)) (k:α) (v:β):List (α × β) :=
 bif m.any (fun p=>eq p.1 k) then m.map (fun p=>bif eq p.1 k then (k,v) else p) else m++[(k,v)]
def mget {α β:Type} (eq:α→α→Bool) (m:List (α × β)) (k:α) (z:β):β:=match m.find? (fun p=>eq p.1 k) with | some p=>p.2 | none=>z
def mhas {α β:Type} (eq:α→α→Bool) (m:List (α × β)) (k:α):Bool:=m.any (fun p=>eq p.1 k)
def ksOf1:Ty→Option (List Ty)
 | .int k=>some [.int k]
 | .bool=>some [.bool]
 | .str=>some [.str]
 | .unit=>some []
 | .pair a b=>match ksOf1 a,ksOf1 b with
  | some x,some y=>some (x++y)
  | _,_=>none
 | _=>none
def dvV:DV→Value
 | .int k n=>.int k n
 | .bool b=>.bool b
 | .str l=>mkStr l
 | _=>undef
def Ty.keyV (E:TEnv):(t:Ty)→t.den E.D→Value
 | .str,l=>mkStr l
 | .int k,n=>.int k n
 | .bool,b=>.bool b
 | .ext i,x=>.agg (((E.df i).cells E (E.unf i x)).map dvV).toArray
 | _,_=>undef
def keq1 (E:TEnv):(t:Ty)→t.den E.D→t.den E.D→Bool
 | .str,a,b=>a==b
 | .int _,a,b=>a==b
 | .bool,a,b=>a==b
 | .pair s t,a,b=>keq1 E s a.1 b.1&&keq1 E t a.2 b.2
 | .unit,_,_=>true
 | _,_,_=>false
def Ty.keq (E:TEnv):(t:Ty)→t.den E.D→t.den E.D→Bool
 | .str,a,b=>a==b
 | .int _,a,b=>a==b
 | .bool,a,b=>a==b
 | .ext i,a,b=>keq1 E (E.df i) (E.unf i a) (E.unf i b)
 | _,_,_=>false
def keyD:Ty→TypeDesc→Bool
 | .str,.string=>true
 | .int k,.int k'=>decide (k=k')
 | .bool,.bool=>true
 | _,_=>false
def primK (P:Program) (ty:TypeId):Ty→Bool
 | .int k=>match P.underlying ty with
  | some (.int k')=>decide (k=k')
  | _=>false
 | .bool=>match P.underlying ty with
  | some .bool=>true
  | _=>false
 | .str=>match P.underlying ty with
  | some .string=>true
  | _=>false
 | _=>false
def flatTys (P:Program):Nat→List Field→List Ty→Bool
 | _,[],[]=>true
 | n,f::fs,t::ts=>Nat.beq f.offset n && !(f.name == "_")&&primK P f.type t&&flatTys P (n+1) fs ts
 | _,_,_=>false
def keyS (E:TEnv) (P:Program) (k:TypeId):Ty→TypeDesc→Bool
 | .ext i,.struct fs=>(match ksOf1 (E.df i) with
  | some ts=>flatTys P 0 fs.toList ts
  | none=>false) && !(P.stoodInHeld k)
 | _,_=>false
def keyB (E:TEnv) (P:Program) (k:TypeId) (t:Ty) (d:TypeDesc):Bool:=keyD t d||keyS E P k t d
structure KeyOk (E:TEnv) (P:Program) (k:TypeId) (t:Ty):Prop where
 vt:∀ {w:World} {G:Ghost} {x:t.den E.D} {v:Value},VT E w G (.dat t x) v→v=t.keyV E x
 of:∀(w:World) (G:Ghost) (x:t.den E.D),VT E w G (.dat t x) (t.keyV E x)
 keq:∀ {x y:t.den E.D},t.keq E x y=true↔t.keyV E x=t.keyV E y
 check:∀(em:Bool) (x:t.den E.D) (w:World),(Instr.checkKey em 10000 k (t.keyV E x)).run P w=.ok () w
 find:∀(x:t.den E.D) (es:List MapEntry) (w:World),(∀e∈es,∃y:t.den E.D,e.key=t.keyV E y) →
  ((Instr.findKey k (t.keyV E x) es).run P w=.ok none w∧∀e∈es,e.key≠t.keyV E x) ∨
  ∃(j:Nat) (e:MapEntry),(Instr.findKey k (t.keyV E x) es).run P w=.ok (some (j,e.val)) w∧es[j]? = some e∧e.key=t.keyV E x
 stays:∀(x:t.den E.D) (w:World),(Instr.keyThatStays (t.keyV E x) (t.keyV E x)).run P w=.ok (t.keyV E x) w
section
variable {t : Ty} {d : TypeDesc}
theorem VT_key (h:keyD t d=true) {w:World} {G:Ghost} {k:t.den E.D} {v:Value} (hv:VT E w G (.dat t k) v):v=t.keyV E k:=by
 unfold keyD at h
 split at h<;>try (cases h;done)
 ·exact hv.str_inv
 ·exact hv.int_inv
 ·exact hv.bool_inv
theorem VT_ofKey (h:keyD t d=true) (w:World) (G:Ghost) (k:t.den E.D):VT E w G (.dat t k) (t.keyV E k):=by
 unfold keyD at h
 split at h<;>try (cases h;done)
 ·exact .str w G _
 ·exact .int w G _ _
 ·exact .bool w G _
theorem isKey_keyV (h:keyD t d=true) (k:t.den E.D):IsKey d (t.keyV E k):=by
 unfold keyD at h
 split at h<;>try (cases h;done)
 ·trivial
 ·simp at h;subst h;rfl
 ·trivial
theorem keyV_inj (h:keyD t d=true) {a b:t.den E.D} (e:t.keyV E a=t.keyV E b):a=b:=by
 unfold keyD at h
 split at h<;>try (cases h;done)
 ·simpa [Ty.keyV,mkStr] using e
 ·simpa [Ty.keyV] using e
 ·simpa [Ty.keyV] using e
theorem keq_iff (h:keyD t d=true) {a b:t.den E.D}:t.keq E a b=true↔a=b:=by
 unfold keyD at h
 split at h<;>try (cases h;done)
 ·exact beq_iff_eq
 ·exact beq_iff_eq
 ·exact beq_iff_eq
theorem keyOk_plain {P:Program} {k:TypeId} (hd:P.underlying k=some d) (h:keyD t d=true):KeyOk E P k t:={
 vt:=VT_key h
 of:=VT_ofKey h
 keq:=⟨fun e=>by rw [(keq_iff h).1 e],fun e=>(keq_iff h).2 (keyV_inj h e)⟩
 check:=fun em x w=>MapKept.run_checkKey hd (isKey_keyV h x) em 9999
 find:=fun x es w hk=>by
  rcases findNow_spec (isKey_keyV h x) es 0 (fun e he=>by obtain⟨y,hy⟩:=hk e he;rw [hy];exact isKey_keyV h _) with⟨h1,h2⟩ | ⟨j,e,h1,h2,h3⟩
  ·exact .inl ⟨MapKept.run_findKey hd h1,h2⟩
  ·exact .inr ⟨j,e,MapKept.run_findKey hd (by simpa using h1),h2,h3⟩
 stays:=fun x w=>MapKept.run_keyThatStays (isKey_keyV h x) }
def isP:Ty→DV→Prop
 | .int k,d=>∃n,d=.int k n
 | .bool,d=>∃b,d=.bool b
 | .str,d=>∃l,d=.str l
 | _,_=>False
def AllP:List Ty→List DV→Prop
 | [],[]=>True
 | t::ts,d::ds=>isP t d∧AllP ts ds
 | _,_=>False
theorem AllP.append:∀ {ts us:List Ty} {ds es:List DV},AllP ts ds→AllP us es→AllP (ts++us) (ds++es)
 | [],_,[],_,_,h=>h
 | _::_,_,_::_,_,h,h'=>⟨h.1,h.2.append h'⟩
 | [],_,_::_,_,h,_=>h.elim
 | _::_,_,[],_,h,_=>h.elim
theorem ksOf1_cells:∀(t:Ty) {ts:List Ty} (x:t.den E.D),ksOf1 t=some ts→AllP ts (t.cells E x)
 | .int k,ts,x,h=>by cases h;exact⟨⟨x,rfl⟩,trivial⟩
 | .bool,ts,x,h=>by cases h;exact⟨⟨x,rfl⟩,trivial⟩
 | .str,ts,x,h=>by cases h;exact⟨⟨x,rfl⟩,trivial⟩
 | .unit,ts,x,h=>by cases h;trivial
 | .pair a b,ts,x,h=>by
  simp only [ksOf1] at h
  split at h<;>try (cases h;done)
  rename_i p q h1 h2
  cases h
  exact (ksOf1_cells a x.1 h1).append (ksOf1_cells b x.2 h2)
 | .lst _,ts,x,h=>by cases h
 | .ext _,ts,x,h=>by cases h
theorem keq1_cells:∀(t:Ty) {ts:List Ty} (x y:t.den E.D),ksOf1 t=some ts→eqDVs (t.cells E x) (t.cells E y)=some (keq1 E t x y)
 | .int k,ts,x,y,h=>by simp [Ty.cells,eqDVs,eqDV,keq1]
 | .bool,ts,x,y,h=>by simp [Ty.cells,eqDVs,eqDV,keq1]
 | .str,ts,x,y,h=>by simp [Ty.cells,eqDVs,eqDV,keq1]
 | .unit,ts,x,y,h=>by simp [Ty.cells,eqDVs,keq1]
 | .pair a b,ts,x,y,h=>by
  simp only [ksOf1] at h
  split at h<;>try (cases h;done)
  rename_i p q h1 h2
  have i1:=keq1_cells a x.1 y.1 h1
  have i2:=keq1_cells b x.2 y.2 h2
  have app:∀(as bs cs ds:List DV) (p q:Bool),eqDVs as bs=some p→eqDVs cs ds=some q→eqDVs (as++cs) (bs++ds)=some (p&&q):=by
   intro as
   induction as with
   | nil=>intro bs cs ds p q h1 h2;cases bs with
    | nil=>cases h1;simpa using h2
    | cons _ _=>cases h1
   | cons a as ih=>intro bs cs ds p q h1 h2;cases bs with
    | nil=>cases h1
    | cons b bs =>
     simp only [eqDVs,List.cons_append] at h1 ⊢
     split at h1<;>try (cases h1;done)
     rename_i u v hu hv
     cases h1
     rw [hu,ih bs cs ds v q hv h2,Bool.and_assoc]
  exact app _ _ _ _ _ _ i1 i2
 | .lst _,ts,x,y,h=>by cases h
 | .ext _,ts,x,y,h=>by cases h
theorem LD_flat {w:World} {pr:Nat→Nat→Prop}:∀ {ts:List Ty} {ds:List DV} {vs:List Value},AllP ts ds→LD w pr vs ds→vs=ds.map dvV
 | [],[],[],_,_=>rfl
 | t::ts,d::ds,v::vs,h,hl=>by
  rw [List.map_cons,←LD_flat h.2 hl.2]
  have h1:=h.1
  congr 1
  cases t<;>first | exact h1.elim | (obtain⟨n,rfl⟩:=h1;cases hl.1;rfl)
 | [],[],_::_,_,hl=>hl.elim
 | [],_::_,_,h,_=>h.elim
 | _::_,[],_,h,_=>h.elim
 | _::_,_::_,[],_,hl=>hl.elim
theorem LD_ofFlat (w:World) (pr:Nat→Nat→Prop):∀ {ts:List Ty} {ds:List DV},AllP ts ds→LD w pr (ds.map dvV) ds
 | [],[],_=>trivial
 | t::ts,d::ds,h=>by
  refine⟨?_,LD_ofFlat w pr h.2⟩
  have h1:=h.1
  cases t<;>first | exact h1.elim | (obtain⟨n,rfl⟩:=h1;constructor)
 | [],_::_,h=>h.elim
 | _::_,[],h=>h.elim
theorem flatFs_of {P:Program}:∀ {n:Nat} {fs:List Field} {ts:List Ty} {ds cs:List DV},flatTys P n fs ts=true→AllP ts ds→AllP ts cs→flatFs P n fs ds cs=true
 | n,[],[],[],[],_,_,_=>rfl
 | n,f::fs,t::ts,d::ds,c::cs,h,h1,h2=>by
  simp only [flatTys,Bool.and_eq_true] at h
  obtain⟨⟨⟨a1,a2⟩,a3⟩,a4⟩:=h
  simp only [flatFs,a1,a2,flatFs_of a4 h1.2 h2.2,Bool.true_and,Bool.and_true,Bool.and_eq_true]
  have key:∀ {d:DV},isP t d→flatK P f.type d=true:=by
   intro d hd
   cases t<;>first | exact hd.elim | (obtain⟨n,rfl⟩:=hd;exact a3)
  exact⟨key h1.1,key h2.1⟩
 | _,[],[],_::_,_,_,h,_=>h.elim
 | _,[],[],[],_::_,_,_,h=>h.elim
 | _,[],_::_,_,_,h,_,_=>by simp [flatTys] at h
 | _,_::_,[],_,_,h,_,_=>by simp [flatTys] at h
 | _,_::_,_::_,[],_,_,h,_=>h.elim
 | _,_::_,_::_,_::_,[],_,_,h=>h.elim
theorem eqDVs_iff:∀ {ts:List Ty} {ds cs:List DV} {b:Bool},AllP ts ds→AllP ts cs→eqDVs ds cs=some b→(b=true↔ds.map dvV=cs.map dvV)
 | [],[],[],b,_,_,h=>by cases h;simp
 | t::ts,d::ds,c::cs,b,h1,h2,h=>by
  simp only [eqDVs] at h
  split at h<;>try (cases h;done)
  rename_i p q hp hq
  cases h
  rw [Bool.and_eq_true,List.map_cons,List.map_cons,List.cons.injEq,eqDVs_iff h1.2 h2.2 hq]
  refine and_congr ?_ Iff.rfl
  have h1:=h1.1
  have h2:=h2.1
  cases t<;>first | exact h1.elim | (obtain⟨n,rfl⟩:=h1;obtain⟨m,rfl⟩:=h2;cases hp;simp [dvV,mkStr])
 | [],_::_,_,_,h,_,_=>h.elim
 | [],[],_::_,_,_,h,_=>h.elim
 | _::_,[],_,_,h,_,_=>h.elim
 | _::_,_::_,[],_,_,h,_=>h.elim
theorem primK_run {P:Program} {w:World} {ty:TypeId} {t:Ty} {d:DV} (h:primK P ty t=true) (hd:isP t d):(∀w,(isAgg ty).run P w=.ok false w)∧∀em n w,(Instr.checkKey em (n+1) ty (dvV d)).run P w=.ok () w:=by
 unfold primK at h
 split at h<;>try (cases h;done)
 all_goals
  split at h<;>try (cases h;done)
  rename_i hu
  obtain⟨x,rfl⟩:=hd
  exact⟨fun w=>by simp [isAgg,run_underlying' hu],fun em n w=>by simp [Instr.checkKey,run_underlying' hu,dvV,mkStr]⟩
theorem keyOk_struct (hE:E.Ok) {P:Program} {k:TypeId} (hd:P.underlying k=some d) (h:keyS E P k t d=true):KeyOk E P k t:=by
 unfold keyS at h
 split at h<;>try (cases h;done)
 rename_i i fs
 rw [Bool.and_eq_true,Bool.not_eq_true'] at h
 obtain⟨h,hst⟩:=h
 split at h<;>try (cases h;done)
 rename_i ts hts
 have hall:∀x:E.D i,AllP ts ((E.df i).cells E (E.unf i x)):=fun x=>ksOf1_cells _ _ hts
 have hfs:P.fieldsOf k=fs:=by unfold Program.fieldsOf;rw [hd]
 have hkeq:∀x y:E.D i,(Ty.ext i).keq E x y=true↔(Ty.ext i).keyV E x=(Ty.ext i).keyV E y:=fun x y=>by
  have:=eqDVs_iff (hall x) (hall y) (keq1_cells (E.df i) (E.unf i x) (E.unf i y) hts)
  simp only [Ty.keq,Ty.keyV,this]
  constructor
  ·intro e;rw [e]
  ·intro e;simpa using e
 have hequal:∀(x y:E.D i) (w:World),(Op.equal k ((Ty.ext i).keyV E x) ((Ty.ext i).keyV E y)).run P w=.ok ((Ty.ext i).keq E x y) w:=fun x y w=>by
  simp only [Op.equal,Op.maxDepth,Ty.keyV,Ty.keq]
  rw [run_equalIn_struct w 9999 k _ _ (by rw [hfs];exact hd) hst,hfs]
  exact eqFlat (w:=w) (pr:=fun _ _=>True) fs.toList 0 _ _ _ _ _ (fun j=>by simp) (fun j=>by simp) (LD_ofFlat w _ (hall x)) (LD_ofFlat w _ (hall y)) (flatFs_of h (hall x) (hall y)) (keq1_cells (E.df i) _ _ hts) w 9998
 refine⟨fun {w G x v} hv=>?_,fun w G x=>?_,fun {x y}=>hkeq x y,fun em x w=>?_,fun x es w hk=>?_,fun x w=>?_⟩
 ·simp only [VT,Ty.isAgg] at hv
  obtain⟨vs,rfl,hl⟩:=hv
  rw [show Ty.cells E (.ext i) x=E.enc i x from rfl,hE.enc] at hl
  have:=LD_flat (hall x) hl
  simp only [Ty.keyV]
  rw [←this]
 ·simp only [VT,Ty.isAgg]
  refine⟨_,rfl,?_⟩
  rw [show Ty.cells E (.ext i) x=E.enc i x from rfl,hE.enc]
  simpa using LD_ofFlat w G.pr (hall x)
 ·simp only [Ty.keyV]
  rw [show (10000:Nat)=9998+1+1 from rfl]
  generalize (9998:Nat)=m
  rw [Instr.checkKey]
  simp only [Sem.run_bind,run_underlying' hd,Result.andThen_ok]
  rw [←Array.forIn_toList]
  have hx:∀j:Nat,(((E.df i).cells E (E.unf i x)).map dvV).toArray[0+j]? = (((E.df i).cells E (E.unf i x)).map dvV)[j]?:=fun j=>by simp
  have hp:=hall x
  clear hall hkeq hequal hfs hd hts
  generalize (((E.df i).cells E (E.unf i x)).map dvV).toArray=xs at hx ⊢
  generalize (E.df i).cells E (E.unf i x)=ds at hx hp
  generalize fs.toList=l at h ⊢
  generalize (0:Nat)=n at hx h
  induction l generalizing n ts ds with
  | nil=>simp
  | cons f l ih =>
   cases ts with
   | nil=>simp [flatTys] at h
   | cons t ts =>
    cases ds with
    | nil=>exact hp.elim
    | cons d ds =>
     simp only [flatTys,Bool.and_eq_true,Bool.not_eq_true'] at h
     obtain⟨⟨⟨f1,f2⟩,f3⟩,f4⟩:=h
     have f1:=Nat.eq_of_beq_eq_true f1
     have f2:f.name ≠ "_" := by simpa using f2
     obtain⟨g1,g2⟩:=primK_run (w:=w) f3 hp.1
     have hx0:xs[f.offset]? = some (dvV d):=by rw [f1];simpa using hx 0
     have px:∀w',(part f.type xs f.offset).run P w'=.ok (dvV d) w':=fun w'=>by simp [part,g1,hx0]
     have:=ih (n:=n+1) (ts:=ts) (ds:=ds) hp.2 (fun j=>by have:=hx (j+1);rw [show n+(j+1)=n+1+j by omega] at this;simpa using this) f4
     rw [List.forIn_cons]
     simp only [if_pos f2,Sem.run_bind,px,g2,Result.andThen_ok,Sem.run_pure]
     exact this
 ·cases es with
  | nil=>exact .inl ⟨by simp [Instr.findKey,run_underlying' hd,Instr.findNow],fun e he=>by cases he⟩
  | cons e0 es =>
   obtain⟨y0,hy0⟩:=hk e0 (by simp)
   have hnow:(Instr.findKey k ((Ty.ext i).keyV E x) (e0::es)).run P w=(Instr.findAsking k ((Ty.ext i).keyV E x) (e0::es)).run P w:=by
    simp [Instr.findKey,run_underlying' hd,Instr.findNow,Instr.sameNow]
   rw [hnow]
   have key:∀(es:List MapEntry) (n:Nat),(∀e∈es,∃y:E.D i,e.key=(Ty.ext i).keyV E y) →
     ((Instr.findAsking k ((Ty.ext i).keyV E x) es n).run P w=.ok none w∧∀e∈es,e.key≠(Ty.ext i).keyV E x) ∨
     ∃(j:Nat) (e:MapEntry),(Instr.findAsking k ((Ty.ext i).keyV E x) es n).run P w=.ok (some (n+j,e.val)) w∧es[j]? = some e∧e.key=(Ty.ext i).keyV E x:=by
    intro es
    induction es with
    | nil=>intro n _;exact .inl ⟨by simp [Instr.findAsking],fun e he=>by cases he⟩
    | cons e es ih =>
     intro n hk
     obtain⟨y,hy⟩:=hk e (by simp)
     cases hb:(Ty.ext i).keq E x y with
     | true =>
      refine .inr ⟨0,e,?_,rfl,by rw [hy];exact ((hkeq x y).1 hb).symm⟩
      simp only [Instr.findAsking,Sem.run_bind,hy,hequal,hb,Result.andThen_ok,if_true,Sem.run_pure,Nat.add_zero]
     | false =>
      have hne:e.key≠(Ty.ext i).keyV E x:=fun he=>by
       rw [hy] at he
       rw [(hkeq x y).2 he.symm] at hb;cases hb
      have hstep:(Instr.findAsking k ((Ty.ext i).keyV E x) (e::es) n).run P w=(Instr.findAsking k ((Ty.ext i).keyV E x) es (n+1)).run P w:=by
       simp only [Instr.findAsking,Sem.run_bind,hy,hequal,hb,Result.andThen_ok,Bool.false_eq_true,if_false]
      rw [hstep]
      rcases ih (n+1) (fun e he=>hk e (by simp [he])) with⟨h1,h2⟩ | ⟨j,e',h1,h2,h3⟩
      ·exact .inl ⟨h1,fun e' he'=>by
        rcases List.mem_cons.1 he' with rfl | he'
        ·exact hne
        ·exact h2 e' he'⟩
      ·exact .inr ⟨j+1,e',by rw [h1];congr 3;omega,by simpa using h2,h3⟩
   rcases key (e0::es) 0 hk with h1 | ⟨j,e,h1,h2⟩
   ·exact .inl h1
   ·exact .inr ⟨j,e,by rw [h1,Nat.zero_add],h2⟩
 ·have hp:∀(ts:List Ty) (ds:List DV),AllP ts ds→((ds.map dvV).zip (ds.map dvV)).all (fun (x,y)=>Instr.sameBits 9999 x y)=true:=by
   intro ts
   induction ts with
   | nil=>intro ds h;cases ds with
    | nil=>rfl
    | cons _ _=>exact h.elim
   | cons t ts ih=>intro ds h;cases ds with
    | nil=>exact h.elim
    | cons d ds =>
     simp only [List.map_cons,List.zip_cons_cons,List.all_cons,ih ds h.2,Bool.and_true]
     have h1:=h.1
     cases t<;>first | exact h1.elim | (obtain⟨n,rfl⟩:=h1;simp only [dvV,mkStr,Instr.sameBits];exact (MapKept.bytes_beq _ _).2 rfl) | (obtain⟨n,rfl⟩:=h1;simp [dvV,Instr.sameBits])
  have hs:Instr.sameBits 10000 ((Ty.ext i).keyV E x) ((Ty.ext i).keyV E x)=true:=by
   simp only [Ty.keyV,Instr.sameBits,beq_self_eq_true,Bool.true_and]
   exact hp ts _ (hall x)
  simp [Instr.keyThatStays,hs]
theorem keyOk_of (hE:E.Ok) {P:Program} {k:TypeId} (hd:P.underlying k=some d) (h:keyB E P k t d=true):KeyOk E P k t:=by
 unfold keyB at h
 rw [Bool.or_eq_true] at h
 rcases h with h | h
 ·exact keyOk_plain hd h
 ·exact keyOk_struct hE hd h
end
section
variable {P : Program} {w0 w w' : World} {G0 G G' : Ghost} {st : TS E} {a : Act} {o : Oper} {kt vt : Ty} {d : TypeDesc} {m : List (kt.den E.D × vt.den E.D)}
theorem MapRel.length:∀ {es:List MapEntry} {m:List (kt.den E.D × vt.den E.D)},MapRel E w G kt vt es m→es.length=m.length
 | [],[],_=>rfl
 | _::_,_::_,h=>by simp [MapRel.length h.2.2]
 | [],_::_,h=>h.elim
 | _::_,[],h=>h.elim
theorem MapRel.get:∀ {es:List MapEntry} {m:List (kt.den E.D × vt.den E.D)} (j:Nat) {e:MapEntry},MapRel E w G kt vt es m→es[j]? = some e→∃p,m[j]? = some p∧VT E w G (.dat kt p.1) e.key∧VT E w G (.dat vt p.2) e.val
 | [],[],_,_,_,h=>by simp at h
 | e::es,p::ps,0,x,h,hj=>by simp at hj;subst hj;exact⟨p,rfl,h.1,h.2.1⟩
 | e::es,p::ps,j+1,x,h,hj=>by simpa using MapRel.get j h.2.2 (by simpa using hj)
 | [],_::_,_,_,h,_=>h.elim
 | _::_,[],_,_,h,_=>h.elim
theorem MapRel.get':∀ {es:List MapEntry} {m:List (kt.den E.D × vt.den E.D)} (j:Nat) {p:kt.den E.D × vt.den E.D},MapRel E w G kt vt es m→m[j]? = some p→∃e,es[j]? = some e∧VT E w G (.dat kt p.1) e.key∧VT E w G (.dat vt p.2) e.val
 | [],[],_,_,_,h=>by simp at h
 | e::es,p::ps,0,x,h,hj=>by simp at hj;subst hj;exact⟨e,rfl,h.1,h.2.1⟩
 | e::es,p::ps,j+1,x,h,hj=>by simpa using MapRel.get' j h.2.2 (by simpa using hj)
 | [],_::_,_,_,h,_=>h.elim
 | _::_,[],_,_,h,_=>h.elim
theorem MapRel.append:∀ {es:List MapEntry} {m:List (kt.den E.D × vt.den E.D)} {e:MapEntry} {p:kt.den E.D × vt.den E.D},MapRel E w G kt vt es m→VT E w G (.dat kt p.1) e.key→VT E w G (.dat vt p.2) e.val→MapRel E w G kt vt (es++[e]) (m++[p])
 | [],[],_,_,_,h1,h2=>⟨h1,h2,trivial⟩
 | _::_,_::_,_,_,h,h1,h2=>⟨h.1,h.2.1,MapRel.append h.2.2 h1 h2⟩
 | [],_::_,_,_,h,_,_=>h.elim
 | _::_,[],_,_,h,_,_=>h.elim
theorem MapRel.set:∀ {es:List MapEntry} {m:List (kt.den E.D × vt.den E.D)} (j:Nat) {e:MapEntry} {p:kt.den E.D × vt.den E.D},MapRel E w G kt vt es m→VT E w G (.dat kt p.1) e.key→VT E w G (.dat vt p.2) e.val→MapRel E w G kt vt (es.set j e) (m.set j p)
 | [],[],_,_,_,_,_,_=>trivial
 | _::_,_::_,0,_,_,h,h1,h2=>⟨h1,h2,h.2.2⟩
 | _::_,_::_,j+1,_,_,h,h1,h2=>⟨h.1,h.2.1,MapRel.set j h.2.2 h1 h2⟩
 | [],_::_,_,_,_,h,_,_=>h.elim
 | _::_,[],_,_,_,h,_,_=>h.elim
theorem map_find {ki:TypeId} (K:KeyOk E P ki kt) {es:Array MapEntry} (h:MapRel E w G kt vt es.toList m) (k:kt.den E.D) (W:World) :
  ((Instr.findKey ki (kt.keyV E k) es.toList).run P W=.ok none W∧m.any (fun p=>kt.keq E p.1 k)=false∧∀x∈es.toList,x.key≠kt.keyV E k) ∨
  ∃j e p,(Instr.findKey ki (kt.keyV E k) es.toList).run P W=.ok (some (j,e.val)) W∧es[j]? = some e∧e.key=kt.keyV E k∧m[j]? = some p∧kt.keq E p.1 k=true∧VT E w G (.dat vt p.2) e.val:=by
 have hkey:∀x∈es.toList,∃p∈m,x.key=kt.keyV E p.1:=fun x hx=>by
  obtain⟨j,hj,rfl⟩:=List.getElem_of_mem hx
  obtain⟨p,hp,h1,-⟩:=h.get j (List.getElem?_eq_getElem hj)
  exact⟨p,List.mem_of_getElem? hp,K.vt h1⟩
 rcases K.find k es.toList W (fun x hx=>by obtain⟨p,-,hk⟩:=hkey x hx;exact⟨_,hk⟩) with⟨h1,h2⟩ | ⟨j,e,h1,h2,h3⟩
 ·refine .inl ⟨h1,?_,h2⟩
  apply Bool.eq_false_iff.2
  intro ha
  obtain⟨p,hp,he⟩:=List.any_eq_true.1 ha
  obtain⟨j,hj,rfl⟩:=List.getElem_of_mem hp
  obtain⟨x,hx,hk,-⟩:=h.get' j (List.getElem?_eq_getElem hj)
  exact h2 x (List.mem_of_getElem? hx) (by rw [K.vt hk,K.keq.1 he])
 ·have hj:es[j]? = some e:=by simpa using h2
  obtain⟨p,hp,hk,hv⟩:=h.get j h2
  exact .inr ⟨j,e,p,h1,hj,h3,hp,K.keq.2 ((K.vt hk).symm.trans h3),hv⟩
theorem map_nodup {ki:TypeId} (K:KeyOk E P ki kt) {es:Array MapEntry} {clock:Nat} (hs:Stamped es clock) (h:MapRel E w G kt vt es.toList m):m.Pairwise (fun p q=>kt.keyV E p.1≠kt.keyV E q.1):=by
 have h3:=hs.2.2
 have:es.toList.map (·.key)=(m.map (·.1)).map (kt.keyV E):=by
  apply List.ext_getElem (by simp [h.length])
  intro j h1 h2
  have hj:j<es.toList.length:=by simpa using h1
  obtain⟨p,hp,hk,-⟩:=h.get j (List.getElem?_eq_getElem hj)
  have hjm:j<m.length:=(List.getElem?_eq_some_iff.1 hp).1
  have:m[j]=p:=by rw [List.getElem?_eq_getElem hjm] at hp;exact Option.some.inj hp
  simp only [List.getElem_map,this]
  exact K.vt hk
 rw [this] at h3
 have h3':List.Pairwise (·≠·) ((m.map (·.1)).map (kt.keyV E)):=h3
 rw [List.pairwise_map] at h3'
 rw [List.pairwise_map] at h3'
 exact h3'
theorem mset_at {ki:TypeId} (K:KeyOk E P ki kt) (hn:m.Pairwise (fun p q=>kt.keyV E p.1≠kt.keyV E q.1)) {j:Nat} {p:kt.den E.D × vt.den E.D} (hj:m[j]? = some p) {k:kt.den E.D} (hk:kt.keq E p.1 k=true) (v:vt.den E.D):mset (kt.keq E) m k v=m.set j (k,v):=by
 have hany:m.any (fun p=>kt.keq E p.1 k)=true:=List.any_eq_true.2 ⟨p,List.mem_of_getElem? hj,hk⟩
 unfold mset
 rw [hany,cond_true]
 have hjl:j<m.length:=(List.getElem?_eq_some_iff.1 hj).1
 have hpj:m[j]=p:=by rw [List.getElem?_eq_getElem hjl] at hj;exact Option.some.inj hj
 apply List.ext_getElem (by simp)
 intro q h1 h2
 have hq:q<m.length:=by simpa using h1
 rw [List.getElem_map,List.getElem_set]
 by_cases hqj:j=q
 ·subst hqj
  rw [if_pos rfl,hpj,hk,cond_true]
 ·rw [if_neg hqj]
  have hne:kt.keq E m[q].1 k=false:=by
   apply Bool.eq_false_iff.2
   intro he
   have he':=K.keq.1 he
   have hk':=K.keq.1 hk
   have:=(List.pairwise_iff_getElem.1 hn)
   rcases Nat.lt_or_gt_of_ne hqj with hlt | hlt
   ·exact this j q hjl hq hlt (by rw [hpj,hk',he'])
   ·exact this q j hq hjl hlt (by rw [hpj,hk',he'])
  rw [hne,cond_false]
theorem map_update {b:Nat} {t k e:TypeId} {es:Array MapEntry} {clock:Nat} (K:KeyOk E P k kt) (hm:P.underlying t=some (.map k e)) (hb:w.heap[b]? = some (.map es clock)) (hs:Stamped es clock) (h:MapRel E w G kt vt es.toList m)
  (x:kt.den E.D) (v:vt.den E.D) {vv:Value} (hv:VT E w G (.dat vt v) vv) :
  ∃es' clock',(Instr.mapUpdate t (.map (some b)) (kt.keyV E x) vv).run P w=.ok () { w with heap:=w.heap.setIfInBounds b (.map es' clock') }∧Stamped es' clock'∧MapRel E w G kt vt es'.toList (mset (kt.keq E) m x v):=by
 rcases map_find K h x w with⟨h1,h2,h3⟩ | ⟨j,e,p,h1,hj,h3,hp,hpk,hvv⟩
 ·refine⟨es.push ⟨kt.keyV E x,vv,clock⟩,clock+1,?_,stamped_push hs h3,?_⟩
  ·simp [Instr.mapUpdate,run_underlying hm,MapKept.run_getObj_map hb,K.check,h1,MapKept.run_setObj_map _ hb,Result.andThen]
  ·unfold mset
   rw [h2,cond_false,Array.toList_push]
   exact h.append (K.of w G x) hv
 ·refine⟨es.modify j fun e=>{ e with key:=kt.keyV E x,val:=vv },clock,?_,stamped_modify hs _ _ (fun _ _=>rfl) (fun e' _ he'=>by rw [hj] at he';cases he';exact h3.symm),?_⟩
  ·simp [Instr.mapUpdate,run_underlying hm,MapKept.run_getObj_map hb,K.check,h1,hj,h3,K.stays,MapKept.run_setObj_map _ hb,Result.andThen]
  ·rw [mset_at K (map_nodup K hs h) hp hpk v]
   have:(es.modify j fun e=>{ e with key:=kt.keyV E x,val:=vv }).toList=es.toList.set j { e with key:=kt.keyV E x,val:=vv }:=by
    apply List.ext_getElem (by simp)
    intro q h1 h2
    simp only [Array.getElem_toList,Array.getElem_modify,List.getElem_set]
    by_cases hqj:j=q
    ·subst hqj
     obtain⟨hjl,hje⟩:=Array.getElem?_eq_some_iff.1 hj
     simp [hje]
    ·simp [hqj]
   rw [this]
   exact h.set j (K.of w G x) hv
theorem map_look {b:Nat} {t k e:TypeId} {es:Array MapEntry} {clock:Nat} {z:vt.den E.D} {zv:Value} (K:KeyOk E P k kt) (hm:P.underlying t=some (.map k e)) (hz:∀w,(zeroValue e).run P w=.ok zv w) (hzv:VT E w G (.dat vt z) zv)
  (hb:w.heap[b]? = some (.map es clock)) (hs:Stamped es clock) (h:MapRel E w G kt vt es.toList m) (x:kt.den E.D) (c:Bool) :
  ∃u,VT E w G (.dat vt (mget (kt.keq E) m x z)) u∧(Instr.lookup t (.map (some b)) (kt.keyV E x) c).run P w=.ok (if c then .tuple #[u,.bool (mhas (kt.keq E) m x)] else u) w:=by
 rcases map_find K h x w with⟨h1,h2,h3⟩ | ⟨j,en,p,h1,hj,h3,hp,hpk,hv⟩
 ·have hf:m.find? (fun p=>kt.keq E p.1 x)=none:=by
   rw [List.find?_eq_none]
   intro p hp he
   have:=List.any_eq_false.1 h2 p hp
   exact this he
  have hg:mget (kt.keq E) m x z=z:=by unfold mget;rw [hf]
  rw [hg]
  unfold mhas
  rw [h2]
  refine⟨zv,hzv,?_⟩
  simp [Instr.lookup,run_underlying hm,MapKept.run_getObj_map hb,K.check,h1,hz,Result.andThen]
 ·have hf:m.find? (fun p=>kt.keq E p.1 x)=some p:=by
   obtain⟨hjl,hjp⟩:=List.getElem?_eq_some_iff.1 hp
   rw [List.find?_eq_some_iff_getElem]
   refine⟨hpk,j,hjl,hjp,fun q hq=>?_⟩
   have hn:=List.pairwise_iff_getElem.1 (map_nodup K hs h) q j (by omega) hjl hq
   rw [hjp,K.keq.1 hpk] at hn
   cases hb:kt.keq E m[q].1 x with
   | false=>rfl
   | true=>exact (hn (K.keq.1 hb)).elim
  have hg:mget (kt.keq E) m x z=p.2:=by unfold mget;rw [hf]
  have hany:mhas (kt.keq E) m x=true:=List.any_eq_true.2 ⟨p,List.mem_of_getElem? hp,hpk⟩
  rw [hg,hany]
  refine⟨en.val,hv,?_⟩
  simp [Instr.lookup,run_underlying hm,MapKept.run_getObj_map hb,K.check,h1,Result.andThen]
theorem does_makeMap (hr:Rel E w0 G0 st a w G) {t:TypeId} (ho:o.op=.makeMap t none) (kt vt:Ty) :
  Does P w0 G0 a w o { st with t:=setT st.t o.dst (.mref st.H.length),H:=st.H++[.map kt vt []] }:=by
 have hN:=hr.newBox (.map #[] 0) (.map kt vt []) ⟨#[],0,(MapKept.heap_alloc w _).1,stamped_empty 0,trivial⟩
 refine⟨.value (.map (some w.heap.size)),_,_,_,?_,.inl rfl,hN.put (d:=.mref st.H.length) ?_ o.dst⟩
 ·simp [execOp,ho,Instr.makeMap]
 ·simp only [VT]
  refine⟨_,rfl,?_⟩
  rw [←hr.boxes.len];simp
theorem does_mapUpdate (hE:E.Ok) (hr:Rel E w0 G0 st a w G) {t k e:TypeId} {x y z:Operand} (ho:o.op=.mapUpdate t x y z) {j1 j2:Nat} {zz:Value} (hm:tinfo P t=some ⟨.map k e,j1,j2,zz⟩) {ik:TI} (hk:tinfo P k=some ik) (K0:keyB E P k kt ik.kind=true)
  {r:Nat} (hx:st.ev x=.mref r) (hb:st.H[r]? = some (.map kt vt m)) {kk:kt.den E.D} {vv:vt.den E.D} (hy:(st.ev y).get kt=some kk) (hz:(st.ev z).get vt=some vv) :
  Does P w0 G0 a w o { st with t:=setT st.t o.dst .any,H:=st.H.set r (.map kt vt (mset (kt.keq E) m kk vv)),d:=r::st.d }:=by
 obtain⟨_,_,hum,-⟩:=tinfo_some hm
 obtain⟨_,_,huk,-⟩:=tinfo_some hk
 have K:=keyOk_of hE huk K0
 have hvx:=hr.ev x
 rw [hx] at hvx
 simp only [VT] at hvx
 obtain⟨b,he,hat⟩:=hvx
 obtain⟨es,clock,hh,hs,hmr⟩:=hr.box hat hb
 have hvk:=K.vt (TV.get_vt hy (hr.ev y))
 obtain⟨es',clock',hrun,hs',hmr'⟩:=map_update (P:=P) K hum hh hs hmr kk vv (TV.get_vt hz (hr.ev z))
 have hR:=hr.setBox (w':={ w with heap:=w.heap.setIfInBounds b (.map es' clock') }) hat (by simp) rfl rfl rfl (fun b' hb'=>(MapKept.heap_set hh).2 b' hb') (x:=.map kt vt (mset (kt.keq E) m kk vv))
  (fun hg=>⟨es',clock',(MapKept.heap_set hh).1,hs',hmr'.mono hg⟩)
 refine⟨_,undef,_,G,?_,.inr ⟨rfl,rfl⟩,hR.put (v:=undef) (by simp only [VT]) o.dst⟩
 simp only [execOp,ho,he,hvk,Sem.run_bind,hrun,Result.andThen_ok,Sem.run_pure]
theorem does_lookup (hE:E.Ok) (hr:Rel E w0 G0 st a w G) {t k e:TypeId} {x y:Operand} {ok:Bool} (ho:o.op=.lookup t x y ok) {j1 j2:Nat} {zz:Value} (hm:tinfo P t=some ⟨.map k e,j1,j2,zz⟩) {ik ie:TI} (hk:tinfo P k=some ik) (he':tinfo P e=some ie) (K0:keyB E P k kt ik.kind=true)
  (hzo:ie.zero.cells.toList.all (·.oneCell')=true) {r:Nat} (hx:st.ev x=.mref r) (hb:st.H[r]? = some (.map kt vt m)) {kk:kt.den E.D} (hy:(st.ev y).get kt=some kk) {z:vt.den E.D} (hz:(zeroTV E (some vt) ie.zero).get vt=some z) :
  Does P w0 G0 a w o { st with t:=setT st.t o.dst (cond ok (.tuple [.dat vt (mget (kt.keq E) m kk z),.dat .bool (mhas (kt.keq E) m kk)]) (.dat vt (mget (kt.keq E) m kk z))) }:=by
 obtain⟨_,_,hum,-⟩:=tinfo_some hm
 obtain⟨_,_,huk,-⟩:=tinfo_some hk
 have K:=keyOk_of hE huk K0
 have hvx:=hr.ev x
 rw [hx] at hvx
 simp only [VT] at hvx
 obtain⟨b,he,hat⟩:=hvx
 obtain⟨es,clock,hh,hs,hmr⟩:=hr.box hat hb
 have hvk:=K.vt (TV.get_vt hy (hr.ev y))
 obtain⟨u,hu,hrun⟩:=map_look (P:=P) K hum (fun w=>run_zeroValue' he' w) (TV.get_vt hz (VT_zero hE hzo)) hh hs hmr kk ok
 refine⟨_,_,w,G,?_,.inl rfl,hr.put (v:=if ok then .tuple #[u,.bool (mhas (kt.keq E) m kk)] else u) ?_ o.dst⟩
 ·simp only [execOp,ho,he,hvk,Sem.run_bind,hrun,Result.andThen_ok,Sem.run_pure]
 ·cases ok
  ·exact hu
  ·simp only [cond_true,if_true,VT]
   exact⟨_,rfl,.cons hu (.cons (.bool _ _ _) .nil)⟩
theorem does_mapLen (hr:Rel E w0 G0 st a w G) {c:Call} {x:Operand} {t k e:TypeId} {j1 j2:Nat} {zz:Value} (ho:o.op=.call c) (hcl:c.callee=.builtin .len) (ha:c.args.toList=[x]) (hat':c.argTypes.toList=[t]) (hm:tinfo P t=some ⟨.map k e,j1,j2,zz⟩)
  {r:Nat} (hx:st.ev x=.mref r) (hb:st.H[r]? = some (.map kt vt m)):Does P w0 G0 a w o { st with t:=setT st.t o.dst (.dat (.int .i64) (m.length:Int)) }:=by
 obtain⟨_,_,hum,-⟩:=tinfo_some hm
 have hvx:=hr.ev x
 rw [hx] at hvx
 simp only [VT] at hvx
 obtain⟨b,he,hat⟩:=hvx
 obtain⟨es,clock,hh,hs,hmr⟩:=hr.box hat hb
 have ha1:c.args=#[x]:=by rw [←Array.toArray_toList (xs:=c.args),ha]
 have ha2:c.argTypes=#[t]:=by rw [←Array.toArray_toList (xs:=c.argTypes),hat']
 refine⟨.value (.int .i64 m.length),_,w,G,?_,.inl rfl,hr.put (.int _ _ _ _) o.dst⟩
 unfold execOp
 simp only [ho,resolve,hcl,Sem.run_bind,Sem.run_pure,Result.andThen_ok,invoke,builtin,ha1,ha2,List.map_toArray,List.map_cons,List.map_nil]
 rw [he]
 have hl:es.size=m.length:=by simpa using hmr.length
 simp [Builtin.len_,run_underlying hum,MapKept.run_getObj_map hh,goInt,hl,Result.andThen]
end
end Go.RT
namespace Go.RT
set_option linter.unusedVariables false
variable {E : TEnv}
section
variable {P : Program} {w0 w w' : World} {G0 G G' : Ghost} {st : TS E} {a : Act} {o : Oper}
theorem Rel.setRow (h:Rel E w0 G0 st a w G) {j:Nat} {x x':TGrow} {hd hd':Value} {cs:List (Nat × Cn E)} (hj:G.g[j]? = some (x,hd)) (hle:x.ver≤x'.ver) (heq:x.ver=x'.ver→hd'=hd) (hsz:w.heap.size≤w'.heap.size) (h1:w'.os=w.os) (h2:w'.tape=w.tape) (h3:w'.output=w.output)
  (hother:∀b,b<w.heap.size→hd.ownBlock≠some b→w'.heap[b]? = w.heap[b]?) (hcells:∀b o v,G.pr b o→w.cell? ⟨b,o,none⟩=some v→w'.cell? ⟨b,o,none⟩=some v)
  (pr':Nat→Nat→Prop) (hp:∀b o,G.pr b o→pr' b o) (hpo:∀b o,pr' b o→G.pr b o∨hd'.ownBlock=some b)
  (hok:GrowOk E w' { G with pr:=pr' } x' hd') (hblk:∀b,hd'.ownBlock=some b→w.heap.size≤b∨hd.ownBlock=some b)
  (hcs:Goes w G w' { G with g:=G.g.set j (x',hd'),pr:=pr' }→Softs E w' { G with g:=G.g.set j (x',hd'),pr:=pr' } cs) :
  Rel E w0 G0 { st with g:=st.g.set j x',c:=cs } a w' { G with g:=G.g.set j (x',hd'),pr:=pr' }:=by
 have hjl:j<G.g.length:=(List.getElem?_eq_some_iff.1 hj).1
 obtain⟨n0,xs0,-,-,hhd⟩:=h.boxes.grow j x hd hj
 have at':∀(m:Nat) y z,(G.g.set j (x',hd'))[m]? = some (y,z)→(m=j∧y=x'∧z=hd')∨(m≠j∧G.g[m]? = some (y,z)):=by
  intro m y z hm
  by_cases e:m=j
  ·subst e
   simp [hjl] at hm
   exact .inl ⟨rfl,hm.1.symm,hm.2.symm⟩
  ·rw [List.getElem?_set_ne (fun q=>e q.symm)] at hm
   exact .inr ⟨e,hm⟩
 have hg:Goes w G w' { G with g:=G.g.set j (x',hd'),pr:=pr' }:=by
  refine⟨hp,hcells,fun _ _ h=>h,fun m y z hm=>?_⟩
  by_cases e:m=j
  ·subst e
   rw [hj] at hm
   cases hm
   exact⟨x',hd',by simp [hjl],hle,heq⟩
  ·exact⟨y,z,by
    show (G.g.set j _)[m]? = _
    rw [List.getElem?_set_ne (fun q=>e q.symm)];exact hm,Nat.le_refl _,fun _=>rfl⟩
 have hbox:∀b,b∈G.i→hd.ownBlock≠some b:=fun b hb e=>(hhd b e).2.1 hb
 have ev:=h.evol
 have hrow:∀b,b<w0.heap.size→hd.ownBlock=some b→G0.rows b:=fun b hb e=>by
  rcases ev.newG j x hd b hj e with q | ⟨y,z,q1,q2⟩
  ·omega
  ·exact⟨y,z,List.mem_of_getElem? q1,q2⟩
 refine⟨⟨h1.trans ev.os,h2.trans ev.tape,h3.trans ev.output,Nat.le_trans ev.size hsz,fun b hb hn=>?_,ev.goes.trans hg,fun b o hb hpr=>?_,ev.newB,fun m y z b hm hb=>?_⟩,h.size,
  fun m d hm=>(h.tmps m d hm).mono hg,h.defers.mono hg,?_,fun r b hb hd=>(hother b (h.boxes.lt b (List.mem_of_getElem? (ev.goes.i r b hb))) (hbox b (List.mem_of_getElem? (ev.goes.i r b hb)))).trans (h.fix r b hb hd),h.pins,hcs hg⟩
 ·rw [hother b (Nat.lt_of_lt_of_le hb ev.size) (fun e=>hn (.inr (hrow b hb e)))]
  exact ev.old b hb hn
 ·rcases hpo b o hpr with q | q
  ·exact ev.prold b o hb q
  ·rcases hblk b q with q' | q'
   ·have:=ev.size;omega
   ·exact .inr (hrow b hb q')
 ·rcases at' m y z hm with⟨rfl,-,rfl⟩ | ⟨-,q⟩
  ·rcases hblk b hb with q | q
   ·exact .inl (Nat.le_trans ev.size q)
   ·exact ev.newG m x hd b hj q
  ·exact ev.newG m y z b q hb
 refine⟨h.boxes.len,?_,fun r b y hb hy=>?_,fun b hb=>Nat.lt_of_lt_of_le (h.boxes.lt b hb) hsz,h.boxes.nodup,fun b o hpr=>?_,fun m y z hm=>?_,fun m m' y z y' z' b hm hm' hb hb'=>?_,glob_mono hg h.boxes.glob⟩
 ·simp only []
  rw [←h.boxes.gs,List.map_set]
 ·have hm:=List.mem_of_getElem? hb
  exact (h.boxes.box r b y hb hy).mono hg (hother b (h.boxes.lt b hm) (hbox b hm))
 ·rcases hpo b o hpr with q | q
  ·exact⟨Nat.lt_of_lt_of_le (h.boxes.prok b o q).1 hsz,(h.boxes.prok b o q).2⟩
  ·obtain⟨n,xs,-,-,hq⟩:=hok
   exact⟨(hq b q).1,(hq b q).2.1⟩
 ·rcases at' m y z hm with⟨-,rfl,rfl⟩ | ⟨hne,q⟩
  ·exact hok
  ·obtain⟨n,xs,ho,hz,hq⟩:=h.boxes.grow m y z q
   refine⟨n,xs,⟨ho.1,?_⟩,hz,fun b hb=>?_⟩
   ·rcases ho.2 with q2 | ⟨g,cap,cur,q2,q3,q4,q5⟩
    ·exact .inl q2
    ·have hgb:z.ownBlock=some g:=by rw [q2];rfl
     refine .inr ⟨g,cap,cur,q2,q3,?_,q5⟩
     rw [hother g (hq g hgb).1 (fun e=>hne (h.boxes.apart m j y z x hd g q hj hgb e))]
     exact q4
   ·obtain⟨p1,p2,p3⟩:=hq b hb
    refine⟨Nat.lt_of_lt_of_le p1 hsz,p2,fun o ho' hpr=>?_⟩
    rcases hpo b o hpr with q' | q'
    ·exact p3 o ho' q'
    ·rcases hblk b q' with q'' | q''
     ·omega
     ·exact hne (h.boxes.apart m j y z x hd b q hj hb q'')
 ·have key:∀(m:Nat) y z,m≠j→G.g[m]? = some (y,z)→z.ownBlock=some b→hd'.ownBlock=some b→False:=by
   intro m y z hne q hb hb'
   obtain⟨n,xs,-,-,hq⟩:=h.boxes.grow m y z q
   rcases hblk b hb' with q'' | q''
   ·have:=(hq b hb).1;omega
   ·exact hne (h.boxes.apart m j y z x hd b q hj hb q'')
  rcases at' m y z hm with⟨e1,-,e2⟩ | ⟨hne,q⟩<;>rcases at' m' y' z' hm' with⟨e1',-,e2'⟩ | ⟨hne',q'⟩
  ·rw [e1,e1']
  ·rw [e2] at hb
   exact (key m' y' z' hne' q' hb' hb).elim
  ·rw [e2'] at hb'
   exact (key m y z hne q hb hb').elim
  ·exact h.boxes.apart m m' y z y' z' b q q' hb hb'
theorem Rel.row_at (hr:Rel E w0 G0 st a w G) {j:Nat} {g:TGrow} (hg:st.g[j]? = some g):∃h,G.g[j]? = some (g,h):=by
 rw [←hr.boxes.gs,List.getElem?_map] at hg
 cases hh:G.g[j]? with
 | none=>rw [hh] at hg;cases hg
 | some y =>
  rw [hh] at hg
  simp only [Option.map_some,Option.some.injEq] at hg
  obtain⟨y1,y2⟩:=y
  simp only at hg
  subst hg
  exact⟨y2,rfl⟩
theorem Rel.soft (hr:Rel E w0 G0 st a w G) {j:Nat} {g:TGrow} {c:Cn E} (hg:st.g[j]? = some g) (hc:cGet st.c j=some c) :
  ∃h,G.g[j]? = some (g,h)∧SoftOk E w G g h c∧(∀v,VT E w G (.gso j g.ver) v→v=h):=by
 obtain⟨h,hh⟩:=hr.row_at hg
 obtain⟨x,h',h1,h2⟩:=hr.softs j c (cGet_mem hc)
 rw [hh] at h1
 cases h1
 refine⟨h,hh,h2,fun v hv=>?_⟩
 simp only [VT] at hv
 obtain⟨x,h',q1,q2,-,q3⟩:=hv
 rw [hh] at q1
 cases q1
 exact q3 rfl
theorem SoftOk.block {x:TGrow} {h:Value} {c:Cn E} (hs:SoftOk E w G x h c):(h=.slice none 0 0∧c.2=[])∨∃(b cap:Nat) (cur:Array Value),h=.slice (some ⟨b,0,none⟩) c.2.length cap∧w.heap[b]? = some (.cells cur x.e (0,0))∧c.2.length≤cap∧cap≤maxLen∧cur.size=cap * x.k ∧
  Flat w G.pr x.k (cur.toList.take (c.2.length * x.k)) (c.2.map (c.1.cells E))∧∀o,¬ G.pr b o:=by
 obtain⟨h1,h2,⟨vals,ho,hf⟩,hp⟩:=hs
 rcases ho.2 with⟨q1,q2⟩ | ⟨b,cap,cur,q1,q2,q3,q4,q5,q6,q7⟩
 ·exact .inl ⟨q1,List.eq_nil_of_length_eq_zero q2⟩
 ·refine .inr ⟨b,cap,cur,q1,q3,q4,q5,q6,?_,hp b (by rw [q1];rfl)⟩
  rw [q7];exact hf
theorem flat_cell {b e:Nat} {k:Nat} {cur:Array Value} {T:Ty} {xs:List (T.den E.D)} (hk:k=T.size E) (hh:w.heap[b]? = some (.cells cur e (0,0))) (hf:Flat w G.pr k (cur.toList.take (xs.length * k)) (xs.map (T.cells E))) (hle:xs.length * k≤cur.size) {i:Nat} (hi:i<xs.length) :
  ∃vs:List Value,LD w G.pr vs (T.cells E (xs.getD i (T.dflt E)))∧vs.length=k∧vs=(cur.toList.drop (i * k)).take k∧∀(l:Nat) u,vs[l]? = some u→w.cell? ⟨b,i * k+l,none⟩=some u:=by
 have hlen:(T.cells E (xs.getD i (T.dflt E))).length=k:=by
  have:=hf.2.1 i (by simpa using hi)
  simpa [List.getD,hi] using this
 have hik:i * k+k≤xs.length * k:=by
  have:(i+1) * k≤xs.length * k:=Nat.mul_le_mul_right k hi
  rw [Nat.add_mul,Nat.one_mul] at this
  exact this
 have hvl:((cur.toList.drop (i * k)).take k).length=k:=by simp;omega
 refine⟨(cur.toList.drop (i * k)).take k,LD.of_getD (by rw [hvl,hlen]) (fun l hl=>?_),hvl,rfl,fun l u hl=>?_⟩
 ·rw [hlen] at hl
  have:=hf.2.2 i l (by simpa using hi) hl
  have e1:((xs.map (T.cells E)).getD i [])=T.cells E (xs.getD i (T.dflt E)):=by simp [List.getD,hi]
  rw [e1] at this
  have e2:(cur.toList.take (xs.length * k)).getD (i * k+l) undef=((cur.toList.drop (i * k)).take k).getD l undef:=by
   simp only [List.getD]
   rw [List.getElem?_take,List.getElem?_take,if_pos (by omega),if_pos hl,List.getElem?_drop]
  rw [e2] at this
  exact this
 ·have hlk:l<k:=by rw [←hvl];exact (List.getElem?_eq_some_iff.1 hl).1
  rw [cell_of_row w b _ cur e (0,0) hh]
  rw [List.getElem?_take,if_pos hlk,List.getElem?_drop] at hl
  simpa using hl
theorem SoftOk.len {x:TGrow} {h:Value} {c:Cn E} (hs:SoftOk E w G x h c) {n:Nat} {xs:List Value} (ho:w.ownsRow 0 x.e x.k h n xs):n=c.2.length:=by
 rcases hs.block with⟨h1,h2⟩ | ⟨b,cap,cur,h1,-⟩
 ·rcases ho.2 with⟨-,q⟩ | ⟨g,cap',cur',q1,-⟩
  ·rw [q,h2];rfl
  ·rw [h1] at q1;cases q1
 ·rcases ho.2 with⟨q,-⟩ | ⟨g,cap',cur',q1,-⟩
  ·rw [h1] at q;cases q
  ·rw [h1] at q1
   simp only [Value.slice.injEq] at q1
   exact q1.2.1.symm
theorem Rel.harden (hr:Rel E w0 G0 st a w G) {j:Nat} {g:TGrow} {c:Cn E} (hg:st.g[j]? = some g) (hc:cGet st.c j=some c) :
  ∃G',Rel E w0 G0 { st with c:=cDrop j st.c } a w G'∧Goes w G w G'∧(∀v,VT E w G (.gso j g.ver) v→VT E w G' (.dat (.lst c.1) c.2) v) ∧
   ∀v lo n,VT E w G (.gsb j g.ver (c.1.size E) lo n) v→VT E w G' (.dat (.lst c.1) ((c.2.drop lo).take n)) v:=by
 obtain⟨h,hj,hs,hval⟩:=hr.soft hg hc
 obtain⟨n0,xs0,ho0,hz0,hb0⟩:=hr.boxes.grow j g h hj
 have hn0:=hs.len ho0
 have ev:=hr.evol
 let pr':Nat→Nat→Prop:=fun b o=>G.pr b o∨(h.ownBlock=some b∧o<c.2.length * g.k)
 have hgo:Goes w G w { G with pr:=pr' }:=⟨fun _ _ h=>.inl h,fun _ _ _ _ h=>h,fun _ _ h=>h,fun j x y hj=>⟨x,y,hj,Nat.le_refl _,fun _=>rfl⟩⟩
 have hk:=hs.1
 refine⟨{ G with pr:=pr' },⟨⟨ev.os,ev.tape,ev.output,ev.size,ev.old,ev.goes.trans hgo,fun b o hb hp=>?_,ev.newB,ev.newG⟩,hr.size,fun j d hj=>(hr.tmps j d hj).mono hgo,hr.defers.mono hgo,?_,hr.fix,hr.pins,?_⟩,hgo,fun v hv=>?_,fun v lo n hv=>?_⟩
 ·rcases hp with hp | ⟨hp,-⟩
  ·exact ev.prold b o hb hp
  ·rcases ev.newG j g h b hj hp with q | ⟨x0,h0,q1,q2⟩
   ·omega
   ·exact .inr ⟨x0,h0,List.mem_of_getElem? q1,q2⟩
 ·refine⟨hr.boxes.len,hr.boxes.gs,fun r b x hb hx=>(hr.boxes.box r b x hb hx).mono hgo rfl,hr.boxes.lt,hr.boxes.nodup,fun b o hp=>?_,fun m x hd hm=>?_,hr.boxes.apart,glob_mono hgo hr.boxes.glob⟩
  ·rcases hp with hp | ⟨hp,-⟩
   ·exact hr.boxes.prok b o hp
   ·exact⟨(hb0 b hp).1,(hb0 b hp).2.1⟩
  ·obtain⟨n',xs',ho',hz',hb'⟩:=hr.boxes.grow m x hd hm
   refine⟨n',xs',ho',hz',fun b hbk=>⟨(hb' b hbk).1,(hb' b hbk).2.1,fun o hno hp=>?_⟩⟩
   rcases hp with hp | ⟨hp,hlt⟩
   ·exact (hb' b hbk).2.2 o hno hp
   ·have hmj:=hr.boxes.apart m j x hd g h b hm hj hbk hp
    subst hmj
    rw [hj] at hm
    cases hm
    have:=hs.len ho'
    rw [this] at hno
    omega
 ·intro i c' hm
  obtain⟨hm,hne⟩:=cDrop_mem hm
  obtain⟨x,hd,h1,h2⟩:=hr.softs i c' hm
  refine⟨x,hd,h1,h2.keep rfl rfl hgo.pr hgo.cells fun b hbk=>⟨rfl,fun o hp=>?_⟩⟩
  rcases hp with hp | ⟨hp,-⟩
  ·exact hp
  ·exact (hne (hr.boxes.apart i j x hd g h b h1 hj hbk hp)).elim
 ·rw [hval v hv]
  rcases hs.block with⟨h1,h2⟩ | ⟨b,cap,cur,h1,hheap,hcap,hcm,hcs,hf,-⟩
  ·rw [h1,h2];exact .list (.nils _ _)
  ·refine .list ?_
   rw [h1,←hk]
   have hl:(c.2.map (c.1.cells E)).length=c.2.length:=by simp
   have:=VD_row (w:=w) (pr:=pr') (b:=b) (cap:=cap) (es:=c.2.map (c.1.cells E)) (xs:=cur.toList.take (c.2.length * g.k)) (k:=g.k) (by rw [hl];exact hcap) (fun q hq=>?_) (hf.mono hgo.pr hgo.cells)
   ·rw [hl] at this;exact this
   ·rw [hl] at hq
    refine⟨.inr ⟨by rw [h1];rfl,hq⟩,?_⟩
    rw [cell_of_row w b q cur g.e (0,0) hheap]
    have:q<cur.size:=by rw [hcs];exact Nat.lt_of_lt_of_le hq (Nat.mul_le_mul_right _ hcap)
    simp [List.getD,hq,this]
 ·simp only [VT] at hv
  obtain⟨x,h',q1,-,-,q3⟩:=hv
  rw [hj] at q1
  cases q1
  obtain⟨b',m,cap',off,cp,e1,e2,ecp,e3,e4⟩:=q3 rfl
  rcases hs.block with⟨h1,h2⟩ | ⟨b,cap,cur,h1,hheap,hcap,hcm,hcs,hf,-⟩
  ·rw [h1] at e1;cases e1
  ·rw [h1] at e1
   simp only [Value.slice.injEq,Option.some.injEq,Addr.mk.injEq,and_true] at e1
   obtain⟨rfl,rfl,rfl⟩:=e1
   refine .list ?_
   rw [e3]
   have hl:(((c.2.drop lo).take n).map (c.1.cells E)).length=n:=by simp;omega
   have hgd:∀i,i<n→(((c.2.drop lo).take n).map (c.1.cells E)).getD i []=(c.2.map (c.1.cells E)).getD (lo+i) []:=fun i hi=>by
    simp [List.getD,hi]
   have:=VD.slice (w:=w) (pr:=pr') b off cp (c.1.size E) (((c.2.drop lo).take n).map (c.1.cells E)) (fun i l=>cur.toList.getD ((lo+i) * g.k+l) undef) (by rw [hl];omega) (fun i hi=>?_) (fun i l hi hll=>?_) (fun i l hi hll=>?_)
   ·rw [hl] at this;exact this
   ·rw [hl] at hi
    rw [hgd i hi,←hk]
    exact hf.2.1 _ (by simp;omega)
   ·rw [hl] at hi
    have hoff:off=lo * c.1.size E:=by rcases e4 with e4 | e4;omega;exact e4
    rw [←hk] at hll hoff ⊢
    have hidx:(lo+i) * g.k+l<c.2.length * g.k:=idx_lt (by omega) hll
    have e5:off+i * g.k+l=(lo+i) * g.k+l:=by rw [hoff,Nat.add_mul]
    rw [e5]
    refine⟨.inr ⟨by rw [h1];rfl,hidx⟩,?_⟩
    rw [cell_of_row w b _ cur g.e (0,0) hheap]
    have:(lo+i) * g.k+l<cur.size:=by rw [hcs];exact Nat.lt_of_lt_of_le hidx (Nat.mul_le_mul_right _ hcap)
    simp [List.getD,this]
   ·rw [hl] at hi
    rw [hgd i hi]
    rw [←hk] at hll
    have h9:=(hf.mono hgo.pr hgo.cells).2.2 (lo+i) l (by simp;omega) hll
    have hidx:(lo+i) * g.k+l<c.2.length * g.k:=idx_lt (by omega) hll
    have e6:(cur.toList.take (c.2.length * g.k)).getD ((lo+i) * g.k+l) undef=cur.toList.getD ((lo+i) * g.k+l) undef:=by
     simp only [List.getD]
     rw [List.getElem?_take,if_pos hidx]
    rw [e6] at h9
    exact h9
theorem Flat.take {pr:Nat→Nat→Prop} {k:Nat} {L:List Value} {es:List (List DV)} (h:Flat w pr k L es) {i:Nat} (hi:i≤es.length):Flat w pr k (L.take (i * k)) (es.take i):=by
 have hik:i * k≤L.length:=by rw [h.1];exact Nat.mul_le_mul_right k hi
 have hl:(es.take i).length=i:=by simp;omega
 refine⟨by rw [List.length_take,hl];omega,fun j hj=>?_,fun j l hj hl'=>?_⟩
 ·rw [hl] at hj
  have:(es.take i).getD j []=es.getD j []:=by simp [List.getD,List.getElem?_take,hj]
  rw [this];exact h.2.1 j (by omega)
 ·rw [hl] at hj
  have e1:(es.take i).getD j []=es.getD j []:=by simp [List.getD,List.getElem?_take,hj]
  have e2:(L.take (i * k)).getD (j * k+l) undef=L.getD (j * k+l) undef:=by
   have:=idx_lt hj hl'
   simp only [List.getD]
   rw [List.getElem?_take,if_pos this]
  rw [e1,e2]
  exact h.2.2 j l (by omega) hl'
theorem Flat.drop {pr:Nat→Nat→Prop} {k:Nat} {L:List Value} {es:List (List DV)} (h:Flat w pr k L es) {i:Nat} (hi:i≤es.length):Flat w pr k (L.drop (i * k)) (es.drop i):=by
 have hl:(es.drop i).length=es.length - i:=by simp
 have hgd:∀j,(es.drop i).getD j []=es.getD (i+j) []:=fun j=>by simp [List.getD,List.getElem?_drop]
 refine⟨by rw [List.length_drop,hl,h.1,Nat.sub_mul],fun j hj=>?_,fun j l hj hl'=>?_⟩
 ·rw [hl] at hj
  rw [hgd];exact h.2.1 _ (by omega)
 ·rw [hl] at hj
  rw [hgd]
  have e2:(L.drop (i * k)).getD (j * k+l) undef=L.getD ((i+j) * k+l) undef:=by
   simp only [List.getD]
   rw [List.getElem?_drop,Nat.add_mul,Nat.add_assoc]
  rw [e2]
  exact h.2.2 (i+j) l (by omega) hl'
theorem Flat.single {pr:Nat→Nat→Prop} {k:Nat} {us:List Value} {e:List DV} (h:LD w pr us e) (hk:us.length=k):Flat w pr k us [e]:=by
 have hl:=h.length
 have:=Flat.of_rows (w:=w) (pr:=pr) (k:=k) (rows:=[us]) (es:=[e]) rfl (fun j hj=>by simp at hj;subst hj;simp;omega) (fun j hj=>by simp at hj;subst hj;simpa using h)
 simpa using this
theorem Flat.splice {pr:Nat→Nat→Prop} {k:Nat} {L news:List Value} {es fs:List (List DV)} (h:Flat w pr k L es) (h':Flat w pr k news fs) {p:Nat} (hp:p+fs.length≤es.length) :
  Flat w pr k (L.take (p * k)++news++L.drop (p * k+news.length)) (es.take p++fs++es.drop (p+fs.length)):=by
 have h1:=h.take (i:=p) (by omega)
 have h2:=h.drop (i:=p+fs.length) (by omega)
 have e:p * k+news.length=(p+fs.length) * k:=by rw [h'.1,Nat.add_mul]
 rw [e]
 exact (h1.append h').append h2
theorem take_splice (cur news:List Value) {o n:Nat} (h:o+news.length≤n) (hn:n≤cur.length):(cur.take o++news++cur.drop (o+news.length)).take n=(cur.take n).take o++news++(cur.take n).drop (o+news.length):=by
 have h1:(cur.take o++news).length=o+news.length:=by simp;omega
 rw [List.take_append,List.take_of_length_le (l:=cur.take o++news) (by omega),h1,List.take_take,show min o n=o by omega,List.drop_take]
theorem set_self {α:Type} {l:List α} {j:Nat} {x:α} (h:l[j]? = some x):l.set j x=l:=by
 obtain⟨h1,h2⟩:=List.getElem?_eq_some_iff.1 h
 rw [←h2,List.set_getElem_self]
theorem Rel.writeSoft (hr:Rel E w0 G0 st a w G) {j:Nat} {g:TGrow} {c:Cn E} (hg:st.g[j]? = some g) (hc:cGet st.c j=some c) {b cap:Nat} {cur new:Array Value} (hj:G.g[j]? = some (g,.slice (some ⟨b,0,none⟩) c.2.length cap))
  (hheap:w.heap[b]? = some (.cells cur g.e (0,0))) (hsz:new.size=cur.size) {xs':List (c.1.den E.D)} (hl:xs'.length=c.2.length) (hf:Flat w G.pr g.k (new.toList.take (xs'.length * g.k)) (xs'.map (c.1.cells E))) :
  Rel E w0 G0 { st with c:=(j,⟨c.1,xs'⟩)::cDrop j st.c } a (w.setRow b new) G:=by
 obtain⟨h,hj',hs,-⟩:=hr.soft hg hc
 rw [hj] at hj'
 cases hj'
 rcases hs.block with⟨h1,-⟩ | ⟨b',cap',cur',h1,hheap',hcap,hcm,hcs,hf0,hnp⟩
 ·cases h1
 simp only [Value.slice.injEq,Option.some.injEq,Addr.mk.injEq,and_true,true_and] at h1
 obtain⟨rfl,rfl⟩:=h1
 rw [hheap] at hheap'
 cases hheap'
 obtain⟨n0,xs0,ho0,hz0,hb0⟩:=hr.boxes.grow j g _ hj
 have hbb:=hb0 b rfl
 have hnew:(w.setRow b new).heap[b]? = some (.cells new g.e (0,0)):=setRow_heap w b cur _ g.e _ hheap
 have hoth:∀b',b'≠b→(w.setRow b new).heap[b']? = w.heap[b']?:=fun b' hb'=>setRow_other w b b' _ hb'
 have hown:(w.setRow b new).ownsRow 0 g.e g.k (.slice (some ⟨b,0,none⟩) c.2.length cap) c.2.length (new.toList.take (c.2.length * g.k)):=by
  refine⟨?_,.inr ⟨b,cap,new,rfl,Nat.zero_le _,hnew,hcap,hcm,by rw [hsz];exact hcs,rfl⟩⟩
  rw [List.length_take,Array.length_toList,hsz,hcs]
  exact Nat.min_eq_left (Nat.mul_le_mul_right _ hcap)
 have hset:G.g.set j (g,.slice (some ⟨b,0,none⟩) c.2.length cap)=G.g:=set_self hj
 have hcells:∀b' o v,G.pr b' o→w.cell? ⟨b',o,none⟩=some v→(w.setRow b new).cell? ⟨b',o,none⟩=some v:=fun b' o v hp hv=>by
  have:b'≠b:=fun e=>by subst e;exact hnp o hp
  rw [World.cell?_of_block (w:=w) (w':=w.setRow b new) (hoth b' this)]
  exact hv
 have key:=hr.setRow (x':=g) (hd':=.slice (some ⟨b,0,none⟩) c.2.length cap) (cs:=(j,⟨c.1,xs'⟩)::cDrop j st.c) hj (Nat.le_refl _) (fun _=>rfl) (w':=w.setRow b new) (by simp) rfl rfl rfl
  (fun b' _ hne=>hoth b' (fun e=>hne (by rw [e];rfl))) hcells G.pr (fun _ _ h=>h) (fun _ _ h=>.inl h)
  ⟨c.2.length,_,hown,hz0,fun b' hb'=>by cases hb';exact⟨by simpa using hbb.1,hbb.2.1,fun o _ hp=>hnp o hp⟩⟩ (fun _ h=>.inr h) (fun hg'=>?_)
 ·rw [hset,set_self hg] at key
  exact key
 ·intro i c' hm
  rcases List.mem_cons.1 hm with e | hm
  ·cases e
   refine⟨g,_,by rw [hset];exact hj,hs.1,hs.2.1,⟨_,by rw [hl];exact hown,?_⟩,fun b' hb' o hp=>by cases hb';exact hnp o hp⟩
   rw [←hl]
   exact hf.mono hg'.pr hg'.cells
  ·obtain⟨hm,hne⟩:=cDrop_mem hm
   obtain⟨x,hd,h1,h2⟩:=hr.softs i c' hm
   refine⟨x,hd,by rw [hset];exact h1,h2.keep rfl rfl hg'.pr hg'.cells fun b' hb'=>⟨hoth b' (fun e=>?_),fun o hp=>hp⟩⟩
   subst e
   exact hne (hr.boxes.apart i j x hd g _ b' h1 hj hb' rfl)
def evalS (P:Program) (st:TS E):Op→Option (Bool × TV E)
 | .indexAddr t x ix=>match tinfo P t,st.ev ix with
  | some ⟨.slice e,_,_,_⟩,.dat (.int _) n=>match tinfo P e,st.ev x with
   | some i,.gso j ver=>match st.g[j]?,cGet st.c j with
    | some g,some c=>some (Nat.beq g.ver ver&&(Nat.beq i.size (c.1.size E)&&(decide (0≤n)&&decide (n<(c.2.length:Int)))),.rptr j ver (c.1.size E) (Int.toNat n) 0)
    | _,_=>none
   | some i,.gsb j ver k lo m=>match st.g[j]? with
    | some g=>some (Nat.beq g.ver ver&&(Nat.beq i.size k&&(decide (0≤n)&&decide (n<(m:Int)))),.rptr j ver k (lo+Int.toNat n) 0)
    | none=>none
   | _,_=>none
  | _,_=>none
 | .fieldAddr s x f=>match tinfo P s,st.ev x with
  | some ⟨.struct fs,_,_,_⟩,.rptr j ver k i off=>match fs[f]? with
   | some fd=>match tinfo P fd.type,st.g[j]? with
    | some fi,some g=>some (!(Nat.beq fi.size 0)&&Nat.beq g.ver ver,.rptr j ver k i (off+fd.offset))
    | _,_=>none
   | none=>none
  | _,_=>none
 | .nilCheck x=>match st.ev x with
  | .rptr j ver k i off=>match st.g[j]? with
   | some g=>some (Nat.beq g.ver ver,.rptr j ver k i off)
   | none=>none
  | _=>none
 | .slice t x (some lo) hi none=>match tinfo P t,st.ev x with
  | some ⟨.slice e,_,_,_⟩,.gso j ver=>match tinfo P e,st.g[j]?,cGet st.c j with
   | some i,some g,some c=>match boundT 0 (some (st.ev lo)),boundT (c.2.length:Int) (hi.map st.ev) with
    | some p,some q=>some (Nat.beq g.ver ver&&(Nat.beq i.size (c.1.size E)&&(Nat.blt 0 c.2.length&&(decide (0≤p)&&(decide (p≤q)&&decide (q≤(c.2.length:Int)))))),.gsb j ver (c.1.size E) (Int.toNat p) (Int.toNat q - Int.toNat p))
    | _,_=>none
   | _,_,_=>none
  | _,_=>none
 | .call c=>match c.callee,c.args.toList,c.argTypes.toList with
  | .builtin .len,[x],[t]=>match tinfo P t,st.ev x with
   | some ⟨.slice _,_,_,_⟩,.gso j ver=>match st.g[j]?,cGet st.c j with
    | some g,some c=>some (Nat.beq g.ver ver,.dat (.int .i64) (c.2.length:Int))
    | _,_=>none
   | some ⟨.slice _,_,_,_⟩,.gsb j ver k lo n=>match st.g[j]? with
    | some g=>some (Nat.beq g.ver ver,.dat (.int .i64) (n:Int))
    | none=>none
   | _,_=>none
  | _,_,_=>none
 | _=>none
theorem Rel.gsb (hr:Rel E w0 G0 st a w G) {j k lo n:Nat} {g:TGrow} (hg:st.g[j]? = some g) {v:Value} (hv:VT E w G (.gsb j g.ver k lo n) v):∃b m cap off cp,G.g[j]? = some (g,.slice (some ⟨b,0,none⟩) m cap)∧lo+n≤m∧n≤cp∧v=.slice (some ⟨b,off,none⟩) n cp∧(n=0∨off=lo * k):=by
 obtain⟨h,hh⟩:=hr.row_at hg
 simp only [VT] at hv
 obtain⟨x,h',q1,-,-,q3⟩:=hv
 rw [hh] at q1
 cases q1
 obtain⟨b,m,cap,off,cp,e1,e2,e5,e3,e4⟩:=q3 rfl
 exact⟨b,m,cap,off,cp,by rw [hh,e1],e2,e5,e3,e4⟩
theorem Rel.rptr (hr:Rel E w0 G0 st a w G) {j k i off:Nat} {g:TGrow} (hg:st.g[j]? = some g) {v:Value} (hv:VT E w G (.rptr j g.ver k i off) v):∃b m cap,G.g[j]? = some (g,.slice (some ⟨b,0,none⟩) m cap)∧i<m∧v=.pointer (some ⟨b,i * k+off,none⟩):=by
 obtain⟨h,hh⟩:=hr.row_at hg
 simp only [VT] at hv
 obtain⟨x,h',q1,-,-,q3⟩:=hv
 rw [hh] at q1
 cases q1
 obtain⟨b,m,cap,e1,e2,e3⟩:=q3 rfl
 exact⟨b,m,cap,by rw [hh,e1],e2,e3⟩
theorem VT_rptr {j k i off:Nat} {g:TGrow} {b m cap:Nat} (hj:G.g[j]? = some (g,.slice (some ⟨b,0,none⟩) m cap)) (hi:i<m):VT E w G (.rptr j g.ver k i off) (.pointer (some ⟨b,i * k+off,none⟩)):=by
 simp only [VT]
 exact⟨g,_,hj,Nat.le_refl _,rfl,fun _=>⟨b,m,cap,rfl,hi,rfl⟩⟩
theorem evalS_sound (hE:E.Ok) (hr:Rel E w0 G0 st a w G) {d:TV E} {cc:Bool} (h:evalS P st o.op=some (cc,d)) (hc:cc=true):Gives P a w G o d:=by
 cases ho:o.op<;>rw [ho] at h<;>simp only [evalS] at h<;>try (cases h;done)
 case indexAddr t x ix =>
  split at h<;>try (cases h;done)
  rename_i e j1 j2 z kd n ht hn
  obtain⟨xt,hxt,hut,-⟩:=tinfo_some ht
  obtain⟨n,hn0⟩:∃m:Int,m=n:=⟨n,rfl⟩
  subst hn0
  have hvi:=hr.ev ix
  rw [hn] at hvi
  have hie:=hvi.int_inv
  split at h<;>try (cases h;done)
  ·rename_i i j ver hi hx
   obtain⟨xe,hxe,hue,hsz,-⟩:=tinfo_some hi
   split at h<;>try (cases h;done)
   rename_i g c hg hcg
   cases h
   simp only [Bool.and_eq_true,decide_eq_true_eq] at hc
   obtain⟨c1,c2,c3,c4⟩:=hc
   have c1:=Nat.eq_of_beq_eq_true c1
   have c2:=Nat.eq_of_beq_eq_true c2
   have c3:(0:Int)≤n:=c3
   have c4:n<(c.2.length:Int):=c4
   subst c1
   obtain⟨hh,hj,hs,hval⟩:=hr.soft hg hcg
   have hv:=hr.ev x
   rw [hx] at hv
   have hve:=hval _ hv
   rcases hs.block with⟨h1,h2⟩ | ⟨b,cap,cur,h1,-⟩
   ·rw [h2] at c4;simp at c4;omega
   rw [h1] at hj hve
   refine gives_v (f:=fun ρ=>Instr.indexAt t (ρ x) (ρ ix)) (by simp [execOp,ho]) ⟨_,VT_rptr (i:=n.toNat) (off:=0) hj (by omega),fun w' hs=>?_⟩
   rw [hve,hie]
   unfold Instr.indexAt asIntOf
   simp only [Sem.run_bind,Sem.run_pure,Result.andThen_ok,run_underlying' hut]
   have h3:(0≤n∧n<((c.2.length:Nat):Int)):=⟨c3,c4⟩
   simp only [h3,and_self,if_true,Sem.run_bind,run_sizeOf' hxe,Result.andThen_ok,Sem.run_pure,add_lit,hsz,c2,Nat.zero_add,Nat.add_zero]
   try rfl
  ·rename_i i j ver k lo m hi hx
   obtain⟨xe,hxe,hue,hsz,-⟩:=tinfo_some hi
   split at h<;>try (cases h;done)
   rename_i g hg
   cases h
   simp only [Bool.and_eq_true,decide_eq_true_eq] at hc
   obtain⟨c1,c2,c3,c4⟩:=hc
   have c1:=Nat.eq_of_beq_eq_true c1
   have c2:=Nat.eq_of_beq_eq_true c2
   have c3:(0:Int)≤n:=c3
   have c4:n<(m:Int):=c4
   subst c1
   have hv:=hr.ev x
   rw [hx] at hv
   obtain⟨b,mm,cap,off,cp,hj,hle,-,hve,hoff⟩:=hr.gsb hg hv
   have hoff:off=lo * k:=by rcases hoff with q | q;omega;exact q
   subst hoff
   refine gives_v (f:=fun ρ=>Instr.indexAt t (ρ x) (ρ ix)) (by simp [execOp,ho]) ⟨_,VT_rptr (i:=lo+n.toNat) (off:=0) hj (by omega),fun w' hs=>?_⟩
   rw [hve,hie]
   unfold Instr.indexAt asIntOf
   simp only [Sem.run_bind,Sem.run_pure,Result.andThen_ok,run_underlying' hut]
   have h3:(0≤n∧n<((m:Nat):Int)):=⟨c3,c4⟩
   simp only [h3,and_self,if_true,Sem.run_bind,run_sizeOf' hxe,Result.andThen_ok,Sem.run_pure,add_lit,hsz,c2,Nat.add_mul,Nat.add_zero]
   try rfl
 case fieldAddr s x f =>
  split at h<;>try (cases h;done)
  rename_i fs j1 j2 z j ver k i off ht hx
  split at h<;>try (cases h;done)
  rename_i fd hf
  split at h<;>try (cases h;done)
  rename_i fi g hi hg
  cases h
  simp only [Bool.and_eq_true,Bool.not_eq_true'] at hc
  obtain⟨c1,c2⟩:=hc
  have c2:=Nat.eq_of_beq_eq_true c2
  have hz:fi.size≠0:=fun e=>by rw [e] at c1;cases c1
  subst c2
  have hv:=hr.ev x
  rw [hx] at hv
  obtain⟨b,m,cap,hj,hlt,hve⟩:=hr.rptr hg hv
  obtain⟨xt,hxt,hut,-⟩:=tinfo_some ht
  obtain⟨xf,hxf,-,hsf,-⟩:=tinfo_some hi
  refine gives_v (f:=fun ρ=>Instr.fieldAt s (ρ x) f) (by simp [execOp,ho]) ⟨_,VT_rptr (i:=i) (off:=off+fd.offset) hj hlt,fun w' hs=>?_⟩
  rw [hve]
  unfold Instr.fieldAt Instr.sureAddr
  simp only [Sem.run_bind,Sem.run_pure,Result.andThen_ok,run_underlying' hut,hf]
  simp [fieldPlace,run_sizeOf' hxf,hsf,hz,add_lit,Nat.add_assoc]
 case nilCheck x =>
  split at h<;>try (cases h;done)
  rename_i j ver k i off hx
  split at h<;>try (cases h;done)
  rename_i g hg
  cases h
  have c1:=Nat.eq_of_beq_eq_true hc
  subst c1
  have hv:=hr.ev x
  rw [hx] at hv
  obtain⟨b,m,cap,hj,hlt,hve⟩:=hr.rptr hg hv
  refine⟨a.eval x,hv,fun w' _=>?_⟩
  simp [execOp,ho,hve]
 case slice t x lo hi mx =>
  cases lo with
  | none=>cases h
  | some lo =>
  cases mx with
  | some _=>cases h
  | none =>
  simp only at h
  split at h<;>try (cases h;done)
  rename_i e j1 j2 z j ver ht hx
  split at h<;>try (cases h;done)
  rename_i i g c hi' hg hcg
  split at h<;>try (cases h;done)
  rename_i p q hp hq
  cases h
  simp only [Bool.and_eq_true,decide_eq_true_eq] at hc
  obtain⟨c1,c2,c3,c4,c5,c6⟩:=hc
  have c1:=Nat.eq_of_beq_eq_true c1
  have c2:=Nat.eq_of_beq_eq_true c2
  have c3:0<c.2.length:=Nat.le_of_ble_eq_true c3
  subst c1
  obtain⟨hh,hj,hs,hval⟩:=hr.soft hg hcg
  have hv:=hr.ev x
  rw [hx] at hv
  have hve:=hval _ hv
  obtain⟨xt,hxt,hut,-⟩:=tinfo_some ht
  obtain⟨xe,hxe,hue,hsz,-⟩:=tinfo_some hi'
  rcases hs.block with⟨h1,h2⟩ | ⟨b,cap,cur,h1,-,hcap,-⟩
  ·rw [h2] at c3;simp at c3
  rw [h1] at hj hve
  refine gives_v (f:=fun ρ=>Instr.sliceAt t (ρ x) ((some lo).map ρ) (hi.map ρ) none) (by simp [execOp,ho]) ⟨.slice (if cap=p.toNat then some ⟨b,0,none⟩ else some ⟨b,p.toNat * c.1.size E,none⟩) (q.toNat - p.toNat) (cap - p.toNat),?_,fun w' hs=>?_⟩
  ·simp only [VT]
   refine⟨g,_,hj,Nat.le_refl _,rfl,fun _=>⟨b,c.2.length,cap,if cap=p.toNat then 0 else p.toNat * c.1.size E,cap - p.toNat,rfl,by omega,by omega,by split<;>rfl,?_⟩⟩
   by_cases hcp:cap=p.toNat
   ·left;omega
   ·right;rw [if_neg hcp]
  ·have hbs:=run_bounds (P:=P) (isS:=true) hcap (bound_inv hr (lo:=some lo) hp) (bound_inv hr hq) c4 c5 c6 w'
   simp only [Option.map_some] at hbs
   rw [hve]
   unfold Instr.sliceAt
   simp only [Sem.run_bind,run_underlying' hut,Result.andThen_ok]
   unfold Instr.slice
   simp only [Sem.run_bind,run_underlying' hut,Result.andThen_ok,hbs,run_sizeOf' hxe,hsz,c2,Sem.run_pure,Option.map_some,add_lit,Nat.zero_add]
 case call c' =>
  split at h<;>try (cases h;done)
  rename_i x t hcl ha hat
  have ha':c'.args=#[x]:=by rw [←Array.toArray_toList (xs:=c'.args),ha]
  have hat':c'.argTypes=#[t]:=by rw [←Array.toArray_toList (xs:=c'.argTypes),hat]
  split at h<;>try (cases h;done)
  ·rename_i e j1 j2 z j ver ht hx
   split at h<;>try (cases h;done)
   rename_i g c hg hcg
   cases h
   have c1:=Nat.eq_of_beq_eq_true hc
   subst c1
   obtain⟨hh,hj,hs,hval⟩:=hr.soft hg hcg
   have hv:=hr.ev x
   rw [hx] at hv
   have hve:=hval _ hv
   have hlen:∃ad cap,hh=.slice ad c.2.length cap:=by
    rcases hs.block with⟨h1,h2⟩ | ⟨b,cap,cur,h1,-⟩
    ·exact⟨_,_,by rw [h1,h2];rfl⟩
    ·exact⟨_,_,h1⟩
   obtain⟨ad,cap,hlen⟩:=hlen
   obtain⟨xt,hxt,hut,-⟩:=tinfo_some ht
   refine⟨_,.int _ _ _ _,fun w' hs=>?_⟩
   unfold execOp
   simp only [ho,resolve,hcl,Sem.run_bind,Sem.run_pure,Result.andThen_ok,invoke,builtin,ha',hat',List.map_toArray,List.map_cons,List.map_nil]
   rw [hve,hlen]
   simp [Builtin.len_,run_underlying' hut,goInt]
  ·rename_i e j1 j2 z j ver k lo n ht hx
   split at h<;>try (cases h;done)
   rename_i g hg
   cases h
   have c1:=Nat.eq_of_beq_eq_true hc
   subst c1
   have hv:=hr.ev x
   rw [hx] at hv
   obtain⟨b,mm,cap,off,cp,hj,hle,-,hve,-⟩:=hr.gsb hg hv
   obtain⟨xt,hxt,hut,-⟩:=tinfo_some ht
   refine⟨_,.int _ _ _ _,fun w' hs=>?_⟩
   unfold execOp
   simp only [ho,resolve,hcl,Sem.run_bind,Sem.run_pure,Result.andThen_ok,invoke,builtin,ha',hat',List.map_toArray,List.map_cons,List.map_nil]
   rw [hve]
   simp [Builtin.len_,run_underlying' hut,goInt]
def evalA1 (P:Program) (ty:TypeId→Option Ty) (st:TS E) (o:Op):Option (Bool × TV E):=match evalA0 P ty st o with
 | some x=>some x
 | none=>evalS P st o
theorem evalA1_sound (hE:E.Ok) (hr:Rel E w0 G0 st a w G) {ty:TypeId→Option Ty} {d:TV E} {c:Bool} (h:evalA1 P ty st o.op=some (c,d)) (hc:c=true):Gives P a w G o d:=by
 unfold evalA1 at h
 split at h
 ·rename_i x hx
  cases h
  exact evalA0_sound hE hr hx hc
 ·exact evalS_sound hE hr h hc
end
end Go.RT
namespace Go.RT
set_option linter.unusedVariables false
variable {E : TEnv}
def srcT (T:Ty) (k:TypeDesc) (d:TV E):Option (List (T.den E.D)) :=
 match k,d with
 | .string,.dat .str l=>if h:T=.int .u8 then some (h▸toInts l) else none
 | .slice _,d=>d.get (.lst T)
 | _,_=>none
def srcB (st:TS E) (T:Ty) (k:TypeDesc) (d:TV E):Option (List (T.den E.D)):=match d with
 | .bsl r off n=>match k,st.H[r]? with
  | .slice _,some (.cells _ cs)=>cond (Nat.beq (T.size E) 1&&(!T.isAgg&&Nat.ble (off+n) cs.length)) (getList T ((cs.drop off).take n)) none
  | _,_=>none
 | d=>srcT T k d
def ptrConvOk (P:Program) (src dst t':TypeId) (n off:Nat):Bool :=
 match P.underlying src,P.underlying dst with
 | some (.pointer t),some .unsafePointer=>match tinfo P t with
  | some i=>!(Nat.beq i.size 0)&&Nat.blt off n
  | none=>false
 | some .unsafePointer,some (.pointer t)=>match tinfo P t with
  | some _=>liesAt P P.depth t' (n / P.cellsOf t') off t 1
  | none=>false
 | _,_=>false
def isU8 (P:Program) (e:TypeId):Bool:=match tinfo P e with
 | some ⟨.int .u8,_,_,_⟩=>true
 | _=>false
def callM (P:Program) (ty:TypeId→Option Ty) (st:TS E) (dst:Option Nat) (c:Call):Option (Bool × TS E) :=
 match c.callee,c.args.toList,c.argTypes.toList with
 | .builtin .append,[x,y],[t,tx]=>match tinfo P t,tinfo P tx with
  | some ⟨.slice e,_,_,_⟩,some ix=>match tinfo P e,ty e with
   | some ie,some T=>match srcB st T ix.kind (st.ev y) with
    | some ys=>match st.ev x with
     | .gsl j ver T' xs=>match st.g[j]? with
      | some g=>if hT:T'=T then
        some (!(softAt st.c j)&&(Nat.beq g.ver ver&&(Nat.beq g.e e&&(Nat.beq g.k ie.size&&(Nat.beq ie.size (T.size E)&&(Nat.blt 0 ie.size&&(Nat.beq ie.zero.cells.size ie.size &&
          (decide (xs.length+ys.length≤9223372036854775807)&&decide ((xs.length+ys.length) * ie.bytes≤140737488355328)))))))),
         { st with t:=setT st.t dst (.gsl j (g.ver+1) T ((hT▸xs:List (T.den E.D))++ys)),g:=st.g.set j { g with ver:=g.ver+1 } })
       else none
      | none=>none
     | .val (.slice none 0 0)=>some (Nat.beq ie.size (T.size E)&&(Nat.blt 0 ie.size&&(Nat.beq ie.zero.cells.size ie.size&&(decide (ys.length≤9223372036854775807)&&decide (ys.length * ie.bytes≤140737488355328)))),
       { st with t:=setT st.t dst (.gsl st.g.length 1 T ys),g:=st.g++[⟨1,e,ie.size⟩] })
     | _=>none
    | none=>none
   | _,_=>none
  | _,_=>none
 | .builtin .unsafeString,[x,y],[pt,it]=>match tinfo P pt,st.ev x,st.ev y with
  | some ⟨.pointer e,_,_,_⟩,.sdp j ver xs,.dat (.int .i64) n=>match st.g[j]? with
   | some g=>some (!(softAt st.c j)&&(Nat.beq (P.cellsOf e) 1&&(Nat.beq g.ver ver&&(Nat.beq g.e e&&(Nat.beq g.k 1&&(decide (n=(xs.length:Int))&&(byteOk xs&&decide (xs.length≤9223372036854775807))))))),
     { st with t:=setT st.t dst (.dat .str (toBytes xs)),g:=st.g.set j { g with ver:=g.ver+1 } })
   | none=>none
  | _,_,_=>none
 | .builtin .len,[x],[t]=>match tinfo P t,st.ev x with
  | some ⟨.map _ _,_,_,_⟩,.mref r=>match st.H[r]? with
   | some (.map _ _ m)=>some (true,{ st with t:=setT st.t dst (.dat (.int .i64) (m.length:Int)) })
   | _=>none
  | _,_=>none
 | _,_,_=>none
def memT0 (P:Program) (ty:TypeId→Option Ty) (st:TS E) (dst:Option Nat):Op→Option (Bool × TS E)
 | .alloc t=>match tinfo P t with
  | some i=>some (i.zero.cells.toList.all (·.oneCell'),{ st with t:=setT st.t dst (.ptr st.H.length 0),H:=st.H++[.cells t (i.zero.cells.toList.map TV.ofV)] })
  | none=>none
 | .box t x=>match (st.ev x).cellsT with
  | some cs=>some (true,{ st with t:=setT st.t dst (.ptr st.H.length 0),H:=st.H++[.cells t cs] })
  | none=>none
 | .store t x y=>match tinfo P t,st.ev x,(st.ev y).cellsT with
  | some i,.ptr r off,some ds=>match st.H[r]? with
   | some (.cells t' cs)=>some (Nat.beq ds.length i.size&&Nat.ble (off+i.size) cs.length,{ st with t:=setT st.t dst .any,H:=st.H.set r (.cells t' (cs.take off++ds++cs.drop (off+ds.length))),d:=r::st.d })
   | _=>none
  | _,_,_=>none
 | .buildSlice t len parts=>match tinfo P t with
  | some ⟨.slice e,_,_,_⟩=>match tinfo P e,ty e with
   | some ie,some T=>match getList T (parts.toList.map fun p=>st.ev p.2) with
    | some xs=>cond (Nat.beq len 0)
      (cond (E.zc e) (some (parts.toList.isEmpty&&Nat.beq ie.size (T.size E),{ st with t:=setT st.t dst (.gsl st.g.length 0 T []),g:=st.g++[⟨0,e,ie.size⟩] }))
       (some (parts.toList.isEmpty,{ st with t:=setT st.t dst (.dat (.lst T) []) })))
      (some (decide (parts.toList.map (·.1)=List.range len)&&(Nat.ble (len * ie.size) 16777216&&(Nat.blt 0 ie.size&&Nat.beq ie.size (T.size E))),
       { st with t:=setT st.t dst (.gsl st.g.length 0 T xs),g:=st.g++[⟨0,e,ie.size⟩] }))
    | none=>none
   | _,_=>none
  | _=>none
 | .call c=>callM P ty st dst c
 | .convert src dt x=>match st.ev x with
  | .ptr r off=>match st.H[r]? with
   | some (.cells t' cs)=>some (ptrConvOk P src dt t' cs.length off,{ st with t:=setT st.t dst (.ptr r off) })
   | _=>none
  | d=>match d.asList,tinfo P src,tinfo P dt with
   | some ⟨.int .u8,xs⟩,some ⟨.slice e,_,_,_⟩,some ⟨.string,_,_,_⟩=>some (isU8 P e,{ st with t:=setT st.t dst (.dat .str (toBytes xs)) })
   | _,_,_=>none
 | .makeMap t none=>match tinfo P t with
  | some ⟨.map k e,_,_,_⟩=>match ty k,ty e with
   | some kt,some vt=>some (true,{ st with t:=setT st.t dst (.mref st.H.length),H:=st.H++[.map kt vt []] })
   | _,_=>none
  | _=>none
 | .mapUpdate t x y z=>match tinfo P t,st.ev x with
  | some ⟨.map k e,_,_,_⟩,.mref r=>match st.H[r]?,tinfo P k with
   | some (.map kt vt m),some ik=>match (st.ev y).get kt,(st.ev z).get vt with
    | some kk,some vv=>some (keyB E P k kt ik.kind,{ st with t:=setT st.t dst .any,H:=st.H.set r (.map kt vt (mset (kt.keq E) m kk vv)),d:=r::st.d })
    | _,_=>none
   | _,_=>none
  | _,_=>none
 | .lookup t x y ok=>match tinfo P t,st.ev x with
  | some ⟨.map k e,_,_,_⟩,.mref r=>match st.H[r]?,tinfo P k,tinfo P e with
   | some (.map kt vt m),some ik,some ie=>match (st.ev y).get kt,(zeroTV E (some vt) ie.zero).get vt with
    | some kk,some z=>some (keyB E P k kt ik.kind&&ie.zero.cells.toList.all (·.oneCell'),
      { st with t:=setT st.t dst (cond ok (.tuple [.dat vt (mget (kt.keq E) m kk z),.dat .bool (mhas (kt.keq E) m kk)]) (.dat vt (mget (kt.keq E) m kk z))) })
    | _,_=>none
   | _,_,_=>none
  | _,_=>none
 | _=>none
section
variable {P : Program} {w0 w w' : World} {G0 G G' : Ghost} {st : TS E} {a : Act} {o : Oper}
theorem srcT_ok (hr:Rel E w0 G0 st a w G) {y:Operand} {tx:TypeId} {ix:TI} (htx:tinfo P tx=some ix) {T:Ty} (hk0:0<T.size E) {ys:List (T.den E.D)} (h:srcT T ix.kind (st.ev y)=some ys) :
  ∃news,Src P (T.size E) tx (a.eval y) ys.length news w∧Flat w G.pr (T.size E) news (ys.map (T.cells E)):=by
 unfold srcT at h
 split at h
 ·rename_i l hk hd
  split at h
  ·rename_i hT
   subst hT
   cases h
   obtain⟨news,h1,h2⟩:=src_string hr htx hk hd
   exact⟨news,by simpa [toInts,Ty.size] using h1,h2⟩
  ·cases h
 ·rename_i e' hk
  have hv:=TV.get_vt h (hr.ev y)
  exact src_list hr htx hk hk0 (hv.atom rfl).of_single
 ·cases h
theorem flat_get {w:World} {G:Ghost} {T:Ty} (h1:T.size E=1) (ha:T.isAgg=false):∀ {ds:List (TV E)} {us:List Value} {xs:List (T.den E.D)},getList T ds=some xs→VTs E w G ds us→Flat w G.pr 1 us (xs.map (T.cells E))
 | [],us,xs,h,hv=>by
  simp only [getList] at h
  cases h
  simp only [VTs] at hv
  subst hv
  exact Flat.nil
 | d::ds,us,xs,h,hv=>by
  simp only [getList] at h
  split at h<;>try (cases h;done)
  rename_i x xs' e1 e2
  cases h
  obtain⟨u,us',rfl,q1,q2⟩:=hv.cons_inv
  have hx:=(TV.get_vt e1 q1).atom ha
  have hl:(T.cells E x).length=1:=by have:=hx.length;simpa using this.symm
  have ih:=flat_get h1 ha e2 q2
  have h0:Flat w G.pr 1 [u] [T.cells E x]:=⟨by simp,fun j hj=>by
   have:j=0:=by simpa using hj
   subst this
   simpa using hl,fun j l hj hl'=>by
   have:j=0:=by simpa using hj
   subst this
   have:l=0:=by omega
   subst this
   generalize T.cells E x=cc at hx hl
   match cc,hl with
   | [c],_=>simpa using hx.1⟩
  exact h0.append ih
theorem srcB_ok (hr:Rel E w0 G0 st a w G) {y:Operand} {tx:TypeId} {ix:TI} (htx:tinfo P tx=some ix) {T:Ty} (hk0:0<T.size E) {ys:List (T.den E.D)} (h:srcB st T ix.kind (st.ev y)=some ys) :
  ∃news,Src P (T.size E) tx (a.eval y) ys.length news w∧Flat w G.pr (T.size E) news (ys.map (T.cells E)):=by
 unfold srcB at h
 split at h
 ·rename_i r off n hd
  split at h<;>try (cases h;done)
  rename_i e' t cs hk hb
  cases hc:(Nat.beq (T.size E) 1&&(!T.isAgg&&Nat.ble (off+n) cs.length))<;>rw [hc] at h<;>simp only [cond_true,cond_false] at h
  ·cases h
  simp only [Bool.and_eq_true,Bool.not_eq_true'] at hc
  obtain⟨c1,c2,c3⟩:=hc
  have c1:=Nat.eq_of_beq_eq_true c1
  have c3:=Nat.le_of_ble_eq_true c3
  have hv:=hr.ev y
  rw [hd] at hv
  simp only [VT] at hv
  obtain⟨b,hve,hat⟩:=hv
  obtain⟨vs,hheap,hone,hvs⟩:=hr.box hat hb
  obtain⟨xt,hxt,hut,-⟩:=tinfo_some htx
  rw [hk] at hut
  have hw:=(hvs.drop off).take n
  have hlen:vs.size=cs.length:=by simpa using hvs.length
  have hyl:ys.length=n:=by rw [getList_length h];simp;omega
  have hf:=flat_get c1 c2 h hw
  refine⟨(vs.toList.drop off).take n,?_,by rw [c1];exact hf⟩
  rw [hve,hyl,c1]
  refine Src.ofSlice w hut _ _ _ _ (by simp;omega) (fun j u hu=>?_) (fun u hu=>hone u ?_)
  ·have hj:j<n:=by have:=(List.getElem?_eq_some_iff.1 hu).1;simp at this;omega
   rw [add_lit]
   rw [List.getElem?_take_of_lt hj,List.getElem?_drop] at hu
   simp only [World.cell?,hheap]
   simpa using hu
  ·have:=List.mem_of_mem_drop (List.mem_of_mem_take hu)
   simpa using this
 ·exact srcT_ok hr htx hk0 h
theorem does_buildSlice0 (hr:Rel E w0 G0 st a w G) {t e:TypeId} {parts:Array (Nat × Operand)} {j1 j2:Nat} {z:Value} {ie:TI} (ho:o.op=.buildSlice t 0 parts) (ht:tinfo P t=some ⟨.slice e,j1,j2,z⟩) (hi:tinfo P e=some ie) (hp:parts.toList=[]) (T:Ty) :
  Does P w0 G0 a w o { st with t:=setT st.t o.dst (.dat (.lst T) []) }:=by
 obtain⟨xt,hxt,hut,-⟩:=tinfo_some ht
 obtain⟨xe,hxe,hue,hsz,-⟩:=tinfo_some hi
 have hp':parts=#[]:=by rw [←Array.toArray_toList (xs:=parts),hp]
 have hG:=hr.grow (Same.alloc w (.cells #[] e)) rfl rfl rfl G.pr (fun _ _ h=>h) (fun _ _ _ h=>h) (fun b o hp=>Nat.lt_of_lt_of_le (hr.boxes.prok b o hp).1 (by simp))
 refine⟨.value (.slice (some ⟨w.heap.size,0,none⟩) 0 0),_,w.alloc (.cells #[] e),_,?_,.inl rfl,hG.put (d:=.dat (.lst T) []) (.list (.nils _ _)) o.dst⟩
 simp only [execOp,ho,Instr.buildSlice,Sem.run_bind,run_underlying' hut,Result.andThen_ok,run_sizeOf' hxe,hsz,hp']
 simp [newRow,Instr.fill]
 congr 2
 apply Array.ext<;>simp
theorem does_buildSliceZ (hr:Rel E w0 G0 st a w G) {t e:TypeId} {parts:Array (Nat × Operand)} {j1 j2:Nat} {z:Value} {ie:TI} (ho:o.op=.buildSlice t 0 parts) (ht:tinfo P t=some ⟨.slice e,j1,j2,z⟩) (hi:tinfo P e=some ie) (hp:parts.toList=[]) (hz:E.zc e=true) (T:Ty) (hk:ie.size=T.size E) :
  Does P w0 G0 a w o { st with t:=setT st.t o.dst (.gsl st.g.length 0 T []),g:=st.g++[⟨0,e,ie.size⟩] }:=by
 obtain⟨xt,hxt,hut,-⟩:=tinfo_some ht
 obtain⟨xe,hxe,hue,hsz,-⟩:=tinfo_some hi
 have hp':parts=#[]:=by rw [←Array.toArray_toList (xs:=parts),hp]
 have hG:=hr.zeroRow (e:=e) (k:=ie.size) hz
 refine⟨.value (.slice (some ⟨w.heap.size,0,none⟩) 0 0),_,w.alloc (.cells #[] e),_,?_,.inl rfl,hG.put (d:=.gsl st.g.length 0 T []) ?_ o.dst⟩
 ·simp only [execOp,ho,Instr.buildSlice,Sem.run_bind,run_underlying' hut,Result.andThen_ok,run_sizeOf' hxe,hsz,hp']
  simp [newRow,Instr.fill]
  congr 2
  apply Array.ext<;>simp
 ·simp only [VT]
  exact⟨.nils _ _,⟨0,e,ie.size⟩,.slice (some ⟨w.heap.size,0,none⟩) 0 0,by rw [←hr.rows_len];simp,Nat.le_refl _,fun _=>rfl⟩
theorem memT0_sound (hE:E.Ok) (hr:Rel E w0 G0 st a w G) {ty:TypeId→Option Ty} {st':TS E} {c:Bool} (h:memT0 P ty st o.dst o.op=some (c,st')) (hc:c=true):Does P w0 G0 a w o st':=by
 cases ho:o.op<;>rw [ho] at h<;>simp only [memT0] at h<;>try (cases h;done)
 case alloc t =>
  split at h<;>try (cases h;done)
  rename_i i hi
  cases h
  exact does_alloc hr ho hi hc
 case box t x =>
  split at h<;>try (cases h;done)
  rename_i cs hcs
  cases h
  exact does_box hE hr ho hcs
 case store t x y =>
  split at h<;>try (cases h;done)
  rename_i i r off ds hi hd hds
  split at h<;>try (cases h;done)
  rename_i t' cs hb
  cases h
  rw [Bool.and_eq_true] at hc
  exact does_store hE hr ho hi hd hb hds (Nat.eq_of_beq_eq_true hc.1) (Nat.le_of_ble_eq_true hc.2)
 case buildSlice t len parts =>
  split at h<;>try (cases h;done)
  rename_i e j1 j2 z ht
  split at h<;>try (cases h;done)
  rename_i ie T hi hT
  split at h<;>try (cases h;done)
  rename_i xs hx
  cases hl:Nat.beq len 0<;>rw [hl] at h<;>simp only [cond_true,cond_false] at h
  ·cases h
   simp only [Bool.and_eq_true,decide_eq_true_eq] at hc
   have h0:len≠0:=fun e=>by subst e;cases hl
   exact does_buildSlice hE hr ho ht hi hc.1 (Nat.le_of_ble_eq_true hc.2.1) (Nat.le_of_ble_eq_true hc.2.2.1) (by omega) (Nat.eq_of_beq_eq_true hc.2.2.2) hx
  ·obtain rfl:=Nat.eq_of_beq_eq_true hl
   cases hz:E.zc e<;>rw [hz] at h<;>simp only [cond_true,cond_false] at h<;>cases h
   ·exact does_buildSlice0 hr ho ht hi (by simpa using hc) T
   ·rw [Bool.and_eq_true] at hc
    exact does_buildSliceZ hr ho ht hi (by simpa using hc.1) hz T (Nat.eq_of_beq_eq_true hc.2)
 case convert src dt x =>
  split at h
  ·rename_i r off hd
   split at h<;>try (cases h;done)
   rename_i t' cs hb
   cases h
   refine does_ptrConv hr ho hd hb ?_
   unfold ptrConvOk at hc
   split at hc<;>try (cases hc;done)
   ·rename_i t hs hdt
    split at hc<;>try (cases hc;done)
    rename_i i hi
    simp only [Bool.and_eq_true,Bool.not_eq_true'] at hc
    exact .inl ⟨t,i,hs,hdt,hi,fun e=>(by rw [e] at hc;exact absurd hc.1 (by decide)),Nat.le_of_ble_eq_true hc.2⟩
   ·rename_i t hs hdt
    split at hc<;>try (cases hc;done)
    rename_i i hi
    exact .inr ⟨t,i,hs,hdt,hi,hc⟩
  ·split at h<;>try (cases h;done)
   rename_i xs e j1 j2 z1 j3 j4 z2 hd hs hdt
   cases h
   unfold isU8 at hc
   split at hc<;>try (cases hc;done)
   rename_i j5 j6 z3 he
   exact does_bytesToString hr ho hs hdt he (TV.asList_ok hd)
 case makeMap t res =>
  cases res with
  | some x=>simp at h
  | none =>
   simp only at h
   split at h<;>try (cases h;done)
   split at h<;>try (cases h;done)
   cases h
   exact does_makeMap hr ho _ _
 case mapUpdate t x y z =>
  split at h<;>try (cases h;done)
  rename_i k e j1 j2 zz r hm hx
  split at h<;>try (cases h;done)
  rename_i kt vt m ik hb hk
  split at h<;>try (cases h;done)
  rename_i kk vv hy hz
  cases h
  exact does_mapUpdate hE hr ho hm hk hc hx hb hy hz
 case lookup t x y ok =>
  split at h<;>try (cases h;done)
  rename_i k e j1 j2 zz r hm hx
  split at h<;>try (cases h;done)
  rename_i kt vt m ik ie hb hk he
  split at h<;>try (cases h;done)
  rename_i kk z hy hz
  cases h
  rw [Bool.and_eq_true] at hc
  exact does_lookup hE hr ho hm hk he hc.1 hc.2 hx hb hy hz
 case call c' =>
  unfold callM at h
  split at h<;>try (cases h;done)
  ·rename_i x y t tx hcl ha hat
   split at h<;>try (cases h;done)
   rename_i e j1 j2 z ix ht htx
   split at h<;>try (cases h;done)
   rename_i ie T hi hT
   split at h<;>try (cases h;done)
   rename_i ys hys
   split at h<;>try (cases h;done)
   ·rename_i j ver T' xs hx
    split at h<;>try (cases h;done)
    rename_i g hg
    split at h<;>try (cases h;done)
    rename_i hTT
    subst hTT
    cases h
    simp only [Bool.and_eq_true,decide_eq_true_eq] at hc
    obtain⟨c0,c1,c2,c3,c4,c5,c6,c7,c8⟩:=hc
    have c0:=softAt_not (by simpa using c0)
    have c4:=Nat.eq_of_beq_eq_true c4
    have c5:0<ie.size:=Nat.le_of_ble_eq_true c5
    obtain⟨news,q1,q2⟩:=srcB_ok hr htx (by rw [←c4];exact c5) hys
    rw [←c4] at q1 q2
    exact does_append hE hr ho hcl ha hat ht hi hx hg c0 (Nat.eq_of_beq_eq_true c1) (Nat.eq_of_beq_eq_true c2) (Nat.eq_of_beq_eq_true c3) c4 c5 (Nat.eq_of_beq_eq_true c6) c7 c8 q1 q2
   ·rename_i hx
    cases h
    simp only [Bool.and_eq_true,decide_eq_true_eq] at hc
    obtain⟨c4,c5,c6,c7,c8⟩:=hc
    have c4:=Nat.eq_of_beq_eq_true c4
    have c5:0<ie.size:=Nat.le_of_ble_eq_true c5
    obtain⟨news,q1,q2⟩:=srcB_ok hr htx (by rw [←c4];exact c5) hys
    rw [←c4] at q1 q2
    exact does_appendNil hE hr ho hcl ha hat ht hi hx c4 c5 (Nat.eq_of_beq_eq_true c6) c7 c8 q1 q2
  ·rename_i x y pt it hcl ha hat
   split at h<;>try (cases h;done)
   rename_i e j1 j2 z j ver xs n hp hx hy
   split at h<;>try (cases h;done)
   rename_i g hg
   cases h
   simp only [Bool.and_eq_true,decide_eq_true_eq] at hc
   obtain⟨c0,c1,c2,c3,c4,c5,c6,c7⟩:=hc
   have c0:=softAt_not (by simpa using c0)
   exact does_unsafeString (j3:=0) (j4:=0) (z2:=undef) hr ho hcl ha hat hp (Nat.eq_of_beq_eq_true c1) hx hg c0 (Nat.eq_of_beq_eq_true c2) (Nat.eq_of_beq_eq_true c3) (Nat.eq_of_beq_eq_true c4) hy c5 c6 c7
  ·rename_i x t hcl ha hat
   split at h<;>try (cases h;done)
   rename_i k e j1 j2 z r hm hx
   split at h<;>try (cases h;done)
   rename_i kt vt m hb
   cases h
   exact does_mapLen hr ho hcl ha hat hm hx hb
end
end Go.RT
