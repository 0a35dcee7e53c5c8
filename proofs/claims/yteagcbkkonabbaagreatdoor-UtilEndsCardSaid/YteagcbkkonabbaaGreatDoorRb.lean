import Derived.Test.YteagcbkkonabbaaGreatDoorRa
set_option linter.all false
namespace Go.RT
set_option linter.unusedVariables false
variable {E : TEnv}
section
variable {P : Program} {w0 : World} {G0 : Ghost} {st : TS E} {a : Act} {w : World} {G : Ghost} {o : Oper}
theorem getD_eq {vs:List Value} {l:Nat} {u:Value} (h:vs[l]? = some u):vs.getD l undef=u:=by simp [List.getD,h]
theorem run_load_row {t:TypeId} {i:TI} (ht:tinfo P t=some i) {b o' off:Nat} {vs:List Value} (hc:∀(l:Nat) u,vs[l]? = some u→w.cell? ⟨b,o'+l,none⟩=some u)
  {d:TV E} (hp:Part E w G vs i.isAgg i.size off d):∃v,VT E w G d v∧∀w',Same w w'→(Instr.loadAt t (.pointer (some ⟨b,o'+off,none⟩))).run P w'=.ok v w':=by
 have hc':∀l,l<vs.length→w.cell? ⟨b,o'+l,none⟩=some (vs.getD l undef):=fun l hl=>by
  have:=List.getElem?_eq_getElem hl
  rw [getD_eq this];exact hc l _ this
 unfold Part at hp
 cases ha:i.isAgg<;>rw [ha] at hp<;>simp only [cond_true,cond_false] at hp
 ·obtain⟨u,hu,hv⟩:=hp
  refine⟨u,hv,fun w' hs=>?_⟩
  have hl:=(List.getElem?_eq_some_iff.1 hu).1
  rw [run_load_part ht b o' vs.length (fun l=>vs.getD l undef) hc' off (by rw [ha];exact hl) w' hs,ha]
  simp only [cond_false,getD_eq hu]
 ·obtain⟨hl,hv⟩:=hp
  refine⟨_,hv,fun w' hs=>?_⟩
  rw [run_load_part ht b o' vs.length (fun l=>vs.getD l undef) hc' off (by rw [ha];exact hl) w' hs,ha]
  simp only [cond_true]
  congr 3
  apply List.ext_getElem
  ·simp;omega
  ·intro n h1 h2
   simp at h1 h2
   simp [List.getD,show off+n<vs.length by omega]
theorem gives_load_cel (hE:E.Ok) (hr:Rel E w0 G0 st a w G) {t:TypeId} {x:Operand} {i:TI} (ho:o.op=.load t x) (ht:tinfo P t=some i)
  {T:Ty} {y:T.den E.D} {off:Nat} (hd:st.ev x=.cel T y off) {d:TV E} (hp:TV.part T y i.isAgg i.size off=some d):Gives P a w G o d:=by
 have hv:=hr.ev x
 rw [hd] at hv
 simp only [VT] at hv
 obtain⟨b,o',c,he,h1,h2⟩:=hv
 obtain⟨v,hv,hrun⟩:=run_load_row (P:=P) ht (fun l u hl=>(h2 l u hl).2) (part_sound hE h1 hp)
 refine gives_v (f:=fun ρ=>Instr.loadAt t (ρ x)) (by simp [execOp,ho]) ⟨v,hv,fun w' hs=>?_⟩
 rw [he]
 exact hrun w' (hs (by rw [ho];rfl))
theorem Rel.box (hr:Rel E w0 G0 st a w G) {r b:Nat} (hb:G.i[r]? = some b) {x:TBox E} (hx:st.H[r]? = some x):BoxOk E w G b x:=hr.boxes.box r b x hb hx
theorem gives_load_box (hE:E.Ok) (hr:Rel E w0 G0 st a w G) {t:TypeId} {x:Operand} {i:TI} (ho:o.op=.load t x) (ht:tinfo P t=some i)
  {r off:Nat} (hd:st.ev x=.ptr r off) {t':TypeId} {cs:List (TV E)} (hb:st.H[r]? = some (.cells t' cs)) {ty:Option Ty} {d:TV E}
  (hp:partC E ty cs i.isAgg i.size off=some d):Gives P a w G o d:=by
 have hv:=hr.ev x
 rw [hd] at hv
 simp only [VT] at hv
 obtain⟨b,he,hat⟩:=hv
 obtain⟨vs,hh,h1,h2⟩:=hr.box hat hb
 obtain⟨v,hv,hrun⟩:=run_load_row (P:=P) (b:=b) (o':=0) ht (fun l u hl=>by
  rw [cell_of_row w b (0+l) vs t' (0,0) hh]
  simpa using hl) (partC_sound hE h2 (fun u hu=>h1 u (by simpa using hu)) hp)
 refine gives_v (f:=fun ρ=>Instr.loadAt t (ρ x)) (by simp [execOp,ho]) ⟨v,hv,fun w' hs=>?_⟩
 rw [he]
 have:=hrun w' (hs (by rw [ho];rfl))
 simpa using this
end
end Go.RT
namespace Go.RT
set_option linter.unusedVariables false
variable {E : TEnv}
theorem VD.slice_inv {w:World} {pr:Nat→Nat→Prop} {v:Value} {k:Nat} {es:List (List DV)} (h:VD w pr v (.slice k es)) :
  (∃a,v=.slice a 0 0∧es=[])∨∃(b off cap:Nat) (c:Nat→Nat→Value),v=.slice (some ⟨b,off,none⟩) es.length cap∧es.length≤cap ∧
   (∀j,j<es.length→(es.getD j []).length=k) ∧
   (∀j l,j<es.length→l<k→pr b (off+j * k+l)∧w.cell? ⟨b,off+j * k+l,none⟩=some (c j l)) ∧
   (∀j l,j<es.length→l<k→VD w pr (c j l) ((es.getD j []).getD l default)):=by
 cases h with
 | nils a k=>exact .inl ⟨a,rfl,rfl⟩
 | slice b off cap k es c hc hk h0 h=>exact .inr ⟨b,off,cap,c,rfl,hc,hk,h0,h⟩
inductive AsList:TV E→(T:Ty)→List (T.den E.D)→Prop
 | dat (T:Ty) (xs:List (T.den E.D)):AsList (.dat (.lst T) xs) T xs
 | gsl (j ver:Nat) (T:Ty) (xs:List (T.den E.D)):AsList (.gsl j ver T xs) T xs
theorem AsList.vd {w:World} {G:Ghost} {d:TV E} {T:Ty} {xs:List (T.den E.D)} {v:Value} (h:AsList d T xs) (hv:VT E w G d v) :
  VD w G.pr v (.slice (T.size E) (xs.map (T.cells E))):=by
 cases h with
 | dat=>exact (hv.atom rfl).of_single
 | gsl=>simp only [VT] at hv;exact hv.1
theorem VT.list {w:World} {G:Ghost} {T:Ty} {xs:List (T.den E.D)} {v:Value} (h:VD w G.pr v (.slice (T.size E) (xs.map (T.cells E)))):VT E w G (.dat (.lst T) xs) v :=
 .of_atom rfl (.single h)
theorem LD.of_getD {w:World} {pr:Nat→Nat→Prop}:∀ {vs:List Value} {ds:List DV},vs.length=ds.length→(∀l,l<ds.length→VD w pr (vs.getD l undef) (ds.getD l default))→LD w pr vs ds
 | [],[],_,_=>trivial
 | v::vs,d::ds,hl,h=>⟨by simpa using h 0 (by simp),LD.of_getD (by simpa using hl) fun l hl'=>by simpa using h (l+1) (by simpa using hl')⟩
 | [],_::_,hl,_=>by simp at hl
 | _::_,[],hl,_=>by simp at hl
section
variable {P : Program} {w0 : World} {G0 : Ghost} {st : TS E} {a : Act} {w : World} {G : Ghost} {o : Oper}
theorem gives_index (hr:Rel E w0 G0 st a w G) {t:TypeId} {x ix:Operand} {i:TI} {e:TypeId} {j1 j2:Nat} {z:Value} (ho:o.op=.indexAddr t x ix)
  (ht:tinfo P t=some ⟨.slice e,j1,j2,z⟩) (hi:tinfo P e=some i) {T:Ty} {xs:List (T.den E.D)} {kd:IntKind} {n:Int} (hd:AsList (st.ev x) T xs)
  (hdi:st.ev ix=.dat (.int kd) n) (h0:0≤n) (hn:n<xs.length) (hk:i.size=T.size E):Gives P a w G o (.cel T (xs.getD n.toNat (T.dflt E)) 0):=by
 have hv:=hd.vd (hr.ev x)
 have hvi:=hr.ev ix
 rw [hdi] at hvi
 have hie:=hvi.int_inv
 have hnl:n.toNat<xs.length:=by omega
 rcases hv.slice_inv with⟨-,-,hnil⟩ | ⟨b,off,cap,c,he,hcap,hkk,hc,h⟩
 ·simp at hnil;subst hnil;simp at hnl
 have hes:(xs.map (T.cells E)).getD n.toNat []=T.cells E (xs.getD n.toNat (T.dflt E)):=by
  simp [List.getD,hnl]
 have hlen:(xs.map (T.cells E)).length=xs.length:=by simp
 rw [hlen] at hcap hkk hc h he
 obtain⟨xe,hxe,hue,hsz,-⟩:=tinfo_some hi
 obtain⟨xt,hxt,hut,-⟩:=tinfo_some ht
 have hkn:=hkk _ hnl
 rw [hes] at hkn
 refine gives_v (f:=fun ρ=>Instr.indexAt t (ρ x) (ρ ix)) (by simp [execOp,ho]) ⟨.pointer (some ⟨b,off+n.toNat * T.size E+0,none⟩),?_,fun w' hs=>?_⟩
 ·simp only [VT]
  refine⟨b,off+n.toNat * T.size E,(List.range (T.size E)).map (c n.toNat),rfl,LD.of_getD (by rw [hkn];simp) (fun l hl=>?_),fun l u hl=>?_⟩
  ·rw [hkn] at hl
   have:=h _ l hnl hl
   rw [hes] at this
   simpa [List.getD,hl] using this
  ·simp only [List.getElem?_map,Option.map_eq_some_iff] at hl
   obtain⟨l',hl,rfl⟩:=hl
   obtain⟨h1,h2⟩:=List.getElem?_eq_some_iff.1 hl
   simp at h1 h2
   subst h2
   exact hc _ _ hnl h1
 ·rw [he,hie]
  unfold Instr.indexAt asIntOf
  simp only [Sem.run_bind,Sem.run_pure,Result.andThen_ok,run_underlying' hut]
  have h3:(0≤n∧n<((xs.length:Nat):Int)):=⟨h0,hn⟩
  simp only [h3,and_self,if_true,Sem.run_bind,run_sizeOf' hxe,Result.andThen_ok,Sem.run_pure,add_lit,hsz,hk]
  rfl
theorem gives_str_index (hr:Rel E w0 G0 st a w G) {t:TypeId} {x ix:Operand} {j1 j2:Nat} {z:Value} (ho:o.op=.index t x ix)
  (ht:tinfo P t=some ⟨.string,j1,j2,z⟩) {l:List UInt8} {kd:IntKind} {n:Int} (hd:st.ev x=.dat .str l) (hdi:st.ev ix=.dat (.int kd) n) (h0:0≤n) (hn:n<l.length) :
  Gives (E:=E) P a w G o (.dat (.int .u8) ((l.getD n.toNat 0).toNat:Int)):=by
 have hv:=hr.ev x
 rw [hd] at hv
 have hvi:=hr.ev ix
 rw [hdi] at hvi
 obtain⟨xt,hxt,hut,-⟩:=tinfo_some ht
 have hnl:n.toNat<l.length:=by omega
 refine gives_v (f:=fun ρ=>Instr.index t (ρ x) (ρ ix)) (by simp [execOp,ho]) ⟨_,.int _ _ _ _,fun w' hs=>?_⟩
 rw [hv.str_inv,hvi.int_inv]
 unfold Instr.index asIntOf mkStr
 simp only [Sem.run_bind,Sem.run_pure,Result.andThen_ok,run_underlying' hut,h0,if_true]
 have:(ByteArray.mk ⟨l⟩)[n.toNat]? = some (l.getD n.toNat 0):=by
  have hsz:n.toNat<(ByteArray.mk ⟨l⟩).size:=hnl
  rw [getElem?_pos (ByteArray.mk ⟨l⟩) n.toNat hsz]
  simp [List.getD,List.getElem?_eq_getElem hnl]
  rfl
 rw [this]
 rfl
theorem gives_field_cel (hr:Rel E w0 G0 st a w G) {s:TypeId} {x:Operand} {f:Nat} {fs:Array Field} {j1 j2:Nat} {z:Value} {fd:Field} (ho:o.op=.fieldAddr s x f)
  (ht:tinfo P s=some ⟨.struct fs,j1,j2,z⟩) (hf:fs[f]? = some fd) {i:TI} (hi:tinfo P fd.type=some i) (hz:i.size≠0) {T:Ty} {y:T.den E.D} {off:Nat} (hd:st.ev x=.cel T y off) :
  Gives P a w G o (.cel T y (off+fd.offset)):=by
 have hv:=hr.ev x
 rw [hd] at hv
 simp only [VT] at hv
 obtain⟨b,o',c,he,h0,h1⟩:=hv
 obtain⟨xt,hxt,hut,-⟩:=tinfo_some ht
 obtain⟨xf,hxf,-,hsf,-⟩:=tinfo_some hi
 refine gives_v (f:=fun ρ=>Instr.fieldAt s (ρ x) f) (by simp [execOp,ho]) ⟨.pointer (some ⟨b,o'+(off+fd.offset),none⟩),by simp only [VT];exact⟨b,o',c,rfl,h0,h1⟩,fun w' hs=>?_⟩
 rw [he]
 unfold Instr.fieldAt Instr.sureAddr
 simp only [Sem.run_bind,Sem.run_pure,Result.andThen_ok,run_underlying' hut,hf]
 simp [fieldPlace,run_sizeOf' hxf,hsf,hz,add_lit,Nat.add_assoc]
theorem gives_field_ptr (hr:Rel E w0 G0 st a w G) {s:TypeId} {x:Operand} {f:Nat} {fs:Array Field} {j1 j2:Nat} {z:Value} {fd:Field} (ho:o.op=.fieldAddr s x f)
  (ht:tinfo P s=some ⟨.struct fs,j1,j2,z⟩) (hf:fs[f]? = some fd) {i:TI} (hi:tinfo P fd.type=some i) (hz:i.size≠0) {r off:Nat} (hd:st.ev x=.ptr r off) :
  Gives P a w G o (.ptr r (off+fd.offset):TV E):=by
 have hv:=hr.ev x
 rw [hd] at hv
 simp only [VT] at hv
 obtain⟨b,he,hat⟩:=hv
 obtain⟨xt,hxt,hut,-⟩:=tinfo_some ht
 obtain⟨xf,hxf,-,hsf,-⟩:=tinfo_some hi
 refine gives_v (f:=fun ρ=>Instr.fieldAt s (ρ x) f) (by simp [execOp,ho]) ⟨.pointer (some ⟨b,off+fd.offset,none⟩),by simp only [VT];exact⟨b,rfl,hat⟩,fun w' hs=>?_⟩
 rw [he]
 unfold Instr.fieldAt Instr.sureAddr
 simp only [Sem.run_bind,Sem.run_pure,Result.andThen_ok,run_underlying' hut,hf]
 simp [fieldPlace,run_sizeOf' hxf,hsf,hz,add_lit]
theorem gives_field (hr:Rel E w0 G0 st a w G) {s:TypeId} {x:Operand} {f:Nat} {fs:Array Field} {j1 j2:Nat} {z:Value} {fd:Field} {i:TI} (ho:o.op=.field s x f)
  (ht:tinfo P s=some ⟨.struct fs,j1,j2,z⟩) (hf:fs[f]? = some fd) (hi:tinfo P fd.type=some i) {vs:Array Value} (he:a.eval x=.agg vs) {d:TV E}
  (hp:Part E w G vs.toList i.isAgg i.size fd.offset d):Gives P a w G o d:=by
 obtain⟨xt,hxt,hut,-⟩:=tinfo_some ht
 obtain⟨xf,hxf,huf,hsz,-⟩:=tinfo_some hi
 unfold Part at hp
 have hrun:∃v,VT E w G d v∧∀w',(Instr.field s (.agg vs) f).run P w'=.ok v w':=by
  unfold Instr.field asAgg
  simp only [Sem.run_bind,Sem.run_pure,Result.andThen_ok,run_underlying' hut,hf,part,run_isAgg' hi]
  cases hag:i.isAgg<;>rw [hag] at hp<;>simp only [cond_true,cond_false] at hp
  ·obtain⟨u,hu,hv⟩:=hp
   refine⟨u,hv,fun w'=>?_⟩
   simp at hu
   simp [hu]
  ·obtain⟨hl,hv⟩:=hp
   refine⟨_,hv,fun w'=>?_⟩
   simp only [if_true,Sem.run_bind,run_sizeOf' hxf,Result.andThen_ok,hsz,Sem.run_pure,Result.ok.injEq,Value.agg.injEq,and_true]
   simp at hl
   apply Array.ext
   ·simp;omega
   ·intro j h2 h3
    simp at h2 h3
    simp
 obtain⟨v,hv,hrun⟩:=hrun
 refine gives_v (f:=fun ρ=>Instr.field s (ρ x) f) (by simp [execOp,ho]) ⟨v,hv,fun w' _=>?_⟩
 rw [he]
 exact hrun w'
end
end Go.RT
namespace Go.RT
set_option linter.unusedVariables false
variable {E : TEnv}
def boundT (d:Int):Option (TV E)→Option Int
 | none=>some d
 | some (.dat (.int _) n)=>some n
 | some _=>none
section
variable {P : Program} {w0 : World} {G0 : Ghost} {st : TS E} {a : Act} {w : World} {G : Ghost} {o : Oper}
theorem mkStr_extract (l:List UInt8) (x y:Nat):(ByteArray.mk ⟨l⟩).extract x y=ByteArray.mk ⟨(l.take y).drop x⟩:=by
 apply ByteArray.ext
 rw [ByteArray.data_extract]
 apply Array.ext'
 simp [List.drop_take]
theorem run_bound {k:IntKind} {n:Int} {y:Nat} {code:BoundsCode} (h0:0≤n) (h1:n≤y) (w':World):(Instr.sliceBound (.int k n) y code).run P w'=.ok n.toNat w':=by
 unfold Instr.sliceBound asIntOf
 simp [h0,h1]
theorem run_bounds {isS:Bool} {len cap:Nat} (hlc:len≤cap) {lo hi:Option Value} {x y:Int}
  (hlo:(lo=none∧x=0)∨∃k,lo=some (.int k x)) (hhi:(hi=none∧y=len)∨∃k,hi=some (.int k y)) (h0:0≤x) (h1:x≤y) (h2:y≤len) (w':World) :
  (Instr.sliceBounds isS len cap lo hi none).run P w'=.ok (x.toNat,y.toNat,cap) w':=by
 unfold Instr.sliceBounds
 have hy:∀(k:IntKind) (code:BoundsCode),(Instr.sliceBound (.int k y) cap code).run P w'=.ok y.toNat w':=fun k code=>run_bound (by omega) (by omega) w'
 have hx:∀(k:IntKind) (code:BoundsCode),(Instr.sliceBound (.int k x) y.toNat code).run P w'=.ok x.toNat w':=fun k code=>run_bound h0 (by omega) w'
 rcases hlo with⟨rfl,rfl⟩ | ⟨k,rfl⟩<;>rcases hhi with⟨rfl,rfl⟩ | ⟨k',rfl⟩
 ·simp
 ·simp [hy]
 ·have hx':∀(code:BoundsCode),(Instr.sliceBound (.int k x) len code).run P w'=.ok x.toNat w':=fun code=>by simpa using hx k code
  simp [hx']
 ·simp [hy,hx]
theorem bound_inv (hr:Rel E w0 G0 st a w G) {lo:Option Operand} {d x:Int} (hb:boundT d (lo.map st.ev)=some x) :
  (lo.map a.eval=none∧x=d)∨∃k,lo.map a.eval=some (.int k x):=by
 cases lo with
 | none=>simp [boundT] at hb;exact .inl ⟨rfl,hb.symm⟩
 | some y =>
  have hv:=hr.ev y
  simp only [Option.map_some] at hb ⊢
  unfold boundT at hb
  split at hb
  ·rename_i he;cases he
  ·rename_i k n he
   cases hb
   rw [Option.some.inj he] at hv
   exact .inr ⟨k,by rw [hv.int_inv]⟩
  ·cases hb
theorem gives_extract (hr:Rel E w0 G0 st a w G) {x:Operand} {j:Nat} (ho:o.op=.extract x j) {ds:List (TV E)} (hd:st.ev x=.tuple ds) {d:TV E} (hj:ds[j]? = some d) :
  Gives P a w G o d:=by
 have hv:=hr.ev x
 rw [hd] at hv
 simp only [VT] at hv
 obtain⟨vs,he,h⟩:=hv
 obtain⟨u,hu,h⟩:=h.get j hj
 refine gives_v (f:=fun ρ=>Instr.extract (ρ x) j) (by simp [execOp,ho]) ⟨u,h,fun w' hs'=>?_⟩
 rw [he]
 simp at hu
 simp [Instr.extract,hu]
theorem gives_len_str (hr:Rel E w0 G0 st a w G) {x:Operand} {c:Call} {t:TypeId} {j1 j2:Nat} {z:Value} (ho:o.op=.call c) (hc:c.callee=.builtin .len) (ha:c.args.toList=[x]) (hat:c.argTypes.toList=[t])
  (ht:tinfo P t=some ⟨.string,j1,j2,z⟩) {l:List UInt8} (hd:st.ev x=.dat .str l):Gives (E:=E) P a w G o (.dat (.int .i64) (l.length:Int)):=by
 have hv:=hr.ev x
 rw [hd] at hv
 obtain⟨xt,hxt,hut,-⟩:=tinfo_some ht
 have ha':c.args=#[x]:=by rw [←Array.toArray_toList (xs:=c.args),ha]
 have hat':c.argTypes=#[t]:=by rw [←Array.toArray_toList (xs:=c.argTypes),hat]
 refine⟨_,.int _ _ _ _,fun w' hs=>?_⟩
 unfold execOp
 simp only [ho,resolve,hc,Sem.run_bind,Sem.run_pure,Result.andThen_ok,invoke,builtin,ha',hat',List.map_toArray,List.map_cons,List.map_nil]
 rw [hv.str_inv]
 simp only [Builtin.len_,Sem.run_bind,mkStr,List.getElem?_toArray,List.getElem?_cons_zero,run_underlying' hut,Result.andThen_ok,Sem.run_pure,goInt]
 rfl
theorem gives_len_slice (hr:Rel E w0 G0 st a w G) {x:Operand} {c:Call} {t e:TypeId} {j1 j2:Nat} {z:Value} (ho:o.op=.call c) (hc:c.callee=.builtin .len) (ha:c.args.toList=[x]) (hat:c.argTypes.toList=[t])
  (ht:tinfo P t=some ⟨.slice e,j1,j2,z⟩) {n:Nat} (hval:∃ad cap,a.eval x=.slice ad n cap):Gives (E:=E) P a w G o (.dat (.int .i64) (n:Int)):=by
 obtain⟨xt,hxt,hut,-⟩:=tinfo_some ht
 have ha':c.args=#[x]:=by rw [←Array.toArray_toList (xs:=c.args),ha]
 have hat':c.argTypes=#[t]:=by rw [←Array.toArray_toList (xs:=c.argTypes),hat]
 obtain⟨ad,cap,he⟩:=hval
 refine⟨_,.int _ _ _ _,fun w' hs=>?_⟩
 unfold execOp
 simp only [ho,resolve,hc,Sem.run_bind,Sem.run_pure,Result.andThen_ok,invoke,builtin,ha',hat',List.map_toArray,List.map_cons,List.map_nil]
 rw [he]
 simp only [Builtin.len_,Sem.run_bind,List.getElem?_toArray,List.getElem?_cons_zero,run_underlying' hut,Result.andThen_ok,Sem.run_pure,goInt]
theorem AsList.header {d:TV E} {T:Ty} {xs:List (T.den E.D)} {v:Value} (h:AsList d T xs) (hv:VT E w G d v):∃ad cap,v=.slice ad xs.length cap:=by
 rcases (h.vd hv).slice_inv with⟨ad,he,hn⟩ | ⟨b,off,cap,c,he,-⟩
 ·simp at hn;subst hn;exact⟨_,_,he⟩
 ·simp at he;exact⟨_,_,he⟩
theorem gives_slice_str (hr:Rel E w0 G0 st a w G) {t:TypeId} {x:Operand} {lo hi:Option Operand} {j1 j2:Nat} {z:Value} (ho:o.op=.slice t x lo hi none)
  (ht:tinfo P t=some ⟨.string,j1,j2,z⟩) {l:List UInt8} (hd:st.ev x=.dat .str l) {p q:Int} (hp:boundT 0 (lo.map st.ev)=some p) (hq:boundT l.length (hi.map st.ev)=some q)
  (h0:0≤p) (h1:p≤q) (h2:q≤l.length):Gives (E:=E) P a w G o (.dat .str ((l.take q.toNat).drop p.toNat)):=by
 have hv:=hr.ev x
 rw [hd] at hv
 obtain⟨xt,hxt,hut,-⟩:=tinfo_some ht
 refine gives_v (f:=fun ρ=>Instr.sliceAt t (ρ x) (lo.map ρ) (hi.map ρ) none) (by simp [execOp,ho]) ⟨_,.str _ _ _,fun w' hs=>?_⟩
 have hbs:=run_bounds (P:=P) (isS:=false) (Nat.le_refl l.length) (bound_inv hr hp) (bound_inv hr hq) h0 h1 h2 w'
 rw [hv.str_inv]
 unfold Instr.sliceAt
 simp only [Sem.run_bind,run_underlying' hut,Result.andThen_ok]
 unfold Instr.slice mkStr
 have hsz:(ByteArray.mk ⟨l⟩).size=l.length:=rfl
 simp only [Sem.run_bind,run_underlying' hut,Result.andThen_ok,Option.isSome_none,Bool.false_eq_true,if_false,hsz,Sem.run_pure,hbs,mkStr_extract]
theorem gives_slice_list (hr:Rel E w0 G0 st a w G) {t e:TypeId} {i:TI} {x:Operand} {lo hi:Option Operand} {j1 j2:Nat} {z:Value} (ho:o.op=.slice t x lo hi none)
  (ht:tinfo P t=some ⟨.slice e,j1,j2,z⟩) (hi':tinfo P e=some i) {T:Ty} {xs:List (T.den E.D)} (hd:AsList (st.ev x) T xs) {p q:Int}
  (hp:boundT 0 (lo.map st.ev)=some p) (hq:boundT xs.length (hi.map st.ev)=some q)
  (h0:0≤p) (h1:p≤q) (h2:q≤xs.length) (hk:i.size=T.size E):Gives P a w G o (.dat (.lst T) ((xs.take q.toNat).drop p.toNat)):=by
 have hv:=hd.vd (hr.ev x)
 obtain⟨xt,hxt,hut,-⟩:=tinfo_some ht
 obtain⟨xe,hxe,hue,hsz,-⟩:=tinfo_some hi'
 have hmap:((xs.take q.toNat).drop p.toNat).map (T.cells E)=((xs.map (T.cells E)).take q.toNat).drop p.toNat:=by simp
 have hex:∃(ad:Option Addr) (cap:Nat),a.eval x=.slice ad xs.length cap∧xs.length≤cap ∧
   VT E w G (.dat (.lst T) ((xs.take q.toNat).drop p.toNat)) (.slice (if cap=p.toNat then ad else ad.map (·.add (p.toNat * T.size E))) (q.toNat - p.toNat) (cap - p.toNat)):=by
  have hlen0:(xs.map (T.cells E)).length=xs.length:=by simp
  generalize hes:xs.map (T.cells E)=es at hv hmap hlen0
  have hlen:((es.take q.toNat).drop p.toNat).length=q.toNat - p.toNat:=by simp;omega
  rcases hv.slice_inv with⟨ad0,he,rfl⟩ | ⟨b,off,cap,c,he,hcap,hkk,hc,h⟩
  ·simp at hlen0
   have hx0:xs=[]:=List.eq_nil_of_length_eq_zero hlen0.symm
   subst hx0
   simp at h2
   have hp0:p=0:=by omega
   have hq0:q=0:=by omega
   subst hp0;subst hq0
   exact⟨ad0,0,he,Nat.le_refl _,.list (.nils _ _)⟩
  ·rw [hlen0] at he hcap
   refine⟨_,_,he,hcap,.list ?_⟩
   rw [hmap]
   have hgd:∀j,j<q.toNat - p.toNat→((es.take q.toNat).drop p.toNat).getD j []=es.getD (p.toNat+j) []:=by
    intro j hj
    simp [List.getD,show p.toNat+j<q.toNat by omega]
   rw [←hlen]
   by_cases hcp:cap=p.toNat
   ·have hz:((es.take q.toNat).drop p.toNat)=[]:=by
     apply List.eq_nil_of_length_eq_zero;rw [hlen];omega
    rw [hz,if_pos hcp]
    exact .slice b off (cap - p.toNat) _ [] c (Nat.zero_le _) (fun j hj=>by simp at hj) (fun j l hj=>by simp at hj) (fun j l hj=>by simp at hj)
   ·rw [if_neg hcp]
    simp only [Option.map_some,add_lit]
    refine .slice b (off+p.toNat * T.size E) (cap - p.toNat) _ _ (fun j l=>c (p.toNat+j) l) (by rw [hlen];omega) (fun j hj=>?_) (fun j l hj hl=>?_) (fun j l hj hl=>?_)
    all_goals rw [hlen] at hj
    ·rw [hgd j hj];exact hkk _ (by omega)
    ·have:=hc (p.toNat+j) l (by omega) hl
     rw [Nat.add_mul,←Nat.add_assoc] at this
     exact this
    ·rw [hgd j hj];exact h _ _ (by omega) hl
 obtain⟨ad,cap,he,hcap,hV⟩:=hex
 refine gives_v (f:=fun ρ=>Instr.sliceAt t (ρ x) (lo.map ρ) (hi.map ρ) none) (by simp [execOp,ho]) ⟨_,hV,fun w' hs=>?_⟩
 have hbs:=run_bounds (P:=P) (isS:=true) hcap (bound_inv hr hp) (bound_inv hr hq) h0 h1 h2 w'
 rw [he]
 unfold Instr.sliceAt
 simp only [Sem.run_bind,run_underlying' hut,Result.andThen_ok]
 unfold Instr.slice
 simp only [Sem.run_bind,run_underlying' hut,Result.andThen_ok,hbs,run_sizeOf' hxe,hsz,hk,Sem.run_pure]
end
end Go.RT
namespace Go.RT
set_option linter.unusedVariables false
variable {E : TEnv}
def fillT (P:Program) (fs:Array Field):List (TV E)→List (Nat × TV E)→Option (List (TV E))
 | cs,[]=>some cs
 | cs,(j,d)::rest=>match fs[j]?,d.cellsT with
  | some fd,some l=>match tinfo P fd.type with
   | some i=>cond (Nat.ble (fd.offset+l.length) cs.length&&Nat.beq l.length i.size) (fillT P fs (cs.take fd.offset++l++cs.drop (fd.offset+l.length)) rest) none
   | none=>none
  | _,_=>none
theorem fold_fill (off:Nat):∀(new:List Value) (i:Nat) (cs:Array Value),off+i+new.length≤cs.size →
  ((new.zipIdx i).foldl (fun (cs:Array Value) (p:Value × Nat)=>cs.setIfInBounds (off+p.2) p.1) cs).toList=cs.toList.take (off+i)++new++cs.toList.drop (off+i+new.length)
 | [],i,cs,_=>by simp
 | v::rest,i,cs,h=>by
  simp only [List.zipIdx_cons,List.foldl_cons]
  rw [fold_fill off rest (i+1) _ (by simp at h ⊢;omega)]
  have e:=list_seg_step cs.toList (off+i) v rest (by simp at h ⊢;omega)
  simpa [Array.toList_setIfInBounds,Nat.add_assoc] using e
theorem fill_step {place:Nat→Option (Nat × Nat)} {cells:Array Value} {j off size:Nat} {v:Value} {rest:List (Nat × Value)} (hp:place j=some (off,size))
  (hs:v.cells.size=size) (ho:off+size≤cells.size) :
  Instr.fill place cells ((j,v)::rest)=Instr.fill place (cells.toList.take off++v.cells.toList++cells.toList.drop (off+v.cells.size)).toArray rest:=by
 have hf:=fold_fill off v.cells.toList 0 cells (by simp;omega)
 simp only [Nat.add_zero,Array.length_toList] at hf
 rw [Instr.fill,hp]
 have hc:¬ ((v.cells.size≠size||off+v.cells.size>cells.size)=true):=by simp;omega
 simp only
 rw [if_neg hc]
 congr 1
 apply Array.ext'
 rw [←hf,←Array.foldl_toList,Array.toList_zipIdx]
section
variable {P : Program} {w0 : World} {G0 : Ghost} {st : TS E} {a : Act} {w : World} {G : Ghost} {o : Oper}
theorem mapM_places (fs:List Field) (h:∀fd,fd∈fs→∃i,tinfo P fd.type=some i) :
  ∃places:List (Nat × Nat),fs.mapM (fun f=>(P.info? f.type).map fun i=>(f.offset,i.size))=some places ∧
   ∀(j:Nat) fd i,fs[j]? = some fd→tinfo P fd.type=some i→places[j]? = some (fd.offset,i.size):=by
 induction fs with
 | nil=>exact⟨[],by simp,fun j fd i hj=>by simp at hj⟩
 | cons f fs ih =>
  obtain⟨places,hp,hq⟩:=ih fun fd hfd=>h fd (by simp [hfd])
  obtain⟨i,hi⟩:=h f (by simp)
  obtain⟨x,hx,-,hs,-⟩:=tinfo_some hi
  refine⟨(f.offset,i.size)::places,by simp [List.mapM_cons,hx,hp,hs],fun j fd i' hj hi'=>?_⟩
  cases j with
  | zero=>simp at hj;subst hj;rw [hi] at hi';cases hi';rfl
  | succ j=>simp at hj ⊢;exact hq j fd i' hj hi'
theorem fill_parts (hE:E.Ok) (hr:Rel E w0 G0 st a w G) {fs:Array Field} {place:Nat→Option (Nat × Nat)}
  (hpl:∀(j:Nat) fd i,fs[j]? = some fd→tinfo P fd.type=some i→place j=some (fd.offset,i.size)) :
  ∀(parts:List (Nat × Operand)) (cells:Array Value) (ds:List (TV E)) {ds':List (TV E)},VTs E w G ds cells.toList→(∀u,u∈cells.toList→u.oneCell'=true) →
  fillT P fs ds (parts.map fun p=>(p.1,st.ev p.2))=some ds' →
  ∃cells':Array Value,Instr.fill place cells (parts.map fun p=>(p.1,a.eval p.2))=some cells'∧VTs E w G ds' cells'.toList∧∀u,u∈cells'.toList→u.oneCell'=true
 | [],cells,ds,ds',h,h1,hf=>by cases hf;exact⟨cells,rfl,h,h1⟩
 | (j,x)::rest,cells,ds,ds',h,h1,hf=>by
  simp only [List.map_cons,fillT] at hf
  split at hf<;>try (cases hf;done)
  rename_i fd l hfd hl
  split at hf<;>try (cases hf;done)
  rename_i i hi
  cases hb:(Nat.ble (fd.offset+l.length) ds.length&&Nat.beq l.length i.size)<;>rw [hb] at hf<;>simp only [cond_true,cond_false] at hf
  ·cases hf
  rw [Bool.and_eq_true] at hb
  have hle:=Nat.le_of_ble_eq_true hb.1
  have hsz:=Nat.eq_of_beq_eq_true hb.2
  obtain⟨hx,hx1⟩:=cellsT_sound hE (hr.ev x) hl
  have hlen:(a.eval x).cells.size=l.length:=by simpa using hx.length
  have hcl:cells.size=ds.length:=by simpa using h.length
  simp only [List.map_cons]
  rw [fill_step (hpl j fd i hfd hi) (by rw [hlen,hsz]) (by rw [←hsz,hcl];exact hle),hlen]
  refine fill_parts hE hr hpl rest _ _ ?_ ?_ hf
  ·simp only []
   exact ((h.take _).append hx).append (h.drop _)
  ·intro u hu
   simp only [List.mem_append] at hu
   rcases hu with (hu | hu) | hu
   ·exact h1 u (List.mem_of_mem_take hu)
   ·exact hx1 u (by simpa using hu)
   ·exact h1 u (List.mem_of_mem_drop hu)
theorem VTs.ofValues:∀ {vs:List Value},VTs E w G (vs.map TV.ofV) vs
 | []=>.nil
 | v::vs=>.cons (VT_ofV w G v) VTs.ofValues
def packT (E:TEnv) (ty:Option Ty) (cs:List (TV E)):TV E :=
 match ty with
 | none=>.agg cs
 | some t=>match rebN E 4 t cs with
  | some (x,[])=>cond t.isAgg (.dat t x) (.agg cs)
  | _=>.agg cs
theorem packT_sound (hE:E.Ok) {ty:Option Ty} {cs:List (TV E)} {vs:Array Value} (h:VTs E w G cs vs.toList) (h1:∀u,u∈vs.toList→u.oneCell'=true):VT E w G (packT E ty cs) (.agg vs):=by
 have hagg:VT E w G (.agg cs) (.agg vs):=by
  simp only [VT]
  exact⟨vs,rfl,fun u hu=>h1 u (by simpa using hu),h⟩
 unfold packT
 split
 ·exact hagg
 ·rename_i t
  split
  ·rename_i x hx
   cases ha:t.isAgg<;>simp only [cond_true,cond_false]
   ·exact hagg
   ·obtain⟨us,ts,e,h2,h3⟩:=rebN_sound hE 4 t h hx
    simp only [VTs] at h3
    subst h3
    simp only [VT,ha]
    refine⟨vs,rfl,?_⟩
    rw [e,List.append_nil]
    exact h2
  ·exact hagg
theorem gives_build (hE:E.Ok) (hr:Rel E w0 G0 st a w G) {t:TypeId} {parts:Array (Nat × Operand)} {fs:Array Field} {j1 j2:Nat} {z:Array Value} (ho:o.op=.build t parts)
  (ht:tinfo P t=some ⟨.struct fs,j1,j2,.agg z⟩) (h2:(z.toList.all (·.oneCell')&&fs.toList.all fun fd=>(tinfo P fd.type).isSome)=true) {ds:List (TV E)}
  (hf:fillT P fs (z.toList.map TV.ofV) (parts.toList.map fun p=>(p.1,st.ev p.2))=some ds) (ty:Option Ty):Gives P a w G o (packT E ty ds):=by
 rw [Bool.and_eq_true] at h2
 obtain⟨places,hpl,hpq⟩:=mapM_places (P:=P) fs.toList (fun fd hfd=>Option.isSome_iff_exists.1 (List.all_eq_true.1 h2.2 fd hfd))
 obtain⟨xt,hxt,hut,hsz,hby,hz⟩:=tinfo_some ht
 obtain⟨cells,hc,hl,hl1⟩:=fill_parts (P:=P) hE hr (fs:=fs) (place:=(places.toArray[·]?)) (fun j fd i hj hi=>by
  have:=hpq j fd i (by simpa using hj) hi
  simpa using this) parts.toList z (z.toList.map TV.ofV) VTs.ofValues (fun u hu=>List.all_eq_true.1 h2.1 u hu) hf
 refine gives_v (f:=fun ρ=>Instr.build t (parts.map fun (i,x)=>(i,ρ x))) (by simp [execOp,ho]) ⟨.agg cells,packT_sound hE hl hl1,fun w' hs=>?_⟩
 refine run_build w' t _ cells ?_
 unfold Program.built
 simp only [hxt,hut,hz,hpl]
 rw [show (parts.map fun (i,x)=>(i,a.eval x)).toList=parts.toList.map fun p=>(p.1,a.eval p.2) by simp]
 exact hc
end
end Go.RT
namespace Go.RT
set_option linter.unusedVariables false
variable {E : TEnv}
def TV.asList:TV E→Option ((T:Ty) × List (T.den E.D))
 | .dat (.lst T) xs=>some ⟨T,xs⟩
 | .gsl _ _ T xs=>some ⟨T,xs⟩
 | _=>none
theorem TV.asList_ok {d:TV E} {T:Ty} {xs:List (T.den E.D)} (h:d.asList=some ⟨T,xs⟩):AsList d T xs:=by
 unfold TV.asList at h
 split at h
 ·cases h;exact .dat _ _
 ·cases h;exact .gsl _ _ _ _
 ·cases h
def okT (x:Option (TV E)):Option (Bool × TV E):=match x with
 | some d=>some (true,d)
 | none=>none
def lenT (d:TV E) (k:TypeDesc):Option (TV E) :=
 match k,d with
 | .string,.dat .str l=>some (.dat (.int .i64) (l.length:Int))
 | .slice _,.dat (.lst T) xs=>some (.dat (.int .i64) (xs.length:Int))
 | .slice _,.gsl _ _ T xs=>some (.dat (.int .i64) (xs.length:Int))
 | .slice _,.val (.slice none 0 0)=>some (.dat (.int .i64) (0:Int))
 | _,_=>none
def runeStr (n:Int):List UInt8:=(Utf8.encode n).data.toList
def convT (P:Program) (src dst:TypeId) (d:TV E):Option (TV E) :=
 match d,tinfo P src,tinfo P dst with
 | .dat (.int _) n,some _,some ⟨.int kk,_,_,_⟩=>some (.dat (.int kk) (kk.wrap n))
 | .dat .str l,some _,some ⟨.string,_,_,_⟩=>some (.dat .str l)
 | .dat (.int _) n,some _,some ⟨.string,_,_,_⟩=>some (.dat .str (runeStr n))
 | _,_,_=>none
def evalT (P:Program) (ty:TypeId→Option Ty) (st:TS E):Op→Option (Bool × TV E)
 | .move x=>some (true,st.ev x)
 | .assign x=>some (true,st.ev x)
 | .load t x=>match tinfo P t,st.ev x with
  | some i,.cel T y off=>okT (TV.part T y i.isAgg i.size off)
  | some i,.ptr r off=>match st.H[r]? with
   | some (.cells _ cs)=>okT (partC E (ty t) cs i.isAgg i.size off)
   | _=>none
  | _,_=>none
 | .nilCheck x=>match st.ev x with
  | .ptr r off=>some (true,.ptr r off)
  | .cel T y off=>some (true,.cel T y off)
  | .func (.func f) cap=>some (true,.func (.func f) cap)
  | _=>none
 | .binOp op _ x y _=>binV op (st.ev x) (st.ev y)
 | .unOp op _ x=>match op,st.ev x with
  | .not,.dat .bool b=>some (true,.dat .bool (!b))
  | .neg,.dat (.int k) n=>some (true,.dat (.int k) (k.wrap (0 - n)))
  | .xor,.dat (.int k) n=>some (true,.dat (.int k) (bNot k n))
  | _,_=>none
 | .makeFunc fn first cap=>match first.toList with
  | []=>some (true,.func fn (cap.toList.map st.ev))
  | _=>none
 | .fieldAddr s x f=>match tinfo P s,st.ev x with
  | some ⟨.struct fs,_,_,_⟩,.cel T y off=>match fs[f]? with
   | some fd=>match tinfo P fd.type with
    | some i=>some (!(Nat.beq i.size 0),.cel T y (off+fd.offset))
    | none=>none
   | none=>none
  | some ⟨.struct fs,_,_,_⟩,.ptr r off=>match fs[f]? with
   | some fd=>match tinfo P fd.type with
    | some i=>some (!(Nat.beq i.size 0),.ptr r (off+fd.offset))
    | none=>none
   | none=>none
  | _,_=>none
 | .field s x f=>match tinfo P s,st.ev x with
  | some ⟨.struct fs,_,_,_⟩,.dat T y=>match fs[f]? with
   | some fd=>match tinfo P fd.type with
    | some i=>match T.isAgg with
     | true=>okT (TV.part T y i.isAgg i.size fd.offset)
     | false=>none
    | none=>none
   | none=>none
  | some ⟨.struct fs,_,_,_⟩,.agg cs=>match fs[f]? with
   | some fd=>match tinfo P fd.type with
    | some i=>okT (partC E (ty fd.type) cs i.isAgg i.size fd.offset)
    | none=>none
   | none=>none
  | _,_=>none
 | .indexAddr t x ix=>match tinfo P t,(st.ev x).asList,st.ev ix with
  | some ⟨.slice e,_,_,_⟩,some ⟨T,xs⟩,.dat (.int _) n=>match tinfo P e with
   | some i=>some (Nat.beq i.size (T.size E)&&(decide (0≤n)&&decide (n<(xs.length:Int))),.cel T (xs.getD (Int.toNat n) (T.dflt E)) 0)
   | none=>none
  | _,_,_=>none
 | .index t x ix=>match tinfo P t,st.ev x,st.ev ix with
  | some ⟨.string,_,_,_⟩,.dat .str l,.dat (.int _) n=>some (decide (0≤n)&&decide (n<(l.length:Int)),.dat (.int .u8) ((l.getD (Int.toNat n) 0).toNat:Int))
  | _,_,_=>none
 | .extract x j=>match st.ev x with
  | .tuple ds=>okT ds[j]?
  | _=>none
 | .build t parts=>match tinfo P t with
  | some ⟨.struct fs,_,_,.agg z⟩=>match fillT P fs (z.toList.map TV.ofV) (parts.toList.map fun p=>(p.1,st.ev p.2)) with
   | some ds=>some (z.toList.all (·.oneCell')&&fs.toList.all (fun fd=>(tinfo P fd.type).isSome),packT E (ty t) ds)
   | none=>none
  | _=>none
 | .convert src dst x=>okT (convT P src dst (st.ev x))
 | .makeInterface t x=>match tinfo P t with
  | some ⟨.interface _,_,_,_⟩=>none
  | some _=>some (true,.iface t (st.ev x))
  | none=>none
 | .slice t x lo hi none=>match tinfo P t,st.ev x with
  | some ⟨.string,_,_,_⟩,.dat .str l=>match boundT 0 (lo.map st.ev),boundT (l.length:Int) (hi.map st.ev) with
   | some p,some q=>some (decide (0≤p)&&(decide (p≤q)&&decide (q≤(l.length:Int))),.dat .str ((l.take q.toNat).drop p.toNat))
   | _,_=>none
  | some ⟨.slice e,_,_,_⟩,d=>match d.asList,tinfo P e with
   | some ⟨T,xs⟩,some i=>match boundT 0 (lo.map st.ev),boundT (xs.length:Int) (hi.map st.ev) with
    | some p,some q=>some (Nat.beq i.size (T.size E)&&(decide (0≤p)&&(decide (p≤q)&&decide (q≤(xs.length:Int)))),.dat (.lst T) ((xs.take q.toNat).drop p.toNat))
    | _,_=>none
   | _,_=>none
  | _,_=>none
 | .call c=>match c.callee,c.args.toList,c.argTypes.toList with
  | .builtin .len,[x],[t]=>match tinfo P t with
   | some i=>okT (lenT (st.ev x) i.kind)
   | none=>none
  | _,_,_=>none
 | _=>none
section
variable {P : Program} {w0 : World} {G0 : Ghost} {st : TS E} {a : Act} {w : World} {G : Ghost} {o : Oper}
theorem okT_some {x:Option (TV E)} {c:Bool} {d:TV E} (h:okT x=some (c,d)):x=some d:=by
 cases x with
 | none=>cases h
 | some y=>cases h;rfl
theorem evalT_sound (hE:E.Ok) (hr:Rel E w0 G0 st a w G) {ty:TypeId→Option Ty} {d:TV E} {c:Bool} (h:evalT P ty st o.op=some (c,d)) (hc:c=true):Gives P a w G o d:=by
 cases ho:o.op<;>rw [ho] at h<;>simp only [evalT] at h
 case move x=>cases h;exact gives_ev hr x (.inl ho)
 case assign x=>cases h;exact gives_ev hr x (.inr ho)
 case load t x =>
  split at h<;>try (cases h;done)
  ·rename_i i T y off hi hd
   exact gives_load_cel hE hr ho hi hd (okT_some h)
  ·rename_i i r off hi hd
   split at h<;>try (cases h;done)
   rename_i t' cs hb
   exact gives_load_box hE hr ho hi hd hb (okT_some h)
 case nilCheck x =>
  have hv:=hr.ev x
  split at h<;>try (cases h;done)
  ·rename_i r off hd
   cases h
   rw [hd] at hv
   have hv':=hv
   simp only [VT] at hv'
   obtain⟨b,he,-⟩:=hv'
   exact⟨_,hv,fun w' hs=>by simp [execOp,ho,he]⟩
  ·rename_i T y off hd
   cases h
   rw [hd] at hv
   have hv':=hv
   simp only [VT] at hv'
   obtain⟨b,o',c',he,-⟩:=hv'
   exact⟨_,hv,fun w' hs=>by simp [execOp,ho,he]⟩
  ·rename_i f cap hd
   cases h
   rw [hd] at hv
   have hv':=hv
   simp only [VT] at hv'
   obtain⟨vs,he,-⟩:=hv'
   exact⟨_,hv,fun w' hs=>by simp [execOp,ho,he]⟩
 case binOp op t x y ty' =>
  obtain⟨r,hv,hrun⟩:=binV_sound (P:=P) (op:=op) (t:=t) (x:=x) (y:=y) (hr.ev x) (hr.ev y) h hc
  exact gives_v (f:=fun ρ=>do eqGuard op t x y (ρ x) (ρ y);binOp op t (ρ x) (ρ y)) (by simp [execOp,ho]) ⟨r,hv,fun w' _=>hrun w'⟩
 case unOp op t x =>
  have hv:=hr.ev x
  split at h<;>try (cases h;done)
  ·rename_i b hd
   cases h
   rw [hd] at hv
   exact⟨_,.bool _ _ _,fun w' hs=>by simp [execOp,ho,hv.bool_inv,Op.unary]⟩
  ·rename_i k n hd
   cases h
   rw [hd] at hv
   exact⟨_,.int _ _ _ _,fun w' hs=>by simp [execOp,ho,hv.int_inv,Op.unary,Op.intArith]⟩
  ·rename_i k n hd
   cases h
   rw [hd] at hv
   exact⟨_,.int _ _ _ _,fun w' hs=>by
    simp only [execOp,ho,hv.int_inv,Op.unary,bNot_eq]
    rfl⟩
 case makeFunc fn first cap =>
  split at h<;>try (cases h;done)
  rename_i hf
  cases h
  have hf':first=#[]:=by rw [←Array.toArray_toList (xs:=first),hf]
  refine gives_v (f:=fun ρ=>Instr.makeFunc fn (first.map ρ) (cap.map ρ)) (by simp [execOp,ho]) ⟨.func fn #[] (cap.map a.eval),?_,fun w' _=>by simp [Instr.makeFunc,hf']⟩
  simp only [VT]
  refine⟨_,rfl,?_⟩
  have:∀l:List Operand,VTs E w G (l.map st.ev) (l.map a.eval):=by
   intro l
   induction l with
   | nil=>exact .nil
   | cons y l ih=>exact .cons (hr.ev y) ih
  simpa using this cap.toList
 case fieldAddr s x f =>
  split at h<;>try (cases h;done)
  ·rename_i fs j1 j2 z T y off hs hd
   split at h<;>try (cases h;done)
   rename_i fd hf
   split at h<;>try (cases h;done)
   rename_i i hi
   cases h
   refine gives_field_cel hr ho hs hf hi (fun h0=>?_) hd
   rw [h0] at hc;cases hc
  ·rename_i fs j1 j2 z r off hs hd
   split at h<;>try (cases h;done)
   rename_i fd hf
   split at h<;>try (cases h;done)
   rename_i i hi
   cases h
   refine gives_field_ptr hr ho hs hf hi (fun h0=>?_) hd
   rw [h0] at hc;cases hc
 case field s x f =>
  have hv:=hr.ev x
  split at h<;>try (cases h;done)
  ·rename_i fs j1 j2 z T y hs hd
   split at h<;>try (cases h;done)
   rename_i fd hf
   split at h<;>try (cases h;done)
   rename_i i hi
   split at h<;>try (cases h;done)
   rename_i ha
   rw [hd] at hv
   obtain⟨vs,he,hl⟩:=hv.aggr ha
   exact gives_field hr ho hs hf hi he (part_sound hE hl (okT_some h))
  ·rename_i fs j1 j2 z cs hs hd
   split at h<;>try (cases h;done)
   rename_i fd hf
   split at h<;>try (cases h;done)
   rename_i i hi
   rw [hd] at hv
   simp only [VT] at hv
   obtain⟨vs,he,h1,h2⟩:=hv
   exact gives_field hr ho hs hf hi he (partC_sound hE h2 (fun u hu=>h1 u (by simpa using hu)) (okT_some h))
 case indexAddr t x ix =>
  split at h<;>try (cases h;done)
  rename_i e j1 j2 z T xs kd n ht hd hdi
  split at h<;>try (cases h;done)
  rename_i i hi
  cases h
  simp only [Bool.and_eq_true,decide_eq_true_eq] at hc
  exact gives_index hr ho ht hi (TV.asList_ok hd) hdi hc.2.1 hc.2.2 (Nat.eq_of_beq_eq_true hc.1)
 case index t x ix =>
  split at h<;>try (cases h;done)
  rename_i j1 j2 z l kd n ht hd hdi
  cases h
  simp only [Bool.and_eq_true,decide_eq_true_eq] at hc
  exact gives_str_index hr ho ht hd hdi hc.1 hc.2
 case extract x j =>
  split at h<;>try (cases h;done)
  rename_i ds hd
  exact gives_extract hr ho hd (okT_some h)
 case build t parts =>
  split at h<;>try (cases h;done)
  rename_i fs j1 j2 z ht
  split at h<;>try (cases h;done)
  rename_i ds hf
  cases h
  exact gives_build hE hr ho ht hc hf (ty t)
 case convert src dst x =>
  have hb:=okT_some h
  have hv:=hr.ev x
  unfold convT at hb
  split at hb<;>try (cases hb;done)
  ·rename_i k n _ kk j1 j2 z hd hs hdst
   cases hb
   rw [hd] at hv
   obtain⟨xs,hxs,hus,-⟩:=tinfo_some hs
   obtain⟨xd,hxd,hud,-⟩:=tinfo_some hdst
   refine gives_v (f:=fun ρ=>convert src dst (ρ x)) (by simp [execOp,ho]) ⟨_,.int _ _ _ _,fun w' _=>?_⟩
   rw [hv.int_inv]
   unfold convert
   simp only [Sem.run_bind,run_underlying' hus,run_underlying' hud,Result.andThen_ok]
   rfl
  ·rename_i l _ j1 j2 z hd hs hdst
   cases hb
   rw [hd] at hv
   obtain⟨xs,hxs,hus,-⟩:=tinfo_some hs
   obtain⟨xd,hxd,hud,-⟩:=tinfo_some hdst
   refine gives_v (f:=fun ρ=>convert src dst (ρ x)) (by simp [execOp,ho]) ⟨_,.str _ _ _,fun w' _=>?_⟩
   rw [hv.str_inv]
   unfold convert mkStr
   simp only [Sem.run_bind,run_underlying' hus,run_underlying' hud,Result.andThen_ok]
   rfl
  ·rename_i k n _ j1 j2 z hd hs hdst
   cases hb
   rw [hd] at hv
   obtain⟨xs,hxs,hus,-⟩:=tinfo_some hs
   obtain⟨xd,hxd,hud,-⟩:=tinfo_some hdst
   refine gives_v (f:=fun ρ=>convert src dst (ρ x)) (by simp [execOp,ho]) ⟨_,.str _ _ _,fun w' _=>?_⟩
   rw [hv.int_inv]
   unfold convert mkStr runeStr
   simp only [Sem.run_bind,run_underlying' hus,run_underlying' hud,Result.andThen_ok]
   rfl
 case makeInterface t x =>
  split at h<;>try (cases h;done)
  rename_i ti hne ht
  cases h
  obtain⟨xt,hxt,hut,-⟩:=tinfo_some ht
  refine gives_v (f:=fun ρ=>Instr.makeInterface t (ρ x)) (by simp [execOp,ho]) ⟨.iface t (a.eval x),by simp only [VT];exact⟨_,rfl,hr.ev x⟩,fun w' _=>?_⟩
  unfold Instr.makeInterface
  simp only [Sem.run_bind,run_underlying' hut,Result.andThen_ok]
  split
  ·rename_i ms hk
   exact (hne ms _ _ _ (by rw [←hk])).elim
  ·rfl
 case slice t x lo hi mx =>
  cases mx with
  | some m=>simp at h
  | none =>
   simp only at h
   split at h<;>try (cases h;done)
   ·rename_i j1 j2 z l ht hd
    split at h<;>try (cases h;done)
    rename_i p q hp hq
    cases h
    simp only [Bool.and_eq_true,decide_eq_true_eq] at hc
    exact gives_slice_str hr ho ht hd hp hq hc.1 hc.2.1 hc.2.2
   ·rename_i e j1 j2 z ht
    split at h<;>try (cases h;done)
    rename_i T xs i hd hi'
    split at h<;>try (cases h;done)
    rename_i p q hp hq
    cases h
    simp only [Bool.and_eq_true,decide_eq_true_eq] at hc
    exact gives_slice_list hr ho ht hi' (TV.asList_ok hd) hp hq hc.2.1 hc.2.2.1 hc.2.2.2 (Nat.eq_of_beq_eq_true hc.1)
 case call c' =>
  split at h<;>try (cases h;done)
  rename_i x t hcl ha hat
  split at h<;>try (cases h;done)
  rename_i i ht
  have hb:=okT_some h
  have hv:=hr.ev x
  obtain⟨kind,j1,j2,z⟩:=i
  unfold lenT at hb
  split at hb<;>try (cases hb;done)
  ·rename_i l hk hd
   cases hb
   dsimp only at hk
   subst hk
   exact gives_len_str hr ho hcl ha hat ht hd
  ·rename_i e T xs hk hd
   cases hb
   dsimp only at hk
   subst hk
   rw [hd] at hv
   exact gives_len_slice hr ho hcl ha hat ht ((AsList.dat T xs).header hv)
  ·rename_i e j ver T xs hk hd
   cases hb
   dsimp only at hk
   subst hk
   rw [hd] at hv
   exact gives_len_slice hr ho hcl ha hat ht ((AsList.gsl j ver T xs).header hv)
  ·rename_i e hk hd
   cases hb
   dsimp only at hk
   subst hk
   rw [hd] at hv
   simp only [VT] at hv
   exact gives_len_slice (n:=0) hr ho hcl ha hat ht ⟨_,_,hv⟩
 all_goals cases h
end
end Go.RT
namespace Go.RT
set_option linter.unusedVariables false
variable {E : TEnv}
section
variable {P : Program} {w0 w w' w'' : World} {G0 G G' G'' : Ghost} {st : TS E} {a : Act}
theorem Goes.refl (w:World) (G:Ghost):Goes w G w G :=
 ⟨fun _ _ h=>h,fun _ _ _ _ h=>h,fun _ _ h=>h,fun j x h hj=>⟨x,h,hj,Nat.le_refl _,fun _=>rfl⟩⟩
theorem Goes.trans (h:Goes w G w' G') (h':Goes w' G' w'' G''):Goes w G w'' G'':=by
 refine⟨fun b o hp=>h'.pr b o (h.pr b o hp),fun b o v hp hv=>h'.cells b o v (h.pr b o hp) (h.cells b o v hp hv),fun r b hb=>h'.i r b (h.i r b hb),fun j x y hj=>?_⟩
 obtain⟨x1,y1,h1,l1,e1⟩:=h.g j x y hj
 obtain⟨x2,y2,h2,l2,e2⟩:=h'.g j x1 y1 h1
 refine⟨x2,y2,h2,Nat.le_trans l1 l2,fun e=>?_⟩
 have:x.ver=x1.ver:=Nat.le_antisymm l1 (e▸l2)
 rw [e2 (this.symm.trans e),e1 this]
theorem Evol.refl (w:World) (G:Ghost):Evol w G w G :=
 ⟨rfl,rfl,rfl,Nat.le_refl _,fun _ _ _=>rfl,.refl w G,fun _ _ _ h=>.inl h,fun r b hl hb=>by
  have:=(List.getElem?_eq_some_iff.1 hb).1;omega,fun j x h b hj hb=>.inr ⟨x,h,hj,hb⟩⟩
theorem MapRel.mono (hg:Goes w G w' G') {kt vt:Ty}:∀ {es:List MapEntry} {m:List (kt.den E.D × vt.den E.D)},MapRel E w G kt vt es m→MapRel E w' G' kt vt es m
 | [],[],_=>trivial
 | _::_,_::_,h=>⟨h.1.mono hg,h.2.1.mono hg,MapRel.mono hg h.2.2⟩
 | [],_::_,h=>h.elim
 | _::_,[],h=>h.elim
theorem DOk.mono (hg:Goes w G w' G') {d:Deferred} {x:FuncId × List (TV E)} (h:DOk E w G d x):DOk E w' G' d x :=
 h.imp (fun⟨h0,cap,h1,h2⟩=>⟨h0,cap,h1,h2.mono hg⟩) fun⟨h0,b,h1,h2⟩=>⟨h0,b,h1,h2.mono hg⟩
theorem DRel.mono (hg:Goes w G w' G'):∀ {ds:List Deferred} {xs:List (FuncId × List (TV E))},DRel E w G ds xs→DRel E w' G' ds xs
 | [],[],_=>trivial
 | _::_,_::_,h=>⟨h.1.mono hg,DRel.mono hg h.2⟩
 | [],_::_,h=>h.elim
 | _::_,[],h=>h.elim
theorem glob_mono (hg:Goes w G w' G') (h:∀b c,E.gt b=some c→TabOk E w G.pr b c.1 c.2):∀b c,E.gt b=some c→TabOk E w' G'.pr b c.1 c.2 :=
 fun b c hv=>VD.mono hg.pr hg.cells (h b c hv)
theorem BoxOk.mono (hg:Goes w G w' G') {b:Nat} {x:TBox E} (h:BoxOk E w G b x) (hb:w'.heap[b]? = w.heap[b]?):BoxOk E w' G' b x:=by
 cases x with
 | cells t cs =>
  obtain⟨vs,h1,h2,h3⟩:=h
  exact⟨vs,by rw [hb];exact h1,h2,h3.mono hg⟩
 | iter s pos=>show _=_;rw [hb];exact h
 | loop y ds=>obtain⟨Y,fn,tmps,D,h0,h1,h2⟩:=h;exact⟨Y,fn,tmps,D,h0,by rw [hb];exact h1,h2.mono hg⟩
 | gone=>obtain⟨o,h,h'⟩:=h;exact⟨o,by rw [hb];exact h,h'⟩
 | dfr=>show _=_;rw [hb];exact h
 | map kt vt m=>obtain⟨es,clock,h1,h2,h3⟩:=h;exact⟨es,clock,by rw [hb];exact h1,h2,h3.mono hg⟩
 | nrow e cap t xs d=>obtain⟨cur,h1,h2,h4,h5,h6⟩:=h;exact⟨cur,by rw [hb];exact h1,h2,fun i x hx=>(h4 i x hx).mono hg,h5.mono hg,h6⟩
theorem Same.alloc (w:World) (o:Obj):Same w (w.alloc o):=⟨by simp,fun b hb=>heap_alloc_old w o b hb⟩
theorem Same.trans {w1 w2 w3:World} (h:Same w1 w2) (h':Same w2 w3):Same w1 w3:=⟨Nat.le_trans h.1 h'.1,fun b hb=>(h'.2 b (Nat.lt_of_lt_of_le hb h.1)).trans (h.2 b hb)⟩
theorem GrowOk.same {x:TGrow} {h:Value} (hg:GrowOk E w G x h) (hs:Same w w') (hi:∀b,b∈G'.i→b<w.heap.size→b∈G.i) (hpo:∀b o,b<w.heap.size→G'.pr b o→G.pr b o):GrowOk E w' G' x h:=by
 obtain⟨n,xs,ho,hz,hb⟩:=hg
 refine⟨n,xs,⟨ho.1,?_⟩,hz,fun b hbl=>?_⟩
 ·rcases ho.2 with h2 | ⟨g,cap,cur,h2,h3,h4,h5⟩
  ·exact .inl h2
  ·exact .inr ⟨g,cap,cur,h2,h3,by rw [hs.2 g (Array.getElem?_eq_some_iff.1 h4).1];exact h4,h5⟩
 ·obtain⟨h1,h2,h3⟩:=hb b hbl
  exact⟨Nat.lt_of_lt_of_le h1 hs.1,fun hm=>h2 (hi b hm h1),fun o hno hpr=>h3 o hno (hpo b o h1 hpr)⟩
theorem SoftOk.keep {x x':TGrow} {hd:Value} {c:Cn E} (h:SoftOk E w G x hd c) (he:x'.e=x.e) (hk:x'.k=x.k) (hpr:∀b o,G.pr b o→G'.pr b o) (hcl:∀b o v,G.pr b o→w.cell? ⟨b,o,none⟩=some v→w'.cell? ⟨b,o,none⟩=some v) (hb:∀b,hd.ownBlock=some b→w'.heap[b]? = w.heap[b]?∧∀o,G'.pr b o→G.pr b o) :
  SoftOk E w' G' x' hd c:=by
 obtain⟨h1,h2,⟨vals,ho,hf⟩,hp⟩:=h
 refine⟨by rw [hk];exact h1,by rw [hk];exact h2,⟨vals,⟨by rw [hk];exact ho.1,?_⟩,by rw [hk];exact hf.mono hpr hcl⟩,fun b hbk o hpr=>hp b hbk o ((hb b hbk).2 o hpr)⟩
 rcases ho.2 with q | ⟨g,cap,cur,q1,q2,q3,q4⟩
 ·exact .inl q
 ·refine .inr ⟨g,cap,cur,q1,q2,?_,by rw [hk];exact q4⟩
  rw [(hb g (by rw [q1];rfl)).1,he];exact q3
theorem Softs.keep {cs:List (Nat × Cn E)} (h:Softs E w G cs) (hg:Goes w G w' G') (hrow:∀(j:Nat) x hd,G.g[j]? = some (x,hd)→(∃c,(j,c)∈cs)→∃x',G'.g[j]? = some (x',hd)∧x'.e=x.e∧x'.k=x.k∧∀b,hd.ownBlock=some b→w'.heap[b]? = w.heap[b]?∧∀o,G'.pr b o→G.pr b o) :
  Softs E w' G' cs:=by
 intro j c hj
 obtain⟨x,hd,h1,h2⟩:=h j c hj
 obtain⟨x',q1,q2,q3,q4⟩:=hrow j x hd h1 ⟨c,hj⟩
 exact⟨x',hd,q1,h2.keep q2 q3 hg.pr hg.cells q4⟩
theorem Rel.grow (h:Rel E w0 G0 st a w G) (hs:Same w w') (h1:w'.os=w.os) (h2:w'.tape=w.tape) (h3:w'.output=w.output) (pr':Nat→Nat→Prop)
  (hp:∀b o,G.pr b o→pr' b o) (hpo:∀b o,b<w.heap.size→pr' b o→G.pr b o) (hpn:∀b o,pr' b o→b<w'.heap.size) :
  Rel E w0 G0 st a w' { G with pr:=pr' }:=by
 have hg:Goes w G w' { G with pr:=pr' }:=⟨hp,fun b o v _ hv=>hs.cell hv,fun _ _ h=>h,fun j x y hj=>⟨x,y,hj,Nat.le_refl _,fun _=>rfl⟩⟩
 have ev:=h.evol
 refine⟨⟨h1.trans ev.os,h2.trans ev.tape,h3.trans ev.output,Nat.le_trans ev.size hs.1,fun b hb hn=>(hs.2 b (Nat.lt_of_lt_of_le hb ev.size)).trans (ev.old b hb hn),ev.goes.trans hg,
  fun b o hb hpr=>ev.prold b o hb (hpo b o (Nat.lt_of_lt_of_le hb ev.size) hpr),ev.newB,ev.newG⟩,h.size,fun j d hj=>(h.tmps j d hj).mono hg,h.defers.mono hg,?_,fun r b hb hd=>(hs.2 b (h.boxes.lt b (List.mem_of_getElem? (h.evol.goes.i r b hb)))).trans (h.fix r b hb hd),h.pins,h.softs.keep hg fun j x hd hj _=>⟨x,hj,rfl,rfl,fun b hbk=>by
   obtain⟨n,xs,-,-,hb⟩:=h.boxes.grow j x hd hj
   exact⟨hs.2 b (hb b hbk).1,fun o=>hpo b o (hb b hbk).1⟩⟩⟩
 refine⟨h.boxes.len,h.boxes.gs,fun r b x hb hx=>(h.boxes.box r b x hb hx).mono hg (hs.2 b (h.boxes.lt b (List.mem_of_getElem? hb))),fun b hb=>Nat.lt_of_lt_of_le (h.boxes.lt b hb) hs.1,h.boxes.nodup,
  fun b o hpr=>⟨hpn b o hpr,fun hm=>(h.boxes.prok b o (hpo b o (h.boxes.lt b hm) hpr)).2 hm⟩,fun j x y hj=>(h.boxes.grow j x y hj).same hs (fun b hb _=>hb) hpo,h.boxes.apart,glob_mono hg h.boxes.glob⟩
theorem Rel.newBox (h:Rel E w0 G0 st a w G) (o:Obj) (x:TBox E) (hx:BoxOk E (w.alloc o) G w.heap.size x) :
  Rel E w0 G0 { st with H:=st.H++[x] } a (w.alloc o) { G with i:=G.i++[w.heap.size] }:=by
 have h':=h.grow (Same.alloc w o) rfl rfl rfl G.pr (fun _ _ h=>h) (fun _ _ _ h=>h) (fun b o' hp=>Nat.lt_of_lt_of_le (h.boxes.prok b o' hp).1 (by simp))
 have hg:Goes (w.alloc o) G (w.alloc o) { G with i:=G.i++[w.heap.size] }:=⟨fun _ _ h=>h,fun _ _ _ _ h=>h,fun r b hb=>by
  show (G.i++[w.heap.size])[r]? = some b
  rw [List.getElem?_append_left (List.getElem?_eq_some_iff.1 hb).1];exact hb,fun j x y hj=>⟨x,y,hj,Nat.le_refl _,fun _=>rfl⟩⟩
 have ev:=h'.evol
 have hlen:G0.i.length≤G.i.length:=by
  by_cases h0:G0.i.length=0
  ·omega
  ·have hl:G0.i.length - 1<G0.i.length:=by omega
   have:=(List.getElem?_eq_some_iff.1 (ev.goes.i _ _ (List.getElem?_eq_getElem hl))).1
   have this:G0.i.length - 1<G.i.length:=this
   omega
 refine⟨⟨ev.os,ev.tape,ev.output,ev.size,ev.old,ev.goes.trans hg,ev.prold,fun r b hl hb=>?_,ev.newG⟩,h.size,fun j d hj=>(h'.tmps j d hj).mono hg,h'.defers.mono hg,?_,h'.fix,h.pins,h'.softs.keep hg fun j x hd hj _=>⟨x,hj,rfl,rfl,fun b hbk=>⟨rfl,fun o h=>h⟩⟩⟩
 ·by_cases hr:r<G.i.length
  ·rw [List.getElem?_append_left hr] at hb
   exact ev.newB r b hl hb
  ·have:=(List.getElem?_eq_some_iff.1 hb).1
   simp at this
   have hre:r=G.i.length:=by omega
   subst hre
   simp at hb
   subst hb
   exact h.evol.size
 refine⟨by simp [h.boxes.len],h.boxes.gs,fun r b y hb hy=>?_,fun b hb=>?_,?_,fun b o' hp=>?_,fun j y z hj=>?_,h.boxes.apart,glob_mono hg h'.boxes.glob⟩
 ·by_cases hr:r<G.i.length
  ·rw [List.getElem?_append_left hr] at hb
   rw [List.getElem?_append_left (by rw [←h.boxes.len];exact hr)] at hy
   exact (h'.boxes.box r b y hb hy).mono hg rfl
  ·have:=(List.getElem?_eq_some_iff.1 hb).1
   simp at this
   have hre:r=G.i.length:=by omega
   subst hre
   simp at hb
   rw [h.boxes.len] at hy
   simp at hy
   subst hb;subst hy
   exact hx.mono hg rfl
 ·rcases List.mem_append.1 hb with hb | hb
  ·exact h'.boxes.lt b hb
  ·simp at hb;subst hb;simp
 ·refine List.nodup_append.2 ⟨h.boxes.nodup,by simp,fun b hb c hc=>?_⟩
  simp at hc
  subst hc
  exact Nat.ne_of_lt (h.boxes.lt b hb)
 ·obtain⟨p1,p2⟩:=h.boxes.prok b o' hp
  refine⟨Nat.lt_of_lt_of_le p1 (by simp),fun hm=>?_⟩
  rcases List.mem_append.1 hm with hm | hm
  ·exact p2 hm
  ·simp at hm;omega
 ·refine (h.boxes.grow j y z hj).same (Same.alloc w o) (fun b hb hlt=>?_) (fun _ _ _ h=>h)
  rcases List.mem_append.1 hb with hb | hb
  ·exact hb
  ·simp at hb;omega
end
end Go.RT
