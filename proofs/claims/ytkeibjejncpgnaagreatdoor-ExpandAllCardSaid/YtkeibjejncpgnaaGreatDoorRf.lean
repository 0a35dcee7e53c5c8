import Derived.Test.YtkeibjejncpgnaaGreatDoorRd
set_option linter.all false
namespace Go.RT
variable {E : TEnv}
section
variable {P : Program} {w0 w w' : World} {G0 G G' : au} {st : TS E} {a : Act} {o : Oper}
theorem Dp (hE:E.Ok) (hr:Rel E w0 G0 st a w G) {t:TypeId} {x:Operand} {i:TI} (ho:o.op=.load t x) (ht:aB P t=some i) {j k ix off:Nat} {g:aZ} {c:Cn E} (hd:st.ev x=.dK j g.ai k ix off)
  (hg:st.g[j]? = some g) (hc:fL st.c j=some c) (hk:k=c.1.size E) {d:TV E} (hp:TV.part c.1 (c.2.getD ix (c.1.dflt E)) i.isAgg i.size off=some d):fP P a w G o d:=by
 have hv:=hr.ev x;rw [hd] at hv;obtain⟨b,m,cap,hj,hlt,dL⟩:=hr.dK hg hv;obtain⟨h,hj',hs,-⟩:=hr.soft hg hc;rw [hj] at hj';cases hj';rcases hs.block with⟨h1,-⟩ | ⟨b',cap',cur,h1,hheap,hcap,hcm,hcs,hf,hnp⟩
 ·cases h1
 simp only [Value.slice.injEq,nh,Addr.mk.injEq,and_true] at h1;obtain⟨rfl,rfl,rfl⟩:=h1;obtain⟨vs,h2,h3,-,h4⟩:=Vd hs.1 hheap hf (by rw [hcs];exact ir _ hcap) hlt;obtain⟨v,hv,hrun⟩:=nG (P:=P) (b:=b) (o':=ix * g.k) ht h4 (AJ hE h2 hp);refine cy (f:=fun ρ=>Instr.loadAt t (ρ x)) (by simp [execOp,ho]) ⟨v,hv,fun w' hs'=>?_⟩;rw [dL,hk,←hs.1];exact hrun w' (hs' (by rw [ho];rfl))
theorem Y7 (A us C vals:List Value) (off:Nat) (h:off+vals.length≤us.length) :
  ((A++us++C).take (A.length+off)++vals++(A++us++C).drop (A.length+off+vals.length))=A++(us.take off++vals++us.drop (off+vals.length))++C:=by
 have e1:(A++us++C).take (A.length+off)=A++us.take off:=by
  rw [iu,adh,mw om,show A.length+off - A.length=off by omega,adh,show off - us.length=0 by omega];simp
 have e2:(A++us++C).drop (A.length+off+vals.length)=us.drop (off+vals.length)++C:=by
  rw [iu,XA,Ny om,show A.length+off+vals.length - A.length=off+vals.length by omega,XA,show off+vals.length - us.length=0 by omega];simp
 rw [e1,e2];simp [iu]
theorem abE (hE:E.Ok) {T:Ty} {x:T.den E.D} {us:List Value} {cs:List (TV E)} (h:LD w G.pr us (T.cells E x)) (hc:(TV.dat (E:=E) T x).kO=some cs):aP E w G cs us:=by
 simp only [TV.kO] at hc;cases ha:T.isAgg<;>rw [ha] at hc<;>simp only [cond_true,cond_false] at hc
 ·cases hc
  have hl:us.length=1:=by
   rw [h.length];cases T<;>first | rfl | cases ha
  obtain⟨u,rfl⟩:=adi.1 hl;exact .cons (.LB ha h) .nil
 ·exact yA hE 4 T x h hc
theorem abF (hE:E.Ok) (hr:Rel E w0 G0 st a w G) {t:TypeId} {x y:Operand} {i:TI} (ho:o.op=.store t x y) (ht:aB P t=some i) {j k ix off:Nat} {g:aZ} {c:Cn E} (hd:st.ev x=.dK j g.ai k ix off)
  (hg:st.g[j]? = some g) (hc:fL st.c j=some c) (hk:k=c.1.size E) {cs ds:List (TV E)} (hcs:(TV.dat (E:=E) c.1 (c.2.getD ix (c.1.dflt E))).kO=some cs) (hy:(st.ev y).kO=some ds) (h4:ds.length=i.size) (h5:off+i.size≤cs.length)
  {x':c.1.den E.D} (ahw:JP E 4 c.1 (cs.take off++ds++cs.drop (off+ds.length))=some (x',[])) :
  fu P w0 G0 a w o { st with t:=br st.t o.dst .any,c:=(j,⟨c.1,c.2.set ix x'⟩)::fF j st.c }:=by
 have hv:=hr.ev x;rw [hd] at hv;obtain⟨b,m,cap,hj,hlt,dL⟩:=hr.dK hg hv;obtain⟨h,hj',hs,-⟩:=hr.soft hg hc;rw [hj] at hj';cases hj';rcases hs.block with⟨h1,-⟩ | ⟨b',cap',cur,h1,hheap,hcap,hcm,JV,hf,hnp⟩
 ·cases h1
 simp only [Value.slice.injEq,nh,Addr.mk.injEq,and_true] at h1;obtain⟨rfl,rfl,rfl⟩:=h1;have hle:c.2.length * g.k≤cur.size:=by rw [JV];exact ir _ hcap
 obtain⟨us,h2,h3,wX,-⟩:=Vd hs.1 hheap hf hle hlt;obtain⟨hl,hl1⟩:=qO hE (hr.ev y) hy;have hlen:(a.eval y).cells.toList.length=i.size:=by rw [hl.length,h4]
 have hlen':(a.eval y).cells.size=i.size:=by simpa using hlen
 have BL:=abE hE h2 hcs;have hcl:cs.length=g.k:=by rw [←BL.length,h3]
 obtain⟨xt,eA,-,hxs,-⟩:=aq ht
 have hik:ix * g.k+g.k≤c.2.length * g.k:=by
  have:(ix+1) * g.k≤c.2.length * g.k:=ir _ hlt;rw [lD,Nz] at this;exact this
 have hfit:(ix * g.k+off)+0+(a.eval y).cells.toList.length≤cur.size:=by rw [hlen];omega
 have y6:=run_storeCells_at (P:=P) b (ix * g.k+off) g.e (a.eval y).cells.toList 0 cur w hheap hfit (fun v hv=>hl1 v (by simpa using hv));simp only [lE] at y6
 let new:=(cur.toList.take (ix * g.k+off)++(a.eval y).cells.toList++cur.toList.drop (ix * g.k+off+(a.eval y).cells.toList.length)).toArray
 have hrun:(execOp a.eval o).run P w=.ok .skip (w.setRow b new):=by
  simp only [execOp,ho,Instr.storeAt,Instr.sureAddr,dL,hk,←hs.1,storeVar,Sem.run_bind,Sem.run_pure,Result.andThen_ok,bQ eA,hxs,hlen'];simp only [ne_eq,not_true,if_false,y6,Result.andThen_ok];rfl
 have anw:=((BL.take off).append hl).append (BL.drop (off+ds.length));obtain⟨us1,ts,e1,e2,e3⟩:=vo hE 4 c.1 anw ahw;simp only [aP] at e3;subst e3;rw [qC] at e1;have hu1:us1.length=g.k:=by rw [e2.length,Ty.qN E hE,←hs.1]
 have anx:cur.toList=cur.toList.take (ix * g.k)++us++cur.toList.drop (ix * g.k+g.k):=by
  rw [wX]
  conv=>lhs;rw [←um (ix * g.k) cur.toList,←um g.k (cur.toList.drop (ix * g.k))]
  rw [XB,iu]
 have hA:(cur.toList.take (ix * g.k)).length=ix * g.k:=by simp;omega
 have LJ:new.toList=cur.toList.take (ix * g.k)++us1++cur.toList.drop (ix * g.k+us1.length):=by
  have:=Y7 (cur.toList.take (ix * g.k)) us (cur.toList.drop (ix * g.k+g.k)) (a.eval y).cells.toList off (by rw [hlen,h3];omega);rw [←anx,hA] at this;simp only [new,adj];rw [this,hu1,←e1,hl.length]
 have ahx:new.size=cur.size:=by
  have:new.toList.length=cur.toList.length:=by
   rw [LJ];simp only [eW,gB,xw,mz,hu1];omega
  simpa using this
 have hfl:Flat w G.pr g.k (new.toList.take ((c.2.set ix x').length * g.k)) ((c.2.set ix x').map (c.1.cells E)):=by
  have h9:=hf.splice (Flat.single e2 hu1) (p:=ix) bx;rw [List.length_set,LJ,M6 _ _ om (by simpa using hle)]
  have h10:(c.2.set ix x').map (c.1.cells E)=(c.2.map (c.1.cells E)).take ix++[c.1.cells E x']++(c.2.map (c.1.cells E)).drop (ix+[c.1.cells E x'].length):=by
   rw [OY,List.set_eq_take_append_cons_drop,if_pos (by simpa using hlt)];simp
  rw [h10];exact h9
 have hR:=hr.Ve hg hc hj hheap ahx (xs':=c.2.set ix x') si hfl;exact⟨_,undef,_,G,hrun,.inr ⟨rfl,rfl⟩,hR.put (v:=undef) (by simp only [VT]) o.dst⟩
theorem Rel.SK (h:Rel E w0 G0 st a w G) {j:Nat} {c:Cn E} (hs:∃x hd,G.g[j]? = some (x,hd)∧lW E w G x hd c):Rel E w0 G0 { st with c:=(j,c)::st.c } a w G :=
 ⟨h.cK,h.size,h.tmps,h.defers,h.boxes,h.fix,h.pins,fun i c' hm=>by
  rcases fK.1 hm with e | hm
  ·cases e;exact hs
  ·exact h.dI i c' hm⟩
theorem Vg {pr:Nat→Nat→Prop} {k:Nat} (hk0:0<k) {z:Array Value} (hz:z.size=k) {e:List DV} (h:LD w pr z.toList e) {n m:Nat} (hn:n≤m):Flat w pr k ((madeCells z (m * k)).toList.take (n * k)) (List.replicate n e):=by
 have hel:e.length=k:=by rw [←h.length];simpa using hz
 have hnm:n * k≤m * k:=ir k hn;refine⟨by rw [gB,mz,size_madeCells,XC];exact Ee hnm,fun j hj=>?_,fun j l hj hl=>?_⟩
 ·simp at hj
  simp [List.getD,hj,hel]
 ·simp at hj
  have hjl:=BI hj hl
  have e1:((madeCells z (m * k)).toList.take (n * k)).getD (j * k+l) undef=z.toList.getD l undef:=by
   simp only [List.getD];rw [qD,if_pos hjl];have h1:(j * k+l) % z.size=l:=by rw [hz,R9,Nat.mul_add_mod,XD hl]
   have h2:j * k+l<m * k:=om;have h3:l<z.size:=om;simp [madeCells,h2,h1,h3]
  have e2:(List.replicate n e).getD j []=e:=by simp [List.getD,hj]
  rw [e1,e2]
  have:∀ {vs:List Value} {ds:List DV} (l:Nat),LD w pr vs ds→l<ds.length→VD w pr (vs.getD l undef) (ds.getD l default):=by
   intro vs
   induction vs with
   | nil=>intro ds l h hl;cases ds with | nil=>simp at hl | cons _ _=>exact h.elim
   | cons v vs ih =>
    intro ds l h hl
    cases ds with
    | nil=>exact h.elim
    | cons d ds =>
     cases l with
     | zero=>simpa using h.1
     | succ l=>simpa using ih l h.2 (by simpa using hl)
  exact this l h om
theorem aeh (hE:E.Ok) (hr:Rel E w0 G0 st a w G) {t e:TypeId} {x y:Operand} {j1 j2:Nat} {z0:Value} {ie:TI} (ho:o.op=.makeSlice t x y) (ht:aB P t=some ⟨.slice e,j1,j2,z0⟩) (hi:aB P e=some ie) {T:Ty} {z:T.den E.D} {k1 k2:IntKind} {n m:Int}
  (hx:st.ev x=.dat (.int k1) n) (hy:st.ev y=.dat (.int k2) m) (hk:ie.size=T.size E) (hk0:0<ie.size) (hzs:ie.zero.cells.size=ie.size) (hz1:ie.zero.cells.toList.all (·.oneCell')=true) (hz:(pN E (some T) ie.zero).get T=some z)
  (h0:0≤n) (h1:n≤m) (h2:0<m) (h3:m≤9223372036854775807) (h4:(ie.bytes:Int) * m≤140737488355328) :
  fu P w0 G0 a w o { st with t:=br st.t o.dst (.cw st.g.length 0),g:=st.g++[⟨0,e,ie.size⟩],c:=(st.g.length,⟨T,List.replicate n.toNat z⟩)::st.c }:=by
 have mU:=hr.ev x;rw [hx] at mU;have wY:=hr.ev y;rw [hy] at wY;obtain⟨xt,eA,bw,-⟩:=aq ht;obtain⟨xe,fZ,jA,hsz,hby,hzz⟩:=aq hi;have hrun:=run_make (P:=P) w t e xe ie.zero bw fZ hzz k1 k2 n m h0 h1 (by rw [hby];omega) h3;rw [hsz] at hrun;have M1:VT E w G (.dat T z) ie.zero:=TV.nF hz (Fp hE (ty:=some T) hz1);have M3:=M1.Dk;have XZ:maxLen=9223372036854775807:=rfl
 let cur:=madeCells ie.zero.cells (m.toNat * ie.size)
 have hcs:cur.size=m.toNat * ie.size:=size_madeCells _ _;have hG:=hr.grow (cL.alloc w (.cells cur e)) rfl rfl rfl G.pr (fun _ _ h=>h) (fun _ _ _ h=>h) (fun b o hp=>eF (hr.boxes.dH b o hp).1 si);have hnp:∀o,¬ G.pr w.heap.size o:=fun o hp=>absurd (hr.boxes.dH _ _ hp).1 (mA _);have hheap:(w.alloc (.cells cur e)).heap[w.heap.size]? = some (.cells cur e):=heap_alloc_new w _
 have hown:(w.alloc (.cells cur e)).ownsRow 0 e ie.size (.slice (some ⟨w.heap.size,0,none⟩) n.toNat m.toNat) n.toNat (cur.toList.take (n.toNat * ie.size)):=by
  refine⟨?_,.inr ⟨w.heap.size,m.toNat,cur,rfl,fT _,hheap,om,om,hcs,rfl⟩⟩;rw [gB,mz,hcs];exact Ee (ir _ om)
 have hA:=hG.xG ⟨0,e,ie.size⟩ (.slice (some ⟨w.heap.size,0,none⟩) n.toNat m.toNat) ⟨n.toNat,_,hown,fun a q h=>by simp at h;omega,fun b hb=>by
   cases hb;exact⟨si,fun hm=>absurd (hr.boxes.lt _ hm) (mA _),fun o _ hp=>hnp o hp⟩⟩ (fun b hb=>by cases hb;exact hr.cK.size) (fun j y z b hj Y8 hb=>by
   cases hb;obtain⟨n',xs',-,-,hb'⟩:=hr.boxes.grow j y z hj;exact absurd (hb' _ Y8).1 (mA _))
 have hrl:=hr.kQ;have gv:(G.g++[((⟨0,e,ie.size⟩:aZ),Value.slice (some ⟨w.heap.size,0,none⟩) n.toNat m.toNat)])[st.g.length]? = some (⟨0,e,ie.size⟩,.slice (some ⟨w.heap.size,0,none⟩) n.toNat m.toNat):=by rw [←hrl];simp
 have hC:=hA.SK (j:=st.g.length) (c:=⟨T,List.replicate n.toNat z⟩) ⟨⟨0,e,ie.size⟩,_,gv,hk,hk0,⟨_,by simp only [XC];exact hown,by
   rw [List.map_replicate];exact Vg hk0 hzs (M3.mono (fun _ _ h=>h) (fun b o v _ hv=>(cL.alloc w _).cell hv)) om⟩,fun b hb o hp=>by cases hb;exact hnp o hp⟩
 refine⟨.value _,_,_,_,?_,.inl rfl,hC.put (d:=.cw st.g.length 0) (v:=.slice (some ⟨w.heap.size,0,none⟩) n.toNat m.toNat) ?_ o.dst⟩
 ·simp only [execOp,ho,mU.dw,wY.dw,Sem.run_bind,hrun,Result.andThen_ok]
  rfl
 ·simp only [VT]
  exact⟨⟨0,e,ie.size⟩,_,gv,bM _,rfl,fun _=>rfl⟩
theorem abG (hE:E.Ok) (hr:Rel E w0 G0 st a w G) {t e:TypeId} {len:Nat} {parts:Array (Nat × Operand)} {j1 j2:Nat} {z:Value} {ie:TI} (ho:o.op=.buildSlice t len parts)
  (ht:aB P t=some ⟨.slice e,j1,j2,z⟩) (hi:aB P e=some ie) (h1:parts.toList.map (·.1)=List.range len) (h2:len * ie.size≤16777216) (h3:0<ie.size) (h0':0<len)
  {T:Ty} {xs:List (T.den E.D)} (hk:ie.size=T.size E) (hx:jK T (parts.toList.map fun p=>st.ev p.2)=some xs) :
  fu P w0 G0 a w o { st with t:=br st.t o.dst (.cw st.g.length 0),g:=st.g++[⟨0,e,ie.size⟩],c:=(st.g.length,⟨T,xs⟩)::st.c }:=by
 obtain⟨cs,hrun,hcs,yD,hfl⟩:=JX hE hr ho ht hi h1 h2 h3 h0' hk hx;have XZ:maxLen=9223372036854775807:=rfl;have hG:=hr.grow (cL.alloc w (.cells cs e)) rfl rfl rfl G.pr (fun _ _ h=>h) (fun _ _ _ h=>h) (fun b o hp=>eF (hr.boxes.dH b o hp).1 si);have hnp:∀o,¬ G.pr w.heap.size o:=fun o hp=>absurd (hr.boxes.dH _ _ hp).1 (mA _);have hheap:(w.alloc (.cells cs e)).heap[w.heap.size]? = some (.cells cs e):=heap_alloc_new w _
 have hown:(w.alloc (.cells cs e)).ownsRow 0 e ie.size (.slice (some ⟨w.heap.size,0,none⟩) len len) len (cs.toList.take (len * ie.size)):=by
  refine⟨?_,.inr ⟨w.heap.size,len,cs,rfl,fT _,hheap,bM _,by have:len≤len * ie.size:=aiq _ h3;omega,hcs,rfl⟩⟩;rw [gB,mz,hcs];exact Nat.min_self _
 have hA:=hG.xG ⟨0,e,ie.size⟩ (.slice (some ⟨w.heap.size,0,none⟩) len len) ⟨len,_,hown,fun a q h=>by simp at h;omega,fun b hb=>by
   cases hb;exact⟨si,fun hm=>absurd (hr.boxes.lt _ hm) (mA _),fun o _ hp=>hnp o hp⟩⟩ (fun b hb=>by cases hb;exact hr.cK.size) (fun j y z b hj Y8 hb=>by
   cases hb;obtain⟨n',xs',-,-,hb'⟩:=hr.boxes.grow j y z hj;exact absurd (hb' _ Y8).1 (mA _))
 have hrl:=hr.kQ;have gv:(G.g++[((⟨0,e,ie.size⟩:aZ),Value.slice (some ⟨w.heap.size,0,none⟩) len len)])[st.g.length]? = some (⟨0,e,ie.size⟩,.slice (some ⟨w.heap.size,0,none⟩) len len):=by rw [←hrl];simp
 have hC:=hA.SK (j:=st.g.length) (c:=⟨T,xs⟩) ⟨⟨0,e,ie.size⟩,_,gv,hk,h3,⟨_,by rw [yD];exact hown,hfl.mono (fun _ _ h=>h) (fun b o v _ hv=>(cL.alloc w _).cell hv)⟩,fun b hb o hp=>by cases hb;exact hnp o hp⟩;refine⟨.value _,_,_,_,hrun,.inl rfl,hC.put (d:=.cw st.g.length 0) (v:=.slice (some ⟨w.heap.size,0,none⟩) len len) ?_ o.dst⟩;simp only [VT];exact⟨⟨0,e,ie.size⟩,_,gv,bM _,rfl,fun _=>rfl⟩
def aei (ty:TypeId→Option Ty):Option Nat→Bool
 | some i=>match ty (2000000+i) with
  | some _=>true
  | none=>false
 | none=>false
def Y9 (P:Program) (ty:TypeId→Option Ty) (st:TS E) (dst:Option Nat):Op→Option (Bool × TS E)
 | .buildSlice t len parts=>cond (aei ty dst) (match aB P t with
  | some ⟨.slice e,_,_,_⟩=>match aB P e,ty e with
   | some ie,some T=>match jK T (parts.toList.map fun p=>st.ev p.2) with
    | some xs=>some (Nat.blt 0 len&&(decide (parts.toList.map (·.1)=List.range len)&&(Nat.ble (len * ie.size) 16777216&&(Nat.blt 0 ie.size&&Nat.beq ie.size (T.size E)))),
       { st with t:=br st.t dst (.cw st.g.length 0),g:=st.g++[⟨0,e,ie.size⟩],c:=(st.g.length,⟨T,xs⟩)::st.c })
    | none=>none
   | _,_=>none
  | _=>none) none
 | _=>none
theorem aej (hE:E.Ok) (hr:Rel E w0 G0 st a w G) {ty:TypeId→Option Ty} {st':TS E} {c:Bool} (h:Y9 P ty st o.dst o.op=some (c,st')) (hc:c=true):fu P w0 G0 a w o st':=by
 cases ho:o.op<;>rw [ho] at h<;>try (cases h;done)
 case buildSlice t len parts =>
  simp only [Y9] at h;cases hb:aei ty o.dst<;>rw [hb] at h<;>simp only [cond_true,cond_false] at h
  ·cases h
  split at h<;>try (cases h;done)
  rename_i e j1 j2 z ht;split at h<;>try (cases h;done)
  rename_i ie T hi hT;split at h<;>try (cases h;done)
  rename_i xs hx;cases h;simp only [aV,decide_eq_true_eq] at hc;exact abG hE hr ho ht hi hc.2.1 (ef hc.2.2.1) (ef hc.2.2.2.1) (ef hc.1) (bt hc.2.2.2.2) hx
theorem Rel.afW (hr:Rel E w0 G0 st a w G) {j:Nat} {g:aZ} {c:Cn E} (hg:st.g[j]? = some g) (hc:fL st.c j=some c) {v v':Value} (hj:G.g[j]? = some (g,v)) (qi:w.grownBy w' v.ownBlock) {ys:List (c.1.den E.D)} {vals:List Value}
  (hown:w'.ownsRow 0 g.e g.k v' ys.length vals) (hf:Flat w G.pr g.k vals (ys.map (c.1.cells E))) (hblk:∀b,v'.ownBlock=some b→w.heap.size≤b∨v.ownBlock=some b) (hz:∀a m,v'=.slice (some a) m 0→E.zc g.e=true) (h1:v'.oneCell'=true) :
  ∃G',Rel E w0 G0 { st with g:=st.g.set j { g with ai:=g.ai+1 },c:=(j,⟨c.1,ys⟩)::fF j st.c } a w' G'∧VT E w' G' (.cw j (g.ai+1)) v':=by
 obtain⟨h,hj',hs,-⟩:=hr.soft hg hc;rw [hj] at hj';cases hj';obtain⟨n0,YP,M5,BJ,hb0⟩:=hr.boxes.grow j g v hj;have hnp:=hs.2.2.2
 have akU:∀b,v'.ownBlock=some b→∀o,¬ G.pr b o:=fun b hb o hp=>by
  rcases hblk b hb with q | q
  ·have:=(hr.boxes.dH b o hp).1;omega
  ·exact hnp b q o hp
 have hcells:∀b o u,G.pr b o→w.cell? ⟨b,o,none⟩=some u→w'.cell? ⟨b,o,none⟩=some u:=fun b o u hp hu =>
  qi.cell hu (fun e=>hnp b e.symm o hp)
 have hjl:j<G.g.length:=(bS.1 hj).1
 have key:=hr.setRow (x':={ g with ai:=g.ai+1 }) (hd':=v') (cs:=(j,⟨c.1,ys⟩)::fF j st.c) hj (Nat.le_succ _) (fun e=>by simp at e) qi.size qi.os qi.tape qi.output
  (fun b hb hne=>qi.block b hb (fun e=>hne e.symm)) hcells G.pr (fun _ _ h=>h) (fun _ _ h=>.inl h)
  ⟨ys.length,vals,hown,hz,fun b hb=>⟨(hown.lt b hb).2,fun hm=>by
   rcases hblk b hb with q | q
   ·have:=hr.boxes.lt b hm;omega
   ·exact (hb0 b q).2.1 hm,fun o _ hp=>akU b hb o hp⟩⟩ hblk (fun hg'=>?_)
 ·refine⟨_,key,?_⟩
  simp only [VT];exact⟨{ g with ai:=g.ai+1 },v',by simp [hjl],bM _,h1,fun _=>rfl⟩
 ·intro i c' hm
  rcases fK.1 hm with e | hm
  ·cases e
   exact⟨{ g with ai:=g.ai+1 },v',by simp [hjl],hs.1,hs.2.1,⟨vals,hown,hf.mono hg'.pr hg'.cells⟩,akU⟩
  ·obtain⟨hm,hne⟩:=oq hm
   obtain⟨x,hd,q1,q2⟩:=hr.dI i c' hm;obtain⟨n1,xs1,-,-,sE⟩:=hr.boxes.grow i x hd q1;refine⟨x,hd,?_,q2.keep rfl rfl hg'.pr hg'.cells fun b hb=>⟨qi.block b (sE b hb).1 (fun e=>hne (hr.boxes.apart i j x hd g v b q1 hj hb e.symm)),fun o hp=>hp⟩⟩;show (G.g.set j _)[i]? = _;rw [iB (fun e=>hne e.symm)];exact q1
theorem Za (hE:E.Ok) (hr:Rel E w0 G0 st a w G) {cl:Call} {x y:Operand} {t tx e:TypeId} {j1 j2:Nat} {z:Value} {ie:TI} (ho:o.op=.call cl) (hcl:cl.callee=.builtin .append) (ha:cl.args.toList=[x,y]) (hat:cl.argTypes.toList=[t,tx])
  (ht:aB P t=some ⟨.slice e,j1,j2,z⟩) (hi:aB P e=some ie) {j:Nat} {g:aZ} {c:Cn E} (hx:st.ev x=.cw j g.ai) (hg:st.g[j]? = some g) (hc:fL st.c j=some c) (hge:g.e=e) (pM:g.k=ie.size) (hzs:ie.zero.cells.size=ie.size)
  {ys:List (c.1.den E.D)} (h63:c.2.length+ys.length≤9223372036854775807) (hbytes:(c.2.length+ys.length) * ie.bytes≤140737488355328)
  {news:List Value} (hsrc:Src P ie.size tx (a.eval y) ys.length news w) (hf:Flat w G.pr ie.size news (ys.map (c.1.cells E))) :
  fu P w0 G0 a w o { st with t:=br st.t o.dst (.cw j (g.ai+1)),g:=st.g.set j { g with ai:=g.ai+1 },c:=(j,⟨c.1,c.2++ys⟩)::fF j st.c }:=by
 have mT:cl.args=#[x,y]:=by rw [←gY (xs:=cl.args),ha]
 have kP:cl.argTypes=#[t,tx]:=by rw [←gY (xs:=cl.argTypes),hat]
 obtain⟨xt,eA,bw,-⟩:=aq ht;obtain⟨xe,xH,jA,hsz,hby,hz⟩:=aq hi;have hv:=hr.ev x;rw [hx] at hv;obtain⟨v,hj,hs,hval⟩:=hr.soft hg hc;have dL:=hval _ hv;have hk0:0<ie.size:=by rw [←pM];exact hs.2.1
 have XZ:maxLen=9223372036854775807:=rfl
 have fin:∀(v':Value) (w':World) (vals:List Value),(Builtin.append_ #[t,tx] o.type #[v,a.eval y]).run P w=.ok v' w'→w'.ownsRow 0 g.e g.k v' (c.2++ys).length vals→Flat w G.pr g.k vals ((c.2++ys).map (c.1.cells E))→w.grownBy w' v.ownBlock →
   (∀b,v'.ownBlock=some b→w.heap.size≤b∨v.ownBlock=some b)→(∀a m,v'=.slice (some a) m 0→E.zc g.e=true)→v'.oneCell'=true →
   fu P w0 G0 a w o { st with t:=br st.t o.dst (.cw j (g.ai+1)),g:=st.g.set j { g with ai:=g.ai+1 },c:=(j,⟨c.1,c.2++ys⟩)::fF j st.c }:=by
  intro v' w' vals hrun hown hfl qi hblk hnz h1;obtain⟨G',hR,hV⟩:=hr.afW hg hc hj qi hown hfl hblk hnz h1;refine⟨.value v',v',w',G',?_,.inl rfl,hR.put hV o.dst⟩;unfold execOp;simp only [ho,resolve,hcl,Sem.run_bind,Sem.run_pure,Result.andThen_ok,invoke,builtin,mT,kP,p6,eV,ni];rw [dL,hrun];rfl
 have yC:Src P xe.size tx (a.eval y) ys.length news w:=by rw [hsz];exact hsrc
 have hzl:∀c,(Builtin.zeroCells ie.zero.cells c).size=c * ie.size:=fun c=>by rw [size_zeroCells,hzs]
 obtain⟨n0,YP,M5,BJ,hb0⟩:=hr.boxes.grow j g v hj;have hlen:(c.2++ys).length=c.2.length+ys.length:=by simp
 have hmap:(c.2++ys).map (c.1.cells E)=c.2.map (c.1.cells E)++ys.map (c.1.cells E):=by simp
 rw [←pM] at hf;by_cases hm:ys.length=0
 ·have hys:ys=[]:=oA hm
  subst hys;have hnn:news=[]:=oA (by simpa using hf.1);subst hnn;obtain⟨-,-,⟨vals,ho,Dq⟩,-⟩:=hs;refine fin v w vals ?_ (by rw [qC];exact ho) (by rw [qC];exact Dq) ⟨rfl,rfl,rfl,bM _,fun _ _ _=>rfl⟩ (fun b hb=>.inr hb) BJ ?_
  ·rcases ho.2 with⟨q1,q2⟩ | ⟨b,cap,cur,q1,-,-,q4,-⟩
   ·rw [q1];exact run_append_nothing w t tx o.type e xe bw xH none 0 0 (bM _) _ yC
   ·rw [q1];exact run_append_nothing w t tx o.type e xe bw xH _ _ _ q4 _ yC
  ·rcases ho.2 with⟨q1,q2⟩ | ⟨b,cap,cur,q1,-⟩<;>rw [q1]<;>rfl
 have grow:∀(base:Option Addr) (old:Nat) (xs':List Value),v=.slice base c.2.length old→old<c.2.length+ys.length→Flat w G.pr g.k xs' (c.2.map (c.1.cells E)) →
   (Builtin.firstCells xe.size c.2.length (.slice base c.2.length old)).run P w.drew=.ok xs'.toArray w.drew →
   fu P w0 G0 a w o { st with t:=br st.t o.dst (.cw j (g.ai+1)),g:=st.g.set j { g with ai:=g.ai+1 },c:=(j,⟨c.1,c.2++ys⟩)::fF j st.c }:=by
  intro base old xs' vr hlt hfx U7;have hfit:=growslice_fits (need:=c.2.length+ys.length) (old:=old) (bytes:=xe.bytes) hlt (by rw [hby];exact hbytes);have hr':=run_append_grow_src (P:=P) w t tx o.type e xe ie.zero bw xH hz base c.2.length old xs' U7 (a.eval y) ys.length news yC hlt om hfit;have aek:=grownCap_ge w (c.2.length+ys.length) old e;have hcm:=grownCap_le_maxLen w (c.2.length+ys.length) old e h63;generalize hcap:grownCap w (c.2.length+ys.length) old e=cap at hr' aek hcm;generalize hcs:(xs'++news).toArray++Builtin.zeroCells ie.zero.cells (cap - (c.2.length+ys.length))=cs at hr';have Fo:=hfx.append hf;have hl2:(xs'++news).length=(c.2.length+ys.length) * g.k:=by rw [Fo.1];simp
  have JV:cs.size=cap * g.k:=by
   rw [←hcs,XE,Jm,hl2,hzl,←pM,←lD];congr 1;omega
  have hcl:cs.toList=(xs'++news)++(Builtin.zeroCells ie.zero.cells (cap - (c.2.length+ys.length))).toList:=by rw [←hcs];simp
  have hheap:(w.drew.alloc (.cells cs e)).heap=w.heap.push (.cells cs e):=rfl;have hnew:(w.drew.alloc (.cells cs e)).heap[w.heap.size]? = some (.cells cs e):=by rw [hheap];simp
  refine fin (.slice (some ⟨w.heap.size,0,none⟩) (c.2.length+ys.length) cap) (w.drew.alloc (.cells cs e)) (xs'++news) (by rw [vr];exact hr') ⟨by rw [hl2,hlen],.inr ⟨w.heap.size,cap,cs,?_,fT _,by rw [hge];exact hnew,by rw [hlen];exact aek,hcm,JV,?_⟩⟩ (by rw [hmap];exact Fo) ⟨rfl,rfl,rfl,by rw [hheap];simp,fun b hb _=>by rw [hheap,Array.getElem?_push,if_neg om]⟩
   (fun b hb=>by cases hb;exact .inl (bM _)) (fun a m h=>by simp at h;omega) rfl
  ·rw [hlen]
  ·rw [hcl,hlen,←hl2,adk]
 rcases hs.block with⟨h1,h2⟩ | ⟨b,cap,cur,h1,hheap,hcap,hcm,hcs,Dq,hnp⟩
 ·have hc0:c.2.length=0:=by rw [h2];rfl
  refine grow none 0 [] (by rw [h1,hc0]) om (by rw [h2];exact Flat.nil) ?_;simp [Builtin.firstCells]
 ·by_cases hroom:c.2.length+ys.length≤cap
  ·have PI:c.2.length * ie.size+news.length≤cur.size:=by
    rw [hf.1,hcs,←pM,oC,←lD];exact ir _ hroom
   have BK:w.heap[b]? = some (.cells cur e (0,0)):=by rw [←hge];exact hheap
   have hr':=run_append_room_src (P:=P) w t tx o.type e xe bw xH b 0 c.2.length cap (a.eval y) ys.length news yC hroom
    (fun j hj=>by
     rw [cell_of_row w b _ cur e (0,0) BK,hsz];have:0+c.2.length * ie.size+j<cur.size:=om;rw [OZ this];rfl)
    (fun j hj=>frozen_of_row w b _ cur e BK)
   rw [hsz,fC,vq b e news (c.2.length * ie.size) cur w BK PI] at hr';have hfull:c.2.length * g.k≤cur.size:=by rw [hcs];exact ir _ hcap
   have Fo:=Dq.append hf;have hl2:(cur.toList.take (c.2.length * g.k)++news).length=(c.2.length+ys.length) * g.k:=by rw [Fo.1];simp
   refine fin (.slice (some ⟨b,0,none⟩) (c.2.length+ys.length) cap) (w.setRow b (cur.toList.take (c.2.length * ie.size)++news++cur.toList.drop (c.2.length * ie.size+news.length)).toArray) (cur.toList.take (c.2.length * g.k)++news) (by rw [h1];exact hr') ⟨by rw [hl2,hlen],.inr ⟨b,cap,_,by rw [hlen],fT _,by rw [hge];exact setRow_heap w b cur _ e _ BK,by rw [hlen];exact hroom,hcm,?_,?_⟩⟩ (by rw [hmap];exact Fo) ⟨rfl,rfl,rfl,si,fun b' _ hb'=>setRow_other w b b' _ (fun e=>hb' (by rw [e,h1];rfl))⟩
    (fun b' hb'=>.inr (by rw [h1];exact hb')) (fun a m h=>by simp at h;omega) rfl
   ·rw [←hcs]
    simp only [Jm,eW,gB,xw,mz];omega
   ·rw [hlen,←hl2,←pM]
    simp only [adj];rw [adk]
  ·refine grow _ cap (cur.toList.take (c.2.length * g.k)) h1 om Dq ?_
   rw [hsz,←pM];refine run_firstCells_some w.drew g.k c.2.length ⟨b,0,none⟩ c.2.length cap (cur.toList.take (c.2.length * g.k)) (by rw [Dq.1];simp) (fun q u hu=>?_);rw [add_lit,fC]
   have hq:q<c.2.length * g.k:=by
    have:=(bS.1 hu).1;rw [gB] at this;omega
   rw [qD,if_pos hq] at hu;show w.cell? ⟨b,q,none⟩=some u;rw [cell_of_row w b q cur g.e (0,0) hheap];simpa using hu
theorem Rel.acP (hr:Rel E w0 G0 st a w G) {j:Nat} {g:aZ} {c:Cn E} (hg:st.g[j]? = some g) (hc:fL st.c j=some c) {b cap off lo:Nat} (hj:G.g[j]? = some (g,.slice (some ⟨b,0,none⟩) c.2.length cap)) {ys:List (c.1.den E.D)} {news:List Value}
  (hf:Flat w G.pr g.k news (ys.map (c.1.cells E))) (hle:lo+ys.length≤c.2.length) (hoff:ys.length=0∨off=lo * g.k) :
  ∃w',(storeCells ⟨b,off,none⟩ news).run P w=.ok () w'∧Rel E w0 G0 { st with c:=(j,⟨c.1,c.2.take lo++ys++c.2.drop (lo+ys.length)⟩)::fF j st.c } a w' G:=by
 obtain⟨h,hj',hs,-⟩:=hr.soft hg hc;rw [hj] at hj';cases hj';rcases hs.block with⟨h1,-⟩ | ⟨b',cap',cur,h1,hheap,hcap,hcm,JV,hfl,hnp⟩
 ·cases h1
 simp only [Value.slice.injEq,nh,Addr.mk.injEq,and_true,true_and] at h1;obtain⟨rfl,rfl⟩:=h1;have hk0:=hs.2.1;have hnl:news.length=ys.length * g.k:=by rw [hf.1];simp
 have hfull:c.2.length * g.k≤cur.size:=by rw [JV];exact ir _ hcap
 have hlk:lo * g.k+news.length≤c.2.length * g.k:=by rw [hnl,←lD];exact ir _ hle
 let new:=(cur.toList.take (lo * g.k)++news++cur.toList.drop (lo * g.k+news.length)).toArray
 have LJ:new.toList=cur.toList.take (lo * g.k)++news++cur.toList.drop (lo * g.k+news.length):=by simp [new]
 have ahx:new.size=cur.size:=by
  have:new.toList.length=cur.toList.length:=by
   rw [LJ];simp only [eW,gB,xw,mz];omega
  simpa using this
 have hlen':(c.2.take lo++ys++c.2.drop (lo+ys.length)).length=c.2.length:=by
  simp only [eW,gB,xw];omega
 have PK:Flat w G.pr g.k (new.toList.take ((c.2.take lo++ys++c.2.drop (lo+ys.length)).length * g.k)) ((c.2.take lo++ys++c.2.drop (lo+ys.length)).map (c.1.cells E)):=by
  have h9:=hfl.splice hf (p:=lo) (by simpa using hle);rw [hlen',LJ,M6 _ _ hlk (by simpa using hfull)]
  have h10:(c.2.take lo++ys++c.2.drop (lo+ys.length)).map (c.1.cells E)=(c.2.map (c.1.cells E)).take lo++ys.map (c.1.cells E)++(c.2.map (c.1.cells E)).drop (lo+(ys.map (c.1.cells E)).length):=by
   simp [adl,List.map_drop]
  rw [h10];exact h9
 refine⟨w.setRow b new,?_,hr.Ve hg hc hj hheap ahx hlen' PK⟩;by_cases hy:ys.length=0
 ·have hn0:news=[]:=oA (by rw [hnl,hy,Jn])
  have:new=cur:=by
   apply nj;rw [LJ,hn0];simp
  rw [this,hn0,setRow_self w b cur g.e (0,0) hheap];rfl
 ·obtain rfl:off=lo * g.k:=hoff.resolve_left hy
  exact run_storeCells_at (P:=P) b (lo * g.k) g.e news 0 cur w hheap om (hf.one hk0)
def Fs (st:TS E):TV E→Option (Bool × Nat × Nat × Nat)
 | .cw j ai=>match st.g[j]?,fL st.c j with
  | some g,some c=>some (Nat.beq g.ai ai&&Nat.blt 0 c.2.length,j,0,c.2.length)
  | _,_=>none
 | .jz j ai k lo n=>match st.g[j]?,fL st.c j with
  | some g,some c=>some (Nat.beq g.ai ai&&Nat.beq k (c.1.size E),j,lo,n)
  | _,_=>none
 | _=>none
theorem Vh (hr:Rel E w0 G0 st a w G) {d:TV E} {v:Value} (hv:VT E w G d v) {cc:Bool} {j lo n:Nat} (h:Fs st d=some (cc,j,lo,n)) (fJ:cc=true) :
  ∃g c b cap off cap',st.g[j]? = some g∧fL st.c j=some c∧G.g[j]? = some (g,.slice (some ⟨b,0,none⟩) c.2.length cap)∧v=.slice (some ⟨b,off,none⟩) n cap'∧lo+n≤c.2.length∧(n=0∨off=lo * g.k)∧lW E w G g (.slice (some ⟨b,0,none⟩) c.2.length cap) c:=by
 unfold Fs at h;split at h
 ·split at h
  ·rename_i g c hg hc
   cases h;rw [aV] at fJ;have GB:=bt fJ.1;have hpos:0<c.2.length:=ef fJ.2;subst GB;obtain⟨hd,hj,hs,hval⟩:=hr.soft hg hc;have dL:=hval _ hv;rcases hs.block with⟨-,h2⟩ | ⟨b,cap,cur,h1,-⟩
   ·rw [h2] at hpos;simp at hpos
   ·subst h1
    exact⟨g,c,b,cap,0,cap,hg,hc,hj,dL,om,.inr si,hs⟩
  ·cases h
 ·split at h
  ·rename_i g c hg hc
   cases h;rw [aV] at fJ;have GB:=bt fJ.1;have hk:=bt fJ.2;subst GB hk;obtain⟨hd,hj,hs,hval⟩:=hr.soft hg hc;obtain⟨b,m,cap,off,cp,h1,h2,jB,h3,h4⟩:=hr.jz hg hv;rw [hj] at h1;cases h1;rcases hs.block with⟨h5,-⟩ | ⟨b',cap',cur,h5,-⟩
   ·cases h5
   ·simp only [Value.slice.injEq,nh,Addr.mk.injEq,and_true] at h5
    obtain⟨rfl,rfl,rfl⟩:=h5;exact⟨g,c,b,cap,off,cp,hg,hc,hj,h3,h2,by rw [hs.1];exact h4,hs⟩
  ·cases h
 ·cases h
theorem ael (hr:Rel E w0 G0 st a w G) {cl:Call} {x y:Operand} {t tx e:TypeId} {j1 j2:Nat} {z:Value} {ie ix:TI} (ho:o.op=.call cl) (hcl:cl.callee=.builtin .copy) (ha:cl.args.toList=[x,y]) (hat:cl.argTypes.toList=[t,tx])
  (ht:aB P t=some ⟨.slice e,j1,j2,z⟩) (hi:aB P e=some ie) (tB:aB P tx=some ix) {j lo n:Nat} {c:Cn E} (hx:Fs st (st.ev x)=some (true,j,lo,n)) (hc:fL st.c j=some c) (hk:ie.size=c.1.size E) (hk0:0<ie.size)
  {ys:List (c.1.den E.D)} (hy:Y5 c.1 ix.kind (st.ev y)=some ys) (hle:ys.length≤n) :
  fu P w0 G0 a w o { st with t:=br st.t o.dst (.dat (.int .i64) (ys.length:Int)),c:=(j,⟨c.1,c.2.take lo++ys++c.2.drop (lo+ys.length)⟩)::fF j st.c }:=by
 have mT:cl.args=#[x,y]:=by rw [←gY (xs:=cl.args),ha]
 have kP:cl.argTypes=#[t,tx]:=by rw [←gY (xs:=cl.argTypes),hat]
 obtain⟨xt,eA,bw,-⟩:=aq ht;obtain⟨xe,xH,jA,hsz,hby,hz⟩:=aq hi;obtain⟨g,c',b,cap,off,cap',hg,tw,hj,hv,hln,hoff,hs⟩:=Vh hr (hr.ev x) hx rfl;rw [hc] at tw;cases tw;have pM:g.k=c.1.size E:=hs.1;obtain⟨news,hsrc,hf⟩:=acO hr tB (by rw [←hk];exact hk0) hy;rw [←pM] at hf;obtain⟨w',hst,hR⟩:=hr.acP (P:=P) hg hc hj hf om (off:=off) (lo:=lo) om;refine⟨.value (goInt ys.length),goInt ys.length,w',G,?_,.inl rfl,hR.put (d:=.dat (.int .i64) (ys.length:Int)) (.int _ _ _ _) o.dst⟩;have hmin:Nat.min ys.length n=ys.length:=Ee hle;unfold execOp;simp only [ho,resolve,hcl,Sem.run_bind,Sem.run_pure,Result.andThen_ok,invoke,builtin,mT,kP,p6,eV,ni];rw [hv];have hcells:(Builtin.firstCells xe.size ys.length (a.eval y)).run P w=.ok news.toArray w:=by rw [hsz,hk];exact hsrc.cells
 simp [Builtin.copy_,run_underlying bw,hsrc.len,hmin,sizeOf,typeInfo,xH,hcells,hst]
theorem abH (hE:E.Ok) (hr:Rel E w0 G0 st a w G) {cl:Call} {x:Operand} {t e:TypeId} {j1 j2:Nat} {z:Value} {ie:TI} (ho:o.op=.call cl) (hcl:cl.callee=.builtin .clear) (ha:cl.args.toList=[x]) (hat:cl.argTypes.toList=[t])
  (ht:aB P t=some ⟨.slice e,j1,j2,z⟩) (hi:aB P e=some ie) {j lo n:Nat} {c:Cn E} (hx:Fs st (st.ev x)=some (true,j,lo,n)) (hc:fL st.c j=some c) (hk:ie.size=c.1.size E) (hk0:0<ie.size)
  (hzs:ie.zero.cells.size=ie.size) (hz1:ie.zero.cells.toList.all (·.oneCell')=true) {z1:c.1.den E.D} (hz:(pN E (some c.1) ie.zero).get c.1=some z1) :
  fu P w0 G0 a w o { st with t:=br st.t o.dst (.val (.tuple #[])),c:=(j,⟨c.1,c.2.take lo++List.replicate n z1++c.2.drop (lo+n)⟩)::fF j st.c }:=by
 have mT:cl.args=#[x]:=by rw [←gY (xs:=cl.args),ha]
 have kP:cl.argTypes=#[t]:=by rw [←gY (xs:=cl.argTypes),hat]
 obtain⟨xt,eA,bw,-⟩:=aq ht;obtain⟨xe,xH,jA,hsz,hby,hzz⟩:=aq hi;obtain⟨g,c',b,cap,off,cap',hg,tw,hj,hv,hln,hoff,hs⟩:=Vh hr (hr.ev x) hx rfl;rw [hc] at tw;cases tw;have pM:g.k=c.1.size E:=hs.1;have M1:VT E w G (.dat c.1 z1) ie.zero:=TV.nF hz (Fp hE (ty:=some c.1) hz1);have hmf:=Vg (w:=w) (pr:=G.pr) hk0 hzs M1.Dk (bM n)
 have BM:(Builtin.zeroCells ie.zero.cells n).toList=(madeCells ie.zero.cells (n * ie.size)).toList.take (n * ie.size):=by
  rw [mw (by rw [mz,size_madeCells];exact bM _)];simp [Builtin.zeroCells,madeCells,hzs]
 rw [←BM] at hmf
 have hf:Flat w G.pr g.k (Builtin.zeroCells ie.zero.cells n).toList ((List.replicate n z1).map (c.1.cells E)):=by
  rw [List.map_replicate,pM,←hk];exact hmf
 obtain⟨w',hst,hR⟩:=hr.acP (P:=P) hg hc hj hf (by simpa using hln) (off:=off) (lo:=lo) (by simpa using hoff);rw [XC] at hR;refine⟨.value (.tuple #[]),.tuple #[],w',G,?_,.inl rfl,hR.put (d:=.val (.tuple #[])) (by simp only [VT]) o.dst⟩;unfold execOp;simp only [ho,resolve,hcl,Sem.run_bind,Sem.run_pure,Result.andThen_ok,invoke,builtin,mT,kP,p6,eV,ni];rw [hv];rcases adm n with h0 | h0
 ·subst h0
  have:w'=w:=by
   simp [Builtin.zeroCells,storeCells] at hst;exact hst.symm
  subst this;simp [Builtin.clear_,run_underlying bw]
 ·obtain⟨n,rfl⟩:∃m,n=m+1:=⟨n - 1,om⟩
  simp [Builtin.clear_,run_underlying bw,zeroValue,typeInfo,xH,hzz,hst]
theorem afX (hr:Rel E w0 G0 st a w G) {t e:TypeId} {x hi:Operand} {j1 j2:Nat} {z:Value} {ie:TI} (ho:o.op=.slice t x none (some hi) none) (ht:aB P t=some ⟨.slice e,j1,j2,z⟩) (hi':aB P e=some ie)
  {j:Nat} {g:aZ} {c:Cn E} (hx:st.ev x=.cw j g.ai) (hg:st.g[j]? = some g) (hc:fL st.c j=some c) {q:Int} (hq:fz (c.2.length:Int) (some (st.ev hi))=some q) (h0:0≤q) (h1:q≤(c.2.length:Int)) :
  fu P w0 G0 a w o { st with t:=br st.t o.dst (.cw j (g.ai+1)),g:=st.g.set j { g with ai:=g.ai+1 },c:=(j,⟨c.1,c.2.take (Int.toNat q)⟩)::fF j st.c }:=by
 obtain⟨xt,eA,bw,-⟩:=aq ht;obtain⟨xe,fZ,jA,hsz,-⟩:=aq hi';obtain⟨v,hj,hs,hval⟩:=hr.soft hg hc;have hv:=hr.ev x;rw [hx] at hv;have dL:=hval _ hv;obtain⟨n0,YP,M5,BJ,hb0⟩:=hr.boxes.grow j g v hj;have hlen:(c.2.take q.toNat).length=q.toNat:=by rw [gB];omega
 have hbi:=gR hr (lo:=some hi) (d:=(c.2.length:Int)) hq;have akV:=gR hr (lo:=none) (d:=0) rfl
 have key:∀(v':Value) (vals:List Value),(Instr.sliceAt t v none (some (a.eval hi)) none).run P w=.ok v' w→w.ownsRow 0 g.e g.k v' (c.2.take q.toNat).length vals→Flat w G.pr g.k vals ((c.2.take q.toNat).map (c.1.cells E))→v'.ownBlock=v.ownBlock →
   (∀a m,v'=.slice (some a) m 0→E.zc g.e=true)→v'.oneCell'=true→fu P w0 G0 a w o { st with t:=br st.t o.dst (.cw j (g.ai+1)),g:=st.g.set j { g with ai:=g.ai+1 },c:=(j,⟨c.1,c.2.take (Int.toNat q)⟩)::fF j st.c }:=by
  intro v' vals hrun hown hfl hblk hnz h1';obtain⟨G',hR,hV⟩:=hr.afW (w':=w) (ys:=c.2.take q.toNat) hg hc hj ⟨rfl,rfl,rfl,bM _,fun _ _ _=>rfl⟩ hown hfl (fun b hb=>.inr (by rw [←hblk];exact hb)) hnz h1';refine⟨.value v',v',w,G',?_,.inl rfl,hR.put hV o.dst⟩;simp only [execOp,ho,adn,uW,Sem.run_bind];rw [dL,hrun];rfl
 rcases hs.block with⟨q1,q2⟩ | ⟨b,cap,cur,q1,hheap,hcap,hcm,hcs,Dq,hnp⟩
 ·have hq0:q=0:=by rw [q2] at h1;simp at h1;omega
  subst hq0;refine key (.slice none 0 0) [] ?_ ?_ (by rw [q2];exact Flat.nil) (by rw [q1]) (fun a m h=>by cases h) rfl
  ·have nI:=lY (P:=P) (PB:=true) (len:=0) (cap:=0) (bM _) akV (by rw [q2] at hbi;exact hbi) (O0 _) (O0 _) si w
   rw [q1];simp only [adn,uW] at nI;unfold Instr.sliceAt;simp only [Sem.run_bind,ak bw,Result.andThen_ok];unfold Instr.slice;simp only [Sem.run_bind,ak bw,Result.andThen_ok,nI,bQ fZ,Sem.run_pure];simp
  ·rw [q2]
   exact⟨si,.inl ⟨rfl,rfl⟩⟩
 ·refine key (.slice (some ⟨b,0,none⟩) q.toNat cap) (cur.toList.take (q.toNat * g.k)) ?_ ?_ ?_ (by rw [q1];rfl) (fun a m h=>by
   have e:cap=0:=by simp at h;exact h.2.2
   exact BJ ⟨b,0,none⟩ c.2.length (by rw [q1,e])) rfl
  ·have nI:=lY (P:=P) (PB:=true) hcap akV hbi (O0 _) h0 h1 w
   rw [q1];simp only [adn,uW] at nI;unfold Instr.sliceAt;simp only [Sem.run_bind,ak bw,Result.andThen_ok];unfold Instr.slice;simp only [Sem.run_bind,ak bw,Result.andThen_ok,nI,bQ fZ,Sem.run_pure,uW,add_lit];simp
  ·rw [hlen]
   refine⟨?_,.inr ⟨b,cap,cur,rfl,fT _,hheap,om,hcm,hcs,rfl⟩⟩;rw [gB,mz,hcs];exact Ee (ir _ om)
  ·have h9:=Dq.take (i:=q.toNat) bx
   have hle:q.toNat * g.k≤c.2.length * g.k:=ir _ om;rw [XF,Ee hle] at h9;rw [adl];exact h9
def aem (P:Program) (ty:TypeId→Option Ty) (st:TS E) (dst:Option Nat) (cl:Call):Option (Bool × TS E) :=
 match cl.callee,cl.args.toList,cl.argTypes.toList with
 | .builtin .append,[x,y],[t,tx]=>match aB P t,aB P tx with
  | some ⟨.slice e,_,_,_⟩,some ix=>match aB P e,st.ev x with
   | some ie,.cw j ai=>match st.g[j]?,fL st.c j with
    | some g,some c=>match aef st c.1 ix.kind (st.ev y) with
     | some ys=>some (Nat.beq g.ai ai&&(Nat.beq g.e e&&(Nat.beq g.k ie.size&&(Nat.beq ie.size (c.1.size E)&&(Nat.blt 0 ie.size&&(Nat.beq ie.zero.cells.size ie.size &&
          (decide (c.2.length+ys.length≤9223372036854775807)&&decide ((c.2.length+ys.length) * ie.bytes≤140737488355328))))))),
       { st with t:=br st.t dst (.cw j (g.ai+1)),g:=st.g.set j { g with ai:=g.ai+1 },c:=(j,⟨c.1,c.2++ys⟩)::fF j st.c })
     | none=>none
    | _,_=>none
   | _,_=>none
  | _,_=>none
 | .builtin .copy,[x,y],[t,tx]=>match aB P t,aB P tx with
  | some ⟨.slice e,_,_,_⟩,some ix=>match aB P e,Fs st (st.ev x) with
   | some ie,some (cc,j,lo,n)=>match fL st.c j with
    | some c=>match Y5 c.1 ix.kind (st.ev y) with
     | some ys=>some (Nat.beq ie.size (c.1.size E)&&(Nat.blt 0 ie.size&&(cc&&Nat.ble ys.length n)),
       { st with t:=br st.t dst (.dat (.int .i64) (ys.length:Int)),c:=(j,⟨c.1,c.2.take lo++ys++c.2.drop (lo+ys.length)⟩)::fF j st.c })
     | none=>none
    | none=>none
   | _,_=>none
  | _,_=>none
 | .builtin .clear,[x],[t]=>match aB P t with
  | some ⟨.slice e,_,_,_⟩=>match aB P e,Fs st (st.ev x) with
   | some ie,some (cc,j,lo,n)=>match fL st.c j with
    | some c=>match (pN E (some c.1) ie.zero).get c.1 with
     | some z1=>some (Nat.beq ie.size (c.1.size E)&&(Nat.blt 0 ie.size&&(Nat.beq ie.zero.cells.size ie.size&&(ie.zero.cells.toList.all (·.oneCell')&&cc))),
       { st with t:=br st.t dst (.val (.tuple #[])),c:=(j,⟨c.1,c.2.take lo++List.replicate n z1++c.2.drop (lo+n)⟩)::fF j st.c })
     | none=>none
    | none=>none
   | _,_=>none
  | _=>none
 | _,_,_=>none
def xJ (P:Program) (ty:TypeId→Option Ty) (st:TS E) (dst:Option Nat):Op→Option (Bool × TS E)
 | .load t x=>match aB P t,st.ev x with
  | some i,.dK j ai k ix off=>match st.g[j]?,fL st.c j with
   | some g,some c=>match TV.part c.1 (c.2.getD ix (c.1.dflt E)) i.isAgg i.size off with
    | some d=>some (Nat.beq g.ai ai&&Nat.beq k (c.1.size E),{ st with t:=br st.t dst d })
    | none=>none
   | _,_=>none
  | _,_=>none
 | .store t x y=>match aB P t,st.ev x,(st.ev y).kO with
  | some i,.dK j ai k ix off,some ds=>match st.g[j]?,fL st.c j with
   | some g,some c=>match (TV.dat (E:=E) c.1 (c.2.getD ix (c.1.dflt E))).kO with
    | some cs=>match JP E 4 c.1 (cs.take off++ds++cs.drop (off+ds.length)) with
     | some (x',[])=>some (Nat.beq g.ai ai&&(Nat.beq k (c.1.size E)&&(Nat.beq ds.length i.size&&Nat.ble (off+i.size) cs.length)),
       { st with t:=br st.t dst .any,c:=(j,⟨c.1,c.2.set ix x'⟩)::fF j st.c })
     | _=>none
    | none=>none
   | _,_=>none
  | _,_,_=>none
 | .makeSlice t x y=>match aB P t with
  | some ⟨.slice e,_,_,_⟩=>match aB P e,ty e,st.ev x,st.ev y with
   | some ie,some T,.dat (.int _) n,.dat (.int _) m=>match (pN E (some T) ie.zero).get T with
    | some z=>some (Nat.beq ie.size (T.size E)&&(Nat.blt 0 ie.size&&(Nat.beq ie.zero.cells.size ie.size&&(ie.zero.cells.toList.all (·.oneCell') &&
       (decide (0≤n)&&(decide (n≤m)&&(decide (0<m)&&(decide (m≤9223372036854775807)&&decide ((ie.bytes:Int) * m≤140737488355328)))))))),
      { st with t:=br st.t dst (.cw st.g.length 0),g:=st.g++[⟨0,e,ie.size⟩],c:=(st.g.length,⟨T,List.replicate (Int.toNat n) z⟩)::st.c })
    | none=>none
   | _,_,_,_=>none
  | _=>none
 | .slice t x none (some hi) none=>match aB P t,st.ev x with
  | some ⟨.slice e,_,_,_⟩,.cw j ai=>match aB P e,st.g[j]?,fL st.c j with
   | some _,some g,some c=>match fz (c.2.length:Int) (some (st.ev hi)) with
    | some q=>some (Nat.beq g.ai ai&&(decide (0≤q)&&decide (q≤(c.2.length:Int))),
      { st with t:=br st.t dst (.cw j (g.ai+1)),g:=st.g.set j { g with ai:=g.ai+1 },c:=(j,⟨c.1,c.2.take (Int.toNat q)⟩)::fF j st.c })
    | none=>none
   | _,_,_=>none
  | _,_=>none
 | .call cl=>aem P ty st dst cl
 | _=>none
theorem aen (hE:E.Ok) (hr:Rel E w0 G0 st a w G) {ty:TypeId→Option Ty} {st':TS E} {cc:Bool} (h:xJ P ty st o.dst o.op=some (cc,st')) (fJ:cc=true):fu P w0 G0 a w o st':=by
 cases ho:o.op<;>rw [ho] at h<;>try (cases h;done)
 case load t x =>
  simp only [xJ] at h;split at h<;>try (cases h;done)
  rename_i i j ai k ix off ht hx;split at h<;>try (cases h;done)
  rename_i g c hg hc;split at h<;>try (cases h;done)
  rename_i d hp;cases h;rw [aV] at fJ;obtain rfl:=bt fJ.1;exact (Dp hE hr ho ht hx hg hc (bt fJ.2) hp).ad5 hr
 case store t x y =>
  simp only [xJ] at h;split at h<;>try (cases h;done)
  rename_i i j ai k ix off ds ht hx hy;split at h<;>try (cases h;done)
  rename_i g c hg hc;split at h<;>try (cases h;done)
  rename_i cs hcs;split at h<;>try (cases h;done)
  rename_i x' ahw;cases h;simp only [aV] at fJ;obtain⟨c1,c2,c3,c4⟩:=fJ;obtain rfl:=bt c1;exact abF hE hr ho ht hx hg hc (bt c2) hcs hy (bt c3) (ef c4) ahw
 case makeSlice t x y =>
  simp only [xJ] at h;split at h<;>try (cases h;done)
  rename_i e j1 j2 z0 ht;split at h<;>try (cases h;done)
  rename_i ie T k1 n k2 m hi hT hx hy;split at h<;>try (cases h;done)
  rename_i z hz;cases h;simp only [aV,decide_eq_true_eq] at fJ;obtain⟨c1,c2,c3,c4,c5,c6,c7,c8,c9⟩:=fJ;exact aeh hE hr ho ht hi hx hy (bt c1) (ef c2) (bt c3) c4 hz c5 c6 c7 c8 c9
 case slice t x lo hi mx =>
  cases lo with
  | some _=>cases h
  | none =>
  cases hi with
  | none=>cases h
  | some hi =>
  cases mx with
  | some _=>cases h
  | none =>
  simp only [xJ] at h;split at h<;>try (cases h;done)
  rename_i e j1 j2 z j ai ht hx;split at h<;>try (cases h;done)
  rename_i ie g c hi' hg hc;split at h<;>try (cases h;done)
  rename_i q hq;cases h;simp only [aV,decide_eq_true_eq] at fJ;obtain⟨c1,c2,c3⟩:=fJ;obtain rfl:=bt c1;exact afX hr ho ht hi' hx hg hc hq c2 c3
 case call cl =>
  simp only [xJ] at h;unfold aem at h;split at h<;>try (cases h;done)
  ·rename_i x y t tx hcl ha hat
   split at h<;>try (cases h;done)
   rename_i e j1 j2 z ix ht tB;split at h<;>try (cases h;done)
   rename_i ie j ai hi hx;split at h<;>try (cases h;done)
   rename_i g c hg hc;split at h<;>try (cases h;done)
   rename_i ys hys;cases h;simp only [aV,decide_eq_true_eq] at fJ;obtain⟨c1,c2,c3,c4,c5,c6,c7,c8⟩:=fJ;obtain rfl:=bt c1;have c4:=bt c4;have c5:0<ie.size:=ef c5;obtain⟨news,q1,q2⟩:=SJ hr tB (by rw [←c4];exact c5) hys;rw [←c4] at q1 q2;exact Za hE hr ho hcl ha hat ht hi hx hg hc (bt c2) (bt c3) (bt c6) c7 c8 q1 q2
  ·rename_i x y t tx hcl ha hat
   split at h<;>try (cases h;done)
   rename_i e j1 j2 z ix ht tB;split at h<;>try (cases h;done)
   rename_i ie cc j lo n hi hx;split at h<;>try (cases h;done)
   rename_i c hc;split at h<;>try (cases h;done)
   rename_i ys hys;cases h;simp only [aV] at fJ;obtain⟨c1,c2,c3,c4⟩:=fJ;subst c3;exact ael hr ho hcl ha hat ht hi tB hx hc (bt c1) (ef c2) hys (ef c4)
  ·rename_i x t hcl ha hat
   split at h<;>try (cases h;done)
   rename_i e j1 j2 z ht;split at h<;>try (cases h;done)
   rename_i ie cc j lo n hi hx;split at h<;>try (cases h;done)
   rename_i c hc;split at h<;>try (cases h;done)
   rename_i z1 hz;cases h;simp only [aV] at fJ;obtain⟨c1,c2,c3,c4,c5⟩:=fJ;subst c5;exact abH hE hr ho hcl ha hat ht hi hx hc (bt c1) (ef c2) (bt c3) c4 hz
def X1 (P:Program) (ty:TypeId→Option Ty) (st:TS E) (dst:Option Nat) (op:Op):Option (Bool × TS E):=match PW P ty st dst op with
 | some r=>some r
 | none=>xJ P ty st dst op
theorem abI (hE:E.Ok) (hr:Rel E w0 G0 st a w G) {ty:TypeId→Option Ty} {st':TS E} {c:Bool} (h:X1 P ty st o.dst o.op=some (c,st')) (hc:c=true):fu P w0 G0 a w o st':=by
 unfold X1 at h;split at h
 ·rename_i r hm
  cases h;exact abD hE hr hm hc
 ·exact aen hE hr h hc
end
end Go.RT
namespace Go.RT
variable {E : TEnv}
def aeo:Value→Value→Bool
 | .bool a,.bool b=>a==b
 | .int k n,.int k' n'=>decide (k=k')&&decide (n=n')
 | _,_=>false
theorem ajt {u v:Value} (h:aeo u v=true):u=v∧u.cells=#[u]:=by
 unfold aeo at h;split at h
 ·rw [beq_iff_eq] at h;subst h;exact⟨rfl,rfl⟩
 ·simp only [aV,decide_eq_true_eq] at h
  obtain⟨rfl,rfl⟩:=h;exact⟨rfl,rfl⟩
 ·cases h
theorem rM.at {w:World} {G:au} {b:Nat} {T:Ty} {xs:List (T.den E.D)} (h:rM E w G.pr b T xs) {m:Nat} (hm:m<xs.length) :
  VT E w G (.lV T (xs.getD m (T.dflt E)) 0) (.pointer (some ⟨b,m * T.size E,none⟩)):=by
 have HY:(xs.map (T.cells E)).getD m []=T.cells E (xs.getD m (T.dflt E)):=by simp [List.getD,hm]
 have hlen:(xs.map (T.cells E)).length=xs.length:=by simp
 rcases VD.lX h with⟨_,he,hn⟩ | ⟨b',off,cap,c,he,hcap,hkk,hc,h⟩
 ·simp at hn;subst hn;simp at hm
 simp only [Value.slice.injEq,nh,Addr.mk.injEq,and_true] at he;obtain⟨⟨rfl,rfl⟩,-,-⟩:=he;rw [hlen] at hkk hc h;have hkn:=hkk _ hm;rw [HY] at hkn;simp only [VT];refine⟨b,m * T.size E,(List.range (T.size E)).map (c m),rfl,LD.LF (by rw [hkn];simp) (fun l hl=>?_),fun l u hl=>?_⟩
 ·rw [hkn] at hl
  have:=h _ l hm hl;rw [HY] at this;simpa [List.getD,hl] using this
 ·simp only [kJ,Jo] at hl
  obtain⟨l',hl,rfl⟩:=hl;obtain⟨h1,h2⟩:=bS.1 hl;simp at h1 h2;subst h2;have:=hc _ _ hm h1;rwa [fC] at this
theorem rM.sl {w:World} {G:au} {b:Nat} {T:Ty} {xs:List (T.den E.D)} (h0:rM E w G.pr b T xs) {p q:Nat} (hpq:p≤q) (hq:q≤xs.length) :
  VT E w G (.dat (.aG T) ((xs.take q).drop p)) (.slice (some (if xs.length=p then ⟨b,0,none⟩ else ⟨b,p * T.size E,none⟩)) (q - p) (xs.length - p)):=by
 have hmap:((xs.take q).drop p).map (T.cells E)=((xs.map (T.cells E)).take q).drop p:=by simp
 have rS:(xs.map (T.cells E)).length=xs.length:=by simp
 unfold rM at h0;refine .list ?_;rw [hmap];generalize HY:xs.map (T.cells E)=es at h0 rS;have hlen:((es.take q).drop p).length=q - p:=by simp;omega
 rcases VD.lX h0 with⟨ad0,he,rfl⟩ | ⟨b',off,cap,c,he,hcap,hkk,hc,h⟩
 ·simp at rS
  have hx0:xs=[]:=oA rS.symm;subst hx0;simp at hq;subst hq;have hp0:p=0:=om;subst hp0;exact .oN _ _
 simp only [Value.slice.injEq,nh,Addr.mk.injEq,and_true] at he;obtain⟨⟨rfl,rfl⟩,-,aoc⟩:=he
 have hgd:∀j,j<q - p→((es.take q).drop p).getD j []=es.getD (p+j) []:=by
  intro j hj;simp [List.getD,show p+j<q by omega]
 rw [←hlen];by_cases jB:xs.length=p
 ·have hz:((es.take q).drop p)=[]:=by
   apply oA;rw [hlen];omega
  rw [hz,if_pos jB];exact .slice b 0 (xs.length - p) _ [] c (fT _) (fun j hj=>by simp at hj) (fun j l hj=>by simp at hj) (fun j l hj=>by simp at hj)
 ·rw [if_neg jB]
  refine .slice b (p * T.size E) (xs.length - p) _ _ (fun j l=>c (p+j) l) (by rw [hlen];omega) (fun j hj=>?_) (fun j l hj hl=>?_) (fun j l hj hl=>?_)
  all_goals rw [hlen] at hj
  ·rw [hgd j hj];exact hkk _ om
  ·have:=hc (p+j) l om hl
   rw [fC,lD] at this;exact this
  ·rw [hgd j hj];exact h _ _ om hl
def X2 (P:Program) (st:TS E):Op→Option (Bool × TV E)
 | .indexAddr t x ix=>match aB P t,st.ev ix with
  | some ⟨.array n e,_,_,_⟩,.dat (.int _) m=>match aB P e,st.ev x with
   | some i,.dK j ai k i0 off=>match st.g[j]?,fL st.c j with
    | some g,some c=>match Nat.beq g.ai ai&&(Nat.beq i.size k&&(Nat.beq i0 0&&Nat.beq off 0)) with
     | true=>some (decide (0≤m)&&(decide (m<(n:Int))&&decide (m<(c.2.length:Int))),.dK j ai k (Int.toNat m) 0)
     | false=>none
    | _,_=>none
   | some i,.MV T xs=>match Nat.beq i.size (T.size E) with
    | true=>some (decide (0≤m)&&(decide (m<(n:Int))&&decide (m<(xs.length:Int))),.lV T (xs.getD (Int.toNat m) (T.dflt E)) 0)
    | false=>none
   | some i,.ptr r off=>match isConst ix with
    | true=>some (decide (0≤m)&&decide (m<(n:Int)),.ptr r (off+Int.toNat m * i.size))
    | false=>none
   | _,_=>none
  | _,_=>none
 | .slice t x lo hi none=>match aB P t,st.ev x with
  | some ⟨.array n e,_,_,_⟩,.dK j ai k i0 off=>match aB P e,st.g[j]?,fL st.c j with
   | some i,some g,some c=>match fz 0 (lo.map st.ev),fz (n:Int) (hi.map st.ev) with
    | some p,some q=>some (Nat.beq g.ai ai&&(Nat.beq i.size k&&(Nat.beq i0 0&&(Nat.beq off 0&&(decide (0≤p)&&(decide (p≤q)&&(decide (q≤(n:Int))&&decide (q≤(c.2.length:Int)))))))),.jz j ai k (Int.toNat p) (Int.toNat q - Int.toNat p))
    | _,_=>none
   | _,_,_=>none
  | some ⟨.array n e,_,_,_⟩,.MV T xs=>match aB P e with
   | some i=>match fz 0 (lo.map st.ev),fz (n:Int) (hi.map st.ev) with
    | some p,some q=>some (Nat.beq i.size (T.size E)&&(Nat.beq xs.length n&&(decide (0≤p)&&(decide (p≤q)&&decide (q≤(n:Int))))),.dat (.aG T) ((xs.take (Int.toNat q)).drop (Int.toNat p)))
    | _,_=>none
   | none=>none
  | some ⟨.array n e,_,_,_⟩,.ptr r off=>match aB P e,lo,hi with
   | some i,none,none=>some (Nat.beq i.size 1&&Nat.blt 0 n,.vn r off n)
   | _,_,_=>none
  | _,_=>none
 | _=>none
section
variable {P : Program} {w0 w w' : World} {G0 G G' : au} {st : TS E} {a : Act} {o : Oper}
theorem Rel.arr (hr:Rel E w0 G0 st a w G) {j k i off:Nat} {g:aZ} {c:Cn E} (hg:st.g[j]? = some g) (hc:fL st.c j=some c) {v:Value} (hv:VT E w G (.dK j g.ai k i off) v) :
  ∃b cap cur,G.g[j]? = some (g,.slice (some ⟨b,0,none⟩) c.2.length cap)∧i<c.2.length∧v=.pointer (some ⟨b,i * k+off,none⟩)∧w.heap[b]? = some (.cells cur g.e (0,0))∧c.2.length≤cap∧cur.size=cap * g.k ∧
   Flat w G.pr g.k (cur.toList.take (c.2.length * g.k)) (c.2.map (c.1.cells E))∧g.k=c.1.size E:=by
 obtain⟨b,m,cap,hj,hlt,dL⟩:=hr.dK hg hv;obtain⟨h,hj',hs,-⟩:=hr.soft hg hc;rw [hj] at hj';cases hj';rcases hs.block with⟨h1,-⟩ | ⟨b',cap',cur,h1,hheap,hcap,hcm,hcs,hf,hnp⟩
 ·cases h1
 simp only [Value.slice.injEq,nh,Addr.mk.injEq,and_true] at h1;obtain⟨rfl,rfl,rfl⟩:=h1;exact⟨b,cap,cur,hj,hlt,dL,hheap,hcap,hcs,hf,hs.1⟩
theorem abJ (hr:Rel E w0 G0 st a w G) {d:TV E} {cc:Bool} (h:X2 P st o.op=some (cc,d)) (hc:cc=true):fP P a w G o d:=by
 cases ho:o.op<;>rw [ho] at h<;>simp only [X2] at h<;>try (cases h;done)
 case indexAddr t x ix =>
  split at h<;>try (cases h;done)
  rename_i n e j1 j2 z kd m ht hn;obtain⟨xt,eA,bw,-⟩:=aq ht;obtain⟨m,hm0⟩:∃q:Int,q=m:=⟨m,rfl⟩;subst hm0;have yZ:=hr.ev ix;rw [hn] at yZ;have Ai:=yZ.dw;split at h<;>try (cases h;done)
  rotate_right
  ·rename_i i r off hi hx
   obtain⟨xe,fZ,jA,hsz,-⟩:=aq hi;split at h<;>try (cases h;done)
   cases h;simp only [aV,decide_eq_true_eq] at hc;obtain⟨c5,c6⟩:=hc;have c5:(0:Int)≤m:=c5;have c6:m<(n:Int):=c6;have hv:=hr.ev x;rw [hx] at hv;simp only [VT] at hv;obtain⟨b,dL,hat⟩:=hv;refine cy (f:=fun ρ=>Instr.indexAt t (ρ x) (ρ ix)) (by simp [execOp,ho]) ⟨.pointer (some ⟨b,off+m.toNat * i.size,none⟩),by simp only [VT];exact⟨b,rfl,hat⟩,fun w' hs=>?_⟩;rw [dL,Ai];unfold Instr.indexAt asIntOf Instr.sureAddr;have h3:(0≤m∧m<(n:Int)):=⟨c5,c6⟩;simp only [Sem.run_bind,Sem.run_pure,Result.andThen_ok,ak bw,h3,and_self,if_true,bQ fZ,add_lit,hsz]
  rotate_left
  ·rename_i i T xs hi hx
   obtain⟨xe,fZ,jA,hsz,-⟩:=aq hi;split at h<;>try (cases h;done)
   rename_i c2;cases h;simp only [aV,decide_eq_true_eq] at hc;obtain⟨c5,c6,c7⟩:=hc;have c2:=bt c2;have c5:(0:Int)≤m:=c5;have c6:m<(n:Int):=c6;have c7:m<(xs.length:Int):=c7;have hv:=hr.ev x;rw [hx] at hv;simp only [VT] at hv;obtain⟨b,dL,htab⟩:=hv;refine cy (f:=fun ρ=>Instr.indexAt t (ρ x) (ρ ix)) (by simp [execOp,ho]) ⟨_,htab.at (m:=m.toNat) om,fun w' hs=>?_⟩;rw [dL,Ai];unfold Instr.indexAt asIntOf Instr.sureAddr;have h3:(0≤m∧m<(n:Int)):=⟨c5,c6⟩;simp only [Sem.run_bind,Sem.run_pure,Result.andThen_ok,ak bw,h3,and_self,if_true,bQ fZ,add_lit,hsz,c2,Jn,fC,lE]
  rename_i i j ai k i0 off hi hx;obtain⟨xe,fZ,jA,hsz,-⟩:=aq hi;split at h<;>try (cases h;done)
  rename_i g c hg PU;split at h<;>try (cases h;done)
  rename_i hs4;cases h;simp only [aV,decide_eq_true_eq] at hc hs4;obtain⟨c1,c2,c3,c4⟩:=hs4;obtain⟨c5,c6,c7⟩:=hc;have c1:=bt c1;have c2:=bt c2;have c3:=bt c3;have c4:=bt c4;have c5:(0:Int)≤m:=c5;have c6:m<(n:Int):=c6;have c7:m<(c.2.length:Int):=c7;subst c1 c3 c4;have hv:=hr.ev x;rw [hx] at hv;obtain⟨b,cap,cur,hj,hlt,dL,-⟩:=hr.arr hg PU hv;refine cy (f:=fun ρ=>Instr.indexAt t (ρ x) (ρ ix)) (by simp [execOp,ho]) ⟨_,LI (i:=m.toNat) (off:=0) hj om,fun w' hs=>?_⟩;rw [dL,Ai];unfold Instr.indexAt asIntOf Instr.sureAddr;have h3:(0≤m∧m<(n:Int)):=⟨c5,c6⟩;simp only [Sem.run_bind,Sem.run_pure,Result.andThen_ok,ak bw,h3,and_self,if_true,bQ fZ,add_lit,hsz,c2,Jn,fC,lE]
 case slice t x lo hi mx =>
  cases mx with
  | some _=>cases h
  | none =>
  simp only at h;split at h<;>try (cases h;done)
  rotate_right
  ·rename_i n e j1 j2 z r off ht hx
   split at h<;>try (cases h;done)
   rename_i i hi';cases h;rw [aV] at hc;have c1:=bt hc.1;have c2:0<n:=by have:=hc.2;rw [Nat.blt,Sa] at this;exact this
   obtain⟨xt,eA,bw,-⟩:=aq ht;obtain⟨xe,fZ,jA,hsz,-⟩:=aq hi';have hv:=hr.ev x;rw [hx] at hv;simp only [VT] at hv;obtain⟨b,he,hat⟩:=hv;refine cy (f:=fun ρ=>Instr.sliceAt t (ρ x) none none none) (by simp [execOp,ho]) ⟨.slice (some ⟨b,off,none⟩) n n,by simp only [VT];exact⟨b,rfl,hat⟩,fun w' hs=>?_⟩;have nI:=lY (P:=P) (PB:=false) (bM n) (lo:=none) (hi:=none) (x:=0) (y:=(n:Int)) (.inl ⟨rfl,rfl⟩) (.inl ⟨rfl,rfl⟩) (O0 _) om (O0 _) w';rw [he];unfold Instr.sliceAt Instr.sureAddr;simp only [Sem.run_bind,ak bw,Result.andThen_ok,Sem.run_pure,nI,bQ fZ,hsz,c1,add_lit];simp
  rotate_left
  ·rename_i n e j1 j2 z T xs ht hx
   split at h<;>try (cases h;done)
   rename_i i hi';split at h<;>try (cases h;done)
   rename_i p q hp hq;cases h;simp only [aV,decide_eq_true_eq] at hc;obtain⟨c1,c2,c5,c6,c7⟩:=hc;have c1:=bt c1;have c2:=bt c2;subst c2;have hv:=hr.ev x;rw [hx] at hv;simp only [VT] at hv;obtain⟨b,dL,htab⟩:=hv;obtain⟨xt,eA,bw,-⟩:=aq ht;obtain⟨xe,fZ,jA,hsz,-⟩:=aq hi';refine cy (f:=fun ρ=>Instr.sliceAt t (ρ x) (lo.map ρ) (hi.map ρ) none) (by simp [execOp,ho]) ⟨_,htab.sl (p:=p.toNat) (q:=q.toNat) om om,fun w' hs=>?_⟩;have nI:=lY (P:=P) (PB:=false) (bM xs.length) (gR hr hp) (gR hr hq) c5 c6 c7 w';rw [dL];unfold Instr.sliceAt Instr.sureAddr;simp only [Sem.run_bind,ak bw,Result.andThen_ok,Sem.run_pure,nI,bQ fZ,hsz,c1,add_lit,Jn,fC]
  rename_i n e j1 j2 z j ai k i0 off ht hx;split at h<;>try (cases h;done)
  rename_i i g c hi' hg PU;split at h<;>try (cases h;done)
  rename_i p q hp hq;cases h;simp only [aV,decide_eq_true_eq] at hc;obtain⟨c1,c2,c3,c4,c5,c6,c7,c8⟩:=hc;have c1:=bt c1;have c2:=bt c2;have c3:=bt c3;have c4:=bt c4;subst c1 c3 c4;have hv:=hr.ev x;rw [hx] at hv;obtain⟨b,cap,cur,hj,hlt,dL,-⟩:=hr.arr hg PU hv;obtain⟨xt,eA,bw,-⟩:=aq ht;obtain⟨xe,fZ,jA,hsz,-⟩:=aq hi';refine cy (f:=fun ρ=>Instr.sliceAt t (ρ x) (lo.map ρ) (hi.map ρ) none) (by simp [execOp,ho]) ⟨.slice (some (if n=p.toNat then ⟨b,0,none⟩ else ⟨b,p.toNat * k,none⟩)) (q.toNat - p.toNat) (n - p.toNat),?_,fun w' hs=>?_⟩
  ·simp only [VT]
   refine⟨g,_,hj,bM _,rfl,fun _=>⟨b,c.2.length,cap,if n=p.toNat then 0 else p.toNat * k,n - p.toNat,rfl,om,om,by split<;>rfl,?_⟩⟩;by_cases jB:n=p.toNat
   ·left;omega
   ·right;rw [if_neg jB]
  ·have nI:=lY (P:=P) (PB:=false) (bM n) (gR hr hp) (gR hr hq) c5 c6 c7 w'
   rw [dL];unfold Instr.sliceAt Instr.sureAddr;simp only [Sem.run_bind,ak bw,Result.andThen_ok,Sem.run_pure,nI,bQ fZ,hsz,c2,add_lit,Jn,fC]
def PX (P:Program) (ty:TypeId→Option Ty) (st:TS E) (o:Op):Option (Bool × TV E):=match PV P ty st o with
 | some x=>some x
 | none=>X2 P st o
theorem abK (hE:E.Ok) (hr:Rel E w0 G0 st a w G) {ty:TypeId→Option Ty} {d:TV E} {c:Bool} (h:PX P ty st o.op=some (c,d)) (hc:c=true):fP P a w G o d:=by
 unfold PX at h;split at h
 ·rename_i x hx
  cases h;exact Y4 hE hr hx hc
 ·exact abJ hr h hc
theorem Rel.acQ (hr:Rel E w0 G0 st a w G) {e:TypeId} {k:Nat} {cur:Array Value} {T:Ty} {xs:List (T.den E.D)} (hk:k=T.size E) (hk0:0<k) (hx0:0<xs.length) (hm:xs.length≤maxLen) (hcs:cur.size=xs.length * k)
  (hf:Flat w G.pr k cur.toList (xs.map (T.cells E))) :
  Rel E w0 G0 { st with g:=st.g++[⟨0,e,k⟩],c:=(st.g.length,⟨T,xs⟩)::st.c } a (w.alloc (.cells cur e)) { G with g:=G.g++[(⟨0,e,k⟩,.slice (some ⟨w.heap.size,0,none⟩) xs.length xs.length)] } ∧
   (G.g++[((⟨0,e,k⟩:aZ),Value.slice (some ⟨w.heap.size,0,none⟩) xs.length xs.length)])[st.g.length]? = some (⟨0,e,k⟩,.slice (some ⟨w.heap.size,0,none⟩) xs.length xs.length):=by
 have hG:=hr.grow (cL.alloc w (.cells cur e)) rfl rfl rfl G.pr (fun _ _ h=>h) (fun _ _ _ h=>h) (fun b o hp=>eF (hr.boxes.dH b o hp).1 si);have hnp:∀o,¬ G.pr w.heap.size o:=fun o hp=>absurd (hr.boxes.dH _ _ hp).1 (mA _);have hheap:(w.alloc (.cells cur e)).heap[w.heap.size]? = some (.cells cur e):=heap_alloc_new w _;have htk:cur.toList.take (xs.length * k)=cur.toList:=mw (by rw [mz,hcs];exact bM _)
 have hown:(w.alloc (.cells cur e)).ownsRow 0 e k (.slice (some ⟨w.heap.size,0,none⟩) xs.length xs.length) xs.length (cur.toList.take (xs.length * k)):=by
  refine⟨?_,.inr ⟨w.heap.size,xs.length,cur,rfl,fT _,hheap,bM _,hm,hcs,rfl⟩⟩;rw [htk,mz,hcs]
 have hA:=hG.xG ⟨0,e,k⟩ (.slice (some ⟨w.heap.size,0,none⟩) xs.length xs.length) ⟨xs.length,_,hown,fun a q h=>by injection h with h1 h2 h3;omega,fun b hb=>by
   cases hb;exact⟨si,fun hm=>absurd (hr.boxes.lt _ hm) (mA _),fun o _ hp=>hnp o hp⟩⟩ (fun b hb=>by cases hb;exact hr.cK.size) (fun j y z b hj Y8 hb=>by
   cases hb;obtain⟨n',xs',-,-,hb'⟩:=hr.boxes.grow j y z hj;exact absurd (hb' _ Y8).1 (mA _))
 have hrl:=hr.kQ;have gv:(G.g++[((⟨0,e,k⟩:aZ),Value.slice (some ⟨w.heap.size,0,none⟩) xs.length xs.length)])[st.g.length]? = some (⟨0,e,k⟩,.slice (some ⟨w.heap.size,0,none⟩) xs.length xs.length):=by rw [←hrl];simp
 refine⟨hA.SK (j:=st.g.length) (c:=⟨T,xs⟩) ⟨⟨0,e,k⟩,_,gv,hk,hk0,⟨_,hown,?_⟩,fun b hb o hp=>by cases hb;exact hnp o hp⟩,gv⟩;rw [htk];exact hf.mono (fun _ _ h=>h) (fun b o v _ hv=>(cL.alloc w _).cell hv)
theorem abL (hE:E.Ok) (hr:Rel E w0 G0 st a w G) {t e:TypeId} {n j1 j2:Nat} {z0:Value} {ie:TI} (ho:o.op=.alloc t) (ht:aB P t=some ⟨.array n e,j1,j2,z0⟩) {T:Ty} {z:T.den E.D}
  (hT:T.size E=1) (hn:0<n) (hm:n≤maxLen) (hzn:z0.cells.size=n) (hall:z0.cells.toList.all (aeo ie.zero)=true) (hz1:ie.zero.cells.toList.all (·.oneCell')=true) (hz:(pN E (some T) ie.zero).get T=some z) :
  fu P w0 G0 a w o { st with t:=br st.t o.dst (.dK st.g.length 0 1 0 0),g:=st.g++[⟨0,t,1⟩],c:=(st.g.length,⟨T,List.replicate n z⟩)::st.c }:=by
 have M1:VT E w G (.dat T z) ie.zero:=TV.nF hz (Fp hE (ty:=some T) hz1);have M3:=M1.Dk
 have hcell:∀v,v∈z0.cells.toList→v=ie.zero∧ie.zero.cells=#[ie.zero]:=fun v hv=>by
  obtain⟨q1,q2⟩:=ajt (nk.1 hall v hv);exact⟨q1.symm,q2⟩
 have hfl:Flat w G.pr 1 z0.cells.toList ((List.replicate n z).map (T.cells E)):=by
  refine⟨by simp [hzn],fun j hj=>?_,fun j l hj hl=>?_⟩
  ·have hj:j<n:=by simpa using hj
   have:((List.replicate n z).map (T.cells E)).getD j []=T.cells E z:=by simp [List.getD,hj]
   rw [this,Ty.qN E hE,hT]
  ·have hj:j<n:=by simpa using hj
   obtain rfl:l=0:=om;have e1:((List.replicate n z).map (T.cells E)).getD j []=T.cells E z:=by simp [List.getD,hj]
   have hjz:j<z0.cells.toList.length:=by simp [hzn,hj]
   have e2:z0.cells.toList.getD (j * 1+0) undef=z0.cells.toList[j]:=by simp only [zD,lE,List.getD,bK hjz,NA]
   obtain⟨q1,q2⟩:=hcell _ (ei hjz);rw [e1,e2,q1];rw [q2] at M3
   cases hd:T.cells E z with
   | nil=>rw [hd] at M3;exact M3.elim
   | cons d ds=>rw [hd] at M3;exact M3.1
 obtain⟨hR,gv⟩:=hr.acQ (e:=t) (k:=1) (cur:=z0.cells) (T:=T) (xs:=List.replicate n z) hT.symm Nat.one_pos (by simpa using hn) (by simpa using hm) (by simp [hzn]) hfl;refine⟨.value _,_,_,_,?_,.inl rfl,hR.put (d:=.dK st.g.length 0 1 0 0) (v:=.pointer (some ⟨w.heap.size,0,none⟩)) ?_ o.dst⟩
 ·simp only [execOp,ho,Instr.alloc,Sem.run_bind,ji ht,Result.andThen_ok]
  rfl
 ·simp only [VT]
  exact⟨⟨0,t,1⟩,_,gv,bM _,rfl,fun _=>⟨w.heap.size,_,_,rfl,by simpa using hn,si⟩⟩
theorem afY (hr:Rel E w0 G0 st a w G) {t:TypeId} {x:Operand} {n:Nat} (ho:o.op=.box t x) {T:Ty} {xs:List (T.den E.D)} (hx:st.ev x=.oO T xs) (hT:0<T.size E) (hn:0<n) (hm:n≤maxLen) (hl:xs.length=n) :
  fu P w0 G0 a w o { st with t:=br st.t o.dst (.dK st.g.length 0 (T.size E) 0 0),g:=st.g++[⟨0,t,T.size E⟩],c:=(st.g.length,⟨T,xs⟩)::st.c }:=by
 have hv:=hr.ev x;rw [hx] at hv;simp only [VT] at hv;obtain⟨vs,he,h1,hf⟩:=hv;obtain⟨hR,gv⟩:=hr.acQ (e:=t) (k:=T.size E) (cur:=vs) (T:=T) (xs:=xs) rfl hT om om (by have:=hf.1;simpa using this) hf;refine⟨.value _,_,_,_,?_,.inl rfl,hR.put (d:=.dK st.g.length 0 (T.size E) 0 0) (v:=.pointer (some ⟨w.heap.size,0,none⟩)) ?_ o.dst⟩
 ·simp only [execOp,ho,Instr.box,Sem.run_bind]
  rw [he];rfl
 ·simp only [VT]
  exact⟨⟨0,t,T.size E⟩,_,gv,bM _,rfl,fun _=>⟨w.heap.size,_,_,rfl,om,si⟩⟩
theorem abM (hr:Rel E w0 G0 st a w G) {t:TypeId} {x:Operand} {i:TI} (ho:o.op=.load t x) (ht:aB P t=some i) (hag:i.isAgg=true) {j k:Nat} {g:aZ} {c:Cn E} (hd:st.ev x=.dK j g.ai k 0 0)
  (hg:st.g[j]? = some g) (hc:fL st.c j=some c) (hk:k=c.1.size E) (hsz:c.2.length * k=i.size):fP P a w G o (.oO c.1 c.2):=by
 have hv:=hr.ev x;rw [hd] at hv;obtain⟨b,cap,cur,hj,hlt,dL,hheap,hcap,hcs,hf,pM⟩:=hr.arr hg hc hv;have hle:i.size≤cur.size:=by rw [hcs,←hsz,hk,←pM];exact ir _ hcap
 have hrun:=fun w' hs=>iQ (P:=P) (w:=w) ht b 0 cur.size (fun l=>cur.toList.getD l undef) (fun l hl=>by
  rw [fC,cell_of_row w b l cur g.e (0,0) hheap];simp [List.getD,hl]) 0 (by rw [hag];simpa using hle) w' hs
 have hls:((List.range i.size).map fun l=>cur.toList.getD (0+l) undef)=cur.toList.take (c.2.length * g.k):=by
  rw [pM,←hk,hsz];refine zE bx fun q h1 h2=>?_;have hq:q<i.size:=by simpa using h1
  have M0:q<cur.size:=om;simp [List.getD,M0]
 refine cy (f:=fun ρ=>Instr.loadAt t (ρ x)) (by simp [execOp,ho]) ⟨.agg (cur.toList.take (c.2.length * g.k)).toArray,?_,fun w' hs=>?_⟩
 ·simp only [VT]
  refine⟨_,rfl,fun u hu=>?_,by rw [←pM];exact hf⟩;have hu:u∈cur.toList.take (c.2.length * g.k):=by simpa using hu
  obtain⟨q,hq,rfl⟩:=gZ hu;have hlen:=hf.1;rw [oC] at hlen
  have hk0:0<g.k:=by
   rcases adm g.k with h0 | h0
   ·rw [hlen,h0] at hq;simp at hq
   ·exact h0
  have hq1:q<c.2.length * g.k:=by rw [←hlen];exact hq
  have:=hf.2.2 (q / g.k) (q % g.k) (by rw [oC];exact (ado hk0).2 hq1) (Nat.mod_lt _ hk0);rw [show q / g.k * g.k+q % g.k=q by rw [R9];exact adp q g.k] at this;have e:(cur.toList.take (c.2.length * g.k)).getD q undef=(cur.toList.take (c.2.length * g.k))[q]:=by simp only [List.getD,bK hq,NA]
  rw [e] at this;exact this.one
 ·rw [dL,Jn]
  have:=hrun w' (hs (by rw [ho];rfl));rw [hag,cond_true,hls] at this;exact this
theorem J1 (hr:Rel E w0 G0 st a w G) {src dst e:TypeId} {x:Operand} {j1 j2 j3 j4 j5 j6:Nat} {z1 z2 z3:Value} (ho:o.op=.convert src dst x) (hs:aB P src=some ⟨.slice e,j1,j2,z1⟩) (hd:aB P dst=some ⟨.string,j3,j4,z2⟩)
  (he:aB P e=some ⟨.int .u8,j5,j6,z3⟩) {xs:List Int} (hv:VT E w G (.dat (.aG (.int .u8)) xs) (a.eval x)):fu P w0 G0 a w o { st with t:=br st.t o.dst (.dat .str (bh xs)) }:=by
 obtain⟨_,_,wX,-⟩:=aq hs;obtain⟨_,_,Fl,-⟩:=aq hd;obtain⟨_,_,jA,-⟩:=aq he;have hv:VD w G.pr (a.eval x) (.slice 1 (xs.map fun n=>[.int .u8 n])):=hv.1
 have hrun:(convert src dst (a.eval x)).run P w=.ok (mkStr (bh xs)) w:=by
  rcases VD.GC (E:=E) hv with⟨ad,cx,rfl⟩ | ⟨b,off,cap,cx,hcap,hc⟩
  ·rw [cx]
   cases ad with
   | none =>
    unfold convert;simp only [Sem.run_bind,ak wX,ak Fl,Result.andThen_ok,ak jA]
    rfl
   | some ad =>
    have:=qQ (P:=P) (w:=w) ad 0 [] (fun j n hj=>by simp at hj);simp only [kg] at this;unfold convert;simp only [Sem.run_bind,ak wX,ak Fl,Result.andThen_ok,ak jA,this]
  ·rw [cx]
   have:=qQ (P:=P) (w:=w) ⟨b,off,none⟩ cap xs (fun j n hj=>by rw [add_lit];exact (hc j n hj).2);unfold convert;simp only [Sem.run_bind,ak wX,ak Fl,Result.andThen_ok,ak jA,this]
 refine⟨_,mkStr (bh xs),w,G,?_,.inl rfl,hr.put (.str _ _ _) o.dst⟩;simp only [execOp,ho,Sem.run_bind,hrun,Result.andThen_ok,Sem.run_pure]
def Zb (P:Program) (ty:TypeId→Option Ty) (st:TS E) (dst:Option Nat):Op→Option (Bool × TS E)
 | .alloc t=>match aB P t with
  | some ⟨.array n e,_,_,z0⟩=>match Nat.blt 8 n,aB P e,ty e with
   | true,some ie,some T=>match (pN E (some T) ie.zero).get T with
    | some z=>some (Nat.beq (T.size E) 1&&(Nat.ble n 9223372036854775807&&(Nat.beq z0.cells.size n&&(z0.cells.toList.all (aeo ie.zero)&&ie.zero.cells.toList.all (·.oneCell')))),
      { st with t:=br st.t dst (.dK st.g.length 0 1 0 0),g:=st.g++[⟨0,t,1⟩],c:=(st.g.length,⟨T,List.replicate n z⟩)::st.c })
    | none=>none
   | _,_,_=>none
  | _=>none
 | .box t x=>match aB P t,st.ev x with
  | some ⟨.array n _,_,_,_⟩,.oO T xs=>some (Nat.blt 0 (T.size E)&&(Nat.blt 0 n&&(Nat.ble n 9223372036854775807&&Nat.beq xs.length n)),
    { st with t:=br st.t dst (.dK st.g.length 0 (T.size E) 0 0),g:=st.g++[⟨0,t,T.size E⟩],c:=(st.g.length,⟨T,xs⟩)::st.c })
  | _,_=>none
 | .load t x=>match aB P t,st.ev x with
  | some i,.dK j ai k ix off=>match i.kind,st.g[j]?,fL st.c j with
   | .array _ _,some g,some c=>some (i.isAgg&&(Nat.beq g.ai ai&&(Nat.beq k (c.1.size E)&&(Nat.beq ix 0&&(Nat.beq off 0&&Nat.beq (c.2.length * k) i.size)))),{ st with t:=br st.t dst (.oO c.1 c.2) })
   | _,_,_=>none
  | _,_=>none
 | .convert src d x=>match aB P src,aB P d,st.ev x with
  | some ⟨.slice e,_,_,_⟩,some ⟨.string,_,_,_⟩,.jz j ai k lo n=>match aB P e,st.g[j]?,fL st.c j with
   | some ⟨.int .u8,_,_,_⟩,some g,some ⟨.int .u8,xs⟩=>some (Nat.beq g.ai ai&&Nat.beq k 1,{ st with t:=br st.t dst (.dat .str (bh ((xs.drop lo).take n))),c:=fF j st.c })
   | _,_,_=>none
  | some ⟨.slice e,_,_,_⟩,some ⟨.string,_,_,_⟩,.cw j ai=>match aB P e,st.g[j]?,fL st.c j with
   | some ⟨.int .u8,_,_,_⟩,some g,some ⟨.int .u8,xs⟩=>some (Nat.beq g.ai ai,{ st with t:=br st.t dst (.dat .str (bh xs)),c:=fF j st.c })
   | _,_,_=>none
  | _,_,_=>none
 | _=>none
theorem aep (hE:E.Ok) (hr:Rel E w0 G0 st a w G) {ty:TypeId→Option Ty} {st':TS E} {cc:Bool} (h:Zb P ty st o.dst o.op=some (cc,st')) (fJ:cc=true):fu P w0 G0 a w o st':=by
 have hmax:maxLen=9223372036854775807:=rfl;cases ho:o.op<;>rw [ho] at h<;>simp only [Zb] at h<;>try (cases h;done)
 case alloc t =>
  split at h<;>try (cases h;done)
  rename_i n e j1 j2 z0 ht;split at h<;>try (cases h;done)
  rename_i ie T h8 hi hT;split at h<;>try (cases h;done)
  rename_i z hz;cases h;simp only [aV] at fJ;obtain⟨c1,c2,c3,c4,c5⟩:=fJ;exact abL hE hr ho ht (bt c1) (Nat.lt_of_le_of_lt (fT 8) (ef h8)) (by rw [hmax];exact ef c2) (bt c3) c4 c5 hz
 case box t x =>
  split at h<;>try (cases h;done)
  rename_i n e j1 j2 z0 T xs ht hx;cases h;simp only [aV] at fJ;obtain⟨c1,c2,c3,c4⟩:=fJ;exact afY hr ho hx (ef c1) (ef c2) (by rw [hmax];exact ef c3) (bt c4)
 case load t x =>
  split at h<;>try (cases h;done)
  rename_i i j ai k ix off ht hx;split at h<;>try (cases h;done)
  rename_i g c hk hg hc;cases h;simp only [aV] at fJ;obtain⟨c1,c2,c3,c4,c5,c6⟩:=fJ;have c2:=bt c2;have c4:=bt c4;have c5:=bt c5;subst c2 c4 c5;exact (abM hr ho ht c1 hx hg hc (bt c3) (bt c6)).ad5 hr
 case convert src d x =>
  split at h<;>try (cases h;done)
  ·rename_i e j1 j2 z1 j3 j4 z2 j ai k lo n hs hd hx
   split at h<;>try (cases h;done)
   rename_i j5 j6 z3 g xs he hg hc;cases h;simp only [aV] at fJ;have c1:=bt fJ.1;have c2:=bt fJ.2;subst c1 c2;obtain⟨G',hR,ou,-,hb⟩:=hr.PS hg hc;have hv:=hr.ev x;rw [hx] at hv;exact J1 (st:={ st with c:=fF j st.c }) hR ho hs hd he (hb _ _ _ hv)
  ·rename_i e j1 j2 z1 j3 j4 z2 j ai hs hd hx
   split at h<;>try (cases h;done)
   rename_i j5 j6 z3 g xs he hg hc;cases h;have c1:=bt fJ;subst c1;obtain⟨G',hR,ou,hb,-⟩:=hr.PS hg hc;have hv:=hr.ev x;rw [hx] at hv;exact J1 (st:={ st with c:=fF j st.c }) hR ho hs hd he (hb _ hv)
def aeq (P:Program) (ty:TypeId→Option Ty) (st:TS E) (dst:Option Nat) (op:Op):Option (Bool × TS E):=match Zb P ty st dst op with
 | some r=>some r
 | none=>X1 P ty st dst op
theorem aer (hE:E.Ok) (hr:Rel E w0 G0 st a w G) {ty:TypeId→Option Ty} {st':TS E} {c:Bool} (h:aeq P ty st o.dst o.op=some (c,st')) (hc:c=true):fu P w0 G0 a w o st':=by
 unfold aeq at h;split at h
 ·rename_i r hm
  cases h;exact aep hE hr hm hc
 ·exact abI hE hr h hc
end
end Go.RT
namespace Go.RT
variable {E : TEnv}
section
variable {P : Program} {w0 w w' : World} {G0 G G' : au} {st : TS E} {a : Act} {o : Oper}
def PY (P:Program) (st:TS E):Op→Option (Bool × TV E)
 | .indexAddr t x ix=>match aB P t,st.ev ix with
  | some ⟨.slice e,_,_,_⟩,.dat (.int _) m=>match aB P e,st.ev x with
   | some i,.cI r n cap=>some (Nat.beq i.size 1&&(decide (0≤m)&&decide (m<(n:Int))),.ptr r (Int.toNat m))
   | _,_=>none
  | _,_=>none
 | .call c=>match c.callee,c.args.toList,c.argTypes.toList with
  | .builtin .len,[x],[t]=>match aB P t,st.ev x with
   | some ⟨.slice _,_,_,_⟩,.cI r n cap=>some (true,.dat (.int .i64) (n:Int))
   | _,_=>none
  | _,_,_=>none
 | .load t x=>match aB P t,st.ev x with
  | some i,.ptr r off=>match st.H[r]? with
   | some (.dm e cap T xs d)=>some (Nat.beq i.size 1&&(!i.isAgg&&Nat.beq off xs.length),d)
   | _=>none
  | _,_=>none
 | _=>none
theorem Vi {w:World} {b n:Nat} {cur:Array Value} {e:TypeId} (h:w.heap[b]? = some (.cells cur e (0,0))) (hn:n<cur.size):w.cell? ⟨b,n,none⟩=some (cur.getD n undef):=by
 rw [cell_of_row w b n cur e (0,0) h];simp [Array.getD,hn]
theorem HZ {t:TypeId} {i:TI} (hi:aB P t=some i) (hs:i.size=1) (ha:i.isAgg=false) {b n:Nat} {v:Value} (W:World) (h:W.cell? ⟨b,n,none⟩=some v):(Instr.loadAt t (.pointer (some ⟨b,n,none⟩))).run P W=.ok v W:=by
 have hrow:=iQ (P:=P) (w:=W) hi b n 1 (fun _=>v) (fun l hl=>by
  have:l=0:=om;subst this;simpa using h) 0 (by rw [ha];simp) W (cL.refl W)
 rw [ha] at hrow;simpa using hrow
theorem abN (hE:E.Ok) (hr:Rel E w0 G0 st a w G) {d:TV E} {cc:Bool} (h:PY P st o.op=some (cc,d)) (hc:cc=true):fP P a w G o d:=by
 cases ho:o.op<;>rw [ho] at h<;>simp only [PY] at h<;>try (cases h;done)
 case indexAddr t x ix =>
  split at h<;>try (cases h;done)
  rename_i e j1 j2 z kd m ht hn;obtain⟨xt,eA,bw,-⟩:=aq ht;obtain⟨m,hm0⟩:∃q:Int,q=m:=⟨m,rfl⟩;subst hm0;have yZ:=hr.ev ix;rw [hn] at yZ;have Ai:=yZ.dw;split at h<;>try (cases h;done)
  rename_i i r n cap hi hx;obtain⟨xe,fZ,jA,hsz,-⟩:=aq hi;cases h;simp only [aV,decide_eq_true_eq] at hc;obtain⟨c2,c3,c4⟩:=hc;have c2:=bt c2;have c3:(0:Int)≤m:=c3;have c4:m<(n:Int):=c4;have hv:=hr.ev x;rw [hx] at hv;simp only [VT] at hv;obtain⟨b,dL,hat⟩:=hv;refine cy (f:=fun ρ=>Instr.indexAt t (ρ x) (ρ ix)) (by simp [execOp,ho]) ⟨.pointer (some ⟨b,m.toNat,none⟩),?_,fun w' hs=>?_⟩
  ·simp only [VT];exact⟨b,rfl,hat⟩
  rw [dL,Ai];unfold Instr.indexAt asIntOf;simp only [Sem.run_bind,Sem.run_pure,Result.andThen_ok,ak bw];have h3:(0≤m∧m<((n:Nat):Int)):=⟨c3,c4⟩;simp only [h3,and_self,if_true,Sem.run_bind,bQ fZ,Result.andThen_ok,Sem.run_pure,add_lit,hsz,c2,fC,zD]
  try rfl
 case load t x =>
  split at h<;>try (cases h;done)
  rename_i i r off hi hx;split at h<;>try (cases h;done)
  rename_i e cap T xs d' hb;cases h;simp only [aV,nq] at hc;obtain⟨c1,c2,c3⟩:=hc;have c1:=bt c1;have c3:=bt c3;subst c3;have hv:=hr.ev x;rw [hx] at hv;simp only [VT] at hv;obtain⟨b,dL,hat⟩:=hv;obtain⟨cur,h1,h2,h4,h5,h6⟩:=hr.box hat hb;refine⟨_,h5,fun w' hs=>?_⟩;have hb':w'.heap[b]? = some (.cells cur e (0,0)):=by rw [(hs (by rw [ho];rfl)).2 b (lF.1 h1).1];exact h1
  have:=HZ (P:=P) hi c1 c2 w' (Vi hb' (by rw [h2];exact h6));simp only [execOp,ho,dL,Sem.run_bind,this,Result.andThen_ok,Sem.run_pure]
 case call c' =>
  split at h<;>try (cases h;done)
  rename_i x t hcl ha hat;have mT:c'.args=#[x]:=by rw [←gY (xs:=c'.args),ha]
  have kP:c'.argTypes=#[t]:=by rw [←gY (xs:=c'.argTypes),hat]
  split at h<;>try (cases h;done)
  rename_i e j1 j2 z r n cap ht hx;cases h;have hv:=hr.ev x;rw [hx] at hv;simp only [VT] at hv;obtain⟨b,dL,hat⟩:=hv;obtain⟨xt,eA,bw,-⟩:=aq ht;refine⟨_,.int _ _ _ _,fun w' hs=>?_⟩;unfold execOp;simp only [ho,resolve,hcl,Sem.run_bind,Sem.run_pure,Result.andThen_ok,invoke,builtin,mT,kP,p6,eV,ni];rw [dL];simp [Builtin.len_,ak bw,goInt]
def PZ (P:Program) (ty:TypeId→Option Ty) (st:TS E) (o:Op):Option (Bool × TV E):=match PX P ty st o with
 | some x=>some x
 | none=>PY P st o
theorem M7 (hE:E.Ok) (hr:Rel E w0 G0 st a w G) {ty:TypeId→Option Ty} {d:TV E} {c:Bool} (h:PZ P ty st o.op=some (c,d)) (hc:c=true):fP P a w G o d:=by
 unfold PZ at h;split at h
 ·rename_i x hx
  cases h;exact abK hE hr hx hc
 ·exact abN hE hr h hc
def aes (P:Program) (st:TS E) (dst:Option Nat):Op→Option (Bool × TS E)
 | .store t x y=>match aB P t,st.ev x,(st.ev y).kO with
  | some i,.ptr r off,some [u]=>match st.H[r]? with
   | some (.dm e cap T xs d)=>some (Nat.beq i.size 1&&Nat.beq off xs.length,{ st with t:=br st.t dst .any,H:=st.H.set r (.dm e cap T xs u),d:=r::st.d })
   | _=>none
  | _,_,_=>none
 | _=>none
theorem aet (hE:E.Ok) (hr:Rel E w0 G0 st a w G) {st':TS E} {c:Bool} (h:aes P st o.dst o.op=some (c,st')) (hc:c=true):fu P w0 G0 a w o st':=by
 cases ho:o.op<;>rw [ho] at h<;>simp only [aes] at h<;>try (cases h;done)
 case store t x y =>
  split at h<;>try (cases h;done)
  rename_i i r off u ht hd hy;split at h<;>try (cases h;done)
  rename_i e cap T xs d hb;cases h;rw [aV] at hc;have c1:=bt hc.1;have c2:=bt hc.2;subst c2;have mU:=hr.ev x;rw [hd] at mU;simp only [VT] at mU;obtain⟨b,he,hat⟩:=mU;obtain⟨vs,hh,hsz,hxs,hdv,hlt⟩:=hr.box hat hb;obtain⟨hl,hl1⟩:=qO hE (hr.ev y) hy;have hlen:(a.eval y).cells.toList.length=1:=by rw [hl.length];rfl
  have hlen':(a.eval y).cells.size=i.size:=by rw [c1];simpa using hlen
  obtain⟨v,hv⟩:∃v,(a.eval y).cells.toList=[v]:=by
   match hq:(a.eval y).cells.toList,hlen with
   | [v],_=>exact⟨v,rfl⟩
  obtain⟨xt,eA,-,ad7,-⟩:=aq ht;have hfit:xs.length+0+(a.eval y).cells.toList.length≤vs.size:=by rw [hlen,hsz];omega
  have y6:=run_storeCells_at (P:=P) b xs.length e (a.eval y).cells.toList 0 vs w hh hfit (fun v hv=>hl1 v (by simpa using hv));simp only [lE] at y6;obtain⟨new,Zc⟩:∃new,new=(vs.toList.take xs.length++(a.eval y).cells.toList++vs.toList.drop (xs.length+(a.eval y).cells.toList.length)).toArray:=⟨_,rfl⟩
  have hrun:(execOp a.eval o).run P w=.ok .skip (w.setRow b new):=by
   simp only [execOp,ho,Instr.storeAt,Instr.sureAddr,he,storeVar,Sem.run_bind,Sem.run_pure,Result.andThen_ok,bQ eA,ad7,hlen'];simp only [ne_eq,not_true,if_false,y6,Result.andThen_ok,Zc]
   try rfl
  have hnew:(w.setRow b new).heap[b]? = some (.cells new e (0,0)):=setRow_heap w b vs _ e _ hh;have zO:∀b',b'≠b→(w.setRow b new).heap[b']? = w.heap[b']?:=fun b' hb'=>setRow_other w b b' _ hb';rw [hv] at Zc;have hvl:vs.toList.length=cap:=by rw [←hsz];simp
  have nK:new.size=cap:=by rw [Zc];simp [hvl];omega
  have J2:∀q,new.getD q undef=if q=xs.length then v else vs.getD q undef:=by
   intro q;rw [uo,uo,Zc,XG];have MT:(vs.toList.take xs.length).length=xs.length:=by rw [gB,hvl];omega
   by_cases h1:q<xs.length
   ·rw [if_neg om,iu,fU (by rw [MT];exact h1),XH h1];simp
   ·by_cases h2:q=xs.length
    ·subst h2
     rw [if_pos rfl,iu,lG (by rw [MT];exact bM _),MT,Nat.sub_self];rfl
    ·rw [if_neg h2,lG (by simp [MT];omega)]
     simp only [eW,MT,jd,kg,fC,sQ];rw [show xs.length+1+(q - (xs.length+1))=q by omega];simp
  have hR:=hr.tA (w':=w.setRow b new) hat si rfl rfl rfl zO (x:=.dm e cap T xs u) (fun hg=>by
   refine⟨new,hnew,nK,fun q x hx=>?_,?_,hlt⟩
   ·have hq:q<xs.length:=(bS.1 hx).1
    rw [J2,if_neg om];exact (hxs q x hx).mono hg
   ·rw [J2,if_pos rfl]
    have:=hl.mono hg;rw [hv] at this;obtain⟨u',us,e1,h1,-⟩:=this.cons_inv;cases e1;exact h1)
  exact⟨_,undef,_,G,hrun,.inr ⟨rfl,rfl⟩,hR.put (v:=undef) (by simp only [VT]) o.dst⟩
def Zd (P:Program) (ty:TypeId→Option Ty) (st:TS E) (dst:Option Nat) (op:Op):Option (Bool × TS E):=match Y9 P ty st dst op with
 | some r=>some r
 | none=>match aeq P ty st dst op with
  | some r=>some r
  | none=>aes P st dst op
theorem aeu (hE:E.Ok) (hr:Rel E w0 G0 st a w G) {ty:TypeId→Option Ty} {st':TS E} {c:Bool} (h:Zd P ty st o.dst o.op=some (c,st')) (hc:c=true):fu P w0 G0 a w o st':=by
 unfold Zd at h;split at h
 ·rename_i r hm
  cases h;exact aej hE hr hm hc
 ·split at h
  ·rename_i r hm
   cases h;exact aer hE hr hm hc
  ·exact aet hE hr h hc
end
end Go.RT
namespace Go.RT
variable {E : TEnv}
inductive Ze where
 | ptr | iface | func | slice | map
 deriving DecidableEq
def Ze.val:Ze→Value
 | .ptr=>.pointer none
 | .iface=>.nilIface
 | .func=>.nilFunc
 | .slice=>.slice none 0 0
 | .map=>.map none
def ahy:Value→Option Ze
 | .pointer none=>some .ptr
 | .nilIface=>some .iface
 | .nilFunc=>some .func
 | .slice none 0 0=>some .slice
 | .map none=>some .map
 | _=>none
theorem aju {v:Value} {k:Ze} (h:ahy v=some k):v=k.val:=by
 unfold ahy at h;split at h<;>cases h<;>rfl
inductive CT where
 | dat (t:Ty)
 | any
 | ptr (r off:Nat)
 | vn (r off n:Nat)
 | kN (r off:Nat)
 | eY (r:Nat)
 | pL (r:Nat)
 | bn (j:Nat) (t:Ty)
 | cw (j:Nat)
 | func (f:FuncId) (caps:List (Nat × Nat))
 | nil (k:Ze)
 | lV (t:Ty) (off:Nat)
 | iface (ty:TypeId) (t:Ty)
 | dK (j k:Nat)
 | oO (t:Ty)
 | jz (j k:Nat)
 | lb (b:Bool)
 | li (k:IntKind) (n:Int)
 | pk (t:Ty)
def CT.pk? : CT→Option Ty
 | .pk t=>some t
 | _=>none
inductive PT where
 | one (c:CT)
 | agg (cs:List CT)
 | bW (cs:List CT)
inductive BT where
 | cells (ty:TypeId) (cs:List CT)
 | map (kt vt:Ty)
 | iter
 | loop (y:Nat) (cs:List CT)
def CT.tys:CT→List Ty
 | .dat t=>[t]
 | .kN _ _=>[.bool]
 | .bn _ t=>[.aG t]
 | .lV t _=>[t]
 | .iface _ t=>[t]
 | .oO t=>[.aG t]
 | .jz _ _=>[.int .i64,.int .i64]
 | .pk t=>[t]
 | _=>[]
def CT.Zf:List CT→List Ty
 | []=>[]
 | c::cs=>c.tys++Zf cs
def PT.tys:PT→List Ty
 | .one c=>c.tys
 | .agg cs=>CT.Zf cs
 | .bW cs=>CT.Zf cs
def BT.tys:BT→List Ty
 | .cells _ cs=>CT.Zf cs
 | .loop _ cs=>CT.Zf cs
 | .map kt vt=>[.aG (.pair kt vt)]
 | .iter=>[.str,.int .i64]
abbrev Lf (E:TEnv):=(t:Ty) × t.den E.D
@[reducible] def dens (E : TEnv) : List Ty → Type
 | []=>Unit
 | [t]=>t.den E.D
 | t::u::ts=>t.den E.D × dens E (u::ts)
def X3 (t:Ty) (x:Lf E):Option (t.den E.D):=if h:x.1=t then some (h▸x.2) else none
def getAll:(ts:List Ty)→List (Lf E)→Option (dens E ts)
 | [],[]=>some ()
 | [],_::_=>none
 | [t],[x]=>X3 t x
 | [_],[]=>none
 | [_],_::_::_=>none
 | t::u::ts,x::xs=>match X3 t x,getAll (u::ts) xs with
  | some y,some ys=>some (y,ys)
  | _,_=>none
 | _::_::_,[]=>none
def az:(ts:List Ty)→dens E ts→List (Lf E)
 | [],_=>[]
 | [t],x=>[⟨t,x⟩]
 | t::u::ts,x=>⟨t,x.1⟩::az (u::ts) x.2
theorem Zg {t:Ty} {x:Lf E} {y:t.den E.D} (h:X3 t x=some y):x=⟨t,y⟩:=by
 unfold X3 at h;split at h
 ·rename_i e
  obtain⟨t',z⟩:=x;dsimp only at e;subst e;cases h;rfl
 ·cases h
theorem y9:∀(ts:List Ty) {ls:List (Lf E)} {x:dens E ts},getAll ts ls=some x→az ts x=ls
 | [],[],_,_=>rfl
 | [],_::_,_,h=>by cases h
 | [t],[l],x,h=>by simp only [getAll] at h;simp only [az,Zg h]
 | [_],[],_,h=>by cases h
 | [_],_::_::_,_,h=>by cases h
 | t::u::ts,l::ls,x,h=>by
  simp only [getAll] at h;split at h<;>try (cases h;done)
  rename_i y ys h1 h2;cases h
  simp only [az,Zg h1,y9 (u::ts) h2]
 | _::_::_,[],_,h=>by cases h
structure Rn where
 b:List Nat
 g:List Nat
 v:List Nat
def iy (a b c d:Nat):Bool:=Nat.beq a b&&Nat.beq c d
def Ft (n:Rn):List (Nat × Nat)→List (TV E)→Bool
 | [],[]=>true
 | (r,off)::cs,d::ds=>(match n.b[r]?,d with
  | some r',.ptr r'' off'=>iy r' r'' off off'
  | _,_=>false)&&Ft n cs ds
 | _,_=>false
def uF (n:Rn):List (Nat × Nat)→List (TV E)
 | []=>[]
 | (r,off)::cs=>(match n.b[r]? with | some r'=>.ptr r' off | none=>.any)::uF n cs
def CT.get (n:Rn):CT→TV E→Option (List (Lf E))
 | .dat t,d=>match d.get t with | some x=>some [⟨t,x⟩] | none=>none
 | .any,_=>some []
 | .ptr r off,.ptr r' off'=>match n.b[r]? with
  | some r''=>cond (iy r'' r' off off') (some []) none
  | none=>none
 | .vn r off m,.vn r' off' m'=>match n.b[r]? with
  | some r''=>cond (iy r'' r' off off'&&Nat.beq m m') (some []) none
  | none=>none
 | .kN r off,.kN b r' off'=>match n.b[r]? with
  | some r''=>cond (iy r'' r' off off') (some [⟨.bool,b⟩]) none
  | none=>none
 | .kN r off,.ptr r' off'=>match n.b[r]? with
  | some r''=>cond (iy r'' r' off off') (some [⟨.bool,true⟩]) none
  | none=>none
 | .kN _ _,.val (.pointer none)=>some [⟨.bool,false⟩]
 | .eY r,.eY r'=>match n.b[r]? with
  | some r''=>cond (Nat.beq r'' r') (some []) none
  | none=>none
 | .pL r,.pL r'=>match n.b[r]? with
  | some r''=>cond (Nat.beq r'' r') (some []) none
  | none=>none
 | .bn j t,.bn j' ai t' xs=>match n.g[j]?,n.v[j]? with
  | some nL,some v=>if h:t'=t then cond (iy nL j' v ai) (some [⟨.aG t,(h▸xs:List (t.den E.D))⟩]) none else none
  | _,_=>none
 | .func f caps,.func (.func f') cs=>cond (Nat.beq f f'&&Ft n caps cs) (some []) none
 | .nil k,.val v=>match ahy v with | some k'=>cond (decide (k=k')) (some []) none | none=>none
 | .lV t off,.lV t' y off'=>if h:t'=t then cond (Nat.beq off off') (some [⟨t,h▸y⟩]) none else none
 | .iface ty t,.iface ty' d=>match d.get t with | some x=>cond (Nat.beq ty ty') (some [⟨t,x⟩]) none | none=>none
 | .cw j,.cw j' ai=>match n.g[j]?,n.v[j]? with
  | some nL,some v=>cond (iy nL j' v ai) (some []) none
  | _,_=>none
 | .dK j k,.dK j' ai k' i off=>match n.g[j]?,n.v[j]? with
  | some nL,some v=>cond (iy nL j' v ai&&(Nat.beq k k'&&iy i 0 off 0)) (some []) none
  | _,_=>none
 | .oO t,.oO t' xs=>if h:t'=t then some [⟨.aG t,(h▸xs:List (t.den E.D))⟩] else none
 | .jz j k,.jz j' ai k' lo m=>match n.g[j]?,n.v[j]? with
  | some nL,some v=>cond (iy nL j' v ai&&Nat.beq k k') (some [⟨.int .i64,(lo:Int)⟩,⟨.int .i64,(m:Int)⟩]) none
  | _,_=>none
 | .lb b,.dat .bool x=>cond (b==x) (some []) none
 | .li k n,.dat (.int k') x=>cond (decide (k=k')&&decide (n=x)) (some []) none
 | _,_=>none
def CT.put (n:Rn):CT→List (Lf E)→TV E × List (Lf E)
 | .dat _,l::ls=>(.dat l.1 l.2,ls)
 | .ptr r off,ls=>(match n.b[r]? with | some r'=>.ptr r' off | none=>.any,ls)
 | .vn r off m,ls=>(match n.b[r]? with | some r'=>.vn r' off m | none=>.any,ls)
 | .kN r off,l::ls=>(match n.b[r]?,l with | some r',⟨.bool,b⟩=>.kN b r' off | _,_=>.any,ls)
 | .eY r,ls=>(match n.b[r]? with | some r'=>.eY r' | none=>.any,ls)
 | .pL r,ls=>(match n.b[r]? with | some r'=>.pL r' | none=>.any,ls)
 | .bn j _,l::ls=>(match n.g[j]?,n.v[j]?,l with | some j',some v,⟨.aG t,xs⟩=>.bn j' v t xs | _,_,_=>.any,ls)
 | .func f caps,ls=>(.func (.func f) (uF n caps),ls)
 | .nil k,ls=>(.val k.val,ls)
 | .lV _ off,l::ls=>(.lV l.1 l.2 off,ls)
 | .iface ty _,l::ls=>(.iface ty (.dat l.1 l.2),ls)
 | .cw j,ls=>(match n.g[j]?,n.v[j]? with | some j',some v=>.cw j' v | _,_=>.any,ls)
 | .dK j k,ls=>(match n.g[j]?,n.v[j]? with | some j',some v=>.dK j' v k 0 0 | _,_=>.any,ls)
 | .oO _,l::ls=>(match l with | ⟨.aG t,xs⟩=>.oO t xs | _=>.any,ls)
 | .jz j k,l::l'::ls=>(match n.g[j]?,n.v[j]?,l,l' with | some j',some v,⟨.int _,p⟩,⟨.int _,q⟩=>.jz j' v k (Int.toNat p) (Int.toNat q) | _,_,_,_=>.any,ls)
 | .lb b,ls=>(.dat .bool b,ls)
 | .li k n,ls=>(.dat (.int k) n,ls)
 | _,ls=>(.any,ls)
def CT.akW (t:Ty) (ds:List (TV E)):Option (t.den E.D × List (TV E)):=match JP E 4 t ds with
 | some p=>match Gz E 4 t p.1 with
  | some _=>some p
  | none=>none
 | none=>none
def CT.GG:List (Lf E)→List (TV E) × List (Lf E)
 | l::ls=>(match Gz E 4 l.1 l.2 with | some cs=>cs | none=>[],ls)
 | []=>([],[])
def CT.En (n:Rn):List CT→List (TV E)→Option (List (Lf E))
 | [],[]=>some []
 | [],_::_=>none
 | c::cs,ds=>match c.pk? with
  | some t=>match CT.akW t ds with
   | some p=>match En n cs p.2 with
    | some ls=>some (⟨t,p.1⟩::ls)
    | none=>none
   | none=>none
  | none=>match ds with
   | d::ds=>match c.get n d,En n cs ds with
    | some l,some ls=>some (l++ls)
    | _,_=>none
   | []=>none
def CT.ko (n:Rn):List CT→List (Lf E)→List (TV E) × List (Lf E)
 | [],ls=>([],ls)
 | c::cs,ls=>match c.pk? with
  | some _=>((CT.GG ls).1++(ko n cs (CT.GG ls).2).1,(ko n cs (CT.GG ls).2).2)
  | none=>((c.put n ls).1::(ko n cs (c.put n ls).2).1,(ko n cs (c.put n ls).2).2)
def PT.get (n:Rn):PT→TV E→Option (List (Lf E))
 | .one c,d=>c.get n d
 | .agg cs,.agg ds=>CT.En n cs ds
 | .bW cs,.tuple ds=>CT.En n cs ds
 | _,_=>none
def PT.put (n:Rn):PT→List (Lf E)→TV E × List (Lf E)
 | .one c,ls=>c.put n ls
 | .agg cs,ls=>(.agg (CT.ko n cs ls).1,(CT.ko n cs ls).2)
 | .bW cs,ls=>(.tuple (CT.ko n cs ls).1,(CT.ko n cs ls).2)
def BT.get (n:Rn):BT→cV E→Option (List (Lf E))
 | .cells ty cs,.cells ty' ds=>cond (Nat.beq ty ty') (CT.En n cs ds) none
 | .map kt vt,.map kt' vt' m=>if h:Ty.aG (.pair kt' vt')=.aG (.pair kt vt) then some [⟨.aG (.pair kt vt),(h▸(show (Ty.aG (.pair kt' vt')).den E.D from m):(Ty.aG (.pair kt vt)).den E.D)⟩] else none
 | .iter,.iter s pos=>some [⟨.str,s⟩,⟨.int .i64,(pos:Int)⟩]
 | .loop y cs,.loop y' ds=>cond (Nat.beq y y') (CT.En n cs ds) none
 | _,_=>none
def BT.put (n:Rn):BT→List (Lf E)→cV E × List (Lf E)
 | .cells ty cs,ls=>(.cells ty (CT.ko n cs ls).1,(CT.ko n cs ls).2)
 | .loop y cs,ls=>(.loop y (CT.ko n cs ls).1,(CT.ko n cs ls).2)
 | .map _ _,l::ls=>(match l with | ⟨.aG (.pair kt vt),m⟩=>.map kt vt m | _=>.iter [] 0,ls)
 | .iter,l::l'::ls=>(match l,l' with | ⟨.str,s⟩,⟨.int _,p⟩=>.iter s (Int.toNat p) | _,_=>.iter [] 0,ls)
 | _,ls=>(.iter [] 0,ls)
structure xK (w:World) (G:au) (n:Rn) (G2:au) (n2:Rn):Prop where
 pr:∀b o,G.pr b o→G2.pr b o
 i:∀(r r' b:Nat),n.b[r]? = some r'→G.i[r']? = some b→∃r2,n2.b[r]? = some r2∧G2.i[r2]? = some b
 g:∀(j j' v:Nat) x h,n.g[j]? = some j'→n.v[j]? = some v→G.g[j']? = some (x,h)→x.ai=v∧∃j2 v2 x2,n2.g[j]? = some j2∧n2.v[j]? = some v2∧G2.g[j2]? = some (x2,h)∧x2.ai=v2
theorem pW {a b c d:Nat} (h:iy a b c d=true):a=b∧c=d:=by
 unfold iy at h;rw [aV] at h;exact⟨bt h.1,bt h.2⟩
section
variable {w : World} {G G2 : au} {n n2 : Rn}
theorem VT.nM {t:Ty} {x:t.den E.D} {v:Value} (h:VT E w G (.dat t x) v) (hp:∀b o,G.pr b o→G2.pr b o):VT E w G2 (.dat t x) v:=by
 cases ha:t.isAgg
 ·exact .LB ha ((h.atom ha).mono hp (fun _ _ _ _ h=>h))
 ·obtain⟨vs,rfl,h0⟩:=h.ad4 ha
  simp only [VT,ha];exact⟨vs,rfl,h0.mono hp (fun _ _ _ _ h=>h)⟩
theorem acR (hL:xK w G n G2 n2):∀(caps:List (Nat × Nat)) {cs:List (TV E)} {vs:List Value},Ft n caps cs=true→aP E w G cs vs→aP E w G2 (uF n2 caps:List (TV E)) vs
 | [],[],vs,_,h=>h
 | (r,off)::caps,d::ds,vs,hc,h=>by
  simp only [Ft,aV] at hc;obtain⟨u,us,rfl,h1,h2⟩:=h.cons_inv;obtain⟨hc1,hc2⟩:=hc;split at hc1<;>try (cases hc1;done)
  rename_i r' r'' off' hr;obtain⟨rfl,rfl⟩:=pW hc1;simp only [VT] at h1;obtain⟨b,rfl,hb⟩:=h1;obtain⟨r2,hr2,iz⟩:=hL.i r r' b hr hb;simp only [uF,hr2];refine .cons ?_ (acR hL caps hc2 h2);simp only [VT]
  exact⟨b,rfl,iz⟩
 | [],_::_,_,hc,_=>by cases hc
 | (_,_)::_,[],_,hc,_=>by cases hc
theorem CT.sound (hL:xK w G n G2 n2) {c:CT} {d:TV E} {ls rest:List (Lf E)} {v:Value} (h:c.get n d=some ls) (hv:VT E w G d v) :
  (c.put n2 (ls++rest)).2=rest∧VT E w G2 (c.put n2 (ls++rest)).1 v:=by
 unfold CT.get at h;split at h<;>try (cases h;done)
 ·split at h<;>try (cases h;done)
  rename_i t x hx;cases h;exact⟨rfl,(TV.nF hx hv).nM hL.pr⟩
 ·cases h
  simp only [CT.put,iV,true_and,VT]
 ·rename_i r off r' off'
  split at h<;>try (cases h;done)
  rename_i r'' hr;cases hb:iy r'' r' off off'<;>rw [hb] at h<;>simp only [cond_true,cond_false] at h
  ·cases h
  cases h;obtain⟨rfl,rfl⟩:=pW hb;simp only [VT] at hv;obtain⟨b,rfl,hb⟩:=hv;obtain⟨r2,hr2,iz⟩:=hL.i r r'' b hr hb;simp only [CT.put,hr2,iV,true_and,VT];exact⟨b,rfl,iz⟩
 ·rename_i r off m r' off' m'
  split at h<;>try (cases h;done)
  rename_i r'' hr;cases hb:(iy r'' r' off off'&&Nat.beq m m')<;>rw [hb] at h<;>simp only [cond_true,cond_false] at h
  ·cases h
  cases h;rw [aV] at hb;obtain⟨rfl,rfl⟩:=pW hb.1;have hm:=bt hb.2;subst hm;simp only [VT] at hv;obtain⟨b,rfl,hb⟩:=hv;obtain⟨r2,hr2,iz⟩:=hL.i r r'' b hr hb;simp only [CT.put,hr2,iV,true_and,VT];exact⟨b,rfl,iz⟩
 ·rename_i r off bb r' off'
  split at h<;>try (cases h;done)
  rename_i r'' hr;cases hb:iy r'' r' off off'<;>rw [hb] at h<;>simp only [cond_true,cond_false] at h
  ·cases h
  cases h;obtain⟨rfl,rfl⟩:=pW hb;cases bb<;>simp only [VT] at hv
  ·subst hv
   simp only [CT.put,je,iV,true_and]
   cases hr2:n2.b[r]? with
   | none=>simp only [VT]
   | some r2=>simp only [VT]
  ·obtain⟨b,rfl,hb⟩:=hv
   obtain⟨r2,hr2,iz⟩:=hL.i r r'' b hr hb;simp only [CT.put,hr2,je,iV,true_and,VT];exact⟨b,rfl,iz⟩
 ·rename_i r off r' off'
  split at h<;>try (cases h;done)
  rename_i r'' hr;cases hb:iy r'' r' off off'<;>rw [hb] at h<;>simp only [cond_true,cond_false] at h
  ·cases h
  cases h;obtain⟨rfl,rfl⟩:=pW hb;simp only [VT] at hv;obtain⟨b,rfl,hb⟩:=hv;obtain⟨r2,hr2,iz⟩:=hL.i r r'' b hr hb;simp only [CT.put,hr2,je,iV,true_and,VT];exact⟨b,rfl,iz⟩
 ·rename_i r off
  cases h;simp only [VT] at hv;subst hv;simp only [CT.put,je,iV,true_and]
  cases hr2:n2.b[r]? with
  | none=>simp only [VT]
  | some r2=>simp only [VT]
 ·rename_i r r'
  split at h<;>try (cases h;done)
  rename_i r'' hr;cases hb:Nat.beq r'' r'<;>rw [hb] at h<;>simp only [cond_true,cond_false] at h
  ·cases h
  cases h;obtain rfl:=bt hb;simp only [VT] at hv;obtain⟨b,rfl,hb⟩:=hv;obtain⟨r2,hr2,iz⟩:=hL.i r r'' b hr hb;simp only [CT.put,hr2,iV,true_and,VT];exact⟨b,rfl,iz⟩
 ·rename_i r r'
  split at h<;>try (cases h;done)
  rename_i r'' hr;cases hb:Nat.beq r'' r'<;>rw [hb] at h<;>simp only [cond_true,cond_false] at h
  ·cases h
  cases h;obtain rfl:=bt hb;simp only [VT] at hv;obtain⟨b,rfl,hb⟩:=hv;obtain⟨r2,hr2,iz⟩:=hL.i r r'' b hr hb;simp only [CT.put,hr2,iV,true_and,VT];exact⟨b,rfl,iz⟩
 ·rename_i j t j' ai t' xs
  split at h<;>try (cases h;done)
  rename_i nL vv hj qR;split at h<;>try (cases h;done)
  rename_i ht;subst ht;cases hb:iy nL j' vv ai<;>rw [hb] at h<;>simp only [cond_true,cond_false] at h
  ·cases h
  cases h;obtain⟨rfl,rfl⟩:=pW hb;simp only [VT] at hv;obtain⟨uD,x,hh,hg,hle,heq⟩:=hv;obtain⟨vw,j2,v2,x2,q1,q2,q3,q4⟩:=hL.g j nL vv x hh hj qR hg;simp only [CT.put,q1,q2,je,iV,true_and,VT];refine⟨uD.mono hL.pr (fun _ _ _ _ h=>h),x2,hh,q3,om,fun _=>heq vw.symm⟩
 ·rename_i f caps f' cs
  cases hb:(Nat.beq f f'&&Ft n caps cs)<;>rw [hb] at h<;>simp only [cond_true,cond_false] at h
  ·cases h
  cases h;rw [aV] at hb;obtain rfl:=bt hb.1;simp only [VT] at hv;obtain⟨vs,rfl,hvs⟩:=hv;simp only [CT.put,iV,true_and,VT];exact⟨vs,rfl,acR hL caps hb.2 hvs⟩
 ·rename_i k u
  split at h<;>try (cases h;done)
  rename_i k' hk;cases hb:decide (k=k')<;>rw [hb] at h<;>simp only [cond_true,cond_false] at h
  ·cases h
  cases h;simp only [decide_eq_true_eq] at hb;subst hb;simp only [VT] at hv;subst hv;simp only [CT.put,iV,true_and,VT];exact aju hk
 ·rename_i t off t' y off'
  split at h<;>try (cases h;done)
  rename_i ht;subst ht;cases hb:Nat.beq off off'<;>rw [hb] at h<;>simp only [cond_true,cond_false] at h
  ·cases h
  cases h;obtain rfl:=bt hb;simp only [VT] at hv;obtain⟨b,o,c,rfl,h1,h2⟩:=hv;simp only [CT.put,je,iV,true_and,VT];exact⟨b,o,c,rfl,h1.mono hL.pr (fun _ _ _ _ h=>h),fun l u hl=>⟨hL.pr _ _ (h2 l u hl).1,(h2 l u hl).2⟩⟩
 ·rename_i ty t ty' d'
  split at h<;>try (cases h;done)
  rename_i x hx;cases hb:Nat.beq ty ty'<;>rw [hb] at h<;>simp only [cond_true,cond_false] at h
  ·cases h
  cases h;obtain rfl:=bt hb;simp only [VT] at hv;obtain⟨u,rfl,hu⟩:=hv;simp only [CT.put,je,iV,true_and,VT];exact⟨u,rfl,(TV.nF hx hu).nM hL.pr⟩
 ·rename_i j j' ai
  split at h<;>try (cases h;done)
  rename_i nL vv hj qR;cases hb:iy nL j' vv ai<;>rw [hb] at h<;>simp only [cond_true,cond_false] at h
  ·cases h
  cases h;obtain⟨rfl,rfl⟩:=pW hb;simp only [VT] at hv;obtain⟨x,hh,hg,hle,h1,heq⟩:=hv;obtain⟨vw,j2,v2,x2,q1,q2,q3,q4⟩:=hL.g j nL vv x hh hj qR hg;simp only [CT.put,q1,q2,iV,true_and,VT];exact⟨x2,hh,q3,om,h1,fun _=>heq vw.symm⟩
 ·rename_i j k j' ai k' i off
  split at h<;>try (cases h;done)
  rename_i nL vv hj qR;cases hb:(iy nL j' vv ai&&(Nat.beq k k'&&iy i 0 off 0))<;>rw [hb] at h<;>simp only [cond_true,cond_false] at h
  ·cases h
  cases h;rw [aV,aV] at hb;obtain⟨sE,iz,hb3⟩:=hb;obtain⟨rfl,rfl⟩:=pW sE;obtain rfl:=bt iz;obtain⟨rfl,rfl⟩:=pW hb3;simp only [VT] at hv;obtain⟨x,hh,hg,hle,h1,heq⟩:=hv;obtain⟨vw,j2,v2,x2,q1,q2,q3,q4⟩:=hL.g j nL vv x hh hj qR hg;simp only [CT.put,q1,q2,iV,true_and,VT];exact⟨x2,hh,q3,om,h1,fun _=>heq vw.symm⟩
 ·rename_i t t' xs
  split at h<;>try (cases h;done)
  rename_i ht;subst ht;cases h;simp only [VT] at hv;obtain⟨vs,rfl,h1,h2⟩:=hv;simp only [CT.put,je,iV,true_and,VT];exact⟨vs,rfl,h1,h2.mono hL.pr (fun _ _ _ _ h=>h)⟩
 ·rename_i j k j' ai k' lo m
  split at h<;>try (cases h;done)
  rename_i nL vv hj qR;cases hb:(iy nL j' vv ai&&Nat.beq k k')<;>rw [hb] at h<;>simp only [cond_true,cond_false] at h
  ·cases h
  cases h;rw [aV] at hb;obtain⟨sE,iz⟩:=hb;obtain⟨rfl,rfl⟩:=pW sE;obtain rfl:=bt iz;simp only [VT] at hv;obtain⟨x,hh,hg,hle,h1,heq⟩:=hv;obtain⟨vw,j2,v2,x2,q1,q2,q3,q4⟩:=hL.g j nL vv x hh hj qR hg;simp only [CT.put,q1,q2,je,iV,true_and,VT,bf];exact⟨x2,hh,q3,om,h1,fun _=>heq vw.symm⟩
 ·rename_i b x
  cases hb:(b==x)<;>rw [hb] at h<;>simp only [cond_true,cond_false] at h
  ·cases h
  cases h;rw [beq_iff_eq] at hb;subst hb;refine⟨rfl,?_⟩;rw [VT.iG hv];exact .bool _ _ _
 ·rename_i k n k' x
  cases hb:(decide (k=k')&&decide (n=x))<;>rw [hb] at h<;>simp only [cond_true,cond_false] at h
  ·cases h
  cases h;rw [aV,decide_eq_true_eq,decide_eq_true_eq] at hb;obtain⟨rfl,rfl⟩:=hb;refine⟨rfl,?_⟩;rw [VT.dw hv];exact .int _ _ _ _
theorem CT.Fu (hE:E.Ok) (hL:xK w G n G2 n2):∀ {cs:List CT} {ds:List (TV E)} {ls rest:List (Lf E)} {vs:List Value},CT.En n cs ds=some ls→aP E w G ds vs →
  (CT.ko n2 cs (ls++rest)).2=rest∧aP E w G2 (CT.ko n2 cs (ls++rest)).1 vs
 | [],[],ls,rest,vs,h,hv=>by cases h;simp only [aP] at hv;subst hv;exact⟨rfl,aP.nil⟩
 | c::cs,ds,ls,rest,vs,h,hv=>by
  unfold CT.En at h;unfold CT.ko;split at h
  ·rename_i t ht
   split at h<;>try (cases h;done)
   rename_i p hp;split at h<;>try (cases h;done)
   rename_i ls' h2;cases h;unfold CT.akW at hp;split at hp<;>try (cases hp;done)
   rename_i p' hp';split at hp<;>try (cases hp;done)
   rename_i fc U7;cases hp;obtain⟨us,ts,rfl,q1,q2⟩:=vo hE 4 t hv hp';obtain⟨e3,e4⟩:=CT.Fu hE hL (rest:=rest) h2 q2;simp only [ht,je,CT.GG,U7];exact⟨e3,(yA hE 4 t p.1 (q1.mono hL.pr (fun _ _ _ _ h=>h)) U7).append e4⟩
  ·rename_i ht
   split at h<;>try (cases h;done)
   rename_i d ds;split at h<;>try (cases h;done)
   rename_i l ls' h1 h2;cases h;obtain⟨u,us,rfl,q1,q2⟩:=hv.cons_inv;obtain⟨e1,e2⟩:=CT.sound hL (rest:=ls'++rest) h1 q1;obtain⟨e3,e4⟩:=CT.Fu hE hL (rest:=rest) h2 q2;simp only [ht,iu,e1]
   exact⟨e3,.cons e2 e4⟩
 | [],_::_,_,_,_,h,_=>by cases h
theorem PT.sound (hE:E.Ok) (hL:xK w G n G2 n2) {p:PT} {d:TV E} {ls rest:List (Lf E)} {v:Value} (h:p.get n d=some ls) (hv:VT E w G d v) :
  (p.put n2 (ls++rest)).2=rest∧VT E w G2 (p.put n2 (ls++rest)).1 v:=by
 unfold PT.get at h;split at h<;>try (cases h;done)
 ·exact CT.sound hL h hv
 ·simp only [VT] at hv
  obtain⟨vs,rfl,h1,h2⟩:=hv;obtain⟨e1,e2⟩:=CT.Fu hE hL (rest:=rest) h h2;refine⟨e1,?_⟩;simp only [PT.put,VT];exact⟨vs,rfl,h1,e2⟩
 ·simp only [VT] at hv
  obtain⟨vs,rfl,h2⟩:=hv;obtain⟨e1,e2⟩:=CT.Fu hE hL (rest:=rest) h h2;refine⟨e1,?_⟩;simp only [PT.put,VT];exact⟨vs,rfl,e2⟩
theorem dA.pr {kt vt:Ty} (hp:∀b o,G.pr b o→G2.pr b o):∀ {es:List MapEntry} {m:List (kt.den E.D × vt.den E.D)},dA E w G kt vt es m→dA E w G2 kt vt es m
 | [],[],_=>trivial
 | _::_,_::_,h=>⟨h.1.nM hp,h.2.1.nM hp,dA.pr hp h.2.2⟩
 | [],_::_,h=>h.elim
 | _::_,[],h=>h.elim
theorem BT.sound (hE:E.Ok) (hL:xK w G n G2 n2) {t:BT} {x:cV E} {ls rest:List (Lf E)} {b:Nat} (h:t.get n x=some ls) (hv:gq E w G b x) :
  (t.put n2 (ls++rest)).2=rest∧gq E w G2 b (t.put n2 (ls++rest)).1:=by
 unfold BT.get at h;split at h<;>try (cases h;done)
 ·rename_i ty cs ty' ds
  cases hb:Nat.beq ty ty'<;>rw [hb] at h<;>simp only [cond_true,cond_false] at h
  ·cases h
  obtain rfl:=bt hb;obtain⟨vs,h1,h2,h3⟩:=hv;obtain⟨e1,e2⟩:=CT.Fu hE hL (rest:=rest) h h3;exact⟨e1,vs,h1,h2,e2⟩
 ·rename_i kt vt kt' vt' m
  split at h<;>try (cases h;done)
  rename_i he;have he':=he;simp only [Ty.aG.injEq,Ty.pair.injEq] at he';obtain⟨rfl,rfl⟩:=he';cases h;obtain⟨es,clock,h1,h2,h3⟩:=hv;refine⟨rfl,?_⟩;exact⟨es,clock,h1,h2,h3.pr hL.pr⟩
 ·rename_i s pos
  cases h;exact⟨rfl,hv⟩
 ·rename_i y cs y' ds
  cases hb:Nat.beq y y'<;>rw [hb] at h<;>simp only [cond_true,cond_false] at h
  ·cases h
  obtain rfl:=bt hb;obtain⟨Y,fn,tmps,D,h0,h1,h2⟩:=hv;obtain⟨e1,e2⟩:=CT.Fu hE hL (rest:=rest) h h2;exact⟨e1,Y,fn,tmps,D,h0,h1,e2⟩
end
end Go.RT
namespace Go.RT
variable {E : TEnv}
structure Cut where
 vars:List (Nat × PT)
 boxes:List (Option BT)
 rows:List (Option (TypeId × Nat))
 soft:List (Nat × Ty)
def acS:List (Nat × PT)→List Ty
 | []=>[]
 | v::vs=>v.2.tys++acS vs
def GH:List (Option BT)→List Ty
 | []=>[]
 | some b::bs=>b.tys++GH bs
 | none::bs=>GH bs
def LK:List (Nat × Ty)→List Ty
 | []=>[]
 | p::ps=>.aG p.2::LK ps
def Cut.tys (c:Cut):List Ty:=acS c.vars++(GH c.boxes++LK c.soft)
def Fv (f:Nat→Option Nat) (cs:List (Nat × Cn E)):List (Nat × Ty)→Option (List (Lf E))
 | []=>some []
 | p::ps=>match f p.1 with
  | some j=>match fL cs j,Fv f cs ps with
   | some c,some ls=>if h:c.1=p.2 then some (⟨.aG p.2,(h▸c.2:List (p.2.den E.D))⟩::ls) else none
   | _,_=>none
  | none=>none
def jk (f:Nat→Option Nat):List (Nat × Ty)→List (Lf E)→List (Nat × Cn E)
 | [],_=>[]
 | p::ps,l::ls=>match f p.1,l with
  | some j,⟨.aG t,xs⟩=>(j,⟨t,xs⟩)::jk f ps ls
  | _,_=>jk f ps ls
 | _::_,[]=>[]
theorem yE {f f2:Nat→Option Nat} {cs:List (Nat × Cn E)}:∀ {ps:List (Nat × Ty)} {ls:List (Lf E)} (rest:List (Lf E)),Fv f cs ps=some ls→∀ {i:Nat} {c:Cn E},(i,c)∈jk f2 ps (ls++rest) →
  ∃q j,(∃t,(q,t)∈ps)∧f q=some j∧f2 q=some i∧(j,c)∈cs
 | [],ls,rest,h,i,c,hm=>by cases hm
 | p::ps,ls,rest,h,i,c,hm=>by
  simp only [Fv] at h;split at h<;>try (cases h;done)
  rename_i j hj;split at h<;>try (cases h;done)
  rename_i c' ls' h1 h2;split at h<;>try (cases h;done)
  rename_i ht;cases h;obtain⟨t',xs⟩:=c';obtain⟨q,t⟩:=p;dsimp only at ht;subst ht;simp only [je,jk] at hm
  cases hf:f2 q with
  | none =>
   rw [hf] at hm;obtain⟨q',j',⟨t1,e0⟩,e1⟩:=yE rest h2 hm
   exact⟨q',j',⟨t1,jS _ e0⟩,e1⟩
  | some i' =>
   rw [hf] at hm;rcases fK.1 hm with e | hm
   ·cases e
    exact⟨q,j,⟨t',nr ..⟩,hj,hf,NZ h1⟩
   ·obtain⟨q',j',⟨t1,e0⟩,e1⟩:=yE rest h2 hm
    exact⟨q',j',⟨t1,jS _ e0⟩,e1⟩
def below (n:Nat):List (Nat × Ty)→Bool
 | []=>true
 | p::ps=>Nat.blt p.1 n&&below n ps
theorem Zh {n:Nat}:∀ {ps:List (Nat × Ty)},below n ps=true→∀q t,(q,t)∈ps→q<n
 | [],_,q,t,h=>by cases h
 | p::ps,hb,q,t,h=>by
  simp only [below,aV] at hb;rcases fK.1 h with e | h
  ·rw [←e] at hb;exact ef hb.1
  ·exact Zh hb.2 q t h
def tD:List (Option (TypeId × Nat))→List aZ→List aZ→Bool
 | [],_,_=>true
 | none::rs,x::g0,y::g=>(Nat.beq x.ai y.ai&&(Nat.beq x.e y.e&&Nat.beq x.k y.k))&&tD rs g0 g
 | some p::rs,x::g0,y::g=>(Nat.beq p.1 y.e&&Nat.beq p.2 y.k)&&tD rs g0 g
 | some p::rs,[],y::g=>(Nat.beq p.1 y.e&&Nat.beq p.2 y.k)&&tD rs [] g
 | _,_,_=>false
def cg:List (Option (TypeId × Nat))→List aZ→List aZ
 | [],_=>[]
 | none::rs,x::g0=>x::cg rs g0
 | some p::rs,x::g0=>⟨x.ai+1,p.1,p.2⟩::cg rs g0
 | some p::rs,[]=>⟨0,p.1,p.2⟩::cg rs []
 | none::rs,[]=>⟨0,0,0⟩::cg rs []
def cY:List (Option (TypeId × Nat))→List aZ→List (aZ × Value)→List (aZ × Value)
 | none::rs,_::g0,y::gs=>y::cY rs g0 gs
 | some _::rs,x::g0,y::gs=>({ y.1 with ai:=x.ai+1 },y.2)::cY rs g0 gs
 | some _::rs,[],y::gs=>({ y.1 with ai:=0 },y.2)::cY rs [] gs
 | _,_,_=>[]
theorem Dr:∀(rows:List (Option (TypeId × Nat))) (g0:List aZ) (gs:List (aZ × Value)),tD rows g0 (gs.map (·.1))=true →
  (cY rows g0 gs).map (·.1)=cg rows g0∧(cY rows g0 gs).length=rows.length∧rows.length≤gs.length ∧
  ∀(j:Nat) y,gs[j]? = some y→j<rows.length→∃y2,(cY rows g0 gs)[j]? = some y2∧y2.2=y.2∧y2.1.e=y.1.e∧y2.1.k=y.1.k∧∀x0,g0[j]? = some x0→y2.1.ai=y.1.ai∨x0.ai<y2.1.ai
 | [],g0,gs,h=>by
  refine⟨by unfold cY cg;simp,by unfold cY;simp,si,fun j y _ hj=>by simp at hj⟩
 | none::rs,x::g0,y::gs,h=>by
  simp only [eV,tD,aV] at h;obtain⟨⟨h1,h2,h3⟩,h4⟩:=h;obtain⟨i1,i2,i3,i4⟩:=Dr rs g0 gs h4
  have hxy:y.1=x:=by
   have e1:=bt h1;have e2:=bt h2;have e3:=bt h3;obtain⟨⟨a,b,c⟩,v⟩:=y;obtain⟨a',b',c'⟩:=x;simp only at e1 e2 e3;simp [e1,e2,e3]
  refine⟨by simp [cY,cg,i1,hxy],by simp [cY,i2],by simpa using i3,fun j z hz hj=>?_⟩
  cases j with
  | zero=>simp at hz;subst hz;exact⟨y,rfl,rfl,rfl,rfl,fun _ _=>.inl rfl⟩
  | succ j=>simpa [cY] using i4 j z (by simpa using hz) (by simpa using hj)
 | some p::rs,x::g0,y::gs,h=>by
  simp only [eV,tD,aV] at h;obtain⟨⟨h1,h2⟩,h4⟩:=h;obtain⟨i1,i2,i3,i4⟩:=Dr rs g0 gs h4;have e1:=bt h1;have e2:=bt h2;refine⟨by simp [cY,cg,i1,e1,e2],by simp [cY,i2],by simpa using i3,fun j z hz hj=>?_⟩
  cases j with
  | zero=>simp at hz;subst hz;exact⟨_,rfl,rfl,rfl,rfl,fun x0 hx=>by simp at hx;subst hx;exact .inr (zF _)⟩
  | succ j=>simpa [cY] using i4 j z (by simpa using hz) (by simpa using hj)
 | some p::rs,[],y::gs,h=>by
  simp only [eV,tD,aV] at h;obtain⟨⟨h1,h2⟩,h4⟩:=h;obtain⟨i1,i2,i3,i4⟩:=Dr rs [] gs h4;have e1:=bt h1;have e2:=bt h2;refine⟨by simp [cY,cg,i1,e1,e2],by simp [cY,i2],by simpa using i3,fun j z hz hj=>?_⟩
  cases j with
  | zero=>simp at hz;subst hz;exact⟨_,rfl,rfl,rfl,rfl,fun x0 hx=>by simp at hx⟩
  | succ j=>simpa [cY] using i4 j z (by simpa using hz) (by simpa using hj)
 | none::rs,[],gs,h=>by cases gs<;>cases h
 | none::rs,_::_,[],h=>by cases h
 | some _::rs,[],[],h=>by cases h
 | some _::rs,_::_,[],h=>by cases h
def LL (n:Rn) (st:TS E):List (Nat × PT)→Option (List (Lf E))
 | []=>some []
 | (i,p)::vs=>match p.get n (st.at i),LL n st vs with
  | some l,some ls=>some (l++ls)
  | _,_=>none
def jV (n:Rn) (d:List Nat) (nb:Nat):Nat→List (Option BT)→List (cV E)→Option (List (Lf E))
 | _,[],_=>some []
 | r,none::bs,_::H=>cond (d.elem r || !(Nat.blt r nb)) none (jV n d nb (r+1) bs H)
 | r,some t::bs,x::H=>match t.get n x,jV n d nb (r+1) bs H with
  | some l,some ls=>some (l++ls)
  | _,_=>none
 | _,_::_,[]=>none
def since (d0 d:List Nat):List Nat:=d.take (d.length - d0.length)
theorem afZ (n d0:List Nat):since d0 (n++d0)=n:=by simp [since]
def Cut.leaves (c:Cut) (aQ st:TS E):Option (List (Lf E)) :=
 cond (below c.rows.length c.soft&&(Nat.ble aQ.H.length c.boxes.length&&(Nat.ble aQ.g.length c.rows.length&&tD c.rows aQ.g st.g)))
  (match LL ⟨List.range c.boxes.length,List.range c.rows.length,st.g.map (·.ai)⟩ st c.vars,jV ⟨List.range c.boxes.length,List.range c.rows.length,st.g.map (·.ai)⟩ (since aQ.d st.d) aQ.H.length 0 c.boxes st.H,Fv some st.c c.soft with
   | some a,some b,some e=>some (a++(b++e))
   | _,_,_=>none) none
def jt (W:List Nat):Nat→List (TV E)→List (TV E)
 | _,[]=>[]
 | i,d::ds=>cond (W.elem i) .any d::jt W (i+1) ds
def iZ (n:Rn):List (Nat × PT)→List (TV E)→List (Lf E)→List (TV E) × List (Lf E)
 | [],t,ls=>(t,ls)
 | (i,p)::vs,t,ls=>iZ n vs (t.set i (p.put n ls).1) (p.put n ls).2
def cu (n:Rn):List (Option BT)→List (cV E)→List (Lf E)→List (cV E)
 | [],_,_=>[]
 | none::bs,H,ls=>(match H with | x::_=>x | []=>default)::cu n bs H.tail ls
 | some t::bs,H,ls=>(t.put n ls).1::cu n bs H.tail (t.put n ls).2
def kF:List (Option BT)→List (Lf E)→List (Lf E)
 | [],ls=>ls
 | none::bs,ls=>kF bs ls
 | some t::bs,ls=>kF bs (t.put ⟨[],[],[]⟩ ls).2
def wZ:Nat→List (Option BT)→List Nat
 | _,[]=>[]
 | r,none::bs=>wZ (r+1) bs
 | r,some _::bs=>r::wZ (r+1) bs
def Cut.unpack (c:Cut) (W:List Nat) (aQ:TS E) (ls:List (Lf E)):TS E :=
 let n:Rn:=⟨List.range c.boxes.length,List.range c.rows.length,(cg c.rows aQ.g).map (·.ai)⟩
 { t:=(iZ n c.vars (jt W 0 aQ.t) ls).1
   H:=cu n c.boxes aQ.H (iZ n c.vars (jt W 0 aQ.t) ls).2
   g:=cg c.rows aQ.g
   d:=wZ 0 c.boxes++aQ.d
   df:=aQ.df
   c:=jk some c.soft (kF c.boxes (iZ n c.vars (jt W 0 aQ.t) ls).2) }
mutual
def TV.Bd (nb:Nat) (g:List aZ):TV E→Prop
 | .ptr r _=>r<nb
 | .kN b r _=>b=true→r<nb
 | .eY r=>r<nb
 | .pL r=>r<nb
 | .cI r _ _=>r<nb
 | .vn r _ _=>r<nb
 | .bn j ai _ _=>∃x,g[j]? = some x∧ai≤x.ai
 | .MU j ai _=>∃x,g[j]? = some x∧ai≤x.ai
 | .cw j ai=>∃x,g[j]? = some x∧ai≤x.ai
 | .jz j ai _ _ _=>∃x,g[j]? = some x∧ai≤x.ai
 | .dK j ai _ _ _=>∃x,g[j]? = some x∧ai≤x.ai
 | .oO _ _=>True
 | .MV _ _=>True
 | .func _ caps=>TV.Fw nb g caps
 | .BF _ fs=>TV.Fw nb g fs
 | .iface _ d=>TV.Bd nb g d
 | .agg cs=>TV.Fw nb g cs
 | .tuple ds=>TV.Fw nb g ds
 | .any=>True
 | .dat _ _=>True
 | .lV _ _ _=>True
 | .val _=>True
def TV.Fw (nb:Nat) (g:List aZ):List (TV E)→Prop
 | []=>True
 | d::ds=>TV.Bd nb g d∧TV.Fw nb g ds
end
section
variable {w : World} {G G2 : au}
mutual
theorem VT.bd:∀ {d:TV E} {v:Value},VT E w G d v→TV.Bd G.i.length (G.g.map (·.1)) d
 | .any,_,_=>by simp only [TV.Bd]
 | .dat _ _,_,_=>by simp only [TV.Bd]
 | .lV _ _ _,_,_=>by simp only [TV.Bd]
 | .val _,_,_=>by simp only [TV.Bd]
 | .oO _ _,_,_=>by simp only [TV.Bd]
 | .MV _ _,_,_=>by simp only [TV.Bd]
 | .ptr r off,v,h=>by
  simp only [VT] at h;simp only [TV.Bd];obtain⟨b,-,h⟩:=h
  exact (bS.1 h).1
 | .kN c r off,v,h=>by
  simp only [TV.Bd];intro hc;subst hc;simp only [VT] at h;obtain⟨b,-,h⟩:=h
  exact (bS.1 h).1
 | .eY r,v,h=>by
  simp only [VT] at h;simp only [TV.Bd];obtain⟨b,-,h⟩:=h
  exact (bS.1 h).1
 | .pL r,v,h=>by
  simp only [VT] at h;simp only [TV.Bd];obtain⟨b,-,h⟩:=h
  exact (bS.1 h).1
 | .cI r n cap,v,h=>by
  simp only [VT] at h;simp only [TV.Bd];obtain⟨b,-,h⟩:=h
  exact (bS.1 h).1
 | .vn r off n,v,h=>by
  simp only [VT] at h;simp only [TV.Bd];obtain⟨b,-,h⟩:=h
  exact (bS.1 h).1
 | .bn j ai t xs,v,h=>by
  simp only [VT] at h;simp only [TV.Bd];obtain⟨-,x,g,hg,hle,-⟩:=h
  exact⟨x,by simp [hg],hle⟩
 | .MU j ai l,v,h=>by
  simp only [VT] at h;simp only [TV.Bd];obtain⟨x,g,u,hg,hle,-⟩:=h
  exact⟨x,by simp [hg],hle⟩
 | .cw j ai,v,h=>by
  simp only [VT] at h;simp only [TV.Bd];obtain⟨x,g,hg,hle,-⟩:=h
  exact⟨x,by simp [hg],hle⟩
 | .jz j ai k lo n,v,h=>by
  simp only [VT] at h;simp only [TV.Bd];obtain⟨x,g,hg,hle,-⟩:=h
  exact⟨x,by simp [hg],hle⟩
 | .dK j ai k i off,v,h=>by
  simp only [VT] at h;simp only [TV.Bd];obtain⟨x,g,hg,hle,-⟩:=h
  exact⟨x,by simp [hg],hle⟩
 | .func fn caps,v,h=>by
  simp only [VT] at h;simp only [TV.Bd];obtain⟨vs,-,h⟩:=h
  exact aP.bd h
 | .BF fn fs,v,h=>by
  simp only [VT] at h;simp only [TV.Bd];obtain⟨vs,-,h⟩:=h
  exact aP.bd h
 | .iface ty d,v,h=>by
  simp only [VT] at h;simp only [TV.Bd];obtain⟨u,-,h⟩:=h
  exact VT.bd h
 | .agg cs,v,h=>by
  simp only [VT] at h;simp only [TV.Bd];obtain⟨vs,-,-,h⟩:=h
  exact aP.bd h
 | .tuple ds,v,h=>by
  simp only [VT] at h;simp only [TV.Bd];obtain⟨vs,-,h⟩:=h;exact aP.bd h
theorem aP.bd:∀ {ds:List (TV E)} {vs:List Value},aP E w G ds vs→TV.Fw G.i.length (G.g.map (·.1)) ds
 | [],_,_=>by simp only [TV.Fw]
 | d::ds,vs,h=>by
  simp only [aP] at h;simp only [TV.Fw];obtain⟨u,us,-,h1,h2⟩:=h;exact⟨VT.bd h1,aP.bd h2⟩
end
structure Reb (G G2:au) (nb:Nat) (g0:List aZ):Prop where
 pr:∀b o,G.pr b o→G2.pr b o
 i:∀r b,r<nb→G.i[r]? = some b→G2.i[r]? = some b
 g:∀(j:Nat) x0 x h,g0[j]? = some x0→G.g[j]? = some (x,h)→∃x2,G2.g[j]? = some (x2,h)∧(x2.ai=x.ai∨x0.ai<x2.ai)
mutual
theorem VT.vz {nb:Nat} {g0:List aZ} (hR:Reb G G2 nb g0):∀ {d:TV E} {v:Value},VT E w G d v→TV.Bd nb g0 d→VT E w G2 d v
 | .any,_,_,_=>by simp only [VT]
 | .dat t x,v,h,_=>h.nM hR.pr
 | .lV t x off,v,h,_=>by
  simp only [VT] at h ⊢;obtain⟨b,o,c,rfl,h1,h2⟩:=h
  exact⟨b,o,c,rfl,h1.mono hR.pr (fun _ _ _ _ h=>h),fun l u hl=>⟨hR.pr _ _ (h2 l u hl).1,(h2 l u hl).2⟩⟩
 | .val _,_,h,_=>by simpa only [VT] using h
 | .ptr r off,v,h,hb=>by
  simp only [VT] at h ⊢;simp only [TV.Bd] at hb;obtain⟨b,rfl,h⟩:=h
  exact⟨b,rfl,hR.i r b hb h⟩
 | .kN c r off,v,h,hb=>by
  simp only [TV.Bd] at hb;cases c<;>simp only [VT] at h ⊢
  ·exact h
  ·obtain⟨b,rfl,h⟩:=h
   exact⟨b,rfl,hR.i r b (hb rfl) h⟩
 | .eY r,v,h,hb=>by
  simp only [VT] at h ⊢;simp only [TV.Bd] at hb;obtain⟨b,rfl,h⟩:=h
  exact⟨b,rfl,hR.i r b hb h⟩
 | .pL r,v,h,hb=>by
  simp only [VT] at h ⊢;simp only [TV.Bd] at hb;obtain⟨b,rfl,h⟩:=h
  exact⟨b,rfl,hR.i r b hb h⟩
 | .cI r n cap,v,h,hb=>by
  simp only [VT] at h ⊢;simp only [TV.Bd] at hb;obtain⟨b,rfl,h⟩:=h
  exact⟨b,rfl,hR.i r b hb h⟩
 | .vn r off n,v,h,hb=>by
  simp only [VT] at h ⊢;simp only [TV.Bd] at hb;obtain⟨b,rfl,h⟩:=h
  exact⟨b,rfl,hR.i r b hb h⟩
 | .bn j ai t xs,v,h,hb=>by
  simp only [VT] at h ⊢;simp only [TV.Bd] at hb;obtain⟨uD,x,g,hg,hle,heq⟩:=h;obtain⟨x0,hx0,hle0⟩:=hb;obtain⟨x2,h2,hc⟩:=hR.g j x0 x g hx0 hg;refine⟨uD.mono hR.pr (fun _ _ _ _ h=>h),x2,g,h2,?_,fun e=>?_⟩
  ·rcases hc with hc | hc<;>omega
  ·rcases hc with hc | hc
   ·exact heq om
   ·omega
 | .MU j ai l,v,h,hb=>by
  simp only [VT] at h ⊢;simp only [TV.Bd] at hb;obtain⟨x,g,u,hg,hle,uD,heq⟩:=h;obtain⟨x0,hx0,hle0⟩:=hb;obtain⟨x2,h2,hc⟩:=hR.g j x0 x g hx0 hg;refine⟨x2,g,u,h2,?_,uD.mono hR.pr (fun _ _ _ _ h=>h),fun e=>?_⟩
  ·rcases hc with hc | hc<;>omega
  ·rcases hc with hc | hc
   ·exact heq om
   ·omega
 | .cw j ai,v,h,hb=>by
  simp only [VT] at h ⊢;simp only [TV.Bd] at hb;obtain⟨x,g,hg,hle,h1,heq⟩:=h;obtain⟨x0,hx0,hle0⟩:=hb;obtain⟨x2,h2,hc⟩:=hR.g j x0 x g hx0 hg;refine⟨x2,g,h2,?_,h1,fun e=>?_⟩
  ·rcases hc with hc | hc<;>omega
  ·rcases hc with hc | hc
   ·exact heq om
   ·omega
 | .jz j ai k lo n,v,h,hb=>by
  simp only [VT] at h ⊢;simp only [TV.Bd] at hb;obtain⟨x,g,hg,hle,h1,heq⟩:=h;obtain⟨x0,hx0,hle0⟩:=hb;obtain⟨x2,h2,hc⟩:=hR.g j x0 x g hx0 hg;refine⟨x2,g,h2,?_,h1,fun e=>?_⟩
  ·rcases hc with hc | hc<;>omega
  ·rcases hc with hc | hc
   ·exact heq om
   ·omega
 | .dK j ai k i off,v,h,hb=>by
  simp only [VT] at h ⊢;simp only [TV.Bd] at hb;obtain⟨x,g,hg,hle,h1,heq⟩:=h;obtain⟨x0,hx0,hle0⟩:=hb;obtain⟨x2,h2,hc⟩:=hR.g j x0 x g hx0 hg;refine⟨x2,g,h2,?_,h1,fun e=>?_⟩
  ·rcases hc with hc | hc<;>omega
  ·rcases hc with hc | hc
   ·exact heq om
   ·omega
 | .oO t xs,v,h,hb=>by
  simp only [VT] at h ⊢;obtain⟨vs,rfl,h1,h⟩:=h
  exact⟨vs,rfl,h1,h.mono hR.pr (fun _ _ _ _ h=>h)⟩
 | .MV t xs,v,h,hb=>by
  simp only [VT] at h ⊢;obtain⟨b,rfl,h⟩:=h
  exact⟨b,rfl,VD.mono hR.pr (fun _ _ _ _ h=>h) h⟩
 | .func fn caps,v,h,hb=>by
  simp only [VT] at h ⊢;simp only [TV.Bd] at hb;obtain⟨vs,rfl,h⟩:=h
  exact⟨vs,rfl,aP.vz hR h hb⟩
 | .BF fn fs,v,h,hb=>by
  simp only [VT] at h ⊢;simp only [TV.Bd] at hb;obtain⟨vs,rfl,h⟩:=h
  exact⟨vs,rfl,aP.vz hR h hb⟩
 | .iface ty d,v,h,hb=>by
  simp only [VT] at h ⊢;simp only [TV.Bd] at hb;obtain⟨u,rfl,h⟩:=h
  exact⟨u,rfl,VT.vz hR h hb⟩
 | .agg cs,v,h,hb=>by
  simp only [VT] at h ⊢;simp only [TV.Bd] at hb;obtain⟨vs,rfl,h1,h⟩:=h
  exact⟨vs,rfl,h1,aP.vz hR h hb⟩
 | .tuple ds,v,h,hb=>by
  simp only [VT] at h ⊢;simp only [TV.Bd] at hb;obtain⟨vs,rfl,h⟩:=h;exact⟨vs,rfl,aP.vz hR h hb⟩
theorem aP.vz {nb:Nat} {g0:List aZ} (hR:Reb G G2 nb g0):∀ {ds:List (TV E)} {vs:List Value},aP E w G ds vs→TV.Fw nb g0 ds→aP E w G2 ds vs
 | [],_,h,_=>by simp only [aP] at h ⊢;exact h
 | d::ds,vs,h,hb=>by
  simp only [aP] at h ⊢;simp only [TV.Fw] at hb;obtain⟨u,us,rfl,h1,h2⟩:=h;exact⟨u,us,rfl,VT.vz hR h1 hb.1,aP.vz hR h2 hb.2⟩
end
def cV.Bd (nb:Nat) (g:List aZ):cV E→Prop
 | .cells _ cs=>TV.Fw nb g cs
 | .loop _ cs=>TV.Fw nb g cs
 | .dm _ _ _ _ d=>TV.Bd nb g d
 | _=>True
theorem gq.bd {b:Nat} {x:cV E} (h:gq E w G b x):x.Bd G.i.length (G.g.map (·.1)):=by
 cases x with
 | cells t cs=>obtain⟨vs,-,-,h⟩:=h;exact h.bd
 | loop y ds=>obtain⟨Y,fn,tmps,D,-,-,h⟩:=h;exact h.bd
 | dm e cap t xs d=>obtain⟨cur,-,-,-,h,-⟩:=h;exact h.bd
 | _=>trivial
theorem gq.vz {nb:Nat} {g0:List aZ} (hR:Reb G G2 nb g0) {b:Nat} {x:cV E} (h:gq E w G b x) (hb:x.Bd nb g0):gq E w G2 b x:=by
 cases x with
 | cells t cs=>obtain⟨vs,h1,h2,h3⟩:=h;exact⟨vs,h1,h2,aP.vz hR h3 hb⟩
 | iter s pos=>exact h
 | map kt vt m=>obtain⟨es,clock,h1,h2,h3⟩:=h;exact⟨es,clock,h1,h2,h3.pr hR.pr⟩
 | loop y ds=>obtain⟨Y,fn,tmps,D,h0,h1,h2⟩:=h;exact⟨Y,fn,tmps,D,h0,h1,aP.vz hR h2 hb⟩
 | dm e cap t xs d=>obtain⟨cur,h1,h2,h4,h5,h6⟩:=h;exact⟨cur,h1,h2,fun i x hx=>(h4 i x hx).nM hR.pr,VT.vz hR h5 hb,h6⟩
 | gone=>exact h
 | MW=>exact h
def DBd (nb:Nat) (g:List aZ):List (FuncId × List (TV E))→Prop
 | []=>True
 | x::xs=>TV.Fw nb g x.2∧DBd nb g xs
theorem gj.bd:∀ {ds:List Deferred} {xs:List (FuncId × List (TV E))},gj E w G ds xs→DBd G.i.length (G.g.map (·.1)) xs
 | [],[],_=>trivial
 | _::_,_::_,h=>⟨by rcases h.1 with⟨-,cap,-,h2⟩ | ⟨-,b,-,h2⟩<;>exact h2.bd,gj.bd h.2⟩
 | [],_::_,h=>h.elim
 | _::_,[],h=>h.elim
theorem gj.vz {nb:Nat} {g0:List aZ} (hR:Reb G G2 nb g0):∀ {ds:List Deferred} {xs:List (FuncId × List (TV E))},gj E w G ds xs→DBd nb g0 xs→gj E w G2 ds xs
 | [],[],_,_=>trivial
 | _::_,_::_,h,hb=>⟨h.1.imp (fun⟨h0,cap,h1,h2⟩=>⟨h0,cap,h1,aP.vz hR h2 hb.1⟩) fun⟨h0,b,h1,h2⟩=>⟨h0,b,h1,aP.vz hR h2 hb.1⟩,gj.vz hR h.2 hb.2⟩
 | [],_::_,h,_=>h.elim
 | _::_,[],h,_=>h.elim
end
structure Pre (G0:au) (st:TS E):Prop where
 nb:G0.i.length≤st.H.length
 rows:∀(j:Nat) x0 h0,G0.g[j]? = some (x0,h0)→∃x,st.g[j]? = some x∧x0.ai≤x.ai
 slots:∀(i:Nat) d,st.t[i]? = some d→d.Bd st.H.length st.g
 boxes:∀(r:Nat) x,st.H[r]? = some x→x.Bd st.H.length st.g
 defs:DBd st.H.length st.g st.df
section
variable {w0 w : World} {G0 G : au} {aQ st : TS E} {a : Act}
theorem ez.len {w1 w2:World} {G1 G2:au} (h:ez w1 G1 w2 G2):G1.i.length≤G2.i.length:=by
 by_cases h0:G1.i.length=0
 ·omega
 ·have hl:G1.i.length - 1<G1.i.length:=om
  have:=(bS.1 (h.i _ _ (bK hl))).1;omega
theorem Rel.pre (h:Rel E w0 G0 st a w G):Pre G0 st:=by
 have hl:=h.boxes.len;have hg:=h.boxes.gs;refine⟨by rw [←hl];exact h.cK.goes.len,fun j x0 h0 hj=>?_,fun i d hi=>?_,fun r x hr=>?_,?_⟩
 ·obtain⟨x',h',h1,h2,-⟩:=h.cK.goes.g j x0 h0 hj
  exact⟨x',by rw [←hg];simp [h1],h2⟩
 ·have:=(h.tmps i d hi).bd
  rw [hl,hg] at this;exact this
 ·have hlt:r<G.i.length:=by rw [hl];exact (bS.1 hr).1
  have:=(h.boxes.box r _ x (bK hlt) hr).bd;rw [hl,hg] at this;exact this
 ·have:=h.defers.bd
  rw [hl,hg] at this;exact this
theorem BN (W:List Nat):∀(i:Nat) (l:List (TV E)),(jt W i l).length=l.length
 | _,[]=>rfl
 | i,d::ds=>by simp [jt,BN W (i+1) ds]
theorem Vj (W:List Nat):∀(i:Nat) (l:List (TV E)) (j:Nat) (d:TV E),(jt W i l)[j]? = some d→d=.any∨((i+j)∉W∧l[j]? = some d)
 | _,[],j,d,h=>by simp [jt] at h
 | i,x::ds,0,d,h=>by
  simp only [jt,XI,nh] at h;cases hw:W.elem i<;>rw [hw] at h<;>simp only [cond_true,cond_false] at h
  ·refine .inr ⟨fun hm=>?_,by simp [h]⟩
   rw [lE] at hm;rw [Sb hm] at hw;cases hw
  ·exact .inl h.symm
 | i,x::ds,j+1,d,h=>by
  have:=Vj W (i+1) ds j d (by simpa [jt] using h);rw [Nat.add_right_comm,Br] at this;simpa using this
theorem Vk (hE:E.Ok) {G2:au} {n n2:Rn} (hL:xK w G n G2 n2) (ha:∀i,VT E w G (st.at i) (a.tmps.getD i undef)):∀(vs:List (Nat × PT)) (t:List (TV E)) (ls rest:List (Lf E)),LL n st vs=some ls →
  (∀(j:Nat) d,t[j]? = some d→VT E w G2 d (a.tmps.getD j undef)) →
  (iZ n2 vs t (ls++rest)).2=rest∧(iZ n2 vs t (ls++rest)).1.length=t.length∧∀(j:Nat) d,(iZ n2 vs t (ls++rest)).1[j]? = some d→VT E w G2 d (a.tmps.getD j undef)
 | [],t,ls,rest,h,ht=>by cases h;exact⟨rfl,rfl,ht⟩
 | (i,p)::vs,t,ls,rest,h,ht=>by
  simp only [LL] at h;split at h<;>try (cases h;done)
  rename_i l ls' h1 h2;cases h;obtain⟨e1,e2⟩:=PT.sound hE hL (rest:=ls'++rest) h1 (ha i);simp only [iZ,iu,e1]
  obtain⟨q1,q2,q3⟩:=Vk hE hL ha vs (t.set i (p.put n2 (l++(ls'++rest))).1) ls' rest h2 (fun j d hj=>by
   rw [NB] at hj;by_cases hij:i=j
   ·subst hij
    by_cases hlt:i<t.length
    ·simp [hlt] at hj;subst hj;exact e2
    ·simp [hlt] at hj
   ·rw [if_neg hij] at hj;exact ht j d hj)
  exact⟨q1,by simpa using q2,q3⟩
theorem BT.Zi {n n2:Rn}:∀(t:BT) (x:cV E) (l rest:List (Lf E)),t.get n x=some l→(t.put n2 (l++rest)).2=rest:=by
 have anz:∀(c:CT) (d:TV E) (l rest:List (Lf E)),c.get n d=some l→(c.put n2 (l++rest)).2=rest:=by
  intro c d l rest h;unfold CT.get at h;split at h<;>try (cases h;done)
  ·split at h<;>cases h;rfl
  ·cases h;rfl
  ·split at h<;>try (cases h;done)
   rename_i r off r' off' _ r'' _;cases hb:iy r'' r' off off'<;>rw [hb] at h<;>cases h;rfl
  ·split at h<;>try (cases h;done)
   rename_i r off m r' off' m' _ r'' _;cases hb:(iy r'' r' off off'&&Nat.beq m m')<;>rw [hb] at h<;>cases h;rfl
  ·split at h<;>try (cases h;done)
   rename_i r off bb r' off' _ r'' _;cases hb:iy r'' r' off off'<;>rw [hb] at h<;>cases h;rfl
  ·split at h<;>try (cases h;done)
   rename_i r off r' off' _ r'' _;cases hb:iy r'' r' off off'<;>rw [hb] at h<;>cases h;rfl
  ·cases h;rfl
  ·split at h<;>try (cases h;done)
   rename_i r r' _ r'' _;cases hb:Nat.beq r'' r'<;>rw [hb] at h<;>cases h;rfl
  ·split at h<;>try (cases h;done)
   rename_i r r' _ r'' _;cases hb:Nat.beq r'' r'<;>rw [hb] at h<;>cases h;rfl
  ·split at h<;>try (cases h;done)
   split at h<;>try (cases h;done)
   rename_i j t j' ai t' xs _ _ nL vv _ _ ht;cases hb:iy nL j' vv ai<;>rw [hb] at h<;>cases h;rfl
  ·rename_i f caps f' cs
   cases hb:(Nat.beq f f'&&Ft n caps cs)<;>rw [hb] at h<;>cases h;rfl
  ·split at h<;>try (cases h;done)
   rename_i k u _ k' _;cases hb:decide (k=k')<;>rw [hb] at h<;>cases h;rfl
  ·split at h<;>try (cases h;done)
   rename_i t off t' y off' ht;cases hb:Nat.beq off off'<;>rw [hb] at h<;>cases h;rfl
  ·split at h<;>try (cases h;done)
   rename_i ty t ty' d' _ x _;cases hb:Nat.beq ty ty'<;>rw [hb] at h<;>cases h;rfl
  ·split at h<;>try (cases h;done)
   rename_i j j' ai _ _ nL vv _ _;cases hb:iy nL j' vv ai<;>rw [hb] at h<;>cases h;rfl
  ·split at h<;>try (cases h;done)
   rename_i j k j' ai k' i off _ _ nL vv _ _;cases hb:(iy nL j' vv ai&&(Nat.beq k k'&&iy i 0 off 0))<;>rw [hb] at h<;>cases h;rfl
  ·split at h<;>cases h;rfl
  ·split at h<;>try (cases h;done)
   rename_i j k j' ai k' lo m _ _ nL vv _ _;cases hb:(iy nL j' vv ai&&Nat.beq k k')<;>rw [hb] at h<;>cases h;rfl
  ·rename_i b x
   cases hb:(b==x)<;>rw [hb] at h<;>cases h;rfl
  ·rename_i k m k' x
   cases hb:(decide (k=k')&&decide (m=x))<;>rw [hb] at h<;>cases h;rfl
 have akX:∀(cs:List CT) (ds:List (TV E)) (l rest:List (Lf E)),CT.En n cs ds=some l→(CT.ko n2 cs (l++rest)).2=rest:=by
  intro cs
  induction cs with
  | nil=>intro ds l rest h;cases ds<;>cases h;rfl
  | cons c cs ih =>
   intro ds l rest h;unfold CT.En at h;unfold CT.ko;split at h
   ·rename_i t ht
    split at h<;>try (cases h;done)
    rename_i p hp;split at h<;>try (cases h;done)
    rename_i ls' h2;cases h;simp only [ht,je,CT.GG];exact ih p.2 ls' rest h2
   ·rename_i ht
    split at h<;>try (cases h;done)
    rename_i d ds;split at h<;>try (cases h;done)
    rename_i l1 l2 h1 h2;cases h;simp only [ht,iu,anz c d l1 (l2++rest) h1];exact ih ds l2 rest h2
 intro t x l rest h;unfold BT.get at h;split at h<;>try (cases h;done)
 ·rename_i ty cs ty' ds
  cases hb:Nat.beq ty ty'<;>rw [hb] at h<;>simp only [cond_true,cond_false] at h
  ·cases h
  exact akX cs ds l rest h
 ·split at h<;>cases h;rfl
 ·cases h;rfl
 ·rename_i y cs y' ds
  cases hb:Nat.beq y y'<;>rw [hb] at h<;>simp only [cond_true,cond_false] at h
  ·cases h
  exact akX cs ds l rest h
theorem BO {n:Rn} {D:List Nat} {nb:Nat}:∀(bs:List (Option BT)) (r:Nat) (H:List (cV E)) (ls rest:List (Lf E)),jV n D nb r bs H=some ls→kF bs (ls++rest)=rest
 | [],r,H,ls,rest,h=>by cases h;rfl
 | none::bs,r,x::H,ls,rest,h=>by
  simp only [jV] at h;cases hc:(D.elem r || !(Nat.blt r nb))<;>rw [hc] at h<;>simp only [cond_true,cond_false] at h
  ·exact BO bs (r+1) H ls rest h
  ·cases h
 | some t::bs,r,x::H,ls,rest,h=>by
  simp only [jV] at h;split at h<;>try (cases h;done)
  rename_i l ls' h1 h2;cases h;simp only [kF,iu];rw [BT.Zi t x l (ls'++rest) h1]
  exact BO bs (r+1) H ls' rest h2
 | none::bs,r,[],ls,rest,h=>by cases h
 | some _::bs,r,[],ls,rest,h=>by cases h
theorem Eo (hE:E.Ok) {G2:au} {n n2:Rn} (hL:xK w G n G2 n2) {D:List Nat} {nb:Nat}:∀(bs:List (Option BT)) (r:Nat) (H H0:List (cV E)) (is:List Nat) (ls rest:List (Lf E)),jV n D nb r bs H=some ls →
  (∀(q b:Nat) x,is[q]? = some b→H[q]? = some x→gq E w G b x)→(∀(q b:Nat) x,is[q]? = some b→r+q<nb→r+q∉D→H0[q]? = some x→gq E w G2 b x)→nb≤r+H0.length →
  (cu n2 bs H0 (ls++rest)).length=bs.length∧bs.length≤H.length∧∀(q b:Nat) x,is[q]? = some b→(cu n2 bs H0 (ls++rest))[q]? = some x→gq E w G2 b x
 | [],r,H,H0,is,ls,rest,h,hb,h0,hn=>by
  simp [cu]
 | none::bs,r,x::H,H0,is,ls,rest,h,hb,h0,hn=>by
  simp only [jV] at h;cases hc:(D.elem r || !(Nat.blt r nb))<;>rw [hc] at h<;>simp only [cond_true,cond_false] at h
  ·rw [zG] at hc
   have hlt:r<nb:=by simpa using hc.2
   have hnd:r∉D:=fun hm=>by rw [Sb hm] at hc;cases hc.1
   obtain⟨y,H0',rfl⟩:∃y H0',H0=y::H0':=by
    cases H0 with
    | nil=>simp at hn;omega
    | cons y H0'=>exact⟨y,H0',rfl⟩
   obtain⟨q1,q2,q3⟩:=Eo hE hL bs (r+1) H H0' is.tail ls rest h (fun q b z hq hz=>hb (q+1) b z (by cases is<;>simp_all) (by simpa using hz))
    (fun q b z hq h1 h2 hz=>h0 (q+1) b z (by cases is<;>simp_all) om (by rw [show r+(q+1)=r+1+q by omega];exact h2) (by simpa using hz)) (by simp at hn;omega)
   refine⟨by simp [cu,q1],by simpa using q2,fun q b z hq hz=>?_⟩
   cases q with
   | zero=>simp [cu] at hz;subst hz;exact h0 0 b y hq om (by simpa using hnd) si
   | succ q=>exact q3 q b z (by cases is<;>simp_all) (by simpa [cu] using hz)
  ·cases h
 | some t::bs,r,x::H,H0,is,ls,rest,h,hb,h0,hn=>by
  simp only [jV] at h;split at h<;>try (cases h;done)
  rename_i l ls' h1 h2;cases h;have hkey:∀b,is[0]? = some b→(t.put n2 (l++(ls'++rest))).2=ls'++rest∧gq E w G2 b (t.put n2 (l++(ls'++rest))).1:=fun b hb0=>BT.sound hE hL h1 (hb 0 b x hb0 si)
  have cX:(t.put n2 (l++(ls'++rest))).2=ls'++rest:=by
   exact BT.Zi t x l (ls'++rest) h1
  obtain⟨q1,q2,q3⟩:=Eo hE hL bs (r+1) H H0.tail is.tail ls' rest h2 (fun q b z hq hz=>hb (q+1) b z (by cases is<;>simp_all) (by simpa using hz))
   (fun q b z hq h1 h2 hz=>h0 (q+1) b z (by cases is<;>simp_all) om (by rw [show r+(q+1)=r+1+q by omega];exact h2) (by cases H0<;>simp_all)) (by cases H0<;>simp_all<;>omega)
  refine⟨by simp only [cu,iu,cX,jd,q1],by simpa using q2,fun q b z hq hz=>?_⟩
  cases q with
  | zero =>
   simp only [cu,iu,XI,nh] at hz;subst hz
   exact (hkey b hq).2
  | succ q =>
   refine q3 q b z (by cases is<;>simp_all) ?_
   simpa only [cu,iu,cX,adq] using hz
 | none::bs,r,[],H0,is,ls,rest,h,hb,h0,hn=>by cases h
 | some _::bs,r,[],H0,is,ls,rest,h,hb,h0,hn=>by cases h
theorem zQ {n:Rn} {D:List Nat} {nb:Nat}:∀(bs:List (Option BT)) (r:Nat) (H:List (cV E)) (ls:List (Lf E)),jV n D nb r bs H=some ls→∀q,q<bs.length→r+q∉wZ r bs→r+q∉D
 | [],r,H,ls,_,q,hq,_=>by simp at hq
 | none::bs,r,x::H,ls,h,q,hq,hc=>by
  simp only [jV] at h;cases hb:(D.elem r || !(Nat.blt r nb))<;>rw [hb] at h<;>simp only [cond_true,cond_false] at h
  ·rw [zG] at hb
   cases q with
   | zero=>intro hm;rw [lE] at hm;rw [Sb hm] at hb;cases hb.1
   | succ q =>
    have:=zQ bs (r+1) H ls h q (by simpa using hq) (by rw [show r+1+q=r+(q+1) by omega];exact hc);rw [show r+1+q=r+(q+1) by omega] at this;exact this
  ·cases h
 | some t::bs,r,x::H,ls,h,q,hq,hc=>by
  simp only [jV] at h;split at h<;>try (cases h;done)
  rename_i l ls' h1 h2
  cases q with
  | zero=>exact (hc (by simp [wZ])).elim
  | succ q =>
   have:=zQ bs (r+1) H ls' h2 q (by simpa using hq) (by rw [show r+1+q=r+(q+1) by omega];exact fun hm=>hc (by simp [wZ,hm]));rw [show r+1+q=r+(q+1) by omega] at this
   exact this
 | none::bs,r,[],ls,h,_,_,_=>by cases h
 | some _::bs,r,[],ls,h,_,_,_=>by cases h
end
end Go.RT
namespace Go.RT
variable {E : TEnv}
section
variable {w0 w : World} {G0 G : au} {aQ st : TS E} {a : Act}
theorem Ds {n r r':Nat} (h:(List.range n)[r]? = some r'):r'=r∧r<n:=by
 obtain⟨h1,h2⟩:=bS.1 h;simp at h1 h2;exact⟨h2.symm,h1⟩
theorem Rel.at (h:Rel E w0 G0 st a w G) (i:Nat):VT E w G (st.at i) (a.tmps.getD i undef):=h.ev (.tmp i)
theorem Rel.cut (hE:E.Ok) {c:Cut} {W:List Nat} {ls:List (Lf E)} (hp:Pre G0 aQ) (hr:Rel E w0 G0 st a w G) (ht:st.t.length=aQ.t.length) (hk:∀i,i∉W→st.t[i]? = aQ.t[i]?)
  {D:List Nat} (hD:st.d=D++aQ.d) (hH:∀r,r<aQ.H.length→r∉D→st.H[r]? = aQ.H[r]?) (hdf:st.df=aQ.df) (h:c.leaves aQ st=some ls) :
  ∃G2,Rel E w0 G0 (c.unpack W aQ ls) a w G2∧xK w G ⟨List.range c.boxes.length,List.range c.rows.length,st.g.map (·.ai)⟩ G2 ⟨List.range c.boxes.length,List.range c.rows.length,(cg c.rows aQ.g).map (·.ai)⟩:=by
 unfold Cut.leaves at h;cases hc:(below c.rows.length c.soft&&(Nat.ble aQ.H.length c.boxes.length&&(Nat.ble aQ.g.length c.rows.length&&tD c.rows aQ.g st.g)))<;>rw [hc] at h<;>simp only [cond_true,cond_false] at h
 ·cases h
 simp only [aV] at hc;obtain⟨nI,sE,hg1,hro⟩:=hc;have sE:=ef sE;have hg1:=ef hg1;rw [hD,afZ] at h;split at h<;>try (cases h;done)
 rename_i la lb le hla hlb hle;cases h;have M8:=hr.boxes.gs;rw [←M8] at hro;obtain⟨n1,n2,n3,n4⟩:=Dr c.rows aQ.g G.g hro
 let G2:au:=⟨G.i.take c.boxes.length,cY c.rows aQ.g G.g,G.pr⟩
 have hlen:=hr.boxes.len
 have X4:∀(j:Nat) y2,(cY c.rows aQ.g G.g)[j]? = some y2→∃y,G.g[j]? = some y∧y2.2=y.2∧y2.1.e=y.1.e∧y2.1.k=y.1.k∧∀x0,aQ.g[j]? = some x0→y2.1.ai=y.1.ai∨x0.ai<y2.1.ai:=by
  intro j y2 hj;have hjl:j<c.rows.length:=by rw [←n2];exact (bS.1 hj).1
  have qj:j<G.g.length:=om;obtain⟨z,hz,e1,e2,e3,e4⟩:=n4 j G.g[j] (bK qj) hjl;rw [hj] at hz;cases hz;exact⟨_,bK qj,e1,e2,e3,e4⟩
 have aev:Reb G G2 aQ.H.length aQ.g:=by
  refine⟨fun _ _ h=>h,fun r b hr' hb=>?_,fun j x0 x hd hx0 hj=>?_⟩
  ·show (G.i.take c.boxes.length)[r]? = some b
   rw [qD,if_pos om];exact hb
  ·have hjl:j<c.rows.length:=by
    have:=(bS.1 hx0).1;omega
   obtain⟨y2,hy,e1,-,-,e4⟩:=n4 j (x,hd) hj hjl;refine⟨y2.1,?_,e4 x0 hx0⟩;show (cY c.rows aQ.g G.g)[j]? = _;rw [hy];simp only at e1;rw [←e1]
 have amA:∀(j v:Nat),((cg c.rows aQ.g).map (·.ai))[j]? = some v↔∃y2,(cY c.rows aQ.g G.g)[j]? = some y2∧y2.1.ai=v:=by
  intro j v;rw [←n1];simp [kJ]
 have AN:xK w G ⟨List.range c.boxes.length,List.range c.rows.length,st.g.map (·.ai)⟩ G2 ⟨List.range c.boxes.length,List.range c.rows.length,(cg c.rows aQ.g).map (·.ai)⟩:=by
  refine⟨fun _ _ h=>h,fun r r' b h1 h2=>?_,fun j j' v x hd h1 h2 h3=>?_⟩
  ·obtain⟨rfl,hlt⟩:=Ds h1
   refine⟨r',h1,?_⟩;show (G.i.take c.boxes.length)[r']? = some b;rw [qD,if_pos hlt];exact h2
  ·obtain⟨rfl,hlt⟩:=Ds h1
   have vw:x.ai=v:=by
    have P0:(st.g.map (·.ai))[j']? = some v:=h2;rw [←M8,qE,kJ,h3] at P0;simpa using P0
   obtain⟨y2,hy,e1,-,-,-⟩:=n4 j' (x,hd) h3 hlt;refine⟨vw,j',y2.1.ai,y2.1,h1,(amA j' _).2 ⟨y2,hy,rfl⟩,?_,rfl⟩;show (cY c.rows aQ.g G.g)[j']? = _;rw [hy];simp only at e1;rw [←e1]
 have akY:∀(j:Nat) d,(jt W 0 aQ.t)[j]? = some d→VT E w G2 d (a.tmps.getD j undef):=by
  intro j d hj;rcases Vj W 0 aQ.t j d hj with rfl | ⟨Zc,hj'⟩
  ·simp only [VT]
  ·rw [fC] at Zc
   have:=hr.tmps j d (by rw [hk j Zc];exact hj');exact VT.vz aev this (hp.slots j d hj')
 obtain⟨p1,p2,p3⟩:=Vk hE AN hr.at c.vars (jt W 0 aQ.t) la (lb++le) hla akY
 obtain⟨q1,q2,q3⟩:=Eo hE AN c.boxes 0 st.H aQ.H G.i lb le hlb (fun q b x hq hx=>hr.boxes.box q b x hq hx) (fun q b x hq h1 h2 hx=>by
  rw [fC] at h1 h2;have hx':st.H[q]? = some x:=by rw [hH q h1 h2];exact hx
  exact gq.vz aev (hr.boxes.box q b x hq hx') (hp.boxes q x hx)) si
 have ev:=hr.cK
 have hG0:∀(r b:Nat),(G.i.take c.boxes.length)[r]? = some b→G.i[r]? = some b:=fun r b hb=>by
  have hlt:=(bS.1 hb).1;rw [gB] at hlt;rw [qD,if_pos om] at hb;exact hb
 have hmem:∀b,b∈G.i.take c.boxes.length→b∈G.i:=fun b hb=>Sc hb;refine⟨G2,⟨⟨ev.os,ev.tape,ev.output,ev.size,ev.old,⟨ev.goes.pr,ev.goes.cells,fun r b hb=>?_,fun j x0 hd hj=>?_⟩,ev.jJ,fun r b h1 h2=>ev.lH r b h1 (hG0 r b h2),fun j x hd b hj hb=>?_⟩,?_,?_,?_,?_,fun r b hb hd=>?_,hr.pins,?_⟩,AN⟩
 ·show (G.i.take c.boxes.length)[r]? = some b
  have hlt:=(bS.1 hb).1;have:=hp.nb;rw [qD,if_pos om];exact ev.goes.i r b hb
 ·obtain⟨x',hd',h1,h2,h3⟩:=ev.goes.g j x0 hd hj
  obtain⟨xp,hxp,hle⟩:=hp.rows j x0 hd hj;obtain⟨x2,h4,h5⟩:=aev.g j xp x' hd' hxp h1;refine⟨x2,hd',h4,?_,fun e=>?_⟩
  ·rcases h5 with h5 | h5<;>omega
  ·rcases h5 with h5 | h5
   ·exact h3 om
   ·omega
 ·obtain⟨y,hy,e1,-⟩:=X4 j (x,hd) hj
  simp only at e1;subst e1;exact ev.cY j y.1 y.2 b hy hb
 ·show a.tmps.size=((iZ _ c.vars (jt W 0 aQ.t) (la++(lb++le))).1).length
  rw [p2,BN,←ht];exact hr.size
 ·exact p3
 ·show gj E w G2 a.defers aQ.df
  rw [←hdf];exact gj.vz aev hr.defers (by rw [hdf];exact hp.defs)
 ·refine⟨?_,n1,fun r b x hb hx=>?_,fun b hb=>hr.boxes.lt b (hmem b hb),(List.take_sublist _ _).nodup hr.boxes.nodup,fun b o nJ=>⟨(hr.boxes.dH b o nJ).1,fun hm=>(hr.boxes.dH b o nJ).2 (hmem b hm)⟩,fun j x hd hj=>?_,
   fun j j' x hd x' hd' b hj hj' hb hb'=>?_,hr.boxes.sU⟩
  ·show (G.i.take c.boxes.length).length=(cu _ c.boxes aQ.H (iZ _ c.vars (jt W 0 aQ.t) (la++(lb++le))).2).length
   rw [p1,q1,gB,hlen];omega
  ·have hx:(cu _ c.boxes aQ.H (iZ _ c.vars (jt W 0 aQ.t) (la++(lb++le))).2)[r]? = some x:=hx
   rw [p1] at hx;exact q3 r b x (hG0 r b hb) hx
  ·obtain⟨y,hy,e1,e2,e3,-⟩:=X4 j (x,hd) hj
   simp only at e1 e2 e3;subst e1;obtain⟨n,xs,g1,g2,g3⟩:=hr.boxes.grow j y.1 y.2 hy;refine⟨n,xs,by rw [e2,e3];exact g1,fun a m h=>by rw [e2];exact g2 a m h,fun b hb=>?_⟩;obtain⟨k1,k2,k3⟩:=g3 b hb;exact⟨k1,fun hm=>k2 (hmem b hm),by rw [e3];exact k3⟩
  ·obtain⟨y,hy,e1,-⟩:=X4 j (x,hd) hj
   obtain⟨y',hy',YQ,-⟩:=X4 j' (x',hd') hj';simp only at e1 YQ;subst e1;subst YQ;exact hr.boxes.apart j j' y.1 y.2 y'.1 y'.2 b hy hy' hb hb'
 ·refine hr.fix r b hb ?_
  have hd:r∉wZ 0 c.boxes++aQ.d:=hd;rw [gz,not_or] at hd;rw [hD,gz,not_or];refine⟨?_,hd.2⟩;have hlt:=(bS.1 hb).1;have:=hp.nb;have:=zQ c.boxes 0 st.H lb hlb r om (by rw [fC];exact hd.1);rwa [fC] at this
 ·intro j c0 hm
  have hm:(j,c0)∈jk some c.soft (kF c.boxes (iZ _ c.vars (jt W 0 aQ.t) (la++(lb++le))).2):=hm;rw [p1,BO c.boxes 0 st.H lb le hlb] at hm;obtain⟨q,j',⟨t,ht⟩,e1,e2,e3⟩:=yE (f:=some) (f2:=some) (rest:=[]) hle (by rw [qC];exact hm);cases e1;cases e2;have kR:=Zh nI j t ht;obtain⟨x,hd,h1,h2⟩:=hr.dI j c0 e3;obtain⟨y2,hy,f1,f2,f3,-⟩:=n4 j (x,hd) h1 kR;refine⟨y2.1,hd,?_,h2.keep f2 f3 (fun _ _ h=>h) (fun _ _ _ _ h=>h) (fun b _=>⟨rfl,fun _ h=>h⟩)⟩;show (cY c.rows aQ.g G.g)[j]? = _;rw [hy];simp only at f1;rw [←f1]
end
end Go.RT
namespace Go.RT
variable {E : TEnv}
def gE (P:Program) (f:FuncId) (args:Array Value) (w:World) (R:Ending→World→Prop):Prop :=
 match (callFunc f args).run P w with
 | .ok (.enter f' args') w'=>Calls P f' args' w' R
 | .ok (.value v) w'=>R (.returned v) w'
 | _=>False
def ql (ok:Bool) (v:Value):Ending:=cond ok (.returned v) (.panicked [{ v:=v,recovered:=false }])
structure Zj (E:TEnv) where
 ok:Bool
 d:TV E
 H:List (cV E)
 g:List aZ
 D:List Nat
 c:List (Nat × Cn E)
def ia (P:Program) (f:FuncId) (ds:List (TV E)) (H:List (cV E)) (gs:List aZ) (cs:List (Nat × Cn E)) (r:Zj E):Prop :=
 ∀(w:World) (G:au) (args:Array Value),kK E w G→iq E w G H gs→gD E w G cs→aP E w G ds args.toList→gE P f args w fun e w' =>
  ∃v G',e=ql r.ok v∧gU w G w' G'∧iq E w' G' r.H r.g∧gD E w' G' r.c∧VT E w' G' r.d v∧∀(q b:Nat),G.i[q]? = some b→q∉r.D→w'.heap[b]? = w.heap[b]?
structure Outs where
 res:PT
 boxes:List (Option BT)
 rows:List (Option (TypeId × Nat))
 soft:List (Nat × Ty)
def Outs.tys (o:Outs):List Ty:=o.res.tys++(GH o.boxes++LK o.soft)
structure bL where
 f:FuncId
 args:List PT
 boxes:List BT
 rows:List (TypeId × Nat)
 out:Outs
 gw:Option Outs
 soft:List (Nat × Ty)
def af0:List PT→List Ty
 | []=>[]
 | p::ps=>p.tys++af0 ps
def af1:List BT→List Ty
 | []=>[]
 | b::bs=>b.tys++af1 bs
def bL.tys (s:bL):List Ty:=af0 s.args++(af1 s.boxes++LK s.soft)
@[reducible] def OutP (E : TEnv) (o : Outs) : Option Outs → Type
 | none=>dens E o.tys
 | some q=>dens E o.tys ⊕ dens E q.tys
structure an (E:TEnv) where
 s:bL
 m:dens E s.tys→Option (OutP E s.out s.gw)
def P7 (n:Rn):List PT→List (TV E)→Option (List (Lf E))
 | [],[]=>some []
 | p::ps,d::ds=>match p.get n d,P7 n ps ds with
  | some l,some ls=>some (l++ls)
  | _,_=>none
 | _,_=>none
def vA (n:Rn):List PT→List (Lf E)→List (TV E) × List (Lf E)
 | [],ls=>([],ls)
 | p::ps,ls=>((p.put n ls).1::(vA n ps (p.put n ls).2).1,(vA n ps (p.put n ls).2).2)
def P8 (n:Rn):List BT→List (cV E)→Option (List (Lf E))
 | [],[]=>some []
 | t::ts,x::xs=>match t.get n x,P8 n ts xs with
  | some l,some ls=>some (l++ls)
  | _,_=>none
 | _,_=>none
def tE (n:Rn):List BT→List (Lf E)→List (cV E) × List (Lf E)
 | [],ls=>([],ls)
 | t::ts,ls=>((t.put n ls).1::(tE n ts (t.put n ls).2).1,(tE n ts (t.put n ls).2).2)
def bL.g0 (s:bL):List aZ:=s.rows.map fun p=>⟨0,p.1,p.2⟩
def bL.n0 (s:bL):Rn:=⟨List.range s.boxes.length,List.range s.rows.length,s.g0.map (·.ai)⟩
def bL.ds (s:bL) (ls:List (Lf E)):List (TV E):=(vA s.n0 s.args ls).1
def bL.H (s:bL) (ls:List (Lf E)):List (cV E):=(tE s.n0 s.boxes (vA s.n0 s.args ls).2).1
def bL.c (s:bL) (ls:List (Lf E)):List (Nat × Cn E):=jk some s.soft (tE s.n0 s.boxes (vA s.n0 s.args ls).2).2
def Outs.n1 (o:Outs) (g:List aZ):Rn:=⟨List.range o.boxes.length,List.range o.rows.length,(cg o.rows g).map (·.ai)⟩
def Outs.eZ (o:Outs) (ok:Bool) (H0:List (cV E)) (g:List aZ) (ls:List (Lf E)):Zj E :=
 ⟨ok,(o.res.put (o.n1 g) ls).1,cu (o.n1 g) o.boxes H0 (o.res.put (o.n1 g) ls).2,cg o.rows g,wZ 0 o.boxes,jk some o.soft (kF o.boxes (o.res.put (o.n1 g) ls).2)⟩
def fG (s:bL) (H0:List (cV E)):(p:Option Outs)→OutP E s.out p→Zj E
 | none,y=>s.out.eZ true H0 s.g0 (az s.out.tys y)
 | some _,.inl y=>s.out.eZ true H0 s.g0 (az s.out.tys y)
 | some q,.inr y=>q.eZ false H0 s.g0 (az q.tys y)
def an.Ok (P:Program) (C:an E):Prop :=
 ∀x y,C.m x=some y→ia P C.s.f (C.s.ds (az C.s.tys x)) (C.s.H (az C.s.tys x)) C.s.g0 (C.s.c (az C.s.tys x)) (fG C.s (C.s.H (az C.s.tys x)) C.s.gw y)
structure GJ (w:World) (G:au) (n:Rn) (G2:au) (n2:Rn):Prop extends xK w G n G2 n2 where
 lb:n2.b.length≤n.b.length
 lg:n2.g.length≤n.g.length
 lv:n2.v.length≤n.v.length
theorem CT.uv (n n2:Rn) (c:CT) (ls:List (Lf E)):(c.put n ls).2=(c.put n2 ls).2:=by
 cases c<;>cases ls<;>first | rfl | (rename_i l;cases l<;>rfl)
theorem CT.uG (n n2:Rn):∀(cs:List CT) (ls:List (Lf E)),(CT.ko n cs ls).2=(CT.ko n2 cs ls).2
 | [],ls=>rfl
 | c::cs,ls=>by
  unfold CT.ko;split
  ·exact CT.uG n n2 cs _
  ·dsimp only
   rw [CT.uv n n2 c ls];exact CT.uG n n2 cs _
theorem PT.uv (n n2:Rn) (p:PT) (ls:List (Lf E)):(p.put n ls).2=(p.put n2 ls).2:=by
 cases p with
 | one c=>exact CT.uv n n2 c ls
 | agg cs=>exact CT.uG n n2 cs ls
 | bW cs=>exact CT.uG n n2 cs ls
theorem BT.uv (n n2:Rn) (t:BT) (ls:List (Lf E)):(t.put n ls).2=(t.put n2 ls).2:=by
 cases t with
 | cells ty cs=>exact CT.uG n n2 cs ls
 | loop y cs=>exact CT.uG n n2 cs ls
 | map kt vt=>cases ls<;>rfl
 | iter=>cases ls with | nil=>rfl | cons l ls=>cases ls<;>rfl
section
variable {w : World} {G G2 : au} {n n2 : Rn}
theorem getElem?_none_of {α β:Type} {l:List α} {m:List β} {r:Nat} (h:l[r]? = none) (hl:m.length≤l.length):m[r]? = none:=by
 rw [air] at h ⊢;omega
theorem Vl (hL:GJ w G n G2 n2):∀(caps:List (Nat × Nat)) {vs:List Value},aP E w G (uF n caps:List (TV E)) vs→aP E w G2 (uF n2 caps:List (TV E)) vs
 | [],vs,h=>by simp only [uF,aP] at h ⊢;exact h
 | (r,off)::caps,vs,h=>by
  simp only [uF] at h ⊢;obtain⟨u,us,rfl,h1,h2⟩:=h.cons_inv;refine .cons ?_ (Vl hL caps h2)
  cases hr:n.b[r]? with
  | none=>rw [getElem?_none_of hr hL.lb];simp only [VT]
  | some r' =>
   rw [hr] at h1;simp only [VT] at h1;obtain⟨b,rfl,hb⟩:=h1;obtain⟨r2,hr2,iz⟩:=hL.i r r' b hr hb;rw [hr2];simp only [VT];exact⟨b,rfl,iz⟩
theorem CT.move (hL:GJ w G n G2 n2) (c:CT) (ls:List (Lf E)) {v:Value} (h:VT E w G (c.put n ls).1 v):VT E w G2 (c.put n2 ls).1 v:=by
 cases c with
 | dat t=>cases ls with
  | nil=>simp only [CT.put,VT]
  | cons l ls=>exact VT.nM h hL.pr
 | any=>simp only [CT.put,VT]
 | pk t=>simp only [CT.put,VT]
 | ptr r off =>
  simp only [CT.put] at h ⊢
  cases hr:n.b[r]? with
  | none=>rw [getElem?_none_of hr hL.lb];simp only [VT]
  | some r' =>
   rw [hr] at h;simp only [VT] at h;obtain⟨b,rfl,hb⟩:=h;obtain⟨r2,hr2,iz⟩:=hL.i r r' b hr hb;rw [hr2];simp only [VT]
   exact⟨b,rfl,iz⟩
 | vn r off m =>
  simp only [CT.put] at h ⊢
  cases hr:n.b[r]? with
  | none=>rw [getElem?_none_of hr hL.lb];simp only [VT]
  | some r' =>
   rw [hr] at h;simp only [VT] at h;obtain⟨b,rfl,hb⟩:=h;obtain⟨r2,hr2,iz⟩:=hL.i r r' b hr hb;rw [hr2];simp only [VT]
   exact⟨b,rfl,iz⟩
 | kN r off =>
  cases ls with
  | nil=>simp only [CT.put,VT]
  | cons l ls =>
   simp only [CT.put] at h ⊢
   cases hr:n.b[r]? with
   | none=>rw [getElem?_none_of hr hL.lb];simp only [VT]
   | some r' =>
    rw [hr] at h;obtain⟨t,x⟩:=l
    cases hn:n2.b[r]? with
    | none=>simp only [VT]
    | some r2' =>
     cases t<;>try (simp only [VT];done)
     cases x<;>simp only [VT] at h ⊢
     ·exact h
     ·obtain⟨b,rfl,hb⟩:=h
      obtain⟨r2,hr2,iz⟩:=hL.i r r' b hr hb;rw [hn] at hr2;cases hr2
      exact⟨b,rfl,iz⟩
 | eY r =>
  simp only [CT.put] at h ⊢
  cases hr:n.b[r]? with
  | none=>rw [getElem?_none_of hr hL.lb];simp only [VT]
  | some r' =>
   rw [hr] at h;simp only [VT] at h;obtain⟨b,rfl,hb⟩:=h;obtain⟨r2,hr2,iz⟩:=hL.i r r' b hr hb;rw [hr2];simp only [VT]
   exact⟨b,rfl,iz⟩
 | pL r =>
  simp only [CT.put] at h ⊢
  cases hr:n.b[r]? with
  | none=>rw [getElem?_none_of hr hL.lb];simp only [VT]
  | some r' =>
   rw [hr] at h;simp only [VT] at h;obtain⟨b,rfl,hb⟩:=h;obtain⟨r2,hr2,iz⟩:=hL.i r r' b hr hb;rw [hr2];simp only [VT]
   exact⟨b,rfl,iz⟩
 | bn j t =>
  cases ls with
  | nil=>simp only [CT.put,VT]
  | cons l ls =>
   simp only [CT.put] at h ⊢
   cases hj:n.g[j]? with
   | none=>rw [getElem?_none_of hj hL.lg];simp only [VT]
   | some j' =>
    cases qR:n.v[j]? with
    | none =>
     rw [getElem?_none_of qR hL.lv]
     cases n2.g[j]? <;> simp only [VT]
    | some vv =>
     rw [hj,qR] at h;obtain⟨t',x⟩:=l
     cases t' with
     | aG t' =>
      simp only [VT] at h;obtain⟨uD,x1,h1,hg,hle,heq⟩:=h;obtain⟨vw,j2,v2,x2,q1,q2,q3,q4⟩:=hL.g j j' vv x1 h1 hj qR hg;rw [q1,q2];simp only [VT]
      exact⟨uD.mono hL.pr (fun _ _ _ _ h=>h),x2,h1,q3,om,fun _=>heq vw.symm⟩
     | _=>cases n2.g[j]? <;> cases n2.v[j]? <;> simp only [VT]
 | func f caps =>
  simp only [CT.put,VT] at h ⊢;obtain⟨vs,rfl,h⟩:=h
  exact⟨vs,rfl,Vl hL caps h⟩
 | cw j =>
  simp only [CT.put] at h ⊢
  cases hj:n.g[j]? with
  | none=>rw [getElem?_none_of hj hL.lg];simp only [VT]
  | some j' =>
   cases qR:n.v[j]? with
   | none =>
    rw [getElem?_none_of qR hL.lv]
    cases n2.g[j]? <;> simp only [VT]
   | some vv =>
    rw [hj,qR] at h;simp only [VT] at h;obtain⟨x1,h1,hg,hle,h2,heq⟩:=h;obtain⟨vw,j2,v2,x2,q1,q2,q3,q4⟩:=hL.g j j' vv x1 h1 hj qR hg;rw [q1,q2];simp only [VT]
    exact⟨x2,h1,q3,om,h2,fun _=>heq vw.symm⟩
 | dK j k =>
  simp only [CT.put] at h ⊢
  cases hj:n.g[j]? with
  | none=>rw [getElem?_none_of hj hL.lg];simp only [VT]
  | some j' =>
   cases qR:n.v[j]? with
   | none =>
    rw [getElem?_none_of qR hL.lv]
    cases n2.g[j]? <;> simp only [VT]
   | some vv =>
    rw [hj,qR] at h;simp only [VT] at h;obtain⟨x1,h1,hg,hle,h2,heq⟩:=h;obtain⟨vw,j2,v2,x2,q1,q2,q3,q4⟩:=hL.g j j' vv x1 h1 hj qR hg;rw [q1,q2];simp only [VT]
    exact⟨x2,h1,q3,om,h2,fun _=>heq vw.symm⟩
 | oO t=>cases ls with
  | nil=>simp only [CT.put,VT]
  | cons l ls =>
   obtain⟨t',x⟩:=l
   cases t' with
   | aG t' =>
    simp only [CT.put,VT] at h ⊢;obtain⟨vs,rfl,h1,h⟩:=h
    exact⟨vs,rfl,h1,h.mono hL.pr (fun _ _ _ _ h=>h)⟩
   | _=>simp only [CT.put,VT]
 | jz j k=>cases ls with
  | nil=>simp only [CT.put,VT]
  | cons l ls=>cases ls with
   | nil=>simp only [CT.put,VT]
   | cons l' ls =>
    simp only [CT.put] at h ⊢
    cases hj:n.g[j]? with
    | none=>rw [getElem?_none_of hj hL.lg];simp only [VT]
    | some j' =>
     cases qR:n.v[j]? with
     | none =>
      rw [getElem?_none_of qR hL.lv]
      cases n2.g[j]? <;> simp only [VT]
     | some vv =>
      rw [hj,qR] at h;obtain⟨t,x⟩:=l;obtain⟨t',x'⟩:=l'
      cases t with
      | int _ =>
       cases t' with
       | int _ =>
        simp only [VT] at h;obtain⟨x1,h1,hg,hle,h2,heq⟩:=h;obtain⟨vw,j2,v2,x2,q1,q2,q3,q4⟩:=hL.g j j' vv x1 h1 hj qR hg;rw [q1,q2];simp only [VT]
        exact⟨x2,h1,q3,om,h2,fun _=>heq vw.symm⟩
       | _=>cases n2.g[j]? <;> cases n2.v[j]? <;> simp only [VT]
      | _=>cases n2.g[j]? <;> cases n2.v[j]? <;> simp only [VT]
 | nil k=>simpa only [CT.put,VT] using h
 | lb b=>rw [VT.iG h];exact .bool _ _ _
 | li k n=>rw [VT.dw h];exact .int _ _ _ _
 | lV t off=>cases ls with
  | nil=>simp only [CT.put,VT]
  | cons l ls =>
   simp only [CT.put,VT] at h ⊢;obtain⟨b,o,c,rfl,h1,h2⟩:=h
   exact⟨b,o,c,rfl,h1.mono hL.pr (fun _ _ _ _ h=>h),fun l u hl=>⟨hL.pr _ _ (h2 l u hl).1,(h2 l u hl).2⟩⟩
 | iface ty t=>cases ls with
  | nil=>simp only [CT.put,VT]
  | cons l ls =>
   simp only [CT.put] at h ⊢;rw [VT.eq_def] at h ⊢;obtain⟨u,rfl,h⟩:=h;exact⟨u,rfl,VT.nM h hL.pr⟩
theorem aP.Vm {w:World} {G:au}:∀ {ds es:List (TV E)} {vs:List Value},aP E w G (ds++es) vs→∃us ts,vs=us++ts∧aP E w G ds us∧aP E w G es ts
 | [],_,vs,h=>⟨[],vs,rfl,aP.nil,h⟩
 | _::_,_,_,h=>by
  obtain⟨u,us,rfl,h1,h2⟩:=aP.cons_inv h;obtain⟨us',ts,rfl,h3,h4⟩:=aP.Vm h2;exact⟨u::us',ts,rfl,.cons h1 h3,h4⟩
theorem Vn {f:(i:Nat)→E.D i→Option (List (TV E))} (hf:∀i x cs,f i x=some cs→∀d∈cs,∃t y,d=TV.dat (E:=E) t y):∀(t:Ty) (x:t.den E.D) (cs:List (TV E)),tZ E f t x=some cs→∀d∈cs,∃t y,d=TV.dat (E:=E) t y:=by
 intro t
 induction t with
 | int k=>intro x cs h d hd;cases h;exact⟨_,_,iw.1 hd⟩
 | bool=>intro x cs h d hd;cases h;exact⟨_,_,iw.1 hd⟩
 | str=>intro x cs h d hd;cases h;exact⟨_,_,iw.1 hd⟩
 | aG t _=>intro x cs h d hd;cases h;exact⟨_,_,iw.1 hd⟩
 | unit=>intro x cs h d hd;cases h;cases hd
 | ext i=>intro x cs h;exact hf i x cs h
 | pair a b wV wW =>
  intro x cs h d hd;simp only [tZ] at h
  cases e1:tZ E f a x.1 with
  | none=>rw [e1] at h;cases h
  | some l =>
   rw [e1] at h;dsimp only [Option.bind] at h
   cases e2:tZ E f b x.2 with
   | none=>rw [e2] at h;cases h
   | some m =>
    rw [e2] at h;dsimp only [Option.bind] at h;cases h;rcases gz.1 hd with hd | hd
    ·exact wV x.1 l e1 d hd
    ·exact wW x.2 m e2 d hd
theorem Vo:∀(n:Nat) (t:Ty) (x:t.den E.D) (cs:List (TV E)),Gz E n t x=some cs→∀d∈cs,∃t y,d=TV.dat (E:=E) t y
 | 0,t,x,cs,h=>Vn (fun _ _ _ h=>by cases h) t x cs h
 | n+1,t,x,cs,h=>Vn (fun i x cs h=>Vo n (E.df i) (E.vm i x) cs h) t x cs h
theorem acT {w:World} {G G2:au} (hp:∀b o,G.pr b o→G2.pr b o):∀ {ds:List (TV E)} {vs:List Value},(∀d∈ds,∃t y,d=TV.dat (E:=E) t y)→aP E w G ds vs→aP E w G2 ds vs
 | [],_,_,h=>by simp only [aP] at h ⊢;exact h
 | d::ds,_,hd,h=>by
  obtain⟨u,us,rfl,h1,h2⟩:=h.cons_inv;obtain⟨t,y,rfl⟩:=hd d (nr ..);exact .cons (h1.nM hp) (acT hp (fun d h=>hd d (jS _ h)) h2)
theorem af2 {w:World} {G G2:au} (hp:∀b o,G.pr b o→G2.pr b o) (ls:List (Lf E)) {vs:List Value} (h:aP E w G (CT.GG ls).1 vs):aP E w G2 (CT.GG ls).1 vs:=by
 cases ls with
 | nil=>simp only [CT.GG,aP] at h ⊢;exact h
 | cons l ls =>
  simp only [CT.GG] at h ⊢
  cases hf:Gz E 4 l.1 l.2 with
  | none=>rw [hf] at h;simp only [aP] at h ⊢;exact h
  | some cs=>rw [hf] at h;exact acT hp (Vo 4 l.1 l.2 cs hf) h
theorem CT.LM (hL:GJ w G n G2 n2):∀(cs:List CT) (ls:List (Lf E)) {vs:List Value},aP E w G (CT.ko n cs ls).1 vs→aP E w G2 (CT.ko n2 cs ls).1 vs
 | [],ls,vs,h=>by simp only [CT.ko,aP] at h ⊢;exact h
 | c::cs,ls,vs,h=>by
  unfold CT.ko at h ⊢;split at h
  ·rename_i t ht
   obtain⟨us,ts,rfl,h1,h2⟩:=h.Vm;refine aP.append (af2 hL.pr ls h1) ?_;exact CT.LM hL cs _ h2
  ·rename_i ht
   dsimp only at h ⊢;obtain⟨u,us,rfl,h1,h2⟩:=h.cons_inv;refine .cons (CT.move hL c ls h1) ?_;rw [CT.uv n2 n];exact CT.LM hL cs _ h2
theorem PT.move (hL:GJ w G n G2 n2) (p:PT) (ls:List (Lf E)) {v:Value} (h:VT E w G (p.put n ls).1 v):VT E w G2 (p.put n2 ls).1 v:=by
 cases p with
 | one c=>exact CT.move hL c ls h
 | agg cs =>
  simp only [PT.put,VT] at h ⊢;obtain⟨vs,rfl,h1,h⟩:=h
  exact⟨vs,rfl,h1,CT.LM hL cs ls h⟩
 | bW cs =>
  simp only [PT.put,VT] at h ⊢;obtain⟨vs,rfl,h⟩:=h;exact⟨vs,rfl,CT.LM hL cs ls h⟩
theorem BT.move (hL:GJ w G n G2 n2) (t:BT) (ls:List (Lf E)) {b:Nat} (h:gq E w G b (t.put n ls).1):gq E w G2 b (t.put n2 ls).1:=by
 cases t with
 | cells ty cs =>
  obtain⟨vs,h1,h2,h3⟩:=h
  exact⟨vs,h1,h2,CT.LM hL cs ls h3⟩
 | loop y cs =>
  obtain⟨Y,fn,tmps,D,h0,h1,h2⟩:=h
  exact⟨Y,fn,tmps,D,h0,h1,CT.LM hL cs ls h2⟩
 | map kt vt=>cases ls with
  | nil=>exact h
  | cons l ls =>
   obtain⟨t,x⟩:=l;simp only [BT.put] at h ⊢;split at h
   ·rename_i kt' vt' m heq
    obtain⟨es,clock,h1,h2,h3⟩:=h;cases heq;exact⟨es,clock,h1,h2,h3.pr hL.pr⟩
   ·exact h
 | iter=>cases ls with
  | nil=>exact h
  | cons l ls=>cases ls with
   | nil=>exact h
   | cons l' ls =>
    simp only [BT.put] at h ⊢;split at h<;>exact h
end
end Go.RT
namespace Go.RT
variable {E : TEnv}
def qS:List Nat→Bool
 | []=>true
 | x::xs=>!(xs.elem x)&&qS xs
theorem qT:∀ {l:List Nat},qS l=true→l.Nodup
 | [],_=>Bt
 | x::xs,h=>by
  simp only [qS,aV,nq] at h;refine NC.2 ⟨fun hm=>?_,qT h.2⟩;rw [Sb hm] at h;cases h.1
def pick {α:Type} (l:List α):List Nat→Option (List α)
 | []=>some []
 | i::is=>match l[i]?,pick l is with
  | some x,some xs=>some (x::xs)
  | _,_=>none
theorem mH {α:Type} {l:List α}:∀ {is:List Nat} {xs:List α},pick l is=some xs→xs.length=is.length∧∀(r i:Nat),is[r]? = some i→∃x,xs[r]? = some x∧l[i]? = some x
 | [],xs,h=>by cases h;exact⟨rfl,fun r i hr=>by simp at hr⟩
 | i::is,xs,h=>by
  simp only [pick] at h;split at h<;>try (cases h;done)
  rename_i x ys h1 h2;cases h;obtain⟨q1,q2⟩:=mH h2;refine⟨by simp [q1],fun r k hr=>?_⟩
  cases r with
  | zero=>simp at hr;subst hr;exact⟨x,rfl,h1⟩
  | succ r=>simpa using q2 r k (by simpa using hr)
theorem SL {α β:Type} {l:List α} {m:List β} (hl:l.length=m.length):∀ {is:List Nat} {xs:List α},pick l is=some xs→∃ys,pick m is=some ys
 | [],xs,h=>⟨[],rfl⟩
 | i::is,xs,h=>by
  simp only [pick] at h;split at h<;>try (cases h;done)
  rename_i x ys h1 h2;obtain⟨zs,hz⟩:=SL hl h2;have hi:i<m.length:=by rw [←hl];exact (bS.1 h1).1
  exact⟨m[i]::zs,by simp only [pick,hz,bK hi]⟩
def uw:List (TypeId × Nat)→List aZ→Bool
 | [],[]=>true
 | p::ps,x::xs=>(Nat.beq p.1 x.e&&Nat.beq p.2 x.k)&&uw ps xs
 | _,_=>false
theorem yF:∀ {ps:List (TypeId × Nat)} {xs:List aZ},uw ps xs=true→ps.length=xs.length∧∀(j:Nat) p x,ps[j]? = some p→xs[j]? = some x→p.1=x.e∧p.2=x.k
 | [],[],_=>⟨rfl,fun j p x h=>by simp at h⟩
 | p::ps,x::xs,h=>by
  simp only [uw,aV] at h;obtain⟨q1,q2⟩:=yF h.2;refine⟨by simp [q1],fun j p' x' hp hx=>?_⟩
  cases j with
  | zero=>simp at hp hx;subst hp;subst hx;exact⟨bt h.1.1,bt h.1.2⟩
  | succ j=>exact q2 j p' x' (by simpa using hp) (by simpa using hx)
 | [],_::_,h=>by cases h
 | _::_,[],h=>by cases h
def bL.enter (s:bL) (bs gs:List Nat) (st:TS E) (ds:List (TV E)):Option (List (Lf E)) :=
 match pick st.H bs,pick st.g gs with
 | some H,some g=>cond (qS bs&&(qS gs&&(Nat.beq bs.length s.boxes.length&&uw s.rows g)))
   (match P7 ⟨bs,gs,g.map (·.ai)⟩ s.args ds,P8 ⟨bs,gs,g.map (·.ai)⟩ s.boxes H,Fv (fun q=>gs[q]?) st.c s.soft with
    | some a,some b,some e=>some (a++(b++e))
    | _,_,_=>none) none
 | _,_=>none
section
variable {w : World} {G G2 : au} {n n2 : Rn}
theorem Zk (hE:E.Ok) (hL:xK w G n G2 n2):∀ {ps:List PT} {ds:List (TV E)} {ls rest:List (Lf E)} {vs:List Value},P7 n ps ds=some ls→aP E w G ds vs →
  (vA n2 ps (ls++rest)).2=rest∧aP E w G2 (vA n2 ps (ls++rest)).1 vs
 | [],[],ls,rest,vs,h,hv=>by cases h;simp only [aP] at hv;subst hv;exact⟨rfl,aP.nil⟩
 | p::ps,d::ds,ls,rest,vs,h,hv=>by
  simp only [P7] at h;split at h<;>try (cases h;done)
  rename_i l ls' h1 h2;cases h;obtain⟨u,us,rfl,q1,q2⟩:=hv.cons_inv;obtain⟨e1,e2⟩:=PT.sound hE hL (rest:=ls'++rest) h1 q1;obtain⟨e3,e4⟩:=Zk hE hL (rest:=rest) h2 q2;simp only [vA,iu,e1]
  exact⟨e3,.cons e2 e4⟩
 | [],_::_,_,_,_,h,_=>by cases h
 | _::_,[],_,_,_,h,_=>by cases h
theorem Zl (hE:E.Ok) (hL:xK w G n G2 n2):∀ {ts:List BT} {xs:List (cV E)} {ls rest:List (Lf E)} {is:List Nat},P8 n ts xs=some ls→is.length=xs.length→(∀(q b:Nat) x,is[q]? = some b→xs[q]? = some x→gq E w G b x) →
  (tE n2 ts (ls++rest)).1.length=ts.length∧(tE n2 ts (ls++rest)).2=rest∧∀(q b:Nat) x,is[q]? = some b→(tE n2 ts (ls++rest)).1[q]? = some x→gq E w G2 b x
 | [],[],ls,rest,is,h,_,hv=>by cases h;exact⟨rfl,rfl,fun q b x _ hx=>by simp [tE] at hx⟩
 | t::ts,x::xs,ls,rest,is,h,hil,hv=>by
  simp only [P8] at h;split at h<;>try (cases h;done)
  rename_i l ls' h1 h2;cases h
  cases is with
  | nil=>simp at hil
  | cons i is =>
   obtain⟨e1,e2⟩:=BT.sound hE hL (rest:=ls'++rest) h1 (hv 0 i x si si);obtain⟨e3,e5,e4⟩:=Zl hE hL (rest:=rest) (is:=is) h2 (by simpa using hil) (fun q b y hq hy=>hv (q+1) b y (by simpa using hq) (by simpa using hy));simp only [tE,iu,e1];refine⟨by simp [e3],e5,fun q b y hq hy=>?_⟩
   cases q with
   | zero=>simp at hq hy;subst hq;subst hy;exact e2
   | succ q=>exact e4 q b y (by simpa using hq) (by simpa using hy)
 | [],_::_,_,_,_,h,_,_=>by cases h
 | _::_,[],_,_,_,h,_,_=>by cases h
end
def au.fA (G:au) (is:List Nat) (gs:List (aZ × Value)):au:=⟨is,gs.map fun x=>({ x.1 with ai:=0 },x.2),G.pr⟩
section
variable {P : Program} {w0 w w' : World} {G0 G G' : au} {st : TS E} {a : Act}
theorem Rel.enter (hE:E.Ok) (hr:Rel E w0 G0 st a w G) {s:bL} {bs gs:List Nat} {ds:List (TV E)} {ls:List (Lf E)} {vs:List Value} (h:s.enter bs gs st ds=some ls) (hv:aP E w G ds vs) :
  ∃is gg,pick G.i bs=some is∧pick G.g gs=some gg∧iq E w (G.fA is gg) (s.H ls) s.g0∧gD E w (G.fA is gg) (s.c ls)∧aP E w (G.fA is gg) (s.ds ls) vs:=by
 unfold bL.enter at h;split at h<;>try (cases h;done)
 rename_i H g hH hg;cases hc:(qS bs&&(qS gs&&(Nat.beq bs.length s.boxes.length&&uw s.rows g)))<;>rw [hc] at h<;>simp only [cond_true,cond_false] at h
 ·cases h
 simp only [aV] at hc;obtain⟨Vp,hn2,wU,hrs⟩:=hc;have wU:=bt wU;obtain⟨hrl,hrs⟩:=yF hrs;split at h<;>try (cases h;done)
 rename_i la lb le hla hlb hle;cases h;have M8:=hr.boxes.gs;obtain⟨is,hi⟩:=SL (m:=G.i) hr.boxes.len.symm hH;obtain⟨gg,Aj⟩:=SL (m:=G.g) (by rw [←M8];simp) hg;obtain⟨hHl,hHg⟩:=mH hH;obtain⟨J3,anA⟩:=mH hg;obtain⟨hil,hig⟩:=mH hi;obtain⟨aew,Ep⟩:=mH Aj
 have hgr:∀(j:Nat) x y,gg[j]? = some x→g[j]? = some y→x.1=y:=fun j x y hx hy=>by
  have hj:j<gs.length:=by rw [←aew];exact (bS.1 hx).1
  obtain⟨x',h1,h2⟩:=Ep j _ (bK hj);obtain⟨y',h3,h4⟩:=anA j _ (bK hj);rw [hx] at h1;cases h1;rw [hy] at h3;cases h3;rw [←M8,kJ,h2] at h4;simpa using h4
 have hg0:(gg.map fun x=>({ x.1 with ai:=0 }:aZ))=s.g0:=by
  unfold bL.g0;apply List.ext_getElem?;intro j;rw [kJ,kJ];by_cases hj:j<gs.length
  ·have h1:j<gg.length:=om
   have h2:j<g.length:=om;have h3:j<s.rows.length:=om;rw [bK h1,bK h3];have e1:=hgr j _ _ (bK h1) (bK h2);obtain⟨e2,e3⟩:=hrs j _ _ (bK h3) (bK h2);simp [e1,e2,e3]
  ·rw [uX om,uX om];rfl
 have AN:xK w G ⟨bs,gs,g.map (·.ai)⟩ (G.fA is gg) s.n0:=by
  refine⟨fun _ _ h=>h,fun r r' b h1 h2=>?_,fun j j' v x hd h1 h2 h3=>?_⟩
  ·obtain⟨b',h3,h4⟩:=hig r r' h1
   rw [h2] at h4;cases h4;have hrl:r<s.boxes.length:=by rw [←wU];exact (bS.1 h1).1
   exact⟨r,by simp [bL.n0,hrl],h3⟩
  ·obtain⟨x',h4,h5⟩:=Ep j j' h1
   rw [h3] at h5;cases h5;have hjl:j<gs.length:=(bS.1 h1).1;have h6:j<g.length:=om;have e1:=hgr j _ _ h4 (bK h6);have h2:(g.map (·.ai))[j]? = some v:=h2;rw [kJ,bK h6] at h2;have h2:g[j].ai=v:=by simpa using h2
   have h7:j<s.rows.length:=om;refine⟨by simp only at e1;rw [e1];exact h2,j,0,{ x with ai:=0 },by simp [bL.n0,h7],?_,by simp [au.fA,h4],rfl⟩;simp [bL.n0,bL.g0,h7]
 obtain⟨p1,p2⟩:=Zk hE AN (rest:=lb++le) hla hv
 obtain⟨q1,q5,q2⟩:=Zl hE AN (rest:=le) (is:=is) hlb om (fun q b x hq hx=>by
  have kR:q<bs.length:=by rw [←hil];exact (bS.1 hq).1
  obtain⟨b',h1,h2⟩:=hig q _ (bK kR);obtain⟨x',h3,h4⟩:=hHg q _ (bK kR);rw [hq] at h1;cases h1;rw [hx] at h3;cases h3;exact hr.boxes.box _ b x h2 h4)
 have hmem:∀b,b∈is→b∈G.i:=fun b hb=>by
  obtain⟨q,hq,rfl⟩:=gZ hb;obtain⟨b',h1,h2⟩:=hig q _ (bK om);rw [bK hq] at h1;cases h1;exact ek h2
 have hrow:∀(j:Nat) x hd,((G.fA is gg).g)[j]? = some (x,hd)→∃j' y,gs[j]? = some j'∧G.g[j']? = some (y,hd)∧x={ y with ai:=0 }:=fun j x hd hj=>by
  simp only [au.fA,kJ,Jo] at hj;obtain⟨y,hy,he⟩:=hj;have hjl:j<gs.length:=by rw [←aew];exact (bS.1 hy).1
  obtain⟨x',h4,h5⟩:=Ep j _ (bK hjl);rw [hy] at h4;cases h4;simp only [Bu] at he;refine⟨_,y.1,bK hjl,?_,he.1.symm⟩;rw [h5,←he.2]
 have hnd:=qT Vp;have ahz:=qT hn2;refine⟨is,gg,hi,Aj,⟨?_,?_,fun r b x hb hx=>?_,fun b hb=>hr.boxes.lt b (hmem b hb),?_,fun b o hp=>⟨(hr.boxes.dH b o hp).1,fun hm=>(hr.boxes.dH b o hp).2 (hmem b hm)⟩,fun j x hd hj=>?_,fun j j' x hd x' hd' b hj hj' hb hb'=>?_,hr.boxes.sU⟩,?_,p2⟩
 ·show is.length=(s.H (la++(lb++le))).length
  unfold bL.H;rw [p1,q1];omega
 ·rw [←hg0];simp [au.fA,qE,Function.comp_def]
 ·unfold bL.H at hx
  rw [p1] at hx;exact q2 r b x hb hx
 ·show is.Nodup
  refine XJ.2 fun p q hp hq hpq he=>?_;obtain⟨b1,h1,h2⟩:=hig p _ (bK om);obtain⟨b2,h3,h4⟩:=hig q _ (bK om);rw [bK hp] at h1;rw [bK hq] at h3;have:b1=b2:=by rw [←gC h1,←gC h3];exact he
  subst this;have e1:=bS.1 h2;have e2:=bS.1 h4;have:bs[p]=bs[q]:=(ND hr.boxes.nodup).1 (e1.2.trans e2.2.symm);have:=(ND hnd).1 this;omega
 ·obtain⟨j',y,h1,h2,rfl⟩:=hrow j x hd hj
  obtain⟨n,xs,g1,g2,g3⟩:=hr.boxes.grow j' y hd h2;exact⟨n,xs,g1,g2,fun b hb=>⟨(g3 b hb).1,fun hm=>(g3 b hb).2.1 (hmem b hm),(g3 b hb).2.2⟩⟩
 ·obtain⟨i1,y,h1,h2,rfl⟩:=hrow j x hd hj
  obtain⟨i2,y',h3,h4,rfl⟩:=hrow j' x' hd' hj';have:=hr.boxes.apart i1 i2 y hd y' hd' b h2 h4 hb hb';subst this;have e1:=bS.1 h1;have e2:=bS.1 h3;exact (ND ahz).1 (e1.2.trans e2.2.symm)
 ·intro q c0 hm
  have hm:(q,c0)∈jk some s.soft (tE s.n0 s.boxes (vA s.n0 s.args (la++(lb++le))).2).2:=hm;rw [p1,q5] at hm;obtain⟨q',j,-,e1,e2,e3⟩:=yE (f2:=some) (rest:=[]) hle (by rw [qC];exact hm);cases e2;obtain⟨x,hd,h1,h2⟩:=hr.dI j c0 e3;obtain⟨x',h4,h5⟩:=Ep q j e1;rw [h1] at h5;cases h5;exact⟨{ x with ai:=0 },hd,by simp [au.fA,h4],h2.keep rfl rfl (fun _ _ h=>h) (fun _ _ _ _ h=>h) (fun b _=>⟨rfl,fun _ h=>h⟩)⟩
end
end Go.RT
namespace Go.RT
variable {E : TEnv}
def ga {α:Type}:List (Nat × α)→List α→List α
 | [],l=>l
 | (i,x)::ps,l=>ga ps (l.set i x)
theorem dM {α:Type}:∀(ps:List (Nat × α)) (l:List α),(ga ps l).length=l.length
 | [],l=>rfl
 | (i,x)::ps,l=>by simp [ga,dM ps]
theorem oQ {α:Type}:∀(ps:List (Nat × α)) (l:List α) (q:Nat),q∉ps.map (·.1)→(ga ps l)[q]? = l[q]?
 | [],l,q,_=>rfl
 | (i,x)::ps,l,q,h=>by
  simp only [eV,fK,not_or] at h;rw [ga,oQ ps _ q h.2,iB (fun e=>h.1 e.symm)]
theorem Dt {α:Type}:∀(ps:List (Nat × α)) (l:List α) (q:Nat) (x:α),(ps.map (·.1)).Nodup→(q,x)∈ps→q<l.length→(ga ps l)[q]? = some x
 | (i,y)::ps,l,q,x,hn,hm,hq=>by
  simp only [eV,NC] at hn;rcases fK.1 hm with he | hm
  ·simp only [Bu] at he
   obtain⟨rfl,rfl⟩:=he;rw [ga,oQ ps _ _ hn.1,Sd hq]
  ·rw [ga]
   exact Dt ps _ q x hn.2 hm (by simpa using hq)
def kS {α:Type}:List (Option BT)→List Nat→List α→List (Nat × α)
 | some _::os,i::is,x::xs=>(i,x)::kS os is xs
 | none::os,_::is,_::xs=>kS os is xs
 | _,_,_=>[]
theorem vB {α:Type}:∀ {os:List (Option BT)} {is:List Nat} {xs:List α} {i:Nat} {x:α},(i,x)∈kS os is xs→∃(r:Nat) (t:BT),os[r]? = some (some t)∧is[r]? = some i∧xs[r]? = some x
 | some t::os,j::is,y::xs,i,x,h=>by
  rcases fK.1 h with he | h
  ·cases he;exact⟨0,t,rfl,rfl,rfl⟩
  ·obtain⟨r,t',h1,h2,h3⟩:=vB h
   exact⟨r+1,t',by simpa using h1,by simpa using h2,by simpa using h3⟩
 | none::os,j::is,y::xs,i,x,h=>by
  obtain⟨r,t',h1,h2,h3⟩:=vB (os:=os) (is:=is) (xs:=xs) h
  exact⟨r+1,t',by simpa using h1,by simpa using h2,by simpa using h3⟩
 | [],_,_,_,_,h=>by cases h
 | some _::_,[],_,_,_,h=>by cases h
 | none::_,[],_,_,_,h=>by cases h
 | some _::_,_::_,[],_,_,h=>by cases h
 | none::_,_::_,[],_,_,h=>by cases h
theorem GK {α:Type}:∀ {os:List (Option BT)} {is:List Nat} {xs:List α} (r:Nat) {t:BT} {i:Nat} {x:α},os[r]? = some (some t)→is[r]? = some i→xs[r]? = some x→(i,x)∈kS os is xs
 | o::os,j::is,y::xs,0,t,i,x,h1,h2,h3=>by
  simp at h1 h2 h3;subst h1;subst h2;subst h3
  simp [kS]
 | o::os,j::is,y::xs,r+1,t,i,x,h1,h2,h3=>by
  have:=GK (os:=os) (is:=is) (xs:=xs) r (by simpa using h1) (by simpa using h2) (by simpa using h3)
  cases o<;>simp [kS,this]
 | [],_,_,_,_,_,_,h,_,_=>by simp at h
 | _::_,[],_,_,_,_,_,_,h,_=>by simp at h
 | _::_,_::_,[],_,_,_,_,_,_,h=>by simp at h
theorem BP {α:Type}:∀ {os:List (Option BT)} {is:List Nat} {xs:List α},is.Nodup→((kS os is xs).map (·.1)).Nodup
 | some t::os,j::is,y::xs,h=>by
  rw [NC] at h;simp only [kS,eV,NC];refine⟨fun hm=>?_,BP h.2⟩;obtain⟨p,hp,he⟩:=p8.1 hm;obtain⟨i,x⟩:=p;obtain⟨r,t',-,h2,-⟩:=vB hp
  exact h.1 (by rw [←show i=j from he];exact ek h2)
 | none::os,j::is,y::xs,h=>BP (os:=os) (xs:=xs) (NC.1 h).2
 | [],_,_,_=>Bt
 | some _::_,[],_,_=>Bt
 | none::_,[],_,_=>Bt
 | some _::_,_::_,[],_=>Bt
 | none::_,_::_,[],_=>Bt
theorem LN:∀ {bs:List (Option BT)} {r q:Nat},r+q∈wZ r bs→∃t,bs[q]? = some (some t)
 | [],_,_,h=>by cases h
 | none::bs,r,q,h=>by
  simp only [wZ] at h
  cases q with
  | zero =>
   have key:∀(bs:List (Option BT)) (r x:Nat),x∈wZ r bs→r≤x:=by
    intro bs
    induction bs with
    | nil=>intro r x h;cases h
    | cons o bs ih =>
     intro r x h
     cases o with
     | none=>have:=ih (r+1) x h;omega
     | some t=>rcases fK.1 h with rfl | h;exact bM _;have:=ih (r+1) x h;omega
   have:=key bs (r+1) _ h;omega
  | succ q =>
   obtain⟨t,ht⟩:=LN (bs:=bs) (r:=r+1) (q:=q) (by rw [show r+1+q=r+(q+1) by omega];exact h)
   exact⟨t,by simpa using ht⟩
 | some t::bs,r,q,h=>by
  cases q with
  | zero=>exact⟨t,rfl⟩
  | succ q =>
   simp only [wZ] at h;rcases fK.1 h with he | h
   ·omega
   ·obtain⟨t,ht⟩:=LN (bs:=bs) (r:=r+1) (q:=q) (by rw [show r+1+q=r+(q+1) by omega];exact h)
    exact⟨t,by simpa using ht⟩
def rowAt:Option (TypeId × Nat)→Option aZ→aZ
 | none,some x=>x
 | some p,some x=>⟨x.ai+1,p.1,p.2⟩
 | some p,none=>⟨0,p.1,p.2⟩
 | none,none=>⟨0,0,0⟩
theorem jl:∀(rs:List (Option (TypeId × Nat))) (g:List aZ),(cg rs g).length=rs.length
 | [],_=>rfl
 | none::rs,_::g=>by simp [cg,jl rs g]
 | some _::rs,_::g=>by simp [cg,jl rs g]
 | some _::rs,[]=>by simp [cg,jl rs []]
 | none::rs,[]=>by simp [cg,jl rs []]
theorem yG:∀(rs:List (Option (TypeId × Nat))) (g:List aZ) (j:Nat) (o:Option (TypeId × Nat)),rs[j]? = some o→(cg rs g)[j]? = some (rowAt o g[j]?)
 | [],_,_,_,h=>by simp at h
 | r::rs,x::g,0,o,h=>by simp at h;subst h;cases r<;>simp [cg,rowAt]
 | r::rs,[],0,o,h=>by simp at h;subst h;cases r<;>simp [cg,rowAt]
 | r::rs,x::g,j+1,o,h=>by
  have:=yG rs g j o (by simpa using h)
  cases r<;>simpa [cg] using this
 | r::rs,[],j+1,o,h=>by
  have:=yG rs [] j o (by simpa using h);cases r<;>simpa [cg] using this
theorem jL (n:Rn):∀(bs:List (Option BT)) (H:List (cV E)) (ls:List (Lf E)),(cu n bs H ls).length=bs.length
 | [],_,_=>rfl
 | none::bs,H,ls=>by simp [cu,jL n bs]
 | some t::bs,H,ls=>by simp [cu,jL n bs]
theorem zR {w:World} {G G2:au} {n n2:Rn} (hL:GJ w G n G2 n2):∀(bs:List (Option BT)) (H H':List (cV E)) (ls:List (Lf E)) (r:Nat) {t:BT} {b:Nat} {x y:cV E},bs[r]? = some (some t) →
  (cu n bs H ls)[r]? = some x→(cu n2 bs H' ls)[r]? = some y→gq E w G b x→gq E w G2 b y
 | [],_,_,_,_,_,_,_,_,h,_,_,_=>by simp at h
 | none::bs,H,H',ls,r+1,t,b,x,y,h,hx,hy,hb=>zR hL bs H.tail H'.tail ls r (by simpa using h) (by simpa [cu] using hx) (by simpa [cu] using hy) hb
 | none::bs,H,H',ls,0,t,b,x,y,h,hx,hy,hb=>by simp at h
 | some t'::bs,H,H',ls,0,t,b,x,y,h,hx,hy,hb=>by
  simp [cu] at hx hy;subst hx;subst hy
  exact BT.move hL t' ls hb
 | some t'::bs,H,H',ls,r+1,t,b,x,y,h,hx,hy,hb=>by
  simp only [cu,adq] at hx hy;rw [BT.uv n2 n] at hy;exact zR hL bs H.tail H'.tail _ r (by simpa using h) hx hy hb
def ux:Nat→List (Option BT)→Bool
 | 0,[]=>true
 | 0,some _::bs=>ux 0 bs
 | 0,none::_=>false
 | _+1,[]=>false
 | n+1,_::bs=>ux n bs
theorem Er:∀ {n:Nat} {bs:List (Option BT)},ux n bs=true→n≤bs.length∧∀r,n≤r→r<bs.length→∃t,bs[r]? = some (some t)
 | 0,[],_=>⟨bM _,fun r _ h=>by simp at h⟩
 | 0,some t::bs,h=>by
  obtain⟨_,q⟩:=Er (n:=0) (bs:=bs) h;refine⟨fT _,fun r _ hr=>?_⟩
  cases r with
  | zero=>exact⟨t,rfl⟩
  | succ r=>simpa using q r (fT _) (by simpa using hr)
 | 0,none::_,h=>by cases h
 | _+1,[],h=>by cases h
 | n+1,o::bs,h=>by
  obtain⟨q1,q2⟩:=Er (n:=n) (bs:=bs) h;refine⟨by simpa using q1,fun r h1 h2=>?_⟩
  cases r with
  | zero=>omega
  | succ r=>simpa using q2 r om (by simpa using h2)
def Fx (gs:List Nat):List (Nat × Cn E)→List (Nat × Cn E)
 | []=>[]
 | p::cs=>cond (gs.elem p.1) (Fx gs cs) (p::Fx gs cs)
theorem vC {gs:List Nat}:∀ {cs:List (Nat × Cn E)} {i:Nat} {c:Cn E},(i,c)∈Fx gs cs→(i,c)∈cs∧i∉gs
 | [],i,c,h=>by cases h
 | p::cs,i,c,h=>by
  simp only [Fx] at h;cases hb:gs.elem p.1<;>rw [hb] at h<;>simp only [cond_true,cond_false] at h
  ·rcases fK.1 h with h | h
   ·refine⟨by rw [h];simp,fun e=>?_⟩
    rw [←h] at hb;simp only at hb;rw [Sb e] at hb;cases hb
   ·exact⟨jS _ (vC h).1,(vC h).2⟩
  ·exact⟨jS _ (vC h).1,(vC h).2⟩
theorem vD {f:Nat→Option Nat}:∀ {ps:List (Nat × Ty)} {ls:List (Lf E)} {i:Nat} {c:Cn E},(i,c)∈jk f ps ls→∃q,f q=some i∧(q,c)∈jk some ps ls
 | [],ls,i,c,h=>by cases ls<;>cases h
 | p::ps,[],i,c,h=>by cases h
 | p::ps,l::ls,i,c,h=>by
  obtain⟨q,t⟩:=p;obtain⟨t',x⟩:=l;simp only [jk] at h ⊢
  cases hf:f q with
  | none =>
   rw [hf] at h;obtain⟨q',e1,e2⟩:=vD (ps:=ps) (ls:=ls) (by cases t'<;>exact h);refine⟨q',e1,?_⟩
   cases t'<;>first | exact e2 | exact jS _ e2
  | some i' =>
   rw [hf] at h
   cases t' with
   | aG t' =>
    rcases fK.1 h with e | h
    ·cases e;exact⟨q,hf,nr ..⟩
    ·obtain⟨q',e1,e2⟩:=vD (ps:=ps) (ls:=ls) h
     exact⟨q',e1,jS _ e2⟩
   | _ =>
    obtain⟨q',e1,e2⟩:=vD (ps:=ps) (ls:=ls) h;exact⟨q',e1,e2⟩
def Outs.n2 (o:Outs) (bs gs:List Nat) (st:TS E):Rn :=
 ⟨bs++List.range' st.H.length (o.boxes.length - bs.length),gs++List.range' st.g.length (o.rows.length - gs.length),(cg o.rows ((pick st.g gs).getD [])).map (·.ai)⟩
def Outs.val (o:Outs) (bs gs:List Nat) (st:TS E) (ls:List (Lf E)):TV E:=(o.res.put (o.n2 bs gs st) ls).1
def Outs.hc (o:Outs) (bs gs:List Nat) (st:TS E) (ls:List (Lf E)):List (cV E):=cu (o.n2 bs gs st) o.boxes [] (o.res.put (o.n2 bs gs st) ls).2
def Outs.after (o:Outs) (bs gs:List Nat) (st:TS E) (ls:List (Lf E)):TS E :=
 { st with
   H:=ga (kS o.boxes bs (o.hc bs gs st ls)) st.H++(o.hc bs gs st ls).drop bs.length
   g:=ga (gs.zip (cg o.rows ((pick st.g gs).getD []))) st.g++(cg o.rows ((pick st.g gs).getD [])).drop gs.length
   d:=(kS o.boxes bs (o.hc bs gs st ls)).map (·.1)++st.d
   c:=jk (fun q=>(o.n2 bs gs st).g[q]?) o.soft (kF o.boxes (o.res.put (o.n2 bs gs st) ls).2)++Fx gs st.c }
theorem J4 {α:Type}:∀ {l:List Nat} {m:List α},l.Nodup→((l.zip m).map (·.1)).Nodup
 | [],_,_=>Bt
 | _::_,[],_=>Bt
 | x::l,y::m,h=>by
  rw [NC] at h;simp only [O1,eV,NC];refine⟨fun hm=>h.1 ?_,J4 h.2⟩;obtain⟨p,hp,he⟩:=p8.1 hm;rw [←he];exact (adr hp).1
theorem Es {α:Type}:∀ {l:List Nat} {m:List α} (j:Nat) {i:Nat} {x:α},l[j]? = some i→m[j]? = some x→(i,x)∈l.zip m
 | y::l,z::m,0,i,x,h1,h2=>by simp at h1 h2;subst h1;subst h2;simp
 | y::l,z::m,j+1,i,x,h1,h2=>by
  have:=Es (l:=l) (m:=m) j (by simpa using h1) (by simpa using h2)
  simp [this]
 | [],_,_,_,_,h,_=>by simp at h
 | _::_,[],_,_,_,_,h=>by simp at h
end Go.RT
namespace Go.RT
variable {E : TEnv}
section
variable {P : Program} {w0 w w' : World} {G0 G G' : au} {st : TS E} {a : Act}
theorem Rel.leave (hr:Rel E w0 G0 st a w G) {bs gs is:List Nat} {gg:List (aZ × Value)} (hi:pick G.i bs=some is) (hg:pick G.g gs=some gg) (Vp:bs.Nodup) (hn2:gs.Nodup) (o:Outs)
  (hb:ux bs.length o.boxes=true) (J3:gs.length≤o.rows.length) {H0:List (cV E)} {ls:List (Lf E)} {v:Value} (hE:gU w (G.fA is gg) w' G')
  (hB:iq E w' G' (cu (o.n1 ((G.fA is gg).g.map (·.1))) o.boxes H0 (o.res.put (o.n1 ((G.fA is gg).g.map (·.1))) ls).2) (cg o.rows ((G.fA is gg).g.map (·.1))))
  (hS:gD E w' G' (jk some o.soft (kF o.boxes (o.res.put (o.n1 ((G.fA is gg).g.map (·.1))) ls).2)))
  (hv:VT E w' G' (o.res.put (o.n1 ((G.fA is gg).g.map (·.1))) ls).1 v) (BQ:∀(q b:Nat),is[q]? = some b→q∉wZ 0 o.boxes→w'.heap[b]? = w.heap[b]?) :
  ∃Gn,Rel E w0 G0 (o.after bs gs st ls) a w' Gn∧VT E w' Gn (o.val bs gs st ls) v:=by
 obtain⟨wU,hsome⟩:=Er hb;obtain⟨hil,hig⟩:=mH hi;obtain⟨aew,Ep⟩:=mH hg;have hlen:=hr.boxes.len;have M8:=hr.boxes.gs;have akZ:G.g.length=st.g.length:=hr.kQ
 have amB:pick st.g gs=some (gg.map (·.1)):=by
  have key:∀(l:List Nat) (ys:List (aZ × Value)),pick G.g l=some ys→pick st.g l=some (ys.map (·.1)):=by
   intro l
   induction l with
   | nil=>intro ys h;cases h;rfl
   | cons i l ih =>
    intro ys h;simp only [pick] at h;split at h<;>try (cases h;done)
    rename_i x xs h1 h2;cases h;have:st.g[i]? = some x.1:=by rw [←M8,kJ,h1];rfl
    simp only [pick,this,ih xs h2,eV]
  exact key gs gg hg
 have hpg:(pick st.g gs).getD []=gg.map (·.1):=by rw [amB];rfl
 let g0:List aZ:=(G.fA is gg).g.map (·.1)
 have aof:g0.length=gs.length:=by simp [g0,au.fA,aew]
 let nc:=cg o.rows g0
 let ng:=cg o.rows (gg.map (·.1))
 have anB:nc.length=o.rows.length:=jl _ _;have ak0:ng.length=o.rows.length:=jl _ _;have ak1:G'.i.length=o.boxes.length:=by rw [hB.len,jL]
 have ahA:G'.g.map (·.1)=nc:=hB.gs;have aex:G'.g.length=o.rows.length:=by rw [←anB,←ahA];simp
 have aiM:∀(r b:Nat),is[r]? = some b→G'.i[r]? = some b:=fun r b h=>hE.goes.i r b h
 let iR:List (aZ × Value):=ng.zip (G'.g.map (·.2))
 have amC:iR.length=o.rows.length:=by simp [iR,ak0,aex]
 have X5:iR.map (·.1)=ng:=by
  simp only [iR];rw [List.map_fst_zip];simp [ak0,aex]
 let Gn:au:=⟨G.i++G'.i.drop bs.length,ga (gs.zip iR) G.g++iR.drop gs.length,G'.pr⟩
 have hent:∀(j:Nat) y,iR[j]? = some y→∃ro x' ,o.rows[j]? = some ro∧G'.g[j]? = some (x',y.2)∧x'=rowAt ro g0[j]?∧y.1=rowAt ro (gg.map (·.1))[j]?:=by
  intro j y hj;have hjl:j<o.rows.length:=by rw [←amC];exact (bS.1 hj).1
  have hro:=bK hjl;have h1:=yG o.rows (gg.map (·.1)) j _ hro;have h2:=yG o.rows g0 j _ hro;have qj:j<G'.g.length:=om
  have e1:y.1=rowAt o.rows[j] (gg.map (·.1))[j]?:=by
   have:(iR.map (·.1))[j]? = some y.1:=by simp [hj]
   rw [X5] at this;rw [show ng[j]? = _ from h1] at this;exact (gC this).symm
  have e2:y.2=G'.g[j].2:=by
   obtain⟨hjn,he⟩:=bS.1 hj;rw [←he];simp [iR]
  have e3:G'.g[j].1=rowAt o.rows[j] g0[j]?:=by
   have:(G'.g.map (·.1))[j]? = some G'.g[j].1:=by simp [qj]
   rw [ahA,show nc[j]? = _ from h2] at this;exact (gC this).symm
  refine⟨o.rows[j],G'.g[j].1,hro,?_,e3,e1⟩;rw [bK qj,e2]
 have hold:∀(j j':Nat) x h,gs[j]? = some j'→G.g[j']? = some (x,h)→gg[j]? = some (x,h)∧g0[j]? = some { x with ai:=0 }∧(gg.map (·.1))[j]? = some x:=by
  intro j j' x h h1 h2;obtain⟨y,h3,h4⟩:=Ep j j' h1;rw [h2] at h4;cases h4;refine⟨h3,?_,by simp [h3]⟩;simp [g0,au.fA,h3]
 have amD:∀(j j':Nat) x h,gs[j]? = some j'→G.g[j']? = some (x,h)→∃y,iR[j]? = some y∧x.ai≤y.1.ai∧(x.ai=y.1.ai→y.2=h):=by
  intro j j' x h h1 h2;have hjl:j<gs.length:=(bS.1 h1).1;have hjn:j<iR.length:=om;obtain⟨ro,x',q1,q2,q3,q4⟩:=hent j _ (bK hjn);obtain⟨o1,o2,o3⟩:=hold j j' x h h1 h2;rw [o2] at q3;rw [o3] at q4;refine⟨_,bK hjn,?_,fun e=>?_⟩
  ·rw [q4];cases ro<;>simp [rowAt]
  ·rw [q4] at e
   cases ro with
   | some p=>simp [rowAt] at e
   | none =>
    simp only [rowAt] at q3;have hsel:((G.fA is gg).g)[j]? = some ({ x with ai:=0 },h):=by simp [au.fA,o1]
    obtain⟨x2,h3,r1,r2,r3⟩:=hE.goes.g j _ h hsel;rw [q2] at r1;cases r1;exact r3 (by rw [q3])
 have hgn:∀(q:Nat) y,Gn.g[q]? = some y→(q∉gs∧G.g[q]? = some y)∨∃j,iR[j]? = some y∧((gs[j]? = some q∧q<G.g.length)∨(gs.length≤j∧q=G.g.length+(j - gs.length))):=by
  intro q y hq;have hq:(ga (gs.zip iR) G.g++iR.drop gs.length)[q]? = some y:=hq;by_cases kR:q<G.g.length
  ·rw [fU (by rw [dM];exact kR)] at hq
   by_cases hm:q∈gs
   ·obtain⟨j,hj,rfl⟩:=gZ hm
    have hjn:j<iR.length:=om;rw [Dt (gs.zip iR) G.g gs[j] iR[j] (J4 hn2) (Es j (bK hj) (bK hjn)) kR] at hq;cases hq;exact .inr ⟨j,bK hjn,.inl ⟨bK hj,kR⟩⟩
   ·rw [oQ _ _ q (fun Zm=>hm (by obtain⟨p,hp,he⟩:=p8.1 Zm;rw [←he];exact (adr hp).1))] at hq
    exact .inl ⟨hm,hq⟩
  ·rw [lG (by rw [dM];omega),dM,sQ] at hq
   exact .inr ⟨gs.length+(q - G.g.length),hq,.inr ⟨om,om⟩⟩
 have Zn:∀(j q:Nat) y,gs[j]? = some q→q<G.g.length→iR[j]? = some y→Gn.g[q]? = some y:=by
  intro j q y h1 h2 h3;show (ga (gs.zip iR) G.g++iR.drop gs.length)[q]? = some y;rw [fU (by rw [dM];exact h2)];exact Dt (gs.zip iR) G.g q y (J4 hn2) (Es j h1 h3) h2
 have acU:∀(q:Nat) y,q∉gs→G.g[q]? = some y→Gn.g[q]? = some y:=by
  intro q y h1 h2;have kR:=(bS.1 h2).1;show (ga (gs.zip iR) G.g++iR.drop gs.length)[q]? = some y;rw [fU (by rw [dM];exact kR),oQ _ _ q (fun Zm=>h1 (by obtain⟨p,hp,he⟩:=p8.1 Zm;rw [←he];exact (adr hp).1))];exact h2
 have acV:∀(j:Nat) y,gs.length≤j→iR[j]? = some y→Gn.g[G.g.length+(j - gs.length)]? = some y:=by
  intro j y h1 h2;show (ga (gs.zip iR) G.g++iR.drop gs.length)[G.g.length+(j - gs.length)]? = some y;rw [lG (by rw [dM];omega),dM,sQ];rw [show gs.length+(G.g.length+(j - gs.length) - G.g.length)=j by omega];exact h2
 have Du:ez w G w' Gn:=by
  refine⟨hE.goes.pr,hE.goes.cells,fun r b h=>?_,fun q x h hq=>?_⟩
  ·show (G.i++G'.i.drop bs.length)[r]? = some b
   rw [fU (bS.1 h).1];exact h
  ·by_cases hm:q∈gs
   ·obtain⟨j,hj,rfl⟩:=gZ hm
    obtain⟨y,h1,h2,h3⟩:=amD j _ x h (bK hj) hq;exact⟨y.1,y.2,Zn j _ y (bK hj) (bS.1 hq).1 h1,h2,h3⟩
   ·exact⟨x,h,acU q _ hm hq,bM _,fun _=>rfl⟩
 have ev:=hr.cK
 have Zo:∀b,b∈is→b∈G.i:=fun b hb=>by
  obtain⟨q,hq,rfl⟩:=gZ hb;obtain⟨b',h1,h2⟩:=hig q _ (bK om);rw [bK hq] at h1;cases h1;exact ek h2
 have xL:∀b,(G.fA is gg).rows b→∃(j j':Nat) (x:aZ) (h:Value),gs[j]? = some j'∧G.g[j']? = some (x,h)∧h.ownBlock=some b:=by
  rintro b ⟨x,h,hm,hbk⟩;obtain⟨j,hj,he⟩:=gZ hm;have hj2:j<gg.length:=by simpa [au.fA] using hj
  obtain⟨y,h1,h2⟩:=Ep j _ (bK om);rw [bK hj2] at h1;have h1:=gC h1
  have UU:gg[j].2=h:=by
   have:=congrArg Prod.snd he;simpa [au.fA] using this
  refine⟨j,_,y.1,y.2,bK om,h2,?_⟩;rw [←h1,UU];exact hbk
 have Fy:∀(j:Nat) x h b,G.g[j]? = some (x,h)→h.ownBlock=some b→b<w.heap.size∧b∉G.i:=fun j x h b hj hb=>by
  obtain⟨n,xs,-,-,q⟩:=hr.boxes.grow j x h hj;exact⟨(q b hb).1,(q b hb).2.1⟩
 have hsame:∀(q b:Nat),G.i[q]? = some b→q∉bs→w'.heap[b]? = w.heap[b]?:=by
  intro q b hq hnb;refine hE.old b (hr.boxes.lt b (ek hq)) (fun hf=>?_);rcases hf with hf | hf
  ·obtain⟨r,hrl,he⟩:=gZ hf
   have ak2:r<bs.length:=by
    have:r<is.length:=hrl;omega
   obtain⟨b',h1,h2⟩:=hig r _ (bK ak2);have h1':is[r]? = some b:=by rw [←he];exact bK hrl
   rw [h1'] at h1;cases h1;have e1:=bS.1 hq;have e2:=bS.1 h2;have:q=bs[r]:=(ND hr.boxes.nodup).1 (e1.2.trans e2.2.symm);exact hnb (by rw [this];exact ei ak2)
  ·obtain⟨j,j',x,h,-,h2,h3⟩:=xL b hf
   exact (Fy j' x h b h2 h3).2 (ek hq)
 have aey:∀(q b:Nat),Gn.i[q]? = some b→G.i[q]? = some b∨(G.i.length≤q∧G'.i[bs.length+(q - G.i.length)]? = some b∧w.heap.size≤b):=by
  intro q b hq;have hq:(G.i++G'.i.drop bs.length)[q]? = some b:=hq;by_cases kR:q<G.i.length
  ·rw [fU kR] at hq;exact .inl hq
  ·rw [lG om,sQ] at hq
   exact .inr ⟨om,hq,hE.lH _ b (by show is.length≤_;omega) hq⟩
 have X6:∀b,b∈Gn.i→b∈G.i∨(b∈G'.i∧w.heap.size≤b):=fun b hb=>by
  obtain⟨q,hq,he⟩:=gZ hb;rcases aey q b (by rw [←he];exact bK hq) with h | ⟨-,h1,h2⟩
  ·exact .inl (ek h)
  ·exact .inr ⟨ek h1,h2⟩
 have hblk:∀(j:Nat) x h b,G'.g[j]? = some (x,h)→h.ownBlock=some b→w.heap.size≤b∨∃(j':Nat) (x0:aZ) (h0:Value),gs[j]? = some j'∧G.g[j']? = some (x0,h0)∧h0.ownBlock=some b:=by
  intro j x h b hj hbk;rcases hE.cY j x h b hj hbk with q | ⟨x0,h0,q1,q2⟩
  ·exact .inl q
  ·have qj:j<gg.length:=by
    have:=(bS.1 q1).1;simpa [au.fA] using this
   obtain⟨y,h1,h2⟩:=Ep j _ (bK om);rw [bK qj] at h1;have h1:=gC h1
   have:h0=gg[j].2:=by
    simp [au.fA,qj] at q1;exact q1.2.symm
   refine .inr ⟨_,y.1,y.2,bK om,h2,?_⟩;rw [←h1,←this];exact q2
 have AN:GJ w' G' (o.n1 g0) Gn (o.n2 bs gs st):=by
  refine⟨⟨fun _ _ h=>h,fun r r' b h1 h2=>?_,fun j j' vv x h h1 h2 h3=>?_⟩,?_,?_,?_⟩
  ·obtain⟨rfl,hlt⟩:=Ds h1
   by_cases hrb:r'<bs.length
   ·refine⟨bs[r'],by simp [Outs.n2,fU hrb,hrb],?_⟩
    obtain⟨b',q1,q2⟩:=hig r' _ (bK hrb);have:=aiM r' b' q1;rw [h2] at this;cases this;show (G.i++G'.i.drop bs.length)[bs[r']]? = some b;rw [fU (bS.1 q2).1];exact q2
   ·refine⟨st.H.length+(r' - bs.length),?_,?_⟩
    ·simp only [Outs.n2]
     rw [lG om];rw [ads om];simp
    ·show (G.i++G'.i.drop bs.length)[st.H.length+(r' - bs.length)]? = some b
     rw [←hlen,lG om,sQ,show bs.length+(G.i.length+(r' - bs.length) - G.i.length)=r' by omega];exact h2
  ·obtain⟨rfl,hlt⟩:=Ds h1
   have hjn:j'<iR.length:=om;obtain⟨ro,x',q1,q2,q3,q4⟩:=hent j' _ (bK hjn);rw [h3] at q2;have q2:=gC q2;simp only [Bu] at q2
   have vw:x.ai=vv:=by
    have h2:(nc.map (·.ai))[j']? = some vv:=h2;rw [←ahA,qE,kJ,h3] at h2;simpa using h2
   refine⟨vw,?_⟩
   have kA:((cg o.rows ((pick st.g gs).getD [])).map (·.ai))[j']? = some iR[j'].1.ai:=by
    rw [hpg,show cg o.rows (gg.map (·.1))=ng from rfl,←X5];simp [hjn]
   by_cases qj:j'<gs.length
   ·obtain⟨y,r1,r2⟩:=Ep j' _ (bK qj)
    refine⟨gs[j'],iR[j'].1.ai,iR[j'].1,by simp [Outs.n2,fU qj,qj],kA,?_,rfl⟩;rw [Zn j' _ _ (bK qj) (bS.1 r2).1 (bK hjn),q2.2]
   ·refine⟨st.g.length+(j' - gs.length),iR[j'].1.ai,iR[j'].1,?_,kA,?_,rfl⟩
    ·simp only [Outs.n2]
     rw [lG om,ads om];simp
    ·rw [←akZ,acV j' _ om (bK hjn),q2.2]
  ·simp [Outs.n1,Outs.n2];omega
  ·simp [Outs.n1,Outs.n2];omega
  ·simp [Outs.n1,Outs.n2,jl]
 have hval:VT E w' Gn (o.val bs gs st ls) v:=PT.move AN o.res ls hv;have cX:(o.res.put (o.n2 bs gs st) ls).2=(o.res.put (o.n1 g0) ls).2:=PT.uv _ _ _ _;have anC:(o.hc bs gs st ls).length=o.boxes.length:=jL _ _ _ _
 have aiN:∀(r b:Nat) t y,o.boxes[r]? = some (some t)→G'.i[r]? = some b→(o.hc bs gs st ls)[r]? = some y→gq E w' Gn b y:=by
  intro r b t y h1 h2 h3;have hrl:r<o.boxes.length:=(bS.1 h1).1;have hx:r<(cu (o.n1 g0) o.boxes H0 (o.res.put (o.n1 g0) ls).2).length:=by rw [jL];exact hrl
  have hbx:=hB.box r b _ h2 (bK hx);unfold Outs.hc at h3;rw [cX] at h3;exact zR AN o.boxes H0 [] _ r h1 (bK hx) h3 hbx
 refine⟨Gn,⟨⟨hE.os.trans ev.os,hE.tape.trans ev.tape,hE.output.trans ev.output,kj ev.size hE.size,fun b hb hnf=>?_,ev.goes.trans Du,fun b oo hb hp=>?_,fun q b h1 h2=>?_,fun q x h b hq hbk=>?_⟩,hr.size,fun j d hj=>(hr.tmps j d hj).mono Du,hr.defers.mono Du,?_,fun r b hb hd=>?_,hr.pins,?_⟩,hval⟩
 ·refine (hE.old b (eF hb ev.size) (fun hf=>?_)).trans (ev.old b hb hnf)
  rcases hf with hf | hf
  ·have hbi:=Zo b hf
   obtain⟨q,hq,he⟩:=gZ hbi;have J5:G.i[q]? = some b:=by rw [←he];exact bK hq
   by_cases kR:q<G0.i.length
   ·have e1:=ev.goes.i q _ (bK kR)
    rw [J5] at e1;exact hnf (.inl (by rw [gC e1];exact ei kR))
   ·have:=ev.lH q b om J5;omega
  ·obtain⟨j,j',x,h,-,h2,h3⟩:=xL b hf
   rcases ev.cY j' x h b h2 h3 with q | ⟨x0,h0,q1,q2⟩
   ·omega
   ·exact hnf (.inr ⟨x0,h0,ek q1,q2⟩)
 ·rcases hE.jJ b oo (eF hb ev.size) hp with q | q
  ·exact ev.jJ b oo hb q
  ·obtain⟨j,j',x,h,-,h2,h3⟩:=xL b q
   rcases ev.cY j' x h b h2 h3 with q | ⟨x0,h0,q1,q2⟩
   ·omega
   ·exact .inr ⟨x0,h0,ek q1,q2⟩
 ·rcases aey q b h2 with h | ⟨-,-,h⟩
  ·exact ev.lH q b h1 h
  ·exact kj ev.size h
 ·rcases hgn q (x,h) hq with⟨-,h1⟩ | ⟨j,h1,h2⟩
  ·exact ev.cY q x h b h1 hbk
  ·obtain⟨ro,x',q1,q2,-,-⟩:=hent j _ h1
   rcases hblk j x' h b q2 hbk with q | ⟨j',x0,h0,q3,q4,q5⟩
   ·exact .inl (kj ev.size q)
   ·rcases h2 with⟨h2,-⟩ | ⟨h2,-⟩
    ·rw [h2] at q3;cases q3
     exact ev.cY q x0 h0 b q4 q5
    ·have:=(bS.1 q3).1;omega
 ·refine⟨?_,?_,fun q b y hq hy=>?_,fun b hb=>?_,?_,fun b oo hp=>?_,fun q x h hq=>?_,fun q q' x h x' h' b hq U6 sE iz=>?_,kE Du hr.boxes.sU⟩
  ·show (G.i++G'.i.drop bs.length).length=(ga (kS o.boxes bs (o.hc bs gs st ls)) st.H++(o.hc bs gs st ls).drop bs.length).length
   simp only [eW,xw,dM,anC,ak1,hlen]
  ·show (ga (gs.zip iR) G.g++iR.drop gs.length).map (·.1)=ga (gs.zip (cg o.rows ((pick st.g gs).getD []))) st.g++(cg o.rows ((pick st.g gs).getD [])).drop gs.length
   rw [hpg,zH,List.map_drop,X5];congr 1
   have key:∀(l:List Nat) (m:List (aZ × Value)) (g:List (aZ × Value)),(ga (l.zip m) g).map (·.1)=ga (l.zip (m.map (·.1))) (g.map (·.1)):=by
    intro l
    induction l with
    | nil=>intro m g;rfl
    | cons i l ih =>
     intro m g
     cases m with
     | nil=>rfl
     | cons y m =>
      simp only [O1,eV,ga];rw [ih,OY]
   rw [key,X5,M8]
  ·have hy:(ga (kS o.boxes bs (o.hc bs gs st ls)) st.H++(o.hc bs gs st ls).drop bs.length)[q]? = some y:=hy
   rcases aey q b hq with h | ⟨h1,h2,h3⟩
   ·have kR:q<st.H.length:=by rw [←hlen];exact (bS.1 h).1
    rw [fU (by rw [dM];exact kR)] at hy;by_cases hm:q∈bs
    ·obtain⟨r,hrl,rfl⟩:=gZ hm
     obtain⟨b',q1,q2⟩:=hig r _ (bK hrl);rw [h] at q2;cases q2
     cases Zp:o.boxes[r]? with
     | none=>rw [air] at Zp;omega
     | some ob =>
      cases ob with
      | some t =>
       have hrc:r<(o.hc bs gs st ls).length:=om;rw [Dt _ _ _ _ (BP Vp) (GK r Zp (bK hrl) (bK hrc)) kR] at hy;cases hy
       exact aiN r b t _ Zp (aiM r b q1) (bK hrc)
      | none =>
       rw [oQ _ _ _ (fun Zm=>by
        obtain⟨p,hp,he⟩:=p8.1 Zm;obtain⟨i,x⟩:=p;obtain⟨r',t',e1,e2,-⟩:=vB hp;have YR:=bS.1 e2;have:r'=r:=(ND Vp).1 (YR.2.trans he);subst this;rw [Zp] at e1;cases e1)] at hy
       refine (hr.boxes.box _ b y h hy).mono Du (BQ r b q1 (fun hc=>?_));rw [←fC r] at hc;obtain⟨t,ht⟩:=LN hc;rw [Zp] at ht;cases ht
    ·rw [oQ _ _ _ (fun Zm=>by
      obtain⟨p,hp,he⟩:=p8.1 Zm;obtain⟨i,x⟩:=p;obtain⟨r',t',-,e2,-⟩:=vB hp;exact hm (by rw [←show i=q from he];exact ek e2))] at hy
     exact (hr.boxes.box q b y h hy).mono Du (hsame q b h hm)
   ·rw [lG (by rw [dM,←hlen];omega),dM,sQ,←hlen] at hy
    have hrl:bs.length+(q - G.i.length)<o.boxes.length:=by rw [←ak1];exact (bS.1 h2).1
    obtain⟨t,ht⟩:=hsome _ (XK _ _) hrl;exact aiN _ b t y ht h2 hy
  ·rcases X6 b hb with h | ⟨h,-⟩
   ·exact eF (hr.boxes.lt b h) hE.size
   ·exact hB.lt b h
  ·show (G.i++G'.i.drop bs.length).Nodup
   refine List.nodup_append.2 ⟨hr.boxes.nodup,(List.drop_sublist _ _).nodup hB.nodup,fun x hx y hy e=>?_⟩;subst e;obtain⟨q,hq,he⟩:=gZ hy;have h1:(G'.i.drop bs.length)[q]? = some x:=by rw [←he];exact bK hq
   rw [sQ] at h1;have:=hE.lH _ x (by show is.length≤_;omega) h1;have:=hr.boxes.lt x hx;omega
  ·refine⟨(hB.dH b oo hp).1,fun hm=>?_⟩
   rcases X6 b hm with h | ⟨h,-⟩
   ·rcases hE.jJ b oo (hr.boxes.lt b h) hp with q | q
    ·exact (hr.boxes.dH b oo q).2 h
    ·obtain⟨j,j',x,hh,-,h2,h3⟩:=xL b q
     exact (Fy j' x hh b h2 h3).2 h
   ·exact (hB.dH b oo hp).2 h
  ·rcases hgn q (x,h) hq with⟨h0,h1⟩ | ⟨j,h1,h2⟩
   ·obtain⟨n,xs,g1,g2,g3⟩:=hr.boxes.grow q x h h1
    have hun:∀b,h.ownBlock=some b→w'.heap[b]? = w.heap[b]?:=fun b hbk=>by
     refine hE.old b (g3 b hbk).1 (fun hf=>?_);rcases hf with hf | hf
     ·exact (g3 b hbk).2.1 (Zo b hf)
     ·obtain⟨j,j',x',h',e1,e2,e3⟩:=xL b hf
      have:=hr.boxes.apart q j' x h x' h' b h1 e2 hbk e3;exact h0 (by rw [this];exact ek e1)
    refine⟨n,xs,⟨g1.1,?_⟩,g2,fun b hbk=>?_⟩
    ·rcases g1.2 with q2 | ⟨gb,cap,cur,q2,q3,q4,q5⟩
     ·exact .inl q2
     ·exact .inr ⟨gb,cap,cur,q2,q3,by rw [hun gb (by rw [q2];rfl)];exact q4,q5⟩
    ·obtain⟨k1,k2,k3⟩:=g3 b hbk
     refine⟨eF k1 hE.size,fun hm=>?_,fun oo ho hp=>?_⟩
     ·rcases X6 b hm with h' | ⟨-,h'⟩
      ·exact k2 h'
      ·omega
     ·rcases hE.jJ b oo k1 hp with q' | q'
      ·exact k3 oo ho q'
      ·obtain⟨j,j',x',h',e1,e2,e3⟩:=xL b q'
       have:=hr.boxes.apart q j' x h x' h' b h1 e2 hbk e3;exact h0 (by rw [this];exact ek e1)
   ·obtain⟨ro,x',q1,q2,q3,q4⟩:=hent j _ h1
    obtain⟨n,xs,g1,g2,g3⟩:=hB.grow j x' h q2
    have Zq:x.e=x'.e∧x.k=x'.k:=by
     have q4:x=rowAt ro (gg.map (·.1))[j]?:=q4;rw [q3,q4];by_cases qj:j<gg.length
     ·have e1:g0[j]? = some { gg[j].1 with ai:=0 }:=by simp [g0,au.fA,qj]
      have e2:(gg.map (·.1))[j]? = some gg[j].1:=by simp [qj]
      rw [e1,e2];cases ro<;>simp [rowAt]
     ·have e1:g0[j]? = none:=uX om
      have e2:(gg.map (·.1))[j]? = none:=uX bx;rw [e1,e2];exact⟨rfl,rfl⟩
    refine⟨n,xs,by rw [Zq.1,Zq.2];exact g1,fun a m h=>by rw [Zq.1];exact g2 a m h,fun b hbk=>?_⟩;obtain⟨k1,k2,k3⟩:=g3 b hbk;refine⟨k1,fun hm=>?_,by rw [Zq.2];exact k3⟩;rcases X6 b hm with h' | ⟨h',-⟩
    ·rcases hblk j x' h b q2 hbk with q' | ⟨j',x0,h0,q5,q6,q7⟩
     ·have:=hr.boxes.lt b h';omega
     ·exact (Fy j' x0 h0 b q6 q7).2 h'
    ·exact k2 h'
  ·rcases hgn q (x,h) hq with⟨n0,h1⟩ | ⟨j,h1,h2⟩<;>rcases hgn q' (x',h') U6 with⟨n0',h1'⟩ | ⟨j',h1',P0⟩
   ·exact hr.boxes.apart q q' x h x' h' b h1 h1' sE iz
   ·exfalso
    obtain⟨ro,y,e1,e2,-,-⟩:=hent j' _ h1';rcases hblk j' y h' b e2 iz with q5 | ⟨j2,x0,h0,q5,q6,q7⟩
    ·have:=(Fy q x h b h1 sE).1;omega
    ·have:=hr.boxes.apart q j2 x h x0 h0 b h1 q6 sE q7
     exact n0 (by rw [this];exact ek q5)
   ·exfalso
    obtain⟨ro,y,e1,e2,-,-⟩:=hent j _ h1;rcases hblk j y h b e2 sE with q5 | ⟨j2,x0,h0,q5,q6,q7⟩
    ·have:=(Fy q' x' h' b h1' iz).1;omega
    ·have:=hr.boxes.apart q' j2 x' h' x0 h0 b h1' q6 iz q7
     exact n0' (by rw [this];exact ek q5)
   ·obtain⟨ro,y,e1,e2,-,-⟩:=hent j _ h1
    obtain⟨ro',y',YQ,YR,-,-⟩:=hent j' _ h1';have:=hB.apart j j' y h y' h' b e2 YR sE iz;subst this;rcases h2 with⟨h2,-⟩ | ⟨h2,h3⟩<;>rcases P0 with⟨P0,-⟩ | ⟨P0,h3'⟩
    ·rw [h2] at P0;exact gC P0
    ·have:=(bS.1 h2).1;omega
    ·have:=(bS.1 P0).1;omega
    ·omega
 ·have hd:r∉(kS o.boxes bs (o.hc bs gs st ls)).map (·.1)++st.d:=hd
  rw [gz,not_or] at hd;have hgi:=ev.goes.i r b hb;refine Eq.trans ?_ (hr.fix r b hb hd.2);by_cases hm:r∈bs
  ·obtain⟨q,kR,rfl⟩:=gZ hm
   obtain⟨b',q1,q2⟩:=hig q _ (bK kR);rw [hgi] at q2;cases q2;refine BQ q b q1 (fun hc=>hd.1 ?_);rw [←fC q] at hc;obtain⟨t,ht⟩:=LN hc;have hrc:q<(o.hc bs gs st ls).length:=om;exact p8.2 ⟨_,GK q ht (bK kR) (bK hrc),rfl⟩
  ·exact hsame r b hgi hm
 ·intro i c0 hm
  have hm:(i,c0)∈jk (fun q=>(o.n2 bs gs st).g[q]?) o.soft (kF o.boxes (o.res.put (o.n2 bs gs st) ls).2)++Fx gs st.c:=hm;rcases gz.1 hm with hm | hm
  ·rw [cX] at hm
   obtain⟨q,e1,e2⟩:=vD hm;obtain⟨x',hd,h1,h2⟩:=hS q c0 e2;have kR:q<o.rows.length:=by rw [←aex];exact (bS.1 h1).1
   have hqn:q<iR.length:=om;obtain⟨ro,x1,q1,q2,q3,q4⟩:=hent q _ (bK hqn);rw [h1] at q2;have q2:=gC q2;simp only [Bu] at q2;obtain⟨q2a,q2b⟩:=q2
   have Zq:iR[q].1.e=x'.e∧iR[q].1.k=x'.k:=by
    rw [q2a,q3,q4];by_cases qj:q<gg.length
    ·have e1:g0[q]? = some { gg[q].1 with ai:=0 }:=by simp [g0,au.fA,qj]
     have e2:(gg.map (·.1))[q]? = some gg[q].1:=by simp [qj]
     rw [e1,e2];cases ro<;>simp [rowAt]
    ·have e1:g0[q]? = none:=uX om
     have e2:(gg.map (·.1))[q]? = none:=uX bx;rw [e1,e2];exact⟨rfl,rfl⟩
   refine⟨iR[q].1,hd,?_,h2.keep Zq.1 Zq.2 (fun _ _ h=>h) (fun _ _ _ _ h=>h) (fun b _=>⟨rfl,fun _ h=>h⟩)⟩;by_cases qj:q<gs.length
   ·obtain⟨y,r1,r2⟩:=Ep q _ (bK qj)
    have:i=gs[q]:=by
     simp only [Outs.n2] at e1;rw [fU qj,bK qj] at e1;exact (gC e1).symm
    rw [this,Zn q _ _ (bK qj) (bS.1 r2).1 (bK hqn),q2b]
   ·have:i=st.g.length+(q - gs.length):=by
     simp only [Outs.n2] at e1;rw [lG om,ads om] at e1;have:=gC e1;omega
    rw [this,←akZ,acV q _ om (bK hqn),q2b]
  ·obtain⟨hmc,hng⟩:=vC hm
   obtain⟨x,hd,h1,h2⟩:=hr.dI i c0 hmc;obtain⟨n,xs,g1,g2,g3⟩:=hr.boxes.grow i x hd h1
   have hun:∀b,hd.ownBlock=some b→¬ (G.fA is gg).zN b:=fun b hbk hf=>by
    rcases hf with hf | hf
    ·exact (g3 b hbk).2.1 (Zo b hf)
    ·obtain⟨j,j',x',h',e1,e2,e3⟩:=xL b hf
     have:=hr.boxes.apart i j' x hd x' h' b h1 e2 hbk e3;exact hng (by rw [this];exact ek e1)
   refine⟨x,hd,?_,h2.keep rfl rfl Du.pr Du.cells (fun b hbk=>⟨hE.old b (g3 b hbk).1 (hun b hbk),fun oo hp=>?_⟩)⟩
   ·exact acU i _ hng h1
   ·rcases hE.jJ b oo (g3 b hbk).1 hp with q' | q'
    ·exact q'
    ·exact (hun b hbk (.inr q')).elim
end
end Go.RT
namespace Go.RT
variable {E : TEnv}
def mY (c:CT) (d:TV E) (st:TS E):TV E × TS E:=match c,d with
 | .dat _,.cw j ai=>match st.g[j]?,fL st.c j with
  | some g,some c=>cond (Nat.beq g.ai ai) (.dat (.aG c.1) c.2,{ st with c:=fF j st.c }) (.cw j ai,st)
  | _,_=>(.cw j ai,st)
 | .dat _,.jz j ai k lo n=>match st.g[j]?,fL st.c j with
  | some g,some c=>cond (Nat.beq g.ai ai&&Nat.beq k (c.1.size E)) (.dat (.aG c.1) ((c.2.drop lo).take n),{ st with c:=fF j st.c }) (.jz j ai k lo n,st)
  | _,_=>(.jz j ai k lo n,st)
 | _,d=>(d,st)
def yH:List CT→List (TV E)→TS E→List (TV E) × TS E
 | c::cs,d::ds,st=>((mY c d st).1::(yH cs ds (mY c d st).2).1,(yH cs ds (mY c d st).2).2)
 | _,ds,st=>(ds,st)
def AO (p:PT) (d:TV E) (st:TS E):TV E × TS E:=match p,d with
 | .one c,d=>mY c d st
 | .bW cs,.tuple ds=>(.tuple (yH cs ds st).1,(yH cs ds st).2)
 | _,d=>(d,st)
def qU:List PT→List (TV E)→TS E→List (TV E) × TS E
 | p::ps,d::ds,st=>((AO p d st).1::(qU ps ds (AO p d st).2).1,(qU ps ds (AO p d st).2).2)
 | _,ds,st=>(ds,st)
def kq (st st':TS E):Prop:=∃c',st'={ st with c:=c' }
theorem kq.refl (st:TS E):kq st st:=⟨st.c,rfl⟩
theorem kq.trans {s1 s2 s3:TS E} (h1:kq s1 s2) (h2:kq s2 s3):kq s1 s3:=by
 obtain⟨c1,rfl⟩:=h1;obtain⟨c2,rfl⟩:=h2;exact⟨c2,rfl⟩
section
variable {w0 w : World} {G0 G : au} {a : Act}
theorem N5 (c:CT) (d:TV E) {st:TS E} (hr:Rel E w0 G0 st a w G):kq st (mY c d st).2∧∃G',Rel E w0 G0 (mY c d st).2 a w G'∧ez w G w G'∧∀v,VT E w G d v→VT E w G' (mY c d st).1 v:=by
 have oR:kq st st∧∃G',Rel E w0 G0 st a w G'∧ez w G w G'∧∀v,VT E w G d v→VT E w G' d v:=⟨kq.refl st,G,hr,ez.refl w G,fun _ h=>h⟩;unfold mY;split
 ·rename_i t j ai
  split
  ·rename_i g c hg hc
   cases hb:Nat.beq g.ai ai
   ·exact oR
   ·obtain rfl:=bt hb
    obtain⟨G',hR,ou,h1,-⟩:=hr.PS hg hc;exact⟨⟨_,rfl⟩,G',hR,ou,h1⟩
  ·exact oR
 ·rename_i t j ai k lo n
  split
  ·rename_i g c hg hc
   cases hb:(Nat.beq g.ai ai&&Nat.beq k (c.1.size E))
   ·exact oR
   ·rw [aV] at hb
    obtain rfl:=bt hb.1;obtain rfl:=bt hb.2;obtain⟨G',hR,ou,-,h1⟩:=hr.PS hg hc;exact⟨⟨_,rfl⟩,G',hR,ou,fun v hv=>h1 v lo n hv⟩
  ·exact oR
 ·exact oR
theorem Zr:∀(cs:List CT) (ds:List (TV E)) {st:TS E} {G:au},Rel E w0 G0 st a w G→kq st (yH cs ds st).2∧∃G',Rel E w0 G0 (yH cs ds st).2 a w G'∧ez w G w G'∧∀vs,aP E w G ds vs→aP E w G' (yH cs ds st).1 vs
 | [],ds,st,G,hr=>by
  simp only [yH]
  exact⟨kq.refl st,G,hr,ez.refl w G,fun _ h=>h⟩
 | c::cs,[],st,G,hr=>by
  simp only [yH]
  exact⟨kq.refl st,G,hr,ez.refl w G,fun _ h=>h⟩
 | c::cs,d::ds,st,G,hr=>by
  obtain⟨o1,G1,cJ,g1,v1⟩:=N5 c d hr;obtain⟨o2,G2,hr2,g2,v2⟩:=Zr cs ds cJ;simp only [yH];refine⟨o1.trans o2,G2,hr2,g1.trans g2,fun vs hv=>?_⟩;obtain⟨u,us,rfl,h1,h2⟩:=hv.cons_inv;exact .cons ((v1 u h1).mono g2) (v2 us (h2.mono g1))
theorem Zs (p:PT) (d:TV E) {st:TS E} (hr:Rel E w0 G0 st a w G):kq st (AO p d st).2∧∃G',Rel E w0 G0 (AO p d st).2 a w G'∧ez w G w G'∧∀v,VT E w G d v→VT E w G' (AO p d st).1 v:=by
 unfold AO;split
 ·exact N5 _ _ hr
 ·rename_i cs ds
  obtain⟨o2,G2,hr2,g2,v2⟩:=Zr cs ds hr;refine⟨o2,G2,hr2,g2,fun v hv=>?_⟩;simp only [VT] at hv ⊢;obtain⟨vs,e,hv⟩:=hv;exact⟨vs,e,v2 _ hv⟩
 ·exact⟨kq.refl st,G,hr,ez.refl w G,fun _ h=>h⟩
theorem J6:∀(ps:List PT) (ds:List (TV E)) {st:TS E} {G:au},Rel E w0 G0 st a w G→kq st (qU ps ds st).2∧∃G',Rel E w0 G0 (qU ps ds st).2 a w G'∧ez w G w G'∧∀vs,aP E w G ds vs→aP E w G' (qU ps ds st).1 vs
 | [],ds,st,G,hr=>by
  simp only [qU]
  exact⟨kq.refl st,G,hr,ez.refl w G,fun _ h=>h⟩
 | c::cs,[],st,G,hr=>by
  simp only [qU]
  exact⟨kq.refl st,G,hr,ez.refl w G,fun _ h=>h⟩
 | c::cs,d::ds,st,G,hr=>by
  obtain⟨o1,G1,cJ,g1,v1⟩:=Zs c d hr;obtain⟨o2,G2,hr2,g2,v2⟩:=J6 cs ds cJ;simp only [qU];refine⟨o1.trans o2,G2,hr2,g1.trans g2,fun vs hv=>?_⟩;obtain⟨u,us,rfl,h1,h2⟩:=hv.cons_inv;exact .cons ((v1 u h1).mono g2) (v2 us (h2.mono g1))
theorem Rel.af3 {st:TS E} (h:Rel E w0 G0 st a w G) {i:Nat} (hi:st.t[i]? = some (.val (.slice none 0 0))) (e:TypeId) (T:Ty) (hT:0<T.size E) :
  ∃G',Rel E w0 G0 { st with t:=st.t.set i (.cw st.g.length 0),g:=st.g++[⟨0,e,T.size E⟩],c:=(st.g.length,⟨T,[]⟩)::st.c } a w G':=by
 have hN:=h.Fq e (T.size E);have hl:=h.kQ;have gv:(G.g++[((⟨0,e,T.size E⟩:aZ),Value.slice none 0 0)])[st.g.length]? = some (⟨0,e,T.size E⟩,.slice none 0 0):=by rw [←hl];simp
 have hC:=hN.SK (j:=st.g.length) (c:=⟨T,[]⟩) ⟨_,_,gv,rfl,hT,⟨[],⟨si,.inl ⟨rfl,rfl⟩⟩,Flat.nil⟩,fun b hb=>by cases hb⟩;refine⟨_,hC.cK,by simpa using hC.size,fun j d hj=>?_,hC.defers,hC.boxes,hC.fix,hC.pins,hC.dI⟩;simp only [NB] at hj;by_cases hij:i=j
 ·subst hij
  have hlt:i<st.t.length:=(bS.1 hi).1;simp [hlt] at hj;subst hj;have hv:=h.tmps i _ hi;simp only [VT] at hv;rw [hv];simp only [VT];exact⟨_,_,gv,bM _,rfl,fun _=>rfl⟩
 ·rw [if_neg hij] at hj
  exact hN.tmps j d hj
theorem Rel.aez {st:TS E} (h:Rel E w0 G0 st a w G) {r c:Nat} {t:TypeId} {cs:List (TV E)} (hr:st.H[r]? = some (.cells t cs)) (hc:cs[c]? = some (.val (.slice none 0 0))) (e:TypeId) (T:Ty) (hT:0<T.size E) :
  ∃G',Rel E w0 G0 { st with H:=st.H.set r (.cells t (cs.set c (.cw st.g.length 0))),g:=st.g++[⟨0,e,T.size E⟩],d:=r::st.d,c:=(st.g.length,⟨T,[]⟩)::st.c } a w G':=by
 have hN:=h.Fq e (T.size E);have hl:=h.kQ;have gv:(G.g++[((⟨0,e,T.size E⟩:aZ),Value.slice none 0 0)])[st.g.length]? = some (⟨0,e,T.size E⟩,.slice none 0 0):=by rw [←hl];simp
 have hC:=hN.SK (j:=st.g.length) (c:=⟨T,[]⟩) ⟨_,_,gv,rfl,hT,⟨[],⟨si,.inl ⟨rfl,rfl⟩⟩,Flat.nil⟩,fun b hb=>by cases hb⟩;have hlr:r<G.i.length:=by rw [h.boxes.len];exact (bS.1 hr).1
 have hat:G.i[r]? = some G.i[r]:=bK hlr;have hS:=hC.tA (w':=w) (r:=r) (b:=G.i[r]) hat rfl rfl rfl rfl (fun _ _=>rfl) (x:=.cells t (cs.set c (.cw st.g.length 0))) (fun _=>?_)
 ·exact⟨_,hS⟩
 ·obtain⟨vs,h1,h2,h3⟩:=hC.boxes.box r _ _ hat hr
  refine⟨vs,h1,h2,?_⟩;obtain⟨u,hu,hv⟩:=h3.get c hc;simp only [VT] at hv;subst hv
  have key:∀(G1:au) (cs:List (TV E)) (vs:List Value) (c:Nat) (d:TV E),aP E w G1 cs vs→vs[c]? = some (.slice none 0 0) →
    VT E w G1 d (.slice none 0 0)→aP E w G1 (cs.set c d) vs:=by
   intro G1 cs
   induction cs with
   | nil=>intro vs c d h1 h2 h3;exact h1
   | cons x cs ih =>
    intro vs c d h1 h2 h3;obtain⟨u,us,rfl,q1,q2⟩:=h1.cons_inv
    cases c with
    | zero=>simp at h2;subst h2;exact .cons h3 q2
    | succ c=>exact .cons q1 (ih us c d q2 (by simpa using h2) h3)
  refine key _ cs vs.toList c _ h3 hu ?_;simp only [VT];exact⟨_,_,gv,bM _,rfl,fun _=>rfl⟩
end
end Go.RT
namespace Go.RT
variable {E : TEnv}
structure Fr (W:List Nat) (nd:Bool) (st st':TS E):Prop where
 len:st'.t.length=st.t.length
 keep:∀i,i∉W→st'.t[i]? = st.t[i]?
 d:∃D,st'.d=D++st.d∧∀r,r<st.H.length→r∉D→st'.H[r]? = st.H[r]?
 hl:st.H.length≤st'.H.length
 df:nd=true→st'.df=st.df
theorem Fr.refl (W:List Nat) (nd:Bool) (st:TS E):Fr W nd st st:=⟨rfl,fun _ _=>rfl,⟨[],rfl,fun _ _ _=>rfl⟩,bM _,fun _=>rfl⟩
theorem Fr.trans {W1 W2 W:List Nat} {n1 n2 n:Bool} {s1 s2 s3:TS E} (h1:Fr W1 n1 s1 s2) (h2:Fr W2 n2 s2 s3) (hw1:∀i,i∈W1→i∈W) (HU:∀i,i∈W2→i∈W) (hn:n=true→n1=true∧n2=true):Fr W n s1 s3:=by
 obtain⟨D1,d1,e1⟩:=h1.d;obtain⟨D2,d2,e2⟩:=h2.d;refine⟨h2.len.trans h1.len,fun i hi=>(h2.keep i (fun h=>hi (HU i h))).trans (h1.keep i (fun h=>hi (hw1 i h))),⟨D2++D1,by rw [d2,d1,iu],fun r hr hd=>?_⟩,kj h1.hl h2.hl,fun h=>(h2.df (hn h).2).trans (h1.df (hn h).1)⟩;rw [gz,not_or] at hd;exact (e2 r (eF hr h1.hl) hd.1).trans (e1 r hr hd.2)
theorem Fr.wide {W W':List Nat} {n n':Bool} {s s':TS E} (h:Fr W n s s') (hw:∀i,i∈W→i∈W') (hn:n'=true→n=true):Fr W' n' s s' :=
 ⟨h.len,fun i hi=>h.keep i (fun hm=>hi (hw i hm)),h.d,h.hl,fun h'=>h.df (hn h')⟩
def eH:Option Nat→List Nat
 | some i=>[i]
 | none=>[]
theorem GL (l:List (TV E)) (dst:Option Nat) (d:TV E):(br l dst d).length=l.length:=by cases dst<;>simp [br]
theorem Dv (l:List (TV E)) (dst:Option Nat) (d:TV E) (i:Nat) (h:i∉eH dst):(br l dst d)[i]? = l[i]?:=by
 cases dst with
 | none=>rfl
 | some j =>
  simp only [eH,iw] at h;simp only [br];rw [iB (fun e=>h e.symm)]
theorem Fr.put (st:TS E) (dst:Option Nat) (d:TV E):Fr (eH dst) true st { st with t:=br st.t dst d } :=
 ⟨GL _ _ _,fun i hi=>Dv _ _ _ _ hi,⟨[],rfl,fun _ _ _=>rfl⟩,bM _,fun _=>rfl⟩
theorem Fr.ahB (st:TS E) (dst:Option Nat) (d:TV E) (H:List (cV E)) (g:List aZ) (D:List Nat) (c:List (Nat × Cn E)) (hH:∀r,r<st.H.length→r∉D→H[r]? = st.H[r]?) (hl:st.H.length≤H.length) :
  Fr (eH dst) true st { st with t:=br st.t dst d,H:=H,g:=g,d:=D++st.d,c:=c } :=
 ⟨GL _ _ _,fun i hi=>Dv _ _ _ _ hi,⟨D,rfl,hH⟩,hl,fun _=>rfl⟩
theorem Fr.mem (st:TS E) (dst:Option Nat) (d:TV E) (H:List (cV E)) (g:List aZ) (D:List Nat) (hH:∀r,r<st.H.length→r∉D→H[r]? = st.H[r]?) (hl:st.H.length≤H.length) :
  Fr (eH dst) true st { st with t:=br st.t dst d,H:=H,g:=g,d:=D++st.d } :=
 ⟨GL _ _ _,fun i hi=>Dv _ _ _ _ hi,⟨D,rfl,hH⟩,hl,fun _=>rfl⟩
theorem GM {α:Type} (l m:List α):∀r,r<l.length→r∉([]:List Nat)→(l++m)[r]? = l[r]?:=fun r hr _=>by rw [fU hr]
theorem xM {α:Type} (l:List α) (q:Nat) (x:α):∀r,r<l.length→r∉[q]→(l.set q x)[r]? = l[r]?:=fun r _ hd=>by
 rw [iB (fun e=>hd (by simp [e]))]
theorem ahC {P:Program} {ty:TypeId→Option Ty} {st st':TS E} {dst:Option Nat} {op:Op} {c:Bool} (h:PW P ty st dst op=some (c,st')):Fr (eH dst) true st st':=by
 cases op<;>simp only [PW] at h<;>try (cases h;done)
 case alloc t=>split at h<;>cases h;exact Fr.mem st dst _ _ st.g [] (GM _ _) si
 case box t x=>split at h<;>cases h;exact Fr.mem st dst _ _ st.g [] (GM _ _) si
 case store t x y =>
  split at h<;>try (cases h;done)
  split at h<;>cases h;exact Fr.mem st dst _ _ st.g [_] (xM _ _ _) si
 case buildSlice t len parts =>
  split at h<;>try (cases h;done)
  split at h<;>try (cases h;done)
  split at h<;>try (cases h;done)
  cases hl:Nat.beq len 0<;>rw [hl] at h<;>simp only [cond_true,cond_false] at h
  ·cases h
   exact Fr.mem st dst _ st.H _ [] (fun _ _ _=>rfl) (bM _)
  ·generalize E.zc _=z at h
   cases z<;>simp only [cond_true,cond_false] at h<;>cases h
   ·exact Fr.mem st dst _ st.H st.g [] (fun _ _ _=>rfl) (bM _)
   ·exact Fr.mem st dst _ st.H _ [] (fun _ _ _=>rfl) (bM _)
 case call c' =>
  unfold aeg at h;split at h<;>try (cases h;done)
  ·split at h<;>try (cases h;done)
   split at h<;>try (cases h;done)
   split at h<;>try (cases h;done)
   split at h<;>try (cases h;done)
   ·split at h<;>try (cases h;done)
    split at h<;>cases h;exact Fr.mem st dst _ st.H _ [] (fun _ _ _=>rfl) (bM _)
   ·cases h
    exact Fr.mem st dst _ st.H _ [] (fun _ _ _=>rfl) (bM _)
  ·split at h<;>try (cases h;done)
   split at h<;>cases h;exact Fr.mem st dst _ st.H _ [] (fun _ _ _=>rfl) (bM _)
  ·split at h<;>try (cases h;done)
   split at h<;>cases h;exact Fr.put _ _ _
 case convert src dt x =>
  split at h
  ·split at h<;>cases h;exact Fr.put _ _ _
  ·split at h<;>cases h;exact Fr.put _ _ _
 case makeMap t res =>
  cases res with
  | some x=>simp at h
  | none =>
   simp only at h;split at h<;>try (cases h;done)
   split at h<;>cases h;exact Fr.mem st dst _ _ st.g [] (GM _ _) si
 case mapUpdate t x y z =>
  split at h<;>try (cases h;done)
  split at h<;>try (cases h;done)
  split at h<;>cases h;exact Fr.mem st dst _ _ st.g [_] (xM _ _ _) si
 case lookup t x y ok =>
  split at h<;>try (cases h;done)
  split at h<;>try (cases h;done)
  split at h<;>cases h;exact Fr.put _ _ _
theorem Fr.c (st:TS E) (dst:Option Nat) (d:TV E) (g:List aZ) (c:List (Nat × Cn E)):Fr (eH dst) true st { st with t:=br st.t dst d,g:=g,c:=c } :=
 Fr.ahB st dst d st.H g [] c (fun _ _ _=>rfl) (bM _)
theorem ajv {P:Program} {ty:TypeId→Option Ty} {st st':TS E} {dst:Option Nat} {op:Op} {c:Bool} (h:xJ P ty st dst op=some (c,st')):Fr (eH dst) true st st':=by
 cases op<;>try (cases h;done)
 case load t x =>
  simp only [xJ] at h;split at h<;>try (cases h;done)
  split at h<;>try (cases h;done)
  split at h<;>cases h;exact Fr.put _ _ _
 case store t x y =>
  simp only [xJ] at h;split at h<;>try (cases h;done)
  split at h<;>try (cases h;done)
  split at h<;>try (cases h;done)
  split at h<;>cases h;exact Fr.c st dst _ st.g _
 case makeSlice t x y =>
  simp only [xJ] at h;split at h<;>try (cases h;done)
  split at h<;>try (cases h;done)
  split at h<;>cases h;exact Fr.c st dst _ _ _
 case slice t x lo hi mx =>
  cases lo with
  | some _=>cases h
  | none =>
  cases hi with
  | none=>cases h
  | some hi =>
  cases mx with
  | some _=>cases h
  | none =>
  simp only [xJ] at h;split at h<;>try (cases h;done)
  split at h<;>try (cases h;done)
  split at h<;>cases h;exact Fr.c st dst _ _ _
 case call cl =>
  simp only [xJ] at h;unfold aem at h;split at h<;>try (cases h;done)
  ·split at h<;>try (cases h;done)
   split at h<;>try (cases h;done)
   split at h<;>try (cases h;done)
   split at h<;>cases h;exact Fr.c st dst _ _ _
  ·split at h<;>try (cases h;done)
   split at h<;>try (cases h;done)
   split at h<;>try (cases h;done)
   split at h<;>cases h;exact Fr.c st dst _ st.g _
  ·split at h<;>try (cases h;done)
   split at h<;>try (cases h;done)
   split at h<;>try (cases h;done)
   split at h<;>cases h;exact Fr.c st dst _ st.g _
theorem ajw {P:Program} {ty:TypeId→Option Ty} {st st':TS E} {dst:Option Nat} {op:Op} {c:Bool} (h:Zb P ty st dst op=some (c,st')):Fr (eH dst) true st st':=by
 cases op<;>simp only [Zb] at h<;>try (cases h;done)
 case alloc t =>
  split at h<;>try (cases h;done)
  split at h<;>try (cases h;done)
  split at h<;>cases h;exact Fr.c st dst _ _ _
 case box t x =>
  split at h<;>cases h;exact Fr.c st dst _ _ _
 case load t x =>
  split at h<;>try (cases h;done)
  split at h<;>cases h;exact Fr.put _ _ _
 case convert src d x =>
  split at h<;>try (cases h;done)
  ·split at h<;>cases h
   exact Fr.c st dst _ st.g _
  ·split at h<;>cases h
   exact Fr.c st dst _ st.g _
theorem ajx {P:Program} {ty:TypeId→Option Ty} {st st':TS E} {dst:Option Nat} {op:Op} {c:Bool} (h:Y9 P ty st dst op=some (c,st')):Fr (eH dst) true st st':=by
 cases op<;>simp only [Y9] at h<;>try (cases h;done)
 cases hb:aei ty dst<;>rw [hb] at h<;>simp only [cond_true,cond_false] at h
 ·cases h
 split at h<;>try (cases h;done)
 split at h<;>try (cases h;done)
 split at h<;>try (cases h;done)
 cases h;exact Fr.ahB st dst _ st.H _ [] _ (fun _ _ _=>rfl) (bM _)
theorem ajy {P:Program} {ty:TypeId→Option Ty} {st st':TS E} {dst:Option Nat} {op:Op} {c:Bool} (h:Zd P ty st dst op=some (c,st')):Fr (eH dst) true st st':=by
 unfold Zd at h;split at h
 ·rename_i r hm
  cases h;exact ajx hm
 split at h
 rotate_left
 ·cases op<;>simp only [aes] at h<;>try (cases h;done)
  split at h<;>try (cases h;done)
  split at h<;>cases h;exact Fr.mem st dst _ _ st.g [_] (xM _ _ _) si
 rename_i r hm;cases h;rename_i h;revert hm;intro h;unfold aeq at h;split at h
 ·rename_i r hm
  cases h;exact ajw hm
 ·unfold X1 at h
  split at h
  ·rename_i r hm
   cases h;exact ahC hm
  ·exact ajv h
theorem Fr.ofC {W:List Nat} {n:Bool} {s s1 s':TS E} (hc:kq s s1) (h:Fr W n s1 s'):Fr W n s s':=by
 obtain⟨c,rfl⟩:=hc;exact⟨h.len,h.keep,h.d,h.hl,h.df⟩
structure Sl where
 b:List (Option Nat)
 g:List (Option Nat)
def Sl.N6 (s:Sl) (r r':Nat):Sl:={ s with b:=s.b.set r (some r') }
def Sl.aeA (s:Sl) (r r':Nat):Sl:={ s with g:=s.g.set r (some r') }
def Zt (s:Sl):List (Nat × Nat)→List (TV E)→Sl
 | (r,_)::cs,.ptr r' _::ds=>Zt (s.N6 r r') cs ds
 | _::cs,_::ds=>Zt s cs ds
 | _,_=>s
def CT.un (s:Sl):CT→TV E→Sl
 | .ptr r _,.ptr r' _=>s.N6 r r'
 | .vn r _ _,.vn r' _ _=>s.N6 r r'
 | .kN r _,.ptr r' _=>s.N6 r r'
 | .kN r _,.kN _ r' _=>s.N6 r r'
 | .eY r,.eY r'=>s.N6 r r'
 | .pL r,.pL r'=>s.N6 r r'
 | .bn j _,.bn j' _ _ _=>s.aeA j j'
 | .cw j,.cw j' _=>s.aeA j j'
 | .dK j _,.dK j' _ _ _ _=>s.aeA j j'
 | .jz j _,.jz j' _ _ _ _=>s.aeA j j'
 | .func _ caps,.func _ cs=>Zt s caps cs
 | _,_=>s
def CT.unL (s:Sl):List CT→List (TV E)→Sl
 | c::cs,ds=>match c.pk? with
  | some t=>CT.unL s cs (ds.drop (t.size E))
  | none=>match ds with
   | d::ds=>CT.unL (c.un s d) cs ds
   | []=>s
 | _,_=>s
def PT.un (s:Sl):PT→TV E→Sl
 | .one c,d=>c.un s d
 | .agg cs,.agg ds=>CT.unL s cs ds
 | .bW cs,.tuple ds=>CT.unL s cs ds
 | _,_=>s
def aiO (s:Sl):List PT→List (TV E)→Sl
 | p::ps,d::ds=>aiO (p.un s d) ps ds
 | _,_=>s
def aiP (H:List (cV E)):Nat→List BT→Sl→Sl
 | _,[],s=>s
 | r,t::ts,s=>aiP H (r+1) ts (match t,(s.b[r]?.getD none).bind (H[·]?) with
  | .cells _ cs,some (.cells _ ds)=>CT.unL s cs ds
  | .loop _ cs,some (.loop _ ds)=>CT.unL s cs ds
  | _,_=>s)
def lR:List (Option Nat)→List Nat
 | []=>[]
 | some x::xs=>x::lR xs
 | none::xs=>lR xs
def bL.fA (s:bL) (st:TS E) (ds:List (TV E)):Sl :=
 aiP st.H 0 s.boxes (aiO ⟨s.boxes.map fun _=>none,s.rows.map fun _=>none⟩ s.args ds)
def sm {α β γ:Type} (f:α→γ) (g:β→γ):α ⊕ β→γ
 | .inl x=>f x
 | .inr y=>g y
def okK {R:Type} (o:Outs) (bs gs:List Nat) (st:TS E) (dst:Option Nat) (k:Ex E→TS E→Option R) (y:dens E o.tys):Option R :=
 k .normal { o.after bs gs st (az o.tys y) with t:=br st.t dst (o.val bs gs st (az o.tys y)) }
def anD {R:Type} (o:Outs) (bs gs:List Nat) (st:TS E) (k:Ex E→TS E→Option R) (y:dens E o.tys):Option R :=
 k (.panic (o.val bs gs st (az o.tys y))) (o.after bs gs st (az o.tys y))
def Zu {R:Type} (s:bL) (bs gs:List Nat) (st:TS E) (dst:Option Nat) (k:Ex E→TS E→Option R):(p:Option Outs)→OutP E s.out p→Option R
 | none=>okK s.out bs gs st dst k
 | some q=>sm (okK s.out bs gs st dst k) (anD q bs gs st k)
def Outs.wf (o:Outs) (nb ng:Nat):Bool:=ux nb o.boxes&&Nat.ble ng o.rows.length
def bL.wf (s:bL) (nb ng:Nat):Bool:=s.out.wf nb ng&&(match s.gw with | none=>true | some q=>q.wf nb ng)
def lZ {R:Type} (st:TS E) (dst:Option Nat) (f:FuncId) (ds:List (TV E)) (k:Ex E→TS E→Option R):List (an E)→Option R
 | []=>none
 | C::Γ=>cond (Nat.beq C.s.f f)
   (match qU C.s.args ds st with
    | (ds',st')=>match C.s.enter (lR (C.s.fA st' ds').b) (lR (C.s.fA st' ds').g) st' ds' with
     | some ls=>match getAll C.s.tys ls with
      | some x=>rq (C.s.wf (lR (C.s.fA st' ds').b).length (lR (C.s.fA st' ds').g).length) ((C.m x).bind (Zu C.s (lR (C.s.fA st' ds').b) (lR (C.s.fA st' ds').g) st' dst k C.s.gw))
      | none=>lZ st dst f ds k Γ
     | none=>lZ st dst f ds k Γ)
   (lZ st dst f ds k Γ)
def vE (P:Program) (o:Oper) (W:List Nat) (nd:Bool) (st:TS E) (Q:Ex E→TS E→Prop):Prop :=
 ∀w0 G0 a w G,Rel E w0 G0 st a w G→o.wp P a w (fun a' w'=>∃st' G',Rel E w0 G0 st' a' w' G'∧Q .normal st'∧Fr W nd st st') (bD E w0 G0 fun x st'=>x≠.normal∧Q x st'∧Fr W nd st st')
section
variable {P : Program} {st : TS E} {o : Oper} {Q : Ex E → TS E → Prop}
theorem vE.xN {W:List Nat} {nd:Bool} {st':TS E} (h:∀w0 G0 a w G,Rel E w0 G0 st a w G→fu P w0 G0 a w o st') (hQ:Q .normal st') (hF:Fr W nd st st'):vE P o W nd st Q:=by
 intro w0 G0 a w G hr;obtain⟨nx,v,w',G',hrun,hnx,hr'⟩:=h w0 G0 a w G hr;unfold Oper.wp;rw [hrun];rcases hnx with rfl | ⟨rfl,rfl⟩
 ·exact⟨st',G',hr',hQ,hF⟩
 ·exact⟨st',G',hr',hQ,hF⟩
theorem aeB {a:Act} {w:World} {next:Act→World→Prop} {QQ:Exit→Act→World→Prop} {f:FuncId} {args:Array Value} {R:Ending→World→Prop} (hrun:(execOp a.eval o).run P w=(callFunc f args).run P w) (h:gE P f args w R)
  (h1:∀v w',R (.returned v) w'→next (a.put o.dst v) w') (h2:∀ch w',R (.panicked ch) w'→QQ (.panic ch) a w') (h3:∀w',¬ R .outgrown w'):o.wp P a w next QQ:=by
 unfold Oper.wp;rw [hrun];unfold gE at h;split at h
 ·rename_i f' args' w' hr
  rw [hr];refine Calls.mono h fun e w'' he=>?_
  cases e with
  | returned v=>exact h1 v w'' he
  | panicked ch=>exact h2 ch w'' he
  | outgrown=>exact (h3 w'' he).elim
 ·rename_i v w' hr
  rw [hr];exact h1 v w' h
 ·exact h.elim
theorem J7 {w0 w:World} {G0 G:au} {a:Act} (hr:Rel E w0 G0 st a w G):∀l:List Operand,aP E w G (l.map st.ev) (l.map a.eval)
 | []=>.nil
 | x::l=>.cons (hr.ev x) (J7 hr l)
theorem Outs.N7 (ot:Outs) (bs gs:List Nat) (st:TS E) (ls:List (Lf E)) (dst:Option Nat) (d:TV E):Fr (eH dst) true st { ot.after bs gs st ls with t:=br st.t dst d } :=
 Fr.ahB st dst d _ _ _ _ (fun r hr hd=>by
  show (ga (kS ot.boxes bs (ot.hc bs gs st ls)) st.H++(ot.hc bs gs st ls).drop bs.length)[r]? = _;rw [fU (by rw [dM];exact hr),oQ _ _ _ hd]) (by
  show _≤(ga (kS ot.boxes bs (ot.hc bs gs st ls)) st.H++(ot.hc bs gs st ls).drop bs.length).length;simp [dM])
theorem kK.cK {w0 w:World} {G0 G:au} (h:kK E w0 G0) (hE:gU w0 G0 w G):kK E w G:=by
 intro b ob hb;obtain⟨⟨cs,t,m,h1,hp⟩,h2⟩:=h b ob hb;have hlt:b<w0.heap.size:=(lF.1 h1).1;refine⟨⟨cs,t,m,(hE.old b hlt h2).trans h1,hp⟩,fun hf=>h2 ?_⟩;rcases hf with hf | ⟨x,hd,hm,hbk⟩
 ·obtain⟨q,hq,he⟩:=gZ hf
  have J5:G.i[q]? = some b:=by rw [←he];exact bK hq
  by_cases kR:q<G0.i.length
  ·have e1:=hE.goes.i q _ (bK kR)
   rw [J5] at e1;exact .inl (by rw [gC e1];exact ei kR)
  ·have:=hE.lH q b om J5;omega
 ·obtain⟨j,hj,he⟩:=gZ hm
  rcases hE.cY j x hd b (by rw [←he];exact bK hj) hbk with q | ⟨x0,h0,q1,q2⟩
  ·omega
  ·exact .inr ⟨x0,h0,ek q1,q2⟩
theorem Rel.P9 {w0 w:World} {G0 G:au} {a:Act} (h:Rel E w0 G0 st a w G):kK E w G:=h.pins.cK h.cK
theorem Zv {α:Type} {l r:List α} {is:List Nat} (h:pick l is=some r) {x:α} (hx:x∈r):x∈l:=by
 obtain⟨j,hj,he⟩:=gZ hx;obtain⟨hl,hg⟩:=mH h;have hj':j<is.length:=om;obtain⟨y,h1,h2⟩:=hg j is[j] (bK hj');rw [bK hj,he] at h1;cases h1;exact ek h2
theorem kK.fA {w:World} {G:au} {bs gs is:List Nat} {gg:List (aZ × Value)} (h:kK E w G) (hi:pick G.i bs=some is) (hg:pick G.g gs=some gg):kK E w (G.fA is gg):=fun b ob hb=>by
 obtain⟨h1,h2⟩:=h b ob hb;refine⟨h1,fun hf=>h2 ?_⟩;rcases hf with hf | ⟨x,hd,hm,hbk⟩
 ·exact .inl (Zv hi hf)
 ·obtain⟨y,hy,e⟩:=p8.1 hm
  cases e;exact .inr ⟨y.1,y.2,Zv hg hy,hbk⟩
theorem J8 (hE:E.Ok) {R:Type} {f:FuncId} {ds:List (TV E)}
  (Qa:∀w0 G0 a w G,Rel E w0 G0 st a w G→∃vs:Array Value,aP E w G ds vs.toList∧(execOp a.eval o).run P w=(callFunc f vs).run P w) {k:Ex E→TS E→Option R} {r:R} :
  ∀ {Γ:List (an E)},(∀C∈Γ,C.Ok P)→lZ st o.dst f ds k Γ=some r→vE P o (eH o.dst) true st (fun x st'=>k x st'=some r)
 | [],_,h=>by cases h
 | C::Γ,hΓ,h=>by
  have cX:lZ st o.dst f ds k Γ=some r→vE P o (eH o.dst) true st (fun x st'=>k x st'=some r):=J8 hE Qa (fun C' hC=>hΓ C' (by simp [hC]));simp only [lZ] at h;cases hf:Nat.beq C.s.f f<;>rw [hf] at h<;>simp only [cond_true,cond_false] at h
  ·exact cX h
  have hf:=bt hf;obtain⟨Qb,fM,hhs⟩:∃Qb fM,qU C.s.args ds st=(Qb,fM):=⟨_,_,rfl⟩;rw [hhs] at h;dsimp only at h;split at h
  ·rename_i ls hls
   split at h
   ·rename_i xx hxx
    generalize nI:lR (C.s.fA fM Qb).b=bs at *;generalize M8:lR (C.s.fA fM Qb).g=gs at *;obtain⟨hwf,h⟩:=b9 h
    cases hm:C.m xx with
    | none=>rw [hm] at h;cases h
    | some y =>
     rw [hm] at h;dsimp only [Option.bind] at h;intro w0 G0 a w G0' hr;obtain⟨vs0,J9,Qc⟩:=Qa w0 G0 a w G0' hr;obtain⟨LO,G,cJ,ou,hvs⟩:=J6 C.s.args ds hr;have hargs:=hvs _ J9;rw [hhs] at cJ hargs LO;clear hr;have hr:=cJ
     have hnd:bs.Nodup∧gs.Nodup∧bs.length=C.s.boxes.length∧C.s.rows.length=gs.length:=by
      unfold bL.enter at hls;split at hls<;>try (cases hls;done)
      rename_i H g hH hg;cases fJ:(qS bs&&(qS gs&&(Nat.beq bs.length C.s.boxes.length&&uw C.s.rows g)))<;>rw [fJ] at hls<;>simp only [cond_true,cond_false] at hls
      ·cases hls
      simp only [aV] at fJ;exact⟨qT fJ.1,qT fJ.2.1,bt fJ.2.2.1,by rw [(yF fJ.2.2.2).1,(mH hg).1]⟩
     obtain⟨is,gg,hi,pM,hB,hS,hV⟩:=hr.enter hE hls hargs;have hput:=y9 _ hxx;have hok:=hΓ C si xx y hm w (G.fA is gg) vs0 (hr.P9.fA hi pM) (by rw [hput];exact hB) (by rw [hput];exact hS) (by rw [hput];exact hV);rw [hf] at hok;have hrun:=Qc;have hg0:(G.fA is gg).g.map (·.1)=C.s.g0:=hB.gs
     have hwf':∀(q:Outs),q.wf bs.length gs.length=true→ux bs.length q.boxes=true∧gs.length≤q.rows.length:=fun q hq=>by
      unfold Outs.wf at hq;rw [aV] at hq;exact⟨hq.1,ef hq.2⟩
     unfold bL.wf at hwf;rw [aV] at hwf
     have Ka:∀(y:dens E C.s.out.tys) (v:Value) (w':World),okK C.s.out bs gs fM o.dst k y=some r →
       (∃v1 G',Ending.returned v=ql (C.s.out.eZ true (C.s.H (az C.s.tys xx)) C.s.g0 (az C.s.out.tys y)).ok v1∧gU w (G.fA is gg) w' G'∧iq E w' G' (C.s.out.eZ true (C.s.H (az C.s.tys xx)) C.s.g0 (az C.s.out.tys y)).H (C.s.out.eZ true (C.s.H (az C.s.tys xx)) C.s.g0 (az C.s.out.tys y)).g∧gD E w' G' (C.s.out.eZ true (C.s.H (az C.s.tys xx)) C.s.g0 (az C.s.out.tys y)).c ∧
        VT E w' G' (C.s.out.eZ true (C.s.H (az C.s.tys xx)) C.s.g0 (az C.s.out.tys y)).d v1∧∀(q b:Nat),(G.fA is gg).i[q]? = some b→q∉(C.s.out.eZ true (C.s.H (az C.s.tys xx)) C.s.g0 (az C.s.out.tys y)).D→w'.heap[b]? = w.heap[b]?) →
       ∃st' G',Rel E w0 G0 st' (a.put o.dst v) w' G'∧k .normal st'=some r∧Fr (eH o.dst) true st st':=by
      rintro y v w' hk ⟨v1,G',he,hE,Kb,Kc,Ke,BQ⟩;simp only [Outs.eZ,ql,cond_true,Ending.returned.injEq] at he;subst he;obtain⟨hs1,hs2⟩:=hwf' _ hwf.1;simp only [Outs.eZ] at Kb Kc Ke BQ;rw [←hg0] at Kb Kc Ke;obtain⟨Gn,hR,hval⟩:=hr.leave hi pM hnd.1 hnd.2.1 C.s.out hs1 hs2 hE Kb Kc Ke BQ;exact⟨_,Gn,hR.put hval o.dst,hk,(C.s.out.N7 bs gs fM _ o.dst _).ofC LO⟩
     have fin:∀(p:Option Outs) (hp:C.s.gw=p) (y:OutP E C.s.out p),Zu C.s bs gs fM o.dst k p y=some r→gE P f vs0 w (fun e w' =>
       ∃v G',e=ql (fG C.s (C.s.H (az C.s.tys xx)) p y).ok v∧gU w (G.fA is gg) w' G'∧iq E w' G' (fG C.s (C.s.H (az C.s.tys xx)) p y).H (fG C.s (C.s.H (az C.s.tys xx)) p y).g∧gD E w' G' (fG C.s (C.s.H (az C.s.tys xx)) p y).c ∧
        VT E w' G' (fG C.s (C.s.H (az C.s.tys xx)) p y).d v∧∀(q b:Nat),(G.fA is gg).i[q]? = some b→q∉(fG C.s (C.s.H (az C.s.tys xx)) p y).D→w'.heap[b]? = w.heap[b]?) →
       o.wp P a w (fun a' w'=>∃st' G',Rel E w0 G0 st' a' w' G'∧k .normal st'=some r∧Fr (eH o.dst) true st st') (bD E w0 G0 fun x st'=>x≠.normal∧k x st'=some r∧Fr (eH o.dst) true st st'):=by
      intro p hp y hk hI;refine aeB hrun hI (fun v w' hR=>?_) (fun ch w' hR=>?_) (fun w' hR=>?_)
      ·cases p with
       | none=>exact Ka y v w' hk hR
       | some q =>
        cases y with
        | inl y=>exact Ka y v w' hk hR
        | inr y =>
         obtain⟨v1,G',he,-⟩:=hR;simp only [fG,Outs.eZ,ql,cond_false] at he;cases he
      ·cases p with
       | none =>
        obtain⟨v1,G',he,-⟩:=hR;simp only [fG,Outs.eZ,ql,cond_true] at he
        cases he
       | some q =>
        cases y with
        | inl y =>
         obtain⟨v1,G',he,-⟩:=hR;simp only [fG,Outs.eZ,ql,cond_true] at he
         cases he
        | inr y =>
         obtain⟨v1,G',he,hE,Kb,Kc,Ke,BQ⟩:=hR;simp only [fG,Outs.eZ,ql,cond_false,Ending.panicked.injEq] at he;subst he;have hq:q.wf bs.length gs.length=true:=by have:=hwf.2;rw [hp] at this;exact this
         obtain⟨hs1,hs2⟩:=hwf' _ hq;simp only [fG,Outs.eZ] at Kb Kc Ke BQ;rw [←hg0] at Kb Kc Ke;obtain⟨Gn,hR,hval⟩:=hr.leave hi pM hnd.1 hnd.2.1 q hs1 hs2 hE Kb Kc Ke BQ;exact⟨.panic (q.val bs gs fM (az q.tys y)),_,Gn,⟨v1,rfl,hval⟩,hR,(fun h=>nomatch h),hk,((q.N7 bs gs fM _ none .any).wide (fun i hi=>by cases hi) (fun h=>h)).ofC LO⟩
      ·obtain⟨v1,G',he,-⟩:=hR
       unfold ql at he;cases hb:(fG C.s (C.s.H (az C.s.tys xx)) p y).ok<;>rw [hb] at he<;>cases he
     exact fin C.s.gw rfl y h hok
   ·exact cX h
  ·exact cX h
theorem abO (hE:E.Ok) {R:Type} {c:Call} {x:Operand} {f:FuncId} {caps:List (TV E)} (ho:o.op=.call c) (hc:c.callee=.value x) (hx:st.ev x=.func (.func f) caps) {k:Ex E→TS E→Option R} {r:R}
  {Γ:List (an E)} (hΓ:∀C∈Γ,C.Ok P) (h:lZ st o.dst f (c.args.toList.map st.ev++caps) k Γ=some r):vE P o (eH o.dst) true st (fun x st'=>k x st'=some r):=by
 refine J8 hE (fun w0 G0 a w G hr=>?_) hΓ h;have hv:=hr.ev x;rw [hx] at hv;simp only [VT] at hv;obtain⟨cv,BL,LP⟩:=hv;refine⟨c.args.map a.eval++cv,?_,?_⟩
 ·have:=(J7 hr c.args.toList).append LP
  simpa using this
 ·simp only [execOp,ho,resolve,hc,BL,Deferred.ofValue,Sem.run_bind,Sem.run_pure,Result.andThen_ok,invoke]
  simp
theorem abP (hE:E.Ok) {R:Type} {c:Call} {x:Operand} {f:FuncId} {fs:List (TV E)} (ho:o.op=.call c) (hc:c.callee=.value x) (hx:st.ev x=.BF (.func f) fs) {k:Ex E→TS E→Option R} {r:R}
  {Γ:List (an E)} (hΓ:∀C∈Γ,C.Ok P) (h:lZ st o.dst f (fs++c.args.toList.map st.ev) k Γ=some r):vE P o (eH o.dst) true st (fun x st'=>k x st'=some r):=by
 refine J8 hE (fun w0 G0 a w G hr=>?_) hΓ h;have hv:=hr.ev x;rw [hx] at hv;simp only [VT] at hv;obtain⟨cv,BL,LP⟩:=hv;refine⟨cv++c.args.map a.eval,?_,?_⟩
 ·have:=LP.append (J7 hr c.args.toList)
  simpa using this
 ·simp only [execOp,ho,resolve,hc,BL,Deferred.ofValue,Sem.run_bind,Sem.run_pure,Result.andThen_ok,invoke]
  simp
end
end Go.RT
