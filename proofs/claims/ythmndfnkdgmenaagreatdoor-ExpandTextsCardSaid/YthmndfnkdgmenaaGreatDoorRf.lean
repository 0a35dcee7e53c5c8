import Derived.Test.YthmndfnkdgmenaaGreatDoorRd
set_option linter.all false
namespace Go.RT
variable {E : TEnv}
section
variable {P : aE} {w0 w w' : U} {G0 G G' : aJ} {st : TS E} {a : Act} {o : Oper}
theorem HG(hE:E.Ok)(hr:Rel E w0 G0 st a w G){t:aD}{x:bx}{i:TI}(ho:o.op=.load t x)(ht:aU P t=some i){j k ix off:Nat}{g:bQ}{c:Cn E}(hd:st.ev x=.gY j g.aF k ix off)
  (hg:st.g[j]? = some g) (hc:nO st.c j=some c) (hk:k=c.1.size E) {d:TV E} (hp:TV.part c.1 (c.2.getD ix (c.1.dflt E)) i.isAgg i.size off=some d):jb P a w G o d:=by
 have hv:=hr.ev x;rw [hd] at hv;obtain⟨b,m,cap,hj,hlt,kY⟩:=hr.gY hg hv;obtain⟨h,hj',hs,-⟩:=hr.soft hg hc;rw [hj] at hj';cases hj';rcases hs.block with⟨h1,-⟩|⟨b',cap',cur,h1,hheap,hcap,hcm,hcs,hf,hnp⟩
 ·cases h1
 obtain⟨rfl,rfl,rfl⟩:=h1;obtain⟨vs,h2,h3,-,h4⟩:=Wb hs.1 hheap hf (by simp_all [yz]) hlt;obtain⟨v,hv,hrun⟩:=rJ ht h4 (Kw hE h2 hp);refine fK (f:=fun ρ=>Instr.loadAt t (ρ x)) (by simp [execOp,ho]) ⟨v,hv,fun w' hs'=>?_⟩;rw [kY,hk,<-hs.1];exact hrun w' (hs' (by rw [ho];rfl))
theorem Zn(A us C vals:J Value)(off:Nat)(h:off+vals.length<=us.length):
  ((A++us++C).take (A.length+off)++vals++(A++us++C).drop (A.length+off+vals.length))=A++(us.take off++vals++us.drop (off+vals.length))++C:=by
 have e1:(A++us++C).take (A.length+off)=A++us.take off:=by
  rw [FC,adr,Iw om,show A.length+off-A.length=off by omega,adr,show off-us.length=0 by omega];simp
 have e2:(A++us++C).drop (A.length+off+vals.length)=us.drop (off+vals.length)++C:=by
  rw [FC,ads,ac4 om,show A.length+off+vals.length-A.length=off+vals.length by omega,ads,show off+vals.length-us.length=0 by omega];simp
 simp_all
theorem abC(hE:E.Ok){T:Ty}{x:T.den E.D}{us:J Value}{cs:J (TV E)}(h:LD w G.pr us (T.cells E x))(hc:(TV.dat T x).nX=some cs):bD E w G cs us:=by
 simp [TV.nX] at hc;cases ha:T.isAgg<;>rw [ha] at hc<;>simp at hc
 ·cases hc
  have hl:us.length=1:=by
   rw [h.length];cases T<;>first|rfl|cases ha
  obtain⟨u,rfl⟩:=XF.1 hl;exact .cons (.OW ha h) .nil
 grind [xB]
theorem abD(hE:E.Ok)(hr:Rel E w0 G0 st a w G){t:aD}{x y:bx}{i:TI}(ho:o.op=.store t x y)(ht:aU P t=some i){j k ix off:Nat}{g:bQ}{c:Cn E}(hd:st.ev x=.gY j g.aF k ix off)
  (hg:st.g[j]? = some g) (hc:nO st.c j=some c) (hk:k=c.1.size E) {cs ds:J (TV E)} (hcs:(TV.dat c.1 (c.2.getD ix (c.1.dflt E))).nX=some cs) (hy:(st.ev y).nX=some ds) (h4:ds.length=i.size) (h5:off+i.size<=cs.length)
  {x':c.1.den E.D} (apv:M6 E 4 c.1 (cs.take off++ds++cs.drop (off+ds.length))=some (x',[])) :
  jA P w0 G0 a w o {st with t:=b9 st.t o.dst .any,c:=(j,⟨c.1,c.2.set ix x'⟩)::mN j st.c}:=by
 have hv:=hr.ev x;rw [hd] at hv;obtain⟨b,m,cap,hj,hlt,kY⟩:=hr.gY hg hv;obtain⟨h,hj',hs,-⟩:=hr.soft hg hc;rw [hj] at hj';cases hj';rcases hs.block with⟨h1,-⟩|⟨b',cap',cur,h1,hheap,hcap,hcm,aic,hf,hnp⟩
 ·cases h1
 obtain⟨rfl,rfl,rfl⟩:=h1;have hle:c.2.length*g.k<=cur.size:=by simp_all [yz]
 obtain⟨us,h2,h3,Qa,-⟩:=Wb hs.1 hheap hf hle hlt;obtain⟨hl,hl1⟩:=rI hE (hr.ev y) hy;have hlen:(a.eval y).cells.toList.length=i.size:=by rw [hl.length,h4]
 have hlen':(a.eval y).cells.size=i.size:=by simpa using hlen
 have FZ:=abC hE h2 hcs;have hcl:cs.length=g.k:=by rw [<-FZ.length,h3]
 obtain⟨xt,jB,-,hxs,-⟩:=aN ht
 have hik:ix*g.k+g.k<=c.2.length*g.k:=by
  have:(ix+1)*g.k<=c.2.length*g.k:=yz _ hlt
  grind
 have hfit:(ix*g.k+off)+0+(a.eval y).cells.toList.length<=cur.size:=by rw [hlen];omega
 have Sq:=run_storeCells_at (P:=P) b (ix*g.k+off) g.e (a.eval y).cells.toList 0 cur w hheap hfit (fun v hv=>hl1 v (by simpa using hv))
 let new:=(cur.toList.take (ix*g.k+off)++(a.eval y).cells.toList++cur.toList.drop (ix*g.k+off+(a.eval y).cells.toList.length)).toArray
 have hrun:(execOp a.eval o).run P w=.ok .skip (w.setRow b new):=by
  simp [execOp,ho,Instr.storeAt,Instr.sureAddr,kY,hk,<-hs.1,storeVar,eW jB,hxs,hlen'];simp only [ne_eq,Sq];rfl
 have apw:=((FZ.take off).append hl).append (FZ.drop (off+ds.length));obtain⟨us1,ts,e1,e2,e3⟩:=zI hE 4 c.1 apw apv;subst e3;have hu1:us1.length=g.k:=by grind
 have aqo:cur.toList=cur.toList.take (ix*g.k)++us++cur.toList.drop (ix*g.k+g.k):=by
  grind [List.take_append_drop,List.drop_drop,List.append_assoc]
 have aoi:new.toList=cur.toList.take (ix*g.k)++us1++cur.toList.drop (ix*g.k+us1.length):=by
  have:=Zn (cur.toList.take (ix*g.k)) us (cur.toList.drop (ix*g.k+g.k)) (a.eval y).cells.toList off (by rw [h3];omega)
  grind
 have apx:new.size=cur.size:=by
  grind
 have hfl:Flat w G.pr g.k (new.toList.take ((c.2.set ix x').length*g.k)) ((c.2.set ix x').map (c.1.cells E)):=by
  have h9:=hf.splice (Flat.single e2 hu1) (p:=ix) bE;rw [List.length_set,aoi,abz _ _ om (by simpa using hle)]
  have h10:(c.2.set ix x').map (c.1.cells E)=(c.2.map (c.1.cells E)).take ix++[c.1.cells E x']++(c.2.map (c.1.cells E)).drop (ix+[c.1.cells E x'].length):=by
   rw [ajL,if_pos (by simpa using hlt)];simp
  rw [h10];exact h9
 have hR:=hr.agn hg hc hj hheap apx si hfl;exact⟨_,undef,_,G,hrun,.inr ⟨rfl,rfl⟩,hR.put (by simp [VT]) o.dst⟩
theorem Rel.U0(h:Rel E w0 G0 st a w G){j:Nat}{c:Cn E}(hs:∃x hd,G.g[j]? = some (x,hd)/\rG E w G x hd c):Rel E w0 G0 {st with c:=(j,c)::st.c} a w G:=
 ⟨h.eR,h.size,h.tmps,h.defers,h.boxes,h.fix,h.pins,fun i c' hm=>by
  rcases iq.1 hm with e|hm
  ·cases e;exact hs
  ·exact h.gf i c' hm⟩
theorem ago{pr:Nat->Nat->Prop}{k:Nat}(hk0:0<k){z:aI Value}(hz:z.size=k){e:J DV}(h:LD w pr z.toList e){n m:Nat}(hn:n<=m):Flat w pr k ((madeCells z (m*k)).toList.take (n*k)) (List.replicate n e):=by
 have hel:e.length=k:=by rw [<-h.length];simpa using hz
 have hnm:=yz k hn;refine⟨by simp_all [MC,XU,size_madeCells,List.length_replicate,adt],fun j hj=>?_,fun j l hj hl=>?_⟩
 ·simp_all
 ·simp at hj
  have hjl:=Na hj hl
  have e1:((madeCells z (m*k)).toList.take (n*k)).getD (j*k+l) undef=z.toList.getD l undef:=by
   simp;rw [Xz,if_pos hjl];have h1:(j*k+l)%z.size=l:=by simp_all [XE,Nat.mul_add_mod,adu]
   have h2:j*k+l<m*k:=om;have h3:l<z.size:=om;simp [madeCells,h2,h1,h3]
  have e2:(List.replicate n e).getD j []=e:=by simp [hj]
  rw [e1,e2]
  have:∀ {vs:J Value}{ds:J DV}(l:Nat),LD w pr vs ds->l<ds.length->VD w pr (vs.getD l undef) (ds.getD l default):=by
   intro vs
   induction vs with
   | nil=>intro ds l h hl;cases ds with|nil=>simp at hl|cons _ _=>exact h.elim
   | cons v vs ih=>
    intro ds l h hl
    cases ds with
    | nil=>exact h.elim
    | cons d ds=>
     cases l with
     | zero=>simpa using h.1
     | succ l=>simpa using ih l h.2 (by simpa using hl)
  exact this l h om
theorem aek(hE:E.Ok)(hr:Rel E w0 G0 st a w G){t e:aD}{x y:bx}{j1 j2:Nat}{z0:Value}{ie:TI}(ho:o.op=.makeSlice t x y)(ht:aU P t=some ⟨.slice e,j1,j2,z0⟩)(hi:aU P e=some ie){T:Ty}{z:T.den E.D}{k1 k2:ef}{n m:Int}
  (hx:st.ev x=.dat (.int k1) n) (hy:st.ev y=.dat (.int k2) m) (hk:ie.size=T.size E) (hk0:0<ie.size) (hzs:ie.zero.cells.size=ie.size) (hz1:ie.zero.cells.toList.all (·.oneCell')=true) (hz:(xD E (some T) ie.zero).get T=some z)
  (h0:0<=n) (h1:n<=m) (h2:0<m) (h3:m<=9223372036854775807) (h4:(ie.bytes:Int)*m<=140737488355328) :
  jA P w0 G0 a w o {st with t:=b9 st.t o.dst (.dZ st.g.length 0),g:=st.g++[⟨0,e,ie.size⟩],c:=(st.g.length,⟨T,List.replicate n.toNat z⟩)::st.c}:=by
 have yT:=hr.ev x;rw [hx] at yT;have AU:=hr.ev y;rw [hy] at AU;obtain⟨xt,jB,ec,-⟩:=aN ht;obtain⟨xe,pV,zK,hsz,hby,hzz⟩:=aN hi;have hrun:=run_make w t e xe ie.zero ec pV hzz k1 k2 n m h0 h1 (by rw [hby];omega) h3;rw [hsz] at hrun;have hzv:VT E w G (.dat T z) ie.zero:=TV.tH hz (O0 hE hz1);have V7:=hzv.Ng;have aj1:maxLen=9223372036854775807:=rfl
 let cur:=madeCells ie.zero.cells (m.toNat*ie.size)
 have hcs:cur.size=m.toNat*ie.size:=size_madeCells _ _;have hG:=hr.grow (eS.alloc w (.cells cur e)) rfl rfl rfl G.pr (fun _ _ h=>h) (fun _ _ _ h=>h) (fun b o hp=>jz (hr.boxes.ga b o hp).1 si);have hnp:∀o,¬ G.pr w.heap.size o:=fun o hp=>absurd (hr.boxes.ga _ _ hp).1 (yy _);have hheap:(w.alloc (.cells cur e)).heap[w.heap.size]? = some (.cells cur e):=heap_alloc_new w _
 have hown:(w.alloc (.cells cur e)).ownsRow 0 e ie.size (.slice (some ⟨w.heap.size,0,none⟩) n.toNat m.toNat) n.toNat (cur.toList.take (n.toNat*ie.size)):=by
  refine⟨?_,.inr ⟨w.heap.size,m.toNat,cur,rfl,fO _,hheap,om,om,hcs,rfl⟩⟩
  grind [List.length_take,Array.length_toList,Nat.min_eq_left,Nat.mul_le_mul_right]
 have hA:=hG.BK ⟨0,e,ie.size⟩ (.slice (some ⟨w.heap.size,0,none⟩) n.toNat m.toNat) ⟨n.toNat,_,hown,fun a q h=>by simp at h;omega,fun b hb=>by
   cases hb;exact⟨si,fun hm=>absurd (hr.boxes.lt _ hm) (yy _),fun o _ hp=>hnp o hp⟩⟩ (fun b hb=>by cases hb;exact hr.eR.size) (fun j y z b hj hzb hb=>by
   cases hb;obtain⟨n',xs',-,-,hb'⟩:=hr.boxes.grow j y z hj
   simp_all)
 have hrl:=hr.pe;have kT:(G.g++[(⟨0,e,ie.size⟩,Value.slice (some ⟨w.heap.size,0,none⟩) n.toNat m.toNat)])[st.g.length]? = some (⟨0,e,ie.size⟩,.slice (some ⟨w.heap.size,0,none⟩) n.toNat m.toNat):=by rw [<-hrl];simp
 have hC:=hA.U0 (c:=⟨T,List.replicate n.toNat z⟩) ⟨⟨0,e,ie.size⟩,_,kT,hk,hk0,⟨_,by simp;exact hown,by
   rw [List.map_replicate];exact ago hk0 hzs (V7.mono (fun _ _ h=>h) (fun b o v _ hv=>(eS.alloc w _).cell hv)) om⟩,fun b hb o hp=>by cases hb;exact hnp o hp⟩
 refine⟨.value _,_,_,_,?_,.inl rfl,hC.put (v:=.slice (some ⟨w.heap.size,0,none⟩) n.toNat m.toNat) ?_ o.dst⟩
 ·simp [execOp,ho,yT.fJ,AU.fJ,hrun]
  rfl
 ·exact⟨⟨0,e,ie.size⟩,_,kT,eo _,rfl,fun _=>rfl⟩
theorem abE(hE:E.Ok)(hr:Rel E w0 G0 st a w G){t e:aD}{len:Nat}{parts:aI (Nat×bx)}{j1 j2:Nat}{z:Value}{ie:TI}(ho:o.op=.buildSlice t len parts)
  (ht:aU P t=some ⟨.slice e,j1,j2,z⟩) (hi:aU P e=some ie) (h1:parts.toList.map (·.1)=List.range len) (h2:len*ie.size<=16777216) (h3:0<ie.size) (h0':0<len\/E.zc e=true)
  {T:Ty} {xs:J (T.den E.D)} (hk:ie.size=T.size E) (hx:nu T (parts.toList.map fun p=>st.ev p.2)=some xs) :
  jA P w0 G0 a w o {st with t:=b9 st.t o.dst (.dZ st.g.length 0),g:=st.g++[⟨0,e,ie.size⟩],c:=(st.g.length,⟨T,xs⟩)::st.c}:=by
 obtain⟨cs,hrun,hcs,St,hfl⟩:=Ni hE hr ho ht hi h1 h2 h3 hk hx;have aj1:maxLen=9223372036854775807:=rfl;have hG:=hr.grow (eS.alloc w (.cells cs e)) rfl rfl rfl G.pr (fun _ _ h=>h) (fun _ _ _ h=>h) (fun b o hp=>jz (hr.boxes.ga b o hp).1 si);have hnp:∀o,¬ G.pr w.heap.size o:=fun o hp=>absurd (hr.boxes.ga _ _ hp).1 (yy _);have hheap:(w.alloc (.cells cs e)).heap[w.heap.size]? = some (.cells cs e):=heap_alloc_new w _
 have hown:(w.alloc (.cells cs e)).ownsRow 0 e ie.size (.slice (some ⟨w.heap.size,0,none⟩) len len) len (cs.toList.take (len*ie.size)):=by
  refine⟨?_,.inr ⟨w.heap.size,len,cs,rfl,fO _,hheap,eo _,by have:len<=len*ie.size:=adf _ h3;omega,hcs,rfl⟩⟩;rw [MC,XU,hcs];exact Nat.min_self _
 have hA:=hG.BK ⟨0,e,ie.size⟩ (.slice (some ⟨w.heap.size,0,none⟩) len len) ⟨len,_,hown,fun a q h=>h0'.elim (fun _=>by simp at h;omega) id,fun b hb=>by
   cases hb;exact⟨si,fun hm=>absurd (hr.boxes.lt _ hm) (yy _),fun o _ hp=>hnp o hp⟩⟩ (fun b hb=>by cases hb;exact hr.eR.size) (fun j y z b hj hzb hb=>by
   cases hb;obtain⟨n',xs',-,-,hb'⟩:=hr.boxes.grow j y z hj;exact absurd (hb' _ hzb).1 (yy _))
 have hrl:=hr.pe;have kT:(G.g++[((⟨0,e,ie.size⟩:bQ),Value.slice (some ⟨w.heap.size,0,none⟩) len len)])[st.g.length]? = some (⟨0,e,ie.size⟩,.slice (some ⟨w.heap.size,0,none⟩) len len):=by rw [<-hrl];simp
 have hC:=hA.U0 (j:=st.g.length) (c:=⟨T,xs⟩) ⟨⟨0,e,ie.size⟩,_,kT,hk,h3,⟨_,by rw [St];exact hown,hfl.mono (fun _ _ h=>h) (fun b o v _ hv=>(eS.alloc w _).cell hv)⟩,fun b hb o hp=>by cases hb;exact hnp o hp⟩;refine⟨.value _,_,_,_,hrun,.inl rfl,hC.put (d:=.dZ st.g.length 0) (v:=.slice (some ⟨w.heap.size,0,none⟩) len len) ?_ o.dst⟩;simp only [VT];exact⟨⟨0,e,ie.size⟩,_,kT,eo _,rfl,fun _=>rfl⟩
def ael(ty:aD->O Ty):O Nat->Bool
 | some i=>match ty (2000000+i) with
  | some _=>true
  | none=>false
 | none=>false
def Zo(P:aE)(ty:aD->Option Ty)(st:TS E)(dst:Option Nat):Op->Option (Bool×TS E)
 | .buildSlice t len parts=>cond (ael ty dst) (match aU P t with
  | some ⟨.slice e,_,_,_⟩=>match aU P e,ty e with
   | some ie,some T=>match nu T (parts.toList.map fun p=>st.ev p.2) with
    | some xs=>some (cond (Nat.blt 0 len) true (E.zc e)&&(decide (parts.toList.map (·.1)=List.range len)&&(Nat.ble (len*ie.size) 16777216&&(Nat.blt 0 ie.size&&Nat.beq ie.size (T.size E)))),
       {st with t:=b9 st.t dst (.dZ st.g.length 0),g:=st.g++[⟨0,e,ie.size⟩],c:=(st.g.length,⟨T,xs⟩)::st.c})
    | none=>none
   | _,_=>none
  | _=>none) none
 | _=>none
theorem aem(hE:E.Ok)(hr:Rel E w0 G0 st a w G){ty:aD->O Ty}{st':TS E}{c:Bool}(h:Zo P ty st o.dst o.op=some (c,st'))(hc:c=true):jA P w0 G0 a w o st':=by
 cases ho:o.op<;>rw [ho] at h<;>try trivial
 case buildSlice t len parts=>
  simp only [Zo] at h;cases hb:ael ty o.dst<;>rw [hb] at h<;>simp only [bq,aS] at h
  ·cases h
  split at h<;>try trivial
  rename_i e j1 j2 z ht;split at h<;>try trivial
  rename_i ie T hi hT;split at h<;>try trivial
  rename_i xs hx;cases h;simp only [cx,fX] at hc
  exact abE hE hr ho ht hi hc.2.1 (lC hc.2.2.1) (lC hc.2.2.2.1) (by
   cases hb0:Nat.blt 0 len with
   | true=>exact .inl (lC hb0)
   | false=>have h0:=hc.1;rw [hb0] at h0;exact .inr h0) (eB hc.2.2.2.2) hx
theorem Rel.agp(hr:Rel E w0 G0 st a w G){j:Nat}{g:bQ}{c:Cn E}(hg:st.g[j]? = some g)(hc:nO st.c j=some c){v v':Value}(hj:G.g[j]? = some (g,v))(uB:w.grownBy w' v.ownBlock){ys:J (c.1.den E.D)}{vals:J Value}
  (hown:w'.ownsRow 0 g.e g.k v' ys.length vals) (hf:Flat w G.pr g.k vals (ys.map (c.1.cells E))) (hblk:∀b,v'.ownBlock=some b->w.heap.size<=b\/v.ownBlock=some b) (hz:∀a m,v'=.slice (some a) m 0->E.zc g.e=true) (h1:v'.oneCell'=true) :
  ∃G',Rel E w0 G0 {st with g:=st.g.set j {g with aF:=g.aF+1},c:=(j,⟨c.1,ys⟩)::mN j st.c} a w' G'/\VT E w' G' (.dZ j (g.aF+1)) v':=by
 obtain⟨h,hj',hs,-⟩:=hr.soft hg hc;rw [hj] at hj';cases hj';obtain⟨n0,Y8,R2,Nf,hb0⟩:=hr.boxes.grow j g v hj;have hnp:=hs.2.2.2
 have amD:∀b,v'.ownBlock=some b->∀o,¬ G.pr b o:=fun b hb o hp=>by
  rcases hblk b hb with q|q
  ·have:=(hr.boxes.ga b o hp).1;omega
  ·exact hnp b q o hp
 have hcells:∀b o u,G.pr b o->w.cell? ⟨b,o,none⟩=some u->w'.cell? ⟨b,o,none⟩=some u:=fun b o u hp hu=>
  uB.cell hu (fun e=>hnp b e.symm o hp)
 have hjl:=(eO.1 hj).1
 have key:=hr.setRow (x':={g with aF:=g.aF+1}) (cs:=(j,⟨c.1,ys⟩)::mN j st.c) hj (Nat.le_succ _) (fun e=>by simp at e) uB.size uB.os uB.tape uB.output
  (fun b hb hne=>uB.block b hb (fun e=>hne e.symm)) hcells G.pr (fun _ _ h=>h) (fun _ _ h=>.inl h)
  ⟨ys.length,vals,hown,hz,fun b hb=>⟨(hown.lt b hb).2,fun hm=>by
   rcases hblk b hb with q|q
   ·have:=hr.boxes.lt b hm;omega
   ·exact (hb0 b q).2.1 hm,fun o _ hp=>amD b hb o hp⟩⟩ hblk (fun hg'=>?_)
 ·simp [VT]
  grind
 ·intro i c' hm
  rcases iq.1 hm with e|hm
  ·cases e
   exact⟨{g with aF:=g.aF+1},v',by simp [hjl],hs.1,hs.2.1,⟨vals,hown,hf.mono hg'.pr hg'.cells⟩,amD⟩
  ·obtain⟨hm,hne⟩:=sC hm
   obtain⟨x,hd,q1,q2⟩:=hr.gf i c' hm;obtain⟨n1,xs1,-,-,xj⟩:=hr.boxes.grow i x hd q1;refine⟨x,hd,?_,q2.keep rfl rfl hg'.pr hg'.cells fun b hb=>⟨uB.block b (xj b hb).1 (fun e=>hne (hr.boxes.apart i j x hd g v b q1 hj hb e.symm)),fun o hp=>hp⟩⟩
   grind
theorem Zp(hE:E.Ok)(hr:Rel E w0 G0 st a w G){cl:Call}{x y:bx}{t tx e:aD}{j1 j2:Nat}{z:Value}{ie:TI}(ho:o.op=.call cl)(hcl:cl.callee=.builtin .append)(ha:cl.args.toList=[x,y])(hat:cl.argTypes.toList=[t,tx])
  (ht:aU P t=some ⟨.slice e,j1,j2,z⟩) (hi:aU P e=some ie) {j:Nat} {g:bQ} {c:Cn E} (hx:st.ev x=.dZ j g.aF) (hg:st.g[j]? = some g) (hc:nO st.c j=some c) (hge:g.e=e) (zO:g.k=ie.size) (hzs:ie.zero.cells.size=ie.size)
  {ys:J (c.1.den E.D)} (h63:c.2.length+ys.length<=9223372036854775807) (hbytes:(c.2.length+ys.length)*ie.bytes<=140737488355328)
  {news:J Value} (hsrc:Src P ie.size tx (a.eval y) ys.length news w) (hf:Flat w G.pr ie.size news (ys.map (c.1.cells E))) :
  jA P w0 G0 a w o {st with t:=b9 st.t o.dst (.dZ j (g.aF+1)),g:=st.g.set j {g with aF:=g.aF+1},c:=(j,⟨c.1,c.2++ys⟩)::mN j st.c}:=by
 have gu:cl.args=#[x,y]:=by grind
 have w8:cl.argTypes=#[t,tx]:=by grind
 obtain⟨xt,jB,ec,-⟩:=aN ht;obtain⟨xe,Nc,zK,hsz,hby,hz⟩:=aN hi;have hv:=hr.ev x;rw [hx] at hv;obtain⟨v,hj,hs,hval⟩:=hr.soft hg hc;have kY:=hval _ hv
 have fin:∀(v':Value)(w':U)(vals:J Value),(Builtin.append_ #[t,tx] o.type #[v,a.eval y]).run P w=.ok v' w'->w'.ownsRow 0 g.e g.k v' (c.2++ys).length vals->Flat w G.pr g.k vals ((c.2++ys).map (c.1.cells E))->w.grownBy w' v.ownBlock ->
   (∀b,v'.ownBlock=some b->w.heap.size<=b\/v.ownBlock=some b)->(∀a m,v'=.slice (some a) m 0->E.zc g.e=true)->v'.oneCell'=true ->
   jA P w0 G0 a w o {st with t:=b9 st.t o.dst (.dZ j (g.aF+1)),g:=st.g.set j {g with aF:=g.aF+1},c:=(j,⟨c.1,c.2++ys⟩)::mN j st.c}:=by
  intro v' w' vals hrun hown hfl uB hblk hnz h1;obtain⟨G',hR,hV⟩:=hr.agp hg hc hj uB hown hfl hblk hnz h1;refine⟨.value v',v',w',G',?_,.inl rfl,hR.put hV o.dst⟩;unfold execOp;simp [ho,resolve,hcl,iS,od,invoke,builtin,gu,w8,lD,XB];rw [kY,hrun];rfl
 have Eu:Src P xe.size tx (a.eval y) ys.length news w:=by rw [hsz];exact hsrc
 have hzl:∀c,(Builtin.zeroCells ie.zero.cells c).size=c*ie.size:=fun c=>by rw [size_zeroCells,hzs]
 obtain⟨n0,Y8,R2,Nf,hb0⟩:=hr.boxes.grow j g v hj;have hlen:(c.2++ys).length=c.2.length+ys.length:=by simp
 have hmap:(c.2++ys).map (c.1.cells E)=c.2.map (c.1.cells E)++ys.map (c.1.cells E):=by simp
 rw [<-zO] at hf;by_cases hm:ys.length=0
 ·have hys:=Dj hm
  subst hys;have hnn:=Dj (by simpa using hf.1);subst hnn;obtain⟨-,-,⟨vals,ho,LA⟩,-⟩:=hs;refine fin v w vals ?_ (by simp_all) (by simp_all) ⟨rfl,rfl,rfl,eo _,fun _ _ _=>rfl⟩ (fun b hb=>.inr hb) Nf ?_
  ·rcases ho.2 with⟨q1,q2⟩|⟨b,cap,cur,q1,-,-,q4,-⟩
   ·rw [q1];exact run_append_nothing w t tx o.type e xe ec Nc none 0 0 (eo _) _ Eu
   grind [run_append_nothing]
  ·rcases ho.2 with⟨q1,q2⟩|⟨b,cap,cur,q1,-⟩<;>rw [q1]<;>rfl
 have grow:∀(base:O Addr)(old:Nat)(xs':J Value),v=.slice base c.2.length old->old<c.2.length+ys.length->Flat w G.pr g.k xs' (c.2.map (c.1.cells E)) ->
   (Builtin.firstCells xe.size c.2.length (.slice base c.2.length old)).run P w.drew=.ok xs'.toArray w.drew ->
   jA P w0 G0 a w o {st with t:=b9 st.t o.dst (.dZ j (g.aF+1)),g:=st.g.set j {g with aF:=g.aF+1},c:=(j,⟨c.1,c.2++ys⟩)::mN j st.c}:=by
  intro base old xs' hv0 hlt hfx V4;have hfit:=growslice_fits (bytes:=xe.bytes) hlt (by rw [hby];exact hbytes);have hr':=run_append_grow_src w t tx o.type e xe ie.zero ec Nc hz base c.2.length old xs' V4 (a.eval y) ys.length news Eu hlt om hfit;have aen:=grownCap_ge w (c.2.length+ys.length) old e;have hcm:=grownCap_le_maxLen w (c.2.length+ys.length) old e h63;generalize hcap:grownCap w (c.2.length+ys.length) old e=cap at hr' aen hcm;generalize hcs:(xs'++news).toArray++Builtin.zeroCells ie.zero.cells (cap-(c.2.length+ys.length))=cs at hr';have Jx:=hfx.append hf;have hl2:(xs'++news).length=(c.2.length+ys.length)*g.k:=by rw [Jx.1];simp
  have aic:cs.size=cap*g.k:=by
   rw [<-hcs,ac9,ada,hl2,hzl,<-zO,<-ON];congr 1;omega
  have hheap:(w.drew.alloc (.cells cs e)).heap=w.heap.push (.cells cs e):=rfl;have hnew:(w.drew.alloc (.cells cs e)).heap[w.heap.size]? = some (.cells cs e):=by rw [hheap];simp
  refine fin (.slice (some ⟨w.heap.size,0,none⟩) (c.2.length+ys.length) cap) (w.drew.alloc (.cells cs e)) (xs'++news) (by rw [hv0];exact hr') ⟨by rw [hl2,hlen],.inr ⟨w.heap.size,cap,cs,?_,Nat.zero_le _,by rw [hge];exact hnew,by rw [hlen];exact aen,hcm,aic,?_⟩⟩ (by rw [hmap];exact Jx) ⟨rfl,rfl,rfl,by rw [hheap];simp,fun b hb _=>by grind⟩
   (fun b hb=>by cases hb;grind) (fun a m h=>by simp at h;omega) rfl
  ·rw [hlen]
  grind
 rcases hs.block with⟨h1,h2⟩|⟨b,cap,cur,h1,hheap,hcap,hcm,hcs,LA,hnp⟩
 ·have hc0:c.2.length=0:=by rw [h2];rfl
  refine grow none 0 [] (by rw [h1,hc0]) om (by rw [h2];exact Flat.nil) ?_;simp [Builtin.firstCells]
 ·by_cases hroom:c.2.length+ys.length<=cap
  ·have Sr:c.2.length*ie.size+news.length<=cur.size:=by
    rw [hf.1,hcs,<-zO,wU,<-ON];exact yz _ hroom
   have FY:w.heap[b]? = some (.cells cur e (0,0)):=by rw [<-hge];exact hheap
   have hr':=run_append_room_src w t tx o.type e xe ec Nc b 0 c.2.length cap (a.eval y) ys.length news Eu hroom
    (fun j hj=>by
     rw [cell_of_row w b _ cur e (0,0) FY,hsz]
     grind)
    (fun j hj=>frozen_of_row w b _ cur e FY)
   rw [hsz,pW,zN b e news (c.2.length*ie.size) cur w FY Sr] at hr';have Jx:=LA.append hf;have hl2:(cur.toList.take (c.2.length*g.k)++news).length=(c.2.length+ys.length)*g.k:=by rw [Jx.1];simp
   refine fin (.slice (some ⟨b,0,none⟩) (c.2.length+ys.length) cap) (w.setRow b (cur.toList.take (c.2.length*ie.size)++news++cur.toList.drop (c.2.length*ie.size+news.length)).toArray) (cur.toList.take (c.2.length*g.k)++news) (by rw [h1];exact hr') ⟨by rw [hl2,hlen],.inr ⟨b,cap,_,by rw [hlen],fO _,by rw [hge];exact setRow_heap w b cur _ e _ FY,by rw [hlen];exact hroom,hcm,?_,?_⟩⟩ (by rw [hmap];exact Jx) ⟨rfl,rfl,rfl,si,fun b' _ hb'=>setRow_other w b b' _ (fun e=>hb' (by rw [e,h1];rfl))⟩
    (fun b' hb'=>.inr (by rw [h1];exact hb')) (fun a m h=>by simp at h;omega) rfl
   ·grind
   grind
  ·refine grow _ cap (cur.toList.take (c.2.length*g.k)) h1 om LA ?_
   rw [hsz,<-zO];refine run_firstCells_some w.drew g.k c.2.length ⟨b,0,none⟩ c.2.length cap (cur.toList.take (c.2.length*g.k)) (by rw [LA.1];simp) (fun q u hu=>?_);rw [add_lit,pW]
   have hq:q<c.2.length*g.k:=by
    grind
   show w.cell? ⟨b,q,none⟩=some u
   grind [cell_of_row]
theorem agq(hr:Rel E w0 G0 st a w G){t e:aD}{x hi:bx}{j1 j2:Nat}{z:Value}{ie:TI}(ho:o.op=.slice t x none (some hi) none)(ht:aU P t=some ⟨.slice e,j1,j2,z⟩)(hi':aU P e=some ie)
  {j:Nat} {g:bQ} {c:Cn E} (hx:st.ev x=.dZ j g.aF) (hg:st.g[j]? = some g) (hc:nO st.c j=some c) {q:Int} (hq:kX (c.2.length:Int) (some (st.ev hi))=some q) (h0:0<=q) (h1:q<=(c.2.length:Int)) :
  jA P w0 G0 a w o {st with t:=b9 st.t o.dst (.dZ j (g.aF+1)),g:=st.g.set j {g with aF:=g.aF+1},c:=(j,⟨c.1,c.2.take (Int.toNat q)⟩)::mN j st.c}:=by
 obtain⟨xt,jB,ec,-⟩:=aN ht;obtain⟨xe,pV,zK,hsz,-⟩:=aN hi';obtain⟨v,hj,hs,hval⟩:=hr.soft hg hc;have hv:=hr.ev x;rw [hx] at hv;have kY:=hval _ hv;obtain⟨n0,Y8,R2,Nf,hb0⟩:=hr.boxes.grow j g v hj;have hlen:(c.2.take q.toNat).length=q.toNat:=by simp_all
 have hbi:=sE hr (lo:=some hi) hq;have amE:=sE hr (lo:=none) (d:=0) rfl
 have key:∀(v':Value)(vals:J Value),(Instr.sliceAt t v none (some (a.eval hi)) none).run P w=.ok v' w->w.ownsRow 0 g.e g.k v' (c.2.take q.toNat).length vals->Flat w G.pr g.k vals ((c.2.take q.toNat).map (c.1.cells E))->v'.ownBlock=v.ownBlock ->
   (∀a m,v'=.slice (some a) m 0->E.zc g.e=true)->v'.oneCell'=true->jA P w0 G0 a w o {st with t:=b9 st.t o.dst (.dZ j (g.aF+1)),g:=st.g.set j {g with aF:=g.aF+1},c:=(j,⟨c.1,c.2.take (Int.toNat q)⟩)::mN j st.c}:=by
  intro v' vals hrun hown hfl hblk hnz h1';obtain⟨G',hR,hV⟩:=hr.agp hg hc hj ⟨rfl,rfl,rfl,eo _,fun _ _ _=>rfl⟩ hown hfl (fun b hb=>.inr (by rw [<-hblk];exact hb)) hnz h1';refine⟨.value v',v',w,G',?_,.inl rfl,hR.put hV o.dst⟩;simp [execOp,ho];rw [kY,hrun];rfl
 rcases hs.block with⟨q1,q2⟩|⟨b,cap,cur,q1,hheap,hcap,hcm,hcs,LA,hnp⟩
 ·have hq0:q=0:=by grind
  subst hq0;refine key (.slice none 0 0) [] ?_ ?_ (by rw [q2];exact Flat.nil) (by rw [q1]) (fun a m h=>by cases h) rfl
  ·have AR:=Et (P:=P) (isS:=true) (cap:=0) (eo _) amE (by rw [q2] at hbi;exact hbi) (XW _) (XW _) si w
   rw [q1];simp at AR;unfold Instr.sliceAt;unfold Instr.slice;simp only [iS,aQ ec,jm,AR,eW pV];simp
  ·exact⟨si,.inl ⟨rfl,rfl⟩⟩
 ·refine key (.slice (some ⟨b,0,none⟩) q.toNat cap) (cur.toList.take (q.toNat*g.k)) ?_ ?_ ?_ (by rw [q1];rfl) (fun a m h=>by
   simp_all) rfl
  ·have AR:=Et (P:=P) (isS:=true) hcap amE hbi (XW _) h0 h1 w
   rw [q1];simp at AR;unfold Instr.sliceAt;unfold Instr.slice;simp only [iS,aQ ec,jm,AR,eW pV,XX,add_lit];simp
  ·rw [hlen]
   refine⟨?_,.inr ⟨b,cap,cur,rfl,fO _,hheap,om,hcm,hcs,rfl⟩⟩
   grind [List.length_take,Array.length_toList,Nat.min_eq_left,Nat.mul_le_mul_right]
  ·have h9:=LA.take (i:=q.toNat) bE
   simp_all [yz,XY,adt,List.map_take]
def aeo(P:aE)(ty:aD->O Ty)(st:TS E)(dst:O Nat)(cl:Call):O (Bool×TS E):=
 match cl.callee,cl.args.toList,cl.argTypes.toList with
 | .builtin .append,[x,y],[t,tx]=>match aU P t,aU P tx with
  | some ⟨.slice e,_,_,_⟩,some ix=>match aU P e,st.ev x with
   | some ie,.dZ j aF=>match st.g[j]?,nO st.c j with
    | some g,some c=>match aei c.1 ix.kind (st.ev y) with
     | some ys=>some (Nat.beq g.aF aF&&(Nat.beq g.e e&&(Nat.beq g.k ie.size&&(Nat.beq ie.size (c.1.size E)&&(Nat.blt 0 ie.size&&(Nat.beq ie.zero.cells.size ie.size &&
          (decide (c.2.length+ys.length<=9223372036854775807)&&decide ((c.2.length+ys.length)*ie.bytes<=140737488355328))))))),
       {st with t:=b9 st.t dst (.dZ j (g.aF+1)),g:=st.g.set j {g with aF:=g.aF+1},c:=(j,⟨c.1,c.2++ys⟩)::mN j st.c})
     | none=>none
    | _,_=>none
   | _,_=>none
  | _,_=>none
 | _,_,_=>none
def BL(P:aE)(ty:aD->O Ty)(st:TS E)(dst:O Nat):Op->O (Bool×TS E)
 | .load t x=>match aU P t,st.ev x with
  | some i,.gY j aF k ix off=>match st.g[j]?,nO st.c j with
   | some g,some c=>match TV.part c.1 (c.2.getD ix (c.1.dflt E)) i.isAgg i.size off with
    | some d=>some (Nat.beq g.aF aF&&Nat.beq k (c.1.size E),{st with t:=b9 st.t dst d})
    | none=>none
   | _,_=>none
  | _,_=>none
 | .store t x y=>match aU P t,st.ev x,(st.ev y).nX with
  | some i,.gY j aF k ix off,some ds=>match st.g[j]?,nO st.c j with
   | some g,some c=>match (TV.dat (E:=E) c.1 (c.2.getD ix (c.1.dflt E))).nX with
    | some cs=>match M6 E 4 c.1 (cs.take off++ds++cs.drop (off+ds.length)) with
     | some (x',[])=>some (Nat.beq g.aF aF&&(Nat.beq k (c.1.size E)&&(Nat.beq ds.length i.size&&Nat.ble (off+i.size) cs.length)),
       {st with t:=b9 st.t dst .any,c:=(j,⟨c.1,c.2.set ix x'⟩)::mN j st.c})
     | _=>none
    | none=>none
   | _,_=>none
  | _,_,_=>none
 | .makeSlice t x y=>match aU P t with
  | some ⟨.slice e,_,_,_⟩=>match aU P e,ty e,st.ev x,st.ev y with
   | some ie,some T,.dat (.int _) n,.dat (.int _) m=>match (xD E (some T) ie.zero).get T with
    | some z=>some (Nat.beq ie.size (T.size E)&&(Nat.blt 0 ie.size&&(Nat.beq ie.zero.cells.size ie.size&&(ie.zero.cells.toList.all (·.oneCell') &&
       (decide (0<=n)&&(decide (n<=m)&&(decide (0<m)&&(decide (m<=9223372036854775807)&&decide ((ie.bytes:Int)*m<=140737488355328)))))))),
      {st with t:=b9 st.t dst (.dZ st.g.length 0),g:=st.g++[⟨0,e,ie.size⟩],c:=(st.g.length,⟨T,List.replicate (Int.toNat n) z⟩)::st.c})
    | none=>none
   | _,_,_,_=>none
  | _=>none
 | .slice t x none (some hi) none=>match aU P t,st.ev x with
  | some ⟨.slice e,_,_,_⟩,.dZ j aF=>match aU P e,st.g[j]?,nO st.c j with
   | some _,some g,some c=>match kX (c.2.length:Int) (some (st.ev hi)) with
    | some q=>some (Nat.beq g.aF aF&&(decide (0<=q)&&decide (q<=(c.2.length:Int))),
      {st with t:=b9 st.t dst (.dZ j (g.aF+1)),g:=st.g.set j {g with aF:=g.aF+1},c:=(j,⟨c.1,c.2.take (Int.toNat q)⟩)::mN j st.c})
    | none=>none
   | _,_,_=>none
  | _,_=>none
 | .call cl=>aeo P ty st dst cl
 | _=>none
theorem aep(hE:E.Ok)(hr:Rel E w0 G0 st a w G){ty:aD->O Ty}{st':TS E}{cc:Bool}(h:BL P ty st o.dst o.op=some (cc,st'))(o9:cc=true):jA P w0 G0 a w o st':=by
 cases ho:o.op<;>rw [ho] at h<;>try trivial
 case load t x=>
  simp [BL] at h;split at h<;>try trivial
  rename_i i j aF k ix off ht hx;split at h<;>try trivial
  rename_i g c hg hc;split at h<;>try trivial
  rename_i d hp;cases h;rw [cx] at o9;obtain rfl:=eB o9.1;exact (HG hE hr ho ht hx hg hc (eB o9.2) hp).aia hr
 case store t x y=>
  simp [BL] at h;split at h<;>try trivial
  split at h<;>try trivial
  split at h<;>try trivial
  split at h<;>try trivial
  grind [Nat.eq_of_beq_eq_true,abD,Nat.le_of_ble_eq_true]
 case makeSlice t x y=>
  simp only [BL] at h;split at h<;>try trivial
  rename_i e j1 j2 z0 ht;split at h<;>try trivial
  rename_i ie T k1 n k2 m hi hT hx hy;split at h<;>try trivial
  rename_i z hz;cases h;simp only [cx,fX] at o9;obtain⟨c1,c2,c3,c4,c5,c6,c7,c8,c9⟩:=o9;exact aek hE hr ho ht hi hx hy (eB c1) (lC c2) (eB c3) c4 hz c5 c6 c7 c8 c9
 case slice t x lo hi mx=>
  cases lo with
  | some _=>cases h
  | none=>
  cases hi with
  | none=>cases h
  | some hi=>
  cases mx with
  | some _=>cases h
  | none=>
  simp [BL] at h;split at h<;>try trivial
  split at h<;>try trivial
  split at h<;>try trivial
  grind [Nat.eq_of_beq_eq_true,agq]
 case call cl=>
  simp [BL] at h;unfold aeo at h;split at h<;>try trivial
  ·split at h<;>try trivial
   split at h<;>try trivial
   rename_i ie j aF hi hx;split at h<;>try trivial
   split at h<;>try trivial
   cases h;simp only [cx] at o9;obtain⟨c1,c2,c3,c4,c5,c6,c7,c8⟩:=o9;have c5:=lC c5
   grind [UZ,Zp,Nat.eq_of_beq_eq_true]
def X6(P:aE)(ty:aD->O Ty)(st:TS E)(dst:O Nat)(op:Op):O (Bool×TS E):=match SC P ty st dst op with
 | some r=>some r
 | none=>BL P ty st dst op
theorem abF(hE:E.Ok)(hr:Rel E w0 G0 st a w G){ty:aD->O Ty}{st':TS E}{c:Bool}(h:X6 P ty st o.dst o.op=some (c,st'))(hc:c=true):jA P w0 G0 a w o st':=by
 grind [X6,abB,aep]
end
end Go.RT
namespace Go.RT
variable {E : TEnv}
def aeq:Value->Value->Bool
 | .bool a,.bool b=>a==b
 | .int k n,.int k' n'=>decide (k=k')&&decide (n=n')
 | _,_=>false
theorem akR{u v:Value}(h:aeq u v=true):u=v/\u.cells=#[u]:=by
 unfold aeq at h;split at h
 ·rw [uh] at h;subst h;exact⟨rfl,rfl⟩
 ·simp at h
  obtain⟨rfl,rfl⟩:=h;exact⟨rfl,rfl⟩
 ·cases h
def X7(P:aE)(st:TS E):Op->O (Bool×TV E)
 | .indexAddr t x ix=>match aU P t,st.ev ix with
  | some ⟨.array n e,_,_,_⟩,.dat (.int _) m=>match aU P e,st.ev x with
   | some i,.gY j aF k i0 off=>match st.g[j]?,nO st.c j with
    | some g,some c=>match Nat.beq g.aF aF&&(Nat.beq i.size k&&(Nat.beq i0 0&&Nat.beq off 0)) with
     | true=>some (decide (0<=m)&&(decide (m<(n:Int))&&decide (m<(c.2.length:Int))),.gY j aF k (Int.toNat m) 0)
     | false=>none
    | _,_=>none
   | _,_=>none
  | _,_=>none
 | _=>none
section
variable {P : aE} {w0 w w' : U} {G0 G G' : aJ} {st : TS E} {a : Act} {o : Oper}
theorem Rel.arr(hr:Rel E w0 G0 st a w G){j k i off:Nat}{g:bQ}{c:Cn E}(hg:st.g[j]? = some g)(hc:nO st.c j=some c){v:Value}(hv:VT E w G (.gY j g.aF k i off) v):
  ∃b cap cur,G.g[j]? = some (g,.slice (some ⟨b,0,none⟩) c.2.length cap)/\i<c.2.length/\v=.pointer (some ⟨b,i*k+off,none⟩)/\w.heap[b]? = some (.cells cur g.e (0,0))/\c.2.length<=cap/\cur.size=cap*g.k /\
   Flat w G.pr g.k (cur.toList.take (c.2.length*g.k)) (c.2.map (c.1.cells E))/\g.k=c.1.size E:=by
 obtain⟨b,m,cap,hj,hlt,kY⟩:=hr.gY hg hv;obtain⟨h,hj',hs,-⟩:=hr.soft hg hc;rw [hj] at hj';cases hj';rcases hs.block with⟨h1,-⟩|⟨b',cap',cur,h1,hheap,hcap,hcm,hcs,hf,hnp⟩
 ·cases h1
 obtain⟨rfl,rfl,rfl⟩:=h1;exact⟨b,cap,cur,hj,hlt,kY,hheap,hcap,hcs,hf,hs.1⟩
theorem abG(hr:Rel E w0 G0 st a w G){d:TV E}{cc:Bool}(h:X7 P st o.op=some (cc,d))(hc:cc=true):jb P a w G o d:=by
 cases ho:o.op<;>rw [ho] at h<;>simp only [X7] at h<;>try trivial
 case indexAddr t x ix=>
  split at h<;>try trivial
  rename_i n e j1 j2 z kd m ht hn;obtain⟨xt,jB,ec,-⟩:=aN ht;obtain⟨m,hm0⟩:∃q:Int,q=m:=⟨m,rfl⟩;subst hm0;have CN:=hr.ev ix;rw [hn] at CN;have Sh:=CN.fJ;split at h<;>try trivial
  rename_i i j aF k i0 off hi hx;obtain⟨xe,pV,zK,hsz,-⟩:=aN hi;split at h<;>try trivial
  rename_i g c hg hcg;split at h<;>try trivial
  rename_i hs4;cases h;simp only [cx,fX] at hc hs4;obtain⟨c1,c2,c3,c4⟩:=hs4;obtain⟨c5,c6,c7⟩:=hc;have c1:=eB c1;have c2:=eB c2;have c3:=eB c3;have c4:=eB c4;have c7:m<(c.2.length:Int):=c7;subst c1 c3 c4;have hv:=hr.ev x;rw [hx] at hv;obtain⟨b,cap,cur,hj,hlt,kY,-⟩:=hr.arr hg hcg hv;refine fK (f:=fun ρ=>Instr.indexAt t (ρ x) (ρ ix)) (by simp [execOp,ho]) ⟨_,UY hj om,fun w' hs=>?_⟩;rw [kY,Sh];unfold Instr.indexAt asIntOf Instr.sureAddr;have h3:(0<=m/\m<(n:Int)):=⟨c5,c6⟩;simp only [iS,od,jm,aQ ec,h3,and_self,if_true,eW pV,add_lit,hsz,c2,Nat.zero_mul,pW,Ud]
def SD(P:aE)(ty:aD->O Ty)(st:TS E)(o:Op):O (Bool×TV E):=match SB P ty st o with
 | some x=>some x
 | none=>X7 P st o
theorem abH(hE:E.Ok)(hr:Rel E w0 G0 st a w G){ty:aD->O Ty}{d:TV E}{c:Bool}(h:SD P ty st o.op=some (c,d))(hc:c=true):jb P a w G o d:=by
 grind [SD,Zm,abG]
theorem Rel.acB(hr:Rel E w0 G0 st a w G){e:aD}{k:Nat}{cur:aI Value}{T:Ty}{xs:J (T.den E.D)}(hk:k=T.size E)(hk0:0<k)(hx0:0<xs.length)(hm:xs.length<=maxLen)(hcs:cur.size=xs.length*k)
  (hf:Flat w G.pr k cur.toList (xs.map (T.cells E))) :
  Rel E w0 G0 {st with g:=st.g++[⟨0,e,k⟩],c:=(st.g.length,⟨T,xs⟩)::st.c} a (w.alloc (.cells cur e)) {G with g:=G.g++[(⟨0,e,k⟩,.slice (some ⟨w.heap.size,0,none⟩) xs.length xs.length)]} /\
   (G.g++[(⟨0,e,k⟩,Value.slice (some ⟨w.heap.size,0,none⟩) xs.length xs.length)])[st.g.length]? = some (⟨0,e,k⟩,.slice (some ⟨w.heap.size,0,none⟩) xs.length xs.length):=by
 have hG:=hr.grow (eS.alloc w (.cells cur e)) rfl rfl rfl G.pr (fun _ _ h=>h) (fun _ _ _ h=>h) (fun b o hp=>jz (hr.boxes.ga b o hp).1 si);have hnp:∀o,¬ G.pr w.heap.size o:=fun o hp=>absurd (hr.boxes.ga _ _ hp).1 (yy _);have hheap:(w.alloc (.cells cur e)).heap[w.heap.size]? = some (.cells cur e):=heap_alloc_new w _;have htk:cur.toList.take (xs.length*k)=cur.toList:=Iw (by simp_all)
 have hown:(w.alloc (.cells cur e)).ownsRow 0 e k (.slice (some ⟨w.heap.size,0,none⟩) xs.length xs.length) xs.length (cur.toList.take (xs.length*k)):=by
  refine⟨?_,.inr ⟨w.heap.size,xs.length,cur,rfl,fO _,hheap,eo _,hm,hcs,rfl⟩⟩
  simp_all
 have hA:=hG.BK ⟨0,e,k⟩ (.slice (some ⟨w.heap.size,0,none⟩) xs.length xs.length) ⟨xs.length,_,hown,fun a q h=>by simp_all,fun b hb=>by
   cases hb;exact⟨si,fun hm=>absurd (hr.boxes.lt _ hm) (yy _),fun o _ hp=>hnp o hp⟩⟩ (fun b hb=>by cases hb;exact hr.eR.size) (fun j y z b hj hzb hb=>by
   cases hb;obtain⟨n',xs',-,-,hb'⟩:=hr.boxes.grow j y z hj
   simp_all)
 have hrl:=hr.pe;have kT:(G.g++[(⟨0,e,k⟩,Value.slice (some ⟨w.heap.size,0,none⟩) xs.length xs.length)])[st.g.length]? = some (⟨0,e,k⟩,.slice (some ⟨w.heap.size,0,none⟩) xs.length xs.length):=by rw [<-hrl];simp
 refine⟨hA.U0 ⟨⟨0,e,k⟩,_,kT,hk,hk0,⟨_,hown,?_⟩,fun b hb o hp=>by cases hb;exact hnp o hp⟩,kT⟩;rw [htk];exact hf.mono (fun _ _ h=>h) (fun b o v _ hv=>(eS.alloc w _).cell hv)
theorem abI(hE:E.Ok)(hr:Rel E w0 G0 st a w G){t e:aD}{n j1 j2:Nat}{z0:Value}{ie:TI}(ho:o.op=.alloc t)(ht:aU P t=some ⟨.array n e,j1,j2,z0⟩){T:Ty}{z:T.den E.D}
  (hT:T.size E=1) (hn:0<n) (hm:n<=maxLen) (hzn:z0.cells.size=n) (hall:z0.cells.toList.all (aeq ie.zero)=true) (hz1:ie.zero.cells.toList.all (·.oneCell')=true) (hz:(xD E (some T) ie.zero).get T=some z) :
  jA P w0 G0 a w o {st with t:=b9 st.t o.dst (.gY st.g.length 0 1 0 0),g:=st.g++[⟨0,t,1⟩],c:=(st.g.length,⟨T,List.replicate n z⟩)::st.c}:=by
 have hzv:VT E w G (.dat T z) ie.zero:=TV.tH hz (O0 hE hz1);have V7:=hzv.Ng
 have hcell:∀v,v∈z0.cells.toList->v=ie.zero/\ie.zero.cells=#[ie.zero]:=fun v hv=>by
  grind [akR,List.all_eq_true]
 have hfl:Flat w G.pr 1 z0.cells.toList ((List.replicate n z).map (T.cells E)):=by
  refine⟨by simp [hzn],fun j hj=>?_,fun j l hj hl=>?_⟩
  ·simp_all [Ty.zF]
  ·have hj:j<n:=by simpa using hj
   obtain rfl:l=0:=om;have e1:((List.replicate n z).map (T.cells E)).getD j []=T.cells E z:=by simp [hj]
   have hjz:j<z0.cells.toList.length:=by simp [hzn,hj]
   have e2:z0.cells.toList.getD (j*1+0) undef=z0.cells.toList[j]:=by simp_all
   obtain⟨q1,q2⟩:=hcell _ (kz hjz);rw [e1,e2,q1];rw [q2] at V7
   cases hd:T.cells E z with
   | nil=>rw [hd] at V7;exact V7.elim
   | cons d ds=>rw [hd] at V7;exact V7.1
 obtain⟨hR,kT⟩:=hr.acB hT.symm Nat.one_pos (by simpa using hn) (by simpa using hm) (by simp [hzn]) hfl;refine⟨.value _,_,_,_,?_,.inl rfl,hR.put (v:=.pointer (some ⟨w.heap.size,0,none⟩)) ?_ o.dst⟩
 ·simp [execOp,ho,Instr.alloc,mC ht]
  rfl
 ·exact⟨⟨0,t,1⟩,_,kT,eo _,rfl,fun _=>⟨w.heap.size,_,_,rfl,by simpa using hn,si⟩⟩
theorem agr(hr:Rel E w0 G0 st a w G){t:aD}{x:bx}{n:Nat}(ho:o.op=.box t x){T:Ty}{xs:J (T.den E.D)}(hx:st.ev x=.sY T xs)(hT:0<T.size E)(hn:0<n)(hm:n<=maxLen)(hl:xs.length=n):
  jA P w0 G0 a w o {st with t:=b9 st.t o.dst (.gY st.g.length 0 (T.size E) 0 0),g:=st.g++[⟨0,t,T.size E⟩],c:=(st.g.length,⟨T,xs⟩)::st.c}:=by
 have hv:=hr.ev x;rw [hx] at hv;obtain⟨vs,he,h1,hf⟩:=hv;obtain⟨hR,kT⟩:=hr.acB rfl hT om om (by have:=hf.1;simpa using this) hf;refine⟨.value _,_,_,_,?_,.inl rfl,hR.put (v:=.pointer (some ⟨w.heap.size,0,none⟩)) ?_ o.dst⟩
 ·simp [execOp,ho]
  rw [he];rfl
 ·exact⟨⟨0,t,T.size E⟩,_,kT,eo _,rfl,fun _=>⟨w.heap.size,_,_,rfl,om,si⟩⟩
theorem abJ(hr:Rel E w0 G0 st a w G){t:aD}{x:bx}{i:TI}(ho:o.op=.load t x)(ht:aU P t=some i)(hag:i.isAgg=true){j k:Nat}{g:bQ}{c:Cn E}(hd:st.ev x=.gY j g.aF k 0 0)
  (hg:st.g[j]? = some g) (hc:nO st.c j=some c) (hk:k=c.1.size E) (hsz:c.2.length*k=i.size):jb P a w G o (.sY c.1 c.2):=by
 have hv:=hr.ev x;rw [hd] at hv;obtain⟨b,cap,cur,hj,hlt,kY,hheap,hcap,hcs,hf,zO⟩:=hr.arr hg hc hv;have hle:i.size<=cur.size:=by rw [hcs,<-hsz,hk,<-zO];exact yz _ hcap
 have hrun:=fun w' hs=>lX ht b 0 cur.size (fun l=>cur.toList.getD l undef) (fun l hl=>by
  rw [pW,cell_of_row w b l cur g.e (0,0) hheap];simp [hl]) 0 (by rw [hag];simpa using hle) w' hs
 have hls:((List.range i.size).map fun l=>cur.toList.getD (0+l) undef)=cur.toList.take (c.2.length*g.k):=by
  rw [zO,<-hk];refine y9 bE fun q h1 h2=>?_
  grind
 refine fK (f:=fun ρ=>Instr.loadAt t (ρ x)) (by simp [execOp,ho]) ⟨.agg (cur.toList.take (c.2.length*g.k)).toArray,?_,fun w' hs=>?_⟩
 ·refine⟨_,rfl,fun u hu=>?_,by rw [<-zO];exact hf⟩
  have hu:u∈cur.toList.take (c.2.length*g.k):=by simpa using hu
  obtain⟨q,hq,rfl⟩:=lB hu;have hlen:=hf.1;rw [wU] at hlen
  have hk0:0<g.k:=by
   grind
  have hq1:q<c.2.length*g.k:=by rw [<-hlen];exact hq
  have:=hf.2.2 (q / g.k) (q%g.k) (by simp_all [wU,adv]) (XQ _ hk0);rw [show q / g.k*g.k+q%g.k=q by simp_all [XE,Nat.div_add_mod]] at this;have e:(cur.toList.take (c.2.length*g.k)).getD q undef=(cur.toList.take (c.2.length*g.k))[q]:=by simp_all
  rw [e] at this;exact this.one
 ·have:=hrun w' (hs (by rw [ho];rfl))
  simp_all
def Zq(P:aE)(ty:aD->O Ty)(st:TS E)(dst:O Nat):Op->O (Bool×TS E)
 | .alloc t=>match aU P t with
  | some ⟨.array n e,_,_,z0⟩=>match Nat.blt 8 n,aU P e,ty e with
   | true,some ie,some T=>match (xD E (some T) ie.zero).get T with
    | some z=>some (Nat.beq (T.size E) 1&&(Nat.ble n 9223372036854775807&&(Nat.beq z0.cells.size n&&(z0.cells.toList.all (aeq ie.zero)&&ie.zero.cells.toList.all (·.oneCell')))),
      {st with t:=b9 st.t dst (.gY st.g.length 0 1 0 0),g:=st.g++[⟨0,t,1⟩],c:=(st.g.length,⟨T,List.replicate n z⟩)::st.c})
    | none=>none
   | _,_,_=>none
  | _=>none
 | .box t x=>match aU P t,st.ev x with
  | some ⟨.array n _,_,_,_⟩,.sY T xs=>some (Nat.blt 0 (T.size E)&&(Nat.blt 0 n&&(Nat.ble n 9223372036854775807&&Nat.beq xs.length n)),
    {st with t:=b9 st.t dst (.gY st.g.length 0 (T.size E) 0 0),g:=st.g++[⟨0,t,T.size E⟩],c:=(st.g.length,⟨T,xs⟩)::st.c})
  | _,_=>none
 | .load t x=>match aU P t,st.ev x with
  | some i,.gY j aF k ix off=>match i.kind,st.g[j]?,nO st.c j with
   | .array _ _,some g,some c=>some (i.isAgg&&(Nat.beq g.aF aF&&(Nat.beq k (c.1.size E)&&(Nat.beq ix 0&&(Nat.beq off 0&&Nat.beq (c.2.length*k) i.size)))),{st with t:=b9 st.t dst (.sY c.1 c.2)})
   | _,_,_=>none
  | _,_=>none
 | _=>none
theorem aer(hE:E.Ok)(hr:Rel E w0 G0 st a w G){ty:aD->O Ty}{st':TS E}{cc:Bool}(h:Zq P ty st o.dst o.op=some (cc,st'))(o9:cc=true):jA P w0 G0 a w o st':=by
 have hmax:maxLen=9223372036854775807:=rfl;cases ho:o.op<;>rw [ho] at h<;>simp only [Zq] at h<;>try trivial
 case alloc t=>
  split at h<;>try trivial
  rename_i n e j1 j2 z0 ht;split at h<;>try trivial
  rename_i ie T h8 hi hT;split at h<;>try trivial
  rename_i z hz;cases h;simp only [cx] at o9;obtain⟨c1,c2,c3,c4,c5⟩:=o9;exact abI hE hr ho ht (eB c1) (Nat.lt_of_le_of_lt (fO 8) (lC h8)) (by simp_all) (eB c3) c4 c5 hz
 case box t x=>
  split at h<;>try trivial
  rename_i n e j1 j2 z0 T xs ht hx;cases h;simp only [cx] at o9;obtain⟨c1,c2,c3,c4⟩:=o9;exact agr hr ho hx (lC c1) (lC c2) (by simp_all) (eB c4)
 case load t x=>
  split at h<;>try trivial
  rename_i i j aF k ix off ht hx;split at h<;>try trivial
  rename_i g c hk hg hc;cases h;simp only [cx] at o9;obtain⟨c1,c2,c3,c4,c5,c6⟩:=o9;have c2:=eB c2;have c4:=eB c4;have c5:=eB c5;subst c2 c4 c5;exact (abJ hr ho ht c1 hx hg hc (eB c3) (eB c6)).aia hr
def aes(P:aE)(ty:aD->O Ty)(st:TS E)(dst:O Nat)(op:Op):O (Bool×TS E):=match Zq P ty st dst op with
 | some r=>some r
 | none=>X6 P ty st dst op
theorem aet(hE:E.Ok)(hr:Rel E w0 G0 st a w G){ty:aD->O Ty}{st':TS E}{c:Bool}(h:aes P ty st o.dst o.op=some (c,st'))(hc:c=true):jA P w0 G0 a w o st':=by
 grind [aes,aer,abF]
end
end Go.RT
namespace Go.RT
variable {E : TEnv}
section
variable {P : aE} {w0 w w' : U} {G0 G G' : aJ} {st : TS E} {a : Act} {o : Oper}
def SE(P:aE)(st:TS E):Op->O (Bool×TV E)
 | .indexAddr t x ix=>match aU P t,st.ev ix with
  | some ⟨.slice e,_,_,_⟩,.dat (.int _) m=>match aU P e,st.ev x with
   | some i,.gW r n cap=>some (Nat.beq i.size 1&&(decide (0<=m)&&decide (m<(n:Int))),.ptr r (Int.toNat m))
   | _,_=>none
  | _,_=>none
 | .call c=>match c.callee,c.args.toList,c.argTypes.toList with
  | .builtin .len,[x],[t]=>match aU P t,st.ev x with
   | some ⟨.slice _,_,_,_⟩,.gW r n cap=>some (true,.dat (.int .i64) (n:Int))
   | _,_=>none
  | _,_,_=>none
 | .load t x=>match aU P t,st.ev x with
  | some i,.ptr r off=>match st.H[r]? with
   | some (.kU e cap T xs d)=>some (Nat.beq i.size 1&&(!i.isAgg&&Nat.beq off xs.length),d)
   | _=>none
  | _,_=>none
 | _=>none
theorem Wd{w:U}{b n:Nat}{cur:aI Value}{e:aD}(h:w.heap[b]? = some (.cells cur e (0,0)))(hn:n<cur.size):w.cell? ⟨b,n,none⟩=some (cur.getD n undef):=by
 rw [cell_of_row w b n cur e (0,0) h];simp [hn]
theorem LB{t:aD}{i:TI}(hi:aU P t=some i)(hs:i.size=1)(ha:i.isAgg=false){b n:Nat}{v:Value}(W:U)(h:W.cell? ⟨b,n,none⟩=some v):(Instr.loadAt t (.pointer (some ⟨b,n,none⟩))).run P W=.ok v W:=by
 have hrow:=lX hi b n 1 (fun _=>v) (fun l hl=>by
  simp_all) 0 (by rw [ha];simp) W (eS.refl W)
 simp_all
theorem abK(hE:E.Ok)(hr:Rel E w0 G0 st a w G){d:TV E}{cc:Bool}(h:SE P st o.op=some (cc,d))(hc:cc=true):jb P a w G o d:=by
 cases ho:o.op<;>rw [ho] at h<;>simp [SE] at h<;>try trivial
 case indexAddr t x ix=>
  split at h<;>try trivial
  rename_i e j1 j2 z kd m ht hn;obtain⟨xt,jB,ec,-⟩:=aN ht;obtain⟨m,hm0⟩:∃q:Int,q=m:=⟨m,rfl⟩;have CN:=hr.ev ix;rw [hn] at CN;have Sh:=CN.fJ;split at h<;>try trivial
  rename_i i r n cap hi hx;obtain⟨xe,pV,zK,hsz,-⟩:=aN hi;cases h;simp at hc;have hv:=hr.ev x;rw [hx] at hv;obtain⟨b,kY,hat⟩:=hv;refine fK (f:=fun ρ=>Instr.indexAt t (ρ x) (ρ ix)) (by simp [execOp,ho]) ⟨.pointer (some ⟨b,m.toNat,none⟩),?_,fun w' hs=>?_⟩
  ·simp_all [VT]
  rw [kY];unfold Instr.indexAt asIntOf;simp [od,aQ ec]
  simp_all [and_self,if_true,iS,eW,jm,od,add_lit,pW,RC]
 case load t x=>
  split at h<;>try trivial
  rename_i i r off hi hx;split at h<;>try trivial
  rename_i e cap T xs d' hb;cases h;simp only [cx,FE] at hc;obtain⟨c1,c2,c3⟩:=hc;have c1:=eB c1;have c3:=eB c3;subst c3;have hv:=hr.ev x;rw [hx] at hv;obtain⟨b,kY,hat⟩:=hv;obtain⟨cur,h1,h2,h4,h5,h6⟩:=hr.box hat hb;refine⟨_,h5,fun w' hs=>?_⟩;have hb':w'.heap[b]? = some (.cells cur e (0,0)):=by rw [(hs (by rw [ho];rfl)).2 b (za.1 h1).1];exact h1
  have:=LB hi c1 c2 w' (Wd hb' (by rw [h2];exact h6));simp [execOp,ho,kY,this]
 case call c'=>
  split at h<;>try trivial
  rename_i x t hcl ha hat;have gu:c'.args=#[x]:=by grind
  have w8:c'.argTypes=#[t]:=by grind
  split at h<;>try trivial
  rename_i e j1 j2 z r n cap ht hx;cases h;have hv:=hr.ev x;rw [hx] at hv;obtain⟨b,kY,hat⟩:=hv;obtain⟨xt,jB,ec,-⟩:=aN ht;refine⟨_,.int _ _ _ _,fun w' hs=>?_⟩;unfold execOp;simp [ho,resolve,hcl,invoke,builtin,gu,w8];rw [kY];simp [Builtin.len_,aQ ec,goInt]
def TV.aim:TV E->O (J (TV E))
 | .dat t x=>cond t.isAgg (HA E 4 t x) none
 | .agg cs=>some cs
 | _=>none
theorem aeu(hE:E.Ok){d:TV E}{v:Value}{cs:J (TV E)}(hv:VT E w G d v)(h:d.aim=some cs):∃vs:aI Value,v=.agg vs/\bD E w G cs vs.toList:=by
 cases d<;>try trivial
 case dat t x=>
  simp only [TV.aim] at h;cases ha:t.isAgg<;>rw [ha] at h<;>simp only [bq,aS] at h
  ·cases h
  ·obtain⟨vs,rfl,h0⟩:=hv.aea ha
   exact⟨vs,rfl,xB hE 4 t x h0 h⟩
 case agg ds=>
  cases h;simp only [VT] at hv;obtain⟨vs,rfl,h1,h2⟩:=hv;exact⟨vs,rfl,h2⟩
def aev:J (TV E)->J (Nat×TV E)->O (J (TV E))
 | cs,[]=>some cs
 | cs,(j,d)::rest=>match d.nX with
  | some [u]=>cond (Nat.ble (j+1) cs.length) (aev (cs.take j++[u]++cs.drop (j+1)) rest) none
  | _=>none
theorem We(hE:E.Ok)(hr:Rel E w0 G0 st a w G):∀(parts:J (Nat×bx))(cells:aI Value)(ds:J (TV E)){ds':J (TV E)},bD E w G ds cells.toList->(∀u,u∈cells.toList->u.oneCell'=true) ->
  aev ds (parts.map fun p=>(p.1,st.ev p.2))=some ds' ->
  ∃cells':aI Value,Instr.fill (fun i=>some (i*1,1)) cells (parts.map fun p=>(p.1,a.eval p.2))=some cells'/\bD E w G ds' cells'.toList/\∀u,u∈cells'.toList->u.oneCell'=true
 | [],cells,ds,ds',h,h1,hf=>by cases hf;exact⟨cells,rfl,h,h1⟩
 | (j,x)::rest,cells,ds,ds',h,h1,hf=>by
  simp only [lD,aev] at hf;split at hf<;>try trivial
  rename_i u hl;cases hb:Nat.ble (j+1) ds.length<;>rw [hb] at hf<;>simp only [bq,aS] at hf
  ·cases hf
  have hle:=lC hb;obtain⟨hx,hx1⟩:=rI hE (hr.ev x) hl;have hlen:(a.eval x).cells.size=1:=by simpa using hx.length
  have hcl:cells.size=ds.length:=by simpa using h.length
  simp only [lD];rw [M7 (off:=j) (size:=1) si hlen om,hlen];refine We hE hr rest _ _ ?_ ?_ hf
  ·simp only []
   exact ((h.take _).append hx).append (h.drop _)
  ·intro u hu
   simp only [wX] at hu;rcases hu with (hu|hu)|hu
   ·exact h1 u (adh hu)
   ·exact hx1 u (by simpa using hu)
   ·exact h1 u (List.mem_of_mem_drop hu)
theorem acC{T:Ty}:∀ {ds:J (TV E)}{us:J Value}{xs:J (T.den E.D)},nu T ds=some xs->bD E w G ds us->∀m,m<xs.length->∃u,us[m]? = some u/\VT E w G (.dat T (xs.getD m (T.dflt E))) u
 | [],us,xs,h,hv,m,hm=>by simp only [nu] at h;cases h;simp at hm
 | d::ds,us,xs,h,hv,m,hm=>by
  simp only [nu] at h;split at h<;>try trivial
  rename_i x xs' e1 e2;cases h;obtain⟨u,us',rfl,q1,q2⟩:=hv.cons_inv
  cases m with
  | zero=>exact⟨u,rfl,TV.tH e1 q1⟩
  | succ m=>exact acC e2 q2 m (by simpa using hm)
def X8(P:aE)(ty:aD->O Ty)(st:TS E):Op->O (Bool×TV E)
 | .build t parts=>match aU P t with
  | some ⟨.array _ e,_,_,.agg z⟩=>match aU P e,aev (z.toList.map TV.Ju) (parts.toList.map fun p=>(p.1,st.ev p.2)) with
   | some i,some ds=>some (Nat.beq i.size 1&&z.toList.all (·.oneCell'),OX E (ty t) ds)
   | _,_=>none
  | _=>none
 | .index t x ix=>match aU P t,st.ev ix with
  | some ⟨.array n e,_,_,_⟩,.dat (.int _) m=>match aU P e,ty e,(st.ev x).aim with
   | some i,some T,some cs=>match nu T cs with
    | some xs=>some (Nat.beq i.size 1&&(!i.isAgg&&(Nat.beq n xs.length&&(decide (0<=m)&&decide (m<(n:Int))))),.dat T (xs.getD (Int.toNat m) (T.dflt E)))
    | none=>none
   | _,_,_=>none
  | _,_=>none
 | _=>none
theorem abL(hE:E.Ok)(hr:Rel E w0 G0 st a w G){ty:aD->O Ty}{d:TV E}{cc:Bool}(h:X8 P ty st o.op=some (cc,d))(hc:cc=true):jb P a w G o d:=by
 cases ho:o.op<;>rw [ho] at h<;>simp only [X8] at h<;>try trivial
 case build t parts=>
  split at h<;>try trivial
  rename_i n e j1 j2 z ht;split at h<;>try trivial
  rename_i i ds hi hp;cases h;rw [cx] at hc;have c1:=eB hc.1;obtain⟨xt,jB,ec,-,-,hz⟩:=aN ht;obtain⟨xe,pV,-,hsz,-⟩:=aN hi;obtain⟨cells,hf,hl,hl1⟩:=We hE hr parts.toList z (z.toList.map TV.Ju) bD.ofValues (fun u hu=>oX.1 hc.2 u hu) hp;refine fK (f:=fun ρ=>Instr.build t (parts.map fun (i,x)=>(i,ρ x))) (by simp [execOp,ho]) ⟨.agg cells,IE hE hl hl1,fun w' hs=>?_⟩;refine run_build w' t _ cells ?_;unfold Program.built;simp only [jB,ec,hz,pV,hsz,c1];rw [show (parts.map fun (i,x)=>(i,a.eval x)).toList=parts.toList.map fun p=>(p.1,a.eval p.2) by simp];exact hf
 case index t x ix=>
  split at h<;>try trivial
  rename_i n e j1 j2 z kd m ht hn;obtain⟨m,hm0⟩:∃q:Int,q=m:=⟨m,rfl⟩;subst hm0;have CN:=hr.ev ix;rw [hn] at CN;have Sh:=CN.fJ;split at h<;>try trivial
  rename_i i T cs hi hT hx;split at h<;>try trivial
  rename_i xs hxs;cases h;simp only [cx,FE,fX] at hc;obtain⟨c1,c2,c3,c4,c5⟩:=hc;have c1:=eB c1;have c3:=eB c3;have c4:(0:Int)<=m:=c4;have c5:m<(n:Int):=c5;obtain⟨xt,jB,ec,-⟩:=aN ht;obtain⟨xe,pV,-,hsz,-⟩:=aN hi;obtain⟨vs,kY,hvs⟩:=aeu hE (hr.ev x) hx;obtain⟨u,hu,hv⟩:=acC hxs hvs m.toNat om;refine fK (f:=fun ρ=>Instr.index t (ρ x) (ρ ix)) (by simp [execOp,ho]) ⟨u,hv,fun w' hs=>?_⟩;rw [kY,Sh];unfold Instr.index asIntOf part;have h3:(0<=m/\m<((n:Nat):Int)):=⟨c4,c5⟩;simp at hu;simp only [iS,od,jm,aQ ec,h3,and_self,if_true,eW pV,hsz,c1,RC,Sb hi,c2];simp [hu]
def SF(P:aE)(ty:aD->O Ty)(st:TS E)(o:Op):O (Bool×TV E):=match SD P ty st o with
 | some x=>some x
 | none=>match SE P st o with
  | some x=>some x
  | none=>X8 P ty st o
theorem Qc(hE:E.Ok)(hr:Rel E w0 G0 st a w G){ty:aD->O Ty}{d:TV E}{c:Bool}(h:SF P ty st o.op=some (c,d))(hc:c=true):jb P a w G o d:=by
 unfold SF at h;split at h
 ·rename_i x hx
  cases h;exact abH hE hr hx hc
 ·split at h
  ·rename_i x hx
   cases h;exact abK hE hr hx hc
  ·exact abL hE hr h hc
def aew(P:aE)(st:TS E)(dst:O Nat):Op->O (Bool×TS E)
 | .store t x y=>match aU P t,st.ev x,(st.ev y).nX with
  | some i,.ptr r off,some [u]=>match st.H[r]? with
   | some (.kU e cap T xs d)=>some (Nat.beq i.size 1&&Nat.beq off xs.length,{st with t:=b9 st.t dst .any,H:=st.H.set r (.kU e cap T xs u),d:=r::st.d})
   | _=>none
  | _,_,_=>none
 | _=>none
theorem aex(hE:E.Ok)(hr:Rel E w0 G0 st a w G){st':TS E}{c:Bool}(h:aew P st o.dst o.op=some (c,st'))(hc:c=true):jA P w0 G0 a w o st':=by
 cases ho:o.op<;>rw [ho] at h<;>simp [aew] at h<;>try trivial
 case store t x y=>
  split at h<;>try trivial
  rename_i i r off u ht hd hy;split at h<;>try trivial
  rename_i e cap T xs d hb;cases h;rw [cx] at hc;have c1:=eB hc.1;have c2:=eB hc.2;have yT:=hr.ev x;rw [hd] at yT;obtain⟨b,he,hat⟩:=yT;obtain⟨vs,hh,hsz,hxs,hdv,hlt⟩:=hr.box hat hb;obtain⟨hl,hl1⟩:=rI hE (hr.ev y) hy;have hlen:(a.eval y).cells.toList.length=1:=by rw [hl.length];rfl
  have hlen':(a.eval y).cells.size=i.size:=by rw [c1];simpa using hlen
  obtain⟨v,hv⟩:∃v,(a.eval y).cells.toList=[v]:=by
   match hq:(a.eval y).cells.toList,hlen with
   | [v],_=>exact⟨v,rfl⟩
  obtain⟨xt,jB,-,apt,-⟩:=aN ht;have hfit:xs.length+0+(a.eval y).cells.toList.length<=vs.size:=by rw [hsz];omega
  have Sq:=run_storeCells_at (P:=P) b xs.length e (a.eval y).cells.toList 0 vs w hh hfit (fun v hv=>hl1 v (by simpa using hv));obtain⟨new,hnw⟩:∃new,new=(vs.toList.take xs.length++(a.eval y).cells.toList++vs.toList.drop (xs.length+(a.eval y).cells.toList.length)).toArray:=⟨_,rfl⟩
  have hrun:(execOp a.eval o).run P w=.ok .skip (w.setRow b new):=by
   simp [execOp,ho,Instr.storeAt,Instr.sureAddr,he,storeVar,eW jB]
   simp_all
  have hnew:(w.setRow b new).heap[b]? = some (.cells new e (0,0)):=setRow_heap w b vs _ e _ hh;have Dt:∀b',b'≠b->(w.setRow b new).heap[b']? = w.heap[b']?:=fun b' hb'=>setRow_other w b b' _ hb';have tI:new.size=cap:=by grind
  have Nn:∀q,new.getD q undef=if q=xs.length then v else vs.getD q undef:=by
   intro q;rw [Uf,Uf];have htl:(vs.toList.take xs.length).length=xs.length:=by grind
   by_cases h1:q<xs.length
   ·grind
   ·by_cases h2:q=xs.length
    ·simp_all
    ·rw [if_neg h2]
     grind
  have hR:=hr.xC (w':=w.setRow b new) hat si rfl rfl rfl Dt (x:=.kU e cap T xs u) (fun hg=>by
   refine⟨new,hnew,tI,fun q x hx=>?_,?_,hlt⟩
   ·have hq:=(eO.1 hx).1
    rw [Nn,if_neg om];exact (hxs q x hx).mono hg
   ·rw [Nn,if_pos rfl]
    have:=hl.mono hg;rw [hv] at this;obtain⟨u',us,e1,h1,-⟩:=this.cons_inv;cases e1;exact h1)
  exact⟨_,undef,_,G,hrun,.inr ⟨rfl,rfl⟩,hR.put (by simp [VT]) o.dst⟩
def Zr(P:aE)(ty:aD->O Ty)(st:TS E)(dst:O Nat)(op:Op):O (Bool×TS E):=match Zo P ty st dst op with
 | some r=>some r
 | none=>match aes P ty st dst op with
  | some r=>some r
  | none=>aew P st dst op
theorem aey(hE:E.Ok)(hr:Rel E w0 G0 st a w G){ty:aD->O Ty}{st':TS E}{c:Bool}(h:Zr P ty st o.dst o.op=some (c,st'))(hc:c=true):jA P w0 G0 a w o st':=by
 grind [Zr,aem,aet,aex]
end
end Go.RT
namespace Go.RT
variable {E : TEnv}
inductive Zs where
 | ptr|iface|func|slice|map
 deriving DecidableEq
def Zs.val:Zs->Value
 | .ptr=>.pointer none
 | .iface=>.nilIface
 | .func=>.nilFunc
 | .slice=>.slice none 0 0
 | .map=>.map none
def ain:Value->O Zs
 | .pointer none=>some .ptr
 | .nilIface=>some .iface
 | .nilFunc=>some .func
 | .slice none 0 0=>some .slice
 | .map none=>some .map
 | _=>none
theorem akS{v:Value}{k:Zs}(h:ain v=some k):v=k.val:=by
 unfold ain at h;split at h<;>cases h<;>rfl
inductive CT where
 | dat (t:Ty)
 | any
 | ptr (r off:Nat)
 | o8 (r off:Nat)
 | iY (r:Nat)
 | tG (r:Nat)
 | cj (j:Nat) (t:Ty)
 | dZ (j:Nat)
 | func (f:FuncId) (caps:List (Nat×Nat))
 | nil (k:Zs)
 | rF (t:Ty) (off:Nat)
 | iface (ty:TypeId) (t:Ty)
 | gY (j k:Nat)
 | sY (t:Ty)
 | lb (b:Bool)
 | li (k:IntKind) (n:Int)
 | pk (t:Ty)
def CT.pk? : CT->O Ty
 | .pk t=>some t
 | _=>none
inductive PT where
 | one (c:CT)
 | agg (cs:List CT)
 | cY (cs:List CT)
inductive BT where
 | cells (ty:TypeId) (cs:List CT)
 | map (kt vt:Ty)
 | iter
 | loop (y:Nat) (cs:List CT)
def CT.tys:CT->J Ty
 | .dat t=>[t]
 | .o8 _ _=>[.bool]
 | .cj _ t=>[.aZ t]
 | .rF t _=>[t]
 | .iface _ t=>[t]
 | .sY t=>[.aZ t]
 | .pk t=>[t]
 | _=>[]
def CT.Zt:J CT->J Ty
 | []=>[]
 | c::cs=>c.tys++Zt cs
def PT.tys:PT->J Ty
 | .one c=>c.tys
 | .agg cs=>CT.Zt cs
 | .cY cs=>CT.Zt cs
def BT.tys:BT->J Ty
 | .cells _ cs=>CT.Zt cs
 | .loop _ cs=>CT.Zt cs
 | .map kt vt=>[.aZ (.pair kt vt)]
 | .iter=>[.str,.int .i64]
abbrev Lf(E:TEnv):=(t:Ty)×t.den E.D
@[reducible] def dens (E : TEnv) : J Ty -> Type
 | []=>Unit
 | [t]=>t.den E.D
 | t::u::ts=>t.den E.D×dens E (u::ts)
def X9(t:Ty)(x:Lf E):O (t.den E.D):=if h:x.1=t then some (h▸x.2) else none
def getAll:(ts:J Ty)->J (Lf E)->O (dens E ts)
 | [],[]=>some ()
 | [],_::_=>none
 | [t],[x]=>X9 t x
 | [_],[]=>none
 | [_],_::_::_=>none
 | t::u::ts,x::xs=>match X9 t x,getAll (u::ts) xs with
  | some y,some ys=>some (y,ys)
  | _,_=>none
 | _::_::_,[]=>none
def aP:(ts:J Ty)->dens E ts->J (Lf E)
 | [],_=>[]
 | [t],x=>[⟨t,x⟩]
 | t::u::ts,x=>⟨t,x.1⟩::aP (u::ts) x.2
theorem Zu{t:Ty}{x:Lf E}{y:t.den E.D}(h:X9 t x=some y):x=⟨t,y⟩:=by
 grind [X9]
theorem CP:∀(ts:J Ty){ls:J (Lf E)}{x:dens E ts},getAll ts ls=some x->aP ts x=ls
 | [],[],_,_=>rfl
 | [],_::_,_,h=>by cases h
 | [t],[l],x,h=>by grind [getAll,aP,Zu]
 | [_],[],_,h=>by cases h
 | [_],_::_::_,_,h=>by cases h
 | t::u::ts,l::ls,x,h=>by
  simp [getAll] at h;split at h<;>try trivial
  rename_i y ys h1 h2;cases h
  simp [aP,Zu h1,CP (u::ts) h2]
 | _::_::_,[],_,h=>by cases h
structure Rn where
 b:List Nat
 g:List Nat
 v:List Nat
def ve(a b c d:Nat):Bool:=Nat.beq a b&&Nat.beq c d
def Np(n:Rn):J (Nat×Nat)->J (TV E)->Bool
 | [],[]=>true
 | (r,off)::cs,d::ds=>(match n.b[r]?,d with
  | some r',.ptr r'' off'=>ve r' r'' off off'
  | _,_=>false)&&Np n cs ds
 | _,_=>false
def Fs(n:Rn):J (Nat×Nat)->J (TV E)
 | []=>[]
 | (r,off)::cs=>(match n.b[r]? with|some r'=>.ptr r' off|none=>.any)::Fs n cs
def CT.get(n:Rn):CT->TV E->O (J (Lf E))
 | .dat t,d=>match d.get t with|some x=>some [⟨t,x⟩]|none=>none
 | .any,_=>some []
 | .ptr r off,.ptr r' off'=>match n.b[r]? with
  | some r''=>cond (ve r'' r' off off') (some []) none
  | none=>none
 | .o8 r off,.o8 b r' off'=>match n.b[r]? with
  | some r''=>cond (ve r'' r' off off') (some [⟨.bool,b⟩]) none
  | none=>none
 | .o8 r off,.ptr r' off'=>match n.b[r]? with
  | some r''=>cond (ve r'' r' off off') (some [⟨.bool,true⟩]) none
  | none=>none
 | .o8 _ _,.val (.pointer none)=>some [⟨.bool,false⟩]
 | .iY r,.iY r'=>match n.b[r]? with
  | some r''=>cond (Nat.beq r'' r') (some []) none
  | none=>none
 | .tG r,.tG r'=>match n.b[r]? with
  | some r''=>cond (Nat.beq r'' r') (some []) none
  | none=>none
 | .cj j t,.cj j' aF t' xs=>match n.g[j]?,n.v[j]? with
  | some HH,some v=>if h:t'=t then cond (ve HH j' v aF) (some [⟨.aZ t,(h▸xs:J (t.den E.D))⟩]) none else none
  | _,_=>none
 | .func f caps,.func (.func f') cs=>cond (Nat.beq f f'&&Np n caps cs) (some []) none
 | .nil k,.val v=>match ain v with|some k'=>cond (decide (k=k')) (some []) none|none=>none
 | .rF t off,.rF t' y off'=>if h:t'=t then cond (Nat.beq off off') (some [⟨t,h▸y⟩]) none else none
 | .iface ty t,.iface ty' d=>match d.get t with|some x=>cond (Nat.beq ty ty') (some [⟨t,x⟩]) none|none=>none
 | .dZ j,.dZ j' aF=>match n.g[j]?,n.v[j]? with
  | some HH,some v=>cond (ve HH j' v aF) (some []) none
  | _,_=>none
 | .gY j k,.gY j' aF k' i off=>match n.g[j]?,n.v[j]? with
  | some HH,some v=>cond (ve HH j' v aF&&(Nat.beq k k'&&ve i 0 off 0)) (some []) none
  | _,_=>none
 | .sY t,.sY t' xs=>if h:t'=t then some [⟨.aZ t,(h▸xs:J (t.den E.D))⟩] else none
 | .lb b,.dat .bool x=>cond (b==x) (some []) none
 | .li k n,.dat (.int k') x=>cond (decide (k=k')&&decide (n=x)) (some []) none
 | _,_=>none
def CT.put(n:Rn):CT->J (Lf E)->TV E×J (Lf E)
 | .dat _,l::ls=>(.dat l.1 l.2,ls)
 | .ptr r off,ls=>(match n.b[r]? with|some r'=>.ptr r' off|none=>.any,ls)
 | .o8 r off,l::ls=>(match n.b[r]?,l with|some r',⟨.bool,b⟩=>.o8 b r' off|_,_=>.any,ls)
 | .iY r,ls=>(match n.b[r]? with|some r'=>.iY r'|none=>.any,ls)
 | .tG r,ls=>(match n.b[r]? with|some r'=>.tG r'|none=>.any,ls)
 | .cj j _,l::ls=>(match n.g[j]?,n.v[j]?,l with|some j',some v,⟨.aZ t,xs⟩=>.cj j' v t xs|_,_,_=>.any,ls)
 | .func f caps,ls=>(.func (.func f) (Fs n caps),ls)
 | .nil k,ls=>(.val k.val,ls)
 | .rF _ off,l::ls=>(.rF l.1 l.2 off,ls)
 | .iface ty _,l::ls=>(.iface ty (.dat l.1 l.2),ls)
 | .dZ j,ls=>(match n.g[j]?,n.v[j]? with|some j',some v=>.dZ j' v|_,_=>.any,ls)
 | .gY j k,ls=>(match n.g[j]?,n.v[j]? with|some j',some v=>.gY j' v k 0 0|_,_=>.any,ls)
 | .sY _,l::ls=>(match l with|⟨.aZ t,xs⟩=>.sY t xs|_=>.any,ls)
 | .lb b,ls=>(.dat .bool b,ls)
 | .li k n,ls=>(.dat (.int k) n,ls)
 | _,ls=>(.any,ls)
def CT.amF(t:Ty)(ds:J (TV E)):O (t.den E.D×J (TV E)):=match M6 E 4 t ds with
 | some p=>match HA E 4 t p.1 with
  | some _=>some p
  | none=>none
 | none=>none
def CT.KB:J (Lf E)->J (TV E)×J (Lf E)
 | l::ls=>(match HA E 4 l.1 l.2 with|some cs=>cs|none=>[],ls)
 | []=>([],[])
def CT.IJ(n:Rn):J CT->J (TV E)->O (J (Lf E))
 | [],[]=>some []
 | [],_::_=>none
 | c::cs,ds=>match c.pk? with
  | some t=>match CT.amF t ds with
   | some p=>match IJ n cs p.2 with
    | some ls=>some (⟨t,p.1⟩::ls)
    | none=>none
   | none=>none
  | none=>match ds with
   | d::ds=>match c.get n d,IJ n cs ds with
    | some l,some ls=>some (l++ls)
    | _,_=>none
   | []=>none
def CT.ox(n:Rn):J CT->J (Lf E)->J (TV E)×J (Lf E)
 | [],ls=>([],ls)
 | c::cs,ls=>match c.pk? with
  | some _=>((CT.KB ls).1++(ox n cs (CT.KB ls).2).1,(ox n cs (CT.KB ls).2).2)
  | none=>((c.put n ls).1::(ox n cs (c.put n ls).2).1,(ox n cs (c.put n ls).2).2)
def PT.get(n:Rn):PT->TV E->O (J (Lf E))
 | .one c,d=>c.get n d
 | .agg cs,.agg ds=>CT.IJ n cs ds
 | .cY cs,.tuple ds=>CT.IJ n cs ds
 | _,_=>none
def PT.put(n:Rn):PT->J (Lf E)->TV E×J (Lf E)
 | .one c,ls=>c.put n ls
 | .agg cs,ls=>(.agg (CT.ox n cs ls).1,(CT.ox n cs ls).2)
 | .cY cs,ls=>(.tuple (CT.ox n cs ls).1,(CT.ox n cs ls).2)
def BT.get(n:Rn):BT->eZ E->O (J (Lf E))
 | .cells ty cs,.cells ty' ds=>cond (Nat.beq ty ty') (CT.IJ n cs ds) none
 | .map kt vt,.map kt' vt' m=>if h:Ty.aZ (.pair kt' vt')=.aZ (.pair kt vt) then some [⟨.aZ (.pair kt vt),(h▸(show (Ty.aZ (.pair kt' vt')).den E.D from m):(Ty.aZ (.pair kt vt)).den E.D)⟩] else none
 | .iter,.iter s pos=>some [⟨.str,s⟩,⟨.int .i64,(pos:Int)⟩]
 | .loop y cs,.loop y' ds=>cond (Nat.beq y y') (CT.IJ n cs ds) none
 | _,_=>none
def BT.put(n:Rn):BT->J (Lf E)->eZ E×J (Lf E)
 | .cells ty cs,ls=>(.cells ty (CT.ox n cs ls).1,(CT.ox n cs ls).2)
 | .loop y cs,ls=>(.loop y (CT.ox n cs ls).1,(CT.ox n cs ls).2)
 | .map _ _,l::ls=>(match l with|⟨.aZ (.pair kt vt),m⟩=>.map kt vt m|_=>.iter [] 0,ls)
 | .iter,l::l'::ls=>(match l,l' with|⟨.str,s⟩,⟨.int _,p⟩=>.iter s (Int.toNat p)|_,_=>.iter [] 0,ls)
 | _,ls=>(.iter [] 0,ls)
structure BM(w:World)(G:aJ)(n:Rn)(G2:aJ)(n2:Rn):Prop where
 pr:∀b o,G.pr b o->G2.pr b o
 i:∀(r r' b:Nat),n.b[r]? = some r'->G.i[r']? = some b->∃r2,n2.b[r]? = some r2/\G2.i[r2]? = some b
 g:∀(j j' v:Nat) x h,n.g[j]? = some j'->n.v[j]? = some v->G.g[j']? = some (x,h)->x.aF=v/\∃j2 v2 x2,n2.g[j]? = some j2/\n2.v[j]? = some v2/\G2.g[j2]? = some (x2,h)/\x2.aF=v2
theorem yV{a b c d:Nat}(h:ve a b c d=true):a=b/\c=d:=by
 simp_all [ve,cx,eB]
section
variable {w : U} {G G2 : aJ} {n n2 : Rn}
theorem VT.rM{t:Ty}{x:t.den E.D}{v:Value}(h:VT E w G (.dat t x) v)(hp:∀b o,G.pr b o->G2.pr b o):VT E w G2 (.dat t x) v:=by
 cases ha:t.isAgg
 ·exact .OW ha ((h.atom ha).mono hp (fun _ _ _ _ h=>h))
 ·obtain⟨vs,rfl,h0⟩:=h.aea ha
  simp only [VT,ha];exact⟨vs,rfl,h0.mono hp (fun _ _ _ _ h=>h)⟩
theorem acD(hL:BM w G n G2 n2):∀(caps:J (Nat×Nat)){cs:J (TV E)}{vs:J Value},Np n caps cs=true->bD E w G cs vs->bD E w G2 (Fs n2 caps:J (TV E)) vs
 | [],[],vs,_,h=>h
 | (r,off)::caps,d::ds,vs,hc,h=>by
  simp [Np] at hc;obtain⟨u,us,rfl,h1,h2⟩:=h.cons_inv;obtain⟨hc1,Jt⟩:=hc;split at hc1<;>try trivial
  rename_i r' r'' off' hr;obtain⟨rfl,rfl⟩:=yV hc1;obtain⟨b,rfl,hb⟩:=h1;obtain⟨r2,hr2,o5⟩:=hL.i r r' b hr hb;refine .cons ?_ (acD hL caps Jt h2)
  simp_all [VT]
 | [],_::_,_,hc,_=>by cases hc
 | (_,_)::_,[],_,hc,_=>by cases hc
theorem CT.sound(hL:BM w G n G2 n2){c:CT}{d:TV E}{ls rest:J (Lf E)}{v:Value}(h:c.get n d=some ls)(hv:VT E w G d v):
  (c.put n2 (ls++rest)).2=rest/\VT E w G2 (c.put n2 (ls++rest)).1 v:=by
 unfold CT.get at h;split at h<;>try trivial
 ·split at h<;>try trivial
  rename_i t x hx;cases h;exact⟨rfl,(TV.tH hx hv).rM hL.pr⟩
 ·simp_all [CT.put,pY,uN,VT]
 ·rename_i r off r' off'
  split at h<;>try trivial
  rename_i r'' hr;cases hb:ve r'' r' off off'<;>rw [hb] at h<;>simp only [bq,aS] at h
  ·cases h
  obtain⟨rfl,rfl⟩:=yV hb;obtain⟨b,rfl,hb⟩:=hv;obtain⟨r2,hr2,o5⟩:=hL.i r r'' b hr hb
  simp_all [CT.put,pY,uN,VT]
 ·rename_i r off bb r' off'
  split at h<;>try trivial
  rename_i r'' hr;cases hb:ve r'' r' off off'<;>rw [hb] at h<;>simp only [bq,aS] at h
  ·cases h
  cases h;obtain⟨rfl,rfl⟩:=yV hb;cases bb<;>simp only [VT] at hv
  ·simp only [CT.put,wW,pY,uN]
   grind [VT]
  ·obtain⟨b,rfl,hb⟩:=hv
   obtain⟨r2,hr2,o5⟩:=hL.i r r'' b hr hb
   simp_all [CT.put,wW,pY,uN,VT]
 ·rename_i r off r' off'
  split at h<;>try trivial
  rename_i r'' hr;cases hb:ve r'' r' off off'<;>rw [hb] at h<;>simp only [bq,aS] at h
  ·cases h
  cases h;obtain⟨rfl,rfl⟩:=yV hb;obtain⟨b,rfl,hb⟩:=hv;obtain⟨r2,hr2,o5⟩:=hL.i r r'' b hr hb
  simp_all [CT.put,wW,pY,uN,VT]
 ·cases h
  simp only [CT.put,wW,pY,uN]
  grind [VT]
 ·rename_i r r'
  split at h<;>try trivial
  rename_i r'' hr;cases hb:Nat.beq r'' r'<;>rw [hb] at h<;>simp only [bq,aS] at h
  ·cases h
  obtain rfl:=eB hb;obtain⟨b,rfl,hb⟩:=hv;obtain⟨r2,hr2,o5⟩:=hL.i r r'' b hr hb
  simp_all [CT.put,pY,uN,VT]
 ·rename_i r r'
  split at h<;>try trivial
  rename_i r'' hr;cases hb:Nat.beq r'' r'<;>rw [hb] at h<;>simp only [bq,aS] at h
  ·cases h
  obtain rfl:=eB hb;obtain⟨b,rfl,hb⟩:=hv;obtain⟨r2,hr2,o5⟩:=hL.i r r'' b hr hb
  simp_all [CT.put,pY,uN,VT]
 ·rename_i j t j' aF t' xs
  split at h<;>try trivial
  rename_i HH vv hj CQ;split at h<;>try trivial
  rename_i ht;subst ht;cases hb:ve HH j' vv aF<;>rw [hb] at h<;>simp only [bq,aS] at h
  ·cases h
  cases h;obtain⟨rfl,rfl⟩:=yV hb;obtain⟨zG,x,hh,hg,hle,heq⟩:=hv;obtain⟨SG,j2,v2,x2,q1,q2,q3,q4⟩:=hL.g j HH vv x hh hj CQ hg;simp only [CT.put,q1,q2,wW,pY,uN,VT];refine⟨zG.mono hL.pr (fun _ _ _ _ h=>h),x2,hh,q3,om,fun _=>heq SG.symm⟩
 ·rename_i f caps f' cs
  cases hb:(Nat.beq f f'&&Np n caps cs)<;>rw [hb] at h<;>simp only [bq,aS] at h
  ·cases h
  rw [cx] at hb;obtain rfl:=eB hb.1;simp only [VT] at hv;simp only [CT.put,pY,uN,VT]
  grind [acD]
 ·rename_i k u
  split at h<;>try trivial
  rename_i k' hk;cases hb:decide (k=k')<;>rw [hb] at h<;>simp only [bq,aS] at h
  ·cases h
  cases h;simp only [fX] at hb;subst hb;subst hv;simp only [CT.put,pY,uN,VT];exact akS hk
 ·rename_i t off t' y off'
  split at h<;>try trivial
  rename_i ht;subst ht;cases hb:Nat.beq off off'<;>rw [hb] at h<;>simp only [bq,aS] at h
  ·cases h
  cases h;obtain rfl:=eB hb;obtain⟨b,o,c,rfl,h1,h2⟩:=hv;simp only [CT.put,wW,pY,uN,VT];exact⟨b,o,c,rfl,h1.mono hL.pr (fun _ _ _ _ h=>h),fun l u hl=>⟨hL.pr _ _ (h2 l u hl).1,(h2 l u hl).2⟩⟩
 ·rename_i ty t ty' d'
  split at h<;>try trivial
  rename_i x hx;cases hb:Nat.beq ty ty'<;>rw [hb] at h<;>simp only [bq,aS] at h
  ·cases h
  cases h;obtain rfl:=eB hb;obtain⟨u,rfl,hu⟩:=hv;simp only [CT.put,wW,pY,uN,VT];exact⟨u,rfl,(TV.tH hx hu).rM hL.pr⟩
 ·rename_i j j' aF
  split at h<;>try trivial
  rename_i HH vv hj CQ;cases hb:ve HH j' vv aF<;>rw [hb] at h<;>simp only [bq,aS] at h
  ·cases h
  obtain⟨rfl,rfl⟩:=yV hb;obtain⟨x,hh,hg,hle,h1,heq⟩:=hv;obtain⟨SG,j2,v2,x2,q1,q2,q3,q4⟩:=hL.g j HH vv x hh hj CQ hg;simp only [CT.put,q1,q2,pY,uN,VT]
  grind
 ·rename_i j k j' aF k' i off
  split at h<;>try trivial
  rename_i HH vv hj CQ;cases hb:(ve HH j' vv aF&&(Nat.beq k k'&&ve i 0 off 0))<;>rw [hb] at h<;>simp only [bq,aS] at h
  ·cases h
  rw [cx,cx] at hb;obtain⟨xj,o5,YW⟩:=hb;obtain⟨rfl,rfl⟩:=yV xj;obtain⟨rfl,rfl⟩:=yV YW;obtain⟨x,hh,hg,hle,h1,heq⟩:=hv;obtain⟨SG,j2,v2,x2,q1,q2,q3,q4⟩:=hL.g j HH vv x hh hj CQ hg;simp only [CT.put,q1,q2,pY,uN,VT]
  grind
 ·split at h<;>try trivial
  rename_i ht;subst ht;cases h;obtain⟨vs,rfl,h1,h2⟩:=hv;simp only [CT.put,wW,pY,uN,VT];exact⟨vs,rfl,h1,h2.mono hL.pr (fun _ _ _ _ h=>h)⟩
 ·rename_i b x
  cases hb:(b==x)<;>rw [hb] at h<;>simp only [bq,aS] at h
  ·cases h
  cases h;rw [uh] at hb;subst hb;refine⟨rfl,?_⟩;rw [VT.lI hv];exact .bool _ _ _
 ·rename_i k n k' x
  cases hb:(decide (k=k')&&decide (n=x))<;>rw [hb] at h<;>simp only [bq,aS] at h
  ·cases h
  cases h;rw [cx,fX,fX] at hb;obtain⟨rfl,rfl⟩:=hb;refine⟨rfl,?_⟩;rw [VT.fJ hv];exact .int _ _ _ _
theorem CT.Nq(hE:E.Ok)(hL:BM w G n G2 n2):∀ {cs:J CT}{ds:J (TV E)}{ls rest:J (Lf E)}{vs:J Value},CT.IJ n cs ds=some ls->bD E w G ds vs ->
  (CT.ox n2 cs (ls++rest)).2=rest/\bD E w G2 (CT.ox n2 cs (ls++rest)).1 vs
 | [],[],ls,rest,vs,h,hv=>by cases h;simp [bD] at hv;subst hv;exact⟨rfl,bD.nil⟩
 | c::cs,ds,ls,rest,vs,h,hv=>by
  unfold CT.IJ at h;unfold CT.ox;split at h
  ·rename_i t ht
   split at h<;>try trivial
   rename_i p hp;split at h<;>try trivial
   rename_i ls' h2;cases h;unfold CT.amF at hp;split at hp<;>try trivial
   rename_i p' hp';split at hp<;>try trivial
   rename_i fc V4;cases hp;obtain⟨us,ts,rfl,q1,q2⟩:=zI hE 4 t hv hp';obtain⟨e3,e4⟩:=CT.Nq hE hL h2 q2;simp [ht,CT.KB,V4];exact⟨e3,(xB hE 4 t p.1 (q1.mono hL.pr (fun _ _ _ _ h=>h)) V4).append e4⟩
  ·rename_i ht
   split at h<;>try trivial
   split at h<;>try trivial
   rename_i l ls' h1 h2;cases h;obtain⟨u,us,rfl,q1,q2⟩:=hv.cons_inv;obtain⟨e1,e2⟩:=CT.sound hL (rest:=ls'++rest) h1 q1;obtain⟨e3,e4⟩:=CT.Nq hE hL h2 q2;simp [ht,e1]
   exact⟨e3,.cons e2 e4⟩
 | [],_::_,_,_,_,h,_=>by cases h
theorem PT.sound(hE:E.Ok)(hL:BM w G n G2 n2){p:PT}{d:TV E}{ls rest:J (Lf E)}{v:Value}(h:p.get n d=some ls)(hv:VT E w G d v):
  (p.put n2 (ls++rest)).2=rest/\VT E w G2 (p.put n2 (ls++rest)).1 v:=by
 unfold PT.get at h
 grind [CT.sound,VT,CT.Nq,PT.put]
theorem fV.pr{kt vt:Ty}(hp:∀b o,G.pr b o->G2.pr b o):∀ {es:J MapEntry}{m:J (kt.den E.D×vt.den E.D)},fV E w G kt vt es m->fV E w G2 kt vt es m
 | [],[],_=>trivial
 | _::_,_::_,h=>⟨h.1.rM hp,h.2.1.rM hp,fV.pr hp h.2.2⟩
 | [],_::_,h=>h.elim
 | _::_,[],h=>h.elim
theorem BT.sound(hE:E.Ok)(hL:BM w G n G2 n2){t:BT}{x:eZ E}{ls rest:J (Lf E)}{b:Nat}(h:t.get n x=some ls)(hv:jE E w G b x):
  (t.put n2 (ls++rest)).2=rest/\jE E w G2 b (t.put n2 (ls++rest)).1:=by
 unfold BT.get at h;split at h<;>try trivial
 ·rename_i ty cs ty' ds
  cases hb:Nat.beq ty ty'<;>rw [hb] at h<;>simp only [bq,aS] at h
  ·cases h
  obtain rfl:=eB hb;obtain⟨vs,h1,h2,h3⟩:=hv;obtain⟨e1,e2⟩:=CT.Nq hE hL h h3;exact⟨e1,vs,h1,h2,e2⟩
 ·split at h<;>try trivial
  rename_i he;have he':=he;obtain⟨rfl,rfl⟩:=he';cases h;obtain⟨es,clock,h1,h2,h3⟩:=hv;refine⟨rfl,?_⟩;exact⟨es,clock,h1,h2,h3.pr hL.pr⟩
 ·cases h
  exact⟨rfl,hv⟩
 ·rename_i y cs y' ds
  cases hb:Nat.beq y y'<;>rw [hb] at h<;>simp only [bq,aS] at h
  ·cases h
  obtain rfl:=eB hb;obtain⟨Y,fn,tmps,D,h0,h1,h2⟩:=hv;obtain⟨e1,e2⟩:=CT.Nq hE hL h h2;exact⟨e1,Y,fn,tmps,D,h0,h1,e2⟩
end
end Go.RT
namespace Go.RT
variable {E : TEnv}
structure Cut where
 vars:List (Nat×PT)
 boxes:List (Option BT)
 rows:List (Option (TypeId×Nat))
 soft:List (Nat×Ty)
def acE:J (Nat×PT)->J Ty
 | []=>[]
 | v::vs=>v.2.tys++acE vs
def KC:J (O BT)->J Ty
 | []=>[]
 | some b::bs=>b.tys++KC bs
 | none::bs=>KC bs
def O1:J (Nat×Ty)->J Ty
 | []=>[]
 | p::ps=>.aZ p.2::O1 ps
def Cut.tys(c:Cut):J Ty:=acE c.vars++(KC c.boxes++O1 c.soft)
def JA(f:Nat->O Nat)(cs:J (Nat×Cn E)):J (Nat×Ty)->O (J (Lf E))
 | []=>some []
 | p::ps=>match f p.1 with
  | some j=>match nO cs j,JA f cs ps with
   | some c,some ls=>if h:c.1=p.2 then some (⟨.aZ p.2,(h▸c.2:J (p.2.den E.D))⟩::ls) else none
   | _,_=>none
  | none=>none
def mD(f:Nat->O Nat):J (Nat×Ty)->J (Lf E)->J (Nat×Cn E)
 | [],_=>[]
 | p::ps,l::ls=>match f p.1,l with
  | some j,⟨.aZ t,xs⟩=>(j,⟨t,xs⟩)::mD f ps ls
  | _,_=>mD f ps ls
 | _::_,[]=>[]
theorem Cj{f f2:Nat->O Nat}{cs:J (Nat×Cn E)}:∀ {ps:J (Nat×Ty)}{ls:J (Lf E)}(rest:J (Lf E)),JA f cs ps=some ls->∀ {i:Nat}{c:Cn E},(i,c)∈mD f2 ps (ls++rest) ->
  ∃q j,(∃t,(q,t)∈ps)/\f q=some j/\f2 q=some i/\(j,c)∈cs
 | [],ls,rest,h,i,c,hm=>by cases hm
 | p::ps,ls,rest,h,i,c,hm=>by
  simp [JA] at h;split at h<;>try trivial
  rename_i j hj;split at h<;>try trivial
  rename_i c' ls' h1 h2;split at h<;>try trivial
  rename_i ht;cases h;obtain⟨t',xs⟩:=c';obtain⟨q,t⟩:=p;dsimp only at ht;subst ht;simp [mD] at hm
  cases hf:f2 q with
  | none=>
   rw [hf] at hm;obtain⟨q',j',⟨t1,e0⟩,e1⟩:=Cj rest h2 hm
   exact⟨q',j',⟨t1,pX _ e0⟩,e1⟩
  | some i'=>
   rw [hf] at hm;rcases iq.1 hm with e|hm
   ·cases e
    exact⟨q,j,⟨t',Mz ..⟩,hj,hf,QO h1⟩
   ·obtain⟨q',j',⟨t1,e0⟩,e1⟩:=Cj rest h2 hm
    exact⟨q',j',⟨t1,pX _ e0⟩,e1⟩
def below(n:Nat):J (Nat×Ty)->Bool
 | []=>true
 | p::ps=>Nat.blt p.1 n&&below n ps
theorem Zv{n:Nat}:∀ {ps:J (Nat×Ty)},below n ps=true->∀q t,(q,t)∈ps->q<n
 | [],_,q,t,h=>by cases h
 | p::ps,hb,q,t,h=>by
  simp [below] at hb;rcases iq.1 h with e|h
  ·rw [<-e] at hb;simp_all
  ·exact Zv hb.2 q t h
def xE:J (O (aD×Nat))->J bQ->J bQ->Bool
 | [],_,_=>true
 | none::rs,x::g0,y::g=>(Nat.beq x.aF y.aF&&(Nat.beq x.e y.e&&Nat.beq x.k y.k))&&xE rs g0 g
 | some p::rs,x::g0,y::g=>(Nat.beq p.1 y.e&&Nat.beq p.2 y.k)&&xE rs g0 g
 | some p::rs,[],y::g=>(Nat.beq p.1 y.e&&Nat.beq p.2 y.k)&&xE rs [] g
 | _,_,_=>false
def dN:J (O (aD×Nat))->J bQ->J bQ
 | [],_=>[]
 | none::rs,x::g0=>x::dN rs g0
 | some p::rs,x::g0=>⟨x.aF+1,p.1,p.2⟩::dN rs g0
 | some p::rs,[]=>⟨0,p.1,p.2⟩::dN rs []
 | none::rs,[]=>⟨0,0,0⟩::dN rs []
def gA:J (O (aD×Nat))->J bQ->J (bQ×Value)->J (bQ×Value)
 | none::rs,_::g0,y::gs=>y::gA rs g0 gs
 | some _::rs,x::g0,y::gs=>({y.1 with aF:=x.aF+1},y.2)::gA rs g0 gs
 | some _::rs,[],y::gs=>({y.1 with aF:=0},y.2)::gA rs [] gs
 | _,_,_=>[]
theorem HI:∀(rows:J (O (aD×Nat)))(g0:J bQ)(gs:J (bQ×Value)),xE rows g0 (gs.map (·.1))=true ->
  (gA rows g0 gs).map (·.1)=dN rows g0/\(gA rows g0 gs).length=rows.length/\rows.length<=gs.length /\
  ∀(j:Nat) y,gs[j]? = some y->j<rows.length->∃y2,(gA rows g0 gs)[j]? = some y2/\y2.2=y.2/\y2.1.e=y.1.e/\y2.1.k=y.1.k/\∀x0,g0[j]? = some x0->y2.1.aF=y.1.aF\/x0.aF<y2.1.aF
 | [],g0,gs,h=>by
  simp_all [gA,dN]
 | none::rs,x::g0,y::gs,h=>by
  simp [xE] at h;obtain⟨⟨h1,h2,h3⟩,h4⟩:=h;obtain⟨i1,i2,i3,i4⟩:=HI rs g0 gs h4
  have hxy:y.1=x:=by
   obtain⟨a',b',c'⟩:=x
   simp_all
  grind [gA,dN]
 | some p::rs,x::g0,y::gs,h=>by
  simp only [lD,xE,cx] at h;obtain⟨⟨h1,h2⟩,h4⟩:=h;obtain⟨i1,i2,i3,i4⟩:=HI rs g0 gs h4;have e1:=eB h1;have e2:=eB h2;refine⟨by grind [gA,dN],by simp [gA,i2],by simpa using i3,fun j z hz hj=>?_⟩
  cases j with
  | zero=>simp at hz;subst hz;exact⟨_,rfl,rfl,rfl,rfl,fun x0 hx=>by simp_all⟩
  | succ j=>grind [gA]
 | some p::rs,[],y::gs,h=>by
  simp only [lD,xE,cx] at h;obtain⟨⟨h1,h2⟩,h4⟩:=h;obtain⟨i1,i2,i3,i4⟩:=HI rs [] gs h4;have e1:=eB h1;have e2:=eB h2;refine⟨by simp [gA,dN,i1,e1,e2],by simp [gA,i2],by simpa using i3,fun j z hz hj=>?_⟩
  cases j with
  | zero=>simp at hz;subst hz;exact⟨_,rfl,rfl,rfl,rfl,fun x0 hx=>by simp at hx⟩
  | succ j=>simpa [gA] using i4 j z (by simpa using hz) (by simpa using hj)
 | none::rs,[],gs,h=>by cases gs<;>cases h
 | none::rs,_::_,[],h=>by cases h
 | some _::rs,[],[],h=>by cases h
 | some _::rs,_::_,[],h=>by cases h
def O2(n:Rn)(st:TS E):J (Nat×PT)->O (J (Lf E))
 | []=>some []
 | (i,p)::vs=>match p.get n (st.at i),O2 n st vs with
  | some l,some ls=>some (l++ls)
  | _,_=>none
def nP(n:Rn)(d:J Nat)(nb:Nat):Nat->J (O BT)->J (eZ E)->O (J (Lf E))
 | _,[],_=>some []
 | r,none::bs,_::H=>cond (d.elem r || !(Nat.blt r nb)) none (nP n d nb (r+1) bs H)
 | r,some t::bs,x::H=>match t.get n x,nP n d nb (r+1) bs H with
  | some l,some ls=>some (l++ls)
  | _,_=>none
 | _,_::_,[]=>none
def since(d0 d:J Nat):J Nat:=d.take (d.length-d0.length)
theorem ags(n d0:J Nat):since d0 (n++d0)=n:=by simp [since]
def Cut.leaves(c:Cut)(bJ st:TS E):Option (J (Lf E)):=
 cond (below c.rows.length c.soft&&(Nat.ble bJ.H.length c.boxes.length&&(Nat.ble bJ.g.length c.rows.length&&xE c.rows bJ.g st.g)))
  (match O2 ⟨List.range c.boxes.length,List.range c.rows.length,st.g.map (·.aF)⟩ st c.vars,nP ⟨List.range c.boxes.length,List.range c.rows.length,st.g.map (·.aF)⟩ (since bJ.d st.d) bJ.H.length 0 c.boxes st.H,JA some st.c c.soft with
   | some a,some b,some e=>some (a++(b++e))
   | _,_,_=>none) none
def mO(W:J Nat):Nat->J (TV E)->J (TV E)
 | _,[]=>[]
 | i,d::ds=>cond (W.elem i) .any d::mO W (i+1) ds
def mu(n:Rn):J (Nat×PT)->J (TV E)->J (Lf E)->J (TV E)×J (Lf E)
 | [],t,ls=>(t,ls)
 | (i,p)::vs,t,ls=>mu n vs (t.set i (p.put n ls).1) (p.put n ls).2
def eE(n:Rn):J (Option BT)->J (eZ E)->J (Lf E)->J (eZ E)
 | [],_,_=>[]
 | none::bs,H,ls=>(match H with|x::_=>x | []=>default)::eE n bs H.tail ls
 | some t::bs,H,ls=>(t.put n ls).1::eE n bs H.tail (t.put n ls).2
def oM:J (O BT)->J (Lf E)->J (Lf E)
 | [],ls=>ls
 | none::bs,ls=>oM bs ls
 | some t::bs,ls=>oM bs (t.put ⟨[],[],[]⟩ ls).2
def CR:Nat->J (O BT)->J Nat
 | _,[]=>[]
 | r,none::bs=>CR (r+1) bs
 | r,some _::bs=>r::CR (r+1) bs
def Cut.unpack(c:Cut)(W:J Nat)(bJ:TS E)(ls:J (Lf E)):TS E:=
 let n:Rn:=⟨List.range c.boxes.length,List.range c.rows.length,(dN c.rows bJ.g).map (·.aF)⟩
 {t:=(mu n c.vars (mO W 0 bJ.t) ls).1
  H:=eE n c.boxes bJ.H (mu n c.vars (mO W 0 bJ.t) ls).2
  g:=dN c.rows bJ.g
  d:=CR 0 c.boxes++bJ.d
  df:=bJ.df
  c:=mD some c.soft (oM c.boxes (mu n c.vars (mO W 0 bJ.t) ls).2)}
mutual
def TV.Bd(nb:Nat)(g:J bQ):TV E->Prop
 | .ptr r _=>r<nb
 | .o8 b r _=>b=true->r<nb
 | .iY r=>r<nb
 | .tG r=>r<nb
 | .gW r _ _=>r<nb
 | .cj j aF _ _=>∃x,g[j]? = some x/\aF<=x.aF
 | .P0 j aF _=>∃x,g[j]? = some x/\aF<=x.aF
 | .dZ j aF=>∃x,g[j]? = some x/\aF<=x.aF
 | .gY j aF _ _ _=>∃x,g[j]? = some x/\aF<=x.aF
 | .sY _ _=>True
 | .func _ caps=>TV.CS nb g caps
 | .FU _ fs=>TV.CS nb g fs
 | .iface _ d=>TV.Bd nb g d
 | .agg cs=>TV.CS nb g cs
 | .tuple ds=>TV.CS nb g ds
 | .any=>True
 | .dat _ _=>True
 | .rF _ _ _=>True
 | .val _=>True
def TV.CS(nb:Nat)(g:J bQ):J (TV E)->Prop
 | []=>True
 | d::ds=>TV.Bd nb g d/\TV.CS nb g ds
end
section
variable {w : U} {G G2 : aJ}
mutual
theorem VT.bd:∀ {d:TV E}{v:Value},VT E w G d v->TV.Bd G.i.length (G.g.map (·.1)) d
 | .any,_,_=>by simp only [TV.Bd]
 | .dat _ _,_,_=>by simp only [TV.Bd]
 | .rF _ _ _,_,_=>by simp only [TV.Bd]
 | .val _,_,_=>by simp only [TV.Bd]
 | .sY _ _,_,_=>by simp only [TV.Bd]
 | .ptr r off,v,h=>by
  simp only [VT] at h;simp only [TV.Bd];obtain⟨b,-,h⟩:=h
  exact (eO.1 h).1
 | .o8 c r off,v,h=>by
  simp only [TV.Bd];intro hc;subst hc;simp only [VT] at h;obtain⟨b,-,h⟩:=h
  exact (eO.1 h).1
 | .iY r,v,h=>by
  simp only [VT] at h;simp only [TV.Bd];obtain⟨b,-,h⟩:=h
  exact (eO.1 h).1
 | .tG r,v,h=>by
  simp only [VT] at h;simp only [TV.Bd];obtain⟨b,-,h⟩:=h
  exact (eO.1 h).1
 | .gW r n cap,v,h=>by
  simp only [VT] at h;simp only [TV.Bd];obtain⟨b,-,h⟩:=h
  exact (eO.1 h).1
 | .cj j aF t xs,v,h=>by
  simp only [VT] at h;simp only [TV.Bd];obtain⟨-,x,g,hg,hle,-⟩:=h
  exact⟨x,by simp [hg],hle⟩
 | .P0 j aF l,v,h=>by
  simp only [VT] at h;simp only [TV.Bd];obtain⟨x,g,u,hg,hle,-⟩:=h
  exact⟨x,by simp [hg],hle⟩
 | .dZ j aF,v,h=>by
  simp only [VT] at h;simp only [TV.Bd];obtain⟨x,g,hg,hle,-⟩:=h
  exact⟨x,by simp [hg],hle⟩
 | .gY j aF k i off,v,h=>by
  simp only [VT] at h;simp only [TV.Bd];obtain⟨x,g,hg,hle,-⟩:=h
  exact⟨x,by simp [hg],hle⟩
 | .func fn caps,v,h=>by
  simp only [VT] at h;simp only [TV.Bd];obtain⟨vs,-,h⟩:=h
  exact bD.bd h
 | .FU fn fs,v,h=>by
  simp only [VT] at h;simp only [TV.Bd];obtain⟨vs,-,h⟩:=h
  exact bD.bd h
 | .iface ty d,v,h=>by
  simp only [VT] at h;simp only [TV.Bd];obtain⟨u,-,h⟩:=h
  exact VT.bd h
 | .agg cs,v,h=>by
  simp only [VT] at h;simp only [TV.Bd];obtain⟨vs,-,-,h⟩:=h
  exact bD.bd h
 | .tuple ds,v,h=>by
  simp only [VT] at h;simp only [TV.Bd];obtain⟨vs,-,h⟩:=h;exact bD.bd h
theorem bD.bd:∀ {ds:J (TV E)}{vs:J Value},bD E w G ds vs->TV.CS G.i.length (G.g.map (·.1)) ds
 | [],_,_=>by simp only [TV.CS]
 | d::ds,vs,h=>by
  simp only [bD] at h;simp only [TV.CS];obtain⟨u,us,-,h1,h2⟩:=h;exact⟨VT.bd h1,bD.bd h2⟩
end
structure Reb(G G2:aJ)(nb:Nat)(g0:List bQ):Prop where
 pr:∀b o,G.pr b o->G2.pr b o
 i:∀r b,r<nb->G.i[r]? = some b->G2.i[r]? = some b
 g:∀(j:Nat) x0 x h,g0[j]? = some x0->G.g[j]? = some (x,h)->∃x2,G2.g[j]? = some (x2,h)/\(x2.aF=x.aF\/x0.aF<x2.aF)
mutual
theorem VT.zS{nb:Nat}{g0:J bQ}(hR:Reb G G2 nb g0):∀ {d:TV E}{v:Value},VT E w G d v->TV.Bd nb g0 d->VT E w G2 d v
 | .any,_,_,_=>by simp only [VT]
 | .dat t x,v,h,_=>h.rM hR.pr
 | .rF t x off,v,h,_=>by
  simp only [VT] at h⊢;obtain⟨b,o,c,rfl,h1,h2⟩:=h
  exact⟨b,o,c,rfl,h1.mono hR.pr (fun _ _ _ _ h=>h),fun l u hl=>⟨hR.pr _ _ (h2 l u hl).1,(h2 l u hl).2⟩⟩
 | .val _,_,h,_=>by simpa only [VT] using h
 | .ptr r off,v,h,hb=>by
  simp only [VT] at h⊢;simp only [TV.Bd] at hb;obtain⟨b,rfl,h⟩:=h
  exact⟨b,rfl,hR.i r b hb h⟩
 | .o8 c r off,v,h,hb=>by
  simp only [TV.Bd] at hb;cases c<;>simp only [VT] at h⊢
  ·exact h
  ·obtain⟨b,rfl,h⟩:=h
   exact⟨b,rfl,hR.i r b (hb rfl) h⟩
 | .iY r,v,h,hb=>by
  simp only [VT] at h⊢;simp only [TV.Bd] at hb;obtain⟨b,rfl,h⟩:=h
  exact⟨b,rfl,hR.i r b hb h⟩
 | .tG r,v,h,hb=>by
  simp only [VT] at h⊢;simp only [TV.Bd] at hb;obtain⟨b,rfl,h⟩:=h
  exact⟨b,rfl,hR.i r b hb h⟩
 | .gW r n cap,v,h,hb=>by
  simp only [VT] at h⊢;simp only [TV.Bd] at hb;obtain⟨b,rfl,h⟩:=h
  exact⟨b,rfl,hR.i r b hb h⟩
 | .cj j aF t xs,v,h,hb=>by
  simp only [VT] at h⊢;simp only [TV.Bd] at hb;obtain⟨zG,x,g,hg,hle,heq⟩:=h;obtain⟨x0,hx0,hle0⟩:=hb;obtain⟨x2,h2,hc⟩:=hR.g j x0 x g hx0 hg;refine⟨zG.mono hR.pr (fun _ _ _ _ h=>h),x2,g,h2,?_,fun e=>?_⟩
  ·rcases hc with hc|hc<;>omega
  ·rcases hc with hc|hc
   ·exact heq om
   ·omega
 | .P0 j aF l,v,h,hb=>by
  simp only [VT] at h⊢;simp only [TV.Bd] at hb;obtain⟨x,g,u,hg,hle,zG,heq⟩:=h;obtain⟨x0,hx0,hle0⟩:=hb;obtain⟨x2,h2,hc⟩:=hR.g j x0 x g hx0 hg;refine⟨x2,g,u,h2,?_,zG.mono hR.pr (fun _ _ _ _ h=>h),fun e=>?_⟩
  ·rcases hc with hc|hc<;>omega
  ·rcases hc with hc|hc
   ·exact heq om
   ·omega
 | .dZ j aF,v,h,hb=>by
  simp only [VT] at h⊢;simp only [TV.Bd] at hb;obtain⟨x,g,hg,hle,h1,heq⟩:=h;obtain⟨x0,hx0,hle0⟩:=hb;obtain⟨x2,h2,hc⟩:=hR.g j x0 x g hx0 hg;refine⟨x2,g,h2,?_,h1,fun e=>?_⟩
  ·rcases hc with hc|hc<;>omega
  ·rcases hc with hc|hc
   ·exact heq om
   ·omega
 | .gY j aF k i off,v,h,hb=>by
  simp only [VT] at h⊢;simp only [TV.Bd] at hb;obtain⟨x,g,hg,hle,h1,heq⟩:=h;obtain⟨x0,hx0,hle0⟩:=hb;obtain⟨x2,h2,hc⟩:=hR.g j x0 x g hx0 hg;refine⟨x2,g,h2,?_,h1,fun e=>?_⟩
  ·rcases hc with hc|hc<;>omega
  ·rcases hc with hc|hc
   ·exact heq om
   ·omega
 | .sY t xs,v,h,hb=>by
  simp only [VT] at h⊢;obtain⟨vs,rfl,h1,h⟩:=h
  exact⟨vs,rfl,h1,h.mono hR.pr (fun _ _ _ _ h=>h)⟩
 | .func fn caps,v,h,hb=>by
  simp only [VT] at h⊢;simp only [TV.Bd] at hb;obtain⟨vs,rfl,h⟩:=h
  exact⟨vs,rfl,bD.zS hR h hb⟩
 | .FU fn fs,v,h,hb=>by
  simp only [VT] at h⊢;simp only [TV.Bd] at hb;obtain⟨vs,rfl,h⟩:=h
  exact⟨vs,rfl,bD.zS hR h hb⟩
 | .iface ty d,v,h,hb=>by
  simp only [VT] at h⊢;simp only [TV.Bd] at hb;obtain⟨u,rfl,h⟩:=h
  exact⟨u,rfl,VT.zS hR h hb⟩
 | .agg cs,v,h,hb=>by
  simp only [VT] at h⊢;simp only [TV.Bd] at hb;obtain⟨vs,rfl,h1,h⟩:=h
  exact⟨vs,rfl,h1,bD.zS hR h hb⟩
 | .tuple ds,v,h,hb=>by
  simp only [VT] at h⊢;simp only [TV.Bd] at hb;obtain⟨vs,rfl,h⟩:=h;exact⟨vs,rfl,bD.zS hR h hb⟩
theorem bD.zS{nb:Nat}{g0:J bQ}(hR:Reb G G2 nb g0):∀ {ds:J (TV E)}{vs:J Value},bD E w G ds vs->TV.CS nb g0 ds->bD E w G2 ds vs
 | [],_,h,_=>by simp only [bD] at h⊢;exact h
 | d::ds,vs,h,hb=>by
  simp only [bD] at h⊢;simp only [TV.CS] at hb;obtain⟨u,us,rfl,h1,h2⟩:=h;exact⟨u,us,rfl,VT.zS hR h1 hb.1,bD.zS hR h2 hb.2⟩
end
def eZ.Bd(nb:Nat)(g:J bQ):eZ E->Prop
 | .cells _ cs=>TV.CS nb g cs
 | .loop _ cs=>TV.CS nb g cs
 | .kU _ _ _ _ d=>TV.Bd nb g d
 | _=>True
theorem jE.bd{b:Nat}{x:eZ E}(h:jE E w G b x):x.Bd G.i.length (G.g.map (·.1)):=by
 cases x with
 | cells t cs=>obtain⟨vs,-,-,h⟩:=h;exact h.bd
 | loop y ds=>obtain⟨Y,fn,tmps,D,-,-,h⟩:=h;exact h.bd
 | kU e cap t xs d=>obtain⟨cur,-,-,-,h,-⟩:=h;exact h.bd
 | _=>trivial
theorem jE.zS{nb:Nat}{g0:J bQ}(hR:Reb G G2 nb g0){b:Nat}{x:eZ E}(h:jE E w G b x)(hb:x.Bd nb g0):jE E w G2 b x:=by
 cases x with
 | cells t cs=>obtain⟨vs,h1,h2,h3⟩:=h;exact⟨vs,h1,h2,bD.zS hR h3 hb⟩
 | iter s pos=>exact h
 | map kt vt m=>obtain⟨es,clock,h1,h2,h3⟩:=h;exact⟨es,clock,h1,h2,h3.pr hR.pr⟩
 | loop y ds=>obtain⟨Y,fn,tmps,D,h0,h1,h2⟩:=h;exact⟨Y,fn,tmps,D,h0,h1,bD.zS hR h2 hb⟩
 | kU e cap t xs d=>obtain⟨cur,h1,h2,h4,h5,h6⟩:=h;exact⟨cur,h1,h2,fun i x hx=>(h4 i x hx).rM hR.pr,VT.zS hR h5 hb,h6⟩
 | gone=>exact h
 | P7=>exact h
def DBd(nb:Nat)(g:J bQ):J (FuncId×J (TV E))->Prop
 | []=>True
 | x::xs=>TV.CS nb g x.2/\DBd nb g xs
theorem jQ.bd:∀ {ds:J Deferred}{xs:J (FuncId×J (TV E))},jQ E w G ds xs->DBd G.i.length (G.g.map (·.1)) xs
 | [],[],_=>trivial
 | _::_,_::_,h=>⟨by rcases h.1 with⟨-,cap,-,h2⟩|⟨-,b,-,h2⟩<;>exact h2.bd,jQ.bd h.2⟩
 | [],_::_,h=>h.elim
 | _::_,[],h=>h.elim
theorem jQ.zS{nb:Nat}{g0:J bQ}(hR:Reb G G2 nb g0):∀ {ds:J Deferred}{xs:J (FuncId×J (TV E))},jQ E w G ds xs->DBd nb g0 xs->jQ E w G2 ds xs
 | [],[],_,_=>trivial
 | _::_,_::_,h,hb=>⟨h.1.imp (fun⟨h0,cap,h1,h2⟩=>⟨h0,cap,h1,bD.zS hR h2 hb.1⟩) fun⟨h0,b,h1,h2⟩=>⟨h0,b,h1,bD.zS hR h2 hb.1⟩,jQ.zS hR h.2 hb.2⟩
 | [],_::_,h,_=>h.elim
 | _::_,[],h,_=>h.elim
end
structure Pre(G0:aJ)(st:TS E):Prop where
 nb:G0.i.length<=st.H.length
 rows:∀(j:Nat) x0 h0,G0.g[j]? = some (x0,h0)->∃x,st.g[j]? = some x/\x0.aF<=x.aF
 slots:∀(i:Nat) d,st.t[i]? = some d->d.Bd st.H.length st.g
 boxes:∀(r:Nat) x,st.H[r]? = some x->x.Bd st.H.length st.g
 defs:DBd st.H.length st.g st.df
section
variable {w0 w : U} {G0 G : aJ} {bJ st : TS E} {a : Act}
theorem ic.len{w1 w2:U}{G1 G2:aJ}(h:ic w1 G1 w2 G2):G1.i.length<=G2.i.length:=by
 by_cases h0:G1.i.length=0
 ·omega
 ·have hl:G1.i.length-1<G1.i.length:=om
  have:=(eO.1 (h.i _ _ (fC hl))).1;omega
theorem Rel.pre(h:Rel E w0 G0 st a w G):Pre G0 st:=by
 have hl:=h.boxes.len;have hg:=h.boxes.gs;refine⟨by rw [<-hl];exact h.eR.goes.len,fun j x0 h0 hj=>?_,fun i d hi=>?_,fun r x hr=>?_,?_⟩
 ·obtain⟨x',h',h1,h2,-⟩:=h.eR.goes.g j x0 h0 hj
  grind
 ·have:=(h.tmps i d hi).bd
  simp_all
 ·have hlt:r<G.i.length:=by grind
  have:=(h.boxes.box r _ x (fC hlt) hr).bd
  simp_all
 ·have:=h.defers.bd
  simp_all
theorem F0(W:J Nat):∀(i:Nat)(l:J (TV E)),(mO W i l).length=l.length
 | _,[]=>rfl
 | i,d::ds=>by simp_all [mO,F0]
theorem Wf(W:J Nat):∀(i:Nat)(l:J (TV E))(j:Nat)(d:TV E),(mO W i l)[j]? = some d->d=.any\/((i+j)∉W/\l[j]? = some d)
 | _,[],j,d,h=>by simp [mO] at h
 | i,x::ds,0,d,h=>by
  simp [mO] at h
  grind
 | i,x::ds,j+1,d,h=>by
  have:=Wf W (i+1) ds j d (by simpa [mO] using h)
  grind
theorem Wg(hE:E.Ok){G2:aJ}{n n2:Rn}(hL:BM w G n G2 n2)(ha:∀i,VT E w G (st.at i) (a.tmps.getD i undef)):∀(vs:J (Nat×PT))(t:J (TV E))(ls rest:J (Lf E)),O2 n st vs=some ls ->
  (∀(j:Nat) d,t[j]? = some d->VT E w G2 d (a.tmps.getD j undef)) ->
  (mu n2 vs t (ls++rest)).2=rest/\(mu n2 vs t (ls++rest)).1.length=t.length/\∀(j:Nat) d,(mu n2 vs t (ls++rest)).1[j]? = some d->VT E w G2 d (a.tmps.getD j undef)
 | [],t,ls,rest,h,ht=>by cases h;exact⟨rfl,rfl,ht⟩
 | (i,p)::vs,t,ls,rest,h,ht=>by
  simp [O2] at h;split at h<;>try trivial
  rename_i l ls' h1 h2;cases h;obtain⟨e1,e2⟩:=PT.sound hE hL (rest:=ls'++rest) h1 (ha i);simp [mu]
  obtain⟨q1,q2,q3⟩:=Wg hE hL ha vs (t.set i (p.put n2 (l++(ls'++rest))).1) ls' rest h2 (fun j d hj=>by
   grind)
  simp_all
theorem BT.Zw{n n2:Rn}:∀(t:BT)(x:eZ E)(l rest:J (Lf E)),t.get n x=some l->(t.put n2 (l++rest)).2=rest:=by
 have aqp:∀(c:CT)(d:TV E)(l rest:J (Lf E)),c.get n d=some l->(c.put n2 (l++rest)).2=rest:=by
  intro c d l rest h;unfold CT.get at h;simp only [Bool.cond_eq_ite] at h
  (repeat' split at h)<;>first|trivial|(cases h;rfl)
 have amG:∀(cs:J CT)(ds:J (TV E))(l rest:J (Lf E)),CT.IJ n cs ds=some l->(CT.ox n2 cs (l++rest)).2=rest:=by
  intro cs
  induction cs with
  | nil=>intro ds l rest h;cases ds<;>cases h;rfl
  | cons c cs ih=>
   intro ds l rest h;unfold CT.IJ at h
   grind [CT.ox,CT.KB,List.append_assoc]
 intro t x l rest h;unfold BT.get at h;split at h<;>try trivial
 ·rename_i ty cs ty' ds
  cases hb:Nat.beq ty ty'<;>rw [hb] at h<;>simp only [bq,aS] at h
  ·cases h
  exact amG cs ds l rest h
 ·split at h<;>cases h;rfl
 ·cases h;rfl
 ·rename_i y cs y' ds
  cases hb:Nat.beq y y'<;>rw [hb] at h<;>simp only [bq,aS] at h
  ·cases h
  exact amG cs ds l rest h
theorem F3{n:Rn}{D:J Nat}{nb:Nat}:∀(bs:J (O BT))(r:Nat)(H:J (eZ E))(ls rest:J (Lf E)),nP n D nb r bs H=some ls->oM bs (ls++rest)=rest
 | [],r,H,ls,rest,h=>by cases h;rfl
 | none::bs,r,x::H,ls,rest,h=>by
  simp only [nP] at h;cases hc:(D.elem r || !(Nat.blt r nb))<;>rw [hc] at h<;>simp only [bq,aS] at h
  ·exact F3 bs (r+1) H ls rest h
  ·cases h
 | some t::bs,r,x::H,ls,rest,h=>by
  simp [nP] at h;split at h<;>try trivial
  rename_i l ls' h1 h2;cases h;simp [oM];rw [BT.Zw t x l (ls'++rest) h1]
  exact F3 bs (r+1) H ls' rest h2
 | none::bs,r,[],ls,rest,h=>by cases h
 | some _::bs,r,[],ls,rest,h=>by cases h
theorem IK(hE:E.Ok){G2:aJ}{n n2:Rn}(hL:BM w G n G2 n2){D:J Nat}{nb:Nat}:∀(bs:J (O BT))(r:Nat)(H H0:J (eZ E))(is:J Nat)(ls rest:J (Lf E)),nP n D nb r bs H=some ls ->
  (∀(q b:Nat) x,is[q]? = some b->H[q]? = some x->jE E w G b x)->(∀(q b:Nat) x,is[q]? = some b->r+q<nb->r+q∉D->H0[q]? = some x->jE E w G2 b x)->nb<=r+H0.length ->
  (eE n2 bs H0 (ls++rest)).length=bs.length/\bs.length<=H.length/\∀(q b:Nat) x,is[q]? = some b->(eE n2 bs H0 (ls++rest))[q]? = some x->jE E w G2 b x
 | [],r,H,H0,is,ls,rest,h,hb,h0,hn=>by
  simp [eE]
 | none::bs,r,x::H,H0,is,ls,rest,h,hb,h0,hn=>by
  simp only [nP] at h;cases hc:(D.elem r || !(Nat.blt r nb))<;>rw [hc] at h<;>simp only [bq,aS] at h
  ·rw [XL] at hc
   have hlt:r<nb:=by simpa using hc.2
   obtain⟨y,H0',rfl⟩:∃y H0',H0=y::H0':=by
    cases H0 with
    | nil=>simp at hn;omega
    | cons y H0'=>exact⟨y,H0',rfl⟩
   obtain⟨q1,q2,q3⟩:=IK hE hL bs (r+1) H H0' is.tail ls rest h (fun q b z hq hz=>hb (q+1) b z (by cases is<;>simp_all) (by simpa using hz))
    (fun q b z hq h1 h2 hz=>h0 (q+1) b z (by cases is<;>simp_all) om (by grind) (by simpa using hz)) (by simp at hn;omega)
   grind [eE]
  ·cases h
 | some t::bs,r,x::H,H0,is,ls,rest,h,hb,h0,hn=>by
  simp [nP] at h;split at h<;>try trivial
  rename_i l ls' h1 h2;cases h;have hkey:∀b,is[0]? = some b->(t.put n2 (l++(ls'++rest))).2=ls'++rest/\jE E w G2 b (t.put n2 (l++(ls'++rest))).1:=fun b hb0=>BT.sound hE hL h1 (hb 0 b x hb0 si)
  have ff:(t.put n2 (l++(ls'++rest))).2=ls'++rest:=by
   grind [BT.Zw]
  obtain⟨q1,q2,q3⟩:=IK hE hL bs (r+1) H H0.tail is.tail ls' rest h2 (fun q b z hq hz=>hb (q+1) b z (by cases is<;>simp_all) (by simpa using hz))
   (fun q b z hq h1 h2 hz=>h0 (q+1) b z (by cases is<;>simp_all) om (by grind) (by cases H0<;>simp_all)) (by grind)
  refine⟨by simp_all [eE,FC,Bh],by simpa using q2,fun q b z hq hz=>?_⟩
  cases q with
  | zero=>
   simp_all [eE,FC,List.getElem?_cons_zero,ac7]
  | succ q=>
   grind [eE,List.append_assoc,List.getElem?_cons_succ]
 | none::bs,r,[],H0,is,ls,rest,h,hb,h0,hn=>by cases h
 | some _::bs,r,[],H0,is,ls,rest,h,hb,h0,hn=>by cases h
theorem Dw{n:Rn}{D:J Nat}{nb:Nat}:∀(bs:J (O BT))(r:Nat)(H:J (eZ E))(ls:J (Lf E)),nP n D nb r bs H=some ls->∀q,q<bs.length->r+q∉CR r bs->r+q∉D
 | [],r,H,ls,_,q,hq,_=>by simp at hq
 | none::bs,r,x::H,ls,h,q,hq,hc=>by
  simp only [nP] at h;cases hb:(D.elem r || !(Nat.blt r nb))<;>rw [hb] at h<;>simp only [bq,aS] at h
  ·cases q with
   | zero=>simp_all
   | succ q=>
    have:=Dw bs (r+1) H ls h q (by simpa using hq) (by rw [show r+1+q=r+(q+1) by omega];exact hc)
    grind
  ·cases h
 | some t::bs,r,x::H,ls,h,q,hq,hc=>by
  simp [nP] at h;split at h<;>try trivial
  rename_i l ls' h1 h2
  cases q with
  | zero=>exact (hc (by simp [CR])).elim
  | succ q=>
   have:=Dw bs (r+1) H ls' h2 q (by simpa using hq) (by rw [show r+1+q=r+(q+1) by omega];exact fun hm=>hc (by simp [CR,hm]));rw [show r+1+q=r+(q+1) by omega] at this
   exact this
 | none::bs,r,[],ls,h,_,_,_=>by cases h
 | some _::bs,r,[],ls,h,_,_,_=>by cases h
end
end Go.RT
namespace Go.RT
variable {E : TEnv}
section
variable {w0 w : U} {G0 G : aJ} {bJ st : TS E} {a : Act}
theorem Wh{n r r':Nat}(h:(List.range n)[r]? = some r'):r'=r/\r<n:=by
 grind
theorem Rel.at(h:Rel E w0 G0 st a w G)(i:Nat):VT E w G (st.at i) (a.tmps.getD i undef):=h.ev (.tmp i)
theorem Rel.cut(hE:E.Ok){c:Cut}{W:J Nat}{ls:J (Lf E)}(hp:Pre G0 bJ)(hr:Rel E w0 G0 st a w G)(ht:st.t.length=bJ.t.length)(hk:∀i,i∉W->st.t[i]? = bJ.t[i]?)
  {D:J Nat} (hD:st.d=D++bJ.d) (hH:∀r,r<bJ.H.length->r∉D->st.H[r]? = bJ.H[r]?) (hdf:st.df=bJ.df) (h:c.leaves bJ st=some ls) :
  ∃G2,Rel E w0 G0 (c.unpack W bJ ls) a w G2/\BM w G ⟨List.range c.boxes.length,List.range c.rows.length,st.g.map (·.aF)⟩ G2 ⟨List.range c.boxes.length,List.range c.rows.length,(dN c.rows bJ.g).map (·.aF)⟩:=by
 unfold Cut.leaves at h;cases hc:(below c.rows.length c.soft&&(Nat.ble bJ.H.length c.boxes.length&&(Nat.ble bJ.g.length c.rows.length&&xE c.rows bJ.g st.g)))<;>rw [hc] at h<;>simp only [bq,aS] at h
 ·cases h
 simp only [cx] at hc;obtain⟨AR,xj,hg1,hro⟩:=hc;have xj:=lC xj;have hg1:=lC hg1;rw [hD,ags] at h;split at h<;>try trivial
 rename_i la lb le hla hlb hle;cases h;have Zx:=hr.boxes.gs;rw [<-Zx] at hro;obtain⟨n1,n2,n3,n4⟩:=HI c.rows bJ.g G.g hro
 let G2:aJ:=⟨G.i.take c.boxes.length,gA c.rows bJ.g G.g,G.pr⟩
 have hlen:=hr.boxes.len
 have Ya:∀(j:Nat) y2,(gA c.rows bJ.g G.g)[j]? = some y2->∃y,G.g[j]? = some y/\y2.2=y.2/\y2.1.e=y.1.e/\y2.1.k=y.1.k/\∀x0,bJ.g[j]? = some x0->y2.1.aF=y.1.aF\/x0.aF<y2.1.aF:=by
  grind
 have aio:Reb G G2 bJ.H.length bJ.g:=by
  refine⟨fun _ _ h=>h,fun r b hr' hb=>?_,fun j x0 x hd hx0 hj=>?_⟩
  ·grind
  grind
 have Ey:BM w G ⟨List.range c.boxes.length,List.range c.rows.length,st.g.map (·.aF)⟩ G2 ⟨List.range c.boxes.length,List.range c.rows.length,(dN c.rows bJ.g).map (·.aF)⟩:=by
  refine⟨fun _ _ h=>h,fun r r' b h1 h2=>?_,fun j j' v x hd h1 h2 h3=>?_⟩
  ·grind
  grind
 have amH:∀(j:Nat) d,(mO W 0 bJ.t)[j]? = some d->VT E w G2 d (a.tmps.getD j undef):=by
  intro j d hj;rcases Wf W 0 bJ.t j d hj with rfl|⟨hnw,hj'⟩
  ·simp only [VT]
  ·rw [pW] at hnw
   have:=hr.tmps j d (by rw [hk j hnw];exact hj');exact VT.zS aio this (hp.slots j d hj')
 obtain⟨p1,p2,p3⟩:=Wg hE Ey hr.at c.vars (mO W 0 bJ.t) la (lb++le) hla amH
 obtain⟨q1,q2,q3⟩:=IK hE Ey c.boxes 0 st.H bJ.H G.i lb le hlb (fun q b x hq hx=>hr.boxes.box q b x hq hx) (fun q b x hq h1 h2 hx=>by
  rw [pW] at h1 h2;have hx':st.H[q]? = some x:=by rw [hH q h1 h2];exact hx
  exact jE.zS aio (hr.boxes.box q b x hq hx') (hp.boxes q x hx)) si
 have ev:=hr.eR
 have hG0:∀(r b:Nat),(G.i.take c.boxes.length)[r]? = some b->G.i[r]? = some b:=fun r b hb=>by
  grind
 have hmem:∀b,b∈G.i.take c.boxes.length->b∈G.i:=fun b hb=>adh hb;refine⟨G2,⟨⟨ev.os,ev.tape,ev.output,ev.size,ev.old,⟨ev.goes.pr,ev.goes.cells,fun r b hb=>?_,fun j x0 hd hj=>?_⟩,ev.nt,fun r b h1 h2=>ev.p4 r b h1 (hG0 r b h2),fun j x hd b hj hb=>?_⟩,?_,?_,?_,?_,fun r b hb hd=>?_,hr.pins,?_⟩,Ey⟩
 ·have hlt:=(eO.1 hb).1
  have:=hp.nb;rw [Xz,if_pos om];exact ev.goes.i r b hb
 ·obtain⟨x',hd',h1,h2,h3⟩:=ev.goes.g j x0 hd hj
  obtain⟨xp,hxp,hle⟩:=hp.rows j x0 hd hj
  grind
 ·obtain⟨y,hy,e1,-⟩:=Ya j (x,hd) hj
  simp only at e1;subst e1;exact ev.gA j y.1 y.2 b hy hb
 ·show a.tmps.size=((mu _ c.vars (mO W 0 bJ.t) (la++(lb++le))).1).length
  rw [p2,F0,<-ht];exact hr.size
 ·exact p3
 ·show jQ E w G2 a.defers bJ.df
  rw [<-hdf];exact jQ.zS aio hr.defers (by rw [hdf];exact hp.defs)
 ·refine⟨?_,n1,fun r b x hb hx=>?_,fun b hb=>hr.boxes.lt b (hmem b hb),(List.take_sublist _ _).nodup hr.boxes.nodup,fun b o rL=>⟨(hr.boxes.ga b o rL).1,fun hm=>(hr.boxes.ga b o rL).2 (hmem b hm)⟩,fun j x hd hj=>?_,
   fun j j' x hd x' hd' b hj hj' hb hb'=>?_⟩
  ·show (G.i.take c.boxes.length).length=(eE _ c.boxes bJ.H (mu _ c.vars (mO W 0 bJ.t) (la++(lb++le))).2).length
   simp_all
  ·have hx:(eE _ c.boxes bJ.H (mu _ c.vars (mO W 0 bJ.t) (la++(lb++le))).2)[r]? = some x:=hx
   grind
  ·obtain⟨y,hy,e1,e2,e3,-⟩:=Ya j (x,hd) hj
   subst e1;obtain⟨n,xs,g1,g2,g3⟩:=hr.boxes.grow j y.1 y.2 hy;refine⟨n,xs,by rw [e2,e3];exact g1,fun a m h=>by rw [e2];exact g2 a m h,fun b hb=>?_⟩
   grind
  ·obtain⟨y,hy,e1,-⟩:=Ya j (x,hd) hj
   obtain⟨y',hy',Y9,-⟩:=Ya j' (x',hd') hj';subst e1;subst Y9;exact hr.boxes.apart j j' y.1 y.2 y'.1 y'.2 b hy hy' hb hb'
 ·refine hr.fix r b hb ?_
  have hd:r∉CR 0 c.boxes++bJ.d:=hd;rw [wX,not_or] at hd;rw [hD,wX,not_or];refine⟨?_,hd.2⟩;have hlt:=(eO.1 hb).1;have:=hp.nb;have:=Dw c.boxes 0 st.H lb hlb r om (by simp_all)
  simp_all
 ·intro j c0 hm
  have hm:(j,c0)∈mD some c.soft (oM c.boxes (mu _ c.vars (mO W 0 bJ.t) (la++(lb++le))).2):=hm;rw [p1,F3 c.boxes 0 st.H lb le hlb] at hm;obtain⟨q,j',⟨t,ht⟩,e1,e2,e3⟩:=Cj (f:=some) (f2:=some) (rest:=[]) hle (by rw [adn];exact hm);cases e1;cases e2;have sF:=Zv AR j t ht;obtain⟨x,hd,h1,h2⟩:=hr.gf j c0 e3;obtain⟨y2,hy,f1,f2,f3,-⟩:=n4 j (x,hd) h1 sF;refine⟨y2.1,hd,?_,h2.keep f2 f3 (fun _ _ h=>h) (fun _ _ _ _ h=>h) (fun b _=>⟨rfl,fun _ h=>h⟩)⟩
  grind
end
end Go.RT
namespace Go.RT
variable {E : TEnv}
def jR(P:aE)(f:FuncId)(args:aI Value)(w:U)(R:Ending->U->Prop):Prop:=
 match (callFunc f args).run P w with
 | .ok (.enter f' args') w'=>Calls P f' args' w' R
 | .ok (.value v) w'=>R (.returned v) w'
 | _=>False
def Ck(ok:Bool)(v:Value):Ending:=cond ok (.returned v) (.panicked [{v:=v,recovered:=false}])
structure Zy(E:TEnv) where
 ok:Bool
 d:TV E
 H:List (eZ E)
 g:List bQ
 D:List Nat
 c:List (Nat×Cn E)
def kV(P:aE)(f:FuncId)(ds:J (TV E))(H:J (eZ E))(gs:J bQ)(cs:J (Nat×Cn E))(r:Zy E):Prop:=
 ∀(w:U)(G:aJ)(args:aI Value),o4 E w G->lu E w G H gs->kg E w G cs->bD E w G ds args.toList->jR P f args w fun e w'=>
  ∃v G',e=Ck r.ok v/\kC w G w' G'/\lu E w' G' r.H r.g/\kg E w' G' r.c/\VT E w' G' r.d v/\∀(q b:Nat),G.i[q]? = some b->q∉r.D->w'.heap[b]? = w.heap[b]?
structure Outs where
 res:PT
 boxes:List (Option BT)
 rows:List (Option (TypeId×Nat))
 soft:List (Nat×Ty)
def Outs.tys(o:Outs):J Ty:=o.res.tys++(KC o.boxes++O1 o.soft)
structure cL where
 f:FuncId
 args:List PT
 boxes:List BT
 rows:List (TypeId×Nat)
 out:Outs
 kZ:Option Outs
 soft:List (Nat×Ty)
def agt:J PT->J Ty
 | []=>[]
 | p::ps=>p.tys++agt ps
def agu:J BT->J Ty
 | []=>[]
 | b::bs=>b.tys++agu bs
def cL.tys(s:cL):J Ty:=agt s.args++(agu s.boxes++O1 s.soft)
@[reducible] def OutP (E : TEnv) (o : Outs) : O Outs -> Type
 | none=>dens E o.tys
 | some q=>dens E o.tys ⊕ dens E q.tys
structure bB(E:TEnv) where
 s:cL
 m:dens E s.tys->Option (OutP E s.out s.kZ)
def SH(n:Rn):J PT->J (TV E)->O (J (Lf E))
 | [],[]=>some []
 | p::ps,d::ds=>match p.get n d,SH n ps ds with
  | some l,some ls=>some (l++ls)
  | _,_=>none
 | _,_=>none
def zT(n:Rn):J PT->J (Lf E)->J (TV E)×J (Lf E)
 | [],ls=>([],ls)
 | p::ps,ls=>((p.put n ls).1::(zT n ps (p.put n ls).2).1,(zT n ps (p.put n ls).2).2)
def SI(n:Rn):J BT->J (eZ E)->O (J (Lf E))
 | [],[]=>some []
 | t::ts,x::xs=>match t.get n x,SI n ts xs with
  | some l,some ls=>some (l++ls)
  | _,_=>none
 | _,_=>none
def xF(n:Rn):J BT->J (Lf E)->J (eZ E)×J (Lf E)
 | [],ls=>([],ls)
 | t::ts,ls=>((t.put n ls).1::(xF n ts (t.put n ls).2).1,(xF n ts (t.put n ls).2).2)
def cL.g0(s:cL):J bQ:=s.rows.map fun p=>⟨0,p.1,p.2⟩
def cL.n0(s:cL):Rn:=⟨List.range s.boxes.length,List.range s.rows.length,s.g0.map (·.aF)⟩
def cL.ds(s:cL)(ls:J (Lf E)):J (TV E):=(zT s.n0 s.args ls).1
def cL.H(s:cL)(ls:J (Lf E)):J (eZ E):=(xF s.n0 s.boxes (zT s.n0 s.args ls).2).1
def cL.c(s:cL)(ls:J (Lf E)):J (Nat×Cn E):=mD some s.soft (xF s.n0 s.boxes (zT s.n0 s.args ls).2).2
def Outs.n1(o:Outs)(g:J bQ):Rn:=⟨List.range o.boxes.length,List.range o.rows.length,(dN o.rows g).map (·.aF)⟩
def Outs.mg(o:Outs)(ok:Bool)(H0:J (eZ E))(g:J bQ)(ls:J (Lf E)):Zy E:=
 ⟨ok,(o.res.put (o.n1 g) ls).1,eE (o.n1 g) o.boxes H0 (o.res.put (o.n1 g) ls).2,dN o.rows g,CR 0 o.boxes,mD some o.soft (oM o.boxes (o.res.put (o.n1 g) ls).2)⟩
def jS(s:cL)(H0:J (eZ E)):(p:O Outs)->OutP E s.out p->Zy E
 | none,y=>s.out.mg true H0 s.g0 (aP s.out.tys y)
 | some _,.inl y=>s.out.mg true H0 s.g0 (aP s.out.tys y)
 | some q,.inr y=>q.mg false H0 s.g0 (aP q.tys y)
def bB.Ok(P:aE)(C:bB E):Prop:=
 ∀x y,C.m x=some y->kV P C.s.f (C.s.ds (aP C.s.tys x)) (C.s.H (aP C.s.tys x)) C.s.g0 (C.s.c (aP C.s.tys x)) (jS C.s (C.s.H (aP C.s.tys x)) C.s.kZ y)
structure KD(w:World)(G:aJ)(n:Rn)(G2:aJ)(n2:Rn):Prop extends BM w G n G2 n2 where
 lb:n2.b.length<=n.b.length
 lg:n2.g.length<=n.g.length
 lv:n2.v.length<=n.v.length
theorem CT.yE(n n2:Rn)(c:CT)(ls:J (Lf E)):(c.put n ls).2=(c.put n2 ls).2:=by
 cases c<;>cases ls<;>first|rfl|(rename_i l;cases l<;>rfl)
theorem CT.yW(n n2:Rn):∀(cs:J CT)(ls:J (Lf E)),(CT.ox n cs ls).2=(CT.ox n2 cs ls).2
 | [],ls=>rfl
 | c::cs,ls=>by
  unfold CT.ox;split
  ·exact CT.yW n n2 cs _
  ·rw [CT.yE n n2 c ls]
   exact CT.yW n n2 cs _
theorem PT.yE(n n2:Rn)(p:PT)(ls:J (Lf E)):(p.put n ls).2=(p.put n2 ls).2:=by
 cases p with
 | one c=>exact CT.yE n n2 c ls
 | agg cs=>exact CT.yW n n2 cs ls
 | cY cs=>exact CT.yW n n2 cs ls
theorem BT.yE(n n2:Rn)(t:BT)(ls:J (Lf E)):(t.put n ls).2=(t.put n2 ls).2:=by
 cases t with
 | cells ty cs=>exact CT.yW n n2 cs ls
 | loop y cs=>exact CT.yW n n2 cs ls
 | map kt vt=>cases ls<;>rfl
 | iter=>cases ls with|nil=>rfl|cons l ls=>cases ls<;>rfl
section
variable {w : U} {G G2 : aJ} {n n2 : Rn}
theorem getElem?_none_of{α β:Type}{l:J α}{m:J β}{r:Nat}(h:l[r]? = none)(hl:m.length<=l.length):m[r]? = none:=by
 grind
theorem Wi(hL:KD w G n G2 n2):∀(caps:J (Nat×Nat)){vs:J Value},bD E w G (Fs n caps:J (TV E)) vs->bD E w G2 (Fs n2 caps:J (TV E)) vs
 | [],vs,h=>by simp_all [Fs,bD]
 | (r,off)::caps,vs,h=>by
  obtain⟨u,us,rfl,h1,h2⟩:=h.cons_inv;refine .cons ?_ (Wi hL caps h2)
  cases hr:n.b[r]? with
  | none=>rw [getElem?_none_of hr hL.lb];simp [VT]
  | some r'=>
   rw [hr] at h1;obtain⟨b,rfl,hb⟩:=h1;obtain⟨r2,hr2,o5⟩:=hL.i r r' b hr hb;rw [hr2];exact⟨b,rfl,o5⟩
theorem CT.move(hL:KD w G n G2 n2)(c:CT)(ls:J (Lf E)){v:Value}(h:VT E w G (c.put n ls).1 v):VT E w G2 (c.put n2 ls).1 v:=by
 cases c with
 | dat t=>cases ls with
  | nil=>simp [CT.put,VT]
  | cons l ls=>exact VT.rM h hL.pr
 | any=>simp [CT.put,VT]
 | pk t=>simp [CT.put,VT]
 | ptr r off=>
  simp [CT.put] at h⊢
  cases hr:n.b[r]? with
  | none=>rw [getElem?_none_of hr hL.lb];simp [VT]
  | some r'=>
   rw [hr] at h;obtain⟨b,rfl,hb⟩:=h;obtain⟨r2,hr2,o5⟩:=hL.i r r' b hr hb
   simp_all [VT]
 | o8 r off=>
  cases ls with
  | nil=>simp [CT.put,VT]
  | cons l ls=>
   simp [CT.put] at h⊢
   cases hr:n.b[r]? with
   | none=>rw [getElem?_none_of hr hL.lb];simp [VT]
   | some r'=>
    rw [hr] at h;obtain⟨t,x⟩:=l
    cases hn:n2.b[r]? with
    | none=>simp [VT]
    | some r2'=>
     cases t<;>try (simp [VT];done)
     cases x<;>simp [VT] at h⊢
     ·exact h
     ·obtain⟨b,rfl,hb⟩:=h
      obtain⟨r2,hr2,o5⟩:=hL.i r r' b hr hb
      simp_all
 | iY r=>
  simp [CT.put] at h⊢
  cases hr:n.b[r]? with
  | none=>rw [getElem?_none_of hr hL.lb];simp [VT]
  | some r'=>
   rw [hr] at h;obtain⟨b,rfl,hb⟩:=h;obtain⟨r2,hr2,o5⟩:=hL.i r r' b hr hb
   simp_all [VT]
 | tG r=>
  simp [CT.put] at h⊢
  cases hr:n.b[r]? with
  | none=>rw [getElem?_none_of hr hL.lb];simp [VT]
  | some r'=>
   rw [hr] at h;obtain⟨b,rfl,hb⟩:=h;obtain⟨r2,hr2,o5⟩:=hL.i r r' b hr hb
   simp_all [VT]
 | cj j t=>
  cases ls with
  | nil=>simp [CT.put,VT]
  | cons l ls=>
   simp [CT.put] at h⊢
   cases hj:n.g[j]? with
   | none=>rw [getElem?_none_of hj hL.lg];simp [VT]
   | some j'=>
    cases CQ:n.v[j]? with
    | none=>
     rw [getElem?_none_of CQ hL.lv]
     simp_all [VT]
    | some vv=>
     rw [hj,CQ] at h;obtain⟨t',x⟩:=l
     cases t' with
     | aZ t'=>
      obtain⟨zG,x1,h1,hg,hle,heq⟩:=h;obtain⟨SG,j2,v2,x2,q1,q2,q3,q4⟩:=hL.g j j' vv x1 h1 hj CQ hg;rw [q1,q2]
      exact⟨zG.mono hL.pr (fun _ _ _ _ h=>h),x2,h1,q3,om,fun _=>heq SG.symm⟩
     | _=>simp_all [VT]
 | func f caps=>
  simp [CT.put,VT] at h⊢
  grind [Wi]
 | dZ j=>
  simp [CT.put] at h⊢
  cases hj:n.g[j]? with
  | none=>rw [getElem?_none_of hj hL.lg];simp [VT]
  | some j'=>
   cases CQ:n.v[j]? with
   | none=>
    rw [getElem?_none_of CQ hL.lv]
    simp_all [VT]
   | some vv=>
    rw [hj,CQ] at h;obtain⟨x1,h1,hg,hle,h2,heq⟩:=h;obtain⟨SG,j2,v2,x2,q1,q2,q3,q4⟩:=hL.g j j' vv x1 h1 hj CQ hg
    grind [VT]
 | gY j k=>
  simp [CT.put] at h⊢
  cases hj:n.g[j]? with
  | none=>rw [getElem?_none_of hj hL.lg];simp [VT]
  | some j'=>
   cases CQ:n.v[j]? with
   | none=>
    rw [getElem?_none_of CQ hL.lv]
    simp_all [VT]
   | some vv=>
    rw [hj,CQ] at h;obtain⟨x1,h1,hg,hle,h2,heq⟩:=h;obtain⟨SG,j2,v2,x2,q1,q2,q3,q4⟩:=hL.g j j' vv x1 h1 hj CQ hg
    grind [VT]
 | sY t=>cases ls with
  | nil=>simp [CT.put,VT]
  | cons l ls=>
   obtain⟨t',x⟩:=l
   cases t' with
   | aZ t'=>
    obtain⟨vs,rfl,h1,h⟩:=h
    exact⟨vs,rfl,h1,h.mono hL.pr (fun _ _ _ _ h=>h)⟩
   | _=>simp [CT.put,VT]
 | nil k=>simp_all [CT.put,VT]
 | lb b=>rw [VT.lI h];exact .bool _ _ _
 | li k n=>rw [VT.fJ h];exact .int _ _ _ _
 | rF t off=>cases ls with
  | nil=>simp [CT.put,VT]
  | cons l ls=>
   obtain⟨b,o,c,rfl,h1,h2⟩:=h
   exact⟨b,o,c,rfl,h1.mono hL.pr (fun _ _ _ _ h=>h),fun l u hl=>⟨hL.pr _ _ (h2 l u hl).1,(h2 l u hl).2⟩⟩
 | iface ty t=>cases ls with
  | nil=>simp [CT.put,VT]
  | cons l ls=>
   obtain⟨u,rfl,h⟩:=h;exact⟨u,rfl,VT.rM h hL.pr⟩
theorem bD.Wj{w:U}{G:aJ}:∀ {ds es:J (TV E)}{vs:J Value},bD E w G (ds++es) vs->∃us ts,vs=us++ts/\bD E w G ds us/\bD E w G es ts
 | [],_,vs,h=>⟨[],vs,rfl,bD.nil,h⟩
 | _::_,_,_,h=>by
  obtain⟨u,us,rfl,h1,h2⟩:=bD.cons_inv h;obtain⟨us',ts,rfl,h3,h4⟩:=bD.Wj h2;exact⟨u::us',ts,rfl,.cons h1 h3,h4⟩
theorem Wk{f:(i:Nat)->E.D i->O (J (TV E))}(hf:∀i x cs,f i x=some cs->∀d∈cs,∃t y,d=TV.dat t y):∀(t:Ty)(x:t.den E.D)(cs:J (TV E)),zJ E f t x=some cs->∀d∈cs,∃t y,d=TV.dat t y:=by
 intro t
 induction t with
 | int k=>intro x cs h d hd;cases h;simp_all
 | bool=>intro x cs h d hd;cases h;simp_all
 | str=>intro x cs h d hd;cases h;simp_all
 | aZ t _=>intro x cs h d hd;cases h;simp_all
 | unit=>intro x cs h d hd;cases h;cases hd
 | ext i=>intro x cs h;exact hf i x cs h
 | pair a b DS DT=>
  intro x cs h d hd;simp [zJ] at h
  cases e1:zJ E f a x.1 with
  | none=>rw [e1] at h;cases h
  | some l=>
   dsimp only [Option.bind] at h
   grind
theorem Wl:∀(n:Nat)(t:Ty)(x:t.den E.D)(cs:J (TV E)),HA E n t x=some cs->∀d∈cs,∃t y,d=TV.dat t y
 | 0,t,x,cs,h=>Wk (fun _ _ _ h=>by cases h) t x cs h
 | n+1,t,x,cs,h=>Wk (fun i x cs h=>Wl n (E.df i) (E.zE i x) cs h) t x cs h
theorem acF{w:U}{G G2:aJ}(hp:∀b o,G.pr b o->G2.pr b o):∀ {ds:J (TV E)}{vs:J Value},(∀d∈ds,∃t y,d=TV.dat t y)->bD E w G ds vs->bD E w G2 ds vs
 | [],_,_,h=>by simp_all [bD]
 | d::ds,_,hd,h=>by
  obtain⟨u,us,rfl,h1,h2⟩:=h.cons_inv;obtain⟨t,y,rfl⟩:=hd d (Mz ..);exact .cons (h1.rM hp) (acF hp (fun d h=>hd d (pX _ h)) h2)
theorem agv{w:U}{G G2:aJ}(hp:∀b o,G.pr b o->G2.pr b o)(ls:J (Lf E)){vs:J Value}(h:bD E w G (CT.KB ls).1 vs):bD E w G2 (CT.KB ls).1 vs:=by
 cases ls with
 | nil=>simp_all [CT.KB,bD]
 | cons l ls=>
  grind [CT.KB,HA,bD,acF,Wl]
theorem CT.O3(hL:KD w G n G2 n2):∀(cs:J CT)(ls:J (Lf E)){vs:J Value},bD E w G (CT.ox n cs ls).1 vs->bD E w G2 (CT.ox n2 cs ls).1 vs
 | [],ls,vs,h=>by simp_all [CT.ox,bD]
 | c::cs,ls,vs,h=>by
  unfold CT.ox at h⊢;split at h
  ·obtain⟨us,ts,rfl,h1,h2⟩:=h.Wj
   refine bD.append (agv hL.pr ls h1) ?_;exact CT.O3 hL cs _ h2
  ·rename_i ht
   obtain⟨u,us,rfl,h1,h2⟩:=h.cons_inv;refine .cons (CT.move hL c ls h1) ?_;rw [CT.yE n2 n];exact CT.O3 hL cs _ h2
theorem PT.move(hL:KD w G n G2 n2)(p:PT)(ls:J (Lf E)){v:Value}(h:VT E w G (p.put n ls).1 v):VT E w G2 (p.put n2 ls).1 v:=by
 cases p with
 | one c=>exact CT.move hL c ls h
 | agg cs=>
  grind [PT.put,VT,CT.O3]
 | cY cs=>
  grind [PT.put,VT,CT.O3]
theorem BT.move(hL:KD w G n G2 n2)(t:BT)(ls:J (Lf E)){b:Nat}(h:jE E w G b (t.put n ls).1):jE E w G2 b (t.put n2 ls).1:=by
 cases t with
 | cells ty cs=>
  obtain⟨vs,h1,h2,h3⟩:=h
  exact⟨vs,h1,h2,CT.O3 hL cs ls h3⟩
 | loop y cs=>
  obtain⟨Y,fn,tmps,D,h0,h1,h2⟩:=h
  exact⟨Y,fn,tmps,D,h0,h1,CT.O3 hL cs ls h2⟩
 | map kt vt=>cases ls with
  | nil=>exact h
  | cons l ls=>
   obtain⟨t,x⟩:=l;simp [BT.put] at h⊢;split at h
   ·rename_i kt' vt' m heq
    obtain⟨es,clock,h1,h2,h3⟩:=h;exact⟨es,clock,h1,h2,h3.pr hL.pr⟩
   ·exact h
 | iter=>cases ls with
  | nil=>exact h
  | cons l ls=>cases ls with
   | nil=>exact h
   | cons l' ls=>
    simp [BT.put] at h⊢;split at h<;>exact h
end
end Go.RT
namespace Go.RT
variable {E : TEnv}
def vf:J Nat->Bool
 | []=>true
 | x::xs=>!(xs.elem x)&&vf xs
theorem vg:∀ {l:J Nat},vf l=true->l.Nodup
 | [],_=>FB
 | x::xs,h=>by
  simp only [vf,cx] at h;refine Qy.2 ⟨fun hm=>?_,vg h.2⟩;rw [ajN hm] at h;cases h.1
def pick{α:Type}(l:J α):J Nat->O (J α)
 | []=>some []
 | i::is=>match l[i]?,pick l is with
  | some x,some xs=>some (x::xs)
  | _,_=>none
theorem qG{α:Type}{l:J α}:∀ {is:J Nat}{xs:J α},pick l is=some xs->xs.length=is.length/\∀(r i:Nat),is[r]? = some i->∃x,xs[r]? = some x/\l[i]? = some x
 | [],xs,h=>by cases h;simp_all
 | i::is,xs,h=>by
  simp [pick] at h;split at h<;>try trivial
  rename_i x ys h1 h2;cases h;obtain⟨q1,q2⟩:=qG h2;refine⟨by simp [q1],fun r k hr=>?_⟩
  cases r with
  | zero=>simp at hr;subst hr;exact⟨x,rfl,h1⟩
  | succ r=>simpa using q2 r k (by simpa using hr)
theorem U1{α β:Type}{l:J α}{m:J β}(hl:l.length=m.length):∀ {is:J Nat}{xs:J α},pick l is=some xs->∃ys,pick m is=some ys
 | [],xs,h=>⟨[],rfl⟩
 | i::is,xs,h=>by
  simp [pick] at h;split at h<;>try trivial
  rename_i x ys h1 h2;obtain⟨zs,hz⟩:=U1 hl h2
  grind [List.getElem?_eq_some_iff,pick,List.getElem?_eq_getElem]
def yF:J (aD×Nat)->J bQ->Bool
 | [],[]=>true
 | p::ps,x::xs=>(Nat.beq p.1 x.e&&Nat.beq p.2 x.k)&&yF ps xs
 | _,_=>false
theorem Cl:∀ {ps:J (aD×Nat)}{xs:J bQ},yF ps xs=true->ps.length=xs.length/\∀(j:Nat) p x,ps[j]? = some p->xs[j]? = some x->p.1=x.e/\p.2=x.k
 | [],[],_=>⟨rfl,fun j p x h=>by simp at h⟩
 | p::ps,x::xs,h=>by
  simp only [yF,cx] at h;obtain⟨q1,q2⟩:=Cl h.2;refine⟨by simp [q1],fun j p' x' hp hx=>?_⟩
  cases j with
  | zero=>simp at hp hx;subst hp;subst hx;exact⟨eB h.1.1,eB h.1.2⟩
  | succ j=>exact q2 j p' x' (by simpa using hp) (by simpa using hx)
 | [],_::_,h=>by cases h
 | _::_,[],h=>by cases h
def cL.enter(s:cL)(bs gs:J Nat)(st:TS E)(ds:J (TV E)):Option (J (Lf E)):=
 match pick st.H bs,pick st.g gs with
 | some H,some g=>cond (vf bs&&(vf gs&&(Nat.beq bs.length s.boxes.length&&yF s.rows g)))
   (match SH ⟨bs,gs,g.map (·.aF)⟩ s.args ds,SI ⟨bs,gs,g.map (·.aF)⟩ s.boxes H,JA (fun q=>gs[q]?) st.c s.soft with
    | some a,some b,some e=>some (a++(b++e))
    | _,_,_=>none) none
 | _,_=>none
section
variable {w : U} {G G2 : aJ} {n n2 : Rn}
theorem Zz(hE:E.Ok)(hL:BM w G n G2 n2):∀ {ps:J PT}{ds:J (TV E)}{ls rest:J (Lf E)}{vs:J Value},SH n ps ds=some ls->bD E w G ds vs ->
  (zT n2 ps (ls++rest)).2=rest/\bD E w G2 (zT n2 ps (ls++rest)).1 vs
 | [],[],ls,rest,vs,h,hv=>by cases h;simp [bD] at hv;subst hv;exact⟨rfl,bD.nil⟩
 | p::ps,d::ds,ls,rest,vs,h,hv=>by
  simp [SH] at h;split at h<;>try trivial
  rename_i l ls' h1 h2;cases h;obtain⟨u,us,rfl,q1,q2⟩:=hv.cons_inv;obtain⟨e1,e2⟩:=PT.sound hE hL (rest:=ls'++rest) h1 q1;obtain⟨e3,e4⟩:=Zz hE hL h2 q2;simp [zT,e1]
  exact⟨e3,.cons e2 e4⟩
 | [],_::_,_,_,_,h,_=>by cases h
 | _::_,[],_,_,_,h,_=>by cases h
theorem ZA(hE:E.Ok)(hL:BM w G n G2 n2):∀ {ts:J BT}{xs:J (eZ E)}{ls rest:J (Lf E)}{is:J Nat},SI n ts xs=some ls->is.length=xs.length->(∀(q b:Nat) x,is[q]? = some b->xs[q]? = some x->jE E w G b x) ->
  (xF n2 ts (ls++rest)).1.length=ts.length/\(xF n2 ts (ls++rest)).2=rest/\∀(q b:Nat) x,is[q]? = some b->(xF n2 ts (ls++rest)).1[q]? = some x->jE E w G2 b x
 | [],[],ls,rest,is,h,_,hv=>by cases h;simp_all [xF]
 | t::ts,x::xs,ls,rest,is,h,hil,hv=>by
  simp [SI] at h;split at h<;>try trivial
  rename_i l ls' h1 h2;cases h
  cases is with
  | nil=>simp at hil
  | cons i is=>
   obtain⟨e1,e2⟩:=BT.sound hE hL (rest:=ls'++rest) h1 (hv 0 i x si si);obtain⟨e3,e5,e4⟩:=ZA hE hL h2 (by simpa using hil) (fun q b y hq hy=>hv (q+1) b y (by simpa using hq) (by simpa using hy));simp [xF,e1];refine⟨by simp [e3],e5,fun q b y hq hy=>?_⟩
   cases q with
   | zero=>simp at hq hy;subst hq;subst hy;exact e2
   | succ q=>exact e4 q b y (by simpa using hq) (by simpa using hy)
 | [],_::_,_,_,_,h,_,_=>by cases h
 | _::_,[],_,_,_,h,_,_=>by cases h
end
def aJ.dS(G:aJ)(is:J Nat)(gs:J (bQ×Value)):aJ:=⟨is,gs.map fun x=>({x.1 with aF:=0},x.2),G.pr⟩
section
variable {P : aE} {w0 w w' : U} {G0 G G' : aJ} {st : TS E} {a : Act}
theorem Rel.enter(hE:E.Ok)(hr:Rel E w0 G0 st a w G){s:cL}{bs gs:J Nat}{ds:J (TV E)}{ls:J (Lf E)}{vs:J Value}(h:s.enter bs gs st ds=some ls)(hv:bD E w G ds vs):
  ∃is gg,pick G.i bs=some is/\pick G.g gs=some gg/\lu E w (G.dS is gg) (s.H ls) s.g0/\kg E w (G.dS is gg) (s.c ls)/\bD E w (G.dS is gg) (s.ds ls) vs:=by
 unfold cL.enter at h;split at h<;>try trivial
 rename_i H g hH hg;cases hc:(vf bs&&(vf gs&&(Nat.beq bs.length s.boxes.length&&yF s.rows g)))<;>rw [hc] at h<;>simp only [bq,aS] at h
 ·cases h
 simp only [cx] at hc;obtain⟨ZB,hn2,Jr,hrs⟩:=hc;have Jr:=eB Jr;obtain⟨hrl,hrs⟩:=Cl hrs;split at h<;>try trivial
 rename_i la lb le hla hlb hle;cases h;have Zx:=hr.boxes.gs;obtain⟨is,hi⟩:=U1 hr.boxes.len.symm hH;obtain⟨gg,HC⟩:=U1 (m:=G.g) (by rw [<-Zx];simp) hg;obtain⟨hHl,hHg⟩:=qG hH;obtain⟨ZC,apy⟩:=qG hg;obtain⟨hil,hig⟩:=qG hi;obtain⟨amI,KE⟩:=qG HC
 have hgr:∀(j:Nat) x y,gg[j]? = some x->g[j]? = some y->x.1=y:=fun j x y hx hy=>by
  have hj:j<gs.length:=by grind
  obtain⟨x',h1,h2⟩:=KE j _ (fC hj);obtain⟨y',h3,h4⟩:=apy j _ (fC hj)
  grind
 have hg0:(gg.map fun x=>({x.1 with aF:=0}:bQ))=s.g0:=by
  unfold cL.g0;apply List.ext_getElem?
  grind
 have Ey:BM w G ⟨bs,gs,g.map (·.aF)⟩ (G.dS is gg) s.n0:=by
  refine⟨fun _ _ h=>h,fun r r' b h1 h2=>?_,fun j j' v x hd h1 h2 h3=>?_⟩
  ·obtain⟨b',h3,h4⟩:=hig r r' h1
   rw [h2] at h4;cases h4;have hrl:r<s.boxes.length:=by grind
   exact⟨r,by simp [cL.n0,hrl],h3⟩
  ·grind [List.getElem?_eq_some_iff,List.getElem?_eq_getElem,cL.n0,aJ.dS,cL.g0]
 obtain⟨p1,p2⟩:=Zz hE Ey hla hv
 obtain⟨q1,q5,q2⟩:=ZA hE Ey (rest:=le) (is:=is) hlb om (fun q b x hq hx=>by
  have sF:q<bs.length:=by grind
  obtain⟨b',h1,h2⟩:=hig q _ (fC sF);obtain⟨x',h3,h4⟩:=hHg q _ (fC sF);rw [hq] at h1;cases h1;rw [hx] at h3;cases h3;exact hr.boxes.box _ b x h2 h4)
 have hmem:∀b,b∈is->b∈G.i:=fun b hb=>by
  obtain⟨q,hq,rfl⟩:=lB hb;obtain⟨b',h1,h2⟩:=hig q _ (fC om)
  grind
 have hrow:∀(j:Nat) x hd,((G.dS is gg).g)[j]? = some (x,hd)->∃j' y,gs[j]? = some j'/\G.g[j']? = some (y,hd)/\x={y with aF:=0}:=fun j x hd hj=>by
  simp only [aJ.dS,Mx,Ub] at hj;have hjl:j<gs.length:=by grind
  obtain⟨x',h4,h5⟩:=KE j _ (fC hjl)
  grind
 have hnd:=vg ZB;have amJ:=vg hn2;refine⟨is,gg,hi,HC,⟨?_,?_,fun r b x hb hx=>?_,fun b hb=>hr.boxes.lt b (hmem b hb),?_,fun b o hp=>⟨(hr.boxes.ga b o hp).1,fun hm=>(hr.boxes.ga b o hp).2 (hmem b hm)⟩,fun j x hd hj=>?_,fun j j' x hd x' hd' b hj hj' hb hb'=>?_⟩,?_,p2⟩
 ·show is.length=(s.H (la++(lb++le))).length
  grind [cL.H]
 ·grind [aJ.dS,List.map_map,Function.comp_def]
 ·unfold cL.H at hx
  rw [p1] at hx;exact q2 r b x hb hx
 ·show is.Nodup
  refine adw.2 fun p q hp hq hpq he=>?_;obtain⟨b1,h1,h2⟩:=hig p _ (fC om);obtain⟨b2,h3,h4⟩:=hig q _ (fC om);have:b1=b2:=by grind
  subst this;have e1:=eO.1 h2;have e2:=eO.1 h4;have:=(RO hr.boxes.nodup).1 (e1.2.trans e2.2.symm)
  grind [List.getElem_inj]
 ·obtain⟨j',y,h1,h2,rfl⟩:=hrow j x hd hj
  obtain⟨n,xs,g1,g2,g3⟩:=hr.boxes.grow j' y hd h2;exact⟨n,xs,g1,g2,fun b hb=>⟨(g3 b hb).1,fun hm=>(g3 b hb).2.1 (hmem b hm),(g3 b hb).2.2⟩⟩
 ·obtain⟨i1,y,h1,h2,rfl⟩:=hrow j x hd hj
  obtain⟨i2,y',h3,h4,rfl⟩:=hrow j' x' hd' hj';have:=hr.boxes.apart i1 i2 y hd y' hd' b h2 h4 hb hb'
  grind [List.getElem?_eq_some_iff,List.getElem_inj]
 ·intro q c0 hm
  have hm:(q,c0)∈mD some s.soft (xF s.n0 s.boxes (zT s.n0 s.args (la++(lb++le))).2).2:=hm;rw [p1,q5] at hm;obtain⟨q',j,-,e1,e2,e3⟩:=Cj (rest:=[]) hle (by rw [adn];exact hm);cases e2;obtain⟨x,hd,h1,h2⟩:=hr.gf j c0 e3;obtain⟨x',h4,h5⟩:=KE q j e1;rw [h1] at h5;cases h5;exact⟨{x with aF:=0},hd,by simp [aJ.dS,h4],h2.keep rfl rfl (fun _ _ h=>h) (fun _ _ _ _ h=>h) (fun b _=>⟨rfl,fun _ h=>h⟩)⟩
end
end Go.RT
namespace Go.RT
variable {E : TEnv}
def jH{α:Type}:J (Nat×α)->J α->J α
 | [],l=>l
 | (i,x)::ps,l=>jH ps (l.set i x)
theorem gy{α:Type}:∀(ps:J (Nat×α))(l:J α),(jH ps l).length=l.length
 | [],l=>rfl
 | (i,x)::ps,l=>by simp [jH,gy ps]
theorem sZ{α:Type}:∀(ps:J (Nat×α))(l:J α)(q:Nat),q∉ps.map (·.1)->(jH ps l)[q]? = l[q]?
 | [],l,q,_=>rfl
 | (i,x)::ps,l,q,h=>by
  simp only [lD,iq,not_or] at h;rw [jH,sZ ps _ q h.2,My (fun e=>h.1 e.symm)]
theorem HJ{α:Type}:∀(ps:J (Nat×α))(l:J α)(q:Nat)(x:α),(ps.map (·.1)).Nodup->(q,x)∈ps->q<l.length->(jH ps l)[q]? = some x
 | (i,y)::ps,l,q,x,hn,hm,hq=>by
  simp only [lD,Qy] at hn;rcases iq.1 hm with he|hm
  ·obtain⟨rfl,rfl⟩:=he
   rw [jH,sZ ps _ _ hn.1,XA hq]
  ·exact HJ ps _ q x hn.2 hm (by simpa using hq)
def pn{α:Type}:J (O BT)->J Nat->J α->J (Nat×α)
 | some _::os,i::is,x::xs=>(i,x)::pn os is xs
 | none::os,_::is,_::xs=>pn os is xs
 | _,_,_=>[]
theorem zU{α:Type}:∀ {os:J (O BT)}{is:J Nat}{xs:J α}{i:Nat}{x:α},(i,x)∈pn os is xs->∃(r:Nat)(t:BT),os[r]? = some (some t)/\is[r]? = some i/\xs[r]? = some x
 | some t::os,j::is,y::xs,i,x,h=>by
  rcases iq.1 h with he|h
  ·cases he;exact⟨0,t,rfl,rfl,rfl⟩
  ·obtain⟨r,t',h1,h2,h3⟩:=zU h
   exact⟨r+1,t',by simpa using h1,by simpa using h2,by simpa using h3⟩
 | none::os,j::is,y::xs,i,x,h=>by
  obtain⟨r,t',h1,h2,h3⟩:=zU (xs:=xs) h
  exact⟨r+1,t',by simpa using h1,by simpa using h2,by simpa using h3⟩
 | [],_,_,_,_,h=>by cases h
 | some _::_,[],_,_,_,h=>by cases h
 | none::_,[],_,_,_,h=>by cases h
 | some _::_,_::_,[],_,_,h=>by cases h
 | none::_,_::_,[],_,_,h=>by cases h
theorem KF{α:Type}:∀ {os:J (O BT)}{is:J Nat}{xs:J α}(r:Nat){t:BT}{i:Nat}{x:α},os[r]? = some (some t)->is[r]? = some i->xs[r]? = some x->(i,x)∈pn os is xs
 | o::os,j::is,y::xs,0,t,i,x,h1,h2,h3=>by
  simp_all [pn]
 | o::os,j::is,y::xs,r+1,t,i,x,h1,h2,h3=>by
  have:=KF r (by simpa using h1) (by simpa using h2) (by simpa using h3)
  cases o<;>simp [pn,this]
 | [],_,_,_,_,_,_,h,_,_=>by simp at h
 | _::_,[],_,_,_,_,_,_,h,_=>by simp at h
 | _::_,_::_,[],_,_,_,_,_,_,h=>by simp at h
theorem F4{α:Type}:∀ {os:J (O BT)}{is:J Nat}{xs:J α},is.Nodup->((pn os is xs).map (·.1)).Nodup
 | some t::os,j::is,y::xs,h=>by
  rw [Qy] at h;simp only [pn,lD,Qy];refine⟨fun hm=>?_,F4 h.2⟩;obtain⟨p,hp,he⟩:=yx.1 hm;obtain⟨i,x⟩:=p;obtain⟨r,t',-,h2,-⟩:=zU hp
  exact h.1 (by rw [<-show i=j from he];exact iX h2)
 | none::os,j::is,y::xs,h=>F4 (xs:=xs) (Qy.1 h).2
 | [],_,_,_=>FB
 | some _::_,[],_,_=>FB
 | none::_,[],_,_=>FB
 | some _::_,_::_,[],_=>FB
 | none::_,_::_,[],_=>FB
theorem O4:∀ {bs:J (O BT)}{r q:Nat},r+q∈CR r bs->∃t,bs[q]? = some (some t)
 | [],_,_,h=>by cases h
 | none::bs,r,q,h=>by
  simp [CR] at h
  cases q with
  | zero=>
   have key:∀(bs:J (O BT))(r x:Nat),x∈CR r bs->r<=x:=by
    intro bs
    induction bs with
    | nil=>intro r x h;cases h
    | cons o bs ih=>
     intro r x h
     cases o with
     | none=>have:=ih (r+1) x h;omega
     | some t=>rcases List.mem_cons.1 h with rfl|h;exact Nat.le_refl _;grind
   grind
  | succ q=>
   obtain⟨t,ht⟩:=O4 (bs:=bs) (r:=r+1) (q:=q) (by grind)
   simp_all
 | some t::bs,r,q,h=>by
  cases q with
  | zero=>exact⟨t,rfl⟩
  | succ q=>
   rcases iq.1 h with he|h
   ·omega
   ·obtain⟨t,ht⟩:=O4 (by rw [show r+1+q=r+(q+1) by omega];exact h)
    exact⟨t,by simpa using ht⟩
def rowAt:O (aD×Nat)->O bQ->bQ
 | none,some x=>x
 | some p,some x=>⟨x.aF+1,p.1,p.2⟩
 | some p,none=>⟨0,p.1,p.2⟩
 | none,none=>⟨0,0,0⟩
theorem mE:∀(rs:J (O (aD×Nat)))(g:J bQ),(dN rs g).length=rs.length
 | [],_=>rfl
 | none::rs,_::g=>by simp_all [dN,mE]
 | some _::rs,_::g=>by simp_all [dN,mE]
 | some _::rs,[]=>by simp_all [dN,mE]
 | none::rs,[]=>by simp_all [dN,mE]
theorem Cm:∀(rs:J (O (aD×Nat)))(g:J bQ)(j:Nat)(o:O (aD×Nat)),rs[j]? = some o->(dN rs g)[j]? = some (rowAt o g[j]?)
 | [],_,_,_,h=>by simp at h
 | r::rs,x::g,0,o,h=>by simp at h;subst h;cases r<;>simp [dN,rowAt]
 | r::rs,[],0,o,h=>by simp at h;subst h;cases r<;>simp [dN,rowAt]
 | r::rs,x::g,j+1,o,h=>by
  have:=Cm rs g j o (by simpa using h)
  cases r<;>simpa [dN] using this
 | r::rs,[],j+1,o,h=>by
  have:=Cm rs [] j o (by simpa using h);cases r<;>simpa [dN] using this
theorem nv(n:Rn):∀(bs:J (O BT))(H:J (eZ E))(ls:J (Lf E)),(eE n bs H ls).length=bs.length
 | [],_,_=>rfl
 | none::bs,H,ls=>by simp_all [eE,nv]
 | some t::bs,H,ls=>by simp_all [eE,nv]
theorem Dy{w:U}{G G2:aJ}{n n2:Rn}(hL:KD w G n G2 n2):∀(bs:J (O BT))(H H':J (eZ E))(ls:J (Lf E))(r:Nat){t:BT}{b:Nat}{x y:eZ E},bs[r]? = some (some t) ->
  (eE n bs H ls)[r]? = some x->(eE n2 bs H' ls)[r]? = some y->jE E w G b x->jE E w G2 b y
 | [],_,_,_,_,_,_,_,_,h,_,_,_=>by simp at h
 | none::bs,H,H',ls,r+1,t,b,x,y,h,hx,hy,hb=>Dy hL bs H.tail H'.tail ls r (by simpa using h) (by simpa [eE] using hx) (by simpa [eE] using hy) hb
 | none::bs,H,H',ls,0,t,b,x,y,h,hx,hy,hb=>by simp at h
 | some t'::bs,H,H',ls,0,t,b,x,y,h,hx,hy,hb=>by
  grind [eE,BT.move]
 | some t'::bs,H,H',ls,r+1,t,b,x,y,h,hx,hy,hb=>by
  simp [eE] at hx hy;rw [BT.yE n2 n] at hy;exact Dy hL bs H.tail H'.tail _ r (by simpa using h) hx hy hb
def yG:Nat->J (O BT)->Bool
 | 0,[]=>true
 | 0,some _::bs=>yG 0 bs
 | 0,none::_=>false
 | _+1,[]=>false
 | n+1,_::bs=>yG n bs
theorem IL:∀ {n:Nat}{bs:J (O BT)},yG n bs=true->n<=bs.length/\∀r,n<=r->r<bs.length->∃t,bs[r]? = some (some t)
 | 0,[],_=>⟨eo _,fun r _ h=>by simp at h⟩
 | 0,some t::bs,h=>by
  obtain⟨_,q⟩:=IL (bs:=bs) h
  grind
 | 0,none::_,h=>by cases h
 | _+1,[],h=>by cases h
 | n+1,o::bs,h=>by
  obtain⟨q1,q2⟩:=IL (n:=n) h;refine⟨by simpa using q1,fun r h1 h2=>?_⟩
  cases r with
  | zero=>omega
  | succ r=>simp_all
def JB(gs:J Nat):J (Nat×Cn E)->J (Nat×Cn E)
 | []=>[]
 | p::cs=>cond (gs.elem p.1) (JB gs cs) (p::JB gs cs)
theorem zV{gs:J Nat}:∀ {cs:J (Nat×Cn E)}{i:Nat}{c:Cn E},(i,c)∈JB gs cs->(i,c)∈cs/\i∉gs
 | [],i,c,h=>by cases h
 | p::cs,i,c,h=>by
  simp only [JB] at h;cases hb:gs.elem p.1<;>rw [hb] at h<;>simp only [bq,aS] at h
  ·rcases iq.1 h with h|h
   ·refine⟨by rw [h];simp,fun e=>?_⟩
    rw [<-h] at hb;rw [ajN e] at hb;cases hb
   ·exact⟨pX _ (zV h).1,(zV h).2⟩
  ·exact⟨pX _ (zV h).1,(zV h).2⟩
theorem zX{f:Nat->O Nat}:∀ {ps:J (Nat×Ty)}{ls:J (Lf E)}{i:Nat}{c:Cn E},(i,c)∈mD f ps ls->∃q,f q=some i/\(q,c)∈mD some ps ls
 | [],ls,i,c,h=>by cases ls<;>cases h
 | p::ps,[],i,c,h=>by cases h
 | p::ps,l::ls,i,c,h=>by
  obtain⟨q,t⟩:=p;obtain⟨t',x⟩:=l;simp [mD] at h⊢
  cases hf:f q with
  | none=>
   rw [hf] at h;obtain⟨q',e1,e2⟩:=zX (by cases t'<;>exact h);refine⟨q',e1,?_⟩
   cases t'<;>first|exact e2|simp_all
  | some i'=>
   rw [hf] at h
   cases t' with
   | aZ t'=>
    rcases iq.1 h with e|h
    ·cases e;exact⟨q,hf,Mz ..⟩
    ·obtain⟨q',e1,e2⟩:=zX h
     exact⟨q',e1,pX _ e2⟩
   | _=>
    simp_all [zX]
def Outs.n2(o:Outs)(bs gs:J Nat)(st:TS E):Rn:=
 ⟨bs++List.range' st.H.length (o.boxes.length-bs.length),gs++List.range' st.g.length (o.rows.length-gs.length),(dN o.rows ((pick st.g gs).getD [])).map (·.aF)⟩
def Outs.val(o:Outs)(bs gs:J Nat)(st:TS E)(ls:J (Lf E)):TV E:=(o.res.put (o.n2 bs gs st) ls).1
def Outs.hc(o:Outs)(bs gs:J Nat)(st:TS E)(ls:J (Lf E)):J (eZ E):=eE (o.n2 bs gs st) o.boxes [] (o.res.put (o.n2 bs gs st) ls).2
def Outs.after(o:Outs)(bs gs:J Nat)(st:TS E)(ls:J (Lf E)):TS E:=
 {st with
  H:=jH (pn o.boxes bs (o.hc bs gs st ls)) st.H++(o.hc bs gs st ls).drop bs.length
  g:=jH (gs.zip (dN o.rows ((pick st.g gs).getD []))) st.g++(dN o.rows ((pick st.g gs).getD [])).drop gs.length
  d:=(pn o.boxes bs (o.hc bs gs st ls)).map (·.1)++st.d
  c:=mD (fun q=>(o.n2 bs gs st).g[q]?) o.soft (oM o.boxes (o.res.put (o.n2 bs gs st) ls).2)++JB gs st.c}
theorem Nr{α:Type}:∀ {l:J Nat}{m:J α},l.Nodup->((l.zip m).map (·.1)).Nodup
 | [],_,_=>FB
 | _::_,[],_=>FB
 | x::l,y::m,h=>by
  rw [Qy] at h;simp only [List.zip_cons_cons,lD,Qy];refine⟨fun hm=>h.1 ?_,Nr h.2⟩;obtain⟨p,hp,he⟩:=yx.1 hm;rw [<-he];exact (adx hp).1
theorem IM{α:Type}:∀ {l:J Nat}{m:J α}(j:Nat){i:Nat}{x:α},l[j]? = some i->m[j]? = some x->(i,x)∈l.zip m
 | y::l,z::m,0,i,x,h1,h2=>by simp_all
 | y::l,z::m,j+1,i,x,h1,h2=>by
  have:=IM j (by simpa using h1) (by simpa using h2)
  simp [this]
 | [],_,_,_,_,h,_=>by simp at h
 | _::_,[],_,_,_,_,h=>by simp at h
end Go.RT
namespace Go.RT
variable {E : TEnv}
section
variable {P : aE} {w0 w w' : U} {G0 G G' : aJ} {st : TS E} {a : Act}
theorem Rel.leave(hr:Rel E w0 G0 st a w G){bs gs is:J Nat}{gg:J (bQ×Value)}(hi:pick G.i bs=some is)(hg:pick G.g gs=some gg)(ZB:bs.Nodup)(hn2:gs.Nodup)(o:Outs)
  (hb:yG bs.length o.boxes=true) (ZC:gs.length<=o.rows.length) {H0:J (eZ E)} {ls:J (Lf E)} {v:Value} (hE:kC w (G.dS is gg) w' G')
  (hB:lu E w' G' (eE (o.n1 ((G.dS is gg).g.map (·.1))) o.boxes H0 (o.res.put (o.n1 ((G.dS is gg).g.map (·.1))) ls).2) (dN o.rows ((G.dS is gg).g.map (·.1))))
  (hS:kg E w' G' (mD some o.soft (oM o.boxes (o.res.put (o.n1 ((G.dS is gg).g.map (·.1))) ls).2)))
  (hv:VT E w' G' (o.res.put (o.n1 ((G.dS is gg).g.map (·.1))) ls).1 v) (KG:∀(q b:Nat),is[q]? = some b->q∉CR 0 o.boxes->w'.heap[b]? = w.heap[b]?) :
  ∃Gn,Rel E w0 G0 (o.after bs gs st ls) a w' Gn/\VT E w' Gn (o.val bs gs st ls) v:=by
 obtain⟨Jr,hsome⟩:=IL hb;obtain⟨hil,hig⟩:=qG hi;obtain⟨amI,KE⟩:=qG hg;have hlen:=hr.boxes.len;have Zx:=hr.boxes.gs;have amK:G.g.length=st.g.length:=hr.pe
 have aoj:pick st.g gs=some (gg.map (·.1)):=by
  have key:∀(l:J Nat)(ys:J (bQ×Value)),pick G.g l=some ys->pick st.g l=some (ys.map (·.1)):=by
   intro l
   induction l with
   | nil=>intro ys h;cases h;rfl
   | cons i l ih=>
    grind [pick]
  exact key gs gg hg
 have hpg:(pick st.g gs).getD []=gg.map (·.1):=by rw [aoj];rfl
 let g0:J bQ:=(G.dS is gg).g.map (·.1)
 have aqq:g0.length=gs.length:=by simp [g0,aJ.dS,amI]
 let nc:=dN o.rows g0
 let ng:=dN o.rows (gg.map (·.1))
 have apz:nc.length=o.rows.length:=mE _ _;have amL:ng.length=o.rows.length:=mE _ _;have apA:G'.i.length=o.boxes.length:=by rw [hB.len,nv]
 have amM:G'.g.map (·.1)=nc:=hB.gs;have aez:G'.g.length=o.rows.length:=by rw [<-apz,<-amM];simp
 have aok:∀(r b:Nat),is[r]? = some b->G'.i[r]? = some b:=fun r b h=>hE.goes.i r b h
 let nY:J (bQ×Value):=ng.zip (G'.g.map (·.2))
 have aol:nY.length=o.rows.length:=by simp [nY,amL,aez]
 have aeA:nY.map (·.1)=ng:=by
  simp only [nY];rw [List.map_fst_zip];simp [amL,aez]
 let Gn:aJ:=⟨G.i++G'.i.drop bs.length,jH (gs.zip nY) G.g++nY.drop gs.length,G'.pr⟩
 have hent:∀(j:Nat) y,nY[j]? = some y->∃ro x' ,o.rows[j]? = some ro/\G'.g[j]? = some (x',y.2)/\x'=rowAt ro g0[j]?/\y.1=rowAt ro (gg.map (·.1))[j]?:=by
  intro j y hj;have hjl:j<o.rows.length:=by rw [<-aol];exact (eO.1 hj).1
  have hro:=fC hjl;have h1:=Cm o.rows (gg.map (·.1)) j _ hro;have h2:=Cm o.rows g0 j _ hro
  grind
 have hold:∀(j j':Nat) x h,gs[j]? = some j'->G.g[j']? = some (x,h)->gg[j]? = some (x,h)/\g0[j]? = some {x with aF:=0}/\(gg.map (·.1))[j]? = some x:=by
  intro j j' x h h1 h2;obtain⟨y,h3,h4⟩:=KE j j' h1;rw [h2] at h4;cases h4;refine⟨h3,?_,by simp [h3]⟩;simp [g0,aJ.dS,h3]
 have aom:∀(j j':Nat) x h,gs[j]? = some j'->G.g[j']? = some (x,h)->∃y,nY[j]? = some y/\x.aF<=y.1.aF/\(x.aF=y.1.aF->y.2=h):=by
  intro j j' x h h1 h2;have hjl:j<gs.length:=(eO.1 h1).1;have hjn:j<nY.length:=om;obtain⟨ro,x',q1,q2,q3,q4⟩:=hent j _ (fC hjn);obtain⟨o1,o2,o3⟩:=hold j j' x h h1 h2;rw [o2] at q3;rw [o3] at q4;refine⟨_,fC hjn,?_,fun e=>?_⟩
  ·rw [q4];cases ro<;>simp [rowAt]
  ·rw [q4] at e
   cases ro with
   | some p=>simp [rowAt] at e
   | none=>
    simp only [rowAt] at q3;have hsel:((G.dS is gg).g)[j]? = some ({x with aF:=0},h):=by simp [aJ.dS,o1]
    obtain⟨x2,h3,r1,r2,r3⟩:=hE.goes.g j _ h hsel;rw [q2] at r1;cases r1;exact r3 (by rw [q3])
 have hgn:∀(q:Nat) y,Gn.g[q]? = some y->(q∉gs/\G.g[q]? = some y)\/∃j,nY[j]? = some y/\((gs[j]? = some q/\q<G.g.length)\/(gs.length<=j/\q=G.g.length+(j-gs.length))):=by
  intro q y hq;have hq:(jH (gs.zip nY) G.g++nY.drop gs.length)[q]? = some y:=hq;by_cases sF:q<G.g.length
  ·rw [uJ (by rw [gy];exact sF)] at hq
   by_cases hm:q∈gs
   ·obtain⟨j,hj,rfl⟩:=lB hm
    grind [HJ,Nr,IM,List.getElem?_eq_getElem]
   ·rw [sZ _ _ q (fun ZD=>hm (by obtain⟨p,hp,he⟩:=yx.1 ZD;rw [<-he];exact (adx hp).1))] at hq
    exact .inl ⟨hm,hq⟩
  ·rw [Iy (by rw [gy];omega),gy,OO] at hq
   exact .inr ⟨gs.length+(q-G.g.length),hq,.inr ⟨om,om⟩⟩
 have ZE:∀(j q:Nat) y,gs[j]? = some q->q<G.g.length->nY[j]? = some y->Gn.g[q]? = some y:=by
  intro j q y h1 h2 h3;show (jH (gs.zip nY) G.g++nY.drop gs.length)[q]? = some y;rw [uJ (by rw [gy];exact h2)];exact HJ (gs.zip nY) G.g q y (Nr hn2) (IM j h1 h3) h2
 have acG:∀(q:Nat) y,q∉gs->G.g[q]? = some y->Gn.g[q]? = some y:=by
  intro q y h1 h2;have sF:=(eO.1 h2).1;show (jH (gs.zip nY) G.g++nY.drop gs.length)[q]? = some y;rw [uJ (by rw [gy];exact sF),sZ _ _ q (fun ZD=>h1 (by obtain⟨p,hp,he⟩:=yx.1 ZD;rw [<-he];exact (adx hp).1))];exact h2
 have acH:∀(j:Nat) y,gs.length<=j->nY[j]? = some y->Gn.g[G.g.length+(j-gs.length)]? = some y:=by
  intro j y h1 h2;show (jH (gs.zip nY) G.g++nY.drop gs.length)[G.g.length+(j-gs.length)]? = some y;rw [Iy (by rw [gy];omega),gy,OO];rw [show gs.length+(G.g.length+(j-gs.length)-G.g.length)=j by omega];exact h2
 have KH:ic w G w' Gn:=by
  refine⟨hE.goes.pr,hE.goes.cells,fun r b h=>?_,fun q x h hq=>?_⟩
  ·show (G.i++G'.i.drop bs.length)[r]? = some b
   rw [uJ (eO.1 h).1];exact h
  ·by_cases hm:q∈gs
   ·obtain⟨j,hj,rfl⟩:=lB hm
    obtain⟨y,h1,h2,h3⟩:=aom j _ x h (fC hj) hq;exact⟨y.1,y.2,ZE j _ y (fC hj) (eO.1 hq).1 h1,h2,h3⟩
   ·exact⟨x,h,acG q _ hm hq,eo _,fun _=>rfl⟩
 have ev:=hr.eR
 have ZF:∀b,b∈is->b∈G.i:=fun b hb=>by
  obtain⟨q,hq,rfl⟩:=lB hb;obtain⟨b',h1,h2⟩:=hig q _ (fC om);rw [fC hq] at h1;cases h1;exact iX h2
 have BN:∀b,(G.dS is gg).rows b->∃(j j':Nat)(x:bQ)(h:Value),gs[j]? = some j'/\G.g[j']? = some (x,h)/\h.ownBlock=some b:=by
  rintro b ⟨x,h,hm,hbk⟩;obtain⟨j,hj,he⟩:=lB hm;have hj2:j<gg.length:=by simpa [aJ.dS] using hj
  obtain⟨y,h1,h2⟩:=KE j _ (fC om);rw [fC hj2] at h1;have h1:=uK h1
  have VX:gg[j].2=h:=by
   have:=congrArg Prod.snd he;simpa [aJ.dS] using this
  refine⟨j,_,y.1,y.2,fC om,h2,?_⟩;rw [<-h1,VX];exact hbk
 have JC:∀(j:Nat) x h b,G.g[j]? = some (x,h)->h.ownBlock=some b->b<w.heap.size/\b∉G.i:=fun j x h b hj hb=>by
  obtain⟨n,xs,-,-,q⟩:=hr.boxes.grow j x h hj;exact⟨(q b hb).1,(q b hb).2.1⟩
 have hsame:∀(q b:Nat),G.i[q]? = some b->q∉bs->w'.heap[b]? = w.heap[b]?:=by
  intro q b hq hnb;refine hE.old b (hr.boxes.lt b (iX hq)) (fun hf=>?_);rcases hf with hf|hf
  ·obtain⟨r,hrl,he⟩:=lB hf
   have amN:r<bs.length:=by
    have:r<is.length:=hrl;omega
   obtain⟨b',h1,h2⟩:=hig r _ (fC amN);have h1':is[r]? = some b:=by rw [<-he];exact fC hrl
   rw [h1'] at h1;cases h1;have e1:=eO.1 hq;have e2:=eO.1 h2;have:q=bs[r]:=(RO hr.boxes.nodup).1 (e1.2.trans e2.2.symm);exact hnb (by rw [this];exact kz amN)
  ·obtain⟨j,j',x,h,-,h2,h3⟩:=BN b hf
   exact (JC j' x h b h2 h3).2 (iX hq)
 have aeB:∀(q b:Nat),Gn.i[q]? = some b->G.i[q]? = some b\/(G.i.length<=q/\G'.i[bs.length+(q-G.i.length)]? = some b/\w.heap.size<=b):=by
  intro q b hq;have hq:(G.i++G'.i.drop bs.length)[q]? = some b:=hq;by_cases sF:q<G.i.length
  ·rw [uJ sF] at hq;exact .inl hq
  ·rw [Iy om,OO] at hq
   exact .inr ⟨om,hq,hE.p4 _ b (by show is.length<=_;omega) hq⟩
 have Yb:∀b,b∈Gn.i->b∈G.i\/(b∈G'.i/\w.heap.size<=b):=fun b hb=>by
  obtain⟨q,hq,he⟩:=lB hb;rcases aeB q b (by rw [<-he];exact fC hq) with h|⟨-,h1,h2⟩
  ·exact .inl (iX h)
  ·exact .inr ⟨iX h1,h2⟩
 have hblk:∀(j:Nat) x h b,G'.g[j]? = some (x,h)->h.ownBlock=some b->w.heap.size<=b\/∃(j':Nat)(x0:bQ)(h0:Value),gs[j]? = some j'/\G.g[j']? = some (x0,h0)/\h0.ownBlock=some b:=by
  intro j x h b hj hbk;rcases hE.gA j x h b hj hbk with q|⟨x0,h0,q1,q2⟩
  ·exact .inl q
  ·have DW:j<gg.length:=by
    have:=(eO.1 q1).1;simpa [aJ.dS] using this
   obtain⟨y,h1,h2⟩:=KE j _ (fC om)
   grind [List.getElem?_eq_getElem,Option.some.inj,aJ.dS]
 have Ey:KD w' G' (o.n1 g0) Gn (o.n2 bs gs st):=by
  refine⟨⟨fun _ _ h=>h,fun r r' b h1 h2=>?_,fun j j' vv x h h1 h2 h3=>?_⟩,?_,?_,?_⟩
  ·obtain⟨rfl,hlt⟩:=Wh h1
   by_cases hrb:r'<bs.length
   ·refine⟨bs[r'],by simp [Outs.n2,uJ hrb,hrb],?_⟩
    obtain⟨b',q1,q2⟩:=hig r' _ (fC hrb);have:=aok r' b' q1;rw [h2] at this;cases this;show (G.i++G'.i.drop bs.length)[bs[r']]? = some b;rw [uJ (eO.1 q2).1];exact q2
   ·refine⟨st.H.length+(r'-bs.length),?_,?_⟩
    ·simp only [Outs.n2]
     rw [Iy om];rw [ady om];simp
    ·show (G.i++G'.i.drop bs.length)[st.H.length+(r'-bs.length)]? = some b
     rw [<-hlen,Iy om,OO,show bs.length+(G.i.length+(r'-bs.length)-G.i.length)=r' by omega];exact h2
  ·obtain⟨rfl,hlt⟩:=Wh h1
   have hjn:j'<nY.length:=om;obtain⟨ro,x',q1,q2,q3,q4⟩:=hent j' _ (fC hjn);rw [h3] at q2;have q2:=uK q2;simp only [ac8] at q2
   have SG:x.aF=vv:=by
    have h2:(nc.map (·.aF))[j']? = some vv:=h2;rw [<-amM,Bg,Mx,h3] at h2;simpa using h2
   refine⟨SG,?_⟩
   have qh:((dN o.rows ((pick st.g gs).getD [])).map (·.aF))[j']? = some nY[j'].1.aF:=by
    rw [hpg,show dN o.rows (gg.map (·.1))=ng from rfl,<-aeA];simp [hjn]
   by_cases DW:j'<gs.length
   ·obtain⟨y,r1,r2⟩:=KE j' _ (fC DW)
    refine⟨gs[j'],nY[j'].1.aF,nY[j'].1,by simp [Outs.n2,uJ DW,DW],qh,?_,rfl⟩;rw [ZE j' _ _ (fC DW) (eO.1 r2).1 (fC hjn),q2.2]
   ·refine⟨st.g.length+(j'-gs.length),nY[j'].1.aF,nY[j'].1,?_,qh,?_,rfl⟩
    ·simp only [Outs.n2]
     rw [Iy om,ady om];simp
    ·rw [<-amK,acH j' _ om (fC hjn),q2.2]
  ·simp [Outs.n1,Outs.n2];omega
  ·simp [Outs.n1,Outs.n2];omega
  ·simp [Outs.n1,Outs.n2,mE]
 have hval:VT E w' Gn (o.val bs gs st ls) v:=PT.move Ey o.res ls hv;have ff:(o.res.put (o.n2 bs gs st) ls).2=(o.res.put (o.n1 g0) ls).2:=PT.yE _ _ _ _;have apB:(o.hc bs gs st ls).length=o.boxes.length:=nv _ _ _ _
 have aqh:∀(r b:Nat) t y,o.boxes[r]? = some (some t)->G'.i[r]? = some b->(o.hc bs gs st ls)[r]? = some y->jE E w' Gn b y:=by
  intro r b t y h1 h2 h3;have hrl:r<o.boxes.length:=(eO.1 h1).1;have hx:r<(eE (o.n1 g0) o.boxes H0 (o.res.put (o.n1 g0) ls).2).length:=by rw [nv];exact hrl
  have hbx:=hB.box r b _ h2 (fC hx);unfold Outs.hc at h3;rw [ff] at h3;exact Dy Ey o.boxes H0 [] _ r h1 (fC hx) h3 hbx
 refine⟨Gn,⟨⟨hE.os.trans ev.os,hE.tape.trans ev.tape,hE.output.trans ev.output,nH ev.size hE.size,fun b hb hnf=>?_,ev.goes.trans KH,fun b oo hb hp=>?_,fun q b h1 h2=>?_,fun q x h b hq hbk=>?_⟩,hr.size,fun j d hj=>(hr.tmps j d hj).mono KH,hr.defers.mono KH,?_,fun r b hb hd=>?_,hr.pins,?_⟩,hval⟩
 ·refine (hE.old b (jz hb ev.size) (fun hf=>?_)).trans (ev.old b hb hnf)
  rcases hf with hf|hf
  ·have hbi:=ZF b hf
   obtain⟨q,hq,he⟩:=lB hbi;have SJ:G.i[q]? = some b:=by rw [<-he];exact fC hq
   by_cases sF:q<G0.i.length
   ·have e1:=ev.goes.i q _ (fC sF)
    rw [SJ] at e1;exact hnf (.inl (by rw [uK e1];exact kz sF))
   ·have:=ev.p4 q b om SJ;omega
  ·obtain⟨j,j',x,h,-,h2,h3⟩:=BN b hf
   rcases ev.gA j' x h b h2 h3 with q|⟨x0,h0,q1,q2⟩
   ·omega
   ·exact hnf (.inr ⟨x0,h0,iX q1,q2⟩)
 ·rcases hE.nt b oo (jz hb ev.size) hp with q|q
  ·exact ev.nt b oo hb q
  ·obtain⟨j,j',x,h,-,h2,h3⟩:=BN b q
   rcases ev.gA j' x h b h2 h3 with q|⟨x0,h0,q1,q2⟩
   ·omega
   ·exact .inr ⟨x0,h0,iX q1,q2⟩
 ·rcases aeB q b h2 with h|⟨-,-,h⟩
  ·exact ev.p4 q b h1 h
  ·exact nH ev.size h
 ·rcases hgn q (x,h) hq with⟨-,h1⟩|⟨j,h1,h2⟩
  ·exact ev.gA q x h b h1 hbk
  ·obtain⟨ro,x',q1,q2,-,-⟩:=hent j _ h1
   rcases hblk j x' h b q2 hbk with q|⟨j',x0,h0,q3,q4,q5⟩
   ·exact .inl (nH ev.size q)
   ·rcases h2 with⟨h2,-⟩|⟨h2,-⟩
    ·rw [h2] at q3;cases q3
     exact ev.gA q x0 h0 b q4 q5
    ·have:=(eO.1 q3).1;omega
 ·refine⟨?_,?_,fun q b y hq hy=>?_,fun b hb=>?_,?_,fun b oo hp=>?_,fun q x h hq=>?_,fun q q' x h x' h' b hq Yu xj o5=>?_⟩
  ·show (G.i++G'.i.drop bs.length).length=(jH (pn o.boxes bs (o.hc bs gs st ls)) st.H++(o.hc bs gs st ls).drop bs.length).length
   simp only [ug,Kc,gy,apB,apA,hlen]
  ·show (jH (gs.zip nY) G.g++nY.drop gs.length).map (·.1)=jH (gs.zip (dN o.rows ((pick st.g gs).getD []))) st.g++(dN o.rows ((pick st.g gs).getD [])).drop gs.length
   rw [hpg,Kb,List.map_drop,aeA];congr 1
   have key:∀(l:J Nat)(m:J (bQ×Value))(g:J (bQ×Value)),(jH (l.zip m) g).map (·.1)=jH (l.zip (m.map (·.1))) (g.map (·.1)):=by
    intro l
    induction l with
    | nil=>intro m g;rfl
    | cons i l ih=>
     intro m g
     cases m with
     | nil=>rfl
     | cons y m=>
      simp only [List.zip_cons_cons,lD,jH];rw [ih,XS]
   rw [key,aeA,Zx]
  ·have hy:(jH (pn o.boxes bs (o.hc bs gs st ls)) st.H++(o.hc bs gs st ls).drop bs.length)[q]? = some y:=hy
   rcases aeB q b hq with h|⟨h1,h2,h3⟩
   ·have sF:q<st.H.length:=by rw [<-hlen];exact (eO.1 h).1
    rw [uJ (by rw [gy];exact sF)] at hy;by_cases hm:q∈bs
    ·obtain⟨r,hrl,rfl⟩:=lB hm
     obtain⟨b',q1,q2⟩:=hig r _ (fC hrl);rw [h] at q2;cases q2
     cases SK:o.boxes[r]? with
     | none=>rw [List.getElem?_eq_none_iff] at SK;omega
     | some ob=>
      cases ob with
      | some t=>
       grind [HJ,F4,KF,List.getElem?_eq_getElem]
      | none=>
       rw [sZ _ _ _ (fun ZD=>by
        obtain⟨p,hp,he⟩:=yx.1 ZD;obtain⟨i,x⟩:=p;obtain⟨r',t',e1,e2,-⟩:=zU hp;have e2':=eO.1 e2;have:r'=r:=(RO ZB).1 (e2'.2.trans he);subst this;rw [SK] at e1;cases e1)] at hy
       refine (hr.boxes.box _ b y h hy).mono KH (KG r b q1 (fun hc=>?_));rw [<-pW r] at hc;obtain⟨t,ht⟩:=O4 hc;rw [SK] at ht;cases ht
    ·rw [sZ _ _ _ (fun ZD=>by
      obtain⟨p,hp,he⟩:=yx.1 ZD;obtain⟨i,x⟩:=p;obtain⟨r',t',-,e2,-⟩:=zU hp;exact hm (by rw [<-show i=q from he];exact iX e2))] at hy
     exact (hr.boxes.box q b y h hy).mono KH (hsame q b h hm)
   ·rw [Iy (by rw [gy,<-hlen];omega),gy,OO,<-hlen] at hy
    grind
  ·rcases Yb b hb with h|⟨h,-⟩
   ·exact jz (hr.boxes.lt b h) hE.size
   ·exact hB.lt b h
  ·show (G.i++G'.i.drop bs.length).Nodup
   refine List.nodup_append.2 ⟨hr.boxes.nodup,(List.drop_sublist _ _).nodup hB.nodup,fun x hx y hy e=>?_⟩;subst e;obtain⟨q,hq,he⟩:=lB hy;have h1:(G'.i.drop bs.length)[q]? = some x:=by rw [<-he];exact fC hq
   rw [OO] at h1;have:=hE.p4 _ x (by show is.length<=_;omega) h1;have:=hr.boxes.lt x hx;omega
  ·refine⟨(hB.ga b oo hp).1,fun hm=>?_⟩
   rcases Yb b hm with h|⟨h,-⟩
   ·rcases hE.nt b oo (hr.boxes.lt b h) hp with q|q
    ·exact (hr.boxes.ga b oo q).2 h
    ·obtain⟨j,j',x,hh,-,h2,h3⟩:=BN b q
     exact (JC j' x hh b h2 h3).2 h
   ·exact (hB.ga b oo hp).2 h
  ·rcases hgn q (x,h) hq with⟨h0,h1⟩|⟨j,h1,h2⟩
   ·obtain⟨n,xs,g1,g2,g3⟩:=hr.boxes.grow q x h h1
    have hun:∀b,h.ownBlock=some b->w'.heap[b]? = w.heap[b]?:=fun b hbk=>by
     refine hE.old b (g3 b hbk).1 (fun hf=>?_);rcases hf with hf|hf
     ·exact (g3 b hbk).2.1 (ZF b hf)
     ·obtain⟨j,j',x',h',e1,e2,e3⟩:=BN b hf
      have:=hr.boxes.apart q j' x h x' h' b h1 e2 hbk e3;exact h0 (by rw [this];exact iX e1)
    refine⟨n,xs,⟨g1.1,?_⟩,g2,fun b hbk=>?_⟩
    ·rcases g1.2 with q2|⟨gb,cap,cur,q2,q3,q4,q5⟩
     ·exact .inl q2
     ·exact .inr ⟨gb,cap,cur,q2,q3,by rw [hun gb (by rw [q2];rfl)];exact q4,q5⟩
    ·obtain⟨k1,k2,k3⟩:=g3 b hbk
     refine⟨jz k1 hE.size,fun hm=>?_,fun oo ho hp=>?_⟩
     ·rcases Yb b hm with h'|⟨-,h'⟩
      ·exact k2 h'
      ·omega
     ·rcases hE.nt b oo k1 hp with q'|q'
      ·exact k3 oo ho q'
      ·obtain⟨j,j',x',h',e1,e2,e3⟩:=BN b q'
       have:=hr.boxes.apart q j' x h x' h' b h1 e2 hbk e3;exact h0 (by rw [this];exact iX e1)
   ·obtain⟨ro,x',q1,q2,q3,q4⟩:=hent j _ h1
    obtain⟨n,xs,g1,g2,g3⟩:=hB.grow j x' h q2
    have ZG:x.e=x'.e/\x.k=x'.k:=by
     have q4:x=rowAt ro (gg.map (·.1))[j]?:=q4;rw [q3,q4];by_cases DW:j<gg.length
     ·have e1:g0[j]? = some {gg[j].1 with aF:=0}:=by simp [g0,aJ.dS,DW]
      have e2:(gg.map (·.1))[j]? = some gg[j].1:=by simp [DW]
      rw [e1,e2];cases ro<;>simp [rowAt]
     ·have e1:g0[j]? = none:=Qt om
      have e2:(gg.map (·.1))[j]? = none:=Qt bE;rw [e1,e2];exact⟨rfl,rfl⟩
    refine⟨n,xs,by rw [ZG.1,ZG.2];exact g1,fun a m h=>by rw [ZG.1];exact g2 a m h,fun b hbk=>?_⟩;obtain⟨k1,k2,k3⟩:=g3 b hbk;refine⟨k1,fun hm=>?_,by rw [ZG.2];exact k3⟩;rcases Yb b hm with h'|⟨h',-⟩
    ·rcases hblk j x' h b q2 hbk with q'|⟨j',x0,h0,q5,q6,q7⟩
     ·have:=hr.boxes.lt b h';omega
     ·exact (JC j' x0 h0 b q6 q7).2 h'
    ·exact k2 h'
  ·rcases hgn q (x,h) hq with⟨n0,h1⟩|⟨j,h1,h2⟩<;>rcases hgn q' (x',h') Yu with⟨n0',h1'⟩|⟨j',h1',h2'⟩
   ·exact hr.boxes.apart q q' x h x' h' b h1 h1' xj o5
   ·exfalso
    obtain⟨ro,y,e1,e2,-,-⟩:=hent j' _ h1';rcases hblk j' y h' b e2 o5 with q5|⟨j2,x0,h0,q5,q6,q7⟩
    ·have:=(JC q x h b h1 xj).1;omega
    ·have:=hr.boxes.apart q j2 x h x0 h0 b h1 q6 xj q7
     exact n0 (by rw [this];exact iX q5)
   ·exfalso
    obtain⟨ro,y,e1,e2,-,-⟩:=hent j _ h1;rcases hblk j y h b e2 xj with q5|⟨j2,x0,h0,q5,q6,q7⟩
    ·have:=(JC q' x' h' b h1' o5).1;omega
    ·have:=hr.boxes.apart q' j2 x' h' x0 h0 b h1' q6 o5 q7
     exact n0' (by rw [this];exact iX q5)
   ·obtain⟨ro,y,e1,e2,-,-⟩:=hent j _ h1
    obtain⟨ro',y',Y9,e2',-,-⟩:=hent j' _ h1';have:=hB.apart j j' y h y' h' b e2 e2' xj o5;subst this;rcases h2 with⟨h2,-⟩|⟨h2,h3⟩<;>rcases h2' with⟨h2',-⟩|⟨h2',h3'⟩
    ·rw [h2] at h2';exact uK h2'
    ·have:=(eO.1 h2).1;omega
    ·have:=(eO.1 h2').1;omega
    ·omega
 ·have hd:r∉(pn o.boxes bs (o.hc bs gs st ls)).map (·.1)++st.d:=hd
  rw [wX,not_or] at hd;have hgi:=ev.goes.i r b hb;refine Eq.trans ?_ (hr.fix r b hb hd.2);by_cases hm:r∈bs
  ·obtain⟨q,sF,rfl⟩:=lB hm
   obtain⟨b',q1,q2⟩:=hig q _ (fC sF);rw [hgi] at q2;cases q2;refine KG q b q1 (fun hc=>hd.1 ?_);rw [<-pW q] at hc;obtain⟨t,ht⟩:=O4 hc;have hrc:q<(o.hc bs gs st ls).length:=om;exact yx.2 ⟨_,KF q ht (fC sF) (fC hrc),rfl⟩
  ·exact hsame r b hgi hm
 ·intro i c0 hm
  have hm:(i,c0)∈mD (fun q=>(o.n2 bs gs st).g[q]?) o.soft (oM o.boxes (o.res.put (o.n2 bs gs st) ls).2)++JB gs st.c:=hm;rcases wX.1 hm with hm|hm
  ·rw [ff] at hm
   obtain⟨q,e1,e2⟩:=zX hm;obtain⟨x',hd,h1,h2⟩:=hS q c0 e2;have sF:q<o.rows.length:=by rw [<-aez];exact (eO.1 h1).1
   have hqn:q<nY.length:=om;obtain⟨ro,x1,q1,q2,q3,q4⟩:=hent q _ (fC hqn);rw [h1] at q2;have q2:=uK q2;simp only [ac8] at q2;obtain⟨q2a,q2b⟩:=q2
   have ZG:nY[q].1.e=x'.e/\nY[q].1.k=x'.k:=by
    rw [q2a,q3,q4];by_cases DW:q<gg.length
    ·have e1:g0[q]? = some {gg[q].1 with aF:=0}:=by simp [g0,aJ.dS,DW]
     have e2:(gg.map (·.1))[q]? = some gg[q].1:=by simp [DW]
     rw [e1,e2];cases ro<;>simp [rowAt]
    ·have e1:g0[q]? = none:=Qt om
     have e2:(gg.map (·.1))[q]? = none:=Qt bE;rw [e1,e2];exact⟨rfl,rfl⟩
   refine⟨nY[q].1,hd,?_,h2.keep ZG.1 ZG.2 (fun _ _ h=>h) (fun _ _ _ _ h=>h) (fun b _=>⟨rfl,fun _ h=>h⟩)⟩;by_cases DW:q<gs.length
   ·obtain⟨y,r1,r2⟩:=KE q _ (fC DW)
    have:i=gs[q]:=by
     simp only [Outs.n2] at e1;rw [uJ DW,fC DW] at e1;exact (uK e1).symm
    rw [this,ZE q _ _ (fC DW) (eO.1 r2).1 (fC hqn),q2b]
   ·have:i=st.g.length+(q-gs.length):=by
     simp only [Outs.n2] at e1;rw [Iy om,ady om] at e1;have:=uK e1;omega
    rw [this,<-amK,acH q _ om (fC hqn),q2b]
  ·obtain⟨hmc,hng⟩:=zV hm
   obtain⟨x,hd,h1,h2⟩:=hr.gf i c0 hmc;obtain⟨n,xs,g1,g2,g3⟩:=hr.boxes.grow i x hd h1
   have hun:∀b,hd.ownBlock=some b->¬ (G.dS is gg).Ds b:=fun b hbk hf=>by
    rcases hf with hf|hf
    ·exact (g3 b hbk).2.1 (ZF b hf)
    ·obtain⟨j,j',x',h',e1,e2,e3⟩:=BN b hf
     have:=hr.boxes.apart i j' x hd x' h' b h1 e2 hbk e3;exact hng (by rw [this];exact iX e1)
   refine⟨x,hd,?_,h2.keep rfl rfl KH.pr KH.cells (fun b hbk=>⟨hE.old b (g3 b hbk).1 (hun b hbk),fun oo hp=>?_⟩)⟩
   ·exact acG i _ hng h1
   ·rcases hE.nt b oo (g3 b hbk).1 hp with q'|q'
    ·exact q'
    ·exact (hun b hbk (.inr q')).elim
end
end Go.RT
namespace Go.RT
variable {E : TEnv}
def uC(c:CT)(d:TV E)(st:TS E):TV E×TS E:=match c,d with
 | .dat _,.dZ j aF=>match st.g[j]?,nO st.c j with
  | some g,some c=>cond (Nat.beq g.aF aF) (.dat (.aZ c.1) c.2,{st with c:=mN j st.c}) (.dZ j aF,st)
  | _,_=>(.dZ j aF,st)
 | _,d=>(d,st)
def Ez:J CT->J (TV E)->TS E->J (TV E)×TS E
 | c::cs,d::ds,st=>((uC c d st).1::(Ez cs ds (uC c d st).2).1,(Ez cs ds (uC c d st).2).2)
 | _,ds,st=>(ds,st)
def EA(p:PT)(d:TV E)(st:TS E):TV E×TS E:=match p,d with
 | .one c,d=>uC c d st
 | .cY cs,.tuple ds=>(.tuple (Ez cs ds st).1,(Ez cs ds st).2)
 | _,d=>(d,st)
def xG:J PT->J (TV E)->TS E->J (TV E)×TS E
 | p::ps,d::ds,st=>((EA p d st).1::(xG ps ds (EA p d st).2).1,(xG ps ds (EA p d st).2).2)
 | _,ds,st=>(ds,st)
def oy(st st':TS E):Prop:=∃c',st'={st with c:=c'}
theorem oy.refl(st:TS E):oy st st:=⟨st.c,rfl⟩
theorem oy.trans{s1 s2 s3:TS E}(h1:oy s1 s2)(h2:oy s2 s3):oy s1 s3:=by
 obtain⟨c1,rfl⟩:=h1;obtain⟨c2,rfl⟩:=h2;exact⟨c2,rfl⟩
section
variable {w0 w : U} {G0 G : aJ} {a : Act}
theorem QX(c:CT)(d:TV E){st:TS E}(hr:Rel E w0 G0 st a w G):oy st (uC c d st).2/\∃G',Rel E w0 G0 (uC c d st).2 a w G'/\ic w G w G'/\∀v,VT E w G d v->VT E w G' (uC c d st).1 v:=by
 have vh:oy st st/\∃G',Rel E w0 G0 st a w G'/\ic w G w G'/\∀v,VT E w G d v->VT E w G' d v:=⟨oy.refl st,G,hr,ic.refl w G,fun _ h=>h⟩;unfold uC;split
 ·rename_i t j aF
  split
  ·rename_i g c hg hc
   cases hb:Nat.beq g.aF aF
   ·exact vh
   ·obtain rfl:=eB hb
    obtain⟨G',hR,zR,h1⟩:=hr.amB hg hc;exact⟨⟨_,rfl⟩,G',hR,zR,h1⟩
  ·exact vh
 ·exact vh
theorem ZH:∀(cs:J CT)(ds:J (TV E)){st:TS E}{G:aJ},Rel E w0 G0 st a w G->oy st (Ez cs ds st).2/\∃G',Rel E w0 G0 (Ez cs ds st).2 a w G'/\ic w G w G'/\∀vs,bD E w G ds vs->bD E w G' (Ez cs ds st).1 vs
 | [],ds,st,G,hr=>by
  grind [Ez,oy.refl,ic.refl]
 | c::cs,[],st,G,hr=>by
  grind [Ez,oy.refl,ic.refl]
 | c::cs,d::ds,st,G,hr=>by
  obtain⟨o1,G1,eM,g1,v1⟩:=QX c d hr;obtain⟨o2,G2,hr2,g2,v2⟩:=ZH cs ds eM;refine⟨o1.trans o2,G2,hr2,g1.trans g2,fun vs hv=>?_⟩;obtain⟨u,us,rfl,h1,h2⟩:=hv.cons_inv;exact .cons ((v1 u h1).mono g2) (v2 us (h2.mono g1))
theorem ZI(p:PT)(d:TV E){st:TS E}(hr:Rel E w0 G0 st a w G):oy st (EA p d st).2/\∃G',Rel E w0 G0 (EA p d st).2 a w G'/\ic w G w G'/\∀v,VT E w G d v->VT E w G' (EA p d st).1 v:=by
 unfold EA
 grind [QX,ZH,VT,oy.refl,ic.refl]
theorem Ns:∀(ps:J PT)(ds:J (TV E)){st:TS E}{G:aJ},Rel E w0 G0 st a w G->oy st (xG ps ds st).2/\∃G',Rel E w0 G0 (xG ps ds st).2 a w G'/\ic w G w G'/\∀vs,bD E w G ds vs->bD E w G' (xG ps ds st).1 vs
 | [],ds,st,G,hr=>by
  grind [xG,oy.refl,ic.refl]
 | c::cs,[],st,G,hr=>by
  grind [xG,oy.refl,ic.refl]
 | c::cs,d::ds,st,G,hr=>by
  obtain⟨o1,G1,eM,g1,v1⟩:=ZI c d hr;obtain⟨o2,G2,hr2,g2,v2⟩:=Ns cs ds eM;refine⟨o1.trans o2,G2,hr2,g1.trans g2,fun vs hv=>?_⟩;obtain⟨u,us,rfl,h1,h2⟩:=hv.cons_inv;exact .cons ((v1 u h1).mono g2) (v2 us (h2.mono g1))
theorem Rel.agw{st:TS E}(h:Rel E w0 G0 st a w G){i:Nat}(hi:st.t[i]? = some (.val (.slice none 0 0)))(e:aD)(T:Ty)(hT:0<T.size E):
  ∃G',Rel E w0 G0 {st with t:=st.t.set i (.dZ st.g.length 0),g:=st.g++[⟨0,e,T.size E⟩],c:=(st.g.length,⟨T,[]⟩)::st.c} a w G':=by
 have hN:=h.Jz e (T.size E);have hl:=h.pe;have kT:(G.g++[(⟨0,e,T.size E⟩,Value.slice none 0 0)])[st.g.length]? = some (⟨0,e,T.size E⟩,.slice none 0 0):=by rw [<-hl];simp
 have hC:=hN.U0 (c:=⟨T,[]⟩) ⟨_,_,kT,rfl,hT,⟨[],⟨si,.inl ⟨rfl,rfl⟩⟩,Flat.nil⟩,fun b hb=>by cases hb⟩;refine⟨_,hC.eR,by simpa using hC.size,fun j d hj=>?_,hC.defers,hC.boxes,hC.fix,hC.pins,hC.gf⟩;simp [Uo] at hj;by_cases hij:i=j
 ·subst hij
  have hlt:=(eO.1 hi).1;simp [hlt] at hj;subst hj;have hv:=h.tmps i _ hi;rw [hv];exact⟨_,_,kT,eo _,rfl,fun _=>rfl⟩
 ·rw [if_neg hij] at hj
  exact hN.tmps j d hj
theorem Rel.aeC{st:TS E}(h:Rel E w0 G0 st a w G){r c:Nat}{t:aD}{cs:J (TV E)}(hr:st.H[r]? = some (.cells t cs))(hc:cs[c]? = some (.val (.slice none 0 0)))(e:aD)(T:Ty)(hT:0<T.size E):
  ∃G',Rel E w0 G0 {st with H:=st.H.set r (.cells t (cs.set c (.dZ st.g.length 0))),g:=st.g++[⟨0,e,T.size E⟩],d:=r::st.d,c:=(st.g.length,⟨T,[]⟩)::st.c} a w G':=by
 have hN:=h.Jz e (T.size E);have hl:=h.pe;have kT:(G.g++[(⟨0,e,T.size E⟩,Value.slice none 0 0)])[st.g.length]? = some (⟨0,e,T.size E⟩,.slice none 0 0):=by rw [<-hl];simp
 have hC:=hN.U0 (c:=⟨T,[]⟩) ⟨_,_,kT,rfl,hT,⟨[],⟨si,.inl ⟨rfl,rfl⟩⟩,Flat.nil⟩,fun b hb=>by cases hb⟩;have hlr:r<G.i.length:=by rw [h.boxes.len];grind
 have hat:=fC hlr;have hS:=hC.xC hat rfl rfl rfl rfl (fun _ _=>rfl) (x:=.cells t (cs.set c (.dZ st.g.length 0))) (fun _=>?_)
 ·exact⟨_,hS⟩
 ·obtain⟨vs,h1,h2,h3⟩:=hC.boxes.box r _ _ hat hr
  refine⟨vs,h1,h2,?_⟩;obtain⟨u,hu,hv⟩:=h3.get c hc;subst hv
  have key:∀(G1:aJ)(cs:J (TV E))(vs:J Value)(c:Nat)(d:TV E),bD E w G1 cs vs->vs[c]? = some (.slice none 0 0) ->
    VT E w G1 d (.slice none 0 0)->bD E w G1 (cs.set c d) vs:=by
   intro G1 cs
   induction cs with
   | nil=>simp_all
   | cons x cs ih=>
    intro vs c d h1 h2 h3;obtain⟨u,us,rfl,q1,q2⟩:=h1.cons_inv
    cases c with
    | zero=>simp at h2;subst h2;exact .cons h3 q2
    | succ c=>exact .cons q1 (ih us c d q2 (by simpa using h2) h3)
  refine key _ cs vs.toList c _ h3 hu ?_;simp [VT]
  grind
end
end Go.RT
namespace Go.RT
variable {E : TEnv}
structure Fr(W:List Nat)(nd:Bool)(st st':TS E):Prop where
 len:st'.t.length=st.t.length
 keep:∀i,i∉W->st'.t[i]? = st.t[i]?
 d:∃D,st'.d=D++st.d/\∀r,r<st.H.length->r∉D->st'.H[r]? = st.H[r]?
 hl:st.H.length<=st'.H.length
 df:nd=true->st'.df=st.df
theorem Fr.refl(W:J Nat)(nd:Bool)(st:TS E):Fr W nd st st:=⟨rfl,fun _ _=>rfl,⟨[],rfl,fun _ _ _=>rfl⟩,eo _,fun _=>rfl⟩
theorem Fr.trans{W1 W2 W:J Nat}{n1 n2 n:Bool}{s1 s2 s3:TS E}(h1:Fr W1 n1 s1 s2)(h2:Fr W2 n2 s2 s3)(hw1:∀i,i∈W1->i∈W)(zA:∀i,i∈W2->i∈W)(hn:n=true->n1=true/\n2=true):Fr W n s1 s3:=by
 obtain⟨D1,d1,e1⟩:=h1.d;obtain⟨D2,d2,e2⟩:=h2.d;refine⟨h2.len.trans h1.len,fun i hi=>(h2.keep i (fun h=>hi (zA i h))).trans (h1.keep i (fun h=>hi (hw1 i h))),⟨D2++D1,by simp_all,fun r hr hd=>?_⟩,nH h1.hl h2.hl,fun h=>(h2.df (hn h).2).trans (h1.df (hn h).1)⟩
 grind
theorem Fr.wide{W W':J Nat}{n n':Bool}{s s':TS E}(h:Fr W n s s')(hw:∀i,i∈W->i∈W')(hn:n'=true->n=true):Fr W' n' s s':=
 ⟨h.len,fun i hi=>h.keep i (fun hm=>hi (hw i hm)),h.d,h.hl,fun h'=>h.df (hn h')⟩
def ig:O Nat->J Nat
 | some i=>[i]
 | none=>[]
theorem KI(l:J (TV E))(dst:O Nat)(d:TV E):(b9 l dst d).length=l.length:=by cases dst<;>simp [b9]
theorem HK(l:J (TV E))(dst:O Nat)(d:TV E)(i:Nat)(h:i∉ig dst):(b9 l dst d)[i]? = l[i]?:=by
 cases dst with
 | none=>rfl
 | some j=>
  grind [ig,List.mem_singleton,b9,List.getElem?_set_ne]
theorem Fr.put(st:TS E)(dst:O Nat)(d:TV E):Fr (ig dst) true st {st with t:=b9 st.t dst d}:=
 ⟨KI _ _ _,fun i hi=>HK _ _ _ _ hi,⟨[],rfl,fun _ _ _=>rfl⟩,eo _,fun _=>rfl⟩
theorem Fr.aip(st:TS E)(dst:O Nat)(d:TV E)(H:J (eZ E))(g:J bQ)(D:J Nat)(c:J (Nat×Cn E))(hH:∀r,r<st.H.length->r∉D->H[r]? = st.H[r]?)(hl:st.H.length<=H.length):
  Fr (ig dst) true st {st with t:=b9 st.t dst d,H:=H,g:=g,d:=D++st.d,c:=c}:=
 ⟨KI _ _ _,fun i hi=>HK _ _ _ _ hi,⟨D,rfl,hH⟩,hl,fun _=>rfl⟩
theorem Fr.mem(st:TS E)(dst:O Nat)(d:TV E)(H:J (eZ E))(g:J bQ)(D:J Nat)(hH:∀r,r<st.H.length->r∉D->H[r]? = st.H[r]?)(hl:st.H.length<=H.length):
  Fr (ig dst) true st {st with t:=b9 st.t dst d,H:=H,g:=g,d:=D++st.d}:=
 ⟨KI _ _ _,fun i hi=>HK _ _ _ _ hi,⟨D,rfl,hH⟩,hl,fun _=>rfl⟩
theorem KJ{α:Type}(l m:J α):∀r,r<l.length->r∉([]:J Nat)->(l++m)[r]? = l[r]?:=fun r hr _=>by grind
theorem BO{α:Type}(l:J α)(q:Nat)(x:α):∀r,r<l.length->r∉[q]->(l.set q x)[r]? = l[r]?:=fun r _ hd=>by
 grind
theorem aiq{P:aE}{ty:aD->O Ty}{st st':TS E}{dst:O Nat}{op:Op}{c:Bool}(h:SC P ty st dst op=some (c,st')):Fr (ig dst) true st st':=by
 cases op<;>simp [SC] at h<;>try trivial
 case alloc t=>split at h<;>cases h;exact Fr.mem st dst _ _ st.g [] (KJ _ _) si
 case box t x=>split at h<;>cases h;exact Fr.mem st dst _ _ st.g [] (KJ _ _) si
 case store t x y=>
  split at h<;>try trivial
  split at h<;>cases h;exact Fr.mem st dst _ _ st.g [_] (BO _ _ _) si
 case buildSlice t len parts=>
  split at h<;>try trivial
  split at h<;>try trivial
  split at h<;>try trivial
  cases hl:Nat.beq len 0<;>rw [hl] at h<;>simp only [bq,aS] at h
  ·cases h
   exact Fr.mem st dst _ st.H _ [] (fun _ _ _=>rfl) (eo _)
  ·generalize E.zc _=z at h
   cases z<;>simp only [bq,aS] at h<;>cases h
   ·exact Fr.mem st dst _ st.H st.g [] (fun _ _ _=>rfl) (eo _)
   ·exact Fr.mem st dst _ st.H _ [] (fun _ _ _=>rfl) (eo _)
 case call c'=>
  unfold aej at h;split at h<;>try trivial
  ·split at h<;>try trivial
   split at h<;>try trivial
   split at h<;>try trivial
   split at h<;>try trivial
   ·split at h<;>try trivial
    split at h<;>cases h;exact Fr.mem st dst _ st.H _ [] (fun _ _ _=>rfl) (eo _)
   ·cases h
    exact Fr.mem st dst _ st.H _ [] (fun _ _ _=>rfl) (eo _)
  ·split at h<;>try trivial
   split at h<;>cases h;exact Fr.mem st dst _ st.H _ [] (fun _ _ _=>rfl) (eo _)
 case convert src dt x=>
  grind [Fr.put]
 case makeMap t res=>
  cases res with
  | some x=>simp at h
  | none=>
   simp only at h;split at h<;>try trivial
   split at h<;>cases h;exact Fr.mem st dst _ _ st.g [] (KJ _ _) si
 case mapUpdate t x y z=>
  split at h<;>try trivial
  split at h<;>try trivial
  split at h<;>cases h;exact Fr.mem st dst _ _ st.g [_] (BO _ _ _) si
 grind [Fr.put]
theorem Fr.c(st:TS E)(dst:O Nat)(d:TV E)(g:J bQ)(c:J (Nat×Cn E)):Fr (ig dst) true st {st with t:=b9 st.t dst d,g:=g,c:=c}:=
 Fr.aip st dst d st.H g [] c (fun _ _ _=>rfl) (eo _)
theorem akT{P:aE}{ty:aD->O Ty}{st st':TS E}{dst:O Nat}{op:Op}{c:Bool}(h:BL P ty st dst op=some (c,st')):Fr (ig dst) true st st':=by
 cases op<;>try trivial
 case load t x=>
  grind [BL,Fr.put]
 case store t x y=>
  simp [BL] at h;split at h<;>try trivial
  grind [Fr.c]
 case makeSlice t x y=>
  grind [BL,Fr.c]
 case slice t x lo hi mx=>
  cases lo with
  | some _=>cases h
  | none=>
  cases hi with
  | none=>cases h
  | some hi=>
  cases mx with
  | some _=>cases h
  | none=>
  grind [BL,Fr.c]
 case call cl=>
  simp [BL] at h;unfold aeo at h;split at h<;>try trivial
  ·split at h<;>try trivial
   grind [Fr.c]
theorem akU{P:aE}{ty:aD->O Ty}{st st':TS E}{dst:O Nat}{op:Op}{c:Bool}(h:Zq P ty st dst op=some (c,st')):Fr (ig dst) true st st':=by
 cases op<;>simp [Zq] at h<;>try trivial
 case alloc t=>
  grind [Fr.c]
 case box t x=>
  grind [Fr.c]
 case load t x=>
  grind [Fr.put]
theorem akV{P:aE}{ty:aD->O Ty}{st st':TS E}{dst:O Nat}{op:Op}{c:Bool}(h:Zo P ty st dst op=some (c,st')):Fr (ig dst) true st st':=by
 cases op<;>simp [Zo] at h<;>try trivial
 cases hb:ael ty dst<;>rw [hb] at h<;>simp only [bq,aS] at h
 ·cases h
 split at h<;>try trivial
 split at h<;>try trivial
 split at h<;>try trivial
 cases h;exact Fr.aip st dst _ st.H _ [] _ (fun _ _ _=>rfl) (eo _)
theorem akW{P:aE}{ty:aD->O Ty}{st st':TS E}{dst:O Nat}{op:Op}{c:Bool}(h:Zr P ty st dst op=some (c,st')):Fr (ig dst) true st st':=by
 unfold Zr at h;split at h
 ·grind [akV]
 split at h
 rotate_left
 ·cases op<;>simp [aew] at h<;>try trivial
  split at h<;>try trivial
  split at h<;>cases h;exact Fr.mem st dst _ _ st.g [_] (BO _ _ _) si
 grind [aes,akU,X6,aiq,akT]
theorem Fr.ofC{W:J Nat}{n:Bool}{s s1 s':TS E}(hc:oy s s1)(h:Fr W n s1 s'):Fr W n s s':=by
 obtain⟨c,rfl⟩:=hc;exact⟨h.len,h.keep,h.d,h.hl,h.df⟩
structure Sl where
 b:List (Option Nat)
 g:List (Option Nat)
def Sl.U2(s:Sl)(r r':Nat):Sl:={s with b:=s.b.set r (some r')}
def Sl.air(s:Sl)(r r':Nat):Sl:={s with g:=s.g.set r (some r')}
def ZJ(s:Sl):J (Nat×Nat)->J (TV E)->Sl
 | (r,_)::cs,.ptr r' _::ds=>ZJ (s.U2 r r') cs ds
 | _::cs,_::ds=>ZJ s cs ds
 | _,_=>s
def CT.un(s:Sl):CT->TV E->Sl
 | .ptr r _,.ptr r' _=>s.U2 r r'
 | .o8 r _,.ptr r' _=>s.U2 r r'
 | .o8 r _,.o8 _ r' _=>s.U2 r r'
 | .iY r,.iY r'=>s.U2 r r'
 | .tG r,.tG r'=>s.U2 r r'
 | .cj j _,.cj j' _ _ _=>s.air j j'
 | .dZ j,.dZ j' _=>s.air j j'
 | .gY j _,.gY j' _ _ _ _=>s.air j j'
 | .func _ caps,.func _ cs=>ZJ s caps cs
 | _,_=>s
def CT.unL(s:Sl):J CT->J (TV E)->Sl
 | c::cs,ds=>match c.pk? with
  | some t=>CT.unL s cs (ds.drop (t.size E))
  | none=>match ds with
   | d::ds=>CT.unL (c.un s d) cs ds
   | []=>s
 | _,_=>s
def PT.un(s:Sl):PT->TV E->Sl
 | .one c,d=>c.un s d
 | .agg cs,.agg ds=>CT.unL s cs ds
 | .cY cs,.tuple ds=>CT.unL s cs ds
 | _,_=>s
def aj3(s:Sl):J PT->J (TV E)->Sl
 | p::ps,d::ds=>aj3 (p.un s d) ps ds
 | _,_=>s
def aj4(H:J (eZ E)):Nat->J BT->Sl->Sl
 | _,[],s=>s
 | r,t::ts,s=>aj4 H (r+1) ts (match t,(s.b[r]?.getD none).bind (H[·]?) with
  | .cells _ cs,some (.cells _ ds)=>CT.unL s cs ds
  | .loop _ cs,some (.loop _ ds)=>CT.unL s cs ds
  | _,_=>s)
def qf:J (O Nat)->J Nat
 | []=>[]
 | some x::xs=>x::qf xs
 | none::xs=>qf xs
def cL.dS(s:cL)(st:TS E)(ds:J (TV E)):Sl:=
 aj4 st.H 0 s.boxes (aj3 ⟨s.boxes.map fun _=>none,s.rows.map fun _=>none⟩ s.args ds)
def sm{α β γ:Type}(f:α->γ)(g:β->γ):α ⊕ β->γ
 | .inl x=>f x
 | .inr y=>g y
def okK{R:Type}(o:Outs)(bs gs:J Nat)(st:TS E)(dst:O Nat)(k:Ex E->TS E->O R)(y:dens E o.tys):O R:=
 k .normal {o.after bs gs st (aP o.tys y) with t:=b9 st.t dst (o.val bs gs st (aP o.tys y))}
def apC{R:Type}(o:Outs)(bs gs:J Nat)(st:TS E)(k:Ex E->TS E->O R)(y:dens E o.tys):O R:=
 k (.panic (o.val bs gs st (aP o.tys y))) (o.after bs gs st (aP o.tys y))
def ZK{R:Type}(s:cL)(bs gs:J Nat)(st:TS E)(dst:O Nat)(k:Ex E->TS E->O R):(p:O Outs)->OutP E s.out p->O R
 | none=>okK s.out bs gs st dst k
 | some q=>sm (okK s.out bs gs st dst k) (apC q bs gs st k)
def Outs.wf(o:Outs)(nb ng:Nat):Bool:=yG nb o.boxes&&Nat.ble ng o.rows.length
def cL.wf(s:cL)(nb ng:Nat):Bool:=s.out.wf nb ng&&(match s.kZ with|none=>true|some q=>q.wf nb ng)
def qt{R:Type}(st:TS E)(dst:Option Nat)(f:FuncId)(ds:J (TV E))(k:Ex E->TS E->Option R):J (bB E)->Option R
 | []=>none
 | C::Γ=>cond (Nat.beq C.s.f f)
   (match xG C.s.args ds st with
    | (ds',st')=>match C.s.enter (qf (C.s.dS st' ds').b) (qf (C.s.dS st' ds').g) st' ds' with
     | some ls=>match getAll C.s.tys ls with
      | some x=>rq (C.s.wf (qf (C.s.dS st' ds').b).length (qf (C.s.dS st' ds').g).length) ((C.m x).bind (ZK C.s (qf (C.s.dS st' ds').b) (qf (C.s.dS st' ds').g) st' dst k C.s.kZ))
      | none=>qt st dst f ds k Γ
     | none=>qt st dst f ds k Γ)
   (qt st dst f ds k Γ)
def BP(P:aE)(o:Oper)(W:J Nat)(nd:Bool)(st:TS E)(Q:Ex E->TS E->Prop):Prop:=
 ∀w0 G0 a w G,Rel E w0 G0 st a w G->o.wp P a w (fun a' w'=>∃st' G',Rel E w0 G0 st' a' w' G'/\Q .normal st'/\Fr W nd st st') (cu E w0 G0 fun x st'=>x≠.normal/\Q x st'/\Fr W nd st st')
section
variable {P : aE} {st : TS E} {o : Oper} {Q : Ex E -> TS E -> Prop}
theorem BP.Ft{W:J Nat}{nd:Bool}{st':TS E}(h:∀w0 G0 a w G,Rel E w0 G0 st a w G->jA P w0 G0 a w o st')(hQ:Q .normal st')(hF:Fr W nd st st'):BP P o W nd st Q:=by
 intro w0 G0 a w G hr;obtain⟨nx,v,w',G',hrun,hnx,hr'⟩:=h w0 G0 a w G hr;unfold Oper.wp;rw [hrun];rcases hnx with rfl|⟨rfl,rfl⟩
 ·exact⟨st',G',hr',hQ,hF⟩
 ·exact⟨st',G',hr',hQ,hF⟩
theorem aeD{a:Act}{w:U}{next:Act->U->Prop}{QQ:Exit->Act->U->Prop}{f:FuncId}{args:aI Value}{R:Ending->U->Prop}(hrun:(execOp a.eval o).run P w=(callFunc f args).run P w)(h:jR P f args w R)
  (h1:∀v w',R (.returned v) w'->next (a.put o.dst v) w') (h2:∀ch w',R (.panicked ch) w'->QQ (.panic ch) a w') (h3:∀w',¬ R .outgrown w'):o.wp P a w next QQ:=by
 unfold Oper.wp;rw [hrun];unfold jR at h;split at h
 ·rename_i f' args' w' hr
  rw [hr];refine FA h fun e w'' he=>?_
  grind
 ·rename_i v w' hr
  rw [hr];exact h1 v w' h
 ·exact h.elim
theorem Nt{w0 w:U}{G0 G:aJ}{a:Act}(hr:Rel E w0 G0 st a w G):∀l:J bx,bD E w G (l.map st.ev) (l.map a.eval)
 | []=>.nil
 | x::l=>.cons (hr.ev x) (Nt hr l)
theorem Outs.QY(ot:Outs)(bs gs:J Nat)(st:TS E)(ls:J (Lf E))(dst:O Nat)(d:TV E):Fr (ig dst) true st {ot.after bs gs st ls with t:=b9 st.t dst d}:=
 Fr.aip st dst d _ _ _ _ (fun r hr hd=>by
  show (jH (pn ot.boxes bs (ot.hc bs gs st ls)) st.H++(ot.hc bs gs st ls).drop bs.length)[r]? = _
  grind [List.getElem?_append_left,gy,sZ]) (by
  show _<=(jH (pn ot.boxes bs (ot.hc bs gs st ls)) st.H++(ot.hc bs gs st ls).drop bs.length).length;simp [gy])
theorem o4.eR{w0 w:U}{G0 G:aJ}(h:o4 E w0 G0)(hE:kC w0 G0 w G):o4 E w G:=by
 intro b ob hb;obtain⟨⟨cs,t,m,h1,hp⟩,h2⟩:=h b ob hb;have hlt:=(za.1 h1).1;refine⟨⟨cs,t,m,(hE.old b hlt h2).trans h1,hp⟩,fun hf=>h2 ?_⟩;rcases hf with hf|⟨x,hd,hm,hbk⟩
 ·obtain⟨q,hq,he⟩:=lB hf
  have SJ:G.i[q]? = some b:=by simp_all
  by_cases sF:q<G0.i.length
  ·have e1:=hE.goes.i q _ (fC sF)
   exact .inl (by simp_all)
  ·have:=hE.p4 q b om SJ;omega
 ·obtain⟨j,hj,he⟩:=lB hm
  rcases hE.gA j x hd b (by simp_all) hbk with q|⟨x0,h0,q1,q2⟩
  ·omega
  ·exact .inr ⟨x0,h0,iX q1,q2⟩
theorem Rel.SL{w0 w:U}{G0 G:aJ}{a:Act}(h:Rel E w0 G0 st a w G):o4 E w G:=h.pins.eR h.eR
theorem ZL{α:Type}{l r:J α}{is:J Nat}(h:pick l is=some r){x:α}(hx:x∈r):x∈l:=by
 obtain⟨j,hj,he⟩:=lB hx;obtain⟨hl,hg⟩:=qG h;have hj':j<is.length:=om;obtain⟨y,h1,h2⟩:=hg j is[j] (fC hj')
 grind
theorem o4.dS{w:U}{G:aJ}{bs gs is:J Nat}{gg:J (bQ×Value)}(h:o4 E w G)(hi:pick G.i bs=some is)(hg:pick G.g gs=some gg):o4 E w (G.dS is gg):=fun b ob hb=>by
 obtain⟨h1,h2⟩:=h b ob hb;refine⟨h1,fun hf=>h2 ?_⟩;rcases hf with hf|⟨x,hd,hm,hbk⟩
 ·exact .inl (ZL hi hf)
 ·obtain⟨y,hy,e⟩:=yx.1 hm
  cases e;exact .inr ⟨y.1,y.2,ZL hg hy,hbk⟩
theorem Nu(hE:E.Ok){R:Type}{f:FuncId}{ds:J (TV E)}
  (SM:∀w0 G0 a w G,Rel E w0 G0 st a w G->∃vs:Array Value,bD E w G ds vs.toList/\(execOp a.eval o).run P w=(callFunc f vs).run P w) {k:Ex E->TS E->Option R} {r:R} :
  ∀ {Γ:J (bB E)},(∀C∈Γ,C.Ok P)->qt st o.dst f ds k Γ=some r->BP P o (ig o.dst) true st (fun x st'=>k x st'=some r)
 | [],_,h=>by cases h
 | C::Γ,hΓ,h=>by
  have ff:qt st o.dst f ds k Γ=some r->BP P o (ig o.dst) true st (fun x st'=>k x st'=some r):=Nu hE SM (fun C' hC=>hΓ C' (by simp [hC]));simp [qt] at h;cases hf:Nat.beq C.s.f f<;>rw [hf] at h<;>simp at h
  ·exact ff h
  have hf:=eB hf;obtain⟨PJ,jk,hhs⟩:∃PJ jk,xG C.s.args ds st=(PJ,jk):=⟨_,_,rfl⟩;rw [hhs] at h;split at h
  ·rename_i ls hls
   split at h
   ·rename_i xx hxx
    generalize AR:qf (C.s.dS jk PJ).b=bs at *;generalize Zx:qf (C.s.dS jk PJ).g=gs at *;obtain⟨hwf,h⟩:=dG h
    cases hm:C.m xx with
    | none=>rw [hm] at h;cases h
    | some y=>
     intro w0 G0 a w G0' hr;obtain⟨vs0,Nv,SN⟩:=SM w0 G0 a w G0' hr;obtain⟨O5,G,eM,zR,hvs⟩:=Ns C.s.args ds hr;have hargs:=hvs _ Nv;rw [hhs] at eM hargs O5;have hr:=eM
     have hnd:bs.Nodup/\gs.Nodup/\bs.length=C.s.boxes.length/\C.s.rows.length=gs.length:=by
      unfold cL.enter at hls;split at hls<;>try trivial
      rename_i H g hH hg;cases o9:(vf bs&&(vf gs&&(Nat.beq bs.length C.s.boxes.length&&yF C.s.rows g)))<;>rw [o9] at hls<;>simp only [bq] at hls
      ·cases hls
      simp only [cx] at o9;exact⟨vg o9.1,vg o9.2.1,eB o9.2.2.1,by rw [(Cl o9.2.2.2).1,(qG hg).1]⟩
     obtain⟨is,gg,hi,zO,hB,hS,hV⟩:=hr.enter hE hls hargs;have hput:=CP _ hxx;have hok:=hΓ C si xx y hm w (G.dS is gg) vs0 (hr.SL.dS hi zO) (by rw [hput];exact hB) (by rw [hput];exact hS) (by rw [hput];exact hV);have hrun:=SN;have hg0:=hB.gs
     have hwf':∀(q:Outs),q.wf bs.length gs.length=true->yG bs.length q.boxes=true/\gs.length<=q.rows.length:=fun q hq=>by
      simp_all [Outs.wf,cx,lC]
     unfold cL.wf at hwf;rw [cx] at hwf
     have Nw:∀(y:dens E C.s.out.tys)(v:Value)(w':World),okK C.s.out bs gs jk o.dst k y=some r ->
       (∃v1 G',Ending.returned v=Ck (C.s.out.mg true (C.s.H (aP C.s.tys xx)) C.s.g0 (aP C.s.out.tys y)).ok v1/\kC w (G.dS is gg) w' G'/\lu E w' G' (C.s.out.mg true (C.s.H (aP C.s.tys xx)) C.s.g0 (aP C.s.out.tys y)).H (C.s.out.mg true (C.s.H (aP C.s.tys xx)) C.s.g0 (aP C.s.out.tys y)).g/\kg E w' G' (C.s.out.mg true (C.s.H (aP C.s.tys xx)) C.s.g0 (aP C.s.out.tys y)).c /\
        VT E w' G' (C.s.out.mg true (C.s.H (aP C.s.tys xx)) C.s.g0 (aP C.s.out.tys y)).d v1/\∀(q b:Nat),(G.dS is gg).i[q]? = some b->q∉(C.s.out.mg true (C.s.H (aP C.s.tys xx)) C.s.g0 (aP C.s.out.tys y)).D->w'.heap[b]? = w.heap[b]?) ->
       ∃st' G',Rel E w0 G0 st' (a.put o.dst v) w' G'/\k .normal st'=some r/\Fr (ig o.dst) true st st':=by
      rintro y v w' hk ⟨v1,G',he,hE,SO,SP,SQ,KG⟩;simp [Outs.mg,Ck] at he;subst he;obtain⟨hs1,hs2⟩:=hwf' _ hwf.1;rw [<-hg0] at SO SP SQ;obtain⟨Gn,hR,hval⟩:=hr.leave hi zO hnd.1 hnd.2.1 C.s.out hs1 hs2 hE SO SP SQ KG;exact⟨_,Gn,hR.put hval o.dst,hk,(C.s.out.QY bs gs jk _ o.dst _).ofC O5⟩
     have fin:∀(p:Option Outs)(hp:C.s.kZ=p)(y:OutP E C.s.out p),ZK C.s bs gs jk o.dst k p y=some r->jR P f vs0 w (fun e w'=>
       ∃v G',e=Ck (jS C.s (C.s.H (aP C.s.tys xx)) p y).ok v/\kC w (G.dS is gg) w' G'/\lu E w' G' (jS C.s (C.s.H (aP C.s.tys xx)) p y).H (jS C.s (C.s.H (aP C.s.tys xx)) p y).g/\kg E w' G' (jS C.s (C.s.H (aP C.s.tys xx)) p y).c /\
        VT E w' G' (jS C.s (C.s.H (aP C.s.tys xx)) p y).d v/\∀(q b:Nat),(G.dS is gg).i[q]? = some b->q∉(jS C.s (C.s.H (aP C.s.tys xx)) p y).D->w'.heap[b]? = w.heap[b]?) ->
       o.wp P a w (fun a' w'=>∃st' G',Rel E w0 G0 st' a' w' G'/\k .normal st'=some r/\Fr (ig o.dst) true st st') (cu E w0 G0 fun x st'=>x≠.normal/\k x st'=some r/\Fr (ig o.dst) true st st'):=by
      intro p hp y hk hI;refine aeD hrun hI (fun v w' hR=>?_) (fun ch w' hR=>?_) (fun w' hR=>?_)
      ·cases p with
       | none=>exact Nw y v w' hk hR
       | some q=>
        cases y with
        | inl y=>exact Nw y v w' hk hR
        | inr y=>
         obtain⟨v1,G',he,-⟩:=hR;cases he
      ·cases p with
       | none=>
        obtain⟨v1,G',he,-⟩:=hR
        cases he
       | some q=>
        cases y with
        | inl y=>
         obtain⟨v1,G',he,-⟩:=hR
         cases he
        | inr y=>
         obtain⟨v1,G',he,hE,SO,SP,SQ,KG⟩:=hR;simp [jS,Outs.mg,Ck] at he;subst he;have hq:q.wf bs.length gs.length=true:=by grind
         obtain⟨hs1,hs2⟩:=hwf' _ hq;simp [jS] at SO SP SQ KG;rw [<-hg0] at SO SP SQ;obtain⟨Gn,hR,hval⟩:=hr.leave hi zO hnd.1 hnd.2.1 q hs1 hs2 hE SO SP SQ KG;exact⟨.panic (q.val bs gs jk (aP q.tys y)),_,Gn,⟨v1,rfl,hval⟩,hR,(fun h=>nomatch h),hk,((q.QY bs gs jk _ none .any).wide (fun i hi=>by cases hi) (fun h=>h)).ofC O5⟩
      grind [Ck,jS,aP]
     grind
   ·exact ff h
  ·exact ff h
theorem abM(hE:E.Ok){R:Type}{c:Call}{x:bx}{f:FuncId}{caps:J (TV E)}(ho:o.op=.call c)(hc:c.callee=.value x)(hx:st.ev x=.func (.func f) caps){k:Ex E->TS E->O R}{r:R}
  {Γ:J (bB E)} (hΓ:∀C∈Γ,C.Ok P) (h:qt st o.dst f (c.args.toList.map st.ev++caps) k Γ=some r):BP P o (ig o.dst) true st (fun x st'=>k x st'=some r):=by
 refine Nu hE (fun w0 G0 a w G hr=>?_) hΓ h;have hv:=hr.ev x;rw [hx] at hv;obtain⟨cv,FZ,O6⟩:=hv;refine⟨c.args.map a.eval++cv,?_,?_⟩
 ·have:=(Nt hr c.args.toList).append O6
  simpa using this
 ·simp only [execOp,ho,resolve,hc,FZ,Deferred.ofValue,invoke]
  simp
theorem abN(hE:E.Ok){R:Type}{c:Call}{x:bx}{f:FuncId}{fs:J (TV E)}(ho:o.op=.call c)(hc:c.callee=.value x)(hx:st.ev x=.FU (.func f) fs){k:Ex E->TS E->O R}{r:R}
  {Γ:J (bB E)} (hΓ:∀C∈Γ,C.Ok P) (h:qt st o.dst f (fs++c.args.toList.map st.ev) k Γ=some r):BP P o (ig o.dst) true st (fun x st'=>k x st'=some r):=by
 refine Nu hE (fun w0 G0 a w G hr=>?_) hΓ h;have hv:=hr.ev x;rw [hx] at hv;obtain⟨cv,FZ,O6⟩:=hv;refine⟨cv++c.args.map a.eval,?_,?_⟩
 ·have:=O6.append (Nt hr c.args.toList)
  simpa using this
 ·simp only [execOp,ho,resolve,hc,FZ,Deferred.ofValue,invoke]
  simp
end
end Go.RT
