import Derived.Test.YtjgkapeknmdedaaGreatDoorRd
set_option linter.all false
namespace Go.RT
variable {E : TEnv}
section
variable {P : aE} {w0 w w' : U} {G0 G G' : aJ} {st : TS E} {a : Act} {o : Oper}
theorem Hj(hE:E.Ok)(hr:Rel E w0 G0 st a w G){t:aC}{x:bx}{i:TI}(ho:o.op=.load t x)(ht:aU P t=some i){j k ix off:Nat}{g:bQ}{c:Cn E}(hd:st.ev x=.gU j g.aG k ix off)
  (hg:st.g[j]? = some g) (hc:nJ st.c j=some c) (hk:k=c.1.size E) {d:TV E} (hp:TV.part c.1 (c.2.getD ix (c.1.dflt E)) i.isAgg i.size off=some d):iZ P a w G o d:=by
 have hv:=hr.ev x;rw [hd] at hv;obtain⟨b,m,cap,hj,hlt,kR⟩:=hr.gU hg hv;obtain⟨h,hj',hs,-⟩:=hr.soft hg hc;rw [hj] at hj';cases hj';rcases hs.block with⟨h1,-⟩|⟨b',cap',cur,h1,hheap,hcap,hcm,hcs,hf,hnp⟩
 ·cases h1
 obtain⟨rfl,rfl,rfl⟩:=h1;obtain⟨vs,h2,h3,-,h4⟩:=V0 hs.1 hheap hf (by simp_all [ye]) hlt;obtain⟨v,hv,hrun⟩:=rD ht h4 (Kl hE h2 hp);refine fm (f:=fun ρ=>Instr.loadAt t (ρ x)) (by simp [execOp,ho]) ⟨v,hv,fun w' hs'=>?_⟩;rw [kR,hk,<-hs.1];exact hrun w' (hs' (by rw [ho];rfl))
theorem Zc(A us C vals:J Value)(off:Nat)(h:off+vals.length<=us.length):
  ((A++us++C).take (A.length+off)++vals++(A++us++C).drop (A.length+off+vals.length))=A++(us.take off++vals++us.drop (off+vals.length))++C:=by
 have e1:(A++us++C).take (A.length+off)=A++us.take off:=by
  rw [Fo,ada,H9 om,show A.length+off-A.length=off by omega,ada,show off-us.length=0 by omega];simp
 have e2:(A++us++C).drop (A.length+off+vals.length)=us.drop (off+vals.length)++C:=by
  rw [Fo,ac6,acX om,show A.length+off+vals.length-A.length=off+vals.length by omega,ac6,show off+vals.length-us.length=0 by omega];simp
 simp_all
theorem abr(hE:E.Ok){T:Ty}{x:T.den E.D}{us:J Value}{cs:J (TV E)}(h:LD w G.pr us (T.cells E x))(hc:(TV.dat T x).nS=some cs):bD E w G cs us:=by
 simp [TV.nS] at hc;cases ha:T.isAgg<;>rw [ha] at hc<;>simp at hc
 ·cases hc
  have hl:us.length=1:=by
   rw [h.length];cases T<;>first|rfl|cases ha
  obtain⟨u,rfl⟩:=Xv.1 hl;exact .cons (.OL ha h) .nil
 grind [wX]
theorem abt(hE:E.Ok)(hr:Rel E w0 G0 st a w G){t:aC}{x y:bx}{i:TI}(ho:o.op=.store t x y)(ht:aU P t=some i){j k ix off:Nat}{g:bQ}{c:Cn E}(hd:st.ev x=.gU j g.aG k ix off)
  (hg:st.g[j]? = some g) (hc:nJ st.c j=some c) (hk:k=c.1.size E) {cs ds:J (TV E)} (hcs:(TV.dat c.1 (c.2.getD ix (c.1.dflt E))).nS=some cs) (hy:(st.ev y).nS=some ds) (h4:ds.length=i.size) (h5:off+i.size<=cs.length)
  {x':c.1.den E.D} (api:MP E 4 c.1 (cs.take off++ds++cs.drop (off+ds.length))=some (x',[])) :
  jx P w0 G0 a w o {st with t:=cg st.t o.dst .any,c:=(j,⟨c.1,c.2.set ix x'⟩)::mG j st.c}:=by
 have hv:=hr.ev x;rw [hd] at hv;obtain⟨b,m,cap,hj,hlt,kR⟩:=hr.gU hg hv;obtain⟨h,hj',hs,-⟩:=hr.soft hg hc;rw [hj] at hj';cases hj';rcases hs.block with⟨h1,-⟩|⟨b',cap',cur,h1,hheap,hcap,hcm,ah3,hf,hnp⟩
 ·cases h1
 obtain⟨rfl,rfl,rfl⟩:=h1;have hle:c.2.length*g.k<=cur.size:=by simp_all [ye]
 obtain⟨us,h2,h3,PV,-⟩:=V0 hs.1 hheap hf hle hlt;obtain⟨hl,hl1⟩:=rC hE (hr.ev y) hy;have hlen:(a.eval y).cells.toList.length=i.size:=by rw [hl.length,h4]
 have hlen':(a.eval y).cells.size=i.size:=by simpa using hlen
 have FE:=abr hE h2 hcs;have hcl:cs.length=g.k:=by rw [<-FE.length,h3]
 obtain⟨xt,jq,-,hxs,-⟩:=aN ht
 have hik:ix*g.k+g.k<=c.2.length*g.k:=by
  have:(ix+1)*g.k<=c.2.length*g.k:=ye _ hlt
  grind
 have hfit:(ix*g.k+off)+0+(a.eval y).cells.toList.length<=cur.size:=by rw [hlen];omega
 have Si:=run_storeCells_at (P:=P) b (ix*g.k+off) g.e (a.eval y).cells.toList 0 cur w hheap hfit (fun v hv=>hl1 v (by simpa using hv))
 let new:=(cur.toList.take (ix*g.k+off)++(a.eval y).cells.toList++cur.toList.drop (ix*g.k+off+(a.eval y).cells.toList.length)).toArray
 have hrun:(execOp a.eval o).run P w=.ok .skip (w.setRow b new):=by
  simp [execOp,ho,Instr.storeAt,Instr.sureAddr,kR,hk,<-hs.1,storeVar,ey jq,hxs,hlen'];simp only [ne_eq,Si];rfl
 have apj:=((FE.take off).append hl).append (FE.drop (off+ds.length));obtain⟨us1,ts,e1,e2,e3⟩:=zE hE 4 c.1 apj api;subst e3;have hu1:us1.length=g.k:=by grind
 have aqd:cur.toList=cur.toList.take (ix*g.k)++us++cur.toList.drop (ix*g.k+g.k):=by
  grind [List.take_append_drop,List.drop_drop,List.append_assoc]
 have aoa:new.toList=cur.toList.take (ix*g.k)++us1++cur.toList.drop (ix*g.k+us1.length):=by
  have:=Zc (cur.toList.take (ix*g.k)) us (cur.toList.drop (ix*g.k+g.k)) (a.eval y).cells.toList off (by rw [h3];omega)
  grind
 have apk:new.size=cur.size:=by
  grind
 have hfl:Flat w G.pr g.k (new.toList.take ((c.2.set ix x').length*g.k)) ((c.2.set ix x').map (c.1.cells E)):=by
  have h9:=hf.splice (Flat.single e2 hu1) (p:=ix) bE;rw [List.length_set,aoa,abo _ _ om (by simpa using hle)]
  have h10:(c.2.set ix x').map (c.1.cells E)=(c.2.map (c.1.cells E)).take ix++[c.1.cells E x']++(c.2.map (c.1.cells E)).drop (ix+[c.1.cells E x'].length):=by
   rw [ajE,if_pos (by simpa using hlt)];simp
  rw [h10];exact h9
 have hR:=hr.agh hg hc hj hheap apk si hfl;exact⟨_,undef,_,G,hrun,.inr ⟨rfl,rfl⟩,hR.put (by simp [VT]) o.dst⟩
theorem Rel.UO(h:Rel E w0 G0 st a w G){j:Nat}{c:Cn E}(hs:∃x hd,G.g[j]? = some (x,hd)/\rA E w G x hd c):Rel E w0 G0 {st with c:=(j,c)::st.c} a w G:=
 ⟨h.eL,h.size,h.tmps,h.defers,h.boxes,h.fix,h.pins,fun i c' hm=>by
  rcases gY.1 hm with e|hm
  ·cases e;exact hs
  ·exact h.fR i c' hm⟩
theorem agi{pr:Nat->Nat->Prop}{k:Nat}(hk0:0<k){z:aI Value}(hz:z.size=k){e:J DV}(h:LD w pr z.toList e){n m:Nat}(hn:n<=m):Flat w pr k ((madeCells z (m*k)).toList.take (n*k)) (List.replicate n e):=by
 have hel:e.length=k:=by rw [<-h.length];simpa using hz
 have hnm:=ye k hn;refine⟨by simp_all [Fm,XA,size_madeCells,List.length_replicate,XE],fun j hj=>?_,fun j l hj hl=>?_⟩
 ·simp_all
 ·simp at hj
  have hjl:=MV hj hl
  have e1:((madeCells z (m*k)).toList.take (n*k)).getD (j*k+l) undef=z.toList.getD l undef:=by
   simp;rw [Xr,if_pos hjl];have h1:(j*k+l)%z.size=l:=by simp_all [Xz,Nat.mul_add_mod,ac4]
   have h2:j*k+l<m*k:=om;have h3:l<z.size:=om;simp [madeCells,h2,h1,h3]
  have e2:(List.replicate n e).getD j []=e:=by simp [hj]
  rw [e1,e2]
  have:∀ {vs:J Value}{ds:J DV}(l:Nat),LD w pr vs ds->l<ds.length->VD w pr (vs.getD l undef) (ds.getD l default):=by
   intro vs
   induction vs with
   | nil=>intro ds l h hl;cases ds with|nil=>simp at hl|cons _ _=>exact h.elim
   | cons v vs ih=>
    intro ds l h hl
    cases ds with
    | nil=>exact h.elim
    | cons d ds=>
     cases l with
     | zero=>simpa using h.1
     | succ l=>simpa using ih l h.2 (by simpa using hl)
  exact this l h om
theorem aee(hE:E.Ok)(hr:Rel E w0 G0 st a w G){t e:aC}{x y:bx}{j1 j2:Nat}{z0:Value}{ie:TI}(ho:o.op=.makeSlice t x y)(ht:aU P t=some ⟨.slice e,j1,j2,z0⟩)(hi:aU P e=some ie){T:Ty}{z:T.den E.D}{k1 k2:dW}{n m:Int}
  (hx:st.ev x=.dat (.int k1) n) (hy:st.ev y=.dat (.int k2) m) (hk:ie.size=T.size E) (hk0:0<ie.size) (hzs:ie.zero.cells.size=ie.size) (hz1:ie.zero.cells.toList.all (·.oneCell')=true) (hz:(wZ E (some T) ie.zero).get T=some z)
  (h0:0<=n) (h1:n<=m) (h2:0<m) (h3:m<=9223372036854775807) (h4:(ie.bytes:Int)*m<=140737488355328) :
  jx P w0 G0 a w o {st with t:=cg st.t o.dst (.dU st.g.length 0),g:=st.g++[⟨0,e,ie.size⟩],c:=(st.g.length,⟨T,List.replicate n.toNat z⟩)::st.c}:=by
 have yM:=hr.ev x;rw [hx] at yM;have AM:=hr.ev y;rw [hy] at AM;obtain⟨xt,jq,dQ,-⟩:=aN ht;obtain⟨xe,oA,yL,hsz,hby,hzz⟩:=aN hi;have hrun:=run_make w t e xe ie.zero dQ oA hzz k1 k2 n m h0 h1 (by rw [hby];omega) h3;rw [hsz] at hrun;have hzv:VT E w G (.dat T z) ie.zero:=TV.tq hz (OP hE hz1);have VW:=hzv.MZ;have ajS:maxLen=9223372036854775807:=rfl
 let cur:=madeCells ie.zero.cells (m.toNat*ie.size)
 have hcs:cur.size=m.toNat*ie.size:=size_madeCells _ _;have hG:=hr.grow (eM.alloc w (.cells cur e)) rfl rfl rfl G.pr (fun _ _ h=>h) (fun _ _ _ h=>h) (fun b o hp=>jw (hr.boxes.fQ b o hp).1 si);have hnp:∀o,¬ G.pr w.heap.size o:=fun o hp=>absurd (hr.boxes.fQ _ _ hp).1 (ya _);have hheap:(w.alloc (.cells cur e)).heap[w.heap.size]? = some (.cells cur e):=heap_alloc_new w _
 have hown:(w.alloc (.cells cur e)).ownsRow 0 e ie.size (.slice (some ⟨w.heap.size,0,none⟩) n.toNat m.toNat) n.toNat (cur.toList.take (n.toNat*ie.size)):=by
  refine⟨?_,.inr ⟨w.heap.size,m.toNat,cur,rfl,eR _,hheap,om,om,hcs,rfl⟩⟩
  grind [List.length_take,Array.length_toList,Nat.min_eq_left,Nat.mul_le_mul_right]
 have hA:=hG.BA ⟨0,e,ie.size⟩ (.slice (some ⟨w.heap.size,0,none⟩) n.toNat m.toNat) ⟨n.toNat,_,hown,fun a q h=>by simp at h;omega,fun b hb=>by
   cases hb;exact⟨si,fun hm=>absurd (hr.boxes.lt _ hm) (ya _),fun o _ hp=>hnp o hp⟩⟩ (fun b hb=>by cases hb;exact hr.eL.size) (fun j y z b hj hzb hb=>by
   cases hb;obtain⟨n',xs',-,-,hb'⟩:=hr.boxes.grow j y z hj
   simp_all)
 have hrl:=hr.o4;have kK:(G.g++[(⟨0,e,ie.size⟩,Value.slice (some ⟨w.heap.size,0,none⟩) n.toNat m.toNat)])[st.g.length]? = some (⟨0,e,ie.size⟩,.slice (some ⟨w.heap.size,0,none⟩) n.toNat m.toNat):=by rw [<-hrl];simp
 have hC:=hA.UO (c:=⟨T,List.replicate n.toNat z⟩) ⟨⟨0,e,ie.size⟩,_,kK,hk,hk0,⟨_,by simp;exact hown,by
   rw [List.map_replicate];exact agi hk0 hzs (VW.mono (fun _ _ h=>h) (fun b o v _ hv=>(eM.alloc w _).cell hv)) om⟩,fun b hb o hp=>by cases hb;exact hnp o hp⟩
 refine⟨.value _,_,_,_,?_,.inl rfl,hC.put (v:=.slice (some ⟨w.heap.size,0,none⟩) n.toNat m.toNat) ?_ o.dst⟩
 ·simp [execOp,ho,yM.fh,AM.fh,hrun]
  rfl
 ·exact⟨⟨0,e,ie.size⟩,_,kK,dY _,rfl,fun _=>rfl⟩
theorem abu(hE:E.Ok)(hr:Rel E w0 G0 st a w G){t e:aC}{len:Nat}{parts:aI (Nat×bx)}{j1 j2:Nat}{z:Value}{ie:TI}(ho:o.op=.buildSlice t len parts)
  (ht:aU P t=some ⟨.slice e,j1,j2,z⟩) (hi:aU P e=some ie) (h1:parts.toList.map (·.1)=List.range len) (h2:len*ie.size<=16777216) (h3:0<ie.size) (h0':0<len\/E.zc e=true)
  {T:Ty} {xs:J (T.den E.D)} (hk:ie.size=T.size E) (hx:ni T (parts.toList.map fun p=>st.ev p.2)=some xs) :
  jx P w0 G0 a w o {st with t:=cg st.t o.dst (.dU st.g.length 0),g:=st.g++[⟨0,e,ie.size⟩],c:=(st.g.length,⟨T,xs⟩)::st.c}:=by
 obtain⟨cs,hrun,hcs,Sm,hfl⟩:=M1 hE hr ho ht hi h1 h2 h3 hk hx;have ajS:maxLen=9223372036854775807:=rfl;have hG:=hr.grow (eM.alloc w (.cells cs e)) rfl rfl rfl G.pr (fun _ _ h=>h) (fun _ _ _ h=>h) (fun b o hp=>jw (hr.boxes.fQ b o hp).1 si);have hnp:∀o,¬ G.pr w.heap.size o:=fun o hp=>absurd (hr.boxes.fQ _ _ hp).1 (ya _);have hheap:(w.alloc (.cells cs e)).heap[w.heap.size]? = some (.cells cs e):=heap_alloc_new w _
 have hown:(w.alloc (.cells cs e)).ownsRow 0 e ie.size (.slice (some ⟨w.heap.size,0,none⟩) len len) len (cs.toList.take (len*ie.size)):=by
  refine⟨?_,.inr ⟨w.heap.size,len,cs,rfl,eR _,hheap,dY _,by have:len<=len*ie.size:=ac8 _ h3;omega,hcs,rfl⟩⟩;rw [Fm,XA,hcs];exact Nat.min_self _
 have hA:=hG.BA ⟨0,e,ie.size⟩ (.slice (some ⟨w.heap.size,0,none⟩) len len) ⟨len,_,hown,fun a q h=>h0'.elim (fun _=>by simp at h;omega) id,fun b hb=>by
   cases hb;exact⟨si,fun hm=>absurd (hr.boxes.lt _ hm) (ya _),fun o _ hp=>hnp o hp⟩⟩ (fun b hb=>by cases hb;exact hr.eL.size) (fun j y z b hj hzb hb=>by
   cases hb;obtain⟨n',xs',-,-,hb'⟩:=hr.boxes.grow j y z hj;exact absurd (hb' _ hzb).1 (ya _))
 have hrl:=hr.o4;have kK:(G.g++[((⟨0,e,ie.size⟩:bQ),Value.slice (some ⟨w.heap.size,0,none⟩) len len)])[st.g.length]? = some (⟨0,e,ie.size⟩,.slice (some ⟨w.heap.size,0,none⟩) len len):=by rw [<-hrl];simp
 have hC:=hA.UO (j:=st.g.length) (c:=⟨T,xs⟩) ⟨⟨0,e,ie.size⟩,_,kK,hk,h3,⟨_,by rw [Sm];exact hown,hfl.mono (fun _ _ h=>h) (fun b o v _ hv=>(eM.alloc w _).cell hv)⟩,fun b hb o hp=>by cases hb;exact hnp o hp⟩;refine⟨.value _,_,_,_,hrun,.inl rfl,hC.put (d:=.dU st.g.length 0) (v:=.slice (some ⟨w.heap.size,0,none⟩) len len) ?_ o.dst⟩;simp only [VT];exact⟨⟨0,e,ie.size⟩,_,kK,dY _,rfl,fun _=>rfl⟩
def aef(ty:aC->O Ty):O Nat->Bool
 | some i=>match ty (2000000+i) with
  | some _=>true
  | none=>false
 | none=>false
def Zd(P:aE)(ty:aC->Option Ty)(st:TS E)(dst:Option Nat):Op->Option (Bool×TS E)
 | .buildSlice t len parts=>cond (aef ty dst) (match aU P t with
  | some ⟨.slice e,_,_,_⟩=>match aU P e,ty e with
   | some ie,some T=>match ni T (parts.toList.map fun p=>st.ev p.2) with
    | some xs=>some (cond (Nat.blt 0 len) true (E.zc e)&&(decide (parts.toList.map (·.1)=List.range len)&&(Nat.ble (len*ie.size) 16777216&&(Nat.blt 0 ie.size&&Nat.beq ie.size (T.size E)))),
       {st with t:=cg st.t dst (.dU st.g.length 0),g:=st.g++[⟨0,e,ie.size⟩],c:=(st.g.length,⟨T,xs⟩)::st.c})
    | none=>none
   | _,_=>none
  | _=>none) none
 | _=>none
theorem aeg(hE:E.Ok)(hr:Rel E w0 G0 st a w G){ty:aC->O Ty}{st':TS E}{c:Bool}(h:Zd P ty st o.dst o.op=some (c,st'))(hc:c=true):jx P w0 G0 a w o st':=by
 cases ho:o.op<;>rw [ho] at h<;>try (cases h;done)
 case buildSlice t len parts=>
  simp only [Zd] at h;cases hb:aef ty o.dst<;>rw [hb] at h<;>simp only [bf,aO] at h
  ·cases h
  split at h<;>try (cases h;done)
  rename_i e j1 j2 z ht;split at h<;>try (cases h;done)
  rename_i ie T hi hT;split at h<;>try (cases h;done)
  rename_i xs hx;cases h;simp only [cw,fq] at hc
  exact abu hE hr ho ht hi hc.2.1 (kZ hc.2.2.1) (kZ hc.2.2.2.1) (by
   cases hb0:Nat.blt 0 len with
   | true=>exact .inl (kZ hb0)
   | false=>have h0:=hc.1;rw [hb0] at h0;exact .inr h0) (eo hc.2.2.2.2) hx
theorem Rel.agj(hr:Rel E w0 G0 st a w G){j:Nat}{g:bQ}{c:Cn E}(hg:st.g[j]? = some g)(hc:nJ st.c j=some c){v v':Value}(hj:G.g[j]? = some (g,v))(uf:w.grownBy w' v.ownBlock){ys:J (c.1.den E.D)}{vals:J Value}
  (hown:w'.ownsRow 0 g.e g.k v' ys.length vals) (hf:Flat w G.pr g.k vals (ys.map (c.1.cells E))) (hblk:∀b,v'.ownBlock=some b->w.heap.size<=b\/v.ownBlock=some b) (hz:∀a m,v'=.slice (some a) m 0->E.zc g.e=true) (h1:v'.oneCell'=true) :
  ∃G',Rel E w0 G0 {st with g:=st.g.set j {g with aG:=g.aG+1},c:=(j,⟨c.1,ys⟩)::mG j st.c} a w' G'/\VT E w' G' (.dU j (g.aG+1)) v':=by
 obtain⟨h,hj',hs,-⟩:=hr.soft hg hc;rw [hj] at hj';cases hj';obtain⟨n0,YX,RU,MY,hb0⟩:=hr.boxes.grow j g v hj;have hnp:=hs.2.2.2
 have amu:∀b,v'.ownBlock=some b->∀o,¬ G.pr b o:=fun b hb o hp=>by
  rcases hblk b hb with q|q
  ·have:=(hr.boxes.fQ b o hp).1;omega
  ·exact hnp b q o hp
 have hcells:∀b o u,G.pr b o->w.cell? ⟨b,o,none⟩=some u->w'.cell? ⟨b,o,none⟩=some u:=fun b o u hp hu=>
  uf.cell hu (fun e=>hnp b e.symm o hp)
 have hjl:=(eG.1 hj).1
 have key:=hr.setRow (x':={g with aG:=g.aG+1}) (cs:=(j,⟨c.1,ys⟩)::mG j st.c) hj (Nat.le_succ _) (fun e=>by simp at e) uf.size uf.os uf.tape uf.output
  (fun b hb hne=>uf.block b hb (fun e=>hne e.symm)) hcells G.pr (fun _ _ h=>h) (fun _ _ h=>.inl h)
  ⟨ys.length,vals,hown,hz,fun b hb=>⟨(hown.lt b hb).2,fun hm=>by
   rcases hblk b hb with q|q
   ·have:=hr.boxes.lt b hm;omega
   ·exact (hb0 b q).2.1 hm,fun o _ hp=>amu b hb o hp⟩⟩ hblk (fun hg'=>?_)
 ·simp [VT]
  grind
 ·intro i c' hm
  rcases gY.1 hm with e|hm
  ·cases e
   exact⟨{g with aG:=g.aG+1},v',by simp [hjl],hs.1,hs.2.1,⟨vals,hown,hf.mono hg'.pr hg'.cells⟩,amu⟩
  ·obtain⟨hm,hne⟩:=rZ hm
   obtain⟨x,hd,q1,q2⟩:=hr.fR i c' hm;obtain⟨n1,xs1,-,-,wO⟩:=hr.boxes.grow i x hd q1;refine⟨x,hd,?_,q2.keep rfl rfl hg'.pr hg'.cells fun b hb=>⟨uf.block b (wO b hb).1 (fun e=>hne (hr.boxes.apart i j x hd g v b q1 hj hb e.symm)),fun o hp=>hp⟩⟩
   grind
theorem Ze(hE:E.Ok)(hr:Rel E w0 G0 st a w G){cl:Call}{x y:bx}{t tx e:aC}{j1 j2:Nat}{z:Value}{ie:TI}(ho:o.op=.call cl)(hcl:cl.callee=.builtin .append)(ha:cl.args.toList=[x,y])(hat:cl.argTypes.toList=[t,tx])
  (ht:aU P t=some ⟨.slice e,j1,j2,z⟩) (hi:aU P e=some ie) {j:Nat} {g:bQ} {c:Cn E} (hx:st.ev x=.dU j g.aG) (hg:st.g[j]? = some g) (hc:nJ st.c j=some c) (hge:g.e=e) (zJ:g.k=ie.size) (hzs:ie.zero.cells.size=ie.size)
  {ys:J (c.1.den E.D)} (h63:c.2.length+ys.length<=9223372036854775807) (hbytes:(c.2.length+ys.length)*ie.bytes<=140737488355328)
  {news:J Value} (hsrc:Src P ie.size tx (a.eval y) ys.length news w) (hf:Flat w G.pr ie.size news (ys.map (c.1.cells E))) :
  jx P w0 G0 a w o {st with t:=cg st.t o.dst (.dU j (g.aG+1)),g:=st.g.set j {g with aG:=g.aG+1},c:=(j,⟨c.1,c.2++ys⟩)::mG j st.c}:=by
 have fZ:cl.args=#[x,y]:=by grind
 have wI:cl.argTypes=#[t,tx]:=by grind
 obtain⟨xt,jq,dQ,-⟩:=aN ht;obtain⟨xe,MX,yL,hsz,hby,hz⟩:=aN hi;have hv:=hr.ev x;rw [hx] at hv;obtain⟨v,hj,hs,hval⟩:=hr.soft hg hc;have kR:=hval _ hv
 have fin:∀(v':Value)(w':U)(vals:J Value),(Builtin.append_ #[t,tx] o.type #[v,a.eval y]).run P w=.ok v' w'->w'.ownsRow 0 g.e g.k v' (c.2++ys).length vals->Flat w G.pr g.k vals ((c.2++ys).map (c.1.cells E))->w.grownBy w' v.ownBlock ->
   (∀b,v'.ownBlock=some b->w.heap.size<=b\/v.ownBlock=some b)->(∀a m,v'=.slice (some a) m 0->E.zc g.e=true)->v'.oneCell'=true ->
   jx P w0 G0 a w o {st with t:=cg st.t o.dst (.dU j (g.aG+1)),g:=st.g.set j {g with aG:=g.aG+1},c:=(j,⟨c.1,c.2++ys⟩)::mG j st.c}:=by
  intro v' w' vals hrun hown hfl uf hblk hnz h1;obtain⟨G',hR,hV⟩:=hr.agj hg hc hj uf hown hfl hblk hnz h1;refine⟨.value v',v',w',G',?_,.inl rfl,hR.put hV o.dst⟩;unfold execOp;simp [ho,resolve,hcl,iH,nv,invoke,builtin,fZ,wI,ld,Xt];rw [kR,hrun];rfl
 have Ei:Src P xe.size tx (a.eval y) ys.length news w:=by rw [hsz];exact hsrc
 have hzl:∀c,(Builtin.zeroCells ie.zero.cells c).size=c*ie.size:=fun c=>by rw [size_zeroCells,hzs]
 obtain⟨n0,YX,RU,MY,hb0⟩:=hr.boxes.grow j g v hj;have hlen:(c.2++ys).length=c.2.length+ys.length:=by simp
 have hmap:(c.2++ys).map (c.1.cells E)=c.2.map (c.1.cells E)++ys.map (c.1.cells E):=by simp
 rw [<-zJ] at hf;by_cases hm:ys.length=0
 ·have hys:=C7 hm
  subst hys;have hnn:=C7 (by simpa using hf.1);subst hnn;obtain⟨-,-,⟨vals,ho,Ll⟩,-⟩:=hs;refine fin v w vals ?_ (by simp_all) (by simp_all) ⟨rfl,rfl,rfl,dY _,fun _ _ _=>rfl⟩ (fun b hb=>.inr hb) MY ?_
  ·rcases ho.2 with⟨q1,q2⟩|⟨b,cap,cur,q1,-,-,q4,-⟩
   ·rw [q1];exact run_append_nothing w t tx o.type e xe dQ MX none 0 0 (dY _) _ Ei
   grind [run_append_nothing]
  ·rcases ho.2 with⟨q1,q2⟩|⟨b,cap,cur,q1,-⟩<;>rw [q1]<;>rfl
 have grow:∀(base:O Addr)(old:Nat)(xs':J Value),v=.slice base c.2.length old->old<c.2.length+ys.length->Flat w G.pr g.k xs' (c.2.map (c.1.cells E)) ->
   (Builtin.firstCells xe.size c.2.length (.slice base c.2.length old)).run P w.drew=.ok xs'.toArray w.drew ->
   jx P w0 G0 a w o {st with t:=cg st.t o.dst (.dU j (g.aG+1)),g:=st.g.set j {g with aG:=g.aG+1},c:=(j,⟨c.1,c.2++ys⟩)::mG j st.c}:=by
  intro base old xs' hv0 hlt hfx VS;have hfit:=growslice_fits (bytes:=xe.bytes) hlt (by rw [hby];exact hbytes);have hr':=run_append_grow_src w t tx o.type e xe ie.zero dQ MX hz base c.2.length old xs' VS (a.eval y) ys.length news Ei hlt om hfit;have aeh:=grownCap_ge w (c.2.length+ys.length) old e;have hcm:=grownCap_le_maxLen w (c.2.length+ys.length) old e h63;generalize hcap:grownCap w (c.2.length+ys.length) old e=cap at hr' aeh hcm;generalize hcs:(xs'++news).toArray++Builtin.zeroCells ie.zero.cells (cap-(c.2.length+ys.length))=cs at hr';have Jj:=hfx.append hf;have hl2:(xs'++news).length=(c.2.length+ys.length)*g.k:=by rw [Jj.1];simp
  have ah3:cs.size=cap*g.k:=by
   rw [<-hcs,ac2,ac3,hl2,hzl,<-zJ,<-Uf];congr 1;omega
  have hheap:(w.drew.alloc (.cells cs e)).heap=w.heap.push (.cells cs e):=rfl;have hnew:(w.drew.alloc (.cells cs e)).heap[w.heap.size]? = some (.cells cs e):=by rw [hheap];simp
  refine fin (.slice (some ⟨w.heap.size,0,none⟩) (c.2.length+ys.length) cap) (w.drew.alloc (.cells cs e)) (xs'++news) (by rw [hv0];exact hr') ⟨by rw [hl2,hlen],.inr ⟨w.heap.size,cap,cs,?_,Nat.zero_le _,by rw [hge];exact hnew,by rw [hlen];exact aeh,hcm,ah3,?_⟩⟩ (by rw [hmap];exact Jj) ⟨rfl,rfl,rfl,by rw [hheap];simp,fun b hb _=>by grind⟩
   (fun b hb=>by cases hb;grind) (fun a m h=>by simp at h;omega) rfl
  ·rw [hlen]
  grind
 rcases hs.block with⟨h1,h2⟩|⟨b,cap,cur,h1,hheap,hcap,hcm,hcs,Ll,hnp⟩
 ·have hc0:c.2.length=0:=by rw [h2];rfl
  refine grow none 0 [] (by rw [h1,hc0]) om (by rw [h2];exact Flat.nil) ?_;simp [Builtin.firstCells]
 ·by_cases hroom:c.2.length+ys.length<=cap
  ·have Sj:c.2.length*ie.size+news.length<=cur.size:=by
    rw [hf.1,hcs,<-zJ,sA,<-Uf];exact ye _ hroom
   have FD:w.heap[b]? = some (.cells cur e (0,0)):=by rw [<-hge];exact hheap
   have hr':=run_append_room_src w t tx o.type e xe dQ MX b 0 c.2.length cap (a.eval y) ys.length news Ei hroom
    (fun j hj=>by
     rw [cell_of_row w b _ cur e (0,0) FD,hsz]
     grind)
    (fun j hj=>frozen_of_row w b _ cur e FD)
   rw [hsz,pP,zI b e news (c.2.length*ie.size) cur w FD Sj] at hr';have Jj:=Ll.append hf;have hl2:(cur.toList.take (c.2.length*g.k)++news).length=(c.2.length+ys.length)*g.k:=by rw [Jj.1];simp
   refine fin (.slice (some ⟨b,0,none⟩) (c.2.length+ys.length) cap) (w.setRow b (cur.toList.take (c.2.length*ie.size)++news++cur.toList.drop (c.2.length*ie.size+news.length)).toArray) (cur.toList.take (c.2.length*g.k)++news) (by rw [h1];exact hr') ⟨by rw [hl2,hlen],.inr ⟨b,cap,_,by rw [hlen],eR _,by rw [hge];exact setRow_heap w b cur _ e _ FD,by rw [hlen];exact hroom,hcm,?_,?_⟩⟩ (by rw [hmap];exact Jj) ⟨rfl,rfl,rfl,si,fun b' _ hb'=>setRow_other w b b' _ (fun e=>hb' (by rw [e,h1];rfl))⟩
    (fun b' hb'=>.inr (by rw [h1];exact hb')) (fun a m h=>by simp at h;omega) rfl
   ·grind
   grind
  ·refine grow _ cap (cur.toList.take (c.2.length*g.k)) h1 om Ll ?_
   rw [hsz,<-zJ];refine run_firstCells_some w.drew g.k c.2.length ⟨b,0,none⟩ c.2.length cap (cur.toList.take (c.2.length*g.k)) (by rw [Ll.1];simp) (fun q u hu=>?_);rw [add_lit,pP]
   have hq:q<c.2.length*g.k:=by
    grind
   show w.cell? ⟨b,q,none⟩=some u
   grind [cell_of_row]
theorem agk(hr:Rel E w0 G0 st a w G){t e:aC}{x hi:bx}{j1 j2:Nat}{z:Value}{ie:TI}(ho:o.op=.slice t x none (some hi) none)(ht:aU P t=some ⟨.slice e,j1,j2,z⟩)(hi':aU P e=some ie)
  {j:Nat} {g:bQ} {c:Cn E} (hx:st.ev x=.dU j g.aG) (hg:st.g[j]? = some g) (hc:nJ st.c j=some c) {q:Int} (hq:kQ (c.2.length:Int) (some (st.ev hi))=some q) (h0:0<=q) (h1:q<=(c.2.length:Int)) :
  jx P w0 G0 a w o {st with t:=cg st.t o.dst (.dU j (g.aG+1)),g:=st.g.set j {g with aG:=g.aG+1},c:=(j,⟨c.1,c.2.take (Int.toNat q)⟩)::mG j st.c}:=by
 obtain⟨xt,jq,dQ,-⟩:=aN ht;obtain⟨xe,oA,yL,hsz,-⟩:=aN hi';obtain⟨v,hj,hs,hval⟩:=hr.soft hg hc;have hv:=hr.ev x;rw [hx] at hv;have kR:=hval _ hv;obtain⟨n0,YX,RU,MY,hb0⟩:=hr.boxes.grow j g v hj;have hlen:(c.2.take q.toNat).length=q.toNat:=by simp_all
 have hbi:=r7 hr (lo:=some hi) hq;have amv:=r7 hr (lo:=none) (d:=0) rfl
 have key:∀(v':Value)(vals:J Value),(Instr.sliceAt t v none (some (a.eval hi)) none).run P w=.ok v' w->w.ownsRow 0 g.e g.k v' (c.2.take q.toNat).length vals->Flat w G.pr g.k vals ((c.2.take q.toNat).map (c.1.cells E))->v'.ownBlock=v.ownBlock ->
   (∀a m,v'=.slice (some a) m 0->E.zc g.e=true)->v'.oneCell'=true->jx P w0 G0 a w o {st with t:=cg st.t o.dst (.dU j (g.aG+1)),g:=st.g.set j {g with aG:=g.aG+1},c:=(j,⟨c.1,c.2.take (Int.toNat q)⟩)::mG j st.c}:=by
  intro v' vals hrun hown hfl hblk hnz h1';obtain⟨G',hR,hV⟩:=hr.agj hg hc hj ⟨rfl,rfl,rfl,dY _,fun _ _ _=>rfl⟩ hown hfl (fun b hb=>.inr (by rw [<-hblk];exact hb)) hnz h1';refine⟨.value v',v',w,G',?_,.inl rfl,hR.put hV o.dst⟩;simp [execOp,ho];rw [kR,hrun];rfl
 rcases hs.block with⟨q1,q2⟩|⟨b,cap,cur,q1,hheap,hcap,hcm,hcs,Ll,hnp⟩
 ·have YU:q=0:=by grind
  subst YU;refine key (.slice none 0 0) [] ?_ ?_ (by rw [q2];exact Flat.nil) (by rw [q1]) (fun a m h=>by cases h) rfl
  ·have AL:=Eh (P:=P) (isS:=true) (cap:=0) (dY _) amv (by rw [q2] at hbi;exact hbi) (XL _) (XL _) si w
   rw [q1];simp at AL;unfold Instr.sliceAt;unfold Instr.slice;simp only [iH,aP dQ,iU,AL,ey oA];simp
  ·exact⟨si,.inl ⟨rfl,rfl⟩⟩
 ·refine key (.slice (some ⟨b,0,none⟩) q.toNat cap) (cur.toList.take (q.toNat*g.k)) ?_ ?_ ?_ (by rw [q1];rfl) (fun a m h=>by
   simp_all) rfl
  ·have AL:=Eh (P:=P) (isS:=true) hcap amv hbi (XL _) h0 h1 w
   rw [q1];simp at AL;unfold Instr.sliceAt;unfold Instr.slice;simp only [iH,aP dQ,iU,AL,ey oA,Xw,add_lit];simp
  ·rw [hlen]
   refine⟨?_,.inr ⟨b,cap,cur,rfl,eR _,hheap,om,hcm,hcs,rfl⟩⟩
   grind [List.length_take,Array.length_toList,Nat.min_eq_left,Nat.mul_le_mul_right]
  ·have h9:=Ll.take (i:=q.toNat) bE
   simp_all [ye,Rv,XE,List.map_take]
def aei(P:aE)(ty:aC->O Ty)(st:TS E)(dst:O Nat)(cl:Call):O (Bool×TS E):=
 match cl.callee,cl.args.toList,cl.argTypes.toList with
 | .builtin .append,[x,y],[t,tx]=>match aU P t,aU P tx with
  | some ⟨.slice e,_,_,_⟩,some ix=>match aU P e,st.ev x with
   | some ie,.dU j aG=>match st.g[j]?,nJ st.c j with
    | some g,some c=>match aec c.1 ix.kind (st.ev y) with
     | some ys=>some (Nat.beq g.aG aG&&(Nat.beq g.e e&&(Nat.beq g.k ie.size&&(Nat.beq ie.size (c.1.size E)&&(Nat.blt 0 ie.size&&(Nat.beq ie.zero.cells.size ie.size &&
          (decide (c.2.length+ys.length<=9223372036854775807)&&decide ((c.2.length+ys.length)*ie.bytes<=140737488355328))))))),
       {st with t:=cg st.t dst (.dU j (g.aG+1)),g:=st.g.set j {g with aG:=g.aG+1},c:=(j,⟨c.1,c.2++ys⟩)::mG j st.c})
     | none=>none
    | _,_=>none
   | _,_=>none
  | _,_=>none
 | _,_,_=>none
def BB(P:aE)(ty:aC->O Ty)(st:TS E)(dst:O Nat):Op->O (Bool×TS E)
 | .load t x=>match aU P t,st.ev x with
  | some i,.gU j aG k ix off=>match st.g[j]?,nJ st.c j with
   | some g,some c=>match TV.part c.1 (c.2.getD ix (c.1.dflt E)) i.isAgg i.size off with
    | some d=>some (Nat.beq g.aG aG&&Nat.beq k (c.1.size E),{st with t:=cg st.t dst d})
    | none=>none
   | _,_=>none
  | _,_=>none
 | .store t x y=>match aU P t,st.ev x,(st.ev y).nS with
  | some i,.gU j aG k ix off,some ds=>match st.g[j]?,nJ st.c j with
   | some g,some c=>match (TV.dat (E:=E) c.1 (c.2.getD ix (c.1.dflt E))).nS with
    | some cs=>match MP E 4 c.1 (cs.take off++ds++cs.drop (off+ds.length)) with
     | some (x',[])=>some (Nat.beq g.aG aG&&(Nat.beq k (c.1.size E)&&(Nat.beq ds.length i.size&&Nat.ble (off+i.size) cs.length)),
       {st with t:=cg st.t dst .any,c:=(j,⟨c.1,c.2.set ix x'⟩)::mG j st.c})
     | _=>none
    | none=>none
   | _,_=>none
  | _,_,_=>none
 | .makeSlice t x y=>match aU P t with
  | some ⟨.slice e,_,_,_⟩=>match aU P e,ty e,st.ev x,st.ev y with
   | some ie,some T,.dat (.int _) n,.dat (.int _) m=>match (wZ E (some T) ie.zero).get T with
    | some z=>some (Nat.beq ie.size (T.size E)&&(Nat.blt 0 ie.size&&(Nat.beq ie.zero.cells.size ie.size&&(ie.zero.cells.toList.all (·.oneCell') &&
       (decide (0<=n)&&(decide (n<=m)&&(decide (0<m)&&(decide (m<=9223372036854775807)&&decide ((ie.bytes:Int)*m<=140737488355328)))))))),
      {st with t:=cg st.t dst (.dU st.g.length 0),g:=st.g++[⟨0,e,ie.size⟩],c:=(st.g.length,⟨T,List.replicate (Int.toNat n) z⟩)::st.c})
    | none=>none
   | _,_,_,_=>none
  | _=>none
 | .slice t x none (some hi) none=>match aU P t,st.ev x with
  | some ⟨.slice e,_,_,_⟩,.dU j aG=>match aU P e,st.g[j]?,nJ st.c j with
   | some _,some g,some c=>match kQ (c.2.length:Int) (some (st.ev hi)) with
    | some q=>some (Nat.beq g.aG aG&&(decide (0<=q)&&decide (q<=(c.2.length:Int))),
      {st with t:=cg st.t dst (.dU j (g.aG+1)),g:=st.g.set j {g with aG:=g.aG+1},c:=(j,⟨c.1,c.2.take (Int.toNat q)⟩)::mG j st.c})
    | none=>none
   | _,_,_=>none
  | _,_=>none
 | .call cl=>aei P ty st dst cl
 | _=>none
theorem aej(hE:E.Ok)(hr:Rel E w0 G0 st a w G){ty:aC->O Ty}{st':TS E}{cc:Bool}(h:BB P ty st o.dst o.op=some (cc,st'))(oZ:cc=true):jx P w0 G0 a w o st':=by
 cases ho:o.op<;>rw [ho] at h<;>try trivial
 case load t x=>
  simp [BB] at h;split at h<;>try trivial
  rename_i i j aG k ix off ht hx;split at h<;>try trivial
  rename_i g c hg hc;split at h<;>try trivial
  rename_i d hp;cases h;rw [cw] at oZ;obtain rfl:=eo oZ.1;exact (Hj hE hr ho ht hx hg hc (eo oZ.2) hp).ad4 hr
 case store t x y=>
  simp [BB] at h;split at h<;>try trivial
  split at h<;>try trivial
  split at h<;>try trivial
  split at h<;>try trivial
  grind [Nat.eq_of_beq_eq_true,abt,Nat.le_of_ble_eq_true]
 case makeSlice t x y=>
  simp only [BB] at h;split at h<;>try trivial
  rename_i e j1 j2 z0 ht;split at h<;>try trivial
  rename_i ie T k1 n k2 m hi hT hx hy;split at h<;>try trivial
  rename_i z hz;cases h;simp only [cw,fq] at oZ;obtain⟨c1,c2,c3,c4,c5,c6,c7,c8,c9⟩:=oZ;exact aee hE hr ho ht hi hx hy (eo c1) (kZ c2) (eo c3) c4 hz c5 c6 c7 c8 c9
 case slice t x lo hi mx=>
  cases lo with
  | some _=>cases h
  | none=>
  cases hi with
  | none=>cases h
  | some hi=>
  cases mx with
  | some _=>cases h
  | none=>
  simp [BB] at h;split at h<;>try trivial
  split at h<;>try trivial
  split at h<;>try trivial
  grind [Nat.eq_of_beq_eq_true,agk]
 case call cl=>
  simp [BB] at h;unfold aei at h;split at h<;>try trivial
  ·split at h<;>try trivial
   split at h<;>try trivial
   rename_i ie j aG hi hx;split at h<;>try trivial
   split at h<;>try trivial
   cases h;simp only [cw] at oZ;obtain⟨c1,c2,c3,c4,c5,c6,c7,c8⟩:=oZ;have c5:=kZ c5
   grind [UN,Ze,Nat.eq_of_beq_eq_true]
def XS(P:aE)(ty:aC->O Ty)(st:TS E)(dst:O Nat)(op:Op):O (Bool×TS E):=match Su P ty st dst op with
 | some r=>some r
 | none=>BB P ty st dst op
theorem abv(hE:E.Ok)(hr:Rel E w0 G0 st a w G){ty:aC->O Ty}{st':TS E}{c:Bool}(h:XS P ty st o.dst o.op=some (c,st'))(hc:c=true):jx P w0 G0 a w o st':=by
 grind [XS,abq,aej]
end
end Go.RT
namespace Go.RT
variable {E : TEnv}
def aek:Value->Value->Bool
 | .bool a,.bool b=>a==b
 | .int k n,.int k' n'=>decide (k=k')&&decide (n=n')
 | _,_=>false
theorem akG{u v:Value}(h:aek u v=true):u=v/\u.cells=#[u]:=by
 unfold aek at h;split at h
 ·rw [oO] at h;subst h;exact⟨rfl,rfl⟩
 ·simp at h
  obtain⟨rfl,rfl⟩:=h;exact⟨rfl,rfl⟩
 ·cases h
def XT(P:aE)(st:TS E):Op->O (Bool×TV E)
 | .indexAddr t x ix=>match aU P t,st.ev ix with
  | some ⟨.array n e,_,_,_⟩,.dat (.int _) m=>match aU P e,st.ev x with
   | some i,.gU j aG k i0 off=>match st.g[j]?,nJ st.c j with
    | some g,some c=>match Nat.beq g.aG aG&&(Nat.beq i.size k&&(Nat.beq i0 0&&Nat.beq off 0)) with
     | true=>some (decide (0<=m)&&(decide (m<(n:Int))&&decide (m<(c.2.length:Int))),.gU j aG k (Int.toNat m) 0)
     | false=>none
    | _,_=>none
   | _,_=>none
  | _,_=>none
 | _=>none
section
variable {P : aE} {w0 w w' : U} {G0 G G' : aJ} {st : TS E} {a : Act} {o : Oper}
theorem Rel.arr(hr:Rel E w0 G0 st a w G){j k i off:Nat}{g:bQ}{c:Cn E}(hg:st.g[j]? = some g)(hc:nJ st.c j=some c){v:Value}(hv:VT E w G (.gU j g.aG k i off) v):
  ∃b cap cur,G.g[j]? = some (g,.slice (some ⟨b,0,none⟩) c.2.length cap)/\i<c.2.length/\v=.pointer (some ⟨b,i*k+off,none⟩)/\w.heap[b]? = some (.cells cur g.e (0,0))/\c.2.length<=cap/\cur.size=cap*g.k /\
   Flat w G.pr g.k (cur.toList.take (c.2.length*g.k)) (c.2.map (c.1.cells E))/\g.k=c.1.size E:=by
 obtain⟨b,m,cap,hj,hlt,kR⟩:=hr.gU hg hv;obtain⟨h,hj',hs,-⟩:=hr.soft hg hc;rw [hj] at hj';cases hj';rcases hs.block with⟨h1,-⟩|⟨b',cap',cur,h1,hheap,hcap,hcm,hcs,hf,hnp⟩
 ·cases h1
 obtain⟨rfl,rfl,rfl⟩:=h1;exact⟨b,cap,cur,hj,hlt,kR,hheap,hcap,hcs,hf,hs.1⟩
theorem abw(hr:Rel E w0 G0 st a w G){d:TV E}{cc:Bool}(h:XT P st o.op=some (cc,d))(hc:cc=true):iZ P a w G o d:=by
 cases ho:o.op<;>rw [ho] at h<;>simp only [XT] at h<;>try (cases h;done)
 case indexAddr t x ix=>
  split at h<;>try (cases h;done)
  rename_i n e j1 j2 z kd m ht hn;obtain⟨xt,jq,dQ,-⟩:=aN ht;obtain⟨m,hm0⟩:∃q:Int,q=m:=⟨m,rfl⟩;subst hm0;have yK:=hr.ev ix;rw [hn] at yK;have MQ:=yK.fh;split at h<;>try (cases h;done)
  rename_i i j aG k i0 off hi hx;obtain⟨xe,oA,yL,hsz,-⟩:=aN hi;split at h<;>try (cases h;done)
  rename_i g c hg hcg;split at h<;>try (cases h;done)
  rename_i hs4;cases h;simp only [cw,fq] at hc hs4;obtain⟨c1,c2,c3,c4⟩:=hs4;obtain⟨c5,c6,c7⟩:=hc;have c1:=eo c1;have c2:=eo c2;have c3:=eo c3;have c4:=eo c4;have c7:m<(c.2.length:Int):=c7;subst c1 c3 c4;have hv:=hr.ev x;rw [hx] at hv;obtain⟨b,cap,cur,hj,hlt,kR,-⟩:=hr.arr hg hcg hv;refine fm (f:=fun ρ=>Instr.indexAt t (ρ x) (ρ ix)) (by simp [execOp,ho]) ⟨_,UM hj om,fun w' hs=>?_⟩;rw [kR,MQ];unfold Instr.indexAt asIntOf Instr.sureAddr;have h3:(0<=m/\m<(n:Int)):=⟨c5,c6⟩;simp only [iH,nv,iU,aP dQ,h3,Rw,if_true,ey oA,add_lit,hsz,c2,Nat.zero_mul,pP,Qj]
def Sv(P:aE)(ty:aC->O Ty)(st:TS E)(o:Op):O (Bool×TV E):=match St P ty st o with
 | some x=>some x
 | none=>XT P st o
theorem abx(hE:E.Ok)(hr:Rel E w0 G0 st a w G){ty:aC->O Ty}{d:TV E}{c:Bool}(h:Sv P ty st o.op=some (c,d))(hc:c=true):iZ P a w G o d:=by
 grind [Sv,Zb,abw]
theorem Rel.acs(hr:Rel E w0 G0 st a w G){e:aC}{k:Nat}{cur:aI Value}{T:Ty}{xs:J (T.den E.D)}(hk:k=T.size E)(hk0:0<k)(hx0:0<xs.length)(hm:xs.length<=maxLen)(hcs:cur.size=xs.length*k)
  (hf:Flat w G.pr k cur.toList (xs.map (T.cells E))) :
  Rel E w0 G0 {st with g:=st.g++[⟨0,e,k⟩],c:=(st.g.length,⟨T,xs⟩)::st.c} a (w.alloc (.cells cur e)) {G with g:=G.g++[(⟨0,e,k⟩,.slice (some ⟨w.heap.size,0,none⟩) xs.length xs.length)]} /\
   (G.g++[(⟨0,e,k⟩,Value.slice (some ⟨w.heap.size,0,none⟩) xs.length xs.length)])[st.g.length]? = some (⟨0,e,k⟩,.slice (some ⟨w.heap.size,0,none⟩) xs.length xs.length):=by
 have hG:=hr.grow (eM.alloc w (.cells cur e)) rfl rfl rfl G.pr (fun _ _ h=>h) (fun _ _ _ h=>h) (fun b o hp=>jw (hr.boxes.fQ b o hp).1 si);have hnp:∀o,¬ G.pr w.heap.size o:=fun o hp=>absurd (hr.boxes.fQ _ _ hp).1 (ya _);have hheap:(w.alloc (.cells cur e)).heap[w.heap.size]? = some (.cells cur e):=heap_alloc_new w _;have htk:cur.toList.take (xs.length*k)=cur.toList:=H9 (by simp_all)
 have hown:(w.alloc (.cells cur e)).ownsRow 0 e k (.slice (some ⟨w.heap.size,0,none⟩) xs.length xs.length) xs.length (cur.toList.take (xs.length*k)):=by
  refine⟨?_,.inr ⟨w.heap.size,xs.length,cur,rfl,eR _,hheap,dY _,hm,hcs,rfl⟩⟩
  simp_all
 have hA:=hG.BA ⟨0,e,k⟩ (.slice (some ⟨w.heap.size,0,none⟩) xs.length xs.length) ⟨xs.length,_,hown,fun a q h=>by simp_all,fun b hb=>by
   cases hb;exact⟨si,fun hm=>absurd (hr.boxes.lt _ hm) (ya _),fun o _ hp=>hnp o hp⟩⟩ (fun b hb=>by cases hb;exact hr.eL.size) (fun j y z b hj hzb hb=>by
   cases hb;obtain⟨n',xs',-,-,hb'⟩:=hr.boxes.grow j y z hj
   simp_all)
 have hrl:=hr.o4;have kK:(G.g++[(⟨0,e,k⟩,Value.slice (some ⟨w.heap.size,0,none⟩) xs.length xs.length)])[st.g.length]? = some (⟨0,e,k⟩,.slice (some ⟨w.heap.size,0,none⟩) xs.length xs.length):=by rw [<-hrl];simp
 refine⟨hA.UO ⟨⟨0,e,k⟩,_,kK,hk,hk0,⟨_,hown,?_⟩,fun b hb o hp=>by cases hb;exact hnp o hp⟩,kK⟩;rw [htk];exact hf.mono (fun _ _ h=>h) (fun b o v _ hv=>(eM.alloc w _).cell hv)
theorem aby(hE:E.Ok)(hr:Rel E w0 G0 st a w G){t e:aC}{n j1 j2:Nat}{z0:Value}{ie:TI}(ho:o.op=.alloc t)(ht:aU P t=some ⟨.array n e,j1,j2,z0⟩){T:Ty}{z:T.den E.D}
  (hT:T.size E=1) (hn:0<n) (hm:n<=maxLen) (hzn:z0.cells.size=n) (hall:z0.cells.toList.all (aek ie.zero)=true) (hz1:ie.zero.cells.toList.all (·.oneCell')=true) (hz:(wZ E (some T) ie.zero).get T=some z) :
  jx P w0 G0 a w o {st with t:=cg st.t o.dst (.gU st.g.length 0 1 0 0),g:=st.g++[⟨0,t,1⟩],c:=(st.g.length,⟨T,List.replicate n z⟩)::st.c}:=by
 have hzv:VT E w G (.dat T z) ie.zero:=TV.tq hz (OP hE hz1);have VW:=hzv.MZ
 have hcell:∀v,v∈z0.cells.toList->v=ie.zero/\ie.zero.cells=#[ie.zero]:=fun v hv=>by
  grind [akG,List.all_eq_true]
 have hfl:Flat w G.pr 1 z0.cells.toList ((List.replicate n z).map (T.cells E)):=by
  refine⟨by simp [hzn],fun j hj=>?_,fun j l hj hl=>?_⟩
  ·simp_all [Ty.zB]
  ·have hj:j<n:=by simpa using hj
   obtain rfl:l=0:=om;have e1:((List.replicate n z).map (T.cells E)).getD j []=T.cells E z:=by simp [hj]
   have hjz:j<z0.cells.toList.length:=by simp [hzn,hj]
   have e2:z0.cells.toList.getD (j*1+0) undef=z0.cells.toList[j]:=by simp_all
   obtain⟨q1,q2⟩:=hcell _ (jN hjz);rw [e1,e2,q1];rw [q2] at VW
   cases hd:T.cells E z with
   | nil=>rw [hd] at VW;exact VW.elim
   | cons d ds=>rw [hd] at VW;exact VW.1
 obtain⟨hR,kK⟩:=hr.acs hT.symm Nat.one_pos (by simpa using hn) (by simpa using hm) (by simp [hzn]) hfl;refine⟨.value _,_,_,_,?_,.inl rfl,hR.put (v:=.pointer (some ⟨w.heap.size,0,none⟩)) ?_ o.dst⟩
 ·simp [execOp,ho,Instr.alloc,mq ht]
  rfl
 ·exact⟨⟨0,t,1⟩,_,kK,dY _,rfl,fun _=>⟨w.heap.size,_,_,rfl,by simpa using hn,si⟩⟩
theorem agl(hr:Rel E w0 G0 st a w G){t:aC}{x:bx}{n:Nat}(ho:o.op=.box t x){T:Ty}{xs:J (T.den E.D)}(hx:st.ev x=.sM T xs)(hT:0<T.size E)(hn:0<n)(hm:n<=maxLen)(hl:xs.length=n):
  jx P w0 G0 a w o {st with t:=cg st.t o.dst (.gU st.g.length 0 (T.size E) 0 0),g:=st.g++[⟨0,t,T.size E⟩],c:=(st.g.length,⟨T,xs⟩)::st.c}:=by
 have hv:=hr.ev x;rw [hx] at hv;obtain⟨vs,he,h1,hf⟩:=hv;obtain⟨hR,kK⟩:=hr.acs rfl hT om om (by have:=hf.1;simpa using this) hf;refine⟨.value _,_,_,_,?_,.inl rfl,hR.put (v:=.pointer (some ⟨w.heap.size,0,none⟩)) ?_ o.dst⟩
 ·simp [execOp,ho]
  rw [he];rfl
 ·exact⟨⟨0,t,T.size E⟩,_,kK,dY _,rfl,fun _=>⟨w.heap.size,_,_,rfl,om,si⟩⟩
theorem abz(hr:Rel E w0 G0 st a w G){t:aC}{x:bx}{i:TI}(ho:o.op=.load t x)(ht:aU P t=some i)(hag:i.isAgg=true){j k:Nat}{g:bQ}{c:Cn E}(hd:st.ev x=.gU j g.aG k 0 0)
  (hg:st.g[j]? = some g) (hc:nJ st.c j=some c) (hk:k=c.1.size E) (hsz:c.2.length*k=i.size):iZ P a w G o (.sM c.1 c.2):=by
 have hv:=hr.ev x;rw [hd] at hv;obtain⟨b,cap,cur,hj,hlt,kR,hheap,hcap,hcs,hf,zJ⟩:=hr.arr hg hc hv;have hle:i.size<=cur.size:=by rw [hcs,<-hsz,hk,<-zJ];exact ye _ hcap
 have hrun:=fun w' hs=>lR ht b 0 cur.size (fun l=>cur.toList.getD l undef) (fun l hl=>by
  rw [pP,cell_of_row w b l cur g.e (0,0) hheap];simp [hl]) 0 (by rw [hag];simpa using hle) w' hs
 have hls:((List.range i.size).map fun l=>cur.toList.getD (0+l) undef)=cur.toList.take (c.2.length*g.k):=by
  rw [zJ,<-hk];refine yY bE fun q h1 h2=>?_
  grind
 refine fm (f:=fun ρ=>Instr.loadAt t (ρ x)) (by simp [execOp,ho]) ⟨.agg (cur.toList.take (c.2.length*g.k)).toArray,?_,fun w' hs=>?_⟩
 ·refine⟨_,rfl,fun u hu=>?_,by rw [<-zJ];exact hf⟩
  have hu:u∈cur.toList.take (c.2.length*g.k):=by simpa using hu
  obtain⟨q,hq,rfl⟩:=kY hu;have hlen:=hf.1;rw [sA] at hlen
  have hk0:0<g.k:=by
   grind
  have hq1:q<c.2.length*g.k:=by rw [<-hlen];exact hq
  have:=hf.2.2 (q / g.k) (q%g.k) (by simp_all [sA,ac5]) (Xy _ hk0);rw [show q / g.k*g.k+q%g.k=q by simp_all [Xz,Nat.div_add_mod]] at this;have e:(cur.toList.take (c.2.length*g.k)).getD q undef=(cur.toList.take (c.2.length*g.k))[q]:=by simp_all
  rw [e] at this;exact this.one
 ·have:=hrun w' (hs (by rw [ho];rfl))
  simp_all
def Zf(P:aE)(ty:aC->O Ty)(st:TS E)(dst:O Nat):Op->O (Bool×TS E)
 | .alloc t=>match aU P t with
  | some ⟨.array n e,_,_,z0⟩=>match Nat.blt 8 n,aU P e,ty e with
   | true,some ie,some T=>match (wZ E (some T) ie.zero).get T with
    | some z=>some (Nat.beq (T.size E) 1&&(Nat.ble n 9223372036854775807&&(Nat.beq z0.cells.size n&&(z0.cells.toList.all (aek ie.zero)&&ie.zero.cells.toList.all (·.oneCell')))),
      {st with t:=cg st.t dst (.gU st.g.length 0 1 0 0),g:=st.g++[⟨0,t,1⟩],c:=(st.g.length,⟨T,List.replicate n z⟩)::st.c})
    | none=>none
   | _,_,_=>none
  | _=>none
 | .box t x=>match aU P t,st.ev x with
  | some ⟨.array n _,_,_,_⟩,.sM T xs=>some (Nat.blt 0 (T.size E)&&(Nat.blt 0 n&&(Nat.ble n 9223372036854775807&&Nat.beq xs.length n)),
    {st with t:=cg st.t dst (.gU st.g.length 0 (T.size E) 0 0),g:=st.g++[⟨0,t,T.size E⟩],c:=(st.g.length,⟨T,xs⟩)::st.c})
  | _,_=>none
 | .load t x=>match aU P t,st.ev x with
  | some i,.gU j aG k ix off=>match i.kind,st.g[j]?,nJ st.c j with
   | .array _ _,some g,some c=>some (i.isAgg&&(Nat.beq g.aG aG&&(Nat.beq k (c.1.size E)&&(Nat.beq ix 0&&(Nat.beq off 0&&Nat.beq (c.2.length*k) i.size)))),{st with t:=cg st.t dst (.sM c.1 c.2)})
   | _,_,_=>none
  | _,_=>none
 | _=>none
theorem ael(hE:E.Ok)(hr:Rel E w0 G0 st a w G){ty:aC->O Ty}{st':TS E}{cc:Bool}(h:Zf P ty st o.dst o.op=some (cc,st'))(oZ:cc=true):jx P w0 G0 a w o st':=by
 have hmax:maxLen=9223372036854775807:=rfl;cases ho:o.op<;>rw [ho] at h<;>simp only [Zf] at h<;>try trivial
 case alloc t=>
  split at h<;>try trivial
  rename_i n e j1 j2 z0 ht;split at h<;>try trivial
  rename_i ie T h8 hi hT;split at h<;>try trivial
  rename_i z hz;cases h;simp only [cw] at oZ;obtain⟨c1,c2,c3,c4,c5⟩:=oZ;exact aby hE hr ho ht (eo c1) (Nat.lt_of_le_of_lt (eR 8) (kZ h8)) (by simp_all) (eo c3) c4 c5 hz
 case box t x=>
  split at h<;>try trivial
  rename_i n e j1 j2 z0 T xs ht hx;cases h;simp only [cw] at oZ;obtain⟨c1,c2,c3,c4⟩:=oZ;exact agl hr ho hx (kZ c1) (kZ c2) (by simp_all) (eo c4)
 case load t x=>
  split at h<;>try trivial
  rename_i i j aG k ix off ht hx;split at h<;>try trivial
  rename_i g c hk hg hc;cases h;simp only [cw] at oZ;obtain⟨c1,c2,c3,c4,c5,c6⟩:=oZ;have c2:=eo c2;have c4:=eo c4;have c5:=eo c5;subst c2 c4 c5;exact (abz hr ho ht c1 hx hg hc (eo c3) (eo c6)).ad4 hr
def aem(P:aE)(ty:aC->O Ty)(st:TS E)(dst:O Nat)(op:Op):O (Bool×TS E):=match Zf P ty st dst op with
 | some r=>some r
 | none=>XS P ty st dst op
theorem aen(hE:E.Ok)(hr:Rel E w0 G0 st a w G){ty:aC->O Ty}{st':TS E}{c:Bool}(h:aem P ty st o.dst o.op=some (c,st'))(hc:c=true):jx P w0 G0 a w o st':=by
 grind [aem,ael,abv]
end
end Go.RT
namespace Go.RT
variable {E : TEnv}
section
variable {P : aE} {w0 w w' : U} {G0 G G' : aJ} {st : TS E} {a : Act} {o : Oper}
def Sw(P:aE)(st:TS E):Op->O (Bool×TV E)
 | .indexAddr t x ix=>match aU P t,st.ev ix with
  | some ⟨.slice e,_,_,_⟩,.dat (.int _) m=>match aU P e,st.ev x with
   | some i,.gP r n cap=>some (Nat.beq i.size 1&&(decide (0<=m)&&decide (m<(n:Int))),.ptr r (Int.toNat m))
   | _,_=>none
  | _,_=>none
 | .call c=>match c.callee,c.args.toList,c.argTypes.toList with
  | .builtin .len,[x],[t]=>match aU P t,st.ev x with
   | some ⟨.slice _,_,_,_⟩,.gP r n cap=>some (true,.dat (.int .i64) (n:Int))
   | _,_=>none
  | _,_,_=>none
 | .load t x=>match aU P t,st.ev x with
  | some i,.ptr r off=>match st.H[r]? with
   | some (.kM e cap T xs d)=>some (Nat.beq i.size 1&&(!i.isAgg&&Nat.beq off xs.length),d)
   | _=>none
  | _,_=>none
 | _=>none
theorem V2{w:U}{b n:Nat}{cur:aI Value}{e:aC}(h:w.heap[b]? = some (.cells cur e (0,0)))(hn:n<cur.size):w.cell? ⟨b,n,none⟩=some (cur.getD n undef):=by
 rw [cell_of_row w b n cur e (0,0) h];simp [hn]
theorem Lm{t:aC}{i:TI}(hi:aU P t=some i)(hs:i.size=1)(ha:i.isAgg=false){b n:Nat}{v:Value}(W:U)(h:W.cell? ⟨b,n,none⟩=some v):(Instr.loadAt t (.pointer (some ⟨b,n,none⟩))).run P W=.ok v W:=by
 have hrow:=lR hi b n 1 (fun _=>v) (fun l hl=>by
  simp_all) 0 (by rw [ha];simp) W (eM.refl W)
 simp_all
theorem abA(hE:E.Ok)(hr:Rel E w0 G0 st a w G){d:TV E}{cc:Bool}(h:Sw P st o.op=some (cc,d))(hc:cc=true):iZ P a w G o d:=by
 cases ho:o.op<;>rw [ho] at h<;>simp [Sw] at h<;>try trivial
 case indexAddr t x ix=>
  split at h<;>try trivial
  rename_i e j1 j2 z kd m ht hn;obtain⟨xt,jq,dQ,-⟩:=aN ht;obtain⟨m,hm0⟩:∃q:Int,q=m:=⟨m,rfl⟩;have yK:=hr.ev ix;rw [hn] at yK;have MQ:=yK.fh;split at h<;>try trivial
  rename_i i r n cap hi hx;obtain⟨xe,oA,yL,hsz,-⟩:=aN hi;cases h;simp at hc;have hv:=hr.ev x;rw [hx] at hv;obtain⟨b,kR,hat⟩:=hv;refine fm (f:=fun ρ=>Instr.indexAt t (ρ x) (ρ ix)) (by simp [execOp,ho]) ⟨.pointer (some ⟨b,m.toNat,none⟩),?_,fun w' hs=>?_⟩
  ·simp_all [VT]
  rw [kR];unfold Instr.indexAt asIntOf;simp [nv,aP dQ]
  simp_all [Rw,if_true,iH,ey,iU,nv,add_lit,pP,Rq]
 case load t x=>
  split at h<;>try trivial
  rename_i i r off hi hx;split at h<;>try trivial
  rename_i e cap T xs d' hb;cases h;simp only [cw,C9] at hc;obtain⟨c1,c2,c3⟩:=hc;have c1:=eo c1;have c3:=eo c3;subst c3;have hv:=hr.ev x;rw [hx] at hv;obtain⟨b,kR,hat⟩:=hv;obtain⟨cur,h1,h2,h4,h5,h6⟩:=hr.box hat hb;refine⟨_,h5,fun w' hs=>?_⟩;have hb':w'.heap[b]? = some (.cells cur e (0,0)):=by rw [(hs (by rw [ho];rfl)).2 b (yZ.1 h1).1];exact h1
  have:=Lm hi c1 c2 w' (V2 hb' (by rw [h2];exact h6));simp [execOp,ho,kR,this]
 case call c'=>
  split at h<;>try trivial
  rename_i x t hcl ha hat;have fZ:c'.args=#[x]:=by grind
  have wI:c'.argTypes=#[t]:=by grind
  split at h<;>try trivial
  rename_i e j1 j2 z r n cap ht hx;cases h;have hv:=hr.ev x;rw [hx] at hv;obtain⟨b,kR,hat⟩:=hv;obtain⟨xt,jq,dQ,-⟩:=aN ht;refine⟨_,.int _ _ _ _,fun w' hs=>?_⟩;unfold execOp;simp [ho,resolve,hcl,invoke,builtin,fZ,wI];rw [kR];simp [Builtin.len_,aP dQ,goInt]
def TV.aic:TV E->O (J (TV E))
 | .dat t x=>cond t.isAgg (G9 E 4 t x) none
 | .agg cs=>some cs
 | _=>none
theorem aeo(hE:E.Ok){d:TV E}{v:Value}{cs:J (TV E)}(hv:VT E w G d v)(h:d.aic=some cs):∃vs:aI Value,v=.agg vs/\bD E w G cs vs.toList:=by
 cases d<;>try (cases h;done)
 case dat t x=>
  simp only [TV.aic] at h;cases ha:t.isAgg<;>rw [ha] at h<;>simp only [bf,aO] at h
  ·cases h
  ·obtain⟨vs,rfl,h0⟩:=hv.ad3 ha
   exact⟨vs,rfl,wX hE 4 t x h0 h⟩
 case agg ds=>
  cases h;simp only [VT] at hv;obtain⟨vs,rfl,h1,h2⟩:=hv;exact⟨vs,rfl,h2⟩
def aep:J (TV E)->J (Nat×TV E)->O (J (TV E))
 | cs,[]=>some cs
 | cs,(j,d)::rest=>match d.nS with
  | some [u]=>cond (Nat.ble (j+1) cs.length) (aep (cs.take j++[u]++cs.drop (j+1)) rest) none
  | _=>none
theorem V3(hE:E.Ok)(hr:Rel E w0 G0 st a w G):∀(parts:J (Nat×bx))(cells:aI Value)(ds:J (TV E)){ds':J (TV E)},bD E w G ds cells.toList->(∀u,u∈cells.toList->u.oneCell'=true) ->
  aep ds (parts.map fun p=>(p.1,st.ev p.2))=some ds' ->
  ∃cells':aI Value,Instr.fill (fun i=>some (i*1,1)) cells (parts.map fun p=>(p.1,a.eval p.2))=some cells'/\bD E w G ds' cells'.toList/\∀u,u∈cells'.toList->u.oneCell'=true
 | [],cells,ds,ds',h,h1,hf=>by cases hf;exact⟨cells,rfl,h,h1⟩
 | (j,x)::rest,cells,ds,ds',h,h1,hf=>by
  simp only [ld,aep] at hf;split at hf<;>try (cases hf;done)
  rename_i u hl;cases hb:Nat.ble (j+1) ds.length<;>rw [hb] at hf<;>simp only [bf,aO] at hf
  ·cases hf
  have hle:=kZ hb;obtain⟨hx,hx1⟩:=rC hE (hr.ev x) hl;have hlen:(a.eval x).cells.size=1:=by simpa using hx.length
  have hcl:cells.size=ds.length:=by simpa using h.length
  simp only [ld];rw [MS (off:=j) (size:=1) si hlen om,hlen];refine V3 hE hr rest _ _ ?_ ?_ hf
  ·simp only []
   exact ((h.take _).append hx).append (h.drop _)
  ·intro u hu
   simp only [uw] at hu;rcases hu with (hu|hu)|hu
   ·exact h1 u (adg hu)
   ·exact hx1 u (by simpa using hu)
   ·exact h1 u (List.mem_of_mem_drop hu)
theorem acu{T:Ty}:∀ {ds:J (TV E)}{us:J Value}{xs:J (T.den E.D)},ni T ds=some xs->bD E w G ds us->∀m,m<xs.length->∃u,us[m]? = some u/\VT E w G (.dat T (xs.getD m (T.dflt E))) u
 | [],us,xs,h,hv,m,hm=>by simp only [ni] at h;cases h;simp at hm
 | d::ds,us,xs,h,hv,m,hm=>by
  simp only [ni] at h;split at h<;>try (cases h;done)
  rename_i x xs' e1 e2;cases h;obtain⟨u,us',rfl,q1,q2⟩:=hv.cons_inv
  cases m with
  | zero=>exact⟨u,rfl,TV.tq e1 q1⟩
  | succ m=>exact acu e2 q2 m (by simpa using hm)
def XU(P:aE)(ty:aC->O Ty)(st:TS E):Op->O (Bool×TV E)
 | .build t parts=>match aU P t with
  | some ⟨.array _ e,_,_,.agg z⟩=>match aU P e,aep (z.toList.map TV.Jg) (parts.toList.map fun p=>(p.1,st.ev p.2)) with
   | some i,some ds=>some (Nat.beq i.size 1&&z.toList.all (·.oneCell'),OM E (ty t) ds)
   | _,_=>none
  | _=>none
 | .index t x ix=>match aU P t,st.ev ix with
  | some ⟨.array n e,_,_,_⟩,.dat (.int _) m=>match aU P e,ty e,(st.ev x).aic with
   | some i,some T,some cs=>match ni T cs with
    | some xs=>some (Nat.beq i.size 1&&(!i.isAgg&&(Nat.beq n xs.length&&(decide (0<=m)&&decide (m<(n:Int))))),.dat T (xs.getD (Int.toNat m) (T.dflt E)))
    | none=>none
   | _,_,_=>none
  | _,_=>none
 | _=>none
theorem abB(hE:E.Ok)(hr:Rel E w0 G0 st a w G){ty:aC->O Ty}{d:TV E}{cc:Bool}(h:XU P ty st o.op=some (cc,d))(hc:cc=true):iZ P a w G o d:=by
 cases ho:o.op<;>rw [ho] at h<;>simp only [XU] at h<;>try (cases h;done)
 case build t parts=>
  split at h<;>try (cases h;done)
  rename_i n e j1 j2 z ht;split at h<;>try (cases h;done)
  rename_i i ds hi hp;cases h;rw [cw] at hc;have c1:=eo hc.1;obtain⟨xt,jq,dQ,-,-,hz⟩:=aN ht;obtain⟨xe,oA,-,hsz,-⟩:=aN hi;obtain⟨cells,hf,hl,hl1⟩:=V3 hE hr parts.toList z (z.toList.map TV.Jg) bD.ofValues (fun u hu=>mL.1 hc.2 u hu) hp;refine fm (f:=fun ρ=>Instr.build t (parts.map fun (i,x)=>(i,ρ x))) (by simp [execOp,ho]) ⟨.agg cells,Il hE hl hl1,fun w' hs=>?_⟩;refine run_build w' t _ cells ?_;unfold Program.built;simp only [jq,dQ,hz,oA,hsz,c1];rw [show (parts.map fun (i,x)=>(i,a.eval x)).toList=parts.toList.map fun p=>(p.1,a.eval p.2) by simp];exact hf
 case index t x ix=>
  split at h<;>try (cases h;done)
  rename_i n e j1 j2 z kd m ht hn;obtain⟨m,hm0⟩:∃q:Int,q=m:=⟨m,rfl⟩;subst hm0;have yK:=hr.ev ix;rw [hn] at yK;have MQ:=yK.fh;split at h<;>try (cases h;done)
  rename_i i T cs hi hT hx;split at h<;>try (cases h;done)
  rename_i xs hxs;cases h;simp only [cw,C9,fq] at hc;obtain⟨c1,c2,c3,c4,c5⟩:=hc;have c1:=eo c1;have c3:=eo c3;have c4:(0:Int)<=m:=c4;have c5:m<(n:Int):=c5;obtain⟨xt,jq,dQ,-⟩:=aN ht;obtain⟨xe,oA,-,hsz,-⟩:=aN hi;obtain⟨vs,kR,hvs⟩:=aeo hE (hr.ev x) hx;obtain⟨u,hu,hv⟩:=acu hxs hvs m.toNat om;refine fm (f:=fun ρ=>Instr.index t (ρ x) (ρ ix)) (by simp [execOp,ho]) ⟨u,hv,fun w' hs=>?_⟩;rw [kR,MQ];unfold Instr.index asIntOf part;have h3:(0<=m/\m<((n:Nat):Int)):=⟨c4,c5⟩;simp at hu;simp only [iH,nv,iU,aP dQ,h3,Rw,if_true,ey oA,hsz,c1,Rq,R5 hi,c2];simp [hu]
def Sy(P:aE)(ty:aC->O Ty)(st:TS E)(o:Op):O (Bool×TV E):=match Sv P ty st o with
 | some x=>some x
 | none=>match Sw P st o with
  | some x=>some x
  | none=>XU P ty st o
theorem PX(hE:E.Ok)(hr:Rel E w0 G0 st a w G){ty:aC->O Ty}{d:TV E}{c:Bool}(h:Sy P ty st o.op=some (c,d))(hc:c=true):iZ P a w G o d:=by
 unfold Sy at h;split at h
 ·rename_i x hx
  cases h;exact abx hE hr hx hc
 ·split at h
  ·rename_i x hx
   cases h;exact abA hE hr hx hc
  ·exact abB hE hr h hc
def aeq(P:aE)(st:TS E)(dst:O Nat):Op->O (Bool×TS E)
 | .store t x y=>match aU P t,st.ev x,(st.ev y).nS with
  | some i,.ptr r off,some [u]=>match st.H[r]? with
   | some (.kM e cap T xs d)=>some (Nat.beq i.size 1&&Nat.beq off xs.length,{st with t:=cg st.t dst .any,H:=st.H.set r (.kM e cap T xs u),d:=r::st.d})
   | _=>none
  | _,_,_=>none
 | _=>none
theorem aer(hE:E.Ok)(hr:Rel E w0 G0 st a w G){st':TS E}{c:Bool}(h:aeq P st o.dst o.op=some (c,st'))(hc:c=true):jx P w0 G0 a w o st':=by
 cases ho:o.op<;>rw [ho] at h<;>simp [aeq] at h<;>try trivial
 case store t x y=>
  split at h<;>try trivial
  rename_i i r off u ht hd hy;split at h<;>try trivial
  rename_i e cap T xs d hb;cases h;rw [cw] at hc;have c1:=eo hc.1;have c2:=eo hc.2;have yM:=hr.ev x;rw [hd] at yM;obtain⟨b,he,hat⟩:=yM;obtain⟨vs,hh,hsz,hxs,hdv,hlt⟩:=hr.box hat hb;obtain⟨hl,hl1⟩:=rC hE (hr.ev y) hy;have hlen:(a.eval y).cells.toList.length=1:=by rw [hl.length];rfl
  have hlen':(a.eval y).cells.size=i.size:=by rw [c1];simpa using hlen
  obtain⟨v,hv⟩:∃v,(a.eval y).cells.toList=[v]:=by
   match hq:(a.eval y).cells.toList,hlen with
   | [v],_=>exact⟨v,rfl⟩
  obtain⟨xt,jq,-,apg,-⟩:=aN ht;have hfit:xs.length+0+(a.eval y).cells.toList.length<=vs.size:=by rw [hsz];omega
  have Si:=run_storeCells_at (P:=P) b xs.length e (a.eval y).cells.toList 0 vs w hh hfit (fun v hv=>hl1 v (by simpa using hv));obtain⟨new,hnw⟩:∃new,new=(vs.toList.take xs.length++(a.eval y).cells.toList++vs.toList.drop (xs.length+(a.eval y).cells.toList.length)).toArray:=⟨_,rfl⟩
  have hrun:(execOp a.eval o).run P w=.ok .skip (w.setRow b new):=by
   simp [execOp,ho,Instr.storeAt,Instr.sureAddr,he,storeVar,ey jq]
   simp_all
  have hnew:(w.setRow b new).heap[b]? = some (.cells new e (0,0)):=setRow_heap w b vs _ e _ hh;have Dh:∀b',b'≠b->(w.setRow b new).heap[b']? = w.heap[b']?:=fun b' hb'=>setRow_other w b b' _ hb';have tv:new.size=cap:=by grind
  have M6:∀q,new.getD q undef=if q=xs.length then v else vs.getD q undef:=by
   intro q;rw [T9,T9];have htl:(vs.toList.take xs.length).length=xs.length:=by grind
   by_cases h1:q<xs.length
   ·grind
   ·by_cases h2:q=xs.length
    ·simp_all
    ·rw [if_neg h2]
     grind
  have hR:=hr.wY (w':=w.setRow b new) hat si rfl rfl rfl Dh (x:=.kM e cap T xs u) (fun hg=>by
   refine⟨new,hnew,tv,fun q x hx=>?_,?_,hlt⟩
   ·have hq:=(eG.1 hx).1
    rw [M6,if_neg om];exact (hxs q x hx).mono hg
   ·rw [M6,if_pos rfl]
    have:=hl.mono hg;rw [hv] at this;obtain⟨u',us,e1,h1,-⟩:=this.cons_inv;cases e1;exact h1)
  exact⟨_,undef,_,G,hrun,.inr ⟨rfl,rfl⟩,hR.put (by simp [VT]) o.dst⟩
def Zg(P:aE)(ty:aC->O Ty)(st:TS E)(dst:O Nat)(op:Op):O (Bool×TS E):=match Zd P ty st dst op with
 | some r=>some r
 | none=>match aem P ty st dst op with
  | some r=>some r
  | none=>aeq P st dst op
theorem aes(hE:E.Ok)(hr:Rel E w0 G0 st a w G){ty:aC->O Ty}{st':TS E}{c:Bool}(h:Zg P ty st o.dst o.op=some (c,st'))(hc:c=true):jx P w0 G0 a w o st':=by
 grind [Zg,aeg,aen,aer]
end
end Go.RT
namespace Go.RT
variable {E : TEnv}
inductive Zh where
 | ptr|iface|func|slice|map
 deriving DecidableEq
def Zh.val:Zh->Value
 | .ptr=>.pointer none
 | .iface=>.nilIface
 | .func=>.nilFunc
 | .slice=>.slice none 0 0
 | .map=>.map none
def aid:Value->O Zh
 | .pointer none=>some .ptr
 | .nilIface=>some .iface
 | .nilFunc=>some .func
 | .slice none 0 0=>some .slice
 | .map none=>some .map
 | _=>none
theorem akH{v:Value}{k:Zh}(h:aid v=some k):v=k.val:=by
 unfold aid at h;split at h<;>cases h<;>rfl
inductive CT where
 | dat (t:Ty)
 | any
 | ptr (r off:Nat)
 | oY (r off:Nat)
 | iW (r:Nat)
 | tn (r:Nat)
 | ck (j:Nat) (t:Ty)
 | dU (j:Nat)
 | func (f:FuncId) (caps:List (Nat×Nat))
 | nil (k:Zh)
 | rz (t:Ty) (off:Nat)
 | iface (ty:TypeId) (t:Ty)
 | gU (j k:Nat)
 | sM (t:Ty)
 | lb (b:Bool)
 | li (k:IntKind) (n:Int)
 | pk (t:Ty)
def CT.pk? : CT->O Ty
 | .pk t=>some t
 | _=>none
inductive PT where
 | one (c:CT)
 | agg (cs:List CT)
 | dc (cs:List CT)
inductive BT where
 | cells (ty:TypeId) (cs:List CT)
 | map (kt vt:Ty)
 | iter
 | loop (y:Nat) (cs:List CT)
def CT.tys:CT->J Ty
 | .dat t=>[t]
 | .oY _ _=>[.bool]
 | .ck _ t=>[.aZ t]
 | .rz t _=>[t]
 | .iface _ t=>[t]
 | .sM t=>[.aZ t]
 | .pk t=>[t]
 | _=>[]
def CT.Zi:J CT->J Ty
 | []=>[]
 | c::cs=>c.tys++Zi cs
def PT.tys:PT->J Ty
 | .one c=>c.tys
 | .agg cs=>CT.Zi cs
 | .dc cs=>CT.Zi cs
def BT.tys:BT->J Ty
 | .cells _ cs=>CT.Zi cs
 | .loop _ cs=>CT.Zi cs
 | .map kt vt=>[.aZ (.pair kt vt)]
 | .iter=>[.str,.int .i64]
abbrev Lf(E:TEnv):=(t:Ty)×t.den E.D
@[reducible] def dens (E : TEnv) : J Ty -> Type
 | []=>Unit
 | [t]=>t.den E.D
 | t::u::ts=>t.den E.D×dens E (u::ts)
def XW(t:Ty)(x:Lf E):O (t.den E.D):=if h:x.1=t then some (h▸x.2) else none
def getAll:(ts:J Ty)->J (Lf E)->O (dens E ts)
 | [],[]=>some ()
 | [],_::_=>none
 | [t],[x]=>XW t x
 | [_],[]=>none
 | [_],_::_::_=>none
 | t::u::ts,x::xs=>match XW t x,getAll (u::ts) xs with
  | some y,some ys=>some (y,ys)
  | _,_=>none
 | _::_::_,[]=>none
def aR:(ts:J Ty)->dens E ts->J (Lf E)
 | [],_=>[]
 | [t],x=>[⟨t,x⟩]
 | t::u::ts,x=>⟨t,x.1⟩::aR (u::ts) x.2
theorem Zj{t:Ty}{x:Lf E}{y:t.den E.D}(h:XW t x=some y):x=⟨t,y⟩:=by
 grind [XW]
theorem CC:∀(ts:J Ty){ls:J (Lf E)}{x:dens E ts},getAll ts ls=some x->aR ts x=ls
 | [],[],_,_=>rfl
 | [],_::_,_,h=>by cases h
 | [t],[l],x,h=>by grind [getAll,aR,Zj]
 | [_],[],_,h=>by cases h
 | [_],_::_::_,_,h=>by cases h
 | t::u::ts,l::ls,x,h=>by
  simp [getAll] at h;split at h<;>try trivial
  rename_i y ys h1 h2;cases h
  simp [aR,Zj h1,CC (u::ts) h2]
 | _::_::_,[],_,h=>by cases h
structure Rn where
 b:List Nat
 g:List Nat
 v:List Nat
def uP(a b c d:Nat):Bool:=Nat.beq a b&&Nat.beq c d
def M7(n:Rn):J (Nat×Nat)->J (TV E)->Bool
 | [],[]=>true
 | (r,off)::cs,d::ds=>(match n.b[r]?,d with
  | some r',.ptr r'' off'=>uP r' r'' off off'
  | _,_=>false)&&M7 n cs ds
 | _,_=>false
def Fc(n:Rn):J (Nat×Nat)->J (TV E)
 | []=>[]
 | (r,off)::cs=>(match n.b[r]? with|some r'=>.ptr r' off|none=>.any)::Fc n cs
def CT.get(n:Rn):CT->TV E->O (J (Lf E))
 | .dat t,d=>match d.get t with|some x=>some [⟨t,x⟩]|none=>none
 | .any,_=>some []
 | .ptr r off,.ptr r' off'=>match n.b[r]? with
  | some r''=>cond (uP r'' r' off off') (some []) none
  | none=>none
 | .oY r off,.oY b r' off'=>match n.b[r]? with
  | some r''=>cond (uP r'' r' off off') (some [⟨.bool,b⟩]) none
  | none=>none
 | .oY r off,.ptr r' off'=>match n.b[r]? with
  | some r''=>cond (uP r'' r' off off') (some [⟨.bool,true⟩]) none
  | none=>none
 | .oY _ _,.val (.pointer none)=>some [⟨.bool,false⟩]
 | .iW r,.iW r'=>match n.b[r]? with
  | some r''=>cond (Nat.beq r'' r') (some []) none
  | none=>none
 | .tn r,.tn r'=>match n.b[r]? with
  | some r''=>cond (Nat.beq r'' r') (some []) none
  | none=>none
 | .ck j t,.ck j' aG t' xs=>match n.g[j]?,n.v[j]? with
  | some Hl,some v=>if h:t'=t then cond (uP Hl j' v aG) (some [⟨.aZ t,(h▸xs:J (t.den E.D))⟩]) none else none
  | _,_=>none
 | .func f caps,.func (.func f') cs=>cond (Nat.beq f f'&&M7 n caps cs) (some []) none
 | .nil k,.val v=>match aid v with|some k'=>cond (decide (k=k')) (some []) none|none=>none
 | .rz t off,.rz t' y off'=>if h:t'=t then cond (Nat.beq off off') (some [⟨t,h▸y⟩]) none else none
 | .iface ty t,.iface ty' d=>match d.get t with|some x=>cond (Nat.beq ty ty') (some [⟨t,x⟩]) none|none=>none
 | .dU j,.dU j' aG=>match n.g[j]?,n.v[j]? with
  | some Hl,some v=>cond (uP Hl j' v aG) (some []) none
  | _,_=>none
 | .gU j k,.gU j' aG k' i off=>match n.g[j]?,n.v[j]? with
  | some Hl,some v=>cond (uP Hl j' v aG&&(Nat.beq k k'&&uP i 0 off 0)) (some []) none
  | _,_=>none
 | .sM t,.sM t' xs=>if h:t'=t then some [⟨.aZ t,(h▸xs:J (t.den E.D))⟩] else none
 | .lb b,.dat .bool x=>cond (b==x) (some []) none
 | .li k n,.dat (.int k') x=>cond (decide (k=k')&&decide (n=x)) (some []) none
 | _,_=>none
def CT.put(n:Rn):CT->J (Lf E)->TV E×J (Lf E)
 | .dat _,l::ls=>(.dat l.1 l.2,ls)
 | .ptr r off,ls=>(match n.b[r]? with|some r'=>.ptr r' off|none=>.any,ls)
 | .oY r off,l::ls=>(match n.b[r]?,l with|some r',⟨.bool,b⟩=>.oY b r' off|_,_=>.any,ls)
 | .iW r,ls=>(match n.b[r]? with|some r'=>.iW r'|none=>.any,ls)
 | .tn r,ls=>(match n.b[r]? with|some r'=>.tn r'|none=>.any,ls)
 | .ck j _,l::ls=>(match n.g[j]?,n.v[j]?,l with|some j',some v,⟨.aZ t,xs⟩=>.ck j' v t xs|_,_,_=>.any,ls)
 | .func f caps,ls=>(.func (.func f) (Fc n caps),ls)
 | .nil k,ls=>(.val k.val,ls)
 | .rz _ off,l::ls=>(.rz l.1 l.2 off,ls)
 | .iface ty _,l::ls=>(.iface ty (.dat l.1 l.2),ls)
 | .dU j,ls=>(match n.g[j]?,n.v[j]? with|some j',some v=>.dU j' v|_,_=>.any,ls)
 | .gU j k,ls=>(match n.g[j]?,n.v[j]? with|some j',some v=>.gU j' v k 0 0|_,_=>.any,ls)
 | .sM _,l::ls=>(match l with|⟨.aZ t,xs⟩=>.sM t xs|_=>.any,ls)
 | .lb b,ls=>(.dat .bool b,ls)
 | .li k n,ls=>(.dat (.int k) n,ls)
 | _,ls=>(.any,ls)
def CT.amw(t:Ty)(ds:J (TV E)):O (t.den E.D×J (TV E)):=match MP E 4 t ds with
 | some p=>match G9 E 4 t p.1 with
  | some _=>some p
  | none=>none
 | none=>none
def CT.Kq:J (Lf E)->J (TV E)×J (Lf E)
 | l::ls=>(match G9 E 4 l.1 l.2 with|some cs=>cs|none=>[],ls)
 | []=>([],[])
def CT.Iq(n:Rn):J CT->J (TV E)->O (J (Lf E))
 | [],[]=>some []
 | [],_::_=>none
 | c::cs,ds=>match c.pk? with
  | some t=>match CT.amw t ds with
   | some p=>match Iq n cs p.2 with
    | some ls=>some (⟨t,p.1⟩::ls)
    | none=>none
   | none=>none
  | none=>match ds with
   | d::ds=>match c.get n d,Iq n cs ds with
    | some l,some ls=>some (l++ls)
    | _,_=>none
   | []=>none
def CT.og(n:Rn):J CT->J (Lf E)->J (TV E)×J (Lf E)
 | [],ls=>([],ls)
 | c::cs,ls=>match c.pk? with
  | some _=>((CT.Kq ls).1++(og n cs (CT.Kq ls).2).1,(og n cs (CT.Kq ls).2).2)
  | none=>((c.put n ls).1::(og n cs (c.put n ls).2).1,(og n cs (c.put n ls).2).2)
def PT.get(n:Rn):PT->TV E->O (J (Lf E))
 | .one c,d=>c.get n d
 | .agg cs,.agg ds=>CT.Iq n cs ds
 | .dc cs,.tuple ds=>CT.Iq n cs ds
 | _,_=>none
def PT.put(n:Rn):PT->J (Lf E)->TV E×J (Lf E)
 | .one c,ls=>c.put n ls
 | .agg cs,ls=>(.agg (CT.og n cs ls).1,(CT.og n cs ls).2)
 | .dc cs,ls=>(.tuple (CT.og n cs ls).1,(CT.og n cs ls).2)
def BT.get(n:Rn):BT->eS E->O (J (Lf E))
 | .cells ty cs,.cells ty' ds=>cond (Nat.beq ty ty') (CT.Iq n cs ds) none
 | .map kt vt,.map kt' vt' m=>if h:Ty.aZ (.pair kt' vt')=.aZ (.pair kt vt) then some [⟨.aZ (.pair kt vt),(h▸(show (Ty.aZ (.pair kt' vt')).den E.D from m):(Ty.aZ (.pair kt vt)).den E.D)⟩] else none
 | .iter,.iter s pos=>some [⟨.str,s⟩,⟨.int .i64,(pos:Int)⟩]
 | .loop y cs,.loop y' ds=>cond (Nat.beq y y') (CT.Iq n cs ds) none
 | _,_=>none
def BT.put(n:Rn):BT->J (Lf E)->eS E×J (Lf E)
 | .cells ty cs,ls=>(.cells ty (CT.og n cs ls).1,(CT.og n cs ls).2)
 | .loop y cs,ls=>(.loop y (CT.og n cs ls).1,(CT.og n cs ls).2)
 | .map _ _,l::ls=>(match l with|⟨.aZ (.pair kt vt),m⟩=>.map kt vt m|_=>.iter [] 0,ls)
 | .iter,l::l'::ls=>(match l,l' with|⟨.str,s⟩,⟨.int _,p⟩=>.iter s (Int.toNat p)|_,_=>.iter [] 0,ls)
 | _,ls=>(.iter [] 0,ls)
structure BC(w:World)(G:aJ)(n:Rn)(G2:aJ)(n2:Rn):Prop where
 pr:∀b o,G.pr b o->G2.pr b o
 i:∀(r r' b:Nat),n.b[r]? = some r'->G.i[r']? = some b->∃r2,n2.b[r]? = some r2/\G2.i[r2]? = some b
 g:∀(j j' v:Nat) x h,n.g[j]? = some j'->n.v[j]? = some v->G.g[j']? = some (x,h)->x.aG=v/\∃j2 v2 x2,n2.g[j]? = some j2/\n2.v[j]? = some v2/\G2.g[j2]? = some (x2,h)/\x2.aG=v2
theorem yO{a b c d:Nat}(h:uP a b c d=true):a=b/\c=d:=by
 simp_all [uP,cw,eo]
section
variable {w : U} {G G2 : aJ} {n n2 : Rn}
theorem VT.rG{t:Ty}{x:t.den E.D}{v:Value}(h:VT E w G (.dat t x) v)(hp:∀b o,G.pr b o->G2.pr b o):VT E w G2 (.dat t x) v:=by
 cases ha:t.isAgg
 ·exact .OL ha ((h.atom ha).mono hp (fun _ _ _ _ h=>h))
 ·obtain⟨vs,rfl,h0⟩:=h.ad3 ha
  simp only [VT,ha];exact⟨vs,rfl,h0.mono hp (fun _ _ _ _ h=>h)⟩
theorem acv(hL:BC w G n G2 n2):∀(caps:J (Nat×Nat)){cs:J (TV E)}{vs:J Value},M7 n caps cs=true->bD E w G cs vs->bD E w G2 (Fc n2 caps:J (TV E)) vs
 | [],[],vs,_,h=>h
 | (r,off)::caps,d::ds,vs,hc,h=>by
  simp [M7] at hc;obtain⟨u,us,rfl,h1,h2⟩:=h.cons_inv;obtain⟨hc1,Jf⟩:=hc;split at hc1<;>try (cases hc1;done)
  rename_i r' r'' off' hr;obtain⟨rfl,rfl⟩:=yO hc1;obtain⟨b,rfl,hb⟩:=h1;obtain⟨r2,hr2,oV⟩:=hL.i r r' b hr hb;refine .cons ?_ (acv hL caps Jf h2)
  simp_all [VT]
 | [],_::_,_,hc,_=>by cases hc
 | (_,_)::_,[],_,hc,_=>by cases hc
theorem CT.sound(hL:BC w G n G2 n2){c:CT}{d:TV E}{ls rest:J (Lf E)}{v:Value}(h:c.get n d=some ls)(hv:VT E w G d v):
  (c.put n2 (ls++rest)).2=rest/\VT E w G2 (c.put n2 (ls++rest)).1 v:=by
 unfold CT.get at h;split at h<;>try (cases h;done)
 ·split at h<;>try (cases h;done)
  rename_i t x hx;cases h;exact⟨rfl,(TV.tq hx hv).rG hL.pr⟩
 ·simp_all [CT.put,pS,ux,VT]
 ·rename_i r off r' off'
  split at h<;>try (cases h;done)
  rename_i r'' hr;cases hb:uP r'' r' off off'<;>rw [hb] at h<;>simp only [bf,aO] at h
  ·cases h
  obtain⟨rfl,rfl⟩:=yO hb;obtain⟨b,rfl,hb⟩:=hv;obtain⟨r2,hr2,oV⟩:=hL.i r r'' b hr hb
  simp_all [CT.put,pS,ux,VT]
 ·rename_i r off bb r' off'
  split at h<;>try (cases h;done)
  rename_i r'' hr;cases hb:uP r'' r' off off'<;>rw [hb] at h<;>simp only [bf,aO] at h
  ·cases h
  cases h;obtain⟨rfl,rfl⟩:=yO hb;cases bb<;>simp only [VT] at hv
  ·simp only [CT.put,yh,pS,ux]
   grind [VT]
  ·obtain⟨b,rfl,hb⟩:=hv
   obtain⟨r2,hr2,oV⟩:=hL.i r r'' b hr hb
   simp_all [CT.put,yh,pS,ux,VT]
 ·rename_i r off r' off'
  split at h<;>try (cases h;done)
  rename_i r'' hr;cases hb:uP r'' r' off off'<;>rw [hb] at h<;>simp only [bf,aO] at h
  ·cases h
  cases h;obtain⟨rfl,rfl⟩:=yO hb;obtain⟨b,rfl,hb⟩:=hv;obtain⟨r2,hr2,oV⟩:=hL.i r r'' b hr hb
  simp_all [CT.put,yh,pS,ux,VT]
 ·cases h
  simp only [CT.put,yh,pS,ux]
  grind [VT]
 ·rename_i r r'
  split at h<;>try (cases h;done)
  rename_i r'' hr;cases hb:Nat.beq r'' r'<;>rw [hb] at h<;>simp only [bf,aO] at h
  ·cases h
  obtain rfl:=eo hb;obtain⟨b,rfl,hb⟩:=hv;obtain⟨r2,hr2,oV⟩:=hL.i r r'' b hr hb
  simp_all [CT.put,pS,ux,VT]
 ·rename_i r r'
  split at h<;>try (cases h;done)
  rename_i r'' hr;cases hb:Nat.beq r'' r'<;>rw [hb] at h<;>simp only [bf,aO] at h
  ·cases h
  obtain rfl:=eo hb;obtain⟨b,rfl,hb⟩:=hv;obtain⟨r2,hr2,oV⟩:=hL.i r r'' b hr hb
  simp_all [CT.put,pS,ux,VT]
 ·rename_i j t j' aG t' xs
  split at h<;>try (cases h;done)
  rename_i Hl vv hj CD;split at h<;>try (cases h;done)
  rename_i ht;subst ht;cases hb:uP Hl j' vv aG<;>rw [hb] at h<;>simp only [bf,aO] at h
  ·cases h
  cases h;obtain⟨rfl,rfl⟩:=yO hb;obtain⟨zC,x,hh,hg,hle,heq⟩:=hv;obtain⟨Sz,j2,v2,x2,q1,q2,q3,q4⟩:=hL.g j Hl vv x hh hj CD hg;simp only [CT.put,q1,q2,yh,pS,ux,VT];refine⟨zC.mono hL.pr (fun _ _ _ _ h=>h),x2,hh,q3,om,fun _=>heq Sz.symm⟩
 ·rename_i f caps f' cs
  cases hb:(Nat.beq f f'&&M7 n caps cs)<;>rw [hb] at h<;>simp only [bf,aO] at h
  ·cases h
  rw [cw] at hb;obtain rfl:=eo hb.1;simp only [VT] at hv;simp only [CT.put,pS,ux,VT]
  grind [acv]
 ·rename_i k u
  split at h<;>try (cases h;done)
  rename_i k' hk;cases hb:decide (k=k')<;>rw [hb] at h<;>simp only [bf,aO] at h
  ·cases h
  cases h;simp only [fq] at hb;subst hb;subst hv;simp only [CT.put,pS,ux,VT];exact akH hk
 ·rename_i t off t' y off'
  split at h<;>try (cases h;done)
  rename_i ht;subst ht;cases hb:Nat.beq off off'<;>rw [hb] at h<;>simp only [bf,aO] at h
  ·cases h
  cases h;obtain rfl:=eo hb;obtain⟨b,o,c,rfl,h1,h2⟩:=hv;simp only [CT.put,yh,pS,ux,VT];exact⟨b,o,c,rfl,h1.mono hL.pr (fun _ _ _ _ h=>h),fun l u hl=>⟨hL.pr _ _ (h2 l u hl).1,(h2 l u hl).2⟩⟩
 ·rename_i ty t ty' d'
  split at h<;>try (cases h;done)
  rename_i x hx;cases hb:Nat.beq ty ty'<;>rw [hb] at h<;>simp only [bf,aO] at h
  ·cases h
  cases h;obtain rfl:=eo hb;obtain⟨u,rfl,hu⟩:=hv;simp only [CT.put,yh,pS,ux,VT];exact⟨u,rfl,(TV.tq hx hu).rG hL.pr⟩
 ·rename_i j j' aG
  split at h<;>try (cases h;done)
  rename_i Hl vv hj CD;cases hb:uP Hl j' vv aG<;>rw [hb] at h<;>simp only [bf,aO] at h
  ·cases h
  obtain⟨rfl,rfl⟩:=yO hb;obtain⟨x,hh,hg,hle,h1,heq⟩:=hv;obtain⟨Sz,j2,v2,x2,q1,q2,q3,q4⟩:=hL.g j Hl vv x hh hj CD hg;simp only [CT.put,q1,q2,pS,ux,VT]
  grind
 ·rename_i j k j' aG k' i off
  split at h<;>try (cases h;done)
  rename_i Hl vv hj CD;cases hb:(uP Hl j' vv aG&&(Nat.beq k k'&&uP i 0 off 0))<;>rw [hb] at h<;>simp only [bf,aO] at h
  ·cases h
  rw [cw,cw] at hb;obtain⟨wO,oV,YL⟩:=hb;obtain⟨rfl,rfl⟩:=yO wO;obtain⟨rfl,rfl⟩:=yO YL;obtain⟨x,hh,hg,hle,h1,heq⟩:=hv;obtain⟨Sz,j2,v2,x2,q1,q2,q3,q4⟩:=hL.g j Hl vv x hh hj CD hg;simp only [CT.put,q1,q2,pS,ux,VT]
  grind
 ·split at h<;>try (cases h;done)
  rename_i ht;subst ht;cases h;obtain⟨vs,rfl,h1,h2⟩:=hv;simp only [CT.put,yh,pS,ux,VT];exact⟨vs,rfl,h1,h2.mono hL.pr (fun _ _ _ _ h=>h)⟩
 ·rename_i b x
  cases hb:(b==x)<;>rw [hb] at h<;>simp only [bf,aO] at h
  ·cases h
  cases h;rw [oO] at hb;subst hb;refine⟨rfl,?_⟩;rw [VT.lC hv];exact .bool _ _ _
 ·rename_i k n k' x
  cases hb:(decide (k=k')&&decide (n=x))<;>rw [hb] at h<;>simp only [bf,aO] at h
  ·cases h
  cases h;rw [cw,fq,fq] at hb;obtain⟨rfl,rfl⟩:=hb;refine⟨rfl,?_⟩;rw [VT.fh hv];exact .int _ _ _ _
theorem CT.M8(hE:E.Ok)(hL:BC w G n G2 n2):∀ {cs:J CT}{ds:J (TV E)}{ls rest:J (Lf E)}{vs:J Value},CT.Iq n cs ds=some ls->bD E w G ds vs ->
  (CT.og n2 cs (ls++rest)).2=rest/\bD E w G2 (CT.og n2 cs (ls++rest)).1 vs
 | [],[],ls,rest,vs,h,hv=>by cases h;simp [bD] at hv;subst hv;exact⟨rfl,bD.nil⟩
 | c::cs,ds,ls,rest,vs,h,hv=>by
  unfold CT.Iq at h;unfold CT.og;split at h
  ·rename_i t ht
   split at h<;>try trivial
   rename_i p hp;split at h<;>try trivial
   rename_i ls' h2;cases h;unfold CT.amw at hp;split at hp<;>try (cases hp;done)
   rename_i p' hp';split at hp<;>try (cases hp;done)
   rename_i fc VS;cases hp;obtain⟨us,ts,rfl,q1,q2⟩:=zE hE 4 t hv hp';obtain⟨e3,e4⟩:=CT.M8 hE hL h2 q2;simp [ht,CT.Kq,VS];exact⟨e3,(wX hE 4 t p.1 (q1.mono hL.pr (fun _ _ _ _ h=>h)) VS).append e4⟩
  ·rename_i ht
   split at h<;>try trivial
   split at h<;>try trivial
   rename_i l ls' h1 h2;cases h;obtain⟨u,us,rfl,q1,q2⟩:=hv.cons_inv;obtain⟨e1,e2⟩:=CT.sound hL (rest:=ls'++rest) h1 q1;obtain⟨e3,e4⟩:=CT.M8 hE hL h2 q2;simp [ht,e1]
   exact⟨e3,.cons e2 e4⟩
 | [],_::_,_,_,_,h,_=>by cases h
theorem PT.sound(hE:E.Ok)(hL:BC w G n G2 n2){p:PT}{d:TV E}{ls rest:J (Lf E)}{v:Value}(h:p.get n d=some ls)(hv:VT E w G d v):
  (p.put n2 (ls++rest)).2=rest/\VT E w G2 (p.put n2 (ls++rest)).1 v:=by
 unfold PT.get at h
 grind [CT.sound,VT,CT.M8,PT.put]
theorem fL.pr{kt vt:Ty}(hp:∀b o,G.pr b o->G2.pr b o):∀ {es:J MapEntry}{m:J (kt.den E.D×vt.den E.D)},fL E w G kt vt es m->fL E w G2 kt vt es m
 | [],[],_=>trivial
 | _::_,_::_,h=>⟨h.1.rG hp,h.2.1.rG hp,fL.pr hp h.2.2⟩
 | [],_::_,h=>h.elim
 | _::_,[],h=>h.elim
theorem BT.sound(hE:E.Ok)(hL:BC w G n G2 n2){t:BT}{x:eS E}{ls rest:J (Lf E)}{b:Nat}(h:t.get n x=some ls)(hv:jB E w G b x):
  (t.put n2 (ls++rest)).2=rest/\jB E w G2 b (t.put n2 (ls++rest)).1:=by
 unfold BT.get at h;split at h<;>try trivial
 ·rename_i ty cs ty' ds
  cases hb:Nat.beq ty ty'<;>rw [hb] at h<;>simp only [bf,aO] at h
  ·cases h
  obtain rfl:=eo hb;obtain⟨vs,h1,h2,h3⟩:=hv;obtain⟨e1,e2⟩:=CT.M8 hE hL h h3;exact⟨e1,vs,h1,h2,e2⟩
 ·split at h<;>try trivial
  rename_i he;have he':=he;obtain⟨rfl,rfl⟩:=he';cases h;obtain⟨es,clock,h1,h2,h3⟩:=hv;refine⟨rfl,?_⟩;exact⟨es,clock,h1,h2,h3.pr hL.pr⟩
 ·cases h
  exact⟨rfl,hv⟩
 ·rename_i y cs y' ds
  cases hb:Nat.beq y y'<;>rw [hb] at h<;>simp only [bf,aO] at h
  ·cases h
  obtain rfl:=eo hb;obtain⟨Y,fn,tmps,D,h0,h1,h2⟩:=hv;obtain⟨e1,e2⟩:=CT.M8 hE hL h h2;exact⟨e1,Y,fn,tmps,D,h0,h1,e2⟩
end
end Go.RT
namespace Go.RT
variable {E : TEnv}
structure Cut where
 vars:List (Nat×PT)
 boxes:List (Option BT)
 rows:List (Option (TypeId×Nat))
 soft:List (Nat×Ty)
def acw:J (Nat×PT)->J Ty
 | []=>[]
 | v::vs=>v.2.tys++acw vs
def Kr:J (O BT)->J Ty
 | []=>[]
 | some b::bs=>b.tys++Kr bs
 | none::bs=>Kr bs
def OQ:J (Nat×Ty)->J Ty
 | []=>[]
 | p::ps=>.aZ p.2::OQ ps
def Cut.tys(c:Cut):J Ty:=acw c.vars++(Kr c.boxes++OQ c.soft)
def Jm(f:Nat->O Nat)(cs:J (Nat×Cn E)):J (Nat×Ty)->O (J (Lf E))
 | []=>some []
 | p::ps=>match f p.1 with
  | some j=>match nJ cs j,Jm f cs ps with
   | some c,some ls=>if h:c.1=p.2 then some (⟨.aZ p.2,(h▸c.2:J (p.2.den E.D))⟩::ls) else none
   | _,_=>none
  | none=>none
def mu(f:Nat->O Nat):J (Nat×Ty)->J (Lf E)->J (Nat×Cn E)
 | [],_=>[]
 | p::ps,l::ls=>match f p.1,l with
  | some j,⟨.aZ t,xs⟩=>(j,⟨t,xs⟩)::mu f ps ls
  | _,_=>mu f ps ls
 | _::_,[]=>[]
theorem B9{f f2:Nat->O Nat}{cs:J (Nat×Cn E)}:∀ {ps:J (Nat×Ty)}{ls:J (Lf E)}(rest:J (Lf E)),Jm f cs ps=some ls->∀ {i:Nat}{c:Cn E},(i,c)∈mu f2 ps (ls++rest) ->
  ∃q j,(∃t,(q,t)∈ps)/\f q=some j/\f2 q=some i/\(j,c)∈cs
 | [],ls,rest,h,i,c,hm=>by cases hm
 | p::ps,ls,rest,h,i,c,hm=>by
  simp [Jm] at h;split at h<;>try trivial
  rename_i j hj;split at h<;>try trivial
  rename_i c' ls' h1 h2;split at h<;>try trivial
  rename_i ht;cases h;obtain⟨t',xs⟩:=c';obtain⟨q,t⟩:=p;dsimp only at ht;subst ht;simp [mu] at hm
  cases hf:f2 q with
  | none=>
   rw [hf] at hm;obtain⟨q',j',⟨t1,e0⟩,e1⟩:=B9 rest h2 hm
   exact⟨q',j',⟨t1,pQ _ e0⟩,e1⟩
  | some i'=>
   rw [hf] at hm;rcases gY.1 hm with e|hm
   ·cases e
    exact⟨q,j,⟨t',Mp ..⟩,hj,hf,QE h1⟩
   ·obtain⟨q',j',⟨t1,e0⟩,e1⟩:=B9 rest h2 hm
    exact⟨q',j',⟨t1,pQ _ e0⟩,e1⟩
def below(n:Nat):J (Nat×Ty)->Bool
 | []=>true
 | p::ps=>Nat.blt p.1 n&&below n ps
theorem Zk{n:Nat}:∀ {ps:J (Nat×Ty)},below n ps=true->∀q t,(q,t)∈ps->q<n
 | [],_,q,t,h=>by cases h
 | p::ps,hb,q,t,h=>by
  simp [below] at hb;rcases gY.1 h with e|h
  ·rw [<-e] at hb;simp_all
  ·exact Zk hb.2 q t h
def w5:J (O (aC×Nat))->J bQ->J bQ->Bool
 | [],_,_=>true
 | none::rs,x::g0,y::g=>(Nat.beq x.aG y.aG&&(Nat.beq x.e y.e&&Nat.beq x.k y.k))&&w5 rs g0 g
 | some p::rs,x::g0,y::g=>(Nat.beq p.1 y.e&&Nat.beq p.2 y.k)&&w5 rs g0 g
 | some p::rs,[],y::g=>(Nat.beq p.1 y.e&&Nat.beq p.2 y.k)&&w5 rs [] g
 | _,_,_=>false
def dI:J (O (aC×Nat))->J bQ->J bQ
 | [],_=>[]
 | none::rs,x::g0=>x::dI rs g0
 | some p::rs,x::g0=>⟨x.aG+1,p.1,p.2⟩::dI rs g0
 | some p::rs,[]=>⟨0,p.1,p.2⟩::dI rs []
 | none::rs,[]=>⟨0,0,0⟩::dI rs []
def gr:J (O (aC×Nat))->J bQ->J (bQ×Value)->J (bQ×Value)
 | none::rs,_::g0,y::gs=>y::gr rs g0 gs
 | some _::rs,x::g0,y::gs=>({y.1 with aG:=x.aG+1},y.2)::gr rs g0 gs
 | some _::rs,[],y::gs=>({y.1 with aG:=0},y.2)::gr rs [] gs
 | _,_,_=>[]
theorem Ho:∀(rows:J (O (aC×Nat)))(g0:J bQ)(gs:J (bQ×Value)),w5 rows g0 (gs.map (·.1))=true ->
  (gr rows g0 gs).map (·.1)=dI rows g0/\(gr rows g0 gs).length=rows.length/\rows.length<=gs.length /\
  ∀(j:Nat) y,gs[j]? = some y->j<rows.length->∃y2,(gr rows g0 gs)[j]? = some y2/\y2.2=y.2/\y2.1.e=y.1.e/\y2.1.k=y.1.k/\∀x0,g0[j]? = some x0->y2.1.aG=y.1.aG\/x0.aG<y2.1.aG
 | [],g0,gs,h=>by
  simp_all [gr,dI]
 | none::rs,x::g0,y::gs,h=>by
  simp [w5] at h;obtain⟨⟨h1,h2,h3⟩,h4⟩:=h;obtain⟨i1,i2,i3,i4⟩:=Ho rs g0 gs h4
  have hxy:y.1=x:=by
   obtain⟨a',b',c'⟩:=x
   simp_all
  grind [gr,dI]
 | some p::rs,x::g0,y::gs,h=>by
  simp only [ld,w5,cw] at h;obtain⟨⟨h1,h2⟩,h4⟩:=h;obtain⟨i1,i2,i3,i4⟩:=Ho rs g0 gs h4;have e1:=eo h1;have e2:=eo h2;refine⟨by grind [gr,dI],by simp [gr,i2],by simpa using i3,fun j z hz hj=>?_⟩
  cases j with
  | zero=>simp at hz;subst hz;exact⟨_,rfl,rfl,rfl,rfl,fun x0 hx=>by simp_all⟩
  | succ j=>grind [gr]
 | some p::rs,[],y::gs,h=>by
  simp only [ld,w5,cw] at h;obtain⟨⟨h1,h2⟩,h4⟩:=h;obtain⟨i1,i2,i3,i4⟩:=Ho rs [] gs h4;have e1:=eo h1;have e2:=eo h2;refine⟨by simp [gr,dI,i1,e1,e2],by simp [gr,i2],by simpa using i3,fun j z hz hj=>?_⟩
  cases j with
  | zero=>simp at hz;subst hz;exact⟨_,rfl,rfl,rfl,rfl,fun x0 hx=>by simp at hx⟩
  | succ j=>simpa [gr] using i4 j z (by simpa using hz) (by simpa using hj)
 | none::rs,[],gs,h=>by cases gs<;>cases h
 | none::rs,_::_,[],h=>by cases h
 | some _::rs,[],[],h=>by cases h
 | some _::rs,_::_,[],h=>by cases h
def OR(n:Rn)(st:TS E):J (Nat×PT)->O (J (Lf E))
 | []=>some []
 | (i,p)::vs=>match p.get n (st.at i),OR n st vs with
  | some l,some ls=>some (l++ls)
  | _,_=>none
def nK(n:Rn)(d:J Nat)(nb:Nat):Nat->J (O BT)->J (eS E)->O (J (Lf E))
 | _,[],_=>some []
 | r,none::bs,_::H=>cond (d.elem r || !(Nat.blt r nb)) none (nK n d nb (r+1) bs H)
 | r,some t::bs,x::H=>match t.get n x,nK n d nb (r+1) bs H with
  | some l,some ls=>some (l++ls)
  | _,_=>none
 | _,_::_,[]=>none
def since(d0 d:J Nat):J Nat:=d.take (d.length-d0.length)
theorem agm(n d0:J Nat):since d0 (n++d0)=n:=by simp [since]
def Cut.leaves(c:Cut)(bJ st:TS E):Option (J (Lf E)):=
 cond (below c.rows.length c.soft&&(Nat.ble bJ.H.length c.boxes.length&&(Nat.ble bJ.g.length c.rows.length&&w5 c.rows bJ.g st.g)))
  (match OR ⟨List.range c.boxes.length,List.range c.rows.length,st.g.map (·.aG)⟩ st c.vars,nK ⟨List.range c.boxes.length,List.range c.rows.length,st.g.map (·.aG)⟩ (since bJ.d st.d) bJ.H.length 0 c.boxes st.H,Jm some st.c c.soft with
   | some a,some b,some e=>some (a++(b++e))
   | _,_,_=>none) none
def mH(W:J Nat):Nat->J (TV E)->J (TV E)
 | _,[]=>[]
 | i,d::ds=>cond (W.elem i) .any d::mH W (i+1) ds
def mc(n:Rn):J (Nat×PT)->J (TV E)->J (Lf E)->J (TV E)×J (Lf E)
 | [],t,ls=>(t,ls)
 | (i,p)::vs,t,ls=>mc n vs (t.set i (p.put n ls).1) (p.put n ls).2
def eu(n:Rn):J (Option BT)->J (eS E)->J (Lf E)->J (eS E)
 | [],_,_=>[]
 | none::bs,H,ls=>(match H with|x::_=>x | []=>default)::eu n bs H.tail ls
 | some t::bs,H,ls=>(t.put n ls).1::eu n bs H.tail (t.put n ls).2
def oC:J (O BT)->J (Lf E)->J (Lf E)
 | [],ls=>ls
 | none::bs,ls=>oC bs ls
 | some t::bs,ls=>oC bs (t.put ⟨[],[],[]⟩ ls).2
def CE:Nat->J (O BT)->J Nat
 | _,[]=>[]
 | r,none::bs=>CE (r+1) bs
 | r,some _::bs=>r::CE (r+1) bs
def Cut.unpack(c:Cut)(W:J Nat)(bJ:TS E)(ls:J (Lf E)):TS E:=
 let n:Rn:=⟨List.range c.boxes.length,List.range c.rows.length,(dI c.rows bJ.g).map (·.aG)⟩
 {t:=(mc n c.vars (mH W 0 bJ.t) ls).1
  H:=eu n c.boxes bJ.H (mc n c.vars (mH W 0 bJ.t) ls).2
  g:=dI c.rows bJ.g
  d:=CE 0 c.boxes++bJ.d
  df:=bJ.df
  c:=mu some c.soft (oC c.boxes (mc n c.vars (mH W 0 bJ.t) ls).2)}
mutual
def TV.Bd(nb:Nat)(g:J bQ):TV E->Prop
 | .ptr r _=>r<nb
 | .oY b r _=>b=true->r<nb
 | .iW r=>r<nb
 | .tn r=>r<nb
 | .gP r _ _=>r<nb
 | .ck j aG _ _=>∃x,g[j]? = some x/\aG<=x.aG
 | .PN j aG _=>∃x,g[j]? = some x/\aG<=x.aG
 | .dU j aG=>∃x,g[j]? = some x/\aG<=x.aG
 | .gU j aG _ _ _=>∃x,g[j]? = some x/\aG<=x.aG
 | .sM _ _=>True
 | .func _ caps=>TV.CF nb g caps
 | .FA _ fs=>TV.CF nb g fs
 | .iface _ d=>TV.Bd nb g d
 | .agg cs=>TV.CF nb g cs
 | .tuple ds=>TV.CF nb g ds
 | .any=>True
 | .dat _ _=>True
 | .rz _ _ _=>True
 | .val _=>True
def TV.CF(nb:Nat)(g:J bQ):J (TV E)->Prop
 | []=>True
 | d::ds=>TV.Bd nb g d/\TV.CF nb g ds
end
section
variable {w : U} {G G2 : aJ}
mutual
theorem VT.bd:∀ {d:TV E}{v:Value},VT E w G d v->TV.Bd G.i.length (G.g.map (·.1)) d
 | .any,_,_=>by simp only [TV.Bd]
 | .dat _ _,_,_=>by simp only [TV.Bd]
 | .rz _ _ _,_,_=>by simp only [TV.Bd]
 | .val _,_,_=>by simp only [TV.Bd]
 | .sM _ _,_,_=>by simp only [TV.Bd]
 | .ptr r off,v,h=>by
  simp only [VT] at h;simp only [TV.Bd];obtain⟨b,-,h⟩:=h
  exact (eG.1 h).1
 | .oY c r off,v,h=>by
  simp only [TV.Bd];intro hc;subst hc;simp only [VT] at h;obtain⟨b,-,h⟩:=h
  exact (eG.1 h).1
 | .iW r,v,h=>by
  simp only [VT] at h;simp only [TV.Bd];obtain⟨b,-,h⟩:=h
  exact (eG.1 h).1
 | .tn r,v,h=>by
  simp only [VT] at h;simp only [TV.Bd];obtain⟨b,-,h⟩:=h
  exact (eG.1 h).1
 | .gP r n cap,v,h=>by
  simp only [VT] at h;simp only [TV.Bd];obtain⟨b,-,h⟩:=h
  exact (eG.1 h).1
 | .ck j aG t xs,v,h=>by
  simp only [VT] at h;simp only [TV.Bd];obtain⟨-,x,g,hg,hle,-⟩:=h
  exact⟨x,by simp [hg],hle⟩
 | .PN j aG l,v,h=>by
  simp only [VT] at h;simp only [TV.Bd];obtain⟨x,g,u,hg,hle,-⟩:=h
  exact⟨x,by simp [hg],hle⟩
 | .dU j aG,v,h=>by
  simp only [VT] at h;simp only [TV.Bd];obtain⟨x,g,hg,hle,-⟩:=h
  exact⟨x,by simp [hg],hle⟩
 | .gU j aG k i off,v,h=>by
  simp only [VT] at h;simp only [TV.Bd];obtain⟨x,g,hg,hle,-⟩:=h
  exact⟨x,by simp [hg],hle⟩
 | .func fn caps,v,h=>by
  simp only [VT] at h;simp only [TV.Bd];obtain⟨vs,-,h⟩:=h
  exact bD.bd h
 | .FA fn fs,v,h=>by
  simp only [VT] at h;simp only [TV.Bd];obtain⟨vs,-,h⟩:=h
  exact bD.bd h
 | .iface ty d,v,h=>by
  simp only [VT] at h;simp only [TV.Bd];obtain⟨u,-,h⟩:=h
  exact VT.bd h
 | .agg cs,v,h=>by
  simp only [VT] at h;simp only [TV.Bd];obtain⟨vs,-,-,h⟩:=h
  exact bD.bd h
 | .tuple ds,v,h=>by
  simp only [VT] at h;simp only [TV.Bd];obtain⟨vs,-,h⟩:=h;exact bD.bd h
theorem bD.bd:∀ {ds:J (TV E)}{vs:J Value},bD E w G ds vs->TV.CF G.i.length (G.g.map (·.1)) ds
 | [],_,_=>by simp only [TV.CF]
 | d::ds,vs,h=>by
  simp only [bD] at h;simp only [TV.CF];obtain⟨u,us,-,h1,h2⟩:=h;exact⟨VT.bd h1,bD.bd h2⟩
end
structure Reb(G G2:aJ)(nb:Nat)(g0:List bQ):Prop where
 pr:∀b o,G.pr b o->G2.pr b o
 i:∀r b,r<nb->G.i[r]? = some b->G2.i[r]? = some b
 g:∀(j:Nat) x0 x h,g0[j]? = some x0->G.g[j]? = some (x,h)->∃x2,G2.g[j]? = some (x2,h)/\(x2.aG=x.aG\/x0.aG<x2.aG)
mutual
theorem VT.zN{nb:Nat}{g0:J bQ}(hR:Reb G G2 nb g0):∀ {d:TV E}{v:Value},VT E w G d v->TV.Bd nb g0 d->VT E w G2 d v
 | .any,_,_,_=>by simp only [VT]
 | .dat t x,v,h,_=>h.rG hR.pr
 | .rz t x off,v,h,_=>by
  simp only [VT] at h⊢;obtain⟨b,o,c,rfl,h1,h2⟩:=h
  exact⟨b,o,c,rfl,h1.mono hR.pr (fun _ _ _ _ h=>h),fun l u hl=>⟨hR.pr _ _ (h2 l u hl).1,(h2 l u hl).2⟩⟩
 | .val _,_,h,_=>by simpa only [VT] using h
 | .ptr r off,v,h,hb=>by
  simp only [VT] at h⊢;simp only [TV.Bd] at hb;obtain⟨b,rfl,h⟩:=h
  exact⟨b,rfl,hR.i r b hb h⟩
 | .oY c r off,v,h,hb=>by
  simp only [TV.Bd] at hb;cases c<;>simp only [VT] at h⊢
  ·exact h
  ·obtain⟨b,rfl,h⟩:=h
   exact⟨b,rfl,hR.i r b (hb rfl) h⟩
 | .iW r,v,h,hb=>by
  simp only [VT] at h⊢;simp only [TV.Bd] at hb;obtain⟨b,rfl,h⟩:=h
  exact⟨b,rfl,hR.i r b hb h⟩
 | .tn r,v,h,hb=>by
  simp only [VT] at h⊢;simp only [TV.Bd] at hb;obtain⟨b,rfl,h⟩:=h
  exact⟨b,rfl,hR.i r b hb h⟩
 | .gP r n cap,v,h,hb=>by
  simp only [VT] at h⊢;simp only [TV.Bd] at hb;obtain⟨b,rfl,h⟩:=h
  exact⟨b,rfl,hR.i r b hb h⟩
 | .ck j aG t xs,v,h,hb=>by
  simp only [VT] at h⊢;simp only [TV.Bd] at hb;obtain⟨zC,x,g,hg,hle,heq⟩:=h;obtain⟨x0,hx0,hle0⟩:=hb;obtain⟨x2,h2,hc⟩:=hR.g j x0 x g hx0 hg;refine⟨zC.mono hR.pr (fun _ _ _ _ h=>h),x2,g,h2,?_,fun e=>?_⟩
  ·rcases hc with hc|hc<;>omega
  ·rcases hc with hc|hc
   ·exact heq om
   ·omega
 | .PN j aG l,v,h,hb=>by
  simp only [VT] at h⊢;simp only [TV.Bd] at hb;obtain⟨x,g,u,hg,hle,zC,heq⟩:=h;obtain⟨x0,hx0,hle0⟩:=hb;obtain⟨x2,h2,hc⟩:=hR.g j x0 x g hx0 hg;refine⟨x2,g,u,h2,?_,zC.mono hR.pr (fun _ _ _ _ h=>h),fun e=>?_⟩
  ·rcases hc with hc|hc<;>omega
  ·rcases hc with hc|hc
   ·exact heq om
   ·omega
 | .dU j aG,v,h,hb=>by
  simp only [VT] at h⊢;simp only [TV.Bd] at hb;obtain⟨x,g,hg,hle,h1,heq⟩:=h;obtain⟨x0,hx0,hle0⟩:=hb;obtain⟨x2,h2,hc⟩:=hR.g j x0 x g hx0 hg;refine⟨x2,g,h2,?_,h1,fun e=>?_⟩
  ·rcases hc with hc|hc<;>omega
  ·rcases hc with hc|hc
   ·exact heq om
   ·omega
 | .gU j aG k i off,v,h,hb=>by
  simp only [VT] at h⊢;simp only [TV.Bd] at hb;obtain⟨x,g,hg,hle,h1,heq⟩:=h;obtain⟨x0,hx0,hle0⟩:=hb;obtain⟨x2,h2,hc⟩:=hR.g j x0 x g hx0 hg;refine⟨x2,g,h2,?_,h1,fun e=>?_⟩
  ·rcases hc with hc|hc<;>omega
  ·rcases hc with hc|hc
   ·exact heq om
   ·omega
 | .sM t xs,v,h,hb=>by
  simp only [VT] at h⊢;obtain⟨vs,rfl,h1,h⟩:=h
  exact⟨vs,rfl,h1,h.mono hR.pr (fun _ _ _ _ h=>h)⟩
 | .func fn caps,v,h,hb=>by
  simp only [VT] at h⊢;simp only [TV.Bd] at hb;obtain⟨vs,rfl,h⟩:=h
  exact⟨vs,rfl,bD.zN hR h hb⟩
 | .FA fn fs,v,h,hb=>by
  simp only [VT] at h⊢;simp only [TV.Bd] at hb;obtain⟨vs,rfl,h⟩:=h
  exact⟨vs,rfl,bD.zN hR h hb⟩
 | .iface ty d,v,h,hb=>by
  simp only [VT] at h⊢;simp only [TV.Bd] at hb;obtain⟨u,rfl,h⟩:=h
  exact⟨u,rfl,VT.zN hR h hb⟩
 | .agg cs,v,h,hb=>by
  simp only [VT] at h⊢;simp only [TV.Bd] at hb;obtain⟨vs,rfl,h1,h⟩:=h
  exact⟨vs,rfl,h1,bD.zN hR h hb⟩
 | .tuple ds,v,h,hb=>by
  simp only [VT] at h⊢;simp only [TV.Bd] at hb;obtain⟨vs,rfl,h⟩:=h;exact⟨vs,rfl,bD.zN hR h hb⟩
theorem bD.zN{nb:Nat}{g0:J bQ}(hR:Reb G G2 nb g0):∀ {ds:J (TV E)}{vs:J Value},bD E w G ds vs->TV.CF nb g0 ds->bD E w G2 ds vs
 | [],_,h,_=>by simp only [bD] at h⊢;exact h
 | d::ds,vs,h,hb=>by
  simp only [bD] at h⊢;simp only [TV.CF] at hb;obtain⟨u,us,rfl,h1,h2⟩:=h;exact⟨u,us,rfl,VT.zN hR h1 hb.1,bD.zN hR h2 hb.2⟩
end
def eS.Bd(nb:Nat)(g:J bQ):eS E->Prop
 | .cells _ cs=>TV.CF nb g cs
 | .loop _ cs=>TV.CF nb g cs
 | .kM _ _ _ _ d=>TV.Bd nb g d
 | _=>True
theorem jB.bd{b:Nat}{x:eS E}(h:jB E w G b x):x.Bd G.i.length (G.g.map (·.1)):=by
 cases x with
 | cells t cs=>obtain⟨vs,-,-,h⟩:=h;exact h.bd
 | loop y ds=>obtain⟨Y,fn,tmps,D,-,-,h⟩:=h;exact h.bd
 | kM e cap t xs d=>obtain⟨cur,-,-,-,h,-⟩:=h;exact h.bd
 | _=>trivial
theorem jB.zN{nb:Nat}{g0:J bQ}(hR:Reb G G2 nb g0){b:Nat}{x:eS E}(h:jB E w G b x)(hb:x.Bd nb g0):jB E w G2 b x:=by
 cases x with
 | cells t cs=>obtain⟨vs,h1,h2,h3⟩:=h;exact⟨vs,h1,h2,bD.zN hR h3 hb⟩
 | iter s pos=>exact h
 | map kt vt m=>obtain⟨es,clock,h1,h2,h3⟩:=h;exact⟨es,clock,h1,h2,h3.pr hR.pr⟩
 | loop y ds=>obtain⟨Y,fn,tmps,D,h0,h1,h2⟩:=h;exact⟨Y,fn,tmps,D,h0,h1,bD.zN hR h2 hb⟩
 | kM e cap t xs d=>obtain⟨cur,h1,h2,h4,h5,h6⟩:=h;exact⟨cur,h1,h2,fun i x hx=>(h4 i x hx).rG hR.pr,VT.zN hR h5 hb,h6⟩
 | gone=>exact h
 | PO=>exact h
def DBd(nb:Nat)(g:J bQ):J (FuncId×J (TV E))->Prop
 | []=>True
 | x::xs=>TV.CF nb g x.2/\DBd nb g xs
theorem jP.bd:∀ {ds:J Deferred}{xs:J (FuncId×J (TV E))},jP E w G ds xs->DBd G.i.length (G.g.map (·.1)) xs
 | [],[],_=>trivial
 | _::_,_::_,h=>⟨by rcases h.1 with⟨-,cap,-,h2⟩|⟨-,b,-,h2⟩<;>exact h2.bd,jP.bd h.2⟩
 | [],_::_,h=>h.elim
 | _::_,[],h=>h.elim
theorem jP.zN{nb:Nat}{g0:J bQ}(hR:Reb G G2 nb g0):∀ {ds:J Deferred}{xs:J (FuncId×J (TV E))},jP E w G ds xs->DBd nb g0 xs->jP E w G2 ds xs
 | [],[],_,_=>trivial
 | _::_,_::_,h,hb=>⟨h.1.imp (fun⟨h0,cap,h1,h2⟩=>⟨h0,cap,h1,bD.zN hR h2 hb.1⟩) fun⟨h0,b,h1,h2⟩=>⟨h0,b,h1,bD.zN hR h2 hb.1⟩,jP.zN hR h.2 hb.2⟩
 | [],_::_,h,_=>h.elim
 | _::_,[],h,_=>h.elim
end
structure Pre(G0:aJ)(st:TS E):Prop where
 nb:G0.i.length<=st.H.length
 rows:∀(j:Nat) x0 h0,G0.g[j]? = some (x0,h0)->∃x,st.g[j]? = some x/\x0.aG<=x.aG
 slots:∀(i:Nat) d,st.t[i]? = some d->d.Bd st.H.length st.g
 boxes:∀(r:Nat) x,st.H[r]? = some x->x.Bd st.H.length st.g
 defs:DBd st.H.length st.g st.df
section
variable {w0 w : U} {G0 G : aJ} {bJ st : TS E} {a : Act}
theorem gZ.len{w1 w2:U}{G1 G2:aJ}(h:gZ w1 G1 w2 G2):G1.i.length<=G2.i.length:=by
 by_cases h0:G1.i.length=0
 ·omega
 ·have hl:G1.i.length-1<G1.i.length:=om
  have:=(eG.1 (h.i _ _ (ff hl))).1;omega
theorem Rel.pre(h:Rel E w0 G0 st a w G):Pre G0 st:=by
 have hl:=h.boxes.len;have hg:=h.boxes.gs;refine⟨by rw [<-hl];exact h.eL.goes.len,fun j x0 h0 hj=>?_,fun i d hi=>?_,fun r x hr=>?_,?_⟩
 ·obtain⟨x',h',h1,h2,-⟩:=h.eL.goes.g j x0 h0 hj
  grind
 ·have:=(h.tmps i d hi).bd
  simp_all
 ·have hlt:r<G.i.length:=by grind
  have:=(h.boxes.box r _ x (ff hlt) hr).bd
  simp_all
 ·have:=h.defers.bd
  simp_all
theorem FF(W:J Nat):∀(i:Nat)(l:J (TV E)),(mH W i l).length=l.length
 | _,[]=>rfl
 | i,d::ds=>by simp_all [mH,FF]
theorem V4(W:J Nat):∀(i:Nat)(l:J (TV E))(j:Nat)(d:TV E),(mH W i l)[j]? = some d->d=.any\/((i+j)∉W/\l[j]? = some d)
 | _,[],j,d,h=>by simp [mH] at h
 | i,x::ds,0,d,h=>by
  simp [mH] at h
  grind
 | i,x::ds,j+1,d,h=>by
  have:=V4 W (i+1) ds j d (by simpa [mH] using h)
  grind
theorem V5(hE:E.Ok){G2:aJ}{n n2:Rn}(hL:BC w G n G2 n2)(ha:∀i,VT E w G (st.at i) (a.tmps.getD i undef)):∀(vs:J (Nat×PT))(t:J (TV E))(ls rest:J (Lf E)),OR n st vs=some ls ->
  (∀(j:Nat) d,t[j]? = some d->VT E w G2 d (a.tmps.getD j undef)) ->
  (mc n2 vs t (ls++rest)).2=rest/\(mc n2 vs t (ls++rest)).1.length=t.length/\∀(j:Nat) d,(mc n2 vs t (ls++rest)).1[j]? = some d->VT E w G2 d (a.tmps.getD j undef)
 | [],t,ls,rest,h,ht=>by cases h;exact⟨rfl,rfl,ht⟩
 | (i,p)::vs,t,ls,rest,h,ht=>by
  simp [OR] at h;split at h<;>try trivial
  rename_i l ls' h1 h2;cases h;obtain⟨e1,e2⟩:=PT.sound hE hL (rest:=ls'++rest) h1 (ha i);simp [mc]
  obtain⟨q1,q2,q3⟩:=V5 hE hL ha vs (t.set i (p.put n2 (l++(ls'++rest))).1) ls' rest h2 (fun j d hj=>by
   grind)
  simp_all
theorem BT.Zl{n n2:Rn}:∀(t:BT)(x:eS E)(l rest:J (Lf E)),t.get n x=some l->(t.put n2 (l++rest)).2=rest:=by
 have aqe:∀(c:CT)(d:TV E)(l rest:J (Lf E)),c.get n d=some l->(c.put n2 (l++rest)).2=rest:=by
  intro c d l rest h;unfold CT.get at h;simp only [Bool.cond_eq_ite] at h
  (repeat' split at h)<;>first|trivial|(cases h;rfl)
 have amx:∀(cs:J CT)(ds:J (TV E))(l rest:J (Lf E)),CT.Iq n cs ds=some l->(CT.og n2 cs (l++rest)).2=rest:=by
  intro cs
  induction cs with
  | nil=>intro ds l rest h;cases ds<;>cases h;rfl
  | cons c cs ih=>
   intro ds l rest h;unfold CT.Iq at h
   grind [CT.og,CT.Kq,List.append_assoc]
 intro t x l rest h;unfold BT.get at h;split at h<;>try trivial
 ·rename_i ty cs ty' ds
  cases hb:Nat.beq ty ty'<;>rw [hb] at h<;>simp only [bf,aO] at h
  ·cases h
  exact amx cs ds l rest h
 ·split at h<;>cases h;rfl
 ·cases h;rfl
 ·rename_i y cs y' ds
  cases hb:Nat.beq y y'<;>rw [hb] at h<;>simp only [bf,aO] at h
  ·cases h
  exact amx cs ds l rest h
theorem FG{n:Rn}{D:J Nat}{nb:Nat}:∀(bs:J (O BT))(r:Nat)(H:J (eS E))(ls rest:J (Lf E)),nK n D nb r bs H=some ls->oC bs (ls++rest)=rest
 | [],r,H,ls,rest,h=>by cases h;rfl
 | none::bs,r,x::H,ls,rest,h=>by
  simp only [nK] at h;cases hc:(D.elem r || !(Nat.blt r nb))<;>rw [hc] at h<;>simp only [bf,aO] at h
  ·exact FG bs (r+1) H ls rest h
  ·cases h
 | some t::bs,r,x::H,ls,rest,h=>by
  simp [nK] at h;split at h<;>try trivial
  rename_i l ls' h1 h2;cases h;simp [oC];rw [BT.Zl t x l (ls'++rest) h1]
  exact FG bs (r+1) H ls' rest h2
 | none::bs,r,[],ls,rest,h=>by cases h
 | some _::bs,r,[],ls,rest,h=>by cases h
theorem Ir(hE:E.Ok){G2:aJ}{n n2:Rn}(hL:BC w G n G2 n2){D:J Nat}{nb:Nat}:∀(bs:J (O BT))(r:Nat)(H H0:J (eS E))(is:J Nat)(ls rest:J (Lf E)),nK n D nb r bs H=some ls ->
  (∀(q b:Nat) x,is[q]? = some b->H[q]? = some x->jB E w G b x)->(∀(q b:Nat) x,is[q]? = some b->r+q<nb->r+q∉D->H0[q]? = some x->jB E w G2 b x)->nb<=r+H0.length ->
  (eu n2 bs H0 (ls++rest)).length=bs.length/\bs.length<=H.length/\∀(q b:Nat) x,is[q]? = some b->(eu n2 bs H0 (ls++rest))[q]? = some x->jB E w G2 b x
 | [],r,H,H0,is,ls,rest,h,hb,h0,hn=>by
  simp [eu]
 | none::bs,r,x::H,H0,is,ls,rest,h,hb,h0,hn=>by
  simp only [nK] at h;cases hc:(D.elem r || !(Nat.blt r nb))<;>rw [hc] at h<;>simp only [bf,aO] at h
  ·rw [Rx] at hc
   have hlt:r<nb:=by simpa using hc.2
   obtain⟨y,H0',rfl⟩:∃y H0',H0=y::H0':=by
    cases H0 with
    | nil=>simp at hn;omega
    | cons y H0'=>exact⟨y,H0',rfl⟩
   obtain⟨q1,q2,q3⟩:=Ir hE hL bs (r+1) H H0' is.tail ls rest h (fun q b z hq hz=>hb (q+1) b z (by cases is<;>simp_all) (by simpa using hz))
    (fun q b z hq h1 h2 hz=>h0 (q+1) b z (by cases is<;>simp_all) om (by grind) (by simpa using hz)) (by simp at hn;omega)
   grind [eu]
  ·cases h
 | some t::bs,r,x::H,H0,is,ls,rest,h,hb,h0,hn=>by
  simp [nK] at h;split at h<;>try trivial
  rename_i l ls' h1 h2;cases h;have hkey:∀b,is[0]? = some b->(t.put n2 (l++(ls'++rest))).2=ls'++rest/\jB E w G2 b (t.put n2 (l++(ls'++rest))).1:=fun b hb0=>BT.sound hE hL h1 (hb 0 b x hb0 si)
  have eU:(t.put n2 (l++(ls'++rest))).2=ls'++rest:=by
   grind [BT.Zl]
  obtain⟨q1,q2,q3⟩:=Ir hE hL bs (r+1) H H0.tail is.tail ls' rest h2 (fun q b z hq hz=>hb (q+1) b z (by cases is<;>simp_all) (by simpa using hz))
   (fun q b z hq h1 h2 hz=>h0 (q+1) b z (by cases is<;>simp_all) om (by grind) (by cases H0<;>simp_all)) (by grind)
  refine⟨by simp_all [eu,Fo,C8],by simpa using q2,fun q b z hq hz=>?_⟩
  cases q with
  | zero=>
   simp_all [eu,Fo,List.getElem?_cons_zero,ac0]
  | succ q=>
   grind [eu,List.append_assoc,List.getElem?_cons_succ]
 | none::bs,r,[],H0,is,ls,rest,h,hb,h0,hn=>by cases h
 | some _::bs,r,[],H0,is,ls,rest,h,hb,h0,hn=>by cases h
theorem Dk{n:Rn}{D:J Nat}{nb:Nat}:∀(bs:J (O BT))(r:Nat)(H:J (eS E))(ls:J (Lf E)),nK n D nb r bs H=some ls->∀q,q<bs.length->r+q∉CE r bs->r+q∉D
 | [],r,H,ls,_,q,hq,_=>by simp at hq
 | none::bs,r,x::H,ls,h,q,hq,hc=>by
  simp only [nK] at h;cases hb:(D.elem r || !(Nat.blt r nb))<;>rw [hb] at h<;>simp only [bf,aO] at h
  ·cases q with
   | zero=>simp_all
   | succ q=>
    have:=Dk bs (r+1) H ls h q (by simpa using hq) (by rw [show r+1+q=r+(q+1) by omega];exact hc)
    grind
  ·cases h
 | some t::bs,r,x::H,ls,h,q,hq,hc=>by
  simp [nK] at h;split at h<;>try trivial
  rename_i l ls' h1 h2
  cases q with
  | zero=>exact (hc (by simp [CE])).elim
  | succ q=>
   have:=Dk bs (r+1) H ls' h2 q (by simpa using hq) (by rw [show r+1+q=r+(q+1) by omega];exact fun hm=>hc (by simp [CE,hm]));rw [show r+1+q=r+(q+1) by omega] at this
   exact this
 | none::bs,r,[],ls,h,_,_,_=>by cases h
 | some _::bs,r,[],ls,h,_,_,_=>by cases h
end
end Go.RT
namespace Go.RT
variable {E : TEnv}
section
variable {w0 w : U} {G0 G : aJ} {bJ st : TS E} {a : Act}
theorem V6{n r r':Nat}(h:(List.range n)[r]? = some r'):r'=r/\r<n:=by
 grind
theorem Rel.at(h:Rel E w0 G0 st a w G)(i:Nat):VT E w G (st.at i) (a.tmps.getD i undef):=h.ev (.tmp i)
theorem Rel.cut(hE:E.Ok){c:Cut}{W:J Nat}{ls:J (Lf E)}(hp:Pre G0 bJ)(hr:Rel E w0 G0 st a w G)(ht:st.t.length=bJ.t.length)(hk:∀i,i∉W->st.t[i]? = bJ.t[i]?)
  {D:J Nat} (hD:st.d=D++bJ.d) (hH:∀r,r<bJ.H.length->r∉D->st.H[r]? = bJ.H[r]?) (hdf:st.df=bJ.df) (h:c.leaves bJ st=some ls) :
  ∃G2,Rel E w0 G0 (c.unpack W bJ ls) a w G2/\BC w G ⟨List.range c.boxes.length,List.range c.rows.length,st.g.map (·.aG)⟩ G2 ⟨List.range c.boxes.length,List.range c.rows.length,(dI c.rows bJ.g).map (·.aG)⟩:=by
 unfold Cut.leaves at h;cases hc:(below c.rows.length c.soft&&(Nat.ble bJ.H.length c.boxes.length&&(Nat.ble bJ.g.length c.rows.length&&w5 c.rows bJ.g st.g)))<;>rw [hc] at h<;>simp only [bf,aO] at h
 ·cases h
 simp only [cw] at hc;obtain⟨AL,wO,hg1,hro⟩:=hc;have wO:=kZ wO;have hg1:=kZ hg1;rw [hD,agm] at h;split at h<;>try (cases h;done)
 rename_i la lb le hla hlb hle;cases h;have Zm:=hr.boxes.gs;rw [<-Zm] at hro;obtain⟨n1,n2,n3,n4⟩:=Ho c.rows bJ.g G.g hro
 let G2:aJ:=⟨G.i.take c.boxes.length,gr c.rows bJ.g G.g,G.pr⟩
 have hlen:=hr.boxes.len
 have XX:∀(j:Nat) y2,(gr c.rows bJ.g G.g)[j]? = some y2->∃y,G.g[j]? = some y/\y2.2=y.2/\y2.1.e=y.1.e/\y2.1.k=y.1.k/\∀x0,bJ.g[j]? = some x0->y2.1.aG=y.1.aG\/x0.aG<y2.1.aG:=by
  grind
 have aie:Reb G G2 bJ.H.length bJ.g:=by
  refine⟨fun _ _ h=>h,fun r b hr' hb=>?_,fun j x0 x hd hx0 hj=>?_⟩
  ·grind
  grind
 have El:BC w G ⟨List.range c.boxes.length,List.range c.rows.length,st.g.map (·.aG)⟩ G2 ⟨List.range c.boxes.length,List.range c.rows.length,(dI c.rows bJ.g).map (·.aG)⟩:=by
  refine⟨fun _ _ h=>h,fun r r' b h1 h2=>?_,fun j j' v x hd h1 h2 h3=>?_⟩
  ·grind
  grind
 have amy:∀(j:Nat) d,(mH W 0 bJ.t)[j]? = some d->VT E w G2 d (a.tmps.getD j undef):=by
  intro j d hj;rcases V4 W 0 bJ.t j d hj with rfl|⟨hnw,hj'⟩
  ·simp only [VT]
  ·rw [pP] at hnw
   have:=hr.tmps j d (by rw [hk j hnw];exact hj');exact VT.zN aie this (hp.slots j d hj')
 obtain⟨p1,p2,p3⟩:=V5 hE El hr.at c.vars (mH W 0 bJ.t) la (lb++le) hla amy
 obtain⟨q1,q2,q3⟩:=Ir hE El c.boxes 0 st.H bJ.H G.i lb le hlb (fun q b x hq hx=>hr.boxes.box q b x hq hx) (fun q b x hq h1 h2 hx=>by
  rw [pP] at h1 h2;have hx':st.H[q]? = some x:=by rw [hH q h1 h2];exact hx
  exact jB.zN aie (hr.boxes.box q b x hq hx') (hp.boxes q x hx)) si
 have ev:=hr.eL
 have hG0:∀(r b:Nat),(G.i.take c.boxes.length)[r]? = some b->G.i[r]? = some b:=fun r b hb=>by
  grind
 have hmem:∀b,b∈G.i.take c.boxes.length->b∈G.i:=fun b hb=>adg hb;refine⟨G2,⟨⟨ev.os,ev.tape,ev.output,ev.size,ev.old,⟨ev.goes.pr,ev.goes.cells,fun r b hb=>?_,fun j x0 hd hj=>?_⟩,ev.nh,fun r b h1 h2=>ev.pU r b h1 (hG0 r b h2),fun j x hd b hj hb=>?_⟩,?_,?_,?_,?_,fun r b hb hd=>?_,hr.pins,?_⟩,El⟩
 ·have hlt:=(eG.1 hb).1
  have:=hp.nb;rw [Xr,if_pos om];exact ev.goes.i r b hb
 ·obtain⟨x',hd',h1,h2,h3⟩:=ev.goes.g j x0 hd hj
  obtain⟨xp,hxp,hle⟩:=hp.rows j x0 hd hj
  grind
 ·obtain⟨y,hy,e1,-⟩:=XX j (x,hd) hj
  simp only at e1;subst e1;exact ev.gr j y.1 y.2 b hy hb
 ·show a.tmps.size=((mc _ c.vars (mH W 0 bJ.t) (la++(lb++le))).1).length
  rw [p2,FF,<-ht];exact hr.size
 ·exact p3
 ·show jP E w G2 a.defers bJ.df
  rw [<-hdf];exact jP.zN aie hr.defers (by rw [hdf];exact hp.defs)
 ·refine⟨?_,n1,fun r b x hb hx=>?_,fun b hb=>hr.boxes.lt b (hmem b hb),(List.take_sublist _ _).nodup hr.boxes.nodup,fun b o rF=>⟨(hr.boxes.fQ b o rF).1,fun hm=>(hr.boxes.fQ b o rF).2 (hmem b hm)⟩,fun j x hd hj=>?_,
   fun j j' x hd x' hd' b hj hj' hb hb'=>?_⟩
  ·show (G.i.take c.boxes.length).length=(eu _ c.boxes bJ.H (mc _ c.vars (mH W 0 bJ.t) (la++(lb++le))).2).length
   simp_all
  ·have hx:(eu _ c.boxes bJ.H (mc _ c.vars (mH W 0 bJ.t) (la++(lb++le))).2)[r]? = some x:=hx
   grind
  ·obtain⟨y,hy,e1,e2,e3,-⟩:=XX j (x,hd) hj
   subst e1;obtain⟨n,xs,g1,g2,g3⟩:=hr.boxes.grow j y.1 y.2 hy;refine⟨n,xs,by rw [e2,e3];exact g1,fun a m h=>by rw [e2];exact g2 a m h,fun b hb=>?_⟩
   grind
  ·obtain⟨y,hy,e1,-⟩:=XX j (x,hd) hj
   obtain⟨y',hy',YY,-⟩:=XX j' (x',hd') hj';subst e1;subst YY;exact hr.boxes.apart j j' y.1 y.2 y'.1 y'.2 b hy hy' hb hb'
 ·refine hr.fix r b hb ?_
  have hd:r∉CE 0 c.boxes++bJ.d:=hd;rw [uw,not_or] at hd;rw [hD,uw,not_or];refine⟨?_,hd.2⟩;have hlt:=(eG.1 hb).1;have:=hp.nb;have:=Dk c.boxes 0 st.H lb hlb r om (by simp_all)
  simp_all
 ·intro j c0 hm
  have hm:(j,c0)∈mu some c.soft (oC c.boxes (mc _ c.vars (mH W 0 bJ.t) (la++(lb++le))).2):=hm;rw [p1,FG c.boxes 0 st.H lb le hlb] at hm;obtain⟨q,j',⟨t,ht⟩,e1,e2,e3⟩:=B9 (f:=some) (f2:=some) (rest:=[]) hle (by rw [adp];exact hm);cases e1;cases e2;have sg:=Zk AL j t ht;obtain⟨x,hd,h1,h2⟩:=hr.fR j c0 e3;obtain⟨y2,hy,f1,f2,f3,-⟩:=n4 j (x,hd) h1 sg;refine⟨y2.1,hd,?_,h2.keep f2 f3 (fun _ _ h=>h) (fun _ _ _ _ h=>h) (fun b _=>⟨rfl,fun _ h=>h⟩)⟩
  grind
end
end Go.RT
namespace Go.RT
variable {E : TEnv}
def jQ(P:aE)(f:FuncId)(args:aI Value)(w:U)(R:Ending->U->Prop):Prop:=
 match (callFunc f args).run P w with
 | .ok (.enter f' args') w'=>Calls P f' args' w' R
 | .ok (.value v) w'=>R (.returned v) w'
 | _=>False
def Ca(ok:Bool)(v:Value):Ending:=cond ok (.returned v) (.panicked [{v:=v,recovered:=false}])
structure Zn(E:TEnv) where
 ok:Bool
 d:TV E
 H:List (eS E)
 g:List bQ
 D:List Nat
 c:List (Nat×Cn E)
def kN(P:aE)(f:FuncId)(ds:J (TV E))(H:J (eS E))(gs:J bQ)(cs:J (Nat×Cn E))(r:Zn E):Prop:=
 ∀(w:U)(G:aJ)(args:aI Value),oR E w G->kV E w G H gs->j8 E w G cs->bD E w G ds args.toList->jQ P f args w fun e w'=>
  ∃v G',e=Ca r.ok v/\kn w G w' G'/\kV E w' G' r.H r.g/\j8 E w' G' r.c/\VT E w' G' r.d v/\∀(q b:Nat),G.i[q]? = some b->q∉r.D->w'.heap[b]? = w.heap[b]?
structure Outs where
 res:PT
 boxes:List (Option BT)
 rows:List (Option (TypeId×Nat))
 soft:List (Nat×Ty)
def Outs.tys(o:Outs):J Ty:=o.res.tys++(Kr o.boxes++OQ o.soft)
structure cN where
 f:FuncId
 args:List PT
 boxes:List BT
 rows:List (TypeId×Nat)
 out:Outs
 kS:Option Outs
 soft:List (Nat×Ty)
def agn:J PT->J Ty
 | []=>[]
 | p::ps=>p.tys++agn ps
def ago:J BT->J Ty
 | []=>[]
 | b::bs=>b.tys++ago bs
def cN.tys(s:cN):J Ty:=agn s.args++(ago s.boxes++OQ s.soft)
@[reducible] def OutP (E : TEnv) (o : Outs) : O Outs -> Type
 | none=>dens E o.tys
 | some q=>dens E o.tys ⊕ dens E q.tys
structure bB(E:TEnv) where
 s:cN
 m:dens E s.tys->Option (OutP E s.out s.kS)
def SB(n:Rn):J PT->J (TV E)->O (J (Lf E))
 | [],[]=>some []
 | p::ps,d::ds=>match p.get n d,SB n ps ds with
  | some l,some ls=>some (l++ls)
  | _,_=>none
 | _,_=>none
def zO(n:Rn):J PT->J (Lf E)->J (TV E)×J (Lf E)
 | [],ls=>([],ls)
 | p::ps,ls=>((p.put n ls).1::(zO n ps (p.put n ls).2).1,(zO n ps (p.put n ls).2).2)
def SC(n:Rn):J BT->J (eS E)->O (J (Lf E))
 | [],[]=>some []
 | t::ts,x::xs=>match t.get n x,SC n ts xs with
  | some l,some ls=>some (l++ls)
  | _,_=>none
 | _,_=>none
def w6(n:Rn):J BT->J (Lf E)->J (eS E)×J (Lf E)
 | [],ls=>([],ls)
 | t::ts,ls=>((t.put n ls).1::(w6 n ts (t.put n ls).2).1,(w6 n ts (t.put n ls).2).2)
def cN.g0(s:cN):J bQ:=s.rows.map fun p=>⟨0,p.1,p.2⟩
def cN.n0(s:cN):Rn:=⟨List.range s.boxes.length,List.range s.rows.length,s.g0.map (·.aG)⟩
def cN.ds(s:cN)(ls:J (Lf E)):J (TV E):=(zO s.n0 s.args ls).1
def cN.H(s:cN)(ls:J (Lf E)):J (eS E):=(w6 s.n0 s.boxes (zO s.n0 s.args ls).2).1
def cN.c(s:cN)(ls:J (Lf E)):J (Nat×Cn E):=mu some s.soft (w6 s.n0 s.boxes (zO s.n0 s.args ls).2).2
def Outs.n1(o:Outs)(g:J bQ):Rn:=⟨List.range o.boxes.length,List.range o.rows.length,(dI o.rows g).map (·.aG)⟩
def Outs.lU(o:Outs)(ok:Bool)(H0:J (eS E))(g:J bQ)(ls:J (Lf E)):Zn E:=
 ⟨ok,(o.res.put (o.n1 g) ls).1,eu (o.n1 g) o.boxes H0 (o.res.put (o.n1 g) ls).2,dI o.rows g,CE 0 o.boxes,mu some o.soft (oC o.boxes (o.res.put (o.n1 g) ls).2)⟩
def jR(s:cN)(H0:J (eS E)):(p:O Outs)->OutP E s.out p->Zn E
 | none,y=>s.out.lU true H0 s.g0 (aR s.out.tys y)
 | some _,.inl y=>s.out.lU true H0 s.g0 (aR s.out.tys y)
 | some q,.inr y=>q.lU false H0 s.g0 (aR q.tys y)
def bB.Ok(P:aE)(C:bB E):Prop:=
 ∀x y,C.m x=some y->kN P C.s.f (C.s.ds (aR C.s.tys x)) (C.s.H (aR C.s.tys x)) C.s.g0 (C.s.c (aR C.s.tys x)) (jR C.s (C.s.H (aR C.s.tys x)) C.s.kS y)
structure Ks(w:World)(G:aJ)(n:Rn)(G2:aJ)(n2:Rn):Prop extends BC w G n G2 n2 where
 lb:n2.b.length<=n.b.length
 lg:n2.g.length<=n.g.length
 lv:n2.v.length<=n.v.length
theorem CT.yq(n n2:Rn)(c:CT)(ls:J (Lf E)):(c.put n ls).2=(c.put n2 ls).2:=by
 cases c<;>cases ls<;>first|rfl|(rename_i l;cases l<;>rfl)
theorem CT.yP(n n2:Rn):∀(cs:J CT)(ls:J (Lf E)),(CT.og n cs ls).2=(CT.og n2 cs ls).2
 | [],ls=>rfl
 | c::cs,ls=>by
  unfold CT.og;split
  ·exact CT.yP n n2 cs _
  ·rw [CT.yq n n2 c ls]
   exact CT.yP n n2 cs _
theorem PT.yq(n n2:Rn)(p:PT)(ls:J (Lf E)):(p.put n ls).2=(p.put n2 ls).2:=by
 cases p with
 | one c=>exact CT.yq n n2 c ls
 | agg cs=>exact CT.yP n n2 cs ls
 | dc cs=>exact CT.yP n n2 cs ls
theorem BT.yq(n n2:Rn)(t:BT)(ls:J (Lf E)):(t.put n ls).2=(t.put n2 ls).2:=by
 cases t with
 | cells ty cs=>exact CT.yP n n2 cs ls
 | loop y cs=>exact CT.yP n n2 cs ls
 | map kt vt=>cases ls<;>rfl
 | iter=>cases ls with|nil=>rfl|cons l ls=>cases ls<;>rfl
section
variable {w : U} {G G2 : aJ} {n n2 : Rn}
theorem getElem?_none_of{α β:Type}{l:J α}{m:J β}{r:Nat}(h:l[r]? = none)(hl:m.length<=l.length):m[r]? = none:=by
 grind
theorem V7(hL:Ks w G n G2 n2):∀(caps:J (Nat×Nat)){vs:J Value},bD E w G (Fc n caps:J (TV E)) vs->bD E w G2 (Fc n2 caps:J (TV E)) vs
 | [],vs,h=>by simp_all [Fc,bD]
 | (r,off)::caps,vs,h=>by
  obtain⟨u,us,rfl,h1,h2⟩:=h.cons_inv;refine .cons ?_ (V7 hL caps h2)
  cases hr:n.b[r]? with
  | none=>rw [getElem?_none_of hr hL.lb];simp [VT]
  | some r'=>
   rw [hr] at h1;obtain⟨b,rfl,hb⟩:=h1;obtain⟨r2,hr2,oV⟩:=hL.i r r' b hr hb;rw [hr2];exact⟨b,rfl,oV⟩
theorem CT.move(hL:Ks w G n G2 n2)(c:CT)(ls:J (Lf E)){v:Value}(h:VT E w G (c.put n ls).1 v):VT E w G2 (c.put n2 ls).1 v:=by
 cases c with
 | dat t=>cases ls with
  | nil=>simp [CT.put,VT]
  | cons l ls=>exact VT.rG h hL.pr
 | any=>simp [CT.put,VT]
 | pk t=>simp [CT.put,VT]
 | ptr r off=>
  simp [CT.put] at h⊢
  cases hr:n.b[r]? with
  | none=>rw [getElem?_none_of hr hL.lb];simp [VT]
  | some r'=>
   rw [hr] at h;obtain⟨b,rfl,hb⟩:=h;obtain⟨r2,hr2,oV⟩:=hL.i r r' b hr hb
   simp_all [VT]
 | oY r off=>
  cases ls with
  | nil=>simp [CT.put,VT]
  | cons l ls=>
   simp [CT.put] at h⊢
   cases hr:n.b[r]? with
   | none=>rw [getElem?_none_of hr hL.lb];simp [VT]
   | some r'=>
    rw [hr] at h;obtain⟨t,x⟩:=l
    cases hn:n2.b[r]? with
    | none=>simp [VT]
    | some r2'=>
     cases t<;>try (simp [VT];done)
     cases x<;>simp [VT] at h⊢
     ·exact h
     ·obtain⟨b,rfl,hb⟩:=h
      obtain⟨r2,hr2,oV⟩:=hL.i r r' b hr hb
      simp_all
 | iW r=>
  simp [CT.put] at h⊢
  cases hr:n.b[r]? with
  | none=>rw [getElem?_none_of hr hL.lb];simp [VT]
  | some r'=>
   rw [hr] at h;obtain⟨b,rfl,hb⟩:=h;obtain⟨r2,hr2,oV⟩:=hL.i r r' b hr hb
   simp_all [VT]
 | tn r=>
  simp [CT.put] at h⊢
  cases hr:n.b[r]? with
  | none=>rw [getElem?_none_of hr hL.lb];simp [VT]
  | some r'=>
   rw [hr] at h;obtain⟨b,rfl,hb⟩:=h;obtain⟨r2,hr2,oV⟩:=hL.i r r' b hr hb
   simp_all [VT]
 | ck j t=>
  cases ls with
  | nil=>simp [CT.put,VT]
  | cons l ls=>
   simp [CT.put] at h⊢
   cases hj:n.g[j]? with
   | none=>rw [getElem?_none_of hj hL.lg];simp [VT]
   | some j'=>
    cases CD:n.v[j]? with
    | none=>
     rw [getElem?_none_of CD hL.lv]
     simp_all [VT]
    | some vv=>
     rw [hj,CD] at h;obtain⟨t',x⟩:=l
     cases t' with
     | aZ t'=>
      obtain⟨zC,x1,h1,hg,hle,heq⟩:=h;obtain⟨Sz,j2,v2,x2,q1,q2,q3,q4⟩:=hL.g j j' vv x1 h1 hj CD hg;rw [q1,q2]
      exact⟨zC.mono hL.pr (fun _ _ _ _ h=>h),x2,h1,q3,om,fun _=>heq Sz.symm⟩
     | _=>simp_all [VT]
 | func f caps=>
  simp [CT.put,VT] at h⊢
  grind [V7]
 | dU j=>
  simp [CT.put] at h⊢
  cases hj:n.g[j]? with
  | none=>rw [getElem?_none_of hj hL.lg];simp [VT]
  | some j'=>
   cases CD:n.v[j]? with
   | none=>
    rw [getElem?_none_of CD hL.lv]
    simp_all [VT]
   | some vv=>
    rw [hj,CD] at h;obtain⟨x1,h1,hg,hle,h2,heq⟩:=h;obtain⟨Sz,j2,v2,x2,q1,q2,q3,q4⟩:=hL.g j j' vv x1 h1 hj CD hg
    grind [VT]
 | gU j k=>
  simp [CT.put] at h⊢
  cases hj:n.g[j]? with
  | none=>rw [getElem?_none_of hj hL.lg];simp [VT]
  | some j'=>
   cases CD:n.v[j]? with
   | none=>
    rw [getElem?_none_of CD hL.lv]
    simp_all [VT]
   | some vv=>
    rw [hj,CD] at h;obtain⟨x1,h1,hg,hle,h2,heq⟩:=h;obtain⟨Sz,j2,v2,x2,q1,q2,q3,q4⟩:=hL.g j j' vv x1 h1 hj CD hg
    grind [VT]
 | sM t=>cases ls with
  | nil=>simp [CT.put,VT]
  | cons l ls=>
   obtain⟨t',x⟩:=l
   cases t' with
   | aZ t'=>
    obtain⟨vs,rfl,h1,h⟩:=h
    exact⟨vs,rfl,h1,h.mono hL.pr (fun _ _ _ _ h=>h)⟩
   | _=>simp [CT.put,VT]
 | nil k=>simp_all [CT.put,VT]
 | lb b=>rw [VT.lC h];exact .bool _ _ _
 | li k n=>rw [VT.fh h];exact .int _ _ _ _
 | rz t off=>cases ls with
  | nil=>simp [CT.put,VT]
  | cons l ls=>
   obtain⟨b,o,c,rfl,h1,h2⟩:=h
   exact⟨b,o,c,rfl,h1.mono hL.pr (fun _ _ _ _ h=>h),fun l u hl=>⟨hL.pr _ _ (h2 l u hl).1,(h2 l u hl).2⟩⟩
 | iface ty t=>cases ls with
  | nil=>simp [CT.put,VT]
  | cons l ls=>
   obtain⟨u,rfl,h⟩:=h;exact⟨u,rfl,VT.rG h hL.pr⟩
theorem bD.V8{w:U}{G:aJ}:∀ {ds es:J (TV E)}{vs:J Value},bD E w G (ds++es) vs->∃us ts,vs=us++ts/\bD E w G ds us/\bD E w G es ts
 | [],_,vs,h=>⟨[],vs,rfl,bD.nil,h⟩
 | _::_,_,_,h=>by
  obtain⟨u,us,rfl,h1,h2⟩:=bD.cons_inv h;obtain⟨us',ts,rfl,h3,h4⟩:=bD.V8 h2;exact⟨u::us',ts,rfl,.cons h1 h3,h4⟩
theorem V9{f:(i:Nat)->E.D i->O (J (TV E))}(hf:∀i x cs,f i x=some cs->∀d∈cs,∃t y,d=TV.dat t y):∀(t:Ty)(x:t.den E.D)(cs:J (TV E)),zF E f t x=some cs->∀d∈cs,∃t y,d=TV.dat t y:=by
 intro t
 induction t with
 | int k=>intro x cs h d hd;cases h;simp_all
 | bool=>intro x cs h d hd;cases h;simp_all
 | str=>intro x cs h d hd;cases h;simp_all
 | aZ t _=>intro x cs h d hd;cases h;simp_all
 | unit=>intro x cs h d hd;cases h;cases hd
 | ext i=>intro x cs h;exact hf i x cs h
 | pair a b DK DL=>
  intro x cs h d hd;simp [zF] at h
  cases e1:zF E f a x.1 with
  | none=>rw [e1] at h;cases h
  | some l=>
   dsimp only [Option.bind] at h
   grind
theorem Wa:∀(n:Nat)(t:Ty)(x:t.den E.D)(cs:J (TV E)),G9 E n t x=some cs->∀d∈cs,∃t y,d=TV.dat t y
 | 0,t,x,cs,h=>V9 (fun _ _ _ h=>by cases h) t x cs h
 | n+1,t,x,cs,h=>V9 (fun i x cs h=>Wa n (E.df i) (E.zA i x) cs h) t x cs h
theorem acy{w:U}{G G2:aJ}(hp:∀b o,G.pr b o->G2.pr b o):∀ {ds:J (TV E)}{vs:J Value},(∀d∈ds,∃t y,d=TV.dat t y)->bD E w G ds vs->bD E w G2 ds vs
 | [],_,_,h=>by simp_all [bD]
 | d::ds,_,hd,h=>by
  obtain⟨u,us,rfl,h1,h2⟩:=h.cons_inv;obtain⟨t,y,rfl⟩:=hd d (Mp ..);exact .cons (h1.rG hp) (acy hp (fun d h=>hd d (pQ _ h)) h2)
theorem agp{w:U}{G G2:aJ}(hp:∀b o,G.pr b o->G2.pr b o)(ls:J (Lf E)){vs:J Value}(h:bD E w G (CT.Kq ls).1 vs):bD E w G2 (CT.Kq ls).1 vs:=by
 cases ls with
 | nil=>simp_all [CT.Kq,bD]
 | cons l ls=>
  grind [CT.Kq,G9,bD,acy,Wa]
theorem CT.OS(hL:Ks w G n G2 n2):∀(cs:J CT)(ls:J (Lf E)){vs:J Value},bD E w G (CT.og n cs ls).1 vs->bD E w G2 (CT.og n2 cs ls).1 vs
 | [],ls,vs,h=>by simp_all [CT.og,bD]
 | c::cs,ls,vs,h=>by
  unfold CT.og at h⊢;split at h
  ·obtain⟨us,ts,rfl,h1,h2⟩:=h.V8
   refine bD.append (agp hL.pr ls h1) ?_;exact CT.OS hL cs _ h2
  ·rename_i ht
   obtain⟨u,us,rfl,h1,h2⟩:=h.cons_inv;refine .cons (CT.move hL c ls h1) ?_;rw [CT.yq n2 n];exact CT.OS hL cs _ h2
theorem PT.move(hL:Ks w G n G2 n2)(p:PT)(ls:J (Lf E)){v:Value}(h:VT E w G (p.put n ls).1 v):VT E w G2 (p.put n2 ls).1 v:=by
 cases p with
 | one c=>exact CT.move hL c ls h
 | agg cs=>
  grind [PT.put,VT,CT.OS]
 | dc cs=>
  grind [PT.put,VT,CT.OS]
theorem BT.move(hL:Ks w G n G2 n2)(t:BT)(ls:J (Lf E)){b:Nat}(h:jB E w G b (t.put n ls).1):jB E w G2 b (t.put n2 ls).1:=by
 cases t with
 | cells ty cs=>
  obtain⟨vs,h1,h2,h3⟩:=h
  exact⟨vs,h1,h2,CT.OS hL cs ls h3⟩
 | loop y cs=>
  obtain⟨Y,fn,tmps,D,h0,h1,h2⟩:=h
  exact⟨Y,fn,tmps,D,h0,h1,CT.OS hL cs ls h2⟩
 | map kt vt=>cases ls with
  | nil=>exact h
  | cons l ls=>
   obtain⟨t,x⟩:=l;simp [BT.put] at h⊢;split at h
   ·rename_i kt' vt' m heq
    obtain⟨es,clock,h1,h2,h3⟩:=h;exact⟨es,clock,h1,h2,h3.pr hL.pr⟩
   ·exact h
 | iter=>cases ls with
  | nil=>exact h
  | cons l ls=>cases ls with
   | nil=>exact h
   | cons l' ls=>
    simp [BT.put] at h⊢;split at h<;>exact h
end
end Go.RT
namespace Go.RT
variable {E : TEnv}
def uQ:J Nat->Bool
 | []=>true
 | x::xs=>!(xs.elem x)&&uQ xs
theorem uR:∀ {l:J Nat},uQ l=true->l.Nodup
 | [],_=>Fl
 | x::xs,h=>by
  simp only [uQ,cw] at h;refine Qo.2 ⟨fun hm=>?_,uR h.2⟩;rw [ajF hm] at h;cases h.1
def pick{α:Type}(l:J α):J Nat->O (J α)
 | []=>some []
 | i::is=>match l[i]?,pick l is with
  | some x,some xs=>some (x::xs)
  | _,_=>none
theorem qB{α:Type}{l:J α}:∀ {is:J Nat}{xs:J α},pick l is=some xs->xs.length=is.length/\∀(r i:Nat),is[r]? = some i->∃x,xs[r]? = some x/\l[i]? = some x
 | [],xs,h=>by cases h;simp_all
 | i::is,xs,h=>by
  simp [pick] at h;split at h<;>try trivial
  rename_i x ys h1 h2;cases h;obtain⟨q1,q2⟩:=qB h2;refine⟨by simp [q1],fun r k hr=>?_⟩
  cases r with
  | zero=>simp at hr;subst hr;exact⟨x,rfl,h1⟩
  | succ r=>simpa using q2 r k (by simpa using hr)
theorem UP{α β:Type}{l:J α}{m:J β}(hl:l.length=m.length):∀ {is:J Nat}{xs:J α},pick l is=some xs->∃ys,pick m is=some ys
 | [],xs,h=>⟨[],rfl⟩
 | i::is,xs,h=>by
  simp [pick] at h;split at h<;>try trivial
  rename_i x ys h1 h2;obtain⟨zs,hz⟩:=UP hl h2
  grind [List.getElem?_eq_some_iff,pick,List.getElem?_eq_getElem]
def yu:J (aC×Nat)->J bQ->Bool
 | [],[]=>true
 | p::ps,x::xs=>(Nat.beq p.1 x.e&&Nat.beq p.2 x.k)&&yu ps xs
 | _,_=>false
theorem Cb:∀ {ps:J (aC×Nat)}{xs:J bQ},yu ps xs=true->ps.length=xs.length/\∀(j:Nat) p x,ps[j]? = some p->xs[j]? = some x->p.1=x.e/\p.2=x.k
 | [],[],_=>⟨rfl,fun j p x h=>by simp at h⟩
 | p::ps,x::xs,h=>by
  simp only [yu,cw] at h;obtain⟨q1,q2⟩:=Cb h.2;refine⟨by simp [q1],fun j p' x' hp hx=>?_⟩
  cases j with
  | zero=>simp at hp hx;subst hp;subst hx;exact⟨eo h.1.1,eo h.1.2⟩
  | succ j=>exact q2 j p' x' (by simpa using hp) (by simpa using hx)
 | [],_::_,h=>by cases h
 | _::_,[],h=>by cases h
def cN.enter(s:cN)(bs gs:J Nat)(st:TS E)(ds:J (TV E)):Option (J (Lf E)):=
 match pick st.H bs,pick st.g gs with
 | some H,some g=>cond (uQ bs&&(uQ gs&&(Nat.beq bs.length s.boxes.length&&yu s.rows g)))
   (match SB ⟨bs,gs,g.map (·.aG)⟩ s.args ds,SC ⟨bs,gs,g.map (·.aG)⟩ s.boxes H,Jm (fun q=>gs[q]?) st.c s.soft with
    | some a,some b,some e=>some (a++(b++e))
    | _,_,_=>none) none
 | _,_=>none
section
variable {w : U} {G G2 : aJ} {n n2 : Rn}
theorem Zo(hE:E.Ok)(hL:BC w G n G2 n2):∀ {ps:J PT}{ds:J (TV E)}{ls rest:J (Lf E)}{vs:J Value},SB n ps ds=some ls->bD E w G ds vs ->
  (zO n2 ps (ls++rest)).2=rest/\bD E w G2 (zO n2 ps (ls++rest)).1 vs
 | [],[],ls,rest,vs,h,hv=>by cases h;simp [bD] at hv;subst hv;exact⟨rfl,bD.nil⟩
 | p::ps,d::ds,ls,rest,vs,h,hv=>by
  simp [SB] at h;split at h<;>try trivial
  rename_i l ls' h1 h2;cases h;obtain⟨u,us,rfl,q1,q2⟩:=hv.cons_inv;obtain⟨e1,e2⟩:=PT.sound hE hL (rest:=ls'++rest) h1 q1;obtain⟨e3,e4⟩:=Zo hE hL h2 q2;simp [zO,e1]
  exact⟨e3,.cons e2 e4⟩
 | [],_::_,_,_,_,h,_=>by cases h
 | _::_,[],_,_,_,h,_=>by cases h
theorem Zp(hE:E.Ok)(hL:BC w G n G2 n2):∀ {ts:J BT}{xs:J (eS E)}{ls rest:J (Lf E)}{is:J Nat},SC n ts xs=some ls->is.length=xs.length->(∀(q b:Nat) x,is[q]? = some b->xs[q]? = some x->jB E w G b x) ->
  (w6 n2 ts (ls++rest)).1.length=ts.length/\(w6 n2 ts (ls++rest)).2=rest/\∀(q b:Nat) x,is[q]? = some b->(w6 n2 ts (ls++rest)).1[q]? = some x->jB E w G2 b x
 | [],[],ls,rest,is,h,_,hv=>by cases h;simp_all [w6]
 | t::ts,x::xs,ls,rest,is,h,hil,hv=>by
  simp [SC] at h;split at h<;>try trivial
  rename_i l ls' h1 h2;cases h
  cases is with
  | nil=>simp at hil
  | cons i is=>
   obtain⟨e1,e2⟩:=BT.sound hE hL (rest:=ls'++rest) h1 (hv 0 i x si si);obtain⟨e3,e5,e4⟩:=Zp hE hL h2 (by simpa using hil) (fun q b y hq hy=>hv (q+1) b y (by simpa using hq) (by simpa using hy));simp [w6,e1];refine⟨by simp [e3],e5,fun q b y hq hy=>?_⟩
   cases q with
   | zero=>simp at hq hy;subst hq;subst hy;exact e2
   | succ q=>exact e4 q b y (by simpa using hq) (by simpa using hy)
 | [],_::_,_,_,_,h,_,_=>by cases h
 | _::_,[],_,_,_,h,_,_=>by cases h
end
def aJ.dJ(G:aJ)(is:J Nat)(gs:J (bQ×Value)):aJ:=⟨is,gs.map fun x=>({x.1 with aG:=0},x.2),G.pr⟩
section
variable {P : aE} {w0 w w' : U} {G0 G G' : aJ} {st : TS E} {a : Act}
theorem Rel.enter(hE:E.Ok)(hr:Rel E w0 G0 st a w G){s:cN}{bs gs:J Nat}{ds:J (TV E)}{ls:J (Lf E)}{vs:J Value}(h:s.enter bs gs st ds=some ls)(hv:bD E w G ds vs):
  ∃is gg,pick G.i bs=some is/\pick G.g gs=some gg/\kV E w (G.dJ is gg) (s.H ls) s.g0/\j8 E w (G.dJ is gg) (s.c ls)/\bD E w (G.dJ is gg) (s.ds ls) vs:=by
 unfold cN.enter at h;split at h<;>try (cases h;done)
 rename_i H g hH hg;cases hc:(uQ bs&&(uQ gs&&(Nat.beq bs.length s.boxes.length&&yu s.rows g)))<;>rw [hc] at h<;>simp only [bf,aO] at h
 ·cases h
 simp only [cw] at hc;obtain⟨Zq,hn2,Jd,hrs⟩:=hc;have Jd:=eo Jd;obtain⟨hrl,hrs⟩:=Cb hrs;split at h<;>try (cases h;done)
 rename_i la lb le hla hlb hle;cases h;have Zm:=hr.boxes.gs;obtain⟨is,hi⟩:=UP hr.boxes.len.symm hH;obtain⟨gg,Hf⟩:=UP (m:=G.g) (by rw [<-Zm];simp) hg;obtain⟨hHl,hHg⟩:=qB hH;obtain⟨Zr,apl⟩:=qB hg;obtain⟨hil,hig⟩:=qB hi;obtain⟨amz,Kt⟩:=qB Hf
 have hgr:∀(j:Nat) x y,gg[j]? = some x->g[j]? = some y->x.1=y:=fun j x y hx hy=>by
  have hj:j<gs.length:=by grind
  obtain⟨x',h1,h2⟩:=Kt j _ (ff hj);obtain⟨y',h3,h4⟩:=apl j _ (ff hj)
  grind
 have hg0:(gg.map fun x=>({x.1 with aG:=0}:bQ))=s.g0:=by
  unfold cN.g0;apply List.ext_getElem?
  grind
 have El:BC w G ⟨bs,gs,g.map (·.aG)⟩ (G.dJ is gg) s.n0:=by
  refine⟨fun _ _ h=>h,fun r r' b h1 h2=>?_,fun j j' v x hd h1 h2 h3=>?_⟩
  ·obtain⟨b',h3,h4⟩:=hig r r' h1
   rw [h2] at h4;cases h4;have hrl:r<s.boxes.length:=by grind
   exact⟨r,by simp [cN.n0,hrl],h3⟩
  ·grind [List.getElem?_eq_some_iff,List.getElem?_eq_getElem,cN.n0,aJ.dJ,cN.g0]
 obtain⟨p1,p2⟩:=Zo hE El hla hv
 obtain⟨q1,q5,q2⟩:=Zp hE El (rest:=le) (is:=is) hlb om (fun q b x hq hx=>by
  have sg:q<bs.length:=by grind
  obtain⟨b',h1,h2⟩:=hig q _ (ff sg);obtain⟨x',h3,h4⟩:=hHg q _ (ff sg);rw [hq] at h1;cases h1;rw [hx] at h3;cases h3;exact hr.boxes.box _ b x h2 h4)
 have hmem:∀b,b∈is->b∈G.i:=fun b hb=>by
  obtain⟨q,hq,rfl⟩:=kY hb;obtain⟨b',h1,h2⟩:=hig q _ (ff om)
  grind
 have hrow:∀(j:Nat) x hd,((G.dJ is gg).g)[j]? = some (x,hd)->∃j' y,gs[j]? = some j'/\G.g[j']? = some (y,hd)/\x={y with aG:=0}:=fun j x hd hj=>by
  simp only [aJ.dJ,Mj,T6] at hj;have hjl:j<gs.length:=by grind
  obtain⟨x',h4,h5⟩:=Kt j _ (ff hjl)
  grind
 have hnd:=uR Zq;have amA:=uR hn2;refine⟨is,gg,hi,Hf,⟨?_,?_,fun r b x hb hx=>?_,fun b hb=>hr.boxes.lt b (hmem b hb),?_,fun b o hp=>⟨(hr.boxes.fQ b o hp).1,fun hm=>(hr.boxes.fQ b o hp).2 (hmem b hm)⟩,fun j x hd hj=>?_,fun j j' x hd x' hd' b hj hj' hb hb'=>?_⟩,?_,p2⟩
 ·show is.length=(s.H (la++(lb++le))).length
  grind [cN.H]
 ·grind [aJ.dJ,List.map_map,Function.comp_def]
 ·unfold cN.H at hx
  rw [p1] at hx;exact q2 r b x hb hx
 ·show is.Nodup
  refine ac9.2 fun p q hp hq hpq he=>?_;obtain⟨b1,h1,h2⟩:=hig p _ (ff om);obtain⟨b2,h3,h4⟩:=hig q _ (ff om);have:b1=b2:=by grind
  subst this;have e1:=eG.1 h2;have e2:=eG.1 h4;have:=(Ru hr.boxes.nodup).1 (e1.2.trans e2.2.symm)
  grind [List.getElem_inj]
 ·obtain⟨j',y,h1,h2,rfl⟩:=hrow j x hd hj
  obtain⟨n,xs,g1,g2,g3⟩:=hr.boxes.grow j' y hd h2;exact⟨n,xs,g1,g2,fun b hb=>⟨(g3 b hb).1,fun hm=>(g3 b hb).2.1 (hmem b hm),(g3 b hb).2.2⟩⟩
 ·obtain⟨i1,y,h1,h2,rfl⟩:=hrow j x hd hj
  obtain⟨i2,y',h3,h4,rfl⟩:=hrow j' x' hd' hj';have:=hr.boxes.apart i1 i2 y hd y' hd' b h2 h4 hb hb'
  grind [List.getElem?_eq_some_iff,List.getElem_inj]
 ·intro q c0 hm
  have hm:(q,c0)∈mu some s.soft (w6 s.n0 s.boxes (zO s.n0 s.args (la++(lb++le))).2).2:=hm;rw [p1,q5] at hm;obtain⟨q',j,-,e1,e2,e3⟩:=B9 (rest:=[]) hle (by rw [adp];exact hm);cases e2;obtain⟨x,hd,h1,h2⟩:=hr.fR j c0 e3;obtain⟨x',h4,h5⟩:=Kt q j e1;rw [h1] at h5;cases h5;exact⟨{x with aG:=0},hd,by simp [aJ.dJ,h4],h2.keep rfl rfl (fun _ _ h=>h) (fun _ _ _ _ h=>h) (fun b _=>⟨rfl,fun _ h=>h⟩)⟩
end
end Go.RT
namespace Go.RT
variable {E : TEnv}
def jG{α:Type}:J (Nat×α)->J α->J α
 | [],l=>l
 | (i,x)::ps,l=>jG ps (l.set i x)
theorem gj{α:Type}:∀(ps:J (Nat×α))(l:J α),(jG ps l).length=l.length
 | [],l=>rfl
 | (i,x)::ps,l=>by simp [jG,gj ps]
theorem sN{α:Type}:∀(ps:J (Nat×α))(l:J α)(q:Nat),q∉ps.map (·.1)->(jG ps l)[q]? = l[q]?
 | [],l,q,_=>rfl
 | (i,x)::ps,l,q,h=>by
  simp only [ld,gY,not_or] at h;rw [jG,sN ps _ q h.2,Mk (fun e=>h.1 e.symm)]
theorem Hp{α:Type}:∀(ps:J (Nat×α))(l:J α)(q:Nat)(x:α),(ps.map (·.1)).Nodup->(q,x)∈ps->q<l.length->(jG ps l)[q]? = some x
 | (i,y)::ps,l,q,x,hn,hm,hq=>by
  simp only [ld,Qo] at hn;rcases gY.1 hm with he|hm
  ·obtain⟨rfl,rfl⟩:=he
   rw [jG,sN ps _ _ hn.1,Xs hq]
  ·exact Hp ps _ q x hn.2 hm (by simpa using hq)
def o5{α:Type}:J (O BT)->J Nat->J α->J (Nat×α)
 | some _::os,i::is,x::xs=>(i,x)::o5 os is xs
 | none::os,_::is,_::xs=>o5 os is xs
 | _,_,_=>[]
theorem zP{α:Type}:∀ {os:J (O BT)}{is:J Nat}{xs:J α}{i:Nat}{x:α},(i,x)∈o5 os is xs->∃(r:Nat)(t:BT),os[r]? = some (some t)/\is[r]? = some i/\xs[r]? = some x
 | some t::os,j::is,y::xs,i,x,h=>by
  rcases gY.1 h with he|h
  ·cases he;exact⟨0,t,rfl,rfl,rfl⟩
  ·obtain⟨r,t',h1,h2,h3⟩:=zP h
   exact⟨r+1,t',by simpa using h1,by simpa using h2,by simpa using h3⟩
 | none::os,j::is,y::xs,i,x,h=>by
  obtain⟨r,t',h1,h2,h3⟩:=zP (xs:=xs) h
  exact⟨r+1,t',by simpa using h1,by simpa using h2,by simpa using h3⟩
 | [],_,_,_,_,h=>by cases h
 | some _::_,[],_,_,_,h=>by cases h
 | none::_,[],_,_,_,h=>by cases h
 | some _::_,_::_,[],_,_,h=>by cases h
 | none::_,_::_,[],_,_,h=>by cases h
theorem Ku{α:Type}:∀ {os:J (O BT)}{is:J Nat}{xs:J α}(r:Nat){t:BT}{i:Nat}{x:α},os[r]? = some (some t)->is[r]? = some i->xs[r]? = some x->(i,x)∈o5 os is xs
 | o::os,j::is,y::xs,0,t,i,x,h1,h2,h3=>by
  simp_all [o5]
 | o::os,j::is,y::xs,r+1,t,i,x,h1,h2,h3=>by
  have:=Ku r (by simpa using h1) (by simpa using h2) (by simpa using h3)
  cases o<;>simp [o5,this]
 | [],_,_,_,_,_,_,h,_,_=>by simp at h
 | _::_,[],_,_,_,_,_,_,h,_=>by simp at h
 | _::_,_::_,[],_,_,_,_,_,_,h=>by simp at h
theorem FH{α:Type}:∀ {os:J (O BT)}{is:J Nat}{xs:J α},is.Nodup->((o5 os is xs).map (·.1)).Nodup
 | some t::os,j::is,y::xs,h=>by
  rw [Qo] at h;simp only [o5,ld,Qo];refine⟨fun hm=>?_,FH h.2⟩;obtain⟨p,hp,he⟩:=xZ.1 hm;obtain⟨i,x⟩:=p;obtain⟨r,t',-,h2,-⟩:=zP hp
  exact h.1 (by rw [<-show i=j from he];exact iV h2)
 | none::os,j::is,y::xs,h=>FH (xs:=xs) (Qo.1 h).2
 | [],_,_,_=>Fl
 | some _::_,[],_,_=>Fl
 | none::_,[],_,_=>Fl
 | some _::_,_::_,[],_=>Fl
 | none::_,_::_,[],_=>Fl
theorem OT:∀ {bs:J (O BT)}{r q:Nat},r+q∈CE r bs->∃t,bs[q]? = some (some t)
 | [],_,_,h=>by cases h
 | none::bs,r,q,h=>by
  simp [CE] at h
  cases q with
  | zero=>
   have key:∀(bs:J (O BT))(r x:Nat),x∈CE r bs->r<=x:=by
    intro bs
    induction bs with
    | nil=>intro r x h;cases h
    | cons o bs ih=>
     intro r x h
     cases o with
     | none=>have:=ih (r+1) x h;omega
     | some t=>rcases List.mem_cons.1 h with rfl|h;exact Nat.le_refl _;grind
   grind
  | succ q=>
   obtain⟨t,ht⟩:=OT (bs:=bs) (r:=r+1) (q:=q) (by grind)
   simp_all
 | some t::bs,r,q,h=>by
  cases q with
  | zero=>exact⟨t,rfl⟩
  | succ q=>
   rcases gY.1 h with he|h
   ·omega
   ·obtain⟨t,ht⟩:=OT (by rw [show r+1+q=r+(q+1) by omega];exact h)
    exact⟨t,by simpa using ht⟩
def rowAt:O (aC×Nat)->O bQ->bQ
 | none,some x=>x
 | some p,some x=>⟨x.aG+1,p.1,p.2⟩
 | some p,none=>⟨0,p.1,p.2⟩
 | none,none=>⟨0,0,0⟩
theorem mw:∀(rs:J (O (aC×Nat)))(g:J bQ),(dI rs g).length=rs.length
 | [],_=>rfl
 | none::rs,_::g=>by simp_all [dI,mw]
 | some _::rs,_::g=>by simp_all [dI,mw]
 | some _::rs,[]=>by simp_all [dI,mw]
 | none::rs,[]=>by simp_all [dI,mw]
theorem Cc:∀(rs:J (O (aC×Nat)))(g:J bQ)(j:Nat)(o:O (aC×Nat)),rs[j]? = some o->(dI rs g)[j]? = some (rowAt o g[j]?)
 | [],_,_,_,h=>by simp at h
 | r::rs,x::g,0,o,h=>by simp at h;subst h;cases r<;>simp [dI,rowAt]
 | r::rs,[],0,o,h=>by simp at h;subst h;cases r<;>simp [dI,rowAt]
 | r::rs,x::g,j+1,o,h=>by
  have:=Cc rs g j o (by simpa using h)
  cases r<;>simpa [dI] using this
 | r::rs,[],j+1,o,h=>by
  have:=Cc rs [] j o (by simpa using h);cases r<;>simpa [dI] using this
theorem nj(n:Rn):∀(bs:J (O BT))(H:J (eS E))(ls:J (Lf E)),(eu n bs H ls).length=bs.length
 | [],_,_=>rfl
 | none::bs,H,ls=>by simp_all [eu,nj]
 | some t::bs,H,ls=>by simp_all [eu,nj]
theorem Dl{w:U}{G G2:aJ}{n n2:Rn}(hL:Ks w G n G2 n2):∀(bs:J (O BT))(H H':J (eS E))(ls:J (Lf E))(r:Nat){t:BT}{b:Nat}{x y:eS E},bs[r]? = some (some t) ->
  (eu n bs H ls)[r]? = some x->(eu n2 bs H' ls)[r]? = some y->jB E w G b x->jB E w G2 b y
 | [],_,_,_,_,_,_,_,_,h,_,_,_=>by simp at h
 | none::bs,H,H',ls,r+1,t,b,x,y,h,hx,hy,hb=>Dl hL bs H.tail H'.tail ls r (by simpa using h) (by simpa [eu] using hx) (by simpa [eu] using hy) hb
 | none::bs,H,H',ls,0,t,b,x,y,h,hx,hy,hb=>by simp at h
 | some t'::bs,H,H',ls,0,t,b,x,y,h,hx,hy,hb=>by
  grind [eu,BT.move]
 | some t'::bs,H,H',ls,r+1,t,b,x,y,h,hx,hy,hb=>by
  simp [eu] at hx hy;rw [BT.yq n2 n] at hy;exact Dl hL bs H.tail H'.tail _ r (by simpa using h) hx hy hb
def yw:Nat->J (O BT)->Bool
 | 0,[]=>true
 | 0,some _::bs=>yw 0 bs
 | 0,none::_=>false
 | _+1,[]=>false
 | n+1,_::bs=>yw n bs
theorem Is:∀ {n:Nat}{bs:J (O BT)},yw n bs=true->n<=bs.length/\∀r,n<=r->r<bs.length->∃t,bs[r]? = some (some t)
 | 0,[],_=>⟨dY _,fun r _ h=>by simp at h⟩
 | 0,some t::bs,h=>by
  obtain⟨_,q⟩:=Is (bs:=bs) h
  grind
 | 0,none::_,h=>by cases h
 | _+1,[],h=>by cases h
 | n+1,o::bs,h=>by
  obtain⟨q1,q2⟩:=Is (n:=n) h;refine⟨by simpa using q1,fun r h1 h2=>?_⟩
  cases r with
  | zero=>omega
  | succ r=>simp_all
def Jn(gs:J Nat):J (Nat×Cn E)->J (Nat×Cn E)
 | []=>[]
 | p::cs=>cond (gs.elem p.1) (Jn gs cs) (p::Jn gs cs)
theorem zQ{gs:J Nat}:∀ {cs:J (Nat×Cn E)}{i:Nat}{c:Cn E},(i,c)∈Jn gs cs->(i,c)∈cs/\i∉gs
 | [],i,c,h=>by cases h
 | p::cs,i,c,h=>by
  simp only [Jn] at h;cases hb:gs.elem p.1<;>rw [hb] at h<;>simp only [bf,aO] at h
  ·rcases gY.1 h with h|h
   ·refine⟨by rw [h];simp,fun e=>?_⟩
    rw [<-h] at hb;rw [ajF e] at hb;cases hb
   ·exact⟨pQ _ (zQ h).1,(zQ h).2⟩
  ·exact⟨pQ _ (zQ h).1,(zQ h).2⟩
theorem zR{f:Nat->O Nat}:∀ {ps:J (Nat×Ty)}{ls:J (Lf E)}{i:Nat}{c:Cn E},(i,c)∈mu f ps ls->∃q,f q=some i/\(q,c)∈mu some ps ls
 | [],ls,i,c,h=>by cases ls<;>cases h
 | p::ps,[],i,c,h=>by cases h
 | p::ps,l::ls,i,c,h=>by
  obtain⟨q,t⟩:=p;obtain⟨t',x⟩:=l;simp [mu] at h⊢
  cases hf:f q with
  | none=>
   rw [hf] at h;obtain⟨q',e1,e2⟩:=zR (by cases t'<;>exact h);refine⟨q',e1,?_⟩
   cases t'<;>first|exact e2|simp_all
  | some i'=>
   rw [hf] at h
   cases t' with
   | aZ t'=>
    rcases gY.1 h with e|h
    ·cases e;exact⟨q,hf,Mp ..⟩
    ·obtain⟨q',e1,e2⟩:=zR h
     exact⟨q',e1,pQ _ e2⟩
   | _=>
    simp_all [zR]
def Outs.n2(o:Outs)(bs gs:J Nat)(st:TS E):Rn:=
 ⟨bs++List.range' st.H.length (o.boxes.length-bs.length),gs++List.range' st.g.length (o.rows.length-gs.length),(dI o.rows ((pick st.g gs).getD [])).map (·.aG)⟩
def Outs.val(o:Outs)(bs gs:J Nat)(st:TS E)(ls:J (Lf E)):TV E:=(o.res.put (o.n2 bs gs st) ls).1
def Outs.hc(o:Outs)(bs gs:J Nat)(st:TS E)(ls:J (Lf E)):J (eS E):=eu (o.n2 bs gs st) o.boxes [] (o.res.put (o.n2 bs gs st) ls).2
def Outs.after(o:Outs)(bs gs:J Nat)(st:TS E)(ls:J (Lf E)):TS E:=
 {st with
  H:=jG (o5 o.boxes bs (o.hc bs gs st ls)) st.H++(o.hc bs gs st ls).drop bs.length
  g:=jG (gs.zip (dI o.rows ((pick st.g gs).getD []))) st.g++(dI o.rows ((pick st.g gs).getD [])).drop gs.length
  d:=(o5 o.boxes bs (o.hc bs gs st ls)).map (·.1)++st.d
  c:=mu (fun q=>(o.n2 bs gs st).g[q]?) o.soft (oC o.boxes (o.res.put (o.n2 bs gs st) ls).2)++Jn gs st.c}
theorem M9{α:Type}:∀ {l:J Nat}{m:J α},l.Nodup->((l.zip m).map (·.1)).Nodup
 | [],_,_=>Fl
 | _::_,[],_=>Fl
 | x::l,y::m,h=>by
  rw [Qo] at h;simp only [List.zip_cons_cons,ld,Qo];refine⟨fun hm=>h.1 ?_,M9 h.2⟩;obtain⟨p,hp,he⟩:=xZ.1 hm;rw [<-he];exact (adq hp).1
theorem It{α:Type}:∀ {l:J Nat}{m:J α}(j:Nat){i:Nat}{x:α},l[j]? = some i->m[j]? = some x->(i,x)∈l.zip m
 | y::l,z::m,0,i,x,h1,h2=>by simp_all
 | y::l,z::m,j+1,i,x,h1,h2=>by
  have:=It j (by simpa using h1) (by simpa using h2)
  simp [this]
 | [],_,_,_,_,h,_=>by simp at h
 | _::_,[],_,_,_,_,h=>by simp at h
end Go.RT
namespace Go.RT
variable {E : TEnv}
section
variable {P : aE} {w0 w w' : U} {G0 G G' : aJ} {st : TS E} {a : Act}
theorem Rel.leave(hr:Rel E w0 G0 st a w G){bs gs is:J Nat}{gg:J (bQ×Value)}(hi:pick G.i bs=some is)(hg:pick G.g gs=some gg)(Zq:bs.Nodup)(hn2:gs.Nodup)(o:Outs)
  (hb:yw bs.length o.boxes=true) (Zr:gs.length<=o.rows.length) {H0:J (eS E)} {ls:J (Lf E)} {v:Value} (hE:kn w (G.dJ is gg) w' G')
  (hB:kV E w' G' (eu (o.n1 ((G.dJ is gg).g.map (·.1))) o.boxes H0 (o.res.put (o.n1 ((G.dJ is gg).g.map (·.1))) ls).2) (dI o.rows ((G.dJ is gg).g.map (·.1))))
  (hS:j8 E w' G' (mu some o.soft (oC o.boxes (o.res.put (o.n1 ((G.dJ is gg).g.map (·.1))) ls).2)))
  (hv:VT E w' G' (o.res.put (o.n1 ((G.dJ is gg).g.map (·.1))) ls).1 v) (Kv:∀(q b:Nat),is[q]? = some b->q∉CE 0 o.boxes->w'.heap[b]? = w.heap[b]?) :
  ∃Gn,Rel E w0 G0 (o.after bs gs st ls) a w' Gn/\VT E w' Gn (o.val bs gs st ls) v:=by
 obtain⟨Jd,hsome⟩:=Is hb;obtain⟨hil,hig⟩:=qB hi;obtain⟨amz,Kt⟩:=qB hg;have hlen:=hr.boxes.len;have Zm:=hr.boxes.gs;have amB:G.g.length=st.g.length:=hr.o4
 have aob:pick st.g gs=some (gg.map (·.1)):=by
  have key:∀(l:J Nat)(ys:J (bQ×Value)),pick G.g l=some ys->pick st.g l=some (ys.map (·.1)):=by
   intro l
   induction l with
   | nil=>intro ys h;cases h;rfl
   | cons i l ih=>
    grind [pick]
  exact key gs gg hg
 have hpg:(pick st.g gs).getD []=gg.map (·.1):=by rw [aob];rfl
 let g0:J bQ:=(G.dJ is gg).g.map (·.1)
 have aqf:g0.length=gs.length:=by simp [g0,aJ.dJ,amz]
 let nc:=dI o.rows g0
 let ng:=dI o.rows (gg.map (·.1))
 have apm:nc.length=o.rows.length:=mw _ _;have amC:ng.length=o.rows.length:=mw _ _;have apn:G'.i.length=o.boxes.length:=by rw [hB.len,nj]
 have amD:G'.g.map (·.1)=nc:=hB.gs;have aet:G'.g.length=o.rows.length:=by rw [<-apm,<-amD];simp
 have aoc:∀(r b:Nat),is[r]? = some b->G'.i[r]? = some b:=fun r b h=>hE.goes.i r b h
 let nT:J (bQ×Value):=ng.zip (G'.g.map (·.2))
 have aod:nT.length=o.rows.length:=by simp [nT,amC,aet]
 have aeu:nT.map (·.1)=ng:=by
  simp only [nT];rw [List.map_fst_zip];simp [amC,aet]
 let Gn:aJ:=⟨G.i++G'.i.drop bs.length,jG (gs.zip nT) G.g++nT.drop gs.length,G'.pr⟩
 have hent:∀(j:Nat) y,nT[j]? = some y->∃ro x' ,o.rows[j]? = some ro/\G'.g[j]? = some (x',y.2)/\x'=rowAt ro g0[j]?/\y.1=rowAt ro (gg.map (·.1))[j]?:=by
  intro j y hj;have hjl:j<o.rows.length:=by rw [<-aod];exact (eG.1 hj).1
  have hro:=ff hjl;have h1:=Cc o.rows (gg.map (·.1)) j _ hro;have h2:=Cc o.rows g0 j _ hro
  grind
 have hold:∀(j j':Nat) x h,gs[j]? = some j'->G.g[j']? = some (x,h)->gg[j]? = some (x,h)/\g0[j]? = some {x with aG:=0}/\(gg.map (·.1))[j]? = some x:=by
  intro j j' x h h1 h2;obtain⟨y,h3,h4⟩:=Kt j j' h1;rw [h2] at h4;cases h4;refine⟨h3,?_,by simp [h3]⟩;simp [g0,aJ.dJ,h3]
 have aoe:∀(j j':Nat) x h,gs[j]? = some j'->G.g[j']? = some (x,h)->∃y,nT[j]? = some y/\x.aG<=y.1.aG/\(x.aG=y.1.aG->y.2=h):=by
  intro j j' x h h1 h2;have hjl:j<gs.length:=(eG.1 h1).1;have hjn:j<nT.length:=om;obtain⟨ro,x',q1,q2,q3,q4⟩:=hent j _ (ff hjn);obtain⟨o1,o2,o3⟩:=hold j j' x h h1 h2;rw [o2] at q3;rw [o3] at q4;refine⟨_,ff hjn,?_,fun e=>?_⟩
  ·rw [q4];cases ro<;>simp [rowAt]
  ·rw [q4] at e
   cases ro with
   | some p=>simp [rowAt] at e
   | none=>
    simp only [rowAt] at q3;have hsel:((G.dJ is gg).g)[j]? = some ({x with aG:=0},h):=by simp [aJ.dJ,o1]
    obtain⟨x2,h3,r1,r2,r3⟩:=hE.goes.g j _ h hsel;rw [q2] at r1;cases r1;exact r3 (by rw [q3])
 have hgn:∀(q:Nat) y,Gn.g[q]? = some y->(q∉gs/\G.g[q]? = some y)\/∃j,nT[j]? = some y/\((gs[j]? = some q/\q<G.g.length)\/(gs.length<=j/\q=G.g.length+(j-gs.length))):=by
  intro q y hq;have hq:(jG (gs.zip nT) G.g++nT.drop gs.length)[q]? = some y:=hq;by_cases sg:q<G.g.length
  ·rw [uu (by rw [gj];exact sg)] at hq
   by_cases hm:q∈gs
   ·obtain⟨j,hj,rfl⟩:=kY hm
    grind [Hp,M9,It,List.getElem?_eq_getElem]
   ·rw [sN _ _ q (fun Zs=>hm (by obtain⟨p,hp,he⟩:=xZ.1 Zs;rw [<-he];exact (adq hp).1))] at hq
    exact .inl ⟨hm,hq⟩
  ·rw [H7 (by rw [gj];omega),gj,OC] at hq
   exact .inr ⟨gs.length+(q-G.g.length),hq,.inr ⟨om,om⟩⟩
 have Zt:∀(j q:Nat) y,gs[j]? = some q->q<G.g.length->nT[j]? = some y->Gn.g[q]? = some y:=by
  intro j q y h1 h2 h3;show (jG (gs.zip nT) G.g++nT.drop gs.length)[q]? = some y;rw [uu (by rw [gj];exact h2)];exact Hp (gs.zip nT) G.g q y (M9 hn2) (It j h1 h3) h2
 have acz:∀(q:Nat) y,q∉gs->G.g[q]? = some y->Gn.g[q]? = some y:=by
  intro q y h1 h2;have sg:=(eG.1 h2).1;show (jG (gs.zip nT) G.g++nT.drop gs.length)[q]? = some y;rw [uu (by rw [gj];exact sg),sN _ _ q (fun Zs=>h1 (by obtain⟨p,hp,he⟩:=xZ.1 Zs;rw [<-he];exact (adq hp).1))];exact h2
 have acA:∀(j:Nat) y,gs.length<=j->nT[j]? = some y->Gn.g[G.g.length+(j-gs.length)]? = some y:=by
  intro j y h1 h2;show (jG (gs.zip nT) G.g++nT.drop gs.length)[G.g.length+(j-gs.length)]? = some y;rw [H7 (by rw [gj];omega),gj,OC];rw [show gs.length+(G.g.length+(j-gs.length)-G.g.length)=j by omega];exact h2
 have Kw:gZ w G w' Gn:=by
  refine⟨hE.goes.pr,hE.goes.cells,fun r b h=>?_,fun q x h hq=>?_⟩
  ·show (G.i++G'.i.drop bs.length)[r]? = some b
   rw [uu (eG.1 h).1];exact h
  ·by_cases hm:q∈gs
   ·obtain⟨j,hj,rfl⟩:=kY hm
    obtain⟨y,h1,h2,h3⟩:=aoe j _ x h (ff hj) hq;exact⟨y.1,y.2,Zt j _ y (ff hj) (eG.1 hq).1 h1,h2,h3⟩
   ·exact⟨x,h,acz q _ hm hq,dY _,fun _=>rfl⟩
 have ev:=hr.eL
 have Zu:∀b,b∈is->b∈G.i:=fun b hb=>by
  obtain⟨q,hq,rfl⟩:=kY hb;obtain⟨b',h1,h2⟩:=hig q _ (ff om);rw [ff hq] at h1;cases h1;exact iV h2
 have BD:∀b,(G.dJ is gg).rows b->∃(j j':Nat)(x:bQ)(h:Value),gs[j]? = some j'/\G.g[j']? = some (x,h)/\h.ownBlock=some b:=by
  rintro b ⟨x,h,hm,hbk⟩;obtain⟨j,hj,he⟩:=kY hm;have hj2:j<gg.length:=by simpa [aJ.dJ] using hj
  obtain⟨y,h1,h2⟩:=Kt j _ (ff om);rw [ff hj2] at h1;have h1:=uv h1
  have VK:gg[j].2=h:=by
   have:=congrArg Prod.snd he;simpa [aJ.dJ] using this
  refine⟨j,_,y.1,y.2,ff om,h2,?_⟩;rw [<-h1,VK];exact hbk
 have Jo:∀(j:Nat) x h b,G.g[j]? = some (x,h)->h.ownBlock=some b->b<w.heap.size/\b∉G.i:=fun j x h b hj hb=>by
  obtain⟨n,xs,-,-,q⟩:=hr.boxes.grow j x h hj;exact⟨(q b hb).1,(q b hb).2.1⟩
 have hsame:∀(q b:Nat),G.i[q]? = some b->q∉bs->w'.heap[b]? = w.heap[b]?:=by
  intro q b hq hnb;refine hE.old b (hr.boxes.lt b (iV hq)) (fun hf=>?_);rcases hf with hf|hf
  ·obtain⟨r,hrl,he⟩:=kY hf
   have amE:r<bs.length:=by
    have:r<is.length:=hrl;omega
   obtain⟨b',h1,h2⟩:=hig r _ (ff amE);have h1':is[r]? = some b:=by rw [<-he];exact ff hrl
   rw [h1'] at h1;cases h1;have e1:=eG.1 hq;have e2:=eG.1 h2;have:q=bs[r]:=(Ru hr.boxes.nodup).1 (e1.2.trans e2.2.symm);exact hnb (by rw [this];exact jN amE)
  ·obtain⟨j,j',x,h,-,h2,h3⟩:=BD b hf
   exact (Jo j' x h b h2 h3).2 (iV hq)
 have aev:∀(q b:Nat),Gn.i[q]? = some b->G.i[q]? = some b\/(G.i.length<=q/\G'.i[bs.length+(q-G.i.length)]? = some b/\w.heap.size<=b):=by
  intro q b hq;have hq:(G.i++G'.i.drop bs.length)[q]? = some b:=hq;by_cases sg:q<G.i.length
  ·rw [uu sg] at hq;exact .inl hq
  ·rw [H7 om,OC] at hq
   exact .inr ⟨om,hq,hE.pU _ b (by show is.length<=_;omega) hq⟩
 have XY:∀b,b∈Gn.i->b∈G.i\/(b∈G'.i/\w.heap.size<=b):=fun b hb=>by
  obtain⟨q,hq,he⟩:=kY hb;rcases aev q b (by rw [<-he];exact ff hq) with h|⟨-,h1,h2⟩
  ·exact .inl (iV h)
  ·exact .inr ⟨iV h1,h2⟩
 have hblk:∀(j:Nat) x h b,G'.g[j]? = some (x,h)->h.ownBlock=some b->w.heap.size<=b\/∃(j':Nat)(x0:bQ)(h0:Value),gs[j]? = some j'/\G.g[j']? = some (x0,h0)/\h0.ownBlock=some b:=by
  intro j x h b hj hbk;rcases hE.gr j x h b hj hbk with q|⟨x0,h0,q1,q2⟩
  ·exact .inl q
  ·have DN:j<gg.length:=by
    have:=(eG.1 q1).1;simpa [aJ.dJ] using this
   obtain⟨y,h1,h2⟩:=Kt j _ (ff om)
   grind [List.getElem?_eq_getElem,Option.some.inj,aJ.dJ]
 have El:Ks w' G' (o.n1 g0) Gn (o.n2 bs gs st):=by
  refine⟨⟨fun _ _ h=>h,fun r r' b h1 h2=>?_,fun j j' vv x h h1 h2 h3=>?_⟩,?_,?_,?_⟩
  ·obtain⟨rfl,hlt⟩:=V6 h1
   by_cases hrb:r'<bs.length
   ·refine⟨bs[r'],by simp [Outs.n2,uu hrb,hrb],?_⟩
    obtain⟨b',q1,q2⟩:=hig r' _ (ff hrb);have:=aoc r' b' q1;rw [h2] at this;cases this;show (G.i++G'.i.drop bs.length)[bs[r']]? = some b;rw [uu (eG.1 q2).1];exact q2
   ·refine⟨st.H.length+(r'-bs.length),?_,?_⟩
    ·simp only [Outs.n2]
     rw [H7 om];rw [adr om];simp
    ·show (G.i++G'.i.drop bs.length)[st.H.length+(r'-bs.length)]? = some b
     rw [<-hlen,H7 om,OC,show bs.length+(G.i.length+(r'-bs.length)-G.i.length)=r' by omega];exact h2
  ·obtain⟨rfl,hlt⟩:=V6 h1
   have hjn:j'<nT.length:=om;obtain⟨ro,x',q1,q2,q3,q4⟩:=hent j' _ (ff hjn);rw [h3] at q2;have q2:=uv q2;simp only [ac1] at q2
   have Sz:x.aG=vv:=by
    have h2:(nc.map (·.aG))[j']? = some vv:=h2;rw [<-amD,Ba,Mj,h3] at h2;simpa using h2
   refine⟨Sz,?_⟩
   have qb:((dI o.rows ((pick st.g gs).getD [])).map (·.aG))[j']? = some nT[j'].1.aG:=by
    rw [hpg,show dI o.rows (gg.map (·.1))=ng from rfl,<-aeu];simp [hjn]
   by_cases DN:j'<gs.length
   ·obtain⟨y,r1,r2⟩:=Kt j' _ (ff DN)
    refine⟨gs[j'],nT[j'].1.aG,nT[j'].1,by simp [Outs.n2,uu DN,DN],qb,?_,rfl⟩;rw [Zt j' _ _ (ff DN) (eG.1 r2).1 (ff hjn),q2.2]
   ·refine⟨st.g.length+(j'-gs.length),nT[j'].1.aG,nT[j'].1,?_,qb,?_,rfl⟩
    ·simp only [Outs.n2]
     rw [H7 om,adr om];simp
    ·rw [<-amB,acA j' _ om (ff hjn),q2.2]
  ·simp [Outs.n1,Outs.n2];omega
  ·simp [Outs.n1,Outs.n2];omega
  ·simp [Outs.n1,Outs.n2,mw]
 have hval:VT E w' Gn (o.val bs gs st ls) v:=PT.move El o.res ls hv;have eU:(o.res.put (o.n2 bs gs st) ls).2=(o.res.put (o.n1 g0) ls).2:=PT.yq _ _ _ _;have apo:(o.hc bs gs st ls).length=o.boxes.length:=nj _ _ _ _
 have ap6:∀(r b:Nat) t y,o.boxes[r]? = some (some t)->G'.i[r]? = some b->(o.hc bs gs st ls)[r]? = some y->jB E w' Gn b y:=by
  intro r b t y h1 h2 h3;have hrl:r<o.boxes.length:=(eG.1 h1).1;have hx:r<(eu (o.n1 g0) o.boxes H0 (o.res.put (o.n1 g0) ls).2).length:=by rw [nj];exact hrl
  have hbx:=hB.box r b _ h2 (ff hx);unfold Outs.hc at h3;rw [eU] at h3;exact Dl El o.boxes H0 [] _ r h1 (ff hx) h3 hbx
 refine⟨Gn,⟨⟨hE.os.trans ev.os,hE.tape.trans ev.tape,hE.output.trans ev.output,nw ev.size hE.size,fun b hb hnf=>?_,ev.goes.trans Kw,fun b oo hb hp=>?_,fun q b h1 h2=>?_,fun q x h b hq hbk=>?_⟩,hr.size,fun j d hj=>(hr.tmps j d hj).mono Kw,hr.defers.mono Kw,?_,fun r b hb hd=>?_,hr.pins,?_⟩,hval⟩
 ·refine (hE.old b (jw hb ev.size) (fun hf=>?_)).trans (ev.old b hb hnf)
  rcases hf with hf|hf
  ·have hbi:=Zu b hf
   obtain⟨q,hq,he⟩:=kY hbi;have SD:G.i[q]? = some b:=by rw [<-he];exact ff hq
   by_cases sg:q<G0.i.length
   ·have e1:=ev.goes.i q _ (ff sg)
    rw [SD] at e1;exact hnf (.inl (by rw [uv e1];exact jN sg))
   ·have:=ev.pU q b om SD;omega
  ·obtain⟨j,j',x,h,-,h2,h3⟩:=BD b hf
   rcases ev.gr j' x h b h2 h3 with q|⟨x0,h0,q1,q2⟩
   ·omega
   ·exact hnf (.inr ⟨x0,h0,iV q1,q2⟩)
 ·rcases hE.nh b oo (jw hb ev.size) hp with q|q
  ·exact ev.nh b oo hb q
  ·obtain⟨j,j',x,h,-,h2,h3⟩:=BD b q
   rcases ev.gr j' x h b h2 h3 with q|⟨x0,h0,q1,q2⟩
   ·omega
   ·exact .inr ⟨x0,h0,iV q1,q2⟩
 ·rcases aev q b h2 with h|⟨-,-,h⟩
  ·exact ev.pU q b h1 h
  ·exact nw ev.size h
 ·rcases hgn q (x,h) hq with⟨-,h1⟩|⟨j,h1,h2⟩
  ·exact ev.gr q x h b h1 hbk
  ·obtain⟨ro,x',q1,q2,-,-⟩:=hent j _ h1
   rcases hblk j x' h b q2 hbk with q|⟨j',x0,h0,q3,q4,q5⟩
   ·exact .inl (nw ev.size q)
   ·rcases h2 with⟨h2,-⟩|⟨h2,-⟩
    ·rw [h2] at q3;cases q3
     exact ev.gr q x0 h0 b q4 q5
    ·have:=(eG.1 q3).1;omega
 ·refine⟨?_,?_,fun q b y hq hy=>?_,fun b hb=>?_,?_,fun b oo hp=>?_,fun q x h hq=>?_,fun q q' x h x' h' b hq Yj wO oV=>?_⟩
  ·show (G.i++G'.i.drop bs.length).length=(jG (o5 o.boxes bs (o.hc bs gs st ls)) st.H++(o.hc bs gs st ls).drop bs.length).length
   simp only [yb,yg,gj,apo,apn,hlen]
  ·show (jG (gs.zip nT) G.g++nT.drop gs.length).map (·.1)=jG (gs.zip (dI o.rows ((pick st.g gs).getD []))) st.g++(dI o.rows ((pick st.g gs).getD [])).drop gs.length
   rw [hpg,JZ,List.map_drop,aeu];congr 1
   have key:∀(l:J Nat)(m:J (bQ×Value))(g:J (bQ×Value)),(jG (l.zip m) g).map (·.1)=jG (l.zip (m.map (·.1))) (g.map (·.1)):=by
    intro l
    induction l with
    | nil=>intro m g;rfl
    | cons i l ih=>
     intro m g
     cases m with
     | nil=>rfl
     | cons y m=>
      simp only [List.zip_cons_cons,ld,jG];rw [ih,Xx]
   rw [key,aeu,Zm]
  ·have hy:(jG (o5 o.boxes bs (o.hc bs gs st ls)) st.H++(o.hc bs gs st ls).drop bs.length)[q]? = some y:=hy
   rcases aev q b hq with h|⟨h1,h2,h3⟩
   ·have sg:q<st.H.length:=by rw [<-hlen];exact (eG.1 h).1
    rw [uu (by rw [gj];exact sg)] at hy;by_cases hm:q∈bs
    ·obtain⟨r,hrl,rfl⟩:=kY hm
     obtain⟨b',q1,q2⟩:=hig r _ (ff hrl);rw [h] at q2;cases q2
     cases SE:o.boxes[r]? with
     | none=>rw [List.getElem?_eq_none_iff] at SE;omega
     | some ob=>
      cases ob with
      | some t=>
       grind [Hp,FH,Ku,List.getElem?_eq_getElem]
      | none=>
       rw [sN _ _ _ (fun Zs=>by
        obtain⟨p,hp,he⟩:=xZ.1 Zs;obtain⟨i,x⟩:=p;obtain⟨r',t',e1,e2,-⟩:=zP hp;have e2':=eG.1 e2;have:r'=r:=(Ru Zq).1 (e2'.2.trans he);subst this;rw [SE] at e1;cases e1)] at hy
       refine (hr.boxes.box _ b y h hy).mono Kw (Kv r b q1 (fun hc=>?_));rw [<-pP r] at hc;obtain⟨t,ht⟩:=OT hc;rw [SE] at ht;cases ht
    ·rw [sN _ _ _ (fun Zs=>by
      obtain⟨p,hp,he⟩:=xZ.1 Zs;obtain⟨i,x⟩:=p;obtain⟨r',t',-,e2,-⟩:=zP hp;exact hm (by rw [<-show i=q from he];exact iV e2))] at hy
     exact (hr.boxes.box q b y h hy).mono Kw (hsame q b h hm)
   ·rw [H7 (by rw [gj,<-hlen];omega),gj,OC,<-hlen] at hy
    grind
  ·rcases XY b hb with h|⟨h,-⟩
   ·exact jw (hr.boxes.lt b h) hE.size
   ·exact hB.lt b h
  ·show (G.i++G'.i.drop bs.length).Nodup
   refine List.nodup_append.2 ⟨hr.boxes.nodup,(List.drop_sublist _ _).nodup hB.nodup,fun x hx y hy e=>?_⟩;subst e;obtain⟨q,hq,he⟩:=kY hy;have h1:(G'.i.drop bs.length)[q]? = some x:=by rw [<-he];exact ff hq
   rw [OC] at h1;have:=hE.pU _ x (by show is.length<=_;omega) h1;have:=hr.boxes.lt x hx;omega
  ·refine⟨(hB.fQ b oo hp).1,fun hm=>?_⟩
   rcases XY b hm with h|⟨h,-⟩
   ·rcases hE.nh b oo (hr.boxes.lt b h) hp with q|q
    ·exact (hr.boxes.fQ b oo q).2 h
    ·obtain⟨j,j',x,hh,-,h2,h3⟩:=BD b q
     exact (Jo j' x hh b h2 h3).2 h
   ·exact (hB.fQ b oo hp).2 h
  ·rcases hgn q (x,h) hq with⟨h0,h1⟩|⟨j,h1,h2⟩
   ·obtain⟨n,xs,g1,g2,g3⟩:=hr.boxes.grow q x h h1
    have hun:∀b,h.ownBlock=some b->w'.heap[b]? = w.heap[b]?:=fun b hbk=>by
     refine hE.old b (g3 b hbk).1 (fun hf=>?_);rcases hf with hf|hf
     ·exact (g3 b hbk).2.1 (Zu b hf)
     ·obtain⟨j,j',x',h',e1,e2,e3⟩:=BD b hf
      have:=hr.boxes.apart q j' x h x' h' b h1 e2 hbk e3;exact h0 (by rw [this];exact iV e1)
    refine⟨n,xs,⟨g1.1,?_⟩,g2,fun b hbk=>?_⟩
    ·rcases g1.2 with q2|⟨gb,cap,cur,q2,q3,q4,q5⟩
     ·exact .inl q2
     ·exact .inr ⟨gb,cap,cur,q2,q3,by rw [hun gb (by rw [q2];rfl)];exact q4,q5⟩
    ·obtain⟨k1,k2,k3⟩:=g3 b hbk
     refine⟨jw k1 hE.size,fun hm=>?_,fun oo ho hp=>?_⟩
     ·rcases XY b hm with h'|⟨-,h'⟩
      ·exact k2 h'
      ·omega
     ·rcases hE.nh b oo k1 hp with q'|q'
      ·exact k3 oo ho q'
      ·obtain⟨j,j',x',h',e1,e2,e3⟩:=BD b q'
       have:=hr.boxes.apart q j' x h x' h' b h1 e2 hbk e3;exact h0 (by rw [this];exact iV e1)
   ·obtain⟨ro,x',q1,q2,q3,q4⟩:=hent j _ h1
    obtain⟨n,xs,g1,g2,g3⟩:=hB.grow j x' h q2
    have Zv:x.e=x'.e/\x.k=x'.k:=by
     have q4:x=rowAt ro (gg.map (·.1))[j]?:=q4;rw [q3,q4];by_cases DN:j<gg.length
     ·have e1:g0[j]? = some {gg[j].1 with aG:=0}:=by simp [g0,aJ.dJ,DN]
      have e2:(gg.map (·.1))[j]? = some gg[j].1:=by simp [DN]
      rw [e1,e2];cases ro<;>simp [rowAt]
     ·have e1:g0[j]? = none:=Qm om
      have e2:(gg.map (·.1))[j]? = none:=Qm bE;rw [e1,e2];exact⟨rfl,rfl⟩
    refine⟨n,xs,by rw [Zv.1,Zv.2];exact g1,fun a m h=>by rw [Zv.1];exact g2 a m h,fun b hbk=>?_⟩;obtain⟨k1,k2,k3⟩:=g3 b hbk;refine⟨k1,fun hm=>?_,by rw [Zv.2];exact k3⟩;rcases XY b hm with h'|⟨h',-⟩
    ·rcases hblk j x' h b q2 hbk with q'|⟨j',x0,h0,q5,q6,q7⟩
     ·have:=hr.boxes.lt b h';omega
     ·exact (Jo j' x0 h0 b q6 q7).2 h'
    ·exact k2 h'
  ·rcases hgn q (x,h) hq with⟨n0,h1⟩|⟨j,h1,h2⟩<;>rcases hgn q' (x',h') Yj with⟨n0',h1'⟩|⟨j',h1',h2'⟩
   ·exact hr.boxes.apart q q' x h x' h' b h1 h1' wO oV
   ·exfalso
    obtain⟨ro,y,e1,e2,-,-⟩:=hent j' _ h1';rcases hblk j' y h' b e2 oV with q5|⟨j2,x0,h0,q5,q6,q7⟩
    ·have:=(Jo q x h b h1 wO).1;omega
    ·have:=hr.boxes.apart q j2 x h x0 h0 b h1 q6 wO q7
     exact n0 (by rw [this];exact iV q5)
   ·exfalso
    obtain⟨ro,y,e1,e2,-,-⟩:=hent j _ h1;rcases hblk j y h b e2 wO with q5|⟨j2,x0,h0,q5,q6,q7⟩
    ·have:=(Jo q' x' h' b h1' oV).1;omega
    ·have:=hr.boxes.apart q' j2 x' h' x0 h0 b h1' q6 oV q7
     exact n0' (by rw [this];exact iV q5)
   ·obtain⟨ro,y,e1,e2,-,-⟩:=hent j _ h1
    obtain⟨ro',y',YY,e2',-,-⟩:=hent j' _ h1';have:=hB.apart j j' y h y' h' b e2 e2' wO oV;subst this;rcases h2 with⟨h2,-⟩|⟨h2,h3⟩<;>rcases h2' with⟨h2',-⟩|⟨h2',h3'⟩
    ·rw [h2] at h2';exact uv h2'
    ·have:=(eG.1 h2).1;omega
    ·have:=(eG.1 h2').1;omega
    ·omega
 ·have hd:r∉(o5 o.boxes bs (o.hc bs gs st ls)).map (·.1)++st.d:=hd
  rw [uw,not_or] at hd;have hgi:=ev.goes.i r b hb;refine Eq.trans ?_ (hr.fix r b hb hd.2);by_cases hm:r∈bs
  ·obtain⟨q,sg,rfl⟩:=kY hm
   obtain⟨b',q1,q2⟩:=hig q _ (ff sg);rw [hgi] at q2;cases q2;refine Kv q b q1 (fun hc=>hd.1 ?_);rw [<-pP q] at hc;obtain⟨t,ht⟩:=OT hc;have hrc:q<(o.hc bs gs st ls).length:=om;exact xZ.2 ⟨_,Ku q ht (ff sg) (ff hrc),rfl⟩
  ·exact hsame r b hgi hm
 ·intro i c0 hm
  have hm:(i,c0)∈mu (fun q=>(o.n2 bs gs st).g[q]?) o.soft (oC o.boxes (o.res.put (o.n2 bs gs st) ls).2)++Jn gs st.c:=hm;rcases uw.1 hm with hm|hm
  ·rw [eU] at hm
   obtain⟨q,e1,e2⟩:=zR hm;obtain⟨x',hd,h1,h2⟩:=hS q c0 e2;have sg:q<o.rows.length:=by rw [<-aet];exact (eG.1 h1).1
   have hqn:q<nT.length:=om;obtain⟨ro,x1,q1,q2,q3,q4⟩:=hent q _ (ff hqn);rw [h1] at q2;have q2:=uv q2;simp only [ac1] at q2;obtain⟨q2a,q2b⟩:=q2
   have Zv:nT[q].1.e=x'.e/\nT[q].1.k=x'.k:=by
    rw [q2a,q3,q4];by_cases DN:q<gg.length
    ·have e1:g0[q]? = some {gg[q].1 with aG:=0}:=by simp [g0,aJ.dJ,DN]
     have e2:(gg.map (·.1))[q]? = some gg[q].1:=by simp [DN]
     rw [e1,e2];cases ro<;>simp [rowAt]
    ·have e1:g0[q]? = none:=Qm om
     have e2:(gg.map (·.1))[q]? = none:=Qm bE;rw [e1,e2];exact⟨rfl,rfl⟩
   refine⟨nT[q].1,hd,?_,h2.keep Zv.1 Zv.2 (fun _ _ h=>h) (fun _ _ _ _ h=>h) (fun b _=>⟨rfl,fun _ h=>h⟩)⟩;by_cases DN:q<gs.length
   ·obtain⟨y,r1,r2⟩:=Kt q _ (ff DN)
    have:i=gs[q]:=by
     simp only [Outs.n2] at e1;rw [uu DN,ff DN] at e1;exact (uv e1).symm
    rw [this,Zt q _ _ (ff DN) (eG.1 r2).1 (ff hqn),q2b]
   ·have:i=st.g.length+(q-gs.length):=by
     simp only [Outs.n2] at e1;rw [H7 om,adr om] at e1;have:=uv e1;omega
    rw [this,<-amB,acA q _ om (ff hqn),q2b]
  ·obtain⟨hmc,hng⟩:=zQ hm
   obtain⟨x,hd,h1,h2⟩:=hr.fR i c0 hmc;obtain⟨n,xs,g1,g2,g3⟩:=hr.boxes.grow i x hd h1
   have hun:∀b,hd.ownBlock=some b->¬ (G.dJ is gg).Dg b:=fun b hbk hf=>by
    rcases hf with hf|hf
    ·exact (g3 b hbk).2.1 (Zu b hf)
    ·obtain⟨j,j',x',h',e1,e2,e3⟩:=BD b hf
     have:=hr.boxes.apart i j' x hd x' h' b h1 e2 hbk e3;exact hng (by rw [this];exact iV e1)
   refine⟨x,hd,?_,h2.keep rfl rfl Kw.pr Kw.cells (fun b hbk=>⟨hE.old b (g3 b hbk).1 (hun b hbk),fun oo hp=>?_⟩)⟩
   ·exact acz i _ hng h1
   ·rcases hE.nh b oo (g3 b hbk).1 hp with q'|q'
    ·exact q'
    ·exact (hun b hbk (.inr q')).elim
end
end Go.RT
namespace Go.RT
variable {E : TEnv}
def ug(c:CT)(d:TV E)(st:TS E):TV E×TS E:=match c,d with
 | .dat _,.dU j aG=>match st.g[j]?,nJ st.c j with
  | some g,some c=>cond (Nat.beq g.aG aG) (.dat (.aZ c.1) c.2,{st with c:=mG j st.c}) (.dU j aG,st)
  | _,_=>(.dU j aG,st)
 | _,d=>(d,st)
def Em:J CT->J (TV E)->TS E->J (TV E)×TS E
 | c::cs,d::ds,st=>((ug c d st).1::(Em cs ds (ug c d st).2).1,(Em cs ds (ug c d st).2).2)
 | _,ds,st=>(ds,st)
def En(p:PT)(d:TV E)(st:TS E):TV E×TS E:=match p,d with
 | .one c,d=>ug c d st
 | .dc cs,.tuple ds=>(.tuple (Em cs ds st).1,(Em cs ds st).2)
 | _,d=>(d,st)
def w8:J PT->J (TV E)->TS E->J (TV E)×TS E
 | p::ps,d::ds,st=>((En p d st).1::(w8 ps ds (En p d st).2).1,(w8 ps ds (En p d st).2).2)
 | _,ds,st=>(ds,st)
def oh(st st':TS E):Prop:=∃c',st'={st with c:=c'}
theorem oh.refl(st:TS E):oh st st:=⟨st.c,rfl⟩
theorem oh.trans{s1 s2 s3:TS E}(h1:oh s1 s2)(h2:oh s2 s3):oh s1 s3:=by
 obtain⟨c1,rfl⟩:=h1;obtain⟨c2,rfl⟩:=h2;exact⟨c2,rfl⟩
section
variable {w0 w : U} {G0 G : aJ} {a : Act}
theorem QK(c:CT)(d:TV E){st:TS E}(hr:Rel E w0 G0 st a w G):oh st (ug c d st).2/\∃G',Rel E w0 G0 (ug c d st).2 a w G'/\gZ w G w G'/\∀v,VT E w G d v->VT E w G' (ug c d st).1 v:=by
 have uS:oh st st/\∃G',Rel E w0 G0 st a w G'/\gZ w G w G'/\∀v,VT E w G d v->VT E w G' d v:=⟨oh.refl st,G,hr,gZ.refl w G,fun _ h=>h⟩;unfold ug;split
 ·rename_i t j aG
  split
  ·rename_i g c hg hc
   cases hb:Nat.beq g.aG aG
   ·exact uS
   ·obtain rfl:=eo hb
    obtain⟨G',hR,zM,h1⟩:=hr.ams hg hc;exact⟨⟨_,rfl⟩,G',hR,zM,h1⟩
  ·exact uS
 ·exact uS
theorem Zw:∀(cs:J CT)(ds:J (TV E)){st:TS E}{G:aJ},Rel E w0 G0 st a w G->oh st (Em cs ds st).2/\∃G',Rel E w0 G0 (Em cs ds st).2 a w G'/\gZ w G w G'/\∀vs,bD E w G ds vs->bD E w G' (Em cs ds st).1 vs
 | [],ds,st,G,hr=>by
  grind [Em,oh.refl,gZ.refl]
 | c::cs,[],st,G,hr=>by
  grind [Em,oh.refl,gZ.refl]
 | c::cs,d::ds,st,G,hr=>by
  obtain⟨o1,G1,eF,g1,v1⟩:=QK c d hr;obtain⟨o2,G2,hr2,g2,v2⟩:=Zw cs ds eF;refine⟨o1.trans o2,G2,hr2,g1.trans g2,fun vs hv=>?_⟩;obtain⟨u,us,rfl,h1,h2⟩:=hv.cons_inv;exact .cons ((v1 u h1).mono g2) (v2 us (h2.mono g1))
theorem Zx(p:PT)(d:TV E){st:TS E}(hr:Rel E w0 G0 st a w G):oh st (En p d st).2/\∃G',Rel E w0 G0 (En p d st).2 a w G'/\gZ w G w G'/\∀v,VT E w G d v->VT E w G' (En p d st).1 v:=by
 unfold En
 grind [QK,Zw,VT,oh.refl,gZ.refl]
theorem Na:∀(ps:J PT)(ds:J (TV E)){st:TS E}{G:aJ},Rel E w0 G0 st a w G->oh st (w8 ps ds st).2/\∃G',Rel E w0 G0 (w8 ps ds st).2 a w G'/\gZ w G w G'/\∀vs,bD E w G ds vs->bD E w G' (w8 ps ds st).1 vs
 | [],ds,st,G,hr=>by
  grind [w8,oh.refl,gZ.refl]
 | c::cs,[],st,G,hr=>by
  grind [w8,oh.refl,gZ.refl]
 | c::cs,d::ds,st,G,hr=>by
  obtain⟨o1,G1,eF,g1,v1⟩:=Zx c d hr;obtain⟨o2,G2,hr2,g2,v2⟩:=Na cs ds eF;refine⟨o1.trans o2,G2,hr2,g1.trans g2,fun vs hv=>?_⟩;obtain⟨u,us,rfl,h1,h2⟩:=hv.cons_inv;exact .cons ((v1 u h1).mono g2) (v2 us (h2.mono g1))
theorem Rel.agq{st:TS E}(h:Rel E w0 G0 st a w G){i:Nat}(hi:st.t[i]? = some (.val (.slice none 0 0)))(e:aC)(T:Ty)(hT:0<T.size E):
  ∃G',Rel E w0 G0 {st with t:=st.t.set i (.dU st.g.length 0),g:=st.g++[⟨0,e,T.size E⟩],c:=(st.g.length,⟨T,[]⟩)::st.c} a w G':=by
 have hN:=h.Jl e (T.size E);have hl:=h.o4;have kK:(G.g++[(⟨0,e,T.size E⟩,Value.slice none 0 0)])[st.g.length]? = some (⟨0,e,T.size E⟩,.slice none 0 0):=by rw [<-hl];simp
 have hC:=hN.UO (c:=⟨T,[]⟩) ⟨_,_,kK,rfl,hT,⟨[],⟨si,.inl ⟨rfl,rfl⟩⟩,Flat.nil⟩,fun b hb=>by cases hb⟩;refine⟨_,hC.eL,by simpa using hC.size,fun j d hj=>?_,hC.defers,hC.boxes,hC.fix,hC.pins,hC.fR⟩;simp [Uc] at hj;by_cases hij:i=j
 ·subst hij
  have hlt:=(eG.1 hi).1;simp [hlt] at hj;subst hj;have hv:=h.tmps i _ hi;rw [hv];exact⟨_,_,kK,dY _,rfl,fun _=>rfl⟩
 ·rw [if_neg hij] at hj
  exact hN.tmps j d hj
theorem Rel.aew{st:TS E}(h:Rel E w0 G0 st a w G){r c:Nat}{t:aC}{cs:J (TV E)}(hr:st.H[r]? = some (.cells t cs))(hc:cs[c]? = some (.val (.slice none 0 0)))(e:aC)(T:Ty)(hT:0<T.size E):
  ∃G',Rel E w0 G0 {st with H:=st.H.set r (.cells t (cs.set c (.dU st.g.length 0))),g:=st.g++[⟨0,e,T.size E⟩],d:=r::st.d,c:=(st.g.length,⟨T,[]⟩)::st.c} a w G':=by
 have hN:=h.Jl e (T.size E);have hl:=h.o4;have kK:(G.g++[(⟨0,e,T.size E⟩,Value.slice none 0 0)])[st.g.length]? = some (⟨0,e,T.size E⟩,.slice none 0 0):=by rw [<-hl];simp
 have hC:=hN.UO (c:=⟨T,[]⟩) ⟨_,_,kK,rfl,hT,⟨[],⟨si,.inl ⟨rfl,rfl⟩⟩,Flat.nil⟩,fun b hb=>by cases hb⟩;have hlr:r<G.i.length:=by rw [h.boxes.len];grind
 have hat:=ff hlr;have hS:=hC.wY hat rfl rfl rfl rfl (fun _ _=>rfl) (x:=.cells t (cs.set c (.dU st.g.length 0))) (fun _=>?_)
 ·exact⟨_,hS⟩
 ·obtain⟨vs,h1,h2,h3⟩:=hC.boxes.box r _ _ hat hr
  refine⟨vs,h1,h2,?_⟩;obtain⟨u,hu,hv⟩:=h3.get c hc;subst hv
  have key:∀(G1:aJ)(cs:J (TV E))(vs:J Value)(c:Nat)(d:TV E),bD E w G1 cs vs->vs[c]? = some (.slice none 0 0) ->
    VT E w G1 d (.slice none 0 0)->bD E w G1 (cs.set c d) vs:=by
   intro G1 cs
   induction cs with
   | nil=>simp_all
   | cons x cs ih=>
    intro vs c d h1 h2 h3;obtain⟨u,us,rfl,q1,q2⟩:=h1.cons_inv
    cases c with
    | zero=>simp at h2;subst h2;exact .cons h3 q2
    | succ c=>exact .cons q1 (ih us c d q2 (by simpa using h2) h3)
  refine key _ cs vs.toList c _ h3 hu ?_;simp [VT]
  grind
end
end Go.RT
namespace Go.RT
variable {E : TEnv}
structure Fr(W:List Nat)(nd:Bool)(st st':TS E):Prop where
 len:st'.t.length=st.t.length
 keep:∀i,i∉W->st'.t[i]? = st.t[i]?
 d:∃D,st'.d=D++st.d/\∀r,r<st.H.length->r∉D->st'.H[r]? = st.H[r]?
 hl:st.H.length<=st'.H.length
 df:nd=true->st'.df=st.df
theorem Fr.refl(W:J Nat)(nd:Bool)(st:TS E):Fr W nd st st:=⟨rfl,fun _ _=>rfl,⟨[],rfl,fun _ _ _=>rfl⟩,dY _,fun _=>rfl⟩
theorem Fr.trans{W1 W2 W:J Nat}{n1 n2 n:Bool}{s1 s2 s3:TS E}(h1:Fr W1 n1 s1 s2)(h2:Fr W2 n2 s2 s3)(hw1:∀i,i∈W1->i∈W)(zu:∀i,i∈W2->i∈W)(hn:n=true->n1=true/\n2=true):Fr W n s1 s3:=by
 obtain⟨D1,d1,e1⟩:=h1.d;obtain⟨D2,d2,e2⟩:=h2.d;refine⟨h2.len.trans h1.len,fun i hi=>(h2.keep i (fun h=>hi (zu i h))).trans (h1.keep i (fun h=>hi (hw1 i h))),⟨D2++D1,by simp_all,fun r hr hd=>?_⟩,nw h1.hl h2.hl,fun h=>(h2.df (hn h).2).trans (h1.df (hn h).1)⟩
 grind
theorem Fr.wide{W W':J Nat}{n n':Bool}{s s':TS E}(h:Fr W n s s')(hw:∀i,i∈W->i∈W')(hn:n'=true->n=true):Fr W' n' s s':=
 ⟨h.len,fun i hi=>h.keep i (fun hm=>hi (hw i hm)),h.d,h.hl,fun h'=>h.df (hn h')⟩
def hU:O Nat->J Nat
 | some i=>[i]
 | none=>[]
theorem Kx(l:J (TV E))(dst:O Nat)(d:TV E):(cg l dst d).length=l.length:=by cases dst<;>simp [cg]
theorem Hq(l:J (TV E))(dst:O Nat)(d:TV E)(i:Nat)(h:i∉hU dst):(cg l dst d)[i]? = l[i]?:=by
 cases dst with
 | none=>rfl
 | some j=>
  grind [hU,List.mem_singleton,cg,List.getElem?_set_ne]
theorem Fr.put(st:TS E)(dst:O Nat)(d:TV E):Fr (hU dst) true st {st with t:=cg st.t dst d}:=
 ⟨Kx _ _ _,fun i hi=>Hq _ _ _ _ hi,⟨[],rfl,fun _ _ _=>rfl⟩,dY _,fun _=>rfl⟩
theorem Fr.aif(st:TS E)(dst:O Nat)(d:TV E)(H:J (eS E))(g:J bQ)(D:J Nat)(c:J (Nat×Cn E))(hH:∀r,r<st.H.length->r∉D->H[r]? = st.H[r]?)(hl:st.H.length<=H.length):
  Fr (hU dst) true st {st with t:=cg st.t dst d,H:=H,g:=g,d:=D++st.d,c:=c}:=
 ⟨Kx _ _ _,fun i hi=>Hq _ _ _ _ hi,⟨D,rfl,hH⟩,hl,fun _=>rfl⟩
theorem Fr.mem(st:TS E)(dst:O Nat)(d:TV E)(H:J (eS E))(g:J bQ)(D:J Nat)(hH:∀r,r<st.H.length->r∉D->H[r]? = st.H[r]?)(hl:st.H.length<=H.length):
  Fr (hU dst) true st {st with t:=cg st.t dst d,H:=H,g:=g,d:=D++st.d}:=
 ⟨Kx _ _ _,fun i hi=>Hq _ _ _ _ hi,⟨D,rfl,hH⟩,hl,fun _=>rfl⟩
theorem Ky{α:Type}(l m:J α):∀r,r<l.length->r∉([]:J Nat)->(l++m)[r]? = l[r]?:=fun r hr _=>by grind
theorem BE{α:Type}(l:J α)(q:Nat)(x:α):∀r,r<l.length->r∉[q]->(l.set q x)[r]? = l[r]?:=fun r _ hd=>by
 grind
theorem aih{P:aE}{ty:aC->O Ty}{st st':TS E}{dst:O Nat}{op:Op}{c:Bool}(h:Su P ty st dst op=some (c,st')):Fr (hU dst) true st st':=by
 cases op<;>simp [Su] at h<;>try trivial
 case alloc t=>split at h<;>cases h;exact Fr.mem st dst _ _ st.g [] (Ky _ _) si
 case box t x=>split at h<;>cases h;exact Fr.mem st dst _ _ st.g [] (Ky _ _) si
 case store t x y=>
  split at h<;>try trivial
  split at h<;>cases h;exact Fr.mem st dst _ _ st.g [_] (BE _ _ _) si
 case buildSlice t len parts=>
  split at h<;>try trivial
  split at h<;>try trivial
  split at h<;>try trivial
  cases hl:Nat.beq len 0<;>rw [hl] at h<;>simp only [bf,aO] at h
  ·cases h
   exact Fr.mem st dst _ st.H _ [] (fun _ _ _=>rfl) (dY _)
  ·generalize E.zc _=z at h
   cases z<;>simp only [bf,aO] at h<;>cases h
   ·exact Fr.mem st dst _ st.H st.g [] (fun _ _ _=>rfl) (dY _)
   ·exact Fr.mem st dst _ st.H _ [] (fun _ _ _=>rfl) (dY _)
 case call c'=>
  unfold aed at h;split at h<;>try trivial
  ·split at h<;>try trivial
   split at h<;>try trivial
   split at h<;>try trivial
   split at h<;>try trivial
   ·split at h<;>try trivial
    split at h<;>cases h;exact Fr.mem st dst _ st.H _ [] (fun _ _ _=>rfl) (dY _)
   ·cases h
    exact Fr.mem st dst _ st.H _ [] (fun _ _ _=>rfl) (dY _)
  ·split at h<;>try trivial
   split at h<;>cases h;exact Fr.mem st dst _ st.H _ [] (fun _ _ _=>rfl) (dY _)
 case convert src dt x=>
  grind [Fr.put]
 case makeMap t res=>
  cases res with
  | some x=>simp at h
  | none=>
   simp only at h;split at h<;>try trivial
   split at h<;>cases h;exact Fr.mem st dst _ _ st.g [] (Ky _ _) si
 case mapUpdate t x y z=>
  split at h<;>try trivial
  split at h<;>try trivial
  split at h<;>cases h;exact Fr.mem st dst _ _ st.g [_] (BE _ _ _) si
 grind [Fr.put]
theorem Fr.c(st:TS E)(dst:O Nat)(d:TV E)(g:J bQ)(c:J (Nat×Cn E)):Fr (hU dst) true st {st with t:=cg st.t dst d,g:=g,c:=c}:=
 Fr.aif st dst d st.H g [] c (fun _ _ _=>rfl) (dY _)
theorem akI{P:aE}{ty:aC->O Ty}{st st':TS E}{dst:O Nat}{op:Op}{c:Bool}(h:BB P ty st dst op=some (c,st')):Fr (hU dst) true st st':=by
 cases op<;>try trivial
 case load t x=>
  grind [BB,Fr.put]
 case store t x y=>
  simp [BB] at h;split at h<;>try trivial
  grind [Fr.c]
 case makeSlice t x y=>
  grind [BB,Fr.c]
 case slice t x lo hi mx=>
  cases lo with
  | some _=>cases h
  | none=>
  cases hi with
  | none=>cases h
  | some hi=>
  cases mx with
  | some _=>cases h
  | none=>
  grind [BB,Fr.c]
 case call cl=>
  simp [BB] at h;unfold aei at h;split at h<;>try trivial
  ·split at h<;>try trivial
   grind [Fr.c]
theorem akJ{P:aE}{ty:aC->O Ty}{st st':TS E}{dst:O Nat}{op:Op}{c:Bool}(h:Zf P ty st dst op=some (c,st')):Fr (hU dst) true st st':=by
 cases op<;>simp [Zf] at h<;>try trivial
 case alloc t=>
  grind [Fr.c]
 case box t x=>
  grind [Fr.c]
 case load t x=>
  grind [Fr.put]
theorem akK{P:aE}{ty:aC->O Ty}{st st':TS E}{dst:O Nat}{op:Op}{c:Bool}(h:Zd P ty st dst op=some (c,st')):Fr (hU dst) true st st':=by
 cases op<;>simp [Zd] at h<;>try trivial
 cases hb:aef ty dst<;>rw [hb] at h<;>simp only [bf,aO] at h
 ·cases h
 split at h<;>try trivial
 split at h<;>try trivial
 split at h<;>try trivial
 cases h;exact Fr.aif st dst _ st.H _ [] _ (fun _ _ _=>rfl) (dY _)
theorem akL{P:aE}{ty:aC->O Ty}{st st':TS E}{dst:O Nat}{op:Op}{c:Bool}(h:Zg P ty st dst op=some (c,st')):Fr (hU dst) true st st':=by
 unfold Zg at h;split at h
 ·grind [akK]
 split at h
 rotate_left
 ·cases op<;>simp [aeq] at h<;>try trivial
  split at h<;>try trivial
  split at h<;>cases h;exact Fr.mem st dst _ _ st.g [_] (BE _ _ _) si
 grind [aem,akJ,XS,aih,akI]
theorem Fr.ofC{W:J Nat}{n:Bool}{s s1 s':TS E}(hc:oh s s1)(h:Fr W n s1 s'):Fr W n s s':=by
 obtain⟨c,rfl⟩:=hc;exact⟨h.len,h.keep,h.d,h.hl,h.df⟩
structure Sl where
 b:List (Option Nat)
 g:List (Option Nat)
def Sl.UQ(s:Sl)(r r':Nat):Sl:={s with b:=s.b.set r (some r')}
def Sl.aii(s:Sl)(r r':Nat):Sl:={s with g:=s.g.set r (some r')}
def Zy(s:Sl):J (Nat×Nat)->J (TV E)->Sl
 | (r,_)::cs,.ptr r' _::ds=>Zy (s.UQ r r') cs ds
 | _::cs,_::ds=>Zy s cs ds
 | _,_=>s
def CT.un(s:Sl):CT->TV E->Sl
 | .ptr r _,.ptr r' _=>s.UQ r r'
 | .oY r _,.ptr r' _=>s.UQ r r'
 | .oY r _,.oY _ r' _=>s.UQ r r'
 | .iW r,.iW r'=>s.UQ r r'
 | .tn r,.tn r'=>s.UQ r r'
 | .ck j _,.ck j' _ _ _=>s.aii j j'
 | .dU j,.dU j' _=>s.aii j j'
 | .gU j _,.gU j' _ _ _ _=>s.aii j j'
 | .func _ caps,.func _ cs=>Zy s caps cs
 | _,_=>s
def CT.unL(s:Sl):J CT->J (TV E)->Sl
 | c::cs,ds=>match c.pk? with
  | some t=>CT.unL s cs (ds.drop (t.size E))
  | none=>match ds with
   | d::ds=>CT.unL (c.un s d) cs ds
   | []=>s
 | _,_=>s
def PT.un(s:Sl):PT->TV E->Sl
 | .one c,d=>c.un s d
 | .agg cs,.agg ds=>CT.unL s cs ds
 | .dc cs,.tuple ds=>CT.unL s cs ds
 | _,_=>s
def ajU(s:Sl):J PT->J (TV E)->Sl
 | p::ps,d::ds=>ajU (p.un s d) ps ds
 | _,_=>s
def ajV(H:J (eS E)):Nat->J BT->Sl->Sl
 | _,[],s=>s
 | r,t::ts,s=>ajV H (r+1) ts (match t,(s.b[r]?.getD none).bind (H[·]?) with
  | .cells _ cs,some (.cells _ ds)=>CT.unL s cs ds
  | .loop _ cs,some (.loop _ ds)=>CT.unL s cs ds
  | _,_=>s)
def p8:J (O Nat)->J Nat
 | []=>[]
 | some x::xs=>x::p8 xs
 | none::xs=>p8 xs
def cN.dJ(s:cN)(st:TS E)(ds:J (TV E)):Sl:=
 ajV st.H 0 s.boxes (ajU ⟨s.boxes.map fun _=>none,s.rows.map fun _=>none⟩ s.args ds)
def sm{α β γ:Type}(f:α->γ)(g:β->γ):α ⊕ β->γ
 | .inl x=>f x
 | .inr y=>g y
def okK{R:Type}(o:Outs)(bs gs:J Nat)(st:TS E)(dst:O Nat)(k:Ex E->TS E->O R)(y:dens E o.tys):O R:=
 k .normal {o.after bs gs st (aR o.tys y) with t:=cg st.t dst (o.val bs gs st (aR o.tys y))}
def apq{R:Type}(o:Outs)(bs gs:J Nat)(st:TS E)(k:Ex E->TS E->O R)(y:dens E o.tys):O R:=
 k (.panic (o.val bs gs st (aR o.tys y))) (o.after bs gs st (aR o.tys y))
def Zz{R:Type}(s:cN)(bs gs:J Nat)(st:TS E)(dst:O Nat)(k:Ex E->TS E->O R):(p:O Outs)->OutP E s.out p->O R
 | none=>okK s.out bs gs st dst k
 | some q=>sm (okK s.out bs gs st dst k) (apq q bs gs st k)
def Outs.wf(o:Outs)(nb ng:Nat):Bool:=yw nb o.boxes&&Nat.ble ng o.rows.length
def cN.wf(s:cN)(nb ng:Nat):Bool:=s.out.wf nb ng&&(match s.kS with|none=>true|some q=>q.wf nb ng)
def qm{R:Type}(st:TS E)(dst:Option Nat)(f:FuncId)(ds:J (TV E))(k:Ex E->TS E->Option R):J (bB E)->Option R
 | []=>none
 | C::Γ=>cond (Nat.beq C.s.f f)
   (match w8 C.s.args ds st with
    | (ds',st')=>match C.s.enter (p8 (C.s.dJ st' ds').b) (p8 (C.s.dJ st' ds').g) st' ds' with
     | some ls=>match getAll C.s.tys ls with
      | some x=>rq (C.s.wf (p8 (C.s.dJ st' ds').b).length (p8 (C.s.dJ st' ds').g).length) ((C.m x).bind (Zz C.s (p8 (C.s.dJ st' ds').b) (p8 (C.s.dJ st' ds').g) st' dst k C.s.kS))
      | none=>qm st dst f ds k Γ
     | none=>qm st dst f ds k Γ)
   (qm st dst f ds k Γ)
def zS(P:aE)(o:Oper)(W:J Nat)(nd:Bool)(st:TS E)(Q:Ex E->TS E->Prop):Prop:=
 ∀w0 G0 a w G,Rel E w0 G0 st a w G->o.wp P a w (fun a' w'=>∃st' G',Rel E w0 G0 st' a' w' G'/\Q .normal st'/\Fr W nd st st') (cy E w0 G0 fun x st'=>x≠.normal/\Q x st'/\Fr W nd st st')
section
variable {P : aE} {st : TS E} {o : Oper} {Q : Ex E -> TS E -> Prop}
theorem zS.BF{W:J Nat}{nd:Bool}{st':TS E}(h:∀w0 G0 a w G,Rel E w0 G0 st a w G->jx P w0 G0 a w o st')(hQ:Q .normal st')(hF:Fr W nd st st'):zS P o W nd st Q:=by
 intro w0 G0 a w G hr;obtain⟨nx,v,w',G',hrun,hnx,hr'⟩:=h w0 G0 a w G hr;unfold Oper.wp;rw [hrun];rcases hnx with rfl|⟨rfl,rfl⟩
 ·exact⟨st',G',hr',hQ,hF⟩
 ·exact⟨st',G',hr',hQ,hF⟩
theorem aex{a:Act}{w:U}{next:Act->U->Prop}{QQ:Exit->Act->U->Prop}{f:FuncId}{args:aI Value}{R:Ending->U->Prop}(hrun:(execOp a.eval o).run P w=(callFunc f args).run P w)(h:jQ P f args w R)
  (h1:∀v w',R (.returned v) w'->next (a.put o.dst v) w') (h2:∀ch w',R (.panicked ch) w'->QQ (.panic ch) a w') (h3:∀w',¬ R .outgrown w'):o.wp P a w next QQ:=by
 unfold Oper.wp;rw [hrun];unfold jQ at h;split at h
 ·rename_i f' args' w' hr
  rw [hr];refine Fk h fun e w'' he=>?_
  grind
 ·rename_i v w' hr
  rw [hr];exact h1 v w' h
 ·exact h.elim
theorem Nb{w0 w:U}{G0 G:aJ}{a:Act}(hr:Rel E w0 G0 st a w G):∀l:J bx,bD E w G (l.map st.ev) (l.map a.eval)
 | []=>.nil
 | x::l=>.cons (hr.ev x) (Nb hr l)
theorem Outs.QL(ot:Outs)(bs gs:J Nat)(st:TS E)(ls:J (Lf E))(dst:O Nat)(d:TV E):Fr (hU dst) true st {ot.after bs gs st ls with t:=cg st.t dst d}:=
 Fr.aif st dst d _ _ _ _ (fun r hr hd=>by
  show (jG (o5 ot.boxes bs (ot.hc bs gs st ls)) st.H++(ot.hc bs gs st ls).drop bs.length)[r]? = _
  grind [List.getElem?_append_left,gj,sN]) (by
  show _<=(jG (o5 ot.boxes bs (ot.hc bs gs st ls)) st.H++(ot.hc bs gs st ls).drop bs.length).length;simp [gj])
theorem oR.eL{w0 w:U}{G0 G:aJ}(h:oR E w0 G0)(hE:kn w0 G0 w G):oR E w G:=by
 intro b ob hb;obtain⟨⟨cs,t,m,h1,hp⟩,h2⟩:=h b ob hb;have hlt:=(yZ.1 h1).1;refine⟨⟨cs,t,m,(hE.old b hlt h2).trans h1,hp⟩,fun hf=>h2 ?_⟩;rcases hf with hf|⟨x,hd,hm,hbk⟩
 ·obtain⟨q,hq,he⟩:=kY hf
  have SD:G.i[q]? = some b:=by simp_all
  by_cases sg:q<G0.i.length
  ·have e1:=hE.goes.i q _ (ff sg)
   exact .inl (by simp_all)
  ·have:=hE.pU q b om SD;omega
 ·obtain⟨j,hj,he⟩:=kY hm
  rcases hE.gr j x hd b (by simp_all) hbk with q|⟨x0,h0,q1,q2⟩
  ·omega
  ·exact .inr ⟨x0,h0,iV q1,q2⟩
theorem Rel.SF{w0 w:U}{G0 G:aJ}{a:Act}(h:Rel E w0 G0 st a w G):oR E w G:=h.pins.eL h.eL
theorem ZA{α:Type}{l r:J α}{is:J Nat}(h:pick l is=some r){x:α}(hx:x∈r):x∈l:=by
 obtain⟨j,hj,he⟩:=kY hx;obtain⟨hl,hg⟩:=qB h;have hj':j<is.length:=om;obtain⟨y,h1,h2⟩:=hg j is[j] (ff hj')
 grind
theorem oR.dJ{w:U}{G:aJ}{bs gs is:J Nat}{gg:J (bQ×Value)}(h:oR E w G)(hi:pick G.i bs=some is)(hg:pick G.g gs=some gg):oR E w (G.dJ is gg):=fun b ob hb=>by
 obtain⟨h1,h2⟩:=h b ob hb;refine⟨h1,fun hf=>h2 ?_⟩;rcases hf with hf|⟨x,hd,hm,hbk⟩
 ·exact .inl (ZA hi hf)
 ·obtain⟨y,hy,e⟩:=xZ.1 hm
  cases e;exact .inr ⟨y.1,y.2,ZA hg hy,hbk⟩
theorem Nc(hE:E.Ok){R:Type}{f:FuncId}{ds:J (TV E)}
  (SG:∀w0 G0 a w G,Rel E w0 G0 st a w G->∃vs:Array Value,bD E w G ds vs.toList/\(execOp a.eval o).run P w=(callFunc f vs).run P w) {k:Ex E->TS E->Option R} {r:R} :
  ∀ {Γ:J (bB E)},(∀C∈Γ,C.Ok P)->qm st o.dst f ds k Γ=some r->zS P o (hU o.dst) true st (fun x st'=>k x st'=some r)
 | [],_,h=>by cases h
 | C::Γ,hΓ,h=>by
  have eU:qm st o.dst f ds k Γ=some r->zS P o (hU o.dst) true st (fun x st'=>k x st'=some r):=Nc hE SG (fun C' hC=>hΓ C' (by simp [hC]));simp [qm] at h;cases hf:Nat.beq C.s.f f<;>rw [hf] at h<;>simp at h
  ·exact eU h
  have hf:=eo hf;obtain⟨SH,jh,hhs⟩:∃SH jh,w8 C.s.args ds st=(SH,jh):=⟨_,_,rfl⟩;rw [hhs] at h;split at h
  ·rename_i ls hls
   split at h
   ·rename_i xx hxx
    generalize AL:p8 (C.s.dJ jh SH).b=bs at *;generalize Zm:p8 (C.s.dJ jh SH).g=gs at *;obtain⟨hwf,h⟩:=dB h
    cases hm:C.m xx with
    | none=>rw [hm] at h;cases h
    | some y=>
     intro w0 G0 a w G0' hr;obtain⟨vs0,Nf,SI⟩:=SG w0 G0 a w G0' hr;obtain⟨OU,G,eF,zM,hvs⟩:=Na C.s.args ds hr;have hargs:=hvs _ Nf;rw [hhs] at eF hargs OU;have hr:=eF
     have hnd:bs.Nodup/\gs.Nodup/\bs.length=C.s.boxes.length/\C.s.rows.length=gs.length:=by
      unfold cN.enter at hls;split at hls<;>try (cases hls;done)
      rename_i H g hH hg;cases oZ:(uQ bs&&(uQ gs&&(Nat.beq bs.length C.s.boxes.length&&yu C.s.rows g)))<;>rw [oZ] at hls<;>simp only [bf] at hls
      ·cases hls
      simp only [cw] at oZ;exact⟨uR oZ.1,uR oZ.2.1,eo oZ.2.2.1,by rw [(Cb oZ.2.2.2).1,(qB hg).1]⟩
     obtain⟨is,gg,hi,zJ,hB,hS,hV⟩:=hr.enter hE hls hargs;have hput:=CC _ hxx;have hok:=hΓ C si xx y hm w (G.dJ is gg) vs0 (hr.SF.dJ hi zJ) (by rw [hput];exact hB) (by rw [hput];exact hS) (by rw [hput];exact hV);have hrun:=SI;have hg0:=hB.gs
     have hwf':∀(q:Outs),q.wf bs.length gs.length=true->yw bs.length q.boxes=true/\gs.length<=q.rows.length:=fun q hq=>by
      simp_all [Outs.wf,cw,kZ]
     unfold cN.wf at hwf;rw [cw] at hwf
     have Ng:∀(y:dens E C.s.out.tys)(v:Value)(w':World),okK C.s.out bs gs jh o.dst k y=some r ->
       (∃v1 G',Ending.returned v=Ca (C.s.out.lU true (C.s.H (aR C.s.tys xx)) C.s.g0 (aR C.s.out.tys y)).ok v1/\kn w (G.dJ is gg) w' G'/\kV E w' G' (C.s.out.lU true (C.s.H (aR C.s.tys xx)) C.s.g0 (aR C.s.out.tys y)).H (C.s.out.lU true (C.s.H (aR C.s.tys xx)) C.s.g0 (aR C.s.out.tys y)).g/\j8 E w' G' (C.s.out.lU true (C.s.H (aR C.s.tys xx)) C.s.g0 (aR C.s.out.tys y)).c /\
        VT E w' G' (C.s.out.lU true (C.s.H (aR C.s.tys xx)) C.s.g0 (aR C.s.out.tys y)).d v1/\∀(q b:Nat),(G.dJ is gg).i[q]? = some b->q∉(C.s.out.lU true (C.s.H (aR C.s.tys xx)) C.s.g0 (aR C.s.out.tys y)).D->w'.heap[b]? = w.heap[b]?) ->
       ∃st' G',Rel E w0 G0 st' (a.put o.dst v) w' G'/\k .normal st'=some r/\Fr (hU o.dst) true st st':=by
      rintro y v w' hk ⟨v1,G',he,hE,SJ,SK,SL,Kv⟩;simp [Outs.lU,Ca] at he;subst he;obtain⟨hs1,hs2⟩:=hwf' _ hwf.1;rw [<-hg0] at SJ SK SL;obtain⟨Gn,hR,hval⟩:=hr.leave hi zJ hnd.1 hnd.2.1 C.s.out hs1 hs2 hE SJ SK SL Kv;exact⟨_,Gn,hR.put hval o.dst,hk,(C.s.out.QL bs gs jh _ o.dst _).ofC OU⟩
     have fin:∀(p:Option Outs)(hp:C.s.kS=p)(y:OutP E C.s.out p),Zz C.s bs gs jh o.dst k p y=some r->jQ P f vs0 w (fun e w'=>
       ∃v G',e=Ca (jR C.s (C.s.H (aR C.s.tys xx)) p y).ok v/\kn w (G.dJ is gg) w' G'/\kV E w' G' (jR C.s (C.s.H (aR C.s.tys xx)) p y).H (jR C.s (C.s.H (aR C.s.tys xx)) p y).g/\j8 E w' G' (jR C.s (C.s.H (aR C.s.tys xx)) p y).c /\
        VT E w' G' (jR C.s (C.s.H (aR C.s.tys xx)) p y).d v/\∀(q b:Nat),(G.dJ is gg).i[q]? = some b->q∉(jR C.s (C.s.H (aR C.s.tys xx)) p y).D->w'.heap[b]? = w.heap[b]?) ->
       o.wp P a w (fun a' w'=>∃st' G',Rel E w0 G0 st' a' w' G'/\k .normal st'=some r/\Fr (hU o.dst) true st st') (cy E w0 G0 fun x st'=>x≠.normal/\k x st'=some r/\Fr (hU o.dst) true st st'):=by
      intro p hp y hk hI;refine aex hrun hI (fun v w' hR=>?_) (fun ch w' hR=>?_) (fun w' hR=>?_)
      ·cases p with
       | none=>exact Ng y v w' hk hR
       | some q=>
        cases y with
        | inl y=>exact Ng y v w' hk hR
        | inr y=>
         obtain⟨v1,G',he,-⟩:=hR;cases he
      ·cases p with
       | none=>
        obtain⟨v1,G',he,-⟩:=hR
        cases he
       | some q=>
        cases y with
        | inl y=>
         obtain⟨v1,G',he,-⟩:=hR
         cases he
        | inr y=>
         obtain⟨v1,G',he,hE,SJ,SK,SL,Kv⟩:=hR;simp [jR,Outs.lU,Ca] at he;subst he;have hq:q.wf bs.length gs.length=true:=by grind
         obtain⟨hs1,hs2⟩:=hwf' _ hq;simp [jR] at SJ SK SL Kv;rw [<-hg0] at SJ SK SL;obtain⟨Gn,hR,hval⟩:=hr.leave hi zJ hnd.1 hnd.2.1 q hs1 hs2 hE SJ SK SL Kv;exact⟨.panic (q.val bs gs jh (aR q.tys y)),_,Gn,⟨v1,rfl,hval⟩,hR,(fun h=>nomatch h),hk,((q.QL bs gs jh _ none .any).wide (fun i hi=>by cases hi) (fun h=>h)).ofC OU⟩
      grind [Ca,jR,aR]
     grind
   ·exact eU h
  ·exact eU h
theorem abC(hE:E.Ok){R:Type}{c:Call}{x:bx}{f:FuncId}{caps:J (TV E)}(ho:o.op=.call c)(hc:c.callee=.value x)(hx:st.ev x=.func (.func f) caps){k:Ex E->TS E->O R}{r:R}
  {Γ:J (bB E)} (hΓ:∀C∈Γ,C.Ok P) (h:qm st o.dst f (c.args.toList.map st.ev++caps) k Γ=some r):zS P o (hU o.dst) true st (fun x st'=>k x st'=some r):=by
 refine Nc hE (fun w0 G0 a w G hr=>?_) hΓ h;have hv:=hr.ev x;rw [hx] at hv;obtain⟨cv,FE,OV⟩:=hv;refine⟨c.args.map a.eval++cv,?_,?_⟩
 ·have:=(Nb hr c.args.toList).append OV
  simpa using this
 ·simp only [execOp,ho,resolve,hc,FE,Deferred.ofValue,invoke]
  simp
theorem abD(hE:E.Ok){R:Type}{c:Call}{x:bx}{f:FuncId}{fs:J (TV E)}(ho:o.op=.call c)(hc:c.callee=.value x)(hx:st.ev x=.FA (.func f) fs){k:Ex E->TS E->O R}{r:R}
  {Γ:J (bB E)} (hΓ:∀C∈Γ,C.Ok P) (h:qm st o.dst f (fs++c.args.toList.map st.ev) k Γ=some r):zS P o (hU o.dst) true st (fun x st'=>k x st'=some r):=by
 refine Nc hE (fun w0 G0 a w G hr=>?_) hΓ h;have hv:=hr.ev x;rw [hx] at hv;obtain⟨cv,FE,OV⟩:=hv;refine⟨cv++c.args.map a.eval,?_,?_⟩
 ·have:=OV.append (Nb hr c.args.toList)
  simpa using this
 ·simp only [execOp,ho,resolve,hc,FE,Deferred.ofValue,invoke]
  simp
end
end Go.RT
