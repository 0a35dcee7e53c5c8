import Derived.Test.YtlgmlcgjmcmmgaaGreatDoorRd
set_option linter.all false
namespace Go.RT
variable {E : TEnv}
section
variable {P : aD} {w0 w w' : U} {G0 G G' : aJ} {st : TS E} {a : Act} {o : Oper}
theorem Hv(hE:E.Ok)(hr:Rel E w0 G0 st a w G){t:aC}{x:bx}{i:TI}(ho:o.op=.load t x)(ht:aS P t=some i){j k ix off:Nat}{g:bO}{c:Cn E}(hd:st.ev x=.gX j g.aE k ix off)
  (hg:st.g[j]? = some g) (hc:nO st.c j=some c) (hk:k=c.1.size E) {d:TV E} (hp:TV.part c.1 (c.2.getD ix (c.1.dflt E)) i.isAgg i.size off=some d):jc P a w G o d:=by
 have hv:=hr.ev x;rw [hd] at hv;obtain⟨b,m,cap,hj,hlt,kW⟩:=hr.gX hg hv;obtain⟨h,hj',hs,-⟩:=hr.soft hg hc;rw [hj] at hj';cases hj';rcases hs.block with⟨h1,-⟩|⟨b',cap',cur,h1,hheap,hcap,hcm,hcs,hf,hnp⟩
 ·cases h1
 obtain⟨rfl,rfl,rfl⟩:=h1;obtain⟨vs,h2,h3,-,h4⟩:=VX hs.1 hheap hf (by simp_all [yl]) hlt;obtain⟨v,hv,hrun⟩:=rE ht h4 (Ko hE h2 hp);refine fI (f:=fun ρ=>Instr.loadAt t (ρ x)) (by simp [execOp,ho]) ⟨v,hv,fun w' hs'=>?_⟩;rw [kW,hk,<-hs.1];exact hrun w' (hs' (by rw [ho];rfl))
theorem Y5(A us C vals:J Value)(off:Nat)(h:off+vals.length<=us.length):
  ((A++us++C).take (A.length+off)++vals++(A++us++C).drop (A.length+off+vals.length))=A++(us.take off++vals++us.drop (off+vals.length))++C:=by
 have e1:(A++us++C).take (A.length+off)=A++us.take off:=by
  rw [Fs,ac1,Ii om,show A.length+off-A.length=off by omega,ac1,show off-us.length=0 by omega];simp
 have e2:(A++us++C).drop (A.length+off+vals.length)=us.drop (off+vals.length)++C:=by
  rw [Fs,acY,adk om,show A.length+off+vals.length-A.length=off+vals.length by omega,acY,show off+vals.length-us.length=0 by omega];simp
 simp_all
theorem abm(hE:E.Ok){T:Ty}{x:T.den E.D}{us:J Value}{cs:J (TV E)}(h:LD w G.pr us (T.cells E x))(hc:(TV.dat T x).nX=some cs):bC E w G cs us:=by
 simp [TV.nX] at hc;cases ha:T.isAgg<;>rw [ha] at hc<;>simp at hc
 ·cases hc
  have hl:us.length=1:=by
   rw [h.length];cases T<;>first|rfl|cases ha
  obtain⟨u,rfl⟩:=Xn.1 hl;exact .cons (.OD ha h) .nil
 grind [xb]
theorem abn(hE:E.Ok)(hr:Rel E w0 G0 st a w G){t:aC}{x y:bx}{i:TI}(ho:o.op=.store t x y)(ht:aS P t=some i){j k ix off:Nat}{g:bO}{c:Cn E}(hd:st.ev x=.gX j g.aE k ix off)
  (hg:st.g[j]? = some g) (hc:nO st.c j=some c) (hk:k=c.1.size E) {cs ds:J (TV E)} (hcs:(TV.dat c.1 (c.2.getD ix (c.1.dflt E))).nX=some cs) (hy:(st.ev y).nX=some ds) (h4:ds.length=i.size) (h5:off+i.size<=cs.length)
  {x':c.1.den E.D} (apk:MP E 4 c.1 (cs.take off++ds++cs.drop (off+ds.length))=some (x',[])) :
  jA P w0 G0 a w o {st with t:=b8 st.t o.dst .any,c:=(j,⟨c.1,c.2.set ix x'⟩)::mN j st.c}:=by
 have hv:=hr.ev x;rw [hd] at hv;obtain⟨b,m,cap,hj,hlt,kW⟩:=hr.gX hg hv;obtain⟨h,hj',hs,-⟩:=hr.soft hg hc;rw [hj] at hj';cases hj';rcases hs.block with⟨h1,-⟩|⟨b',cap',cur,h1,hheap,hcap,hcm,ah6,hf,hnp⟩
 ·cases h1
 obtain⟨rfl,rfl,rfl⟩:=h1;have hle:c.2.length*g.k<=cur.size:=by simp_all [yl]
 obtain⟨us,h2,h3,PI,-⟩:=VX hs.1 hheap hf hle hlt;obtain⟨hl,hl1⟩:=rD hE (hr.ev y) hy;have hlen:(a.eval y).cells.toList.length=i.size:=by rw [hl.length,h4]
 have hlen':(a.eval y).cells.size=i.size:=by simpa using hlen
 have FL:=abm hE h2 hcs;have hcl:cs.length=g.k:=by rw [<-FL.length,h3]
 obtain⟨xt,jB,-,hxs,-⟩:=aN ht
 have hik:ix*g.k+g.k<=c.2.length*g.k:=by
  have:(ix+1)*g.k<=c.2.length*g.k:=yl _ hlt
  grind
 have hfit:(ix*g.k+off)+0+(a.eval y).cells.toList.length<=cur.size:=by rw [hlen];omega
 have Sb:=run_storeCells_at (P:=P) b (ix*g.k+off) g.e (a.eval y).cells.toList 0 cur w hheap hfit (fun v hv=>hl1 v (by simpa using hv))
 let new:=(cur.toList.take (ix*g.k+off)++(a.eval y).cells.toList++cur.toList.drop (ix*g.k+off+(a.eval y).cells.toList.length)).toArray
 have hrun:(execOp a.eval o).run P w=.ok .skip (w.setRow b new):=by
  simp [execOp,ho,Instr.storeAt,Instr.sureAddr,kW,hk,<-hs.1,storeVar,eS jB,hxs,hlen'];simp only [ne_eq,Sb];rfl
 have apl:=((FL.take off).append hl).append (FL.drop (off+ds.length));obtain⟨us1,ts,e1,e2,e3⟩:=zB hE 4 c.1 apl apk;subst e3;have hu1:us1.length=g.k:=by grind
 have aqf:cur.toList=cur.toList.take (ix*g.k)++us++cur.toList.drop (ix*g.k+g.k):=by
  grind [List.take_append_drop,List.drop_drop,List.append_assoc]
 have aod:new.toList=cur.toList.take (ix*g.k)++us1++cur.toList.drop (ix*g.k+us1.length):=by
  have:=Y5 (cur.toList.take (ix*g.k)) us (cur.toList.drop (ix*g.k+g.k)) (a.eval y).cells.toList off (by rw [h3];omega)
  grind
 have apm:new.size=cur.size:=by
  grind
 have hfl:Flat w G.pr g.k (new.toList.take ((c.2.set ix x').length*g.k)) ((c.2.set ix x').map (c.1.cells E)):=by
  have h9:=hf.splice (Flat.single e2 hu1) (p:=ix) bH;rw [List.length_set,aod,abj _ _ om (by simpa using hle)]
  have h10:(c.2.set ix x').map (c.1.cells E)=(c.2.map (c.1.cells E)).take ix++[c.1.cells E x']++(c.2.map (c.1.cells E)).drop (ix+[c.1.cells E x'].length):=by
   rw [ajF,if_pos (by simpa using hlt)];simp
  rw [h10];exact h9
 have hR:=hr.age hg hc hj hheap apm si hfl;exact⟨_,undef,_,G,hrun,.inr ⟨rfl,rfl⟩,hR.put (by simp [VT]) o.dst⟩
theorem Rel.UM(h:Rel E w0 G0 st a w G){j:Nat}{c:Cn E}(hs:∃x hd,G.g[j]? = some (x,hd)/\rB E w G x hd c):Rel E w0 G0 {st with c:=(j,c)::st.c} a w G:=
 ⟨h.eO,h.size,h.tmps,h.defers,h.boxes,h.fix,h.pins,fun i c' hm=>by
  rcases ij.1 hm with e|hm
  ·cases e;exact hs
  ·exact h.fZ i c' hm⟩
theorem agf{pr:Nat->Nat->Prop}{k:Nat}(hk0:0<k){z:aI Value}(hz:z.size=k){e:J DV}(h:LD w pr z.toList e){n m:Nat}(hn:n<=m):Flat w pr k ((madeCells z (m*k)).toList.take (n*k)) (List.replicate n e):=by
 have hel:e.length=k:=by rw [<-h.length];simpa using hz
 have hnm:=yl k hn;refine⟨by simp_all [Qd,Xs,size_madeCells,List.length_replicate,ac4],fun j hj=>?_,fun j l hj hl=>?_⟩
 ·simp_all
 ·simp at hj
  have hjl:=MU hj hl
  have e1:((madeCells z (m*k)).toList.take (n*k)).getD (j*k+l) undef=z.toList.getD l undef:=by
   simp;rw [XH,if_pos hjl];have h1:(j*k+l)%z.size=l:=by simp_all [Xr,Nat.mul_add_mod,acU]
   have h2:j*k+l<m*k:=om;have h3:l<z.size:=om;simp [madeCells,h2,h1,h3]
  have e2:(List.replicate n e).getD j []=e:=by simp [hj]
  rw [e1,e2]
  have:∀ {vs:J Value}{ds:J DV}(l:Nat),LD w pr vs ds->l<ds.length->VD w pr (vs.getD l undef) (ds.getD l default):=by
   intro vs
   induction vs with
   | nil=>intro ds l h hl;cases ds with|nil=>simp at hl|cons _ _=>exact h.elim
   | cons v vs ih=>
    intro ds l h hl
    cases ds with
    | nil=>exact h.elim
    | cons d ds=>
     cases l with
     | zero=>simpa using h.1
     | succ l=>simpa using ih l h.2 (by simpa using hl)
  exact this l h om
theorem aec(hE:E.Ok)(hr:Rel E w0 G0 st a w G){t e:aC}{x y:bx}{j1 j2:Nat}{z0:Value}{ie:TI}(ho:o.op=.makeSlice t x y)(ht:aS P t=some ⟨.slice e,j1,j2,z0⟩)(hi:aS P e=some ie){T:Ty}{z:T.den E.D}{k1 k2:dY}{n m:Int}
  (hx:st.ev x=.dat (.int k1) n) (hy:st.ev y=.dat (.int k2) m) (hk:ie.size=T.size E) (hk0:0<ie.size) (hzs:ie.zero.cells.size=ie.size) (hz1:ie.zero.cells.toList.all (·.oneCell')=true) (hz:(xh E (some T) ie.zero).get T=some z)
  (h0:0<=n) (h1:n<=m) (h2:0<m) (h3:m<=9223372036854775807) (h4:(ie.bytes:Int)*m<=140737488355328) :
  jA P w0 G0 a w o {st with t:=b8 st.t o.dst (.dW st.g.length 0),g:=st.g++[⟨0,e,ie.size⟩],c:=(st.g.length,⟨T,List.replicate n.toNat z⟩)::st.c}:=by
 have yN:=hr.ev x;rw [hx] at yN;have AM:=hr.ev y;rw [hy] at AM;obtain⟨xt,jB,dX,-⟩:=aN ht;obtain⟨xe,pS,zD,hsz,hby,hzz⟩:=aN hi;have hrun:=run_make w t e xe ie.zero dX pS hzz k1 k2 n m h0 h1 (by rw [hby];omega) h3;rw [hsz] at hrun;have hzv:VT E w G (.dat T z) ie.zero:=TV.tw hz (OI hE hz1);have VS:=hzv.MY;have ajV:maxLen=9223372036854775807:=rfl
 let cur:=madeCells ie.zero.cells (m.toNat*ie.size)
 have hcs:cur.size=m.toNat*ie.size:=size_madeCells _ _;have hG:=hr.grow (eP.alloc w (.cells cur e)) rfl rfl rfl G.pr (fun _ _ h=>h) (fun _ _ _ h=>h) (fun b o hp=>jz (hr.boxes.fY b o hp).1 si);have hnp:∀o,¬ G.pr w.heap.size o:=fun o hp=>absurd (hr.boxes.fY _ _ hp).1 (yj _);have hheap:(w.alloc (.cells cur e)).heap[w.heap.size]? = some (.cells cur e):=heap_alloc_new w _
 have hown:(w.alloc (.cells cur e)).ownsRow 0 e ie.size (.slice (some ⟨w.heap.size,0,none⟩) n.toNat m.toNat) n.toNat (cur.toList.take (n.toNat*ie.size)):=by
  refine⟨?_,.inr ⟨w.heap.size,m.toNat,cur,rfl,fL _,hheap,om,om,hcs,rfl⟩⟩
  grind [List.length_take,Array.length_toList,Nat.min_eq_left,Nat.mul_le_mul_right]
 have hA:=hG.BD ⟨0,e,ie.size⟩ (.slice (some ⟨w.heap.size,0,none⟩) n.toNat m.toNat) ⟨n.toNat,_,hown,fun a q h=>by simp at h;omega,fun b hb=>by
   cases hb;exact⟨si,fun hm=>absurd (hr.boxes.lt _ hm) (yj _),fun o _ hp=>hnp o hp⟩⟩ (fun b hb=>by cases hb;exact hr.eO.size) (fun j y z b hj hzb hb=>by
   cases hb;obtain⟨n',xs',-,-,hb'⟩:=hr.boxes.grow j y z hj
   simp_all)
 have hrl:=hr.o7;have kQ:(G.g++[(⟨0,e,ie.size⟩,Value.slice (some ⟨w.heap.size,0,none⟩) n.toNat m.toNat)])[st.g.length]? = some (⟨0,e,ie.size⟩,.slice (some ⟨w.heap.size,0,none⟩) n.toNat m.toNat):=by rw [<-hrl];simp
 have hC:=hA.UM (c:=⟨T,List.replicate n.toNat z⟩) ⟨⟨0,e,ie.size⟩,_,kQ,hk,hk0,⟨_,by simp;exact hown,by
   rw [List.map_replicate];exact agf hk0 hzs (VS.mono (fun _ _ h=>h) (fun b o v _ hv=>(eP.alloc w _).cell hv)) om⟩,fun b hb o hp=>by cases hb;exact hnp o hp⟩
 refine⟨.value _,_,_,_,?_,.inl rfl,hC.put (v:=.slice (some ⟨w.heap.size,0,none⟩) n.toNat m.toNat) ?_ o.dst⟩
 ·simp [execOp,ho,yN.fH,AM.fH,hrun]
  rfl
 ·exact⟨⟨0,e,ie.size⟩,_,kQ,ef _,rfl,fun _=>rfl⟩
theorem abo(hE:E.Ok)(hr:Rel E w0 G0 st a w G){t e:aC}{len:Nat}{parts:aI (Nat×bx)}{j1 j2:Nat}{z:Value}{ie:TI}(ho:o.op=.buildSlice t len parts)
  (ht:aS P t=some ⟨.slice e,j1,j2,z⟩) (hi:aS P e=some ie) (h1:parts.toList.map (·.1)=List.range len) (h2:len*ie.size<=16777216) (h3:0<ie.size) (h0':0<len\/E.zc e=true)
  {T:Ty} {xs:J (T.den E.D)} (hk:ie.size=T.size E) (hx:nt T (parts.toList.map fun p=>st.ev p.2)=some xs) :
  jA P w0 G0 a w o {st with t:=b8 st.t o.dst (.dW st.g.length 0),g:=st.g++[⟨0,e,ie.size⟩],c:=(st.g.length,⟨T,xs⟩)::st.c}:=by
 obtain⟨cs,hrun,hcs,Se,hfl⟩:=M0 hE hr ho ht hi h1 h2 h3 hk hx;have ajV:maxLen=9223372036854775807:=rfl;have hG:=hr.grow (eP.alloc w (.cells cs e)) rfl rfl rfl G.pr (fun _ _ h=>h) (fun _ _ _ h=>h) (fun b o hp=>jz (hr.boxes.fY b o hp).1 si);have hnp:∀o,¬ G.pr w.heap.size o:=fun o hp=>absurd (hr.boxes.fY _ _ hp).1 (yj _);have hheap:(w.alloc (.cells cs e)).heap[w.heap.size]? = some (.cells cs e):=heap_alloc_new w _
 have hown:(w.alloc (.cells cs e)).ownsRow 0 e ie.size (.slice (some ⟨w.heap.size,0,none⟩) len len) len (cs.toList.take (len*ie.size)):=by
  refine⟨?_,.inr ⟨w.heap.size,len,cs,rfl,fL _,hheap,ef _,by have:len<=len*ie.size:=acZ _ h3;omega,hcs,rfl⟩⟩;rw [Qd,Xs,hcs];exact Nat.min_self _
 have hA:=hG.BD ⟨0,e,ie.size⟩ (.slice (some ⟨w.heap.size,0,none⟩) len len) ⟨len,_,hown,fun a q h=>h0'.elim (fun _=>by simp at h;omega) id,fun b hb=>by
   cases hb;exact⟨si,fun hm=>absurd (hr.boxes.lt _ hm) (yj _),fun o _ hp=>hnp o hp⟩⟩ (fun b hb=>by cases hb;exact hr.eO.size) (fun j y z b hj hzb hb=>by
   cases hb;obtain⟨n',xs',-,-,hb'⟩:=hr.boxes.grow j y z hj;exact absurd (hb' _ hzb).1 (yj _))
 have hrl:=hr.o7;have kQ:(G.g++[((⟨0,e,ie.size⟩:bO),Value.slice (some ⟨w.heap.size,0,none⟩) len len)])[st.g.length]? = some (⟨0,e,ie.size⟩,.slice (some ⟨w.heap.size,0,none⟩) len len):=by rw [<-hrl];simp
 have hC:=hA.UM (j:=st.g.length) (c:=⟨T,xs⟩) ⟨⟨0,e,ie.size⟩,_,kQ,hk,h3,⟨_,by rw [Se];exact hown,hfl.mono (fun _ _ h=>h) (fun b o v _ hv=>(eP.alloc w _).cell hv)⟩,fun b hb o hp=>by cases hb;exact hnp o hp⟩;refine⟨.value _,_,_,_,hrun,.inl rfl,hC.put (d:=.dW st.g.length 0) (v:=.slice (some ⟨w.heap.size,0,none⟩) len len) ?_ o.dst⟩;simp only [VT];exact⟨⟨0,e,ie.size⟩,_,kQ,ef _,rfl,fun _=>rfl⟩
def aed(ty:aC->O Ty):O Nat->Bool
 | some i=>match ty (2000000+i) with
  | some _=>true
  | none=>false
 | none=>false
def Y6(P:aD)(ty:aC->Option Ty)(st:TS E)(dst:Option Nat):Op->Option (Bool×TS E)
 | .buildSlice t len parts=>cond (aed ty dst) (match aS P t with
  | some ⟨.slice e,_,_,_⟩=>match aS P e,ty e with
   | some ie,some T=>match nt T (parts.toList.map fun p=>st.ev p.2) with
    | some xs=>some (cond (Nat.blt 0 len) true (E.zc e)&&(decide (parts.toList.map (·.1)=List.range len)&&(Nat.ble (len*ie.size) 16777216&&(Nat.blt 0 ie.size&&Nat.beq ie.size (T.size E)))),
       {st with t:=b8 st.t dst (.dW st.g.length 0),g:=st.g++[⟨0,e,ie.size⟩],c:=(st.g.length,⟨T,xs⟩)::st.c})
    | none=>none
   | _,_=>none
  | _=>none) none
 | _=>none
theorem aee(hE:E.Ok)(hr:Rel E w0 G0 st a w G){ty:aC->O Ty}{st':TS E}{c:Bool}(h:Y6 P ty st o.dst o.op=some (c,st'))(hc:c=true):jA P w0 G0 a w o st':=by
 cases ho:o.op<;>rw [ho] at h<;>try trivial
 case buildSlice t len parts=>
  simp only [Y6] at h;cases hb:aed ty o.dst<;>rw [hb] at h<;>simp only [bw,aU] at h
  ·cases h
  split at h<;>try trivial
  rename_i e j1 j2 z ht;split at h<;>try trivial
  rename_i ie T hi hT;split at h<;>try trivial
  rename_i xs hx;cases h;simp only [cx,fW] at hc
  exact abo hE hr ho ht hi hc.2.1 (lz hc.2.2.1) (lz hc.2.2.2.1) (by
   cases hb0:Nat.blt 0 len with
   | true=>exact .inl (lz hb0)
   | false=>have h0:=hc.1;rw [hb0] at h0;exact .inr h0) (ey hc.2.2.2.2) hx
theorem Rel.agh(hr:Rel E w0 G0 st a w G){j:Nat}{g:bO}{c:Cn E}(hg:st.g[j]? = some g)(hc:nO st.c j=some c){v v':Value}(hj:G.g[j]? = some (g,v))(uj:w.grownBy w' v.ownBlock){ys:J (c.1.den E.D)}{vals:J Value}
  (hown:w'.ownsRow 0 g.e g.k v' ys.length vals) (hf:Flat w G.pr g.k vals (ys.map (c.1.cells E))) (hblk:∀b,v'.ownBlock=some b->w.heap.size<=b\/v.ownBlock=some b) (hz:∀a m,v'=.slice (some a) m 0->E.zc g.e=true) (h1:v'.oneCell'=true) :
  ∃G',Rel E w0 G0 {st with g:=st.g.set j {g with aE:=g.aE+1},c:=(j,⟨c.1,ys⟩)::mN j st.c} a w' G'/\VT E w' G' (.dW j (g.aE+1)) v':=by
 obtain⟨h,hj',hs,-⟩:=hr.soft hg hc;rw [hj] at hj';cases hj';obtain⟨n0,YQ,RG,MX,hb0⟩:=hr.boxes.grow j g v hj;have hnp:=hs.2.2.2
 have amw:∀b,v'.ownBlock=some b->∀o,¬ G.pr b o:=fun b hb o hp=>by
  rcases hblk b hb with q|q
  ·have:=(hr.boxes.fY b o hp).1;omega
  ·exact hnp b q o hp
 have hcells:∀b o u,G.pr b o->w.cell? ⟨b,o,none⟩=some u->w'.cell? ⟨b,o,none⟩=some u:=fun b o u hp hu=>
  uj.cell hu (fun e=>hnp b e.symm o hp)
 have hjl:=(eM.1 hj).1
 have key:=hr.setRow (x':={g with aE:=g.aE+1}) (cs:=(j,⟨c.1,ys⟩)::mN j st.c) hj (Nat.le_succ _) (fun e=>by simp at e) uj.size uj.os uj.tape uj.output
  (fun b hb hne=>uj.block b hb (fun e=>hne e.symm)) hcells G.pr (fun _ _ h=>h) (fun _ _ h=>.inl h)
  ⟨ys.length,vals,hown,hz,fun b hb=>⟨(hown.lt b hb).2,fun hm=>by
   rcases hblk b hb with q|q
   ·have:=hr.boxes.lt b hm;omega
   ·exact (hb0 b q).2.1 hm,fun o _ hp=>amw b hb o hp⟩⟩ hblk (fun hg'=>?_)
 ·simp [VT]
  grind
 ·intro i c' hm
  rcases ij.1 hm with e|hm
  ·cases e
   exact⟨{g with aE:=g.aE+1},v',by simp [hjl],hs.1,hs.2.1,⟨vals,hown,hf.mono hg'.pr hg'.cells⟩,amw⟩
  ·obtain⟨hm,hne⟩:=sn hm
   obtain⟨x,hd,q1,q2⟩:=hr.fZ i c' hm;obtain⟨n1,xs1,-,-,wW⟩:=hr.boxes.grow i x hd q1;refine⟨x,hd,?_,q2.keep rfl rfl hg'.pr hg'.cells fun b hb=>⟨uj.block b (wW b hb).1 (fun e=>hne (hr.boxes.apart i j x hd g v b q1 hj hb e.symm)),fun o hp=>hp⟩⟩
   grind
theorem Y7(hE:E.Ok)(hr:Rel E w0 G0 st a w G){cl:Call}{x y:bx}{t tx e:aC}{j1 j2:Nat}{z:Value}{ie:TI}(ho:o.op=.call cl)(hcl:cl.callee=.builtin .append)(ha:cl.args.toList=[x,y])(hat:cl.argTypes.toList=[t,tx])
  (ht:aS P t=some ⟨.slice e,j1,j2,z⟩) (hi:aS P e=some ie) {j:Nat} {g:bO} {c:Cn E} (hx:st.ev x=.dW j g.aE) (hg:st.g[j]? = some g) (hc:nO st.c j=some c) (hge:g.e=e) (zH:g.k=ie.size) (hzs:ie.zero.cells.size=ie.size)
  {ys:J (c.1.den E.D)} (h63:c.2.length+ys.length<=9223372036854775807) (hbytes:(c.2.length+ys.length)*ie.bytes<=140737488355328)
  {news:J Value} (hsrc:Src P ie.size tx (a.eval y) ys.length news w) (hf:Flat w G.pr ie.size news (ys.map (c.1.cells E))) :
  jA P w0 G0 a w o {st with t:=b8 st.t o.dst (.dW j (g.aE+1)),g:=st.g.set j {g with aE:=g.aE+1},c:=(j,⟨c.1,c.2++ys⟩)::mN j st.c}:=by
 have gr:cl.args=#[x,y]:=by grind
 have wQ:cl.argTypes=#[t,tx]:=by grind
 obtain⟨xt,jB,dX,-⟩:=aN ht;obtain⟨xe,MW,zD,hsz,hby,hz⟩:=aN hi;have hv:=hr.ev x;rw [hx] at hv;obtain⟨v,hj,hs,hval⟩:=hr.soft hg hc;have kW:=hval _ hv
 have fin:∀(v':Value)(w':U)(vals:J Value),(Builtin.append_ #[t,tx] o.type #[v,a.eval y]).run P w=.ok v' w'->w'.ownsRow 0 g.e g.k v' (c.2++ys).length vals->Flat w G.pr g.k vals ((c.2++ys).map (c.1.cells E))->w.grownBy w' v.ownBlock ->
   (∀b,v'.ownBlock=some b->w.heap.size<=b\/v.ownBlock=some b)->(∀a m,v'=.slice (some a) m 0->E.zc g.e=true)->v'.oneCell'=true ->
   jA P w0 G0 a w o {st with t:=b8 st.t o.dst (.dW j (g.aE+1)),g:=st.g.set j {g with aE:=g.aE+1},c:=(j,⟨c.1,c.2++ys⟩)::mN j st.c}:=by
  intro v' w' vals hrun hown hfl uj hblk hnz h1;obtain⟨G',hR,hV⟩:=hr.agh hg hc hj uj hown hfl hblk hnz h1;refine⟨.value v',v',w',G',?_,.inl rfl,hR.put hV o.dst⟩;unfold execOp;simp [ho,resolve,hcl,iQ,od,invoke,builtin,gr,wQ,lC,Xw];rw [kW,hrun];rfl
 have Ek:Src P xe.size tx (a.eval y) ys.length news w:=by rw [hsz];exact hsrc
 have hzl:∀c,(Builtin.zeroCells ie.zero.cells c).size=c*ie.size:=fun c=>by rw [size_zeroCells,hzs]
 obtain⟨n0,YQ,RG,MX,hb0⟩:=hr.boxes.grow j g v hj;have hlen:(c.2++ys).length=c.2.length+ys.length:=by simp
 have hmap:(c.2++ys).map (c.1.cells E)=c.2.map (c.1.cells E)++ys.map (c.1.cells E):=by simp
 rw [<-zH] at hf;by_cases hm:ys.length=0
 ·have hys:=Db hm
  subst hys;have hnn:=Db (by simpa using hf.1);subst hnn;obtain⟨-,-,⟨vals,ho,Ln⟩,-⟩:=hs;refine fin v w vals ?_ (by simp_all) (by simp_all) ⟨rfl,rfl,rfl,ef _,fun _ _ _=>rfl⟩ (fun b hb=>.inr hb) MX ?_
  ·rcases ho.2 with⟨q1,q2⟩|⟨b,cap,cur,q1,-,-,q4,-⟩
   ·rw [q1];exact run_append_nothing w t tx o.type e xe dX MW none 0 0 (ef _) _ Ek
   grind [run_append_nothing]
  ·rcases ho.2 with⟨q1,q2⟩|⟨b,cap,cur,q1,-⟩<;>rw [q1]<;>rfl
 have grow:∀(base:O Addr)(old:Nat)(xs':J Value),v=.slice base c.2.length old->old<c.2.length+ys.length->Flat w G.pr g.k xs' (c.2.map (c.1.cells E)) ->
   (Builtin.firstCells xe.size c.2.length (.slice base c.2.length old)).run P w.drew=.ok xs'.toArray w.drew ->
   jA P w0 G0 a w o {st with t:=b8 st.t o.dst (.dW j (g.aE+1)),g:=st.g.set j {g with aE:=g.aE+1},c:=(j,⟨c.1,c.2++ys⟩)::mN j st.c}:=by
  intro base old xs' hv0 hlt hfx VP;have hfit:=growslice_fits (bytes:=xe.bytes) hlt (by rw [hby];exact hbytes);have hr':=run_append_grow_src w t tx o.type e xe ie.zero dX MW hz base c.2.length old xs' VP (a.eval y) ys.length news Ek hlt om hfit;have aef:=grownCap_ge w (c.2.length+ys.length) old e;have hcm:=grownCap_le_maxLen w (c.2.length+ys.length) old e h63;generalize hcap:grownCap w (c.2.length+ys.length) old e=cap at hr' aef hcm;generalize hcs:(xs'++news).toArray++Builtin.zeroCells ie.zero.cells (cap-(c.2.length+ys.length))=cs at hr';have Jo:=hfx.append hf;have hl2:(xs'++news).length=(c.2.length+ys.length)*g.k:=by rw [Jo.1];simp
  have ah6:cs.size=cap*g.k:=by
   rw [<-hcs,acV,acW,hl2,hzl,<-zH,<-TZ];congr 1;omega
  have hheap:(w.drew.alloc (.cells cs e)).heap=w.heap.push (.cells cs e):=rfl;have hnew:(w.drew.alloc (.cells cs e)).heap[w.heap.size]? = some (.cells cs e):=by rw [hheap];simp
  refine fin (.slice (some ⟨w.heap.size,0,none⟩) (c.2.length+ys.length) cap) (w.drew.alloc (.cells cs e)) (xs'++news) (by rw [hv0];exact hr') ⟨by rw [hl2,hlen],.inr ⟨w.heap.size,cap,cs,?_,Nat.zero_le _,by rw [hge];exact hnew,by rw [hlen];exact aef,hcm,ah6,?_⟩⟩ (by rw [hmap];exact Jo) ⟨rfl,rfl,rfl,by rw [hheap];simp,fun b hb _=>by grind⟩
   (fun b hb=>by cases hb;grind) (fun a m h=>by simp at h;omega) rfl
  ·rw [hlen]
  grind
 rcases hs.block with⟨h1,h2⟩|⟨b,cap,cur,h1,hheap,hcap,hcm,hcs,Ln,hnp⟩
 ·have hc0:c.2.length=0:=by rw [h2];rfl
  refine grow none 0 [] (by rw [h1,hc0]) om (by rw [h2];exact Flat.nil) ?_;simp [Builtin.firstCells]
 ·by_cases hroom:c.2.length+ys.length<=cap
  ·have Sc:c.2.length*ie.size+news.length<=cur.size:=by
    rw [hf.1,hcs,<-zH,wJ,<-TZ];exact yl _ hroom
   have FK:w.heap[b]? = some (.cells cur e (0,0)):=by rw [<-hge];exact hheap
   have hr':=run_append_room_src w t tx o.type e xe dX MW b 0 c.2.length cap (a.eval y) ys.length news Ek hroom
    (fun j hj=>by
     rw [cell_of_row w b _ cur e (0,0) FK,hsz]
     grind)
    (fun j hj=>frozen_of_row w b _ cur e FK)
   rw [hsz,pU,zG b e news (c.2.length*ie.size) cur w FK Sc] at hr';have Jo:=Ln.append hf;have hl2:(cur.toList.take (c.2.length*g.k)++news).length=(c.2.length+ys.length)*g.k:=by rw [Jo.1];simp
   refine fin (.slice (some ⟨b,0,none⟩) (c.2.length+ys.length) cap) (w.setRow b (cur.toList.take (c.2.length*ie.size)++news++cur.toList.drop (c.2.length*ie.size+news.length)).toArray) (cur.toList.take (c.2.length*g.k)++news) (by rw [h1];exact hr') ⟨by rw [hl2,hlen],.inr ⟨b,cap,_,by rw [hlen],fL _,by rw [hge];exact setRow_heap w b cur _ e _ FK,by rw [hlen];exact hroom,hcm,?_,?_⟩⟩ (by rw [hmap];exact Jo) ⟨rfl,rfl,rfl,si,fun b' _ hb'=>setRow_other w b b' _ (fun e=>hb' (by rw [e,h1];rfl))⟩
    (fun b' hb'=>.inr (by rw [h1];exact hb')) (fun a m h=>by simp at h;omega) rfl
   ·grind
   grind
  ·refine grow _ cap (cur.toList.take (c.2.length*g.k)) h1 om Ln ?_
   rw [hsz,<-zH];refine run_firstCells_some w.drew g.k c.2.length ⟨b,0,none⟩ c.2.length cap (cur.toList.take (c.2.length*g.k)) (by rw [Ln.1];simp) (fun q u hu=>?_);rw [add_lit,pU]
   have hq:q<c.2.length*g.k:=by
    grind
   show w.cell? ⟨b,q,none⟩=some u
   grind [cell_of_row]
theorem agi(hr:Rel E w0 G0 st a w G){t e:aC}{x hi:bx}{j1 j2:Nat}{z:Value}{ie:TI}(ho:o.op=.slice t x none (some hi) none)(ht:aS P t=some ⟨.slice e,j1,j2,z⟩)(hi':aS P e=some ie)
  {j:Nat} {g:bO} {c:Cn E} (hx:st.ev x=.dW j g.aE) (hg:st.g[j]? = some g) (hc:nO st.c j=some c) {q:Int} (hq:kV (c.2.length:Int) (some (st.ev hi))=some q) (h0:0<=q) (h1:q<=(c.2.length:Int)) :
  jA P w0 G0 a w o {st with t:=b8 st.t o.dst (.dW j (g.aE+1)),g:=st.g.set j {g with aE:=g.aE+1},c:=(j,⟨c.1,c.2.take (Int.toNat q)⟩)::mN j st.c}:=by
 obtain⟨xt,jB,dX,-⟩:=aN ht;obtain⟨xe,pS,zD,hsz,-⟩:=aN hi';obtain⟨v,hj,hs,hval⟩:=hr.soft hg hc;have hv:=hr.ev x;rw [hx] at hv;have kW:=hval _ hv;obtain⟨n0,YQ,RG,MX,hb0⟩:=hr.boxes.grow j g v hj;have hlen:(c.2.take q.toNat).length=q.toNat:=by simp_all
 have hbi:=sr hr (lo:=some hi) hq;have amx:=sr hr (lo:=none) (d:=0) rfl
 have key:∀(v':Value)(vals:J Value),(Instr.sliceAt t v none (some (a.eval hi)) none).run P w=.ok v' w->w.ownsRow 0 g.e g.k v' (c.2.take q.toNat).length vals->Flat w G.pr g.k vals ((c.2.take q.toNat).map (c.1.cells E))->v'.ownBlock=v.ownBlock ->
   (∀a m,v'=.slice (some a) m 0->E.zc g.e=true)->v'.oneCell'=true->jA P w0 G0 a w o {st with t:=b8 st.t o.dst (.dW j (g.aE+1)),g:=st.g.set j {g with aE:=g.aE+1},c:=(j,⟨c.1,c.2.take (Int.toNat q)⟩)::mN j st.c}:=by
  intro v' vals hrun hown hfl hblk hnz h1';obtain⟨G',hR,hV⟩:=hr.agh hg hc hj ⟨rfl,rfl,rfl,ef _,fun _ _ _=>rfl⟩ hown hfl (fun b hb=>.inr (by rw [<-hblk];exact hb)) hnz h1';refine⟨.value v',v',w,G',?_,.inl rfl,hR.put hV o.dst⟩;simp [execOp,ho];rw [kW,hrun];rfl
 rcases hs.block with⟨q1,q2⟩|⟨b,cap,cur,q1,hheap,hcap,hcm,hcs,Ln,hnp⟩
 ·have hq0:q=0:=by grind
  subst hq0;refine key (.slice none 0 0) [] ?_ ?_ (by rw [q2];exact Flat.nil) (by rw [q1]) (fun a m h=>by cases h) rfl
  ·have AL:=Ej (P:=P) (isS:=true) (cap:=0) (ef _) amx (by rw [q2] at hbi;exact hbi) (XA _) (XA _) si w
   rw [q1];simp at AL;unfold Instr.sliceAt;unfold Instr.slice;simp only [iQ,aQ dX,jm,AL,eS pS];simp
  ·exact⟨si,.inl ⟨rfl,rfl⟩⟩
 ·refine key (.slice (some ⟨b,0,none⟩) q.toNat cap) (cur.toList.take (q.toNat*g.k)) ?_ ?_ ?_ (by rw [q1];rfl) (fun a m h=>by
   simp_all) rfl
  ·have AL:=Ej (P:=P) (isS:=true) hcap amx hbi (XA _) h0 h1 w
   rw [q1];simp at AL;unfold Instr.sliceAt;unfold Instr.slice;simp only [iQ,aQ dX,jm,AL,eS pS,Xo,add_lit];simp
  ·rw [hlen]
   refine⟨?_,.inr ⟨b,cap,cur,rfl,fL _,hheap,om,hcm,hcs,rfl⟩⟩
   grind [List.length_take,Array.length_toList,Nat.min_eq_left,Nat.mul_le_mul_right]
  ·have h9:=Ln.take (i:=q.toNat) bH
   simp_all [yl,Xv,ac4,List.map_take]
def aeg(P:aD)(ty:aC->O Ty)(st:TS E)(dst:O Nat)(cl:Call):O (Bool×TS E):=
 match cl.callee,cl.args.toList,cl.argTypes.toList with
 | .builtin .append,[x,y],[t,tx]=>match aS P t,aS P tx with
  | some ⟨.slice e,_,_,_⟩,some ix=>match aS P e,st.ev x with
   | some ie,.dW j aE=>match st.g[j]?,nO st.c j with
    | some g,some c=>match aea c.1 ix.kind (st.ev y) with
     | some ys=>some (Nat.beq g.aE aE&&(Nat.beq g.e e&&(Nat.beq g.k ie.size&&(Nat.beq ie.size (c.1.size E)&&(Nat.blt 0 ie.size&&(Nat.beq ie.zero.cells.size ie.size &&
          (decide (c.2.length+ys.length<=9223372036854775807)&&decide ((c.2.length+ys.length)*ie.bytes<=140737488355328))))))),
       {st with t:=b8 st.t dst (.dW j (g.aE+1)),g:=st.g.set j {g with aE:=g.aE+1},c:=(j,⟨c.1,c.2++ys⟩)::mN j st.c})
     | none=>none
    | _,_=>none
   | _,_=>none
  | _,_=>none
 | _,_,_=>none
def BE(P:aD)(ty:aC->O Ty)(st:TS E)(dst:O Nat):Op->O (Bool×TS E)
 | .load t x=>match aS P t,st.ev x with
  | some i,.gX j aE k ix off=>match st.g[j]?,nO st.c j with
   | some g,some c=>match TV.part c.1 (c.2.getD ix (c.1.dflt E)) i.isAgg i.size off with
    | some d=>some (Nat.beq g.aE aE&&Nat.beq k (c.1.size E),{st with t:=b8 st.t dst d})
    | none=>none
   | _,_=>none
  | _,_=>none
 | .store t x y=>match aS P t,st.ev x,(st.ev y).nX with
  | some i,.gX j aE k ix off,some ds=>match st.g[j]?,nO st.c j with
   | some g,some c=>match (TV.dat (E:=E) c.1 (c.2.getD ix (c.1.dflt E))).nX with
    | some cs=>match MP E 4 c.1 (cs.take off++ds++cs.drop (off+ds.length)) with
     | some (x',[])=>some (Nat.beq g.aE aE&&(Nat.beq k (c.1.size E)&&(Nat.beq ds.length i.size&&Nat.ble (off+i.size) cs.length)),
       {st with t:=b8 st.t dst .any,c:=(j,⟨c.1,c.2.set ix x'⟩)::mN j st.c})
     | _=>none
    | none=>none
   | _,_=>none
  | _,_,_=>none
 | .makeSlice t x y=>match aS P t with
  | some ⟨.slice e,_,_,_⟩=>match aS P e,ty e,st.ev x,st.ev y with
   | some ie,some T,.dat (.int _) n,.dat (.int _) m=>match (xh E (some T) ie.zero).get T with
    | some z=>some (Nat.beq ie.size (T.size E)&&(Nat.blt 0 ie.size&&(Nat.beq ie.zero.cells.size ie.size&&(ie.zero.cells.toList.all (·.oneCell') &&
       (decide (0<=n)&&(decide (n<=m)&&(decide (0<m)&&(decide (m<=9223372036854775807)&&decide ((ie.bytes:Int)*m<=140737488355328)))))))),
      {st with t:=b8 st.t dst (.dW st.g.length 0),g:=st.g++[⟨0,e,ie.size⟩],c:=(st.g.length,⟨T,List.replicate (Int.toNat n) z⟩)::st.c})
    | none=>none
   | _,_,_,_=>none
  | _=>none
 | .slice t x none (some hi) none=>match aS P t,st.ev x with
  | some ⟨.slice e,_,_,_⟩,.dW j aE=>match aS P e,st.g[j]?,nO st.c j with
   | some _,some g,some c=>match kV (c.2.length:Int) (some (st.ev hi)) with
    | some q=>some (Nat.beq g.aE aE&&(decide (0<=q)&&decide (q<=(c.2.length:Int))),
      {st with t:=b8 st.t dst (.dW j (g.aE+1)),g:=st.g.set j {g with aE:=g.aE+1},c:=(j,⟨c.1,c.2.take (Int.toNat q)⟩)::mN j st.c})
    | none=>none
   | _,_,_=>none
  | _,_=>none
 | .call cl=>aeg P ty st dst cl
 | _=>none
theorem aeh(hE:E.Ok)(hr:Rel E w0 G0 st a w G){ty:aC->O Ty}{st':TS E}{cc:Bool}(h:BE P ty st o.dst o.op=some (cc,st'))(o6:cc=true):jA P w0 G0 a w o st':=by
 cases ho:o.op<;>rw [ho] at h<;>try trivial
 case load t x=>
  simp [BE] at h;split at h<;>try trivial
  rename_i i j aE k ix off ht hx;split at h<;>try trivial
  rename_i g c hg hc;split at h<;>try trivial
  rename_i d hp;cases h;rw [cx] at o6;obtain rfl:=ey o6.1;exact (Hv hE hr ho ht hx hg hc (ey o6.2) hp).ah4 hr
 case store t x y=>
  simp [BE] at h;split at h<;>try trivial
  split at h<;>try trivial
  split at h<;>try trivial
  split at h<;>try trivial
  grind [Nat.eq_of_beq_eq_true,abn,Nat.le_of_ble_eq_true]
 case makeSlice t x y=>
  simp only [BE] at h;split at h<;>try trivial
  rename_i e j1 j2 z0 ht;split at h<;>try trivial
  rename_i ie T k1 n k2 m hi hT hx hy;split at h<;>try trivial
  rename_i z hz;cases h;simp only [cx,fW] at o6;obtain⟨c1,c2,c3,c4,c5,c6,c7,c8,c9⟩:=o6;exact aec hE hr ho ht hi hx hy (ey c1) (lz c2) (ey c3) c4 hz c5 c6 c7 c8 c9
 case slice t x lo hi mx=>
  cases lo with
  | some _=>cases h
  | none=>
  cases hi with
  | none=>cases h
  | some hi=>
  cases mx with
  | some _=>cases h
  | none=>
  simp [BE] at h;split at h<;>try trivial
  split at h<;>try trivial
  split at h<;>try trivial
  grind [Nat.eq_of_beq_eq_true,agi]
 case call cl=>
  simp [BE] at h;unfold aeg at h;split at h<;>try trivial
  ·split at h<;>try trivial
   split at h<;>try trivial
   rename_i ie j aE hi hx;split at h<;>try trivial
   split at h<;>try trivial
   cases h;simp only [cx] at o6;obtain⟨c1,c2,c3,c4,c5,c6,c7,c8⟩:=o6;have c5:=lz c5
   grind [UL,Y7,Nat.eq_of_beq_eq_true]
def XN(P:aD)(ty:aC->O Ty)(st:TS E)(dst:O Nat)(op:Op):O (Bool×TS E):=match Sm P ty st dst op with
 | some r=>some r
 | none=>BE P ty st dst op
theorem abp(hE:E.Ok)(hr:Rel E w0 G0 st a w G){ty:aC->O Ty}{st':TS E}{c:Bool}(h:XN P ty st o.dst o.op=some (c,st'))(hc:c=true):jA P w0 G0 a w o st':=by
 grind [XN,abl,aeh]
end
end Go.RT
namespace Go.RT
variable {E : TEnv}
def aei:Value->Value->Bool
 | .bool a,.bool b=>a==b
 | .int k n,.int k' n'=>decide (k=k')&&decide (n=n')
 | _,_=>false
theorem akJ{u v:Value}(h:aei u v=true):u=v/\u.cells=#[u]:=by
 unfold aei at h;split at h
 ·rw [tV] at h;subst h;exact⟨rfl,rfl⟩
 ·simp at h
  obtain⟨rfl,rfl⟩:=h;exact⟨rfl,rfl⟩
 ·cases h
def XO(P:aD)(st:TS E):Op->O (Bool×TV E)
 | .indexAddr t x ix=>match aS P t,st.ev ix with
  | some ⟨.array n e,_,_,_⟩,.dat (.int _) m=>match aS P e,st.ev x with
   | some i,.gX j aE k i0 off=>match st.g[j]?,nO st.c j with
    | some g,some c=>match Nat.beq g.aE aE&&(Nat.beq i.size k&&(Nat.beq i0 0&&Nat.beq off 0)) with
     | true=>some (decide (0<=m)&&(decide (m<(n:Int))&&decide (m<(c.2.length:Int))),.gX j aE k (Int.toNat m) 0)
     | false=>none
    | _,_=>none
   | _,_=>none
  | _,_=>none
 | _=>none
section
variable {P : aD} {w0 w w' : U} {G0 G G' : aJ} {st : TS E} {a : Act} {o : Oper}
theorem Rel.arr(hr:Rel E w0 G0 st a w G){j k i off:Nat}{g:bO}{c:Cn E}(hg:st.g[j]? = some g)(hc:nO st.c j=some c){v:Value}(hv:VT E w G (.gX j g.aE k i off) v):
  ∃b cap cur,G.g[j]? = some (g,.slice (some ⟨b,0,none⟩) c.2.length cap)/\i<c.2.length/\v=.pointer (some ⟨b,i*k+off,none⟩)/\w.heap[b]? = some (.cells cur g.e (0,0))/\c.2.length<=cap/\cur.size=cap*g.k /\
   Flat w G.pr g.k (cur.toList.take (c.2.length*g.k)) (c.2.map (c.1.cells E))/\g.k=c.1.size E:=by
 obtain⟨b,m,cap,hj,hlt,kW⟩:=hr.gX hg hv;obtain⟨h,hj',hs,-⟩:=hr.soft hg hc;rw [hj] at hj';cases hj';rcases hs.block with⟨h1,-⟩|⟨b',cap',cur,h1,hheap,hcap,hcm,hcs,hf,hnp⟩
 ·cases h1
 obtain⟨rfl,rfl,rfl⟩:=h1;exact⟨b,cap,cur,hj,hlt,kW,hheap,hcap,hcs,hf,hs.1⟩
theorem abq(hr:Rel E w0 G0 st a w G){d:TV E}{cc:Bool}(h:XO P st o.op=some (cc,d))(hc:cc=true):jc P a w G o d:=by
 cases ho:o.op<;>rw [ho] at h<;>simp only [XO] at h<;>try trivial
 case indexAddr t x ix=>
  split at h<;>try trivial
  rename_i n e j1 j2 z kd m ht hn;obtain⟨xt,jB,dX,-⟩:=aN ht;obtain⟨m,hm0⟩:∃q:Int,q=m:=⟨m,rfl⟩;subst hm0;have CE:=hr.ev ix;rw [hn] at CE;have R4:=CE.fH;split at h<;>try trivial
  rename_i i j aE k i0 off hi hx;obtain⟨xe,pS,zD,hsz,-⟩:=aN hi;split at h<;>try trivial
  rename_i g c hg hcg;split at h<;>try trivial
  rename_i hs4;cases h;simp only [cx,fW] at hc hs4;obtain⟨c1,c2,c3,c4⟩:=hs4;obtain⟨c5,c6,c7⟩:=hc;have c1:=ey c1;have c2:=ey c2;have c3:=ey c3;have c4:=ey c4;have c7:m<(c.2.length:Int):=c7;subst c1 c3 c4;have hv:=hr.ev x;rw [hx] at hv;obtain⟨b,cap,cur,hj,hlt,kW,-⟩:=hr.arr hg hcg hv;refine fI (f:=fun ρ=>Instr.indexAt t (ρ x) (ρ ix)) (by simp [execOp,ho]) ⟨_,UK hj om,fun w' hs=>?_⟩;rw [kW,R4];unfold Instr.indexAt asIntOf Instr.sureAddr;have h3:(0<=m/\m<(n:Int)):=⟨c5,c6⟩;simp only [iQ,od,jm,aQ dX,h3,and_self,if_true,eS pS,add_lit,hsz,c2,Nat.zero_mul,pU,T6]
def Sn(P:aD)(ty:aC->O Ty)(st:TS E)(o:Op):O (Bool×TV E):=match Sk P ty st o with
 | some x=>some x
 | none=>XO P st o
theorem abr(hE:E.Ok)(hr:Rel E w0 G0 st a w G){ty:aC->O Ty}{d:TV E}{c:Bool}(h:Sn P ty st o.op=some (c,d))(hc:c=true):jc P a w G o d:=by
 grind [Sn,Y4,abq]
theorem Rel.acm(hr:Rel E w0 G0 st a w G){e:aC}{k:Nat}{cur:aI Value}{T:Ty}{xs:J (T.den E.D)}(hk:k=T.size E)(hk0:0<k)(hx0:0<xs.length)(hm:xs.length<=maxLen)(hcs:cur.size=xs.length*k)
  (hf:Flat w G.pr k cur.toList (xs.map (T.cells E))) :
  Rel E w0 G0 {st with g:=st.g++[⟨0,e,k⟩],c:=(st.g.length,⟨T,xs⟩)::st.c} a (w.alloc (.cells cur e)) {G with g:=G.g++[(⟨0,e,k⟩,.slice (some ⟨w.heap.size,0,none⟩) xs.length xs.length)]} /\
   (G.g++[(⟨0,e,k⟩,Value.slice (some ⟨w.heap.size,0,none⟩) xs.length xs.length)])[st.g.length]? = some (⟨0,e,k⟩,.slice (some ⟨w.heap.size,0,none⟩) xs.length xs.length):=by
 have hG:=hr.grow (eP.alloc w (.cells cur e)) rfl rfl rfl G.pr (fun _ _ h=>h) (fun _ _ _ h=>h) (fun b o hp=>jz (hr.boxes.fY b o hp).1 si);have hnp:∀o,¬ G.pr w.heap.size o:=fun o hp=>absurd (hr.boxes.fY _ _ hp).1 (yj _);have hheap:(w.alloc (.cells cur e)).heap[w.heap.size]? = some (.cells cur e):=heap_alloc_new w _;have htk:cur.toList.take (xs.length*k)=cur.toList:=Ii (by simp_all)
 have hown:(w.alloc (.cells cur e)).ownsRow 0 e k (.slice (some ⟨w.heap.size,0,none⟩) xs.length xs.length) xs.length (cur.toList.take (xs.length*k)):=by
  refine⟨?_,.inr ⟨w.heap.size,xs.length,cur,rfl,fL _,hheap,ef _,hm,hcs,rfl⟩⟩
  simp_all
 have hA:=hG.BD ⟨0,e,k⟩ (.slice (some ⟨w.heap.size,0,none⟩) xs.length xs.length) ⟨xs.length,_,hown,fun a q h=>by simp_all,fun b hb=>by
   cases hb;exact⟨si,fun hm=>absurd (hr.boxes.lt _ hm) (yj _),fun o _ hp=>hnp o hp⟩⟩ (fun b hb=>by cases hb;exact hr.eO.size) (fun j y z b hj hzb hb=>by
   cases hb;obtain⟨n',xs',-,-,hb'⟩:=hr.boxes.grow j y z hj
   simp_all)
 have hrl:=hr.o7;have kQ:(G.g++[(⟨0,e,k⟩,Value.slice (some ⟨w.heap.size,0,none⟩) xs.length xs.length)])[st.g.length]? = some (⟨0,e,k⟩,.slice (some ⟨w.heap.size,0,none⟩) xs.length xs.length):=by rw [<-hrl];simp
 refine⟨hA.UM ⟨⟨0,e,k⟩,_,kQ,hk,hk0,⟨_,hown,?_⟩,fun b hb o hp=>by cases hb;exact hnp o hp⟩,kQ⟩;rw [htk];exact hf.mono (fun _ _ h=>h) (fun b o v _ hv=>(eP.alloc w _).cell hv)
theorem abt(hE:E.Ok)(hr:Rel E w0 G0 st a w G){t e:aC}{n j1 j2:Nat}{z0:Value}{ie:TI}(ho:o.op=.alloc t)(ht:aS P t=some ⟨.array n e,j1,j2,z0⟩){T:Ty}{z:T.den E.D}
  (hT:T.size E=1) (hn:0<n) (hm:n<=maxLen) (hzn:z0.cells.size=n) (hall:z0.cells.toList.all (aei ie.zero)=true) (hz1:ie.zero.cells.toList.all (·.oneCell')=true) (hz:(xh E (some T) ie.zero).get T=some z) :
  jA P w0 G0 a w o {st with t:=b8 st.t o.dst (.gX st.g.length 0 1 0 0),g:=st.g++[⟨0,t,1⟩],c:=(st.g.length,⟨T,List.replicate n z⟩)::st.c}:=by
 have hzv:VT E w G (.dat T z) ie.zero:=TV.tw hz (OI hE hz1);have VS:=hzv.MY
 have hcell:∀v,v∈z0.cells.toList->v=ie.zero/\ie.zero.cells=#[ie.zero]:=fun v hv=>by
  grind [akJ,List.all_eq_true]
 have hfl:Flat w G.pr 1 z0.cells.toList ((List.replicate n z).map (T.cells E)):=by
  refine⟨by simp [hzn],fun j hj=>?_,fun j l hj hl=>?_⟩
  ·simp_all [Ty.zx]
  ·have hj:j<n:=by simpa using hj
   obtain rfl:l=0:=om;have e1:((List.replicate n z).map (T.cells E)).getD j []=T.cells E z:=by simp [hj]
   have hjz:j<z0.cells.toList.length:=by simp [hzn,hj]
   have e2:z0.cells.toList.getD (j*1+0) undef=z0.cells.toList[j]:=by simp_all
   obtain⟨q1,q2⟩:=hcell _ (ko hjz);rw [e1,e2,q1];rw [q2] at VS
   cases hd:T.cells E z with
   | nil=>rw [hd] at VS;exact VS.elim
   | cons d ds=>rw [hd] at VS;exact VS.1
 obtain⟨hR,kQ⟩:=hr.acm hT.symm Nat.one_pos (by simpa using hn) (by simpa using hm) (by simp [hzn]) hfl;refine⟨.value _,_,_,_,?_,.inl rfl,hR.put (v:=.pointer (some ⟨w.heap.size,0,none⟩)) ?_ o.dst⟩
 ·simp [execOp,ho,Instr.alloc,mC ht]
  rfl
 ·exact⟨⟨0,t,1⟩,_,kQ,ef _,rfl,fun _=>⟨w.heap.size,_,_,rfl,by simpa using hn,si⟩⟩
theorem agj(hr:Rel E w0 G0 st a w G){t:aC}{x:bx}{n:Nat}(ho:o.op=.box t x){T:Ty}{xs:J (T.den E.D)}(hx:st.ev x=.sQ T xs)(hT:0<T.size E)(hn:0<n)(hm:n<=maxLen)(hl:xs.length=n):
  jA P w0 G0 a w o {st with t:=b8 st.t o.dst (.gX st.g.length 0 (T.size E) 0 0),g:=st.g++[⟨0,t,T.size E⟩],c:=(st.g.length,⟨T,xs⟩)::st.c}:=by
 have hv:=hr.ev x;rw [hx] at hv;obtain⟨vs,he,h1,hf⟩:=hv;obtain⟨hR,kQ⟩:=hr.acm rfl hT om om (by have:=hf.1;simpa using this) hf;refine⟨.value _,_,_,_,?_,.inl rfl,hR.put (v:=.pointer (some ⟨w.heap.size,0,none⟩)) ?_ o.dst⟩
 ·simp [execOp,ho]
  rw [he];rfl
 ·exact⟨⟨0,t,T.size E⟩,_,kQ,ef _,rfl,fun _=>⟨w.heap.size,_,_,rfl,om,si⟩⟩
theorem abu(hr:Rel E w0 G0 st a w G){t:aC}{x:bx}{i:TI}(ho:o.op=.load t x)(ht:aS P t=some i)(hag:i.isAgg=true){j k:Nat}{g:bO}{c:Cn E}(hd:st.ev x=.gX j g.aE k 0 0)
  (hg:st.g[j]? = some g) (hc:nO st.c j=some c) (hk:k=c.1.size E) (hsz:c.2.length*k=i.size):jc P a w G o (.sQ c.1 c.2):=by
 have hv:=hr.ev x;rw [hd] at hv;obtain⟨b,cap,cur,hj,hlt,kW,hheap,hcap,hcs,hf,zH⟩:=hr.arr hg hc hv;have hle:i.size<=cur.size:=by rw [hcs,<-hsz,hk,<-zH];exact yl _ hcap
 have hrun:=fun w' hs=>lW ht b 0 cur.size (fun l=>cur.toList.getD l undef) (fun l hl=>by
  rw [pU,cell_of_row w b l cur g.e (0,0) hheap];simp [hl]) 0 (by rw [hag];simpa using hle) w' hs
 have hls:((List.range i.size).map fun l=>cur.toList.getD (0+l) undef)=cur.toList.take (c.2.length*g.k):=by
  rw [zH,<-hk];refine yX bH fun q h1 h2=>?_
  grind
 refine fI (f:=fun ρ=>Instr.loadAt t (ρ x)) (by simp [execOp,ho]) ⟨.agg (cur.toList.take (c.2.length*g.k)).toArray,?_,fun w' hs=>?_⟩
 ·refine⟨_,rfl,fun u hu=>?_,by rw [<-zH];exact hf⟩
  have hu:u∈cur.toList.take (c.2.length*g.k):=by simpa using hu
  obtain⟨q,hq,rfl⟩:=lB hu;have hlen:=hf.1;rw [wJ] at hlen
  have hk0:0<g.k:=by
   grind
  have hq1:q<c.2.length*g.k:=by rw [<-hlen];exact hq
  have:=hf.2.2 (q / g.k) (q%g.k) (by simp_all [wJ,acT]) (Xq _ hk0);rw [show q / g.k*g.k+q%g.k=q by simp_all [Xr,Nat.div_add_mod]] at this;have e:(cur.toList.take (c.2.length*g.k)).getD q undef=(cur.toList.take (c.2.length*g.k))[q]:=by simp_all
  rw [e] at this;exact this.one
 ·have:=hrun w' (hs (by rw [ho];rfl))
  simp_all
def Y8(P:aD)(ty:aC->O Ty)(st:TS E)(dst:O Nat):Op->O (Bool×TS E)
 | .alloc t=>match aS P t with
  | some ⟨.array n e,_,_,z0⟩=>match Nat.blt 8 n,aS P e,ty e with
   | true,some ie,some T=>match (xh E (some T) ie.zero).get T with
    | some z=>some (Nat.beq (T.size E) 1&&(Nat.ble n 9223372036854775807&&(Nat.beq z0.cells.size n&&(z0.cells.toList.all (aei ie.zero)&&ie.zero.cells.toList.all (·.oneCell')))),
      {st with t:=b8 st.t dst (.gX st.g.length 0 1 0 0),g:=st.g++[⟨0,t,1⟩],c:=(st.g.length,⟨T,List.replicate n z⟩)::st.c})
    | none=>none
   | _,_,_=>none
  | _=>none
 | .box t x=>match aS P t,st.ev x with
  | some ⟨.array n _,_,_,_⟩,.sQ T xs=>some (Nat.blt 0 (T.size E)&&(Nat.blt 0 n&&(Nat.ble n 9223372036854775807&&Nat.beq xs.length n)),
    {st with t:=b8 st.t dst (.gX st.g.length 0 (T.size E) 0 0),g:=st.g++[⟨0,t,T.size E⟩],c:=(st.g.length,⟨T,xs⟩)::st.c})
  | _,_=>none
 | .load t x=>match aS P t,st.ev x with
  | some i,.gX j aE k ix off=>match i.kind,st.g[j]?,nO st.c j with
   | .array _ _,some g,some c=>some (i.isAgg&&(Nat.beq g.aE aE&&(Nat.beq k (c.1.size E)&&(Nat.beq ix 0&&(Nat.beq off 0&&Nat.beq (c.2.length*k) i.size)))),{st with t:=b8 st.t dst (.sQ c.1 c.2)})
   | _,_,_=>none
  | _,_=>none
 | _=>none
theorem aej(hE:E.Ok)(hr:Rel E w0 G0 st a w G){ty:aC->O Ty}{st':TS E}{cc:Bool}(h:Y8 P ty st o.dst o.op=some (cc,st'))(o6:cc=true):jA P w0 G0 a w o st':=by
 have hmax:maxLen=9223372036854775807:=rfl;cases ho:o.op<;>rw [ho] at h<;>simp only [Y8] at h<;>try trivial
 case alloc t=>
  split at h<;>try trivial
  rename_i n e j1 j2 z0 ht;split at h<;>try trivial
  rename_i ie T h8 hi hT;split at h<;>try trivial
  rename_i z hz;cases h;simp only [cx] at o6;obtain⟨c1,c2,c3,c4,c5⟩:=o6;exact abt hE hr ho ht (ey c1) (Nat.lt_of_le_of_lt (fL 8) (lz h8)) (by simp_all) (ey c3) c4 c5 hz
 case box t x=>
  split at h<;>try trivial
  rename_i n e j1 j2 z0 T xs ht hx;cases h;simp only [cx] at o6;obtain⟨c1,c2,c3,c4⟩:=o6;exact agj hr ho hx (lz c1) (lz c2) (by simp_all) (ey c4)
 case load t x=>
  split at h<;>try trivial
  rename_i i j aE k ix off ht hx;split at h<;>try trivial
  rename_i g c hk hg hc;cases h;simp only [cx] at o6;obtain⟨c1,c2,c3,c4,c5,c6⟩:=o6;have c2:=ey c2;have c4:=ey c4;have c5:=ey c5;subst c2 c4 c5;exact (abu hr ho ht c1 hx hg hc (ey c3) (ey c6)).ah4 hr
def aek(P:aD)(ty:aC->O Ty)(st:TS E)(dst:O Nat)(op:Op):O (Bool×TS E):=match Y8 P ty st dst op with
 | some r=>some r
 | none=>XN P ty st dst op
theorem ael(hE:E.Ok)(hr:Rel E w0 G0 st a w G){ty:aC->O Ty}{st':TS E}{c:Bool}(h:aek P ty st o.dst o.op=some (c,st'))(hc:c=true):jA P w0 G0 a w o st':=by
 grind [aek,aej,abp]
end
end Go.RT
namespace Go.RT
variable {E : TEnv}
section
variable {P : aD} {w0 w w' : U} {G0 G G' : aJ} {st : TS E} {a : Act} {o : Oper}
def Sp(P:aD)(st:TS E):Op->O (Bool×TV E)
 | .indexAddr t x ix=>match aS P t,st.ev ix with
  | some ⟨.slice e,_,_,_⟩,.dat (.int _) m=>match aS P e,st.ev x with
   | some i,.gV r n cap=>some (Nat.beq i.size 1&&(decide (0<=m)&&decide (m<(n:Int))),.ptr r (Int.toNat m))
   | _,_=>none
  | _,_=>none
 | .call c=>match c.callee,c.args.toList,c.argTypes.toList with
  | .builtin .len,[x],[t]=>match aS P t,st.ev x with
   | some ⟨.slice _,_,_,_⟩,.gV r n cap=>some (true,.dat (.int .i64) (n:Int))
   | _,_=>none
  | _,_,_=>none
 | .load t x=>match aS P t,st.ev x with
  | some i,.ptr r off=>match st.H[r]? with
   | some (.kR e cap T xs d)=>some (Nat.beq i.size 1&&(!i.isAgg&&Nat.beq off xs.length),d)
   | _=>none
  | _,_=>none
 | _=>none
theorem VZ{w:U}{b n:Nat}{cur:aI Value}{e:aC}(h:w.heap[b]? = some (.cells cur e (0,0)))(hn:n<cur.size):w.cell? ⟨b,n,none⟩=some (cur.getD n undef):=by
 rw [cell_of_row w b n cur e (0,0) h];simp [hn]
theorem Lo{t:aC}{i:TI}(hi:aS P t=some i)(hs:i.size=1)(ha:i.isAgg=false){b n:Nat}{v:Value}(W:U)(h:W.cell? ⟨b,n,none⟩=some v):(Instr.loadAt t (.pointer (some ⟨b,n,none⟩))).run P W=.ok v W:=by
 have hrow:=lW hi b n 1 (fun _=>v) (fun l hl=>by
  simp_all) 0 (by rw [ha];simp) W (eP.refl W)
 simp_all
theorem abv(hE:E.Ok)(hr:Rel E w0 G0 st a w G){d:TV E}{cc:Bool}(h:Sp P st o.op=some (cc,d))(hc:cc=true):jc P a w G o d:=by
 cases ho:o.op<;>rw [ho] at h<;>simp [Sp] at h<;>try trivial
 case indexAddr t x ix=>
  split at h<;>try trivial
  rename_i e j1 j2 z kd m ht hn;obtain⟨xt,jB,dX,-⟩:=aN ht;obtain⟨m,hm0⟩:∃q:Int,q=m:=⟨m,rfl⟩;have CE:=hr.ev ix;rw [hn] at CE;have R4:=CE.fH;split at h<;>try trivial
  rename_i i r n cap hi hx;obtain⟨xe,pS,zD,hsz,-⟩:=aN hi;cases h;simp at hc;have hv:=hr.ev x;rw [hx] at hv;obtain⟨b,kW,hat⟩:=hv;refine fI (f:=fun ρ=>Instr.indexAt t (ρ x) (ρ ix)) (by simp [execOp,ho]) ⟨.pointer (some ⟨b,m.toNat,none⟩),?_,fun w' hs=>?_⟩
  ·simp_all [VT]
  rw [kW];unfold Instr.indexAt asIntOf;simp [od,aQ dX]
  simp_all [and_self,if_true,iQ,eS,jm,od,add_lit,pU,Rp]
 case load t x=>
  split at h<;>try trivial
  rename_i i r off hi hx;split at h<;>try trivial
  rename_i e cap T xs d' hb;cases h;simp only [cx,Fp] at hc;obtain⟨c1,c2,c3⟩:=hc;have c1:=ey c1;have c3:=ey c3;subst c3;have hv:=hr.ev x;rw [hx] at hv;obtain⟨b,kW,hat⟩:=hv;obtain⟨cur,h1,h2,h4,h5,h6⟩:=hr.box hat hb;refine⟨_,h5,fun w' hs=>?_⟩;have hb':w'.heap[b]? = some (.cells cur e (0,0)):=by rw [(hs (by rw [ho];rfl)).2 b (yY.1 h1).1];exact h1
  have:=Lo hi c1 c2 w' (VZ hb' (by rw [h2];exact h6));simp [execOp,ho,kW,this]
 case call c'=>
  split at h<;>try trivial
  rename_i x t hcl ha hat;have gr:c'.args=#[x]:=by grind
  have wQ:c'.argTypes=#[t]:=by grind
  split at h<;>try trivial
  rename_i e j1 j2 z r n cap ht hx;cases h;have hv:=hr.ev x;rw [hx] at hv;obtain⟨b,kW,hat⟩:=hv;obtain⟨xt,jB,dX,-⟩:=aN ht;refine⟨_,.int _ _ _ _,fun w' hs=>?_⟩;unfold execOp;simp [ho,resolve,hcl,invoke,builtin,gr,wQ];rw [kW];simp [Builtin.len_,aQ dX,goInt]
def TV.aif:TV E->O (J (TV E))
 | .dat t x=>cond t.isAgg (Hp E 4 t x) none
 | .agg cs=>some cs
 | _=>none
theorem aem(hE:E.Ok){d:TV E}{v:Value}{cs:J (TV E)}(hv:VT E w G d v)(h:d.aif=some cs):∃vs:aI Value,v=.agg vs/\bC E w G cs vs.toList:=by
 cases d<;>try trivial
 case dat t x=>
  simp only [TV.aif] at h;cases ha:t.isAgg<;>rw [ha] at h<;>simp only [bw,aU] at h
  ·cases h
  ·obtain⟨vs,rfl,h0⟩:=hv.ad2 ha
   exact⟨vs,rfl,xb hE 4 t x h0 h⟩
 case agg ds=>
  cases h;simp only [VT] at hv;obtain⟨vs,rfl,h1,h2⟩:=hv;exact⟨vs,rfl,h2⟩
def aen:J (TV E)->J (Nat×TV E)->O (J (TV E))
 | cs,[]=>some cs
 | cs,(j,d)::rest=>match d.nX with
  | some [u]=>cond (Nat.ble (j+1) cs.length) (aen (cs.take j++[u]++cs.drop (j+1)) rest) none
  | _=>none
theorem V0(hE:E.Ok)(hr:Rel E w0 G0 st a w G):∀(parts:J (Nat×bx))(cells:aI Value)(ds:J (TV E)){ds':J (TV E)},bC E w G ds cells.toList->(∀u,u∈cells.toList->u.oneCell'=true) ->
  aen ds (parts.map fun p=>(p.1,st.ev p.2))=some ds' ->
  ∃cells':aI Value,Instr.fill (fun i=>some (i*1,1)) cells (parts.map fun p=>(p.1,a.eval p.2))=some cells'/\bC E w G ds' cells'.toList/\∀u,u∈cells'.toList->u.oneCell'=true
 | [],cells,ds,ds',h,h1,hf=>by cases hf;exact⟨cells,rfl,h,h1⟩
 | (j,x)::rest,cells,ds,ds',h,h1,hf=>by
  simp only [lC,aen] at hf;split at hf<;>try trivial
  rename_i u hl;cases hb:Nat.ble (j+1) ds.length<;>rw [hb] at hf<;>simp only [bw,aU] at hf
  ·cases hf
  have hle:=lz hb;obtain⟨hx,hx1⟩:=rD hE (hr.ev x) hl;have hlen:(a.eval x).cells.size=1:=by simpa using hx.length
  have hcl:cells.size=ds.length:=by simpa using h.length
  simp only [lC];rw [MQ (off:=j) (size:=1) si hlen om,hlen];refine V0 hE hr rest _ _ ?_ ?_ hf
  ·simp only []
   exact ((h.take _).append hx).append (h.drop _)
  ·intro u hu
   simp only [wH] at hu;rcases hu with (hu|hu)|hu
   ·exact h1 u (ada hu)
   ·exact hx1 u (by simpa using hu)
   ·exact h1 u (List.mem_of_mem_drop hu)
theorem acn{T:Ty}:∀ {ds:J (TV E)}{us:J Value}{xs:J (T.den E.D)},nt T ds=some xs->bC E w G ds us->∀m,m<xs.length->∃u,us[m]? = some u/\VT E w G (.dat T (xs.getD m (T.dflt E))) u
 | [],us,xs,h,hv,m,hm=>by simp only [nt] at h;cases h;simp at hm
 | d::ds,us,xs,h,hv,m,hm=>by
  simp only [nt] at h;split at h<;>try trivial
  rename_i x xs' e1 e2;cases h;obtain⟨u,us',rfl,q1,q2⟩:=hv.cons_inv
  cases m with
  | zero=>exact⟨u,rfl,TV.tw e1 q1⟩
  | succ m=>exact acn e2 q2 m (by simpa using hm)
def XP(P:aD)(ty:aC->O Ty)(st:TS E):Op->O (Bool×TV E)
 | .build t parts=>match aS P t with
  | some ⟨.array _ e,_,_,.agg z⟩=>match aS P e,aen (z.toList.map TV.Jl) (parts.toList.map fun p=>(p.1,st.ev p.2)) with
   | some i,some ds=>some (Nat.beq i.size 1&&z.toList.all (·.oneCell'),OE E (ty t) ds)
   | _,_=>none
  | _=>none
 | .index t x ix=>match aS P t,st.ev ix with
  | some ⟨.array n e,_,_,_⟩,.dat (.int _) m=>match aS P e,ty e,(st.ev x).aif with
   | some i,some T,some cs=>match nt T cs with
    | some xs=>some (Nat.beq i.size 1&&(!i.isAgg&&(Nat.beq n xs.length&&(decide (0<=m)&&decide (m<(n:Int))))),.dat T (xs.getD (Int.toNat m) (T.dflt E)))
    | none=>none
   | _,_,_=>none
  | _,_=>none
 | _=>none
theorem abw(hE:E.Ok)(hr:Rel E w0 G0 st a w G){ty:aC->O Ty}{d:TV E}{cc:Bool}(h:XP P ty st o.op=some (cc,d))(hc:cc=true):jc P a w G o d:=by
 cases ho:o.op<;>rw [ho] at h<;>simp only [XP] at h<;>try trivial
 case build t parts=>
  split at h<;>try trivial
  rename_i n e j1 j2 z ht;split at h<;>try trivial
  rename_i i ds hi hp;cases h;rw [cx] at hc;have c1:=ey hc.1;obtain⟨xt,jB,dX,-,-,hz⟩:=aN ht;obtain⟨xe,pS,-,hsz,-⟩:=aN hi;obtain⟨cells,hf,hl,hl1⟩:=V0 hE hr parts.toList z (z.toList.map TV.Jl) bC.ofValues (fun u hu=>oR.1 hc.2 u hu) hp;refine fI (f:=fun ρ=>Instr.build t (parts.map fun (i,x)=>(i,ρ x))) (by simp [execOp,ho]) ⟨.agg cells,Iu hE hl hl1,fun w' hs=>?_⟩;refine run_build w' t _ cells ?_;unfold Program.built;simp only [jB,dX,hz,pS,hsz,c1];rw [show (parts.map fun (i,x)=>(i,a.eval x)).toList=parts.toList.map fun p=>(p.1,a.eval p.2) by simp];exact hf
 case index t x ix=>
  split at h<;>try trivial
  rename_i n e j1 j2 z kd m ht hn;obtain⟨m,hm0⟩:∃q:Int,q=m:=⟨m,rfl⟩;subst hm0;have CE:=hr.ev ix;rw [hn] at CE;have R4:=CE.fH;split at h<;>try trivial
  rename_i i T cs hi hT hx;split at h<;>try trivial
  rename_i xs hxs;cases h;simp only [cx,Fp,fW] at hc;obtain⟨c1,c2,c3,c4,c5⟩:=hc;have c1:=ey c1;have c3:=ey c3;have c4:(0:Int)<=m:=c4;have c5:m<(n:Int):=c5;obtain⟨xt,jB,dX,-⟩:=aN ht;obtain⟨xe,pS,-,hsz,-⟩:=aN hi;obtain⟨vs,kW,hvs⟩:=aem hE (hr.ev x) hx;obtain⟨u,hu,hv⟩:=acn hxs hvs m.toNat om;refine fI (f:=fun ρ=>Instr.index t (ρ x) (ρ ix)) (by simp [execOp,ho]) ⟨u,hv,fun w' hs=>?_⟩;rw [kW,R4];unfold Instr.index asIntOf part;have h3:(0<=m/\m<((n:Nat):Int)):=⟨c4,c5⟩;simp at hu;simp only [iQ,od,jm,aQ dX,h3,and_self,if_true,eS pS,hsz,c1,Rp,RX hi,c2];simp [hu]
def Sq(P:aD)(ty:aC->O Ty)(st:TS E)(o:Op):O (Bool×TV E):=match Sn P ty st o with
 | some x=>some x
 | none=>match Sp P st o with
  | some x=>some x
  | none=>XP P ty st o
theorem PK(hE:E.Ok)(hr:Rel E w0 G0 st a w G){ty:aC->O Ty}{d:TV E}{c:Bool}(h:Sq P ty st o.op=some (c,d))(hc:c=true):jc P a w G o d:=by
 unfold Sq at h;split at h
 ·rename_i x hx
  cases h;exact abr hE hr hx hc
 ·split at h
  ·rename_i x hx
   cases h;exact abv hE hr hx hc
  ·exact abw hE hr h hc
def aeo(P:aD)(st:TS E)(dst:O Nat):Op->O (Bool×TS E)
 | .store t x y=>match aS P t,st.ev x,(st.ev y).nX with
  | some i,.ptr r off,some [u]=>match st.H[r]? with
   | some (.kR e cap T xs d)=>some (Nat.beq i.size 1&&Nat.beq off xs.length,{st with t:=b8 st.t dst .any,H:=st.H.set r (.kR e cap T xs u),d:=r::st.d})
   | _=>none
  | _,_,_=>none
 | _=>none
theorem aep(hE:E.Ok)(hr:Rel E w0 G0 st a w G){st':TS E}{c:Bool}(h:aeo P st o.dst o.op=some (c,st'))(hc:c=true):jA P w0 G0 a w o st':=by
 cases ho:o.op<;>rw [ho] at h<;>simp [aeo] at h<;>try trivial
 case store t x y=>
  split at h<;>try trivial
  rename_i i r off u ht hd hy;split at h<;>try trivial
  rename_i e cap T xs d hb;cases h;rw [cx] at hc;have c1:=ey hc.1;have c2:=ey hc.2;have yN:=hr.ev x;rw [hd] at yN;obtain⟨b,he,hat⟩:=yN;obtain⟨vs,hh,hsz,hxs,hdv,hlt⟩:=hr.box hat hb;obtain⟨hl,hl1⟩:=rD hE (hr.ev y) hy;have hlen:(a.eval y).cells.toList.length=1:=by rw [hl.length];rfl
  have hlen':(a.eval y).cells.size=i.size:=by rw [c1];simpa using hlen
  obtain⟨v,hv⟩:∃v,(a.eval y).cells.toList=[v]:=by
   match hq:(a.eval y).cells.toList,hlen with
   | [v],_=>exact⟨v,rfl⟩
  obtain⟨xt,jB,-,api,-⟩:=aN ht;have hfit:xs.length+0+(a.eval y).cells.toList.length<=vs.size:=by rw [hsz];omega
  have Sb:=run_storeCells_at (P:=P) b xs.length e (a.eval y).cells.toList 0 vs w hh hfit (fun v hv=>hl1 v (by simpa using hv));obtain⟨new,hnw⟩:∃new,new=(vs.toList.take xs.length++(a.eval y).cells.toList++vs.toList.drop (xs.length+(a.eval y).cells.toList.length)).toArray:=⟨_,rfl⟩
  have hrun:(execOp a.eval o).run P w=.ok .skip (w.setRow b new):=by
   simp [execOp,ho,Instr.storeAt,Instr.sureAddr,he,storeVar,eS jB]
   simp_all
  have hnew:(w.setRow b new).heap[b]? = some (.cells new e (0,0)):=setRow_heap w b vs _ e _ hh;have Dl:∀b',b'≠b->(w.setRow b new).heap[b']? = w.heap[b']?:=fun b' hb'=>setRow_other w b b' _ hb';have tB:new.size=cap:=by grind
  have M5:∀q,new.getD q undef=if q=xs.length then v else vs.getD q undef:=by
   intro q;rw [Ud,Ud];have htl:(vs.toList.take xs.length).length=xs.length:=by grind
   by_cases h1:q<xs.length
   ·grind
   ·by_cases h2:q=xs.length
    ·simp_all
    ·rw [if_neg h2]
     grind
  have hR:=hr.xg (w':=w.setRow b new) hat si rfl rfl rfl Dl (x:=.kR e cap T xs u) (fun hg=>by
   refine⟨new,hnew,tB,fun q x hx=>?_,?_,hlt⟩
   ·have hq:=(eM.1 hx).1
    rw [M5,if_neg om];exact (hxs q x hx).mono hg
   ·rw [M5,if_pos rfl]
    have:=hl.mono hg;rw [hv] at this;obtain⟨u',us,e1,h1,-⟩:=this.cons_inv;cases e1;exact h1)
  exact⟨_,undef,_,G,hrun,.inr ⟨rfl,rfl⟩,hR.put (by simp [VT]) o.dst⟩
def Y9(P:aD)(ty:aC->O Ty)(st:TS E)(dst:O Nat)(op:Op):O (Bool×TS E):=match Y6 P ty st dst op with
 | some r=>some r
 | none=>match aek P ty st dst op with
  | some r=>some r
  | none=>aeo P st dst op
theorem aeq(hE:E.Ok)(hr:Rel E w0 G0 st a w G){ty:aC->O Ty}{st':TS E}{c:Bool}(h:Y9 P ty st o.dst o.op=some (c,st'))(hc:c=true):jA P w0 G0 a w o st':=by
 grind [Y9,aee,ael,aep]
end
end Go.RT
namespace Go.RT
variable {E : TEnv}
inductive Za where
 | ptr|iface|func|slice|map
 deriving DecidableEq
def Za.val:Za->Value
 | .ptr=>.pointer none
 | .iface=>.nilIface
 | .func=>.nilFunc
 | .slice=>.slice none 0 0
 | .map=>.map none
def aih:Value->O Za
 | .pointer none=>some .ptr
 | .nilIface=>some .iface
 | .nilFunc=>some .func
 | .slice none 0 0=>some .slice
 | .map none=>some .map
 | _=>none
theorem akK{v:Value}{k:Za}(h:aih v=some k):v=k.val:=by
 unfold aih at h;split at h<;>cases h<;>rfl
inductive CT where
 | dat (t:Ty)
 | any
 | ptr (r off:Nat)
 | o5 (r off:Nat)
 | iY (r:Nat)
 | tv (r:Nat)
 | cg (j:Nat) (t:Ty)
 | dW (j:Nat)
 | func (f:FuncId) (caps:List (Nat×Nat))
 | nil (k:Za)
 | rA (t:Ty) (off:Nat)
 | iface (ty:TypeId) (t:Ty)
 | gX (j k:Nat)
 | sQ (t:Ty)
 | lb (b:Bool)
 | li (k:IntKind) (n:Int)
 | pk (t:Ty)
def CT.pk? : CT->O Ty
 | .pk t=>some t
 | _=>none
inductive PT where
 | one (c:CT)
 | agg (cs:List CT)
 | dh (cs:List CT)
inductive BT where
 | cells (ty:TypeId) (cs:List CT)
 | map (kt vt:Ty)
 | iter
 | loop (y:Nat) (cs:List CT)
def CT.tys:CT->J Ty
 | .dat t=>[t]
 | .o5 _ _=>[.bool]
 | .cg _ t=>[.aZ t]
 | .rA t _=>[t]
 | .iface _ t=>[t]
 | .sQ t=>[.aZ t]
 | .pk t=>[t]
 | _=>[]
def CT.Zb:J CT->J Ty
 | []=>[]
 | c::cs=>c.tys++Zb cs
def PT.tys:PT->J Ty
 | .one c=>c.tys
 | .agg cs=>CT.Zb cs
 | .dh cs=>CT.Zb cs
def BT.tys:BT->J Ty
 | .cells _ cs=>CT.Zb cs
 | .loop _ cs=>CT.Zb cs
 | .map kt vt=>[.aZ (.pair kt vt)]
 | .iter=>[.str,.int .i64]
abbrev Lf(E:TEnv):=(t:Ty)×t.den E.D
@[reducible] def dens (E : TEnv) : J Ty -> Type
 | []=>Unit
 | [t]=>t.den E.D
 | t::u::ts=>t.den E.D×dens E (u::ts)
def XQ(t:Ty)(x:Lf E):O (t.den E.D):=if h:x.1=t then some (h▸x.2) else none
def getAll:(ts:J Ty)->J (Lf E)->O (dens E ts)
 | [],[]=>some ()
 | [],_::_=>none
 | [t],[x]=>XQ t x
 | [_],[]=>none
 | [_],_::_::_=>none
 | t::u::ts,x::xs=>match XQ t x,getAll (u::ts) xs with
  | some y,some ys=>some (y,ys)
  | _,_=>none
 | _::_::_,[]=>none
def aP:(ts:J Ty)->dens E ts->J (Lf E)
 | [],_=>[]
 | [t],x=>[⟨t,x⟩]
 | t::u::ts,x=>⟨t,x.1⟩::aP (u::ts) x.2
theorem Zc{t:Ty}{x:Lf E}{y:t.den E.D}(h:XQ t x=some y):x=⟨t,y⟩:=by
 grind [XQ]
theorem CG:∀(ts:J Ty){ls:J (Lf E)}{x:dens E ts},getAll ts ls=some x->aP ts x=ls
 | [],[],_,_=>rfl
 | [],_::_,_,h=>by cases h
 | [t],[l],x,h=>by grind [getAll,aP,Zc]
 | [_],[],_,h=>by cases h
 | [_],_::_::_,_,h=>by cases h
 | t::u::ts,l::ls,x,h=>by
  simp [getAll] at h;split at h<;>try trivial
  rename_i y ys h1 h2;cases h
  simp [aP,Zc h1,CG (u::ts) h2]
 | _::_::_,[],_,h=>by cases h
structure Rn where
 b:List Nat
 g:List Nat
 v:List Nat
def uT(a b c d:Nat):Bool:=Nat.beq a b&&Nat.beq c d
def M6(n:Rn):J (Nat×Nat)->J (TV E)->Bool
 | [],[]=>true
 | (r,off)::cs,d::ds=>(match n.b[r]?,d with
  | some r',.ptr r'' off'=>uT r' r'' off off'
  | _,_=>false)&&M6 n cs ds
 | _,_=>false
def Fg(n:Rn):J (Nat×Nat)->J (TV E)
 | []=>[]
 | (r,off)::cs=>(match n.b[r]? with|some r'=>.ptr r' off|none=>.any)::Fg n cs
def CT.get(n:Rn):CT->TV E->O (J (Lf E))
 | .dat t,d=>match d.get t with|some x=>some [⟨t,x⟩]|none=>none
 | .any,_=>some []
 | .ptr r off,.ptr r' off'=>match n.b[r]? with
  | some r''=>cond (uT r'' r' off off') (some []) none
  | none=>none
 | .o5 r off,.o5 b r' off'=>match n.b[r]? with
  | some r''=>cond (uT r'' r' off off') (some [⟨.bool,b⟩]) none
  | none=>none
 | .o5 r off,.ptr r' off'=>match n.b[r]? with
  | some r''=>cond (uT r'' r' off off') (some [⟨.bool,true⟩]) none
  | none=>none
 | .o5 _ _,.val (.pointer none)=>some [⟨.bool,false⟩]
 | .iY r,.iY r'=>match n.b[r]? with
  | some r''=>cond (Nat.beq r'' r') (some []) none
  | none=>none
 | .tv r,.tv r'=>match n.b[r]? with
  | some r''=>cond (Nat.beq r'' r') (some []) none
  | none=>none
 | .cg j t,.cg j' aE t' xs=>match n.g[j]?,n.v[j]? with
  | some Hw,some v=>if h:t'=t then cond (uT Hw j' v aE) (some [⟨.aZ t,(h▸xs:J (t.den E.D))⟩]) none else none
  | _,_=>none
 | .func f caps,.func (.func f') cs=>cond (Nat.beq f f'&&M6 n caps cs) (some []) none
 | .nil k,.val v=>match aih v with|some k'=>cond (decide (k=k')) (some []) none|none=>none
 | .rA t off,.rA t' y off'=>if h:t'=t then cond (Nat.beq off off') (some [⟨t,h▸y⟩]) none else none
 | .iface ty t,.iface ty' d=>match d.get t with|some x=>cond (Nat.beq ty ty') (some [⟨t,x⟩]) none|none=>none
 | .dW j,.dW j' aE=>match n.g[j]?,n.v[j]? with
  | some Hw,some v=>cond (uT Hw j' v aE) (some []) none
  | _,_=>none
 | .gX j k,.gX j' aE k' i off=>match n.g[j]?,n.v[j]? with
  | some Hw,some v=>cond (uT Hw j' v aE&&(Nat.beq k k'&&uT i 0 off 0)) (some []) none
  | _,_=>none
 | .sQ t,.sQ t' xs=>if h:t'=t then some [⟨.aZ t,(h▸xs:J (t.den E.D))⟩] else none
 | .lb b,.dat .bool x=>cond (b==x) (some []) none
 | .li k n,.dat (.int k') x=>cond (decide (k=k')&&decide (n=x)) (some []) none
 | _,_=>none
def CT.put(n:Rn):CT->J (Lf E)->TV E×J (Lf E)
 | .dat _,l::ls=>(.dat l.1 l.2,ls)
 | .ptr r off,ls=>(match n.b[r]? with|some r'=>.ptr r' off|none=>.any,ls)
 | .o5 r off,l::ls=>(match n.b[r]?,l with|some r',⟨.bool,b⟩=>.o5 b r' off|_,_=>.any,ls)
 | .iY r,ls=>(match n.b[r]? with|some r'=>.iY r'|none=>.any,ls)
 | .tv r,ls=>(match n.b[r]? with|some r'=>.tv r'|none=>.any,ls)
 | .cg j _,l::ls=>(match n.g[j]?,n.v[j]?,l with|some j',some v,⟨.aZ t,xs⟩=>.cg j' v t xs|_,_,_=>.any,ls)
 | .func f caps,ls=>(.func (.func f) (Fg n caps),ls)
 | .nil k,ls=>(.val k.val,ls)
 | .rA _ off,l::ls=>(.rA l.1 l.2 off,ls)
 | .iface ty _,l::ls=>(.iface ty (.dat l.1 l.2),ls)
 | .dW j,ls=>(match n.g[j]?,n.v[j]? with|some j',some v=>.dW j' v|_,_=>.any,ls)
 | .gX j k,ls=>(match n.g[j]?,n.v[j]? with|some j',some v=>.gX j' v k 0 0|_,_=>.any,ls)
 | .sQ _,l::ls=>(match l with|⟨.aZ t,xs⟩=>.sQ t xs|_=>.any,ls)
 | .lb b,ls=>(.dat .bool b,ls)
 | .li k n,ls=>(.dat (.int k) n,ls)
 | _,ls=>(.any,ls)
def CT.amy(t:Ty)(ds:J (TV E)):O (t.den E.D×J (TV E)):=match MP E 4 t ds with
 | some p=>match Hp E 4 t p.1 with
  | some _=>some p
  | none=>none
 | none=>none
def CT.Kt:J (Lf E)->J (TV E)×J (Lf E)
 | l::ls=>(match Hp E 4 l.1 l.2 with|some cs=>cs|none=>[],ls)
 | []=>([],[])
def CT.Ix(n:Rn):J CT->J (TV E)->O (J (Lf E))
 | [],[]=>some []
 | [],_::_=>none
 | c::cs,ds=>match c.pk? with
  | some t=>match CT.amy t ds with
   | some p=>match Ix n cs p.2 with
    | some ls=>some (⟨t,p.1⟩::ls)
    | none=>none
   | none=>none
  | none=>match ds with
   | d::ds=>match c.get n d,Ix n cs ds with
    | some l,some ls=>some (l++ls)
    | _,_=>none
   | []=>none
def CT.ou(n:Rn):J CT->J (Lf E)->J (TV E)×J (Lf E)
 | [],ls=>([],ls)
 | c::cs,ls=>match c.pk? with
  | some _=>((CT.Kt ls).1++(ou n cs (CT.Kt ls).2).1,(ou n cs (CT.Kt ls).2).2)
  | none=>((c.put n ls).1::(ou n cs (c.put n ls).2).1,(ou n cs (c.put n ls).2).2)
def PT.get(n:Rn):PT->TV E->O (J (Lf E))
 | .one c,d=>c.get n d
 | .agg cs,.agg ds=>CT.Ix n cs ds
 | .dh cs,.tuple ds=>CT.Ix n cs ds
 | _,_=>none
def PT.put(n:Rn):PT->J (Lf E)->TV E×J (Lf E)
 | .one c,ls=>c.put n ls
 | .agg cs,ls=>(.agg (CT.ou n cs ls).1,(CT.ou n cs ls).2)
 | .dh cs,ls=>(.tuple (CT.ou n cs ls).1,(CT.ou n cs ls).2)
def BT.get(n:Rn):BT->eW E->O (J (Lf E))
 | .cells ty cs,.cells ty' ds=>cond (Nat.beq ty ty') (CT.Ix n cs ds) none
 | .map kt vt,.map kt' vt' m=>if h:Ty.aZ (.pair kt' vt')=.aZ (.pair kt vt) then some [⟨.aZ (.pair kt vt),(h▸(show (Ty.aZ (.pair kt' vt')).den E.D from m):(Ty.aZ (.pair kt vt)).den E.D)⟩] else none
 | .iter,.iter s pos=>some [⟨.str,s⟩,⟨.int .i64,(pos:Int)⟩]
 | .loop y cs,.loop y' ds=>cond (Nat.beq y y') (CT.Ix n cs ds) none
 | _,_=>none
def BT.put(n:Rn):BT->J (Lf E)->eW E×J (Lf E)
 | .cells ty cs,ls=>(.cells ty (CT.ou n cs ls).1,(CT.ou n cs ls).2)
 | .loop y cs,ls=>(.loop y (CT.ou n cs ls).1,(CT.ou n cs ls).2)
 | .map _ _,l::ls=>(match l with|⟨.aZ (.pair kt vt),m⟩=>.map kt vt m|_=>.iter [] 0,ls)
 | .iter,l::l'::ls=>(match l,l' with|⟨.str,s⟩,⟨.int _,p⟩=>.iter s (Int.toNat p)|_,_=>.iter [] 0,ls)
 | _,ls=>(.iter [] 0,ls)
structure BF(w:World)(G:aJ)(n:Rn)(G2:aJ)(n2:Rn):Prop where
 pr:∀b o,G.pr b o->G2.pr b o
 i:∀(r r' b:Nat),n.b[r]? = some r'->G.i[r']? = some b->∃r2,n2.b[r]? = some r2/\G2.i[r2]? = some b
 g:∀(j j' v:Nat) x h,n.g[j]? = some j'->n.v[j]? = some v->G.g[j']? = some (x,h)->x.aE=v/\∃j2 v2 x2,n2.g[j]? = some j2/\n2.v[j]? = some v2/\G2.g[j2]? = some (x2,h)/\x2.aE=v2
theorem yP{a b c d:Nat}(h:uT a b c d=true):a=b/\c=d:=by
 simp_all [uT,cx,ey]
section
variable {w : U} {G G2 : aJ} {n n2 : Rn}
theorem VT.rH{t:Ty}{x:t.den E.D}{v:Value}(h:VT E w G (.dat t x) v)(hp:∀b o,G.pr b o->G2.pr b o):VT E w G2 (.dat t x) v:=by
 cases ha:t.isAgg
 ·exact .OD ha ((h.atom ha).mono hp (fun _ _ _ _ h=>h))
 ·obtain⟨vs,rfl,h0⟩:=h.ad2 ha
  simp only [VT,ha];exact⟨vs,rfl,h0.mono hp (fun _ _ _ _ h=>h)⟩
theorem aco(hL:BF w G n G2 n2):∀(caps:J (Nat×Nat)){cs:J (TV E)}{vs:J Value},M6 n caps cs=true->bC E w G cs vs->bC E w G2 (Fg n2 caps:J (TV E)) vs
 | [],[],vs,_,h=>h
 | (r,off)::caps,d::ds,vs,hc,h=>by
  simp [M6] at hc;obtain⟨u,us,rfl,h1,h2⟩:=h.cons_inv;obtain⟨hc1,Jk⟩:=hc;split at hc1<;>try trivial
  rename_i r' r'' off' hr;obtain⟨rfl,rfl⟩:=yP hc1;obtain⟨b,rfl,hb⟩:=h1;obtain⟨r2,hr2,oY⟩:=hL.i r r' b hr hb;refine .cons ?_ (aco hL caps Jk h2)
  simp_all [VT]
 | [],_::_,_,hc,_=>by cases hc
 | (_,_)::_,[],_,hc,_=>by cases hc
theorem CT.sound(hL:BF w G n G2 n2){c:CT}{d:TV E}{ls rest:J (Lf E)}{v:Value}(h:c.get n d=some ls)(hv:VT E w G d v):
  (c.put n2 (ls++rest)).2=rest/\VT E w G2 (c.put n2 (ls++rest)).1 v:=by
 unfold CT.get at h;split at h<;>try trivial
 ·split at h<;>try trivial
  rename_i t x hx;cases h;exact⟨rfl,(TV.tw hx hv).rH hL.pr⟩
 ·simp_all [CT.put,pV,uA,VT]
 ·rename_i r off r' off'
  split at h<;>try trivial
  rename_i r'' hr;cases hb:uT r'' r' off off'<;>rw [hb] at h<;>simp only [bw,aU] at h
  ·cases h
  obtain⟨rfl,rfl⟩:=yP hb;obtain⟨b,rfl,hb⟩:=hv;obtain⟨r2,hr2,oY⟩:=hL.i r r'' b hr hb
  simp_all [CT.put,pV,uA,VT]
 ·rename_i r off bb r' off'
  split at h<;>try trivial
  rename_i r'' hr;cases hb:uT r'' r' off off'<;>rw [hb] at h<;>simp only [bw,aU] at h
  ·cases h
  cases h;obtain⟨rfl,rfl⟩:=yP hb;cases bb<;>simp only [VT] at hv
  ·simp only [CT.put,yo,pV,uA]
   grind [VT]
  ·obtain⟨b,rfl,hb⟩:=hv
   obtain⟨r2,hr2,oY⟩:=hL.i r r'' b hr hb
   simp_all [CT.put,yo,pV,uA,VT]
 ·rename_i r off r' off'
  split at h<;>try trivial
  rename_i r'' hr;cases hb:uT r'' r' off off'<;>rw [hb] at h<;>simp only [bw,aU] at h
  ·cases h
  cases h;obtain⟨rfl,rfl⟩:=yP hb;obtain⟨b,rfl,hb⟩:=hv;obtain⟨r2,hr2,oY⟩:=hL.i r r'' b hr hb
  simp_all [CT.put,yo,pV,uA,VT]
 ·cases h
  simp only [CT.put,yo,pV,uA]
  grind [VT]
 ·rename_i r r'
  split at h<;>try trivial
  rename_i r'' hr;cases hb:Nat.beq r'' r'<;>rw [hb] at h<;>simp only [bw,aU] at h
  ·cases h
  obtain rfl:=ey hb;obtain⟨b,rfl,hb⟩:=hv;obtain⟨r2,hr2,oY⟩:=hL.i r r'' b hr hb
  simp_all [CT.put,pV,uA,VT]
 ·rename_i r r'
  split at h<;>try trivial
  rename_i r'' hr;cases hb:Nat.beq r'' r'<;>rw [hb] at h<;>simp only [bw,aU] at h
  ·cases h
  obtain rfl:=ey hb;obtain⟨b,rfl,hb⟩:=hv;obtain⟨r2,hr2,oY⟩:=hL.i r r'' b hr hb
  simp_all [CT.put,pV,uA,VT]
 ·rename_i j t j' aE t' xs
  split at h<;>try trivial
  rename_i Hw vv hj CH;split at h<;>try trivial
  rename_i ht;subst ht;cases hb:uT Hw j' vv aE<;>rw [hb] at h<;>simp only [bw,aU] at h
  ·cases h
  cases h;obtain⟨rfl,rfl⟩:=yP hb;obtain⟨zy,x,hh,hg,hle,heq⟩:=hv;obtain⟨Sr,j2,v2,x2,q1,q2,q3,q4⟩:=hL.g j Hw vv x hh hj CH hg;simp only [CT.put,q1,q2,yo,pV,uA,VT];refine⟨zy.mono hL.pr (fun _ _ _ _ h=>h),x2,hh,q3,om,fun _=>heq Sr.symm⟩
 ·rename_i f caps f' cs
  cases hb:(Nat.beq f f'&&M6 n caps cs)<;>rw [hb] at h<;>simp only [bw,aU] at h
  ·cases h
  rw [cx] at hb;obtain rfl:=ey hb.1;simp only [VT] at hv;simp only [CT.put,pV,uA,VT]
  grind [aco]
 ·rename_i k u
  split at h<;>try trivial
  rename_i k' hk;cases hb:decide (k=k')<;>rw [hb] at h<;>simp only [bw,aU] at h
  ·cases h
  cases h;simp only [fW] at hb;subst hb;subst hv;simp only [CT.put,pV,uA,VT];exact akK hk
 ·rename_i t off t' y off'
  split at h<;>try trivial
  rename_i ht;subst ht;cases hb:Nat.beq off off'<;>rw [hb] at h<;>simp only [bw,aU] at h
  ·cases h
  cases h;obtain rfl:=ey hb;obtain⟨b,o,c,rfl,h1,h2⟩:=hv;simp only [CT.put,yo,pV,uA,VT];exact⟨b,o,c,rfl,h1.mono hL.pr (fun _ _ _ _ h=>h),fun l u hl=>⟨hL.pr _ _ (h2 l u hl).1,(h2 l u hl).2⟩⟩
 ·rename_i ty t ty' d'
  split at h<;>try trivial
  rename_i x hx;cases hb:Nat.beq ty ty'<;>rw [hb] at h<;>simp only [bw,aU] at h
  ·cases h
  cases h;obtain rfl:=ey hb;obtain⟨u,rfl,hu⟩:=hv;simp only [CT.put,yo,pV,uA,VT];exact⟨u,rfl,(TV.tw hx hu).rH hL.pr⟩
 ·rename_i j j' aE
  split at h<;>try trivial
  rename_i Hw vv hj CH;cases hb:uT Hw j' vv aE<;>rw [hb] at h<;>simp only [bw,aU] at h
  ·cases h
  obtain⟨rfl,rfl⟩:=yP hb;obtain⟨x,hh,hg,hle,h1,heq⟩:=hv;obtain⟨Sr,j2,v2,x2,q1,q2,q3,q4⟩:=hL.g j Hw vv x hh hj CH hg;simp only [CT.put,q1,q2,pV,uA,VT]
  grind
 ·rename_i j k j' aE k' i off
  split at h<;>try trivial
  rename_i Hw vv hj CH;cases hb:(uT Hw j' vv aE&&(Nat.beq k k'&&uT i 0 off 0))<;>rw [hb] at h<;>simp only [bw,aU] at h
  ·cases h
  rw [cx,cx] at hb;obtain⟨wW,oY,YE⟩:=hb;obtain⟨rfl,rfl⟩:=yP wW;obtain⟨rfl,rfl⟩:=yP YE;obtain⟨x,hh,hg,hle,h1,heq⟩:=hv;obtain⟨Sr,j2,v2,x2,q1,q2,q3,q4⟩:=hL.g j Hw vv x hh hj CH hg;simp only [CT.put,q1,q2,pV,uA,VT]
  grind
 ·split at h<;>try trivial
  rename_i ht;subst ht;cases h;obtain⟨vs,rfl,h1,h2⟩:=hv;simp only [CT.put,yo,pV,uA,VT];exact⟨vs,rfl,h1,h2.mono hL.pr (fun _ _ _ _ h=>h)⟩
 ·rename_i b x
  cases hb:(b==x)<;>rw [hb] at h<;>simp only [bw,aU] at h
  ·cases h
  cases h;rw [tV] at hb;subst hb;refine⟨rfl,?_⟩;rw [VT.lH hv];exact .bool _ _ _
 ·rename_i k n k' x
  cases hb:(decide (k=k')&&decide (n=x))<;>rw [hb] at h<;>simp only [bw,aU] at h
  ·cases h
  cases h;rw [cx,fW,fW] at hb;obtain⟨rfl,rfl⟩:=hb;refine⟨rfl,?_⟩;rw [VT.fH hv];exact .int _ _ _ _
theorem CT.M7(hE:E.Ok)(hL:BF w G n G2 n2):∀ {cs:J CT}{ds:J (TV E)}{ls rest:J (Lf E)}{vs:J Value},CT.Ix n cs ds=some ls->bC E w G ds vs ->
  (CT.ou n2 cs (ls++rest)).2=rest/\bC E w G2 (CT.ou n2 cs (ls++rest)).1 vs
 | [],[],ls,rest,vs,h,hv=>by cases h;simp [bC] at hv;subst hv;exact⟨rfl,bC.nil⟩
 | c::cs,ds,ls,rest,vs,h,hv=>by
  unfold CT.Ix at h;unfold CT.ou;split at h
  ·rename_i t ht
   split at h<;>try trivial
   rename_i p hp;split at h<;>try trivial
   rename_i ls' h2;cases h;unfold CT.amy at hp;split at hp<;>try trivial
   rename_i p' hp';split at hp<;>try trivial
   rename_i fc VP;cases hp;obtain⟨us,ts,rfl,q1,q2⟩:=zB hE 4 t hv hp';obtain⟨e3,e4⟩:=CT.M7 hE hL h2 q2;simp [ht,CT.Kt,VP];exact⟨e3,(xb hE 4 t p.1 (q1.mono hL.pr (fun _ _ _ _ h=>h)) VP).append e4⟩
  ·rename_i ht
   split at h<;>try trivial
   split at h<;>try trivial
   rename_i l ls' h1 h2;cases h;obtain⟨u,us,rfl,q1,q2⟩:=hv.cons_inv;obtain⟨e1,e2⟩:=CT.sound hL (rest:=ls'++rest) h1 q1;obtain⟨e3,e4⟩:=CT.M7 hE hL h2 q2;simp [ht,e1]
   exact⟨e3,.cons e2 e4⟩
 | [],_::_,_,_,_,h,_=>by cases h
theorem PT.sound(hE:E.Ok)(hL:BF w G n G2 n2){p:PT}{d:TV E}{ls rest:J (Lf E)}{v:Value}(h:p.get n d=some ls)(hv:VT E w G d v):
  (p.put n2 (ls++rest)).2=rest/\VT E w G2 (p.put n2 (ls++rest)).1 v:=by
 unfold PT.get at h
 grind [CT.sound,VT,CT.M7,PT.put]
theorem fR.pr{kt vt:Ty}(hp:∀b o,G.pr b o->G2.pr b o):∀ {es:J MapEntry}{m:J (kt.den E.D×vt.den E.D)},fR E w G kt vt es m->fR E w G2 kt vt es m
 | [],[],_=>trivial
 | _::_,_::_,h=>⟨h.1.rH hp,h.2.1.rH hp,fR.pr hp h.2.2⟩
 | [],_::_,h=>h.elim
 | _::_,[],h=>h.elim
theorem BT.sound(hE:E.Ok)(hL:BF w G n G2 n2){t:BT}{x:eW E}{ls rest:J (Lf E)}{b:Nat}(h:t.get n x=some ls)(hv:jD E w G b x):
  (t.put n2 (ls++rest)).2=rest/\jD E w G2 b (t.put n2 (ls++rest)).1:=by
 unfold BT.get at h;split at h<;>try trivial
 ·rename_i ty cs ty' ds
  cases hb:Nat.beq ty ty'<;>rw [hb] at h<;>simp only [bw,aU] at h
  ·cases h
  obtain rfl:=ey hb;obtain⟨vs,h1,h2,h3⟩:=hv;obtain⟨e1,e2⟩:=CT.M7 hE hL h h3;exact⟨e1,vs,h1,h2,e2⟩
 ·split at h<;>try trivial
  rename_i he;have he':=he;obtain⟨rfl,rfl⟩:=he';cases h;obtain⟨es,clock,h1,h2,h3⟩:=hv;refine⟨rfl,?_⟩;exact⟨es,clock,h1,h2,h3.pr hL.pr⟩
 ·cases h
  exact⟨rfl,hv⟩
 ·rename_i y cs y' ds
  cases hb:Nat.beq y y'<;>rw [hb] at h<;>simp only [bw,aU] at h
  ·cases h
  obtain rfl:=ey hb;obtain⟨Y,fn,tmps,D,h0,h1,h2⟩:=hv;obtain⟨e1,e2⟩:=CT.M7 hE hL h h2;exact⟨e1,Y,fn,tmps,D,h0,h1,e2⟩
end
end Go.RT
namespace Go.RT
variable {E : TEnv}
structure Cut where
 vars:List (Nat×PT)
 boxes:List (Option BT)
 rows:List (Option (TypeId×Nat))
 soft:List (Nat×Ty)
def acp:J (Nat×PT)->J Ty
 | []=>[]
 | v::vs=>v.2.tys++acp vs
def Ku:J (O BT)->J Ty
 | []=>[]
 | some b::bs=>b.tys++Ku bs
 | none::bs=>Ku bs
def OJ:J (Nat×Ty)->J Ty
 | []=>[]
 | p::ps=>.aZ p.2::OJ ps
def Cut.tys(c:Cut):J Ty:=acp c.vars++(Ku c.boxes++OJ c.soft)
def Jr(f:Nat->O Nat)(cs:J (Nat×Cn E)):J (Nat×Ty)->O (J (Lf E))
 | []=>some []
 | p::ps=>match f p.1 with
  | some j=>match nO cs j,Jr f cs ps with
   | some c,some ls=>if h:c.1=p.2 then some (⟨.aZ p.2,(h▸c.2:J (p.2.den E.D))⟩::ls) else none
   | _,_=>none
  | none=>none
def mD(f:Nat->O Nat):J (Nat×Ty)->J (Lf E)->J (Nat×Cn E)
 | [],_=>[]
 | p::ps,l::ls=>match f p.1,l with
  | some j,⟨.aZ t,xs⟩=>(j,⟨t,xs⟩)::mD f ps ls
  | _,_=>mD f ps ls
 | _::_,[]=>[]
theorem Cc{f f2:Nat->O Nat}{cs:J (Nat×Cn E)}:∀ {ps:J (Nat×Ty)}{ls:J (Lf E)}(rest:J (Lf E)),Jr f cs ps=some ls->∀ {i:Nat}{c:Cn E},(i,c)∈mD f2 ps (ls++rest) ->
  ∃q j,(∃t,(q,t)∈ps)/\f q=some j/\f2 q=some i/\(j,c)∈cs
 | [],ls,rest,h,i,c,hm=>by cases hm
 | p::ps,ls,rest,h,i,c,hm=>by
  simp [Jr] at h;split at h<;>try trivial
  rename_i j hj;split at h<;>try trivial
  rename_i c' ls' h1 h2;split at h<;>try trivial
  rename_i ht;cases h;obtain⟨t',xs⟩:=c';obtain⟨q,t⟩:=p;dsimp only at ht;subst ht;simp [mD] at hm
  cases hf:f2 q with
  | none=>
   rw [hf] at hm;obtain⟨q',j',⟨t1,e0⟩,e1⟩:=Cc rest h2 hm
   exact⟨q',j',⟨t1,pT _ e0⟩,e1⟩
  | some i'=>
   rw [hf] at hm;rcases ij.1 hm with e|hm
   ·cases e
    exact⟨q,j,⟨t',Mq ..⟩,hj,hf,QB h1⟩
   ·obtain⟨q',j',⟨t1,e0⟩,e1⟩:=Cc rest h2 hm
    exact⟨q',j',⟨t1,pT _ e0⟩,e1⟩
def below(n:Nat):J (Nat×Ty)->Bool
 | []=>true
 | p::ps=>Nat.blt p.1 n&&below n ps
theorem Zd{n:Nat}:∀ {ps:J (Nat×Ty)},below n ps=true->∀q t,(q,t)∈ps->q<n
 | [],_,q,t,h=>by cases h
 | p::ps,hb,q,t,h=>by
  simp [below] at hb;rcases ij.1 h with e|h
  ·rw [<-e] at hb;simp_all
  ·exact Zd hb.2 q t h
def xj:J (O (aC×Nat))->J bO->J bO->Bool
 | [],_,_=>true
 | none::rs,x::g0,y::g=>(Nat.beq x.aE y.aE&&(Nat.beq x.e y.e&&Nat.beq x.k y.k))&&xj rs g0 g
 | some p::rs,x::g0,y::g=>(Nat.beq p.1 y.e&&Nat.beq p.2 y.k)&&xj rs g0 g
 | some p::rs,[],y::g=>(Nat.beq p.1 y.e&&Nat.beq p.2 y.k)&&xj rs [] g
 | _,_,_=>false
def dL:J (O (aC×Nat))->J bO->J bO
 | [],_=>[]
 | none::rs,x::g0=>x::dL rs g0
 | some p::rs,x::g0=>⟨x.aE+1,p.1,p.2⟩::dL rs g0
 | some p::rs,[]=>⟨0,p.1,p.2⟩::dL rs []
 | none::rs,[]=>⟨0,0,0⟩::dL rs []
def gA:J (O (aC×Nat))->J bO->J (bO×Value)->J (bO×Value)
 | none::rs,_::g0,y::gs=>y::gA rs g0 gs
 | some _::rs,x::g0,y::gs=>({y.1 with aE:=x.aE+1},y.2)::gA rs g0 gs
 | some _::rs,[],y::gs=>({y.1 with aE:=0},y.2)::gA rs [] gs
 | _,_,_=>[]
theorem Hx:∀(rows:J (O (aC×Nat)))(g0:J bO)(gs:J (bO×Value)),xj rows g0 (gs.map (·.1))=true ->
  (gA rows g0 gs).map (·.1)=dL rows g0/\(gA rows g0 gs).length=rows.length/\rows.length<=gs.length /\
  ∀(j:Nat) y,gs[j]? = some y->j<rows.length->∃y2,(gA rows g0 gs)[j]? = some y2/\y2.2=y.2/\y2.1.e=y.1.e/\y2.1.k=y.1.k/\∀x0,g0[j]? = some x0->y2.1.aE=y.1.aE\/x0.aE<y2.1.aE
 | [],g0,gs,h=>by
  simp_all [gA,dL]
 | none::rs,x::g0,y::gs,h=>by
  simp [xj] at h;obtain⟨⟨h1,h2,h3⟩,h4⟩:=h;obtain⟨i1,i2,i3,i4⟩:=Hx rs g0 gs h4
  have hxy:y.1=x:=by
   obtain⟨a',b',c'⟩:=x
   simp_all
  grind [gA,dL]
 | some p::rs,x::g0,y::gs,h=>by
  simp only [lC,xj,cx] at h;obtain⟨⟨h1,h2⟩,h4⟩:=h;obtain⟨i1,i2,i3,i4⟩:=Hx rs g0 gs h4;have e1:=ey h1;have e2:=ey h2;refine⟨by grind [gA,dL],by simp [gA,i2],by simpa using i3,fun j z hz hj=>?_⟩
  cases j with
  | zero=>simp at hz;subst hz;exact⟨_,rfl,rfl,rfl,rfl,fun x0 hx=>by simp_all⟩
  | succ j=>grind [gA]
 | some p::rs,[],y::gs,h=>by
  simp only [lC,xj,cx] at h;obtain⟨⟨h1,h2⟩,h4⟩:=h;obtain⟨i1,i2,i3,i4⟩:=Hx rs [] gs h4;have e1:=ey h1;have e2:=ey h2;refine⟨by simp [gA,dL,i1,e1,e2],by simp [gA,i2],by simpa using i3,fun j z hz hj=>?_⟩
  cases j with
  | zero=>simp at hz;subst hz;exact⟨_,rfl,rfl,rfl,rfl,fun x0 hx=>by simp at hx⟩
  | succ j=>simpa [gA] using i4 j z (by simpa using hz) (by simpa using hj)
 | none::rs,[],gs,h=>by cases gs<;>cases h
 | none::rs,_::_,[],h=>by cases h
 | some _::rs,[],[],h=>by cases h
 | some _::rs,_::_,[],h=>by cases h
def OK(n:Rn)(st:TS E):J (Nat×PT)->O (J (Lf E))
 | []=>some []
 | (i,p)::vs=>match p.get n (st.at i),OK n st vs with
  | some l,some ls=>some (l++ls)
  | _,_=>none
def nP(n:Rn)(d:J Nat)(nb:Nat):Nat->J (O BT)->J (eW E)->O (J (Lf E))
 | _,[],_=>some []
 | r,none::bs,_::H=>cond (d.elem r || !(Nat.blt r nb)) none (nP n d nb (r+1) bs H)
 | r,some t::bs,x::H=>match t.get n x,nP n d nb (r+1) bs H with
  | some l,some ls=>some (l++ls)
  | _,_=>none
 | _,_::_,[]=>none
def since(d0 d:J Nat):J Nat:=d.take (d.length-d0.length)
theorem agk(n d0:J Nat):since d0 (n++d0)=n:=by simp [since]
def Cut.leaves(c:Cut)(bK st:TS E):Option (J (Lf E)):=
 cond (below c.rows.length c.soft&&(Nat.ble bK.H.length c.boxes.length&&(Nat.ble bK.g.length c.rows.length&&xj c.rows bK.g st.g)))
  (match OK ⟨List.range c.boxes.length,List.range c.rows.length,st.g.map (·.aE)⟩ st c.vars,nP ⟨List.range c.boxes.length,List.range c.rows.length,st.g.map (·.aE)⟩ (since bK.d st.d) bK.H.length 0 c.boxes st.H,Jr some st.c c.soft with
   | some a,some b,some e=>some (a++(b++e))
   | _,_,_=>none) none
def mO(W:J Nat):Nat->J (TV E)->J (TV E)
 | _,[]=>[]
 | i,d::ds=>cond (W.elem i) .any d::mO W (i+1) ds
def mo(n:Rn):J (Nat×PT)->J (TV E)->J (Lf E)->J (TV E)×J (Lf E)
 | [],t,ls=>(t,ls)
 | (i,p)::vs,t,ls=>mo n vs (t.set i (p.put n ls).1) (p.put n ls).2
def eA(n:Rn):J (Option BT)->J (eW E)->J (Lf E)->J (eW E)
 | [],_,_=>[]
 | none::bs,H,ls=>(match H with|x::_=>x | []=>default)::eA n bs H.tail ls
 | some t::bs,H,ls=>(t.put n ls).1::eA n bs H.tail (t.put n ls).2
def oH:J (O BT)->J (Lf E)->J (Lf E)
 | [],ls=>ls
 | none::bs,ls=>oH bs ls
 | some t::bs,ls=>oH bs (t.put ⟨[],[],[]⟩ ls).2
def CI:Nat->J (O BT)->J Nat
 | _,[]=>[]
 | r,none::bs=>CI (r+1) bs
 | r,some _::bs=>r::CI (r+1) bs
def Cut.unpack(c:Cut)(W:J Nat)(bK:TS E)(ls:J (Lf E)):TS E:=
 let n:Rn:=⟨List.range c.boxes.length,List.range c.rows.length,(dL c.rows bK.g).map (·.aE)⟩
 {t:=(mo n c.vars (mO W 0 bK.t) ls).1
  H:=eA n c.boxes bK.H (mo n c.vars (mO W 0 bK.t) ls).2
  g:=dL c.rows bK.g
  d:=CI 0 c.boxes++bK.d
  df:=bK.df
  c:=mD some c.soft (oH c.boxes (mo n c.vars (mO W 0 bK.t) ls).2)}
mutual
def TV.Bd(nb:Nat)(g:J bO):TV E->Prop
 | .ptr r _=>r<nb
 | .o5 b r _=>b=true->r<nb
 | .iY r=>r<nb
 | .tv r=>r<nb
 | .gV r _ _=>r<nb
 | .cg j aE _ _=>∃x,g[j]? = some x/\aE<=x.aE
 | .PD j aE _=>∃x,g[j]? = some x/\aE<=x.aE
 | .dW j aE=>∃x,g[j]? = some x/\aE<=x.aE
 | .gX j aE _ _ _=>∃x,g[j]? = some x/\aE<=x.aE
 | .sQ _ _=>True
 | .func _ caps=>TV.CJ nb g caps
 | .FH _ fs=>TV.CJ nb g fs
 | .iface _ d=>TV.Bd nb g d
 | .agg cs=>TV.CJ nb g cs
 | .tuple ds=>TV.CJ nb g ds
 | .any=>True
 | .dat _ _=>True
 | .rA _ _ _=>True
 | .val _=>True
def TV.CJ(nb:Nat)(g:J bO):J (TV E)->Prop
 | []=>True
 | d::ds=>TV.Bd nb g d/\TV.CJ nb g ds
end
section
variable {w : U} {G G2 : aJ}
mutual
theorem VT.bd:∀ {d:TV E}{v:Value},VT E w G d v->TV.Bd G.i.length (G.g.map (·.1)) d
 | .any,_,_=>by simp only [TV.Bd]
 | .dat _ _,_,_=>by simp only [TV.Bd]
 | .rA _ _ _,_,_=>by simp only [TV.Bd]
 | .val _,_,_=>by simp only [TV.Bd]
 | .sQ _ _,_,_=>by simp only [TV.Bd]
 | .ptr r off,v,h=>by
  simp only [VT] at h;simp only [TV.Bd];obtain⟨b,-,h⟩:=h
  exact (eM.1 h).1
 | .o5 c r off,v,h=>by
  simp only [TV.Bd];intro hc;subst hc;simp only [VT] at h;obtain⟨b,-,h⟩:=h
  exact (eM.1 h).1
 | .iY r,v,h=>by
  simp only [VT] at h;simp only [TV.Bd];obtain⟨b,-,h⟩:=h
  exact (eM.1 h).1
 | .tv r,v,h=>by
  simp only [VT] at h;simp only [TV.Bd];obtain⟨b,-,h⟩:=h
  exact (eM.1 h).1
 | .gV r n cap,v,h=>by
  simp only [VT] at h;simp only [TV.Bd];obtain⟨b,-,h⟩:=h
  exact (eM.1 h).1
 | .cg j aE t xs,v,h=>by
  simp only [VT] at h;simp only [TV.Bd];obtain⟨-,x,g,hg,hle,-⟩:=h
  exact⟨x,by simp [hg],hle⟩
 | .PD j aE l,v,h=>by
  simp only [VT] at h;simp only [TV.Bd];obtain⟨x,g,u,hg,hle,-⟩:=h
  exact⟨x,by simp [hg],hle⟩
 | .dW j aE,v,h=>by
  simp only [VT] at h;simp only [TV.Bd];obtain⟨x,g,hg,hle,-⟩:=h
  exact⟨x,by simp [hg],hle⟩
 | .gX j aE k i off,v,h=>by
  simp only [VT] at h;simp only [TV.Bd];obtain⟨x,g,hg,hle,-⟩:=h
  exact⟨x,by simp [hg],hle⟩
 | .func fn caps,v,h=>by
  simp only [VT] at h;simp only [TV.Bd];obtain⟨vs,-,h⟩:=h
  exact bC.bd h
 | .FH fn fs,v,h=>by
  simp only [VT] at h;simp only [TV.Bd];obtain⟨vs,-,h⟩:=h
  exact bC.bd h
 | .iface ty d,v,h=>by
  simp only [VT] at h;simp only [TV.Bd];obtain⟨u,-,h⟩:=h
  exact VT.bd h
 | .agg cs,v,h=>by
  simp only [VT] at h;simp only [TV.Bd];obtain⟨vs,-,-,h⟩:=h
  exact bC.bd h
 | .tuple ds,v,h=>by
  simp only [VT] at h;simp only [TV.Bd];obtain⟨vs,-,h⟩:=h;exact bC.bd h
theorem bC.bd:∀ {ds:J (TV E)}{vs:J Value},bC E w G ds vs->TV.CJ G.i.length (G.g.map (·.1)) ds
 | [],_,_=>by simp only [TV.CJ]
 | d::ds,vs,h=>by
  simp only [bC] at h;simp only [TV.CJ];obtain⟨u,us,-,h1,h2⟩:=h;exact⟨VT.bd h1,bC.bd h2⟩
end
structure Reb(G G2:aJ)(nb:Nat)(g0:List bO):Prop where
 pr:∀b o,G.pr b o->G2.pr b o
 i:∀r b,r<nb->G.i[r]? = some b->G2.i[r]? = some b
 g:∀(j:Nat) x0 x h,g0[j]? = some x0->G.g[j]? = some (x,h)->∃x2,G2.g[j]? = some (x2,h)/\(x2.aE=x.aE\/x0.aE<x2.aE)
mutual
theorem VT.zL{nb:Nat}{g0:J bO}(hR:Reb G G2 nb g0):∀ {d:TV E}{v:Value},VT E w G d v->TV.Bd nb g0 d->VT E w G2 d v
 | .any,_,_,_=>by simp only [VT]
 | .dat t x,v,h,_=>h.rH hR.pr
 | .rA t x off,v,h,_=>by
  simp only [VT] at h⊢;obtain⟨b,o,c,rfl,h1,h2⟩:=h
  exact⟨b,o,c,rfl,h1.mono hR.pr (fun _ _ _ _ h=>h),fun l u hl=>⟨hR.pr _ _ (h2 l u hl).1,(h2 l u hl).2⟩⟩
 | .val _,_,h,_=>by simpa only [VT] using h
 | .ptr r off,v,h,hb=>by
  simp only [VT] at h⊢;simp only [TV.Bd] at hb;obtain⟨b,rfl,h⟩:=h
  exact⟨b,rfl,hR.i r b hb h⟩
 | .o5 c r off,v,h,hb=>by
  simp only [TV.Bd] at hb;cases c<;>simp only [VT] at h⊢
  ·exact h
  ·obtain⟨b,rfl,h⟩:=h
   exact⟨b,rfl,hR.i r b (hb rfl) h⟩
 | .iY r,v,h,hb=>by
  simp only [VT] at h⊢;simp only [TV.Bd] at hb;obtain⟨b,rfl,h⟩:=h
  exact⟨b,rfl,hR.i r b hb h⟩
 | .tv r,v,h,hb=>by
  simp only [VT] at h⊢;simp only [TV.Bd] at hb;obtain⟨b,rfl,h⟩:=h
  exact⟨b,rfl,hR.i r b hb h⟩
 | .gV r n cap,v,h,hb=>by
  simp only [VT] at h⊢;simp only [TV.Bd] at hb;obtain⟨b,rfl,h⟩:=h
  exact⟨b,rfl,hR.i r b hb h⟩
 | .cg j aE t xs,v,h,hb=>by
  simp only [VT] at h⊢;simp only [TV.Bd] at hb;obtain⟨zy,x,g,hg,hle,heq⟩:=h;obtain⟨x0,hx0,hle0⟩:=hb;obtain⟨x2,h2,hc⟩:=hR.g j x0 x g hx0 hg;refine⟨zy.mono hR.pr (fun _ _ _ _ h=>h),x2,g,h2,?_,fun e=>?_⟩
  ·rcases hc with hc|hc<;>omega
  ·rcases hc with hc|hc
   ·exact heq om
   ·omega
 | .PD j aE l,v,h,hb=>by
  simp only [VT] at h⊢;simp only [TV.Bd] at hb;obtain⟨x,g,u,hg,hle,zy,heq⟩:=h;obtain⟨x0,hx0,hle0⟩:=hb;obtain⟨x2,h2,hc⟩:=hR.g j x0 x g hx0 hg;refine⟨x2,g,u,h2,?_,zy.mono hR.pr (fun _ _ _ _ h=>h),fun e=>?_⟩
  ·rcases hc with hc|hc<;>omega
  ·rcases hc with hc|hc
   ·exact heq om
   ·omega
 | .dW j aE,v,h,hb=>by
  simp only [VT] at h⊢;simp only [TV.Bd] at hb;obtain⟨x,g,hg,hle,h1,heq⟩:=h;obtain⟨x0,hx0,hle0⟩:=hb;obtain⟨x2,h2,hc⟩:=hR.g j x0 x g hx0 hg;refine⟨x2,g,h2,?_,h1,fun e=>?_⟩
  ·rcases hc with hc|hc<;>omega
  ·rcases hc with hc|hc
   ·exact heq om
   ·omega
 | .gX j aE k i off,v,h,hb=>by
  simp only [VT] at h⊢;simp only [TV.Bd] at hb;obtain⟨x,g,hg,hle,h1,heq⟩:=h;obtain⟨x0,hx0,hle0⟩:=hb;obtain⟨x2,h2,hc⟩:=hR.g j x0 x g hx0 hg;refine⟨x2,g,h2,?_,h1,fun e=>?_⟩
  ·rcases hc with hc|hc<;>omega
  ·rcases hc with hc|hc
   ·exact heq om
   ·omega
 | .sQ t xs,v,h,hb=>by
  simp only [VT] at h⊢;obtain⟨vs,rfl,h1,h⟩:=h
  exact⟨vs,rfl,h1,h.mono hR.pr (fun _ _ _ _ h=>h)⟩
 | .func fn caps,v,h,hb=>by
  simp only [VT] at h⊢;simp only [TV.Bd] at hb;obtain⟨vs,rfl,h⟩:=h
  exact⟨vs,rfl,bC.zL hR h hb⟩
 | .FH fn fs,v,h,hb=>by
  simp only [VT] at h⊢;simp only [TV.Bd] at hb;obtain⟨vs,rfl,h⟩:=h
  exact⟨vs,rfl,bC.zL hR h hb⟩
 | .iface ty d,v,h,hb=>by
  simp only [VT] at h⊢;simp only [TV.Bd] at hb;obtain⟨u,rfl,h⟩:=h
  exact⟨u,rfl,VT.zL hR h hb⟩
 | .agg cs,v,h,hb=>by
  simp only [VT] at h⊢;simp only [TV.Bd] at hb;obtain⟨vs,rfl,h1,h⟩:=h
  exact⟨vs,rfl,h1,bC.zL hR h hb⟩
 | .tuple ds,v,h,hb=>by
  simp only [VT] at h⊢;simp only [TV.Bd] at hb;obtain⟨vs,rfl,h⟩:=h;exact⟨vs,rfl,bC.zL hR h hb⟩
theorem bC.zL{nb:Nat}{g0:J bO}(hR:Reb G G2 nb g0):∀ {ds:J (TV E)}{vs:J Value},bC E w G ds vs->TV.CJ nb g0 ds->bC E w G2 ds vs
 | [],_,h,_=>by simp only [bC] at h⊢;exact h
 | d::ds,vs,h,hb=>by
  simp only [bC] at h⊢;simp only [TV.CJ] at hb;obtain⟨u,us,rfl,h1,h2⟩:=h;exact⟨u,us,rfl,VT.zL hR h1 hb.1,bC.zL hR h2 hb.2⟩
end
def eW.Bd(nb:Nat)(g:J bO):eW E->Prop
 | .cells _ cs=>TV.CJ nb g cs
 | .loop _ cs=>TV.CJ nb g cs
 | .kR _ _ _ _ d=>TV.Bd nb g d
 | _=>True
theorem jD.bd{b:Nat}{x:eW E}(h:jD E w G b x):x.Bd G.i.length (G.g.map (·.1)):=by
 cases x with
 | cells t cs=>obtain⟨vs,-,-,h⟩:=h;exact h.bd
 | loop y ds=>obtain⟨Y,fn,tmps,D,-,-,h⟩:=h;exact h.bd
 | kR e cap t xs d=>obtain⟨cur,-,-,-,h,-⟩:=h;exact h.bd
 | _=>trivial
theorem jD.zL{nb:Nat}{g0:J bO}(hR:Reb G G2 nb g0){b:Nat}{x:eW E}(h:jD E w G b x)(hb:x.Bd nb g0):jD E w G2 b x:=by
 cases x with
 | cells t cs=>obtain⟨vs,h1,h2,h3⟩:=h;exact⟨vs,h1,h2,bC.zL hR h3 hb⟩
 | iter s pos=>exact h
 | map kt vt m=>obtain⟨es,clock,h1,h2,h3⟩:=h;exact⟨es,clock,h1,h2,h3.pr hR.pr⟩
 | loop y ds=>obtain⟨Y,fn,tmps,D,h0,h1,h2⟩:=h;exact⟨Y,fn,tmps,D,h0,h1,bC.zL hR h2 hb⟩
 | kR e cap t xs d=>obtain⟨cur,h1,h2,h4,h5,h6⟩:=h;exact⟨cur,h1,h2,fun i x hx=>(h4 i x hx).rH hR.pr,VT.zL hR h5 hb,h6⟩
 | gone=>exact h
 | PE=>exact h
def DBd(nb:Nat)(g:J bO):J (FuncId×J (TV E))->Prop
 | []=>True
 | x::xs=>TV.CJ nb g x.2/\DBd nb g xs
theorem jQ.bd:∀ {ds:J Deferred}{xs:J (FuncId×J (TV E))},jQ E w G ds xs->DBd G.i.length (G.g.map (·.1)) xs
 | [],[],_=>trivial
 | _::_,_::_,h=>⟨by rcases h.1 with⟨-,cap,-,h2⟩|⟨-,b,-,h2⟩<;>exact h2.bd,jQ.bd h.2⟩
 | [],_::_,h=>h.elim
 | _::_,[],h=>h.elim
theorem jQ.zL{nb:Nat}{g0:J bO}(hR:Reb G G2 nb g0):∀ {ds:J Deferred}{xs:J (FuncId×J (TV E))},jQ E w G ds xs->DBd nb g0 xs->jQ E w G2 ds xs
 | [],[],_,_=>trivial
 | _::_,_::_,h,hb=>⟨h.1.imp (fun⟨h0,cap,h1,h2⟩=>⟨h0,cap,h1,bC.zL hR h2 hb.1⟩) fun⟨h0,b,h1,h2⟩=>⟨h0,b,h1,bC.zL hR h2 hb.1⟩,jQ.zL hR h.2 hb.2⟩
 | [],_::_,h,_=>h.elim
 | _::_,[],h,_=>h.elim
end
structure Pre(G0:aJ)(st:TS E):Prop where
 nb:G0.i.length<=st.H.length
 rows:∀(j:Nat) x0 h0,G0.g[j]? = some (x0,h0)->∃x,st.g[j]? = some x/\x0.aE<=x.aE
 slots:∀(i:Nat) d,st.t[i]? = some d->d.Bd st.H.length st.g
 boxes:∀(r:Nat) x,st.H[r]? = some x->x.Bd st.H.length st.g
 defs:DBd st.H.length st.g st.df
section
variable {w0 w : U} {G0 G : aJ} {bK st : TS E} {a : Act}
theorem hU.len{w1 w2:U}{G1 G2:aJ}(h:hU w1 G1 w2 G2):G1.i.length<=G2.i.length:=by
 by_cases h0:G1.i.length=0
 ·omega
 ·have hl:G1.i.length-1<G1.i.length:=om
  have:=(eM.1 (h.i _ _ (fq hl))).1;omega
theorem Rel.pre(h:Rel E w0 G0 st a w G):Pre G0 st:=by
 have hl:=h.boxes.len;have hg:=h.boxes.gs;refine⟨by rw [<-hl];exact h.eO.goes.len,fun j x0 h0 hj=>?_,fun i d hi=>?_,fun r x hr=>?_,?_⟩
 ·obtain⟨x',h',h1,h2,-⟩:=h.eO.goes.g j x0 h0 hj
  grind
 ·have:=(h.tmps i d hi).bd
  simp_all
 ·have hlt:r<G.i.length:=by grind
  have:=(h.boxes.box r _ x (fq hlt) hr).bd
  simp_all
 ·have:=h.defers.bd
  simp_all
theorem FM(W:J Nat):∀(i:Nat)(l:J (TV E)),(mO W i l).length=l.length
 | _,[]=>rfl
 | i,d::ds=>by simp_all [mO,FM]
theorem V1(W:J Nat):∀(i:Nat)(l:J (TV E))(j:Nat)(d:TV E),(mO W i l)[j]? = some d->d=.any\/((i+j)∉W/\l[j]? = some d)
 | _,[],j,d,h=>by simp [mO] at h
 | i,x::ds,0,d,h=>by
  simp [mO] at h
  grind
 | i,x::ds,j+1,d,h=>by
  have:=V1 W (i+1) ds j d (by simpa [mO] using h)
  grind
theorem V2(hE:E.Ok){G2:aJ}{n n2:Rn}(hL:BF w G n G2 n2)(ha:∀i,VT E w G (st.at i) (a.tmps.getD i undef)):∀(vs:J (Nat×PT))(t:J (TV E))(ls rest:J (Lf E)),OK n st vs=some ls ->
  (∀(j:Nat) d,t[j]? = some d->VT E w G2 d (a.tmps.getD j undef)) ->
  (mo n2 vs t (ls++rest)).2=rest/\(mo n2 vs t (ls++rest)).1.length=t.length/\∀(j:Nat) d,(mo n2 vs t (ls++rest)).1[j]? = some d->VT E w G2 d (a.tmps.getD j undef)
 | [],t,ls,rest,h,ht=>by cases h;exact⟨rfl,rfl,ht⟩
 | (i,p)::vs,t,ls,rest,h,ht=>by
  simp [OK] at h;split at h<;>try trivial
  rename_i l ls' h1 h2;cases h;obtain⟨e1,e2⟩:=PT.sound hE hL (rest:=ls'++rest) h1 (ha i);simp [mo]
  obtain⟨q1,q2,q3⟩:=V2 hE hL ha vs (t.set i (p.put n2 (l++(ls'++rest))).1) ls' rest h2 (fun j d hj=>by
   grind)
  simp_all
theorem BT.Ze{n n2:Rn}:∀(t:BT)(x:eW E)(l rest:J (Lf E)),t.get n x=some l->(t.put n2 (l++rest)).2=rest:=by
 have aqg:∀(c:CT)(d:TV E)(l rest:J (Lf E)),c.get n d=some l->(c.put n2 (l++rest)).2=rest:=by
  intro c d l rest h;unfold CT.get at h;simp only [Bool.cond_eq_ite] at h
  (repeat' split at h)<;>first|trivial|(cases h;rfl)
 have amz:∀(cs:J CT)(ds:J (TV E))(l rest:J (Lf E)),CT.Ix n cs ds=some l->(CT.ou n2 cs (l++rest)).2=rest:=by
  intro cs
  induction cs with
  | nil=>intro ds l rest h;cases ds<;>cases h;rfl
  | cons c cs ih=>
   intro ds l rest h;unfold CT.Ix at h
   grind [CT.ou,CT.Kt,List.append_assoc]
 intro t x l rest h;unfold BT.get at h;split at h<;>try trivial
 ·rename_i ty cs ty' ds
  cases hb:Nat.beq ty ty'<;>rw [hb] at h<;>simp only [bw,aU] at h
  ·cases h
  exact amz cs ds l rest h
 ·split at h<;>cases h;rfl
 ·cases h;rfl
 ·rename_i y cs y' ds
  cases hb:Nat.beq y y'<;>rw [hb] at h<;>simp only [bw,aU] at h
  ·cases h
  exact amz cs ds l rest h
theorem FN{n:Rn}{D:J Nat}{nb:Nat}:∀(bs:J (O BT))(r:Nat)(H:J (eW E))(ls rest:J (Lf E)),nP n D nb r bs H=some ls->oH bs (ls++rest)=rest
 | [],r,H,ls,rest,h=>by cases h;rfl
 | none::bs,r,x::H,ls,rest,h=>by
  simp only [nP] at h;cases hc:(D.elem r || !(Nat.blt r nb))<;>rw [hc] at h<;>simp only [bw,aU] at h
  ·exact FN bs (r+1) H ls rest h
  ·cases h
 | some t::bs,r,x::H,ls,rest,h=>by
  simp [nP] at h;split at h<;>try trivial
  rename_i l ls' h1 h2;cases h;simp [oH];rw [BT.Ze t x l (ls'++rest) h1]
  exact FN bs (r+1) H ls' rest h2
 | none::bs,r,[],ls,rest,h=>by cases h
 | some _::bs,r,[],ls,rest,h=>by cases h
theorem Iy(hE:E.Ok){G2:aJ}{n n2:Rn}(hL:BF w G n G2 n2){D:J Nat}{nb:Nat}:∀(bs:J (O BT))(r:Nat)(H H0:J (eW E))(is:J Nat)(ls rest:J (Lf E)),nP n D nb r bs H=some ls ->
  (∀(q b:Nat) x,is[q]? = some b->H[q]? = some x->jD E w G b x)->(∀(q b:Nat) x,is[q]? = some b->r+q<nb->r+q∉D->H0[q]? = some x->jD E w G2 b x)->nb<=r+H0.length ->
  (eA n2 bs H0 (ls++rest)).length=bs.length/\bs.length<=H.length/\∀(q b:Nat) x,is[q]? = some b->(eA n2 bs H0 (ls++rest))[q]? = some x->jD E w G2 b x
 | [],r,H,H0,is,ls,rest,h,hb,h0,hn=>by
  simp [eA]
 | none::bs,r,x::H,H0,is,ls,rest,h,hb,h0,hn=>by
  simp only [nP] at h;cases hc:(D.elem r || !(Nat.blt r nb))<;>rw [hc] at h<;>simp only [bw,aU] at h
  ·rw [ac3] at hc
   have hlt:r<nb:=by simpa using hc.2
   obtain⟨y,H0',rfl⟩:∃y H0',H0=y::H0':=by
    cases H0 with
    | nil=>simp at hn;omega
    | cons y H0'=>exact⟨y,H0',rfl⟩
   obtain⟨q1,q2,q3⟩:=Iy hE hL bs (r+1) H H0' is.tail ls rest h (fun q b z hq hz=>hb (q+1) b z (by cases is<;>simp_all) (by simpa using hz))
    (fun q b z hq h1 h2 hz=>h0 (q+1) b z (by cases is<;>simp_all) om (by grind) (by simpa using hz)) (by simp at hn;omega)
   grind [eA]
  ·cases h
 | some t::bs,r,x::H,H0,is,ls,rest,h,hb,h0,hn=>by
  simp [nP] at h;split at h<;>try trivial
  rename_i l ls' h1 h2;cases h;have hkey:∀b,is[0]? = some b->(t.put n2 (l++(ls'++rest))).2=ls'++rest/\jD E w G2 b (t.put n2 (l++(ls'++rest))).1:=fun b hb0=>BT.sound hE hL h1 (hb 0 b x hb0 si)
  have eX:(t.put n2 (l++(ls'++rest))).2=ls'++rest:=by
   grind [BT.Ze]
  obtain⟨q1,q2,q3⟩:=Iy hE hL bs (r+1) H H0.tail is.tail ls' rest h2 (fun q b z hq hz=>hb (q+1) b z (by cases is<;>simp_all) (by simpa using hz))
   (fun q b z hq h1 h2 hz=>h0 (q+1) b z (by cases is<;>simp_all) om (by grind) (by cases H0<;>simp_all)) (by grind)
  refine⟨by simp_all [eA,Fs,Dd],by simpa using q2,fun q b z hq hz=>?_⟩
  cases q with
  | zero=>
   simp_all [eA,Fs,List.getElem?_cons_zero,acX]
  | succ q=>
   grind [eA,List.append_assoc,List.getElem?_cons_succ]
 | none::bs,r,[],H0,is,ls,rest,h,hb,h0,hn=>by cases h
 | some _::bs,r,[],H0,is,ls,rest,h,hb,h0,hn=>by cases h
theorem Dp{n:Rn}{D:J Nat}{nb:Nat}:∀(bs:J (O BT))(r:Nat)(H:J (eW E))(ls:J (Lf E)),nP n D nb r bs H=some ls->∀q,q<bs.length->r+q∉CI r bs->r+q∉D
 | [],r,H,ls,_,q,hq,_=>by simp at hq
 | none::bs,r,x::H,ls,h,q,hq,hc=>by
  simp only [nP] at h;cases hb:(D.elem r || !(Nat.blt r nb))<;>rw [hb] at h<;>simp only [bw,aU] at h
  ·cases q with
   | zero=>simp_all
   | succ q=>
    have:=Dp bs (r+1) H ls h q (by simpa using hq) (by rw [show r+1+q=r+(q+1) by omega];exact hc)
    grind
  ·cases h
 | some t::bs,r,x::H,ls,h,q,hq,hc=>by
  simp [nP] at h;split at h<;>try trivial
  rename_i l ls' h1 h2
  cases q with
  | zero=>exact (hc (by simp [CI])).elim
  | succ q=>
   have:=Dp bs (r+1) H ls' h2 q (by simpa using hq) (by rw [show r+1+q=r+(q+1) by omega];exact fun hm=>hc (by simp [CI,hm]));rw [show r+1+q=r+(q+1) by omega] at this
   exact this
 | none::bs,r,[],ls,h,_,_,_=>by cases h
 | some _::bs,r,[],ls,h,_,_,_=>by cases h
end
end Go.RT
namespace Go.RT
variable {E : TEnv}
section
variable {w0 w : U} {G0 G : aJ} {bK st : TS E} {a : Act}
theorem V3{n r r':Nat}(h:(List.range n)[r]? = some r'):r'=r/\r<n:=by
 grind
theorem Rel.at(h:Rel E w0 G0 st a w G)(i:Nat):VT E w G (st.at i) (a.tmps.getD i undef):=h.ev (.tmp i)
theorem Rel.cut(hE:E.Ok){c:Cut}{W:J Nat}{ls:J (Lf E)}(hp:Pre G0 bK)(hr:Rel E w0 G0 st a w G)(ht:st.t.length=bK.t.length)(hk:∀i,i∉W->st.t[i]? = bK.t[i]?)
  {D:J Nat} (hD:st.d=D++bK.d) (hH:∀r,r<bK.H.length->r∉D->st.H[r]? = bK.H[r]?) (hdf:st.df=bK.df) (h:c.leaves bK st=some ls) :
  ∃G2,Rel E w0 G0 (c.unpack W bK ls) a w G2/\BF w G ⟨List.range c.boxes.length,List.range c.rows.length,st.g.map (·.aE)⟩ G2 ⟨List.range c.boxes.length,List.range c.rows.length,(dL c.rows bK.g).map (·.aE)⟩:=by
 unfold Cut.leaves at h;cases hc:(below c.rows.length c.soft&&(Nat.ble bK.H.length c.boxes.length&&(Nat.ble bK.g.length c.rows.length&&xj c.rows bK.g st.g)))<;>rw [hc] at h<;>simp only [bw,aU] at h
 ·cases h
 simp only [cx] at hc;obtain⟨AL,wW,hg1,hro⟩:=hc;have wW:=lz wW;have hg1:=lz hg1;rw [hD,agk] at h;split at h<;>try trivial
 rename_i la lb le hla hlb hle;cases h;have Zf:=hr.boxes.gs;rw [<-Zf] at hro;obtain⟨n1,n2,n3,n4⟩:=Hx c.rows bK.g G.g hro
 let G2:aJ:=⟨G.i.take c.boxes.length,gA c.rows bK.g G.g,G.pr⟩
 have hlen:=hr.boxes.len
 have XR:∀(j:Nat) y2,(gA c.rows bK.g G.g)[j]? = some y2->∃y,G.g[j]? = some y/\y2.2=y.2/\y2.1.e=y.1.e/\y2.1.k=y.1.k/\∀x0,bK.g[j]? = some x0->y2.1.aE=y.1.aE\/x0.aE<y2.1.aE:=by
  grind
 have aii:Reb G G2 bK.H.length bK.g:=by
  refine⟨fun _ _ h=>h,fun r b hr' hb=>?_,fun j x0 x hd hx0 hj=>?_⟩
  ·grind
  grind
 have En:BF w G ⟨List.range c.boxes.length,List.range c.rows.length,st.g.map (·.aE)⟩ G2 ⟨List.range c.boxes.length,List.range c.rows.length,(dL c.rows bK.g).map (·.aE)⟩:=by
  refine⟨fun _ _ h=>h,fun r r' b h1 h2=>?_,fun j j' v x hd h1 h2 h3=>?_⟩
  ·grind
  grind
 have amA:∀(j:Nat) d,(mO W 0 bK.t)[j]? = some d->VT E w G2 d (a.tmps.getD j undef):=by
  intro j d hj;rcases V1 W 0 bK.t j d hj with rfl|⟨hnw,hj'⟩
  ·simp only [VT]
  ·rw [pU] at hnw
   have:=hr.tmps j d (by rw [hk j hnw];exact hj');exact VT.zL aii this (hp.slots j d hj')
 obtain⟨p1,p2,p3⟩:=V2 hE En hr.at c.vars (mO W 0 bK.t) la (lb++le) hla amA
 obtain⟨q1,q2,q3⟩:=Iy hE En c.boxes 0 st.H bK.H G.i lb le hlb (fun q b x hq hx=>hr.boxes.box q b x hq hx) (fun q b x hq h1 h2 hx=>by
  rw [pU] at h1 h2;have hx':st.H[q]? = some x:=by rw [hH q h1 h2];exact hx
  exact jD.zL aii (hr.boxes.box q b x hq hx') (hp.boxes q x hx)) si
 have ev:=hr.eO
 have hG0:∀(r b:Nat),(G.i.take c.boxes.length)[r]? = some b->G.i[r]? = some b:=fun r b hb=>by
  grind
 have hmem:∀b,b∈G.i.take c.boxes.length->b∈G.i:=fun b hb=>ada hb;refine⟨G2,⟨⟨ev.os,ev.tape,ev.output,ev.size,ev.old,⟨ev.goes.pr,ev.goes.cells,fun r b hb=>?_,fun j x0 hd hj=>?_⟩,ev.nr,fun r b h1 h2=>ev.pX r b h1 (hG0 r b h2),fun j x hd b hj hb=>?_⟩,?_,?_,?_,?_,fun r b hb hd=>?_,hr.pins,?_⟩,En⟩
 ·have hlt:=(eM.1 hb).1
  have:=hp.nb;rw [XH,if_pos om];exact ev.goes.i r b hb
 ·obtain⟨x',hd',h1,h2,h3⟩:=ev.goes.g j x0 hd hj
  obtain⟨xp,hxp,hle⟩:=hp.rows j x0 hd hj
  grind
 ·obtain⟨y,hy,e1,-⟩:=XR j (x,hd) hj
  simp only at e1;subst e1;exact ev.gA j y.1 y.2 b hy hb
 ·show a.tmps.size=((mo _ c.vars (mO W 0 bK.t) (la++(lb++le))).1).length
  rw [p2,FM,<-ht];exact hr.size
 ·exact p3
 ·show jQ E w G2 a.defers bK.df
  rw [<-hdf];exact jQ.zL aii hr.defers (by rw [hdf];exact hp.defs)
 ·refine⟨?_,n1,fun r b x hb hx=>?_,fun b hb=>hr.boxes.lt b (hmem b hb),(List.take_sublist _ _).nodup hr.boxes.nodup,fun b o rG=>⟨(hr.boxes.fY b o rG).1,fun hm=>(hr.boxes.fY b o rG).2 (hmem b hm)⟩,fun j x hd hj=>?_,
   fun j j' x hd x' hd' b hj hj' hb hb'=>?_⟩
  ·show (G.i.take c.boxes.length).length=(eA _ c.boxes bK.H (mo _ c.vars (mO W 0 bK.t) (la++(lb++le))).2).length
   simp_all
  ·have hx:(eA _ c.boxes bK.H (mo _ c.vars (mO W 0 bK.t) (la++(lb++le))).2)[r]? = some x:=hx
   grind
  ·obtain⟨y,hy,e1,e2,e3,-⟩:=XR j (x,hd) hj
   subst e1;obtain⟨n,xs,g1,g2,g3⟩:=hr.boxes.grow j y.1 y.2 hy;refine⟨n,xs,by rw [e2,e3];exact g1,fun a m h=>by rw [e2];exact g2 a m h,fun b hb=>?_⟩
   grind
  ·obtain⟨y,hy,e1,-⟩:=XR j (x,hd) hj
   obtain⟨y',hy',YR,-⟩:=XR j' (x',hd') hj';subst e1;subst YR;exact hr.boxes.apart j j' y.1 y.2 y'.1 y'.2 b hy hy' hb hb'
 ·refine hr.fix r b hb ?_
  have hd:r∉CI 0 c.boxes++bK.d:=hd;rw [wH,not_or] at hd;rw [hD,wH,not_or];refine⟨?_,hd.2⟩;have hlt:=(eM.1 hb).1;have:=hp.nb;have:=Dp c.boxes 0 st.H lb hlb r om (by simp_all)
  simp_all
 ·intro j c0 hm
  have hm:(j,c0)∈mD some c.soft (oH c.boxes (mo _ c.vars (mO W 0 bK.t) (la++(lb++le))).2):=hm;rw [p1,FN c.boxes 0 st.H lb le hlb] at hm;obtain⟨q,j',⟨t,ht⟩,e1,e2,e3⟩:=Cc (f:=some) (f2:=some) (rest:=[]) hle (by rw [adj];exact hm);cases e1;cases e2;have su:=Zd AL j t ht;obtain⟨x,hd,h1,h2⟩:=hr.fZ j c0 e3;obtain⟨y2,hy,f1,f2,f3,-⟩:=n4 j (x,hd) h1 su;refine⟨y2.1,hd,?_,h2.keep f2 f3 (fun _ _ h=>h) (fun _ _ _ _ h=>h) (fun b _=>⟨rfl,fun _ h=>h⟩)⟩
  grind
end
end Go.RT
namespace Go.RT
variable {E : TEnv}
def jR(P:aD)(f:FuncId)(args:aI Value)(w:U)(R:Ending->U->Prop):Prop:=
 match (callFunc f args).run P w with
 | .ok (.enter f' args') w'=>Calls P f' args' w' R
 | .ok (.value v) w'=>R (.returned v) w'
 | _=>False
def Cd(ok:Bool)(v:Value):Ending:=cond ok (.returned v) (.panicked [{v:=v,recovered:=false}])
structure Zg(E:TEnv) where
 ok:Bool
 d:TV E
 H:List (eW E)
 g:List bO
 D:List Nat
 c:List (Nat×Cn E)
def kS(P:aD)(f:FuncId)(ds:J (TV E))(H:J (eW E))(gs:J bO)(cs:J (Nat×Cn E))(r:Zg E):Prop:=
 ∀(w:U)(G:aJ)(args:aI Value),oX E w G->ld E w G H gs->kf E w G cs->bC E w G ds args.toList->jR P f args w fun e w'=>
  ∃v G',e=Cd r.ok v/\kz w G w' G'/\ld E w' G' r.H r.g/\kf E w' G' r.c/\VT E w' G' r.d v/\∀(q b:Nat),G.i[q]? = some b->q∉r.D->w'.heap[b]? = w.heap[b]?
structure Outs where
 res:PT
 boxes:List (Option BT)
 rows:List (Option (TypeId×Nat))
 soft:List (Nat×Ty)
def Outs.tys(o:Outs):J Ty:=o.res.tys++(Ku o.boxes++OJ o.soft)
structure cN where
 f:FuncId
 args:List PT
 boxes:List BT
 rows:List (TypeId×Nat)
 out:Outs
 kX:Option Outs
 soft:List (Nat×Ty)
def agl:J PT->J Ty
 | []=>[]
 | p::ps=>p.tys++agl ps
def agm:J BT->J Ty
 | []=>[]
 | b::bs=>b.tys++agm bs
def cN.tys(s:cN):J Ty:=agl s.args++(agm s.boxes++OJ s.soft)
@[reducible] def OutP (E : TEnv) (o : Outs) : O Outs -> Type
 | none=>dens E o.tys
 | some q=>dens E o.tys ⊕ dens E q.tys
structure bB(E:TEnv) where
 s:cN
 m:dens E s.tys->Option (OutP E s.out s.kX)
def Ss(n:Rn):J PT->J (TV E)->O (J (Lf E))
 | [],[]=>some []
 | p::ps,d::ds=>match p.get n d,Ss n ps ds with
  | some l,some ls=>some (l++ls)
  | _,_=>none
 | _,_=>none
def zM(n:Rn):J PT->J (Lf E)->J (TV E)×J (Lf E)
 | [],ls=>([],ls)
 | p::ps,ls=>((p.put n ls).1::(zM n ps (p.put n ls).2).1,(zM n ps (p.put n ls).2).2)
def St(n:Rn):J BT->J (eW E)->O (J (Lf E))
 | [],[]=>some []
 | t::ts,x::xs=>match t.get n x,St n ts xs with
  | some l,some ls=>some (l++ls)
  | _,_=>none
 | _,_=>none
def xl(n:Rn):J BT->J (Lf E)->J (eW E)×J (Lf E)
 | [],ls=>([],ls)
 | t::ts,ls=>((t.put n ls).1::(xl n ts (t.put n ls).2).1,(xl n ts (t.put n ls).2).2)
def cN.g0(s:cN):J bO:=s.rows.map fun p=>⟨0,p.1,p.2⟩
def cN.n0(s:cN):Rn:=⟨List.range s.boxes.length,List.range s.rows.length,s.g0.map (·.aE)⟩
def cN.ds(s:cN)(ls:J (Lf E)):J (TV E):=(zM s.n0 s.args ls).1
def cN.H(s:cN)(ls:J (Lf E)):J (eW E):=(xl s.n0 s.boxes (zM s.n0 s.args ls).2).1
def cN.c(s:cN)(ls:J (Lf E)):J (Nat×Cn E):=mD some s.soft (xl s.n0 s.boxes (zM s.n0 s.args ls).2).2
def Outs.n1(o:Outs)(g:J bO):Rn:=⟨List.range o.boxes.length,List.range o.rows.length,(dL o.rows g).map (·.aE)⟩
def Outs.lZ(o:Outs)(ok:Bool)(H0:J (eW E))(g:J bO)(ls:J (Lf E)):Zg E:=
 ⟨ok,(o.res.put (o.n1 g) ls).1,eA (o.n1 g) o.boxes H0 (o.res.put (o.n1 g) ls).2,dL o.rows g,CI 0 o.boxes,mD some o.soft (oH o.boxes (o.res.put (o.n1 g) ls).2)⟩
def jS(s:cN)(H0:J (eW E)):(p:O Outs)->OutP E s.out p->Zg E
 | none,y=>s.out.lZ true H0 s.g0 (aP s.out.tys y)
 | some _,.inl y=>s.out.lZ true H0 s.g0 (aP s.out.tys y)
 | some q,.inr y=>q.lZ false H0 s.g0 (aP q.tys y)
def bB.Ok(P:aD)(C:bB E):Prop:=
 ∀x y,C.m x=some y->kS P C.s.f (C.s.ds (aP C.s.tys x)) (C.s.H (aP C.s.tys x)) C.s.g0 (C.s.c (aP C.s.tys x)) (jS C.s (C.s.H (aP C.s.tys x)) C.s.kX y)
structure Kv(w:World)(G:aJ)(n:Rn)(G2:aJ)(n2:Rn):Prop extends BF w G n G2 n2 where
 lb:n2.b.length<=n.b.length
 lg:n2.g.length<=n.g.length
 lv:n2.v.length<=n.v.length
theorem CT.yz(n n2:Rn)(c:CT)(ls:J (Lf E)):(c.put n ls).2=(c.put n2 ls).2:=by
 cases c<;>cases ls<;>first|rfl|(rename_i l;cases l<;>rfl)
theorem CT.yQ(n n2:Rn):∀(cs:J CT)(ls:J (Lf E)),(CT.ou n cs ls).2=(CT.ou n2 cs ls).2
 | [],ls=>rfl
 | c::cs,ls=>by
  unfold CT.ou;split
  ·exact CT.yQ n n2 cs _
  ·rw [CT.yz n n2 c ls]
   exact CT.yQ n n2 cs _
theorem PT.yz(n n2:Rn)(p:PT)(ls:J (Lf E)):(p.put n ls).2=(p.put n2 ls).2:=by
 cases p with
 | one c=>exact CT.yz n n2 c ls
 | agg cs=>exact CT.yQ n n2 cs ls
 | dh cs=>exact CT.yQ n n2 cs ls
theorem BT.yz(n n2:Rn)(t:BT)(ls:J (Lf E)):(t.put n ls).2=(t.put n2 ls).2:=by
 cases t with
 | cells ty cs=>exact CT.yQ n n2 cs ls
 | loop y cs=>exact CT.yQ n n2 cs ls
 | map kt vt=>cases ls<;>rfl
 | iter=>cases ls with|nil=>rfl|cons l ls=>cases ls<;>rfl
section
variable {w : U} {G G2 : aJ} {n n2 : Rn}
theorem getElem?_none_of{α β:Type}{l:J α}{m:J β}{r:Nat}(h:l[r]? = none)(hl:m.length<=l.length):m[r]? = none:=by
 grind
theorem V4(hL:Kv w G n G2 n2):∀(caps:J (Nat×Nat)){vs:J Value},bC E w G (Fg n caps:J (TV E)) vs->bC E w G2 (Fg n2 caps:J (TV E)) vs
 | [],vs,h=>by simp_all [Fg,bC]
 | (r,off)::caps,vs,h=>by
  obtain⟨u,us,rfl,h1,h2⟩:=h.cons_inv;refine .cons ?_ (V4 hL caps h2)
  cases hr:n.b[r]? with
  | none=>rw [getElem?_none_of hr hL.lb];simp [VT]
  | some r'=>
   rw [hr] at h1;obtain⟨b,rfl,hb⟩:=h1;obtain⟨r2,hr2,oY⟩:=hL.i r r' b hr hb;rw [hr2];exact⟨b,rfl,oY⟩
theorem CT.move(hL:Kv w G n G2 n2)(c:CT)(ls:J (Lf E)){v:Value}(h:VT E w G (c.put n ls).1 v):VT E w G2 (c.put n2 ls).1 v:=by
 cases c with
 | dat t=>cases ls with
  | nil=>simp [CT.put,VT]
  | cons l ls=>exact VT.rH h hL.pr
 | any=>simp [CT.put,VT]
 | pk t=>simp [CT.put,VT]
 | ptr r off=>
  simp [CT.put] at h⊢
  cases hr:n.b[r]? with
  | none=>rw [getElem?_none_of hr hL.lb];simp [VT]
  | some r'=>
   rw [hr] at h;obtain⟨b,rfl,hb⟩:=h;obtain⟨r2,hr2,oY⟩:=hL.i r r' b hr hb
   simp_all [VT]
 | o5 r off=>
  cases ls with
  | nil=>simp [CT.put,VT]
  | cons l ls=>
   simp [CT.put] at h⊢
   cases hr:n.b[r]? with
   | none=>rw [getElem?_none_of hr hL.lb];simp [VT]
   | some r'=>
    rw [hr] at h;obtain⟨t,x⟩:=l
    cases hn:n2.b[r]? with
    | none=>simp [VT]
    | some r2'=>
     cases t<;>try (simp [VT];done)
     cases x<;>simp [VT] at h⊢
     ·exact h
     ·obtain⟨b,rfl,hb⟩:=h
      obtain⟨r2,hr2,oY⟩:=hL.i r r' b hr hb
      simp_all
 | iY r=>
  simp [CT.put] at h⊢
  cases hr:n.b[r]? with
  | none=>rw [getElem?_none_of hr hL.lb];simp [VT]
  | some r'=>
   rw [hr] at h;obtain⟨b,rfl,hb⟩:=h;obtain⟨r2,hr2,oY⟩:=hL.i r r' b hr hb
   simp_all [VT]
 | tv r=>
  simp [CT.put] at h⊢
  cases hr:n.b[r]? with
  | none=>rw [getElem?_none_of hr hL.lb];simp [VT]
  | some r'=>
   rw [hr] at h;obtain⟨b,rfl,hb⟩:=h;obtain⟨r2,hr2,oY⟩:=hL.i r r' b hr hb
   simp_all [VT]
 | cg j t=>
  cases ls with
  | nil=>simp [CT.put,VT]
  | cons l ls=>
   simp [CT.put] at h⊢
   cases hj:n.g[j]? with
   | none=>rw [getElem?_none_of hj hL.lg];simp [VT]
   | some j'=>
    cases CH:n.v[j]? with
    | none=>
     rw [getElem?_none_of CH hL.lv]
     simp_all [VT]
    | some vv=>
     rw [hj,CH] at h;obtain⟨t',x⟩:=l
     cases t' with
     | aZ t'=>
      obtain⟨zy,x1,h1,hg,hle,heq⟩:=h;obtain⟨Sr,j2,v2,x2,q1,q2,q3,q4⟩:=hL.g j j' vv x1 h1 hj CH hg;rw [q1,q2]
      exact⟨zy.mono hL.pr (fun _ _ _ _ h=>h),x2,h1,q3,om,fun _=>heq Sr.symm⟩
     | _=>simp_all [VT]
 | func f caps=>
  simp [CT.put,VT] at h⊢
  grind [V4]
 | dW j=>
  simp [CT.put] at h⊢
  cases hj:n.g[j]? with
  | none=>rw [getElem?_none_of hj hL.lg];simp [VT]
  | some j'=>
   cases CH:n.v[j]? with
   | none=>
    rw [getElem?_none_of CH hL.lv]
    simp_all [VT]
   | some vv=>
    rw [hj,CH] at h;obtain⟨x1,h1,hg,hle,h2,heq⟩:=h;obtain⟨Sr,j2,v2,x2,q1,q2,q3,q4⟩:=hL.g j j' vv x1 h1 hj CH hg
    grind [VT]
 | gX j k=>
  simp [CT.put] at h⊢
  cases hj:n.g[j]? with
  | none=>rw [getElem?_none_of hj hL.lg];simp [VT]
  | some j'=>
   cases CH:n.v[j]? with
   | none=>
    rw [getElem?_none_of CH hL.lv]
    simp_all [VT]
   | some vv=>
    rw [hj,CH] at h;obtain⟨x1,h1,hg,hle,h2,heq⟩:=h;obtain⟨Sr,j2,v2,x2,q1,q2,q3,q4⟩:=hL.g j j' vv x1 h1 hj CH hg
    grind [VT]
 | sQ t=>cases ls with
  | nil=>simp [CT.put,VT]
  | cons l ls=>
   obtain⟨t',x⟩:=l
   cases t' with
   | aZ t'=>
    obtain⟨vs,rfl,h1,h⟩:=h
    exact⟨vs,rfl,h1,h.mono hL.pr (fun _ _ _ _ h=>h)⟩
   | _=>simp [CT.put,VT]
 | nil k=>simp_all [CT.put,VT]
 | lb b=>rw [VT.lH h];exact .bool _ _ _
 | li k n=>rw [VT.fH h];exact .int _ _ _ _
 | rA t off=>cases ls with
  | nil=>simp [CT.put,VT]
  | cons l ls=>
   obtain⟨b,o,c,rfl,h1,h2⟩:=h
   exact⟨b,o,c,rfl,h1.mono hL.pr (fun _ _ _ _ h=>h),fun l u hl=>⟨hL.pr _ _ (h2 l u hl).1,(h2 l u hl).2⟩⟩
 | iface ty t=>cases ls with
  | nil=>simp [CT.put,VT]
  | cons l ls=>
   obtain⟨u,rfl,h⟩:=h;exact⟨u,rfl,VT.rH h hL.pr⟩
theorem bC.V5{w:U}{G:aJ}:∀ {ds es:J (TV E)}{vs:J Value},bC E w G (ds++es) vs->∃us ts,vs=us++ts/\bC E w G ds us/\bC E w G es ts
 | [],_,vs,h=>⟨[],vs,rfl,bC.nil,h⟩
 | _::_,_,_,h=>by
  obtain⟨u,us,rfl,h1,h2⟩:=bC.cons_inv h;obtain⟨us',ts,rfl,h3,h4⟩:=bC.V5 h2;exact⟨u::us',ts,rfl,.cons h1 h3,h4⟩
theorem V6{f:(i:Nat)->E.D i->O (J (TV E))}(hf:∀i x cs,f i x=some cs->∀d∈cs,∃t y,d=TV.dat t y):∀(t:Ty)(x:t.den E.D)(cs:J (TV E)),zC E f t x=some cs->∀d∈cs,∃t y,d=TV.dat t y:=by
 intro t
 induction t with
 | int k=>intro x cs h d hd;cases h;simp_all
 | bool=>intro x cs h d hd;cases h;simp_all
 | str=>intro x cs h d hd;cases h;simp_all
 | aZ t _=>intro x cs h d hd;cases h;simp_all
 | unit=>intro x cs h d hd;cases h;cases hd
 | ext i=>intro x cs h;exact hf i x cs h
 | pair a b DK DL=>
  intro x cs h d hd;simp [zC] at h
  cases e1:zC E f a x.1 with
  | none=>rw [e1] at h;cases h
  | some l=>
   dsimp only [Option.bind] at h
   grind
theorem V7:∀(n:Nat)(t:Ty)(x:t.den E.D)(cs:J (TV E)),Hp E n t x=some cs->∀d∈cs,∃t y,d=TV.dat t y
 | 0,t,x,cs,h=>V6 (fun _ _ _ h=>by cases h) t x cs h
 | n+1,t,x,cs,h=>V6 (fun i x cs h=>V7 n (E.df i) (E.zw i x) cs h) t x cs h
theorem acq{w:U}{G G2:aJ}(hp:∀b o,G.pr b o->G2.pr b o):∀ {ds:J (TV E)}{vs:J Value},(∀d∈ds,∃t y,d=TV.dat t y)->bC E w G ds vs->bC E w G2 ds vs
 | [],_,_,h=>by simp_all [bC]
 | d::ds,_,hd,h=>by
  obtain⟨u,us,rfl,h1,h2⟩:=h.cons_inv;obtain⟨t,y,rfl⟩:=hd d (Mq ..);exact .cons (h1.rH hp) (acq hp (fun d h=>hd d (pT _ h)) h2)
theorem agn{w:U}{G G2:aJ}(hp:∀b o,G.pr b o->G2.pr b o)(ls:J (Lf E)){vs:J Value}(h:bC E w G (CT.Kt ls).1 vs):bC E w G2 (CT.Kt ls).1 vs:=by
 cases ls with
 | nil=>simp_all [CT.Kt,bC]
 | cons l ls=>
  grind [CT.Kt,Hp,bC,acq,V7]
theorem CT.OL(hL:Kv w G n G2 n2):∀(cs:J CT)(ls:J (Lf E)){vs:J Value},bC E w G (CT.ou n cs ls).1 vs->bC E w G2 (CT.ou n2 cs ls).1 vs
 | [],ls,vs,h=>by simp_all [CT.ou,bC]
 | c::cs,ls,vs,h=>by
  unfold CT.ou at h⊢;split at h
  ·obtain⟨us,ts,rfl,h1,h2⟩:=h.V5
   refine bC.append (agn hL.pr ls h1) ?_;exact CT.OL hL cs _ h2
  ·rename_i ht
   obtain⟨u,us,rfl,h1,h2⟩:=h.cons_inv;refine .cons (CT.move hL c ls h1) ?_;rw [CT.yz n2 n];exact CT.OL hL cs _ h2
theorem PT.move(hL:Kv w G n G2 n2)(p:PT)(ls:J (Lf E)){v:Value}(h:VT E w G (p.put n ls).1 v):VT E w G2 (p.put n2 ls).1 v:=by
 cases p with
 | one c=>exact CT.move hL c ls h
 | agg cs=>
  grind [PT.put,VT,CT.OL]
 | dh cs=>
  grind [PT.put,VT,CT.OL]
theorem BT.move(hL:Kv w G n G2 n2)(t:BT)(ls:J (Lf E)){b:Nat}(h:jD E w G b (t.put n ls).1):jD E w G2 b (t.put n2 ls).1:=by
 cases t with
 | cells ty cs=>
  obtain⟨vs,h1,h2,h3⟩:=h
  exact⟨vs,h1,h2,CT.OL hL cs ls h3⟩
 | loop y cs=>
  obtain⟨Y,fn,tmps,D,h0,h1,h2⟩:=h
  exact⟨Y,fn,tmps,D,h0,h1,CT.OL hL cs ls h2⟩
 | map kt vt=>cases ls with
  | nil=>exact h
  | cons l ls=>
   obtain⟨t,x⟩:=l;simp [BT.put] at h⊢;split at h
   ·rename_i kt' vt' m heq
    obtain⟨es,clock,h1,h2,h3⟩:=h;exact⟨es,clock,h1,h2,h3.pr hL.pr⟩
   ·exact h
 | iter=>cases ls with
  | nil=>exact h
  | cons l ls=>cases ls with
   | nil=>exact h
   | cons l' ls=>
    simp [BT.put] at h⊢;split at h<;>exact h
end
end Go.RT
namespace Go.RT
variable {E : TEnv}
def uU:J Nat->Bool
 | []=>true
 | x::xs=>!(xs.elem x)&&uU xs
theorem uV:∀ {l:J Nat},uU l=true->l.Nodup
 | [],_=>Ft
 | x::xs,h=>by
  simp only [uU,cx] at h;refine Qk.2 ⟨fun hm=>?_,uV h.2⟩;rw [ajH hm] at h;cases h.1
def pick{α:Type}(l:J α):J Nat->O (J α)
 | []=>some []
 | i::is=>match l[i]?,pick l is with
  | some x,some xs=>some (x::xs)
  | _,_=>none
theorem qF{α:Type}{l:J α}:∀ {is:J Nat}{xs:J α},pick l is=some xs->xs.length=is.length/\∀(r i:Nat),is[r]? = some i->∃x,xs[r]? = some x/\l[i]? = some x
 | [],xs,h=>by cases h;simp_all
 | i::is,xs,h=>by
  simp [pick] at h;split at h<;>try trivial
  rename_i x ys h1 h2;cases h;obtain⟨q1,q2⟩:=qF h2;refine⟨by simp [q1],fun r k hr=>?_⟩
  cases r with
  | zero=>simp at hr;subst hr;exact⟨x,rfl,h1⟩
  | succ r=>simpa using q2 r k (by simpa using hr)
theorem UN{α β:Type}{l:J α}{m:J β}(hl:l.length=m.length):∀ {is:J Nat}{xs:J α},pick l is=some xs->∃ys,pick m is=some ys
 | [],xs,h=>⟨[],rfl⟩
 | i::is,xs,h=>by
  simp [pick] at h;split at h<;>try trivial
  rename_i x ys h1 h2;obtain⟨zs,hz⟩:=UN hl h2
  grind [List.getElem?_eq_some_iff,pick,List.getElem?_eq_getElem]
def yA:J (aC×Nat)->J bO->Bool
 | [],[]=>true
 | p::ps,x::xs=>(Nat.beq p.1 x.e&&Nat.beq p.2 x.k)&&yA ps xs
 | _,_=>false
theorem Ce:∀ {ps:J (aC×Nat)}{xs:J bO},yA ps xs=true->ps.length=xs.length/\∀(j:Nat) p x,ps[j]? = some p->xs[j]? = some x->p.1=x.e/\p.2=x.k
 | [],[],_=>⟨rfl,fun j p x h=>by simp at h⟩
 | p::ps,x::xs,h=>by
  simp only [yA,cx] at h;obtain⟨q1,q2⟩:=Ce h.2;refine⟨by simp [q1],fun j p' x' hp hx=>?_⟩
  cases j with
  | zero=>simp at hp hx;subst hp;subst hx;exact⟨ey h.1.1,ey h.1.2⟩
  | succ j=>exact q2 j p' x' (by simpa using hp) (by simpa using hx)
 | [],_::_,h=>by cases h
 | _::_,[],h=>by cases h
def cN.enter(s:cN)(bs gs:J Nat)(st:TS E)(ds:J (TV E)):Option (J (Lf E)):=
 match pick st.H bs,pick st.g gs with
 | some H,some g=>cond (uU bs&&(uU gs&&(Nat.beq bs.length s.boxes.length&&yA s.rows g)))
   (match Ss ⟨bs,gs,g.map (·.aE)⟩ s.args ds,St ⟨bs,gs,g.map (·.aE)⟩ s.boxes H,Jr (fun q=>gs[q]?) st.c s.soft with
    | some a,some b,some e=>some (a++(b++e))
    | _,_,_=>none) none
 | _,_=>none
section
variable {w : U} {G G2 : aJ} {n n2 : Rn}
theorem Zh(hE:E.Ok)(hL:BF w G n G2 n2):∀ {ps:J PT}{ds:J (TV E)}{ls rest:J (Lf E)}{vs:J Value},Ss n ps ds=some ls->bC E w G ds vs ->
  (zM n2 ps (ls++rest)).2=rest/\bC E w G2 (zM n2 ps (ls++rest)).1 vs
 | [],[],ls,rest,vs,h,hv=>by cases h;simp [bC] at hv;subst hv;exact⟨rfl,bC.nil⟩
 | p::ps,d::ds,ls,rest,vs,h,hv=>by
  simp [Ss] at h;split at h<;>try trivial
  rename_i l ls' h1 h2;cases h;obtain⟨u,us,rfl,q1,q2⟩:=hv.cons_inv;obtain⟨e1,e2⟩:=PT.sound hE hL (rest:=ls'++rest) h1 q1;obtain⟨e3,e4⟩:=Zh hE hL h2 q2;simp [zM,e1]
  exact⟨e3,.cons e2 e4⟩
 | [],_::_,_,_,_,h,_=>by cases h
 | _::_,[],_,_,_,h,_=>by cases h
theorem Zi(hE:E.Ok)(hL:BF w G n G2 n2):∀ {ts:J BT}{xs:J (eW E)}{ls rest:J (Lf E)}{is:J Nat},St n ts xs=some ls->is.length=xs.length->(∀(q b:Nat) x,is[q]? = some b->xs[q]? = some x->jD E w G b x) ->
  (xl n2 ts (ls++rest)).1.length=ts.length/\(xl n2 ts (ls++rest)).2=rest/\∀(q b:Nat) x,is[q]? = some b->(xl n2 ts (ls++rest)).1[q]? = some x->jD E w G2 b x
 | [],[],ls,rest,is,h,_,hv=>by cases h;simp_all [xl]
 | t::ts,x::xs,ls,rest,is,h,hil,hv=>by
  simp [St] at h;split at h<;>try trivial
  rename_i l ls' h1 h2;cases h
  cases is with
  | nil=>simp at hil
  | cons i is=>
   obtain⟨e1,e2⟩:=BT.sound hE hL (rest:=ls'++rest) h1 (hv 0 i x si si);obtain⟨e3,e5,e4⟩:=Zi hE hL h2 (by simpa using hil) (fun q b y hq hy=>hv (q+1) b y (by simpa using hq) (by simpa using hy));simp [xl,e1];refine⟨by simp [e3],e5,fun q b y hq hy=>?_⟩
   cases q with
   | zero=>simp at hq hy;subst hq;subst hy;exact e2
   | succ q=>exact e4 q b y (by simpa using hq) (by simpa using hy)
 | [],_::_,_,_,_,h,_,_=>by cases h
 | _::_,[],_,_,_,h,_,_=>by cases h
end
def aJ.dM(G:aJ)(is:J Nat)(gs:J (bO×Value)):aJ:=⟨is,gs.map fun x=>({x.1 with aE:=0},x.2),G.pr⟩
section
variable {P : aD} {w0 w w' : U} {G0 G G' : aJ} {st : TS E} {a : Act}
theorem Rel.enter(hE:E.Ok)(hr:Rel E w0 G0 st a w G){s:cN}{bs gs:J Nat}{ds:J (TV E)}{ls:J (Lf E)}{vs:J Value}(h:s.enter bs gs st ds=some ls)(hv:bC E w G ds vs):
  ∃is gg,pick G.i bs=some is/\pick G.g gs=some gg/\ld E w (G.dM is gg) (s.H ls) s.g0/\kf E w (G.dM is gg) (s.c ls)/\bC E w (G.dM is gg) (s.ds ls) vs:=by
 unfold cN.enter at h;split at h<;>try trivial
 rename_i H g hH hg;cases hc:(uU bs&&(uU gs&&(Nat.beq bs.length s.boxes.length&&yA s.rows g)))<;>rw [hc] at h<;>simp only [bw,aU] at h
 ·cases h
 simp only [cx] at hc;obtain⟨Zj,hn2,Jh,hrs⟩:=hc;have Jh:=ey Jh;obtain⟨hrl,hrs⟩:=Ce hrs;split at h<;>try trivial
 rename_i la lb le hla hlb hle;cases h;have Zf:=hr.boxes.gs;obtain⟨is,hi⟩:=UN hr.boxes.len.symm hH;obtain⟨gg,Hr⟩:=UN (m:=G.g) (by rw [<-Zf];simp) hg;obtain⟨hHl,hHg⟩:=qF hH;obtain⟨Zk,apn⟩:=qF hg;obtain⟨hil,hig⟩:=qF hi;obtain⟨amB,Kw⟩:=qF Hr
 have hgr:∀(j:Nat) x y,gg[j]? = some x->g[j]? = some y->x.1=y:=fun j x y hx hy=>by
  have hj:j<gs.length:=by grind
  obtain⟨x',h1,h2⟩:=Kw j _ (fq hj);obtain⟨y',h3,h4⟩:=apn j _ (fq hj)
  grind
 have hg0:(gg.map fun x=>({x.1 with aE:=0}:bO))=s.g0:=by
  unfold cN.g0;apply List.ext_getElem?
  grind
 have En:BF w G ⟨bs,gs,g.map (·.aE)⟩ (G.dM is gg) s.n0:=by
  refine⟨fun _ _ h=>h,fun r r' b h1 h2=>?_,fun j j' v x hd h1 h2 h3=>?_⟩
  ·obtain⟨b',h3,h4⟩:=hig r r' h1
   rw [h2] at h4;cases h4;have hrl:r<s.boxes.length:=by grind
   exact⟨r,by simp [cN.n0,hrl],h3⟩
  ·grind [List.getElem?_eq_some_iff,List.getElem?_eq_getElem,cN.n0,aJ.dM,cN.g0]
 obtain⟨p1,p2⟩:=Zh hE En hla hv
 obtain⟨q1,q5,q2⟩:=Zi hE En (rest:=le) (is:=is) hlb om (fun q b x hq hx=>by
  have su:q<bs.length:=by grind
  obtain⟨b',h1,h2⟩:=hig q _ (fq su);obtain⟨x',h3,h4⟩:=hHg q _ (fq su);rw [hq] at h1;cases h1;rw [hx] at h3;cases h3;exact hr.boxes.box _ b x h2 h4)
 have hmem:∀b,b∈is->b∈G.i:=fun b hb=>by
  obtain⟨q,hq,rfl⟩:=lB hb;obtain⟨b',h1,h2⟩:=hig q _ (fq om)
  grind
 have hrow:∀(j:Nat) x hd,((G.dM is gg).g)[j]? = some (x,hd)->∃j' y,gs[j]? = some j'/\G.g[j']? = some (y,hd)/\x={y with aE:=0}:=fun j x hd hj=>by
  simp only [aJ.dM,Ml,T3] at hj;have hjl:j<gs.length:=by grind
  obtain⟨x',h4,h5⟩:=Kw j _ (fq hjl)
  grind
 have hnd:=uV Zj;have amC:=uV hn2;refine⟨is,gg,hi,Hr,⟨?_,?_,fun r b x hb hx=>?_,fun b hb=>hr.boxes.lt b (hmem b hb),?_,fun b o hp=>⟨(hr.boxes.fY b o hp).1,fun hm=>(hr.boxes.fY b o hp).2 (hmem b hm)⟩,fun j x hd hj=>?_,fun j j' x hd x' hd' b hj hj' hb hb'=>?_⟩,?_,p2⟩
 ·show is.length=(s.H (la++(lb++le))).length
  grind [cN.H]
 ·grind [aJ.dM,List.map_map,Function.comp_def]
 ·unfold cN.H at hx
  rw [p1] at hx;exact q2 r b x hb hx
 ·show is.Nodup
  refine ac0.2 fun p q hp hq hpq he=>?_;obtain⟨b1,h1,h2⟩:=hig p _ (fq om);obtain⟨b2,h3,h4⟩:=hig q _ (fq om);have:b1=b2:=by grind
  subst this;have e1:=eM.1 h2;have e2:=eM.1 h4;have:=(Rm hr.boxes.nodup).1 (e1.2.trans e2.2.symm)
  grind [List.getElem_inj]
 ·obtain⟨j',y,h1,h2,rfl⟩:=hrow j x hd hj
  obtain⟨n,xs,g1,g2,g3⟩:=hr.boxes.grow j' y hd h2;exact⟨n,xs,g1,g2,fun b hb=>⟨(g3 b hb).1,fun hm=>(g3 b hb).2.1 (hmem b hm),(g3 b hb).2.2⟩⟩
 ·obtain⟨i1,y,h1,h2,rfl⟩:=hrow j x hd hj
  obtain⟨i2,y',h3,h4,rfl⟩:=hrow j' x' hd' hj';have:=hr.boxes.apart i1 i2 y hd y' hd' b h2 h4 hb hb'
  grind [List.getElem?_eq_some_iff,List.getElem_inj]
 ·intro q c0 hm
  have hm:(q,c0)∈mD some s.soft (xl s.n0 s.boxes (zM s.n0 s.args (la++(lb++le))).2).2:=hm;rw [p1,q5] at hm;obtain⟨q',j,-,e1,e2,e3⟩:=Cc (rest:=[]) hle (by rw [adj];exact hm);cases e2;obtain⟨x,hd,h1,h2⟩:=hr.fZ j c0 e3;obtain⟨x',h4,h5⟩:=Kw q j e1;rw [h1] at h5;cases h5;exact⟨{x with aE:=0},hd,by simp [aJ.dM,h4],h2.keep rfl rfl (fun _ _ h=>h) (fun _ _ _ _ h=>h) (fun b _=>⟨rfl,fun _ h=>h⟩)⟩
end
end Go.RT
namespace Go.RT
variable {E : TEnv}
def jH{α:Type}:J (Nat×α)->J α->J α
 | [],l=>l
 | (i,x)::ps,l=>jH ps (l.set i x)
theorem gy{α:Type}:∀(ps:J (Nat×α))(l:J α),(jH ps l).length=l.length
 | [],l=>rfl
 | (i,x)::ps,l=>by simp [jH,gy ps]
theorem sR{α:Type}:∀(ps:J (Nat×α))(l:J α)(q:Nat),q∉ps.map (·.1)->(jH ps l)[q]? = l[q]?
 | [],l,q,_=>rfl
 | (i,x)::ps,l,q,h=>by
  simp only [lC,ij,not_or] at h;rw [jH,sR ps _ q h.2,Mk (fun e=>h.1 e.symm)]
theorem Hy{α:Type}:∀(ps:J (Nat×α))(l:J α)(q:Nat)(x:α),(ps.map (·.1)).Nodup->(q,x)∈ps->q<l.length->(jH ps l)[q]? = some x
 | (i,y)::ps,l,q,x,hn,hm,hq=>by
  simp only [lC,Qk] at hn;rcases ij.1 hm with he|hm
  ·obtain⟨rfl,rfl⟩:=he
   rw [jH,sR ps _ _ hn.1,XI hq]
  ·exact Hy ps _ q x hn.2 hm (by simpa using hq)
def o8{α:Type}:J (O BT)->J Nat->J α->J (Nat×α)
 | some _::os,i::is,x::xs=>(i,x)::o8 os is xs
 | none::os,_::is,_::xs=>o8 os is xs
 | _,_,_=>[]
theorem zN{α:Type}:∀ {os:J (O BT)}{is:J Nat}{xs:J α}{i:Nat}{x:α},(i,x)∈o8 os is xs->∃(r:Nat)(t:BT),os[r]? = some (some t)/\is[r]? = some i/\xs[r]? = some x
 | some t::os,j::is,y::xs,i,x,h=>by
  rcases ij.1 h with he|h
  ·cases he;exact⟨0,t,rfl,rfl,rfl⟩
  ·obtain⟨r,t',h1,h2,h3⟩:=zN h
   exact⟨r+1,t',by simpa using h1,by simpa using h2,by simpa using h3⟩
 | none::os,j::is,y::xs,i,x,h=>by
  obtain⟨r,t',h1,h2,h3⟩:=zN (xs:=xs) h
  exact⟨r+1,t',by simpa using h1,by simpa using h2,by simpa using h3⟩
 | [],_,_,_,_,h=>by cases h
 | some _::_,[],_,_,_,h=>by cases h
 | none::_,[],_,_,_,h=>by cases h
 | some _::_,_::_,[],_,_,h=>by cases h
 | none::_,_::_,[],_,_,h=>by cases h
theorem Kx{α:Type}:∀ {os:J (O BT)}{is:J Nat}{xs:J α}(r:Nat){t:BT}{i:Nat}{x:α},os[r]? = some (some t)->is[r]? = some i->xs[r]? = some x->(i,x)∈o8 os is xs
 | o::os,j::is,y::xs,0,t,i,x,h1,h2,h3=>by
  simp_all [o8]
 | o::os,j::is,y::xs,r+1,t,i,x,h1,h2,h3=>by
  have:=Kx r (by simpa using h1) (by simpa using h2) (by simpa using h3)
  cases o<;>simp [o8,this]
 | [],_,_,_,_,_,_,h,_,_=>by simp at h
 | _::_,[],_,_,_,_,_,_,h,_=>by simp at h
 | _::_,_::_,[],_,_,_,_,_,_,h=>by simp at h
theorem FO{α:Type}:∀ {os:J (O BT)}{is:J Nat}{xs:J α},is.Nodup->((o8 os is xs).map (·.1)).Nodup
 | some t::os,j::is,y::xs,h=>by
  rw [Qk] at h;simp only [o8,lC,Qk];refine⟨fun hm=>?_,FO h.2⟩;obtain⟨p,hp,he⟩:=yp.1 hm;obtain⟨i,x⟩:=p;obtain⟨r,t',-,h2,-⟩:=zN hp
  exact h.1 (by rw [<-show i=j from he];exact iX h2)
 | none::os,j::is,y::xs,h=>FO (xs:=xs) (Qk.1 h).2
 | [],_,_,_=>Ft
 | some _::_,[],_,_=>Ft
 | none::_,[],_,_=>Ft
 | some _::_,_::_,[],_=>Ft
 | none::_,_::_,[],_=>Ft
theorem OM:∀ {bs:J (O BT)}{r q:Nat},r+q∈CI r bs->∃t,bs[q]? = some (some t)
 | [],_,_,h=>by cases h
 | none::bs,r,q,h=>by
  simp [CI] at h
  cases q with
  | zero=>
   have key:∀(bs:J (O BT))(r x:Nat),x∈CI r bs->r<=x:=by
    intro bs
    induction bs with
    | nil=>intro r x h;cases h
    | cons o bs ih=>
     intro r x h
     cases o with
     | none=>have:=ih (r+1) x h;omega
     | some t=>rcases List.mem_cons.1 h with rfl|h;exact Nat.le_refl _;grind
   grind
  | succ q=>
   obtain⟨t,ht⟩:=OM (bs:=bs) (r:=r+1) (q:=q) (by grind)
   simp_all
 | some t::bs,r,q,h=>by
  cases q with
  | zero=>exact⟨t,rfl⟩
  | succ q=>
   rcases ij.1 h with he|h
   ·omega
   ·obtain⟨t,ht⟩:=OM (by rw [show r+1+q=r+(q+1) by omega];exact h)
    exact⟨t,by simpa using ht⟩
def rowAt:O (aC×Nat)->O bO->bO
 | none,some x=>x
 | some p,some x=>⟨x.aE+1,p.1,p.2⟩
 | some p,none=>⟨0,p.1,p.2⟩
 | none,none=>⟨0,0,0⟩
theorem mE:∀(rs:J (O (aC×Nat)))(g:J bO),(dL rs g).length=rs.length
 | [],_=>rfl
 | none::rs,_::g=>by simp_all [dL,mE]
 | some _::rs,_::g=>by simp_all [dL,mE]
 | some _::rs,[]=>by simp_all [dL,mE]
 | none::rs,[]=>by simp_all [dL,mE]
theorem Cf:∀(rs:J (O (aC×Nat)))(g:J bO)(j:Nat)(o:O (aC×Nat)),rs[j]? = some o->(dL rs g)[j]? = some (rowAt o g[j]?)
 | [],_,_,_,h=>by simp at h
 | r::rs,x::g,0,o,h=>by simp at h;subst h;cases r<;>simp [dL,rowAt]
 | r::rs,[],0,o,h=>by simp at h;subst h;cases r<;>simp [dL,rowAt]
 | r::rs,x::g,j+1,o,h=>by
  have:=Cf rs g j o (by simpa using h)
  cases r<;>simpa [dL] using this
 | r::rs,[],j+1,o,h=>by
  have:=Cf rs [] j o (by simpa using h);cases r<;>simpa [dL] using this
theorem nu(n:Rn):∀(bs:J (O BT))(H:J (eW E))(ls:J (Lf E)),(eA n bs H ls).length=bs.length
 | [],_,_=>rfl
 | none::bs,H,ls=>by simp_all [eA,nu]
 | some t::bs,H,ls=>by simp_all [eA,nu]
theorem Dq{w:U}{G G2:aJ}{n n2:Rn}(hL:Kv w G n G2 n2):∀(bs:J (O BT))(H H':J (eW E))(ls:J (Lf E))(r:Nat){t:BT}{b:Nat}{x y:eW E},bs[r]? = some (some t) ->
  (eA n bs H ls)[r]? = some x->(eA n2 bs H' ls)[r]? = some y->jD E w G b x->jD E w G2 b y
 | [],_,_,_,_,_,_,_,_,h,_,_,_=>by simp at h
 | none::bs,H,H',ls,r+1,t,b,x,y,h,hx,hy,hb=>Dq hL bs H.tail H'.tail ls r (by simpa using h) (by simpa [eA] using hx) (by simpa [eA] using hy) hb
 | none::bs,H,H',ls,0,t,b,x,y,h,hx,hy,hb=>by simp at h
 | some t'::bs,H,H',ls,0,t,b,x,y,h,hx,hy,hb=>by
  grind [eA,BT.move]
 | some t'::bs,H,H',ls,r+1,t,b,x,y,h,hx,hy,hb=>by
  simp [eA] at hx hy;rw [BT.yz n2 n] at hy;exact Dq hL bs H.tail H'.tail _ r (by simpa using h) hx hy hb
def yB:Nat->J (O BT)->Bool
 | 0,[]=>true
 | 0,some _::bs=>yB 0 bs
 | 0,none::_=>false
 | _+1,[]=>false
 | n+1,_::bs=>yB n bs
theorem Iz:∀ {n:Nat}{bs:J (O BT)},yB n bs=true->n<=bs.length/\∀r,n<=r->r<bs.length->∃t,bs[r]? = some (some t)
 | 0,[],_=>⟨ef _,fun r _ h=>by simp at h⟩
 | 0,some t::bs,h=>by
  obtain⟨_,q⟩:=Iz (bs:=bs) h
  grind
 | 0,none::_,h=>by cases h
 | _+1,[],h=>by cases h
 | n+1,o::bs,h=>by
  obtain⟨q1,q2⟩:=Iz (n:=n) h;refine⟨by simpa using q1,fun r h1 h2=>?_⟩
  cases r with
  | zero=>omega
  | succ r=>simp_all
def Js(gs:J Nat):J (Nat×Cn E)->J (Nat×Cn E)
 | []=>[]
 | p::cs=>cond (gs.elem p.1) (Js gs cs) (p::Js gs cs)
theorem zO{gs:J Nat}:∀ {cs:J (Nat×Cn E)}{i:Nat}{c:Cn E},(i,c)∈Js gs cs->(i,c)∈cs/\i∉gs
 | [],i,c,h=>by cases h
 | p::cs,i,c,h=>by
  simp only [Js] at h;cases hb:gs.elem p.1<;>rw [hb] at h<;>simp only [bw,aU] at h
  ·rcases ij.1 h with h|h
   ·refine⟨by rw [h];simp,fun e=>?_⟩
    rw [<-h] at hb;rw [ajH e] at hb;cases hb
   ·exact⟨pT _ (zO h).1,(zO h).2⟩
  ·exact⟨pT _ (zO h).1,(zO h).2⟩
theorem zP{f:Nat->O Nat}:∀ {ps:J (Nat×Ty)}{ls:J (Lf E)}{i:Nat}{c:Cn E},(i,c)∈mD f ps ls->∃q,f q=some i/\(q,c)∈mD some ps ls
 | [],ls,i,c,h=>by cases ls<;>cases h
 | p::ps,[],i,c,h=>by cases h
 | p::ps,l::ls,i,c,h=>by
  obtain⟨q,t⟩:=p;obtain⟨t',x⟩:=l;simp [mD] at h⊢
  cases hf:f q with
  | none=>
   rw [hf] at h;obtain⟨q',e1,e2⟩:=zP (by cases t'<;>exact h);refine⟨q',e1,?_⟩
   cases t'<;>first|exact e2|simp_all
  | some i'=>
   rw [hf] at h
   cases t' with
   | aZ t'=>
    rcases ij.1 h with e|h
    ·cases e;exact⟨q,hf,Mq ..⟩
    ·obtain⟨q',e1,e2⟩:=zP h
     exact⟨q',e1,pT _ e2⟩
   | _=>
    simp_all [zP]
def Outs.n2(o:Outs)(bs gs:J Nat)(st:TS E):Rn:=
 ⟨bs++List.range' st.H.length (o.boxes.length-bs.length),gs++List.range' st.g.length (o.rows.length-gs.length),(dL o.rows ((pick st.g gs).getD [])).map (·.aE)⟩
def Outs.val(o:Outs)(bs gs:J Nat)(st:TS E)(ls:J (Lf E)):TV E:=(o.res.put (o.n2 bs gs st) ls).1
def Outs.hc(o:Outs)(bs gs:J Nat)(st:TS E)(ls:J (Lf E)):J (eW E):=eA (o.n2 bs gs st) o.boxes [] (o.res.put (o.n2 bs gs st) ls).2
def Outs.after(o:Outs)(bs gs:J Nat)(st:TS E)(ls:J (Lf E)):TS E:=
 {st with
  H:=jH (o8 o.boxes bs (o.hc bs gs st ls)) st.H++(o.hc bs gs st ls).drop bs.length
  g:=jH (gs.zip (dL o.rows ((pick st.g gs).getD []))) st.g++(dL o.rows ((pick st.g gs).getD [])).drop gs.length
  d:=(o8 o.boxes bs (o.hc bs gs st ls)).map (·.1)++st.d
  c:=mD (fun q=>(o.n2 bs gs st).g[q]?) o.soft (oH o.boxes (o.res.put (o.n2 bs gs st) ls).2)++Js gs st.c}
theorem M8{α:Type}:∀ {l:J Nat}{m:J α},l.Nodup->((l.zip m).map (·.1)).Nodup
 | [],_,_=>Ft
 | _::_,[],_=>Ft
 | x::l,y::m,h=>by
  rw [Qk] at h;simp only [List.zip_cons_cons,lC,Qk];refine⟨fun hm=>h.1 ?_,M8 h.2⟩;obtain⟨p,hp,he⟩:=yp.1 hm;rw [<-he];exact (adl hp).1
theorem IA{α:Type}:∀ {l:J Nat}{m:J α}(j:Nat){i:Nat}{x:α},l[j]? = some i->m[j]? = some x->(i,x)∈l.zip m
 | y::l,z::m,0,i,x,h1,h2=>by simp_all
 | y::l,z::m,j+1,i,x,h1,h2=>by
  have:=IA j (by simpa using h1) (by simpa using h2)
  simp [this]
 | [],_,_,_,_,h,_=>by simp at h
 | _::_,[],_,_,_,_,h=>by simp at h
end Go.RT
namespace Go.RT
variable {E : TEnv}
section
variable {P : aD} {w0 w w' : U} {G0 G G' : aJ} {st : TS E} {a : Act}
theorem Rel.leave(hr:Rel E w0 G0 st a w G){bs gs is:J Nat}{gg:J (bO×Value)}(hi:pick G.i bs=some is)(hg:pick G.g gs=some gg)(Zj:bs.Nodup)(hn2:gs.Nodup)(o:Outs)
  (hb:yB bs.length o.boxes=true) (Zk:gs.length<=o.rows.length) {H0:J (eW E)} {ls:J (Lf E)} {v:Value} (hE:kz w (G.dM is gg) w' G')
  (hB:ld E w' G' (eA (o.n1 ((G.dM is gg).g.map (·.1))) o.boxes H0 (o.res.put (o.n1 ((G.dM is gg).g.map (·.1))) ls).2) (dL o.rows ((G.dM is gg).g.map (·.1))))
  (hS:kf E w' G' (mD some o.soft (oH o.boxes (o.res.put (o.n1 ((G.dM is gg).g.map (·.1))) ls).2)))
  (hv:VT E w' G' (o.res.put (o.n1 ((G.dM is gg).g.map (·.1))) ls).1 v) (Ky:∀(q b:Nat),is[q]? = some b->q∉CI 0 o.boxes->w'.heap[b]? = w.heap[b]?) :
  ∃Gn,Rel E w0 G0 (o.after bs gs st ls) a w' Gn/\VT E w' Gn (o.val bs gs st ls) v:=by
 obtain⟨Jh,hsome⟩:=Iz hb;obtain⟨hil,hig⟩:=qF hi;obtain⟨amB,Kw⟩:=qF hg;have hlen:=hr.boxes.len;have Zf:=hr.boxes.gs;have amD:G.g.length=st.g.length:=hr.o7
 have aoe:pick st.g gs=some (gg.map (·.1)):=by
  have key:∀(l:J Nat)(ys:J (bO×Value)),pick G.g l=some ys->pick st.g l=some (ys.map (·.1)):=by
   intro l
   induction l with
   | nil=>intro ys h;cases h;rfl
   | cons i l ih=>
    grind [pick]
  exact key gs gg hg
 have hpg:(pick st.g gs).getD []=gg.map (·.1):=by rw [aoe];rfl
 let g0:J bO:=(G.dM is gg).g.map (·.1)
 have aqh:g0.length=gs.length:=by simp [g0,aJ.dM,amB]
 let nc:=dL o.rows g0
 let ng:=dL o.rows (gg.map (·.1))
 have apo:nc.length=o.rows.length:=mE _ _;have amE:ng.length=o.rows.length:=mE _ _;have apq:G'.i.length=o.boxes.length:=by rw [hB.len,nu]
 have amF:G'.g.map (·.1)=nc:=hB.gs;have aer:G'.g.length=o.rows.length:=by rw [<-apo,<-amF];simp
 have aof:∀(r b:Nat),is[r]? = some b->G'.i[r]? = some b:=fun r b h=>hE.goes.i r b h
 let nY:J (bO×Value):=ng.zip (G'.g.map (·.2))
 have aog:nY.length=o.rows.length:=by simp [nY,amE,aer]
 have aes:nY.map (·.1)=ng:=by
  simp only [nY];rw [List.map_fst_zip];simp [amE,aer]
 let Gn:aJ:=⟨G.i++G'.i.drop bs.length,jH (gs.zip nY) G.g++nY.drop gs.length,G'.pr⟩
 have hent:∀(j:Nat) y,nY[j]? = some y->∃ro x' ,o.rows[j]? = some ro/\G'.g[j]? = some (x',y.2)/\x'=rowAt ro g0[j]?/\y.1=rowAt ro (gg.map (·.1))[j]?:=by
  intro j y hj;have hjl:j<o.rows.length:=by rw [<-aog];exact (eM.1 hj).1
  have hro:=fq hjl;have h1:=Cf o.rows (gg.map (·.1)) j _ hro;have h2:=Cf o.rows g0 j _ hro
  grind
 have hold:∀(j j':Nat) x h,gs[j]? = some j'->G.g[j']? = some (x,h)->gg[j]? = some (x,h)/\g0[j]? = some {x with aE:=0}/\(gg.map (·.1))[j]? = some x:=by
  intro j j' x h h1 h2;obtain⟨y,h3,h4⟩:=Kw j j' h1;rw [h2] at h4;cases h4;refine⟨h3,?_,by simp [h3]⟩;simp [g0,aJ.dM,h3]
 have aoh:∀(j j':Nat) x h,gs[j]? = some j'->G.g[j']? = some (x,h)->∃y,nY[j]? = some y/\x.aE<=y.1.aE/\(x.aE=y.1.aE->y.2=h):=by
  intro j j' x h h1 h2;have hjl:j<gs.length:=(eM.1 h1).1;have hjn:j<nY.length:=om;obtain⟨ro,x',q1,q2,q3,q4⟩:=hent j _ (fq hjn);obtain⟨o1,o2,o3⟩:=hold j j' x h h1 h2;rw [o2] at q3;rw [o3] at q4;refine⟨_,fq hjn,?_,fun e=>?_⟩
  ·rw [q4];cases ro<;>simp [rowAt]
  ·rw [q4] at e
   cases ro with
   | some p=>simp [rowAt] at e
   | none=>
    simp only [rowAt] at q3;have hsel:((G.dM is gg).g)[j]? = some ({x with aE:=0},h):=by simp [aJ.dM,o1]
    obtain⟨x2,h3,r1,r2,r3⟩:=hE.goes.g j _ h hsel;rw [q2] at r1;cases r1;exact r3 (by rw [q3])
 have hgn:∀(q:Nat) y,Gn.g[q]? = some y->(q∉gs/\G.g[q]? = some y)\/∃j,nY[j]? = some y/\((gs[j]? = some q/\q<G.g.length)\/(gs.length<=j/\q=G.g.length+(j-gs.length))):=by
  intro q y hq;have hq:(jH (gs.zip nY) G.g++nY.drop gs.length)[q]? = some y:=hq;by_cases su:q<G.g.length
  ·rw [uz (by rw [gy];exact su)] at hq
   by_cases hm:q∈gs
   ·obtain⟨j,hj,rfl⟩:=lB hm
    grind [Hy,M8,IA,List.getElem?_eq_getElem]
   ·rw [sR _ _ q (fun Zl=>hm (by obtain⟨p,hp,he⟩:=yp.1 Zl;rw [<-he];exact (adl hp).1))] at hq
    exact .inl ⟨hm,hq⟩
  ·rw [Ih (by rw [gy];omega),gy,Ue] at hq
   exact .inr ⟨gs.length+(q-G.g.length),hq,.inr ⟨om,om⟩⟩
 have Zm:∀(j q:Nat) y,gs[j]? = some q->q<G.g.length->nY[j]? = some y->Gn.g[q]? = some y:=by
  intro j q y h1 h2 h3;show (jH (gs.zip nY) G.g++nY.drop gs.length)[q]? = some y;rw [uz (by rw [gy];exact h2)];exact Hy (gs.zip nY) G.g q y (M8 hn2) (IA j h1 h3) h2
 have acr:∀(q:Nat) y,q∉gs->G.g[q]? = some y->Gn.g[q]? = some y:=by
  intro q y h1 h2;have su:=(eM.1 h2).1;show (jH (gs.zip nY) G.g++nY.drop gs.length)[q]? = some y;rw [uz (by rw [gy];exact su),sR _ _ q (fun Zl=>h1 (by obtain⟨p,hp,he⟩:=yp.1 Zl;rw [<-he];exact (adl hp).1))];exact h2
 have acs:∀(j:Nat) y,gs.length<=j->nY[j]? = some y->Gn.g[G.g.length+(j-gs.length)]? = some y:=by
  intro j y h1 h2;show (jH (gs.zip nY) G.g++nY.drop gs.length)[G.g.length+(j-gs.length)]? = some y;rw [Ih (by rw [gy];omega),gy,Ue];rw [show gs.length+(G.g.length+(j-gs.length)-G.g.length)=j by omega];exact h2
 have Kz:hU w G w' Gn:=by
  refine⟨hE.goes.pr,hE.goes.cells,fun r b h=>?_,fun q x h hq=>?_⟩
  ·show (G.i++G'.i.drop bs.length)[r]? = some b
   rw [uz (eM.1 h).1];exact h
  ·by_cases hm:q∈gs
   ·obtain⟨j,hj,rfl⟩:=lB hm
    obtain⟨y,h1,h2,h3⟩:=aoh j _ x h (fq hj) hq;exact⟨y.1,y.2,Zm j _ y (fq hj) (eM.1 hq).1 h1,h2,h3⟩
   ·exact⟨x,h,acr q _ hm hq,ef _,fun _=>rfl⟩
 have ev:=hr.eO
 have Zn:∀b,b∈is->b∈G.i:=fun b hb=>by
  obtain⟨q,hq,rfl⟩:=lB hb;obtain⟨b',h1,h2⟩:=hig q _ (fq om);rw [fq hq] at h1;cases h1;exact iX h2
 have BG:∀b,(G.dM is gg).rows b->∃(j j':Nat)(x:bO)(h:Value),gs[j]? = some j'/\G.g[j']? = some (x,h)/\h.ownBlock=some b:=by
  rintro b ⟨x,h,hm,hbk⟩;obtain⟨j,hj,he⟩:=lB hm;have hj2:j<gg.length:=by simpa [aJ.dM] using hj
  obtain⟨y,h1,h2⟩:=Kw j _ (fq om);rw [fq hj2] at h1;have h1:=uy h1
  have VH:gg[j].2=h:=by
   have:=congrArg Prod.snd he;simpa [aJ.dM] using this
  refine⟨j,_,y.1,y.2,fq om,h2,?_⟩;rw [<-h1,VH];exact hbk
 have Jt:∀(j:Nat) x h b,G.g[j]? = some (x,h)->h.ownBlock=some b->b<w.heap.size/\b∉G.i:=fun j x h b hj hb=>by
  obtain⟨n,xs,-,-,q⟩:=hr.boxes.grow j x h hj;exact⟨(q b hb).1,(q b hb).2.1⟩
 have hsame:∀(q b:Nat),G.i[q]? = some b->q∉bs->w'.heap[b]? = w.heap[b]?:=by
  intro q b hq hnb;refine hE.old b (hr.boxes.lt b (iX hq)) (fun hf=>?_);rcases hf with hf|hf
  ·obtain⟨r,hrl,he⟩:=lB hf
   have amG:r<bs.length:=by
    have:r<is.length:=hrl;omega
   obtain⟨b',h1,h2⟩:=hig r _ (fq amG);have h1':is[r]? = some b:=by rw [<-he];exact fq hrl
   rw [h1'] at h1;cases h1;have e1:=eM.1 hq;have e2:=eM.1 h2;have:q=bs[r]:=(Rm hr.boxes.nodup).1 (e1.2.trans e2.2.symm);exact hnb (by rw [this];exact ko amG)
  ·obtain⟨j,j',x,h,-,h2,h3⟩:=BG b hf
   exact (Jt j' x h b h2 h3).2 (iX hq)
 have aet:∀(q b:Nat),Gn.i[q]? = some b->G.i[q]? = some b\/(G.i.length<=q/\G'.i[bs.length+(q-G.i.length)]? = some b/\w.heap.size<=b):=by
  intro q b hq;have hq:(G.i++G'.i.drop bs.length)[q]? = some b:=hq;by_cases su:q<G.i.length
  ·rw [uz su] at hq;exact .inl hq
  ·rw [Ih om,Ue] at hq
   exact .inr ⟨om,hq,hE.pX _ b (by show is.length<=_;omega) hq⟩
 have XS:∀b,b∈Gn.i->b∈G.i\/(b∈G'.i/\w.heap.size<=b):=fun b hb=>by
  obtain⟨q,hq,he⟩:=lB hb;rcases aet q b (by rw [<-he];exact fq hq) with h|⟨-,h1,h2⟩
  ·exact .inl (iX h)
  ·exact .inr ⟨iX h1,h2⟩
 have hblk:∀(j:Nat) x h b,G'.g[j]? = some (x,h)->h.ownBlock=some b->w.heap.size<=b\/∃(j':Nat)(x0:bO)(h0:Value),gs[j]? = some j'/\G.g[j']? = some (x0,h0)/\h0.ownBlock=some b:=by
  intro j x h b hj hbk;rcases hE.gA j x h b hj hbk with q|⟨x0,h0,q1,q2⟩
  ·exact .inl q
  ·have DN:j<gg.length:=by
    have:=(eM.1 q1).1;simpa [aJ.dM] using this
   obtain⟨y,h1,h2⟩:=Kw j _ (fq om)
   grind [List.getElem?_eq_getElem,Option.some.inj,aJ.dM]
 have En:Kv w' G' (o.n1 g0) Gn (o.n2 bs gs st):=by
  refine⟨⟨fun _ _ h=>h,fun r r' b h1 h2=>?_,fun j j' vv x h h1 h2 h3=>?_⟩,?_,?_,?_⟩
  ·obtain⟨rfl,hlt⟩:=V3 h1
   by_cases hrb:r'<bs.length
   ·refine⟨bs[r'],by simp [Outs.n2,uz hrb,hrb],?_⟩
    obtain⟨b',q1,q2⟩:=hig r' _ (fq hrb);have:=aof r' b' q1;rw [h2] at this;cases this;show (G.i++G'.i.drop bs.length)[bs[r']]? = some b;rw [uz (eM.1 q2).1];exact q2
   ·refine⟨st.H.length+(r'-bs.length),?_,?_⟩
    ·simp only [Outs.n2]
     rw [Ih om];rw [adm om];simp
    ·show (G.i++G'.i.drop bs.length)[st.H.length+(r'-bs.length)]? = some b
     rw [<-hlen,Ih om,Ue,show bs.length+(G.i.length+(r'-bs.length)-G.i.length)=r' by omega];exact h2
  ·obtain⟨rfl,hlt⟩:=V3 h1
   have hjn:j'<nY.length:=om;obtain⟨ro,x',q1,q2,q3,q4⟩:=hent j' _ (fq hjn);rw [h3] at q2;have q2:=uy q2;simp only [adn] at q2
   have Sr:x.aE=vv:=by
    have h2:(nc.map (·.aE))[j']? = some vv:=h2;rw [<-amF,Bc,Ml,h3] at h2;simpa using h2
   refine⟨Sr,?_⟩
   have qd:((dL o.rows ((pick st.g gs).getD [])).map (·.aE))[j']? = some nY[j'].1.aE:=by
    rw [hpg,show dL o.rows (gg.map (·.1))=ng from rfl,<-aes];simp [hjn]
   by_cases DN:j'<gs.length
   ·obtain⟨y,r1,r2⟩:=Kw j' _ (fq DN)
    refine⟨gs[j'],nY[j'].1.aE,nY[j'].1,by simp [Outs.n2,uz DN,DN],qd,?_,rfl⟩;rw [Zm j' _ _ (fq DN) (eM.1 r2).1 (fq hjn),q2.2]
   ·refine⟨st.g.length+(j'-gs.length),nY[j'].1.aE,nY[j'].1,?_,qd,?_,rfl⟩
    ·simp only [Outs.n2]
     rw [Ih om,adm om];simp
    ·rw [<-amD,acs j' _ om (fq hjn),q2.2]
  ·simp [Outs.n1,Outs.n2];omega
  ·simp [Outs.n1,Outs.n2];omega
  ·simp [Outs.n1,Outs.n2,mE]
 have hval:VT E w' Gn (o.val bs gs st ls) v:=PT.move En o.res ls hv;have eX:(o.res.put (o.n2 bs gs st) ls).2=(o.res.put (o.n1 g0) ls).2:=PT.yz _ _ _ _;have apr:(o.hc bs gs st ls).length=o.boxes.length:=nu _ _ _ _
 have ap8:∀(r b:Nat) t y,o.boxes[r]? = some (some t)->G'.i[r]? = some b->(o.hc bs gs st ls)[r]? = some y->jD E w' Gn b y:=by
  intro r b t y h1 h2 h3;have hrl:r<o.boxes.length:=(eM.1 h1).1;have hx:r<(eA (o.n1 g0) o.boxes H0 (o.res.put (o.n1 g0) ls).2).length:=by rw [nu];exact hrl
  have hbx:=hB.box r b _ h2 (fq hx);unfold Outs.hc at h3;rw [eX] at h3;exact Dq En o.boxes H0 [] _ r h1 (fq hx) h3 hbx
 refine⟨Gn,⟨⟨hE.os.trans ev.os,hE.tape.trans ev.tape,hE.output.trans ev.output,nG ev.size hE.size,fun b hb hnf=>?_,ev.goes.trans Kz,fun b oo hb hp=>?_,fun q b h1 h2=>?_,fun q x h b hq hbk=>?_⟩,hr.size,fun j d hj=>(hr.tmps j d hj).mono Kz,hr.defers.mono Kz,?_,fun r b hb hd=>?_,hr.pins,?_⟩,hval⟩
 ·refine (hE.old b (jz hb ev.size) (fun hf=>?_)).trans (ev.old b hb hnf)
  rcases hf with hf|hf
  ·have hbi:=Zn b hf
   obtain⟨q,hq,he⟩:=lB hbi;have Su:G.i[q]? = some b:=by rw [<-he];exact fq hq
   by_cases su:q<G0.i.length
   ·have e1:=ev.goes.i q _ (fq su)
    rw [Su] at e1;exact hnf (.inl (by rw [uy e1];exact ko su))
   ·have:=ev.pX q b om Su;omega
  ·obtain⟨j,j',x,h,-,h2,h3⟩:=BG b hf
   rcases ev.gA j' x h b h2 h3 with q|⟨x0,h0,q1,q2⟩
   ·omega
   ·exact hnf (.inr ⟨x0,h0,iX q1,q2⟩)
 ·rcases hE.nr b oo (jz hb ev.size) hp with q|q
  ·exact ev.nr b oo hb q
  ·obtain⟨j,j',x,h,-,h2,h3⟩:=BG b q
   rcases ev.gA j' x h b h2 h3 with q|⟨x0,h0,q1,q2⟩
   ·omega
   ·exact .inr ⟨x0,h0,iX q1,q2⟩
 ·rcases aet q b h2 with h|⟨-,-,h⟩
  ·exact ev.pX q b h1 h
  ·exact nG ev.size h
 ·rcases hgn q (x,h) hq with⟨-,h1⟩|⟨j,h1,h2⟩
  ·exact ev.gA q x h b h1 hbk
  ·obtain⟨ro,x',q1,q2,-,-⟩:=hent j _ h1
   rcases hblk j x' h b q2 hbk with q|⟨j',x0,h0,q3,q4,q5⟩
   ·exact .inl (nG ev.size q)
   ·rcases h2 with⟨h2,-⟩|⟨h2,-⟩
    ·rw [h2] at q3;cases q3
     exact ev.gA q x0 h0 b q4 q5
    ·have:=(eM.1 q3).1;omega
 ·refine⟨?_,?_,fun q b y hq hy=>?_,fun b hb=>?_,?_,fun b oo hp=>?_,fun q x h hq=>?_,fun q q' x h x' h' b hq Ye wW oY=>?_⟩
  ·show (G.i++G'.i.drop bs.length).length=(jH (o8 o.boxes bs (o.hc bs gs st ls)) st.H++(o.hc bs gs st ls).drop bs.length).length
   simp only [yq,Mm,gy,apr,apq,hlen]
  ·show (jH (gs.zip nY) G.g++nY.drop gs.length).map (·.1)=jH (gs.zip (dL o.rows ((pick st.g gs).getD []))) st.g++(dL o.rows ((pick st.g gs).getD [])).drop gs.length
   rw [hpg,J3,List.map_drop,aes];congr 1
   have key:∀(l:J Nat)(m:J (bO×Value))(g:J (bO×Value)),(jH (l.zip m) g).map (·.1)=jH (l.zip (m.map (·.1))) (g.map (·.1)):=by
    intro l
    induction l with
    | nil=>intro m g;rfl
    | cons i l ih=>
     intro m g
     cases m with
     | nil=>rfl
     | cons y m=>
      simp only [List.zip_cons_cons,lC,jH];rw [ih,Xp]
   rw [key,aes,Zf]
  ·have hy:(jH (o8 o.boxes bs (o.hc bs gs st ls)) st.H++(o.hc bs gs st ls).drop bs.length)[q]? = some y:=hy
   rcases aet q b hq with h|⟨h1,h2,h3⟩
   ·have su:q<st.H.length:=by rw [<-hlen];exact (eM.1 h).1
    rw [uz (by rw [gy];exact su)] at hy;by_cases hm:q∈bs
    ·obtain⟨r,hrl,rfl⟩:=lB hm
     obtain⟨b',q1,q2⟩:=hig r _ (fq hrl);rw [h] at q2;cases q2
     cases Sv:o.boxes[r]? with
     | none=>rw [List.getElem?_eq_none_iff] at Sv;omega
     | some ob=>
      cases ob with
      | some t=>
       grind [Hy,FO,Kx,List.getElem?_eq_getElem]
      | none=>
       rw [sR _ _ _ (fun Zl=>by
        obtain⟨p,hp,he⟩:=yp.1 Zl;obtain⟨i,x⟩:=p;obtain⟨r',t',e1,e2,-⟩:=zN hp;have e2':=eM.1 e2;have:r'=r:=(Rm Zj).1 (e2'.2.trans he);subst this;rw [Sv] at e1;cases e1)] at hy
       refine (hr.boxes.box _ b y h hy).mono Kz (Ky r b q1 (fun hc=>?_));rw [<-pU r] at hc;obtain⟨t,ht⟩:=OM hc;rw [Sv] at ht;cases ht
    ·rw [sR _ _ _ (fun Zl=>by
      obtain⟨p,hp,he⟩:=yp.1 Zl;obtain⟨i,x⟩:=p;obtain⟨r',t',-,e2,-⟩:=zN hp;exact hm (by rw [<-show i=q from he];exact iX e2))] at hy
     exact (hr.boxes.box q b y h hy).mono Kz (hsame q b h hm)
   ·rw [Ih (by rw [gy,<-hlen];omega),gy,Ue,<-hlen] at hy
    grind
  ·rcases XS b hb with h|⟨h,-⟩
   ·exact jz (hr.boxes.lt b h) hE.size
   ·exact hB.lt b h
  ·show (G.i++G'.i.drop bs.length).Nodup
   refine List.nodup_append.2 ⟨hr.boxes.nodup,(List.drop_sublist _ _).nodup hB.nodup,fun x hx y hy e=>?_⟩;subst e;obtain⟨q,hq,he⟩:=lB hy;have h1:(G'.i.drop bs.length)[q]? = some x:=by rw [<-he];exact fq hq
   rw [Ue] at h1;have:=hE.pX _ x (by show is.length<=_;omega) h1;have:=hr.boxes.lt x hx;omega
  ·refine⟨(hB.fY b oo hp).1,fun hm=>?_⟩
   rcases XS b hm with h|⟨h,-⟩
   ·rcases hE.nr b oo (hr.boxes.lt b h) hp with q|q
    ·exact (hr.boxes.fY b oo q).2 h
    ·obtain⟨j,j',x,hh,-,h2,h3⟩:=BG b q
     exact (Jt j' x hh b h2 h3).2 h
   ·exact (hB.fY b oo hp).2 h
  ·rcases hgn q (x,h) hq with⟨h0,h1⟩|⟨j,h1,h2⟩
   ·obtain⟨n,xs,g1,g2,g3⟩:=hr.boxes.grow q x h h1
    have hun:∀b,h.ownBlock=some b->w'.heap[b]? = w.heap[b]?:=fun b hbk=>by
     refine hE.old b (g3 b hbk).1 (fun hf=>?_);rcases hf with hf|hf
     ·exact (g3 b hbk).2.1 (Zn b hf)
     ·obtain⟨j,j',x',h',e1,e2,e3⟩:=BG b hf
      have:=hr.boxes.apart q j' x h x' h' b h1 e2 hbk e3;exact h0 (by rw [this];exact iX e1)
    refine⟨n,xs,⟨g1.1,?_⟩,g2,fun b hbk=>?_⟩
    ·rcases g1.2 with q2|⟨gb,cap,cur,q2,q3,q4,q5⟩
     ·exact .inl q2
     ·exact .inr ⟨gb,cap,cur,q2,q3,by rw [hun gb (by rw [q2];rfl)];exact q4,q5⟩
    ·obtain⟨k1,k2,k3⟩:=g3 b hbk
     refine⟨jz k1 hE.size,fun hm=>?_,fun oo ho hp=>?_⟩
     ·rcases XS b hm with h'|⟨-,h'⟩
      ·exact k2 h'
      ·omega
     ·rcases hE.nr b oo k1 hp with q'|q'
      ·exact k3 oo ho q'
      ·obtain⟨j,j',x',h',e1,e2,e3⟩:=BG b q'
       have:=hr.boxes.apart q j' x h x' h' b h1 e2 hbk e3;exact h0 (by rw [this];exact iX e1)
   ·obtain⟨ro,x',q1,q2,q3,q4⟩:=hent j _ h1
    obtain⟨n,xs,g1,g2,g3⟩:=hB.grow j x' h q2
    have Zo:x.e=x'.e/\x.k=x'.k:=by
     have q4:x=rowAt ro (gg.map (·.1))[j]?:=q4;rw [q3,q4];by_cases DN:j<gg.length
     ·have e1:g0[j]? = some {gg[j].1 with aE:=0}:=by simp [g0,aJ.dM,DN]
      have e2:(gg.map (·.1))[j]? = some gg[j].1:=by simp [DN]
      rw [e1,e2];cases ro<;>simp [rowAt]
     ·have e1:g0[j]? = none:=T9 om
      have e2:(gg.map (·.1))[j]? = none:=T9 bH;rw [e1,e2];exact⟨rfl,rfl⟩
    refine⟨n,xs,by rw [Zo.1,Zo.2];exact g1,fun a m h=>by rw [Zo.1];exact g2 a m h,fun b hbk=>?_⟩;obtain⟨k1,k2,k3⟩:=g3 b hbk;refine⟨k1,fun hm=>?_,by rw [Zo.2];exact k3⟩;rcases XS b hm with h'|⟨h',-⟩
    ·rcases hblk j x' h b q2 hbk with q'|⟨j',x0,h0,q5,q6,q7⟩
     ·have:=hr.boxes.lt b h';omega
     ·exact (Jt j' x0 h0 b q6 q7).2 h'
    ·exact k2 h'
  ·rcases hgn q (x,h) hq with⟨n0,h1⟩|⟨j,h1,h2⟩<;>rcases hgn q' (x',h') Ye with⟨n0',h1'⟩|⟨j',h1',h2'⟩
   ·exact hr.boxes.apart q q' x h x' h' b h1 h1' wW oY
   ·exfalso
    obtain⟨ro,y,e1,e2,-,-⟩:=hent j' _ h1';rcases hblk j' y h' b e2 oY with q5|⟨j2,x0,h0,q5,q6,q7⟩
    ·have:=(Jt q x h b h1 wW).1;omega
    ·have:=hr.boxes.apart q j2 x h x0 h0 b h1 q6 wW q7
     exact n0 (by rw [this];exact iX q5)
   ·exfalso
    obtain⟨ro,y,e1,e2,-,-⟩:=hent j _ h1;rcases hblk j y h b e2 wW with q5|⟨j2,x0,h0,q5,q6,q7⟩
    ·have:=(Jt q' x' h' b h1' oY).1;omega
    ·have:=hr.boxes.apart q' j2 x' h' x0 h0 b h1' q6 oY q7
     exact n0' (by rw [this];exact iX q5)
   ·obtain⟨ro,y,e1,e2,-,-⟩:=hent j _ h1
    obtain⟨ro',y',YR,e2',-,-⟩:=hent j' _ h1';have:=hB.apart j j' y h y' h' b e2 e2' wW oY;subst this;rcases h2 with⟨h2,-⟩|⟨h2,h3⟩<;>rcases h2' with⟨h2',-⟩|⟨h2',h3'⟩
    ·rw [h2] at h2';exact uy h2'
    ·have:=(eM.1 h2).1;omega
    ·have:=(eM.1 h2').1;omega
    ·omega
 ·have hd:r∉(o8 o.boxes bs (o.hc bs gs st ls)).map (·.1)++st.d:=hd
  rw [wH,not_or] at hd;have hgi:=ev.goes.i r b hb;refine Eq.trans ?_ (hr.fix r b hb hd.2);by_cases hm:r∈bs
  ·obtain⟨q,su,rfl⟩:=lB hm
   obtain⟨b',q1,q2⟩:=hig q _ (fq su);rw [hgi] at q2;cases q2;refine Ky q b q1 (fun hc=>hd.1 ?_);rw [<-pU q] at hc;obtain⟨t,ht⟩:=OM hc;have hrc:q<(o.hc bs gs st ls).length:=om;exact yp.2 ⟨_,Kx q ht (fq su) (fq hrc),rfl⟩
  ·exact hsame r b hgi hm
 ·intro i c0 hm
  have hm:(i,c0)∈mD (fun q=>(o.n2 bs gs st).g[q]?) o.soft (oH o.boxes (o.res.put (o.n2 bs gs st) ls).2)++Js gs st.c:=hm;rcases wH.1 hm with hm|hm
  ·rw [eX] at hm
   obtain⟨q,e1,e2⟩:=zP hm;obtain⟨x',hd,h1,h2⟩:=hS q c0 e2;have su:q<o.rows.length:=by rw [<-aer];exact (eM.1 h1).1
   have hqn:q<nY.length:=om;obtain⟨ro,x1,q1,q2,q3,q4⟩:=hent q _ (fq hqn);rw [h1] at q2;have q2:=uy q2;simp only [adn] at q2;obtain⟨q2a,q2b⟩:=q2
   have Zo:nY[q].1.e=x'.e/\nY[q].1.k=x'.k:=by
    rw [q2a,q3,q4];by_cases DN:q<gg.length
    ·have e1:g0[q]? = some {gg[q].1 with aE:=0}:=by simp [g0,aJ.dM,DN]
     have e2:(gg.map (·.1))[q]? = some gg[q].1:=by simp [DN]
     rw [e1,e2];cases ro<;>simp [rowAt]
    ·have e1:g0[q]? = none:=T9 om
     have e2:(gg.map (·.1))[q]? = none:=T9 bH;rw [e1,e2];exact⟨rfl,rfl⟩
   refine⟨nY[q].1,hd,?_,h2.keep Zo.1 Zo.2 (fun _ _ h=>h) (fun _ _ _ _ h=>h) (fun b _=>⟨rfl,fun _ h=>h⟩)⟩;by_cases DN:q<gs.length
   ·obtain⟨y,r1,r2⟩:=Kw q _ (fq DN)
    have:i=gs[q]:=by
     simp only [Outs.n2] at e1;rw [uz DN,fq DN] at e1;exact (uy e1).symm
    rw [this,Zm q _ _ (fq DN) (eM.1 r2).1 (fq hqn),q2b]
   ·have:i=st.g.length+(q-gs.length):=by
     simp only [Outs.n2] at e1;rw [Ih om,adm om] at e1;have:=uy e1;omega
    rw [this,<-amD,acs q _ om (fq hqn),q2b]
  ·obtain⟨hmc,hng⟩:=zO hm
   obtain⟨x,hd,h1,h2⟩:=hr.fZ i c0 hmc;obtain⟨n,xs,g1,g2,g3⟩:=hr.boxes.grow i x hd h1
   have hun:∀b,hd.ownBlock=some b->¬ (G.dM is gg).Dk b:=fun b hbk hf=>by
    rcases hf with hf|hf
    ·exact (g3 b hbk).2.1 (Zn b hf)
    ·obtain⟨j,j',x',h',e1,e2,e3⟩:=BG b hf
     have:=hr.boxes.apart i j' x hd x' h' b h1 e2 hbk e3;exact hng (by rw [this];exact iX e1)
   refine⟨x,hd,?_,h2.keep rfl rfl Kz.pr Kz.cells (fun b hbk=>⟨hE.old b (g3 b hbk).1 (hun b hbk),fun oo hp=>?_⟩)⟩
   ·exact acr i _ hng h1
   ·rcases hE.nr b oo (g3 b hbk).1 hp with q'|q'
    ·exact q'
    ·exact (hun b hbk (.inr q')).elim
end
end Go.RT
namespace Go.RT
variable {E : TEnv}
def uk(c:CT)(d:TV E)(st:TS E):TV E×TS E:=match c,d with
 | .dat _,.dW j aE=>match st.g[j]?,nO st.c j with
  | some g,some c=>cond (Nat.beq g.aE aE) (.dat (.aZ c.1) c.2,{st with c:=mN j st.c}) (.dW j aE,st)
  | _,_=>(.dW j aE,st)
 | _,d=>(d,st)
def Ep:J CT->J (TV E)->TS E->J (TV E)×TS E
 | c::cs,d::ds,st=>((uk c d st).1::(Ep cs ds (uk c d st).2).1,(Ep cs ds (uk c d st).2).2)
 | _,ds,st=>(ds,st)
def Er(p:PT)(d:TV E)(st:TS E):TV E×TS E:=match p,d with
 | .one c,d=>uk c d st
 | .dh cs,.tuple ds=>(.tuple (Ep cs ds st).1,(Ep cs ds st).2)
 | _,d=>(d,st)
def xo:J PT->J (TV E)->TS E->J (TV E)×TS E
 | p::ps,d::ds,st=>((Er p d st).1::(xo ps ds (Er p d st).2).1,(xo ps ds (Er p d st).2).2)
 | _,ds,st=>(ds,st)
def ov(st st':TS E):Prop:=∃c',st'={st with c:=c'}
theorem ov.refl(st:TS E):ov st st:=⟨st.c,rfl⟩
theorem ov.trans{s1 s2 s3:TS E}(h1:ov s1 s2)(h2:ov s2 s3):ov s1 s3:=by
 obtain⟨c1,rfl⟩:=h1;obtain⟨c2,rfl⟩:=h2;exact⟨c2,rfl⟩
section
variable {w0 w : U} {G0 G : aJ} {a : Act}
theorem QH(c:CT)(d:TV E){st:TS E}(hr:Rel E w0 G0 st a w G):ov st (uk c d st).2/\∃G',Rel E w0 G0 (uk c d st).2 a w G'/\hU w G w G'/\∀v,VT E w G d v->VT E w G' (uk c d st).1 v:=by
 have uW:ov st st/\∃G',Rel E w0 G0 st a w G'/\hU w G w G'/\∀v,VT E w G d v->VT E w G' d v:=⟨ov.refl st,G,hr,hU.refl w G,fun _ h=>h⟩;unfold uk;split
 ·rename_i t j aE
  split
  ·rename_i g c hg hc
   cases hb:Nat.beq g.aE aE
   ·exact uW
   ·obtain rfl:=ey hb
    obtain⟨G',hR,zK,h1⟩:=hr.amu hg hc;exact⟨⟨_,rfl⟩,G',hR,zK,h1⟩
  ·exact uW
 ·exact uW
theorem Zp:∀(cs:J CT)(ds:J (TV E)){st:TS E}{G:aJ},Rel E w0 G0 st a w G->ov st (Ep cs ds st).2/\∃G',Rel E w0 G0 (Ep cs ds st).2 a w G'/\hU w G w G'/\∀vs,bC E w G ds vs->bC E w G' (Ep cs ds st).1 vs
 | [],ds,st,G,hr=>by
  grind [Ep,ov.refl,hU.refl]
 | c::cs,[],st,G,hr=>by
  grind [Ep,ov.refl,hU.refl]
 | c::cs,d::ds,st,G,hr=>by
  obtain⟨o1,G1,eL,g1,v1⟩:=QH c d hr;obtain⟨o2,G2,hr2,g2,v2⟩:=Zp cs ds eL;refine⟨o1.trans o2,G2,hr2,g1.trans g2,fun vs hv=>?_⟩;obtain⟨u,us,rfl,h1,h2⟩:=hv.cons_inv;exact .cons ((v1 u h1).mono g2) (v2 us (h2.mono g1))
theorem Zq(p:PT)(d:TV E){st:TS E}(hr:Rel E w0 G0 st a w G):ov st (Er p d st).2/\∃G',Rel E w0 G0 (Er p d st).2 a w G'/\hU w G w G'/\∀v,VT E w G d v->VT E w G' (Er p d st).1 v:=by
 unfold Er
 grind [QH,Zp,VT,ov.refl,hU.refl]
theorem M9:∀(ps:J PT)(ds:J (TV E)){st:TS E}{G:aJ},Rel E w0 G0 st a w G->ov st (xo ps ds st).2/\∃G',Rel E w0 G0 (xo ps ds st).2 a w G'/\hU w G w G'/\∀vs,bC E w G ds vs->bC E w G' (xo ps ds st).1 vs
 | [],ds,st,G,hr=>by
  grind [xo,ov.refl,hU.refl]
 | c::cs,[],st,G,hr=>by
  grind [xo,ov.refl,hU.refl]
 | c::cs,d::ds,st,G,hr=>by
  obtain⟨o1,G1,eL,g1,v1⟩:=Zq c d hr;obtain⟨o2,G2,hr2,g2,v2⟩:=M9 cs ds eL;refine⟨o1.trans o2,G2,hr2,g1.trans g2,fun vs hv=>?_⟩;obtain⟨u,us,rfl,h1,h2⟩:=hv.cons_inv;exact .cons ((v1 u h1).mono g2) (v2 us (h2.mono g1))
theorem Rel.ago{st:TS E}(h:Rel E w0 G0 st a w G){i:Nat}(hi:st.t[i]? = some (.val (.slice none 0 0)))(e:aC)(T:Ty)(hT:0<T.size E):
  ∃G',Rel E w0 G0 {st with t:=st.t.set i (.dW st.g.length 0),g:=st.g++[⟨0,e,T.size E⟩],c:=(st.g.length,⟨T,[]⟩)::st.c} a w G':=by
 have hN:=h.Jq e (T.size E);have hl:=h.o7;have kQ:(G.g++[(⟨0,e,T.size E⟩,Value.slice none 0 0)])[st.g.length]? = some (⟨0,e,T.size E⟩,.slice none 0 0):=by rw [<-hl];simp
 have hC:=hN.UM (c:=⟨T,[]⟩) ⟨_,_,kQ,rfl,hT,⟨[],⟨si,.inl ⟨rfl,rfl⟩⟩,Flat.nil⟩,fun b hb=>by cases hb⟩;refine⟨_,hC.eO,by simpa using hC.size,fun j d hj=>?_,hC.defers,hC.boxes,hC.fix,hC.pins,hC.fZ⟩;simp [TW] at hj;by_cases hij:i=j
 ·subst hij
  have hlt:=(eM.1 hi).1;simp [hlt] at hj;subst hj;have hv:=h.tmps i _ hi;rw [hv];exact⟨_,_,kQ,ef _,rfl,fun _=>rfl⟩
 ·rw [if_neg hij] at hj
  exact hN.tmps j d hj
theorem Rel.aeu{st:TS E}(h:Rel E w0 G0 st a w G){r c:Nat}{t:aC}{cs:J (TV E)}(hr:st.H[r]? = some (.cells t cs))(hc:cs[c]? = some (.val (.slice none 0 0)))(e:aC)(T:Ty)(hT:0<T.size E):
  ∃G',Rel E w0 G0 {st with H:=st.H.set r (.cells t (cs.set c (.dW st.g.length 0))),g:=st.g++[⟨0,e,T.size E⟩],d:=r::st.d,c:=(st.g.length,⟨T,[]⟩)::st.c} a w G':=by
 have hN:=h.Jq e (T.size E);have hl:=h.o7;have kQ:(G.g++[(⟨0,e,T.size E⟩,Value.slice none 0 0)])[st.g.length]? = some (⟨0,e,T.size E⟩,.slice none 0 0):=by rw [<-hl];simp
 have hC:=hN.UM (c:=⟨T,[]⟩) ⟨_,_,kQ,rfl,hT,⟨[],⟨si,.inl ⟨rfl,rfl⟩⟩,Flat.nil⟩,fun b hb=>by cases hb⟩;have hlr:r<G.i.length:=by rw [h.boxes.len];grind
 have hat:=fq hlr;have hS:=hC.xg hat rfl rfl rfl rfl (fun _ _=>rfl) (x:=.cells t (cs.set c (.dW st.g.length 0))) (fun _=>?_)
 ·exact⟨_,hS⟩
 ·obtain⟨vs,h1,h2,h3⟩:=hC.boxes.box r _ _ hat hr
  refine⟨vs,h1,h2,?_⟩;obtain⟨u,hu,hv⟩:=h3.get c hc;subst hv
  have key:∀(G1:aJ)(cs:J (TV E))(vs:J Value)(c:Nat)(d:TV E),bC E w G1 cs vs->vs[c]? = some (.slice none 0 0) ->
    VT E w G1 d (.slice none 0 0)->bC E w G1 (cs.set c d) vs:=by
   intro G1 cs
   induction cs with
   | nil=>simp_all
   | cons x cs ih=>
    intro vs c d h1 h2 h3;obtain⟨u,us,rfl,q1,q2⟩:=h1.cons_inv
    cases c with
    | zero=>simp at h2;subst h2;exact .cons h3 q2
    | succ c=>exact .cons q1 (ih us c d q2 (by simpa using h2) h3)
  refine key _ cs vs.toList c _ h3 hu ?_;simp [VT]
  grind
end
end Go.RT
namespace Go.RT
variable {E : TEnv}
structure Fr(W:List Nat)(nd:Bool)(st st':TS E):Prop where
 len:st'.t.length=st.t.length
 keep:∀i,i∉W->st'.t[i]? = st.t[i]?
 d:∃D,st'.d=D++st.d/\∀r,r<st.H.length->r∉D->st'.H[r]? = st.H[r]?
 hl:st.H.length<=st'.H.length
 df:nd=true->st'.df=st.df
theorem Fr.refl(W:J Nat)(nd:Bool)(st:TS E):Fr W nd st st:=⟨rfl,fun _ _=>rfl,⟨[],rfl,fun _ _ _=>rfl⟩,ef _,fun _=>rfl⟩
theorem Fr.trans{W1 W2 W:J Nat}{n1 n2 n:Bool}{s1 s2 s3:TS E}(h1:Fr W1 n1 s1 s2)(h2:Fr W2 n2 s2 s3)(hw1:∀i,i∈W1->i∈W)(zo:∀i,i∈W2->i∈W)(hn:n=true->n1=true/\n2=true):Fr W n s1 s3:=by
 obtain⟨D1,d1,e1⟩:=h1.d;obtain⟨D2,d2,e2⟩:=h2.d;refine⟨h2.len.trans h1.len,fun i hi=>(h2.keep i (fun h=>hi (zo i h))).trans (h1.keep i (fun h=>hi (hw1 i h))),⟨D2++D1,by simp_all,fun r hr hd=>?_⟩,nG h1.hl h2.hl,fun h=>(h2.df (hn h).2).trans (h1.df (hn h).1)⟩
 grind
theorem Fr.wide{W W':J Nat}{n n':Bool}{s s':TS E}(h:Fr W n s s')(hw:∀i,i∈W->i∈W')(hn:n'=true->n=true):Fr W' n' s s':=
 ⟨h.len,fun i hi=>h.keep i (fun hm=>hi (hw i hm)),h.d,h.hl,fun h'=>h.df (hn h')⟩
def ia:O Nat->J Nat
 | some i=>[i]
 | none=>[]
theorem KA(l:J (TV E))(dst:O Nat)(d:TV E):(b8 l dst d).length=l.length:=by cases dst<;>simp [b8]
theorem Hz(l:J (TV E))(dst:O Nat)(d:TV E)(i:Nat)(h:i∉ia dst):(b8 l dst d)[i]? = l[i]?:=by
 cases dst with
 | none=>rfl
 | some j=>
  grind [ia,List.mem_singleton,b8,List.getElem?_set_ne]
theorem Fr.put(st:TS E)(dst:O Nat)(d:TV E):Fr (ia dst) true st {st with t:=b8 st.t dst d}:=
 ⟨KA _ _ _,fun i hi=>Hz _ _ _ _ hi,⟨[],rfl,fun _ _ _=>rfl⟩,ef _,fun _=>rfl⟩
theorem Fr.aij(st:TS E)(dst:O Nat)(d:TV E)(H:J (eW E))(g:J bO)(D:J Nat)(c:J (Nat×Cn E))(hH:∀r,r<st.H.length->r∉D->H[r]? = st.H[r]?)(hl:st.H.length<=H.length):
  Fr (ia dst) true st {st with t:=b8 st.t dst d,H:=H,g:=g,d:=D++st.d,c:=c}:=
 ⟨KA _ _ _,fun i hi=>Hz _ _ _ _ hi,⟨D,rfl,hH⟩,hl,fun _=>rfl⟩
theorem Fr.mem(st:TS E)(dst:O Nat)(d:TV E)(H:J (eW E))(g:J bO)(D:J Nat)(hH:∀r,r<st.H.length->r∉D->H[r]? = st.H[r]?)(hl:st.H.length<=H.length):
  Fr (ia dst) true st {st with t:=b8 st.t dst d,H:=H,g:=g,d:=D++st.d}:=
 ⟨KA _ _ _,fun i hi=>Hz _ _ _ _ hi,⟨D,rfl,hH⟩,hl,fun _=>rfl⟩
theorem KB{α:Type}(l m:J α):∀r,r<l.length->r∉([]:J Nat)->(l++m)[r]? = l[r]?:=fun r hr _=>by grind
theorem BH{α:Type}(l:J α)(q:Nat)(x:α):∀r,r<l.length->r∉[q]->(l.set q x)[r]? = l[r]?:=fun r _ hd=>by
 grind
theorem aik{P:aD}{ty:aC->O Ty}{st st':TS E}{dst:O Nat}{op:Op}{c:Bool}(h:Sm P ty st dst op=some (c,st')):Fr (ia dst) true st st':=by
 cases op<;>simp [Sm] at h<;>try trivial
 case alloc t=>split at h<;>cases h;exact Fr.mem st dst _ _ st.g [] (KB _ _) si
 case box t x=>split at h<;>cases h;exact Fr.mem st dst _ _ st.g [] (KB _ _) si
 case store t x y=>
  split at h<;>try trivial
  split at h<;>cases h;exact Fr.mem st dst _ _ st.g [_] (BH _ _ _) si
 case buildSlice t len parts=>
  split at h<;>try trivial
  split at h<;>try trivial
  split at h<;>try trivial
  cases hl:Nat.beq len 0<;>rw [hl] at h<;>simp only [bw,aU] at h
  ·cases h
   exact Fr.mem st dst _ st.H _ [] (fun _ _ _=>rfl) (ef _)
  ·generalize E.zc _=z at h
   cases z<;>simp only [bw,aU] at h<;>cases h
   ·exact Fr.mem st dst _ st.H st.g [] (fun _ _ _=>rfl) (ef _)
   ·exact Fr.mem st dst _ st.H _ [] (fun _ _ _=>rfl) (ef _)
 case call c'=>
  unfold aeb at h;split at h<;>try trivial
  ·split at h<;>try trivial
   split at h<;>try trivial
   split at h<;>try trivial
   split at h<;>try trivial
   ·split at h<;>try trivial
    split at h<;>cases h;exact Fr.mem st dst _ st.H _ [] (fun _ _ _=>rfl) (ef _)
   ·cases h
    exact Fr.mem st dst _ st.H _ [] (fun _ _ _=>rfl) (ef _)
  ·split at h<;>try trivial
   split at h<;>cases h;exact Fr.mem st dst _ st.H _ [] (fun _ _ _=>rfl) (ef _)
 case convert src dt x=>
  grind [Fr.put]
 case makeMap t res=>
  cases res with
  | some x=>simp at h
  | none=>
   simp only at h;split at h<;>try trivial
   split at h<;>cases h;exact Fr.mem st dst _ _ st.g [] (KB _ _) si
 case mapUpdate t x y z=>
  split at h<;>try trivial
  split at h<;>try trivial
  split at h<;>cases h;exact Fr.mem st dst _ _ st.g [_] (BH _ _ _) si
 grind [Fr.put]
theorem Fr.c(st:TS E)(dst:O Nat)(d:TV E)(g:J bO)(c:J (Nat×Cn E)):Fr (ia dst) true st {st with t:=b8 st.t dst d,g:=g,c:=c}:=
 Fr.aij st dst d st.H g [] c (fun _ _ _=>rfl) (ef _)
theorem akL{P:aD}{ty:aC->O Ty}{st st':TS E}{dst:O Nat}{op:Op}{c:Bool}(h:BE P ty st dst op=some (c,st')):Fr (ia dst) true st st':=by
 cases op<;>try trivial
 case load t x=>
  grind [BE,Fr.put]
 case store t x y=>
  simp [BE] at h;split at h<;>try trivial
  grind [Fr.c]
 case makeSlice t x y=>
  grind [BE,Fr.c]
 case slice t x lo hi mx=>
  cases lo with
  | some _=>cases h
  | none=>
  cases hi with
  | none=>cases h
  | some hi=>
  cases mx with
  | some _=>cases h
  | none=>
  grind [BE,Fr.c]
 case call cl=>
  simp [BE] at h;unfold aeg at h;split at h<;>try trivial
  ·split at h<;>try trivial
   grind [Fr.c]
theorem akM{P:aD}{ty:aC->O Ty}{st st':TS E}{dst:O Nat}{op:Op}{c:Bool}(h:Y8 P ty st dst op=some (c,st')):Fr (ia dst) true st st':=by
 cases op<;>simp [Y8] at h<;>try trivial
 case alloc t=>
  grind [Fr.c]
 case box t x=>
  grind [Fr.c]
 case load t x=>
  grind [Fr.put]
theorem akN{P:aD}{ty:aC->O Ty}{st st':TS E}{dst:O Nat}{op:Op}{c:Bool}(h:Y6 P ty st dst op=some (c,st')):Fr (ia dst) true st st':=by
 cases op<;>simp [Y6] at h<;>try trivial
 cases hb:aed ty dst<;>rw [hb] at h<;>simp only [bw,aU] at h
 ·cases h
 split at h<;>try trivial
 split at h<;>try trivial
 split at h<;>try trivial
 cases h;exact Fr.aij st dst _ st.H _ [] _ (fun _ _ _=>rfl) (ef _)
theorem akO{P:aD}{ty:aC->O Ty}{st st':TS E}{dst:O Nat}{op:Op}{c:Bool}(h:Y9 P ty st dst op=some (c,st')):Fr (ia dst) true st st':=by
 unfold Y9 at h;split at h
 ·grind [akN]
 split at h
 rotate_left
 ·cases op<;>simp [aeo] at h<;>try trivial
  split at h<;>try trivial
  split at h<;>cases h;exact Fr.mem st dst _ _ st.g [_] (BH _ _ _) si
 grind [aek,akM,XN,aik,akL]
theorem Fr.ofC{W:J Nat}{n:Bool}{s s1 s':TS E}(hc:ov s s1)(h:Fr W n s1 s'):Fr W n s s':=by
 obtain⟨c,rfl⟩:=hc;exact⟨h.len,h.keep,h.d,h.hl,h.df⟩
structure Sl where
 b:List (Option Nat)
 g:List (Option Nat)
def Sl.UO(s:Sl)(r r':Nat):Sl:={s with b:=s.b.set r (some r')}
def Sl.ail(s:Sl)(r r':Nat):Sl:={s with g:=s.g.set r (some r')}
def Zr(s:Sl):J (Nat×Nat)->J (TV E)->Sl
 | (r,_)::cs,.ptr r' _::ds=>Zr (s.UO r r') cs ds
 | _::cs,_::ds=>Zr s cs ds
 | _,_=>s
def CT.un(s:Sl):CT->TV E->Sl
 | .ptr r _,.ptr r' _=>s.UO r r'
 | .o5 r _,.ptr r' _=>s.UO r r'
 | .o5 r _,.o5 _ r' _=>s.UO r r'
 | .iY r,.iY r'=>s.UO r r'
 | .tv r,.tv r'=>s.UO r r'
 | .cg j _,.cg j' _ _ _=>s.ail j j'
 | .dW j,.dW j' _=>s.ail j j'
 | .gX j _,.gX j' _ _ _ _=>s.ail j j'
 | .func _ caps,.func _ cs=>Zr s caps cs
 | _,_=>s
def CT.unL(s:Sl):J CT->J (TV E)->Sl
 | c::cs,ds=>match c.pk? with
  | some t=>CT.unL s cs (ds.drop (t.size E))
  | none=>match ds with
   | d::ds=>CT.unL (c.un s d) cs ds
   | []=>s
 | _,_=>s
def PT.un(s:Sl):PT->TV E->Sl
 | .one c,d=>c.un s d
 | .agg cs,.agg ds=>CT.unL s cs ds
 | .dh cs,.tuple ds=>CT.unL s cs ds
 | _,_=>s
def ajX(s:Sl):J PT->J (TV E)->Sl
 | p::ps,d::ds=>ajX (p.un s d) ps ds
 | _,_=>s
def ajY(H:J (eW E)):Nat->J BT->Sl->Sl
 | _,[],s=>s
 | r,t::ts,s=>ajY H (r+1) ts (match t,(s.b[r]?.getD none).bind (H[·]?) with
  | .cells _ cs,some (.cells _ ds)=>CT.unL s cs ds
  | .loop _ cs,some (.loop _ ds)=>CT.unL s cs ds
  | _,_=>s)
def qb:J (O Nat)->J Nat
 | []=>[]
 | some x::xs=>x::qb xs
 | none::xs=>qb xs
def cN.dM(s:cN)(st:TS E)(ds:J (TV E)):Sl:=
 ajY st.H 0 s.boxes (ajX ⟨s.boxes.map fun _=>none,s.rows.map fun _=>none⟩ s.args ds)
def sm{α β γ:Type}(f:α->γ)(g:β->γ):α ⊕ β->γ
 | .inl x=>f x
 | .inr y=>g y
def okK{R:Type}(o:Outs)(bs gs:J Nat)(st:TS E)(dst:O Nat)(k:Ex E->TS E->O R)(y:dens E o.tys):O R:=
 k .normal {o.after bs gs st (aP o.tys y) with t:=b8 st.t dst (o.val bs gs st (aP o.tys y))}
def aps{R:Type}(o:Outs)(bs gs:J Nat)(st:TS E)(k:Ex E->TS E->O R)(y:dens E o.tys):O R:=
 k (.panic (o.val bs gs st (aP o.tys y))) (o.after bs gs st (aP o.tys y))
def Zs{R:Type}(s:cN)(bs gs:J Nat)(st:TS E)(dst:O Nat)(k:Ex E->TS E->O R):(p:O Outs)->OutP E s.out p->O R
 | none=>okK s.out bs gs st dst k
 | some q=>sm (okK s.out bs gs st dst k) (aps q bs gs st k)
def Outs.wf(o:Outs)(nb ng:Nat):Bool:=yB nb o.boxes&&Nat.ble ng o.rows.length
def cN.wf(s:cN)(nb ng:Nat):Bool:=s.out.wf nb ng&&(match s.kX with|none=>true|some q=>q.wf nb ng)
def qo{R:Type}(st:TS E)(dst:Option Nat)(f:FuncId)(ds:J (TV E))(k:Ex E->TS E->Option R):J (bB E)->Option R
 | []=>none
 | C::Γ=>cond (Nat.beq C.s.f f)
   (match xo C.s.args ds st with
    | (ds',st')=>match C.s.enter (qb (C.s.dM st' ds').b) (qb (C.s.dM st' ds').g) st' ds' with
     | some ls=>match getAll C.s.tys ls with
      | some x=>rq (C.s.wf (qb (C.s.dM st' ds').b).length (qb (C.s.dM st' ds').g).length) ((C.m x).bind (Zs C.s (qb (C.s.dM st' ds').b) (qb (C.s.dM st' ds').g) st' dst k C.s.kX))
      | none=>qo st dst f ds k Γ
     | none=>qo st dst f ds k Γ)
   (qo st dst f ds k Γ)
def BI(P:aD)(o:Oper)(W:J Nat)(nd:Bool)(st:TS E)(Q:Ex E->TS E->Prop):Prop:=
 ∀w0 G0 a w G,Rel E w0 G0 st a w G->o.wp P a w (fun a' w'=>∃st' G',Rel E w0 G0 st' a' w' G'/\Q .normal st'/\Fr W nd st st') (cu E w0 G0 fun x st'=>x≠.normal/\Q x st'/\Fr W nd st st')
section
variable {P : aD} {st : TS E} {o : Oper} {Q : Ex E -> TS E -> Prop}
theorem BI.Fh{W:J Nat}{nd:Bool}{st':TS E}(h:∀w0 G0 a w G,Rel E w0 G0 st a w G->jA P w0 G0 a w o st')(hQ:Q .normal st')(hF:Fr W nd st st'):BI P o W nd st Q:=by
 intro w0 G0 a w G hr;obtain⟨nx,v,w',G',hrun,hnx,hr'⟩:=h w0 G0 a w G hr;unfold Oper.wp;rw [hrun];rcases hnx with rfl|⟨rfl,rfl⟩
 ·exact⟨st',G',hr',hQ,hF⟩
 ·exact⟨st',G',hr',hQ,hF⟩
theorem aev{a:Act}{w:U}{next:Act->U->Prop}{QQ:Exit->Act->U->Prop}{f:FuncId}{args:aI Value}{R:Ending->U->Prop}(hrun:(execOp a.eval o).run P w=(callFunc f args).run P w)(h:jR P f args w R)
  (h1:∀v w',R (.returned v) w'->next (a.put o.dst v) w') (h2:∀ch w',R (.panicked ch) w'->QQ (.panic ch) a w') (h3:∀w',¬ R .outgrown w'):o.wp P a w next QQ:=by
 unfold Oper.wp;rw [hrun];unfold jR at h;split at h
 ·rename_i f' args' w' hr
  rw [hr];refine Fu h fun e w'' he=>?_
  grind
 ·rename_i v w' hr
  rw [hr];exact h1 v w' h
 ·exact h.elim
theorem Na{w0 w:U}{G0 G:aJ}{a:Act}(hr:Rel E w0 G0 st a w G):∀l:J bx,bC E w G (l.map st.ev) (l.map a.eval)
 | []=>.nil
 | x::l=>.cons (hr.ev x) (Na hr l)
theorem Outs.QI(ot:Outs)(bs gs:J Nat)(st:TS E)(ls:J (Lf E))(dst:O Nat)(d:TV E):Fr (ia dst) true st {ot.after bs gs st ls with t:=b8 st.t dst d}:=
 Fr.aij st dst d _ _ _ _ (fun r hr hd=>by
  show (jH (o8 ot.boxes bs (ot.hc bs gs st ls)) st.H++(ot.hc bs gs st ls).drop bs.length)[r]? = _
  grind [List.getElem?_append_left,gy,sR]) (by
  show _<=(jH (o8 ot.boxes bs (ot.hc bs gs st ls)) st.H++(ot.hc bs gs st ls).drop bs.length).length;simp [gy])
theorem oX.eO{w0 w:U}{G0 G:aJ}(h:oX E w0 G0)(hE:kz w0 G0 w G):oX E w G:=by
 intro b ob hb;obtain⟨⟨cs,t,m,h1,hp⟩,h2⟩:=h b ob hb;have hlt:=(yY.1 h1).1;refine⟨⟨cs,t,m,(hE.old b hlt h2).trans h1,hp⟩,fun hf=>h2 ?_⟩;rcases hf with hf|⟨x,hd,hm,hbk⟩
 ·obtain⟨q,hq,he⟩:=lB hf
  have Su:G.i[q]? = some b:=by simp_all
  by_cases su:q<G0.i.length
  ·have e1:=hE.goes.i q _ (fq su)
   exact .inl (by simp_all)
  ·have:=hE.pX q b om Su;omega
 ·obtain⟨j,hj,he⟩:=lB hm
  rcases hE.gA j x hd b (by simp_all) hbk with q|⟨x0,h0,q1,q2⟩
  ·omega
  ·exact .inr ⟨x0,h0,iX q1,q2⟩
theorem Rel.Sw{w0 w:U}{G0 G:aJ}{a:Act}(h:Rel E w0 G0 st a w G):oX E w G:=h.pins.eO h.eO
theorem Zt{α:Type}{l r:J α}{is:J Nat}(h:pick l is=some r){x:α}(hx:x∈r):x∈l:=by
 obtain⟨j,hj,he⟩:=lB hx;obtain⟨hl,hg⟩:=qF h;have hj':j<is.length:=om;obtain⟨y,h1,h2⟩:=hg j is[j] (fq hj')
 grind
theorem oX.dM{w:U}{G:aJ}{bs gs is:J Nat}{gg:J (bO×Value)}(h:oX E w G)(hi:pick G.i bs=some is)(hg:pick G.g gs=some gg):oX E w (G.dM is gg):=fun b ob hb=>by
 obtain⟨h1,h2⟩:=h b ob hb;refine⟨h1,fun hf=>h2 ?_⟩;rcases hf with hf|⟨x,hd,hm,hbk⟩
 ·exact .inl (Zt hi hf)
 ·obtain⟨y,hy,e⟩:=yp.1 hm
  cases e;exact .inr ⟨y.1,y.2,Zt hg hy,hbk⟩
theorem Nb(hE:E.Ok){R:Type}{f:FuncId}{ds:J (TV E)}
  (Sy:∀w0 G0 a w G,Rel E w0 G0 st a w G->∃vs:Array Value,bC E w G ds vs.toList/\(execOp a.eval o).run P w=(callFunc f vs).run P w) {k:Ex E->TS E->Option R} {r:R} :
  ∀ {Γ:J (bB E)},(∀C∈Γ,C.Ok P)->qo st o.dst f ds k Γ=some r->BI P o (ia o.dst) true st (fun x st'=>k x st'=some r)
 | [],_,h=>by cases h
 | C::Γ,hΓ,h=>by
  have eX:qo st o.dst f ds k Γ=some r->BI P o (ia o.dst) true st (fun x st'=>k x st'=some r):=Nb hE Sy (fun C' hC=>hΓ C' (by simp [hC]));simp [qo] at h;cases hf:Nat.beq C.s.f f<;>rw [hf] at h<;>simp at h
  ·exact eX h
  have hf:=ey hf;obtain⟨Pp,jk,hhs⟩:∃Pp jk,xo C.s.args ds st=(Pp,jk):=⟨_,_,rfl⟩;rw [hhs] at h;split at h
  ·rename_i ls hls
   split at h
   ·rename_i xx hxx
    generalize AL:qb (C.s.dM jk Pp).b=bs at *;generalize Zf:qb (C.s.dM jk Pp).g=gs at *;obtain⟨hwf,h⟩:=dG h
    cases hm:C.m xx with
    | none=>rw [hm] at h;cases h
    | some y=>
     intro w0 G0 a w G0' hr;obtain⟨vs0,Nc,Sz⟩:=Sy w0 G0 a w G0' hr;obtain⟨ON,G,eL,zK,hvs⟩:=M9 C.s.args ds hr;have hargs:=hvs _ Nc;rw [hhs] at eL hargs ON;have hr:=eL
     have hnd:bs.Nodup/\gs.Nodup/\bs.length=C.s.boxes.length/\C.s.rows.length=gs.length:=by
      unfold cN.enter at hls;split at hls<;>try trivial
      rename_i H g hH hg;cases o6:(uU bs&&(uU gs&&(Nat.beq bs.length C.s.boxes.length&&yA C.s.rows g)))<;>rw [o6] at hls<;>simp only [bw] at hls
      ·cases hls
      simp only [cx] at o6;exact⟨uV o6.1,uV o6.2.1,ey o6.2.2.1,by rw [(Ce o6.2.2.2).1,(qF hg).1]⟩
     obtain⟨is,gg,hi,zH,hB,hS,hV⟩:=hr.enter hE hls hargs;have hput:=CG _ hxx;have hok:=hΓ C si xx y hm w (G.dM is gg) vs0 (hr.Sw.dM hi zH) (by rw [hput];exact hB) (by rw [hput];exact hS) (by rw [hput];exact hV);have hrun:=Sz;have hg0:=hB.gs
     have hwf':∀(q:Outs),q.wf bs.length gs.length=true->yB bs.length q.boxes=true/\gs.length<=q.rows.length:=fun q hq=>by
      simp_all [Outs.wf,cx,lz]
     unfold cN.wf at hwf;rw [cx] at hwf
     have Nf:∀(y:dens E C.s.out.tys)(v:Value)(w':World),okK C.s.out bs gs jk o.dst k y=some r ->
       (∃v1 G',Ending.returned v=Cd (C.s.out.lZ true (C.s.H (aP C.s.tys xx)) C.s.g0 (aP C.s.out.tys y)).ok v1/\kz w (G.dM is gg) w' G'/\ld E w' G' (C.s.out.lZ true (C.s.H (aP C.s.tys xx)) C.s.g0 (aP C.s.out.tys y)).H (C.s.out.lZ true (C.s.H (aP C.s.tys xx)) C.s.g0 (aP C.s.out.tys y)).g/\kf E w' G' (C.s.out.lZ true (C.s.H (aP C.s.tys xx)) C.s.g0 (aP C.s.out.tys y)).c /\
        VT E w' G' (C.s.out.lZ true (C.s.H (aP C.s.tys xx)) C.s.g0 (aP C.s.out.tys y)).d v1/\∀(q b:Nat),(G.dM is gg).i[q]? = some b->q∉(C.s.out.lZ true (C.s.H (aP C.s.tys xx)) C.s.g0 (aP C.s.out.tys y)).D->w'.heap[b]? = w.heap[b]?) ->
       ∃st' G',Rel E w0 G0 st' (a.put o.dst v) w' G'/\k .normal st'=some r/\Fr (ia o.dst) true st st':=by
      rintro y v w' hk ⟨v1,G',he,hE,SB,SC,SD,Ky⟩;simp [Outs.lZ,Cd] at he;subst he;obtain⟨hs1,hs2⟩:=hwf' _ hwf.1;rw [<-hg0] at SB SC SD;obtain⟨Gn,hR,hval⟩:=hr.leave hi zH hnd.1 hnd.2.1 C.s.out hs1 hs2 hE SB SC SD Ky;exact⟨_,Gn,hR.put hval o.dst,hk,(C.s.out.QI bs gs jk _ o.dst _).ofC ON⟩
     have fin:∀(p:Option Outs)(hp:C.s.kX=p)(y:OutP E C.s.out p),Zs C.s bs gs jk o.dst k p y=some r->jR P f vs0 w (fun e w'=>
       ∃v G',e=Cd (jS C.s (C.s.H (aP C.s.tys xx)) p y).ok v/\kz w (G.dM is gg) w' G'/\ld E w' G' (jS C.s (C.s.H (aP C.s.tys xx)) p y).H (jS C.s (C.s.H (aP C.s.tys xx)) p y).g/\kf E w' G' (jS C.s (C.s.H (aP C.s.tys xx)) p y).c /\
        VT E w' G' (jS C.s (C.s.H (aP C.s.tys xx)) p y).d v/\∀(q b:Nat),(G.dM is gg).i[q]? = some b->q∉(jS C.s (C.s.H (aP C.s.tys xx)) p y).D->w'.heap[b]? = w.heap[b]?) ->
       o.wp P a w (fun a' w'=>∃st' G',Rel E w0 G0 st' a' w' G'/\k .normal st'=some r/\Fr (ia o.dst) true st st') (cu E w0 G0 fun x st'=>x≠.normal/\k x st'=some r/\Fr (ia o.dst) true st st'):=by
      intro p hp y hk hI;refine aev hrun hI (fun v w' hR=>?_) (fun ch w' hR=>?_) (fun w' hR=>?_)
      ·cases p with
       | none=>exact Nf y v w' hk hR
       | some q=>
        cases y with
        | inl y=>exact Nf y v w' hk hR
        | inr y=>
         obtain⟨v1,G',he,-⟩:=hR;cases he
      ·cases p with
       | none=>
        obtain⟨v1,G',he,-⟩:=hR
        cases he
       | some q=>
        cases y with
        | inl y=>
         obtain⟨v1,G',he,-⟩:=hR
         cases he
        | inr y=>
         obtain⟨v1,G',he,hE,SB,SC,SD,Ky⟩:=hR;simp [jS,Outs.lZ,Cd] at he;subst he;have hq:q.wf bs.length gs.length=true:=by grind
         obtain⟨hs1,hs2⟩:=hwf' _ hq;simp [jS] at SB SC SD Ky;rw [<-hg0] at SB SC SD;obtain⟨Gn,hR,hval⟩:=hr.leave hi zH hnd.1 hnd.2.1 q hs1 hs2 hE SB SC SD Ky;exact⟨.panic (q.val bs gs jk (aP q.tys y)),_,Gn,⟨v1,rfl,hval⟩,hR,(fun h=>nomatch h),hk,((q.QI bs gs jk _ none .any).wide (fun i hi=>by cases hi) (fun h=>h)).ofC ON⟩
      grind [Cd,jS,aP]
     grind
   ·exact eX h
  ·exact eX h
theorem abx(hE:E.Ok){R:Type}{c:Call}{x:bx}{f:FuncId}{caps:J (TV E)}(ho:o.op=.call c)(hc:c.callee=.value x)(hx:st.ev x=.func (.func f) caps){k:Ex E->TS E->O R}{r:R}
  {Γ:J (bB E)} (hΓ:∀C∈Γ,C.Ok P) (h:qo st o.dst f (c.args.toList.map st.ev++caps) k Γ=some r):BI P o (ia o.dst) true st (fun x st'=>k x st'=some r):=by
 refine Nb hE (fun w0 G0 a w G hr=>?_) hΓ h;have hv:=hr.ev x;rw [hx] at hv;obtain⟨cv,FL,OO⟩:=hv;refine⟨c.args.map a.eval++cv,?_,?_⟩
 ·have:=(Na hr c.args.toList).append OO
  simpa using this
 ·simp only [execOp,ho,resolve,hc,FL,Deferred.ofValue,invoke]
  simp
theorem aby(hE:E.Ok){R:Type}{c:Call}{x:bx}{f:FuncId}{fs:J (TV E)}(ho:o.op=.call c)(hc:c.callee=.value x)(hx:st.ev x=.FH (.func f) fs){k:Ex E->TS E->O R}{r:R}
  {Γ:J (bB E)} (hΓ:∀C∈Γ,C.Ok P) (h:qo st o.dst f (fs++c.args.toList.map st.ev) k Γ=some r):BI P o (ia o.dst) true st (fun x st'=>k x st'=some r):=by
 refine Nb hE (fun w0 G0 a w G hr=>?_) hΓ h;have hv:=hr.ev x;rw [hx] at hv;obtain⟨cv,FL,OO⟩:=hv;refine⟨cv++c.args.map a.eval,?_,?_⟩
 ·have:=OO.append (Na hr c.args.toList)
  simpa using this
 ·simp only [execOp,ho,resolve,hc,FL,Deferred.ofValue,invoke]
  simp
end
end Go.RT
