import Derived.Test.YtkmlndnhiboofaaGreatDoorRd
open Option renaming some->W0,none->WP
open Bool renaming true->WF,false->UV
open Decidable renaming decide->T1
open Int renaming toNat->Ts
open Nat renaming beq->ST,blt->So
open List renaming range->R0,replicate->RK
set_option linter.all false
namespace Go.RT
variable {E : TEnv}
variable{P:bh}{w0 w w':U}{G0 G G':bx}{st:TS E}{a:Act}{o:Oper}{t:aK}{x:dB}{i:TI}{j k off:Nat}{g:cL}{c:Cn E}{d:TV E}{T:Ty}{cs:J (TV E)}{y:dB}{z:Value}{e:aK}{j1 j2:Nat}{ie:TI}{xs:J (T.den E.D)}{ty:aK->O Ty}{st':TS E}{v:Value}{ys:J (c.1.den E.D)}{cc:Bool}
theorem IA(hE:E.Ok)(hr:Rel E w0 G0 st a w G)(ho:o.op=.load t x)(ht:aV P t=W0 i){ix:Nat}(hd:st.ev x=.iC j g.aF k ix off)
  (hg:st.g[j]? = W0 g) (hc:oQ st.c j=W0 c) (hk:k=c.1.size E)  (hp:TV.part c.1 (c.2.getD ix (c.1.dflt E)) i.isAgg i.size off=W0 d):jB P a w G o d:=by
 have hv:=hr.ev x;rw[hd]at hv;obtain⟨b,m,cap,hj,hlt,lS⟩:=hr.iC hg hv;obtain⟨h,hj',hs,-⟩:=hr.soft hg hc;rw[hj]at hj';cases hj';rcases hs.block with⟨h1,-⟩|⟨b',cap',cur,h1,hheap,hcap,hcm,hcs,hf,hnp⟩
 ·cases h1
 obtain⟨rfl,rfl,rfl⟩:=h1;obtain⟨vs,h2,h3,-,h4⟩:=XM hs.1 hheap hf (by simp_all[zP]) hlt;obtain⟨v,hv,hrun⟩:=sZ ht h4 (Ll hE h2 hp);refine fU (f:=λρ=>Instr.loadAt t (ρ x)) (by simp[execOp,ho]) ⟨v,hv,λw' hs'=>?_⟩;rw[lS,hk,<-hs.1];exact hrun w' (hs' (by rw[ho];rfl))
theorem aaJ(A us C vals:J Value)(off:Nat)(h:off+vals.length<=us.length):
  ((A++us++C).take (A.length+off)++vals++(A++us++C).drop (A.length+off+vals.length))=A++(us.take off++vals++us.drop (off+vals.length))++C:=by
 have e1:(A++us++C).take (A.length+off)=A++us.take off:=by
  rw[vM,aeA,vN om,show A.length+off-A.length=off by omega,aeA,show off-us.length=0 by omega];simp
 have e2:(A++us++C).drop (A.length+off+vals.length)=us.drop (off+vals.length)++C:=by
  rw[vM,aeB,Y8 om,show A.length+off+vals.length-A.length=off+vals.length by omega,aeB,show off+vals.length-us.length=0 by omega];simp
 simp_all
theorem ac4(hE:E.Ok){x:T.den E.D}{us:J Value}(h:LD w G.pr us (T.cells E x))(hc:(TV.dat T x).o8=W0 cs):bI E w G cs us:=by
 simp[TV.o8]at hc;cases ha:T.isAgg<;>rw[ha]at hc<;>simp at hc
 ·cases hc
  have hl:us.length=1:=by
   rw[h.length];cases T<;>first|rfl|cases ha
  obtain⟨u,rfl⟩:=Y9.1 hl;exact .cons (.Qg ha h) .nil
 grind[yY]
theorem ac5(hE:E.Ok)(hr:Rel E w0 G0 st a w G)(ho:o.op=.store t x y)(ht:aV P t=W0 i){ix:Nat}(hd:st.ev x=.iC j g.aF k ix off)
  (hg:st.g[j]? = W0 g) (hc:oQ st.c j=W0 c) (hk:k=c.1.size E) {ds:J (TV E)} (hcs:(TV.dat c.1 (c.2.getD ix (c.1.dflt E))).o8=W0 cs) (hy:(st.ev y).o8=W0 ds) (h4:ds.length=i.size) (h5:off+i.size<=cs.length)
  {x':c.1.den E.D} (asf:N6 E 4 c.1 (cs.take off++ds++cs.drop (off+ds.length))=W0 (x',[])) :
  jT P w0 G0 a w o {st with t:=cz st.t o.dst .any,c:=(j,⟨c.1,c.2.set ix x'⟩)::nK j st.c}:=by
 have hv:=hr.ev x;rw[hd]at hv;obtain⟨b,m,cap,hj,hlt,lS⟩:=hr.iC hg hv;obtain⟨h,hj',hs,-⟩:=hr.soft hg hc;rw[hj]at hj';cases hj';rcases hs.block with⟨h1,-⟩|⟨b',cap',cur,h1,hheap,hcap,hcm,aj8,hf,hnp⟩
 ·cases h1
 obtain⟨rfl,rfl,rfl⟩:=h1;have hle:c.2.length*g.k<=cur.size:=by simp_all[zP]
 obtain⟨us,h2,h3,Rt,-⟩:=XM hs.1 hheap hf hle hlt;obtain⟨hl,hl1⟩:=sY hE (hr.ev y) hy;have hlen:(a.eval y).cells.toList.length=i.size:=by rw[hl.length,h4]
 have hlen':(a.eval y).cells.size=i.size:=by simpa using hlen
 have GR:=ac4 hE h2 hcs;have hcl:cs.length=g.k:=by rw[<-GR.length,h3]
 obtain⟨xt,jU,-,hxs,-⟩:=aP ht
 have hik:ix*g.k+g.k<=c.2.length*g.k:=by
  have:(ix+1)*g.k<=c.2.length*g.k:=zP _ hlt
  grind
 have hfit:(ix*g.k+off)+0+(a.eval y).cells.toList.length<=cur.size:=by rw[hlen];omega
 have T8:=run_storeCells_at (P:=P) b (ix*g.k+off) g.e (a.eval y).cells.toList 0 cur w hheap hfit (λv hv=>hl1 v (by simpa using hv))
 let new:=(cur.toList.take (ix*g.k+off)++(a.eval y).cells.toList++cur.toList.drop (ix*g.k+off+(a.eval y).cells.toList.length)).toArray
 have hrun:(execOp a.eval o).run P w=.ok .skip (w.setRow b new):=by
  simp[execOp,ho,Instr.storeAt,Instr.sureAddr,lS,hk,<-hs.1,storeVar,fu jU,hxs,hlen'];simp only[ne_eq,T8];rfl
 have ash:=((GR.take off).append hl).append (GR.drop (off+ds.length));obtain⟨us1,ts,e1,e2,e3⟩:=A9 hE 4 c.1 ash asf;subst e3;have hu1:us1.length=g.k:=by grind
 have atk:cur.toList=cur.toList.take (ix*g.k)++us++cur.toList.drop (ix*g.k+g.k):=by
  grind[List.take_append_drop,List.drop_drop,List.append_assoc]
 have aqK:new.toList=cur.toList.take (ix*g.k)++us1++cur.toList.drop (ix*g.k+us1.length):=by
  have:=aaJ (cur.toList.take (ix*g.k)) us (cur.toList.drop (ix*g.k+g.k)) (a.eval y).cells.toList off (by rw[h3];omega)
  grind
 have asi:new.size=cur.size:=by
  grind
 have hfl:Flat w G.pr g.k (new.toList.take ((c.2.set ix x').length*g.k)) ((c.2.set ix x').map (c.1.cells E)):=by
  have h9:=hf.splice (Flat.single e2 hu1) (p:=ix) bp;rw[List.length_set,aqK,ac1 _ _ om (by simpa using hle)]
  have h10:(c.2.set ix x').map (c.1.cells E)=(c.2.map (c.1.cells E)).take ix++[c.1.cells E x']++(c.2.map (c.1.cells E)).drop (ix+[c.1.cells E x'].length):=by
   rw[alP,if_pos (by simpa using hlt)];simp
  rw[h10];exact h9
 have hR:=hr.ahV hg hc hj hheap asi si hfl;exact⟨_,undef,_,G,hrun,.inr ⟨rfl,rfl⟩,hR.put (by simp[VT]) o.dst⟩
theorem Rel.Wl(h:Rel E w0 G0 st a w G)(hs:∃x hd,G.g[j]? = W0 (x,hd)/\sW E w G x hd c):Rel E w0 G0 {st with c:=(j,c)::st.c} a w G:=
 ⟨h.ff,h.size,h.tmps,h.defers,h.boxes,h.fix,h.pins,λi c' hm=>by
  rcases iy.1 hm with e|hm
  ·cases e;exact hs
  ·exact h.gv i c' hm⟩
theorem ahW{pr:Nat->Nat->Prop}(hk0:0<k){z:aJ Value}(hz:z.size=k){e:J DV}(h:LD w pr z.toList e){n m:Nat}(hn:n<=m):Flat w pr k ((madeCells z (m*k)).toList.take (n*k)) (RK n e):=by
 have hel:e.length=k:=by rw[<-h.length];simpa using hz
 have hnm:=zP k hn;refine⟨by simp_all[As,Za,size_madeCells,List.length_replicate,aeC],λj hj=>?_,λj l hj hl=>?_⟩
 ·simp_all
 ·simp at hj
  have hjl:=Oa hj hl
  have e1:((madeCells z (m*k)).toList.take (n*k)).getD (j*k+l) undef=z.toList.getD l undef:=by
   simp;rw[Zb,if_pos hjl];have h1:(j*k+l)%z.size=l:=by simp_all[Zc,Nat.mul_add_mod,Zd]
   have h2:j*k+l<m*k:=om;have h3:l<z.size:=om;simp[madeCells,h2,h1,h3]
  have e2:(RK n e).getD j []=e:=by simp[hj]
  rw[e1,e2]
  have:∀ {vs:J Value}{ds:J DV}(l:Nat),LD w pr vs ds->l<ds.length->VD w pr (vs.getD l undef) (ds.getD l default):=by
   intro vs
   induction vs with
   | nil=>intro ds l h hl;cases ds with|nil=>simp at hl|cons _ _=>exact h.elim
   | cons v vs ih=>
    intro ds l h hl
    cases ds with
    | nil=>exact h.elim
    | cons d ds=>
     cases l with
     | zero=>simpa using h.1
     | succ l=>simpa using ih l h.2 (by simpa using hl)
  exact this l h om
theorem afO(hE:E.Ok)(hr:Rel E w0 G0 st a w G){z0:Value}(ho:o.op=.makeSlice t x y)(ht:aV P t=W0 ⟨.slice e,j1,j2,z0⟩)(hi:aV P e=W0 ie){z:T.den E.D}{k1 k2:eH}{n m:Int}
  (hx:st.ev x=.dat (.int k1) n) (hy:st.ev y=.dat (.int k2) m) (hk:ie.size=T.size E) (hk0:0<ie.size) (hzs:ie.zero.cells.size=ie.size) (hz1:ie.zero.cells.toList.all (·.oneCell')=WF) (hz:(y5 E (W0 T) ie.zero).get T=W0 z)
  (h0:0<=n) (h1:n<=m) (h2:0<m) (h3:m<=9223372036854775807) (h4:(ie.bytes:Int)*m<=140737488355328) :
  jT P w0 G0 a w o {st with t:=cz st.t o.dst (.eA st.g.length 0),g:=st.g++[⟨0,e,ie.size⟩],c:=(st.g.length,⟨T,RK n.toNat z⟩)::st.c}:=by
 have Ah:=hr.ev x;rw[hx]at Ah;have Cc:=hr.ev y;rw[hy]at Cc;obtain⟨xt,jU,eB,-⟩:=aP ht;obtain⟨xe,qI,Bb,hsz,hby,hzz⟩:=aP hi;have hrun:=run_make w t e xe ie.zero eB qI hzz k1 k2 n m h0 h1 (by rw[hby];omega) h3;rw[hsz]at hrun;have hzv:VT E w G (.dat T z) ie.zero:=TV.uJ hz (Qk hE hz1);have XI:=hzv.Oe;have al5:maxLen=9223372036854775807:=rfl
 let cur:=madeCells ie.zero.cells (m.toNat*ie.size)
 have hcs:cur.size=m.toNat*ie.size:=size_madeCells _ _;have hG:=hr.grow (fh.alloc w (.cells cur e)) rfl rfl rfl G.pr (λ_ _ h=>h) (λ_ _ _ h=>h) (λb o hp=>jS (hr.boxes.gu b o hp).1 si);have hnp:∀o,¬ G.pr w.heap.size o:=λo hp=>absurd (hr.boxes.gu _ _ hp).1 (zQ _);have hheap:(w.alloc (.cells cur e)).heap[w.heap.size]? = W0 (.cells cur e):=heap_alloc_new w _
 have hown:(w.alloc (.cells cur e)).ownsRow 0 e ie.size (.slice (W0 ⟨w.heap.size,0,WP⟩) n.toNat m.toNat) n.toNat (cur.toList.take (n.toNat*ie.size)):=by
  refine⟨?_,.inr ⟨w.heap.size,m.toNat,cur,rfl,gj _,hheap,om,om,hcs,rfl⟩⟩
  grind[List.length_take,Array.length_toList,Nat.min_eq_left,Nat.mul_le_mul_right]
 have hA:=hG.CK ⟨0,e,ie.size⟩ (.slice (W0 ⟨w.heap.size,0,WP⟩) n.toNat m.toNat) ⟨n.toNat,_,hown,λa q h=>by simp at h;omega,λb hb=>by
   cases hb;exact⟨si,λhm=>absurd (hr.boxes.lt _ hm) (zQ _),λo _ hp=>hnp o hp⟩⟩ (λb hb=>by cases hb;exact hr.ff.size) (λj y z b hj hzb hb=>by
   cases hb;obtain⟨n',xs',-,-,hb'⟩:=hr.boxes.grow j y z hj
   simp_all)
 have hrl:=hr.qm;have lF:(G.g++[(⟨0,e,ie.size⟩,Value.slice (W0 ⟨w.heap.size,0,WP⟩) n.toNat m.toNat)])[st.g.length]? = W0 (⟨0,e,ie.size⟩,.slice (W0 ⟨w.heap.size,0,WP⟩) n.toNat m.toNat):=by rw[<-hrl];simp
 have hC:=hA.Wl (c:=⟨T,RK n.toNat z⟩) ⟨⟨0,e,ie.size⟩,_,lF,hk,hk0,⟨_,by simp;exact hown,by
   rw[List.map_replicate];exact ahW hk0 hzs (XI.mono (λ_ _ h=>h) (λb o v _ hv=>(fh.alloc w _).cell hv)) om⟩,λb hb o hp=>by cases hb;exact hnp o hp⟩
 refine⟨.value _,_,_,_,?_,.inl rfl,hC.put (v:=.slice (W0 ⟨w.heap.size,0,WP⟩) n.toNat m.toNat) ?_ o.dst⟩
 ·simp[execOp,ho,Ah.fT,Cc.fT,hrun]
  rfl
 ·exact⟨⟨0,e,ie.size⟩,_,lF,eu _,rfl,λ_=>rfl⟩
theorem ac6(hE:E.Ok)(hr:Rel E w0 G0 st a w G){len:Nat}{parts:aJ (Nat×dB)}(ho:o.op=.buildSlice t len parts)
  (ht:aV P t=W0 ⟨.slice e,j1,j2,z⟩) (hi:aV P e=W0 ie) (h1:parts.toList.map (·.1)=R0 len) (h2:len*ie.size<=16777216) (h3:0<ie.size) (h0':0<len\/E.zc e=WF)
    (hk:ie.size=T.size E) (hx:oA T (parts.toList.map λp=>st.ev p.2)=W0 xs) :
  jT P w0 G0 a w o {st with t:=cz st.t o.dst (.eA st.g.length 0),g:=st.g++[⟨0,e,ie.size⟩],c:=(st.g.length,⟨T,xs⟩)::st.c}:=by
 obtain⟨cs,hrun,hcs,Uc,hfl⟩:=Og hE hr ho ht hi h1 h2 h3 hk hx;have al5:maxLen=9223372036854775807:=rfl;have hG:=hr.grow (fh.alloc w (.cells cs e)) rfl rfl rfl G.pr (λ_ _ h=>h) (λ_ _ _ h=>h) (λb o hp=>jS (hr.boxes.gu b o hp).1 si);have hnp:∀o,¬ G.pr w.heap.size o:=λo hp=>absurd (hr.boxes.gu _ _ hp).1 (zQ _);have hheap:(w.alloc (.cells cs e)).heap[w.heap.size]? = W0 (.cells cs e):=heap_alloc_new w _
 have hown:(w.alloc (.cells cs e)).ownsRow 0 e ie.size (.slice (W0 ⟨w.heap.size,0,WP⟩) len len) len (cs.toList.take (len*ie.size)):=by
  refine⟨?_,.inr ⟨w.heap.size,len,cs,rfl,gj _,hheap,eu _,by have:len<=len*ie.size:=aeD _ h3;omega,hcs,rfl⟩⟩;rw[As,Za,hcs];exact Nat.min_self _
 have hA:=hG.CK ⟨0,e,ie.size⟩ (.slice (W0 ⟨w.heap.size,0,WP⟩) len len) ⟨len,_,hown,λa q h=>h0'.elim (λ_=>by simp at h;omega) id,λb hb=>by
   cases hb;exact⟨si,λhm=>absurd (hr.boxes.lt _ hm) (zQ _),λo _ hp=>hnp o hp⟩⟩ (λb hb=>by cases hb;exact hr.ff.size) (λj y z b hj hzb hb=>by
   cases hb;obtain⟨n',xs',-,-,hb'⟩:=hr.boxes.grow j y z hj;exact absurd (hb' _ hzb).1 (zQ _))
 have hrl:=hr.qm;have lF:(G.g++[((⟨0,e,ie.size⟩:cL),Value.slice (W0 ⟨w.heap.size,0,WP⟩) len len)])[st.g.length]? = W0 (⟨0,e,ie.size⟩,.slice (W0 ⟨w.heap.size,0,WP⟩) len len):=by rw[<-hrl];simp
 have hC:=hA.Wl (j:=st.g.length) (c:=⟨T,xs⟩) ⟨⟨0,e,ie.size⟩,_,lF,hk,h3,⟨_,by rw[Uc];exact hown,hfl.mono (λ_ _ h=>h) (λb o v _ hv=>(fh.alloc w _).cell hv)⟩,λb hb o hp=>by cases hb;exact hnp o hp⟩;refine⟨.value _,_,_,_,hrun,.inl rfl,hC.put (d:=.eA st.g.length 0) (v:=.slice (W0 ⟨w.heap.size,0,WP⟩) len len) ?_ o.dst⟩;simp only[VT];exact⟨⟨0,e,ie.size⟩,_,lF,eu _,rfl,λ_=>rfl⟩
def afP(ty:aK->O Ty):O Nat->Bool
 | some i=>match ty (2000000+i)with
  | some _=>WF
  | none=>UV
 | none=>UV
def aaK(P:bh)(ty:aK->Option Ty)(st:TS E)(dst:Option Nat):Op->Option (Bool×TS E)
 | .buildSlice t len parts=>cond (afP ty dst) (match aV P t with
  | some ⟨.slice e,_,_,_⟩=>match aV P e,ty e with
   | some ie,W0 T=>match oA T (parts.toList.map λp=>st.ev p.2)with
    | some xs=>W0 (cond (So 0 len) WF (E.zc e)&&(T1 (parts.toList.map (·.1)=R0 len)&&(Nat.ble (len*ie.size) 16777216&&(So 0 ie.size&&ST ie.size (T.size E)))),
       {st with t:=cz st.t dst (.eA st.g.length 0),g:=st.g++[⟨0,e,ie.size⟩],c:=(st.g.length,⟨T,xs⟩)::st.c})
    | none=>WP
   | _,_=>WP
  | _=>WP) WP
 | _=>WP
theorem afQ(hE:E.Ok)(hr:Rel E w0 G0 st a w G){c:Bool}(h:aaK P ty st o.dst o.op=W0 (c,st'))(hc:c=WF):jT P w0 G0 a w o st':=by
 cases ho:o.op<;>rw[ho]at h<;>try trivial
 case buildSlice t len parts=>
  simp only[aaK]at h;cases hb:afP ty o.dst<;>rw[hb]at h<;>simp only[aY,aM]at h
  ·cases h
  split at h<;>try trivial
  rename_i e j1 j2 z ht;split at h<;>try trivial
  rename_i ie T hi hT;split at h<;>try trivial
  rename_i xs hx;cases h;simp only[cH,eT]at hc
  exact ac6 hE hr ho ht hi hc.2.1 (lG hc.2.2.1) (lG hc.2.2.2.1) (by
   cases hb0:So 0 len with
   | true=>exact .inl (lG hb0)
   | false=>have h0:=hc.1;rw[hb0]at h0;exact .inr h0) (eM hc.2.2.2.2) hx
theorem Rel.ahX(hr:Rel E w0 G0 st a w G)(hg:st.g[j]? = W0 g)(hc:oQ st.c j=W0 c){v':Value}(hj:G.g[j]? = W0 (g,v))(vw:w.grownBy w' v.ownBlock){vals:J Value}
  (hown:w'.ownsRow 0 g.e g.k v' ys.length vals) (hf:Flat w G.pr g.k vals (ys.map (c.1.cells E))) (hblk:∀b,v'.ownBlock=W0 b->w.heap.size<=b\/v.ownBlock=W0 b) (hz:∀a m,v'=.slice (W0 a) m 0->E.zc g.e=WF) (h1:v'.oneCell'=WF) :
  ∃G',Rel E w0 G0 {st with g:=st.g.set j {g with aF:=g.aF+1},c:=(j,⟨c.1,ys⟩)::nK j st.c} a w' G'/\VT E w' G' (.eA j (g.aF+1)) v':=by
 obtain⟨h,hj',hs,-⟩:=hr.soft hg hc;rw[hj]at hj';cases hj';obtain⟨n0,xs0,TA,Od,hb0⟩:=hr.boxes.grow j g v hj;have hnp:=hs.2.2.2
 have ao1:∀b,v'.ownBlock=W0 b->∀o,¬ G.pr b o:=λb hb o hp=>by
  rcases hblk b hb with q|q
  ·have:=(hr.boxes.gu b o hp).1;omega
  ·exact hnp b q o hp
 have hcells:∀b o u,G.pr b o->w.cell? ⟨b,o,WP⟩=W0 u->w'.cell? ⟨b,o,WP⟩=W0 u:=λb o u hp hu=>
  vw.cell hu (λe=>hnp b e.symm o hp)
 have hjl:=(eY.1 hj).1
 have key:=hr.setRow (x':={g with aF:=g.aF+1}) (cs:=(j,⟨c.1,ys⟩)::nK j st.c) hj (Nat.le_succ _) (λe=>by simp at e) vw.size vw.os vw.tape vw.output
  (λb hb hne=>vw.block b hb (λe=>hne e.symm)) hcells G.pr (λ_ _ h=>h) (λ_ _ h=>.inl h)
  ⟨ys.length,vals,hown,hz,λb hb=>⟨(hown.lt b hb).2,λhm=>by
   rcases hblk b hb with q|q
   ·have:=hr.boxes.lt b hm;omega
   ·exact(hb0 b q).2.1 hm,λo _ hp=>ao1 b hb o hp⟩⟩ hblk (λhg'=>?_)
 ·simp[VT]
  grind
 ·intro i c' hm
  rcases iy.1 hm with e|hm
  ·cases e
   exact⟨{g with aF:=g.aF+1},v',by simp[hjl],hs.1,hs.2.1,⟨vals,hown,hf.mono hg'.pr hg'.cells⟩,ao1⟩
  ·obtain⟨hm,hne⟩:=tO hm
   obtain⟨x,hd,q1,q2⟩:=hr.gv i c' hm;obtain⟨n1,xs1,-,-,vW⟩:=hr.boxes.grow i x hd q1;refine⟨x,hd,?_,q2.keep rfl rfl hg'.pr hg'.cells λb hb=>⟨vw.block b (vW b hb).1 (λe=>hne (hr.boxes.apart i j x hd g v b q1 hj hb e.symm)),λo hp=>hp⟩⟩
   grind
theorem aaL(hE:E.Ok)(hr:Rel E w0 G0 st a w G){cl:Call}{tx:aK}(ho:o.op=.call cl)(hcl:cl.callee=.builtin .append)(ha:cl.args.toList=[x,y])(hat:cl.argTypes.toList=[t,tx])
  (ht:aV P t=W0 ⟨.slice e,j1,j2,z⟩) (hi:aV P e=W0 ie)    (hx:st.ev x=.eA j g.aF) (hg:st.g[j]? = W0 g) (hc:oQ st.c j=W0 c) (hge:g.e=e) (Bg:g.k=ie.size) (hzs:ie.zero.cells.size=ie.size)
   (h63:c.2.length+ys.length<=9223372036854775807) (hbytes:(c.2.length+ys.length)*ie.bytes<=140737488355328)
  {news:J Value} (hsrc:Src P ie.size tx (a.eval y) ys.length news w) (hf:Flat w G.pr ie.size news (ys.map (c.1.cells E))) :
  jT P w0 G0 a w o {st with t:=cz st.t o.dst (.eA j (g.aF+1)),g:=st.g.set j {g with aF:=g.aF+1},c:=(j,⟨c.1,c.2++ys⟩)::nK j st.c}:=by
 have gF:cl.args=#[x,y]:=by grind
 have yH:cl.argTypes=#[t,tx]:=by grind
 obtain⟨xt,jU,eB,-⟩:=aP ht;obtain⟨xe,Oc,Bb,hsz,hby,hz⟩:=aP hi;have hv:=hr.ev x;rw[hx]at hv;obtain⟨v,hj,hs,hval⟩:=hr.soft hg hc;have lS:=hval _ hv
 have fin:∀(v':Value)(w':U)(vals:J Value),(Builtin.append_ #[t,tx] o.type #[v,a.eval y]).run P w=.ok v' w'->w'.ownsRow 0 g.e g.k v' (c.2++ys).length vals->Flat w G.pr g.k vals ((c.2++ys).map (c.1.cells E))->w.grownBy w' v.ownBlock ->
   (∀b,v'.ownBlock=W0 b->w.heap.size<=b\/v.ownBlock=W0 b)->(∀a m,v'=.slice (W0 a) m 0->E.zc g.e=WF)->v'.oneCell'=WF ->
   jT P w0 G0 a w o {st with t:=cz st.t o.dst (.eA j (g.aF+1)),g:=st.g.set j {g with aF:=g.aF+1},c:=(j,⟨c.1,c.2++ys⟩)::nK j st.c}:=by
  intro v' w' vals hrun hown hfl vw hblk hnz h1;obtain⟨G',hR,hV⟩:=hr.ahX hg hc hj vw hown hfl hblk hnz h1;refine⟨.value v',v',w',G',?_,.inl rfl,hR.put hV o.dst⟩;unfold execOp;simp[ho,resolve,hcl,jm,pz,invoke,builtin,gF,yH,jY,Nu];rw[lS,hrun];rfl
 have Fp:Src P xe.size tx (a.eval y) ys.length news w:=by rw[hsz];exact hsrc
 have hzl:∀c,(Builtin.zeroCells ie.zero.cells c).size=c*ie.size:=λc=>by rw[size_zeroCells,hzs]
 obtain⟨n0,xs0,TA,Od,hb0⟩:=hr.boxes.grow j g v hj;have hlen:(c.2++ys).length=c.2.length+ys.length:=by simp
 have hmap:(c.2++ys).map (c.1.cells E)=c.2.map (c.1.cells E)++ys.map (c.1.cells E):=by simp
 rw[<-Bg]at hf;by_cases hm:ys.length=0
 ·have hys:=Ei hm
  subst hys;have hnn:=Ei (by simpa using hf.1);subst hnn;obtain⟨-,-,⟨vals,ho,Mx⟩,-⟩:=hs;refine fin v w vals ?_ (by simp_all) (by simp_all) ⟨rfl,rfl,rfl,eu _,λ_ _ _=>rfl⟩ (λb hb=>.inr hb) Od ?_
  ·rcases ho.2 with⟨q1,q2⟩|⟨b,cap,cur,q1,-,-,q4,-⟩
   ·rw[q1];exact run_append_nothing w t tx o.type e xe eB Oc WP 0 0 (eu _) _ Fp
   grind[run_append_nothing]
  ·rcases ho.2 with⟨q1,q2⟩|⟨b,cap,cur,q1,-⟩<;>rw[q1]<;>rfl
 have grow:∀(base:O Addr)(old:Nat)(xs':J Value),v=.slice base c.2.length old->old<c.2.length+ys.length->Flat w G.pr g.k xs' (c.2.map (c.1.cells E)) ->
   (Builtin.firstCells xe.size c.2.length (.slice base c.2.length old)).run P w.drew=.ok xs'.toArray w.drew ->
   jT P w0 G0 a w o {st with t:=cz st.t o.dst (.eA j (g.aF+1)),g:=st.g.set j {g with aF:=g.aF+1},c:=(j,⟨c.1,c.2++ys⟩)::nK j st.c}:=by
  intro base old xs' hv0 hlt hfx XG;have hfit:=growslice_fits (bytes:=xe.bytes) hlt (by rw[hby];exact hbytes);have hr':=run_append_grow_src w t tx o.type e xe ie.zero eB Oc hz base c.2.length old xs' XG (a.eval y) ys.length news Fp hlt om hfit;have afR:=grownCap_ge w (c.2.length+ys.length) old e;have hcm:=grownCap_le_maxLen w (c.2.length+ys.length) old e h63;generalize hcap:grownCap w (c.2.length+ys.length) old e=cap at hr' afR hcm;generalize hcs:(xs'++news).toArray++Builtin.zeroCells ie.zero.cells (cap-(c.2.length+ys.length))=cs at hr';have Km:=hfx.append hf;have hl2:(xs'++news).length=(c.2.length+ys.length)*g.k:=by rw[Km.1];simp
  have aj8:cs.size=cap*g.k:=by
   rw[<-hcs,aeE,aeF,hl2,hzl,<-Bg,<-VG];congr 1;omega
  have hheap:(w.drew.alloc (.cells cs e)).heap=w.heap.push (.cells cs e):=rfl;have hnew:(w.drew.alloc (.cells cs e)).heap[w.heap.size]? = W0 (.cells cs e):=by rw[hheap];simp
  refine fin (.slice (W0 ⟨w.heap.size,0,WP⟩) (c.2.length+ys.length) cap) (w.drew.alloc (.cells cs e)) (xs'++news) (by rw[hv0];exact hr') ⟨by rw[hl2,hlen],.inr ⟨w.heap.size,cap,cs,?_,Nat.zero_le _,by rw[hge];exact hnew,by rw[hlen];exact afR,hcm,aj8,?_⟩⟩ (by rw[hmap];exact Km) ⟨rfl,rfl,rfl,by rw[hheap];simp,λb hb _=>by grind⟩
   (λb hb=>by cases hb;grind) (λa m h=>by simp at h;omega) rfl
  ·rw[hlen]
  grind
 rcases hs.block with⟨h1,h2⟩|⟨b,cap,cur,h1,hheap,hcap,hcm,hcs,Mx,hnp⟩
 ·have hc0:c.2.length=0:=by rw[h2];rfl
  refine grow WP 0 [] (by rw[h1,hc0]) om (by rw[h2];exact Flat.nil) ?_;simp[Builtin.firstCells]
 ·by_cases hroom:c.2.length+ys.length<=cap
  ·have Ua:c.2.length*ie.size+news.length<=cur.size:=by
    rw[hf.1,hcs,<-Bg,mg,<-VG];exact zP _ hroom
   have GQ:w.heap[b]? = W0 (.cells cur e (0,0)):=by rw[<-hge];exact hheap
   have hr':=run_append_room_src w t tx o.type e xe eB Oc b 0 c.2.length cap (a.eval y) ys.length news Fp hroom
    (λj hj=>by
     rw[cell_of_row w b _ cur e (0,0) GQ,hsz]
     grind)
    (λj hj=>frozen_of_row w b _ cur e GQ)
   rw[hsz,qJ,Bf b e news (c.2.length*ie.size) cur w GQ Ua]at hr';have Km:=Mx.append hf;have hl2:(cur.toList.take (c.2.length*g.k)++news).length=(c.2.length+ys.length)*g.k:=by rw[Km.1];simp
   refine fin (.slice (W0 ⟨b,0,WP⟩) (c.2.length+ys.length) cap) (w.setRow b (cur.toList.take (c.2.length*ie.size)++news++cur.toList.drop (c.2.length*ie.size+news.length)).toArray) (cur.toList.take (c.2.length*g.k)++news) (by rw[h1];exact hr') ⟨by rw[hl2,hlen],.inr ⟨b,cap,_,by rw[hlen],gj _,by rw[hge];exact setRow_heap w b cur _ e _ GQ,by rw[hlen];exact hroom,hcm,?_,?_⟩⟩ (by rw[hmap];exact Km) ⟨rfl,rfl,rfl,si,λb' _ hb'=>setRow_other w b b' _ (λe=>hb' (by rw[e,h1];rfl))⟩
    (λb' hb'=>.inr (by rw[h1];exact hb')) (λa m h=>by simp at h;omega) rfl
   ·grind
   grind
  ·refine grow _ cap (cur.toList.take (c.2.length*g.k)) h1 om Mx ?_
   rw[hsz,<-Bg];refine run_firstCells_some w.drew g.k c.2.length ⟨b,0,WP⟩ c.2.length cap (cur.toList.take (c.2.length*g.k)) (by rw[Mx.1];simp) (λq u hu=>?_);rw[add_lit,qJ]
   have hq:q<c.2.length*g.k:=by
    grind
   show w.cell? ⟨b,q,WP⟩=W0 u
   grind[cell_of_row]
theorem ahY(hr:Rel E w0 G0 st a w G){hi:dB}(ho:o.op=.slice t x WP (W0 hi) WP)(ht:aV P t=W0 ⟨.slice e,j1,j2,z⟩)(hi':aV P e=W0 ie)
     (hx:st.ev x=.eA j g.aF) (hg:st.g[j]? = W0 g) (hc:oQ st.c j=W0 c) {q:Int} (hq:lR (c.2.length:Int) (W0 (st.ev hi))=W0 q) (h0:0<=q) (h1:q<=(c.2.length:Int)) :
  jT P w0 G0 a w o {st with t:=cz st.t o.dst (.eA j (g.aF+1)),g:=st.g.set j {g with aF:=g.aF+1},c:=(j,⟨c.1,c.2.take (Ts q)⟩)::nK j st.c}:=by
 obtain⟨xt,jU,eB,-⟩:=aP ht;obtain⟨xe,qI,Bb,hsz,-⟩:=aP hi';obtain⟨v,hj,hs,hval⟩:=hr.soft hg hc;have hv:=hr.ev x;rw[hx]at hv;have lS:=hval _ hv;obtain⟨n0,xs0,TA,Od,hb0⟩:=hr.boxes.grow j g v hj;have hlen:(c.2.take q.toNat).length=q.toNat:=by simp_all
 have hbi:=tQ hr (lo:=W0 hi) hq;have ao2:=tQ hr (lo:=WP) (d:=0) rfl
 have key:∀(v':Value)(vals:J Value),(Instr.sliceAt t v WP (W0 (a.eval hi)) WP).run P w=.ok v' w->w.ownsRow 0 g.e g.k v' (c.2.take q.toNat).length vals->Flat w G.pr g.k vals ((c.2.take q.toNat).map (c.1.cells E))->v'.ownBlock=v.ownBlock ->
   (∀a m,v'=.slice (W0 a) m 0->E.zc g.e=WF)->v'.oneCell'=WF->jT P w0 G0 a w o {st with t:=cz st.t o.dst (.eA j (g.aF+1)),g:=st.g.set j {g with aF:=g.aF+1},c:=(j,⟨c.1,c.2.take (Ts q)⟩)::nK j st.c}:=by
  intro v' vals hrun hown hfl hblk hnz h1';obtain⟨G',hR,hV⟩:=hr.ahX hg hc hj ⟨rfl,rfl,rfl,eu _,λ_ _ _=>rfl⟩ hown hfl (λb hb=>.inr (by rw[<-hblk];exact hb)) hnz h1';refine⟨.value v',v',w,G',?_,.inl rfl,hR.put hV o.dst⟩;simp[execOp,ho];rw[lS,hrun];rfl
 rcases hs.block with⟨q1,q2⟩|⟨b,cap,cur,q1,hheap,hcap,hcm,hcs,Mx,hnp⟩
 ·have hq0:q=0:=by grind
  subst hq0;refine key (.slice WP 0 0) [] ?_ ?_ (by rw[q2];exact Flat.nil) (by rw[q1]) (λa m h=>by cases h) rfl
  ·have Cb:=Fo (P:=P) (isS:=WF) (cap:=0) (eu _) ao2 (by rw[q2]at hbi;exact hbi) (Ze _) (Ze _) si w
   rw[q1];simp at Cb;unfold Instr.sliceAt;unfold Instr.slice;simp only[jm,aS eB,jL,Cb,fu qI];simp
  ·exact⟨si,.inl ⟨rfl,rfl⟩⟩
 ·refine key (.slice (W0 ⟨b,0,WP⟩) q.toNat cap) (cur.toList.take (q.toNat*g.k)) ?_ ?_ ?_ (by rw[q1];rfl) (λa m h=>by
   simp_all) rfl
  ·have Cb:=Fo (P:=P) (isS:=WF) hcap ao2 hbi (Ze _) h0 h1 w
   rw[q1];simp at Cb;unfold Instr.sliceAt;unfold Instr.slice;simp only[jm,aS eB,jL,Cb,fu qI,Zf,add_lit];simp
  ·rw[hlen]
   refine⟨?_,.inr ⟨b,cap,cur,rfl,gj _,hheap,om,hcm,hcs,rfl⟩⟩
   grind[List.length_take,Array.length_toList,Nat.min_eq_left,Nat.mul_le_mul_right]
  ·have h9:=Mx.take (i:=q.toNat) bp
   simp_all[zP,Zg,aeC,List.map_take]
def afS(P:bh)(ty:aK->O Ty)(st:TS E)(dst:O Nat)(cl:Call):O (Bool×TS E):=
 match cl.callee,cl.args.toList,cl.argTypes.toList with
 | .builtin .append,[x,y],[t,tx]=>match aV P t,aV P tx with
  | some ⟨.slice e,_,_,_⟩,W0 ix=>match aV P e,st.ev x with
   | some ie,.eA j aF=>match st.g[j]?,oQ st.c j with
    | some g,W0 c=>match afM c.1 ix.kind (st.ev y)with
     | some ys=>W0 (ST g.aF aF&&(ST g.e e&&(ST g.k ie.size&&(ST ie.size (c.1.size E)&&(So 0 ie.size&&(ST ie.zero.cells.size ie.size &&
          (T1 (c.2.length+ys.length<=9223372036854775807)&&T1 ((c.2.length+ys.length)*ie.bytes<=140737488355328))))))),
       {st with t:=cz st.t dst (.eA j (g.aF+1)),g:=st.g.set j {g with aF:=g.aF+1},c:=(j,⟨c.1,c.2++ys⟩)::nK j st.c})
     | none=>WP
    | _,_=>WP
   | _,_=>WP
  | _,_=>WP
 | _,_,_=>WP
def CM(P:bh)(ty:aK->O Ty)(st:TS E)(dst:O Nat):Op->O (Bool×TS E)
 | .load t x=>match aV P t,st.ev x with
  | some i,.iC j aF k ix off=>match st.g[j]?,oQ st.c j with
   | some g,W0 c=>match TV.part c.1 (c.2.getD ix (c.1.dflt E)) i.isAgg i.size off with
    | some d=>W0 (ST g.aF aF&&ST k (c.1.size E),{st with t:=cz st.t dst d})
    | none=>WP
   | _,_=>WP
  | _,_=>WP
 | .store t x y=>match aV P t,st.ev x,(st.ev y).o8 with
  | some i,.iC j aF k ix off,W0 ds=>match st.g[j]?,oQ st.c j with
   | some g,W0 c=>match (TV.dat (E:=E) c.1 (c.2.getD ix (c.1.dflt E))).o8 with
    | some cs=>match N6 E 4 c.1 (cs.take off++ds++cs.drop (off+ds.length))with
     | some (x',[])=>W0 (ST g.aF aF&&(ST k (c.1.size E)&&(ST ds.length i.size&&Nat.ble (off+i.size) cs.length)),
       {st with t:=cz st.t dst .any,c:=(j,⟨c.1,c.2.set ix x'⟩)::nK j st.c})
     | _=>WP
    | none=>WP
   | _,_=>WP
  | _,_,_=>WP
 | .makeSlice t x y=>match aV P t with
  | some ⟨.slice e,_,_,_⟩=>match aV P e,ty e,st.ev x,st.ev y with
   | some ie,W0 T,.dat (.int _) n,.dat (.int _) m=>match (y5 E (W0 T) ie.zero).get T with
    | some z=>W0 (ST ie.size (T.size E)&&(So 0 ie.size&&(ST ie.zero.cells.size ie.size&&(ie.zero.cells.toList.all (·.oneCell') &&
       (T1 (0<=n)&&(T1 (n<=m)&&(T1 (0<m)&&(T1 (m<=9223372036854775807)&&T1 ((ie.bytes:Int)*m<=140737488355328)))))))),
      {st with t:=cz st.t dst (.eA st.g.length 0),g:=st.g++[⟨0,e,ie.size⟩],c:=(st.g.length,⟨T,RK (Ts n) z⟩)::st.c})
    | none=>WP
   | _,_,_,_=>WP
  | _=>WP
 | .slice t x WP (W0 hi) WP=>match aV P t,st.ev x with
  | some ⟨.slice e,_,_,_⟩,.eA j aF=>match aV P e,st.g[j]?,oQ st.c j with
   | some _,W0 g,W0 c=>match lR (c.2.length:Int) (W0 (st.ev hi))with
    | some q=>W0 (ST g.aF aF&&(T1 (0<=q)&&T1 (q<=(c.2.length:Int))),
      {st with t:=cz st.t dst (.eA j (g.aF+1)),g:=st.g.set j {g with aF:=g.aF+1},c:=(j,⟨c.1,c.2.take (Ts q)⟩)::nK j st.c})
    | none=>WP
   | _,_,_=>WP
  | _,_=>WP
 | .call cl=>afS P ty st dst cl
 | _=>WP
theorem afT(hE:E.Ok)(hr:Rel E w0 G0 st a w G)(h:CM P ty st o.dst o.op=W0 (cc,st'))(o9:cc=WF):jT P w0 G0 a w o st':=by
 cases ho:o.op<;>rw[ho]at h<;>try trivial
 case load t x=>
  simp[CM]at h;split at h<;>try trivial
  rename_i i j aF k ix off ht hx;split at h<;>try trivial
  rename_i g c hg hc;split at h<;>try trivial
  rename_i d hp;cases h;rw[cH]at o9;obtain rfl:=eM o9.1;exact(IA hE hr ho ht hx hg hc (eM o9.2) hp).aj6 hr
 case store t x y=>
  simp[CM]at h;split at h<;>try trivial
  split at h<;>try trivial
  split at h<;>try trivial
  split at h<;>try trivial
  grind[Nat.eq_of_beq_eq_true,ac5,Nat.le_of_ble_eq_true]
 case makeSlice t x y=>
  simp only[CM]at h;split at h<;>try trivial
  rename_i e j1 j2 z0 ht;split at h<;>try trivial
  rename_i ie T k1 n k2 m hi hT hx hy;split at h<;>try trivial
  rename_i z hz;cases h;simp only[cH,eT]at o9;obtain⟨c1,c2,c3,c4,c5,c6,c7,c8,c9⟩:=o9;exact afO hE hr ho ht hi hx hy (eM c1) (lG c2) (eM c3) c4 hz c5 c6 c7 c8 c9
 case slice t x lo hi mx=>
  cases lo with
  | some _=>cases h
  | none=>
  cases hi with
  | none=>cases h
  | some hi=>
  cases mx with
  | some _=>cases h
  | none=>
  simp[CM]at h;split at h<;>try trivial
  split at h<;>try trivial
  split at h<;>try trivial
  grind[Nat.eq_of_beq_eq_true,ahY]
 case call cl=>
  simp[CM]at h;unfold afS at h;split at h<;>try trivial
  ·split at h<;>try trivial
   split at h<;>try trivial
   rename_i ie j aF hi hx;split at h<;>try trivial
   split at h<;>try trivial
   cases h;simp only[cH]at o9;obtain⟨c1,c2,c3,c4,c5,c6,c7,c8⟩:=o9;have c5:=lG c5
   grind[Wk,aaL,Nat.eq_of_beq_eq_true]
def ZB(P:bh)(ty:aK->O Ty)(st:TS E)(dst:O Nat)(op:Op):O (Bool×TS E):=match Uj P ty st dst op with
 | some r=>W0 r
 | none=>CM P ty st dst op
theorem ac7(hE:E.Ok)(hr:Rel E w0 G0 st a w G){c:Bool}(h:ZB P ty st o.dst o.op=W0 (c,st'))(hc:c=WF):jT P w0 G0 a w o st':=by
 grind[ZB,ac3,afT]
def afU:Value->Value->Bool
 | .bool a,.bool b=>a==b
 | .int k n,.int k' n'=>T1 (k=k')&&T1 (n=n')
 | _,_=>UV
theorem amY{u:Value}(h:afU u v=WF):u=v/\u.cells=#[u]:=by
 unfold afU at h;split at h
 ·rw[p7]at h;subst h;exact⟨rfl,rfl⟩
 ·simp at h
  obtain⟨rfl,rfl⟩:=h;exact⟨rfl,rfl⟩
 ·cases h
def ZC(P:bh)(st:TS E):Op->O (Bool×TV E)
 | .indexAddr t x ix=>match aV P t,st.ev ix with
  | some ⟨.array n e,_,_,_⟩,.dat (.int _) m=>match aV P e,st.ev x with
   | some i,.iC j aF k i0 off=>match st.g[j]?,oQ st.c j with
    | some g,W0 c=>match ST g.aF aF&&(ST i.size k&&(ST i0 0&&ST off 0))with
     | true=>W0 (T1 (0<=m)&&(T1 (m<(n:Int))&&T1 (m<(c.2.length:Int))),.iC j aF k (Ts m) 0)
     | false=>WP
    | _,_=>WP
   | _,_=>WP
  | _,_=>WP
 | _=>WP
variable{cur:aJ Value}
theorem Rel.arr(hr:Rel E w0 G0 st a w G){i:Nat}(hg:st.g[j]? = W0 g)(hc:oQ st.c j=W0 c)(hv:VT E w G (.iC j g.aF k i off) v):
  ∃b cap cur,G.g[j]? = W0 (g,.slice (W0 ⟨b,0,WP⟩) c.2.length cap)/\i<c.2.length/\v=.pointer (W0 ⟨b,i*k+off,WP⟩)/\w.heap[b]? = W0 (.cells cur g.e (0,0))/\c.2.length<=cap/\cur.size=cap*g.k /\
   Flat w G.pr g.k (cur.toList.take (c.2.length*g.k)) (c.2.map (c.1.cells E))/\g.k=c.1.size E:=by
 obtain⟨b,m,cap,hj,hlt,lS⟩:=hr.iC hg hv;obtain⟨h,hj',hs,-⟩:=hr.soft hg hc;rw[hj]at hj';cases hj';rcases hs.block with⟨h1,-⟩|⟨b',cap',cur,h1,hheap,hcap,hcm,hcs,hf,hnp⟩
 ·cases h1
 obtain⟨rfl,rfl,rfl⟩:=h1;exact⟨b,cap,cur,hj,hlt,lS,hheap,hcap,hcs,hf,hs.1⟩
theorem ac8(hr:Rel E w0 G0 st a w G)(h:ZC P st o.op=W0 (cc,d))(hc:cc=WF):jB P a w G o d:=by
 cases ho:o.op<;>rw[ho]at h<;>simp only[ZC]at h<;>try trivial
 case indexAddr t x ix=>
  split at h<;>try trivial
  rename_i n e j1 j2 z kd m ht hn;obtain⟨xt,jU,eB,-⟩:=aP ht;obtain⟨m,hm0⟩:∃q:Int,q=m:=⟨m,rfl⟩;subst hm0;have DI:=hr.ev ix;rw[hn]at DI;have TY:=DI.fT;split at h<;>try trivial
  rename_i i j aF k i0 off hi hx;obtain⟨xe,qI,Bb,hsz,-⟩:=aP hi;split at h<;>try trivial
  rename_i g c hg hcg;split at h<;>try trivial
  rename_i hs4;cases h;simp only[cH,eT]at hc hs4;obtain⟨c1,c2,c3,c4⟩:=hs4;obtain⟨c5,c6,c7⟩:=hc;have c1:=eM c1;have c2:=eM c2;have c3:=eM c3;have c4:=eM c4;have c7:m<(c.2.length:Int):=c7;subst c1 c3 c4;have hv:=hr.ev x;rw[hx]at hv;obtain⟨b,cap,cur,hj,hlt,lS,-⟩:=hr.arr hg hcg hv;refine fU (f:=λρ=>Instr.indexAt t (ρ x) (ρ ix)) (by simp[execOp,ho]) ⟨_,Wj hj om,λw' hs=>?_⟩;rw[lS,TY];unfold Instr.indexAt asIntOf Instr.sureAddr;have h3:(0<=m/\m<(n:Int)):=⟨c5,c6⟩;simp only[jm,pz,jL,aS eB,h3,and_self,if_true,fu qI,add_lit,hsz,c2,Nat.zero_mul,qJ,Gm]
def Uk(P:bh)(ty:aK->O Ty)(st:TS E)(o:Op):O (Bool×TV E):=match Ui P ty st o with
 | some x=>W0 x
 | none=>ZC P st o
theorem ac9(hE:E.Ok)(hr:Rel E w0 G0 st a w G){c:Bool}(h:Uk P ty st o.op=W0 (c,d))(hc:c=WF):jB P a w G o d:=by
 grind[Uk,aaI,ac8]
theorem Rel.ad4(hr:Rel E w0 G0 st a w G)(hk:k=T.size E)(hk0:0<k)(hx0:0<xs.length)(hm:xs.length<=maxLen)(hcs:cur.size=xs.length*k)
  (hf:Flat w G.pr k cur.toList (xs.map (T.cells E))) :
  Rel E w0 G0 {st with g:=st.g++[⟨0,e,k⟩],c:=(st.g.length,⟨T,xs⟩)::st.c} a (w.alloc (.cells cur e)) {G with g:=G.g++[(⟨0,e,k⟩,.slice (W0 ⟨w.heap.size,0,WP⟩) xs.length xs.length)]} /\
   (G.g++[(⟨0,e,k⟩,Value.slice (W0 ⟨w.heap.size,0,WP⟩) xs.length xs.length)])[st.g.length]? = W0 (⟨0,e,k⟩,.slice (W0 ⟨w.heap.size,0,WP⟩) xs.length xs.length):=by
 have hG:=hr.grow (fh.alloc w (.cells cur e)) rfl rfl rfl G.pr (λ_ _ h=>h) (λ_ _ _ h=>h) (λb o hp=>jS (hr.boxes.gu b o hp).1 si);have hnp:∀o,¬ G.pr w.heap.size o:=λo hp=>absurd (hr.boxes.gu _ _ hp).1 (zQ _);have hheap:(w.alloc (.cells cur e)).heap[w.heap.size]? = W0 (.cells cur e):=heap_alloc_new w _;have htk:cur.toList.take (xs.length*k)=cur.toList:=vN (by simp_all)
 have hown:(w.alloc (.cells cur e)).ownsRow 0 e k (.slice (W0 ⟨w.heap.size,0,WP⟩) xs.length xs.length) xs.length (cur.toList.take (xs.length*k)):=by
  refine⟨?_,.inr ⟨w.heap.size,xs.length,cur,rfl,gj _,hheap,eu _,hm,hcs,rfl⟩⟩
  simp_all
 have hA:=hG.CK ⟨0,e,k⟩ (.slice (W0 ⟨w.heap.size,0,WP⟩) xs.length xs.length) ⟨xs.length,_,hown,λa q h=>by simp_all,λb hb=>by
   cases hb;exact⟨si,λhm=>absurd (hr.boxes.lt _ hm) (zQ _),λo _ hp=>hnp o hp⟩⟩ (λb hb=>by cases hb;exact hr.ff.size) (λj y z b hj hzb hb=>by
   cases hb;obtain⟨n',xs',-,-,hb'⟩:=hr.boxes.grow j y z hj
   simp_all)
 have hrl:=hr.qm;have lF:(G.g++[(⟨0,e,k⟩,Value.slice (W0 ⟨w.heap.size,0,WP⟩) xs.length xs.length)])[st.g.length]? = W0 (⟨0,e,k⟩,.slice (W0 ⟨w.heap.size,0,WP⟩) xs.length xs.length):=by rw[<-hrl];simp
 refine⟨hA.Wl ⟨⟨0,e,k⟩,_,lF,hk,hk0,⟨_,hown,?_⟩,λb hb o hp=>by cases hb;exact hnp o hp⟩,lF⟩;rw[htk];exact hf.mono (λ_ _ h=>h) (λb o v _ hv=>(fh.alloc w _).cell hv)
theorem ada(hE:E.Ok)(hr:Rel E w0 G0 st a w G){n:Nat}{z0:Value}(ho:o.op=.alloc t)(ht:aV P t=W0 ⟨.array n e,j1,j2,z0⟩){z:T.den E.D}
  (hT:T.size E=1) (hn:0<n) (hm:n<=maxLen) (hzn:z0.cells.size=n) (hall:z0.cells.toList.all (afU ie.zero)=WF) (hz1:ie.zero.cells.toList.all (·.oneCell')=WF) (hz:(y5 E (W0 T) ie.zero).get T=W0 z) :
  jT P w0 G0 a w o {st with t:=cz st.t o.dst (.iC st.g.length 0 1 0 0),g:=st.g++[⟨0,t,1⟩],c:=(st.g.length,⟨T,RK n z⟩)::st.c}:=by
 have hzv:VT E w G (.dat T z) ie.zero:=TV.uJ hz (Qk hE hz1);have XI:=hzv.Oe
 have hcell:∀v,v∈z0.cells.toList->v=ie.zero/\ie.zero.cells=#[ie.zero]:=λv hv=>by
  grind[amY,List.all_eq_true]
 have hfl:Flat w G.pr 1 z0.cells.toList ((RK n z).map (T.cells E)):=by
  refine⟨by simp[hzn],λj hj=>?_,λj l hj hl=>?_⟩
  ·simp_all[Ty.AX]
  ·have hj:j<n:=by simpa using hj
   obtain rfl:l=0:=om;have e1:((RK n z).map (T.cells E)).getD j []=T.cells E z:=by simp[hj]
   have hjz:j<z0.cells.toList.length:=by simp[hzn,hj]
   have e2:z0.cells.toList.getD (j*1+0) undef=z0.cells.toList[j]:=by simp_all
   obtain⟨q1,q2⟩:=hcell _ (iJ hjz);rw[e1,e2,q1];rw[q2]at XI
   cases hd:T.cells E z with
   | nil=>rw[hd]at XI;exact XI.elim
   | cons d ds=>rw[hd]at XI;exact XI.1
 obtain⟨hR,lF⟩:=hr.ad4 hT.symm Nat.one_pos (by simpa using hn) (by simpa using hm) (by simp[hzn]) hfl;refine⟨.value _,_,_,_,?_,.inl rfl,hR.put (v:=.pointer (W0 ⟨w.heap.size,0,WP⟩)) ?_ o.dst⟩
 ·simp[execOp,ho,Instr.alloc,nt ht]
  rfl
 ·exact⟨⟨0,t,1⟩,_,lF,eu _,rfl,λ_=>⟨w.heap.size,_,_,rfl,by simpa using hn,si⟩⟩
theorem ahZ(hr:Rel E w0 G0 st a w G){n:Nat}(ho:o.op=.box t x)(hx:st.ev x=.uk T xs)(hT:0<T.size E)(hn:0<n)(hm:n<=maxLen)(hl:xs.length=n):
  jT P w0 G0 a w o {st with t:=cz st.t o.dst (.iC st.g.length 0 (T.size E) 0 0),g:=st.g++[⟨0,t,T.size E⟩],c:=(st.g.length,⟨T,xs⟩)::st.c}:=by
 have hv:=hr.ev x;rw[hx]at hv;obtain⟨vs,he,h1,hf⟩:=hv;obtain⟨hR,lF⟩:=hr.ad4 rfl hT om om (by have:=hf.1;simpa using this) hf;refine⟨.value _,_,_,_,?_,.inl rfl,hR.put (v:=.pointer (W0 ⟨w.heap.size,0,WP⟩)) ?_ o.dst⟩
 ·simp[execOp,ho]
  rw[he];rfl
 ·exact⟨⟨0,t,T.size E⟩,_,lF,eu _,rfl,λ_=>⟨w.heap.size,_,_,rfl,om,si⟩⟩
theorem adb(hr:Rel E w0 G0 st a w G)(ho:o.op=.load t x)(ht:aV P t=W0 i)(hag:i.isAgg=WF)(hd:st.ev x=.iC j g.aF k 0 0)
  (hg:st.g[j]? = W0 g) (hc:oQ st.c j=W0 c) (hk:k=c.1.size E) (hsz:c.2.length*k=i.size):jB P a w G o (.uk c.1 c.2):=by
 have hv:=hr.ev x;rw[hd]at hv;obtain⟨b,cap,cur,hj,hlt,lS,hheap,hcap,hcs,hf,Bg⟩:=hr.arr hg hc hv;have hle:i.size<=cur.size:=by rw[hcs,<-hsz,hk,<-Bg];exact zP _ hcap
 have hrun:=λw' hs=>mL ht b 0 cur.size (λl=>cur.toList.getD l undef) (λl hl=>by
  rw[qJ,cell_of_row w b l cur g.e (0,0) hheap];simp[hl]) 0 (by rw[hag];simpa using hle) w' hs
 have hls:((R0 i.size).map λl=>cur.toList.getD (0+l) undef)=cur.toList.take (c.2.length*g.k):=by
  rw[Bg,<-hk];refine Au bp λq h1 h2=>?_
  grind
 refine fU (f:=λρ=>Instr.loadAt t (ρ x)) (by simp[execOp,ho]) ⟨.agg (cur.toList.take (c.2.length*g.k)).toArray,?_,λw' hs=>?_⟩
 ·refine⟨_,rfl,λu hu=>?_,by rw[<-Bg];exact hf⟩
  have hu:u∈cur.toList.take (c.2.length*g.k):=by simpa using hu
  obtain⟨q,hq,rfl⟩:=lH hu;have hlen:=hf.1;rw[mg]at hlen
  have hk0:0<g.k:=by
   grind
  have hq1:q<c.2.length*g.k:=by rw[<-hlen];exact hq
  have:=hf.2.2 (q / g.k) (q%g.k) (by simp_all[mg,aeG]) (Zh _ hk0);rw[show q / g.k*g.k+q%g.k=q by simp_all[Zc,Nat.div_add_mod]]at this;have e:(cur.toList.take (c.2.length*g.k)).getD q undef=(cur.toList.take (c.2.length*g.k))[q]:=by simp_all
  rw[e]at this;exact this.one
 ·have:=hrun w' (hs (by rw[ho];rfl))
  simp_all
def aaM(P:bh)(ty:aK->O Ty)(st:TS E)(dst:O Nat):Op->O (Bool×TS E)
 | .alloc t=>match aV P t with
  | some ⟨.array n e,_,_,z0⟩=>match So 8 n,aV P e,ty e with
   | true,W0 ie,W0 T=>match (y5 E (W0 T) ie.zero).get T with
    | some z=>W0 (ST (T.size E) 1&&(Nat.ble n 9223372036854775807&&(ST z0.cells.size n&&(z0.cells.toList.all (afU ie.zero)&&ie.zero.cells.toList.all (·.oneCell')))),
      {st with t:=cz st.t dst (.iC st.g.length 0 1 0 0),g:=st.g++[⟨0,t,1⟩],c:=(st.g.length,⟨T,RK n z⟩)::st.c})
    | none=>WP
   | _,_,_=>WP
  | _=>WP
 | .box t x=>match aV P t,st.ev x with
  | some ⟨.array n _,_,_,_⟩,.uk T xs=>W0 (So 0 (T.size E)&&(So 0 n&&(Nat.ble n 9223372036854775807&&ST xs.length n)),
    {st with t:=cz st.t dst (.iC st.g.length 0 (T.size E) 0 0),g:=st.g++[⟨0,t,T.size E⟩],c:=(st.g.length,⟨T,xs⟩)::st.c})
  | _,_=>WP
 | .load t x=>match aV P t,st.ev x with
  | some i,.iC j aF k ix off=>match i.kind,st.g[j]?,oQ st.c j with
   | .array _ _,W0 g,W0 c=>W0 (i.isAgg&&(ST g.aF aF&&(ST k (c.1.size E)&&(ST ix 0&&(ST off 0&&ST (c.2.length*k) i.size)))),{st with t:=cz st.t dst (.uk c.1 c.2)})
   | _,_,_=>WP
  | _,_=>WP
 | _=>WP
theorem afV(hE:E.Ok)(hr:Rel E w0 G0 st a w G)(h:aaM P ty st o.dst o.op=W0 (cc,st'))(o9:cc=WF):jT P w0 G0 a w o st':=by
 have hmax:maxLen=9223372036854775807:=rfl;cases ho:o.op<;>rw[ho]at h<;>simp only[aaM]at h<;>try trivial
 case alloc t=>
  split at h<;>try trivial
  rename_i n e j1 j2 z0 ht;split at h<;>try trivial
  rename_i ie T h8 hi hT;split at h<;>try trivial
  rename_i z hz;cases h;simp only[cH]at o9;obtain⟨c1,c2,c3,c4,c5⟩:=o9;exact ada hE hr ho ht (eM c1) (Nat.lt_of_le_of_lt (gj 8) (lG h8)) (by simp_all) (eM c3) c4 c5 hz
 case box t x=>
  split at h<;>try trivial
  rename_i n e j1 j2 z0 T xs ht hx;cases h;simp only[cH]at o9;obtain⟨c1,c2,c3,c4⟩:=o9;exact ahZ hr ho hx (lG c1) (lG c2) (by simp_all) (eM c4)
 case load t x=>
  split at h<;>try trivial
  rename_i i j aF k ix off ht hx;split at h<;>try trivial
  rename_i g c hk hg hc;cases h;simp only[cH]at o9;obtain⟨c1,c2,c3,c4,c5,c6⟩:=o9;have c2:=eM c2;have c4:=eM c4;have c5:=eM c5;subst c2 c4 c5;exact(adb hr ho ht c1 hx hg hc (eM c3) (eM c6)).aj6 hr
def afW(P:bh)(ty:aK->O Ty)(st:TS E)(dst:O Nat)(op:Op):O (Bool×TS E):=match aaM P ty st dst op with
 | some r=>W0 r
 | none=>ZB P ty st dst op
theorem afX(hE:E.Ok)(hr:Rel E w0 G0 st a w G){c:Bool}(h:afW P ty st o.dst o.op=W0 (c,st'))(hc:c=WF):jT P w0 G0 a w o st':=by
 grind[afW,afV,ac7]
variable{b:Nat}
def Ul(P:bh)(st:TS E):Op->O (Bool×TV E)
 | .indexAddr t x ix=>match aV P t,st.ev ix with
  | some ⟨.slice e,_,_,_⟩,.dat (.int _) m=>match aV P e,st.ev x with
   | some i,.iz r n cap=>W0 (ST i.size 1&&(T1 (0<=m)&&T1 (m<(n:Int))),.ptr r (Ts m))
   | _,_=>WP
  | _,_=>WP
 | .call c=>match c.callee,c.args.toList,c.argTypes.toList with
  | .builtin .len,[x],[t]=>match aV P t,st.ev x with
   | some ⟨.slice _,_,_,_⟩,.iz r n cap=>W0 (WF,.dat (.int .i64) (n:Int))
   | _,_=>WP
  | _,_,_=>WP
 | .load t x=>match aV P t,st.ev x with
  | some i,.ptr r off=>match st.H[r]? with
   | some (.lI e cap T xs d)=>W0 (ST i.size 1&&(!i.isAgg&&ST off xs.length),d)
   | _=>WP
  | _,_=>WP
 | _=>WP
theorem XO{n:Nat}(h:w.heap[b]? = W0 (.cells cur e (0,0)))(hn:n<cur.size):w.cell? ⟨b,n,WP⟩=W0 (cur.getD n undef):=by
 rw[cell_of_row w b n cur e (0,0) h];simp[hn]
theorem My(hi:aV P t=W0 i)(hs:i.size=1)(ha:i.isAgg=UV){n:Nat}(W:U)(h:W.cell? ⟨b,n,WP⟩=W0 v):(Instr.loadAt t (.pointer (W0 ⟨b,n,WP⟩))).run P W=.ok v W:=by
 have hrow:=mL hi b n 1 (λ_=>v) (λl hl=>by
  simp_all) 0 (by rw[ha];simp) W (fh.refl W)
 simp_all
theorem ade(hE:E.Ok)(hr:Rel E w0 G0 st a w G)(h:Ul P st o.op=W0 (cc,d))(hc:cc=WF):jB P a w G o d:=by
 cases ho:o.op<;>rw[ho]at h<;>simp[Ul]at h<;>try trivial
 case indexAddr t x ix=>
  split at h<;>try trivial
  rename_i e j1 j2 z kd m ht hn;obtain⟨xt,jU,eB,-⟩:=aP ht;obtain⟨m,hm0⟩:∃q:Int,q=m:=⟨m,rfl⟩;have DI:=hr.ev ix;rw[hn]at DI;have TY:=DI.fT;split at h<;>try trivial
  rename_i i r n cap hi hx;obtain⟨xe,qI,Bb,hsz,-⟩:=aP hi;cases h;simp at hc;have hv:=hr.ev x;rw[hx]at hv;obtain⟨b,lS,hat⟩:=hv;refine fU (f:=λρ=>Instr.indexAt t (ρ x) (ρ ix)) (by simp[execOp,ho]) ⟨.pointer (W0 ⟨b,m.toNat,WP⟩),?_,λw' hs=>?_⟩
  ·simp_all[VT]
  rw[lS];unfold Instr.indexAt asIntOf;simp[pz,aS eB]
  simp_all[and_self,if_true,jm,fu,jL,pz,add_lit,qJ,Td]
 case load t x=>
  split at h<;>try trivial
  rename_i i r off hi hx;split at h<;>try trivial
  rename_i e cap T xs d' hb;cases h;simp only[cH,Ej]at hc;obtain⟨c1,c2,c3⟩:=hc;have c1:=eM c1;have c3:=eM c3;subst c3;have hv:=hr.ev x;rw[hx]at hv;obtain⟨b,lS,hat⟩:=hv;obtain⟨cur,h1,h2,h4,h5,h6⟩:=hr.box hat hb;refine⟨_,h5,λw' hs=>?_⟩;have hb':w'.heap[b]? = W0 (.cells cur e (0,0)):=by rw[(hs (by rw[ho];rfl)).2 b (Av.1 h1).1];exact h1
  have:=My hi c1 c2 w' (XO hb' (by rw[h2];exact h6));simp[execOp,ho,lS,this]
 case call c'=>
  split at h<;>try trivial
  rename_i x t hcl ha hat;have gF:c'.args=#[x]:=by grind
  have yH:c'.argTypes=#[t]:=by grind
  split at h<;>try trivial
  rename_i e j1 j2 z r n cap ht hx;cases h;have hv:=hr.ev x;rw[hx]at hv;obtain⟨b,lS,hat⟩:=hv;obtain⟨xt,jU,eB,-⟩:=aP ht;refine⟨_,.int _ _ _ _,λw' hs=>?_⟩;unfold execOp;simp[ho,resolve,hcl,invoke,builtin,gF,yH];rw[lS];simp[Builtin.len_,aS eB,goInt]
def TV.akh:TV E->O (J (TV E))
 | .dat t x=>cond t.isAgg (Iu E 4 t x) WP
 | .agg cs=>W0 cs
 | _=>WP
theorem afY(hE:E.Ok)(hv:VT E w G d v)(h:d.akh=W0 cs):∃vs:aJ Value,v=.agg vs/\bI E w G cs vs.toList:=by
 cases d<;>try trivial
 case dat t x=>
  simp only[TV.akh]at h;cases ha:t.isAgg<;>rw[ha]at h<;>simp only[aY,aM]at h
  ·cases h
  ·obtain⟨vs,rfl,h0⟩:=hv.afE ha
   exact⟨vs,rfl,yY hE 4 t x h0 h⟩
 case agg ds=>
  cases h;simp only[VT]at hv;obtain⟨vs,rfl,h1,h2⟩:=hv;exact⟨vs,rfl,h2⟩
def afZ:J (TV E)->J (Nat×TV E)->O (J (TV E))
 | cs,[]=>W0 cs
 | cs,(j,d)::rest=>match d.o8 with
  | some [u]=>cond (Nat.ble (j+1) cs.length) (afZ (cs.take j++[u]++cs.drop (j+1)) rest) WP
  | _=>WP
theorem XP(hE:E.Ok)(hr:Rel E w0 G0 st a w G):∀(parts:J (Nat×dB))(cells:aJ Value)(ds:J (TV E)){ds':J (TV E)},bI E w G ds cells.toList->(∀u,u∈cells.toList->u.oneCell'=WF) ->
  afZ ds (parts.map λp=>(p.1,st.ev p.2))=W0 ds' ->
  ∃cells':aJ Value,Instr.fill (λi=>W0 (i*1,1)) cells (parts.map λp=>(p.1,a.eval p.2))=W0 cells'/\bI E w G ds' cells'.toList/\∀u,u∈cells'.toList->u.oneCell'=WF
 | [],cells,ds,ds',h,h1,hf=>by cases hf;exact⟨cells,rfl,h,h1⟩
 | (j,x)::rest,cells,ds,ds',h,h1,hf=>by
  simp only[jY,afZ]at hf;split at hf<;>try trivial
  rename_i u hl;cases hb:Nat.ble (j+1) ds.length<;>rw[hb]at hf<;>simp only[aY,aM]at hf
  ·cases hf
  have hle:=lG hb;obtain⟨hx,hx1⟩:=sY hE (hr.ev x) hl;have hlen:(a.eval x).cells.size=1:=by simpa using hx.length
  have hcl:cells.size=ds.length:=by simpa using h.length
  simp only[jY];rw[N7 (off:=j) (size:=1) si hlen om,hlen];refine XP hE hr rest _ _ ?_ ?_ hf
  ·simp only[]
   exact((h.take _).append hx).append (h.drop _)
  ·intro u hu
   simp only[p8]at hu;rcases hu with (hu|hu)|hu
   ·exact h1 u (R3 hu)
   ·exact hx1 u (by simpa using hu)
   ·exact h1 u (aeH hu)
theorem ad5{T:Ty}:∀ {ds:J (TV E)}{us:J Value}{xs:J (T.den E.D)},oA T ds=W0 xs->bI E w G ds us->∀m,m<xs.length->∃u,us[m]? = W0 u/\VT E w G (.dat T (xs.getD m (T.dflt E))) u
 | [],us,xs,h,hv,m,hm=>by simp only[oA]at h;cases h;simp at hm
 | d::ds,us,xs,h,hv,m,hm=>by
  simp only[oA]at h;split at h<;>try trivial
  rename_i x xs' e1 e2;cases h;obtain⟨u,us',rfl,q1,q2⟩:=hv.cons_inv
  cases m with
  | zero=>exact⟨u,rfl,TV.uJ e1 q1⟩
  | succ m=>exact ad5 e2 q2 m (by simpa using hm)
def ZD(P:bh)(ty:aK->O Ty)(st:TS E):Op->O (Bool×TV E)
 | .build t parts=>match aV P t with
  | some ⟨.array _ e,_,_,.agg z⟩=>match aV P e,afZ (z.toList.map TV.Kj) (parts.toList.map λp=>(p.1,st.ev p.2))with
   | some i,W0 ds=>W0 (ST i.size 1&&z.toList.all (·.oneCell'),Qh E (ty t) ds)
   | _,_=>WP
  | _=>WP
 | .index t x ix=>match aV P t,st.ev ix with
  | some ⟨.array n e,_,_,_⟩,.dat (.int _) m=>match aV P e,ty e,(st.ev x).akh with
   | some i,W0 T,W0 cs=>match oA T cs with
    | some xs=>W0 (ST i.size 1&&(!i.isAgg&&(ST n xs.length&&(T1 (0<=m)&&T1 (m<(n:Int))))),.dat T (xs.getD (Ts m) (T.dflt E)))
    | none=>WP
   | _,_,_=>WP
  | _,_=>WP
 | _=>WP
theorem adf(hE:E.Ok)(hr:Rel E w0 G0 st a w G)(h:ZD P ty st o.op=W0 (cc,d))(hc:cc=WF):jB P a w G o d:=by
 cases ho:o.op<;>rw[ho]at h<;>simp only[ZD]at h<;>try trivial
 case build t parts=>
  split at h<;>try trivial
  rename_i n e j1 j2 z ht;split at h<;>try trivial
  rename_i i ds hi hp;cases h;rw[cH]at hc;have c1:=eM hc.1;obtain⟨xt,jU,eB,-,-,hz⟩:=aP ht;obtain⟨xe,qI,-,hsz,-⟩:=aP hi;obtain⟨cells,hf,hl,hl1⟩:=XP hE hr parts.toList z (z.toList.map TV.Kj) bI.ofValues (λu hu=>pE.1 hc.2 u hu) hp;refine fU (f:=λρ=>Instr.build t (parts.map λ(i,x)=>(i,ρ x))) (by simp[execOp,ho]) ⟨.agg cells,Jz hE hl hl1,λw' hs=>?_⟩;refine run_build w' t _ cells ?_;unfold Program.built;simp only[jU,eB,hz,qI,hsz,c1];rw[show(parts.map λ(i,x)=>(i,a.eval x)).toList=parts.toList.map λp=>(p.1,a.eval p.2) by simp];exact hf
 case index t x ix=>
  split at h<;>try trivial
  rename_i n e j1 j2 z kd m ht hn;obtain⟨m,hm0⟩:∃q:Int,q=m:=⟨m,rfl⟩;subst hm0;have DI:=hr.ev ix;rw[hn]at DI;have TY:=DI.fT;split at h<;>try trivial
  rename_i i T cs hi hT hx;split at h<;>try trivial
  rename_i xs hxs;cases h;simp only[cH,Ej,eT]at hc;obtain⟨c1,c2,c3,c4,c5⟩:=hc;have c1:=eM c1;have c3:=eM c3;have c4:(0:Int)<=m:=c4;have c5:m<(n:Int):=c5;obtain⟨xt,jU,eB,-⟩:=aP ht;obtain⟨xe,qI,-,hsz,-⟩:=aP hi;obtain⟨vs,lS,hvs⟩:=afY hE (hr.ev x) hx;obtain⟨u,hu,hv⟩:=ad5 hxs hvs m.toNat om;refine fU (f:=λρ=>Instr.index t (ρ x) (ρ ix)) (by simp[execOp,ho]) ⟨u,hv,λw' hs=>?_⟩;rw[lS,TY];unfold Instr.index asIntOf part;have h3:(0<=m/\m<((n:Nat):Int)):=⟨c4,c5⟩;simp at hu;simp only[jm,pz,jL,aS eB,h3,and_self,if_true,fu qI,hsz,c1,Td,TQ hi,c2];simp[hu]
def Um(P:bh)(ty:aK->O Ty)(st:TS E)(o:Op):O (Bool×TV E):=match Uk P ty st o with
 | some x=>W0 x
 | none=>match Ul P st o with
  | some x=>W0 x
  | none=>ZD P ty st o
theorem Rw(hE:E.Ok)(hr:Rel E w0 G0 st a w G){c:Bool}(h:Um P ty st o.op=W0 (c,d))(hc:c=WF):jB P a w G o d:=by
 unfold Um at h;split at h
 ·rename_i x hx
  cases h;exact ac9 hE hr hx hc
 ·split at h
  ·rename_i x hx
   cases h;exact ade hE hr hx hc
  ·exact adf hE hr h hc
def af0(P:bh)(st:TS E)(dst:O Nat):Op->O (Bool×TS E)
 | .store t x y=>match aV P t,st.ev x,(st.ev y).o8 with
  | some i,.ptr r off,W0 [u]=>match st.H[r]? with
   | some (.lI e cap T xs d)=>W0 (ST i.size 1&&ST off xs.length,{st with t:=cz st.t dst .any,H:=st.H.set r (.lI e cap T xs u),d:=r::st.d})
   | _=>WP
  | _,_,_=>WP
 | _=>WP
theorem af1(hE:E.Ok)(hr:Rel E w0 G0 st a w G){c:Bool}(h:af0 P st o.dst o.op=W0 (c,st'))(hc:c=WF):jT P w0 G0 a w o st':=by
 cases ho:o.op<;>rw[ho]at h<;>simp[af0]at h<;>try trivial
 case store t x y=>
  split at h<;>try trivial
  rename_i i r off u ht hd hy;split at h<;>try trivial
  rename_i e cap T xs d hb;cases h;rw[cH]at hc;have c1:=eM hc.1;have c2:=eM hc.2;have Ah:=hr.ev x;rw[hd]at Ah;obtain⟨b,he,hat⟩:=Ah;obtain⟨vs,hh,hsz,hxs,hdv,hlt⟩:=hr.box hat hb;obtain⟨hl,hl1⟩:=sY hE (hr.ev y) hy;have hlen:(a.eval y).cells.toList.length=1:=by rw[hl.length];rfl
  have hlen':(a.eval y).cells.size=i.size:=by rw[c1];simpa using hlen
  obtain⟨v,hv⟩:∃v,(a.eval y).cells.toList=[v]:=by
   match hq:(a.eval y).cells.toList,hlen with
   | [v],_=>exact⟨v,rfl⟩
  obtain⟨xt,jU,-,asd,-⟩:=aP ht;have hfit:xs.length+0+(a.eval y).cells.toList.length<=vs.size:=by rw[hsz];omega
  have T8:=run_storeCells_at (P:=P) b xs.length e (a.eval y).cells.toList 0 vs w hh hfit (λv hv=>hl1 v (by simpa using hv));obtain⟨new,hnw⟩:∃new,new=(vs.toList.take xs.length++(a.eval y).cells.toList++vs.toList.drop (xs.length+(a.eval y).cells.toList.length)).toArray:=⟨_,rfl⟩
  have hrun:(execOp a.eval o).run P w=.ok .skip (w.setRow b new):=by
   simp[execOp,ho,Instr.storeAt,Instr.sureAddr,he,storeVar,fu jU]
   simp_all
  have hnew:(w.setRow b new).heap[b]? = W0 (.cells new e (0,0)):=setRow_heap w b vs _ e _ hh;have Es:∀b',b'≠b->(w.setRow b new).heap[b']? = w.heap[b']?:=λb' hb'=>setRow_other w b b' _ hb';have uK:new.size=cap:=by grind
  have Ol:∀q,new.getD q undef=if q=xs.length then v else vs.getD q undef:=by
   intro q;rw[PD,PD];have htl:(vs.toList.take xs.length).length=xs.length:=by grind
   by_cases h1:q<xs.length
   ·grind
   ·by_cases h2:q=xs.length
    ·simp_all
    ·rw[if_neg h2]
     grind
  have hR:=hr.yZ (w':=w.setRow b new) hat si rfl rfl rfl Es (x:=.lI e cap T xs u) (λhg=>by
   refine⟨new,hnew,uK,λq x hx=>?_,?_,hlt⟩
   ·have hq:=(eY.1 hx).1
    rw[Ol,if_neg om];exact(hxs q x hx).mono hg
   ·rw[Ol,if_pos rfl]
    have:=hl.mono hg;rw[hv]at this;obtain⟨u',us,e1,h1,-⟩:=this.cons_inv;cases e1;exact h1)
  exact⟨_,undef,_,G,hrun,.inr ⟨rfl,rfl⟩,hR.put (by simp[VT]) o.dst⟩
def aaN(P:bh)(ty:aK->O Ty)(st:TS E)(dst:O Nat)(op:Op):O (Bool×TS E):=match aaK P ty st dst op with
 | some r=>W0 r
 | none=>match afW P ty st dst op with
  | some r=>W0 r
  | none=>af0 P st dst op
theorem af2(hE:E.Ok)(hr:Rel E w0 G0 st a w G){c:Bool}(h:aaN P ty st o.dst o.op=W0 (c,st'))(hc:c=WF):jT P w0 G0 a w o st':=by
 grind[aaN,afQ,afX,af1]
inductive aaO where
 | ptr|iface|func|slice|map
 deriving DecidableEq
def aaO.val:aaO->Value
 | .ptr=>.pointer WP
 | .iface=>.nilIface
 | .func=>.nilFunc
 | .slice=>.slice WP 0 0
 | .map=>.map WP
def aki:Value->O aaO
 | .pointer WP=>W0 .ptr
 | .nilIface=>W0 .iface
 | .nilFunc=>W0 .func
 | .slice WP 0 0=>W0 .slice
 | .map WP=>W0 .map
 | _=>WP
theorem amZ{k:aaO}(h:aki v=W0 k):v=k.val:=by
 unfold aki at h;split at h<;>cases h<;>rfl
inductive CT where
 | dat (t:Ty)
 | any
 | ptr (r off:Nat)
 | qj (r off:Nat)
 | jy (r:Nat)
 | uI (r:Nat)
 | cA (j:Nat) (t:Ty)
 | eA (j:Nat)
 | func (f:FuncId) (caps:List (Nat×Nat))
 | nil (k:aaO)
 | sV (t:Ty) (off:Nat)
 | iface (ty:TypeId) (t:Ty)
 | iC (j k:Nat)
 | uk (t:Ty)
 | lb (b:Bool)
 | li (k:IntKind) (n:Int)
 | pk (t:Ty)
def CT.pk? : CT->O Ty
 | .pk t=>W0 t
 | _=>WP
inductive PT where
 | one (c:CT)
 | agg (cs:List CT)
 | dG (cs:List CT)
inductive BT where
 | cells (ty:TypeId) (cs:List CT)
 | map (kt vt:Ty)
 | iter
 | loop (y:Nat) (cs:List CT)
def CT.tys:CT->J Ty
 | .dat t=>[t]
 | .qj _ _=>[.bool]
 | .cA _ t=>[.bq t]
 | .sV t _=>[t]
 | .iface _ t=>[t]
 | .uk t=>[.bq t]
 | .pk t=>[t]
 | _=>[]
def CT.aaP:J CT->J Ty
 | []=>[]
 | c::cs=>c.tys++aaP cs
def PT.tys:PT->J Ty
 | .one c=>c.tys
 | .agg cs=>CT.aaP cs
 | .dG cs=>CT.aaP cs
def BT.tys:BT->J Ty
 | .cells _ cs=>CT.aaP cs
 | .loop _ cs=>CT.aaP cs
 | .map kt vt=>[.bq (.pair kt vt)]
 | .iter=>[.str,.int .i64]
abbrev Lf(E:TEnv):=(t:Ty)×t.den E.D
@[reducible] def dens (E : TEnv) : J Ty -> Type
 | []=>Unit
 | [t]=>t.den E.D
 | t::u::ts=>t.den E.D×dens E (u::ts)
def ZE(t:Ty)(x:Lf E):O (t.den E.D):=if h:x.1=t then W0 (h▸x.2)else WP
def getAll:(ts:J Ty)->J (Lf E)->O (dens E ts)
 | [],[]=>W0 ()
 | [],_::_=>WP
 | [t],[x]=>ZE t x
 | [_],[]=>WP
 | [_],_::_::_=>WP
 | t::u::ts,x::xs=>match ZE t x,getAll (u::ts) xs with
  | some y,W0 ys=>W0 (y,ys)
  | _,_=>WP
 | _::_::_,[]=>WP
def aR:(ts:J Ty)->dens E ts->J (Lf E)
 | [],_=>[]
 | [t],x=>[⟨t,x⟩]
 | t::u::ts,x=>⟨t,x.1⟩::aR (u::ts) x.2
theorem aaQ{t:Ty}{x:Lf E}{y:t.den E.D}(h:ZE t x=W0 y):x=⟨t,y⟩:=by
 grind[ZE]
theorem DK:∀(ts:J Ty){ls:J (Lf E)}{x:dens E ts},getAll ts ls=W0 x->aR ts x=ls
 | [],[],_,_=>rfl
 | [],_::_,_,h=>by cases h
 | [t],[l],x,h=>by grind[getAll,aR,aaQ]
 | [_],[],_,h=>by cases h
 | [_],_::_::_,_,h=>by cases h
 | t::u::ts,l::ls,x,h=>by
  simp[getAll]at h;split at h<;>try trivial
  rename_i y ys h1 h2;cases h
  simp[aR,aaQ h1,DK (u::ts) h2]
 | _::_::_,[],_,h=>by cases h
structure Rn where
 b:List Nat
 g:List Nat
 v:List Nat
def wI(a b c d:Nat):Bool:=ST a b&&ST c d
def Om(n:Rn):J (Nat×Nat)->J (TV E)->Bool
 | [],[]=>WF
 | (r,off)::cs,d::ds=>(match n.b[r]?,d with
  | some r',.ptr r'' off'=>wI r' r'' off off'
  | _,_=>UV)&&Om n cs ds
 | _,_=>UV
def Gd(n:Rn):J (Nat×Nat)->J (TV E)
 | []=>[]
 | (r,off)::cs=>(match n.b[r]? with|some r'=>.ptr r' off|none=>.any)::Gd n cs
def CT.get(n:Rn):CT->TV E->O (J (Lf E))
 | .dat t,d=>match d.get t with|some x=>W0 [⟨t,x⟩]|none=>WP
 | .any,_=>W0 []
 | .ptr r off,.ptr r' off'=>match n.b[r]? with
  | some r''=>cond (wI r'' r' off off') (W0 []) WP
  | none=>WP
 | .qj r off,.qj b r' off'=>match n.b[r]? with
  | some r''=>cond (wI r'' r' off off') (W0 [⟨.bool,b⟩]) WP
  | none=>WP
 | .qj r off,.ptr r' off'=>match n.b[r]? with
  | some r''=>cond (wI r'' r' off off') (W0 [⟨.bool,WF⟩]) WP
  | none=>WP
 | .qj _ _,.val (.pointer WP)=>W0 [⟨.bool,UV⟩]
 | .jy r,.jy r'=>match n.b[r]? with
  | some r''=>cond (ST r'' r') (W0 []) WP
  | none=>WP
 | .uI r,.uI r'=>match n.b[r]? with
  | some r''=>cond (ST r'' r') (W0 []) WP
  | none=>WP
 | .cA j t,.cA j' aF t' xs=>match n.g[j]?,n.v[j]? with
  | some IB,W0 v=>if h:t'=t then cond (wI IB j' v aF) (W0 [⟨.bq t,(h▸xs:J (t.den E.D))⟩]) WP else WP
  | _,_=>WP
 | .func f caps,.func (.func f') cs=>cond (ST f f'&&Om n caps cs) (W0 []) WP
 | .nil k,.val v=>match aki v with|some k'=>cond (T1 (k=k')) (W0 []) WP|none=>WP
 | .sV t off,.sV t' y off'=>if h:t'=t then cond (ST off off') (W0 [⟨t,h▸y⟩]) WP else WP
 | .iface ty t,.iface ty' d=>match d.get t with|some x=>cond (ST ty ty') (W0 [⟨t,x⟩]) WP|none=>WP
 | .eA j,.eA j' aF=>match n.g[j]?,n.v[j]? with
  | some IB,W0 v=>cond (wI IB j' v aF) (W0 []) WP
  | _,_=>WP
 | .iC j k,.iC j' aF k' i off=>match n.g[j]?,n.v[j]? with
  | some IB,W0 v=>cond (wI IB j' v aF&&(ST k k'&&wI i 0 off 0)) (W0 []) WP
  | _,_=>WP
 | .uk t,.uk t' xs=>if h:t'=t then W0 [⟨.bq t,(h▸xs:J (t.den E.D))⟩]else WP
 | .lb b,.dat .bool x=>cond (b==x) (W0 []) WP
 | .li k n,.dat (.int k') x=>cond (T1 (k=k')&&T1 (n=x)) (W0 []) WP
 | _,_=>WP
def CT.put(n:Rn):CT->J (Lf E)->TV E×J (Lf E)
 | .dat _,l::ls=>(.dat l.1 l.2,ls)
 | .ptr r off,ls=>(match n.b[r]? with|some r'=>.ptr r' off|none=>.any,ls)
 | .qj r off,l::ls=>(match n.b[r]?,l with|some r',⟨.bool,b⟩=>.qj b r' off|_,_=>.any,ls)
 | .jy r,ls=>(match n.b[r]? with|some r'=>.jy r'|none=>.any,ls)
 | .uI r,ls=>(match n.b[r]? with|some r'=>.uI r'|none=>.any,ls)
 | .cA j _,l::ls=>(match n.g[j]?,n.v[j]?,l with|some j',W0 v,⟨.bq t,xs⟩=>.cA j' v t xs|_,_,_=>.any,ls)
 | .func f caps,ls=>(.func (.func f) (Gd n caps),ls)
 | .nil k,ls=>(.val k.val,ls)
 | .sV _ off,l::ls=>(.sV l.1 l.2 off,ls)
 | .iface ty _,l::ls=>(.iface ty (.dat l.1 l.2),ls)
 | .eA j,ls=>(match n.g[j]?,n.v[j]? with|some j',W0 v=>.eA j' v|_,_=>.any,ls)
 | .iC j k,ls=>(match n.g[j]?,n.v[j]? with|some j',W0 v=>.iC j' v k 0 0|_,_=>.any,ls)
 | .uk _,l::ls=>(match l with|⟨.bq t,xs⟩=>.uk t xs|_=>.any,ls)
 | .lb b,ls=>(.dat .bool b,ls)
 | .li k n,ls=>(.dat (.int k) n,ls)
 | _,ls=>(.any,ls)
def CT.ao3(t:Ty)(ds:J (TV E)):O (t.den E.D×J (TV E)):=match N6 E 4 t ds with
 | some p=>match Iu E 4 t p.1 with
  | some _=>W0 p
  | none=>WP
 | none=>WP
def CT.Lq:J (Lf E)->J (TV E)×J (Lf E)
 | l::ls=>(match Iu E 4 l.1 l.2 with|some cs=>cs|none=>[],ls)
 | []=>([],[])
def CT.JD(n:Rn):J CT->J (TV E)->O (J (Lf E))
 | [],[]=>W0 []
 | [],_::_=>WP
 | c::cs,ds=>match c.pk? with
  | some t=>match CT.ao3 t ds with
   | some p=>match JD n cs p.2 with
    | some ls=>W0 (⟨t,p.1⟩::ls)
    | none=>WP
   | none=>WP
  | none=>match ds with
   | d::ds=>match c.get n d,JD n cs ds with
    | some l,W0 ls=>W0 (l++ls)
    | _,_=>WP
   | []=>WP
def CT.pM(n:Rn):J CT->J (Lf E)->J (TV E)×J (Lf E)
 | [],ls=>([],ls)
 | c::cs,ls=>match c.pk? with
  | some _=>((CT.Lq ls).1++(pM n cs (CT.Lq ls).2).1,(pM n cs (CT.Lq ls).2).2)
  | none=>((c.put n ls).1::(pM n cs (c.put n ls).2).1,(pM n cs (c.put n ls).2).2)
def PT.get(n:Rn):PT->TV E->O (J (Lf E))
 | .one c,d=>c.get n d
 | .agg cs,.agg ds=>CT.JD n cs ds
 | .dG cs,.tuple ds=>CT.JD n cs ds
 | _,_=>WP
def PT.put(n:Rn):PT->J (Lf E)->TV E×J (Lf E)
 | .one c,ls=>c.put n ls
 | .agg cs,ls=>(.agg (CT.pM n cs ls).1,(CT.pM n cs ls).2)
 | .dG cs,ls=>(.tuple (CT.pM n cs ls).1,(CT.pM n cs ls).2)
def BT.get(n:Rn):BT->fK E->O (J (Lf E))
 | .cells ty cs,.cells ty' ds=>cond (ST ty ty') (CT.JD n cs ds) WP
 | .map kt vt,.map kt' vt' m=>if h:Ty.bq (.pair kt' vt')=.bq (.pair kt vt)then W0 [⟨.bq (.pair kt vt),(h▸(show(Ty.bq (.pair kt' vt')).den E.D from m):(Ty.bq (.pair kt vt)).den E.D)⟩]else WP
 | .iter,.iter s pos=>W0 [⟨.str,s⟩,⟨.int .i64,(pos:Int)⟩]
 | .loop y cs,.loop y' ds=>cond (ST y y') (CT.JD n cs ds) WP
 | _,_=>WP
def BT.put(n:Rn):BT->J (Lf E)->fK E×J (Lf E)
 | .cells ty cs,ls=>(.cells ty (CT.pM n cs ls).1,(CT.pM n cs ls).2)
 | .loop y cs,ls=>(.loop y (CT.pM n cs ls).1,(CT.pM n cs ls).2)
 | .map _ _,l::ls=>(match l with|⟨.bq (.pair kt vt),m⟩=>.map kt vt m|_=>.iter [] 0,ls)
 | .iter,l::l'::ls=>(match l,l' with|⟨.str,s⟩,⟨.int _,p⟩=>.iter s (Ts p)|_,_=>.iter [] 0,ls)
 | _,ls=>(.iter [] 0,ls)
structure CN(w:World)(G:bx)(n:Rn)(G2:bx)(n2:Rn):Prop where
 pr:∀b o,G.pr b o->G2.pr b o
 i:∀(r r' b:Nat),n.b[r]? = W0 r'->G.i[r']? = W0 b->∃r2,n2.b[r]? = W0 r2/\G2.i[r2]? = W0 b
 g:∀(j j' v:Nat) x h,n.g[j]? = W0 j'->n.v[j]? = W0 v->G.g[j']? = W0 (x,h)->x.aF=v/\∃j2 v2 x2,n2.g[j]? = W0 j2/\n2.v[j]? = W0 v2/\G2.g[j2]? = W0 (x2,h)/\x2.aF=v2
theorem Aj{a c d:Nat}(h:wI a b c d=WF):a=b/\c=d:=by
 simp_all[wI,cH,eM]
variable{G2:bx}{n n2:Rn}{ls rest:J (Lf E)}
theorem VT.td{t:Ty}{x:t.den E.D}(h:VT E w G (.dat t x) v)(hp:∀b o,G.pr b o->G2.pr b o):VT E w G2 (.dat t x) v:=by
 cases ha:t.isAgg
 ·exact .Qg ha ((h.atom ha).mono hp (λ_ _ _ _ h=>h))
 ·obtain⟨vs,rfl,h0⟩:=h.afE ha
  simp only[VT,ha];exact⟨vs,rfl,h0.mono hp (λ_ _ _ _ h=>h)⟩
theorem ad6(hL:CN w G n G2 n2):∀(caps:J (Nat×Nat)){cs:J (TV E)}{vs:J Value},Om n caps cs=WF->bI E w G cs vs->bI E w G2 (Gd n2 caps:J (TV E)) vs
 | [],[],vs,_,h=>h
 | (r,off)::caps,d::ds,vs,hc,h=>by
  simp[Om]at hc;obtain⟨u,us,rfl,h1,h2⟩:=h.cons_inv;obtain⟨hc1,Ki⟩:=hc;split at hc1<;>try trivial
  rename_i r' r'' off' hr;obtain⟨rfl,rfl⟩:=Aj hc1;obtain⟨b,rfl,hb⟩:=h1;obtain⟨r2,hr2,nP⟩:=hL.i r r' b hr hb;refine .cons ?_ (ad6 hL caps Ki h2)
  simp_all[VT]
 | [],_::_,_,hc,_=>by cases hc
 | (_,_)::_,[],_,hc,_=>by cases hc
theorem CT.sound(hL:CN w G n G2 n2){c:CT}(h:c.get n d=W0 ls)(hv:VT E w G d v):
  (c.put n2 (ls++rest)).2=rest/\VT E w G2 (c.put n2 (ls++rest)).1 v:=by
 unfold CT.get at h;split at h<;>try trivial
 ·split at h<;>try trivial
  rename_i t x hx;cases h;exact⟨rfl,(TV.uJ hx hv).td hL.pr⟩
 ·simp_all[CT.put,p9,vh,VT]
 ·rename_i r off r' off'
  split at h<;>try trivial
  rename_i r'' hr;cases hb:wI r'' r' off off'<;>rw[hb]at h<;>simp only[aY,aM]at h
  ·cases h
  obtain⟨rfl,rfl⟩:=Aj hb;obtain⟨b,rfl,hb⟩:=hv;obtain⟨r2,hr2,nP⟩:=hL.i r r'' b hr hb
  simp_all[CT.put,p9,vh,VT]
 ·rename_i r off bb r' off'
  split at h<;>try trivial
  rename_i r'' hr;cases hb:wI r'' r' off off'<;>rw[hb]at h<;>simp only[aY,aM]at h
  ·cases h
  cases h;obtain⟨rfl,rfl⟩:=Aj hb;cases bb<;>simp only[VT]at hv
  ·simp only[CT.put,vO,p9,vh]
   grind[VT]
  ·obtain⟨b,rfl,hb⟩:=hv
   obtain⟨r2,hr2,nP⟩:=hL.i r r'' b hr hb
   simp_all[CT.put,vO,p9,vh,VT]
 ·rename_i r off r' off'
  split at h<;>try trivial
  rename_i r'' hr;cases hb:wI r'' r' off off'<;>rw[hb]at h<;>simp only[aY,aM]at h
  ·cases h
  cases h;obtain⟨rfl,rfl⟩:=Aj hb;obtain⟨b,rfl,hb⟩:=hv;obtain⟨r2,hr2,nP⟩:=hL.i r r'' b hr hb
  simp_all[CT.put,vO,p9,vh,VT]
 ·cases h
  simp only[CT.put,vO,p9,vh]
  grind[VT]
 ·rename_i r r'
  split at h<;>try trivial
  rename_i r'' hr;cases hb:ST r'' r'<;>rw[hb]at h<;>simp only[aY,aM]at h
  ·cases h
  obtain rfl:=eM hb;obtain⟨b,rfl,hb⟩:=hv;obtain⟨r2,hr2,nP⟩:=hL.i r r'' b hr hb
  simp_all[CT.put,p9,vh,VT]
 ·rename_i r r'
  split at h<;>try trivial
  rename_i r'' hr;cases hb:ST r'' r'<;>rw[hb]at h<;>simp only[aY,aM]at h
  ·cases h
  obtain rfl:=eM hb;obtain⟨b,rfl,hb⟩:=hv;obtain⟨r2,hr2,nP⟩:=hL.i r r'' b hr hb
  simp_all[CT.put,p9,vh,VT]
 ·rename_i j t j' aF t' xs
  split at h<;>try trivial
  rename_i IB vv hj DL;split at h<;>try trivial
  rename_i ht;subst ht;cases hb:wI IB j' vv aF<;>rw[hb]at h<;>simp only[aY,aM]at h
  ·cases h
  cases h;obtain⟨rfl,rfl⟩:=Aj hb;obtain⟨AY,x,hh,hg,hle,heq⟩:=hv;obtain⟨Un,j2,v2,x2,q1,q2,q3,q4⟩:=hL.g j IB vv x hh hj DL hg;simp only[CT.put,q1,q2,vO,p9,vh,VT];refine⟨AY.mono hL.pr (λ_ _ _ _ h=>h),x2,hh,q3,om,λ_=>heq Un.symm⟩
 ·rename_i f caps f' cs
  cases hb:(ST f f'&&Om n caps cs)<;>rw[hb]at h<;>simp only[aY,aM]at h
  ·cases h
  rw[cH]at hb;obtain rfl:=eM hb.1;simp only[VT]at hv;simp only[CT.put,p9,vh,VT]
  grind[ad6]
 ·rename_i k u
  split at h<;>try trivial
  rename_i k' hk;cases hb:T1 (k=k')<;>rw[hb]at h<;>simp only[aY,aM]at h
  ·cases h
  cases h;simp only[eT]at hb;subst hb;subst hv;simp only[CT.put,p9,vh,VT];exact amZ hk
 ·rename_i t off t' y off'
  split at h<;>try trivial
  rename_i ht;subst ht;cases hb:ST off off'<;>rw[hb]at h<;>simp only[aY,aM]at h
  ·cases h
  cases h;obtain rfl:=eM hb;obtain⟨b,o,c,rfl,h1,h2⟩:=hv;simp only[CT.put,vO,p9,vh,VT];exact⟨b,o,c,rfl,h1.mono hL.pr (λ_ _ _ _ h=>h),λl u hl=>⟨hL.pr _ _ (h2 l u hl).1,(h2 l u hl).2⟩⟩
 ·rename_i ty t ty' d'
  split at h<;>try trivial
  rename_i x hx;cases hb:ST ty ty'<;>rw[hb]at h<;>simp only[aY,aM]at h
  ·cases h
  cases h;obtain rfl:=eM hb;obtain⟨u,rfl,hu⟩:=hv;simp only[CT.put,vO,p9,vh,VT];exact⟨u,rfl,(TV.uJ hx hu).td hL.pr⟩
 ·rename_i j j' aF
  split at h<;>try trivial
  rename_i IB vv hj DL;cases hb:wI IB j' vv aF<;>rw[hb]at h<;>simp only[aY,aM]at h
  ·cases h
  obtain⟨rfl,rfl⟩:=Aj hb;obtain⟨x,hh,hg,hle,h1,heq⟩:=hv;obtain⟨Un,j2,v2,x2,q1,q2,q3,q4⟩:=hL.g j IB vv x hh hj DL hg;simp only[CT.put,q1,q2,p9,vh,VT]
  grind
 ·rename_i j k j' aF k' i off
  split at h<;>try trivial
  rename_i IB vv hj DL;cases hb:(wI IB j' vv aF&&(ST k k'&&wI i 0 off 0))<;>rw[hb]at h<;>simp only[aY,aM]at h
  ·cases h
  rw[cH,cH]at hb;obtain⟨vW,nP,hb3⟩:=hb;obtain⟨rfl,rfl⟩:=Aj vW;obtain⟨rfl,rfl⟩:=Aj hb3;obtain⟨x,hh,hg,hle,h1,heq⟩:=hv;obtain⟨Un,j2,v2,x2,q1,q2,q3,q4⟩:=hL.g j IB vv x hh hj DL hg;simp only[CT.put,q1,q2,p9,vh,VT]
  grind
 ·split at h<;>try trivial
  rename_i ht;subst ht;cases h;obtain⟨vs,rfl,h1,h2⟩:=hv;simp only[CT.put,vO,p9,vh,VT];exact⟨vs,rfl,h1,h2.mono hL.pr (λ_ _ _ _ h=>h)⟩
 ·rename_i b x
  cases hb:(b==x)<;>rw[hb]at h<;>simp only[aY,aM]at h
  ·cases h
  cases h;rw[p7]at hb;subst hb;refine⟨rfl,?_⟩;rw[VT.mu hv];exact .bool _ _ _
 ·rename_i k n k' x
  cases hb:(T1 (k=k')&&T1 (n=x))<;>rw[hb]at h<;>simp only[aY,aM]at h
  ·cases h
  cases h;rw[cH,eT,eT]at hb;obtain⟨rfl,rfl⟩:=hb;refine⟨rfl,?_⟩;rw[VT.fT hv];exact .int _ _ _ _
theorem CT.On(hE:E.Ok)(hL:CN w G n G2 n2):∀ {cs:J CT}{ds:J (TV E)}{ls rest:J (Lf E)}{vs:J Value},CT.JD n cs ds=W0 ls->bI E w G ds vs ->
  (CT.pM n2 cs (ls++rest)).2=rest/\bI E w G2 (CT.pM n2 cs (ls++rest)).1 vs
 | [],[],ls,rest,vs,h,hv=>by cases h;simp[bI]at hv;subst hv;exact⟨rfl,bI.nil⟩
 | c::cs,ds,ls,rest,vs,h,hv=>by
  unfold CT.JD at h;unfold CT.pM;split at h
  ·rename_i t ht
   split at h<;>try trivial
   rename_i p hp;split at h<;>try trivial
   rename_i ls' h2;cases h;unfold CT.ao3 at hp;split at hp<;>try trivial
   rename_i p' hp';split at hp<;>try trivial
   rename_i fc XG;cases hp;obtain⟨us,ts,rfl,q1,q2⟩:=A9 hE 4 t hv hp';obtain⟨e3,e4⟩:=CT.On hE hL h2 q2;simp[ht,CT.Lq,XG];exact⟨e3,(yY hE 4 t p.1 (q1.mono hL.pr (λ_ _ _ _ h=>h)) XG).append e4⟩
  ·rename_i ht
   split at h<;>try trivial
   split at h<;>try trivial
   rename_i l ls' h1 h2;cases h;obtain⟨u,us,rfl,q1,q2⟩:=hv.cons_inv;obtain⟨e1,e2⟩:=CT.sound hL (rest:=ls'++rest) h1 q1;obtain⟨e3,e4⟩:=CT.On hE hL h2 q2;simp[ht,e1]
   exact⟨e3,.cons e2 e4⟩
 | [],_::_,_,_,_,h,_=>by cases h
theorem PT.sound(hE:E.Ok)(hL:CN w G n G2 n2){p:PT}(h:p.get n d=W0 ls)(hv:VT E w G d v):
  (p.put n2 (ls++rest)).2=rest/\VT E w G2 (p.put n2 (ls++rest)).1 v:=by
 unfold PT.get at h
 grind[CT.sound,VT,CT.On,PT.put]
theorem gp.pr{kt vt:Ty}(hp:∀b o,G.pr b o->G2.pr b o):∀ {es:J MapEntry}{m:J (kt.den E.D×vt.den E.D)},gp E w G kt vt es m->gp E w G2 kt vt es m
 | [],[],_=>trivial
 | _::_,_::_,h=>⟨h.1.td hp,h.2.1.td hp,gp.pr hp h.2.2⟩
 | [],_::_,h=>h.elim
 | _::_,[],h=>h.elim
theorem BT.sound(hE:E.Ok)(hL:CN w G n G2 n2){t:BT}{x:fK E}(h:t.get n x=W0 ls)(hv:jW E w G b x):
  (t.put n2 (ls++rest)).2=rest/\jW E w G2 b (t.put n2 (ls++rest)).1:=by
 unfold BT.get at h;split at h<;>try trivial
 ·rename_i ty cs ty' ds
  cases hb:ST ty ty'<;>rw[hb]at h<;>simp only[aY,aM]at h
  ·cases h
  obtain rfl:=eM hb;obtain⟨vs,h1,h2,h3⟩:=hv;obtain⟨e1,e2⟩:=CT.On hE hL h h3;exact⟨e1,vs,h1,h2,e2⟩
 ·split at h<;>try trivial
  rename_i he;have he':=he;obtain⟨rfl,rfl⟩:=he';cases h;obtain⟨es,clock,h1,h2,h3⟩:=hv;refine⟨rfl,?_⟩;exact⟨es,clock,h1,h2,h3.pr hL.pr⟩
 ·cases h
  exact⟨rfl,hv⟩
 ·rename_i y cs y' ds
  cases hb:ST y y'<;>rw[hb]at h<;>simp only[aY,aM]at h
  ·cases h
  obtain rfl:=eM hb;obtain⟨Y,fn,tmps,D,h0,h1,h2⟩:=hv;obtain⟨e1,e2⟩:=CT.On hE hL h h2;exact⟨e1,Y,fn,tmps,D,h0,h1,e2⟩
structure Cut where
 vars:List (Nat×PT)
 boxes:List (Option BT)
 rows:List (Option (TypeId×Nat))
 soft:List (Nat×Ty)
def ad7:J (Nat×PT)->J Ty
 | []=>[]
 | v::vs=>v.2.tys++ad7 vs
def Lr:J (O BT)->J Ty
 | []=>[]
 | some b::bs=>b.tys++Lr bs
 | none::bs=>Lr bs
def Ql:J (Nat×Ty)->J Ty
 | []=>[]
 | p::ps=>.bq p.2::Ql ps
def Cut.tys(c:Cut):J Ty:=ad7 c.vars++(Lr c.boxes++Ql c.soft)
def Kp(f:Nat->O Nat)(cs:J (Nat×Cn E)):J (Nat×Ty)->O (J (Lf E))
 | []=>W0 []
 | p::ps=>match f p.1 with
  | some j=>match oQ cs j,Kp f cs ps with
   | some c,W0 ls=>if h:c.1=p.2 then W0 (⟨.bq p.2,(h▸c.2:J (p.2.den E.D))⟩::ls)else WP
   | _,_=>WP
  | none=>WP
def nu(f:Nat->O Nat):J (Nat×Ty)->J (Lf E)->J (Nat×Cn E)
 | [],_=>[]
 | p::ps,l::ls=>match f p.1,l with
  | some j,⟨.bq t,xs⟩=>(j,⟨t,xs⟩)::nu f ps ls
  | _,_=>nu f ps ls
 | _::_,[]=>[]
theorem Dh{f f2:Nat->O Nat}{cs:J (Nat×Cn E)}:∀ {ps:J (Nat×Ty)}{ls:J (Lf E)}(rest:J (Lf E)),Kp f cs ps=W0 ls->∀ {i:Nat}{c:Cn E},(i,c)∈nu f2 ps (ls++rest) ->
  ∃q j,(∃t,(q,t)∈ps)/\f q=W0 j/\f2 q=W0 i/\(j,c)∈cs
 | [],ls,rest,h,i,c,hm=>by cases hm
 | p::ps,ls,rest,h,i,c,hm=>by
  simp[Kp]at h;split at h<;>try trivial
  rename_i j hj;split at h<;>try trivial
  rename_i c' ls' h1 h2;split at h<;>try trivial
  rename_i ht;cases h;obtain⟨t',xs⟩:=c';obtain⟨q,t⟩:=p;dsimp only at ht;subst ht;simp[nu]at hm
  cases hf:f2 q with
  | none=>
   rw[hf]at hm;obtain⟨q',j',⟨t1,e0⟩,e1⟩:=Dh rest h2 hm
   exact⟨q',j',⟨t1,ku _ e0⟩,e1⟩
  | some i'=>
   rw[hf]at hm;rcases iy.1 hm with e|hm
   ·cases e
    exact⟨q,j,⟨t',qK ..⟩,hj,hf,Sv h1⟩
   ·obtain⟨q',j',⟨t1,e0⟩,e1⟩:=Dh rest h2 hm
    exact⟨q',j',⟨t1,ku _ e0⟩,e1⟩
def below(n:Nat):J (Nat×Ty)->Bool
 | []=>WF
 | p::ps=>So p.1 n&&below n ps
theorem aaR{n:Nat}:∀ {ps:J (Nat×Ty)},below n ps=WF->∀q t,(q,t)∈ps->q<n
 | [],_,q,t,h=>by cases h
 | p::ps,hb,q,t,h=>by
  simp[below]at hb;rcases iy.1 h with e|h
  ·rw[<-e]at hb;simp_all
  ·exact aaR hb.2 q t h
def y6:J (O (aK×Nat))->J cL->J cL->Bool
 | [],_,_=>WF
 | none::rs,x::g0,y::g=>(ST x.aF y.aF&&(ST x.e y.e&&ST x.k y.k))&&y6 rs g0 g
 | some p::rs,x::g0,y::g=>(ST p.1 y.e&&ST p.2 y.k)&&y6 rs g0 g
 | some p::rs,[],y::g=>(ST p.1 y.e&&ST p.2 y.k)&&y6 rs [] g
 | _,_,_=>UV
def dZ:J (O (aK×Nat))->J cL->J cL
 | [],_=>[]
 | none::rs,x::g0=>x::dZ rs g0
 | some p::rs,x::g0=>⟨x.aF+1,p.1,p.2⟩::dZ rs g0
 | some p::rs,[]=>⟨0,p.1,p.2⟩::dZ rs []
 | none::rs,[]=>⟨0,0,0⟩::dZ rs []
def gM:J (O (aK×Nat))->J cL->J (cL×Value)->J (cL×Value)
 | none::rs,_::g0,y::gs=>y::gM rs g0 gs
 | some _::rs,x::g0,y::gs=>({y.1 with aF:=x.aF+1},y.2)::gM rs g0 gs
 | some _::rs,[],y::gs=>({y.1 with aF:=0},y.2)::gM rs [] gs
 | _,_,_=>[]
theorem IC:∀(rows:J (O (aK×Nat)))(g0:J cL)(gs:J (cL×Value)),y6 rows g0 (gs.map (·.1))=WF ->
  (gM rows g0 gs).map (·.1)=dZ rows g0/\(gM rows g0 gs).length=rows.length/\rows.length<=gs.length /\
  ∀(j:Nat) y,gs[j]? = W0 y->j<rows.length->∃y2,(gM rows g0 gs)[j]? = W0 y2/\y2.2=y.2/\y2.1.e=y.1.e/\y2.1.k=y.1.k/\∀x0,g0[j]? = W0 x0->y2.1.aF=y.1.aF\/x0.aF<y2.1.aF
 | [],g0,gs,h=>by
  simp_all[gM,dZ]
 | none::rs,x::g0,y::gs,h=>by
  simp[y6]at h;obtain⟨⟨h1,h2,h3⟩,h4⟩:=h;obtain⟨i1,i2,i3,i4⟩:=IC rs g0 gs h4
  have hxy:y.1=x:=by
   obtain⟨a',b',c'⟩:=x
   simp_all
  grind[gM,dZ]
 | some p::rs,x::g0,y::gs,h=>by
  simp only[jY,y6,cH]at h;obtain⟨⟨h1,h2⟩,h4⟩:=h;obtain⟨i1,i2,i3,i4⟩:=IC rs g0 gs h4;have e1:=eM h1;have e2:=eM h2;refine⟨by grind[gM,dZ],by simp[gM,i2],by simpa using i3,λj z hz hj=>?_⟩
  cases j with
  | zero=>simp at hz;subst hz;exact⟨_,rfl,rfl,rfl,rfl,λx0 hx=>by simp_all⟩
  | succ j=>grind[gM]
 | some p::rs,[],y::gs,h=>by
  simp only[jY,y6,cH]at h;obtain⟨⟨h1,h2⟩,h4⟩:=h;obtain⟨i1,i2,i3,i4⟩:=IC rs [] gs h4;have e1:=eM h1;have e2:=eM h2;refine⟨by simp[gM,dZ,i1,e1,e2],by simp[gM,i2],by simpa using i3,λj z hz hj=>?_⟩
  cases j with
  | zero=>simp at hz;subst hz;exact⟨_,rfl,rfl,rfl,rfl,λx0 hx=>by simp at hx⟩
  | succ j=>simpa[gM]using i4 j z (by simpa using hz) (by simpa using hj)
 | none::rs,[],gs,h=>by cases gs<;>cases h
 | none::rs,_::_,[],h=>by cases h
 | some _::rs,[],[],h=>by cases h
 | some _::rs,_::_,[],h=>by cases h
def Qm(n:Rn)(st:TS E):J (Nat×PT)->O (J (Lf E))
 | []=>W0 []
 | (i,p)::vs=>match p.get n (st.at i),Qm n st vs with
  | some l,W0 ls=>W0 (l++ls)
  | _,_=>WP
def oR(n:Rn)(d:J Nat)(nb:Nat):Nat->J (O BT)->J (fK E)->O (J (Lf E))
 | _,[],_=>W0 []
 | r,WP::bs,_::H=>cond (d.elem r || !(So r nb)) WP (oR n d nb (r+1) bs H)
 | r,W0 t::bs,x::H=>match t.get n x,oR n d nb (r+1) bs H with
  | some l,W0 ls=>W0 (l++ls)
  | _,_=>WP
 | _,_::_,[]=>WP
def since(d0 d:J Nat):J Nat:=d.take (d.length-d0.length)
theorem ah0(n d0:J Nat):since d0 (n++d0)=n:=by simp[since]
def Cut.leaves(c:Cut)(bP st:TS E):Option (J (Lf E)):=
 cond (below c.rows.length c.soft&&(Nat.ble bP.H.length c.boxes.length&&(Nat.ble bP.g.length c.rows.length&&y6 c.rows bP.g st.g)))
  (match Qm ⟨R0 c.boxes.length,R0 c.rows.length,st.g.map (·.aF)⟩ st c.vars,oR ⟨R0 c.boxes.length,R0 c.rows.length,st.g.map (·.aF)⟩ (since bP.d st.d) bP.H.length 0 c.boxes st.H,Kp W0 st.c c.soft with
   | some a,W0 b,W0 e=>W0 (a++(b++e))
   | _,_,_=>WP) WP
def nL(W:J Nat):Nat->J (TV E)->J (TV E)
 | _,[]=>[]
 | i,d::ds=>cond (W.elem i) .any d::nL W (i+1) ds
def mX(n:Rn):J (Nat×PT)->J (TV E)->J (Lf E)->J (TV E)×J (Lf E)
 | [],t,ls=>(t,ls)
 | (i,p)::vs,t,ls=>mX n vs (t.set i (p.put n ls).1) (p.put n ls).2
def eO(n:Rn):J (Option BT)->J (fK E)->J (Lf E)->J (fK E)
 | [],_,_=>[]
 | none::bs,H,ls=>(match H with|x::_=>x | []=>default)::eO n bs H.tail ls
 | some t::bs,H,ls=>(t.put n ls).1::eO n bs H.tail (t.put n ls).2
def pV:J (O BT)->J (Lf E)->J (Lf E)
 | [],ls=>ls
 | none::bs,ls=>pV bs ls
 | some t::bs,ls=>pV bs (t.put ⟨[],[],[]⟩ ls).2
def DM:Nat->J (O BT)->J Nat
 | _,[]=>[]
 | r,WP::bs=>DM (r+1) bs
 | r,W0 _::bs=>r::DM (r+1) bs
def Cut.unpack(c:Cut)(W:J Nat)(bP:TS E)(ls:J (Lf E)):TS E:=
 let n:Rn:=⟨R0 c.boxes.length,R0 c.rows.length,(dZ c.rows bP.g).map (·.aF)⟩
 {t:=(mX n c.vars (nL W 0 bP.t) ls).1
  H:=eO n c.boxes bP.H (mX n c.vars (nL W 0 bP.t) ls).2
  g:=dZ c.rows bP.g
  d:=DM 0 c.boxes++bP.d
  df:=bP.df
  c:=nu W0 c.soft (pV c.boxes (mX n c.vars (nL W 0 bP.t) ls).2)}
mutual
def TV.Bd(nb:Nat)(g:J cL):TV E->Prop
 | .ptr r _=>r<nb
 | .qj b r _=>b=WF->r<nb
 | .jy r=>r<nb
 | .uI r=>r<nb
 | .iz r _ _=>r<nb
 | .cA j aF _ _=>∃x,g[j]? = W0 x/\aF<=x.aF
 | .Ro j aF _=>∃x,g[j]? = W0 x/\aF<=x.aF
 | .eA j aF=>∃x,g[j]? = W0 x/\aF<=x.aF
 | .iC j aF _ _ _=>∃x,g[j]? = W0 x/\aF<=x.aF
 | .uk _ _=>True
 | .func _ caps=>TV.DN nb g caps
 | .GN _ fs=>TV.DN nb g fs
 | .iface _ d=>TV.Bd nb g d
 | .agg cs=>TV.DN nb g cs
 | .tuple ds=>TV.DN nb g ds
 | .any=>True
 | .dat _ _=>True
 | .sV _ _ _=>True
 | .val _=>True
def TV.DN(nb:Nat)(g:J cL):J (TV E)->Prop
 | []=>True
 | d::ds=>TV.Bd nb g d/\TV.DN nb g ds
end
variable{nb:Nat}{g0:J cL}
mutual
theorem VT.bd:∀ {d:TV E}{v:Value},VT E w G d v->TV.Bd G.i.length (G.g.map (·.1)) d
 | .any,_,_=>by simp only[TV.Bd]
 | .dat _ _,_,_=>by simp only[TV.Bd]
 | .sV _ _ _,_,_=>by simp only[TV.Bd]
 | .val _,_,_=>by simp only[TV.Bd]
 | .uk _ _,_,_=>by simp only[TV.Bd]
 | .ptr r off,v,h=>by
  simp only[VT]at h;simp only[TV.Bd];obtain⟨b,-,h⟩:=h
  exact(eY.1 h).1
 | .qj c r off,v,h=>by
  simp only[TV.Bd];intro hc;subst hc;simp only[VT]at h;obtain⟨b,-,h⟩:=h
  exact(eY.1 h).1
 | .jy r,v,h=>by
  simp only[VT]at h;simp only[TV.Bd];obtain⟨b,-,h⟩:=h
  exact(eY.1 h).1
 | .uI r,v,h=>by
  simp only[VT]at h;simp only[TV.Bd];obtain⟨b,-,h⟩:=h
  exact(eY.1 h).1
 | .iz r n cap,v,h=>by
  simp only[VT]at h;simp only[TV.Bd];obtain⟨b,-,h⟩:=h
  exact(eY.1 h).1
 | .cA j aF t xs,v,h=>by
  simp only[VT]at h;simp only[TV.Bd];obtain⟨-,x,g,hg,hle,-⟩:=h
  exact⟨x,by simp[hg],hle⟩
 | .Ro j aF l,v,h=>by
  simp only[VT]at h;simp only[TV.Bd];obtain⟨x,g,u,hg,hle,-⟩:=h
  exact⟨x,by simp[hg],hle⟩
 | .eA j aF,v,h=>by
  simp only[VT]at h;simp only[TV.Bd];obtain⟨x,g,hg,hle,-⟩:=h
  exact⟨x,by simp[hg],hle⟩
 | .iC j aF k i off,v,h=>by
  simp only[VT]at h;simp only[TV.Bd];obtain⟨x,g,hg,hle,-⟩:=h
  exact⟨x,by simp[hg],hle⟩
 | .func fn caps,v,h=>by
  simp only[VT]at h;simp only[TV.Bd];obtain⟨vs,-,h⟩:=h
  exact bI.bd h
 | .GN fn fs,v,h=>by
  simp only[VT]at h;simp only[TV.Bd];obtain⟨vs,-,h⟩:=h
  exact bI.bd h
 | .iface ty d,v,h=>by
  simp only[VT]at h;simp only[TV.Bd];obtain⟨u,-,h⟩:=h
  exact VT.bd h
 | .agg cs,v,h=>by
  simp only[VT]at h;simp only[TV.Bd];obtain⟨vs,-,-,h⟩:=h
  exact bI.bd h
 | .tuple ds,v,h=>by
  simp only[VT]at h;simp only[TV.Bd];obtain⟨vs,-,h⟩:=h;exact bI.bd h
theorem bI.bd:∀ {ds:J (TV E)}{vs:J Value},bI E w G ds vs->TV.DN G.i.length (G.g.map (·.1)) ds
 | [],_,_=>by simp only[TV.DN]
 | d::ds,vs,h=>by
  simp only[bI]at h;simp only[TV.DN];obtain⟨u,us,-,h1,h2⟩:=h;exact⟨VT.bd h1,bI.bd h2⟩
end
structure Reb(G G2:bx)(nb:Nat)(g0:List cL):Prop where
 pr:∀b o,G.pr b o->G2.pr b o
 i:∀r b,r<nb->G.i[r]? = W0 b->G2.i[r]? = W0 b
 g:∀(j:Nat) x0 x h,g0[j]? = W0 x0->G.g[j]? = W0 (x,h)->∃x2,G2.g[j]? = W0 (x2,h)/\(x2.aF=x.aF\/x0.aF<x2.aF)
mutual
theorem VT.Bl{nb:Nat}{g0:J cL}(hR:Reb G G2 nb g0):∀ {d:TV E}{v:Value},VT E w G d v->TV.Bd nb g0 d->VT E w G2 d v
 | .any,_,_,_=>by simp only[VT]
 | .dat t x,v,h,_=>h.td hR.pr
 | .sV t x off,v,h,_=>by
  simp only[VT]at h⊢;obtain⟨b,o,c,rfl,h1,h2⟩:=h
  exact⟨b,o,c,rfl,h1.mono hR.pr (λ_ _ _ _ h=>h),λl u hl=>⟨hR.pr _ _ (h2 l u hl).1,(h2 l u hl).2⟩⟩
 | .val _,_,h,_=>by simpa only[VT]using h
 | .ptr r off,v,h,hb=>by
  simp only[VT]at h⊢;simp only[TV.Bd]at hb;obtain⟨b,rfl,h⟩:=h
  exact⟨b,rfl,hR.i r b hb h⟩
 | .qj c r off,v,h,hb=>by
  simp only[TV.Bd]at hb;cases c<;>simp only[VT]at h⊢
  ·exact h
  ·obtain⟨b,rfl,h⟩:=h
   exact⟨b,rfl,hR.i r b (hb rfl) h⟩
 | .jy r,v,h,hb=>by
  simp only[VT]at h⊢;simp only[TV.Bd]at hb;obtain⟨b,rfl,h⟩:=h
  exact⟨b,rfl,hR.i r b hb h⟩
 | .uI r,v,h,hb=>by
  simp only[VT]at h⊢;simp only[TV.Bd]at hb;obtain⟨b,rfl,h⟩:=h
  exact⟨b,rfl,hR.i r b hb h⟩
 | .iz r n cap,v,h,hb=>by
  simp only[VT]at h⊢;simp only[TV.Bd]at hb;obtain⟨b,rfl,h⟩:=h
  exact⟨b,rfl,hR.i r b hb h⟩
 | .cA j aF t xs,v,h,hb=>by
  simp only[VT]at h⊢;simp only[TV.Bd]at hb;obtain⟨AY,x,g,hg,hle,heq⟩:=h;obtain⟨x0,hx0,hle0⟩:=hb;obtain⟨x2,h2,hc⟩:=hR.g j x0 x g hx0 hg;refine⟨AY.mono hR.pr (λ_ _ _ _ h=>h),x2,g,h2,?_,λe=>?_⟩
  ·rcases hc with hc|hc<;>omega
  ·rcases hc with hc|hc
   ·exact heq om
   ·omega
 | .Ro j aF l,v,h,hb=>by
  simp only[VT]at h⊢;simp only[TV.Bd]at hb;obtain⟨x,g,u,hg,hle,AY,heq⟩:=h;obtain⟨x0,hx0,hle0⟩:=hb;obtain⟨x2,h2,hc⟩:=hR.g j x0 x g hx0 hg;refine⟨x2,g,u,h2,?_,AY.mono hR.pr (λ_ _ _ _ h=>h),λe=>?_⟩
  ·rcases hc with hc|hc<;>omega
  ·rcases hc with hc|hc
   ·exact heq om
   ·omega
 | .eA j aF,v,h,hb=>by
  simp only[VT]at h⊢;simp only[TV.Bd]at hb;obtain⟨x,g,hg,hle,h1,heq⟩:=h;obtain⟨x0,hx0,hle0⟩:=hb;obtain⟨x2,h2,hc⟩:=hR.g j x0 x g hx0 hg;refine⟨x2,g,h2,?_,h1,λe=>?_⟩
  ·rcases hc with hc|hc<;>omega
  ·rcases hc with hc|hc
   ·exact heq om
   ·omega
 | .iC j aF k i off,v,h,hb=>by
  simp only[VT]at h⊢;simp only[TV.Bd]at hb;obtain⟨x,g,hg,hle,h1,heq⟩:=h;obtain⟨x0,hx0,hle0⟩:=hb;obtain⟨x2,h2,hc⟩:=hR.g j x0 x g hx0 hg;refine⟨x2,g,h2,?_,h1,λe=>?_⟩
  ·rcases hc with hc|hc<;>omega
  ·rcases hc with hc|hc
   ·exact heq om
   ·omega
 | .uk t xs,v,h,hb=>by
  simp only[VT]at h⊢;obtain⟨vs,rfl,h1,h⟩:=h
  exact⟨vs,rfl,h1,h.mono hR.pr (λ_ _ _ _ h=>h)⟩
 | .func fn caps,v,h,hb=>by
  simp only[VT]at h⊢;simp only[TV.Bd]at hb;obtain⟨vs,rfl,h⟩:=h
  exact⟨vs,rfl,bI.Bl hR h hb⟩
 | .GN fn fs,v,h,hb=>by
  simp only[VT]at h⊢;simp only[TV.Bd]at hb;obtain⟨vs,rfl,h⟩:=h
  exact⟨vs,rfl,bI.Bl hR h hb⟩
 | .iface ty d,v,h,hb=>by
  simp only[VT]at h⊢;simp only[TV.Bd]at hb;obtain⟨u,rfl,h⟩:=h
  exact⟨u,rfl,VT.Bl hR h hb⟩
 | .agg cs,v,h,hb=>by
  simp only[VT]at h⊢;simp only[TV.Bd]at hb;obtain⟨vs,rfl,h1,h⟩:=h
  exact⟨vs,rfl,h1,bI.Bl hR h hb⟩
 | .tuple ds,v,h,hb=>by
  simp only[VT]at h⊢;simp only[TV.Bd]at hb;obtain⟨vs,rfl,h⟩:=h;exact⟨vs,rfl,bI.Bl hR h hb⟩
theorem bI.Bl{nb:Nat}{g0:J cL}(hR:Reb G G2 nb g0):∀ {ds:J (TV E)}{vs:J Value},bI E w G ds vs->TV.DN nb g0 ds->bI E w G2 ds vs
 | [],_,h,_=>by simp only[bI]at h⊢;exact h
 | d::ds,vs,h,hb=>by
  simp only[bI]at h⊢;simp only[TV.DN]at hb;obtain⟨u,us,rfl,h1,h2⟩:=h;exact⟨u,us,rfl,VT.Bl hR h1 hb.1,bI.Bl hR h2 hb.2⟩
end
def fK.Bd(nb:Nat)(g:J cL):fK E->Prop
 | .cells _ cs=>TV.DN nb g cs
 | .loop _ cs=>TV.DN nb g cs
 | .lI _ _ _ _ d=>TV.Bd nb g d
 | _=>True
theorem jW.bd{x:fK E}(h:jW E w G b x):x.Bd G.i.length (G.g.map (·.1)):=by
 cases x with
 | cells t cs=>obtain⟨vs,-,-,h⟩:=h;exact h.bd
 | loop y ds=>obtain⟨Y,fn,tmps,D,-,-,h⟩:=h;exact h.bd
 | lI e cap t xs d=>obtain⟨cur,-,-,-,h,-⟩:=h;exact h.bd
 | _=>trivial
theorem jW.Bl(hR:Reb G G2 nb g0){x:fK E}(h:jW E w G b x)(hb:x.Bd nb g0):jW E w G2 b x:=by
 cases x with
 | cells t cs=>obtain⟨vs,h1,h2,h3⟩:=h;exact⟨vs,h1,h2,bI.Bl hR h3 hb⟩
 | iter s pos=>exact h
 | map kt vt m=>obtain⟨es,clock,h1,h2,h3⟩:=h;exact⟨es,clock,h1,h2,h3.pr hR.pr⟩
 | loop y ds=>obtain⟨Y,fn,tmps,D,h0,h1,h2⟩:=h;exact⟨Y,fn,tmps,D,h0,h1,bI.Bl hR h2 hb⟩
 | lI e cap t xs d=>obtain⟨cur,h1,h2,h4,h5,h6⟩:=h;exact⟨cur,h1,h2,λi x hx=>(h4 i x hx).td hR.pr,VT.Bl hR h5 hb,h6⟩
 | gone=>exact h
 | Rp=>exact h
def DBd(nb:Nat)(g:J cL):J (FuncId×J (TV E))->Prop
 | []=>True
 | x::xs=>TV.DN nb g x.2/\DBd nb g xs
theorem kA.bd:∀ {ds:J Deferred}{xs:J (FuncId×J (TV E))},kA E w G ds xs->DBd G.i.length (G.g.map (·.1)) xs
 | [],[],_=>trivial
 | _::_,_::_,h=>⟨by rcases h.1 with⟨-,cap,-,h2⟩|⟨-,b,-,h2⟩<;>exact h2.bd,kA.bd h.2⟩
 | [],_::_,h=>h.elim
 | _::_,[],h=>h.elim
theorem kA.Bl{nb:Nat}{g0:J cL}(hR:Reb G G2 nb g0):∀ {ds:J Deferred}{xs:J (FuncId×J (TV E))},kA E w G ds xs->DBd nb g0 xs->kA E w G2 ds xs
 | [],[],_,_=>trivial
 | _::_,_::_,h,hb=>⟨h.1.imp (λ⟨h0,cap,h1,h2⟩=>⟨h0,cap,h1,bI.Bl hR h2 hb.1⟩) λ⟨h0,b,h1,h2⟩=>⟨h0,b,h1,bI.Bl hR h2 hb.1⟩,kA.Bl hR h.2 hb.2⟩
 | [],_::_,h,_=>h.elim
 | _::_,[],h,_=>h.elim
structure Pre(G0:bx)(st:TS E):Prop where
 nb:G0.i.length<=st.H.length
 rows:∀(j:Nat) x0 h0,G0.g[j]? = W0 (x0,h0)->∃x,st.g[j]? = W0 x/\x0.aF<=x.aF
 slots:∀(i:Nat) d,st.t[i]? = W0 d->d.Bd st.H.length st.g
 boxes:∀(r:Nat) x,st.H[r]? = W0 x->x.Bd st.H.length st.g
 defs:DBd st.H.length st.g st.df
variable{bP:TS E}
theorem iK.len{w1 w2:U}{G1:bx}(h:iK w1 G1 w2 G2):G1.i.length<=G2.i.length:=by
 by_cases h0:G1.i.length=0
 ·omega
 ·have hl:G1.i.length-1<G1.i.length:=om
  have:=(eY.1 (h.i _ _ (fJ hl))).1;omega
theorem Rel.pre(h:Rel E w0 G0 st a w G):Pre G0 st:=by
 have hl:=h.boxes.len;have hg:=h.boxes.gs;refine⟨by rw[<-hl];exact h.ff.goes.len,λj x0 h0 hj=>?_,λi d hi=>?_,λr x hr=>?_,?_⟩
 ·obtain⟨x',h',h1,h2,-⟩:=h.ff.goes.g j x0 h0 hj
  grind
 ·have:=(h.tmps i d hi).bd
  simp_all
 ·have hlt:r<G.i.length:=by grind
  have:=(h.boxes.box r _ x (fJ hlt) hr).bd
  simp_all
 ·have:=h.defers.bd
  simp_all
theorem GU(W:J Nat):∀(i:Nat)(l:J (TV E)),(nL W i l).length=l.length
 | _,[]=>rfl
 | i,d::ds=>by simp_all[nL,GU]
theorem XQ(W:J Nat):∀(i:Nat)(l:J (TV E))(j:Nat)(d:TV E),(nL W i l)[j]? = W0 d->d=.any\/((i+j)∉W/\l[j]? = W0 d)
 | _,[],j,d,h=>by simp[nL]at h
 | i,x::ds,0,d,h=>by
  simp[nL]at h
  grind
 | i,x::ds,j+1,d,h=>by
  have:=XQ W (i+1) ds j d (by simpa[nL]using h)
  grind
theorem XR(hE:E.Ok){G2:bx}{n n2:Rn}(hL:CN w G n G2 n2)(ha:∀i,VT E w G (st.at i) (a.tmps.getD i undef)):∀(vs:J (Nat×PT))(t:J (TV E))(ls rest:J (Lf E)),Qm n st vs=W0 ls ->
  (∀(j:Nat) d,t[j]? = W0 d->VT E w G2 d (a.tmps.getD j undef)) ->
  (mX n2 vs t (ls++rest)).2=rest/\(mX n2 vs t (ls++rest)).1.length=t.length/\∀(j:Nat) d,(mX n2 vs t (ls++rest)).1[j]? = W0 d->VT E w G2 d (a.tmps.getD j undef)
 | [],t,ls,rest,h,ht=>by cases h;exact⟨rfl,rfl,ht⟩
 | (i,p)::vs,t,ls,rest,h,ht=>by
  simp[Qm]at h;split at h<;>try trivial
  rename_i l ls' h1 h2;cases h;obtain⟨e1,e2⟩:=PT.sound hE hL (rest:=ls'++rest) h1 (ha i);simp[mX]
  obtain⟨q1,q2,q3⟩:=XR hE hL ha vs (t.set i (p.put n2 (l++(ls'++rest))).1) ls' rest h2 (λj d hj=>by
   grind)
  simp_all
theorem BT.aaS:∀(t:BT)(x:fK E)(l rest:J (Lf E)),t.get n x=W0 l->(t.put n2 (l++rest)).2=rest:=by
 have atl:∀(c:CT)(d:TV E)(l rest:J (Lf E)),c.get n d=W0 l->(c.put n2 (l++rest)).2=rest:=by
  intro c d l rest h;unfold CT.get at h;simp only[Bool.cond_eq_ite]at h
  (repeat' split at h)<;>first|trivial|(cases h;rfl)
 have ao4:∀(cs:J CT)(ds:J (TV E))(l rest:J (Lf E)),CT.JD n cs ds=W0 l->(CT.pM n2 cs (l++rest)).2=rest:=by
  intro cs
  induction cs with
  | nil=>intro ds l rest h;cases ds<;>cases h;rfl
  | cons c cs ih=>
   intro ds l rest h;unfold CT.JD at h
   grind[CT.pM,CT.Lq,List.append_assoc]
 intro t x l rest h;unfold BT.get at h;split at h<;>try trivial
 ·rename_i ty cs ty' ds
  cases hb:ST ty ty'<;>rw[hb]at h<;>simp only[aY,aM]at h
  ·cases h
  exact ao4 cs ds l rest h
 ·split at h<;>cases h;rfl
 ·cases h;rfl
 ·rename_i y cs y' ds
  cases hb:ST y y'<;>rw[hb]at h<;>simp only[aY,aM]at h
  ·cases h
  exact ao4 cs ds l rest h
theorem GW{n:Rn}{D:J Nat}{nb:Nat}:∀(bs:J (O BT))(r:Nat)(H:J (fK E))(ls rest:J (Lf E)),oR n D nb r bs H=W0 ls->pV bs (ls++rest)=rest
 | [],r,H,ls,rest,h=>by cases h;rfl
 | none::bs,r,x::H,ls,rest,h=>by
  simp only[oR]at h;cases hc:(D.elem r || !(So r nb))<;>rw[hc]at h<;>simp only[aY,aM]at h
  ·exact GW bs (r+1) H ls rest h
  ·cases h
 | some t::bs,r,x::H,ls,rest,h=>by
  simp[oR]at h;split at h<;>try trivial
  rename_i l ls' h1 h2;cases h;simp[pV];rw[BT.aaS t x l (ls'++rest) h1]
  exact GW bs (r+1) H ls' rest h2
 | none::bs,r,[],ls,rest,h=>by cases h
 | some _::bs,r,[],ls,rest,h=>by cases h
theorem JE(hE:E.Ok){G2:bx}{n n2:Rn}(hL:CN w G n G2 n2){D:J Nat}{nb:Nat}:∀(bs:J (O BT))(r:Nat)(H H0:J (fK E))(is:J Nat)(ls rest:J (Lf E)),oR n D nb r bs H=W0 ls ->
  (∀(q b:Nat) x,is[q]? = W0 b->H[q]? = W0 x->jW E w G b x)->(∀(q b:Nat) x,is[q]? = W0 b->r+q<nb->r+q∉D->H0[q]? = W0 x->jW E w G2 b x)->nb<=r+H0.length ->
  (eO n2 bs H0 (ls++rest)).length=bs.length/\bs.length<=H.length/\∀(q b:Nat) x,is[q]? = W0 b->(eO n2 bs H0 (ls++rest))[q]? = W0 x->jW E w G2 b x
 | [],r,H,H0,is,ls,rest,h,hb,h0,hn=>by
  simp[eO]
 | none::bs,r,x::H,H0,is,ls,rest,h,hb,h0,hn=>by
  simp only[oR]at h;cases hc:(D.elem r || !(So r nb))<;>rw[hc]at h<;>simp only[aY,aM]at h
  ·rw[Nv]at hc
   have hlt:r<nb:=by simpa using hc.2
   obtain⟨y,H0',rfl⟩:∃y H0',H0=y::H0':=by
    cases H0 with
    | nil=>simp at hn;omega
    | cons y H0'=>exact⟨y,H0',rfl⟩
   obtain⟨q1,q2,q3⟩:=JE hE hL bs (r+1) H H0' is.tail ls rest h (λq b z hq hz=>hb (q+1) b z (by cases is<;>simp_all) (by simpa using hz))
    (λq b z hq h1 h2 hz=>h0 (q+1) b z (by cases is<;>simp_all) om (by grind) (by simpa using hz)) (by simp at hn;omega)
   grind[eO]
  ·cases h
 | some t::bs,r,x::H,H0,is,ls,rest,h,hb,h0,hn=>by
  simp[oR]at h;split at h<;>try trivial
  rename_i l ls' h1 h2;cases h;have hkey:∀b,is[0]? = W0 b->(t.put n2 (l++(ls'++rest))).2=ls'++rest/\jW E w G2 b (t.put n2 (l++(ls'++rest))).1:=λb hb0=>BT.sound hE hL h1 (hb 0 b x hb0 si)
  have fB:(t.put n2 (l++(ls'++rest))).2=ls'++rest:=by
   grind[BT.aaS]
  obtain⟨q1,q2,q3⟩:=JE hE hL bs (r+1) H H0.tail is.tail ls' rest h2 (λq b z hq hz=>hb (q+1) b z (by cases is<;>simp_all) (by simpa using hz))
   (λq b z hq h1 h2 hz=>h0 (q+1) b z (by cases is<;>simp_all) om (by grind) (by cases H0<;>simp_all)) (by grind)
  refine⟨by simp_all[eO,vM,qL],by simpa using q2,λq b z hq hz=>?_⟩
  cases q with
  | zero=>
   simp_all[eO,vM,List.getElem?_cons_zero,aeI]
  | succ q=>
   grind[eO,List.append_assoc,List.getElem?_cons_succ]
 | none::bs,r,[],H0,is,ls,rest,h,hb,h0,hn=>by cases h
 | some _::bs,r,[],H0,is,ls,rest,h,hb,h0,hn=>by cases h
theorem Ev{n:Rn}{D:J Nat}{nb:Nat}:∀(bs:J (O BT))(r:Nat)(H:J (fK E))(ls:J (Lf E)),oR n D nb r bs H=W0 ls->∀q,q<bs.length->r+q∉DM r bs->r+q∉D
 | [],r,H,ls,_,q,hq,_=>by simp at hq
 | none::bs,r,x::H,ls,h,q,hq,hc=>by
  simp only[oR]at h;cases hb:(D.elem r || !(So r nb))<;>rw[hb]at h<;>simp only[aY,aM]at h
  ·cases q with
   | zero=>simp_all
   | succ q=>
    have:=Ev bs (r+1) H ls h q (by simpa using hq) (by rw[show r+1+q=r+(q+1) by omega];exact hc)
    grind
  ·cases h
 | some t::bs,r,x::H,ls,h,q,hq,hc=>by
  simp[oR]at h;split at h<;>try trivial
  rename_i l ls' h1 h2
  cases q with
  | zero=>exact(hc (by simp[DM])).elim
  | succ q=>
   have:=Ev bs (r+1) H ls' h2 q (by simpa using hq) (by rw[show r+1+q=r+(q+1) by omega];exact λhm=>hc (by simp[DM,hm]));rw[show r+1+q=r+(q+1) by omega]at this
   exact this
 | none::bs,r,[],ls,h,_,_,_=>by cases h
 | some _::bs,r,[],ls,h,_,_,_=>by cases h
variable{D:J Nat}
theorem XS{n r r':Nat}(h:(R0 n)[r]? = W0 r'):r'=r/\r<n:=by
 grind
theorem Rel.at(h:Rel E w0 G0 st a w G)(i:Nat):VT E w G (st.at i) (a.tmps.getD i undef):=h.ev (.tmp i)
theorem Rel.cut(hE:E.Ok){c:Cut}{W:J Nat}(hp:Pre G0 bP)(hr:Rel E w0 G0 st a w G)(ht:st.t.length=bP.t.length)(hk:∀i,i∉W->st.t[i]? = bP.t[i]?)
   (hD:st.d=D++bP.d) (hH:∀r,r<bP.H.length->r∉D->st.H[r]? = bP.H[r]?) (hdf:st.df=bP.df) (h:c.leaves bP st=W0 ls) :
  ∃G2,Rel E w0 G0 (c.unpack W bP ls) a w G2/\CN w G ⟨R0 c.boxes.length,R0 c.rows.length,st.g.map (·.aF)⟩ G2 ⟨R0 c.boxes.length,R0 c.rows.length,(dZ c.rows bP.g).map (·.aF)⟩:=by
 unfold Cut.leaves at h;cases hc:(below c.rows.length c.soft&&(Nat.ble bP.H.length c.boxes.length&&(Nat.ble bP.g.length c.rows.length&&y6 c.rows bP.g st.g)))<;>rw[hc]at h<;>simp only[aY,aM]at h
 ·cases h
 simp only[cH]at hc;obtain⟨Cb,vW,hg1,hro⟩:=hc;have vW:=lG vW;have hg1:=lG hg1;rw[hD,ah0]at h;split at h<;>try trivial
 rename_i la lb le hla hlb hle;cases h;have hgs:=hr.boxes.gs;rw[<-hgs]at hro;obtain⟨n1,n2,n3,n4⟩:=IC c.rows bP.g G.g hro
 let G2:bx:=⟨G.i.take c.boxes.length,gM c.rows bP.g G.g,G.pr⟩
 have hlen:=hr.boxes.len
 have ZF:∀(j:Nat) y2,(gM c.rows bP.g G.g)[j]? = W0 y2->∃y,G.g[j]? = W0 y/\y2.2=y.2/\y2.1.e=y.1.e/\y2.1.k=y.1.k/\∀x0,bP.g[j]? = W0 x0->y2.1.aF=y.1.aF\/x0.aF<y2.1.aF:=by
  grind
 have akj:Reb G G2 bP.H.length bP.g:=by
  refine⟨λ_ _ h=>h,λr b hr' hb=>?_,λj x0 x hd hx0 hj=>?_⟩
  ·grind
  grind
 have Ft:CN w G ⟨R0 c.boxes.length,R0 c.rows.length,st.g.map (·.aF)⟩ G2 ⟨R0 c.boxes.length,R0 c.rows.length,(dZ c.rows bP.g).map (·.aF)⟩:=by
  refine⟨λ_ _ h=>h,λr r' b h1 h2=>?_,λj j' v x hd h1 h2 h3=>?_⟩
  ·grind
  grind
 have ao5:∀(j:Nat) d,(nL W 0 bP.t)[j]? = W0 d->VT E w G2 d (a.tmps.getD j undef):=by
  intro j d hj;rcases XQ W 0 bP.t j d hj with rfl|⟨hnw,hj'⟩
  ·simp only[VT]
  ·rw[qJ]at hnw
   have:=hr.tmps j d (by rw[hk j hnw];exact hj');exact VT.Bl akj this (hp.slots j d hj')
 obtain⟨p1,p2,p3⟩:=XR hE Ft hr.at c.vars (nL W 0 bP.t) la (lb++le) hla ao5
 obtain⟨q1,q2,q3⟩:=JE hE Ft c.boxes 0 st.H bP.H G.i lb le hlb (λq b x hq hx=>hr.boxes.box q b x hq hx) (λq b x hq h1 h2 hx=>by
  rw[qJ]at h1 h2;have hx':st.H[q]? = W0 x:=by rw[hH q h1 h2];exact hx
  exact jW.Bl akj (hr.boxes.box q b x hq hx') (hp.boxes q x hx)) si
 have ev:=hr.ff
 have hG0:∀(r b:Nat),(G.i.take c.boxes.length)[r]? = W0 b->G.i[r]? = W0 b:=λr b hb=>by
  grind
 have hmem:∀b,b∈G.i.take c.boxes.length->b∈G.i:=λb hb=>R3 hb;refine⟨G2,⟨⟨ev.os,ev.tape,ev.output,ev.size,ev.old,⟨ev.goes.pr,ev.goes.cells,λr b hb=>?_,λj x0 hd hj=>?_⟩,ev.oz,λr b h1 h2=>ev.qO r b h1 (hG0 r b h2),λj x hd b hj hb=>?_⟩,?_,?_,?_,?_,λr b hb hd=>?_,hr.pins,?_⟩,Ft⟩
 ·have hlt:=(eY.1 hb).1
  have:=hp.nb;rw[Zb,if_pos om];exact ev.goes.i r b hb
 ·obtain⟨x',hd',h1,h2,h3⟩:=ev.goes.g j x0 hd hj
  obtain⟨xp,hxp,hle⟩:=hp.rows j x0 hd hj
  grind
 ·obtain⟨y,hy,e1,-⟩:=ZF j (x,hd) hj
  simp only at e1;subst e1;exact ev.gM j y.1 y.2 b hy hb
 ·show a.tmps.size=((mX _ c.vars (nL W 0 bP.t) (la++(lb++le))).1).length
  rw[p2,GU,<-ht];exact hr.size
 ·exact p3
 ·show kA E w G2 a.defers bP.df
  rw[<-hdf];exact kA.Bl akj hr.defers (by rw[hdf];exact hp.defs)
 ·refine⟨?_,n1,λr b x hb hx=>?_,λb hb=>hr.boxes.lt b (hmem b hb),(List.take_sublist _ _).nodup hr.boxes.nodup,λb o tc=>⟨(hr.boxes.gu b o tc).1,λhm=>(hr.boxes.gu b o tc).2 (hmem b hm)⟩,λj x hd hj=>?_,
   λj j' x hd x' hd' b hj hj' hb hb'=>?_⟩
  ·show(G.i.take c.boxes.length).length=(eO _ c.boxes bP.H (mX _ c.vars (nL W 0 bP.t) (la++(lb++le))).2).length
   simp_all
  ·have hx:(eO _ c.boxes bP.H (mX _ c.vars (nL W 0 bP.t) (la++(lb++le))).2)[r]? = W0 x:=hx
   grind
  ·obtain⟨y,hy,e1,e2,e3,-⟩:=ZF j (x,hd) hj
   subst e1;obtain⟨n,xs,g1,g2,g3⟩:=hr.boxes.grow j y.1 y.2 hy;refine⟨n,xs,by rw[e2,e3];exact g1,λa m h=>by rw[e2];exact g2 a m h,λb hb=>?_⟩
   grind
  ·obtain⟨y,hy,e1,-⟩:=ZF j (x,hd) hj
   obtain⟨y',hy',e1',-⟩:=ZF j' (x',hd') hj';subst e1;subst e1';exact hr.boxes.apart j j' y.1 y.2 y'.1 y'.2 b hy hy' hb hb'
 ·refine hr.fix r b hb ?_
  have hd:r∉DM 0 c.boxes++bP.d:=hd;rw[p8,not_or]at hd;rw[hD,p8,not_or];refine⟨?_,hd.2⟩;have hlt:=(eY.1 hb).1;have:=hp.nb;have:=Ev c.boxes 0 st.H lb hlb r om (by simp_all)
  simp_all
 ·intro j c0 hm
  have hm:(j,c0)∈nu W0 c.soft (pV c.boxes (mX _ c.vars (nL W 0 bP.t) (la++(lb++le))).2):=hm;rw[p1,GW c.boxes 0 st.H lb le hlb]at hm;obtain⟨q,j',⟨t,ht⟩,e1,e2,e3⟩:=Dh (f:=W0) (f2:=W0) (rest:=[]) hle (by rw[Te];exact hm);cases e1;cases e2;have tS:=aaR Cb j t ht;obtain⟨x,hd,h1,h2⟩:=hr.gv j c0 e3;obtain⟨y2,hy,f1,f2,f3,-⟩:=n4 j (x,hd) h1 tS;refine⟨y2.1,hd,?_,h2.keep f2 f3 (λ_ _ h=>h) (λ_ _ _ _ h=>h) (λb _=>⟨rfl,λ_ h=>h⟩)⟩
  grind
end Go.RT
namespace Go.RT
variable {E : TEnv}
def kB(P:bh)(f:FuncId)(args:aJ Value)(w:U)(R:Ending->U->Prop):Prop:=
 match (callFunc f args).run P w with
 | .ok (.enter f' args') w'=>Calls P f' args' w' R
 | .ok (.value v) w'=>R (.returned v) w'
 | _=>False
def Di(ok:Bool)(v:Value):Ending:=cond ok (.returned v) (.panicked [{v:=v,recovered:=UV}])
structure aaT(E:TEnv) where
 ok:Bool
 d:TV E
 H:List (fK E)
 g:List cL
 D:List Nat
 c:List (Nat×Cn E)
def lK(P:bh)(f:FuncId)(ds:J (TV E))(H:J (fK E))(gs:J cL)(cs:J (Nat×Cn E))(r:aaT E):Prop:=
 ∀(w:U)(G:bx)(args:aJ Value),qf E w G->lW E w G H gs->kN E w G cs->bI E w G ds args.toList->kB P f args w λe w'=>
  ∃v G',e=Di r.ok v/\kT w G w' G'/\lW E w' G' r.H r.g/\kN E w' G' r.c/\VT E w' G' r.d v/\∀(q b:Nat),G.i[q]? = W0 b->q∉r.D->w'.heap[b]? = w.heap[b]?
structure Outs where
 res:PT
 boxes:List (Option BT)
 rows:List (Option (TypeId×Nat))
 soft:List (Nat×Ty)
def Outs.tys(o:Outs):J Ty:=o.res.tys++(Lr o.boxes++Ql o.soft)
structure di where
 f:FuncId
 args:List PT
 boxes:List BT
 rows:List (TypeId×Nat)
 out:Outs
 lY:Option Outs
 soft:List (Nat×Ty)
def ah1:J PT->J Ty
 | []=>[]
 | p::ps=>p.tys++ah1 ps
def ah2:J BT->J Ty
 | []=>[]
 | b::bs=>b.tys++ah2 bs
def di.tys(s:di):J Ty:=ah1 s.args++(ah2 s.boxes++Ql s.soft)
@[reducible] def OutP (E : TEnv) (o : Outs) : O Outs -> Type
 | none=>dens E o.tys
 | some q=>dens E o.tys ⊕ dens E q.tys
structure bJ(E:TEnv) where
 s:di
 m:dens E s.tys->Option (OutP E s.out s.lY)
def Uo(n:Rn):J PT->J (TV E)->O (J (Lf E))
 | [],[]=>W0 []
 | p::ps,d::ds=>match p.get n d,Uo n ps ds with
  | some l,W0 ls=>W0 (l++ls)
  | _,_=>WP
 | _,_=>WP
def Bn(n:Rn):J PT->J (Lf E)->J (TV E)×J (Lf E)
 | [],ls=>([],ls)
 | p::ps,ls=>((p.put n ls).1::(Bn n ps (p.put n ls).2).1,(Bn n ps (p.put n ls).2).2)
def Up(n:Rn):J BT->J (fK E)->O (J (Lf E))
 | [],[]=>W0 []
 | t::ts,x::xs=>match t.get n x,Up n ts xs with
  | some l,W0 ls=>W0 (l++ls)
  | _,_=>WP
 | _,_=>WP
def y7(n:Rn):J BT->J (Lf E)->J (fK E)×J (Lf E)
 | [],ls=>([],ls)
 | t::ts,ls=>((t.put n ls).1::(y7 n ts (t.put n ls).2).1,(y7 n ts (t.put n ls).2).2)
def di.g0(s:di):J cL:=s.rows.map λp=>⟨0,p.1,p.2⟩
def di.n0(s:di):Rn:=⟨R0 s.boxes.length,R0 s.rows.length,s.g0.map (·.aF)⟩
def di.ds(s:di)(ls:J (Lf E)):J (TV E):=(Bn s.n0 s.args ls).1
def di.H(s:di)(ls:J (Lf E)):J (fK E):=(y7 s.n0 s.boxes (Bn s.n0 s.args ls).2).1
def di.c(s:di)(ls:J (Lf E)):J (Nat×Cn E):=nu W0 s.soft (y7 s.n0 s.boxes (Bn s.n0 s.args ls).2).2
def Outs.n1(o:Outs)(g:J cL):Rn:=⟨R0 o.boxes.length,R0 o.rows.length,(dZ o.rows g).map (·.aF)⟩
def Outs.mO(o:Outs)(ok:Bool)(H0:J (fK E))(g:J cL)(ls:J (Lf E)):aaT E:=
 ⟨ok,(o.res.put (o.n1 g) ls).1,eO (o.n1 g) o.boxes H0 (o.res.put (o.n1 g) ls).2,dZ o.rows g,DM 0 o.boxes,nu W0 o.soft (pV o.boxes (o.res.put (o.n1 g) ls).2)⟩
def gY(s:di)(H0:J (fK E)):(p:O Outs)->OutP E s.out p->aaT E
 | none,y=>s.out.mO WF H0 s.g0 (aR s.out.tys y)
 | some _,.inl y=>s.out.mO WF H0 s.g0 (aR s.out.tys y)
 | some q,.inr y=>q.mO UV H0 s.g0 (aR q.tys y)
def bJ.Ok(P:bh)(C:bJ E):Prop:=
 ∀x y,C.m x=W0 y->lK P C.s.f (C.s.ds (aR C.s.tys x)) (C.s.H (aR C.s.tys x)) C.s.g0 (C.s.c (aR C.s.tys x)) (gY C.s (C.s.H (aR C.s.tys x)) C.s.lY y)
structure Ls(w:World)(G:bx)(n:Rn)(G2:bx)(n2:Rn):Prop extends CN w G n G2 n2 where
 lb:n2.b.length<=n.b.length
 lg:n2.g.length<=n.g.length
 lv:n2.v.length<=n.v.length
theorem CT.zX(n n2:Rn)(c:CT)(ls:J (Lf E)):(c.put n ls).2=(c.put n2 ls).2:=by
 cases c<;>cases ls<;>first|rfl|(rename_i l;cases l<;>rfl)
theorem CT.Ak(n n2:Rn):∀(cs:J CT)(ls:J (Lf E)),(CT.pM n cs ls).2=(CT.pM n2 cs ls).2
 | [],ls=>rfl
 | c::cs,ls=>by
  unfold CT.pM;split
  ·exact CT.Ak n n2 cs _
  ·rw[CT.zX n n2 c ls]
   exact CT.Ak n n2 cs _
theorem PT.zX(n n2:Rn)(p:PT)(ls:J (Lf E)):(p.put n ls).2=(p.put n2 ls).2:=by
 cases p with
 | one c=>exact CT.zX n n2 c ls
 | agg cs=>exact CT.Ak n n2 cs ls
 | dG cs=>exact CT.Ak n n2 cs ls
theorem BT.zX(n n2:Rn)(t:BT)(ls:J (Lf E)):(t.put n ls).2=(t.put n2 ls).2:=by
 cases t with
 | cells ty cs=>exact CT.Ak n n2 cs ls
 | loop y cs=>exact CT.Ak n n2 cs ls
 | map kt vt=>cases ls<;>rfl
 | iter=>cases ls with|nil=>rfl|cons l ls=>cases ls<;>rfl
variable{w:U}{G G2:bx}{n:Rn}{α:Type}{l:J α}{v:Value}{vs:J Value}
section
variable {n2 : Rn}
theorem getElem?_none_of{β:Type}{m:J β}{r:Nat}(h:l[r]? = WP)(hl:m.length<=l.length):m[r]? = WP:=by
 grind
theorem XT(hL:Ls w G n G2 n2):∀(caps:J (Nat×Nat)){vs:J Value},bI E w G (Gd n caps:J (TV E)) vs->bI E w G2 (Gd n2 caps:J (TV E)) vs
 | [],vs,h=>by simp_all[Gd,bI]
 | (r,off)::caps,vs,h=>by
  obtain⟨u,us,rfl,h1,h2⟩:=h.cons_inv;refine .cons ?_ (XT hL caps h2)
  cases hr:n.b[r]? with
  | none=>rw[getElem?_none_of hr hL.lb];simp[VT]
  | some r'=>
   rw[hr]at h1;obtain⟨b,rfl,hb⟩:=h1;obtain⟨r2,hr2,nP⟩:=hL.i r r' b hr hb;rw[hr2];exact⟨b,rfl,nP⟩
theorem CT.move(hL:Ls w G n G2 n2)(c:CT)(ls:J (Lf E))(h:VT E w G (c.put n ls).1 v):VT E w G2 (c.put n2 ls).1 v:=by
 cases c with
 | dat t=>cases ls with
  | nil=>simp[CT.put,VT]
  | cons l ls=>exact VT.td h hL.pr
 | any=>simp[CT.put,VT]
 | pk t=>simp[CT.put,VT]
 | ptr r off=>
  simp[CT.put]at h⊢
  cases hr:n.b[r]? with
  | none=>rw[getElem?_none_of hr hL.lb];simp[VT]
  | some r'=>
   rw[hr]at h;obtain⟨b,rfl,hb⟩:=h;obtain⟨r2,hr2,nP⟩:=hL.i r r' b hr hb
   simp_all[VT]
 | qj r off=>
  cases ls with
  | nil=>simp[CT.put,VT]
  | cons l ls=>
   simp[CT.put]at h⊢
   cases hr:n.b[r]? with
   | none=>rw[getElem?_none_of hr hL.lb];simp[VT]
   | some r'=>
    rw[hr]at h;obtain⟨t,x⟩:=l
    cases hn:n2.b[r]? with
    | none=>simp[VT]
    | some r2'=>
     cases t<;>try (simp[VT];done)
     cases x<;>simp[VT]at h⊢
     ·exact h
     ·obtain⟨b,rfl,hb⟩:=h
      obtain⟨r2,hr2,nP⟩:=hL.i r r' b hr hb
      simp_all
 | jy r=>
  simp[CT.put]at h⊢
  cases hr:n.b[r]? with
  | none=>rw[getElem?_none_of hr hL.lb];simp[VT]
  | some r'=>
   rw[hr]at h;obtain⟨b,rfl,hb⟩:=h;obtain⟨r2,hr2,nP⟩:=hL.i r r' b hr hb
   simp_all[VT]
 | uI r=>
  simp[CT.put]at h⊢
  cases hr:n.b[r]? with
  | none=>rw[getElem?_none_of hr hL.lb];simp[VT]
  | some r'=>
   rw[hr]at h;obtain⟨b,rfl,hb⟩:=h;obtain⟨r2,hr2,nP⟩:=hL.i r r' b hr hb
   simp_all[VT]
 | cA j t=>
  cases ls with
  | nil=>simp[CT.put,VT]
  | cons l ls=>
   simp[CT.put]at h⊢
   cases hj:n.g[j]? with
   | none=>rw[getElem?_none_of hj hL.lg];simp[VT]
   | some j'=>
    cases DL:n.v[j]? with
    | none=>
     rw[getElem?_none_of DL hL.lv]
     simp_all[VT]
    | some vv=>
     rw[hj,DL]at h;obtain⟨t',x⟩:=l
     cases t' with
     | bq t'=>
      obtain⟨AY,x1,h1,hg,hle,heq⟩:=h;obtain⟨Un,j2,v2,x2,q1,q2,q3,q4⟩:=hL.g j j' vv x1 h1 hj DL hg;rw[q1,q2]
      exact⟨AY.mono hL.pr (λ_ _ _ _ h=>h),x2,h1,q3,om,λ_=>heq Un.symm⟩
     | _=>simp_all[VT]
 | func f caps=>
  simp[CT.put,VT]at h⊢
  grind[XT]
 | eA j=>
  simp[CT.put]at h⊢
  cases hj:n.g[j]? with
  | none=>rw[getElem?_none_of hj hL.lg];simp[VT]
  | some j'=>
   cases DL:n.v[j]? with
   | none=>
    rw[getElem?_none_of DL hL.lv]
    simp_all[VT]
   | some vv=>
    rw[hj,DL]at h;obtain⟨x1,h1,hg,hle,h2,heq⟩:=h;obtain⟨Un,j2,v2,x2,q1,q2,q3,q4⟩:=hL.g j j' vv x1 h1 hj DL hg
    grind[VT]
 | iC j k=>
  simp[CT.put]at h⊢
  cases hj:n.g[j]? with
  | none=>rw[getElem?_none_of hj hL.lg];simp[VT]
  | some j'=>
   cases DL:n.v[j]? with
   | none=>
    rw[getElem?_none_of DL hL.lv]
    simp_all[VT]
   | some vv=>
    rw[hj,DL]at h;obtain⟨x1,h1,hg,hle,h2,heq⟩:=h;obtain⟨Un,j2,v2,x2,q1,q2,q3,q4⟩:=hL.g j j' vv x1 h1 hj DL hg
    grind[VT]
 | uk t=>cases ls with
  | nil=>simp[CT.put,VT]
  | cons l ls=>
   obtain⟨t',x⟩:=l
   cases t' with
   | bq t'=>
    obtain⟨vs,rfl,h1,h⟩:=h
    exact⟨vs,rfl,h1,h.mono hL.pr (λ_ _ _ _ h=>h)⟩
   | _=>simp[CT.put,VT]
 | nil k=>simp_all[CT.put,VT]
 | lb b=>rw[VT.mu h];exact .bool _ _ _
 | li k n=>rw[VT.fT h];exact .int _ _ _ _
 | sV t off=>cases ls with
  | nil=>simp[CT.put,VT]
  | cons l ls=>
   obtain⟨b,o,c,rfl,h1,h2⟩:=h
   exact⟨b,o,c,rfl,h1.mono hL.pr (λ_ _ _ _ h=>h),λl u hl=>⟨hL.pr _ _ (h2 l u hl).1,(h2 l u hl).2⟩⟩
 | iface ty t=>cases ls with
  | nil=>simp[CT.put,VT]
  | cons l ls=>
   obtain⟨u,rfl,h⟩:=h;exact⟨u,rfl,VT.td h hL.pr⟩
theorem bI.XU{w:U}{G:bx}:∀ {ds es:J (TV E)}{vs:J Value},bI E w G (ds++es) vs->∃us ts,vs=us++ts/\bI E w G ds us/\bI E w G es ts
 | [],_,vs,h=>⟨[],vs,rfl,bI.nil,h⟩
 | _::_,_,_,h=>by
  obtain⟨u,us,rfl,h1,h2⟩:=bI.cons_inv h;obtain⟨us',ts,rfl,h3,h4⟩:=bI.XU h2;exact⟨u::us',ts,rfl,.cons h1 h3,h4⟩
theorem XW{f:(i:Nat)->E.D i->O (J (TV E))}(hf:∀i x cs,f i x=W0 cs->∀d∈cs,∃t y,d=TV.dat t y):∀(t:Ty)(x:t.den E.D)(cs:J (TV E)),Ba E f t x=W0 cs->∀d∈cs,∃t y,d=TV.dat t y:=by
 intro t
 induction t with
 | int k=>intro x cs h d hd;cases h;simp_all
 | bool=>intro x cs h d hd;cases h;simp_all
 | str=>intro x cs h d hd;cases h;simp_all
 | bq t _=>intro x cs h d hd;cases h;simp_all
 | unit=>intro x cs h d hd;cases h;cases hd
 | ext i=>intro x cs h;exact hf i x cs h
 | pair a b ES ET=>
  intro x cs h d hd;simp[Ba]at h
  cases e1:Ba E f a x.1 with
  | none=>rw[e1]at h;cases h
  | some l=>
   dsimp only[Option.bind]at h
   grind
theorem XX:∀(n:Nat)(t:Ty)(x:t.den E.D)(cs:J (TV E)),Iu E n t x=W0 cs->∀d∈cs,∃t y,d=TV.dat t y
 | 0,t,x,cs,h=>XW (λ_ _ _ h=>by cases h) t x cs h
 | n+1,t,x,cs,h=>XW (λi x cs h=>XX n (E.df i) (E.AV i x) cs h) t x cs h
theorem ad8{w:U}{G G2:bx}(hp:∀b o,G.pr b o->G2.pr b o):∀ {ds:J (TV E)}{vs:J Value},(∀d∈ds,∃t y,d=TV.dat t y)->bI E w G ds vs->bI E w G2 ds vs
 | [],_,_,h=>by simp_all[bI]
 | d::ds,_,hd,h=>by
  obtain⟨u,us,rfl,h1,h2⟩:=h.cons_inv;obtain⟨t,y,rfl⟩:=hd d (qK ..);exact .cons (h1.td hp) (ad8 hp (λd h=>hd d (ku _ h)) h2)
theorem ah3(hp:∀b o,G.pr b o->G2.pr b o)(ls:J (Lf E))(h:bI E w G (CT.Lq ls).1 vs):bI E w G2 (CT.Lq ls).1 vs:=by
 cases ls with
 | nil=>simp_all[CT.Lq,bI]
 | cons l ls=>
  grind[CT.Lq,Iu,bI,ad8,XX]
theorem CT.Qn(hL:Ls w G n G2 n2):∀(cs:J CT)(ls:J (Lf E)){vs:J Value},bI E w G (CT.pM n cs ls).1 vs->bI E w G2 (CT.pM n2 cs ls).1 vs
 | [],ls,vs,h=>by simp_all[CT.pM,bI]
 | c::cs,ls,vs,h=>by
  unfold CT.pM at h⊢;split at h
  ·obtain⟨us,ts,rfl,h1,h2⟩:=h.XU
   refine bI.append (ah3 hL.pr ls h1) ?_;exact CT.Qn hL cs _ h2
  ·rename_i ht
   obtain⟨u,us,rfl,h1,h2⟩:=h.cons_inv;refine .cons (CT.move hL c ls h1) ?_;rw[CT.zX n2 n];exact CT.Qn hL cs _ h2
theorem PT.move(hL:Ls w G n G2 n2)(p:PT)(ls:J (Lf E))(h:VT E w G (p.put n ls).1 v):VT E w G2 (p.put n2 ls).1 v:=by
 cases p with
 | one c=>exact CT.move hL c ls h
 | agg cs=>
  grind[PT.put,VT,CT.Qn]
 | dG cs=>
  grind[PT.put,VT,CT.Qn]
theorem BT.move(hL:Ls w G n G2 n2)(t:BT)(ls:J (Lf E)){b:Nat}(h:jW E w G b (t.put n ls).1):jW E w G2 b (t.put n2 ls).1:=by
 cases t with
 | cells ty cs=>
  obtain⟨vs,h1,h2,h3⟩:=h
  exact⟨vs,h1,h2,CT.Qn hL cs ls h3⟩
 | loop y cs=>
  obtain⟨Y,fn,tmps,D,h0,h1,h2⟩:=h
  exact⟨Y,fn,tmps,D,h0,h1,CT.Qn hL cs ls h2⟩
 | map kt vt=>cases ls with
  | nil=>exact h
  | cons l ls=>
   obtain⟨t,x⟩:=l;simp[BT.put]at h⊢;split at h
   ·rename_i kt' vt' m heq
    obtain⟨es,clock,h1,h2,h3⟩:=h;exact⟨es,clock,h1,h2,h3.pr hL.pr⟩
   ·exact h
 | iter=>cases ls with
  | nil=>exact h
  | cons l ls=>cases ls with
   | nil=>exact h
   | cons l' ls=>
    simp[BT.put]at h⊢;split at h<;>exact h
end
def wJ:J Nat->Bool
 | []=>WF
 | x::xs=>!(xs.elem x)&&wJ xs
theorem wK:∀ {l:J Nat},wJ l=WF->l.Nodup
 | [],_=>Gp
 | x::xs,h=>by
  simp only[wJ,cH]at h;refine R4.2 ⟨λhm=>?_,wK h.2⟩;rw[alQ hm]at h;cases h.1
def pick{α:Type}(l:J α):J Nat->O (J α)
 | []=>W0 []
 | i::is=>match l[i]?,pick l is with
  | some x,W0 xs=>W0 (x::xs)
  | _,_=>WP
theorem rZ{α:Type}{l:J α}:∀ {is:J Nat}{xs:J α},pick l is=W0 xs->xs.length=is.length/\∀(r i:Nat),is[r]? = W0 i->∃x,xs[r]? = W0 x/\l[i]? = W0 x
 | [],xs,h=>by cases h;simp_all
 | i::is,xs,h=>by
  simp[pick]at h;split at h<;>try trivial
  rename_i x ys h1 h2;cases h;obtain⟨q1,q2⟩:=rZ h2;refine⟨by simp[q1],λr k hr=>?_⟩
  cases r with
  | zero=>simp at hr;subst hr;exact⟨x,rfl,h1⟩
  | succ r=>simpa using q2 r k (by simpa using hr)
theorem Wm{α β:Type}{l:J α}{m:J β}(hl:l.length=m.length):∀ {is:J Nat}{xs:J α},pick l is=W0 xs->∃ys,pick m is=W0 ys
 | [],xs,h=>⟨[],rfl⟩
 | i::is,xs,h=>by
  simp[pick]at h;split at h<;>try trivial
  rename_i x ys h1 h2;obtain⟨zs,hz⟩:=Wm hl h2
  grind[List.getElem?_eq_some_iff,pick,List.getElem?_eq_getElem]
def zY:J (aK×Nat)->J cL->Bool
 | [],[]=>WF
 | p::ps,x::xs=>(ST p.1 x.e&&ST p.2 x.k)&&zY ps xs
 | _,_=>UV
theorem Dj:∀ {ps:J (aK×Nat)}{xs:J cL},zY ps xs=WF->ps.length=xs.length/\∀(j:Nat) p x,ps[j]? = W0 p->xs[j]? = W0 x->p.1=x.e/\p.2=x.k
 | [],[],_=>⟨rfl,λj p x h=>by simp at h⟩
 | p::ps,x::xs,h=>by
  simp only[zY,cH]at h;obtain⟨q1,q2⟩:=Dj h.2;refine⟨by simp[q1],λj p' x' hp hx=>?_⟩
  cases j with
  | zero=>simp at hp hx;subst hp;subst hx;exact⟨eM h.1.1,eM h.1.2⟩
  | succ j=>exact q2 j p' x' (by simpa using hp) (by simpa using hx)
 | [],_::_,h=>by cases h
 | _::_,[],h=>by cases h
def di.enter(s:di)(bs gs:J Nat)(st:TS E)(ds:J (TV E)):Option (J (Lf E)):=
 match pick st.H bs,pick st.g gs with
 | some H,W0 g=>cond (wJ bs&&(wJ gs&&(ST bs.length s.boxes.length&&zY s.rows g)))
   (match Uo ⟨bs,gs,g.map (·.aF)⟩ s.args ds,Up ⟨bs,gs,g.map (·.aF)⟩ s.boxes H,Kp (λq=>gs[q]?) st.c s.soft with
    | some a,W0 b,W0 e=>W0 (a++(b++e))
    | _,_,_=>WP) WP
 | _,_=>WP
section
variable {n2 : Rn}
theorem aaU(hE:E.Ok)(hL:CN w G n G2 n2):∀ {ps:J PT}{ds:J (TV E)}{ls rest:J (Lf E)}{vs:J Value},Uo n ps ds=W0 ls->bI E w G ds vs ->
  (Bn n2 ps (ls++rest)).2=rest/\bI E w G2 (Bn n2 ps (ls++rest)).1 vs
 | [],[],ls,rest,vs,h,hv=>by cases h;simp[bI]at hv;subst hv;exact⟨rfl,bI.nil⟩
 | p::ps,d::ds,ls,rest,vs,h,hv=>by
  simp[Uo]at h;split at h<;>try trivial
  rename_i l ls' h1 h2;cases h;obtain⟨u,us,rfl,q1,q2⟩:=hv.cons_inv;obtain⟨e1,e2⟩:=PT.sound hE hL (rest:=ls'++rest) h1 q1;obtain⟨e3,e4⟩:=aaU hE hL h2 q2;simp[Bn,e1]
  exact⟨e3,.cons e2 e4⟩
 | [],_::_,_,_,_,h,_=>by cases h
 | _::_,[],_,_,_,h,_=>by cases h
theorem aaV(hE:E.Ok)(hL:CN w G n G2 n2):∀ {ts:J BT}{xs:J (fK E)}{ls rest:J (Lf E)}{is:J Nat},Up n ts xs=W0 ls->is.length=xs.length->(∀(q b:Nat) x,is[q]? = W0 b->xs[q]? = W0 x->jW E w G b x) ->
  (y7 n2 ts (ls++rest)).1.length=ts.length/\(y7 n2 ts (ls++rest)).2=rest/\∀(q b:Nat) x,is[q]? = W0 b->(y7 n2 ts (ls++rest)).1[q]? = W0 x->jW E w G2 b x
 | [],[],ls,rest,is,h,_,hv=>by cases h;simp_all[y7]
 | t::ts,x::xs,ls,rest,is,h,hil,hv=>by
  simp[Up]at h;split at h<;>try trivial
  rename_i l ls' h1 h2;cases h
  cases is with
  | nil=>simp at hil
  | cons i is=>
   obtain⟨e1,e2⟩:=BT.sound hE hL (rest:=ls'++rest) h1 (hv 0 i x si si);obtain⟨e3,e5,e4⟩:=aaV hE hL h2 (by simpa using hil) (λq b y hq hy=>hv (q+1) b y (by simpa using hq) (by simpa using hy));simp[y7,e1];refine⟨by simp[e3],e5,λq b y hq hy=>?_⟩
   cases q with
   | zero=>simp at hq hy;subst hq;subst hy;exact e2
   | succ q=>exact e4 q b y (by simpa using hq) (by simpa using hy)
 | [],_::_,_,_,_,h,_,_=>by cases h
 | _::_,[],_,_,_,h,_,_=>by cases h
end
def bx.ek(G:bx)(is:J Nat)(gs:J (cL×Value)):bx:=⟨is,gs.map λx=>({x.1 with aF:=0},x.2),G.pr⟩
variable{P:bh}{w0 w':U}{G0 G':bx}{st:TS E}{a:Act}{bs gs:J Nat}{ls:J (Lf E)}
theorem Rel.enter(hE:E.Ok)(hr:Rel E w0 G0 st a w G){s:di}{ds:J (TV E)}(h:s.enter bs gs st ds=W0 ls)(hv:bI E w G ds vs):
  ∃is gg,pick G.i bs=W0 is/\pick G.g gs=W0 gg/\lW E w (G.ek is gg) (s.H ls) s.g0/\kN E w (G.ek is gg) (s.c ls)/\bI E w (G.ek is gg) (s.ds ls) vs:=by
 unfold di.enter at h;split at h<;>try trivial
 rename_i H g hH hg;cases hc:(wJ bs&&(wJ gs&&(ST bs.length s.boxes.length&&zY s.rows g)))<;>rw[hc]at h<;>simp only[aY,aM]at h
 ·cases h
 simp only[cH]at hc;obtain⟨hn1,hn2,GJ,hrs⟩:=hc;have GJ:=eM GJ;obtain⟨hrl,hrs⟩:=Dj hrs;split at h<;>try trivial
 rename_i la lb le hla hlb hle;cases h;have hgs:=hr.boxes.gs;obtain⟨is,hi⟩:=Wm hr.boxes.len.symm hH;obtain⟨gg,Iw⟩:=Wm (m:=G.g) (by rw[<-hgs];simp) hg;obtain⟨hHl,hHg⟩:=rZ hH;obtain⟨hgl,asj⟩:=rZ hg;obtain⟨hil,hig⟩:=rZ hi;obtain⟨ao6,Lt⟩:=rZ Iw
 have hgr:∀(j:Nat) x y,gg[j]? = W0 x->g[j]? = W0 y->x.1=y:=λj x y hx hy=>by
  have hj:j<gs.length:=by grind
  obtain⟨x',h1,h2⟩:=Lt j _ (fJ hj);obtain⟨y',h3,h4⟩:=asj j _ (fJ hj)
  grind
 have hg0:(gg.map λx=>({x.1 with aF:=0}:cL))=s.g0:=by
  unfold di.g0;apply List.ext_getElem?
  grind
 have Ft:CN w G ⟨bs,gs,g.map (·.aF)⟩ (G.ek is gg) s.n0:=by
  refine⟨λ_ _ h=>h,λr r' b h1 h2=>?_,λj j' v x hd h1 h2 h3=>?_⟩
  ·obtain⟨b',h3,h4⟩:=hig r r' h1
   rw[h2]at h4;cases h4;have hrl:r<s.boxes.length:=by grind
   exact⟨r,by simp[di.n0,hrl],h3⟩
  ·grind[List.getElem?_eq_some_iff,List.getElem?_eq_getElem,di.n0,bx.ek,di.g0]
 obtain⟨p1,p2⟩:=aaU hE Ft hla hv
 obtain⟨q1,q5,q2⟩:=aaV hE Ft (rest:=le) (is:=is) hlb om (λq b x hq hx=>by
  have tS:q<bs.length:=by grind
  obtain⟨b',h1,h2⟩:=hig q _ (fJ tS);obtain⟨x',h3,h4⟩:=hHg q _ (fJ tS);rw[hq]at h1;cases h1;rw[hx]at h3;cases h3;exact hr.boxes.box _ b x h2 h4)
 have hmem:∀b,b∈is->b∈G.i:=λb hb=>by
  obtain⟨q,hq,rfl⟩:=lH hb;obtain⟨b',h1,h2⟩:=hig q _ (fJ om)
  grind
 have hrow:∀(j:Nat) x hd,((G.ek is gg).g)[j]? = W0 (x,hd)->∃j' y,gs[j]? = W0 j'/\G.g[j']? = W0 (y,hd)/\x={y with aF:=0}:=λj x hd hj=>by
  simp only[bx.ek,Nw,PE]at hj;have hjl:j<gs.length:=by grind
  obtain⟨x',h4,h5⟩:=Lt j _ (fJ hjl)
  grind
 have hnd:=wK hn1;have ao7:=wK hn2;refine⟨is,gg,hi,Iw,⟨?_,?_,λr b x hb hx=>?_,λb hb=>hr.boxes.lt b (hmem b hb),?_,λb o hp=>⟨(hr.boxes.gu b o hp).1,λhm=>(hr.boxes.gu b o hp).2 (hmem b hm)⟩,λj x hd hj=>?_,λj j' x hd x' hd' b hj hj' hb hb'=>?_⟩,?_,p2⟩
 ·show is.length=(s.H (la++(lb++le))).length
  grind[di.H]
 ·grind[bx.ek,List.map_map,Function.comp_def]
 ·unfold di.H at hx
  rw[p1]at hx;exact q2 r b x hb hx
 ·show is.Nodup
  refine aeJ.2 λp q hp hq hpq he=>?_;obtain⟨b1,h1,h2⟩:=hig p _ (fJ om);obtain⟨b2,h3,h4⟩:=hig q _ (fJ om);have:b1=b2:=by grind
  subst this;have e1:=eY.1 h2;have e2:=eY.1 h4;have:=(Tf hr.boxes.nodup).1 (e1.2.trans e2.2.symm)
  grind[List.getElem_inj]
 ·obtain⟨j',y,h1,h2,rfl⟩:=hrow j x hd hj
  obtain⟨n,xs,g1,g2,g3⟩:=hr.boxes.grow j' y hd h2;exact⟨n,xs,g1,g2,λb hb=>⟨(g3 b hb).1,λhm=>(g3 b hb).2.1 (hmem b hm),(g3 b hb).2.2⟩⟩
 ·obtain⟨i1,y,h1,h2,rfl⟩:=hrow j x hd hj
  obtain⟨i2,y',h3,h4,rfl⟩:=hrow j' x' hd' hj';have:=hr.boxes.apart i1 i2 y hd y' hd' b h2 h4 hb hb'
  grind[List.getElem?_eq_some_iff,List.getElem_inj]
 ·intro q c0 hm
  have hm:(q,c0)∈nu W0 s.soft (y7 s.n0 s.boxes (Bn s.n0 s.args (la++(lb++le))).2).2:=hm;rw[p1,q5]at hm;obtain⟨q',j,-,e1,e2,e3⟩:=Dh (rest:=[]) hle (by rw[Te];exact hm);cases e2;obtain⟨x,hd,h1,h2⟩:=hr.gv j c0 e3;obtain⟨x',h4,h5⟩:=Lt q j e1;rw[h1]at h5;cases h5;exact⟨{x with aF:=0},hd,by simp[bx.ek,h4],h2.keep rfl rfl (λ_ _ h=>h) (λ_ _ _ _ h=>h) (λb _=>⟨rfl,λ_ h=>h⟩)⟩
def ke{α:Type}:J (Nat×α)->J α->J α
 | [],l=>l
 | (i,x)::ps,l=>ke ps (l.set i x)
theorem gK{α:Type}:∀(ps:J (Nat×α))(l:J α),(ke ps l).length=l.length
 | [],l=>rfl
 | (i,x)::ps,l=>by simp[ke,gK ps]
theorem um{α:Type}:∀(ps:J (Nat×α))(l:J α)(q:Nat),q∉ps.map (·.1)->(ke ps l)[q]? = l[q]?
 | [],l,q,_=>rfl
 | (i,x)::ps,l,q,h=>by
  simp only[jY,iy,not_or]at h;rw[ke,um ps _ q h.2,Nx (λe=>h.1 e.symm)]
theorem ID{α:Type}:∀(ps:J (Nat×α))(l:J α)(q:Nat)(x:α),(ps.map (·.1)).Nodup->(q,x)∈ps->q<l.length->(ke ps l)[q]? = W0 x
 | (i,y)::ps,l,q,x,hn,hm,hq=>by
  simp only[jY,R4]at hn;rcases iy.1 hm with he|hm
  ·obtain⟨rfl,rfl⟩:=he
   rw[ke,um ps _ _ hn.1,Zi hq]
  ·exact ID ps _ q x hn.2 hm (by simpa using hq)
def qn{α:Type}:J (O BT)->J Nat->J α->J (Nat×α)
 | some _::os,i::is,x::xs=>(i,x)::qn os is xs
 | none::os,_::is,_::xs=>qn os is xs
 | _,_,_=>[]
theorem Bo{α:Type}:∀ {os:J (O BT)}{is:J Nat}{xs:J α}{i:Nat}{x:α},(i,x)∈qn os is xs->∃(r:Nat)(t:BT),os[r]? = W0 (W0 t)/\is[r]? = W0 i/\xs[r]? = W0 x
 | some t::os,j::is,y::xs,i,x,h=>by
  rcases iy.1 h with he|h
  ·cases he;exact⟨0,t,rfl,rfl,rfl⟩
  ·obtain⟨r,t',h1,h2,h3⟩:=Bo h
   exact⟨r+1,t',by simpa using h1,by simpa using h2,by simpa using h3⟩
 | none::os,j::is,y::xs,i,x,h=>by
  obtain⟨r,t',h1,h2,h3⟩:=Bo (xs:=xs) h
  exact⟨r+1,t',by simpa using h1,by simpa using h2,by simpa using h3⟩
 | [],_,_,_,_,h=>by cases h
 | some _::_,[],_,_,_,h=>by cases h
 | none::_,[],_,_,_,h=>by cases h
 | some _::_,_::_,[],_,_,h=>by cases h
 | none::_,_::_,[],_,_,h=>by cases h
theorem Lu{α:Type}:∀ {os:J (O BT)}{is:J Nat}{xs:J α}(r:Nat){t:BT}{i:Nat}{x:α},os[r]? = W0 (W0 t)->is[r]? = W0 i->xs[r]? = W0 x->(i,x)∈qn os is xs
 | o::os,j::is,y::xs,0,t,i,x,h1,h2,h3=>by
  simp_all[qn]
 | o::os,j::is,y::xs,r+1,t,i,x,h1,h2,h3=>by
  have:=Lu r (by simpa using h1) (by simpa using h2) (by simpa using h3)
  cases o<;>simp[qn,this]
 | [],_,_,_,_,_,_,h,_,_=>by simp at h
 | _::_,[],_,_,_,_,_,_,h,_=>by simp at h
 | _::_,_::_,[],_,_,_,_,_,_,h=>by simp at h
theorem GX{α:Type}:∀ {os:J (O BT)}{is:J Nat}{xs:J α},is.Nodup->((qn os is xs).map (·.1)).Nodup
 | some t::os,j::is,y::xs,h=>by
  rw[R4]at h;simp only[qn,jY,R4];refine⟨λhm=>?_,GX h.2⟩;obtain⟨p,hp,he⟩:=oK.1 hm;obtain⟨i,x⟩:=p;obtain⟨r,t',-,h2,-⟩:=Bo hp
  exact h.1 (by rw[<-show i=j from he];exact jx h2)
 | none::os,j::is,y::xs,h=>GX (xs:=xs) (R4.1 h).2
 | [],_,_,_=>Gp
 | some _::_,[],_,_=>Gp
 | none::_,[],_,_=>Gp
 | some _::_,_::_,[],_=>Gp
 | none::_,_::_,[],_=>Gp
theorem Qo:∀ {bs:J (O BT)}{r q:Nat},r+q∈DM r bs->∃t,bs[q]? = W0 (W0 t)
 | [],_,_,h=>by cases h
 | none::bs,r,q,h=>by
  simp[DM]at h
  cases q with
  | zero=>
   have key:∀(bs:J (O BT))(r x:Nat),x∈DM r bs->r<=x:=by
    intro bs
    induction bs with
    | nil=>intro r x h;cases h
    | cons o bs ih=>
     intro r x h
     cases o with
     | none=>have:=ih (r+1) x h;omega
     | some t=>rcases List.mem_cons.1 h with rfl|h;exact Nat.le_refl _;grind
   grind
  | succ q=>
   obtain⟨t,ht⟩:=Qo (bs:=bs) (r:=r+1) (q:=q) (by grind)
   simp_all
 | some t::bs,r,q,h=>by
  cases q with
  | zero=>exact⟨t,rfl⟩
  | succ q=>
   rcases iy.1 h with he|h
   ·omega
   ·obtain⟨t,ht⟩:=Qo (by rw[show r+1+q=r+(q+1) by omega];exact h)
    exact⟨t,by simpa using ht⟩
def rowAt:O (aK×Nat)->O cL->cL
 | none,W0 x=>x
 | some p,W0 x=>⟨x.aF+1,p.1,p.2⟩
 | some p,WP=>⟨0,p.1,p.2⟩
 | none,WP=>⟨0,0,0⟩
theorem nv:∀(rs:J (O (aK×Nat)))(g:J cL),(dZ rs g).length=rs.length
 | [],_=>rfl
 | none::rs,_::g=>by simp_all[dZ,nv]
 | some _::rs,_::g=>by simp_all[dZ,nv]
 | some _::rs,[]=>by simp_all[dZ,nv]
 | none::rs,[]=>by simp_all[dZ,nv]
theorem Dk:∀(rs:J (O (aK×Nat)))(g:J cL)(j:Nat)(o:O (aK×Nat)),rs[j]? = W0 o->(dZ rs g)[j]? = W0 (rowAt o g[j]?)
 | [],_,_,_,h=>by simp at h
 | r::rs,x::g,0,o,h=>by simp at h;subst h;cases r<;>simp[dZ,rowAt]
 | r::rs,[],0,o,h=>by simp at h;subst h;cases r<;>simp[dZ,rowAt]
 | r::rs,x::g,j+1,o,h=>by
  have:=Dk rs g j o (by simpa using h)
  cases r<;>simpa[dZ]using this
 | r::rs,[],j+1,o,h=>by
  have:=Dk rs [] j o (by simpa using h);cases r<;>simpa[dZ]using this
theorem oC(n:Rn):∀(bs:J (O BT))(H:J (fK E))(ls:J (Lf E)),(eO n bs H ls).length=bs.length
 | [],_,_=>rfl
 | none::bs,H,ls=>by simp_all[eO,oC]
 | some t::bs,H,ls=>by simp_all[eO,oC]
theorem Ew{w:U}{G G2:bx}{n n2:Rn}(hL:Ls w G n G2 n2):∀(bs:J (O BT))(H H':J (fK E))(ls:J (Lf E))(r:Nat){t:BT}{b:Nat}{x y:fK E},bs[r]? = W0 (W0 t) ->
  (eO n bs H ls)[r]? = W0 x->(eO n2 bs H' ls)[r]? = W0 y->jW E w G b x->jW E w G2 b y
 | [],_,_,_,_,_,_,_,_,h,_,_,_=>by simp at h
 | none::bs,H,H',ls,r+1,t,b,x,y,h,hx,hy,hb=>Ew hL bs H.tail H'.tail ls r (by simpa using h) (by simpa[eO]using hx) (by simpa[eO]using hy) hb
 | none::bs,H,H',ls,0,t,b,x,y,h,hx,hy,hb=>by simp at h
 | some t'::bs,H,H',ls,0,t,b,x,y,h,hx,hy,hb=>by
  grind[eO,BT.move]
 | some t'::bs,H,H',ls,r+1,t,b,x,y,h,hx,hy,hb=>by
  simp[eO]at hx hy;rw[BT.zX n2 n]at hy;exact Ew hL bs H.tail H'.tail _ r (by simpa using h) hx hy hb
def zZ:Nat->J (O BT)->Bool
 | 0,[]=>WF
 | 0,W0 _::bs=>zZ 0 bs
 | 0,WP::_=>UV
 | _+1,[]=>UV
 | n+1,_::bs=>zZ n bs
theorem JF:∀ {n:Nat}{bs:J (O BT)},zZ n bs=WF->n<=bs.length/\∀r,n<=r->r<bs.length->∃t,bs[r]? = W0 (W0 t)
 | 0,[],_=>⟨eu _,λr _ h=>by simp at h⟩
 | 0,W0 t::bs,h=>by
  obtain⟨_,q⟩:=JF (bs:=bs) h
  grind
 | 0,WP::_,h=>by cases h
 | _+1,[],h=>by cases h
 | n+1,o::bs,h=>by
  obtain⟨q1,q2⟩:=JF (n:=n) h;refine⟨by simpa using q1,λr h1 h2=>?_⟩
  cases r with
  | zero=>omega
  | succ r=>simp_all
def Kq(gs:J Nat):J (Nat×Cn E)->J (Nat×Cn E)
 | []=>[]
 | p::cs=>cond (gs.elem p.1) (Kq gs cs) (p::Kq gs cs)
theorem Bp{gs:J Nat}:∀ {cs:J (Nat×Cn E)}{i:Nat}{c:Cn E},(i,c)∈Kq gs cs->(i,c)∈cs/\i∉gs
 | [],i,c,h=>by cases h
 | p::cs,i,c,h=>by
  simp only[Kq]at h;cases hb:gs.elem p.1<;>rw[hb]at h<;>simp only[aY,aM]at h
  ·rcases iy.1 h with h|h
   ·refine⟨by rw[h];simp,λe=>?_⟩
    rw[<-h]at hb;rw[alQ e]at hb;cases hb
   ·exact⟨ku _ (Bp h).1,(Bp h).2⟩
  ·exact⟨ku _ (Bp h).1,(Bp h).2⟩
theorem Bq{f:Nat->O Nat}:∀ {ps:J (Nat×Ty)}{ls:J (Lf E)}{i:Nat}{c:Cn E},(i,c)∈nu f ps ls->∃q,f q=W0 i/\(q,c)∈nu W0 ps ls
 | [],ls,i,c,h=>by cases ls<;>cases h
 | p::ps,[],i,c,h=>by cases h
 | p::ps,l::ls,i,c,h=>by
  obtain⟨q,t⟩:=p;obtain⟨t',x⟩:=l;simp[nu]at h⊢
  cases hf:f q with
  | none=>
   rw[hf]at h;obtain⟨q',e1,e2⟩:=Bq (by cases t'<;>exact h);refine⟨q',e1,?_⟩
   cases t'<;>first|exact e2|simp_all
  | some i'=>
   rw[hf]at h
   cases t' with
   | bq t'=>
    rcases iy.1 h with e|h
    ·cases e;exact⟨q,hf,qK ..⟩
    ·obtain⟨q',e1,e2⟩:=Bq h
     exact⟨q',e1,ku _ e2⟩
   | _=>
    simp_all[Bq]
def Outs.n2(o:Outs)(bs gs:J Nat)(st:TS E):Rn:=
 ⟨bs++List.range' st.H.length (o.boxes.length-bs.length),gs++List.range' st.g.length (o.rows.length-gs.length),(dZ o.rows ((pick st.g gs).getD [])).map (·.aF)⟩
def Outs.val(o:Outs)(bs gs:J Nat)(st:TS E)(ls:J (Lf E)):TV E:=(o.res.put (o.n2 bs gs st) ls).1
def Outs.hc(o:Outs)(bs gs:J Nat)(st:TS E)(ls:J (Lf E)):J (fK E):=eO (o.n2 bs gs st) o.boxes [] (o.res.put (o.n2 bs gs st) ls).2
def Outs.after(o:Outs)(bs gs:J Nat)(st:TS E)(ls:J (Lf E)):TS E:=
 {st with
  H:=ke (qn o.boxes bs (o.hc bs gs st ls)) st.H++(o.hc bs gs st ls).drop bs.length
  g:=ke (gs.zip (dZ o.rows ((pick st.g gs).getD []))) st.g++(dZ o.rows ((pick st.g gs).getD [])).drop gs.length
  d:=(qn o.boxes bs (o.hc bs gs st ls)).map (·.1)++st.d
  c:=nu (λq=>(o.n2 bs gs st).g[q]?) o.soft (pV o.boxes (o.res.put (o.n2 bs gs st) ls).2)++Kq gs st.c}
theorem Oo{α:Type}:∀ {l:J Nat}{m:J α},l.Nodup->((l.zip m).map (·.1)).Nodup
 | [],_,_=>Gp
 | _::_,[],_=>Gp
 | x::l,y::m,h=>by
  rw[R4]at h;simp only[List.zip_cons_cons,jY,R4];refine⟨λhm=>h.1 ?_,Oo h.2⟩;obtain⟨p,hp,he⟩:=oK.1 hm;rw[<-he];exact(aeK hp).1
theorem JG{α:Type}:∀ {l:J Nat}{m:J α}(j:Nat){i:Nat}{x:α},l[j]? = W0 i->m[j]? = W0 x->(i,x)∈l.zip m
 | y::l,z::m,0,i,x,h1,h2=>by simp_all
 | y::l,z::m,j+1,i,x,h1,h2=>by
  have:=JG j (by simpa using h1) (by simpa using h2)
  simp[this]
 | [],_,_,_,_,h,_=>by simp at h
 | _::_,[],_,_,_,_,h=>by simp at h
variable{is:J Nat}{gg:J (cL×Value)}
theorem Rel.leave(hr:Rel E w0 G0 st a w G)(hi:pick G.i bs=W0 is)(hg:pick G.g gs=W0 gg)(hn1:bs.Nodup)(hn2:gs.Nodup)(o:Outs)
  (hb:zZ bs.length o.boxes=WF) (hgl:gs.length<=o.rows.length) {H0:J (fK E)}   (hE:kT w (G.ek is gg) w' G')
  (hB:lW E w' G' (eO (o.n1 ((G.ek is gg).g.map (·.1))) o.boxes H0 (o.res.put (o.n1 ((G.ek is gg).g.map (·.1))) ls).2) (dZ o.rows ((G.ek is gg).g.map (·.1))))
  (hS:kN E w' G' (nu W0 o.soft (pV o.boxes (o.res.put (o.n1 ((G.ek is gg).g.map (·.1))) ls).2)))
  (hv:VT E w' G' (o.res.put (o.n1 ((G.ek is gg).g.map (·.1))) ls).1 v) (Lv:∀(q b:Nat),is[q]? = W0 b->q∉DM 0 o.boxes->w'.heap[b]? = w.heap[b]?) :
  ∃Gn,Rel E w0 G0 (o.after bs gs st ls) a w' Gn/\VT E w' Gn (o.val bs gs st ls) v:=by
 obtain⟨GJ,hsome⟩:=JF hb;obtain⟨hil,hig⟩:=rZ hi;obtain⟨ao6,Lt⟩:=rZ hg;have hlen:=hr.boxes.len;have hgs:=hr.boxes.gs;have ao8:G.g.length=st.g.length:=hr.qm
 have aqL:pick st.g gs=W0 (gg.map (·.1)):=by
  have key:∀(l:J Nat)(ys:J (cL×Value)),pick G.g l=W0 ys->pick st.g l=W0 (ys.map (·.1)):=by
   intro l
   induction l with
   | nil=>intro ys h;cases h;rfl
   | cons i l ih=>
    grind[pick]
  exact key gs gg hg
 have hpg:(pick st.g gs).getD []=gg.map (·.1):=by rw[aqL];rfl
 let g0:J cL:=(G.ek is gg).g.map (·.1)
 have atm:g0.length=gs.length:=by simp[g0,bx.ek,ao6]
 let nc:=dZ o.rows g0
 let ng:=dZ o.rows (gg.map (·.1))
 have asl:nc.length=o.rows.length:=nv _ _;have ao9:ng.length=o.rows.length:=nv _ _;have asm:G'.i.length=o.boxes.length:=by rw[hB.len,oC]
 have apa:G'.g.map (·.1)=nc:=hB.gs;have af3:G'.g.length=o.rows.length:=by rw[<-asl,<-apa];simp
 have aqM:∀(r b:Nat),is[r]? = W0 b->G'.i[r]? = W0 b:=λr b h=>hE.goes.i r b h
 let pe:J (cL×Value):=ng.zip (G'.g.map (·.2))
 have aqN:pe.length=o.rows.length:=by simp[pe,ao9,af3]
 have af4:pe.map (·.1)=ng:=by
  simp only[pe];rw[List.map_fst_zip];simp[ao9,af3]
 let Gn:bx:=⟨G.i++G'.i.drop bs.length,ke (gs.zip pe) G.g++pe.drop gs.length,G'.pr⟩
 have hent:∀(j:Nat) y,pe[j]? = W0 y->∃ro x' ,o.rows[j]? = W0 ro/\G'.g[j]? = W0 (x',y.2)/\x'=rowAt ro g0[j]?/\y.1=rowAt ro (gg.map (·.1))[j]?:=by
  intro j y hj;have hjl:j<o.rows.length:=by rw[<-aqN];exact(eY.1 hj).1
  have hro:=fJ hjl;have h1:=Dk o.rows (gg.map (·.1)) j _ hro;have h2:=Dk o.rows g0 j _ hro
  grind
 have hold:∀(j j':Nat) x h,gs[j]? = W0 j'->G.g[j']? = W0 (x,h)->gg[j]? = W0 (x,h)/\g0[j]? = W0 {x with aF:=0}/\(gg.map (·.1))[j]? = W0 x:=by
  intro j j' x h h1 h2;obtain⟨y,h3,h4⟩:=Lt j j' h1;rw[h2]at h4;cases h4;refine⟨h3,?_,by simp[h3]⟩;simp[g0,bx.ek,h3]
 have aqO:∀(j j':Nat) x h,gs[j]? = W0 j'->G.g[j']? = W0 (x,h)->∃y,pe[j]? = W0 y/\x.aF<=y.1.aF/\(x.aF=y.1.aF->y.2=h):=by
  intro j j' x h h1 h2;have hjl:j<gs.length:=(eY.1 h1).1;have hjn:j<pe.length:=om;obtain⟨ro,x',q1,q2,q3,q4⟩:=hent j _ (fJ hjn);obtain⟨o1,o2,o3⟩:=hold j j' x h h1 h2;rw[o2]at q3;rw[o3]at q4;refine⟨_,fJ hjn,?_,λe=>?_⟩
  ·rw[q4];cases ro<;>simp[rowAt]
  ·rw[q4]at e
   cases ro with
   | some p=>simp[rowAt]at e
   | none=>
    simp only[rowAt]at q3;have hsel:((G.ek is gg).g)[j]? = W0 ({x with aF:=0},h):=by simp[bx.ek,o1]
    obtain⟨x2,h3,r1,r2,r3⟩:=hE.goes.g j _ h hsel;rw[q2]at r1;cases r1;exact r3 (by rw[q3])
 have hgn:∀(q:Nat) y,Gn.g[q]? = W0 y->(q∉gs/\G.g[q]? = W0 y)\/∃j,pe[j]? = W0 y/\((gs[j]? = W0 q/\q<G.g.length)\/(gs.length<=j/\q=G.g.length+(j-gs.length))):=by
  intro q y hq;have hq:(ke (gs.zip pe) G.g++pe.drop gs.length)[q]? = W0 y:=hq;by_cases tS:q<G.g.length
  ·rw[vP (by rw[gK];exact tS)]at hq
   by_cases hm:q∈gs
   ·obtain⟨j,hj,rfl⟩:=lH hm
    grind[ID,Oo,JG,List.getElem?_eq_getElem]
   ·rw[um _ _ q (λhmm=>hm (by obtain⟨p,hp,he⟩:=oK.1 hmm;rw[<-he];exact(aeK hp).1))]at hq
    exact .inl ⟨hm,hq⟩
  ·rw[Jp (by rw[gK];omega),gK,PF]at hq
   exact .inr ⟨gs.length+(q-G.g.length),hq,.inr ⟨om,om⟩⟩
 have aaW:∀(j q:Nat) y,gs[j]? = W0 q->q<G.g.length->pe[j]? = W0 y->Gn.g[q]? = W0 y:=by
  intro j q y h1 h2 h3;show(ke (gs.zip pe) G.g++pe.drop gs.length)[q]? = W0 y;rw[vP (by rw[gK];exact h2)];exact ID (gs.zip pe) G.g q y (Oo hn2) (JG j h1 h3) h2
 have ad9:∀(q:Nat) y,q∉gs->G.g[q]? = W0 y->Gn.g[q]? = W0 y:=by
  intro q y h1 h2;have tS:=(eY.1 h2).1;show(ke (gs.zip pe) G.g++pe.drop gs.length)[q]? = W0 y;rw[vP (by rw[gK];exact tS),um _ _ q (λhmm=>h1 (by obtain⟨p,hp,he⟩:=oK.1 hmm;rw[<-he];exact(aeK hp).1))];exact h2
 have aea:∀(j:Nat) y,gs.length<=j->pe[j]? = W0 y->Gn.g[G.g.length+(j-gs.length)]? = W0 y:=by
  intro j y h1 h2;show(ke (gs.zip pe) G.g++pe.drop gs.length)[G.g.length+(j-gs.length)]? = W0 y;rw[Jp (by rw[gK];omega),gK,PF];rw[show gs.length+(G.g.length+(j-gs.length)-G.g.length)=j by omega];exact h2
 have Lw:iK w G w' Gn:=by
  refine⟨hE.goes.pr,hE.goes.cells,λr b h=>?_,λq x h hq=>?_⟩
  ·show(G.i++G'.i.drop bs.length)[r]? = W0 b
   rw[vP (eY.1 h).1];exact h
  ·by_cases hm:q∈gs
   ·obtain⟨j,hj,rfl⟩:=lH hm
    obtain⟨y,h1,h2,h3⟩:=aqO j _ x h (fJ hj) hq;exact⟨y.1,y.2,aaW j _ y (fJ hj) (eY.1 hq).1 h1,h2,h3⟩
   ·exact⟨x,h,ad9 q _ hm hq,eu _,λ_=>rfl⟩
 have ev:=hr.ff
 have aaX:∀b,b∈is->b∈G.i:=λb hb=>by
  obtain⟨q,hq,rfl⟩:=lH hb;obtain⟨b',h1,h2⟩:=hig q _ (fJ om);rw[fJ hq]at h1;cases h1;exact jx h2
 have CO:∀b,(G.ek is gg).rows b->∃(j j':Nat)(x:cL)(h:Value),gs[j]? = W0 j'/\G.g[j']? = W0 (x,h)/\h.ownBlock=W0 b:=by
  rintro b ⟨x,h,hm,hbk⟩;obtain⟨j,hj,he⟩:=lH hm;have hj2:j<gg.length:=by simpa[bx.ek]using hj
  obtain⟨y,h1,h2⟩:=Lt j _ (fJ om);rw[fJ hj2]at h1;have h1:=rQ h1
  have Xu:gg[j].2=h:=by
   have:=congrArg Prod.snd he;simpa[bx.ek]using this
  refine⟨j,_,y.1,y.2,fJ om,h2,?_⟩;rw[<-h1,Xu];exact hbk
 have Kr:∀(j:Nat) x h b,G.g[j]? = W0 (x,h)->h.ownBlock=W0 b->b<w.heap.size/\b∉G.i:=λj x h b hj hb=>by
  obtain⟨n,xs,-,-,q⟩:=hr.boxes.grow j x h hj;exact⟨(q b hb).1,(q b hb).2.1⟩
 have hsame:∀(q b:Nat),G.i[q]? = W0 b->q∉bs->w'.heap[b]? = w.heap[b]?:=by
  intro q b hq hnb;refine hE.old b (hr.boxes.lt b (jx hq)) (λhf=>?_);rcases hf with hf|hf
  ·obtain⟨r,hrl,he⟩:=lH hf
   have apb:r<bs.length:=by
    have:r<is.length:=hrl;omega
   obtain⟨b',h1,h2⟩:=hig r _ (fJ apb);have h1':is[r]? = W0 b:=by rw[<-he];exact fJ hrl
   rw[h1']at h1;cases h1;have e1:=eY.1 hq;have e2:=eY.1 h2;have:q=bs[r]:=(Tf hr.boxes.nodup).1 (e1.2.trans e2.2.symm);exact hnb (by rw[this];exact iJ apb)
  ·obtain⟨j,j',x,h,-,h2,h3⟩:=CO b hf
   exact(Kr j' x h b h2 h3).2 (jx hq)
 have af5:∀(q b:Nat),Gn.i[q]? = W0 b->G.i[q]? = W0 b\/(G.i.length<=q/\G'.i[bs.length+(q-G.i.length)]? = W0 b/\w.heap.size<=b):=by
  intro q b hq;have hq:(G.i++G'.i.drop bs.length)[q]? = W0 b:=hq;by_cases tS:q<G.i.length
  ·rw[vP tS]at hq;exact .inl hq
  ·rw[Jp om,PF]at hq
   exact .inr ⟨om,hq,hE.qO _ b (by show is.length<=_;omega) hq⟩
 have ZG:∀b,b∈Gn.i->b∈G.i\/(b∈G'.i/\w.heap.size<=b):=λb hb=>by
  obtain⟨q,hq,he⟩:=lH hb;rcases af5 q b (by rw[<-he];exact fJ hq)with h|⟨-,h1,h2⟩
  ·exact .inl (jx h)
  ·exact .inr ⟨jx h1,h2⟩
 have hblk:∀(j:Nat) x h b,G'.g[j]? = W0 (x,h)->h.ownBlock=W0 b->w.heap.size<=b\/∃(j':Nat)(x0:cL)(h0:Value),gs[j]? = W0 j'/\G.g[j']? = W0 (x0,h0)/\h0.ownBlock=W0 b:=by
  intro j x h b hj hbk;rcases hE.gM j x h b hj hbk with q|⟨x0,h0,q1,q2⟩
  ·exact .inl q
  ·have EV:j<gg.length:=by
    have:=(eY.1 q1).1;simpa[bx.ek]using this
   obtain⟨y,h1,h2⟩:=Lt j _ (fJ om)
   grind[List.getElem?_eq_getElem,Option.some.inj,bx.ek]
 have Ft:Ls w' G' (o.n1 g0) Gn (o.n2 bs gs st):=by
  refine⟨⟨λ_ _ h=>h,λr r' b h1 h2=>?_,λj j' vv x h h1 h2 h3=>?_⟩,?_,?_,?_⟩
  ·obtain⟨rfl,hlt⟩:=XS h1
   by_cases hrb:r'<bs.length
   ·refine⟨bs[r'],by simp[Outs.n2,vP hrb,hrb],?_⟩
    obtain⟨b',q1,q2⟩:=hig r' _ (fJ hrb);have:=aqM r' b' q1;rw[h2]at this;cases this;show(G.i++G'.i.drop bs.length)[bs[r']]? = W0 b;rw[vP (eY.1 q2).1];exact q2
   ·refine⟨st.H.length+(r'-bs.length),?_,?_⟩
    ·simp only[Outs.n2]
     rw[Jp om];rw[aeL om];simp
    ·show(G.i++G'.i.drop bs.length)[st.H.length+(r'-bs.length)]? = W0 b
     rw[<-hlen,Jp om,PF,show bs.length+(G.i.length+(r'-bs.length)-G.i.length)=r' by omega];exact h2
  ·obtain⟨rfl,hlt⟩:=XS h1
   have hjn:j'<pe.length:=om;obtain⟨ro,x',q1,q2,q3,q4⟩:=hent j' _ (fJ hjn);rw[h3]at q2;have q2:=rQ q2;simp only[Tg]at q2
   have Un:x.aF=vv:=by
    have h2:(nc.map (·.aF))[j']? = W0 vv:=h2;rw[<-apa,yD,Nw,h3]at h2;simpa using h2
   refine⟨Un,?_⟩
   have ri:((dZ o.rows ((pick st.g gs).getD [])).map (·.aF))[j']? = W0 pe[j'].1.aF:=by
    rw[hpg,show dZ o.rows (gg.map (·.1))=ng from rfl,<-af4];simp[hjn]
   by_cases EV:j'<gs.length
   ·obtain⟨y,r1,r2⟩:=Lt j' _ (fJ EV)
    refine⟨gs[j'],pe[j'].1.aF,pe[j'].1,by simp[Outs.n2,vP EV,EV],ri,?_,rfl⟩;rw[aaW j' _ _ (fJ EV) (eY.1 r2).1 (fJ hjn),q2.2]
   ·refine⟨st.g.length+(j'-gs.length),pe[j'].1.aF,pe[j'].1,?_,ri,?_,rfl⟩
    ·simp only[Outs.n2]
     rw[Jp om,aeL om];simp
    ·rw[<-ao8,aea j' _ om (fJ hjn),q2.2]
  ·simp[Outs.n1,Outs.n2];omega
  ·simp[Outs.n1,Outs.n2];omega
  ·simp[Outs.n1,Outs.n2,nv]
 have hval:VT E w' Gn (o.val bs gs st ls) v:=PT.move Ft o.res ls hv;have fB:(o.res.put (o.n2 bs gs st) ls).2=(o.res.put (o.n1 g0) ls).2:=PT.zX _ _ _ _;have asn:(o.hc bs gs st ls).length=o.boxes.length:=oC _ _ _ _
 have atd:∀(r b:Nat) t y,o.boxes[r]? = W0 (W0 t)->G'.i[r]? = W0 b->(o.hc bs gs st ls)[r]? = W0 y->jW E w' Gn b y:=by
  intro r b t y h1 h2 h3;have hrl:r<o.boxes.length:=(eY.1 h1).1;have hx:r<(eO (o.n1 g0) o.boxes H0 (o.res.put (o.n1 g0) ls).2).length:=by rw[oC];exact hrl
  have hbx:=hB.box r b _ h2 (fJ hx);unfold Outs.hc at h3;rw[fB]at h3;exact Ew Ft o.boxes H0 [] _ r h1 (fJ hx) h3 hbx
 refine⟨Gn,⟨⟨hE.os.trans ev.os,hE.tape.trans ev.tape,hE.output.trans ev.output,oM ev.size hE.size,λb hb hnf=>?_,ev.goes.trans Lw,λb oo hb hp=>?_,λq b h1 h2=>?_,λq x h b hq hbk=>?_⟩,hr.size,λj d hj=>(hr.tmps j d hj).mono Lw,hr.defers.mono Lw,?_,λr b hb hd=>?_,hr.pins,?_⟩,hval⟩
 ·refine(hE.old b (jS hb ev.size) (λhf=>?_)).trans (ev.old b hb hnf)
  rcases hf with hf|hf
  ·have hbi:=aaX b hf
   obtain⟨q,hq,he⟩:=lH hbi;have Uq:G.i[q]? = W0 b:=by rw[<-he];exact fJ hq
   by_cases tS:q<G0.i.length
   ·have e1:=ev.goes.i q _ (fJ tS)
    rw[Uq]at e1;exact hnf (.inl (by rw[rQ e1];exact iJ tS))
   ·have:=ev.qO q b om Uq;omega
  ·obtain⟨j,j',x,h,-,h2,h3⟩:=CO b hf
   rcases ev.gM j' x h b h2 h3 with q|⟨x0,h0,q1,q2⟩
   ·omega
   ·exact hnf (.inr ⟨x0,h0,jx q1,q2⟩)
 ·rcases hE.oz b oo (jS hb ev.size) hp with q|q
  ·exact ev.oz b oo hb q
  ·obtain⟨j,j',x,h,-,h2,h3⟩:=CO b q
   rcases ev.gM j' x h b h2 h3 with q|⟨x0,h0,q1,q2⟩
   ·omega
   ·exact .inr ⟨x0,h0,jx q1,q2⟩
 ·rcases af5 q b h2 with h|⟨-,-,h⟩
  ·exact ev.qO q b h1 h
  ·exact oM ev.size h
 ·rcases hgn q (x,h) hq with⟨-,h1⟩|⟨j,h1,h2⟩
  ·exact ev.gM q x h b h1 hbk
  ·obtain⟨ro,x',q1,q2,-,-⟩:=hent j _ h1
   rcases hblk j x' h b q2 hbk with q|⟨j',x0,h0,q3,q4,q5⟩
   ·exact .inl (oM ev.size q)
   ·rcases h2 with⟨h2,-⟩|⟨h2,-⟩
    ·rw[h2]at q3;cases q3
     exact ev.gM q x0 h0 b q4 q5
    ·have:=(eY.1 q3).1;omega
 ·refine⟨?_,?_,λq b y hq hy=>?_,λb hb=>?_,?_,λb oo hp=>?_,λq x h hq=>?_,λq q' x h x' h' b hq ZZ vW nP=>?_⟩
  ·show(G.i++G'.i.drop bs.length).length=(ke (qn o.boxes bs (o.hc bs gs st ls)) st.H++(o.hc bs gs st ls).drop bs.length).length
   simp only[vi,Gq,gK,asn,asm,hlen]
  ·show(ke (gs.zip pe) G.g++pe.drop gs.length).map (·.1)=ke (gs.zip (dZ o.rows ((pick st.g gs).getD []))) st.g++(dZ o.rows ((pick st.g gs).getD [])).drop gs.length
   rw[hpg,vj,List.map_drop,af4];congr 1
   have key:∀(l:J Nat)(m:J (cL×Value))(g:J (cL×Value)),(ke (l.zip m) g).map (·.1)=ke (l.zip (m.map (·.1))) (g.map (·.1)):=by
    intro l
    induction l with
    | nil=>intro m g;rfl
    | cons i l ih=>
     intro m g
     cases m with
     | nil=>rfl
     | cons y m=>
      simp only[List.zip_cons_cons,jY,ke];rw[ih,Zj]
   rw[key,af4,hgs]
  ·have hy:(ke (qn o.boxes bs (o.hc bs gs st ls)) st.H++(o.hc bs gs st ls).drop bs.length)[q]? = W0 y:=hy
   rcases af5 q b hq with h|⟨h1,h2,h3⟩
   ·have tS:q<st.H.length:=by rw[<-hlen];exact(eY.1 h).1
    rw[vP (by rw[gK];exact tS)]at hy;by_cases hm:q∈bs
    ·obtain⟨r,hrl,rfl⟩:=lH hm
     obtain⟨b',q1,q2⟩:=hig r _ (fJ hrl);rw[h]at q2;cases q2
     cases Ur:o.boxes[r]? with
     | none=>rw[List.getElem?_eq_none_iff]at Ur;omega
     | some ob=>
      cases ob with
      | some t=>
       grind[ID,GX,Lu,List.getElem?_eq_getElem]
      | none=>
       rw[um _ _ _ (λhmm=>by
        obtain⟨p,hp,he⟩:=oK.1 hmm;obtain⟨i,x⟩:=p;obtain⟨r',t',e1,e2,-⟩:=Bo hp;have XF:=eY.1 e2;have:r'=r:=(Tf hn1).1 (XF.2.trans he);subst this;rw[Ur]at e1;cases e1)]at hy
       refine(hr.boxes.box _ b y h hy).mono Lw (Lv r b q1 (λhc=>?_));rw[<-qJ r]at hc;obtain⟨t,ht⟩:=Qo hc;rw[Ur]at ht;cases ht
    ·rw[um _ _ _ (λhmm=>by
      obtain⟨p,hp,he⟩:=oK.1 hmm;obtain⟨i,x⟩:=p;obtain⟨r',t',-,e2,-⟩:=Bo hp;exact hm (by rw[<-show i=q from he];exact jx e2))]at hy
     exact(hr.boxes.box q b y h hy).mono Lw (hsame q b h hm)
   ·rw[Jp (by rw[gK,<-hlen];omega),gK,PF,<-hlen]at hy
    grind
  ·rcases ZG b hb with h|⟨h,-⟩
   ·exact jS (hr.boxes.lt b h) hE.size
   ·exact hB.lt b h
  ·show(G.i++G'.i.drop bs.length).Nodup
   refine List.nodup_append.2 ⟨hr.boxes.nodup,(List.drop_sublist _ _).nodup hB.nodup,λx hx y hy e=>?_⟩;subst e;obtain⟨q,hq,he⟩:=lH hy;have h1:(G'.i.drop bs.length)[q]? = W0 x:=by rw[<-he];exact fJ hq
   rw[PF]at h1;have:=hE.qO _ x (by show is.length<=_;omega) h1;have:=hr.boxes.lt x hx;omega
  ·refine⟨(hB.gu b oo hp).1,λhm=>?_⟩
   rcases ZG b hm with h|⟨h,-⟩
   ·rcases hE.oz b oo (hr.boxes.lt b h) hp with q|q
    ·exact(hr.boxes.gu b oo q).2 h
    ·obtain⟨j,j',x,hh,-,h2,h3⟩:=CO b q
     exact(Kr j' x hh b h2 h3).2 h
   ·exact(hB.gu b oo hp).2 h
  ·rcases hgn q (x,h) hq with⟨h0,h1⟩|⟨j,h1,h2⟩
   ·obtain⟨n,xs,g1,g2,g3⟩:=hr.boxes.grow q x h h1
    have hun:∀b,h.ownBlock=W0 b->w'.heap[b]? = w.heap[b]?:=λb hbk=>by
     refine hE.old b (g3 b hbk).1 (λhf=>?_);rcases hf with hf|hf
     ·exact(g3 b hbk).2.1 (aaX b hf)
     ·obtain⟨j,j',x',h',e1,e2,e3⟩:=CO b hf
      have:=hr.boxes.apart q j' x h x' h' b h1 e2 hbk e3;exact h0 (by rw[this];exact jx e1)
    refine⟨n,xs,⟨g1.1,?_⟩,g2,λb hbk=>?_⟩
    ·rcases g1.2 with q2|⟨gb,cap,cur,q2,q3,q4,q5⟩
     ·exact .inl q2
     ·exact .inr ⟨gb,cap,cur,q2,q3,by rw[hun gb (by rw[q2];rfl)];exact q4,q5⟩
    ·obtain⟨k1,k2,k3⟩:=g3 b hbk
     refine⟨jS k1 hE.size,λhm=>?_,λoo ho hp=>?_⟩
     ·rcases ZG b hm with h'|⟨-,h'⟩
      ·exact k2 h'
      ·omega
     ·rcases hE.oz b oo k1 hp with q'|q'
      ·exact k3 oo ho q'
      ·obtain⟨j,j',x',h',e1,e2,e3⟩:=CO b q'
       have:=hr.boxes.apart q j' x h x' h' b h1 e2 hbk e3;exact h0 (by rw[this];exact jx e1)
   ·obtain⟨ro,x',q1,q2,q3,q4⟩:=hent j _ h1
    obtain⟨n,xs,g1,g2,g3⟩:=hB.grow j x' h q2
    have hek:x.e=x'.e/\x.k=x'.k:=by
     have q4:x=rowAt ro (gg.map (·.1))[j]?:=q4;rw[q3,q4];by_cases EV:j<gg.length
     ·have e1:g0[j]? = W0 {gg[j].1 with aF:=0}:=by simp[g0,bx.ek,EV]
      have e2:(gg.map (·.1))[j]? = W0 gg[j].1:=by simp[EV]
      rw[e1,e2];cases ro<;>simp[rowAt]
     ·have e1:g0[j]? = WP:=Ny om
      have e2:(gg.map (·.1))[j]? = WP:=Ny bp;rw[e1,e2];exact⟨rfl,rfl⟩
    refine⟨n,xs,by rw[hek.1,hek.2];exact g1,λa m h=>by rw[hek.1];exact g2 a m h,λb hbk=>?_⟩;obtain⟨k1,k2,k3⟩:=g3 b hbk;refine⟨k1,λhm=>?_,by rw[hek.2];exact k3⟩;rcases ZG b hm with h'|⟨h',-⟩
    ·rcases hblk j x' h b q2 hbk with q'|⟨j',x0,h0,q5,q6,q7⟩
     ·have:=hr.boxes.lt b h';omega
     ·exact(Kr j' x0 h0 b q6 q7).2 h'
    ·exact k2 h'
  ·rcases hgn q (x,h) hq with⟨n0,h1⟩|⟨j,h1,h2⟩<;>rcases hgn q' (x',h') ZZ with⟨n0',h1'⟩|⟨j',h1',h2'⟩
   ·exact hr.boxes.apart q q' x h x' h' b h1 h1' vW nP
   ·exfalso
    obtain⟨ro,y,e1,e2,-,-⟩:=hent j' _ h1';rcases hblk j' y h' b e2 nP with q5|⟨j2,x0,h0,q5,q6,q7⟩
    ·have:=(Kr q x h b h1 vW).1;omega
    ·have:=hr.boxes.apart q j2 x h x0 h0 b h1 q6 vW q7
     exact n0 (by rw[this];exact jx q5)
   ·exfalso
    obtain⟨ro,y,e1,e2,-,-⟩:=hent j _ h1;rcases hblk j y h b e2 vW with q5|⟨j2,x0,h0,q5,q6,q7⟩
    ·have:=(Kr q' x' h' b h1' nP).1;omega
    ·have:=hr.boxes.apart q' j2 x' h' x0 h0 b h1' q6 nP q7
     exact n0' (by rw[this];exact jx q5)
   ·obtain⟨ro,y,e1,e2,-,-⟩:=hent j _ h1
    obtain⟨ro',y',e1',XF,-,-⟩:=hent j' _ h1';have:=hB.apart j j' y h y' h' b e2 XF vW nP;subst this;rcases h2 with⟨h2,-⟩|⟨h2,h3⟩<;>rcases h2' with⟨h2',-⟩|⟨h2',h3'⟩
    ·rw[h2]at h2';exact rQ h2'
    ·have:=(eY.1 h2).1;omega
    ·have:=(eY.1 h2').1;omega
    ·omega
 ·have hd:r∉(qn o.boxes bs (o.hc bs gs st ls)).map (·.1)++st.d:=hd
  rw[p8,not_or]at hd;have hgi:=ev.goes.i r b hb;refine Eq.trans ?_ (hr.fix r b hb hd.2);by_cases hm:r∈bs
  ·obtain⟨q,tS,rfl⟩:=lH hm
   obtain⟨b',q1,q2⟩:=hig q _ (fJ tS);rw[hgi]at q2;cases q2;refine Lv q b q1 (λhc=>hd.1 ?_);rw[<-qJ q]at hc;obtain⟨t,ht⟩:=Qo hc;have hrc:q<(o.hc bs gs st ls).length:=om;exact oK.2 ⟨_,Lu q ht (fJ tS) (fJ hrc),rfl⟩
  ·exact hsame r b hgi hm
 ·intro i c0 hm
  have hm:(i,c0)∈nu (λq=>(o.n2 bs gs st).g[q]?) o.soft (pV o.boxes (o.res.put (o.n2 bs gs st) ls).2)++Kq gs st.c:=hm;rcases p8.1 hm with hm|hm
  ·rw[fB]at hm
   obtain⟨q,e1,e2⟩:=Bq hm;obtain⟨x',hd,h1,h2⟩:=hS q c0 e2;have tS:q<o.rows.length:=by rw[<-af3];exact(eY.1 h1).1
   have hqn:q<pe.length:=om;obtain⟨ro,x1,q1,q2,q3,q4⟩:=hent q _ (fJ hqn);rw[h1]at q2;have q2:=rQ q2;simp only[Tg]at q2;obtain⟨q2a,q2b⟩:=q2
   have hek:pe[q].1.e=x'.e/\pe[q].1.k=x'.k:=by
    rw[q2a,q3,q4];by_cases EV:q<gg.length
    ·have e1:g0[q]? = W0 {gg[q].1 with aF:=0}:=by simp[g0,bx.ek,EV]
     have e2:(gg.map (·.1))[q]? = W0 gg[q].1:=by simp[EV]
     rw[e1,e2];cases ro<;>simp[rowAt]
    ·have e1:g0[q]? = WP:=Ny om
     have e2:(gg.map (·.1))[q]? = WP:=Ny bp;rw[e1,e2];exact⟨rfl,rfl⟩
   refine⟨pe[q].1,hd,?_,h2.keep hek.1 hek.2 (λ_ _ h=>h) (λ_ _ _ _ h=>h) (λb _=>⟨rfl,λ_ h=>h⟩)⟩;by_cases EV:q<gs.length
   ·obtain⟨y,r1,r2⟩:=Lt q _ (fJ EV)
    have:i=gs[q]:=by
     simp only[Outs.n2]at e1;rw[vP EV,fJ EV]at e1;exact(rQ e1).symm
    rw[this,aaW q _ _ (fJ EV) (eY.1 r2).1 (fJ hqn),q2b]
   ·have:i=st.g.length+(q-gs.length):=by
     simp only[Outs.n2]at e1;rw[Jp om,aeL om]at e1;have:=rQ e1;omega
    rw[this,<-ao8,aea q _ om (fJ hqn),q2b]
  ·obtain⟨hmc,hng⟩:=Bp hm
   obtain⟨x,hd,h1,h2⟩:=hr.gv i c0 hmc;obtain⟨n,xs,g1,g2,g3⟩:=hr.boxes.grow i x hd h1
   have hun:∀b,hd.ownBlock=W0 b->¬ (G.ek is gg).Er b:=λb hbk hf=>by
    rcases hf with hf|hf
    ·exact(g3 b hbk).2.1 (aaX b hf)
    ·obtain⟨j,j',x',h',e1,e2,e3⟩:=CO b hf
     have:=hr.boxes.apart i j' x hd x' h' b h1 e2 hbk e3;exact hng (by rw[this];exact jx e1)
   refine⟨x,hd,?_,h2.keep rfl rfl Lw.pr Lw.cells (λb hbk=>⟨hE.old b (g3 b hbk).1 (hun b hbk),λoo hp=>?_⟩)⟩
   ·exact ad9 i _ hng h1
   ·rcases hE.oz b oo (g3 b hbk).1 hp with q'|q'
    ·exact q'
    ·exact(hun b hbk (.inr q')).elim
def vz(c:CT)(d:TV E)(st:TS E):TV E×TS E:=match c,d with
 | .dat _,.eA j aF=>match st.g[j]?,oQ st.c j with
  | some g,W0 c=>cond (ST g.aF aF) (.dat (.bq c.1) c.2,{st with c:=nK j st.c}) (.eA j aF,st)
  | _,_=>(.eA j aF,st)
 | _,d=>(d,st)
def Fu:J CT->J (TV E)->TS E->J (TV E)×TS E
 | c::cs,d::ds,st=>((vz c d st).1::(Fu cs ds (vz c d st).2).1,(Fu cs ds (vz c d st).2).2)
 | _,ds,st=>(ds,st)
def Fv(p:PT)(d:TV E)(st:TS E):TV E×TS E:=match p,d with
 | .one c,d=>vz c d st
 | .dG cs,.tuple ds=>(.tuple (Fu cs ds st).1,(Fu cs ds st).2)
 | _,d=>(d,st)
def y9:J PT->J (TV E)->TS E->J (TV E)×TS E
 | p::ps,d::ds,st=>((Fv p d st).1::(y9 ps ds (Fv p d st).2).1,(y9 ps ds (Fv p d st).2).2)
 | _,ds,st=>(ds,st)
def pN(st st':TS E):Prop:=∃c',st'={st with c:=c'}
theorem pN.refl(st:TS E):pN st st:=⟨st.c,rfl⟩
variable{s1:TS E}
theorem pN.trans{s2 s3:TS E}(h1:pN s1 s2)(h2:pN s2 s3):pN s1 s3:=by
 obtain⟨c1,rfl⟩:=h1;obtain⟨c2,rfl⟩:=h2;exact⟨c2,rfl⟩
theorem SD(c:CT)(d:TV E)(hr:Rel E w0 G0 st a w G):pN st (vz c d st).2/\∃G',Rel E w0 G0 (vz c d st).2 a w G'/\iK w G w G'/\∀v,VT E w G d v->VT E w G' (vz c d st).1 v:=by
 have wL:pN st st/\∃G',Rel E w0 G0 st a w G'/\iK w G w G'/\∀v,VT E w G d v->VT E w G' d v:=⟨pN.refl st,G,hr,iK.refl w G,λ_ h=>h⟩;unfold vz;split
 ·rename_i t j aF
  split
  ·rename_i g c hg hc
   cases hb:ST g.aF aF
   ·exact wL
   ·obtain rfl:=eM hb
    obtain⟨G',hR,Bj,h1⟩:=hr.aoZ hg hc;exact⟨⟨_,rfl⟩,G',hR,Bj,h1⟩
  ·exact wL
 ·exact wL
theorem aaY:∀(cs:J CT)(ds:J (TV E)){st:TS E}{G:bx},Rel E w0 G0 st a w G->pN st (Fu cs ds st).2/\∃G',Rel E w0 G0 (Fu cs ds st).2 a w G'/\iK w G w G'/\∀vs,bI E w G ds vs->bI E w G' (Fu cs ds st).1 vs
 | [],ds,st,G,hr=>by
  grind[Fu,pN.refl,iK.refl]
 | c::cs,[],st,G,hr=>by
  grind[Fu,pN.refl,iK.refl]
 | c::cs,d::ds,st,G,hr=>by
  obtain⟨o1,G1,eX,g1,v1⟩:=SD c d hr;obtain⟨o2,G2,hr2,g2,v2⟩:=aaY cs ds eX;refine⟨o1.trans o2,G2,hr2,g1.trans g2,λvs hv=>?_⟩;obtain⟨u,us,rfl,h1,h2⟩:=hv.cons_inv;exact .cons ((v1 u h1).mono g2) (v2 us (h2.mono g1))
theorem aaZ(p:PT)(d:TV E)(hr:Rel E w0 G0 st a w G):pN st (Fv p d st).2/\∃G',Rel E w0 G0 (Fv p d st).2 a w G'/\iK w G w G'/\∀v,VT E w G d v->VT E w G' (Fv p d st).1 v:=by
 unfold Fv
 grind[SD,aaY,VT,pN.refl,iK.refl]
theorem Oq:∀(ps:J PT)(ds:J (TV E)){st:TS E}{G:bx},Rel E w0 G0 st a w G->pN st (y9 ps ds st).2/\∃G',Rel E w0 G0 (y9 ps ds st).2 a w G'/\iK w G w G'/\∀vs,bI E w G ds vs->bI E w G' (y9 ps ds st).1 vs
 | [],ds,st,G,hr=>by
  grind[y9,pN.refl,iK.refl]
 | c::cs,[],st,G,hr=>by
  grind[y9,pN.refl,iK.refl]
 | c::cs,d::ds,st,G,hr=>by
  obtain⟨o1,G1,eX,g1,v1⟩:=aaZ c d hr;obtain⟨o2,G2,hr2,g2,v2⟩:=Oq cs ds eX;refine⟨o1.trans o2,G2,hr2,g1.trans g2,λvs hv=>?_⟩;obtain⟨u,us,rfl,h1,h2⟩:=hv.cons_inv;exact .cons ((v1 u h1).mono g2) (v2 us (h2.mono g1))
theorem Rel.ah4(h:Rel E w0 G0 st a w G){i:Nat}(hi:st.t[i]? = W0 (.val (.slice WP 0 0)))(e:aK)(T:Ty)(hT:0<T.size E):
  ∃G',Rel E w0 G0 {st with t:=st.t.set i (.eA st.g.length 0),g:=st.g++[⟨0,e,T.size E⟩],c:=(st.g.length,⟨T,[]⟩)::st.c} a w G':=by
 have hN:=h.Ko e (T.size E);have hl:=h.qm;have lF:(G.g++[(⟨0,e,T.size E⟩,Value.slice WP 0 0)])[st.g.length]? = W0 (⟨0,e,T.size E⟩,.slice WP 0 0):=by rw[<-hl];simp
 have hC:=hN.Wl (c:=⟨T,[]⟩) ⟨_,_,lF,rfl,hT,⟨[],⟨si,.inl ⟨rfl,rfl⟩⟩,Flat.nil⟩,λb hb=>by cases hb⟩;refine⟨_,hC.ff,by simpa using hC.size,λj d hj=>?_,hC.defers,hC.boxes,hC.fix,hC.pins,hC.gv⟩;simp[PG]at hj;by_cases hij:i=j
 ·subst hij
  have hlt:=(eY.1 hi).1;simp[hlt]at hj;subst hj;have hv:=h.tmps i _ hi;rw[hv];exact⟨_,_,lF,eu _,rfl,λ_=>rfl⟩
 ·rw[if_neg hij]at hj
  exact hN.tmps j d hj
theorem Rel.af6(h:Rel E w0 G0 st a w G){r c:Nat}{t:aK}{cs:J (TV E)}(hr:st.H[r]? = W0 (.cells t cs))(hc:cs[c]? = W0 (.val (.slice WP 0 0)))(e:aK)(T:Ty)(hT:0<T.size E):
  ∃G',Rel E w0 G0 {st with H:=st.H.set r (.cells t (cs.set c (.eA st.g.length 0))),g:=st.g++[⟨0,e,T.size E⟩],d:=r::st.d,c:=(st.g.length,⟨T,[]⟩)::st.c} a w G':=by
 have hN:=h.Ko e (T.size E);have hl:=h.qm;have lF:(G.g++[(⟨0,e,T.size E⟩,Value.slice WP 0 0)])[st.g.length]? = W0 (⟨0,e,T.size E⟩,.slice WP 0 0):=by rw[<-hl];simp
 have hC:=hN.Wl (c:=⟨T,[]⟩) ⟨_,_,lF,rfl,hT,⟨[],⟨si,.inl ⟨rfl,rfl⟩⟩,Flat.nil⟩,λb hb=>by cases hb⟩;have hlr:r<G.i.length:=by rw[h.boxes.len];grind
 have hat:=fJ hlr;have hS:=hC.yZ hat rfl rfl rfl rfl (λ_ _=>rfl) (x:=.cells t (cs.set c (.eA st.g.length 0))) (λ_=>?_)
 ·exact⟨_,hS⟩
 ·obtain⟨vs,h1,h2,h3⟩:=hC.boxes.box r _ _ hat hr
  refine⟨vs,h1,h2,?_⟩;obtain⟨u,hu,hv⟩:=h3.get c hc;subst hv
  have key:∀(G1:bx)(cs:J (TV E))(vs:J Value)(c:Nat)(d:TV E),bI E w G1 cs vs->vs[c]? = W0 (.slice WP 0 0) ->
    VT E w G1 d (.slice WP 0 0)->bI E w G1 (cs.set c d) vs:=by
   intro G1 cs
   induction cs with
   | nil=>simp_all
   | cons x cs ih=>
    intro vs c d h1 h2 h3;obtain⟨u,us,rfl,q1,q2⟩:=h1.cons_inv
    cases c with
    | zero=>simp at h2;subst h2;exact .cons h3 q2
    | succ c=>exact .cons q1 (ih us c d q2 (by simpa using h2) h3)
  refine key _ cs vs.toList c _ h3 hu ?_;simp[VT]
  grind
structure Fr(W:List Nat)(nd:Bool)(st st':TS E):Prop where
 len:st'.t.length=st.t.length
 keep:∀i,i∉W->st'.t[i]? = st.t[i]?
 d:∃D,st'.d=D++st.d/\∀r,r<st.H.length->r∉D->st'.H[r]? = st.H[r]?
 hl:st.H.length<=st'.H.length
 df:nd=WF->st'.df=st.df
theorem Fr.refl(W:J Nat)(nd:Bool)(st:TS E):Fr W nd st st:=⟨rfl,λ_ _=>rfl,⟨[],rfl,λ_ _ _=>rfl⟩,eu _,λ_=>rfl⟩
variable{W:J Nat}
theorem Fr.trans{W1 W2:J Nat}{n1 n2 n:Bool}{s2 s3:TS E}(h1:Fr W1 n1 s1 s2)(h2:Fr W2 n2 s2 s3)(hw1:∀i,i∈W1->i∈W)(AQ:∀i,i∈W2->i∈W)(hn:n=WF->n1=WF/\n2=WF):Fr W n s1 s3:=by
 obtain⟨D1,d1,e1⟩:=h1.d;obtain⟨D2,d2,e2⟩:=h2.d;refine⟨h2.len.trans h1.len,λi hi=>(h2.keep i (λh=>hi (AQ i h))).trans (h1.keep i (λh=>hi (hw1 i h))),⟨D2++D1,by simp_all,λr hr hd=>?_⟩,oM h1.hl h2.hl,λh=>(h2.df (hn h).2).trans (h1.df (hn h).1)⟩
 grind
theorem Fr.wide{W':J Nat}{n n':Bool}{s s':TS E}(h:Fr W n s s')(hw:∀i,i∈W->i∈W')(hn:n'=WF->n=WF):Fr W' n' s s':=
 ⟨h.len,λi hi=>h.keep i (λhm=>hi (hw i hm)),h.d,h.hl,λh'=>h.df (hn h')⟩
def iL:O Nat->J Nat
 | some i=>[i]
 | none=>[]
theorem Lx(l:J (TV E))(dst:O Nat)(d:TV E):(cz l dst d).length=l.length:=by cases dst<;>simp[cz]
theorem IE(l:J (TV E))(dst:O Nat)(d:TV E)(i:Nat)(h:i∉iL dst):(cz l dst d)[i]? = l[i]?:=by
 cases dst with
 | none=>rfl
 | some j=>
  grind[iL,List.mem_singleton,cz,List.getElem?_set_ne]
theorem Fr.put(st:TS E)(dst:O Nat)(d:TV E):Fr (iL dst) WF st {st with t:=cz st.t dst d}:=
 ⟨Lx _ _ _,λi hi=>IE _ _ _ _ hi,⟨[],rfl,λ_ _ _=>rfl⟩,eu _,λ_=>rfl⟩
theorem Fr.akk(st:TS E)(dst:O Nat)(d:TV E)(H:J (fK E))(g:J cL)(D:J Nat)(c:J (Nat×Cn E))(hH:∀r,r<st.H.length->r∉D->H[r]? = st.H[r]?)(hl:st.H.length<=H.length):
  Fr (iL dst) WF st {st with t:=cz st.t dst d,H:=H,g:=g,d:=D++st.d,c:=c}:=
 ⟨Lx _ _ _,λi hi=>IE _ _ _ _ hi,⟨D,rfl,hH⟩,hl,λ_=>rfl⟩
theorem Fr.mem(st:TS E)(dst:O Nat)(d:TV E)(H:J (fK E))(g:J cL)(D:J Nat)(hH:∀r,r<st.H.length->r∉D->H[r]? = st.H[r]?)(hl:st.H.length<=H.length):
  Fr (iL dst) WF st {st with t:=cz st.t dst d,H:=H,g:=g,d:=D++st.d}:=
 ⟨Lx _ _ _,λi hi=>IE _ _ _ _ hi,⟨D,rfl,hH⟩,hl,λ_=>rfl⟩
theorem Lz(l m:J α):∀r,r<l.length->r∉([]:J Nat)->(l++m)[r]? = l[r]?:=λr hr _=>by grind
theorem CP(l:J α)(q:Nat)(x:α):∀r,r<l.length->r∉[q]->(l.set q x)[r]? = l[r]?:=λr _ hd=>by
 grind
variable{ty:aK->O Ty}{st':TS E}{dst:O Nat}{op:Op}
theorem akl{c:Bool}(h:Uj P ty st dst op=W0 (c,st')):Fr (iL dst) WF st st':=by
 cases op<;>simp[Uj]at h<;>try trivial
 case alloc t=>split at h<;>cases h;exact Fr.mem st dst _ _ st.g [] (Lz _ _) si
 case box t x=>split at h<;>cases h;exact Fr.mem st dst _ _ st.g [] (Lz _ _) si
 case store t x y=>
  split at h<;>try trivial
  split at h<;>cases h;exact Fr.mem st dst _ _ st.g [_] (CP _ _ _) si
 case buildSlice t len parts=>
  split at h<;>try trivial
  split at h<;>try trivial
  split at h<;>try trivial
  cases hl:ST len 0<;>rw[hl]at h<;>simp only[aY,aM]at h
  ·cases h
   exact Fr.mem st dst _ st.H _ [] (λ_ _ _=>rfl) (eu _)
  ·generalize E.zc _=z at h
   cases z<;>simp only[aY,aM]at h<;>cases h
   ·exact Fr.mem st dst _ st.H st.g [] (λ_ _ _=>rfl) (eu _)
   ·exact Fr.mem st dst _ st.H _ [] (λ_ _ _=>rfl) (eu _)
 case call c'=>
  unfold afN at h;split at h<;>try trivial
  ·split at h<;>try trivial
   split at h<;>try trivial
   split at h<;>try trivial
   split at h<;>try trivial
   ·split at h<;>try trivial
    split at h<;>cases h;exact Fr.mem st dst _ st.H _ [] (λ_ _ _=>rfl) (eu _)
   ·cases h
    exact Fr.mem st dst _ st.H _ [] (λ_ _ _=>rfl) (eu _)
  ·split at h<;>try trivial
   split at h<;>cases h;exact Fr.mem st dst _ st.H _ [] (λ_ _ _=>rfl) (eu _)
 case convert src dt x=>
  grind[Fr.put]
 case makeMap t res=>
  cases res with
  | some x=>simp at h
  | none=>
   simp only at h;split at h<;>try trivial
   split at h<;>cases h;exact Fr.mem st dst _ _ st.g [] (Lz _ _) si
 case mapUpdate t x y z=>
  split at h<;>try trivial
  split at h<;>try trivial
  split at h<;>cases h;exact Fr.mem st dst _ _ st.g [_] (CP _ _ _) si
 grind[Fr.put]
theorem Fr.c(st:TS E)(dst:O Nat)(d:TV E)(g:J cL)(c:J (Nat×Cn E)):Fr (iL dst) WF st {st with t:=cz st.t dst d,g:=g,c:=c}:=
 Fr.akk st dst d st.H g [] c (λ_ _ _=>rfl) (eu _)
theorem am0{c:Bool}(h:CM P ty st dst op=W0 (c,st')):Fr (iL dst) WF st st':=by
 cases op<;>try trivial
 case load t x=>
  grind[CM,Fr.put]
 case store t x y=>
  simp[CM]at h;split at h<;>try trivial
  grind[Fr.c]
 case makeSlice t x y=>
  grind[CM,Fr.c]
 case slice t x lo hi mx=>
  cases lo with
  | some _=>cases h
  | none=>
  cases hi with
  | none=>cases h
  | some hi=>
  cases mx with
  | some _=>cases h
  | none=>
  grind[CM,Fr.c]
 case call cl=>
  simp[CM]at h;unfold afS at h;split at h<;>try trivial
  ·split at h<;>try trivial
   grind[Fr.c]
theorem am1{c:Bool}(h:aaM P ty st dst op=W0 (c,st')):Fr (iL dst) WF st st':=by
 cases op<;>simp[aaM]at h<;>try trivial
 case alloc t=>
  grind[Fr.c]
 case box t x=>
  grind[Fr.c]
 case load t x=>
  grind[Fr.put]
theorem am2{c:Bool}(h:aaK P ty st dst op=W0 (c,st')):Fr (iL dst) WF st st':=by
 cases op<;>simp[aaK]at h<;>try trivial
 cases hb:afP ty dst<;>rw[hb]at h<;>simp only[aY,aM]at h
 ·cases h
 split at h<;>try trivial
 split at h<;>try trivial
 split at h<;>try trivial
 cases h;exact Fr.akk st dst _ st.H _ [] _ (λ_ _ _=>rfl) (eu _)
theorem am3{c:Bool}(h:aaN P ty st dst op=W0 (c,st')):Fr (iL dst) WF st st':=by
 unfold aaN at h;split at h
 ·grind[am2]
 split at h
 rotate_left
 ·cases op<;>simp[af0]at h<;>try trivial
  split at h<;>try trivial
  split at h<;>cases h;exact Fr.mem st dst _ _ st.g [_] (CP _ _ _) si
 grind[afW,am1,ZB,akl,am0]
theorem Fr.ofC{n:Bool}{s s':TS E}(hc:pN s s1)(h:Fr W n s1 s'):Fr W n s s':=by
 obtain⟨c,rfl⟩:=hc;exact⟨h.len,h.keep,h.d,h.hl,h.df⟩
structure Sl where
 b:List (Option Nat)
 g:List (Option Nat)
def Sl.Wn(s:Sl)(r r':Nat):Sl:={s with b:=s.b.set r (W0 r')}
def Sl.akm(s:Sl)(r r':Nat):Sl:={s with g:=s.g.set r (W0 r')}
def aa0(s:Sl):J (Nat×Nat)->J (TV E)->Sl
 | (r,_)::cs,.ptr r' _::ds=>aa0 (s.Wn r r') cs ds
 | _::cs,_::ds=>aa0 s cs ds
 | _,_=>s
def CT.un(s:Sl):CT->TV E->Sl
 | .ptr r _,.ptr r' _=>s.Wn r r'
 | .qj r _,.ptr r' _=>s.Wn r r'
 | .qj r _,.qj _ r' _=>s.Wn r r'
 | .jy r,.jy r'=>s.Wn r r'
 | .uI r,.uI r'=>s.Wn r r'
 | .cA j _,.cA j' _ _ _=>s.akm j j'
 | .eA j,.eA j' _=>s.akm j j'
 | .iC j _,.iC j' _ _ _ _=>s.akm j j'
 | .func _ caps,.func _ cs=>aa0 s caps cs
 | _,_=>s
def CT.unL(s:Sl):J CT->J (TV E)->Sl
 | c::cs,ds=>match c.pk? with
  | some t=>CT.unL s cs (ds.drop (t.size E))
  | none=>match ds with
   | d::ds=>CT.unL (c.un s d) cs ds
   | []=>s
 | _,_=>s
def PT.un(s:Sl):PT->TV E->Sl
 | .one c,d=>c.un s d
 | .agg cs,.agg ds=>CT.unL s cs ds
 | .dG cs,.tuple ds=>CT.unL s cs ds
 | _,_=>s
def al7(s:Sl):J PT->J (TV E)->Sl
 | p::ps,d::ds=>al7 (p.un s d) ps ds
 | _,_=>s
def al8(H:J (fK E)):Nat->J BT->Sl->Sl
 | _,[],s=>s
 | r,t::ts,s=>al8 H (r+1) ts (match t,(s.b[r]?.getD WP).bind (H[·]?)with
  | .cells _ cs,W0 (.cells _ ds)=>CT.unL s cs ds
  | .loop _ cs,W0 (.loop _ ds)=>CT.unL s cs ds
  | _,_=>s)
def qY:J (O Nat)->J Nat
 | []=>[]
 | some x::xs=>x::qY xs
 | none::xs=>qY xs
def di.ek(s:di)(st:TS E)(ds:J (TV E)):Sl:=
 al8 st.H 0 s.boxes (al7 ⟨s.boxes.map λ_=>WP,s.rows.map λ_=>WP⟩ s.args ds)
def sm{α β γ:Type}(f:α->γ)(g:β->γ):α ⊕ β->γ
 | .inl x=>f x
 | .inr y=>g y
def okK{R:Type}(o:Outs)(bs gs:J Nat)(st:TS E)(dst:O Nat)(k:Ex E->TS E->O R)(y:dens E o.tys):O R:=
 k .normal {o.after bs gs st (aR o.tys y)with t:=cz st.t dst (o.val bs gs st (aR o.tys y))}
def aso{R:Type}(o:Outs)(bs gs:J Nat)(st:TS E)(k:Ex E->TS E->O R)(y:dens E o.tys):O R:=
 k (.panic (o.val bs gs st (aR o.tys y))) (o.after bs gs st (aR o.tys y))
def aa1{R:Type}(s:di)(bs gs:J Nat)(st:TS E)(dst:O Nat)(k:Ex E->TS E->O R):(p:O Outs)->OutP E s.out p->O R
 | none=>okK s.out bs gs st dst k
 | some q=>sm (okK s.out bs gs st dst k) (aso q bs gs st k)
def Outs.wf(o:Outs)(nb ng:Nat):Bool:=zZ nb o.boxes&&Nat.ble ng o.rows.length
def di.wf(s:di)(nb ng:Nat):Bool:=s.out.wf nb ng&&(match s.lY with|none=>WF|some q=>q.wf nb ng)
def rG{R:Type}(st:TS E)(dst:Option Nat)(f:FuncId)(ds:J (TV E))(k:Ex E->TS E->Option R):J (bJ E)->Option R
 | []=>WP
 | C::Γ=>cond (ST C.s.f f)
   (match y9 C.s.args ds st with
    | (ds',st')=>match C.s.enter (qY (C.s.ek st' ds').b) (qY (C.s.ek st' ds').g) st' ds' with
     | some ls=>match getAll C.s.tys ls with
      | some x=>rq (C.s.wf (qY (C.s.ek st' ds').b).length (qY (C.s.ek st' ds').g).length) ((C.m x).bind (aa1 C.s (qY (C.s.ek st' ds').b) (qY (C.s.ek st' ds').g) st' dst k C.s.lY))
      | none=>rG st dst f ds k Γ
     | none=>rG st dst f ds k Γ)
   (rG st dst f ds k Γ)
def CQ(P:bh)(o:Oper)(W:J Nat)(nd:Bool)(st:TS E)(Q:Ex E->TS E->Prop):Prop:=
 ∀w0 G0 a w G,Rel E w0 G0 st a w G->o.wp P a w (λa' w'=>∃st' G',Rel E w0 G0 st' a' w' G'/\Q .normal st'/\Fr W nd st st') (cK E w0 G0 λx st'=>x≠.normal/\Q x st'/\Fr W nd st st')
variable{o:Oper}{Q:Ex E -> TS E -> Prop}{f:FuncId}{R:Type}
theorem CQ.Ge{nd:Bool}(h:∀w0 G0 a w G,Rel E w0 G0 st a w G->jT P w0 G0 a w o st')(hQ:Q .normal st')(hF:Fr W nd st st'):CQ P o W nd st Q:=by
 intro w0 G0 a w G hr;obtain⟨nx,v,w',G',hrun,hnx,hr'⟩:=h w0 G0 a w G hr;unfold Oper.wp;rw[hrun];rcases hnx with rfl|⟨rfl,rfl⟩
 ·exact⟨st',G',hr',hQ,hF⟩
 ·exact⟨st',G',hr',hQ,hF⟩
theorem af7{next:Act->U->Prop}{QQ:Exit->Act->U->Prop}{args:aJ Value}{R:Ending->U->Prop}(hrun:(execOp a.eval o).run P w=(callFunc f args).run P w)(h:kB P f args w R)
  (h1:∀v w',R (.returned v) w'->next (a.put o.dst v) w') (h2:∀ch w',R (.panicked ch) w'->QQ (.panic ch) a w') (h3:∀w',¬ R .outgrown w'):o.wp P a w next QQ:=by
 unfold Oper.wp;rw[hrun];unfold kB at h;split at h
 ·rename_i f' args' w' hr
  rw[hr];refine Gr h λe w'' he=>?_
  grind
 ·rename_i v w' hr
  rw[hr];exact h1 v w' h
 ·exact h.elim
theorem Ot{w0 w:U}{G0 G:bx}{a:Act}(hr:Rel E w0 G0 st a w G):∀l:J dB,bI E w G (l.map st.ev) (l.map a.eval)
 | []=>.nil
 | x::l=>.cons (hr.ev x) (Ot hr l)
theorem Outs.SE(ot:Outs)(bs gs:J Nat)(st:TS E)(ls:J (Lf E))(dst:O Nat)(d:TV E):Fr (iL dst) WF st {ot.after bs gs st ls with t:=cz st.t dst d}:=
 Fr.akk st dst d _ _ _ _ (λr hr hd=>by
  show(ke (qn ot.boxes bs (ot.hc bs gs st ls)) st.H++(ot.hc bs gs st ls).drop bs.length)[r]? = _
  grind[List.getElem?_append_left,gK,um]) (by
  show _<=(ke (qn ot.boxes bs (ot.hc bs gs st ls)) st.H++(ot.hc bs gs st ls).drop bs.length).length;simp[gK])
theorem qf.ff(h:qf E w0 G0)(hE:kT w0 G0 w G):qf E w G:=by
 intro b ob hb;obtain⟨⟨cs,t,m,h1,hp⟩,h2⟩:=h b ob hb;have hlt:=(Av.1 h1).1;refine⟨⟨cs,t,m,(hE.old b hlt h2).trans h1,hp⟩,λhf=>h2 ?_⟩;rcases hf with hf|⟨x,hd,hm,hbk⟩
 ·obtain⟨q,hq,he⟩:=lH hf
  have Uq:G.i[q]? = W0 b:=by simp_all
  by_cases tS:q<G0.i.length
  ·have e1:=hE.goes.i q _ (fJ tS)
   exact .inl (by simp_all)
  ·have:=hE.qO q b om Uq;omega
 ·obtain⟨j,hj,he⟩:=lH hm
  rcases hE.gM j x hd b (by simp_all) hbk with q|⟨x0,h0,q1,q2⟩
  ·omega
  ·exact .inr ⟨x0,h0,jx q1,q2⟩
theorem Rel.Us(h:Rel E w0 G0 st a w G):qf E w G:=h.pins.ff h.ff
theorem aa2{r:J α}(h:pick l is=W0 r){x:α}(hx:x∈r):x∈l:=by
 obtain⟨j,hj,he⟩:=lH hx;obtain⟨hl,hg⟩:=rZ h;have hj':j<is.length:=om;obtain⟨y,h1,h2⟩:=hg j is[j] (fJ hj')
 grind
theorem qf.ek(h:qf E w G)(hi:pick G.i bs=W0 is)(hg:pick G.g gs=W0 gg):qf E w (G.ek is gg):=λb ob hb=>by
 obtain⟨h1,h2⟩:=h b ob hb;refine⟨h1,λhf=>h2 ?_⟩;rcases hf with hf|⟨x,hd,hm,hbk⟩
 ·exact .inl (aa2 hi hf)
 ·obtain⟨y,hy,e⟩:=oK.1 hm
  cases e;exact .inr ⟨y.1,y.2,aa2 hg hy,hbk⟩
theorem Ou(hE:E.Ok){R:Type}{f:FuncId}{ds:J (TV E)}
  (Ut:∀w0 G0 a w G,Rel E w0 G0 st a w G->∃vs:Array Value,bI E w G ds vs.toList/\(execOp a.eval o).run P w=(callFunc f vs).run P w) {k:Ex E->TS E->Option R} {r:R} :
  ∀ {Γ:J (bJ E)},(∀C∈Γ,C.Ok P)->rG st o.dst f ds k Γ=W0 r->CQ P o (iL o.dst) WF st (λx st'=>k x st'=W0 r)
 | [],_,h=>by cases h
 | C::Γ,hΓ,h=>by
  have fB:rG st o.dst f ds k Γ=W0 r->CQ P o (iL o.dst) WF st (λx st'=>k x st'=W0 r):=Ou hE Ut (λC' hC=>hΓ C' (by simp[hC]));simp[rG]at h;cases hf:ST C.s.f f<;>rw[hf]at h<;>simp at h
  ·exact fB h
  have hf:=eM hf;obtain⟨Uu,jK,hhs⟩:∃Uu jK,y9 C.s.args ds st=(Uu,jK):=⟨_,_,rfl⟩;rw[hhs]at h;split at h
  ·rename_i ls hls
   split at h
   ·rename_i xx hxx
    generalize Cb:qY (C.s.ek jK Uu).b=bs at *;generalize hgs:qY (C.s.ek jK Uu).g=gs at *;obtain⟨hwf,h⟩:=dX h
    cases hm:C.m xx with
    | none=>rw[hm]at h;cases h
    | some y=>
     intro w0 G0 a w G0' hr;obtain⟨vs0,Ov,Uv⟩:=Ut w0 G0 a w G0' hr;obtain⟨Qp,G,eX,Bj,hvs⟩:=Oq C.s.args ds hr;have hargs:=hvs _ Ov;rw[hhs]at eX hargs Qp;have hr:=eX
     have hnd:bs.Nodup/\gs.Nodup/\bs.length=C.s.boxes.length/\C.s.rows.length=gs.length:=by
      unfold di.enter at hls;split at hls<;>try trivial
      rename_i H g hH hg;cases o9:(wJ bs&&(wJ gs&&(ST bs.length C.s.boxes.length&&zY C.s.rows g)))<;>rw[o9]at hls<;>simp only[aY]at hls
      ·cases hls
      simp only[cH]at o9;exact⟨wK o9.1,wK o9.2.1,eM o9.2.2.1,by rw[(Dj o9.2.2.2).1,(rZ hg).1]⟩
     obtain⟨is,gg,hi,Bg,hB,hS,hV⟩:=hr.enter hE hls hargs;have hput:=DK _ hxx;have hok:=hΓ C si xx y hm w (G.ek is gg) vs0 (hr.Us.ek hi Bg) (by rw[hput];exact hB) (by rw[hput];exact hS) (by rw[hput];exact hV);have hrun:=Uv;have hg0:=hB.gs
     have hwf':∀(q:Outs),q.wf bs.length gs.length=WF->zZ bs.length q.boxes=WF/\gs.length<=q.rows.length:=λq hq=>by
      simp_all[Outs.wf,cH,lG]
     unfold di.wf at hwf;rw[cH]at hwf
     have Ow:∀(y:dens E C.s.out.tys)(v:Value)(w':World),okK C.s.out bs gs jK o.dst k y=W0 r ->
       (∃v1 G',Ending.returned v=Di (C.s.out.mO WF (C.s.H (aR C.s.tys xx)) C.s.g0 (aR C.s.out.tys y)).ok v1/\kT w (G.ek is gg) w' G'/\lW E w' G' (C.s.out.mO WF (C.s.H (aR C.s.tys xx)) C.s.g0 (aR C.s.out.tys y)).H (C.s.out.mO WF (C.s.H (aR C.s.tys xx)) C.s.g0 (aR C.s.out.tys y)).g/\kN E w' G' (C.s.out.mO WF (C.s.H (aR C.s.tys xx)) C.s.g0 (aR C.s.out.tys y)).c /\
        VT E w' G' (C.s.out.mO WF (C.s.H (aR C.s.tys xx)) C.s.g0 (aR C.s.out.tys y)).d v1/\∀(q b:Nat),(G.ek is gg).i[q]? = W0 b->q∉(C.s.out.mO WF (C.s.H (aR C.s.tys xx)) C.s.g0 (aR C.s.out.tys y)).D->w'.heap[b]? = w.heap[b]?) ->
       ∃st' G',Rel E w0 G0 st' (a.put o.dst v) w' G'/\k .normal st'=W0 r/\Fr (iL o.dst) WF st st':=by
      rintro y v w' hk ⟨v1,G',he,hE,Uw,Ux,Uy,Lv⟩;simp[Outs.mO,Di]at he;subst he;obtain⟨hs1,hs2⟩:=hwf' _ hwf.1;rw[<-hg0]at Uw Ux Uy;obtain⟨Gn,hR,hval⟩:=hr.leave hi Bg hnd.1 hnd.2.1 C.s.out hs1 hs2 hE Uw Ux Uy Lv;exact⟨_,Gn,hR.put hval o.dst,hk,(C.s.out.SE bs gs jK _ o.dst _).ofC Qp⟩
     have fin:∀(p:Option Outs)(hp:C.s.lY=p)(y:OutP E C.s.out p),aa1 C.s bs gs jK o.dst k p y=W0 r->kB P f vs0 w (λe w'=>
       ∃v G',e=Di (gY C.s (C.s.H (aR C.s.tys xx)) p y).ok v/\kT w (G.ek is gg) w' G'/\lW E w' G' (gY C.s (C.s.H (aR C.s.tys xx)) p y).H (gY C.s (C.s.H (aR C.s.tys xx)) p y).g/\kN E w' G' (gY C.s (C.s.H (aR C.s.tys xx)) p y).c /\
        VT E w' G' (gY C.s (C.s.H (aR C.s.tys xx)) p y).d v/\∀(q b:Nat),(G.ek is gg).i[q]? = W0 b->q∉(gY C.s (C.s.H (aR C.s.tys xx)) p y).D->w'.heap[b]? = w.heap[b]?) ->
       o.wp P a w (λa' w'=>∃st' G',Rel E w0 G0 st' a' w' G'/\k .normal st'=W0 r/\Fr (iL o.dst) WF st st') (cK E w0 G0 λx st'=>x≠.normal/\k x st'=W0 r/\Fr (iL o.dst) WF st st'):=by
      intro p hp y hk hI;refine af7 hrun hI (λv w' hR=>?_) (λch w' hR=>?_) (λw' hR=>?_)
      ·cases p with
       | none=>exact Ow y v w' hk hR
       | some q=>
        cases y with
        | inl y=>exact Ow y v w' hk hR
        | inr y=>
         obtain⟨v1,G',he,-⟩:=hR;cases he
      ·cases p with
       | none=>
        obtain⟨v1,G',he,-⟩:=hR
        cases he
       | some q=>
        cases y with
        | inl y=>
         obtain⟨v1,G',he,-⟩:=hR
         cases he
        | inr y=>
         obtain⟨v1,G',he,hE,Uw,Ux,Uy,Lv⟩:=hR;simp[gY,Outs.mO,Di]at he;subst he;have hq:q.wf bs.length gs.length=WF:=by grind
         obtain⟨hs1,hs2⟩:=hwf' _ hq;simp[gY]at Uw Ux Uy Lv;rw[<-hg0]at Uw Ux Uy;obtain⟨Gn,hR,hval⟩:=hr.leave hi Bg hnd.1 hnd.2.1 q hs1 hs2 hE Uw Ux Uy Lv;exact⟨.panic (q.val bs gs jK (aR q.tys y)),_,Gn,⟨v1,rfl,hval⟩,hR,(λh=>nomatch h),hk,((q.SE bs gs jK _ WP .any).wide (λi hi=>by cases hi) (λh=>h)).ofC Qp⟩
      grind[Di,gY,aR]
     grind
   ·exact fB h
  ·exact fB h
theorem adg(hE:E.Ok){c:Call}{x:dB}{f:FuncId}{caps:J (TV E)}(ho:o.op=.call c)(hc:c.callee=.value x)(hx:st.ev x=.func (.func f) caps){k:Ex E->TS E->O R}{r:R}
  {Γ:J (bJ E)} (hΓ:∀C∈Γ,C.Ok P) (h:rG st o.dst f (c.args.toList.map st.ev++caps) k Γ=W0 r):CQ P o (iL o.dst) WF st (λx st'=>k x st'=W0 r):=by
 refine Ou hE (λw0 G0 a w G hr=>?_) hΓ h;have hv:=hr.ev x;rw[hx]at hv;obtain⟨cv,GR,Qq⟩:=hv;refine⟨c.args.map a.eval++cv,?_,?_⟩
 ·have:=(Ot hr c.args.toList).append Qq
  simpa using this
 ·simp only[execOp,ho,resolve,hc,GR,Deferred.ofValue,invoke]
  simp
theorem adh(hE:E.Ok){c:Call}{x:dB}{f:FuncId}{fs:J (TV E)}(ho:o.op=.call c)(hc:c.callee=.value x)(hx:st.ev x=.GN (.func f) fs){k:Ex E->TS E->O R}{r:R}
  {Γ:J (bJ E)} (hΓ:∀C∈Γ,C.Ok P) (h:rG st o.dst f (fs++c.args.toList.map st.ev) k Γ=W0 r):CQ P o (iL o.dst) WF st (λx st'=>k x st'=W0 r):=by
 refine Ou hE (λw0 G0 a w G hr=>?_) hΓ h;have hv:=hr.ev x;rw[hx]at hv;obtain⟨cv,GR,Qq⟩:=hv;refine⟨cv++c.args.map a.eval,?_,?_⟩
 ·have:=Qq.append (Ot hr c.args.toList)
  simpa using this
 ·simp only[execOp,ho,resolve,hc,GR,Deferred.ofValue,invoke]
  simp
end Go.RT
