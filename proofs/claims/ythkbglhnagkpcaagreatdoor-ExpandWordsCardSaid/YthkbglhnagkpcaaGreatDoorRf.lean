import Derived.Test.YthkbglhnagkpcaaGreatDoorRd
open Nat renaming ble->iO,beq->dO,blt->bY
open Option renaming some->iN,none->iF
open Bool renaming true->eQ,false->eK
open Decidable renaming decide->eJ
open Int renaming toNat->eI
open List renaming range->aT,replicate->W0,length->Sx
open Go renaming Value->R0,execOp->M2,undef->H5,FuncId->H4,callFunc->H3,Oper->H2
set_option linter.all false
namespace Go.RT
variable {E : TEnv}
variable{P:bw}{w0 w w':U}{G0 G G':bC}{st:TS E}{a:Act}{o:H2}{t:aK}{x:dJ}{i:TI}{j k off:Nat}{g:cU}{c:Cn E}{d:TV E}{T:Ty}{cs:J (TV E)}{y:dJ}{z:R0}{e:aK}{j1 j2:Nat}{ie:TI}{xs:J (T.den E.D)}{ty:aK->O Ty}{st':TS E}{v:R0}{ys:J (c.1.den E.D)}{cc:Bool}
theorem Kf(hE:E.Ok)(hr:Rel E w0 G0 st a w G)(ho:o.op=.load t x)(ht:aZ P t=iN i){ix:Nat}(hd:st.ev x=.iX j g.aF k ix off)
  (hg:st.g[j]? = iN g) (hc:qc st.c j=iN c) (hk:k=c.1.size E)  (hp:TV.part c.1 (c.2.getD ix (c.1.dflt E)) i.isAgg i.size off=iN d):jW P a w G o d:=by
 have hv:=hr.ev x;rw[hd]at hv;obtain⟨b,m,cap,hj,hlt,mR⟩:=hr.iX hg hv;obtain⟨h,hj',hs,-⟩:=hr.soft hg hc;rw[hj]at hj';cases hj';rcases hs.block with⟨h1,-⟩|⟨b',cap',cur,h1,hheap,hcap,hcm,hcs,hf,hnp⟩
 .cases h1
 obtain⟨rfl,rfl,rfl⟩:=h1;obtain⟨vs,h2,h3,-,h4⟩:=aae hs.1 hheap hf (by simp_all[AK]) hlt;obtain⟨v,hv,hrun⟩:=ur ht h4 (Nu hE h2 hp);refine gE (f:=λρ=>Instr.loadAt t (ρ x)) (by simp[M2,ho]) ⟨v,hv,λw' hs'=>?_⟩;rw[mR,hk,<-hs.1];exact hrun w' (hs' (by rw[ho];rfl))
theorem adi(A us C vals:J R0)(off:Nat)(h:off+vals.length<=Sx us):
  ((A++us++C).take (A.length+off)++vals++(A++us++C).drop (A.length+off+vals.length))=A++(us.take off++vals++us.drop (off+vals.length))++C:=by
 have e1:(A++us++C).take (A.length+off)=A++us.take off:=by rw[sD,ahH,va om,show A.length+off-A.length=off by omega,ahH,show off-Sx us=0 by omega];simp
 have e2:(A++us++C).drop (A.length+off+vals.length)=us.drop (off+vals.length)++C:=by rw[sD,ahG,Vz om,show A.length+off+vals.length-A.length=off+vals.length by omega,ahG,show off+vals.length-Sx us=0 by omega];simp
 simp_all
theorem afI(hE:E.Ok){x:T.den E.D}{us:J R0}(h:LD w G.pr us (T.cells E x))(hc:(TV.dat T x).qt=iN cs):bO E w G cs us:=by
 simp[TV.qt]at hc;cases ha:T.isAgg<;>rw[ha]at hc<;>simp at hc
 .cases hc;have hl:Sx us=1:=by rw[h.length];cases T<;>first|rfl|cases ha
  obtain⟨u,rfl⟩:=abu.1 hl;exact .cons (.S1 ha h) .nil
 grind[zT]
theorem afJ(hE:E.Ok)(hr:Rel E w0 G0 st a w G)(ho:o.op=.store t x y)(ht:aZ P t=iN i){ix:Nat}(hd:st.ev x=.iX j g.aF k ix off)
  (hg:st.g[j]? = iN g) (hc:qc st.c j=iN c) (hk:k=c.1.size E) {ds:J (TV E)} (hcs:(TV.dat c.1 (c.2.getD ix (c.1.dflt E))).qt=iN cs) (hy:(st.ev y).qt=iN ds) (h4:Sx ds=i.size) (h5:off+i.size<=Sx cs)
  {x':c.1.den E.D} (avr:Qq E 4 c.1 (cs.take off++ds++cs.drop (off+Sx ds))=iN (x',[])) :
  kG P w0 G0 a w o {st with t:=cE st.t o.dst .any,c:=(j,⟨c.1,c.2.set ix x'⟩)::oV j st.c}:=by
 have hv:=hr.ev x;rw[hd]at hv;obtain⟨b,m,cap,hj,hlt,mR⟩:=hr.iX hg hv;obtain⟨h,hj',hs,-⟩:=hr.soft hg hc;rw[hj]at hj';cases hj';rcases hs.block with⟨h1,-⟩|⟨b',cap',cur,h1,hheap,hcap,hcm,am7,hf,hnp⟩
 .cases h1
 obtain⟨rfl,rfl,rfl⟩:=h1;have hle:c.2.length*g.k<=cur.size:=by simp_all[AK]
 obtain⟨us,h2,h3,Ue,-⟩:=aae hs.1 hheap hf hle hlt;obtain⟨hl,hl1⟩:=uq hE (hr.ev y) hy;have hlen:(a.eval y).cells.toList.length=i.size:=by rw[hl.length,h4]
 have hlen':(a.eval y).cells.size=i.size:=by simpa using hlen
 have IA:=afI hE h2 hcs;have hcl:Sx cs=g.k:=by rw[<-IA.length,h3]
 obtain⟨xt,kI,-,hxs,-⟩:=aS ht;have hik:ix*g.k+g.k<=c.2.length*g.k:=by have:(ix+1)*g.k<=c.2.length*g.k:=AK _ hlt;grind
 have hfit:(ix*g.k+off)+0+(a.eval y).cells.toList.length<=cur.size:=by rw[hlen];omega
 have Wu:=run_storeCells_at (P:=P) b (ix*g.k+off) g.e (a.eval y).cells.toList 0 cur w hheap hfit (λv hv=>hl1 v (by simpa using hv))
 let new:=(cur.toList.take (ix*g.k+off)++(a.eval y).cells.toList++cur.toList.drop (ix*g.k+off+(a.eval y).cells.toList.length)).toArray
 have hrun:(M2 a.eval o).run P w=.ok .skip (w.setRow b new):=by simp[M2,ho,Instr.storeAt,Instr.sureAddr,mR,hk,<-hs.1,storeVar,fP kI,hxs,hlen'];simp only[ne_eq,Wu];rfl
 have avs:=((IA.take off).append hl).append (IA.drop (off+Sx ds));obtain⟨us1,ts,e1,e2,e3⟩:=Cg hE 4 c.1 avs avr;subst e3;have hu1:us1.length=g.k:=by grind
 have awD:cur.toList=cur.toList.take (ix*g.k)++us++cur.toList.drop (ix*g.k+g.k):=by grind[List.take_append_drop,List.drop_drop,List.append_assoc]
 have aua:new.toList=cur.toList.take (ix*g.k)++us1++cur.toList.drop (ix*g.k+us1.length):=by have:=adi (cur.toList.take (ix*g.k)) us (cur.toList.drop (ix*g.k+g.k)) (a.eval y).cells.toList off (by rw[h3];omega);grind
 have aii:new.size=cur.size:=by grind
 have hfl:Flat w G.pr g.k (new.toList.take ((c.2.set ix x').length*g.k)) ((c.2.set ix x').map (c.1.cells E)):=by
  have h9:=hf.splice (Flat.single e2 hu1) (p:=ix) aM;rw[ahJ,aua,afF _ _ om (by simpa using hle)];have h10:(c.2.set ix x').map (c.1.cells E)=(c.2.map (c.1.cells E)).take ix++[c.1.cells E x']++(c.2.map (c.1.cells E)).drop (ix+[c.1.cells E x'].length):=by rw[aoO,if_pos (by simpa using hlt)];simp
  rw[h10];exact h9
 have hR:=hr.akP hg hc hj hheap aii si hfl;exact⟨_,H5,_,G,hrun,.inr ⟨rfl,rfl⟩,hR.put (by simp[VT]) o.dst⟩
theorem Rel.YU(h:Rel E w0 G0 st a w G)(hs:∃x hd,G.g[j]? = iN (x,hd)/\um E w G x hd c):Rel E w0 G0 {st with c:=(j,c)::st.c} a w G:=
 ⟨h.fH,h.size,h.tmps,h.defers,h.boxes,h.fix,h.pins,λi c' hm=>by
  rcases gL.1 hm with e|hm
  .cases e;exact hs
  .exact h.gU i c' hm⟩
theorem akQ{pr:Nat->Nat->Prop}(hk0:0<k){z:aJ R0}(hz:z.size=k){e:J DV}(h:LD w pr z.toList e){n m:Nat}(hn:n<=m):Flat w pr k ((madeCells z (m*k)).toList.take (n*k)) (W0 n e):=by
 have hel:e.length=k:=by rw[<-h.length];simpa using hz
 have hnm:=AK k hn;refine⟨by simp_all[pX,abI,size_madeCells,List.length_replicate,ahK],λj hj=>?_,λj l hj hl=>?_⟩
 .simp_all
 .simp at hj;have hjl:=Qu hj hl;have e1:((madeCells z (m*k)).toList.take (n*k)).getD (j*k+l) H5=z.toList.getD l H5:=by
   simp;rw[abo,if_pos hjl];have h1:(j*k+l)%z.size=l:=by simp_all[abq,Nat.mul_add_mod,ahF]
   have h2:j*k+l<m*k:=om;have h3:l<z.size:=om;simp[madeCells,h2,h1,h3]
  have e2:(W0 n e).getD j []=e:=by simp[hj]
  rw[e1,e2];have:∀ {vs:J R0}{ds:J DV}(l:Nat),LD w pr vs ds->l<Sx ds->VD w pr (vs.getD l H5) (ds.getD l default):=by
   intro vs
   induction vs with
   | nil=>intro ds l h hl;cases ds with|nil=>simp at hl|cons _ _=>exact h.elim
   | cons v vs ih=>
    intro ds l h hl;cases ds with
    | nil=>exact h.elim|cons d ds=>cases l with|zero=>simpa using h.1|succ l=>simpa using ih l h.2 (by simpa using hl)
  exact this l h om
theorem aiC(hE:E.Ok)(hr:Rel E w0 G0 st a w G){z0:R0}(ho:o.op=.makeSlice t x y)(ht:aZ P t=iN ⟨.slice e,j1,j2,z0⟩)(hi:aZ P e=iN ie){z:T.den E.D}{k1 k2:eW}{n m:Int}
  (hx:st.ev x=.dat (.int k1) n) (hy:st.ev y=.dat (.int k2) m) (hk:ie.size=T.size E) (hk0:0<ie.size) (hzs:ie.zero.cells.size=ie.size) (hz1:ie.zero.cells.toList.all (·.oneCell')=eQ) (hz:(zV E (iN T) ie.zero).get T=iN z)
  (h0:0<=n) (h1:n<=m) (h2:0<m) (h3:m<=9223372036854775807) (h4:(ie.bytes:Int)*m<=140737488355328) :
  kG P w0 G0 a w o {st with t:=cE st.t o.dst (.eF st.g.length 0),g:=st.g++[⟨0,e,ie.size⟩],c:=(Sx st.g,⟨T,W0 n.toNat z⟩)::st.c}:=by
 have Bq:=hr.ev x;rw[hx]at Bq;have Dm:=hr.ev y;rw[hy]at Dm;obtain⟨xt,kI,eL,-⟩:=aS ht;obtain⟨xe,sw,Ci,hsz,hby,hzz⟩:=aS hi;have hrun:=run_make w t e xe ie.zero eL sw hzz k1 k2 n m h0 h1 (by rw[hby];omega) h3;rw[hsz]at hrun;have hzv:VT E w G (.dat T z) ie.zero:=TV.vW hz (S5 hE hz1);have hzc:=hzv.Qy;have ao8:maxLen=9223372036854775807:=rfl
 let cur:=madeCells ie.zero.cells (m.toNat*ie.size)
 have hcs:cur.size=m.toNat*ie.size:=size_madeCells _ _;have hG:=hr.grow (fI.alloc w (.cells cur e)) rfl rfl rfl G.pr (λ_ _ h=>h) (λ_ _ _ h=>h) (λb o hp=>kF (hr.boxes.gT b o hp).1 si);have hnp:∀o,¬ G.pr w.heap.size o:=λo hp=>absurd (hr.boxes.gT _ _ hp).1 (AH _);have hheap:(w.alloc (.cells cur e)).heap[w.heap.size]? = iN (.cells cur e):=heap_alloc_new w _;have hown:(w.alloc (.cells cur e)).ownsRow 0 e ie.size (.slice (iN ⟨w.heap.size,0,iF⟩) n.toNat m.toNat) n.toNat (cur.toList.take (n.toNat*ie.size)):=by refine⟨?_,.inr ⟨w.heap.size,m.toNat,cur,rfl,fF _,hheap,om,om,hcs,rfl⟩⟩;grind[List.length_take,Array.length_toList,Nat.min_eq_left,Nat.mul_le_mul_right]
 have hA:=hG.DZ ⟨0,e,ie.size⟩ (.slice (iN ⟨w.heap.size,0,iF⟩) n.toNat m.toNat) ⟨n.toNat,_,hown,λa q h=>by simp at h;omega,λb hb=>by
   cases hb;exact⟨si,λhm=>absurd (hr.boxes.lt _ hm) (AH _),λo _ hp=>hnp o hp⟩⟩ (λb hb=>by cases hb;exact hr.fH.size) (λj y z b hj hzb hb=>by
   cases hb;obtain⟨n',xs',-,-,hb'⟩:=hr.boxes.grow j y z hj
   simp_all)
 have hrl:=hr.rG;have lI:(G.g++[(⟨0,e,ie.size⟩,Value.slice (iN ⟨w.heap.size,0,iF⟩) n.toNat m.toNat)])[Sx st.g]? = iN (⟨0,e,ie.size⟩,.slice (iN ⟨w.heap.size,0,iF⟩) n.toNat m.toNat):=by rw[<-hrl];simp
 have hC:=hA.YU (c:=⟨T,W0 n.toNat z⟩) ⟨⟨0,e,ie.size⟩,_,lI,hk,hk0,⟨_,by simp;exact hown,by
   rw[List.map_replicate];exact akQ hk0 hzs (hzc.mono (λ_ _ h=>h) (λb o v _ hv=>(fI.alloc w _).cell hv)) om⟩,λb hb o hp=>by cases hb;exact hnp o hp⟩
 refine⟨.value _,_,_,_,?_,.inl rfl,hC.put (v:=.slice (iN ⟨w.heap.size,0,iF⟩) n.toNat m.toNat) ?_ o.dst⟩
 .simp[M2,ho,Bq.gD,Dm.gD,hrun];rfl
 .exact⟨⟨0,e,ie.size⟩,_,lI,eE _,rfl,λ_=>rfl⟩
theorem afK(hE:E.Ok)(hr:Rel E w0 G0 st a w G){len:Nat}{parts:aJ (Nat×dJ)}(ho:o.op=.buildSlice t len parts)
  (ht:aZ P t=iN ⟨.slice e,j1,j2,z⟩) (hi:aZ P e=iN ie) (h1:parts.toList.map (·.1)=aT len) (h2:len*ie.size<=16777216) (h3:0<ie.size) (h0':0<len\/E.zc e=eQ)
    (hk:ie.size=T.size E) (hx:pO T (parts.toList.map λp=>st.ev p.2)=iN xs) :
  kG P w0 G0 a w o {st with t:=cE st.t o.dst (.eF st.g.length 0),g:=st.g++[⟨0,e,ie.size⟩],c:=(Sx st.g,⟨T,xs⟩)::st.c}:=by
 obtain⟨cs,hrun,hcs,Wy,hfl⟩:=QA hE hr ho ht hi h1 h2 h3 hk hx;have ao8:maxLen=9223372036854775807:=rfl;have hG:=hr.grow (fI.alloc w (.cells cs e)) rfl rfl rfl G.pr (λ_ _ h=>h) (λ_ _ _ h=>h) (λb o hp=>kF (hr.boxes.gT b o hp).1 si);have hnp:∀o,¬ G.pr w.heap.size o:=λo hp=>absurd (hr.boxes.gT _ _ hp).1 (AH _);have hheap:(w.alloc (.cells cs e)).heap[w.heap.size]? = iN (.cells cs e):=heap_alloc_new w _;have hown:(w.alloc (.cells cs e)).ownsRow 0 e ie.size (.slice (iN ⟨w.heap.size,0,iF⟩) len len) len (cs.toList.take (len*ie.size)):=by refine⟨?_,.inr ⟨w.heap.size,len,cs,rfl,fF _,hheap,eE _,by have:len<=len*ie.size:=ahv _ h3;omega,hcs,rfl⟩⟩;rw[pX,abI,hcs];exact Nat.min_self _
 have hA:=hG.DZ ⟨0,e,ie.size⟩ (.slice (iN ⟨w.heap.size,0,iF⟩) len len) ⟨len,_,hown,λa q h=>h0'.elim (λ_=>by simp at h;omega) id,λb hb=>by
   cases hb;exact⟨si,λhm=>absurd (hr.boxes.lt _ hm) (AH _),λo _ hp=>hnp o hp⟩⟩ (λb hb=>by cases hb;exact hr.fH.size) (λj y z b hj hzb hb=>by
   cases hb;obtain⟨n',xs',-,-,hb'⟩:=hr.boxes.grow j y z hj;exact absurd (hb' _ hzb).1 (AH _))
 have hrl:=hr.rG;have lI:(G.g++[((⟨0,e,ie.size⟩:cU),Value.slice (iN ⟨w.heap.size,0,iF⟩) len len)])[Sx st.g]? = iN (⟨0,e,ie.size⟩,.slice (iN ⟨w.heap.size,0,iF⟩) len len):=by rw[<-hrl];simp
 have hC:=hA.YU (j:=Sx st.g) (c:=⟨T,xs⟩) ⟨⟨0,e,ie.size⟩,_,lI,hk,h3,⟨_,by rw[Wy];exact hown,hfl.mono (λ_ _ h=>h) (λb o v _ hv=>(fI.alloc w _).cell hv)⟩,λb hb o hp=>by cases hb;exact hnp o hp⟩;refine⟨.value _,_,_,_,hrun,.inl rfl,hC.put (d:=.eF st.g.length 0) (v:=.slice (iN ⟨w.heap.size,0,iF⟩) len len) ?_ o.dst⟩;simp only[VT];exact⟨⟨0,e,ie.size⟩,_,lI,eE _,rfl,λ_=>rfl⟩
def aiD(ty:aK->O Ty):O Nat->Bool
 | some i=>match ty (2000000+i)with
  | some _=>eQ|none=>eK
 | none=>eK
def adj(P:bw)(ty:aK->Option Ty)(st:TS E)(dst:Option Nat):Op->Option (Bool×TS E)
 | .buildSlice t len parts=>cond (aiD ty dst) (match aZ P t with
  | some ⟨.slice e,_,_,_⟩=>match aZ P e,ty e with
   | some ie,iN T=>match pO T (parts.toList.map λp=>st.ev p.2)with
    | some xs=>iN (cond (bY 0 len) eQ (E.zc e)&&(eJ (parts.toList.map (·.1)=aT len)&&(iO (len*ie.size) 16777216&&(bY 0 ie.size&&dO ie.size (T.size E)))),
       {st with t:=cE st.t dst (.eF st.g.length 0),g:=st.g++[⟨0,e,ie.size⟩],c:=(Sx st.g,⟨T,xs⟩)::st.c})
    | none=>iF
   | _,_=>iF
  | _=>iF) iF
 | _=>iF
theorem aiE(hE:E.Ok)(hr:Rel E w0 G0 st a w G){c:Bool}(h:adj P ty st o.dst o.op=iN (c,st'))(hc:c=eQ):kG P w0 G0 a w o st':=by
 cases ho:o.op<;>rw[ho]at h<;>try trivial
 case buildSlice t len parts=>
  simp only[adj]at h;cases hb:aiD ty o.dst<;>rw[hb]at h<;>simp only[aQ,aI]at h
  .cases h
  split at h<;>try trivial
  rename_i e j1 j2 z ht;split at h<;>try trivial
  rename_i ie T hi hT;split at h<;>try trivial
  rename_i xs hx;cases h;simp only[cH,fO]at hc
  exact afK hE hr ho ht hi hc.2.1 (lY hc.2.2.1) (lY hc.2.2.2.1) (by
   cases hb0:bY 0 len with|true=>exact .inl (lY hb0)|false=>have h0:=hc.1;rw[hb0]at h0;exact .inr h0) (fm hc.2.2.2.2) hx
theorem Rel.akR(hr:Rel E w0 G0 st a w G)(hg:st.g[j]? = iN g)(hc:qc st.c j=iN c){v':R0}(hj:G.g[j]? = iN (g,v))(wY:w.grownBy w' v.ownBlock){vals:J R0}
  (hown:w'.ownsRow 0 g.e g.k v' ys.length vals) (hf:Flat w G.pr g.k vals (ys.map (c.1.cells E))) (hblk:∀b,v'.ownBlock=iN b->w.heap.size<=b\/v.ownBlock=iN b) (hz:∀a m,v'=.slice (iN a) m 0->E.zc g.e=eQ) (h1:v'.oneCell'=eQ) :
  ∃G',Rel E w0 G0 {st with g:=st.g.set j {g with aF:=g.aF+1},c:=(j,⟨c.1,ys⟩)::oV j st.c} a w' G'/\VT E w' G' (.eF j (g.aF+1)) v':=by
 obtain⟨h,hj',hs,-⟩:=hr.soft hg hc;rw[hj]at hj';cases hj';obtain⟨n0,xs0,VU,Qx,hb0⟩:=hr.boxes.grow j g v hj;have hnp:=hs.2.2.2;have ar7:∀b,v'.ownBlock=iN b->∀o,¬ G.pr b o:=λb hb o hp=>by
  rcases hblk b hb with q|q
  .have:=(hr.boxes.gT b o hp).1;omega
  .exact hnp b q o hp
 have hcells:∀b o u,G.pr b o->w.cell? ⟨b,o,iF⟩=iN u->w'.cell? ⟨b,o,iF⟩=iN u:=λb o u hp hu=>wY.cell hu (λe=>hnp b e.symm o hp);have hjl:=(fD.1 hj).1;have key:=hr.setRow (x':={g with aF:=g.aF+1}) (cs:=(j,⟨c.1,ys⟩)::oV j st.c) hj (Nat.le_succ _) (λe=>by simp at e) wY.size wY.os wY.tape wY.output
  (λb hb hne=>wY.block b hb (λe=>hne e.symm)) hcells G.pr (λ_ _ h=>h) (λ_ _ h=>.inl h)
  ⟨Sx ys,vals,hown,hz,λb hb=>⟨(hown.lt b hb).2,λhm=>by
   rcases hblk b hb with q|q
   .have:=hr.boxes.lt b hm;omega
   .exact(hb0 b q).2.1 hm,λo _ hp=>ar7 b hb o hp⟩⟩ hblk (λhg'=>?_)
 .simp[VT];grind
 .intro i c' hm;rcases gL.1 hm with e|hm
  .cases e;exact⟨{g with aF:=g.aF+1},v',by simp[hjl],hs.1,hs.2.1,⟨vals,hown,hf.mono hg'.pr hg'.cells⟩,ar7⟩
  .obtain⟨hm,hne⟩:=uT hm;obtain⟨x,hd,q1,q2⟩:=hr.gU i c' hm;obtain⟨n1,xs1,-,-,xE⟩:=hr.boxes.grow i x hd q1;refine⟨x,hd,?_,q2.keep rfl rfl hg'.pr hg'.cells λb hb=>⟨wY.block b (xE b hb).1 (λe=>hne (hr.boxes.apart i j x hd g v b q1 hj hb e.symm)),λo hp=>hp⟩⟩;grind
theorem adk(hE:E.Ok)(hr:Rel E w0 G0 st a w G){cl:Call}{tx:aK}(ho:o.op=.call cl)(hcl:cl.callee=.builtin .append)(ha:cl.args.toList=[x,y])(hat:cl.argTypes.toList=[t,tx])
  (ht:aZ P t=iN ⟨.slice e,j1,j2,z⟩) (hi:aZ P e=iN ie)    (hx:st.ev x=.eF j g.aF) (hg:st.g[j]? = iN g) (hc:qc st.c j=iN c) (hge:g.e=e) (Cm:g.k=ie.size) (hzs:ie.zero.cells.size=ie.size)
   (h63:c.2.length+Sx ys<=9223372036854775807) (hbytes:(c.2.length+Sx ys)*ie.bytes<=140737488355328)
  {news:J R0} (hsrc:Src P ie.size tx (a.eval y) ys.length news w) (hf:Flat w G.pr ie.size news (ys.map (c.1.cells E))) :
  kG P w0 G0 a w o {st with t:=cE st.t o.dst (.eF j (g.aF+1)),g:=st.g.set j {g with aF:=g.aF+1},c:=(j,⟨c.1,c.2++ys⟩)::oV j st.c}:=by
 have hU:cl.args=#[x,y]:=by grind
 have zJ:cl.argTypes=#[t,tx]:=by grind
 obtain⟨xt,kI,eL,-⟩:=aS ht;obtain⟨xe,Qw,Ci,hsz,hby,hz⟩:=aS hi;have hv:=hr.ev x;rw[hx]at hv;obtain⟨v,hj,hs,hval⟩:=hr.soft hg hc;have mR:=hval _ hv;have fin:∀(v':R0)(w':U)(vals:J R0),(Builtin.append_ #[t,tx] o.type #[v,a.eval y]).run P w=.ok v' w'->w'.ownsRow 0 g.e g.k v' (c.2++ys).length vals->Flat w G.pr g.k vals ((c.2++ys).map (c.1.cells E))->w.grownBy w' v.ownBlock ->
   (∀b,v'.ownBlock=iN b->w.heap.size<=b\/v.ownBlock=iN b)->(∀a m,v'=.slice (iN a) m 0->E.zc g.e=eQ)->v'.oneCell'=eQ ->
   kG P w0 G0 a w o {st with t:=cE st.t o.dst (.eF j (g.aF+1)),g:=st.g.set j {g with aF:=g.aF+1},c:=(j,⟨c.1,c.2++ys⟩)::oV j st.c}:=by
  intro v' w' vals hrun hown hfl wY hblk hnz h1;obtain⟨G',hR,hV⟩:=hr.akR hg hc hj wY hown hfl hblk hnz h1;refine⟨.value v',v',w',G',?_,.inl rfl,hR.put hV o.dst⟩;unfold M2;simp[ho,resolve,hcl,jF,qw,invoke,builtin,hU,zJ,jb,BI];rw[mR,hrun];rfl
 have GQ:Src P xe.size tx (a.eval y) ys.length news w:=by rw[hsz];exact hsrc
 have hzl:∀c,(Builtin.zeroCells ie.zero.cells c).size=c*ie.size:=λc=>by rw[size_zeroCells,hzs]
 obtain⟨n0,xs0,VU,Qx,hb0⟩:=hr.boxes.grow j g v hj;have hlen:(c.2++ys).length=c.2.length+Sx ys:=by simp
 have hmap:(c.2++ys).map (c.1.cells E)=c.2.map (c.1.cells E)++ys.map (c.1.cells E):=by simp
 rw[<-Cm]at hf;by_cases hm:Sx ys=0
 .have hys:=H8 hm;subst hys;have hnn:=H8 (by simpa using hf.1);subst hnn;obtain⟨-,-,⟨vals,ho,OL⟩,-⟩:=hs;refine fin v w vals ?_ (by simp_all) (by simp_all) ⟨rfl,rfl,rfl,eE _,λ_ _ _=>rfl⟩ (λb hb=>.inr hb) Qx ?_
  .rcases ho.2 with⟨q1,q2⟩|⟨b,cap,cur,q1,-,-,q4,-⟩
   .rw[q1];exact run_append_nothing w t tx o.type e xe eL Qw iF 0 0 (eE _) _ GQ
   grind[run_append_nothing]
  .rcases ho.2 with⟨q1,q2⟩|⟨b,cap,cur,q1,-⟩<;>rw[q1]<;>rfl
 have grow:∀(base:O Addr)(old:Nat)(xs':J R0),v=.slice base c.2.length old->old<c.2.length+Sx ys->Flat w G.pr g.k xs' (c.2.map (c.1.cells E)) ->
   (Builtin.firstCells xe.size c.2.length (.slice base c.2.length old)).run P w.drew=.ok xs'.toArray w.drew ->
   kG P w0 G0 a w o {st with t:=cE st.t o.dst (.eF j (g.aF+1)),g:=st.g.set j {g with aF:=g.aF+1},c:=(j,⟨c.1,c.2++ys⟩)::oV j st.c}:=by
  intro base old xs' hv0 hlt hfx hfc;have hfit:=growslice_fits (bytes:=xe.bytes) hlt (by rw[hby];exact hbytes);have hr':=run_append_grow_src w t tx o.type e xe ie.zero eL Qw hz base c.2.length old xs' hfc (a.eval y) ys.length news GQ hlt om hfit;have aiF:=grownCap_ge w (c.2.length+Sx ys) old e;have hcm:=grownCap_le_maxLen w (c.2.length+Sx ys) old e h63;generalize hcap:grownCap w (c.2.length+Sx ys) old e=cap at hr' aiF hcm;generalize hcs:(xs'++news).toArray++Builtin.zeroCells ie.zero.cells (cap-(c.2.length+Sx ys))=cs at hr';have L6:=hfx.append hf;have hl2:(xs'++news).length=(c.2.length+Sx ys)*g.k:=by rw[L6.1];simp
  have am7:cs.size=cap*g.k:=by rw[<-hcs,ahs,aht,hl2,hzl,<-Cm,<-SD];congr 1;omega
  have hheap:(w.drew.alloc (.cells cs e)).heap=w.heap.push (.cells cs e):=rfl;have hnew:(w.drew.alloc (.cells cs e)).heap[w.heap.size]? = iN (.cells cs e):=by rw[hheap];simp
  refine fin (.slice (iN ⟨w.heap.size,0,iF⟩) (c.2.length+Sx ys) cap) (w.drew.alloc (.cells cs e)) (xs'++news) (by rw[hv0];exact hr') ⟨by rw[hl2,hlen],.inr ⟨w.heap.size,cap,cs,?_,Nat.zero_le _,by rw[hge];exact hnew,by rw[hlen];exact aiF,hcm,am7,?_⟩⟩ (by rw[hmap];exact L6) ⟨rfl,rfl,rfl,by rw[hheap];simp,λb hb _=>by grind⟩
   (λb hb=>by cases hb;grind) (λa m h=>by simp at h;omega) rfl
  .rw[hlen]
  grind
 rcases hs.block with⟨h1,h2⟩|⟨b,cap,cur,h1,hheap,hcap,hcm,hcs,OL,hnp⟩
 .have hc0:c.2.length=0:=by rw[h2];rfl
  refine grow iF 0 [] (by rw[h1,hc0]) om (by rw[h2];exact Flat.nil) ?_;simp[Builtin.firstCells]
 .by_cases hroom:c.2.length+Sx ys<=cap
  .have Ww:c.2.length*ie.size+news.length<=cur.size:=by rw[hf.1,hcs,<-Cm,gP,<-SD];exact AK _ hroom
   have Iz:w.heap[b]? = iN (.cells cur e (0,0)):=by rw[<-hge];exact hheap
   have hr':=run_append_room_src w t tx o.type e xe eL Qw b 0 c.2.length cap (a.eval y) ys.length news GQ hroom
    (λj hj=>by
     rw[cell_of_row w b _ cur e (0,0) Iz,hsz]
     grind)
    (λj hj=>frozen_of_row w b _ cur e Iz)
   rw[hsz,sC,Cl b e news (c.2.length*ie.size) cur w Iz Ww]at hr';have L6:=OL.append hf;have hl2:(cur.toList.take (c.2.length*g.k)++news).length=(c.2.length+Sx ys)*g.k:=by rw[L6.1];simp
   refine fin (.slice (iN ⟨b,0,iF⟩) (c.2.length+Sx ys) cap) (w.setRow b (cur.toList.take (c.2.length*ie.size)++news++cur.toList.drop (c.2.length*ie.size+news.length)).toArray) (cur.toList.take (c.2.length*g.k)++news) (by rw[h1];exact hr') ⟨by rw[hl2,hlen],.inr ⟨b,cap,_,by rw[hlen],fF _,by rw[hge];exact setRow_heap w b cur _ e _ Iz,by rw[hlen];exact hroom,hcm,?_,?_⟩⟩ (by rw[hmap];exact L6) ⟨rfl,rfl,rfl,si,λb' _ hb'=>setRow_other w b b' _ (λe=>hb' (by rw[e,h1];rfl))⟩
    (λb' hb'=>.inr (by rw[h1];exact hb')) (λa m h=>by simp at h;omega) rfl
   .grind
   grind
  .refine grow _ cap (cur.toList.take (c.2.length*g.k)) h1 om OL ?_;rw[hsz,<-Cm];refine run_firstCells_some w.drew g.k c.2.length ⟨b,0,iF⟩ c.2.length cap (cur.toList.take (c.2.length*g.k)) (by rw[OL.1];simp) (λq u hu=>?_);rw[add_lit,sC];have hq:q<c.2.length*g.k:=by grind
   show w.cell? ⟨b,q,iF⟩=iN u;grind[cell_of_row]
theorem akS(hr:Rel E w0 G0 st a w G){hi:dJ}(ho:o.op=.slice t x iF (iN hi) iF)(ht:aZ P t=iN ⟨.slice e,j1,j2,z⟩)(hi':aZ P e=iN ie)
     (hx:st.ev x=.eF j g.aF) (hg:st.g[j]? = iN g) (hc:qc st.c j=iN c) {q:Int} (hq:mQ (c.2.length:Int) (iN (st.ev hi))=iN q) (h0:0<=q) (h1:q<=(c.2.length:Int)) :
  kG P w0 G0 a w o {st with t:=cE st.t o.dst (.eF j (g.aF+1)),g:=st.g.set j {g with aF:=g.aF+1},c:=(j,⟨c.1,c.2.take (eI q)⟩)::oV j st.c}:=by
 obtain⟨xt,kI,eL,-⟩:=aS ht;obtain⟨xe,sw,Ci,hsz,-⟩:=aS hi';obtain⟨v,hj,hs,hval⟩:=hr.soft hg hc;have hv:=hr.ev x;rw[hx]at hv;have mR:=hval _ hv;obtain⟨n0,xs0,VU,Qx,hb0⟩:=hr.boxes.grow j g v hj;have hlen:(c.2.take q.toNat).length=q.toNat:=by simp_all
 have hbi:=uU hr (lo:=iN hi) hq;have ar8:=uU hr (lo:=iF) (d:=0) rfl;have key:∀(v':R0)(vals:J R0),(Instr.sliceAt t v iF (iN (a.eval hi)) iF).run P w=.ok v' w->w.ownsRow 0 g.e g.k v' (c.2.take q.toNat).length vals->Flat w G.pr g.k vals ((c.2.take q.toNat).map (c.1.cells E))->v'.ownBlock=v.ownBlock ->
   (∀a m,v'=.slice (iN a) m 0->E.zc g.e=eQ)->v'.oneCell'=eQ->kG P w0 G0 a w o {st with t:=cE st.t o.dst (.eF j (g.aF+1)),g:=st.g.set j {g with aF:=g.aF+1},c:=(j,⟨c.1,c.2.take (eI q)⟩)::oV j st.c}:=by
  intro v' vals hrun hown hfl hblk hnz h1';obtain⟨G',hR,hV⟩:=hr.akR hg hc hj ⟨rfl,rfl,rfl,eE _,λ_ _ _=>rfl⟩ hown hfl (λb hb=>.inr (by rw[<-hblk];exact hb)) hnz h1';refine⟨.value v',v',w,G',?_,.inl rfl,hR.put hV o.dst⟩;simp[M2,ho];rw[mR,hrun];rfl
 rcases hs.block with⟨q1,q2⟩|⟨b,cap,cur,q1,hheap,hcap,hcm,hcs,OL,hnp⟩
 .have hq0:q=0:=by grind
  subst hq0;refine key (.slice iF 0 0) [] ?_ ?_ (by rw[q2];exact Flat.nil) (by rw[q1]) (λa m h=>by cases h) rfl
  .have Dl:=GP (P:=P) (isS:=eQ) (cap:=0) (eE _) ar8 (by rw[q2]at hbi;exact hbi) (abQ _) (abQ _) si w;rw[q1];simp at Dl;unfold Instr.sliceAt;unfold Instr.slice;simp only[jF,aW eL,kn,Dl,fP sw];simp
  .exact⟨si,.inl ⟨rfl,rfl⟩⟩
 .refine key (.slice (iN ⟨b,0,iF⟩) q.toNat cap) (cur.toList.take (q.toNat*g.k)) ?_ ?_ ?_ (by rw[q1];rfl) (λa m h=>by
   simp_all) rfl
  .have Dl:=GP (P:=P) (isS:=eQ) hcap ar8 hbi (abQ _) h0 h1 w;rw[q1];simp at Dl;unfold Instr.sliceAt;unfold Instr.slice;simp only[jF,aW eL,kn,Dl,fP sw,VF,add_lit];simp
  .rw[hlen];refine⟨?_,.inr ⟨b,cap,cur,rfl,fF _,hheap,om,hcm,hcs,rfl⟩⟩;grind[List.length_take,Array.length_toList,Nat.min_eq_left,Nat.mul_le_mul_right]
  .have h9:=OL.take (i:=q.toNat) aM;simp_all[AK,abL,ahK,List.map_take]
def aiG(P:bw)(ty:aK->O Ty)(st:TS E)(dst:O Nat)(cl:Call):O (Bool×TS E):=
 match cl.callee,cl.args.toList,cl.argTypes.toList with
 | .builtin .append,[x,y],[t,tx]=>match aZ P t,aZ P tx with
  | some ⟨.slice e,_,_,_⟩,iN ix=>match aZ P e,st.ev x with
   | some ie,.eF j aF=>match st.g[j]?,qc st.c j with
    | some g,iN c=>match aiA c.1 ix.kind (st.ev y)with
     | some ys=>iN (dO g.aF aF&&(dO g.e e&&(dO g.k ie.size&&(dO ie.size (c.1.size E)&&(bY 0 ie.size&&(dO ie.zero.cells.size ie.size &&
          (eJ (c.2.length+Sx ys<=9223372036854775807)&&eJ ((c.2.length+Sx ys)*ie.bytes<=140737488355328))))))),
       {st with t:=cE st.t dst (.eF j (g.aF+1)),g:=st.g.set j {g with aF:=g.aF+1},c:=(j,⟨c.1,c.2++ys⟩)::oV j st.c})
     | none=>iF
    | _,_=>iF
   | _,_=>iF
  | _,_=>iF
 | _,_,_=>iF
def D3(P:bw)(ty:aK->O Ty)(st:TS E)(dst:O Nat):Op->O (Bool×TS E)
 | .load t x=>match aZ P t,st.ev x with
  | some i,.iX j aF k ix off=>match st.g[j]?,qc st.c j with
   | some g,iN c=>match TV.part c.1 (c.2.getD ix (c.1.dflt E)) i.isAgg i.size off with
    | some d=>iN (dO g.aF aF&&dO k (c.1.size E),{st with t:=cE st.t dst d})
    | none=>iF
   | _,_=>iF
  | _,_=>iF
 | .store t x y=>match aZ P t,st.ev x,(st.ev y).qt with
  | some i,.iX j aF k ix off,iN ds=>match st.g[j]?,qc st.c j with
   | some g,iN c=>match (TV.dat (E:=E) c.1 (c.2.getD ix (c.1.dflt E))).qt with
    | some cs=>match Qq E 4 c.1 (cs.take off++ds++cs.drop (off+Sx ds))with
     | some (x',[])=>iN (dO g.aF aF&&(dO k (c.1.size E)&&(dO ds.length i.size&&iO (off+i.size) cs.length)),
       {st with t:=cE st.t dst .any,c:=(j,⟨c.1,c.2.set ix x'⟩)::oV j st.c})
     | _=>iF
    | none=>iF
   | _,_=>iF
  | _,_,_=>iF
 | .makeSlice t x y=>match aZ P t with
  | some ⟨.slice e,_,_,_⟩=>match aZ P e,ty e,st.ev x,st.ev y with
   | some ie,iN T,.dat (.int _) n,.dat (.int _) m=>match (zV E (iN T) ie.zero).get T with
    | some z=>iN (dO ie.size (T.size E)&&(bY 0 ie.size&&(dO ie.zero.cells.size ie.size&&(ie.zero.cells.toList.all (·.oneCell') &&
       (eJ (0<=n)&&(eJ (n<=m)&&(eJ (0<m)&&(eJ (m<=9223372036854775807)&&eJ ((ie.bytes:Int)*m<=140737488355328)))))))),
      {st with t:=cE st.t dst (.eF st.g.length 0),g:=st.g++[⟨0,e,ie.size⟩],c:=(Sx st.g,⟨T,W0 (eI n) z⟩)::st.c})
    | none=>iF
   | _,_,_,_=>iF
  | _=>iF
 | .slice t x iF (iN hi) iF=>match aZ P t,st.ev x with
  | some ⟨.slice e,_,_,_⟩,.eF j aF=>match aZ P e,st.g[j]?,qc st.c j with
   | some _,iN g,iN c=>match mQ (c.2.length:Int) (iN (st.ev hi))with
    | some q=>iN (dO g.aF aF&&(eJ (0<=q)&&eJ (q<=(c.2.length:Int))),
      {st with t:=cE st.t dst (.eF j (g.aF+1)),g:=st.g.set j {g with aF:=g.aF+1},c:=(j,⟨c.1,c.2.take (eI q)⟩)::oV j st.c})
    | none=>iF
   | _,_,_=>iF
  | _,_=>iF
 | .call cl=>aiG P ty st dst cl|_=>iF
theorem aiH(hE:E.Ok)(hr:Rel E w0 G0 st a w G)(h:D3 P ty st o.dst o.op=iN (cc,st'))(pn:cc=eQ):kG P w0 G0 a w o st':=by
 cases ho:o.op<;>rw[ho]at h<;>try trivial
 case load t x=>
  simp[D3]at h;split at h<;>try trivial
  rename_i i j aF k ix off ht hx;split at h<;>try trivial
  rename_i g c hg hc;split at h<;>try trivial
  rename_i d hp;cases h;rw[cH]at pn;obtain rfl:=fm pn.1;exact(Kf hE hr ho ht hx hg hc (fm pn.2) hp).am5 hr
 case store t x y=>
  simp[D3]at h;split at h<;>try trivial
  split at h<;>try trivial
  split at h<;>try trivial
  split at h<;>try trivial
  grind[Nat.eq_of_beq_eq_true,afJ,Nat.le_of_ble_eq_true]
 case makeSlice t x y=>
  simp only[D3]at h;split at h<;>try trivial
  rename_i e j1 j2 z0 ht;split at h<;>try trivial
  rename_i ie T k1 n k2 m hi hT hx hy;split at h<;>try trivial
  rename_i z hz;cases h;simp only[cH,fO]at pn;obtain⟨c1,c2,c3,c4,c5,c6,c7,c8,c9⟩:=pn;exact aiC hE hr ho ht hi hx hy (fm c1) (lY c2) (fm c3) c4 hz c5 c6 c7 c8 c9
 case slice t x lo hi mx=>
  cases lo with
  | some _=>cases h
  | none=>
  cases hi with
  | none=>cases h
  | some hi=>
  cases mx with
  | some _=>cases h
  | none=>
  simp[D3]at h;split at h<;>try trivial
  split at h<;>try trivial
  split at h<;>try trivial
  grind[Nat.eq_of_beq_eq_true,akS]
 case call cl=>
  simp[D3]at h;unfold aiG at h;split at h<;>try trivial
  .split at h<;>try trivial
   split at h<;>try trivial
   rename_i ie j aF hi hx;split at h<;>try trivial
   split at h<;>try trivial
   cases h;simp only[cH]at pn;obtain⟨c1,c2,c3,c4,c5,c6,c7,c8⟩:=pn;have c5:=lY c5;grind[YT,adk,Nat.eq_of_beq_eq_true]
def abW(P:bw)(ty:aK->O Ty)(st:TS E)(dst:O Nat)(op:Op):O (Bool×TS E):=match WI P ty st dst op with|some r=>iN r|none=>D3 P ty st dst op
theorem afL(hE:E.Ok)(hr:Rel E w0 G0 st a w G){c:Bool}(h:abW P ty st o.dst o.op=iN (c,st'))(hc:c=eQ):kG P w0 G0 a w o st':=by grind[abW,afH,aiH]
def aiI:R0->R0->Bool|.bool a,.bool b=>a==b|.int k n,.int k' n'=>eJ (k=k')&&eJ (n=n')|_,_=>eK
theorem ap8{u:R0}(h:aiI u v=eQ):u=v/\u.cells=#[u]:=by
 unfold aiI at h;split at h
 .rw[tv]at h;subst h;exact⟨rfl,rfl⟩
 .simp at h;obtain⟨rfl,rfl⟩:=h;exact⟨rfl,rfl⟩
 .cases h
def abX(P:bw)(st:TS E):Op->O (Bool×TV E)
 | .indexAddr t x ix=>match aZ P t,st.ev ix with
  | some ⟨.array n e,_,_,_⟩,.dat (.int _) m=>match aZ P e,st.ev x with
   | some i,.iX j aF k i0 off=>match st.g[j]?,qc st.c j with
    | some g,iN c=>match dO g.aF aF&&(dO i.size k&&(dO i0 0&&dO off 0))with
     | true=>iN (eJ (0<=m)&&(eJ (m<(n:Int))&&eJ (m<(c.2.length:Int))),.iX j aF k (eI m) 0)|false=>iF
    | _,_=>iF
   | _,_=>iF
  | _,_=>iF
 | _=>iF
variable{cur:aJ R0}
theorem Rel.arr(hr:Rel E w0 G0 st a w G){i:Nat}(hg:st.g[j]? = iN g)(hc:qc st.c j=iN c)(hv:VT E w G (.iX j g.aF k i off) v):
  ∃b cap cur,G.g[j]? = iN (g,.slice (iN ⟨b,0,iF⟩) c.2.length cap)/\i<c.2.length/\v=.pointer (iN ⟨b,i*k+off,iF⟩)/\w.heap[b]? = iN (.cells cur g.e (0,0))/\c.2.length<=cap/\cur.size=cap*g.k /\
   Flat w G.pr g.k (cur.toList.take (c.2.length*g.k)) (c.2.map (c.1.cells E))/\g.k=c.1.size E:=by
 obtain⟨b,m,cap,hj,hlt,mR⟩:=hr.iX hg hv;obtain⟨h,hj',hs,-⟩:=hr.soft hg hc;rw[hj]at hj';cases hj';rcases hs.block with⟨h1,-⟩|⟨b',cap',cur,h1,hheap,hcap,hcm,hcs,hf,hnp⟩
 .cases h1
 obtain⟨rfl,rfl,rfl⟩:=h1;exact⟨b,cap,cur,hj,hlt,mR,hheap,hcap,hcs,hf,hs.1⟩
theorem afM(hr:Rel E w0 G0 st a w G)(h:abX P st o.op=iN (cc,d))(hc:cc=eQ):jW P a w G o d:=by
 cases ho:o.op<;>rw[ho]at h<;>simp only[abX]at h<;>try trivial
 case indexAddr t x ix=>
  split at h<;>try trivial
  rename_i n e j1 j2 z kd m ht hn;obtain⟨xt,kI,eL,-⟩:=aS ht;obtain⟨m,hm0⟩:∃q:Int,q=m:=⟨m,rfl⟩;subst hm0;have Fa:=hr.ev ix;rw[hn]at Fa;have Wn:=Fa.gD;split at h<;>try trivial
  rename_i i j aF k i0 off hi hx;obtain⟨xe,sw,Ci,hsz,-⟩:=aS hi;split at h<;>try trivial
  rename_i g c hg hcg;split at h<;>try trivial
  rename_i hs4;cases h;simp only[cH,fO]at hc hs4;obtain⟨c1,c2,c3,c4⟩:=hs4;obtain⟨c5,c6,c7⟩:=hc;have c1:=fm c1;have c2:=fm c2;have c3:=fm c3;have c4:=fm c4;have c7:m<(c.2.length:Int):=c7;subst c1 c3 c4;have hv:=hr.ev x;rw[hx]at hv;obtain⟨b,cap,cur,hj,hlt,mR,-⟩:=hr.arr hg hcg hv;refine gE (f:=λρ=>Instr.indexAt t (ρ x) (ρ ix)) (by simp[M2,ho]) ⟨_,YS hj om,λw' hs=>?_⟩;rw[mR,Wn];unfold Instr.indexAt asIntOf Instr.sureAddr;have h3:(0<=m/\m<(n:Int)):=⟨c5,c6⟩;simp only[jF,qw,kn,aW eL,h3,and_self,if_true,fP sw,add_lit,hsz,c2,Nat.zero_mul,sC,PJ]
def WJ(P:bw)(ty:aK->O Ty)(st:TS E)(o:Op):O (Bool×TV E):=match WH P ty st o with|some x=>iN x|none=>abX P st o
theorem afN(hE:E.Ok)(hr:Rel E w0 G0 st a w G){c:Bool}(h:WJ P ty st o.op=iN (c,d))(hc:c=eQ):jW P a w G o d:=by grind[WJ,adh,afM]
theorem Rel.agK(hr:Rel E w0 G0 st a w G)(hk:k=T.size E)(hk0:0<k)(hx0:0<Sx xs)(hm:Sx xs<=maxLen)(hcs:cur.size=Sx xs*k)
  (hf:Flat w G.pr k cur.toList (xs.map (T.cells E))) :
  Rel E w0 G0 {st with g:=st.g++[⟨0,e,k⟩],c:=(Sx st.g,⟨T,xs⟩)::st.c} a (w.alloc (.cells cur e)) {G with g:=G.g++[(⟨0,e,k⟩,.slice (iN ⟨w.heap.size,0,iF⟩) xs.length xs.length)]} /\
   (G.g++[(⟨0,e,k⟩,Value.slice (iN ⟨w.heap.size,0,iF⟩) xs.length xs.length)])[Sx st.g]? = iN (⟨0,e,k⟩,.slice (iN ⟨w.heap.size,0,iF⟩) xs.length xs.length):=by
 have hG:=hr.grow (fI.alloc w (.cells cur e)) rfl rfl rfl G.pr (λ_ _ h=>h) (λ_ _ _ h=>h) (λb o hp=>kF (hr.boxes.gT b o hp).1 si);have hnp:∀o,¬ G.pr w.heap.size o:=λo hp=>absurd (hr.boxes.gT _ _ hp).1 (AH _);have hheap:(w.alloc (.cells cur e)).heap[w.heap.size]? = iN (.cells cur e):=heap_alloc_new w _;have htk:cur.toList.take (Sx xs*k)=cur.toList:=va (by simp_all);have hown:(w.alloc (.cells cur e)).ownsRow 0 e k (.slice (iN ⟨w.heap.size,0,iF⟩) xs.length xs.length) xs.length (cur.toList.take (Sx xs*k)):=by refine⟨?_,.inr ⟨w.heap.size,Sx xs,cur,rfl,fF _,hheap,eE _,hm,hcs,rfl⟩⟩;simp_all
 have hA:=hG.DZ ⟨0,e,k⟩ (.slice (iN ⟨w.heap.size,0,iF⟩) xs.length xs.length) ⟨Sx xs,_,hown,λa q h=>by simp_all,λb hb=>by
   cases hb;exact⟨si,λhm=>absurd (hr.boxes.lt _ hm) (AH _),λo _ hp=>hnp o hp⟩⟩ (λb hb=>by cases hb;exact hr.fH.size) (λj y z b hj hzb hb=>by
   cases hb;obtain⟨n',xs',-,-,hb'⟩:=hr.boxes.grow j y z hj
   simp_all)
 have hrl:=hr.rG;have lI:(G.g++[(⟨0,e,k⟩,Value.slice (iN ⟨w.heap.size,0,iF⟩) xs.length xs.length)])[Sx st.g]? = iN (⟨0,e,k⟩,.slice (iN ⟨w.heap.size,0,iF⟩) xs.length xs.length):=by rw[<-hrl];simp
 refine⟨hA.YU ⟨⟨0,e,k⟩,_,lI,hk,hk0,⟨_,hown,?_⟩,λb hb o hp=>by cases hb;exact hnp o hp⟩,lI⟩;rw[htk];exact hf.mono (λ_ _ h=>h) (λb o v _ hv=>(fI.alloc w _).cell hv)
theorem afO(hE:E.Ok)(hr:Rel E w0 G0 st a w G){n:Nat}{z0:R0}(ho:o.op=.alloc t)(ht:aZ P t=iN ⟨.array n e,j1,j2,z0⟩){z:T.den E.D}
  (hT:T.size E=1) (hn:0<n) (hm:n<=maxLen) (hzn:z0.cells.size=n) (hall:z0.cells.toList.all (aiI ie.zero)=eQ) (hz1:ie.zero.cells.toList.all (·.oneCell')=eQ) (hz:(zV E (iN T) ie.zero).get T=iN z) :
  kG P w0 G0 a w o {st with t:=cE st.t o.dst (.iX st.g.length 0 1 0 0),g:=st.g++[⟨0,t,1⟩],c:=(Sx st.g,⟨T,W0 n z⟩)::st.c}:=by
 have hzv:VT E w G (.dat T z) ie.zero:=TV.vW hz (S5 hE hz1);have hzc:=hzv.Qy;have hcell:∀v,v∈z0.cells.toList->v=ie.zero/\ie.zero.cells=#[ie.zero]:=λv hv=>by grind[ap8,List.all_eq_true]
 have hfl:Flat w G.pr 1 z0.cells.toList ((W0 n z).map (T.cells E)):=by
  refine⟨by simp[hzn],λj hj=>?_,λj l hj hl=>?_⟩
  .simp_all[Ty.Cd]
  .have hj:j<n:=by simpa using hj
   obtain rfl:l=0:=om;have e1:((W0 n z).map (T.cells E)).getD j []=T.cells E z:=by simp[hj]
   have hjz:j<z0.cells.toList.length:=by simp[hzn,hj]
   have e2:z0.cells.toList.getD (j*1+0) H5=z0.cells.toList[j]:=by simp_all
   obtain⟨q1,q2⟩:=hcell _ (fW hjz);rw[e1,e2,q1];rw[q2]at hzc;cases hd:T.cells E z with|nil=>rw[hd]at hzc;exact hzc.elim|cons d ds=>rw[hd]at hzc;exact hzc.1
 obtain⟨hR,lI⟩:=hr.agK hT.symm Nat.one_pos (by simpa using hn) (by simpa using hm) (by simp[hzn]) hfl;refine⟨.value _,_,_,_,?_,.inl rfl,hR.put (v:=.pointer (iN ⟨w.heap.size,0,iF⟩)) ?_ o.dst⟩
 .simp[M2,ho,Instr.alloc,oC ht];rfl
 .exact⟨⟨0,t,1⟩,_,lI,eE _,rfl,λ_=>⟨w.heap.size,_,_,rfl,by simpa using hn,si⟩⟩
theorem akT(hr:Rel E w0 G0 st a w G){n:Nat}(ho:o.op=.box t x)(hx:st.ev x=.vp T xs)(hT:0<T.size E)(hn:0<n)(hm:n<=maxLen)(hl:Sx xs=n):
  kG P w0 G0 a w o {st with t:=cE st.t o.dst (.iX st.g.length 0 (T.size E) 0 0),g:=st.g++[⟨0,t,T.size E⟩],c:=(Sx st.g,⟨T,xs⟩)::st.c}:=by
 have hv:=hr.ev x;rw[hx]at hv;obtain⟨vs,he,h1,hf⟩:=hv;obtain⟨hR,lI⟩:=hr.agK rfl hT om om (by have:=hf.1;simpa using this) hf;refine⟨.value _,_,_,_,?_,.inl rfl,hR.put (v:=.pointer (iN ⟨w.heap.size,0,iF⟩)) ?_ o.dst⟩
 .simp[M2,ho];rw[he];rfl
 .exact⟨⟨0,t,T.size E⟩,_,lI,eE _,rfl,λ_=>⟨w.heap.size,_,_,rfl,om,si⟩⟩
theorem afP(hr:Rel E w0 G0 st a w G)(ho:o.op=.load t x)(ht:aZ P t=iN i)(hag:i.isAgg=eQ)(hd:st.ev x=.iX j g.aF k 0 0)
  (hg:st.g[j]? = iN g) (hc:qc st.c j=iN c) (hk:k=c.1.size E) (hsz:c.2.length*k=i.size):jW P a w G o (.vp c.1 c.2):=by
 have hv:=hr.ev x;rw[hd]at hv;obtain⟨b,cap,cur,hj,hlt,mR,hheap,hcap,hcs,hf,Cm⟩:=hr.arr hg hc hv;have hle:i.size<=cur.size:=by rw[hcs,<-hsz,hk,<-Cm];exact AK _ hcap
 have hrun:=λw' hs=>nU ht b 0 cur.size (λl=>cur.toList.getD l H5) (λl hl=>by
  rw[sC,cell_of_row w b l cur g.e (0,0) hheap];simp[hl]) 0 (by rw[hag];simpa using hle) w' hs
 have hls:((aT i.size).map λl=>cur.toList.getD (0+l) H5)=cur.toList.take (c.2.length*g.k):=by rw[Cm,<-hk];refine BG aM λq h1 h2=>?_;grind
 refine gE (f:=λρ=>Instr.loadAt t (ρ x)) (by simp[M2,ho]) ⟨.agg (cur.toList.take (c.2.length*g.k)).toArray,?_,λw' hs=>?_⟩
 .refine⟨_,rfl,λu hu=>?_,by rw[<-Cm];exact hf⟩;have hu:u∈cur.toList.take (c.2.length*g.k):=by simpa using hu
  obtain⟨q,hq,rfl⟩:=ko hu;have hlen:=hf.1;rw[gP]at hlen;have hk0:0<g.k:=by grind
  have hq1:q<c.2.length*g.k:=by rw[<-hlen];exact hq
  have:=hf.2.2 (q / g.k) (q%g.k) (by simp_all[gP,ahE]) (abH _ hk0);rw[show q / g.k*g.k+q%g.k=q by simp_all[abq,Nat.div_add_mod]]at this;have e:(cur.toList.take (c.2.length*g.k)).getD q H5=(cur.toList.take (c.2.length*g.k))[q]:=by simp_all
  rw[e]at this;exact this.one
 .have:=hrun w' (hs (by rw[ho];rfl));simp_all
def adl(P:bw)(ty:aK->O Ty)(st:TS E)(dst:O Nat):Op->O (Bool×TS E)
 | .alloc t=>match aZ P t with
  | some ⟨.array n e,_,_,z0⟩=>match bY 8 n,aZ P e,ty e with
   | true,iN ie,iN T=>match (zV E (iN T) ie.zero).get T with
    | some z=>iN (dO (T.size E) 1&&(iO n 9223372036854775807&&(dO z0.cells.size n&&(z0.cells.toList.all (aiI ie.zero)&&ie.zero.cells.toList.all (·.oneCell')))),
      {st with t:=cE st.t dst (.iX st.g.length 0 1 0 0),g:=st.g++[⟨0,t,1⟩],c:=(Sx st.g,⟨T,W0 n z⟩)::st.c})
    | none=>iF
   | _,_,_=>iF
  | _=>iF
 | .box t x=>match aZ P t,st.ev x with
  | some ⟨.array n _,_,_,_⟩,.vp T xs=>iN (bY 0 (T.size E)&&(bY 0 n&&(iO n 9223372036854775807&&dO xs.length n)),
    {st with t:=cE st.t dst (.iX st.g.length 0 (T.size E) 0 0),g:=st.g++[⟨0,t,T.size E⟩],c:=(Sx st.g,⟨T,xs⟩)::st.c})
  | _,_=>iF
 | .load t x=>match aZ P t,st.ev x with
  | some i,.iX j aF k ix off=>match i.kind,st.g[j]?,qc st.c j with
   | .array _ _,iN g,iN c=>iN (i.isAgg&&(dO g.aF aF&&(dO k (c.1.size E)&&(dO ix 0&&(dO off 0&&dO (c.2.length*k) i.size)))),{st with t:=cE st.t dst (.vp c.1 c.2)})
   | _,_,_=>iF
  | _,_=>iF
 | _=>iF
theorem aiJ(hE:E.Ok)(hr:Rel E w0 G0 st a w G)(h:adl P ty st o.dst o.op=iN (cc,st'))(pn:cc=eQ):kG P w0 G0 a w o st':=by
 have hmax:maxLen=9223372036854775807:=rfl;cases ho:o.op<;>rw[ho]at h<;>simp only[adl]at h<;>try trivial
 case alloc t=>
  split at h<;>try trivial
  rename_i n e j1 j2 z0 ht;split at h<;>try trivial
  rename_i ie T h8 hi hT;split at h<;>try trivial
  rename_i z hz;cases h;simp only[cH]at pn;obtain⟨c1,c2,c3,c4,c5⟩:=pn;exact afO hE hr ho ht (fm c1) (Nat.lt_of_le_of_lt (fF 8) (lY h8)) (by simp_all) (fm c3) c4 c5 hz
 case box t x=>
  split at h<;>try trivial
  rename_i n e j1 j2 z0 T xs ht hx;cases h;simp only[cH]at pn;obtain⟨c1,c2,c3,c4⟩:=pn;exact akT hr ho hx (lY c1) (lY c2) (by simp_all) (fm c4)
 case load t x=>
  split at h<;>try trivial
  rename_i i j aF k ix off ht hx;split at h<;>try trivial
  rename_i g c hk hg hc;cases h;simp only[cH]at pn;obtain⟨c1,c2,c3,c4,c5,c6⟩:=pn;have c2:=fm c2;have c4:=fm c4;have c5:=fm c5;subst c2 c4 c5;exact(afP hr ho ht c1 hx hg hc (fm c3) (fm c6)).am5 hr
def aiK(P:bw)(ty:aK->O Ty)(st:TS E)(dst:O Nat)(op:Op):O (Bool×TS E):=match adl P ty st dst op with|some r=>iN r|none=>abW P ty st dst op
theorem aiL(hE:E.Ok)(hr:Rel E w0 G0 st a w G){c:Bool}(h:aiK P ty st o.dst o.op=iN (c,st'))(hc:c=eQ):kG P w0 G0 a w o st':=by grind[aiK,aiJ,afL]
variable{b:Nat}
def WK(P:bw)(st:TS E):Op->O (Bool×TV E)
 | .indexAddr t x ix=>match aZ P t,st.ev ix with
  | some ⟨.slice e,_,_,_⟩,.dat (.int _) m=>match aZ P e,st.ev x with
   | some i,.iU r n cap=>iN (dO i.size 1&&(eJ (0<=m)&&eJ (m<(n:Int))),.ptr r (eI m))|_,_=>iF
  | _,_=>iF
 | .call c=>match c.callee,c.args.toList,c.argTypes.toList with
  | .builtin .len,[x],[t]=>match aZ P t,st.ev x with
   | some ⟨.slice _,_,_,_⟩,.iU r n cap=>iN (eQ,.dat (.int .i64) (n:Int))|_,_=>iF
  | _,_,_=>iF
 | .load t x=>match aZ P t,st.ev x with
  | some i,.ptr r off=>match st.H[r]? with
   | some (.mH e cap T xs d)=>iN (dO i.size 1&&(!i.isAgg&&dO off xs.length),d)|_=>iF
  | _,_=>iF
 | _=>iF
theorem aag{n:Nat}(h:w.heap[b]? = iN (.cells cur e (0,0)))(hn:n<cur.size):w.cell? ⟨b,n,iF⟩=iN (cur.getD n H5):=by rw[cell_of_row w b n cur e (0,0) h];simp[hn]
theorem OM(hi:aZ P t=iN i)(hs:i.size=1)(ha:i.isAgg=eK){n:Nat}(W:U)(h:W.cell? ⟨b,n,iF⟩=iN v):(Instr.loadAt t (.pointer (iN ⟨b,n,iF⟩))).run P W=.ok v W:=by
 have hrow:=nU hi b n 1 (λ_=>v) (λl hl=>by
  simp_all) 0 (by rw[ha];simp) W (fI.refl W)
 simp_all
theorem afQ(hE:E.Ok)(hr:Rel E w0 G0 st a w G)(h:WK P st o.op=iN (cc,d))(hc:cc=eQ):jW P a w G o d:=by
 cases ho:o.op<;>rw[ho]at h<;>simp[WK]at h<;>try trivial
 case indexAddr t x ix=>
  split at h<;>try trivial
  rename_i e j1 j2 z kd m ht hn;obtain⟨xt,kI,eL,-⟩:=aS ht;obtain⟨m,hm0⟩:∃q:Int,q=m:=⟨m,rfl⟩;have Fa:=hr.ev ix;rw[hn]at Fa;have Wn:=Fa.gD;split at h<;>try trivial
  rename_i i r n cap hi hx;obtain⟨xe,sw,Ci,hsz,-⟩:=aS hi;cases h;simp at hc;have hv:=hr.ev x;rw[hx]at hv;obtain⟨b,mR,hat⟩:=hv;refine gE (f:=λρ=>Instr.indexAt t (ρ x) (ρ ix)) (by simp[M2,ho]) ⟨.pointer (iN ⟨b,m.toNat,iF⟩),?_,λw' hs=>?_⟩
  .simp_all[VT]
  rw[mR];unfold Instr.indexAt asIntOf;simp[qw,aW eL];simp_all[and_self,if_true,jF,fP,kn,qw,add_lit,sC,Sp]
 case load t x=>
  split at h<;>try trivial
  rename_i i r off hi hx;split at h<;>try trivial
  rename_i e cap T xs d' hb;cases h;simp only[cH,wL]at hc;obtain⟨c1,c2,c3⟩:=hc;have c1:=fm c1;have c3:=fm c3;subst c3;have hv:=hr.ev x;rw[hx]at hv;obtain⟨b,mR,hat⟩:=hv;obtain⟨cur,h1,h2,h4,h5,h6⟩:=hr.box hat hb;refine⟨_,h5,λw' hs=>?_⟩;have hb':w'.heap[b]? = iN (.cells cur e (0,0)):=by rw[(hs (by rw[ho];rfl)).2 b (BH.1 h1).1];exact h1
  have:=OM hi c1 c2 w' (aag hb' (by rw[h2];exact h6));simp[M2,ho,mR,this]
 case call c'=>
  split at h<;>try trivial
  rename_i x t hcl ha hat;have hU:c'.args=#[x]:=by grind
  have zJ:c'.argTypes=#[t]:=by grind
  split at h<;>try trivial
  rename_i e j1 j2 z r n cap ht hx;cases h;have hv:=hr.ev x;rw[hx]at hv;obtain⟨b,mR,hat⟩:=hv;obtain⟨xt,kI,eL,-⟩:=aS ht;refine⟨_,.int _ _ _ _,λw' hs=>?_⟩;unfold M2;simp[ho,resolve,hcl,invoke,builtin,hU,zJ];rw[mR];simp[Builtin.len_,aW eL,goInt]
def TV.anh:TV E->O (J (TV E))|.dat t x=>cond t.isAgg (J8 E 4 t x) iF|.agg cs=>iN cs|_=>iF
theorem aiM(hE:E.Ok)(hv:VT E w G d v)(h:d.anh=iN cs):∃vs:aJ R0,v=.agg vs/\bO E w G cs vs.toList:=by
 cases d<;>try trivial
 case dat t x=>
  simp only[TV.anh]at h;cases ha:t.isAgg<;>rw[ha]at h<;>simp only[aQ,aI]at h
  .cases h
  .obtain⟨vs,rfl,h0⟩:=hv.ais ha;exact⟨vs,rfl,zT hE 4 t x h0 h⟩
 case agg ds=>cases h;simp only[VT]at hv;obtain⟨vs,rfl,h1,h2⟩:=hv;exact⟨vs,rfl,h2⟩
def aiN:J (TV E)->J (Nat×TV E)->O (J (TV E))
 | cs,[]=>iN cs|cs,(j,d)::rest=>match d.qt with
  | some [u]=>cond (iO (j+1) cs.length) (aiN (cs.take j++[u]++cs.drop (j+1)) rest) iF|_=>iF
theorem aah(hE:E.Ok)(hr:Rel E w0 G0 st a w G):∀(parts:J (Nat×dJ))(cells:aJ R0)(ds:J (TV E)){ds':J (TV E)},bO E w G ds cells.toList->(∀u,u∈cells.toList->u.oneCell'=eQ) ->
  aiN ds (parts.map λp=>(p.1,st.ev p.2))=iN ds' ->
  ∃cells':aJ R0,Instr.fill (λi=>iN (i*1,1)) cells (parts.map λp=>(p.1,a.eval p.2))=iN cells'/\bO E w G ds' cells'.toList/\∀u,u∈cells'.toList->u.oneCell'=eQ
 | [],cells,ds,ds',h,h1,hf=>by cases hf;exact⟨cells,rfl,h,h1⟩
 | (j,x)::rest,cells,ds,ds',h,h1,hf=>by
  simp only[jb,aiN]at hf;split at hf<;>try trivial
  rename_i u hl;cases hb:iO (j+1) ds.length<;>rw[hb]at hf<;>simp only[aQ,aI]at hf
  .cases hf
  have hle:=lY hb;obtain⟨hx,hx1⟩:=uq hE (hr.ev x) hl;have hlen:(a.eval x).cells.size=1:=by simpa using hx.length
  have hcl:cells.size=Sx ds:=by simpa using h.length
  simp only[jb];rw[Qr (off:=j) (size:=1) si hlen om,hlen];refine aah hE hr rest _ _ ?_ ?_ hf
  .simp only[];exact((h.take _).append hx).append (h.drop _)
  .intro u hu;simp only[kZ]at hu;rcases hu with (hu|hu)|hu
   .exact h1 u (MS hu)
   .exact hx1 u (by simpa using hu)
   .exact h1 u (List.mem_of_mem_drop hu)
theorem agL{T:Ty}:∀ {ds:J (TV E)}{us:J R0}{xs:J (T.den E.D)},pO T ds=iN xs->bO E w G ds us->∀m,m<Sx xs->∃u,us[m]? = iN u/\VT E w G (.dat T (xs.getD m (T.dflt E))) u
 | [],us,xs,h,hv,m,hm=>by simp only[pO]at h;cases h;simp at hm
 | d::ds,us,xs,h,hv,m,hm=>by
  simp only[pO]at h;split at h<;>try trivial
  rename_i x xs' e1 e2;cases h;obtain⟨u,us',rfl,q1,q2⟩:=hv.cons_inv;cases m with|zero=>exact⟨u,rfl,TV.vW e1 q1⟩|succ m=>exact agL e2 q2 m (by simpa using hm)
def abY(P:bw)(ty:aK->O Ty)(st:TS E):Op->O (Bool×TV E)
 | .build t parts=>match aZ P t with
  | some ⟨.array _ e,_,_,.agg z⟩=>match aZ P e,aiN (z.toList.map TV.L3) (parts.toList.map λp=>(p.1,st.ev p.2))with
   | some i,iN ds=>iN (dO i.size 1&&z.toList.all (·.oneCell'),S2 E (ty t) ds)
   | _,_=>iF
  | _=>iF
 | .index t x ix=>match aZ P t,st.ev ix with
  | some ⟨.array n e,_,_,_⟩,.dat (.int _) m=>match aZ P e,ty e,(st.ev x).anh with
   | some i,iN T,iN cs=>match pO T cs with
    | some xs=>iN (dO i.size 1&&(!i.isAgg&&(dO n xs.length&&(eJ (0<=m)&&eJ (m<(n:Int))))),.dat T (xs.getD (eI m) (T.dflt E)))|none=>iF
   | _,_,_=>iF
  | _,_=>iF
 | _=>iF
theorem afR(hE:E.Ok)(hr:Rel E w0 G0 st a w G)(h:abY P ty st o.op=iN (cc,d))(hc:cc=eQ):jW P a w G o d:=by
 cases ho:o.op<;>rw[ho]at h<;>simp only[abY]at h<;>try trivial
 case build t parts=>
  split at h<;>try trivial
  rename_i n e j1 j2 z ht;split at h<;>try trivial
  rename_i i ds hi hp;cases h;rw[cH]at hc;have c1:=fm hc.1;obtain⟨xt,kI,eL,-,-,hz⟩:=aS ht;obtain⟨xe,sw,-,hsz,-⟩:=aS hi;obtain⟨cells,hf,hl,hl1⟩:=aah hE hr parts.toList z (z.toList.map TV.L3) bO.ofValues (λu hu=>pW.1 hc.2 u hu) hp;refine gE (f:=λρ=>Instr.build t (parts.map λ(i,x)=>(i,ρ x))) (by simp[M2,ho]) ⟨.agg cells,Lc hE hl hl1,λw' hs=>?_⟩;refine run_build w' t _ cells ?_;unfold Program.built;simp only[kI,eL,hz,sw,hsz,c1];rw[show(parts.map λ(i,x)=>(i,a.eval x)).toList=parts.toList.map λp=>(p.1,a.eval p.2) by simp];exact hf
 case index t x ix=>
  split at h<;>try trivial
  rename_i n e j1 j2 z kd m ht hn;obtain⟨m,hm0⟩:∃q:Int,q=m:=⟨m,rfl⟩;subst hm0;have Fa:=hr.ev ix;rw[hn]at Fa;have Wn:=Fa.gD;split at h<;>try trivial
  rename_i i T cs hi hT hx;split at h<;>try trivial
  rename_i xs hxs;cases h;simp only[cH,wL,fO]at hc;obtain⟨c1,c2,c3,c4,c5⟩:=hc;have c1:=fm c1;have c3:=fm c3;have c4:(0:Int)<=m:=c4;have c5:m<(n:Int):=c5;obtain⟨xt,kI,eL,-⟩:=aS ht;obtain⟨xe,sw,-,hsz,-⟩:=aS hi;obtain⟨vs,mR,hvs⟩:=aiM hE (hr.ev x) hx;obtain⟨u,hu,hv⟩:=agL hxs hvs m.toNat om;refine gE (f:=λρ=>Instr.index t (ρ x) (ρ ix)) (by simp[M2,ho]) ⟨u,hv,λw' hs=>?_⟩;rw[mR,Wn];unfold Instr.index asIntOf part;have h3:(0<=m/\m<((n:Nat):Int)):=⟨c4,c5⟩;simp at hu;simp only[jF,qw,kn,aW eL,h3,and_self,if_true,fP sw,hsz,c1,Sp,Wh hi,c2];simp[hu]
def WL(P:bw)(ty:aK->O Ty)(st:TS E)(o:Op):O (Bool×TV E):=match WJ P ty st o with
 | some x=>iN x|none=>match WK P st o with
  | some x=>iN x|none=>abY P ty st o
theorem Ug(hE:E.Ok)(hr:Rel E w0 G0 st a w G){c:Bool}(h:WL P ty st o.op=iN (c,d))(hc:c=eQ):jW P a w G o d:=by
 unfold WL at h;split at h
 .rename_i x hx;cases h;exact afN hE hr hx hc
 .split at h
  .rename_i x hx;cases h;exact afQ hE hr hx hc
  .exact afR hE hr h hc
def aiO(P:bw)(st:TS E)(dst:O Nat):Op->O (Bool×TS E)
 | .store t x y=>match aZ P t,st.ev x,(st.ev y).qt with
  | some i,.ptr r off,iN [u]=>match st.H[r]? with
   | some (.mH e cap T xs d)=>iN (dO i.size 1&&dO off xs.length,{st with t:=cE st.t dst .any,H:=st.H.set r (.mH e cap T xs u),d:=r::st.d})
   | _=>iF
  | _,_,_=>iF
 | _=>iF
theorem aiP(hE:E.Ok)(hr:Rel E w0 G0 st a w G){c:Bool}(h:aiO P st o.dst o.op=iN (c,st'))(hc:c=eQ):kG P w0 G0 a w o st':=by
 cases ho:o.op<;>rw[ho]at h<;>simp[aiO]at h<;>try trivial
 case store t x y=>
  split at h<;>try trivial
  rename_i i r off u ht hd hy;split at h<;>try trivial
  rename_i e cap T xs d hb;cases h;rw[cH]at hc;have c1:=fm hc.1;have c2:=fm hc.2;have Bq:=hr.ev x;rw[hd]at Bq;obtain⟨b,he,hat⟩:=Bq;obtain⟨vs,hh,hsz,hxs,hdv,hlt⟩:=hr.box hat hb;obtain⟨hl,hl1⟩:=uq hE (hr.ev y) hy;have hlen:(a.eval y).cells.toList.length=1:=by rw[hl.length];rfl
  have hlen':(a.eval y).cells.size=i.size:=by rw[c1];simpa using hlen
  obtain⟨v,hv⟩:∃v,(a.eval y).cells.toList=[v]:=by
   match hq:(a.eval y).cells.toList,hlen with|[v],_=>exact⟨v,rfl⟩
  obtain⟨xt,kI,-,avp,-⟩:=aS ht;have hfit:Sx xs+0+(a.eval y).cells.toList.length<=vs.size:=by rw[hsz];omega
  have Wu:=run_storeCells_at (P:=P) b xs.length e (a.eval y).cells.toList 0 vs w hh hfit (λv hv=>hl1 v (by simpa using hv));obtain⟨new,hnw⟩:∃new,new=(vs.toList.take xs.length++(a.eval y).cells.toList++vs.toList.drop (Sx xs+(a.eval y).cells.toList.length)).toArray:=⟨_,rfl⟩;have hrun:(M2 a.eval o).run P w=.ok .skip (w.setRow b new):=by simp[M2,ho,Instr.storeAt,Instr.sureAddr,he,storeVar,fP kI];simp_all
  have hnew:(w.setRow b new).heap[b]? = iN (.cells new e (0,0)):=setRow_heap w b vs _ e _ hh;have FR:∀b',b'≠b->(w.setRow b new).heap[b']? = w.heap[b']?:=λb' hb'=>setRow_other w b b' _ hb';have qq:new.size=cap:=by grind
  have QF:∀q,new.getD q H5=if q=Sx xs then v else vs.getD q H5:=by
   intro q;rw[Sq,Sq];have htl:(vs.toList.take xs.length).length=Sx xs:=by grind
   by_cases h1:q<Sx xs
   .grind
   .by_cases h2:q=Sx xs
    .simp_all
    .rw[if_neg h2];grind
  have hR:=hr.zU (w':=w.setRow b new) hat si rfl rfl rfl FR (x:=.mH e cap T xs u) (λhg=>by
   refine⟨new,hnew,qq,λq x hx=>?_,?_,hlt⟩
   .have hq:=(fD.1 hx).1;rw[QF,if_neg om];exact(hxs q x hx).mono hg
   .rw[QF,if_pos rfl]
    have:=hl.mono hg;rw[hv]at this;obtain⟨u',us,e1,h1,-⟩:=this.cons_inv;cases e1;exact h1)
  exact⟨_,H5,_,G,hrun,.inr ⟨rfl,rfl⟩,hR.put (by simp[VT]) o.dst⟩
def adm(P:bw)(ty:aK->O Ty)(st:TS E)(dst:O Nat)(op:Op):O (Bool×TS E):=match adj P ty st dst op with
 | some r=>iN r|none=>match aiK P ty st dst op with
  | some r=>iN r|none=>aiO P st dst op
theorem aiQ(hE:E.Ok)(hr:Rel E w0 G0 st a w G){c:Bool}(h:adm P ty st o.dst o.op=iN (c,st'))(hc:c=eQ):kG P w0 G0 a w o st':=by grind[adm,aiE,aiL,aiP]
inductive adn where
 | ptr|iface|func|slice|map
 deriving DecidableEq
def adn.val:adn->R0|.ptr=>.pointer iF|.iface=>.nilIface|.func=>.nilFunc|.slice=>.slice iF 0 0|.map=>.map iF
def ani:R0->O adn|.pointer iF=>iN .ptr|.nilIface=>iN .iface|.nilFunc=>iN .func|.slice iF 0 0=>iN .slice|.map iF=>iN .map|_=>iF
theorem ap9{k:adn}(h:ani v=iN k):v=k.val:=by unfold ani at h;split at h<;>cases h<;>rfl
inductive CT where
 | dat (t:Ty)
 | any
 | ptr (r off:Nat)
 | rF (r off:Nat)
 | jT (r:Nat)
 | vV (r:Nat)
 | cz (j:Nat) (t:Ty)
 | eF (j:Nat)
 | func (f:H4) (caps:List (Nat×Nat))
 | nil (k:adn)
 | uk (t:Ty) (off:Nat)
 | iface (ty:TypeId) (t:Ty)
 | iX (j k:Nat)
 | vp (t:Ty)
 | lb (b:Bool)
 | li (k:IntKind) (n:Int)
 | pk (t:Ty)
def CT.pk? : CT->O Ty|.pk t=>iN t|_=>iF
inductive PT where
 | one (c:CT)
 | agg (cs:List CT)
 | dI (cs:List CT)
inductive BT where
 | cells (ty:TypeId) (cs:List CT)
 | map (kt vt:Ty)
 | iter
 | loop (y:Nat) (cs:List CT)
def CT.tys:CT->J Ty|.dat t=>[t]|.rF _ _=>[.bool]|.cz _ t=>[.bx t]|.uk t _=>[t]|.iface _ t=>[t]|.vp t=>[.bx t]|.pk t=>[t]|_=>[]
def CT.ado:J CT->J Ty|[]=>[]|c::cs=>c.tys++ado cs
def PT.tys:PT->J Ty|.one c=>c.tys|.agg cs=>CT.ado cs|.dI cs=>CT.ado cs
def BT.tys:BT->J Ty|.cells _ cs=>CT.ado cs|.loop _ cs=>CT.ado cs|.map kt vt=>[.bx (.pair kt vt)]|.iter=>[.str,.int .i64]
abbrev Lf(E:TEnv):=(t:Ty)×t.den E.D
@[reducible] def dens (E : TEnv) : J Ty -> Type
 | []=>Unit|[t]=>t.den E.D|t::u::ts=>t.den E.D×dens E (u::ts)
def abZ(t:Ty)(x:Lf E):O (t.den E.D):=if h:x.1=t then iN (h▸x.2)else iF
def getAll:(ts:J Ty)->J (Lf E)->O (dens E ts)
 | [],[]=>iN ()|[],_::_=>iF|[t],[x]=>abZ t x|[_],[]=>iF|[_],_::_::_=>iF|t::u::ts,x::xs=>match abZ t x,getAll (u::ts) xs with
  | some y,iN ys=>iN (y,ys)|_,_=>iF
 | _::_::_,[]=>iF
def aV:(ts:J Ty)->dens E ts->J (Lf E)|[],_=>[]|[t],x=>[⟨t,x⟩]|t::u::ts,x=>⟨t,x.1⟩::aV (u::ts) x.2
theorem adp{t:Ty}{x:Lf E}{y:t.den E.D}(h:abZ t x=iN y):x=⟨t,y⟩:=by grind[abZ]
theorem Fc:∀(ts:J Ty){ls:J (Lf E)}{x:dens E ts},getAll ts ls=iN x->aV ts x=ls
 | [],[],_,_=>rfl|[],_::_,_,h=>by cases h
 | [t],[l],x,h=>by grind[getAll,aV,adp]|[_],[],_,h=>by cases h
 | [_],_::_::_,_,h=>by cases h
 | t::u::ts,l::ls,x,h=>by
  simp[getAll]at h;split at h<;>try trivial
  rename_i y ys h1 h2;cases h;simp[aV,adp h1,Fc (u::ts) h2]
 | _::_::_,[],_,h=>by cases h
structure Rn where
 b:List Nat
 g:List Nat
 v:List Nat
def xY(a b c d:Nat):Bool:=dO a b&&dO c d
def QG(n:Rn):J (Nat×Nat)->J (TV E)->Bool
 | [],[]=>eQ|(r,off)::cs,d::ds=>(match n.b[r]?,d with
  | some r',.ptr r'' off'=>xY r' r'' off off'|_,_=>eK)&&QG n cs ds
 | _,_=>eK
def HT(n:Rn):J (Nat×Nat)->J (TV E)
 | []=>[]|(r,off)::cs=>(match n.b[r]? with|some r'=>.ptr r' off|none=>.any)::HT n cs
def CT.get(n:Rn):CT->TV E->O (J (Lf E))
 | .dat t,d=>match d.get t with|some x=>iN [⟨t,x⟩]|none=>iF
 | .any,_=>iN []|.ptr r off,.ptr r' off'=>match n.b[r]? with
  | some r''=>cond (xY r'' r' off off') (iN []) iF|none=>iF
 | .rF r off,.rF b r' off'=>match n.b[r]? with
  | some r''=>cond (xY r'' r' off off') (iN [⟨.bool,b⟩]) iF|none=>iF
 | .rF r off,.ptr r' off'=>match n.b[r]? with
  | some r''=>cond (xY r'' r' off off') (iN [⟨.bool,eQ⟩]) iF|none=>iF
 | .rF _ _,.val (.pointer iF)=>iN [⟨.bool,eK⟩]|.jT r,.jT r'=>match n.b[r]? with
  | some r''=>cond (dO r'' r') (iN []) iF|none=>iF
 | .vV r,.vV r'=>match n.b[r]? with
  | some r''=>cond (dO r'' r') (iN []) iF|none=>iF
 | .cz j t,.cz j' aF t' xs=>match n.g[j]?,n.v[j]? with
  | some Kg,iN v=>if h:t'=t then cond (xY Kg j' v aF) (iN [⟨.bx t,(h▸xs:J (t.den E.D))⟩]) iF else iF
  | _,_=>iF
 | .func f caps,.func (.func f') cs=>cond (dO f f'&&QG n caps cs) (iN []) iF|.nil k,.val v=>match ani v with|some k'=>cond (eJ (k=k')) (iN []) iF|none=>iF
 | .uk t off,.uk t' y off'=>if h:t'=t then cond (dO off off') (iN [⟨t,h▸y⟩]) iF else iF
 | .iface ty t,.iface ty' d=>match d.get t with|some x=>cond (dO ty ty') (iN [⟨t,x⟩]) iF|none=>iF
 | .eF j,.eF j' aF=>match n.g[j]?,n.v[j]? with
  | some Kg,iN v=>cond (xY Kg j' v aF) (iN []) iF|_,_=>iF
 | .iX j k,.iX j' aF k' i off=>match n.g[j]?,n.v[j]? with
  | some Kg,iN v=>cond (xY Kg j' v aF&&(dO k k'&&xY i 0 off 0)) (iN []) iF|_,_=>iF
 | .vp t,.vp t' xs=>if h:t'=t then iN [⟨.bx t,(h▸xs:J (t.den E.D))⟩]else iF
 | .lb b,.dat .bool x=>cond (b==x) (iN []) iF|.li k n,.dat (.int k') x=>cond (eJ (k=k')&&eJ (n=x)) (iN []) iF|_,_=>iF
def CT.put(n:Rn):CT->J (Lf E)->TV E×J (Lf E)
 | .dat _,l::ls=>(.dat l.1 l.2,ls)|.ptr r off,ls=>(match n.b[r]? with|some r'=>.ptr r' off|none=>.any,ls)
 | .rF r off,l::ls=>(match n.b[r]?,l with|some r',⟨.bool,b⟩=>.rF b r' off|_,_=>.any,ls)
 | .jT r,ls=>(match n.b[r]? with|some r'=>.jT r'|none=>.any,ls)
 | .vV r,ls=>(match n.b[r]? with|some r'=>.vV r'|none=>.any,ls)
 | .cz j _,l::ls=>(match n.g[j]?,n.v[j]?,l with|some j',iN v,⟨.bx t,xs⟩=>.cz j' v t xs|_,_,_=>.any,ls)
 | .func f caps,ls=>(.func (.func f) (HT n caps),ls)|.nil k,ls=>(.val k.val,ls)|.uk _ off,l::ls=>(.uk l.1 l.2 off,ls)|.iface ty _,l::ls=>(.iface ty (.dat l.1 l.2),ls)|.eF j,ls=>(match n.g[j]?,n.v[j]? with|some j',iN v=>.eF j' v|_,_=>.any,ls)
 | .iX j k,ls=>(match n.g[j]?,n.v[j]? with|some j',iN v=>.iX j' v k 0 0|_,_=>.any,ls)
 | .vp _,l::ls=>(match l with|⟨.bx t,xs⟩=>.vp t xs|_=>.any,ls)
 | .lb b,ls=>(.dat .bool b,ls)|.li k n,ls=>(.dat (.int k) n,ls)|_,ls=>(.any,ls)
def CT.ar9(t:Ty)(ds:J (TV E)):O (t.den E.D×J (TV E)):=match Qq E 4 t ds with
 | some p=>match J8 E 4 t p.1 with
  | some _=>iN p|none=>iF
 | none=>iF
def CT.Nz:J (Lf E)->J (TV E)×J (Lf E)
 | l::ls=>(match J8 E 4 l.1 l.2 with|some cs=>cs|none=>[],ls)
 | []=>([],[])
def CT.Lg(n:Rn):J CT->J (TV E)->O (J (Lf E))
 | [],[]=>iN []|[],_::_=>iF|c::cs,ds=>match c.pk? with
  | some t=>match CT.ar9 t ds with
   | some p=>match Lg n cs p.2 with
    | some ls=>iN (⟨t,p.1⟩::ls)|none=>iF
   | none=>iF
  | none=>match ds with
   | d::ds=>match c.get n d,Lg n cs ds with
    | some l,iN ls=>iN (l++ls)|_,_=>iF
   | []=>iF
def CT.qD(n:Rn):J CT->J (Lf E)->J (TV E)×J (Lf E)
 | [],ls=>([],ls)|c::cs,ls=>match c.pk? with
  | some _=>((CT.Nz ls).1++(qD n cs (CT.Nz ls).2).1,(qD n cs (CT.Nz ls).2).2)|none=>((c.put n ls).1::(qD n cs (c.put n ls).2).1,(qD n cs (c.put n ls).2).2)
def PT.get(n:Rn):PT->TV E->O (J (Lf E))|.one c,d=>c.get n d|.agg cs,.agg ds=>CT.Lg n cs ds|.dI cs,.tuple ds=>CT.Lg n cs ds|_,_=>iF
def PT.put(n:Rn):PT->J (Lf E)->TV E×J (Lf E)|.one c,ls=>c.put n ls|.agg cs,ls=>(.agg (CT.qD n cs ls).1,(CT.qD n cs ls).2)|.dI cs,ls=>(.tuple (CT.qD n cs ls).1,(CT.qD n cs ls).2)
def BT.get(n:Rn):BT->gu E->O (J (Lf E))
 | .cells ty cs,.cells ty' ds=>cond (dO ty ty') (CT.Lg n cs ds) iF|.map kt vt,.map kt' vt' m=>if h:Ty.bx (.pair kt' vt')=.bx (.pair kt vt)then iN [⟨.bx (.pair kt vt),(h▸(show(Ty.bx (.pair kt' vt')).den E.D from m):(Ty.bx (.pair kt vt)).den E.D)⟩]else iF
 | .iter,.iter s pos=>iN [⟨.str,s⟩,⟨.int .i64,(pos:Int)⟩]|.loop y cs,.loop y' ds=>cond (dO y y') (CT.Lg n cs ds) iF|_,_=>iF
def BT.put(n:Rn):BT->J (Lf E)->gu E×J (Lf E)
 | .cells ty cs,ls=>(.cells ty (CT.qD n cs ls).1,(CT.qD n cs ls).2)|.loop y cs,ls=>(.loop y (CT.qD n cs ls).1,(CT.qD n cs ls).2)|.map _ _,l::ls=>(match l with|⟨.bx (.pair kt vt),m⟩=>.map kt vt m|_=>.iter [] 0,ls)
 | .iter,l::l'::ls=>(match l,l' with|⟨.str,s⟩,⟨.int _,p⟩=>.iter s (eI p)|_,_=>.iter [] 0,ls)
 | _,ls=>(.iter [] 0,ls)
structure D4(w:World)(G:bC)(n:Rn)(G2:bC)(n2:Rn):Prop where
 pr:∀b o,G.pr b o->G2.pr b o
 i:∀(r r' b:Nat),n.b[r]? = iN r'->G.i[r']? = iN b->∃r2,n2.b[r]? = iN r2/\G2.i[r2]? = iN b
 g:∀(j j' v:Nat) x h,n.g[j]? = iN j'->n.v[j]? = iN v->G.g[j']? = iN (x,h)->x.aF=v/\∃j2 v2 x2,n2.g[j]? = iN j2/\n2.v[j]? = iN v2/\G2.g[j2]? = iN (x2,h)/\x2.aF=v2
theorem Bt{a c d:Nat}(h:xY a b c d=eQ):a=b/\c=d:=by simp_all[xY,cH,fm]
variable{G2:bC}{n n2:Rn}{ls rest:J (Lf E)}
theorem VT.uw{t:Ty}{x:t.den E.D}(h:VT E w G (.dat t x) v)(hp:∀b o,G.pr b o->G2.pr b o):VT E w G2 (.dat t x) v:=by
 cases ha:t.isAgg
 .exact .S1 ha ((h.atom ha).mono hp (λ_ _ _ _ h=>h))
 .obtain⟨vs,rfl,h0⟩:=h.ais ha;simp only[VT,ha];exact⟨vs,rfl,h0.mono hp (λ_ _ _ _ h=>h)⟩
theorem agM(hL:D4 w G n G2 n2):∀(caps:J (Nat×Nat)){cs:J (TV E)}{vs:J R0},QG n caps cs=eQ->bO E w G cs vs->bO E w G2 (HT n2 caps:J (TV E)) vs
 | [],[],vs,_,h=>h|(r,off)::caps,d::ds,vs,hc,h=>by
  simp[QG]at hc;obtain⟨u,us,rfl,h1,h2⟩:=h.cons_inv;obtain⟨hc1,Iu⟩:=hc;split at hc1<;>try trivial
  rename_i r' r'' off' hr;obtain⟨rfl,rfl⟩:=Bt hc1;obtain⟨b,rfl,hb⟩:=h1;obtain⟨r2,hr2,mJ⟩:=hL.i r r' b hr hb;refine .cons ?_ (agM hL caps Iu h2);simp_all[VT]
 | [],_::_,_,hc,_=>by cases hc
 | (_,_)::_,[],_,hc,_=>by cases hc
theorem CT.sound(hL:D4 w G n G2 n2){c:CT}(h:c.get n d=iN ls)(hv:VT E w G d v):
  (c.put n2 (ls++rest)).2=rest/\VT E w G2 (c.put n2 (ls++rest)).1 v:=by
 unfold CT.get at h;split at h<;>try trivial
 .split at h<;>try trivial
  rename_i t x hx;cases h;exact⟨rfl,(TV.vW hx hv).uw hL.pr⟩
 .simp_all[CT.put,pY,xA,VT]
 .rename_i r off r' off';split at h<;>try trivial
  rename_i r'' hr;cases hb:xY r'' r' off off'<;>rw[hb]at h<;>simp only[aQ,aI]at h
  .cases h
  obtain⟨rfl,rfl⟩:=Bt hb;obtain⟨b,rfl,hb⟩:=hv;obtain⟨r2,hr2,mJ⟩:=hL.i r r'' b hr hb;simp_all[CT.put,pY,xA,VT]
 .rename_i r off bb r' off';split at h<;>try trivial
  rename_i r'' hr;cases hb:xY r'' r' off off'<;>rw[hb]at h<;>simp only[aQ,aI]at h
  .cases h
  cases h;obtain⟨rfl,rfl⟩:=Bt hb;cases bb<;>simp only[VT]at hv
  .simp only[CT.put,tq,pY,xA];grind[VT]
  .obtain⟨b,rfl,hb⟩:=hv;obtain⟨r2,hr2,mJ⟩:=hL.i r r'' b hr hb;simp_all[CT.put,tq,pY,xA,VT]
 .rename_i r off r' off';split at h<;>try trivial
  rename_i r'' hr;cases hb:xY r'' r' off off'<;>rw[hb]at h<;>simp only[aQ,aI]at h
  .cases h
  cases h;obtain⟨rfl,rfl⟩:=Bt hb;obtain⟨b,rfl,hb⟩:=hv;obtain⟨r2,hr2,mJ⟩:=hL.i r r'' b hr hb;simp_all[CT.put,tq,pY,xA,VT]
 .cases h;simp only[CT.put,tq,pY,xA];grind[VT]
 .rename_i r r';split at h<;>try trivial
  rename_i r'' hr;cases hb:dO r'' r'<;>rw[hb]at h<;>simp only[aQ,aI]at h
  .cases h
  obtain rfl:=fm hb;obtain⟨b,rfl,hb⟩:=hv;obtain⟨r2,hr2,mJ⟩:=hL.i r r'' b hr hb;simp_all[CT.put,pY,xA,VT]
 .rename_i r r';split at h<;>try trivial
  rename_i r'' hr;cases hb:dO r'' r'<;>rw[hb]at h<;>simp only[aQ,aI]at h
  .cases h
  obtain rfl:=fm hb;obtain⟨b,rfl,hb⟩:=hv;obtain⟨r2,hr2,mJ⟩:=hL.i r r'' b hr hb;simp_all[CT.put,pY,xA,VT]
 .rename_i j t j' aF t' xs;split at h<;>try trivial
  rename_i Kg vv hj Fe;split at h<;>try trivial
  rename_i ht;subst ht;cases hb:xY Kg j' vv aF<;>rw[hb]at h<;>simp only[aQ,aI]at h
  .cases h
  cases h;obtain⟨rfl,rfl⟩:=Bt hb;obtain⟨Ce,x,hh,hg,hle,heq⟩:=hv;obtain⟨WM,j2,v2,x2,q1,q2,q3,q4⟩:=hL.g j Kg vv x hh hj Fe hg;simp only[CT.put,q1,q2,tq,pY,xA,VT];refine⟨Ce.mono hL.pr (λ_ _ _ _ h=>h),x2,hh,q3,om,λ_=>heq WM.symm⟩
 .rename_i f caps f' cs;cases hb:(dO f f'&&QG n caps cs)<;>rw[hb]at h<;>simp only[aQ,aI]at h
  .cases h
  rw[cH]at hb;obtain rfl:=fm hb.1;simp only[VT]at hv;simp only[CT.put,pY,xA,VT];grind[agM]
 .rename_i k u;split at h<;>try trivial
  rename_i k' hk;cases hb:eJ (k=k')<;>rw[hb]at h<;>simp only[aQ,aI]at h
  .cases h
  cases h;simp only[fO]at hb;subst hb;subst hv;simp only[CT.put,pY,xA,VT];exact ap9 hk
 .rename_i t off t' y off';split at h<;>try trivial
  rename_i ht;subst ht;cases hb:dO off off'<;>rw[hb]at h<;>simp only[aQ,aI]at h
  .cases h
  cases h;obtain rfl:=fm hb;obtain⟨b,o,c,rfl,h1,h2⟩:=hv;simp only[CT.put,tq,pY,xA,VT];exact⟨b,o,c,rfl,h1.mono hL.pr (λ_ _ _ _ h=>h),λl u hl=>⟨hL.pr _ _ (h2 l u hl).1,(h2 l u hl).2⟩⟩
 .rename_i ty t ty' d';split at h<;>try trivial
  rename_i x hx;cases hb:dO ty ty'<;>rw[hb]at h<;>simp only[aQ,aI]at h
  .cases h
  cases h;obtain rfl:=fm hb;obtain⟨u,rfl,hu⟩:=hv;simp only[CT.put,tq,pY,xA,VT];exact⟨u,rfl,(TV.vW hx hu).uw hL.pr⟩
 .rename_i j j' aF;split at h<;>try trivial
  rename_i Kg vv hj Fe;cases hb:xY Kg j' vv aF<;>rw[hb]at h<;>simp only[aQ,aI]at h
  .cases h
  obtain⟨rfl,rfl⟩:=Bt hb;obtain⟨x,hh,hg,hle,h1,heq⟩:=hv;obtain⟨WM,j2,v2,x2,q1,q2,q3,q4⟩:=hL.g j Kg vv x hh hj Fe hg;simp only[CT.put,q1,q2,pY,xA,VT];grind
 .rename_i j k j' aF k' i off;split at h<;>try trivial
  rename_i Kg vv hj Fe;cases hb:(xY Kg j' vv aF&&(dO k k'&&xY i 0 off 0))<;>rw[hb]at h<;>simp only[aQ,aI]at h
  .cases h
  rw[cH,cH]at hb;obtain⟨xE,mJ,hb3⟩:=hb;obtain⟨rfl,rfl⟩:=Bt xE;obtain⟨rfl,rfl⟩:=Bt hb3;obtain⟨x,hh,hg,hle,h1,heq⟩:=hv;obtain⟨WM,j2,v2,x2,q1,q2,q3,q4⟩:=hL.g j Kg vv x hh hj Fe hg;simp only[CT.put,q1,q2,pY,xA,VT];grind
 .split at h<;>try trivial
  rename_i ht;subst ht;cases h;obtain⟨vs,rfl,h1,h2⟩:=hv;simp only[CT.put,tq,pY,xA,VT];exact⟨vs,rfl,h1,h2.mono hL.pr (λ_ _ _ _ h=>h)⟩
 .rename_i b x;cases hb:(b==x)<;>rw[hb]at h<;>simp only[aQ,aI]at h
  .cases h
  cases h;rw[tv]at hb;subst hb;refine⟨rfl,?_⟩;rw[VT.nE hv];exact .bool _ _ _
 .rename_i k n k' x;cases hb:(eJ (k=k')&&eJ (n=x))<;>rw[hb]at h<;>simp only[aQ,aI]at h
  .cases h
  cases h;rw[cH,fO,fO]at hb;obtain⟨rfl,rfl⟩:=hb;refine⟨rfl,?_⟩;rw[VT.gD hv];exact .int _ _ _ _
theorem CT.QH(hE:E.Ok)(hL:D4 w G n G2 n2):∀ {cs:J CT}{ds:J (TV E)}{ls rest:J (Lf E)}{vs:J R0},CT.Lg n cs ds=iN ls->bO E w G ds vs ->
  (CT.qD n2 cs (ls++rest)).2=rest/\bO E w G2 (CT.qD n2 cs (ls++rest)).1 vs
 | [],[],ls,rest,vs,h,hv=>by cases h;simp[bO]at hv;subst hv;exact⟨rfl,bO.nil⟩
 | c::cs,ds,ls,rest,vs,h,hv=>by
  unfold CT.Lg at h;unfold CT.qD;split at h
  .rename_i t ht;split at h<;>try trivial
   rename_i p hp;split at h<;>try trivial
   rename_i ls' h2;cases h;unfold CT.ar9 at hp;split at hp<;>try trivial
   rename_i p' hp';split at hp<;>try trivial
   rename_i fc hfc;cases hp;obtain⟨us,ts,rfl,q1,q2⟩:=Cg hE 4 t hv hp';obtain⟨e3,e4⟩:=CT.QH hE hL h2 q2;simp[ht,CT.Nz,hfc];exact⟨e3,(zT hE 4 t p.1 (q1.mono hL.pr (λ_ _ _ _ h=>h)) hfc).append e4⟩
  .rename_i ht;split at h<;>try trivial
   split at h<;>try trivial
   rename_i l ls' h1 h2;cases h;obtain⟨u,us,rfl,q1,q2⟩:=hv.cons_inv;obtain⟨e1,e2⟩:=CT.sound hL (rest:=ls'++rest) h1 q1;obtain⟨e3,e4⟩:=CT.QH hE hL h2 q2;simp[ht,e1];exact⟨e3,.cons e2 e4⟩
 | [],_::_,_,_,_,h,_=>by cases h
theorem PT.sound(hE:E.Ok)(hL:D4 w G n G2 n2){p:PT}(h:p.get n d=iN ls)(hv:VT E w G d v):
  (p.put n2 (ls++rest)).2=rest/\VT E w G2 (p.put n2 (ls++rest)).1 v:=by
 unfold PT.get at h;grind[CT.sound,VT,CT.QH,PT.put]
theorem gM.pr{kt vt:Ty}(hp:∀b o,G.pr b o->G2.pr b o):∀ {es:J MapEntry}{m:J (kt.den E.D×vt.den E.D)},gM E w G kt vt es m->gM E w G2 kt vt es m|[],[],_=>trivial|_::_,_::_,h=>⟨h.1.uw hp,h.2.1.uw hp,gM.pr hp h.2.2⟩|[],_::_,h=>h.elim|_::_,[],h=>h.elim
theorem BT.sound(hE:E.Ok)(hL:D4 w G n G2 n2){t:BT}{x:gu E}(h:t.get n x=iN ls)(hv:kN E w G b x):
  (t.put n2 (ls++rest)).2=rest/\kN E w G2 b (t.put n2 (ls++rest)).1:=by
 unfold BT.get at h;split at h<;>try trivial
 .rename_i ty cs ty' ds;cases hb:dO ty ty'<;>rw[hb]at h<;>simp only[aQ,aI]at h
  .cases h
  obtain rfl:=fm hb;obtain⟨vs,h1,h2,h3⟩:=hv;obtain⟨e1,e2⟩:=CT.QH hE hL h h3;exact⟨e1,vs,h1,h2,e2⟩
 .split at h<;>try trivial
  rename_i he;have he':=he;obtain⟨rfl,rfl⟩:=he';cases h;obtain⟨es,clock,h1,h2,h3⟩:=hv;refine⟨rfl,?_⟩;exact⟨es,clock,h1,h2,h3.pr hL.pr⟩
 .cases h;exact⟨rfl,hv⟩
 .rename_i y cs y' ds;cases hb:dO y y'<;>rw[hb]at h<;>simp only[aQ,aI]at h
  .cases h
  obtain rfl:=fm hb;obtain⟨Y,fn,tmps,D,h0,h1,h2⟩:=hv;obtain⟨e1,e2⟩:=CT.QH hE hL h h2;exact⟨e1,Y,fn,tmps,D,h0,h1,e2⟩
structure Cut where
 vars:List (Nat×PT)
 boxes:List (Option BT)
 rows:List (Option (TypeId×Nat))
 soft:List (Nat×Ty)
def agN:J (Nat×PT)->J Ty|[]=>[]|v::vs=>v.2.tys++agN vs
def NA:J (O BT)->J Ty|[]=>[]|some b::bs=>b.tys++NA bs|none::bs=>NA bs
def S6:J (Nat×Ty)->J Ty|[]=>[]|p::ps=>.bx p.2::S6 ps
def Cut.tys(c:Cut):J Ty:=agN c.vars++(NA c.boxes++S6 c.soft)
def L9(f:Nat->O Nat)(cs:J (Nat×Cn E)):J (Nat×Ty)->O (J (Lf E))
 | []=>iN []|p::ps=>match f p.1 with
  | some j=>match qc cs j,L9 f cs ps with
   | some c,iN ls=>if h:c.1=p.2 then iN (⟨.bx p.2,(h▸c.2:J (p.2.den E.D))⟩::ls)else iF
   | _,_=>iF
  | none=>iF
def oD(f:Nat->O Nat):J (Nat×Ty)->J (Lf E)->J (Nat×Cn E)
 | [],_=>[]|p::ps,l::ls=>match f p.1,l with
  | some j,⟨.bx t,xs⟩=>(j,⟨t,xs⟩)::oD f ps ls|_,_=>oD f ps ls
 | _::_,[]=>[]
theorem EF{f f2:Nat->O Nat}{cs:J (Nat×Cn E)}:∀ {ps:J (Nat×Ty)}{ls:J (Lf E)}(rest:J (Lf E)),L9 f cs ps=iN ls->∀ {i:Nat}{c:Cn E},(i,c)∈oD f2 ps (ls++rest) ->
  ∃q j,(∃t,(q,t)∈ps)/\f q=iN j/\f2 q=iN i/\(j,c)∈cs
 | [],ls,rest,h,i,c,hm=>by cases hm
 | p::ps,ls,rest,h,i,c,hm=>by
  simp[L9]at h;split at h<;>try trivial
  rename_i j hj;split at h<;>try trivial
  rename_i c' ls' h1 h2;split at h<;>try trivial
  rename_i ht;cases h;obtain⟨t',xs⟩:=c';obtain⟨q,t⟩:=p;dsimp only at ht;subst ht;simp[oD]at hm;cases hf:f2 q with
  | none=>rw[hf]at hm;obtain⟨q',j',⟨t1,e0⟩,e1⟩:=EF rest h2 hm;exact⟨q',j',⟨t1,nt _ e0⟩,e1⟩
  | some i'=>
   rw[hf]at hm;rcases gL.1 hm with e|hm
   .cases e;exact⟨q,j,⟨t',wK ..⟩,hj,hf,UW h1⟩
   .obtain⟨q',j',⟨t1,e0⟩,e1⟩:=EF rest h2 hm;exact⟨q',j',⟨t1,nt _ e0⟩,e1⟩
def below(n:Nat):J (Nat×Ty)->Bool|[]=>eQ|p::ps=>bY p.1 n&&below n ps
theorem adq{n:Nat}:∀ {ps:J (Nat×Ty)},below n ps=eQ->∀q t,(q,t)∈ps->q<n
 | [],_,q,t,h=>by cases h
 | p::ps,hb,q,t,h=>by
  simp[below]at hb;rcases gL.1 h with e|h
  .rw[<-e]at hb;simp_all
  .exact adq hb.2 q t h
def zX:J (O (aK×Nat))->J cU->J cU->Bool|[],_,_=>eQ|none::rs,x::g0,y::g=>(dO x.aF y.aF&&(dO x.e y.e&&dO x.k y.k))&&zX rs g0 g|some p::rs,x::g0,y::g=>(dO p.1 y.e&&dO p.2 y.k)&&zX rs g0 g|some p::rs,[],y::g=>(dO p.1 y.e&&dO p.2 y.k)&&zX rs [] g|_,_,_=>eK
def ez:J (O (aK×Nat))->J cU->J cU|[],_=>[]|none::rs,x::g0=>x::ez rs g0|some p::rs,x::g0=>⟨x.aF+1,p.1,p.2⟩::ez rs g0|some p::rs,[]=>⟨0,p.1,p.2⟩::ez rs []|none::rs,[]=>⟨0,0,0⟩::ez rs []
def iB:J (O (aK×Nat))->J cU->J (cU×R0)->J (cU×R0)
 | none::rs,_::g0,y::gs=>y::iB rs g0 gs|some _::rs,x::g0,y::gs=>({y.1 with aF:=x.aF+1},y.2)::iB rs g0 gs
 | some _::rs,[],y::gs=>({y.1 with aF:=0},y.2)::iB rs [] gs
 | _,_,_=>[]
theorem Kh:∀(rows:J (O (aK×Nat)))(g0:J cU)(gs:J (cU×R0)),zX rows g0 (gs.map (·.1))=eQ ->
  (iB rows g0 gs).map (·.1)=ez rows g0/\(iB rows g0 gs).length=rows.length/\rows.length<=Sx gs /\
  ∀(j:Nat) y,gs[j]? = iN y->j<rows.length->∃y2,(iB rows g0 gs)[j]? = iN y2/\y2.2=y.2/\y2.1.e=y.1.e/\y2.1.k=y.1.k/\∀x0,g0[j]? = iN x0->y2.1.aF=y.1.aF\/x0.aF<y2.1.aF
 | [],g0,gs,h=>by simp_all[iB,ez]|none::rs,x::g0,y::gs,h=>by
  simp[zX]at h;obtain⟨⟨h1,h2,h3⟩,h4⟩:=h;obtain⟨i1,i2,i3,i4⟩:=Kh rs g0 gs h4;have hxy:y.1=x:=by obtain⟨a',b',c'⟩:=x;simp_all
  grind[iB,ez]
 | some p::rs,x::g0,y::gs,h=>by simp only[jb,zX,cH]at h;obtain⟨⟨h1,h2⟩,h4⟩:=h;obtain⟨i1,i2,i3,i4⟩:=Kh rs g0 gs h4;have e1:=fm h1;have e2:=fm h2;refine⟨by grind[iB,ez],by simp[iB,i2],by simpa using i3,λj z hz hj=>?_⟩;cases j with|zero=>simp at hz;subst hz;exact⟨_,rfl,rfl,rfl,rfl,λx0 hx=>by simp_all⟩|succ j=>grind[iB]
 | some p::rs,[],y::gs,h=>by simp only[jb,zX,cH]at h;obtain⟨⟨h1,h2⟩,h4⟩:=h;obtain⟨i1,i2,i3,i4⟩:=Kh rs [] gs h4;have e1:=fm h1;have e2:=fm h2;refine⟨by simp[iB,ez,i1,e1,e2],by simp[iB,i2],by simpa using i3,λj z hz hj=>?_⟩;cases j with|zero=>simp at hz;subst hz;exact⟨_,rfl,rfl,rfl,rfl,λx0 hx=>by simp at hx⟩|succ j=>simpa[iB]using i4 j z (by simpa using hz) (by simpa using hj)
 | none::rs,[],gs,h=>by cases gs<;>cases h
 | none::rs,_::_,[],h=>by cases h
 | some _::rs,[],[],h=>by cases h
 | some _::rs,_::_,[],h=>by cases h
def S7(n:Rn)(st:TS E):J (Nat×PT)->O (J (Lf E))
 | []=>iN []|(i,p)::vs=>match p.get n (st.at i),S7 n st vs with
  | some l,iN ls=>iN (l++ls)|_,_=>iF
def qd(n:Rn)(d:J Nat)(nb:Nat):Nat->J (O BT)->J (gu E)->O (J (Lf E))
 | _,[],_=>iN []|r,iF::bs,_::H=>cond (d.elem r || !(bY r nb)) iF (qd n d nb (r+1) bs H)|r,iN t::bs,x::H=>match t.get n x,qd n d nb (r+1) bs H with
  | some l,iN ls=>iN (l++ls)|_,_=>iF
 | _,_::_,[]=>iF
def since(d0 d:J Nat):J Nat:=d.take (d.length-d0.length)
theorem akU(n d0:J Nat):since d0 (n++d0)=n:=by simp[since]
def Cut.leaves(c:Cut)(b8 st:TS E):Option (J (Lf E)):=
 cond (below c.rows.length c.soft&&(iO b8.H.length c.boxes.length&&(iO b8.g.length c.rows.length&&zX c.rows b8.g st.g)))
  (match S7 ⟨aT c.boxes.length,aT c.rows.length,st.g.map (·.aF)⟩ st c.vars,qd ⟨aT c.boxes.length,aT c.rows.length,st.g.map (·.aF)⟩ (since b8.d st.d) b8.H.length 0 c.boxes st.H,L9 iN st.c c.soft with|some a,iN b,iN e=>iN (a++(b++e))|_,_,_=>iF) iF
def oW(W:J Nat):Nat->J (TV E)->J (TV E)|_,[]=>[]|i,d::ds=>cond (W.elem i) .any d::oW W (i+1) ds
def oe(n:Rn):J (Nat×PT)->J (TV E)->J (Lf E)->J (TV E)×J (Lf E)|[],t,ls=>(t,ls)|(i,p)::vs,t,ls=>oe n vs (t.set i (p.put n ls).1) (p.put n ls).2
def fy(n:Rn):J (Option BT)->J (gu E)->J (Lf E)->J (gu E)
 | [],_,_=>[]|none::bs,H,ls=>(match H with|x::_=>x | []=>default)::fy n bs H.tail ls
 | some t::bs,H,ls=>(t.put n ls).1::fy n bs H.tail (t.put n ls).2
def qQ:J (O BT)->J (Lf E)->J (Lf E)|[],ls=>ls|none::bs,ls=>qQ bs ls|some t::bs,ls=>qQ bs (t.put ⟨[],[],[]⟩ ls).2
def Ff:Nat->J (O BT)->J Nat|_,[]=>[]|r,iF::bs=>Ff (r+1) bs|r,iN _::bs=>r::Ff (r+1) bs
def Cut.unpack(c:Cut)(W:J Nat)(b8:TS E)(ls:J (Lf E)):TS E:=
 let n:Rn:=⟨aT c.boxes.length,aT c.rows.length,(ez c.rows b8.g).map (·.aF)⟩
 {t:=(oe n c.vars (oW W 0 b8.t) ls).1
  H:=fy n c.boxes b8.H (oe n c.vars (oW W 0 b8.t) ls).2
  g:=ez c.rows b8.g
  d:=Ff 0 c.boxes++b8.d
  df:=b8.df
  c:=oD iN c.soft (qQ c.boxes (oe n c.vars (oW W 0 b8.t) ls).2)}
mutual
def TV.Bd(nb:Nat)(g:J cU):TV E->Prop|.ptr r _=>r<nb|.rF b r _=>b=eQ->r<nb|.jT r=>r<nb|.vV r=>r<nb|.iU r _ _=>r<nb|.cz j aF _ _=>∃x,g[j]? = iN x/\aF<=x.aF|.Ua j aF _=>∃x,g[j]? = iN x/\aF<=x.aF|.eF j aF=>∃x,g[j]? = iN x/\aF<=x.aF|.iX j aF _ _ _=>∃x,g[j]? = iN x/\aF<=x.aF|.vp _ _=>True|.func _ caps=>TV.Fg nb g caps|.Iw _ fs=>TV.Fg nb g fs|.iface _ d=>TV.Bd nb g d|.agg cs=>TV.Fg nb g cs|.tuple ds=>TV.Fg nb g ds|.any=>True|.dat _ _=>True|.uk _ _ _=>True|.val _=>True
def TV.Fg(nb:Nat)(g:J cU):J (TV E)->Prop|[]=>True|d::ds=>TV.Bd nb g d/\TV.Fg nb g ds
end
variable{nb:Nat}{g0:J cU}
mutual
theorem VT.bd:∀ {d:TV E}{v:R0},VT E w G d v->TV.Bd G.i.length (G.g.map (·.1)) d
 | .any,_,_=>by simp only[TV.Bd]|.dat _ _,_,_=>by simp only[TV.Bd]|.uk _ _ _,_,_=>by simp only[TV.Bd]|.val _,_,_=>by simp only[TV.Bd]|.vp _ _,_,_=>by simp only[TV.Bd]|.ptr r off,v,h=>by simp only[VT]at h;simp only[TV.Bd];obtain⟨b,-,h⟩:=h;exact(fD.1 h).1
 | .rF c r off,v,h=>by simp only[TV.Bd];intro hc;subst hc;simp only[VT]at h;obtain⟨b,-,h⟩:=h;exact(fD.1 h).1
 | .jT r,v,h=>by simp only[VT]at h;simp only[TV.Bd];obtain⟨b,-,h⟩:=h;exact(fD.1 h).1
 | .vV r,v,h=>by simp only[VT]at h;simp only[TV.Bd];obtain⟨b,-,h⟩:=h;exact(fD.1 h).1
 | .iU r n cap,v,h=>by simp only[VT]at h;simp only[TV.Bd];obtain⟨b,-,h⟩:=h;exact(fD.1 h).1
 | .cz j aF t xs,v,h=>by simp only[VT]at h;simp only[TV.Bd];obtain⟨-,x,g,hg,hle,-⟩:=h;exact⟨x,by simp[hg],hle⟩
 | .Ua j aF l,v,h=>by simp only[VT]at h;simp only[TV.Bd];obtain⟨x,g,u,hg,hle,-⟩:=h;exact⟨x,by simp[hg],hle⟩
 | .eF j aF,v,h=>by simp only[VT]at h;simp only[TV.Bd];obtain⟨x,g,hg,hle,-⟩:=h;exact⟨x,by simp[hg],hle⟩
 | .iX j aF k i off,v,h=>by simp only[VT]at h;simp only[TV.Bd];obtain⟨x,g,hg,hle,-⟩:=h;exact⟨x,by simp[hg],hle⟩
 | .func fn caps,v,h=>by simp only[VT]at h;simp only[TV.Bd];obtain⟨vs,-,h⟩:=h;exact bO.bd h
 | .Iw fn fs,v,h=>by simp only[VT]at h;simp only[TV.Bd];obtain⟨vs,-,h⟩:=h;exact bO.bd h
 | .iface ty d,v,h=>by simp only[VT]at h;simp only[TV.Bd];obtain⟨u,-,h⟩:=h;exact VT.bd h
 | .agg cs,v,h=>by simp only[VT]at h;simp only[TV.Bd];obtain⟨vs,-,-,h⟩:=h;exact bO.bd h
 | .tuple ds,v,h=>by simp only[VT]at h;simp only[TV.Bd];obtain⟨vs,-,h⟩:=h;exact bO.bd h
theorem bO.bd:∀ {ds:J (TV E)}{vs:J R0},bO E w G ds vs->TV.Fg G.i.length (G.g.map (·.1)) ds
 | [],_,_=>by simp only[TV.Fg]|d::ds,vs,h=>by simp only[bO]at h;simp only[TV.Fg];obtain⟨u,us,-,h1,h2⟩:=h;exact⟨VT.bd h1,bO.bd h2⟩
end
structure Reb(G G2:bC)(nb:Nat)(g0:List cU):Prop where
 pr:∀b o,G.pr b o->G2.pr b o
 i:∀r b,r<nb->G.i[r]? = iN b->G2.i[r]? = iN b
 g:∀(j:Nat) x0 x h,g0[j]? = iN x0->G.g[j]? = iN (x,h)->∃x2,G2.g[j]? = iN (x2,h)/\(x2.aF=x.aF\/x0.aF<x2.aF)
mutual
theorem VT.Cq{nb:Nat}{g0:J cU}(hR:Reb G G2 nb g0):∀ {d:TV E}{v:R0},VT E w G d v->TV.Bd nb g0 d->VT E w G2 d v
 | .any,_,_,_=>by simp only[VT]|.dat t x,v,h,_=>h.uw hR.pr|.uk t x off,v,h,_=>by simp only[VT]at h⊢;obtain⟨b,o,c,rfl,h1,h2⟩:=h;exact⟨b,o,c,rfl,h1.mono hR.pr (λ_ _ _ _ h=>h),λl u hl=>⟨hR.pr _ _ (h2 l u hl).1,(h2 l u hl).2⟩⟩
 | .val _,_,h,_=>by simpa only[VT]using h|.ptr r off,v,h,hb=>by simp only[VT]at h⊢;simp only[TV.Bd]at hb;obtain⟨b,rfl,h⟩:=h;exact⟨b,rfl,hR.i r b hb h⟩
 | .rF c r off,v,h,hb=>by
  simp only[TV.Bd]at hb;cases c<;>simp only[VT]at h⊢
  .exact h
  .obtain⟨b,rfl,h⟩:=h;exact⟨b,rfl,hR.i r b (hb rfl) h⟩
 | .jT r,v,h,hb=>by simp only[VT]at h⊢;simp only[TV.Bd]at hb;obtain⟨b,rfl,h⟩:=h;exact⟨b,rfl,hR.i r b hb h⟩
 | .vV r,v,h,hb=>by simp only[VT]at h⊢;simp only[TV.Bd]at hb;obtain⟨b,rfl,h⟩:=h;exact⟨b,rfl,hR.i r b hb h⟩
 | .iU r n cap,v,h,hb=>by simp only[VT]at h⊢;simp only[TV.Bd]at hb;obtain⟨b,rfl,h⟩:=h;exact⟨b,rfl,hR.i r b hb h⟩
 | .cz j aF t xs,v,h,hb=>by
  simp only[VT]at h⊢;simp only[TV.Bd]at hb;obtain⟨Ce,x,g,hg,hle,heq⟩:=h;obtain⟨x0,hx0,hle0⟩:=hb;obtain⟨x2,h2,hc⟩:=hR.g j x0 x g hx0 hg;refine⟨Ce.mono hR.pr (λ_ _ _ _ h=>h),x2,g,h2,?_,λe=>?_⟩
  .rcases hc with hc|hc<;>omega
  .rcases hc with hc|hc
   .exact heq om
   .omega
 | .Ua j aF l,v,h,hb=>by
  simp only[VT]at h⊢;simp only[TV.Bd]at hb;obtain⟨x,g,u,hg,hle,Ce,heq⟩:=h;obtain⟨x0,hx0,hle0⟩:=hb;obtain⟨x2,h2,hc⟩:=hR.g j x0 x g hx0 hg;refine⟨x2,g,u,h2,?_,Ce.mono hR.pr (λ_ _ _ _ h=>h),λe=>?_⟩
  .rcases hc with hc|hc<;>omega
  .rcases hc with hc|hc
   .exact heq om
   .omega
 | .eF j aF,v,h,hb=>by
  simp only[VT]at h⊢;simp only[TV.Bd]at hb;obtain⟨x,g,hg,hle,h1,heq⟩:=h;obtain⟨x0,hx0,hle0⟩:=hb;obtain⟨x2,h2,hc⟩:=hR.g j x0 x g hx0 hg;refine⟨x2,g,h2,?_,h1,λe=>?_⟩
  .rcases hc with hc|hc<;>omega
  .rcases hc with hc|hc
   .exact heq om
   .omega
 | .iX j aF k i off,v,h,hb=>by
  simp only[VT]at h⊢;simp only[TV.Bd]at hb;obtain⟨x,g,hg,hle,h1,heq⟩:=h;obtain⟨x0,hx0,hle0⟩:=hb;obtain⟨x2,h2,hc⟩:=hR.g j x0 x g hx0 hg;refine⟨x2,g,h2,?_,h1,λe=>?_⟩
  .rcases hc with hc|hc<;>omega
  .rcases hc with hc|hc
   .exact heq om
   .omega
 | .vp t xs,v,h,hb=>by simp only[VT]at h⊢;obtain⟨vs,rfl,h1,h⟩:=h;exact⟨vs,rfl,h1,h.mono hR.pr (λ_ _ _ _ h=>h)⟩
 | .func fn caps,v,h,hb=>by simp only[VT]at h⊢;simp only[TV.Bd]at hb;obtain⟨vs,rfl,h⟩:=h;exact⟨vs,rfl,bO.Cq hR h hb⟩
 | .Iw fn fs,v,h,hb=>by simp only[VT]at h⊢;simp only[TV.Bd]at hb;obtain⟨vs,rfl,h⟩:=h;exact⟨vs,rfl,bO.Cq hR h hb⟩
 | .iface ty d,v,h,hb=>by simp only[VT]at h⊢;simp only[TV.Bd]at hb;obtain⟨u,rfl,h⟩:=h;exact⟨u,rfl,VT.Cq hR h hb⟩
 | .agg cs,v,h,hb=>by simp only[VT]at h⊢;simp only[TV.Bd]at hb;obtain⟨vs,rfl,h1,h⟩:=h;exact⟨vs,rfl,h1,bO.Cq hR h hb⟩
 | .tuple ds,v,h,hb=>by simp only[VT]at h⊢;simp only[TV.Bd]at hb;obtain⟨vs,rfl,h⟩:=h;exact⟨vs,rfl,bO.Cq hR h hb⟩
theorem bO.Cq{nb:Nat}{g0:J cU}(hR:Reb G G2 nb g0):∀ {ds:J (TV E)}{vs:J R0},bO E w G ds vs->TV.Fg nb g0 ds->bO E w G2 ds vs
 | [],_,h,_=>by simp only[bO]at h⊢;exact h|d::ds,vs,h,hb=>by simp only[bO]at h⊢;simp only[TV.Fg]at hb;obtain⟨u,us,rfl,h1,h2⟩:=h;exact⟨u,us,rfl,VT.Cq hR h1 hb.1,bO.Cq hR h2 hb.2⟩
end
def gu.Bd(nb:Nat)(g:J cU):gu E->Prop|.cells _ cs=>TV.Fg nb g cs|.loop _ cs=>TV.Fg nb g cs|.mH _ _ _ _ d=>TV.Bd nb g d|_=>True
theorem kN.bd{x:gu E}(h:kN E w G b x):x.Bd G.i.length (G.g.map (·.1)):=by
 cases x with
 | cells t cs=>obtain⟨vs,-,-,h⟩:=h;exact h.bd
 | loop y ds=>obtain⟨Y,fn,tmps,D,-,-,h⟩:=h;exact h.bd
 | mH e cap t xs d=>obtain⟨cur,-,-,-,h,-⟩:=h;exact h.bd
 | _=>trivial
theorem kN.Cq(hR:Reb G G2 nb g0){x:gu E}(h:kN E w G b x)(hb:x.Bd nb g0):kN E w G2 b x:=by
 cases x with
 | cells t cs=>obtain⟨vs,h1,h2,h3⟩:=h;exact⟨vs,h1,h2,bO.Cq hR h3 hb⟩
 | iter s pos=>exact h|map kt vt m=>obtain⟨es,clock,h1,h2,h3⟩:=h;exact⟨es,clock,h1,h2,h3.pr hR.pr⟩
 | loop y ds=>obtain⟨Y,fn,tmps,D,h0,h1,h2⟩:=h;exact⟨Y,fn,tmps,D,h0,h1,bO.Cq hR h2 hb⟩
 | mH e cap t xs d=>obtain⟨cur,h1,h2,h4,h5,h6⟩:=h;exact⟨cur,h1,h2,λi x hx=>(h4 i x hx).uw hR.pr,VT.Cq hR h5 hb,h6⟩
 | gone=>exact h|Ub=>exact h
def DBd(nb:Nat)(g:J cU):J (H4×J (TV E))->Prop|[]=>True|x::xs=>TV.Fg nb g x.2/\DBd nb g xs
theorem lu.bd:∀ {ds:J Deferred}{xs:J (H4×J (TV E))},lu E w G ds xs->DBd G.i.length (G.g.map (·.1)) xs
 | [],[],_=>trivial|_::_,_::_,h=>⟨by rcases h.1 with⟨-,cap,-,h2⟩|⟨-,b,-,h2⟩<;>exact h2.bd,lu.bd h.2⟩
 | [],_::_,h=>h.elim|_::_,[],h=>h.elim
theorem lu.Cq{nb:Nat}{g0:J cU}(hR:Reb G G2 nb g0):∀ {ds:J Deferred}{xs:J (H4×J (TV E))},lu E w G ds xs->DBd nb g0 xs->lu E w G2 ds xs|[],[],_,_=>trivial|_::_,_::_,h,hb=>⟨h.1.imp (λ⟨h0,cap,h1,h2⟩=>⟨h0,cap,h1,bO.Cq hR h2 hb.1⟩) λ⟨h0,b,h1,h2⟩=>⟨h0,b,h1,bO.Cq hR h2 hb.1⟩,lu.Cq hR h.2 hb.2⟩|[],_::_,h,_=>h.elim|_::_,[],h,_=>h.elim
structure Pre(G0:bC)(st:TS E):Prop where
 nb:G0.i.length<=Sx st.H
 rows:∀(j:Nat) x0 h0,G0.g[j]? = iN (x0,h0)->∃x,st.g[j]? = iN x/\x0.aF<=x.aF
 slots:∀(i:Nat) d,st.t[i]? = iN d->d.Bd st.H.length st.g
 boxes:∀(r:Nat) x,st.H[r]? = iN x->x.Bd st.H.length st.g
 defs:DBd st.H.length st.g st.df
variable{b8:TS E}
theorem jc.len{w1 w2:U}{G1:bC}(h:jc w1 G1 w2 G2):G1.i.length<=G2.i.length:=by
 by_cases h0:G1.i.length=0
 .omega
 .have hl:G1.i.length-1<G1.i.length:=om;have:=(fD.1 (h.i _ _ (fT hl))).1;omega
theorem Rel.pre(h:Rel E w0 G0 st a w G):Pre G0 st:=by
 have hl:=h.boxes.len;have hg:=h.boxes.gs;refine⟨by rw[<-hl];exact h.fH.goes.len,λj x0 h0 hj=>?_,λi d hi=>?_,λr x hr=>?_,?_⟩
 .obtain⟨x',h',h1,h2,-⟩:=h.fH.goes.g j x0 h0 hj;grind
 .have:=(h.tmps i d hi).bd;simp_all
 .have hlt:r<G.i.length:=by grind
  have:=(h.boxes.box r _ x (fT hlt) hr).bd;simp_all
 .have:=h.defers.bd;simp_all
theorem IB(W:J Nat):∀(i:Nat)(l:J (TV E)),(oW W i l).length=Sx l|_,[]=>rfl|i,d::ds=>by simp_all[oW,IB]
theorem aai(W:J Nat):∀(i:Nat)(l:J (TV E))(j:Nat)(d:TV E),(oW W i l)[j]? = iN d->d=.any\/((i+j)∉W/\l[j]? = iN d)|_,[],j,d,h=>by simp[oW]at h|i,x::ds,0,d,h=>by simp[oW]at h;grind|i,x::ds,j+1,d,h=>by have:=aai W (i+1) ds j d (by simpa[oW]using h);grind
theorem aaj(hE:E.Ok){G2:bC}{n n2:Rn}(hL:D4 w G n G2 n2)(ha:∀i,VT E w G (st.at i) (a.tmps.getD i H5)):∀(vs:J (Nat×PT))(t:J (TV E))(ls rest:J (Lf E)),S7 n st vs=iN ls ->
  (∀(j:Nat) d,t[j]? = iN d->VT E w G2 d (a.tmps.getD j H5)) ->
  (oe n2 vs t (ls++rest)).2=rest/\(oe n2 vs t (ls++rest)).1.length=t.length/\∀(j:Nat) d,(oe n2 vs t (ls++rest)).1[j]? = iN d->VT E w G2 d (a.tmps.getD j H5)
 | [],t,ls,rest,h,ht=>by cases h;exact⟨rfl,rfl,ht⟩
 | (i,p)::vs,t,ls,rest,h,ht=>by
  simp[S7]at h;split at h<;>try trivial
  rename_i l ls' h1 h2;cases h;obtain⟨e1,e2⟩:=PT.sound hE hL (rest:=ls'++rest) h1 (ha i);simp[oe]
  obtain⟨q1,q2,q3⟩:=aaj hE hL ha vs (t.set i (p.put n2 (l++(ls'++rest))).1) ls' rest h2 (λj d hj=>by
   grind)
  simp_all
theorem BT.adr:∀(t:BT)(x:gu E)(l rest:J (Lf E)),t.get n x=iN l->(t.put n2 (l++rest)).2=rest:=by
 have awE:∀(c:CT)(d:TV E)(l rest:J (Lf E)),c.get n d=iN l->(c.put n2 (l++rest)).2=rest:=by
  intro c d l rest h;unfold CT.get at h;simp only[Bool.cond_eq_ite]at h
  (repeat' split at h)<;>first|trivial|(cases h;rfl)
 have asa:∀(cs:J CT)(ds:J (TV E))(l rest:J (Lf E)),CT.Lg n cs ds=iN l->(CT.qD n2 cs (l++rest)).2=rest:=by
  intro cs
  induction cs with
  | nil=>intro ds l rest h;cases ds<;>cases h;rfl
  | cons c cs ih=>intro ds l rest h;unfold CT.Lg at h;grind[CT.qD,CT.Nz,List.append_assoc]
 intro t x l rest h;unfold BT.get at h;split at h<;>try trivial
 .rename_i ty cs ty' ds;cases hb:dO ty ty'<;>rw[hb]at h<;>simp only[aQ,aI]at h
  .cases h
  exact asa cs ds l rest h
 .split at h<;>cases h;rfl
 .cases h;rfl
 .rename_i y cs y' ds;cases hb:dO y y'<;>rw[hb]at h<;>simp only[aQ,aI]at h
  .cases h
  exact asa cs ds l rest h
theorem IC{n:Rn}{D:J Nat}{nb:Nat}:∀(bs:J (O BT))(r:Nat)(H:J (gu E))(ls rest:J (Lf E)),qd n D nb r bs H=iN ls->qQ bs (ls++rest)=rest
 | [],r,H,ls,rest,h=>by cases h;rfl
 | none::bs,r,x::H,ls,rest,h=>by
  simp only[qd]at h;cases hc:(D.elem r || !(bY r nb))<;>rw[hc]at h<;>simp only[aQ,aI]at h
  .exact IC bs (r+1) H ls rest h
  .cases h
 | some t::bs,r,x::H,ls,rest,h=>by
  simp[qd]at h;split at h<;>try trivial
  rename_i l ls' h1 h2;cases h;simp[qQ];rw[BT.adr t x l (ls'++rest) h1];exact IC bs (r+1) H ls' rest h2
 | none::bs,r,[],ls,rest,h=>by cases h
 | some _::bs,r,[],ls,rest,h=>by cases h
theorem Lh(hE:E.Ok){G2:bC}{n n2:Rn}(hL:D4 w G n G2 n2){D:J Nat}{nb:Nat}:∀(bs:J (O BT))(r:Nat)(H H0:J (gu E))(is:J Nat)(ls rest:J (Lf E)),qd n D nb r bs H=iN ls ->
  (∀(q b:Nat) x,is[q]? = iN b->H[q]? = iN x->kN E w G b x)->(∀(q b:Nat) x,is[q]? = iN b->r+q<nb->r+q∉D->H0[q]? = iN x->kN E w G2 b x)->nb<=r+H0.length ->
  (fy n2 bs H0 (ls++rest)).length=Sx bs/\bs.length<=H.length/\∀(q b:Nat) x,is[q]? = iN b->(fy n2 bs H0 (ls++rest))[q]? = iN x->kN E w G2 b x
 | [],r,H,H0,is,ls,rest,h,hb,h0,hn=>by simp[fy]|none::bs,r,x::H,H0,is,ls,rest,h,hb,h0,hn=>by
  simp only[qd]at h;cases hc:(D.elem r || !(bY r nb))<;>rw[hc]at h<;>simp only[aQ,aI]at h
  .rw[abz]at hc;have hlt:r<nb:=by simpa using hc.2
   obtain⟨y,H0',rfl⟩:∃y H0',H0=y::H0':=by cases H0 with|nil=>simp at hn;omega|cons y H0'=>exact⟨y,H0',rfl⟩
   obtain⟨q1,q2,q3⟩:=Lh hE hL bs (r+1) H H0' is.tail ls rest h (λq b z hq hz=>hb (q+1) b z (by cases is<;>simp_all) (by simpa using hz))
    (λq b z hq h1 h2 hz=>h0 (q+1) b z (by cases is<;>simp_all) om (by grind) (by simpa using hz)) (by simp at hn;omega)
   grind[fy]
  .cases h
 | some t::bs,r,x::H,H0,is,ls,rest,h,hb,h0,hn=>by
  simp[qd]at h;split at h<;>try trivial
  rename_i l ls' h1 h2;cases h;have hkey:∀b,is[0]? = iN b->(t.put n2 (l++(ls'++rest))).2=ls'++rest/\kN E w G2 b (t.put n2 (l++(ls'++rest))).1:=λb hb0=>BT.sound hE hL h1 (hb 0 b x hb0 si);have eU:(t.put n2 (l++(ls'++rest))).2=ls'++rest:=by grind[BT.adr]
  obtain⟨q1,q2,q3⟩:=Lh hE hL bs (r+1) H H0.tail is.tail ls' rest h2 (λq b z hq hz=>hb (q+1) b z (by cases is<;>simp_all) (by simpa using hz))
   (λq b z hq h1 h2 hz=>h0 (q+1) b z (by cases is<;>simp_all) om (by grind) (by cases H0<;>simp_all)) (by grind)
  refine⟨by simp_all[fy,sD,sB],by simpa using q2,λq b z hq hz=>?_⟩;cases q with|zero=>simp_all[fy,sD,List.getElem?_cons_zero,ahq]|succ q=>grind[fy,List.append_assoc,List.getElem?_cons_succ]
 | none::bs,r,[],H0,is,ls,rest,h,hb,h0,hn=>by cases h
 | some _::bs,r,[],H0,is,ls,rest,h,hb,h0,hn=>by cases h
theorem FX{n:Rn}{D:J Nat}{nb:Nat}:∀(bs:J (O BT))(r:Nat)(H:J (gu E))(ls:J (Lf E)),qd n D nb r bs H=iN ls->∀q,q<Sx bs->r+q∉Ff r bs->r+q∉D
 | [],r,H,ls,_,q,hq,_=>by simp at hq|none::bs,r,x::H,ls,h,q,hq,hc=>by
  simp only[qd]at h;cases hb:(D.elem r || !(bY r nb))<;>rw[hb]at h<;>simp only[aQ,aI]at h
  .cases q with
   | zero=>simp_all|succ q=>have:=FX bs (r+1) H ls h q (by simpa using hq) (by rw[show r+1+q=r+(q+1) by omega];exact hc);grind
  .cases h
 | some t::bs,r,x::H,ls,h,q,hq,hc=>by
  simp[qd]at h;split at h<;>try trivial
  rename_i l ls' h1 h2;cases q with
  | zero=>exact(hc (by simp[Ff])).elim|succ q=>have:=FX bs (r+1) H ls' h2 q (by simpa using hq) (by rw[show r+1+q=r+(q+1) by omega];exact λhm=>hc (by simp[Ff,hm]));rw[show r+1+q=r+(q+1) by omega]at this;exact this
 | none::bs,r,[],ls,h,_,_,_=>by cases h
 | some _::bs,r,[],ls,h,_,_,_=>by cases h
variable{D:J Nat}
theorem aak{n r r':Nat}(h:(aT n)[r]? = iN r'):r'=r/\r<n:=by grind
theorem Rel.at(h:Rel E w0 G0 st a w G)(i:Nat):VT E w G (st.at i) (a.tmps.getD i H5):=h.ev (.tmp i)
theorem Rel.cut(hE:E.Ok){c:Cut}{W:J Nat}(hp:Pre G0 b8)(hr:Rel E w0 G0 st a w G)(ht:st.t.length=b8.t.length)(hk:∀i,i∉W->st.t[i]? = b8.t[i]?)
   (hD:st.d=D++b8.d) (hH:∀r,r<b8.H.length->r∉D->st.H[r]? = b8.H[r]?) (hdf:st.df=b8.df) (h:c.leaves b8 st=iN ls) :
  ∃G2,Rel E w0 G0 (c.unpack W b8 ls) a w G2/\D4 w G ⟨aT c.boxes.length,aT c.rows.length,st.g.map (·.aF)⟩ G2 ⟨aT c.boxes.length,aT c.rows.length,(ez c.rows b8.g).map (·.aF)⟩:=by
 unfold Cut.leaves at h;cases hc:(below c.rows.length c.soft&&(iO b8.H.length c.boxes.length&&(iO b8.g.length c.rows.length&&zX c.rows b8.g st.g)))<;>rw[hc]at h<;>simp only[aQ,aI]at h
 .cases h
 simp only[cH]at hc;obtain⟨Dl,xE,hg1,hro⟩:=hc;have xE:=lY xE;have hg1:=lY hg1;rw[hD,akU]at h;split at h<;>try trivial
 rename_i la lb le hla hlb hle;cases h;have hgs:=hr.boxes.gs;rw[<-hgs]at hro;obtain⟨n1,n2,n3,n4⟩:=Kh c.rows b8.g G.g hro
 let G2:bC:=⟨G.i.take c.boxes.length,iB c.rows b8.g G.g,G.pr⟩
 have hlen:=hr.boxes.len;have ab0:∀(j:Nat) y2,(iB c.rows b8.g G.g)[j]? = iN y2->∃y,G.g[j]? = iN y/\y2.2=y.2/\y2.1.e=y.1.e/\y2.1.k=y.1.k/\∀x0,b8.g[j]? = iN x0->y2.1.aF=y.1.aF\/x0.aF<y2.1.aF:=by grind
 have anj:Reb G G2 b8.H.length b8.g:=by
  refine⟨λ_ _ h=>h,λr b hr' hb=>?_,λj x0 x hd hx0 hj=>?_⟩
  .grind
  grind
 have GW:D4 w G ⟨aT c.boxes.length,aT c.rows.length,st.g.map (·.aF)⟩ G2 ⟨aT c.boxes.length,aT c.rows.length,(ez c.rows b8.g).map (·.aF)⟩:=by
  refine⟨λ_ _ h=>h,λr r' b h1 h2=>?_,λj j' v x hd h1 h2 h3=>?_⟩
  .grind
  grind
 have asb:∀(j:Nat) d,(oW W 0 b8.t)[j]? = iN d->VT E w G2 d (a.tmps.getD j H5):=by
  intro j d hj;rcases aai W 0 b8.t j d hj with rfl|⟨hnw,hj'⟩
  .simp only[VT]
  .rw[sC]at hnw;have:=hr.tmps j d (by rw[hk j hnw];exact hj');exact VT.Cq anj this (hp.slots j d hj')
 obtain⟨p1,p2,p3⟩:=aaj hE GW hr.at c.vars (oW W 0 b8.t) la (lb++le) hla asb
 obtain⟨q1,q2,q3⟩:=Lh hE GW c.boxes 0 st.H b8.H G.i lb le hlb (λq b x hq hx=>hr.boxes.box q b x hq hx) (λq b x hq h1 h2 hx=>by
  rw[sC]at h1 h2;have hx':st.H[q]? = iN x:=by rw[hH q h1 h2];exact hx
  exact kN.Cq anj (hr.boxes.box q b x hq hx') (hp.boxes q x hx)) si
 have ev:=hr.fH;have hG0:∀(r b:Nat),(G.i.take c.boxes.length)[r]? = iN b->G.i[r]? = iN b:=λr b hb=>by grind
 have hmem:∀b,b∈G.i.take c.boxes.length->b∈G.i:=λb hb=>MS hb;refine⟨G2,⟨⟨ev.os,ev.tape,ev.output,ev.size,ev.old,⟨ev.goes.pr,ev.goes.cells,λr b hb=>?_,λj x0 hd hj=>?_⟩,ev.pN,λr b h1 h2=>ev.sF r b h1 (hG0 r b h2),λj x hd b hj hb=>?_⟩,?_,?_,?_,?_,λr b hb hd=>?_,hr.pins,?_⟩,GW⟩
 .have hlt:=(fD.1 hb).1;have:=hp.nb;rw[abo,if_pos om];exact ev.goes.i r b hb
 .obtain⟨x',hd',h1,h2,h3⟩:=ev.goes.g j x0 hd hj;obtain⟨xp,hxp,hle⟩:=hp.rows j x0 hd hj;grind
 .obtain⟨y,hy,e1,-⟩:=ab0 j (x,hd) hj;simp only at e1;subst e1;exact ev.iB j y.1 y.2 b hy hb
 .show a.tmps.size=((oe _ c.vars (oW W 0 b8.t) (la++(lb++le))).1).length;rw[p2,IB,<-ht];exact hr.size
 .exact p3
 .show lu E w G2 a.defers b8.df;rw[<-hdf];exact lu.Cq anj hr.defers (by rw[hdf];exact hp.defs)
 .refine⟨?_,n1,λr b x hb hx=>?_,λb hb=>hr.boxes.lt b (hmem b hb),(abD _ _).nodup hr.boxes.nodup,λb o uv=>⟨(hr.boxes.gT b o uv).1,λhm=>(hr.boxes.gT b o uv).2 (hmem b hm)⟩,λj x hd hj=>?_,
   λj j' x hd x' hd' b hj hj' hb hb'=>?_⟩
  .show(G.i.take c.boxes.length).length=(fy _ c.boxes b8.H (oe _ c.vars (oW W 0 b8.t) (la++(lb++le))).2).length;simp_all
  .have hx:(fy _ c.boxes b8.H (oe _ c.vars (oW W 0 b8.t) (la++(lb++le))).2)[r]? = iN x:=hx;grind
  .obtain⟨y,hy,e1,e2,e3,-⟩:=ab0 j (x,hd) hj;subst e1;obtain⟨n,xs,g1,g2,g3⟩:=hr.boxes.grow j y.1 y.2 hy;refine⟨n,xs,by rw[e2,e3];exact g1,λa m h=>by rw[e2];exact g2 a m h,λb hb=>?_⟩;grind
  .obtain⟨y,hy,e1,-⟩:=ab0 j (x,hd) hj;obtain⟨y',hy',e1',-⟩:=ab0 j' (x',hd') hj';subst e1;subst e1';exact hr.boxes.apart j j' y.1 y.2 y'.1 y'.2 b hy hy' hb hb'
 .refine hr.fix r b hb ?_;have hd:r∉Ff 0 c.boxes++b8.d:=hd;rw[kZ,not_or]at hd;rw[hD,kZ,not_or];refine⟨?_,hd.2⟩;have hlt:=(fD.1 hb).1;have:=hp.nb;have:=FX c.boxes 0 st.H lb hlb r om (by simp_all);simp_all
 .intro j c0 hm;have hm:(j,c0)∈oD iN c.soft (qQ c.boxes (oe _ c.vars (oW W 0 b8.t) (la++(lb++le))).2):=hm;rw[p1,IC c.boxes 0 st.H lb le hlb]at hm;obtain⟨q,j',⟨t,ht⟩,e1,e2,e3⟩:=EF (f:=iN) (f2:=iN) (rest:=[]) hle (by rw[FK];exact hm);cases e1;cases e2;have qO:=adq Dl j t ht;obtain⟨x,hd,h1,h2⟩:=hr.gU j c0 e3;obtain⟨y2,hy,f1,f2,f3,-⟩:=n4 j (x,hd) h1 qO;refine⟨y2.1,hd,?_,h2.keep f2 f3 (λ_ _ h=>h) (λ_ _ _ _ h=>h) (λb _=>⟨rfl,λ_ h=>h⟩)⟩;grind
end Go.RT
namespace Go.RT
variable {E : TEnv}
def lz(P:bw)(f:H4)(args:aJ R0)(w:U)(R:Ending->U->Prop):Prop:=match (H3 f args).run P w with|.ok (.enter f' args') w'=>Calls P f' args' w' R|.ok (.value v) w'=>R (.returned v) w'|_=>False
def EG(ok:Bool)(v:R0):Ending:=cond ok (.returned v) (.panicked [{v:=v,recovered:=eK}])
structure ads(E:TEnv) where
 ok:Bool
 d:TV E
 H:List (gu E)
 g:List cU
 D:List Nat
 c:List (Nat×Cn E)
def mI(P:bw)(f:H4)(ds:J (TV E))(H:J (gu E))(gs:J cU)(cs:J (Nat×Cn E))(r:ads E):Prop:=∀(w:U)(G:bC)(args:aJ R0),rj E w G->mX E w G H gs->lS E w G cs->bO E w G ds args.toList->lz P f args w λe w'=>∃v G',e=EG r.ok v/\mj w G w' G'/\mX E w' G' r.H r.g/\lS E w' G' r.c/\VT E w' G' r.d v/\∀(q b:Nat),G.i[q]? = iN b->q∉r.D->w'.heap[b]? = w.heap[b]?
structure Outs where
 res:PT
 boxes:List (Option BT)
 rows:List (Option (TypeId×Nat))
 soft:List (Nat×Ty)
def Outs.tys(o:Outs):J Ty:=o.res.tys++(NA o.boxes++S6 o.soft)
structure dB where
 f:H4
 args:List PT
 boxes:List BT
 rows:List (TypeId×Nat)
 out:Outs
 nq:Option Outs
 soft:List (Nat×Ty)
def akV:J PT->J Ty|[]=>[]|p::ps=>p.tys++akV ps
def akW:J BT->J Ty|[]=>[]|b::bs=>b.tys++akW bs
def dB.tys(s:dB):J Ty:=akV s.args++(akW s.boxes++S6 s.soft)
@[reducible] def OutP (E : TEnv) (o : Outs) : O Outs -> Type
 | none=>dens E o.tys|some q=>dens E o.tys ⊕ dens E q.tys
structure bL(E:TEnv) where
 s:dB
 m:dens E s.tys->Option (OutP E s.out s.nq)
def WN(n:Rn):J PT->J (TV E)->O (J (Lf E))
 | [],[]=>iN []|p::ps,d::ds=>match p.get n d,WN n ps ds with
  | some l,iN ls=>iN (l++ls)|_,_=>iF
 | _,_=>iF
def Cr(n:Rn):J PT->J (Lf E)->J (TV E)×J (Lf E)|[],ls=>([],ls)|p::ps,ls=>((p.put n ls).1::(Cr n ps (p.put n ls).2).1,(Cr n ps (p.put n ls).2).2)
def WR(n:Rn):J BT->J (gu E)->O (J (Lf E))
 | [],[]=>iN []|t::ts,x::xs=>match t.get n x,WR n ts xs with
  | some l,iN ls=>iN (l++ls)|_,_=>iF
 | _,_=>iF
def zY(n:Rn):J BT->J (Lf E)->J (gu E)×J (Lf E)|[],ls=>([],ls)|t::ts,ls=>((t.put n ls).1::(zY n ts (t.put n ls).2).1,(zY n ts (t.put n ls).2).2)
def dB.g0(s:dB):J cU:=s.rows.map λp=>⟨0,p.1,p.2⟩
def dB.n0(s:dB):Rn:=⟨aT s.boxes.length,aT s.rows.length,s.g0.map (·.aF)⟩
def dB.ds(s:dB)(ls:J (Lf E)):J (TV E):=(Cr s.n0 s.args ls).1
def dB.H(s:dB)(ls:J (Lf E)):J (gu E):=(zY s.n0 s.boxes (Cr s.n0 s.args ls).2).1
def dB.c(s:dB)(ls:J (Lf E)):J (Nat×Cn E):=oD iN s.soft (zY s.n0 s.boxes (Cr s.n0 s.args ls).2).2
def Outs.n1(o:Outs)(g:J cU):Rn:=⟨aT o.boxes.length,aT o.rows.length,(ez o.rows g).map (·.aF)⟩
def Outs.nY(o:Outs)(ok:Bool)(H0:J (gu E))(g:J cU)(ls:J (Lf E)):ads E:=⟨ok,(o.res.put (o.n1 g) ls).1,fy (o.n1 g) o.boxes H0 (o.res.put (o.n1 g) ls).2,ez o.rows g,Ff 0 o.boxes,oD iN o.soft (qQ o.boxes (o.res.put (o.n1 g) ls).2)⟩
def lB(s:dB)(H0:J (gu E)):(p:O Outs)->OutP E s.out p->ads E|none,y=>s.out.nY eQ H0 s.g0 (aV s.out.tys y)|some _,.inl y=>s.out.nY eQ H0 s.g0 (aV s.out.tys y)|some q,.inr y=>q.nY eK H0 s.g0 (aV q.tys y)
def bL.Ok(P:bw)(C:bL E):Prop:=∀x y,C.m x=iN y->mI P C.s.f (C.s.ds (aV C.s.tys x)) (C.s.H (aV C.s.tys x)) C.s.g0 (C.s.c (aV C.s.tys x)) (lB C.s (C.s.H (aV C.s.tys x)) C.s.nq y)
structure NB(w:World)(G:bC)(n:Rn)(G2:bC)(n2:Rn):Prop extends D4 w G n G2 n2 where
 lb:n2.b.length<=n.b.length
 lg:n2.g.length<=n.g.length
 lv:n2.v.length<=n.v.length
theorem CT.AR(n n2:Rn)(c:CT)(ls:J (Lf E)):(c.put n ls).2=(c.put n2 ls).2:=by cases c<;>cases ls<;>first|rfl|(rename_i l;cases l<;>rfl)
theorem CT.Bu(n n2:Rn):∀(cs:J CT)(ls:J (Lf E)),(CT.qD n cs ls).2=(CT.qD n2 cs ls).2
 | [],ls=>rfl|c::cs,ls=>by
  unfold CT.qD;split
  .exact CT.Bu n n2 cs _
  .rw[CT.AR n n2 c ls];exact CT.Bu n n2 cs _
theorem PT.AR(n n2:Rn)(p:PT)(ls:J (Lf E)):(p.put n ls).2=(p.put n2 ls).2:=by cases p with|one c=>exact CT.AR n n2 c ls|agg cs=>exact CT.Bu n n2 cs ls|dI cs=>exact CT.Bu n n2 cs ls
theorem BT.AR(n n2:Rn)(t:BT)(ls:J (Lf E)):(t.put n ls).2=(t.put n2 ls).2:=by
 cases t with
 | cells ty cs=>exact CT.Bu n n2 cs ls|loop y cs=>exact CT.Bu n n2 cs ls|map kt vt=>cases ls<;>rfl
 | iter=>cases ls with|nil=>rfl|cons l ls=>cases ls<;>rfl
variable{w:U}{G G2:bC}{n:Rn}{α:Type}{l:J α}{v:R0}{vs:J R0}
section
variable {n2 : Rn}
theorem getElem?_none_of{β:Type}{m:J β}{r:Nat}(h:l[r]? = iF)(hl:m.length<=Sx l):m[r]? = iF:=by grind
theorem aal(hL:NB w G n G2 n2):∀(caps:J (Nat×Nat)){vs:J R0},bO E w G (HT n caps:J (TV E)) vs->bO E w G2 (HT n2 caps:J (TV E)) vs
 | [],vs,h=>by simp_all[HT,bO]|(r,off)::caps,vs,h=>by
  obtain⟨u,us,rfl,h1,h2⟩:=h.cons_inv;refine .cons ?_ (aal hL caps h2);cases hr:n.b[r]? with
  | none=>rw[getElem?_none_of hr hL.lb];simp[VT]|some r'=>rw[hr]at h1;obtain⟨b,rfl,hb⟩:=h1;obtain⟨r2,hr2,mJ⟩:=hL.i r r' b hr hb;rw[hr2];exact⟨b,rfl,mJ⟩
theorem CT.move(hL:NB w G n G2 n2)(c:CT)(ls:J (Lf E))(h:VT E w G (c.put n ls).1 v):VT E w G2 (c.put n2 ls).1 v:=by
 cases c with
 | dat t=>cases ls with
  | nil=>simp[CT.put,VT]|cons l ls=>exact VT.uw h hL.pr
 | any=>simp[CT.put,VT]|pk t=>simp[CT.put,VT]|ptr r off=>
  simp[CT.put]at h⊢;cases hr:n.b[r]? with
  | none=>rw[getElem?_none_of hr hL.lb];simp[VT]|some r'=>rw[hr]at h;obtain⟨b,rfl,hb⟩:=h;obtain⟨r2,hr2,mJ⟩:=hL.i r r' b hr hb;simp_all[VT]
 | rF r off=>
  cases ls with
  | nil=>simp[CT.put,VT]|cons l ls=>
   simp[CT.put]at h⊢;cases hr:n.b[r]? with
   | none=>rw[getElem?_none_of hr hL.lb];simp[VT]|some r'=>
    rw[hr]at h;obtain⟨t,x⟩:=l;cases hn:n2.b[r]? with
    | none=>simp[VT]|some r2'=>
     cases t<;>try (simp[VT];done)
     cases x<;>simp[VT]at h⊢
     .exact h
     .obtain⟨b,rfl,hb⟩:=h;obtain⟨r2,hr2,mJ⟩:=hL.i r r' b hr hb;simp_all
 | jT r=>
  simp[CT.put]at h⊢;cases hr:n.b[r]? with
  | none=>rw[getElem?_none_of hr hL.lb];simp[VT]|some r'=>rw[hr]at h;obtain⟨b,rfl,hb⟩:=h;obtain⟨r2,hr2,mJ⟩:=hL.i r r' b hr hb;simp_all[VT]
 | vV r=>
  simp[CT.put]at h⊢;cases hr:n.b[r]? with
  | none=>rw[getElem?_none_of hr hL.lb];simp[VT]|some r'=>rw[hr]at h;obtain⟨b,rfl,hb⟩:=h;obtain⟨r2,hr2,mJ⟩:=hL.i r r' b hr hb;simp_all[VT]
 | cz j t=>
  cases ls with
  | nil=>simp[CT.put,VT]|cons l ls=>
   simp[CT.put]at h⊢;cases hj:n.g[j]? with
   | none=>rw[getElem?_none_of hj hL.lg];simp[VT]|some j'=>
    cases Fe:n.v[j]? with
    | none=>rw[getElem?_none_of Fe hL.lv];simp_all[VT]|some vv=>
     rw[hj,Fe]at h;obtain⟨t',x⟩:=l;cases t' with
     | bx t'=>obtain⟨Ce,x1,h1,hg,hle,heq⟩:=h;obtain⟨WM,j2,v2,x2,q1,q2,q3,q4⟩:=hL.g j j' vv x1 h1 hj Fe hg;rw[q1,q2];exact⟨Ce.mono hL.pr (λ_ _ _ _ h=>h),x2,h1,q3,om,λ_=>heq WM.symm⟩
     | _=>simp_all[VT]
 | func f caps=>simp[CT.put,VT]at h⊢;grind[aal]|eF j=>
  simp[CT.put]at h⊢;cases hj:n.g[j]? with
  | none=>rw[getElem?_none_of hj hL.lg];simp[VT]|some j'=>
   cases Fe:n.v[j]? with
   | none=>rw[getElem?_none_of Fe hL.lv];simp_all[VT]|some vv=>rw[hj,Fe]at h;obtain⟨x1,h1,hg,hle,h2,heq⟩:=h;obtain⟨WM,j2,v2,x2,q1,q2,q3,q4⟩:=hL.g j j' vv x1 h1 hj Fe hg;grind[VT]
 | iX j k=>
  simp[CT.put]at h⊢;cases hj:n.g[j]? with
  | none=>rw[getElem?_none_of hj hL.lg];simp[VT]|some j'=>
   cases Fe:n.v[j]? with
   | none=>rw[getElem?_none_of Fe hL.lv];simp_all[VT]|some vv=>rw[hj,Fe]at h;obtain⟨x1,h1,hg,hle,h2,heq⟩:=h;obtain⟨WM,j2,v2,x2,q1,q2,q3,q4⟩:=hL.g j j' vv x1 h1 hj Fe hg;grind[VT]
 | vp t=>cases ls with
  | nil=>simp[CT.put,VT]|cons l ls=>
   obtain⟨t',x⟩:=l;cases t' with
   | bx t'=>obtain⟨vs,rfl,h1,h⟩:=h;exact⟨vs,rfl,h1,h.mono hL.pr (λ_ _ _ _ h=>h)⟩
   | _=>simp[CT.put,VT]
 | nil k=>simp_all[CT.put,VT]|lb b=>rw[VT.nE h];exact .bool _ _ _|li k n=>rw[VT.gD h];exact .int _ _ _ _|uk t off=>cases ls with
  | nil=>simp[CT.put,VT]|cons l ls=>obtain⟨b,o,c,rfl,h1,h2⟩:=h;exact⟨b,o,c,rfl,h1.mono hL.pr (λ_ _ _ _ h=>h),λl u hl=>⟨hL.pr _ _ (h2 l u hl).1,(h2 l u hl).2⟩⟩
 | iface ty t=>cases ls with
  | nil=>simp[CT.put,VT]|cons l ls=>obtain⟨u,rfl,h⟩:=h;exact⟨u,rfl,VT.uw h hL.pr⟩
theorem bO.aam{w:U}{G:bC}:∀ {ds es:J (TV E)}{vs:J R0},bO E w G (ds++es) vs->∃us ts,vs=us++ts/\bO E w G ds us/\bO E w G es ts
 | [],_,vs,h=>⟨[],vs,rfl,bO.nil,h⟩|_::_,_,_,h=>by obtain⟨u,us,rfl,h1,h2⟩:=bO.cons_inv h;obtain⟨us',ts,rfl,h3,h4⟩:=bO.aam h2;exact⟨u::us',ts,rfl,.cons h1 h3,h4⟩
theorem aan{f:(i:Nat)->E.D i->O (J (TV E))}(hf:∀i x cs,f i x=iN cs->∀d∈cs,∃t y,d=TV.dat t y):∀(t:Ty)(x:t.den E.D)(cs:J (TV E)),Ch E f t x=iN cs->∀d∈cs,∃t y,d=TV.dat t y:=by
 intro t
 induction t with
 | int k=>intro x cs h d hd;cases h;simp_all
 | bool=>intro x cs h d hd;cases h;simp_all
 | str=>intro x cs h d hd;cases h;simp_all
 | bx t _=>intro x cs h d hd;cases h;simp_all
 | unit=>intro x cs h d hd;cases h;cases hd
 | ext i=>intro x cs h;exact hf i x cs h|pair a b Gi Gj=>
  intro x cs h d hd;simp[Ch]at h;cases e1:Ch E f a x.1 with
  | none=>rw[e1]at h;cases h
  | some l=>dsimp only[Option.bind]at h;grind
theorem aao:∀(n:Nat)(t:Ty)(x:t.den E.D)(cs:J (TV E)),J8 E n t x=iN cs->∀d∈cs,∃t y,d=TV.dat t y
 | 0,t,x,cs,h=>aan (λ_ _ _ h=>by cases h) t x cs h
 | n+1,t,x,cs,h=>aan (λi x cs h=>aao n (E.df i) (E.Cc i x) cs h) t x cs h
theorem agO{w:U}{G G2:bC}(hp:∀b o,G.pr b o->G2.pr b o):∀ {ds:J (TV E)}{vs:J R0},(∀d∈ds,∃t y,d=TV.dat t y)->bO E w G ds vs->bO E w G2 ds vs
 | [],_,_,h=>by simp_all[bO]|d::ds,_,hd,h=>by obtain⟨u,us,rfl,h1,h2⟩:=h.cons_inv;obtain⟨t,y,rfl⟩:=hd d (wK ..);exact .cons (h1.uw hp) (agO hp (λd h=>hd d (nt _ h)) h2)
theorem akX(hp:∀b o,G.pr b o->G2.pr b o)(ls:J (Lf E))(h:bO E w G (CT.Nz ls).1 vs):bO E w G2 (CT.Nz ls).1 vs:=by cases ls with|nil=>simp_all[CT.Nz,bO]|cons l ls=>grind[CT.Nz,J8,bO,agO,aao]
theorem CT.S8(hL:NB w G n G2 n2):∀(cs:J CT)(ls:J (Lf E)){vs:J R0},bO E w G (CT.qD n cs ls).1 vs->bO E w G2 (CT.qD n2 cs ls).1 vs
 | [],ls,vs,h=>by simp_all[CT.qD,bO]|c::cs,ls,vs,h=>by
  unfold CT.qD at h⊢;split at h
  .obtain⟨us,ts,rfl,h1,h2⟩:=h.aam;refine bO.append (akX hL.pr ls h1) ?_;exact CT.S8 hL cs _ h2
  .rename_i ht;obtain⟨u,us,rfl,h1,h2⟩:=h.cons_inv;refine .cons (CT.move hL c ls h1) ?_;rw[CT.AR n2 n];exact CT.S8 hL cs _ h2
theorem PT.move(hL:NB w G n G2 n2)(p:PT)(ls:J (Lf E))(h:VT E w G (p.put n ls).1 v):VT E w G2 (p.put n2 ls).1 v:=by cases p with|one c=>exact CT.move hL c ls h|agg cs=>grind[PT.put,VT,CT.S8]|dI cs=>grind[PT.put,VT,CT.S8]
theorem BT.move(hL:NB w G n G2 n2)(t:BT)(ls:J (Lf E)){b:Nat}(h:kN E w G b (t.put n ls).1):kN E w G2 b (t.put n2 ls).1:=by
 cases t with
 | cells ty cs=>obtain⟨vs,h1,h2,h3⟩:=h;exact⟨vs,h1,h2,CT.S8 hL cs ls h3⟩
 | loop y cs=>obtain⟨Y,fn,tmps,D,h0,h1,h2⟩:=h;exact⟨Y,fn,tmps,D,h0,h1,CT.S8 hL cs ls h2⟩
 | map kt vt=>cases ls with
  | nil=>exact h|cons l ls=>
   obtain⟨t,x⟩:=l;simp[BT.put]at h⊢;split at h
   .rename_i kt' vt' m heq;obtain⟨es,clock,h1,h2,h3⟩:=h;exact⟨es,clock,h1,h2,h3.pr hL.pr⟩
   .exact h
 | iter=>cases ls with
  | nil=>exact h|cons l ls=>cases ls with
   | nil=>exact h|cons l' ls=>simp[BT.put]at h⊢;split at h<;>exact h
end
def xZ:J Nat->Bool|[]=>eQ|x::xs=>!(xs.elem x)&&xZ xs
theorem ya:∀ {l:J Nat},xZ l=eQ->l.Nodup
 | [],_=>zF|x::xs,h=>by simp only[xZ,cH]at h;refine FJ.2 ⟨λhm=>?_,ya h.2⟩;rw[aoR hm]at h;cases h.1
def pick{α:Type}(l:J α):J Nat->O (J α)
 | []=>iN []|i::is=>match l[i]?,pick l is with
  | some x,iN xs=>iN (x::xs)|_,_=>iF
theorem tD{α:Type}{l:J α}:∀ {is:J Nat}{xs:J α},pick l is=iN xs->Sx xs=Sx is/\∀(r i:Nat),is[r]? = iN i->∃x,xs[r]? = iN x/\l[i]? = iN x
 | [],xs,h=>by cases h;simp_all
 | i::is,xs,h=>by
  simp[pick]at h;split at h<;>try trivial
  rename_i x ys h1 h2;cases h;obtain⟨q1,q2⟩:=tD h2;refine⟨by simp[q1],λr k hr=>?_⟩;cases r with|zero=>simp at hr;subst hr;exact⟨x,rfl,h1⟩|succ r=>simpa using q2 r k (by simpa using hr)
theorem YV{α β:Type}{l:J α}{m:J β}(hl:Sx l=m.length):∀ {is:J Nat}{xs:J α},pick l is=iN xs->∃ys,pick m is=iN ys
 | [],xs,h=>⟨[],rfl⟩|i::is,xs,h=>by
  simp[pick]at h;split at h<;>try trivial
  rename_i x ys h1 h2;obtain⟨zs,hz⟩:=YV hl h2;grind[List.getElem?_eq_some_iff,pick,List.getElem?_eq_getElem]
def AU:J (aK×Nat)->J cU->Bool|[],[]=>eQ|p::ps,x::xs=>(dO p.1 x.e&&dO p.2 x.k)&&AU ps xs|_,_=>eK
theorem EH:∀ {ps:J (aK×Nat)}{xs:J cU},AU ps xs=eQ->Sx ps=Sx xs/\∀(j:Nat) p x,ps[j]? = iN p->xs[j]? = iN x->p.1=x.e/\p.2=x.k
 | [],[],_=>⟨rfl,λj p x h=>by simp at h⟩|p::ps,x::xs,h=>by simp only[AU,cH]at h;obtain⟨q1,q2⟩:=EH h.2;refine⟨by simp[q1],λj p' x' hp hx=>?_⟩;cases j with|zero=>simp at hp hx;subst hp;subst hx;exact⟨fm h.1.1,fm h.1.2⟩|succ j=>exact q2 j p' x' (by simpa using hp) (by simpa using hx)
 | [],_::_,h=>by cases h
 | _::_,[],h=>by cases h
def dB.enter(s:dB)(bs gs:J Nat)(st:TS E)(ds:J (TV E)):Option (J (Lf E)):=
 match pick st.H bs,pick st.g gs with
 | some H,iN g=>cond (xZ bs&&(xZ gs&&(dO bs.length s.boxes.length&&AU s.rows g)))
   (match WN ⟨bs,gs,g.map (·.aF)⟩ s.args ds,WR ⟨bs,gs,g.map (·.aF)⟩ s.boxes H,L9 (λq=>gs[q]?) st.c s.soft with|some a,iN b,iN e=>iN (a++(b++e))|_,_,_=>iF) iF
 | _,_=>iF
section
variable {n2 : Rn}
theorem adt(hE:E.Ok)(hL:D4 w G n G2 n2):∀ {ps:J PT}{ds:J (TV E)}{ls rest:J (Lf E)}{vs:J R0},WN n ps ds=iN ls->bO E w G ds vs ->
  (Cr n2 ps (ls++rest)).2=rest/\bO E w G2 (Cr n2 ps (ls++rest)).1 vs
 | [],[],ls,rest,vs,h,hv=>by cases h;simp[bO]at hv;subst hv;exact⟨rfl,bO.nil⟩
 | p::ps,d::ds,ls,rest,vs,h,hv=>by
  simp[WN]at h;split at h<;>try trivial
  rename_i l ls' h1 h2;cases h;obtain⟨u,us,rfl,q1,q2⟩:=hv.cons_inv;obtain⟨e1,e2⟩:=PT.sound hE hL (rest:=ls'++rest) h1 q1;obtain⟨e3,e4⟩:=adt hE hL h2 q2;simp[Cr,e1];exact⟨e3,.cons e2 e4⟩
 | [],_::_,_,_,_,h,_=>by cases h
 | _::_,[],_,_,_,h,_=>by cases h
theorem adu(hE:E.Ok)(hL:D4 w G n G2 n2):∀ {ts:J BT}{xs:J (gu E)}{ls rest:J (Lf E)}{is:J Nat},WR n ts xs=iN ls->Sx is=Sx xs->(∀(q b:Nat) x,is[q]? = iN b->xs[q]? = iN x->kN E w G b x) ->
  (zY n2 ts (ls++rest)).1.length=Sx ts/\(zY n2 ts (ls++rest)).2=rest/\∀(q b:Nat) x,is[q]? = iN b->(zY n2 ts (ls++rest)).1[q]? = iN x->kN E w G2 b x
 | [],[],ls,rest,is,h,_,hv=>by cases h;simp_all[zY]
 | t::ts,x::xs,ls,rest,is,h,hil,hv=>by
  simp[WR]at h;split at h<;>try trivial
  rename_i l ls' h1 h2;cases h;cases is with
  | nil=>simp at hil|cons i is=>obtain⟨e1,e2⟩:=BT.sound hE hL (rest:=ls'++rest) h1 (hv 0 i x si si);obtain⟨e3,e5,e4⟩:=adu hE hL h2 (by simpa using hil) (λq b y hq hy=>hv (q+1) b y (by simpa using hq) (by simpa using hy));simp[zY,e1];refine⟨by simp[e3],e5,λq b y hq hy=>?_⟩;cases q with|zero=>simp at hq hy;subst hq;subst hy;exact e2|succ q=>exact e4 q b y (by simpa using hq) (by simpa using hy)
 | [],_::_,_,_,_,h,_,_=>by cases h
 | _::_,[],_,_,_,h,_,_=>by cases h
end
def bC.eA(G:bC)(is:J Nat)(gs:J (cU×R0)):bC:=⟨is,gs.map λx=>({x.1 with aF:=0},x.2),G.pr⟩
variable{P:bw}{w0 w':U}{G0 G':bC}{st:TS E}{a:Act}{bs gs:J Nat}{ls:J (Lf E)}
theorem Rel.enter(hE:E.Ok)(hr:Rel E w0 G0 st a w G){s:dB}{ds:J (TV E)}(h:s.enter bs gs st ds=iN ls)(hv:bO E w G ds vs):
  ∃is gg,pick G.i bs=iN is/\pick G.g gs=iN gg/\mX E w (G.eA is gg) (s.H ls) s.g0/\lS E w (G.eA is gg) (s.c ls)/\bO E w (G.eA is gg) (s.ds ls) vs:=by
 unfold dB.enter at h;split at h<;>try trivial
 rename_i H g hH hg;cases hc:(xZ bs&&(xZ gs&&(dO bs.length s.boxes.length&&AU s.rows g)))<;>rw[hc]at h<;>simp only[aQ,aI]at h
 .cases h
 simp only[cH]at hc;obtain⟨hn1,hn2,Ir,hrs⟩:=hc;have Ir:=fm Ir;obtain⟨hrl,hrs⟩:=EH hrs;split at h<;>try trivial
 rename_i la lb le hla hlb hle;cases h;have hgs:=hr.boxes.gs;obtain⟨is,hi⟩:=YV hr.boxes.len.symm hH;obtain⟨gg,Ka⟩:=YV (m:=G.g) (by rw[<-hgs];simp) hg;obtain⟨hHl,hHg⟩:=tD hH;obtain⟨ON,avt⟩:=tD hg;obtain⟨hil,hig⟩:=tD hi;obtain⟨asd,ND⟩:=tD Ka;have hgr:∀(j:Nat) x y,gg[j]? = iN x->g[j]? = iN y->x.1=y:=λj x y hx hy=>by
  have hj:j<Sx gs:=by grind
  obtain⟨x',h1,h2⟩:=ND j _ (fT hj);obtain⟨y',h3,h4⟩:=avt j _ (fT hj);grind
 have hg0:(gg.map λx=>({x.1 with aF:=0}:cU))=s.g0:=by unfold dB.g0;apply List.ext_getElem?;grind
 have GW:D4 w G ⟨bs,gs,g.map (·.aF)⟩ (G.eA is gg) s.n0:=by
  refine⟨λ_ _ h=>h,λr r' b h1 h2=>?_,λj j' v x hd h1 h2 h3=>?_⟩
  .obtain⟨b',h3,h4⟩:=hig r r' h1;rw[h2]at h4;cases h4;have hrl:r<s.boxes.length:=by grind
   exact⟨r,by simp[dB.n0,hrl],h3⟩
  .grind[List.getElem?_eq_some_iff,List.getElem?_eq_getElem,dB.n0,bC.eA,dB.g0]
 obtain⟨p1,p2⟩:=adt hE GW hla hv
 obtain⟨q1,q5,q2⟩:=adu hE GW (rest:=le) (is:=is) hlb om (λq b x hq hx=>by
  have qO:q<Sx bs:=by grind
  obtain⟨b',h1,h2⟩:=hig q _ (fT qO);obtain⟨x',h3,h4⟩:=hHg q _ (fT qO);rw[hq]at h1;cases h1;rw[hx]at h3;cases h3;exact hr.boxes.box _ b x h2 h4)
 have hmem:∀b,b∈is->b∈G.i:=λb hb=>by obtain⟨q,hq,rfl⟩:=ko hb;obtain⟨b',h1,h2⟩:=hig q _ (fT om);grind
 have hrow:∀(j:Nat) x hd,((G.eA is gg).g)[j]? = iN (x,hd)->∃j' y,gs[j]? = iN j'/\G.g[j']? = iN (y,hd)/\x={y with aF:=0}:=λj x hd hj=>by
  simp only[bC.eA,MO,Sk]at hj;have hjl:j<Sx gs:=by grind
  obtain⟨x',h4,h5⟩:=ND j _ (fT hjl);grind
 have hnd:=ya hn1;have ase:=ya hn2;refine⟨is,gg,hi,Ka,⟨?_,?_,λr b x hb hx=>?_,λb hb=>hr.boxes.lt b (hmem b hb),?_,λb o hp=>⟨(hr.boxes.gT b o hp).1,λhm=>(hr.boxes.gT b o hp).2 (hmem b hm)⟩,λj x hd hj=>?_,λj j' x hd x' hd' b hj hj' hb hb'=>?_⟩,?_,p2⟩
 .show is.length=(s.H (la++(lb++le))).length;grind[dB.H]
 .grind[bC.eA,List.map_map,Function.comp_def]
 .unfold dB.H at hx;rw[p1]at hx;exact q2 r b x hb hx
 .show is.Nodup;refine VE.2 λp q hp hq hpq he=>?_;obtain⟨b1,h1,h2⟩:=hig p _ (fT om);obtain⟨b2,h3,h4⟩:=hig q _ (fT om);have:b1=b2:=by grind
  subst this;have e1:=fD.1 h2;have e2:=fD.1 h4;have:=(VH hr.boxes.nodup).1 (e1.2.trans e2.2.symm);grind[List.getElem_inj]
 .obtain⟨j',y,h1,h2,rfl⟩:=hrow j x hd hj;obtain⟨n,xs,g1,g2,g3⟩:=hr.boxes.grow j' y hd h2;exact⟨n,xs,g1,g2,λb hb=>⟨(g3 b hb).1,λhm=>(g3 b hb).2.1 (hmem b hm),(g3 b hb).2.2⟩⟩
 .obtain⟨i1,y,h1,h2,rfl⟩:=hrow j x hd hj;obtain⟨i2,y',h3,h4,rfl⟩:=hrow j' x' hd' hj';have:=hr.boxes.apart i1 i2 y hd y' hd' b h2 h4 hb hb';grind[List.getElem?_eq_some_iff,List.getElem_inj]
 .intro q c0 hm;have hm:(q,c0)∈oD iN s.soft (zY s.n0 s.boxes (Cr s.n0 s.args (la++(lb++le))).2).2:=hm;rw[p1,q5]at hm;obtain⟨q',j,-,e1,e2,e3⟩:=EF (rest:=[]) hle (by rw[FK];exact hm);cases e2;obtain⟨x,hd,h1,h2⟩:=hr.gU j c0 e3;obtain⟨x',h4,h5⟩:=ND q j e1;rw[h1]at h5;cases h5;exact⟨{x with aF:=0},hd,by simp[bC.eA,h4],h2.keep rfl rfl (λ_ _ h=>h) (λ_ _ _ _ h=>h) (λb _=>⟨rfl,λ_ h=>h⟩)⟩
def kT{α:Type}:J (Nat×α)->J α->J α|[],l=>l|(i,x)::ps,l=>kT ps (l.set i x)
theorem iy{α:Type}:∀(ps:J (Nat×α))(l:J α),(kT ps l).length=Sx l|[],l=>rfl|(i,x)::ps,l=>by simp[kT,iy ps]
theorem vq{α:Type}:∀(ps:J (Nat×α))(l:J α)(q:Nat),q∉ps.map (·.1)->(kT ps l)[q]? = l[q]?|[],l,q,_=>rfl|(i,x)::ps,l,q,h=>by simp only[jb,gL,not_or]at h;rw[kT,vq ps _ q h.2,MQ (λe=>h.1 e.symm)]
theorem Ki{α:Type}:∀(ps:J (Nat×α))(l:J α)(q:Nat)(x:α),(ps.map (·.1)).Nodup->(q,x)∈ps->q<Sx l->(kT ps l)[q]? = iN x
 | (i,y)::ps,l,q,x,hn,hm,hq=>by
  simp only[jb,FJ]at hn;rcases gL.1 hm with he|hm
  .obtain⟨rfl,rfl⟩:=he;rw[kT,vq ps _ _ hn.1,VA hq]
  .exact Ki ps _ q x hn.2 hm (by simpa using hq)
def rH{α:Type}:J (O BT)->J Nat->J α->J (Nat×α)|some _::os,i::is,x::xs=>(i,x)::rH os is xs|none::os,_::is,_::xs=>rH os is xs|_,_,_=>[]
theorem Cs{α:Type}:∀ {os:J (O BT)}{is:J Nat}{xs:J α}{i:Nat}{x:α},(i,x)∈rH os is xs->∃(r:Nat)(t:BT),os[r]? = iN (iN t)/\is[r]? = iN i/\xs[r]? = iN x
 | some t::os,j::is,y::xs,i,x,h=>by
  rcases gL.1 h with he|h
  .cases he;exact⟨0,t,rfl,rfl,rfl⟩
  .obtain⟨r,t',h1,h2,h3⟩:=Cs h;exact⟨r+1,t',by simpa using h1,by simpa using h2,by simpa using h3⟩
 | none::os,j::is,y::xs,i,x,h=>by obtain⟨r,t',h1,h2,h3⟩:=Cs (xs:=xs) h;exact⟨r+1,t',by simpa using h1,by simpa using h2,by simpa using h3⟩
 | [],_,_,_,_,h=>by cases h
 | some _::_,[],_,_,_,h=>by cases h
 | none::_,[],_,_,_,h=>by cases h
 | some _::_,_::_,[],_,_,h=>by cases h
 | none::_,_::_,[],_,_,h=>by cases h
theorem NF{α:Type}:∀ {os:J (O BT)}{is:J Nat}{xs:J α}(r:Nat){t:BT}{i:Nat}{x:α},os[r]? = iN (iN t)->is[r]? = iN i->xs[r]? = iN x->(i,x)∈rH os is xs
 | o::os,j::is,y::xs,0,t,i,x,h1,h2,h3=>by simp_all[rH]|o::os,j::is,y::xs,r+1,t,i,x,h1,h2,h3=>by have:=NF r (by simpa using h1) (by simpa using h2) (by simpa using h3);cases o<;>simp[rH,this]
 | [],_,_,_,_,_,_,h,_,_=>by simp at h|_::_,[],_,_,_,_,_,_,h,_=>by simp at h|_::_,_::_,[],_,_,_,_,_,_,h=>by simp at h
theorem ID{α:Type}:∀ {os:J (O BT)}{is:J Nat}{xs:J α},is.Nodup->((rH os is xs).map (·.1)).Nodup
 | some t::os,j::is,y::xs,h=>by rw[FJ]at h;simp only[rH,jb,FJ];refine⟨λhm=>?_,ID h.2⟩;obtain⟨p,hp,he⟩:=kq.1 hm;obtain⟨i,x⟩:=p;obtain⟨r,t',-,h2,-⟩:=Cs hp;exact h.1 (by rw[<-show i=j from he];exact jQ h2)
 | none::os,j::is,y::xs,h=>ID (xs:=xs) (FJ.1 h).2|[],_,_,_=>zF|some _::_,[],_,_=>zF|none::_,[],_,_=>zF|some _::_,_::_,[],_=>zF|none::_,_::_,[],_=>zF
theorem S9:∀ {bs:J (O BT)}{r q:Nat},r+q∈Ff r bs->∃t,bs[q]? = iN (iN t)
 | [],_,_,h=>by cases h
 | none::bs,r,q,h=>by
  simp[Ff]at h;cases q with
  | zero=>
   have key:∀(bs:J (O BT))(r x:Nat),x∈Ff r bs->r<=x:=by
    intro bs
    induction bs with
    | nil=>intro r x h;cases h
    | cons o bs ih=>
     intro r x h;cases o with
     | none=>have:=ih (r+1) x h;omega|some t=>rcases List.mem_cons.1 h with rfl|h;exact Nat.le_refl _;grind
   grind
  | succ q=>obtain⟨t,ht⟩:=S9 (bs:=bs) (r:=r+1) (q:=q) (by grind);simp_all
 | some t::bs,r,q,h=>by
  cases q with
  | zero=>exact⟨t,rfl⟩|succ q=>
   rcases gL.1 h with he|h
   .omega
   .obtain⟨t,ht⟩:=S9 (by rw[show r+1+q=r+(q+1) by omega];exact h);exact⟨t,by simpa using ht⟩
def rowAt:O (aK×Nat)->O cU->cU|none,iN x=>x|some p,iN x=>⟨x.aF+1,p.1,p.2⟩|some p,iF=>⟨0,p.1,p.2⟩|none,iF=>⟨0,0,0⟩
theorem oF:∀(rs:J (O (aK×Nat)))(g:J cU),(ez rs g).length=Sx rs|[],_=>rfl|none::rs,_::g=>by simp_all[ez,oF]|some _::rs,_::g=>by simp_all[ez,oF]|some _::rs,[]=>by simp_all[ez,oF]|none::rs,[]=>by simp_all[ez,oF]
theorem EI:∀(rs:J (O (aK×Nat)))(g:J cU)(j:Nat)(o:O (aK×Nat)),rs[j]? = iN o->(ez rs g)[j]? = iN (rowAt o g[j]?)
 | [],_,_,_,h=>by simp at h|r::rs,x::g,0,o,h=>by simp at h;subst h;cases r<;>simp[ez,rowAt]
 | r::rs,[],0,o,h=>by simp at h;subst h;cases r<;>simp[ez,rowAt]
 | r::rs,x::g,j+1,o,h=>by have:=EI rs g j o (by simpa using h);cases r<;>simpa[ez]using this
 | r::rs,[],j+1,o,h=>by have:=EI rs [] j o (by simpa using h);cases r<;>simpa[ez]using this
theorem pP(n:Rn):∀(bs:J (O BT))(H:J (gu E))(ls:J (Lf E)),(fy n bs H ls).length=Sx bs|[],_,_=>rfl|none::bs,H,ls=>by simp_all[fy,pP]|some t::bs,H,ls=>by simp_all[fy,pP]
theorem FY{w:U}{G G2:bC}{n n2:Rn}(hL:NB w G n G2 n2):∀(bs:J (O BT))(H H':J (gu E))(ls:J (Lf E))(r:Nat){t:BT}{b:Nat}{x y:gu E},bs[r]? = iN (iN t) ->
  (fy n bs H ls)[r]? = iN x->(fy n2 bs H' ls)[r]? = iN y->kN E w G b x->kN E w G2 b y
 | [],_,_,_,_,_,_,_,_,h,_,_,_=>by simp at h|none::bs,H,H',ls,r+1,t,b,x,y,h,hx,hy,hb=>FY hL bs H.tail H'.tail ls r (by simpa using h) (by simpa[fy]using hx) (by simpa[fy]using hy) hb|none::bs,H,H',ls,0,t,b,x,y,h,hx,hy,hb=>by simp at h|some t'::bs,H,H',ls,0,t,b,x,y,h,hx,hy,hb=>by grind[fy,BT.move]|some t'::bs,H,H',ls,r+1,t,b,x,y,h,hx,hy,hb=>by simp[fy]at hx hy;rw[BT.AR n2 n]at hy;exact FY hL bs H.tail H'.tail _ r (by simpa using h) hx hy hb
def AV:Nat->J (O BT)->Bool|0,[]=>eQ|0,iN _::bs=>AV 0 bs|0,iF::_=>eK|_+1,[]=>eK|n+1,_::bs=>AV n bs
theorem Li:∀ {n:Nat}{bs:J (O BT)},AV n bs=eQ->n<=Sx bs/\∀r,n<=r->r<Sx bs->∃t,bs[r]? = iN (iN t)
 | 0,[],_=>⟨eE _,λr _ h=>by simp at h⟩|0,iN t::bs,h=>by obtain⟨_,q⟩:=Li (bs:=bs) h;grind
 | 0,iF::_,h=>by cases h
 | _+1,[],h=>by cases h
 | n+1,o::bs,h=>by obtain⟨q1,q2⟩:=Li (n:=n) h;refine⟨by simpa using q1,λr h1 h2=>?_⟩;cases r with|zero=>omega|succ r=>simp_all
def Ma(gs:J Nat):J (Nat×Cn E)->J (Nat×Cn E)|[]=>[]|p::cs=>cond (gs.elem p.1) (Ma gs cs) (p::Ma gs cs)
theorem Ct{gs:J Nat}:∀ {cs:J (Nat×Cn E)}{i:Nat}{c:Cn E},(i,c)∈Ma gs cs->(i,c)∈cs/\i∉gs
 | [],i,c,h=>by cases h
 | p::cs,i,c,h=>by
  simp only[Ma]at h;cases hb:gs.elem p.1<;>rw[hb]at h<;>simp only[aQ,aI]at h
  .rcases gL.1 h with h|h
   .refine⟨by rw[h];simp,λe=>?_⟩;rw[<-h]at hb;rw[aoR e]at hb;cases hb
   .exact⟨nt _ (Ct h).1,(Ct h).2⟩
  .exact⟨nt _ (Ct h).1,(Ct h).2⟩
theorem Cu{f:Nat->O Nat}:∀ {ps:J (Nat×Ty)}{ls:J (Lf E)}{i:Nat}{c:Cn E},(i,c)∈oD f ps ls->∃q,f q=iN i/\(q,c)∈oD iN ps ls
 | [],ls,i,c,h=>by cases ls<;>cases h
 | p::ps,[],i,c,h=>by cases h
 | p::ps,l::ls,i,c,h=>by
  obtain⟨q,t⟩:=p;obtain⟨t',x⟩:=l;simp[oD]at h⊢;cases hf:f q with
  | none=>rw[hf]at h;obtain⟨q',e1,e2⟩:=Cu (by cases t'<;>exact h);refine⟨q',e1,?_⟩;cases t'<;>first|exact e2|simp_all
  | some i'=>
   rw[hf]at h;cases t' with
   | bx t'=>
    rcases gL.1 h with e|h
    .cases e;exact⟨q,hf,wK ..⟩
    .obtain⟨q',e1,e2⟩:=Cu h;exact⟨q',e1,nt _ e2⟩
   | _=>simp_all[Cu]
def Outs.n2(o:Outs)(bs gs:J Nat)(st:TS E):Rn:=⟨bs++List.range' st.H.length (o.boxes.length-Sx bs),gs++List.range' st.g.length (o.rows.length-Sx gs),(ez o.rows ((pick st.g gs).getD [])).map (·.aF)⟩
def Outs.val(o:Outs)(bs gs:J Nat)(st:TS E)(ls:J (Lf E)):TV E:=(o.res.put (o.n2 bs gs st) ls).1
def Outs.hc(o:Outs)(bs gs:J Nat)(st:TS E)(ls:J (Lf E)):J (gu E):=fy (o.n2 bs gs st) o.boxes [] (o.res.put (o.n2 bs gs st) ls).2
def Outs.after(o:Outs)(bs gs:J Nat)(st:TS E)(ls:J (Lf E)):TS E:=
 {st with
  H:=kT (rH o.boxes bs (o.hc bs gs st ls)) st.H++(o.hc bs gs st ls).drop bs.length
  g:=kT (gs.zip (ez o.rows ((pick st.g gs).getD []))) st.g++(ez o.rows ((pick st.g gs).getD [])).drop gs.length
  d:=(rH o.boxes bs (o.hc bs gs st ls)).map (·.1)++st.d
  c:=oD (λq=>(o.n2 bs gs st).g[q]?) o.soft (qQ o.boxes (o.res.put (o.n2 bs gs st) ls).2)++Ma gs st.c}
theorem QI{α:Type}:∀ {l:J Nat}{m:J α},l.Nodup->((l.zip m).map (·.1)).Nodup
 | [],_,_=>zF|_::_,[],_=>zF|x::l,y::m,h=>by rw[FJ]at h;simp only[List.zip_cons_cons,jb,FJ];refine⟨λhm=>h.1 ?_,QI h.2⟩;obtain⟨p,hp,he⟩:=kq.1 hm;rw[<-he];exact(ahM hp).1
theorem Lj{α:Type}:∀ {l:J Nat}{m:J α}(j:Nat){i:Nat}{x:α},l[j]? = iN i->m[j]? = iN x->(i,x)∈l.zip m|y::l,z::m,0,i,x,h1,h2=>by simp_all|y::l,z::m,j+1,i,x,h1,h2=>by have:=Lj j (by simpa using h1) (by simpa using h2);simp[this]|[],_,_,_,_,h,_=>by simp at h|_::_,[],_,_,_,_,h=>by simp at h
variable{is:J Nat}{gg:J (cU×R0)}
theorem Rel.leave(hr:Rel E w0 G0 st a w G)(hi:pick G.i bs=iN is)(hg:pick G.g gs=iN gg)(hn1:bs.Nodup)(hn2:gs.Nodup)(o:Outs)
  (hb:AV bs.length o.boxes=eQ) (ON:Sx gs<=o.rows.length) {H0:J (gu E)}   (hE:mj w (G.eA is gg) w' G')
  (hB:mX E w' G' (fy (o.n1 ((G.eA is gg).g.map (·.1))) o.boxes H0 (o.res.put (o.n1 ((G.eA is gg).g.map (·.1))) ls).2) (ez o.rows ((G.eA is gg).g.map (·.1))))
  (hS:lS E w' G' (oD iN o.soft (qQ o.boxes (o.res.put (o.n1 ((G.eA is gg).g.map (·.1))) ls).2)))
  (hv:VT E w' G' (o.res.put (o.n1 ((G.eA is gg).g.map (·.1))) ls).1 v) (NG:∀(q b:Nat),is[q]? = iN b->q∉Ff 0 o.boxes->w'.heap[b]? = w.heap[b]?) :
  ∃Gn,Rel E w0 G0 (o.after bs gs st ls) a w' Gn/\VT E w' Gn (o.val bs gs st ls) v:=by
 obtain⟨Ir,hsome⟩:=Li hb;obtain⟨hil,hig⟩:=tD hi;obtain⟨asd,ND⟩:=tD hg;have hlen:=hr.boxes.len;have hgs:=hr.boxes.gs;have asf:G.g.length=Sx st.g:=hr.rG;have aub:pick st.g gs=iN (gg.map (·.1)):=by
  have key:∀(l:J Nat)(ys:J (cU×R0)),pick G.g l=iN ys->pick st.g l=iN (ys.map (·.1)):=by
   intro l
   induction l with
   | nil=>intro ys h;cases h;rfl
   | cons i l ih=>grind[pick]
  exact key gs gg hg
 have hpg:(pick st.g gs).getD []=gg.map (·.1):=by rw[aub];rfl
 let g0:J cU:=(G.eA is gg).g.map (·.1)
 have awF:g0.length=Sx gs:=by simp[g0,bC.eA,asd]
 let nc:=ez o.rows g0
 let ng:=ez o.rows (gg.map (·.1))
 have avu:nc.length=o.rows.length:=oF _ _;have ash:ng.length=o.rows.length:=oF _ _;have avv:G'.i.length=o.boxes.length:=by rw[hB.len,pP]
 have asi:G'.g.map (·.1)=nc:=hB.gs;have aiR:G'.g.length=o.rows.length:=by rw[<-avu,<-asi];simp
 have auc:∀(r b:Nat),is[r]? = iN b->G'.i[r]? = iN b:=λr b h=>hE.goes.i r b h
 let qu:J (cU×R0):=ng.zip (G'.g.map (·.2))
 have aud:qu.length=o.rows.length:=by simp[qu,ash,aiR]
 have aiS:qu.map (·.1)=ng:=by simp only[qu];rw[List.map_fst_zip];simp[ash,aiR]
 let Gn:bC:=⟨G.i++G'.i.drop bs.length,kT (gs.zip qu) G.g++qu.drop gs.length,G'.pr⟩
 have hent:∀(j:Nat) y,qu[j]? = iN y->∃ro x' ,o.rows[j]? = iN ro/\G'.g[j]? = iN (x',y.2)/\x'=rowAt ro g0[j]?/\y.1=rowAt ro (gg.map (·.1))[j]?:=by
  intro j y hj;have hjl:j<o.rows.length:=by rw[<-aud];exact(fD.1 hj).1
  have hro:=fT hjl;have h1:=EI o.rows (gg.map (·.1)) j _ hro;have h2:=EI o.rows g0 j _ hro;grind
 have hold:∀(j j':Nat) x h,gs[j]? = iN j'->G.g[j']? = iN (x,h)->gg[j]? = iN (x,h)/\g0[j]? = iN {x with aF:=0}/\(gg.map (·.1))[j]? = iN x:=by intro j j' x h h1 h2;obtain⟨y,h3,h4⟩:=ND j j' h1;rw[h2]at h4;cases h4;refine⟨h3,?_,by simp[h3]⟩;simp[g0,bC.eA,h3]
 have aue:∀(j j':Nat) x h,gs[j]? = iN j'->G.g[j']? = iN (x,h)->∃y,qu[j]? = iN y/\x.aF<=y.1.aF/\(x.aF=y.1.aF->y.2=h):=by
  intro j j' x h h1 h2;have hjl:j<Sx gs:=(fD.1 h1).1;have hjn:j<qu.length:=om;obtain⟨ro,x',q1,q2,q3,q4⟩:=hent j _ (fT hjn);obtain⟨o1,o2,o3⟩:=hold j j' x h h1 h2;rw[o2]at q3;rw[o3]at q4;refine⟨_,fT hjn,?_,λe=>?_⟩
  .rw[q4];cases ro<;>simp[rowAt]
  .rw[q4]at e;cases ro with
   | some p=>simp[rowAt]at e|none=>
    simp only[rowAt]at q3;have hsel:((G.eA is gg).g)[j]? = iN ({x with aF:=0},h):=by simp[bC.eA,o1]
    obtain⟨x2,h3,r1,r2,r3⟩:=hE.goes.g j _ h hsel;rw[q2]at r1;cases r1;exact r3 (by rw[q3])
 have hgn:∀(q:Nat) y,Gn.g[q]? = iN y->(q∉gs/\G.g[q]? = iN y)\/∃j,qu[j]? = iN y/\((gs[j]? = iN q/\q<G.g.length)\/(Sx gs<=j/\q=G.g.length+(j-Sx gs))):=by
  intro q y hq;have hq:(kT (gs.zip qu) G.g++qu.drop gs.length)[q]? = iN y:=hq;by_cases qO:q<G.g.length
  .rw[xo (by rw[iy];exact qO)]at hq;by_cases hm:q∈gs
   .obtain⟨j,hj,rfl⟩:=ko hm;grind[Ki,QI,Lj,List.getElem?_eq_getElem]
   .rw[vq _ _ q (λhmm=>hm (by obtain⟨p,hp,he⟩:=kq.1 hmm;rw[<-he];exact(ahM hp).1))]at hq;exact .inl ⟨hm,hq⟩
  .rw[KX (by rw[iy];omega),iy,M0]at hq;exact .inr ⟨Sx gs+(q-G.g.length),hq,.inr ⟨om,om⟩⟩
 have adv:∀(j q:Nat) y,gs[j]? = iN q->q<G.g.length->qu[j]? = iN y->Gn.g[q]? = iN y:=by intro j q y h1 h2 h3;show(kT (gs.zip qu) G.g++qu.drop gs.length)[q]? = iN y;rw[xo (by rw[iy];exact h2)];exact Ki (gs.zip qu) G.g q y (QI hn2) (Lj j h1 h3) h2
 have agP:∀(q:Nat) y,q∉gs->G.g[q]? = iN y->Gn.g[q]? = iN y:=by intro q y h1 h2;have qO:=(fD.1 h2).1;show(kT (gs.zip qu) G.g++qu.drop gs.length)[q]? = iN y;rw[xo (by rw[iy];exact qO),vq _ _ q (λhmm=>h1 (by obtain⟨p,hp,he⟩:=kq.1 hmm;rw[<-he];exact(ahM hp).1))];exact h2
 have agQ:∀(j:Nat) y,Sx gs<=j->qu[j]? = iN y->Gn.g[G.g.length+(j-Sx gs)]? = iN y:=by intro j y h1 h2;show(kT (gs.zip qu) G.g++qu.drop gs.length)[G.g.length+(j-Sx gs)]? = iN y;rw[KX (by rw[iy];omega),iy,M0];rw[show gs.length+(G.g.length+(j-Sx gs)-G.g.length)=j by omega];exact h2
 have NH:jc w G w' Gn:=by
  refine⟨hE.goes.pr,hE.goes.cells,λr b h=>?_,λq x h hq=>?_⟩
  .show(G.i++G'.i.drop bs.length)[r]? = iN b;rw[xo (fD.1 h).1];exact h
  .by_cases hm:q∈gs
   .obtain⟨j,hj,rfl⟩:=ko hm;obtain⟨y,h1,h2,h3⟩:=aue j _ x h (fT hj) hq;exact⟨y.1,y.2,adv j _ y (fT hj) (fD.1 hq).1 h1,h2,h3⟩
   .exact⟨x,h,agP q _ hm hq,eE _,λ_=>rfl⟩
 have ev:=hr.fH;have adw:∀b,b∈is->b∈G.i:=λb hb=>by obtain⟨q,hq,rfl⟩:=ko hb;obtain⟨b',h1,h2⟩:=hig q _ (fT om);rw[fT hq]at h1;cases h1;exact jQ h2
 have D5:∀b,(G.eA is gg).rows b->∃(j j':Nat)(x:cU)(h:R0),gs[j]? = iN j'/\G.g[j']? = iN (x,h)/\h.ownBlock=iN b:=by
  rintro b ⟨x,h,hm,hbk⟩;obtain⟨j,hj,he⟩:=ko hm;have hj2:j<gg.length:=by simpa[bC.eA]using hj
  obtain⟨y,h1,h2⟩:=ND j _ (fT om);rw[fT hj2]at h1;have h1:=o4 h1;have ZW:gg[j].2=h:=by have:=congrArg Prod.snd he;simpa[bC.eA]using this
  refine⟨j,_,y.1,y.2,fT om,h2,?_⟩;rw[<-h1,ZW];exact hbk
 have Mb:∀(j:Nat) x h b,G.g[j]? = iN (x,h)->h.ownBlock=iN b->b<w.heap.size/\b∉G.i:=λj x h b hj hb=>by obtain⟨n,xs,-,-,q⟩:=hr.boxes.grow j x h hj;exact⟨(q b hb).1,(q b hb).2.1⟩
 have hsame:∀(q b:Nat),G.i[q]? = iN b->q∉bs->w'.heap[b]? = w.heap[b]?:=by
  intro q b hq hnb;refine hE.old b (hr.boxes.lt b (jQ hq)) (λhf=>?_);rcases hf with hf|hf
  .obtain⟨r,hrl,he⟩:=ko hf;have asj:r<Sx bs:=by have:r<Sx is:=hrl;omega
   obtain⟨b',h1,h2⟩:=hig r _ (fT asj);have h1':is[r]? = iN b:=by rw[<-he];exact fT hrl
   rw[h1']at h1;cases h1;have e1:=fD.1 hq;have e2:=fD.1 h2;have:q=bs[r]:=(VH hr.boxes.nodup).1 (e1.2.trans e2.2.symm);exact hnb (by rw[this];exact fW asj)
  .obtain⟨j,j',x,h,-,h2,h3⟩:=D5 b hf;exact(Mb j' x h b h2 h3).2 (jQ hq)
 have aiT:∀(q b:Nat),Gn.i[q]? = iN b->G.i[q]? = iN b\/(G.i.length<=q/\G'.i[Sx bs+(q-G.i.length)]? = iN b/\w.heap.size<=b):=by
  intro q b hq;have hq:(G.i++G'.i.drop bs.length)[q]? = iN b:=hq;by_cases qO:q<G.i.length
  .rw[xo qO]at hq;exact .inl hq
  .rw[KX om,M0]at hq;exact .inr ⟨om,hq,hE.sF _ b (by show is.length<=_;omega) hq⟩
 have ab1:∀b,b∈Gn.i->b∈G.i\/(b∈G'.i/\w.heap.size<=b):=λb hb=>by
  obtain⟨q,hq,he⟩:=ko hb;rcases aiT q b (by rw[<-he];exact fT hq)with h|⟨-,h1,h2⟩
  .exact .inl (jQ h)
  .exact .inr ⟨jQ h1,h2⟩
 have hblk:∀(j:Nat) x h b,G'.g[j]? = iN (x,h)->h.ownBlock=iN b->w.heap.size<=b\/∃(j':Nat)(x0:cU)(h0:R0),gs[j]? = iN j'/\G.g[j']? = iN (x0,h0)/\h0.ownBlock=iN b:=by
  intro j x h b hj hbk;rcases hE.iB j x h b hj hbk with q|⟨x0,h0,q1,q2⟩
  .exact .inl q
  .have Gl:j<gg.length:=by have:=(fD.1 q1).1;simpa[bC.eA]using this
   obtain⟨y,h1,h2⟩:=ND j _ (fT om);grind[List.getElem?_eq_getElem,Option.some.inj,bC.eA]
 have GW:NB w' G' (o.n1 g0) Gn (o.n2 bs gs st):=by
  refine⟨⟨λ_ _ h=>h,λr r' b h1 h2=>?_,λj j' vv x h h1 h2 h3=>?_⟩,?_,?_,?_⟩
  .obtain⟨rfl,hlt⟩:=aak h1;by_cases hrb:r'<Sx bs
   .refine⟨bs[r'],by simp[Outs.n2,xo hrb,hrb],?_⟩;obtain⟨b',q1,q2⟩:=hig r' _ (fT hrb);have:=auc r' b' q1;rw[h2]at this;cases this;show(G.i++G'.i.drop bs.length)[bs[r']]? = iN b;rw[xo (fD.1 q2).1];exact q2
   .refine⟨Sx st.H+(r'-Sx bs),?_,?_⟩
    .simp only[Outs.n2];rw[KX om];rw[ahN om];simp
    .show(G.i++G'.i.drop bs.length)[Sx st.H+(r'-Sx bs)]? = iN b;rw[<-hlen,KX om,M0,show bs.length+(G.i.length+(r'-Sx bs)-G.i.length)=r' by omega];exact h2
  .obtain⟨rfl,hlt⟩:=aak h1;have hjn:j'<qu.length:=om;obtain⟨ro,x',q1,q2,q3,q4⟩:=hent j' _ (fT hjn);rw[h3]at q2;have q2:=o4 q2;simp only[ahr]at q2;have WM:x.aF=vv:=by have h2:(nc.map (·.aF))[j']? = iN vv:=h2;rw[<-asi,xu,MO,h3]at h2;simpa using h2
   refine⟨WM,?_⟩;have sS:((ez o.rows ((pick st.g gs).getD [])).map (·.aF))[j']? = iN qu[j'].1.aF:=by rw[hpg,show ez o.rows (gg.map (·.1))=ng from rfl,<-aiS];simp[hjn]
   by_cases Gl:j'<Sx gs
   .obtain⟨y,r1,r2⟩:=ND j' _ (fT Gl);refine⟨gs[j'],qu[j'].1.aF,qu[j'].1,by simp[Outs.n2,xo Gl,Gl],sS,?_,rfl⟩;rw[adv j' _ _ (fT Gl) (fD.1 r2).1 (fT hjn),q2.2]
   .refine⟨Sx st.g+(j'-Sx gs),qu[j'].1.aF,qu[j'].1,?_,sS,?_,rfl⟩
    .simp only[Outs.n2];rw[KX om,ahN om];simp
    .rw[<-asf,agQ j' _ om (fT hjn),q2.2]
  .simp[Outs.n1,Outs.n2];omega
  .simp[Outs.n1,Outs.n2];omega
  .simp[Outs.n1,Outs.n2,oF]
 have hval:VT E w' Gn (o.val bs gs st ls) v:=PT.move GW o.res ls hv;have eU:(o.res.put (o.n2 bs gs st) ls).2=(o.res.put (o.n1 g0) ls).2:=PT.AR _ _ _ _;have avw:(o.hc bs gs st ls).length=o.boxes.length:=pP _ _ _ _;have awr:∀(r b:Nat) t y,o.boxes[r]? = iN (iN t)->G'.i[r]? = iN b->(o.hc bs gs st ls)[r]? = iN y->kN E w' Gn b y:=by
  intro r b t y h1 h2 h3;have hrl:r<o.boxes.length:=(fD.1 h1).1;have hx:r<(fy (o.n1 g0) o.boxes H0 (o.res.put (o.n1 g0) ls).2).length:=by rw[pP];exact hrl
  have hbx:=hB.box r b _ h2 (fT hx);unfold Outs.hc at h3;rw[eU]at h3;exact FY GW o.boxes H0 [] _ r h1 (fT hx) h3 hbx
 refine⟨Gn,⟨⟨hE.os.trans ev.os,hE.tape.trans ev.tape,hE.output.trans ev.output,jR ev.size hE.size,λb hb hnf=>?_,ev.goes.trans NH,λb oo hb hp=>?_,λq b h1 h2=>?_,λq x h b hq hbk=>?_⟩,hr.size,λj d hj=>(hr.tmps j d hj).mono NH,hr.defers.mono NH,?_,λr b hb hd=>?_,hr.pins,?_⟩,hval⟩
 .refine(hE.old b (kF hb ev.size) (λhf=>?_)).trans (ev.old b hb hnf);rcases hf with hf|hf
  .have hbi:=adw b hf;obtain⟨q,hq,he⟩:=ko hbi;have WT:G.i[q]? = iN b:=by rw[<-he];exact fT hq
   by_cases qO:q<G0.i.length
   .have e1:=ev.goes.i q _ (fT qO);rw[WT]at e1;exact hnf (.inl (by rw[o4 e1];exact fW qO))
   .have:=ev.sF q b om WT;omega
  .obtain⟨j,j',x,h,-,h2,h3⟩:=D5 b hf;rcases ev.iB j' x h b h2 h3 with q|⟨x0,h0,q1,q2⟩
   .omega
   .exact hnf (.inr ⟨x0,h0,jQ q1,q2⟩)
 .rcases hE.pN b oo (kF hb ev.size) hp with q|q
  .exact ev.pN b oo hb q
  .obtain⟨j,j',x,h,-,h2,h3⟩:=D5 b q;rcases ev.iB j' x h b h2 h3 with q|⟨x0,h0,q1,q2⟩
   .omega
   .exact .inr ⟨x0,h0,jQ q1,q2⟩
 .rcases aiT q b h2 with h|⟨-,-,h⟩
  .exact ev.sF q b h1 h
  .exact jR ev.size h
 .rcases hgn q (x,h) hq with⟨-,h1⟩|⟨j,h1,h2⟩
  .exact ev.iB q x h b h1 hbk
  .obtain⟨ro,x',q1,q2,-,-⟩:=hent j _ h1;rcases hblk j x' h b q2 hbk with q|⟨j',x0,h0,q3,q4,q5⟩
   .exact .inl (jR ev.size q)
   .rcases h2 with⟨h2,-⟩|⟨h2,-⟩
    .rw[h2]at q3;cases q3;exact ev.iB q x0 h0 b q4 q5
    .have:=(fD.1 q3).1;omega
 .refine⟨?_,?_,λq b y hq hy=>?_,λb hb=>?_,?_,λb oo hp=>?_,λq x h hq=>?_,λq q' x h x' h' b hq VV xE mJ=>?_⟩
  .show(G.i++G'.i.drop bs.length).length=(kT (rH o.boxes bs (o.hc bs gs st ls)) st.H++(o.hc bs gs st ls).drop bs.length).length;simp only[ov,BL,iy,avw,avv,hlen]
  .show(kT (gs.zip qu) G.g++qu.drop gs.length).map (·.1)=kT (gs.zip (ez o.rows ((pick st.g gs).getD []))) st.g++(ez o.rows ((pick st.g gs).getD [])).drop gs.length;rw[hpg,lZ,List.map_drop,aiS];congr 1;have key:∀(l:J Nat)(m:J (cU×R0))(g:J (cU×R0)),(kT (l.zip m) g).map (·.1)=kT (l.zip (m.map (·.1))) (g.map (·.1)):=by
    intro l
    induction l with
    | nil=>intro m g;rfl|cons i l ih=>intro m g;cases m with|nil=>rfl|cons y m=>simp only[List.zip_cons_cons,jb,kT];rw[ih,abG]
   rw[key,aiS,hgs]
  .have hy:(kT (rH o.boxes bs (o.hc bs gs st ls)) st.H++(o.hc bs gs st ls).drop bs.length)[q]? = iN y:=hy;rcases aiT q b hq with h|⟨h1,h2,h3⟩
   .have qO:q<Sx st.H:=by rw[<-hlen];exact(fD.1 h).1
    rw[xo (by rw[iy];exact qO)]at hy;by_cases hm:q∈bs
    .obtain⟨r,hrl,rfl⟩:=ko hm;obtain⟨b',q1,q2⟩:=hig r _ (fT hrl);rw[h]at q2;cases q2;cases TZ:o.boxes[r]? with
     | none=>rw[List.getElem?_eq_none_iff]at TZ;omega|some ob=>
      cases ob with
      | some t=>grind[Ki,ID,NF,List.getElem?_eq_getElem]|none=>
       rw[vq _ _ _ (λhmm=>by
        obtain⟨p,hp,he⟩:=kq.1 hmm;obtain⟨i,x⟩:=p;obtain⟨r',t',e1,e2,-⟩:=Cs hp;have e2':=fD.1 e2;have:r'=r:=(VH hn1).1 (e2'.2.trans he);subst this;rw[TZ]at e1;cases e1)]at hy
       refine(hr.boxes.box _ b y h hy).mono NH (NG r b q1 (λhc=>?_));rw[<-sC r]at hc;obtain⟨t,ht⟩:=S9 hc;rw[TZ]at ht;cases ht
    .rw[vq _ _ _ (λhmm=>by
      obtain⟨p,hp,he⟩:=kq.1 hmm;obtain⟨i,x⟩:=p;obtain⟨r',t',-,e2,-⟩:=Cs hp;exact hm (by rw[<-show i=q from he];exact jQ e2))]at hy
     exact(hr.boxes.box q b y h hy).mono NH (hsame q b h hm)
   .rw[KX (by rw[iy,<-hlen];omega),iy,M0,<-hlen]at hy;grind
  .rcases ab1 b hb with h|⟨h,-⟩
   .exact kF (hr.boxes.lt b h) hE.size
   .exact hB.lt b h
  .show(G.i++G'.i.drop bs.length).Nodup;refine ahD.2 ⟨hr.boxes.nodup,(List.drop_sublist _ _).nodup hB.nodup,λx hx y hy e=>?_⟩;subst e;obtain⟨q,hq,he⟩:=ko hy;have h1:(G'.i.drop bs.length)[q]? = iN x:=by rw[<-he];exact fT hq
   rw[M0]at h1;have:=hE.sF _ x (by show is.length<=_;omega) h1;have:=hr.boxes.lt x hx;omega
  .refine⟨(hB.gT b oo hp).1,λhm=>?_⟩;rcases ab1 b hm with h|⟨h,-⟩
   .rcases hE.pN b oo (hr.boxes.lt b h) hp with q|q
    .exact(hr.boxes.gT b oo q).2 h
    .obtain⟨j,j',x,hh,-,h2,h3⟩:=D5 b q;exact(Mb j' x hh b h2 h3).2 h
   .exact(hB.gT b oo hp).2 h
  .rcases hgn q (x,h) hq with⟨h0,h1⟩|⟨j,h1,h2⟩
   .obtain⟨n,xs,g1,g2,g3⟩:=hr.boxes.grow q x h h1;have hun:∀b,h.ownBlock=iN b->w'.heap[b]? = w.heap[b]?:=λb hbk=>by
     refine hE.old b (g3 b hbk).1 (λhf=>?_);rcases hf with hf|hf
     .exact(g3 b hbk).2.1 (adw b hf)
     .obtain⟨j,j',x',h',e1,e2,e3⟩:=D5 b hf;have:=hr.boxes.apart q j' x h x' h' b h1 e2 hbk e3;exact h0 (by rw[this];exact jQ e1)
    refine⟨n,xs,⟨g1.1,?_⟩,g2,λb hbk=>?_⟩
    .rcases g1.2 with q2|⟨gb,cap,cur,q2,q3,q4,q5⟩
     .exact .inl q2
     .exact .inr ⟨gb,cap,cur,q2,q3,by rw[hun gb (by rw[q2];rfl)];exact q4,q5⟩
    .obtain⟨k1,k2,k3⟩:=g3 b hbk;refine⟨kF k1 hE.size,λhm=>?_,λoo ho hp=>?_⟩
     .rcases ab1 b hm with h'|⟨-,h'⟩
      .exact k2 h'
      .omega
     .rcases hE.pN b oo k1 hp with q'|q'
      .exact k3 oo ho q'
      .obtain⟨j,j',x',h',e1,e2,e3⟩:=D5 b q';have:=hr.boxes.apart q j' x h x' h' b h1 e2 hbk e3;exact h0 (by rw[this];exact jQ e1)
   .obtain⟨ro,x',q1,q2,q3,q4⟩:=hent j _ h1;obtain⟨n,xs,g1,g2,g3⟩:=hB.grow j x' h q2;have hek:x.e=x'.e/\x.k=x'.k:=by
     have q4:x=rowAt ro (gg.map (·.1))[j]?:=q4;rw[q3,q4];by_cases Gl:j<gg.length
     .have e1:g0[j]? = iN {gg[j].1 with aF:=0}:=by simp[g0,bC.eA,Gl]
      have e2:(gg.map (·.1))[j]? = iN gg[j].1:=by simp[Gl]
      rw[e1,e2];cases ro<;>simp[rowAt]
     .have e1:g0[j]? = iF:=Ss om;have e2:(gg.map (·.1))[j]? = iF:=Ss aM;rw[e1,e2];exact⟨rfl,rfl⟩
    refine⟨n,xs,by rw[hek.1,hek.2];exact g1,λa m h=>by rw[hek.1];exact g2 a m h,λb hbk=>?_⟩;obtain⟨k1,k2,k3⟩:=g3 b hbk;refine⟨k1,λhm=>?_,by rw[hek.2];exact k3⟩;rcases ab1 b hm with h'|⟨h',-⟩
    .rcases hblk j x' h b q2 hbk with q'|⟨j',x0,h0,q5,q6,q7⟩
     .have:=hr.boxes.lt b h';omega
     .exact(Mb j' x0 h0 b q6 q7).2 h'
    .exact k2 h'
  .rcases hgn q (x,h) hq with⟨n0,h1⟩|⟨j,h1,h2⟩<;>rcases hgn q' (x',h') VV with⟨n0',h1'⟩|⟨j',h1',h2'⟩
   .exact hr.boxes.apart q q' x h x' h' b h1 h1' xE mJ
   .exfalso;obtain⟨ro,y,e1,e2,-,-⟩:=hent j' _ h1';rcases hblk j' y h' b e2 mJ with q5|⟨j2,x0,h0,q5,q6,q7⟩
    .have:=(Mb q x h b h1 xE).1;omega
    .have:=hr.boxes.apart q j2 x h x0 h0 b h1 q6 xE q7;exact n0 (by rw[this];exact jQ q5)
   .exfalso;obtain⟨ro,y,e1,e2,-,-⟩:=hent j _ h1;rcases hblk j y h b e2 xE with q5|⟨j2,x0,h0,q5,q6,q7⟩
    .have:=(Mb q' x' h' b h1' mJ).1;omega
    .have:=hr.boxes.apart q' j2 x' h' x0 h0 b h1' q6 mJ q7;exact n0' (by rw[this];exact jQ q5)
   .obtain⟨ro,y,e1,e2,-,-⟩:=hent j _ h1;obtain⟨ro',y',e1',e2',-,-⟩:=hent j' _ h1';have:=hB.apart j j' y h y' h' b e2 e2' xE mJ;subst this;rcases h2 with⟨h2,-⟩|⟨h2,h3⟩<;>rcases h2' with⟨h2',-⟩|⟨h2',h3'⟩
    .rw[h2]at h2';exact o4 h2'
    .have:=(fD.1 h2).1;omega
    .have:=(fD.1 h2').1;omega
    .omega
 .have hd:r∉(rH o.boxes bs (o.hc bs gs st ls)).map (·.1)++st.d:=hd;rw[kZ,not_or]at hd;have hgi:=ev.goes.i r b hb;refine Eq.trans ?_ (hr.fix r b hb hd.2);by_cases hm:r∈bs
  .obtain⟨q,qO,rfl⟩:=ko hm;obtain⟨b',q1,q2⟩:=hig q _ (fT qO);rw[hgi]at q2;cases q2;refine NG q b q1 (λhc=>hd.1 ?_);rw[<-sC q]at hc;obtain⟨t,ht⟩:=S9 hc;have hrc:q<(o.hc bs gs st ls).length:=om;exact kq.2 ⟨_,NF q ht (fT qO) (fT hrc),rfl⟩
  .exact hsame r b hgi hm
 .intro i c0 hm;have hm:(i,c0)∈oD (λq=>(o.n2 bs gs st).g[q]?) o.soft (qQ o.boxes (o.res.put (o.n2 bs gs st) ls).2)++Ma gs st.c:=hm;rcases kZ.1 hm with hm|hm
  .rw[eU]at hm;obtain⟨q,e1,e2⟩:=Cu hm;obtain⟨x',hd,h1,h2⟩:=hS q c0 e2;have qO:q<o.rows.length:=by rw[<-aiR];exact(fD.1 h1).1
   have hqn:q<qu.length:=om;obtain⟨ro,x1,q1,q2,q3,q4⟩:=hent q _ (fT hqn);rw[h1]at q2;have q2:=o4 q2;simp only[ahr]at q2;obtain⟨q2a,q2b⟩:=q2;have hek:qu[q].1.e=x'.e/\qu[q].1.k=x'.k:=by
    rw[q2a,q3,q4];by_cases Gl:q<gg.length
    .have e1:g0[q]? = iN {gg[q].1 with aF:=0}:=by simp[g0,bC.eA,Gl]
     have e2:(gg.map (·.1))[q]? = iN gg[q].1:=by simp[Gl]
     rw[e1,e2];cases ro<;>simp[rowAt]
    .have e1:g0[q]? = iF:=Ss om;have e2:(gg.map (·.1))[q]? = iF:=Ss aM;rw[e1,e2];exact⟨rfl,rfl⟩
   refine⟨qu[q].1,hd,?_,h2.keep hek.1 hek.2 (λ_ _ h=>h) (λ_ _ _ _ h=>h) (λb _=>⟨rfl,λ_ h=>h⟩)⟩;by_cases Gl:q<Sx gs
   .obtain⟨y,r1,r2⟩:=ND q _ (fT Gl);have:i=gs[q]:=by simp only[Outs.n2]at e1;rw[xo Gl,fT Gl]at e1;exact(o4 e1).symm
    rw[this,adv q _ _ (fT Gl) (fD.1 r2).1 (fT hqn),q2b]
   .have:i=Sx st.g+(q-Sx gs):=by simp only[Outs.n2]at e1;rw[KX om,ahN om]at e1;have:=o4 e1;omega
    rw[this,<-asf,agQ q _ om (fT hqn),q2b]
  .obtain⟨hmc,hng⟩:=Ct hm;obtain⟨x,hd,h1,h2⟩:=hr.gU i c0 hmc;obtain⟨n,xs,g1,g2,g3⟩:=hr.boxes.grow i x hd h1;have hun:∀b,hd.ownBlock=iN b->¬ (G.eA is gg).FQ b:=λb hbk hf=>by
    rcases hf with hf|hf
    .exact(g3 b hbk).2.1 (adw b hf)
    .obtain⟨j,j',x',h',e1,e2,e3⟩:=D5 b hf;have:=hr.boxes.apart i j' x hd x' h' b h1 e2 hbk e3;exact hng (by rw[this];exact jQ e1)
   refine⟨x,hd,?_,h2.keep rfl rfl NH.pr NH.cells (λb hbk=>⟨hE.old b (g3 b hbk).1 (hun b hbk),λoo hp=>?_⟩)⟩
   .exact agP i _ hng h1
   .rcases hE.pN b oo (g3 b hbk).1 hp with q'|q'
    .exact q'
    .exact(hun b hbk (.inr q')).elim
def wZ(c:CT)(d:TV E)(st:TS E):TV E×TS E:=match c,d with
 | .dat _,.eF j aF=>match st.g[j]?,qc st.c j with
  | some g,iN c=>cond (dO g.aF aF) (.dat (.bx c.1) c.2,{st with c:=oV j st.c}) (.eF j aF,st)
  | _,_=>(.eF j aF,st)
 | _,d=>(d,st)
def GX:J CT->J (TV E)->TS E->J (TV E)×TS E|c::cs,d::ds,st=>((wZ c d st).1::(GX cs ds (wZ c d st).2).1,(GX cs ds (wZ c d st).2).2)|_,ds,st=>(ds,st)
def GY(p:PT)(d:TV E)(st:TS E):TV E×TS E:=match p,d with|.one c,d=>wZ c d st|.dI cs,.tuple ds=>(.tuple (GX cs ds st).1,(GX cs ds st).2)|_,d=>(d,st)
def zZ:J PT->J (TV E)->TS E->J (TV E)×TS E|p::ps,d::ds,st=>((GY p d st).1::(zZ ps ds (GY p d st).2).1,(zZ ps ds (GY p d st).2).2)|_,ds,st=>(ds,st)
def qE(st st':TS E):Prop:=∃c',st'={st with c:=c'}
theorem qE.refl(st:TS E):qE st st:=⟨st.c,rfl⟩
variable{s1:TS E}
theorem qE.trans{s2 s3:TS E}(h1:qE s1 s2)(h2:qE s2 s3):qE s1 s3:=by obtain⟨c1,rfl⟩:=h1;obtain⟨c2,rfl⟩:=h2;exact⟨c2,rfl⟩
theorem U2(c:CT)(d:TV E)(hr:Rel E w0 G0 st a w G):qE st (wZ c d st).2/\∃G',Rel E w0 G0 (wZ c d st).2 a w G'/\jc w G w G'/\∀v,VT E w G d v->VT E w G' (wZ c d st).1 v:=by
 have yb:qE st st/\∃G',Rel E w0 G0 st a w G'/\jc w G w G'/\∀v,VT E w G d v->VT E w G' d v:=⟨qE.refl st,G,hr,jc.refl w G,λ_ h=>h⟩;unfold wZ;split
 .rename_i t j aF;split
  .rename_i g c hg hc;cases hb:dO g.aF aF
   .exact yb
   .obtain rfl:=fm hb;obtain⟨G',hR,vT,h1⟩:=hr.ar5 hg hc;exact⟨⟨_,rfl⟩,G',hR,vT,h1⟩
  .exact yb
 .exact yb
theorem adx:∀(cs:J CT)(ds:J (TV E)){st:TS E}{G:bC},Rel E w0 G0 st a w G->qE st (GX cs ds st).2/\∃G',Rel E w0 G0 (GX cs ds st).2 a w G'/\jc w G w G'/\∀vs,bO E w G ds vs->bO E w G' (GX cs ds st).1 vs
 | [],ds,st,G,hr=>by grind[GX,qE.refl,jc.refl]|c::cs,[],st,G,hr=>by grind[GX,qE.refl,jc.refl]|c::cs,d::ds,st,G,hr=>by obtain⟨o1,G1,fC,g1,v1⟩:=U2 c d hr;obtain⟨o2,G2,hr2,g2,v2⟩:=adx cs ds fC;refine⟨o1.trans o2,G2,hr2,g1.trans g2,λvs hv=>?_⟩;obtain⟨u,us,rfl,h1,h2⟩:=hv.cons_inv;exact .cons ((v1 u h1).mono g2) (v2 us (h2.mono g1))
theorem ady(p:PT)(d:TV E)(hr:Rel E w0 G0 st a w G):qE st (GY p d st).2/\∃G',Rel E w0 G0 (GY p d st).2 a w G'/\jc w G w G'/\∀v,VT E w G d v->VT E w G' (GY p d st).1 v:=by unfold GY;grind[U2,adx,VT,qE.refl,jc.refl]
theorem QJ:∀(ps:J PT)(ds:J (TV E)){st:TS E}{G:bC},Rel E w0 G0 st a w G->qE st (zZ ps ds st).2/\∃G',Rel E w0 G0 (zZ ps ds st).2 a w G'/\jc w G w G'/\∀vs,bO E w G ds vs->bO E w G' (zZ ps ds st).1 vs
 | [],ds,st,G,hr=>by grind[zZ,qE.refl,jc.refl]|c::cs,[],st,G,hr=>by grind[zZ,qE.refl,jc.refl]|c::cs,d::ds,st,G,hr=>by obtain⟨o1,G1,fC,g1,v1⟩:=ady c d hr;obtain⟨o2,G2,hr2,g2,v2⟩:=QJ cs ds fC;refine⟨o1.trans o2,G2,hr2,g1.trans g2,λvs hv=>?_⟩;obtain⟨u,us,rfl,h1,h2⟩:=hv.cons_inv;exact .cons ((v1 u h1).mono g2) (v2 us (h2.mono g1))
theorem Rel.akY(h:Rel E w0 G0 st a w G){i:Nat}(hi:st.t[i]? = iN (.val (.slice iF 0 0)))(e:aK)(T:Ty)(hT:0<T.size E):
  ∃G',Rel E w0 G0 {st with t:=st.t.set i (.eF st.g.length 0),g:=st.g++[⟨0,e,T.size E⟩],c:=(Sx st.g,⟨T,[]⟩)::st.c} a w G':=by
 have hN:=h.L8 e (T.size E);have hl:=h.rG;have lI:(G.g++[(⟨0,e,T.size E⟩,Value.slice iF 0 0)])[Sx st.g]? = iN (⟨0,e,T.size E⟩,.slice iF 0 0):=by rw[<-hl];simp
 have hC:=hN.YU (c:=⟨T,[]⟩) ⟨_,_,lI,rfl,hT,⟨[],⟨si,.inl ⟨rfl,rfl⟩⟩,Flat.nil⟩,λb hb=>by cases hb⟩;refine⟨_,hC.fH,by simpa using hC.size,λj d hj=>?_,hC.defers,hC.boxes,hC.fix,hC.pins,hC.gU⟩;simp[SB]at hj;by_cases hij:i=j
 .subst hij;have hlt:=(fD.1 hi).1;simp[hlt]at hj;subst hj;have hv:=h.tmps i _ hi;rw[hv];exact⟨_,_,lI,eE _,rfl,λ_=>rfl⟩
 .rw[if_neg hij]at hj;exact hN.tmps j d hj
theorem Rel.aiU(h:Rel E w0 G0 st a w G){r c:Nat}{t:aK}{cs:J (TV E)}(hr:st.H[r]? = iN (.cells t cs))(hc:cs[c]? = iN (.val (.slice iF 0 0)))(e:aK)(T:Ty)(hT:0<T.size E):
  ∃G',Rel E w0 G0 {st with H:=st.H.set r (.cells t (cs.set c (.eF st.g.length 0))),g:=st.g++[⟨0,e,T.size E⟩],d:=r::st.d,c:=(Sx st.g,⟨T,[]⟩)::st.c} a w G':=by
 have hN:=h.L8 e (T.size E);have hl:=h.rG;have lI:(G.g++[(⟨0,e,T.size E⟩,Value.slice iF 0 0)])[Sx st.g]? = iN (⟨0,e,T.size E⟩,.slice iF 0 0):=by rw[<-hl];simp
 have hC:=hN.YU (c:=⟨T,[]⟩) ⟨_,_,lI,rfl,hT,⟨[],⟨si,.inl ⟨rfl,rfl⟩⟩,Flat.nil⟩,λb hb=>by cases hb⟩;have hlr:r<G.i.length:=by rw[h.boxes.len];grind
 have hat:=fT hlr;have hS:=hC.zU hat rfl rfl rfl rfl (λ_ _=>rfl) (x:=.cells t (cs.set c (.eF st.g.length 0))) (λ_=>?_)
 .exact⟨_,hS⟩
 .obtain⟨vs,h1,h2,h3⟩:=hC.boxes.box r _ _ hat hr;refine⟨vs,h1,h2,?_⟩;obtain⟨u,hu,hv⟩:=h3.get c hc;subst hv;have key:∀(G1:bC)(cs:J (TV E))(vs:J R0)(c:Nat)(d:TV E),bO E w G1 cs vs->vs[c]? = iN (.slice iF 0 0) ->
    VT E w G1 d (.slice iF 0 0)->bO E w G1 (cs.set c d) vs:=by
   intro G1 cs
   induction cs with
   | nil=>simp_all|cons x cs ih=>intro vs c d h1 h2 h3;obtain⟨u,us,rfl,q1,q2⟩:=h1.cons_inv;cases c with|zero=>simp at h2;subst h2;exact .cons h3 q2|succ c=>exact .cons q1 (ih us c d q2 (by simpa using h2) h3)
  refine key _ cs vs.toList c _ h3 hu ?_;simp[VT];grind
structure Fr(W:List Nat)(nd:Bool)(st st':TS E):Prop where
 len:st'.t.length=st.t.length
 keep:∀i,i∉W->st'.t[i]? = st.t[i]?
 d:∃D,st'.d=D++st.d/\∀r,r<Sx st.H->r∉D->st'.H[r]? = st.H[r]?
 hl:Sx st.H<=st'.H.length
 df:nd=eQ->st'.df=st.df
theorem Fr.refl(W:J Nat)(nd:Bool)(st:TS E):Fr W nd st st:=⟨rfl,λ_ _=>rfl,⟨[],rfl,λ_ _ _=>rfl⟩,eE _,λ_=>rfl⟩
variable{W:J Nat}
theorem Fr.trans{W1 W2:J Nat}{n1 n2 n:Bool}{s2 s3:TS E}(h1:Fr W1 n1 s1 s2)(h2:Fr W2 n2 s2 s3)(hw1:∀i,i∈W1->i∈W)(xQ:∀i,i∈W2->i∈W)(hn:n=eQ->n1=eQ/\n2=eQ):Fr W n s1 s3:=by obtain⟨D1,d1,e1⟩:=h1.d;obtain⟨D2,d2,e2⟩:=h2.d;refine⟨h2.len.trans h1.len,λi hi=>(h2.keep i (λh=>hi (xQ i h))).trans (h1.keep i (λh=>hi (hw1 i h))),⟨D2++D1,by simp_all,λr hr hd=>?_⟩,jR h1.hl h2.hl,λh=>(h2.df (hn h).2).trans (h1.df (hn h).1)⟩;grind
def Fr.wide{W':J Nat}{n n':Bool}{s s':TS E}(h:Fr W n s s')(hw:∀i,i∈W->i∈W')(hn:n'=eQ->n=eQ):Fr W' n' s s':=⟨h.len,λi hi=>h.keep i (λhm=>hi (hw i hm)),h.d,h.hl,λh'=>h.df (hn h')⟩
def jd:O Nat->J Nat|some i=>[i]|none=>[]
theorem NI(l:J (TV E))(dst:O Nat)(d:TV E):(cE l dst d).length=Sx l:=by cases dst<;>simp[cE]
theorem Kj(l:J (TV E))(dst:O Nat)(d:TV E)(i:Nat)(h:i∉jd dst):(cE l dst d)[i]? = l[i]?:=by cases dst with|none=>rfl|some j=>grind[jd,List.mem_singleton,cE,List.getElem?_set_ne]
theorem Fr.put(st:TS E)(dst:O Nat)(d:TV E):Fr (jd dst) eQ st {st with t:=cE st.t dst d}:=⟨NI _ _ _,λi hi=>Kj _ _ _ _ hi,⟨[],rfl,λ_ _ _=>rfl⟩,eE _,λ_=>rfl⟩
def Fr.ank(st:TS E)(dst:O Nat)(d:TV E)(H:J (gu E))(g:J cU)(D:J Nat)(c:J (Nat×Cn E))(hH:∀r,r<Sx st.H->r∉D->H[r]? = st.H[r]?)(hl:Sx st.H<=H.length):
  Fr (jd dst) eQ st {st with t:=cE st.t dst d,H:=H,g:=g,d:=D++st.d,c:=c}:=
 ⟨NI _ _ _,λi hi=>Kj _ _ _ _ hi,⟨D,rfl,hH⟩,hl,λ_=>rfl⟩
def Fr.mem(st:TS E)(dst:O Nat)(d:TV E)(H:J (gu E))(g:J cU)(D:J Nat)(hH:∀r,r<Sx st.H->r∉D->H[r]? = st.H[r]?)(hl:Sx st.H<=H.length):
  Fr (jd dst) eQ st {st with t:=cE st.t dst d,H:=H,g:=g,d:=D++st.d}:=
 ⟨NI _ _ _,λi hi=>Kj _ _ _ _ hi,⟨D,rfl,hH⟩,hl,λ_=>rfl⟩
theorem NJ(l m:J α):∀r,r<Sx l->r∉([]:J Nat)->(l++m)[r]? = l[r]?:=λr hr _=>by grind
theorem D6(l:J α)(q:Nat)(x:α):∀r,r<Sx l->r∉[q]->(l.set q x)[r]? = l[r]?:=λr _ hd=>by grind
variable{ty:aK->O Ty}{st':TS E}{dst:O Nat}{op:Op}
theorem anl{c:Bool}(h:WI P ty st dst op=iN (c,st')):Fr (jd dst) eQ st st':=by
 cases op<;>simp[WI]at h<;>try trivial
 case alloc t=>split at h<;>cases h;exact Fr.mem st dst _ _ st.g [] (NJ _ _) si
 case box t x=>split at h<;>cases h;exact Fr.mem st dst _ _ st.g [] (NJ _ _) si
 case store t x y=>
  split at h<;>try trivial
  split at h<;>cases h;exact Fr.mem st dst _ _ st.g [_] (D6 _ _ _) si
 case buildSlice t len parts=>
  split at h<;>try trivial
  split at h<;>try trivial
  split at h<;>try trivial
  cases hl:dO len 0<;>rw[hl]at h<;>simp only[aQ,aI]at h
  .cases h;exact Fr.mem st dst _ st.H _ [] (λ_ _ _=>rfl) (eE _)
  .generalize E.zc _=z at h;cases z<;>simp only[aQ,aI]at h<;>cases h
   .exact Fr.mem st dst _ st.H st.g [] (λ_ _ _=>rfl) (eE _)
   .exact Fr.mem st dst _ st.H _ [] (λ_ _ _=>rfl) (eE _)
 case call c'=>
  unfold aiB at h;split at h<;>try trivial
  .split at h<;>try trivial
   split at h<;>try trivial
   split at h<;>try trivial
   split at h<;>try trivial
   .split at h<;>try trivial
    split at h<;>cases h;exact Fr.mem st dst _ st.H _ [] (λ_ _ _=>rfl) (eE _)
   .cases h;exact Fr.mem st dst _ st.H _ [] (λ_ _ _=>rfl) (eE _)
  .split at h<;>try trivial
   split at h<;>cases h;exact Fr.mem st dst _ st.H _ [] (λ_ _ _=>rfl) (eE _)
 case convert src dt x=>grind[Fr.put]
 case makeMap t res=>
  cases res with
  | some x=>simp at h|none=>
   simp only at h;split at h<;>try trivial
   split at h<;>cases h;exact Fr.mem st dst _ _ st.g [] (NJ _ _) si
 case mapUpdate t x y z=>
  split at h<;>try trivial
  split at h<;>try trivial
  split at h<;>cases h;exact Fr.mem st dst _ _ st.g [_] (D6 _ _ _) si
 grind[Fr.put]
theorem Fr.c(st:TS E)(dst:O Nat)(d:TV E)(g:J cU)(c:J (Nat×Cn E)):Fr (jd dst) eQ st {st with t:=cE st.t dst d,g:=g,c:=c}:=Fr.ank st dst d st.H g [] c (λ_ _ _=>rfl) (eE _)
theorem aqa{c:Bool}(h:D3 P ty st dst op=iN (c,st')):Fr (jd dst) eQ st st':=by
 cases op<;>try trivial
 case load t x=>grind[D3,Fr.put]
 case store t x y=>
  simp[D3]at h;split at h<;>try trivial
  grind[Fr.c]
 case makeSlice t x y=>grind[D3,Fr.c]
 case slice t x lo hi mx=>
  cases lo with
  | some _=>cases h
  | none=>
  cases hi with
  | none=>cases h
  | some hi=>
  cases mx with
  | some _=>cases h
  | none=>
  grind[D3,Fr.c]
 case call cl=>
  simp[D3]at h;unfold aiG at h;split at h<;>try trivial
  .split at h<;>try trivial
   grind[Fr.c]
theorem aqb{c:Bool}(h:adl P ty st dst op=iN (c,st')):Fr (jd dst) eQ st st':=by
 cases op<;>simp[adl]at h<;>try trivial
 case alloc t=>grind[Fr.c]
 case box t x=>grind[Fr.c]
 case load t x=>grind[Fr.put]
theorem aqc{c:Bool}(h:adj P ty st dst op=iN (c,st')):Fr (jd dst) eQ st st':=by
 cases op<;>simp[adj]at h<;>try trivial
 cases hb:aiD ty dst<;>rw[hb]at h<;>simp only[aQ,aI]at h
 .cases h
 split at h<;>try trivial
 split at h<;>try trivial
 split at h<;>try trivial
 cases h;exact Fr.ank st dst _ st.H _ [] _ (λ_ _ _=>rfl) (eE _)
theorem aqd{c:Bool}(h:adm P ty st dst op=iN (c,st')):Fr (jd dst) eQ st st':=by
 unfold adm at h;split at h
 .grind[aqc]
 split at h
 rotate_left
 .cases op<;>simp[aiO]at h<;>try trivial
  split at h<;>try trivial
  split at h<;>cases h;exact Fr.mem st dst _ _ st.g [_] (D6 _ _ _) si
 grind[aiK,aqb,abW,anl,aqa]
theorem Fr.ofC{n:Bool}{s s':TS E}(hc:qE s s1)(h:Fr W n s1 s'):Fr W n s s':=by obtain⟨c,rfl⟩:=hc;exact⟨h.len,h.keep,h.d,h.hl,h.df⟩
structure Sl where
 b:List (Option Nat)
 g:List (Option Nat)
def Sl.YW(s:Sl)(r r':Nat):Sl:={s with b:=s.b.set r (iN r')}
def Sl.anm(s:Sl)(r r':Nat):Sl:={s with g:=s.g.set r (iN r')}
def adz(s:Sl):J (Nat×Nat)->J (TV E)->Sl|(r,_)::cs,.ptr r' _::ds=>adz (s.YW r r') cs ds|_::cs,_::ds=>adz s cs ds|_,_=>s
def CT.un(s:Sl):CT->TV E->Sl|.ptr r _,.ptr r' _=>s.YW r r'|.rF r _,.ptr r' _=>s.YW r r'|.rF r _,.rF _ r' _=>s.YW r r'|.jT r,.jT r'=>s.YW r r'|.vV r,.vV r'=>s.YW r r'|.cz j _,.cz j' _ _ _=>s.anm j j'|.eF j,.eF j' _=>s.anm j j'|.iX j _,.iX j' _ _ _ _=>s.anm j j'|.func _ caps,.func _ cs=>adz s caps cs|_,_=>s
def CT.unL(s:Sl):J CT->J (TV E)->Sl
 | c::cs,ds=>match c.pk? with
  | some t=>CT.unL s cs (ds.drop (t.size E))|none=>match ds with
   | d::ds=>CT.unL (c.un s d) cs ds|[]=>s
 | _,_=>s
def PT.un(s:Sl):PT->TV E->Sl|.one c,d=>c.un s d|.agg cs,.agg ds=>CT.unL s cs ds|.dI cs,.tuple ds=>CT.unL s cs ds|_,_=>s
def apa(s:Sl):J PT->J (TV E)->Sl|p::ps,d::ds=>apa (p.un s d) ps ds|_,_=>s
def apb(H:J (gu E)):Nat->J BT->Sl->Sl
 | _,[],s=>s|r,t::ts,s=>apb H (r+1) ts (match t,(s.b[r]?.getD iF).bind (H[·]?)with
  | .cells _ cs,iN (.cells _ ds)=>CT.unL s cs ds|.loop _ cs,iN (.loop _ ds)=>CT.unL s cs ds|_,_=>s)
def sP:J (O Nat)->J Nat|[]=>[]|some x::xs=>x::sP xs|none::xs=>sP xs
def dB.eA(s:dB)(st:TS E)(ds:J (TV E)):Sl:=apb st.H 0 s.boxes (apa ⟨s.boxes.map λ_=>iF,s.rows.map λ_=>iF⟩ s.args ds)
def sm{α β γ:Type}(f:α->γ)(g:β->γ):α ⊕ β->γ|.inl x=>f x|.inr y=>g y
def okK{R:Type}(o:Outs)(bs gs:J Nat)(st:TS E)(dst:O Nat)(k:Ex E->TS E->O R)(y:dens E o.tys):O R:=k .normal {o.after bs gs st (aV o.tys y)with t:=cE st.t dst (o.val bs gs st (aV o.tys y))}
def avx{R:Type}(o:Outs)(bs gs:J Nat)(st:TS E)(k:Ex E->TS E->O R)(y:dens E o.tys):O R:=k (.panic (o.val bs gs st (aV o.tys y))) (o.after bs gs st (aV o.tys y))
def adA{R:Type}(s:dB)(bs gs:J Nat)(st:TS E)(dst:O Nat)(k:Ex E->TS E->O R):(p:O Outs)->OutP E s.out p->O R|none=>okK s.out bs gs st dst k|some q=>sm (okK s.out bs gs st dst k) (avx q bs gs st k)
def Outs.wf(o:Outs)(nb ng:Nat):Bool:=AV nb o.boxes&&iO ng o.rows.length
def dB.wf(s:dB)(nb ng:Nat):Bool:=s.out.wf nb ng&&(match s.nq with|none=>eQ|some q=>q.wf nb ng)
def s7{R:Type}(st:TS E)(dst:Option Nat)(f:H4)(ds:J (TV E))(k:Ex E->TS E->Option R):J (bL E)->Option R
 | []=>iF
 | C::Γ=>cond (dO C.s.f f)
   (match zZ C.s.args ds st with
    | (ds',st')=>match C.s.enter (sP (C.s.eA st' ds').b) (sP (C.s.eA st' ds').g) st' ds' with
     | some ls=>match getAll C.s.tys ls with
      | some x=>rq (C.s.wf (sP (C.s.eA st' ds').b).length (sP (C.s.eA st' ds').g).length) ((C.m x).bind (adA C.s (sP (C.s.eA st' ds').b) (sP (C.s.eA st' ds').g) st' dst k C.s.nq))|none=>s7 st dst f ds k Γ
     | none=>s7 st dst f ds k Γ)
   (s7 st dst f ds k Γ)
def D7(P:bw)(o:H2)(W:J Nat)(nd:Bool)(st:TS E)(Q:Ex E->TS E->Prop):Prop:=∀w0 G0 a w G,Rel E w0 G0 st a w G->o.wp P a w (λa' w'=>∃st' G',Rel E w0 G0 st' a' w' G'/\Q .normal st'/\Fr W nd st st') (cQ E w0 G0 λx st'=>x≠.normal/\Q x st'/\Fr W nd st st')
variable{o:H2}{Q:Ex E -> TS E -> Prop}{f:H4}{R:Type}
theorem D7.HU{nd:Bool}(h:∀w0 G0 a w G,Rel E w0 G0 st a w G->kG P w0 G0 a w o st')(hQ:Q .normal st')(hF:Fr W nd st st'):D7 P o W nd st Q:=by
 intro w0 G0 a w G hr;obtain⟨nx,v,w',G',hrun,hnx,hr'⟩:=h w0 G0 a w G hr;unfold Oper.wp;rw[hrun];rcases hnx with rfl|⟨rfl,rfl⟩
 .exact⟨st',G',hr',hQ,hF⟩
 .exact⟨st',G',hr',hQ,hF⟩
theorem aiV{next:Act->U->Prop}{QQ:Exit->Act->U->Prop}{args:aJ R0}{R:Ending->U->Prop}(hrun:(M2 a.eval o).run P w=(H3 f args).run P w)(h:lz P f args w R)
  (h1:∀v w',R (.returned v) w'->next (a.put o.dst v) w') (h2:∀ch w',R (.panicked ch) w'->QQ (.panic ch) a w') (h3:∀w',¬ R .outgrown w'):o.wp P a w next QQ:=by
 unfold Oper.wp;rw[hrun];unfold lz at h;split at h
 .rename_i f' args' w' hr;rw[hr];refine H7 h λe w'' he=>?_;grind
 .rename_i v w' hr;rw[hr];exact h1 v w' h
 .exact h.elim
theorem QK{w0 w:U}{G0 G:bC}{a:Act}(hr:Rel E w0 G0 st a w G):∀l:J dJ,bO E w G (l.map st.ev) (l.map a.eval)|[]=>.nil|x::l=>.cons (hr.ev x) (QK hr l)
theorem Outs.U3(ot:Outs)(bs gs:J Nat)(st:TS E)(ls:J (Lf E))(dst:O Nat)(d:TV E):Fr (jd dst) eQ st {ot.after bs gs st ls with t:=cE st.t dst d}:=
 Fr.ank st dst d _ _ _ _ (λr hr hd=>by
  show(kT (rH ot.boxes bs (ot.hc bs gs st ls)) st.H++(ot.hc bs gs st ls).drop bs.length)[r]? = _;grind[List.getElem?_append_left,iy,vq]) (by
  show _<=(kT (rH ot.boxes bs (ot.hc bs gs st ls)) st.H++(ot.hc bs gs st ls).drop bs.length).length;simp[iy])
theorem rj.fH(h:rj E w0 G0)(hE:mj w0 G0 w G):rj E w G:=by
 intro b ob hb;obtain⟨⟨cs,t,m,h1,hp⟩,h2⟩:=h b ob hb;have hlt:=(BH.1 h1).1;refine⟨⟨cs,t,m,(hE.old b hlt h2).trans h1,hp⟩,λhf=>h2 ?_⟩;rcases hf with hf|⟨x,hd,hm,hbk⟩
 .obtain⟨q,hq,he⟩:=ko hf;have WT:G.i[q]? = iN b:=by simp_all
  by_cases qO:q<G0.i.length
  .have e1:=hE.goes.i q _ (fT qO);exact .inl (by simp_all)
  .have:=hE.sF q b om WT;omega
 .obtain⟨j,hj,he⟩:=ko hm;rcases hE.iB j x hd b (by simp_all) hbk with q|⟨x0,h0,q1,q2⟩
  .omega
  .exact .inr ⟨x0,h0,jQ q1,q2⟩
def Rel.WU(h:Rel E w0 G0 st a w G):rj E w G:=h.pins.fH h.fH
theorem adB{r:J α}(h:pick l is=iN r){x:α}(hx:x∈r):x∈l:=by obtain⟨j,hj,he⟩:=ko hx;obtain⟨hl,hg⟩:=tD h;have hj':j<Sx is:=om;obtain⟨y,h1,h2⟩:=hg j is[j] (fT hj');grind
theorem rj.eA(h:rj E w G)(hi:pick G.i bs=iN is)(hg:pick G.g gs=iN gg):rj E w (G.eA is gg):=λb ob hb=>by
 obtain⟨h1,h2⟩:=h b ob hb;refine⟨h1,λhf=>h2 ?_⟩;rcases hf with hf|⟨x,hd,hm,hbk⟩
 .exact .inl (adB hi hf)
 .obtain⟨y,hy,e⟩:=kq.1 hm;cases e;exact .inr ⟨y.1,y.2,adB hg hy,hbk⟩
theorem QL(hE:E.Ok){R:Type}{f:H4}{ds:J (TV E)}
  (WV:∀w0 G0 a w G,Rel E w0 G0 st a w G->∃vs:Array R0,bO E w G ds vs.toList/\(M2 a.eval o).run P w=(H3 f vs).run P w) {k:Ex E->TS E->Option R} {r:R} :
  ∀ {Γ:J (bL E)},(∀C∈Γ,C.Ok P)->s7 st o.dst f ds k Γ=iN r->D7 P o (jd o.dst) eQ st (λx st'=>k x st'=iN r)
 | [],_,h=>by cases h
 | C::Γ,hΓ,h=>by
  have eU:s7 st o.dst f ds k Γ=iN r->D7 P o (jd o.dst) eQ st (λx st'=>k x st'=iN r):=QL hE WV (λC' hC=>hΓ C' (by simp[hC]));simp[s7]at h;cases hf:dO C.s.f f<;>rw[hf]at h<;>simp at h
  .exact eU h
  have hf:=fm hf;obtain⟨WW,kg,hhs⟩:∃WW kg,zZ C.s.args ds st=(WW,kg):=⟨_,_,rfl⟩;rw[hhs]at h;split at h
  .rename_i ls hls;split at h
   .rename_i xx hxx;generalize Dl:sP (C.s.eA kg WW).b=bs at *;generalize hgs:sP (C.s.eA kg WW).g=gs at *;obtain⟨hwf,h⟩:=dX h;cases hm:C.m xx with
    | none=>rw[hm]at h;cases h
    | some y=>
     intro w0 G0 a w G0' hr;obtain⟨vs0,QM,WX⟩:=WV w0 G0 a w G0' hr;obtain⟨Ta,G,fC,vT,hvs⟩:=QJ C.s.args ds hr;have hargs:=hvs _ QM;rw[hhs]at fC hargs Ta;have hr:=fC;have hnd:bs.Nodup/\gs.Nodup/\bs.length=C.s.boxes.length/\C.s.rows.length=Sx gs:=by
      unfold dB.enter at hls;split at hls<;>try trivial
      rename_i H g hH hg;cases pn:(xZ bs&&(xZ gs&&(dO bs.length C.s.boxes.length&&AU C.s.rows g)))<;>rw[pn]at hls<;>simp only[aQ]at hls
      .cases hls
      simp only[cH]at pn;exact⟨ya pn.1,ya pn.2.1,fm pn.2.2.1,by rw[(EH pn.2.2.2).1,(tD hg).1]⟩
     obtain⟨is,gg,hi,Cm,hB,hS,hV⟩:=hr.enter hE hls hargs;have hput:=Fc _ hxx;have hok:=hΓ C si xx y hm w (G.eA is gg) vs0 (hr.WU.eA hi Cm) (by rw[hput];exact hB) (by rw[hput];exact hS) (by rw[hput];exact hV);have hrun:=WX;have hg0:=hB.gs;have hwf':∀(q:Outs),q.wf bs.length gs.length=eQ->AV bs.length q.boxes=eQ/\gs.length<=q.rows.length:=λq hq=>by simp_all[Outs.wf,cH,lY]
     unfold dB.wf at hwf;rw[cH]at hwf;have QN:∀(y:dens E C.s.out.tys)(v:R0)(w':World),okK C.s.out bs gs kg o.dst k y=iN r ->
       (∃v1 G',Ending.returned v=EG (C.s.out.nY eQ (C.s.H (aV C.s.tys xx)) C.s.g0 (aV C.s.out.tys y)).ok v1/\mj w (G.eA is gg) w' G'/\mX E w' G' (C.s.out.nY eQ (C.s.H (aV C.s.tys xx)) C.s.g0 (aV C.s.out.tys y)).H (C.s.out.nY eQ (C.s.H (aV C.s.tys xx)) C.s.g0 (aV C.s.out.tys y)).g/\lS E w' G' (C.s.out.nY eQ (C.s.H (aV C.s.tys xx)) C.s.g0 (aV C.s.out.tys y)).c /\
        VT E w' G' (C.s.out.nY eQ (C.s.H (aV C.s.tys xx)) C.s.g0 (aV C.s.out.tys y)).d v1/\∀(q b:Nat),(G.eA is gg).i[q]? = iN b->q∉(C.s.out.nY eQ (C.s.H (aV C.s.tys xx)) C.s.g0 (aV C.s.out.tys y)).D->w'.heap[b]? = w.heap[b]?) ->
       ∃st' G',Rel E w0 G0 st' (a.put o.dst v) w' G'/\k .normal st'=iN r/\Fr (jd o.dst) eQ st st':=by
      rintro y v w' hk ⟨v1,G',he,hE,Cv,WY,WZ,NG⟩;simp[Outs.nY,EG]at he;subst he;obtain⟨hs1,hs2⟩:=hwf' _ hwf.1;rw[<-hg0]at Cv WY WZ;obtain⟨Gn,hR,hval⟩:=hr.leave hi Cm hnd.1 hnd.2.1 C.s.out hs1 hs2 hE Cv WY WZ NG;exact⟨_,Gn,hR.put hval o.dst,hk,(C.s.out.U3 bs gs kg _ o.dst _).ofC Ta⟩
     have fin:∀(p:Option Outs)(hp:C.s.nq=p)(y:OutP E C.s.out p),adA C.s bs gs kg o.dst k p y=iN r->lz P f vs0 w (λe w'=>
       ∃v G',e=EG (lB C.s (C.s.H (aV C.s.tys xx)) p y).ok v/\mj w (G.eA is gg) w' G'/\mX E w' G' (lB C.s (C.s.H (aV C.s.tys xx)) p y).H (lB C.s (C.s.H (aV C.s.tys xx)) p y).g/\lS E w' G' (lB C.s (C.s.H (aV C.s.tys xx)) p y).c /\
        VT E w' G' (lB C.s (C.s.H (aV C.s.tys xx)) p y).d v/\∀(q b:Nat),(G.eA is gg).i[q]? = iN b->q∉(lB C.s (C.s.H (aV C.s.tys xx)) p y).D->w'.heap[b]? = w.heap[b]?) ->
       o.wp P a w (λa' w'=>∃st' G',Rel E w0 G0 st' a' w' G'/\k .normal st'=iN r/\Fr (jd o.dst) eQ st st') (cQ E w0 G0 λx st'=>x≠.normal/\k x st'=iN r/\Fr (jd o.dst) eQ st st'):=by
      intro p hp y hk hI;refine aiV hrun hI (λv w' hR=>?_) (λch w' hR=>?_) (λw' hR=>?_)
      .cases p with
       | none=>exact QN y v w' hk hR|some q=>
        cases y with
        | inl y=>exact QN y v w' hk hR|inr y=>obtain⟨v1,G',he,-⟩:=hR;cases he
      .cases p with
       | none=>obtain⟨v1,G',he,-⟩:=hR;cases he
       | some q=>
        cases y with
        | inl y=>obtain⟨v1,G',he,-⟩:=hR;cases he
        | inr y=>
         obtain⟨v1,G',he,hE,Cv,WY,WZ,NG⟩:=hR;simp[lB,Outs.nY,EG]at he;subst he;have hq:q.wf bs.length gs.length=eQ:=by grind
         obtain⟨hs1,hs2⟩:=hwf' _ hq;simp[lB]at Cv WY WZ NG;rw[<-hg0]at Cv WY WZ;obtain⟨Gn,hR,hval⟩:=hr.leave hi Cm hnd.1 hnd.2.1 q hs1 hs2 hE Cv WY WZ NG;exact⟨.panic (q.val bs gs kg (aV q.tys y)),_,Gn,⟨v1,rfl,hval⟩,hR,(λh=>nomatch h),hk,((q.U3 bs gs kg _ iF .any).wide (λi hi=>by cases hi) (λh=>h)).ofC Ta⟩
      grind[EG,lB,aV]
     grind
   .exact eU h
  .exact eU h
theorem afS(hE:E.Ok){c:Call}{x:dJ}{f:H4}{caps:J (TV E)}(ho:o.op=.call c)(hc:c.callee=.value x)(hx:st.ev x=.func (.func f) caps){k:Ex E->TS E->O R}{r:R}
  {Γ:J (bL E)} (hΓ:∀C∈Γ,C.Ok P) (h:s7 st o.dst f (c.args.toList.map st.ev++caps) k Γ=iN r):D7 P o (jd o.dst) eQ st (λx st'=>k x st'=iN r):=by
 refine QL hE (λw0 G0 a w G hr=>?_) hΓ h;have hv:=hr.ev x;rw[hx]at hv;obtain⟨cv,IA,Tb⟩:=hv;refine⟨c.args.map a.eval++cv,?_,?_⟩
 .have:=(QK hr c.args.toList).append Tb;simpa using this
 .simp only[M2,ho,resolve,hc,IA,Deferred.ofValue,invoke];simp
theorem afT(hE:E.Ok){c:Call}{x:dJ}{f:H4}{fs:J (TV E)}(ho:o.op=.call c)(hc:c.callee=.value x)(hx:st.ev x=.Iw (.func f) fs){k:Ex E->TS E->O R}{r:R}
  {Γ:J (bL E)} (hΓ:∀C∈Γ,C.Ok P) (h:s7 st o.dst f (fs++c.args.toList.map st.ev) k Γ=iN r):D7 P o (jd o.dst) eQ st (λx st'=>k x st'=iN r):=by
 refine QL hE (λw0 G0 a w G hr=>?_) hΓ h;have hv:=hr.ev x;rw[hx]at hv;obtain⟨cv,IA,Tb⟩:=hv;refine⟨cv++c.args.map a.eval,?_,?_⟩
 .have:=Tb.append (QK hr c.args.toList);simpa using this
 .simp only[M2,ho,resolve,hc,IA,Deferred.ofValue,invoke];simp
