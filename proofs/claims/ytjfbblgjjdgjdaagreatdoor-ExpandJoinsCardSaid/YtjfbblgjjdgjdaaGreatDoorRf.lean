import Derived.Test.YtjfbblgjjdgjdaaGreatDoorRd
open Nat renaming ble->iO,beq->eI,blt->dE
open Option renaming some->iN,none->iF
open Bool renaming true->hJ,false->eQ
open Decidable renaming decide->eK
open Int renaming toNat->eJ
open List renaming range->bY,replicate->aT,length->Ts
open Go renaming Value->T1,execOp->R0,undef->M2,FuncId->H5,callFunc->H4,Oper->H3
set_option linter.all false
namespace Go.RT
variable {E : TEnv}
variable{P:bx}{w0 w w':U}{G0 G G':bB}{st:TS E}{a:Act}{o:H3}{t:aL}{x:dH}{i:TI}{j k off:Nat}{g:cV}{c:Cn E}{d:TV E}{T:Ty}{cs:J (TV E)}{y:dH}{z:T1}{e:aL}{j1 j2:Nat}{ie:TI}{xs:J (T.den E.D)}{ty:aL->O Ty}{st':TS E}{v:T1}{ys:J (c.1.den E.D)}{cc:Bool}
theorem JD(hE:E.Ok)(hr:Rel E w0 G0 st a w G)(ho:o.op=.load t x)(ht:aY P t=iN i){ix:Nat}(hd:st.ev x=.iZ j g.aG k ix off)
  (hg:st.g[j]? = iN g) (hc:pW st.c j=iN c) (hk:k=c.1.size E)  (hp:TV.part c.1 (c.2.getD ix (c.1.dflt E)) i.isAgg i.size off=iN d):jW P a w G o d:=by
 have hv:=hr.ev x;rw[hd]at hv;obtain⟨b,m,cap,hj,hlt,mQ⟩:=hr.iZ hg hv;obtain⟨h,hj',hs,-⟩:=hr.soft hg hc;rw[hj]at hj';cases hj';rcases hs.block with⟨h1,-⟩|⟨b',cap',cur,h1,hheap,hcap,hcm,hcs,hf,hnp⟩
 ·cases h1
 obtain⟨rfl,rfl,rfl⟩:=h1;obtain⟨vs,h2,h3,-,h4⟩:=Zt hs.1 hheap hf (by simp_all[Au]) hlt;obtain⟨v,hv,hrun⟩:=tX ht h4 (MH hE h2 hp);refine gr (f:=λρ=>Instr.loadAt t (ρ x)) (by simp[R0,ho]) ⟨v,hv,λw' hs'=>?_⟩;rw[mQ,hk,<-hs.1];exact hrun w' (hs' (by rw[ho];rfl))
theorem acK(A us C vals:J T1)(off:Nat)(h:off+vals.length<=Ts us):
  ((A++us++C).take (A.length+off)++vals++(A++us++C).drop (A.length+off+vals.length))=A++(us.take off++vals++us.drop (off+vals.length))++C:=by
 have e1:(A++us++C).take (A.length+off)=A++us.take off:=by rw[tI,agS,uK om,show A.length+off-A.length=off by omega,agS,show off-Ts us=0 by omega];simp
 have e2:(A++us++C).drop (A.length+off+vals.length)=us.drop (off+vals.length)++C:=by rw[tI,agO,UZ om,show A.length+off+vals.length-A.length=off+vals.length by omega,agO,show off+vals.length-Ts us=0 by omega];simp
 simp_all
theorem ae8(hE:E.Ok){x:T.den E.D}{us:J T1}(h:LD w G.pr us (T.cells E x))(hc:(TV.dat T x).qd=iN cs):bO E w G cs us:=by
 simp[TV.qd]at hc;cases ha:T.isAgg<;>rw[ha]at hc<;>simp at hc
 ·cases hc;have hl:Ts us=1:=by rw[h.length];cases T<;>first|rfl|cases ha
  obtain⟨u,rfl⟩:=aaX.1 hl;exact .cons (.RO ha h) .nil
 grind[zH]
theorem ae9(hE:E.Ok)(hr:Rel E w0 G0 st a w G)(ho:o.op=.store t x y)(ht:aY P t=iN i){ix:Nat}(hd:st.ev x=.iZ j g.aG k ix off)
  (hg:st.g[j]? = iN g) (hc:pW st.c j=iN c) (hk:k=c.1.size E) {ds:J (TV E)} (hcs:(TV.dat c.1 (c.2.getD ix (c.1.dflt E))).qd=iN cs) (hy:(st.ev y).qd=iN ds) (h4:Ts ds=i.size) (h5:off+i.size<=Ts cs)
  {x':c.1.den E.D} (au7:Pq E 4 c.1 (cs.take off++ds++cs.drop (off+Ts ds))=iN (x',[])) :
  kE P w0 G0 a w o {st with t:=cG st.t o.dst .any,c:=(j,⟨c.1,c.2.set ix x'⟩)::oO j st.c}:=by
 have hv:=hr.ev x;rw[hd]at hv;obtain⟨b,m,cap,hj,hlt,mQ⟩:=hr.iZ hg hv;obtain⟨h,hj',hs,-⟩:=hr.soft hg hc;rw[hj]at hj';cases hj';rcases hs.block with⟨h1,-⟩|⟨b',cap',cur,h1,hheap,hcap,hcm,amD,hf,hnp⟩
 ·cases h1
 obtain⟨rfl,rfl,rfl⟩:=h1;have hle:c.2.length*g.k<=cur.size:=by simp_all[Au]
 obtain⟨us,h2,h3,Te,-⟩:=Zt hs.1 hheap hf hle hlt;obtain⟨hl,hl1⟩:=tW hE (hr.ev y) hy;have hlen:(a.eval y).cells.toList.length=i.size:=by rw[hl.length,h4]
 have hlen':(a.eval y).cells.size=i.size:=by simpa using hlen
 have HZ:=ae8 hE h2 hcs;have hcl:Ts cs=g.k:=by rw[<-HZ.length,h3]
 obtain⟨xt,kG,-,hxs,-⟩:=aQ ht;have hik:ix*g.k+g.k<=c.2.length*g.k:=by have:(ix+1)*g.k<=c.2.length*g.k:=Au _ hlt;grind
 have hfit:(ix*g.k+off)+0+(a.eval y).cells.toList.length<=cur.size:=by rw[hlen];omega
 have VK:=run_storeCells_at (P:=P) b (ix*g.k+off) g.e (a.eval y).cells.toList 0 cur w hheap hfit (λv hv=>hl1 v (by simpa using hv))
 let new:=(cur.toList.take (ix*g.k+off)++(a.eval y).cells.toList++cur.toList.drop (ix*g.k+off+(a.eval y).cells.toList.length)).toArray
 have hrun:(R0 a.eval o).run P w=.ok .skip (w.setRow b new):=by simp[R0,ho,Instr.storeAt,Instr.sureAddr,mQ,hk,<-hs.1,storeVar,fK kG,hxs,hlen'];simp only[ne_eq,VK];rfl
 have au8:=((HZ.take off).append hl).append (HZ.drop (off+Ts ds));obtain⟨us1,ts,e1,e2,e3⟩:=BS hE 4 c.1 au8 au7;subst e3;have hu1:us1.length=g.k:=by grind
 have awf:cur.toList=cur.toList.take (ix*g.k)++us++cur.toList.drop (ix*g.k+g.k):=by grind[List.take_append_drop,List.drop_drop,List.append_assoc]
 have atK:new.toList=cur.toList.take (ix*g.k)++us1++cur.toList.drop (ix*g.k+us1.length):=by have:=acK (cur.toList.take (ix*g.k)) us (cur.toList.drop (ix*g.k+g.k)) (a.eval y).cells.toList off (by rw[h3];omega);grind
 have ahJ:new.size=cur.size:=by grind
 have hfl:Flat w G.pr g.k (new.toList.take ((c.2.set ix x').length*g.k)) ((c.2.set ix x').map (c.1.cells E)):=by
  have h9:=hf.splice (Flat.single e2 hu1) (p:=ix) aR;rw[agW,atK,ae5 _ _ om (by simpa using hle)];have h10:(c.2.set ix x').map (c.1.cells E)=(c.2.map (c.1.cells E)).take ix++[c.1.cells E x']++(c.2.map (c.1.cells E)).drop (ix+[c.1.cells E x'].length):=by rw[aoj,if_pos (by simpa using hlt)];simp
  rw[h10];exact h9
 have hR:=hr.akk hg hc hj hheap ahJ si hfl;exact⟨_,M2,_,G,hrun,.inr ⟨rfl,rfl⟩,hR.put (by simp[VT]) o.dst⟩
theorem Rel.Yb(h:Rel E w0 G0 st a w G)(hs:∃x hd,G.g[j]? = iN (x,hd)/\tU E w G x hd c):Rel E w0 G0 {st with c:=(j,c)::st.c} a w G:=
 ⟨h.fF,h.size,h.tmps,h.defers,h.boxes,h.fix,h.pins,λi c' hm=>by
  rcases hU.1 hm with e|hm
  ·cases e;exact hs
  ·exact h.gO i c' hm⟩
theorem akl{pr:Nat->Nat->Prop}(hk0:0<k){z:aK T1}(hz:z.size=k){e:J DV}(h:LD w pr z.toList e){n m:Nat}(hn:n<=m):Flat w pr k ((madeCells z (m*k)).toList.take (n*k)) (aT n e):=by
 have hel:e.length=k:=by rw[<-h.length];simpa using hz
 have hnm:=Au k hn;refine⟨by simp_all[zh,aa1,size_madeCells,List.length_replicate,agX],λj hj=>?_,λj l hj hl=>?_⟩
 ·simp_all
 ·simp at hj;have hjl:=Pv hj hl;have e1:((madeCells z (m*k)).toList.take (n*k)).getD (j*k+l) M2=z.toList.getD l M2:=by
   simp;rw[abc,if_pos hjl];have h1:(j*k+l)%z.size=l:=by simp_all[aa0,Nat.mul_add_mod,agH]
   have h2:j*k+l<m*k:=om;have h3:l<z.size:=om;simp[madeCells,h2,h1,h3]
  have e2:(aT n e).getD j []=e:=by simp[hj]
  rw[e1,e2];have:∀ {vs:J T1}{ds:J DV}(l:Nat),LD w pr vs ds->l<Ts ds->VD w pr (vs.getD l M2) (ds.getD l default):=by
   intro vs
   induction vs with
   | nil=>intro ds l h hl;cases ds with|nil=>simp at hl|cons _ _=>exact h.elim
   | cons v vs ih=>
    intro ds l h hl;cases ds with
    | nil=>exact h.elim|cons d ds=>cases l with|zero=>simpa using h.1|succ l=>simpa using ih l h.2 (by simpa using hl)
  exact this l h om
theorem ah4(hE:E.Ok)(hr:Rel E w0 G0 st a w G){z0:T1}(ho:o.op=.makeSlice t x y)(ht:aY P t=iN ⟨.slice e,j1,j2,z0⟩)(hi:aY P e=iN ie){z:T.den E.D}{k1 k2:eU}{n m:Int}
  (hx:st.ev x=.dat (.int k1) n) (hy:st.ev y=.dat (.int k2) m) (hk:ie.size=T.size E) (hk0:0<ie.size) (hzs:ie.zero.cells.size=ie.size) (hz1:ie.zero.cells.toList.all (·.oneCell')=hJ) (hz:(zJ E (iN T) ie.zero).get T=iN z)
  (h0:0<=n) (h1:n<=m) (h2:0<m) (h3:m<=9223372036854775807) (h4:(ie.bytes:Int)*m<=140737488355328) :
  kE P w0 G0 a w o {st with t:=cG st.t o.dst (.eF st.g.length 0),g:=st.g++[⟨0,e,ie.size⟩],c:=(Ts st.g,⟨T,aT n.toNat z⟩)::st.c}:=by
 have AX:=hr.ev x;rw[hx]at AX;have C2:=hr.ev y;rw[hy]at C2;obtain⟨xt,kG,eG,-⟩:=aQ ht;obtain⟨xe,rW,BV,hsz,hby,hzz⟩:=aQ hi;have hrun:=run_make w t e xe ie.zero eG rW hzz k1 k2 n m h0 h1 (by rw[hby];omega) h3;rw[hsz]at hrun;have hzv:VT E w G (.dat T z) ie.zero:=TV.vA hz (RY hE hz1);have Zp:=hzv.Pz;have aoG:maxLen=9223372036854775807:=rfl
 let cur:=madeCells ie.zero.cells (m.toNat*ie.size)
 have hcs:cur.size=m.toNat*ie.size:=size_madeCells _ _;have hG:=hr.grow (fG.alloc w (.cells cur e)) rfl rfl rfl G.pr (λ_ _ h=>h) (λ_ _ _ h=>h) (λb o hp=>kD (hr.boxes.gN b o hp).1 si);have hnp:∀o,¬ G.pr w.heap.size o:=λo hp=>absurd (hr.boxes.gN _ _ hp).1 (As _);have hheap:(w.alloc (.cells cur e)).heap[w.heap.size]? = iN (.cells cur e):=heap_alloc_new w _;have hown:(w.alloc (.cells cur e)).ownsRow 0 e ie.size (.slice (iN ⟨w.heap.size,0,iF⟩) n.toNat m.toNat) n.toNat (cur.toList.take (n.toNat*ie.size)):=by refine⟨?_,.inr ⟨w.heap.size,m.toNat,cur,rfl,fq _,hheap,om,om,hcs,rfl⟩⟩;grind[List.length_take,Array.length_toList,Nat.min_eq_left,Nat.mul_le_mul_right]
 have hA:=hG.DA ⟨0,e,ie.size⟩ (.slice (iN ⟨w.heap.size,0,iF⟩) n.toNat m.toNat) ⟨n.toNat,_,hown,λa q h=>by simp at h;omega,λb hb=>by
   cases hb;exact⟨si,λhm=>absurd (hr.boxes.lt _ hm) (As _),λo _ hp=>hnp o hp⟩⟩ (λb hb=>by cases hb;exact hr.fF.size) (λj y z b hj hzb hb=>by
   cases hb;obtain⟨n',xs',-,-,hb'⟩:=hr.boxes.grow j y z hj
   simp_all)
 have hrl:=hr.qZ;have lC:(G.g++[(⟨0,e,ie.size⟩,Value.slice (iN ⟨w.heap.size,0,iF⟩) n.toNat m.toNat)])[Ts st.g]? = iN (⟨0,e,ie.size⟩,.slice (iN ⟨w.heap.size,0,iF⟩) n.toNat m.toNat):=by rw[<-hrl];simp
 have hC:=hA.Yb (c:=⟨T,aT n.toNat z⟩) ⟨⟨0,e,ie.size⟩,_,lC,hk,hk0,⟨_,by simp;exact hown,by
   rw[List.map_replicate];exact akl hk0 hzs (Zp.mono (λ_ _ h=>h) (λb o v _ hv=>(fG.alloc w _).cell hv)) om⟩,λb hb o hp=>by cases hb;exact hnp o hp⟩
 refine⟨.value _,_,_,_,?_,.inl rfl,hC.put (v:=.slice (iN ⟨w.heap.size,0,iF⟩) n.toNat m.toNat) ?_ o.dst⟩
 ·simp[R0,ho,AX.gq,C2.gq,hrun];rfl
 ·exact⟨⟨0,e,ie.size⟩,_,lC,eo _,rfl,λ_=>rfl⟩
theorem afa(hE:E.Ok)(hr:Rel E w0 G0 st a w G){len:Nat}{parts:aK (Nat×dH)}(ho:o.op=.buildSlice t len parts)
  (ht:aY P t=iN ⟨.slice e,j1,j2,z⟩) (hi:aY P e=iN ie) (h1:parts.toList.map (·.1)=bY len) (h2:len*ie.size<=16777216) (h3:0<ie.size) (h0':0<len\/E.zc e=hJ)
    (hk:ie.size=T.size E) (hx:pF T (parts.toList.map λp=>st.ev p.2)=iN xs) :
  kE P w0 G0 a w o {st with t:=cG st.t o.dst (.eF st.g.length 0),g:=st.g++[⟨0,e,ie.size⟩],c:=(Ts st.g,⟨T,xs⟩)::st.c}:=by
 obtain⟨cs,hrun,hcs,VP,hfl⟩:=PB hE hr ho ht hi h1 h2 h3 hk hx;have aoG:maxLen=9223372036854775807:=rfl;have hG:=hr.grow (fG.alloc w (.cells cs e)) rfl rfl rfl G.pr (λ_ _ h=>h) (λ_ _ _ h=>h) (λb o hp=>kD (hr.boxes.gN b o hp).1 si);have hnp:∀o,¬ G.pr w.heap.size o:=λo hp=>absurd (hr.boxes.gN _ _ hp).1 (As _);have hheap:(w.alloc (.cells cs e)).heap[w.heap.size]? = iN (.cells cs e):=heap_alloc_new w _;have hown:(w.alloc (.cells cs e)).ownsRow 0 e ie.size (.slice (iN ⟨w.heap.size,0,iF⟩) len len) len (cs.toList.take (len*ie.size)):=by refine⟨?_,.inr ⟨w.heap.size,len,cs,rfl,fq _,hheap,eo _,by have:len<=len*ie.size:=agQ _ h3;omega,hcs,rfl⟩⟩;rw[zh,aa1,hcs];exact Nat.min_self _
 have hA:=hG.DA ⟨0,e,ie.size⟩ (.slice (iN ⟨w.heap.size,0,iF⟩) len len) ⟨len,_,hown,λa q h=>h0'.elim (λ_=>by simp at h;omega) id,λb hb=>by
   cases hb;exact⟨si,λhm=>absurd (hr.boxes.lt _ hm) (As _),λo _ hp=>hnp o hp⟩⟩ (λb hb=>by cases hb;exact hr.fF.size) (λj y z b hj hzb hb=>by
   cases hb;obtain⟨n',xs',-,-,hb'⟩:=hr.boxes.grow j y z hj;exact absurd (hb' _ hzb).1 (As _))
 have hrl:=hr.qZ;have lC:(G.g++[((⟨0,e,ie.size⟩:cV),Value.slice (iN ⟨w.heap.size,0,iF⟩) len len)])[Ts st.g]? = iN (⟨0,e,ie.size⟩,.slice (iN ⟨w.heap.size,0,iF⟩) len len):=by rw[<-hrl];simp
 have hC:=hA.Yb (j:=Ts st.g) (c:=⟨T,xs⟩) ⟨⟨0,e,ie.size⟩,_,lC,hk,h3,⟨_,by rw[VP];exact hown,hfl.mono (λ_ _ h=>h) (λb o v _ hv=>(fG.alloc w _).cell hv)⟩,λb hb o hp=>by cases hb;exact hnp o hp⟩;refine⟨.value _,_,_,_,hrun,.inl rfl,hC.put (d:=.eF st.g.length 0) (v:=.slice (iN ⟨w.heap.size,0,iF⟩) len len) ?_ o.dst⟩;simp only[VT];exact⟨⟨0,e,ie.size⟩,_,lC,eo _,rfl,λ_=>rfl⟩
def ah5(ty:aL->O Ty):O Nat->Bool
 | some i=>match ty (2000000+i)with
  | some _=>hJ|none=>eQ
 | none=>eQ
def acL(P:bx)(ty:aL->Option Ty)(st:TS E)(dst:Option Nat):Op->Option (Bool×TS E)
 | .buildSlice t len parts=>cond (ah5 ty dst) (match aY P t with
  | some ⟨.slice e,_,_,_⟩=>match aY P e,ty e with
   | some ie,iN T=>match pF T (parts.toList.map λp=>st.ev p.2)with
    | some xs=>iN (cond (dE 0 len) hJ (E.zc e)&&(eK (parts.toList.map (·.1)=bY len)&&(iO (len*ie.size) 16777216&&(dE 0 ie.size&&eI ie.size (T.size E)))),
       {st with t:=cG st.t dst (.eF st.g.length 0),g:=st.g++[⟨0,e,ie.size⟩],c:=(Ts st.g,⟨T,xs⟩)::st.c})
    | none=>iF
   | _,_=>iF
  | _=>iF) iF
 | _=>iF
theorem ah6(hE:E.Ok)(hr:Rel E w0 G0 st a w G){c:Bool}(h:acL P ty st o.dst o.op=iN (c,st'))(hc:c=hJ):kE P w0 G0 a w o st':=by
 cases ho:o.op<;>rw[ho]at h<;>try trivial
 case buildSlice t len parts=>
  simp only[acL]at h;cases hb:ah5 ty o.dst<;>rw[hb]at h<;>simp only[aU,aJ]at h
  ·cases h
  split at h<;>try trivial
  rename_i e j1 j2 z ht;split at h<;>try trivial
  rename_i ie T hi hT;split at h<;>try trivial
  rename_i xs hx;cases h;simp only[cK,fW]at hc
  exact afa hE hr ho ht hi hc.2.1 (lY hc.2.2.1) (lY hc.2.2.2.1) (by
   cases hb0:dE 0 len with|true=>exact .inl (lY hb0)|false=>have h0:=hc.1;rw[hb0]at h0;exact .inr h0) (eY hc.2.2.2.2) hx
theorem Rel.akm(hr:Rel E w0 G0 st a w G)(hg:st.g[j]? = iN g)(hc:pW st.c j=iN c){v':T1}(hj:G.g[j]? = iN (g,v))(wG:w.grownBy w' v.ownBlock){vals:J T1}
  (hown:w'.ownsRow 0 g.e g.k v' ys.length vals) (hf:Flat w G.pr g.k vals (ys.map (c.1.cells E))) (hblk:∀b,v'.ownBlock=iN b->w.heap.size<=b\/v.ownBlock=iN b) (hz:∀a m,v'=.slice (iN a) m 0->E.zc g.e=hJ) (h1:v'.oneCell'=hJ) :
  ∃G',Rel E w0 G0 {st with g:=st.g.set j {g with aG:=g.aG+1},c:=(j,⟨c.1,ys⟩)::oO j st.c} a w' G'/\VT E w' G' (.eF j (g.aG+1)) v':=by
 obtain⟨h,hj',hs,-⟩:=hr.soft hg hc;rw[hj]at hj';cases hj';obtain⟨n0,xs0,Vb,Py,hb0⟩:=hr.boxes.grow j g v hj;have hnp:=hs.2.2.2;have arM:∀b,v'.ownBlock=iN b->∀o,¬ G.pr b o:=λb hb o hp=>by
  rcases hblk b hb with q|q
  ·have:=(hr.boxes.gN b o hp).1;omega
  ·exact hnp b q o hp
 have hcells:∀b o u,G.pr b o->w.cell? ⟨b,o,iF⟩=iN u->w'.cell? ⟨b,o,iF⟩=iN u:=λb o u hp hu=>wG.cell hu (λe=>hnp b e.symm o hp);have hjl:=(fC.1 hj).1;have key:=hr.setRow (x':={g with aG:=g.aG+1}) (cs:=(j,⟨c.1,ys⟩)::oO j st.c) hj (Nat.le_succ _) (λe=>by simp at e) wG.size wG.os wG.tape wG.output
  (λb hb hne=>wG.block b hb (λe=>hne e.symm)) hcells G.pr (λ_ _ h=>h) (λ_ _ h=>.inl h)
  ⟨Ts ys,vals,hown,hz,λb hb=>⟨(hown.lt b hb).2,λhm=>by
   rcases hblk b hb with q|q
   ·have:=hr.boxes.lt b hm;omega
   ·exact(hb0 b q).2.1 hm,λo _ hp=>arM b hb o hp⟩⟩ hblk (λhg'=>?_)
 ·simp[VT];grind
 ·intro i c' hm;rcases hU.1 hm with e|hm
  ·cases e;exact⟨{g with aG:=g.aG+1},v',by simp[hjl],hs.1,hs.2.1,⟨vals,hown,hf.mono hg'.pr hg'.cells⟩,arM⟩
  ·obtain⟨hm,hne⟩:=uD hm;obtain⟨x,hd,q1,q2⟩:=hr.gO i c' hm;obtain⟨n1,xs1,-,-,wY⟩:=hr.boxes.grow i x hd q1;refine⟨x,hd,?_,q2.keep rfl rfl hg'.pr hg'.cells λb hb=>⟨wG.block b (wY b hb).1 (λe=>hne (hr.boxes.apart i j x hd g v b q1 hj hb e.symm)),λo hp=>hp⟩⟩;grind
theorem acM(hE:E.Ok)(hr:Rel E w0 G0 st a w G){cl:Call}{tx:aL}(ho:o.op=.call cl)(hcl:cl.callee=.builtin .append)(ha:cl.args.toList=[x,y])(hat:cl.argTypes.toList=[t,tx])
  (ht:aY P t=iN ⟨.slice e,j1,j2,z⟩) (hi:aY P e=iN ie)    (hx:st.ev x=.eF j g.aG) (hg:st.g[j]? = iN g) (hc:pW st.c j=iN c) (hge:g.e=e) (B2:g.k=ie.size) (hzs:ie.zero.cells.size=ie.size)
   (h63:c.2.length+Ts ys<=9223372036854775807) (hbytes:(c.2.length+Ts ys)*ie.bytes<=140737488355328)
  {news:J T1} (hsrc:Src P ie.size tx (a.eval y) ys.length news w) (hf:Flat w G.pr ie.size news (ys.map (c.1.cells E))) :
  kE P w0 G0 a w o {st with t:=cG st.t o.dst (.eF j (g.aG+1)),g:=st.g.set j {g with aG:=g.aG+1},c:=(j,⟨c.1,c.2++ys⟩)::oO j st.c}:=by
 have gX:cl.args=#[x,y]:=by grind
 have zo:cl.argTypes=#[t,tx]:=by grind
 obtain⟨xt,kG,eG,-⟩:=aQ ht;obtain⟨xe,Px,BV,hsz,hby,hz⟩:=aQ hi;have hv:=hr.ev x;rw[hx]at hv;obtain⟨v,hj,hs,hval⟩:=hr.soft hg hc;have mQ:=hval _ hv;have fin:∀(v':T1)(w':U)(vals:J T1),(Builtin.append_ #[t,tx] o.type #[v,a.eval y]).run P w=.ok v' w'->w'.ownsRow 0 g.e g.k v' (c.2++ys).length vals->Flat w G.pr g.k vals ((c.2++ys).map (c.1.cells E))->w.grownBy w' v.ownBlock ->
   (∀b,v'.ownBlock=iN b->w.heap.size<=b\/v.ownBlock=iN b)->(∀a m,v'=.slice (iN a) m 0->E.zc g.e=hJ)->v'.oneCell'=hJ ->
   kE P w0 G0 a w o {st with t:=cG st.t o.dst (.eF j (g.aG+1)),g:=st.g.set j {g with aG:=g.aG+1},c:=(j,⟨c.1,c.2++ys⟩)::oO j st.c}:=by
  intro v' w' vals hrun hown hfl wG hblk hnz h1;obtain⟨G',hR,hV⟩:=hr.akm hg hc hj wG hown hfl hblk hnz h1;refine⟨.value v',v',w',G',?_,.inl rfl,hR.put hV o.dst⟩;unfold R0;simp[ho,resolve,hcl,jJ,qj,invoke,builtin,gX,zo,jI,Km];rw[mQ,hrun];rfl
 have Gq:Src P xe.size tx (a.eval y) ys.length news w:=by rw[hsz];exact hsrc
 have hzl:∀c,(Builtin.zeroCells ie.zero.cells c).size=c*ie.size:=λc=>by rw[size_zeroCells,hzs]
 obtain⟨n0,xs0,Vb,Py,hb0⟩:=hr.boxes.grow j g v hj;have hlen:(c.2++ys).length=c.2.length+Ts ys:=by simp
 have hmap:(c.2++ys).map (c.1.cells E)=c.2.map (c.1.cells E)++ys.map (c.1.cells E):=by simp
 rw[<-B2]at hf;by_cases hm:Ts ys=0
 ·have hys:=HA hm;subst hys;have hnn:=HA (by simpa using hf.1);subst hnn;obtain⟨-,-,⟨vals,ho,NV⟩,-⟩:=hs;refine fin v w vals ?_ (by simp_all) (by simp_all) ⟨rfl,rfl,rfl,eo _,λ_ _ _=>rfl⟩ (λb hb=>.inr hb) Py ?_
  ·rcases ho.2 with⟨q1,q2⟩|⟨b,cap,cur,q1,-,-,q4,-⟩
   ·rw[q1];exact run_append_nothing w t tx o.type e xe eG Px iF 0 0 (eo _) _ Gq
   grind[run_append_nothing]
  ·rcases ho.2 with⟨q1,q2⟩|⟨b,cap,cur,q1,-⟩<;>rw[q1]<;>rfl
 have grow:∀(base:O Addr)(old:Nat)(xs':J T1),v=.slice base c.2.length old->old<c.2.length+Ts ys->Flat w G.pr g.k xs' (c.2.map (c.1.cells E)) ->
   (Builtin.firstCells xe.size c.2.length (.slice base c.2.length old)).run P w.drew=.ok xs'.toArray w.drew ->
   kE P w0 G0 a w o {st with t:=cG st.t o.dst (.eF j (g.aG+1)),g:=st.g.set j {g with aG:=g.aG+1},c:=(j,⟨c.1,c.2++ys⟩)::oO j st.c}:=by
  intro base old xs' hv0 hlt hfx Zn;have hfit:=growslice_fits (bytes:=xe.bytes) hlt (by rw[hby];exact hbytes);have hr':=run_append_grow_src w t tx o.type e xe ie.zero eG Px hz base c.2.length old xs' Zn (a.eval y) ys.length news Gq hlt om hfit;have ah7:=grownCap_ge w (c.2.length+Ts ys) old e;have hcm:=grownCap_le_maxLen w (c.2.length+Ts ys) old e h63;generalize hcap:grownCap w (c.2.length+Ts ys) old e=cap at hr' ah7 hcm;generalize hcs:(xs'++news).toArray++Builtin.zeroCells ie.zero.cells (cap-(c.2.length+Ts ys))=cs at hr';have Lo:=hfx.append hf;have hl2:(xs'++news).length=(c.2.length+Ts ys)*g.k:=by rw[Lo.1];simp
  have amD:cs.size=cap*g.k:=by rw[<-hcs,agL,agM,hl2,hzl,<-B2,<-Rg];congr 1;omega
  have hheap:(w.drew.alloc (.cells cs e)).heap=w.heap.push (.cells cs e):=rfl;have hnew:(w.drew.alloc (.cells cs e)).heap[w.heap.size]? = iN (.cells cs e):=by rw[hheap];simp
  refine fin (.slice (iN ⟨w.heap.size,0,iF⟩) (c.2.length+Ts ys) cap) (w.drew.alloc (.cells cs e)) (xs'++news) (by rw[hv0];exact hr') ⟨by rw[hl2,hlen],.inr ⟨w.heap.size,cap,cs,?_,Nat.zero_le _,by rw[hge];exact hnew,by rw[hlen];exact ah7,hcm,amD,?_⟩⟩ (by rw[hmap];exact Lo) ⟨rfl,rfl,rfl,by rw[hheap];simp,λb hb _=>by grind⟩
   (λb hb=>by cases hb;grind) (λa m h=>by simp at h;omega) rfl
  ·rw[hlen]
  grind
 rcases hs.block with⟨h1,h2⟩|⟨b,cap,cur,h1,hheap,hcap,hcm,hcs,NV,hnp⟩
 ·have hc0:c.2.length=0:=by rw[h2];rfl
  refine grow iF 0 [] (by rw[h1,hc0]) om (by rw[h2];exact Flat.nil) ?_;simp[Builtin.firstCells]
 ·by_cases hroom:c.2.length+Ts ys<=cap
  ·have VN:c.2.length*ie.size+news.length<=cur.size:=by rw[hf.1,hcs,<-B2,jh,<-Rg];exact Au _ hroom
   have HY:w.heap[b]? = iN (.cells cur e (0,0)):=by rw[<-hge];exact hheap
   have hr':=run_append_room_src w t tx o.type e xe eG Px b 0 c.2.length cap (a.eval y) ys.length news Gq hroom
    (λj hj=>by
     rw[cell_of_row w b _ cur e (0,0) HY,hsz]
     grind)
    (λj hj=>frozen_of_row w b _ cur e HY)
   rw[hsz,rX,B1 b e news (c.2.length*ie.size) cur w HY VN]at hr';have Lo:=NV.append hf;have hl2:(cur.toList.take (c.2.length*g.k)++news).length=(c.2.length+Ts ys)*g.k:=by rw[Lo.1];simp
   refine fin (.slice (iN ⟨b,0,iF⟩) (c.2.length+Ts ys) cap) (w.setRow b (cur.toList.take (c.2.length*ie.size)++news++cur.toList.drop (c.2.length*ie.size+news.length)).toArray) (cur.toList.take (c.2.length*g.k)++news) (by rw[h1];exact hr') ⟨by rw[hl2,hlen],.inr ⟨b,cap,_,by rw[hlen],fq _,by rw[hge];exact setRow_heap w b cur _ e _ HY,by rw[hlen];exact hroom,hcm,?_,?_⟩⟩ (by rw[hmap];exact Lo) ⟨rfl,rfl,rfl,si,λb' _ hb'=>setRow_other w b b' _ (λe=>hb' (by rw[e,h1];rfl))⟩
    (λb' hb'=>.inr (by rw[h1];exact hb')) (λa m h=>by simp at h;omega) rfl
   ·grind
   grind
  ·refine grow _ cap (cur.toList.take (c.2.length*g.k)) h1 om NV ?_;rw[hsz,<-B2];refine run_firstCells_some w.drew g.k c.2.length ⟨b,0,iF⟩ c.2.length cap (cur.toList.take (c.2.length*g.k)) (by rw[NV.1];simp) (λq u hu=>?_);rw[add_lit,rX];have hq:q<c.2.length*g.k:=by grind
   show w.cell? ⟨b,q,iF⟩=iN u;grind[cell_of_row]
theorem akn(hr:Rel E w0 G0 st a w G){hi:dH}(ho:o.op=.slice t x iF (iN hi) iF)(ht:aY P t=iN ⟨.slice e,j1,j2,z⟩)(hi':aY P e=iN ie)
     (hx:st.ev x=.eF j g.aG) (hg:st.g[j]? = iN g) (hc:pW st.c j=iN c) {q:Int} (hq:mP (c.2.length:Int) (iN (st.ev hi))=iN q) (h0:0<=q) (h1:q<=(c.2.length:Int)) :
  kE P w0 G0 a w o {st with t:=cG st.t o.dst (.eF j (g.aG+1)),g:=st.g.set j {g with aG:=g.aG+1},c:=(j,⟨c.1,c.2.take (eJ q)⟩)::oO j st.c}:=by
 obtain⟨xt,kG,eG,-⟩:=aQ ht;obtain⟨xe,rW,BV,hsz,-⟩:=aQ hi';obtain⟨v,hj,hs,hval⟩:=hr.soft hg hc;have hv:=hr.ev x;rw[hx]at hv;have mQ:=hval _ hv;obtain⟨n0,xs0,Vb,Py,hb0⟩:=hr.boxes.grow j g v hj;have hlen:(c.2.take q.toNat).length=q.toNat:=by simp_all
 have hbi:=uE hr (lo:=iN hi) hq;have arN:=uE hr (lo:=iF) (d:=0) rfl;have key:∀(v':T1)(vals:J T1),(Instr.sliceAt t v iF (iN (a.eval hi)) iF).run P w=.ok v' w->w.ownsRow 0 g.e g.k v' (c.2.take q.toNat).length vals->Flat w G.pr g.k vals ((c.2.take q.toNat).map (c.1.cells E))->v'.ownBlock=v.ownBlock ->
   (∀a m,v'=.slice (iN a) m 0->E.zc g.e=hJ)->v'.oneCell'=hJ->kE P w0 G0 a w o {st with t:=cG st.t o.dst (.eF j (g.aG+1)),g:=st.g.set j {g with aG:=g.aG+1},c:=(j,⟨c.1,c.2.take (eJ q)⟩)::oO j st.c}:=by
  intro v' vals hrun hown hfl hblk hnz h1';obtain⟨G',hR,hV⟩:=hr.akm hg hc hj ⟨rfl,rfl,rfl,eo _,λ_ _ _=>rfl⟩ hown hfl (λb hb=>.inr (by rw[<-hblk];exact hb)) hnz h1';refine⟨.value v',v',w,G',?_,.inl rfl,hR.put hV o.dst⟩;simp[R0,ho];rw[mQ,hrun];rfl
 rcases hs.block with⟨q1,q2⟩|⟨b,cap,cur,q1,hheap,hcap,hcm,hcs,NV,hnp⟩
 ·have hq0:q=0:=by grind
  subst hq0;refine key (.slice iF 0 0) [] ?_ ?_ (by rw[q2];exact Flat.nil) (by rw[q1]) (λa m h=>by cases h) rfl
  ·have CZ:=Gp (P:=P) (isS:=hJ) (cap:=0) (eo _) arN (by rw[q2]at hbi;exact hbi) (abd _) (abd _) si w;rw[q1];simp at CZ;unfold Instr.sliceAt;unfold Instr.slice;simp only[jJ,aW eG,kn,CZ,fK rW];simp
  ·exact⟨si,.inl ⟨rfl,rfl⟩⟩
 ·refine key (.slice (iN ⟨b,0,iF⟩) q.toNat cap) (cur.toList.take (q.toNat*g.k)) ?_ ?_ ?_ (by rw[q1];rfl) (λa m h=>by
   simp_all) rfl
  ·have CZ:=Gp (P:=P) (isS:=hJ) hcap arN hbi (abd _) h0 h1 w;rw[q1];simp at CZ;unfold Instr.sliceAt;unfold Instr.slice;simp only[jJ,aW eG,kn,CZ,fK rW,aaY,add_lit];simp
  ·rw[hlen];refine⟨?_,.inr ⟨b,cap,cur,rfl,fq _,hheap,om,hcm,hcs,rfl⟩⟩;grind[List.length_take,Array.length_toList,Nat.min_eq_left,Nat.mul_le_mul_right]
  ·have h9:=NV.take (i:=q.toNat) aR;simp_all[Au,aa4,agX,List.map_take]
def ah8(P:bx)(ty:aL->O Ty)(st:TS E)(dst:O Nat)(cl:Call):O (Bool×TS E):=
 match cl.callee,cl.args.toList,cl.argTypes.toList with
 | .builtin .append,[x,y],[t,tx]=>match aY P t,aY P tx with
  | some ⟨.slice e,_,_,_⟩,iN ix=>match aY P e,st.ev x with
   | some ie,.eF j aG=>match st.g[j]?,pW st.c j with
    | some g,iN c=>match ah2 c.1 ix.kind (st.ev y)with
     | some ys=>iN (eI g.aG aG&&(eI g.e e&&(eI g.k ie.size&&(eI ie.size (c.1.size E)&&(dE 0 ie.size&&(eI ie.zero.cells.size ie.size &&
          (eK (c.2.length+Ts ys<=9223372036854775807)&&eK ((c.2.length+Ts ys)*ie.bytes<=140737488355328))))))),
       {st with t:=cG st.t dst (.eF j (g.aG+1)),g:=st.g.set j {g with aG:=g.aG+1},c:=(j,⟨c.1,c.2++ys⟩)::oO j st.c})
     | none=>iF
    | _,_=>iF
   | _,_=>iF
  | _,_=>iF
 | _,_,_=>iF
def DB(P:bx)(ty:aL->O Ty)(st:TS E)(dst:O Nat):Op->O (Bool×TS E)
 | .load t x=>match aY P t,st.ev x with
  | some i,.iZ j aG k ix off=>match st.g[j]?,pW st.c j with
   | some g,iN c=>match TV.part c.1 (c.2.getD ix (c.1.dflt E)) i.isAgg i.size off with
    | some d=>iN (eI g.aG aG&&eI k (c.1.size E),{st with t:=cG st.t dst d})
    | none=>iF
   | _,_=>iF
  | _,_=>iF
 | .store t x y=>match aY P t,st.ev x,(st.ev y).qd with
  | some i,.iZ j aG k ix off,iN ds=>match st.g[j]?,pW st.c j with
   | some g,iN c=>match (TV.dat (E:=E) c.1 (c.2.getD ix (c.1.dflt E))).qd with
    | some cs=>match Pq E 4 c.1 (cs.take off++ds++cs.drop (off+Ts ds))with
     | some (x',[])=>iN (eI g.aG aG&&(eI k (c.1.size E)&&(eI ds.length i.size&&iO (off+i.size) cs.length)),
       {st with t:=cG st.t dst .any,c:=(j,⟨c.1,c.2.set ix x'⟩)::oO j st.c})
     | _=>iF
    | none=>iF
   | _,_=>iF
  | _,_,_=>iF
 | .makeSlice t x y=>match aY P t with
  | some ⟨.slice e,_,_,_⟩=>match aY P e,ty e,st.ev x,st.ev y with
   | some ie,iN T,.dat (.int _) n,.dat (.int _) m=>match (zJ E (iN T) ie.zero).get T with
    | some z=>iN (eI ie.size (T.size E)&&(dE 0 ie.size&&(eI ie.zero.cells.size ie.size&&(ie.zero.cells.toList.all (·.oneCell') &&
       (eK (0<=n)&&(eK (n<=m)&&(eK (0<m)&&(eK (m<=9223372036854775807)&&eK ((ie.bytes:Int)*m<=140737488355328)))))))),
      {st with t:=cG st.t dst (.eF st.g.length 0),g:=st.g++[⟨0,e,ie.size⟩],c:=(Ts st.g,⟨T,aT (eJ n) z⟩)::st.c})
    | none=>iF
   | _,_,_,_=>iF
  | _=>iF
 | .slice t x iF (iN hi) iF=>match aY P t,st.ev x with
  | some ⟨.slice e,_,_,_⟩,.eF j aG=>match aY P e,st.g[j]?,pW st.c j with
   | some _,iN g,iN c=>match mP (c.2.length:Int) (iN (st.ev hi))with
    | some q=>iN (eI g.aG aG&&(eK (0<=q)&&eK (q<=(c.2.length:Int))),
      {st with t:=cG st.t dst (.eF j (g.aG+1)),g:=st.g.set j {g with aG:=g.aG+1},c:=(j,⟨c.1,c.2.take (eJ q)⟩)::oO j st.c})
    | none=>iF
   | _,_,_=>iF
  | _,_=>iF
 | .call cl=>ah8 P ty st dst cl|_=>iF
theorem ah9(hE:E.Ok)(hr:Rel E w0 G0 st a w G)(h:DB P ty st o.dst o.op=iN (cc,st'))(qf:cc=hJ):kE P w0 G0 a w o st':=by
 cases ho:o.op<;>rw[ho]at h<;>try trivial
 case load t x=>
  simp[DB]at h;split at h<;>try trivial
  rename_i i j aG k ix off ht hx;split at h<;>try trivial
  rename_i g c hg hc;split at h<;>try trivial
  rename_i d hp;cases h;rw[cK]at qf;obtain rfl:=eY qf.1;exact(JD hE hr ho ht hx hg hc (eY qf.2) hp).amB hr
 case store t x y=>
  simp[DB]at h;split at h<;>try trivial
  split at h<;>try trivial
  split at h<;>try trivial
  split at h<;>try trivial
  grind[Nat.eq_of_beq_eq_true,ae9,Nat.le_of_ble_eq_true]
 case makeSlice t x y=>
  simp only[DB]at h;split at h<;>try trivial
  rename_i e j1 j2 z0 ht;split at h<;>try trivial
  rename_i ie T k1 n k2 m hi hT hx hy;split at h<;>try trivial
  rename_i z hz;cases h;simp only[cK,fW]at qf;obtain⟨c1,c2,c3,c4,c5,c6,c7,c8,c9⟩:=qf;exact ah4 hE hr ho ht hi hx hy (eY c1) (lY c2) (eY c3) c4 hz c5 c6 c7 c8 c9
 case slice t x lo hi mx=>
  cases lo with
  | some _=>cases h
  | none=>
  cases hi with
  | none=>cases h
  | some hi=>
  cases mx with
  | some _=>cases h
  | none=>
  simp[DB]at h;split at h<;>try trivial
  split at h<;>try trivial
  split at h<;>try trivial
  grind[Nat.eq_of_beq_eq_true,akn]
 case call cl=>
  simp[DB]at h;unfold ah8 at h;split at h<;>try trivial
  ·split at h<;>try trivial
   split at h<;>try trivial
   rename_i ie j aG hi hx;split at h<;>try trivial
   split at h<;>try trivial
   cases h;simp only[cK]at qf;obtain⟨c1,c2,c3,c4,c5,c6,c7,c8⟩:=qf;have c5:=lY c5;grind[Ya,acM,Nat.eq_of_beq_eq_true]
def abo(P:bx)(ty:aL->O Ty)(st:TS E)(dst:O Nat)(op:Op):O (Bool×TS E):=match VX P ty st dst op with|some r=>iN r|none=>DB P ty st dst op
theorem afb(hE:E.Ok)(hr:Rel E w0 G0 st a w G){c:Bool}(h:abo P ty st o.dst o.op=iN (c,st'))(hc:c=hJ):kE P w0 G0 a w o st':=by grind[abo,ae7,ah9]
def aia:T1->T1->Bool|.bool a,.bool b=>a==b|.int k n,.int k' n'=>eK (k=k')&&eK (n=n')|_,_=>eQ
theorem apG{u:T1}(h:aia u v=hJ):u=v/\u.cells=#[u]:=by
 unfold aia at h;split at h
 ·rw[uL]at h;subst h;exact⟨rfl,rfl⟩
 ·simp at h;obtain⟨rfl,rfl⟩:=h;exact⟨rfl,rfl⟩
 ·cases h
def abp(P:bx)(st:TS E):Op->O (Bool×TV E)
 | .indexAddr t x ix=>match aY P t,st.ev ix with
  | some ⟨.array n e,_,_,_⟩,.dat (.int _) m=>match aY P e,st.ev x with
   | some i,.iZ j aG k i0 off=>match st.g[j]?,pW st.c j with
    | some g,iN c=>match eI g.aG aG&&(eI i.size k&&(eI i0 0&&eI off 0))with
     | true=>iN (eK (0<=m)&&(eK (m<(n:Int))&&eK (m<(c.2.length:Int))),.iZ j aG k (eJ m) 0)|false=>iF
    | _,_=>iF
   | _,_=>iF
  | _,_=>iF
 | _=>iF
variable{cur:aK T1}
theorem Rel.arr(hr:Rel E w0 G0 st a w G){i:Nat}(hg:st.g[j]? = iN g)(hc:pW st.c j=iN c)(hv:VT E w G (.iZ j g.aG k i off) v):
  ∃b cap cur,G.g[j]? = iN (g,.slice (iN ⟨b,0,iF⟩) c.2.length cap)/\i<c.2.length/\v=.pointer (iN ⟨b,i*k+off,iF⟩)/\w.heap[b]? = iN (.cells cur g.e (0,0))/\c.2.length<=cap/\cur.size=cap*g.k /\
   Flat w G.pr g.k (cur.toList.take (c.2.length*g.k)) (c.2.map (c.1.cells E))/\g.k=c.1.size E:=by
 obtain⟨b,m,cap,hj,hlt,mQ⟩:=hr.iZ hg hv;obtain⟨h,hj',hs,-⟩:=hr.soft hg hc;rw[hj]at hj';cases hj';rcases hs.block with⟨h1,-⟩|⟨b',cap',cur,h1,hheap,hcap,hcm,hcs,hf,hnp⟩
 ·cases h1
 obtain⟨rfl,rfl,rfl⟩:=h1;exact⟨b,cap,cur,hj,hlt,mQ,hheap,hcap,hcs,hf,hs.1⟩
theorem afc(hr:Rel E w0 G0 st a w G)(h:abp P st o.op=iN (cc,d))(hc:cc=hJ):jW P a w G o d:=by
 cases ho:o.op<;>rw[ho]at h<;>simp only[abp]at h<;>try trivial
 case indexAddr t x ix=>
  split at h<;>try trivial
  rename_i n e j1 j2 z kd m ht hn;obtain⟨xt,kG,eG,-⟩:=aQ ht;obtain⟨m,hm0⟩:∃q:Int,q=m:=⟨m,rfl⟩;subst hm0;have EM:=hr.ev ix;rw[hn]at EM;have VC:=EM.gq;split at h<;>try trivial
  rename_i i j aG k i0 off hi hx;obtain⟨xe,rW,BV,hsz,-⟩:=aQ hi;split at h<;>try trivial
  rename_i g c hg hcg;split at h<;>try trivial
  rename_i hs4;cases h;simp only[cK,fW]at hc hs4;obtain⟨c1,c2,c3,c4⟩:=hs4;obtain⟨c5,c6,c7⟩:=hc;have c1:=eY c1;have c2:=eY c2;have c3:=eY c3;have c4:=eY c4;have c7:m<(c.2.length:Int):=c7;subst c1 c3 c4;have hv:=hr.ev x;rw[hx]at hv;obtain⟨b,cap,cur,hj,hlt,mQ,-⟩:=hr.arr hg hcg hv;refine gr (f:=λρ=>Instr.indexAt t (ρ x) (ρ ix)) (by simp[R0,ho]) ⟨_,X9 hj om,λw' hs=>?_⟩;rw[mQ,VC];unfold Instr.indexAt asIntOf Instr.sureAddr;have h3:(0<=m/\m<(n:Int)):=⟨c5,c6⟩;simp only[jJ,qj,kn,aW eG,h3,and_self,if_true,fK rW,add_lit,hsz,c2,Nat.zero_mul,rX,OR]
def VY(P:bx)(ty:aL->O Ty)(st:TS E)(o:Op):O (Bool×TV E):=match VW P ty st o with|some x=>iN x|none=>abp P st o
theorem afd(hE:E.Ok)(hr:Rel E w0 G0 st a w G){c:Bool}(h:VY P ty st o.op=iN (c,d))(hc:c=hJ):jW P a w G o d:=by grind[VY,acJ,afc]
theorem Rel.af7(hr:Rel E w0 G0 st a w G)(hk:k=T.size E)(hk0:0<k)(hx0:0<Ts xs)(hm:Ts xs<=maxLen)(hcs:cur.size=Ts xs*k)
  (hf:Flat w G.pr k cur.toList (xs.map (T.cells E))) :
  Rel E w0 G0 {st with g:=st.g++[⟨0,e,k⟩],c:=(Ts st.g,⟨T,xs⟩)::st.c} a (w.alloc (.cells cur e)) {G with g:=G.g++[(⟨0,e,k⟩,.slice (iN ⟨w.heap.size,0,iF⟩) xs.length xs.length)]} /\
   (G.g++[(⟨0,e,k⟩,Value.slice (iN ⟨w.heap.size,0,iF⟩) xs.length xs.length)])[Ts st.g]? = iN (⟨0,e,k⟩,.slice (iN ⟨w.heap.size,0,iF⟩) xs.length xs.length):=by
 have hG:=hr.grow (fG.alloc w (.cells cur e)) rfl rfl rfl G.pr (λ_ _ h=>h) (λ_ _ _ h=>h) (λb o hp=>kD (hr.boxes.gN b o hp).1 si);have hnp:∀o,¬ G.pr w.heap.size o:=λo hp=>absurd (hr.boxes.gN _ _ hp).1 (As _);have hheap:(w.alloc (.cells cur e)).heap[w.heap.size]? = iN (.cells cur e):=heap_alloc_new w _;have htk:cur.toList.take (Ts xs*k)=cur.toList:=uK (by simp_all);have hown:(w.alloc (.cells cur e)).ownsRow 0 e k (.slice (iN ⟨w.heap.size,0,iF⟩) xs.length xs.length) xs.length (cur.toList.take (Ts xs*k)):=by refine⟨?_,.inr ⟨w.heap.size,Ts xs,cur,rfl,fq _,hheap,eo _,hm,hcs,rfl⟩⟩;simp_all
 have hA:=hG.DA ⟨0,e,k⟩ (.slice (iN ⟨w.heap.size,0,iF⟩) xs.length xs.length) ⟨Ts xs,_,hown,λa q h=>by simp_all,λb hb=>by
   cases hb;exact⟨si,λhm=>absurd (hr.boxes.lt _ hm) (As _),λo _ hp=>hnp o hp⟩⟩ (λb hb=>by cases hb;exact hr.fF.size) (λj y z b hj hzb hb=>by
   cases hb;obtain⟨n',xs',-,-,hb'⟩:=hr.boxes.grow j y z hj
   simp_all)
 have hrl:=hr.qZ;have lC:(G.g++[(⟨0,e,k⟩,Value.slice (iN ⟨w.heap.size,0,iF⟩) xs.length xs.length)])[Ts st.g]? = iN (⟨0,e,k⟩,.slice (iN ⟨w.heap.size,0,iF⟩) xs.length xs.length):=by rw[<-hrl];simp
 refine⟨hA.Yb ⟨⟨0,e,k⟩,_,lC,hk,hk0,⟨_,hown,?_⟩,λb hb o hp=>by cases hb;exact hnp o hp⟩,lC⟩;rw[htk];exact hf.mono (λ_ _ h=>h) (λb o v _ hv=>(fG.alloc w _).cell hv)
theorem afe(hE:E.Ok)(hr:Rel E w0 G0 st a w G){n:Nat}{z0:T1}(ho:o.op=.alloc t)(ht:aY P t=iN ⟨.array n e,j1,j2,z0⟩){z:T.den E.D}
  (hT:T.size E=1) (hn:0<n) (hm:n<=maxLen) (hzn:z0.cells.size=n) (hall:z0.cells.toList.all (aia ie.zero)=hJ) (hz1:ie.zero.cells.toList.all (·.oneCell')=hJ) (hz:(zJ E (iN T) ie.zero).get T=iN z) :
  kE P w0 G0 a w o {st with t:=cG st.t o.dst (.iZ st.g.length 0 1 0 0),g:=st.g++[⟨0,t,1⟩],c:=(Ts st.g,⟨T,aT n z⟩)::st.c}:=by
 have hzv:VT E w G (.dat T z) ie.zero:=TV.vA hz (RY hE hz1);have Zp:=hzv.Pz;have hcell:∀v,v∈z0.cells.toList->v=ie.zero/\ie.zero.cells=#[ie.zero]:=λv hv=>by grind[apG,List.all_eq_true]
 have hfl:Flat w G.pr 1 z0.cells.toList ((aT n z).map (T.cells E)):=by
  refine⟨by simp[hzn],λj hj=>?_,λj l hj hl=>?_⟩
  ·simp_all[Ty.BP]
  ·have hj:j<n:=by simpa using hj
   obtain rfl:l=0:=om;have e1:((aT n z).map (T.cells E)).getD j []=T.cells E z:=by simp[hj]
   have hjz:j<z0.cells.toList.length:=by simp[hzn,hj]
   have e2:z0.cells.toList.getD (j*1+0) M2=z0.cells.toList[j]:=by simp_all
   obtain⟨q1,q2⟩:=hcell _ (fm hjz);rw[e1,e2,q1];rw[q2]at Zp;cases hd:T.cells E z with|nil=>rw[hd]at Zp;exact Zp.elim|cons d ds=>rw[hd]at Zp;exact Zp.1
 obtain⟨hR,lC⟩:=hr.af7 hT.symm Nat.one_pos (by simpa using hn) (by simpa using hm) (by simp[hzn]) hfl;refine⟨.value _,_,_,_,?_,.inl rfl,hR.put (v:=.pointer (iN ⟨w.heap.size,0,iF⟩)) ?_ o.dst⟩
 ·simp[R0,ho,Instr.alloc,oy ht];rfl
 ·exact⟨⟨0,t,1⟩,_,lC,eo _,rfl,λ_=>⟨w.heap.size,_,_,rfl,by simpa using hn,si⟩⟩
theorem ako(hr:Rel E w0 G0 st a w G){n:Nat}(ho:o.op=.box t x)(hx:st.ev x=.uZ T xs)(hT:0<T.size E)(hn:0<n)(hm:n<=maxLen)(hl:Ts xs=n):
  kE P w0 G0 a w o {st with t:=cG st.t o.dst (.iZ st.g.length 0 (T.size E) 0 0),g:=st.g++[⟨0,t,T.size E⟩],c:=(Ts st.g,⟨T,xs⟩)::st.c}:=by
 have hv:=hr.ev x;rw[hx]at hv;obtain⟨vs,he,h1,hf⟩:=hv;obtain⟨hR,lC⟩:=hr.af7 rfl hT om om (by have:=hf.1;simpa using this) hf;refine⟨.value _,_,_,_,?_,.inl rfl,hR.put (v:=.pointer (iN ⟨w.heap.size,0,iF⟩)) ?_ o.dst⟩
 ·simp[R0,ho];rw[he];rfl
 ·exact⟨⟨0,t,T.size E⟩,_,lC,eo _,rfl,λ_=>⟨w.heap.size,_,_,rfl,om,si⟩⟩
theorem aff(hr:Rel E w0 G0 st a w G)(ho:o.op=.load t x)(ht:aY P t=iN i)(hag:i.isAgg=hJ)(hd:st.ev x=.iZ j g.aG k 0 0)
  (hg:st.g[j]? = iN g) (hc:pW st.c j=iN c) (hk:k=c.1.size E) (hsz:c.2.length*k=i.size):jW P a w G o (.uZ c.1 c.2):=by
 have hv:=hr.ev x;rw[hd]at hv;obtain⟨b,cap,cur,hj,hlt,mQ,hheap,hcap,hcs,hf,B2⟩:=hr.arr hg hc hv;have hle:i.size<=cur.size:=by rw[hcs,<-hsz,hk,<-B2];exact Au _ hcap
 have hrun:=λw' hs=>nU ht b 0 cur.size (λl=>cur.toList.getD l M2) (λl hl=>by
  rw[rX,cell_of_row w b l cur g.e (0,0) hheap];simp[hl]) 0 (by rw[hag];simpa using hle) w' hs
 have hls:((bY i.size).map λl=>cur.toList.getD (0+l) M2)=cur.toList.take (c.2.length*g.k):=by rw[B2,<-hk];refine Bo aR λq h1 h2=>?_;grind
 refine gr (f:=λρ=>Instr.loadAt t (ρ x)) (by simp[R0,ho]) ⟨.agg (cur.toList.take (c.2.length*g.k)).toArray,?_,λw' hs=>?_⟩
 ·refine⟨_,rfl,λu hu=>?_,by rw[<-B2];exact hf⟩;have hu:u∈cur.toList.take (c.2.length*g.k):=by simpa using hu
  obtain⟨q,hq,rfl⟩:=lH hu;have hlen:=hf.1;rw[jh]at hlen;have hk0:0<g.k:=by grind
  have hq1:q<c.2.length*g.k:=by rw[<-hlen];exact hq
  have:=hf.2.2 (q / g.k) (q%g.k) (by simp_all[jh,agK]) (US _ hk0);rw[show q / g.k*g.k+q%g.k=q by simp_all[aa0,Nat.div_add_mod]]at this;have e:(cur.toList.take (c.2.length*g.k)).getD q M2=(cur.toList.take (c.2.length*g.k))[q]:=by simp_all
  rw[e]at this;exact this.one
 ·have:=hrun w' (hs (by rw[ho];rfl));simp_all
def acN(P:bx)(ty:aL->O Ty)(st:TS E)(dst:O Nat):Op->O (Bool×TS E)
 | .alloc t=>match aY P t with
  | some ⟨.array n e,_,_,z0⟩=>match dE 8 n,aY P e,ty e with
   | true,iN ie,iN T=>match (zJ E (iN T) ie.zero).get T with
    | some z=>iN (eI (T.size E) 1&&(iO n 9223372036854775807&&(eI z0.cells.size n&&(z0.cells.toList.all (aia ie.zero)&&ie.zero.cells.toList.all (·.oneCell')))),
      {st with t:=cG st.t dst (.iZ st.g.length 0 1 0 0),g:=st.g++[⟨0,t,1⟩],c:=(Ts st.g,⟨T,aT n z⟩)::st.c})
    | none=>iF
   | _,_,_=>iF
  | _=>iF
 | .box t x=>match aY P t,st.ev x with
  | some ⟨.array n _,_,_,_⟩,.uZ T xs=>iN (dE 0 (T.size E)&&(dE 0 n&&(iO n 9223372036854775807&&eI xs.length n)),
    {st with t:=cG st.t dst (.iZ st.g.length 0 (T.size E) 0 0),g:=st.g++[⟨0,t,T.size E⟩],c:=(Ts st.g,⟨T,xs⟩)::st.c})
  | _,_=>iF
 | .load t x=>match aY P t,st.ev x with
  | some i,.iZ j aG k ix off=>match i.kind,st.g[j]?,pW st.c j with
   | .array _ _,iN g,iN c=>iN (i.isAgg&&(eI g.aG aG&&(eI k (c.1.size E)&&(eI ix 0&&(eI off 0&&eI (c.2.length*k) i.size)))),{st with t:=cG st.t dst (.uZ c.1 c.2)})
   | _,_,_=>iF
  | _,_=>iF
 | _=>iF
theorem aib(hE:E.Ok)(hr:Rel E w0 G0 st a w G)(h:acN P ty st o.dst o.op=iN (cc,st'))(qf:cc=hJ):kE P w0 G0 a w o st':=by
 have hmax:maxLen=9223372036854775807:=rfl;cases ho:o.op<;>rw[ho]at h<;>simp only[acN]at h<;>try trivial
 case alloc t=>
  split at h<;>try trivial
  rename_i n e j1 j2 z0 ht;split at h<;>try trivial
  rename_i ie T h8 hi hT;split at h<;>try trivial
  rename_i z hz;cases h;simp only[cK]at qf;obtain⟨c1,c2,c3,c4,c5⟩:=qf;exact afe hE hr ho ht (eY c1) (Nat.lt_of_le_of_lt (fq 8) (lY h8)) (by simp_all) (eY c3) c4 c5 hz
 case box t x=>
  split at h<;>try trivial
  rename_i n e j1 j2 z0 T xs ht hx;cases h;simp only[cK]at qf;obtain⟨c1,c2,c3,c4⟩:=qf;exact ako hr ho hx (lY c1) (lY c2) (by simp_all) (eY c4)
 case load t x=>
  split at h<;>try trivial
  rename_i i j aG k ix off ht hx;split at h<;>try trivial
  rename_i g c hk hg hc;cases h;simp only[cK]at qf;obtain⟨c1,c2,c3,c4,c5,c6⟩:=qf;have c2:=eY c2;have c4:=eY c4;have c5:=eY c5;subst c2 c4 c5;exact(aff hr ho ht c1 hx hg hc (eY c3) (eY c6)).amB hr
def aic(P:bx)(ty:aL->O Ty)(st:TS E)(dst:O Nat)(op:Op):O (Bool×TS E):=match acN P ty st dst op with|some r=>iN r|none=>abo P ty st dst op
theorem aid(hE:E.Ok)(hr:Rel E w0 G0 st a w G){c:Bool}(h:aic P ty st o.dst o.op=iN (c,st'))(hc:c=hJ):kE P w0 G0 a w o st':=by grind[aic,aib,afb]
variable{b:Nat}
def VZ(P:bx)(st:TS E):Op->O (Bool×TV E)
 | .indexAddr t x ix=>match aY P t,st.ev ix with
  | some ⟨.slice e,_,_,_⟩,.dat (.int _) m=>match aY P e,st.ev x with
   | some i,.iW r n cap=>iN (eI i.size 1&&(eK (0<=m)&&eK (m<(n:Int))),.ptr r (eJ m))|_,_=>iF
  | _,_=>iF
 | .call c=>match c.callee,c.args.toList,c.argTypes.toList with
  | .builtin .len,[x],[t]=>match aY P t,st.ev x with
   | some ⟨.slice _,_,_,_⟩,.iW r n cap=>iN (hJ,.dat (.int .i64) (n:Int))|_,_=>iF
  | _,_,_=>iF
 | .load t x=>match aY P t,st.ev x with
  | some i,.ptr r off=>match st.H[r]? with
   | some (.mI e cap T xs d)=>iN (eI i.size 1&&(!i.isAgg&&eI off xs.length),d)|_=>iF
  | _,_=>iF
 | _=>iF
theorem Zv{n:Nat}(h:w.heap[b]? = iN (.cells cur e (0,0)))(hn:n<cur.size):w.cell? ⟨b,n,iF⟩=iN (cur.getD n M2):=by rw[cell_of_row w b n cur e (0,0) h];simp[hn]
theorem NW(hi:aY P t=iN i)(hs:i.size=1)(ha:i.isAgg=eQ){n:Nat}(W:U)(h:W.cell? ⟨b,n,iF⟩=iN v):(Instr.loadAt t (.pointer (iN ⟨b,n,iF⟩))).run P W=.ok v W:=by
 have hrow:=nU hi b n 1 (λ_=>v) (λl hl=>by
  simp_all) 0 (by rw[ha];simp) W (fG.refl W)
 simp_all
theorem afg(hE:E.Ok)(hr:Rel E w0 G0 st a w G)(h:VZ P st o.op=iN (cc,d))(hc:cc=hJ):jW P a w G o d:=by
 cases ho:o.op<;>rw[ho]at h<;>simp[VZ]at h<;>try trivial
 case indexAddr t x ix=>
  split at h<;>try trivial
  rename_i e j1 j2 z kd m ht hn;obtain⟨xt,kG,eG,-⟩:=aQ ht;obtain⟨m,hm0⟩:∃q:Int,q=m:=⟨m,rfl⟩;have EM:=hr.ev ix;rw[hn]at EM;have VC:=EM.gq;split at h<;>try trivial
  rename_i i r n cap hi hx;obtain⟨xe,rW,BV,hsz,-⟩:=aQ hi;cases h;simp at hc;have hv:=hr.ev x;rw[hx]at hv;obtain⟨b,mQ,hat⟩:=hv;refine gr (f:=λρ=>Instr.indexAt t (ρ x) (ρ ix)) (by simp[R0,ho]) ⟨.pointer (iN ⟨b,m.toNat,iF⟩),?_,λw' hs=>?_⟩
  ·simp_all[VT]
  rw[mQ];unfold Instr.indexAt asIntOf;simp[qj,aW eG];simp_all[and_self,if_true,jJ,fK,kn,qj,add_lit,rX,Rc]
 case load t x=>
  split at h<;>try trivial
  rename_i i r off hi hx;split at h<;>try trivial
  rename_i e cap T xs d' hb;cases h;simp only[cK,wR]at hc;obtain⟨c1,c2,c3⟩:=hc;have c1:=eY c1;have c3:=eY c3;subst c3;have hv:=hr.ev x;rw[hx]at hv;obtain⟨b,mQ,hat⟩:=hv;obtain⟨cur,h1,h2,h4,h5,h6⟩:=hr.box hat hb;refine⟨_,h5,λw' hs=>?_⟩;have hb':w'.heap[b]? = iN (.cells cur e (0,0)):=by rw[(hs (by rw[ho];rfl)).2 b (Bp.1 h1).1];exact h1
  have:=NW hi c1 c2 w' (Zv hb' (by rw[h2];exact h6));simp[R0,ho,mQ,this]
 case call c'=>
  split at h<;>try trivial
  rename_i x t hcl ha hat;have gX:c'.args=#[x]:=by grind
  have zo:c'.argTypes=#[t]:=by grind
  split at h<;>try trivial
  rename_i e j1 j2 z r n cap ht hx;cases h;have hv:=hr.ev x;rw[hx]at hv;obtain⟨b,mQ,hat⟩:=hv;obtain⟨xt,kG,eG,-⟩:=aQ ht;refine⟨_,.int _ _ _ _,λw' hs=>?_⟩;unfold R0;simp[ho,resolve,hcl,invoke,builtin,gX,zo];rw[mQ];simp[Builtin.len_,aW eG,goInt]
def TV.amM:TV E->O (J (TV E))|.dat t x=>cond t.isAgg (Jx E 4 t x) iF|.agg cs=>iN cs|_=>iF
theorem aie(hE:E.Ok)(hv:VT E w G d v)(h:d.amM=iN cs):∃vs:aK T1,v=.agg vs/\bO E w G cs vs.toList:=by
 cases d<;>try trivial
 case dat t x=>
  simp only[TV.amM]at h;cases ha:t.isAgg<;>rw[ha]at h<;>simp only[aU,aJ]at h
  ·cases h
  ·obtain⟨vs,rfl,h0⟩:=hv.ahU ha;exact⟨vs,rfl,zH hE 4 t x h0 h⟩
 case agg ds=>cases h;simp only[VT]at hv;obtain⟨vs,rfl,h1,h2⟩:=hv;exact⟨vs,rfl,h2⟩
def aif:J (TV E)->J (Nat×TV E)->O (J (TV E))
 | cs,[]=>iN cs|cs,(j,d)::rest=>match d.qd with
  | some [u]=>cond (iO (j+1) cs.length) (aif (cs.take j++[u]++cs.drop (j+1)) rest) iF|_=>iF
theorem Zw(hE:E.Ok)(hr:Rel E w0 G0 st a w G):∀(parts:J (Nat×dH))(cells:aK T1)(ds:J (TV E)){ds':J (TV E)},bO E w G ds cells.toList->(∀u,u∈cells.toList->u.oneCell'=hJ) ->
  aif ds (parts.map λp=>(p.1,st.ev p.2))=iN ds' ->
  ∃cells':aK T1,Instr.fill (λi=>iN (i*1,1)) cells (parts.map λp=>(p.1,a.eval p.2))=iN cells'/\bO E w G ds' cells'.toList/\∀u,u∈cells'.toList->u.oneCell'=hJ
 | [],cells,ds,ds',h,h1,hf=>by cases hf;exact⟨cells,rfl,h,h1⟩
 | (j,x)::rest,cells,ds,ds',h,h1,hf=>by
  simp only[jI,aif]at hf;split at hf<;>try trivial
  rename_i u hl;cases hb:iO (j+1) ds.length<;>rw[hb]at hf<;>simp only[aU,aJ]at hf
  ·cases hf
  have hle:=lY hb;obtain⟨hx,hx1⟩:=tW hE (hr.ev x) hl;have hlen:(a.eval x).cells.size=1:=by simpa using hx.length
  have hcl:cells.size=Ts ds:=by simpa using h.length
  simp only[jI];rw[Pr (off:=j) (size:=1) si hlen om,hlen];refine Zw hE hr rest _ _ ?_ ?_ hf
  ·simp only[];exact((h.take _).append hx).append (h.drop _)
  ·intro u hu;simp only[ni]at hu;rcases hu with (hu|hu)|hu
   ·exact h1 u (Mh hu)
   ·exact hx1 u (by simpa using hu)
   ·exact h1 u (agY hu)
theorem af8{T:Ty}:∀ {ds:J (TV E)}{us:J T1}{xs:J (T.den E.D)},pF T ds=iN xs->bO E w G ds us->∀m,m<Ts xs->∃u,us[m]? = iN u/\VT E w G (.dat T (xs.getD m (T.dflt E))) u
 | [],us,xs,h,hv,m,hm=>by simp only[pF]at h;cases h;simp at hm
 | d::ds,us,xs,h,hv,m,hm=>by
  simp only[pF]at h;split at h<;>try trivial
  rename_i x xs' e1 e2;cases h;obtain⟨u,us',rfl,q1,q2⟩:=hv.cons_inv;cases m with|zero=>exact⟨u,rfl,TV.vA e1 q1⟩|succ m=>exact af8 e2 q2 m (by simpa using hm)
def abq(P:bx)(ty:aL->O Ty)(st:TS E):Op->O (Bool×TV E)
 | .build t parts=>match aY P t with
  | some ⟨.array _ e,_,_,.agg z⟩=>match aY P e,aif (z.toList.map TV.Ll) (parts.toList.map λp=>(p.1,st.ev p.2))with
   | some i,iN ds=>iN (eI i.size 1&&z.toList.all (·.oneCell'),RU E (ty t) ds)
   | _,_=>iF
  | _=>iF
 | .index t x ix=>match aY P t,st.ev ix with
  | some ⟨.array n e,_,_,_⟩,.dat (.int _) m=>match aY P e,ty e,(st.ev x).amM with
   | some i,iN T,iN cs=>match pF T cs with
    | some xs=>iN (eI i.size 1&&(!i.isAgg&&(eI n xs.length&&(eK (0<=m)&&eK (m<(n:Int))))),.dat T (xs.getD (eJ m) (T.dflt E)))|none=>iF
   | _,_,_=>iF
  | _,_=>iF
 | _=>iF
theorem afh(hE:E.Ok)(hr:Rel E w0 G0 st a w G)(h:abq P ty st o.op=iN (cc,d))(hc:cc=hJ):jW P a w G o d:=by
 cases ho:o.op<;>rw[ho]at h<;>simp only[abq]at h<;>try trivial
 case build t parts=>
  split at h<;>try trivial
  rename_i n e j1 j2 z ht;split at h<;>try trivial
  rename_i i ds hi hp;cases h;rw[cK]at hc;have c1:=eY hc.1;obtain⟨xt,kG,eG,-,-,hz⟩:=aQ ht;obtain⟨xe,rW,-,hsz,-⟩:=aQ hi;obtain⟨cells,hf,hl,hl1⟩:=Zw hE hr parts.toList z (z.toList.map TV.Ll) bO.ofValues (λu hu=>pP.1 hc.2 u hu) hp;refine gr (f:=λρ=>Instr.build t (parts.map λ(i,x)=>(i,ρ x))) (by simp[R0,ho]) ⟨.agg cells,KA hE hl hl1,λw' hs=>?_⟩;refine run_build w' t _ cells ?_;unfold Program.built;simp only[kG,eG,hz,rW,hsz,c1];rw[show(parts.map λ(i,x)=>(i,a.eval x)).toList=parts.toList.map λp=>(p.1,a.eval p.2) by simp];exact hf
 case index t x ix=>
  split at h<;>try trivial
  rename_i n e j1 j2 z kd m ht hn;obtain⟨m,hm0⟩:∃q:Int,q=m:=⟨m,rfl⟩;subst hm0;have EM:=hr.ev ix;rw[hn]at EM;have VC:=EM.gq;split at h<;>try trivial
  rename_i i T cs hi hT hx;split at h<;>try trivial
  rename_i xs hxs;cases h;simp only[cK,wR,fW]at hc;obtain⟨c1,c2,c3,c4,c5⟩:=hc;have c1:=eY c1;have c3:=eY c3;have c4:(0:Int)<=m:=c4;have c5:m<(n:Int):=c5;obtain⟨xt,kG,eG,-⟩:=aQ ht;obtain⟨xe,rW,-,hsz,-⟩:=aQ hi;obtain⟨vs,mQ,hvs⟩:=aie hE (hr.ev x) hx;obtain⟨u,hu,hv⟩:=af8 hxs hvs m.toNat om;refine gr (f:=λρ=>Instr.index t (ρ x) (ρ ix)) (by simp[R0,ho]) ⟨u,hv,λw' hs=>?_⟩;rw[mQ,VC];unfold Instr.index asIntOf part;have h3:(0<=m/\m<((n:Nat):Int)):=⟨c4,c5⟩;simp at hu;simp only[jJ,qj,kn,aW eG,h3,and_self,if_true,fK rW,hsz,c1,Rc,Vw hi,c2];simp[hu]
def V0(P:bx)(ty:aL->O Ty)(st:TS E)(o:Op):O (Bool×TV E):=match VY P ty st o with
 | some x=>iN x|none=>match VZ P st o with
  | some x=>iN x|none=>abq P ty st o
theorem Th(hE:E.Ok)(hr:Rel E w0 G0 st a w G){c:Bool}(h:V0 P ty st o.op=iN (c,d))(hc:c=hJ):jW P a w G o d:=by
 unfold V0 at h;split at h
 ·rename_i x hx;cases h;exact afd hE hr hx hc
 ·split at h
  ·rename_i x hx;cases h;exact afg hE hr hx hc
  ·exact afh hE hr h hc
def aih(P:bx)(st:TS E)(dst:O Nat):Op->O (Bool×TS E)
 | .store t x y=>match aY P t,st.ev x,(st.ev y).qd with
  | some i,.ptr r off,iN [u]=>match st.H[r]? with
   | some (.mI e cap T xs d)=>iN (eI i.size 1&&eI off xs.length,{st with t:=cG st.t dst .any,H:=st.H.set r (.mI e cap T xs u),d:=r::st.d})
   | _=>iF
  | _,_,_=>iF
 | _=>iF
theorem aii(hE:E.Ok)(hr:Rel E w0 G0 st a w G){c:Bool}(h:aih P st o.dst o.op=iN (c,st'))(hc:c=hJ):kE P w0 G0 a w o st':=by
 cases ho:o.op<;>rw[ho]at h<;>simp[aih]at h<;>try trivial
 case store t x y=>
  split at h<;>try trivial
  rename_i i r off u ht hd hy;split at h<;>try trivial
  rename_i e cap T xs d hb;cases h;rw[cK]at hc;have c1:=eY hc.1;have c2:=eY hc.2;have AX:=hr.ev x;rw[hd]at AX;obtain⟨b,he,hat⟩:=AX;obtain⟨vs,hh,hsz,hxs,hdv,hlt⟩:=hr.box hat hb;obtain⟨hl,hl1⟩:=tW hE (hr.ev y) hy;have hlen:(a.eval y).cells.toList.length=1:=by rw[hl.length];rfl
  have hlen':(a.eval y).cells.size=i.size:=by rw[c1];simpa using hlen
  obtain⟨v,hv⟩:∃v,(a.eval y).cells.toList=[v]:=by
   match hq:(a.eval y).cells.toList,hlen with|[v],_=>exact⟨v,rfl⟩
  obtain⟨xt,kG,-,au5,-⟩:=aQ ht;have hfit:Ts xs+0+(a.eval y).cells.toList.length<=vs.size:=by rw[hsz];omega
  have VK:=run_storeCells_at (P:=P) b xs.length e (a.eval y).cells.toList 0 vs w hh hfit (λv hv=>hl1 v (by simpa using hv));obtain⟨new,hnw⟩:∃new,new=(vs.toList.take xs.length++(a.eval y).cells.toList++vs.toList.drop (Ts xs+(a.eval y).cells.toList.length)).toArray:=⟨_,rfl⟩;have hrun:(R0 a.eval o).run P w=.ok .skip (w.setRow b new):=by simp[R0,ho,Instr.storeAt,Instr.sureAddr,he,storeVar,fK kG];simp_all
  have hnew:(w.setRow b new).heap[b]? = iN (.cells new e (0,0)):=setRow_heap w b vs _ e _ hh;have Fx:∀b',b'≠b->(w.setRow b new).heap[b']? = w.heap[b']?:=λb' hb'=>setRow_other w b b' _ hb';have rV:new.size=cap:=by grind
  have PF:∀q,new.getD q M2=if q=Ts xs then v else vs.getD q M2:=by
   intro q;rw[Rl,Rl];have htl:(vs.toList.take xs.length).length=Ts xs:=by grind
   by_cases h1:q<Ts xs
   ·grind
   ·by_cases h2:q=Ts xs
    ·simp_all
    ·rw[if_neg h2];grind
  have hR:=hr.zI (w':=w.setRow b new) hat si rfl rfl rfl Fx (x:=.mI e cap T xs u) (λhg=>by
   refine⟨new,hnew,rV,λq x hx=>?_,?_,hlt⟩
   ·have hq:=(fC.1 hx).1;rw[PF,if_neg om];exact(hxs q x hx).mono hg
   ·rw[PF,if_pos rfl]
    have:=hl.mono hg;rw[hv]at this;obtain⟨u',us,e1,h1,-⟩:=this.cons_inv;cases e1;exact h1)
  exact⟨_,M2,_,G,hrun,.inr ⟨rfl,rfl⟩,hR.put (by simp[VT]) o.dst⟩
def acO(P:bx)(ty:aL->O Ty)(st:TS E)(dst:O Nat)(op:Op):O (Bool×TS E):=match acL P ty st dst op with
 | some r=>iN r|none=>match aic P ty st dst op with
  | some r=>iN r|none=>aih P st dst op
theorem aij(hE:E.Ok)(hr:Rel E w0 G0 st a w G){c:Bool}(h:acO P ty st o.dst o.op=iN (c,st'))(hc:c=hJ):kE P w0 G0 a w o st':=by grind[acO,ah6,aid,aii]
inductive acP where
 | ptr|iface|func|slice|map
 deriving DecidableEq
def acP.val:acP->T1|.ptr=>.pointer iF|.iface=>.nilIface|.func=>.nilFunc|.slice=>.slice iF 0 0|.map=>.map iF
def amN:T1->O acP|.pointer iF=>iN .ptr|.nilIface=>iN .iface|.nilFunc=>iN .func|.slice iF 0 0=>iN .slice|.map iF=>iN .map|_=>iF
theorem apH{k:acP}(h:amN v=iN k):v=k.val:=by unfold amN at h;split at h<;>cases h<;>rfl
inductive CT where
 | dat (t:Ty)
 | any
 | ptr (r off:Nat)
 | qY (r off:Nat)
 | jS (r:Nat)
 | vz (r:Nat)
 | cH (j:Nat) (t:Ty)
 | eF (j:Nat)
 | func (f:H5) (caps:List (Nat×Nat))
 | nil (k:acP)
 | tT (t:Ty) (off:Nat)
 | iface (ty:TypeId) (t:Ty)
 | iZ (j k:Nat)
 | uZ (t:Ty)
 | lb (b:Bool)
 | li (k:IntKind) (n:Int)
 | pk (t:Ty)
def CT.pk? : CT->O Ty|.pk t=>iN t|_=>iF
inductive PT where
 | one (c:CT)
 | agg (cs:List CT)
 | dI (cs:List CT)
inductive BT where
 | cells (ty:TypeId) (cs:List CT)
 | map (kt vt:Ty)
 | iter
 | loop (y:Nat) (cs:List CT)
def CT.tys:CT->J Ty|.dat t=>[t]|.qY _ _=>[.bool]|.cH _ t=>[.bz t]|.tT t _=>[t]|.iface _ t=>[t]|.uZ t=>[.bz t]|.pk t=>[t]|_=>[]
def CT.acQ:J CT->J Ty|[]=>[]|c::cs=>c.tys++acQ cs
def PT.tys:PT->J Ty|.one c=>c.tys|.agg cs=>CT.acQ cs|.dI cs=>CT.acQ cs
def BT.tys:BT->J Ty|.cells _ cs=>CT.acQ cs|.loop _ cs=>CT.acQ cs|.map kt vt=>[.bz (.pair kt vt)]|.iter=>[.str,.int .i64]
abbrev Lf(E:TEnv):=(t:Ty)×t.den E.D
@[reducible] def dens (E : TEnv) : J Ty -> Type
 | []=>Unit|[t]=>t.den E.D|t::u::ts=>t.den E.D×dens E (u::ts)
def abr(t:Ty)(x:Lf E):O (t.den E.D):=if h:x.1=t then iN (h▸x.2)else iF
def getAll:(ts:J Ty)->J (Lf E)->O (dens E ts)
 | [],[]=>iN ()|[],_::_=>iF|[t],[x]=>abr t x|[_],[]=>iF|[_],_::_::_=>iF|t::u::ts,x::xs=>match abr t x,getAll (u::ts) xs with
  | some y,iN ys=>iN (y,ys)|_,_=>iF
 | _::_::_,[]=>iF
def aV:(ts:J Ty)->dens E ts->J (Lf E)|[],_=>[]|[t],x=>[⟨t,x⟩]|t::u::ts,x=>⟨t,x.1⟩::aV (u::ts) x.2
theorem acR{t:Ty}{x:Lf E}{y:t.den E.D}(h:abr t x=iN y):x=⟨t,y⟩:=by grind[abr]
theorem EO:∀(ts:J Ty){ls:J (Lf E)}{x:dens E ts},getAll ts ls=iN x->aV ts x=ls
 | [],[],_,_=>rfl|[],_::_,_,h=>by cases h
 | [t],[l],x,h=>by grind[getAll,aV,acR]|[_],[],_,h=>by cases h
 | [_],_::_::_,_,h=>by cases h
 | t::u::ts,l::ls,x,h=>by
  simp[getAll]at h;split at h<;>try trivial
  rename_i y ys h1 h2;cases h;simp[aV,acR h1,EO (u::ts) h2]
 | _::_::_,[],_,h=>by cases h
structure Rn where
 b:List Nat
 g:List Nat
 v:List Nat
def xD(a b c d:Nat):Bool:=eI a b&&eI c d
def PG(n:Rn):J (Nat×Nat)->J (TV E)->Bool
 | [],[]=>hJ|(r,off)::cs,d::ds=>(match n.b[r]?,d with
  | some r',.ptr r'' off'=>xD r' r'' off off'|_,_=>eQ)&&PG n cs ds
 | _,_=>eQ
def Hq(n:Rn):J (Nat×Nat)->J (TV E)
 | []=>[]|(r,off)::cs=>(match n.b[r]? with|some r'=>.ptr r' off|none=>.any)::Hq n cs
def CT.get(n:Rn):CT->TV E->O (J (Lf E))
 | .dat t,d=>match d.get t with|some x=>iN [⟨t,x⟩]|none=>iF
 | .any,_=>iN []|.ptr r off,.ptr r' off'=>match n.b[r]? with
  | some r''=>cond (xD r'' r' off off') (iN []) iF|none=>iF
 | .qY r off,.qY b r' off'=>match n.b[r]? with
  | some r''=>cond (xD r'' r' off off') (iN [⟨.bool,b⟩]) iF|none=>iF
 | .qY r off,.ptr r' off'=>match n.b[r]? with
  | some r''=>cond (xD r'' r' off off') (iN [⟨.bool,hJ⟩]) iF|none=>iF
 | .qY _ _,.val (.pointer iF)=>iN [⟨.bool,eQ⟩]|.jS r,.jS r'=>match n.b[r]? with
  | some r''=>cond (eI r'' r') (iN []) iF|none=>iF
 | .vz r,.vz r'=>match n.b[r]? with
  | some r''=>cond (eI r'' r') (iN []) iF|none=>iF
 | .cH j t,.cH j' aG t' xs=>match n.g[j]?,n.v[j]? with
  | some JE,iN v=>if h:t'=t then cond (xD JE j' v aG) (iN [⟨.bz t,(h▸xs:J (t.den E.D))⟩]) iF else iF
  | _,_=>iF
 | .func f caps,.func (.func f') cs=>cond (eI f f'&&PG n caps cs) (iN []) iF|.nil k,.val v=>match amN v with|some k'=>cond (eK (k=k')) (iN []) iF|none=>iF
 | .tT t off,.tT t' y off'=>if h:t'=t then cond (eI off off') (iN [⟨t,h▸y⟩]) iF else iF
 | .iface ty t,.iface ty' d=>match d.get t with|some x=>cond (eI ty ty') (iN [⟨t,x⟩]) iF|none=>iF
 | .eF j,.eF j' aG=>match n.g[j]?,n.v[j]? with
  | some JE,iN v=>cond (xD JE j' v aG) (iN []) iF|_,_=>iF
 | .iZ j k,.iZ j' aG k' i off=>match n.g[j]?,n.v[j]? with
  | some JE,iN v=>cond (xD JE j' v aG&&(eI k k'&&xD i 0 off 0)) (iN []) iF|_,_=>iF
 | .uZ t,.uZ t' xs=>if h:t'=t then iN [⟨.bz t,(h▸xs:J (t.den E.D))⟩]else iF
 | .lb b,.dat .bool x=>cond (b==x) (iN []) iF|.li k n,.dat (.int k') x=>cond (eK (k=k')&&eK (n=x)) (iN []) iF|_,_=>iF
def CT.put(n:Rn):CT->J (Lf E)->TV E×J (Lf E)
 | .dat _,l::ls=>(.dat l.1 l.2,ls)|.ptr r off,ls=>(match n.b[r]? with|some r'=>.ptr r' off|none=>.any,ls)
 | .qY r off,l::ls=>(match n.b[r]?,l with|some r',⟨.bool,b⟩=>.qY b r' off|_,_=>.any,ls)
 | .jS r,ls=>(match n.b[r]? with|some r'=>.jS r'|none=>.any,ls)
 | .vz r,ls=>(match n.b[r]? with|some r'=>.vz r'|none=>.any,ls)
 | .cH j _,l::ls=>(match n.g[j]?,n.v[j]?,l with|some j',iN v,⟨.bz t,xs⟩=>.cH j' v t xs|_,_,_=>.any,ls)
 | .func f caps,ls=>(.func (.func f) (Hq n caps),ls)|.nil k,ls=>(.val k.val,ls)|.tT _ off,l::ls=>(.tT l.1 l.2 off,ls)|.iface ty _,l::ls=>(.iface ty (.dat l.1 l.2),ls)|.eF j,ls=>(match n.g[j]?,n.v[j]? with|some j',iN v=>.eF j' v|_,_=>.any,ls)
 | .iZ j k,ls=>(match n.g[j]?,n.v[j]? with|some j',iN v=>.iZ j' v k 0 0|_,_=>.any,ls)
 | .uZ _,l::ls=>(match l with|⟨.bz t,xs⟩=>.uZ t xs|_=>.any,ls)
 | .lb b,ls=>(.dat .bool b,ls)|.li k n,ls=>(.dat (.int k) n,ls)|_,ls=>(.any,ls)
def CT.arO(t:Ty)(ds:J (TV E)):O (t.den E.D×J (TV E)):=match Pq E 4 t ds with
 | some p=>match Jx E 4 t p.1 with
  | some _=>iN p|none=>iF
 | none=>iF
def CT.MM:J (Lf E)->J (TV E)×J (Lf E)
 | l::ls=>(match Jx E 4 l.1 l.2 with|some cs=>cs|none=>[],ls)
 | []=>([],[])
def CT.KD(n:Rn):J CT->J (TV E)->O (J (Lf E))
 | [],[]=>iN []|[],_::_=>iF|c::cs,ds=>match c.pk? with
  | some t=>match CT.arO t ds with
   | some p=>match KD n cs p.2 with
    | some ls=>iN (⟨t,p.1⟩::ls)|none=>iF
   | none=>iF
  | none=>match ds with
   | d::ds=>match c.get n d,KD n cs ds with
    | some l,iN ls=>iN (l++ls)|_,_=>iF
   | []=>iF
def CT.qw(n:Rn):J CT->J (Lf E)->J (TV E)×J (Lf E)
 | [],ls=>([],ls)|c::cs,ls=>match c.pk? with
  | some _=>((CT.MM ls).1++(qw n cs (CT.MM ls).2).1,(qw n cs (CT.MM ls).2).2)|none=>((c.put n ls).1::(qw n cs (c.put n ls).2).1,(qw n cs (c.put n ls).2).2)
def PT.get(n:Rn):PT->TV E->O (J (Lf E))|.one c,d=>c.get n d|.agg cs,.agg ds=>CT.KD n cs ds|.dI cs,.tuple ds=>CT.KD n cs ds|_,_=>iF
def PT.put(n:Rn):PT->J (Lf E)->TV E×J (Lf E)|.one c,ls=>c.put n ls|.agg cs,ls=>(.agg (CT.qw n cs ls).1,(CT.qw n cs ls).2)|.dI cs,ls=>(.tuple (CT.qw n cs ls).1,(CT.qw n cs ls).2)
def BT.get(n:Rn):BT->gf E->O (J (Lf E))
 | .cells ty cs,.cells ty' ds=>cond (eI ty ty') (CT.KD n cs ds) iF|.map kt vt,.map kt' vt' m=>if h:Ty.bz (.pair kt' vt')=.bz (.pair kt vt)then iN [⟨.bz (.pair kt vt),(h▸(show(Ty.bz (.pair kt' vt')).den E.D from m):(Ty.bz (.pair kt vt)).den E.D)⟩]else iF
 | .iter,.iter s pos=>iN [⟨.str,s⟩,⟨.int .i64,(pos:Int)⟩]|.loop y cs,.loop y' ds=>cond (eI y y') (CT.KD n cs ds) iF|_,_=>iF
def BT.put(n:Rn):BT->J (Lf E)->gf E×J (Lf E)
 | .cells ty cs,ls=>(.cells ty (CT.qw n cs ls).1,(CT.qw n cs ls).2)|.loop y cs,ls=>(.loop y (CT.qw n cs ls).1,(CT.qw n cs ls).2)|.map _ _,l::ls=>(match l with|⟨.bz (.pair kt vt),m⟩=>.map kt vt m|_=>.iter [] 0,ls)
 | .iter,l::l'::ls=>(match l,l' with|⟨.str,s⟩,⟨.int _,p⟩=>.iter s (eJ p)|_,_=>.iter [] 0,ls)
 | _,ls=>(.iter [] 0,ls)
structure DC(w:World)(G:bB)(n:Rn)(G2:bB)(n2:Rn):Prop where
 pr:∀b o,G.pr b o->G2.pr b o
 i:∀(r r' b:Nat),n.b[r]? = iN r'->G.i[r']? = iN b->∃r2,n2.b[r]? = iN r2/\G2.i[r2]? = iN b
 g:∀(j j' v:Nat) x h,n.g[j]? = iN j'->n.v[j]? = iN v->G.g[j']? = iN (x,h)->x.aG=v/\∃j2 v2 x2,n2.g[j]? = iN j2/\n2.v[j]? = iN v2/\G2.g[j2]? = iN (x2,h)/\x2.aG=v2
theorem AZ{a c d:Nat}(h:xD a b c d=hJ):a=b/\c=d:=by simp_all[xD,cK,eY]
variable{G2:bB}{n n2:Rn}{ls rest:J (Lf E)}
theorem VT.ua{t:Ty}{x:t.den E.D}(h:VT E w G (.dat t x) v)(hp:∀b o,G.pr b o->G2.pr b o):VT E w G2 (.dat t x) v:=by
 cases ha:t.isAgg
 ·exact .RO ha ((h.atom ha).mono hp (λ_ _ _ _ h=>h))
 ·obtain⟨vs,rfl,h0⟩:=h.ahU ha;simp only[VT,ha];exact⟨vs,rfl,h0.mono hp (λ_ _ _ _ h=>h)⟩
theorem af9(hL:DC w G n G2 n2):∀(caps:J (Nat×Nat)){cs:J (TV E)}{vs:J T1},PG n caps cs=hJ->bO E w G cs vs->bO E w G2 (Hq n2 caps:J (TV E)) vs
 | [],[],vs,_,h=>h|(r,off)::caps,d::ds,vs,hc,h=>by
  simp[PG]at hc;obtain⟨u,us,rfl,h1,h2⟩:=h.cons_inv;obtain⟨hc1,Lh⟩:=hc;split at hc1<;>try trivial
  rename_i r' r'' off' hr;obtain⟨rfl,rfl⟩:=AZ hc1;obtain⟨b,rfl,hb⟩:=h1;obtain⟨r2,hr2,nP⟩:=hL.i r r' b hr hb;refine .cons ?_ (af9 hL caps Lh h2);simp_all[VT]
 | [],_::_,_,hc,_=>by cases hc
 | (_,_)::_,[],_,hc,_=>by cases hc
theorem CT.sound(hL:DC w G n G2 n2){c:CT}(h:c.get n d=iN ls)(hv:VT E w G d v):
  (c.put n2 (ls++rest)).2=rest/\VT E w G2 (c.put n2 (ls++rest)).1 v:=by
 unfold CT.get at h;split at h<;>try trivial
 ·split at h<;>try trivial
  rename_i t x hx;cases h;exact⟨rfl,(TV.vA hx hv).ua hL.pr⟩
 ·simp_all[CT.put,pN,wU,VT]
 ·rename_i r off r' off';split at h<;>try trivial
  rename_i r'' hr;cases hb:xD r'' r' off off'<;>rw[hb]at h<;>simp only[aU,aJ]at h
  ·cases h
  obtain⟨rfl,rfl⟩:=AZ hb;obtain⟨b,rfl,hb⟩:=hv;obtain⟨r2,hr2,nP⟩:=hL.i r r'' b hr hb;simp_all[CT.put,pN,wU,VT]
 ·rename_i r off bb r' off';split at h<;>try trivial
  rename_i r'' hr;cases hb:xD r'' r' off off'<;>rw[hb]at h<;>simp only[aU,aJ]at h
  ·cases h
  cases h;obtain⟨rfl,rfl⟩:=AZ hb;cases bb<;>simp only[VT]at hv
  ·simp only[CT.put,rY,pN,wU];grind[VT]
  ·obtain⟨b,rfl,hb⟩:=hv;obtain⟨r2,hr2,nP⟩:=hL.i r r'' b hr hb;simp_all[CT.put,rY,pN,wU,VT]
 ·rename_i r off r' off';split at h<;>try trivial
  rename_i r'' hr;cases hb:xD r'' r' off off'<;>rw[hb]at h<;>simp only[aU,aJ]at h
  ·cases h
  cases h;obtain⟨rfl,rfl⟩:=AZ hb;obtain⟨b,rfl,hb⟩:=hv;obtain⟨r2,hr2,nP⟩:=hL.i r r'' b hr hb;simp_all[CT.put,rY,pN,wU,VT]
 ·cases h;simp only[CT.put,rY,pN,wU];grind[VT]
 ·rename_i r r';split at h<;>try trivial
  rename_i r'' hr;cases hb:eI r'' r'<;>rw[hb]at h<;>simp only[aU,aJ]at h
  ·cases h
  obtain rfl:=eY hb;obtain⟨b,rfl,hb⟩:=hv;obtain⟨r2,hr2,nP⟩:=hL.i r r'' b hr hb;simp_all[CT.put,pN,wU,VT]
 ·rename_i r r';split at h<;>try trivial
  rename_i r'' hr;cases hb:eI r'' r'<;>rw[hb]at h<;>simp only[aU,aJ]at h
  ·cases h
  obtain rfl:=eY hb;obtain⟨b,rfl,hb⟩:=hv;obtain⟨r2,hr2,nP⟩:=hL.i r r'' b hr hb;simp_all[CT.put,pN,wU,VT]
 ·rename_i j t j' aG t' xs;split at h<;>try trivial
  rename_i JE vv hj ER;split at h<;>try trivial
  rename_i ht;subst ht;cases hb:xD JE j' vv aG<;>rw[hb]at h<;>simp only[aU,aJ]at h
  ·cases h
  cases h;obtain⟨rfl,rfl⟩:=AZ hb;obtain⟨BQ,x,hh,hg,hle,heq⟩:=hv;obtain⟨V1,j2,v2,x2,q1,q2,q3,q4⟩:=hL.g j JE vv x hh hj ER hg;simp only[CT.put,q1,q2,rY,pN,wU,VT];refine⟨BQ.mono hL.pr (λ_ _ _ _ h=>h),x2,hh,q3,om,λ_=>heq V1.symm⟩
 ·rename_i f caps f' cs;cases hb:(eI f f'&&PG n caps cs)<;>rw[hb]at h<;>simp only[aU,aJ]at h
  ·cases h
  rw[cK]at hb;obtain rfl:=eY hb.1;simp only[VT]at hv;simp only[CT.put,pN,wU,VT];grind[af9]
 ·rename_i k u;split at h<;>try trivial
  rename_i k' hk;cases hb:eK (k=k')<;>rw[hb]at h<;>simp only[aU,aJ]at h
  ·cases h
  cases h;simp only[fW]at hb;subst hb;subst hv;simp only[CT.put,pN,wU,VT];exact apH hk
 ·rename_i t off t' y off';split at h<;>try trivial
  rename_i ht;subst ht;cases hb:eI off off'<;>rw[hb]at h<;>simp only[aU,aJ]at h
  ·cases h
  cases h;obtain rfl:=eY hb;obtain⟨b,o,c,rfl,h1,h2⟩:=hv;simp only[CT.put,rY,pN,wU,VT];exact⟨b,o,c,rfl,h1.mono hL.pr (λ_ _ _ _ h=>h),λl u hl=>⟨hL.pr _ _ (h2 l u hl).1,(h2 l u hl).2⟩⟩
 ·rename_i ty t ty' d';split at h<;>try trivial
  rename_i x hx;cases hb:eI ty ty'<;>rw[hb]at h<;>simp only[aU,aJ]at h
  ·cases h
  cases h;obtain rfl:=eY hb;obtain⟨u,rfl,hu⟩:=hv;simp only[CT.put,rY,pN,wU,VT];exact⟨u,rfl,(TV.vA hx hu).ua hL.pr⟩
 ·rename_i j j' aG;split at h<;>try trivial
  rename_i JE vv hj ER;cases hb:xD JE j' vv aG<;>rw[hb]at h<;>simp only[aU,aJ]at h
  ·cases h
  obtain⟨rfl,rfl⟩:=AZ hb;obtain⟨x,hh,hg,hle,h1,heq⟩:=hv;obtain⟨V1,j2,v2,x2,q1,q2,q3,q4⟩:=hL.g j JE vv x hh hj ER hg;simp only[CT.put,q1,q2,pN,wU,VT];grind
 ·rename_i j k j' aG k' i off;split at h<;>try trivial
  rename_i JE vv hj ER;cases hb:(xD JE j' vv aG&&(eI k k'&&xD i 0 off 0))<;>rw[hb]at h<;>simp only[aU,aJ]at h
  ·cases h
  rw[cK,cK]at hb;obtain⟨wY,nP,hb3⟩:=hb;obtain⟨rfl,rfl⟩:=AZ wY;obtain⟨rfl,rfl⟩:=AZ hb3;obtain⟨x,hh,hg,hle,h1,heq⟩:=hv;obtain⟨V1,j2,v2,x2,q1,q2,q3,q4⟩:=hL.g j JE vv x hh hj ER hg;simp only[CT.put,q1,q2,pN,wU,VT];grind
 ·split at h<;>try trivial
  rename_i ht;subst ht;cases h;obtain⟨vs,rfl,h1,h2⟩:=hv;simp only[CT.put,rY,pN,wU,VT];exact⟨vs,rfl,h1,h2.mono hL.pr (λ_ _ _ _ h=>h)⟩
 ·rename_i b x;cases hb:(b==x)<;>rw[hb]at h<;>simp only[aU,aJ]at h
  ·cases h
  cases h;rw[uL]at hb;subst hb;refine⟨rfl,?_⟩;rw[VT.nv hv];exact .bool _ _ _
 ·rename_i k n k' x;cases hb:(eK (k=k')&&eK (n=x))<;>rw[hb]at h<;>simp only[aU,aJ]at h
  ·cases h
  cases h;rw[cK,fW,fW]at hb;obtain⟨rfl,rfl⟩:=hb;refine⟨rfl,?_⟩;rw[VT.gq hv];exact .int _ _ _ _
theorem CT.PI(hE:E.Ok)(hL:DC w G n G2 n2):∀ {cs:J CT}{ds:J (TV E)}{ls rest:J (Lf E)}{vs:J T1},CT.KD n cs ds=iN ls->bO E w G ds vs ->
  (CT.qw n2 cs (ls++rest)).2=rest/\bO E w G2 (CT.qw n2 cs (ls++rest)).1 vs
 | [],[],ls,rest,vs,h,hv=>by cases h;simp[bO]at hv;subst hv;exact⟨rfl,bO.nil⟩
 | c::cs,ds,ls,rest,vs,h,hv=>by
  unfold CT.KD at h;unfold CT.qw;split at h
  ·rename_i t ht;split at h<;>try trivial
   rename_i p hp;split at h<;>try trivial
   rename_i ls' h2;cases h;unfold CT.arO at hp;split at hp<;>try trivial
   rename_i p' hp';split at hp<;>try trivial
   rename_i fc Zn;cases hp;obtain⟨us,ts,rfl,q1,q2⟩:=BS hE 4 t hv hp';obtain⟨e3,e4⟩:=CT.PI hE hL h2 q2;simp[ht,CT.MM,Zn];exact⟨e3,(zH hE 4 t p.1 (q1.mono hL.pr (λ_ _ _ _ h=>h)) Zn).append e4⟩
  ·rename_i ht;split at h<;>try trivial
   split at h<;>try trivial
   rename_i l ls' h1 h2;cases h;obtain⟨u,us,rfl,q1,q2⟩:=hv.cons_inv;obtain⟨e1,e2⟩:=CT.sound hL (rest:=ls'++rest) h1 q1;obtain⟨e3,e4⟩:=CT.PI hE hL h2 q2;simp[ht,e1];exact⟨e3,.cons e2 e4⟩
 | [],_::_,_,_,_,h,_=>by cases h
theorem PT.sound(hE:E.Ok)(hL:DC w G n G2 n2){p:PT}(h:p.get n d=iN ls)(hv:VT E w G d v):
  (p.put n2 (ls++rest)).2=rest/\VT E w G2 (p.put n2 (ls++rest)).1 v:=by
 unfold PT.get at h;grind[CT.sound,VT,CT.PI,PT.put]
theorem gK.pr{kt vt:Ty}(hp:∀b o,G.pr b o->G2.pr b o):∀ {es:J MapEntry}{m:J (kt.den E.D×vt.den E.D)},gK E w G kt vt es m->gK E w G2 kt vt es m|[],[],_=>trivial|_::_,_::_,h=>⟨h.1.ua hp,h.2.1.ua hp,gK.pr hp h.2.2⟩|[],_::_,h=>h.elim|_::_,[],h=>h.elim
theorem BT.sound(hE:E.Ok)(hL:DC w G n G2 n2){t:BT}{x:gf E}(h:t.get n x=iN ls)(hv:kI E w G b x):
  (t.put n2 (ls++rest)).2=rest/\kI E w G2 b (t.put n2 (ls++rest)).1:=by
 unfold BT.get at h;split at h<;>try trivial
 ·rename_i ty cs ty' ds;cases hb:eI ty ty'<;>rw[hb]at h<;>simp only[aU,aJ]at h
  ·cases h
  obtain rfl:=eY hb;obtain⟨vs,h1,h2,h3⟩:=hv;obtain⟨e1,e2⟩:=CT.PI hE hL h h3;exact⟨e1,vs,h1,h2,e2⟩
 ·split at h<;>try trivial
  rename_i he;have he':=he;obtain⟨rfl,rfl⟩:=he';cases h;obtain⟨es,clock,h1,h2,h3⟩:=hv;refine⟨rfl,?_⟩;exact⟨es,clock,h1,h2,h3.pr hL.pr⟩
 ·cases h;exact⟨rfl,hv⟩
 ·rename_i y cs y' ds;cases hb:eI y y'<;>rw[hb]at h<;>simp only[aU,aJ]at h
  ·cases h
  obtain rfl:=eY hb;obtain⟨Y,fn,tmps,D,h0,h1,h2⟩:=hv;obtain⟨e1,e2⟩:=CT.PI hE hL h h2;exact⟨e1,Y,fn,tmps,D,h0,h1,e2⟩
structure Cut where
 vars:List (Nat×PT)
 boxes:List (Option BT)
 rows:List (Option (TypeId×Nat))
 soft:List (Nat×Ty)
def aga:J (Nat×PT)->J Ty|[]=>[]|v::vs=>v.2.tys++aga vs
def MN:J (O BT)->J Ty|[]=>[]|some b::bs=>b.tys++MN bs|none::bs=>MN bs
def RZ:J (Nat×Ty)->J Ty|[]=>[]|p::ps=>.bz p.2::RZ ps
def Cut.tys(c:Cut):J Ty:=aga c.vars++(MN c.boxes++RZ c.soft)
def Lr(f:Nat->O Nat)(cs:J (Nat×Cn E)):J (Nat×Ty)->O (J (Lf E))
 | []=>iN []|p::ps=>match f p.1 with
  | some j=>match pW cs j,Lr f cs ps with
   | some c,iN ls=>if h:c.1=p.2 then iN (⟨.bz p.2,(h▸c.2:J (p.2.den E.D))⟩::ls)else iF
   | _,_=>iF
  | none=>iF
def oz(f:Nat->O Nat):J (Nat×Ty)->J (Lf E)->J (Nat×Cn E)
 | [],_=>[]|p::ps,l::ls=>match f p.1,l with
  | some j,⟨.bz t,xs⟩=>(j,⟨t,xs⟩)::oz f ps ls|_,_=>oz f ps ls
 | _::_,[]=>[]
theorem Ef{f f2:Nat->O Nat}{cs:J (Nat×Cn E)}:∀ {ps:J (Nat×Ty)}{ls:J (Lf E)}(rest:J (Lf E)),Lr f cs ps=iN ls->∀ {i:Nat}{c:Cn E},(i,c)∈oz f2 ps (ls++rest) ->
  ∃q j,(∃t,(q,t)∈ps)/\f q=iN j/\f2 q=iN i/\(j,c)∈cs
 | [],ls,rest,h,i,c,hm=>by cases hm
 | p::ps,ls,rest,h,i,c,hm=>by
  simp[Lr]at h;split at h<;>try trivial
  rename_i j hj;split at h<;>try trivial
  rename_i c' ls' h1 h2;split at h<;>try trivial
  rename_i ht;cases h;obtain⟨t',xs⟩:=c';obtain⟨q,t⟩:=p;dsimp only at ht;subst ht;simp[oz]at hm;cases hf:f2 q with
  | none=>rw[hf]at hm;obtain⟨q',j',⟨t1,e0⟩,e1⟩:=Ef rest h2 hm;exact⟨q',j',⟨t1,kV _ e0⟩,e1⟩
  | some i'=>
   rw[hf]at hm;rcases hU.1 hm with e|hm
   ·cases e;exact⟨q,j,⟨t',tJ ..⟩,hj,hf,Uc h1⟩
   ·obtain⟨q',j',⟨t1,e0⟩,e1⟩:=Ef rest h2 hm;exact⟨q',j',⟨t1,kV _ e0⟩,e1⟩
def below(n:Nat):J (Nat×Ty)->Bool|[]=>hJ|p::ps=>dE p.1 n&&below n ps
theorem acS{n:Nat}:∀ {ps:J (Nat×Ty)},below n ps=hJ->∀q t,(q,t)∈ps->q<n
 | [],_,q,t,h=>by cases h
 | p::ps,hb,q,t,h=>by
  simp[below]at hb;rcases hU.1 h with e|h
  ·rw[<-e]at hb;simp_all
  ·exact acS hb.2 q t h
def zK:J (O (aL×Nat))->J cV->J cV->Bool|[],_,_=>hJ|none::rs,x::g0,y::g=>(eI x.aG y.aG&&(eI x.e y.e&&eI x.k y.k))&&zK rs g0 g|some p::rs,x::g0,y::g=>(eI p.1 y.e&&eI p.2 y.k)&&zK rs g0 g|some p::rs,[],y::g=>(eI p.1 y.e&&eI p.2 y.k)&&zK rs [] g|_,_,_=>eQ
def eu:J (O (aL×Nat))->J cV->J cV|[],_=>[]|none::rs,x::g0=>x::eu rs g0|some p::rs,x::g0=>⟨x.aG+1,p.1,p.2⟩::eu rs g0|some p::rs,[]=>⟨0,p.1,p.2⟩::eu rs []|none::rs,[]=>⟨0,0,0⟩::eu rs []
def iz:J (O (aL×Nat))->J cV->J (cV×T1)->J (cV×T1)
 | none::rs,_::g0,y::gs=>y::iz rs g0 gs|some _::rs,x::g0,y::gs=>({y.1 with aG:=x.aG+1},y.2)::iz rs g0 gs
 | some _::rs,[],y::gs=>({y.1 with aG:=0},y.2)::iz rs [] gs
 | _,_,_=>[]
theorem JF:∀(rows:J (O (aL×Nat)))(g0:J cV)(gs:J (cV×T1)),zK rows g0 (gs.map (·.1))=hJ ->
  (iz rows g0 gs).map (·.1)=eu rows g0/\(iz rows g0 gs).length=rows.length/\rows.length<=Ts gs /\
  ∀(j:Nat) y,gs[j]? = iN y->j<rows.length->∃y2,(iz rows g0 gs)[j]? = iN y2/\y2.2=y.2/\y2.1.e=y.1.e/\y2.1.k=y.1.k/\∀x0,g0[j]? = iN x0->y2.1.aG=y.1.aG\/x0.aG<y2.1.aG
 | [],g0,gs,h=>by simp_all[iz,eu]|none::rs,x::g0,y::gs,h=>by
  simp[zK]at h;obtain⟨⟨h1,h2,h3⟩,h4⟩:=h;obtain⟨i1,i2,i3,i4⟩:=JF rs g0 gs h4;have hxy:y.1=x:=by obtain⟨a',b',c'⟩:=x;simp_all
  grind[iz,eu]
 | some p::rs,x::g0,y::gs,h=>by simp only[jI,zK,cK]at h;obtain⟨⟨h1,h2⟩,h4⟩:=h;obtain⟨i1,i2,i3,i4⟩:=JF rs g0 gs h4;have e1:=eY h1;have e2:=eY h2;refine⟨by grind[iz,eu],by simp[iz,i2],by simpa using i3,λj z hz hj=>?_⟩;cases j with|zero=>simp at hz;subst hz;exact⟨_,rfl,rfl,rfl,rfl,λx0 hx=>by simp_all⟩|succ j=>grind[iz]
 | some p::rs,[],y::gs,h=>by simp only[jI,zK,cK]at h;obtain⟨⟨h1,h2⟩,h4⟩:=h;obtain⟨i1,i2,i3,i4⟩:=JF rs [] gs h4;have e1:=eY h1;have e2:=eY h2;refine⟨by simp[iz,eu,i1,e1,e2],by simp[iz,i2],by simpa using i3,λj z hz hj=>?_⟩;cases j with|zero=>simp at hz;subst hz;exact⟨_,rfl,rfl,rfl,rfl,λx0 hx=>by simp at hx⟩|succ j=>simpa[iz]using i4 j z (by simpa using hz) (by simpa using hj)
 | none::rs,[],gs,h=>by cases gs<;>cases h
 | none::rs,_::_,[],h=>by cases h
 | some _::rs,[],[],h=>by cases h
 | some _::rs,_::_,[],h=>by cases h
def R1(n:Rn)(st:TS E):J (Nat×PT)->O (J (Lf E))
 | []=>iN []|(i,p)::vs=>match p.get n (st.at i),R1 n st vs with
  | some l,iN ls=>iN (l++ls)|_,_=>iF
def pX(n:Rn)(d:J Nat)(nb:Nat):Nat->J (O BT)->J (gf E)->O (J (Lf E))
 | _,[],_=>iN []|r,iF::bs,_::H=>cond (d.elem r || !(dE r nb)) iF (pX n d nb (r+1) bs H)|r,iN t::bs,x::H=>match t.get n x,pX n d nb (r+1) bs H with
  | some l,iN ls=>iN (l++ls)|_,_=>iF
 | _,_::_,[]=>iF
def since(d0 d:J Nat):J Nat:=d.take (d.length-d0.length)
theorem akp(n d0:J Nat):since d0 (n++d0)=n:=by simp[since]
def Cut.leaves(c:Cut)(bG st:TS E):Option (J (Lf E)):=
 cond (below c.rows.length c.soft&&(iO bG.H.length c.boxes.length&&(iO bG.g.length c.rows.length&&zK c.rows bG.g st.g)))
  (match R1 ⟨bY c.boxes.length,bY c.rows.length,st.g.map (·.aG)⟩ st c.vars,pX ⟨bY c.boxes.length,bY c.rows.length,st.g.map (·.aG)⟩ (since bG.d st.d) bG.H.length 0 c.boxes st.H,Lr iN st.c c.soft with|some a,iN b,iN e=>iN (a++(b++e))|_,_,_=>iF) iF
def oP(W:J Nat):Nat->J (TV E)->J (TV E)|_,[]=>[]|i,d::ds=>cond (W.elem i) .any d::oP W (i+1) ds
def oh(n:Rn):J (Nat×PT)->J (TV E)->J (Lf E)->J (TV E)×J (Lf E)|[],t,ls=>(t,ls)|(i,p)::vs,t,ls=>oh n vs (t.set i (p.put n ls).1) (p.put n ls).2
def ff(n:Rn):J (Option BT)->J (gf E)->J (Lf E)->J (gf E)
 | [],_,_=>[]|none::bs,H,ls=>(match H with|x::_=>x | []=>default)::ff n bs H.tail ls
 | some t::bs,H,ls=>(t.put n ls).1::ff n bs H.tail (t.put n ls).2
def qG:J (O BT)->J (Lf E)->J (Lf E)|[],ls=>ls|none::bs,ls=>qG bs ls|some t::bs,ls=>qG bs (t.put ⟨[],[],[]⟩ ls).2
def ES:Nat->J (O BT)->J Nat|_,[]=>[]|r,iF::bs=>ES (r+1) bs|r,iN _::bs=>r::ES (r+1) bs
def Cut.unpack(c:Cut)(W:J Nat)(bG:TS E)(ls:J (Lf E)):TS E:=
 let n:Rn:=⟨bY c.boxes.length,bY c.rows.length,(eu c.rows bG.g).map (·.aG)⟩
 {t:=(oh n c.vars (oP W 0 bG.t) ls).1
  H:=ff n c.boxes bG.H (oh n c.vars (oP W 0 bG.t) ls).2
  g:=eu c.rows bG.g
  d:=ES 0 c.boxes++bG.d
  df:=bG.df
  c:=oz iN c.soft (qG c.boxes (oh n c.vars (oP W 0 bG.t) ls).2)}
mutual
def TV.Bd(nb:Nat)(g:J cV):TV E->Prop|.ptr r _=>r<nb|.qY b r _=>b=hJ->r<nb|.jS r=>r<nb|.vz r=>r<nb|.iW r _ _=>r<nb|.cH j aG _ _=>∃x,g[j]? = iN x/\aG<=x.aG|.Ta j aG _=>∃x,g[j]? = iN x/\aG<=x.aG|.eF j aG=>∃x,g[j]? = iN x/\aG<=x.aG|.iZ j aG _ _ _=>∃x,g[j]? = iN x/\aG<=x.aG|.uZ _ _=>True|.func _ caps=>TV.ET nb g caps|.HV _ fs=>TV.ET nb g fs|.iface _ d=>TV.Bd nb g d|.agg cs=>TV.ET nb g cs|.tuple ds=>TV.ET nb g ds|.any=>True|.dat _ _=>True|.tT _ _ _=>True|.val _=>True
def TV.ET(nb:Nat)(g:J cV):J (TV E)->Prop|[]=>True|d::ds=>TV.Bd nb g d/\TV.ET nb g ds
end
variable{nb:Nat}{g0:J cV}
mutual
theorem VT.bd:∀ {d:TV E}{v:T1},VT E w G d v->TV.Bd G.i.length (G.g.map (·.1)) d
 | .any,_,_=>by simp only[TV.Bd]|.dat _ _,_,_=>by simp only[TV.Bd]|.tT _ _ _,_,_=>by simp only[TV.Bd]|.val _,_,_=>by simp only[TV.Bd]|.uZ _ _,_,_=>by simp only[TV.Bd]|.ptr r off,v,h=>by simp only[VT]at h;simp only[TV.Bd];obtain⟨b,-,h⟩:=h;exact(fC.1 h).1
 | .qY c r off,v,h=>by simp only[TV.Bd];intro hc;subst hc;simp only[VT]at h;obtain⟨b,-,h⟩:=h;exact(fC.1 h).1
 | .jS r,v,h=>by simp only[VT]at h;simp only[TV.Bd];obtain⟨b,-,h⟩:=h;exact(fC.1 h).1
 | .vz r,v,h=>by simp only[VT]at h;simp only[TV.Bd];obtain⟨b,-,h⟩:=h;exact(fC.1 h).1
 | .iW r n cap,v,h=>by simp only[VT]at h;simp only[TV.Bd];obtain⟨b,-,h⟩:=h;exact(fC.1 h).1
 | .cH j aG t xs,v,h=>by simp only[VT]at h;simp only[TV.Bd];obtain⟨-,x,g,hg,hle,-⟩:=h;exact⟨x,by simp[hg],hle⟩
 | .Ta j aG l,v,h=>by simp only[VT]at h;simp only[TV.Bd];obtain⟨x,g,u,hg,hle,-⟩:=h;exact⟨x,by simp[hg],hle⟩
 | .eF j aG,v,h=>by simp only[VT]at h;simp only[TV.Bd];obtain⟨x,g,hg,hle,-⟩:=h;exact⟨x,by simp[hg],hle⟩
 | .iZ j aG k i off,v,h=>by simp only[VT]at h;simp only[TV.Bd];obtain⟨x,g,hg,hle,-⟩:=h;exact⟨x,by simp[hg],hle⟩
 | .func fn caps,v,h=>by simp only[VT]at h;simp only[TV.Bd];obtain⟨vs,-,h⟩:=h;exact bO.bd h
 | .HV fn fs,v,h=>by simp only[VT]at h;simp only[TV.Bd];obtain⟨vs,-,h⟩:=h;exact bO.bd h
 | .iface ty d,v,h=>by simp only[VT]at h;simp only[TV.Bd];obtain⟨u,-,h⟩:=h;exact VT.bd h
 | .agg cs,v,h=>by simp only[VT]at h;simp only[TV.Bd];obtain⟨vs,-,-,h⟩:=h;exact bO.bd h
 | .tuple ds,v,h=>by simp only[VT]at h;simp only[TV.Bd];obtain⟨vs,-,h⟩:=h;exact bO.bd h
theorem bO.bd:∀ {ds:J (TV E)}{vs:J T1},bO E w G ds vs->TV.ET G.i.length (G.g.map (·.1)) ds
 | [],_,_=>by simp only[TV.ET]|d::ds,vs,h=>by simp only[bO]at h;simp only[TV.ET];obtain⟨u,us,-,h1,h2⟩:=h;exact⟨VT.bd h1,bO.bd h2⟩
end
structure Reb(G G2:bB)(nb:Nat)(g0:List cV):Prop where
 pr:∀b o,G.pr b o->G2.pr b o
 i:∀r b,r<nb->G.i[r]? = iN b->G2.i[r]? = iN b
 g:∀(j:Nat) x0 x h,g0[j]? = iN x0->G.g[j]? = iN (x,h)->∃x2,G2.g[j]? = iN (x2,h)/\(x2.aG=x.aG\/x0.aG<x2.aG)
mutual
theorem VT.B5{nb:Nat}{g0:J cV}(hR:Reb G G2 nb g0):∀ {d:TV E}{v:T1},VT E w G d v->TV.Bd nb g0 d->VT E w G2 d v
 | .any,_,_,_=>by simp only[VT]|.dat t x,v,h,_=>h.ua hR.pr|.tT t x off,v,h,_=>by simp only[VT]at h⊢;obtain⟨b,o,c,rfl,h1,h2⟩:=h;exact⟨b,o,c,rfl,h1.mono hR.pr (λ_ _ _ _ h=>h),λl u hl=>⟨hR.pr _ _ (h2 l u hl).1,(h2 l u hl).2⟩⟩
 | .val _,_,h,_=>by simpa only[VT]using h|.ptr r off,v,h,hb=>by simp only[VT]at h⊢;simp only[TV.Bd]at hb;obtain⟨b,rfl,h⟩:=h;exact⟨b,rfl,hR.i r b hb h⟩
 | .qY c r off,v,h,hb=>by
  simp only[TV.Bd]at hb;cases c<;>simp only[VT]at h⊢
  ·exact h
  ·obtain⟨b,rfl,h⟩:=h;exact⟨b,rfl,hR.i r b (hb rfl) h⟩
 | .jS r,v,h,hb=>by simp only[VT]at h⊢;simp only[TV.Bd]at hb;obtain⟨b,rfl,h⟩:=h;exact⟨b,rfl,hR.i r b hb h⟩
 | .vz r,v,h,hb=>by simp only[VT]at h⊢;simp only[TV.Bd]at hb;obtain⟨b,rfl,h⟩:=h;exact⟨b,rfl,hR.i r b hb h⟩
 | .iW r n cap,v,h,hb=>by simp only[VT]at h⊢;simp only[TV.Bd]at hb;obtain⟨b,rfl,h⟩:=h;exact⟨b,rfl,hR.i r b hb h⟩
 | .cH j aG t xs,v,h,hb=>by
  simp only[VT]at h⊢;simp only[TV.Bd]at hb;obtain⟨BQ,x,g,hg,hle,heq⟩:=h;obtain⟨x0,hx0,hle0⟩:=hb;obtain⟨x2,h2,hc⟩:=hR.g j x0 x g hx0 hg;refine⟨BQ.mono hR.pr (λ_ _ _ _ h=>h),x2,g,h2,?_,λe=>?_⟩
  ·rcases hc with hc|hc<;>omega
  ·rcases hc with hc|hc
   ·exact heq om
   ·omega
 | .Ta j aG l,v,h,hb=>by
  simp only[VT]at h⊢;simp only[TV.Bd]at hb;obtain⟨x,g,u,hg,hle,BQ,heq⟩:=h;obtain⟨x0,hx0,hle0⟩:=hb;obtain⟨x2,h2,hc⟩:=hR.g j x0 x g hx0 hg;refine⟨x2,g,u,h2,?_,BQ.mono hR.pr (λ_ _ _ _ h=>h),λe=>?_⟩
  ·rcases hc with hc|hc<;>omega
  ·rcases hc with hc|hc
   ·exact heq om
   ·omega
 | .eF j aG,v,h,hb=>by
  simp only[VT]at h⊢;simp only[TV.Bd]at hb;obtain⟨x,g,hg,hle,h1,heq⟩:=h;obtain⟨x0,hx0,hle0⟩:=hb;obtain⟨x2,h2,hc⟩:=hR.g j x0 x g hx0 hg;refine⟨x2,g,h2,?_,h1,λe=>?_⟩
  ·rcases hc with hc|hc<;>omega
  ·rcases hc with hc|hc
   ·exact heq om
   ·omega
 | .iZ j aG k i off,v,h,hb=>by
  simp only[VT]at h⊢;simp only[TV.Bd]at hb;obtain⟨x,g,hg,hle,h1,heq⟩:=h;obtain⟨x0,hx0,hle0⟩:=hb;obtain⟨x2,h2,hc⟩:=hR.g j x0 x g hx0 hg;refine⟨x2,g,h2,?_,h1,λe=>?_⟩
  ·rcases hc with hc|hc<;>omega
  ·rcases hc with hc|hc
   ·exact heq om
   ·omega
 | .uZ t xs,v,h,hb=>by simp only[VT]at h⊢;obtain⟨vs,rfl,h1,h⟩:=h;exact⟨vs,rfl,h1,h.mono hR.pr (λ_ _ _ _ h=>h)⟩
 | .func fn caps,v,h,hb=>by simp only[VT]at h⊢;simp only[TV.Bd]at hb;obtain⟨vs,rfl,h⟩:=h;exact⟨vs,rfl,bO.B5 hR h hb⟩
 | .HV fn fs,v,h,hb=>by simp only[VT]at h⊢;simp only[TV.Bd]at hb;obtain⟨vs,rfl,h⟩:=h;exact⟨vs,rfl,bO.B5 hR h hb⟩
 | .iface ty d,v,h,hb=>by simp only[VT]at h⊢;simp only[TV.Bd]at hb;obtain⟨u,rfl,h⟩:=h;exact⟨u,rfl,VT.B5 hR h hb⟩
 | .agg cs,v,h,hb=>by simp only[VT]at h⊢;simp only[TV.Bd]at hb;obtain⟨vs,rfl,h1,h⟩:=h;exact⟨vs,rfl,h1,bO.B5 hR h hb⟩
 | .tuple ds,v,h,hb=>by simp only[VT]at h⊢;simp only[TV.Bd]at hb;obtain⟨vs,rfl,h⟩:=h;exact⟨vs,rfl,bO.B5 hR h hb⟩
theorem bO.B5{nb:Nat}{g0:J cV}(hR:Reb G G2 nb g0):∀ {ds:J (TV E)}{vs:J T1},bO E w G ds vs->TV.ET nb g0 ds->bO E w G2 ds vs
 | [],_,h,_=>by simp only[bO]at h⊢;exact h|d::ds,vs,h,hb=>by simp only[bO]at h⊢;simp only[TV.ET]at hb;obtain⟨u,us,rfl,h1,h2⟩:=h;exact⟨u,us,rfl,VT.B5 hR h1 hb.1,bO.B5 hR h2 hb.2⟩
end
def gf.Bd(nb:Nat)(g:J cV):gf E->Prop|.cells _ cs=>TV.ET nb g cs|.loop _ cs=>TV.ET nb g cs|.mI _ _ _ _ d=>TV.Bd nb g d|_=>True
theorem kI.bd{x:gf E}(h:kI E w G b x):x.Bd G.i.length (G.g.map (·.1)):=by
 cases x with
 | cells t cs=>obtain⟨vs,-,-,h⟩:=h;exact h.bd
 | loop y ds=>obtain⟨Y,fn,tmps,D,-,-,h⟩:=h;exact h.bd
 | mI e cap t xs d=>obtain⟨cur,-,-,-,h,-⟩:=h;exact h.bd
 | _=>trivial
theorem kI.B5(hR:Reb G G2 nb g0){x:gf E}(h:kI E w G b x)(hb:x.Bd nb g0):kI E w G2 b x:=by
 cases x with
 | cells t cs=>obtain⟨vs,h1,h2,h3⟩:=h;exact⟨vs,h1,h2,bO.B5 hR h3 hb⟩
 | iter s pos=>exact h|map kt vt m=>obtain⟨es,clock,h1,h2,h3⟩:=h;exact⟨es,clock,h1,h2,h3.pr hR.pr⟩
 | loop y ds=>obtain⟨Y,fn,tmps,D,h0,h1,h2⟩:=h;exact⟨Y,fn,tmps,D,h0,h1,bO.B5 hR h2 hb⟩
 | mI e cap t xs d=>obtain⟨cur,h1,h2,h4,h5,h6⟩:=h;exact⟨cur,h1,h2,λi x hx=>(h4 i x hx).ua hR.pr,VT.B5 hR h5 hb,h6⟩
 | gone=>exact h|Tb=>exact h
def DBd(nb:Nat)(g:J cV):J (H5×J (TV E))->Prop|[]=>True|x::xs=>TV.ET nb g x.2/\DBd nb g xs
theorem kW.bd:∀ {ds:J Deferred}{xs:J (H5×J (TV E))},kW E w G ds xs->DBd G.i.length (G.g.map (·.1)) xs
 | [],[],_=>trivial|_::_,_::_,h=>⟨by rcases h.1 with⟨-,cap,-,h2⟩|⟨-,b,-,h2⟩<;>exact h2.bd,kW.bd h.2⟩
 | [],_::_,h=>h.elim|_::_,[],h=>h.elim
theorem kW.B5{nb:Nat}{g0:J cV}(hR:Reb G G2 nb g0):∀ {ds:J Deferred}{xs:J (H5×J (TV E))},kW E w G ds xs->DBd nb g0 xs->kW E w G2 ds xs|[],[],_,_=>trivial|_::_,_::_,h,hb=>⟨h.1.imp (λ⟨h0,cap,h1,h2⟩=>⟨h0,cap,h1,bO.B5 hR h2 hb.1⟩) λ⟨h0,b,h1,h2⟩=>⟨h0,b,h1,bO.B5 hR h2 hb.1⟩,kW.B5 hR h.2 hb.2⟩|[],_::_,h,_=>h.elim|_::_,[],h,_=>h.elim
structure Pre(G0:bB)(st:TS E):Prop where
 nb:G0.i.length<=Ts st.H
 rows:∀(j:Nat) x0 h0,G0.g[j]? = iN (x0,h0)->∃x,st.g[j]? = iN x/\x0.aG<=x.aG
 slots:∀(i:Nat) d,st.t[i]? = iN d->d.Bd st.H.length st.g
 boxes:∀(r:Nat) x,st.H[r]? = iN x->x.Bd st.H.length st.g
 defs:DBd st.H.length st.g st.df
variable{bG:TS E}
theorem jc.len{w1 w2:U}{G1:bB}(h:jc w1 G1 w2 G2):G1.i.length<=G2.i.length:=by
 by_cases h0:G1.i.length=0
 ·omega
 ·have hl:G1.i.length-1<G1.i.length:=om;have:=(fC.1 (h.i _ _ (ga hl))).1;omega
theorem Rel.pre(h:Rel E w0 G0 st a w G):Pre G0 st:=by
 have hl:=h.boxes.len;have hg:=h.boxes.gs;refine⟨by rw[<-hl];exact h.fF.goes.len,λj x0 h0 hj=>?_,λi d hi=>?_,λr x hr=>?_,?_⟩
 ·obtain⟨x',h',h1,h2,-⟩:=h.fF.goes.g j x0 h0 hj;grind
 ·have:=(h.tmps i d hi).bd;simp_all
 ·have hlt:r<G.i.length:=by grind
  have:=(h.boxes.box r _ x (ga hlt) hr).bd;simp_all
 ·have:=h.defers.bd;simp_all
theorem H6(W:J Nat):∀(i:Nat)(l:J (TV E)),(oP W i l).length=Ts l|_,[]=>rfl|i,d::ds=>by simp_all[oP,H6]
theorem Zx(W:J Nat):∀(i:Nat)(l:J (TV E))(j:Nat)(d:TV E),(oP W i l)[j]? = iN d->d=.any\/((i+j)∉W/\l[j]? = iN d)|_,[],j,d,h=>by simp[oP]at h|i,x::ds,0,d,h=>by simp[oP]at h;grind|i,x::ds,j+1,d,h=>by have:=Zx W (i+1) ds j d (by simpa[oP]using h);grind
theorem Zy(hE:E.Ok){G2:bB}{n n2:Rn}(hL:DC w G n G2 n2)(ha:∀i,VT E w G (st.at i) (a.tmps.getD i M2)):∀(vs:J (Nat×PT))(t:J (TV E))(ls rest:J (Lf E)),R1 n st vs=iN ls ->
  (∀(j:Nat) d,t[j]? = iN d->VT E w G2 d (a.tmps.getD j M2)) ->
  (oh n2 vs t (ls++rest)).2=rest/\(oh n2 vs t (ls++rest)).1.length=t.length/\∀(j:Nat) d,(oh n2 vs t (ls++rest)).1[j]? = iN d->VT E w G2 d (a.tmps.getD j M2)
 | [],t,ls,rest,h,ht=>by cases h;exact⟨rfl,rfl,ht⟩
 | (i,p)::vs,t,ls,rest,h,ht=>by
  simp[R1]at h;split at h<;>try trivial
  rename_i l ls' h1 h2;cases h;obtain⟨e1,e2⟩:=PT.sound hE hL (rest:=ls'++rest) h1 (ha i);simp[oh]
  obtain⟨q1,q2,q3⟩:=Zy hE hL ha vs (t.set i (p.put n2 (l++(ls'++rest))).1) ls' rest h2 (λj d hj=>by
   grind)
  simp_all
theorem BT.acT:∀(t:BT)(x:gf E)(l rest:J (Lf E)),t.get n x=iN l->(t.put n2 (l++rest)).2=rest:=by
 have awg:∀(c:CT)(d:TV E)(l rest:J (Lf E)),c.get n d=iN l->(c.put n2 (l++rest)).2=rest:=by
  intro c d l rest h;unfold CT.get at h;simp only[Bool.cond_eq_ite]at h
  (repeat' split at h)<;>first|trivial|(cases h;rfl)
 have arP:∀(cs:J CT)(ds:J (TV E))(l rest:J (Lf E)),CT.KD n cs ds=iN l->(CT.qw n2 cs (l++rest)).2=rest:=by
  intro cs
  induction cs with
  | nil=>intro ds l rest h;cases ds<;>cases h;rfl
  | cons c cs ih=>intro ds l rest h;unfold CT.KD at h;grind[CT.qw,CT.MM,List.append_assoc]
 intro t x l rest h;unfold BT.get at h;split at h<;>try trivial
 ·rename_i ty cs ty' ds;cases hb:eI ty ty'<;>rw[hb]at h<;>simp only[aU,aJ]at h
  ·cases h
  exact arP cs ds l rest h
 ·split at h<;>cases h;rfl
 ·cases h;rfl
 ·rename_i y cs y' ds;cases hb:eI y y'<;>rw[hb]at h<;>simp only[aU,aJ]at h
  ·cases h
  exact arP cs ds l rest h
theorem H7{n:Rn}{D:J Nat}{nb:Nat}:∀(bs:J (O BT))(r:Nat)(H:J (gf E))(ls rest:J (Lf E)),pX n D nb r bs H=iN ls->qG bs (ls++rest)=rest
 | [],r,H,ls,rest,h=>by cases h;rfl
 | none::bs,r,x::H,ls,rest,h=>by
  simp only[pX]at h;cases hc:(D.elem r || !(dE r nb))<;>rw[hc]at h<;>simp only[aU,aJ]at h
  ·exact H7 bs (r+1) H ls rest h
  ·cases h
 | some t::bs,r,x::H,ls,rest,h=>by
  simp[pX]at h;split at h<;>try trivial
  rename_i l ls' h1 h2;cases h;simp[qG];rw[BT.acT t x l (ls'++rest) h1];exact H7 bs (r+1) H ls' rest h2
 | none::bs,r,[],ls,rest,h=>by cases h
 | some _::bs,r,[],ls,rest,h=>by cases h
theorem KE(hE:E.Ok){G2:bB}{n n2:Rn}(hL:DC w G n G2 n2){D:J Nat}{nb:Nat}:∀(bs:J (O BT))(r:Nat)(H H0:J (gf E))(is:J Nat)(ls rest:J (Lf E)),pX n D nb r bs H=iN ls ->
  (∀(q b:Nat) x,is[q]? = iN b->H[q]? = iN x->kI E w G b x)->(∀(q b:Nat) x,is[q]? = iN b->r+q<nb->r+q∉D->H0[q]? = iN x->kI E w G2 b x)->nb<=r+H0.length ->
  (ff n2 bs H0 (ls++rest)).length=Ts bs/\bs.length<=H.length/\∀(q b:Nat) x,is[q]? = iN b->(ff n2 bs H0 (ls++rest))[q]? = iN x->kI E w G2 b x
 | [],r,H,H0,is,ls,rest,h,hb,h0,hn=>by simp[ff]|none::bs,r,x::H,H0,is,ls,rest,h,hb,h0,hn=>by
  simp only[pX]at h;cases hc:(D.elem r || !(dE r nb))<;>rw[hc]at h<;>simp only[aU,aJ]at h
  ·rw[abe]at hc;have hlt:r<nb:=by simpa using hc.2
   obtain⟨y,H0',rfl⟩:∃y H0',H0=y::H0':=by cases H0 with|nil=>simp at hn;omega|cons y H0'=>exact⟨y,H0',rfl⟩
   obtain⟨q1,q2,q3⟩:=KE hE hL bs (r+1) H H0' is.tail ls rest h (λq b z hq hz=>hb (q+1) b z (by cases is<;>simp_all) (by simpa using hz))
    (λq b z hq h1 h2 hz=>h0 (q+1) b z (by cases is<;>simp_all) om (by grind) (by simpa using hz)) (by simp at hn;omega)
   grind[ff]
  ·cases h
 | some t::bs,r,x::H,H0,is,ls,rest,h,hb,h0,hn=>by
  simp[pX]at h;split at h<;>try trivial
  rename_i l ls' h1 h2;cases h;have hkey:∀b,is[0]? = iN b->(t.put n2 (l++(ls'++rest))).2=ls'++rest/\kI E w G2 b (t.put n2 (l++(ls'++rest))).1:=λb hb0=>BT.sound hE hL h1 (hb 0 b x hb0 si);have eS:(t.put n2 (l++(ls'++rest))).2=ls'++rest:=by grind[BT.acT]
  obtain⟨q1,q2,q3⟩:=KE hE hL bs (r+1) H H0.tail is.tail ls' rest h2 (λq b z hq hz=>hb (q+1) b z (by cases is<;>simp_all) (by simpa using hz))
   (λq b z hq h1 h2 hz=>h0 (q+1) b z (by cases is<;>simp_all) om (by grind) (by cases H0<;>simp_all)) (by grind)
  refine⟨by simp_all[ff,tI,qi],by simpa using q2,λq b z hq hz=>?_⟩;cases q with|zero=>simp_all[ff,tI,List.getElem?_cons_zero,agN]|succ q=>grind[ff,List.append_assoc,List.getElem?_cons_succ]
 | none::bs,r,[],H0,is,ls,rest,h,hb,h0,hn=>by cases h
 | some _::bs,r,[],H0,is,ls,rest,h,hb,h0,hn=>by cases h
theorem FA{n:Rn}{D:J Nat}{nb:Nat}:∀(bs:J (O BT))(r:Nat)(H:J (gf E))(ls:J (Lf E)),pX n D nb r bs H=iN ls->∀q,q<Ts bs->r+q∉ES r bs->r+q∉D
 | [],r,H,ls,_,q,hq,_=>by simp at hq|none::bs,r,x::H,ls,h,q,hq,hc=>by
  simp only[pX]at h;cases hb:(D.elem r || !(dE r nb))<;>rw[hb]at h<;>simp only[aU,aJ]at h
  ·cases q with
   | zero=>simp_all|succ q=>have:=FA bs (r+1) H ls h q (by simpa using hq) (by rw[show r+1+q=r+(q+1) by omega];exact hc);grind
  ·cases h
 | some t::bs,r,x::H,ls,h,q,hq,hc=>by
  simp[pX]at h;split at h<;>try trivial
  rename_i l ls' h1 h2;cases q with
  | zero=>exact(hc (by simp[ES])).elim|succ q=>have:=FA bs (r+1) H ls' h2 q (by simpa using hq) (by rw[show r+1+q=r+(q+1) by omega];exact λhm=>hc (by simp[ES,hm]));rw[show r+1+q=r+(q+1) by omega]at this;exact this
 | none::bs,r,[],ls,h,_,_,_=>by cases h
 | some _::bs,r,[],ls,h,_,_,_=>by cases h
variable{D:J Nat}
theorem Zz{n r r':Nat}(h:(bY n)[r]? = iN r'):r'=r/\r<n:=by grind
theorem Rel.at(h:Rel E w0 G0 st a w G)(i:Nat):VT E w G (st.at i) (a.tmps.getD i M2):=h.ev (.tmp i)
theorem Rel.cut(hE:E.Ok){c:Cut}{W:J Nat}(hp:Pre G0 bG)(hr:Rel E w0 G0 st a w G)(ht:st.t.length=bG.t.length)(hk:∀i,i∉W->st.t[i]? = bG.t[i]?)
   (hD:st.d=D++bG.d) (hH:∀r,r<bG.H.length->r∉D->st.H[r]? = bG.H[r]?) (hdf:st.df=bG.df) (h:c.leaves bG st=iN ls) :
  ∃G2,Rel E w0 G0 (c.unpack W bG ls) a w G2/\DC w G ⟨bY c.boxes.length,bY c.rows.length,st.g.map (·.aG)⟩ G2 ⟨bY c.boxes.length,bY c.rows.length,(eu c.rows bG.g).map (·.aG)⟩:=by
 unfold Cut.leaves at h;cases hc:(below c.rows.length c.soft&&(iO bG.H.length c.boxes.length&&(iO bG.g.length c.rows.length&&zK c.rows bG.g st.g)))<;>rw[hc]at h<;>simp only[aU,aJ]at h
 ·cases h
 simp only[cK]at hc;obtain⟨CZ,wY,hg1,hro⟩:=hc;have wY:=lY wY;have hg1:=lY hg1;rw[hD,akp]at h;split at h<;>try trivial
 rename_i la lb le hla hlb hle;cases h;have hgs:=hr.boxes.gs;rw[<-hgs]at hro;obtain⟨n1,n2,n3,n4⟩:=JF c.rows bG.g G.g hro
 let G2:bB:=⟨G.i.take c.boxes.length,iz c.rows bG.g G.g,G.pr⟩
 have hlen:=hr.boxes.len;have abt:∀(j:Nat) y2,(iz c.rows bG.g G.g)[j]? = iN y2->∃y,G.g[j]? = iN y/\y2.2=y.2/\y2.1.e=y.1.e/\y2.1.k=y.1.k/\∀x0,bG.g[j]? = iN x0->y2.1.aG=y.1.aG\/x0.aG<y2.1.aG:=by grind
 have amO:Reb G G2 bG.H.length bG.g:=by
  refine⟨λ_ _ h=>h,λr b hr' hb=>?_,λj x0 x hd hx0 hj=>?_⟩
  ·grind
  grind
 have Gu:DC w G ⟨bY c.boxes.length,bY c.rows.length,st.g.map (·.aG)⟩ G2 ⟨bY c.boxes.length,bY c.rows.length,(eu c.rows bG.g).map (·.aG)⟩:=by
  refine⟨λ_ _ h=>h,λr r' b h1 h2=>?_,λj j' v x hd h1 h2 h3=>?_⟩
  ·grind
  grind
 have arQ:∀(j:Nat) d,(oP W 0 bG.t)[j]? = iN d->VT E w G2 d (a.tmps.getD j M2):=by
  intro j d hj;rcases Zx W 0 bG.t j d hj with rfl|⟨hnw,hj'⟩
  ·simp only[VT]
  ·rw[rX]at hnw;have:=hr.tmps j d (by rw[hk j hnw];exact hj');exact VT.B5 amO this (hp.slots j d hj')
 obtain⟨p1,p2,p3⟩:=Zy hE Gu hr.at c.vars (oP W 0 bG.t) la (lb++le) hla arQ
 obtain⟨q1,q2,q3⟩:=KE hE Gu c.boxes 0 st.H bG.H G.i lb le hlb (λq b x hq hx=>hr.boxes.box q b x hq hx) (λq b x hq h1 h2 hx=>by
  rw[rX]at h1 h2;have hx':st.H[q]? = iN x:=by rw[hH q h1 h2];exact hx
  exact kI.B5 amO (hr.boxes.box q b x hq hx') (hp.boxes q x hx)) si
 have ev:=hr.fF;have hG0:∀(r b:Nat),(G.i.take c.boxes.length)[r]? = iN b->G.i[r]? = iN b:=λr b hb=>by grind
 have hmem:∀b,b∈G.i.take c.boxes.length->b∈G.i:=λb hb=>Mh hb;refine⟨G2,⟨⟨ev.os,ev.tape,ev.output,ev.size,ev.old,⟨ev.goes.pr,ev.goes.cells,λr b hb=>?_,λj x0 hd hj=>?_⟩,ev.pE,λr b h1 h2=>ev.r7 r b h1 (hG0 r b h2),λj x hd b hj hb=>?_⟩,?_,?_,?_,?_,λr b hb hd=>?_,hr.pins,?_⟩,Gu⟩
 ·have hlt:=(fC.1 hb).1;have:=hp.nb;rw[abc,if_pos om];exact ev.goes.i r b hb
 ·obtain⟨x',hd',h1,h2,h3⟩:=ev.goes.g j x0 hd hj;obtain⟨xp,hxp,hle⟩:=hp.rows j x0 hd hj;grind
 ·obtain⟨y,hy,e1,-⟩:=abt j (x,hd) hj;simp only at e1;subst e1;exact ev.iz j y.1 y.2 b hy hb
 ·show a.tmps.size=((oh _ c.vars (oP W 0 bG.t) (la++(lb++le))).1).length;rw[p2,H6,<-ht];exact hr.size
 ·exact p3
 ·show kW E w G2 a.defers bG.df;rw[<-hdf];exact kW.B5 amO hr.defers (by rw[hdf];exact hp.defs)
 ·refine⟨?_,n1,λr b x hb hx=>?_,λb hb=>hr.boxes.lt b (hmem b hb),(List.take_sublist _ _).nodup hr.boxes.nodup,λb o tZ=>⟨(hr.boxes.gN b o tZ).1,λhm=>(hr.boxes.gN b o tZ).2 (hmem b hm)⟩,λj x hd hj=>?_,
   λj j' x hd x' hd' b hj hj' hb hb'=>?_⟩
  ·show(G.i.take c.boxes.length).length=(ff _ c.boxes bG.H (oh _ c.vars (oP W 0 bG.t) (la++(lb++le))).2).length;simp_all
  ·have hx:(ff _ c.boxes bG.H (oh _ c.vars (oP W 0 bG.t) (la++(lb++le))).2)[r]? = iN x:=hx;grind
  ·obtain⟨y,hy,e1,e2,e3,-⟩:=abt j (x,hd) hj;subst e1;obtain⟨n,xs,g1,g2,g3⟩:=hr.boxes.grow j y.1 y.2 hy;refine⟨n,xs,by rw[e2,e3];exact g1,λa m h=>by rw[e2];exact g2 a m h,λb hb=>?_⟩;grind
  ·obtain⟨y,hy,e1,-⟩:=abt j (x,hd) hj;obtain⟨y',hy',e1',-⟩:=abt j' (x',hd') hj';subst e1;subst e1';exact hr.boxes.apart j j' y.1 y.2 y'.1 y'.2 b hy hy' hb hb'
 ·refine hr.fix r b hb ?_;have hd:r∉ES 0 c.boxes++bG.d:=hd;rw[ni,not_or]at hd;rw[hD,ni,not_or];refine⟨?_,hd.2⟩;have hlt:=(fC.1 hb).1;have:=hp.nb;have:=FA c.boxes 0 st.H lb hlb r om (by simp_all);simp_all
 ·intro j c0 hm;have hm:(j,c0)∈oz iN c.soft (qG c.boxes (oh _ c.vars (oP W 0 bG.t) (la++(lb++le))).2):=hm;rw[p1,H7 c.boxes 0 st.H lb le hlb]at hm;obtain⟨q,j',⟨t,ht⟩,e1,e2,e3⟩:=Ef (f:=iN) (f2:=iN) (rest:=[]) hle (by rw[TL];exact hm);cases e1;cases e2;have qF:=acS CZ j t ht;obtain⟨x,hd,h1,h2⟩:=hr.gO j c0 e3;obtain⟨y2,hy,f1,f2,f3,-⟩:=n4 j (x,hd) h1 qF;refine⟨y2.1,hd,?_,h2.keep f2 f3 (λ_ _ h=>h) (λ_ _ _ _ h=>h) (λb _=>⟨rfl,λ_ h=>h⟩)⟩;grind
end Go.RT
namespace Go.RT
variable {E : TEnv}
def kX(P:bx)(f:H5)(args:aK T1)(w:U)(R:Ending->U->Prop):Prop:=match (H4 f args).run P w with|.ok (.enter f' args') w'=>Calls P f' args' w' R|.ok (.value v) w'=>R (.returned v) w'|_=>False
def Eg(ok:Bool)(v:T1):Ending:=cond ok (.returned v) (.panicked [{v:=v,recovered:=eQ}])
structure acU(E:TEnv) where
 ok:Bool
 d:TV E
 H:List (gf E)
 g:List cV
 D:List Nat
 c:List (Nat×Cn E)
def mL(P:bx)(f:H5)(ds:J (TV E))(H:J (gf E))(gs:J cV)(cs:J (Nat×Cn E))(r:acU E):Prop:=∀(w:U)(G:bB)(args:aK T1),qR E w G->mY E w G H gs->lS E w G cs->bO E w G ds args.toList->kX P f args w λe w'=>∃v G',e=Eg r.ok v/\mm w G w' G'/\mY E w' G' r.H r.g/\lS E w' G' r.c/\VT E w' G' r.d v/\∀(q b:Nat),G.i[q]? = iN b->q∉r.D->w'.heap[b]? = w.heap[b]?
structure Outs where
 res:PT
 boxes:List (Option BT)
 rows:List (Option (TypeId×Nat))
 soft:List (Nat×Ty)
def Outs.tys(o:Outs):J Ty:=o.res.tys++(MN o.boxes++RZ o.soft)
structure dm where
 f:H5
 args:List PT
 boxes:List BT
 rows:List (TypeId×Nat)
 out:Outs
 nj:Option Outs
 soft:List (Nat×Ty)
def akq:J PT->J Ty|[]=>[]|p::ps=>p.tys++akq ps
def akr:J BT->J Ty|[]=>[]|b::bs=>b.tys++akr bs
def dm.tys(s:dm):J Ty:=akq s.args++(akr s.boxes++RZ s.soft)
@[reducible] def OutP (E : TEnv) (o : Outs) : O Outs -> Type
 | none=>dens E o.tys|some q=>dens E o.tys ⊕ dens E q.tys
structure bQ(E:TEnv) where
 s:dm
 m:dens E s.tys->Option (OutP E s.out s.nj)
def V2(n:Rn):J PT->J (TV E)->O (J (Lf E))
 | [],[]=>iN []|p::ps,d::ds=>match p.get n d,V2 n ps ds with
  | some l,iN ls=>iN (l++ls)|_,_=>iF
 | _,_=>iF
def B6(n:Rn):J PT->J (Lf E)->J (TV E)×J (Lf E)|[],ls=>([],ls)|p::ps,ls=>((p.put n ls).1::(B6 n ps (p.put n ls).2).1,(B6 n ps (p.put n ls).2).2)
def V3(n:Rn):J BT->J (gf E)->O (J (Lf E))
 | [],[]=>iN []|t::ts,x::xs=>match t.get n x,V3 n ts xs with
  | some l,iN ls=>iN (l++ls)|_,_=>iF
 | _,_=>iF
def zL(n:Rn):J BT->J (Lf E)->J (gf E)×J (Lf E)|[],ls=>([],ls)|t::ts,ls=>((t.put n ls).1::(zL n ts (t.put n ls).2).1,(zL n ts (t.put n ls).2).2)
def dm.g0(s:dm):J cV:=s.rows.map λp=>⟨0,p.1,p.2⟩
def dm.n0(s:dm):Rn:=⟨bY s.boxes.length,bY s.rows.length,s.g0.map (·.aG)⟩
def dm.ds(s:dm)(ls:J (Lf E)):J (TV E):=(B6 s.n0 s.args ls).1
def dm.H(s:dm)(ls:J (Lf E)):J (gf E):=(zL s.n0 s.boxes (B6 s.n0 s.args ls).2).1
def dm.c(s:dm)(ls:J (Lf E)):J (Nat×Cn E):=oz iN s.soft (zL s.n0 s.boxes (B6 s.n0 s.args ls).2).2
def Outs.n1(o:Outs)(g:J cV):Rn:=⟨bY o.boxes.length,bY o.rows.length,(eu o.rows g).map (·.aG)⟩
def Outs.oa(o:Outs)(ok:Bool)(H0:J (gf E))(g:J cV)(ls:J (Lf E)):acU E:=⟨ok,(o.res.put (o.n1 g) ls).1,ff (o.n1 g) o.boxes H0 (o.res.put (o.n1 g) ls).2,eu o.rows g,ES 0 o.boxes,oz iN o.soft (qG o.boxes (o.res.put (o.n1 g) ls).2)⟩
def kY(s:dm)(H0:J (gf E)):(p:O Outs)->OutP E s.out p->acU E|none,y=>s.out.oa hJ H0 s.g0 (aV s.out.tys y)|some _,.inl y=>s.out.oa hJ H0 s.g0 (aV s.out.tys y)|some q,.inr y=>q.oa eQ H0 s.g0 (aV q.tys y)
def bQ.Ok(P:bx)(C:bQ E):Prop:=∀x y,C.m x=iN y->mL P C.s.f (C.s.ds (aV C.s.tys x)) (C.s.H (aV C.s.tys x)) C.s.g0 (C.s.c (aV C.s.tys x)) (kY C.s (C.s.H (aV C.s.tys x)) C.s.nj y)
structure MO(w:World)(G:bB)(n:Rn)(G2:bB)(n2:Rn):Prop extends DC w G n G2 n2 where
 lb:n2.b.length<=n.b.length
 lg:n2.g.length<=n.g.length
 lv:n2.v.length<=n.v.length
theorem CT.AB(n n2:Rn)(c:CT)(ls:J (Lf E)):(c.put n ls).2=(c.put n2 ls).2:=by cases c<;>cases ls<;>first|rfl|(rename_i l;cases l<;>rfl)
theorem CT.A9(n n2:Rn):∀(cs:J CT)(ls:J (Lf E)),(CT.qw n cs ls).2=(CT.qw n2 cs ls).2
 | [],ls=>rfl|c::cs,ls=>by
  unfold CT.qw;split
  ·exact CT.A9 n n2 cs _
  ·rw[CT.AB n n2 c ls];exact CT.A9 n n2 cs _
theorem PT.AB(n n2:Rn)(p:PT)(ls:J (Lf E)):(p.put n ls).2=(p.put n2 ls).2:=by cases p with|one c=>exact CT.AB n n2 c ls|agg cs=>exact CT.A9 n n2 cs ls|dI cs=>exact CT.A9 n n2 cs ls
theorem BT.AB(n n2:Rn)(t:BT)(ls:J (Lf E)):(t.put n ls).2=(t.put n2 ls).2:=by
 cases t with
 | cells ty cs=>exact CT.A9 n n2 cs ls|loop y cs=>exact CT.A9 n n2 cs ls|map kt vt=>cases ls<;>rfl
 | iter=>cases ls with|nil=>rfl|cons l ls=>cases ls<;>rfl
variable{w:U}{G G2:bB}{n:Rn}{α:Type}{l:J α}{v:T1}{vs:J T1}
section
variable {n2 : Rn}
theorem getElem?_none_of{β:Type}{m:J β}{r:Nat}(h:l[r]? = iF)(hl:m.length<=Ts l):m[r]? = iF:=by grind
theorem ZA(hL:MO w G n G2 n2):∀(caps:J (Nat×Nat)){vs:J T1},bO E w G (Hq n caps:J (TV E)) vs->bO E w G2 (Hq n2 caps:J (TV E)) vs
 | [],vs,h=>by simp_all[Hq,bO]|(r,off)::caps,vs,h=>by
  obtain⟨u,us,rfl,h1,h2⟩:=h.cons_inv;refine .cons ?_ (ZA hL caps h2);cases hr:n.b[r]? with
  | none=>rw[getElem?_none_of hr hL.lb];simp[VT]|some r'=>rw[hr]at h1;obtain⟨b,rfl,hb⟩:=h1;obtain⟨r2,hr2,nP⟩:=hL.i r r' b hr hb;rw[hr2];exact⟨b,rfl,nP⟩
theorem CT.move(hL:MO w G n G2 n2)(c:CT)(ls:J (Lf E))(h:VT E w G (c.put n ls).1 v):VT E w G2 (c.put n2 ls).1 v:=by
 cases c with
 | dat t=>cases ls with
  | nil=>simp[CT.put,VT]|cons l ls=>exact VT.ua h hL.pr
 | any=>simp[CT.put,VT]|pk t=>simp[CT.put,VT]|ptr r off=>
  simp[CT.put]at h⊢;cases hr:n.b[r]? with
  | none=>rw[getElem?_none_of hr hL.lb];simp[VT]|some r'=>rw[hr]at h;obtain⟨b,rfl,hb⟩:=h;obtain⟨r2,hr2,nP⟩:=hL.i r r' b hr hb;simp_all[VT]
 | qY r off=>
  cases ls with
  | nil=>simp[CT.put,VT]|cons l ls=>
   simp[CT.put]at h⊢;cases hr:n.b[r]? with
   | none=>rw[getElem?_none_of hr hL.lb];simp[VT]|some r'=>
    rw[hr]at h;obtain⟨t,x⟩:=l;cases hn:n2.b[r]? with
    | none=>simp[VT]|some r2'=>
     cases t<;>try (simp[VT];done)
     cases x<;>simp[VT]at h⊢
     ·exact h
     ·obtain⟨b,rfl,hb⟩:=h;obtain⟨r2,hr2,nP⟩:=hL.i r r' b hr hb;simp_all
 | jS r=>
  simp[CT.put]at h⊢;cases hr:n.b[r]? with
  | none=>rw[getElem?_none_of hr hL.lb];simp[VT]|some r'=>rw[hr]at h;obtain⟨b,rfl,hb⟩:=h;obtain⟨r2,hr2,nP⟩:=hL.i r r' b hr hb;simp_all[VT]
 | vz r=>
  simp[CT.put]at h⊢;cases hr:n.b[r]? with
  | none=>rw[getElem?_none_of hr hL.lb];simp[VT]|some r'=>rw[hr]at h;obtain⟨b,rfl,hb⟩:=h;obtain⟨r2,hr2,nP⟩:=hL.i r r' b hr hb;simp_all[VT]
 | cH j t=>
  cases ls with
  | nil=>simp[CT.put,VT]|cons l ls=>
   simp[CT.put]at h⊢;cases hj:n.g[j]? with
   | none=>rw[getElem?_none_of hj hL.lg];simp[VT]|some j'=>
    cases ER:n.v[j]? with
    | none=>rw[getElem?_none_of ER hL.lv];simp_all[VT]|some vv=>
     rw[hj,ER]at h;obtain⟨t',x⟩:=l;cases t' with
     | bz t'=>obtain⟨BQ,x1,h1,hg,hle,heq⟩:=h;obtain⟨V1,j2,v2,x2,q1,q2,q3,q4⟩:=hL.g j j' vv x1 h1 hj ER hg;rw[q1,q2];exact⟨BQ.mono hL.pr (λ_ _ _ _ h=>h),x2,h1,q3,om,λ_=>heq V1.symm⟩
     | _=>simp_all[VT]
 | func f caps=>simp[CT.put,VT]at h⊢;grind[ZA]|eF j=>
  simp[CT.put]at h⊢;cases hj:n.g[j]? with
  | none=>rw[getElem?_none_of hj hL.lg];simp[VT]|some j'=>
   cases ER:n.v[j]? with
   | none=>rw[getElem?_none_of ER hL.lv];simp_all[VT]|some vv=>rw[hj,ER]at h;obtain⟨x1,h1,hg,hle,h2,heq⟩:=h;obtain⟨V1,j2,v2,x2,q1,q2,q3,q4⟩:=hL.g j j' vv x1 h1 hj ER hg;grind[VT]
 | iZ j k=>
  simp[CT.put]at h⊢;cases hj:n.g[j]? with
  | none=>rw[getElem?_none_of hj hL.lg];simp[VT]|some j'=>
   cases ER:n.v[j]? with
   | none=>rw[getElem?_none_of ER hL.lv];simp_all[VT]|some vv=>rw[hj,ER]at h;obtain⟨x1,h1,hg,hle,h2,heq⟩:=h;obtain⟨V1,j2,v2,x2,q1,q2,q3,q4⟩:=hL.g j j' vv x1 h1 hj ER hg;grind[VT]
 | uZ t=>cases ls with
  | nil=>simp[CT.put,VT]|cons l ls=>
   obtain⟨t',x⟩:=l;cases t' with
   | bz t'=>obtain⟨vs,rfl,h1,h⟩:=h;exact⟨vs,rfl,h1,h.mono hL.pr (λ_ _ _ _ h=>h)⟩
   | _=>simp[CT.put,VT]
 | nil k=>simp_all[CT.put,VT]|lb b=>rw[VT.nv h];exact .bool _ _ _|li k n=>rw[VT.gq h];exact .int _ _ _ _|tT t off=>cases ls with
  | nil=>simp[CT.put,VT]|cons l ls=>obtain⟨b,o,c,rfl,h1,h2⟩:=h;exact⟨b,o,c,rfl,h1.mono hL.pr (λ_ _ _ _ h=>h),λl u hl=>⟨hL.pr _ _ (h2 l u hl).1,(h2 l u hl).2⟩⟩
 | iface ty t=>cases ls with
  | nil=>simp[CT.put,VT]|cons l ls=>obtain⟨u,rfl,h⟩:=h;exact⟨u,rfl,VT.ua h hL.pr⟩
theorem bO.ZB{w:U}{G:bB}:∀ {ds es:J (TV E)}{vs:J T1},bO E w G (ds++es) vs->∃us ts,vs=us++ts/\bO E w G ds us/\bO E w G es ts
 | [],_,vs,h=>⟨[],vs,rfl,bO.nil,h⟩|_::_,_,_,h=>by obtain⟨u,us,rfl,h1,h2⟩:=bO.cons_inv h;obtain⟨us',ts,rfl,h3,h4⟩:=bO.ZB h2;exact⟨u::us',ts,rfl,.cons h1 h3,h4⟩
theorem ZC{f:(i:Nat)->E.D i->O (J (TV E))}(hf:∀i x cs,f i x=iN cs->∀d∈cs,∃t y,d=TV.dat t y):∀(t:Ty)(x:t.den E.D)(cs:J (TV E)),BU E f t x=iN cs->∀d∈cs,∃t y,d=TV.dat t y:=by
 intro t
 induction t with
 | int k=>intro x cs h d hd;cases h;simp_all
 | bool=>intro x cs h d hd;cases h;simp_all
 | str=>intro x cs h d hd;cases h;simp_all
 | bz t _=>intro x cs h d hd;cases h;simp_all
 | unit=>intro x cs h d hd;cases h;cases hd
 | ext i=>intro x cs h;exact hf i x cs h|pair a b FU FV=>
  intro x cs h d hd;simp[BU]at h;cases e1:BU E f a x.1 with
  | none=>rw[e1]at h;cases h
  | some l=>dsimp only[Option.bind]at h;grind
theorem ZD:∀(n:Nat)(t:Ty)(x:t.den E.D)(cs:J (TV E)),Jx E n t x=iN cs->∀d∈cs,∃t y,d=TV.dat t y
 | 0,t,x,cs,h=>ZC (λ_ _ _ h=>by cases h) t x cs h
 | n+1,t,x,cs,h=>ZC (λi x cs h=>ZD n (E.df i) (E.BO i x) cs h) t x cs h
theorem agb{w:U}{G G2:bB}(hp:∀b o,G.pr b o->G2.pr b o):∀ {ds:J (TV E)}{vs:J T1},(∀d∈ds,∃t y,d=TV.dat t y)->bO E w G ds vs->bO E w G2 ds vs
 | [],_,_,h=>by simp_all[bO]|d::ds,_,hd,h=>by obtain⟨u,us,rfl,h1,h2⟩:=h.cons_inv;obtain⟨t,y,rfl⟩:=hd d (tJ ..);exact .cons (h1.ua hp) (agb hp (λd h=>hd d (kV _ h)) h2)
theorem aks(hp:∀b o,G.pr b o->G2.pr b o)(ls:J (Lf E))(h:bO E w G (CT.MM ls).1 vs):bO E w G2 (CT.MM ls).1 vs:=by cases ls with|nil=>simp_all[CT.MM,bO]|cons l ls=>grind[CT.MM,Jx,bO,agb,ZD]
theorem CT.R2(hL:MO w G n G2 n2):∀(cs:J CT)(ls:J (Lf E)){vs:J T1},bO E w G (CT.qw n cs ls).1 vs->bO E w G2 (CT.qw n2 cs ls).1 vs
 | [],ls,vs,h=>by simp_all[CT.qw,bO]|c::cs,ls,vs,h=>by
  unfold CT.qw at h⊢;split at h
  ·obtain⟨us,ts,rfl,h1,h2⟩:=h.ZB;refine bO.append (aks hL.pr ls h1) ?_;exact CT.R2 hL cs _ h2
  ·rename_i ht;obtain⟨u,us,rfl,h1,h2⟩:=h.cons_inv;refine .cons (CT.move hL c ls h1) ?_;rw[CT.AB n2 n];exact CT.R2 hL cs _ h2
theorem PT.move(hL:MO w G n G2 n2)(p:PT)(ls:J (Lf E))(h:VT E w G (p.put n ls).1 v):VT E w G2 (p.put n2 ls).1 v:=by cases p with|one c=>exact CT.move hL c ls h|agg cs=>grind[PT.put,VT,CT.R2]|dI cs=>grind[PT.put,VT,CT.R2]
theorem BT.move(hL:MO w G n G2 n2)(t:BT)(ls:J (Lf E)){b:Nat}(h:kI E w G b (t.put n ls).1):kI E w G2 b (t.put n2 ls).1:=by
 cases t with
 | cells ty cs=>obtain⟨vs,h1,h2,h3⟩:=h;exact⟨vs,h1,h2,CT.R2 hL cs ls h3⟩
 | loop y cs=>obtain⟨Y,fn,tmps,D,h0,h1,h2⟩:=h;exact⟨Y,fn,tmps,D,h0,h1,CT.R2 hL cs ls h2⟩
 | map kt vt=>cases ls with
  | nil=>exact h|cons l ls=>
   obtain⟨t,x⟩:=l;simp[BT.put]at h⊢;split at h
   ·rename_i kt' vt' m heq;obtain⟨es,clock,h1,h2,h3⟩:=h;exact⟨es,clock,h1,h2,h3.pr hL.pr⟩
   ·exact h
 | iter=>cases ls with
  | nil=>exact h|cons l ls=>cases ls with
   | nil=>exact h|cons l' ls=>simp[BT.put]at h⊢;split at h<;>exact h
end
def xE:J Nat->Bool|[]=>hJ|x::xs=>!(xs.elem x)&&xE xs
theorem xF:∀ {l:J Nat},xE l=hJ->l.Nodup
 | [],_=>zj|x::xs,h=>by simp only[xE,cK]at h;refine Fp.2 ⟨λhm=>?_,xF h.2⟩;rw[aok hm]at h;cases h.1
def pick{α:Type}(l:J α):J Nat->O (J α)
 | []=>iN []|i::is=>match l[i]?,pick l is with
  | some x,iN xs=>iN (x::xs)|_,_=>iF
theorem tf{α:Type}{l:J α}:∀ {is:J Nat}{xs:J α},pick l is=iN xs->Ts xs=Ts is/\∀(r i:Nat),is[r]? = iN i->∃x,xs[r]? = iN x/\l[i]? = iN x
 | [],xs,h=>by cases h;simp_all
 | i::is,xs,h=>by
  simp[pick]at h;split at h<;>try trivial
  rename_i x ys h1 h2;cases h;obtain⟨q1,q2⟩:=tf h2;refine⟨by simp[q1],λr k hr=>?_⟩;cases r with|zero=>simp at hr;subst hr;exact⟨x,rfl,h1⟩|succ r=>simpa using q2 r k (by simpa using hr)
theorem Yc{α β:Type}{l:J α}{m:J β}(hl:Ts l=m.length):∀ {is:J Nat}{xs:J α},pick l is=iN xs->∃ys,pick m is=iN ys
 | [],xs,h=>⟨[],rfl⟩|i::is,xs,h=>by
  simp[pick]at h;split at h<;>try trivial
  rename_i x ys h1 h2;obtain⟨zs,hz⟩:=Yc hl h2;grind[List.getElem?_eq_some_iff,pick,List.getElem?_eq_getElem]
def AD:J (aL×Nat)->J cV->Bool|[],[]=>hJ|p::ps,x::xs=>(eI p.1 x.e&&eI p.2 x.k)&&AD ps xs|_,_=>eQ
theorem Eh:∀ {ps:J (aL×Nat)}{xs:J cV},AD ps xs=hJ->Ts ps=Ts xs/\∀(j:Nat) p x,ps[j]? = iN p->xs[j]? = iN x->p.1=x.e/\p.2=x.k
 | [],[],_=>⟨rfl,λj p x h=>by simp at h⟩|p::ps,x::xs,h=>by simp only[AD,cK]at h;obtain⟨q1,q2⟩:=Eh h.2;refine⟨by simp[q1],λj p' x' hp hx=>?_⟩;cases j with|zero=>simp at hp hx;subst hp;subst hx;exact⟨eY h.1.1,eY h.1.2⟩|succ j=>exact q2 j p' x' (by simpa using hp) (by simpa using hx)
 | [],_::_,h=>by cases h
 | _::_,[],h=>by cases h
def dm.enter(s:dm)(bs gs:J Nat)(st:TS E)(ds:J (TV E)):Option (J (Lf E)):=
 match pick st.H bs,pick st.g gs with
 | some H,iN g=>cond (xE bs&&(xE gs&&(eI bs.length s.boxes.length&&AD s.rows g)))
   (match V2 ⟨bs,gs,g.map (·.aG)⟩ s.args ds,V3 ⟨bs,gs,g.map (·.aG)⟩ s.boxes H,Lr (λq=>gs[q]?) st.c s.soft with|some a,iN b,iN e=>iN (a++(b++e))|_,_,_=>iF) iF
 | _,_=>iF
section
variable {n2 : Rn}
theorem acV(hE:E.Ok)(hL:DC w G n G2 n2):∀ {ps:J PT}{ds:J (TV E)}{ls rest:J (Lf E)}{vs:J T1},V2 n ps ds=iN ls->bO E w G ds vs ->
  (B6 n2 ps (ls++rest)).2=rest/\bO E w G2 (B6 n2 ps (ls++rest)).1 vs
 | [],[],ls,rest,vs,h,hv=>by cases h;simp[bO]at hv;subst hv;exact⟨rfl,bO.nil⟩
 | p::ps,d::ds,ls,rest,vs,h,hv=>by
  simp[V2]at h;split at h<;>try trivial
  rename_i l ls' h1 h2;cases h;obtain⟨u,us,rfl,q1,q2⟩:=hv.cons_inv;obtain⟨e1,e2⟩:=PT.sound hE hL (rest:=ls'++rest) h1 q1;obtain⟨e3,e4⟩:=acV hE hL h2 q2;simp[B6,e1];exact⟨e3,.cons e2 e4⟩
 | [],_::_,_,_,_,h,_=>by cases h
 | _::_,[],_,_,_,h,_=>by cases h
theorem acW(hE:E.Ok)(hL:DC w G n G2 n2):∀ {ts:J BT}{xs:J (gf E)}{ls rest:J (Lf E)}{is:J Nat},V3 n ts xs=iN ls->Ts is=Ts xs->(∀(q b:Nat) x,is[q]? = iN b->xs[q]? = iN x->kI E w G b x) ->
  (zL n2 ts (ls++rest)).1.length=Ts ts/\(zL n2 ts (ls++rest)).2=rest/\∀(q b:Nat) x,is[q]? = iN b->(zL n2 ts (ls++rest)).1[q]? = iN x->kI E w G2 b x
 | [],[],ls,rest,is,h,_,hv=>by cases h;simp_all[zL]
 | t::ts,x::xs,ls,rest,is,h,hil,hv=>by
  simp[V3]at h;split at h<;>try trivial
  rename_i l ls' h1 h2;cases h;cases is with
  | nil=>simp at hil|cons i is=>obtain⟨e1,e2⟩:=BT.sound hE hL (rest:=ls'++rest) h1 (hv 0 i x si si);obtain⟨e3,e5,e4⟩:=acW hE hL h2 (by simpa using hil) (λq b y hq hy=>hv (q+1) b y (by simpa using hq) (by simpa using hy));simp[zL,e1];refine⟨by simp[e3],e5,λq b y hq hy=>?_⟩;cases q with|zero=>simp at hq hy;subst hq;subst hy;exact e2|succ q=>exact e4 q b y (by simpa using hq) (by simpa using hy)
 | [],_::_,_,_,_,h,_,_=>by cases h
 | _::_,[],_,_,_,h,_,_=>by cases h
end
def bB.ey(G:bB)(is:J Nat)(gs:J (cV×T1)):bB:=⟨is,gs.map λx=>({x.1 with aG:=0},x.2),G.pr⟩
variable{P:bx}{w0 w':U}{G0 G':bB}{st:TS E}{a:Act}{bs gs:J Nat}{ls:J (Lf E)}
theorem Rel.enter(hE:E.Ok)(hr:Rel E w0 G0 st a w G){s:dm}{ds:J (TV E)}(h:s.enter bs gs st ds=iN ls)(hv:bO E w G ds vs):
  ∃is gg,pick G.i bs=iN is/\pick G.g gs=iN gg/\mY E w (G.ey is gg) (s.H ls) s.g0/\lS E w (G.ey is gg) (s.c ls)/\bO E w (G.ey is gg) (s.ds ls) vs:=by
 unfold dm.enter at h;split at h<;>try trivial
 rename_i H g hH hg;cases hc:(xE bs&&(xE gs&&(eI bs.length s.boxes.length&&AD s.rows g)))<;>rw[hc]at h<;>simp only[aU,aJ]at h
 ·cases h
 simp only[cK]at hc;obtain⟨hn1,hn2,HP,hrs⟩:=hc;have HP:=eY HP;obtain⟨hrl,hrs⟩:=Eh hrs;split at h<;>try trivial
 rename_i la lb le hla hlb hle;cases h;have hgs:=hr.boxes.gs;obtain⟨is,hi⟩:=Yc hr.boxes.len.symm hH;obtain⟨gg,Jz⟩:=Yc (m:=G.g) (by rw[<-hgs];simp) hg;obtain⟨hHl,hHg⟩:=tf hH;obtain⟨hgl,au9⟩:=tf hg;obtain⟨hil,hig⟩:=tf hi;obtain⟨arR,MP⟩:=tf Jz;have hgr:∀(j:Nat) x y,gg[j]? = iN x->g[j]? = iN y->x.1=y:=λj x y hx hy=>by
  have hj:j<Ts gs:=by grind
  obtain⟨x',h1,h2⟩:=MP j _ (ga hj);obtain⟨y',h3,h4⟩:=au9 j _ (ga hj);grind
 have hg0:(gg.map λx=>({x.1 with aG:=0}:cV))=s.g0:=by unfold dm.g0;apply List.ext_getElem?;grind
 have Gu:DC w G ⟨bs,gs,g.map (·.aG)⟩ (G.ey is gg) s.n0:=by
  refine⟨λ_ _ h=>h,λr r' b h1 h2=>?_,λj j' v x hd h1 h2 h3=>?_⟩
  ·obtain⟨b',h3,h4⟩:=hig r r' h1;rw[h2]at h4;cases h4;have hrl:r<s.boxes.length:=by grind
   exact⟨r,by simp[dm.n0,hrl],h3⟩
  ·grind[List.getElem?_eq_some_iff,List.getElem?_eq_getElem,dm.n0,bB.ey,dm.g0]
 obtain⟨p1,p2⟩:=acV hE Gu hla hv
 obtain⟨q1,q5,q2⟩:=acW hE Gu (rest:=le) (is:=is) hlb om (λq b x hq hx=>by
  have qF:q<Ts bs:=by grind
  obtain⟨b',h1,h2⟩:=hig q _ (ga qF);obtain⟨x',h3,h4⟩:=hHg q _ (ga qF);rw[hq]at h1;cases h1;rw[hx]at h3;cases h3;exact hr.boxes.box _ b x h2 h4)
 have hmem:∀b,b∈is->b∈G.i:=λb hb=>by obtain⟨q,hq,rfl⟩:=lH hb;obtain⟨b',h1,h2⟩:=hig q _ (ga om);grind
 have hrow:∀(j:Nat) x hd,((G.ey is gg).g)[j]? = iN (x,hd)->∃j' y,gs[j]? = iN j'/\G.g[j']? = iN (y,hd)/\x={y with aG:=0}:=λj x hd hj=>by
  simp only[bB.ey,OU,Rh]at hj;have hjl:j<Ts gs:=by grind
  obtain⟨x',h4,h5⟩:=MP j _ (ga hjl);grind
 have hnd:=xF hn1;have arS:=xF hn2;refine⟨is,gg,hi,Jz,⟨?_,?_,λr b x hb hx=>?_,λb hb=>hr.boxes.lt b (hmem b hb),?_,λb o hp=>⟨(hr.boxes.gN b o hp).1,λhm=>(hr.boxes.gN b o hp).2 (hmem b hm)⟩,λj x hd hj=>?_,λj j' x hd x' hd' b hj hj' hb hb'=>?_⟩,?_,p2⟩
 ·show is.length=(s.H (la++(lb++le))).length;grind[dm.H]
 ·grind[bB.ey,List.map_map,Function.comp_def]
 ·unfold dm.H at hx;rw[p1]at hx;exact q2 r b x hb hx
 ·show is.Nodup;refine agR.2 λp q hp hq hpq he=>?_;obtain⟨b1,h1,h2⟩:=hig p _ (ga om);obtain⟨b2,h3,h4⟩:=hig q _ (ga om);have:b1=b2:=by grind
  subst this;have e1:=fC.1 h2;have e2:=fC.1 h4;have:=(UR hr.boxes.nodup).1 (e1.2.trans e2.2.symm);grind[List.getElem_inj]
 ·obtain⟨j',y,h1,h2,rfl⟩:=hrow j x hd hj;obtain⟨n,xs,g1,g2,g3⟩:=hr.boxes.grow j' y hd h2;exact⟨n,xs,g1,g2,λb hb=>⟨(g3 b hb).1,λhm=>(g3 b hb).2.1 (hmem b hm),(g3 b hb).2.2⟩⟩
 ·obtain⟨i1,y,h1,h2,rfl⟩:=hrow j x hd hj;obtain⟨i2,y',h3,h4,rfl⟩:=hrow j' x' hd' hj';have:=hr.boxes.apart i1 i2 y hd y' hd' b h2 h4 hb hb';grind[List.getElem?_eq_some_iff,List.getElem_inj]
 ·intro q c0 hm;have hm:(q,c0)∈oz iN s.soft (zL s.n0 s.boxes (B6 s.n0 s.args (la++(lb++le))).2).2:=hm;rw[p1,q5]at hm;obtain⟨q',j,-,e1,e2,e3⟩:=Ef (rest:=[]) hle (by rw[TL];exact hm);cases e2;obtain⟨x,hd,h1,h2⟩:=hr.gO j c0 e3;obtain⟨x',h4,h5⟩:=MP q j e1;rw[h1]at h5;cases h5;exact⟨{x with aG:=0},hd,by simp[bB.ey,h4],h2.keep rfl rfl (λ_ _ h=>h) (λ_ _ _ _ h=>h) (λb _=>⟨rfl,λ_ h=>h⟩)⟩
def kO{α:Type}:J (Nat×α)->J α->J α|[],l=>l|(i,x)::ps,l=>kO ps (l.set i x)
theorem iq{α:Type}:∀(ps:J (Nat×α))(l:J α),(kO ps l).length=Ts l|[],l=>rfl|(i,x)::ps,l=>by simp[kO,iq ps]
theorem u9{α:Type}:∀(ps:J (Nat×α))(l:J α)(q:Nat),q∉ps.map (·.1)->(kO ps l)[q]? = l[q]?|[],l,q,_=>rfl|(i,x)::ps,l,q,h=>by simp only[jI,hU,not_or]at h;rw[kO,u9 ps _ q h.2,Mb (λe=>h.1 e.symm)]
theorem JG{α:Type}:∀(ps:J (Nat×α))(l:J α)(q:Nat)(x:α),(ps.map (·.1)).Nodup->(q,x)∈ps->q<Ts l->(kO ps l)[q]? = iN x
 | (i,y)::ps,l,q,x,hn,hm,hq=>by
  simp only[jI,Fp]at hn;rcases hU.1 hm with he|hm
  ·obtain⟨rfl,rfl⟩:=he;rw[kO,u9 ps _ _ hn.1,abf hq]
  ·exact JG ps _ q x hn.2 hm (by simpa using hq)
def ri{α:Type}:J (O BT)->J Nat->J α->J (Nat×α)|some _::os,i::is,x::xs=>(i,x)::ri os is xs|none::os,_::is,_::xs=>ri os is xs|_,_,_=>[]
theorem B7{α:Type}:∀ {os:J (O BT)}{is:J Nat}{xs:J α}{i:Nat}{x:α},(i,x)∈ri os is xs->∃(r:Nat)(t:BT),os[r]? = iN (iN t)/\is[r]? = iN i/\xs[r]? = iN x
 | some t::os,j::is,y::xs,i,x,h=>by
  rcases hU.1 h with he|h
  ·cases he;exact⟨0,t,rfl,rfl,rfl⟩
  ·obtain⟨r,t',h1,h2,h3⟩:=B7 h;exact⟨r+1,t',by simpa using h1,by simpa using h2,by simpa using h3⟩
 | none::os,j::is,y::xs,i,x,h=>by obtain⟨r,t',h1,h2,h3⟩:=B7 (xs:=xs) h;exact⟨r+1,t',by simpa using h1,by simpa using h2,by simpa using h3⟩
 | [],_,_,_,_,h=>by cases h
 | some _::_,[],_,_,_,h=>by cases h
 | none::_,[],_,_,_,h=>by cases h
 | some _::_,_::_,[],_,_,h=>by cases h
 | none::_,_::_,[],_,_,h=>by cases h
theorem MQ{α:Type}:∀ {os:J (O BT)}{is:J Nat}{xs:J α}(r:Nat){t:BT}{i:Nat}{x:α},os[r]? = iN (iN t)->is[r]? = iN i->xs[r]? = iN x->(i,x)∈ri os is xs
 | o::os,j::is,y::xs,0,t,i,x,h1,h2,h3=>by simp_all[ri]|o::os,j::is,y::xs,r+1,t,i,x,h1,h2,h3=>by have:=MQ r (by simpa using h1) (by simpa using h2) (by simpa using h3);cases o<;>simp[ri,this]
 | [],_,_,_,_,_,_,h,_,_=>by simp at h|_::_,[],_,_,_,_,_,_,h,_=>by simp at h|_::_,_::_,[],_,_,_,_,_,_,h=>by simp at h
theorem H8{α:Type}:∀ {os:J (O BT)}{is:J Nat}{xs:J α},is.Nodup->((ri os is xs).map (·.1)).Nodup
 | some t::os,j::is,y::xs,h=>by rw[Fp]at h;simp only[ri,jI,Fp];refine⟨λhm=>?_,H8 h.2⟩;obtain⟨p,hp,he⟩:=lI.1 hm;obtain⟨i,x⟩:=p;obtain⟨r,t',-,h2,-⟩:=B7 hp;exact h.1 (by rw[<-show i=j from he];exact jR h2)
 | none::os,j::is,y::xs,h=>H8 (xs:=xs) (Fp.1 h).2|[],_,_,_=>zj|some _::_,[],_,_=>zj|none::_,[],_,_=>zj|some _::_,_::_,[],_=>zj|none::_,_::_,[],_=>zj
theorem R3:∀ {bs:J (O BT)}{r q:Nat},r+q∈ES r bs->∃t,bs[q]? = iN (iN t)
 | [],_,_,h=>by cases h
 | none::bs,r,q,h=>by
  simp[ES]at h;cases q with
  | zero=>
   have key:∀(bs:J (O BT))(r x:Nat),x∈ES r bs->r<=x:=by
    intro bs
    induction bs with
    | nil=>intro r x h;cases h
    | cons o bs ih=>
     intro r x h;cases o with
     | none=>have:=ih (r+1) x h;omega|some t=>rcases List.mem_cons.1 h with rfl|h;exact Nat.le_refl _;grind
   grind
  | succ q=>obtain⟨t,ht⟩:=R3 (bs:=bs) (r:=r+1) (q:=q) (by grind);simp_all
 | some t::bs,r,q,h=>by
  cases q with
  | zero=>exact⟨t,rfl⟩|succ q=>
   rcases hU.1 h with he|h
   ·omega
   ·obtain⟨t,ht⟩:=R3 (by rw[show r+1+q=r+(q+1) by omega];exact h);exact⟨t,by simpa using ht⟩
def rowAt:O (aL×Nat)->O cV->cV|none,iN x=>x|some p,iN x=>⟨x.aG+1,p.1,p.2⟩|some p,iF=>⟨0,p.1,p.2⟩|none,iF=>⟨0,0,0⟩
theorem oA:∀(rs:J (O (aL×Nat)))(g:J cV),(eu rs g).length=Ts rs|[],_=>rfl|none::rs,_::g=>by simp_all[eu,oA]|some _::rs,_::g=>by simp_all[eu,oA]|some _::rs,[]=>by simp_all[eu,oA]|none::rs,[]=>by simp_all[eu,oA]
theorem Ei:∀(rs:J (O (aL×Nat)))(g:J cV)(j:Nat)(o:O (aL×Nat)),rs[j]? = iN o->(eu rs g)[j]? = iN (rowAt o g[j]?)
 | [],_,_,_,h=>by simp at h|r::rs,x::g,0,o,h=>by simp at h;subst h;cases r<;>simp[eu,rowAt]
 | r::rs,[],0,o,h=>by simp at h;subst h;cases r<;>simp[eu,rowAt]
 | r::rs,x::g,j+1,o,h=>by have:=Ei rs g j o (by simpa using h);cases r<;>simpa[eu]using this
 | r::rs,[],j+1,o,h=>by have:=Ei rs [] j o (by simpa using h);cases r<;>simpa[eu]using this
theorem pG(n:Rn):∀(bs:J (O BT))(H:J (gf E))(ls:J (Lf E)),(ff n bs H ls).length=Ts bs|[],_,_=>rfl|none::bs,H,ls=>by simp_all[ff,pG]|some t::bs,H,ls=>by simp_all[ff,pG]
theorem FB{w:U}{G G2:bB}{n n2:Rn}(hL:MO w G n G2 n2):∀(bs:J (O BT))(H H':J (gf E))(ls:J (Lf E))(r:Nat){t:BT}{b:Nat}{x y:gf E},bs[r]? = iN (iN t) ->
  (ff n bs H ls)[r]? = iN x->(ff n2 bs H' ls)[r]? = iN y->kI E w G b x->kI E w G2 b y
 | [],_,_,_,_,_,_,_,_,h,_,_,_=>by simp at h|none::bs,H,H',ls,r+1,t,b,x,y,h,hx,hy,hb=>FB hL bs H.tail H'.tail ls r (by simpa using h) (by simpa[ff]using hx) (by simpa[ff]using hy) hb|none::bs,H,H',ls,0,t,b,x,y,h,hx,hy,hb=>by simp at h|some t'::bs,H,H',ls,0,t,b,x,y,h,hx,hy,hb=>by grind[ff,BT.move]|some t'::bs,H,H',ls,r+1,t,b,x,y,h,hx,hy,hb=>by simp[ff]at hx hy;rw[BT.AB n2 n]at hy;exact FB hL bs H.tail H'.tail _ r (by simpa using h) hx hy hb
def AE:Nat->J (O BT)->Bool|0,[]=>hJ|0,iN _::bs=>AE 0 bs|0,iF::_=>eQ|_+1,[]=>eQ|n+1,_::bs=>AE n bs
theorem KF:∀ {n:Nat}{bs:J (O BT)},AE n bs=hJ->n<=Ts bs/\∀r,n<=r->r<Ts bs->∃t,bs[r]? = iN (iN t)
 | 0,[],_=>⟨eo _,λr _ h=>by simp at h⟩|0,iN t::bs,h=>by obtain⟨_,q⟩:=KF (bs:=bs) h;grind
 | 0,iF::_,h=>by cases h
 | _+1,[],h=>by cases h
 | n+1,o::bs,h=>by obtain⟨q1,q2⟩:=KF (n:=n) h;refine⟨by simpa using q1,λr h1 h2=>?_⟩;cases r with|zero=>omega|succ r=>simp_all
def Ls(gs:J Nat):J (Nat×Cn E)->J (Nat×Cn E)|[]=>[]|p::cs=>cond (gs.elem p.1) (Ls gs cs) (p::Ls gs cs)
theorem B8{gs:J Nat}:∀ {cs:J (Nat×Cn E)}{i:Nat}{c:Cn E},(i,c)∈Ls gs cs->(i,c)∈cs/\i∉gs
 | [],i,c,h=>by cases h
 | p::cs,i,c,h=>by
  simp only[Ls]at h;cases hb:gs.elem p.1<;>rw[hb]at h<;>simp only[aU,aJ]at h
  ·rcases hU.1 h with h|h
   ·refine⟨by rw[h];simp,λe=>?_⟩;rw[<-h]at hb;rw[aok e]at hb;cases hb
   ·exact⟨kV _ (B8 h).1,(B8 h).2⟩
  ·exact⟨kV _ (B8 h).1,(B8 h).2⟩
theorem B9{f:Nat->O Nat}:∀ {ps:J (Nat×Ty)}{ls:J (Lf E)}{i:Nat}{c:Cn E},(i,c)∈oz f ps ls->∃q,f q=iN i/\(q,c)∈oz iN ps ls
 | [],ls,i,c,h=>by cases ls<;>cases h
 | p::ps,[],i,c,h=>by cases h
 | p::ps,l::ls,i,c,h=>by
  obtain⟨q,t⟩:=p;obtain⟨t',x⟩:=l;simp[oz]at h⊢;cases hf:f q with
  | none=>rw[hf]at h;obtain⟨q',e1,e2⟩:=B9 (by cases t'<;>exact h);refine⟨q',e1,?_⟩;cases t'<;>first|exact e2|simp_all
  | some i'=>
   rw[hf]at h;cases t' with
   | bz t'=>
    rcases hU.1 h with e|h
    ·cases e;exact⟨q,hf,tJ ..⟩
    ·obtain⟨q',e1,e2⟩:=B9 h;exact⟨q',e1,kV _ e2⟩
   | _=>simp_all[B9]
def Outs.n2(o:Outs)(bs gs:J Nat)(st:TS E):Rn:=⟨bs++List.range' st.H.length (o.boxes.length-Ts bs),gs++List.range' st.g.length (o.rows.length-Ts gs),(eu o.rows ((pick st.g gs).getD [])).map (·.aG)⟩
def Outs.val(o:Outs)(bs gs:J Nat)(st:TS E)(ls:J (Lf E)):TV E:=(o.res.put (o.n2 bs gs st) ls).1
def Outs.hc(o:Outs)(bs gs:J Nat)(st:TS E)(ls:J (Lf E)):J (gf E):=ff (o.n2 bs gs st) o.boxes [] (o.res.put (o.n2 bs gs st) ls).2
def Outs.after(o:Outs)(bs gs:J Nat)(st:TS E)(ls:J (Lf E)):TS E:=
 {st with
  H:=kO (ri o.boxes bs (o.hc bs gs st ls)) st.H++(o.hc bs gs st ls).drop bs.length
  g:=kO (gs.zip (eu o.rows ((pick st.g gs).getD []))) st.g++(eu o.rows ((pick st.g gs).getD [])).drop gs.length
  d:=(ri o.boxes bs (o.hc bs gs st ls)).map (·.1)++st.d
  c:=oz (λq=>(o.n2 bs gs st).g[q]?) o.soft (qG o.boxes (o.res.put (o.n2 bs gs st) ls).2)++Ls gs st.c}
theorem PJ{α:Type}:∀ {l:J Nat}{m:J α},l.Nodup->((l.zip m).map (·.1)).Nodup
 | [],_,_=>zj|_::_,[],_=>zj|x::l,y::m,h=>by rw[Fp]at h;simp only[List.zip_cons_cons,jI,Fp];refine⟨λhm=>h.1 ?_,PJ h.2⟩;obtain⟨p,hp,he⟩:=lI.1 hm;rw[<-he];exact(agZ hp).1
theorem KG{α:Type}:∀ {l:J Nat}{m:J α}(j:Nat){i:Nat}{x:α},l[j]? = iN i->m[j]? = iN x->(i,x)∈l.zip m|y::l,z::m,0,i,x,h1,h2=>by simp_all|y::l,z::m,j+1,i,x,h1,h2=>by have:=KG j (by simpa using h1) (by simpa using h2);simp[this]|[],_,_,_,_,h,_=>by simp at h|_::_,[],_,_,_,_,h=>by simp at h
variable{is:J Nat}{gg:J (cV×T1)}
theorem Rel.leave(hr:Rel E w0 G0 st a w G)(hi:pick G.i bs=iN is)(hg:pick G.g gs=iN gg)(hn1:bs.Nodup)(hn2:gs.Nodup)(o:Outs)
  (hb:AE bs.length o.boxes=hJ) (hgl:Ts gs<=o.rows.length) {H0:J (gf E)}   (hE:mm w (G.ey is gg) w' G')
  (hB:mY E w' G' (ff (o.n1 ((G.ey is gg).g.map (·.1))) o.boxes H0 (o.res.put (o.n1 ((G.ey is gg).g.map (·.1))) ls).2) (eu o.rows ((G.ey is gg).g.map (·.1))))
  (hS:lS E w' G' (oz iN o.soft (qG o.boxes (o.res.put (o.n1 ((G.ey is gg).g.map (·.1))) ls).2)))
  (hv:VT E w' G' (o.res.put (o.n1 ((G.ey is gg).g.map (·.1))) ls).1 v) (MS:∀(q b:Nat),is[q]? = iN b->q∉ES 0 o.boxes->w'.heap[b]? = w.heap[b]?) :
  ∃Gn,Rel E w0 G0 (o.after bs gs st ls) a w' Gn/\VT E w' Gn (o.val bs gs st ls) v:=by
 obtain⟨HP,hsome⟩:=KF hb;obtain⟨hil,hig⟩:=tf hi;obtain⟨arR,MP⟩:=tf hg;have hlen:=hr.boxes.len;have hgs:=hr.boxes.gs;have arT:G.g.length=Ts st.g:=hr.qZ;have atL:pick st.g gs=iN (gg.map (·.1)):=by
  have key:∀(l:J Nat)(ys:J (cV×T1)),pick G.g l=iN ys->pick st.g l=iN (ys.map (·.1)):=by
   intro l
   induction l with
   | nil=>intro ys h;cases h;rfl
   | cons i l ih=>grind[pick]
  exact key gs gg hg
 have hpg:(pick st.g gs).getD []=gg.map (·.1):=by rw[atL];rfl
 let g0:J cV:=(G.ey is gg).g.map (·.1)
 have awh:g0.length=Ts gs:=by simp[g0,bB.ey,arR]
 let nc:=eu o.rows g0
 let ng:=eu o.rows (gg.map (·.1))
 have ava:nc.length=o.rows.length:=oA _ _;have arU:ng.length=o.rows.length:=oA _ _;have avb:G'.i.length=o.boxes.length:=by rw[hB.len,pG]
 have arV:G'.g.map (·.1)=nc:=hB.gs;have aik:G'.g.length=o.rows.length:=by rw[<-ava,<-arV];simp
 have atM:∀(r b:Nat),is[r]? = iN b->G'.i[r]? = iN b:=λr b h=>hE.goes.i r b h
 let qg:J (cV×T1):=ng.zip (G'.g.map (·.2))
 have atN:qg.length=o.rows.length:=by simp[qg,arU,aik]
 have ail:qg.map (·.1)=ng:=by simp only[qg];rw[List.map_fst_zip];simp[arU,aik]
 let Gn:bB:=⟨G.i++G'.i.drop bs.length,kO (gs.zip qg) G.g++qg.drop gs.length,G'.pr⟩
 have hent:∀(j:Nat) y,qg[j]? = iN y->∃ro x' ,o.rows[j]? = iN ro/\G'.g[j]? = iN (x',y.2)/\x'=rowAt ro g0[j]?/\y.1=rowAt ro (gg.map (·.1))[j]?:=by
  intro j y hj;have hjl:j<o.rows.length:=by rw[<-atN];exact(fC.1 hj).1
  have hro:=ga hjl;have h1:=Ei o.rows (gg.map (·.1)) j _ hro;have h2:=Ei o.rows g0 j _ hro;grind
 have hold:∀(j j':Nat) x h,gs[j]? = iN j'->G.g[j']? = iN (x,h)->gg[j]? = iN (x,h)/\g0[j]? = iN {x with aG:=0}/\(gg.map (·.1))[j]? = iN x:=by intro j j' x h h1 h2;obtain⟨y,h3,h4⟩:=MP j j' h1;rw[h2]at h4;cases h4;refine⟨h3,?_,by simp[h3]⟩;simp[g0,bB.ey,h3]
 have atO:∀(j j':Nat) x h,gs[j]? = iN j'->G.g[j']? = iN (x,h)->∃y,qg[j]? = iN y/\x.aG<=y.1.aG/\(x.aG=y.1.aG->y.2=h):=by
  intro j j' x h h1 h2;have hjl:j<Ts gs:=(fC.1 h1).1;have hjn:j<qg.length:=om;obtain⟨ro,x',q1,q2,q3,q4⟩:=hent j _ (ga hjn);obtain⟨o1,o2,o3⟩:=hold j j' x h h1 h2;rw[o2]at q3;rw[o3]at q4;refine⟨_,ga hjn,?_,λe=>?_⟩
  ·rw[q4];cases ro<;>simp[rowAt]
  ·rw[q4]at e;cases ro with
   | some p=>simp[rowAt]at e|none=>
    simp only[rowAt]at q3;have hsel:((G.ey is gg).g)[j]? = iN ({x with aG:=0},h):=by simp[bB.ey,o1]
    obtain⟨x2,h3,r1,r2,r3⟩:=hE.goes.g j _ h hsel;rw[q2]at r1;cases r1;exact r3 (by rw[q3])
 have hgn:∀(q:Nat) y,Gn.g[q]? = iN y->(q∉gs/\G.g[q]? = iN y)\/∃j,qg[j]? = iN y/\((gs[j]? = iN q/\q<G.g.length)\/(Ts gs<=j/\q=G.g.length+(j-Ts gs))):=by
  intro q y hq;have hq:(kO (gs.zip qg) G.g++qg.drop gs.length)[q]? = iN y:=hq;by_cases qF:q<G.g.length
  ·rw[wQ (by rw[iq];exact qF)]at hq;by_cases hm:q∈gs
   ·obtain⟨j,hj,rfl⟩:=lH hm;grind[JG,PJ,KG,List.getElem?_eq_getElem]
   ·rw[u9 _ _ q (λhmm=>hm (by obtain⟨p,hp,he⟩:=lI.1 hmm;rw[<-he];exact(agZ hp).1))]at hq;exact .inl ⟨hm,hq⟩
  ·rw[Mc (by rw[iq];omega),iq,Rm]at hq;exact .inr ⟨Ts gs+(q-G.g.length),hq,.inr ⟨om,om⟩⟩
 have acX:∀(j q:Nat) y,gs[j]? = iN q->q<G.g.length->qg[j]? = iN y->Gn.g[q]? = iN y:=by intro j q y h1 h2 h3;show(kO (gs.zip qg) G.g++qg.drop gs.length)[q]? = iN y;rw[wQ (by rw[iq];exact h2)];exact JG (gs.zip qg) G.g q y (PJ hn2) (KG j h1 h3) h2
 have agc:∀(q:Nat) y,q∉gs->G.g[q]? = iN y->Gn.g[q]? = iN y:=by intro q y h1 h2;have qF:=(fC.1 h2).1;show(kO (gs.zip qg) G.g++qg.drop gs.length)[q]? = iN y;rw[wQ (by rw[iq];exact qF),u9 _ _ q (λhmm=>h1 (by obtain⟨p,hp,he⟩:=lI.1 hmm;rw[<-he];exact(agZ hp).1))];exact h2
 have agd:∀(j:Nat) y,Ts gs<=j->qg[j]? = iN y->Gn.g[G.g.length+(j-Ts gs)]? = iN y:=by intro j y h1 h2;show(kO (gs.zip qg) G.g++qg.drop gs.length)[G.g.length+(j-Ts gs)]? = iN y;rw[Mc (by rw[iq];omega),iq,Rm];rw[show gs.length+(G.g.length+(j-Ts gs)-G.g.length)=j by omega];exact h2
 have MT:jc w G w' Gn:=by
  refine⟨hE.goes.pr,hE.goes.cells,λr b h=>?_,λq x h hq=>?_⟩
  ·show(G.i++G'.i.drop bs.length)[r]? = iN b;rw[wQ (fC.1 h).1];exact h
  ·by_cases hm:q∈gs
   ·obtain⟨j,hj,rfl⟩:=lH hm;obtain⟨y,h1,h2,h3⟩:=atO j _ x h (ga hj) hq;exact⟨y.1,y.2,acX j _ y (ga hj) (fC.1 hq).1 h1,h2,h3⟩
   ·exact⟨x,h,agc q _ hm hq,eo _,λ_=>rfl⟩
 have ev:=hr.fF;have acY:∀b,b∈is->b∈G.i:=λb hb=>by obtain⟨q,hq,rfl⟩:=lH hb;obtain⟨b',h1,h2⟩:=hig q _ (ga om);rw[ga hq]at h1;cases h1;exact jR h2
 have DE:∀b,(G.ey is gg).rows b->∃(j j':Nat)(x:cV)(h:T1),gs[j]? = iN j'/\G.g[j']? = iN (x,h)/\h.ownBlock=iN b:=by
  rintro b ⟨x,h,hm,hbk⟩;obtain⟨j,hj,he⟩:=lH hm;have hj2:j<gg.length:=by simpa[bB.ey]using hj
  obtain⟨y,h1,h2⟩:=MP j _ (ga om);rw[ga hj2]at h1;have h1:=pO h1;have Y9:gg[j].2=h:=by have:=congrArg Prod.snd he;simpa[bB.ey]using this
  refine⟨j,_,y.1,y.2,ga om,h2,?_⟩;rw[<-h1,Y9];exact hbk
 have Lt:∀(j:Nat) x h b,G.g[j]? = iN (x,h)->h.ownBlock=iN b->b<w.heap.size/\b∉G.i:=λj x h b hj hb=>by obtain⟨n,xs,-,-,q⟩:=hr.boxes.grow j x h hj;exact⟨(q b hb).1,(q b hb).2.1⟩
 have hsame:∀(q b:Nat),G.i[q]? = iN b->q∉bs->w'.heap[b]? = w.heap[b]?:=by
  intro q b hq hnb;refine hE.old b (hr.boxes.lt b (jR hq)) (λhf=>?_);rcases hf with hf|hf
  ·obtain⟨r,hrl,he⟩:=lH hf;have arW:r<Ts bs:=by have:r<Ts is:=hrl;omega
   obtain⟨b',h1,h2⟩:=hig r _ (ga arW);have h1':is[r]? = iN b:=by rw[<-he];exact ga hrl
   rw[h1']at h1;cases h1;have e1:=fC.1 hq;have e2:=fC.1 h2;have:q=bs[r]:=(UR hr.boxes.nodup).1 (e1.2.trans e2.2.symm);exact hnb (by rw[this];exact fm arW)
  ·obtain⟨j,j',x,h,-,h2,h3⟩:=DE b hf;exact(Lt j' x h b h2 h3).2 (jR hq)
 have aim:∀(q b:Nat),Gn.i[q]? = iN b->G.i[q]? = iN b\/(G.i.length<=q/\G'.i[Ts bs+(q-G.i.length)]? = iN b/\w.heap.size<=b):=by
  intro q b hq;have hq:(G.i++G'.i.drop bs.length)[q]? = iN b:=hq;by_cases qF:q<G.i.length
  ·rw[wQ qF]at hq;exact .inl hq
  ·rw[Mc om,Rm]at hq;exact .inr ⟨om,hq,hE.r7 _ b (by show is.length<=_;omega) hq⟩
 have abu:∀b,b∈Gn.i->b∈G.i\/(b∈G'.i/\w.heap.size<=b):=λb hb=>by
  obtain⟨q,hq,he⟩:=lH hb;rcases aim q b (by rw[<-he];exact ga hq)with h|⟨-,h1,h2⟩
  ·exact .inl (jR h)
  ·exact .inr ⟨jR h1,h2⟩
 have hblk:∀(j:Nat) x h b,G'.g[j]? = iN (x,h)->h.ownBlock=iN b->w.heap.size<=b\/∃(j':Nat)(x0:cV)(h0:T1),gs[j]? = iN j'/\G.g[j']? = iN (x0,h0)/\h0.ownBlock=iN b:=by
  intro j x h b hj hbk;rcases hE.iz j x h b hj hbk with q|⟨x0,h0,q1,q2⟩
  ·exact .inl q
  ·have FY:j<gg.length:=by have:=(fC.1 q1).1;simpa[bB.ey]using this
   obtain⟨y,h1,h2⟩:=MP j _ (ga om);grind[List.getElem?_eq_getElem,Option.some.inj,bB.ey]
 have Gu:MO w' G' (o.n1 g0) Gn (o.n2 bs gs st):=by
  refine⟨⟨λ_ _ h=>h,λr r' b h1 h2=>?_,λj j' vv x h h1 h2 h3=>?_⟩,?_,?_,?_⟩
  ·obtain⟨rfl,hlt⟩:=Zz h1;by_cases hrb:r'<Ts bs
   ·refine⟨bs[r'],by simp[Outs.n2,wQ hrb,hrb],?_⟩;obtain⟨b',q1,q2⟩:=hig r' _ (ga hrb);have:=atM r' b' q1;rw[h2]at this;cases this;show(G.i++G'.i.drop bs.length)[bs[r']]? = iN b;rw[wQ (fC.1 q2).1];exact q2
   ·refine⟨Ts st.H+(r'-Ts bs),?_,?_⟩
    ·simp only[Outs.n2];rw[Mc om];rw[ag0 om];simp
    ·show(G.i++G'.i.drop bs.length)[Ts st.H+(r'-Ts bs)]? = iN b;rw[<-hlen,Mc om,Rm,show bs.length+(G.i.length+(r'-Ts bs)-G.i.length)=r' by omega];exact h2
  ·obtain⟨rfl,hlt⟩:=Zz h1;have hjn:j'<qg.length:=om;obtain⟨ro,x',q1,q2,q3,q4⟩:=hent j' _ (ga hjn);rw[h3]at q2;have q2:=pO q2;simp only[ag1]at q2;have V1:x.aG=vv:=by have h2:(nc.map (·.aG))[j']? = iN vv:=h2;rw[<-arV,Av,OU,h3]at h2;simpa using h2
   refine⟨V1,?_⟩;have sE:((eu o.rows ((pick st.g gs).getD [])).map (·.aG))[j']? = iN qg[j'].1.aG:=by rw[hpg,show eu o.rows (gg.map (·.1))=ng from rfl,<-ail];simp[hjn]
   by_cases FY:j'<Ts gs
   ·obtain⟨y,r1,r2⟩:=MP j' _ (ga FY);refine⟨gs[j'],qg[j'].1.aG,qg[j'].1,by simp[Outs.n2,wQ FY,FY],sE,?_,rfl⟩;rw[acX j' _ _ (ga FY) (fC.1 r2).1 (ga hjn),q2.2]
   ·refine⟨Ts st.g+(j'-Ts gs),qg[j'].1.aG,qg[j'].1,?_,sE,?_,rfl⟩
    ·simp only[Outs.n2];rw[Mc om,ag0 om];simp
    ·rw[<-arT,agd j' _ om (ga hjn),q2.2]
  ·simp[Outs.n1,Outs.n2];omega
  ·simp[Outs.n1,Outs.n2];omega
  ·simp[Outs.n1,Outs.n2,oA]
 have hval:VT E w' Gn (o.val bs gs st ls) v:=PT.move Gu o.res ls hv;have eS:(o.res.put (o.n2 bs gs st) ls).2=(o.res.put (o.n1 g0) ls).2:=PT.AB _ _ _ _;have avc:(o.hc bs gs st ls).length=o.boxes.length:=pG _ _ _ _;have av3:∀(r b:Nat) t y,o.boxes[r]? = iN (iN t)->G'.i[r]? = iN b->(o.hc bs gs st ls)[r]? = iN y->kI E w' Gn b y:=by
  intro r b t y h1 h2 h3;have hrl:r<o.boxes.length:=(fC.1 h1).1;have hx:r<(ff (o.n1 g0) o.boxes H0 (o.res.put (o.n1 g0) ls).2).length:=by rw[pG];exact hrl
  have hbx:=hB.box r b _ h2 (ga hx);unfold Outs.hc at h3;rw[eS]at h3;exact FB Gu o.boxes H0 [] _ r h1 (ga hx) h3 hbx
 refine⟨Gn,⟨⟨hE.os.trans ev.os,hE.tape.trans ev.tape,hE.output.trans ev.output,lG ev.size hE.size,λb hb hnf=>?_,ev.goes.trans MT,λb oo hb hp=>?_,λq b h1 h2=>?_,λq x h b hq hbk=>?_⟩,hr.size,λj d hj=>(hr.tmps j d hj).mono MT,hr.defers.mono MT,?_,λr b hb hd=>?_,hr.pins,?_⟩,hval⟩
 ·refine(hE.old b (kD hb ev.size) (λhf=>?_)).trans (ev.old b hb hnf);rcases hf with hf|hf
  ·have hbi:=acY b hf;obtain⟨q,hq,he⟩:=lH hbi;have V4:G.i[q]? = iN b:=by rw[<-he];exact ga hq
   by_cases qF:q<G0.i.length
   ·have e1:=ev.goes.i q _ (ga qF);rw[V4]at e1;exact hnf (.inl (by rw[pO e1];exact fm qF))
   ·have:=ev.r7 q b om V4;omega
  ·obtain⟨j,j',x,h,-,h2,h3⟩:=DE b hf;rcases ev.iz j' x h b h2 h3 with q|⟨x0,h0,q1,q2⟩
   ·omega
   ·exact hnf (.inr ⟨x0,h0,jR q1,q2⟩)
 ·rcases hE.pE b oo (kD hb ev.size) hp with q|q
  ·exact ev.pE b oo hb q
  ·obtain⟨j,j',x,h,-,h2,h3⟩:=DE b q;rcases ev.iz j' x h b h2 h3 with q|⟨x0,h0,q1,q2⟩
   ·omega
   ·exact .inr ⟨x0,h0,jR q1,q2⟩
 ·rcases aim q b h2 with h|⟨-,-,h⟩
  ·exact ev.r7 q b h1 h
  ·exact lG ev.size h
 ·rcases hgn q (x,h) hq with⟨-,h1⟩|⟨j,h1,h2⟩
  ·exact ev.iz q x h b h1 hbk
  ·obtain⟨ro,x',q1,q2,-,-⟩:=hent j _ h1;rcases hblk j x' h b q2 hbk with q|⟨j',x0,h0,q3,q4,q5⟩
   ·exact .inl (lG ev.size q)
   ·rcases h2 with⟨h2,-⟩|⟨h2,-⟩
    ·rw[h2]at q3;cases q3;exact ev.iz q x0 h0 b q4 q5
    ·have:=(fC.1 q3).1;omega
 ·refine⟨?_,?_,λq b y hq hy=>?_,λb hb=>?_,?_,λb oo hp=>?_,λq x h hq=>?_,λq q' x h x' h' b hq Vc wY nP=>?_⟩
  ·show(G.i++G'.i.drop bs.length).length=(kO (ri o.boxes bs (o.hc bs gs st ls)) st.H++(o.hc bs gs st ls).drop bs.length).length;simp only[nX,Kl,iq,avc,avb,hlen]
  ·show(kO (gs.zip qg) G.g++qg.drop gs.length).map (·.1)=kO (gs.zip (eu o.rows ((pick st.g gs).getD []))) st.g++(eu o.rows ((pick st.g gs).getD [])).drop gs.length;rw[hpg,pQ,List.map_drop,ail];congr 1;have key:∀(l:J Nat)(m:J (cV×T1))(g:J (cV×T1)),(kO (l.zip m) g).map (·.1)=kO (l.zip (m.map (·.1))) (g.map (·.1)):=by
    intro l
    induction l with
    | nil=>intro m g;rfl|cons i l ih=>intro m g;cases m with|nil=>rfl|cons y m=>simp only[List.zip_cons_cons,jI,kO];rw[ih,aaZ]
   rw[key,ail,hgs]
  ·have hy:(kO (ri o.boxes bs (o.hc bs gs st ls)) st.H++(o.hc bs gs st ls).drop bs.length)[q]? = iN y:=hy;rcases aim q b hq with h|⟨h1,h2,h3⟩
   ·have qF:q<Ts st.H:=by rw[<-hlen];exact(fC.1 h).1
    rw[wQ (by rw[iq];exact qF)]at hy;by_cases hm:q∈bs
    ·obtain⟨r,hrl,rfl⟩:=lH hm;obtain⟨b',q1,q2⟩:=hig r _ (ga hrl);rw[h]at q2;cases q2;cases S2:o.boxes[r]? with
     | none=>rw[List.getElem?_eq_none_iff]at S2;omega|some ob=>
      cases ob with
      | some t=>grind[JG,H8,MQ,List.getElem?_eq_getElem]|none=>
       rw[u9 _ _ _ (λhmm=>by
        obtain⟨p,hp,he⟩:=lI.1 hmm;obtain⟨i,x⟩:=p;obtain⟨r',t',e1,e2,-⟩:=B7 hp;have e2':=fC.1 e2;have:r'=r:=(UR hn1).1 (e2'.2.trans he);subst this;rw[S2]at e1;cases e1)]at hy
       refine(hr.boxes.box _ b y h hy).mono MT (MS r b q1 (λhc=>?_));rw[<-rX r]at hc;obtain⟨t,ht⟩:=R3 hc;rw[S2]at ht;cases ht
    ·rw[u9 _ _ _ (λhmm=>by
      obtain⟨p,hp,he⟩:=lI.1 hmm;obtain⟨i,x⟩:=p;obtain⟨r',t',-,e2,-⟩:=B7 hp;exact hm (by rw[<-show i=q from he];exact jR e2))]at hy
     exact(hr.boxes.box q b y h hy).mono MT (hsame q b h hm)
   ·rw[Mc (by rw[iq,<-hlen];omega),iq,Rm,<-hlen]at hy;grind
  ·rcases abu b hb with h|⟨h,-⟩
   ·exact kD (hr.boxes.lt b h) hE.size
   ·exact hB.lt b h
  ·show(G.i++G'.i.drop bs.length).Nodup;refine agJ.2 ⟨hr.boxes.nodup,(List.drop_sublist _ _).nodup hB.nodup,λx hx y hy e=>?_⟩;subst e;obtain⟨q,hq,he⟩:=lH hy;have h1:(G'.i.drop bs.length)[q]? = iN x:=by rw[<-he];exact ga hq
   rw[Rm]at h1;have:=hE.r7 _ x (by show is.length<=_;omega) h1;have:=hr.boxes.lt x hx;omega
  ·refine⟨(hB.gN b oo hp).1,λhm=>?_⟩;rcases abu b hm with h|⟨h,-⟩
   ·rcases hE.pE b oo (hr.boxes.lt b h) hp with q|q
    ·exact(hr.boxes.gN b oo q).2 h
    ·obtain⟨j,j',x,hh,-,h2,h3⟩:=DE b q;exact(Lt j' x hh b h2 h3).2 h
   ·exact(hB.gN b oo hp).2 h
  ·rcases hgn q (x,h) hq with⟨h0,h1⟩|⟨j,h1,h2⟩
   ·obtain⟨n,xs,g1,g2,g3⟩:=hr.boxes.grow q x h h1;have hun:∀b,h.ownBlock=iN b->w'.heap[b]? = w.heap[b]?:=λb hbk=>by
     refine hE.old b (g3 b hbk).1 (λhf=>?_);rcases hf with hf|hf
     ·exact(g3 b hbk).2.1 (acY b hf)
     ·obtain⟨j,j',x',h',e1,e2,e3⟩:=DE b hf;have:=hr.boxes.apart q j' x h x' h' b h1 e2 hbk e3;exact h0 (by rw[this];exact jR e1)
    refine⟨n,xs,⟨g1.1,?_⟩,g2,λb hbk=>?_⟩
    ·rcases g1.2 with q2|⟨gb,cap,cur,q2,q3,q4,q5⟩
     ·exact .inl q2
     ·exact .inr ⟨gb,cap,cur,q2,q3,by rw[hun gb (by rw[q2];rfl)];exact q4,q5⟩
    ·obtain⟨k1,k2,k3⟩:=g3 b hbk;refine⟨kD k1 hE.size,λhm=>?_,λoo ho hp=>?_⟩
     ·rcases abu b hm with h'|⟨-,h'⟩
      ·exact k2 h'
      ·omega
     ·rcases hE.pE b oo k1 hp with q'|q'
      ·exact k3 oo ho q'
      ·obtain⟨j,j',x',h',e1,e2,e3⟩:=DE b q';have:=hr.boxes.apart q j' x h x' h' b h1 e2 hbk e3;exact h0 (by rw[this];exact jR e1)
   ·obtain⟨ro,x',q1,q2,q3,q4⟩:=hent j _ h1;obtain⟨n,xs,g1,g2,g3⟩:=hB.grow j x' h q2;have hek:x.e=x'.e/\x.k=x'.k:=by
     have q4:x=rowAt ro (gg.map (·.1))[j]?:=q4;rw[q3,q4];by_cases FY:j<gg.length
     ·have e1:g0[j]? = iN {gg[j].1 with aG:=0}:=by simp[g0,bB.ey,FY]
      have e2:(gg.map (·.1))[j]? = iN gg[j].1:=by simp[FY]
      rw[e1,e2];cases ro<;>simp[rowAt]
     ·have e1:g0[j]? = iF:=Ro om;have e2:(gg.map (·.1))[j]? = iF:=Ro aR;rw[e1,e2];exact⟨rfl,rfl⟩
    refine⟨n,xs,by rw[hek.1,hek.2];exact g1,λa m h=>by rw[hek.1];exact g2 a m h,λb hbk=>?_⟩;obtain⟨k1,k2,k3⟩:=g3 b hbk;refine⟨k1,λhm=>?_,by rw[hek.2];exact k3⟩;rcases abu b hm with h'|⟨h',-⟩
    ·rcases hblk j x' h b q2 hbk with q'|⟨j',x0,h0,q5,q6,q7⟩
     ·have:=hr.boxes.lt b h';omega
     ·exact(Lt j' x0 h0 b q6 q7).2 h'
    ·exact k2 h'
  ·rcases hgn q (x,h) hq with⟨n0,h1⟩|⟨j,h1,h2⟩<;>rcases hgn q' (x',h') Vc with⟨n0',h1'⟩|⟨j',h1',h2'⟩
   ·exact hr.boxes.apart q q' x h x' h' b h1 h1' wY nP
   ·exfalso;obtain⟨ro,y,e1,e2,-,-⟩:=hent j' _ h1';rcases hblk j' y h' b e2 nP with q5|⟨j2,x0,h0,q5,q6,q7⟩
    ·have:=(Lt q x h b h1 wY).1;omega
    ·have:=hr.boxes.apart q j2 x h x0 h0 b h1 q6 wY q7;exact n0 (by rw[this];exact jR q5)
   ·exfalso;obtain⟨ro,y,e1,e2,-,-⟩:=hent j _ h1;rcases hblk j y h b e2 wY with q5|⟨j2,x0,h0,q5,q6,q7⟩
    ·have:=(Lt q' x' h' b h1' nP).1;omega
    ·have:=hr.boxes.apart q' j2 x' h' x0 h0 b h1' q6 nP q7;exact n0' (by rw[this];exact jR q5)
   ·obtain⟨ro,y,e1,e2,-,-⟩:=hent j _ h1;obtain⟨ro',y',e1',e2',-,-⟩:=hent j' _ h1';have:=hB.apart j j' y h y' h' b e2 e2' wY nP;subst this;rcases h2 with⟨h2,-⟩|⟨h2,h3⟩<;>rcases h2' with⟨h2',-⟩|⟨h2',ZE⟩
    ·rw[h2]at h2';exact pO h2'
    ·have:=(fC.1 h2).1;omega
    ·have:=(fC.1 h2').1;omega
    ·omega
 ·have hd:r∉(ri o.boxes bs (o.hc bs gs st ls)).map (·.1)++st.d:=hd;rw[ni,not_or]at hd;have hgi:=ev.goes.i r b hb;refine Eq.trans ?_ (hr.fix r b hb hd.2);by_cases hm:r∈bs
  ·obtain⟨q,qF,rfl⟩:=lH hm;obtain⟨b',q1,q2⟩:=hig q _ (ga qF);rw[hgi]at q2;cases q2;refine MS q b q1 (λhc=>hd.1 ?_);rw[<-rX q]at hc;obtain⟨t,ht⟩:=R3 hc;have hrc:q<(o.hc bs gs st ls).length:=om;exact lI.2 ⟨_,MQ q ht (ga qF) (ga hrc),rfl⟩
  ·exact hsame r b hgi hm
 ·intro i c0 hm;have hm:(i,c0)∈oz (λq=>(o.n2 bs gs st).g[q]?) o.soft (qG o.boxes (o.res.put (o.n2 bs gs st) ls).2)++Ls gs st.c:=hm;rcases ni.1 hm with hm|hm
  ·rw[eS]at hm;obtain⟨q,e1,e2⟩:=B9 hm;obtain⟨x',hd,h1,h2⟩:=hS q c0 e2;have qF:q<o.rows.length:=by rw[<-aik];exact(fC.1 h1).1
   have hqn:q<qg.length:=om;obtain⟨ro,x1,q1,q2,q3,q4⟩:=hent q _ (ga hqn);rw[h1]at q2;have q2:=pO q2;simp only[ag1]at q2;obtain⟨q2a,q2b⟩:=q2;have hek:qg[q].1.e=x'.e/\qg[q].1.k=x'.k:=by
    rw[q2a,q3,q4];by_cases FY:q<gg.length
    ·have e1:g0[q]? = iN {gg[q].1 with aG:=0}:=by simp[g0,bB.ey,FY]
     have e2:(gg.map (·.1))[q]? = iN gg[q].1:=by simp[FY]
     rw[e1,e2];cases ro<;>simp[rowAt]
    ·have e1:g0[q]? = iF:=Ro om;have e2:(gg.map (·.1))[q]? = iF:=Ro aR;rw[e1,e2];exact⟨rfl,rfl⟩
   refine⟨qg[q].1,hd,?_,h2.keep hek.1 hek.2 (λ_ _ h=>h) (λ_ _ _ _ h=>h) (λb _=>⟨rfl,λ_ h=>h⟩)⟩;by_cases FY:q<Ts gs
   ·obtain⟨y,r1,r2⟩:=MP q _ (ga FY);have:i=gs[q]:=by simp only[Outs.n2]at e1;rw[wQ FY,ga FY]at e1;exact(pO e1).symm
    rw[this,acX q _ _ (ga FY) (fC.1 r2).1 (ga hqn),q2b]
   ·have:i=Ts st.g+(q-Ts gs):=by simp only[Outs.n2]at e1;rw[Mc om,ag0 om]at e1;have:=pO e1;omega
    rw[this,<-arT,agd q _ om (ga hqn),q2b]
  ·obtain⟨hmc,hng⟩:=B8 hm;obtain⟨x,hd,h1,h2⟩:=hr.gO i c0 hmc;obtain⟨n,xs,g1,g2,g3⟩:=hr.boxes.grow i x hd h1;have hun:∀b,hd.ownBlock=iN b->¬ (G.ey is gg).Fw b:=λb hbk hf=>by
    rcases hf with hf|hf
    ·exact(g3 b hbk).2.1 (acY b hf)
    ·obtain⟨j,j',x',h',e1,e2,e3⟩:=DE b hf;have:=hr.boxes.apart i j' x hd x' h' b h1 e2 hbk e3;exact hng (by rw[this];exact jR e1)
   refine⟨x,hd,?_,h2.keep rfl rfl MT.pr MT.cells (λb hbk=>⟨hE.old b (g3 b hbk).1 (hun b hbk),λoo hp=>?_⟩)⟩
   ·exact agc i _ hng h1
   ·rcases hE.pE b oo (g3 b hbk).1 hp with q'|q'
    ·exact q'
    ·exact(hun b hbk (.inr q')).elim
def wH(c:CT)(d:TV E)(st:TS E):TV E×TS E:=match c,d with
 | .dat _,.eF j aG=>match st.g[j]?,pW st.c j with
  | some g,iN c=>cond (eI g.aG aG) (.dat (.bz c.1) c.2,{st with c:=oO j st.c}) (.eF j aG,st)
  | _,_=>(.eF j aG,st)
 | _,d=>(d,st)
def Gv:J CT->J (TV E)->TS E->J (TV E)×TS E|c::cs,d::ds,st=>((wH c d st).1::(Gv cs ds (wH c d st).2).1,(Gv cs ds (wH c d st).2).2)|_,ds,st=>(ds,st)
def Gw(p:PT)(d:TV E)(st:TS E):TV E×TS E:=match p,d with|.one c,d=>wH c d st|.dI cs,.tuple ds=>(.tuple (Gv cs ds st).1,(Gv cs ds st).2)|_,d=>(d,st)
def zM:J PT->J (TV E)->TS E->J (TV E)×TS E|p::ps,d::ds,st=>((Gw p d st).1::(zM ps ds (Gw p d st).2).1,(zM ps ds (Gw p d st).2).2)|_,ds,st=>(ds,st)
def qx(st st':TS E):Prop:=∃c',st'={st with c:=c'}
theorem qx.refl(st:TS E):qx st st:=⟨st.c,rfl⟩
variable{s1:TS E}
theorem qx.trans{s2 s3:TS E}(h1:qx s1 s2)(h2:qx s2 s3):qx s1 s3:=by obtain⟨c1,rfl⟩:=h1;obtain⟨c2,rfl⟩:=h2;exact⟨c2,rfl⟩
theorem Ui(c:CT)(d:TV E)(hr:Rel E w0 G0 st a w G):qx st (wH c d st).2/\∃G',Rel E w0 G0 (wH c d st).2 a w G'/\jc w G w G'/\∀v,VT E w G d v->VT E w G' (wH c d st).1 v:=by
 have xG:qx st st/\∃G',Rel E w0 G0 st a w G'/\jc w G w G'/\∀v,VT E w G d v->VT E w G' d v:=⟨qx.refl st,G,hr,jc.refl w G,λ_ h=>h⟩;unfold wH;split
 ·rename_i t j aG;split
  ·rename_i g c hg hc;cases hb:eI g.aG aG
   ·exact xG
   ·obtain rfl:=eY hb;obtain⟨G',hR,vw,h1⟩:=hr.arK hg hc;exact⟨⟨_,rfl⟩,G',hR,vw,h1⟩
  ·exact xG
 ·exact xG
theorem acZ:∀(cs:J CT)(ds:J (TV E)){st:TS E}{G:bB},Rel E w0 G0 st a w G->qx st (Gv cs ds st).2/\∃G',Rel E w0 G0 (Gv cs ds st).2 a w G'/\jc w G w G'/\∀vs,bO E w G ds vs->bO E w G' (Gv cs ds st).1 vs
 | [],ds,st,G,hr=>by grind[Gv,qx.refl,jc.refl]|c::cs,[],st,G,hr=>by grind[Gv,qx.refl,jc.refl]|c::cs,d::ds,st,G,hr=>by obtain⟨o1,G1,fB,g1,v1⟩:=Ui c d hr;obtain⟨o2,G2,hr2,g2,v2⟩:=acZ cs ds fB;refine⟨o1.trans o2,G2,hr2,g1.trans g2,λvs hv=>?_⟩;obtain⟨u,us,rfl,h1,h2⟩:=hv.cons_inv;exact .cons ((v1 u h1).mono g2) (v2 us (h2.mono g1))
theorem ac0(p:PT)(d:TV E)(hr:Rel E w0 G0 st a w G):qx st (Gw p d st).2/\∃G',Rel E w0 G0 (Gw p d st).2 a w G'/\jc w G w G'/\∀v,VT E w G d v->VT E w G' (Gw p d st).1 v:=by unfold Gw;grind[Ui,acZ,VT,qx.refl,jc.refl]
theorem PK:∀(ps:J PT)(ds:J (TV E)){st:TS E}{G:bB},Rel E w0 G0 st a w G->qx st (zM ps ds st).2/\∃G',Rel E w0 G0 (zM ps ds st).2 a w G'/\jc w G w G'/\∀vs,bO E w G ds vs->bO E w G' (zM ps ds st).1 vs
 | [],ds,st,G,hr=>by grind[zM,qx.refl,jc.refl]|c::cs,[],st,G,hr=>by grind[zM,qx.refl,jc.refl]|c::cs,d::ds,st,G,hr=>by obtain⟨o1,G1,fB,g1,v1⟩:=ac0 c d hr;obtain⟨o2,G2,hr2,g2,v2⟩:=PK cs ds fB;refine⟨o1.trans o2,G2,hr2,g1.trans g2,λvs hv=>?_⟩;obtain⟨u,us,rfl,h1,h2⟩:=hv.cons_inv;exact .cons ((v1 u h1).mono g2) (v2 us (h2.mono g1))
theorem Rel.akt(h:Rel E w0 G0 st a w G){i:Nat}(hi:st.t[i]? = iN (.val (.slice iF 0 0)))(e:aL)(T:Ty)(hT:0<T.size E):
  ∃G',Rel E w0 G0 {st with t:=st.t.set i (.eF st.g.length 0),g:=st.g++[⟨0,e,T.size E⟩],c:=(Ts st.g,⟨T,[]⟩)::st.c} a w G':=by
 have hN:=h.Lq e (T.size E);have hl:=h.qZ;have lC:(G.g++[(⟨0,e,T.size E⟩,Value.slice iF 0 0)])[Ts st.g]? = iN (⟨0,e,T.size E⟩,.slice iF 0 0):=by rw[<-hl];simp
 have hC:=hN.Yb (c:=⟨T,[]⟩) ⟨_,_,lC,rfl,hT,⟨[],⟨si,.inl ⟨rfl,rfl⟩⟩,Flat.nil⟩,λb hb=>by cases hb⟩;refine⟨_,hC.fF,by simpa using hC.size,λj d hj=>?_,hC.defers,hC.boxes,hC.fix,hC.pins,hC.gO⟩;simp[Re]at hj;by_cases hij:i=j
 ·subst hij;have hlt:=(fC.1 hi).1;simp[hlt]at hj;subst hj;have hv:=h.tmps i _ hi;rw[hv];exact⟨_,_,lC,eo _,rfl,λ_=>rfl⟩
 ·rw[if_neg hij]at hj;exact hN.tmps j d hj
theorem Rel.ain(h:Rel E w0 G0 st a w G){r c:Nat}{t:aL}{cs:J (TV E)}(hr:st.H[r]? = iN (.cells t cs))(hc:cs[c]? = iN (.val (.slice iF 0 0)))(e:aL)(T:Ty)(hT:0<T.size E):
  ∃G',Rel E w0 G0 {st with H:=st.H.set r (.cells t (cs.set c (.eF st.g.length 0))),g:=st.g++[⟨0,e,T.size E⟩],d:=r::st.d,c:=(Ts st.g,⟨T,[]⟩)::st.c} a w G':=by
 have hN:=h.Lq e (T.size E);have hl:=h.qZ;have lC:(G.g++[(⟨0,e,T.size E⟩,Value.slice iF 0 0)])[Ts st.g]? = iN (⟨0,e,T.size E⟩,.slice iF 0 0):=by rw[<-hl];simp
 have hC:=hN.Yb (c:=⟨T,[]⟩) ⟨_,_,lC,rfl,hT,⟨[],⟨si,.inl ⟨rfl,rfl⟩⟩,Flat.nil⟩,λb hb=>by cases hb⟩;have hlr:r<G.i.length:=by rw[h.boxes.len];grind
 have hat:=ga hlr;have hS:=hC.zI hat rfl rfl rfl rfl (λ_ _=>rfl) (x:=.cells t (cs.set c (.eF st.g.length 0))) (λ_=>?_)
 ·exact⟨_,hS⟩
 ·obtain⟨vs,h1,h2,h3⟩:=hC.boxes.box r _ _ hat hr;refine⟨vs,h1,h2,?_⟩;obtain⟨u,hu,hv⟩:=h3.get c hc;subst hv;have key:∀(G1:bB)(cs:J (TV E))(vs:J T1)(c:Nat)(d:TV E),bO E w G1 cs vs->vs[c]? = iN (.slice iF 0 0) ->
    VT E w G1 d (.slice iF 0 0)->bO E w G1 (cs.set c d) vs:=by
   intro G1 cs
   induction cs with
   | nil=>simp_all|cons x cs ih=>intro vs c d h1 h2 h3;obtain⟨u,us,rfl,q1,q2⟩:=h1.cons_inv;cases c with|zero=>simp at h2;subst h2;exact .cons h3 q2|succ c=>exact .cons q1 (ih us c d q2 (by simpa using h2) h3)
  refine key _ cs vs.toList c _ h3 hu ?_;simp[VT];grind
structure Fr(W:List Nat)(nd:Bool)(st st':TS E):Prop where
 len:st'.t.length=st.t.length
 keep:∀i,i∉W->st'.t[i]? = st.t[i]?
 d:∃D,st'.d=D++st.d/\∀r,r<Ts st.H->r∉D->st'.H[r]? = st.H[r]?
 hl:Ts st.H<=st'.H.length
 df:nd=hJ->st'.df=st.df
theorem Fr.refl(W:J Nat)(nd:Bool)(st:TS E):Fr W nd st st:=⟨rfl,λ_ _=>rfl,⟨[],rfl,λ_ _ _=>rfl⟩,eo _,λ_=>rfl⟩
variable{W:J Nat}
theorem Fr.trans{W1 W2:J Nat}{n1 n2 n:Bool}{s2 s3:TS E}(h1:Fr W1 n1 s1 s2)(h2:Fr W2 n2 s2 s3)(hw1:∀i,i∈W1->i∈W)(xu:∀i,i∈W2->i∈W)(hn:n=hJ->n1=hJ/\n2=hJ):Fr W n s1 s3:=by obtain⟨D1,d1,e1⟩:=h1.d;obtain⟨D2,d2,e2⟩:=h2.d;refine⟨h2.len.trans h1.len,λi hi=>(h2.keep i (λh=>hi (xu i h))).trans (h1.keep i (λh=>hi (hw1 i h))),⟨D2++D1,by simp_all,λr hr hd=>?_⟩,lG h1.hl h2.hl,λh=>(h2.df (hn h).2).trans (h1.df (hn h).1)⟩;grind
def Fr.wide{W':J Nat}{n n':Bool}{s s':TS E}(h:Fr W n s s')(hw:∀i,i∈W->i∈W')(hn:n'=hJ->n=hJ):Fr W' n' s s':=⟨h.len,λi hi=>h.keep i (λhm=>hi (hw i hm)),h.d,h.hl,λh'=>h.df (hn h')⟩
def jd:O Nat->J Nat|some i=>[i]|none=>[]
theorem MU(l:J (TV E))(dst:O Nat)(d:TV E):(cG l dst d).length=Ts l:=by cases dst<;>simp[cG]
theorem JH(l:J (TV E))(dst:O Nat)(d:TV E)(i:Nat)(h:i∉jd dst):(cG l dst d)[i]? = l[i]?:=by cases dst with|none=>rfl|some j=>grind[jd,List.mem_singleton,cG,List.getElem?_set_ne]
theorem Fr.put(st:TS E)(dst:O Nat)(d:TV E):Fr (jd dst) hJ st {st with t:=cG st.t dst d}:=⟨MU _ _ _,λi hi=>JH _ _ _ _ hi,⟨[],rfl,λ_ _ _=>rfl⟩,eo _,λ_=>rfl⟩
def Fr.amP(st:TS E)(dst:O Nat)(d:TV E)(H:J (gf E))(g:J cV)(D:J Nat)(c:J (Nat×Cn E))(hH:∀r,r<Ts st.H->r∉D->H[r]? = st.H[r]?)(hl:Ts st.H<=H.length):
  Fr (jd dst) hJ st {st with t:=cG st.t dst d,H:=H,g:=g,d:=D++st.d,c:=c}:=
 ⟨MU _ _ _,λi hi=>JH _ _ _ _ hi,⟨D,rfl,hH⟩,hl,λ_=>rfl⟩
def Fr.mem(st:TS E)(dst:O Nat)(d:TV E)(H:J (gf E))(g:J cV)(D:J Nat)(hH:∀r,r<Ts st.H->r∉D->H[r]? = st.H[r]?)(hl:Ts st.H<=H.length):
  Fr (jd dst) hJ st {st with t:=cG st.t dst d,H:=H,g:=g,d:=D++st.d}:=
 ⟨MU _ _ _,λi hi=>JH _ _ _ _ hi,⟨D,rfl,hH⟩,hl,λ_=>rfl⟩
theorem MV(l m:J α):∀r,r<Ts l->r∉([]:J Nat)->(l++m)[r]? = l[r]?:=λr hr _=>by grind
theorem DF(l:J α)(q:Nat)(x:α):∀r,r<Ts l->r∉[q]->(l.set q x)[r]? = l[r]?:=λr _ hd=>by grind
variable{ty:aL->O Ty}{st':TS E}{dst:O Nat}{op:Op}
theorem amQ{c:Bool}(h:VX P ty st dst op=iN (c,st')):Fr (jd dst) hJ st st':=by
 cases op<;>simp[VX]at h<;>try trivial
 case alloc t=>split at h<;>cases h;exact Fr.mem st dst _ _ st.g [] (MV _ _) si
 case box t x=>split at h<;>cases h;exact Fr.mem st dst _ _ st.g [] (MV _ _) si
 case store t x y=>
  split at h<;>try trivial
  split at h<;>cases h;exact Fr.mem st dst _ _ st.g [_] (DF _ _ _) si
 case buildSlice t len parts=>
  split at h<;>try trivial
  split at h<;>try trivial
  split at h<;>try trivial
  cases hl:eI len 0<;>rw[hl]at h<;>simp only[aU,aJ]at h
  ·cases h;exact Fr.mem st dst _ st.H _ [] (λ_ _ _=>rfl) (eo _)
  ·generalize E.zc _=z at h;cases z<;>simp only[aU,aJ]at h<;>cases h
   ·exact Fr.mem st dst _ st.H st.g [] (λ_ _ _=>rfl) (eo _)
   ·exact Fr.mem st dst _ st.H _ [] (λ_ _ _=>rfl) (eo _)
 case call c'=>
  unfold ah3 at h;split at h<;>try trivial
  ·split at h<;>try trivial
   split at h<;>try trivial
   split at h<;>try trivial
   split at h<;>try trivial
   ·split at h<;>try trivial
    split at h<;>cases h;exact Fr.mem st dst _ st.H _ [] (λ_ _ _=>rfl) (eo _)
   ·cases h;exact Fr.mem st dst _ st.H _ [] (λ_ _ _=>rfl) (eo _)
  ·split at h<;>try trivial
   split at h<;>cases h;exact Fr.mem st dst _ st.H _ [] (λ_ _ _=>rfl) (eo _)
 case convert src dt x=>grind[Fr.put]
 case makeMap t res=>
  cases res with
  | some x=>simp at h|none=>
   simp only at h;split at h<;>try trivial
   split at h<;>cases h;exact Fr.mem st dst _ _ st.g [] (MV _ _) si
 case mapUpdate t x y z=>
  split at h<;>try trivial
  split at h<;>try trivial
  split at h<;>cases h;exact Fr.mem st dst _ _ st.g [_] (DF _ _ _) si
 grind[Fr.put]
theorem Fr.c(st:TS E)(dst:O Nat)(d:TV E)(g:J cV)(c:J (Nat×Cn E)):Fr (jd dst) hJ st {st with t:=cG st.t dst d,g:=g,c:=c}:=Fr.amP st dst d st.H g [] c (λ_ _ _=>rfl) (eo _)
theorem apI{c:Bool}(h:DB P ty st dst op=iN (c,st')):Fr (jd dst) hJ st st':=by
 cases op<;>try trivial
 case load t x=>grind[DB,Fr.put]
 case store t x y=>
  simp[DB]at h;split at h<;>try trivial
  grind[Fr.c]
 case makeSlice t x y=>grind[DB,Fr.c]
 case slice t x lo hi mx=>
  cases lo with
  | some _=>cases h
  | none=>
  cases hi with
  | none=>cases h
  | some hi=>
  cases mx with
  | some _=>cases h
  | none=>
  grind[DB,Fr.c]
 case call cl=>
  simp[DB]at h;unfold ah8 at h;split at h<;>try trivial
  ·split at h<;>try trivial
   grind[Fr.c]
theorem apJ{c:Bool}(h:acN P ty st dst op=iN (c,st')):Fr (jd dst) hJ st st':=by
 cases op<;>simp[acN]at h<;>try trivial
 case alloc t=>grind[Fr.c]
 case box t x=>grind[Fr.c]
 case load t x=>grind[Fr.put]
theorem apK{c:Bool}(h:acL P ty st dst op=iN (c,st')):Fr (jd dst) hJ st st':=by
 cases op<;>simp[acL]at h<;>try trivial
 cases hb:ah5 ty dst<;>rw[hb]at h<;>simp only[aU,aJ]at h
 ·cases h
 split at h<;>try trivial
 split at h<;>try trivial
 split at h<;>try trivial
 cases h;exact Fr.amP st dst _ st.H _ [] _ (λ_ _ _=>rfl) (eo _)
theorem apL{c:Bool}(h:acO P ty st dst op=iN (c,st')):Fr (jd dst) hJ st st':=by
 unfold acO at h;split at h
 ·grind[apK]
 split at h
 rotate_left
 ·cases op<;>simp[aih]at h<;>try trivial
  split at h<;>try trivial
  split at h<;>cases h;exact Fr.mem st dst _ _ st.g [_] (DF _ _ _) si
 grind[aic,apJ,abo,amQ,apI]
theorem Fr.ofC{n:Bool}{s s':TS E}(hc:qx s s1)(h:Fr W n s1 s'):Fr W n s s':=by obtain⟨c,rfl⟩:=hc;exact⟨h.len,h.keep,h.d,h.hl,h.df⟩
structure Sl where
 b:List (Option Nat)
 g:List (Option Nat)
def Sl.Yd(s:Sl)(r r':Nat):Sl:={s with b:=s.b.set r (iN r')}
def Sl.amR(s:Sl)(r r':Nat):Sl:={s with g:=s.g.set r (iN r')}
def ac1(s:Sl):J (Nat×Nat)->J (TV E)->Sl|(r,_)::cs,.ptr r' _::ds=>ac1 (s.Yd r r') cs ds|_::cs,_::ds=>ac1 s cs ds|_,_=>s
def CT.un(s:Sl):CT->TV E->Sl|.ptr r _,.ptr r' _=>s.Yd r r'|.qY r _,.ptr r' _=>s.Yd r r'|.qY r _,.qY _ r' _=>s.Yd r r'|.jS r,.jS r'=>s.Yd r r'|.vz r,.vz r'=>s.Yd r r'|.cH j _,.cH j' _ _ _=>s.amR j j'|.eF j,.eF j' _=>s.amR j j'|.iZ j _,.iZ j' _ _ _ _=>s.amR j j'|.func _ caps,.func _ cs=>ac1 s caps cs|_,_=>s
def CT.unL(s:Sl):J CT->J (TV E)->Sl
 | c::cs,ds=>match c.pk? with
  | some t=>CT.unL s cs (ds.drop (t.size E))|none=>match ds with
   | d::ds=>CT.unL (c.un s d) cs ds|[]=>s
 | _,_=>s
def PT.un(s:Sl):PT->TV E->Sl|.one c,d=>c.un s d|.agg cs,.agg ds=>CT.unL s cs ds|.dI cs,.tuple ds=>CT.unL s cs ds|_,_=>s
def aoI(s:Sl):J PT->J (TV E)->Sl|p::ps,d::ds=>aoI (p.un s d) ps ds|_,_=>s
def aoJ(H:J (gf E)):Nat->J BT->Sl->Sl
 | _,[],s=>s|r,t::ts,s=>aoJ H (r+1) ts (match t,(s.b[r]?.getD iF).bind (H[·]?)with
  | .cells _ cs,iN (.cells _ ds)=>CT.unL s cs ds|.loop _ cs,iN (.loop _ ds)=>CT.unL s cs ds|_,_=>s)
def sB:J (O Nat)->J Nat|[]=>[]|some x::xs=>x::sB xs|none::xs=>sB xs
def dm.ey(s:dm)(st:TS E)(ds:J (TV E)):Sl:=aoJ st.H 0 s.boxes (aoI ⟨s.boxes.map λ_=>iF,s.rows.map λ_=>iF⟩ s.args ds)
def sm{α β γ:Type}(f:α->γ)(g:β->γ):α ⊕ β->γ|.inl x=>f x|.inr y=>g y
def okK{R:Type}(o:Outs)(bs gs:J Nat)(st:TS E)(dst:O Nat)(k:Ex E->TS E->O R)(y:dens E o.tys):O R:=k .normal {o.after bs gs st (aV o.tys y)with t:=cG st.t dst (o.val bs gs st (aV o.tys y))}
def avd{R:Type}(o:Outs)(bs gs:J Nat)(st:TS E)(k:Ex E->TS E->O R)(y:dens E o.tys):O R:=k (.panic (o.val bs gs st (aV o.tys y))) (o.after bs gs st (aV o.tys y))
def ac2{R:Type}(s:dm)(bs gs:J Nat)(st:TS E)(dst:O Nat)(k:Ex E->TS E->O R):(p:O Outs)->OutP E s.out p->O R|none=>okK s.out bs gs st dst k|some q=>sm (okK s.out bs gs st dst k) (avd q bs gs st k)
def Outs.wf(o:Outs)(nb ng:Nat):Bool:=AE nb o.boxes&&iO ng o.rows.length
def dm.wf(s:dm)(nb ng:Nat):Bool:=s.out.wf nb ng&&(match s.nj with|none=>hJ|some q=>q.wf nb ng)
def sP{R:Type}(st:TS E)(dst:Option Nat)(f:H5)(ds:J (TV E))(k:Ex E->TS E->Option R):J (bQ E)->Option R
 | []=>iF|C::Γ=>cond (eI C.s.f f)
   (match zM C.s.args ds st with
    | (ds',st')=>match C.s.enter (sB (C.s.ey st' ds').b) (sB (C.s.ey st' ds').g) st' ds' with
     | some ls=>match getAll C.s.tys ls with
      | some x=>rq (C.s.wf (sB (C.s.ey st' ds').b).length (sB (C.s.ey st' ds').g).length) ((C.m x).bind (ac2 C.s (sB (C.s.ey st' ds').b) (sB (C.s.ey st' ds').g) st' dst k C.s.nj))|none=>sP st dst f ds k Γ
     | none=>sP st dst f ds k Γ)
   (sP st dst f ds k Γ)
def DG(P:bx)(o:H3)(W:J Nat)(nd:Bool)(st:TS E)(Q:Ex E->TS E->Prop):Prop:=∀w0 G0 a w G,Rel E w0 G0 st a w G->o.wp P a w (λa' w'=>∃st' G',Rel E w0 G0 st' a' w' G'/\Q .normal st'/\Fr W nd st st') (cQ E w0 G0 λx st'=>x≠.normal/\Q x st'/\Fr W nd st st')
variable{o:H3}{Q:Ex E -> TS E -> Prop}{f:H5}{R:Type}
theorem DG.Hr{nd:Bool}(h:∀w0 G0 a w G,Rel E w0 G0 st a w G->kE P w0 G0 a w o st')(hQ:Q .normal st')(hF:Fr W nd st st'):DG P o W nd st Q:=by
 intro w0 G0 a w G hr;obtain⟨nx,v,w',G',hrun,hnx,hr'⟩:=h w0 G0 a w G hr;unfold Oper.wp;rw[hrun];rcases hnx with rfl|⟨rfl,rfl⟩
 ·exact⟨st',G',hr',hQ,hF⟩
 ·exact⟨st',G',hr',hQ,hF⟩
theorem aio{next:Act->U->Prop}{QQ:Exit->Act->U->Prop}{args:aK T1}{R:Ending->U->Prop}(hrun:(R0 a.eval o).run P w=(H4 f args).run P w)(h:kX P f args w R)
  (h1:∀v w',R (.returned v) w'->next (a.put o.dst v) w') (h2:∀ch w',R (.panicked ch) w'->QQ (.panic ch) a w') (h3:∀w',¬ R .outgrown w'):o.wp P a w next QQ:=by
 unfold Oper.wp;rw[hrun];unfold kX at h;split at h
 ·rename_i f' args' w' hr;rw[hr];refine HC h λe w'' he=>?_;grind
 ·rename_i v w' hr;rw[hr];exact h1 v w' h
 ·exact h.elim
theorem PM{w0 w:U}{G0 G:bB}{a:Act}(hr:Rel E w0 G0 st a w G):∀l:J dH,bO E w G (l.map st.ev) (l.map a.eval)|[]=>.nil|x::l=>.cons (hr.ev x) (PM hr l)
theorem Outs.Uj(ot:Outs)(bs gs:J Nat)(st:TS E)(ls:J (Lf E))(dst:O Nat)(d:TV E):Fr (jd dst) hJ st {ot.after bs gs st ls with t:=cG st.t dst d}:=
 Fr.amP st dst d _ _ _ _ (λr hr hd=>by
  show(kO (ri ot.boxes bs (ot.hc bs gs st ls)) st.H++(ot.hc bs gs st ls).drop bs.length)[r]? = _;grind[List.getElem?_append_left,iq,u9]) (by
  show _<=(kO (ri ot.boxes bs (ot.hc bs gs st ls)) st.H++(ot.hc bs gs st ls).drop bs.length).length;simp[iq])
theorem qR.fF(h:qR E w0 G0)(hE:mm w0 G0 w G):qR E w G:=by
 intro b ob hb;obtain⟨⟨cs,t,m,h1,hp⟩,h2⟩:=h b ob hb;have hlt:=(Bp.1 h1).1;refine⟨⟨cs,t,m,(hE.old b hlt h2).trans h1,hp⟩,λhf=>h2 ?_⟩;rcases hf with hf|⟨x,hd,hm,hbk⟩
 ·obtain⟨q,hq,he⟩:=lH hf;have V4:G.i[q]? = iN b:=by simp_all
  by_cases qF:q<G0.i.length
  ·have e1:=hE.goes.i q _ (ga qF);exact .inl (by simp_all)
  ·have:=hE.r7 q b om V4;omega
 ·obtain⟨j,hj,he⟩:=lH hm;rcases hE.iz j x hd b (by simp_all) hbk with q|⟨x0,h0,q1,q2⟩
  ·omega
  ·exact .inr ⟨x0,h0,jR q1,q2⟩
def Rel.V5(h:Rel E w0 G0 st a w G):qR E w G:=h.pins.fF h.fF
theorem ac3{r:J α}(h:pick l is=iN r){x:α}(hx:x∈r):x∈l:=by obtain⟨j,hj,he⟩:=lH hx;obtain⟨hl,hg⟩:=tf h;have hj':j<Ts is:=om;obtain⟨y,h1,h2⟩:=hg j is[j] (ga hj');grind
theorem qR.ey(h:qR E w G)(hi:pick G.i bs=iN is)(hg:pick G.g gs=iN gg):qR E w (G.ey is gg):=λb ob hb=>by
 obtain⟨h1,h2⟩:=h b ob hb;refine⟨h1,λhf=>h2 ?_⟩;rcases hf with hf|⟨x,hd,hm,hbk⟩
 ·exact .inl (ac3 hi hf)
 ·obtain⟨y,hy,e⟩:=lI.1 hm;cases e;exact .inr ⟨y.1,y.2,ac3 hg hy,hbk⟩
theorem PN(hE:E.Ok){R:Type}{f:H5}{ds:J (TV E)}
  (V6:∀w0 G0 a w G,Rel E w0 G0 st a w G->∃vs:Array T1,bO E w G ds vs.toList/\(R0 a.eval o).run P w=(H4 f vs).run P w) {k:Ex E->TS E->Option R} {r:R} :
  ∀ {Γ:J (bQ E)},(∀C∈Γ,C.Ok P)->sP st o.dst f ds k Γ=iN r->DG P o (jd o.dst) hJ st (λx st'=>k x st'=iN r)
 | [],_,h=>by cases h
 | C::Γ,hΓ,h=>by
  have eS:sP st o.dst f ds k Γ=iN r->DG P o (jd o.dst) hJ st (λx st'=>k x st'=iN r):=PN hE V6 (λC' hC=>hΓ C' (by simp[hC]));simp[sP]at h;cases hf:eI C.s.f f<;>rw[hf]at h<;>simp at h
  ·exact eS h
  have hf:=eY hf;obtain⟨SN,kg,hhs⟩:∃SN kg,zM C.s.args ds st=(SN,kg):=⟨_,_,rfl⟩;rw[hhs]at h;split at h
  ·rename_i ls hls;split at h
   ·rename_i xx hxx;generalize CZ:sB (C.s.ey kg SN).b=bs at *;generalize hgs:sB (C.s.ey kg SN).g=gs at *;obtain⟨hwf,h⟩:=dX h;cases hm:C.m xx with
    | none=>rw[hm]at h;cases h
    | some y=>
     intro w0 G0 a w G0' hr;obtain⟨vs0,PO,V7⟩:=V6 w0 G0 a w G0' hr;obtain⟨R4,G,fB,vw,hvs⟩:=PK C.s.args ds hr;have hargs:=hvs _ PO;rw[hhs]at fB hargs R4;have hr:=fB;have hnd:bs.Nodup/\gs.Nodup/\bs.length=C.s.boxes.length/\C.s.rows.length=Ts gs:=by
      unfold dm.enter at hls;split at hls<;>try trivial
      rename_i H g hH hg;cases qf:(xE bs&&(xE gs&&(eI bs.length C.s.boxes.length&&AD C.s.rows g)))<;>rw[qf]at hls<;>simp only[aU]at hls
      ·cases hls
      simp only[cK]at qf;exact⟨xF qf.1,xF qf.2.1,eY qf.2.2.1,by rw[(Eh qf.2.2.2).1,(tf hg).1]⟩
     obtain⟨is,gg,hi,B2,hB,hS,hV⟩:=hr.enter hE hls hargs;have hput:=EO _ hxx;have hok:=hΓ C si xx y hm w (G.ey is gg) vs0 (hr.V5.ey hi B2) (by rw[hput];exact hB) (by rw[hput];exact hS) (by rw[hput];exact hV);have hrun:=V7;have hg0:=hB.gs;have hwf':∀(q:Outs),q.wf bs.length gs.length=hJ->AE bs.length q.boxes=hJ/\gs.length<=q.rows.length:=λq hq=>by simp_all[Outs.wf,cK,lY]
     unfold dm.wf at hwf;rw[cK]at hwf;have PR:∀(y:dens E C.s.out.tys)(v:T1)(w':World),okK C.s.out bs gs kg o.dst k y=iN r ->
       (∃v1 G',Ending.returned v=Eg (C.s.out.oa hJ (C.s.H (aV C.s.tys xx)) C.s.g0 (aV C.s.out.tys y)).ok v1/\mm w (G.ey is gg) w' G'/\mY E w' G' (C.s.out.oa hJ (C.s.H (aV C.s.tys xx)) C.s.g0 (aV C.s.out.tys y)).H (C.s.out.oa hJ (C.s.H (aV C.s.tys xx)) C.s.g0 (aV C.s.out.tys y)).g/\lS E w' G' (C.s.out.oa hJ (C.s.H (aV C.s.tys xx)) C.s.g0 (aV C.s.out.tys y)).c /\
        VT E w' G' (C.s.out.oa hJ (C.s.H (aV C.s.tys xx)) C.s.g0 (aV C.s.out.tys y)).d v1/\∀(q b:Nat),(G.ey is gg).i[q]? = iN b->q∉(C.s.out.oa hJ (C.s.H (aV C.s.tys xx)) C.s.g0 (aV C.s.out.tys y)).D->w'.heap[b]? = w.heap[b]?) ->
       ∃st' G',Rel E w0 G0 st' (a.put o.dst v) w' G'/\k .normal st'=iN r/\Fr (jd o.dst) hJ st st':=by
      rintro y v w' hk ⟨v1,G',he,hE,Lu,V8,V9,MS⟩;simp[Outs.oa,Eg]at he;subst he;obtain⟨hs1,hs2⟩:=hwf' _ hwf.1;rw[<-hg0]at Lu V8 V9;obtain⟨Gn,hR,hval⟩:=hr.leave hi B2 hnd.1 hnd.2.1 C.s.out hs1 hs2 hE Lu V8 V9 MS;exact⟨_,Gn,hR.put hval o.dst,hk,(C.s.out.Uj bs gs kg _ o.dst _).ofC R4⟩
     have fin:∀(p:Option Outs)(hp:C.s.nj=p)(y:OutP E C.s.out p),ac2 C.s bs gs kg o.dst k p y=iN r->kX P f vs0 w (λe w'=>
       ∃v G',e=Eg (kY C.s (C.s.H (aV C.s.tys xx)) p y).ok v/\mm w (G.ey is gg) w' G'/\mY E w' G' (kY C.s (C.s.H (aV C.s.tys xx)) p y).H (kY C.s (C.s.H (aV C.s.tys xx)) p y).g/\lS E w' G' (kY C.s (C.s.H (aV C.s.tys xx)) p y).c /\
        VT E w' G' (kY C.s (C.s.H (aV C.s.tys xx)) p y).d v/\∀(q b:Nat),(G.ey is gg).i[q]? = iN b->q∉(kY C.s (C.s.H (aV C.s.tys xx)) p y).D->w'.heap[b]? = w.heap[b]?) ->
       o.wp P a w (λa' w'=>∃st' G',Rel E w0 G0 st' a' w' G'/\k .normal st'=iN r/\Fr (jd o.dst) hJ st st') (cQ E w0 G0 λx st'=>x≠.normal/\k x st'=iN r/\Fr (jd o.dst) hJ st st'):=by
      intro p hp y hk hI;refine aio hrun hI (λv w' hR=>?_) (λch w' hR=>?_) (λw' hR=>?_)
      ·cases p with
       | none=>exact PR y v w' hk hR|some q=>
        cases y with
        | inl y=>exact PR y v w' hk hR|inr y=>obtain⟨v1,G',he,-⟩:=hR;cases he
      ·cases p with
       | none=>obtain⟨v1,G',he,-⟩:=hR;cases he
       | some q=>
        cases y with
        | inl y=>obtain⟨v1,G',he,-⟩:=hR;cases he
        | inr y=>
         obtain⟨v1,G',he,hE,Lu,V8,V9,MS⟩:=hR;simp[kY,Outs.oa,Eg]at he;subst he;have hq:q.wf bs.length gs.length=hJ:=by grind
         obtain⟨hs1,hs2⟩:=hwf' _ hq;simp[kY]at Lu V8 V9 MS;rw[<-hg0]at Lu V8 V9;obtain⟨Gn,hR,hval⟩:=hr.leave hi B2 hnd.1 hnd.2.1 q hs1 hs2 hE Lu V8 V9 MS;exact⟨.panic (q.val bs gs kg (aV q.tys y)),_,Gn,⟨v1,rfl,hval⟩,hR,(λh=>nomatch h),hk,((q.Uj bs gs kg _ iF .any).wide (λi hi=>by cases hi) (λh=>h)).ofC R4⟩
      grind[Eg,kY,aV]
     grind
   ·exact eS h
  ·exact eS h
theorem afi(hE:E.Ok){c:Call}{x:dH}{f:H5}{caps:J (TV E)}(ho:o.op=.call c)(hc:c.callee=.value x)(hx:st.ev x=.func (.func f) caps){k:Ex E->TS E->O R}{r:R}
  {Γ:J (bQ E)} (hΓ:∀C∈Γ,C.Ok P) (h:sP st o.dst f (c.args.toList.map st.ev++caps) k Γ=iN r):DG P o (jd o.dst) hJ st (λx st'=>k x st'=iN r):=by
 refine PN hE (λw0 G0 a w G hr=>?_) hΓ h;have hv:=hr.ev x;rw[hx]at hv;obtain⟨cv,HZ,R5⟩:=hv;refine⟨c.args.map a.eval++cv,?_,?_⟩
 ·have:=(PM hr c.args.toList).append R5;simpa using this
 ·simp only[R0,ho,resolve,hc,HZ,Deferred.ofValue,invoke];simp
theorem afj(hE:E.Ok){c:Call}{x:dH}{f:H5}{fs:J (TV E)}(ho:o.op=.call c)(hc:c.callee=.value x)(hx:st.ev x=.HV (.func f) fs){k:Ex E->TS E->O R}{r:R}
  {Γ:J (bQ E)} (hΓ:∀C∈Γ,C.Ok P) (h:sP st o.dst f (fs++c.args.toList.map st.ev) k Γ=iN r):DG P o (jd o.dst) hJ st (λx st'=>k x st'=iN r):=by
 refine PN hE (λw0 G0 a w G hr=>?_) hΓ h;have hv:=hr.ev x;rw[hx]at hv;obtain⟨cv,HZ,R5⟩:=hv;refine⟨cv++c.args.map a.eval,?_,?_⟩
 ·have:=R5.append (PM hr c.args.toList);simpa using this
 ·simp only[R0,ho,resolve,hc,HZ,Deferred.ofValue,invoke];simp
