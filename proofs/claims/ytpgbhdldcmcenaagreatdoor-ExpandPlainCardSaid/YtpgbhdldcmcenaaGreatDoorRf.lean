import Derived.Test.YtpgbhdldcmcenaaGreatDoorRd
set_option linter.all false
namespace Go.RT
variable {E : TEnv}
variable{P:bh}{w0 w w':U}{G0 G G':bq}{st:TS E}{a:Act}{o:Oper}{t:aI}{x:dy}{i:TI}{j k off:Nat}{g:cH}{c:Cn E}{d:TV E}{T:Ty}{cs:J (TV E)}{y:dy}{z:Value}{e:aI}{j1 j2:Nat}{ie:TI}{xs:J (T.den E.D)}{ty:aI->O Ty}{st':TS E}{v:Value}{ys:J (c.1.den E.D)}{cc:Bool}
theorem Ie(hE:E.Ok)(hr:Rel E w0 G0 st a w G)(ho:o.op=.load t x)(ht:aU P t=some i){ix:Nat}(hd:st.ev x=.ir j g.aF k ix off)
  (hg:st.g[j]? = some g) (hc:oM st.c j=some c) (hk:k=c.1.size E)  (hp:TV.part c.1 (c.2.getD ix (c.1.dflt E)) i.isAgg i.size off=some d):jw P a w G o d:=by
 have hv:=hr.ev x;rw [hd] at hv;obtain⟨b,m,cap,hj,hlt,lJ⟩:=hr.ir hg hv;obtain⟨h,hj',hs,-⟩:=hr.soft hg hc;rw [hj] at hj';cases hj';rcases hs.block with⟨h1,-⟩|⟨b',cap',cur,h1,hheap,hcap,hcm,hcs,hf,hnp⟩
 ·cases h1
 obtain⟨rfl,rfl,rfl⟩:=h1;obtain⟨vs,h2,h3,-,h4⟩:=WZ hs.1 hheap hf (by simp_all [zy]) hlt;obtain⟨v,hv,hrun⟩:=sM ht h4 (K5 hE h2 hp);refine fV (f:=fun ρ=>Instr.loadAt t (ρ x)) (by simp [execOp,ho]) ⟨v,hv,fun w' hs'=>?_⟩;rw [lJ,hk,<-hs.1];exact hrun w' (hs' (by rw [ho];rfl))
theorem Z6(A us C vals:J Value)(off:Nat)(h:off+vals.length<=us.length):
  ((A++us++C).take (A.length+off)++vals++(A++us++C).drop (A.length+off+vals.length))=A++(us.take off++vals++us.drop (off+vals.length))++C:=by
 have e1:(A++us++C).take (A.length+off)=A++us.take off:=by
  rw [uX,ad9,tL om,show A.length+off-A.length=off by omega,ad9,show off-us.length=0 by omega];simp
 have e2:(A++us++C).drop (A.length+off+vals.length)=us.drop (off+vals.length)++C:=by
  rw [uX,ad6,SK om,show A.length+off+vals.length-A.length=off+vals.length by omega,ad6,show off+vals.length-us.length=0 by omega];simp
 simp_all
theorem acn(hE:E.Ok){x:T.den E.D}{us:J Value}(h:LD w G.pr us (T.cells E x))(hc:(TV.dat T x).o4=some cs):bI E w G cs us:=by
 simp [TV.o4] at hc;cases ha:T.isAgg<;>rw [ha] at hc<;>simp at hc
 ·cases hc
  have hl:us.length=1:=by
   rw [h.length];cases T<;>first|rfl|cases ha
  obtain⟨u,rfl⟩:=YB.1 hl;exact .cons (.PB ha h) .nil
 grind [yF]
theorem aco(hE:E.Ok)(hr:Rel E w0 G0 st a w G)(ho:o.op=.store t x y)(ht:aU P t=some i){ix:Nat}(hd:st.ev x=.ir j g.aF k ix off)
  (hg:st.g[j]? = some g) (hc:oM st.c j=some c) (hk:k=c.1.size E) {ds:J (TV E)} (hcs:(TV.dat c.1 (c.2.getD ix (c.1.dflt E))).o4=some cs) (hy:(st.ev y).o4=some ds) (h4:ds.length=i.size) (h5:off+i.size<=cs.length)
  {x':c.1.den E.D} (aqS:NH E 4 c.1 (cs.take off++ds++cs.drop (off+ds.length))=some (x',[])) :
  jO P w0 G0 a w o {st with t:=cx st.t o.dst .any,c:=(j,⟨c.1,c.2.set ix x'⟩)::nI j st.c}:=by
 have hv:=hr.ev x;rw [hd] at hv;obtain⟨b,m,cap,hj,hlt,lJ⟩:=hr.ir hg hv;obtain⟨h,hj',hs,-⟩:=hr.soft hg hc;rw [hj] at hj';cases hj';rcases hs.block with⟨h1,-⟩|⟨b',cap',cur,h1,hheap,hcap,hcm,ajf,hf,hnp⟩
 ·cases h1
 obtain⟨rfl,rfl,rfl⟩:=h1;have hle:c.2.length*g.k<=cur.size:=by simp_all [zy]
 obtain⟨us,h2,h3,QU,-⟩:=WZ hs.1 hheap hf hle hlt;obtain⟨hl,hl1⟩:=sK hE (hr.ev y) hy;have hlen:(a.eval y).cells.toList.length=i.size:=by rw [hl.length,h4]
 have hlen':(a.eval y).cells.size=i.size:=by simpa using hlen
 have Gx:=acn hE h2 hcs;have hcl:cs.length=g.k:=by rw [<-Gx.length,h3]
 obtain⟨xt,jP,-,hxs,-⟩:=aM ht
 have hik:ix*g.k+g.k<=c.2.length*g.k:=by
  have:(ix+1)*g.k<=c.2.length*g.k:=zy _ hlt
  grind
 have hfit:(ix*g.k+off)+0+(a.eval y).cells.toList.length<=cur.size:=by rw [hlen];omega
 have Ti:=run_storeCells_at (P:=P) b (ix*g.k+off) g.e (a.eval y).cells.toList 0 cur w hheap hfit (fun v hv=>hl1 v (by simpa using hv))
 let new:=(cur.toList.take (ix*g.k+off)++(a.eval y).cells.toList++cur.toList.drop (ix*g.k+off+(a.eval y).cells.toList.length)).toArray
 have hrun:(execOp a.eval o).run P w=.ok .skip (w.setRow b new):=by
  simp [execOp,ho,Instr.storeAt,Instr.sureAddr,lJ,hk,<-hs.1,storeVar,fy jP,hxs,hlen'];simp only [ne_eq,Ti];rfl
 have aqT:=((Gx.take off).append hl).append (Gx.drop (off+ds.length));obtain⟨us1,ts,e1,e2,e3⟩:=AJ hE 4 c.1 aqT aqS;subst e3;have hu1:us1.length=g.k:=by grind
 have arY:cur.toList=cur.toList.take (ix*g.k)++us++cur.toList.drop (ix*g.k+g.k):=by
  grind [List.take_append_drop,List.drop_drop,List.append_assoc]
 have apB:new.toList=cur.toList.take (ix*g.k)++us1++cur.toList.drop (ix*g.k+us1.length):=by
  have:=Z6 (cur.toList.take (ix*g.k)) us (cur.toList.drop (ix*g.k+g.k)) (a.eval y).cells.toList off (by rw [h3];omega)
  grind
 have aqU:new.size=cur.size:=by
  grind
 have hfl:Flat w G.pr g.k (new.toList.take ((c.2.set ix x').length*g.k)) ((c.2.set ix x').map (c.1.cells E)):=by
  have h9:=hf.splice (Flat.single e2 hu1) (p:=ix) bz;rw [List.length_set,apB,acj _ _ om (by simpa using hle)]
  have h10:(c.2.set ix x').map (c.1.cells E)=(c.2.map (c.1.cells E)).take ix++[c.1.cells E x']++(c.2.map (c.1.cells E)).drop (ix+[c.1.cells E x'].length):=by
   rw [akV,if_pos (by simpa using hlt)];simp
  rw [h10];exact h9
 have hR:=hr.ahf hg hc hj hheap aqU si hfl;exact⟨_,undef,_,G,hrun,.inr ⟨rfl,rfl⟩,hR.put (by simp [VT]) o.dst⟩
theorem Rel.VG(h:Rel E w0 G0 st a w G)(hs:∃x hd,G.g[j]? = some (x,hd)/\sI E w G x hd c):Rel E w0 G0 {st with c:=(j,c)::st.c} a w G:=
 ⟨h.eX,h.size,h.tmps,h.defers,h.boxes,h.fix,h.pins,fun i c' hm=>by
  rcases iE.1 hm with e|hm
  ·cases e;exact hs
  ·exact h.gr i c' hm⟩
theorem ahg{pr:Nat->Nat->Prop}(hk0:0<k){z:aG Value}(hz:z.size=k){e:J DV}(h:LD w pr z.toList e){n m:Nat}(hn:n<=m):Flat w pr k ((madeCells z (m*k)).toList.take (n*k)) (List.replicate n e):=by
 have hel:e.length=k:=by rw [<-h.length];simpa using hz
 have hnm:=zy k hn;refine⟨by simp_all [yj,YF,size_madeCells,List.length_replicate,aeg],fun j hj=>?_,fun j l hj hl=>?_⟩
 ·simp_all
 ·simp at hj
  have hjl:=NL hj hl
  have e1:((madeCells z (m*k)).toList.take (n*k)).getD (j*k+l) undef=z.toList.getD l undef:=by
   simp;rw [YJ,if_pos hjl];have h1:(j*k+l)%z.size=l:=by simp_all [YE,Nat.mul_add_mod,ad2]
   have h2:j*k+l<m*k:=om;have h3:l<z.size:=om;simp [madeCells,h2,h1,h3]
  have e2:(List.replicate n e).getD j []=e:=by simp [hj]
  rw [e1,e2]
  have:∀ {vs:J Value}{ds:J DV}(l:Nat),LD w pr vs ds->l<ds.length->VD w pr (vs.getD l undef) (ds.getD l default):=by
   intro vs
   induction vs with
   | nil=>intro ds l h hl;cases ds with|nil=>simp at hl|cons _ _=>exact h.elim
   | cons v vs ih=>
    intro ds l h hl
    cases ds with
    | nil=>exact h.elim
    | cons d ds=>
     cases l with
     | zero=>simpa using h.1
     | succ l=>simpa using ih l h.2 (by simpa using hl)
  exact this l h om
theorem ae9(hE:E.Ok)(hr:Rel E w0 G0 st a w G){z0:Value}(ho:o.op=.makeSlice t x y)(ht:aU P t=some ⟨.slice e,j1,j2,z0⟩)(hi:aU P e=some ie){z:T.den E.D}{k1 k2:eF}{n m:Int}
  (hx:st.ev x=.dat (.int k1) n) (hy:st.ev y=.dat (.int k2) m) (hk:ie.size=T.size E) (hk0:0<ie.size) (hzs:ie.zero.cells.size=ie.size) (hz1:ie.zero.cells.toList.all (·.oneCell')=true) (hz:(yH E (some T) ie.zero).get T=some z)
  (h0:0<=n) (h1:n<=m) (h2:0<m) (h3:m<=9223372036854775807) (h4:(ie.bytes:Int)*m<=140737488355328) :
  jO P w0 G0 a w o {st with t:=cx st.t o.dst (.eu st.g.length 0),g:=st.g++[⟨0,e,ie.size⟩],c:=(st.g.length,⟨T,List.replicate n.toNat z⟩)::st.c}:=by
 have zV:=hr.ev x;rw [hx] at zV;have BZ:=hr.ev y;rw [hy] at BZ;obtain⟨xt,jP,ey,-⟩:=aM ht;obtain⟨xe,qA,AL,hsz,hby,hzz⟩:=aM hi;have hrun:=run_make w t e xe ie.zero ey qA hzz k1 k2 n m h0 h1 (by rw [hby];omega) h3;rw [hsz] at hrun;have hzv:VT E w G (.dat T z) ie.zero:=TV.uy hz (PF hE hz1);have WV:=hzv.NP;have alc:maxLen=9223372036854775807:=rfl
 let cur:=madeCells ie.zero.cells (m.toNat*ie.size)
 have hcs:cur.size=m.toNat*ie.size:=size_madeCells _ _;have hG:=hr.grow (eY.alloc w (.cells cur e)) rfl rfl rfl G.pr (fun _ _ h=>h) (fun _ _ _ h=>h) (fun b o hp=>jN (hr.boxes.gq b o hp).1 si);have hnp:∀o,¬ G.pr w.heap.size o:=fun o hp=>absurd (hr.boxes.gq _ _ hp).1 (zx _);have hheap:(w.alloc (.cells cur e)).heap[w.heap.size]? = some (.cells cur e):=heap_alloc_new w _
 have hown:(w.alloc (.cells cur e)).ownsRow 0 e ie.size (.slice (some ⟨w.heap.size,0,none⟩) n.toNat m.toNat) n.toNat (cur.toList.take (n.toNat*ie.size)):=by
  refine⟨?_,.inr ⟨w.heap.size,m.toNat,cur,rfl,eA _,hheap,om,om,hcs,rfl⟩⟩
  grind [List.length_take,Array.length_toList,Nat.min_eq_left,Nat.mul_le_mul_right]
 have hA:=hG.Ct ⟨0,e,ie.size⟩ (.slice (some ⟨w.heap.size,0,none⟩) n.toNat m.toNat) ⟨n.toNat,_,hown,fun a q h=>by simp at h;omega,fun b hb=>by
   cases hb;exact⟨si,fun hm=>absurd (hr.boxes.lt _ hm) (zx _),fun o _ hp=>hnp o hp⟩⟩ (fun b hb=>by cases hb;exact hr.eX.size) (fun j y z b hj hzb hb=>by
   cases hb;obtain⟨n',xs',-,-,hb'⟩:=hr.boxes.grow j y z hj
   simp_all)
 have hrl:=hr.qb;have lz:(G.g++[(⟨0,e,ie.size⟩,Value.slice (some ⟨w.heap.size,0,none⟩) n.toNat m.toNat)])[st.g.length]? = some (⟨0,e,ie.size⟩,.slice (some ⟨w.heap.size,0,none⟩) n.toNat m.toNat):=by rw [<-hrl];simp
 have hC:=hA.VG (c:=⟨T,List.replicate n.toNat z⟩) ⟨⟨0,e,ie.size⟩,_,lz,hk,hk0,⟨_,by simp;exact hown,by
   rw [List.map_replicate];exact ahg hk0 hzs (WV.mono (fun _ _ h=>h) (fun b o v _ hv=>(eY.alloc w _).cell hv)) om⟩,fun b hb o hp=>by cases hb;exact hnp o hp⟩
 refine⟨.value _,_,_,_,?_,.inl rfl,hC.put (v:=.slice (some ⟨w.heap.size,0,none⟩) n.toNat m.toNat) ?_ o.dst⟩
 ·simp [execOp,ho,zV.fU,BZ.fU,hrun]
  rfl
 ·exact⟨⟨0,e,ie.size⟩,_,lz,ek _,rfl,fun _=>rfl⟩
theorem acp(hE:E.Ok)(hr:Rel E w0 G0 st a w G){len:Nat}{parts:aG (Nat×dy)}(ho:o.op=.buildSlice t len parts)
  (ht:aU P t=some ⟨.slice e,j1,j2,z⟩) (hi:aU P e=some ie) (h1:parts.toList.map (·.1)=List.range len) (h2:len*ie.size<=16777216) (h3:0<ie.size) (h0':0<len\/E.zc e=true)
    (hk:ie.size=T.size E) (hx:og T (parts.toList.map fun p=>st.ev p.2)=some xs) :
  jO P w0 G0 a w o {st with t:=cx st.t o.dst (.eu st.g.length 0),g:=st.g++[⟨0,e,ie.size⟩],c:=(st.g.length,⟨T,xs⟩)::st.c}:=by
 obtain⟨cs,hrun,hcs,Tn,hfl⟩:=NS hE hr ho ht hi h1 h2 h3 hk hx;have alc:maxLen=9223372036854775807:=rfl;have hG:=hr.grow (eY.alloc w (.cells cs e)) rfl rfl rfl G.pr (fun _ _ h=>h) (fun _ _ _ h=>h) (fun b o hp=>jN (hr.boxes.gq b o hp).1 si);have hnp:∀o,¬ G.pr w.heap.size o:=fun o hp=>absurd (hr.boxes.gq _ _ hp).1 (zx _);have hheap:(w.alloc (.cells cs e)).heap[w.heap.size]? = some (.cells cs e):=heap_alloc_new w _
 have hown:(w.alloc (.cells cs e)).ownsRow 0 e ie.size (.slice (some ⟨w.heap.size,0,none⟩) len len) len (cs.toList.take (len*ie.size)):=by
  refine⟨?_,.inr ⟨w.heap.size,len,cs,rfl,eA _,hheap,ek _,by have:len<=len*ie.size:=ad7 _ h3;omega,hcs,rfl⟩⟩;rw [yj,YF,hcs];exact Nat.min_self _
 have hA:=hG.Ct ⟨0,e,ie.size⟩ (.slice (some ⟨w.heap.size,0,none⟩) len len) ⟨len,_,hown,fun a q h=>h0'.elim (fun _=>by simp at h;omega) id,fun b hb=>by
   cases hb;exact⟨si,fun hm=>absurd (hr.boxes.lt _ hm) (zx _),fun o _ hp=>hnp o hp⟩⟩ (fun b hb=>by cases hb;exact hr.eX.size) (fun j y z b hj hzb hb=>by
   cases hb;obtain⟨n',xs',-,-,hb'⟩:=hr.boxes.grow j y z hj;exact absurd (hb' _ hzb).1 (zx _))
 have hrl:=hr.qb;have lz:(G.g++[((⟨0,e,ie.size⟩:cH),Value.slice (some ⟨w.heap.size,0,none⟩) len len)])[st.g.length]? = some (⟨0,e,ie.size⟩,.slice (some ⟨w.heap.size,0,none⟩) len len):=by rw [<-hrl];simp
 have hC:=hA.VG (j:=st.g.length) (c:=⟨T,xs⟩) ⟨⟨0,e,ie.size⟩,_,lz,hk,h3,⟨_,by rw [Tn];exact hown,hfl.mono (fun _ _ h=>h) (fun b o v _ hv=>(eY.alloc w _).cell hv)⟩,fun b hb o hp=>by cases hb;exact hnp o hp⟩;refine⟨.value _,_,_,_,hrun,.inl rfl,hC.put (d:=.eu st.g.length 0) (v:=.slice (some ⟨w.heap.size,0,none⟩) len len) ?_ o.dst⟩;simp only [VT];exact⟨⟨0,e,ie.size⟩,_,lz,ek _,rfl,fun _=>rfl⟩
def afa(ty:aI->O Ty):O Nat->Bool
 | some i=>match ty (2000000+i) with
  | some _=>true
  | none=>false
 | none=>false
def Z7(P:bh)(ty:aI->Option Ty)(st:TS E)(dst:Option Nat):Op->Option (Bool×TS E)
 | .buildSlice t len parts=>cond (afa ty dst) (match aU P t with
  | some ⟨.slice e,_,_,_⟩=>match aU P e,ty e with
   | some ie,some T=>match og T (parts.toList.map fun p=>st.ev p.2) with
    | some xs=>some (cond (Nat.blt 0 len) true (E.zc e)&&(decide (parts.toList.map (·.1)=List.range len)&&(Nat.ble (len*ie.size) 16777216&&(Nat.blt 0 ie.size&&Nat.beq ie.size (T.size E)))),
       {st with t:=cx st.t dst (.eu st.g.length 0),g:=st.g++[⟨0,e,ie.size⟩],c:=(st.g.length,⟨T,xs⟩)::st.c})
    | none=>none
   | _,_=>none
  | _=>none) none
 | _=>none
theorem afb(hE:E.Ok)(hr:Rel E w0 G0 st a w G){c:Bool}(h:Z7 P ty st o.dst o.op=some (c,st'))(hc:c=true):jO P w0 G0 a w o st':=by
 cases ho:o.op<;>rw [ho] at h<;>try trivial
 case buildSlice t len parts=>
  simp only [Z7] at h;cases hb:afa ty o.dst<;>rw [hb] at h<;>simp only [aZ,aK] at h
  ·cases h
  split at h<;>try trivial
  rename_i e j1 j2 z ht;split at h<;>try trivial
  rename_i ie T hi hT;split at h<;>try trivial
  rename_i xs hx;cases h;simp only [cE,fL] at hc
  exact acp hE hr ho ht hi hc.2.1 (lR hc.2.2.1) (lR hc.2.2.2.1) (by
   cases hb0:Nat.blt 0 len with
   | true=>exact .inl (lR hb0)
   | false=>have h0:=hc.1;rw [hb0] at h0;exact .inr h0) (eM hc.2.2.2.2) hx
theorem Rel.ahh(hr:Rel E w0 G0 st a w G)(hg:st.g[j]? = some g)(hc:oM st.c j=some c){v':Value}(hj:G.g[j]? = some (g,v))(vg:w.grownBy w' v.ownBlock){vals:J Value}
  (hown:w'.ownsRow 0 g.e g.k v' ys.length vals) (hf:Flat w G.pr g.k vals (ys.map (c.1.cells E))) (hblk:∀b,v'.ownBlock=some b->w.heap.size<=b\/v.ownBlock=some b) (hz:∀a m,v'=.slice (some a) m 0->E.zc g.e=true) (h1:v'.oneCell'=true) :
  ∃G',Rel E w0 G0 {st with g:=st.g.set j {g with aF:=g.aF+1},c:=(j,⟨c.1,ys⟩)::nI j st.c} a w' G'/\VT E w' G' (.eu j (g.aF+1)) v':=by
 obtain⟨h,hj',hs,-⟩:=hr.soft hg hc;rw [hj] at hj';cases hj';obtain⟨n0,ZR,SV,NO,hb0⟩:=hr.boxes.grow j g v hj;have hnp:=hs.2.2.2
 have anZ:∀b,v'.ownBlock=some b->∀o,¬ G.pr b o:=fun b hb o hp=>by
  rcases hblk b hb with q|q
  ·have:=(hr.boxes.gq b o hp).1;omega
  ·exact hnp b q o hp
 have hcells:∀b o u,G.pr b o->w.cell? ⟨b,o,none⟩=some u->w'.cell? ⟨b,o,none⟩=some u:=fun b o u hp hu=>
  vg.cell hu (fun e=>hnp b e.symm o hp)
 have hjl:=(eV.1 hj).1
 have key:=hr.setRow (x':={g with aF:=g.aF+1}) (cs:=(j,⟨c.1,ys⟩)::nI j st.c) hj (Nat.le_succ _) (fun e=>by simp at e) vg.size vg.os vg.tape vg.output
  (fun b hb hne=>vg.block b hb (fun e=>hne e.symm)) hcells G.pr (fun _ _ h=>h) (fun _ _ h=>.inl h)
  ⟨ys.length,vals,hown,hz,fun b hb=>⟨(hown.lt b hb).2,fun hm=>by
   rcases hblk b hb with q|q
   ·have:=hr.boxes.lt b hm;omega
   ·exact (hb0 b q).2.1 hm,fun o _ hp=>anZ b hb o hp⟩⟩ hblk (fun hg'=>?_)
 ·simp [VT]
  grind
 ·intro i c' hm
  rcases iE.1 hm with e|hm
  ·cases e
   exact⟨{g with aF:=g.aF+1},v',by simp [hjl],hs.1,hs.2.1,⟨vals,hown,hf.mono hg'.pr hg'.cells⟩,anZ⟩
  ·obtain⟨hm,hne⟩:=tA hm
   obtain⟨x,hd,q1,q2⟩:=hr.gr i c' hm;obtain⟨n1,xs1,-,-,vz⟩:=hr.boxes.grow i x hd q1;refine⟨x,hd,?_,q2.keep rfl rfl hg'.pr hg'.cells fun b hb=>⟨vg.block b (vz b hb).1 (fun e=>hne (hr.boxes.apart i j x hd g v b q1 hj hb e.symm)),fun o hp=>hp⟩⟩
   grind
theorem Z8(hE:E.Ok)(hr:Rel E w0 G0 st a w G){cl:Call}{tx:aI}(ho:o.op=.call cl)(hcl:cl.callee=.builtin .append)(ha:cl.args.toList=[x,y])(hat:cl.argTypes.toList=[t,tx])
  (ht:aU P t=some ⟨.slice e,j1,j2,z⟩) (hi:aU P e=some ie)    (hx:st.ev x=.eu j g.aF) (hg:st.g[j]? = some g) (hc:oM st.c j=some c) (hge:g.e=e) (AQ:g.k=ie.size) (hzs:ie.zero.cells.size=ie.size)
   (h63:c.2.length+ys.length<=9223372036854775807) (hbytes:(c.2.length+ys.length)*ie.bytes<=140737488355328)
  {news:J Value} (hsrc:Src P ie.size tx (a.eval y) ys.length news w) (hf:Flat w G.pr ie.size news (ys.map (c.1.cells E))) :
  jO P w0 G0 a w o {st with t:=cx st.t o.dst (.eu j (g.aF+1)),g:=st.g.set j {g with aF:=g.aF+1},c:=(j,⟨c.1,c.2++ys⟩)::nI j st.c}:=by
 have gD:cl.args=#[x,y]:=by grind
 have yp:cl.argTypes=#[t,tx]:=by grind
 obtain⟨xt,jP,ey,-⟩:=aM ht;obtain⟨xe,NN,AL,hsz,hby,hz⟩:=aM hi;have hv:=hr.ev x;rw [hx] at hv;obtain⟨v,hj,hs,hval⟩:=hr.soft hg hc;have lJ:=hval _ hv
 have fin:∀(v':Value)(w':U)(vals:J Value),(Builtin.append_ #[t,tx] o.type #[v,a.eval y]).run P w=.ok v' w'->w'.ownsRow 0 g.e g.k v' (c.2++ys).length vals->Flat w G.pr g.k vals ((c.2++ys).map (c.1.cells E))->w.grownBy w' v.ownBlock ->
   (∀b,v'.ownBlock=some b->w.heap.size<=b\/v.ownBlock=some b)->(∀a m,v'=.slice (some a) m 0->E.zc g.e=true)->v'.oneCell'=true ->
   jO P w0 G0 a w o {st with t:=cx st.t o.dst (.eu j (g.aF+1)),g:=st.g.set j {g with aF:=g.aF+1},c:=(j,⟨c.1,c.2++ys⟩)::nI j st.c}:=by
  intro v' w' vals hrun hown hfl vg hblk hnz h1;obtain⟨G',hR,hV⟩:=hr.ahh hg hc hj vg hown hfl hblk hnz h1;refine⟨.value v',v',w',G',?_,.inl rfl,hR.put hV o.dst⟩;unfold execOp;simp [ho,resolve,hcl,jf,pe,invoke,builtin,gD,yp,jU,Nc];rw [lJ,hrun];rfl
 have E9:Src P xe.size tx (a.eval y) ys.length news w:=by rw [hsz];exact hsrc
 have hzl:∀c,(Builtin.zeroCells ie.zero.cells c).size=c*ie.size:=fun c=>by rw [size_zeroCells,hzs]
 obtain⟨n0,ZR,SV,NO,hb0⟩:=hr.boxes.grow j g v hj;have hlen:(c.2++ys).length=c.2.length+ys.length:=by simp
 have hmap:(c.2++ys).map (c.1.cells E)=c.2.map (c.1.cells E)++ys.map (c.1.cells E):=by simp
 rw [<-AQ] at hf;by_cases hm:ys.length=0
 ·have hys:=D3 hm
  subst hys;have hnn:=D3 (by simpa using hf.1);subst hnn;obtain⟨-,-,⟨vals,ho,Mc⟩,-⟩:=hs;refine fin v w vals ?_ (by simp_all) (by simp_all) ⟨rfl,rfl,rfl,ek _,fun _ _ _=>rfl⟩ (fun b hb=>.inr hb) NO ?_
  ·rcases ho.2 with⟨q1,q2⟩|⟨b,cap,cur,q1,-,-,q4,-⟩
   ·rw [q1];exact run_append_nothing w t tx o.type e xe ey NN none 0 0 (ek _) _ E9
   grind [run_append_nothing]
  ·rcases ho.2 with⟨q1,q2⟩|⟨b,cap,cur,q1,-⟩<;>rw [q1]<;>rfl
 have grow:∀(base:O Addr)(old:Nat)(xs':J Value),v=.slice base c.2.length old->old<c.2.length+ys.length->Flat w G.pr g.k xs' (c.2.map (c.1.cells E)) ->
   (Builtin.firstCells xe.size c.2.length (.slice base c.2.length old)).run P w.drew=.ok xs'.toArray w.drew ->
   jO P w0 G0 a w o {st with t:=cx st.t o.dst (.eu j (g.aF+1)),g:=st.g.set j {g with aF:=g.aF+1},c:=(j,⟨c.1,c.2++ys⟩)::nI j st.c}:=by
  intro base old xs' hv0 hlt hfx WT;have hfit:=growslice_fits (bytes:=xe.bytes) hlt (by rw [hby];exact hbytes);have hr':=run_append_grow_src w t tx o.type e xe ie.zero ey NN hz base c.2.length old xs' WT (a.eval y) ys.length news E9 hlt om hfit;have Jf:=grownCap_ge w (c.2.length+ys.length) old e;have hcm:=grownCap_le_maxLen w (c.2.length+ys.length) old e h63;generalize hcap:grownCap w (c.2.length+ys.length) old e=cap at hr' Jf hcm;generalize hcs:(xs'++news).toArray++Builtin.zeroCells ie.zero.cells (cap-(c.2.length+ys.length))=cs at hr';have J4:=hfx.append hf;have hl2:(xs'++news).length=(c.2.length+ys.length)*g.k:=by rw [J4.1];simp
  have ajf:cs.size=cap*g.k:=by
   rw [<-hcs,ad3,ad4,hl2,hzl,<-AQ,<-Ph];congr 1;omega
  have hheap:(w.drew.alloc (.cells cs e)).heap=w.heap.push (.cells cs e):=rfl;have hnew:(w.drew.alloc (.cells cs e)).heap[w.heap.size]? = some (.cells cs e):=by rw [hheap];simp
  refine fin (.slice (some ⟨w.heap.size,0,none⟩) (c.2.length+ys.length) cap) (w.drew.alloc (.cells cs e)) (xs'++news) (by rw [hv0];exact hr') ⟨by rw [hl2,hlen],.inr ⟨w.heap.size,cap,cs,?_,Nat.zero_le _,by rw [hge];exact hnew,by rw [hlen];exact Jf,hcm,ajf,?_⟩⟩ (by rw [hmap];exact J4) ⟨rfl,rfl,rfl,by rw [hheap];simp,fun b hb _=>by grind⟩
   (fun b hb=>by cases hb;grind) (fun a m h=>by simp at h;omega) rfl
  ·rw [hlen]
  grind
 rcases hs.block with⟨h1,h2⟩|⟨b,cap,cur,h1,hheap,hcap,hcm,hcs,Mc,hnp⟩
 ·have hc0:c.2.length=0:=by rw [h2];rfl
  refine grow none 0 [] (by rw [h1,hc0]) om (by rw [h2];exact Flat.nil) ?_;simp [Builtin.firstCells]
 ·by_cases hroom:c.2.length+ys.length<=cap
  ·have Tk:c.2.length*ie.size+news.length<=cur.size:=by
    rw [hf.1,hcs,<-AQ,lW,<-Ph];exact zy _ hroom
   have Gw:w.heap[b]? = some (.cells cur e (0,0)):=by rw [<-hge];exact hheap
   have hr':=run_append_room_src w t tx o.type e xe ey NN b 0 c.2.length cap (a.eval y) ys.length news E9 hroom
    (fun j hj=>by
     rw [cell_of_row w b _ cur e (0,0) Gw,hsz]
     grind)
    (fun j hj=>frozen_of_row w b _ cur e Gw)
   rw [hsz,qC,AP b e news (c.2.length*ie.size) cur w Gw Tk] at hr';have J4:=Mc.append hf;have hl2:(cur.toList.take (c.2.length*g.k)++news).length=(c.2.length+ys.length)*g.k:=by rw [J4.1];simp
   refine fin (.slice (some ⟨b,0,none⟩) (c.2.length+ys.length) cap) (w.setRow b (cur.toList.take (c.2.length*ie.size)++news++cur.toList.drop (c.2.length*ie.size+news.length)).toArray) (cur.toList.take (c.2.length*g.k)++news) (by rw [h1];exact hr') ⟨by rw [hl2,hlen],.inr ⟨b,cap,_,by rw [hlen],eA _,by rw [hge];exact setRow_heap w b cur _ e _ Gw,by rw [hlen];exact hroom,hcm,?_,?_⟩⟩ (by rw [hmap];exact J4) ⟨rfl,rfl,rfl,si,fun b' _ hb'=>setRow_other w b b' _ (fun e=>hb' (by rw [e,h1];rfl))⟩
    (fun b' hb'=>.inr (by rw [h1];exact hb')) (fun a m h=>by simp at h;omega) rfl
   ·grind
   grind
  ·refine grow _ cap (cur.toList.take (c.2.length*g.k)) h1 om Mc ?_
   rw [hsz,<-AQ];refine run_firstCells_some w.drew g.k c.2.length ⟨b,0,none⟩ c.2.length cap (cur.toList.take (c.2.length*g.k)) (by rw [Mc.1];simp) (fun q u hu=>?_);rw [add_lit,qC]
   have hq:q<c.2.length*g.k:=by
    grind
   show w.cell? ⟨b,q,none⟩=some u
   grind [cell_of_row]
theorem ahi(hr:Rel E w0 G0 st a w G){hi:dy}(ho:o.op=.slice t x none (some hi) none)(ht:aU P t=some ⟨.slice e,j1,j2,z⟩)(hi':aU P e=some ie)
     (hx:st.ev x=.eu j g.aF) (hg:st.g[j]? = some g) (hc:oM st.c j=some c) {q:Int} (hq:lI (c.2.length:Int) (some (st.ev hi))=some q) (h0:0<=q) (h1:q<=(c.2.length:Int)) :
  jO P w0 G0 a w o {st with t:=cx st.t o.dst (.eu j (g.aF+1)),g:=st.g.set j {g with aF:=g.aF+1},c:=(j,⟨c.1,c.2.take (Int.toNat q)⟩)::nI j st.c}:=by
 obtain⟨xt,jP,ey,-⟩:=aM ht;obtain⟨xe,qA,AL,hsz,-⟩:=aM hi';obtain⟨v,hj,hs,hval⟩:=hr.soft hg hc;have hv:=hr.ev x;rw [hx] at hv;have lJ:=hval _ hv;obtain⟨n0,ZR,SV,NO,hb0⟩:=hr.boxes.grow j g v hj;have hlen:(c.2.take q.toNat).length=q.toNat:=by simp_all
 have hbi:=tB hr (lo:=some hi) hq;have an0:=tB hr (lo:=none) (d:=0) rfl
 have key:∀(v':Value)(vals:J Value),(Instr.sliceAt t v none (some (a.eval hi)) none).run P w=.ok v' w->w.ownsRow 0 g.e g.k v' (c.2.take q.toNat).length vals->Flat w G.pr g.k vals ((c.2.take q.toNat).map (c.1.cells E))->v'.ownBlock=v.ownBlock ->
   (∀a m,v'=.slice (some a) m 0->E.zc g.e=true)->v'.oneCell'=true->jO P w0 G0 a w o {st with t:=cx st.t o.dst (.eu j (g.aF+1)),g:=st.g.set j {g with aF:=g.aF+1},c:=(j,⟨c.1,c.2.take (Int.toNat q)⟩)::nI j st.c}:=by
  intro v' vals hrun hown hfl hblk hnz h1';obtain⟨G',hR,hV⟩:=hr.ahh hg hc hj ⟨rfl,rfl,rfl,ek _,fun _ _ _=>rfl⟩ hown hfl (fun b hb=>.inr (by rw [<-hblk];exact hb)) hnz h1';refine⟨.value v',v',w,G',?_,.inl rfl,hR.put hV o.dst⟩;simp [execOp,ho];rw [lJ,hrun];rfl
 rcases hs.block with⟨q1,q2⟩|⟨b,cap,cur,q1,hheap,hcap,hcm,hcs,Mc,hnp⟩
 ·have hq0:q=0:=by grind
  subst hq0;refine key (.slice none 0 0) [] ?_ ?_ (by rw [q2];exact Flat.nil) (by rw [q1]) (fun a m h=>by cases h) rfl
  ·have BX:=E8 (P:=P) (isS:=true) (cap:=0) (ek _) an0 (by rw [q2] at hbi;exact hbi) (YL _) (YL _) si w
   rw [q1];simp at BX;unfold Instr.sliceAt;unfold Instr.slice;simp only [jf,aQ ey,jG,BX,fy qA];simp
  ·exact⟨si,.inl ⟨rfl,rfl⟩⟩
 ·refine key (.slice (some ⟨b,0,none⟩) q.toNat cap) (cur.toList.take (q.toNat*g.k)) ?_ ?_ ?_ (by rw [q1];rfl) (fun a m h=>by
   simp_all) rfl
  ·have BX:=E8 (P:=P) (isS:=true) hcap an0 hbi (YL _) h0 h1 w
   rw [q1];simp at BX;unfold Instr.sliceAt;unfold Instr.slice;simp only [jf,aQ ey,jG,BX,fy qA,YC,add_lit];simp
  ·rw [hlen]
   refine⟨?_,.inr ⟨b,cap,cur,rfl,eA _,hheap,om,hcm,hcs,rfl⟩⟩
   grind [List.length_take,Array.length_toList,Nat.min_eq_left,Nat.mul_le_mul_right]
  ·have h9:=Mc.take (i:=q.toNat) bz
   simp_all [zy,YH,aeg,List.map_take]
def afc(P:bh)(ty:aI->O Ty)(st:TS E)(dst:O Nat)(cl:Call):O (Bool×TS E):=
 match cl.callee,cl.args.toList,cl.argTypes.toList with
 | .builtin .append,[x,y],[t,tx]=>match aU P t,aU P tx with
  | some ⟨.slice e,_,_,_⟩,some ix=>match aU P e,st.ev x with
   | some ie,.eu j aF=>match st.g[j]?,oM st.c j with
    | some g,some c=>match ae7 c.1 ix.kind (st.ev y) with
     | some ys=>some (Nat.beq g.aF aF&&(Nat.beq g.e e&&(Nat.beq g.k ie.size&&(Nat.beq ie.size (c.1.size E)&&(Nat.blt 0 ie.size&&(Nat.beq ie.zero.cells.size ie.size &&
          (decide (c.2.length+ys.length<=9223372036854775807)&&decide ((c.2.length+ys.length)*ie.bytes<=140737488355328))))))),
       {st with t:=cx st.t dst (.eu j (g.aF+1)),g:=st.g.set j {g with aF:=g.aF+1},c:=(j,⟨c.1,c.2++ys⟩)::nI j st.c})
     | none=>none
    | _,_=>none
   | _,_=>none
  | _,_=>none
 | _,_,_=>none
def Cu(P:bh)(ty:aI->O Ty)(st:TS E)(dst:O Nat):Op->O (Bool×TS E)
 | .load t x=>match aU P t,st.ev x with
  | some i,.ir j aF k ix off=>match st.g[j]?,oM st.c j with
   | some g,some c=>match TV.part c.1 (c.2.getD ix (c.1.dflt E)) i.isAgg i.size off with
    | some d=>some (Nat.beq g.aF aF&&Nat.beq k (c.1.size E),{st with t:=cx st.t dst d})
    | none=>none
   | _,_=>none
  | _,_=>none
 | .store t x y=>match aU P t,st.ev x,(st.ev y).o4 with
  | some i,.ir j aF k ix off,some ds=>match st.g[j]?,oM st.c j with
   | some g,some c=>match (TV.dat (E:=E) c.1 (c.2.getD ix (c.1.dflt E))).o4 with
    | some cs=>match NH E 4 c.1 (cs.take off++ds++cs.drop (off+ds.length)) with
     | some (x',[])=>some (Nat.beq g.aF aF&&(Nat.beq k (c.1.size E)&&(Nat.beq ds.length i.size&&Nat.ble (off+i.size) cs.length)),
       {st with t:=cx st.t dst .any,c:=(j,⟨c.1,c.2.set ix x'⟩)::nI j st.c})
     | _=>none
    | none=>none
   | _,_=>none
  | _,_,_=>none
 | .makeSlice t x y=>match aU P t with
  | some ⟨.slice e,_,_,_⟩=>match aU P e,ty e,st.ev x,st.ev y with
   | some ie,some T,.dat (.int _) n,.dat (.int _) m=>match (yH E (some T) ie.zero).get T with
    | some z=>some (Nat.beq ie.size (T.size E)&&(Nat.blt 0 ie.size&&(Nat.beq ie.zero.cells.size ie.size&&(ie.zero.cells.toList.all (·.oneCell') &&
       (decide (0<=n)&&(decide (n<=m)&&(decide (0<m)&&(decide (m<=9223372036854775807)&&decide ((ie.bytes:Int)*m<=140737488355328)))))))),
      {st with t:=cx st.t dst (.eu st.g.length 0),g:=st.g++[⟨0,e,ie.size⟩],c:=(st.g.length,⟨T,List.replicate (Int.toNat n) z⟩)::st.c})
    | none=>none
   | _,_,_,_=>none
  | _=>none
 | .slice t x none (some hi) none=>match aU P t,st.ev x with
  | some ⟨.slice e,_,_,_⟩,.eu j aF=>match aU P e,st.g[j]?,oM st.c j with
   | some _,some g,some c=>match lI (c.2.length:Int) (some (st.ev hi)) with
    | some q=>some (Nat.beq g.aF aF&&(decide (0<=q)&&decide (q<=(c.2.length:Int))),
      {st with t:=cx st.t dst (.eu j (g.aF+1)),g:=st.g.set j {g with aF:=g.aF+1},c:=(j,⟨c.1,c.2.take (Int.toNat q)⟩)::nI j st.c})
    | none=>none
   | _,_,_=>none
  | _,_=>none
 | .call cl=>afc P ty st dst cl
 | _=>none
theorem afd(hE:E.Ok)(hr:Rel E w0 G0 st a w G)(h:Cu P ty st o.dst o.op=some (cc,st'))(o5:cc=true):jO P w0 G0 a w o st':=by
 cases ho:o.op<;>rw [ho] at h<;>try trivial
 case load t x=>
  simp [Cu] at h;split at h<;>try trivial
  rename_i i j aF k ix off ht hx;split at h<;>try trivial
  rename_i g c hg hc;split at h<;>try trivial
  rename_i d hp;cases h;rw [cE] at o5;obtain rfl:=eM o5.1;exact (Ie hE hr ho ht hx hg hc (eM o5.2) hp).ajd hr
 case store t x y=>
  simp [Cu] at h;split at h<;>try trivial
  split at h<;>try trivial
  split at h<;>try trivial
  split at h<;>try trivial
  grind [Nat.eq_of_beq_eq_true,aco,Nat.le_of_ble_eq_true]
 case makeSlice t x y=>
  simp only [Cu] at h;split at h<;>try trivial
  rename_i e j1 j2 z0 ht;split at h<;>try trivial
  rename_i ie T k1 n k2 m hi hT hx hy;split at h<;>try trivial
  rename_i z hz;cases h;simp only [cE,fL] at o5;obtain⟨c1,c2,c3,c4,c5,c6,c7,c8,c9⟩:=o5;exact ae9 hE hr ho ht hi hx hy (eM c1) (lR c2) (eM c3) c4 hz c5 c6 c7 c8 c9
 case slice t x lo hi mx=>
  cases lo with
  | some _=>cases h
  | none=>
  cases hi with
  | none=>cases h
  | some hi=>
  cases mx with
  | some _=>cases h
  | none=>
  simp [Cu] at h;split at h<;>try trivial
  split at h<;>try trivial
  split at h<;>try trivial
  grind [Nat.eq_of_beq_eq_true,ahi]
 case call cl=>
  simp [Cu] at h;unfold afc at h;split at h<;>try trivial
  ·split at h<;>try trivial
   split at h<;>try trivial
   rename_i ie j aF hi hx;split at h<;>try trivial
   split at h<;>try trivial
   cases h;simp only [cE] at o5;obtain⟨c1,c2,c3,c4,c5,c6,c7,c8⟩:=o5;have c5:=lR c5
   grind [VF,Z8,Nat.eq_of_beq_eq_true]
def YQ(P:bh)(ty:aI->O Ty)(st:TS E)(dst:O Nat)(op:Op):O (Bool×TS E):=match Tv P ty st dst op with
 | some r=>some r
 | none=>Cu P ty st dst op
theorem acq(hE:E.Ok)(hr:Rel E w0 G0 st a w G){c:Bool}(h:YQ P ty st o.dst o.op=some (c,st'))(hc:c=true):jO P w0 G0 a w o st':=by
 grind [YQ,acm,afd]
def afe:Value->Value->Bool
 | .bool a,.bool b=>a==b
 | .int k n,.int k' n'=>decide (k=k')&&decide (n=n')
 | _,_=>false
theorem al4{u:Value}(h:afe u v=true):u=v/\u.cells=#[u]:=by
 unfold afe at h;split at h
 ·rw [uW] at h;subst h;exact⟨rfl,rfl⟩
 ·simp at h
  obtain⟨rfl,rfl⟩:=h;exact⟨rfl,rfl⟩
 ·cases h
def YR(P:bh)(st:TS E):Op->O (Bool×TV E)
 | .indexAddr t x ix=>match aU P t,st.ev ix with
  | some ⟨.array n e,_,_,_⟩,.dat (.int _) m=>match aU P e,st.ev x with
   | some i,.ir j aF k i0 off=>match st.g[j]?,oM st.c j with
    | some g,some c=>match Nat.beq g.aF aF&&(Nat.beq i.size k&&(Nat.beq i0 0&&Nat.beq off 0)) with
     | true=>some (decide (0<=m)&&(decide (m<(n:Int))&&decide (m<(c.2.length:Int))),.ir j aF k (Int.toNat m) 0)
     | false=>none
    | _,_=>none
   | _,_=>none
  | _,_=>none
 | _=>none
variable{cur:aG Value}
theorem Rel.arr(hr:Rel E w0 G0 st a w G){i:Nat}(hg:st.g[j]? = some g)(hc:oM st.c j=some c)(hv:VT E w G (.ir j g.aF k i off) v):
  ∃b cap cur,G.g[j]? = some (g,.slice (some ⟨b,0,none⟩) c.2.length cap)/\i<c.2.length/\v=.pointer (some ⟨b,i*k+off,none⟩)/\w.heap[b]? = some (.cells cur g.e (0,0))/\c.2.length<=cap/\cur.size=cap*g.k /\
   Flat w G.pr g.k (cur.toList.take (c.2.length*g.k)) (c.2.map (c.1.cells E))/\g.k=c.1.size E:=by
 obtain⟨b,m,cap,hj,hlt,lJ⟩:=hr.ir hg hv;obtain⟨h,hj',hs,-⟩:=hr.soft hg hc;rw [hj] at hj';cases hj';rcases hs.block with⟨h1,-⟩|⟨b',cap',cur,h1,hheap,hcap,hcm,hcs,hf,hnp⟩
 ·cases h1
 obtain⟨rfl,rfl,rfl⟩:=h1;exact⟨b,cap,cur,hj,hlt,lJ,hheap,hcap,hcs,hf,hs.1⟩
theorem acr(hr:Rel E w0 G0 st a w G)(h:YR P st o.op=some (cc,d))(hc:cc=true):jw P a w G o d:=by
 cases ho:o.op<;>rw [ho] at h<;>simp only [YR] at h<;>try trivial
 case indexAddr t x ix=>
  split at h<;>try trivial
  rename_i n e j1 j2 z kd m ht hn;obtain⟨xt,jP,ey,-⟩:=aM ht;obtain⟨m,hm0⟩:∃q:Int,q=m:=⟨m,rfl⟩;subst hm0;have Dp:=hr.ev ix;rw [hn] at Dp;have Tb:=Dp.fU;split at h<;>try trivial
  rename_i i j aF k i0 off hi hx;obtain⟨xe,qA,AL,hsz,-⟩:=aM hi;split at h<;>try trivial
  rename_i g c hg hcg;split at h<;>try trivial
  rename_i hs4;cases h;simp only [cE,fL] at hc hs4;obtain⟨c1,c2,c3,c4⟩:=hs4;obtain⟨c5,c6,c7⟩:=hc;have c1:=eM c1;have c2:=eM c2;have c3:=eM c3;have c4:=eM c4;have c7:m<(c.2.length:Int):=c7;subst c1 c3 c4;have hv:=hr.ev x;rw [hx] at hv;obtain⟨b,cap,cur,hj,hlt,lJ,-⟩:=hr.arr hg hcg hv;refine fV (f:=fun ρ=>Instr.indexAt t (ρ x) (ρ ix)) (by simp [execOp,ho]) ⟨_,VE hj om,fun w' hs=>?_⟩;rw [lJ,Tb];unfold Instr.indexAt asIntOf Instr.sureAddr;have h3:(0<=m/\m<(n:Int)):=⟨c5,c6⟩;simp only [jf,pe,jG,aQ ey,h3,and_self,if_true,fy qA,add_lit,hsz,c2,Nat.zero_mul,qC,UU]
def Tw(P:bh)(ty:aI->O Ty)(st:TS E)(o:Op):O (Bool×TV E):=match Tu P ty st o with
 | some x=>some x
 | none=>YR P st o
theorem acs(hE:E.Ok)(hr:Rel E w0 G0 st a w G){c:Bool}(h:Tw P ty st o.op=some (c,d))(hc:c=true):jw P a w G o d:=by
 grind [Tw,Z5,acr]
theorem Rel.adl(hr:Rel E w0 G0 st a w G)(hk:k=T.size E)(hk0:0<k)(hx0:0<xs.length)(hm:xs.length<=maxLen)(hcs:cur.size=xs.length*k)
  (hf:Flat w G.pr k cur.toList (xs.map (T.cells E))) :
  Rel E w0 G0 {st with g:=st.g++[⟨0,e,k⟩],c:=(st.g.length,⟨T,xs⟩)::st.c} a (w.alloc (.cells cur e)) {G with g:=G.g++[(⟨0,e,k⟩,.slice (some ⟨w.heap.size,0,none⟩) xs.length xs.length)]} /\
   (G.g++[(⟨0,e,k⟩,Value.slice (some ⟨w.heap.size,0,none⟩) xs.length xs.length)])[st.g.length]? = some (⟨0,e,k⟩,.slice (some ⟨w.heap.size,0,none⟩) xs.length xs.length):=by
 have hG:=hr.grow (eY.alloc w (.cells cur e)) rfl rfl rfl G.pr (fun _ _ h=>h) (fun _ _ _ h=>h) (fun b o hp=>jN (hr.boxes.gq b o hp).1 si);have hnp:∀o,¬ G.pr w.heap.size o:=fun o hp=>absurd (hr.boxes.gq _ _ hp).1 (zx _);have hheap:(w.alloc (.cells cur e)).heap[w.heap.size]? = some (.cells cur e):=heap_alloc_new w _;have htk:cur.toList.take (xs.length*k)=cur.toList:=tL (by simp_all)
 have hown:(w.alloc (.cells cur e)).ownsRow 0 e k (.slice (some ⟨w.heap.size,0,none⟩) xs.length xs.length) xs.length (cur.toList.take (xs.length*k)):=by
  refine⟨?_,.inr ⟨w.heap.size,xs.length,cur,rfl,eA _,hheap,ek _,hm,hcs,rfl⟩⟩
  simp_all
 have hA:=hG.Ct ⟨0,e,k⟩ (.slice (some ⟨w.heap.size,0,none⟩) xs.length xs.length) ⟨xs.length,_,hown,fun a q h=>by simp_all,fun b hb=>by
   cases hb;exact⟨si,fun hm=>absurd (hr.boxes.lt _ hm) (zx _),fun o _ hp=>hnp o hp⟩⟩ (fun b hb=>by cases hb;exact hr.eX.size) (fun j y z b hj hzb hb=>by
   cases hb;obtain⟨n',xs',-,-,hb'⟩:=hr.boxes.grow j y z hj
   simp_all)
 have hrl:=hr.qb;have lz:(G.g++[(⟨0,e,k⟩,Value.slice (some ⟨w.heap.size,0,none⟩) xs.length xs.length)])[st.g.length]? = some (⟨0,e,k⟩,.slice (some ⟨w.heap.size,0,none⟩) xs.length xs.length):=by rw [<-hrl];simp
 refine⟨hA.VG ⟨⟨0,e,k⟩,_,lz,hk,hk0,⟨_,hown,?_⟩,fun b hb o hp=>by cases hb;exact hnp o hp⟩,lz⟩;rw [htk];exact hf.mono (fun _ _ h=>h) (fun b o v _ hv=>(eY.alloc w _).cell hv)
theorem acu(hE:E.Ok)(hr:Rel E w0 G0 st a w G){n:Nat}{z0:Value}(ho:o.op=.alloc t)(ht:aU P t=some ⟨.array n e,j1,j2,z0⟩){z:T.den E.D}
  (hT:T.size E=1) (hn:0<n) (hm:n<=maxLen) (hzn:z0.cells.size=n) (hall:z0.cells.toList.all (afe ie.zero)=true) (hz1:ie.zero.cells.toList.all (·.oneCell')=true) (hz:(yH E (some T) ie.zero).get T=some z) :
  jO P w0 G0 a w o {st with t:=cx st.t o.dst (.ir st.g.length 0 1 0 0),g:=st.g++[⟨0,t,1⟩],c:=(st.g.length,⟨T,List.replicate n z⟩)::st.c}:=by
 have hzv:VT E w G (.dat T z) ie.zero:=TV.uy hz (PF hE hz1);have WV:=hzv.NP
 have hcell:∀v,v∈z0.cells.toList->v=ie.zero/\ie.zero.cells=#[ie.zero]:=fun v hv=>by
  grind [al4,List.all_eq_true]
 have hfl:Flat w G.pr 1 z0.cells.toList ((List.replicate n z).map (T.cells E)):=by
  refine⟨by simp [hzn],fun j hj=>?_,fun j l hj hl=>?_⟩
  ·simp_all [Ty.AF]
  ·have hj:j<n:=by simpa using hj
   obtain rfl:l=0:=om;have e1:((List.replicate n z).map (T.cells E)).getD j []=T.cells E z:=by simp [hj]
   have hjz:j<z0.cells.toList.length:=by simp [hzn,hj]
   have e2:z0.cells.toList.getD (j*1+0) undef=z0.cells.toList[j]:=by simp_all
   obtain⟨q1,q2⟩:=hcell _ (gU hjz);rw [e1,e2,q1];rw [q2] at WV
   cases hd:T.cells E z with
   | nil=>rw [hd] at WV;exact WV.elim
   | cons d ds=>rw [hd] at WV;exact WV.1
 obtain⟨hR,lz⟩:=hr.adl hT.symm Nat.one_pos (by simpa using hn) (by simpa using hm) (by simp [hzn]) hfl;refine⟨.value _,_,_,_,?_,.inl rfl,hR.put (v:=.pointer (some ⟨w.heap.size,0,none⟩)) ?_ o.dst⟩
 ·simp [execOp,ho,Instr.alloc,nt ht]
  rfl
 ·exact⟨⟨0,t,1⟩,_,lz,ek _,rfl,fun _=>⟨w.heap.size,_,_,rfl,by simpa using hn,si⟩⟩
theorem ahj(hr:Rel E w0 G0 st a w G){n:Nat}(ho:o.op=.box t x)(hx:st.ev x=.tU T xs)(hT:0<T.size E)(hn:0<n)(hm:n<=maxLen)(hl:xs.length=n):
  jO P w0 G0 a w o {st with t:=cx st.t o.dst (.ir st.g.length 0 (T.size E) 0 0),g:=st.g++[⟨0,t,T.size E⟩],c:=(st.g.length,⟨T,xs⟩)::st.c}:=by
 have hv:=hr.ev x;rw [hx] at hv;obtain⟨vs,he,h1,hf⟩:=hv;obtain⟨hR,lz⟩:=hr.adl rfl hT om om (by have:=hf.1;simpa using this) hf;refine⟨.value _,_,_,_,?_,.inl rfl,hR.put (v:=.pointer (some ⟨w.heap.size,0,none⟩)) ?_ o.dst⟩
 ·simp [execOp,ho]
  rw [he];rfl
 ·exact⟨⟨0,t,T.size E⟩,_,lz,ek _,rfl,fun _=>⟨w.heap.size,_,_,rfl,om,si⟩⟩
theorem acv(hr:Rel E w0 G0 st a w G)(ho:o.op=.load t x)(ht:aU P t=some i)(hag:i.isAgg=true)(hd:st.ev x=.ir j g.aF k 0 0)
  (hg:st.g[j]? = some g) (hc:oM st.c j=some c) (hk:k=c.1.size E) (hsz:c.2.length*k=i.size):jw P a w G o (.tU c.1 c.2):=by
 have hv:=hr.ev x;rw [hd] at hv;obtain⟨b,cap,cur,hj,hlt,lJ,hheap,hcap,hcs,hf,AQ⟩:=hr.arr hg hc hv;have hle:i.size<=cur.size:=by rw [hcs,<-hsz,hk,<-AQ];exact zy _ hcap
 have hrun:=fun w' hs=>mF ht b 0 cur.size (fun l=>cur.toList.getD l undef) (fun l hl=>by
  rw [qC,cell_of_row w b l cur g.e (0,0) hheap];simp [hl]) 0 (by rw [hag];simpa using hle) w' hs
 have hls:((List.range i.size).map fun l=>cur.toList.getD (0+l) undef)=cur.toList.take (c.2.length*g.k):=by
  rw [AQ,<-hk];refine Af bz fun q h1 h2=>?_
  grind
 refine fV (f:=fun ρ=>Instr.loadAt t (ρ x)) (by simp [execOp,ho]) ⟨.agg (cur.toList.take (c.2.length*g.k)).toArray,?_,fun w' hs=>?_⟩
 ·refine⟨_,rfl,fun u hu=>?_,by rw [<-AQ];exact hf⟩
  have hu:u∈cur.toList.take (c.2.length*g.k):=by simpa using hu
  obtain⟨q,hq,rfl⟩:=lS hu;have hlen:=hf.1;rw [lW] at hlen
  have hk0:0<g.k:=by
   grind
  have hq1:q<c.2.length*g.k:=by rw [<-hlen];exact hq
  have:=hf.2.2 (q / g.k) (q%g.k) (by simp_all [lW,ad1]) (Ys _ hk0);rw [show q / g.k*g.k+q%g.k=q by simp_all [YE,Nat.div_add_mod]] at this;have e:(cur.toList.take (c.2.length*g.k)).getD q undef=(cur.toList.take (c.2.length*g.k))[q]:=by simp_all
  rw [e] at this;exact this.one
 ·have:=hrun w' (hs (by rw [ho];rfl))
  simp_all
def Z9(P:bh)(ty:aI->O Ty)(st:TS E)(dst:O Nat):Op->O (Bool×TS E)
 | .alloc t=>match aU P t with
  | some ⟨.array n e,_,_,z0⟩=>match Nat.blt 8 n,aU P e,ty e with
   | true,some ie,some T=>match (yH E (some T) ie.zero).get T with
    | some z=>some (Nat.beq (T.size E) 1&&(Nat.ble n 9223372036854775807&&(Nat.beq z0.cells.size n&&(z0.cells.toList.all (afe ie.zero)&&ie.zero.cells.toList.all (·.oneCell')))),
      {st with t:=cx st.t dst (.ir st.g.length 0 1 0 0),g:=st.g++[⟨0,t,1⟩],c:=(st.g.length,⟨T,List.replicate n z⟩)::st.c})
    | none=>none
   | _,_,_=>none
  | _=>none
 | .box t x=>match aU P t,st.ev x with
  | some ⟨.array n _,_,_,_⟩,.tU T xs=>some (Nat.blt 0 (T.size E)&&(Nat.blt 0 n&&(Nat.ble n 9223372036854775807&&Nat.beq xs.length n)),
    {st with t:=cx st.t dst (.ir st.g.length 0 (T.size E) 0 0),g:=st.g++[⟨0,t,T.size E⟩],c:=(st.g.length,⟨T,xs⟩)::st.c})
  | _,_=>none
 | .load t x=>match aU P t,st.ev x with
  | some i,.ir j aF k ix off=>match i.kind,st.g[j]?,oM st.c j with
   | .array _ _,some g,some c=>some (i.isAgg&&(Nat.beq g.aF aF&&(Nat.beq k (c.1.size E)&&(Nat.beq ix 0&&(Nat.beq off 0&&Nat.beq (c.2.length*k) i.size)))),{st with t:=cx st.t dst (.tU c.1 c.2)})
   | _,_,_=>none
  | _,_=>none
 | _=>none
theorem aff(hE:E.Ok)(hr:Rel E w0 G0 st a w G)(h:Z9 P ty st o.dst o.op=some (cc,st'))(o5:cc=true):jO P w0 G0 a w o st':=by
 have hmax:maxLen=9223372036854775807:=rfl;cases ho:o.op<;>rw [ho] at h<;>simp only [Z9] at h<;>try trivial
 case alloc t=>
  split at h<;>try trivial
  rename_i n e j1 j2 z0 ht;split at h<;>try trivial
  rename_i ie T h8 hi hT;split at h<;>try trivial
  rename_i z hz;cases h;simp only [cE] at o5;obtain⟨c1,c2,c3,c4,c5⟩:=o5;exact acu hE hr ho ht (eM c1) (Nat.lt_of_le_of_lt (eA 8) (lR h8)) (by simp_all) (eM c3) c4 c5 hz
 case box t x=>
  split at h<;>try trivial
  rename_i n e j1 j2 z0 T xs ht hx;cases h;simp only [cE] at o5;obtain⟨c1,c2,c3,c4⟩:=o5;exact ahj hr ho hx (lR c1) (lR c2) (by simp_all) (eM c4)
 case load t x=>
  split at h<;>try trivial
  rename_i i j aF k ix off ht hx;split at h<;>try trivial
  rename_i g c hk hg hc;cases h;simp only [cE] at o5;obtain⟨c1,c2,c3,c4,c5,c6⟩:=o5;have c2:=eM c2;have c4:=eM c4;have c5:=eM c5;subst c2 c4 c5;exact (acv hr ho ht c1 hx hg hc (eM c3) (eM c6)).ajd hr
def afg(P:bh)(ty:aI->O Ty)(st:TS E)(dst:O Nat)(op:Op):O (Bool×TS E):=match Z9 P ty st dst op with
 | some r=>some r
 | none=>YQ P ty st dst op
theorem afh(hE:E.Ok)(hr:Rel E w0 G0 st a w G){c:Bool}(h:afg P ty st o.dst o.op=some (c,st'))(hc:c=true):jO P w0 G0 a w o st':=by
 grind [afg,aff,acq]
variable{b:Nat}
def Tx(P:bh)(st:TS E):Op->O (Bool×TV E)
 | .indexAddr t x ix=>match aU P t,st.ev ix with
  | some ⟨.slice e,_,_,_⟩,.dat (.int _) m=>match aU P e,st.ev x with
   | some i,.iq r n cap=>some (Nat.beq i.size 1&&(decide (0<=m)&&decide (m<(n:Int))),.ptr r (Int.toNat m))
   | _,_=>none
  | _,_=>none
 | .call c=>match c.callee,c.args.toList,c.argTypes.toList with
  | .builtin .len,[x],[t]=>match aU P t,st.ev x with
   | some ⟨.slice _,_,_,_⟩,.iq r n cap=>some (true,.dat (.int .i64) (n:Int))
   | _,_=>none
  | _,_,_=>none
 | .load t x=>match aU P t,st.ev x with
  | some i,.ptr r off=>match st.H[r]? with
   | some (.lC e cap T xs d)=>some (Nat.beq i.size 1&&(!i.isAgg&&Nat.beq off xs.length),d)
   | _=>none
  | _,_=>none
 | _=>none
theorem W5{n:Nat}(h:w.heap[b]? = some (.cells cur e (0,0)))(hn:n<cur.size):w.cell? ⟨b,n,none⟩=some (cur.getD n undef):=by
 rw [cell_of_row w b n cur e (0,0) h];simp [hn]
theorem Md(hi:aU P t=some i)(hs:i.size=1)(ha:i.isAgg=false){n:Nat}(W:U)(h:W.cell? ⟨b,n,none⟩=some v):(Instr.loadAt t (.pointer (some ⟨b,n,none⟩))).run P W=.ok v W:=by
 have hrow:=mF hi b n 1 (fun _=>v) (fun l hl=>by
  simp_all) 0 (by rw [ha];simp) W (eY.refl W)
 simp_all
theorem acw(hE:E.Ok)(hr:Rel E w0 G0 st a w G)(h:Tx P st o.op=some (cc,d))(hc:cc=true):jw P a w G o d:=by
 cases ho:o.op<;>rw [ho] at h<;>simp [Tx] at h<;>try trivial
 case indexAddr t x ix=>
  split at h<;>try trivial
  rename_i e j1 j2 z kd m ht hn;obtain⟨xt,jP,ey,-⟩:=aM ht;obtain⟨m,hm0⟩:∃q:Int,q=m:=⟨m,rfl⟩;have Dp:=hr.ev ix;rw [hn] at Dp;have Tb:=Dp.fU;split at h<;>try trivial
  rename_i i r n cap hi hx;obtain⟨xe,qA,AL,hsz,-⟩:=aM hi;cases h;simp at hc;have hv:=hr.ev x;rw [hx] at hv;obtain⟨b,lJ,hat⟩:=hv;refine fV (f:=fun ρ=>Instr.indexAt t (ρ x) (ρ ix)) (by simp [execOp,ho]) ⟨.pointer (some ⟨b,m.toNat,none⟩),?_,fun w' hs=>?_⟩
  ·simp_all [VT]
  rw [lJ];unfold Instr.indexAt asIntOf;simp [pe,aQ ey]
  simp_all [and_self,if_true,jf,fy,jG,pe,add_lit,qC,SL]
 case load t x=>
  split at h<;>try trivial
  rename_i i r off hi hx;split at h<;>try trivial
  rename_i e cap T xs d' hb;cases h;simp only [cE,Gd] at hc;obtain⟨c1,c2,c3⟩:=hc;have c1:=eM c1;have c3:=eM c3;subst c3;have hv:=hr.ev x;rw [hx] at hv;obtain⟨b,lJ,hat⟩:=hv;obtain⟨cur,h1,h2,h4,h5,h6⟩:=hr.box hat hb;refine⟨_,h5,fun w' hs=>?_⟩;have hb':w'.heap[b]? = some (.cells cur e (0,0)):=by rw [(hs (by rw [ho];rfl)).2 b (Ag.1 h1).1];exact h1
  have:=Md hi c1 c2 w' (W5 hb' (by rw [h2];exact h6));simp [execOp,ho,lJ,this]
 case call c'=>
  split at h<;>try trivial
  rename_i x t hcl ha hat;have gD:c'.args=#[x]:=by grind
  have yp:c'.argTypes=#[t]:=by grind
  split at h<;>try trivial
  rename_i e j1 j2 z r n cap ht hx;cases h;have hv:=hr.ev x;rw [hx] at hv;obtain⟨b,lJ,hat⟩:=hv;obtain⟨xt,jP,ey,-⟩:=aM ht;refine⟨_,.int _ _ _ _,fun w' hs=>?_⟩;unfold execOp;simp [ho,resolve,hcl,invoke,builtin,gD,yp];rw [lJ];simp [Builtin.len_,aQ ey,goInt]
def TV.ajo:TV E->O (J (TV E))
 | .dat t x=>cond t.isAgg (H7 E 4 t x) none
 | .agg cs=>some cs
 | _=>none
theorem afi(hE:E.Ok)(hv:VT E w G d v)(h:d.ajo=some cs):∃vs:aG Value,v=.agg vs/\bI E w G cs vs.toList:=by
 cases d<;>try trivial
 case dat t x=>
  simp only [TV.ajo] at h;cases ha:t.isAgg<;>rw [ha] at h<;>simp only [aZ,aK] at h
  ·cases h
  ·obtain⟨vs,rfl,h0⟩:=hv.aeZ ha
   exact⟨vs,rfl,yF hE 4 t x h0 h⟩
 case agg ds=>
  cases h;simp only [VT] at hv;obtain⟨vs,rfl,h1,h2⟩:=hv;exact⟨vs,rfl,h2⟩
def afj:J (TV E)->J (Nat×TV E)->O (J (TV E))
 | cs,[]=>some cs
 | cs,(j,d)::rest=>match d.o4 with
  | some [u]=>cond (Nat.ble (j+1) cs.length) (afj (cs.take j++[u]++cs.drop (j+1)) rest) none
  | _=>none
theorem W6(hE:E.Ok)(hr:Rel E w0 G0 st a w G):∀(parts:J (Nat×dy))(cells:aG Value)(ds:J (TV E)){ds':J (TV E)},bI E w G ds cells.toList->(∀u,u∈cells.toList->u.oneCell'=true) ->
  afj ds (parts.map fun p=>(p.1,st.ev p.2))=some ds' ->
  ∃cells':aG Value,Instr.fill (fun i=>some (i*1,1)) cells (parts.map fun p=>(p.1,a.eval p.2))=some cells'/\bI E w G ds' cells'.toList/\∀u,u∈cells'.toList->u.oneCell'=true
 | [],cells,ds,ds',h,h1,hf=>by cases hf;exact⟨cells,rfl,h,h1⟩
 | (j,x)::rest,cells,ds,ds',h,h1,hf=>by
  simp only [jU,afj] at hf;split at hf<;>try trivial
  rename_i u hl;cases hb:Nat.ble (j+1) ds.length<;>rw [hb] at hf<;>simp only [aZ,aK] at hf
  ·cases hf
  have hle:=lR hb;obtain⟨hx,hx1⟩:=sK hE (hr.ev x) hl;have hlen:(a.eval x).cells.size=1:=by simpa using hx.length
  have hcl:cells.size=ds.length:=by simpa using h.length
  simp only [jU];rw [NI (off:=j) (size:=1) si hlen om,hlen];refine W6 hE hr rest _ _ ?_ ?_ hf
  ·simp only []
   exact ((h.take _).append hx).append (h.drop _)
  ·intro u hu
   simp only [qF] at hu;rcases hu with (hu|hu)|hu
   ·exact h1 u (Rw hu)
   ·exact hx1 u (by simpa using hu)
   ·exact h1 u (aen hu)
theorem adm{T:Ty}:∀ {ds:J (TV E)}{us:J Value}{xs:J (T.den E.D)},og T ds=some xs->bI E w G ds us->∀m,m<xs.length->∃u,us[m]? = some u/\VT E w G (.dat T (xs.getD m (T.dflt E))) u
 | [],us,xs,h,hv,m,hm=>by simp only [og] at h;cases h;simp at hm
 | d::ds,us,xs,h,hv,m,hm=>by
  simp only [og] at h;split at h<;>try trivial
  rename_i x xs' e1 e2;cases h;obtain⟨u,us',rfl,q1,q2⟩:=hv.cons_inv
  cases m with
  | zero=>exact⟨u,rfl,TV.uy e1 q1⟩
  | succ m=>exact adm e2 q2 m (by simpa using hm)
def YS(P:bh)(ty:aI->O Ty)(st:TS E):Op->O (Bool×TV E)
 | .build t parts=>match aU P t with
  | some ⟨.array _ e,_,_,.agg z⟩=>match aU P e,afj (z.toList.map TV.JZ) (parts.toList.map fun p=>(p.1,st.ev p.2)) with
   | some i,some ds=>some (Nat.beq i.size 1&&z.toList.all (·.oneCell'),PC E (ty t) ds)
   | _,_=>none
  | _=>none
 | .index t x ix=>match aU P t,st.ev ix with
  | some ⟨.array n e,_,_,_⟩,.dat (.int _) m=>match aU P e,ty e,(st.ev x).ajo with
   | some i,some T,some cs=>match og T cs with
    | some xs=>some (Nat.beq i.size 1&&(!i.isAgg&&(Nat.beq n xs.length&&(decide (0<=m)&&decide (m<(n:Int))))),.dat T (xs.getD (Int.toNat m) (T.dflt E)))
    | none=>none
   | _,_,_=>none
  | _,_=>none
 | _=>none
theorem acy(hE:E.Ok)(hr:Rel E w0 G0 st a w G)(h:YS P ty st o.op=some (cc,d))(hc:cc=true):jw P a w G o d:=by
 cases ho:o.op<;>rw [ho] at h<;>simp only [YS] at h<;>try trivial
 case build t parts=>
  split at h<;>try trivial
  rename_i n e j1 j2 z ht;split at h<;>try trivial
  rename_i i ds hi hp;cases h;rw [cE] at hc;have c1:=eM hc.1;obtain⟨xt,jP,ey,-,-,hz⟩:=aM ht;obtain⟨xe,qA,-,hsz,-⟩:=aM hi;obtain⟨cells,hf,hl,hl1⟩:=W6 hE hr parts.toList z (z.toList.map TV.JZ) bI.ofValues (fun u hu=>p4.1 hc.2 u hu) hp;refine fV (f:=fun ρ=>Instr.build t (parts.map fun (i,x)=>(i,ρ x))) (by simp [execOp,ho]) ⟨.agg cells,Jc hE hl hl1,fun w' hs=>?_⟩;refine run_build w' t _ cells ?_;unfold Program.built;simp only [jP,ey,hz,qA,hsz,c1];rw [show (parts.map fun (i,x)=>(i,a.eval x)).toList=parts.toList.map fun p=>(p.1,a.eval p.2) by simp];exact hf
 case index t x ix=>
  split at h<;>try trivial
  rename_i n e j1 j2 z kd m ht hn;obtain⟨m,hm0⟩:∃q:Int,q=m:=⟨m,rfl⟩;subst hm0;have Dp:=hr.ev ix;rw [hn] at Dp;have Tb:=Dp.fU;split at h<;>try trivial
  rename_i i T cs hi hT hx;split at h<;>try trivial
  rename_i xs hxs;cases h;simp only [cE,Gd,fL] at hc;obtain⟨c1,c2,c3,c4,c5⟩:=hc;have c1:=eM c1;have c3:=eM c3;have c4:(0:Int)<=m:=c4;have c5:m<(n:Int):=c5;obtain⟨xt,jP,ey,-⟩:=aM ht;obtain⟨xe,qA,-,hsz,-⟩:=aM hi;obtain⟨vs,lJ,hvs⟩:=afi hE (hr.ev x) hx;obtain⟨u,hu,hv⟩:=adm hxs hvs m.toNat om;refine fV (f:=fun ρ=>Instr.index t (ρ x) (ρ ix)) (by simp [execOp,ho]) ⟨u,hv,fun w' hs=>?_⟩;rw [lJ,Tb];unfold Instr.index asIntOf part;have h3:(0<=m/\m<((n:Nat):Int)):=⟨c4,c5⟩;simp at hu;simp only [jf,pe,jG,aQ ey,h3,and_self,if_true,fy qA,hsz,c1,SL,S5 hi,c2];simp [hu]
def Tz(P:bh)(ty:aI->O Ty)(st:TS E)(o:Op):O (Bool×TV E):=match Tw P ty st o with
 | some x=>some x
 | none=>match Tx P st o with
  | some x=>some x
  | none=>YS P ty st o
theorem QX(hE:E.Ok)(hr:Rel E w0 G0 st a w G){c:Bool}(h:Tz P ty st o.op=some (c,d))(hc:c=true):jw P a w G o d:=by
 unfold Tz at h;split at h
 ·rename_i x hx
  cases h;exact acs hE hr hx hc
 ·split at h
  ·rename_i x hx
   cases h;exact acw hE hr hx hc
  ·exact acy hE hr h hc
def afk(P:bh)(st:TS E)(dst:O Nat):Op->O (Bool×TS E)
 | .store t x y=>match aU P t,st.ev x,(st.ev y).o4 with
  | some i,.ptr r off,some [u]=>match st.H[r]? with
   | some (.lC e cap T xs d)=>some (Nat.beq i.size 1&&Nat.beq off xs.length,{st with t:=cx st.t dst .any,H:=st.H.set r (.lC e cap T xs u),d:=r::st.d})
   | _=>none
  | _,_,_=>none
 | _=>none
theorem afl(hE:E.Ok)(hr:Rel E w0 G0 st a w G){c:Bool}(h:afk P st o.dst o.op=some (c,st'))(hc:c=true):jO P w0 G0 a w o st':=by
 cases ho:o.op<;>rw [ho] at h<;>simp [afk] at h<;>try trivial
 case store t x y=>
  split at h<;>try trivial
  rename_i i r off u ht hd hy;split at h<;>try trivial
  rename_i e cap T xs d hb;cases h;rw [cE] at hc;have c1:=eM hc.1;have c2:=eM hc.2;have zV:=hr.ev x;rw [hd] at zV;obtain⟨b,he,hat⟩:=zV;obtain⟨vs,hh,hsz,hxs,hdv,hlt⟩:=hr.box hat hb;obtain⟨hl,hl1⟩:=sK hE (hr.ev y) hy;have hlen:(a.eval y).cells.toList.length=1:=by rw [hl.length];rfl
  have hlen':(a.eval y).cells.size=i.size:=by rw [c1];simpa using hlen
  obtain⟨v,hv⟩:∃v,(a.eval y).cells.toList=[v]:=by
   match hq:(a.eval y).cells.toList,hlen with
   | [v],_=>exact⟨v,rfl⟩
  obtain⟨xt,jP,-,aqQ,-⟩:=aM ht;have hfit:xs.length+0+(a.eval y).cells.toList.length<=vs.size:=by rw [hsz];omega
  have Ti:=run_storeCells_at (P:=P) b xs.length e (a.eval y).cells.toList 0 vs w hh hfit (fun v hv=>hl1 v (by simpa using hv));obtain⟨new,hnw⟩:∃new,new=(vs.toList.take xs.length++(a.eval y).cells.toList++vs.toList.drop (xs.length+(a.eval y).cells.toList.length)).toArray:=⟨_,rfl⟩
  have hrun:(execOp a.eval o).run P w=.ok .skip (w.setRow b new):=by
   simp [execOp,ho,Instr.storeAt,Instr.sureAddr,he,storeVar,fy jP]
   simp_all
  have hnew:(w.setRow b new).heap[b]? = some (.cells new e (0,0)):=setRow_heap w b vs _ e _ hh;have Eb:∀b',b'≠b->(w.setRow b new).heap[b']? = w.heap[b']?:=fun b' hb'=>setRow_other w b b' _ hb';have uA:new.size=cap:=by grind
  have NX:∀q,new.getD q undef=if q=xs.length then v else vs.getD q undef:=by
   intro q;rw [Pm,Pm];have htl:(vs.toList.take xs.length).length=xs.length:=by grind
   by_cases h1:q<xs.length
   ·grind
   ·by_cases h2:q=xs.length
    ·simp_all
    ·rw [if_neg h2]
     grind
  have hR:=hr.yG (w':=w.setRow b new) hat si rfl rfl rfl Eb (x:=.lC e cap T xs u) (fun hg=>by
   refine⟨new,hnew,uA,fun q x hx=>?_,?_,hlt⟩
   ·have hq:=(eV.1 hx).1
    rw [NX,if_neg om];exact (hxs q x hx).mono hg
   ·rw [NX,if_pos rfl]
    have:=hl.mono hg;rw [hv] at this;obtain⟨u',us,e1,h1,-⟩:=this.cons_inv;cases e1;exact h1)
  exact⟨_,undef,_,G,hrun,.inr ⟨rfl,rfl⟩,hR.put (by simp [VT]) o.dst⟩
def aaa(P:bh)(ty:aI->O Ty)(st:TS E)(dst:O Nat)(op:Op):O (Bool×TS E):=match Z7 P ty st dst op with
 | some r=>some r
 | none=>match afg P ty st dst op with
  | some r=>some r
  | none=>afk P st dst op
theorem afm(hE:E.Ok)(hr:Rel E w0 G0 st a w G){c:Bool}(h:aaa P ty st o.dst o.op=some (c,st'))(hc:c=true):jO P w0 G0 a w o st':=by
 grind [aaa,afb,afh,afl]
inductive aab where
 | ptr|iface|func|slice|map
 deriving DecidableEq
def aab.val:aab->Value
 | .ptr=>.pointer none
 | .iface=>.nilIface
 | .func=>.nilFunc
 | .slice=>.slice none 0 0
 | .map=>.map none
def ajp:Value->O aab
 | .pointer none=>some .ptr
 | .nilIface=>some .iface
 | .nilFunc=>some .func
 | .slice none 0 0=>some .slice
 | .map none=>some .map
 | _=>none
theorem al5{k:aab}(h:ajp v=some k):v=k.val:=by
 unfold ajp at h;split at h<;>cases h<;>rfl
inductive CT where
 | dat (t:Ty)
 | any
 | ptr (r off:Nat)
 | p9 (r off:Nat)
 | jq (r:Nat)
 | ux (r:Nat)
 | cA (j:Nat) (t:Ty)
 | eu (j:Nat)
 | func (f:FuncId) (caps:List (Nat×Nat))
 | nil (k:aab)
 | sH (t:Ty) (off:Nat)
 | iface (ty:TypeId) (t:Ty)
 | ir (j k:Nat)
 | tU (t:Ty)
 | lb (b:Bool)
 | li (k:IntKind) (n:Int)
 | pk (t:Ty)
def CT.pk? : CT->O Ty
 | .pk t=>some t
 | _=>none
inductive PT where
 | one (c:CT)
 | agg (cs:List CT)
 | dz (cs:List CT)
inductive BT where
 | cells (ty:TypeId) (cs:List CT)
 | map (kt vt:Ty)
 | iter
 | loop (y:Nat) (cs:List CT)
def CT.tys:CT->J Ty
 | .dat t=>[t]
 | .p9 _ _=>[.bool]
 | .cA _ t=>[.bn t]
 | .sH t _=>[t]
 | .iface _ t=>[t]
 | .tU t=>[.bn t]
 | .pk t=>[t]
 | _=>[]
def CT.aac:J CT->J Ty
 | []=>[]
 | c::cs=>c.tys++aac cs
def PT.tys:PT->J Ty
 | .one c=>c.tys
 | .agg cs=>CT.aac cs
 | .dz cs=>CT.aac cs
def BT.tys:BT->J Ty
 | .cells _ cs=>CT.aac cs
 | .loop _ cs=>CT.aac cs
 | .map kt vt=>[.bn (.pair kt vt)]
 | .iter=>[.str,.int .i64]
abbrev Lf(E:TEnv):=(t:Ty)×t.den E.D
@[reducible] def dens (E : TEnv) : J Ty -> Type
 | []=>Unit
 | [t]=>t.den E.D
 | t::u::ts=>t.den E.D×dens E (u::ts)
def YT(t:Ty)(x:Lf E):O (t.den E.D):=if h:x.1=t then some (h▸x.2) else none
def getAll:(ts:J Ty)->J (Lf E)->O (dens E ts)
 | [],[]=>some ()
 | [],_::_=>none
 | [t],[x]=>YT t x
 | [_],[]=>none
 | [_],_::_::_=>none
 | t::u::ts,x::xs=>match YT t x,getAll (u::ts) xs with
  | some y,some ys=>some (y,ys)
  | _,_=>none
 | _::_::_,[]=>none
def aP:(ts:J Ty)->dens E ts->J (Lf E)
 | [],_=>[]
 | [t],x=>[⟨t,x⟩]
 | t::u::ts,x=>⟨t,x.1⟩::aP (u::ts) x.2
theorem aad{t:Ty}{x:Lf E}{y:t.den E.D}(h:YT t x=some y):x=⟨t,y⟩:=by
 grind [YT]
theorem Dr:∀(ts:J Ty){ls:J (Lf E)}{x:dens E ts},getAll ts ls=some x->aP ts x=ls
 | [],[],_,_=>rfl
 | [],_::_,_,h=>by cases h
 | [t],[l],x,h=>by grind [getAll,aP,aad]
 | [_],[],_,h=>by cases h
 | [_],_::_::_,_,h=>by cases h
 | t::u::ts,l::ls,x,h=>by
  simp [getAll] at h;split at h<;>try trivial
  rename_i y ys h1 h2;cases h
  simp [aP,aad h1,Dr (u::ts) h2]
 | _::_::_,[],_,h=>by cases h
structure Rn where
 b:List Nat
 g:List Nat
 v:List Nat
def vT(a b c d:Nat):Bool:=Nat.beq a b&&Nat.beq c d
def NY(n:Rn):J (Nat×Nat)->J (TV E)->Bool
 | [],[]=>true
 | (r,off)::cs,d::ds=>(match n.b[r]?,d with
  | some r',.ptr r'' off'=>vT r' r'' off off'
  | _,_=>false)&&NY n cs ds
 | _,_=>false
def F5(n:Rn):J (Nat×Nat)->J (TV E)
 | []=>[]
 | (r,off)::cs=>(match n.b[r]? with|some r'=>.ptr r' off|none=>.any)::F5 n cs
def CT.get(n:Rn):CT->TV E->O (J (Lf E))
 | .dat t,d=>match d.get t with|some x=>some [⟨t,x⟩]|none=>none
 | .any,_=>some []
 | .ptr r off,.ptr r' off'=>match n.b[r]? with
  | some r''=>cond (vT r'' r' off off') (some []) none
  | none=>none
 | .p9 r off,.p9 b r' off'=>match n.b[r]? with
  | some r''=>cond (vT r'' r' off off') (some [⟨.bool,b⟩]) none
  | none=>none
 | .p9 r off,.ptr r' off'=>match n.b[r]? with
  | some r''=>cond (vT r'' r' off off') (some [⟨.bool,true⟩]) none
  | none=>none
 | .p9 _ _,.val (.pointer none)=>some [⟨.bool,false⟩]
 | .jq r,.jq r'=>match n.b[r]? with
  | some r''=>cond (Nat.beq r'' r') (some []) none
  | none=>none
 | .ux r,.ux r'=>match n.b[r]? with
  | some r''=>cond (Nat.beq r'' r') (some []) none
  | none=>none
 | .cA j t,.cA j' aF t' xs=>match n.g[j]?,n.v[j]? with
  | some Ig,some v=>if h:t'=t then cond (vT Ig j' v aF) (some [⟨.bn t,(h▸xs:J (t.den E.D))⟩]) none else none
  | _,_=>none
 | .func f caps,.func (.func f') cs=>cond (Nat.beq f f'&&NY n caps cs) (some []) none
 | .nil k,.val v=>match ajp v with|some k'=>cond (decide (k=k')) (some []) none|none=>none
 | .sH t off,.sH t' y off'=>if h:t'=t then cond (Nat.beq off off') (some [⟨t,h▸y⟩]) none else none
 | .iface ty t,.iface ty' d=>match d.get t with|some x=>cond (Nat.beq ty ty') (some [⟨t,x⟩]) none|none=>none
 | .eu j,.eu j' aF=>match n.g[j]?,n.v[j]? with
  | some Ig,some v=>cond (vT Ig j' v aF) (some []) none
  | _,_=>none
 | .ir j k,.ir j' aF k' i off=>match n.g[j]?,n.v[j]? with
  | some Ig,some v=>cond (vT Ig j' v aF&&(Nat.beq k k'&&vT i 0 off 0)) (some []) none
  | _,_=>none
 | .tU t,.tU t' xs=>if h:t'=t then some [⟨.bn t,(h▸xs:J (t.den E.D))⟩] else none
 | .lb b,.dat .bool x=>cond (b==x) (some []) none
 | .li k n,.dat (.int k') x=>cond (decide (k=k')&&decide (n=x)) (some []) none
 | _,_=>none
def CT.put(n:Rn):CT->J (Lf E)->TV E×J (Lf E)
 | .dat _,l::ls=>(.dat l.1 l.2,ls)
 | .ptr r off,ls=>(match n.b[r]? with|some r'=>.ptr r' off|none=>.any,ls)
 | .p9 r off,l::ls=>(match n.b[r]?,l with|some r',⟨.bool,b⟩=>.p9 b r' off|_,_=>.any,ls)
 | .jq r,ls=>(match n.b[r]? with|some r'=>.jq r'|none=>.any,ls)
 | .ux r,ls=>(match n.b[r]? with|some r'=>.ux r'|none=>.any,ls)
 | .cA j _,l::ls=>(match n.g[j]?,n.v[j]?,l with|some j',some v,⟨.bn t,xs⟩=>.cA j' v t xs|_,_,_=>.any,ls)
 | .func f caps,ls=>(.func (.func f) (F5 n caps),ls)
 | .nil k,ls=>(.val k.val,ls)
 | .sH _ off,l::ls=>(.sH l.1 l.2 off,ls)
 | .iface ty _,l::ls=>(.iface ty (.dat l.1 l.2),ls)
 | .eu j,ls=>(match n.g[j]?,n.v[j]? with|some j',some v=>.eu j' v|_,_=>.any,ls)
 | .ir j k,ls=>(match n.g[j]?,n.v[j]? with|some j',some v=>.ir j' v k 0 0|_,_=>.any,ls)
 | .tU _,l::ls=>(match l with|⟨.bn t,xs⟩=>.tU t xs|_=>.any,ls)
 | .lb b,ls=>(.dat .bool b,ls)
 | .li k n,ls=>(.dat (.int k) n,ls)
 | _,ls=>(.any,ls)
def CT.an1(t:Ty)(ds:J (TV E)):O (t.den E.D×J (TV E)):=match NH E 4 t ds with
 | some p=>match H7 E 4 t p.1 with
  | some _=>some p
  | none=>none
 | none=>none
def CT.La:J (Lf E)->J (TV E)×J (Lf E)
 | l::ls=>(match H7 E 4 l.1 l.2 with|some cs=>cs|none=>[],ls)
 | []=>([],[])
def CT.Jg(n:Rn):J CT->J (TV E)->O (J (Lf E))
 | [],[]=>some []
 | [],_::_=>none
 | c::cs,ds=>match c.pk? with
  | some t=>match CT.an1 t ds with
   | some p=>match Jg n cs p.2 with
    | some ls=>some (⟨t,p.1⟩::ls)
    | none=>none
   | none=>none
  | none=>match ds with
   | d::ds=>match c.get n d,Jg n cs ds with
    | some l,some ls=>some (l++ls)
    | _,_=>none
   | []=>none
def CT.pH(n:Rn):J CT->J (Lf E)->J (TV E)×J (Lf E)
 | [],ls=>([],ls)
 | c::cs,ls=>match c.pk? with
  | some _=>((CT.La ls).1++(pH n cs (CT.La ls).2).1,(pH n cs (CT.La ls).2).2)
  | none=>((c.put n ls).1::(pH n cs (c.put n ls).2).1,(pH n cs (c.put n ls).2).2)
def PT.get(n:Rn):PT->TV E->O (J (Lf E))
 | .one c,d=>c.get n d
 | .agg cs,.agg ds=>CT.Jg n cs ds
 | .dz cs,.tuple ds=>CT.Jg n cs ds
 | _,_=>none
def PT.put(n:Rn):PT->J (Lf E)->TV E×J (Lf E)
 | .one c,ls=>c.put n ls
 | .agg cs,ls=>(.agg (CT.pH n cs ls).1,(CT.pH n cs ls).2)
 | .dz cs,ls=>(.tuple (CT.pH n cs ls).1,(CT.pH n cs ls).2)
def BT.get(n:Rn):BT->fM E->O (J (Lf E))
 | .cells ty cs,.cells ty' ds=>cond (Nat.beq ty ty') (CT.Jg n cs ds) none
 | .map kt vt,.map kt' vt' m=>if h:Ty.bn (.pair kt' vt')=.bn (.pair kt vt) then some [⟨.bn (.pair kt vt),(h▸(show (Ty.bn (.pair kt' vt')).den E.D from m):(Ty.bn (.pair kt vt)).den E.D)⟩] else none
 | .iter,.iter s pos=>some [⟨.str,s⟩,⟨.int .i64,(pos:Int)⟩]
 | .loop y cs,.loop y' ds=>cond (Nat.beq y y') (CT.Jg n cs ds) none
 | _,_=>none
def BT.put(n:Rn):BT->J (Lf E)->fM E×J (Lf E)
 | .cells ty cs,ls=>(.cells ty (CT.pH n cs ls).1,(CT.pH n cs ls).2)
 | .loop y cs,ls=>(.loop y (CT.pH n cs ls).1,(CT.pH n cs ls).2)
 | .map _ _,l::ls=>(match l with|⟨.bn (.pair kt vt),m⟩=>.map kt vt m|_=>.iter [] 0,ls)
 | .iter,l::l'::ls=>(match l,l' with|⟨.str,s⟩,⟨.int _,p⟩=>.iter s (Int.toNat p)|_,_=>.iter [] 0,ls)
 | _,ls=>(.iter [] 0,ls)
structure Cv(w:World)(G:bq)(n:Rn)(G2:bq)(n2:Rn):Prop where
 pr:∀b o,G.pr b o->G2.pr b o
 i:∀(r r' b:Nat),n.b[r]? = some r'->G.i[r']? = some b->∃r2,n2.b[r]? = some r2/\G2.i[r2]? = some b
 g:∀(j j' v:Nat) x h,n.g[j]? = some j'->n.v[j]? = some v->G.g[j']? = some (x,h)->x.aF=v/\∃j2 v2 x2,n2.g[j]? = some j2/\n2.v[j]? = some v2/\G2.g[j2]? = some (x2,h)/\x2.aF=v2
theorem zY{a c d:Nat}(h:vT a b c d=true):a=b/\c=d:=by
 simp_all [vT,cE,eM]
variable{G2:bq}{n n2:Rn}{ls rest:J (Lf E)}
theorem VT.sP{t:Ty}{x:t.den E.D}(h:VT E w G (.dat t x) v)(hp:∀b o,G.pr b o->G2.pr b o):VT E w G2 (.dat t x) v:=by
 cases ha:t.isAgg
 ·exact .PB ha ((h.atom ha).mono hp (fun _ _ _ _ h=>h))
 ·obtain⟨vs,rfl,h0⟩:=h.aeZ ha
  simp only [VT,ha];exact⟨vs,rfl,h0.mono hp (fun _ _ _ _ h=>h)⟩
theorem adn(hL:Cv w G n G2 n2):∀(caps:J (Nat×Nat)){cs:J (TV E)}{vs:J Value},NY n caps cs=true->bI E w G cs vs->bI E w G2 (F5 n2 caps:J (TV E)) vs
 | [],[],vs,_,h=>h
 | (r,off)::caps,d::ds,vs,hc,h=>by
  simp [NY] at hc;obtain⟨u,us,rfl,h1,h2⟩:=h.cons_inv;obtain⟨hc1,JY⟩:=hc;split at hc1<;>try trivial
  rename_i r' r'' off' hr;obtain⟨rfl,rfl⟩:=zY hc1;obtain⟨b,rfl,hb⟩:=h1;obtain⟨r2,hr2,nN⟩:=hL.i r r' b hr hb;refine .cons ?_ (adn hL caps JY h2)
  simp_all [VT]
 | [],_::_,_,hc,_=>by cases hc
 | (_,_)::_,[],_,hc,_=>by cases hc
theorem CT.sound(hL:Cv w G n G2 n2){c:CT}(h:c.get n d=some ls)(hv:VT E w G d v):
  (c.put n2 (ls++rest)).2=rest/\VT E w G2 (c.put n2 (ls++rest)).1 v:=by
 unfold CT.get at h;split at h<;>try trivial
 ·split at h<;>try trivial
  rename_i t x hx;cases h;exact⟨rfl,(TV.uy hx hv).sP hL.pr⟩
 ·simp_all [CT.put,o9,vr,VT]
 ·rename_i r off r' off'
  split at h<;>try trivial
  rename_i r'' hr;cases hb:vT r'' r' off off'<;>rw [hb] at h<;>simp only [aZ,aK] at h
  ·cases h
  obtain⟨rfl,rfl⟩:=zY hb;obtain⟨b,rfl,hb⟩:=hv;obtain⟨r2,hr2,nN⟩:=hL.i r r'' b hr hb
  simp_all [CT.put,o9,vr,VT]
 ·rename_i r off bb r' off'
  split at h<;>try trivial
  rename_i r'' hr;cases hb:vT r'' r' off off'<;>rw [hb] at h<;>simp only [aZ,aK] at h
  ·cases h
  cases h;obtain⟨rfl,rfl⟩:=zY hb;cases bb<;>simp only [VT] at hv
  ·simp only [CT.put,zw,o9,vr]
   grind [VT]
  ·obtain⟨b,rfl,hb⟩:=hv
   obtain⟨r2,hr2,nN⟩:=hL.i r r'' b hr hb
   simp_all [CT.put,zw,o9,vr,VT]
 ·rename_i r off r' off'
  split at h<;>try trivial
  rename_i r'' hr;cases hb:vT r'' r' off off'<;>rw [hb] at h<;>simp only [aZ,aK] at h
  ·cases h
  cases h;obtain⟨rfl,rfl⟩:=zY hb;obtain⟨b,rfl,hb⟩:=hv;obtain⟨r2,hr2,nN⟩:=hL.i r r'' b hr hb
  simp_all [CT.put,zw,o9,vr,VT]
 ·cases h
  simp only [CT.put,zw,o9,vr]
  grind [VT]
 ·rename_i r r'
  split at h<;>try trivial
  rename_i r'' hr;cases hb:Nat.beq r'' r'<;>rw [hb] at h<;>simp only [aZ,aK] at h
  ·cases h
  obtain rfl:=eM hb;obtain⟨b,rfl,hb⟩:=hv;obtain⟨r2,hr2,nN⟩:=hL.i r r'' b hr hb
  simp_all [CT.put,o9,vr,VT]
 ·rename_i r r'
  split at h<;>try trivial
  rename_i r'' hr;cases hb:Nat.beq r'' r'<;>rw [hb] at h<;>simp only [aZ,aK] at h
  ·cases h
  obtain rfl:=eM hb;obtain⟨b,rfl,hb⟩:=hv;obtain⟨r2,hr2,nN⟩:=hL.i r r'' b hr hb
  simp_all [CT.put,o9,vr,VT]
 ·rename_i j t j' aF t' xs
  split at h<;>try trivial
  rename_i Ig vv hj Ds;split at h<;>try trivial
  rename_i ht;subst ht;cases hb:vT Ig j' vv aF<;>rw [hb] at h<;>simp only [aZ,aK] at h
  ·cases h
  cases h;obtain⟨rfl,rfl⟩:=zY hb;obtain⟨AG,x,hh,hg,hle,heq⟩:=hv;obtain⟨TA,j2,v2,x2,q1,q2,q3,q4⟩:=hL.g j Ig vv x hh hj Ds hg;simp only [CT.put,q1,q2,zw,o9,vr,VT];refine⟨AG.mono hL.pr (fun _ _ _ _ h=>h),x2,hh,q3,om,fun _=>heq TA.symm⟩
 ·rename_i f caps f' cs
  cases hb:(Nat.beq f f'&&NY n caps cs)<;>rw [hb] at h<;>simp only [aZ,aK] at h
  ·cases h
  rw [cE] at hb;obtain rfl:=eM hb.1;simp only [VT] at hv;simp only [CT.put,o9,vr,VT]
  grind [adn]
 ·rename_i k u
  split at h<;>try trivial
  rename_i k' hk;cases hb:decide (k=k')<;>rw [hb] at h<;>simp only [aZ,aK] at h
  ·cases h
  cases h;simp only [fL] at hb;subst hb;subst hv;simp only [CT.put,o9,vr,VT];exact al5 hk
 ·rename_i t off t' y off'
  split at h<;>try trivial
  rename_i ht;subst ht;cases hb:Nat.beq off off'<;>rw [hb] at h<;>simp only [aZ,aK] at h
  ·cases h
  cases h;obtain rfl:=eM hb;obtain⟨b,o,c,rfl,h1,h2⟩:=hv;simp only [CT.put,zw,o9,vr,VT];exact⟨b,o,c,rfl,h1.mono hL.pr (fun _ _ _ _ h=>h),fun l u hl=>⟨hL.pr _ _ (h2 l u hl).1,(h2 l u hl).2⟩⟩
 ·rename_i ty t ty' d'
  split at h<;>try trivial
  rename_i x hx;cases hb:Nat.beq ty ty'<;>rw [hb] at h<;>simp only [aZ,aK] at h
  ·cases h
  cases h;obtain rfl:=eM hb;obtain⟨u,rfl,hu⟩:=hv;simp only [CT.put,zw,o9,vr,VT];exact⟨u,rfl,(TV.uy hx hu).sP hL.pr⟩
 ·rename_i j j' aF
  split at h<;>try trivial
  rename_i Ig vv hj Ds;cases hb:vT Ig j' vv aF<;>rw [hb] at h<;>simp only [aZ,aK] at h
  ·cases h
  obtain⟨rfl,rfl⟩:=zY hb;obtain⟨x,hh,hg,hle,h1,heq⟩:=hv;obtain⟨TA,j2,v2,x2,q1,q2,q3,q4⟩:=hL.g j Ig vv x hh hj Ds hg;simp only [CT.put,q1,q2,o9,vr,VT]
  grind
 ·rename_i j k j' aF k' i off
  split at h<;>try trivial
  rename_i Ig vv hj Ds;cases hb:(vT Ig j' vv aF&&(Nat.beq k k'&&vT i 0 off 0))<;>rw [hb] at h<;>simp only [aZ,aK] at h
  ·cases h
  rw [cE,cE] at hb;obtain⟨vz,nN,ZG⟩:=hb;obtain⟨rfl,rfl⟩:=zY vz;obtain⟨rfl,rfl⟩:=zY ZG;obtain⟨x,hh,hg,hle,h1,heq⟩:=hv;obtain⟨TA,j2,v2,x2,q1,q2,q3,q4⟩:=hL.g j Ig vv x hh hj Ds hg;simp only [CT.put,q1,q2,o9,vr,VT]
  grind
 ·split at h<;>try trivial
  rename_i ht;subst ht;cases h;obtain⟨vs,rfl,h1,h2⟩:=hv;simp only [CT.put,zw,o9,vr,VT];exact⟨vs,rfl,h1,h2.mono hL.pr (fun _ _ _ _ h=>h)⟩
 ·rename_i b x
  cases hb:(b==x)<;>rw [hb] at h<;>simp only [aZ,aK] at h
  ·cases h
  cases h;rw [uW] at hb;subst hb;refine⟨rfl,?_⟩;rw [VT.mh hv];exact .bool _ _ _
 ·rename_i k n k' x
  cases hb:(decide (k=k')&&decide (n=x))<;>rw [hb] at h<;>simp only [aZ,aK] at h
  ·cases h
  cases h;rw [cE,fL,fL] at hb;obtain⟨rfl,rfl⟩:=hb;refine⟨rfl,?_⟩;rw [VT.fU hv];exact .int _ _ _ _
theorem CT.NZ(hE:E.Ok)(hL:Cv w G n G2 n2):∀ {cs:J CT}{ds:J (TV E)}{ls rest:J (Lf E)}{vs:J Value},CT.Jg n cs ds=some ls->bI E w G ds vs ->
  (CT.pH n2 cs (ls++rest)).2=rest/\bI E w G2 (CT.pH n2 cs (ls++rest)).1 vs
 | [],[],ls,rest,vs,h,hv=>by cases h;simp [bI] at hv;subst hv;exact⟨rfl,bI.nil⟩
 | c::cs,ds,ls,rest,vs,h,hv=>by
  unfold CT.Jg at h;unfold CT.pH;split at h
  ·rename_i t ht
   split at h<;>try trivial
   rename_i p hp;split at h<;>try trivial
   rename_i ls' h2;cases h;unfold CT.an1 at hp;split at hp<;>try trivial
   rename_i p' hp';split at hp<;>try trivial
   rename_i fc WT;cases hp;obtain⟨us,ts,rfl,q1,q2⟩:=AJ hE 4 t hv hp';obtain⟨e3,e4⟩:=CT.NZ hE hL h2 q2;simp [ht,CT.La,WT];exact⟨e3,(yF hE 4 t p.1 (q1.mono hL.pr (fun _ _ _ _ h=>h)) WT).append e4⟩
  ·rename_i ht
   split at h<;>try trivial
   split at h<;>try trivial
   rename_i l ls' h1 h2;cases h;obtain⟨u,us,rfl,q1,q2⟩:=hv.cons_inv;obtain⟨e1,e2⟩:=CT.sound hL (rest:=ls'++rest) h1 q1;obtain⟨e3,e4⟩:=CT.NZ hE hL h2 q2;simp [ht,e1]
   exact⟨e3,.cons e2 e4⟩
 | [],_::_,_,_,_,h,_=>by cases h
theorem PT.sound(hE:E.Ok)(hL:Cv w G n G2 n2){p:PT}(h:p.get n d=some ls)(hv:VT E w G d v):
  (p.put n2 (ls++rest)).2=rest/\VT E w G2 (p.put n2 (ls++rest)).1 v:=by
 unfold PT.get at h
 grind [CT.sound,VT,CT.NZ,PT.put]
theorem gj.pr{kt vt:Ty}(hp:∀b o,G.pr b o->G2.pr b o):∀ {es:J MapEntry}{m:J (kt.den E.D×vt.den E.D)},gj E w G kt vt es m->gj E w G2 kt vt es m
 | [],[],_=>trivial
 | _::_,_::_,h=>⟨h.1.sP hp,h.2.1.sP hp,gj.pr hp h.2.2⟩
 | [],_::_,h=>h.elim
 | _::_,[],h=>h.elim
theorem BT.sound(hE:E.Ok)(hL:Cv w G n G2 n2){t:BT}{x:fM E}(h:t.get n x=some ls)(hv:jS E w G b x):
  (t.put n2 (ls++rest)).2=rest/\jS E w G2 b (t.put n2 (ls++rest)).1:=by
 unfold BT.get at h;split at h<;>try trivial
 ·rename_i ty cs ty' ds
  cases hb:Nat.beq ty ty'<;>rw [hb] at h<;>simp only [aZ,aK] at h
  ·cases h
  obtain rfl:=eM hb;obtain⟨vs,h1,h2,h3⟩:=hv;obtain⟨e1,e2⟩:=CT.NZ hE hL h h3;exact⟨e1,vs,h1,h2,e2⟩
 ·split at h<;>try trivial
  rename_i he;have he':=he;obtain⟨rfl,rfl⟩:=he';cases h;obtain⟨es,clock,h1,h2,h3⟩:=hv;refine⟨rfl,?_⟩;exact⟨es,clock,h1,h2,h3.pr hL.pr⟩
 ·cases h
  exact⟨rfl,hv⟩
 ·rename_i y cs y' ds
  cases hb:Nat.beq y y'<;>rw [hb] at h<;>simp only [aZ,aK] at h
  ·cases h
  obtain rfl:=eM hb;obtain⟨Y,fn,tmps,D,h0,h1,h2⟩:=hv;obtain⟨e1,e2⟩:=CT.NZ hE hL h h2;exact⟨e1,Y,fn,tmps,D,h0,h1,e2⟩
structure Cut where
 vars:List (Nat×PT)
 boxes:List (Option BT)
 rows:List (Option (TypeId×Nat))
 soft:List (Nat×Ty)
def ado:J (Nat×PT)->J Ty
 | []=>[]
 | v::vs=>v.2.tys++ado vs
def Lb:J (O BT)->J Ty
 | []=>[]
 | some b::bs=>b.tys++Lb bs
 | none::bs=>Lb bs
def PG:J (Nat×Ty)->J Ty
 | []=>[]
 | p::ps=>.bn p.2::PG ps
def Cut.tys(c:Cut):J Ty:=ado c.vars++(Lb c.boxes++PG c.soft)
def J7(f:Nat->O Nat)(cs:J (Nat×Cn E)):J (Nat×Ty)->O (J (Lf E))
 | []=>some []
 | p::ps=>match f p.1 with
  | some j=>match oM cs j,J7 f cs ps with
   | some c,some ls=>if h:c.1=p.2 then some (⟨.bn p.2,(h▸c.2:J (p.2.den E.D))⟩::ls) else none
   | _,_=>none
  | none=>none
def nu(f:Nat->O Nat):J (Nat×Ty)->J (Lf E)->J (Nat×Cn E)
 | [],_=>[]
 | p::ps,l::ls=>match f p.1,l with
  | some j,⟨.bn t,xs⟩=>(j,⟨t,xs⟩)::nu f ps ls
  | _,_=>nu f ps ls
 | _::_,[]=>[]
theorem CZ{f f2:Nat->O Nat}{cs:J (Nat×Cn E)}:∀ {ps:J (Nat×Ty)}{ls:J (Lf E)}(rest:J (Lf E)),J7 f cs ps=some ls->∀ {i:Nat}{c:Cn E},(i,c)∈nu f2 ps (ls++rest) ->
  ∃q j,(∃t,(q,t)∈ps)/\f q=some j/\f2 q=some i/\(j,c)∈cs
 | [],ls,rest,h,i,c,hm=>by cases hm
 | p::ps,ls,rest,h,i,c,hm=>by
  simp [J7] at h;split at h<;>try trivial
  rename_i j hj;split at h<;>try trivial
  rename_i c' ls' h1 h2;split at h<;>try trivial
  rename_i ht;cases h;obtain⟨t',xs⟩:=c';obtain⟨q,t⟩:=p;dsimp only at ht;subst ht;simp [nu] at hm
  cases hf:f2 q with
  | none=>
   rw [hf] at hm;obtain⟨q',j',⟨t1,e0⟩,e1⟩:=CZ rest h2 hm
   exact⟨q',j',⟨t1,kf _ e0⟩,e1⟩
  | some i'=>
   rw [hf] at hm;rcases iE.1 hm with e|hm
   ·cases e
    exact⟨q,j,⟨t',qD ..⟩,hj,hf,R1 h1⟩
   ·obtain⟨q',j',⟨t1,e0⟩,e1⟩:=CZ rest h2 hm
    exact⟨q',j',⟨t1,kf _ e0⟩,e1⟩
def below(n:Nat):J (Nat×Ty)->Bool
 | []=>true
 | p::ps=>Nat.blt p.1 n&&below n ps
theorem aae{n:Nat}:∀ {ps:J (Nat×Ty)},below n ps=true->∀q t,(q,t)∈ps->q<n
 | [],_,q,t,h=>by cases h
 | p::ps,hb,q,t,h=>by
  simp [below] at hb;rcases iE.1 h with e|h
  ·rw [<-e] at hb;simp_all
  ·exact aae hb.2 q t h
def yI:J (O (aI×Nat))->J cH->J cH->Bool
 | [],_,_=>true
 | none::rs,x::g0,y::g=>(Nat.beq x.aF y.aF&&(Nat.beq x.e y.e&&Nat.beq x.k y.k))&&yI rs g0 g
 | some p::rs,x::g0,y::g=>(Nat.beq p.1 y.e&&Nat.beq p.2 y.k)&&yI rs g0 g
 | some p::rs,[],y::g=>(Nat.beq p.1 y.e&&Nat.beq p.2 y.k)&&yI rs [] g
 | _,_,_=>false
def dX:J (O (aI×Nat))->J cH->J cH
 | [],_=>[]
 | none::rs,x::g0=>x::dX rs g0
 | some p::rs,x::g0=>⟨x.aF+1,p.1,p.2⟩::dX rs g0
 | some p::rs,[]=>⟨0,p.1,p.2⟩::dX rs []
 | none::rs,[]=>⟨0,0,0⟩::dX rs []
def gL:J (O (aI×Nat))->J cH->J (cH×Value)->J (cH×Value)
 | none::rs,_::g0,y::gs=>y::gL rs g0 gs
 | some _::rs,x::g0,y::gs=>({y.1 with aF:=x.aF+1},y.2)::gL rs g0 gs
 | some _::rs,[],y::gs=>({y.1 with aF:=0},y.2)::gL rs [] gs
 | _,_,_=>[]
theorem Ih:∀(rows:J (O (aI×Nat)))(g0:J cH)(gs:J (cH×Value)),yI rows g0 (gs.map (·.1))=true ->
  (gL rows g0 gs).map (·.1)=dX rows g0/\(gL rows g0 gs).length=rows.length/\rows.length<=gs.length /\
  ∀(j:Nat) y,gs[j]? = some y->j<rows.length->∃y2,(gL rows g0 gs)[j]? = some y2/\y2.2=y.2/\y2.1.e=y.1.e/\y2.1.k=y.1.k/\∀x0,g0[j]? = some x0->y2.1.aF=y.1.aF\/x0.aF<y2.1.aF
 | [],g0,gs,h=>by
  simp_all [gL,dX]
 | none::rs,x::g0,y::gs,h=>by
  simp [yI] at h;obtain⟨⟨h1,h2,h3⟩,h4⟩:=h;obtain⟨i1,i2,i3,i4⟩:=Ih rs g0 gs h4
  have hxy:y.1=x:=by
   obtain⟨a',b',c'⟩:=x
   simp_all
  grind [gL,dX]
 | some p::rs,x::g0,y::gs,h=>by
  simp only [jU,yI,cE] at h;obtain⟨⟨h1,h2⟩,h4⟩:=h;obtain⟨i1,i2,i3,i4⟩:=Ih rs g0 gs h4;have e1:=eM h1;have e2:=eM h2;refine⟨by grind [gL,dX],by simp [gL,i2],by simpa using i3,fun j z hz hj=>?_⟩
  cases j with
  | zero=>simp at hz;subst hz;exact⟨_,rfl,rfl,rfl,rfl,fun x0 hx=>by simp_all⟩
  | succ j=>grind [gL]
 | some p::rs,[],y::gs,h=>by
  simp only [jU,yI,cE] at h;obtain⟨⟨h1,h2⟩,h4⟩:=h;obtain⟨i1,i2,i3,i4⟩:=Ih rs [] gs h4;have e1:=eM h1;have e2:=eM h2;refine⟨by simp [gL,dX,i1,e1,e2],by simp [gL,i2],by simpa using i3,fun j z hz hj=>?_⟩
  cases j with
  | zero=>simp at hz;subst hz;exact⟨_,rfl,rfl,rfl,rfl,fun x0 hx=>by simp at hx⟩
  | succ j=>simpa [gL] using i4 j z (by simpa using hz) (by simpa using hj)
 | none::rs,[],gs,h=>by cases gs<;>cases h
 | none::rs,_::_,[],h=>by cases h
 | some _::rs,[],[],h=>by cases h
 | some _::rs,_::_,[],h=>by cases h
def PI(n:Rn)(st:TS E):J (Nat×PT)->O (J (Lf E))
 | []=>some []
 | (i,p)::vs=>match p.get n (st.at i),PI n st vs with
  | some l,some ls=>some (l++ls)
  | _,_=>none
def oN(n:Rn)(d:J Nat)(nb:Nat):Nat->J (O BT)->J (fM E)->O (J (Lf E))
 | _,[],_=>some []
 | r,none::bs,_::H=>cond (d.elem r || !(Nat.blt r nb)) none (oN n d nb (r+1) bs H)
 | r,some t::bs,x::H=>match t.get n x,oN n d nb (r+1) bs H with
  | some l,some ls=>some (l++ls)
  | _,_=>none
 | _,_::_,[]=>none
def since(d0 d:J Nat):J Nat:=d.take (d.length-d0.length)
theorem ahk(n d0:J Nat):since d0 (n++d0)=n:=by simp [since]
def Cut.leaves(c:Cut)(bR st:TS E):Option (J (Lf E)):=
 cond (below c.rows.length c.soft&&(Nat.ble bR.H.length c.boxes.length&&(Nat.ble bR.g.length c.rows.length&&yI c.rows bR.g st.g)))
  (match PI ⟨List.range c.boxes.length,List.range c.rows.length,st.g.map (·.aF)⟩ st c.vars,oN ⟨List.range c.boxes.length,List.range c.rows.length,st.g.map (·.aF)⟩ (since bR.d st.d) bR.H.length 0 c.boxes st.H,J7 some st.c c.soft with
   | some a,some b,some e=>some (a++(b++e))
   | _,_,_=>none) none
def nJ(W:J Nat):Nat->J (TV E)->J (TV E)
 | _,[]=>[]
 | i,d::ds=>cond (W.elem i) .any d::nJ W (i+1) ds
def mU(n:Rn):J (Nat×PT)->J (TV E)->J (Lf E)->J (TV E)×J (Lf E)
 | [],t,ls=>(t,ls)
 | (i,p)::vs,t,ls=>mU n vs (t.set i (p.put n ls).1) (p.put n ls).2
def eO(n:Rn):J (Option BT)->J (fM E)->J (Lf E)->J (fM E)
 | [],_,_=>[]
 | none::bs,H,ls=>(match H with|x::_=>x | []=>default)::eO n bs H.tail ls
 | some t::bs,H,ls=>(t.put n ls).1::eO n bs H.tail (t.put n ls).2
def pQ:J (O BT)->J (Lf E)->J (Lf E)
 | [],ls=>ls
 | none::bs,ls=>pQ bs ls
 | some t::bs,ls=>pQ bs (t.put ⟨[],[],[]⟩ ls).2
def Dt:Nat->J (O BT)->J Nat
 | _,[]=>[]
 | r,none::bs=>Dt (r+1) bs
 | r,some _::bs=>r::Dt (r+1) bs
def Cut.unpack(c:Cut)(W:J Nat)(bR:TS E)(ls:J (Lf E)):TS E:=
 let n:Rn:=⟨List.range c.boxes.length,List.range c.rows.length,(dX c.rows bR.g).map (·.aF)⟩
 {t:=(mU n c.vars (nJ W 0 bR.t) ls).1
  H:=eO n c.boxes bR.H (mU n c.vars (nJ W 0 bR.t) ls).2
  g:=dX c.rows bR.g
  d:=Dt 0 c.boxes++bR.d
  df:=bR.df
  c:=nu some c.soft (pQ c.boxes (mU n c.vars (nJ W 0 bR.t) ls).2)}
mutual
def TV.Bd(nb:Nat)(g:J cH):TV E->Prop
 | .ptr r _=>r<nb
 | .p9 b r _=>b=true->r<nb
 | .jq r=>r<nb
 | .ux r=>r<nb
 | .iq r _ _=>r<nb
 | .cA j aF _ _=>∃x,g[j]? = some x/\aF<=x.aF
 | .QO j aF _=>∃x,g[j]? = some x/\aF<=x.aF
 | .eu j aF=>∃x,g[j]? = some x/\aF<=x.aF
 | .ir j aF _ _ _=>∃x,g[j]? = some x/\aF<=x.aF
 | .tU _ _=>True
 | .func _ caps=>TV.Du nb g caps
 | .Gt _ fs=>TV.Du nb g fs
 | .iface _ d=>TV.Bd nb g d
 | .agg cs=>TV.Du nb g cs
 | .tuple ds=>TV.Du nb g ds
 | .any=>True
 | .dat _ _=>True
 | .sH _ _ _=>True
 | .val _=>True
def TV.Du(nb:Nat)(g:J cH):J (TV E)->Prop
 | []=>True
 | d::ds=>TV.Bd nb g d/\TV.Du nb g ds
end
variable{nb:Nat}{g0:J cH}
mutual
theorem VT.bd:∀ {d:TV E}{v:Value},VT E w G d v->TV.Bd G.i.length (G.g.map (·.1)) d
 | .any,_,_=>by simp only [TV.Bd]
 | .dat _ _,_,_=>by simp only [TV.Bd]
 | .sH _ _ _,_,_=>by simp only [TV.Bd]
 | .val _,_,_=>by simp only [TV.Bd]
 | .tU _ _,_,_=>by simp only [TV.Bd]
 | .ptr r off,v,h=>by
  simp only [VT] at h;simp only [TV.Bd];obtain⟨b,-,h⟩:=h
  exact (eV.1 h).1
 | .p9 c r off,v,h=>by
  simp only [TV.Bd];intro hc;subst hc;simp only [VT] at h;obtain⟨b,-,h⟩:=h
  exact (eV.1 h).1
 | .jq r,v,h=>by
  simp only [VT] at h;simp only [TV.Bd];obtain⟨b,-,h⟩:=h
  exact (eV.1 h).1
 | .ux r,v,h=>by
  simp only [VT] at h;simp only [TV.Bd];obtain⟨b,-,h⟩:=h
  exact (eV.1 h).1
 | .iq r n cap,v,h=>by
  simp only [VT] at h;simp only [TV.Bd];obtain⟨b,-,h⟩:=h
  exact (eV.1 h).1
 | .cA j aF t xs,v,h=>by
  simp only [VT] at h;simp only [TV.Bd];obtain⟨-,x,g,hg,hle,-⟩:=h
  exact⟨x,by simp [hg],hle⟩
 | .QO j aF l,v,h=>by
  simp only [VT] at h;simp only [TV.Bd];obtain⟨x,g,u,hg,hle,-⟩:=h
  exact⟨x,by simp [hg],hle⟩
 | .eu j aF,v,h=>by
  simp only [VT] at h;simp only [TV.Bd];obtain⟨x,g,hg,hle,-⟩:=h
  exact⟨x,by simp [hg],hle⟩
 | .ir j aF k i off,v,h=>by
  simp only [VT] at h;simp only [TV.Bd];obtain⟨x,g,hg,hle,-⟩:=h
  exact⟨x,by simp [hg],hle⟩
 | .func fn caps,v,h=>by
  simp only [VT] at h;simp only [TV.Bd];obtain⟨vs,-,h⟩:=h
  exact bI.bd h
 | .Gt fn fs,v,h=>by
  simp only [VT] at h;simp only [TV.Bd];obtain⟨vs,-,h⟩:=h
  exact bI.bd h
 | .iface ty d,v,h=>by
  simp only [VT] at h;simp only [TV.Bd];obtain⟨u,-,h⟩:=h
  exact VT.bd h
 | .agg cs,v,h=>by
  simp only [VT] at h;simp only [TV.Bd];obtain⟨vs,-,-,h⟩:=h
  exact bI.bd h
 | .tuple ds,v,h=>by
  simp only [VT] at h;simp only [TV.Bd];obtain⟨vs,-,h⟩:=h;exact bI.bd h
theorem bI.bd:∀ {ds:J (TV E)}{vs:J Value},bI E w G ds vs->TV.Du G.i.length (G.g.map (·.1)) ds
 | [],_,_=>by simp only [TV.Du]
 | d::ds,vs,h=>by
  simp only [bI] at h;simp only [TV.Du];obtain⟨u,us,-,h1,h2⟩:=h;exact⟨VT.bd h1,bI.bd h2⟩
end
structure Reb(G G2:bq)(nb:Nat)(g0:List cH):Prop where
 pr:∀b o,G.pr b o->G2.pr b o
 i:∀r b,r<nb->G.i[r]? = some b->G2.i[r]? = some b
 g:∀(j:Nat) x0 x h,g0[j]? = some x0->G.g[j]? = some (x,h)->∃x2,G2.g[j]? = some (x2,h)/\(x2.aF=x.aF\/x0.aF<x2.aF)
mutual
theorem VT.AX{nb:Nat}{g0:J cH}(hR:Reb G G2 nb g0):∀ {d:TV E}{v:Value},VT E w G d v->TV.Bd nb g0 d->VT E w G2 d v
 | .any,_,_,_=>by simp only [VT]
 | .dat t x,v,h,_=>h.sP hR.pr
 | .sH t x off,v,h,_=>by
  simp only [VT] at h⊢;obtain⟨b,o,c,rfl,h1,h2⟩:=h
  exact⟨b,o,c,rfl,h1.mono hR.pr (fun _ _ _ _ h=>h),fun l u hl=>⟨hR.pr _ _ (h2 l u hl).1,(h2 l u hl).2⟩⟩
 | .val _,_,h,_=>by simpa only [VT] using h
 | .ptr r off,v,h,hb=>by
  simp only [VT] at h⊢;simp only [TV.Bd] at hb;obtain⟨b,rfl,h⟩:=h
  exact⟨b,rfl,hR.i r b hb h⟩
 | .p9 c r off,v,h,hb=>by
  simp only [TV.Bd] at hb;cases c<;>simp only [VT] at h⊢
  ·exact h
  ·obtain⟨b,rfl,h⟩:=h
   exact⟨b,rfl,hR.i r b (hb rfl) h⟩
 | .jq r,v,h,hb=>by
  simp only [VT] at h⊢;simp only [TV.Bd] at hb;obtain⟨b,rfl,h⟩:=h
  exact⟨b,rfl,hR.i r b hb h⟩
 | .ux r,v,h,hb=>by
  simp only [VT] at h⊢;simp only [TV.Bd] at hb;obtain⟨b,rfl,h⟩:=h
  exact⟨b,rfl,hR.i r b hb h⟩
 | .iq r n cap,v,h,hb=>by
  simp only [VT] at h⊢;simp only [TV.Bd] at hb;obtain⟨b,rfl,h⟩:=h
  exact⟨b,rfl,hR.i r b hb h⟩
 | .cA j aF t xs,v,h,hb=>by
  simp only [VT] at h⊢;simp only [TV.Bd] at hb;obtain⟨AG,x,g,hg,hle,heq⟩:=h;obtain⟨x0,hx0,hle0⟩:=hb;obtain⟨x2,h2,hc⟩:=hR.g j x0 x g hx0 hg;refine⟨AG.mono hR.pr (fun _ _ _ _ h=>h),x2,g,h2,?_,fun e=>?_⟩
  ·rcases hc with hc|hc<;>omega
  ·rcases hc with hc|hc
   ·exact heq om
   ·omega
 | .QO j aF l,v,h,hb=>by
  simp only [VT] at h⊢;simp only [TV.Bd] at hb;obtain⟨x,g,u,hg,hle,AG,heq⟩:=h;obtain⟨x0,hx0,hle0⟩:=hb;obtain⟨x2,h2,hc⟩:=hR.g j x0 x g hx0 hg;refine⟨x2,g,u,h2,?_,AG.mono hR.pr (fun _ _ _ _ h=>h),fun e=>?_⟩
  ·rcases hc with hc|hc<;>omega
  ·rcases hc with hc|hc
   ·exact heq om
   ·omega
 | .eu j aF,v,h,hb=>by
  simp only [VT] at h⊢;simp only [TV.Bd] at hb;obtain⟨x,g,hg,hle,h1,heq⟩:=h;obtain⟨x0,hx0,hle0⟩:=hb;obtain⟨x2,h2,hc⟩:=hR.g j x0 x g hx0 hg;refine⟨x2,g,h2,?_,h1,fun e=>?_⟩
  ·rcases hc with hc|hc<;>omega
  ·rcases hc with hc|hc
   ·exact heq om
   ·omega
 | .ir j aF k i off,v,h,hb=>by
  simp only [VT] at h⊢;simp only [TV.Bd] at hb;obtain⟨x,g,hg,hle,h1,heq⟩:=h;obtain⟨x0,hx0,hle0⟩:=hb;obtain⟨x2,h2,hc⟩:=hR.g j x0 x g hx0 hg;refine⟨x2,g,h2,?_,h1,fun e=>?_⟩
  ·rcases hc with hc|hc<;>omega
  ·rcases hc with hc|hc
   ·exact heq om
   ·omega
 | .tU t xs,v,h,hb=>by
  simp only [VT] at h⊢;obtain⟨vs,rfl,h1,h⟩:=h
  exact⟨vs,rfl,h1,h.mono hR.pr (fun _ _ _ _ h=>h)⟩
 | .func fn caps,v,h,hb=>by
  simp only [VT] at h⊢;simp only [TV.Bd] at hb;obtain⟨vs,rfl,h⟩:=h
  exact⟨vs,rfl,bI.AX hR h hb⟩
 | .Gt fn fs,v,h,hb=>by
  simp only [VT] at h⊢;simp only [TV.Bd] at hb;obtain⟨vs,rfl,h⟩:=h
  exact⟨vs,rfl,bI.AX hR h hb⟩
 | .iface ty d,v,h,hb=>by
  simp only [VT] at h⊢;simp only [TV.Bd] at hb;obtain⟨u,rfl,h⟩:=h
  exact⟨u,rfl,VT.AX hR h hb⟩
 | .agg cs,v,h,hb=>by
  simp only [VT] at h⊢;simp only [TV.Bd] at hb;obtain⟨vs,rfl,h1,h⟩:=h
  exact⟨vs,rfl,h1,bI.AX hR h hb⟩
 | .tuple ds,v,h,hb=>by
  simp only [VT] at h⊢;simp only [TV.Bd] at hb;obtain⟨vs,rfl,h⟩:=h;exact⟨vs,rfl,bI.AX hR h hb⟩
theorem bI.AX{nb:Nat}{g0:J cH}(hR:Reb G G2 nb g0):∀ {ds:J (TV E)}{vs:J Value},bI E w G ds vs->TV.Du nb g0 ds->bI E w G2 ds vs
 | [],_,h,_=>by simp only [bI] at h⊢;exact h
 | d::ds,vs,h,hb=>by
  simp only [bI] at h⊢;simp only [TV.Du] at hb;obtain⟨u,us,rfl,h1,h2⟩:=h;exact⟨u,us,rfl,VT.AX hR h1 hb.1,bI.AX hR h2 hb.2⟩
end
def fM.Bd(nb:Nat)(g:J cH):fM E->Prop
 | .cells _ cs=>TV.Du nb g cs
 | .loop _ cs=>TV.Du nb g cs
 | .lC _ _ _ _ d=>TV.Bd nb g d
 | _=>True
theorem jS.bd{x:fM E}(h:jS E w G b x):x.Bd G.i.length (G.g.map (·.1)):=by
 cases x with
 | cells t cs=>obtain⟨vs,-,-,h⟩:=h;exact h.bd
 | loop y ds=>obtain⟨Y,fn,tmps,D,-,-,h⟩:=h;exact h.bd
 | lC e cap t xs d=>obtain⟨cur,-,-,-,h,-⟩:=h;exact h.bd
 | _=>trivial
theorem jS.AX(hR:Reb G G2 nb g0){x:fM E}(h:jS E w G b x)(hb:x.Bd nb g0):jS E w G2 b x:=by
 cases x with
 | cells t cs=>obtain⟨vs,h1,h2,h3⟩:=h;exact⟨vs,h1,h2,bI.AX hR h3 hb⟩
 | iter s pos=>exact h
 | map kt vt m=>obtain⟨es,clock,h1,h2,h3⟩:=h;exact⟨es,clock,h1,h2,h3.pr hR.pr⟩
 | loop y ds=>obtain⟨Y,fn,tmps,D,h0,h1,h2⟩:=h;exact⟨Y,fn,tmps,D,h0,h1,bI.AX hR h2 hb⟩
 | lC e cap t xs d=>obtain⟨cur,h1,h2,h4,h5,h6⟩:=h;exact⟨cur,h1,h2,fun i x hx=>(h4 i x hx).sP hR.pr,VT.AX hR h5 hb,h6⟩
 | gone=>exact h
 | QS=>exact h
def DBd(nb:Nat)(g:J cH):J (FuncId×J (TV E))->Prop
 | []=>True
 | x::xs=>TV.Du nb g x.2/\DBd nb g xs
theorem kj.bd:∀ {ds:J Deferred}{xs:J (FuncId×J (TV E))},kj E w G ds xs->DBd G.i.length (G.g.map (·.1)) xs
 | [],[],_=>trivial
 | _::_,_::_,h=>⟨by rcases h.1 with⟨-,cap,-,h2⟩|⟨-,b,-,h2⟩<;>exact h2.bd,kj.bd h.2⟩
 | [],_::_,h=>h.elim
 | _::_,[],h=>h.elim
theorem kj.AX{nb:Nat}{g0:J cH}(hR:Reb G G2 nb g0):∀ {ds:J Deferred}{xs:J (FuncId×J (TV E))},kj E w G ds xs->DBd nb g0 xs->kj E w G2 ds xs
 | [],[],_,_=>trivial
 | _::_,_::_,h,hb=>⟨h.1.imp (fun⟨h0,cap,h1,h2⟩=>⟨h0,cap,h1,bI.AX hR h2 hb.1⟩) fun⟨h0,b,h1,h2⟩=>⟨h0,b,h1,bI.AX hR h2 hb.1⟩,kj.AX hR h.2 hb.2⟩
 | [],_::_,h,_=>h.elim
 | _::_,[],h,_=>h.elim
structure Pre(G0:bq)(st:TS E):Prop where
 nb:G0.i.length<=st.H.length
 rows:∀(j:Nat) x0 h0,G0.g[j]? = some (x0,h0)->∃x,st.g[j]? = some x/\x0.aF<=x.aF
 slots:∀(i:Nat) d,st.t[i]? = some d->d.Bd st.H.length st.g
 boxes:∀(r:Nat) x,st.H[r]? = some x->x.Bd st.H.length st.g
 defs:DBd st.H.length st.g st.df
variable{bR:TS E}
theorem iB.len{w1 w2:U}{G1:bq}(h:iB w1 G1 w2 G2):G1.i.length<=G2.i.length:=by
 by_cases h0:G1.i.length=0
 ·omega
 ·have hl:G1.i.length-1<G1.i.length:=om
  have:=(eV.1 (h.i _ _ (fJ hl))).1;omega
theorem Rel.pre(h:Rel E w0 G0 st a w G):Pre G0 st:=by
 have hl:=h.boxes.len;have hg:=h.boxes.gs;refine⟨by rw [<-hl];exact h.eX.goes.len,fun j x0 h0 hj=>?_,fun i d hi=>?_,fun r x hr=>?_,?_⟩
 ·obtain⟨x',h',h1,h2,-⟩:=h.eX.goes.g j x0 h0 hj
  grind
 ·have:=(h.tmps i d hi).bd
  simp_all
 ·have hlt:r<G.i.length:=by grind
  have:=(h.boxes.box r _ x (fJ hlt) hr).bd
  simp_all
 ·have:=h.defers.bd
  simp_all
theorem Gy(W:J Nat):∀(i:Nat)(l:J (TV E)),(nJ W i l).length=l.length
 | _,[]=>rfl
 | i,d::ds=>by simp_all [nJ,Gy]
theorem W7(W:J Nat):∀(i:Nat)(l:J (TV E))(j:Nat)(d:TV E),(nJ W i l)[j]? = some d->d=.any\/((i+j)∉W/\l[j]? = some d)
 | _,[],j,d,h=>by simp [nJ] at h
 | i,x::ds,0,d,h=>by
  simp [nJ] at h
  grind
 | i,x::ds,j+1,d,h=>by
  have:=W7 W (i+1) ds j d (by simpa [nJ] using h)
  grind
theorem W8(hE:E.Ok){G2:bq}{n n2:Rn}(hL:Cv w G n G2 n2)(ha:∀i,VT E w G (st.at i) (a.tmps.getD i undef)):∀(vs:J (Nat×PT))(t:J (TV E))(ls rest:J (Lf E)),PI n st vs=some ls ->
  (∀(j:Nat) d,t[j]? = some d->VT E w G2 d (a.tmps.getD j undef)) ->
  (mU n2 vs t (ls++rest)).2=rest/\(mU n2 vs t (ls++rest)).1.length=t.length/\∀(j:Nat) d,(mU n2 vs t (ls++rest)).1[j]? = some d->VT E w G2 d (a.tmps.getD j undef)
 | [],t,ls,rest,h,ht=>by cases h;exact⟨rfl,rfl,ht⟩
 | (i,p)::vs,t,ls,rest,h,ht=>by
  simp [PI] at h;split at h<;>try trivial
  rename_i l ls' h1 h2;cases h;obtain⟨e1,e2⟩:=PT.sound hE hL (rest:=ls'++rest) h1 (ha i);simp [mU]
  obtain⟨q1,q2,q3⟩:=W8 hE hL ha vs (t.set i (p.put n2 (l++(ls'++rest))).1) ls' rest h2 (fun j d hj=>by
   grind)
  simp_all
theorem BT.aaf:∀(t:BT)(x:fM E)(l rest:J (Lf E)),t.get n x=some l->(t.put n2 (l++rest)).2=rest:=by
 have arZ:∀(c:CT)(d:TV E)(l rest:J (Lf E)),c.get n d=some l->(c.put n2 (l++rest)).2=rest:=by
  intro c d l rest h;unfold CT.get at h;simp only [Bool.cond_eq_ite] at h
  (repeat' split at h)<;>first|trivial|(cases h;rfl)
 have an2:∀(cs:J CT)(ds:J (TV E))(l rest:J (Lf E)),CT.Jg n cs ds=some l->(CT.pH n2 cs (l++rest)).2=rest:=by
  intro cs
  induction cs with
  | nil=>intro ds l rest h;cases ds<;>cases h;rfl
  | cons c cs ih=>
   intro ds l rest h;unfold CT.Jg at h
   grind [CT.pH,CT.La,List.append_assoc]
 intro t x l rest h;unfold BT.get at h;split at h<;>try trivial
 ·rename_i ty cs ty' ds
  cases hb:Nat.beq ty ty'<;>rw [hb] at h<;>simp only [aZ,aK] at h
  ·cases h
  exact an2 cs ds l rest h
 ·split at h<;>cases h;rfl
 ·cases h;rfl
 ·rename_i y cs y' ds
  cases hb:Nat.beq y y'<;>rw [hb] at h<;>simp only [aZ,aK] at h
  ·cases h
  exact an2 cs ds l rest h
theorem Gz{n:Rn}{D:J Nat}{nb:Nat}:∀(bs:J (O BT))(r:Nat)(H:J (fM E))(ls rest:J (Lf E)),oN n D nb r bs H=some ls->pQ bs (ls++rest)=rest
 | [],r,H,ls,rest,h=>by cases h;rfl
 | none::bs,r,x::H,ls,rest,h=>by
  simp only [oN] at h;cases hc:(D.elem r || !(Nat.blt r nb))<;>rw [hc] at h<;>simp only [aZ,aK] at h
  ·exact Gz bs (r+1) H ls rest h
  ·cases h
 | some t::bs,r,x::H,ls,rest,h=>by
  simp [oN] at h;split at h<;>try trivial
  rename_i l ls' h1 h2;cases h;simp [pQ];rw [BT.aaf t x l (ls'++rest) h1]
  exact Gz bs (r+1) H ls' rest h2
 | none::bs,r,[],ls,rest,h=>by cases h
 | some _::bs,r,[],ls,rest,h=>by cases h
theorem Jh(hE:E.Ok){G2:bq}{n n2:Rn}(hL:Cv w G n G2 n2){D:J Nat}{nb:Nat}:∀(bs:J (O BT))(r:Nat)(H H0:J (fM E))(is:J Nat)(ls rest:J (Lf E)),oN n D nb r bs H=some ls ->
  (∀(q b:Nat) x,is[q]? = some b->H[q]? = some x->jS E w G b x)->(∀(q b:Nat) x,is[q]? = some b->r+q<nb->r+q∉D->H0[q]? = some x->jS E w G2 b x)->nb<=r+H0.length ->
  (eO n2 bs H0 (ls++rest)).length=bs.length/\bs.length<=H.length/\∀(q b:Nat) x,is[q]? = some b->(eO n2 bs H0 (ls++rest))[q]? = some x->jS E w G2 b x
 | [],r,H,H0,is,ls,rest,h,hb,h0,hn=>by
  simp [eO]
 | none::bs,r,x::H,H0,is,ls,rest,h,hb,h0,hn=>by
  simp only [oN] at h;cases hc:(D.elem r || !(Nat.blt r nb))<;>rw [hc] at h<;>simp only [aZ,aK] at h
  ·rw [aef] at hc
   have hlt:r<nb:=by simpa using hc.2
   obtain⟨y,H0',rfl⟩:∃y H0',H0=y::H0':=by
    cases H0 with
    | nil=>simp at hn;omega
    | cons y H0'=>exact⟨y,H0',rfl⟩
   obtain⟨q1,q2,q3⟩:=Jh hE hL bs (r+1) H H0' is.tail ls rest h (fun q b z hq hz=>hb (q+1) b z (by cases is<;>simp_all) (by simpa using hz))
    (fun q b z hq h1 h2 hz=>h0 (q+1) b z (by cases is<;>simp_all) om (by grind) (by simpa using hz)) (by simp at hn;omega)
   grind [eO]
  ·cases h
 | some t::bs,r,x::H,H0,is,ls,rest,h,hb,h0,hn=>by
  simp [oN] at h;split at h<;>try trivial
  rename_i l ls' h1 h2;cases h;have hkey:∀b,is[0]? = some b->(t.put n2 (l++(ls'++rest))).2=ls'++rest/\jS E w G2 b (t.put n2 (l++(ls'++rest))).1:=fun b hb0=>BT.sound hE hL h1 (hb 0 b x hb0 si)
  have fC:(t.put n2 (l++(ls'++rest))).2=ls'++rest:=by
   grind [BT.aaf]
  obtain⟨q1,q2,q3⟩:=Jh hE hL bs (r+1) H H0.tail is.tail ls' rest h2 (fun q b z hq hz=>hb (q+1) b z (by cases is<;>simp_all) (by simpa using hz))
   (fun q b z hq h1 h2 hz=>h0 (q+1) b z (by cases is<;>simp_all) om (by grind) (by cases H0<;>simp_all)) (by grind)
  refine⟨by simp_all [eO,uX,su],by simpa using q2,fun q b z hq hz=>?_⟩
  cases q with
  | zero=>
   simp_all [eO,uX,List.getElem?_cons_zero,ad5]
  | succ q=>
   grind [eO,List.append_assoc,List.getElem?_cons_succ]
 | none::bs,r,[],H0,is,ls,rest,h,hb,h0,hn=>by cases h
 | some _::bs,r,[],H0,is,ls,rest,h,hb,h0,hn=>by cases h
theorem Ee{n:Rn}{D:J Nat}{nb:Nat}:∀(bs:J (O BT))(r:Nat)(H:J (fM E))(ls:J (Lf E)),oN n D nb r bs H=some ls->∀q,q<bs.length->r+q∉Dt r bs->r+q∉D
 | [],r,H,ls,_,q,hq,_=>by simp at hq
 | none::bs,r,x::H,ls,h,q,hq,hc=>by
  simp only [oN] at h;cases hb:(D.elem r || !(Nat.blt r nb))<;>rw [hb] at h<;>simp only [aZ,aK] at h
  ·cases q with
   | zero=>simp_all
   | succ q=>
    have:=Ee bs (r+1) H ls h q (by simpa using hq) (by rw [show r+1+q=r+(q+1) by omega];exact hc)
    grind
  ·cases h
 | some t::bs,r,x::H,ls,h,q,hq,hc=>by
  simp [oN] at h;split at h<;>try trivial
  rename_i l ls' h1 h2
  cases q with
  | zero=>exact (hc (by simp [Dt])).elim
  | succ q=>
   have:=Ee bs (r+1) H ls' h2 q (by simpa using hq) (by rw [show r+1+q=r+(q+1) by omega];exact fun hm=>hc (by simp [Dt,hm]));rw [show r+1+q=r+(q+1) by omega] at this
   exact this
 | none::bs,r,[],ls,h,_,_,_=>by cases h
 | some _::bs,r,[],ls,h,_,_,_=>by cases h
variable{D:J Nat}
theorem W9{n r r':Nat}(h:(List.range n)[r]? = some r'):r'=r/\r<n:=by
 grind
theorem Rel.at(h:Rel E w0 G0 st a w G)(i:Nat):VT E w G (st.at i) (a.tmps.getD i undef):=h.ev (.tmp i)
theorem Rel.cut(hE:E.Ok){c:Cut}{W:J Nat}(hp:Pre G0 bR)(hr:Rel E w0 G0 st a w G)(ht:st.t.length=bR.t.length)(hk:∀i,i∉W->st.t[i]? = bR.t[i]?)
   (hD:st.d=D++bR.d) (hH:∀r,r<bR.H.length->r∉D->st.H[r]? = bR.H[r]?) (hdf:st.df=bR.df) (h:c.leaves bR st=some ls) :
  ∃G2,Rel E w0 G0 (c.unpack W bR ls) a w G2/\Cv w G ⟨List.range c.boxes.length,List.range c.rows.length,st.g.map (·.aF)⟩ G2 ⟨List.range c.boxes.length,List.range c.rows.length,(dX c.rows bR.g).map (·.aF)⟩:=by
 unfold Cut.leaves at h;cases hc:(below c.rows.length c.soft&&(Nat.ble bR.H.length c.boxes.length&&(Nat.ble bR.g.length c.rows.length&&yI c.rows bR.g st.g)))<;>rw [hc] at h<;>simp only [aZ,aK] at h
 ·cases h
 simp only [cE] at hc;obtain⟨BX,vz,hg1,hro⟩:=hc;have vz:=lR vz;have hg1:=lR hg1;rw [hD,ahk] at h;split at h<;>try trivial
 rename_i la lb le hla hlb hle;cases h;have hgs:=hr.boxes.gs;rw [<-hgs] at hro;obtain⟨n1,n2,n3,n4⟩:=Ih c.rows bR.g G.g hro
 let G2:bq:=⟨G.i.take c.boxes.length,gL c.rows bR.g G.g,G.pr⟩
 have hlen:=hr.boxes.len
 have YU:∀(j:Nat) y2,(gL c.rows bR.g G.g)[j]? = some y2->∃y,G.g[j]? = some y/\y2.2=y.2/\y2.1.e=y.1.e/\y2.1.k=y.1.k/\∀x0,bR.g[j]? = some x0->y2.1.aF=y.1.aF\/x0.aF<y2.1.aF:=by
  grind
 have ajq:Reb G G2 bR.H.length bR.g:=by
  refine⟨fun _ _ h=>h,fun r b hr' hb=>?_,fun j x0 x hd hx0 hj=>?_⟩
  ·grind
  grind
 have Fc:Cv w G ⟨List.range c.boxes.length,List.range c.rows.length,st.g.map (·.aF)⟩ G2 ⟨List.range c.boxes.length,List.range c.rows.length,(dX c.rows bR.g).map (·.aF)⟩:=by
  refine⟨fun _ _ h=>h,fun r r' b h1 h2=>?_,fun j j' v x hd h1 h2 h3=>?_⟩
  ·grind
  grind
 have an3:∀(j:Nat) d,(nJ W 0 bR.t)[j]? = some d->VT E w G2 d (a.tmps.getD j undef):=by
  intro j d hj;rcases W7 W 0 bR.t j d hj with rfl|⟨hnw,hj'⟩
  ·simp only [VT]
  ·rw [qC] at hnw
   have:=hr.tmps j d (by rw [hk j hnw];exact hj');exact VT.AX ajq this (hp.slots j d hj')
 obtain⟨p1,p2,p3⟩:=W8 hE Fc hr.at c.vars (nJ W 0 bR.t) la (lb++le) hla an3
 obtain⟨q1,q2,q3⟩:=Jh hE Fc c.boxes 0 st.H bR.H G.i lb le hlb (fun q b x hq hx=>hr.boxes.box q b x hq hx) (fun q b x hq h1 h2 hx=>by
  rw [qC] at h1 h2;have hx':st.H[q]? = some x:=by rw [hH q h1 h2];exact hx
  exact jS.AX ajq (hr.boxes.box q b x hq hx') (hp.boxes q x hx)) si
 have ev:=hr.eX
 have hG0:∀(r b:Nat),(G.i.take c.boxes.length)[r]? = some b->G.i[r]? = some b:=fun r b hb=>by
  grind
 have hmem:∀b,b∈G.i.take c.boxes.length->b∈G.i:=fun b hb=>Rw hb;refine⟨G2,⟨⟨ev.os,ev.tape,ev.output,ev.size,ev.old,⟨ev.goes.pr,ev.goes.cells,fun r b hb=>?_,fun j x0 hd hj=>?_⟩,ev.oe,fun r b h1 h2=>ev.qH r b h1 (hG0 r b h2),fun j x hd b hj hb=>?_⟩,?_,?_,?_,?_,fun r b hb hd=>?_,hr.pins,?_⟩,Fc⟩
 ·have hlt:=(eV.1 hb).1
  have:=hp.nb;rw [YJ,if_pos om];exact ev.goes.i r b hb
 ·obtain⟨x',hd',h1,h2,h3⟩:=ev.goes.g j x0 hd hj
  obtain⟨xp,hxp,hle⟩:=hp.rows j x0 hd hj
  grind
 ·obtain⟨y,hy,e1,-⟩:=YU j (x,hd) hj
  simp only at e1;subst e1;exact ev.gL j y.1 y.2 b hy hb
 ·show a.tmps.size=((mU _ c.vars (nJ W 0 bR.t) (la++(lb++le))).1).length
  rw [p2,Gy,<-ht];exact hr.size
 ·exact p3
 ·show kj E w G2 a.defers bR.df
  rw [<-hdf];exact kj.AX ajq hr.defers (by rw [hdf];exact hp.defs)
 ·refine⟨?_,n1,fun r b x hb hx=>?_,fun b hb=>hr.boxes.lt b (hmem b hb),(List.take_sublist _ _).nodup hr.boxes.nodup,fun b o sO=>⟨(hr.boxes.gq b o sO).1,fun hm=>(hr.boxes.gq b o sO).2 (hmem b hm)⟩,fun j x hd hj=>?_,
   fun j j' x hd x' hd' b hj hj' hb hb'=>?_⟩
  ·show (G.i.take c.boxes.length).length=(eO _ c.boxes bR.H (mU _ c.vars (nJ W 0 bR.t) (la++(lb++le))).2).length
   simp_all
  ·have hx:(eO _ c.boxes bR.H (mU _ c.vars (nJ W 0 bR.t) (la++(lb++le))).2)[r]? = some x:=hx
   grind
  ·obtain⟨y,hy,e1,e2,e3,-⟩:=YU j (x,hd) hj
   subst e1;obtain⟨n,xs,g1,g2,g3⟩:=hr.boxes.grow j y.1 y.2 hy;refine⟨n,xs,by rw [e2,e3];exact g1,fun a m h=>by rw [e2];exact g2 a m h,fun b hb=>?_⟩
   grind
  ·obtain⟨y,hy,e1,-⟩:=YU j (x,hd) hj
   obtain⟨y',hy',ZS,-⟩:=YU j' (x',hd') hj';subst e1;subst ZS;exact hr.boxes.apart j j' y.1 y.2 y'.1 y'.2 b hy hy' hb hb'
 ·refine hr.fix r b hb ?_
  have hd:r∉Dt 0 c.boxes++bR.d:=hd;rw [qF,not_or] at hd;rw [hD,qF,not_or];refine⟨?_,hd.2⟩;have hlt:=(eV.1 hb).1;have:=hp.nb;have:=Ee c.boxes 0 st.H lb hlb r om (by simp_all)
  simp_all
 ·intro j c0 hm
  have hm:(j,c0)∈nu some c.soft (pQ c.boxes (mU _ c.vars (nJ W 0 bR.t) (la++(lb++le))).2):=hm;rw [p1,Gz c.boxes 0 st.H lb le hlb] at hm;obtain⟨q,j',⟨t,ht⟩,e1,e2,e3⟩:=CZ (f:=some) (f2:=some) (rest:=[]) hle (by rw [Yw];exact hm);cases e1;cases e2;have tC:=aae BX j t ht;obtain⟨x,hd,h1,h2⟩:=hr.gr j c0 e3;obtain⟨y2,hy,f1,f2,f3,-⟩:=n4 j (x,hd) h1 tC;refine⟨y2.1,hd,?_,h2.keep f2 f3 (fun _ _ h=>h) (fun _ _ _ _ h=>h) (fun b _=>⟨rfl,fun _ h=>h⟩)⟩
  grind
end Go.RT
namespace Go.RT
variable {E : TEnv}
def kn(P:bh)(f:FuncId)(args:aG Value)(w:U)(R:Ending->U->Prop):Prop:=
 match (callFunc f args).run P w with
 | .ok (.enter f' args') w'=>Calls P f' args' w' R
 | .ok (.value v) w'=>R (.returned v) w'
 | _=>False
def C2(ok:Bool)(v:Value):Ending:=cond ok (.returned v) (.panicked [{v:=v,recovered:=false}])
structure aag(E:TEnv) where
 ok:Bool
 d:TV E
 H:List (fM E)
 g:List cH
 D:List Nat
 c:List (Nat×Cn E)
def lE(P:bh)(f:FuncId)(ds:J (TV E))(H:J (fM E))(gs:J cH)(cs:J (Nat×Cn E))(r:aag E):Prop:=
 ∀(w:U)(G:bq)(args:aG Value),p6 E w G->lP E w G H gs->kH E w G cs->bI E w G ds args.toList->kn P f args w fun e w'=>
  ∃v G',e=C2 r.ok v/\kQ w G w' G'/\lP E w' G' r.H r.g/\kH E w' G' r.c/\VT E w' G' r.d v/\∀(q b:Nat),G.i[q]? = some b->q∉r.D->w'.heap[b]? = w.heap[b]?
structure Outs where
 res:PT
 boxes:List (Option BT)
 rows:List (Option (TypeId×Nat))
 soft:List (Nat×Ty)
def Outs.tys(o:Outs):J Ty:=o.res.tys++(Lb o.boxes++PG o.soft)
structure dc where
 f:FuncId
 args:List PT
 boxes:List BT
 rows:List (TypeId×Nat)
 out:Outs
 lU:Option Outs
 soft:List (Nat×Ty)
def ahl:J PT->J Ty
 | []=>[]
 | p::ps=>p.tys++ahl ps
def ahm:J BT->J Ty
 | []=>[]
 | b::bs=>b.tys++ahm bs
def dc.tys(s:dc):J Ty:=ahl s.args++(ahm s.boxes++PG s.soft)
@[reducible] def OutP (E : TEnv) (o : Outs) : O Outs -> Type
 | none=>dens E o.tys
 | some q=>dens E o.tys ⊕ dens E q.tys
structure bJ(E:TEnv) where
 s:dc
 m:dens E s.tys->Option (OutP E s.out s.lU)
def TB(n:Rn):J PT->J (TV E)->O (J (Lf E))
 | [],[]=>some []
 | p::ps,d::ds=>match p.get n d,TB n ps ds with
  | some l,some ls=>some (l++ls)
  | _,_=>none
 | _,_=>none
def AY(n:Rn):J PT->J (Lf E)->J (TV E)×J (Lf E)
 | [],ls=>([],ls)
 | p::ps,ls=>((p.put n ls).1::(AY n ps (p.put n ls).2).1,(AY n ps (p.put n ls).2).2)
def TC(n:Rn):J BT->J (fM E)->O (J (Lf E))
 | [],[]=>some []
 | t::ts,x::xs=>match t.get n x,TC n ts xs with
  | some l,some ls=>some (l++ls)
  | _,_=>none
 | _,_=>none
def yJ(n:Rn):J BT->J (Lf E)->J (fM E)×J (Lf E)
 | [],ls=>([],ls)
 | t::ts,ls=>((t.put n ls).1::(yJ n ts (t.put n ls).2).1,(yJ n ts (t.put n ls).2).2)
def dc.g0(s:dc):J cH:=s.rows.map fun p=>⟨0,p.1,p.2⟩
def dc.n0(s:dc):Rn:=⟨List.range s.boxes.length,List.range s.rows.length,s.g0.map (·.aF)⟩
def dc.ds(s:dc)(ls:J (Lf E)):J (TV E):=(AY s.n0 s.args ls).1
def dc.H(s:dc)(ls:J (Lf E)):J (fM E):=(yJ s.n0 s.boxes (AY s.n0 s.args ls).2).1
def dc.c(s:dc)(ls:J (Lf E)):J (Nat×Cn E):=nu some s.soft (yJ s.n0 s.boxes (AY s.n0 s.args ls).2).2
def Outs.n1(o:Outs)(g:J cH):Rn:=⟨List.range o.boxes.length,List.range o.rows.length,(dX o.rows g).map (·.aF)⟩
def Outs.mM(o:Outs)(ok:Bool)(H0:J (fM E))(g:J cH)(ls:J (Lf E)):aag E:=
 ⟨ok,(o.res.put (o.n1 g) ls).1,eO (o.n1 g) o.boxes H0 (o.res.put (o.n1 g) ls).2,dX o.rows g,Dt 0 o.boxes,nu some o.soft (pQ o.boxes (o.res.put (o.n1 g) ls).2)⟩
def ko(s:dc)(H0:J (fM E)):(p:O Outs)->OutP E s.out p->aag E
 | none,y=>s.out.mM true H0 s.g0 (aP s.out.tys y)
 | some _,.inl y=>s.out.mM true H0 s.g0 (aP s.out.tys y)
 | some q,.inr y=>q.mM false H0 s.g0 (aP q.tys y)
def bJ.Ok(P:bh)(C:bJ E):Prop:=
 ∀x y,C.m x=some y->lE P C.s.f (C.s.ds (aP C.s.tys x)) (C.s.H (aP C.s.tys x)) C.s.g0 (C.s.c (aP C.s.tys x)) (ko C.s (C.s.H (aP C.s.tys x)) C.s.lU y)
structure Lc(w:World)(G:bq)(n:Rn)(G2:bq)(n2:Rn):Prop extends Cv w G n G2 n2 where
 lb:n2.b.length<=n.b.length
 lg:n2.g.length<=n.g.length
 lv:n2.v.length<=n.v.length
theorem CT.zG(n n2:Rn)(c:CT)(ls:J (Lf E)):(c.put n ls).2=(c.put n2 ls).2:=by
 cases c<;>cases ls<;>first|rfl|(rename_i l;cases l<;>rfl)
theorem CT.zZ(n n2:Rn):∀(cs:J CT)(ls:J (Lf E)),(CT.pH n cs ls).2=(CT.pH n2 cs ls).2
 | [],ls=>rfl
 | c::cs,ls=>by
  unfold CT.pH;split
  ·exact CT.zZ n n2 cs _
  ·rw [CT.zG n n2 c ls]
   exact CT.zZ n n2 cs _
theorem PT.zG(n n2:Rn)(p:PT)(ls:J (Lf E)):(p.put n ls).2=(p.put n2 ls).2:=by
 cases p with
 | one c=>exact CT.zG n n2 c ls
 | agg cs=>exact CT.zZ n n2 cs ls
 | dz cs=>exact CT.zZ n n2 cs ls
theorem BT.zG(n n2:Rn)(t:BT)(ls:J (Lf E)):(t.put n ls).2=(t.put n2 ls).2:=by
 cases t with
 | cells ty cs=>exact CT.zZ n n2 cs ls
 | loop y cs=>exact CT.zZ n n2 cs ls
 | map kt vt=>cases ls<;>rfl
 | iter=>cases ls with|nil=>rfl|cons l ls=>cases ls<;>rfl
variable{w:U}{G G2:bq}{n:Rn}{α:Type}{l:J α}{v:Value}{vs:J Value}
section
variable {n2 : Rn}
theorem getElem?_none_of{β:Type}{m:J β}{r:Nat}(h:l[r]? = none)(hl:m.length<=l.length):m[r]? = none:=by
 grind
theorem Xa(hL:Lc w G n G2 n2):∀(caps:J (Nat×Nat)){vs:J Value},bI E w G (F5 n caps:J (TV E)) vs->bI E w G2 (F5 n2 caps:J (TV E)) vs
 | [],vs,h=>by simp_all [F5,bI]
 | (r,off)::caps,vs,h=>by
  obtain⟨u,us,rfl,h1,h2⟩:=h.cons_inv;refine .cons ?_ (Xa hL caps h2)
  cases hr:n.b[r]? with
  | none=>rw [getElem?_none_of hr hL.lb];simp [VT]
  | some r'=>
   rw [hr] at h1;obtain⟨b,rfl,hb⟩:=h1;obtain⟨r2,hr2,nN⟩:=hL.i r r' b hr hb;rw [hr2];exact⟨b,rfl,nN⟩
theorem CT.move(hL:Lc w G n G2 n2)(c:CT)(ls:J (Lf E))(h:VT E w G (c.put n ls).1 v):VT E w G2 (c.put n2 ls).1 v:=by
 cases c with
 | dat t=>cases ls with
  | nil=>simp [CT.put,VT]
  | cons l ls=>exact VT.sP h hL.pr
 | any=>simp [CT.put,VT]
 | pk t=>simp [CT.put,VT]
 | ptr r off=>
  simp [CT.put] at h⊢
  cases hr:n.b[r]? with
  | none=>rw [getElem?_none_of hr hL.lb];simp [VT]
  | some r'=>
   rw [hr] at h;obtain⟨b,rfl,hb⟩:=h;obtain⟨r2,hr2,nN⟩:=hL.i r r' b hr hb
   simp_all [VT]
 | p9 r off=>
  cases ls with
  | nil=>simp [CT.put,VT]
  | cons l ls=>
   simp [CT.put] at h⊢
   cases hr:n.b[r]? with
   | none=>rw [getElem?_none_of hr hL.lb];simp [VT]
   | some r'=>
    rw [hr] at h;obtain⟨t,x⟩:=l
    cases hn:n2.b[r]? with
    | none=>simp [VT]
    | some r2'=>
     cases t<;>try (simp [VT];done)
     cases x<;>simp [VT] at h⊢
     ·exact h
     ·obtain⟨b,rfl,hb⟩:=h
      obtain⟨r2,hr2,nN⟩:=hL.i r r' b hr hb
      simp_all
 | jq r=>
  simp [CT.put] at h⊢
  cases hr:n.b[r]? with
  | none=>rw [getElem?_none_of hr hL.lb];simp [VT]
  | some r'=>
   rw [hr] at h;obtain⟨b,rfl,hb⟩:=h;obtain⟨r2,hr2,nN⟩:=hL.i r r' b hr hb
   simp_all [VT]
 | ux r=>
  simp [CT.put] at h⊢
  cases hr:n.b[r]? with
  | none=>rw [getElem?_none_of hr hL.lb];simp [VT]
  | some r'=>
   rw [hr] at h;obtain⟨b,rfl,hb⟩:=h;obtain⟨r2,hr2,nN⟩:=hL.i r r' b hr hb
   simp_all [VT]
 | cA j t=>
  cases ls with
  | nil=>simp [CT.put,VT]
  | cons l ls=>
   simp [CT.put] at h⊢
   cases hj:n.g[j]? with
   | none=>rw [getElem?_none_of hj hL.lg];simp [VT]
   | some j'=>
    cases Ds:n.v[j]? with
    | none=>
     rw [getElem?_none_of Ds hL.lv]
     simp_all [VT]
    | some vv=>
     rw [hj,Ds] at h;obtain⟨t',x⟩:=l
     cases t' with
     | bn t'=>
      obtain⟨AG,x1,h1,hg,hle,heq⟩:=h;obtain⟨TA,j2,v2,x2,q1,q2,q3,q4⟩:=hL.g j j' vv x1 h1 hj Ds hg;rw [q1,q2]
      exact⟨AG.mono hL.pr (fun _ _ _ _ h=>h),x2,h1,q3,om,fun _=>heq TA.symm⟩
     | _=>simp_all [VT]
 | func f caps=>
  simp [CT.put,VT] at h⊢
  grind [Xa]
 | eu j=>
  simp [CT.put] at h⊢
  cases hj:n.g[j]? with
  | none=>rw [getElem?_none_of hj hL.lg];simp [VT]
  | some j'=>
   cases Ds:n.v[j]? with
   | none=>
    rw [getElem?_none_of Ds hL.lv]
    simp_all [VT]
   | some vv=>
    rw [hj,Ds] at h;obtain⟨x1,h1,hg,hle,h2,heq⟩:=h;obtain⟨TA,j2,v2,x2,q1,q2,q3,q4⟩:=hL.g j j' vv x1 h1 hj Ds hg
    grind [VT]
 | ir j k=>
  simp [CT.put] at h⊢
  cases hj:n.g[j]? with
  | none=>rw [getElem?_none_of hj hL.lg];simp [VT]
  | some j'=>
   cases Ds:n.v[j]? with
   | none=>
    rw [getElem?_none_of Ds hL.lv]
    simp_all [VT]
   | some vv=>
    rw [hj,Ds] at h;obtain⟨x1,h1,hg,hle,h2,heq⟩:=h;obtain⟨TA,j2,v2,x2,q1,q2,q3,q4⟩:=hL.g j j' vv x1 h1 hj Ds hg
    grind [VT]
 | tU t=>cases ls with
  | nil=>simp [CT.put,VT]
  | cons l ls=>
   obtain⟨t',x⟩:=l
   cases t' with
   | bn t'=>
    obtain⟨vs,rfl,h1,h⟩:=h
    exact⟨vs,rfl,h1,h.mono hL.pr (fun _ _ _ _ h=>h)⟩
   | _=>simp [CT.put,VT]
 | nil k=>simp_all [CT.put,VT]
 | lb b=>rw [VT.mh h];exact .bool _ _ _
 | li k n=>rw [VT.fU h];exact .int _ _ _ _
 | sH t off=>cases ls with
  | nil=>simp [CT.put,VT]
  | cons l ls=>
   obtain⟨b,o,c,rfl,h1,h2⟩:=h
   exact⟨b,o,c,rfl,h1.mono hL.pr (fun _ _ _ _ h=>h),fun l u hl=>⟨hL.pr _ _ (h2 l u hl).1,(h2 l u hl).2⟩⟩
 | iface ty t=>cases ls with
  | nil=>simp [CT.put,VT]
  | cons l ls=>
   obtain⟨u,rfl,h⟩:=h;exact⟨u,rfl,VT.sP h hL.pr⟩
theorem bI.Xb{w:U}{G:bq}:∀ {ds es:J (TV E)}{vs:J Value},bI E w G (ds++es) vs->∃us ts,vs=us++ts/\bI E w G ds us/\bI E w G es ts
 | [],_,vs,h=>⟨[],vs,rfl,bI.nil,h⟩
 | _::_,_,_,h=>by
  obtain⟨u,us,rfl,h1,h2⟩:=bI.cons_inv h;obtain⟨us',ts,rfl,h3,h4⟩:=bI.Xb h2;exact⟨u::us',ts,rfl,.cons h1 h3,h4⟩
theorem Xc{f:(i:Nat)->E.D i->O (J (TV E))}(hf:∀i x cs,f i x=some cs->∀d∈cs,∃t y,d=TV.dat t y):∀(t:Ty)(x:t.den E.D)(cs:J (TV E)),AK E f t x=some cs->∀d∈cs,∃t y,d=TV.dat t y:=by
 intro t
 induction t with
 | int k=>intro x cs h d hd;cases h;simp_all
 | bool=>intro x cs h d hd;cases h;simp_all
 | str=>intro x cs h d hd;cases h;simp_all
 | bn t _=>intro x cs h d hd;cases h;simp_all
 | unit=>intro x cs h d hd;cases h;cases hd
 | ext i=>intro x cs h;exact hf i x cs h
 | pair a b EA EB=>
  intro x cs h d hd;simp [AK] at h
  cases e1:AK E f a x.1 with
  | none=>rw [e1] at h;cases h
  | some l=>
   dsimp only [Option.bind] at h
   grind
theorem Xd:∀(n:Nat)(t:Ty)(x:t.den E.D)(cs:J (TV E)),H7 E n t x=some cs->∀d∈cs,∃t y,d=TV.dat t y
 | 0,t,x,cs,h=>Xc (fun _ _ _ h=>by cases h) t x cs h
 | n+1,t,x,cs,h=>Xc (fun i x cs h=>Xd n (E.df i) (E.AE i x) cs h) t x cs h
theorem adp{w:U}{G G2:bq}(hp:∀b o,G.pr b o->G2.pr b o):∀ {ds:J (TV E)}{vs:J Value},(∀d∈ds,∃t y,d=TV.dat t y)->bI E w G ds vs->bI E w G2 ds vs
 | [],_,_,h=>by simp_all [bI]
 | d::ds,_,hd,h=>by
  obtain⟨u,us,rfl,h1,h2⟩:=h.cons_inv;obtain⟨t,y,rfl⟩:=hd d (qD ..);exact .cons (h1.sP hp) (adp hp (fun d h=>hd d (kf _ h)) h2)
theorem ahn(hp:∀b o,G.pr b o->G2.pr b o)(ls:J (Lf E))(h:bI E w G (CT.La ls).1 vs):bI E w G2 (CT.La ls).1 vs:=by
 cases ls with
 | nil=>simp_all [CT.La,bI]
 | cons l ls=>
  grind [CT.La,H7,bI,adp,Xd]
theorem CT.PJ(hL:Lc w G n G2 n2):∀(cs:J CT)(ls:J (Lf E)){vs:J Value},bI E w G (CT.pH n cs ls).1 vs->bI E w G2 (CT.pH n2 cs ls).1 vs
 | [],ls,vs,h=>by simp_all [CT.pH,bI]
 | c::cs,ls,vs,h=>by
  unfold CT.pH at h⊢;split at h
  ·obtain⟨us,ts,rfl,h1,h2⟩:=h.Xb
   refine bI.append (ahn hL.pr ls h1) ?_;exact CT.PJ hL cs _ h2
  ·rename_i ht
   obtain⟨u,us,rfl,h1,h2⟩:=h.cons_inv;refine .cons (CT.move hL c ls h1) ?_;rw [CT.zG n2 n];exact CT.PJ hL cs _ h2
theorem PT.move(hL:Lc w G n G2 n2)(p:PT)(ls:J (Lf E))(h:VT E w G (p.put n ls).1 v):VT E w G2 (p.put n2 ls).1 v:=by
 cases p with
 | one c=>exact CT.move hL c ls h
 | agg cs=>
  grind [PT.put,VT,CT.PJ]
 | dz cs=>
  grind [PT.put,VT,CT.PJ]
theorem BT.move(hL:Lc w G n G2 n2)(t:BT)(ls:J (Lf E)){b:Nat}(h:jS E w G b (t.put n ls).1):jS E w G2 b (t.put n2 ls).1:=by
 cases t with
 | cells ty cs=>
  obtain⟨vs,h1,h2,h3⟩:=h
  exact⟨vs,h1,h2,CT.PJ hL cs ls h3⟩
 | loop y cs=>
  obtain⟨Y,fn,tmps,D,h0,h1,h2⟩:=h
  exact⟨Y,fn,tmps,D,h0,h1,CT.PJ hL cs ls h2⟩
 | map kt vt=>cases ls with
  | nil=>exact h
  | cons l ls=>
   obtain⟨t,x⟩:=l;simp [BT.put] at h⊢;split at h
   ·rename_i kt' vt' m heq
    obtain⟨es,clock,h1,h2,h3⟩:=h;exact⟨es,clock,h1,h2,h3.pr hL.pr⟩
   ·exact h
 | iter=>cases ls with
  | nil=>exact h
  | cons l ls=>cases ls with
   | nil=>exact h
   | cons l' ls=>
    simp [BT.put] at h⊢;split at h<;>exact h
end
def vU:J Nat->Bool
 | []=>true
 | x::xs=>!(xs.elem x)&&vU xs
theorem vV:∀ {l:J Nat},vU l=true->l.Nodup
 | [],_=>Gf
 | x::xs,h=>by
  simp only [vU,cE] at h;refine Rx.2 ⟨fun hm=>?_,vV h.2⟩;rw [akX hm] at h;cases h.1
def pick{α:Type}(l:J α):J Nat->O (J α)
 | []=>some []
 | i::is=>match l[i]?,pick l is with
  | some x,some xs=>some (x::xs)
  | _,_=>none
theorem rI{α:Type}{l:J α}:∀ {is:J Nat}{xs:J α},pick l is=some xs->xs.length=is.length/\∀(r i:Nat),is[r]? = some i->∃x,xs[r]? = some x/\l[i]? = some x
 | [],xs,h=>by cases h;simp_all
 | i::is,xs,h=>by
  simp [pick] at h;split at h<;>try trivial
  rename_i x ys h1 h2;cases h;obtain⟨q1,q2⟩:=rI h2;refine⟨by simp [q1],fun r k hr=>?_⟩
  cases r with
  | zero=>simp at hr;subst hr;exact⟨x,rfl,h1⟩
  | succ r=>simpa using q2 r k (by simpa using hr)
theorem VH{α β:Type}{l:J α}{m:J β}(hl:l.length=m.length):∀ {is:J Nat}{xs:J α},pick l is=some xs->∃ys,pick m is=some ys
 | [],xs,h=>⟨[],rfl⟩
 | i::is,xs,h=>by
  simp [pick] at h;split at h<;>try trivial
  rename_i x ys h1 h2;obtain⟨zs,hz⟩:=VH hl h2
  grind [List.getElem?_eq_some_iff,pick,List.getElem?_eq_getElem]
def zH:J (aI×Nat)->J cH->Bool
 | [],[]=>true
 | p::ps,x::xs=>(Nat.beq p.1 x.e&&Nat.beq p.2 x.k)&&zH ps xs
 | _,_=>false
theorem C3:∀ {ps:J (aI×Nat)}{xs:J cH},zH ps xs=true->ps.length=xs.length/\∀(j:Nat) p x,ps[j]? = some p->xs[j]? = some x->p.1=x.e/\p.2=x.k
 | [],[],_=>⟨rfl,fun j p x h=>by simp at h⟩
 | p::ps,x::xs,h=>by
  simp only [zH,cE] at h;obtain⟨q1,q2⟩:=C3 h.2;refine⟨by simp [q1],fun j p' x' hp hx=>?_⟩
  cases j with
  | zero=>simp at hp hx;subst hp;subst hx;exact⟨eM h.1.1,eM h.1.2⟩
  | succ j=>exact q2 j p' x' (by simpa using hp) (by simpa using hx)
 | [],_::_,h=>by cases h
 | _::_,[],h=>by cases h
def dc.enter(s:dc)(bs gs:J Nat)(st:TS E)(ds:J (TV E)):Option (J (Lf E)):=
 match pick st.H bs,pick st.g gs with
 | some H,some g=>cond (vU bs&&(vU gs&&(Nat.beq bs.length s.boxes.length&&zH s.rows g)))
   (match TB ⟨bs,gs,g.map (·.aF)⟩ s.args ds,TC ⟨bs,gs,g.map (·.aF)⟩ s.boxes H,J7 (fun q=>gs[q]?) st.c s.soft with
    | some a,some b,some e=>some (a++(b++e))
    | _,_,_=>none) none
 | _,_=>none
section
variable {n2 : Rn}
theorem aah(hE:E.Ok)(hL:Cv w G n G2 n2):∀ {ps:J PT}{ds:J (TV E)}{ls rest:J (Lf E)}{vs:J Value},TB n ps ds=some ls->bI E w G ds vs ->
  (AY n2 ps (ls++rest)).2=rest/\bI E w G2 (AY n2 ps (ls++rest)).1 vs
 | [],[],ls,rest,vs,h,hv=>by cases h;simp [bI] at hv;subst hv;exact⟨rfl,bI.nil⟩
 | p::ps,d::ds,ls,rest,vs,h,hv=>by
  simp [TB] at h;split at h<;>try trivial
  rename_i l ls' h1 h2;cases h;obtain⟨u,us,rfl,q1,q2⟩:=hv.cons_inv;obtain⟨e1,e2⟩:=PT.sound hE hL (rest:=ls'++rest) h1 q1;obtain⟨e3,e4⟩:=aah hE hL h2 q2;simp [AY,e1]
  exact⟨e3,.cons e2 e4⟩
 | [],_::_,_,_,_,h,_=>by cases h
 | _::_,[],_,_,_,h,_=>by cases h
theorem aai(hE:E.Ok)(hL:Cv w G n G2 n2):∀ {ts:J BT}{xs:J (fM E)}{ls rest:J (Lf E)}{is:J Nat},TC n ts xs=some ls->is.length=xs.length->(∀(q b:Nat) x,is[q]? = some b->xs[q]? = some x->jS E w G b x) ->
  (yJ n2 ts (ls++rest)).1.length=ts.length/\(yJ n2 ts (ls++rest)).2=rest/\∀(q b:Nat) x,is[q]? = some b->(yJ n2 ts (ls++rest)).1[q]? = some x->jS E w G2 b x
 | [],[],ls,rest,is,h,_,hv=>by cases h;simp_all [yJ]
 | t::ts,x::xs,ls,rest,is,h,hil,hv=>by
  simp [TC] at h;split at h<;>try trivial
  rename_i l ls' h1 h2;cases h
  cases is with
  | nil=>simp at hil
  | cons i is=>
   obtain⟨e1,e2⟩:=BT.sound hE hL (rest:=ls'++rest) h1 (hv 0 i x si si);obtain⟨e3,e5,e4⟩:=aai hE hL h2 (by simpa using hil) (fun q b y hq hy=>hv (q+1) b y (by simpa using hq) (by simpa using hy));simp [yJ,e1];refine⟨by simp [e3],e5,fun q b y hq hy=>?_⟩
   cases q with
   | zero=>simp at hq hy;subst hq;subst hy;exact e2
   | succ q=>exact e4 q b y (by simpa using hq) (by simpa using hy)
 | [],_::_,_,_,_,h,_,_=>by cases h
 | _::_,[],_,_,_,h,_,_=>by cases h
end
def bq.dY(G:bq)(is:J Nat)(gs:J (cH×Value)):bq:=⟨is,gs.map fun x=>({x.1 with aF:=0},x.2),G.pr⟩
variable{P:bh}{w0 w':U}{G0 G':bq}{st:TS E}{a:Act}{bs gs:J Nat}{ls:J (Lf E)}
theorem Rel.enter(hE:E.Ok)(hr:Rel E w0 G0 st a w G){s:dc}{ds:J (TV E)}(h:s.enter bs gs st ds=some ls)(hv:bI E w G ds vs):
  ∃is gg,pick G.i bs=some is/\pick G.g gs=some gg/\lP E w (G.dY is gg) (s.H ls) s.g0/\kH E w (G.dY is gg) (s.c ls)/\bI E w (G.dY is gg) (s.ds ls) vs:=by
 unfold dc.enter at h;split at h<;>try trivial
 rename_i H g hH hg;cases hc:(vU bs&&(vU gs&&(Nat.beq bs.length s.boxes.length&&zH s.rows g)))<;>rw [hc] at h<;>simp only [aZ,aK] at h
 ·cases h
 simp only [cE] at hc;obtain⟨hn1,hn2,Gp,hrs⟩:=hc;have Gp:=eM Gp;obtain⟨hrl,hrs⟩:=C3 hrs;split at h<;>try trivial
 rename_i la lb le hla hlb hle;cases h;have hgs:=hr.boxes.gs;obtain⟨is,hi⟩:=VH hr.boxes.len.symm hH;obtain⟨gg,H9⟩:=VH (m:=G.g) (by rw [<-hgs];simp) hg;obtain⟨hHl,hHg⟩:=rI hH;obtain⟨hgl,aqV⟩:=rI hg;obtain⟨hil,hig⟩:=rI hi;obtain⟨an4,Ld⟩:=rI H9
 have hgr:∀(j:Nat) x y,gg[j]? = some x->g[j]? = some y->x.1=y:=fun j x y hx hy=>by
  have hj:j<gs.length:=by grind
  obtain⟨x',h1,h2⟩:=Ld j _ (fJ hj);obtain⟨y',h3,h4⟩:=aqV j _ (fJ hj)
  grind
 have hg0:(gg.map fun x=>({x.1 with aF:=0}:cH))=s.g0:=by
  unfold dc.g0;apply List.ext_getElem?
  grind
 have Fc:Cv w G ⟨bs,gs,g.map (·.aF)⟩ (G.dY is gg) s.n0:=by
  refine⟨fun _ _ h=>h,fun r r' b h1 h2=>?_,fun j j' v x hd h1 h2 h3=>?_⟩
  ·obtain⟨b',h3,h4⟩:=hig r r' h1
   rw [h2] at h4;cases h4;have hrl:r<s.boxes.length:=by grind
   exact⟨r,by simp [dc.n0,hrl],h3⟩
  ·grind [List.getElem?_eq_some_iff,List.getElem?_eq_getElem,dc.n0,bq.dY,dc.g0]
 obtain⟨p1,p2⟩:=aah hE Fc hla hv
 obtain⟨q1,q5,q2⟩:=aai hE Fc (rest:=le) (is:=is) hlb om (fun q b x hq hx=>by
  have tC:q<bs.length:=by grind
  obtain⟨b',h1,h2⟩:=hig q _ (fJ tC);obtain⟨x',h3,h4⟩:=hHg q _ (fJ tC);rw [hq] at h1;cases h1;rw [hx] at h3;cases h3;exact hr.boxes.box _ b x h2 h4)
 have hmem:∀b,b∈is->b∈G.i:=fun b hb=>by
  obtain⟨q,hq,rfl⟩:=lS hb;obtain⟨b',h1,h2⟩:=hig q _ (fJ om)
  grind
 have hrow:∀(j:Nat) x hd,((G.dY is gg).g)[j]? = some (x,hd)->∃j' y,gs[j]? = some j'/\G.g[j']? = some (y,hd)/\x={y with aF:=0}:=fun j x hd hj=>by
  simp only [bq.dY,Nb,Pj] at hj;have hjl:j<gs.length:=by grind
  obtain⟨x',h4,h5⟩:=Ld j _ (fJ hjl)
  grind
 have hnd:=vV hn1;have an5:=vV hn2;refine⟨is,gg,hi,H9,⟨?_,?_,fun r b x hb hx=>?_,fun b hb=>hr.boxes.lt b (hmem b hb),?_,fun b o hp=>⟨(hr.boxes.gq b o hp).1,fun hm=>(hr.boxes.gq b o hp).2 (hmem b hm)⟩,fun j x hd hj=>?_,fun j j' x hd x' hd' b hj hj' hb hb'=>?_⟩,?_,p2⟩
 ·show is.length=(s.H (la++(lb++le))).length
  grind [dc.H]
 ·grind [bq.dY,List.map_map,Function.comp_def]
 ·unfold dc.H at hx
  rw [p1] at hx;exact q2 r b x hb hx
 ·show is.Nodup
  refine ad8.2 fun p q hp hq hpq he=>?_;obtain⟨b1,h1,h2⟩:=hig p _ (fJ om);obtain⟨b2,h3,h4⟩:=hig q _ (fJ om);have:b1=b2:=by grind
  subst this;have e1:=eV.1 h2;have e2:=eV.1 h4;have:=(SJ hr.boxes.nodup).1 (e1.2.trans e2.2.symm)
  grind [List.getElem_inj]
 ·obtain⟨j',y,h1,h2,rfl⟩:=hrow j x hd hj
  obtain⟨n,xs,g1,g2,g3⟩:=hr.boxes.grow j' y hd h2;exact⟨n,xs,g1,g2,fun b hb=>⟨(g3 b hb).1,fun hm=>(g3 b hb).2.1 (hmem b hm),(g3 b hb).2.2⟩⟩
 ·obtain⟨i1,y,h1,h2,rfl⟩:=hrow j x hd hj
  obtain⟨i2,y',h3,h4,rfl⟩:=hrow j' x' hd' hj';have:=hr.boxes.apart i1 i2 y hd y' hd' b h2 h4 hb hb'
  grind [List.getElem?_eq_some_iff,List.getElem_inj]
 ·intro q c0 hm
  have hm:(q,c0)∈nu some s.soft (yJ s.n0 s.boxes (AY s.n0 s.args (la++(lb++le))).2).2:=hm;rw [p1,q5] at hm;obtain⟨q',j,-,e1,e2,e3⟩:=CZ (rest:=[]) hle (by rw [Yw];exact hm);cases e2;obtain⟨x,hd,h1,h2⟩:=hr.gr j c0 e3;obtain⟨x',h4,h5⟩:=Ld q j e1;rw [h1] at h5;cases h5;exact⟨{x with aF:=0},hd,by simp [bq.dY,h4],h2.keep rfl rfl (fun _ _ h=>h) (fun _ _ _ _ h=>h) (fun b _=>⟨rfl,fun _ h=>h⟩)⟩
def jX{α:Type}:J (Nat×α)->J α->J α
 | [],l=>l
 | (i,x)::ps,l=>jX ps (l.set i x)
theorem gH{α:Type}:∀(ps:J (Nat×α))(l:J α),(jX ps l).length=l.length
 | [],l=>rfl
 | (i,x)::ps,l=>by simp [jX,gH ps]
theorem tV{α:Type}:∀(ps:J (Nat×α))(l:J α)(q:Nat),q∉ps.map (·.1)->(jX ps l)[q]? = l[q]?
 | [],l,q,_=>rfl
 | (i,x)::ps,l,q,h=>by
  simp only [jU,iE,not_or] at h;rw [jX,tV ps _ q h.2,Na (fun e=>h.1 e.symm)]
theorem Ii{α:Type}:∀(ps:J (Nat×α))(l:J α)(q:Nat)(x:α),(ps.map (·.1)).Nodup->(q,x)∈ps->q<l.length->(jX ps l)[q]? = some x
 | (i,y)::ps,l,q,x,hn,hm,hq=>by
  simp only [jU,Rx] at hn;rcases iE.1 hm with he|hm
  ·obtain⟨rfl,rfl⟩:=he
   rw [jX,tV ps _ _ hn.1,Yy hq]
  ·exact Ii ps _ q x hn.2 hm (by simpa using hq)
def qc{α:Type}:J (O BT)->J Nat->J α->J (Nat×α)
 | some _::os,i::is,x::xs=>(i,x)::qc os is xs
 | none::os,_::is,_::xs=>qc os is xs
 | _,_,_=>[]
theorem AZ{α:Type}:∀ {os:J (O BT)}{is:J Nat}{xs:J α}{i:Nat}{x:α},(i,x)∈qc os is xs->∃(r:Nat)(t:BT),os[r]? = some (some t)/\is[r]? = some i/\xs[r]? = some x
 | some t::os,j::is,y::xs,i,x,h=>by
  rcases iE.1 h with he|h
  ·cases he;exact⟨0,t,rfl,rfl,rfl⟩
  ·obtain⟨r,t',h1,h2,h3⟩:=AZ h
   exact⟨r+1,t',by simpa using h1,by simpa using h2,by simpa using h3⟩
 | none::os,j::is,y::xs,i,x,h=>by
  obtain⟨r,t',h1,h2,h3⟩:=AZ (xs:=xs) h
  exact⟨r+1,t',by simpa using h1,by simpa using h2,by simpa using h3⟩
 | [],_,_,_,_,h=>by cases h
 | some _::_,[],_,_,_,h=>by cases h
 | none::_,[],_,_,_,h=>by cases h
 | some _::_,_::_,[],_,_,h=>by cases h
 | none::_,_::_,[],_,_,h=>by cases h
theorem Le{α:Type}:∀ {os:J (O BT)}{is:J Nat}{xs:J α}(r:Nat){t:BT}{i:Nat}{x:α},os[r]? = some (some t)->is[r]? = some i->xs[r]? = some x->(i,x)∈qc os is xs
 | o::os,j::is,y::xs,0,t,i,x,h1,h2,h3=>by
  simp_all [qc]
 | o::os,j::is,y::xs,r+1,t,i,x,h1,h2,h3=>by
  have:=Le r (by simpa using h1) (by simpa using h2) (by simpa using h3)
  cases o<;>simp [qc,this]
 | [],_,_,_,_,_,_,h,_,_=>by simp at h
 | _::_,[],_,_,_,_,_,_,h,_=>by simp at h
 | _::_,_::_,[],_,_,_,_,_,_,h=>by simp at h
theorem GB{α:Type}:∀ {os:J (O BT)}{is:J Nat}{xs:J α},is.Nodup->((qc os is xs).map (·.1)).Nodup
 | some t::os,j::is,y::xs,h=>by
  rw [Rx] at h;simp only [qc,jU,Rx];refine⟨fun hm=>?_,GB h.2⟩;obtain⟨p,hp,he⟩:=rD.1 hm;obtain⟨i,x⟩:=p;obtain⟨r,t',-,h2,-⟩:=AZ hp
  exact h.1 (by rw [<-show i=j from he];exact jo h2)
 | none::os,j::is,y::xs,h=>GB (xs:=xs) (Rx.1 h).2
 | [],_,_,_=>Gf
 | some _::_,[],_,_=>Gf
 | none::_,[],_,_=>Gf
 | some _::_,_::_,[],_=>Gf
 | none::_,_::_,[],_=>Gf
theorem PK:∀ {bs:J (O BT)}{r q:Nat},r+q∈Dt r bs->∃t,bs[q]? = some (some t)
 | [],_,_,h=>by cases h
 | none::bs,r,q,h=>by
  simp [Dt] at h
  cases q with
  | zero=>
   have key:∀(bs:J (O BT))(r x:Nat),x∈Dt r bs->r<=x:=by
    intro bs
    induction bs with
    | nil=>intro r x h;cases h
    | cons o bs ih=>
     intro r x h
     cases o with
     | none=>have:=ih (r+1) x h;omega
     | some t=>rcases List.mem_cons.1 h with rfl|h;exact Nat.le_refl _;grind
   grind
  | succ q=>
   obtain⟨t,ht⟩:=PK (bs:=bs) (r:=r+1) (q:=q) (by grind)
   simp_all
 | some t::bs,r,q,h=>by
  cases q with
  | zero=>exact⟨t,rfl⟩
  | succ q=>
   rcases iE.1 h with he|h
   ·omega
   ·obtain⟨t,ht⟩:=PK (by rw [show r+1+q=r+(q+1) by omega];exact h)
    exact⟨t,by simpa using ht⟩
def rowAt:O (aI×Nat)->O cH->cH
 | none,some x=>x
 | some p,some x=>⟨x.aF+1,p.1,p.2⟩
 | some p,none=>⟨0,p.1,p.2⟩
 | none,none=>⟨0,0,0⟩
theorem nv:∀(rs:J (O (aI×Nat)))(g:J cH),(dX rs g).length=rs.length
 | [],_=>rfl
 | none::rs,_::g=>by simp_all [dX,nv]
 | some _::rs,_::g=>by simp_all [dX,nv]
 | some _::rs,[]=>by simp_all [dX,nv]
 | none::rs,[]=>by simp_all [dX,nv]
theorem C4:∀(rs:J (O (aI×Nat)))(g:J cH)(j:Nat)(o:O (aI×Nat)),rs[j]? = some o->(dX rs g)[j]? = some (rowAt o g[j]?)
 | [],_,_,_,h=>by simp at h
 | r::rs,x::g,0,o,h=>by simp at h;subst h;cases r<;>simp [dX,rowAt]
 | r::rs,[],0,o,h=>by simp at h;subst h;cases r<;>simp [dX,rowAt]
 | r::rs,x::g,j+1,o,h=>by
  have:=C4 rs g j o (by simpa using h)
  cases r<;>simpa [dX] using this
 | r::rs,[],j+1,o,h=>by
  have:=C4 rs [] j o (by simpa using h);cases r<;>simpa [dX] using this
theorem oh(n:Rn):∀(bs:J (O BT))(H:J (fM E))(ls:J (Lf E)),(eO n bs H ls).length=bs.length
 | [],_,_=>rfl
 | none::bs,H,ls=>by simp_all [eO,oh]
 | some t::bs,H,ls=>by simp_all [eO,oh]
theorem Ef{w:U}{G G2:bq}{n n2:Rn}(hL:Lc w G n G2 n2):∀(bs:J (O BT))(H H':J (fM E))(ls:J (Lf E))(r:Nat){t:BT}{b:Nat}{x y:fM E},bs[r]? = some (some t) ->
  (eO n bs H ls)[r]? = some x->(eO n2 bs H' ls)[r]? = some y->jS E w G b x->jS E w G2 b y
 | [],_,_,_,_,_,_,_,_,h,_,_,_=>by simp at h
 | none::bs,H,H',ls,r+1,t,b,x,y,h,hx,hy,hb=>Ef hL bs H.tail H'.tail ls r (by simpa using h) (by simpa [eO] using hx) (by simpa [eO] using hy) hb
 | none::bs,H,H',ls,0,t,b,x,y,h,hx,hy,hb=>by simp at h
 | some t'::bs,H,H',ls,0,t,b,x,y,h,hx,hy,hb=>by
  grind [eO,BT.move]
 | some t'::bs,H,H',ls,r+1,t,b,x,y,h,hx,hy,hb=>by
  simp [eO] at hx hy;rw [BT.zG n2 n] at hy;exact Ef hL bs H.tail H'.tail _ r (by simpa using h) hx hy hb
def zI:Nat->J (O BT)->Bool
 | 0,[]=>true
 | 0,some _::bs=>zI 0 bs
 | 0,none::_=>false
 | _+1,[]=>false
 | n+1,_::bs=>zI n bs
theorem Ji:∀ {n:Nat}{bs:J (O BT)},zI n bs=true->n<=bs.length/\∀r,n<=r->r<bs.length->∃t,bs[r]? = some (some t)
 | 0,[],_=>⟨ek _,fun r _ h=>by simp at h⟩
 | 0,some t::bs,h=>by
  obtain⟨_,q⟩:=Ji (bs:=bs) h
  grind
 | 0,none::_,h=>by cases h
 | _+1,[],h=>by cases h
 | n+1,o::bs,h=>by
  obtain⟨q1,q2⟩:=Ji (n:=n) h;refine⟨by simpa using q1,fun r h1 h2=>?_⟩
  cases r with
  | zero=>omega
  | succ r=>simp_all
def J9(gs:J Nat):J (Nat×Cn E)->J (Nat×Cn E)
 | []=>[]
 | p::cs=>cond (gs.elem p.1) (J9 gs cs) (p::J9 gs cs)
theorem A9{gs:J Nat}:∀ {cs:J (Nat×Cn E)}{i:Nat}{c:Cn E},(i,c)∈J9 gs cs->(i,c)∈cs/\i∉gs
 | [],i,c,h=>by cases h
 | p::cs,i,c,h=>by
  simp only [J9] at h;cases hb:gs.elem p.1<;>rw [hb] at h<;>simp only [aZ,aK] at h
  ·rcases iE.1 h with h|h
   ·refine⟨by rw [h];simp,fun e=>?_⟩
    rw [<-h] at hb;rw [akX e] at hb;cases hb
   ·exact⟨kf _ (A9 h).1,(A9 h).2⟩
  ·exact⟨kf _ (A9 h).1,(A9 h).2⟩
theorem Ba{f:Nat->O Nat}:∀ {ps:J (Nat×Ty)}{ls:J (Lf E)}{i:Nat}{c:Cn E},(i,c)∈nu f ps ls->∃q,f q=some i/\(q,c)∈nu some ps ls
 | [],ls,i,c,h=>by cases ls<;>cases h
 | p::ps,[],i,c,h=>by cases h
 | p::ps,l::ls,i,c,h=>by
  obtain⟨q,t⟩:=p;obtain⟨t',x⟩:=l;simp [nu] at h⊢
  cases hf:f q with
  | none=>
   rw [hf] at h;obtain⟨q',e1,e2⟩:=Ba (by cases t'<;>exact h);refine⟨q',e1,?_⟩
   cases t'<;>first|exact e2|simp_all
  | some i'=>
   rw [hf] at h
   cases t' with
   | bn t'=>
    rcases iE.1 h with e|h
    ·cases e;exact⟨q,hf,qD ..⟩
    ·obtain⟨q',e1,e2⟩:=Ba h
     exact⟨q',e1,kf _ e2⟩
   | _=>
    simp_all [Ba]
def Outs.n2(o:Outs)(bs gs:J Nat)(st:TS E):Rn:=
 ⟨bs++List.range' st.H.length (o.boxes.length-bs.length),gs++List.range' st.g.length (o.rows.length-gs.length),(dX o.rows ((pick st.g gs).getD [])).map (·.aF)⟩
def Outs.val(o:Outs)(bs gs:J Nat)(st:TS E)(ls:J (Lf E)):TV E:=(o.res.put (o.n2 bs gs st) ls).1
def Outs.hc(o:Outs)(bs gs:J Nat)(st:TS E)(ls:J (Lf E)):J (fM E):=eO (o.n2 bs gs st) o.boxes [] (o.res.put (o.n2 bs gs st) ls).2
def Outs.after(o:Outs)(bs gs:J Nat)(st:TS E)(ls:J (Lf E)):TS E:=
 {st with
  H:=jX (qc o.boxes bs (o.hc bs gs st ls)) st.H++(o.hc bs gs st ls).drop bs.length
  g:=jX (gs.zip (dX o.rows ((pick st.g gs).getD []))) st.g++(dX o.rows ((pick st.g gs).getD [])).drop gs.length
  d:=(qc o.boxes bs (o.hc bs gs st ls)).map (·.1)++st.d
  c:=nu (fun q=>(o.n2 bs gs st).g[q]?) o.soft (pQ o.boxes (o.res.put (o.n2 bs gs st) ls).2)++J9 gs st.c}
theorem N0{α:Type}:∀ {l:J Nat}{m:J α},l.Nodup->((l.zip m).map (·.1)).Nodup
 | [],_,_=>Gf
 | _::_,[],_=>Gf
 | x::l,y::m,h=>by
  rw [Rx] at h;simp only [List.zip_cons_cons,jU,Rx];refine⟨fun hm=>h.1 ?_,N0 h.2⟩;obtain⟨p,hp,he⟩:=rD.1 hm;rw [<-he];exact (aep hp).1
theorem Jj{α:Type}:∀ {l:J Nat}{m:J α}(j:Nat){i:Nat}{x:α},l[j]? = some i->m[j]? = some x->(i,x)∈l.zip m
 | y::l,z::m,0,i,x,h1,h2=>by simp_all
 | y::l,z::m,j+1,i,x,h1,h2=>by
  have:=Jj j (by simpa using h1) (by simpa using h2)
  simp [this]
 | [],_,_,_,_,h,_=>by simp at h
 | _::_,[],_,_,_,_,h=>by simp at h
variable{is:J Nat}{gg:J (cH×Value)}
theorem Rel.leave(hr:Rel E w0 G0 st a w G)(hi:pick G.i bs=some is)(hg:pick G.g gs=some gg)(hn1:bs.Nodup)(hn2:gs.Nodup)(o:Outs)
  (hb:zI bs.length o.boxes=true) (hgl:gs.length<=o.rows.length) {H0:J (fM E)}   (hE:kQ w (G.dY is gg) w' G')
  (hB:lP E w' G' (eO (o.n1 ((G.dY is gg).g.map (·.1))) o.boxes H0 (o.res.put (o.n1 ((G.dY is gg).g.map (·.1))) ls).2) (dX o.rows ((G.dY is gg).g.map (·.1))))
  (hS:kH E w' G' (nu some o.soft (pQ o.boxes (o.res.put (o.n1 ((G.dY is gg).g.map (·.1))) ls).2)))
  (hv:VT E w' G' (o.res.put (o.n1 ((G.dY is gg).g.map (·.1))) ls).1 v) (Lg:∀(q b:Nat),is[q]? = some b->q∉Dt 0 o.boxes->w'.heap[b]? = w.heap[b]?) :
  ∃Gn,Rel E w0 G0 (o.after bs gs st ls) a w' Gn/\VT E w' Gn (o.val bs gs st ls) v:=by
 obtain⟨Gp,hsome⟩:=Ji hb;obtain⟨hil,hig⟩:=rI hi;obtain⟨an4,Ld⟩:=rI hg;have hlen:=hr.boxes.len;have hgs:=hr.boxes.gs;have an6:G.g.length=st.g.length:=hr.qb
 have apC:pick st.g gs=some (gg.map (·.1)):=by
  have key:∀(l:J Nat)(ys:J (cH×Value)),pick G.g l=some ys->pick st.g l=some (ys.map (·.1)):=by
   intro l
   induction l with
   | nil=>intro ys h;cases h;rfl
   | cons i l ih=>
    grind [pick]
  exact key gs gg hg
 have hpg:(pick st.g gs).getD []=gg.map (·.1):=by rw [apC];rfl
 let g0:J cH:=(G.dY is gg).g.map (·.1)
 have ar0:g0.length=gs.length:=by simp [g0,bq.dY,an4]
 let nc:=dX o.rows g0
 let ng:=dX o.rows (gg.map (·.1))
 have aqW:nc.length=o.rows.length:=nv _ _;have an7:ng.length=o.rows.length:=nv _ _;have aqX:G'.i.length=o.boxes.length:=by rw [hB.len,oh]
 have an8:G'.g.map (·.1)=nc:=hB.gs;have afn:G'.g.length=o.rows.length:=by rw [<-aqW,<-an8];simp
 have apD:∀(r b:Nat),is[r]? = some b->G'.i[r]? = some b:=fun r b h=>hE.goes.i r b h
 let o6:J (cH×Value):=ng.zip (G'.g.map (·.2))
 have apE:o6.length=o.rows.length:=by simp [o6,an7,afn]
 have afo:o6.map (·.1)=ng:=by
  simp only [o6];rw [List.map_fst_zip];simp [an7,afn]
 let Gn:bq:=⟨G.i++G'.i.drop bs.length,jX (gs.zip o6) G.g++o6.drop gs.length,G'.pr⟩
 have hent:∀(j:Nat) y,o6[j]? = some y->∃ro x' ,o.rows[j]? = some ro/\G'.g[j]? = some (x',y.2)/\x'=rowAt ro g0[j]?/\y.1=rowAt ro (gg.map (·.1))[j]?:=by
  intro j y hj;have hjl:j<o.rows.length:=by rw [<-apE];exact (eV.1 hj).1
  have hro:=fJ hjl;have h1:=C4 o.rows (gg.map (·.1)) j _ hro;have h2:=C4 o.rows g0 j _ hro
  grind
 have hold:∀(j j':Nat) x h,gs[j]? = some j'->G.g[j']? = some (x,h)->gg[j]? = some (x,h)/\g0[j]? = some {x with aF:=0}/\(gg.map (·.1))[j]? = some x:=by
  intro j j' x h h1 h2;obtain⟨y,h3,h4⟩:=Ld j j' h1;rw [h2] at h4;cases h4;refine⟨h3,?_,by simp [h3]⟩;simp [g0,bq.dY,h3]
 have apF:∀(j j':Nat) x h,gs[j]? = some j'->G.g[j']? = some (x,h)->∃y,o6[j]? = some y/\x.aF<=y.1.aF/\(x.aF=y.1.aF->y.2=h):=by
  intro j j' x h h1 h2;have hjl:j<gs.length:=(eV.1 h1).1;have hjn:j<o6.length:=om;obtain⟨ro,x',q1,q2,q3,q4⟩:=hent j _ (fJ hjn);obtain⟨o1,o2,o3⟩:=hold j j' x h h1 h2;rw [o2] at q3;rw [o3] at q4;refine⟨_,fJ hjn,?_,fun e=>?_⟩
  ·rw [q4];cases ro<;>simp [rowAt]
  ·rw [q4] at e
   cases ro with
   | some p=>simp [rowAt] at e
   | none=>
    simp only [rowAt] at q3;have hsel:((G.dY is gg).g)[j]? = some ({x with aF:=0},h):=by simp [bq.dY,o1]
    obtain⟨x2,h3,r1,r2,r3⟩:=hE.goes.g j _ h hsel;rw [q2] at r1;cases r1;exact r3 (by rw [q3])
 have hgn:∀(q:Nat) y,Gn.g[q]? = some y->(q∉gs/\G.g[q]? = some y)\/∃j,o6[j]? = some y/\((gs[j]? = some q/\q<G.g.length)\/(gs.length<=j/\q=G.g.length+(j-gs.length))):=by
  intro q y hq;have hq:(jX (gs.zip o6) G.g++o6.drop gs.length)[q]? = some y:=hq;by_cases tC:q<G.g.length
  ·rw [vq (by rw [gH];exact tC)] at hq
   by_cases hm:q∈gs
   ·obtain⟨j,hj,rfl⟩:=lS hm
    grind [Ii,N0,Jj,List.getElem?_eq_getElem]
   ·rw [tV _ _ q (fun hmm=>hm (by obtain⟨p,hp,he⟩:=rD.1 hmm;rw [<-he];exact (aep hp).1))] at hq
    exact .inl ⟨hm,hq⟩
  ·rw [I7 (by rw [gH];omega),gH,Pt] at hq
   exact .inr ⟨gs.length+(q-G.g.length),hq,.inr ⟨om,om⟩⟩
 have aaj:∀(j q:Nat) y,gs[j]? = some q->q<G.g.length->o6[j]? = some y->Gn.g[q]? = some y:=by
  intro j q y h1 h2 h3;show (jX (gs.zip o6) G.g++o6.drop gs.length)[q]? = some y;rw [vq (by rw [gH];exact h2)];exact Ii (gs.zip o6) G.g q y (N0 hn2) (Jj j h1 h3) h2
 have adq:∀(q:Nat) y,q∉gs->G.g[q]? = some y->Gn.g[q]? = some y:=by
  intro q y h1 h2;have tC:=(eV.1 h2).1;show (jX (gs.zip o6) G.g++o6.drop gs.length)[q]? = some y;rw [vq (by rw [gH];exact tC),tV _ _ q (fun hmm=>h1 (by obtain⟨p,hp,he⟩:=rD.1 hmm;rw [<-he];exact (aep hp).1))];exact h2
 have adr:∀(j:Nat) y,gs.length<=j->o6[j]? = some y->Gn.g[G.g.length+(j-gs.length)]? = some y:=by
  intro j y h1 h2;show (jX (gs.zip o6) G.g++o6.drop gs.length)[G.g.length+(j-gs.length)]? = some y;rw [I7 (by rw [gH];omega),gH,Pt];rw [show gs.length+(G.g.length+(j-gs.length)-G.g.length)=j by omega];exact h2
 have Lh:iB w G w' Gn:=by
  refine⟨hE.goes.pr,hE.goes.cells,fun r b h=>?_,fun q x h hq=>?_⟩
  ·show (G.i++G'.i.drop bs.length)[r]? = some b
   rw [vq (eV.1 h).1];exact h
  ·by_cases hm:q∈gs
   ·obtain⟨j,hj,rfl⟩:=lS hm
    obtain⟨y,h1,h2,h3⟩:=apF j _ x h (fJ hj) hq;exact⟨y.1,y.2,aaj j _ y (fJ hj) (eV.1 hq).1 h1,h2,h3⟩
   ·exact⟨x,h,adq q _ hm hq,ek _,fun _=>rfl⟩
 have ev:=hr.eX
 have aak:∀b,b∈is->b∈G.i:=fun b hb=>by
  obtain⟨q,hq,rfl⟩:=lS hb;obtain⟨b',h1,h2⟩:=hig q _ (fJ om);rw [fJ hq] at h1;cases h1;exact jo h2
 have Cw:∀b,(G.dY is gg).rows b->∃(j j':Nat)(x:cH)(h:Value),gs[j]? = some j'/\G.g[j']? = some (x,h)/\h.ownBlock=some b:=by
  rintro b ⟨x,h,hm,hbk⟩;obtain⟨j,hj,he⟩:=lS hm;have hj2:j<gg.length:=by simpa [bq.dY] using hj
  obtain⟨y,h1,h2⟩:=Ld j _ (fJ om);rw [fJ hj2] at h1;have h1:=qE h1
  have WH:gg[j].2=h:=by
   have:=congrArg Prod.snd he;simpa [bq.dY] using this
  refine⟨j,_,y.1,y.2,fJ om,h2,?_⟩;rw [<-h1,WH];exact hbk
 have Ka:∀(j:Nat) x h b,G.g[j]? = some (x,h)->h.ownBlock=some b->b<w.heap.size/\b∉G.i:=fun j x h b hj hb=>by
  obtain⟨n,xs,-,-,q⟩:=hr.boxes.grow j x h hj;exact⟨(q b hb).1,(q b hb).2.1⟩
 have hsame:∀(q b:Nat),G.i[q]? = some b->q∉bs->w'.heap[b]? = w.heap[b]?:=by
  intro q b hq hnb;refine hE.old b (hr.boxes.lt b (jo hq)) (fun hf=>?_);rcases hf with hf|hf
  ·obtain⟨r,hrl,he⟩:=lS hf
   have an9:r<bs.length:=by
    have:r<is.length:=hrl;omega
   obtain⟨b',h1,h2⟩:=hig r _ (fJ an9);have h1':is[r]? = some b:=by rw [<-he];exact fJ hrl
   rw [h1'] at h1;cases h1;have e1:=eV.1 hq;have e2:=eV.1 h2;have:q=bs[r]:=(SJ hr.boxes.nodup).1 (e1.2.trans e2.2.symm);exact hnb (by rw [this];exact gU an9)
  ·obtain⟨j,j',x,h,-,h2,h3⟩:=Cw b hf
   exact (Ka j' x h b h2 h3).2 (jo hq)
 have afp:∀(q b:Nat),Gn.i[q]? = some b->G.i[q]? = some b\/(G.i.length<=q/\G'.i[bs.length+(q-G.i.length)]? = some b/\w.heap.size<=b):=by
  intro q b hq;have hq:(G.i++G'.i.drop bs.length)[q]? = some b:=hq;by_cases tC:q<G.i.length
  ·rw [vq tC] at hq;exact .inl hq
  ·rw [I7 om,Pt] at hq
   exact .inr ⟨om,hq,hE.qH _ b (by show is.length<=_;omega) hq⟩
 have YV:∀b,b∈Gn.i->b∈G.i\/(b∈G'.i/\w.heap.size<=b):=fun b hb=>by
  obtain⟨q,hq,he⟩:=lS hb;rcases afp q b (by rw [<-he];exact fJ hq) with h|⟨-,h1,h2⟩
  ·exact .inl (jo h)
  ·exact .inr ⟨jo h1,h2⟩
 have hblk:∀(j:Nat) x h b,G'.g[j]? = some (x,h)->h.ownBlock=some b->w.heap.size<=b\/∃(j':Nat)(x0:cH)(h0:Value),gs[j]? = some j'/\G.g[j']? = some (x0,h0)/\h0.ownBlock=some b:=by
  intro j x h b hj hbk;rcases hE.gL j x h b hj hbk with q|⟨x0,h0,q1,q2⟩
  ·exact .inl q
  ·have EF:j<gg.length:=by
    have:=(eV.1 q1).1;simpa [bq.dY] using this
   obtain⟨y,h1,h2⟩:=Ld j _ (fJ om)
   grind [List.getElem?_eq_getElem,Option.some.inj,bq.dY]
 have Fc:Lc w' G' (o.n1 g0) Gn (o.n2 bs gs st):=by
  refine⟨⟨fun _ _ h=>h,fun r r' b h1 h2=>?_,fun j j' vv x h h1 h2 h3=>?_⟩,?_,?_,?_⟩
  ·obtain⟨rfl,hlt⟩:=W9 h1
   by_cases hrb:r'<bs.length
   ·refine⟨bs[r'],by simp [Outs.n2,vq hrb,hrb],?_⟩
    obtain⟨b',q1,q2⟩:=hig r' _ (fJ hrb);have:=apD r' b' q1;rw [h2] at this;cases this;show (G.i++G'.i.drop bs.length)[bs[r']]? = some b;rw [vq (eV.1 q2).1];exact q2
   ·refine⟨st.H.length+(r'-bs.length),?_,?_⟩
    ·simp only [Outs.n2]
     rw [I7 om];rw [aeq om];simp
    ·show (G.i++G'.i.drop bs.length)[st.H.length+(r'-bs.length)]? = some b
     rw [<-hlen,I7 om,Pt,show bs.length+(G.i.length+(r'-bs.length)-G.i.length)=r' by omega];exact h2
  ·obtain⟨rfl,hlt⟩:=W9 h1
   have hjn:j'<o6.length:=om;obtain⟨ro,x',q1,q2,q3,q4⟩:=hent j' _ (fJ hjn);rw [h3] at q2;have q2:=qE q2;simp only [aea] at q2
   have TA:x.aF=vv:=by
    have h2:(nc.map (·.aF))[j']? = some vv:=h2;rw [<-an8,Ah,Nb,h3] at h2;simpa using h2
   refine⟨TA,?_⟩
   have qS:((dX o.rows ((pick st.g gs).getD [])).map (·.aF))[j']? = some o6[j'].1.aF:=by
    rw [hpg,show dX o.rows (gg.map (·.1))=ng from rfl,<-afo];simp [hjn]
   by_cases EF:j'<gs.length
   ·obtain⟨y,r1,r2⟩:=Ld j' _ (fJ EF)
    refine⟨gs[j'],o6[j'].1.aF,o6[j'].1,by simp [Outs.n2,vq EF,EF],qS,?_,rfl⟩;rw [aaj j' _ _ (fJ EF) (eV.1 r2).1 (fJ hjn),q2.2]
   ·refine⟨st.g.length+(j'-gs.length),o6[j'].1.aF,o6[j'].1,?_,qS,?_,rfl⟩
    ·simp only [Outs.n2]
     rw [I7 om,aeq om];simp
    ·rw [<-an6,adr j' _ om (fJ hjn),q2.2]
  ·simp [Outs.n1,Outs.n2];omega
  ·simp [Outs.n1,Outs.n2];omega
  ·simp [Outs.n1,Outs.n2,nv]
 have hval:VT E w' Gn (o.val bs gs st ls) v:=PT.move Fc o.res ls hv;have fC:(o.res.put (o.n2 bs gs st) ls).2=(o.res.put (o.n1 g0) ls).2:=PT.zG _ _ _ _;have aqY:(o.hc bs gs st ls).length=o.boxes.length:=oh _ _ _ _
 have arO:∀(r b:Nat) t y,o.boxes[r]? = some (some t)->G'.i[r]? = some b->(o.hc bs gs st ls)[r]? = some y->jS E w' Gn b y:=by
  intro r b t y h1 h2 h3;have hrl:r<o.boxes.length:=(eV.1 h1).1;have hx:r<(eO (o.n1 g0) o.boxes H0 (o.res.put (o.n1 g0) ls).2).length:=by rw [oh];exact hrl
  have hbx:=hB.box r b _ h2 (fJ hx);unfold Outs.hc at h3;rw [fC] at h3;exact Ef Fc o.boxes H0 [] _ r h1 (fJ hx) h3 hbx
 refine⟨Gn,⟨⟨hE.os.trans ev.os,hE.tape.trans ev.tape,hE.output.trans ev.output,oD ev.size hE.size,fun b hb hnf=>?_,ev.goes.trans Lh,fun b oo hb hp=>?_,fun q b h1 h2=>?_,fun q x h b hq hbk=>?_⟩,hr.size,fun j d hj=>(hr.tmps j d hj).mono Lh,hr.defers.mono Lh,?_,fun r b hb hd=>?_,hr.pins,?_⟩,hval⟩
 ·refine (hE.old b (jN hb ev.size) (fun hf=>?_)).trans (ev.old b hb hnf)
  rcases hf with hf|hf
  ·have hbi:=aak b hf
   obtain⟨q,hq,he⟩:=lS hbi;have TD:G.i[q]? = some b:=by rw [<-he];exact fJ hq
   by_cases tC:q<G0.i.length
   ·have e1:=ev.goes.i q _ (fJ tC)
    rw [TD] at e1;exact hnf (.inl (by rw [qE e1];exact gU tC))
   ·have:=ev.qH q b om TD;omega
  ·obtain⟨j,j',x,h,-,h2,h3⟩:=Cw b hf
   rcases ev.gL j' x h b h2 h3 with q|⟨x0,h0,q1,q2⟩
   ·omega
   ·exact hnf (.inr ⟨x0,h0,jo q1,q2⟩)
 ·rcases hE.oe b oo (jN hb ev.size) hp with q|q
  ·exact ev.oe b oo hb q
  ·obtain⟨j,j',x,h,-,h2,h3⟩:=Cw b q
   rcases ev.gL j' x h b h2 h3 with q|⟨x0,h0,q1,q2⟩
   ·omega
   ·exact .inr ⟨x0,h0,jo q1,q2⟩
 ·rcases afp q b h2 with h|⟨-,-,h⟩
  ·exact ev.qH q b h1 h
  ·exact oD ev.size h
 ·rcases hgn q (x,h) hq with⟨-,h1⟩|⟨j,h1,h2⟩
  ·exact ev.gL q x h b h1 hbk
  ·obtain⟨ro,x',q1,q2,-,-⟩:=hent j _ h1
   rcases hblk j x' h b q2 hbk with q|⟨j',x0,h0,q3,q4,q5⟩
   ·exact .inl (oD ev.size q)
   ·rcases h2 with⟨h2,-⟩|⟨h2,-⟩
    ·rw [h2] at q3;cases q3
     exact ev.gL q x0 h0 b q4 q5
    ·have:=(eV.1 q3).1;omega
 ·refine⟨?_,?_,fun q b y hq hy=>?_,fun b hb=>?_,?_,fun b oo hp=>?_,fun q x h hq=>?_,fun q q' x h x' h' b hq Zf vz nN=>?_⟩
  ·show (G.i++G'.i.drop bs.length).length=(jX (qc o.boxes bs (o.hc bs gs st ls)) st.H++(o.hc bs gs st ls).drop bs.length).length
   simp only [tM,KJ,gH,aqY,aqX,hlen]
  ·show (jX (gs.zip o6) G.g++o6.drop gs.length).map (·.1)=jX (gs.zip (dX o.rows ((pick st.g gs).getD []))) st.g++(dX o.rows ((pick st.g gs).getD [])).drop gs.length
   rw [hpg,uY,List.map_drop,afo];congr 1
   have key:∀(l:J Nat)(m:J (cH×Value))(g:J (cH×Value)),(jX (l.zip m) g).map (·.1)=jX (l.zip (m.map (·.1))) (g.map (·.1)):=by
    intro l
    induction l with
    | nil=>intro m g;rfl
    | cons i l ih=>
     intro m g
     cases m with
     | nil=>rfl
     | cons y m=>
      simp only [List.zip_cons_cons,jU,jX];rw [ih,Yx]
   rw [key,afo,hgs]
  ·have hy:(jX (qc o.boxes bs (o.hc bs gs st ls)) st.H++(o.hc bs gs st ls).drop bs.length)[q]? = some y:=hy
   rcases afp q b hq with h|⟨h1,h2,h3⟩
   ·have tC:q<st.H.length:=by rw [<-hlen];exact (eV.1 h).1
    rw [vq (by rw [gH];exact tC)] at hy;by_cases hm:q∈bs
    ·obtain⟨r,hrl,rfl⟩:=lS hm
     obtain⟨b',q1,q2⟩:=hig r _ (fJ hrl);rw [h] at q2;cases q2
     cases TE:o.boxes[r]? with
     | none=>rw [List.getElem?_eq_none_iff] at TE;omega
     | some ob=>
      cases ob with
      | some t=>
       grind [Ii,GB,Le,List.getElem?_eq_getElem]
      | none=>
       rw [tV _ _ _ (fun hmm=>by
        obtain⟨p,hp,he⟩:=rD.1 hmm;obtain⟨i,x⟩:=p;obtain⟨r',t',e1,e2,-⟩:=AZ hp;have e2':=eV.1 e2;have:r'=r:=(SJ hn1).1 (e2'.2.trans he);subst this;rw [TE] at e1;cases e1)] at hy
       refine (hr.boxes.box _ b y h hy).mono Lh (Lg r b q1 (fun hc=>?_));rw [<-qC r] at hc;obtain⟨t,ht⟩:=PK hc;rw [TE] at ht;cases ht
    ·rw [tV _ _ _ (fun hmm=>by
      obtain⟨p,hp,he⟩:=rD.1 hmm;obtain⟨i,x⟩:=p;obtain⟨r',t',-,e2,-⟩:=AZ hp;exact hm (by rw [<-show i=q from he];exact jo e2))] at hy
     exact (hr.boxes.box q b y h hy).mono Lh (hsame q b h hm)
   ·rw [I7 (by rw [gH,<-hlen];omega),gH,Pt,<-hlen] at hy
    grind
  ·rcases YV b hb with h|⟨h,-⟩
   ·exact jN (hr.boxes.lt b h) hE.size
   ·exact hB.lt b h
  ·show (G.i++G'.i.drop bs.length).Nodup
   refine List.nodup_append.2 ⟨hr.boxes.nodup,(List.drop_sublist _ _).nodup hB.nodup,fun x hx y hy e=>?_⟩;subst e;obtain⟨q,hq,he⟩:=lS hy;have h1:(G'.i.drop bs.length)[q]? = some x:=by rw [<-he];exact fJ hq
   rw [Pt] at h1;have:=hE.qH _ x (by show is.length<=_;omega) h1;have:=hr.boxes.lt x hx;omega
  ·refine⟨(hB.gq b oo hp).1,fun hm=>?_⟩
   rcases YV b hm with h|⟨h,-⟩
   ·rcases hE.oe b oo (hr.boxes.lt b h) hp with q|q
    ·exact (hr.boxes.gq b oo q).2 h
    ·obtain⟨j,j',x,hh,-,h2,h3⟩:=Cw b q
     exact (Ka j' x hh b h2 h3).2 h
   ·exact (hB.gq b oo hp).2 h
  ·rcases hgn q (x,h) hq with⟨h0,h1⟩|⟨j,h1,h2⟩
   ·obtain⟨n,xs,g1,g2,g3⟩:=hr.boxes.grow q x h h1
    have hun:∀b,h.ownBlock=some b->w'.heap[b]? = w.heap[b]?:=fun b hbk=>by
     refine hE.old b (g3 b hbk).1 (fun hf=>?_);rcases hf with hf|hf
     ·exact (g3 b hbk).2.1 (aak b hf)
     ·obtain⟨j,j',x',h',e1,e2,e3⟩:=Cw b hf
      have:=hr.boxes.apart q j' x h x' h' b h1 e2 hbk e3;exact h0 (by rw [this];exact jo e1)
    refine⟨n,xs,⟨g1.1,?_⟩,g2,fun b hbk=>?_⟩
    ·rcases g1.2 with q2|⟨gb,cap,cur,q2,q3,q4,q5⟩
     ·exact .inl q2
     ·exact .inr ⟨gb,cap,cur,q2,q3,by rw [hun gb (by rw [q2];rfl)];exact q4,q5⟩
    ·obtain⟨k1,k2,k3⟩:=g3 b hbk
     refine⟨jN k1 hE.size,fun hm=>?_,fun oo ho hp=>?_⟩
     ·rcases YV b hm with h'|⟨-,h'⟩
      ·exact k2 h'
      ·omega
     ·rcases hE.oe b oo k1 hp with q'|q'
      ·exact k3 oo ho q'
      ·obtain⟨j,j',x',h',e1,e2,e3⟩:=Cw b q'
       have:=hr.boxes.apart q j' x h x' h' b h1 e2 hbk e3;exact h0 (by rw [this];exact jo e1)
   ·obtain⟨ro,x',q1,q2,q3,q4⟩:=hent j _ h1
    obtain⟨n,xs,g1,g2,g3⟩:=hB.grow j x' h q2
    have hek:x.e=x'.e/\x.k=x'.k:=by
     have q4:x=rowAt ro (gg.map (·.1))[j]?:=q4;rw [q3,q4];by_cases EF:j<gg.length
     ·have e1:g0[j]? = some {gg[j].1 with aF:=0}:=by simp [g0,bq.dY,EF]
      have e2:(gg.map (·.1))[j]? = some gg[j].1:=by simp [EF]
      rw [e1,e2];cases ro<;>simp [rowAt]
     ·have e1:g0[j]? = none:=Pq om
      have e2:(gg.map (·.1))[j]? = none:=Pq bz;rw [e1,e2];exact⟨rfl,rfl⟩
    refine⟨n,xs,by rw [hek.1,hek.2];exact g1,fun a m h=>by rw [hek.1];exact g2 a m h,fun b hbk=>?_⟩;obtain⟨k1,k2,k3⟩:=g3 b hbk;refine⟨k1,fun hm=>?_,by rw [hek.2];exact k3⟩;rcases YV b hm with h'|⟨h',-⟩
    ·rcases hblk j x' h b q2 hbk with q'|⟨j',x0,h0,q5,q6,q7⟩
     ·have:=hr.boxes.lt b h';omega
     ·exact (Ka j' x0 h0 b q6 q7).2 h'
    ·exact k2 h'
  ·rcases hgn q (x,h) hq with⟨n0,h1⟩|⟨j,h1,h2⟩<;>rcases hgn q' (x',h') Zf with⟨n0',h1'⟩|⟨j',h1',h2'⟩
   ·exact hr.boxes.apart q q' x h x' h' b h1 h1' vz nN
   ·exfalso
    obtain⟨ro,y,e1,e2,-,-⟩:=hent j' _ h1';rcases hblk j' y h' b e2 nN with q5|⟨j2,x0,h0,q5,q6,q7⟩
    ·have:=(Ka q x h b h1 vz).1;omega
    ·have:=hr.boxes.apart q j2 x h x0 h0 b h1 q6 vz q7
     exact n0 (by rw [this];exact jo q5)
   ·exfalso
    obtain⟨ro,y,e1,e2,-,-⟩:=hent j _ h1;rcases hblk j y h b e2 vz with q5|⟨j2,x0,h0,q5,q6,q7⟩
    ·have:=(Ka q' x' h' b h1' nN).1;omega
    ·have:=hr.boxes.apart q' j2 x' h' x0 h0 b h1' q6 nN q7
     exact n0' (by rw [this];exact jo q5)
   ·obtain⟨ro,y,e1,e2,-,-⟩:=hent j _ h1
    obtain⟨ro',y',ZS,e2',-,-⟩:=hent j' _ h1';have:=hB.apart j j' y h y' h' b e2 e2' vz nN;subst this;rcases h2 with⟨h2,-⟩|⟨h2,h3⟩<;>rcases h2' with⟨h2',-⟩|⟨h2',h3'⟩
    ·rw [h2] at h2';exact qE h2'
    ·have:=(eV.1 h2).1;omega
    ·have:=(eV.1 h2').1;omega
    ·omega
 ·have hd:r∉(qc o.boxes bs (o.hc bs gs st ls)).map (·.1)++st.d:=hd
  rw [qF,not_or] at hd;have hgi:=ev.goes.i r b hb;refine Eq.trans ?_ (hr.fix r b hb hd.2);by_cases hm:r∈bs
  ·obtain⟨q,tC,rfl⟩:=lS hm
   obtain⟨b',q1,q2⟩:=hig q _ (fJ tC);rw [hgi] at q2;cases q2;refine Lg q b q1 (fun hc=>hd.1 ?_);rw [<-qC q] at hc;obtain⟨t,ht⟩:=PK hc;have hrc:q<(o.hc bs gs st ls).length:=om;exact rD.2 ⟨_,Le q ht (fJ tC) (fJ hrc),rfl⟩
  ·exact hsame r b hgi hm
 ·intro i c0 hm
  have hm:(i,c0)∈nu (fun q=>(o.n2 bs gs st).g[q]?) o.soft (pQ o.boxes (o.res.put (o.n2 bs gs st) ls).2)++J9 gs st.c:=hm;rcases qF.1 hm with hm|hm
  ·rw [fC] at hm
   obtain⟨q,e1,e2⟩:=Ba hm;obtain⟨x',hd,h1,h2⟩:=hS q c0 e2;have tC:q<o.rows.length:=by rw [<-afn];exact (eV.1 h1).1
   have hqn:q<o6.length:=om;obtain⟨ro,x1,q1,q2,q3,q4⟩:=hent q _ (fJ hqn);rw [h1] at q2;have q2:=qE q2;simp only [aea] at q2;obtain⟨q2a,q2b⟩:=q2
   have hek:o6[q].1.e=x'.e/\o6[q].1.k=x'.k:=by
    rw [q2a,q3,q4];by_cases EF:q<gg.length
    ·have e1:g0[q]? = some {gg[q].1 with aF:=0}:=by simp [g0,bq.dY,EF]
     have e2:(gg.map (·.1))[q]? = some gg[q].1:=by simp [EF]
     rw [e1,e2];cases ro<;>simp [rowAt]
    ·have e1:g0[q]? = none:=Pq om
     have e2:(gg.map (·.1))[q]? = none:=Pq bz;rw [e1,e2];exact⟨rfl,rfl⟩
   refine⟨o6[q].1,hd,?_,h2.keep hek.1 hek.2 (fun _ _ h=>h) (fun _ _ _ _ h=>h) (fun b _=>⟨rfl,fun _ h=>h⟩)⟩;by_cases EF:q<gs.length
   ·obtain⟨y,r1,r2⟩:=Ld q _ (fJ EF)
    have:i=gs[q]:=by
     simp only [Outs.n2] at e1;rw [vq EF,fJ EF] at e1;exact (qE e1).symm
    rw [this,aaj q _ _ (fJ EF) (eV.1 r2).1 (fJ hqn),q2b]
   ·have:i=st.g.length+(q-gs.length):=by
     simp only [Outs.n2] at e1;rw [I7 om,aeq om] at e1;have:=qE e1;omega
    rw [this,<-an6,adr q _ om (fJ hqn),q2b]
  ·obtain⟨hmc,hng⟩:=A9 hm
   obtain⟨x,hd,h1,h2⟩:=hr.gr i c0 hmc;obtain⟨n,xs,g1,g2,g3⟩:=hr.boxes.grow i x hd h1
   have hun:∀b,hd.ownBlock=some b->¬ (G.dY is gg).Ea b:=fun b hbk hf=>by
    rcases hf with hf|hf
    ·exact (g3 b hbk).2.1 (aak b hf)
    ·obtain⟨j,j',x',h',e1,e2,e3⟩:=Cw b hf
     have:=hr.boxes.apart i j' x hd x' h' b h1 e2 hbk e3;exact hng (by rw [this];exact jo e1)
   refine⟨x,hd,?_,h2.keep rfl rfl Lh.pr Lh.cells (fun b hbk=>⟨hE.old b (g3 b hbk).1 (hun b hbk),fun oo hp=>?_⟩)⟩
   ·exact adq i _ hng h1
   ·rcases hE.oe b oo (g3 b hbk).1 hp with q'|q'
    ·exact q'
    ·exact (hun b hbk (.inr q')).elim
def vh(c:CT)(d:TV E)(st:TS E):TV E×TS E:=match c,d with
 | .dat _,.eu j aF=>match st.g[j]?,oM st.c j with
  | some g,some c=>cond (Nat.beq g.aF aF) (.dat (.bn c.1) c.2,{st with c:=nI j st.c}) (.eu j aF,st)
  | _,_=>(.eu j aF,st)
 | _,d=>(d,st)
def Fe:J CT->J (TV E)->TS E->J (TV E)×TS E
 | c::cs,d::ds,st=>((vh c d st).1::(Fe cs ds (vh c d st).2).1,(Fe cs ds (vh c d st).2).2)
 | _,ds,st=>(ds,st)
def Ff(p:PT)(d:TV E)(st:TS E):TV E×TS E:=match p,d with
 | .one c,d=>vh c d st
 | .dz cs,.tuple ds=>(.tuple (Fe cs ds st).1,(Fe cs ds st).2)
 | _,d=>(d,st)
def yK:J PT->J (TV E)->TS E->J (TV E)×TS E
 | p::ps,d::ds,st=>((Ff p d st).1::(yK ps ds (Ff p d st).2).1,(yK ps ds (Ff p d st).2).2)
 | _,ds,st=>(ds,st)
def pI(st st':TS E):Prop:=∃c',st'={st with c:=c'}
theorem pI.refl(st:TS E):pI st st:=⟨st.c,rfl⟩
variable{s1:TS E}
theorem pI.trans{s2 s3:TS E}(h1:pI s1 s2)(h2:pI s2 s3):pI s1 s3:=by
 obtain⟨c1,rfl⟩:=h1;obtain⟨c2,rfl⟩:=h2;exact⟨c2,rfl⟩
theorem R7(c:CT)(d:TV E)(hr:Rel E w0 G0 st a w G):pI st (vh c d st).2/\∃G',Rel E w0 G0 (vh c d st).2 a w G'/\iB w G w G'/\∀v,VT E w G d v->VT E w G' (vh c d st).1 v:=by
 have vW:pI st st/\∃G',Rel E w0 G0 st a w G'/\iB w G w G'/\∀v,VT E w G d v->VT E w G' d v:=⟨pI.refl st,G,hr,iB.refl w G,fun _ h=>h⟩;unfold vh;split
 ·rename_i t j aF
  split
  ·rename_i g c hg hc
   cases hb:Nat.beq g.aF aF
   ·exact vW
   ·obtain rfl:=eM hb
    obtain⟨G',hR,AV,h1⟩:=hr.anX hg hc;exact⟨⟨_,rfl⟩,G',hR,AV,h1⟩
  ·exact vW
 ·exact vW
theorem aal:∀(cs:J CT)(ds:J (TV E)){st:TS E}{G:bq},Rel E w0 G0 st a w G->pI st (Fe cs ds st).2/\∃G',Rel E w0 G0 (Fe cs ds st).2 a w G'/\iB w G w G'/\∀vs,bI E w G ds vs->bI E w G' (Fe cs ds st).1 vs
 | [],ds,st,G,hr=>by
  grind [Fe,pI.refl,iB.refl]
 | c::cs,[],st,G,hr=>by
  grind [Fe,pI.refl,iB.refl]
 | c::cs,d::ds,st,G,hr=>by
  obtain⟨o1,G1,eU,g1,v1⟩:=R7 c d hr;obtain⟨o2,G2,hr2,g2,v2⟩:=aal cs ds eU;refine⟨o1.trans o2,G2,hr2,g1.trans g2,fun vs hv=>?_⟩;obtain⟨u,us,rfl,h1,h2⟩:=hv.cons_inv;exact .cons ((v1 u h1).mono g2) (v2 us (h2.mono g1))
theorem aam(p:PT)(d:TV E)(hr:Rel E w0 G0 st a w G):pI st (Ff p d st).2/\∃G',Rel E w0 G0 (Ff p d st).2 a w G'/\iB w G w G'/\∀v,VT E w G d v->VT E w G' (Ff p d st).1 v:=by
 unfold Ff
 grind [R7,aal,VT,pI.refl,iB.refl]
theorem N1:∀(ps:J PT)(ds:J (TV E)){st:TS E}{G:bq},Rel E w0 G0 st a w G->pI st (yK ps ds st).2/\∃G',Rel E w0 G0 (yK ps ds st).2 a w G'/\iB w G w G'/\∀vs,bI E w G ds vs->bI E w G' (yK ps ds st).1 vs
 | [],ds,st,G,hr=>by
  grind [yK,pI.refl,iB.refl]
 | c::cs,[],st,G,hr=>by
  grind [yK,pI.refl,iB.refl]
 | c::cs,d::ds,st,G,hr=>by
  obtain⟨o1,G1,eU,g1,v1⟩:=aam c d hr;obtain⟨o2,G2,hr2,g2,v2⟩:=N1 cs ds eU;refine⟨o1.trans o2,G2,hr2,g1.trans g2,fun vs hv=>?_⟩;obtain⟨u,us,rfl,h1,h2⟩:=hv.cons_inv;exact .cons ((v1 u h1).mono g2) (v2 us (h2.mono g1))
theorem Rel.aho(h:Rel E w0 G0 st a w G){i:Nat}(hi:st.t[i]? = some (.val (.slice none 0 0)))(e:aI)(T:Ty)(hT:0<T.size E):
  ∃G',Rel E w0 G0 {st with t:=st.t.set i (.eu st.g.length 0),g:=st.g++[⟨0,e,T.size E⟩],c:=(st.g.length,⟨T,[]⟩)::st.c} a w G':=by
 have hN:=h.J6 e (T.size E);have hl:=h.qb;have lz:(G.g++[(⟨0,e,T.size E⟩,Value.slice none 0 0)])[st.g.length]? = some (⟨0,e,T.size E⟩,.slice none 0 0):=by rw [<-hl];simp
 have hC:=hN.VG (c:=⟨T,[]⟩) ⟨_,_,lz,rfl,hT,⟨[],⟨si,.inl ⟨rfl,rfl⟩⟩,Flat.nil⟩,fun b hb=>by cases hb⟩;refine⟨_,hC.eX,by simpa using hC.size,fun j d hj=>?_,hC.defers,hC.boxes,hC.fix,hC.pins,hC.gr⟩;simp [UZ] at hj;by_cases hij:i=j
 ·subst hij
  have hlt:=(eV.1 hi).1;simp [hlt] at hj;subst hj;have hv:=h.tmps i _ hi;rw [hv];exact⟨_,_,lz,ek _,rfl,fun _=>rfl⟩
 ·rw [if_neg hij] at hj
  exact hN.tmps j d hj
theorem Rel.afq(h:Rel E w0 G0 st a w G){r c:Nat}{t:aI}{cs:J (TV E)}(hr:st.H[r]? = some (.cells t cs))(hc:cs[c]? = some (.val (.slice none 0 0)))(e:aI)(T:Ty)(hT:0<T.size E):
  ∃G',Rel E w0 G0 {st with H:=st.H.set r (.cells t (cs.set c (.eu st.g.length 0))),g:=st.g++[⟨0,e,T.size E⟩],d:=r::st.d,c:=(st.g.length,⟨T,[]⟩)::st.c} a w G':=by
 have hN:=h.J6 e (T.size E);have hl:=h.qb;have lz:(G.g++[(⟨0,e,T.size E⟩,Value.slice none 0 0)])[st.g.length]? = some (⟨0,e,T.size E⟩,.slice none 0 0):=by rw [<-hl];simp
 have hC:=hN.VG (c:=⟨T,[]⟩) ⟨_,_,lz,rfl,hT,⟨[],⟨si,.inl ⟨rfl,rfl⟩⟩,Flat.nil⟩,fun b hb=>by cases hb⟩;have hlr:r<G.i.length:=by rw [h.boxes.len];grind
 have hat:=fJ hlr;have hS:=hC.yG hat rfl rfl rfl rfl (fun _ _=>rfl) (x:=.cells t (cs.set c (.eu st.g.length 0))) (fun _=>?_)
 ·exact⟨_,hS⟩
 ·obtain⟨vs,h1,h2,h3⟩:=hC.boxes.box r _ _ hat hr
  refine⟨vs,h1,h2,?_⟩;obtain⟨u,hu,hv⟩:=h3.get c hc;subst hv
  have key:∀(G1:bq)(cs:J (TV E))(vs:J Value)(c:Nat)(d:TV E),bI E w G1 cs vs->vs[c]? = some (.slice none 0 0) ->
    VT E w G1 d (.slice none 0 0)->bI E w G1 (cs.set c d) vs:=by
   intro G1 cs
   induction cs with
   | nil=>simp_all
   | cons x cs ih=>
    intro vs c d h1 h2 h3;obtain⟨u,us,rfl,q1,q2⟩:=h1.cons_inv
    cases c with
    | zero=>simp at h2;subst h2;exact .cons h3 q2
    | succ c=>exact .cons q1 (ih us c d q2 (by simpa using h2) h3)
  refine key _ cs vs.toList c _ h3 hu ?_;simp [VT]
  grind
structure Fr(W:List Nat)(nd:Bool)(st st':TS E):Prop where
 len:st'.t.length=st.t.length
 keep:∀i,i∉W->st'.t[i]? = st.t[i]?
 d:∃D,st'.d=D++st.d/\∀r,r<st.H.length->r∉D->st'.H[r]? = st.H[r]?
 hl:st.H.length<=st'.H.length
 df:nd=true->st'.df=st.df
theorem Fr.refl(W:J Nat)(nd:Bool)(st:TS E):Fr W nd st st:=⟨rfl,fun _ _=>rfl,⟨[],rfl,fun _ _ _=>rfl⟩,ek _,fun _=>rfl⟩
variable{W:J Nat}
theorem Fr.trans{W1 W2:J Nat}{n1 n2 n:Bool}{s2 s3:TS E}(h1:Fr W1 n1 s1 s2)(h2:Fr W2 n2 s2 s3)(hw1:∀i,i∈W1->i∈W)(AA:∀i,i∈W2->i∈W)(hn:n=true->n1=true/\n2=true):Fr W n s1 s3:=by
 obtain⟨D1,d1,e1⟩:=h1.d;obtain⟨D2,d2,e2⟩:=h2.d;refine⟨h2.len.trans h1.len,fun i hi=>(h2.keep i (fun h=>hi (AA i h))).trans (h1.keep i (fun h=>hi (hw1 i h))),⟨D2++D1,by simp_all,fun r hr hd=>?_⟩,oD h1.hl h2.hl,fun h=>(h2.df (hn h).2).trans (h1.df (hn h).1)⟩
 grind
theorem Fr.wide{W':J Nat}{n n':Bool}{s s':TS E}(h:Fr W n s s')(hw:∀i,i∈W->i∈W')(hn:n'=true->n=true):Fr W' n' s s':=
 ⟨h.len,fun i hi=>h.keep i (fun hm=>hi (hw i hm)),h.d,h.hl,fun h'=>h.df (hn h')⟩
def iC:O Nat->J Nat
 | some i=>[i]
 | none=>[]
theorem Li(l:J (TV E))(dst:O Nat)(d:TV E):(cx l dst d).length=l.length:=by cases dst<;>simp [cx]
theorem Ij(l:J (TV E))(dst:O Nat)(d:TV E)(i:Nat)(h:i∉iC dst):(cx l dst d)[i]? = l[i]?:=by
 cases dst with
 | none=>rfl
 | some j=>
  grind [iC,List.mem_singleton,cx,List.getElem?_set_ne]
theorem Fr.put(st:TS E)(dst:O Nat)(d:TV E):Fr (iC dst) true st {st with t:=cx st.t dst d}:=
 ⟨Li _ _ _,fun i hi=>Ij _ _ _ _ hi,⟨[],rfl,fun _ _ _=>rfl⟩,ek _,fun _=>rfl⟩
theorem Fr.ajr(st:TS E)(dst:O Nat)(d:TV E)(H:J (fM E))(g:J cH)(D:J Nat)(c:J (Nat×Cn E))(hH:∀r,r<st.H.length->r∉D->H[r]? = st.H[r]?)(hl:st.H.length<=H.length):
  Fr (iC dst) true st {st with t:=cx st.t dst d,H:=H,g:=g,d:=D++st.d,c:=c}:=
 ⟨Li _ _ _,fun i hi=>Ij _ _ _ _ hi,⟨D,rfl,hH⟩,hl,fun _=>rfl⟩
theorem Fr.mem(st:TS E)(dst:O Nat)(d:TV E)(H:J (fM E))(g:J cH)(D:J Nat)(hH:∀r,r<st.H.length->r∉D->H[r]? = st.H[r]?)(hl:st.H.length<=H.length):
  Fr (iC dst) true st {st with t:=cx st.t dst d,H:=H,g:=g,d:=D++st.d}:=
 ⟨Li _ _ _,fun i hi=>Ij _ _ _ _ hi,⟨D,rfl,hH⟩,hl,fun _=>rfl⟩
theorem Lj(l m:J α):∀r,r<l.length->r∉([]:J Nat)->(l++m)[r]? = l[r]?:=fun r hr _=>by grind
theorem Cy(l:J α)(q:Nat)(x:α):∀r,r<l.length->r∉[q]->(l.set q x)[r]? = l[r]?:=fun r _ hd=>by
 grind
variable{ty:aI->O Ty}{st':TS E}{dst:O Nat}{op:Op}
theorem ajs{c:Bool}(h:Tv P ty st dst op=some (c,st')):Fr (iC dst) true st st':=by
 cases op<;>simp [Tv] at h<;>try trivial
 case alloc t=>split at h<;>cases h;exact Fr.mem st dst _ _ st.g [] (Lj _ _) si
 case box t x=>split at h<;>cases h;exact Fr.mem st dst _ _ st.g [] (Lj _ _) si
 case store t x y=>
  split at h<;>try trivial
  split at h<;>cases h;exact Fr.mem st dst _ _ st.g [_] (Cy _ _ _) si
 case buildSlice t len parts=>
  split at h<;>try trivial
  split at h<;>try trivial
  split at h<;>try trivial
  cases hl:Nat.beq len 0<;>rw [hl] at h<;>simp only [aZ,aK] at h
  ·cases h
   exact Fr.mem st dst _ st.H _ [] (fun _ _ _=>rfl) (ek _)
  ·generalize E.zc _=z at h
   cases z<;>simp only [aZ,aK] at h<;>cases h
   ·exact Fr.mem st dst _ st.H st.g [] (fun _ _ _=>rfl) (ek _)
   ·exact Fr.mem st dst _ st.H _ [] (fun _ _ _=>rfl) (ek _)
 case call c'=>
  unfold ae8 at h;split at h<;>try trivial
  ·split at h<;>try trivial
   split at h<;>try trivial
   split at h<;>try trivial
   split at h<;>try trivial
   ·split at h<;>try trivial
    split at h<;>cases h;exact Fr.mem st dst _ st.H _ [] (fun _ _ _=>rfl) (ek _)
   ·cases h
    exact Fr.mem st dst _ st.H _ [] (fun _ _ _=>rfl) (ek _)
  ·split at h<;>try trivial
   split at h<;>cases h;exact Fr.mem st dst _ st.H _ [] (fun _ _ _=>rfl) (ek _)
 case convert src dt x=>
  grind [Fr.put]
 case makeMap t res=>
  cases res with
  | some x=>simp at h
  | none=>
   simp only at h;split at h<;>try trivial
   split at h<;>cases h;exact Fr.mem st dst _ _ st.g [] (Lj _ _) si
 case mapUpdate t x y z=>
  split at h<;>try trivial
  split at h<;>try trivial
  split at h<;>cases h;exact Fr.mem st dst _ _ st.g [_] (Cy _ _ _) si
 grind [Fr.put]
theorem Fr.c(st:TS E)(dst:O Nat)(d:TV E)(g:J cH)(c:J (Nat×Cn E)):Fr (iC dst) true st {st with t:=cx st.t dst d,g:=g,c:=c}:=
 Fr.ajr st dst d st.H g [] c (fun _ _ _=>rfl) (ek _)
theorem al6{c:Bool}(h:Cu P ty st dst op=some (c,st')):Fr (iC dst) true st st':=by
 cases op<;>try trivial
 case load t x=>
  grind [Cu,Fr.put]
 case store t x y=>
  simp [Cu] at h;split at h<;>try trivial
  grind [Fr.c]
 case makeSlice t x y=>
  grind [Cu,Fr.c]
 case slice t x lo hi mx=>
  cases lo with
  | some _=>cases h
  | none=>
  cases hi with
  | none=>cases h
  | some hi=>
  cases mx with
  | some _=>cases h
  | none=>
  grind [Cu,Fr.c]
 case call cl=>
  simp [Cu] at h;unfold afc at h;split at h<;>try trivial
  ·split at h<;>try trivial
   grind [Fr.c]
theorem al7{c:Bool}(h:Z9 P ty st dst op=some (c,st')):Fr (iC dst) true st st':=by
 cases op<;>simp [Z9] at h<;>try trivial
 case alloc t=>
  grind [Fr.c]
 case box t x=>
  grind [Fr.c]
 case load t x=>
  grind [Fr.put]
theorem al8{c:Bool}(h:Z7 P ty st dst op=some (c,st')):Fr (iC dst) true st st':=by
 cases op<;>simp [Z7] at h<;>try trivial
 cases hb:afa ty dst<;>rw [hb] at h<;>simp only [aZ,aK] at h
 ·cases h
 split at h<;>try trivial
 split at h<;>try trivial
 split at h<;>try trivial
 cases h;exact Fr.ajr st dst _ st.H _ [] _ (fun _ _ _=>rfl) (ek _)
theorem al9{c:Bool}(h:aaa P ty st dst op=some (c,st')):Fr (iC dst) true st st':=by
 unfold aaa at h;split at h
 ·grind [al8]
 split at h
 rotate_left
 ·cases op<;>simp [afk] at h<;>try trivial
  split at h<;>try trivial
  split at h<;>cases h;exact Fr.mem st dst _ _ st.g [_] (Cy _ _ _) si
 grind [afg,al7,YQ,ajs,al6]
theorem Fr.ofC{n:Bool}{s s':TS E}(hc:pI s s1)(h:Fr W n s1 s'):Fr W n s s':=by
 obtain⟨c,rfl⟩:=hc;exact⟨h.len,h.keep,h.d,h.hl,h.df⟩
structure Sl where
 b:List (Option Nat)
 g:List (Option Nat)
def Sl.VI(s:Sl)(r r':Nat):Sl:={s with b:=s.b.set r (some r')}
def Sl.ajt(s:Sl)(r r':Nat):Sl:={s with g:=s.g.set r (some r')}
def aan(s:Sl):J (Nat×Nat)->J (TV E)->Sl
 | (r,_)::cs,.ptr r' _::ds=>aan (s.VI r r') cs ds
 | _::cs,_::ds=>aan s cs ds
 | _,_=>s
def CT.un(s:Sl):CT->TV E->Sl
 | .ptr r _,.ptr r' _=>s.VI r r'
 | .p9 r _,.ptr r' _=>s.VI r r'
 | .p9 r _,.p9 _ r' _=>s.VI r r'
 | .jq r,.jq r'=>s.VI r r'
 | .ux r,.ux r'=>s.VI r r'
 | .cA j _,.cA j' _ _ _=>s.ajt j j'
 | .eu j,.eu j' _=>s.ajt j j'
 | .ir j _,.ir j' _ _ _ _=>s.ajt j j'
 | .func _ caps,.func _ cs=>aan s caps cs
 | _,_=>s
def CT.unL(s:Sl):J CT->J (TV E)->Sl
 | c::cs,ds=>match c.pk? with
  | some t=>CT.unL s cs (ds.drop (t.size E))
  | none=>match ds with
   | d::ds=>CT.unL (c.un s d) cs ds
   | []=>s
 | _,_=>s
def PT.un(s:Sl):PT->TV E->Sl
 | .one c,d=>c.un s d
 | .agg cs,.agg ds=>CT.unL s cs ds
 | .dz cs,.tuple ds=>CT.unL s cs ds
 | _,_=>s
def ale(s:Sl):J PT->J (TV E)->Sl
 | p::ps,d::ds=>ale (p.un s d) ps ds
 | _,_=>s
def alf(H:J (fM E)):Nat->J BT->Sl->Sl
 | _,[],s=>s
 | r,t::ts,s=>alf H (r+1) ts (match t,(s.b[r]?.getD none).bind (H[·]?) with
  | .cells _ cs,some (.cells _ ds)=>CT.unL s cs ds
  | .loop _ cs,some (.loop _ ds)=>CT.unL s cs ds
  | _,_=>s)
def qQ:J (O Nat)->J Nat
 | []=>[]
 | some x::xs=>x::qQ xs
 | none::xs=>qQ xs
def dc.dY(s:dc)(st:TS E)(ds:J (TV E)):Sl:=
 alf st.H 0 s.boxes (ale ⟨s.boxes.map fun _=>none,s.rows.map fun _=>none⟩ s.args ds)
def sm{α β γ:Type}(f:α->γ)(g:β->γ):α ⊕ β->γ
 | .inl x=>f x
 | .inr y=>g y
def okK{R:Type}(o:Outs)(bs gs:J Nat)(st:TS E)(dst:O Nat)(k:Ex E->TS E->O R)(y:dens E o.tys):O R:=
 k .normal {o.after bs gs st (aP o.tys y) with t:=cx st.t dst (o.val bs gs st (aP o.tys y))}
def aqZ{R:Type}(o:Outs)(bs gs:J Nat)(st:TS E)(k:Ex E->TS E->O R)(y:dens E o.tys):O R:=
 k (.panic (o.val bs gs st (aP o.tys y))) (o.after bs gs st (aP o.tys y))
def aao{R:Type}(s:dc)(bs gs:J Nat)(st:TS E)(dst:O Nat)(k:Ex E->TS E->O R):(p:O Outs)->OutP E s.out p->O R
 | none=>okK s.out bs gs st dst k
 | some q=>sm (okK s.out bs gs st dst k) (aqZ q bs gs st k)
def Outs.wf(o:Outs)(nb ng:Nat):Bool:=zI nb o.boxes&&Nat.ble ng o.rows.length
def dc.wf(s:dc)(nb ng:Nat):Bool:=s.out.wf nb ng&&(match s.lU with|none=>true|some q=>q.wf nb ng)
def q8{R:Type}(st:TS E)(dst:Option Nat)(f:FuncId)(ds:J (TV E))(k:Ex E->TS E->Option R):J (bJ E)->Option R
 | []=>none
 | C::Γ=>cond (Nat.beq C.s.f f)
   (match yK C.s.args ds st with
    | (ds',st')=>match C.s.enter (qQ (C.s.dY st' ds').b) (qQ (C.s.dY st' ds').g) st' ds' with
     | some ls=>match getAll C.s.tys ls with
      | some x=>rq (C.s.wf (qQ (C.s.dY st' ds').b).length (qQ (C.s.dY st' ds').g).length) ((C.m x).bind (aao C.s (qQ (C.s.dY st' ds').b) (qQ (C.s.dY st' ds').g) st' dst k C.s.lU))
      | none=>q8 st dst f ds k Γ
     | none=>q8 st dst f ds k Γ)
   (q8 st dst f ds k Γ)
def Cz(P:bh)(o:Oper)(W:J Nat)(nd:Bool)(st:TS E)(Q:Ex E->TS E->Prop):Prop:=
 ∀w0 G0 a w G,Rel E w0 G0 st a w G->o.wp P a w (fun a' w'=>∃st' G',Rel E w0 G0 st' a' w' G'/\Q .normal st'/\Fr W nd st st') (cG E w0 G0 fun x st'=>x≠.normal/\Q x st'/\Fr W nd st st')
variable{o:Oper}{Q:Ex E -> TS E -> Prop}{f:FuncId}{R:Type}
theorem Cz.F6{nd:Bool}(h:∀w0 G0 a w G,Rel E w0 G0 st a w G->jO P w0 G0 a w o st')(hQ:Q .normal st')(hF:Fr W nd st st'):Cz P o W nd st Q:=by
 intro w0 G0 a w G hr;obtain⟨nx,v,w',G',hrun,hnx,hr'⟩:=h w0 G0 a w G hr;unfold Oper.wp;rw [hrun];rcases hnx with rfl|⟨rfl,rfl⟩
 ·exact⟨st',G',hr',hQ,hF⟩
 ·exact⟨st',G',hr',hQ,hF⟩
theorem afr{next:Act->U->Prop}{QQ:Exit->Act->U->Prop}{args:aG Value}{R:Ending->U->Prop}(hrun:(execOp a.eval o).run P w=(callFunc f args).run P w)(h:kn P f args w R)
  (h1:∀v w',R (.returned v) w'->next (a.put o.dst v) w') (h2:∀ch w',R (.panicked ch) w'->QQ (.panic ch) a w') (h3:∀w',¬ R .outgrown w'):o.wp P a w next QQ:=by
 unfold Oper.wp;rw [hrun];unfold kn at h;split at h
 ·rename_i f' args' w' hr
  rw [hr];refine Ge h fun e w'' he=>?_
  grind
 ·rename_i v w' hr
  rw [hr];exact h1 v w' h
 ·exact h.elim
theorem N3{w0 w:U}{G0 G:bq}{a:Act}(hr:Rel E w0 G0 st a w G):∀l:J dy,bI E w G (l.map st.ev) (l.map a.eval)
 | []=>.nil
 | x::l=>.cons (hr.ev x) (N3 hr l)
theorem Outs.R8(ot:Outs)(bs gs:J Nat)(st:TS E)(ls:J (Lf E))(dst:O Nat)(d:TV E):Fr (iC dst) true st {ot.after bs gs st ls with t:=cx st.t dst d}:=
 Fr.ajr st dst d _ _ _ _ (fun r hr hd=>by
  show (jX (qc ot.boxes bs (ot.hc bs gs st ls)) st.H++(ot.hc bs gs st ls).drop bs.length)[r]? = _
  grind [List.getElem?_append_left,gH,tV]) (by
  show _<=(jX (qc ot.boxes bs (ot.hc bs gs st ls)) st.H++(ot.hc bs gs st ls).drop bs.length).length;simp [gH])
theorem p6.eX(h:p6 E w0 G0)(hE:kQ w0 G0 w G):p6 E w G:=by
 intro b ob hb;obtain⟨⟨cs,t,m,h1,hp⟩,h2⟩:=h b ob hb;have hlt:=(Ag.1 h1).1;refine⟨⟨cs,t,m,(hE.old b hlt h2).trans h1,hp⟩,fun hf=>h2 ?_⟩;rcases hf with hf|⟨x,hd,hm,hbk⟩
 ·obtain⟨q,hq,he⟩:=lS hf
  have TD:G.i[q]? = some b:=by simp_all
  by_cases tC:q<G0.i.length
  ·have e1:=hE.goes.i q _ (fJ tC)
   exact .inl (by simp_all)
  ·have:=hE.qH q b om TD;omega
 ·obtain⟨j,hj,he⟩:=lS hm
  rcases hE.gL j x hd b (by simp_all) hbk with q|⟨x0,h0,q1,q2⟩
  ·omega
  ·exact .inr ⟨x0,h0,jo q1,q2⟩
theorem Rel.TF(h:Rel E w0 G0 st a w G):p6 E w G:=h.pins.eX h.eX
theorem aap{r:J α}(h:pick l is=some r){x:α}(hx:x∈r):x∈l:=by
 obtain⟨j,hj,he⟩:=lS hx;obtain⟨hl,hg⟩:=rI h;have hj':j<is.length:=om;obtain⟨y,h1,h2⟩:=hg j is[j] (fJ hj')
 grind
theorem p6.dY(h:p6 E w G)(hi:pick G.i bs=some is)(hg:pick G.g gs=some gg):p6 E w (G.dY is gg):=fun b ob hb=>by
 obtain⟨h1,h2⟩:=h b ob hb;refine⟨h1,fun hf=>h2 ?_⟩;rcases hf with hf|⟨x,hd,hm,hbk⟩
 ·exact .inl (aap hi hf)
 ·obtain⟨y,hy,e⟩:=rD.1 hm
  cases e;exact .inr ⟨y.1,y.2,aap hg hy,hbk⟩
theorem N4(hE:E.Ok){R:Type}{f:FuncId}{ds:J (TV E)}
  (TG:∀w0 G0 a w G,Rel E w0 G0 st a w G->∃vs:Array Value,bI E w G ds vs.toList/\(execOp a.eval o).run P w=(callFunc f vs).run P w) {k:Ex E->TS E->Option R} {r:R} :
  ∀ {Γ:J (bJ E)},(∀C∈Γ,C.Ok P)->q8 st o.dst f ds k Γ=some r->Cz P o (iC o.dst) true st (fun x st'=>k x st'=some r)
 | [],_,h=>by cases h
 | C::Γ,hΓ,h=>by
  have fC:q8 st o.dst f ds k Γ=some r->Cz P o (iC o.dst) true st (fun x st'=>k x st'=some r):=N4 hE TG (fun C' hC=>hΓ C' (by simp [hC]));simp [q8] at h;cases hf:Nat.beq C.s.f f<;>rw [hf] at h<;>simp at h
  ·exact fC h
  have hf:=eM hf;obtain⟨QB,jF,hhs⟩:∃QB jF,yK C.s.args ds st=(QB,jF):=⟨_,_,rfl⟩;rw [hhs] at h;split at h
  ·rename_i ls hls
   split at h
   ·rename_i xx hxx
    generalize BX:qQ (C.s.dY jF QB).b=bs at *;generalize hgs:qQ (C.s.dY jF QB).g=gs at *;obtain⟨hwf,h⟩:=dQ h
    cases hm:C.m xx with
    | none=>rw [hm] at h;cases h
    | some y=>
     intro w0 G0 a w G0' hr;obtain⟨vs0,N5,TH⟩:=TG w0 G0 a w G0' hr;obtain⟨PM,G,eU,AV,hvs⟩:=N1 C.s.args ds hr;have hargs:=hvs _ N5;rw [hhs] at eU hargs PM;have hr:=eU
     have hnd:bs.Nodup/\gs.Nodup/\bs.length=C.s.boxes.length/\C.s.rows.length=gs.length:=by
      unfold dc.enter at hls;split at hls<;>try trivial
      rename_i H g hH hg;cases o5:(vU bs&&(vU gs&&(Nat.beq bs.length C.s.boxes.length&&zH C.s.rows g)))<;>rw [o5] at hls<;>simp only [aZ] at hls
      ·cases hls
      simp only [cE] at o5;exact⟨vV o5.1,vV o5.2.1,eM o5.2.2.1,by rw [(C3 o5.2.2.2).1,(rI hg).1]⟩
     obtain⟨is,gg,hi,AQ,hB,hS,hV⟩:=hr.enter hE hls hargs;have hput:=Dr _ hxx;have hok:=hΓ C si xx y hm w (G.dY is gg) vs0 (hr.TF.dY hi AQ) (by rw [hput];exact hB) (by rw [hput];exact hS) (by rw [hput];exact hV);have hrun:=TH;have hg0:=hB.gs
     have hwf':∀(q:Outs),q.wf bs.length gs.length=true->zI bs.length q.boxes=true/\gs.length<=q.rows.length:=fun q hq=>by
      simp_all [Outs.wf,cE,lR]
     unfold dc.wf at hwf;rw [cE] at hwf
     have N6:∀(y:dens E C.s.out.tys)(v:Value)(w':World),okK C.s.out bs gs jF o.dst k y=some r ->
       (∃v1 G',Ending.returned v=C2 (C.s.out.mM true (C.s.H (aP C.s.tys xx)) C.s.g0 (aP C.s.out.tys y)).ok v1/\kQ w (G.dY is gg) w' G'/\lP E w' G' (C.s.out.mM true (C.s.H (aP C.s.tys xx)) C.s.g0 (aP C.s.out.tys y)).H (C.s.out.mM true (C.s.H (aP C.s.tys xx)) C.s.g0 (aP C.s.out.tys y)).g/\kH E w' G' (C.s.out.mM true (C.s.H (aP C.s.tys xx)) C.s.g0 (aP C.s.out.tys y)).c /\
        VT E w' G' (C.s.out.mM true (C.s.H (aP C.s.tys xx)) C.s.g0 (aP C.s.out.tys y)).d v1/\∀(q b:Nat),(G.dY is gg).i[q]? = some b->q∉(C.s.out.mM true (C.s.H (aP C.s.tys xx)) C.s.g0 (aP C.s.out.tys y)).D->w'.heap[b]? = w.heap[b]?) ->
       ∃st' G',Rel E w0 G0 st' (a.put o.dst v) w' G'/\k .normal st'=some r/\Fr (iC o.dst) true st st':=by
      rintro y v w' hk ⟨v1,G',he,hE,TJ,TK,TL,Lg⟩;simp [Outs.mM,C2] at he;subst he;obtain⟨hs1,hs2⟩:=hwf' _ hwf.1;rw [<-hg0] at TJ TK TL;obtain⟨Gn,hR,hval⟩:=hr.leave hi AQ hnd.1 hnd.2.1 C.s.out hs1 hs2 hE TJ TK TL Lg;exact⟨_,Gn,hR.put hval o.dst,hk,(C.s.out.R8 bs gs jF _ o.dst _).ofC PM⟩
     have fin:∀(p:Option Outs)(hp:C.s.lU=p)(y:OutP E C.s.out p),aao C.s bs gs jF o.dst k p y=some r->kn P f vs0 w (fun e w'=>
       ∃v G',e=C2 (ko C.s (C.s.H (aP C.s.tys xx)) p y).ok v/\kQ w (G.dY is gg) w' G'/\lP E w' G' (ko C.s (C.s.H (aP C.s.tys xx)) p y).H (ko C.s (C.s.H (aP C.s.tys xx)) p y).g/\kH E w' G' (ko C.s (C.s.H (aP C.s.tys xx)) p y).c /\
        VT E w' G' (ko C.s (C.s.H (aP C.s.tys xx)) p y).d v/\∀(q b:Nat),(G.dY is gg).i[q]? = some b->q∉(ko C.s (C.s.H (aP C.s.tys xx)) p y).D->w'.heap[b]? = w.heap[b]?) ->
       o.wp P a w (fun a' w'=>∃st' G',Rel E w0 G0 st' a' w' G'/\k .normal st'=some r/\Fr (iC o.dst) true st st') (cG E w0 G0 fun x st'=>x≠.normal/\k x st'=some r/\Fr (iC o.dst) true st st'):=by
      intro p hp y hk hI;refine afr hrun hI (fun v w' hR=>?_) (fun ch w' hR=>?_) (fun w' hR=>?_)
      ·cases p with
       | none=>exact N6 y v w' hk hR
       | some q=>
        cases y with
        | inl y=>exact N6 y v w' hk hR
        | inr y=>
         obtain⟨v1,G',he,-⟩:=hR;cases he
      ·cases p with
       | none=>
        obtain⟨v1,G',he,-⟩:=hR
        cases he
       | some q=>
        cases y with
        | inl y=>
         obtain⟨v1,G',he,-⟩:=hR
         cases he
        | inr y=>
         obtain⟨v1,G',he,hE,TJ,TK,TL,Lg⟩:=hR;simp [ko,Outs.mM,C2] at he;subst he;have hq:q.wf bs.length gs.length=true:=by grind
         obtain⟨hs1,hs2⟩:=hwf' _ hq;simp [ko] at TJ TK TL Lg;rw [<-hg0] at TJ TK TL;obtain⟨Gn,hR,hval⟩:=hr.leave hi AQ hnd.1 hnd.2.1 q hs1 hs2 hE TJ TK TL Lg;exact⟨.panic (q.val bs gs jF (aP q.tys y)),_,Gn,⟨v1,rfl,hval⟩,hR,(fun h=>nomatch h),hk,((q.R8 bs gs jF _ none .any).wide (fun i hi=>by cases hi) (fun h=>h)).ofC PM⟩
      grind [C2,ko,aP]
     grind
   ·exact fC h
  ·exact fC h
theorem acz(hE:E.Ok){c:Call}{x:dy}{f:FuncId}{caps:J (TV E)}(ho:o.op=.call c)(hc:c.callee=.value x)(hx:st.ev x=.func (.func f) caps){k:Ex E->TS E->O R}{r:R}
  {Γ:J (bJ E)} (hΓ:∀C∈Γ,C.Ok P) (h:q8 st o.dst f (c.args.toList.map st.ev++caps) k Γ=some r):Cz P o (iC o.dst) true st (fun x st'=>k x st'=some r):=by
 refine N4 hE (fun w0 G0 a w G hr=>?_) hΓ h;have hv:=hr.ev x;rw [hx] at hv;obtain⟨cv,Gx,PN⟩:=hv;refine⟨c.args.map a.eval++cv,?_,?_⟩
 ·have:=(N3 hr c.args.toList).append PN
  simpa using this
 ·simp only [execOp,ho,resolve,hc,Gx,Deferred.ofValue,invoke]
  simp
theorem acA(hE:E.Ok){c:Call}{x:dy}{f:FuncId}{fs:J (TV E)}(ho:o.op=.call c)(hc:c.callee=.value x)(hx:st.ev x=.Gt (.func f) fs){k:Ex E->TS E->O R}{r:R}
  {Γ:J (bJ E)} (hΓ:∀C∈Γ,C.Ok P) (h:q8 st o.dst f (fs++c.args.toList.map st.ev) k Γ=some r):Cz P o (iC o.dst) true st (fun x st'=>k x st'=some r):=by
 refine N4 hE (fun w0 G0 a w G hr=>?_) hΓ h;have hv:=hr.ev x;rw [hx] at hv;obtain⟨cv,Gx,PN⟩:=hv;refine⟨cv++c.args.map a.eval,?_,?_⟩
 ·have:=PN.append (N3 hr c.args.toList)
  simpa using this
 ·simp only [execOp,ho,resolve,hc,Gx,Deferred.ofValue,invoke]
  simp
end Go.RT
