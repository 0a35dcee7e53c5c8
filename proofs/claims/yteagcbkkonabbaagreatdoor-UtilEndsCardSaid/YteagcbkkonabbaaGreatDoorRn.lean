import Derived.Test.YteagcbkkonabbaaGreatDoorRi
set_option linter.all false
namespace Go.RT
set_option linter.unusedVariables false
open Go.RowKit
variable {E : TEnv}
structure CloneAt (P:Program) (f:FuncId) (e:TypeId):Prop where
 enters:∀args w,(callFunc f args).run P w=.ok (.enter f args) w
 cs:∀(b off n c:Nat) (zs:List ByteArray) (w:World),n≤zs.length→n * 16≤140737488355328→(∀j,j<zs.length→w.cell? ⟨b,off+j,none⟩=some (.string (zs.getD j ByteArray.empty))) →
  Calls P f #[.slice (some ⟨b,off,none⟩) n c] w fun e' w'=>∃v',e'=.returned v'∧w'.ownsRow w.heap.size e 1 v' n ((zs.take n).map Value.string)∧v'≠.slice none 0 0∧Below w.heap.size w w'
 cz:∀(a:Addr) (c:Nat) (w:World),Calls P f #[.slice (some a) 0 c] w fun e' w'=>∃v',e'=.returned v'∧w'.ownsRow w.heap.size e 1 v' 0 []∧v'≠.slice none 0 0∧Below w.heap.size w w'
 cn:∀(n c:Nat) (w:World),Calls P f #[.slice none n c] w fun e' w'=>e'=.returned (.slice none 0 0)∧w'=w
def cloneSC (E:TEnv) (f:FuncId) (e:TypeId) (m:List (List UInt8)→Option (List (List UInt8))):Ctr E:=⟨⟨f,[.one (.dat (.lst .str))],[],[],⟨.one (.gso 0),[],[some (e,1)],[(0,.str)]⟩,none,[]⟩,fun (x:List (List UInt8))=>m x⟩
theorem cloneS_ok {P:Program} {f:FuncId} {e:TypeId} (h:CloneAt P f e) (hz:E.zc e=true) {m:List (List UInt8)→Option (List (List UInt8))} (hm:∀l y,m l=some y→y=l∧l.length * 16≤140737488355328):(cloneSC E f e m).Ok P:=by
 have key:∀(l:List (List UInt8)),l.length * 16≤140737488355328→ACalls (E:=E) P f [.dat (.lst .str) l] [] [] [] ⟨true,.gso 0 0,[],[⟨0,e,1⟩],[],[(0,⟨.str,l⟩)]⟩:=by
  intro l hlen
  intro w G args hP hB hS hv
  obtain⟨u,us,ha,hv1,hv2⟩:=hv.cons_inv
  have hv2:us=[]:=by simpa only [VTs] using hv2
  subst hv2
  have ha:args=#[u]:=by apply Array.ext';exact ha
  subst ha
  unfold Invokes
  rw [h.enters]
  have hx:(l.map fun s=>(⟨⟨s⟩⟩:ByteArray)).map (·.data.toList)=l:=by rw [List.map_map];exact List.map_id l
  have hC:Calls P f #[u] w fun e' w'=>∃v',e'=.returned v'∧w'.ownsRow w.heap.size e 1 v' l.length ((l.map fun s=>(⟨⟨s⟩⟩:ByteArray)).map Value.string)∧Below w.heap.size w w':=by
   rcases hv1.strs with⟨a,hu,hl⟩ | ⟨b,off,cap,hu,hcap,hc⟩
   ·subst hl hu
    cases a with
    | none=>exact (h.cn 0 0 w).mono fun e' w' ⟨q1,q2⟩=>⟨_,q1,⟨by simp,.inl ⟨rfl,rfl⟩⟩,q2▸Below.refl _ _⟩
    | some a=>exact (h.cz a 0 w).mono fun e' w' ⟨v',q1,q2,_,q3⟩=>⟨v',q1,q2,q3⟩
   ·subst hu
    have:=h.cs b off l.length cap (l.map fun s=>⟨⟨s⟩⟩) w (by simp) hlen (fun j hj=>by
     have hj':j<l.length:=by simpa using hj
     have h1:=hc j l[j] (List.getElem?_eq_getElem hj')
     rw [h1]
     simp [List.getD,hj',mkStr])
    exact this.mono fun e' w' ⟨v',q1,q2,_,q3⟩=>⟨v',q1,by rw [List.take_of_length_le (by simp)] at q2;exact q2,q3⟩
  refine Calls.mono hC fun e' w' hh=>?_
  obtain⟨v',rfl,hown,bel⟩:=hh
  have hr:=Rel.initL (n:=0) (ds:=[]) (args:=#[]) hP hB hS .nil
  have hG:=hr.grow (w':=w') ⟨bel.size,fun k hk=>bel.block k hk⟩ bel.os bel.tape bel.output G.pr (fun _ _ h=>h) (fun _ _ _ h=>h) (fun b o hp=>Nat.lt_of_lt_of_le (hr.boxes.prok b o hp).1 bel.size)
  have hown0:w'.ownsRow 0 e 1 v' l.length ((l.map fun s=>(⟨⟨s⟩⟩:ByteArray)).map Value.string):=by
   refine⟨hown.1,?_⟩
   rcases hown.2 with q | ⟨g,cap',cur',o2,o3,o4⟩
   ·exact .inl q
   ·exact .inr ⟨g,cap',cur',o2,Nat.zero_le _,o4⟩
  have hge:∀b,v'.ownBlock=some b→w.heap.size≤b:=fun b hb=>by
   rcases hown.2 with⟨q,-⟩ | ⟨g,cap',cur',o2,o3,o4⟩
   ·rw [q] at hb;cases hb
   ·rw [o2] at hb;cases hb;exact o3
  have hone:v'.oneCell'=true:=by
   rcases hown.2 with⟨q,-⟩ | ⟨g,cap',cur',o2,o3,o4⟩
   ·rw [q];rfl
   ·rw [o2];rfl
  have hnp:∀b,v'.ownBlock=some b→∀o,¬ G.pr b o:=fun b hb o hp=>absurd (hr.boxes.prok _ _ hp).1 (Nat.not_lt.2 (hge b hb))
  have hA:=hG.addGrow ⟨0,e,1⟩ v' ⟨l.length,_,hown0,fun _ _ _=>hz,fun b hb=>⟨(hown.lt b hb).2,fun hmem=>absurd (hr.boxes.lt _ hmem) (Nat.not_lt.2 (hge b hb)),fun o _ hp=>hnp b hb o hp⟩⟩ hge (fun j y z b hj hzb hb=>by
    obtain⟨n',xs',-,-,hb'⟩:=hr.boxes.grow j y z hj
    exact absurd (hb' _ hzb).1 (Nat.not_lt.2 (hge b hb)))
  have hg0:G.g=[]:=by
   have:=hB.gs
   simpa using this
  have hgj:(G.g++[((⟨0,e,1⟩:TGrow),v')])[0]? = some (⟨0,e,1⟩,v'):=by rw [hg0];rfl
  have hC2:=hA.addC (j:=0) (c:=⟨.str,l⟩) ⟨⟨0,e,1⟩,_,hgj,rfl,Nat.one_pos,⟨_,hown0,by
    have:=strs_flat (E:=E) (w:=w') (pr:=G.pr) (l.map fun s=>(⟨⟨s⟩⟩:ByteArray))
    rw [hx] at this
    exact this⟩,hnp⟩
  refine⟨_,_,rfl,hC2.evol,hC2.boxes,hC2.softs,?_,fun q b hq _=>hC2.fix q b hq (by simp)⟩
  simp only [VT]
  exact⟨⟨0,e,1⟩,_,hgj,Nat.le_refl _,hone,fun _=>rfl⟩
 intro x y hy
 obtain⟨h1,h2⟩:=hm x y hy
 subst h1
 exact key _ h2
end Go.RT
