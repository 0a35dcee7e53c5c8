import Derived.Test.YthmndfnkdgmenaaGreatDoorLp
import Derived.Test.YthmndfnkdgmenaaGreatDoorGExpandTexts
import Derived.Test.YthmndfnkdgmenaaGreatDoorJExpandTexts
set_option linter.all false
namespace Go.Proofs.YthmndfnkdgmenaaGreatDoor
open Go.ChangeShapes Go.WideShapes Go.ChangeAt Go.RowKit Go.RT
namespace Jd
set_option maxRecDepth 100000 in
theorem calls(hm:∀(a0:uO)(q0:Je a0)(a1:Bs)(q1:a1.length<=140737488351232),∃F,j9 F a0 a1=some true)(a0:uO)(q0:Je a0)(a1:Bs)(q1:a1.length<=140737488351232):kV (E:=E) Tryz.prog 3 [.dat (.ext 0) a0,.dat .str a1] [] [] [] ⟨true,.dat .bool true,[],[],[],[]⟩:=by
 obtain⟨F,hF⟩:=hm a0 q0 a1 q1;exact Ke F (a0,a1) true hF
set_option maxRecDepth 100000 in
theorem lifted(hm:∀(a0:uO)(q0:Je a0)(a1:Bs)(q1:a1.length<=140737488351232),∃F,j9 F a0 a1=some true)(os:Os)(started:os.Started)(H:Type)(enc:aD×Value->H):
  ReturnsInHanded {} Tryz.checked os 3 .any (fun w args=>(Rows.expandTextsSpec.pre enc Tryz.prog Tryz.f3 [] false w args/\laidMetH Tryz.prog Ei w)/\sizedMet enc Tryz.prog Tryz.f3 (OpenSpec.ofChange Rows.expandTextsSpec) false w args)
   (Rows.expandTextsSpec.post enc Tryz.prog Tryz.f3 false true false false):=by
 refine WV (C:=Tryz.checked) (X:=fun w _=>laidMetH Tryz.prog Ei w) (fun _ _ _ hh h=>h.of_heap hh) own started kr Tryz.func3
  (ChangeSpec.witness_at (enc:=enc) (C:=Tryz.checked) (os:=os) (X:=fun w _=>laidMetH Tryz.prog Ei w) false (VS os) #[.agg #[.string ⟨#[]⟩,.slice none 0 0,.slice none 0 0,.slice none 0 0,.slice none 0 0,.slice none 0 0,.int .i64 0,.int .i64 0,.int .i64 0,.int .i64 0,.string ⟨#[]⟩,.int .i64 0,.int .i64 0,.int .i64 0,.bool false,.slice none 0 0,.slice none 0 0,.slice none 0 0],.string ⟨#[]⟩] 8 (World.laidAll_os _ _ _) kr kr kr kr kr (WW os _)) ?_
 intro W base args ds gs before ajO hW hL hSh hWt;have hval:∀(j:Nat) t v,Tryz.f3.params[j]? = some t->args[j]? = some v->Value.okWide Tryz.prog W .any base t v:=ajO;have hW':=hW;obtain⟨p,q,hA0,hV,rfl,hfz,hnd⟩:=hW;have hA:DataW.TrodAll enc Tryz.prog W 0 (fun _=>true) true Tryz.f3.params.toList args.toList ds p:=hA0;rw [Tryz.params3] at hA hval;obtain⟨v0,vs0,d0,ds0,p0,r0,hargs,rfl,rfl,h0,t0⟩:=trodAll_cons hA;obtain⟨v1,vs1,d1,PJ,p1,r1,rfl,rfl,rfl,h1,t1⟩:=trodAll_cons t0;obtain⟨rfl,rfl,rfl⟩:=trodAll_nil t1;obtain rfl:args=#[v0,v1]:=by cases args;simp_all
 obtain⟨rfl,rfl⟩:=trodVars_none hV;have lt0:∀x∈p0,x.block<W.heap.size:=by obtain⟨m,hm⟩:=h0;exact DataW.trod_lt m _ _ _ hm
 obtain⟨a0,q0,l0⟩:=ajP.arg (fun fuel=>(ahE fuel)) h0 (wAt hWt 0 kr rfl)
 have z0:VT E W ⟨[],[],fun b _=>b<W.heap.size⟩ (.dat (.ext 0) a0) v0:=by
  obtain⟨_,rfl,_⟩:=okWide_struct Tryz.underlying34 (hval 0 34 v0 rfl rfl);exact⟨_,rfl,l0⟩
 have lt1:∀x∈p1,x.block<W.heap.size:=by obtain⟨m,hm⟩:=h1;exact DataW.trod_lt m _ _ _ hm
 obtain⟨a1,q1,l1⟩:=ajP.arg (fun fuel=>(FF Tryz.underlying9 fuel)) h1 (wAt hWt 1 kr rfl)
 have z1:VT E W ⟨[],[],fun b _=>b<W.heap.size⟩ (.dat .str a1) v1:=by
  obtain⟨_,rfl⟩:=okWide_string Tryz.underlying9 (hval 1 9 v1 rfl rfl);exact l1
 clear hA0 ajO;refine (afD (calls hm a0 q0 a1 q1) (oZ Tryz.func3 kr kr) (Yp hL hSh) (args:=#[v0,v1]) (.cons z0 (.cons z1 .nil))).mono fun e W' ⟨he,FG⟩=>?_;subst he;exact⟨_,rfl,_,_,_,[],_,[],hW',trodAll_mk1 (shut_bool Tryz.underlying4 _),(trodAll_cons_mk (Below.trod laidOut kr (wS kr) h0 FG lt0) (trodAll_cons_mk (Below.trod laidOut kr (wS kr) h1 FG lt1) trodAll_mk0)),rfl,FG.frame _,fun h=>by cases h⟩
theorem row(hm:∀(a0:uO)(q0:Je a0)(a1:Bs)(q1:a1.length<=140737488351232),∃F,j9 F a0 a1=some true):Rows.ExpandTextsSaid:=
 OpenClaim.holds_of_wide 3 Tryz.f3 rfl rfl rfl rfl rfl rfl rfl ⟨rfl,rfl,rfl,rfl,rfl⟩ rfl rfl rfl rfl rfl Jf Tryz.func3 MG
  (wS kr) (by unfold Func.isWrapper;first|(rw [if_pos (by decide +kernel)];kernel_rfl)|(rw [if_neg (by decide +kernel)];exact⟨rfl,rfl⟩))
  (fun os started H enc _=>lifted hm os started H enc)
theorem card(hm:∀(a0:uO)(q0:Je a0)(a1:Bs)(q1:a1.length<=140737488351232),∃F,j9 F a0 a1=some true):Rows.ExpandTextsCardSaid:=
 Claim7.holds_tied_plain_at .later [] [.data,.data,.data,.data,.pinned] true (true,"55e193ad713bba8a5a0dd2550e1697fe74efba736019d981746eabd7af77ae23") true
  (row hm) (fun _ h=>by cases h) Up (fun _ h=>by cases h) expandTexts_row_tie rfl ⟨rfl,rfl⟩ afE rfl
  Uq
  Qz
end Jd
end Go.Proofs.YthmndfnkdgmenaaGreatDoor
