import Derived.Test.YtlgmlcgjmcmmgaaGreatDoorLp
import Derived.Test.YtlgmlcgjmcmmgaaGreatDoorGExpandAssigns
import Derived.Test.YtlgmlcgjmcmmgaaGreatDoorJExpandAssigns
set_option linter.all false
namespace Go.Proofs.YtlgmlcgjmcmmgaaGreatDoor
open Go.ChangeShapes Go.WideShapes Go.ChangeAt Go.RowKit Go.RT
namespace Fv
set_option maxRecDepth 100000 in
theorem calls(hm:∀(a0:uC)(q0:I2 a0)(a1:J Bs)(q1:(a1.length<=maxLen/\∀y,y∈a1->y.length<=140737488351232)),∃F,jo F a0 a1=some true)(a0:uC)(q0:I2 a0)(a1:J Bs)(q1:(a1.length<=maxLen/\∀y,y∈a1->y.length<=140737488351232)):kS (E:=E) Tryz.prog 3 [.dat (.ext 0) a0,.dat (.aZ .str) a1] [] [] [] ⟨true,.dat .bool true,[],[],[],[]⟩:=by
 obtain⟨F,hF⟩:=hm a0 q0 a1 q1;exact Il F (a0,a1) true hF
set_option maxRecDepth 100000 in
theorem lifted(hm:∀(a0:uC)(q0:I2 a0)(a1:J Bs)(q1:(a1.length<=maxLen/\∀y,y∈a1->y.length<=140737488351232)),∃F,jo F a0 a1=some true)(os:Os)(started:os.Started)(H:Type)(enc:aC×Value->H):
  ReturnsInHanded {} Tryz.checked os 3 .any (fun w args=>(Rows.expandAssignsSpec.pre enc Tryz.prog Tryz.f3 [] false w args/\laidMetH Tryz.prog Ea w)/\sizedMet enc Tryz.prog Tryz.f3 (OpenSpec.ofChange Rows.expandAssignsSpec) false w args)
   (Rows.expandAssignsSpec.post enc Tryz.prog Tryz.f3 false true false false):=by
 refine WG (C:=Tryz.checked) (X:=fun w _=>laidMetH Tryz.prog Ea w) (fun _ _ _ hh h=>h.of_heap hh) own started kr Tryz.func3
  (ChangeSpec.witness_at (enc:=enc) (C:=Tryz.checked) (os:=os) (X:=fun w _=>laidMetH Tryz.prog Ea w) false (VC os) #[.agg #[.string ⟨#[]⟩,.slice none 0 0,.slice none 0 0,.slice none 0 0,.slice none 0 0,.slice none 0 0,.int .i64 0,.int .i64 0,.int .i64 0,.int .i64 0,.string ⟨#[]⟩,.int .i64 0,.int .i64 0,.int .i64 0,.bool false,.slice none 0 0,.slice none 0 0,.slice none 0 0],.slice none 0 0] 8 (World.laidAll_os _ _ _) kr kr kr kr kr (WH os _)) ?_
 intro W base args ds gs before ajJ hW hL hSh hWt;have hval:∀(j:Nat) t v,Tryz.f3.params[j]? = some t->args[j]? = some v->Value.okWide Tryz.prog W .any base t v:=ajJ;have hW':=hW;obtain⟨p,q,hA0,hV,rfl,hfz,hnd⟩:=hW;have hA:DataW.TrodAll enc Tryz.prog W 0 (fun _=>true) true Tryz.f3.params.toList args.toList ds p:=hA0;rw [Tryz.params3] at hA hval;obtain⟨v0,vs0,d0,ds0,p0,r0,hargs,rfl,rfl,h0,t0⟩:=trodAll_cons hA;obtain⟨v1,vs1,d1,Pp,p1,r1,rfl,rfl,rfl,h1,t1⟩:=trodAll_cons t0;obtain⟨rfl,rfl,rfl⟩:=trodAll_nil t1;obtain rfl:args=#[v0,v1]:=by cases args;simp_all
 obtain⟨rfl,rfl⟩:=trodVars_none hV;have lt0:∀x∈p0,x.block<W.heap.size:=by obtain⟨m,hm⟩:=h0;exact DataW.trod_lt m _ _ _ hm
 obtain⟨a0,q0,l0⟩:=ajK.arg (fun fuel=>(ahw fuel)) h0 (wAt hWt 0 kr rfl)
 have z0:VT E W ⟨[],[],fun b _=>b<W.heap.size⟩ (.dat (.ext 0) a0) v0:=by
  obtain⟨_,rfl,_⟩:=okWide_struct Tryz.underlying34 (hval 0 34 v0 rfl rfl);exact⟨_,rfl,l0⟩
 have lt1:∀x∈p1,x.block<W.heap.size:=by obtain⟨m,hm⟩:=h1;exact DataW.trod_lt m _ _ _ hm
 obtain⟨a1,q1,l1⟩:=ajK.arg (fun fuel=>(adq fuel)) h1 (wAt hWt 1 kr rfl)
 have z1:VT E W ⟨[],[],fun b _=>b<W.heap.size⟩ (.dat (.aZ .str) a1) v1:=by
  obtain⟨_,_,_,rfl⟩:=okWide_slice Tryz.underlying23 (hval 1 23 v1 rfl rfl);exact l1
 clear hA0 ajJ;refine (afv (calls hm a0 q0 a1 q1) (oW Tryz.func3 kr kr) (X9 hL hSh) (args:=#[v0,v1]) (.cons z0 (.cons z1 .nil))).mono fun e W' ⟨he,Fw⟩=>?_;subst he;exact⟨_,rfl,_,_,_,[],_,[],hW',trodAll_mk1 (shut_bool Tryz.underlying4 _),(trodAll_cons_mk (Below.trod laidOut kr (ym kr) h0 Fw lt0) (trodAll_cons_mk (Below.trod laidOut kr (ym kr) h1 Fw lt1) trodAll_mk0)),rfl,Fw.frame _,fun h=>by cases h⟩
theorem row(hm:∀(a0:uC)(q0:I2 a0)(a1:J Bs)(q1:(a1.length<=maxLen/\∀y,y∈a1->y.length<=140737488351232)),∃F,jo F a0 a1=some true):Rows.ExpandAssignsSaid:=
 OpenClaim.holds_of_wide 3 Tryz.f3 rfl rfl rfl rfl rfl rfl rfl ⟨rfl,rfl,rfl,rfl,rfl⟩ rfl rfl rfl rfl rfl Fx Tryz.func3 J4
  (ym kr) (by unfold Func.isWrapper;first|(rw [if_pos (by decide +kernel)];kernel_rfl)|(rw [if_neg (by decide +kernel)];exact⟨rfl,rfl⟩))
  (fun os started H enc _=>lifted hm os started H enc)
theorem card(hm:∀(a0:uC)(q0:I2 a0)(a1:J Bs)(q1:(a1.length<=maxLen/\∀y,y∈a1->y.length<=140737488351232)),∃F,jo F a0 a1=some true):Rows.ExpandAssignsCardSaid:=
 Claim7.holds_tied_plain_at .later [] [.data,.data,.data,.data,.pinned] true (true,"6207e9f60917a9b2fc1aabc87099dd027ee420c08feaf0729c5cf8799560abc3") true
  (row hm) (fun _ h=>by cases h) Ql (fun _ h=>by cases h) expandAssigns_row_tie rfl ⟨rfl,rfl⟩ afw rfl
  Qm
  Mr
end Fv
end Go.Proofs.YtlgmlcgjmcmmgaaGreatDoor
