import Derived.Test.YtjgkapeknmdedaaGreatDoorLp
import Derived.Test.YtjgkapeknmdedaaGreatDoorGExpandPatterns
import Derived.Test.YtjgkapeknmdedaaGreatDoorJExpandPatterns
set_option linter.all false
namespace Go.Proofs.YtjgkapeknmdedaaGreatDoor
open Go.ChangeShapes Go.WideShapes Go.ChangeAt Go.RowKit Go.RT
namespace DE
set_option maxRecDepth 100000 in
theorem calls(hm:∀(a0:uy)(q0:IX a0),∃F,iP F a0=some true)(a0:uy)(q0:IX a0):kN (E:=E) Tryz.prog 3 [.dat (.ext 0) a0] [] [] [] ⟨true,.dat .bool true,[],[],[],[]⟩:=by
 obtain⟨F,hF⟩:=hm a0 q0;exact GF F a0 true hF
set_option maxRecDepth 100000 in
theorem lifted(hm:∀(a0:uy)(q0:IX a0),∃F,iP F a0=some true)(os:Os)(started:os.Started)(H:Type)(enc:aC×Value->H):
  ReturnsInHanded {} Tryz.checked os 3 .any (fun w args=>(Rows.expandPatternsSpec.pre enc Tryz.prog Tryz.f3 [] false w args/\laidMetH Tryz.prog D9 w)/\sizedMet enc Tryz.prog Tryz.f3 (OpenSpec.ofChange Rows.expandPatternsSpec) false w args)
   (Rows.expandPatternsSpec.post enc Tryz.prog Tryz.f3 false true false false):=by
 refine WL (C:=Tryz.checked) (X:=fun w _=>laidMetH Tryz.prog D9 w) (fun _ _ _ hh h=>h.of_heap hh) own started kr Tryz.func3
  (ChangeSpec.witness_at (enc:=enc) (C:=Tryz.checked) (os:=os) (X:=fun w _=>laidMetH Tryz.prog D9 w) false (VF os) #[.agg #[.string ⟨#[]⟩,.slice none 0 0,.slice none 0 0,.slice none 0 0,.slice none 0 0,.slice none 0 0,.int .i64 0,.int .i64 0,.int .i64 0,.int .i64 0,.string ⟨#[]⟩,.int .i64 0,.int .i64 0,.int .i64 0,.bool false,.slice none 0 0,.slice none 0 0,.slice none 0 0]] 8 (World.laidAll_os _ _ _) kr kr kr kr kr (WM os _)) ?_
 intro W base args ds gs before ajG hW hL hSh hWt;have hval:∀(j:Nat) t v,Tryz.f3.params[j]? = some t->args[j]? = some v->Value.okWide Tryz.prog W .any base t v:=ajG;have hW':=hW;obtain⟨p,q,hA0,hV,rfl,hfz,hnd⟩:=hW;have hA:DataW.TrodAll enc Tryz.prog W 0 (fun _=>true) true Tryz.f3.params.toList args.toList ds p:=hA0;rw [Tryz.params3] at hA hval;obtain⟨v0,vs0,d0,ds0,p0,r0,hargs,rfl,rfl,h0,t0⟩:=trodAll_cons hA;obtain⟨rfl,rfl,rfl⟩:=trodAll_nil t0;obtain rfl:args=#[v0]:=by cases args;simp_all
 obtain⟨rfl,rfl⟩:=trodVars_none hV;have lt0:∀x∈p0,x.block<W.heap.size:=by obtain⟨m,hm⟩:=h0;exact DataW.trod_lt m _ _ _ hm
 obtain⟨a0,q0,l0⟩:=anA.arg (fun fuel=>(ahw fuel)) h0 (wAt hWt 0 kr rfl)
 have z0:VT E W ⟨[],[],fun b _=>b<W.heap.size⟩ (.dat (.ext 0) a0) v0:=by
  obtain⟨_,rfl,_⟩:=okWide_struct Tryz.underlying34 (hval 0 34 v0 rfl rfl);exact⟨_,rfl,l0⟩
 clear hA0 ajG;refine (afx (calls hm a0 q0) (oQ Tryz.func3 kr kr) (Ye hL hSh) (args:=#[v0]) (.cons z0 .nil)).mono fun e W' ⟨he,GX⟩=>?_;subst he;exact⟨_,rfl,_,_,_,[],_,[],hW',trodAll_mk1 (shut_bool Tryz.underlying4 _),(trodAll_cons_mk (Below.trod laidOut kr (yX kr) h0 GX lt0) trodAll_mk0),rfl,GX.frame _,fun h=>by cases h⟩
theorem row(hm:∀(a0:uy)(q0:IX a0),∃F,iP F a0=some true):Rows.ExpandPatternsSaid:=
 OpenClaim.holds_of_wide 3 Tryz.f3 rfl rfl rfl rfl rfl rfl rfl ⟨rfl,rfl,rfl,rfl,rfl⟩ rfl rfl rfl rfl rfl DF Tryz.func3 IY
  (yX kr) (by unfold Func.isWrapper;first|(rw [if_pos (by decide +kernel)];kernel_rfl)|(rw [if_neg (by decide +kernel)];exact⟨rfl,rfl⟩))
  (fun os started H enc _=>lifted hm os started H enc)
theorem card(hm:∀(a0:uy)(q0:IX a0),∃F,iP F a0=some true):Rows.ExpandPatternsCardSaid:=
 Claim7.holds_tied_plain_at .later [] [.data,.data,.data,.data,.pinned] true (true,"e49b22786e0a351cabce865fb18522b3464496515dd8a2ab0b3d66756980fa87") true
  (row hm) (fun _ h=>by cases h) Pb (fun _ h=>by cases h) expandPatterns_row_tie rfl ⟨rfl,rfl⟩ afy rfl
  Pc
  LV
end DE
end Go.Proofs.YtjgkapeknmdedaaGreatDoor
