import Derived.Test.YtpgbhdldcmcenaaGreatDoorLp
import Derived.Test.YtpgbhdldcmcenaaGreatDoorGExpandPlain
import Derived.Test.YtpgbhdldcmcenaaGreatDoorJExpandPlain
set_option linter.all false
namespace Go.Proofs.YtpgbhdldcmcenaaGreatDoor
open Go.Proofs.Tryz
open Go.ChangeShapes Go.WideShapes Go.ChangeAt Go.RowKit Go.RT
namespace JG
set_option maxRecDepth 100000 in
theorem calls(hm:∀(a0:uZ)(q0:JH a0)(a1:J bE)(q1:(a1.length<=maxLen/\∀y,y∈a1->zP y)),∃F,kF F a0 a1=some true)(a0:uZ)(q0:JH a0)(a1:J bE)(q1:(a1.length<=maxLen/\∀y,y∈a1->zP y)):lE (E:=E) prog 3 [.dat (.ext 0) a0,.dat (.bn (.ext 13)) a1] [] [] [] ⟨true,.dat .bool true,[],[],[],[]⟩:=by
 obtain⟨F,hF⟩:=hm a0 q0 a1 q1;exact KL F (a0,a1) true hF
set_option maxRecDepth 100000 in
theorem lifted(hm:∀(a0:uZ)(q0:JH a0)(a1:J bE)(q1:(a1.length<=maxLen/\∀y,y∈a1->zP y)),∃F,kF F a0 a1=some true)(os:Os)(started:os.Started)(H:Type)(enc:aI×Value->H):
  ReturnsInHanded {} Tryz.checked os 3 .any (fun w args=>(Rows.expandPlainSpec.pre enc prog Tryz.f3 [] false w args/\laidMetH prog E0 w)/\sizedMet enc prog Tryz.f3 (OpenSpec.ofChange Rows.expandPlainSpec) false w args)
   (Rows.expandPlainSpec.post enc prog Tryz.f3 false true false false):=by
 refine XM (C:=Tryz.checked) (X:=fun w _=>laidMetH prog E0 w) (fun _ _ _ hh h=>h.of_heap hh) own started kr func3
  (ChangeSpec.witness_at (enc:=enc) (C:=Tryz.checked) (os:=os) (X:=fun w _=>laidMetH prog E0 w) false (WA os) #[.agg #[.string ⟨#[]⟩,.slice none 0 0,.slice none 0 0,.slice none 0 0,.slice none 0 0,.slice none 0 0,.int .i64 0,.int .i64 0,.int .i64 0,.int .i64 0,.string ⟨#[]⟩,.int .i64 0,.int .i64 0,.int .i64 0,.bool false,.slice none 0 0,.slice none 0 0,.slice none 0 0],.slice none 0 0] 8 (World.laidAll_os _ _ _) kr kr kr kr kr (XN os _)) ?_
 intro W base args ds gs before akY hW hL hSh hWt;have hval:∀(j:Nat) t v,Tryz.f3.params[j]? = some t->args[j]? = some v->Value.okWide prog W .any base t v:=akY;have hW':=hW;obtain⟨p,q,hA0,hV,rfl,hfz,hnd⟩:=hW;have hA:DataW.TrodAll enc prog W 0 (fun _=>true) true Tryz.f3.params.toList args.toList ds p:=hA0;rw [Tryz.params3] at hA hval;obtain⟨v0,vs0,d0,ds0,p0,r0,hargs,rfl,rfl,h0,t0⟩:=trodAll_cons hA;obtain⟨v1,vs1,d1,QB,p1,r1,rfl,rfl,rfl,h1,t1⟩:=trodAll_cons t0;obtain⟨rfl,rfl,rfl⟩:=trodAll_nil t1;obtain rfl:args=#[v0,v1]:=by cases args;simp_all
 obtain⟨rfl,rfl⟩:=trodVars_none hV;have lt0:∀x∈p0,x.block<W.heap.size:=by obtain⟨m,hm⟩:=h0;exact DataW.trod_lt m _ _ _ hm
 obtain⟨a0,q0,l0⟩:=akZ.arg (fun fuel=>(aiH fuel)) h0 (wAt hWt 0 kr rfl)
 have z0:VT E W ⟨[],[],fun b _=>b<W.heap.size⟩ (.dat (.ext 0) a0) v0:=by
  obtain⟨_,rfl,_⟩:=okWide_struct underlying34 (hval 0 34 v0 rfl rfl);exact⟨_,rfl,l0⟩
 have lt1:∀x∈p1,x.block<W.heap.size:=by obtain⟨m,hm⟩:=h1;exact DataW.trod_lt m _ _ _ hm
 obtain⟨a1,q1,l1⟩:=akZ.arg (fun fuel=>(ak0 fuel)) h1 (wAt hWt 1 kr rfl)
 have z1:VT E W ⟨[],[],fun b _=>b<W.heap.size⟩ (.dat (.bn (.ext 13)) a1) v1:=by
  obtain⟨_,_,_,rfl⟩:=okWide_slice underlying31 (hval 1 31 v1 rfl rfl);exact l1
 clear hA0 akY;refine (agw (calls hm a0 q0 a1 q1) (p5 func3 kr kr) (Za hL hSh) (args:=#[v0,v1]) (.cons z0 (.cons z1 .nil))).mono fun e W' ⟨he,Gg⟩=>?_;subst he;exact⟨_,rfl,_,_,_,[],_,[],hW',trodAll_mk1 (shut_bool underlying4 _),(trodAll_cons_mk (Below.trod laidOut kr (Ae kr) h0 Gg lt0) (trodAll_cons_mk (Below.trod laidOut kr (Ae kr) h1 Gg lt1) trodAll_mk0)),rfl,Gg.frame _,fun h=>by cases h⟩
theorem row(hm:∀(a0:uZ)(q0:JH a0)(a1:J bE)(q1:(a1.length<=maxLen/\∀y,y∈a1->zP y)),∃F,kF F a0 a1=some true):Rows.ExpandPlainSaid:=
 OpenClaim.holds_of_wide 3 Tryz.f3 rfl rfl rfl rfl rfl rfl rfl ⟨rfl,rfl,rfl,rfl,rfl⟩ rfl rfl rfl rfl rfl JI func3 Nf
  (Ae kr) (by unfold Func.isWrapper;first|(rw [if_pos (by decide +kernel)];kernel_rfl)|(rw [if_neg (by decide +kernel)];exact⟨rfl,rfl⟩))
  (fun os started H enc _=>lifted hm os started H enc)
theorem card(hm:∀(a0:uZ)(q0:JH a0)(a1:J bE)(q1:(a1.length<=maxLen/\∀y,y∈a1->zP y)),∃F,kF F a0 a1=some true):Rows.ExpandPlainCardSaid:=
 Claim7.holds_tied_plain_at .later [] [.data,.data,.data,.data,.pinned] true (true,"4d86a753e74dbda9ca145d2c9477a4af40df3c966b63e48d7359e5d132c02d2a") true
  (row hm) (fun _ h=>by cases h) U4 (fun _ h=>by cases h) expandPlain_row_tie rfl ⟨rfl,rfl⟩ agx rfl
  U5
  Ry
end JG
end Go.Proofs.YtpgbhdldcmcenaaGreatDoor
