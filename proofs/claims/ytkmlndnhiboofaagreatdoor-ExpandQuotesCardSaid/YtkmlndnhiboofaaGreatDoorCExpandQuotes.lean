import Derived.Test.YtkmlndnhiboofaaGreatDoorLp
import Derived.Test.YtkmlndnhiboofaaGreatDoorGExpandQuotes
import Derived.Test.YtkmlndnhiboofaaGreatDoorJExpandQuotes
open Option renaming some->W0,none->WP
open Bool renaming true->WF,false->UV
set_option linter.all false
namespace Go.Proofs.YtkmlndnhiboofaaGreatDoor
open Go.Proofs.Tryz
open Go.ChangeShapes Go.WideShapes Go.ChangeAt Go.RowKit Go.RT
namespace Ie
set_option maxRecDepth 100000 in
theorem calls(hm:∀(a0:vl)(q0:J4 a0),∃F,jZ F a0=W0 WF)(a0:vl)(q0:J4 a0):lK (E:=E) prog 3 [.dat (.ext 0) a0] [] [] [] ⟨WF,.dat .bool WF,[],[],[],[]⟩:=by
 obtain⟨F,hF⟩:=hm a0 q0;exact J5 F a0 WF hF
set_option maxRecDepth 100000 in
theorem lifted(hm:∀(a0:vl)(q0:J4 a0),∃F,jZ F a0=W0 WF)(os:Os)(started:os.Started)(H:Type)(enc:aK×Value->H):
  ReturnsInHanded {} Tryz.checked os 3 .any (λw args=>(Rows.expandQuotesSpec.pre enc prog Tryz.f3 [] UV w args/\laidMetH prog Ff w)/\sizedMet enc prog Tryz.f3 (OpenSpec.ofChange Rows.expandQuotesSpec) UV w args)
   (Rows.expandQuotesSpec.post enc prog Tryz.f3 UV WF UV UV):=by
 refine Yw (C:=Tryz.checked) (X:=λw _=>laidMetH prog Ff w) (λ_ _ _ hh h=>h.of_heap hh) own started kr func3
  (ChangeSpec.witness_at (enc:=enc) (C:=Tryz.checked) (os:=os) (X:=λw _=>laidMetH prog Ff w) UV (Xn os) #[.agg #[.string ⟨#[]⟩,.slice WP 0 0,.slice WP 0 0,.slice WP 0 0,.slice WP 0 0,.slice WP 0 0,.int .i64 0,.int .i64 0,.int .i64 0,.int .i64 0,.string ⟨#[]⟩,.int .i64 0,.int .i64 0,.int .i64 0,.bool UV,.slice WP 0 0,.slice WP 0 0,.slice WP 0 0]] 8 (World.laidAll_os _ _ _) kr kr kr kr kr (Yx os _)) ?_
 intro W base args ds gs before alS hW hL hSh hWt;have hval:∀(j:Nat) t v,Tryz.f3.params[j]? = W0 t->args[j]? = W0 v->Value.okWide prog W .any base t v:=alS;have hW':=hW;obtain⟨p,q,hA0,hV,rfl,hfz,hnd⟩:=hW;have hA:DataW.TrodAll enc prog W 0 (λ_=>WF) WF Tryz.f3.params.toList args.toList ds p:=hA0;rw[Tryz.params3]at hA hval;obtain⟨v0,vs0,d0,ds0,p0,r0,hargs,rfl,rfl,h0,t0⟩:=trodAll_cons hA;obtain⟨rfl,rfl,rfl⟩:=trodAll_nil t0;obtain rfl:args=#[v0]:=by cases args;simp_all
 obtain⟨rfl,rfl⟩:=trodVars_none hV;have lt0:∀x∈p0,x.block<W.heap.size:=by obtain⟨m,hm⟩:=h0;exact DataW.trod_lt m _ _ _ hm
 obtain⟨a0,q0,l0⟩:=ap8.arg (λfuel=>(aju fuel)) h0 (wAt hWt 0 kr rfl)
 have z0:VT E W ⟨[],[],λb _=>b<W.heap.size⟩ (.dat (.ext 0) a0) v0:=by
  obtain⟨_,rfl,_⟩:=okWide_struct underlying34 (hval 0 34 v0 rfl rfl);exact⟨_,rfl,l0⟩
 clear hA0 alS;refine(ahb (calls hm a0 q0) (qd func3 kr kr) (ZU hL hSh) (args:=#[v0]) (.cons z0 .nil)).mono λe W' ⟨he,Ig⟩=>?_;subst he;exact⟨_,rfl,_,_,_,[],_,[],hW',trodAll_mk1 (shut_bool underlying4 _),(trodAll_cons_mk (Below.trod laidOut kr (Cm kr) h0 Ig lt0) trodAll_mk0),rfl,Ig.frame _,λh=>by cases h⟩
theorem row(hm:∀(a0:vl)(q0:J4 a0),∃F,jZ F a0=W0 WF):Rows.ExpandQuotesSaid:=
 OpenClaim.holds_of_wide 3 Tryz.f3 rfl rfl rfl rfl rfl rfl rfl ⟨rfl,rfl,rfl,rfl,rfl⟩ rfl rfl rfl rfl rfl Ih func3 M4
  (Cm kr) (by unfold Func.isWrapper;first|(rw[if_pos (by decide +kernel)];kernel_rfl)|(rw[if_neg (by decide +kernel)];exact⟨rfl,rfl⟩))
  (λos started H enc _=>lifted hm os started H enc)
theorem card(hm:∀(a0:vl)(q0:J4 a0),∃F,jZ F a0=W0 WF):Rows.ExpandQuotesCardSaid:=
 Claim7.holds_tied_plain_at .later [] [.data,.data,.data,.data,.pinned] WF (WF,"4dfcb1320df68983f850311497df311a1a59582a73e24ebe0fb41581da319a42") WF
  (row hm) (λ_ h=>by cases h) Tp (λ_ h=>by cases h) expandQuotes_row_tie rfl ⟨rfl,rfl⟩ ahc rfl
  Tq
  QJ
end Ie
end Go.Proofs.YtkmlndnhiboofaaGreatDoor
