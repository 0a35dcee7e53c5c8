import Derived.Test.YtjfbblgjjdgjdaaGreatDoorLp
import Derived.Test.YtjfbblgjjdgjdaaGreatDoorJExpandJoins
open Option renaming some->iN,none->iF
open Bool renaming true->hJ,false->eQ
open Go renaming Value->T1
set_option linter.all false
set_option maxRecDepth 100000
namespace Go.Proofs.YtjfbblgjjdgjdaaGreatDoor
open Go.Proofs.Tryz
open Go.ChangeShapes Go.WideShapes Go.ChangeAt Go.RowKit Go.RT
namespace K2
theorem calls(hm:∀(a0:wV)(q0:K3 a0)(a1:Int)(q1:(Lit.int .u8 a1).wf=hJ),∃F,lJ F a0 a1=iN hJ)(a0:wV)(q0:K3 a0)(a1:Int)(q1:(Lit.int .u8 a1).wf=hJ):mL (E:=E) prog 3 [.dat (.ext 0) a0,.dat (.int .u8) a1] [] [] [] ⟨hJ,.dat .bool hJ,[],[],[],[]⟩:=by obtain⟨F,hF⟩:=hm a0 q0 a1 q1;exact Ml F (a0,a1) hJ hF
theorem lifted(hm:∀(a0:wV)(q0:K3 a0)(a1:Int)(q1:(Lit.int .u8 a1).wf=hJ),∃F,lJ F a0 a1=iN hJ)(os:Os)(started:os.Started)(H:Type)(enc:aL×T1->H):
  ReturnsInHanded {} Tryz.checked os 3 .any (λw args=>(Rows.expandJoinsSpec.pre enc prog Tryz.f3 [] eQ w args/\laidMetH prog Gf w)/\sizedMet enc prog Tryz.f3 (OpenSpec.ofChange Rows.expandJoinsSpec) eQ w args)
   (Rows.expandJoinsSpec.post enc prog Tryz.f3 eQ hJ eQ eQ):=by
 refine aaf (C:=Tryz.checked) (X:=λw _=>laidMetH prog Gf w) (λ_ _ _ hh h=>h.of_heap hh) own started kr func3
  (ChangeSpec.witness_at (enc:=enc) (C:=Tryz.checked) (os:=os) (X:=λw _=>laidMetH prog Gf w) eQ (Y2 os) #[.agg #[.string ⟨#[]⟩,.slice iF 0 0,.slice iF 0 0,.slice iF 0 0,.slice iF 0 0,.slice iF 0 0,.int .i64 0,.int .i64 0,.int .i64 0,.int .i64 0,.string ⟨#[]⟩,.int .i64 0,.int .i64 0,.int .i64 0,.bool eQ,.slice iF 0 0,.slice iF 0 0,.slice iF 0 0],.int .u8 0] 8 (World.laidAll_os _ _ _) kr kr kr kr kr (aag os _)) ?_
 intro W base args ds gs before aoo hW hL hSh hWt;have hval:∀(j:Nat) t v,Tryz.f3.params[j]? = iN t->args[j]? = iN v->Value.okWide prog W .any base t v:=aoo;have hW':=hW;obtain⟨p,q,hA0,hV,rfl,hfz,hnd⟩:=hW;have hA:DataW.TrodAll enc prog W 0 (λ_=>hJ) hJ Tryz.f3.params.toList args.toList ds p:=hA0;rw[Tryz.params3]at hA hval;obtain⟨v0,vs0,d0,ds0,p0,r0,hargs,rfl,rfl,h0,t0⟩:=trodAll_cons hA;obtain⟨v1,vs1,d1,SN,p1,r1,rfl,rfl,rfl,h1,t1⟩:=trodAll_cons t0;obtain⟨rfl,rfl,rfl⟩:=trodAll_nil t1;obtain rfl:args=#[v0,v1]:=by cases args;simp_all
 obtain⟨rfl,rfl⟩:=trodVars_none hV;have lt0:∀x∈p0,x.block<W.heap.size:=by obtain⟨m,hm⟩:=h0;exact DataW.trod_lt m _ _ _ hm
 obtain⟨a0,q0,l0⟩:=aop.arg (λfuel=>(alS fuel)) h0 (wAt hWt 0 kr rfl);have z0:VT E W ⟨[],[],λb _=>b<W.heap.size⟩ (.dat (.ext 0) a0) v0:=by obtain⟨_,rfl,_⟩:=okWide_struct underlying34 (hval 0 34 v0 rfl rfl);exact⟨_,rfl,l0⟩
 have lt1:∀x∈p1,x.block<W.heap.size:=by obtain⟨m,hm⟩:=h1;exact DataW.trod_lt m _ _ _ hm
 obtain⟨a1,q1,l1⟩:=aop.arg (λfuel=>(Y3 underlying5 fuel)) h1 (wAt hWt 1 kr rfl);have z1:VT E W ⟨[],[],λb _=>b<W.heap.size⟩ (.dat (.int .u8) a1) v1:=by obtain⟨_,rfl⟩:=okWide_int underlying5 (hval 1 5 v1 rfl rfl);exact l1
 clear hA0 aoo;refine(ajx (calls hm a0 q0 a1 q1) (qQ func3 kr kr) (abH hL hSh) (args:=#[v0,v1]) (.cons z0 (.cons z1 .nil))).mono λe W' ⟨he,HD⟩=>?_;subst he;exact⟨_,rfl,_,_,_,[],_,[],hW',trodAll_mk1 (shut_bool underlying4 _),(trodAll_cons_mk (Below.trod laidOut kr (zi kr) h0 HD lt0) (trodAll_cons_mk (Below.trod laidOut kr (zi kr) h1 HD lt1) trodAll_mk0)),rfl,HD.frame _,λh=>by cases h⟩
theorem row(hm:∀(a0:wV)(q0:K3 a0)(a1:Int)(q1:(Lit.int .u8 a1).wf=hJ),∃F,lJ F a0 a1=iN hJ):Rows.ExpandJoinsSaid:=
 OpenClaim.holds_of_wide 3 Tryz.f3 rfl rfl rfl rfl rfl rfl rfl ⟨rfl,rfl,rfl,rfl,rfl⟩ rfl rfl rfl rfl rfl K4 func3 OX
  (zi kr) (by unfold Func.isWrapper;first|(rw[if_pos (by decide +kernel)];kernel_rfl)|(rw[if_neg (by decide +kernel)];exact⟨rfl,rfl⟩))
  (λos started H enc _=>lifted hm os started H enc)
theorem card(hm:∀(a0:wV)(q0:K3 a0)(a1:Int)(q1:(Lit.int .u8 a1).wf=hJ),∃F,lJ F a0 a1=iN hJ):Rows.ExpandJoinsCardSaid:=
 Claim7.holds_tied_plain_at .later [] [.data,.data,.data,.data,.pinned] hJ (hJ,"e11172bd3334fd95cca77f1cce35c0f8438eca3af3377dde4350f7058328b9f9") hJ
  (row hm) (λ_ h=>by cases h) Xq (λ_ h=>by cases h) expandJoins_row_tie rfl ⟨rfl,rfl⟩ ajy rfl
  Xr
  TM
end K2
