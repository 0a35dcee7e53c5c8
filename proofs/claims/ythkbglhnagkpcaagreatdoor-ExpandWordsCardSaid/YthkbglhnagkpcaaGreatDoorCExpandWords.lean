import Derived.Test.YthkbglhnagkpcaaGreatDoorLp
import Derived.Test.YthkbglhnagkpcaaGreatDoorJExpandWords
open Option renaming some->iN,none->iF
open Bool renaming true->eQ,false->eK
open Go renaming Value->R0
set_option linter.all false
set_option maxRecDepth 100000
namespace Go.Proofs.YthkbglhnagkpcaaGreatDoor
open Go.Proofs.Tryz
open Go.ChangeShapes Go.WideShapes Go.ChangeAt Go.RowKit Go.RT
namespace LH
theorem calls(hm:∀(a0:xB)(q0:LJ a0),∃F,lM F a0=iN eQ)(a0:xB)(q0:LJ a0):mI (E:=E) prog 3 [.dat (.ext 0) a0] [] [] [] ⟨eQ,.dat .bool eQ,[],[],[],[]⟩:=by obtain⟨F,hF⟩:=hm a0 q0;exact M4 F a0 eQ hF
theorem lifted(hm:∀(a0:xB)(q0:LJ a0),∃F,lM F a0=iN eQ)(os:Os)(started:os.Started)(H:Type)(enc:aK×R0->H):
  ReturnsInHanded {} Tryz.checked os 3 .any (λw args=>(Rows.expandWordsSpec.pre enc prog Tryz.f3 [] eK w args/\laidMetH prog GG w)/\sizedMet enc prog Tryz.f3 (OpenSpec.ofChange Rows.expandWordsSpec) eK w args)
   (Rows.expandWordsSpec.post enc prog Tryz.f3 eK eQ eK eK):=by
 refine aaM (C:=Tryz.checked) (X:=λw _=>laidMetH prog GG w) (λ_ _ _ hh h=>h.of_heap hh) own started kr func3
  (ChangeSpec.witness_at (enc:=enc) (C:=Tryz.checked) (os:=os) (X:=λw _=>laidMetH prog GG w) eK (ZP os) #[.agg #[.string ⟨#[]⟩,.slice iF 0 0,.slice iF 0 0,.slice iF 0 0,.slice iF 0 0,.slice iF 0 0,.int .i64 0,.int .i64 0,.int .i64 0,.int .i64 0,.string ⟨#[]⟩,.int .i64 0,.int .i64 0,.int .i64 0,.bool eK,.slice iF 0 0,.slice iF 0 0,.slice iF 0 0]] 8 (World.laidAll_os _ _ _) kr kr kr kr kr (aaN os _)) ?_
 intro W base args ds gs before aoS hW hL hSh hWt;have hval:∀(j:Nat) t v,Tryz.f3.params[j]? = iN t->args[j]? = iN v->Value.okWide prog W .any base t v:=aoS;have hW':=hW;obtain⟨p,q,hA0,hV,rfl,hfz,hnd⟩:=hW;have hA:DataW.TrodAll enc prog W 0 (λ_=>eQ) eQ Tryz.f3.params.toList args.toList ds p:=hA0;rw[Tryz.params3]at hA hval;obtain⟨v0,vs0,d0,ds0,p0,r0,hargs,rfl,rfl,h0,t0⟩:=trodAll_cons hA;obtain⟨rfl,rfl,rfl⟩:=trodAll_nil t0;obtain rfl:args=#[v0]:=by cases args;simp_all
 obtain⟨rfl,rfl⟩:=trodVars_none hV;have lt0:∀x∈p0,x.block<W.heap.size:=by obtain⟨m,hm⟩:=h0;exact DataW.trod_lt m _ _ _ hm
 obtain⟨a0,q0,l0⟩:=atr.arg (λfuel=>(amo fuel)) h0 (wAt hWt 0 kr rfl);have z0:VT E W ⟨[],[],λb _=>b<W.heap.size⟩ (.dat (.ext 0) a0) v0:=by obtain⟨_,rfl,_⟩:=okWide_struct underlying34 (hval 0 34 v0 rfl rfl);exact⟨_,rfl,l0⟩
 clear hA0 aoS;refine(aj3 (calls hm a0 q0) (ri func3 kr kr) (acf hL hSh) (args:=#[v0]) (.cons z0 .nil)).mono λe W' ⟨he,JM⟩=>?_;subst he;exact⟨_,rfl,_,_,_,[],_,[],hW',trodAll_mk1 (shut_bool underlying4 _),(trodAll_cons_mk (Below.trod laidOut kr (DA kr) h0 JM lt0) trodAll_mk0),rfl,JM.frame _,λh=>by cases h⟩
theorem row(hm:∀(a0:xB)(q0:LJ a0),∃F,lM F a0=iN eQ):Rows.ExpandWordsSaid:=
 OpenClaim.holds_of_wide 3 Tryz.f3 rfl rfl rfl rfl rfl rfl rfl ⟨rfl,rfl,rfl,rfl,rfl⟩ rfl rfl rfl rfl rfl LK func3 PW
  (DA kr) (by unfold Func.isWrapper;first|(rw[if_pos (by decide +kernel)];kernel_rfl)|(rw[if_neg (by decide +kernel)];exact⟨rfl,rfl⟩))
  (λos started H enc _=>lifted hm os started H enc)
theorem card(hm:∀(a0:xB)(q0:LJ a0),∃F,lM F a0=iN eQ):Rows.ExpandWordsCardSaid:=
 Claim7.holds_tied_plain_at .later [] [.data,.data,.data,.data,.pinned] eQ (eQ,"607038fb5512deb5935aad1a7e9a098c84c5bce58e33ed81b2101247abf044c3") eQ
  (row hm) (λ_ h=>by cases h) Ye (λ_ h=>by cases h) expandWords_row_tie rfl ⟨rfl,rfl⟩ aj4 rfl
  Yf
  UC
end LH
