/- EaR -/
import Derived.Stop.LaidErr
import Derived.Test.YtmpcbaflcogmmaaGreatDoorEa1
import Derived.Test.YtmpcbaflcogmmaaGreatDoorLaid17
namespace Go.Proofs.YtmpcbaflcogmmaaGreatDoor
open Go.ChangeShapes Go.WideShapes Go.ChangeAt Go.RowKit Go.Joins Go.Deep
set_option linter.all false
set_option maxRecDepth 100000
theorem Sy {W:World} (h:laidMetH Tryz.prog Rows.emitAblesRow.laid W):GI W W.heap.size:=by
 have h1:laidMet Tryz.prog Rows.emitAblesRow.laid W:=h
 have h2:laidMet Tryz.prog [("internal/strconv.uint64pow10",Lib.tabData .u64 Lib.pow10Tab)] W:=(show laidMet Tryz.prog (_ :: _ :: ("internal/strconv.uint64pow10",Lib.tabData .u64 Lib.pow10Tab) :: []) W from h1).tail.tail
 exact Lib.tabBelow_of_tabIs (Lib.tabIs_of_head (g:=0) (t:=300) (e:=167) (n:=20) (by kernel_rfl) (by kernel_rfl) (by kernel_rfl) Tryz.underlying167 (by kernel_rfl) (by kernel_rfl) h2)
theorem Ka (H:Type) (enc:TypeId × Value→H) (W:World) (base:Nat) (args:Array Value) (ds gs:List (DataW H)) (before:List MemPlace)
  (hval:∀ (j:Nat) t v,Tryz.f3.params[j]? = some t→args[j]? = some v→Value.okWide Tryz.prog W .any base t v)
  (hsz:(DataW.weightsEach Tryz.prog (Tryz.f3.params.toList ++ Rows.emitAblesSpec.plain.varTypes Tryz.prog) (ds ++ gs)).all (·≤reachBytes)=true)
  (hL:laidMetH Tryz.prog Rows.emitAblesRow.laid W)
  (hW:DataW.Whole enc Tryz.prog Tryz.f3.params.toList Rows.emitAblesSpec.vars false W args.toList ds gs before) :
  Calls Tryz.prog 3 args W fun e W'=>∃ v,e=.returned v∧Rows.emitAblesSpec.post enc Tryz.prog Tryz.f3 false true false false W args v W':=by
 have hW':=hW
 obtain⟨p,q,hA0,hV,rfl,hfz,hnd⟩:=hW
 have hA:DataW.TrodAll enc Tryz.prog W 0 (fun _=>true) true Tryz.f3.params.toList args.toList ds p:=hA0
 rw [Tryz.params3] at hA hval hsz
 obtain⟨v0,vs0,d0,ds0,p0,q0,hargs,rfl,rfl,h0,r0⟩:=trodAll_cons hA
 obtain⟨rfl,rfl,rfl⟩:=trodAll_nil r0
 obtain rfl:args=#[v0]:=by cases args;simp_all
 obtain⟨rfl,rfl⟩:=trodVars_none hV
 have k0:=h0
 have lt0:∀ x∈p0,x.block < W.heap.size:=by obtain⟨m,hm⟩:=k0;exact DataW.trod_lt m _ _ _ hm
 obtain⟨on,SA,slots,sc,wh,TA,ts,tc,IA,ints,ic,XA,texts,xc,rfl,hS,hT,hI,hX,l1,l2,l3,l4,l5,l6⟩:=Tt (hval 0 29 v0 rfl rfl) h0 (fun n hn=>by
  have:=List.all_eq_true.1 hsz n (DataW.weights_mem_each (j:=0) rfl rfl n hn)
  simpa using this)
 have hR:reachBytes=140737488351232:=rfl
 clear hA0 hsz
 refine (NV on SA TA slots sc tc wh ts IA XA ints texts ic xc W (by omega) (by omega) (by omega) (by omega) hT hS hI hX (fun x hx=>by have:=(l5 x hx).1;omega) (fun x hx=>by have:=l6 x hx;omega) (fun x hx=>(l5 x hx).2) (Sy hL)).mono fun e W' ⟨he,bel⟩=>?_
 subst he
 exact ⟨_,rfl,_,_,_,[],_,[],hW',trodAll_mk1 (shut_bool Tryz.underlying4 _),(trodAll_cons_mk (Below.trod Uh (by kernel_rfl) (of_decide_eq_true (by kernel_rfl)) k0 bel lt0) trodAll_mk0),rfl,bel.frame _,fun h=>by cases h⟩
theorem JR (os:Os):laidMet Tryz.prog Rows.emitAblesRow.laid ((Je os).forCall (fun _ _=>0) ⟨#[],#[.agg #[.int .i64 0,.slice none 0 0,.bool false,.slice none 0 0,.slice none 0 0,.slice none 0 0]],[]⟩).memory:=
 laidMet_of_run' 8 (by kernel_rfl) (by kernel_rfl)
theorem Nm (os:Os) {H:Type} (enc:TypeId × Value→H):∃ places,DataW.whole enc Tryz.prog ((Je os).forCall (fun _ _=>0) ⟨#[],#[.agg #[.int .i64 0,.slice none 0 0,.bool false,.slice none 0 0,.slice none 0 0,.slice none 0 0]],[]⟩).memory Tryz.f3.params.toList Rows.emitAblesSpec.vars false #[Value.agg #[.int .i64 0,.slice none 0 0,.bool false,.slice none 0 0,.slice none 0 0,.slice none 0 0]].toList 8=some ([.agg [.agg [.lit (.int .i64 0),.nil,.lit (.bool false),.nil],.nil,.nil]],[],places):=
 ⟨[],by kernel_rfl⟩
theorem LU (os:Os) (started:os.Started) (H:Type) (enc:TypeId × Value→H) (F:Stop.Interp) :
  ReturnsInHanded {} Tryz.checked os 3 .any ((OpenSpec.ofChange Rows.emitAblesSpec).preRow enc Tryz.prog Tryz.f3 Rows.emitAblesRow.domain false Rows.emitAblesRow.laid) (((OpenSpec.ofChange Rows.emitAblesSpec).at F).post enc Tryz.prog Tryz.f3 false true false false):=by
 obtain⟨places,hx⟩:=Nm os enc
 refine returnsInHanded_of_row (C:=Tryz.checked) (s:=OpenSpec.ofChange Rows.emitAblesSpec) V0 started (by kernel_rfl) Tryz.func3
  (witness_row_at (enc:=enc) (C:=Tryz.checked) false (Je os) #[.agg #[.int .i64 0,.slice none 0 0,.bool false,.slice none 0 0,.slice none 0 0,.slice none 0 0]] rfl (by kernel_rfl) (by kernel_rfl) (by kernel_rfl)
   (OpenSpec.preRow_of_cond 8 hx (by kernel_rfl) (fun k hk=>by cases hk) (by kernel_rfl) (JR os))) ?_
 intro W base args ds gs before hval hW _ _ hsz hL _ _
 exact Ka H enc W base args ds gs before hval hsz hL hW
theorem NL:Rows.EmitAblesSaid:=
 OpenClaim.holds_of_cond 3 Tryz.f3 rfl rfl rfl rfl rfl rfl rfl ⟨rfl,rfl,rfl,rfl,rfl⟩ rfl rfl rfl rfl rfl (by kernel_rfl) Tryz.func3 (by kernel_rfl)
  (of_decide_eq_true (by kernel_rfl)) (by unfold Func.isWrapper;first | (rw [if_pos (by decide +kernel)];kernel_rfl) | (rw [if_neg (by decide +kernel)];exact ⟨rfl,rfl⟩))
  (fun os started H enc _ F=>by rw [OpenClaim.pre_eq_preRow];exact LU os started H enc F)
theorem N6 (f:FuncId) (fn:Func) (hf : Tryz.pinned.checked.prog.funcNamed "tableau/tableaulaw17.EmitAbles" = some f) (hfn : Tryz.pinned.checked.prog.funcs[f]? = some fn) :
  false = Tryz.pinned.checked.prog.looks []∧∀ (j:Nat) t,fn.params[j]? = some t → Tryz.pinned.checked.prog.wantsStandIn t=false:=by
 obtain rfl:f = 3:=Option.some.inj ((show Tryz.prog.funcNamed "tableau/tableaulaw17.EmitAbles" = some 3 by kernel_rfl).symm.trans hf) |>.symm
 obtain rfl:fn = Tryz.f3:=(Option.some.inj (Tryz.func3.symm.trans hfn)).symm
 refine ⟨by kernel_rfl,fun j t ht=>?_⟩
 rw [Tryz.params3] at ht
 obtain rfl:t = 29:=by simpa using Array.mem_of_getElem? ht
 exact (show Tryz.prog.wantsStandIn 29 = false by kernel_rfl)
theorem emitAbles_card:Rows.EmitAblesCardSaid:=
 Claim7.holds_tied_plain_at .later [] _ _ _ _ NL (fun _ h=>by cases h) (by kernel_rfl) (fun _ h=>by cases h) emitAbles_row_tie rfl ⟨rfl,rfl⟩ (by kernel_rfl) rfl N6 (by kernel_rfl)
#print axioms emitAbles_card
end Go.Proofs.YtmpcbaflcogmmaaGreatDoor
