/- TreeTypes: for every input the law returns true, and its arguments read afterwards as before. The tables strings.asciiSpace and unicode.White_Space hold what their text lays; arguments are no longer than memory reaches. -/
import Derived.Test.YtobfbfbjccmbiaaGreatDoorVt
import Derived.Test.YtobfbfbjccmbiaaGreatDoorWitU
import Derived.Test.YtobfbfbjccmbiaaGreatDoorArgsG

import Derived.ChangeMaps5
import Derived.SizedLaws
namespace Go.Proofs.YtobfbfbjccmbiaaGreatDoor.c
open Go.ChangeShapes Go.WideShapes Go.ChangeAt Go.RowKit
open Go.ChangeMaps (open_string shut_string)
set_option linter.unusedVariables false
set_option maxRecDepth 100000
set_option maxHeartbeats 200000
set_option linter.unusedSimpArgs false
theorem typesContract (H:Type) (enc:TypeId × Value → H) (W:World) (base:Nat) (args:Array Value) (ds gs:List (DataW H)) (before:List MemPlace)
  (hval:∀ (j:Nat) t v,Tryz.f4.params[j]?=some t → args[j]?=some v → Value.okWide Tryz.prog W .any base t v)
  (hW:DataW.Whole enc Tryz.prog Tryz.f4.params.toList Rows.treeTypesSpec.vars false W args.toList ds gs before)
  (hz:(DataW.weightsEach Tryz.prog (Tryz.f4.params.toList ++ (OpenSpec.ofChange Rows.treeTypesSpec).bare.plain.varTypes Tryz.prog) (ds ++ gs)).all (· ≤ reachBytes)=true)
  (hL:laidMetH Tryz.prog Rows.treeTypesRow.laid W) :
  Calls Tryz.prog 4 args W fun e W'=>∃ v,e=.returned v∧Rows.treeTypesSpec.post enc Tryz.prog Tryz.f4 false true false false W args v W':=by
 have hW':=hW
 obtain ⟨p,q,hA0,hV,rfl,hfz,hnd⟩:=hW
 have hA:DataW.TrodAll enc Tryz.prog W 0 (fun _=>true) true Tryz.f4.params.toList args.toList ds p:=hA0
 rw [Tryz.params4] at hA hval hz
 obtain ⟨v0,v1,d0,d1,p0,p1,rfl,rfl,rfl,h0,h1⟩:=trodAll_two hA
 obtain ⟨rfl,rfl⟩:=trodVars_none hV
 have k0:=h0
 have k1:=h1
 obtain ⟨cs0,rfl,_⟩:=okWide_struct Tryz.underlying30 (hval 0 30 v0 rfl rfl)
 obtain ⟨fuel0,h0⟩:=h0
 obtain ⟨x0,e0⟩:=open_ty h0
 obtain rfl:cs0=#[.int .i64 x0.base,.int .i64 x0.bits,.string x0.name,.bool x0.opt,.bool x0.err]:=Array.ext' e0
 obtain ⟨s1,rfl,hd1,hp1,ws1⟩:=open_string Tryz.underlying9 (hval 1 9 v1 rfl rfl) h1
 have hs1:s1.size ≤ 4611686018427387904:=by
  have h9:s1.data.toList.length ≤ reachBytes:=of_decide_eq_true (List.all_eq_true.1 hz _ (weights_each (j:=1) (t := 9) (d:=d1) rfl rfl (by rw [hd1]; simp [DataW.weights])))
  rw [Lib.size_eq]
  exact Nat.le_trans h9 (by decide)
 clear hA0
 simp only [List.append_nil] at hW'
 have hlt:∀ x ∈ p0 ++ p1,x.block < W.heap.size:=fun x hx=>by simpa using hW'.lt x hx
 have hr:reachBytes ≤ 140737488355328:=by decide
 refine (types_any x0 s1 W hs1 (laid_of7 hL)).mono fun e W' ⟨he,x⟩=>?_
 subst he
 refine ⟨_,rfl,post_below (pa:=p0 ++ p1) (pv:=[]) hW' (fun _ _ _=>trodAll_cons_mk (shut_bool Tryz.underlying4 _) trodAll_mk0) ?_ rfl (by simp) x.out⟩
 have r0:=Below.trod laid_out (by kernel_rfl) (of_decide_eq_true (by kernel_rfl)) k0 x.out (fun y hy=>hlt y (List.mem_append_left _ hy))
 have r1:=Below.trod laid_out (by kernel_rfl) (of_decide_eq_true (by kernel_rfl)) k1 x.out (fun y hy=>hlt y (List.mem_append_right _ hy))
 exact trodAll_mk2 r0 r1
theorem typesReads (os:Os) {H:Type} (enc:TypeId × Value → H):∃ places,DataW.whole enc Tryz.prog ((laidWorldU os).forCall (fun _ _=>0) ⟨#[],#[.agg #[.int .i64 0,.int .i64 0,.string ⟨#[]⟩,.bool false,.bool false],.string ⟨#[]⟩],[]⟩).memory Tryz.f4.params.toList Rows.treeTypesSpec.vars false #[Value.agg #[.int .i64 0,.int .i64 0,.string ⟨#[]⟩,.bool false,.bool false],.string ⟨#[]⟩].toList 8=some ([.agg [.lit (.int .i64 0),.lit (.int .i64 0),.lit (.string []),.lit (.bool false),.lit (.bool false)],.lit (.string [])],[],places) :=
 ⟨[],by kernel_rfl⟩
theorem typesLifted (os:Os) (started:os.Started) (H:Type) (enc:TypeId × Value → H) (F:Stop.Interp) :
  ReturnsInHanded {} Tryz.checked os 4 .any ((OpenSpec.ofChange Rows.treeTypesSpec).preRow enc Tryz.prog Tryz.f4 Rows.treeTypesRow.domain false Rows.treeTypesRow.laid) (((OpenSpec.ofChange Rows.treeTypesSpec).at F).post enc Tryz.prog Tryz.f4 false true false false):=by
 obtain ⟨places,hx⟩:=typesReads os enc
 refine returnsInHanded_of_row (C:=Tryz.checked) (s:=OpenSpec.ofChange Rows.treeTypesSpec) own started (by kernel_rfl) Tryz.func4
  (witness_row_atRef (enc:=enc) (C:=Tryz.checked) false (laidWorldU os) #[.agg #[.int .i64 0,.int .i64 0,.string ⟨#[]⟩,.bool false,.bool false],.string ⟨#[]⟩] rfl (by kernel_rfl) (by kernel_rfl) (by kernel_rfl)
   (OpenSpec.preRow_of_cond 8 hx (by kernel_rfl) (fun k hk=>by cases hk) (by kernel_rfl) (laid_metU os _ _))) ?_
 intro W base args ds gs before hval hW _ _ hz hL _ _
 exact typesContract H enc W base args ds gs before hval hW hz hL
theorem typesJ1:(Rows.treeTypesRow.inPlace == Tryz.pinned.checked.prog.inPlace 4)=true:=by kernel_rfl
theorem typesJ2:(Rows.treeTypesRow.unfollowed == Tryz.pinned.checked.prog.unfollowed 4)=true:=by kernel_rfl
theorem typesJ3:(Rows.treeTypesRow.recurses == Tryz.pinned.checked.prog.recurses 4)=true:=by kernel_rfl
theorem typesJ4:(Rows.treeTypesRow.named == Tryz.pinned.checked.prog.varsNamed 4)=true:=by kernel_rfl
theorem typesClosed:joinedFacts Tryz.pinned.checked.prog 4 Tryz.f4 (OpenSpec.ofChange Rows.treeTypesSpec).bare Rows.treeTypesRow=true:=by
 unfold joinedFacts
 rw [typesJ1,typesJ2,typesJ3,typesJ4]
 kernel_rfl
theorem typesSaid:Rows.TreeTypesSaid :=
 OpenClaim.holds_of_cond 4 Tryz.f4 rfl rfl rfl rfl rfl rfl rfl ⟨rfl,rfl,rfl,rfl,rfl⟩ rfl rfl rfl rfl rfl (by kernel_rfl) Tryz.func4 typesClosed
  (of_decide_eq_true (by kernel_rfl)) (by unfold Func.isWrapper; first | (rw [if_pos (by decide +kernel)]; kernel_rfl) | (rw [if_neg (by decide +kernel)]; exact ⟨rfl,rfl⟩))
  (fun os started H enc _ F=>by rw [OpenClaim.pre_eq_preRow]; exact typesLifted os started H enc F)
theorem typesPlain (f:FuncId) (fn:Func) (hf:Tryz.pinned.checked.prog.funcNamed Rows.treeTypesRow.func=some f) (hfn:Tryz.pinned.checked.prog.funcs[f]?=some fn) :
  true=Tryz.pinned.checked.prog.looks []∧∀ (j:Nat) t,fn.params[j]?=some t → Tryz.pinned.checked.prog.wantsStandIn t=false:=by
 obtain rfl:f = 4 := Option.some.inj ((show Tryz.prog.funcNamed Rows.treeTypesRow.func=some 4 by kernel_rfl).symm.trans hf) |>.symm
 obtain rfl:fn=Tryz.f4 := (Option.some.inj (Tryz.func4.symm.trans hfn)).symm
 refine ⟨by kernel_rfl,fun j t ht=>?_⟩
 rw [Tryz.params4] at ht
 have h:t = 30 ∨ t = 9 := by simpa using Array.mem_of_getElem? ht
 rcases h with rfl | rfl
 ·exact (show Tryz.prog.wantsStandIn 30 = false by kernel_rfl)
 ·exact (show Tryz.prog.wantsStandIn 9 = false by kernel_rfl)
theorem typesCard:Rows.TreeTypesCardSaid :=
 Claim7.holds_tied_plain_at .later [] _ _ _ _ typesSaid (fun _ h=>by cases h) (by kernel_rfl) (fun _ h=>by cases h) treeTypes_row_tie rfl ⟨rfl,rfl⟩ (by kernel_rfl) rfl typesPlain (by kernel_rfl)
end Go.Proofs.YtobfbfbjccmbiaaGreatDoor.c
