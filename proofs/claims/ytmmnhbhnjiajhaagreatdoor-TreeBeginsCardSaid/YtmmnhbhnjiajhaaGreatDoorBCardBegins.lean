/- TreeBegins: for every input the law returns true, and its arguments read afterwards as before. The tables strings.asciiSpace and unicode.White_Space hold what their text lays; arguments are no longer than memory reaches. -/
import Derived.Test.YtmmnhbhnjiajhaaGreatDoorBYk
import Derived.Test.YtmmnhbhnjiajhaaGreatDoorBWitV
import Derived.Test.YtmmnhbhnjiajhaaGreatDoorBArgsG

import Derived.ChangeMaps5
import Derived.SizedLaws
namespace Go.Proofs.YtmmnhbhnjiajhaaGreatDoor.c
open Go.ChangeShapes Go.WideShapes Go.ChangeAt Go.RowKit
open Go.ChangeMaps (open_string shut_string)
set_option linter.unusedVariables false
set_option maxRecDepth 100000
set_option maxHeartbeats 200000
set_option linter.unusedSimpArgs false
theorem beginsContract (H:Type) (enc:TypeId × Value → H) (W:World) (base:Nat) (args:Array Value) (ds gs:List (DataW H)) (before:List MemPlace)
  (hval:∀ (j:Nat) t v,Tryz.f5.params[j]?=some t → args[j]?=some v → Value.okWide Tryz.prog W .any base t v)
  (hW:DataW.Whole enc Tryz.prog Tryz.f5.params.toList Rows.treeBeginsSpec.vars false W args.toList ds gs before)
  (hz:(DataW.weightsEach Tryz.prog (Tryz.f5.params.toList ++ (OpenSpec.ofChange Rows.treeBeginsSpec).bare.plain.varTypes Tryz.prog) (ds ++ gs)).all (· ≤ reachBytes)=true)
  (hL:laidMetH Tryz.prog Rows.treeBeginsRow.laid W) :
  Calls Tryz.prog 5 args W fun e W'=>∃ v,e=.returned v∧Rows.treeBeginsSpec.post enc Tryz.prog Tryz.f5 false true false false W args v W':=by
 have hW':=hW
 obtain ⟨p,q,hA0,hV,rfl,hfz,hnd⟩:=hW
 have hA:DataW.TrodAll enc Tryz.prog W 0 (fun _=>true) true Tryz.f5.params.toList args.toList ds p:=hA0
 rw [Tryz.params5] at hA hval hz
 obtain ⟨v0,v1,d0,d1,p0,p1,rfl,rfl,rfl,h0,h1⟩:=trodAll_two hA
 obtain ⟨rfl,rfl⟩:=trodVars_none hV
 have k0:=h0
 have k1:=h1
 obtain ⟨s0,rfl,hd0,hp0,ws0⟩:=open_string Tryz.underlying9 (hval 0 9 v0 rfl rfl) h0
 have hs0:s0.size ≤ 4611686018427387904:=by
  have h9:s0.data.toList.length ≤ reachBytes:=of_decide_eq_true (List.all_eq_true.1 hz _ (weights_each (j:=0) (t := 9) (d:=d0) rfl rfl (by rw [hd0]; simp [DataW.weights])))
  rw [Lib.size_eq]
  exact Nat.le_trans h9 (by decide)
 obtain ⟨s1,rfl,hd1,hp1,ws1⟩:=open_string Tryz.underlying9 (hval 1 9 v1 rfl rfl) h1
 have hs1:s1.size ≤ 4611686018427387904:=by
  have h9:s1.data.toList.length ≤ reachBytes:=of_decide_eq_true (List.all_eq_true.1 hz _ (weights_each (j:=1) (t := 9) (d:=d1) rfl rfl (by rw [hd1]; simp [DataW.weights])))
  rw [Lib.size_eq]
  exact Nat.le_trans h9 (by decide)
 clear hA0
 simp only [List.append_nil] at hW'
 have hlt:∀ x ∈ p0 ++ p1,x.block < W.heap.size:=fun x hx=>by simpa using hW'.lt x hx
 have hr:reachBytes ≤ 140737488355328:=by decide
 refine (begins_any s0 s1 W (laid_of4 hL)).mono fun e W' ⟨he,x⟩=>?_
 subst he
 refine ⟨_,rfl,post_below (pa:=p0 ++ p1) (pv:=[]) hW' (fun _ _ _=>trodAll_cons_mk (shut_bool Tryz.underlying4 _) trodAll_mk0) ?_ rfl (by simp) x.out⟩
 have r0:=Below.trod laid_out (by kernel_rfl) (of_decide_eq_true (by kernel_rfl)) k0 x.out (fun y hy=>hlt y (List.mem_append_left _ hy))
 have r1:=Below.trod laid_out (by kernel_rfl) (of_decide_eq_true (by kernel_rfl)) k1 x.out (fun y hy=>hlt y (List.mem_append_right _ hy))
 exact trodAll_mk2 r0 r1
theorem beginsReads (os:Os) {H:Type} (enc:TypeId × Value → H):∃ places,DataW.whole enc Tryz.prog ((laidWorldV os).forCall (fun _ _=>0) ⟨#[],#[.string ⟨#[]⟩,.string ⟨#[]⟩],[]⟩).memory Tryz.f5.params.toList Rows.treeBeginsSpec.vars false #[Value.string ⟨#[]⟩,.string ⟨#[]⟩].toList 8=some ([.lit (.string []),.lit (.string [])],[],places) :=
 ⟨[],by kernel_rfl⟩
theorem beginsLifted (os:Os) (started:os.Started) (H:Type) (enc:TypeId × Value → H) (F:Stop.Interp) :
  ReturnsInHanded {} Tryz.checked os 5 .any ((OpenSpec.ofChange Rows.treeBeginsSpec).preRow enc Tryz.prog Tryz.f5 Rows.treeBeginsRow.domain false Rows.treeBeginsRow.laid) (((OpenSpec.ofChange Rows.treeBeginsSpec).at F).post enc Tryz.prog Tryz.f5 false true false false):=by
 obtain ⟨places,hx⟩:=beginsReads os enc
 refine returnsInHanded_of_row (C:=Tryz.checked) (s:=OpenSpec.ofChange Rows.treeBeginsSpec) own started (by kernel_rfl) Tryz.func5
  (witness_row_atRef (enc:=enc) (C:=Tryz.checked) false (laidWorldV os) #[.string ⟨#[]⟩,.string ⟨#[]⟩] rfl (by kernel_rfl) (by kernel_rfl) (by kernel_rfl)
   (OpenSpec.preRow_of_cond 8 hx (by kernel_rfl) (fun k hk=>by cases hk) (by kernel_rfl) (laid_metV2 os _ _))) ?_
 intro W base args ds gs before hval hW _ _ hz hL _ _
 exact beginsContract H enc W base args ds gs before hval hW hz hL
theorem beginsJ1:(Rows.treeBeginsRow.inPlace == Tryz.pinned.checked.prog.inPlace 5)=true:=by kernel_rfl
theorem beginsJ2:(Rows.treeBeginsRow.unfollowed == Tryz.pinned.checked.prog.unfollowed 5)=true:=by kernel_rfl
theorem beginsJ3:(Rows.treeBeginsRow.recurses == Tryz.pinned.checked.prog.recurses 5)=true:=by kernel_rfl
theorem beginsJ4:(Rows.treeBeginsRow.named == Tryz.pinned.checked.prog.varsNamed 5)=true:=by kernel_rfl
theorem beginsClosed:joinedFacts Tryz.pinned.checked.prog 5 Tryz.f5 (OpenSpec.ofChange Rows.treeBeginsSpec).bare Rows.treeBeginsRow=true:=by
 unfold joinedFacts
 rw [beginsJ1,beginsJ2,beginsJ3,beginsJ4]
 kernel_rfl
theorem beginsSaid:Rows.TreeBeginsSaid :=
 OpenClaim.holds_of_cond 5 Tryz.f5 rfl rfl rfl rfl rfl rfl rfl ⟨rfl,rfl,rfl,rfl,rfl⟩ rfl rfl rfl rfl rfl (by kernel_rfl) Tryz.func5 beginsClosed
  (of_decide_eq_true (by kernel_rfl)) (by unfold Func.isWrapper; first | (rw [if_pos (by decide +kernel)]; kernel_rfl) | (rw [if_neg (by decide +kernel)]; exact ⟨rfl,rfl⟩))
  (fun os started H enc _ F=>by rw [OpenClaim.pre_eq_preRow]; exact beginsLifted os started H enc F)
theorem beginsPlain (f:FuncId) (fn:Func) (hf:Tryz.pinned.checked.prog.funcNamed Rows.treeBeginsRow.func=some f) (hfn:Tryz.pinned.checked.prog.funcs[f]?=some fn) :
  true=Tryz.pinned.checked.prog.looks []∧∀ (j:Nat) t,fn.params[j]?=some t → Tryz.pinned.checked.prog.wantsStandIn t=false:=by
 obtain rfl:f = 5 := Option.some.inj ((show Tryz.prog.funcNamed Rows.treeBeginsRow.func=some 5 by kernel_rfl).symm.trans hf) |>.symm
 obtain rfl:fn=Tryz.f5 := (Option.some.inj (Tryz.func5.symm.trans hfn)).symm
 refine ⟨by kernel_rfl,fun j t ht=>?_⟩
 rw [Tryz.params5] at ht
 have h:t = 9 := by simpa using Array.mem_of_getElem? ht
 subst h
 exact (show Tryz.prog.wantsStandIn 9 = false by kernel_rfl)
theorem beginsCard:Rows.TreeBeginsCardSaid :=
 Claim7.holds_tied_plain_at .later [] _ _ _ _ beginsSaid (fun _ h=>by cases h) (by kernel_rfl) (fun _ h=>by cases h) treeBegins_row_tie rfl ⟨rfl,rfl⟩ (by kernel_rfl) rfl beginsPlain (by kernel_rfl)
end Go.Proofs.YtmmnhbhnjiajhaaGreatDoor.c
