/- TreeSame: for every input the law returns true, and its arguments read afterwards as before. The tables strings.asciiSpace and unicode.White_Space hold what their text lays; arguments are no longer than memory reaches. -/
import Derived.Test.YtmmnhbhnjiajhaaGreatDoorSYf
import Derived.Test.YtmmnhbhnjiajhaaGreatDoorSWitV
import Derived.Test.YtmmnhbhnjiajhaaGreatDoorSArgsG

import Derived.ChangeMaps5
import Derived.SizedLaws
namespace Go.Proofs.YtmmnhbhnjiajhaaGreatDoor.c
open Go.ChangeShapes Go.WideShapes Go.ChangeAt Go.RowKit
open Go.ChangeMaps (open_string shut_string)
set_option linter.unusedVariables false
set_option maxRecDepth 100000
set_option maxHeartbeats 200000
set_option linter.unusedSimpArgs false
theorem sameContract (H:Type) (enc:TypeId × Value → H) (W:World) (base:Nat) (args:Array Value) (ds gs:List (DataW H)) (before:List MemPlace)
  (hval:∀ (j:Nat) t v,Tryz.f6.params[j]?=some t → args[j]?=some v → Value.okWide Tryz.prog W .any base t v)
  (hW:DataW.Whole enc Tryz.prog Tryz.f6.params.toList Rows.treeSameSpec.vars false W args.toList ds gs before)
  (hz:(DataW.weightsEach Tryz.prog (Tryz.f6.params.toList ++ (OpenSpec.ofChange Rows.treeSameSpec).bare.plain.varTypes Tryz.prog) (ds ++ gs)).all (· ≤ reachBytes)=true)
  (hL:laidMetH Tryz.prog Rows.treeSameRow.laid W) :
  Calls Tryz.prog 6 args W fun e W'=>∃ v,e=.returned v∧Rows.treeSameSpec.post enc Tryz.prog Tryz.f6 false true false false W args v W':=by
 have hW':=hW
 obtain ⟨p,q,hA0,hV,rfl,hfz,hnd⟩:=hW
 have hA:DataW.TrodAll enc Tryz.prog W 0 (fun _=>true) true Tryz.f6.params.toList args.toList ds p:=hA0
 rw [Tryz.params6] at hA hval hz
 obtain ⟨v0,v1,d0,d1,p0,p1,rfl,rfl,rfl,h0,h1⟩:=trodAll_two hA
 obtain ⟨rfl,rfl⟩:=trodVars_none hV
 have k0:=h0
 have k1:=h1
 obtain ⟨A0,n0,c0,rfl⟩:=okWide_slice Tryz.underlying23 (hval 0 23 v0 rfl rfl)
 obtain ⟨fuel0,h0⟩:=h0
 have hz0:∀ y,y ∈ d0.weights Tryz.prog 23 → y ≤ reachBytes:=fun y hy=>of_decide_eq_true (List.all_eq_true.1 hz y (weights_each (j:=0) rfl rfl hy))
 obtain ⟨x0,u0,e0,hs0,hl0⟩:=open_prog hz0 h0
 obtain rfl:=List.head_eq_of_cons_eq e0
 obtain ⟨A1,n1,c1,rfl⟩:=okWide_slice Tryz.underlying23 (hval 1 23 v1 rfl rfl)
 obtain ⟨fuel1,h1⟩:=h1
 have hz1:∀ y,y ∈ d1.weights Tryz.prog 23 → y ≤ reachBytes:=fun y hy=>of_decide_eq_true (List.all_eq_true.1 hz y (weights_each (j:=1) rfl rfl hy))
 obtain ⟨x1,u1,e1,hs1,hl1⟩:=open_prog hz1 h1
 obtain rfl:=List.head_eq_of_cons_eq e1
 clear hA0
 simp only [List.append_nil] at hW'
 have hlt:∀ x ∈ p0 ++ p1,x.block < W.heap.size:=fun x hx=>by simpa using hW'.lt x hx
 have hr:reachBytes ≤ 140737488355328:=by decide
 refine (tsame_any x0 x1 hl0 hl1 W (laid_of4 hL) _ _ hs0 hs1).mono fun e W' ⟨he,x⟩=>?_
 subst he
 refine ⟨_,rfl,post_below (pa:=p0 ++ p1) (pv:=[]) hW' (fun _ _ _=>trodAll_cons_mk (shut_bool Tryz.underlying4 _) trodAll_mk0) ?_ rfl (by simp) x.out⟩
 have r0:=Below.trod laid_out (by kernel_rfl) (of_decide_eq_true (by kernel_rfl)) k0 x.out (fun y hy=>hlt y (List.mem_append_left _ hy))
 have r1:=Below.trod laid_out (by kernel_rfl) (of_decide_eq_true (by kernel_rfl)) k1 x.out (fun y hy=>hlt y (List.mem_append_right _ hy))
 exact trodAll_mk2 r0 r1
theorem sameReads (os:Os) {H:Type} (enc:TypeId × Value → H):∃ places,DataW.whole enc Tryz.prog ((laidWorldV os).forCall (fun _ _=>0) ⟨#[],#[.slice none 0 0,.slice none 0 0],[]⟩).memory Tryz.f6.params.toList Rows.treeSameSpec.vars false #[Value.slice none 0 0,.slice none 0 0].toList 8=some ([.nil,.nil],[],places) :=
 ⟨[],by kernel_rfl⟩
theorem sameLifted (os:Os) (started:os.Started) (H:Type) (enc:TypeId × Value → H) (F:Stop.Interp) :
  ReturnsInHanded {} Tryz.checked os 6 .any ((OpenSpec.ofChange Rows.treeSameSpec).preRow enc Tryz.prog Tryz.f6 Rows.treeSameRow.domain false Rows.treeSameRow.laid) (((OpenSpec.ofChange Rows.treeSameSpec).at F).post enc Tryz.prog Tryz.f6 false true false false):=by
 obtain ⟨places,hx⟩:=sameReads os enc
 refine returnsInHanded_of_row (C:=Tryz.checked) (s:=OpenSpec.ofChange Rows.treeSameSpec) own started (by kernel_rfl) Tryz.func6
  (witness_row_atRef (enc:=enc) (C:=Tryz.checked) false (laidWorldV os) #[.slice none 0 0,.slice none 0 0] rfl (by kernel_rfl) (by kernel_rfl) (by kernel_rfl)
   (OpenSpec.preRow_of_cond 8 hx (by kernel_rfl) (fun k hk=>by cases hk) (by kernel_rfl) (laid_metV2 os _ _))) ?_
 intro W base args ds gs before hval hW _ _ hz hL _ _
 exact sameContract H enc W base args ds gs before hval hW hz hL
theorem sameJ1:(Rows.treeSameRow.inPlace == Tryz.pinned.checked.prog.inPlace 6)=true:=by kernel_rfl
theorem sameJ2:(Rows.treeSameRow.unfollowed == Tryz.pinned.checked.prog.unfollowed 6)=true:=by kernel_rfl
theorem sameJ3:(Rows.treeSameRow.recurses == Tryz.pinned.checked.prog.recurses 6)=true:=by kernel_rfl
theorem sameJ4:(Rows.treeSameRow.named == Tryz.pinned.checked.prog.varsNamed 6)=true:=by kernel_rfl
theorem sameClosed:joinedFacts Tryz.pinned.checked.prog 6 Tryz.f6 (OpenSpec.ofChange Rows.treeSameSpec).bare Rows.treeSameRow=true:=by
 unfold joinedFacts
 rw [sameJ1,sameJ2,sameJ3,sameJ4]
 kernel_rfl
theorem sameSaid:Rows.TreeSameSaid :=
 OpenClaim.holds_of_cond 6 Tryz.f6 rfl rfl rfl rfl rfl rfl rfl ⟨rfl,rfl,rfl,rfl,rfl⟩ rfl rfl rfl rfl rfl (by kernel_rfl) Tryz.func6 sameClosed
  (of_decide_eq_true (by kernel_rfl)) (by unfold Func.isWrapper; first | (rw [if_pos (by decide +kernel)]; kernel_rfl) | (rw [if_neg (by decide +kernel)]; exact ⟨rfl,rfl⟩))
  (fun os started H enc _ F=>by rw [OpenClaim.pre_eq_preRow]; exact sameLifted os started H enc F)
theorem samePlain (f:FuncId) (fn:Func) (hf:Tryz.pinned.checked.prog.funcNamed Rows.treeSameRow.func=some f) (hfn:Tryz.pinned.checked.prog.funcs[f]?=some fn) :
  true=Tryz.pinned.checked.prog.looks []∧∀ (j:Nat) t,fn.params[j]?=some t → Tryz.pinned.checked.prog.wantsStandIn t=false:=by
 obtain rfl:f = 6 := Option.some.inj ((show Tryz.prog.funcNamed Rows.treeSameRow.func=some 6 by kernel_rfl).symm.trans hf) |>.symm
 obtain rfl:fn=Tryz.f6 := (Option.some.inj (Tryz.func6.symm.trans hfn)).symm
 refine ⟨by kernel_rfl,fun j t ht=>?_⟩
 rw [Tryz.params6] at ht
 have h:t = 23 := by simpa using Array.mem_of_getElem? ht
 subst h
 exact (show Tryz.prog.wantsStandIn 23 = false by kernel_rfl)
theorem sameCard:Rows.TreeSameCardSaid :=
 Claim7.holds_tied_plain_at .later [] _ _ _ _ sameSaid (fun _ h=>by cases h) (by kernel_rfl) (fun _ h=>by cases h) treeSame_row_tie rfl ⟨rfl,rfl⟩ (by kernel_rfl) rfl samePlain (by kernel_rfl)
end Go.Proofs.YtmmnhbhnjiajhaaGreatDoor.c
