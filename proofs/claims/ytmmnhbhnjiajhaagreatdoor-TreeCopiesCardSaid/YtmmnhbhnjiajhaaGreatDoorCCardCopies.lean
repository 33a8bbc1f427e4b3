/- TreeCopies: for every input the law returns true, and its arguments read afterwards as before. The tables strings.asciiSpace and unicode.White_Space hold what their text lays; arguments are no longer than memory reaches. -/
import Derived.Test.YtmmnhbhnjiajhaaGreatDoorCXe
import Derived.Test.YtmmnhbhnjiajhaaGreatDoorCWitV
import Derived.Test.YtmmnhbhnjiajhaaGreatDoorCArgsG

import Derived.ChangeMaps5
import Derived.SizedLaws
namespace Go.Proofs.YtmmnhbhnjiajhaaGreatDoor.c
open Go.ChangeShapes Go.WideShapes Go.ChangeAt Go.RowKit
open Go.ChangeMaps (open_string shut_string)
set_option linter.unusedVariables false
set_option maxRecDepth 100000
set_option maxHeartbeats 200000
set_option linter.unusedSimpArgs false
theorem copiesContract (H:Type) (enc:TypeId × Value → H) (W:World) (base:Nat) (args:Array Value) (ds gs:List (DataW H)) (before:List MemPlace)
  (hval:∀ (j:Nat) t v,Tryz.f4.params[j]?=some t → args[j]?=some v → Value.okWide Tryz.prog W .any base t v)
  (hW:DataW.Whole enc Tryz.prog Tryz.f4.params.toList Rows.treeCopiesSpec.vars false W args.toList ds gs before)
  (hz:(DataW.weightsEach Tryz.prog (Tryz.f4.params.toList ++ (OpenSpec.ofChange Rows.treeCopiesSpec).bare.plain.varTypes Tryz.prog) (ds ++ gs)).all (· ≤ reachBytes)=true)
  (hL:laidMetH Tryz.prog Rows.treeCopiesRow.laid W) :
  Calls Tryz.prog 4 args W fun e W'=>∃ v,e=.returned v∧Rows.treeCopiesSpec.post enc Tryz.prog Tryz.f4 false true false false W args v W':=by
 have hW':=hW
 obtain ⟨p,q,hA0,hV,rfl,hfz,hnd⟩:=hW
 have hA:DataW.TrodAll enc Tryz.prog W 0 (fun _=>true) true Tryz.f4.params.toList args.toList ds p:=hA0
 rw [Tryz.params4] at hA hval hz
 obtain ⟨v0,d0,rfl,rfl,h0⟩:=trodAll_one hA
 obtain ⟨rfl,rfl⟩:=trodVars_none hV
 have k0:=h0
 obtain ⟨s0,rfl,hd0,hp0,ws0⟩:=open_string Tryz.underlying9 (hval 0 9 v0 rfl rfl) h0
 have hs0:s0.size ≤ 4611686018427387904:=by
  have h9:s0.data.toList.length ≤ reachBytes:=of_decide_eq_true (List.all_eq_true.1 hz _ (weights_each (j:=0) (t := 9) (d:=d0) rfl rfl (by rw [hd0]; simp [DataW.weights])))
  rw [Lib.size_eq]
  exact Nat.le_trans h9 (by decide)
 clear hA0
 simp only [List.append_nil] at hW'
 have hlt:∀ x ∈ p,x.block < W.heap.size:=fun x hx=>by simpa using hW'.lt x hx
 have hr:reachBytes ≤ 140737488355328:=by decide
 refine (copies_any s0 W (laid_of4 hL)).mono fun e W' ⟨he,x⟩=>?_
 subst he
 refine ⟨_,rfl,post_below (pa:=p) (pv:=[]) hW' (fun _ _ _=>trodAll_cons_mk (shut_bool Tryz.underlying4 _) trodAll_mk0) ?_ rfl (by simp) x.out⟩
 exact trodAll_mk1 (Below.trod laid_out (by kernel_rfl) (of_decide_eq_true (by kernel_rfl)) k0 x.out hlt)
theorem copiesReads (os:Os) {H:Type} (enc:TypeId × Value → H):∃ places,DataW.whole enc Tryz.prog ((laidWorldV os).forCall (fun _ _=>0) ⟨#[],#[.string ⟨#[]⟩],[]⟩).memory Tryz.f4.params.toList Rows.treeCopiesSpec.vars false #[Value.string ⟨#[]⟩].toList 8=some ([.lit (.string [])],[],places) :=
 ⟨[],by kernel_rfl⟩
theorem copiesLifted (os:Os) (started:os.Started) (H:Type) (enc:TypeId × Value → H) (F:Stop.Interp) :
  ReturnsInHanded {} Tryz.checked os 4 .any ((OpenSpec.ofChange Rows.treeCopiesSpec).preRow enc Tryz.prog Tryz.f4 Rows.treeCopiesRow.domain false Rows.treeCopiesRow.laid) (((OpenSpec.ofChange Rows.treeCopiesSpec).at F).post enc Tryz.prog Tryz.f4 false true false false):=by
 obtain ⟨places,hx⟩:=copiesReads os enc
 refine returnsInHanded_of_row (C:=Tryz.checked) (s:=OpenSpec.ofChange Rows.treeCopiesSpec) own started (by kernel_rfl) Tryz.func4
  (witness_row_atRef (enc:=enc) (C:=Tryz.checked) false (laidWorldV os) #[.string ⟨#[]⟩] rfl (by kernel_rfl) (by kernel_rfl) (by kernel_rfl)
   (OpenSpec.preRow_of_cond 8 hx (by kernel_rfl) (fun k hk=>by cases hk) (by kernel_rfl) (laid_metV1 os _))) ?_
 intro W base args ds gs before hval hW _ _ hz hL _ _
 exact copiesContract H enc W base args ds gs before hval hW hz hL
theorem copiesJ1:(Rows.treeCopiesRow.inPlace == Tryz.pinned.checked.prog.inPlace 4)=true:=by kernel_rfl
theorem copiesJ2:(Rows.treeCopiesRow.unfollowed == Tryz.pinned.checked.prog.unfollowed 4)=true:=by kernel_rfl
theorem copiesJ3:(Rows.treeCopiesRow.recurses == Tryz.pinned.checked.prog.recurses 4)=true:=by kernel_rfl
theorem copiesJ4:(Rows.treeCopiesRow.named == Tryz.pinned.checked.prog.varsNamed 4)=true:=by kernel_rfl
theorem copiesClosed:joinedFacts Tryz.pinned.checked.prog 4 Tryz.f4 (OpenSpec.ofChange Rows.treeCopiesSpec).bare Rows.treeCopiesRow=true:=by
 unfold joinedFacts
 rw [copiesJ1,copiesJ2,copiesJ3,copiesJ4]
 kernel_rfl
theorem copiesSaid:Rows.TreeCopiesSaid :=
 OpenClaim.holds_of_cond 4 Tryz.f4 rfl rfl rfl rfl rfl rfl rfl ⟨rfl,rfl,rfl,rfl,rfl⟩ rfl rfl rfl rfl rfl (by kernel_rfl) Tryz.func4 copiesClosed
  (of_decide_eq_true (by kernel_rfl)) (by unfold Func.isWrapper; first | (rw [if_pos (by decide +kernel)]; kernel_rfl) | (rw [if_neg (by decide +kernel)]; exact ⟨rfl,rfl⟩))
  (fun os started H enc _ F=>by rw [OpenClaim.pre_eq_preRow]; exact copiesLifted os started H enc F)
theorem copiesPlain (f:FuncId) (fn:Func) (hf:Tryz.pinned.checked.prog.funcNamed Rows.treeCopiesRow.func=some f) (hfn:Tryz.pinned.checked.prog.funcs[f]?=some fn) :
  true=Tryz.pinned.checked.prog.looks []∧∀ (j:Nat) t,fn.params[j]?=some t → Tryz.pinned.checked.prog.wantsStandIn t=false:=by
 obtain rfl:f = 4 := Option.some.inj ((show Tryz.prog.funcNamed Rows.treeCopiesRow.func=some 4 by kernel_rfl).symm.trans hf) |>.symm
 obtain rfl:fn=Tryz.f4 := (Option.some.inj (Tryz.func4.symm.trans hfn)).symm
 refine ⟨by kernel_rfl,fun j t ht=>?_⟩
 rw [Tryz.params4] at ht
 have h:t = 9 := by simpa using Array.mem_of_getElem? ht
 subst h
 exact (show Tryz.prog.wantsStandIn 9 = false by kernel_rfl)
theorem copiesCard:Rows.TreeCopiesCardSaid :=
 Claim7.holds_tied_plain_at .later [] _ _ _ _ copiesSaid (fun _ h=>by cases h) (by kernel_rfl) (fun _ h=>by cases h) treeCopies_row_tie rfl ⟨rfl,rfl⟩ (by kernel_rfl) rfl copiesPlain (by kernel_rfl)
end Go.Proofs.YtmmnhbhnjiajhaaGreatDoor.c
