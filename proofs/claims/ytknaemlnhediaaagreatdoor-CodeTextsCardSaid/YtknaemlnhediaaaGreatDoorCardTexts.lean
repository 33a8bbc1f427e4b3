/- CodeTexts: for every input the law returns true, and its arguments read afterwards as before. The five tables of the row hold what their text lays; arguments are no longer than memory reaches. -/
import Derived.Test.YtknaemlnhediaaaGreatDoorTextsL
import Derived.Test.YtknaemlnhediaaaGreatDoorWitT
import Derived.Test.YtknaemlnhediaaaGreatDoorArgsF
import Derived.ChangeMaps5
import Derived.SizedLaws
namespace Go.Proofs.YtknaemlnhediaaaGreatDoor.c
open Go.ChangeShapes Go.WideShapes Go.ChangeAt Go.RowKit
open Go.ChangeMaps (open_string shut_string)
set_option linter.unusedVariables false
set_option maxRecDepth 100000
set_option maxHeartbeats 200000
set_option linter.unusedSimpArgs false
theorem textsContract (H:Type) (enc:TypeId × Value → H) (W:World) (base:Nat) (args:Array Value) (ds gs:List (DataW H)) (before:List MemPlace)
  (hval:∀ (j:Nat) t v,Tryz.f3.params[j]?=some t → args[j]?=some v → Value.okWide Tryz.prog W .any base t v)
  (hW:DataW.Whole enc Tryz.prog Tryz.f3.params.toList Rows.codeTextsSpec.vars false W args.toList ds gs before)
  (hz:(DataW.weightsEach Tryz.prog (Tryz.f3.params.toList ++ (OpenSpec.ofChange Rows.codeTextsSpec).bare.plain.varTypes Tryz.prog) (ds ++ gs)).all (· ≤ reachBytes)=true)
  (hL:laidMetH Tryz.prog Rows.codeTextsRow.laid W) :
  Calls Tryz.prog 3 args W fun e W'=>∃ v,e=.returned v∧Rows.codeTextsSpec.post enc Tryz.prog Tryz.f3 false true false false W args v W':=by
 have hW':=hW
 obtain ⟨p,q,hA0,hV,rfl,hfz,hnd⟩:=hW
 have hA:DataW.TrodAll enc Tryz.prog W 0 (fun _=>true) true Tryz.f3.params.toList args.toList ds p:=hA0
 rw [Tryz.params3] at hA hval hz
 obtain ⟨v0,v1,d0,d1,p0,p1,rfl,rfl,rfl,h0,h1⟩:=trodAll_two hA
 obtain ⟨rfl,rfl⟩:=trodVars_none hV
 have k0:=h0
 have k1:=h1
 obtain ⟨A0,n0,c0,rfl⟩:=okWide_slice Tryz.underlying22 (hval 0 22 v0 rfl rfl)
 obtain ⟨fuel0,h0⟩:=h0
 have hz0:∀ y,y ∈ d0.weights Tryz.prog 22 → y ≤ reachBytes:=fun y hy=>of_decide_eq_true (List.all_eq_true.1 hz y (weights_each (j:=0) rfl rfl hy))
 obtain ⟨A0',c0',l0,e0,hl0,hF0,hfl0⟩:=open_fcs hz0 h0
 obtain ⟨rfl,rfl,rfl⟩:A0=A0'∧n0=l0.length∧c0=c0':=by
  have e2:[Value.slice A0 n0 c0]=[.slice A0' l0.length c0']:=e0
  simpa using e2
 obtain ⟨A1,n1,c1,rfl⟩:=okWide_slice Tryz.underlying22 (hval 1 22 v1 rfl rfl)
 obtain ⟨fuel1,h1⟩:=h1
 have hz1:∀ y,y ∈ d1.weights Tryz.prog 22 → y ≤ reachBytes:=fun y hy=>of_decide_eq_true (List.all_eq_true.1 hz y (weights_each (j:=1) rfl rfl hy))
 obtain ⟨A1',c1',l1,e1,hl1,hF1,hfl1⟩:=open_fcs hz1 h1
 obtain ⟨rfl,rfl,rfl⟩:A1=A1'∧n1=l1.length∧c1=c1':=by
  have e2:[Value.slice A1 n1 c1]=[.slice A1' l1.length c1']:=e1
  simpa using e2
 clear hA0
 simp only [List.append_nil] at hW'
 have hlt:∀ x ∈ p0 ++ p1,x.block < W.heap.size:=fun x hx=>by simpa using hW'.lt x hx
 have hr:reachBytes ≤ 140737488355328:=by decide
 refine (texts_any A0 A1 c0 c1 l0 l1 W (laid_of5 hL).1 (laid_of5 hL).2 rfl rfl hF0 hF1 (by omega) (by omega) (fun f hf=>by have:=hfl0 f hf; omega) (fun f hf=>by have:=hfl1 f hf; omega)).mono fun e W' ⟨he,x⟩=>?_
 subst he
 refine ⟨_,rfl,post_below (pa:=p0 ++ p1) (pv:=[]) hW' (fun _ _ _=>trodAll_cons_mk (shut_bool Tryz.underlying4 _) trodAll_mk0) ?_ rfl (by simp) x.out⟩
 have r0:=Below.trod laid_out (by kernel_rfl) (of_decide_eq_true (by kernel_rfl)) k0 x.out (fun y hy=>hlt y (List.mem_append_left _ hy))
 have r1:=Below.trod laid_out (by kernel_rfl) (of_decide_eq_true (by kernel_rfl)) k1 x.out (fun y hy=>hlt y (List.mem_append_right _ hy))
 exact trodAll_mk2 r0 r1
theorem textsReads (os:Os) {H:Type} (enc:TypeId × Value → H):∃ places,DataW.whole enc Tryz.prog ((laidWorldT os).forCall (fun _ _=>0) ⟨#[],#[.slice none 0 0,.slice none 0 0],[]⟩).memory Tryz.f3.params.toList Rows.codeTextsSpec.vars false #[Value.slice none 0 0,.slice none 0 0].toList 8=some ([.nil,.nil],[],places) :=
 ⟨[],by kernel_rfl⟩
theorem textsLifted (os:Os) (started:os.Started) (H:Type) (enc:TypeId × Value → H) (F:Stop.Interp) :
  ReturnsInHanded {} Tryz.checked os 3 .any ((OpenSpec.ofChange Rows.codeTextsSpec).preRow enc Tryz.prog Tryz.f3 Rows.codeTextsRow.domain false Rows.codeTextsRow.laid) (((OpenSpec.ofChange Rows.codeTextsSpec).at F).post enc Tryz.prog Tryz.f3 false true false false):=by
 obtain ⟨places,hx⟩:=textsReads os enc
 refine returnsInHanded_of_row (C:=Tryz.checked) (s:=OpenSpec.ofChange Rows.codeTextsSpec) own started (by kernel_rfl) Tryz.func3
  (witness_row_atRef (enc:=enc) (C:=Tryz.checked) false (laidWorldT os) #[.slice none 0 0,.slice none 0 0] rfl (by kernel_rfl) (by kernel_rfl) (by kernel_rfl)
   (OpenSpec.preRow_of_cond 8 hx (by kernel_rfl) (fun k hk=>by cases hk) (by kernel_rfl) (laid_metT os _ _))) ?_
 intro W base args ds gs before hval hW _ _ hz hL _ _
 exact textsContract H enc W base args ds gs before hval hW hz hL
theorem textsJ1:(Rows.codeTextsRow.inPlace == Tryz.pinned.checked.prog.inPlace 3)=true:=by kernel_rfl
theorem textsJ2:(Rows.codeTextsRow.unfollowed == Tryz.pinned.checked.prog.unfollowed 3)=true:=by kernel_rfl
theorem textsJ3:(Rows.codeTextsRow.recurses == Tryz.pinned.checked.prog.recurses 3)=true:=by kernel_rfl
theorem textsJ4:(Rows.codeTextsRow.named == Tryz.pinned.checked.prog.varsNamed 3)=true:=by kernel_rfl
theorem textsClosed:joinedFacts Tryz.pinned.checked.prog 3 Tryz.f3 (OpenSpec.ofChange Rows.codeTextsSpec).bare Rows.codeTextsRow=true:=by
 unfold joinedFacts
 rw [textsJ1,textsJ2,textsJ3,textsJ4]
 kernel_rfl
theorem textsSaid:Rows.CodeTextsSaid :=
 OpenClaim.holds_of_cond 3 Tryz.f3 rfl rfl rfl rfl rfl rfl rfl ⟨rfl,rfl,rfl,rfl,rfl⟩ rfl rfl rfl rfl rfl (by kernel_rfl) Tryz.func3 textsClosed
  (of_decide_eq_true (by kernel_rfl)) (by unfold Func.isWrapper; first | (rw [if_pos (by decide +kernel)]; kernel_rfl) | (rw [if_neg (by decide +kernel)]; exact ⟨rfl,rfl⟩))
  (fun os started H enc _ F=>by rw [OpenClaim.pre_eq_preRow]; exact textsLifted os started H enc F)
theorem textsPlain (f:FuncId) (fn:Func) (hf:Tryz.pinned.checked.prog.funcNamed Rows.codeTextsRow.func=some f) (hfn:Tryz.pinned.checked.prog.funcs[f]?=some fn) :
  false=Tryz.pinned.checked.prog.looks []∧∀ (j:Nat) t,fn.params[j]?=some t → Tryz.pinned.checked.prog.wantsStandIn t=false:=by
 obtain rfl:f = 3 := Option.some.inj ((show Tryz.prog.funcNamed Rows.codeTextsRow.func=some 3 by kernel_rfl).symm.trans hf) |>.symm
 obtain rfl:fn=Tryz.f3 := (Option.some.inj (Tryz.func3.symm.trans hfn)).symm
 refine ⟨by kernel_rfl,fun j t ht=>?_⟩
 rw [Tryz.params3] at ht
 have h:t = 22 := by simpa using Array.mem_of_getElem? ht
 subst h
 exact (show Tryz.prog.wantsStandIn 22 = false by kernel_rfl)
theorem textsCard:Rows.CodeTextsCardSaid :=
 Claim7.holds_tied_plain_at .later [] _ _ _ _ textsSaid (fun _ h=>by cases h) (by kernel_rfl) (fun _ h=>by cases h) codeTexts_row_tie rfl ⟨rfl,rfl⟩ (by kernel_rfl) rfl textsPlain (by kernel_rfl)
end Go.Proofs.YtknaemlnhediaaaGreatDoor.c
