/- RegsThreads: for every input the law returns true, and its arguments read afterwards as before. The tables strings.asciiSpace and unicode.White_Space hold what their text lays; arguments are no longer than memory reaches. -/
import Derived.Test.YtcoookehfhhhdaaGreatDoorKt
import Derived.Test.YtcoookehfhhhdaaGreatDoorWit
import Derived.Test.YtcoookehfhhhdaaGreatDoorArgsG
import Derived.ChangeMaps5
import Derived.SizedLaws
namespace Go.Proofs.YtcoookehfhhhdaaGreatDoor.c
open Go.ChangeShapes Go.WideShapes Go.ChangeAt Go.RowKit
open Go.ChangeMaps (open_string shut_string)
set_option linter.unusedVariables false
set_option maxRecDepth 100000
set_option maxHeartbeats 200000
set_option linter.unusedSimpArgs false
theorem rThreadsContract (H:Type) (enc:TypeId × Value → H) (W:World) (base:Nat) (args:Array Value) (ds gs:List (DataW H)) (before:List MemPlace)
  (hval:∀ (j:Nat) t v,Tryz.f3.params[j]?=some t → args[j]?=some v → Value.okWide Tryz.prog W .any base t v)
  (hW:DataW.Whole enc Tryz.prog Tryz.f3.params.toList Rows.regsThreadsSpec.vars false W args.toList ds gs before)
  (hz:(DataW.weightsEach Tryz.prog (Tryz.f3.params.toList ++ (OpenSpec.ofChange Rows.regsThreadsSpec).bare.plain.varTypes Tryz.prog) (ds ++ gs)).all (· ≤ reachBytes)=true)
  (hL:laidMetH Tryz.prog Rows.regsThreadsRow.laid W) :
  Calls Tryz.prog 3 args W fun e W'=>∃ v,e=.returned v∧Rows.regsThreadsSpec.post enc Tryz.prog Tryz.f3 false true false false W args v W':=by
 have hW':=hW
 obtain ⟨p,q,hA0,hV,rfl,hfz,hnd⟩:=hW
 have hA:DataW.TrodAll enc Tryz.prog W 0 (fun _=>true) true Tryz.f3.params.toList args.toList ds p:=hA0
 rw [Tryz.params3] at hA hval hz
 obtain ⟨v0,v1,d0,d1,p0,p1,rfl,rfl,rfl,h0,h1⟩:=trodAll_two hA
 obtain ⟨rfl,rfl⟩:=trodVars_none hV
 have k0:=h0
 have k1:=h1
 obtain ⟨A0,n0,c0,rfl⟩:=okWide_slice Tryz.underlying22 (hval 0 22 v0 rfl rfl)
 obtain ⟨fuel0,h0⟩:=h0
 have hz0:∀ y,y ∈ d0.weights Tryz.prog 22 → y ≤ reachBytes:=fun y hy=>of_decide_eq_true (List.all_eq_true.1 hz y (weights_each (j:=0) rfl rfl hy))
 obtain ⟨A0',c0',l0,e0,hl0,hF0,hfl0⟩:=open_fcs hz0 h0
 obtain ⟨rfl,rfl,rfl⟩:A0=A0'∧n0=l0.length∧c0=c0':=by
  have e2:[Value.slice A0 n0 c0]=[.slice A0' l0.length c0']:=e0
  simpa using e2
 obtain ⟨cs1,rfl,_⟩:=okWide_struct Tryz.underlying25 (hval 1 25 v1 rfl rfl)
 obtain ⟨fuel1,h1⟩:=h1
 have hz1:∀ y,y ∈ d1.weights Tryz.prog 25 → y ≤ reachBytes:=fun y hy=>of_decide_eq_true (List.all_eq_true.1 hz y (weights_each (j:=1) rfl rfl hy))
 obtain ⟨nm1,A1,c1,ck1,av1,e1,hl1,hV1⟩:=open_call hz1 h1
 obtain rfl:cs1=#[.string nm1,.slice A1 av1.length c1,.bool ck1]:=Array.ext' e1
 clear hA0
 simp only [List.append_nil] at hW'
 have hlt:∀ x ∈ p0 ++ p1,x.block < W.heap.size:=fun x hx=>by simpa using hW'.lt x hx
 have hr:reachBytes ≤ 140737488355328:=by decide
 refine (regsThreads_any A0 c0 l0 nm1 A1 c1 av1 ck1 W (laid_of hL) rfl rfl hF0 hV1 (by omega) (by omega) (fun f hf=>by have:=hfl0 f hf; omega)).mono fun e W' ⟨he,x⟩=>?_
 subst he
 refine ⟨_,rfl,post_below (pa:=p0 ++ p1) (pv:=[]) hW' (fun _ _ _=>trodAll_cons_mk (shut_bool Tryz.underlying4 _) trodAll_mk0) ?_ rfl (by simp) x.out⟩
 have r0:=Below.trod laid_out (by kernel_rfl) (of_decide_eq_true (by kernel_rfl)) k0 x.out (fun y hy=>hlt y (List.mem_append_left _ hy))
 have r1:=Below.trod laid_out (by kernel_rfl) (of_decide_eq_true (by kernel_rfl)) k1 x.out (fun y hy=>hlt y (List.mem_append_right _ hy))
 exact trodAll_mk2 r0 r1
theorem rThreadsReads (os:Os) {H:Type} (enc:TypeId × Value → H):∃ places,DataW.whole enc Tryz.prog ((laidWorld os).forCall (fun _ _=>0) ⟨#[],#[.slice none 0 0,.agg #[.string ⟨#[]⟩,.slice none 0 0,.bool false]],[]⟩).memory Tryz.f3.params.toList Rows.regsThreadsSpec.vars false #[Value.slice none 0 0,.agg #[.string ⟨#[]⟩,.slice none 0 0,.bool false]].toList 8=some ([.nil,.agg [.lit (.string []),.nil,.lit (.bool false)]],[],places) :=
 ⟨[],by kernel_rfl⟩
theorem rThreadsLifted (os:Os) (started:os.Started) (H:Type) (enc:TypeId × Value → H) (F:Stop.Interp) :
  ReturnsInHanded {} Tryz.checked os 3 .any ((OpenSpec.ofChange Rows.regsThreadsSpec).preRow enc Tryz.prog Tryz.f3 Rows.regsThreadsRow.domain false Rows.regsThreadsRow.laid) (((OpenSpec.ofChange Rows.regsThreadsSpec).at F).post enc Tryz.prog Tryz.f3 false true false false):=by
 obtain ⟨places,hx⟩:=rThreadsReads os enc
 refine returnsInHanded_of_row (C:=Tryz.checked) (s:=OpenSpec.ofChange Rows.regsThreadsSpec) own started (by kernel_rfl) Tryz.func3
  (witness_row_atRef (enc:=enc) (C:=Tryz.checked) false (laidWorld os) #[.slice none 0 0,.agg #[.string ⟨#[]⟩,.slice none 0 0,.bool false]] rfl (by kernel_rfl) (by kernel_rfl) (by kernel_rfl)
   (OpenSpec.preRow_of_cond 8 hx (by kernel_rfl) (fun k hk=>by cases hk) (by kernel_rfl) (laid_met2 os _ _))) ?_
 intro W base args ds gs before hval hW _ _ hz hL _ _
 exact rThreadsContract H enc W base args ds gs before hval hW hz hL
theorem rThreadsJ1:(Rows.regsThreadsRow.inPlace == Tryz.pinned.checked.prog.inPlace 3)=true:=by kernel_rfl
theorem rThreadsJ2:(Rows.regsThreadsRow.unfollowed == Tryz.pinned.checked.prog.unfollowed 3)=true:=by kernel_rfl
theorem rThreadsJ3:(Rows.regsThreadsRow.recurses == Tryz.pinned.checked.prog.recurses 3)=true:=by kernel_rfl
theorem rThreadsJ4:(Rows.regsThreadsRow.named == Tryz.pinned.checked.prog.varsNamed 3)=true:=by kernel_rfl
theorem rThreadsClosed:joinedFacts Tryz.pinned.checked.prog 3 Tryz.f3 (OpenSpec.ofChange Rows.regsThreadsSpec).bare Rows.regsThreadsRow=true:=by
 unfold joinedFacts
 rw [rThreadsJ1,rThreadsJ2,rThreadsJ3,rThreadsJ4]
 kernel_rfl
theorem rThreadsSaid:Rows.RegsThreadsSaid :=
 OpenClaim.holds_of_cond 3 Tryz.f3 rfl rfl rfl rfl rfl rfl rfl ⟨rfl,rfl,rfl,rfl,rfl⟩ rfl rfl rfl rfl rfl (by kernel_rfl) Tryz.func3 rThreadsClosed
  (of_decide_eq_true (by kernel_rfl)) (by unfold Func.isWrapper; first | (rw [if_pos (by decide +kernel)]; kernel_rfl) | (rw [if_neg (by decide +kernel)]; exact ⟨rfl,rfl⟩))
  (fun os started H enc _ F=>by rw [OpenClaim.pre_eq_preRow]; exact rThreadsLifted os started H enc F)
theorem rThreadsPlain (f:FuncId) (fn:Func) (hf:Tryz.pinned.checked.prog.funcNamed Rows.regsThreadsRow.func=some f) (hfn:Tryz.pinned.checked.prog.funcs[f]?=some fn) :
  false=Tryz.pinned.checked.prog.looks []∧∀ (j:Nat) t,fn.params[j]?=some t → Tryz.pinned.checked.prog.wantsStandIn t=false:=by
 obtain rfl:f = 3 := Option.some.inj ((show Tryz.prog.funcNamed Rows.regsThreadsRow.func=some 3 by kernel_rfl).symm.trans hf) |>.symm
 obtain rfl:fn=Tryz.f3 := (Option.some.inj (Tryz.func3.symm.trans hfn)).symm
 refine ⟨by kernel_rfl,fun j t ht=>?_⟩
 rw [Tryz.params3] at ht
 have h:t = 22 ∨ t = 25 := by simpa using Array.mem_of_getElem? ht
 rcases h with rfl | rfl
 ·exact (show Tryz.prog.wantsStandIn 22 = false by kernel_rfl)
 ·exact (show Tryz.prog.wantsStandIn 25 = false by kernel_rfl)
theorem rThreadsCard:Rows.RegsThreadsCardSaid :=
 Claim7.holds_tied_plain_at .later [] _ _ _ _ rThreadsSaid (fun _ h=>by cases h) (by kernel_rfl) (fun _ h=>by cases h) regsThreads_row_tie rfl ⟨rfl,rfl⟩ (by kernel_rfl) rfl rThreadsPlain (by kernel_rfl)
end Go.Proofs.YtcoookehfhhhdaaGreatDoor.c
