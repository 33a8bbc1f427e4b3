/- CodeCuts: for every input the law returns true, and its arguments read afterwards as before. The tables strings.asciiSpace and unicode.White_Space hold what their text lays; arguments are no longer than memory reaches. -/
import Derived.Test.YtamgalmlhjbbdaaDoorIque
import Derived.Test.YtamgalmlhjbbdaaDoorWit
import Derived.Test.YtamgalmlhjbbdaaDoorArgs
import Derived.ChangeMaps5
import Derived.SizedLaws
namespace Go.Proofs.YtamgalmlhjbbdaaDoor.c
open Go.ChangeShapes Go.WideShapes Go.ChangeAt Go.RowKit
open Go.ChangeMaps (open_string shut_string)
set_option linter.unusedVariables false
set_option linter.unusedSimpArgs false
set_option maxRecDepth 100000 in
theorem cutsContract (H : Type) (enc : TypeId × Value → H) (W : World) (base : Nat) (args : Array Value) (ds gs : List (DataW H)) (before : List MemPlace)
    (hval : ∀ (j : Nat) t v, Tryd.f7.params[j]? = some t → args[j]? = some v → Value.okWide Tryd.prog W .any base t v)
    (hW : DataW.Whole enc Tryd.prog Tryd.f7.params.toList Rows.codeCutsSpec.vars false W args.toList ds gs before)
    (hz : (DataW.weightsEach Tryd.prog (Tryd.f7.params.toList ++ (OpenSpec.ofChange Rows.codeCutsSpec).bare.plain.varTypes Tryd.prog) (ds ++ gs)).all (· ≤ reachBytes) = true)
    (hL : laidMetH Tryd.prog Rows.codeCutsRow.laid W) :
    Calls Tryd.prog 7 args W fun e W' => ∃ v, e = .returned v ∧ Rows.codeCutsSpec.post enc Tryd.prog Tryd.f7 false true false false W args v W' := by
  have hW' := hW
  obtain ⟨p, q, hA0, hV, rfl, hfz, hnd⟩ := hW
  have hA : DataW.TrodAll enc Tryd.prog W 0 (fun _ => true) true Tryd.f7.params.toList args.toList ds p := hA0
  rw [Tryd.params7] at hA hval hz
  obtain ⟨v0, v1, d0, d1, p0, p1, rfl, rfl, rfl, h0, h1⟩ := trodAll_two hA
  obtain ⟨rfl, rfl⟩ := trodVars_none hV
  have k0 := h0
  have k1 := h1
  obtain ⟨A0, n0, c0, rfl⟩ := okWide_slice Tryd.underlying22 (hval 0 22 v0 rfl rfl)
  obtain ⟨fuel0, h0⟩ := h0
  have hz0 : ∀ y, y ∈ d0.weights Tryd.prog 22 → y ≤ reachBytes := fun y hy => of_decide_eq_true (List.all_eq_true.1 hz y (weights_each (j := 0) rfl rfl hy))
  obtain ⟨A0', c0', l0, e0, hl0, hF0, hfl0⟩ := open_fcs hz0 h0
  obtain ⟨rfl, rfl, rfl⟩ : A0 = A0' ∧ n0 = l0.length ∧ c0 = c0' := by
    have e2 : [Value.slice A0 n0 c0] = [.slice A0' l0.length c0'] := e0
    simpa using e2
  obtain ⟨A1, n1, c1, rfl⟩ := okWide_slice Tryd.underlying42 (hval 1 42 v1 rfl rfl)
  obtain ⟨fuel1, h1⟩ := h1
  have hz1 : ∀ y, y ∈ d1.weights Tryd.prog 42 → y ≤ reachBytes := fun y hy => of_decide_eq_true (List.all_eq_true.1 hz y (weights_each (j := 1) rfl rfl hy))
  obtain ⟨A1', c1', l1, e1, hl1, hS1⟩ := open_strs_at hz1 h1
  obtain ⟨rfl, rfl, rfl⟩ : A1 = A1' ∧ n1 = l1.length ∧ c1 = c1' := by
    have e2 : [Value.slice A1 n1 c1] = [.slice A1' l1.length c1'] := e1
    simpa using e2
  clear hA0
  simp only [List.append_nil] at hW'
  have hlt : ∀ x ∈ p0 ++ p1, x.block < W.heap.size := fun x hx => by simpa using hW'.lt x hx
  have hr : reachBytes ≤ 140737488355328 := by decide
  refine (cuts_any A0 c0 l0 A1 c1 l1 W (laid_of hL) hF0 (by omega) (fun f hf => by have := hfl0 f hf; omega) hS1 (by omega)).mono fun e W' ⟨he, x⟩ => ?_
  subst he
  refine ⟨_, rfl, post_below (pa := p0 ++ p1) (pv := []) hW' (fun _ _ _ => trodAll_cons_mk (shut_bool Tryd.underlying4 _) trodAll_mk0) ?_ rfl (by simp) x.out⟩
  have r0 := Below.trod laid_out (by kernel_rfl) (of_decide_eq_true (by kernel_rfl)) k0 x.out (fun y hy => hlt y (List.mem_append_left _ hy))
  have r1 := Below.trod laid_out (by kernel_rfl) (of_decide_eq_true (by kernel_rfl)) k1 x.out (fun y hy => hlt y (List.mem_append_right _ hy))
  exact trodAll_mk2 r0 r1
theorem cutsReads (os : Os) {H : Type} (enc : TypeId × Value → H) : ∃ places, DataW.whole enc Tryd.prog ((laidWorld os).forCall (fun _ _ => 0) ⟨#[], #[.slice none 0 0, .slice none 0 0], []⟩).memory Tryd.f7.params.toList Rows.codeCutsSpec.vars false #[Value.slice none 0 0, .slice none 0 0].toList 8 = some ([.nil, .nil], [], places) :=
  ⟨[], by kernel_rfl⟩
set_option maxRecDepth 100000 in
theorem cutsLifted (os : Os) (started : os.Started) (H : Type) (enc : TypeId × Value → H) (F : Stop.Interp) :
    ReturnsInHanded {} Tryd.checked os 7 .any ((OpenSpec.ofChange Rows.codeCutsSpec).preRow enc Tryd.prog Tryd.f7 Rows.codeCutsRow.domain false Rows.codeCutsRow.laid) (((OpenSpec.ofChange Rows.codeCutsSpec).at F).post enc Tryd.prog Tryd.f7 false true false false) := by
  obtain ⟨places, hx⟩ := cutsReads os enc
  refine returnsInHanded_of_row (C := Tryd.checked) (s := OpenSpec.ofChange Rows.codeCutsSpec) own started (by kernel_rfl) Tryd.func7
    (witness_row_atRef (enc := enc) (C := Tryd.checked) false (laidWorld os) #[.slice none 0 0, .slice none 0 0] rfl (by kernel_rfl) (by kernel_rfl) (by kernel_rfl)
      (OpenSpec.preRow_of_cond 8 hx (by kernel_rfl) (fun k hk => by cases hk) (by kernel_rfl) (laid_met2 os _ _))) ?_
  intro W base args ds gs before hval hW _ _ hz hL _ _
  exact cutsContract H enc W base args ds gs before hval hW hz hL
theorem cutsSaid : Rows.CodeCutsSaid :=
  OpenClaim.holds_of_cond 7 Tryd.f7 rfl rfl rfl rfl rfl rfl rfl ⟨rfl, rfl, rfl, rfl, rfl⟩ rfl rfl rfl rfl rfl (by kernel_rfl) Tryd.func7 (by kernel_rfl)
    (of_decide_eq_true (by kernel_rfl)) (by unfold Func.isWrapper; first | (rw [if_pos (by decide +kernel)]; kernel_rfl) | (rw [if_neg (by decide +kernel)]; exact ⟨rfl, rfl⟩))
    (fun os started H enc _ F => by rw [OpenClaim.pre_eq_preRow]; exact cutsLifted os started H enc F)
theorem cutsPlain (f : FuncId) (fn : Func) (hf : Tryd.pinned.checked.prog.funcNamed Rows.codeCutsRow.func = some f) (hfn : Tryd.pinned.checked.prog.funcs[f]? = some fn) :
    false = Tryd.pinned.checked.prog.looks [] ∧ ∀ (j : Nat) t, fn.params[j]? = some t → Tryd.pinned.checked.prog.wantsStandIn t = false := by
  obtain rfl : f = 7 := Option.some.inj ((show Tryd.prog.funcNamed Rows.codeCutsRow.func = some 7 by kernel_rfl).symm.trans hf) |>.symm
  obtain rfl : fn = Tryd.f7 := (Option.some.inj (Tryd.func7.symm.trans hfn)).symm
  refine ⟨by kernel_rfl, fun j t ht => ?_⟩
  rw [Tryd.params7] at ht
  have h : t = 22 ∨ t = 42 := by simpa using Array.mem_of_getElem? ht
  rcases h with rfl | rfl
  · exact (show Tryd.prog.wantsStandIn 22 = false by kernel_rfl)
  · exact (show Tryd.prog.wantsStandIn 42 = false by kernel_rfl)
theorem cutsCard : Rows.CodeCutsCardSaid :=
  Claim7.holds_tied_plain_at .later [] _ _ _ _ cutsSaid (fun _ h => by cases h) (by kernel_rfl) (fun _ h => by cases h) codeCuts_row_tie rfl ⟨rfl, rfl⟩ (by kernel_rfl) rfl cutsPlain (by kernel_rfl)
end Go.Proofs.YtamgalmlhjbbdaaDoor.c
