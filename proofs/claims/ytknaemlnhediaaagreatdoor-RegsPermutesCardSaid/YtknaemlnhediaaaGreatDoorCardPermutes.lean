/- RegsPermutes: for every input the law returns true, and its arguments read afterwards as before. The tables strings.asciiSpace and unicode.White_Space hold what their text lays; arguments are no longer than memory reaches. -/
import Derived.Test.YtknaemlnhediaaaGreatDoorPermL
import Derived.Test.YtknaemlnhediaaaGreatDoorWit
import Derived.Test.YtknaemlnhediaaaGreatDoorArgs
import Derived.ChangeMaps5
import Derived.SizedLaws
namespace Go.Proofs.YtknaemlnhediaaaGreatDoor.c
open Go.ChangeShapes Go.WideShapes Go.ChangeAt Go.RowKit
open Go.ChangeMaps (open_string shut_string)
set_option linter.unusedVariables false
set_option maxRecDepth 100000
set_option maxHeartbeats 200000
set_option linter.unusedSimpArgs false
theorem permutesContract (H : Type) (enc : TypeId × Value → H) (W : World) (base : Nat) (args : Array Value) (ds gs : List (DataW H)) (before : List MemPlace)
  (hval : ∀ (j : Nat) t v, Tryz.f9.params[j]? = some t → args[j]? = some v → Value.okWide Tryz.prog W .any base t v)
  (hW : DataW.Whole enc Tryz.prog Tryz.f9.params.toList Rows.regsPermutesSpec.vars false W args.toList ds gs before)
  (hz : (DataW.weightsEach Tryz.prog (Tryz.f9.params.toList ++ (OpenSpec.ofChange Rows.regsPermutesSpec).bare.plain.varTypes Tryz.prog) (ds ++ gs)).all (· ≤ reachBytes) = true)
  (hL : laidMetH Tryz.prog Rows.regsPermutesRow.laid W) :
  Calls Tryz.prog 9 args W fun e W' => ∃ v, e = .returned v ∧ Rows.regsPermutesSpec.post enc Tryz.prog Tryz.f9 false true false false W args v W' := by
 have hW' := hW
 obtain ⟨p, q, hA0, hV, rfl, hfz, hnd⟩ := hW
 have hA : DataW.TrodAll enc Tryz.prog W 0 (fun _ => true) true Tryz.f9.params.toList args.toList ds p := hA0
 rw [Tryz.params9] at hA hval hz
 obtain ⟨v0, v1, v2, d0, d1, d2, p0, p1, p2, rfl, rfl, rfl, h0, h1, h2⟩ := trodAll_three hA
 obtain ⟨rfl, rfl⟩ := trodVars_none hV
 have k0 := h0
 have k1 := h1
 have k2 := h2
 obtain ⟨A0, n0, c0, rfl⟩ := okWide_slice Tryz.underlying29 (hval 0 29 v0 rfl rfl)
 obtain ⟨fuel0, h0⟩ := h0
 have hz0 : ∀ y, y ∈ d0.weights Tryz.prog 29 → y ≤ reachBytes := fun y hy => of_decide_eq_true (List.all_eq_true.1 hz y (weights_each (j := 0) rfl rfl hy))
 obtain ⟨A0', c0', l0, e0, hl0, hR0, hfl0, hin0⟩ := open_rfs hz0 h0
 obtain ⟨rfl, rfl, rfl⟩ : A0 = A0' ∧ n0 = l0.length ∧ c0 = c0' := by
  have e2 : [Value.slice A0 n0 c0] = [.slice A0' l0.length c0'] := e0
  simpa using e2
 obtain ⟨cs1, rfl, _⟩ := okWide_struct Tryz.underlying79 (hval 1 79 v1 rfl rfl)
 obtain ⟨fuel1, h1⟩ := h1
 have hz1 : ∀ y, y ∈ d1.weights Tryz.prog 79 → y ≤ reachBytes := fun y hy => of_decide_eq_true (List.all_eq_true.1 hz y (weights_each (j := 1) rfl rfl hy))
 obtain ⟨ok1, oA1, oc1, ol1, e1, hl1, hN1, hk1, hin1⟩ := open_order hz1 h1
 obtain rfl : cs1 = #[.int .i64 ok1, .slice oA1 ol1.length oc1] := Array.ext' e1
 obtain ⟨cs2, rfl, _⟩ := okWide_struct Tryz.underlying32 (hval 2 32 v2 rfl rfl)
 obtain ⟨fuel2, h2⟩ := h2
 have hz2 : ∀ y, y ∈ d2.weights Tryz.prog 32 → y ≤ reachBytes := fun y hy => of_decide_eq_true (List.all_eq_true.1 hz y (weights_each (j := 2) rfl rfl hy))
 obtain ⟨nm2, A2, c2, ck2, av2, e2, hl2, hV2⟩ := open_call hz2 h2
 obtain rfl : cs2 = #[.string nm2, .slice A2 av2.length c2, .bool ck2] := Array.ext' e2
 clear hA0
 simp only [List.append_nil] at hW'
 have hlt : ∀ x ∈ p0 ++ p1 ++ p2, x.block < W.heap.size := fun x hx => by simpa using hW'.lt x hx
 have hr : reachBytes ≤ 140737488355328 := by decide
 refine (permutes_any A0 c0 l0 ok1 oA1 oc1 ol1 nm2 A2 c2 av2 ck2 W (laid_of hL) rfl rfl rfl hR0 hN1 hV2 (by omega) (by omega) (by omega) (fun f hf => by have := hfl0 f hf; omega) hin0).mono fun e W' ⟨he, x⟩ => ?_
 subst he
 refine ⟨_, rfl, post_below (pa := p0 ++ p1 ++ p2) (pv := []) hW' (fun _ _ _ => trodAll_cons_mk (shut_bool Tryz.underlying4 _) trodAll_mk0) ?_ rfl (by simp) x.out⟩
 have r0 := Below.trod laid_out (by kernel_rfl) (of_decide_eq_true (by kernel_rfl)) k0 x.out (fun y hy => hlt y (List.mem_append_left _ (List.mem_append_left _ hy)))
 have r1 := Below.trod laid_out (by kernel_rfl) (of_decide_eq_true (by kernel_rfl)) k1 x.out (fun y hy => hlt y (List.mem_append_left _ (List.mem_append_right _ hy)))
 have r2 := Below.trod laid_out (by kernel_rfl) (of_decide_eq_true (by kernel_rfl)) k2 x.out (fun y hy => hlt y (List.mem_append_right _ hy))
 have r := trodAll_mk3 r0 r1 r2
 rw [← List.append_assoc] at r
 exact r
theorem laid_met3 (os : Os) (a b c : Value) : laidMet Tryz.prog [("unicode.White_Space", Rows.laid_unicode_White_Space), ("strings.asciiSpace", Rows.laid_strings_asciiSpace)] ((laidWorld os).forCall (fun _ _ => 0) ⟨#[], #[a, b, c], []⟩).memory :=
 laidMet_of_run' 8 (by kernel_rfl) (by kernel_rfl)
theorem permutesReads (os : Os) {H : Type} (enc : TypeId × Value → H) : ∃ places, DataW.whole enc Tryz.prog ((laidWorld os).forCall (fun _ _ => 0) ⟨#[], #[.slice none 0 0, .agg #[.int .i64 0, .slice none 0 0], .agg #[.string ⟨#[]⟩, .slice none 0 0, .bool false]], []⟩).memory Tryz.f9.params.toList Rows.regsPermutesSpec.vars false #[Value.slice none 0 0, .agg #[.int .i64 0, .slice none 0 0], .agg #[.string ⟨#[]⟩, .slice none 0 0, .bool false]].toList 8 = some ([.nil, .agg [.lit (.int .i64 0), .nil], .agg [.lit (.string []), .nil, .lit (.bool false)]], [], places) :=
 ⟨[], by kernel_rfl⟩
theorem permutesLifted (os : Os) (started : os.Started) (H : Type) (enc : TypeId × Value → H) (F : Stop.Interp) :
  ReturnsInHanded {} Tryz.checked os 9 .any ((OpenSpec.ofChange Rows.regsPermutesSpec).preRow enc Tryz.prog Tryz.f9 Rows.regsPermutesRow.domain false Rows.regsPermutesRow.laid) (((OpenSpec.ofChange Rows.regsPermutesSpec).at F).post enc Tryz.prog Tryz.f9 false true false false) := by
 obtain ⟨places, hx⟩ := permutesReads os enc
 refine returnsInHanded_of_row (C := Tryz.checked) (s := OpenSpec.ofChange Rows.regsPermutesSpec) own started (by kernel_rfl) Tryz.func9
  (witness_row_atRef (enc := enc) (C := Tryz.checked) false (laidWorld os) #[.slice none 0 0, .agg #[.int .i64 0, .slice none 0 0], .agg #[.string ⟨#[]⟩, .slice none 0 0, .bool false]] rfl (by kernel_rfl) (by kernel_rfl) (by kernel_rfl)
   (OpenSpec.preRow_of_cond 8 hx (by kernel_rfl) (fun k hk => by cases hk) (by kernel_rfl) (laid_met3 os _ _ _))) ?_
 intro W base args ds gs before hval hW _ _ hz hL _ _
 exact permutesContract H enc W base args ds gs before hval hW hz hL
theorem permutesJ1 : (Rows.regsPermutesRow.inPlace == Tryz.pinned.checked.prog.inPlace 9) = true := by kernel_rfl
theorem permutesJ2 : (Rows.regsPermutesRow.unfollowed == Tryz.pinned.checked.prog.unfollowed 9) = true := by kernel_rfl
theorem permutesJ3 : (Rows.regsPermutesRow.recurses == Tryz.pinned.checked.prog.recurses 9) = true := by kernel_rfl
theorem permutesJ4 : (Rows.regsPermutesRow.named == Tryz.pinned.checked.prog.varsNamed 9) = true := by kernel_rfl
theorem permutesClosed : joinedFacts Tryz.pinned.checked.prog 9 Tryz.f9 (OpenSpec.ofChange Rows.regsPermutesSpec).bare Rows.regsPermutesRow = true := by
 unfold joinedFacts
 rw [permutesJ1, permutesJ2, permutesJ3, permutesJ4]
 kernel_rfl
theorem permutesSaid : Rows.RegsPermutesSaid :=
 OpenClaim.holds_of_cond 9 Tryz.f9 rfl rfl rfl rfl rfl rfl rfl ⟨rfl, rfl, rfl, rfl, rfl⟩ rfl rfl rfl rfl rfl (by kernel_rfl) Tryz.func9 permutesClosed
  (of_decide_eq_true (by kernel_rfl)) (by unfold Func.isWrapper; first | (rw [if_pos (by decide +kernel)]; kernel_rfl) | (rw [if_neg (by decide +kernel)]; exact ⟨rfl, rfl⟩))
  (fun os started H enc _ F => by rw [OpenClaim.pre_eq_preRow]; exact permutesLifted os started H enc F)
theorem permutesPlain (f : FuncId) (fn : Func) (hf : Tryz.pinned.checked.prog.funcNamed Rows.regsPermutesRow.func = some f) (hfn : Tryz.pinned.checked.prog.funcs[f]? = some fn) :
  false = Tryz.pinned.checked.prog.looks [] ∧ ∀ (j : Nat) t, fn.params[j]? = some t → Tryz.pinned.checked.prog.wantsStandIn t = false := by
 obtain rfl : f = 9 := Option.some.inj ((show Tryz.prog.funcNamed Rows.regsPermutesRow.func = some 9 by kernel_rfl).symm.trans hf) |>.symm
 obtain rfl : fn = Tryz.f9 := (Option.some.inj (Tryz.func9.symm.trans hfn)).symm
 refine ⟨by kernel_rfl, fun j t ht => ?_⟩
 rw [Tryz.params9] at ht
 have h : t = 29 ∨ t = 79 ∨ t = 32 := by simpa using Array.mem_of_getElem? ht
 rcases h with rfl | rfl | rfl
 ·exact (show Tryz.prog.wantsStandIn 29 = false by kernel_rfl)
 ·exact (show Tryz.prog.wantsStandIn 79 = false by kernel_rfl)
 ·exact (show Tryz.prog.wantsStandIn 32 = false by kernel_rfl)
theorem permutesCard : Rows.RegsPermutesCardSaid :=
 Claim7.holds_tied_plain_at .later [] _ _ _ _ permutesSaid (fun _ h => by cases h) (by kernel_rfl) (fun _ h => by cases h) regsPermutes_row_tie rfl ⟨rfl, rfl⟩ (by kernel_rfl) rfl permutesPlain (by kernel_rfl)
end Go.Proofs.YtknaemlnhediaaaGreatDoor.c
