/- RegsUses: for every input the law returns true, and its arguments read afterwards as before. The tables strings.asciiSpace and unicode.White_Space hold what their text lays; arguments are no longer than memory reaches. -/
import Derived.Test.YtknaemlnhediaaaGreatDoorUsesL
import Derived.Test.YtknaemlnhediaaaGreatDoorWit
import Derived.Test.YtknaemlnhediaaaGreatDoorArgsX
import Derived.ChangeMaps5
import Derived.SizedLaws
namespace Go.Proofs.YtknaemlnhediaaaGreatDoor.c
open Go.ChangeShapes Go.WideShapes Go.ChangeAt Go.RowKit
open Go.ChangeMaps (open_string shut_string)
set_option linter.unusedVariables false
set_option maxRecDepth 100000
set_option maxHeartbeats 200000
set_option linter.unusedSimpArgs false
theorem usesContract (H : Type) (enc : TypeId × Value → H) (W : World) (base : Nat) (args : Array Value) (ds gs : List (DataW H)) (before : List MemPlace)
    (hval : ∀ (j : Nat) t v, Tryz.f7.params[j]? = some t → args[j]? = some v → Value.okWide Tryz.prog W .any base t v)
    (hW : DataW.Whole enc Tryz.prog Tryz.f7.params.toList Rows.regsUsesSpec.vars false W args.toList ds gs before)
    (hz : (DataW.weightsEach Tryz.prog (Tryz.f7.params.toList ++ (OpenSpec.ofChange Rows.regsUsesSpec).bare.plain.varTypes Tryz.prog) (ds ++ gs)).all (· ≤ reachBytes) = true)
    (hL : laidMetH Tryz.prog Rows.regsUsesRow.laid W) :
    Calls Tryz.prog 7 args W fun e W' => ∃ v, e = .returned v ∧ Rows.regsUsesSpec.post enc Tryz.prog Tryz.f7 false true false false W args v W' := by
  have hW' := hW
  obtain ⟨p, q, hA0, hV, rfl, hfz, hnd⟩ := hW
  have hA : DataW.TrodAll enc Tryz.prog W 0 (fun _ => true) true Tryz.f7.params.toList args.toList ds p := hA0
  rw [Tryz.params7] at hA hval hz
  obtain ⟨v0, d0, rfl, rfl, h0⟩ := trodAll_one hA
  obtain ⟨rfl, rfl⟩ := trodVars_none hV
  have k0 := h0
  obtain ⟨cs0, rfl, _⟩ := okWide_struct Tryz.underlying67 (hval 0 67 v0 rfl rfl)
  obtain ⟨fuel0, h0⟩ := h0
  have hz0 : ∀ y, y ∈ d0.weights Tryz.prog 67 → y ≤ reachBytes := fun y hy => of_decide_eq_true (List.all_eq_true.1 hz y (weights_each (j := 0) rfl rfl hy))
  obtain ⟨x0, e0, hN0, hin0, hl0⟩ := open_reg hz0 h0
  obtain rfl : cs0 = #[.int .i64 x0.op, .int .i64 x0.d, .int .i64 x0.a, .int .i64 x0.b, .int .i64 x0.ty.base, .int .i64 x0.ty.bits, .string x0.ty.name, .bool x0.ty.opt, .bool x0.ty.err, .string x0.name, .slice x0.A x0.args.length x0.cap] := Array.ext' e0
  clear hA0
  simp only [List.append_nil] at hW'
  have hlt : ∀ x ∈ p, x.block < W.heap.size := fun x hx => by simpa using hW'.lt x hx
  have hr : reachBytes ≤ 140737488355328 := by decide
  refine (usesLaw_any x0 W (laid_of hL) (by omega) hN0 hin0).mono fun e W' ⟨he, x⟩ => ?_
  subst he
  refine ⟨_, rfl, post_below (pa := p) (pv := []) hW' (fun _ _ _ => trodAll_cons_mk (shut_bool Tryz.underlying4 _) trodAll_mk0) ?_ rfl (by simp) x.out⟩
  exact trodAll_mk1 (Below.trod laid_out (by kernel_rfl) (of_decide_eq_true (by kernel_rfl)) k0 x.out hlt)
theorem usesReads (os : Os) {H : Type} (enc : TypeId × Value → H) : ∃ places, DataW.whole enc Tryz.prog ((laidWorld os).forCall (fun _ _ => 0) ⟨#[], #[.agg #[.int .i64 0, .int .i64 0, .int .i64 0, .int .i64 0, .int .i64 0, .int .i64 0, .string ⟨#[]⟩, .bool false, .bool false, .string ⟨#[]⟩, .slice none 0 0]], []⟩).memory Tryz.f7.params.toList Rows.regsUsesSpec.vars false #[Value.agg #[.int .i64 0, .int .i64 0, .int .i64 0, .int .i64 0, .int .i64 0, .int .i64 0, .string ⟨#[]⟩, .bool false, .bool false, .string ⟨#[]⟩, .slice none 0 0]].toList 8 = some ([.agg [.lit (.int .i64 0), .lit (.int .i64 0), .lit (.int .i64 0), .lit (.int .i64 0), .agg [.lit (.int .i64 0), .lit (.int .i64 0), .lit (.string []), .lit (.bool false), .lit (.bool false)], .lit (.string []), .nil]], [], places) :=
  ⟨[], by kernel_rfl⟩
theorem usesLifted (os : Os) (started : os.Started) (H : Type) (enc : TypeId × Value → H) (F : Stop.Interp) :
    ReturnsInHanded {} Tryz.checked os 7 .any ((OpenSpec.ofChange Rows.regsUsesSpec).preRow enc Tryz.prog Tryz.f7 Rows.regsUsesRow.domain false Rows.regsUsesRow.laid) (((OpenSpec.ofChange Rows.regsUsesSpec).at F).post enc Tryz.prog Tryz.f7 false true false false) := by
  obtain ⟨places, hx⟩ := usesReads os enc
  refine returnsInHanded_of_row (C := Tryz.checked) (s := OpenSpec.ofChange Rows.regsUsesSpec) own started (by kernel_rfl) Tryz.func7
    (witness_row_atRef (enc := enc) (C := Tryz.checked) false (laidWorld os) #[.agg #[.int .i64 0, .int .i64 0, .int .i64 0, .int .i64 0, .int .i64 0, .int .i64 0, .string ⟨#[]⟩, .bool false, .bool false, .string ⟨#[]⟩, .slice none 0 0]] rfl (by kernel_rfl) (by kernel_rfl) (by kernel_rfl)
      (OpenSpec.preRow_of_cond 8 hx (by kernel_rfl) (fun k hk => by cases hk) (by kernel_rfl) (laid_met1 os _))) ?_
  intro W base args ds gs before hval hW _ _ hz hL _ _
  exact usesContract H enc W base args ds gs before hval hW hz hL
theorem usesJ1 : (Rows.regsUsesRow.inPlace == Tryz.pinned.checked.prog.inPlace 7) = true := by kernel_rfl
theorem usesJ2 : (Rows.regsUsesRow.unfollowed == Tryz.pinned.checked.prog.unfollowed 7) = true := by kernel_rfl
theorem usesJ3 : (Rows.regsUsesRow.recurses == Tryz.pinned.checked.prog.recurses 7) = true := by kernel_rfl
theorem usesJ4 : (Rows.regsUsesRow.named == Tryz.pinned.checked.prog.varsNamed 7) = true := by kernel_rfl
theorem usesClosed : joinedFacts Tryz.pinned.checked.prog 7 Tryz.f7 (OpenSpec.ofChange Rows.regsUsesSpec).bare Rows.regsUsesRow = true := by
  unfold joinedFacts
  rw [usesJ1, usesJ2, usesJ3, usesJ4]
  kernel_rfl
theorem usesSaid : Rows.RegsUsesSaid :=
  OpenClaim.holds_of_cond 7 Tryz.f7 rfl rfl rfl rfl rfl rfl rfl ⟨rfl, rfl, rfl, rfl, rfl⟩ rfl rfl rfl rfl rfl (by kernel_rfl) Tryz.func7 usesClosed
    (of_decide_eq_true (by kernel_rfl)) (by unfold Func.isWrapper; first | (rw [if_pos (by decide +kernel)]; kernel_rfl) | (rw [if_neg (by decide +kernel)]; exact ⟨rfl, rfl⟩))
    (fun os started H enc _ F => by rw [OpenClaim.pre_eq_preRow]; exact usesLifted os started H enc F)
theorem usesPlain (f : FuncId) (fn : Func) (hf : Tryz.pinned.checked.prog.funcNamed Rows.regsUsesRow.func = some f) (hfn : Tryz.pinned.checked.prog.funcs[f]? = some fn) :
    false = Tryz.pinned.checked.prog.looks [] ∧ ∀ (j : Nat) t, fn.params[j]? = some t → Tryz.pinned.checked.prog.wantsStandIn t = false := by
  obtain rfl : f = 7 := Option.some.inj ((show Tryz.prog.funcNamed Rows.regsUsesRow.func = some 7 by kernel_rfl).symm.trans hf) |>.symm
  obtain rfl : fn = Tryz.f7 := (Option.some.inj (Tryz.func7.symm.trans hfn)).symm
  refine ⟨by kernel_rfl, fun j t ht => ?_⟩
  rw [Tryz.params7] at ht
  have h : t = 67 := by simpa using Array.mem_of_getElem? ht
  subst h
  exact (show Tryz.prog.wantsStandIn 67 = false by kernel_rfl)
theorem usesCard : Rows.RegsUsesCardSaid :=
  Claim7.holds_tied_plain_at .later [] _ _ _ _ usesSaid (fun _ h => by cases h) (by kernel_rfl) (fun _ h => by cases h) regsUses_row_tie rfl ⟨rfl, rfl⟩ (by kernel_rfl) rfl usesPlain (by kernel_rfl)
end Go.Proofs.YtknaemlnhediaaaGreatDoor.c
