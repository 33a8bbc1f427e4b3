/- Contracts of code.isFunc, size, Validate, Size, Find. The table strings.asciiSpace holds what its text lays; sizes are bounded. -/
import Derived.Test.YtamgalmlhjbbdaaDoorShapeE
import Derived.Test.YtamgalmlhjbbdaaDoorFuncs
import Derived.Test.YtamgalmlhjbbdaaDoorRval
namespace Go.Proofs.YtamgalmlhjbbdaaDoor.c
open Go.RowKit
set_option linter.unusedVariables false
set_option linter.unusedSimpArgs false

theorem all_any (l : List Fc) (f : Fc) : (!anyI (fun i => !instS l f (f.code.getD i default)) f.code.length) = f.code.all (fun x => instS l f x) := by
  rw [Bool.eq_iff_iff, Bool.not_eq_true', Bool.eq_false_iff, Ne, anyI_iff, List.all_eq_true]
  constructor
  · intro h x hx
    obtain ⟨j, hj, rfl⟩ := List.getElem_of_mem hx
    cases hi : instS l f f.code[j]
    · refine absurd ⟨j, hj, ?_⟩ h
      rw [List.getD, List.getElem?_eq_getElem hj, Option.getD_some, hi]
      rfl
    · rfl
  · rintro h ⟨j, hj, hp⟩
    rw [h _ (getD_mem hj)] at hp
    cases hp
set_option maxRecDepth 100000 in
set_option maxHeartbeats 1600000 in
theorem isFunc_any (l : List Fc) (A : Option Addr) (cap : Nat) (f : Fc) (w : World) (g : Laid w) (hA : FcAt w A l) (hl : l.length ≤ 9223372036854775807) (hfl : f.code.length ≤ 9223372036854775807) (hC : CdAt w f.A f.code) :
    Calls Tryd.prog 35 #[.slice A l.length cap, f.val] w fun e w' => e = .returned (.bool (fcS l f)) ∧ Ext w w' := by
  have HA := Lib.hid hA
  have HC := Lib.hid hC
  clear hA hC
  have HFC := Lib.hid (show fcS l f = (isNameS f.name && (inB f.params 0 f.places && (isRanS f.ty && (decide (1 ≤ f.code.length) && f.code.all (fun x => instS l f x))))) from rfl)
  have HR := Lib.hid (show isRanS f.ty = (isTypeS f.ty && decide (f.ty.base ≤ 3)) from rfl)
  have B0 : FcBox ((w.alloc (.cells #[.slice A l.length cap] 22)).alloc (.cells #[.string f.name, .int .i64 f.params, .int .i64 f.places, .int .i64 f.ty.base, .int .i64 f.ty.bits, .string f.ty.name, .bool f.ty.opt, .bool f.ty.err, .slice f.A f.code.length f.cap] 50)) (w.heap.size + 1) f :=
    ⟨by have h := Blk.new (w.alloc (.cells #[.slice A l.length cap] 22)) 50 #[.string f.name, .int .i64 f.params, .int .i64 f.places, .int .i64 f.ty.base, .int .i64 f.ty.bits, .string f.ty.name, .bool f.ty.opt, .bool f.ty.err, .slice f.A f.code.length f.cap]; rwa [size_alloc] at h⟩
  have C0 : Blk ((w.alloc (.cells #[.slice A l.length cap] 22)).alloc (.cells #[.string f.name, .int .i64 f.params, .int .i64 f.places, .int .i64 f.ty.base, .int .i64 f.ty.bits, .string f.ty.name, .bool f.ty.opt, .bool f.ty.err, .slice f.A f.code.length f.cap] 50)) w.heap.size 22 #[.slice A l.length cap] := (Blk.new _ _ _).alloc _
  have B1 := Lib.hid B0
  have C1 := Lib.hid C0
  clear B0 C0
  unfold Fc.val
  cases hT : isTypeS f.ty
  all_goals
    have HT := Lib.hid hT
    clear hT
    go_enter Tryd.func35, Tryd.ntmps35
    go_wp2_with (first
      | (go_at_call 55; refine (isName_any f.name _ (g.ext (by (repeat (first | (with_reducible exact Ext.refl _) | (with_reducible assumption) | (with_reducible refine Ext.alloc ?_ _) | (with_reducible refine Ext.drewN ?_ _) | (with_reducible refine Ext.drew ?_) | (with_reducible refine Ext.setCell ?_ ?_ _; rotate_left; first | assumption | (simp; done) | (simp; omega)) | (with_reducible refine Ext.trans ?_ (by with_reducible assumption))))))).mono ?_; rintro r w1 ⟨rfl, x1⟩; have y1 := x1.facts; have z1 := x1.z0; have zz1 : w.heap.size < w1.heap.size := (by simp at z1; omega); have zy1 : w.heap.size + 1 < w1.heap.size := (by simp at z1; omega))
      | (go_at_call 56; refine (within_any _ _ _ _).mono ?_; rintro r w' ⟨rfl, rfl⟩)
      | (go_at_call 57; refine (validate_ty f.ty _ (g.ext (by (repeat (first | (with_reducible exact Ext.refl _) | (with_reducible assumption) | (with_reducible refine Ext.alloc ?_ _) | (with_reducible refine Ext.drewN ?_ _) | (with_reducible refine Ext.drew ?_) | (with_reducible refine Ext.setCell ?_ ?_ _; rotate_left; first | assumption | (simp; done) | (simp; omega)) | (with_reducible refine Ext.trans ?_ (by with_reducible assumption))))))).mono ?_; rw [HT.out]; rintro r w2 ⟨rfl, x2⟩; have y2 := x2.facts; have z2 := x2.size; have zz2 : w.heap.size < w2.heap.size := Nat.lt_of_lt_of_le zz1 z2; have zy2 : w.heap.size + 1 < w2.heap.size := Nat.lt_of_lt_of_le zy1 z2)
      | (go_at_call 58; refine (containsFuncC_any f.A f.code.length f.cap 59 _ _ hfl (fun i j => cdC (f.code.getD i default) j) (HC.out.ext (by (repeat (first | (with_reducible exact Ext.refl _) | (with_reducible assumption) | (with_reducible refine Ext.alloc ?_ _) | (with_reducible refine Ext.drewN ?_ _) | (with_reducible refine Ext.drew ?_) | (with_reducible refine Ext.setCell ?_ ?_ _; rotate_left; first | assumption | (simp; done) | (simp; omega)) | (with_reducible refine Ext.trans ?_ (by with_reducible assumption)))))) enters_isFunc1 (fun i => !instS l f (f.code.getD i default)) ?_).mono ?_))
    all_goals try (go_ret; exact ⟨ret_bool (by rw [HFC.out, HR.out, HT.out]; first | (simp [*]; done) | (simp [*]; intros; omega)), by (repeat (first | (with_reducible exact Ext.refl _) | (with_reducible assumption) | (with_reducible refine Ext.alloc ?_ _) | (with_reducible refine Ext.drewN ?_ _) | (with_reducible refine Ext.drew ?_) | (with_reducible refine Ext.setCell ?_ ?_ _; rotate_left; first | assumption | (simp; done) | (simp; omega)) | (with_reducible refine Ext.trans ?_ (by with_reducible assumption))))⟩)
    first | done | case refine_1 =>
      intro i w3 hi hx
      refine isFunc1_any l A cap f (f.code.getD i default) _ _ w3 (g.ext (by (repeat (first | (with_reducible exact Ext.refl _) | (with_reducible assumption) | (with_reducible refine Ext.alloc ?_ _) | (with_reducible refine Ext.drewN ?_ _) | (with_reducible refine Ext.drew ?_) | (with_reducible refine Ext.setCell ?_ ?_ _; rotate_left; first | assumption | (simp; done) | (simp; omega)) | (with_reducible refine Ext.trans ?_ (by with_reducible assumption)))))) (HA.out.ext (by (repeat (first | (with_reducible exact Ext.refl _) | (with_reducible assumption) | (with_reducible refine Ext.alloc ?_ _) | (with_reducible refine Ext.drewN ?_ _) | (with_reducible refine Ext.drew ?_) | (with_reducible refine Ext.setCell ?_ ?_ _; rotate_left; first | assumption | (simp; done) | (simp; omega)) | (with_reducible refine Ext.trans ?_ (by with_reducible assumption)))))) hl hfl ?_ ?_ (B1.out.ext (by (repeat (first | (with_reducible exact Ext.refl _) | (with_reducible assumption) | (with_reducible refine Ext.alloc ?_ _) | (with_reducible refine Ext.drewN ?_ _) | (with_reducible refine Ext.drew ?_) | (with_reducible refine Ext.setCell ?_ ?_ _; rotate_left; first | assumption | (simp; done) | (simp; omega)) | (with_reducible refine Ext.trans ?_ (by with_reducible assumption))))))
      · exact (C1.out.ext (by (repeat (first | (with_reducible exact Ext.refl _) | (with_reducible assumption) | (with_reducible refine Ext.alloc ?_ _) | (with_reducible refine Ext.drewN ?_ _) | (with_reducible refine Ext.drew ?_) | (with_reducible refine Ext.setCell ?_ ?_ _; rotate_left; first | assumption | (simp; done) | (simp; omega)) | (with_reducible refine Ext.trans ?_ (by with_reducible assumption)))))).cell 0
      · exact (C1.out.ext (by (repeat (first | (with_reducible exact Ext.refl _) | (with_reducible assumption) | (with_reducible refine Ext.alloc ?_ _) | (with_reducible refine Ext.drewN ?_ _) | (with_reducible refine Ext.drew ?_) | (with_reducible refine Ext.setCell ?_ ?_ _; rotate_left; first | assumption | (simp; done) | (simp; omega)) | (with_reducible refine Ext.trans ?_ (by with_reducible assumption)))))).lt
    first | done | case refine_2 =>
      rintro e w3 ⟨rfl, x3⟩
      go_wp2_with fail
      go_ret
      refine ⟨ret_bool ?_, by (repeat (first | (with_reducible exact Ext.refl _) | (with_reducible assumption) | (with_reducible refine Ext.alloc ?_ _) | (with_reducible refine Ext.drewN ?_ _) | (with_reducible refine Ext.drew ?_) | (with_reducible refine Ext.setCell ?_ ?_ _; rotate_left; first | assumption | (simp; done) | (simp; omega)) | (with_reducible refine Ext.trans ?_ (by with_reducible assumption))))⟩
      rw [HFC.out, HR.out, HT.out]
      first | rw [all_any] | rw [show (!anyI (fun i => !instS l f (f.code[i]?.getD default)) f.code.length) = f.code.all (fun x => instS l f x) from all_any l f]
      rw [decide_eq_true (show 1 ≤ f.code.length by omega), decide_eq_true (show f.ty.base ≤ 3 by omega)]
      simp [*]
end Go.Proofs.YtamgalmlhjbbdaaDoor.c
