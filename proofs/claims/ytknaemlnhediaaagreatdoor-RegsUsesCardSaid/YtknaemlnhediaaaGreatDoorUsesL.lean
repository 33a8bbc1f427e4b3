/- The law RegsUses. The table strings.asciiSpace holds what its text lays; lengths are bounded. -/
import Derived.Test.YtknaemlnhediaaaGreatDoorUsesH
import Derived.Test.YtknaemlnhediaaaGreatDoorGrun2
namespace Go.Proofs.YtknaemlnhediaaaGreatDoor.c
open Go.RowKit
set_option linter.unusedVariables false
set_option maxRecDepth 100000
set_option maxHeartbeats 6400000
set_option linter.unusedSimpArgs false
theorem askU_len (x : Rg) : (askU x).length ≤ 6 := by
  unfold askU
  split
  · exact usesTo_len x 6
  · simp
theorem usesLaw_any (x : Rg) (w : World) (L : Laid w) (hal : x.args.length ≤ 140737488355328) (hA : NumsAt w x.A x.args) (hin : In64 x.op) :
    Calls Tryz.prog 7 #[.agg #[.int .i64 x.op, .int .i64 x.d, .int .i64 x.a, .int .i64 x.b, .int .i64 x.ty.base, .int .i64 x.ty.bits, .string x.ty.name, .bool x.ty.opt, .bool x.ty.err, .string x.name, .slice x.A x.args.length x.cap]] w fun e w' => e = .returned (.bool true) ∧ Ext w w' := by
  have HB := Lib.hid (box_cells x w)
  have X0 : Hid (Ext w (w.alloc (.cells #[.int .i64 x.op, .int .i64 x.d, .int .i64 x.a, .int .i64 x.b, .int .i64 x.ty.base, .int .i64 x.ty.bits, .string x.ty.name, .bool x.ty.opt, .bool x.ty.err, .string x.name, .slice x.A x.args.length x.cap] 67))) := (Ext.refl w).alloc _
  have HKN : Hid (∀ w1, Ext w w1 → Calls Tryz.prog 19 #[] w1 fun e w' => e = .returned (.bool true) ∧ Ext w1 w') := fun w1 xx => rknown_any w1 (L.ext xx)
  by_cases hn : (100 : Int) < (x.args.length : Int)
  · clear hA hin
    go_enter Tryz.func7, Tryz.ntmps7
    go_wp2_with (first
      | (go_at_call 19; refine (HKN.out _ (by (with_reducible repeat first | exact Ext.refl _ | assumption | refine Ext.alloc ?_ _ | refine Ext.drew ?_ | refine Ext.trans ?_ (by assumption)))).mono ?_; rintro r w8 ⟨rfl, x8⟩))
    go_ret
    exact ⟨rfl, by (with_reducible repeat first | exact Ext.refl _ | assumption | refine Ext.alloc ?_ _ | refine Ext.drew ?_ | refine Ext.trans ?_ (by assumption))⟩
  · obtain ⟨ae, hae⟩ : ∃ ae, askE x = ae := ⟨_, rfl⟩
    obtain ⟨au, hau⟩ : ∃ au, askU x = au := ⟨_, rfl⟩
    obtain ⟨wd, hwd⟩ : ∃ wd, (if (askB x && writesR x) = true then x.d else 0) = wd := ⟨_, rfl⟩
    obtain ⟨wb, hwb⟩ : ∃ wb, (askB x && writesR x) = wb := ⟨_, rfl⟩
    have HL : Hid (au.length ≤ 6) := by unfold Hid; rw [← hau]; exact askU_len x
    have H1 : Hid (∀ w1, Ext w w1 → Calls Tryz.prog 34 #[.agg #[.int .i64 x.op, .int .i64 x.d, .int .i64 x.a, .int .i64 x.b, .int .i64 x.ty.base, .int .i64 x.ty.bits, .string x.ty.name, .bool x.ty.opt, .bool x.ty.err, .string x.name, .slice x.A x.args.length x.cap]] w1 fun e w' => ∃ v, e = .returned (.tuple #[v, .int .i64 ae]) ∧ IntsAt w' v au ∧ Ext w1 w') := by
      intro w1 xx
      have h := gUses_any x w1 (L.ext xx) (by omega) (hA.ext xx) hin
      rwa [hae, hau] at h
    have H2 : Hid (∀ w1, Ext w w1 → Calls Tryz.prog 35 #[.agg #[.int .i64 x.op, .int .i64 x.d, .int .i64 x.a, .int .i64 x.b, .int .i64 x.ty.base, .int .i64 x.ty.bits, .string x.ty.name, .bool x.ty.opt, .bool x.ty.err, .string x.name, .slice x.A x.args.length x.cap]] w1 fun e w' => ∃ v, e = .returned (.tuple #[v, .int .i64 ae]) ∧ IntsAt w' v au ∧ Ext w1 w') := by
      intro w1 xx
      have h := hUses_any x w1 (by omega) (hA.ext xx)
      rwa [hae, hau] at h
    have H3 : Hid (∀ w1, Ext w w1 → Calls Tryz.prog 36 #[.agg #[.int .i64 x.op, .int .i64 x.d, .int .i64 x.a, .int .i64 x.b, .int .i64 x.ty.base, .int .i64 x.ty.bits, .string x.ty.name, .bool x.ty.opt, .bool x.ty.err, .string x.name, .slice x.A x.args.length x.cap]] w1 fun e w' => e = .returned (.tuple #[.int .i64 wd, .bool wb, .int .i64 ae]) ∧ Ext w1 w') := by
      intro w1 xx
      have h := gWrites_any x w1 (L.ext xx) (by omega) (hA.ext xx) hin
      rwa [hwd, hwb, hae] at h
    have H4 : Hid (∀ w1, Ext w w1 → Calls Tryz.prog 37 #[.agg #[.int .i64 x.op, .int .i64 x.d, .int .i64 x.a, .int .i64 x.b, .int .i64 x.ty.base, .int .i64 x.ty.bits, .string x.ty.name, .bool x.ty.opt, .bool x.ty.err, .string x.name, .slice x.A x.args.length x.cap]] w1 fun e w' => e = .returned (.tuple #[.int .i64 wd, .bool wb, .int .i64 ae]) ∧ Ext w1 w') := by
      intro w1 xx
      have h := hWrites_any x w1 (by omega) (hA.ext xx)
      rwa [hwd, hwb, hae] at h
    clear hae hau hwd hwb hA hin
    go_enter Tryz.func7, Tryz.ntmps7
    go_wp2_with (first
      | (go_at_call 34; refine (H1.out _ (by (with_reducible repeat first | exact Ext.refl _ | assumption | refine Ext.alloc ?_ _ | refine Ext.drew ?_ | refine Ext.trans ?_ (by assumption)))).mono ?_; rintro r w1 ⟨v1, rfl, i1, x1⟩; have I1 := Lib.hid i1; clear i1; obtain ⟨c0, c1, c2, c3, c4, c5, c6, c7, c8, c9, c10⟩ := HB.out _ x1; have z1 : w.heap.size < w1.heap.size := x1.z0)
      | (go_at_call 35; refine (H2.out _ (by (with_reducible repeat first | exact Ext.refl _ | assumption | refine Ext.alloc ?_ _ | refine Ext.drew ?_ | refine Ext.trans ?_ (by assumption)))).mono ?_; rintro r w2 ⟨v2, rfl, i2, x2⟩; have I2 := Lib.hid i2; clear i2; obtain ⟨d0, d1, d2, d3, d4, d5, d6, d7, d8, d9, d10⟩ := HB.out _ (x1.trans x2); have z2 : w.heap.size < w2.heap.size := Nat.lt_of_lt_of_le z1 x2.size)
      | (go_at_call 36; refine (H3.out _ (by (with_reducible repeat first | exact Ext.refl _ | assumption | refine Ext.alloc ?_ _ | refine Ext.drew ?_ | refine Ext.trans ?_ (by assumption)))).mono ?_; rintro r w3 ⟨rfl, x3⟩; obtain ⟨e0, e1, e2, e3, e4, e5, e6, e7, e8, e9, e10⟩ := HB.out _ ((x1.trans x2).trans x3); have z3 : w.heap.size < w3.heap.size := Nat.lt_of_lt_of_le z2 x3.size)
      | (go_at_call 37; refine (H4.out _ (by (with_reducible repeat first | exact Ext.refl _ | assumption | refine Ext.alloc ?_ _ | refine Ext.drew ?_ | refine Ext.trans ?_ (by assumption)))).mono ?_; rintro r w4 ⟨rfl, x4⟩)
      | (go_at_call 38; refine (hsameInts_any v1 v2 au _ (I1.out.ext ((x2.trans x3).trans x4)) (I2.out.ext (x3.trans x4)) (by have := HL.out; omega)).mono ?_; rintro r w5 ⟨rfl, x5⟩)
      | (go_at_call 19; refine (HKN.out _ (by (with_reducible repeat first | exact Ext.refl _ | assumption | refine Ext.alloc ?_ _ | refine Ext.drew ?_ | refine Ext.trans ?_ (by assumption)))).mono ?_; rintro r w8 ⟨rfl, x8⟩))
    go_ret
    exact ⟨rfl, by (with_reducible repeat first | exact Ext.refl _ | assumption | refine Ext.alloc ?_ _ | refine Ext.drew ?_ | refine Ext.trans ?_ (by assumption))⟩
end Go.Proofs.YtknaemlnhediaaaGreatDoor.c
