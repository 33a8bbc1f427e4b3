/- Contracts of regs' small functions of a run: typeOfInt, wrap, truth, compared, next. Conditions: right types. -/
import Derived.Test.YtknaemlnhediaaaGreatDoorRgD
import Derived.Test.YtknaemlnhediaaaGreatDoorRinst
import Derived.Test.YtknaemlnhediaaaGreatDoorNchk
namespace Go.Proofs.YtknaemlnhediaaaGreatDoor.c
open Go.RowKit
set_option linter.unusedVariables false
set_option maxRecDepth 100000
set_option maxHeartbeats 3200000
set_option linter.unusedSimpArgs false
theorem typeOfInt_any (t : Ty) (w : World) :
    Calls Tryz.prog 249 #[.agg #[.int .i64 t.base, .int .i64 t.bits, .string t.name, .bool t.opt, .bool t.err]] w fun r w' => r = .returned (.agg #[.bool (t.base == 3), .int .i64 t.bits]) ∧ Ext w w' := by
  go_enter Tryz.func249, Tryz.ntmps249
  go_wp2
  exact bodyPost_ret (v := .agg #[.bool (t.base == 3), .int .i64 t.bits]) (by simp [results, Tryz.results249, go_sem]) rfl ⟨rfl, by (with_reducible repeat first | exact Ext.refl _ | assumption | refine Ext.alloc ?_ _ | refine Ext.drew ?_ | refine Ext.trans ?_ (by assumption))⟩
theorem wrapT_void {t : Ty} {n : Int} (h : t.base = 0) : wrapT t n = 0 := by unfold wrapT; rw [h]; rfl
theorem wrapT_bool {t : Ty} {n : Int} (h : t.base = 1) : wrapT t n = if n = 0 then 0 else 1 := by
  unfold wrapT; rw [h, if_pos (by decide)]
  by_cases e : n = 0
  · rw [if_pos e, if_neg (by simp [e])]
  · rw [if_neg e, if_pos ⟨rfl, e⟩]
theorem wrapT_int {t : Ty} {n : Int} (h : 2 ≤ t.base) : wrapT t n = bendI (t.base == 3) t.bits n := by unfold wrapT; rw [if_neg (by omega)]
theorem gwrap_any (t : Ty) (n : Int) (w : World) (h : rowT t) :
    Calls Tryz.prog 206 #[.agg #[.int .i64 t.base, .int .i64 t.bits, .string t.name, .bool t.opt, .bool t.err], .int .i64 n] w fun e w' => e = .returned (.int .i64 (wrapT t n)) ∧ Ext w w' := by
  rcases h with h | h | ⟨h, h1, h2⟩
  · have HR := Lib.hid (wrapT_void (n := n) h)
    have n1 : (t.base == 1) = false := by rw [h]; rfl
    have n2 : t.base ≤ 1 := by omega
    go_enter Tryz.func206, Tryz.ntmps206
    go_wp2_with fail
    go_ret
    exact ⟨ret_int HR.out.symm, by (with_reducible repeat first | exact Ext.refl _ | assumption | refine Ext.alloc ?_ _ | refine Ext.drew ?_ | refine Ext.trans ?_ (by assumption))⟩
  · have HR := Lib.hid (wrapT_bool (n := n) h)
    have n1 : (t.base == 1) = true := by rw [h]; rfl
    have n2 : t.base ≤ 1 := by omega
    by_cases e : n = 0
    · have e1 : (n != 0) = false := by rw [e]; rfl
      have HE := Lib.hid e
      clear e
      go_enter Tryz.func206, Tryz.ntmps206
      go_wp2_with fail
      go_ret
      exact ⟨ret_int (by rw [HR.out, if_pos HE.out]), by (with_reducible repeat first | exact Ext.refl _ | assumption | refine Ext.alloc ?_ _ | refine Ext.drew ?_ | refine Ext.trans ?_ (by assumption))⟩
    · have e1 : (n != 0) = true := by rw [bne_iff_ne]; exact e
      have HE := Lib.hid e
      clear e
      go_enter Tryz.func206, Tryz.ntmps206
      go_wp2_with fail
      go_ret
      exact ⟨ret_int (by rw [HR.out, if_neg HE.out]), by (with_reducible repeat first | exact Ext.refl _ | assumption | refine Ext.alloc ?_ _ | refine Ext.drew ?_ | refine Ext.trans ?_ (by assumption))⟩
  · have HR := Lib.hid (wrapT_int (n := n) h)
    have n1 : (t.base == 1) = false := by rw [beq_eq_false_iff_ne]; omega
    have n2 : ¬ t.base ≤ 1 := by omega
    go_enter Tryz.func206, Tryz.ntmps206
    go_wp2_with (first
      | (go_at_call 249; refine (typeOfInt_any t _).mono ?_; rintro r w1 ⟨rfl, x1⟩; have y1 := x1.facts; have z1 := x1.z0)
      | (go_at_call 248; refine (nWrap_any (t.base == 3) t.bits n _ h1 h2).mono ?_; rintro r w2 ⟨rfl, x2⟩; have y2 := x2.facts))
    go_ret
    exact ⟨ret_int HR.out.symm, by (with_reducible repeat first | exact Ext.refl _ | assumption | refine Ext.alloc ?_ _ | refine Ext.drew ?_ | refine Ext.trans ?_ (by assumption))⟩
theorem truth_any (b : Bool) (w : World) :
    Calls Tryz.prog 250 #[.bool b] w fun e w' => e = .returned (nv (b01 b)).val ∧ Ext w w' := by
  have HZ : Hid ((Tryz.prog.info? 37).map (·.size) = some 13) := by unfold Hid; kernel_rfl
  cases b
  all_goals
    go_enter Tryz.func250, Tryz.ntmps250
    go_wp2
    refine bodyPost_ret (results_cell_row rfl _ _ w.heap.size 37 _ (0, 0) _ rfl (Blk.new w _ _) Tryz.underlying37 rfl HZ.out) rfl ⟨rfl, by (with_reducible repeat first | exact Ext.refl _ | assumption | refine Ext.alloc ?_ _ | refine Ext.drew ?_ | refine Ext.trans ?_ (by assumption))⟩
theorem compared_any (op a c : Int) (w : World) : Calls Tryz.prog 253 #[.int .i64 op, .int .i64 a, .int .i64 c] w fun e w' => e = .returned (.bool (cmpB op a c)) ∧ w = w' := by
  rcases (show op = 18 ∨ op = 19 ∨ op = 20 ∨ op = 21 ∨ op = 22 ∨ (op ≠ 18 ∧ op ≠ 19 ∧ op ≠ 20 ∧ op ≠ 21 ∧ op ≠ 22) by omega) with rfl | rfl | rfl | rfl | rfl | ⟨h1, h2, h3, h4, h5⟩
  case' inr.inr.inr.inr.inr =>
    have HC := Lib.hid (show cmpB op a c = decide (c ≤ a) by unfold cmpB; rw [if_neg h1, if_neg h2, if_neg h3, if_neg h4, if_neg h5])
    have e1 : (op == 18) = false := by simpa using h1
    have e2 : (op == 19) = false := by simpa using h2
    have e3 : (op == 20) = false := by simpa using h3
    have e4 : (op == 21) = false := by simpa using h4
    have e5 : (op == 22) = false := by simpa using h5
    clear h1 h2 h3 h4 h5
  all_goals
    go_enter Tryz.func253, Tryz.ntmps253
    go_wp2
    go_ret
    exact ⟨ret_bool (by first | exact HC.out.symm | rfl), rfl⟩
/-- where the code goes on at an instruction that leads to another one -/
def nextR (op d : Int) (v : Val) (p : Int) : Int := if op = 10 then (bif v.null then d else p + 1) else if op = 11 then (bif !emp v.err then d else p + 1) else if op = 13 then (bif v.n == 0 then d else p + 1) else d
theorem next_any (x : Rg) (v : Val) (p : Int) (w : World) (hp : 0 ≤ p ∧ p ≤ 1000000) (hop : x.op = 10 ∨ x.op = 11 ∨ x.op = 12 ∨ x.op = 13) :
    Calls Tryz.prog 205 #[x.val, v.val, .int .i64 p] w fun e w' => e = .returned (.int .i64 (nextR x.op x.d v p)) ∧ Ext w w' := by
  obtain ⟨op, d, a, b, ty, nm, A, cap, args⟩ := x
  obtain ⟨vt, vn, vnull, verr, vof⟩ := v
  simp only [] at hop
  unfold Rg.val Val.val Val.cells nextR
  simp only []
  have hem : verr.toList.isEmpty = emp verr := rfl
  have p1 := hp.1
  have p2 := hp.2
  rcases hop with rfl | rfl | rfl | rfl
  · cases vnull
    all_goals
      go_enter Tryz.func205, Tryz.ntmps205
      go_wp2_with fail
      go_ret
      exact ⟨ret_int (by first | rfl | go_num), by (with_reducible repeat first | exact Ext.refl _ | assumption | refine Ext.alloc ?_ _ | refine Ext.drew ?_ | refine Ext.trans ?_ (by assumption))⟩
  · cases he : emp verr
    all_goals
      rw [he] at hem
      go_enter Tryz.func205, Tryz.ntmps205
      go_wp2_with fail
      go_ret
      exact ⟨ret_int (by first | rfl | go_num), by (with_reducible repeat first | exact Ext.refl _ | assumption | refine Ext.alloc ?_ _ | refine Ext.drew ?_ | refine Ext.trans ?_ (by assumption))⟩
  · go_enter Tryz.func205, Tryz.ntmps205
    go_wp2_with fail
    go_ret
    exact ⟨ret_int (by first | rfl | go_num), by (with_reducible repeat first | exact Ext.refl _ | assumption | refine Ext.alloc ?_ _ | refine Ext.drew ?_ | refine Ext.trans ?_ (by assumption))⟩
  · cases he : vn == 0
    all_goals
      go_enter Tryz.func205, Tryz.ntmps205
      go_wp2_with fail
      go_ret
      exact ⟨ret_int (by first | rfl | go_num), by (with_reducible repeat first | exact Ext.refl _ | assumption | refine Ext.alloc ?_ _ | refine Ext.drew ?_ | refine Ext.trans ?_ (by assumption))⟩
end Go.Proofs.YtknaemlnhediaaaGreatDoor.c
