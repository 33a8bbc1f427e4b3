/- Contracts of the reference's functions that look at an instruction: within, isRan, isInt, has, found, isNumber, isCode. -/
import Derived.Test.YtamgalmlhjbbdaaDoorShape
namespace Go.Proofs.YtamgalmlhjbbdaaDoor.c
open Go.RowKit
set_option linter.unusedVariables false
set_option linter.unusedSimpArgs false

set_option maxRecDepth 100000 in
set_option maxHeartbeats 1600000 in
theorem rwithin_any (a b c : Int) (w : World) :
    Calls Tryd.prog 39 #[.int .i64 a, .int .i64 b, .int .i64 c] w fun e w' => e = .returned (.bool (inB a b c)) ∧ w = w' := by
  go_enter Tryd.func39, Tryd.ntmps39
  go_wp2
  all_goals (go_ret; exact ⟨ret_bool (by unfold inB; rw [Bool.eq_iff_iff]; simp; omega), rfl⟩)
theorem rvalidate_ty (t : Ty) (w : World) : Calls Tryd.prog 65 #[.agg #[.int .i64 t.base, .int .i64 t.bits, .string t.name, .bool t.opt, .bool t.err]] w fun r w' => r = .returned (.int .i64 (if isTypeS t then 0 else 1)) ∧ Ext w w' := refValidateType_any _ _ _ _ _ w
def isRanS (t : Ty) : Bool := isTypeS t && decide (t.base ≤ 3)
set_option maxRecDepth 100000 in
set_option maxHeartbeats 1600000 in
theorem isRan_ty (t : Ty) (w : World) :
    Calls Tryd.prog 40 #[.agg #[.int .i64 t.base, .int .i64 t.bits, .string t.name, .bool t.opt, .bool t.err]] w fun r w' => r = .returned (.bool (isRanS t)) ∧ Ext w w' := by
  cases h : isTypeS t
  all_goals
    go_enter Tryd.func40, Tryd.ntmps40
    go_wp2_with (first
      | (go_at_call 65; refine (rvalidate_ty t _).mono ?_; rw [h]; rintro r w1 ⟨rfl, x1⟩; have y1 := x1.facts; have z1 := x1.z0))
    all_goals
      go_ret
      exact ⟨ret_bool (by unfold isRanS; rw [h]; simp [*]), by (repeat (first | (with_reducible exact Ext.refl _) | (with_reducible assumption) | (with_reducible refine Ext.alloc ?_ _) | (with_reducible refine Ext.drewN ?_ _) | (with_reducible refine Ext.drew ?_) | (with_reducible refine Ext.setCell ?_ ?_ _; rotate_left; first | assumption | (simp; done) | (simp; omega)) | (with_reducible refine Ext.trans ?_ (by with_reducible assumption))))⟩
theorem isInt_ran (t : Ty) : isIntS t = (isRanS t && ((t.base == 2 || t.base == 3) && (!t.opt && !t.err))) := by
  unfold isIntS isPlainS isRanS
  cases isTypeS t
  · rfl
  · by_cases h2 : t.base = 2
    · cases t.opt <;> cases t.err <;> simp [h2]
    · by_cases h3 : t.base = 3
      · cases t.opt <;> cases t.err <;> simp [h3]
      · cases t.opt <;> cases t.err <;> simp [h2, h3]
theorem isType_base {t : Ty} (h : isTypeS t = true) : 0 ≤ t.base := by
  unfold isTypeS at h
  split at h
  · omega
  · split at h
    · omega
    · split at h
      · omega
      · split at h
        · omega
        · simp at h; omega
theorem push_ran (t : Ty) : pushS t = (isRanS t && (!t.opt && !t.err)) := by
  unfold pushS isIntS isPlainS isRanS
  cases h : isTypeS t
  · rfl
  · have := isType_base h
    by_cases h3 : t.base ≤ 3
    · by_cases h1 : t.base ≤ 1
      · cases t.opt <;> cases t.err <;> simp [h1, h3]
      · have : t.base = 2 ∨ t.base = 3 := by omega
        cases t.opt <;> cases t.err <;> simp [h1, h3, this]
    · have h1 : ¬ t.base ≤ 1 := by omega
      have h2 : ¬ t.base = 2 := by omega
      have h4 : ¬ t.base = 3 := by omega
      simp [h1, h2, h3, h4]
set_option maxRecDepth 100000 in
set_option maxHeartbeats 1600000 in
theorem rIsInt_ty (t : Ty) (w : World) :
    Calls Tryd.prog 68 #[.agg #[.int .i64 t.base, .int .i64 t.bits, .string t.name, .bool t.opt, .bool t.err]] w fun r w' => r = .returned (.bool (isIntS t)) ∧ Ext w w' := by
  cases h : isRanS t
  all_goals
    have HH := Lib.hid h
    clear h
    go_enter Tryd.func68, Tryd.ntmps68
    go_wp2_with (first
      | (go_at_call 40; refine (isRan_ty t _).mono ?_; rw [HH.out]; rintro r w1 ⟨rfl, x1⟩; have y1 := x1.facts; have z1 := x1.z0))
    all_goals
      go_ret
      exact ⟨ret_bool (by rw [isInt_ran, HH.out]; simp [*]), by (repeat (first | (with_reducible exact Ext.refl _) | (with_reducible assumption) | (with_reducible refine Ext.alloc ?_ _) | (with_reducible refine Ext.drewN ?_ _) | (with_reducible refine Ext.drew ?_) | (with_reducible refine Ext.setCell ?_ ?_ _; rotate_left; first | assumption | (simp; done) | (simp; omega)) | (with_reducible refine Ext.trans ?_ (by with_reducible assumption))))⟩
/-- which of A, B, Type and Name an instruction has -/
def hasS (op : Int) : Bool × Bool × Bool × Bool :=
  if op = 0 ∨ op = 5 then (true, false, true, false)
  else if op = 2 ∨ op = 3 ∨ op = 6 ∨ op = 12 ∨ op = 13 ∨ op = 14 ∨ op = 15 ∨ op = 19 then (true, false, false, false)
  else if op = 7 ∨ op = 9 ∨ op = 10 then (false, false, true, false)
  else if op = 16 then (false, true, false, true)
  else if op = 18 then (false, false, false, true)
  else (false, false, false, false)
theorem hasS_0 {op : Int} (h : op = 0 ∨ op = 5) : hasS op = (true, false, true, false) := by unfold hasS; rw [if_pos h]
theorem hasS_1 {op : Int} (h : op = 2 ∨ op = 3 ∨ op = 6 ∨ op = 12 ∨ op = 13 ∨ op = 14 ∨ op = 15 ∨ op = 19) : hasS op = (true, false, false, false) := by unfold hasS; rw [if_neg (by omega), if_pos h]
theorem hasS_2 {op : Int} (h : op = 7 ∨ op = 9 ∨ op = 10) : hasS op = (false, false, true, false) := by unfold hasS; rw [if_neg (by omega), if_neg (by omega), if_pos h]
theorem hasS_3 {op : Int} (h : op = 16) : hasS op = (false, true, false, true) := by unfold hasS; rw [if_neg (by omega), if_neg (by omega), if_neg (by omega), if_pos h]
theorem hasS_4 {op : Int} (h : op = 18) : hasS op = (false, false, false, true) := by unfold hasS; rw [if_neg (by omega), if_neg (by omega), if_neg (by omega), if_neg (by omega), if_pos h]
theorem hasS_5 {op : Int} (h : ¬ (op = 0 ∨ op = 5 ∨ op = 2 ∨ op = 3 ∨ op = 6 ∨ op = 12 ∨ op = 13 ∨ op = 14 ∨ op = 15 ∨ op = 19 ∨ op = 7 ∨ op = 9 ∨ op = 10 ∨ op = 16 ∨ op = 18)) : hasS op = (false, false, false, false) := by
  unfold hasS; rw [if_neg (by omega), if_neg (by omega), if_neg (by omega), if_neg (by omega), if_neg (by omega)]
theorem ret_has {op : Int} {a b c d : Bool} (h : hasS op = (a, b, c, d)) : Ending.returned (.tuple #[.bool a, .bool b, .bool c, .bool d]) = .returned (.tuple #[.bool (hasS op).1, .bool (hasS op).2.1, .bool (hasS op).2.2.1, .bool (hasS op).2.2.2]) := by rw [h]
set_option maxRecDepth 100000 in
set_option maxHeartbeats 1600000 in
theorem has_any (op : Int) (w : World) :
    Calls Tryd.prog 66 #[.int .i64 op] w fun e w' => e = .returned (.tuple #[.bool (hasS op).1, .bool (hasS op).2.1, .bool (hasS op).2.2.1, .bool (hasS op).2.2.2]) ∧ w = w' := by
  by_cases h0 : op = 0 ∨ op = 5
  · have H := Lib.hid (hasS_0 h0)
    rcases h0 with rfl | rfl
    all_goals
      go_enter Tryd.func66, Tryd.ntmps66
      go_wp2_with fail
      exact bodyPost_ret (v := .tuple #[.bool true, .bool false, .bool true, .bool false]) (by simp [results, Tryd.results66, go_sem]) rfl ⟨ret_has H.out, rfl⟩
  · by_cases h1 : op = 2 ∨ op = 3 ∨ op = 6 ∨ op = 12 ∨ op = 13 ∨ op = 14 ∨ op = 15 ∨ op = 19
    · have H := Lib.hid (hasS_1 h1)
      clear h0
      rcases h1 with rfl | rfl | rfl | rfl | rfl | rfl | rfl | rfl
      all_goals
        go_enter Tryd.func66, Tryd.ntmps66
        go_wp2_with fail
        exact bodyPost_ret (v := .tuple #[.bool true, .bool false, .bool false, .bool false]) (by simp [results, Tryd.results66, go_sem]) rfl ⟨ret_has H.out, rfl⟩
    · by_cases h2 : op = 7 ∨ op = 9 ∨ op = 10
      · have H := Lib.hid (hasS_2 h2)
        clear h0 h1
        rcases h2 with rfl | rfl | rfl
        all_goals
          go_enter Tryd.func66, Tryd.ntmps66
          go_wp2_with fail
          exact bodyPost_ret (v := .tuple #[.bool false, .bool false, .bool true, .bool false]) (by simp [results, Tryd.results66, go_sem]) rfl ⟨ret_has H.out, rfl⟩
      · by_cases h3 : op = 16
        · have H := Lib.hid (hasS_3 h3)
          clear h0 h1 h2
          subst h3
          go_enter Tryd.func66, Tryd.ntmps66
          go_wp2_with fail
          exact bodyPost_ret (v := .tuple #[.bool false, .bool true, .bool false, .bool true]) (by simp [results, Tryd.results66, go_sem]) rfl ⟨ret_has H.out, rfl⟩
        · by_cases h4 : op = 18
          · have H := Lib.hid (hasS_4 h4)
            clear h0 h1 h2 h3
            subst h4
            go_enter Tryd.func66, Tryd.ntmps66
            go_wp2_with fail
            exact bodyPost_ret (v := .tuple #[.bool false, .bool false, .bool false, .bool true]) (by simp [results, Tryd.results66, go_sem]) rfl ⟨ret_has H.out, rfl⟩
          · have H := Lib.hid (hasS_5 (op := op) (by omega))
            go_enter Tryd.func66, Tryd.ntmps66
            go_wp2_with fail
            all_goals first | (exfalso; omega) | skip
            exact bodyPost_ret (v := .tuple #[.bool false, .bool false, .bool false, .bool false]) (by simp [results, Tryd.results66, go_sem]) rfl ⟨ret_has H.out, rfl⟩
set_option maxRecDepth 100000 in
set_option maxHeartbeats 1600000 in
theorem found_any (A : Option Addr) (cap : Nat) (l : List Fc) (n : ByteArray) (w : World) (hA : FcAt w A l) (hl : l.length ≤ 9223372036854775806) :
    Calls Tryd.prog 38 #[.slice A l.length cap, .string n] w fun e w' => e = .returned (.int .i64 (indexS l n)) ∧ w = w' := by
  obtain ⟨len, hlen⟩ : ∃ len, len = l.length := ⟨_, rfl⟩
  rw [← hlen] at hl ⊢
  have HLn := Lib.hid hlen
  clear hlen
  have HA := Lib.hid hA
  clear hA
  go_enter Tryd.func38, Tryd.ntmps38
  go_wp2
  go_loop [5] (fun i => ∃ k : Nat, k ≤ len ∧ i = .int .i64 k ∧ ∀ j, j < k → ((l.getD j default).name.toList == n.toList) = false) (fun i => len - (intOf i).toNat)
  case atStart => exact ⟨0, Nat.zero_le _, rfl, by omega⟩
  case round =>
    obtain ⟨k, hk, rfl, hnone⟩ := hrel
    have HN := Lib.hid hnone; clear hnone
    by_cases hlt : k < len
    · obtain ⟨f, hf⟩ : ∃ f, f = l.getD k default := ⟨_, rfl⟩
      obtain ⟨b, off, rfl, hb, c0, _⟩ := HA.out.at_ (k := k) (by rw [← HLn.out]; exact hlt) hf
      have HF := Lib.hid hf
      clear hf
      go_wp2_with fail
      case roundEnd =>
        have h9 : (f.name.toList == n.toList) = false := by assumption
        refine ⟨⟨k + 1, by omega, by go_num, fun j hj => ?_⟩, by simp [intOf]; omega⟩
        rcases Nat.lt_or_ge j k with h | h
        · exact HN.out j h
        · obtain rfl : j = k := by omega
          rw [← HF.out]; exact h9
      all_goals
        have h9 : (f.name.toList == n.toList) = true := by assumption
        go_ret
        exact ⟨ret_int (by unfold indexS; rw [← HLn.out]; exact (findI_hit hlt (by rw [← HF.out]; exact h9) HN.out).symm), rfl⟩
    · go_wp2_with fail
      go_ret
      exact ⟨ret_int (by unfold indexS; rw [← HLn.out]; exact (findI_none (fun j hj => HN.out j (by omega))).symm), rfl⟩

/-- is A one that an operation takes -/
def numS (f : Fc) (x : Cd) : Bool :=
  if x.op = 0 then inB x.a (-2147483648) 2147483648
  else if x.op = 2 ∨ x.op = 3 then inB x.a 0 (wrap64 (f.places - 1))
  else if x.op = 5 then inB x.a 5 17
  else if x.op = 6 then inB x.a 18 23
  else if x.op = 19 then inB x.a 1 5
  else inB x.a 0 ((f.code.length : Int) - 1)
set_option maxRecDepth 100000 in
set_option maxHeartbeats 1600000 in
theorem isNumber_any (f : Fc) (op a b : Int) (ty : Ty) (nm : ByteArray) (w : World) (hfl : f.code.length ≤ 9223372036854775807) :
    Calls Tryd.prog 67 #[f.val, (Cd.mk op a b ty nm).val] w fun e w' => e = .returned (.bool (numS f ⟨op, a, b, ty, nm⟩)) ∧ Ext w w' := by
  unfold Fc.val Cd.val
  simp only []
  by_cases h : op = 0 ∨ op = 2 ∨ op = 3 ∨ op = 5 ∨ op = 6 ∨ op = 19
  · rcases h with rfl | rfl | rfl | rfl | rfl | rfl
    all_goals
      go_enter Tryd.func67, Tryd.ntmps67
      go_wp2_with (first | (go_at_call 39; refine (rwithin_any _ _ _ _).mono ?_; rintro r w' ⟨rfl, rfl⟩))
      go_ret
      exact ⟨rfl, by (repeat (first | (with_reducible exact Ext.refl _) | (with_reducible assumption) | (with_reducible refine Ext.alloc ?_ _) | (with_reducible refine Ext.drewN ?_ _) | (with_reducible refine Ext.drew ?_) | (with_reducible refine Ext.setCell ?_ ?_ _; rotate_left; first | assumption | (simp; done) | (simp; omega)) | (with_reducible refine Ext.trans ?_ (by with_reducible assumption))))⟩
  · have H := Lib.hid (show numS f ⟨op, a, b, ty, nm⟩ = inB a 0 ((f.code.length : Int) - 1) by
      unfold numS; simp only []; rw [if_neg (by omega), if_neg (by omega), if_neg (by omega), if_neg (by omega), if_neg (by omega)])
    have h0 : (op == 0) = false := by rw [beq_eq_false_iff_ne]; omega
    have h2 : (op == 2) = false := by rw [beq_eq_false_iff_ne]; omega
    have h3 : (op == 3) = false := by rw [beq_eq_false_iff_ne]; omega
    have h5 : (op == 5) = false := by rw [beq_eq_false_iff_ne]; omega
    have h6 : (op == 6) = false := by rw [beq_eq_false_iff_ne]; omega
    have h19 : (op == 19) = false := by rw [beq_eq_false_iff_ne]; omega
    clear h
    go_enter Tryd.func67, Tryd.ntmps67
    go_wp2_with (first | (go_at_call 39; refine (rwithin_any _ _ _ _).mono ?_; rintro r w' ⟨rfl, rfl⟩))
    go_ret
    exact ⟨ret_bool H.out.symm, by (repeat (first | (with_reducible exact Ext.refl _) | (with_reducible assumption) | (with_reducible refine Ext.alloc ?_ _) | (with_reducible refine Ext.drewN ?_ _) | (with_reducible refine Ext.drew ?_) | (with_reducible refine Ext.setCell ?_ ?_ _; rotate_left; first | assumption | (simp; done) | (simp; omega)) | (with_reducible refine Ext.trans ?_ (by with_reducible assumption))))⟩

/-- is an instruction one of a function -/
def instS (l : List Fc) (f : Fc) (x : Cd) : Bool := match shapeS l f x with | some (p, q, r, s) => p && (q && (r && s)) | none => false
end Go.Proofs.YtamgalmlhjbbdaaDoor.c
