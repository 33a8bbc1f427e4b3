/- The law CodeHeights. The table strings.asciiSpace holds what its text lays; lengths are bounded. -/
import Derived.Test.YtamgalmlhjbbdaaDoorChts
import Derived.Test.YtamgalmlhjbbdaaDoorFinds
namespace Go.Proofs.YtamgalmlhjbbdaaDoor.c
open Go.RowKit
set_option linter.unusedVariables false
set_option linter.unusedSimpArgs false
set_option maxRecDepth 100000 in
set_option maxHeartbeats 1600000 in
theorem heights_any (A : Option Addr) (cap : Nat) (l : List Fc) (k : Int) (w : World) (L : Laid w) (hA : FcAt w A l) (hl : l.length ≤ 140737488355328) (hfl : ∀ f, f ∈ l → f.code.length ≤ 140737488355328) (wf : (Lit.int .i64 k).wf = true) :
    Calls Tryd.prog 5 #[.slice A l.length cap, .int .i64 k] w fun e w' => e = .returned (.bool true) ∧ Ext w w' := by
  have hc : l.length ≤ 100 → countS l ≤ 9223372036854775806 := fun h => by
    have h1 := count_mul l _ hfl
    have h2 := Nat.mul_le_mul_right 140737488355328 h
    omega
  obtain ⟨hk0, hk1⟩ : -9223372036854775808 ≤ k ∧ k ≤ 9223372036854775807 := by
    simp [Lit.wf, IntKind.min, IntKind.max, IntKind.signed, IntKind.bits] at wf
    omega
  have HLG := Lib.hid (long_any A cap l w hA (by omega) hc)
  have HCH := Lib.hid (cHeights_any A cap l k w L hk0 hk1 hA (by omega) (fun h => hc (by omega)) (fun f hf => by have := hfl f hf; omega))
  have HRH : Hid (∀ w1, Ext w w1 → Calls Tryd.prog 19 #[.slice A l.length cap, .int .i64 k] w1 fun e w' => ∃ v, e = .returned (.tuple #[v, .int .i64 (askE l k)]) ∧ IntsAt w' v (tallL l k) ∧ Ext w1 w') :=
    fun w1 x => rHeights_any A cap l k w1 hk0 hk1 (hA.ext x) (by omega) (fun h => hc (by omega)) (fun f hf => by have := hfl f hf; omega)
  have HCR : Hid (∀ w1, Ext w w1 → Calls Tryd.prog 20 #[.slice A l.length cap, .int .i64 k] w1 fun e w' => ∃ v, e = .returned (.tuple #[v, .int .i64 (askE l k)]) ∧ IntsAt w' v (notNeg (tallL l k)) ∧ Ext w1 w') :=
    fun w1 x => cReached_any A cap l k w1 (L.ext x) hk0 hk1 (hA.ext x) (by omega) (fun h => hc (by omega)) (fun f hf => by have := hfl f hf; omega)
  have HRR : Hid (∀ w1, Ext w w1 → Calls Tryd.prog 21 #[.slice A l.length cap, .int .i64 k] w1 fun e w' => ∃ v, e = .returned (.tuple #[v, .int .i64 (askE l k)]) ∧ IntsAt w' v (notNeg (tallL l k)) ∧ Ext w1 w') :=
    fun w1 x => rReached_any A cap l k w1 hk0 hk1 (hA.ext x) (by omega) (fun h => hc (by omega)) (fun f hf => by have := hfl f hf; omega)
  have HTL : Hid ((tallL l k).length ≤ 9223372036854775806 ∧ (notNeg (tallL l k)).length ≤ 9223372036854775806) := by
    have h1 : (tallL l k).length ≤ 9223372036854775806 := by
      unfold tallL
      by_cases h0 : askE l k = 0
      · obtain ⟨hce, hk2, hk3⟩ := ask_ok h0
        rw [if_pos h0]
        have := hfl (l.getD k.toNat default) (getD_mem (by omega))
        rw [List.length_map, List.length_range]
        omega
      · rw [if_neg h0]; simp
    exact ⟨h1, Nat.le_trans (notNegTo_len (tallL l k) (tallL l k).length) h1⟩
  obtain ⟨lb, hlb⟩ : ∃ lb, lb = longS l := ⟨_, rfl⟩
  have HLB := Lib.hid hlb
  clear hA hfl hlb wf
  generalize tallL l k = T at HCH HRH HCR HRR HTL
  generalize askE l k = a at HCH HRH HCR HRR
  generalize notNeg T = T2 at HCR HRR HTL
  cases lb
  all_goals
    go_enter Tryd.func5, Tryd.ntmps5
    go_wp2_with (first
      | (go_at_call 8; refine (HLG.out).mono ?_; rw [← HLB.out]; rintro r w' ⟨rfl, rfl⟩)
      | (go_at_call 9; refine (known_any _ (L.ext (by (repeat (first | (with_reducible exact Ext.refl _) | (with_reducible assumption) | (with_reducible refine Ext.alloc ?_ _) | (with_reducible refine Ext.drewN ?_ _) | (with_reducible refine Ext.drew ?_) | (with_reducible refine Ext.setCell ?_ ?_ _; rotate_left; first | assumption | (simp; done) | (simp; omega)) | (with_reducible refine Ext.trans ?_ (by with_reducible assumption))))))).mono ?_; rintro r w9 ⟨rfl, x9⟩)
      | (go_at_call 18; refine (HCH.out).mono ?_; rintro r w1 ⟨v1, rfl, i1, x1⟩; have I1 := Lib.hid i1; clear i1)
      | (go_at_call 19; refine (HRH.out _ (by (repeat (first | (with_reducible exact Ext.refl _) | (with_reducible assumption) | (with_reducible refine Ext.alloc ?_ _) | (with_reducible refine Ext.drewN ?_ _) | (with_reducible refine Ext.drew ?_) | (with_reducible refine Ext.setCell ?_ ?_ _; rotate_left; first | assumption | (simp; done) | (simp; omega)) | (with_reducible refine Ext.trans ?_ (by with_reducible assumption)))))).mono ?_; rintro r w2 ⟨v2, rfl, i2, x2⟩; have I2 := Lib.hid i2; clear i2)
      | (go_at_call 20; refine (HCR.out _ (by (repeat (first | (with_reducible exact Ext.refl _) | (with_reducible assumption) | (with_reducible refine Ext.alloc ?_ _) | (with_reducible refine Ext.drewN ?_ _) | (with_reducible refine Ext.drew ?_) | (with_reducible refine Ext.setCell ?_ ?_ _; rotate_left; first | assumption | (simp; done) | (simp; omega)) | (with_reducible refine Ext.trans ?_ (by with_reducible assumption)))))).mono ?_; rintro r w3 ⟨v3, rfl, i3, x3⟩; have I3 := Lib.hid i3; clear i3)
      | (go_at_call 21; refine (HRR.out _ (by (repeat (first | (with_reducible exact Ext.refl _) | (with_reducible assumption) | (with_reducible refine Ext.alloc ?_ _) | (with_reducible refine Ext.drewN ?_ _) | (with_reducible refine Ext.drew ?_) | (with_reducible refine Ext.setCell ?_ ?_ _; rotate_left; first | assumption | (simp; done) | (simp; omega)) | (with_reducible refine Ext.trans ?_ (by with_reducible assumption)))))).mono ?_; rintro r w4 ⟨v4, rfl, i4, x4⟩; have I4 := Lib.hid i4; clear i4; have tk := True.intro)
      | (go_at_call 22
         have _t := tk
         refine (sameInts_any _ _ _ _ (I1.out.ext (by (repeat (first | (with_reducible exact Ext.refl _) | (with_reducible assumption) | (with_reducible refine Ext.alloc ?_ _) | (with_reducible refine Ext.drewN ?_ _) | (with_reducible refine Ext.drew ?_) | (with_reducible refine Ext.setCell ?_ ?_ _; rotate_left; first | assumption | (simp; done) | (simp; omega)) | (with_reducible refine Ext.trans ?_ (by with_reducible assumption)))))) (I2.out.ext (by (repeat (first | (with_reducible exact Ext.refl _) | (with_reducible assumption) | (with_reducible refine Ext.alloc ?_ _) | (with_reducible refine Ext.drewN ?_ _) | (with_reducible refine Ext.drew ?_) | (with_reducible refine Ext.setCell ?_ ?_ _; rotate_left; first | assumption | (simp; done) | (simp; omega)) | (with_reducible refine Ext.trans ?_ (by with_reducible assumption)))))) HTL.out.1).mono ?_
         rintro r w5 ⟨rfl, x5⟩
         clear tk)
      | (go_at_call 22
         refine (sameInts_any _ _ _ _ (I3.out.ext (by (repeat (first | (with_reducible exact Ext.refl _) | (with_reducible assumption) | (with_reducible refine Ext.alloc ?_ _) | (with_reducible refine Ext.drewN ?_ _) | (with_reducible refine Ext.drew ?_) | (with_reducible refine Ext.setCell ?_ ?_ _; rotate_left; first | assumption | (simp; done) | (simp; omega)) | (with_reducible refine Ext.trans ?_ (by with_reducible assumption)))))) (I4.out.ext (by (repeat (first | (with_reducible exact Ext.refl _) | (with_reducible assumption) | (with_reducible refine Ext.alloc ?_ _) | (with_reducible refine Ext.drewN ?_ _) | (with_reducible refine Ext.drew ?_) | (with_reducible refine Ext.setCell ?_ ?_ _; rotate_left; first | assumption | (simp; done) | (simp; omega)) | (with_reducible refine Ext.trans ?_ (by with_reducible assumption)))))) HTL.out.2).mono ?_
         rintro r w6 ⟨rfl, x6⟩))
    all_goals
      go_ret
      exact ⟨rfl, by (repeat (first | (with_reducible exact Ext.refl _) | (with_reducible assumption) | (with_reducible refine Ext.alloc ?_ _) | (with_reducible refine Ext.drewN ?_ _) | (with_reducible refine Ext.drew ?_) | (with_reducible refine Ext.setCell ?_ ?_ _; rotate_left; first | assumption | (simp; done) | (simp; omega)) | (with_reducible refine Ext.trans ?_ (by with_reducible assumption))))⟩
end Go.Proofs.YtamgalmlhjbbdaaDoor.c
