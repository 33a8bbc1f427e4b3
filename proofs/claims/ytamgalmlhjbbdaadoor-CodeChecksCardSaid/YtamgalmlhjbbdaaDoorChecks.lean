/- The law CodeChecks. The table strings.asciiSpace holds what its text lays; lengths are bounded. -/
import Derived.Test.YtamgalmlhjbbdaaDoorKnown
import Derived.Test.YtamgalmlhjbbdaaDoorRsound
import Derived.Test.YtamgalmlhjbbdaaDoorFinds
namespace Go.Proofs.YtamgalmlhjbbdaaDoor.c
open Go.RowKit
set_option linter.unusedVariables false
set_option linter.unusedSimpArgs false
set_option maxRecDepth 100000 in
set_option maxHeartbeats 1600000 in
theorem checks_any (A : Option Addr) (cap : Nat) (l : List Fc) (w : World) (L : Laid w) (hA : FcAt w A l) (hl : l.length ≤ 140737488355328) (hfl : ∀ f, f ∈ l → f.code.length ≤ 140737488355328) :
    Calls Tryd.prog 3 #[.slice A l.length cap] w fun e w' => e = .returned (.bool true) ∧ Ext w w' := by
  have hc : l.length ≤ 100 → countS l ≤ 9223372036854775806 := fun h => by
    have h1 := count_mul l _ hfl
    have h2 := Nat.mul_le_mul_right 140737488355328 h
    omega
  have HA := Lib.hid hA
  have HLG := Lib.hid (long_any A cap l w hA (by omega) hc)
  have HCC : Hid (∀ w1, Ext w w1 → Calls Tryd.prog 10 #[.slice A l.length cap] w1 fun e w' => e = .returned (.tuple #[.int .i64 (checkE l).1, .int .i64 (checkE l).2.1, .int .i64 (checkE l).2.2]) ∧ Ext w1 w') :=
    fun w1 x => cCheck_any A cap l w1 (L.ext x) (hA.ext x) (by omega) (fun h => hc (by omega)) (fun f hf => by have := hfl f hf; omega)
  have HRC : Hid (∀ w1, Ext w w1 → Calls Tryd.prog 11 #[.slice A l.length cap] w1 fun e w' => e = .returned (.tuple #[.int .i64 (checkE l).1, .int .i64 (checkE l).2.1, .int .i64 (checkE l).2.2]) ∧ Ext w1 w') :=
    fun w1 x => rCheck_any A cap l w1 (hA.ext x) (by omega) (fun h => hc (by omega)) (fun f hf => by have := hfl f hf; omega)
  have HCS : Hid (∀ w1, Ext w w1 → Calls Tryd.prog 12 #[.slice A l.length cap] w1 fun e w' => e = .returned (.tuple #[.int .i64 (sizeE l).1, .int .i64 (sizeE l).2]) ∧ Ext w1 w') :=
    fun w1 x => cSize_any A cap l w1 (L.ext x) (hA.ext x) (by omega) (fun h => hc (by omega)) (fun f hf => by have := hfl f hf; omega) (fun hv => by have := (valid_parts hv).2.1; omega)
  have HRS : Hid (∀ w1, Ext w w1 → Calls Tryd.prog 13 #[.slice A l.length cap] w1 fun e w' => e = .returned (.tuple #[.int .i64 (sizeE l).1, .int .i64 (sizeE l).2]) ∧ Ext w1 w') :=
    fun w1 x => rSize_any A cap l w1 (hA.ext x) (by omega) (fun h => hc (by omega)) (fun f hf => by have := hfl f hf; omega) (fun hv => by have := (valid_parts hv).2.1; omega)
  have HCV : Hid (∀ w1, Ext w w1 → Calls Tryd.prog 14 #[.slice A l.length cap] w1 fun e w' => e = .returned (.int .i64 (validS l)) ∧ Ext w1 w') :=
    fun w1 x => cValidate_any A cap l w1 (L.ext x) (hA.ext x) (by omega) (fun h => hc (by omega)) (fun f hf => by have := hfl f hf; omega)
  have HRV : Hid (∀ w1, Ext w w1 → Calls Tryd.prog 15 #[.slice A l.length cap] w1 fun e w' => e = .returned (.int .i64 (validS l)) ∧ Ext w1 w') :=
    fun w1 x => rValidate_any A cap l w1 (hA.ext x) (by omega) (fun h => hc (by omega)) (fun f hf => by have := hfl f hf; omega)
  obtain ⟨lb, hlb⟩ : ∃ lb, lb = longS l := ⟨_, rfl⟩
  have HLB := Lib.hid hlb
  clear hA hfl hlb
  generalize checkE l = ce at HCC HRC
  generalize sizeE l = se at HCS HRS
  generalize validS l = ve at HCV HRV
  obtain ⟨e1, e2, e3⟩ := ce
  obtain ⟨s1, s2⟩ := se
  cases lb
  all_goals
    go_enter Tryd.func3, Tryd.ntmps3
    go_wp2_with (first
      | (go_at_call 8; refine (HLG.out).mono ?_; rw [← HLB.out]; rintro r w' ⟨rfl, rfl⟩)
      | (go_at_call 9; refine (known_any _ (L.ext (by (repeat (first | (with_reducible exact Ext.refl _) | (with_reducible assumption) | (with_reducible refine Ext.alloc ?_ _) | (with_reducible refine Ext.drewN ?_ _) | (with_reducible refine Ext.drew ?_) | (with_reducible refine Ext.setCell ?_ ?_ _; rotate_left; first | assumption | (simp; done) | (simp; omega)) | (with_reducible refine Ext.trans ?_ (by with_reducible assumption))))))).mono ?_; rintro r w9 ⟨rfl, x9⟩)
      | (go_at_call 10; refine (HCC.out _ (by (repeat (first | (with_reducible exact Ext.refl _) | (with_reducible assumption) | (with_reducible refine Ext.alloc ?_ _) | (with_reducible refine Ext.drewN ?_ _) | (with_reducible refine Ext.drew ?_) | (with_reducible refine Ext.setCell ?_ ?_ _; rotate_left; first | assumption | (simp; done) | (simp; omega)) | (with_reducible refine Ext.trans ?_ (by with_reducible assumption)))))).mono ?_; rintro r w1 ⟨rfl, x1⟩)
      | (go_at_call 11; refine (HRC.out _ (by (repeat (first | (with_reducible exact Ext.refl _) | (with_reducible assumption) | (with_reducible refine Ext.alloc ?_ _) | (with_reducible refine Ext.drewN ?_ _) | (with_reducible refine Ext.drew ?_) | (with_reducible refine Ext.setCell ?_ ?_ _; rotate_left; first | assumption | (simp; done) | (simp; omega)) | (with_reducible refine Ext.trans ?_ (by with_reducible assumption)))))).mono ?_; rintro r w2 ⟨rfl, x2⟩)
      | (go_at_call 12; refine (HCS.out _ (by (repeat (first | (with_reducible exact Ext.refl _) | (with_reducible assumption) | (with_reducible refine Ext.alloc ?_ _) | (with_reducible refine Ext.drewN ?_ _) | (with_reducible refine Ext.drew ?_) | (with_reducible refine Ext.setCell ?_ ?_ _; rotate_left; first | assumption | (simp; done) | (simp; omega)) | (with_reducible refine Ext.trans ?_ (by with_reducible assumption)))))).mono ?_; rintro r w3 ⟨rfl, x3⟩)
      | (go_at_call 13; refine (HRS.out _ (by (repeat (first | (with_reducible exact Ext.refl _) | (with_reducible assumption) | (with_reducible refine Ext.alloc ?_ _) | (with_reducible refine Ext.drewN ?_ _) | (with_reducible refine Ext.drew ?_) | (with_reducible refine Ext.setCell ?_ ?_ _; rotate_left; first | assumption | (simp; done) | (simp; omega)) | (with_reducible refine Ext.trans ?_ (by with_reducible assumption)))))).mono ?_; rintro r w4 ⟨rfl, x4⟩)
      | (go_at_call 14; refine (HCV.out _ (by (repeat (first | (with_reducible exact Ext.refl _) | (with_reducible assumption) | (with_reducible refine Ext.alloc ?_ _) | (with_reducible refine Ext.drewN ?_ _) | (with_reducible refine Ext.drew ?_) | (with_reducible refine Ext.setCell ?_ ?_ _; rotate_left; first | assumption | (simp; done) | (simp; omega)) | (with_reducible refine Ext.trans ?_ (by with_reducible assumption)))))).mono ?_; rintro r w5 ⟨rfl, x5⟩)
      | (go_at_call 15; refine (HRV.out _ (by (repeat (first | (with_reducible exact Ext.refl _) | (with_reducible assumption) | (with_reducible refine Ext.alloc ?_ _) | (with_reducible refine Ext.drewN ?_ _) | (with_reducible refine Ext.drew ?_) | (with_reducible refine Ext.setCell ?_ ?_ _; rotate_left; first | assumption | (simp; done) | (simp; omega)) | (with_reducible refine Ext.trans ?_ (by with_reducible assumption)))))).mono ?_; rintro r w6 ⟨rfl, x6⟩))
    all_goals
      go_ret
      exact ⟨rfl, by (repeat (first | (with_reducible exact Ext.refl _) | (with_reducible assumption) | (with_reducible refine Ext.alloc ?_ _) | (with_reducible refine Ext.drewN ?_ _) | (with_reducible refine Ext.drew ?_) | (with_reducible refine Ext.setCell ?_ ?_ _; rotate_left; first | assumption | (simp; done) | (simp; omega)) | (with_reducible refine Ext.trans ?_ (by with_reducible assumption))))⟩
end Go.Proofs.YtamgalmlhjbbdaaDoor.c
