/- Contracts of the reference's numbered, Size, Slots. The table strings.asciiSpace holds what its text lays; lengths are bounded. -/
import Derived.Test.YtknaemlnhediaaaGreatDoorSlots
import Derived.Test.YtknaemlnhediaaaGreatDoorSortc
import Derived.Test.YtknaemlnhediaaaGreatDoorHval
namespace Go.Proofs.YtknaemlnhediaaaGreatDoor.c
open Go.RowKit
set_option linter.unusedVariables false
set_option maxRecDepth 100000
set_option maxHeartbeats 1600000
set_option linter.unusedSimpArgs false
theorem hnumbered_any (A : Option Addr) (cap : Nat) (l : List Rf) {len : Nat} (k : Int) (w : World) (hlen : len = l.length) (hA : RfAt w A l) (hl : len ≤ 9223372036854775806) (hc : len ≤ 48 → countR l ≤ 9223372036854775806) (hin : RgsIn l) :
  Calls Tryz.prog 107 #[.slice A len cap, .int .i64 k] w fun e w' => e = .returned (.int .i64 (numE l k)) ∧ Ext w w' := by
 have HV := Lib.hid (hValidate_any A cap l w hlen hA hl hc hin)
 have HLn := Lib.hid hlen
 obtain ⟨v, hv⟩ : ∃ v, validR l = v := ⟨_, rfl⟩
 rw [hv] at HV
 have HVV := Lib.hid hv
 clear hv hlen hA hc hin
 by_cases h0 : v = 0
 ·subst h0
  have hsub : IntKind.i64.wrap ((len : Int) - 1) = (len : Int) - 1 := IntWalk.i64_in _ (by omega)
  obtain ⟨ib, hib⟩ : ∃ ib, inB k 0 ((len : Int) - 1) = ib := ⟨_, rfl⟩
  have HW : Hid (∀ w1, Calls Tryz.prog 81 #[.int .i64 k, .int .i64 0, .int .i64 ((len : Int) - 1)] w1 fun e w' => e = .returned (.bool ib) ∧ w1 = w') := fun w1 => by
   have h := hwithin_any k 0 ((len : Int) - 1) w1
   rwa [hib] at h
  have HN : Hid (numE l k = if ib = true then 0 else 4) := by
   unfold Hid
   cases ib
   ·rw [numE_out HLn.out HVV.out, if_neg (by decide)]
    have : ¬ (0 ≤ k ∧ k ≤ (len : Int) - 1) := fun h => by rw [inB_iff.2 h] at hib; cases hib
    omega
   ·have h := inB_iff.1 hib
    rw [numE_in HLn.out HVV.out (by omega) (by omega), if_pos rfl]
  rw [HN.out]
  clear hib HN
  cases ib
  all_goals
   go_enter Tryz.func107, Tryz.ntmps107
   go_wp2_with (first
    | (go_at_call 25; refine (HV.out).mono ?_; rintro r w1 ⟨rfl, x1⟩)
    | (go_at_call 81; refine (HW.out _).mono ?_; rintro r w' ⟨rfl, rfl⟩))
   go_ret
   exact ⟨rfl, x1⟩
 ·rw [numE_bad HLn.out HVV.out h0]
  have hb : (v != 0) = true := by simpa using h0
  go_enter Tryz.func107, Tryz.ntmps107
  go_wp2_with (first | (go_at_call 25; refine (HV.out).mono ?_; rintro r w1 ⟨rfl, x1⟩))
  go_ret
  exact ⟨rfl, x1⟩
end Go.Proofs.YtknaemlnhediaaaGreatDoor.c
