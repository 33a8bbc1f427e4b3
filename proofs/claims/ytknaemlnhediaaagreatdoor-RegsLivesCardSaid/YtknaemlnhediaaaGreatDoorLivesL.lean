/- The law RegsLives. The table strings.asciiSpace holds what its text lays; lengths are bounded. -/
import Derived.Test.YtknaemlnhediaaaGreatDoorGlives
import Derived.Test.YtknaemlnhediaaaGreatDoorHlives
import Derived.Test.YtknaemlnhediaaaGreatDoorKcall
namespace Go.Proofs.YtknaemlnhediaaaGreatDoor.c
open Go.RowKit
set_option linter.unusedVariables false
set_option maxRecDepth 100000
set_option maxHeartbeats 3200000
set_option linter.unusedSimpArgs false
theorem lsize_any (A : Option Addr) (cap : Nat) (l : List Rf) {len : Nat} (w : World) (hlen : len = l.length) (hA : RfAt w A l) (hl : len ≤ 9223372036854775806) (hc : countR l ≤ 9223372036854775806) :
  Calls Tryz.prog 48 #[.slice A len cap] w fun e w' => e = .returned (.int .i64 (countR l)) ∧ w = w' := by
 have HLn := Lib.hid hlen
 clear hlen
 have HA := Lib.hid hA
 clear hA
 go_enter Tryz.func48, Tryz.ntmps48
 go_wp2
 go_loop [3, 4] (fun n i => ∃ k : Nat, k ≤ len ∧ i = .int .i64 k ∧ n = .int .i64 (countR (l.take k))) (fun _ i => len - (intOf i).toNat)
 case atStart => exact ⟨0, Nat.zero_le _, rfl, rfl⟩
 case round =>
  obtain ⟨k, hk, rfl, rfl⟩ := hrel
  have hcl := countR_le l k
  by_cases hlt : k < len
  ·obtain ⟨f, hf⟩ : ∃ f, f = l.getD k default := ⟨_, rfl⟩
   obtain ⟨b, off, rfl, hb, _, _, _, _, _, _, _, _, c8, _⟩ := HA.out.at_ (k := k) (by rw [← HLn.out]; exact hlt) hf
   have hs := countR_snoc l k (by rw [← HLn.out]; exact hlt)
   rw [← hf] at hs
   have hs1 := countR_le l (k + 1)
   have HS := Lib.hid hs
   have hs2 : countR (l.take k) + f.code.length ≤ 9223372036854775806 := by omega
   clear hf hs hs1
   go_wp2_with fail
   go_round
   case rel => exact ⟨k + 1, by omega, by go_num, by rw [HS.out]; go_num⟩
   case measure => simp [intOf]; omega
  ·go_wp2_with fail
   go_ret
   exact ⟨ret_int (by rw [List.take_of_length_le (by have := HLn.out; omega)]), rfl⟩
theorem livesR_len (l : List Rf) (k : Int) : (livesR l k).length ≤ 9223372036854775806 ∧ ∀ i, i < (livesR l k).length → ((livesR l k).getD i []).length ≤ 9223372036854775806 := by
 unfold livesR
 by_cases h : numE l k = 0
 ·rw [if_pos h]
  obtain ⟨hv, n, rfl, hn⟩ := numE_ok h
  have hf := ((validR_parts hv).2.2 n hn).1.few
  rw [Int.toNat_natCast]
  refine ⟨by rw [livesL_len]; omega, fun i hi => ?_⟩
  rw [livesL_len] at hi
  have e : (livesL (l.getD n default).code (l.getD n default).code.length 6).getD i [] = liveTo (l.getD n default).code i 6 := by
   unfold livesL
   rw [List.getD, List.getElem?_map, List.getElem?_range hi]
   rfl
  rw [e]
  have := liveTo_len (l.getD n default).code i 6
  omega
 ·rw [if_neg h]
  exact ⟨by decide, fun i hi => by cases hi⟩
theorem deadR_len (l : List Rf) (k : Int) : (deadR l k).length ≤ 9223372036854775806 := by
 unfold deadR
 by_cases h : numE l k = 0
 ·rw [if_pos h]
  obtain ⟨hv, n, rfl, hn⟩ := numE_ok h
  have hf := ((validR_parts hv).2.2 n hn).1.few
  rw [Int.toNat_natCast]
  have := deadTo_len (l.getD n default).code (l.getD n default).code.length
  omega
 ·rw [if_neg h]
  decide
theorem countR_mulV (l : List Rf) (M : Nat) (h : ∀ f, f ∈ l → f.code.length ≤ M) : countR l ≤ l.length * M := by
 induction l with
 | nil => exact Nat.zero_le _
 | cons f l ih =>
  have h1 := ih fun g hg => h g (List.mem_cons_of_mem _ hg)
  have h2 := h f (List.mem_cons_self ..)
  rw [List.length_cons, Nat.succ_mul]
  have h3 : countR (f :: l) = f.code.length + countR l := by simp [countR]
  omega
theorem lives_any (A : Option Addr) (ca : Nat) (l : List Rf) {ln : Nat} (k : Int) (w : World) (L : Laid w) (hln : ln = l.length) (hA : RfAt w A l) (hl : ln ≤ 140737488355328) (hfl : ∀ f, f ∈ l → f.code.length ≤ 140737488355328) (hin : RgsIn l) :
  Calls Tryz.prog 10 #[.slice A ln ca, .int .i64 k] w fun e w' => e = .returned (.bool true) ∧ Ext w w' := by
 have hcl : ln ≤ 100 → countR l ≤ 9223372036854775806 := fun h => by
  have h1 := countR_mulV l _ hfl
  have h2 := Nat.mul_le_mul_right 140737488355328 h
  omega
 have HLG : Hid (∀ w1, Ext w w1 → Calls Tryz.prog 18 #[.slice A ln ca] w1 fun e w' => e = .returned (.bool (longR l)) ∧ w1 = w') := fun w1 x => hlong_any A ca l w1 hln (hA.ext x) (by omega) (fun f hf => by have := hfl f hf; omega) hcl
 have HKN : Hid (∀ w1, Ext w w1 → Calls Tryz.prog 19 #[] w1 fun e w' => e = .returned (.bool true) ∧ Ext w1 w') := fun w1 x => rknown_any w1 (L.ext x)
 have HSZ : Hid (ln ≤ 100 → ∀ w1, Ext w w1 → Calls Tryz.prog 48 #[.slice A ln ca] w1 fun e w' => e = .returned (.int .i64 (countR l)) ∧ w1 = w') := fun h w1 x => lsize_any A ca l w1 hln (hA.ext x) (by omega) (hcl h)
 have H1 : Hid (∀ w1, Ext w w1 → Calls Tryz.prog 49 #[.slice A ln ca, .int .i64 k] w1 fun e w' => ∃ v, e = .returned (.tuple #[v, .int .i64 (numE l k)]) ∧ LsAt w' v (livesR l k) ∧ Ext w1 w') := fun w1 x => gLive_any A ca l k w1 (L.ext x) hln (hA.ext x) (by omega) (fun h => hcl (by omega)) hin
 have H2 : Hid (∀ w1, Ext w w1 → Calls Tryz.prog 50 #[.slice A ln ca, .int .i64 k] w1 fun e w' => ∃ v, e = .returned (.tuple #[v, .int .i64 (numE l k)]) ∧ LsAt w' v (livesR l k) ∧ Ext w1 w') := fun w1 x => hLive_any A ca l k w1 hln (hA.ext x) (by omega) (fun h => hcl (by omega)) hin
 have H3 : Hid (∀ w1, Ext w w1 → Calls Tryz.prog 51 #[.slice A ln ca, .int .i64 k] w1 fun e w' => ∃ v, e = .returned (.tuple #[v, .int .i64 (numE l k)]) ∧ IntsAt w' v (deadR l k) ∧ Ext w1 w') := fun w1 x => gDead_any A ca l k w1 (L.ext x) hln (hA.ext x) (by omega) (fun h => hcl (by omega)) hin
 have H4 : Hid (∀ w1, Ext w w1 → Calls Tryz.prog 52 #[.slice A ln ca, .int .i64 k] w1 fun e w' => ∃ v, e = .returned (.tuple #[v, .int .i64 (numE l k)]) ∧ IntsAt w' v (deadR l k) ∧ Ext w1 w') := fun w1 x => hDead_any A ca l k w1 hln (hA.ext x) (by omega) (fun h => hcl (by omega)) hin
 have HS1 := Lib.hid (livesR_len l k)
 have HS2 : Hid ((deadR l k).length ≤ 9223372036854775806) := deadR_len l k
 have HLN : Hid (longR l = false → ln ≤ 100) := fun h => by
  unfold longR at h
  simp only [Bool.or_eq_false_iff, decide_eq_false_iff_not] at h
  have := h.2.1
  omega
 obtain ⟨la, hla⟩ : ∃ lb, lb = longR l := ⟨_, rfl⟩
 obtain ⟨e, he⟩ : ∃ e, e = numE l k := ⟨_, rfl⟩
 obtain ⟨Z, hZ⟩ : ∃ z, z = livesR l k := ⟨_, rfl⟩
 obtain ⟨Y, hY⟩ : ∃ z, z = deadR l k := ⟨_, rfl⟩
 obtain ⟨cn, hcn⟩ : ∃ z, z = countR l := ⟨_, rfl⟩
 rw [← hla] at HLG HLN
 rw [← hcn] at HSZ
 rw [← he] at H1 H2 H3 H4
 rw [← hZ] at H1 H2 HS1
 rw [← hY] at H3 H4 HS2
 clear hla he hZ hY hcn hA hfl hin hln hcl L
 cases la
 ·have HSY := Lib.hid (HSZ.out (HLN.out rfl))
  clear HSZ HLN
  by_cases h2 : (200 : Int) < (cn : Int)
  ·go_enter Tryz.func10, Tryz.ntmps10
   go_wp2_with (first
    | (go_at_call 18; refine (HLG.out _ exA).mono ?_; rintro r w' ⟨rfl, rfl⟩)
    | (go_at_call 48; refine (HSY.out _ exA).mono ?_; rintro r w' ⟨rfl, rfl⟩)
    | (go_at_call 19; refine (HKN.out _ exA).mono ?_; rintro r w8 ⟨rfl, x8⟩))
   go_ret
   exact ⟨rfl, exA⟩
  ·go_enter Tryz.func10, Tryz.ntmps10
   go_wp2_with (first
    | (go_at_call 18; refine (HLG.out _ exA).mono ?_; rintro r w' ⟨rfl, rfl⟩)
    | (go_at_call 48; refine (HSY.out _ exA).mono ?_; rintro r w' ⟨rfl, rfl⟩)
    | (go_at_call 49; refine (H1.out _ exA).mono ?_; rintro r w1 ⟨v1, rfl, i1, x1⟩; have I1 := Lib.hid i1; clear i1)
    | (go_at_call 50; refine (H2.out _ exA).mono ?_; rintro r w2 ⟨v2, rfl, i2, x2⟩; have I2 := Lib.hid i2; clear i2)
    | (go_at_call 51; refine (H3.out _ exA).mono ?_; rintro r w3 ⟨v3, rfl, i3, x3⟩; have I3 := Lib.hid i3; clear i3)
    | (go_at_call 52; refine (H4.out _ exA).mono ?_; rintro r w4 ⟨v4, rfl, i4, x4⟩; have I4 := Lib.hid i4; clear i4)
    | (go_at_call 53; refine (hsameLists_any v1 v2 Z _ (I1.out.ext ((x2.trans x3).trans x4)) (I2.out.ext (x3.trans x4)) HS1.out.1 HS1.out.2).mono ?_; rintro r w5 ⟨rfl, x5⟩)
    | (go_at_call 38; refine (hsameInts_any v3 v4 Y _ (I3.out.ext (x4.trans x5)) (I4.out.ext x5) HS2.out).mono ?_; rintro r w6 ⟨rfl, x6⟩)
    | (go_at_call 19; refine (HKN.out _ exA).mono ?_; rintro r w8 ⟨rfl, x8⟩))
   go_ret
   exact ⟨rfl, exA⟩
 ·clear HSZ HLN H1 H2 H3 H4
  go_enter Tryz.func10, Tryz.ntmps10
  go_wp2_with (first
   | (go_at_call 18; refine (HLG.out _ exA).mono ?_; rintro r w' ⟨rfl, rfl⟩)
   | (go_at_call 19; refine (HKN.out _ exA).mono ?_; rintro r w8 ⟨rfl, x8⟩))
  go_ret
  exact ⟨rfl, exA⟩
end Go.Proofs.YtknaemlnhediaaaGreatDoor.c
