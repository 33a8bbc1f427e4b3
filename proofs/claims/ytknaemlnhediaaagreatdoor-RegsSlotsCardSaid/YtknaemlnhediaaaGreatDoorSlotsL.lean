/- The law RegsSlots. The table strings.asciiSpace holds what its text lays; lengths are bounded. -/
import Derived.Test.YtknaemlnhediaaaGreatDoorSlotsH
import Derived.Test.YtknaemlnhediaaaGreatDoorSameH
import Derived.Test.YtknaemlnhediaaaGreatDoorGrun2
namespace Go.Proofs.YtknaemlnhediaaaGreatDoor.c
open Go.RowKit
set_option linter.unusedVariables false
set_option maxRecDepth 100000
set_option maxHeartbeats 3200000
set_option linter.unusedSimpArgs false
theorem countR_mulS (l : List Rf) (M : Nat) (h : ∀ f, f ∈ l → f.code.length ≤ M) : countR l ≤ l.length * M := by
  unfold countR
  induction l with
  | nil => simp
  | cons f l ih =>
    have h1 := h f (List.mem_cons_self ..)
    have h2 := ih fun g hg => h g (List.mem_cons_of_mem _ hg)
    rw [List.map_cons, List.sum_cons, List.length_cons, Nat.add_mul]
    omega
theorem sameInts_self (v1 v2 : Value) (L : List Int) (w : World) (h1 : IntsAt w v1 L) (h2 : IntsAt w v2 L) (hl : L.length ≤ 9223372036854775806) :
    Calls Tryz.prog 38 #[v1, v2] w fun e w' => e = .returned (.bool true) ∧ Ext w w' := by
  obtain ⟨A1, c1, rfl, a1⟩ := h1
  obtain ⟨A2, c2, rfl, a2⟩ := h2
  have h := hintsB_any A1 A2 c1 c2 L L w a1 a2 hl hl
  rwa [intsB_self] at h
theorem slotsR_len (l : List Rf) (k : Int) : (slotsR l k).length ≤ 9223372036854775806 := by
  by_cases h0 : numE l k = 0
  · obtain ⟨hv, n, rfl, hn⟩ := numE_ok h0
    obtain ⟨_, _, hgood⟩ := validR_parts hv
    rw [slots_mem (hgood n hn).1 rfl h0 rfl]
    have := memTo_len (slotsL (l.getD n default).code) 300
    omega
  · unfold slotsR
    rw [if_neg h0]
    simp
theorem slotsLaw_any (A B : Option Addr) (ca cb : Nat) (l m : List Rf) {ln mn : Nat} (k : Int) (w : World) (L : Laid w) (hln : ln = l.length) (hmn : mn = m.length) (hA : RfAt w A l) (hB : RfAt w B m) (hl : ln ≤ 140737488355328) (hm : mn ≤ 140737488355328) (hfl : ∀ f, f ∈ l → f.code.length ≤ 140737488355328) (hfm : ∀ f, f ∈ m → f.code.length ≤ 140737488355328) (hil : RgsIn l) (him : RgsIn m) :
    Calls Tryz.prog 8 #[.slice A ln ca, .slice B mn cb, .int .i64 k] w fun e w' => e = .returned (.bool true) ∧ Ext w w' := by
  have hcl : ln ≤ 100 → countR l ≤ 9223372036854775806 := fun h => by
    have h1 := countR_mulS l _ hfl
    have h2 := Nat.mul_le_mul_right 140737488355328 h
    omega
  have hcm : mn ≤ 100 → countR m ≤ 9223372036854775806 := fun h => by
    have h1 := countR_mulS m _ hfm
    have h2 := Nat.mul_le_mul_right 140737488355328 h
    omega
  have sl : ∀ f, f ∈ l → SizesF f := fun f hf => ⟨by have := hfl f hf; omega, fun x hx => (hil f hf x hx).2⟩
  have sm : ∀ f, f ∈ m → SizesF f := fun f hf => ⟨by have := hfm f hf; omega, fun x hx => (him f hf x hx).2⟩
  have HLG : Hid (∀ w1, Ext w w1 → Calls Tryz.prog 18 #[.slice A ln ca] w1 fun e w' => e = .returned (.bool (longR l)) ∧ w1 = w') := fun w1 x => hlong_any A ca l w1 hln (hA.ext x) (by omega) (fun f hf => by have := hfl f hf; omega) hcl
  have HLM : Hid (∀ w1, Ext w w1 → Calls Tryz.prog 18 #[.slice B mn cb] w1 fun e w' => e = .returned (.bool (longR m)) ∧ w1 = w') := fun w1 x => hlong_any B cb m w1 hmn (hB.ext x) (by omega) (fun f hf => by have := hfm f hf; omega) hcm
  have HKN : Hid (∀ w1, Ext w w1 → Calls Tryz.prog 19 #[] w1 fun e w' => e = .returned (.bool true) ∧ Ext w1 w') := fun w1 x => rknown_any w1 (L.ext x)
  have H1 : Hid (∀ w1, Ext w w1 → Calls Tryz.prog 39 #[.slice A ln ca, .int .i64 k] w1 fun e w' => ∃ v, e = .returned (.tuple #[v, .int .i64 (numE l k)]) ∧ IntsAt w' v (slotsR l k) ∧ Ext w1 w') := fun w1 x => gSlots_any A ca l k w1 (L.ext x) hln (hA.ext x) (by omega) (fun h => hcl (by omega)) hil
  have H2 : Hid (∀ w1, Ext w w1 → Calls Tryz.prog 40 #[.slice A ln ca, .int .i64 k] w1 fun e w' => ∃ v, e = .returned (.tuple #[v, .int .i64 (numE l k)]) ∧ IntsAt w' v (slotsR l k) ∧ Ext w1 w') := fun w1 x => hSlots_any A ca l k w1 hln (hA.ext x) (by omega) (fun h => hcl (by omega)) hil
  have H3 : Hid (∀ w1, Ext w w1 → Calls Tryz.prog 41 #[.slice A ln ca] w1 fun e w' => e = .returned (.tuple #[.int .i64 (sizeR l), .int .i64 (validR l)]) ∧ Ext w1 w') := fun w1 x => gSize_any A ca l w1 (L.ext x) hln (hA.ext x) (by omega) (fun h => hcl (by omega)) hil
  have H4 : Hid (∀ w1, Ext w w1 → Calls Tryz.prog 42 #[.slice A ln ca] w1 fun e w' => e = .returned (.tuple #[.int .i64 (sizeR l), .int .i64 (validR l)]) ∧ Ext w1 w') := fun w1 x => hSize_any A ca l w1 hln (hA.ext x) (by omega) (fun h => hcl (by omega)) hil
  have H5 : Hid (∀ w1, Ext w w1 → Calls Tryz.prog 43 #[.slice A ln ca, .slice B mn cb] w1 fun e w' => e = .returned (.bool (sameR l m)) ∧ Ext w1 w') := fun w1 x => gSame_any A B ca cb l m w1 hln hmn (hA.ext x) (hB.ext x) (by omega) (by omega) sl sm
  have H6 : Hid (∀ w1, Ext w w1 → Calls Tryz.prog 44 #[.slice A ln ca, .slice B mn cb] w1 fun e w' => e = .returned (.bool (sameR l m)) ∧ Ext w1 w') := fun w1 x => hSame_any A B ca cb l m w1 hln hmn (hA.ext x) (hB.ext x) (by omega) (by omega) sl sm
  have H7 : Hid (∀ w1, Ext w w1 → Calls Tryz.prog 43 #[.slice A ln ca, .slice A ln ca] w1 fun e w' => e = .returned (.bool true) ∧ Ext w1 w') := fun w1 x => by
    have h := gSame_any A A ca ca l l w1 hln hln (hA.ext x) (hA.ext x) (by omega) (by omega) sl sl
    rwa [sameR_self] at h
  have HS : Hid ((slotsR l k).length ≤ 9223372036854775806) := slotsR_len l k
  obtain ⟨la, hla⟩ : ∃ lb, lb = longR l := ⟨_, rfl⟩
  obtain ⟨lb, hlb⟩ : ∃ lb, lb = longR m := ⟨_, rfl⟩
  obtain ⟨e, he⟩ : ∃ e, e = numE l k := ⟨_, rfl⟩
  obtain ⟨v, hv⟩ : ∃ v, v = validR l := ⟨_, rfl⟩
  obtain ⟨z, hz⟩ : ∃ z, z = sizeR l := ⟨_, rfl⟩
  obtain ⟨sb, hsb⟩ : ∃ z, z = sameR l m := ⟨_, rfl⟩
  obtain ⟨Z, hZ⟩ : ∃ z, z = slotsR l k := ⟨_, rfl⟩
  rw [← hla] at HLG
  rw [← hlb] at HLM
  rw [← he, ← hZ] at H1 H2
  rw [← hv, ← hz] at H3 H4
  rw [← hsb] at H5 H6
  rw [← hZ] at HS
  clear hla hlb he hv hz hsb hZ hA hB hfl hfm hil him hln hmn hcl hcm L sl sm
  cases la
  · cases lb
    · cases sb
      all_goals
        go_enter Tryz.func8, Tryz.ntmps8
        go_wp2_with (first
          | (go_at_call 18; first | (with_reducible refine (HLG.out _ (by (with_reducible repeat first | exact Ext.refl _ | assumption | refine Ext.alloc ?_ _ | refine Ext.drew ?_ | refine Ext.trans ?_ (by assumption)))).mono ?_; rintro r w' ⟨rfl, rfl⟩) | (with_reducible refine (HLM.out _ (by (with_reducible repeat first | exact Ext.refl _ | assumption | refine Ext.alloc ?_ _ | refine Ext.drew ?_ | refine Ext.trans ?_ (by assumption)))).mono ?_; rintro r w' ⟨rfl, rfl⟩))
          | (go_at_call 39; refine (H1.out _ (by (with_reducible repeat first | exact Ext.refl _ | assumption | refine Ext.alloc ?_ _ | refine Ext.drew ?_ | refine Ext.trans ?_ (by assumption)))).mono ?_; rintro r w1 ⟨v1, rfl, i1, x1⟩; have I1 := Lib.hid i1; clear i1)
          | (go_at_call 40; refine (H2.out _ (by (with_reducible repeat first | exact Ext.refl _ | assumption | refine Ext.alloc ?_ _ | refine Ext.drew ?_ | refine Ext.trans ?_ (by assumption)))).mono ?_; rintro r w2 ⟨v2, rfl, i2, x2⟩; have I2 := Lib.hid i2; clear i2)
          | (go_at_call 41; refine (H3.out _ (by (with_reducible repeat first | exact Ext.refl _ | assumption | refine Ext.alloc ?_ _ | refine Ext.drew ?_ | refine Ext.trans ?_ (by assumption)))).mono ?_; rintro r w3 ⟨rfl, x3⟩)
          | (go_at_call 42; refine (H4.out _ (by (with_reducible repeat first | exact Ext.refl _ | assumption | refine Ext.alloc ?_ _ | refine Ext.drew ?_ | refine Ext.trans ?_ (by assumption)))).mono ?_; rintro r w4 ⟨rfl, x4⟩)
          | (go_at_call 38; refine (sameInts_self v1 v2 Z _ (I1.out.ext ((x2.trans x3).trans x4)) (I2.out.ext (x3.trans x4)) HS.out).mono ?_; rintro r w5 ⟨rfl, x5⟩)
          | (go_at_call 43; first | (with_reducible refine (H5.out _ (by (with_reducible repeat first | exact Ext.refl _ | assumption | refine Ext.alloc ?_ _ | refine Ext.drew ?_ | refine Ext.trans ?_ (by assumption)))).mono ?_; rintro r w6 ⟨rfl, x6⟩) | (with_reducible refine (H7.out _ (by (with_reducible repeat first | exact Ext.refl _ | assumption | refine Ext.alloc ?_ _ | refine Ext.drew ?_ | refine Ext.trans ?_ (by assumption)))).mono ?_; rintro r w9 ⟨rfl, x9⟩))
          | (go_at_call 44; refine (H6.out _ (by (with_reducible repeat first | exact Ext.refl _ | assumption | refine Ext.alloc ?_ _ | refine Ext.drew ?_ | refine Ext.trans ?_ (by assumption)))).mono ?_; rintro r w7 ⟨rfl, x7⟩)
          | (go_at_call 19; refine (HKN.out _ (by (with_reducible repeat first | exact Ext.refl _ | assumption | refine Ext.alloc ?_ _ | refine Ext.drew ?_ | refine Ext.trans ?_ (by assumption)))).mono ?_; rintro r w8 ⟨rfl, x8⟩))
        go_ret
        exact ⟨rfl, by (with_reducible repeat first | exact Ext.refl _ | assumption | refine Ext.alloc ?_ _ | refine Ext.drew ?_ | refine Ext.trans ?_ (by assumption))⟩
    · go_enter Tryz.func8, Tryz.ntmps8
      go_wp2_with (first
        | (go_at_call 18; first | (with_reducible refine (HLG.out _ (by (with_reducible repeat first | exact Ext.refl _ | assumption | refine Ext.alloc ?_ _ | refine Ext.drew ?_ | refine Ext.trans ?_ (by assumption)))).mono ?_; rintro r w' ⟨rfl, rfl⟩) | (with_reducible refine (HLM.out _ (by (with_reducible repeat first | exact Ext.refl _ | assumption | refine Ext.alloc ?_ _ | refine Ext.drew ?_ | refine Ext.trans ?_ (by assumption)))).mono ?_; rintro r w' ⟨rfl, rfl⟩))
        | (go_at_call 19; refine (HKN.out _ (by (with_reducible repeat first | exact Ext.refl _ | assumption | refine Ext.alloc ?_ _ | refine Ext.drew ?_ | refine Ext.trans ?_ (by assumption)))).mono ?_; rintro r w8 ⟨rfl, x8⟩))
      go_ret
      exact ⟨rfl, by (with_reducible repeat first | exact Ext.refl _ | assumption | refine Ext.alloc ?_ _ | refine Ext.drew ?_ | refine Ext.trans ?_ (by assumption))⟩
  · go_enter Tryz.func8, Tryz.ntmps8
    go_wp2_with (first
      | (go_at_call 18; refine (HLG.out _ (by (with_reducible repeat first | exact Ext.refl _ | assumption | refine Ext.alloc ?_ _ | refine Ext.drew ?_ | refine Ext.trans ?_ (by assumption)))).mono ?_; rintro r w' ⟨rfl, rfl⟩)
      | (go_at_call 19; refine (HKN.out _ (by (with_reducible repeat first | exact Ext.refl _ | assumption | refine Ext.alloc ?_ _ | refine Ext.drew ?_ | refine Ext.trans ?_ (by assumption)))).mono ?_; rintro r w8 ⟨rfl, x8⟩))
    go_ret
    exact ⟨rfl, by (with_reducible repeat first | exact Ext.refl _ | assumption | refine Ext.alloc ?_ _ | refine Ext.drew ?_ | refine Ext.trans ?_ (by assumption))⟩
end Go.Proofs.YtknaemlnhediaaaGreatDoor.c
