/- The law RegsRuns. The table strings.asciiSpace holds what its text lays; lengths are bounded. -/
import Derived.Test.YtknaemlnhediaaaGreatDoorGrun2
import Derived.Test.YtknaemlnhediaaaGreatDoorHrun
import Derived.Test.YtknaemlnhediaaaGreatDoorHval
namespace Go.Proofs.YtknaemlnhediaaaGreatDoor.c
open Go.RowKit
set_option linter.unusedVariables false
set_option maxRecDepth 100000
set_option maxHeartbeats 12800000
set_option linter.unusedSimpArgs false
theorem countR_mul (l : List Rf) (M : Nat) (h : ∀ f, f ∈ l → f.code.length ≤ M) : countR l ≤ l.length * M := by
  unfold countR
  induction l with
  | nil => simp
  | cons f l ih =>
    have h1 := h f (List.mem_cons_self ..)
    have h2 := ih fun g hg => h g (List.mem_cons_of_mem _ hg)
    rw [List.map_cons, List.sum_cons, List.length_cons, Nat.add_mul]
    omega
theorem runs_any (A : Option Addr) (cap : Nat) (l : List Rf) {len : Nat} (nm : ByteArray) (vA : Option Addr) (vc : Nat) (av : List Val) {na : Nat} (ck : Bool) (w : World) (L : Laid w) (hlen : len = l.length) (hna : na = av.length) (hA : RfAt w A l) (hV : ValsAt w vA av) (hl : len ≤ 140737488355328) (hfl : ∀ f, f ∈ l → f.code.length ≤ 140737488355328) (hin : RgsIn l) (hna2 : na ≤ 140737488355328) :
    Calls Tryz.prog 4 #[.slice A len cap, .agg #[.string nm, .slice vA na vc, .bool ck]] w fun e w' => e = .returned (.bool true) ∧ Ext w w' := by
  have hc : len ≤ 100 → countR l ≤ 9223372036854775806 := fun h => by
    have h1 := countR_mul l _ hfl
    have h2 := Nat.mul_le_mul_right 140737488355328 h
    omega
  have HL := Lib.hid L
  have HLG : Hid (∀ w1, Ext w w1 → Calls Tryz.prog 18 #[.slice A len cap] w1 fun e w' => e = .returned (.bool (longR l)) ∧ w1 = w') := fun w1 x => hlong_any A cap l w1 hlen (hA.ext x) (by omega) (fun f hf => by have := hfl f hf; omega) hc
  have HGR : Hid (na ≤ 100 → ∀ w1, Ext w w1 → Calls Tryz.prog 20 #[.slice A len cap, .string nm, .slice vA na vc, .bool ck] w1 fun e w' => e = .returned (.tuple #[.agg (outC (outR l nm av ck).1), .int .i64 (runE l nm av)]) ∧ Ext w1 w') :=
    fun h w1 x => gRun_any A cap l nm vA vc av ck w1 (L.ext x) hlen hna (hA.ext x) (hV.ext x) (by omega) (by omega) (fun h => hc (by omega)) hin
  have HGS : Hid (na ≤ 100 → ∀ w1, Ext w w1 → Calls Tryz.prog 22 #[.slice A len cap, .string nm, .slice vA na vc, .bool ck] w1 fun e w' => e = .returned (.tuple #[.int .i64 ((outR l nm av ck).2 : Nat), .int .i64 (runE l nm av)]) ∧ Ext w1 w') :=
    fun h w1 x => gSteps_any A cap l nm vA vc av ck w1 (L.ext x) hlen hna (hA.ext x) (hV.ext x) (by omega) (by omega) (fun h => hc (by omega)) hin
  have HHR : Hid (na ≤ 100 → ∀ w1, Ext w w1 → Calls Tryz.prog 21 #[.slice A len cap, .string nm, .slice vA na vc, .bool ck] w1 fun e w' => e = .returned (.tuple #[.agg (outC (outR l nm av ck).1), .int .i64 (runE l nm av)]) ∧ Ext w1 w') :=
    fun h w1 x => hRun_any A cap l nm vA vc av ck w1 hlen hna (hA.ext x) (hV.ext x) (by omega) (by omega) (fun h => hc (by omega)) hin
  have HHS : Hid (na ≤ 100 → ∀ w1, Ext w w1 → Calls Tryz.prog 23 #[.slice A len cap, .string nm, .slice vA na vc, .bool ck] w1 fun e w' => e = .returned (.tuple #[.int .i64 ((outR l nm av ck).2 : Nat), .int .i64 (runE l nm av)]) ∧ Ext w1 w') :=
    fun h w1 x => hSteps_any A cap l nm vA vc av ck w1 hlen hna (hA.ext x) (hV.ext x) (by omega) (by omega) (fun h => hc (by omega)) hin
  have HGV : Hid (∀ w1, Ext w w1 → Calls Tryz.prog 24 #[.slice A len cap] w1 fun e w' => e = .returned (.int .i64 (validR l)) ∧ Ext w1 w') := fun w1 x => by
    have h := gValidate_any A cap l w1 (L.ext x) (hA.ext x) (by omega) (fun h => hc (by omega)) hin
    rwa [← hlen] at h
  have HHV : Hid (∀ w1, Ext w w1 → Calls Tryz.prog 25 #[.slice A len cap] w1 fun e w' => e = .returned (.int .i64 (validR l)) ∧ Ext w1 w') := fun w1 x => hValidate_any A cap l w1 hlen (hA.ext x) (by omega) (fun h => hc (by omega)) hin
  have HKN : Hid (∀ w1, Ext w w1 → Calls Tryz.prog 19 #[] w1 fun e w' => e = .returned (.bool true) ∧ Ext w1 w') := fun w1 x => rknown_any w1 (L.ext x)
  obtain ⟨k, y, u, _, he2⟩ := enC_split (outR l nm av ck).1
  rw [he2] at HGR HHR
  obtain ⟨st, hst⟩ : ∃ st : Int, st = ((outR l nm av ck).2 : Nat) := ⟨_, rfl⟩
  rw [← hst] at HGS HHS
  obtain ⟨lb, hlb⟩ : ∃ lb, lb = longR l := ⟨_, rfl⟩
  obtain ⟨e, he⟩ : ∃ e, e = runE l nm av := ⟨_, rfl⟩
  obtain ⟨v, hv⟩ : ∃ v, v = validR l := ⟨_, rfl⟩
  rw [← hlb] at HLG
  rw [← he] at HGR HGS HHR HHS
  rw [← hv] at HGV HHV
  clear hlb he hv hst he2 hA hV hfl hin hlen hna hc L
  by_cases hn : na ≤ 100
  · have HG1 := Lib.hid (HGR.out hn)
    have HG2 := Lib.hid (HGS.out hn)
    have HH1 := Lib.hid (HHR.out hn)
    have HH2 := Lib.hid (HHS.out hn)
    have hn2 : ¬ (100 : Int) < (na : Int) := by omega
    clear HGR HGS HHR HHS
    cases lb
    · go_enter Tryz.func4, Tryz.ntmps4
      go_wp2_with (first
        | (go_at_call 18; refine (HLG.out _ (by (with_reducible repeat first | exact Ext.refl _ | assumption | refine Ext.alloc ?_ _ | refine Ext.drew ?_ | refine Ext.trans ?_ (by assumption)))).mono ?_; rintro r w' ⟨rfl, rfl⟩)
        | (go_at_call 20; refine (HG1.out _ (by (with_reducible repeat first | exact Ext.refl _ | assumption | refine Ext.alloc ?_ _ | refine Ext.drew ?_ | refine Ext.trans ?_ (by assumption)))).mono ?_; rintro r w1 ⟨rfl, x1⟩; have y1 := x1.facts; have z1 : w.heap.size < w1.heap.size := (by have h := x1.size; simp at h; omega))
        | (go_at_call 21; refine (HH1.out _ (by (with_reducible repeat first | exact Ext.refl _ | assumption | refine Ext.alloc ?_ _ | refine Ext.drew ?_ | refine Ext.trans ?_ (by assumption)))).mono ?_; rintro r w2 ⟨rfl, x2⟩; have y2 := x2.facts; have z2 : w1.heap.size < w2.heap.size := (by have h := x2.size; simp at h; omega); have z2b : w.heap.size < w2.heap.size := (by omega))
        | (go_at_call 22; refine (HG2.out _ (by (with_reducible repeat first | exact Ext.refl _ | assumption | refine Ext.alloc ?_ _ | refine Ext.drew ?_ | refine Ext.trans ?_ (by assumption)))).mono ?_; rintro r w3 ⟨rfl, x3⟩; have y3 := x3.facts; have z3 : w2.heap.size < w3.heap.size := (by have h := x3.size; simp at h; omega); have z3b : w1.heap.size < w3.heap.size := (by omega); have z3c : w.heap.size < w3.heap.size := (by omega))
        | (go_at_call 23; refine (HH2.out _ (by (with_reducible repeat first | exact Ext.refl _ | assumption | refine Ext.alloc ?_ _ | refine Ext.drew ?_ | refine Ext.trans ?_ (by assumption)))).mono ?_; rintro r w4 ⟨rfl, x4⟩; have y4 := x4.facts; have z4 : w2.heap.size < w4.heap.size := (by have h := x4.size; omega); have z4b : w1.heap.size < w4.heap.size := (by omega); have z4c : w.heap.size < w4.heap.size := (by omega))
        | (go_at_call 24; refine (HGV.out _ (by (with_reducible repeat first | exact Ext.refl _ | assumption | refine Ext.alloc ?_ _ | refine Ext.drew ?_ | refine Ext.trans ?_ (by assumption)))).mono ?_; rintro r w5 ⟨rfl, x5⟩; have y5 := x5.facts; have z5 : w2.heap.size < w5.heap.size := (by have h := x5.size; omega); have z5b : w1.heap.size < w5.heap.size := (by omega))
        | (go_at_call 25; refine (HHV.out _ (by (with_reducible repeat first | exact Ext.refl _ | assumption | refine Ext.alloc ?_ _ | refine Ext.drew ?_ | refine Ext.trans ?_ (by assumption)))).mono ?_; rintro r w6 ⟨rfl, x6⟩; have y6 := x6.facts; have z6 : w2.heap.size < w6.heap.size := (by have h := x6.size; omega); have z6b : w1.heap.size < w6.heap.size := (by omega))
        | (go_at_call 26; refine (same_any _ _ _ _).mono ?_; rintro r w7 ⟨rfl, x7⟩)
        | (go_at_call 19; refine (HKN.out _ (by (with_reducible repeat first | exact Ext.refl _ | assumption | refine Ext.alloc ?_ _ | refine Ext.drew ?_ | refine Ext.trans ?_ (by assumption)))).mono ?_; rintro r w8 ⟨rfl, x8⟩))
      go_ret
      exact ⟨rfl, by (with_reducible repeat first | exact Ext.refl _ | assumption | refine Ext.alloc ?_ _ | refine Ext.drew ?_ | refine Ext.trans ?_ (by assumption))⟩
    · go_enter Tryz.func4, Tryz.ntmps4
      go_wp2_with (first
        | (go_at_call 18; refine (HLG.out _ (by (with_reducible repeat first | exact Ext.refl _ | assumption | refine Ext.alloc ?_ _ | refine Ext.drew ?_ | refine Ext.trans ?_ (by assumption)))).mono ?_; rintro r w' ⟨rfl, rfl⟩)
        | (go_at_call 19; refine (HKN.out _ (by (with_reducible repeat first | exact Ext.refl _ | assumption | refine Ext.alloc ?_ _ | refine Ext.drew ?_ | refine Ext.trans ?_ (by assumption)))).mono ?_; rintro r w8 ⟨rfl, x8⟩))
      go_ret
      exact ⟨rfl, by (with_reducible repeat first | exact Ext.refl _ | assumption | refine Ext.alloc ?_ _ | refine Ext.drew ?_ | refine Ext.trans ?_ (by assumption))⟩
  · have hn2 : (100 : Int) < (na : Int) := by omega
    cases lb
    all_goals
      go_enter Tryz.func4, Tryz.ntmps4
      go_wp2_with (first
        | (go_at_call 18; refine (HLG.out _ (by (with_reducible repeat first | exact Ext.refl _ | assumption | refine Ext.alloc ?_ _ | refine Ext.drew ?_ | refine Ext.trans ?_ (by assumption)))).mono ?_; rintro r w' ⟨rfl, rfl⟩)
        | (go_at_call 19; refine (HKN.out _ (by (with_reducible repeat first | exact Ext.refl _ | assumption | refine Ext.alloc ?_ _ | refine Ext.drew ?_ | refine Ext.trans ?_ (by assumption)))).mono ?_; rintro r w8 ⟨rfl, x8⟩))
      go_ret
      exact ⟨rfl, by (with_reducible repeat first | exact Ext.refl _ | assumption | refine Ext.alloc ?_ _ | refine Ext.drew ?_ | refine Ext.trans ?_ (by assumption))⟩
end Go.Proofs.YtknaemlnhediaaaGreatDoor.c
