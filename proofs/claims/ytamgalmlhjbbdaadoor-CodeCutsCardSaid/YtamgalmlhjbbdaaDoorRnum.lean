/- Contracts of the reference's functions on numbers' texts: based, Decimal, TypeName, Read. Conditions: bounds on the numbers. -/
import Derived.Test.YtamgalmlhjbbdaaDoorNum
namespace Go.Proofs.YtamgalmlhjbbdaaDoor.c
open Go.RowKit
set_option linter.unusedVariables false
set_option linter.unusedSimpArgs false

theorem ext_dg (i : Nat) (h : i < 16) : (⟨#[48, 49, 50, 51, 52, 53, 54, 55, 56, 57, 97, 98, 99, 100, 101, 102]⟩ : ByteArray).extract i (i + 1) = ⟨#[dg i]⟩ := by
  have : ∀ i : Fin 16, (⟨#[48, 49, 50, 51, 52, 53, 54, 55, 56, 57, 97, 98, 99, 100, 101, 102]⟩ : ByteArray).extract i.1 (i.1 + 1) = ⟨#[dg i.1]⟩ := by decide
  exact this ⟨i, h⟩

set_option maxRecDepth 100000 in
set_option maxHeartbeats 1600000 in
theorem based_nat (b m : Nat) (w : World) (hb : 2 ≤ b) (hb2 : b ≤ 16) (hm : m ≤ 4611686018427387904) :
    Calls Tryd.prog 102 #[.int .i64 m, .int .i64 b] w fun e w' => e = .returned (.string ⟨(wr b m).toArray⟩) ∧ Ext w w' := by
  have HL := Lib.hid (wr_len b m)
  go_enter Tryd.func102, Tryd.ntmps102
  go_wp2_with fail
  go_loopw [0, 5] (fun n o wr' => ∃ (k : Nat) (t : List UInt8), k ≤ 4611686018427387904 ∧ n = .int .i64 k ∧ o = .string ⟨t.toArray⟩ ∧ wr b k ++ t = wr b m ∧ Ext w wr') (fun n _ _ => (intOf n).toNat)
  case atStart => exact ⟨m, [], by omega, rfl, rfl, by simp, Ext.refl _⟩
  case round =>
    obtain ⟨k, t, hk, rfl, rfl, ht, hx⟩ := hrel
    have htl : t.length ≤ 4611686018427387905 := by
      have h1 := congrArg List.length ht
      rw [List.length_append] at h1
      have := HL.out
      omega
    have HT := Lib.hid ht; clear ht
    by_cases hlt : b ≤ k
    · have hi : 0 ≤ (k : Int) % (b : Int) := Int.emod_nonneg _ (by omega)
      have hi2 : (k : Int) % (b : Int) < 16 := Int.lt_of_lt_of_le (Int.emod_lt_of_pos _ (by omega)) (by omega)
      have hi3 : k % b < 16 := by omega
      have hq : (k : Int) / (b : Int) ≤ 4611686018427387904 := Int.le_trans (Int.ediv_le_self _ (by omega)) (by omega)
      have hq0 : 0 ≤ (k : Int) / (b : Int) := Int.ediv_nonneg (by omega) (by omega)
      have hes := ext_dg (k % b) hi3
      go_wp2_with fail
      go_quiet (fail)
      go_wp2_with fail
      go_roundw
      case rel => exact ⟨k / b, dg (k % b) :: t, by exact Nat.le_trans (Nat.div_le_self _ _) hk, rfl, by rfl, by rw [← HT.out, wr_big hb hlt, List.append_assoc]; rfl, hx.drewN _⟩
      case measure =>
        simp [intOf]
        exact Nat.div_lt_self (by omega) (by omega)
    · have hes := ext_dg k (by omega)
      have hi : 0 ≤ (k : Int) ∧ (k : Int) < 16 := by omega
      go_wp2_with fail
      go_ret
      exact ⟨ret_str (by rw [← HT.out, wr_small (by omega)] <;> rfl), hx⟩

/-- the reference's text of a number that is not below 0, in decimal digits -/
theorem decimal_nat (m : Nat) (M : Int) (hM : M = m) (w : World) (hm : m ≤ 4611686018427387904) :
    Calls Tryd.prog 92 #[.int .i64 M] w fun e w' => e = .returned (.string ⟨(wr 10 m).toArray⟩) ∧ Ext w w' := by
  subst hM
  have H := Lib.hid (fun w => based_nat 10 m w (by omega) (by omega) hm)
  go_enter Tryd.func92, Tryd.ntmps92
  go_wp2_with fail
  refine (H.out _).mono ?_
  rintro e w1 ⟨rfl, x1⟩
  go_wp2_with fail
  go_ret
  exact ⟨rfl, x1⟩

def tname (s : Bool) (n : Nat) : List UInt8 := (if s then 105 else 117) :: wr 10 n
set_option maxRecDepth 100000 in
set_option maxHeartbeats 1600000 in
theorem typeName_any (s : Bool) (m : Nat) (M : Int) (hM : M = m) (w : World) (hm : m ≤ 46116860184273879) :
    Calls Tryd.prog 81 #[.agg #[.bool s, .int .i64 M]] w fun e w' => e = .returned (.string ⟨(tname s m).toArray⟩) ∧ Ext w w' := by
  have HM := Lib.hid hM
  clear hM
  have HL := wr_len 10 m
  have hl : (wr 10 m).length ≤ 9223372036854775800 := by omega
  clear HL
  cases s
  all_goals
    go_enter Tryd.func81, Tryd.ntmps81
    go_wp2_with (first | (go_at_call 92; refine (decimal_nat m _ HM.out _ (by omega)).mono ?_; rintro e w1 ⟨rfl, x1⟩))
    go_ret
    exact ⟨ret_str rfl, by (first | ((repeat (first | (with_reducible exact Ext.refl _) | (with_reducible assumption) | (with_reducible refine Ext.alloc ?_ _) | (with_reducible refine Ext.drewN ?_ _) | (with_reducible refine Ext.drew ?_) | (with_reducible refine Ext.setCell ?_ ?_ _; rotate_left; first | assumption | (simp; done) | (simp; omega)) | (with_reducible refine Ext.trans ?_ (by with_reducible assumption)))); done) | (repeat (first | exact Ext.refl _ | assumption | refine Ext.alloc ?_ _ | refine Ext.drewN ?_ _ | refine Ext.drew ?_ | refine Ext.setCell ?_ (by first | assumption | (simp; done) | (simp; omega)) _ | refine Ext.trans ?_ (by assumption))))⟩

/-- the type of a name, as the reference finds it -/
def rread (l : List UInt8) : Bool × Int × Int :=
  match (List.range 31).find? (fun k => tname false (k + 1) == l || tname true (k + 1) == l) with
  | none => (false, 0, 2)
  | some k => (!(tname false (k + 1) == l), ((k + 1 : Nat) : Int), 0)
set_option maxRecDepth 100000 in
set_option maxHeartbeats 1600000 in
theorem refRead_any (s : ByteArray) (w : World) :
    Calls Tryd.prog 64 #[.string s] w fun e w' => e = .returned (.tuple #[.agg #[.bool (rread s.data.toList).1, .int .i64 (rread s.data.toList).2.1], .int .i64 (rread s.data.toList).2.2]) ∧ Ext w w' := by
  go_enter Tryd.func64, Tryd.ntmps64
  go_wp2_with fail
  go_loopw [4] (fun v wr => ∃ k : Nat, k ≤ 31 ∧ v = .int .i64 ((k : Int) + 1) ∧ (∀ j, j < k → (tname false (j + 1) == s.data.toList || tname true (j + 1) == s.data.toList) = false) ∧ Ext w wr ∧ Blk wr w.heap.size 97 #[.bool false, .int .i64 0]) (fun v _ => 40 - (intOf v).toNat)
  case atStart => exact ⟨0, by omega, rfl, by omega, by (first | ((repeat (first | (with_reducible exact Ext.refl _) | (with_reducible assumption) | (with_reducible refine Ext.alloc ?_ _) | (with_reducible refine Ext.drewN ?_ _) | (with_reducible refine Ext.drew ?_) | (with_reducible refine Ext.setCell ?_ ?_ _; rotate_left; first | assumption | (simp; done) | (simp; omega)) | (with_reducible refine Ext.trans ?_ (by with_reducible assumption)))); done) | (repeat (first | exact Ext.refl _ | assumption | refine Ext.alloc ?_ _ | refine Ext.drewN ?_ _ | refine Ext.drew ?_ | refine Ext.setCell ?_ (by first | assumption | (simp; done) | (simp; omega)) _ | refine Ext.trans ?_ (by assumption)))), Blk.new _ _ _⟩
  case round =>
    obtain ⟨k, hk, rfl, hno, hx, hb⟩ := hrel
    have HN := Lib.hid hno
    clear hno
    have HB := Lib.hid hb
    have hbl := hb.lt
    clear hb
    by_cases hlt : k < 31
    · have hd : ((k : Int) + 1 ≤ 31) := by omega
      have HS : Hid (∀ b : Bool, (tname false (k + 1) == s.data.toList || tname true (k + 1) == s.data.toList) = b → ∀ j, j < k + 1 → b = false → (tname false (j + 1) == s.data.toList || tname true (j + 1) == s.data.toList) = false) := by
        intro b hb j hj he
        rcases Nat.lt_or_ge j k with h | h
        · exact HN.out j h
        · obtain rfl : j = k := by omega
          rw [hb, he]
      have HF : Hid ((tname false (k + 1) == s.data.toList || tname true (k + 1) == s.data.toList) = true → rread s.data.toList = (!(tname false (k + 1) == s.data.toList), ((k + 1 : Nat) : Int), 0)) := by
        intro h
        have : (List.range 31).find? (fun k => tname false (k + 1) == s.data.toList || tname true (k + 1) == s.data.toList) = some k := by
          rw [List.find?_range_eq_some]
          exact ⟨h, by simpa using hlt, fun j hj => by rw [HN.out j hj]; rfl⟩
        unfold rread
        rw [this]
      go_wp2_with (first
        | (go_at_call 81; (with_reducible refine (typeName_any false (k + 1) _ (by omega) _ (by omega)).mono ?_); rintro e w1 ⟨rfl, x1⟩; have HB1 := Lib.hid (((HB.out.alloc _).alloc _).ext x1); have p0 := HB1.out.cell 0; have p1 := HB1.out.cell 1; have q0 := HB1.out.frozen 0; have q1 := HB1.out.frozen 1; simp only [List.getElem?_toArray, List.getElem?_cons_zero, List.getElem?_cons_succ] at p0 p1; have HT1 := Lib.hid ((Blk.new (wr.alloc _) _ _).ext x1); have r0 := HT1.out.cell 0; have r1 := HT1.out.cell 1; have HU1 := Lib.hid (((Blk.new wr _ _).alloc _).ext x1); have u0 := HU1.out.cell 0; have u1 := HU1.out.cell 1; simp only [List.getElem?_toArray, List.getElem?_cons_zero, List.getElem?_cons_succ, size_alloc] at r0 r1 u0 u1)
        | (go_at_call 81; (with_reducible refine (typeName_any true (k + 1) _ (by omega) _ (by omega)).mono ?_); rintro e w2 ⟨rfl, x2⟩; have HB2 := Lib.hid (HB1.out.ext x2); have p0 := HB2.out.cell 0; have p1 := HB2.out.cell 1; have q0 := HB2.out.frozen 0; have q1 := HB2.out.frozen 1; simp only [List.getElem?_toArray, List.getElem?_cons_zero, List.getElem?_cons_succ] at p0 p1; have HT2 := Lib.hid (HT1.out.ext x2); have r0 := HT2.out.cell 0; have r1 := HT2.out.cell 1; simp only [List.getElem?_toArray, List.getElem?_cons_zero, List.getElem?_cons_succ, size_alloc] at r0 r1))
      case roundEnd =>
        have e1 : (tname false (k + 1) == s.toList) = false := by assumption
        have e2 : (tname true (k + 1) == s.toList) = false := by assumption
        rw [Lib.toList_data] at e1 e2
        refine ⟨⟨k + 1, by omega, by go_num, fun j hj => HS.out false (by rw [e1, e2]; rfl) j hj rfl, by (first | ((repeat (first | (with_reducible exact Ext.refl _) | (with_reducible assumption) | (with_reducible refine Ext.alloc ?_ _) | (with_reducible refine Ext.drewN ?_ _) | (with_reducible refine Ext.drew ?_) | (with_reducible refine Ext.setCell ?_ ?_ _; rotate_left; first | assumption | (simp; done) | (simp; omega)) | (with_reducible refine Ext.trans ?_ (by with_reducible assumption)))); done) | (repeat (first | exact Ext.refl _ | assumption | refine Ext.alloc ?_ _ | refine Ext.drewN ?_ _ | refine Ext.drew ?_ | refine Ext.setCell ?_ (by first | assumption | (simp; done) | (simp; omega)) _ | refine Ext.trans ?_ (by assumption)))), HB2.out⟩, by simp [intOf]; omega⟩
      all_goals
        first
          | (have e1 : (tname false (k + 1) == s.toList) = true := by assumption
             rw [Lib.toList_data] at e1
             exact bodyPost_ret (v := .tuple #[.agg #[.bool false, .int .i64 ((k : Int) + 1)], .int .i64 0]) (by simp [results, Tryd.results64, go_sem, *]) rfl ⟨by rw [HF.out (by rw [e1]; rfl), e1]; rfl, by (first | ((repeat (first | (with_reducible exact Ext.refl _) | (with_reducible assumption) | (with_reducible refine Ext.alloc ?_ _) | (with_reducible refine Ext.drewN ?_ _) | (with_reducible refine Ext.drew ?_) | (with_reducible refine Ext.setCell ?_ ?_ _; rotate_left; first | assumption | (simp; done) | (simp; omega)) | (with_reducible refine Ext.trans ?_ (by with_reducible assumption)))); done) | (repeat (first | exact Ext.refl _ | assumption | refine Ext.alloc ?_ _ | refine Ext.drewN ?_ _ | refine Ext.drew ?_ | refine Ext.setCell ?_ (by first | assumption | (simp; done) | (simp; omega)) _ | refine Ext.trans ?_ (by assumption))))⟩)
          | (have e1 : (tname false (k + 1) == s.toList) = false := by assumption
             have e2 : (tname true (k + 1) == s.toList) = true := by assumption
             rw [Lib.toList_data] at e1 e2
             exact bodyPost_ret (v := .tuple #[.agg #[.bool true, .int .i64 ((k : Int) + 1)], .int .i64 0]) (by simp [results, Tryd.results64, go_sem, *]) rfl ⟨by rw [HF.out (by rw [e1, e2]; rfl), e1]; rfl, by (first | ((repeat (first | (with_reducible exact Ext.refl _) | (with_reducible assumption) | (with_reducible refine Ext.alloc ?_ _) | (with_reducible refine Ext.drewN ?_ _) | (with_reducible refine Ext.drew ?_) | (with_reducible refine Ext.setCell ?_ ?_ _; rotate_left; first | assumption | (simp; done) | (simp; omega)) | (with_reducible refine Ext.trans ?_ (by with_reducible assumption)))); done) | (repeat (first | exact Ext.refl _ | assumption | refine Ext.alloc ?_ _ | refine Ext.drewN ?_ _ | refine Ext.drew ?_ | refine Ext.setCell ?_ (by first | assumption | (simp; done) | (simp; omega)) _ | refine Ext.trans ?_ (by assumption))))⟩)
    · have hd : ¬ ((k : Int) + 1 ≤ 31) := by omega
      have HF : Hid (rread s.data.toList = (false, 0, 2)) := by
        have : (List.range 31).find? (fun k => tname false (k + 1) == s.data.toList || tname true (k + 1) == s.data.toList) = none := by
          rw [List.find?_range_eq_none]
          exact fun j hj => by rw [HN.out j (by omega)]; rfl
        unfold Hid rread
        rw [this]
      have hx1 := hx
      have p0 := HB.out.cell 0
      have p1 := HB.out.cell 1
      have q0 := HB.out.frozen 0
      have q1 := HB.out.frozen 1
      simp only [List.getElem?_toArray, List.getElem?_cons_zero, List.getElem?_cons_succ] at p0 p1
      go_wp2_with fail
      exact bodyPost_ret (v := .tuple #[.agg #[.bool false, .int .i64 0], .int .i64 2]) (by simp [results, Tryd.results64, go_sem, *]) rfl ⟨by rw [HF.out], by (first | ((repeat (first | (with_reducible exact Ext.refl _) | (with_reducible assumption) | (with_reducible refine Ext.alloc ?_ _) | (with_reducible refine Ext.drewN ?_ _) | (with_reducible refine Ext.drew ?_) | (with_reducible refine Ext.setCell ?_ ?_ _; rotate_left; first | assumption | (simp; done) | (simp; omega)) | (with_reducible refine Ext.trans ?_ (by with_reducible assumption)))); done) | (repeat (first | exact Ext.refl _ | assumption | refine Ext.alloc ?_ _ | refine Ext.drewN ?_ _ | refine Ext.drew ?_ | refine Ext.setCell ?_ (by first | assumption | (simp; done) | (simp; omega)) _ | refine Ext.trans ?_ (by assumption))))⟩
end Go.Proofs.YtamgalmlhjbbdaaDoor.c
