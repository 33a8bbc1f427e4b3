/- Contracts of the functions of package code that look at an instruction: within, isPlain, isInt, index, shapeOf, isFunc's closure. The table strings.asciiSpace holds what its text lays. -/
import Derived.Test.YtamgalmlhjbbdaaDoorData
import Derived.StillTailTactics
import Derived.Deep.RegionHeld3
namespace Go.Proofs.YtamgalmlhjbbdaaDoor.c
open Go.RowKit
set_option linter.unusedVariables false
set_option linter.unusedSimpArgs false

def inB (a lo hi : Int) : Bool := decide (lo ≤ a) && decide (a ≤ hi)
/-- the type is the zero one -/
def tz (t : Ty) : Bool := t.base == 0 && (t.bits == 0 && (emp t.name && (!t.opt && !t.err)))
def isPlainS (t : Ty) : Bool := isTypeS t && !t.opt && !t.err
def isIntS (t : Ty) : Bool := isPlainS t && (t.base == 2 || t.base == 3)
def pushS (t : Ty) : Bool := isIntS t || (isPlainS t && decide (t.base ≤ 1))
/-- the number of the first function with a name; -1 if there is none -/
def indexS (l : List Fc) (n : ByteArray) : Int := findI (fun k => (l.getD k default).name.toList == n.toList) l.length
/-- what is right of an instruction; none if it has no operation -/
def shapeS (l : List Fc) (f : Fc) (x : Cd) : Option (Bool × Bool × Bool × Bool) :=
  if x.op = 0 then some (inB x.a (-2147483648) 2147483648, x.b == 0, pushS x.ty, emp x.name)
  else if x.op = 2 ∨ x.op = 3 then some (inB x.a 0 (wrap64 (f.places - 1)), x.b == 0, tz x.ty, emp x.name)
  else if x.op = 5 then some (inB x.a 5 17, x.b == 0, isIntS x.ty, emp x.name)
  else if x.op = 6 then some (inB x.a 18 23, x.b == 0, tz x.ty, emp x.name)
  else if x.op = 7 ∨ x.op = 9 ∨ x.op = 10 then some (x.a == 0, x.b == 0, isIntS x.ty, emp x.name)
  else if x.op = 12 ∨ x.op = 13 ∨ x.op = 14 ∨ x.op = 15 then some (inB x.a 0 ((f.code.length : Int) - 1), x.b == 0, tz x.ty, emp x.name)
  else if x.op = 16 then some (x.a == 0, decide (0 ≤ indexS l x.name) && x.b == (l.getD (indexS l x.name).toNat default).params, tz x.ty, decide (0 ≤ indexS l x.name))
  else if x.op = 18 then some (x.a == 0, x.b == 0, tz x.ty, isNameS x.name)
  else if x.op = 19 then some (inB x.a 1 5, x.b == 0, tz x.ty, emp x.name)
  else if x.op = 1 ∨ x.op = 4 ∨ x.op = 8 ∨ x.op = 11 ∨ x.op = 17 then some (x.a == 0, x.b == 0, tz x.ty, emp x.name)
  else none

theorem run_tz_eql (t : Ty) (w : World) : (binOp .eql 47 (.agg #[.int .i64 t.base, .int .i64 t.bits, .string t.name, .bool t.opt, .bool t.err]) (.agg #[.int .i64 0, .int .i64 0, .string ⟨#[]⟩, .bool false, .bool false])).run Tryd.prog w = .ok (.bool (tz t)) w := by
  obtain ⟨a, b, n, o, e⟩ := t
  go_simp
  unfold tz emp
  by_cases h1 : a = 0
  · by_cases h2 : b = 0
    · by_cases h3 : n.toList = []
      · cases o <;> cases e <;> simp [h1, h2, h3]
      · simp [h1, h2, h3]
    · simp [h1, h2]
  · simp [h1]
theorem run_tz_neq (t : Ty) (w : World) : (binOp .neq 47 (.agg #[.int .i64 t.base, .int .i64 t.bits, .string t.name, .bool t.opt, .bool t.err]) (.agg #[.int .i64 0, .int .i64 0, .string ⟨#[]⟩, .bool false, .bool false])).run Tryd.prog w = .ok (.bool (!tz t)) w := by
  obtain ⟨a, b, n, o, e⟩ := t
  go_simp
  unfold tz emp
  by_cases h1 : a = 0
  · by_cases h2 : b = 0
    · by_cases h3 : n.toList = []
      · cases o <;> cases e <;> simp [h1, h2, h3]
      · simp [h1, h2, h3]
    · simp [h1, h2]
  · simp [h1]

set_option maxRecDepth 100000 in
set_option maxHeartbeats 1600000 in
theorem within_any (a b c : Int) (w : World) :
    Calls Tryd.prog 56 #[.int .i64 a, .int .i64 b, .int .i64 c] w fun e w' => e = .returned (.bool (inB a b c)) ∧ w = w' := by
  go_enter Tryd.func56, Tryd.ntmps56
  go_wp2
  all_goals (go_ret; exact ⟨ret_bool (by unfold inB; rw [Bool.eq_iff_iff]; simp; omega), rfl⟩)
set_option maxRecDepth 100000 in
set_option maxHeartbeats 1600000 in
theorem isPlain_any (a b : Int) (n : ByteArray) (o e : Bool) (w : World) (g : Laid w) :
    Calls Tryd.prog 78 #[.agg #[.int .i64 a, .int .i64 b, .string n, .bool o, .bool e]] w fun r w' => r = .returned (.bool (isPlainS ⟨a, b, n, o, e⟩)) ∧ Ext w w' := by
  cases h : isTypeS ⟨a, b, n, o, e⟩
  all_goals
    go_enter Tryd.func78, Tryd.ntmps78
    go_wp2_with (first
      | (go_at_call 57; refine (validateType_any _ _ _ _ _ _ (g.ext (by (repeat (first | (with_reducible exact Ext.refl _) | (with_reducible assumption) | (with_reducible refine Ext.alloc ?_ _) | (with_reducible refine Ext.drewN ?_ _) | (with_reducible refine Ext.drew ?_) | (with_reducible refine Ext.setCell ?_ ?_ _; rotate_left; first | assumption | (simp; done) | (simp; omega)) | (with_reducible refine Ext.trans ?_ (by with_reducible assumption))))))).mono ?_; rw [h]; rintro r w1 ⟨rfl, x1⟩; have y1 := x1.facts; have z1 := x1.z0))
    all_goals
      go_ret
      exact ⟨ret_bool (by unfold isPlainS; rw [h]; simp [*]), by (repeat (first | (with_reducible exact Ext.refl _) | (with_reducible assumption) | (with_reducible refine Ext.alloc ?_ _) | (with_reducible refine Ext.drewN ?_ _) | (with_reducible refine Ext.drew ?_) | (with_reducible refine Ext.setCell ?_ ?_ _; rotate_left; first | assumption | (simp; done) | (simp; omega)) | (with_reducible refine Ext.trans ?_ (by with_reducible assumption))))⟩
set_option maxRecDepth 100000 in
set_option maxHeartbeats 1600000 in
theorem isInt_any (a b : Int) (n : ByteArray) (o e : Bool) (w : World) (g : Laid w) :
    Calls Tryd.prog 77 #[.agg #[.int .i64 a, .int .i64 b, .string n, .bool o, .bool e]] w fun r w' => r = .returned (.bool (isIntS ⟨a, b, n, o, e⟩)) ∧ Ext w w' := by
  cases h : isPlainS ⟨a, b, n, o, e⟩
  all_goals
    have HH := Lib.hid h
    clear h
    go_enter Tryd.func77, Tryd.ntmps77
    go_wp2_with (first
      | (go_at_call 78; refine (isPlain_any _ _ _ _ _ _ (g.ext (by (repeat (first | (with_reducible exact Ext.refl _) | (with_reducible assumption) | (with_reducible refine Ext.alloc ?_ _) | (with_reducible refine Ext.drewN ?_ _) | (with_reducible refine Ext.drew ?_) | (with_reducible refine Ext.setCell ?_ ?_ _; rotate_left; first | assumption | (simp; done) | (simp; omega)) | (with_reducible refine Ext.trans ?_ (by with_reducible assumption))))))).mono ?_; rw [HH.out]; rintro r w1 ⟨rfl, x1⟩; have y1 := x1.facts; have z1 := x1.z0))
    all_goals
      go_ret
      exact ⟨ret_bool (by unfold isIntS; rw [HH.out]; simp [*]), by (repeat (first | (with_reducible exact Ext.refl _) | (with_reducible assumption) | (with_reducible refine Ext.alloc ?_ _) | (with_reducible refine Ext.drewN ?_ _) | (with_reducible refine Ext.drew ?_) | (with_reducible refine Ext.setCell ?_ ?_ _; rotate_left; first | assumption | (simp; done) | (simp; omega)) | (with_reducible refine Ext.trans ?_ (by with_reducible assumption))))⟩

set_option maxRecDepth 100000 in
set_option maxHeartbeats 1600000 in
theorem indexFunc_any (A : Option Addr) (n cap : Nat) (K : Nat) (caps : Array Value) (w : World) (hn : n ≤ 9223372036854775807)
    (c : Nat → Nat → Value) (hA : At w A n 9 c) (hK : Enters K) (p : Nat → Bool)
    (hp : ∀ i w1, i < n → Ext w w1 → Calls Tryd.prog K (#[.agg #[c i 0, c i 1, c i 2, c i 3, c i 4, c i 5, c i 6, c i 7, c i 8]] ++ caps) w1 fun e w2 => e = .returned (.bool (p i)) ∧ Ext w1 w2) :
    Calls Tryd.prog 54 #[.slice A n cap, .func (.func K) #[] caps] w fun e w' => e = .returned (.int .i64 (findI p n)) ∧ Ext w w' := by
  have HP := Lib.hid hp; clear hp
  go_enter Tryd.func54, Tryd.ntmps54
  go_wp2
  go_loopw [5, 8] (fun _ i wr => ∃ k : Nat, k ≤ n ∧ i = .int .i64 k ∧ (∀ j, j < k → p j = false) ∧ Ext w wr) (fun _ i _ => n - (intOf i).toNat)
  case atStart => exact ⟨0, Nat.zero_le _, rfl, by omega, Ext.refl _⟩
  case round =>
    obtain ⟨k, hk, rfl, hnone, hx⟩ := hrel
    have HN := Lib.hid hnone; clear hnone
    by_cases hlt : k < n
    · obtain ⟨b, off, rfl, hb, c0, c1, c2, c3, c4, c5, c6, c7, c8⟩ := (hA.ext hx).nine hlt
      go_wp2_with fail
      have HP1 := Lib.hid (HP.out k wr hlt hx)
      simp only [hK _ _]
      go_wp2_with fail
      refine (HP1.out).mono ?_
      rintro e w1 ⟨rfl, x1⟩
      cases hpk : p k
      · go_wp2_with fail
        go_roundw
        case rel => exact ⟨k + 1, by omega, by go_num, (fun j hj => by rcases Nat.lt_or_ge j k with h | h; exact HN.out j h; obtain rfl : j = k := by omega
                                                                       exact hpk), hx.trans x1⟩
        case measure => simp [intOf]; omega
      · go_wp2_with fail
        go_ret
        exact ⟨ret_int (findI_hit hlt hpk HN.out).symm, hx.trans x1⟩
    · go_wp2_with fail
      go_ret
      exact ⟨ret_int (findI_none (fun j hj => HN.out j (by omega))).symm, hx⟩

theorem enters_index1 : Enters 61 := Enters.of Tryd.func61 (by kernel_rfl) (by kernel_rfl)
set_option maxRecDepth 100000 in
set_option maxHeartbeats 1600000 in
theorem index1_any (f : Fc) (bn : Nat) (n : ByteArray) (w : World) (hc : w.cell? ⟨bn, 0, none⟩ = some (.string n)) (hb : bn < w.heap.size) :
    Calls Tryd.prog 61 #[f.val, .pointer (some ⟨bn, 0, none⟩)] w fun e w' => e = .returned (.bool (f.name.toList == n.toList)) ∧ Ext w w' := by
  unfold Fc.val
  go_enter Tryd.func61, Tryd.ntmps61
  go_wp2
  go_ret
  exact ⟨rfl, by (repeat (first | (with_reducible exact Ext.refl _) | (with_reducible assumption) | (with_reducible refine Ext.alloc ?_ _) | (with_reducible refine Ext.drewN ?_ _) | (with_reducible refine Ext.drew ?_) | (with_reducible refine Ext.setCell ?_ ?_ _; rotate_left; first | assumption | (simp; done) | (simp; omega)) | (with_reducible refine Ext.trans ?_ (by with_reducible assumption))))⟩
set_option maxRecDepth 100000 in
set_option maxHeartbeats 1600000 in
theorem index_any (A : Option Addr) (cap : Nat) (l : List Fc) (n : ByteArray) (w : World) (hA : FcAt w A l) (hl : l.length ≤ 9223372036854775807) :
    Calls Tryd.prog 36 #[.slice A l.length cap, .string n] w fun e w' => e = .returned (.int .i64 (indexS l n)) ∧ Ext w w' := by
  go_enter Tryd.func36, Tryd.ntmps36
  go_wp2_with fail
  refine (indexFunc_any A l.length cap 61 #[.pointer (some ⟨w.heap.size, 0, none⟩)] _ hl (fun i j => fcC (l.getD i default) j) (hA.top.ext ((Ext.refl _).alloc _)) enters_index1 (fun k => (l.getD k default).name.toList == n.toList) (fun i w1 hi x => ?_)).mono ?_
  · exact index1_any (l.getD i default) w.heap.size n w1 ((x.cell (p := ⟨w.heap.size, 0, none⟩) (by simp)).trans (by simp [go_sem])) x.z0
  · rintro e w1 ⟨rfl, x1⟩
    go_wp2_with fail
    go_ret
    exact ⟨rfl, by (repeat (first | (with_reducible exact Ext.refl _) | (with_reducible assumption) | (with_reducible refine Ext.alloc ?_ _) | (with_reducible refine Ext.drewN ?_ _) | (with_reducible refine Ext.drew ?_) | (with_reducible refine Ext.setCell ?_ ?_ _; rotate_left; first | assumption | (simp; done) | (simp; omega)) | (with_reducible refine Ext.trans ?_ (by with_reducible assumption))))⟩

end Go.Proofs.YtamgalmlhjbbdaaDoor.c
