/- Contracts of the library's IndexFunc and ContainsFunc at the types of this program. -/
import Derived.Test.YtamgalmlhjbbdaaDoorShape
namespace Go.Proofs.YtamgalmlhjbbdaaDoor.c
open Go.RowKit
set_option linter.unusedVariables false
set_option linter.unusedSimpArgs false
set_option maxRecDepth 100000 in
set_option maxHeartbeats 1600000 in
theorem indexFuncC_any (A : Option Addr) (n cap : Nat) (K : Nat) (caps : Array Value) (w : World) (hn : n ≤ 9223372036854775807)
    (c : Nat → Nat → Value) (hA : At w A n 9 c) (hK : Enters K) (p : Nat → Bool)
    (hp : ∀ i w1, i < n → Ext w w1 → Calls Tryd.prog K (#[.agg #[c i 0, c i 1, c i 2, c i 3, c i 4, c i 5, c i 6, c i 7, c i 8]] ++ caps) w1 fun e w2 => e = .returned (.bool (p i)) ∧ Ext w1 w2) :
    Calls Tryd.prog 76 #[.slice A n cap, .func (.func K) #[] caps] w fun e w' => e = .returned (.int .i64 (findI p n)) ∧ Ext w w' := by
  have HP := Lib.hid hp; clear hp
  go_enter Tryd.func76, Tryd.ntmps76
  go_wp2
  go_loopw [5, 8] (fun _ i wr => ∃ k : Nat, k ≤ n ∧ i = .int .i64 k ∧ (∀ j, j < k → p j = false) ∧ Ext w wr) (fun _ i _ => n - (intOf i).toNat)
  case atStart => exact ⟨0, Nat.zero_le _, rfl, by omega, Ext.refl _⟩
  case round =>
    obtain ⟨k, hk, rfl, hnone, hx⟩ := hrel
    have HN := Lib.hid hnone; clear hnone
    by_cases hlt : k < n
    · obtain ⟨b, off, rfl, hb, c0, c1, c2, c3, c4, c5, c6, c7, c8⟩ := (hA.ext hx).nine hlt
      go_wp2_with fail
      have HP1 := Lib.hid (HP.out k wr hlt hx)
      simp only [hK _ _]
      go_wp2_with fail
      refine (HP1.out).mono ?_
      rintro e w1 ⟨rfl, x1⟩
      cases hpk : p k
      · go_wp2_with fail
        go_roundw
        case rel => exact ⟨k + 1, by omega, by go_num, (fun j hj => by rcases Nat.lt_or_ge j k with h | h; exact HN.out j h; obtain rfl : j = k := by omega
                                                                       exact hpk), hx.trans x1⟩
        case measure => simp [intOf]; omega
      · go_wp2_with fail
        go_ret
        exact ⟨ret_int (findI_hit hlt hpk HN.out).symm, hx.trans x1⟩
    · go_wp2_with fail
      go_ret
      exact ⟨ret_int (findI_none (fun j hj => HN.out j (by omega))).symm, hx⟩
def anyI (p : Nat → Bool) (n : Nat) : Bool := decide (0 ≤ findI p n)
theorem anyI_iff {p : Nat → Bool} {n : Nat} : anyI p n = true ↔ ∃ k, k < n ∧ p k = true := by
  unfold anyI
  rw [decide_eq_true_eq]
  rcases findI_cases p n with ⟨h, hn⟩ | ⟨k, h, hk, hp, _⟩
  · rw [h]
    constructor
    · intro h; omega
    · rintro ⟨k, hk, hp⟩; rw [hn k hk] at hp; cases hp
  · rw [h]
    exact ⟨fun _ => ⟨k, hk, hp⟩, fun _ => by omega⟩
set_option maxRecDepth 100000 in
set_option maxHeartbeats 1600000 in
theorem containsFuncC_any (A : Option Addr) (n cap : Nat) (K : Nat) (caps : Array Value) (w : World) (hn : n ≤ 9223372036854775807)
    (c : Nat → Nat → Value) (hA : At w A n 9 c) (hK : Enters K) (p : Nat → Bool)
    (hp : ∀ i w1, i < n → Ext w w1 → Calls Tryd.prog K (#[.agg #[c i 0, c i 1, c i 2, c i 3, c i 4, c i 5, c i 6, c i 7, c i 8]] ++ caps) w1 fun e w2 => e = .returned (.bool (p i)) ∧ Ext w1 w2) :
    Calls Tryd.prog 58 #[.slice A n cap, .func (.func K) #[] caps] w fun e w' => e = .returned (.bool (anyI p n)) ∧ Ext w w' := by
  have HP := Lib.hid hp; clear hp
  go_enter Tryd.func58, Tryd.ntmps58
  go_wp2_with fail
  refine (indexFuncC_any A n cap K caps w hn c hA hK p HP.out).mono ?_
  rintro e w1 ⟨rfl, x1⟩
  go_wp2_with fail
  go_ret
  exact ⟨rfl, x1⟩
set_option maxRecDepth 100000 in
set_option maxHeartbeats 1600000 in
theorem containsFuncF_any (A : Option Addr) (n cap : Nat) (K : Nat) (caps : Array Value) (w : World) (hn : n ≤ 9223372036854775807)
    (c : Nat → Nat → Value) (hA : At w A n 9 c) (hK : Enters K) (p : Nat → Bool)
    (hp : ∀ i w1, i < n → Ext w w1 → Calls Tryd.prog K (#[.agg #[c i 0, c i 1, c i 2, c i 3, c i 4, c i 5, c i 6, c i 7, c i 8]] ++ caps) w1 fun e w2 => e = .returned (.bool (p i)) ∧ Ext w1 w2) :
    Calls Tryd.prog 33 #[.slice A n cap, .func (.func K) #[] caps] w fun e w' => e = .returned (.bool (anyI p n)) ∧ Ext w w' := by
  have HP := Lib.hid hp; clear hp
  go_enter Tryd.func33, Tryd.ntmps33
  go_wp2_with fail
  refine (indexFunc_any A n cap K caps w hn c hA hK p HP.out).mono ?_
  rintro e w1 ⟨rfl, x1⟩
  go_wp2_with fail
  go_ret
  exact ⟨rfl, x1⟩
theorem enters_valid1 : Enters 34 := Enters.of Tryd.func34 (by kernel_rfl) (by kernel_rfl)
set_option maxRecDepth 100000 in
set_option maxHeartbeats 1600000 in
theorem valid1_any (f : Fc) (w : World) :
    Calls Tryd.prog 34 #[f.val] w fun e w' => e = .returned (.bool (decide (200 < f.places))) ∧ Ext w w' := by
  unfold Fc.val
  go_enter Tryd.func34, Tryd.ntmps34
  go_wp2
  go_ret
  exact ⟨rfl, by (repeat (first | (with_reducible exact Ext.refl _) | (with_reducible assumption) | (with_reducible refine Ext.alloc ?_ _) | (with_reducible refine Ext.drewN ?_ _) | (with_reducible refine Ext.drew ?_) | (with_reducible refine Ext.setCell ?_ ?_ _; rotate_left; first | assumption | (simp; done) | (simp; omega)) | (with_reducible refine Ext.trans ?_ (by with_reducible assumption))))⟩
end Go.Proofs.YtamgalmlhjbbdaaDoor.c
