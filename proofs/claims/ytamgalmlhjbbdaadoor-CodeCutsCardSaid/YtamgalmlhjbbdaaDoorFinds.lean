/- The law CodeFinds. The table strings.asciiSpace holds what its text lays; lengths are bounded. -/
import Derived.Test.YtamgalmlhjbbdaaDoorOne
namespace Go.Proofs.YtamgalmlhjbbdaaDoor.c
open Go.RowKit
set_option linter.unusedVariables false
set_option linter.unusedSimpArgs false
theorem count_mul (l : List Fc) (M : Nat) (h : ∀ f, f ∈ l → f.code.length ≤ M) : countS l ≤ l.length * M := by
  unfold countS
  induction l with
  | nil => simp
  | cons f l ih =>
    have h1 := h f (List.mem_cons_self ..)
    have h2 := ih fun g hg => h g (List.mem_cons_of_mem _ hg)
    rw [List.map_cons, List.sum_cons, List.length_cons, Nat.add_mul]
    omega
set_option maxRecDepth 100000 in
set_option maxHeartbeats 1600000 in
theorem finds_any (A : Option Addr) (cap : Nat) (l : List Fc) (n : ByteArray) (w : World) (L : Laid w) (hA : FcAt w A l) (hl : l.length ≤ 140737488355328) (hfl : ∀ f, f ∈ l → f.code.length ≤ 140737488355328) :
    Calls Tryd.prog 4 #[.slice A l.length cap, .string n] w fun e w' => e = .returned (.bool true) ∧ Ext w w' := by
  have hc : l.length ≤ 100 → countS l ≤ 9223372036854775806 := fun h => by
    have h1 := count_mul l _ hfl
    have h2 := Nat.mul_le_mul_right 140737488355328 h
    omega
  have HA := Lib.hid hA
  have HLG := Lib.hid (long_any A cap l w hA (by omega) hc)
  have HCF := Lib.hid (cFind_any A cap l n w L hA (by omega) (fun h => hc (by omega)) (fun f hf => by have := hfl f hf; omega))
  have HRF : Hid (∀ w1, Ext w w1 → Calls Tryd.prog 17 #[.slice A l.length cap, .string n] w1 fun e w' => e = .returned (.tuple #[.int .i64 (findE l n).1, .bool (findE l n).2.1, .int .i64 (findE l n).2.2]) ∧ Ext w1 w') :=
    fun w1 x => rFind_any A cap l n w1 (hA.ext x) (by omega) (fun h => hc (by omega)) (fun f hf => by have := hfl f hf; omega)
  obtain ⟨lb, hlb⟩ : ∃ lb, lb = longS l := ⟨_, rfl⟩
  obtain ⟨e, he⟩ : ∃ e, e = findE l n := ⟨_, rfl⟩
  have HLB := Lib.hid hlb
  have HE := Lib.hid he
  clear hA hfl hlb he
  obtain ⟨e1, e2, e3⟩ := e
  cases lb
  all_goals
    go_enter Tryd.func4, Tryd.ntmps4
    go_wp2_with (first
      | (go_at_call 8; refine (HLG.out).mono ?_; rw [← HLB.out]; rintro r w' ⟨rfl, rfl⟩)
      | (go_at_call 9; refine (known_any _ (L.ext (by (repeat (first | (with_reducible exact Ext.refl _) | (with_reducible assumption) | (with_reducible refine Ext.alloc ?_ _) | (with_reducible refine Ext.drewN ?_ _) | (with_reducible refine Ext.drew ?_) | (with_reducible refine Ext.setCell ?_ ?_ _; rotate_left; first | assumption | (simp; done) | (simp; omega)) | (with_reducible refine Ext.trans ?_ (by with_reducible assumption))))))).mono ?_; rintro r w3 ⟨rfl, x3⟩)
      | (go_at_call 16; refine (HCF.out).mono ?_; rw [← HE.out]; rintro r w1 ⟨rfl, x1⟩)
      | (go_at_call 17; refine (HRF.out _ (by (repeat (first | (with_reducible exact Ext.refl _) | (with_reducible assumption) | (with_reducible refine Ext.alloc ?_ _) | (with_reducible refine Ext.drewN ?_ _) | (with_reducible refine Ext.drew ?_) | (with_reducible refine Ext.setCell ?_ ?_ _; rotate_left; first | assumption | (simp; done) | (simp; omega)) | (with_reducible refine Ext.trans ?_ (by with_reducible assumption)))))).mono ?_; rw [← HE.out]; rintro r w2 ⟨rfl, x2⟩))
    all_goals
      go_ret
      exact ⟨rfl, by (repeat (first | (with_reducible exact Ext.refl _) | (with_reducible assumption) | (with_reducible refine Ext.alloc ?_ _) | (with_reducible refine Ext.drewN ?_ _) | (with_reducible refine Ext.drew ?_) | (with_reducible refine Ext.setCell ?_ ?_ _; rotate_left; first | assumption | (simp; done) | (simp; omega)) | (with_reducible refine Ext.trans ?_ (by with_reducible assumption))))⟩
end Go.Proofs.YtamgalmlhjbbdaaDoor.c
