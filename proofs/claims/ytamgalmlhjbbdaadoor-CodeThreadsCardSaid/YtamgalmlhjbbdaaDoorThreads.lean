/- The law CodeThreads. The table strings.asciiSpace holds what its text lays; lengths are bounded. -/
import Derived.Test.YtamgalmlhjbbdaaDoorRthread
import Derived.Test.YtamgalmlhjbbdaaDoorRsame
import Derived.Test.YtamgalmlhjbbdaaDoorFinds
namespace Go.Proofs.YtamgalmlhjbbdaaDoor.c
open Go.RowKit
set_option linter.unusedVariables false
set_option linter.unusedSimpArgs false
theorem like_nil : LikeL [] [] := ⟨rfl, fun k hk => by cases hk⟩
set_option maxRecDepth 100000 in
set_option maxHeartbeats 1600000 in
theorem threads_any (A : Option Addr) (cap : Nat) (l : List Fc) (w : World) (L : Laid w) (hA : FcAt w A l) (hl : l.length ≤ 140737488355328) (hfl : ∀ f, f ∈ l → f.code.length ≤ 140737488355328) :
    Calls Tryd.prog 6 #[.slice A l.length cap] w fun e w' => e = .returned (.bool true) ∧ Ext w w' := by
  have hc : l.length ≤ 100 → countS l ≤ 9223372036854775806 := fun h => by
    have h1 := count_mul l _ hfl
    have h2 := Nat.mul_le_mul_right 140737488355328 h
    omega
  have HLG := Lib.hid (long_any A cap l w hA (by omega) hc)
  have HCT := Lib.hid (cThread_any A cap l w L hA (by omega) (fun h => hc (by omega)) (fun f hf => by have := hfl f hf; omega))
  have HRT : Hid (∀ w1, Ext w w1 → Calls Tryd.prog 24 #[.slice A l.length cap] w1 fun e w' => ThrRet l (checkE l).2.2 e w1 w') :=
    fun w1 x => rThread_any A cap l w1 (hA.ext x) (by omega) (fun h => hc (by omega)) (fun f hf => by have := hfl f hf; omega)
  obtain ⟨lb, hlb⟩ : ∃ lb, lb = longS l := ⟨_, rfl⟩
  have HLB := Lib.hid hlb
  have HCK : Hid ((checkE l).2.2 = 0 → ∀ m, ThrL l m → checkE m = (0, 0, 0) ∧ m.length ≤ 48 ∧ countS m ≤ 2000 ∧ ∀ f, f ∈ m → f.code.length ≤ 2000) := fun h0 m hm => by
    have h1 := thr_check hm h0
    have h2 := (check_ok (l := m) (by rw [h1])).1
    have h3 := valid_parts h2
    exact ⟨h1, h3.1, h3.2.1, fun f hf => Nat.le_trans (len_count hf) h3.2.1⟩
  have HVL : Hid ((checkE l).2.2 = 0 → validS l = 0) := fun h0 => (check_ok h0).1
  obtain ⟨len, hlen⟩ : ∃ len, len = l.length := ⟨_, rfl⟩
  rw [← hlen] at hl HLG HCT HRT ⊢
  generalize (checkE l).2.2 = er at *
  clear hA hfl hlb hc hlen
  cases lb
  · by_cases h0 : er = 0
    · subst h0
      have HC2 := Lib.hid (HCK.out rfl)
      have HV2 := Lib.hid (HVL.out rfl)
      clear HCK HVL
      go_enter Tryd.func6, Tryd.ntmps6
      go_wp2_with (first
        | (go_at_call 8; refine (HLG.out).mono ?_; rw [← HLB.out]; rintro r w' ⟨rfl, rfl⟩; have tk1 := True.intro; have tk2 := True.intro)
        | (go_at_call 9; refine (known_any _ (L.ext (by (repeat (first | (with_reducible exact Ext.refl _) | (with_reducible assumption) | (with_reducible refine Ext.alloc ?_ _) | (with_reducible refine Ext.drewN ?_ _) | (with_reducible refine Ext.drew ?_) | (with_reducible refine Ext.setCell ?_ ?_ _; rotate_left; first | assumption | (simp; done) | (simp; omega)) | (with_reducible refine Ext.trans ?_ (by with_reducible assumption))))))).mono ?_; rintro r w9 ⟨rfl, x9⟩)
        | (go_at_call 23
           have _t := tk1
           refine (HCT.out).mono ?_
           rintro r w1 ⟨v1, m1, A1, c1, rfl, rfl, f1, t1, n1, x1⟩
           have F1 := Lib.hid f1
           have T1 := Lib.hid (t1 rfl)
           have K1 := Lib.hid (HC2.out m1 (t1 rfl))
           clear tk1 f1 t1 n1)
        | (go_at_call 24
           refine (HRT.out _ (by (repeat (first | (with_reducible exact Ext.refl _) | (with_reducible assumption) | (with_reducible refine Ext.alloc ?_ _) | (with_reducible refine Ext.drewN ?_ _) | (with_reducible refine Ext.drew ?_) | (with_reducible refine Ext.setCell ?_ ?_ _; rotate_left; first | assumption | (simp; done) | (simp; omega)) | (with_reducible refine Ext.trans ?_ (by with_reducible assumption)))))).mono ?_
           rintro r w2 ⟨v2, m2, A2, c2, rfl, rfl, f2, t2, n2, x2⟩
           have F2 := Lib.hid f2
           have T2 := Lib.hid (t2 rfl)
           clear f2 t2 n2)
        | (go_at_call 25
           have _t := tk2
           refine (same_any A1 A2 c1 c2 m1 m2 _ (F1.out.ext (by (repeat (first | (with_reducible exact Ext.refl _) | (with_reducible assumption) | (with_reducible refine Ext.alloc ?_ _) | (with_reducible refine Ext.drewN ?_ _) | (with_reducible refine Ext.drew ?_) | (with_reducible refine Ext.setCell ?_ ?_ _; rotate_left; first | assumption | (simp; done) | (simp; omega)) | (with_reducible refine Ext.trans ?_ (by with_reducible assumption)))))) (F2.out.ext (by (repeat (first | (with_reducible exact Ext.refl _) | (with_reducible assumption) | (with_reducible refine Ext.alloc ?_ _) | (with_reducible refine Ext.drewN ?_ _) | (with_reducible refine Ext.drew ?_) | (with_reducible refine Ext.setCell ?_ ?_ _; rotate_left; first | assumption | (simp; done) | (simp; omega)) | (with_reducible refine Ext.trans ?_ (by with_reducible assumption)))))) (thr_like T1.out T2.out) (by have := K1.out.2.1; omega) (fun f hf => by have := K1.out.2.2.2 f hf; omega)).mono ?_
           rintro r w3 ⟨rfl, x3⟩
           clear tk2)
        | (go_at_call 23
           refine (cThread_any A1 c1 m1 _ (L.ext (by (repeat (first | (with_reducible exact Ext.refl _) | (with_reducible assumption) | (with_reducible refine Ext.alloc ?_ _) | (with_reducible refine Ext.drewN ?_ _) | (with_reducible refine Ext.drew ?_) | (with_reducible refine Ext.setCell ?_ ?_ _; rotate_left; first | assumption | (simp; done) | (simp; omega)) | (with_reducible refine Ext.trans ?_ (by with_reducible assumption)))))) (F1.out.ext (by (repeat (first | (with_reducible exact Ext.refl _) | (with_reducible assumption) | (with_reducible refine Ext.alloc ?_ _) | (with_reducible refine Ext.drewN ?_ _) | (with_reducible refine Ext.drew ?_) | (with_reducible refine Ext.setCell ?_ ?_ _; rotate_left; first | assumption | (simp; done) | (simp; omega)) | (with_reducible refine Ext.trans ?_ (by with_reducible assumption)))))) (by have := K1.out.2.1; omega) (fun _ => by have := K1.out.2.2.1; omega) (fun f hf => by have := K1.out.2.2.2 f hf; omega)).mono ?_
           rw [K1.out.1]
           rintro r w4 ⟨v4, m4, A4, c4, rfl, rfl, f4, t4, n4, x4⟩
           have F4 := Lib.hid f4
           have T4 := Lib.hid (t4 rfl)
           clear f4 t4 n4)
        | (go_at_call 10
           refine (cCheck_any A1 c1 m1 _ (L.ext (by (repeat (first | (with_reducible exact Ext.refl _) | (with_reducible assumption) | (with_reducible refine Ext.alloc ?_ _) | (with_reducible refine Ext.drewN ?_ _) | (with_reducible refine Ext.drew ?_) | (with_reducible refine Ext.setCell ?_ ?_ _; rotate_left; first | assumption | (simp; done) | (simp; omega)) | (with_reducible refine Ext.trans ?_ (by with_reducible assumption)))))) (F1.out.ext (by (repeat (first | (with_reducible exact Ext.refl _) | (with_reducible assumption) | (with_reducible refine Ext.alloc ?_ _) | (with_reducible refine Ext.drewN ?_ _) | (with_reducible refine Ext.drew ?_) | (with_reducible refine Ext.setCell ?_ ?_ _; rotate_left; first | assumption | (simp; done) | (simp; omega)) | (with_reducible refine Ext.trans ?_ (by with_reducible assumption)))))) (by have := K1.out.2.1; omega) (fun _ => by have := K1.out.2.2.1; omega) (fun f hf => by have := K1.out.2.2.2 f hf; omega)).mono ?_
           rw [K1.out.1]
           rintro r w5 ⟨rfl, x5⟩)
        | (go_at_call 25
           refine (same_any A4 A1 c4 c1 m4 m1 _ (F4.out.ext (by (repeat (first | (with_reducible exact Ext.refl _) | (with_reducible assumption) | (with_reducible refine Ext.alloc ?_ _) | (with_reducible refine Ext.drewN ?_ _) | (with_reducible refine Ext.drew ?_) | (with_reducible refine Ext.setCell ?_ ?_ _; rotate_left; first | assumption | (simp; done) | (simp; omega)) | (with_reducible refine Ext.trans ?_ (by with_reducible assumption)))))) (F1.out.ext (by (repeat (first | (with_reducible exact Ext.refl _) | (with_reducible assumption) | (with_reducible refine Ext.alloc ?_ _) | (with_reducible refine Ext.drewN ?_ _) | (with_reducible refine Ext.drew ?_) | (with_reducible refine Ext.setCell ?_ ?_ _; rotate_left; first | assumption | (simp; done) | (simp; omega)) | (with_reducible refine Ext.trans ?_ (by with_reducible assumption)))))) (thr_again T1.out T4.out HV2.out) (by have := K1.out.2.1; have := T4.out.1; omega) (fun f hf => by have := (HC2.out m1 T1.out); have := thr_small T4.out this.2.2.2 f hf; omega)).mono ?_
           rintro r w6 ⟨rfl, x6⟩))
      all_goals
        go_ret
        exact ⟨rfl, by (repeat (first | (with_reducible exact Ext.refl _) | (with_reducible assumption) | (with_reducible refine Ext.alloc ?_ _) | (with_reducible refine Ext.drewN ?_ _) | (with_reducible refine Ext.drew ?_) | (with_reducible refine Ext.setCell ?_ ?_ _; rotate_left; first | assumption | (simp; done) | (simp; omega)) | (with_reducible refine Ext.trans ?_ (by with_reducible assumption))))⟩
    · have hb : (er != 0) = true := by simpa using h0
      go_enter Tryd.func6, Tryd.ntmps6
      go_wp2_with (first
        | (go_at_call 8; refine (HLG.out).mono ?_; rw [← HLB.out]; rintro r w' ⟨rfl, rfl⟩)
        | (go_at_call 9; refine (known_any _ (L.ext (by (repeat (first | (with_reducible exact Ext.refl _) | (with_reducible assumption) | (with_reducible refine Ext.alloc ?_ _) | (with_reducible refine Ext.drewN ?_ _) | (with_reducible refine Ext.drew ?_) | (with_reducible refine Ext.setCell ?_ ?_ _; rotate_left; first | assumption | (simp; done) | (simp; omega)) | (with_reducible refine Ext.trans ?_ (by with_reducible assumption))))))).mono ?_; rintro r w9 ⟨rfl, x9⟩)
        | (go_at_call 23
           refine (HCT.out).mono ?_
           rintro r w1 ⟨v1, m1, A1, c1, rfl, rfl, f1, t1, n1, x1⟩
           have e1 := n1 h0
           subst e1
           have F1 := Lib.hid f1
           clear f1 t1 n1)
        | (go_at_call 24
           refine (HRT.out _ (by (repeat (first | (with_reducible exact Ext.refl _) | (with_reducible assumption) | (with_reducible refine Ext.alloc ?_ _) | (with_reducible refine Ext.drewN ?_ _) | (with_reducible refine Ext.drew ?_) | (with_reducible refine Ext.setCell ?_ ?_ _; rotate_left; first | assumption | (simp; done) | (simp; omega)) | (with_reducible refine Ext.trans ?_ (by with_reducible assumption)))))).mono ?_
           rintro r w2 ⟨v2, m2, A2, c2, rfl, rfl, f2, t2, n2, x2⟩
           have e2 := n2 h0
           subst e2
           have F2 := Lib.hid f2
           clear f2 t2 n2)
        | (go_at_call 25
           refine (same_any A1 A2 c1 c2 [] [] _ (F1.out.ext (by (repeat (first | (with_reducible exact Ext.refl _) | (with_reducible assumption) | (with_reducible refine Ext.alloc ?_ _) | (with_reducible refine Ext.drewN ?_ _) | (with_reducible refine Ext.drew ?_) | (with_reducible refine Ext.setCell ?_ ?_ _; rotate_left; first | assumption | (simp; done) | (simp; omega)) | (with_reducible refine Ext.trans ?_ (by with_reducible assumption)))))) (F2.out.ext (by (repeat (first | (with_reducible exact Ext.refl _) | (with_reducible assumption) | (with_reducible refine Ext.alloc ?_ _) | (with_reducible refine Ext.drewN ?_ _) | (with_reducible refine Ext.drew ?_) | (with_reducible refine Ext.setCell ?_ ?_ _; rotate_left; first | assumption | (simp; done) | (simp; omega)) | (with_reducible refine Ext.trans ?_ (by with_reducible assumption)))))) like_nil (by simp) (fun f hf => by cases hf)).mono ?_
           rintro r w3 ⟨rfl, x3⟩))
      all_goals
        go_ret
        exact ⟨rfl, by (repeat (first | (with_reducible exact Ext.refl _) | (with_reducible assumption) | (with_reducible refine Ext.alloc ?_ _) | (with_reducible refine Ext.drewN ?_ _) | (with_reducible refine Ext.drew ?_) | (with_reducible refine Ext.setCell ?_ ?_ _; rotate_left; first | assumption | (simp; done) | (simp; omega)) | (with_reducible refine Ext.trans ?_ (by with_reducible assumption))))⟩
  · go_enter Tryd.func6, Tryd.ntmps6
    go_wp2_with (first
      | (go_at_call 8; refine (HLG.out).mono ?_; rw [← HLB.out]; rintro r w' ⟨rfl, rfl⟩)
      | (go_at_call 9; refine (known_any _ (L.ext (by (repeat (first | (with_reducible exact Ext.refl _) | (with_reducible assumption) | (with_reducible refine Ext.alloc ?_ _) | (with_reducible refine Ext.drewN ?_ _) | (with_reducible refine Ext.drew ?_) | (with_reducible refine Ext.setCell ?_ ?_ _; rotate_left; first | assumption | (simp; done) | (simp; omega)) | (with_reducible refine Ext.trans ?_ (by with_reducible assumption))))))).mono ?_; rintro r w9 ⟨rfl, x9⟩))
    go_ret
    exact ⟨rfl, by (repeat (first | (with_reducible exact Ext.refl _) | (with_reducible assumption) | (with_reducible refine Ext.alloc ?_ _) | (with_reducible refine Ext.drewN ?_ _) | (with_reducible refine Ext.drew ?_) | (with_reducible refine Ext.setCell ?_ ?_ _; rotate_left; first | assumption | (simp; done) | (simp; omega)) | (with_reducible refine Ext.trans ?_ (by with_reducible assumption))))⟩
end Go.Proofs.YtamgalmlhjbbdaaDoor.c
