/- Contract of the reference's isReg. Conditions: bounds. Contracts of the reference's found, params, count, Long over register code. Conditions: lengths. -/
import Derived.Test.YtknaemlnhediaaaGreatDoorRvj
import Derived.Test.YtknaemlnhediaaaGreatDoorRvk
import Derived.Test.YtknaemlnhediaaaGreatDoorRinst
namespace Go.Proofs.YtknaemlnhediaaaGreatDoor.c
open Go.RowKit
set_option linter.unusedVariables false
set_option maxRecDepth 100000
set_option maxHeartbeats 1600000
set_option linter.unusedSimpArgs false
theorem hisReg_any (regs code pr : Int) (pb : Bool) (x : Rg) (w : World) (h1 : 1 ≤ regs) (h2 : regs ≤ 6) (hc1 : 1 ≤ code) (hc2 : code ≤ 1000000) (hal : x.args.length ≤ 9223372036854775806) (hA : NumsAt w x.A x.args) (hpb : (pr == (x.args.length : Int)) = pb) :
    Calls Tryz.prog 83 #[.agg #[.int .i64 x.op, .int .i64 x.d, .int .i64 x.a, .int .i64 x.b, .int .i64 x.ty.base, .int .i64 x.ty.bits, .string x.ty.name, .bool x.ty.opt, .bool x.ty.err, .string x.name, .slice x.A x.args.length x.cap], .int .i64 regs, .int .i64 code, .int .i64 pr] w fun e w' => e = .returned (.bool (instR pb regs code x)) ∧ Ext w w' := by
  obtain ⟨op, d, a, b, ty, nm, A, cap, args⟩ := x
  have h : op = 0 ∨ op = 17 ∨ op = 16 ∨ op = 5 ∨ op = 7 ∨ op = 8 ∨ op = 14 ∨ (op ≠ 0 ∧ op ≠ 17 ∧ op ≠ 14 ∧ op ≠ 16 ∧ op ≠ 5 ∧ op ≠ 7 ∧ op ≠ 8 ∧ 105 ≤ op ∧ op ≤ 117) ∨ (op ≠ 0 ∧ op ≠ 17 ∧ op ≠ 14 ∧ op ≠ 16 ∧ op ≠ 5 ∧ op ≠ 7 ∧ op ≠ 8 ∧ (op < 105 ∨ 117 < op)) := by omega
  rcases h with h | h | h | h | h | h | h | h | h
  · exact hreg_li regs code pr pb _ d a b ty nm A cap args w h1 h2 hc1 hc2 hal hA hpb h
  · exact hreg_stop regs code pr pb _ d a b ty nm A cap args w h1 h2 hc1 hc2 hal hA hpb h
  · exact hreg_error regs code pr pb _ d a b ty nm A cap args w h1 h2 hc1 hc2 hal hA hpb h
  · exact hreg_k5 regs code pr pb _ d a b ty nm A cap args w h1 h2 hc1 hc2 hal hA hpb h
  · exact hreg_k7 regs code pr pb _ d a b ty nm A cap args w h1 h2 hc1 hc2 hal hA hpb h
  · exact hreg_k8 regs code pr pb _ d a b ty nm A cap args w h1 h2 hc1 hc2 hal hA hpb h
  · exact hreg_call regs code pr pb _ d a b ty nm A cap args w h1 h2 hc1 hc2 hal hA hpb h
  · exact hreg_typed regs code pr pb _ d a b ty nm A cap args w h1 h2 hc1 hc2 hal hA hpb h
  · exact hreg_plain regs code pr pb _ d a b ty nm A cap args w h1 h2 hc1 hc2 hal hA hpb h
theorem hfound_any (A : Option Addr) (cap : Nat) (l : List Rf) {len : Nat} (n : ByteArray) (w : World) (hlen : len = l.length) (hA : RfAt w A l) (hl : len ≤ 9223372036854775806) :
    Calls Tryz.prog 80 #[.slice A len cap, .string n] w fun e w' => e = .returned (.int .i64 (indexR l n)) ∧ w = w' := by
  have HLn := Lib.hid hlen
  clear hlen
  have HA := Lib.hid hA
  clear hA
  go_enter Tryz.func80, Tryz.ntmps80
  go_wp2
  go_loop [5] (fun i => ∃ k : Nat, k ≤ len ∧ i = .int .i64 k ∧ ∀ j, j < k → ((l.getD j default).name.toList == n.toList) = false) (fun i => len - (intOf i).toNat)
  case atStart => exact ⟨0, Nat.zero_le _, rfl, by omega⟩
  case round =>
    obtain ⟨k, hk, rfl, hnone⟩ := hrel
    have HN := Lib.hid hnone; clear hnone
    by_cases hlt : k < len
    · obtain ⟨f, hf⟩ : ∃ f, f = l.getD k default := ⟨_, rfl⟩
      obtain ⟨b, off, rfl, hb, c0, _⟩ := HA.out.at_ (k := k) (by rw [← HLn.out]; exact hlt) hf
      have HF := Lib.hid hf
      clear hf
      go_wp2_with fail
      case roundEnd =>
        have h9 : (f.name.toList == n.toList) = false := by assumption
        refine ⟨⟨k + 1, by omega, by go_num, fun j hj => ?_⟩, by simp [intOf]; omega⟩
        rcases Nat.lt_or_ge j k with h | h
        · exact HN.out j h
        · obtain rfl : j = k := by omega
          rw [← HF.out]; exact h9
      all_goals
        have h9 : (f.name.toList == n.toList) = true := by assumption
        go_ret
        exact ⟨ret_int (by unfold indexR; exact (findI_hit (by rw [← HLn.out]; exact hlt) (by rw [← HF.out]; exact h9) HN.out).symm), rfl⟩
    · go_wp2_with fail
      go_ret
      exact ⟨ret_int (by unfold indexR; exact (findI_none (fun j hj => HN.out j (by have := HLn.out; omega))).symm), rfl⟩
/-- how many parameters the function with a name has, -1 for none -/
def parR (l : List Rf) (n : ByteArray) : Int := if indexR l n < 0 then -1 else (l.getD (indexR l n).toNat default).params
theorem indexR_cases (l : List Rf) (n : ByteArray) : indexR l n = -1 ∨ ∃ j : Nat, indexR l n = j ∧ j < l.length := by
  unfold indexR
  rcases findI_cases (fun k => (l.getD k default).name.toList == n.toList) l.length with ⟨h, _⟩ | ⟨j, h, hj, _⟩
  · exact .inl h
  · exact .inr ⟨j, h, hj⟩
theorem par_call (l : List Rf) (n : ByteArray) (k : Nat) : (parR l n == (k : Int)) = callB l n k := by
  unfold parR callB
  rcases indexR_cases l n with h | ⟨j, h, _⟩
  · rw [h, if_pos (by decide), decide_eq_false (by decide), Bool.false_and, beq_eq_false_iff_ne]; omega
  · rw [h, if_neg (by omega), decide_eq_true (by omega), Bool.true_and]
theorem hparams_any (A : Option Addr) (cap : Nat) (l : List Rf) {len : Nat} (n : ByteArray) (w : World) (hlen : len = l.length) (hA : RfAt w A l) (hl : len ≤ 9223372036854775806) :
    Calls Tryz.prog 84 #[.slice A len cap, .string n] w fun e w' => e = .returned (.int .i64 (parR l n)) ∧ w = w' := by
  have HC := Lib.hid (hfound_any A cap l n w hlen hA hl)
  have HLn := Lib.hid hlen
  clear hlen
  rcases indexR_cases l n with h | ⟨j, h, hj⟩
  · have HP : Hid (parR l n = -1) := by unfold Hid parR; rw [h]; rfl
    rw [h] at HC
    clear h
    go_enter Tryz.func84, Tryz.ntmps84
    go_wp2_with (first | (go_at_call 80; (with_reducible refine HC.out.mono ?_); rintro r w' ⟨rfl, rfl⟩))
    go_ret
    exact ⟨ret_int HP.out.symm, rfl⟩
  · obtain ⟨f, hf⟩ : ∃ f, f = l.getD j default := ⟨_, rfl⟩
    obtain ⟨b, off, rfl, hb, c0, c1, _⟩ := hA.at_ (k := j) hj hf
    have HP : Hid (parR l n = f.params) := by unfold Hid parR; rw [h, if_neg (by omega), hf]; rfl
    rw [h] at HC
    have hj2 : j < len := by have := HLn.out; omega
    clear h hf hj
    go_enter Tryz.func84, Tryz.ntmps84
    go_wp2_with (first | (go_at_call 80; (with_reducible refine HC.out.mono ?_); rintro r w' ⟨rfl, rfl⟩))
    go_ret
    exact ⟨ret_int HP.out.symm, rfl⟩
theorem hcount_any (A : Option Addr) (cap : Nat) (l : List Rf) {len : Nat} (w : World) (hlen : len = l.length) (hA : RfAt w A l) (hl : len ≤ 9223372036854775806) (hc : countR l ≤ 9223372036854775806) :
    Calls Tryz.prog 71 #[.slice A len cap] w fun e w' => e = .returned (.int .i64 (countR l)) ∧ w = w' := by
  have HLn := Lib.hid hlen
  clear hlen
  have HA := Lib.hid hA
  clear hA
  go_enter Tryz.func71, Tryz.ntmps71
  go_wp2
  go_loop [3, 4] (fun n i => ∃ k : Nat, k ≤ len ∧ i = .int .i64 k ∧ n = .int .i64 (countR (l.take k))) (fun _ i => len - (intOf i).toNat)
  case atStart => exact ⟨0, Nat.zero_le _, rfl, rfl⟩
  case round =>
    obtain ⟨k, hk, rfl, rfl⟩ := hrel
    have hcl := countR_le l k
    by_cases hlt : k < len
    · obtain ⟨f, hf⟩ : ∃ f, f = l.getD k default := ⟨_, rfl⟩
      obtain ⟨b, off, rfl, hb, _, _, _, _, _, _, _, _, c8, _⟩ := HA.out.at_ (k := k) (by rw [← HLn.out]; exact hlt) hf
      have hs := countR_snoc l k (by rw [← HLn.out]; exact hlt)
      rw [← hf] at hs
      have hs1 := countR_le l (k + 1)
      have HS := Lib.hid hs
      have hs2 : countR (l.take k) + f.code.length ≤ 9223372036854775806 := by omega
      clear hf hs hs1
      go_wp2_with fail
      go_round
      case rel => exact ⟨k + 1, by omega, by go_num, by rw [HS.out]; go_num⟩
      case measure => simp [intOf]; omega
    · go_wp2_with fail
      go_ret
      exact ⟨ret_int (by rw [List.take_of_length_le (by have := HLn.out; omega)]), rfl⟩
end Go.Proofs.YtknaemlnhediaaaGreatDoor.c
