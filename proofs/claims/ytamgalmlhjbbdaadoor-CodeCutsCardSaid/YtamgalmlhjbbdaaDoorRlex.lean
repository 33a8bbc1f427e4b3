/- Contracts of the reference's functions on tokens: isLetter, isDigit, run, signs, keys, first, tokens, isToken, IsWord, IsKey. Condition: the text is not longer than 1,048,576 bytes. -/
import Derived.Test.YtamgalmlhjbbdaaDoorLexB
namespace Go.Proofs.YtamgalmlhjbbdaaDoor.c
open Go.RowKit
set_option linter.unusedVariables false
set_option linter.unusedSimpArgs false

set_option maxRecDepth 100000 in
set_option maxHeartbeats 1600000 in
theorem isLetter_any (c : Nat) (w : World) :
    Calls Tryd.prog 106 #[.int .u8 c] w fun e w' => e = .returned (.bool (isLet c)) ∧ w = w' := by
  go_enter Tryd.func106, Tryd.ntmps106
  go_wp2
  all_goals (go_ret; exact ⟨ret_bool (by unfold isLet; rw [Bool.eq_iff_iff]; simp; omega), rfl⟩)
set_option maxRecDepth 100000 in
set_option maxHeartbeats 1600000 in
theorem isDigit_any (c : Nat) (w : World) :
    Calls Tryd.prog 108 #[.int .u8 c] w fun e w' => e = .returned (.bool (isDig c)) ∧ w = w' := by
  go_enter Tryd.func108, Tryd.ntmps108
  go_wp2
  all_goals (go_ret; exact ⟨ret_bool (by unfold isDig; rw [Bool.eq_iff_iff]; simp; omega), rfl⟩)
set_option maxRecDepth 100000 in
set_option maxHeartbeats 1600000 in
theorem keys_any (w : World) :
    Calls Tryd.prog 80 #[] w fun e w' => e = .returned (.slice (some ⟨w.heap.size, 0, none⟩) 30 30) ∧ Blk w' w.heap.size 9 (keysB.map Value.string).toArray ∧ Ext w w' := by
  go_enter Tryd.func80, Tryd.ntmps80
  go_wp2
  go_ret
  exact ⟨rfl, Blk.new _ _ _, (Ext.refl _).alloc _⟩
set_option maxRecDepth 100000 in
set_option maxHeartbeats 1600000 in
theorem signs_any (w : World) :
    Calls Tryd.prog 109 #[] w fun e w' => e = .returned (.slice (some ⟨w.heap.size, 0, none⟩) 33 33) ∧ Blk w' w.heap.size 9 (signsB.map Value.string).toArray ∧ Ext w w' := by
  go_enter Tryd.func109, Tryd.ntmps109
  go_wp2
  go_ret
  exact ⟨rfl, Blk.new _ _ _, (Ext.refl _).alloc _⟩
set_option maxRecDepth 100000 in
set_option maxHeartbeats 1600000 in
theorem refIsKey_any (s : ByteArray) (w : World) :
    Calls Tryd.prog 63 #[.string s] w fun e w' => e = .returned (.bool (keyS s)) ∧ Ext w w' := by
  go_enter Tryd.func63, Tryd.ntmps63
  go_wp2_with (first | (go_at_call 80; refine (keys_any _).mono ?_; rintro e w1 ⟨rfl, hb, x1⟩))
  have HB := Lib.hid hb
  clear hb
  go_loopw [4] (fun v wr => ∃ k : Nat, k ≤ 30 ∧ v = .int .i64 k ∧ wr = w1 ∧ ∀ j, j < k → ((keysB.getD j ByteArray.empty).data.toList == s.data.toList) = false) (fun v _ => 30 - (intOf v).toNat)
  case atStart => exact ⟨0, by omega, rfl, rfl, by omega⟩
  case round =>
    obtain ⟨k, hk, rfl, rfl, hno⟩ := hrel
    have HN := Lib.hid hno
    clear hno
    by_cases hlt : k < 30
    · obtain ⟨q, hq⟩ : ∃ q, q = keysB.getD k ByteArray.empty := ⟨_, rfl⟩
      have HQ := Lib.hid hq
      have hc : wr.cell? ⟨w.heap.size, k, none⟩ = some (Value.string q) := by
        rw [HB.out.cell k, hq]
        have : k < keysB.length := hlt
        simp [List.getD, this]
      clear hq
      have hqm : Hid (q ∈ keysB) := by
        have hl : k < keysB.length := hlt
        unfold Hid
        rw [HQ.out, List.getD, List.getElem?_eq_getElem hl]
        exact List.getElem_mem hl
      go_wp2_with fail
      case roundEnd =>
        have h1 : (q.toList == s.toList) = false := by assumption
        rw [Lib.toList_data, Lib.toList_data] at h1
        refine ⟨⟨k + 1, by omega, by go_num, by first | rfl | trivial, fun j hj => ?_⟩, by simp [intOf]; omega⟩
        rcases Nat.lt_or_ge j k with h | h
        · exact HN.out j h
        · obtain rfl : j = k := by omega
          rw [← HQ.out]; exact h1
      all_goals
        have h1 : (q.toList == s.toList) = true := by assumption
        rw [Lib.toList_data, Lib.toList_data] at h1
        go_ret
        refine ⟨ret_bool ?_, x1⟩
        symm
        unfold keyS
        rw [List.any_eq_true]
        exact ⟨q, hqm.out, h1⟩
    · go_wp2_with fail
      go_ret
      refine ⟨ret_bool ?_, x1⟩
      symm
      unfold keyS
      rw [Bool.eq_false_iff]
      intro h
      rw [List.any_eq_true] at h
      obtain ⟨q, hq, he⟩ := h
      obtain ⟨j, hj, rfl⟩ := List.getElem_of_mem hq
      have := HN.out j (by have : j < 30 := hj; omega)
      rw [List.getD, List.getElem?_eq_getElem hj, Option.getD_some, he] at this
      cases this
set_option maxRecDepth 100000 in
set_option maxHeartbeats 1600000 in
theorem refRun_any (s : ByteArray) (at_ : Nat) (w : World) (hs : s.size ≤ 4611686018427387904) (ha : at_ ≤ s.size) :
    Calls Tryd.prog 107 #[.string s, .int .i64 at_] w fun e w' => e = .returned (.int .i64 ((at_ + ((s.data.toList.drop at_).takeWhile okB).length : Nat) : Int)) ∧ Ext w w' := by
  have HL := Lib.hid (Lib.size_eq s)
  go_enter Tryd.func107, Tryd.ntmps107
  go_wp2_with fail
  go_loopw [1] (fun n wr => ∃ k : Nat, at_ + k ≤ s.size ∧ n = .int .i64 ((at_ + k : Nat) : Int) ∧ ((s.data.toList.drop at_).take k).all okB = true ∧ Ext w wr) (fun n _ => s.size - (intOf n).toNat)
  case atStart => exact ⟨0, by omega, by go_num, rfl, Ext.refl _⟩
  case round =>
    obtain ⟨k, hk, rfl, hall, hx⟩ := hrel
    have HA := Lib.hid hall
    clear hall
    obtain ⟨m, hm⟩ : ∃ m, m = at_ + k := ⟨_, rfl⟩
    rw [← hm] at hk ⊢
    have HM := Lib.hid hm
    clear hm
    by_cases hlt : m < s.size
    · have hge : Hid ((s.data.toList.drop at_)[k]? = some (s[m]'hlt)) := by
        unfold Hid
        rw [List.getElem?_drop, ← HM.out]
        exact List.getElem?_eq_getElem _
      have HS : Hid (((s.data.toList.drop at_).take (k + 1)).all okB = okB (s[m]'hlt)) := by
        unfold Hid
        rw [List.take_add_one, hge.out]
        simp [HA.out]
      go_wp2_with (first
        | (go_at_call 106; refine (isLetter_any _ _).mono ?_; rintro e w' ⟨rfl, rfl⟩)
        | (go_at_call 108; refine (isDigit_any _ _).mono ?_; rintro e w' ⟨rfl, rfl⟩))
      all_goals
        first
          | (have h1 : isLet (s[m]'hlt).toNat = true := by assumption
             refine ⟨⟨k + 1, by have := HM.out; omega, by have := HM.out; go_num, by rw [HS.out]; unfold okB; rw [h1]; rfl, hx⟩, by simp [intOf]; omega⟩)
          | (have h1 : isDig (s[m]'hlt).toNat = true := by assumption
             refine ⟨⟨k + 1, by have := HM.out; omega, by have := HM.out; go_num, by rw [HS.out]; unfold okB; rw [h1, Bool.or_true], hx⟩, by simp [intOf]; omega⟩)
          | (have h1 : isLet (s[m]'hlt).toNat = false := by assumption
             have h2 : isDig (s[m]'hlt).toNat = false := by assumption
             go_ret
             refine ⟨ret_int ?_, hx⟩
             rw [takeWhile_len okB _ k (by rw [List.length_drop]; have := HL.out; have := HM.out; omega) HA.out (fun c hc => by rw [hge.out] at hc; injection hc with hc; rw [← hc]; unfold okB; rw [h1, h2]; rfl)]
             have := HM.out
             omega)
    · go_wp2_with fail
      go_ret
      refine ⟨ret_int ?_, hx⟩
      rw [takeWhile_len okB _ k (by rw [List.length_drop]; have := HL.out; have := HM.out; omega) HA.out (fun c hc => by rw [List.getElem?_eq_none (by rw [List.length_drop]; have := HL.out; have := HM.out; omega)] at hc; cases hc)]
      have := HM.out
      omega

/-! ### first -/
def mt (L : List UInt8) (a : Nat) (g : List UInt8) : Bool := decide (a + g.length ≤ L.length) && ((L.drop a).take g.length == g)
/-- the kind of the token that begins at a, and the place behind it; false if none does -/
def fst3 (L : List UInt8) (a : Nat) : Int × Nat × Bool :=
  match L[a]? with
  | none => (0, 0, false)
  | some c =>
    if isLet c.toNat then (0, a + ((L.drop a).takeWhile okB).length, true)
    else if isDig c.toNat then (1, a + ((L.drop a).takeWhile okB).length, true)
    else if c.toNat = 64 then
      match L[a + 1]? with
      | none => (0, 0, false)
      | some d => if isLet d.toNat then (3, a + 1 + ((L.drop (a + 1)).takeWhile okB).length, true) else (0, 0, false)
    else match signsB.find? (fun g => mt L a g.data.toList) with
      | none => (0, 0, false)
      | some g => (2, a + g.size, true)
theorem ret_fst {x : Int × Nat × Bool} {a b : Int} {c : Bool} (h : x.1 = a ∧ (x.2.1 : Int) = b ∧ x.2.2 = c) : Ending.returned (.tuple #[.int .i64 a, .int .i64 b, .bool c]) = .returned (.tuple #[.int .i64 x.1, .int .i64 x.2.1, .bool x.2.2]) := by
  rw [← h.1, ← h.2.1, ← h.2.2]

set_option maxRecDepth 100000 in
set_option maxHeartbeats 1600000 in
theorem first_any (s : ByteArray) (a : Nat) (w : World) (hs : s.size ≤ 4611686018427387904) (ha : a < s.size) :
    Calls Tryd.prog 101 #[.string s, .int .i64 a] w fun e w' => e = .returned (.tuple #[.int .i64 (fst3 s.data.toList a).1, .int .i64 (fst3 s.data.toList a).2.1, .bool (fst3 s.data.toList a).2.2]) ∧ Ext w w' := by
  have hL := Lib.size_eq s
  have HG : Hid (s.data.toList[a]? = some (s[a]'ha)) := List.getElem?_eq_getElem (by omega)
  have HL := Lib.hid hL
  clear hL
  cases h1 : isLet (s[a]'ha).toNat
  case true =>
    have HF : Hid (fst3 s.data.toList a = (0, a + ((s.data.toList.drop a).takeWhile okB).length, true)) := by
      unfold Hid fst3; rw [HG.out]; simp only [h1, if_true]
    go_enter Tryd.func101, Tryd.ntmps101
    go_wp2_with (first
      | (go_at_call 106; refine (isLetter_any _ _).mono ?_; rw [h1]; rintro e w' ⟨rfl, rfl⟩)
      | (go_at_call 107; refine (refRun_any s a _ hs (by omega)).mono ?_; rintro e w1 ⟨rfl, x1⟩))
    go_ret3
    exact ⟨ret_fst (by rw [HF.out]; exact ⟨rfl, rfl, rfl⟩), x1⟩
  case false =>
    cases h2 : isDig (s[a]'ha).toNat
    case true =>
      have HF : Hid (fst3 s.data.toList a = (1, a + ((s.data.toList.drop a).takeWhile okB).length, true)) := by
        unfold Hid fst3; rw [HG.out]; simp [h1, h2]
      go_enter Tryd.func101, Tryd.ntmps101
      go_wp2_with (first
        | (go_at_call 106; refine (isLetter_any _ _).mono ?_; rw [h1]; rintro e w' ⟨rfl, rfl⟩)
        | (go_at_call 108; refine (isDigit_any _ _).mono ?_; rw [h2]; rintro e w' ⟨rfl, rfl⟩)
        | (go_at_call 107; refine (refRun_any s a _ hs (by omega)).mono ?_; rintro e w1 ⟨rfl, x1⟩))
      go_ret3
      exact ⟨ret_fst (by rw [HF.out]; exact ⟨rfl, rfl, rfl⟩), x1⟩
    case false =>
      by_cases h3 : (s[a]'ha).toNat = 64
      · by_cases h4 : a + 1 < s.size
        · have HG2 : Hid (s.data.toList[a + 1]? = some (s[a + 1]'h4)) := List.getElem?_eq_getElem (by have := HL.out; omega)
          cases h5 : isLet (s[a + 1]'h4).toNat
          all_goals
            have HF := Lib.hid (show fst3 s.data.toList a = if isLet (s[a + 1]'h4).toNat then (3, a + 1 + ((s.data.toList.drop (a + 1)).takeWhile okB).length, true) else (0, 0, false) by
              unfold fst3; rw [HG.out]; simp only []; rw [if_neg (by rw [h1]; decide), if_neg (by rw [h2]; decide), if_pos h3, HG2.out])
            have h3' : (((s[a]'ha).toNat : Int) == 64) = true := by rw [h3]; rfl
            clear h3
            have h4' : (a : Int) + 1 < (s.size : Int) := by omega
            go_enter Tryd.func101, Tryd.ntmps101
            go_wp2_with (first
              | (go_at_call 106; (with_reducible refine (isLetter_any (s[a]'ha).toNat _).mono ?_); rw [h1]; rintro e w' ⟨rfl, rfl⟩)
              | (go_at_call 106; (with_reducible refine (isLetter_any (s[a + 1]'h4).toNat _).mono ?_); rw [h5]; rintro e w' ⟨rfl, rfl⟩)
              | (go_at_call 108; refine (isDigit_any _ _).mono ?_; rw [h2]; rintro e w' ⟨rfl, rfl⟩)
              | (go_at_call 107; refine (refRun_any s (a + 1) _ hs (by omega)).mono ?_; rintro e w1 ⟨rfl, x1⟩))
            go_ret3
            refine ⟨ret_fst (by rw [HF.out, h5]; exact ⟨rfl, rfl, rfl⟩), by (first | ((repeat (first | (with_reducible exact Ext.refl _) | (with_reducible assumption) | (with_reducible refine Ext.alloc ?_ _) | (with_reducible refine Ext.drewN ?_ _) | (with_reducible refine Ext.drew ?_) | (with_reducible refine Ext.setCell ?_ ?_ _; rotate_left; first | assumption | (simp; done) | (simp; omega)) | (with_reducible refine Ext.trans ?_ (by with_reducible assumption)))); done) | (repeat (first | exact Ext.refl _ | assumption | refine Ext.alloc ?_ _ | refine Ext.drewN ?_ _ | refine Ext.drew ?_ | refine Ext.setCell ?_ (by first | assumption | (simp; done) | (simp; omega)) _ | refine Ext.trans ?_ (by assumption))))⟩
        · have HF := Lib.hid (show fst3 s.data.toList a = (0, 0, false) by
              unfold fst3; rw [HG.out]; simp only []; rw [if_neg (by rw [h1]; decide), if_neg (by rw [h2]; decide), if_pos h3, List.getElem?_eq_none (by have := HL.out; omega)])
          have h3' : (((s[a]'ha).toNat : Int) == 64) = true := by rw [h3]; rfl
          clear h3
          have h4' : ¬ (a : Int) + 1 < (s.size : Int) := by omega
          go_enter Tryd.func101, Tryd.ntmps101
          go_wp2_with (first
            | (go_at_call 106; (with_reducible refine (isLetter_any (s[a]'ha).toNat _).mono ?_); rw [h1]; rintro e w' ⟨rfl, rfl⟩)
            | (go_at_call 108; refine (isDigit_any _ _).mono ?_; rw [h2]; rintro e w' ⟨rfl, rfl⟩))
          go_ret3
          refine ⟨ret_fst (by rw [HF.out]; exact ⟨rfl, rfl, rfl⟩), by (first | ((repeat (first | (with_reducible exact Ext.refl _) | (with_reducible assumption) | (with_reducible refine Ext.alloc ?_ _) | (with_reducible refine Ext.drewN ?_ _) | (with_reducible refine Ext.drew ?_) | (with_reducible refine Ext.setCell ?_ ?_ _; rotate_left; first | assumption | (simp; done) | (simp; omega)) | (with_reducible refine Ext.trans ?_ (by with_reducible assumption)))); done) | (repeat (first | exact Ext.refl _ | assumption | refine Ext.alloc ?_ _ | refine Ext.drewN ?_ _ | refine Ext.drew ?_ | refine Ext.setCell ?_ (by first | assumption | (simp; done) | (simp; omega)) _ | refine Ext.trans ?_ (by assumption))))⟩
      · have h3' : (((s[a]'ha).toNat : Int) == 64) = false := by rw [beq_eq_false_iff_ne]; omega
        have HF := Lib.hid (show fst3 s.data.toList a = match signsB.find? (fun g => mt s.data.toList a g.data.toList) with
            | none => (0, 0, false)
            | some g => (2, a + g.size, true) by
          unfold fst3; rw [HG.out]; simp only []; rw [if_neg (by rw [h1]; decide), if_neg (by rw [h2]; decide), if_neg h3])
        clear h3
        go_enter Tryd.func101, Tryd.ntmps101
        go_wp2_with (first
          | (go_at_call 106; (with_reducible refine (isLetter_any (s[a]'ha).toNat _).mono ?_); rw [h1]; rintro e w' ⟨rfl, rfl⟩)
          | (go_at_call 108; refine (isDigit_any _ _).mono ?_; rw [h2]; rintro e w' ⟨rfl, rfl⟩)
          | (go_at_call 109; refine (signs_any _).mono ?_; rintro e w1 ⟨rfl, hb, x1⟩; have HB := Lib.hid hb; clear hb))
        go_loopw [9] (fun v wr => ∃ k : Nat, k ≤ 33 ∧ v = .int .i64 k ∧ Ext w1 wr ∧ ∀ j, j < k → mt s.data.toList a (signsB.getD j ByteArray.empty).data.toList = false) (fun v _ => 33 - (intOf v).toNat)
        case atStart => exact ⟨0, by omega, rfl, Ext.refl _, by omega⟩
        case round =>
          obtain ⟨k, hk, rfl, hx, hno⟩ := hrel
          have HN := Lib.hid hno
          clear hno
          by_cases hlt : k < 33
          · obtain ⟨q, hq⟩ : ∃ q, q = signsB.getD k ByteArray.empty := ⟨_, rfl⟩
            have HQ := Lib.hid hq
            have hlk : k < signsB.length := hlt
            have hc : wr.cell? ⟨w.heap.size, k, none⟩ = some (Value.string q) := by
              rw [(HB.out.ext hx).cell k, hq]
              simp [List.getD, hlk]
            have hqz : q.size ≤ 2 := by
              have : ∀ g ∈ signsB, g.size ≤ 2 := by decide +kernel
              refine this q ?_
              rw [hq, List.getD, List.getElem?_eq_getElem hlk]
              exact List.getElem_mem hlk
            have HSZ := Lib.hid (Lib.size_eq q)
            clear hq
            by_cases he : a + q.size ≤ s.size
            · have he' : (a : Int) + (q.size : Int) ≤ (s.size : Int) := by omega
              have he2 : decide ((a : Int) + (q.size : Int) ≤ (s.size : Int)) = true := by simpa using he'
              have HM := Lib.hid (show mt s.data.toList a q.data.toList = ((s.extract a (a + q.size)).toList == q.toList) by
                unfold mt
                rw [Lib.extract_toList, Lib.toList_data, ← HSZ.out, ← HL.out, decide_eq_true he, Bool.true_and, Nat.add_sub_cancel_left])
              go_wp2_with fail
              go_quiet (fail)
              go_wp2_with fail
              case roundEnd =>
                have h9 : ((s.extract a (a + q.size)).toList == q.toList) = false := by assumption
                refine ⟨⟨k + 1, by omega, by go_num, hx.drewN _, fun j hj => ?_⟩, by simp [intOf]; omega⟩
                rcases Nat.lt_or_ge j k with h | h
                · exact HN.out j h
                · obtain rfl : j = k := by omega
                  rw [← HQ.out, HM.out]; exact h9
              all_goals
                have h9 : ((s.extract a (a + q.size)).toList == q.toList) = true := by assumption
                go_ret3
                refine ⟨ret_fst ?_, (x1.trans hx).drewN _⟩
                rw [HF.out, find_hit (d := ByteArray.empty) hlk (by rw [← HQ.out, HM.out]; exact h9) HN.out, ← HQ.out]
                exact ⟨rfl, rfl, rfl⟩
            · have he' : ¬ (a : Int) + (q.size : Int) ≤ (s.size : Int) := by omega
              have he2 : decide ((a : Int) + (q.size : Int) ≤ (s.size : Int)) = false := by simpa using he'
              have HM := Lib.hid (show mt s.data.toList a q.data.toList = false by
                unfold mt
                rw [← HSZ.out, ← HL.out, decide_eq_false he, Bool.false_and])
              go_wp2_with fail
              go_quiet (fail)
              go_wp2_with fail
              refine ⟨⟨k + 1, by omega, by go_num, hx.drewN _, fun j hj => ?_⟩, by simp [intOf]; omega⟩
              rcases Nat.lt_or_ge j k with h | h
              · exact HN.out j h
              · obtain rfl : j = k := by omega
                rw [← HQ.out, HM.out]
          · go_wp2_with fail
            go_ret3
            refine ⟨ret_fst ?_, x1.trans hx⟩
            rw [HF.out, find_miss (d := ByteArray.empty) (fun j hj => HN.out j (by have : j < 33 := hj; omega))]
            exact ⟨rfl, rfl, rfl⟩
end Go.Proofs.YtamgalmlhjbbdaaDoor.c
