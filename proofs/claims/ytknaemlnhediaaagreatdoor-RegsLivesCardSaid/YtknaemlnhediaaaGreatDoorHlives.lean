/- Contracts of the reference's Live, isDead, Dead and SameLists. The table strings.asciiSpace holds what its text lays; lengths are bounded. Contracts of the reference's isDead and Dead. The table strings.asciiSpace holds what its text lays; lengths are bounded. Contracts of the reference's isDead and Dead. The table strings.asciiSpace holds what its text lays; lengths are bounded. Contract of the reference's SameLists, over lists that are the same. Conditions: lengths. -/
import Derived.Test.YtknaemlnhediaaaGreatDoorHlv
import Derived.Test.YtknaemlnhediaaaGreatDoorIq
import Derived.Test.YtknaemlnhediaaaGreatDoorLives
import Derived.Test.YtknaemlnhediaaaGreatDoorSlotsH
import Derived.Test.YtknaemlnhediaaaGreatDoorUsesH
namespace Go.Proofs.YtknaemlnhediaaaGreatDoor.c
open Go.RowKit
set_option linter.unusedVariables false
set_option maxRecDepth 100000
set_option maxHeartbeats 6400000
set_option linter.unusedSimpArgs false
theorem hLive_any (A : Option Addr) (cap : Nat) (l : List Rf) {len : Nat} (k : Int) (w : World) (hlen : len = l.length) (hA : RfAt w A l) (hl : len ≤ 9223372036854775806) (hc : len ≤ 48 → countR l ≤ 9223372036854775806) (hin : RgsIn l) :
  Calls Tryz.prog 50 #[.slice A len cap, .int .i64 k] w fun e w' => ∃ v, e = .returned (.tuple #[v, .int .i64 (numE l k)]) ∧ LsAt w' v (livesR l k) ∧ Ext w w' := by
 have HK := Lib.hid (hnumbered_any A cap l k w hlen hA hl hc hin)
 have HA := Lib.hid hA
 have HLn := Lib.hid hlen
 clear hA hc hin hlen
 by_cases h0 : numE l k = 0
 ·obtain ⟨hv, n, rfl, hn⟩ := numE_ok h0
  obtain ⟨f, hf⟩ : ∃ f, f = l.getD n default := ⟨_, rfl⟩
  have HR : Hid (livesR l n = livesL f.code f.code.length 6) := by unfold Hid livesR; rw [if_pos h0, Int.toNat_natCast, ← hf]
  obtain ⟨h48, _, hgood⟩ := validR_parts hv
  have GF : Hid (GoodF l f) := by rw [hf]; exact (hgood n hn).1
  obtain ⟨b, off, rfl, hb, _⟩ := HA.out.at_ (k := n) hn hf
  have HC : Hid (RgAt w f.A f.code) := HA.out.sub f (by rw [hf]; exact getD_mem hn)
  have k1 : (n : Int) < (len : Int) := by have := HLn.out; omega
  rw [h0] at HK ⊢
  rw [HR.out]
  have hfew := GF.out.few
  obtain ⟨nc, hnc⟩ : ∃ nc, nc = f.code.length := ⟨_, rfl⟩
  have HFC : Hid (∀ w', Ext w w' → b < w'.heap.size ∧ w'.cell? ⟨b, off + n * 9, none⟩ = some (.string f.name) ∧ w'.cell? ⟨b, off + n * 9 + 1, none⟩ = some (.int .i64 f.params) ∧ w'.cell? ⟨b, off + n * 9 + 2, none⟩ = some (.int .i64 f.regs) ∧ w'.cell? ⟨b, off + n * 9 + 3, none⟩ = some (.int .i64 f.ty.base) ∧
   w'.cell? ⟨b, off + n * 9 + 4, none⟩ = some (.int .i64 f.ty.bits) ∧ w'.cell? ⟨b, off + n * 9 + 5, none⟩ = some (.string f.ty.name) ∧ w'.cell? ⟨b, off + n * 9 + 6, none⟩ = some (.bool f.ty.opt) ∧ w'.cell? ⟨b, off + n * 9 + 7, none⟩ = some (.bool f.ty.err) ∧ w'.cell? ⟨b, off + n * 9 + 8, none⟩ = some (.slice f.A nc f.cap)) := fun w' x => (HA.out.ext x).cells hn hf hnc
  rw [← hnc] at hfew
  have HNC := Lib.hid hnc
  have hregs := GF.out.reg
  obtain ⟨mr, hmr⟩ : ∃ mr : Nat, f.regs = mr := ⟨f.regs.toNat, by omega⟩
  have HL6 := Lib.hid (livesL_six GF.out hmr)
  have hm6 : mr ≤ 6 := by omega
  have HLV : Hid (∀ (p r : Nat) w1, p < nc → Ext w w1 → Calls Tryz.prog 117 #[.agg #[.string f.name, .int .i64 f.params, .int .i64 f.regs, .int .i64 f.ty.base, .int .i64 f.ty.bits, .string f.ty.name, .bool f.ty.opt, .bool f.ty.err, .slice f.A nc f.cap], .int .i64 p, .int .i64 r] w1 fun e w' => e = .returned (.bool (liveB f.code p (r : Nat))) ∧ Ext w1 w') := fun p r w1 hp x => by
   have h := hlive_any l f p r w1 GF.out (HC.out.ext x) (by have := HNC.out; omega)
   unfold Rf.val at h
   rwa [← HNC.out] at h
  rw [hmr] at HFC HLV
  clear h0 hv hf h48 hgood hn HR hmr hregs hnc
  rw [HNC.out.symm, ← HL6.out]
  go_enter Tryz.func50, Tryz.ntmps50
  go_wp2_with (first
   | (go_at_call 107
      refine (HK.out).mono ?_
      rintro r w1 ⟨rfl, x1⟩
      have X1 := Lib.hid x1
      clear x1))
  go_loopw [7, 8] (fun v i wr => ∃ (j : Nat) (S : List Value), j ≤ nc ∧ i = .int .i64 j ∧ LsSt w1 wr v S (livesL f.code j mr)) (fun _ i _ => nc - (intOf i).toNat)
  case atStart => exact ⟨0, [], Nat.zero_le _, rfl, LsSt.start _⟩
  case round =>
   obtain ⟨j, S, hj, rfl, ls⟩ := hrel
   have LS := Lib.hid ls
   obtain ⟨hb1, c0, c1, c2, c3, c4, c5, c6, c7, c8⟩ := HFC.out wr (X1.out.trans ls.ext)
   clear ls
   by_cases hlt : j < nc
   ·rename World => wo
    go_wp2_with fail
    clear hb1 c0 c1 c2 c3 c4 c5 c6 c7 c8
    go_loopw [9, 10] (fun v i wq => ∃ q : Nat, q ≤ mr ∧ i = .int .i64 q ∧ OwnI wq wo.heap.size v (liveTo f.code j q) ∧ Ext wo wq) (fun _ i _ => mr - (intOf i).toNat)
    case atStart => exact ⟨0, Nat.zero_le _, rfl, OwnI.nil _ _, Ext.refl _⟩
    case round =>
     obtain ⟨q, hq, rfl, ow, hx⟩ := hrel
     have OW := Lib.hid ow
     have HX := Lib.hid hx
     obtain ⟨hb1, c0, c1, c2, c3, c4, c5, c6, c7, c8⟩ := HFC.out _ (X1.out.trans (LS.out.ext.trans hx))
     have hln := liveTo_len f.code j q
     have HS := Lib.hid (liveTo_succ f.code j q)
     clear ow hx
     by_cases hlq : q < mr
     ·obtain ⟨lb, hlb⟩ : ∃ lb, liveB f.code j (q : Nat) = lb := ⟨_, rfl⟩
      have HLW : Hid (∀ w1, Ext w w1 → Calls Tryz.prog 117 #[.agg #[.string f.name, .int .i64 f.params, .int .i64 mr, .int .i64 f.ty.base, .int .i64 f.ty.bits, .string f.ty.name, .bool f.ty.opt, .bool f.ty.err, .slice f.A nc f.cap], .int .i64 j, .int .i64 q] w1 fun e w' => e = .returned (.bool lb) ∧ Ext w1 w') := fun w1 x => by
       have h := HLV.out j q w1 hlt x
       rwa [hlb] at h
      rw [hlb] at HS
      clear hlb
      cases lb
      ·go_wp2_with (first
        | (go_at_call 117; refine (HLW.out _ (X1.out.trans (LS.out.ext.trans HX.out))).mono ?_; rintro e w5 ⟨rfl, x5⟩))
       case roundEnd => exact ⟨⟨q + 1, by omega, by go_num, by have h := HS.out; rw [if_neg (by decide), List.append_nil] at h; rw [h]; exact OW.out.ext x5, HX.out.trans x5⟩, by simp [intOf]; omega⟩
      ·go_wp2_with (first
        | (go_at_call 117; refine (HLW.out _ (X1.out.trans (LS.out.ext.trans HX.out))).mono ?_; rintro e w5 ⟨rfl, x5⟩; have X5 := Lib.hid x5; clear x5)
        | (at_builtin
           refine wpList_append_nums rfl _ _ rfl wo.heap.size _ (liveTo f.code j q) rfl (own_ext (OW.out.ext X5.out) ((Ext.refl _).alloc (.cells #[.int .i64 q] 3))) (some ⟨w5.heap.size, 0, none⟩) 1 [(q : Int)] rfl (nums_one w5 q) (by simp only [List.length_cons, List.length_nil]; omega) (by have := HX.out.size; have := X5.out.size; (try simp); omega) ?_
           intro v' w6 ow6 g6
           have OW6 := Lib.hid ow6
           have X6 := Lib.hid ((HX.out.trans (X5.out.alloc (.cells #[.int .i64 q] 3))).grown g6 (own_row (OW.out)))
           clear ow6 g6))
       case roundEnd => exact ⟨⟨q + 1, by omega, by go_num, by have h := HS.out; rw [if_pos trivial] at h; rw [h]; simpa [OwnI] using OW6.out, X6.out⟩, by simp [intOf]; omega⟩
     ·obtain rfl : q = mr := by omega
      have hs2 := livesL_len f.code j q
      obtain ⟨A9, c9, hv9, _⟩ := own_slice OW.out
      subst hv9
      obtain ⟨A7, c7', hv7, _⟩ := own_slice LS.out.own
      subst hv7
      have ST := Lib.hid ((LS.out.ext' HX.out))
      have HJ := Lib.hid (livesL_succ f.code j q)
      go_wp2_with (first
       | (at_builtin
          refine wpList_append_list rfl _ _ rfl _ _ S _ (liveTo f.code j q) rfl (ST.out.ext' ((Ext.refl _).alloc _)) _ rfl (by rw [(Blk.new _ _ _).cell]; rfl) (OW.out.ext ((Ext.refl _).alloc _)) (by omega) ?_
          intro v' w6 S6 ls6
          have L6 := Lib.hid ls6
          clear ls6))
      case roundEnd => exact ⟨⟨j + 1, S6, by omega, by go_num, by rw [HJ.out]; exact L6.out⟩, by simp [intOf]; omega⟩
   ·obtain rfl : j = nc := by omega
    go_wp2_with fail
    go_ret2
    exact ⟨_, rfl, LS.out.out, X1.out.trans LS.out.ext⟩
 ·have HR : Hid (livesR l k = []) := by unfold Hid livesR; rw [if_neg h0]
  rw [HR.out]
  have hb : (numE l k != 0) = true := by simpa using h0
  obtain ⟨er, her⟩ : ∃ er, er = numE l k := ⟨_, rfl⟩
  rw [← her] at hb HK ⊢
  clear h0 her
  go_enter Tryz.func50, Tryz.ntmps50
  go_wp2_with (first | (go_at_call 107; refine (HK.out).mono ?_; rintro r w1 ⟨rfl, x1⟩))
  go_ret2
  exact ⟨_, rfl, LsAt.nil _, x1⟩
theorem hisDead_any (l : List Rf) (f : Rf) (p : Nat) (w : World) (g : GoodF l f) (hC : RgAt w f.A f.code) (hp : p < f.code.length) :
  Calls Tryz.prog 119 #[f.val, .int .i64 p] w fun e w' => e = .returned (.bool (deadB f.code p)) ∧ Ext w w' := by
 obtain ⟨nc, hn⟩ : ∃ nc, nc = f.code.length := ⟨_, rfl⟩
 have hfew : nc ≤ 6000 := by have := g.few; omega
 obtain ⟨b, off, hA, hb, _⟩ := hC.top (by omega)
 obtain ⟨x, hx⟩ : ∃ x, x = f.code.getD p default := ⟨_, rfl⟩
 have HLV : Hid (∀ r w1, Ext w w1 → Calls Tryz.prog 117 #[.agg #[.string f.name, .int .i64 f.params, .int .i64 f.regs, .int .i64 f.ty.base, .int .i64 f.ty.bits, .string f.ty.name, .bool f.ty.opt, .bool f.ty.err, .slice f.A nc f.cap], .int .i64 p, .int .i64 r] w1 fun e w' => e = .returned (.bool (liveB f.code p r)) ∧ Ext w1 w') := fun r w1 x => by
  have h := hlive_any l f p r w1 g (hC.ext x) hp
  unfold Rf.val at h
  rwa [← hn] at h
 have HDB : Hid (deadB f.code p = (idleB x.op && !liveB f.code p x.d)) := by unfold Hid; rw [deadB_eq, ← hx]
 unfold Rf.val
 rw [← hn]
 rw [hA] at hC HLV ⊢
 obtain ⟨hb1, d0, d1, d2, d3, d4, d5, d6, d7, d8, d9, d10⟩ := hC.cells hp hx
 have hpn : p < nc := by omega
 have HZ : Hid ((Tryz.prog.info? 67).map (·.size) = some 11) := by unfold Hid; kernel_rfl
 obtain ⟨lb, hlb⟩ : ∃ lb, liveB f.code p x.d = lb := ⟨_, rfl⟩
 have HL : Hid (∀ w1, Ext w w1 → Calls Tryz.prog 117 #[.agg #[.string f.name, .int .i64 f.params, .int .i64 f.regs, .int .i64 f.ty.base, .int .i64 f.ty.bits, .string f.ty.name, .bool f.ty.opt, .bool f.ty.err, .slice (some ⟨b, off, none⟩) nc f.cap], .int .i64 p, .int .i64 x.d] w1 fun e w' => e = .returned (.bool lb) ∧ Ext w1 w') := fun w1 xx => by have h := HLV.out x.d w1 xx; rwa [hlb] at h
 rw [hlb] at HDB
 rw [HDB.out]
 clear hC hp hn hx hA HLV hlb g hb HDB
 cases hid : idleB x.op with
 | true =>
  obtain ⟨t0, h0⟩ : ∃ t, (x.op == 0) = t := ⟨_, rfl⟩
  obtain ⟨t1, h1⟩ : ∃ t, (x.op == 1) = t := ⟨_, rfl⟩
  obtain ⟨t2, h2⟩ : ∃ t, (x.op == 2) = t := ⟨_, rfl⟩
  obtain ⟨t3, h3⟩ : ∃ t, (x.op == 3) = t := ⟨_, rfl⟩
  obtain ⟨t6, h6⟩ : ∃ t, (x.op == 6) = t := ⟨_, rfl⟩
  obtain ⟨t16, h16⟩ : ∃ t, (x.op == 16) = t := ⟨_, rfl⟩
  unfold idleB at hid
  rw [h0, h1, h2, h3, h6, h16] at hid
  cases t0
  case' false => cases t1
  case' false.false => cases t2
  case' false.false.false => cases t3
  case' false.false.false.false => cases t6
  case' false.false.false.false.false => cases t16
  case false.false.false.false.false.false => cases hid
  all_goals
   clear hid
   go_enter Tryz.func119, Tryz.ntmps119
   go_wp2_with (first
    | (go_at_call 117; (with_reducible refine (HL.out _ exA).mono ?_); rintro e w5 ⟨rfl, x5⟩))
   go_ret
   exact ⟨ret_bool (by first | rfl | simp), exA⟩
 | false =>
  unfold idleB at hid
  simp only [Bool.or_eq_false_iff] at hid
  obtain ⟨h0, h1, h2, h3, h6, h16⟩ := hid
  go_enter Tryz.func119, Tryz.ntmps119
  go_wp2_with fail
  go_ret
  exact ⟨rfl, exA⟩
theorem hDead_any (A : Option Addr) (cap : Nat) (l : List Rf) {len : Nat} (k : Int) (w : World) (hlen : len = l.length) (hA : RfAt w A l) (hl : len ≤ 9223372036854775806) (hc : len ≤ 48 → countR l ≤ 9223372036854775806) (hin : RgsIn l) :
  Calls Tryz.prog 52 #[.slice A len cap, .int .i64 k] w fun e w' => ∃ v, e = .returned (.tuple #[v, .int .i64 (numE l k)]) ∧ IntsAt w' v (deadR l k) ∧ Ext w w' := by
 have HK := Lib.hid (hnumbered_any A cap l k w hlen hA hl hc hin)
 have HA := Lib.hid hA
 have HLn := Lib.hid hlen
 clear hA hc hin hlen
 by_cases h0 : numE l k = 0
 ·obtain ⟨hv, n, rfl, hn⟩ := numE_ok h0
  obtain ⟨f, hf⟩ : ∃ f, f = l.getD n default := ⟨_, rfl⟩
  have HR : Hid (deadR l n = deadTo f.code f.code.length) := by unfold Hid deadR; rw [if_pos h0, Int.toNat_natCast, ← hf]
  obtain ⟨h48, _, hgood⟩ := validR_parts hv
  have GF : Hid (GoodF l f) := by rw [hf]; exact (hgood n hn).1
  obtain ⟨b, off, rfl, hb, _⟩ := HA.out.at_ (k := n) hn hf
  have HC : Hid (RgAt w f.A f.code) := HA.out.sub f (by rw [hf]; exact getD_mem hn)
  have k1 : (n : Int) < (len : Int) := by have := HLn.out; omega
  rw [h0] at HK ⊢
  rw [HR.out]
  have hfew := GF.out.few
  obtain ⟨nc, hnc⟩ : ∃ nc, nc = f.code.length := ⟨_, rfl⟩
  have HFC : Hid (∀ w', Ext w w' → b < w'.heap.size ∧ w'.cell? ⟨b, off + n * 9, none⟩ = some (.string f.name) ∧ w'.cell? ⟨b, off + n * 9 + 1, none⟩ = some (.int .i64 f.params) ∧ w'.cell? ⟨b, off + n * 9 + 2, none⟩ = some (.int .i64 f.regs) ∧ w'.cell? ⟨b, off + n * 9 + 3, none⟩ = some (.int .i64 f.ty.base) ∧
   w'.cell? ⟨b, off + n * 9 + 4, none⟩ = some (.int .i64 f.ty.bits) ∧ w'.cell? ⟨b, off + n * 9 + 5, none⟩ = some (.string f.ty.name) ∧ w'.cell? ⟨b, off + n * 9 + 6, none⟩ = some (.bool f.ty.opt) ∧ w'.cell? ⟨b, off + n * 9 + 7, none⟩ = some (.bool f.ty.err) ∧ w'.cell? ⟨b, off + n * 9 + 8, none⟩ = some (.slice f.A nc f.cap)) := fun w' x => (HA.out.ext x).cells hn hf hnc
  rw [← hnc] at hfew
  have HNC := Lib.hid hnc
  have HDD : Hid (∀ (p : Nat) w1, p < nc → Ext w w1 → Calls Tryz.prog 119 #[.agg #[.string f.name, .int .i64 f.params, .int .i64 f.regs, .int .i64 f.ty.base, .int .i64 f.ty.bits, .string f.ty.name, .bool f.ty.opt, .bool f.ty.err, .slice f.A nc f.cap], .int .i64 p] w1 fun e w' => e = .returned (.bool (deadB f.code p)) ∧ Ext w1 w') := fun p w1 hp x => by
   have h := hisDead_any l f p w1 GF.out (HC.out.ext x) (by have := HNC.out; omega)
   unfold Rf.val at h
   rwa [← HNC.out] at h
  clear h0 hv hf h48 hgood hn HR hnc
  rw [HNC.out.symm]
  go_enter Tryz.func52, Tryz.ntmps52
  go_wp2_with (first
   | (go_at_call 107
      refine (HK.out).mono ?_
      rintro r w1 ⟨rfl, x1⟩
      have X1 := Lib.hid x1
      clear x1))
  go_loopw [7, 8] (fun v i wr => ∃ j : Nat, j ≤ nc ∧ i = .int .i64 j ∧ OwnI wr w1.heap.size v (deadTo f.code j) ∧ Ext w1 wr) (fun _ i _ => nc - (intOf i).toNat)
  case atStart => exact ⟨0, Nat.zero_le _, rfl, OwnI.nil _ _, Ext.refl _⟩
  case round =>
   obtain ⟨j, hj, rfl, ow, hx⟩ := hrel
   have OW := Lib.hid ow
   have HX := Lib.hid hx
   obtain ⟨hb1, c0, c1, c2, c3, c4, c5, c6, c7, c8⟩ := HFC.out wr (X1.out.trans hx)
   have hln := deadTo_len f.code j
   have HS := Lib.hid (deadTo_succ f.code j)
   clear ow hx
   by_cases hlt : j < nc
   ·obtain ⟨db, hdb⟩ : ∃ db, deadB f.code j = db := ⟨_, rfl⟩
    have HDW : Hid (∀ w1, Ext w w1 → Calls Tryz.prog 119 #[.agg #[.string f.name, .int .i64 f.params, .int .i64 f.regs, .int .i64 f.ty.base, .int .i64 f.ty.bits, .string f.ty.name, .bool f.ty.opt, .bool f.ty.err, .slice f.A nc f.cap], .int .i64 j] w1 fun e w' => e = .returned (.bool db) ∧ Ext w1 w') := fun w1 x => by
     have h := HDD.out j w1 hlt x
     rwa [hdb] at h
    rw [hdb] at HS
    clear hdb
    cases db
    ·go_wp2_with (first
      | (go_at_call 119; refine (HDW.out _ (X1.out.trans HX.out)).mono ?_; rintro e w5 ⟨rfl, x5⟩))
     case roundEnd => exact ⟨⟨j + 1, by omega, by go_num, by have h := HS.out; rw [if_neg (by decide), List.append_nil] at h; rw [h]; exact OW.out.ext x5, HX.out.trans x5⟩, by simp [intOf]; omega⟩
    ·go_wp2_with (first
      | (go_at_call 119; refine (HDW.out _ (X1.out.trans HX.out)).mono ?_; rintro e w5 ⟨rfl, x5⟩; have X5 := Lib.hid x5; clear x5)
      | (at_builtin
         refine wpList_append_nums rfl _ _ rfl w1.heap.size _ (deadTo f.code j) rfl (own_ext (OW.out.ext X5.out) ((Ext.refl _).alloc (.cells #[.int .i64 j] 3))) (some ⟨w5.heap.size, 0, none⟩) 1 [(j : Int)] rfl (nums_one w5 j) (by simp only [List.length_cons, List.length_nil]; omega) (by have := HX.out.size; have := X5.out.size; (try simp); omega) ?_
         intro v' w6 ow6 g6
         have OW6 := Lib.hid ow6
         have X6 := Lib.hid ((HX.out.trans (X5.out.alloc (.cells #[.int .i64 j] 3))).grown g6 (own_row (OW.out)))
         clear ow6 g6))
     case roundEnd => exact ⟨⟨j + 1, by omega, by go_num, by have h := HS.out; rw [if_pos trivial] at h; rw [h]; simpa [OwnI] using OW6.out, X6.out⟩, by simp [intOf]; omega⟩
   ·obtain rfl : j = nc := by omega
    go_wp2_with fail
    go_ret2
    exact ⟨_, rfl, own_ints OW.out, X1.out.trans HX.out⟩
 ·have HR : Hid (deadR l k = []) := by unfold Hid deadR; rw [if_neg h0]
  rw [HR.out]
  have hb : (numE l k != 0) = true := by simpa using h0
  obtain ⟨er, her⟩ : ∃ er, er = numE l k := ⟨_, rfl⟩
  rw [← her] at hb HK ⊢
  clear h0 her
  go_enter Tryz.func52, Tryz.ntmps52
  go_wp2_with (first | (go_at_call 107; refine (HK.out).mono ?_; rintro r w1 ⟨rfl, x1⟩))
  go_ret2
  exact ⟨_, rfl, IntsAt.nil _, x1⟩
theorem enters_hints : Enters 38 := Enters.of Tryz.func38 (by kernel_rfl) (by kernel_rfl)
theorem hsameLists_any (v1 v2 : Value) (Ls : List (List Int)) (w : World) (h1 : LsAt w v1 Ls) (h2 : LsAt w v2 Ls) (hl : Ls.length ≤ 9223372036854775806) (hi : ∀ i, i < Ls.length → (Ls.getD i []).length ≤ 9223372036854775806) :
  Calls Tryz.prog 53 #[v1, v2] w fun e w' => e = .returned (.bool true) ∧ Ext w w' := by
 obtain ⟨A1, c1, S1, rfl, a1, r1⟩ := h1
 obtain ⟨A2, c2, S2, rfl, a2, r2⟩ := h2
 have H1 := Lib.hid a1
 have H2 := Lib.hid a2
 have R1 := Lib.hid r1
 have R2 := Lib.hid r2
 have HI := Lib.hid hi
 obtain ⟨n, hn⟩ : ∃ n, n = Ls.length := ⟨_, rfl⟩
 have HN := Lib.hid hn
 rw [← hn] at hl ⊢
 clear a1 a2 r1 r2 hi hn
 go_enter Tryz.func53, Tryz.ntmps53
 go_wp2_with fail
 go_loopw [5] (fun i wr => ∃ k : Nat, k ≤ n ∧ i = .int .i64 k ∧ Ext w wr) (fun i _ => n - (intOf i).toNat)
 case atStart => exact ⟨0, Nat.zero_le _, rfl, Ext.refl _⟩
 case round =>
  obtain ⟨k, hk, rfl, hx⟩ := hrel
  have HX := Lib.hid hx
  by_cases hlt : k < n
  ·have hkl : k < Ls.length := by have := HN.out; omega
   obtain ⟨b1, o1, rfl, hb1, d1⟩ := H1.out.one hkl
   obtain ⟨b2, o2, rfl, hb2, d2⟩ := H2.out.one hkl
   obtain ⟨x1, y1, e1, q1⟩ := R1.out k hkl
   obtain ⟨x2, y2, e2, q2⟩ := R2.out k hkl
   rw [e1] at d1
   rw [e2] at d2
   obtain ⟨L, hL⟩ : ∃ L, L = Ls.getD k [] := ⟨_, rfl⟩
   have hll := HI.out k hkl
   rw [← hL] at d1 d2 q1 q2 hll
   have HC : Hid (∀ w', Ext wr w' → Calls Tryz.prog 38 #[.slice x1 L.length y1, .slice x2 L.length y2] w' fun e w'' => e = .returned (.bool true) ∧ Ext wr w'') := fun w' xx =>
    (hsameInts_any (.slice x1 L.length y1) (.slice x2 L.length y2) L w' ⟨x1, y1, rfl, q1.ext (HX.out.trans xx)⟩ ⟨x2, y2, rfl, q2.ext (HX.out.trans xx)⟩ hll).mono fun e w'' ⟨h, x⟩ => ⟨h, xx.trans x⟩
   have HD : Hid (∀ w', Ext wr w' → b1 < w'.heap.size ∧ b2 < w'.heap.size ∧ w'.cell? ⟨b1, o1 + k, none⟩ = some (.slice x1 L.length y1) ∧ w'.cell? ⟨b2, o2 + k, none⟩ = some (.slice x2 L.length y2)) := fun w' xx => by
    have x := HX.out.trans xx
    exact ⟨Nat.lt_of_lt_of_le hb1 x.size, Nat.lt_of_lt_of_le hb2 x.size, (x.cell (p := ⟨b1, _, none⟩) hb1).trans d1, (x.cell (p := ⟨b2, _, none⟩) hb2).trans d2⟩
   clear d1 d2 e1 e2 q1 q2 hL hll hx hb1 hb2
   go_wp2_with fail
   have HST : ∀ (i : Nat) (l : Array Bool) (w' : World), Ext wr w' ↔ Ext wr w' := fun _ _ _ => Iff.rfl
   refine flow_begin (fun _ w' => Ext wr w') #[false, false, false, false, false, false, false, false, false, false] rfl (by kernel_rfl) (fun _ _ _ _ _ h => h) ((Ext.refl _).drew) (fun HQ => ?_)
   (refine tp 0 17 rfl HQ (HST 0) ?_; try simp only [putL, List.set])
   (refine tp 1 18 rfl HQ (HST 1) ?_; try simp only [putL, List.set])
   (refine tp 2 19 rfl HQ (HST 2) ?_; try simp only [putL, List.set])
   (refine tt 3 20 rfl HQ (HST 3) ?_; try simp only [putL, List.set])
   (refine tp 4 21 rfl HQ (HST 4) ?_; try simp only [putL, List.set])
   (refine tp 5 22 rfl HQ (HST 5) ?_; try simp only [putL, List.set])
   (refine tp 6 23 rfl HQ (HST 6) ?_; try simp only [putL, List.set])
   (refine tt 7 24 rfl HQ (HST 7) ?_; try simp only [putL, List.set])
   (refine tc 8 25 rfl (by kernel_rfl) HQ (HST 8) (by rfl) (fun l w' hF => ?_) (fun l w' hF => HC.out w' hF) ?_; (focus (have hq := HD.out _ hF; go_simp; try simp only [enters_hints _ _])); try simp only [putL, List.set])
   (refine tp 9 26 rfl HQ (HST 9) ?_; try simp only [putL, List.set])
   refine flow_done (by kernel_rfl) (fun w3 x3 => ?_)
   go_wp2_with fail
   case roundEnd => exact ⟨⟨k + 1, by omega, by go_num, HX.out.trans x3⟩, by simp [intOf]; omega⟩
  ·go_wp2_with fail
   go_ret
   exact ⟨rfl, HX.out⟩
end Go.Proofs.YtknaemlnhediaaaGreatDoor.c
