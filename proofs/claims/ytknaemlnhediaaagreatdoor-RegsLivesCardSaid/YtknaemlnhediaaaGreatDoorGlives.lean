/- Contracts of the program's set.list, Live, dead and Dead. The table strings.asciiSpace holds what its text lays; lengths are bounded. -/
import Derived.Test.YtknaemlnhediaaaGreatDoorGlive
import Derived.Test.YtknaemlnhediaaaGreatDoorIq
import Derived.Test.YtknaemlnhediaaaGreatDoorLives
import Derived.Test.YtknaemlnhediaaaGreatDoorSlotsH
namespace Go.Proofs.YtknaemlnhediaaaGreatDoor.c
open Go.RowKit
set_option linter.unusedVariables false
set_option maxRecDepth 100000
set_option maxHeartbeats 12800000
set_option linter.unusedSimpArgs false
def setTo (s : Nat → Bool) (n : Nat) : List Int := ((List.range n).filter s).map fun i : Nat => (i : Int)
theorem setTo_succ (s : Nat → Bool) (n : Nat) : setTo s (n + 1) = setTo s n ++ if s n = true then [(n : Int)] else [] := by
 unfold setTo
 rw [List.range_succ, List.filter_append, List.map_append]
 congr 1
 by_cases h : s n = true <;> simp [h]
theorem setTo_len (s : Nat → Bool) (n : Nat) : (setTo s n).length ≤ n := by
 unfold setTo
 have := List.length_filter_le s (List.range n)
 simpa using this
theorem setTo_live {c : List Rg} {p : Nat} {s : Nat → Bool} : ∀ {n : Nat}, n ≤ 6 → (∀ r, r < 6 → s r = liveB c p (r : Nat)) → setTo s n = liveTo c p n
 | 0, _, _ => rfl
 | n + 1, hn, h => by rw [setTo_succ, liveTo_succ, setTo_live (by omega) h, h n (by omega)]
theorem idx_set (w : World) (s : Nat → Bool) (i : Nat) (hi : i < 6) : (Instr.index 175 (.agg #[.bool (s 0), .bool (s 1), .bool (s 2), .bool (s 3), .bool (s 4), .bool (s 5)]) (.int .i64 i)).run Tryz.prog w = .ok (.bool (s i)) w := by
 rcases (show i = 0 ∨ i = 1 ∨ i = 2 ∨ i = 3 ∨ i = 4 ∨ i = 5 by omega) with rfl | rfl | rfl | rfl | rfl | rfl
 all_goals simp [Instr.index, run_underlying Tryz.underlying175, asIntOf, part, Tryz.isAgg4, Tryz.sizeOf4, go_sem]
theorem glist_any (s : Nat → Bool) (w : World) :
  Calls Tryz.prog 116 #[.agg #[.bool (s 0), .bool (s 1), .bool (s 2), .bool (s 3), .bool (s 4), .bool (s 5)]] w fun e w' => ∃ v, e = .returned v ∧ OwnI w' w.heap.size v (setTo s 6) ∧ Ext w w' := by
 have HI : Hid (∀ (i : Nat), i < 6 → ∀ w, (Instr.index 175 (.agg #[.bool (s 0), .bool (s 1), .bool (s 2), .bool (s 3), .bool (s 4), .bool (s 5)]) (.int .i64 i)).run Tryz.prog w = .ok (.bool (s i)) w) := fun i hi w => idx_set w s i hi
 obtain ⟨s0, h0⟩ : ∃ b, b = s 0 := ⟨_, rfl⟩
 obtain ⟨s1, h1⟩ : ∃ b, b = s 1 := ⟨_, rfl⟩
 obtain ⟨s2, h2⟩ : ∃ b, b = s 2 := ⟨_, rfl⟩
 obtain ⟨s3, h3⟩ : ∃ b, b = s 3 := ⟨_, rfl⟩
 obtain ⟨s4, h4⟩ : ∃ b, b = s 4 := ⟨_, rfl⟩
 obtain ⟨s5, h5⟩ : ∃ b, b = s 5 := ⟨_, rfl⟩
 rw [← h0, ← h1, ← h2, ← h3, ← h4, ← h5] at HI ⊢
 clear h0 h1 h2 h3 h4 h5
 go_enter Tryz.func116, Tryz.ntmps116
 go_wp2_with fail
 go_loopw [3, 7] (fun v i wr => ∃ q : Nat, q ≤ 6 ∧ i = .int .i64 q ∧ OwnI wr w.heap.size v (setTo s q) ∧ Ext w wr) (fun _ i _ => 6 - (intOf i).toNat)
 case atStart => exact ⟨0, Nat.zero_le _, rfl, OwnI.nil _ _, (Ext.refl _).alloc _⟩
 case round =>
  obtain ⟨q, hq, rfl, ow, hx⟩ := hrel
  have OW := Lib.hid ow
  have HX := Lib.hid hx
  have hln := setTo_len s q
  have HS := Lib.hid (setTo_succ s q)
  clear ow hx
  by_cases hlt : q < 6
  ·have hix := HI.out q hlt
   obtain ⟨sb, hsb⟩ : ∃ b, s q = b := ⟨_, rfl⟩
   rw [hsb] at HS hix
   clear hsb
   cases sb
   ·go_wp2_with fail
    case roundEnd => exact ⟨⟨q + 1, by omega, by go_num, by have h := HS.out; rw [if_neg (by decide), List.append_nil] at h; rw [h]; exact OW.out, HX.out⟩, by simp [intOf]; omega⟩
   ·go_wp2_with (first
     | (at_builtin
        refine wpList_append_nums rfl _ _ rfl w.heap.size _ (setTo s q) rfl (own_ext OW.out ((Ext.refl _).alloc (.cells #[.int .i64 q] 3))) (some ⟨wr.heap.size, 0, none⟩) 1 [(q : Int)] rfl (nums_one wr q) (by simp only [List.length_cons, List.length_nil]; omega) (by have := HX.out.size; (try simp); omega) ?_
        intro v' w6 ow6 g6
        have OW6 := Lib.hid ow6
        have X6 := Lib.hid ((HX.out.alloc (.cells #[.int .i64 q] 3)).grown g6 (own_row (OW.out)))
        clear ow6 g6))
    case roundEnd => exact ⟨⟨q + 1, by omega, by go_num, by have h := HS.out; rw [if_pos rfl] at h; rw [h]; simpa [OwnI] using OW6.out, X6.out⟩, by simp [intOf]; omega⟩
  ·obtain rfl : q = 6 := by omega
   go_wp2_with fail
   go_ret
   exact ⟨_, rfl, OW.out, HX.out⟩
theorem gLive_any (A : Option Addr) (cap : Nat) (l : List Rf) {len : Nat} (k : Int) (w : World) (g : Laid w) (hlen : len = l.length) (hA : RfAt w A l) (hl : len ≤ 9223372036854775806) (hc : len ≤ 48 → countR l ≤ 9223372036854775806) (hin : RgsIn l) :
  Calls Tryz.prog 49 #[.slice A len cap, .int .i64 k] w fun e w' => ∃ v, e = .returned (.tuple #[v, .int .i64 (numE l k)]) ∧ LsAt w' v (livesR l k) ∧ Ext w w' := by
 have HK := Lib.hid (gknown_any A cap l k w g hlen hA hl hc hin)
 have HA := Lib.hid hA
 have HLn := Lib.hid hlen
 clear hA hc hin hlen g
 by_cases h0 : numE l k = 0
 ·obtain ⟨hv, n, rfl, hn⟩ := numE_ok h0
  obtain ⟨f, hf⟩ : ∃ f, f = l.getD n default := ⟨_, rfl⟩
  have HR : Hid (livesR l n = livesL f.code f.code.length 6) := by unfold Hid livesR; rw [if_pos h0, Int.toNat_natCast, ← hf]
  obtain ⟨h48, _, hgood⟩ := validR_parts hv
  have GF : Hid (GoodF l f) := by rw [hf]; exact (hgood n hn).1
  obtain ⟨b, off, rfl, hb, _⟩ := HA.out.at_ (k := n) hn hf
  have HC : Hid (RgAt w f.A f.code) := HA.out.sub f (by rw [hf]; exact getD_mem hn)
  have k1 : (n : Int) < (len : Int) := by have := HLn.out; omega
  rw [h0] at HK ⊢
  rw [HR.out]
  have hfew := GF.out.few
  obtain ⟨nc, hnc⟩ : ∃ nc, nc = f.code.length := ⟨_, rfl⟩
  have HFC : Hid (∀ w', Ext w w' → b < w'.heap.size ∧ w'.cell? ⟨b, off + n * 9, none⟩ = some (.string f.name) ∧ w'.cell? ⟨b, off + n * 9 + 1, none⟩ = some (.int .i64 f.params) ∧ w'.cell? ⟨b, off + n * 9 + 2, none⟩ = some (.int .i64 f.regs) ∧ w'.cell? ⟨b, off + n * 9 + 3, none⟩ = some (.int .i64 f.ty.base) ∧
   w'.cell? ⟨b, off + n * 9 + 4, none⟩ = some (.int .i64 f.ty.bits) ∧ w'.cell? ⟨b, off + n * 9 + 5, none⟩ = some (.string f.ty.name) ∧ w'.cell? ⟨b, off + n * 9 + 6, none⟩ = some (.bool f.ty.opt) ∧ w'.cell? ⟨b, off + n * 9 + 7, none⟩ = some (.bool f.ty.err) ∧ w'.cell? ⟨b, off + n * 9 + 8, none⟩ = some (.slice f.A nc f.cap)) := fun w' x => (HA.out.ext x).cells hn hf hnc
  rw [← hnc] at hfew
  have HNC := Lib.hid hnc
  have HLV : Hid (∀ w1, Ext w w1 → Calls Tryz.prog 115 #[.agg #[.string f.name, .int .i64 f.params, .int .i64 f.regs, .int .i64 f.ty.base, .int .i64 f.ty.bits, .string f.ty.name, .bool f.ty.opt, .bool f.ty.err, .slice f.A nc f.cap]] w1 fun e w' => ∃ (b : Nat) (H : List (Nat → Bool)), w1.heap.size ≤ b ∧ e = .returned (.slice (some ⟨b, 0, none⟩) nc nc) ∧ H.length = nc ∧ RecRow w' b 175 6 setC H ∧ (∀ p, p < nc → ∀ r, r < 6 → tabB H p r = liveB f.code p (r : Nat)) ∧ Ext w1 w') := fun w1 x => by
   have h := glive_any l f w1 GF.out (HC.out.ext x)
   unfold Rf.val at h
   rwa [← HNC.out] at h
  have HZ6 : Hid ((Tryz.prog.info? 175).map (·.size) = some 6) := by unfold Hid; kernel_rfl
  clear h0 hv hf h48 hgood hn HR hnc
  rw [HNC.out.symm]
  go_enter Tryz.func49, Tryz.ntmps49
  go_wp2_with (first
   | (go_at_call 104
      refine (HK.out).mono ?_
      rintro r w1 ⟨rfl, x1⟩
      have X1 := Lib.hid x1
      obtain ⟨hb1, c0, c1, c2, c3, c4, c5, c6, c7, c8⟩ := HFC.out w1 x1
      clear x1)
   | (go_at_call 115
      refine (HLV.out _ X1.out).mono ?_
      rintro r w2 ⟨gH, H, _, rfl, hHl, hrow, hlv, x2⟩
      have HHL := Lib.hid hHl
      have HRW := Lib.hid hrow
      have HLB := Lib.hid hlv
      have X2 := Lib.hid (X1.out.trans x2)
      clear hHl hrow hlv x2))
  clear hb1 c0 c1 c2 c3 c4 c5 c6 c7 c8
  go_loopw [7, 22] (fun v i wr => ∃ (j : Nat) (S : List Value), j ≤ nc ∧ i = .int .i64 j ∧ LsSt w2 wr v S (livesL f.code j 6)) (fun _ i _ => nc - (intOf i).toNat)
  case atStart => exact ⟨0, [], Nat.zero_le _, rfl, LsSt.start _⟩
  case round =>
   obtain ⟨j, S, hj, rfl, ls⟩ := hrel
   have LS := Lib.hid ls
   obtain ⟨A7, c7', hv7, _⟩ := own_slice ls.own
   subst hv7
   have hs2 := livesL_len f.code j 6
   have HJ := Lib.hid (livesL_succ f.code j 6)
   by_cases hlt : j < nc
   ·obtain ⟨s, hs⟩ : ∃ s, s = H.getD j default := ⟨_, rfl⟩
    obtain ⟨y0, y1, y2, y3, y4, y5⟩ := (HRW.out.ext ls.ext).six (by have := HHL.out; omega) hs
    have zH := (HRW.out.ext ls.ext).lt
    have HTO : Hid (setTo s 6 = liveTo f.code j 6) := setTo_live (Nat.le_refl _) (fun r hr => by
     have h := HLB.out j hlt r hr
     rw [← h, hs]
     unfold tabB
     rw [List.getD, List.getD, List.getElem?_eq_getElem (by have := HHL.out; omega)]
     rfl)
    clear ls hs
    go_wp2_with (first
     | ((with_reducible show wpList _ _ _ (Oper.mk none (.store 175 (.tmp 9) (.tmp 25)) _ _ _ _ :: _) _ _)
        refine store_new 175 _ _ rfl _ _ rfl rfl rfl rfl HZ6.out (by intro v hv; simp at hv; rcases hv with rfl | rfl | rfl | rfl | rfl | rfl <;> rfl) ?_
        intro w3 x3 B3
        have L3 := Lib.hid (LS.out.ext' x3)
        obtain ⟨e0, e1, e2, e3, e4, e5⟩ := Blk.six (o := s) B3
        have zb := B3.lt
        clear B3 x3)
     | (go_at_call 116
        refine (glist_any s _).mono ?_
        rintro r w5 ⟨v5, rfl, o5, x5⟩
        obtain ⟨A5, c5', hv5, _⟩ := own_slice o5
        subst hv5
        have O5 := Lib.hid o5
        have L5 := Lib.hid (L3.out.ext' x5)
        clear o5 x5)
     | (at_builtin
        refine wpList_append_list rfl _ _ rfl _ _ S _ (setTo s 6) rfl (L5.out.ext' ((Ext.refl _).alloc _)) _ rfl (by rw [(Blk.new _ _ _).cell]; rfl) (O5.out.ext ((Ext.refl _).alloc _)) (by omega) ?_
        intro v' w6 S6 ls6
        have L6 := Lib.hid ls6
        clear ls6))
    case roundEnd => exact ⟨⟨j + 1, S6, by omega, by go_num, by rw [HJ.out, ← HTO.out]; exact L6.out⟩, by simp [intOf]; omega⟩
   ·obtain rfl : j = nc := by omega
    clear ls
    go_wp2_with fail
    go_ret2
    exact ⟨_, rfl, LS.out.out, X2.out.trans LS.out.ext⟩
 ·have HR : Hid (livesR l k = []) := by unfold Hid livesR; rw [if_neg h0]
  rw [HR.out]
  have hb : (numE l k != 0) = true := by simpa using h0
  obtain ⟨er, her⟩ : ∃ er, er = numE l k := ⟨_, rfl⟩
  rw [← her] at hb HK ⊢
  clear h0 her
  go_enter Tryz.func49, Tryz.ntmps49
  go_wp2_with (first | (go_at_call 104; refine (HK.out).mono ?_; rintro r w1 ⟨rfl, x1⟩))
  go_ret2
  exact ⟨_, rfl, LsAt.nil _, x1⟩
noncomputable def deadF (c : List Rg) (j : Nat) : Nat → Value := fun z => .bool (decide (z < j) && deadB c z)
structure DdSt (w0 w : World) (bx gn gH n : Nat) (F : Array Value) (T : List (Nat → Bool)) (c : List Rg) (j : Nat) : Prop where
 ext : Ext w0 w
 box : Blk w bx 59 F
 row : RowAt w gn 4 n (deadF c j)
 tab : RecRow w gH 175 6 setC T
 lo : w0.heap.size ≤ bx ∧ bx < gn ∧ gn < gH
section
variable {w0 w w' : World} {bx gn gH n : Nat} {F : Array Value} {T : List (Nat → Bool)} {c : List Rg} {j : Nat}
theorem DdSt.ext' (s : DdSt w0 w bx gn gH n F T c j) (x : Ext w w') : DdSt w0 w' bx gn gH n F T c j := ⟨s.ext.trans x, s.box.ext x, s.row.ext x, s.tab.ext x, s.lo⟩
theorem DdSt.skip (s : DdSt w0 w bx gn gH n F T c j) (h : deadB c j = false) : DdSt w0 w bx gn gH n F T c (j + 1) := by
 refine ⟨s.ext, s.box, s.row.same fun z hz => ?_, s.tab, s.lo⟩
 unfold deadF
 by_cases e : z = j
 ·subst e; rw [h]; simp
 ·congr 2
  exact decide_eq_decide.2 (by omega)
theorem DdSt.mark (s : DdSt w0 w bx gn gH n F T c j) {b : Bool} (h : deadB c j = b) : DdSt w0 (w.setCell ⟨gn, j, none⟩ (.bool b)) bx gn gH n F T c (j + 1) := by
 have h2 := s.lo
 refine ⟨s.ext.setCell (by show _ ≤ gn; omega) _, s.box.far (by show bx ≠ gn; omega) _, s.row.set_ fun z hz => ?_, s.tab.far (by show gH ≠ gn; omega) _, s.lo⟩
 unfold deadF
 by_cases e : z = j
 ·subst e; rw [if_pos rfl, h]; simp
 ·rw [if_neg e]
  congr 2
  exact decide_eq_decide.2 (by omega)
theorem DdSt.fcells (s : DdSt w0 w bx gn gH n F T c j) {a0 a1 a2 a3 a4 a5 a6 a7 a8 : Value} (h : F = #[a0, a1, a2, a3, a4, a5, a6, a7, a8]) :
  w.cell? ⟨bx, 0, none⟩ = some a0 ∧ w.cell? ⟨bx, 1, none⟩ = some a1 ∧ w.cell? ⟨bx, 2, none⟩ = some a2 ∧ w.cell? ⟨bx, 3, none⟩ = some a3 ∧ w.cell? ⟨bx, 4, none⟩ = some a4 ∧ w.cell? ⟨bx, 5, none⟩ = some a5 ∧ w.cell? ⟨bx, 6, none⟩ = some a6 ∧ w.cell? ⟨bx, 7, none⟩ = some a7 ∧ w.cell? ⟨bx, 8, none⟩ = some a8 := by
 have b := s.box
 subst h
 exact ⟨b.cell 0, b.cell 1, b.cell 2, b.cell 3, b.cell 4, b.cell 5, b.cell 6, b.cell 7, b.cell 8⟩
end
theorem gdead_any (l : List Rf) (f : Rf) (w : World) (g : GoodF l f) (hC : RgAt w f.A f.code) :
  Calls Tryz.prog 118 #[f.val] w fun e w' => ∃ b : Nat, e = .returned (.slice (some ⟨b, 0, none⟩) f.code.length f.code.length) ∧ RowAt w' b 4 f.code.length (fun z => .bool (deadB f.code z)) ∧ w.heap.size ≤ b ∧ Ext w w' := by
 obtain ⟨n, hn⟩ : ∃ n, n = f.code.length := ⟨_, rfl⟩
 have hfew : n ≤ 6000 := by have := g.few; omega
 obtain ⟨b, off, hA, hb, _⟩ := hC.top (by have := g.pos; omega)
 have HGX : Hid (∀ p, p < n → GoodX l f (f.code.getD p default)) := fun p hp => g.at_ (getD_mem (by omega))
 have HLV : Hid (∀ w1, Ext w w1 → Calls Tryz.prog 115 #[.agg #[.string f.name, .int .i64 f.params, .int .i64 f.regs, .int .i64 f.ty.base, .int .i64 f.ty.bits, .string f.ty.name, .bool f.ty.opt, .bool f.ty.err, .slice f.A n f.cap]] w1 fun e w' => ∃ (b : Nat) (H : List (Nat → Bool)), w1.heap.size ≤ b ∧ e = .returned (.slice (some ⟨b, 0, none⟩) n n) ∧ H.length = n ∧ RecRow w' b 175 6 setC H ∧ (∀ p, p < n → ∀ r, r < 6 → tabB H p r = liveB f.code p (r : Nat)) ∧ Ext w1 w') := fun w1 x => by
  have h := glive_any l f w1 g (hC.ext x)
  unfold Rf.val at h
  rwa [← hn] at h
 have HRG : Hid (f.regs ≤ 6) := g.reg.2
 unfold Rf.val
 rw [← hn]
 rw [hA] at hC HLV ⊢
 have HC := Lib.hid hC
 have HN := Lib.hid hn
 have HZ : Hid ((Tryz.prog.info? 67).map (·.size) = some 11) := by unfold Hid; kernel_rfl
 have HZ6 : Hid ((Tryz.prog.info? 175).map (·.size) = some 6) := by unfold Hid; kernel_rfl
 have hmk := fun W => run_make_row' (P := Tryz.prog) 135 4 (.bool false) 1 Tryz.underlying135 info_bool2 rfl .i64 .i64 n (by omega) (by omega) W
 clear hC hn hA hb g
 go_enter Tryz.func118, Tryz.ntmps118
 go_wp2_with (first
  | (go_at_call 115
     refine (HLV.out _ exA).mono ?_
     rintro r w2 ⟨gH, H, hgH, rfl, hHl, hrow, hlv, x2⟩
     have HHL := Lib.hid hHl
     have HRW := Lib.hid hrow
     have HLB := Lib.hid hlv
     have X2 := Lib.hid x2
     have HGH : Hid (w.heap.size + 1 < gH) := by unfold Hid; simp at hgH; omega
     clear hHl hrow hlv x2 hgH))
 clear hmk HLV
 obtain ⟨F, hF⟩ : ∃ F : Array Value, F = #[.string f.name, .int .i64 f.params, .int .i64 f.regs, .int .i64 f.ty.base, .int .i64 f.ty.bits, .string f.ty.name, .bool f.ty.opt, .bool f.ty.err, .slice (some ⟨b, off, none⟩) n f.cap] := ⟨_, rfl⟩
 have C0 : Hid (DdSt w w2 w.heap.size (w.heap.size + 1) gH n F H f.code 0) := by
  have b1 := ((Blk.new w 59 F).alloc (.cells (madeCells #[.bool false] n) 4))
  have r1 := RowAt.made (w.alloc (.cells F 59)) 4 (.bool false) n
  rw [hF] at b1 r1 ⊢
  have e1 : (w.alloc (.cells #[.string f.name, .int .i64 f.params, .int .i64 f.regs, .int .i64 f.ty.base, .int .i64 f.ty.bits, .string f.ty.name, .bool f.ty.opt, .bool f.ty.err, .slice (some ⟨b, off, none⟩) n f.cap] 59)).heap.size = w.heap.size + 1 := by simp
  rw [e1] at r1
  exact ⟨(((Ext.refl w).alloc _).alloc _).trans X2.out, b1.ext X2.out, (r1.ext X2.out).same fun z hz => by unfold deadF; simp, HRW.out, Nat.le_refl _, Nat.lt_succ_self _, HGH.out⟩
 have HFF := Lib.hid hF
 clear hF X2
 have HLO : Hid (w.heap.size ≤ w.heap.size + 1) := Nat.le_succ _
 generalize hgn : w.heap.size + 1 = gn at C0 HLO ⊢
 generalize hbx : w.heap.size = bx at C0 ⊢
 clear hgn hbx
 clear HRW HGH
 go_loopw [14] (fun i wr => ∃ j : Nat, j ≤ n ∧ i = .int .i64 j ∧ DdSt w wr bx gn gH n F H f.code j) (fun i _ => n - (intOf i).toNat)
 case atStart => exact ⟨0, Nat.zero_le _, rfl, C0.out⟩
 case round =>
  clear C0
  obtain ⟨j, hj, rfl, st⟩ := hrel
  have ST := Lib.hid st
  by_cases hlt : j < n
  ·obtain ⟨x, hx⟩ : ∃ x, x = f.code.getD j default := ⟨_, rfl⟩
   obtain ⟨s, hs⟩ : ∃ s, s = H.getD j default := ⟨_, rfl⟩
   obtain ⟨y0, y1, y2, y3, y4, y5⟩ := st.tab.six (by have := HHL.out; omega) hs
   have zH := st.tab.lt
   have HDB : Hid (deadB f.code j = (idleB x.op && !liveB f.code j x.d)) := by unfold Hid; rw [deadB_eq, ← hx]
   have HSR : Hid (∀ r, r < 6 → s r = liveB f.code j (r : Nat)) := fun r hr => by
    have h := HLB.out j hlt r hr
    rw [← h, hs]
    unfold tabB
    rw [List.getD, List.getD, List.getElem?_eq_getElem (by have := HHL.out; omega)]
    rfl
   obtain ⟨p0, p1, p2, p3, p4, p5, p6, p7, p8⟩ := st.fcells HFF.out
   have zb := st.box.lt
   obtain ⟨hb1, d0, d1, d2, d3, d4, d5, d6, d7, d8, d9, d10⟩ := (HC.out.ext st.ext).cells (by have := HN.out; omega) hx
   have gx := HGX.out j hlt
   rw [← hx] at gx
   have HXX := Lib.hid hx
   clear st hx hs p0 p1 p2 p3 p4 p5 p6 p7
   cases hid : idleB x.op with
   | true =>
    have hreg := idle_reg gx hid
    obtain ⟨dn, hdn⟩ : ∃ dn : Nat, x.d = dn := ⟨x.d.toNat, by omega⟩
    have hd6 : dn < 6 := by have := HRG.out; omega
    have hsd : Hid (deadB f.code j = !s dn) := by unfold Hid; rw [HDB.out, hid, hdn, HSR.out dn hd6, Bool.true_and]
    have HSD := Lib.hid hsd.out
    have HDN := Lib.hid hdn
    have h1i : IntKind.i64.wrap ((j : Int) + 1) = (j : Int) + 1 := IntWalk.i64_in _ (by omega)
    obtain ⟨sd, hsd2⟩ : ∃ b, s dn = b := ⟨_, rfl⟩
    rw [hsd2] at HSD
    have HS2 := Lib.hid hsd2
    have n0 := ST.out.row.cell hlt
    have f0 := ST.out.row.frozen j
    have zn := ST.out.row.lt
    rw [hdn] at d1
    clear gx HDB HSR hreg hsd hsd2 hdn
    obtain ⟨t0, h0⟩ : ∃ t, (x.op == 0) = t := ⟨_, rfl⟩
    obtain ⟨t1, h1⟩ : ∃ t, (x.op == 1) = t := ⟨_, rfl⟩
    obtain ⟨t2, h2⟩ : ∃ t, (x.op == 2) = t := ⟨_, rfl⟩
    obtain ⟨t3, h3⟩ : ∃ t, (x.op == 3) = t := ⟨_, rfl⟩
    obtain ⟨t6, h6⟩ : ∃ t, (x.op == 6) = t := ⟨_, rfl⟩
    obtain ⟨t16, h16⟩ : ∃ t, (x.op == 16) = t := ⟨_, rfl⟩
    unfold idleB at hid
    rw [h0, h1, h2, h3, h6, h16] at hid
    cases t0
    case' false => cases t1
    case' false.false => cases t2
    case' false.false.false => cases t3
    case' false.false.false.false => cases t6
    case' false.false.false.false.false => cases t16
    case false.false.false.false.false.false => cases hid
    all_goals
     clear hid
     go_wp2_with (first
      | ((with_reducible show wpList _ _ _ (Oper.mk none (.store 175 (.tmp 5) (.tmp 18)) _ _ _ _ :: _) _ _)
         refine store_new 175 _ _ rfl _ _ rfl rfl rfl rfl HZ6.out (by intro v hv; simp at hv; rcases hv with rfl | rfl | rfl | rfl | rfl | rfl <;> rfl) ?_
         intro w3 x3 B3
         have X3 := Lib.hid x3
         have BS := Lib.hid B3
         have S3 := Lib.hid (ST.out.ext' x3)
         clear p8 zb hb1 d0 d1 d2 d3 d4 d5 d6 d7 d8 d9 d10
         obtain ⟨p0, p1, p2, p3, p4, p5, p6, p7, p8⟩ := S3.out.fcells HFF.out
         have zb := S3.out.box.lt
         obtain ⟨hb1, d0, d1, d2, d3, d4, d5, d6, d7, d8, d9, d10⟩ := (HC.out.ext S3.out.ext).cells (x := x) (by have := HN.out; omega) HXX.out
         clear B3 x3 p0 p1 p2 p3 p4 p5 p6 p7 y0 y1 y2 y3 y4 y5 n0 f0 zn zH)
      | ((with_reducible show wpList _ _ _ (Oper.mk none (.store 67 (.tmp 6) (.tmp 23)) _ _ _ _ :: _) _ _)
         refine store_new 67 _ _ rfl _ _ rfl rfl rfl rfl HZ.out (rg_one x) ?_
         intro w4 x4 B4
         have S4 := Lib.hid (S3.out.ext' x4)
         have b6 := BS.out.ext x4
         have q0 := b6.cell dn
         rw [show (#[.bool (s 0), .bool (s 1), .bool (s 2), .bool (s 3), .bool (s 4), .bool (s 5)] : Array Value)[dn]? = some (.bool (s dn)) from setV_get hd6, HS2.out] at q0
         have zq := b6.lt
         obtain ⟨e0, e1, e2, e3, e4, e5, e6, e7, e8, e9, e10⟩ := rg_cells x B4
         rw [HDN.out] at e1
         have zb4 := B4.lt
         have n0 := S4.out.row.cell hlt
         have f0 := S4.out.row.frozen j
         have zn := S4.out.row.lt
         clear B4 x4 b6 e2 e3 e4 e5 e6 e7 e8 e9 p8 zb hb1 d0 d1 d2 d3 d4 d5 d6 d7 d8 d9 d10))
     case roundEnd => exact ⟨⟨j + 1, by omega, by go_num, S4.out.mark HSD.out⟩, by simp [intOf]; omega⟩
   | false =>
    have HDF : Hid (deadB f.code j = false) := by unfold Hid; rw [HDB.out, hid, Bool.false_and]
    unfold idleB at hid
    simp only [Bool.or_eq_false_iff] at hid
    obtain ⟨h0, h1, h2, h3, h6, h16⟩ := hid
    clear gx HDB HSR
    go_wp2_with (first
     | ((with_reducible show wpList _ _ _ (Oper.mk none (.store 175 (.tmp 5) (.tmp 18)) _ _ _ _ :: _) _ _)
        refine store_new 175 _ _ rfl _ _ rfl rfl rfl rfl HZ6.out (by intro v hv; simp at hv; rcases hv with rfl | rfl | rfl | rfl | rfl | rfl <;> rfl) ?_
        intro w3 x3 B3
        have S3 := Lib.hid (ST.out.ext' x3)
        clear p8 zb hb1 d0 d1 d2 d3 d4 d5 d6 d7 d8 d9 d10
        obtain ⟨p0, p1, p2, p3, p4, p5, p6, p7, p8⟩ := S3.out.fcells HFF.out
        have zb := S3.out.box.lt
        obtain ⟨hb1, d0, d1, d2, d3, d4, d5, d6, d7, d8, d9, d10⟩ := (HC.out.ext S3.out.ext).cells (x := x) (by have := HN.out; omega) HXX.out
        clear B3 x3 p0 p1 p2 p3 p4 p5 p6 p7 y0 y1 y2 y3 y4 y5 zH)
     | ((with_reducible show wpList _ _ _ (Oper.mk none (.store 67 (.tmp 6) (.tmp 23)) _ _ _ _ :: _) _ _)
        refine store_new 67 _ _ rfl _ _ rfl rfl rfl rfl HZ.out (rg_one x) ?_
        intro w4 x4 B4
        have S4 := Lib.hid (S3.out.ext' x4)
        obtain ⟨e0, e1, e2, e3, e4, e5, e6, e7, e8, e9, e10⟩ := rg_cells x B4
        have zb4 := B4.lt
        clear B4 x4 e1 e2 e3 e4 e5 e6 e7 e8 e9 p8 zb hb1 d0 d1 d2 d3 d4 d5 d6 d7 d8 d9 d10))
    case roundEnd => exact ⟨⟨j + 1, by omega, by go_num, S4.out.skip HDF.out⟩, by simp [intOf]; omega⟩
  ·obtain rfl : j = n := by omega
   clear st
   go_wp2_with fail
   go_ret
   refine ⟨gn, rfl, ST.out.row.same fun z hz => ?_, HLO.out, ST.out.ext⟩
   unfold deadF
   rw [decide_eq_true hz, Bool.true_and]
theorem gDead_any (A : Option Addr) (cap : Nat) (l : List Rf) {len : Nat} (k : Int) (w : World) (g : Laid w) (hlen : len = l.length) (hA : RfAt w A l) (hl : len ≤ 9223372036854775806) (hc : len ≤ 48 → countR l ≤ 9223372036854775806) (hin : RgsIn l) :
  Calls Tryz.prog 51 #[.slice A len cap, .int .i64 k] w fun e w' => ∃ v, e = .returned (.tuple #[v, .int .i64 (numE l k)]) ∧ IntsAt w' v (deadR l k) ∧ Ext w w' := by
 have HK := Lib.hid (gknown_any A cap l k w g hlen hA hl hc hin)
 have HA := Lib.hid hA
 have HLn := Lib.hid hlen
 clear hA hc hin hlen g
 by_cases h0 : numE l k = 0
 ·obtain ⟨hv, n, rfl, hn⟩ := numE_ok h0
  obtain ⟨f, hf⟩ : ∃ f, f = l.getD n default := ⟨_, rfl⟩
  have HR : Hid (deadR l n = deadTo f.code f.code.length) := by unfold Hid deadR; rw [if_pos h0, Int.toNat_natCast, ← hf]
  obtain ⟨h48, _, hgood⟩ := validR_parts hv
  have GF : Hid (GoodF l f) := by rw [hf]; exact (hgood n hn).1
  obtain ⟨b, off, rfl, hb, _⟩ := HA.out.at_ (k := n) hn hf
  have HC : Hid (RgAt w f.A f.code) := HA.out.sub f (by rw [hf]; exact getD_mem hn)
  have k1 : (n : Int) < (len : Int) := by have := HLn.out; omega
  rw [h0] at HK ⊢
  rw [HR.out]
  have hfew := GF.out.few
  obtain ⟨nc, hnc⟩ : ∃ nc, nc = f.code.length := ⟨_, rfl⟩
  have HFC : Hid (∀ w', Ext w w' → b < w'.heap.size ∧ w'.cell? ⟨b, off + n * 9, none⟩ = some (.string f.name) ∧ w'.cell? ⟨b, off + n * 9 + 1, none⟩ = some (.int .i64 f.params) ∧ w'.cell? ⟨b, off + n * 9 + 2, none⟩ = some (.int .i64 f.regs) ∧ w'.cell? ⟨b, off + n * 9 + 3, none⟩ = some (.int .i64 f.ty.base) ∧
   w'.cell? ⟨b, off + n * 9 + 4, none⟩ = some (.int .i64 f.ty.bits) ∧ w'.cell? ⟨b, off + n * 9 + 5, none⟩ = some (.string f.ty.name) ∧ w'.cell? ⟨b, off + n * 9 + 6, none⟩ = some (.bool f.ty.opt) ∧ w'.cell? ⟨b, off + n * 9 + 7, none⟩ = some (.bool f.ty.err) ∧ w'.cell? ⟨b, off + n * 9 + 8, none⟩ = some (.slice f.A nc f.cap)) := fun w' x => (HA.out.ext x).cells hn hf hnc
  rw [← hnc] at hfew
  have HNC := Lib.hid hnc
  have HLV : Hid (∀ w1, Ext w w1 → Calls Tryz.prog 118 #[.agg #[.string f.name, .int .i64 f.params, .int .i64 f.regs, .int .i64 f.ty.base, .int .i64 f.ty.bits, .string f.ty.name, .bool f.ty.opt, .bool f.ty.err, .slice f.A nc f.cap]] w1 fun e w' => ∃ b : Nat, e = .returned (.slice (some ⟨b, 0, none⟩) nc nc) ∧ RowAt w' b 4 nc (fun z => .bool (deadB f.code z)) ∧ w1.heap.size ≤ b ∧ Ext w1 w') := fun w1 x => by
   have h := gdead_any l f w1 GF.out (HC.out.ext x)
   unfold Rf.val at h
   rwa [← HNC.out] at h
  clear h0 hv hf h48 hgood hn HR hnc
  rw [HNC.out.symm]
  go_enter Tryz.func51, Tryz.ntmps51
  go_wp2_with (first
   | (go_at_call 104
      refine (HK.out).mono ?_
      rintro r w1 ⟨rfl, x1⟩
      have X1 := Lib.hid x1
      obtain ⟨hb1, c0, c1, c2, c3, c4, c5, c6, c7, c8⟩ := HFC.out w1 x1
      clear x1)
   | (go_at_call 118
      refine (HLV.out _ X1.out).mono ?_
      rintro r w2 ⟨gD, rfl, hrow, _, x2⟩
      have HRW := Lib.hid hrow
      have X2 := Lib.hid (X1.out.trans x2)
      clear hrow x2))
  clear hb1 c0 c1 c2 c3 c4 c5 c6 c7 c8
  go_loopw [7, 22] (fun v i wr => ∃ j : Nat, j ≤ nc ∧ i = .int .i64 j ∧ OwnI wr w2.heap.size v (deadTo f.code j) ∧ Ext w2 wr) (fun _ i _ => nc - (intOf i).toNat)
  case atStart => exact ⟨0, Nat.zero_le _, rfl, OwnI.nil _ _, Ext.refl _⟩
  case round =>
   obtain ⟨j, hj, rfl, ow, hx⟩ := hrel
   have OW := Lib.hid ow
   have HX := Lib.hid hx
   have hln := deadTo_len f.code j
   have HS := Lib.hid (deadTo_succ f.code j)
   by_cases hlt : j < nc
   ·have y0 := (HRW.out.ext hx).cell hlt
    have zH := (HRW.out.ext hx).lt
    obtain ⟨db, hdb⟩ : ∃ db, deadB f.code j = db := ⟨_, rfl⟩
    rw [hdb] at HS y0
    clear hdb ow hx
    cases db
    ·go_wp2_with fail
     case roundEnd => exact ⟨⟨j + 1, by omega, by go_num, by have h := HS.out; rw [if_neg (by decide), List.append_nil] at h; rw [h]; exact OW.out, HX.out⟩, by simp [intOf]; omega⟩
    ·go_wp2_with (first
      | (at_builtin
         refine wpList_append_nums rfl _ _ rfl w2.heap.size _ (deadTo f.code j) rfl (own_ext OW.out ((Ext.refl _).alloc (.cells #[.int .i64 j] 3))) (some ⟨wr.heap.size, 0, none⟩) 1 [(j : Int)] rfl (nums_one wr j) (by simp only [List.length_cons, List.length_nil]; omega) (by have := HX.out.size; (try simp); omega) ?_
         intro v' w6 ow6 g6
         have OW6 := Lib.hid ow6
         have X6 := Lib.hid ((HX.out.alloc (.cells #[.int .i64 j] 3)).grown g6 (own_row (OW.out)))
         clear ow6 g6))
     case roundEnd => exact ⟨⟨j + 1, by omega, by go_num, by have h := HS.out; rw [if_pos rfl] at h; rw [h]; simpa [OwnI] using OW6.out, X6.out⟩, by simp [intOf]; omega⟩
   ·obtain rfl : j = nc := by omega
    clear ow hx
    go_wp2_with fail
    go_ret2
    exact ⟨_, rfl, own_ints OW.out, X2.out.trans HX.out⟩
 ·have HR : Hid (deadR l k = []) := by unfold Hid deadR; rw [if_neg h0]
  rw [HR.out]
  have hb : (numE l k != 0) = true := by simpa using h0
  obtain ⟨er, her⟩ : ∃ er, er = numE l k := ⟨_, rfl⟩
  rw [← her] at hb HK ⊢
  clear h0 her
  go_enter Tryz.func51, Tryz.ntmps51
  go_wp2_with (first | (go_at_call 104; refine (HK.out).mono ?_; rintro r w1 ⟨rfl, x1⟩))
  go_ret2
  exact ⟨_, rfl, IntsAt.nil _, x1⟩
end Go.Proofs.YtknaemlnhediaaaGreatDoor.c
