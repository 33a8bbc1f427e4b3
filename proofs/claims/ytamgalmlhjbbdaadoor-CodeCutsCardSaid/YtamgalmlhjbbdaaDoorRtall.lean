/- Contract of the reference's Tall, over sound code. Conditions: what right code is good for. Contracts of the reference's asked, Heights, Reached, SameInts. Conditions: sizes. -/
import Derived.Test.YtamgalmlhjbbdaaDoorRsound
import Derived.OwnWalk
namespace Go.Proofs.YtamgalmlhjbbdaaDoor.c
open Go.RowKit
set_option linter.unusedVariables false
set_option linter.unusedSimpArgs false
theorem info_int : (Tryd.prog.info? 3).map (fun i => (i.zero, i.size, i.bytes)) = some (some (.int .i64 0), 1, 8) := by kernel_rfl
theorem row_ints {w : World} {g n : Nat} {t : TypeId} {F : Nat → Int} (h : RowAt w g t n (fun j => .int .i64 (F j))) : IntsAt w (.slice (some ⟨g, 0, none⟩) n n) ((List.range n).map F) := by
  refine ⟨some ⟨g, 0, none⟩, n, by simp, fun hpos => ⟨g, 0, rfl, h.lt, fun i j hi hj => ?_⟩⟩
  obtain rfl : j = 0 := by omega
  have hi' : i < n := by simpa using hi
  rw [show 0 + (i * 1 + 0) = i by omega, h.cell hi']
  simp [List.getD, hi']
/-- out's cells, when k are done and cell k holds z -/
def outF (T : Nat → Int) (k : Nat) (z : Int) (j : Nat) : Value := if j < k then .int .i64 (T j) else if j = k then .int .i64 z else .int .i64 0
theorem outF_next (T : Nat → Int) (k j : Nat) : outF T k (T k) j = if j < k + 1 then .int .i64 (T j) else .int .i64 0 := by
  unfold outF
  by_cases h : j < k
  · rw [if_pos h, if_pos (by omega)]
  · rw [if_neg h]
    by_cases h2 : j = k
    · subst h2; rw [if_pos rfl, if_pos (by omega)]
    · rw [if_neg h2, if_neg (by omega)]
set_option maxRecDepth 100000 in
set_option maxHeartbeats 3200000 in
theorem rtall_any (f : Fc) (w : World) (hC : CdAt w f.A f.code) (sn : Sane f.code) (hs : unsoundS f.code < 0) :
    Calls Tryd.prog 43 #[.agg #[.string f.name, .int .i64 f.params, .int .i64 f.places, .int .i64 f.ty.base, .int .i64 f.ty.bits, .string f.ty.name, .bool f.ty.opt, .bool f.ty.err, .slice f.A f.code.length f.cap]] w fun e w' => ∃ v, e = .returned v ∧ IntsAt w' v ((List.range f.code.length).map (fun i => tallS f.code (i : Nat))) ∧ Ext w w' := by
  have hfew := sn.few
  have HC := Lib.hid hC
  have SN := Lib.hid sn
  have HS := Lib.hid (uns_none sn hs)
  have hmk := fun W => run_make_row' (P := Tryd.prog) 34 3 (.int .i64 0) 8 Tryd.underlying34 info_int rfl .i64 .i64 f.code.length (by omega) (by omega) W
  have HXW : Hid (Ext w (w.alloc (.cells #[.string f.name, .int .i64 f.params, .int .i64 f.places, .int .i64 f.ty.base, .int .i64 f.ty.bits, .string f.ty.name, .bool f.ty.opt, .bool f.ty.err, .slice f.A f.code.length f.cap] 50))) := (Ext.refl _).alloc _
  clear hC sn hs
  obtain ⟨len, hlen⟩ : ∃ len, len = f.code.length := ⟨_, rfl⟩
  have HLn := Lib.hid hlen
  rw [← hlen] at hfew hmk ⊢
  clear hlen
  go_enter Tryd.func43, Tryd.ntmps43
  go_wp2_with (first
    | (go_at_call 52
       refine (pairs_len f HLn.out _ (HC.out.ext ((Ext.refl _).alloc _)) SN.out).mono ?_
       rw [← HLn.out] at HXW
       rintro r w1 ⟨gs, gm, go, S, O, rfl, ps⟩
       have PS := Lib.hid ps
       clear ps))
  have R0 : Hid (RowAt (w1.alloc (.cells (madeCells #[.int .i64 0] len) 3)) w1.heap.size 3 len (fun j => if j < 0 then .int .i64 (tallS f.code (j : Nat)) else .int .i64 0)) := (RowAt.made w1 3 (.int .i64 0) len).same fun j hj => by rw [if_neg (by omega)]
  go_loopw [6, 7] (fun i _ wr => ∃ k : Nat, k ≤ len ∧ i = .int .i64 k ∧ Ext w1 wr ∧ RowAt wr w1.heap.size 3 len (fun j => if j < k then .int .i64 (tallS f.code (j : Nat)) else .int .i64 0)) (fun i _ _ => len - (intOf i).toNat)
  case atStart => exact ⟨0, Nat.zero_le _, rfl, (Ext.refl _).alloc _, R0.out⟩
  case round =>
    obtain ⟨k, hk, rfl, x1, r1⟩ := hrel
    clear R0
    have PSW := Lib.hid (PS.out.ext' x1)
    have X1 := Lib.hid x1
    have R1 := Lib.hid r1
    by_cases hlt : k < len
    · have hkf : k < f.code.length := by have := HLn.out; omega
      have sc := PSW.out.seenc.cell hkf
      have zs := PSW.out.seenc.lt
      have z1 := r1.lt
      have c1 := r1.cell hlt
      have f1 := r1.frozen k
      rw [if_neg (Nat.lt_irrefl k)] at c1
      obtain ⟨m, hm⟩ := PSW.out.maps k hkf
      have hne : w1.heap.size ≠ gm + k := by
        obtain ⟨m1, hm1⟩ := PS.out.maps k hkf
        have := hm1.lt
        omega
      have hgs : gs ≠ w1.heap.size := by
        have := PS.out.seenc.lt
        omega
      have R2 : Hid (RowAt (wr.setCell ⟨w1.heap.size, k, none⟩ (.int .i64 (-1))) w1.heap.size 3 len (outF (fun j => tallS f.code (j : Nat)) k (-1))) := r1.set_ fun j hj => by
        unfold outF
        by_cases h : j < k
        · rw [if_pos h, if_neg (by omega), if_pos h]
        · rw [if_neg h, if_neg h]
      have HM : Hid (MapAt (wr.setCell ⟨w1.heap.size, k, none⟩ (.int .i64 (-1))) 3 (gm + k) m (rowV S k)) := hm.setCell (fun e => hne e.symm) _
      have X2 : Hid (Ext w1 (wr.setCell ⟨w1.heap.size, k, none⟩ (.int .i64 (-1)))) := x1.setCell (Nat.le_refl _) _
      clear hm x1 r1
      go_wp2_with (first
        | (at_range
           refine wpList_range_at rfl _ 71 rfl und_map2 HM.out rfl ?_
           intro w2 c rg g2 s2
           rw [show (wr.setCell ⟨w1.heap.size, k, none⟩ (.int .i64 (-1))).heap.size = wr.heap.size by simp] at rg s2
           have RG := Lib.hid rg
           have R3 := Lib.hid (R2.out.grown g2 (by simp))
           have X3 := Lib.hid (X2.out.grown g2 (fun k e => by cases e))
           clear rg g2 s2))
      have HRR : Hid (w1.heap.size ≤ wr.heap.size) := X1.out.size
      have hgr : w1.heap.size < wr.heap.size := z1
      try go_frame
      rw [show (wr.setCell ⟨w1.heap.size, k, none⟩ (.int .i64 (-1))).heap.size = wr.heap.size by simp]
      generalize wr.heap.size = rr at RG HRR hgr ⊢
      go_loopw [7] (fun _ w3 => ∃ L c z, RngAt w3 (gm + k) rr (rowV S k) L c ∧ Ext w1 w3 ∧ RowAt w3 w1.heap.size 3 len (outF (fun j => tallS f.code (j : Nat)) k z) ∧ ((z = -1 ∧ ∀ h, ((k : Int), h) ∈ S → L (.int .i64 h)) ∨ z = tallS f.code k)) (fun _ w3 => w3.rangeLeft (gm + k) rr)
      case atStart => exact ⟨_, _, _, RG.out, X3.out, R3.out, .inl ⟨rfl, fun h hh => by rw [rowV_in hh]; simp⟩⟩
      case round =>
        clear RG X3 R3 R2 X2 HM sc zs z1 c1 f1
        obtain ⟨L, c, z, rg, x3, r3, hz⟩ := hrel
        have RG := Lib.hid rg
        have X3 := Lib.hid x3
        have R3 := Lib.hid r3
        have HZ := Lib.hid hz
        clear rg x3 r3 hz
        go_wp2_with (first
          | (at_next; refine wpList_next_at rfl _ rfl rfl RG.out ?_ ?_))
        · intro _ hl0
          have HL0 := Lib.hid hl0
          clear hl0
          go_wp2_with fail
          refine ⟨⟨k + 1, by omega, by go_num, X3.out, ?_⟩, by simp [intOf]; omega⟩
          have hz : z = tallS f.code k := by
            rcases HZ.out with ⟨e, h⟩ | e
            · rw [e, tall_out]
              rintro ⟨h1, h2⟩
              exact HL0.out _ (h h1 ((PS.out.all _).2 h2))
            · exact e
          refine R3.out.same fun j hj => ?_
          rw [hz]
          exact (outF_next (fun j => tallS f.code (j : Nat)) k j).symm
        · intro key v w4 c4 hl hv rg4 hlt4 g4 s4 hen
          obtain ⟨h, hin, rfl⟩ := rowV_some (show rowV S k key ≠ none by rw [hv]; simp)
          have R4 := Lib.hid (R3.out.grown g4 (fun e => by have := Option.some.inj e; omega))
          have RG4 := Lib.hid rg4
          have X4 := Lib.hid (X3.out.grown g4 (fun j e => by cases e; exact HRR.out))
          have HT := Lib.hid (tall_in (HS.out k) ((PS.out.all _).1 hin))
          rw [rowV_in hin] at hv
          cases hv
          have c1 := R4.out.cell hlt
          have f1 := R4.out.frozen k
          have z1 := R4.out.lt
          have C4 := Lib.hid hlt4
          clear hl rg4 hlt4 g4 s4 hin
          unfold outF at c1
          rw [if_neg (Nat.lt_irrefl k), if_pos rfl] at c1
          go_wp2_with fail
          case roundEnd =>
            have r5 : RngAt (w4.setCell ⟨w1.heap.size, k, none⟩ (.int .i64 h)) (gm + k) rr (rowV S k) _ c4 := RG4.out.setCell (fun e => hne e.symm) (by simp; omega) _
            refine ⟨⟨_, _, h, r5, X4.out.setCell (Nat.le_refl _) _, R4.out.set_ fun j hj => ?_, .inr HT.out.symm⟩, ?_⟩
            · unfold outF
              by_cases e : j < k
              · rw [if_pos e, if_neg (by omega), if_pos e]
              · rw [if_neg e, if_neg e]
                by_cases e2 : j = k
                · rw [if_pos e2, if_pos e2]
                · rw [if_neg e2, if_neg e2, if_neg e2]
            · rw [r5.left_eq, RG.out.left_eq]
              exact C4.out
    · go_wp2_with fail
      go_ret
      obtain rfl : k = len := by omega
      refine ⟨_, rfl, row_ints (R1.out.same fun j hj => by rw [if_pos hj]), ?_⟩
      exact HXW.out.trans PSW.out.ext
theorem ret_i1 {a b : Int} (h : a = b) : Ending.returned (.int .i64 a) = .returned (.int .i64 b) := by rw [h]
theorem ret_v2 {v : Value} {a b : Int} (h : a = b) : Ending.returned (.tuple #[v, .int .i64 a]) = .returned (.tuple #[v, .int .i64 b]) := by rw [h]
set_option maxRecDepth 100000 in
set_option maxHeartbeats 1600000 in
theorem asked_any (A : Option Addr) (cap : Nat) (l : List Fc) (k : Int) (w : World) (hk0 : -9223372036854775808 ≤ k) (hk1 : k ≤ 9223372036854775807) (hA : FcAt w A l) (hl : l.length ≤ 9223372036854775806) (hc : l.length ≤ 48 → countS l ≤ 9223372036854775806) (hfl : ∀ f, f ∈ l → f.code.length ≤ 9223372036854775806) :
    Calls Tryd.prog 42 #[.slice A l.length cap, .int .i64 k] w fun e w' => e = .returned (.int .i64 (askE l k)) ∧ Ext w w' := by
  have HRC := Lib.hid (rCheck_any A cap l w hA hl hc hfl)
  obtain ⟨a, ha⟩ : ∃ a, a = askE l k := ⟨_, rfl⟩
  rw [← ha]
  unfold askE at ha
  have HAE := Lib.hid ha
  clear hA hfl hc ha
  generalize checkE l = ce at HRC HAE
  obtain ⟨e1, e2, e3⟩ := ce
  obtain ⟨len, hlen⟩ : ∃ len, len = l.length := ⟨_, rfl⟩
  rw [← hlen] at hl HRC HAE ⊢
  clear hlen
  go_enter Tryd.func42, Tryd.ntmps42
  go_wp2_with (first
    | (go_at_call 11; refine (HRC.out).mono ?_; rintro r w1 ⟨rfl, x1⟩)
    | (go_at_call 39; refine (rwithin_any _ _ _ _).mono ?_; rintro r w' ⟨rfl, rfl⟩; try simp only [inB]))
  all_goals
    go_ret
    refine ⟨ret_i1 ?_, by (repeat (first | (with_reducible exact Ext.refl _) | (with_reducible assumption) | (with_reducible refine Ext.alloc ?_ _) | (with_reducible refine Ext.drewN ?_ _) | (with_reducible refine Ext.drew ?_) | (with_reducible refine Ext.setCell ?_ ?_ _; rotate_left; first | assumption | (simp; done) | (simp; omega)) | (with_reducible refine Ext.trans ?_ (by with_reducible assumption))))⟩
    rw [HAE.out]
    first
      | (have h : (e3 != 0) = true := by assumption
         rw [if_neg (by simpa using h)])
      | (have h : (e3 != 0) = false := by assumption
         have h2 : e3 = 0 := by simpa using h
         have h3 : (!decide (0 ≤ k)) = true ∨ (!decide (k ≤ (len : Int) - 1)) = true := by assumption
         rw [if_pos h2, if_pos]
         simp at h3
         omega)
      | (have h : (e3 != 0) = false := by assumption
         have h2 : e3 = 0 := by simpa using h
         have h3 : (!decide (0 ≤ k)) = false ∧ (!decide (k ≤ (len : Int) - 1)) = false := by assumption
         rw [if_pos h2, if_neg]
         simp at h3
         omega)
set_option maxRecDepth 100000 in
set_option maxHeartbeats 1600000 in
theorem rHeights_any (A : Option Addr) (cap : Nat) (l : List Fc) (k : Int) (w : World) (hk0 : -9223372036854775808 ≤ k) (hk1 : k ≤ 9223372036854775807) (hA : FcAt w A l) (hl : l.length ≤ 9223372036854775806) (hc : l.length ≤ 48 → countS l ≤ 9223372036854775806) (hfl : ∀ f, f ∈ l → f.code.length ≤ 9223372036854775806) :
    Calls Tryd.prog 19 #[.slice A l.length cap, .int .i64 k] w fun e w' => ∃ v, e = .returned (.tuple #[v, .int .i64 (askE l k)]) ∧ IntsAt w' v (tallL l k) ∧ Ext w w' := by
  have HAS := Lib.hid (asked_any A cap l k w hk0 hk1 hA hl hc hfl)
  have HA := Lib.hid hA
  clear hA hfl hc
  by_cases h0 : askE l k = 0
  · obtain ⟨hce, hk2, hk3⟩ := ask_ok h0
    obtain ⟨hv, hun⟩ := check_ok hce
    obtain ⟨n, hn⟩ : ∃ n : Nat, k = n := ⟨k.toNat, by omega⟩
    subst hn
    have hnl : n < l.length := by omega
    obtain ⟨f, hf⟩ : ∃ f, f = l.getD n default := ⟨_, rfl⟩
    have HU : Hid (unsoundS f.code < 0) := by rw [hf]; exact hun n hnl
    have HSN : Hid (Sane f.code) := sane_of hv (by rw [hf]; exact getD_mem hnl)
    obtain ⟨b, off, rfl, hb, c0, c1, c2, c3, c4, c5, c6, c7, c8, hcd⟩ := HA.out.at_ (k := n) hnl hf
    have HCD := Lib.hid hcd
    have HT : Hid (tallL l n = (List.range f.code.length).map (fun i => tallS f.code (i : Nat))) := by
      unfold Hid tallL
      rw [if_pos h0, Int.toNat_natCast, ← hf]
    rw [h0] at HAS ⊢
    clear h0 hce hun hcd hv hf
    obtain ⟨len, hlen⟩ : ∃ len, len = l.length := ⟨_, rfl⟩
    rw [← hlen] at hl HAS hk3 hnl ⊢
    clear hlen
    have y0 : ∀ (w' : World) (o : Nat), Ext w w' → w'.cell? ⟨b, o, none⟩ = w.cell? ⟨b, o, none⟩ := fun w' o x => x.cell (p := ⟨b, o, none⟩) hb
    have HY := Lib.hid y0
    clear y0
    go_enter Tryd.func19, Tryd.ntmps19
    go_wp2_with (first
      | (go_at_call 42
         refine (HAS.out).mono ?_
         rintro r w1 ⟨rfl, x1⟩
         have yy := fun o => HY.out w1 o x1
         rw [← yy] at c0 c1 c2 c3 c4 c5 c6 c7 c8
         clear yy)
      | (go_at_call 43; refine (rtall_any f _ (HCD.out.ext (by (repeat (first | (with_reducible exact Ext.refl _) | (with_reducible assumption) | (with_reducible refine Ext.alloc ?_ _) | (with_reducible refine Ext.drewN ?_ _) | (with_reducible refine Ext.drew ?_) | (with_reducible refine Ext.setCell ?_ ?_ _; rotate_left; first | assumption | (simp; done) | (simp; omega)) | (with_reducible refine Ext.trans ?_ (by with_reducible assumption)))))) HSN.out HU.out).mono ?_; rintro r w2 ⟨v, rfl, hi, x2⟩))
    have HI := Lib.hid hi
    clear hi
    go_ret2
    exact ⟨_, rfl, by rw [HT.out]; exact HI.out, by (repeat (first | (with_reducible exact Ext.refl _) | (with_reducible assumption) | (with_reducible refine Ext.alloc ?_ _) | (with_reducible refine Ext.drewN ?_ _) | (with_reducible refine Ext.drew ?_) | (with_reducible refine Ext.setCell ?_ ?_ _; rotate_left; first | assumption | (simp; done) | (simp; omega)) | (with_reducible refine Ext.trans ?_ (by with_reducible assumption))))⟩
  · have HT : Hid (tallL l k = []) := by
      unfold Hid tallL
      rw [if_neg h0]
    generalize askE l k = a at *
    have hb : (a != 0) = true := by simpa using h0
    go_enter Tryd.func19, Tryd.ntmps19
    go_wp2_with (first
      | (go_at_call 42; refine (HAS.out).mono ?_; rintro r w1 ⟨rfl, x1⟩))
    go_ret2
    exact ⟨_, rfl, by rw [HT.out]; exact IntsAt.nil _, by (repeat (first | (with_reducible exact Ext.refl _) | (with_reducible assumption) | (with_reducible refine Ext.alloc ?_ _) | (with_reducible refine Ext.drewN ?_ _) | (with_reducible refine Ext.drew ?_) | (with_reducible refine Ext.setCell ?_ ?_ _; rotate_left; first | assumption | (simp; done) | (simp; omega)) | (with_reducible refine Ext.trans ?_ (by with_reducible assumption))))⟩
set_option maxRecDepth 100000 in
set_option maxHeartbeats 1600000 in
theorem sameInts_any (v1 v2 : Value) (L : List Int) (w : World) (h1 : IntsAt w v1 L) (h2 : IntsAt w v2 L) (hl : L.length ≤ 9223372036854775806) :
    Calls Tryd.prog 22 #[v1, v2] w fun e w' => e = .returned (.bool true) ∧ Ext w w' := by
  obtain ⟨A1, c1, rfl, a1⟩ := h1
  obtain ⟨A2, c2, rfl, a2⟩ := h2
  obtain ⟨len, hlen⟩ : ∃ len, len = L.length := ⟨_, rfl⟩
  rw [← hlen] at hl a1 a2 ⊢
  have H1 := Lib.hid a1
  have H2 := Lib.hid a2
  clear hlen a1 a2
  go_enter Tryd.func22, Tryd.ntmps22
  go_wp2_with fail
  go_loopw [5] (fun i wr => ∃ k : Nat, k ≤ len ∧ i = .int .i64 k ∧ Ext w wr) (fun i _ => len - (intOf i).toNat)
  case atStart => exact ⟨0, Nat.zero_le _, rfl, Ext.refl _⟩
  case round =>
    obtain ⟨k, hk, rfl, hx⟩ := hrel
    by_cases hlt : k < len
    · obtain ⟨b1, o1, rfl, hb1, d1⟩ := (H1.out.ext hx).one hlt
      obtain ⟨b2, o2, rfl, hb2, d2⟩ := (H2.out.ext hx).one hlt
      go_wp2_with fail
      go_quiet (fail)
      go_wp2_with fail
      case roundEnd => exact ⟨⟨k + 1, by omega, by go_num, hx.drewN _⟩, by simp [intOf]; omega⟩
    · go_wp2_with fail
      go_ret
      exact ⟨rfl, hx⟩
set_option maxRecDepth 100000 in
set_option maxHeartbeats 1600000 in
theorem rReached_any (A : Option Addr) (cap : Nat) (l : List Fc) (k : Int) (w : World) (hk0 : -9223372036854775808 ≤ k) (hk1 : k ≤ 9223372036854775807) (hA : FcAt w A l) (hl : l.length ≤ 9223372036854775806) (hc : l.length ≤ 48 → countS l ≤ 9223372036854775806) (hfl : ∀ f, f ∈ l → f.code.length ≤ 9223372036854775806) :
    Calls Tryd.prog 21 #[.slice A l.length cap, .int .i64 k] w fun e w' => ∃ v, e = .returned (.tuple #[v, .int .i64 (askE l k)]) ∧ IntsAt w' v (notNeg (tallL l k)) ∧ Ext w w' := by
  have HAS := Lib.hid (asked_any A cap l k w hk0 hk1 hA hl hc hfl)
  have HA := Lib.hid hA
  clear hA hfl hc
  by_cases h0 : askE l k = 0
  · obtain ⟨hce, hk2, hk3⟩ := ask_ok h0
    obtain ⟨hv, hun⟩ := check_ok hce
    obtain ⟨n, hn⟩ : ∃ n : Nat, k = n := ⟨k.toNat, by omega⟩
    subst hn
    have hnl : n < l.length := by omega
    obtain ⟨f, hf⟩ : ∃ f, f = l.getD n default := ⟨_, rfl⟩
    have HU : Hid (unsoundS f.code < 0) := by rw [hf]; exact hun n hnl
    have HSN : Hid (Sane f.code) := sane_of hv (by rw [hf]; exact getD_mem hnl)
    obtain ⟨b, off, rfl, hb, c0, c1, c2, c3, c4, c5, c6, c7, c8, hcd⟩ := HA.out.at_ (k := n) hnl hf
    have HCD := Lib.hid hcd
    have HT : Hid (tallL l n = (List.range f.code.length).map (fun i => tallS f.code (i : Nat))) := by
      unfold Hid tallL
      rw [if_pos h0, Int.toNat_natCast, ← hf]
    rw [h0] at HAS ⊢
    clear h0 hce hun hcd hv hf
    obtain ⟨len, hlen⟩ : ∃ len, len = l.length := ⟨_, rfl⟩
    rw [← hlen] at hl HAS hk3 hnl ⊢
    clear hlen
    have HY : Hid (∀ (w' : World) (o : Nat), Ext w w' → w'.cell? ⟨b, o, none⟩ = w.cell? ⟨b, o, none⟩) := fun w' o x => x.cell (p := ⟨b, o, none⟩) hb
    obtain ⟨i0, hi0, hz0, hz1, hz2⟩ := info_parts info_int
    have HI := Lib.hid hi0; have HZ0 := Lib.hid hz0; have HZ1 := Lib.hid hz1; have HZ2 := Lib.hid hz2
    clear hi0 hz0 hz1 hz2
    go_enter Tryd.func21, Tryd.ntmps21
    go_wp2_with (first
      | (go_at_call 42
         refine (HAS.out).mono ?_
         rintro r w1 ⟨rfl, x1⟩
         have yy := fun o => HY.out w1 o x1
         rw [← yy] at c0 c1 c2 c3 c4 c5 c6 c7 c8
         clear yy)
      | (go_at_call 43
         refine (rtall_any f _ (HCD.out.ext (by (repeat (first | (with_reducible exact Ext.refl _) | (with_reducible assumption) | (with_reducible refine Ext.alloc ?_ _) | (with_reducible refine Ext.drewN ?_ _) | (with_reducible refine Ext.drew ?_) | (with_reducible refine Ext.setCell ?_ ?_ _; rotate_left; first | assumption | (simp; done) | (simp; omega)) | (with_reducible refine Ext.trans ?_ (by with_reducible assumption)))))) HSN.out HU.out).mono ?_
         rw [← HT.out]
         rintro r w2 ⟨v, rfl, hi, x2⟩
         obtain ⟨A2, cap2, rfl, ha2⟩ := hi
         have HL2 := Lib.hid ha2
         have X2 := Lib.hid (x1.trans x2)
         clear ha2 x1 x2 c0 c1 c2 c3 c4 c5 c6 c7 c8))
    have hll : (tallL l n).length ≤ 2000 := by rw [HT.out]; have := HSN.out.few; simpa using this
    obtain ⟨L, hTL⟩ : ∃ L, tallL l n = L := ⟨_, rfl⟩
    rw [hTL] at hll HL2 ⊢
    have HTL := Lib.hid hTL
    clear hTL
    obtain ⟨nL, hnL⟩ : ∃ nL, nL = L.length := ⟨_, rfl⟩
    have HNL := Lib.hid hnL
    rw [← hnL] at hll HL2 ⊢
    clear hnL HT
    go_loopw [7, 9] (fun v i wr => ∃ j : Nat, j ≤ nL ∧ i = .int .i64 j ∧ wr.ownsRow w2.heap.size 3 1 v (notNegTo L j).length ((notNegTo L j).map fun i => .int .i64 i) ∧ Ext w2 wr) (fun _ i _ => nL - (intOf i).toNat)
    case atStart => exact ⟨0, Nat.zero_le _, rfl, World.ownsRow_nil _ _ _ _, Ext.refl _⟩
    case round =>
      obtain ⟨j, hj, rfl, ow, hx⟩ := hrel
      have HO := Lib.hid ow
      have HX := Lib.hid hx
      by_cases hlt : j < nL
      · obtain ⟨b2, o2, rfl, hb2, d2⟩ := (HL2.out.ext hx).one hlt
        have HS := Lib.hid (notNegTo_succ L j)
        have hln := notNegTo_len L j
        clear ow hx
        generalize L.getD j 0 = q at *
        go_wp2_with (first
          | (at_builtin
             refine wpList_append_own _ rfl _ _ 34 rfl w2.heap.size 3 i0 _ 1 8 Tryd.underlying34 HI.out HZ0.out HZ1.out HZ2.out rfl (by decide) _ _ _ rfl (HO.out.alloc _) ⟨wr.heap.size, 0, none⟩ 1 1 [.int .i64 j] rfl rfl ?c1 ?c2 ?c3 ?c4 ?c5 ?_))
        case c1 =>
          intro j2 u hj2
          match j2, hj2 with
          | 0, hj2 => simp at hj2; subst hj2; simp [Addr.add]
        case c2 => intro u hu; simp at hu; subst hu; rfl
        case c3 => unfold maxLen; omega
        case c4 => omega
        case c5 => have := HX.out.size; simp; omega
        case roundEnd =>
          have h9 : q < 0 := by assumption
          have h8 := HS.out
          rw [if_neg (by omega), List.append_nil] at h8
          exact ⟨⟨j + 1, by omega, by go_num, by rw [h8]; exact HO.out, HX.out⟩, by simp [intOf]; omega⟩
        · intro v' w3 ow3 g3 _
          have h9 : 0 ≤ q := by assumption
          have OW3 := Lib.hid ow3
          have X3 := Lib.hid ((HX.out.alloc (.cells #[.int .i64 (j : Int)] 3)).grown g3 (own_row HO.out))
          clear ow3 g3
          go_wp2_with fail
          have h8 := HS.out
          rw [if_pos h9] at h8
          go_roundw
          case rel => exact ⟨j + 1, by omega, by go_num, by rw [h8]; simpa using OW3.out, X3.out⟩
          case measure => simp [intOf]; omega
      · go_wp2_with fail
        go_ret2
        obtain rfl : j = nL := by omega
        refine ⟨u7, rfl, by rw [HTL.out]; exact own_ints (L := notNeg L) (by have := HO.out; rw [HNL.out] at this; exact this), X2.out.trans HX.out⟩
  · have HT : Hid (tallL l k = []) := by
      unfold Hid tallL
      rw [if_neg h0]
    generalize askE l k = a at *
    have hb : (a != 0) = true := by simpa using h0
    go_enter Tryd.func21, Tryd.ntmps21
    go_wp2_with (first
      | (go_at_call 42; refine (HAS.out).mono ?_; rintro r w1 ⟨rfl, x1⟩))
    go_ret2
    exact ⟨_, rfl, by rw [HT.out]; exact IntsAt.nil _, by (repeat (first | (with_reducible exact Ext.refl _) | (with_reducible assumption) | (with_reducible refine Ext.alloc ?_ _) | (with_reducible refine Ext.drewN ?_ _) | (with_reducible refine Ext.drew ?_) | (with_reducible refine Ext.setCell ?_ ?_ _; rotate_left; first | assumption | (simp; done) | (simp; omega)) | (with_reducible refine Ext.trans ?_ (by with_reducible assumption))))⟩
end Go.Proofs.YtamgalmlhjbbdaaDoor.c
