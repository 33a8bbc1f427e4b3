/- Contract of the reference's unsound. Conditions: what right code is good for. Contract of the reference's Check. Conditions: sizes. -/
import Derived.Test.YtamgalmlhjbbdaaDoorRpairs
import Derived.Test.YtamgalmlhjbbdaaDoorTall
namespace Go.Proofs.YtamgalmlhjbbdaaDoor.c
open Go.RowKit
set_option linter.unusedVariables false
set_option linter.unusedSimpArgs false
theorem und_map : Tryd.prog.underlying 71 = some (.map (Tryd.prog.mapKeyOf 71) (Tryd.prog.mapElemOf 71)) := by kernel_rfl
theorem und_map2 : Tryd.prog.underlying 71 = some (.map 3 4) := Tryd.underlying71
theorem row_two {S : List (Int × Int)} {i : Int} : (∃ x y, x ≠ y ∧ rowV S i x ≠ none ∧ rowV S i y ≠ none) ↔ ∃ h k, h ≠ k ∧ (i, h) ∈ S ∧ (i, k) ∈ S := by
  constructor
  · rintro ⟨x, y, hne, hx, hy⟩
    obtain ⟨h, h1, rfl⟩ := rowV_some hx
    obtain ⟨k, h2, rfl⟩ := rowV_some hy
    exact ⟨h, k, fun e => hne (by rw [e]), h1, h2⟩
  · rintro ⟨h, k, hne, h1, h2⟩
    exact ⟨.int .i64 h, .int .i64 k, fun e => hne (by cases e; rfl), by rw [rowV_in h1]; simp, by rw [rowV_in h2]; simp⟩
/-- wrong, when the heights that are still to come are L -/
def WbIs (c : List Cd) (S : List (Int × Int)) (O : Int → Bool) (i : Int) (L : Value → Prop) (wb : Bool) : Prop :=
  wb = true ↔ (∃ h k, h ≠ k ∧ (i, h) ∈ S ∧ (i, k) ∈ S) ∨ O i = true ∨ ∃ h, (i, h) ∈ S ∧ ¬ L (.int .i64 h) ∧ okH (xAt c (i, h)) h = false
section
variable {c : List Cd} {S : List (Int × Int)} {O : Int → Bool} {i h : Int} {L : Value → Prop} {wb : Bool}
theorem WbIs.start_two (e : ∃ h k, h ≠ k ∧ (i, h) ∈ S ∧ (i, k) ∈ S) : WbIs c S O i (fun x => rowV S i x ≠ none) true := ⟨fun _ => .inl e, fun _ => rfl⟩
theorem WbIs.start_out (e : ¬ ∃ h k, h ≠ k ∧ (i, h) ∈ S ∧ (i, k) ∈ S) : WbIs c S O i (fun x => rowV S i x ≠ none) (O i) := by
  refine ⟨fun h => .inr (.inl h), ?_⟩
  rintro (h | h | ⟨h, h1, h2, _⟩)
  · exact absurd h e
  · exact h
  · exact absurd (show rowV S i (.int .i64 h) ≠ none by rw [rowV_in h1]; simp) h2
theorem WbIs.step_true (v : WbIs c S O i L true) : WbIs c S O i (fun x => L x ∧ x ≠ .int .i64 h) true := by
  refine ⟨fun _ => ?_, fun _ => rfl⟩
  rcases v.1 rfl with e | e | ⟨k, h1, h2, h3⟩
  · exact .inl e
  · exact .inr (.inl e)
  · exact .inr (.inr ⟨k, h1, fun e => h2 e.1, h3⟩)
theorem WbIs.step_false (v : WbIs c S O i L false) (hin : (i, h) ∈ S) {x : Cd} (hx : x = xAt c (i, h)) : WbIs c S O i (fun x => L x ∧ x ≠ .int .i64 h) (!okH x h) := by
  subst hx
  refine ⟨fun e => .inr (.inr ⟨h, hin, fun e2 => e2.2 rfl, by simpa using e⟩), ?_⟩
  rintro (e | e | ⟨k, h1, h2, h3⟩)
  · exact absurd (v.2 (.inl e)) (by decide)
  · exact absurd (v.2 (.inr (.inl e))) (by decide)
  · by_cases e : k = h
    · subst e; rw [h3]; rfl
    · exact absurd (v.2 (.inr (.inr ⟨k, h1, fun e2 => h2 ⟨e2, fun e3 => e (by cases e3; rfl)⟩, h3⟩))) (by decide)
end
theorem Pairs.wrong {w w' : World} {c : List Cd} {gs gm go : Nat} {S : List (Int × Int)} {O : Int → Bool} (p : Pairs w w' c gs gm go S O) {i : Int} {L : Value → Prop} {wb : Bool} (v : WbIs c S O i L wb) (hl : ∀ x, ¬ L x) : wb = true ↔ BadIn c (Reach c) i := by
  refine (show wb = true ↔ _ from v).trans ?_
  rw [p.bad i]
  constructor
  · rintro (e | e | ⟨h, h1, _, h3⟩)
    · exact .inr (.inl e)
    · exact .inr (.inr e)
    · exact .inl ⟨h, h1, h3⟩
  · rintro (⟨h, h1, h3⟩ | e | e)
    · exact .inr (.inr ⟨h, h1, hl _, h3⟩)
    · exact .inl e
    · exact .inr (.inl e)
theorem RowAt.size_lt {w : World} {g n : Nat} {t : TypeId} {F : Nat → Value} (h : RowAt w g t n F) : g < w.heap.size := h.lt
set_option maxRecDepth 100000 in
set_option maxHeartbeats 3200000 in
theorem runsound_any (f : Fc) (w : World) (hC : CdAt w f.A f.code) (sn : Sane f.code) :
    Calls Tryd.prog 31 #[.agg #[.string f.name, .int .i64 f.params, .int .i64 f.places, .int .i64 f.ty.base, .int .i64 f.ty.bits, .string f.ty.name, .bool f.ty.opt, .bool f.ty.err, .slice f.A f.code.length f.cap]] w fun e w' => e = .returned (.int .i64 (unsoundS f.code)) ∧ Ext w w' := by
  have hfew := sn.few
  have HC := Lib.hid hC
  have SN := Lib.hid sn
  have HFB : Hid (FcBox (w.alloc (.cells #[.string f.name, .int .i64 f.params, .int .i64 f.places, .int .i64 f.ty.base, .int .i64 f.ty.bits, .string f.ty.name, .bool f.ty.opt, .bool f.ty.err, .slice f.A f.code.length f.cap] 50)) w.heap.size f) := ⟨Blk.new _ _ _⟩
  have HXW : Hid (Ext w (w.alloc (.cells #[.string f.name, .int .i64 f.params, .int .i64 f.places, .int .i64 f.ty.base, .int .i64 f.ty.bits, .string f.ty.name, .bool f.ty.opt, .bool f.ty.err, .slice f.A f.code.length f.cap] 50))) := (Ext.refl _).alloc _
  clear hC sn
  obtain ⟨len, hlen⟩ : ∃ len, len = f.code.length := ⟨_, rfl⟩
  have HLn := Lib.hid hlen
  rw [← hlen] at hfew ⊢
  clear hlen
  go_enter Tryd.func31, Tryd.ntmps31
  go_wp2_with (first
    | (go_at_call 52
       refine (pairs_len f HLn.out _ (HC.out.ext ((Ext.refl _).alloc _)) SN.out).mono ?_
       rw [← HLn.out] at HFB HXW
       rintro r w1 ⟨gs, gm, go, S, O, rfl, ps⟩
       have PS := Lib.hid ps
       clear ps))
  generalize (w.alloc (.cells #[.string f.name, .int .i64 f.params, .int .i64 f.places, .int .i64 f.ty.base, .int .i64 f.ty.bits, .string f.ty.name, .bool f.ty.opt, .bool f.ty.err, .slice f.A len f.cap] 50)) = w0 at PS HFB HXW
  go_loopw [5, 6, 7] (fun i _ _ wr => ∃ k : Nat, k ≤ len ∧ i = .int .i64 k ∧ Pairs w0 wr f.code gs gm go S O ∧ ∀ j : Int, 0 ≤ j → j < k → ¬ BadIn f.code (Reach f.code) j) (fun i _ _ _ => len - (intOf i).toNat)
  case atStart => exact ⟨0, Nat.zero_le _, rfl, PS.out, fun j h1 h2 => by omega⟩
  case round =>
    obtain ⟨k, hk, rfl, ps, hn⟩ := hrel
    have HN := Lib.hid hn
    clear PS hn
    have PS := Lib.hid ps
    have fb := (HFB.out.ext ps.ext).cells.2.2.2.2.2.2.2.2
    rw [← HLn.out] at fb
    have zf := (HFB.out.ext ps.ext).out.lt
    clear ps
    by_cases hlt : k < len
    · have hkf : k < f.code.length := by have := HLn.out; omega
      have sc := PS.out.seenc.cell hkf
      have oc := PS.out.outc.cell hkf
      have zs := PS.out.seenc.lt
      have zo := PS.out.outc.lt
      obtain ⟨m, hm⟩ := PS.out.maps k hkf
      obtain ⟨es, clock, hb, hes, hcnt⟩ := hm.count
      have HM := Lib.hid hm
      have HCN := Lib.hid (hcnt.trans row_two)
      have hlm := run_len_map (P := Tryd.prog) (w := wr) 71 3 (gm + k) es clock und_map hb
      clear hm hb hes hcnt
      generalize es.size = ne at *
      go_wp2_with (first
        | (at_range
           refine wpList_range_at rfl _ 71 rfl und_map2 HM.out rfl ?_
           intro w2 c rg g2 s2
           have RG := Lib.hid rg
           have XR := Lib.hid ((Ext.refl wr).grown g2 (fun k e => by cases e))
           clear rg g2 s2))
      all_goals
        first
          | have W0 : Hid (WbIs f.code S O k (fun x => rowV S k x ≠ none) true) := WbIs.start_two (HCN.out.1 (by omega))
          | have W0 : Hid (WbIs f.code S O k (fun x => rowV S k x ≠ none) (O k)) := WbIs.start_out (fun e => by have := HCN.out.2 e; omega)
        clear sc oc zs zo HM HCN hlm fb zf
        obtain ⟨rr, hrr⟩ : ∃ rr, rr = wr.heap.size := ⟨_, rfl⟩
        rw [← hrr] at RG ⊢
        have HRR := Lib.hid hrr
        clear hrr
        try go_frame
        go_loopw [6, 7] (fun v _ w3 => ∃ L c wb, v = .bool wb ∧ RngAt w3 (gm + k) rr (rowV S k) L c ∧ Ext wr w3 ∧ WbIs f.code S O k L wb) (fun _ _ wr => wr.rangeLeft (gm + k) rr)
        case atStart => exact ⟨_, _, _, rfl, RG.out, XR.out, W0.out⟩
        case round =>
          clear RG XR W0
          obtain ⟨L, c, wb, rfl, rg, xr, wbi⟩ := hrel
          have RG := Lib.hid rg
          have XR := Lib.hid xr
          have PS2 := Lib.hid (PS.out.ext' xr)
          have WB := Lib.hid wbi
          obtain ⟨y0, y1, y2, y3, y4, y5, y6, y7, y8⟩ := (HFB.out.ext PS2.out.ext).cells
          have zf := (HFB.out.ext PS2.out.ext).out.lt
          rw [← HLn.out] at y8
          clear rg xr wbi
          go_wp2_with (first
            | (at_next; refine wpList_next_at rfl _ rfl rfl RG.out ?_ ?_))
          · intro _ hl0
            have HL0 := Lib.hid hl0
            clear hl0 y0 y1 y2 y3 y4 y5 y6 y7 y8
            have HB := Lib.hid (PS2.out.wrong WB.out HL0.out)
            cases wb
            · go_wp2_with fail
              case roundEnd =>
                refine ⟨⟨k + 1, by omega, by go_num, PS2.out, fun j h1 h2 hb => ?_⟩, by simp [intOf]; omega⟩
                by_cases e : j = k
                · subst e
                  exact absurd (HB.out.2 hb) (by decide)
                · exact HN.out j h1 (by omega) hb
            · go_wp2_with fail
              go_ret
              refine ⟨ret_int (unsound_eq ⟨fun h => by omega, fun _ => ⟨HB.out.1 (by first | trivial | rfl), fun i hi => ?_⟩⟩).symm, HXW.out.trans PS2.out.ext⟩
              rcases (by omega : i < (k : Int) ∨ (k : Int) ≤ i) with h | h
              · exact absurd hi (HN.out i (hi.inb SN.out).1 h)
              · exact h
          · intro key v w3 c3 hl hv rg3 hlt3 g3 s3 hen
            obtain ⟨h, hin, rfl⟩ := rowV_some (show rowV S k key ≠ none by rw [hv]; simp)
            have hi := ((PS2.out.all _).1 hin).inb SN.out
            obtain ⟨h1, h2⟩ : 0 ≤ h ∧ h ≤ 65 := hi.2.2
            have HIN := Lib.hid hin
            have RG3 := Lib.hid rg3
            have XR3 := Lib.hid (XR.out.grown g3 (fun j e => by cases e; have := HRR.out; omega))
            obtain ⟨y0, y1, y2, y3, y4, y5, y6, y7, y8⟩ := (HFB.out.ext (PS.out.ext.trans XR3.out)).cells
            rw [← HLn.out] at y8
            rw [rowV_in hin] at hv
            cases hv
            have zf3 : w.heap.size < w3.heap.size := by omega
            have C3 := Lib.hid hlt3
            clear hl rg3 hlt3 g3 s3 hin hi XR
            obtain ⟨x, hx⟩ : ∃ x, x = xAt f.code ((k : Int), h) := ⟨_, rfl⟩
            have HX := Lib.hid hx
            clear hx
            cases wb
            · go_wp2_with (first
                | (go_at_call 53
                   refine (isHeight_len f HLn.out (k := k) (h := h) (x := x) _ (HC.out.ext (HXW.out.trans (PS.out.ext.trans XR3.out))) hlt (by omega) HX.out).mono ?_
                   rintro r w4 ⟨rfl, x4⟩))
              case roundEnd =>
                have r4 := RG3.out.ext x4
                refine ⟨⟨_, _, _, rfl, r4, XR3.out.trans x4, WB.out.step_false HIN.out HX.out⟩, ?_⟩
                rw [r4.left_eq, RG.out.left_eq]
                exact C3.out
            · go_wp2_with fail
              case roundEnd =>
                refine ⟨⟨_, _, _, rfl, RG3.out, XR3.out, WB.out.step_true⟩, ?_⟩
                rw [RG3.out.left_eq, RG.out.left_eq]
                exact C3.out
    · go_wp2_with fail
      go_ret
      refine ⟨ret_int (unsound_eq ⟨fun _ => ⟨rfl, fun i hi => ?_⟩, fun h => by omega⟩).symm, HXW.out.trans PS.out.ext⟩
      exact HN.out i (hi.inb SN.out).1 (by have := (hi.inb SN.out).2; have := HLn.out; omega) hi
set_option maxRecDepth 100000 in
set_option maxHeartbeats 1600000 in
theorem rCheck_any (A : Option Addr) (cap : Nat) (l : List Fc) (w : World) (hA : FcAt w A l) (hl : l.length ≤ 9223372036854775806) (hc : l.length ≤ 48 → countS l ≤ 9223372036854775806) (hfl : ∀ f, f ∈ l → f.code.length ≤ 9223372036854775806) :
    Calls Tryd.prog 11 #[.slice A l.length cap] w fun e w' => e = .returned (.tuple #[.int .i64 (checkE l).1, .int .i64 (checkE l).2.1, .int .i64 (checkE l).2.2]) ∧ Ext w w' := by
  by_cases hv : validS l = 0
  · have HV := Lib.hid hv
    have HCV := Lib.hid (rValidate_any A cap l w hA hl hc hfl)
    have HA := Lib.hid hA
    clear hv hA hfl hc
    obtain ⟨len, hlen⟩ : ∃ len, len = l.length := ⟨_, rfl⟩
    rw [← hlen] at hl ⊢
    have HLn := Lib.hid hlen
    clear hlen
    go_enter Tryd.func11, Tryd.ntmps11
    go_wp2_with (first | (go_at_call 15; rw [HLn.out]; refine (HCV.out).mono ?_; rw [HV.out, ← HLn.out]; rintro r w1 ⟨rfl, x1⟩))
    have HX0 := Lib.hid x1
    clear x1
    go_loopw [6, 7] (fun i _ wr => ∃ k : Nat, k ≤ len ∧ i = .int .i64 k ∧ (∀ j, j < k → unsoundS (l.getD j default).code < 0) ∧ Ext w wr) (fun i _ _ => len - (intOf i).toNat)
    case atStart => exact ⟨0, Nat.zero_le _, rfl, fun j hj => by omega, HX0.out⟩
    case round =>
      obtain ⟨k, hk, rfl, hn, hx⟩ := hrel
      have HN := Lib.hid hn
      have HX := Lib.hid hx
      clear hn hx
      by_cases hlt : k < len
      · obtain ⟨f, hf⟩ : ∃ f, f = l.getD k default := ⟨_, rfl⟩
        obtain ⟨b, off, rfl, hb, c0, c1, c2, c3, c4, c5, c6, c7, c8, hcd⟩ := (HA.out.ext HX.out).at_ (k := k) (by rw [← HLn.out]; exact hlt) hf
        obtain ⟨q, hq⟩ : ∃ q, q = unsoundS f.code := ⟨_, rfl⟩
        have HQ := Lib.hid hq
        have HCD := Lib.hid hcd
        have HF := Lib.hid hf
        have HSN : Hid (Sane f.code) := sane_of HV.out (by rw [hf]; exact getD_mem (by rw [← HLn.out]; exact hlt))
        clear hf hcd hq
        go_wp2_with (first | (go_at_call 31; refine (runsound_any f _ (HCD.out.ext (by (repeat (first | (with_reducible exact Ext.refl _) | (with_reducible assumption) | (with_reducible refine Ext.alloc ?_ _) | (with_reducible refine Ext.drewN ?_ _) | (with_reducible refine Ext.drew ?_) | (with_reducible refine Ext.setCell ?_ ?_ _; rotate_left; first | assumption | (simp; done) | (simp; omega)) | (with_reducible refine Ext.trans ?_ (by with_reducible assumption)))))) HSN.out).mono ?_; rw [← HQ.out]; rintro r w2 ⟨rfl, x2⟩))
        case roundEnd =>
          have h9 : q < 0 := by assumption
          refine ⟨⟨k + 1, by omega, by go_num, fun j hj => ?_, HX.out.trans (by (repeat (first | (with_reducible exact Ext.refl _) | (with_reducible assumption) | (with_reducible refine Ext.alloc ?_ _) | (with_reducible refine Ext.drewN ?_ _) | (with_reducible refine Ext.drew ?_) | (with_reducible refine Ext.setCell ?_ ?_ _; rotate_left; first | assumption | (simp; done) | (simp; omega)) | (with_reducible refine Ext.trans ?_ (by with_reducible assumption)))))⟩, by simp [intOf]; omega⟩
          rcases Nat.lt_or_ge j k with h | h
          · exact HN.out j h
          · obtain rfl : j = k := by omega
            rw [← HF.out, ← HQ.out]; exact h9
        all_goals
          have h9 : 0 ≤ q := by assumption
          have e := check_bad HV.out (k := k) (by rw [← HLn.out]; exact hlt) (by rw [← HF.out, ← HQ.out]; exact h9) HN.out
          rw [← HF.out, ← HQ.out] at e
          go_ret3
          exact ⟨ret_i3 (by rw [e]) (by rw [e]) (by rw [e]), HX.out.trans (by (repeat (first | (with_reducible exact Ext.refl _) | (with_reducible assumption) | (with_reducible refine Ext.alloc ?_ _) | (with_reducible refine Ext.drewN ?_ _) | (with_reducible refine Ext.drew ?_) | (with_reducible refine Ext.setCell ?_ ?_ _; rotate_left; first | assumption | (simp; done) | (simp; omega)) | (with_reducible refine Ext.trans ?_ (by with_reducible assumption)))))⟩
      · go_wp2_with fail
        go_ret3
        have e := check_good HV.out (fun j hj => HN.out j (by have := HLn.out; omega))
        exact ⟨ret_i3 (by rw [e]) (by rw [e]) (by rw [e]), HX.out⟩
  · obtain ⟨v, hvv⟩ : ∃ v, v = validS l := ⟨_, rfl⟩
    have hb : (v != 0) = true := by rw [bne_iff_ne, hvv]; exact hv
    have HV := Lib.hid hvv
    have HN := Lib.hid hv
    have HCV := Lib.hid (rValidate_any A cap l w hA hl hc hfl)
    clear hvv hv hA hfl hc
    go_enter Tryd.func11, Tryd.ntmps11
    go_wp2_with (first | (go_at_call 15; refine (HCV.out).mono ?_; rw [← HV.out]; rintro r w1 ⟨rfl, x1⟩))
    go_ret3
    exact ⟨ret_i3 (by unfold checkE; rw [if_neg HN.out]) (by unfold checkE; rw [if_neg HN.out]) (by unfold checkE; rw [if_neg HN.out, HV.out]), by (repeat (first | (with_reducible exact Ext.refl _) | (with_reducible assumption) | (with_reducible refine Ext.alloc ?_ _) | (with_reducible refine Ext.drewN ?_ _) | (with_reducible refine Ext.drew ?_) | (with_reducible refine Ext.setCell ?_ ?_ _; rotate_left; first | assumption | (simp; done) | (simp; omega)) | (with_reducible refine Ext.trans ?_ (by with_reducible assumption))))⟩
end Go.Proofs.YtamgalmlhjbbdaaDoor.c
