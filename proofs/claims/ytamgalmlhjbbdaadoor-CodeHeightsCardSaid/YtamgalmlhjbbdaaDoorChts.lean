/- Contracts of code.Heights, code.Reached. The table strings.asciiSpace holds what its text lays; sizes are bounded. -/
import Derived.Test.YtamgalmlhjbbdaaDoorRtall
import Derived.Test.YtamgalmlhjbbdaaDoorCheck
namespace Go.Proofs.YtamgalmlhjbbdaaDoor.c
open Go.RowKit
set_option linter.unusedVariables false
set_option linter.unusedSimpArgs false
theorem und_pts : Tryd.prog.underlying 54 = some (.map 67 4) := Tryd.underlying54
theorem seenV_some {S : List (Int × Int)} {x : Value} (h : seenV S x ≠ none) : ∃ p ∈ S, x = ptv p := by
  unfold seenV at h
  by_cases c : ∃ p ∈ S, x = ptv p
  · exact c
  · rw [if_neg c] at h; exact absurd rfl h
def updN (T : Nat → Int) (q : Nat) (h : Int) : Nat → Int := fun j => if j = q then h else T j
theorem updN_self (T : Nat → Int) (q : Nat) (h : Int) : updN T q h q = h := if_pos rfl
theorem updN_ne {T : Nat → Int} {q j : Nat} {h : Int} (e : j ≠ q) : updN T q h j = T j := if_neg e
theorem look_pts (f : Fc) (w : World) (hC : CdAt w f.A f.code) (sn : Sane f.code) :
    Calls Tryd.prog 30 #[.agg #[.string f.name, .int .i64 f.params, .int .i64 f.places, .int .i64 f.ty.base, .int .i64 f.ty.bits, .string f.ty.name, .bool f.ty.opt, .bool f.ty.err, .slice f.A f.code.length f.cap]] w fun e w' =>
      ∃ mb S wr, e = .returned (.tuple #[.map (some mb), .int .i64 wr]) ∧ Ext w w' ∧ w.heap.size ≤ mb ∧ (∃ n, MapAt w' 67 mb n (seenV S)) ∧ (∀ q, q ∈ S ↔ Reach f.code q) := by
  refine (look_any f w hC sn).mono ?_
  rintro e w' ⟨mb, S, wr, rfl, x, h1, h2, _, h3, _⟩
  exact ⟨mb, S, wr, rfl, x, h1, h2, h3⟩
set_option maxRecDepth 100000 in
set_option maxHeartbeats 3200000 in
theorem cHeights_any (A : Option Addr) (cap : Nat) (l : List Fc) (k : Int) (w : World) (g : Laid w) (hk0 : -9223372036854775808 ≤ k) (hk1 : k ≤ 9223372036854775807) (hA : FcAt w A l) (hl : l.length ≤ 9223372036854775806) (hc : l.length ≤ 48 → countS l ≤ 9223372036854775806) (hfl : ∀ f, f ∈ l → f.code.length ≤ 9223372036854775806) :
    Calls Tryd.prog 18 #[.slice A l.length cap, .int .i64 k] w fun e w' => ∃ v, e = .returned (.tuple #[v, .int .i64 (askE l k)]) ∧ IntsAt w' v (tallL l k) ∧ Ext w w' := by
  have HCC := Lib.hid (cCheck_any A cap l w g hA hl hc hfl)
  have HA := Lib.hid hA
  clear hA hfl hc
  by_cases h0 : askE l k = 0
  · obtain ⟨hce, hk2, hk3⟩ := ask_ok h0
    obtain ⟨hv, hun⟩ := check_ok hce
    obtain ⟨n, hn⟩ : ∃ n : Nat, k = n := ⟨k.toNat, by omega⟩
    subst hn
    have hnl : n < l.length := by omega
    obtain ⟨f, hf⟩ : ∃ f, f = l.getD n default := ⟨_, rfl⟩
    have hsn : Sane f.code := sane_of hv (by rw [hf]; exact getD_mem hnl)
    have HNB := Lib.hid (uns_none hsn (by rw [hf]; exact hun n hnl))
    have HSN := Lib.hid hsn
    have hfew := hsn.few
    have hmk := fun W => run_make_row' (P := Tryd.prog) 34 3 (.int .i64 0) 8 Tryd.underlying34 info_int rfl .i64 .i64 f.code.length (by omega) (by omega) W
    obtain ⟨b, off, rfl, hb, c0, c1, c2, c3, c4, c5, c6, c7, c8, hcd⟩ := HA.out.at_ (k := n) hnl hf
    have HCD := Lib.hid hcd
    have HT : Hid (tallL l n = (List.range f.code.length).map (fun i => tallS f.code (i : Nat))) := by
      unfold Hid tallL
      rw [if_pos h0, Int.toNat_natCast, ← hf]
    rw [h0]
    rw [hce] at HCC
    clear h0 hce hun hcd hv hf hsn
    obtain ⟨len, hlen⟩ : ∃ len, len = l.length := ⟨_, rfl⟩
    rw [← hlen] at hl HCC hk3 hnl ⊢
    clear hlen
    obtain ⟨nc, hnc⟩ : ∃ nc, nc = f.code.length := ⟨_, rfl⟩
    rw [← hnc] at hmk hfew c8
    have HNC := Lib.hid hnc
    clear hnc
    have HY : Hid (∀ (w' : World) (o : Nat), Ext w w' → w'.cell? ⟨b, o, none⟩ = w.cell? ⟨b, o, none⟩) := fun w' o x => x.cell (p := ⟨b, o, none⟩) hb
    have HC9 := Lib.hid (And.intro c0 (And.intro c1 (And.intro c2 (And.intro c3 (And.intro c4 (And.intro c5 (And.intro c6 (And.intro c7 c8))))))))
    go_enter Tryd.func18, Tryd.ntmps18
    go_wp2_with (first
      | (go_at_call 10
         refine (HCC.out).mono ?_
         rintro r w1 ⟨rfl, x1⟩
         have X1 := Lib.hid x1
         have zb1 : b < w1.heap.size := Nat.lt_of_lt_of_le hb x1.size
         rw [← HY.out w1 _ x1] at c8
         clear c0 c1 c2 c3 c4 c5 c6 c7))
    have R0 : Hid (RowAt (w1.alloc (.cells (madeCells #[.int .i64 0] nc) 3)) w1.heap.size 3 nc (fun j => if j < 0 then .int .i64 (-1) else .int .i64 0)) := (RowAt.made w1 3 (.int .i64 0) nc).same fun j hj => by rw [if_neg (by omega)]
    clear x1
    go_loopw [10, 40] (fun _ i wr => ∃ k : Nat, k ≤ nc ∧ i = .int .i64 k ∧ Ext w1 wr ∧ RowAt wr w1.heap.size 3 nc (fun j => if j < k then .int .i64 (-1) else .int .i64 0)) (fun _ i _ => nc - (intOf i).toNat)
    case atStart => exact ⟨0, Nat.zero_le _, rfl, (Ext.refl _).alloc _, R0.out⟩
    case round =>
      obtain ⟨k, hk, rfl, hx, hr⟩ := hrel
      have HX := Lib.hid hx
      have HR := Lib.hid hr
      clear R0
      by_cases hlt : k < nc
      · have d1 := hr.cell hlt
        have f1 := hr.frozen k
        have z1 := hr.lt
        rw [if_neg (Nat.lt_irrefl k)] at d1
        clear hx hr
        go_wp2_with fail
        case roundEnd =>
          refine ⟨⟨k + 1, by omega, by go_num, HX.out.setCell (Nat.le_refl _) _, HR.out.set_ fun j hj => ?_⟩, by simp [intOf]; omega⟩
          by_cases h : j < k
          · rw [if_pos (by omega), if_neg (by omega), if_pos h]
          · by_cases h2 : j = k
            · rw [if_pos (by omega), if_pos h2]
            · rw [if_neg (by omega), if_neg h2, if_neg h]
      · obtain rfl : k = nc := by omega
        clear hmk hx hr hk c8
        obtain ⟨e0, e1, e2, e3, e4, e5, e6, e7, e8⟩ := HC9.out
        rw [← HY.out wr _ (X1.out.trans HX.out)] at e0 e1 e2 e3 e4 e5 e6 e7 e8
        have zb2 : b < wr.heap.size := Nat.lt_of_lt_of_le zb1 HX.out.size
        rw [HNC.out] at e8
        go_wp2_with (first
          | (go_at_call 30
             refine (look_pts f _ (HCD.out.ext (X1.out.trans HX.out)) HSN.out).mono ?_
             rintro r w2 ⟨mb, S, wq, rfl, x2, hmb, hm2, hall⟩
             obtain ⟨nm, hm3⟩ := hm2
             have R2 := Lib.hid ((HR.out.ext x2).same (F' := fun j => .int .i64 (-1)) fun j hj => by rw [if_pos hj])
             have X2 := Lib.hid (HX.out.trans x2)
             have HM := Lib.hid hm3
             have HALL := Lib.hid hall
             have hne : w1.heap.size ≠ mb := by have := HR.out.lt; omega
             clear x2 hm3 hall e0 e1 e2 e3 e4 e5 e6 e7 e8)
          | (at_range
             refine wpList_range_at rfl _ 54 rfl und_pts HM.out rfl ?_
             intro w3 c rg g3 s3
             have RG := Lib.hid rg
             have R3 := Lib.hid (R2.out.grown g3 (by simp))
             have X3 := Lib.hid (X2.out.grown g3 (fun k e => by cases e))
             clear rg g3 s3))
        have hgr : w1.heap.size < w2.heap.size := R2.out.lt
        try go_frame
        generalize w2.heap.size = rr at RG hgr ⊢
        go_loopw [13] (fun _ w3 => ∃ L c, ∃ T : Nat → Int, RngAt w3 mb rr (seenV S) L c ∧ Ext w1 w3 ∧ RowAt w3 w1.heap.size 3 k (fun j => .int .i64 (T j)) ∧ ∀ j, j < k → (T j = -1 ∧ ∀ h, ((j : Int), h) ∈ S → L (ptv ((j : Int), h))) ∨ T j = tallS f.code j) (fun _ w3 => w3.rangeLeft mb rr)
        case atStart => exact ⟨_, _, fun _ => -1, RG.out, X3.out, R3.out, fun j hj => .inl ⟨rfl, fun h hh => by rw [seenV_in hh]; simp⟩⟩
        case round =>
          clear RG X3 R3 R2 X2 HM HX HR
          obtain ⟨L, c, T, rg, x3, r3, hz⟩ := hrel
          have RG := Lib.hid rg
          have X3 := Lib.hid x3
          have R3 := Lib.hid r3
          have HZ := Lib.hid hz
          clear rg x3 r3 hz
          go_wp2_with (first
            | (at_next; refine wpList_next_at rfl _ rfl rfl RG.out ?_ ?_))
          · intro _ hl0
            have HL0 := Lib.hid hl0
            clear hl0
            go_wp2_with fail
            go_ret2
            refine ⟨_, rfl, ?_, X1.out.trans X3.out⟩
            rw [HT.out, ← HNC.out]
            refine row_ints (R3.out.same fun j hj => ?_)
            rcases HZ.out j hj with ⟨e, h⟩ | e
            · rw [e, tall_out]
              rintro ⟨h1, h2⟩
              exact HL0.out _ (h h1 ((HALL.out _).2 h2))
            · rw [e]
          · intro key v w4 c4 hl hv rg4 hlt4 g4 s4 hen
            obtain ⟨⟨pa, ph⟩, hin, rfl⟩ := seenV_some (show seenV S key ≠ none by rw [hv]; simp)
            have hp := (HALL.out _).1 hin
            obtain ⟨i1, i2, i3, i4⟩ := hp.inb HSN.out
            simp only [] at i1 i2 i3 i4
            obtain ⟨q, hq⟩ : ∃ q : Nat, pa = q := ⟨pa.toNat, by omega⟩
            subst hq
            have hqk : q < k := by have := HNC.out; omega
            have R4 := Lib.hid (R3.out.grown g4 (fun e => by have := Option.some.inj e; omega))
            have RG4 := Lib.hid rg4
            have X4 := Lib.hid (X3.out.grown g4 (fun j e => by cases e; omega))
            have HTL := Lib.hid (tall_in (HNB.out q) hp)
            rw [seenV_in hin] at hv
            cases hv
            have d1 := R4.out.cell hqk
            have f1 := R4.out.frozen q
            have z1 := R4.out.lt
            have C4 := Lib.hid hlt4
            have zr : rr < w4.heap.size := rg4.lt.2.1
            have zm : mb < w4.heap.size := rg4.lt.1
            clear hl rg4 hlt4 g4 s4 hin hp
            unfold ptv at hen
            simp only [] at hen
            unfold ptv
            go_wp2_with fail
            case roundEnd =>
              have r5 : RngAt ((w4.setCell ⟨w1.heap.size, q, none⟩ (.int .i64 ph)).alloc (.cells #[.int .i64 (q : Int), .int .i64 ph] 67)) mb rr (seenV S) _ c4 := (RG4.out.setCell (fun e => hne e.symm) (by simp; omega) _).ext ((Ext.refl _).alloc _)
              refine ⟨⟨_, _, updN T q ph, r5, (X4.out.setCell (Nat.le_refl _) _).alloc _, (R4.out.set_ fun j hj => ?_).ext ((Ext.refl _).alloc _), fun j hj => ?_⟩, ?_⟩
              · by_cases e : j = q
                · subst e; rw [if_pos rfl, updN_self]
                · rw [if_neg e, updN_ne e]
              · by_cases e : j = q
                · subst e
                  rw [updN_self]
                  exact .inr HTL.out.symm
                · rw [updN_ne e]
                  rcases HZ.out j hj with ⟨e1, h⟩ | e1
                  · exact .inl ⟨e1, fun h1 hh => ⟨h h1 hh, fun e2 => e (by have := congrArg Prod.fst (ptv_inj e2); simp only [] at this; omega)⟩⟩
                  · exact .inr e1
              · rw [r5.left_eq, RG.out.left_eq]
                exact C4.out
  · have HT : Hid (tallL l k = []) := by
      unfold Hid tallL
      rw [if_neg h0]
    obtain ⟨a, ha⟩ : ∃ a, a = askE l k := ⟨_, rfl⟩
    have h1 := ha
    unfold askE at h1
    rw [← ha] at h0 ⊢
    have HAE := Lib.hid h1
    clear ha h1
    generalize checkE l = ce at HCC HAE
    obtain ⟨e1, e2, e3⟩ := ce
    obtain ⟨len, hlen⟩ : ∃ len, len = l.length := ⟨_, rfl⟩
    rw [← hlen] at hl HCC HAE ⊢
    clear hlen
    go_enter Tryd.func18, Tryd.ntmps18
    go_wp2_with (first
      | (go_at_call 10; refine (HCC.out).mono ?_; rintro r w1 ⟨rfl, x1⟩))
    all_goals first
      | (go_ret2
         refine ⟨_, ret_v2 ?_, by rw [HT.out]; exact IntsAt.nil _, by (repeat (first | (with_reducible exact Ext.refl _) | (with_reducible assumption) | (with_reducible refine Ext.alloc ?_ _) | (with_reducible refine Ext.drewN ?_ _) | (with_reducible refine Ext.drew ?_) | (with_reducible refine Ext.setCell ?_ ?_ _; rotate_left; first | assumption | (simp; done) | (simp; omega)) | (with_reducible refine Ext.trans ?_ (by with_reducible assumption))))⟩
         rw [HAE.out]
         first
           | (have h : (e3 != 0) = true := by assumption
              rw [if_neg (by simpa using h)])
           | (have h : (e3 != 0) = false := by assumption
              have h2 : e3 = 0 := by simpa using h
              rw [if_pos h2, if_pos (by omega)]))
      | (exfalso
         have h : (e3 != 0) = false := by assumption
         have h2 : e3 = 0 := by simpa using h
         have h3 := HAE.out
         rw [if_pos h2, if_neg (by omega)] at h3
         exact h0 h3)
set_option maxRecDepth 100000 in
set_option maxHeartbeats 1600000 in
theorem cReached_any (A : Option Addr) (cap : Nat) (l : List Fc) (k : Int) (w : World) (g : Laid w) (hk0 : -9223372036854775808 ≤ k) (hk1 : k ≤ 9223372036854775807) (hA : FcAt w A l) (hl : l.length ≤ 9223372036854775806) (hc : l.length ≤ 48 → countS l ≤ 9223372036854775806) (hfl : ∀ f, f ∈ l → f.code.length ≤ 9223372036854775806) :
    Calls Tryd.prog 20 #[.slice A l.length cap, .int .i64 k] w fun e w' => ∃ v, e = .returned (.tuple #[v, .int .i64 (askE l k)]) ∧ IntsAt w' v (notNeg (tallL l k)) ∧ Ext w w' := by
  have HCH := Lib.hid (cHeights_any A cap l k w g hk0 hk1 hA hl hc hfl)
  have HLE : Hid (askE l k = 0 → (tallL l k).length ≤ 2000) := fun h0 => by
    obtain ⟨hce, hk2, hk3⟩ := ask_ok h0
    obtain ⟨hv, hun⟩ := check_ok hce
    have hs : Sane (l.getD k.toNat default).code := sane_of hv (getD_mem (by omega))
    unfold tallL
    rw [if_pos h0]
    have := hs.few
    simpa using this
  have HNE : Hid (askE l k ≠ 0 → notNeg (tallL l k) = []) := fun h0 => by
    unfold tallL
    rw [if_neg h0]
    rfl
  clear hA hfl hc
  obtain ⟨L, hTL⟩ : ∃ L, tallL l k = L := ⟨_, rfl⟩
  rw [hTL] at HCH HLE HNE
  have HTL := Lib.hid hTL
  rw [hTL]
  clear hTL
  generalize askE l k = a at *
  obtain ⟨len, hlen⟩ : ∃ len, len = l.length := ⟨_, rfl⟩
  rw [← hlen] at hl HCH ⊢
  clear hlen
  by_cases h0 : a = 0
  · subst h0
    have hll := HLE.out rfl
    obtain ⟨i0, hi0, hz0, hz1, hz2⟩ := info_parts info_int
    have HI := Lib.hid hi0; have HZ0 := Lib.hid hz0; have HZ1 := Lib.hid hz1; have HZ2 := Lib.hid hz2
    clear hi0 hz0 hz1 hz2
    obtain ⟨nL, hnL⟩ : ∃ nL, nL = L.length := ⟨_, rfl⟩
    have HNL := Lib.hid hnL
    rw [← hnL] at hll
    clear hnL
    go_enter Tryd.func20, Tryd.ntmps20
    go_wp2_with (first
      | (go_at_call 18
         refine (HCH.out).mono ?_
         rintro r w2 ⟨v, rfl, hi, x2⟩
         obtain ⟨A2, cap2, rfl, ha2⟩ := hi
         have HL2 := Lib.hid ha2
         have X2 := Lib.hid x2
         rw [← HNL.out] at HL2 ⊢
         clear ha2 x2))
    go_loopw [8, 9, 10, 22] (fun v _ _ i wr => ∃ j : Nat, j ≤ nL ∧ i = .int .i64 j ∧ wr.ownsRow w2.heap.size 3 1 v (notNegTo L j).length ((notNegTo L j).map fun i => .int .i64 i) ∧ Ext w2 wr) (fun _ _ _ i _ => nL - (intOf i).toNat)
    case atStart => exact ⟨0, Nat.zero_le _, rfl, World.ownsRow_nil _ _ _ _, Ext.refl _⟩
    case round =>
      obtain ⟨j, hj, rfl, ow, hx⟩ := hrel
      have HO := Lib.hid ow
      have HX := Lib.hid hx
      by_cases hlt : j < nL
      · obtain ⟨b2, o2, rfl, hb2, d2⟩ := (HL2.out.ext hx).one hlt
        have HS := Lib.hid (notNegTo_succ L j)
        have hln := notNegTo_len L j
        clear ow hx
        generalize L.getD j 0 = q at *
        go_wp2_with (first
          | (at_builtin
             refine wpList_append_own _ rfl _ _ 34 rfl w2.heap.size 3 i0 _ 1 8 Tryd.underlying34 HI.out HZ0.out HZ1.out HZ2.out rfl (by decide) _ _ _ rfl (HO.out.alloc _) ⟨wr.heap.size, 0, none⟩ 1 1 [.int .i64 j] rfl rfl ?c1 ?c2 ?c3 ?c4 ?c5 ?_))
        case c1 =>
          intro j2 u hj2
          match j2, hj2 with
          | 0, hj2 => simp at hj2; subst hj2; simp [Addr.add]
        case c2 => intro u hu; simp at hu; subst hu; rfl
        case c3 => unfold maxLen; omega
        case c4 => omega
        case c5 => have := HX.out.size; simp; omega
        case roundEnd =>
          have h9 : q < 0 := by assumption
          have h8 := HS.out
          rw [if_neg (by omega), List.append_nil] at h8
          exact ⟨⟨j + 1, by omega, by go_num, by rw [h8]; exact HO.out, HX.out⟩, by simp [intOf]; omega⟩
        · intro v' w3 ow3 g3 _
          have h9 : 0 ≤ q := by assumption
          have OW3 := Lib.hid ow3
          have X3 := Lib.hid ((HX.out.alloc (.cells #[.int .i64 (j : Int)] 3)).grown g3 (own_row HO.out))
          clear ow3 g3
          go_wp2_with fail
          have h8 := HS.out
          rw [if_pos h9] at h8
          go_roundw
          case rel => exact ⟨j + 1, by omega, by go_num, by rw [h8]; simpa using OW3.out, X3.out⟩
          case measure => simp [intOf]; omega
      · go_wp2_with fail
        go_ret2
        obtain rfl : j = nL := by omega
        exact ⟨u8, rfl, own_ints (L := notNeg L) (by have := HO.out; rw [HNL.out] at this; exact this), X2.out.trans HX.out⟩
  · have hb : (a != 0) = true := by simpa using h0
    have HNE2 := Lib.hid (HNE.out h0)
    go_enter Tryd.func20, Tryd.ntmps20
    go_wp2_with (first
      | (go_at_call 18
         refine (HCH.out).mono ?_
         rintro r w1 ⟨v, rfl, hi, x1⟩))
    go_ret2
    exact ⟨_, rfl, by rw [HNE2.out]; exact IntsAt.nil _, by (repeat (first | (with_reducible exact Ext.refl _) | (with_reducible assumption) | (with_reducible refine Ext.alloc ?_ _) | (with_reducible refine Ext.drewN ?_ _) | (with_reducible refine Ext.drew ?_) | (with_reducible refine Ext.setCell ?_ ?_ _; rotate_left; first | assumption | (simp; done) | (simp; omega)) | (with_reducible refine Ext.trans ?_ (by with_reducible assumption))))⟩
end Go.Proofs.YtamgalmlhjbbdaaDoor.c
