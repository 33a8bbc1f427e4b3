/- Contract of the reference's Thread. Conditions: sizes. -/
import Derived.Test.YtamgalmlhjbbdaaDoorCthread
import Derived.Deep.RegionHeld3
namespace Go.Proofs.YtamgalmlhjbbdaaDoor.c
open Go.RowKit
set_option linter.unusedVariables false
set_option linter.unusedSimpArgs false
theorem cd_loose {w0 w w' : World} {A : Option Addr} {c : List Cd} {gc q : Nat} {u : Value} (h : CdAt w0 A c) (x : Ext w0 w) (z : ZZ w gc q u w') (hA : ∀ b o, A = some ⟨b, o, none⟩ → b ≠ gc ∧ b < w0.heap.size) : CdAt w' A c := by
  intro hpos
  obtain ⟨b, o, rfl, hb, hc⟩ := h hpos
  obtain ⟨h1, h2⟩ := hA b o rfl
  exact ⟨b, o, rfl, Nat.lt_of_lt_of_le hb (Nat.le_trans x.size z.size), fun i j hi hj => ((z.far (Nat.lt_of_lt_of_le h2 x.size) h1).trans (x.cell (p := ⟨b, _, none⟩) h2)).trans (hc i j hi hj)⟩
set_option maxRecDepth 100000 in
set_option maxHeartbeats 6400000 in
theorem rThread_any (A : Option Addr) (cap : Nat) (l : List Fc) (w : World) (hA : FcAt w A l) (hl : l.length ≤ 9223372036854775806) (hc : l.length ≤ 48 → countS l ≤ 9223372036854775806) (hfl : ∀ f, f ∈ l → f.code.length ≤ 9223372036854775806) :
    Calls Tryd.prog 24 #[.slice A l.length cap] w fun e w' => ThrRet l (checkE l).2.2 e w w' := by
  have HCC := Lib.hid (rCheck_any A cap l w hA hl hc hfl)
  have HA := Lib.hid hA
  clear hA hfl hc
  unfold ThrRet
  by_cases h0 : (checkE l).2.2 = 0
  · obtain ⟨hv, hun⟩ := check_ok h0
    rw [check_zero h0] at HCC ⊢
    have hl48 := (valid_parts hv).1
    have HV := Lib.hid hv
    obtain ⟨i0, hi0, hz0, hz1, hz2⟩ := info_parts info_func
    have HI := Lib.hid hi0; have HZ0 := Lib.hid hz0; have HZ1 := Lib.hid hz1; have HZ2 := Lib.hid hz2
    obtain ⟨i1, hj0, hy0, hy1, hy2⟩ := info_parts info_code
    have JI := Lib.hid hj0; have JZ0 := Lib.hid hy0; have JZ1 := Lib.hid hy1; have JZ2 := Lib.hid hy2
    obtain ⟨len, hlen⟩ : ∃ len, len = l.length := ⟨_, rfl⟩
    have HLn := Lib.hid hlen
    rw [← hlen] at hl hl48 HCC ⊢
    clear hlen hv hun h0 hi0 hz0 hz1 hz2 hj0 hy0 hy1 hy2
    simp only [] at HCC ⊢
    go_enter Tryd.func24, Tryd.ntmps24
    go_wp2_with (first
      | (go_at_call 11
         refine (HCC.out).mono ?_
         rintro r w1 ⟨rfl, x1⟩
         have X1 := Lib.hid x1
         clear x1))
    go_loopw [7, 8] (fun v i wr => ∃ k M, k ≤ len ∧ i = .int .i64 (k : Nat) ∧ M.length = k ∧ ThSt w1 wr v M ∧ ∀ j, j < k → Thrd (l.getD j default) (M.getD j default)) (fun _ i _ => len - (intOf i).toNat)
    case atStart => exact ⟨0, [], Nat.zero_le _, rfl, rfl, ThSt.start _, fun j hj => by omega⟩
    case round =>
      obtain ⟨k, M, hk, rfl, hM, st, hth⟩ := hrel
      have ST := Lib.hid st
      have HTH := Lib.hid hth
      clear st hth
      by_cases hlt : k < len
      · obtain ⟨f, hf⟩ : ∃ f, f = l.getD k default := ⟨_, rfl⟩
        have hkl : k < l.length := by have := HLn.out; omega
        have hsn : Sane f.code := sane_of HV.out (by rw [hf]; exact getD_mem hkl)
        have hfew := hsn.few
        have hpos := hsn.pos
        obtain ⟨b, off, rfl, hb, c0, c1, c2, c3, c4, c5, c6, c7, c8, hcd⟩ := (HA.out.ext (X1.out.trans ST.out.ext)).at_ (k := k) hkl hf
        obtain ⟨nc, hnc⟩ : ∃ nc, nc = f.code.length := ⟨_, rfl⟩
        have HNC := Lib.hid hnc
        have SN := Lib.hid hsn
        have HCD := Lib.hid hcd
        have HF := Lib.hid hf
        rw [← hnc] at c8 hfew hpos
        obtain ⟨bc, oc, hac, hbc, hcells⟩ := hcd (by omega)
        have HNW := Lib.hid (news_code hcells)
        have HAC := Lib.hid hac
        have CC := Lib.hid (And.intro c0 (And.intro c1 (And.intro c2 (And.intro c3 (And.intro c4 (And.intro c5 (And.intro c6 (And.intro c7 c8))))))))
        rw [hac] at c8
        clear hnc hsn hcd hf hcells hac
        have OW : Hid (((wr.alloc (.cells #[.string f.name, .int .i64 f.params, .int .i64 f.places, .int .i64 f.ty.base, .int .i64 f.ty.bits, .string f.ty.name, .bool f.ty.opt, .bool f.ty.err, .slice (some ⟨bc, oc, none⟩) nc f.cap] 50)).alloc (.cells #[] 53)).ownsRow (wr.heap.size + 1) 53 9 (.slice (some ⟨wr.heap.size + 1, 0, none⟩) 0 0) 0 []) := by
          have h9 := Blk.new (wr.alloc (.cells #[.string f.name, .int .i64 f.params, .int .i64 f.places, .int .i64 f.ty.base, .int .i64 f.ty.bits, .string f.ty.name, .bool f.ty.opt, .bool f.ty.err, .slice (some ⟨bc, oc, none⟩) nc f.cap] 50)) 53 #[]
          rw [size_alloc] at h9
          exact ⟨rfl, .inr ⟨wr.heap.size + 1, 0, #[], rfl, Nat.le_refl _, h9, Nat.le_refl _, by unfold maxLen; omega, rfl, rfl⟩⟩
        go_wp2_with (first
          | (at_builtin
             refine wpList_append_own _ rfl _ _ 48 rfl (wr.heap.size + 1) 53 i1 _ 9 80 Tryd.underlying48 JI.out JZ0.out JZ1.out JZ2.out rfl (by decide) _ 0 [] rfl OW.out ⟨bc, oc, none⟩ nc f.cap (cdCells f.code) rfl ?c1 ?c2 ?c3 ?c4 ?c5 ?c6 ?_))
        case c1 => rw [HNC.out]; exact cdCells_len _
        case c2 =>
          intro j u hu
          have h1 := HNW.out j u hu
          rw [Addr.add_lit] at h1 ⊢
          rw [← h1]
          exact ((((Ext.refl wr).alloc _).alloc _).cell (p := ⟨bc, oc + j, none⟩) hbc)
        case c3 => exact one_code _
        case c4 => unfold maxLen; omega
        case c5 => omega
        case c6 => simp
        · intro v' w2 ow2 g2 _
          have h1 := ow2
          try rw [Nat.zero_add, List.nil_append] at h1
          rw [HNC.out] at h1
          obtain ⟨gc, cap2, hv2, hg2, hr2⟩ := own_code h1 (by rw [← HNC.out]; omega)
          rw [← HNC.out] at hv2
          subst hv2
          have HBX : Hid (Blk w2 wr.heap.size 50 #[.string f.name, .int .i64 f.params, .int .i64 f.places, .int .i64 f.ty.base, .int .i64 f.ty.bits, .string f.ty.name, .bool f.ty.opt, .bool f.ty.err, .slice (some ⟨bc, oc, none⟩) nc f.cap]) := ((Blk.new wr _ _).alloc _).grown g2 (fun e => by simp [Value.ownBlock] at e)
          have HX2 : Hid (Ext wr w2) := (((Ext.refl wr).alloc _).alloc _).grown g2 (fun j e => by simp [Value.ownBlock] at e; omega)
          have HR2 := Lib.hid hr2
          have hgc : wr.heap.size < gc := by omega
          have y8 := HBX.out.cell 8
          have f8 := HBX.out.frozen 8
          have zz := HBX.out.lt
          simp only [List.getElem?_toArray, List.getElem?_cons_zero, List.getElem?_cons_succ] at y8
          clear ow2 g2 h1 hr2 hg2 c0 c1 c2 c3 c4 c5 c6 c7 c8
          go_wp2_with fail
          have BX3 : Hid (Blk (w2.setCell ⟨wr.heap.size, 8, none⟩ (.slice (some ⟨gc, 0, none⟩) nc cap2)) wr.heap.size 50 #[.string f.name, .int .i64 f.params, .int .i64 f.places, .int .i64 f.ty.base, .int .i64 f.ty.bits, .string f.ty.name, .bool f.ty.opt, .bool f.ty.err, .slice (some ⟨gc, 0, none⟩) nc cap2]) := HBX.out.set_ 8 _
          have X3 : Hid (Ext wr (w2.setCell ⟨wr.heap.size, 8, none⟩ (.slice (some ⟨gc, 0, none⟩) nc cap2))) := HX2.out.setCell (Nat.le_refl _) _
          have R3 : Hid (CdRow (w2.setCell ⟨wr.heap.size, 8, none⟩ (.slice (some ⟨gc, 0, none⟩) nc cap2)) gc (thrTo f.code 0)) := by rw [thrTo_zero]; exact HR2.out.far (by simp; omega) _
          generalize w2.setCell ⟨wr.heap.size, 8, none⟩ (.slice (some ⟨gc, 0, none⟩) nc cap2) = w3 at BX3 X3 R3 ⊢
          obtain ⟨bf, hbf⟩ : ∃ bf, bf = wr.heap.size := ⟨_, rfl⟩
          rw [← hbf] at BX3 hgc ⊢
          have HBF := Lib.hid hbf
          have hb3 : b < bf := by omega
          clear hbf y8 f8 zz HBX HR2 HX2
          go_loopw [10] (fun i w5 => ∃ p : Nat, p ≤ nc ∧ i = .int .i64 p ∧ Below bf w3 w5 ∧ Blk w5 bf 50 _ ∧ CdRow w5 gc (thrTo f.code p)) (fun i _ => nc - (intOf i).toNat)
          case atStart => exact ⟨0, Nat.zero_le _, rfl, Below.refl _ _, BX3.out, R3.out⟩
          case round =>
            clear R3
            obtain ⟨p, hp, rfl, bl, bx, hr⟩ := hrel
            have BL := Lib.hid bl
            have BX := Lib.hid bx
            have HR := Lib.hid hr
            have X5 := Lib.hid (Ext.mk (X3.out.out.trans (by rw [← HBF.out]; exact BL.out)))
            have e8 := bx.cell 8
            have zb := bx.lt
            simp only [List.getElem?_toArray, List.getElem?_cons_zero, List.getElem?_cons_succ] at e8
            by_cases hlp : p < nc
            · have hpf : p < f.code.length := by have := HNC.out; omega
              have hpf2 : p < (thrTo f.code p).length := by rw [thrTo_len]; exact hpf
              obtain ⟨x, hxx⟩ : ∃ x, x = f.code.getD p default := ⟨_, rfl⟩
              obtain ⟨b5, o5, he5, hb5, d0, d1, d2, d3, d4, d5, d6, d7, d8⟩ := hr.at_.at_ (k := p) hpf2 (x := x) (by rw [thrTo_get _ hpf]; exact hxx)
              cases he5
              simp only [Nat.zero_add] at d0 d1 d2 d3 d4 d5 d6 d7 d8
              obtain ⟨b6, o6, he6, hb6, q0, q1, _⟩ := (HCD.out.ext X5.out).at_ (k := p) hpf hxx
              have HX := Lib.hid hxx
              have HQ1 := Lib.hid q1
              have HE6 := Lib.hid he6
              have hbb : Hid (b6 = bc ∧ o6 = oc) := by have e := HAC.out.symm.trans he6; cases e; exact ⟨rfl, rfl⟩
              have hbw : b < wr.heap.size := by omega
              have f1 := HR.out.frozen (p * 9 + 1)
              have zgc := HR.out.lt
              have hbcw : bc < wr.heap.size := Nat.lt_of_lt_of_le hbc X5.out.size
              have hbg : b ≠ gc := by omega
              have hbcg : bc ≠ gc := by have := HBF.out; omega
              have HW : Hid (∀ w' : World, ZZ wr gc (p * 9 + 1) (.int .i64 (lastS f.code x.a)) w' → (w'.cell? ⟨bf, 8, none⟩ = some (.slice (some ⟨gc, 0, none⟩) nc cap2) ∧ w'.cell? ⟨b, off + k * 9, none⟩ = some (.string f.name) ∧ w'.cell? ⟨b, off + k * 9 + 1, none⟩ = some (.int .i64 f.params) ∧ w'.cell? ⟨b, off + k * 9 + 2, none⟩ = some (.int .i64 f.places) ∧ w'.cell? ⟨b, off + k * 9 + 3, none⟩ = some (.int .i64 f.ty.base) ∧ w'.cell? ⟨b, off + k * 9 + 4, none⟩ = some (.int .i64 f.ty.bits) ∧ w'.cell? ⟨b, off + k * 9 + 5, none⟩ = some (.string f.ty.name) ∧ w'.cell? ⟨b, off + k * 9 + 6, none⟩ = some (.bool f.ty.opt) ∧ w'.cell? ⟨b, off + k * 9 + 7, none⟩ = some (.bool f.ty.err) ∧ w'.cell? ⟨b, off + k * 9 + 8, none⟩ = some (.slice (some ⟨bc, oc, none⟩) nc f.cap) ∧ w'.cell? ⟨bc, oc + p * 9 + 1, none⟩ = some (.int .i64 x.a) ∧ w'.cell? ⟨gc, p * 9 + 1, none⟩ = some (cval w' ⟨gc, p * 9 + 1, none⟩) ∧ w'.frozen? ⟨gc, p * 9 + 1, none⟩ = false ∧ ZZ wr gc (p * 9 + 1) (.int .i64 (lastS f.code x.a)) w')) := fun w' e => by
                obtain ⟨c0, c1, c2, c3, c4, c5, c6, c7, c8⟩ := CC.out
                have y := fun o => (e.far (o := o) hbw hbg).trans (X5.out.cell (p := ⟨b, o, none⟩) hb)
                rw [HAC.out] at c8
                have h6 := hbb.out
                obtain ⟨g1, g2⟩ := e.here d1 f1
                refine ⟨(e.far zb (by omega)).trans e8, (y _).trans c0, (y _).trans c1, (y _).trans c2, (y _).trans c3, (y _).trans c4, (y _).trans c5, (y _).trans c6, (y _).trans c7, (y _).trans c8, ?_, g1, g2, e⟩
                have := (e.far (o := oc + p * 9 + 1) hbcw hbcg)
                rw [this]
                have h7 := HQ1.out
                rwa [h6.1, h6.2] at h7
              have HXM : Hid (x ∈ f.code) := by rw [hxx]; exact getD_mem hpf
              clear bl bx hr hxx d2 d3 d4 d5 d6 d7 d8 q0 q1 he6
              go_wp2_with fail
              case roundEnd =>
                have hld : leadsS x.op = false := by unfold leadsS; simp [*]
                refine ⟨⟨p + 1, by omega, by go_num, BL.out, BX.out, ?_⟩, by simp [intOf]; omega⟩
                rw [thrTo_same _ hpf (by unfold thrX; rw [← HX.out, hld]; rfl)]
                exact HR.out
              all_goals
                have hld : leadsS x.op = true := by unfold leadsS; simp [*]
                have HLD := Lib.hid hld
                clear hld
                obtain ⟨s0, s1, s2, s3, s4, s5, s6, s7, s8, s9, s10, s11, s12, s13⟩ := HW.out wr (ZZ.refl _ _ _ _)
                go_region_held3 (fun w' => w'.cell? ⟨bf, 8, none⟩ = some (.slice (some ⟨gc, 0, none⟩) nc cap2) ∧ w'.cell? ⟨b, off + k * 9, none⟩ = some (.string f.name) ∧ w'.cell? ⟨b, off + k * 9 + 1, none⟩ = some (.int .i64 f.params) ∧ w'.cell? ⟨b, off + k * 9 + 2, none⟩ = some (.int .i64 f.places) ∧ w'.cell? ⟨b, off + k * 9 + 3, none⟩ = some (.int .i64 f.ty.base) ∧ w'.cell? ⟨b, off + k * 9 + 4, none⟩ = some (.int .i64 f.ty.bits) ∧ w'.cell? ⟨b, off + k * 9 + 5, none⟩ = some (.string f.ty.name) ∧ w'.cell? ⟨b, off + k * 9 + 6, none⟩ = some (.bool f.ty.opt) ∧ w'.cell? ⟨b, off + k * 9 + 7, none⟩ = some (.bool f.ty.err) ∧ w'.cell? ⟨b, off + k * 9 + 8, none⟩ = some (.slice (some ⟨bc, oc, none⟩) nc f.cap) ∧ w'.cell? ⟨bc, oc + p * 9 + 1, none⟩ = some (.int .i64 x.a) ∧ w'.cell? ⟨gc, p * 9 + 1, none⟩ = some (cval w' ⟨gc, p * 9 + 1, none⟩) ∧ w'.frozen? ⟨gc, p * 9 + 1, none⟩ = false ∧ ZZ wr gc (p * 9 + 1) (.int .i64 (lastS f.code x.a)) w') ((exact HW.out _ (by first | assumption | exact s13.drew | exact z6.store | exact z6.drew | exact z6.store.drew | exact ZZ.drew (by assumption)))) ((first | (go_at_call 47; refine (rlast_any f.name f.params f.places f.ty (some ⟨bc, oc, none⟩) f.cap f.code x.a _ HNC.out (by rw [← HAC.out]; exact cd_loose HCD.out X5.out (by first | exact s13 | exact s13.drew | assumption) (by rw [HAC.out]; intro b2 o2 e2; cases e2; exact ⟨hbcg, hbc⟩)) SN.out ((SN.out.each x HXM.out).2.2 HLD.out)).mono ?_; rintro r w6 ⟨rfl, x6⟩; have z6 : ZZ wr gc (p * 9 + 1) (.int .i64 (lastS f.code x.a)) w6 := (by first | exact ZZ.ext s13.drew zgc x6 | exact ZZ.ext s13 zgc x6))))
                clear s0 s1 s2 s3 s4 s5 s6 s7 s8 s9 s10 s11 s12
                have Z6 := Lib.hid z6
                clear z6 s13 x6
                go_wp2_with fail
                have z7 := Z6.out.store
                refine ⟨⟨p + 1, by omega, by go_num, z7.below BL.out (Nat.le_of_lt BX3.out.lt) (by omega), (z7.block bf zb (by omega)).trans BX.out, ?_⟩, by simp [intOf]; omega⟩
                have h := HR.out.set_ hpf2 (lastS f.code x.a)
                rw [thrTo_get _ hpf, ← HX.out] at h
                rw [thrTo_next _ hpf, ← HX.out]
                have e : thrX f.code x = { x with a := lastS f.code x.a } := by unfold thrX; rw [if_pos HLD.out]
                rw [e]
                exact h.keep Z6.out.after
            · obtain rfl : p = nc := by omega
              have q0 := bx.cell 0
              have q1 := bx.cell 1
              have q2 := bx.cell 2
              have q3 := bx.cell 3
              have q4 := bx.cell 4
              have q5 := bx.cell 5
              have q6 := bx.cell 6
              have q7 := bx.cell 7
              simp only [List.getElem?_toArray, List.getElem?_cons_zero, List.getElem?_cons_succ] at q0 q1 q2 q3 q4 q5 q6 q7
              have ST5 := Lib.hid ((ST.out.ext' X5.out).ext' ((Ext.refl wr).alloc (.cells #[.string f.name, .int .i64 f.params, .int .i64 f.places, .int .i64 f.ty.base, .int .i64 f.ty.bits, .string f.ty.name, .bool f.ty.opt, .bool f.ty.err, .slice (some ⟨gc, 0, none⟩) p cap2] 50)))
              obtain ⟨fN, hfN⟩ : ∃ fN : Fc, fN = { f with A := some ⟨gc, 0, none⟩, cap := cap2, code := thr f.code } := ⟨_, rfl⟩
              have HN : Hid ((List.range 9).map (fcC fN) = [.string f.name, .int .i64 f.params, .int .i64 f.places, .int .i64 f.ty.base, .int .i64 f.ty.bits, .string f.ty.name, .bool f.ty.opt, .bool f.ty.err, .slice (some ⟨gc, 0, none⟩) p cap2]) := by
                have e : fN.code.length = p := by rw [hfN]; show (thr f.code).length = p; rw [thr_len, HNC.out]
                have e2 : (List.range 9).map (fcC fN) = [.string fN.name, .int .i64 fN.params, .int .i64 fN.places, .int .i64 fN.ty.base, .int .i64 fN.ty.bits, .string fN.ty.name, .bool fN.ty.opt, .bool fN.ty.err, .slice fN.A fN.code.length fN.cap] := rfl
                rw [e2, e, hfN]
                exact Lib.hid rfl
              have HRN : Hid (CdRow (wr.alloc (.cells #[.string f.name, .int .i64 f.params, .int .i64 f.places, .int .i64 f.ty.base, .int .i64 f.ty.bits, .string f.ty.name, .bool f.ty.opt, .bool f.ty.err, .slice (some ⟨gc, 0, none⟩) p cap2] 50)) gc fN.code) := by
                have h := HR.out
                rw [thrTo_all _ (by have := HNC.out; omega)] at h
                rw [hfN]
                exact h.ext ((Ext.refl _).alloc _)
              have HFN := Lib.hid hfN
              have hML : M.length + 1 ≤ 48 := by omega
              clear bl bx hr hfN
              go_wp2_with (first
                | (at_builtin
                   refine wpList_append_own _ rfl _ _ 22 rfl w1.heap.size 50 i0 _ 9 96 Tryd.underlying22 HI.out HZ0.out HZ1.out HZ2.out rfl (by decide) _ _ _ rfl ST5.out.own ⟨wr.heap.size, 0, none⟩ 1 1 [.string f.name, .int .i64 f.params, .int .i64 f.places, .int .i64 f.ty.base, .int .i64 f.ty.bits, .string f.ty.name, .bool f.ty.opt, .bool f.ty.err, .slice (some ⟨gc, 0, none⟩) p cap2] rfl rfl ?c1 ?c2 ?c3 ?c4 ?c5 ?_))
              case c1 =>
                intro j2 u hj2
                rw [Addr.add_lit, Nat.zero_add]
                rw [(Blk.new wr 50 _).cell]
                simpa using hj2
              case c2 => rw [← HN.out]; exact fc_one fN
              case c3 => unfold maxLen; omega
              case c4 => omega
              case c5 => have := ST5.out.ext.size; omega
              intro v' w7 ow7 g7 _
              rw [← HN.out, ← hM] at ow7
              have ST7 := Lib.hid (ST5.out.pushed g7 ow7 (f := fN) (by rw [HFN.out]) HRN.out)
              clear ow7 g7
              go_wp2_with fail
              refine ⟨⟨k + 1, M ++ [fN], by omega, by go_num, by simp [hM], ST7.out, fun j hj => ?_⟩, by simp [intOf]; omega⟩
              rcases Nat.lt_or_ge j k with h | h
              · have h2 := HTH.out j h
                rwa [show (M ++ [fN]).getD j default = M.getD j default by simp only [List.getD]; rw [List.getElem?_append_left (by omega)]]
              · obtain rfl : j = k := by omega
                have e : (M ++ [fN]).getD j default = fN := by simp only [List.getD]; rw [List.getElem?_append_right (by omega), hM, Nat.sub_self]; rfl
                rw [e, ← HF.out, HFN.out]
                exact ⟨rfl, rfl, rfl, rfl, rfl⟩
      · go_wp2_with fail
        obtain ⟨A', cap', hv, hfc⟩ := ST.out.out
        subst hv
        go_ret2
        exact ⟨_, M, A', cap', rfl, rfl, hfc, fun _ => ⟨by rw [hM]; have := HLn.out; omega, fun j hj => HTH.out j (by have := HLn.out; omega)⟩, fun h => absurd rfl h, X1.out.trans ST.out.ext⟩
  · generalize checkE l = ce at *
    obtain ⟨e1, e2, e3⟩ := ce
    simp only [] at h0 HCC ⊢
    have hb : (e3 != 0) = true := by simpa using h0
    obtain ⟨len, hlen⟩ : ∃ len, len = l.length := ⟨_, rfl⟩
    rw [← hlen] at hl HCC ⊢
    clear hlen
    go_enter Tryd.func24, Tryd.ntmps24
    go_wp2_with (first
      | (go_at_call 11; refine (HCC.out).mono ?_; rintro r w1 ⟨rfl, x1⟩))
    go_ret2
    exact ⟨_, [], none, 0, rfl, rfl, ⟨At.nil _ _ _ _, fun f hf => by cases hf⟩, fun h => absurd h h0, fun _ => rfl, by (repeat (first | (with_reducible exact Ext.refl _) | (with_reducible assumption) | (with_reducible refine Ext.alloc ?_ _) | (with_reducible refine Ext.drewN ?_ _) | (with_reducible refine Ext.drew ?_) | (with_reducible refine Ext.setCell ?_ ?_ _; rotate_left; first | assumption | (simp; done) | (simp; omega)) | (with_reducible refine Ext.trans ?_ (by with_reducible assumption))))⟩
end Go.Proofs.YtamgalmlhjbbdaaDoor.c
