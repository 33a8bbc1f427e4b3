/- Contract of the reference's Permute. The table strings.asciiSpace holds what its text lays; lengths are bounded. -/
import Derived.Test.YtknaemlnhediaaaGreatDoorGperm
import Derived.Test.YtknaemlnhediaaaGreatDoorSlotsH
namespace Go.Proofs.YtknaemlnhediaaaGreatDoor.c
open Go.RowKit
set_option linter.unusedVariables false
set_option maxRecDepth 100000
set_option maxHeartbeats 6400000
set_option linter.unusedSimpArgs false
theorem store_mid {w : World} {ops : Array Oper} {rest : List Oper} {o : Oper} {a : Act} {Q : Exit → Act → World → Prop} (hgd : o.guard = none) (ty : TypeId) (x y : Operand) (ho : o.op = .store ty x y) (b off : Nat) (cells : Array Value) (hx : a.eval x = .pointer (some ⟨b, off, none⟩)) (hy : a.eval y = .agg cells)
  (ht : w.there b off cells.size) (hz : (Tryz.prog.info? ty).map (·.size) = some cells.size) (h1 : cells.all (·.oneCell') = true) (h : ∀ w2, w2 = w.setCells b off cells.toList → wpList Tryz.prog ops Q rest (a.put o.dst undef) w2) : wpList Tryz.prog ops Q (o :: rest) a w := by
 refine wpList_plain hgd fun K hK => ?_
 have hr : (execOp a.eval o).run Tryz.prog w = .ok .skip (w.setCells b off cells.toList) := by
  unfold execOp
  simp only [ho, hx, hy, Instr.storeAt, Instr.sureAddr, Sem.run_bind, Sem.run_pure, Result.andThen_ok, run_storeVar_mid w b off ty cells ht hz h1]
 unfold Oper.wp
 rw [hr]
 exact hK _ _ (h _ rfl)
theorem store_slice {w : World} {ops : Array Oper} {rest : List Oper} {o : Oper} {a : Act} {Q : Exit → Act → World → Prop} (hgd : o.guard = none) (x y : Operand) (ho : o.op = .store 57 x y) (g q : Nat) (hx : a.eval x = .pointer (some ⟨g, q, none⟩)) (A : Option Addr) (n c : Nat) (hy : a.eval y = .slice A n c)
  {u : Value} (hc : w.cell? ⟨g, q, none⟩ = some u) (hf : w.frozen? ⟨g, q, none⟩ = false) (h : ∀ w2, w2 = w.setCell ⟨g, q, none⟩ (.slice A n c) → wpList Tryz.prog ops Q rest (a.put o.dst undef) w2) : wpList Tryz.prog ops Q (o :: rest) a w := by
 refine wpList_plain hgd fun K hK => ?_
 have hr : (execOp a.eval o).run Tryz.prog w = .ok .skip (w.setCell ⟨g, q, none⟩ (.slice A n c)) := by
  unfold execOp
  simp only [ho, hx, hy]
  go_simp
 unfold Oper.wp
 rw [hr]
 exact hK _ _ (h _ rfl)
theorem count_take (l : List Int) (z : Int) {q : Nat} (hq : q < l.length) : ((l.take (q + 1)).count z : Int) = ((l.take q).count z : Int) + b01 (l.getD q 0 == z) := by
 rw [List.take_succ_eq_append_getElem hq, List.count_append, List.count_singleton, List.getD, List.getElem?_eq_getElem hq]
 simp only [Option.getD_some]
 unfold b01
 cases h : (l[q] == z)
 ·simp
 ·simp
theorem perm_counts {tq : List Int} {n : Int} (hn : 1 ≤ n) : permB tq n = true ↔ (tq.length : Int) = n ∧ ∀ r : Nat, (r : Int) < n → tq.count (r : Int) = 1 := by
 constructor
 ·intro h
  have h1 := (permB_iff.1 h).1
  exact ⟨h1, fun r hr => (perm_once h).1 r (by omega)⟩
 ·rintro ⟨h1, h2⟩
  exact permB_iff.2 ⟨h1, fun r hr => List.count_pos_iff.1 (by have := h2 r (by omega); omega)⟩
theorem hPermute_any (A : Option Addr) (cap : Nat) (l : List Rf) {len : Nat} (k : Int) (tA : Option Addr) (tcap : Nat) (tq : List Int) {nt : Nat} (w : World) (hlen : len = l.length) (hnt : nt = tq.length) (hA : RfAt w A l) (hT : NumsAt w tA tq) (hl : len ≤ 9223372036854775806) (hnt2 : nt ≤ 1000000000) (hc : len ≤ 48 → countR l ≤ 9223372036854775806) (hin : RgsIn l) :
  Calls Tryz.prog 46 #[.slice A len cap, .int .i64 k, .slice tA nt tcap] w fun e w' => ∃ M A' c', e = .returned (.tuple #[.slice A' M.length c', .int .i64 (permE l k tq)]) ∧ RfAt w' A' M ∧ LikeR M (permR l k tq) ∧ Ext w w' := by
 have HK := Lib.hid (hnumbered_any A cap l k w hlen hA hl hc hin)
 have HA := Lib.hid hA
 have HT := Lib.hid hT
 have HLn := Lib.hid hlen
 have HNT := Lib.hid hnt
 clear hA hc hin hlen hT hnt
 have HRZ : Hid (permE l k tq ≠ 0 → permR l k tq = []) := fun h => by unfold permR; rw [if_neg h]
 have HLZ : Hid (permE l k tq ≠ 0 → ∀ w', RfAt w' none [] ∧ LikeR [] (permR l k tq)) := fun h w' => ⟨⟨At.nil _ _ _ _, fun f hf => by cases hf⟩, by rw [HRZ.out h]; rfl⟩
 by_cases h0 : numE l k = 0
 ·obtain ⟨hv, n, rfl, hn⟩ := numE_ok h0
  obtain ⟨f, hf⟩ : ∃ f, f = l.getD n default := ⟨_, rfl⟩
  have HPE : Hid (permE l n tq = if permB tq f.regs = true then 0 else 1) := by unfold Hid permE; rw [if_neg (by rw [h0]; decide), Int.toNat_natCast, ← hf]
  obtain ⟨h48, _, hgood⟩ := validR_parts hv
  have HGD := Lib.hid hgood
  have GF : Hid (GoodF l f) := by rw [hf]; exact (hgood n hn).1
  obtain ⟨b, off, rfl, hb, c0, c1, c2, c3, c4, c5, c6, c7, c8, hcd⟩ := HA.out.at_ (k := n) hn hf
  have HCD := Lib.hid hcd
  have HN := Lib.hid hn
  have HF := Lib.hid hf
  have k1 : (n : Int) < (len : Int) := by have := HLn.out; omega
  have hl48 : len ≤ 48 := by have := HLn.out; omega
  have hreg := GF.out.reg
  have hfew := GF.out.few
  have hpos := GF.out.pos
  rw [h0] at HK
  clear h0 hv hf hcd hgood hn HRZ h48
  have HZ : Hid ((Tryz.prog.info? 67).map (·.size) = some 11) := by unfold Hid; kernel_rfl
  have HZF : Hid ((Tryz.prog.info? 59).map (·.size) = some 9) := by unfold Hid; kernel_rfl
  obtain ⟨i1, hj, hj0, hj1, hj2⟩ := info_parts info_reg
  have HJ := Lib.hid hj; have HJ0 := Lib.hid hj0; have HJ1 := Lib.hid hj1; have HJ2 := Lib.hid hj2
  obtain ⟨i0, hi0, hz0, hz1, hz2⟩ := info_parts info_rfn
  have HI := Lib.hid hi0; have HZ0 := Lib.hid hz0; have HZ1 := Lib.hid hz1; have HZ2 := Lib.hid hz2
  clear hi0 hz0 hz1 hz2 hj hj0 hj1 hj2
  have HBC : Hid (∀ w', Ext w w' → b < w'.heap.size ∧ w'.cell? ⟨b, off + n * 9, none⟩ = some (.string f.name) ∧ w'.cell? ⟨b, off + n * 9 + 1, none⟩ = some (.int .i64 f.params) ∧ w'.cell? ⟨b, off + n * 9 + 2, none⟩ = some (.int .i64 f.regs) ∧ w'.cell? ⟨b, off + n * 9 + 3, none⟩ = some (.int .i64 f.ty.base) ∧ w'.cell? ⟨b, off + n * 9 + 4, none⟩ = some (.int .i64 f.ty.bits) ∧ w'.cell? ⟨b, off + n * 9 + 5, none⟩ = some (.string f.ty.name) ∧ w'.cell? ⟨b, off + n * 9 + 6, none⟩ = some (.bool f.ty.opt) ∧ w'.cell? ⟨b, off + n * 9 + 7, none⟩ = some (.bool f.ty.err) ∧ w'.cell? ⟨b, off + n * 9 + 8, none⟩ = some (.slice f.A f.code.length f.cap)) := fun w' xx =>
   ⟨Nat.lt_of_lt_of_le hb xx.size, (xx.cell (p := ⟨b, off + n * 9, none⟩) hb).trans c0, (xx.cell (p := ⟨b, off + n * 9 + 1, none⟩) hb).trans c1, (xx.cell (p := ⟨b, off + n * 9 + 2, none⟩) hb).trans c2, (xx.cell (p := ⟨b, off + n * 9 + 3, none⟩) hb).trans c3, (xx.cell (p := ⟨b, off + n * 9 + 4, none⟩) hb).trans c4, (xx.cell (p := ⟨b, off + n * 9 + 5, none⟩) hb).trans c5, (xx.cell (p := ⟨b, off + n * 9 + 6, none⟩) hb).trans c6, (xx.cell (p := ⟨b, off + n * 9 + 7, none⟩) hb).trans c7, (xx.cell (p := ⟨b, off + n * 9 + 8, none⟩) hb).trans c8⟩
  clear c0 c1 c2 c3 c4 c5 c6 c7 c8
  have HPC : Hid (permB tq f.regs = true ↔ (nt : Int) = f.regs ∧ ∀ r : Nat, (r : Int) < f.regs → tq.count (r : Int) = 1) := by rw [HNT.out]; exact perm_counts hreg.1
  go_enter Tryz.func46, Tryz.ntmps46
  go_wp2_with (first
   | (go_at_call 107
      refine (HK.out).mono ?_
      rintro r w1 ⟨rfl, x1⟩
      have X1 := Lib.hid x1
      obtain ⟨zb1, c0, c1, c2, c3, c4, c5, c6, c7, c8⟩ := HBC.out _ x1
      clear x1)
   | ((with_reducible show wpList _ _ _ (Oper.mk none (.store 59 (.tmp 9) (.tmp 29)) _ _ _ _ :: _) _ _)
      refine store_new 59 _ _ rfl _ _ rfl rfl rfl rfl HZF.out (rf_one f) ?_
      intro w2 x2 B2
      have X2 : Hid (Ext w w2) := X1.out.trans x2
      have X12 : Hid (Ext w1 w2) := x2
      have BF := Lib.hid B2
      obtain ⟨e0, e1, e2, e3, e4, e5, e6, e7, e8⟩ := rf_cells f B2
      have z2 := B2.lt
      clear B2 x2 c0 c1 c2 c3 c4 c5 c6 c7 c8 zb1))
  have HZB : Hid (w1.heap.size < w2.heap.size) := z2
  have HZW : Hid (w.heap.size ≤ w1.heap.size) := X1.out.size
  clear e0 e1 e3 e4 e5 e6 e7
  go_loopw [10] (fun i wr => ∃ j : Nat, (j : Int) ≤ f.regs ∧ i = .int .i64 j ∧ (∀ r : Nat, r < j → tq.count (r : Int) = 1) ∧ (0 < j → (nt : Int) = f.regs) ∧ w2 = wr) (fun i _ => f.regs.toNat - (intOf i).toNat)
  case atStart => exact ⟨0, by omega, rfl, fun r hr => by omega, fun h => by omega, rfl⟩
  case round =>
   obtain ⟨j, hj, rfl, hall, hlen2, rfl⟩ := hrel
   have HAL := Lib.hid hall
   have HL2 := Lib.hid hlen2
   clear hall hlen2
   by_cases hlt : (j : Int) < f.regs
   ·go_wp2_with fail
    go_loopw [11, 12] (fun v i wr => ∃ q : Nat, q ≤ nt ∧ i = .int .i64 q ∧ v = .int .i64 ((tq.take q).count (j : Int) : Nat) ∧ w2 = wr) (fun _ i _ => nt - (intOf i).toNat)
    case atStart => exact ⟨0, Nat.zero_le _, rfl, rfl, rfl⟩
    case round =>
     obtain ⟨q, hq, rfl, rfl, rfl⟩ := hrel
     have hcl : (tq.take q).count (j : Int) ≤ q := Nat.le_trans List.count_le_length (List.length_take_le _ _)
     by_cases hqt : q < nt
     ·obtain ⟨tb, tf, hte, htb, d0⟩ := (HT.out.ext X2.out).one (k := q) (by have := HNT.out; omega)
      subst hte
      have HCT := Lib.hid (count_take tq (j : Int) (q := q) (by have := HNT.out; omega))
      obtain ⟨y, hy⟩ : ∃ y, y = tq.getD q 0 := ⟨_, rfl⟩
      rw [← hy] at d0 HCT
      obtain ⟨cq, hcq⟩ : ∃ cq, cq = (tq.take q).count (j : Int) := ⟨_, rfl⟩
      rw [← hcq] at HCT hcl ⊢
      clear hy hcq
      obtain ⟨eb, heb⟩ : ∃ eb, (y == (j : Int)) = eb := ⟨_, rfl⟩
      rw [heb] at HCT
      have hbb : 0 ≤ b01 eb ∧ b01 eb ≤ 1 := by unfold b01; split <;> omega
      go_wp2_with (first
       | (go_at_call 114; refine (hone_any _ _).mono ?_; rintro r w' ⟨rfl, rfl⟩))
      case roundEnd => exact ⟨⟨q + 1, by omega, by go_num, (by rw [HCT.out]), by first | rfl | trivial⟩, by simp [intOf]; omega⟩
     ·obtain rfl : q = nt := by omega
      have htk : tq.take q = tq := List.take_of_length_le (by have := HNT.out; omega)
      rw [htk]
      rw [htk] at hcl
      obtain ⟨cq, hcq⟩ : ∃ cq, cq = tq.count (j : Int) := ⟨_, rfl⟩
      rw [← hcq]
      rw [← hcq] at hcl
      have HCQ := Lib.hid hcq
      clear hcq htk
      by_cases hc1 : cq = 1
      ·subst hc1
       by_cases hr2 : (q : Int) = f.regs
       ·go_wp2_with fail
        go_roundw
        case rel => exact ⟨j + 1, by omega, by go_num, (fun r hr => by
         rcases Nat.lt_or_ge r j with h | h
         ·exact HAL.out r h
         ·obtain rfl : r = j := by omega
          exact HCQ.out.symm), fun _ => hr2, by first | rfl | trivial⟩
        case measure => simp [intOf]; omega
       ·have hq2 : ((q : Int) == f.regs) = false := by simpa using hr2
        have hq3 : ((q : Int) != f.regs) = true := by simpa using hr2
        have HP1 : Hid (permE l n tq = 1) := by unfold Hid; rw [HPE.out, if_neg]; intro h; exact hr2 (HPC.out.1 h).1
        have HZZ := Lib.hid (HLZ.out (by rw [HP1.out]; decide))
        clear hr2
        go_wp2_with fail
        go_ret2
        exact ⟨[], none, 0, by rw [HP1.out]; rfl, (HZZ.out _).1, (HZZ.out w2).2, X2.out⟩
      ·have hq2 : ((cq : Int) == 1) = false := by simp; omega
       have hq3 : ((cq : Int) != 1) = true := by simp; omega
       have HP1 : Hid (permE l n tq = 1) := by unfold Hid; rw [HPE.out, if_neg]; intro h; exact hc1 (by rw [HCQ.out]; exact (HPC.out.1 h).2 j hlt)
       have HZZ := Lib.hid (HLZ.out (by rw [HP1.out]; decide))
       clear hc1
       go_wp2_with fail
       go_ret2
       exact ⟨[], none, 0, by rw [HP1.out]; rfl, (HZZ.out _).1, (HZZ.out w2).2, X2.out⟩
   ·have HPB : Hid (permB tq f.regs = true) := HPC.out.2 ⟨HL2.out (by omega), fun r hr => HAL.out r (by omega)⟩
    have hrg : (nt : Int) = f.regs := HL2.out (by omega)
    have HP0 : Hid (permE l n tq = 0) := by unfold Hid; rw [HPE.out, if_pos HPB.out]
    have HRR : Hid (permR l n tq = permL l n tq) := by unfold Hid permR; rw [if_pos HP0.out, Int.toNat_natCast]
    clear HLZ HAL HL2 HPC
    go_wp2_with fail
    go_loopw [13, 14] (fun v i wr => ∃ j : Nat, j ≤ f.code.length ∧ i = .int .i64 j ∧ Ext w2 wr ∧ wr.ownsRow w2.heap.size 67 11 v ((f.code.take j).map (permX tq)).length (recCells 11 rgC ((f.code.take j).map (permX tq)))) (fun _ i _ => f.code.length - (intOf i).toNat)
    case atStart => exact ⟨0, Nat.zero_le _, rfl, Ext.refl _, World.ownsRow_nil _ _ _ _⟩
    case round =>
     obtain ⟨j, hj, rfl, hx, ho⟩ := hrel
     have HX := Lib.hid hx
     have HO := Lib.hid ho
     clear hx ho e2 e8
     have e8 := (BF.out.ext HX.out).cell 8
     have z2 := (BF.out.ext HX.out).lt
     simp only [List.getElem?_toArray, List.getElem?_cons_zero, List.getElem?_cons_succ] at e8
     by_cases hlt : j < f.code.length
     ·obtain ⟨x, hxx⟩ : ∃ x, x = f.code.getD j default := ⟨_, rfl⟩
      have gx : GoodX l f x := by rw [hxx]; exact GF.out.at_ (getD_mem hlt)
      have hlen3 : ((f.code.take j).map (permX tq)).length = j := by rw [List.length_map, List.length_take]; omega
      have HSN : Hid ((f.code.take (j + 1)).map (permX tq) = (f.code.take j).map (permX tq) ++ [permX tq x]) := by
       unfold Hid
       rw [List.take_succ_eq_append_getElem hlt, List.map_append, hxx, List.getD, List.getElem?_eq_getElem hlt]
       rfl
      obtain ⟨b2, o2, hfa, hb2, d0, d1, d2, d3, d4, d5, d6, d7, d8, d9, d10, _⟩ := (HCD.out.ext (X2.out.trans HX.out)).at_ (k := j) hlt hxx
      rw [hfa] at e8
      have HREG : Hid ((nt : Int) = f.regs) := hrg
      have HTC : Hid (∀ (w' : World) (r : Int), Ext w w' → 0 ≤ r ∧ r < f.regs → ∃ b o, tA = some ⟨b, o, none⟩ ∧ b < w'.heap.size ∧ w'.cell? ⟨b, o + r.toNat, none⟩ = some (.int .i64 (mv tq r))) := fun w' r xx hr => by
       obtain ⟨b, o, h1, h2, h3⟩ := (HT.out.ext xx).one (k := r.toNat) (by have := HNT.out; have := HREG.out; omega)
       exact ⟨b, o, h1, h2, h3⟩
      obtain ⟨tb, tf, hte, htb, _⟩ := HTC.out w 0 (Ext.refl _) (by omega)
      subst hte
      have HTC : Hid (∀ (w' : World) (r : Int), Ext w w' → 0 ≤ r ∧ r < f.regs → w'.cell? ⟨tb, tf + r.toNat, none⟩ = some (.int .i64 (mv tq r))) := fun w' r xx hr => by
       obtain ⟨b, o, h1, h2, h3⟩ := HTC.out w' r xx hr
       cases h1
       exact h3
      have HTZ : Hid (∀ w', Ext w w' → tb < w'.heap.size) := fun w' xx => Nat.lt_of_lt_of_le htb xx.size
      have hcls := perm_class gx.op
      clear htb hxx hfa
      rw [hlen3] at HO
      have HL3 := Lib.hid hlen3
      clear hlen3
      go_wp2_with (first
       | ((with_reducible show wpList _ _ _ (Oper.mk none (.store 67 (.tmp 15) (.tmp 71)) _ _ _ _ :: _) _ _)
          refine store_new 67 _ _ rfl _ _ rfl rfl rfl rfl HZ.out (rg_one x) ?_
          intro w3 x3 B3
          have P3 : Hid (Ext wr w3 ∧ Blk w3 wr.heap.size 67 #[.int .i64 x.op, .int .i64 x.d, .int .i64 x.a, .int .i64 x.b, .int .i64 x.ty.base, .int .i64 x.ty.bits, .string x.ty.name, .bool x.ty.opt, .bool x.ty.err, .string x.name, .slice x.A x.args.length x.cap]) := ⟨x3, B3⟩
          obtain ⟨q0, q1, q2, q3, q4, q5, q6, q7, q8, q9, q10⟩ := rg_cells x B3
          have zx3 := B3.lt
          clear B3 x3 d0 d1 d2 d3 d4 d5 d6 d7 d8 d9 d10)
       | (go_at_call 103; fail))
      rcases hcls with ⟨p1, p2, p3, p4, p5⟩ | ⟨p1, p2, p3, p4, p5⟩ | ⟨p1, p2, p3, p4, p5⟩ | ⟨p1, p2, p3, p4, p5⟩ | ⟨p1, p2, p3, p4, p5⟩ | ⟨p1, p2, p3, p4, p5⟩
      ·have HTD : Hid (∀ w', Ext w w' → w'.cell? ⟨tb, tf + x.d.toNat, none⟩ = some (.int .i64 (mv tq x.d)) ∧ w'.cell? ⟨tb, tf + x.a.toNat, none⟩ = some (.int .i64 (mv tq x.a)) ∧ True) := fun w' xx => ⟨HTC.out w' x.d xx (gx.dreg p1), HTC.out w' x.a xx (by have h9 := gx.a; rw [p2] at h9; exact isPartB_reg h9), trivial⟩
       have vd := gx.dreg p1
       have va : 0 ≤ x.a ∧ x.a < f.regs := by have h9 := gx.a; rw [p2] at h9; exact isPartB_reg h9
       have g1 : ((partsR x.op).1 == 1) = true := by simpa using p1
       have g2 : ((partsR x.op).2.1 == 1) = true := by simpa using p2
       have g3 : ((partsR x.op).2.2 == 1) = false := by simpa using p3
       have HXF : Hid (permX tq x = { x with d := mv tq x.d, a := mv tq x.a, b := x.b }) := by unfold Hid permX; rw [if_pos p1, if_pos p2, if_neg p3]
       have HXC : Hid ((List.range 11).map (rgC (permX tq x)) = [.int .i64 x.op, .int .i64 (mv tq x.d), .int .i64 (mv tq x.a), .int .i64 x.b, .int .i64 x.ty.base, .int .i64 x.ty.bits, .string x.ty.name, .bool x.ty.opt, .bool x.ty.err, .string x.name, .slice x.A x.args.length x.cap]) := by rw [HXF.out]; exact Lib.hid rfl
       clear p1 p2 p3 p4 p5
       have tt3 := HTD.out _ (X2.out.trans (HX.out.trans P3.out.1))
       have zt3 := HTZ.out _ (X2.out.trans (HX.out.trans P3.out.1))
       go_wp2_with (first
       | (go_at_call 103; refine (parts_any x.op _).mono ?_; rintro r w' ⟨rfl, rfl⟩)
       | ((with_reducible show wpList _ _ _ (Oper.mk none (.store 3 (.tmp 86) (.tmp 85)) _ _ _ _ :: _) _ _)
          refine store_cell rfl _ _ rfl wr.heap.size 1 rfl (mv tq x.d) rfl (P3.out.2.cell 1) (P3.out.2.frozen 1) ?_
          intro w4 ew
          have P4 : Hid (Ext wr w4 ∧ Blk w4 wr.heap.size 67 #[.int .i64 x.op, .int .i64 (mv tq x.d), .int .i64 x.a, .int .i64 x.b, .int .i64 x.ty.base, .int .i64 x.ty.bits, .string x.ty.name, .bool x.ty.opt, .bool x.ty.err, .string x.name, .slice x.A x.args.length x.cap]) := by
           rw [ew]
           exact ⟨P3.out.1.setCell (Nat.le_refl _) _, P3.out.2.set_ 1 _⟩
          clear ew
          have xb4 := P4.out.2
          obtain ⟨q0, q1, q2, q3⟩ : w4.cell? ⟨wr.heap.size, 0, none⟩ = some (.int .i64 x.op) ∧ w4.cell? ⟨wr.heap.size, 1, none⟩ = some (.int .i64 (mv tq x.d)) ∧ w4.cell? ⟨wr.heap.size, 2, none⟩ = some (.int .i64 (x.a)) ∧ w4.cell? ⟨wr.heap.size, 3, none⟩ = some (.int .i64 (x.b)) := ⟨xb4.cell 0, xb4.cell 1, xb4.cell 2, xb4.cell 3⟩
          obtain ⟨q4, q5, q6, q7, q8, q9, q10⟩ : w4.cell? ⟨wr.heap.size, 4, none⟩ = some (.int .i64 x.ty.base) ∧ w4.cell? ⟨wr.heap.size, 5, none⟩ = some (.int .i64 x.ty.bits) ∧ w4.cell? ⟨wr.heap.size, 6, none⟩ = some (.string x.ty.name) ∧ w4.cell? ⟨wr.heap.size, 7, none⟩ = some (.bool x.ty.opt) ∧ w4.cell? ⟨wr.heap.size, 8, none⟩ = some (.bool x.ty.err) ∧ w4.cell? ⟨wr.heap.size, 9, none⟩ = some (.string x.name) ∧ w4.cell? ⟨wr.heap.size, 10, none⟩ = some (.slice x.A x.args.length x.cap) := ⟨xb4.cell 4, xb4.cell 5, xb4.cell 6, xb4.cell 7, xb4.cell 8, xb4.cell 9, xb4.cell 10⟩
          have zx4 := xb4.lt
          have zt4 := HTZ.out _ (X2.out.trans (HX.out.trans P4.out.1))
          have tt4 := HTD.out _ (X2.out.trans (HX.out.trans P4.out.1))
          clear xb4)
       | ((with_reducible show wpList _ _ _ (Oper.mk none (.store 3 (.tmp 94) (.tmp 93)) _ _ _ _ :: _) _ _)
          refine store_cell rfl _ _ rfl wr.heap.size 2 rfl (mv tq x.a) rfl (P4.out.2.cell 2) (P4.out.2.frozen 2) ?_
          intro w5 ew
          have P5 : Hid (Ext wr w5 ∧ Blk w5 wr.heap.size 67 #[.int .i64 x.op, .int .i64 (mv tq x.d), .int .i64 (mv tq x.a), .int .i64 x.b, .int .i64 x.ty.base, .int .i64 x.ty.bits, .string x.ty.name, .bool x.ty.opt, .bool x.ty.err, .string x.name, .slice x.A x.args.length x.cap]) := by
           rw [ew]
           exact ⟨P4.out.1.setCell (Nat.le_refl _) _, P4.out.2.set_ 2 _⟩
          clear ew
          have xb5 := P5.out.2
          obtain ⟨q0, q1, q2, q3⟩ : w5.cell? ⟨wr.heap.size, 0, none⟩ = some (.int .i64 x.op) ∧ w5.cell? ⟨wr.heap.size, 1, none⟩ = some (.int .i64 (mv tq x.d)) ∧ w5.cell? ⟨wr.heap.size, 2, none⟩ = some (.int .i64 (mv tq x.a)) ∧ w5.cell? ⟨wr.heap.size, 3, none⟩ = some (.int .i64 (x.b)) := ⟨xb5.cell 0, xb5.cell 1, xb5.cell 2, xb5.cell 3⟩
          obtain ⟨q4, q5, q6, q7, q8, q9, q10⟩ : w5.cell? ⟨wr.heap.size, 4, none⟩ = some (.int .i64 x.ty.base) ∧ w5.cell? ⟨wr.heap.size, 5, none⟩ = some (.int .i64 x.ty.bits) ∧ w5.cell? ⟨wr.heap.size, 6, none⟩ = some (.string x.ty.name) ∧ w5.cell? ⟨wr.heap.size, 7, none⟩ = some (.bool x.ty.opt) ∧ w5.cell? ⟨wr.heap.size, 8, none⟩ = some (.bool x.ty.err) ∧ w5.cell? ⟨wr.heap.size, 9, none⟩ = some (.string x.name) ∧ w5.cell? ⟨wr.heap.size, 10, none⟩ = some (.slice x.A x.args.length x.cap) := ⟨xb5.cell 4, xb5.cell 5, xb5.cell 6, xb5.cell 7, xb5.cell 8, xb5.cell 9, xb5.cell 10⟩
          have zx5 := xb5.lt
          have zt5 := HTZ.out _ (X2.out.trans (HX.out.trans P5.out.1))
          have tt5 := HTD.out _ (X2.out.trans (HX.out.trans P5.out.1))
          clear xb5)
       | (at_builtin
          refine wpList_append_own _ rfl _ _ 57 rfl w2.heap.size 67 i1 _ 11 112 Tryz.underlying57 HJ.out HJ0.out HJ1.out HJ2.out rfl (by decide) _ _ _ rfl (own_ext HO.out (P5.out.1.alloc (.cells #[.int .i64 x.op, .int .i64 (mv tq x.d), .int .i64 (mv tq x.a), .int .i64 x.b, .int .i64 x.ty.base, .int .i64 x.ty.bits, .string x.ty.name, .bool x.ty.opt, .bool x.ty.err, .string x.name, .slice x.A x.args.length x.cap] 67))) ⟨w5.heap.size, 0, none⟩ 1 1 [.int .i64 x.op, .int .i64 (mv tq x.d), .int .i64 (mv tq x.a), .int .i64 x.b, .int .i64 x.ty.base, .int .i64 x.ty.bits, .string x.ty.name, .bool x.ty.opt, .bool x.ty.err, .string x.name, .slice x.A x.args.length x.cap] rfl rfl ?c1 ?c2 ?c3 ?c4 ?c5 ?_))
       case c1 =>
        intro j2 u hj2
        rw [Addr.add_lit, Nat.zero_add]
        rw [(Blk.new w5 67 _).cell]
        simpa using hj2
       case c2 => intro v hv; simp at hv; rcases hv with rfl | rfl | rfl | rfl | rfl | rfl | rfl | rfl | rfl | rfl | rfl <;> rfl
       case c3 => unfold maxLen; omega
       case c4 => omega
       case c5 => have := HX.out.size; have := P5.out.1.size; simp; omega
       intro v' w7 ow7 g7 _
       have X7 : Hid (Ext w2 w7) := ((HX.out.trans P5.out.1).alloc _).grown g7 (own_row HO.out)
       have O7 : Hid (w7.ownsRow w2.heap.size 67 11 v' ((f.code.take (j + 1)).map (permX tq)).length (recCells 11 rgC ((f.code.take (j + 1)).map (permX tq)))) := by
        rw [HSN.out, recCells_append, recCells_one, HXC.out, List.length_append, HL3.out, List.map_take]
        exact ow7
       clear ow7 g7
       go_wp2_with fail
       case roundEnd => exact ⟨⟨j + 1, by omega, by go_num, X7.out, O7.out⟩, by simp [intOf]; omega⟩
      ·have HTD : Hid (∀ w', Ext w w' → w'.cell? ⟨tb, tf + x.d.toNat, none⟩ = some (.int .i64 (mv tq x.d)) ∧ True) := fun w' xx => ⟨HTC.out w' x.d xx (gx.dreg p1), trivial⟩
       have vd := gx.dreg p1
       have g1 : ((partsR x.op).1 == 1) = true := by simpa using p1
       have g2 : ((partsR x.op).2.1 == 1) = false := by simpa using p2
       have g3 : ((partsR x.op).2.2 == 1) = false := by simpa using p3
       have HXF : Hid (permX tq x = { x with d := mv tq x.d, a := x.a, b := x.b }) := by unfold Hid permX; rw [if_pos p1, if_neg p2, if_neg p3]
       have HXC : Hid ((List.range 11).map (rgC (permX tq x)) = [.int .i64 x.op, .int .i64 (mv tq x.d), .int .i64 x.a, .int .i64 x.b, .int .i64 x.ty.base, .int .i64 x.ty.bits, .string x.ty.name, .bool x.ty.opt, .bool x.ty.err, .string x.name, .slice x.A x.args.length x.cap]) := by rw [HXF.out]; exact Lib.hid rfl
       clear p1 p2 p3 p4 p5
       have tt3 := HTD.out _ (X2.out.trans (HX.out.trans P3.out.1))
       have zt3 := HTZ.out _ (X2.out.trans (HX.out.trans P3.out.1))
       go_wp2_with (first
       | (go_at_call 103; refine (parts_any x.op _).mono ?_; rintro r w' ⟨rfl, rfl⟩)
       | ((with_reducible show wpList _ _ _ (Oper.mk none (.store 3 (.tmp 86) (.tmp 85)) _ _ _ _ :: _) _ _)
          refine store_cell rfl _ _ rfl wr.heap.size 1 rfl (mv tq x.d) rfl (P3.out.2.cell 1) (P3.out.2.frozen 1) ?_
          intro w4 ew
          have P4 : Hid (Ext wr w4 ∧ Blk w4 wr.heap.size 67 #[.int .i64 x.op, .int .i64 (mv tq x.d), .int .i64 x.a, .int .i64 x.b, .int .i64 x.ty.base, .int .i64 x.ty.bits, .string x.ty.name, .bool x.ty.opt, .bool x.ty.err, .string x.name, .slice x.A x.args.length x.cap]) := by
           rw [ew]
           exact ⟨P3.out.1.setCell (Nat.le_refl _) _, P3.out.2.set_ 1 _⟩
          clear ew
          have xb4 := P4.out.2
          obtain ⟨q0, q1, q2, q3⟩ : w4.cell? ⟨wr.heap.size, 0, none⟩ = some (.int .i64 x.op) ∧ w4.cell? ⟨wr.heap.size, 1, none⟩ = some (.int .i64 (mv tq x.d)) ∧ w4.cell? ⟨wr.heap.size, 2, none⟩ = some (.int .i64 (x.a)) ∧ w4.cell? ⟨wr.heap.size, 3, none⟩ = some (.int .i64 (x.b)) := ⟨xb4.cell 0, xb4.cell 1, xb4.cell 2, xb4.cell 3⟩
          obtain ⟨q4, q5, q6, q7, q8, q9, q10⟩ : w4.cell? ⟨wr.heap.size, 4, none⟩ = some (.int .i64 x.ty.base) ∧ w4.cell? ⟨wr.heap.size, 5, none⟩ = some (.int .i64 x.ty.bits) ∧ w4.cell? ⟨wr.heap.size, 6, none⟩ = some (.string x.ty.name) ∧ w4.cell? ⟨wr.heap.size, 7, none⟩ = some (.bool x.ty.opt) ∧ w4.cell? ⟨wr.heap.size, 8, none⟩ = some (.bool x.ty.err) ∧ w4.cell? ⟨wr.heap.size, 9, none⟩ = some (.string x.name) ∧ w4.cell? ⟨wr.heap.size, 10, none⟩ = some (.slice x.A x.args.length x.cap) := ⟨xb4.cell 4, xb4.cell 5, xb4.cell 6, xb4.cell 7, xb4.cell 8, xb4.cell 9, xb4.cell 10⟩
          have zx4 := xb4.lt
          have zt4 := HTZ.out _ (X2.out.trans (HX.out.trans P4.out.1))
          have tt4 := HTD.out _ (X2.out.trans (HX.out.trans P4.out.1))
          clear xb4)
       | (at_builtin
          refine wpList_append_own _ rfl _ _ 57 rfl w2.heap.size 67 i1 _ 11 112 Tryz.underlying57 HJ.out HJ0.out HJ1.out HJ2.out rfl (by decide) _ _ _ rfl (own_ext HO.out (P4.out.1.alloc (.cells #[.int .i64 x.op, .int .i64 (mv tq x.d), .int .i64 x.a, .int .i64 x.b, .int .i64 x.ty.base, .int .i64 x.ty.bits, .string x.ty.name, .bool x.ty.opt, .bool x.ty.err, .string x.name, .slice x.A x.args.length x.cap] 67))) ⟨w4.heap.size, 0, none⟩ 1 1 [.int .i64 x.op, .int .i64 (mv tq x.d), .int .i64 x.a, .int .i64 x.b, .int .i64 x.ty.base, .int .i64 x.ty.bits, .string x.ty.name, .bool x.ty.opt, .bool x.ty.err, .string x.name, .slice x.A x.args.length x.cap] rfl rfl ?c1 ?c2 ?c3 ?c4 ?c5 ?_))
       case c1 =>
        intro j2 u hj2
        rw [Addr.add_lit, Nat.zero_add]
        rw [(Blk.new w4 67 _).cell]
        simpa using hj2
       case c2 => intro v hv; simp at hv; rcases hv with rfl | rfl | rfl | rfl | rfl | rfl | rfl | rfl | rfl | rfl | rfl <;> rfl
       case c3 => unfold maxLen; omega
       case c4 => omega
       case c5 => have := HX.out.size; have := P4.out.1.size; simp; omega
       intro v' w7 ow7 g7 _
       have X7 : Hid (Ext w2 w7) := ((HX.out.trans P4.out.1).alloc _).grown g7 (own_row HO.out)
       have O7 : Hid (w7.ownsRow w2.heap.size 67 11 v' ((f.code.take (j + 1)).map (permX tq)).length (recCells 11 rgC ((f.code.take (j + 1)).map (permX tq)))) := by
        rw [HSN.out, recCells_append, recCells_one, HXC.out, List.length_append, HL3.out, List.map_take]
        exact ow7
       clear ow7 g7
       go_wp2_with fail
       case roundEnd => exact ⟨⟨j + 1, by omega, by go_num, X7.out, O7.out⟩, by simp [intOf]; omega⟩
      ·have HTD : Hid (∀ w', Ext w w' → w'.cell? ⟨tb, tf + x.a.toNat, none⟩ = some (.int .i64 (mv tq x.a)) ∧ True) := fun w' xx => ⟨HTC.out w' x.a xx (by have h9 := gx.a; rw [p2] at h9; exact isPartB_reg h9), trivial⟩
       have va : 0 ≤ x.a ∧ x.a < f.regs := by have h9 := gx.a; rw [p2] at h9; exact isPartB_reg h9
       have g1 : ((partsR x.op).1 == 1) = false := by simpa using p1
       have g2 : ((partsR x.op).2.1 == 1) = true := by simpa using p2
       have g3 : ((partsR x.op).2.2 == 1) = false := by simpa using p3
       have HXF : Hid (permX tq x = { x with d := x.d, a := mv tq x.a, b := x.b }) := by unfold Hid permX; rw [if_neg p1, if_pos p2, if_neg p3]
       have HXC : Hid ((List.range 11).map (rgC (permX tq x)) = [.int .i64 x.op, .int .i64 x.d, .int .i64 (mv tq x.a), .int .i64 x.b, .int .i64 x.ty.base, .int .i64 x.ty.bits, .string x.ty.name, .bool x.ty.opt, .bool x.ty.err, .string x.name, .slice x.A x.args.length x.cap]) := by rw [HXF.out]; exact Lib.hid rfl
       clear p1 p2 p3 p4 p5
       have tt3 := HTD.out _ (X2.out.trans (HX.out.trans P3.out.1))
       have zt3 := HTZ.out _ (X2.out.trans (HX.out.trans P3.out.1))
       go_wp2_with (first
       | (go_at_call 103; refine (parts_any x.op _).mono ?_; rintro r w' ⟨rfl, rfl⟩)
       | ((with_reducible show wpList _ _ _ (Oper.mk none (.store 3 (.tmp 94) (.tmp 93)) _ _ _ _ :: _) _ _)
          refine store_cell rfl _ _ rfl wr.heap.size 2 rfl (mv tq x.a) rfl (P3.out.2.cell 2) (P3.out.2.frozen 2) ?_
          intro w4 ew
          have P4 : Hid (Ext wr w4 ∧ Blk w4 wr.heap.size 67 #[.int .i64 x.op, .int .i64 x.d, .int .i64 (mv tq x.a), .int .i64 x.b, .int .i64 x.ty.base, .int .i64 x.ty.bits, .string x.ty.name, .bool x.ty.opt, .bool x.ty.err, .string x.name, .slice x.A x.args.length x.cap]) := by
           rw [ew]
           exact ⟨P3.out.1.setCell (Nat.le_refl _) _, P3.out.2.set_ 2 _⟩
          clear ew
          have xb4 := P4.out.2
          obtain ⟨q0, q1, q2, q3⟩ : w4.cell? ⟨wr.heap.size, 0, none⟩ = some (.int .i64 x.op) ∧ w4.cell? ⟨wr.heap.size, 1, none⟩ = some (.int .i64 (x.d)) ∧ w4.cell? ⟨wr.heap.size, 2, none⟩ = some (.int .i64 (mv tq x.a)) ∧ w4.cell? ⟨wr.heap.size, 3, none⟩ = some (.int .i64 (x.b)) := ⟨xb4.cell 0, xb4.cell 1, xb4.cell 2, xb4.cell 3⟩
          obtain ⟨q4, q5, q6, q7, q8, q9, q10⟩ : w4.cell? ⟨wr.heap.size, 4, none⟩ = some (.int .i64 x.ty.base) ∧ w4.cell? ⟨wr.heap.size, 5, none⟩ = some (.int .i64 x.ty.bits) ∧ w4.cell? ⟨wr.heap.size, 6, none⟩ = some (.string x.ty.name) ∧ w4.cell? ⟨wr.heap.size, 7, none⟩ = some (.bool x.ty.opt) ∧ w4.cell? ⟨wr.heap.size, 8, none⟩ = some (.bool x.ty.err) ∧ w4.cell? ⟨wr.heap.size, 9, none⟩ = some (.string x.name) ∧ w4.cell? ⟨wr.heap.size, 10, none⟩ = some (.slice x.A x.args.length x.cap) := ⟨xb4.cell 4, xb4.cell 5, xb4.cell 6, xb4.cell 7, xb4.cell 8, xb4.cell 9, xb4.cell 10⟩
          have zx4 := xb4.lt
          have zt4 := HTZ.out _ (X2.out.trans (HX.out.trans P4.out.1))
          have tt4 := HTD.out _ (X2.out.trans (HX.out.trans P4.out.1))
          clear xb4)
       | (at_builtin
          refine wpList_append_own _ rfl _ _ 57 rfl w2.heap.size 67 i1 _ 11 112 Tryz.underlying57 HJ.out HJ0.out HJ1.out HJ2.out rfl (by decide) _ _ _ rfl (own_ext HO.out (P4.out.1.alloc (.cells #[.int .i64 x.op, .int .i64 x.d, .int .i64 (mv tq x.a), .int .i64 x.b, .int .i64 x.ty.base, .int .i64 x.ty.bits, .string x.ty.name, .bool x.ty.opt, .bool x.ty.err, .string x.name, .slice x.A x.args.length x.cap] 67))) ⟨w4.heap.size, 0, none⟩ 1 1 [.int .i64 x.op, .int .i64 x.d, .int .i64 (mv tq x.a), .int .i64 x.b, .int .i64 x.ty.base, .int .i64 x.ty.bits, .string x.ty.name, .bool x.ty.opt, .bool x.ty.err, .string x.name, .slice x.A x.args.length x.cap] rfl rfl ?c1 ?c2 ?c3 ?c4 ?c5 ?_))
       case c1 =>
        intro j2 u hj2
        rw [Addr.add_lit, Nat.zero_add]
        rw [(Blk.new w4 67 _).cell]
        simpa using hj2
       case c2 => intro v hv; simp at hv; rcases hv with rfl | rfl | rfl | rfl | rfl | rfl | rfl | rfl | rfl | rfl | rfl <;> rfl
       case c3 => unfold maxLen; omega
       case c4 => omega
       case c5 => have := HX.out.size; have := P4.out.1.size; simp; omega
       intro v' w7 ow7 g7 _
       have X7 : Hid (Ext w2 w7) := ((HX.out.trans P4.out.1).alloc _).grown g7 (own_row HO.out)
       have O7 : Hid (w7.ownsRow w2.heap.size 67 11 v' ((f.code.take (j + 1)).map (permX tq)).length (recCells 11 rgC ((f.code.take (j + 1)).map (permX tq)))) := by
        rw [HSN.out, recCells_append, recCells_one, HXC.out, List.length_append, HL3.out, List.map_take]
        exact ow7
       clear ow7 g7
       go_wp2_with fail
       case roundEnd => exact ⟨⟨j + 1, by omega, by go_num, X7.out, O7.out⟩, by simp [intOf]; omega⟩
      ·have HTD : Hid (∀ w', Ext w w' → True) := fun w' xx => trivial
       have g1 : ((partsR x.op).1 == 1) = false := by simpa using p1
       have g2 : ((partsR x.op).2.1 == 1) = false := by simpa using p2
       have g3 : ((partsR x.op).2.2 == 1) = false := by simpa using p3
       have HXF : Hid (permX tq x = { x with d := x.d, a := x.a, b := x.b }) := by unfold Hid permX; rw [if_neg p1, if_neg p2, if_neg p3]
       have HXC : Hid ((List.range 11).map (rgC (permX tq x)) = [.int .i64 x.op, .int .i64 x.d, .int .i64 x.a, .int .i64 x.b, .int .i64 x.ty.base, .int .i64 x.ty.bits, .string x.ty.name, .bool x.ty.opt, .bool x.ty.err, .string x.name, .slice x.A x.args.length x.cap]) := by rw [HXF.out]; exact Lib.hid rfl
       clear p1 p2 p3 p4 p5
       have tt3 := HTD.out _ (X2.out.trans (HX.out.trans P3.out.1))
       have zt3 := HTZ.out _ (X2.out.trans (HX.out.trans P3.out.1))
       go_wp2_with (first
       | (go_at_call 103; refine (parts_any x.op _).mono ?_; rintro r w' ⟨rfl, rfl⟩)
       | (at_builtin
          refine wpList_append_own _ rfl _ _ 57 rfl w2.heap.size 67 i1 _ 11 112 Tryz.underlying57 HJ.out HJ0.out HJ1.out HJ2.out rfl (by decide) _ _ _ rfl (own_ext HO.out (P3.out.1.alloc (.cells #[.int .i64 x.op, .int .i64 x.d, .int .i64 x.a, .int .i64 x.b, .int .i64 x.ty.base, .int .i64 x.ty.bits, .string x.ty.name, .bool x.ty.opt, .bool x.ty.err, .string x.name, .slice x.A x.args.length x.cap] 67))) ⟨w3.heap.size, 0, none⟩ 1 1 [.int .i64 x.op, .int .i64 x.d, .int .i64 x.a, .int .i64 x.b, .int .i64 x.ty.base, .int .i64 x.ty.bits, .string x.ty.name, .bool x.ty.opt, .bool x.ty.err, .string x.name, .slice x.A x.args.length x.cap] rfl rfl ?c1 ?c2 ?c3 ?c4 ?c5 ?_))
       case c1 =>
        intro j2 u hj2
        rw [Addr.add_lit, Nat.zero_add]
        rw [(Blk.new w3 67 _).cell]
        simpa using hj2
       case c2 => intro v hv; simp at hv; rcases hv with rfl | rfl | rfl | rfl | rfl | rfl | rfl | rfl | rfl | rfl | rfl <;> rfl
       case c3 => unfold maxLen; omega
       case c4 => omega
       case c5 => have := HX.out.size; have := P3.out.1.size; simp; omega
       intro v' w7 ow7 g7 _
       have X7 : Hid (Ext w2 w7) := ((HX.out.trans P3.out.1).alloc _).grown g7 (own_row HO.out)
       have O7 : Hid (w7.ownsRow w2.heap.size 67 11 v' ((f.code.take (j + 1)).map (permX tq)).length (recCells 11 rgC ((f.code.take (j + 1)).map (permX tq)))) := by
        rw [HSN.out, recCells_append, recCells_one, HXC.out, List.length_append, HL3.out, List.map_take]
        exact ow7
       clear ow7 g7
       go_wp2_with fail
       case roundEnd => exact ⟨⟨j + 1, by omega, by go_num, X7.out, O7.out⟩, by simp [intOf]; omega⟩
      ·have HTD : Hid (∀ w', Ext w w' → w'.cell? ⟨tb, tf + x.b.toNat, none⟩ = some (.int .i64 (mv tq x.b)) ∧ True) := fun w' xx => ⟨HTC.out w' x.b xx (by have h9 := gx.b; rw [p3] at h9; exact isPartB_reg h9), trivial⟩
       have vb : 0 ≤ x.b ∧ x.b < f.regs := by have h9 := gx.b; rw [p3] at h9; exact isPartB_reg h9
       have g1 : ((partsR x.op).1 == 1) = false := by simpa using p1
       have g2 : ((partsR x.op).2.1 == 1) = false := by simpa using p2
       have g3 : ((partsR x.op).2.2 == 1) = true := by simpa using p3
       have HXF : Hid (permX tq x = { x with d := x.d, a := x.a, b := mv tq x.b }) := by unfold Hid permX; rw [if_neg p1, if_neg p2, if_pos p3]
       have HXC : Hid ((List.range 11).map (rgC (permX tq x)) = [.int .i64 x.op, .int .i64 x.d, .int .i64 x.a, .int .i64 (mv tq x.b), .int .i64 x.ty.base, .int .i64 x.ty.bits, .string x.ty.name, .bool x.ty.opt, .bool x.ty.err, .string x.name, .slice x.A x.args.length x.cap]) := by rw [HXF.out]; exact Lib.hid rfl
       clear p1 p2 p3 p4 p5
       have tt3 := HTD.out _ (X2.out.trans (HX.out.trans P3.out.1))
       have zt3 := HTZ.out _ (X2.out.trans (HX.out.trans P3.out.1))
       go_wp2_with (first
       | (go_at_call 103; refine (parts_any x.op _).mono ?_; rintro r w' ⟨rfl, rfl⟩)
       | ((with_reducible show wpList _ _ _ (Oper.mk none (.store 3 (.tmp 102) (.tmp 101)) _ _ _ _ :: _) _ _)
          refine store_cell rfl _ _ rfl wr.heap.size 3 rfl (mv tq x.b) rfl (P3.out.2.cell 3) (P3.out.2.frozen 3) ?_
          intro w4 ew
          have P4 : Hid (Ext wr w4 ∧ Blk w4 wr.heap.size 67 #[.int .i64 x.op, .int .i64 x.d, .int .i64 x.a, .int .i64 (mv tq x.b), .int .i64 x.ty.base, .int .i64 x.ty.bits, .string x.ty.name, .bool x.ty.opt, .bool x.ty.err, .string x.name, .slice x.A x.args.length x.cap]) := by
           rw [ew]
           exact ⟨P3.out.1.setCell (Nat.le_refl _) _, P3.out.2.set_ 3 _⟩
          clear ew
          have xb4 := P4.out.2
          obtain ⟨q0, q1, q2, q3⟩ : w4.cell? ⟨wr.heap.size, 0, none⟩ = some (.int .i64 x.op) ∧ w4.cell? ⟨wr.heap.size, 1, none⟩ = some (.int .i64 (x.d)) ∧ w4.cell? ⟨wr.heap.size, 2, none⟩ = some (.int .i64 (x.a)) ∧ w4.cell? ⟨wr.heap.size, 3, none⟩ = some (.int .i64 (mv tq x.b)) := ⟨xb4.cell 0, xb4.cell 1, xb4.cell 2, xb4.cell 3⟩
          obtain ⟨q4, q5, q6, q7, q8, q9, q10⟩ : w4.cell? ⟨wr.heap.size, 4, none⟩ = some (.int .i64 x.ty.base) ∧ w4.cell? ⟨wr.heap.size, 5, none⟩ = some (.int .i64 x.ty.bits) ∧ w4.cell? ⟨wr.heap.size, 6, none⟩ = some (.string x.ty.name) ∧ w4.cell? ⟨wr.heap.size, 7, none⟩ = some (.bool x.ty.opt) ∧ w4.cell? ⟨wr.heap.size, 8, none⟩ = some (.bool x.ty.err) ∧ w4.cell? ⟨wr.heap.size, 9, none⟩ = some (.string x.name) ∧ w4.cell? ⟨wr.heap.size, 10, none⟩ = some (.slice x.A x.args.length x.cap) := ⟨xb4.cell 4, xb4.cell 5, xb4.cell 6, xb4.cell 7, xb4.cell 8, xb4.cell 9, xb4.cell 10⟩
          have zx4 := xb4.lt
          have zt4 := HTZ.out _ (X2.out.trans (HX.out.trans P4.out.1))
          have tt4 := HTD.out _ (X2.out.trans (HX.out.trans P4.out.1))
          clear xb4)
       | (at_builtin
          refine wpList_append_own _ rfl _ _ 57 rfl w2.heap.size 67 i1 _ 11 112 Tryz.underlying57 HJ.out HJ0.out HJ1.out HJ2.out rfl (by decide) _ _ _ rfl (own_ext HO.out (P4.out.1.alloc (.cells #[.int .i64 x.op, .int .i64 x.d, .int .i64 x.a, .int .i64 (mv tq x.b), .int .i64 x.ty.base, .int .i64 x.ty.bits, .string x.ty.name, .bool x.ty.opt, .bool x.ty.err, .string x.name, .slice x.A x.args.length x.cap] 67))) ⟨w4.heap.size, 0, none⟩ 1 1 [.int .i64 x.op, .int .i64 x.d, .int .i64 x.a, .int .i64 (mv tq x.b), .int .i64 x.ty.base, .int .i64 x.ty.bits, .string x.ty.name, .bool x.ty.opt, .bool x.ty.err, .string x.name, .slice x.A x.args.length x.cap] rfl rfl ?c1 ?c2 ?c3 ?c4 ?c5 ?_))
       case c1 =>
        intro j2 u hj2
        rw [Addr.add_lit, Nat.zero_add]
        rw [(Blk.new w4 67 _).cell]
        simpa using hj2
       case c2 => intro v hv; simp at hv; rcases hv with rfl | rfl | rfl | rfl | rfl | rfl | rfl | rfl | rfl | rfl | rfl <;> rfl
       case c3 => unfold maxLen; omega
       case c4 => omega
       case c5 => have := HX.out.size; have := P4.out.1.size; simp; omega
       intro v' w7 ow7 g7 _
       have X7 : Hid (Ext w2 w7) := ((HX.out.trans P4.out.1).alloc _).grown g7 (own_row HO.out)
       have O7 : Hid (w7.ownsRow w2.heap.size 67 11 v' ((f.code.take (j + 1)).map (permX tq)).length (recCells 11 rgC ((f.code.take (j + 1)).map (permX tq)))) := by
        rw [HSN.out, recCells_append, recCells_one, HXC.out, List.length_append, HL3.out, List.map_take]
        exact ow7
       clear ow7 g7
       go_wp2_with fail
       case roundEnd => exact ⟨⟨j + 1, by omega, by go_num, X7.out, O7.out⟩, by simp [intOf]; omega⟩
      ·have HTD : Hid (∀ w', Ext w w' → w'.cell? ⟨tb, tf + x.d.toNat, none⟩ = some (.int .i64 (mv tq x.d)) ∧ w'.cell? ⟨tb, tf + x.a.toNat, none⟩ = some (.int .i64 (mv tq x.a)) ∧ w'.cell? ⟨tb, tf + x.b.toNat, none⟩ = some (.int .i64 (mv tq x.b)) ∧ True) := fun w' xx => ⟨HTC.out w' x.d xx (gx.dreg p1), HTC.out w' x.a xx (by have h9 := gx.a; rw [p2] at h9; exact isPartB_reg h9), HTC.out w' x.b xx (by have h9 := gx.b; rw [p3] at h9; exact isPartB_reg h9), trivial⟩
       have vd := gx.dreg p1
       have va : 0 ≤ x.a ∧ x.a < f.regs := by have h9 := gx.a; rw [p2] at h9; exact isPartB_reg h9
       have vb : 0 ≤ x.b ∧ x.b < f.regs := by have h9 := gx.b; rw [p3] at h9; exact isPartB_reg h9
       have g1 : ((partsR x.op).1 == 1) = true := by simpa using p1
       have g2 : ((partsR x.op).2.1 == 1) = true := by simpa using p2
       have g3 : ((partsR x.op).2.2 == 1) = true := by simpa using p3
       have HXF : Hid (permX tq x = { x with d := mv tq x.d, a := mv tq x.a, b := mv tq x.b }) := by unfold Hid permX; rw [if_pos p1, if_pos p2, if_pos p3]
       have HXC : Hid ((List.range 11).map (rgC (permX tq x)) = [.int .i64 x.op, .int .i64 (mv tq x.d), .int .i64 (mv tq x.a), .int .i64 (mv tq x.b), .int .i64 x.ty.base, .int .i64 x.ty.bits, .string x.ty.name, .bool x.ty.opt, .bool x.ty.err, .string x.name, .slice x.A x.args.length x.cap]) := by rw [HXF.out]; exact Lib.hid rfl
       clear p1 p2 p3 p4 p5
       have tt3 := HTD.out _ (X2.out.trans (HX.out.trans P3.out.1))
       have zt3 := HTZ.out _ (X2.out.trans (HX.out.trans P3.out.1))
       go_wp2_with (first
       | (go_at_call 103; refine (parts_any x.op _).mono ?_; rintro r w' ⟨rfl, rfl⟩)
       | ((with_reducible show wpList _ _ _ (Oper.mk none (.store 3 (.tmp 86) (.tmp 85)) _ _ _ _ :: _) _ _)
          refine store_cell rfl _ _ rfl wr.heap.size 1 rfl (mv tq x.d) rfl (P3.out.2.cell 1) (P3.out.2.frozen 1) ?_
          intro w4 ew
          have P4 : Hid (Ext wr w4 ∧ Blk w4 wr.heap.size 67 #[.int .i64 x.op, .int .i64 (mv tq x.d), .int .i64 x.a, .int .i64 x.b, .int .i64 x.ty.base, .int .i64 x.ty.bits, .string x.ty.name, .bool x.ty.opt, .bool x.ty.err, .string x.name, .slice x.A x.args.length x.cap]) := by
           rw [ew]
           exact ⟨P3.out.1.setCell (Nat.le_refl _) _, P3.out.2.set_ 1 _⟩
          clear ew
          have xb4 := P4.out.2
          obtain ⟨q0, q1, q2, q3⟩ : w4.cell? ⟨wr.heap.size, 0, none⟩ = some (.int .i64 x.op) ∧ w4.cell? ⟨wr.heap.size, 1, none⟩ = some (.int .i64 (mv tq x.d)) ∧ w4.cell? ⟨wr.heap.size, 2, none⟩ = some (.int .i64 (x.a)) ∧ w4.cell? ⟨wr.heap.size, 3, none⟩ = some (.int .i64 (x.b)) := ⟨xb4.cell 0, xb4.cell 1, xb4.cell 2, xb4.cell 3⟩
          obtain ⟨q4, q5, q6, q7, q8, q9, q10⟩ : w4.cell? ⟨wr.heap.size, 4, none⟩ = some (.int .i64 x.ty.base) ∧ w4.cell? ⟨wr.heap.size, 5, none⟩ = some (.int .i64 x.ty.bits) ∧ w4.cell? ⟨wr.heap.size, 6, none⟩ = some (.string x.ty.name) ∧ w4.cell? ⟨wr.heap.size, 7, none⟩ = some (.bool x.ty.opt) ∧ w4.cell? ⟨wr.heap.size, 8, none⟩ = some (.bool x.ty.err) ∧ w4.cell? ⟨wr.heap.size, 9, none⟩ = some (.string x.name) ∧ w4.cell? ⟨wr.heap.size, 10, none⟩ = some (.slice x.A x.args.length x.cap) := ⟨xb4.cell 4, xb4.cell 5, xb4.cell 6, xb4.cell 7, xb4.cell 8, xb4.cell 9, xb4.cell 10⟩
          have zx4 := xb4.lt
          have zt4 := HTZ.out _ (X2.out.trans (HX.out.trans P4.out.1))
          have tt4 := HTD.out _ (X2.out.trans (HX.out.trans P4.out.1))
          clear xb4)
       | ((with_reducible show wpList _ _ _ (Oper.mk none (.store 3 (.tmp 94) (.tmp 93)) _ _ _ _ :: _) _ _)
          refine store_cell rfl _ _ rfl wr.heap.size 2 rfl (mv tq x.a) rfl (P4.out.2.cell 2) (P4.out.2.frozen 2) ?_
          intro w5 ew
          have P5 : Hid (Ext wr w5 ∧ Blk w5 wr.heap.size 67 #[.int .i64 x.op, .int .i64 (mv tq x.d), .int .i64 (mv tq x.a), .int .i64 x.b, .int .i64 x.ty.base, .int .i64 x.ty.bits, .string x.ty.name, .bool x.ty.opt, .bool x.ty.err, .string x.name, .slice x.A x.args.length x.cap]) := by
           rw [ew]
           exact ⟨P4.out.1.setCell (Nat.le_refl _) _, P4.out.2.set_ 2 _⟩
          clear ew
          have xb5 := P5.out.2
          obtain ⟨q0, q1, q2, q3⟩ : w5.cell? ⟨wr.heap.size, 0, none⟩ = some (.int .i64 x.op) ∧ w5.cell? ⟨wr.heap.size, 1, none⟩ = some (.int .i64 (mv tq x.d)) ∧ w5.cell? ⟨wr.heap.size, 2, none⟩ = some (.int .i64 (mv tq x.a)) ∧ w5.cell? ⟨wr.heap.size, 3, none⟩ = some (.int .i64 (x.b)) := ⟨xb5.cell 0, xb5.cell 1, xb5.cell 2, xb5.cell 3⟩
          obtain ⟨q4, q5, q6, q7, q8, q9, q10⟩ : w5.cell? ⟨wr.heap.size, 4, none⟩ = some (.int .i64 x.ty.base) ∧ w5.cell? ⟨wr.heap.size, 5, none⟩ = some (.int .i64 x.ty.bits) ∧ w5.cell? ⟨wr.heap.size, 6, none⟩ = some (.string x.ty.name) ∧ w5.cell? ⟨wr.heap.size, 7, none⟩ = some (.bool x.ty.opt) ∧ w5.cell? ⟨wr.heap.size, 8, none⟩ = some (.bool x.ty.err) ∧ w5.cell? ⟨wr.heap.size, 9, none⟩ = some (.string x.name) ∧ w5.cell? ⟨wr.heap.size, 10, none⟩ = some (.slice x.A x.args.length x.cap) := ⟨xb5.cell 4, xb5.cell 5, xb5.cell 6, xb5.cell 7, xb5.cell 8, xb5.cell 9, xb5.cell 10⟩
          have zx5 := xb5.lt
          have zt5 := HTZ.out _ (X2.out.trans (HX.out.trans P5.out.1))
          have tt5 := HTD.out _ (X2.out.trans (HX.out.trans P5.out.1))
          clear xb5)
       | ((with_reducible show wpList _ _ _ (Oper.mk none (.store 3 (.tmp 102) (.tmp 101)) _ _ _ _ :: _) _ _)
          refine store_cell rfl _ _ rfl wr.heap.size 3 rfl (mv tq x.b) rfl (P5.out.2.cell 3) (P5.out.2.frozen 3) ?_
          intro w6 ew
          have P6 : Hid (Ext wr w6 ∧ Blk w6 wr.heap.size 67 #[.int .i64 x.op, .int .i64 (mv tq x.d), .int .i64 (mv tq x.a), .int .i64 (mv tq x.b), .int .i64 x.ty.base, .int .i64 x.ty.bits, .string x.ty.name, .bool x.ty.opt, .bool x.ty.err, .string x.name, .slice x.A x.args.length x.cap]) := by
           rw [ew]
           exact ⟨P5.out.1.setCell (Nat.le_refl _) _, P5.out.2.set_ 3 _⟩
          clear ew
          have xb6 := P6.out.2
          obtain ⟨q0, q1, q2, q3⟩ : w6.cell? ⟨wr.heap.size, 0, none⟩ = some (.int .i64 x.op) ∧ w6.cell? ⟨wr.heap.size, 1, none⟩ = some (.int .i64 (mv tq x.d)) ∧ w6.cell? ⟨wr.heap.size, 2, none⟩ = some (.int .i64 (mv tq x.a)) ∧ w6.cell? ⟨wr.heap.size, 3, none⟩ = some (.int .i64 (mv tq x.b)) := ⟨xb6.cell 0, xb6.cell 1, xb6.cell 2, xb6.cell 3⟩
          obtain ⟨q4, q5, q6, q7, q8, q9, q10⟩ : w6.cell? ⟨wr.heap.size, 4, none⟩ = some (.int .i64 x.ty.base) ∧ w6.cell? ⟨wr.heap.size, 5, none⟩ = some (.int .i64 x.ty.bits) ∧ w6.cell? ⟨wr.heap.size, 6, none⟩ = some (.string x.ty.name) ∧ w6.cell? ⟨wr.heap.size, 7, none⟩ = some (.bool x.ty.opt) ∧ w6.cell? ⟨wr.heap.size, 8, none⟩ = some (.bool x.ty.err) ∧ w6.cell? ⟨wr.heap.size, 9, none⟩ = some (.string x.name) ∧ w6.cell? ⟨wr.heap.size, 10, none⟩ = some (.slice x.A x.args.length x.cap) := ⟨xb6.cell 4, xb6.cell 5, xb6.cell 6, xb6.cell 7, xb6.cell 8, xb6.cell 9, xb6.cell 10⟩
          have zx6 := xb6.lt
          have zt6 := HTZ.out _ (X2.out.trans (HX.out.trans P6.out.1))
          have tt6 := HTD.out _ (X2.out.trans (HX.out.trans P6.out.1))
          clear xb6)
       | (at_builtin
          refine wpList_append_own _ rfl _ _ 57 rfl w2.heap.size 67 i1 _ 11 112 Tryz.underlying57 HJ.out HJ0.out HJ1.out HJ2.out rfl (by decide) _ _ _ rfl (own_ext HO.out (P6.out.1.alloc (.cells #[.int .i64 x.op, .int .i64 (mv tq x.d), .int .i64 (mv tq x.a), .int .i64 (mv tq x.b), .int .i64 x.ty.base, .int .i64 x.ty.bits, .string x.ty.name, .bool x.ty.opt, .bool x.ty.err, .string x.name, .slice x.A x.args.length x.cap] 67))) ⟨w6.heap.size, 0, none⟩ 1 1 [.int .i64 x.op, .int .i64 (mv tq x.d), .int .i64 (mv tq x.a), .int .i64 (mv tq x.b), .int .i64 x.ty.base, .int .i64 x.ty.bits, .string x.ty.name, .bool x.ty.opt, .bool x.ty.err, .string x.name, .slice x.A x.args.length x.cap] rfl rfl ?c1 ?c2 ?c3 ?c4 ?c5 ?_))
       case c1 =>
        intro j2 u hj2
        rw [Addr.add_lit, Nat.zero_add]
        rw [(Blk.new w6 67 _).cell]
        simpa using hj2
       case c2 => intro v hv; simp at hv; rcases hv with rfl | rfl | rfl | rfl | rfl | rfl | rfl | rfl | rfl | rfl | rfl <;> rfl
       case c3 => unfold maxLen; omega
       case c4 => omega
       case c5 => have := HX.out.size; have := P6.out.1.size; simp; omega
       intro v' w7 ow7 g7 _
       have X7 : Hid (Ext w2 w7) := ((HX.out.trans P6.out.1).alloc _).grown g7 (own_row HO.out)
       have O7 : Hid (w7.ownsRow w2.heap.size 67 11 v' ((f.code.take (j + 1)).map (permX tq)).length (recCells 11 rgC ((f.code.take (j + 1)).map (permX tq)))) := by
        rw [HSN.out, recCells_append, recCells_one, HXC.out, List.length_append, HL3.out, List.map_take]
        exact ow7
       clear ow7 g7
       go_wp2_with fail
       case roundEnd => exact ⟨⟨j + 1, by omega, by go_num, X7.out, O7.out⟩, by simp [intOf]; omega⟩
     ·obtain rfl : j = f.code.length := by omega
      have hpl : 0 < (f.code.map (permX tq)).length := by rw [List.length_map]; omega
      have HO2 : Hid (∃ g3 cap3, u13 = .slice (some ⟨g3, 0, none⟩) f.code.length cap3 ∧ w2.heap.size ≤ g3 ∧ RecRow wr g3 67 11 rgC (f.code.map (permX tq))) := by
       have h := HO.out
       rw [List.take_length] at h
       obtain ⟨g3, cap3, a1, a2, a3⟩ := own_rec h hpl
       rw [List.length_map] at a1
       exact ⟨g3, cap3, a1, a2, a3⟩
      obtain ⟨g3, cap3, hv3, hg3, hr3⟩ := HO2.out
      subst hv3
      have HR3 := Lib.hid hr3
      have HG3 := Lib.hid hg3
      have z9 : w1.heap.size < wr.heap.size := z2
      have OW4 : Hid (∀ W : World, (W.alloc (.cells #[] 59)).ownsRow W.heap.size 59 9 (.slice (some ⟨W.heap.size, 0, none⟩) 0 0) 0 []) := fun W =>
       ⟨rfl, .inr ⟨W.heap.size, 0, #[], rfl, Nat.le_refl _, Blk.new W 59 #[], Nat.le_refl _, by unfold maxLen; omega, rfl, rfl⟩⟩
      clear hr3 hg3 HO2 HO
      go_wp2_with (first
       | ((with_reducible show wpList _ _ _ (Oper.mk none (.store 57 (.tmp 108) (.tmp 107)) _ _ _ _ :: _) _ _)
          refine store_slice rfl _ _ rfl w1.heap.size 8 rfl (some ⟨g3, 0, none⟩) f.code.length cap3 rfl ((BF.out.ext HX.out).cell 8) ((BF.out.ext HX.out).frozen 8) ?_
          intro w4 ew
          have X4 : Hid (Ext w1 w4) := by
           rw [ew]
           exact (X12.out.trans HX.out).setCell (Nat.le_refl _) _
          have BF4 : Hid (Blk w4 w1.heap.size 59 #[.string f.name, .int .i64 f.params, .int .i64 f.regs, .int .i64 f.ty.base, .int .i64 f.ty.bits, .string f.ty.name, .bool f.ty.opt, .bool f.ty.err, .slice (some ⟨g3, 0, none⟩) f.code.length cap3]) := by rw [ew]; exact (BF.out.ext HX.out).set_ 8 _
          have R4 : Hid (RecRow w4 g3 67 11 rgC (f.code.map (permX tq))) := by rw [ew]; exact HR3.out.far (show g3 ≠ w1.heap.size by have := HG3.out; have := HZB.out; omega) _
          clear ew)
       | (at_builtin
          refine wpList_append_own _ rfl _ _ 29 rfl w4.heap.size 59 i0 _ 9 96 Tryz.underlying29 HI.out HZ0.out HZ1.out HZ2.out rfl (by decide) _ 0 [] rfl (OW4.out w4) ⟨b, off, none⟩ len cap (recCells 9 rfC l) rfl ?c1 ?c2 ?c3 ?c4 ?c5 ?c6 ?_))
      case c1 => rw [HLn.out]; exact recCells_len 9 rfC l
      case c2 =>
       intro j2 u hj2
       obtain ⟨bq, oq, hq, _, hcc⟩ := (HA.out.ext (X1.out.trans (X4.out.alloc (.cells #[] 59)))).top (by have := HN.out; omega)
       cases hq
       exact news_rec (C := rfC) (c := l) (sz := 9) (fun i j hi hj => hcc i j hi hj) j2 u hj2
      case c3 => exact recCells_ones rfC_one l
      case c4 => unfold maxLen; omega
      case c5 => omega
      case c6 => simp
      intro v5 w5 ow5 g5 _
      have X5 : Hid (Ext w4 w5) := ((Ext.refl w4).alloc _).grown g5 (own_row (OW4.out w4))
      have h5 := ow5
      try rw [Nat.zero_add, List.nil_append] at h5
      rw [HLn.out] at h5
      obtain ⟨G, cg, hv5, hG, hrG⟩ := own_rec h5 (by have := HN.out; omega)
      subst hv5
      have HRG := Lib.hid hrG
      have HGG := Lib.hid hG
      have hnl : (n : Int) < (l.length : Int) := by have := HN.out; omega
      obtain ⟨f0, f1, f2, f3, f4, f5, f6, f7, f8⟩ : w5.cell? ⟨w1.heap.size, 0, none⟩ = some (.string f.name) ∧ w5.cell? ⟨w1.heap.size, 1, none⟩ = some (.int .i64 f.params) ∧ w5.cell? ⟨w1.heap.size, 2, none⟩ = some (.int .i64 f.regs) ∧ w5.cell? ⟨w1.heap.size, 3, none⟩ = some (.int .i64 f.ty.base) ∧ w5.cell? ⟨w1.heap.size, 4, none⟩ = some (.int .i64 f.ty.bits) ∧ w5.cell? ⟨w1.heap.size, 5, none⟩ = some (.string f.ty.name) ∧ w5.cell? ⟨w1.heap.size, 6, none⟩ = some (.bool f.ty.opt) ∧ w5.cell? ⟨w1.heap.size, 7, none⟩ = some (.bool f.ty.err) ∧ w5.cell? ⟨w1.heap.size, 8, none⟩ = some (.slice (some ⟨g3, 0, none⟩) f.code.length cap3) := by
       have h := BF4.out.ext X5.out
       exact ⟨h.cell 0, h.cell 1, h.cell 2, h.cell 3, h.cell 4, h.cell 5, h.cell 6, h.cell 7, h.cell 8⟩
      have zf := (BF4.out.ext X5.out).lt
      have HFNC : Hid ((#[.string f.name, .int .i64 f.params, .int .i64 f.regs, .int .i64 f.ty.base, .int .i64 f.ty.bits, .string f.ty.name, .bool f.ty.opt, .bool f.ty.err, .slice (some ⟨g3, 0, none⟩) f.code.length cap3] : Array Value).toList = (List.range 9).map (rfC ({ f with A := some ⟨g3, 0, none⟩, cap := cap3, code := f.code.map (permX tq) } : Rf))) := by
       have e : (List.range 9).map (rfC ({ f with A := some ⟨g3, 0, none⟩, cap := cap3, code := f.code.map (permX tq) } : Rf)) = [.string f.name, .int .i64 f.params, .int .i64 f.regs, .int .i64 f.ty.base, .int .i64 f.ty.bits, .string f.ty.name, .bool f.ty.opt, .bool f.ty.err, .slice (some ⟨g3, 0, none⟩) (f.code.map (permX tq)).length cap3] := rfl
       unfold Hid
       rw [e, List.length_map]
      have zG := hrG.lt
      clear ow5 g5 h5 hrG hG
      go_wp2_with (first
       | ((with_reducible show wpList _ _ _ (Oper.mk none (.store 59 (.tmp 115) (.tmp 114)) _ _ _ _ :: _) _ _)
          refine store_mid rfl 59 _ _ rfl G (n * 9) #[.string f.name, .int .i64 f.params, .int .i64 f.regs, .int .i64 f.ty.base, .int .i64 f.ty.bits, .string f.ty.name, .bool f.ty.opt, .bool f.ty.err, .slice (some ⟨g3, 0, none⟩) f.code.length cap3] rfl rfl (HRG.out.there HN.out) HZF.out (Array.all_eq_true_iff_forall_mem.2 (fun v hv => by simp at hv; rcases hv with rfl | rfl | rfl | rfl | rfl | rfl | rfl | rfl | rfl <;> rfl)) ?_
          intro w6 ew
          have X6 : Hid (Ext w w6) := by
           rw [ew]
           exact (X1.out.trans (X4.out.trans X5.out)).setCells (by have := X1.out.size; have := X4.out.size; have := HGG.out; omega) _ _
          have RG6 : Hid (RecRow w6 G 59 9 rfC (l.set n { f with A := some ⟨g3, 0, none⟩, cap := cap3, code := f.code.map (permX tq) })) := by
           rw [ew, HFNC.out]
           exact HRG.out.put HN.out _
          have RC6 : Hid (RecRow w6 g3 67 11 rgC (f.code.map (permX tq))) := by
           rw [ew]
           exact (R4.out.ext X5.out).cells_far ((R4.out.ext X5.out).ne HRG.out (by decide)) _ _
          clear ew))
      go_ret2
      have hfin : RfAt w6 (some ⟨G, 0, none⟩) (l.set n { f with A := some ⟨g3, 0, none⟩, cap := cap3, code := f.code.map (permX tq) }) := by
       refine ⟨RG6.out.at_, fun f9 hf9 => ?_⟩
       rcases List.mem_or_eq_of_mem_set hf9 with h | h
       ·exact (HA.out.ext X6.out).sub f9 h
       ·rw [h]
        refine ⟨RC6.out.at_, fun x hx => ?_⟩
        obtain ⟨y, hy, rfl⟩ := List.mem_map.1 hx
        exact (HCD.out.sub y hy).ext X6.out
      have hlk : LikeR (l.set n { f with A := some ⟨g3, 0, none⟩, cap := cap3, code := f.code.map (permX tq) }) (permL l n tq) := by
       refine likeR_of (by rw [List.length_set, permL_len]) fun i hi => ?_
       rw [set_at HN.out, permL_at l n i tq HN.out]
       by_cases e : i = n
       ·rw [if_pos e, if_pos e, ← HF.out]
        rfl
       ·rw [if_neg e, if_neg e]
      exact ⟨_, some ⟨G, 0, none⟩, ⟨cg, by rw [HP0.out, List.length_set]; rfl⟩, hfin, by rw [HRR.out]; exact hlk, X6.out⟩
 ·have HP1 : Hid (permE l k tq = numE l k) := by unfold Hid permE; rw [if_pos h0]
  have HZZ := Lib.hid (HLZ.out (by rw [HP1.out]; exact h0))
  rw [HP1.out]
  generalize numE l k = a at *
  have hb : (a != 0) = true := by simpa using h0
  go_enter Tryz.func46, Tryz.ntmps46
  go_wp2_with (first
   | (go_at_call 107; refine (HK.out).mono ?_; rintro r w1 ⟨rfl, x1⟩))
  go_ret2
  exact ⟨[], none, 0, rfl, (HZZ.out _).1, (HZZ.out w1).2, x1⟩
end Go.Proofs.YtknaemlnhediaaaGreatDoor.c
