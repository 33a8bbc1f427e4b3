/- Contracts of the reference's numbered, Size, Slots. The table strings.asciiSpace holds what its text lays; lengths are bounded. -/
import Derived.Test.YtknaemlnhediaaaGreatDoorSlots
import Derived.Test.YtknaemlnhediaaaGreatDoorSortc
import Derived.Test.YtknaemlnhediaaaGreatDoorHval
namespace Go.Proofs.YtknaemlnhediaaaGreatDoor.c
open Go.RowKit
set_option linter.unusedVariables false
set_option maxRecDepth 100000
set_option maxHeartbeats 12800000
set_option linter.unusedSimpArgs false
theorem info_bool2 : (Tryz.prog.info? 4).map (fun i => (i.zero, i.size, i.bytes)) = some (some (.bool false), 1, 1) := by kernel_rfl
theorem hnumbered_any (A : Option Addr) (cap : Nat) (l : List Rf) {len : Nat} (k : Int) (w : World) (hlen : len = l.length) (hA : RfAt w A l) (hl : len ≤ 9223372036854775806) (hc : len ≤ 48 → countR l ≤ 9223372036854775806) (hin : RgsIn l) :
  Calls Tryz.prog 107 #[.slice A len cap, .int .i64 k] w fun e w' => e = .returned (.int .i64 (numE l k)) ∧ Ext w w' := by
 have HV := Lib.hid (hValidate_any A cap l w hlen hA hl hc hin)
 have HLn := Lib.hid hlen
 obtain ⟨v, hv⟩ : ∃ v, validR l = v := ⟨_, rfl⟩
 rw [hv] at HV
 have HVV := Lib.hid hv
 clear hv hlen hA hc hin
 by_cases h0 : v = 0
 ·subst h0
  have hsub : IntKind.i64.wrap ((len : Int) - 1) = (len : Int) - 1 := IntWalk.i64_in _ (by omega)
  obtain ⟨ib, hib⟩ : ∃ ib, inB k 0 ((len : Int) - 1) = ib := ⟨_, rfl⟩
  have HW : Hid (∀ w1, Calls Tryz.prog 81 #[.int .i64 k, .int .i64 0, .int .i64 ((len : Int) - 1)] w1 fun e w' => e = .returned (.bool ib) ∧ w1 = w') := fun w1 => by
   have h := hwithin_any k 0 ((len : Int) - 1) w1
   rwa [hib] at h
  have HN : Hid (numE l k = if ib = true then 0 else 4) := by
   unfold Hid
   cases ib
   ·rw [numE_out HLn.out HVV.out, if_neg (by decide)]
    have : ¬ (0 ≤ k ∧ k ≤ (len : Int) - 1) := fun h => by rw [inB_iff.2 h] at hib; cases hib
    omega
   ·have h := inB_iff.1 hib
    rw [numE_in HLn.out HVV.out (by omega) (by omega), if_pos rfl]
  rw [HN.out]
  clear hib HN
  cases ib
  all_goals
   go_enter Tryz.func107, Tryz.ntmps107
   go_wp2_with (first
    | (go_at_call 25; refine (HV.out).mono ?_; rintro r w1 ⟨rfl, x1⟩)
    | (go_at_call 81; refine (HW.out _).mono ?_; rintro r w' ⟨rfl, rfl⟩))
   go_ret
   exact ⟨rfl, x1⟩
 ·rw [numE_bad HLn.out HVV.out h0]
  have hb : (v != 0) = true := by simpa using h0
  go_enter Tryz.func107, Tryz.ntmps107
  go_wp2_with (first | (go_at_call 25; refine (HV.out).mono ?_; rintro r w1 ⟨rfl, x1⟩))
  go_ret
  exact ⟨rfl, x1⟩
theorem hSize_any (A : Option Addr) (cap : Nat) (l : List Rf) {len : Nat} (w : World) (hlen : len = l.length) (hA : RfAt w A l) (hl : len ≤ 9223372036854775806) (hc : len ≤ 48 → countR l ≤ 9223372036854775806) (hin : RgsIn l) :
  Calls Tryz.prog 42 #[.slice A len cap] w fun e w' => e = .returned (.tuple #[.int .i64 (sizeR l), .int .i64 (validR l)]) ∧ Ext w w' := by
 have HV := Lib.hid (hValidate_any A cap l w hlen hA hl hc hin)
 have HLn := Lib.hid hlen
 have HA := Lib.hid hA
 have HCC : Hid (validR l = 0 → countR l ≤ 9223372036854775806) := fun h => by
  have := (validR_parts h).2.1
  omega
 obtain ⟨v, hv⟩ : ∃ v, validR l = v := ⟨_, rfl⟩
 have HVV := Lib.hid hv
 rw [hv] at HV ⊢
 clear hv hlen hA hc hin
 by_cases h0 : v = 0
 ·subst h0
  have HS : Hid (sizeR l = (countR l : Int)) := by unfold Hid sizeR; rw [if_pos HVV.out]
  rw [HS.out]
  go_enter Tryz.func42, Tryz.ntmps42
  go_wp2_with (first
   | (go_at_call 25; refine (HV.out).mono ?_; rintro r w1 ⟨rfl, x1⟩)
   | (go_at_call 71; refine (hcount_any A cap l _ HLn.out (HA.out.ext x1) hl (HCC.out HVV.out)).mono ?_; rintro r w2 ⟨rfl, rfl⟩))
  go_ret2
  exact ⟨rfl, exA⟩
 ·have HS : Hid (sizeR l = 0) := by unfold Hid sizeR; rw [if_neg (by rw [HVV.out]; exact h0)]
  rw [HS.out]
  have hb : (v != 0) = true := by simpa using h0
  go_enter Tryz.func42, Tryz.ntmps42
  go_wp2_with (first | (go_at_call 25; refine (HV.out).mono ?_; rintro r w1 ⟨rfl, x1⟩))
  go_ret2
  exact ⟨rfl, x1⟩
def memTo (L : List Int) (k : Nat) : List Int := ((List.range k).map fun i : Nat => (i : Int)).filter fun x => decide (x ∈ L)
theorem memTo_succ (L : List Int) (k : Nat) : memTo L (k + 1) = memTo L k ++ if (k : Int) ∈ L then [(k : Int)] else [] := by
 unfold memTo
 rw [List.range_succ, List.map_append, List.filter_append]
 congr 1
 by_cases h : (k : Int) ∈ L <;> simp [h]
theorem memTo_len (L : List Int) (k : Nat) : (memTo L k).length ≤ k := by
 unfold memTo
 have := List.length_filter_le (fun x => decide (x ∈ L)) ((List.range k).map fun i : Nat => (i : Int))
 simpa using this
def slotsA (x : Rg) : List Int := if x.op = 3 ∨ x.op = 4 then [x.a] else []
theorem GoodF.noargs {l : List Rf} {f : Rf} (g : GoodF l f) {x : Rg} (hx : x ∈ f.code) (h : x.op ≠ 14) : x.args = [] := by
 have h1 := g.inst x hx
 unfold instR at h1
 simp only [Bool.and_eq_true] at h1
 have h2 := h1.2.2.2.2.1
 rw [argsB_other h] at h2
 exact List.isEmpty_iff.1 h2
theorem slotsX_split {l : List Rf} {f : Rf} (g : GoodF l f) {x : Rg} (hx : x ∈ f.code) : slotsX x = slotsA x ++ x.args := by
 unfold slotsX slotsA
 by_cases h : x.op = 3 ∨ x.op = 4
 ·rw [if_pos h, if_pos h, g.noargs hx (by omega), List.append_nil]
 ·rw [if_neg h, if_neg h, List.nil_append]
  by_cases h2 : x.op = 14
  ·rw [if_pos h2]
  ·rw [if_neg h2, g.noargs hx h2]
theorem slotsL_in {l : List Rf} {f : Rf} (g : GoodF l f) : ∀ x, x ∈ slotsL f.code → 0 ≤ x ∧ x < (300 : Nat) := by
 intro z hz
 unfold slotsL at hz
 rw [List.mem_flatten] at hz
 obtain ⟨q, hq, hzq⟩ := hz
 obtain ⟨x, hx, rfl⟩ := List.mem_map.1 hq
 have gx := g.at_ hx
 unfold slotsX at hzq
 split at hzq
 ·rename_i h
  have hz' : z = x.a := by simpa using hzq
  subst hz'
  have ha := gx.a
  have hp : (partsR x.op).2.1 = 2 := by rcases h with h | h <;> rw [h] <;> rfl
  rw [hp] at ha
  exact isPartB_slot ha
 ·split at hzq
  ·exact gx.args z hzq
  ·cases hzq
theorem slotsA_in {l : List Rf} {f : Rf} (g : GoodF l f) {x : Rg} (hx : x ∈ f.code) (h : x.op = 3 ∨ x.op = 4) : 0 ≤ x.a ∧ x.a < 300 := by
 have ha := (g.at_ hx).a
 have hp : (partsR x.op).2.1 = 2 := by rcases h with h | h <;> rw [h] <;> rfl
 rw [hp] at ha
 exact isPartB_slot ha
theorem slots_mem {l : List Rf} {f : Rf} {k : Int} {n : Nat} (g : GoodF l f) (hk : k = n) (h0 : numE l k = 0) (hf : f = l.getD n default) : slotsR l k = memTo (slotsL f.code) 300 := by
 unfold slotsR memTo
 rw [if_pos h0, hk, Int.toNat_natCast, ← hf, compact_sort _ 300 (slotsL_in g)]
theorem hSlots_any (A : Option Addr) (cap : Nat) (l : List Rf) {len : Nat} (k : Int) (w : World) (hlen : len = l.length) (hA : RfAt w A l) (hl : len ≤ 9223372036854775806) (hc : len ≤ 48 → countR l ≤ 9223372036854775806) (hin : RgsIn l) :
  Calls Tryz.prog 40 #[.slice A len cap, .int .i64 k] w fun e w' => ∃ v, e = .returned (.tuple #[v, .int .i64 (numE l k)]) ∧ IntsAt w' v (slotsR l k) ∧ Ext w w' := by
 have HK := Lib.hid (hnumbered_any A cap l k w hlen hA hl hc hin)
 have HA := Lib.hid hA
 have HLn := Lib.hid hlen
 clear hA hc hin hlen
 by_cases h0 : numE l k = 0
 ·obtain ⟨hv, n, rfl, hn⟩ := numE_ok h0
  obtain ⟨f, hf⟩ : ∃ f, f = l.getD n default := ⟨_, rfl⟩
  obtain ⟨h48, _, hgood⟩ := validR_parts hv
  have GF : Hid (GoodF l f) := by rw [hf]; exact (hgood n hn).1
  have HP : Hid (∀ j, j < l.length → (l.getD j default).params ≤ 4) := fun j hj => (hgood j hj).1.par.2
  have HR : Hid (slotsR l n = memTo (slotsL f.code) 300) := slots_mem GF.out rfl h0 hf
  obtain ⟨b, off, rfl, hb, c0, c1, c2, c3, c4, c5, c6, c7, c8, hcd⟩ := HA.out.at_ (k := n) hn hf
  have HCD := Lib.hid hcd
  have k1 : (n : Int) < (len : Int) := by have := HLn.out; omega
  rw [h0] at HK ⊢
  rw [HR.out]
  clear h0 hv hf hcd h48 hgood hn HR HA c0 c1 c2 c3 c4 c5 c6 c7
  have hfew := GF.out.few
  obtain ⟨nc, hnc⟩ : ∃ nc, nc = f.code.length := ⟨_, rfl⟩
  rw [← hnc] at c8 hfew
  have HNC := Lib.hid hnc
  have HC8 := Lib.hid c8
  have HB := Lib.hid hb
  clear hnc c8 hb
  have HZ : Hid ((Tryz.prog.info? 67).map (·.size) = some 11) := by unfold Hid; kernel_rfl
  have HY : Hid (∀ (w' : World) (o : Nat), Ext w w' → w'.cell? ⟨b, o, none⟩ = w.cell? ⟨b, o, none⟩) := fun w' o x => x.cell (p := ⟨b, o, none⟩) HB.out
  obtain ⟨mx, hmx⟩ : ∃ mx : Nat, mx = 300 := ⟨_, rfl⟩
  have hmk : ∀ W : World, (Instr.makeSlice 135 (.int .i64 300) (.int .i64 300)).run Tryz.prog W = .ok (.slice (some ⟨W.heap.size, 0, none⟩) mx mx) (W.alloc (.cells (madeCells #[.bool false] mx) 4)) := fun W => by
   rw [hmx]
   exact run_make_row' (P := Tryz.prog) 135 4 (.bool false) 1 Tryz.underlying135 info_bool2 rfl .i64 .i64 300 (by decide) (by decide) W
  have HMX := Lib.hid hmx
  clear hmx
  go_enter Tryz.func40, Tryz.ntmps40
  go_wp2_with (first
   | (go_at_call 107
      refine (HK.out).mono ?_
      rintro r w1 ⟨rfl, x1⟩
      have X1 := Lib.hid x1
      clear x1))
  clear hmk
  go_loopw [8] (fun i wr => ∃ j : Nat, j ≤ nc ∧ i = .int .i64 j ∧ Ext w1 wr ∧ RowAt wr w1.heap.size 4 mx (fun z => .bool (decide ((z : Int) ∈ slotsL (f.code.take j))))) (fun i _ => nc - (intOf i).toNat)
  case atStart => exact ⟨0, Nat.zero_le _, rfl, (Ext.refl _).alloc _, (RowAt.made w1 4 (.bool false) mx).same fun z hz => by simp [slotsL]⟩
  case round =>
   obtain ⟨j, hj, rfl, hx, hr⟩ := hrel
   have HX := Lib.hid hx
   have HRW := Lib.hid hr
   clear hx hr
   have c8 := HC8.out
   rw [← HY.out wr _ (X1.out.trans HX.out)] at c8
   have hb1 : b < wr.heap.size := Nat.lt_of_lt_of_le HB.out (X1.out.trans HX.out).size
   by_cases hlt : j < nc
   ·have hjl : j < f.code.length := by have := HNC.out; omega
    obtain ⟨x, hxx⟩ : ∃ x, x = f.code.getD j default := ⟨_, rfl⟩
    have hxm : x ∈ f.code := by rw [hxx]; exact getD_mem hjl
    have HS : Hid (slotsL (f.code.take (j + 1)) = slotsL (f.code.take j) ++ slotsX x) := by rw [hxx]; exact slotsL_snoc _ hjl
    have HSP : Hid (slotsX x = slotsA x ++ x.args) := slotsX_split GF.out hxm
    have HG : Hid (∀ y, y ∈ x.args → 0 ≤ y ∧ y < 300) := (GF.out.at_ hxm).args
    have HAI : Hid (x.op = 3 ∨ x.op = 4 → 0 ≤ x.a ∧ x.a < 300) := slotsA_in GF.out hxm
    have HN := Lib.hid (HCD.out.sub x hxm)
    obtain ⟨na, hna⟩ : ∃ na, na = x.args.length := ⟨_, rfl⟩
    have HNA := Lib.hid hna
    have hna2 : na ≤ 4 := by
     rcases Classical.em (x.op = 14) with h | h
     ·obtain ⟨q, _, hq, he⟩ := (GF.out.at_ hxm).call h
      have := HP.out q hq
      omega
     ·rw [hna, GF.out.noargs hxm h]; decide
    obtain ⟨b2, o2, hA2, hb2, d0, d1, d2, d3, d4, d5, d6, d7, d8, d9, d10, _⟩ := (HCD.out.ext (X1.out.trans HX.out)).at_ (k := j) hjl hxx
    rw [hA2] at c8
    clear hxx hjl hA2 hxm hna
    have hop : (x.op = 3 ∨ x.op = 4) ∨ (x.op ≠ 3 ∧ x.op ≠ 4) := by omega
    rcases hop with hop | hop
    ·have hai := HAI.out hop
     have ha1 := hai.1
     have ha2 : x.a < (mx : Int) := by have := HMX.out; omega
     have HSA : Hid (slotsA x = [x.a]) := by unfold Hid slotsA; rw [if_pos hop]
     obtain ⟨t3, ht3⟩ : ∃ t3, (x.op == 3) = t3 := ⟨_, rfl⟩
     have ht4 : t3 = false → (x.op == 4) = true := by
      intro h
      rw [h] at ht3
      rcases hop with h1 | h1
      ·rw [h1] at ht3; cases ht3
      ·rw [h1]; rfl
     clear hop hai
     have hyl : x.a.toNat < mx := by omega
     cases t3
     case' false => have q4 := ht4 rfl
     all_goals
      clear ht4
      go_wp2_with (first
       | ((with_reducible show wpList _ _ _ (Oper.mk none (.store 67 (.tmp 9) (.tmp 37)) _ _ _ _ :: _) _ _)
          refine store_new 67 _ _ rfl _ _ rfl rfl rfl rfl HZ.out (rg_one x) ?_
          intro w3 x3 B3
          have X3 := Lib.hid x3
          have BB := Lib.hid B3
          obtain ⟨e0, e1, e2, e3, e4, e5, e6, e7, e8, e9, e10⟩ := rg_cells x B3
          have zb := B3.lt
          have rc := (HRW.out.ext x3).cell hyl
          have rf := (HRW.out.ext x3).frozen x.a.toNat
          have zr := (HRW.out.ext x3).lt
          clear B3 x3 e1 e3 e4 e5 e6 e7 e8 e9))
      clear rc rf zr
      clear e0 e2 e10 zb
      have HNE : Hid (wr.heap.size ≠ w1.heap.size) := by have h9 := HRW.out.lt; show _ ≠ _; omega
      have R0 : Hid (RowAt (w3.setCell ⟨w1.heap.size, x.a.toNat, none⟩ (.bool true)) w1.heap.size 4 mx (fun z => .bool (decide ((z : Int) ∈ (slotsL (f.code.take j) ++ slotsA x) ++ x.args.take 0)))) := by
       rw [HSA.out]
       refine (HRW.out.ext X3.out).set_ fun z hz => ?_
       by_cases e : z = x.a.toNat
       ·subst e
        rw [if_pos rfl]
        congr 1
        refine decide_eq_true ?_
        simp only [List.mem_append, List.mem_singleton]
        exact .inl (.inr (by omega))
       ·rw [if_neg e]
        congr 1
        refine decide_eq_decide.2 ?_
        have h9 : ¬ (z : Int) = x.a := by omega
        simp only [List.mem_append, List.mem_singleton, h9, or_false, List.take_zero, List.not_mem_nil]
      have Q0 : Hid (Ext w1 (w3.setCell ⟨w1.heap.size, x.a.toNat, none⟩ (.bool true))) := (HX.out.trans X3.out).setCell (Nat.le_refl _) _
      have K0 : Hid (Blk (w3.setCell ⟨w1.heap.size, x.a.toNat, none⟩ (.bool true)) wr.heap.size 67 #[.int .i64 x.op, .int .i64 x.d, .int .i64 x.a, .int .i64 x.b, .int .i64 x.ty.base, .int .i64 x.ty.bits, .string x.ty.name, .bool x.ty.opt, .bool x.ty.err, .string x.name, .slice x.A x.args.length x.cap]) := BB.out.far (by have h9 := HRW.out.lt; show wr.heap.size ≠ w1.heap.size; omega) _
      go_loopw [10] (fun i wq => ∃ q : Nat, q ≤ na ∧ i = .int .i64 q ∧ Ext w1 wq ∧ Blk wq wr.heap.size 67 #[.int .i64 x.op, .int .i64 x.d, .int .i64 x.a, .int .i64 x.b, .int .i64 x.ty.base, .int .i64 x.ty.bits, .string x.ty.name, .bool x.ty.opt, .bool x.ty.err, .string x.name, .slice x.A x.args.length x.cap] ∧ RowAt wq w1.heap.size 4 mx (fun z => .bool (decide ((z : Int) ∈ (slotsL (f.code.take j) ++ slotsA x) ++ x.args.take q)))) (fun i _ => na - (intOf i).toNat)
      case atStart => exact ⟨0, Nat.zero_le _, rfl, Q0.out, K0.out, R0.out⟩
      case round =>
       clear R0 Q0 K0
       obtain ⟨q, hq, rfl, qx, qb, qr⟩ := hrel
       have QX := Lib.hid qx
       have QB := Lib.hid qb
       have QR := Lib.hid qr
       obtain ⟨e0, e1, e2, e3, e4, e5, e6, e7, e8, e9, e10⟩ := rg_cells x qb
       have zb := qb.lt
       rw [← HNA.out] at e10
       clear qx qb qr e0 e1 e2 e3 e4 e5 e6 e7 e8 e9
       by_cases hlq : q < na
       ·have hql : q < x.args.length := by have := HNA.out; omega
        obtain ⟨b3, o3, hA3, hb3, g0⟩ := (HN.out.ext (X1.out.trans QX.out)).one hql
        obtain ⟨y, hy⟩ : ∃ y, y = x.args.getD q 0 := ⟨_, rfl⟩
        have hyr : 0 ≤ y ∧ y < 300 := HG.out y (by rw [hy, List.getD, List.getElem?_eq_getElem hql]; exact List.getElem_mem hql)
        have hy1 := hyr.1
        have hy2 : y < (mx : Int) := by have := HMX.out; omega
        rw [← hy] at g0
        rw [hA3] at e10
        have HY2 : Hid (x.args.take (q + 1) = x.args.take q ++ [y]) := by
         unfold Hid
         rw [List.take_succ_eq_append_getElem hql, hy, List.getD, List.getElem?_eq_getElem hql]
         rfl
        clear hy hA3 hyr
        have hyl : y.toNat < mx := by omega
        have rc := QR.out.cell hyl
        have rf := QR.out.frozen y.toNat
        have zr := QR.out.lt
        go_wp2_with fail
        case roundEnd =>
         refine ⟨⟨q + 1, by omega, by go_num, QX.out.setCell (Nat.le_refl _) _, QB.out.far HNE.out _, QR.out.set_ fun z hz => ?_⟩, by simp [intOf]; omega⟩
         rw [HY2.out]
         by_cases e : z = y.toNat
         ·subst e
          rw [if_pos rfl]
          congr 1
          refine decide_eq_true ?_
          simp only [List.mem_append, List.mem_singleton]
          exact .inr (.inr (by omega))
         ·rw [if_neg e]
          congr 1
          refine decide_eq_decide.2 ?_
          have h9 : ¬ (z : Int) = y := by omega
          simp only [List.mem_append, List.mem_singleton, h9, or_false]
       ·go_wp2_with fail
        case roundEnd =>
         obtain rfl : q = na := by omega
         refine ⟨⟨j + 1, by omega, by go_num, QX.out, QR.out.same fun z hz => ?_⟩, by simp [intOf]; omega⟩
         rw [HS.out, HSP.out, HNA.out, List.take_length, List.append_assoc]
    ·have HSA : Hid (slotsA x = []) := by unfold Hid slotsA; rw [if_neg (by omega)]
     have q3 : (x.op == 3) = false := by simpa using hop.1
     have q4 : (x.op == 4) = false := by simpa using hop.2
     clear hop
     go_wp2_with (first
      | ((with_reducible show wpList _ _ _ (Oper.mk none (.store 67 (.tmp 9) (.tmp 37)) _ _ _ _ :: _) _ _)
         refine store_new 67 _ _ rfl _ _ rfl rfl rfl rfl HZ.out (rg_one x) ?_
         intro w3 x3 B3
         have X3 := Lib.hid x3
         have BB := Lib.hid B3
         obtain ⟨e0, e1, e2, e3, e4, e5, e6, e7, e8, e9, e10⟩ := rg_cells x B3
         have zb := B3.lt
         clear B3 x3 e1 e3 e4 e5 e6 e7 e8 e9))
     clear e0 e2 e10 zb
     have HNE : Hid (wr.heap.size ≠ w1.heap.size) := by have h9 := HRW.out.lt; show _ ≠ _; omega
     have R0 : Hid (RowAt w3 w1.heap.size 4 mx (fun z => .bool (decide ((z : Int) ∈ (slotsL (f.code.take j) ++ slotsA x) ++ x.args.take 0)))) := (HRW.out.ext X3.out).same fun z hz => by rw [HSA.out, List.append_nil, List.take_zero, List.append_nil]
     have Q0 : Hid (Ext w1 w3) := HX.out.trans X3.out
     have K0 : Hid (Blk w3 wr.heap.size 67 #[.int .i64 x.op, .int .i64 x.d, .int .i64 x.a, .int .i64 x.b, .int .i64 x.ty.base, .int .i64 x.ty.bits, .string x.ty.name, .bool x.ty.opt, .bool x.ty.err, .string x.name, .slice x.A x.args.length x.cap]) := BB.out
     go_loopw [10] (fun i wq => ∃ q : Nat, q ≤ na ∧ i = .int .i64 q ∧ Ext w1 wq ∧ Blk wq wr.heap.size 67 #[.int .i64 x.op, .int .i64 x.d, .int .i64 x.a, .int .i64 x.b, .int .i64 x.ty.base, .int .i64 x.ty.bits, .string x.ty.name, .bool x.ty.opt, .bool x.ty.err, .string x.name, .slice x.A x.args.length x.cap] ∧ RowAt wq w1.heap.size 4 mx (fun z => .bool (decide ((z : Int) ∈ (slotsL (f.code.take j) ++ slotsA x) ++ x.args.take q)))) (fun i _ => na - (intOf i).toNat)
     case atStart => exact ⟨0, Nat.zero_le _, rfl, Q0.out, K0.out, R0.out⟩
     case round =>
      clear R0 Q0 K0
      obtain ⟨q, hq, rfl, qx, qb, qr⟩ := hrel
      have QX := Lib.hid qx
      have QB := Lib.hid qb
      have QR := Lib.hid qr
      obtain ⟨e0, e1, e2, e3, e4, e5, e6, e7, e8, e9, e10⟩ := rg_cells x qb
      have zb := qb.lt
      rw [← HNA.out] at e10
      clear qx qb qr e0 e1 e2 e3 e4 e5 e6 e7 e8 e9
      by_cases hlq : q < na
      ·have hql : q < x.args.length := by have := HNA.out; omega
       obtain ⟨b3, o3, hA3, hb3, g0⟩ := (HN.out.ext (X1.out.trans QX.out)).one hql
       obtain ⟨y, hy⟩ : ∃ y, y = x.args.getD q 0 := ⟨_, rfl⟩
       have hyr : 0 ≤ y ∧ y < 300 := HG.out y (by rw [hy, List.getD, List.getElem?_eq_getElem hql]; exact List.getElem_mem hql)
       have hy1 := hyr.1
       have hy2 : y < (mx : Int) := by have := HMX.out; omega
       rw [← hy] at g0
       rw [hA3] at e10
       have HY2 : Hid (x.args.take (q + 1) = x.args.take q ++ [y]) := by
        unfold Hid
        rw [List.take_succ_eq_append_getElem hql, hy, List.getD, List.getElem?_eq_getElem hql]
        rfl
       clear hy hA3 hyr
       have hyl : y.toNat < mx := by omega
       have rc := QR.out.cell hyl
       have rf := QR.out.frozen y.toNat
       have zr := QR.out.lt
       go_wp2_with fail
       case roundEnd =>
        refine ⟨⟨q + 1, by omega, by go_num, QX.out.setCell (Nat.le_refl _) _, QB.out.far HNE.out _, QR.out.set_ fun z hz => ?_⟩, by simp [intOf]; omega⟩
        rw [HY2.out]
        by_cases e : z = y.toNat
        ·subst e
         rw [if_pos rfl]
         congr 1
         refine decide_eq_true ?_
         simp only [List.mem_append, List.mem_singleton]
         exact .inr (.inr (by omega))
        ·rw [if_neg e]
         congr 1
         refine decide_eq_decide.2 ?_
         have h9 : ¬ (z : Int) = y := by omega
         simp only [List.mem_append, List.mem_singleton, h9, or_false]
      ·go_wp2_with fail
       case roundEnd =>
        obtain rfl : q = na := by omega
        refine ⟨⟨j + 1, by omega, by go_num, QX.out, QR.out.same fun z hz => ?_⟩, by simp [intOf]; omega⟩
        rw [HS.out, HSP.out, HNA.out, List.take_length, List.append_assoc]
   ·obtain rfl : j = nc := by omega
    have HR2 : Hid (RowAt wr w1.heap.size 4 mx (fun z => .bool (decide ((z : Int) ∈ slotsL f.code)))) := by
     have h := HRW.out
     rw [HNC.out, List.take_length] at h
     exact h
    clear HRW
    have hmx3 : mx ≤ 300 := by have := HMX.out; omega
    go_wp2_with fail
    clear c8 hb1
    obtain ⟨wv, rfl⟩ : ∃ wv, wv = wr := ⟨_, rfl⟩
    go_loopw [11, 12] (fun v i wq => ∃ q : Nat, q ≤ mx ∧ i = .int .i64 q ∧ wq.ownsRow wv.heap.size 3 1 v (memTo (slotsL f.code) q).length ((memTo (slotsL f.code) q).map (Value.int .i64)) ∧ Ext wv wq) (fun _ i _ => mx - (intOf i).toNat)
    case atStart => exact ⟨0, Nat.zero_le _, rfl, World.ownsRow_nil _ _ _ _, Ext.refl _⟩
    case round =>
     obtain ⟨q, hq, rfl, ow, qx⟩ := hrel
     have HO := Lib.hid ow
     have QX := Lib.hid qx
     clear ow qx
     by_cases hlq : q < mx
     ·have rc := (HR2.out.ext QX.out).cell hlq
      have zr := (HR2.out.ext QX.out).lt
      have HM := Lib.hid (memTo_succ (slotsL f.code) q)
      have hln := memTo_len (slotsL f.code) q
      by_cases hm : (q : Int) ∈ slotsL f.code
      ·have h1 : decide ((q : Int) ∈ slotsL f.code) = true := decide_eq_true hm
       rw [h1] at rc
       have HM2 : Hid (memTo (slotsL f.code) (q + 1) = memTo (slotsL f.code) q ++ [(q : Int)]) := by have h9 := HM.out; rw [if_pos hm] at h9; exact h9
       clear h1 hm HM
       go_wp2_with (first
        | (at_builtin
           refine wpList_append_nums rfl _ _ rfl wv.heap.size _ (memTo (slotsL f.code) q) rfl (own_ext HO.out ((Ext.refl _).alloc (.cells #[.int .i64 q] 3))) (some ⟨wr.heap.size, 0, none⟩) 1 [(q : Int)] rfl (nums_one wr q) ?h1 ?h2 ?_))
       case h1 => simp only [List.length_cons, List.length_nil]; omega
       case h2 => have := QX.out.size; (try simp); omega
       ·intro v' w5 ow5 g5
        have OW5 := Lib.hid ow5
        have X5 := Lib.hid ((QX.out.alloc (.cells #[.int .i64 (q : Int)] 3)).grown g5 (own_row HO.out))
        clear ow5 g5
        go_wp2_with fail
        go_roundw
        case rel => exact ⟨q + 1, by omega, by go_num, by rw [HM2.out]; simpa using OW5.out, X5.out⟩
        case measure => simp [intOf]; omega
      ·have h1 : decide ((q : Int) ∈ slotsL f.code) = false := decide_eq_false hm
       rw [h1] at rc
       have HM2 : Hid (memTo (slotsL f.code) (q + 1) = memTo (slotsL f.code) q) := by have h9 := HM.out; rw [if_neg hm, List.append_nil] at h9; exact h9
       clear h1 hm HM
       go_wp2_with fail
       case roundEnd => exact ⟨⟨q + 1, by omega, by go_num, by rw [HM2.out]; exact HO.out, QX.out⟩, by simp [intOf]; omega⟩
     ·go_wp2_with fail
      go_ret2
      obtain rfl : q = mx := by omega
      refine ⟨_, rfl, ?_, (X1.out.trans HX.out).trans QX.out⟩
      have h9 := own_ints HO.out
      rwa [HMX.out] at h9
 ·have HT : Hid (slotsR l k = []) := by
   unfold Hid slotsR
   rw [if_neg h0]
  rw [HT.out]
  generalize numE l k = a at *
  have hb : (a != 0) = true := by simpa using h0
  go_enter Tryz.func40, Tryz.ntmps40
  go_wp2_with (first
   | (go_at_call 107; refine (HK.out).mono ?_; rintro r w1 ⟨rfl, x1⟩))
  go_ret2
  exact ⟨_, rfl, IntsAt.nil _, exA⟩
end Go.Proofs.YtknaemlnhediaaaGreatDoor.c
