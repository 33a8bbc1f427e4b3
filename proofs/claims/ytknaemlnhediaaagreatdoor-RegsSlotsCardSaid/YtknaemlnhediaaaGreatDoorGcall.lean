/- Contract of regs.machine.call: it comes to what the run comes to. Conditions: right code. The program's call at each depth. Conditions: right code. -/
import Derived.Test.YtknaemlnhediaaaGreatDoorGm
import Derived.Test.YtknaemlnhediaaaGreatDoorHfn
namespace Go.Proofs.YtknaemlnhediaaaGreatDoor.c
open Go.RowKit
set_option linter.unusedVariables false
set_option maxRecDepth 100000
set_option maxHeartbeats 64000000
set_option linter.unusedSimpArgs false
/-- what call leaves -/
def GRet (m : Nat) (A : Option Addr) (len cap : Nat) (ck : Bool) (en : En) (t : Nat) (w : World) (e : Ending) (w' : World) : Prop :=
  e = .returned (.agg (enC en)) ∧ w.grownBy w' (some m) ∧ Blk w' m 122 #[.slice A len cap, .bool ck, .int .i64 t]
def GCall (l : List Rf) (A : Option Addr) (len cap : Nat) (ck : Bool) (wb : World) (m d : Nat) : Prop :=
  ∀ (k : Nat) (av : List Val) (s : Nat) (w : World) (vA : Option Addr) (vn vc : Nat) (en : En) (t : Nat), k < len → vn = av.length → av.length ≤ 300 → s ≤ 40000 → Ext wb w → Blk w m 122 #[.slice A len cap, .bool ck, .int .i64 s] → ValsAt w vA av → Run l ck (.call d k av) s en t →
    Calls Tryz.prog 141 #[.pointer (some ⟨m, 0, none⟩), .int .i64 k, .slice vA vn vc, .int .i64 d] w fun e w' => GRet m A len cap ck en t w e w'
theorem gcall_deep (l : List Rf) (A : Option Addr) (len cap : Nat) (ck : Bool) (wb : World) (m d : Nat) (hd : 30 < d) (hd2 : d ≤ 1000) : GCall l A len cap ck wb m d := by
  intro k av s w vA vn vc en t hk hvn hav hs hx hm hv hr
  obtain ⟨rfl, rfl⟩ := hr.inv_deep hd
  clear hr hvn
  have HZ : Hid ((Tryz.prog.info? 114).map (·.size) = some 15) := by unfold Hid; kernel_rfl
  have hd3 : (30 : Int) < (d : Int) := by omega
  have HM := Lib.hid hm
  clear hm hv hx
  go_enter Tryz.func141, Tryz.ntmps141
  go_wp2_with fail
  exact bodyPost_ret (results_cell_row rfl _ _ w.heap.size 114 (enC .long) (0, 0) _ rfl (Blk.new w _ _) Tryz.underlying114 rfl HZ.out) rfl ⟨rfl, ext_grown (by (with_reducible repeat first | exact Ext.refl _ | assumption | refine Ext.alloc ?_ _ | refine Ext.drew ?_ | refine Ext.trans ?_ (by assumption))) _, HM.out.alloc _⟩
theorem gcall_step (l : List Rf) (A : Option Addr) (len cap : Nat) (ck : Bool) (wb : World) (m d : Nat) (hlen : len = l.length) (hval : validR l = 0) (hA : RfAt wb A l) (hmb : wb.heap.size ≤ m) (hd : d ≤ 30) (IH : GCall l A len cap ck wb m (d + 1)) : GCall l A len cap ck wb m d := by
  intro k av s w vA vn vc en t hk hvn hav hs hx hm hv hr
  have hr := hr.inv_enter hd
  have hvp := validR_parts hval
  have hl48 : len ≤ 48 := by omega
  obtain ⟨f, hf⟩ : ∃ f, f = l.getD k default := ⟨_, rfl⟩
  have hgf := (hvp.2.2 k (by omega)).1
  rw [← hf] at hgf
  obtain ⟨b, off, hAe, hb, c0, c1, c2, c3, c4, c5, c6, c7, c8, hcd⟩ := (hA.ext hx).at_ (k := k) (by omega) hf
  have hcode := hgf.few
  obtain ⟨nc, hnc⟩ : ∃ nc, nc = f.code.length := ⟨_, rfl⟩
  have con : CCon w m w.heap.size (w.heap.size + 1) (w.heap.size + 1 + 1) (w.heap.size + 1 + 1 + 1) := ⟨hm.lt, Nat.le_refl _, by omega, by omega, by omega⟩
  have C0 : Hid (CSt w m w.heap.size (w.heap.size + 1) (w.heap.size + 1 + 1) (w.heap.size + 1 + 1 + 1) A len cap ck f s (fun _ => default) (fun _ => default) ((((w.alloc (.cells endZ 114)).alloc (.cells (rfA f) 59)).alloc (.cells Tryz.zeroCells252 252)).alloc (.cells Tryz.zeroCells253 253))) := by
    refine ⟨ext_grown (by (with_reducible repeat first | exact Ext.refl _ | assumption | refine Ext.alloc ?_ _ | refine Ext.drew ?_ | refine Ext.trans ?_ (by assumption))) _, ((((hm.alloc _).alloc _).alloc _).alloc _), ((((Blk.new w _ _).alloc _).alloc _).alloc _), (((blk2 w _ _ _).alloc _).alloc _), ?_, ?_⟩
    · rw [zero6]
      exact VRow.zeros ((blk3 w _ _ _ _).alloc _)
    · rw [zero300]
      refine VRow.zeros ?_
      have h := Blk.new (((w.alloc (.cells endZ 114)).alloc (.cells (rfA f) 59)).alloc (.cells Tryz.zeroCells252 252)) 253 (zvals 300)
      rwa [size_alloc, size_alloc, size_alloc] at h
  have hxw : Ext w ((((w.alloc (.cells endZ 114)).alloc (.cells (rfA f) 59)).alloc (.cells Tryz.zeroCells252 252)).alloc (.cells Tryz.zeroCells253 253)) := by (with_reducible repeat first | exact Ext.refl _ | assumption | refine Ext.alloc ?_ _ | refine Ext.drew ?_ | refine Ext.trans ?_ (by assumption))
  have HV := Lib.hid (hv.ext hxw)
  have m0 := hm.cell 0
  simp only [List.getElem?_toArray, List.getElem?_cons_zero] at m0
  have zm := hm.lt
  have HR := Lib.hid hr
  have HCON := Lib.hid con
  have HG := Lib.hid hgf
  have HF := Lib.hid hf
  have HCD := Lib.hid hcd
  have HVP := Lib.hid hvp
  have HLN := Lib.hid hlen
  have HAE := Lib.hid hAe
  have HX := Lib.hid hx
  have HIH := Lib.hid IH
  have HA := Lib.hid hA
  have HNC := Lib.hid hnc
  subst hvn
  rw [hAe] at m0
  clear hAe
  have hd3 : ¬ (30 : Int) < (d : Int) := by omega
  have HU : Hid (Tryz.prog.underlying 30 = some (.slice 37)) := by unfold Hid; kernel_rfl
  have HZ : Hid ((Tryz.prog.info? 37).map (·.size) = some 13) := by unfold Hid; kernel_rfl
  have HM0 := Lib.hid hmb
  clear hr con hgf hf hcd hvp hlen hx IH hA hnc hm hv hxw hval hmb
  go_enter Tryz.func141, Tryz.ntmps141
  go_wp2_with fail
  change Hid (CSt w m w.heap.size (w.heap.size + 1) (w.heap.size + 1 + 1) (w.heap.size + 1 + 1 + 1) A len cap ck f s (fun _ => default) (fun _ => default) ((((w.alloc (.cells #[.int .i64 0, .int .i64 0, .int .i64 0, .int .i64 0, .string ⟨#[]⟩, .bool false, .bool false, .int .i64 0, .bool false, .string ⟨#[]⟩, .int .i64 0, .int .i64 0, .string ⟨#[]⟩, .bool false, .bool false] 114)).alloc (.cells #[.string f.name, .int .i64 f.params, .int .i64 f.regs, .int .i64 f.ty.base, .int .i64 f.ty.bits, .string f.ty.name, .bool f.ty.opt, .bool f.ty.err, .slice f.A f.code.length f.cap] 59)).alloc (.cells Tryz.zeroCells252 252)).alloc (.cells Tryz.zeroCells253 253))) at C0
  change Hid (ValsAt ((((w.alloc (.cells #[.int .i64 0, .int .i64 0, .int .i64 0, .int .i64 0, .string ⟨#[]⟩, .bool false, .bool false, .int .i64 0, .bool false, .string ⟨#[]⟩, .int .i64 0, .int .i64 0, .string ⟨#[]⟩, .bool false, .bool false] 114)).alloc (.cells #[.string f.name, .int .i64 f.params, .int .i64 f.regs, .int .i64 f.ty.base, .int .i64 f.ty.bits, .string f.ty.name, .bool f.ty.opt, .bool f.ty.err, .slice f.A f.code.length f.cap] 59)).alloc (.cells Tryz.zeroCells252 252)).alloc (.cells Tryz.zeroCells253 253)) vA av) at HV
  generalize ((((w.alloc (.cells #[.int .i64 0, .int .i64 0, .int .i64 0, .int .i64 0, .string ⟨#[]⟩, .bool false, .bool false, .int .i64 0, .bool false, .string ⟨#[]⟩, .int .i64 0, .int .i64 0, .string ⟨#[]⟩, .bool false, .bool false] 114)).alloc (.cells #[.string f.name, .int .i64 f.params, .int .i64 f.regs, .int .i64 f.ty.base, .int .i64 f.ty.bits, .string f.ty.name, .bool f.ty.opt, .bool f.ty.err, .slice f.A f.code.length f.cap] 59)).alloc (.cells Tryz.zeroCells252 252)).alloc (.cells Tryz.zeroCells253 253)) = w4 at C0 HV ⊢
  generalize w.heap.size + 1 + 1 + 1 = zs at C0 HCON ⊢
  generalize w.heap.size + 1 + 1 = zr at C0 HCON ⊢
  generalize w.heap.size + 1 = zf at C0 HCON ⊢
  obtain ⟨zo, hzo⟩ : ∃ zo, zo = w.heap.size := ⟨_, rfl⟩
  rw [← hzo] at C0 HCON ⊢
  have hcopy := fun ty => run_copy_vals (P := Tryz.prog) w4 30 30 ty 37 zs 300 300 vA vc av HU.out HZ.out hav HV.out C0.out.ss.whole
  simp only [hcopy, Result.andThen_ok, Oper.upon_value]
  have C5 : Hid (CSt w m zo zf zr zs A len cap ck f s (fun _ => default) (fun i => av.getD i default) (w4.setCells zs 0 (flatV av))) := by
    have h := CSt.fillS HCON.out C0.out av hav
    exact h
  generalize w4.setCells zs 0 (flatV av) = w5 at C5 ⊢
  clear hcopy C0 HV hzo zm m0 c0 c1 c2 c3 c4 c5 c6 c7 c8
  go_wp2_with fail
  go_loopg [12] 40001 (fun n v wr => ∃ (p : Nat) (R S : Nat → Val) (s' : Nat), v = .int .i64 p ∧ p < nc ∧ s' ≤ 40000 ∧ 40001 - s' ≤ n ∧ CSt w m zo zf zr zs A len cap ck f s' R S wr ∧ Run l ck (.at_ d k p R S) s' en t)
  case atStart => exact ⟨0, _, _, s, rfl, by have := HG.out.pos; have := HNC.out; omega, hs, by omega, C5.out, HR.out⟩
  case round =>
    clear C5 HR hs
    obtain ⟨p, R, S, s, rfl, hp, hs, hgk, hc, hr⟩ := hrel
    have HC := Lib.hid hc
    have HR := Lib.hid hr
    have con := HCON.out
    have zm := hc.mm.lt
    have m0 := hc.mm.cell 0
    have m2 := hc.mm.cell 2
    have fz := hc.mm.frozen 2
    simp only [List.getElem?_toArray, List.getElem?_cons_zero, List.getElem?_cons_succ] at m0 m2
    by_cases hfull : s = 40000
    · have hfull2 : ((s : Int) == 40000) = true := by rw [hfull]; rfl
      obtain ⟨he, ht⟩ := hr.inv_full (by omega)
      subst he ht
      have HZE : Hid ((Tryz.prog.info? 114).map (·.size) = some 15) := by unfold Hid; kernel_rfl
      clear hc hr
      go_wp2_with (first
        | ((with_reducible show wpList _ _ _ (Oper.mk none (.store 114 (.tmp 8) _) _ _ _ _ :: _) _ _); refine wpList_store_row rfl 114 _ _ rfl zo rfl 114 endZ (enC .long) HC.out.oo rfl rfl (enC_one _) HZE.out ?_))
      exact bodyPost_ret (results_cell_row rfl _ _ zo 114 (enC .long) (0, 0) _ rfl (HC.out.oo.row _) Tryz.underlying114 rfl HZE.out) rfl (CSt.ret con HC.out .long)
    · have hfull2 : ((s : Int) == 40000) = false := by rw [beq_eq_false_iff_ne]; omega
      have hs1 : IntKind.i64.wrap ((s : Int) + 1) = ((s + 1 : Nat) : Int) := by rw [IntWalk.i64_in _ (by omega)]; omega
      obtain ⟨x, hxx⟩ : ∃ x, x = f.code.getD p default := ⟨_, rfl⟩
      have hpl : p < f.code.length := by have := HNC.out; omega
      have hxb : Ext wb wr := HX.out.grown hc.gr (fun k' e => by have := Option.some.inj e; have := HM0.out; omega)
      obtain ⟨bc, oc, hac, hbc, d0, d1, d2, d3, d4, d5, d6, d7, d8, d9, d10, hna⟩ := ((HA.out.sub f (by rw [HF.out]; exact getD_mem (by have := HLN.out; omega))).ext hxb).at_ (k := p) hpl hxx
      obtain ⟨bc2, oc2, hac2, hbc2, _⟩ := (HA.out.sub f (by rw [HF.out]; exact getD_mem (by have := HLN.out; omega))).at_ (k := p) hpl hxx
      rw [hac] at hac2
      cases hac2
      have hnec : bc ≠ m := by have := HM0.out; omega
      have f8 := hc.ff.cell 8
      have zf1 := hc.ff.lt
      unfold rfA at f8
      simp only [List.getElem?_toArray, List.getElem?_cons_zero, List.getElem?_cons_succ] at f8
      rw [hac, ← HNC.out] at f8
      have hnef : zf ≠ m := by have := con.lt; have := con.o; have := con.f; omega
      have HXX := Lib.hid hxx
      have HNA := Lib.hid hna
      have hzs := hc.ss.lt
      have C6 : Hid (CSt w m zo zf zr zs A len cap ck f (s + 1) R S ((wr.setCell ⟨m, 2, none⟩ (.int .i64 ((s : Int) + 1))).alloc (.cells (rgA x) 67))) := (hc.step con (s + 1)).ext' ((Ext.refl _).alloc _)
      have BX : Hid (Blk ((wr.setCell ⟨m, 2, none⟩ (.int .i64 ((s : Int) + 1))).alloc (.cells (rgA x) 67)) wr.heap.size 67 (rgA x)) := by
        have h := Blk.new (wr.setCell ⟨m, 2, none⟩ (.int .i64 ((s : Int) + 1))) 67 (rgA x)
        rwa [show (wr.setCell ⟨m, 2, none⟩ (.int .i64 ((s : Int) + 1))).heap.size = wr.heap.size by simp] at h
      have NAX : Hid (NumsAt ((wr.setCell ⟨m, 2, none⟩ (.int .i64 ((s : Int) + 1))).alloc (.cells (rgA x) 67)) x.A x.args) := by
        exact NumsAt.ext ((HA.out.sub f (by rw [HF.out]; exact getD_mem (by have := HLN.out; omega))).sub x (by rw [hxx]; exact getD_mem hpl)) (HX.out.grown C6.out.gr (fun k' e => by have := Option.some.inj e; have := HM0.out; omega))
      have HGX : Hid (GoodX l f x) := HG.out.at_ (by rw [hxx]; exact getD_mem hpl)
      clear hc hr hxx hna hac hxb
      go_wp2_with fail
      change Hid (CSt w m zo zf zr zs A len cap ck f (s + 1) R S ((wr.setCell ⟨m, 2, none⟩ (.int .i64 ((s : Int) + 1))).alloc (.cells #[.int .i64 x.op, .int .i64 x.d, .int .i64 x.a, .int .i64 x.b, .int .i64 x.ty.base, .int .i64 x.ty.bits, .string x.ty.name, .bool x.ty.opt, .bool x.ty.err, .string x.name, .slice x.A x.args.length x.cap] 67))) at C6
      change Hid (Blk ((wr.setCell ⟨m, 2, none⟩ (.int .i64 ((s : Int) + 1))).alloc (.cells #[.int .i64 x.op, .int .i64 x.d, .int .i64 x.a, .int .i64 x.b, .int .i64 x.ty.base, .int .i64 x.ty.bits, .string x.ty.name, .bool x.ty.opt, .bool x.ty.err, .string x.name, .slice x.A x.args.length x.cap] 67)) wr.heap.size 67 (rgA x)) at BX
      change Hid (NumsAt ((wr.setCell ⟨m, 2, none⟩ (.int .i64 ((s : Int) + 1))).alloc (.cells #[.int .i64 x.op, .int .i64 x.d, .int .i64 x.a, .int .i64 x.b, .int .i64 x.ty.base, .int .i64 x.ty.bits, .string x.ty.name, .bool x.ty.opt, .bool x.ty.err, .string x.name, .slice x.A x.args.length x.cap] 67)) x.A x.args) at NAX
      generalize ((wr.setCell ⟨m, 2, none⟩ (.int .i64 ((s : Int) + 1))).alloc (.cells #[.int .i64 x.op, .int .i64 x.d, .int .i64 x.a, .int .i64 x.b, .int .i64 x.ty.base, .int .i64 x.ty.bits, .string x.ty.name, .bool x.ty.opt, .bool x.ty.err, .string x.name, .slice x.A x.args.length x.cap] 67)) = w6 at C6 BX NAX ⊢
      generalize wr.heap.size = bx at BX hzs ⊢
      clear d0 d1 d2 d3 d4 d5 d6 d7 d8 d9 d10 m0 m2 fz f8 zf1 hnef hnec hfull2 hbc hbc2 zm hs1
      obtain ⟨d0, d1, d2, d3, d4, d5, d6, d7, d8, d9, d10⟩ := rgA_cells BX.out
      have zx := BX.out.lt
      have hpb : (p : Int) ≤ 6000 := by have := HNC.out; omega
      rcases (show (x.op = 0) ∨ (x.op = 1) ∨ (x.op = 2) ∨ (x.op = 3) ∨ (x.op = 4) ∨ (x.op = 15) ∨ (x.op = 16) ∨ (x.op = 17) ∨ (x.op = 14) ∨ (5 ≤ x.op ∧ x.op ≤ 9) ∨ (105 ≤ x.op ∧ x.op ≤ 123) ∨ (x.op = 10 ∨ x.op = 11 ∨ x.op = 12 ∨ x.op = 13) by have := HGX.out.op; omega) with hop | hop | hop | hop | hop | hop | hop | hop | hop | hop | hop | hop
      · as_aux_lemma =>
          have q0 : (x.op == 0) = true := (by rw [hop]; rfl); have q1 : (x.op == 1) = false := (by rw [hop]; rfl); have q2 : (x.op == 2) = false := (by rw [hop]; rfl); have q3 : (x.op == 3) = false := (by rw [hop]; rfl); have q4 : (x.op == 4) = false := (by rw [hop]; rfl); have q16 : (x.op == 16) = false := (by rw [hop]; rfl); have q15 : (x.op == 15) = false := (by rw [hop]; rfl); have q17 : (x.op == 17) = false := (by rw [hop]; rfl); have q14 : (x.op == 14) = false := (by rw [hop]; rfl); have q5 : (x.op == 5) = false := (by rw [hop]; rfl); have q6 : (x.op == 6) = false := (by rw [hop]; rfl); have q7 : (x.op == 7) = false := (by rw [hop]; rfl); have q8 : (x.op == 8) = false := (by rw [hop]; rfl); have q9 : (x.op == 9) = false := (by rw [hop]; rfl)
          have HLD : Hid (leadsR x.op = false) := by unfold Hid leadsR; rw [hop]; rfl
          have hp1 : p + 1 < nc := by
            have h := HG.out.next (p := p) (by have := HNC.out; omega) (by rw [← HXX.out]; unfold goesR; rw [hop]; rfl)
            have := HNC.out
            omega
          have hdd := HGX.out.d
          rw [show (partsR x.op).1 = 1 by rw [hop]; rfl] at hdd
          have hdr := isPartB_reg hdd
          have hg6 := HG.out.reg
          obtain ⟨r, hr6⟩ : ∃ r : Nat, x.d = r := ⟨x.d.toNat, by omega⟩
          have hr7 : r < 6 := by omega
          have hr9 : (r : Int) < 6 := by omega
          have hr8 : x.d.toNat = r := by omega
          have HR1 := Lib.hid (HR.out.inv_go (by omega) (show stepF ck ((l.getD k default).code.getD p default) p R S = .go (p + 1) (upd R x.d.toNat (nv (wrapT x.ty x.a))) S by rw [← HF.out, ← HXX.out]; unfold stepF; simp only [hop]; rfl))
          rw [hr8] at HR1
          go_wp2_with (first
            | (go_at_call 163; refine (gleads_any x.op _).mono ?_; rw [HLD.out]; rintro r w' ⟨rfl, rfl⟩))
          obtain ⟨N, hN⟩ : ∃ N, wrapT x.ty x.a = N := ⟨_, rfl⟩
          rw [hN] at HR1
          have HW : Hid (∀ w', Calls Tryz.prog 206 #[.agg #[.int .i64 x.ty.base, .int .i64 x.ty.bits, .string x.ty.name, .bool x.ty.opt, .bool x.ty.err], .int .i64 x.a] w' fun e w'' => e = .returned (.int .i64 N) ∧ Ext w' w'') := fun w' => by
            have h := gwrap_any x.ty x.a w' (HGX.out.row hop)
            rwa [hN] at h
          clear hN
          have HC : Hid (∀ (l : Array Bool) (w' : World), l.getD 9 false = false → RSt 10 9 w m zo zf zr zs A len cap ck f (s + 1) R S (upd R r (nv N)) S bx x l w' → Calls Tryz.prog 206 #[.agg #[.int .i64 x.ty.base, .int .i64 x.ty.bits, .string x.ty.name, .bool x.ty.opt, .bool x.ty.err], .int .i64 x.a] w' fun e w'' => e = .returned (.int .i64 N) ∧ RSt 10 9 w m zo zf zr zs A len cap ck f (s + 1) R S (upd R r (nv N)) S bx x l w'') := fun l w' _ h => (HW.out w').mono fun e w'' q => ⟨q.1, h.ext' q.2⟩
          have HD := Lib.hid (cells_of (k := 9) (F := RSt 10 9 w m zo zf zr zs A len cap ck f (s + 1) R S (upd R r (nv N)) S bx x) (fun l w' h => h.2.2) hr6 rfl rfl)
          have HST : ∀ (i : Nat) (_ : i ≠ 9 := by decide) (l : Array Bool) (w' : World), RSt 10 9 w m zo zf zr zs A len cap ck f (s + 1) R S (upd R r (nv N)) S bx x (l.setIfInBounds i true) w' ↔ RSt 10 9 w m zo zf zr zs A len cap ck f (s + 1) R S (upd R r (nv N)) S bx x l w' := fun i hi l w' => RSt.same hi l w'
          have hzb : zs < bx := hzs
          clear d0 d1 d2 d3 d4 d5 d6 d7 d8 d9 d10 zx
          refine flow_begin (RSt 10 9 w m zo zf zr zs A len cap ck f (s + 1) R S (upd R r (nv N)) S bx x) #[false, false, false, false, false, false, false, false, false, false] rfl (by kernel_rfl) (fun _ _ _ _ _ h => h) ((RSt.start C6.out BX.out rfl rfl)) (fun HQ => ?_)
          (refine tkK 0 9 83 ?_ rfl (by kernel_rfl) HQ (HST 0) (by rfl) (fun l w' hlk hF => ?_) ?_; rotate_left; (focus (have hq := HD.out _ hlk hF; go_simp; try with_reducible rfl)); try simp only [putL, List.set])
          (refine tkK 1 9 84 ?_ rfl (by kernel_rfl) HQ (HST 1) (by rfl) (fun l w' hlk hF => ?_) ?_; rotate_left; (focus (have hq := HD.out _ hlk hF; go_simp; try with_reducible rfl)); try simp only [putL, List.set])
          (refine tkK 2 9 85 ?_ rfl (by kernel_rfl) HQ (HST 2) (by rfl) (fun l w' hlk hF => ?_) ?_; rotate_left; (focus (have hq := HD.out _ hlk hF; go_simp; try with_reducible rfl)); try simp only [putL, List.set])
          (refine tkK 3 9 86 ?_ rfl (by kernel_rfl) HQ (HST 3) (by rfl) (fun l w' hlk hF => ?_) ?_; rotate_left; (focus (have hq := HD.out _ hlk hF; go_simp; try with_reducible rfl)); try simp only [putL, List.set])
          (refine tkK 4 9 87 ?_ rfl (by kernel_rfl) HQ (HST 4) (by rfl) (fun l w' hlk hF => ?_) ?_; rotate_left; (focus (have hq := HD.out _ hlk hF; go_simp; try with_reducible rfl)); try simp only [putL, List.set])
          (refine tkK 5 9 88 ?_ rfl (by kernel_rfl) HQ (HST 5) (by rfl) (fun l w' hlk hF => ?_) ?_; rotate_left; (focus (have hq := HD.out _ hlk hF; go_simp; try with_reducible rfl)); try simp only [putL, List.set])
          (refine tcK 6 9 89 rfl (by kernel_rfl) HQ (HST 6) (by rfl) (fun l w' hlk hF => ?_) ((HC.out)) ?_; (focus (have hq := HD.out _ hlk hF; go_simp; try simp only [enters_gwrap _ _])); try simp only [putL, List.set])
          (refine tkK 7 9 90 ?_ rfl (by kernel_rfl) HQ (HST 7) (by rfl) (fun l w' hlk hF => ?_) ?_; rotate_left; (focus (have hq := HD.out _ hlk hF; go_simp; try with_reducible rfl)); try simp only [putL, List.set])
          (refine tkK 8 9 91 ?_ rfl (by kernel_rfl) HQ (HST 8) (by rfl) (fun l w' hlk hF => ?_) ?_; rotate_left; (focus (have hq := HD.out _ hlk hF; go_simp; try with_reducible rfl)); try simp only [putL, List.set])
          refine flow_put (i := 9) (oi := ⟨none, _, _, _, _, none⟩) rfl rfl (stores_mid (i := 9) rfl 37 _ _ rfl zr (r * 13) (nv N).cells.toArray rfl rfl (fun l w' h => h.2.1.rr.there hr7) HZ.out (Val.all_one _) (fun l w' h => RSt.putR con hzb hr7 _ (by decide) h)) (by kernel_rfl) ?_
          refine flow_done (by kernel_rfl) ?_
          intro w7 hm7
          obtain ⟨c7, bx7⟩ := RSt.done hm7 (by rfl)
          have C7 := Lib.hid c7
          have BX7 := Lib.hid bx7
          clear c7 bx7 hm7 HD HST HQ
          go_wp2_with fail
          go_roundg (gk - 1)
          case measure => omega
          case rel => exact ⟨(p + 1), _, _, s + 1, by go_num, hp1, by omega, by omega, C7.out, HR1.out⟩
      · as_aux_lemma =>
          have q0 : (x.op == 0) = false := (by rw [hop]; rfl); have q1 : (x.op == 1) = true := (by rw [hop]; rfl); have q2 : (x.op == 2) = false := (by rw [hop]; rfl); have q3 : (x.op == 3) = false := (by rw [hop]; rfl); have q4 : (x.op == 4) = false := (by rw [hop]; rfl); have q16 : (x.op == 16) = false := (by rw [hop]; rfl); have q15 : (x.op == 15) = false := (by rw [hop]; rfl); have q17 : (x.op == 17) = false := (by rw [hop]; rfl); have q14 : (x.op == 14) = false := (by rw [hop]; rfl); have q5 : (x.op == 5) = false := (by rw [hop]; rfl); have q6 : (x.op == 6) = false := (by rw [hop]; rfl); have q7 : (x.op == 7) = false := (by rw [hop]; rfl); have q8 : (x.op == 8) = false := (by rw [hop]; rfl); have q9 : (x.op == 9) = false := (by rw [hop]; rfl)
          have HLD : Hid (leadsR x.op = false) := by unfold Hid leadsR; rw [hop]; rfl
          have hp1 : p + 1 < nc := by
            have h := HG.out.next (p := p) (by have := HNC.out; omega) (by rw [← HXX.out]; unfold goesR; rw [hop]; rfl)
            have := HNC.out
            omega
          have hdd := HGX.out.d
          rw [show (partsR x.op).1 = 1 by rw [hop]; rfl] at hdd
          have hdr := isPartB_reg hdd
          have hg6 := HG.out.reg
          obtain ⟨r, hr6⟩ : ∃ r : Nat, x.d = r := ⟨x.d.toNat, by omega⟩
          have hr7 : r < 6 := by omega
          have hr9 : (r : Int) < 6 := by omega
          have hr8 : x.d.toNat = r := by omega
          have HR1 := Lib.hid (HR.out.inv_go (by omega) (show stepF ck ((l.getD k default).code.getD p default) p R S = .go (p + 1) (upd R x.d.toNat (pv 0 true ⟨#[]⟩)) S by rw [← HF.out, ← HXX.out]; unfold stepF; simp only [hop]; rfl))
          rw [hr8] at HR1
          rw [hr6] at d1
          go_wp2_with (first
            | (go_at_call 163; refine (gleads_any x.op _).mono ?_; rw [HLD.out]; rintro r w' ⟨rfl, rfl⟩)
            | ((with_reducible show wpList _ _ _ (Oper.mk none (.store 37 (.tmp 97) _) _ _ _ _ :: _) _ _); refine wpList_store_mid rfl 37 _ _ rfl zr (r * 13) (pv 0 true ⟨#[]⟩).cells.toArray rfl rfl (C6.out.rr.there hr7) HZ.out (Val.all_one _) ?_))
          have C7 := Lib.hid (C6.out.setR con hr7 (pv 0 true ⟨#[]⟩))
          go_roundg (gk - 1)
          case measure => omega
          case rel => exact ⟨(p + 1), _, _, s + 1, by go_num, hp1, by omega, by omega, C7.out, HR1.out⟩
      · as_aux_lemma =>
          have q0 : (x.op == 0) = false := (by rw [hop]; rfl); have q1 : (x.op == 1) = false := (by rw [hop]; rfl); have q2 : (x.op == 2) = true := (by rw [hop]; rfl); have q3 : (x.op == 3) = false := (by rw [hop]; rfl); have q4 : (x.op == 4) = false := (by rw [hop]; rfl); have q16 : (x.op == 16) = false := (by rw [hop]; rfl); have q15 : (x.op == 15) = false := (by rw [hop]; rfl); have q17 : (x.op == 17) = false := (by rw [hop]; rfl); have q14 : (x.op == 14) = false := (by rw [hop]; rfl); have q5 : (x.op == 5) = false := (by rw [hop]; rfl); have q6 : (x.op == 6) = false := (by rw [hop]; rfl); have q7 : (x.op == 7) = false := (by rw [hop]; rfl); have q8 : (x.op == 8) = false := (by rw [hop]; rfl); have q9 : (x.op == 9) = false := (by rw [hop]; rfl)
          have HLD : Hid (leadsR x.op = false) := by unfold Hid leadsR; rw [hop]; rfl
          have hp1 : p + 1 < nc := by
            have h := HG.out.next (p := p) (by have := HNC.out; omega) (by rw [← HXX.out]; unfold goesR; rw [hop]; rfl)
            have := HNC.out
            omega
          have hdd := HGX.out.d
          rw [show (partsR x.op).1 = 1 by rw [hop]; rfl] at hdd
          have hdr := isPartB_reg hdd
          have hg6 := HG.out.reg
          obtain ⟨r, hr6⟩ : ∃ r : Nat, x.d = r := ⟨x.d.toNat, by omega⟩
          have hr7 : r < 6 := by omega
          have hr9 : (r : Int) < 6 := by omega
          have hr8 : x.d.toNat = r := by omega
          have haa := HGX.out.a
          rw [show (partsR x.op).2.1 = 1 by rw [hop]; rfl] at haa
          have har := isPartB_reg haa
          have hg6a := HG.out.reg
          obtain ⟨ra, ha6⟩ : ∃ r : Nat, x.a = r := ⟨x.a.toNat, by omega⟩
          have ha7 : ra < 6 := by omega
          have ha9 : (ra : Int) < 6 := by omega
          have ha8 : x.a.toNat = ra := by omega
          have HR1 := Lib.hid (HR.out.inv_go (by omega) (show stepF ck ((l.getD k default).code.getD p default) p R S = .go (p + 1) (upd R x.d.toNat (R x.a.toNat)) S by rw [← HF.out, ← HXX.out]; unfold stepF; simp only [hop]; rfl))
          rw [hr8, ha8] at HR1
          go_wp2_with (first
            | (go_at_call 163; refine (gleads_any x.op _).mono ?_; rw [HLD.out]; rintro r w' ⟨rfl, rfl⟩))
          have HD := Lib.hid (cells_of (k := 7) (F := RSt 8 7 w m zo zf zr zs A len cap ck f (s + 1) R S (upd R r (R ra)) S bx x) (fun l w' h => h.2.2) hr6 ha6 rfl)
          have HST : ∀ (i : Nat) (_ : i ≠ 7 := by decide) (l : Array Bool) (w' : World), RSt 8 7 w m zo zf zr zs A len cap ck f (s + 1) R S (upd R r (R ra)) S bx x (l.setIfInBounds i true) w' ↔ RSt 8 7 w m zo zf zr zs A len cap ck f (s + 1) R S (upd R r (R ra)) S bx x l w' := fun i hi l w' => RSt.same hi l w'
          have hzb : zs < bx := hzs
          clear d0 d1 d2 d3 d4 d5 d6 d7 d8 d9 d10 zx
          refine flow_begin (RSt 8 7 w m zo zf zr zs A len cap ck f (s + 1) R S (upd R r (R ra)) S bx x) #[false, false, false, false, false, false, false, false] rfl (by kernel_rfl) (fun _ _ _ _ _ h => h) ((RSt.start C6.out BX.out rfl rfl)) (fun HQ => ?_)
          (refine tkK 0 7 100 ?_ rfl (by kernel_rfl) HQ (HST 0) (by rfl) (fun l w' hlk hF => ?_) ?_; rotate_left; (focus (have hq := HD.out _ hlk hF; go_simp; try with_reducible rfl)); try simp only [putL, List.set])
          (refine tkK 1 7 101 ?_ rfl (by kernel_rfl) HQ (HST 1) (by rfl) (fun l w' hlk hF => ?_) ?_; rotate_left; (focus (have hq := HD.out _ hlk hF; go_simp; try with_reducible rfl)); try simp only [putL, List.set])
          (refine tkK 2 7 102 ?_ rfl (by kernel_rfl) HQ (HST 2) (by rfl) (fun l w' hlk hF => ?_) ?_; rotate_left; (focus (have hq := HD.out _ hlk hF; go_simp; try with_reducible rfl)); try simp only [putL, List.set])
          (refine tkK 3 7 103 ?_ rfl (by kernel_rfl) HQ (HST 3) (by rfl) (fun l w' hlk hF => ?_) ?_; rotate_left; (focus (have hq := HD.out _ hlk hF; go_simp; try with_reducible rfl)); try simp only [putL, List.set])
          (refine tkK 4 7 104 ?_ rfl (by kernel_rfl) HQ (HST 4) (by rfl) (fun l w' hlk hF => ?_) ?_; rotate_left; (focus (have hq := HD.out _ hlk hF; go_simp; try with_reducible rfl)); try simp only [putL, List.set])
          (refine flow_takeK (i := 5) (k := 7) (t := 105) (oi := ⟨some 105, _, _, _, _, _⟩) (ok := ⟨none, _, _, _, _, _⟩) rfl rfl (by kernel_rfl) (by kernel_rfl) (by decide) rfl (by kernel_rfl) (by kernel_rfl) (by kernel_rfl) HQ (HST 5) (does_loadK (by rfl) 37 _ rfl (zr) (ra * 13) rfl ((R ra).cells) _ (fun l w' hlk hF => (RSt.before hlk hF).rr.range ha7) Tryz.underlying37 rfl HZ.out) ?_; try simp only [putL, List.set])
          (refine tkK 6 7 106 ?_ rfl (by kernel_rfl) HQ (HST 6) (by rfl) (fun l w' hlk hF => ?_) ?_; rotate_left; (focus (have hq := HD.out _ hlk hF; go_simp; try with_reducible rfl)); try simp only [putL, List.set])
          refine flow_put (i := 7) (oi := ⟨none, _, _, _, _, none⟩) rfl rfl (stores_mid (i := 7) rfl 37 _ _ rfl zr (r * 13) (R ra).cells.toArray rfl rfl (fun l w' h => h.2.1.rr.there hr7) HZ.out (Val.all_one _) (fun l w' h => RSt.putR con hzb hr7 _ (by decide) h)) (by kernel_rfl) ?_
          refine flow_done (by kernel_rfl) ?_
          intro w7 hm7
          obtain ⟨c7, bx7⟩ := RSt.done hm7 (by rfl)
          have C7 := Lib.hid c7
          have BX7 := Lib.hid bx7
          clear c7 bx7 hm7 HD HST HQ
          go_wp2_with fail
          go_roundg (gk - 1)
          case measure => omega
          case rel => exact ⟨(p + 1), _, _, s + 1, by go_num, hp1, by omega, by omega, C7.out, HR1.out⟩
      · as_aux_lemma =>
          have q0 : (x.op == 0) = false := (by rw [hop]; rfl); have q1 : (x.op == 1) = false := (by rw [hop]; rfl); have q2 : (x.op == 2) = false := (by rw [hop]; rfl); have q3 : (x.op == 3) = true := (by rw [hop]; rfl); have q4 : (x.op == 4) = false := (by rw [hop]; rfl); have q16 : (x.op == 16) = false := (by rw [hop]; rfl); have q15 : (x.op == 15) = false := (by rw [hop]; rfl); have q17 : (x.op == 17) = false := (by rw [hop]; rfl); have q14 : (x.op == 14) = false := (by rw [hop]; rfl); have q5 : (x.op == 5) = false := (by rw [hop]; rfl); have q6 : (x.op == 6) = false := (by rw [hop]; rfl); have q7 : (x.op == 7) = false := (by rw [hop]; rfl); have q8 : (x.op == 8) = false := (by rw [hop]; rfl); have q9 : (x.op == 9) = false := (by rw [hop]; rfl)
          have HLD : Hid (leadsR x.op = false) := by unfold Hid leadsR; rw [hop]; rfl
          have hp1 : p + 1 < nc := by
            have h := HG.out.next (p := p) (by have := HNC.out; omega) (by rw [← HXX.out]; unfold goesR; rw [hop]; rfl)
            have := HNC.out
            omega
          have hdd := HGX.out.d
          rw [show (partsR x.op).1 = 1 by rw [hop]; rfl] at hdd
          have hdr := isPartB_reg hdd
          have hg6 := HG.out.reg
          obtain ⟨r, hr6⟩ : ∃ r : Nat, x.d = r := ⟨x.d.toNat, by omega⟩
          have hr7 : r < 6 := by omega
          have hr9 : (r : Int) < 6 := by omega
          have hr8 : x.d.toNat = r := by omega
          have haa := HGX.out.a
          rw [show (partsR x.op).2.1 = 2 by rw [hop]; rfl] at haa
          have har := isPartB_slot haa
          obtain ⟨ra, ha6⟩ : ∃ r : Nat, x.a = r := ⟨x.a.toNat, by omega⟩
          have ha7 : ra < 300 := by omega
          have ha9 : (ra : Int) < 300 := by omega
          have ha8 : x.a.toNat = ra := by omega
          have HR1 := Lib.hid (HR.out.inv_go (by omega) (show stepF ck ((l.getD k default).code.getD p default) p R S = .go (p + 1) (upd R x.d.toNat (S x.a.toNat)) S by rw [← HF.out, ← HXX.out]; unfold stepF; simp only [hop]; rfl))
          rw [hr8, ha8] at HR1
          go_wp2_with (first
            | (go_at_call 163; refine (gleads_any x.op _).mono ?_; rw [HLD.out]; rintro r w' ⟨rfl, rfl⟩))
          have HD := Lib.hid (cells_of (k := 7) (F := RSt 8 7 w m zo zf zr zs A len cap ck f (s + 1) R S (upd R r (S ra)) S bx x) (fun l w' h => h.2.2) hr6 ha6 rfl)
          have HST : ∀ (i : Nat) (_ : i ≠ 7 := by decide) (l : Array Bool) (w' : World), RSt 8 7 w m zo zf zr zs A len cap ck f (s + 1) R S (upd R r (S ra)) S bx x (l.setIfInBounds i true) w' ↔ RSt 8 7 w m zo zf zr zs A len cap ck f (s + 1) R S (upd R r (S ra)) S bx x l w' := fun i hi l w' => RSt.same hi l w'
          have hzb : zs < bx := hzs
          clear d0 d1 d2 d3 d4 d5 d6 d7 d8 d9 d10 zx
          refine flow_begin (RSt 8 7 w m zo zf zr zs A len cap ck f (s + 1) R S (upd R r (S ra)) S bx x) #[false, false, false, false, false, false, false, false] rfl (by kernel_rfl) (fun _ _ _ _ _ h => h) ((RSt.start C6.out BX.out rfl rfl)) (fun HQ => ?_)
          (refine tkK 0 7 109 ?_ rfl (by kernel_rfl) HQ (HST 0) (by rfl) (fun l w' hlk hF => ?_) ?_; rotate_left; (focus (have hq := HD.out _ hlk hF; go_simp; try with_reducible rfl)); try simp only [putL, List.set])
          (refine tkK 1 7 110 ?_ rfl (by kernel_rfl) HQ (HST 1) (by rfl) (fun l w' hlk hF => ?_) ?_; rotate_left; (focus (have hq := HD.out _ hlk hF; go_simp; try with_reducible rfl)); try simp only [putL, List.set])
          (refine tkK 2 7 111 ?_ rfl (by kernel_rfl) HQ (HST 2) (by rfl) (fun l w' hlk hF => ?_) ?_; rotate_left; (focus (have hq := HD.out _ hlk hF; go_simp; try with_reducible rfl)); try simp only [putL, List.set])
          (refine tkK 3 7 112 ?_ rfl (by kernel_rfl) HQ (HST 3) (by rfl) (fun l w' hlk hF => ?_) ?_; rotate_left; (focus (have hq := HD.out _ hlk hF; go_simp; try with_reducible rfl)); try simp only [putL, List.set])
          (refine tkK 4 7 113 ?_ rfl (by kernel_rfl) HQ (HST 4) (by rfl) (fun l w' hlk hF => ?_) ?_; rotate_left; (focus (have hq := HD.out _ hlk hF; go_simp; try with_reducible rfl)); try simp only [putL, List.set])
          (refine flow_takeK (i := 5) (k := 7) (t := 114) (oi := ⟨some 114, _, _, _, _, _⟩) (ok := ⟨none, _, _, _, _, _⟩) rfl rfl (by kernel_rfl) (by kernel_rfl) (by decide) rfl (by kernel_rfl) (by kernel_rfl) (by kernel_rfl) HQ (HST 5) (does_loadK (by rfl) 37 _ rfl (zs) (ra * 13) rfl ((S ra).cells) _ (fun l w' hlk hF => (RSt.before hlk hF).ss.range ha7) Tryz.underlying37 rfl HZ.out) ?_; try simp only [putL, List.set])
          (refine tkK 6 7 115 ?_ rfl (by kernel_rfl) HQ (HST 6) (by rfl) (fun l w' hlk hF => ?_) ?_; rotate_left; (focus (have hq := HD.out _ hlk hF; go_simp; try with_reducible rfl)); try simp only [putL, List.set])
          refine flow_put (i := 7) (oi := ⟨none, _, _, _, _, none⟩) rfl rfl (stores_mid (i := 7) rfl 37 _ _ rfl zr (r * 13) (S ra).cells.toArray rfl rfl (fun l w' h => h.2.1.rr.there hr7) HZ.out (Val.all_one _) (fun l w' h => RSt.putR con hzb hr7 _ (by decide) h)) (by kernel_rfl) ?_
          refine flow_done (by kernel_rfl) ?_
          intro w7 hm7
          obtain ⟨c7, bx7⟩ := RSt.done hm7 (by rfl)
          have C7 := Lib.hid c7
          have BX7 := Lib.hid bx7
          clear c7 bx7 hm7 HD HST HQ
          go_wp2_with fail
          go_roundg (gk - 1)
          case measure => omega
          case rel => exact ⟨(p + 1), _, _, s + 1, by go_num, hp1, by omega, by omega, C7.out, HR1.out⟩
      · as_aux_lemma =>
          have q0 : (x.op == 0) = false := (by rw [hop]; rfl); have q1 : (x.op == 1) = false := (by rw [hop]; rfl); have q2 : (x.op == 2) = false := (by rw [hop]; rfl); have q3 : (x.op == 3) = false := (by rw [hop]; rfl); have q4 : (x.op == 4) = true := (by rw [hop]; rfl); have q16 : (x.op == 16) = false := (by rw [hop]; rfl); have q15 : (x.op == 15) = false := (by rw [hop]; rfl); have q17 : (x.op == 17) = false := (by rw [hop]; rfl); have q14 : (x.op == 14) = false := (by rw [hop]; rfl); have q5 : (x.op == 5) = false := (by rw [hop]; rfl); have q6 : (x.op == 6) = false := (by rw [hop]; rfl); have q7 : (x.op == 7) = false := (by rw [hop]; rfl); have q8 : (x.op == 8) = false := (by rw [hop]; rfl); have q9 : (x.op == 9) = false := (by rw [hop]; rfl)
          have HLD : Hid (leadsR x.op = false) := by unfold Hid leadsR; rw [hop]; rfl
          have hp1 : p + 1 < nc := by
            have h := HG.out.next (p := p) (by have := HNC.out; omega) (by rw [← HXX.out]; unfold goesR; rw [hop]; rfl)
            have := HNC.out
            omega
          have haa := HGX.out.a
          rw [show (partsR x.op).2.1 = 2 by rw [hop]; rfl] at haa
          have har := isPartB_slot haa
          obtain ⟨ra, ha6⟩ : ∃ r : Nat, x.a = r := ⟨x.a.toNat, by omega⟩
          have ha7 : ra < 300 := by omega
          have ha9 : (ra : Int) < 300 := by omega
          have ha8 : x.a.toNat = ra := by omega
          have hbb := HGX.out.b
          rw [show (partsR x.op).2.2 = 1 by rw [hop]; rfl] at hbb
          have hbr := isPartB_reg hbb
          have hg6b := HG.out.reg
          obtain ⟨rb, hb6⟩ : ∃ r : Nat, x.b = r := ⟨x.b.toNat, by omega⟩
          have hb7 : rb < 6 := by omega
          have hb9 : (rb : Int) < 6 := by omega
          have hb8 : x.b.toNat = rb := by omega
          have HR1 := Lib.hid (HR.out.inv_go (by omega) (show stepF ck ((l.getD k default).code.getD p default) p R S = .go (p + 1) R (upd S x.a.toNat (R x.b.toNat)) by rw [← HF.out, ← HXX.out]; unfold stepF; simp only [hop]; rfl))
          rw [ha8, hb8] at HR1
          go_wp2_with (first
            | (go_at_call 163; refine (gleads_any x.op _).mono ?_; rw [HLD.out]; rintro r w' ⟨rfl, rfl⟩))
          have HD := Lib.hid (cells_of (k := 7) (F := RSt 8 7 w m zo zf zr zs A len cap ck f (s + 1) R S R (upd S ra (R rb)) bx x) (fun l w' h => h.2.2) rfl ha6 hb6)
          have HST : ∀ (i : Nat) (_ : i ≠ 7 := by decide) (l : Array Bool) (w' : World), RSt 8 7 w m zo zf zr zs A len cap ck f (s + 1) R S R (upd S ra (R rb)) bx x (l.setIfInBounds i true) w' ↔ RSt 8 7 w m zo zf zr zs A len cap ck f (s + 1) R S R (upd S ra (R rb)) bx x l w' := fun i hi l w' => RSt.same hi l w'
          have hzb : zs < bx := hzs
          clear d0 d1 d2 d3 d4 d5 d6 d7 d8 d9 d10 zx
          refine flow_begin (RSt 8 7 w m zo zf zr zs A len cap ck f (s + 1) R S R (upd S ra (R rb)) bx x) #[false, false, false, false, false, false, false, false] rfl (by kernel_rfl) (fun _ _ _ _ _ h => h) ((RSt.start C6.out BX.out rfl rfl)) (fun HQ => ?_)
          (refine tkK 0 7 118 ?_ rfl (by kernel_rfl) HQ (HST 0) (by rfl) (fun l w' hlk hF => ?_) ?_; rotate_left; (focus (have hq := HD.out _ hlk hF; go_simp; try with_reducible rfl)); try simp only [putL, List.set])
          (refine tkK 1 7 119 ?_ rfl (by kernel_rfl) HQ (HST 1) (by rfl) (fun l w' hlk hF => ?_) ?_; rotate_left; (focus (have hq := HD.out _ hlk hF; go_simp; try with_reducible rfl)); try simp only [putL, List.set])
          (refine tkK 2 7 120 ?_ rfl (by kernel_rfl) HQ (HST 2) (by rfl) (fun l w' hlk hF => ?_) ?_; rotate_left; (focus (have hq := HD.out _ hlk hF; go_simp; try with_reducible rfl)); try simp only [putL, List.set])
          (refine tkK 3 7 121 ?_ rfl (by kernel_rfl) HQ (HST 3) (by rfl) (fun l w' hlk hF => ?_) ?_; rotate_left; (focus (have hq := HD.out _ hlk hF; go_simp; try with_reducible rfl)); try simp only [putL, List.set])
          (refine tkK 4 7 122 ?_ rfl (by kernel_rfl) HQ (HST 4) (by rfl) (fun l w' hlk hF => ?_) ?_; rotate_left; (focus (have hq := HD.out _ hlk hF; go_simp; try with_reducible rfl)); try simp only [putL, List.set])
          (refine flow_takeK (i := 5) (k := 7) (t := 123) (oi := ⟨some 123, _, _, _, _, _⟩) (ok := ⟨none, _, _, _, _, _⟩) rfl rfl (by kernel_rfl) (by kernel_rfl) (by decide) rfl (by kernel_rfl) (by kernel_rfl) (by kernel_rfl) HQ (HST 5) (does_loadK (by rfl) 37 _ rfl (zr) (rb * 13) rfl ((R rb).cells) _ (fun l w' hlk hF => (RSt.before hlk hF).rr.range hb7) Tryz.underlying37 rfl HZ.out) ?_; try simp only [putL, List.set])
          (refine tkK 6 7 124 ?_ rfl (by kernel_rfl) HQ (HST 6) (by rfl) (fun l w' hlk hF => ?_) ?_; rotate_left; (focus (have hq := HD.out _ hlk hF; go_simp; try with_reducible rfl)); try simp only [putL, List.set])
          refine flow_put (i := 7) (oi := ⟨none, _, _, _, _, none⟩) rfl rfl (stores_mid (i := 7) rfl 37 _ _ rfl zs (ra * 13) (R rb).cells.toArray rfl rfl (fun l w' h => h.2.1.ss.there ha7) HZ.out (Val.all_one _) (fun l w' h => RSt.putS con hzb ha7 _ (by decide) h)) (by kernel_rfl) ?_
          refine flow_done (by kernel_rfl) ?_
          intro w7 hm7
          obtain ⟨c7, bx7⟩ := RSt.done hm7 (by rfl)
          have C7 := Lib.hid c7
          have BX7 := Lib.hid bx7
          clear c7 bx7 hm7 HD HST HQ
          go_wp2_with fail
          go_roundg (gk - 1)
          case measure => omega
          case rel => exact ⟨(p + 1), _, _, s + 1, by go_num, hp1, by omega, by omega, C7.out, HR1.out⟩
      · have q0 : (x.op == 0) = false := by rw [hop]; rfl
        have q1 : (x.op == 1) = false := (by rw [hop]; rfl); have q2 : (x.op == 2) = false := (by rw [hop]; rfl); have q3 : (x.op == 3) = false := (by rw [hop]; rfl); have q4 : (x.op == 4) = false := (by rw [hop]; rfl); have q16 : (x.op == 16) = false := (by rw [hop]; rfl); have q15 : (x.op == 15) = true := (by rw [hop]; rfl); have q17 : (x.op == 17) = false := (by rw [hop]; rfl); have q14 : (x.op == 14) = false := (by rw [hop]; rfl); have q5 : (x.op == 5) = false := (by rw [hop]; rfl); have q6 : (x.op == 6) = false := (by rw [hop]; rfl); have q7 : (x.op == 7) = false := (by rw [hop]; rfl); have q8 : (x.op == 8) = false := (by rw [hop]; rfl); have q9 : (x.op == 9) = false := (by rw [hop]; rfl)
        have HLD : Hid (leadsR x.op = false) := by unfold Hid leadsR; rw [hop]; rfl
        have haa := HGX.out.a
        rw [show (partsR x.op).2.1 = 1 by rw [hop]; rfl] at haa
        have har := isPartB_reg haa
        have hg6a := HG.out.reg
        obtain ⟨ra, ha6⟩ : ∃ r : Nat, x.a = r := ⟨x.a.toNat, by omega⟩
        have ha7 : ra < 6 := by omega
        have ha9 : (ra : Int) < 6 := by omega
        have ha8 : x.a.toNat = ra := by omega
        obtain ⟨he, ht⟩ := HR.out.inv_done (by omega) (show stepF ck ((l.getD k default).code.getD p default) p R S = .done (.ret (R x.a.toNat)) by rw [← HF.out, ← HXX.out]; unfold stepF; simp only [hop]; rfl)
        rw [ha8] at he
        rw [ha6] at d2
        have HVR : Hid (w6.rangeAt zr (ra * 13) (R ra).cells) := C6.out.rr.range ha7
        generalize R ra = vv at he HVR
        have HZE : Hid ((Tryz.prog.info? 114).map (·.size) = some 15) := by unfold Hid; kernel_rfl
        go_wp2_with (first
          | (go_at_call 163; refine (gleads_any x.op _).mono ?_; rw [HLD.out]; rintro r w' ⟨rfl, rfl⟩)
          | ((with_reducible show wpList _ _ _ (Oper.mk (some 138) (.load 37 (.tmp 137)) _ _ _ _ :: _) _ _); refine wpList_load_mid rfl 37 _ rfl zr (ra * 13) rfl [.int .i64 vv.ty.base, .int .i64 vv.ty.bits, .string vv.ty.name, .bool vv.ty.opt, .bool vv.ty.err, .int .i64 vv.n, .bool vv.null, .string vv.err, .int .i64 vv.of.base, .int .i64 vv.of.bits, .string vv.of.name, .bool vv.of.opt, .bool vv.of.err] _ HVR.out Tryz.underlying37 rfl HZ.out ?_)
          | ((with_reducible show wpList _ _ _ (Oper.mk none (.store 114 (.tmp 8) _) _ _ _ _ :: _) _ _); refine wpList_store_row rfl 114 _ _ rfl zo rfl 114 endZ (enC (.ret vv)) C6.out.oo rfl rfl (enC_one _) HZE.out ?_))
        exact bodyPost_ret (results_cell_row rfl _ _ zo 114 (enC (.ret vv)) (0, 0) _ rfl (C6.out.oo.row _) Tryz.underlying114 rfl HZE.out) rfl (by rw [he, ht]; exact CSt.ret con C6.out (.ret vv))
      · as_aux_lemma =>
          have q0 : (x.op == 0) = false := (by rw [hop]; rfl); have q1 : (x.op == 1) = false := (by rw [hop]; rfl); have q2 : (x.op == 2) = false := (by rw [hop]; rfl); have q3 : (x.op == 3) = false := (by rw [hop]; rfl); have q4 : (x.op == 4) = false := (by rw [hop]; rfl); have q16 : (x.op == 16) = true := (by rw [hop]; rfl); have q15 : (x.op == 15) = false := (by rw [hop]; rfl); have q17 : (x.op == 17) = false := (by rw [hop]; rfl); have q14 : (x.op == 14) = false := (by rw [hop]; rfl); have q5 : (x.op == 5) = false := (by rw [hop]; rfl); have q6 : (x.op == 6) = false := (by rw [hop]; rfl); have q7 : (x.op == 7) = false := (by rw [hop]; rfl); have q8 : (x.op == 8) = false := (by rw [hop]; rfl); have q9 : (x.op == 9) = false := (by rw [hop]; rfl)
          have HLD : Hid (leadsR x.op = false) := by unfold Hid leadsR; rw [hop]; rfl
          have hp1 : p + 1 < nc := by
            have h := HG.out.next (p := p) (by have := HNC.out; omega) (by rw [← HXX.out]; unfold goesR; rw [hop]; rfl)
            have := HNC.out
            omega
          have hdd := HGX.out.d
          rw [show (partsR x.op).1 = 1 by rw [hop]; rfl] at hdd
          have hdr := isPartB_reg hdd
          have hg6 := HG.out.reg
          obtain ⟨r, hr6⟩ : ∃ r : Nat, x.d = r := ⟨x.d.toNat, by omega⟩
          have hr7 : r < 6 := by omega
          have hr9 : (r : Int) < 6 := by omega
          have hr8 : x.d.toNat = r := by omega
          have HR1 := Lib.hid (HR.out.inv_go (by omega) (show stepF ck ((l.getD k default).code.getD p default) p R S = .go (p + 1) (upd R x.d.toNat (pv 0 false x.name)) S by rw [← HF.out, ← HXX.out]; unfold stepF; simp only [hop]; rfl))
          rw [hr8] at HR1
          rw [hr6] at d1
          go_wp2_with (first
            | (go_at_call 163; refine (gleads_any x.op _).mono ?_; rw [HLD.out]; rintro r w' ⟨rfl, rfl⟩)
            | ((with_reducible show wpList _ _ _ (Oper.mk none (.store 37 (.tmp 132) _) _ _ _ _ :: _) _ _); refine wpList_store_mid rfl 37 _ _ rfl zr (r * 13) (pv 0 false x.name).cells.toArray rfl rfl (C6.out.rr.there hr7) HZ.out (Val.all_one _) ?_))
          have C7 := Lib.hid (C6.out.setR con hr7 (pv 0 false x.name))
          go_roundg (gk - 1)
          case measure => omega
          case rel => exact ⟨(p + 1), _, _, s + 1, by go_num, hp1, by omega, by omega, C7.out, HR1.out⟩
      · as_aux_lemma =>
          have q0 : (x.op == 0) = false := (by rw [hop]; rfl); have q1 : (x.op == 1) = false := (by rw [hop]; rfl); have q2 : (x.op == 2) = false := (by rw [hop]; rfl); have q3 : (x.op == 3) = false := (by rw [hop]; rfl); have q4 : (x.op == 4) = false := (by rw [hop]; rfl); have q16 : (x.op == 16) = false := (by rw [hop]; rfl); have q15 : (x.op == 15) = false := (by rw [hop]; rfl); have q17 : (x.op == 17) = true := (by rw [hop]; rfl); have q14 : (x.op == 14) = false := (by rw [hop]; rfl); have q5 : (x.op == 5) = false := (by rw [hop]; rfl); have q6 : (x.op == 6) = false := (by rw [hop]; rfl); have q7 : (x.op == 7) = false := (by rw [hop]; rfl); have q8 : (x.op == 8) = false := (by rw [hop]; rfl); have q9 : (x.op == 9) = false := (by rw [hop]; rfl)
          have HLD : Hid (leadsR x.op = false) := by unfold Hid leadsR; rw [hop]; rfl
          have hya : (x.a != 0) = true := by have := HGX.out.stop hop; rw [bne_iff_ne]; omega
          have HZE : Hid ((Tryz.prog.info? 114).map (·.size) = some 15) := by unfold Hid; kernel_rfl
          have m1 := C6.out.mm.cell 1
          have zm := C6.out.mm.lt
          simp only [List.getElem?_toArray, List.getElem?_cons_zero, List.getElem?_cons_succ] at m1
          obtain ⟨he, ht⟩ := HR.out.inv_done (by omega) (show stepF ck ((l.getD k default).code.getD p default) p R S = .done (bif ck then .stop x.a else .ret default) by rw [← HF.out, ← HXX.out]; unfold stepF; simp only [hop]; rfl)
          cases ck
          · rw [cond_false] at he
            go_wp2_with (first
              | (go_at_call 163; refine (gleads_any x.op _).mono ?_; rw [HLD.out]; rintro r w' ⟨rfl, rfl⟩)
              | ((with_reducible show wpList _ _ _ (Oper.mk none (.store 114 (.tmp 8) _) _ _ _ _ :: _) _ _); refine wpList_store_row rfl 114 _ _ rfl zo rfl 114 endZ (enC (.ret default)) C6.out.oo rfl rfl (enC_one _) HZE.out ?_))
            exact bodyPost_ret (results_cell_row rfl _ _ zo 114 (enC (.ret default)) (0, 0) _ rfl (C6.out.oo.row _) Tryz.underlying114 rfl HZE.out) rfl (by rw [he, ht]; exact CSt.ret con C6.out (.ret default))
          · rw [cond_true] at he
            go_wp2_with (first
              | (go_at_call 163; refine (gleads_any x.op _).mono ?_; rw [HLD.out]; rintro r w' ⟨rfl, rfl⟩)
              | ((with_reducible show wpList _ _ _ (Oper.mk none (.store 114 (.tmp 8) _) _ _ _ _ :: _) _ _); refine wpList_store_row rfl 114 _ _ rfl zo rfl 114 endZ (enC (.stop x.a)) C6.out.oo rfl rfl (enC_one _) HZE.out ?_))
            exact bodyPost_ret (results_cell_row rfl _ _ zo 114 (enC (.stop x.a)) (0, 0) _ rfl (C6.out.oo.row _) Tryz.underlying114 rfl HZE.out) rfl (by rw [he, ht]; exact CSt.ret con C6.out (.stop x.a))
      · have q0 : (x.op == 0) = false := by rw [hop]; rfl
        have q1 : (x.op == 1) = false := (by rw [hop]; rfl); have q2 : (x.op == 2) = false := (by rw [hop]; rfl); have q3 : (x.op == 3) = false := (by rw [hop]; rfl); have q4 : (x.op == 4) = false := (by rw [hop]; rfl); have q16 : (x.op == 16) = false := (by rw [hop]; rfl); have q15 : (x.op == 15) = false := (by rw [hop]; rfl); have q17 : (x.op == 17) = false := (by rw [hop]; rfl); have q14 : (x.op == 14) = true := (by rw [hop]; rfl); have q5 : (x.op == 5) = false := (by rw [hop]; rfl); have q6 : (x.op == 6) = false := (by rw [hop]; rfl); have q7 : (x.op == 7) = false := (by rw [hop]; rfl); have q8 : (x.op == 8) = false := (by rw [hop]; rfl); have q9 : (x.op == 9) = false := (by rw [hop]; rfl)
        have HLD : Hid (leadsR x.op = false) := by unfold Hid leadsR; rw [hop]; rfl
        have hp1 : p + 1 < nc := by
          have h := HG.out.next (p := p) (by have := HNC.out; omega) (by rw [← HXX.out]; unfold goesR; rw [hop]; rfl)
          have := HNC.out
          omega
        have hdd := HGX.out.d
        rw [show (partsR x.op).1 = 1 by rw [hop]; rfl] at hdd
        have hdr := isPartB_reg hdd
        have hg6 := HG.out.reg
        obtain ⟨r, hr6⟩ : ∃ r : Nat, x.d = r := ⟨x.d.toNat, by omega⟩
        have hr7 : r < 6 := by omega
        have hr9 : (r : Int) < 6 := by omega
        have hr8 : x.d.toNat = r := by omega
        obtain ⟨e1, t1, hr1, hr2⟩ := HR.out.inv_call (by omega) (show stepF ck ((l.getD k default).code.getD p default) p R S = .call x.name (x.args.map fun i => S i.toNat) x.d.toNat by rw [← HF.out, ← HXX.out]; unfold stepF; simp only [hop]; rfl)
        obtain ⟨j, hj1, hj2, hj3⟩ := HGX.out.call hop
        rw [hj1, Int.toNat_natCast] at hr1
        rw [hr8] at hr2
        obtain ⟨na, hna⟩ : ∃ na, na = x.args.length := ⟨_, rfl⟩
        have hna4 : na ≤ 4 := by have h := (HVP.out.2.2 j hj2).1.par; omega
        have HNB : Hid (NumsAt wb x.A x.args) := ((HA.out.sub f (by rw [HF.out]; exact getD_mem (by have := HLN.out; omega))).sub x (by rw [HXX.out]; exact getD_mem (by have := HNC.out; omega)))
        obtain ⟨xa, hxa⟩ : ∃ xa, xa = x.A := ⟨_, rfl⟩
        rw [← hna, ← hxa] at d10
        rw [← hxa] at HNB
        have HXA := Lib.hid hxa
        have HNL := Lib.hid hna
        have HR1 := Lib.hid hr1
        have HR2 := Lib.hid hr2
        have HJ := Lib.hid hj1
        have HJ2 := Lib.hid hj2
        clear hxa hna hr1 hr2 hj1 hj2 hj3
        obtain ⟨i0, hi0, hz0, hz1, hz2⟩ := info_val_parts
        have HI := Lib.hid hi0
        have HZ0 := Lib.hid hz0
        have HZ1 := Lib.hid hz1
        have HZ2 := Lib.hid hz2
        clear hi0 hz0 hz1 hz2
        go_wp2_with (first
          | (go_at_call 163; refine (gleads_any x.op _).mono ?_; rw [HLD.out]; rintro r w' ⟨rfl, rfl⟩))
        obtain ⟨bz, hbz⟩ : ∃ bz, bz = w6.heap.size := ⟨_, rfl⟩
        have hbz2 : bx < bz := by omega
        have hbz3 : bz ≤ w6.heap.size := by omega
        clear hbz
        clear d0 d1 d2 d3 d4 d5 d6 d7 d8 d9 d10 zx
        go_loopw [15, 155] (fun v i wq => ∃ q : Nat, q ≤ na ∧ i = .int .i64 q ∧ wq.ownsRow bz 37 13 v q (flatV ((x.args.map fun i => S i.toNat).take q)) ∧ CSt w m zo zf zr zs A len cap ck f (s + 1) R S wq ∧ Blk wq bx 67 (rgA x) ∧ bz ≤ wq.heap.size) (fun _ i _ => na - (intOf i).toNat)
        case atStart => exact ⟨0, Nat.zero_le _, rfl, World.ownsRow_nil _ _ _ _, C6.out, BX.out, hbz3⟩
        case round =>
          clear hbz3
          obtain ⟨q, hq, rfl, ho, hc, hbx, hzz⟩ := hrel
          have HO := Lib.hid ho
          have HC := Lib.hid hc
          have HBX := Lib.hid hbx
          have hxq : Ext wb wr := HX.out.grown hc.gr (fun k' e => by have := Option.some.inj e; have := HM0.out; omega)
          by_cases hlt : q < na
          · obtain ⟨b5, o5, rfl, hb5, c5⟩ := (HNB.out.ext hxq).one (k := q) (by rw [← HNL.out]; exact hlt)
            have hql : q < x.args.length := by rw [← HNL.out]; exact hlt
            have hin := HGX.out.args (x.args.getD q 0) (by rw [List.getD, List.getElem?_eq_getElem hql]; exact List.getElem_mem hql)
            obtain ⟨iv, hiv⟩ : ∃ iv : Nat, x.args.getD q 0 = iv := ⟨(x.args.getD q 0).toNat, by omega⟩
            rw [hiv] at c5 hin
            have hin2 : iv < 300 := by omega
            have hin3 : (iv : Int) < 300 := by omega
            have HIV := Lib.hid hiv
            obtain ⟨sv, hsv⟩ : ∃ sv, S iv = sv := ⟨_, rfl⟩
            have HVR : Hid (wr.rangeAt zs (iv * 13) sv.cells) := by have h := hc.ss.range hin2; rw [hsv] at h; exact h
            have HSV := Lib.hid hsv
            clear ho hc hbx hsv hiv hin
            go_wp2_with (first
              | ((with_reducible show wpList _ _ _ (Oper.mk (some 162) (.load 37 (.tmp 161)) _ _ _ _ :: _) _ _); refine wpList_load_mid rfl 37 _ rfl zs (iv * 13) rfl [.int .i64 sv.ty.base, .int .i64 sv.ty.bits, .string sv.ty.name, .bool sv.ty.opt, .bool sv.ty.err, .int .i64 sv.n, .bool sv.null, .string sv.err, .int .i64 sv.of.base, .int .i64 sv.of.bits, .string sv.of.name, .bool sv.of.opt, .bool sv.of.err] _ HVR.out Tryz.underlying37 rfl HZ.out ?_)
              | (at_builtin
                 refine wpList_append_own _ rfl _ _ 30 rfl bz 37 i0 _ 13 112 Tryz.underlying30 HI.out HZ0.out HZ1.out HZ2.out rfl (by decide) _ _ _ rfl (own_ext HO.out ((Ext.refl wr).alloc _)) ⟨wr.heap.size, 0, none⟩ 1 1 sv.cells rfl rfl ?c1 ?c2 ?c3 ?c4 ?c5 ?_))
            case c1 =>
              intro j2 u hj2
              rw [Addr.add_mid, Nat.zero_add]
              exact ((Blk.new wr 37 sv.cells.toArray).cell j2).trans (by simpa using hj2)
            case c2 => exact sv.one
            case c3 => unfold maxLen; omega
            case c4 => omega
            case c5 => simp; omega
            intro v' w3 ow3 g3 _
            have OW3 := Lib.hid ow3
            have C3 := Lib.hid (CSt.off con (HC.out.ext' ((Ext.refl wr).alloc (.cells sv.cells.toArray 37))) g3 (fun k' e => by have := own_row HO.out k' e; omega))
            have BX3 := Lib.hid (Blk.aside (HBX.out.ext ((Ext.refl wr).alloc (.cells sv.cells.toArray 37))) g3 (fun k' e => by have := own_row HO.out k' e; omega))
            have hz3 : bz ≤ w3.heap.size := by have := g3.size; simp at this; omega
            clear ow3 g3
            go_wp2_with fail
            go_roundw
            case rel =>
              refine ⟨q + 1, by omega, by go_num, ?_, C3.out, BX3.out, hz3⟩
              rw [List.take_succ_eq_append_getElem (by rw [List.length_map]; exact hql), flatV_snoc, List.getElem_map]
              have e9 : S (x.args[q]).toNat = sv := by
                have h := HIV.out
                rw [List.getD, List.getElem?_eq_getElem hql, Option.getD_some] at h
                rw [h, Int.toNat_natCast]; exact HSV.out
              rw [e9]
              exact OW3.out
            case measure => simp [intOf]; omega
          · have hqn : q = na := by omega
            subst hqn
            rw [List.take_of_length_le (by rw [List.length_map]; have := HNL.out; omega)] at HO
            obtain ⟨vA9, vc9, hv9, hvals⟩ := own_vals HO.out (by rw [List.length_map]; exact HNL.out)
            subst hv9
            have HVL := Lib.hid hvals
            clear ho hc hbx hvals HO
            go_wp2_with fail
            have HD : Hid (∀ (l' : Array Bool) (b' : Act) (w' : World), KSt w m zo zf zr zs A len cap ck f (s + 1) t1 R S bx x vA9 (x.args.map fun i => S i.toNat) e1 l' b' w' → (w'.cell? ⟨m, 0, none⟩ = some (.slice A len cap)) ∧ w'.cell? ⟨bx, 0, none⟩ = some (.int .i64 x.op) ∧ w'.cell? ⟨bx, 1, none⟩ = some (.int .i64 x.d) ∧ w'.cell? ⟨bx, 2, none⟩ = some (.int .i64 x.a) ∧ w'.cell? ⟨bx, 3, none⟩ = some (.int .i64 x.b) ∧ w'.cell? ⟨bx, 4, none⟩ = some (.int .i64 x.ty.base) ∧ w'.cell? ⟨bx, 5, none⟩ = some (.int .i64 x.ty.bits) ∧ w'.cell? ⟨bx, 6, none⟩ = some (.string x.ty.name) ∧ w'.cell? ⟨bx, 7, none⟩ = some (.bool x.ty.opt) ∧ w'.cell? ⟨bx, 8, none⟩ = some (.bool x.ty.err) ∧ w'.cell? ⟨bx, 9, none⟩ = some (.string x.name) ∧ w'.cell? ⟨bx, 10, none⟩ = some (.slice x.A x.args.length x.cap)) := fun l' b' w' h => ⟨h.2.1.mm.cell 0, rgA_cells h.2.2.1⟩
            have HST : ∀ (i q2 : Nat) (v9 : Value) (_ : i ≠ 11 := by decide) (_ : i ≠ 12 := by decide) (_ : i ≠ 13 := by decide) (_ : q2 ≠ 18 := by decide) (l' : Array Bool) (b' : Act) (w' : World), KSt w m zo zf zr zs A len cap ck f (s + 1) t1 R S bx x vA9 (x.args.map fun i => S i.toNat) e1 (l'.setIfInBounds i true) (b'.put (some q2) v9) w' ↔ KSt w m zo zf zr zs A len cap ck f (s + 1) t1 R S bx x vA9 (x.args.map fun i => S i.toNat) e1 l' b' w' := fun i q2 v9 h1 h2 h3 h4 l' b' w' => KSt.same h1 h2 h3 h4 v9 l' b' w'
            have HCI : Hid (∀ (l' : Array Bool) (b' : Act) (w' : World), KSt w m zo zf zr zs A len cap ck f (s + 1) t1 R S bx x vA9 (x.args.map fun i => S i.toNat) e1 l' b' w' → Calls Tryz.prog 78 #[.slice A len cap, .string x.name] w' fun e w'' => e = .returned (.int .i64 j) ∧ KSt w m zo zf zr zs A len cap ck f (s + 1) t1 R S bx x vA9 (x.args.map fun i => S i.toNat) e1 l' b' w'') := fun l' b' w' h => by
              have h2 := gindex_len A cap l x.name w' HLN.out (HA.out.ext (HX.out.grown h.2.1.gr (fun k' e => by have := Option.some.inj e; have := HM0.out; omega))) (by omega)
              rw [HJ.out] at h2
              exact h2.mono fun e w'' z => ⟨z.1, h.ext' z.2⟩
            have HIC : Hid (∀ (l' : Array Bool) (b' : Act) (w' : World), l'.getD 11 false = false → l'.getD 13 false = false → KSt w m zo zf zr zs A len cap ck f (s + 1) t1 R S bx x vA9 (x.args.map fun i => S i.toNat) e1 l' b' w' → Calls Tryz.prog 141 #[.pointer (some ⟨m, 0, none⟩), .int .i64 j, .slice vA9 q vc9, .int .i64 ((d : Int) + 1)] w' fun e w'' => e = .returned (.agg (enC e1)) ∧ KSt w m zo zf zr zs A len cap ck f (s + 1) t1 R S bx x vA9 (x.args.map fun i => S i.toNat) e1 (l'.setIfInBounds 11 true) (b'.put (some 177) (.agg (enC e1))) w'') := fun l' b' w' h11 h13 h => by
              have hm9 := h.2.1.mm
              rw [h11] at hm9
              have h2 := HIH.out j (x.args.map fun i => S i.toNat) (s + 1) w' vA9 q vc9 e1 t1 (by rw [HLN.out]; exact HJ2.out) (by rw [List.length_map]; exact HNL.out) (by rw [List.length_map]; have := HNL.out; omega) (by omega) (HX.out.grown h.2.1.gr (fun k' e => by have := Option.some.inj e; have := HM0.out; omega)) hm9 (h.2.2.2.1 h11 h13) HR1.out
              rw [show ((d : Int) + 1) = ((d + 1 : Nat) : Int) by omega]
              exact h2.mono fun e w'' z => ⟨z.1, KSt.turn con hzs (by decide) h z.2.1 z.2.2⟩
            have HZE : Hid ((Tryz.prog.info? 114).map (·.size) = some 15) := by unfold Hid; kernel_rfl
            have hd4 : (d : Int) ≤ 30 := by omega
            have hdw : IntKind.i64.wrap ((d : Int) + 1) = (d : Int) + 1 := IntWalk.i64_in _ (by omega)
            refine flow2_begin (KSt w m zo zf zr zs A len cap ck f (s + 1) t1 R S bx x vA9 (x.args.map fun i => S i.toNat) e1) #[false, false, false, false, false, false, false, false, false, false, false, false, false, false] rfl (by kernel_rfl) (fun _ _ _ _ _ h => h) ((KSt.start HC.out HBX.out HVL.out _)) (fun HQ => ?_)
            (refine flow2_take (i := 0) (t := 166) (oi := ⟨some 166, _, _, _, _, _⟩) (v := ?_) rfl rfl (by kernel_rfl) (by kernel_rfl) (by kernel_rfl) HQ (HST 0 166 _) (Or.inl ⟨by rfl, fun l b' w' hF => ?_⟩) ?_; rotate_left; (focus (have hq := HD.out _ _ _ hF; go_simp; try with_reducible rfl)); try simp only [putL, List.set])
            (refine flow2_take (i := 1) (t := 167) (oi := ⟨some 167, _, _, _, _, _⟩) (v := ?_) rfl rfl (by kernel_rfl) (by kernel_rfl) (by kernel_rfl) HQ (HST 1 167 _) (Or.inl ⟨by rfl, fun l b' w' hF => ?_⟩) ?_; rotate_left; (focus (have hq := HD.out _ _ _ hF; go_simp; try with_reducible rfl)); try simp only [putL, List.set])
            (refine flow2_take (i := 2) (t := 168) (oi := ⟨some 168, _, _, _, _, _⟩) (v := ?_) rfl rfl (by kernel_rfl) (by kernel_rfl) (by kernel_rfl) HQ (HST 2 168 _) (Or.inl ⟨by rfl, fun l b' w' hF => ?_⟩) ?_; rotate_left; (focus (have hq := HD.out _ _ _ hF; go_simp; try with_reducible rfl)); try simp only [putL, List.set])
            (refine flow2_take (i := 3) (t := 169) (oi := ⟨some 169, _, _, _, _, _⟩) (v := ?_) rfl rfl (by kernel_rfl) (by kernel_rfl) (by kernel_rfl) HQ (HST 3 169 _) (Or.inl ⟨by rfl, fun l b' w' hF => ?_⟩) ?_; rotate_left; (focus (have hq := HD.out _ _ _ hF; go_simp; try with_reducible rfl)); try simp only [putL, List.set])
            (refine flow2_take (i := 4) (t := 170) (oi := ⟨some 170, _, _, _, _, _⟩) (v := ?_) rfl rfl (by kernel_rfl) (by kernel_rfl) (by kernel_rfl) HQ (HST 4 170 _) (Or.inl ⟨by rfl, fun l b' w' hF => ?_⟩) ?_; rotate_left; (focus (have hq := HD.out _ _ _ hF; go_simp; try with_reducible rfl)); try simp only [putL, List.set])
            (refine flow2_take (i := 5) (t := 171) (oi := ⟨some 171, _, _, _, _, _⟩) (v := ?_) rfl rfl (by kernel_rfl) (by kernel_rfl) (by kernel_rfl) HQ (HST 5 171 _) (Or.inl ⟨by rfl, fun l b' w' hF => ?_⟩) ?_; rotate_left; (focus (have hq := HD.out _ _ _ hF; go_simp; try with_reducible rfl)); try simp only [putL, List.set])
            (refine flow2_take (i := 6) (t := 172) (oi := ⟨some 172, _, _, _, _, _⟩) (v := ?_) rfl rfl (by kernel_rfl) (by kernel_rfl) (by kernel_rfl) HQ (HST 6 172 _) (Or.inl ⟨by rfl, fun l b' w' hF => ?_⟩) ?_; rotate_left; (focus (have hq := HD.out _ _ _ hF; go_simp; try with_reducible rfl)); try simp only [putL, List.set])
            (refine flow2_take (i := 7) (t := 173) (oi := ⟨some 173, _, _, _, _, _⟩) rfl rfl (by kernel_rfl) (by kernel_rfl) (by kernel_rfl) HQ (HST 7 173 _) (Or.inr (Or.inl ⟨by rfl, _, _, fun l b' w' hF => ?_, (HCI.out)⟩)) ?_; (focus (have hq := HD.out _ _ _ hF; go_simp; try simp only [enters_gindex _ _])); try simp only [putL, List.set])
            (refine flow2_take (i := 8) (t := 174) (oi := ⟨some 174, _, _, _, _, _⟩) (v := ?_) rfl rfl (by kernel_rfl) (by kernel_rfl) (by kernel_rfl) HQ (HST 8 174 _) (Or.inl ⟨by rfl, fun l b' w' hF => ?_⟩) ?_; rotate_left; (focus (have hq := HD.out _ _ _ hF; go_simp; try with_reducible rfl)); try simp only [putL, List.set])
            (refine flow2_take (i := 9) (t := 175) (oi := ⟨some 175, _, _, _, _, _⟩) (v := ?_) rfl rfl (by kernel_rfl) (by kernel_rfl) (by kernel_rfl) HQ (HST 9 175 _) (Or.inl ⟨by rfl, fun l b' w' hF => ?_⟩) ?_; rotate_left; (focus (have hq := HD.out _ _ _ hF; go_simp; try with_reducible rfl)); try simp only [putL, List.set])
            (refine flow2_take (i := 10) (t := 176) (oi := ⟨some 176, _, _, _, _, _⟩) (v := ?_) rfl rfl (by kernel_rfl) (by kernel_rfl) (by kernel_rfl) HQ (HST 10 176 _) (Or.inl ⟨by rfl, fun l b' w' hF => ?_⟩) ?_; rotate_left; (focus (have hq := HD.out _ _ _ hF; go_simp; try with_reducible rfl)); try simp only [putL, List.set])
            refine flow2_two (i := 11) (k := 12) (by kernel_rfl) ?way1 ?way2
            case way1 =>
              (refine step_turn (i := 11) (t := 177) (oi := ⟨some 177, _, _, _, _, _⟩) rfl rfl (by rfl) _ _ (fun w' hF => ?_) (fun w' hF => HIC.out _ _ _ rfl rfl hF) ?_; (focus (go_simp; try simp only [enters_gcall _ _])); try simp only [Act.put, List.setIfInBounds_toArray, List.set_cons_zero, List.set_cons_succ])
              refine flow2_one (i := 12) (by kernel_rfl) ?_
              (refine step_alloc (i := 12) (t := 18) (oi := ⟨some 18, _, _, _, _, _⟩) (ob := .cells endZ 114) rfl rfl (by rfl) (fun w' hF => ?_) (fun w' hF => KSt.room hzs (show 18 < 212 from by decide) rfl hF) (fun g9 => ?_); (focus (go_simp; try rfl)); try simp only [Act.put, List.setIfInBounds_toArray, List.set_cons_zero, List.set_cons_succ])
              (refine flow2_one (i := 13) (by kernel_rfl) (step_put1 (oi := ⟨none, _, _, _, _, _⟩) rfl rfl (by rfl) 114 _ _ rfl g9 0 (enC e1) rfl rfl (fun w' hF => KSt.space hF rfl rfl) (by rw [enC_size]; exact HZE.out) (enC_all e1) (fun w' hF => KSt.store con hzs hF rfl rfl) ?_))
              refine flow2_done (by kernel_rfl) ?_
              intro w9 hF9
              obtain ⟨_, c9, bx9, _, hg9⟩ := hF9
              obtain ⟨g8, hg8, hg7, bg9⟩ := hg9 rfl
              have eg : Value.pointer (some ⟨g9, 0, none⟩) = .pointer (some ⟨g8, 0, none⟩) := Option.some.inj hg8
              cases eg
              rw [if_pos (by rfl)] at c9 bg9
              have C9 := Lib.hid c9
              have BG := Lib.hid bg9
              have BX9 := Lib.hid bx9
              have zg := bg9.lt
              have zx9 := bx9.lt
              clear hg8 c9 bg9 bx9 HD HST HCI HIC HQ hg9
              have hq9 := Run.quota HR1.out (by omega)
              have hm9 := Run.mono HR1.out
              cases e1 with
              | stop y9 =>
                rcases HR2.out with ⟨_, he, ht⟩ | ⟨v9, hv9, _⟩
                case inr => cases hv9
                have g0 : w9.cell? ⟨g9, 0, none⟩ = some (.int .i64 1) := BG.out.cell 0
                go_wp2_with (first
                  | ((with_reducible show wpList _ _ _ (Oper.mk (some 181) (.load 114 (.tmp 18)) _ _ _ _ :: _) _ _); refine wpList_load_row rfl 114 _ rfl g9 rfl 114 (enC (.stop y9)) (0, 0) _ BG.out Tryz.underlying114 rfl HZE.out ?_)
                  | ((with_reducible show wpList _ _ _ (Oper.mk none (.store 114 (.tmp 8) _) _ _ _ _ :: _) _ _); refine wpList_store_row rfl 114 _ _ rfl zo rfl 114 endZ (enC (.stop y9)) C9.out.oo rfl rfl (enC_one _) HZE.out ?_))
                exact bodyPost_ret (results_cell_row rfl _ _ zo 114 (enC (.stop y9)) (0, 0) _ rfl (C9.out.oo.row _) Tryz.underlying114 rfl HZE.out) rfl (by rw [he, ht]; exact CSt.ret con C9.out (.stop y9))
              | long  =>
                rcases HR2.out with ⟨_, he, ht⟩ | ⟨v9, hv9, _⟩
                case inr => cases hv9
                have g0 : w9.cell? ⟨g9, 0, none⟩ = some (.int .i64 2) := BG.out.cell 0
                go_wp2_with (first
                  | ((with_reducible show wpList _ _ _ (Oper.mk (some 181) (.load 114 (.tmp 18)) _ _ _ _ :: _) _ _); refine wpList_load_row rfl 114 _ rfl g9 rfl 114 (enC .long) (0, 0) _ BG.out Tryz.underlying114 rfl HZE.out ?_)
                  | ((with_reducible show wpList _ _ _ (Oper.mk none (.store 114 (.tmp 8) _) _ _ _ _ :: _) _ _); refine wpList_store_row rfl 114 _ _ rfl zo rfl 114 endZ (enC .long) C9.out.oo rfl rfl (enC_one _) HZE.out ?_))
                exact bodyPost_ret (results_cell_row rfl _ _ zo 114 (enC .long) (0, 0) _ rfl (C9.out.oo.row _) Tryz.underlying114 rfl HZE.out) rfl (by rw [he, ht]; exact CSt.ret con C9.out .long)
              | ret v9 =>
                rcases HR2.out with ⟨hne, _⟩ | ⟨v8, hv8, hrun8⟩
                case inl => exact absurd rfl (hne v9)
                cases hv8
                have HR8 := Lib.hid hrun8
                clear hrun8
                have g0 : w9.cell? ⟨g9, 0, none⟩ = some (.int .i64 0) := BG.out.cell 0
                have HGR : Hid (w9.rangeAt g9 2 v9.cells) := fun j2 u hj2 => (BG.out.cell (2 + j2)).trans ((enC_ret_get v9 j2).trans hj2)
                obtain ⟨d0, d1, d2, d3, d4, d5, d6, d7, d8, d9, d10⟩ := rgA_cells BX9.out
                rw [hr6] at d1
                go_wp2_with (first
                  | ((with_reducible show wpList _ _ _ (Oper.mk (some 185) (.load 37 (.tmp 184)) _ _ _ _ :: _) _ _); refine wpList_load_mid rfl 37 _ rfl g9 2 rfl v9.cells _ HGR.out Tryz.underlying37 rfl HZ.out ?_)
                  | ((with_reducible show wpList _ _ _ (Oper.mk none (.store 37 (.tmp 186) _) _ _ _ _ :: _) _ _); refine wpList_store_mid rfl 37 _ _ rfl zr (r * 13) v9.cells.toArray rfl rfl (C9.out.rr.there hr7) HZ.out (Val.all_one _) ?_))
                have C7 := Lib.hid (C9.out.setR con hr7 v9)
                go_roundg (gk - 1)
                case measure => omega
                case rel => exact ⟨p + 1, _, _, t1, by go_num, hp1, by omega, by omega, C7.out, HR8.out⟩
            case way2 =>
              (refine step_alloc (i := 12) (t := 18) (oi := ⟨some 18, _, _, _, _, _⟩) (ob := .cells endZ 114) rfl rfl (by rfl) (fun w' hF => ?_) (fun w' hF => KSt.room hzs (show 18 < 212 from by decide) rfl hF) (fun g9 => ?_); (focus (go_simp; try rfl)); try simp only [Act.put, List.setIfInBounds_toArray, List.set_cons_zero, List.set_cons_succ])
              refine flow2_one (i := 11) (by kernel_rfl) ?_
              (refine step_turn (i := 11) (t := 177) (oi := ⟨some 177, _, _, _, _, _⟩) rfl rfl (by rfl) _ _ (fun w' hF => ?_) (fun w' hF => HIC.out _ _ _ rfl rfl hF) ?_; (focus (go_simp; try simp only [enters_gcall _ _])); try simp only [Act.put, List.setIfInBounds_toArray, List.set_cons_zero, List.set_cons_succ])
              (refine flow2_one (i := 13) (by kernel_rfl) (step_put1 (oi := ⟨none, _, _, _, _, _⟩) rfl rfl (by rfl) 114 _ _ rfl g9 0 (enC e1) rfl rfl (fun w' hF => KSt.space hF rfl rfl) (by rw [enC_size]; exact HZE.out) (enC_all e1) (fun w' hF => KSt.store con hzs hF rfl rfl) ?_))
              refine flow2_done (by kernel_rfl) ?_
              intro w9 hF9
              obtain ⟨_, c9, bx9, _, hg9⟩ := hF9
              obtain ⟨g8, hg8, hg7, bg9⟩ := hg9 rfl
              have eg : Value.pointer (some ⟨g9, 0, none⟩) = .pointer (some ⟨g8, 0, none⟩) := Option.some.inj hg8
              cases eg
              rw [if_pos (by rfl)] at c9 bg9
              have C9 := Lib.hid c9
              have BG := Lib.hid bg9
              have BX9 := Lib.hid bx9
              have zg := bg9.lt
              have zx9 := bx9.lt
              clear hg8 c9 bg9 bx9 HD HST HCI HIC HQ hg9
              have hq9 := Run.quota HR1.out (by omega)
              have hm9 := Run.mono HR1.out
              cases e1 with
              | stop y9 =>
                rcases HR2.out with ⟨_, he, ht⟩ | ⟨v9, hv9, _⟩
                case inr => cases hv9
                have g0 : w9.cell? ⟨g9, 0, none⟩ = some (.int .i64 1) := BG.out.cell 0
                go_wp2_with (first
                  | ((with_reducible show wpList _ _ _ (Oper.mk (some 181) (.load 114 (.tmp 18)) _ _ _ _ :: _) _ _); refine wpList_load_row rfl 114 _ rfl g9 rfl 114 (enC (.stop y9)) (0, 0) _ BG.out Tryz.underlying114 rfl HZE.out ?_)
                  | ((with_reducible show wpList _ _ _ (Oper.mk none (.store 114 (.tmp 8) _) _ _ _ _ :: _) _ _); refine wpList_store_row rfl 114 _ _ rfl zo rfl 114 endZ (enC (.stop y9)) C9.out.oo rfl rfl (enC_one _) HZE.out ?_))
                exact bodyPost_ret (results_cell_row rfl _ _ zo 114 (enC (.stop y9)) (0, 0) _ rfl (C9.out.oo.row _) Tryz.underlying114 rfl HZE.out) rfl (by rw [he, ht]; exact CSt.ret con C9.out (.stop y9))
              | long  =>
                rcases HR2.out with ⟨_, he, ht⟩ | ⟨v9, hv9, _⟩
                case inr => cases hv9
                have g0 : w9.cell? ⟨g9, 0, none⟩ = some (.int .i64 2) := BG.out.cell 0
                go_wp2_with (first
                  | ((with_reducible show wpList _ _ _ (Oper.mk (some 181) (.load 114 (.tmp 18)) _ _ _ _ :: _) _ _); refine wpList_load_row rfl 114 _ rfl g9 rfl 114 (enC .long) (0, 0) _ BG.out Tryz.underlying114 rfl HZE.out ?_)
                  | ((with_reducible show wpList _ _ _ (Oper.mk none (.store 114 (.tmp 8) _) _ _ _ _ :: _) _ _); refine wpList_store_row rfl 114 _ _ rfl zo rfl 114 endZ (enC .long) C9.out.oo rfl rfl (enC_one _) HZE.out ?_))
                exact bodyPost_ret (results_cell_row rfl _ _ zo 114 (enC .long) (0, 0) _ rfl (C9.out.oo.row _) Tryz.underlying114 rfl HZE.out) rfl (by rw [he, ht]; exact CSt.ret con C9.out .long)
              | ret v9 =>
                rcases HR2.out with ⟨hne, _⟩ | ⟨v8, hv8, hrun8⟩
                case inl => exact absurd rfl (hne v9)
                cases hv8
                have HR8 := Lib.hid hrun8
                clear hrun8
                have g0 : w9.cell? ⟨g9, 0, none⟩ = some (.int .i64 0) := BG.out.cell 0
                have HGR : Hid (w9.rangeAt g9 2 v9.cells) := fun j2 u hj2 => (BG.out.cell (2 + j2)).trans ((enC_ret_get v9 j2).trans hj2)
                obtain ⟨d0, d1, d2, d3, d4, d5, d6, d7, d8, d9, d10⟩ := rgA_cells BX9.out
                rw [hr6] at d1
                go_wp2_with (first
                  | ((with_reducible show wpList _ _ _ (Oper.mk (some 185) (.load 37 (.tmp 184)) _ _ _ _ :: _) _ _); refine wpList_load_mid rfl 37 _ rfl g9 2 rfl v9.cells _ HGR.out Tryz.underlying37 rfl HZ.out ?_)
                  | ((with_reducible show wpList _ _ _ (Oper.mk none (.store 37 (.tmp 186) _) _ _ _ _ :: _) _ _); refine wpList_store_mid rfl 37 _ _ rfl zr (r * 13) v9.cells.toArray rfl rfl (C9.out.rr.there hr7) HZ.out (Val.all_one _) ?_))
                have C7 := Lib.hid (C9.out.setR con hr7 v9)
                go_roundg (gk - 1)
                case measure => omega
                case rel => exact ⟨p + 1, _, _, t1, by go_num, hp1, by omega, by omega, C7.out, HR8.out⟩
      · as_aux_lemma =>
          have hnum : isNumB x.op := .inl hop
          obtain ⟨u1, u2⟩ := hop
          have hopc : x.op = 5 ∨ x.op = 6 ∨ x.op = 7 ∨ x.op = 8 ∨ x.op = 9 := by omega
          have q0 : (x.op == 0) = false := by rw [beq_eq_false_iff_ne]; omega
          have q1 : (x.op == 1) = false := by rw [beq_eq_false_iff_ne]; omega
          have q2 : (x.op == 2) = false := by rw [beq_eq_false_iff_ne]; omega
          have q3 : (x.op == 3) = false := by rw [beq_eq_false_iff_ne]; omega
          have q4 : (x.op == 4) = false := by rw [beq_eq_false_iff_ne]; omega
          have q16 : (x.op == 16) = false := by rw [beq_eq_false_iff_ne]; omega
          have q15 : (x.op == 15) = false := by rw [beq_eq_false_iff_ne]; omega
          have q17 : (x.op == 17) = false := by rw [beq_eq_false_iff_ne]; omega
          have q14 : (x.op == 14) = false := by rw [beq_eq_false_iff_ne]; omega
          have HP : Hid (partsR x.op = (1, 1, 0)) := by unfold Hid; rcases hopc with h | h | h | h | h <;> rw [h] <;> rfl
          have HLD : Hid (leadsR x.op = false) := by unfold Hid leadsR; rw [beq_eq_false_iff_ne.2 (show x.op ≠ 12 by omega), beq_eq_false_iff_ne.2 (show x.op ≠ 13 by omega), beq_eq_false_iff_ne.2 (show x.op ≠ 10 by omega), beq_eq_false_iff_ne.2 (show x.op ≠ 11 by omega)]; rfl
          have hp1 : p + 1 < nc := by
            have h := HG.out.next (p := p) (by have := HNC.out; omega) (by rw [← HXX.out]; unfold goesR; rw [bne_iff_ne.2 (show x.op ≠ 12 by omega), bne_iff_ne.2 (show x.op ≠ 15 by omega), bne_iff_ne.2 (show x.op ≠ 17 by omega)]; rfl)
            have := HNC.out
            omega
          have hdd := HGX.out.d
          rw [show (partsR x.op).1 = 1 by rw [HP.out]] at hdd
          have hdr := isPartB_reg hdd
          have hg6 := HG.out.reg
          obtain ⟨r, hr6⟩ : ∃ r : Nat, x.d = r := ⟨x.d.toNat, by omega⟩
          have hr7 : r < 6 := by omega
          have hr9 : (r : Int) < 6 := by omega
          have hr8 : x.d.toNat = r := by omega
          have haa := HGX.out.a
          rw [show (partsR x.op).2.1 = 1 by rw [HP.out]] at haa
          have har := isPartB_reg haa
          have hg6a := HG.out.reg
          obtain ⟨ra, ha6⟩ : ∃ r : Nat, x.a = r := ⟨x.a.toNat, by omega⟩
          have ha7 : ra < 6 := by omega
          have ha9 : (ra : Int) < 6 := by omega
          have ha8 : x.a.toNat = ra := by omega
          obtain ⟨N, y, hNY⟩ : ∃ N y, numF ck x (R x.a.toNat) (R x.b.toNat) = (N, y) := ⟨_, _, rfl⟩
          have HNY := Lib.hid hNY
          rw [ha8] at hNY
          have HNY2 := Lib.hid hNY
          clear hNY
          have HC : Hid (∀ (l : Array Bool) (w' : World), l.getD 13 false = false → RSt 15 13 w m zo zf zr zs A len cap ck f (s + 1) R S (upd R r (nv N)) S bx x l w' → Calls Tryz.prog 207 #[.pointer (some ⟨m, 0, none⟩), (.agg #[.int .i64 x.op, .int .i64 (r : Nat), .int .i64 (ra : Nat), .int .i64 x.b, .int .i64 x.ty.base, .int .i64 x.ty.bits, .string x.ty.name, .bool x.ty.opt, .bool x.ty.err, .string x.name, .slice x.A x.args.length x.cap]), .agg (R ra).cells.toArray] w' fun e w'' => e = .returned (.tuple #[.agg (nv N).cells.toArray, .int .i64 y]) ∧ RSt 15 13 w m zo zf zr zs A len cap ck f (s + 1) R S (upd R r (nv N)) S bx x l w'') := fun l w' _ h => by
            have h2 := convert_any m ck x (R ra) (R x.b.toNat) w' h.2.1.mm.lt (h.2.1.mm.cell 1) ⟨u1, u2⟩ (fun h5 => HGX.out.typed (by omega))
            unfold Rg.val at h2
            rw [HNY2.out, hr6, ha6] at h2
            exact h2.mono fun e w'' q => ⟨q.1, h.ext' q.2⟩
          have hops : (x.op == 5 || (x.op == 6 || (x.op == 7 || (x.op == 8 || x.op == 9)))) = true := by rcases hopc with h | h | h | h | h <;> rw [h] <;> rfl
          rcases hopc with hop | hop | hop | hop | hop
          · as_aux_lemma =>
              have q5 : (x.op == 5) = true := (by rw [hop]; rfl); have q6 : (x.op == 6) = false := (by rw [hop]; rfl); have q7 : (x.op == 7) = false := (by rw [hop]; rfl); have q8 : (x.op == 8) = false := (by rw [hop]; rfl); have q9 : (x.op == 9) = false := (by rw [hop]; rfl)
              go_wp2_with (first
                | (go_at_call 163; refine (gleads_any x.op _).mono ?_; rw [HLD.out]; rintro r w' ⟨rfl, rfl⟩))
              have HD := Lib.hid (cells_of (k := 13) (F := RSt 15 13 w m zo zf zr zs A len cap ck f (s + 1) R S (upd R r (nv N)) S bx x) (fun l w' h => h.2.2) hr6 ha6 rfl)
              have HST : ∀ (i : Nat) (_ : i ≠ 13 := by decide) (l : Array Bool) (w' : World), RSt 15 13 w m zo zf zr zs A len cap ck f (s + 1) R S (upd R r (nv N)) S bx x (l.setIfInBounds i true) w' ↔ RSt 15 13 w m zo zf zr zs A len cap ck f (s + 1) R S (upd R r (nv N)) S bx x l w' := fun i hi l w' => RSt.same hi l w'
              have hzb : zs < bx := hzs
              clear d0 d1 d2 d3 d4 d5 d6 d7 d8 d9 d10 zx
              refine flow_begin (RSt 15 13 w m zo zf zr zs A len cap ck f (s + 1) R S (upd R r (nv N)) S bx x) #[false, false, false, false, false, false, false, false, false, false, false, false, false, false, false] rfl (by kernel_rfl) (fun _ _ _ _ _ h => h) ((RSt.start C6.out BX.out rfl rfl)) (fun HQ => ?_)
              (refine tkK 0 13 194 ?_ rfl (by kernel_rfl) HQ (HST 0) (by rfl) (fun l w' hlk hF => ?_) ?_; rotate_left; (focus (have hq := HD.out _ hlk hF; go_simp; try with_reducible rfl)); try simp only [putL, List.set])
              (refine tkK 1 13 195 ?_ rfl (by kernel_rfl) HQ (HST 1) (by rfl) (fun l w' hlk hF => ?_) ?_; rotate_left; (focus (have hq := HD.out _ hlk hF; go_simp; try with_reducible rfl)); try simp only [putL, List.set])
              (refine tkK 2 13 196 ?_ rfl (by kernel_rfl) HQ (HST 2) (by rfl) (fun l w' hlk hF => ?_) ?_; rotate_left; (focus (have hq := HD.out _ hlk hF; go_simp; try with_reducible rfl)); try simp only [putL, List.set])
              (refine tkK 3 13 197 ?_ rfl (by kernel_rfl) HQ (HST 3) (by rfl) (fun l w' hlk hF => ?_) ?_; rotate_left; (focus (have hq := HD.out _ hlk hF; go_simp; try with_reducible rfl)); try simp only [putL, List.set])
              (refine tkK 4 13 198 ?_ rfl (by kernel_rfl) HQ (HST 4) (by rfl) (fun l w' hlk hF => ?_) ?_; rotate_left; (focus (have hq := HD.out _ hlk hF; go_simp; try with_reducible rfl)); try simp only [putL, List.set])
              (refine tkK 5 13 199 ?_ rfl (by kernel_rfl) HQ (HST 5) (by rfl) (fun l w' hlk hF => ?_) ?_; rotate_left; (focus (have hq := HD.out _ hlk hF; go_simp; try with_reducible rfl)); try simp only [putL, List.set])
              (refine tkK 6 13 200 ?_ rfl (by kernel_rfl) HQ (HST 6) (by rfl) (fun l w' hlk hF => ?_) ?_; rotate_left; (focus (have hq := HD.out _ hlk hF; go_simp; try with_reducible rfl)); try simp only [putL, List.set])
              (refine flow_takeK (i := 7) (k := 13) (t := 201) (oi := ⟨some 201, _, _, _, _, _⟩) (ok := ⟨none, _, _, _, _, _⟩) rfl rfl (by kernel_rfl) (by kernel_rfl) (by decide) rfl (by kernel_rfl) (by kernel_rfl) (by kernel_rfl) HQ (HST 7) (does_loadK (by rfl) 37 _ rfl (zr) (ra * 13) rfl ((R ra).cells) _ (fun l w' hlk hF => (RSt.before hlk hF).rr.range ha7) Tryz.underlying37 rfl HZ.out) ?_; try simp only [putL, List.set])
              (refine tcK 8 13 202 rfl (by kernel_rfl) HQ (HST 8) (by rfl) (fun l w' hlk hF => ?_) ((HC.out)) ?_; (focus (have hq := HD.out _ hlk hF; go_simp; try simp only [enters_gconvert _ _])); try simp only [putL, List.set])
              (refine tkK 9 13 193 ?_ rfl (by kernel_rfl) HQ (HST 9) (by rfl) (fun l w' hlk hF => ?_) ?_; rotate_left; (focus (have hq := HD.out _ hlk hF; go_simp; try with_reducible rfl)); try simp only [putL, List.set])
              (refine tkK 10 13 203 ?_ rfl (by kernel_rfl) HQ (HST 10) (by rfl) (fun l w' hlk hF => ?_) ?_; rotate_left; (focus (have hq := HD.out _ hlk hF; go_simp; try with_reducible rfl)); try simp only [putL, List.set])
              (refine tk 11 204 ?_ rfl (by kernel_rfl) HQ (HST 11) (by rfl) (fun l w' hF => ?_) ?_; rotate_left; (focus (go_simp; try with_reducible rfl)); try simp only [putL, List.set])
              (refine tkK 12 13 205 ?_ rfl (by kernel_rfl) HQ (HST 12) (by rfl) (fun l w' hlk hF => ?_) ?_; rotate_left; (focus (have hq := HD.out _ hlk hF; go_simp; try with_reducible rfl)); try simp only [putL, List.set])
              refine flow_put (i := 13) (oi := ⟨none, _, _, _, _, none⟩) rfl rfl (stores_mid (i := 13) rfl 37 _ _ rfl zr (r * 13) (nv N).cells.toArray rfl rfl (fun l w' h => h.2.1.rr.there hr7) HZ.out (Val.all_one _) (fun l w' h => RSt.putR con hzb hr7 _ (by decide) h)) (by kernel_rfl) ?_
              (refine tk 14 14 ?_ rfl (by kernel_rfl) HQ (HST 14) (by rfl) (fun l w' hF => ?_) ?_; rotate_left; (focus (go_simp; try with_reducible rfl)); try simp only [putL, List.set])
              refine flow_done (by kernel_rfl) ?_
              intro w7 hm7
              obtain ⟨c7, bx7⟩ := RSt.done hm7 (by rfl)
              have C7 := Lib.hid c7
              have BX7 := Lib.hid bx7
              clear c7 bx7 hm7 HD HST HQ
              have HZE : Hid ((Tryz.prog.info? 114).map (·.size) = some 15) := by unfold Hid; kernel_rfl
              by_cases hy : y = 0
              · have hyb : (y != 0) = false := by rw [hy]; rfl
                have HR1 := Lib.hid (HR.out.inv_go (by omega) (show stepF ck ((l.getD k default).code.getD p default) p R S = .go (p + 1) (upd R x.d.toNat (nv N)) S by rw [← HF.out, ← HXX.out, stepF_num hnum, HNY.out]; simp only [hyb, cond_false]))
                rw [hr8] at HR1
                subst hy
                go_wp2_with fail
                go_roundg (gk - 1)
                case measure => omega
                case rel => exact ⟨(p + 1), _, _, s + 1, by go_num, hp1, by omega, by omega, C7.out, HR1.out⟩
              · have hyb : (y != 0) = true := by simpa using hy
                obtain ⟨he, ht⟩ := HR.out.inv_done (by omega) (show stepF ck ((l.getD k default).code.getD p default) p R S = .done (.stop y) by rw [← HF.out, ← HXX.out, stepF_num hnum, HNY.out]; simp only [hyb, cond_true])
                go_wp2_with (first
                  | ((with_reducible show wpList _ _ _ (Oper.mk none (.store 114 (.tmp 8) _) _ _ _ _ :: _) _ _); refine wpList_store_row rfl 114 _ _ rfl zo rfl 114 endZ (enC (.stop y)) C7.out.oo rfl rfl (enC_one _) HZE.out ?_))
                exact bodyPost_ret (results_cell_row rfl _ _ zo 114 (enC (.stop y)) (0, 0) _ rfl (C7.out.oo.row _) Tryz.underlying114 rfl HZE.out) rfl (by rw [he, ht]; exact CSt.ret con C7.out (.stop y))
          · as_aux_lemma =>
              have q5 : (x.op == 5) = false := (by rw [hop]; rfl); have q6 : (x.op == 6) = true := (by rw [hop]; rfl); have q7 : (x.op == 7) = false := (by rw [hop]; rfl); have q8 : (x.op == 8) = false := (by rw [hop]; rfl); have q9 : (x.op == 9) = false := (by rw [hop]; rfl)
              go_wp2_with (first
                | (go_at_call 163; refine (gleads_any x.op _).mono ?_; rw [HLD.out]; rintro r w' ⟨rfl, rfl⟩))
              have HD := Lib.hid (cells_of (k := 13) (F := RSt 15 13 w m zo zf zr zs A len cap ck f (s + 1) R S (upd R r (nv N)) S bx x) (fun l w' h => h.2.2) hr6 ha6 rfl)
              have HST : ∀ (i : Nat) (_ : i ≠ 13 := by decide) (l : Array Bool) (w' : World), RSt 15 13 w m zo zf zr zs A len cap ck f (s + 1) R S (upd R r (nv N)) S bx x (l.setIfInBounds i true) w' ↔ RSt 15 13 w m zo zf zr zs A len cap ck f (s + 1) R S (upd R r (nv N)) S bx x l w' := fun i hi l w' => RSt.same hi l w'
              have hzb : zs < bx := hzs
              clear d0 d1 d2 d3 d4 d5 d6 d7 d8 d9 d10 zx
              refine flow_begin (RSt 15 13 w m zo zf zr zs A len cap ck f (s + 1) R S (upd R r (nv N)) S bx x) #[false, false, false, false, false, false, false, false, false, false, false, false, false, false, false] rfl (by kernel_rfl) (fun _ _ _ _ _ h => h) ((RSt.start C6.out BX.out rfl rfl)) (fun HQ => ?_)
              (refine tkK 0 13 194 ?_ rfl (by kernel_rfl) HQ (HST 0) (by rfl) (fun l w' hlk hF => ?_) ?_; rotate_left; (focus (have hq := HD.out _ hlk hF; go_simp; try with_reducible rfl)); try simp only [putL, List.set])
              (refine tkK 1 13 195 ?_ rfl (by kernel_rfl) HQ (HST 1) (by rfl) (fun l w' hlk hF => ?_) ?_; rotate_left; (focus (have hq := HD.out _ hlk hF; go_simp; try with_reducible rfl)); try simp only [putL, List.set])
              (refine tkK 2 13 196 ?_ rfl (by kernel_rfl) HQ (HST 2) (by rfl) (fun l w' hlk hF => ?_) ?_; rotate_left; (focus (have hq := HD.out _ hlk hF; go_simp; try with_reducible rfl)); try simp only [putL, List.set])
              (refine tkK 3 13 197 ?_ rfl (by kernel_rfl) HQ (HST 3) (by rfl) (fun l w' hlk hF => ?_) ?_; rotate_left; (focus (have hq := HD.out _ hlk hF; go_simp; try with_reducible rfl)); try simp only [putL, List.set])
              (refine tkK 4 13 198 ?_ rfl (by kernel_rfl) HQ (HST 4) (by rfl) (fun l w' hlk hF => ?_) ?_; rotate_left; (focus (have hq := HD.out _ hlk hF; go_simp; try with_reducible rfl)); try simp only [putL, List.set])
              (refine tkK 5 13 199 ?_ rfl (by kernel_rfl) HQ (HST 5) (by rfl) (fun l w' hlk hF => ?_) ?_; rotate_left; (focus (have hq := HD.out _ hlk hF; go_simp; try with_reducible rfl)); try simp only [putL, List.set])
              (refine tkK 6 13 200 ?_ rfl (by kernel_rfl) HQ (HST 6) (by rfl) (fun l w' hlk hF => ?_) ?_; rotate_left; (focus (have hq := HD.out _ hlk hF; go_simp; try with_reducible rfl)); try simp only [putL, List.set])
              (refine flow_takeK (i := 7) (k := 13) (t := 201) (oi := ⟨some 201, _, _, _, _, _⟩) (ok := ⟨none, _, _, _, _, _⟩) rfl rfl (by kernel_rfl) (by kernel_rfl) (by decide) rfl (by kernel_rfl) (by kernel_rfl) (by kernel_rfl) HQ (HST 7) (does_loadK (by rfl) 37 _ rfl (zr) (ra * 13) rfl ((R ra).cells) _ (fun l w' hlk hF => (RSt.before hlk hF).rr.range ha7) Tryz.underlying37 rfl HZ.out) ?_; try simp only [putL, List.set])
              (refine tcK 8 13 202 rfl (by kernel_rfl) HQ (HST 8) (by rfl) (fun l w' hlk hF => ?_) ((HC.out)) ?_; (focus (have hq := HD.out _ hlk hF; go_simp; try simp only [enters_gconvert _ _])); try simp only [putL, List.set])
              (refine tkK 9 13 193 ?_ rfl (by kernel_rfl) HQ (HST 9) (by rfl) (fun l w' hlk hF => ?_) ?_; rotate_left; (focus (have hq := HD.out _ hlk hF; go_simp; try with_reducible rfl)); try simp only [putL, List.set])
              (refine tkK 10 13 203 ?_ rfl (by kernel_rfl) HQ (HST 10) (by rfl) (fun l w' hlk hF => ?_) ?_; rotate_left; (focus (have hq := HD.out _ hlk hF; go_simp; try with_reducible rfl)); try simp only [putL, List.set])
              (refine tk 11 204 ?_ rfl (by kernel_rfl) HQ (HST 11) (by rfl) (fun l w' hF => ?_) ?_; rotate_left; (focus (go_simp; try with_reducible rfl)); try simp only [putL, List.set])
              (refine tkK 12 13 205 ?_ rfl (by kernel_rfl) HQ (HST 12) (by rfl) (fun l w' hlk hF => ?_) ?_; rotate_left; (focus (have hq := HD.out _ hlk hF; go_simp; try with_reducible rfl)); try simp only [putL, List.set])
              refine flow_put (i := 13) (oi := ⟨none, _, _, _, _, none⟩) rfl rfl (stores_mid (i := 13) rfl 37 _ _ rfl zr (r * 13) (nv N).cells.toArray rfl rfl (fun l w' h => h.2.1.rr.there hr7) HZ.out (Val.all_one _) (fun l w' h => RSt.putR con hzb hr7 _ (by decide) h)) (by kernel_rfl) ?_
              (refine tk 14 14 ?_ rfl (by kernel_rfl) HQ (HST 14) (by rfl) (fun l w' hF => ?_) ?_; rotate_left; (focus (go_simp; try with_reducible rfl)); try simp only [putL, List.set])
              refine flow_done (by kernel_rfl) ?_
              intro w7 hm7
              obtain ⟨c7, bx7⟩ := RSt.done hm7 (by rfl)
              have C7 := Lib.hid c7
              have BX7 := Lib.hid bx7
              clear c7 bx7 hm7 HD HST HQ
              have HZE : Hid ((Tryz.prog.info? 114).map (·.size) = some 15) := by unfold Hid; kernel_rfl
              by_cases hy : y = 0
              · have hyb : (y != 0) = false := by rw [hy]; rfl
                have HR1 := Lib.hid (HR.out.inv_go (by omega) (show stepF ck ((l.getD k default).code.getD p default) p R S = .go (p + 1) (upd R x.d.toNat (nv N)) S by rw [← HF.out, ← HXX.out, stepF_num hnum, HNY.out]; simp only [hyb, cond_false]))
                rw [hr8] at HR1
                subst hy
                go_wp2_with fail
                go_roundg (gk - 1)
                case measure => omega
                case rel => exact ⟨(p + 1), _, _, s + 1, by go_num, hp1, by omega, by omega, C7.out, HR1.out⟩
              · have hyb : (y != 0) = true := by simpa using hy
                obtain ⟨he, ht⟩ := HR.out.inv_done (by omega) (show stepF ck ((l.getD k default).code.getD p default) p R S = .done (.stop y) by rw [← HF.out, ← HXX.out, stepF_num hnum, HNY.out]; simp only [hyb, cond_true])
                go_wp2_with (first
                  | ((with_reducible show wpList _ _ _ (Oper.mk none (.store 114 (.tmp 8) _) _ _ _ _ :: _) _ _); refine wpList_store_row rfl 114 _ _ rfl zo rfl 114 endZ (enC (.stop y)) C7.out.oo rfl rfl (enC_one _) HZE.out ?_))
                exact bodyPost_ret (results_cell_row rfl _ _ zo 114 (enC (.stop y)) (0, 0) _ rfl (C7.out.oo.row _) Tryz.underlying114 rfl HZE.out) rfl (by rw [he, ht]; exact CSt.ret con C7.out (.stop y))
          · as_aux_lemma =>
              have q5 : (x.op == 5) = false := (by rw [hop]; rfl); have q6 : (x.op == 6) = false := (by rw [hop]; rfl); have q7 : (x.op == 7) = true := (by rw [hop]; rfl); have q8 : (x.op == 8) = false := (by rw [hop]; rfl); have q9 : (x.op == 9) = false := (by rw [hop]; rfl)
              go_wp2_with (first
                | (go_at_call 163; refine (gleads_any x.op _).mono ?_; rw [HLD.out]; rintro r w' ⟨rfl, rfl⟩))
              have HD := Lib.hid (cells_of (k := 13) (F := RSt 15 13 w m zo zf zr zs A len cap ck f (s + 1) R S (upd R r (nv N)) S bx x) (fun l w' h => h.2.2) hr6 ha6 rfl)
              have HST : ∀ (i : Nat) (_ : i ≠ 13 := by decide) (l : Array Bool) (w' : World), RSt 15 13 w m zo zf zr zs A len cap ck f (s + 1) R S (upd R r (nv N)) S bx x (l.setIfInBounds i true) w' ↔ RSt 15 13 w m zo zf zr zs A len cap ck f (s + 1) R S (upd R r (nv N)) S bx x l w' := fun i hi l w' => RSt.same hi l w'
              have hzb : zs < bx := hzs
              clear d0 d1 d2 d3 d4 d5 d6 d7 d8 d9 d10 zx
              refine flow_begin (RSt 15 13 w m zo zf zr zs A len cap ck f (s + 1) R S (upd R r (nv N)) S bx x) #[false, false, false, false, false, false, false, false, false, false, false, false, false, false, false] rfl (by kernel_rfl) (fun _ _ _ _ _ h => h) ((RSt.start C6.out BX.out rfl rfl)) (fun HQ => ?_)
              (refine tkK 0 13 194 ?_ rfl (by kernel_rfl) HQ (HST 0) (by rfl) (fun l w' hlk hF => ?_) ?_; rotate_left; (focus (have hq := HD.out _ hlk hF; go_simp; try with_reducible rfl)); try simp only [putL, List.set])
              (refine tkK 1 13 195 ?_ rfl (by kernel_rfl) HQ (HST 1) (by rfl) (fun l w' hlk hF => ?_) ?_; rotate_left; (focus (have hq := HD.out _ hlk hF; go_simp; try with_reducible rfl)); try simp only [putL, List.set])
              (refine tkK 2 13 196 ?_ rfl (by kernel_rfl) HQ (HST 2) (by rfl) (fun l w' hlk hF => ?_) ?_; rotate_left; (focus (have hq := HD.out _ hlk hF; go_simp; try with_reducible rfl)); try simp only [putL, List.set])
              (refine tkK 3 13 197 ?_ rfl (by kernel_rfl) HQ (HST 3) (by rfl) (fun l w' hlk hF => ?_) ?_; rotate_left; (focus (have hq := HD.out _ hlk hF; go_simp; try with_reducible rfl)); try simp only [putL, List.set])
              (refine tkK 4 13 198 ?_ rfl (by kernel_rfl) HQ (HST 4) (by rfl) (fun l w' hlk hF => ?_) ?_; rotate_left; (focus (have hq := HD.out _ hlk hF; go_simp; try with_reducible rfl)); try simp only [putL, List.set])
              (refine tkK 5 13 199 ?_ rfl (by kernel_rfl) HQ (HST 5) (by rfl) (fun l w' hlk hF => ?_) ?_; rotate_left; (focus (have hq := HD.out _ hlk hF; go_simp; try with_reducible rfl)); try simp only [putL, List.set])
              (refine tkK 6 13 200 ?_ rfl (by kernel_rfl) HQ (HST 6) (by rfl) (fun l w' hlk hF => ?_) ?_; rotate_left; (focus (have hq := HD.out _ hlk hF; go_simp; try with_reducible rfl)); try simp only [putL, List.set])
              (refine flow_takeK (i := 7) (k := 13) (t := 201) (oi := ⟨some 201, _, _, _, _, _⟩) (ok := ⟨none, _, _, _, _, _⟩) rfl rfl (by kernel_rfl) (by kernel_rfl) (by decide) rfl (by kernel_rfl) (by kernel_rfl) (by kernel_rfl) HQ (HST 7) (does_loadK (by rfl) 37 _ rfl (zr) (ra * 13) rfl ((R ra).cells) _ (fun l w' hlk hF => (RSt.before hlk hF).rr.range ha7) Tryz.underlying37 rfl HZ.out) ?_; try simp only [putL, List.set])
              (refine tcK 8 13 202 rfl (by kernel_rfl) HQ (HST 8) (by rfl) (fun l w' hlk hF => ?_) ((HC.out)) ?_; (focus (have hq := HD.out _ hlk hF; go_simp; try simp only [enters_gconvert _ _])); try simp only [putL, List.set])
              (refine tkK 9 13 193 ?_ rfl (by kernel_rfl) HQ (HST 9) (by rfl) (fun l w' hlk hF => ?_) ?_; rotate_left; (focus (have hq := HD.out _ hlk hF; go_simp; try with_reducible rfl)); try simp only [putL, List.set])
              (refine tkK 10 13 203 ?_ rfl (by kernel_rfl) HQ (HST 10) (by rfl) (fun l w' hlk hF => ?_) ?_; rotate_left; (focus (have hq := HD.out _ hlk hF; go_simp; try with_reducible rfl)); try simp only [putL, List.set])
              (refine tk 11 204 ?_ rfl (by kernel_rfl) HQ (HST 11) (by rfl) (fun l w' hF => ?_) ?_; rotate_left; (focus (go_simp; try with_reducible rfl)); try simp only [putL, List.set])
              (refine tkK 12 13 205 ?_ rfl (by kernel_rfl) HQ (HST 12) (by rfl) (fun l w' hlk hF => ?_) ?_; rotate_left; (focus (have hq := HD.out _ hlk hF; go_simp; try with_reducible rfl)); try simp only [putL, List.set])
              refine flow_put (i := 13) (oi := ⟨none, _, _, _, _, none⟩) rfl rfl (stores_mid (i := 13) rfl 37 _ _ rfl zr (r * 13) (nv N).cells.toArray rfl rfl (fun l w' h => h.2.1.rr.there hr7) HZ.out (Val.all_one _) (fun l w' h => RSt.putR con hzb hr7 _ (by decide) h)) (by kernel_rfl) ?_
              (refine tk 14 14 ?_ rfl (by kernel_rfl) HQ (HST 14) (by rfl) (fun l w' hF => ?_) ?_; rotate_left; (focus (go_simp; try with_reducible rfl)); try simp only [putL, List.set])
              refine flow_done (by kernel_rfl) ?_
              intro w7 hm7
              obtain ⟨c7, bx7⟩ := RSt.done hm7 (by rfl)
              have C7 := Lib.hid c7
              have BX7 := Lib.hid bx7
              clear c7 bx7 hm7 HD HST HQ
              have HZE : Hid ((Tryz.prog.info? 114).map (·.size) = some 15) := by unfold Hid; kernel_rfl
              by_cases hy : y = 0
              · have hyb : (y != 0) = false := by rw [hy]; rfl
                have HR1 := Lib.hid (HR.out.inv_go (by omega) (show stepF ck ((l.getD k default).code.getD p default) p R S = .go (p + 1) (upd R x.d.toNat (nv N)) S by rw [← HF.out, ← HXX.out, stepF_num hnum, HNY.out]; simp only [hyb, cond_false]))
                rw [hr8] at HR1
                subst hy
                go_wp2_with fail
                go_roundg (gk - 1)
                case measure => omega
                case rel => exact ⟨(p + 1), _, _, s + 1, by go_num, hp1, by omega, by omega, C7.out, HR1.out⟩
              · have hyb : (y != 0) = true := by simpa using hy
                obtain ⟨he, ht⟩ := HR.out.inv_done (by omega) (show stepF ck ((l.getD k default).code.getD p default) p R S = .done (.stop y) by rw [← HF.out, ← HXX.out, stepF_num hnum, HNY.out]; simp only [hyb, cond_true])
                go_wp2_with (first
                  | ((with_reducible show wpList _ _ _ (Oper.mk none (.store 114 (.tmp 8) _) _ _ _ _ :: _) _ _); refine wpList_store_row rfl 114 _ _ rfl zo rfl 114 endZ (enC (.stop y)) C7.out.oo rfl rfl (enC_one _) HZE.out ?_))
                exact bodyPost_ret (results_cell_row rfl _ _ zo 114 (enC (.stop y)) (0, 0) _ rfl (C7.out.oo.row _) Tryz.underlying114 rfl HZE.out) rfl (by rw [he, ht]; exact CSt.ret con C7.out (.stop y))
          · as_aux_lemma =>
              have q5 : (x.op == 5) = false := (by rw [hop]; rfl); have q6 : (x.op == 6) = false := (by rw [hop]; rfl); have q7 : (x.op == 7) = false := (by rw [hop]; rfl); have q8 : (x.op == 8) = true := (by rw [hop]; rfl); have q9 : (x.op == 9) = false := (by rw [hop]; rfl)
              go_wp2_with (first
                | (go_at_call 163; refine (gleads_any x.op _).mono ?_; rw [HLD.out]; rintro r w' ⟨rfl, rfl⟩))
              have HD := Lib.hid (cells_of (k := 13) (F := RSt 15 13 w m zo zf zr zs A len cap ck f (s + 1) R S (upd R r (nv N)) S bx x) (fun l w' h => h.2.2) hr6 ha6 rfl)
              have HST : ∀ (i : Nat) (_ : i ≠ 13 := by decide) (l : Array Bool) (w' : World), RSt 15 13 w m zo zf zr zs A len cap ck f (s + 1) R S (upd R r (nv N)) S bx x (l.setIfInBounds i true) w' ↔ RSt 15 13 w m zo zf zr zs A len cap ck f (s + 1) R S (upd R r (nv N)) S bx x l w' := fun i hi l w' => RSt.same hi l w'
              have hzb : zs < bx := hzs
              clear d0 d1 d2 d3 d4 d5 d6 d7 d8 d9 d10 zx
              refine flow_begin (RSt 15 13 w m zo zf zr zs A len cap ck f (s + 1) R S (upd R r (nv N)) S bx x) #[false, false, false, false, false, false, false, false, false, false, false, false, false, false, false] rfl (by kernel_rfl) (fun _ _ _ _ _ h => h) ((RSt.start C6.out BX.out rfl rfl)) (fun HQ => ?_)
              (refine tkK 0 13 194 ?_ rfl (by kernel_rfl) HQ (HST 0) (by rfl) (fun l w' hlk hF => ?_) ?_; rotate_left; (focus (have hq := HD.out _ hlk hF; go_simp; try with_reducible rfl)); try simp only [putL, List.set])
              (refine tkK 1 13 195 ?_ rfl (by kernel_rfl) HQ (HST 1) (by rfl) (fun l w' hlk hF => ?_) ?_; rotate_left; (focus (have hq := HD.out _ hlk hF; go_simp; try with_reducible rfl)); try simp only [putL, List.set])
              (refine tkK 2 13 196 ?_ rfl (by kernel_rfl) HQ (HST 2) (by rfl) (fun l w' hlk hF => ?_) ?_; rotate_left; (focus (have hq := HD.out _ hlk hF; go_simp; try with_reducible rfl)); try simp only [putL, List.set])
              (refine tkK 3 13 197 ?_ rfl (by kernel_rfl) HQ (HST 3) (by rfl) (fun l w' hlk hF => ?_) ?_; rotate_left; (focus (have hq := HD.out _ hlk hF; go_simp; try with_reducible rfl)); try simp only [putL, List.set])
              (refine tkK 4 13 198 ?_ rfl (by kernel_rfl) HQ (HST 4) (by rfl) (fun l w' hlk hF => ?_) ?_; rotate_left; (focus (have hq := HD.out _ hlk hF; go_simp; try with_reducible rfl)); try simp only [putL, List.set])
              (refine tkK 5 13 199 ?_ rfl (by kernel_rfl) HQ (HST 5) (by rfl) (fun l w' hlk hF => ?_) ?_; rotate_left; (focus (have hq := HD.out _ hlk hF; go_simp; try with_reducible rfl)); try simp only [putL, List.set])
              (refine tkK 6 13 200 ?_ rfl (by kernel_rfl) HQ (HST 6) (by rfl) (fun l w' hlk hF => ?_) ?_; rotate_left; (focus (have hq := HD.out _ hlk hF; go_simp; try with_reducible rfl)); try simp only [putL, List.set])
              (refine flow_takeK (i := 7) (k := 13) (t := 201) (oi := ⟨some 201, _, _, _, _, _⟩) (ok := ⟨none, _, _, _, _, _⟩) rfl rfl (by kernel_rfl) (by kernel_rfl) (by decide) rfl (by kernel_rfl) (by kernel_rfl) (by kernel_rfl) HQ (HST 7) (does_loadK (by rfl) 37 _ rfl (zr) (ra * 13) rfl ((R ra).cells) _ (fun l w' hlk hF => (RSt.before hlk hF).rr.range ha7) Tryz.underlying37 rfl HZ.out) ?_; try simp only [putL, List.set])
              (refine tcK 8 13 202 rfl (by kernel_rfl) HQ (HST 8) (by rfl) (fun l w' hlk hF => ?_) ((HC.out)) ?_; (focus (have hq := HD.out _ hlk hF; go_simp; try simp only [enters_gconvert _ _])); try simp only [putL, List.set])
              (refine tkK 9 13 193 ?_ rfl (by kernel_rfl) HQ (HST 9) (by rfl) (fun l w' hlk hF => ?_) ?_; rotate_left; (focus (have hq := HD.out _ hlk hF; go_simp; try with_reducible rfl)); try simp only [putL, List.set])
              (refine tkK 10 13 203 ?_ rfl (by kernel_rfl) HQ (HST 10) (by rfl) (fun l w' hlk hF => ?_) ?_; rotate_left; (focus (have hq := HD.out _ hlk hF; go_simp; try with_reducible rfl)); try simp only [putL, List.set])
              (refine tk 11 204 ?_ rfl (by kernel_rfl) HQ (HST 11) (by rfl) (fun l w' hF => ?_) ?_; rotate_left; (focus (go_simp; try with_reducible rfl)); try simp only [putL, List.set])
              (refine tkK 12 13 205 ?_ rfl (by kernel_rfl) HQ (HST 12) (by rfl) (fun l w' hlk hF => ?_) ?_; rotate_left; (focus (have hq := HD.out _ hlk hF; go_simp; try with_reducible rfl)); try simp only [putL, List.set])
              refine flow_put (i := 13) (oi := ⟨none, _, _, _, _, none⟩) rfl rfl (stores_mid (i := 13) rfl 37 _ _ rfl zr (r * 13) (nv N).cells.toArray rfl rfl (fun l w' h => h.2.1.rr.there hr7) HZ.out (Val.all_one _) (fun l w' h => RSt.putR con hzb hr7 _ (by decide) h)) (by kernel_rfl) ?_
              (refine tk 14 14 ?_ rfl (by kernel_rfl) HQ (HST 14) (by rfl) (fun l w' hF => ?_) ?_; rotate_left; (focus (go_simp; try with_reducible rfl)); try simp only [putL, List.set])
              refine flow_done (by kernel_rfl) ?_
              intro w7 hm7
              obtain ⟨c7, bx7⟩ := RSt.done hm7 (by rfl)
              have C7 := Lib.hid c7
              have BX7 := Lib.hid bx7
              clear c7 bx7 hm7 HD HST HQ
              have HZE : Hid ((Tryz.prog.info? 114).map (·.size) = some 15) := by unfold Hid; kernel_rfl
              by_cases hy : y = 0
              · have hyb : (y != 0) = false := by rw [hy]; rfl
                have HR1 := Lib.hid (HR.out.inv_go (by omega) (show stepF ck ((l.getD k default).code.getD p default) p R S = .go (p + 1) (upd R x.d.toNat (nv N)) S by rw [← HF.out, ← HXX.out, stepF_num hnum, HNY.out]; simp only [hyb, cond_false]))
                rw [hr8] at HR1
                subst hy
                go_wp2_with fail
                go_roundg (gk - 1)
                case measure => omega
                case rel => exact ⟨(p + 1), _, _, s + 1, by go_num, hp1, by omega, by omega, C7.out, HR1.out⟩
              · have hyb : (y != 0) = true := by simpa using hy
                obtain ⟨he, ht⟩ := HR.out.inv_done (by omega) (show stepF ck ((l.getD k default).code.getD p default) p R S = .done (.stop y) by rw [← HF.out, ← HXX.out, stepF_num hnum, HNY.out]; simp only [hyb, cond_true])
                go_wp2_with (first
                  | ((with_reducible show wpList _ _ _ (Oper.mk none (.store 114 (.tmp 8) _) _ _ _ _ :: _) _ _); refine wpList_store_row rfl 114 _ _ rfl zo rfl 114 endZ (enC (.stop y)) C7.out.oo rfl rfl (enC_one _) HZE.out ?_))
                exact bodyPost_ret (results_cell_row rfl _ _ zo 114 (enC (.stop y)) (0, 0) _ rfl (C7.out.oo.row _) Tryz.underlying114 rfl HZE.out) rfl (by rw [he, ht]; exact CSt.ret con C7.out (.stop y))
          · as_aux_lemma =>
              have q5 : (x.op == 5) = false := (by rw [hop]; rfl); have q6 : (x.op == 6) = false := (by rw [hop]; rfl); have q7 : (x.op == 7) = false := (by rw [hop]; rfl); have q8 : (x.op == 8) = false := (by rw [hop]; rfl); have q9 : (x.op == 9) = true := (by rw [hop]; rfl)
              go_wp2_with (first
                | (go_at_call 163; refine (gleads_any x.op _).mono ?_; rw [HLD.out]; rintro r w' ⟨rfl, rfl⟩))
              have HD := Lib.hid (cells_of (k := 13) (F := RSt 15 13 w m zo zf zr zs A len cap ck f (s + 1) R S (upd R r (nv N)) S bx x) (fun l w' h => h.2.2) hr6 ha6 rfl)
              have HST : ∀ (i : Nat) (_ : i ≠ 13 := by decide) (l : Array Bool) (w' : World), RSt 15 13 w m zo zf zr zs A len cap ck f (s + 1) R S (upd R r (nv N)) S bx x (l.setIfInBounds i true) w' ↔ RSt 15 13 w m zo zf zr zs A len cap ck f (s + 1) R S (upd R r (nv N)) S bx x l w' := fun i hi l w' => RSt.same hi l w'
              have hzb : zs < bx := hzs
              clear d0 d1 d2 d3 d4 d5 d6 d7 d8 d9 d10 zx
              refine flow_begin (RSt 15 13 w m zo zf zr zs A len cap ck f (s + 1) R S (upd R r (nv N)) S bx x) #[false, false, false, false, false, false, false, false, false, false, false, false, false, false, false] rfl (by kernel_rfl) (fun _ _ _ _ _ h => h) ((RSt.start C6.out BX.out rfl rfl)) (fun HQ => ?_)
              (refine tkK 0 13 194 ?_ rfl (by kernel_rfl) HQ (HST 0) (by rfl) (fun l w' hlk hF => ?_) ?_; rotate_left; (focus (have hq := HD.out _ hlk hF; go_simp; try with_reducible rfl)); try simp only [putL, List.set])
              (refine tkK 1 13 195 ?_ rfl (by kernel_rfl) HQ (HST 1) (by rfl) (fun l w' hlk hF => ?_) ?_; rotate_left; (focus (have hq := HD.out _ hlk hF; go_simp; try with_reducible rfl)); try simp only [putL, List.set])
              (refine tkK 2 13 196 ?_ rfl (by kernel_rfl) HQ (HST 2) (by rfl) (fun l w' hlk hF => ?_) ?_; rotate_left; (focus (have hq := HD.out _ hlk hF; go_simp; try with_reducible rfl)); try simp only [putL, List.set])
              (refine tkK 3 13 197 ?_ rfl (by kernel_rfl) HQ (HST 3) (by rfl) (fun l w' hlk hF => ?_) ?_; rotate_left; (focus (have hq := HD.out _ hlk hF; go_simp; try with_reducible rfl)); try simp only [putL, List.set])
              (refine tkK 4 13 198 ?_ rfl (by kernel_rfl) HQ (HST 4) (by rfl) (fun l w' hlk hF => ?_) ?_; rotate_left; (focus (have hq := HD.out _ hlk hF; go_simp; try with_reducible rfl)); try simp only [putL, List.set])
              (refine tkK 5 13 199 ?_ rfl (by kernel_rfl) HQ (HST 5) (by rfl) (fun l w' hlk hF => ?_) ?_; rotate_left; (focus (have hq := HD.out _ hlk hF; go_simp; try with_reducible rfl)); try simp only [putL, List.set])
              (refine tkK 6 13 200 ?_ rfl (by kernel_rfl) HQ (HST 6) (by rfl) (fun l w' hlk hF => ?_) ?_; rotate_left; (focus (have hq := HD.out _ hlk hF; go_simp; try with_reducible rfl)); try simp only [putL, List.set])
              (refine flow_takeK (i := 7) (k := 13) (t := 201) (oi := ⟨some 201, _, _, _, _, _⟩) (ok := ⟨none, _, _, _, _, _⟩) rfl rfl (by kernel_rfl) (by kernel_rfl) (by decide) rfl (by kernel_rfl) (by kernel_rfl) (by kernel_rfl) HQ (HST 7) (does_loadK (by rfl) 37 _ rfl (zr) (ra * 13) rfl ((R ra).cells) _ (fun l w' hlk hF => (RSt.before hlk hF).rr.range ha7) Tryz.underlying37 rfl HZ.out) ?_; try simp only [putL, List.set])
              (refine tcK 8 13 202 rfl (by kernel_rfl) HQ (HST 8) (by rfl) (fun l w' hlk hF => ?_) ((HC.out)) ?_; (focus (have hq := HD.out _ hlk hF; go_simp; try simp only [enters_gconvert _ _])); try simp only [putL, List.set])
              (refine tkK 9 13 193 ?_ rfl (by kernel_rfl) HQ (HST 9) (by rfl) (fun l w' hlk hF => ?_) ?_; rotate_left; (focus (have hq := HD.out _ hlk hF; go_simp; try with_reducible rfl)); try simp only [putL, List.set])
              (refine tkK 10 13 203 ?_ rfl (by kernel_rfl) HQ (HST 10) (by rfl) (fun l w' hlk hF => ?_) ?_; rotate_left; (focus (have hq := HD.out _ hlk hF; go_simp; try with_reducible rfl)); try simp only [putL, List.set])
              (refine tk 11 204 ?_ rfl (by kernel_rfl) HQ (HST 11) (by rfl) (fun l w' hF => ?_) ?_; rotate_left; (focus (go_simp; try with_reducible rfl)); try simp only [putL, List.set])
              (refine tkK 12 13 205 ?_ rfl (by kernel_rfl) HQ (HST 12) (by rfl) (fun l w' hlk hF => ?_) ?_; rotate_left; (focus (have hq := HD.out _ hlk hF; go_simp; try with_reducible rfl)); try simp only [putL, List.set])
              refine flow_put (i := 13) (oi := ⟨none, _, _, _, _, none⟩) rfl rfl (stores_mid (i := 13) rfl 37 _ _ rfl zr (r * 13) (nv N).cells.toArray rfl rfl (fun l w' h => h.2.1.rr.there hr7) HZ.out (Val.all_one _) (fun l w' h => RSt.putR con hzb hr7 _ (by decide) h)) (by kernel_rfl) ?_
              (refine tk 14 14 ?_ rfl (by kernel_rfl) HQ (HST 14) (by rfl) (fun l w' hF => ?_) ?_; rotate_left; (focus (go_simp; try with_reducible rfl)); try simp only [putL, List.set])
              refine flow_done (by kernel_rfl) ?_
              intro w7 hm7
              obtain ⟨c7, bx7⟩ := RSt.done hm7 (by rfl)
              have C7 := Lib.hid c7
              have BX7 := Lib.hid bx7
              clear c7 bx7 hm7 HD HST HQ
              have HZE : Hid ((Tryz.prog.info? 114).map (·.size) = some 15) := by unfold Hid; kernel_rfl
              by_cases hy : y = 0
              · have hyb : (y != 0) = false := by rw [hy]; rfl
                have HR1 := Lib.hid (HR.out.inv_go (by omega) (show stepF ck ((l.getD k default).code.getD p default) p R S = .go (p + 1) (upd R x.d.toNat (nv N)) S by rw [← HF.out, ← HXX.out, stepF_num hnum, HNY.out]; simp only [hyb, cond_false]))
                rw [hr8] at HR1
                subst hy
                go_wp2_with fail
                go_roundg (gk - 1)
                case measure => omega
                case rel => exact ⟨(p + 1), _, _, s + 1, by go_num, hp1, by omega, by omega, C7.out, HR1.out⟩
              · have hyb : (y != 0) = true := by simpa using hy
                obtain ⟨he, ht⟩ := HR.out.inv_done (by omega) (show stepF ck ((l.getD k default).code.getD p default) p R S = .done (.stop y) by rw [← HF.out, ← HXX.out, stepF_num hnum, HNY.out]; simp only [hyb, cond_true])
                go_wp2_with (first
                  | ((with_reducible show wpList _ _ _ (Oper.mk none (.store 114 (.tmp 8) _) _ _ _ _ :: _) _ _); refine wpList_store_row rfl 114 _ _ rfl zo rfl 114 endZ (enC (.stop y)) C7.out.oo rfl rfl (enC_one _) HZE.out ?_))
                exact bodyPost_ret (results_cell_row rfl _ _ zo 114 (enC (.stop y)) (0, 0) _ rfl (C7.out.oo.row _) Tryz.underlying114 rfl HZE.out) rfl (by rw [he, ht]; exact CSt.ret con C7.out (.stop y))
      · as_aux_lemma =>
          have hnum : isNumB x.op := .inr hop
          obtain ⟨u1, u2⟩ := hop
          have q0 : (x.op == 0) = false := by rw [beq_eq_false_iff_ne]; omega
          have q1 : (x.op == 1) = false := by rw [beq_eq_false_iff_ne]; omega
          have q2 : (x.op == 2) = false := by rw [beq_eq_false_iff_ne]; omega
          have q3 : (x.op == 3) = false := by rw [beq_eq_false_iff_ne]; omega
          have q4 : (x.op == 4) = false := by rw [beq_eq_false_iff_ne]; omega
          have q16 : (x.op == 16) = false := by rw [beq_eq_false_iff_ne]; omega
          have q15 : (x.op == 15) = false := by rw [beq_eq_false_iff_ne]; omega
          have q17 : (x.op == 17) = false := by rw [beq_eq_false_iff_ne]; omega
          have q14 : (x.op == 14) = false := by rw [beq_eq_false_iff_ne]; omega
          have q5 : (x.op == 5) = false := by rw [beq_eq_false_iff_ne]; omega
          have q6 : (x.op == 6) = false := by rw [beq_eq_false_iff_ne]; omega
          have q7 : (x.op == 7) = false := by rw [beq_eq_false_iff_ne]; omega
          have q8 : (x.op == 8) = false := by rw [beq_eq_false_iff_ne]; omega
          have q9 : (x.op == 9) = false := by rw [beq_eq_false_iff_ne]; omega
          have HP : Hid (partsR x.op = (1, 1, 1)) := by unfold Hid partsR; rw [if_neg (by omega), if_neg (by omega), if_neg (by omega), if_neg (by omega), if_neg (by omega), if_neg (by omega), if_neg (by omega), if_neg (by omega), if_neg (by omega)]
          have HLD : Hid (leadsR x.op = false) := by unfold Hid leadsR; rw [beq_eq_false_iff_ne.2 (show x.op ≠ 12 by omega), beq_eq_false_iff_ne.2 (show x.op ≠ 13 by omega), beq_eq_false_iff_ne.2 (show x.op ≠ 10 by omega), beq_eq_false_iff_ne.2 (show x.op ≠ 11 by omega)]; rfl
          have hp1 : p + 1 < nc := by
            have h := HG.out.next (p := p) (by have := HNC.out; omega) (by rw [← HXX.out]; unfold goesR; rw [bne_iff_ne.2 (show x.op ≠ 12 by omega), bne_iff_ne.2 (show x.op ≠ 15 by omega), bne_iff_ne.2 (show x.op ≠ 17 by omega)]; rfl)
            have := HNC.out
            omega
          have hdd := HGX.out.d
          rw [show (partsR x.op).1 = 1 by rw [HP.out]] at hdd
          have hdr := isPartB_reg hdd
          have hg6 := HG.out.reg
          obtain ⟨r, hr6⟩ : ∃ r : Nat, x.d = r := ⟨x.d.toNat, by omega⟩
          have hr7 : r < 6 := by omega
          have hr9 : (r : Int) < 6 := by omega
          have hr8 : x.d.toNat = r := by omega
          have haa := HGX.out.a
          rw [show (partsR x.op).2.1 = 1 by rw [HP.out]] at haa
          have har := isPartB_reg haa
          have hg6a := HG.out.reg
          obtain ⟨ra, ha6⟩ : ∃ r : Nat, x.a = r := ⟨x.a.toNat, by omega⟩
          have ha7 : ra < 6 := by omega
          have ha9 : (ra : Int) < 6 := by omega
          have ha8 : x.a.toNat = ra := by omega
          have hbb := HGX.out.b
          rw [show (partsR x.op).2.2 = 1 by rw [HP.out]] at hbb
          have hbr := isPartB_reg hbb
          have hg6b := HG.out.reg
          obtain ⟨rb, hb6⟩ : ∃ r : Nat, x.b = r := ⟨x.b.toNat, by omega⟩
          have hb7 : rb < 6 := by omega
          have hb9 : (rb : Int) < 6 := by omega
          have hb8 : x.b.toNat = rb := by omega
          obtain ⟨N, y, hNY⟩ : ∃ N y, numF ck x (R x.a.toNat) (R x.b.toNat) = (N, y) := ⟨_, _, rfl⟩
          have HNY := Lib.hid hNY
          clear hNY
          have HC : Hid (∀ (l : Array Bool) (w' : World), l.getD 19 false = false → RSt 21 19 w m zo zf zr zs A len cap ck f (s + 1) R S (upd R r (nv N)) S bx x l w' → Calls Tryz.prog 208 #[.pointer (some ⟨m, 0, none⟩), (.agg #[.int .i64 x.op, .int .i64 x.d, .int .i64 x.a, .int .i64 x.b, .int .i64 x.ty.base, .int .i64 x.ty.bits, .string x.ty.name, .bool x.ty.opt, .bool x.ty.err, .string x.name, .slice x.A x.args.length x.cap]), .int .i64 (R ra).n, .int .i64 (R rb).n] w' fun e w'' => e = .returned (.tuple #[.agg (nv N).cells.toArray, .int .i64 y]) ∧ RSt 21 19 w m zo zf zr zs A len cap ck f (s + 1) R S (upd R r (nv N)) S bx x l w'') := fun l w' _ h => by
            have h2 := operate_any m ck x (R ra) (R rb) w' h.2.1.mm.lt (h.2.1.mm.cell 1) u1 u2 (fun h5 => HGX.out.typed (by omega))
            rw [← ha8, ← hb8, HNY.out] at h2
            rw [← ha8, ← hb8]
            exact h2.mono fun e w'' q => ⟨q.1, h.ext' q.2⟩
          go_wp2_with (first
            | (go_at_call 163; refine (gleads_any x.op _).mono ?_; rw [HLD.out]; rintro r w' ⟨rfl, rfl⟩))
          have HD : Hid (∀ (w' : World) {l : Array Bool}, l.getD 19 false = false → RSt 21 19 w m zo zf zr zs A len cap ck f (s + 1) R S (upd R r (nv N)) S bx x l w' → w'.cell? ⟨bx, 0, none⟩ = some (.int .i64 x.op) ∧ w'.cell? ⟨bx, 1, none⟩ = some (.int .i64 (r : Nat)) ∧ w'.cell? ⟨bx, 2, none⟩ = some (.int .i64 (ra : Nat)) ∧ w'.cell? ⟨bx, 3, none⟩ = some (.int .i64 (rb : Nat)) ∧ w'.cell? ⟨bx, 4, none⟩ = some (.int .i64 x.ty.base) ∧ w'.cell? ⟨bx, 5, none⟩ = some (.int .i64 x.ty.bits) ∧ w'.cell? ⟨bx, 6, none⟩ = some (.string x.ty.name) ∧ w'.cell? ⟨bx, 7, none⟩ = some (.bool x.ty.opt) ∧ w'.cell? ⟨bx, 8, none⟩ = some (.bool x.ty.err) ∧ w'.cell? ⟨bx, 9, none⟩ = some (.string x.name) ∧ w'.cell? ⟨bx, 10, none⟩ = some (.slice x.A x.args.length x.cap) ∧ w'.cell? ⟨zr, ra * 13 + 5, none⟩ = some (.int .i64 (R ra).n) ∧ w'.cell? ⟨zr, rb * 13 + 5, none⟩ = some (.int .i64 (R rb).n)) := fun w' l hk h => by
            have z := rgA_cells h.2.2
            rw [hr6] at z
            rw [ha6] at z
            rw [hb6] at z
            obtain ⟨g0, g1, g2, g3, g4, g5, g6, g7, g8, g9, g10⟩ := z
            exact ⟨g0, g1, g2, g3, g4, g5, g6, g7, g8, g9, g10, (RSt.before hk h).rr.cell (j := 5) ha7 (by decide), (RSt.before hk h).rr.cell (j := 5) hb7 (by decide)⟩
          have HST : ∀ (i : Nat) (_ : i ≠ 19 := by decide) (l : Array Bool) (w' : World), RSt 21 19 w m zo zf zr zs A len cap ck f (s + 1) R S (upd R r (nv N)) S bx x (l.setIfInBounds i true) w' ↔ RSt 21 19 w m zo zf zr zs A len cap ck f (s + 1) R S (upd R r (nv N)) S bx x l w' := fun i hi l w' => RSt.same hi l w'
          have hzb : zs < bx := hzs
          clear d0 d1 d2 d3 d4 d5 d6 d7 d8 d9 d10 zx
          refine flow_begin (RSt 21 19 w m zo zf zr zs A len cap ck f (s + 1) R S (upd R r (nv N)) S bx x) #[false, false, false, false, false, false, false, false, false, false, false, false, false, false, false, false, false, false, false, false, false] rfl (by kernel_rfl) (fun _ _ _ _ _ h => h) ((RSt.start C6.out BX.out rfl rfl)) (fun HQ => ?_)
          (refine tkK 0 19 63 ?_ rfl (by kernel_rfl) HQ (HST 0) (by rfl) (fun l w' hlk hF => ?_) ?_; rotate_left; (focus (have hq := HD.out _ hlk hF; go_simp; try with_reducible rfl)); try simp only [putL, List.set])
          (refine tkK 1 19 64 ?_ rfl (by kernel_rfl) HQ (HST 1) (by rfl) (fun l w' hlk hF => ?_) ?_; rotate_left; (focus (have hq := HD.out _ hlk hF; go_simp; try with_reducible rfl)); try simp only [putL, List.set])
          (refine tkK 2 19 65 ?_ rfl (by kernel_rfl) HQ (HST 2) (by rfl) (fun l w' hlk hF => ?_) ?_; rotate_left; (focus (have hq := HD.out _ hlk hF; go_simp; try with_reducible rfl)); try simp only [putL, List.set])
          (refine tkK 3 19 66 ?_ rfl (by kernel_rfl) HQ (HST 3) (by rfl) (fun l w' hlk hF => ?_) ?_; rotate_left; (focus (have hq := HD.out _ hlk hF; go_simp; try with_reducible rfl)); try simp only [putL, List.set])
          (refine tkK 4 19 67 ?_ rfl (by kernel_rfl) HQ (HST 4) (by rfl) (fun l w' hlk hF => ?_) ?_; rotate_left; (focus (have hq := HD.out _ hlk hF; go_simp; try with_reducible rfl)); try simp only [putL, List.set])
          (refine tkK 5 19 68 ?_ rfl (by kernel_rfl) HQ (HST 5) (by rfl) (fun l w' hlk hF => ?_) ?_; rotate_left; (focus (have hq := HD.out _ hlk hF; go_simp; try with_reducible rfl)); try simp only [putL, List.set])
          (refine tkK 6 19 69 ?_ rfl (by kernel_rfl) HQ (HST 6) (by rfl) (fun l w' hlk hF => ?_) ?_; rotate_left; (focus (have hq := HD.out _ hlk hF; go_simp; try with_reducible rfl)); try simp only [putL, List.set])
          (refine tkK 7 19 70 ?_ rfl (by kernel_rfl) HQ (HST 7) (by rfl) (fun l w' hlk hF => ?_) ?_; rotate_left; (focus (have hq := HD.out _ hlk hF; go_simp; try with_reducible rfl)); try simp only [putL, List.set])
          (refine tkK 8 19 71 ?_ rfl (by kernel_rfl) HQ (HST 8) (by rfl) (fun l w' hlk hF => ?_) ?_; rotate_left; (focus (have hq := HD.out _ hlk hF; go_simp; try with_reducible rfl)); try simp only [putL, List.set])
          (refine tkK 9 19 72 ?_ rfl (by kernel_rfl) HQ (HST 9) (by rfl) (fun l w' hlk hF => ?_) ?_; rotate_left; (focus (have hq := HD.out _ hlk hF; go_simp; try with_reducible rfl)); try simp only [putL, List.set])
          (refine tkK 10 19 73 ?_ rfl (by kernel_rfl) HQ (HST 10) (by rfl) (fun l w' hlk hF => ?_) ?_; rotate_left; (focus (have hq := HD.out _ hlk hF; go_simp; try with_reducible rfl)); try simp only [putL, List.set])
          (refine tkK 11 19 74 ?_ rfl (by kernel_rfl) HQ (HST 11) (by rfl) (fun l w' hlk hF => ?_) ?_; rotate_left; (focus (have hq := HD.out _ hlk hF; go_simp; try with_reducible rfl)); try simp only [putL, List.set])
          (refine tkK 12 19 75 ?_ rfl (by kernel_rfl) HQ (HST 12) (by rfl) (fun l w' hlk hF => ?_) ?_; rotate_left; (focus (have hq := HD.out _ hlk hF; go_simp; try with_reducible rfl)); try simp only [putL, List.set])
          (refine tkK 13 19 76 ?_ rfl (by kernel_rfl) HQ (HST 13) (by rfl) (fun l w' hlk hF => ?_) ?_; rotate_left; (focus (have hq := HD.out _ hlk hF; go_simp; try with_reducible rfl)); try simp only [putL, List.set])
          (refine tcK 14 19 77 rfl (by kernel_rfl) HQ (HST 14) (by rfl) (fun l w' hlk hF => ?_) ((HC.out)) ?_; (focus (have hq := HD.out _ hlk hF; go_simp; try simp only [enters_goperate _ _])); try simp only [putL, List.set])
          (refine tkK 15 19 62 ?_ rfl (by kernel_rfl) HQ (HST 15) (by rfl) (fun l w' hlk hF => ?_) ?_; rotate_left; (focus (have hq := HD.out _ hlk hF; go_simp; try with_reducible rfl)); try simp only [putL, List.set])
          (refine tkK 16 19 78 ?_ rfl (by kernel_rfl) HQ (HST 16) (by rfl) (fun l w' hlk hF => ?_) ?_; rotate_left; (focus (have hq := HD.out _ hlk hF; go_simp; try with_reducible rfl)); try simp only [putL, List.set])
          (refine tk 17 79 ?_ rfl (by kernel_rfl) HQ (HST 17) (by rfl) (fun l w' hF => ?_) ?_; rotate_left; (focus (go_simp; try with_reducible rfl)); try simp only [putL, List.set])
          (refine tkK 18 19 80 ?_ rfl (by kernel_rfl) HQ (HST 18) (by rfl) (fun l w' hlk hF => ?_) ?_; rotate_left; (focus (have hq := HD.out _ hlk hF; go_simp; try with_reducible rfl)); try simp only [putL, List.set])
          refine flow_put (i := 19) (oi := ⟨none, _, _, _, _, none⟩) rfl rfl (stores_mid (i := 19) rfl 37 _ _ rfl zr (r * 13) (nv N).cells.toArray rfl rfl (fun l w' h => h.2.1.rr.there hr7) HZ.out (Val.all_one _) (fun l w' h => RSt.putR con hzb hr7 _ (by decide) h)) (by kernel_rfl) ?_
          (refine tk 20 14 ?_ rfl (by kernel_rfl) HQ (HST 20) (by rfl) (fun l w' hF => ?_) ?_; rotate_left; (focus (go_simp; try with_reducible rfl)); try simp only [putL, List.set])
          refine flow_done (by kernel_rfl) ?_
          intro w7 hm7
          obtain ⟨c7, bx7⟩ := RSt.done hm7 (by rfl)
          have C7 := Lib.hid c7
          have BX7 := Lib.hid bx7
          clear c7 bx7 hm7 HD HST HQ
          have HZE : Hid ((Tryz.prog.info? 114).map (·.size) = some 15) := by unfold Hid; kernel_rfl
          by_cases hy : y = 0
          · have hyb : (y != 0) = false := by rw [hy]; rfl
            have HR1 := Lib.hid (HR.out.inv_go (by omega) (show stepF ck ((l.getD k default).code.getD p default) p R S = .go (p + 1) (upd R x.d.toNat (nv N)) S by rw [← HF.out, ← HXX.out, stepF_num hnum, HNY.out]; simp only [hyb, cond_false]))
            rw [hr8] at HR1
            subst hy
            go_wp2_with fail
            go_roundg (gk - 1)
            case measure => omega
            case rel => exact ⟨(p + 1), _, _, s + 1, by go_num, hp1, by omega, by omega, C7.out, HR1.out⟩
          · have hyb : (y != 0) = true := by simpa using hy
            obtain ⟨he, ht⟩ := HR.out.inv_done (by omega) (show stepF ck ((l.getD k default).code.getD p default) p R S = .done (.stop y) by rw [← HF.out, ← HXX.out, stepF_num hnum, HNY.out]; simp only [hyb, cond_true])
            go_wp2_with (first
              | ((with_reducible show wpList _ _ _ (Oper.mk none (.store 114 (.tmp 8) _) _ _ _ _ :: _) _ _); refine wpList_store_row rfl 114 _ _ rfl zo rfl 114 endZ (enC (.stop y)) C7.out.oo rfl rfl (enC_one _) HZE.out ?_))
            exact bodyPost_ret (results_cell_row rfl _ _ zo 114 (enC (.stop y)) (0, 0) _ rfl (C7.out.oo.row _) Tryz.underlying114 rfl HZE.out) rfl (by rw [he, ht]; exact CSt.ret con C7.out (.stop y))
      · as_aux_lemma =>
          have HLD : Hid (leadsR x.op = true) := by unfold Hid leadsR; rcases hop with h | h | h | h <;> rw [h] <;> rfl
          have hdp := HGX.out.d
          rw [show (partsR x.op).1 = 3 by rcases hop with h | h | h | h <;> rw [h] <;> rfl] at hdp
          have hdq := isPartB_place hdp
          have hg6 := HG.out.reg
          have har : 0 ≤ x.a ∧ x.a < f.regs := by
            have haa := HGX.out.a
            rcases hop with h | h | h | h
            · rw [h] at haa; exact isPartB_reg haa
            · rw [h] at haa; exact isPartB_reg haa
            · rw [h] at haa; have := isPartB_zero haa; omega
            · rw [h] at haa; exact isPartB_reg haa
          obtain ⟨ra, ha6⟩ : ∃ r : Nat, x.a = r := ⟨x.a.toNat, by omega⟩
          have ha7 : ra < 6 := by omega
          have ha9 : (ra : Int) < 6 := by omega
          have ha8 : x.a.toNat = ra := by omega
          obtain ⟨q, hq1, hq2, hq3⟩ := next_step (ck := ck) (x := x) (p := p) (R := R) (S := S) (nc := nc) hop ⟨hdq.1, by have := HNC.out; omega⟩ (fun hne => by
            have h := HG.out.next (p := p) (by have := HNC.out; omega) (by rw [← HXX.out]; unfold goesR; rcases hop with h | h | h | h
                                                                           · rw [h]; rfl
                                                                           · rw [h]; rfl
                                                                           · exact absurd h hne
                                                                           · rw [h]; rfl)
            have := HNC.out
            omega)
          have HR1 := Lib.hid (HR.out.inv_go (by omega) (by rw [← HF.out, ← HXX.out]; exact hq3))
          rw [ha8] at hq1
          go_wp2_with (first
            | (go_at_call 163; refine (gleads_any x.op _).mono ?_; rw [HLD.out]; rintro r w' ⟨rfl, rfl⟩))
          have HC : Hid (∀ (l : Array Bool) (w' : World), Ext w6 w' → Calls Tryz.prog 205 #[(.agg #[.int .i64 x.op, .int .i64 x.d, .int .i64 x.a, .int .i64 x.b, .int .i64 x.ty.base, .int .i64 x.ty.bits, .string x.ty.name, .bool x.ty.opt, .bool x.ty.err, .string x.name, .slice x.A x.args.length x.cap]), .agg (R ra).cells.toArray, .int .i64 p] w' fun e w'' => e = .returned (.int .i64 q) ∧ Ext w6 w'') := fun l w' h => by
            have h2 := next_any x (R ra) p w' ⟨by omega, by omega⟩ hop
            rw [hq1] at h2
            exact h2.mono fun e w'' z => ⟨z.1, h.trans z.2⟩
          have HD : Hid (∀ (w' : World), Ext w6 w' → w'.cell? ⟨bx, 0, none⟩ = some (.int .i64 x.op) ∧ w'.cell? ⟨bx, 1, none⟩ = some (.int .i64 x.d) ∧ w'.cell? ⟨bx, 2, none⟩ = some (.int .i64 x.a) ∧ w'.cell? ⟨bx, 3, none⟩ = some (.int .i64 x.b) ∧ w'.cell? ⟨bx, 4, none⟩ = some (.int .i64 x.ty.base) ∧ w'.cell? ⟨bx, 5, none⟩ = some (.int .i64 x.ty.bits) ∧ w'.cell? ⟨bx, 6, none⟩ = some (.string x.ty.name) ∧ w'.cell? ⟨bx, 7, none⟩ = some (.bool x.ty.opt) ∧ w'.cell? ⟨bx, 8, none⟩ = some (.bool x.ty.err) ∧ w'.cell? ⟨bx, 9, none⟩ = some (.string x.name) ∧ w'.cell? ⟨bx, 10, none⟩ = some (.slice x.A x.args.length x.cap)) := fun w' h => rgA_cells (BX.out.ext h)
          have HST : ∀ (i : Nat) (l : Array Bool) (w' : World), Ext w6 w' ↔ Ext w6 w' := fun _ _ _ => Iff.rfl
          have HZ2 := HZ
          clear d0 d1 d2 d3 d4 d5 d6 d7 d8 d9 d10 zx
          refine flow_begin (fun _ w' => Ext w6 w') #[false, false, false, false, false, false, false, false] rfl (by kernel_rfl) (fun _ _ _ _ _ h => h) ((Ext.refl _).drew) (fun HQ => ?_)
          (refine tk 0 53 ?_ rfl (by kernel_rfl) HQ (HST 0) (by rfl) (fun l w' hF => ?_) ?_; rotate_left; (focus (have hq := HD.out _ hF; go_simp; try with_reducible rfl)); try simp only [putL, List.set])
          (refine tk 1 54 ?_ rfl (by kernel_rfl) HQ (HST 1) (by rfl) (fun l w' hF => ?_) ?_; rotate_left; (focus (have hq := HD.out _ hF; go_simp; try with_reducible rfl)); try simp only [putL, List.set])
          (refine tk 2 55 ?_ rfl (by kernel_rfl) HQ (HST 2) (by rfl) (fun l w' hF => ?_) ?_; rotate_left; (focus (have hq := HD.out _ hF; go_simp; try with_reducible rfl)); try simp only [putL, List.set])
          (refine tk 3 56 ?_ rfl (by kernel_rfl) HQ (HST 3) (by rfl) (fun l w' hF => ?_) ?_; rotate_left; (focus (have hq := HD.out _ hF; go_simp; try with_reducible rfl)); try simp only [putL, List.set])
          (refine flow_take (i := 4) (t := 57) (oi := ⟨some 57, _, _, _, _, _⟩) rfl rfl (by kernel_rfl) (by kernel_rfl) (by kernel_rfl) HQ (HST 4) (does_load (by rfl) 37 _ rfl (zr) (ra * 13) rfl ((R ra).cells) _ (fun l w' hF => (C6.out.ext' hF).rr.range ha7) Tryz.underlying37 rfl HZ.out) ?_; try simp only [putL, List.set])
          (refine tk 5 58 ?_ rfl (by kernel_rfl) HQ (HST 5) (by rfl) (fun l w' hF => ?_) ?_; rotate_left; (focus (have hq := HD.out _ hF; go_simp; try with_reducible rfl)); try simp only [putL, List.set])
          (refine tc 6 59 rfl (by kernel_rfl) HQ (HST 6) (by rfl) (fun l w' hF => ?_) ((HC.out)) ?_; (focus (have hq := HD.out _ hF; go_simp; try simp only [enters_gnext _ _])); try simp only [putL, List.set])
          (refine tk 7 12 ?_ rfl (by kernel_rfl) HQ (HST 7) (by rfl) (fun l w' hF => ?_) ?_; rotate_left; (focus (have hq := HD.out _ hF; go_simp; try with_reducible rfl)); try simp only [putL, List.set])
          refine flow_done (by kernel_rfl) ?_
          intro w7 x7
          have C7 := Lib.hid (C6.out.ext' x7)
          clear HD HST HQ HC x7
          go_wp2_with fail
          go_roundg (gk - 1)
          case measure => omega
          case rel => exact ⟨q, _, _, s + 1, by go_num, hq2, by omega, by omega, C7.out, HR1.out⟩
theorem gcall_n (l : List Rf) (A : Option Addr) (len cap : Nat) (ck : Bool) (wb : World) (m : Nat) (hlen : len = l.length) (hval : validR l = 0) (hA : RfAt wb A l) (hmb : wb.heap.size ≤ m) : ∀ (n d : Nat), d + n = 31 → GCall l A len cap ck wb m d := by
  intro n
  induction n with
  | zero => intro d hd; exact gcall_deep l A len cap ck wb m d (by omega) (by omega)
  | succ n ih => intro d hd; exact gcall_step l A len cap ck wb m d hlen hval hA hmb (by omega) (ih (d + 1) (by omega))
theorem gcall_one (l : List Rf) (A : Option Addr) (len cap : Nat) (ck : Bool) (wb : World) (m : Nat) (hlen : len = l.length) (hval : validR l = 0) (hA : RfAt wb A l) (hmb : wb.heap.size ≤ m) : GCall l A len cap ck wb m 1 := gcall_n l A len cap ck wb m hlen hval hA hmb 30 1 rfl
end Go.Proofs.YtknaemlnhediaaaGreatDoor.c
