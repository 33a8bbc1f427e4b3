/- Contract of regs.run: what a call comes to. The table strings.asciiSpace holds what its text lays; lengths are bounded. Contracts of regs.Run and regs.Steps: the outcome of a call, and its steps. The table strings.asciiSpace holds what its text lays; lengths are bounded. The code that known of the statements about register code looks at: its contract, and that of known; Same of outcomes. The table strings.asciiSpace holds what its text lays. -/
import Derived.Test.YtknaemlnhediaaaGreatDoorGcall
import Derived.Test.YtknaemlnhediaaaGreatDoorHval
import Derived.Test.YtknaemlnhediaaaGreatDoorFlow
import Derived.Test.YtknaemlnhediaaaGreatDoorHm
namespace Go.Proofs.YtknaemlnhediaaaGreatDoor.c
open Go.RowKit
set_option linter.unusedVariables false
set_option maxRecDepth 100000
set_option maxHeartbeats 12800000
set_option linter.unusedSimpArgs false
/-- what regs.run leaves -/
def RRet (l : List Rf) (nm : ByteArray) (av : List Val) (A : Option Addr) (len cap : Nat) (ck : Bool) (w : World) (e : Ending) (w' : World) : Prop :=
  ∃ mp, e = .returned (.tuple #[mp, .agg (enC (outR l nm av ck).1), .int .i64 (runE l nm av)]) ∧ Ext w w' ∧ (runE l nm av = 0 → ∃ m, mp = .pointer (some ⟨m, 0, none⟩) ∧ Blk w' m 122 #[.slice A len cap, .bool ck, .int .i64 (outR l nm av ck).2])
theorem out_bad {l : List Rf} {nm : ByteArray} {av : List Val} {ck : Bool} (h : runE l nm av ≠ 0) : outR l nm av ck = (.ret default, 0) := by
  unfold outR
  rw [if_neg h]
theorem RRet.bad {l : List Rf} {nm : ByteArray} {av : List Val} {A : Option Addr} {len cap : Nat} {ck : Bool} {w w' : World} {e : Int} (h : runE l nm av = e) (h0 : e ≠ 0) (x : Ext w w') : RRet l nm av A len cap ck w (.returned (.tuple #[.pointer none, .agg endZ, .int .i64 e])) w' := by
  subst h
  refine ⟨.pointer none, ?_, x, fun h => absurd h h0⟩
  rw [out_bad h0]
  rfl
theorem Blk.endz {w : World} {g : Nat} (h : Blk w g 114 endZ) : Blk (w.setRow g endZ) g 114 endZ := h.row _
/-- while the outcome of a run is copied: operation 3 stores it -/
def F19 (w0 : World) (zo z17 mm : Nat) (mc : Array Value) (en : En) (l' : Array Bool) (w' : World) : Prop :=
  Ext w0 w' ∧ Blk w' z17 114 (enC en) ∧ Blk w' mm 122 mc ∧ l'.size = 5 ∧ Blk w' zo 114 (if l'.getD 3 false = true then enC en else endZ)
section
variable {w0 w' : World} {zo z17 mm : Nat} {mc : Array Value} {en : En} {l' : Array Bool}
theorem F19.same {i : Nat} (h : i ≠ 3) (l' : Array Bool) (w' : World) : F19 w0 zo z17 mm mc en (l'.setIfInBounds i true) w' ↔ F19 w0 zo z17 mm mc en l' w' := by
  unfold F19
  rw [getD_set_ne false h, Array.size_setIfInBounds]
theorem F19.range (h : F19 w0 zo z17 mm mc en l' w') : w'.rangeAt z17 0 (enC en).toList := by
  intro j v hv
  rw [Nat.zero_add, h.2.1.cell]
  simpa using hv
theorem endSize {a : Array Value} (h : a = enC en ∨ a = endZ) : a.size = 15 := by
  rcases h with rfl | rfl
  · exact enC_size en
  · rfl
theorem F19.put (h : F19 w0 zo z17 mm mc en l' w') (h1 : w0.heap.size ≤ zo) (h2 : z17 ≠ zo) (h3 : mm ≠ zo) : F19 w0 zo z17 mm mc en (l'.setIfInBounds 3 true) (w'.setCells zo 0 (enC en).toList) := by
  obtain ⟨a1, a2, a3, a4, a5⟩ := h
  have e : (l'.setIfInBounds 3 true).getD 3 false = true := by simp [Array.getD, a4]
  refine ⟨a1.setCells h1 _ _, a2.setCells_far h2 _ _, a3.setCells_far h3 _ _, by rw [Array.size_setIfInBounds]; exact a4, ?_⟩
  rw [if_pos e]
  have h5 : (if l'.getD 3 false = true then enC en else endZ).size = 15 := endSize (en := en) (by by_cases h : l'.getD 3 false = true <;> simp [h])
  have h6 := a5.over (enC en).toList (by rw [h5, Array.length_toList, enC_size])
  rw [Array.toArray_toList] at h6
  exact h6
theorem F19.there (h : F19 w0 zo z17 mm mc en l' w') : w'.there zo 0 (enC en).size := by
  refine h.2.2.2.2.there0 ?_
  rw [enC_size]
  exact (endSize (en := en) (by by_cases h : l'.getD 3 false = true <;> simp [h])).symm
end
theorem grun_any (A : Option Addr) (cap : Nat) (l : List Rf) {len : Nat} (nm : ByteArray) (vA : Option Addr) (vc : Nat) (av : List Val) {na : Nat} (ck : Bool) (w : World) (g : Laid w) (hlen : len = l.length) (hna : na = av.length) (hA : RfAt w A l) (hV : ValsAt w vA av) (hl : len ≤ 9223372036854775806) (hna2 : na ≤ 1000) (hc : l.length ≤ 48 → countR l ≤ 9223372036854775806) (hin : RgsIn l) :
    Calls Tryz.prog 73 #[.slice A len cap, .string nm, .slice vA na vc, .bool ck] w fun e w' => RRet l nm av A len cap ck w e w' := by
  have HA := Lib.hid hA
  have HV := Lib.hid hV
  have HLN := Lib.hid hlen
  have HNA := Lib.hid hna
  have HZE : Hid ((Tryz.prog.info? 114).map (·.size) = some 15) := by unfold Hid; kernel_rfl
  have HVALC : Hid (∀ w1, Ext w w1 → Calls Tryz.prog 24 #[.slice A len cap] w1 fun e w' => e = .returned (.int .i64 (validR l)) ∧ Ext w1 w') := fun w1 x => by
    have h := gValidate_any A cap l w1 (g.ext x) (hA.ext x) (by omega) hc hin
    rwa [← hlen] at h
  have HIXC : Hid (∀ w1, Ext w w1 → Calls Tryz.prog 78 #[.slice A len cap, .string nm] w1 fun e w' => e = .returned (.int .i64 (indexR l nm)) ∧ Ext w1 w') := fun w1 x => by
    have h := gindex_any A cap l nm w1 (hA.ext x) (by omega)
    rwa [← hlen] at h
  have BZ : Hid (Blk (w.alloc (.cells #[.int .i64 0, .int .i64 0, .int .i64 0, .int .i64 0, .string ⟨#[]⟩, .bool false, .bool false, .int .i64 0, .bool false, .string ⟨#[]⟩, .int .i64 0, .int .i64 0, .string ⟨#[]⟩, .bool false, .bool false] 114)) w.heap.size 114 endZ) := Blk.new w 114 endZ
  clear hA hV hlen hna hin hc
  obtain ⟨v, hv⟩ : ∃ v, validR l = v := ⟨_, rfl⟩
  rw [hv] at HVALC
  by_cases h0 : v = 0
  · subst h0
    have HV0 := Lib.hid hv
    rcases indexR_cases l nm with h | ⟨j, h, hj⟩
    · have HR : Hid (runE l nm av = 4) := by unfold Hid runE; rw [HV0.out, if_neg (by decide), h, if_pos (by decide)]
      have HI := Lib.hid h
      rw [h] at HIXC
      clear h hv
      go_enter Tryz.func73, Tryz.ntmps73
      go_wp2_with (first
        | (go_at_call 24; (with_reducible refine (HVALC.out _ (by (with_reducible repeat first | exact Ext.refl _ | assumption | refine Ext.alloc ?_ _ | refine Ext.drew ?_ | refine Ext.trans ?_ (by assumption)))).mono ?_); rintro r w1 ⟨rfl, x1⟩)
        | (go_at_call 78; (with_reducible refine (HIXC.out _ (by (with_reducible repeat first | exact Ext.refl _ | assumption | refine Ext.alloc ?_ _ | refine Ext.drew ?_ | refine Ext.trans ?_ (by assumption)))).mono ?_); rintro r w2 ⟨rfl, x2⟩)
        | ((with_reducible show wpList _ _ _ (Oper.mk none (.store 114 (.tmp 9) _) _ _ _ _ :: _) _ _); refine wpList_store_row rfl 114 _ _ rfl w.heap.size rfl 114 endZ endZ (BZ.out.ext (by (with_reducible repeat first | exact Ext.refl _ | assumption | refine Ext.alloc ?_ _ | refine Ext.drew ?_ | refine Ext.trans ?_ (by assumption)))) rfl rfl (enC_one (.ret default)) HZE.out ?_))
      exact bodyPost_ret (results_tmp_row_tmp rfl _ _ w.heap.size 114 endZ (0, 0) _ rfl ((BZ.out.ext (by (with_reducible repeat first | exact Ext.refl _ | assumption | refine Ext.alloc ?_ _ | refine Ext.drew ?_ | refine Ext.trans ?_ (by assumption)))).row _) Tryz.underlying114 rfl HZE.out _ _ rfl rfl) rfl (RRet.bad HR.out (by decide) (by (repeat (first | (with_reducible exact Ext.refl _) | (with_reducible assumption) | (with_reducible refine Ext.alloc ?_ _) | (with_reducible refine Ext.setRow ?_ ?_ _; rotate_left; first | exact Nat.le_refl _ | omega | (simp; done) | (simp; omega)) | (with_reducible refine Ext.trans ?_ (by with_reducible assumption))))))
    · obtain ⟨f, hf⟩ : ∃ f, f = l.getD j default := ⟨_, rfl⟩
      have HRN : Hid (runE l nm av = if (na : Int) ≠ f.params then 10 else if av.all okV = true then 0 else 1) := by
        unfold Hid runE
        rw [HV0.out, if_neg (by decide), h, if_neg (by omega), Int.toNat_natCast, ← hf, HNA.out]
      rw [h] at HIXC
      have HJ := Lib.hid h
      have HF := Lib.hid hf
      have HJL := Lib.hid hj
      have HAT : Hid (∀ w1, Ext w w1 → ∃ b off, A = some ⟨b, off, none⟩ ∧ b < w1.heap.size ∧ w1.cell? ⟨b, off + j * 9 + 1, none⟩ = some (.int .i64 f.params)) := fun w1 x => by
        obtain ⟨b, off, hA, hb, _, c1, _⟩ := (HA.out.ext x).at_ (k := j) HJL.out HF.out
        exact ⟨b, off, hA, hb, c1⟩
      obtain ⟨b, off, rfl, hb, c1⟩ := HAT.out w (Ext.refl w)
      have hjl : j < len := by have := HLN.out; have := HJL.out; omega
      have hjl2 : (j : Int) < len := by omega
      have hnj : ¬ (j : Int) < 0 := by omega
      have hbw : b ≠ w.heap.size := by omega
      clear hj h hv hf
      by_cases hp : (na : Int) = f.params
      · rw [if_neg (by simpa using hp)] at HRN
        rw [← hp] at c1
        go_enter Tryz.func73, Tryz.ntmps73
        go_wp2_with (first
          | (go_at_call 24; (with_reducible refine (HVALC.out _ (by (with_reducible repeat first | exact Ext.refl _ | assumption | refine Ext.alloc ?_ _ | refine Ext.drew ?_ | refine Ext.trans ?_ (by assumption)))).mono ?_); rintro r w1 ⟨rfl, x1⟩; have y1 := x1.facts; have z1 := x1.size; (try simp at z1); have hb1 : b < w1.heap.size := (by omega))
          | (go_at_call 78; (with_reducible refine (HIXC.out _ (by (with_reducible repeat first | exact Ext.refl _ | assumption | refine Ext.alloc ?_ _ | refine Ext.drew ?_ | refine Ext.trans ?_ (by assumption)))).mono ?_); rintro r w2 ⟨rfl, x2⟩; have y2 := x2.facts; have z2 := x2.size; have hb2 : b < w2.heap.size := (by omega)))
        have HX2 : Hid (Ext w w2) := by unfold Hid; (with_reducible repeat first | exact Ext.refl _ | assumption | refine Ext.alloc ?_ _ | refine Ext.drew ?_ | refine Ext.trans ?_ (by assumption))
        have HBZ2 := Lib.hid ((BZ.out.ext x1).ext x2)
        obtain ⟨bz, hbz⟩ : ∃ bz, bz = w2.heap.size := ⟨_, rfl⟩
        obtain ⟨zo, hzo⟩ : ∃ zo, zo = w.heap.size := ⟨_, rfl⟩
        have hzo2 := HBZ2.out.lt
        rw [← hzo] at HBZ2 hzo2 ⊢
        have hbz1 : zo < bz := by omega
        have hbz2 : bz ≤ w2.heap.size := by omega
        have hwz : w.heap.size ≤ zo := by omega
        clear x1 x2 y1 z1 y2 z2 hb1 hb2 BZ HVALC HIXC hbz hzo
        go_loopw [13, 41] (fun v i wq => ∃ q : Nat, q ≤ na ∧ i = .int .i64 q ∧ wq.ownsRow bz 37 13 v q (flatV ((av.map plainV).take q)) ∧ Ext w wq ∧ Blk wq zo 114 endZ ∧ bz ≤ wq.heap.size ∧ (∀ j, j < q → okV (av.getD j default) = true)) (fun _ i _ => na - (intOf i).toNat)
        case atStart => exact ⟨0, Nat.zero_le _, rfl, World.ownsRow_nil _ _ _ _, HX2.out, HBZ2.out, hbz2, fun j hj => by omega⟩
        case round =>
          clear HX2 HBZ2 hbz2
          obtain ⟨q, hq, rfl, ho, hx, hzz, hbz, hok⟩ := hrel
          have HO := Lib.hid ho
          have HX := Lib.hid hx
          have HZZ := Lib.hid hzz
          have HOK := Lib.hid hok
          by_cases hlt : q < na
          · have hqa : q < av.length := by have := HNA.out; omega
            have hlt2 : (q : Int) < na := by omega
            obtain ⟨u, hu⟩ : ∃ u, u = av.getD q default := ⟨_, rfl⟩
            obtain ⟨bv, ov, rfl, hbv, u0, u1, u2, u3, u4, u5, u6, u7, u8, u9, u10, u11, u12⟩ := (HV.out.ext hx).at_ (k := q) hqa hu
            have HU := Lib.hid hu
            clear ho hx hzz hok hu
            cases hou : okV u
            · have HOU := Lib.hid hou
              have HR : Hid (runE l nm av = 1) := by
                unfold Hid
                rw [HRN.out, if_neg]
                intro hall
                rw [List.all_eq_true] at hall
                have h9 := hall u (by rw [HU.out]; exact getD_mem hqa)
                rw [HOU.out] at h9
                cases h9
              clear hou
              go_wp2_with (first
                | (go_at_call 140; refine (gwithin_any _ _ _ _).mono ?_; rw [show inB u.n (-2147483648) 2147483648 = false from HOU.out]; rintro r w' ⟨rfl, rfl⟩)
                | ((with_reducible show wpList _ _ _ (Oper.mk none (.store 114 (.tmp 9) _) _ _ _ _ :: _) _ _); refine wpList_store_row rfl 114 _ _ rfl zo rfl 114 endZ endZ (HZZ.out.ext (by (repeat (first | (with_reducible exact Ext.refl _) | (with_reducible assumption) | (with_reducible refine Ext.alloc ?_ _) | (with_reducible refine Ext.setRow ?_ ?_ _; rotate_left; first | exact Nat.le_refl _ | omega | (simp; done) | (simp; omega)) | (with_reducible refine Ext.trans ?_ (by with_reducible assumption)))))) rfl rfl (enC_one (.ret default)) HZE.out ?_))
              exact bodyPost_ret (results_tmp_row_tmp rfl _ _ zo 114 endZ (0, 0) _ rfl ((HZZ.out.ext (by (repeat (first | (with_reducible exact Ext.refl _) | (with_reducible assumption) | (with_reducible refine Ext.alloc ?_ _) | (with_reducible refine Ext.setRow ?_ ?_ _; rotate_left; first | exact Nat.le_refl _ | omega | (simp; done) | (simp; omega)) | (with_reducible refine Ext.trans ?_ (by with_reducible assumption)))))).row _) Tryz.underlying114 rfl HZE.out _ _ rfl rfl) rfl (RRet.bad HR.out (by decide) ((HX.out.trans (by (repeat (first | (with_reducible exact Ext.refl _) | (with_reducible assumption) | (with_reducible refine Ext.alloc ?_ _) | (with_reducible refine Ext.setRow ?_ ?_ _; rotate_left; first | exact Nat.le_refl _ | omega | (simp; done) | (simp; omega)) | (with_reducible refine Ext.trans ?_ (by with_reducible assumption)))))).setRow hwz _))
            · have HOU := Lib.hid hou
              clear hou
              obtain ⟨i0, hi0, hz0, hz1, hz2⟩ := info_val_parts
              have HI := Lib.hid hi0
              have HZ0 := Lib.hid hz0
              have HZ1 := Lib.hid hz1
              have HZ2 := Lib.hid hz2
              clear hi0 hz0 hz1 hz2
              go_wp2_with (first
                | (go_at_call 140; refine (gwithin_any _ _ _ _).mono ?_; rw [show inB u.n (-2147483648) 2147483648 = true from HOU.out]; rintro r w' ⟨rfl, rfl⟩)
                | (at_builtin
                   refine wpList_append_own _ rfl _ _ 30 rfl bz 37 i0 _ 13 112 Tryz.underlying30 HI.out HZ0.out HZ1.out HZ2.out rfl (by decide) _ _ _ rfl (own_ext HO.out (by (repeat (first | (with_reducible exact Ext.refl _) | (with_reducible assumption) | (with_reducible refine Ext.alloc ?_ _) | (with_reducible refine Ext.setRow ?_ ?_ _; rotate_left; first | exact Nat.le_refl _ | omega | (simp; done) | (simp; omega)) | (with_reducible refine Ext.trans ?_ (by with_reducible assumption)))))) ⟨_, 0, none⟩ 1 1 (plainV u).cells rfl rfl ?c1 ?c2 ?c3 ?c4 ?c5 ?_))
              case c1 =>
                intro j2 u2 hj2
                rw [Addr.add_mid, Nat.zero_add]
                exact ((blk2 wr _ 37 (plainV u).cells.toArray).cell j2).trans (by simpa using hj2)
              case c2 => exact (plainV u).one
              case c3 => unfold maxLen; omega
              case c4 => omega
              case c5 => simp; omega
              intro v' w3 ow3 g3 _
              have OW3 := Lib.hid ow3
              have X3 : Hid (Ext w w3) := ((HX.out.trans (by (repeat (first | (with_reducible exact Ext.refl _) | (with_reducible assumption) | (with_reducible refine Ext.alloc ?_ _) | (with_reducible refine Ext.setRow ?_ ?_ _; rotate_left; first | exact Nat.le_refl _ | omega | (simp; done) | (simp; omega)) | (with_reducible refine Ext.trans ?_ (by with_reducible assumption)))))).grown g3 (fun k hk => by have := own_row HO.out k hk; omega))
              have Z3 : Hid (Blk w3 zo 114 endZ) := (g3.block zo (HZZ.out.ext (by (repeat (first | (with_reducible exact Ext.refl _) | (with_reducible assumption) | (with_reducible refine Ext.alloc ?_ _) | (with_reducible refine Ext.setRow ?_ ?_ _; rotate_left; first | exact Nat.le_refl _ | omega | (simp; done) | (simp; omega)) | (with_reducible refine Ext.trans ?_ (by with_reducible assumption)))))).lt (fun e => by have := own_row HO.out zo e.symm; omega)).trans (HZZ.out.ext (by (repeat (first | (with_reducible exact Ext.refl _) | (with_reducible assumption) | (with_reducible refine Ext.alloc ?_ _) | (with_reducible refine Ext.setRow ?_ ?_ _; rotate_left; first | exact Nat.le_refl _ | omega | (simp; done) | (simp; omega)) | (with_reducible refine Ext.trans ?_ (by with_reducible assumption))))))
              have hbz3 : bz ≤ w3.heap.size := by have := g3.size; simp at this; omega
              have HOK3 : Hid (∀ j, j < q + 1 → okV (av.getD j default) = true) := fun j hj => by
                rcases Nat.lt_or_ge j q with h | h
                · exact HOK.out j h
                · obtain rfl : j = q := by omega
                  rw [← HU.out]; exact HOU.out
              clear ow3 g3
              go_wp2_with fail
              go_roundw
              case rel =>
                refine ⟨q + 1, by omega, by go_num, ?_, X3.out, Z3.out, hbz3, HOK3.out⟩
                rw [List.take_succ_eq_append_getElem (by rw [List.length_map]; exact hqa), flatV_snoc, List.getElem_map]
                have e9 : av[q] = u := by rw [HU.out, List.getD, List.getElem?_eq_getElem hqa]; rfl
                rw [e9]
                exact OW3.out
              case measure => simp [intOf]; omega
          · obtain rfl : q = na := by omega
            rw [List.take_of_length_le (by rw [List.length_map]; have := HNA.out; omega)] at HO
            obtain ⟨vA9, vc9, hv9, hvals⟩ := own_vals HO.out (by rw [List.length_map]; exact HNA.out)
            subst hv9
            have HR : Hid (runE l nm av = 0) := by
              unfold Hid
              rw [HRN.out, if_pos]
              rw [List.all_eq_true]
              intro x hx
              obtain ⟨i, hi, rfl⟩ := List.getElem_of_mem hx
              have h9 := HOK.out i (by have := HNA.out; omega)
              rwa [List.getD, List.getElem?_eq_getElem hi, Option.getD_some] at h9
            obtain ⟨en, t, hr⟩ := Run.total l ck 1 j (av.map plainV) 0
            have HOUT := Lib.hid (outR_eq (ck := ck) HR.out HJ.out hr)
            have HVALS := Lib.hid hvals
            clear ho hx hzz hok hvals HO
            have hws := HX.out.size
            have hq4 : (q : Int) ≤ 4 := by
              have h := ((validR_parts HV0.out).2.2 j HJL.out).1.par
              rw [← HF.out] at h
              omega
            have MB : Hid (Blk (wr.alloc (.cells #[.slice (some ⟨b, off, none⟩) len cap, .bool ck, .int .i64 0] 122)) wr.heap.size 122 #[.slice (some ⟨b, off, none⟩) len cap, .bool ck, .int .i64 0]) := Blk.new _ _ _
            have XM : Hid (Ext w (wr.alloc (.cells #[.slice (some ⟨b, off, none⟩) len cap, .bool ck, .int .i64 0] 122))) := HX.out.alloc _
            have HCALL : Hid (Calls Tryz.prog 141 #[.pointer (some ⟨wr.heap.size, 0, none⟩), .int .i64 j, .slice vA9 q vc9, .int .i64 1] (wr.alloc (.cells #[.slice (some ⟨b, off, none⟩) len cap, .bool ck, .int .i64 0] 122)) fun e w' => GRet wr.heap.size (some ⟨b, off, none⟩) len cap ck en t (wr.alloc (.cells #[.slice (some ⟨b, off, none⟩) len cap, .bool ck, .int .i64 0] 122)) e w') :=
              gcall_one l (some ⟨b, off, none⟩) len cap ck w wr.heap.size HLN.out HV0.out HA.out hws j (av.map plainV) 0 _ vA9 q vc9 en t hjl (by rw [List.length_map]; exact HNA.out) (by rw [List.length_map]; have := HNA.out; omega) (by omega) XM.out MB.out (HVALS.out.ext ((Ext.refl _).alloc _)) hr
            have hnam : wr.heap.size ≠ zo := by have := HZZ.out.lt; omega
            clear hr
            go_wp2_with (first
              | (go_at_call 141; (with_reducible refine HCALL.out.mono ?_); rintro r w9 ⟨rfl, g9, m9⟩; have z9 := m9.lt)
              | ((with_reducible show wpList _ _ _ (Oper.mk none (.store 114 (.tmp 17) _) _ _ _ _ :: _) _ _); refine wpList_store_row rfl 114 _ _ rfl w9.heap.size rfl 114 endZ (enC en) (Blk.new w9 _ _) rfl (by rw [enC_size]; rfl) (enC_one en) (by rw [enC_size]; exact HZE.out) ?_))
            have X9 : Hid (Ext w w9) := XM.out.grown g9 (fun k e => by have := Option.some.inj e; omega)
            have Z9 : Hid (Blk w9 zo 114 endZ) := (HZZ.out.ext ((Ext.refl _).alloc _)).grown g9 hnam.symm
            have F0 : Hid (F19 w zo w9.heap.size wr.heap.size #[.slice (some ⟨b, off, none⟩) len cap, .bool ck, .int .i64 t] en #[false, false, false, false, false] ((w9.alloc (.cells endZ 114)).setRow w9.heap.size (enC en))) :=
              ⟨(X9.out.alloc _).setRow (by have := X9.out.size; omega) _, (Blk.new w9 114 endZ).row _, (setRow_other _ _ _ _ (by omega)).trans (m9.alloc _), rfl, (setRow_other _ _ _ _ (by have := Z9.out.lt; omega)).trans (Z9.out.alloc _)⟩
            have hn17 : w9.heap.size ≠ zo := by have := Z9.out.lt; omega
            change Hid (F19 w zo w9.heap.size wr.heap.size #[.slice (some ⟨b, off, none⟩) len cap, .bool ck, .int .i64 t] en #[false, false, false, false, false] ((w9.alloc (.cells #[.int .i64 0, .int .i64 0, .int .i64 0, .int .i64 0, .string ⟨#[]⟩, .bool false, .bool false, .int .i64 0, .bool false, .string ⟨#[]⟩, .int .i64 0, .int .i64 0, .string ⟨#[]⟩, .bool false, .bool false] 114)).setRow w9.heap.size (enC en))) at F0
            generalize ((w9.alloc (.cells #[.int .i64 0, .int .i64 0, .int .i64 0, .int .i64 0, .string ⟨#[]⟩, .bool false, .bool false, .int .i64 0, .bool false, .string ⟨#[]⟩, .int .i64 0, .int .i64 0, .string ⟨#[]⟩, .bool false, .bool false] 114)).setRow w9.heap.size (enC en)) = w10 at F0 ⊢
            generalize w9.heap.size = z17 at F0 hn17 ⊢
            generalize wr.heap.size = mm at F0 hnam ⊢
            clear X9 Z9 g9 m9 HCALL XM MB HZZ HX
            have HST : ∀ (i : Nat) (_ : i ≠ 3 := by decide) (l' : Array Bool) (w' : World), F19 w zo z17 mm #[.slice (some ⟨b, off, none⟩) len cap, .bool ck, .int .i64 t] en (l'.setIfInBounds i true) w' ↔ F19 w zo z17 mm #[.slice (some ⟨b, off, none⟩) len cap, .bool ck, .int .i64 t] en l' w' := fun i h l' w' => F19.same h l' w'
            go_wp2_with fail
            refine flow_begin (F19 w zo z17 mm #[.slice (some ⟨b, off, none⟩) len cap, .bool ck, .int .i64 t] en) #[false, false, false, false, false] rfl (by kernel_rfl) (fun _ _ _ _ _ h => h) ((by obtain ⟨a1, a2, a3, a4, a5⟩ := F0.out; exact ⟨a1.drew, a2.drew, a3.drew, a4, a5.drew⟩)) (fun HQ => ?_)
            (refine tk 0 69 ?_ rfl (by kernel_rfl) HQ (HST 0) (by rfl) (fun l w' hF => ?_) ?_; rotate_left; (focus (go_simp; try with_reducible rfl)); try simp only [putL, List.set])
            (refine flow_take (i := 1) (t := 70) (oi := ⟨some 70, _, _, _, _, _⟩) rfl rfl (by kernel_rfl) (by kernel_rfl) (by kernel_rfl) HQ (HST 1) (does_load (by rfl) 114 _ rfl z17 0 rfl (enC en).toList _ (fun l w' hF => hF.range) Tryz.underlying114 rfl (by rw [Array.length_toList, enC_size]; exact HZE.out)) ?_; try simp only [Act.put, List.setIfInBounds_toArray, List.set_cons_zero, List.set_cons_succ])
            (refine tk 2 8 ?_ rfl (by kernel_rfl) HQ (HST 2) (by rfl) (fun l w' hF => ?_) ?_; rotate_left; (focus (go_simp; try with_reducible rfl)); try simp only [putL, List.set])
            refine flow_put (i := 3) (oi := ⟨none, _, _, _, _, none⟩) rfl rfl (stores_mid (i := 3) rfl 114 _ _ rfl zo 0 (enC en) rfl rfl (fun l w' h => h.there) (by rw [enC_size]; exact HZE.out) (enC_all en) (fun l w' h => h.put hwz hn17 hnam)) (by kernel_rfl) ?_
            try simp only [Act.put, List.setIfInBounds_toArray, List.set_cons_zero, List.set_cons_succ]
            (refine tk 4 10 ?_ rfl (by kernel_rfl) HQ (HST 4) (by rfl) (fun l w' hF => ?_) ?_; rotate_left; (focus (go_simp; try with_reducible rfl)); try simp only [putL, List.set])
            refine flow_done (by kernel_rfl) ?_
            intro w11 hF
            obtain ⟨a1, a2, a3, a4, a5⟩ := hF
            rw [if_pos (by rfl)] at a5
            have A1 := Lib.hid a1
            have A3 := Lib.hid a3
            have A5 := Lib.hid a5
            clear a1 a2 a3 a4 a5 HST HQ
            go_wp2_with fail
            refine bodyPost_ret (results_tmp_row_tmp rfl _ _ zo 114 (enC en) (0, 0) _ rfl A5.out Tryz.underlying114 rfl (by rw [enC_size]; exact HZE.out) (.pointer (some ⟨mm, 0, none⟩)) (.int .i64 0) rfl rfl) rfl ?_
            refine ⟨.pointer (some ⟨mm, 0, none⟩), by rw [HR.out, HOUT.out], A1.out, fun _ => ⟨mm, rfl, by rw [HOUT.out]; exact A3.out⟩⟩
      · have hpb : ((na : Int) != f.params) = true := by rw [bne_iff_ne]; exact hp
        rw [if_pos hp] at HRN
        have HR := HRN
        go_enter Tryz.func73, Tryz.ntmps73
        go_wp2_with (first
          | (go_at_call 24; (with_reducible refine (HVALC.out _ (by (with_reducible repeat first | exact Ext.refl _ | assumption | refine Ext.alloc ?_ _ | refine Ext.drew ?_ | refine Ext.trans ?_ (by assumption)))).mono ?_); rintro r w1 ⟨rfl, x1⟩; have y1 := x1.facts; have z1 := x1.size; (try simp at z1); have hb1 : b < w1.heap.size := (by omega))
          | (go_at_call 78; (with_reducible refine (HIXC.out _ (by (with_reducible repeat first | exact Ext.refl _ | assumption | refine Ext.alloc ?_ _ | refine Ext.drew ?_ | refine Ext.trans ?_ (by assumption)))).mono ?_); rintro r w2 ⟨rfl, x2⟩; have y2 := x2.facts; have z2 := x2.size; have hb2 : b < w2.heap.size := (by omega))
          | ((with_reducible show wpList _ _ _ (Oper.mk none (.store 114 (.tmp 9) _) _ _ _ _ :: _) _ _); refine wpList_store_row rfl 114 _ _ rfl w.heap.size rfl 114 endZ endZ (BZ.out.ext (by (with_reducible repeat first | exact Ext.refl _ | assumption | refine Ext.alloc ?_ _ | refine Ext.drew ?_ | refine Ext.trans ?_ (by assumption)))) rfl rfl (enC_one (.ret default)) HZE.out ?_))
        exact bodyPost_ret (results_tmp_row_tmp rfl _ _ w.heap.size 114 endZ (0, 0) _ rfl ((BZ.out.ext (by (with_reducible repeat first | exact Ext.refl _ | assumption | refine Ext.alloc ?_ _ | refine Ext.drew ?_ | refine Ext.trans ?_ (by assumption)))).row _) Tryz.underlying114 rfl HZE.out _ _ rfl rfl) rfl (RRet.bad HR.out (by decide) (by (repeat (first | (with_reducible exact Ext.refl _) | (with_reducible assumption) | (with_reducible refine Ext.alloc ?_ _) | (with_reducible refine Ext.setRow ?_ ?_ _; rotate_left; first | exact Nat.le_refl _ | omega | (simp; done) | (simp; omega)) | (with_reducible refine Ext.trans ?_ (by with_reducible assumption))))))
  · have HR : Hid (runE l nm av = v) := by unfold Hid runE; rw [hv, if_pos h0]
    have hb : (v != 0) = true := by rw [bne_iff_ne]; exact h0
    clear hv
    go_enter Tryz.func73, Tryz.ntmps73
    go_wp2_with (first
      | (go_at_call 24; (with_reducible refine (HVALC.out _ (by (with_reducible repeat first | exact Ext.refl _ | assumption | refine Ext.alloc ?_ _ | refine Ext.drew ?_ | refine Ext.trans ?_ (by assumption)))).mono ?_); rintro r w1 ⟨rfl, x1⟩)
      | ((with_reducible show wpList _ _ _ (Oper.mk none (.store 114 (.tmp 9) _) _ _ _ _ :: _) _ _); refine wpList_store_row rfl 114 _ _ rfl w.heap.size rfl 114 endZ endZ (BZ.out.ext (by (with_reducible repeat first | exact Ext.refl _ | assumption | refine Ext.alloc ?_ _ | refine Ext.drew ?_ | refine Ext.trans ?_ (by assumption)))) rfl rfl (enC_one (.ret default)) HZE.out ?_))
    exact bodyPost_ret (results_tmp_row_tmp rfl _ _ w.heap.size 114 endZ (0, 0) _ rfl ((BZ.out.ext (by (with_reducible repeat first | exact Ext.refl _ | assumption | refine Ext.alloc ?_ _ | refine Ext.drew ?_ | refine Ext.trans ?_ (by assumption)))).row _) Tryz.underlying114 rfl HZE.out _ _ rfl rfl) rfl (RRet.bad HR.out h0 (by (repeat (first | (with_reducible exact Ext.refl _) | (with_reducible assumption) | (with_reducible refine Ext.alloc ?_ _) | (with_reducible refine Ext.setRow ?_ ?_ _; rotate_left; first | exact Nat.le_refl _ | omega | (simp; done) | (simp; omega)) | (with_reducible refine Ext.trans ?_ (by with_reducible assumption))))))
theorem enC_split (en : En) : ∃ (k y : Int) (v : Val), enC en = #[.int .i64 k, .int .i64 y, .int .i64 v.ty.base, .int .i64 v.ty.bits, .string v.ty.name, .bool v.ty.opt, .bool v.ty.err, .int .i64 v.n, .bool v.null, .string v.err, .int .i64 v.of.base, .int .i64 v.of.bits, .string v.of.name, .bool v.of.opt, .bool v.of.err] ∧
    outC en = #[.int .i64 k, .int .i64 v.ty.base, .int .i64 v.ty.bits, .string v.ty.name, .bool v.ty.opt, .bool v.ty.err, .int .i64 v.n, .bool v.null, .string v.err, .int .i64 v.of.base, .int .i64 v.of.bits, .string v.of.name, .bool v.of.opt, .bool v.of.err, .int .i64 y, .slice none 0 0] := by
  cases en with
  | ret v => exact ⟨0, 0, v, rfl, rfl⟩
  | stop y => exact ⟨1, y, default, rfl, rfl⟩
  | long => exact ⟨2, 0, default, rfl, rfl⟩
section
variable (A : Option Addr) (cap : Nat) (l : List Rf) {len : Nat} (nm : ByteArray) (vA : Option Addr) (vc : Nat) (av : List Val) {na : Nat} (ck : Bool) (w : World) (g : Laid w) (hlen : len = l.length) (hna : na = av.length) (hA : RfAt w A l) (hV : ValsAt w vA av) (hl : len ≤ 9223372036854775806) (hna2 : na ≤ 1000) (hc : l.length ≤ 48 → countR l ≤ 9223372036854775806) (hin : RgsIn l)
include g hlen hna hA hV hl hna2 hc hin
theorem gRun_any : Calls Tryz.prog 20 #[.slice A len cap, .string nm, .slice vA na vc, .bool ck] w fun e w' => e = .returned (.tuple #[.agg (outC (outR l nm av ck).1), .int .i64 (runE l nm av)]) ∧ Ext w w' := by
  have HZO : Hid ((Tryz.prog.info? 40).map (·.size) = some 16) := by unfold Hid; kernel_rfl
  have HRUN : Hid (∀ w1, Ext w w1 → Calls Tryz.prog 73 #[.slice A len cap, .string nm, .slice vA na vc, .bool ck] w1 fun e w' => RRet l nm av A len cap ck w1 e w') := fun w1 x => grun_any A cap l nm vA vc av ck w1 (g.ext x) hlen hna (hA.ext x) (hV.ext x) hl hna2 hc hin
  have HOUTB : Hid (runE l nm av ≠ 0 → outC (outR l nm av ck).1 = outZ) := fun h => by rw [out_bad h]; rfl
  have BZ : Hid (Blk (w.alloc (.cells #[.int .i64 0, .int .i64 0, .int .i64 0, .string ⟨#[]⟩, .bool false, .bool false, .int .i64 0, .bool false, .string ⟨#[]⟩, .int .i64 0, .int .i64 0, .string ⟨#[]⟩, .bool false, .bool false, .int .i64 0, .slice none 0 0] 40)) w.heap.size 40 outZ) := Blk.new w 40 outZ
  clear g hlen hna hA hV hl hna2 hc hin
  obtain ⟨out, hout⟩ : ∃ out, out = outR l nm av ck := ⟨_, rfl⟩
  obtain ⟨v, hv⟩ : ∃ v, v = runE l nm av := ⟨_, rfl⟩
  unfold RRet at HRUN
  rw [← hout, ← hv] at HRUN HOUTB ⊢
  clear hout hv
  obtain ⟨k, y, u, he1, he2⟩ := enC_split out.1
  rw [he1] at HRUN
  have HOS := outC_size out.1
  have HO1 := outC_one out.1
  have HOS2 := Lib.hid HOS
  have HO2 := Lib.hid HO1
  clear HOS HO1
  obtain ⟨oc, hoc⟩ : ∃ oc, oc = outC out.1 := ⟨_, rfl⟩
  rw [← hoc] at HOUTB HOS2 HO2 he2 ⊢
  have HE2 := Lib.hid he2
  clear he1 he2 hoc
  go_enter Tryz.func20, Tryz.ntmps20
  by_cases h0 : v = 0
  · subst h0
    go_wp2_with (first
      | (go_at_call 73; (with_reducible refine (HRUN.out _ (by (with_reducible repeat first | exact Ext.refl _ | assumption | refine Ext.alloc ?_ _ | refine Ext.drew ?_ | refine Ext.trans ?_ (by assumption)))).mono ?_); rintro r w1 ⟨mp, rfl, x1, hm1⟩)
      | ((with_reducible show wpList _ _ _ (Oper.mk none (.store 40 (.tmp 8) _) _ _ _ _ :: _) _ _); refine wpList_store_row rfl 40 _ _ rfl w.heap.size rfl 40 outZ oc ((BZ.out.ext x1).ext (by (repeat (first | (with_reducible exact Ext.refl _) | (with_reducible assumption) | (with_reducible refine Ext.alloc ?_ _) | (with_reducible refine Ext.setRow ?_ ?_ _; rotate_left; first | exact Nat.le_refl _ | omega | (simp; done) | (simp; omega)) | (with_reducible refine Ext.trans ?_ (by with_reducible assumption)))))) (by rw [HE2.out]; rfl) (by rw [HOS2.out]; rfl) HO2.out (by rw [HOS2.out]; exact HZO.out) ?_))
    exact bodyPost_ret (results_row_tmp rfl _ _ w.heap.size 40 oc (0, 0) _ rfl (((BZ.out.ext x1).ext (by (repeat (first | (with_reducible exact Ext.refl _) | (with_reducible assumption) | (with_reducible refine Ext.alloc ?_ _) | (with_reducible refine Ext.setRow ?_ ?_ _; rotate_left; first | exact Nat.le_refl _ | omega | (simp; done) | (simp; omega)) | (with_reducible refine Ext.trans ?_ (by with_reducible assumption)))))).row _) Tryz.underlying40 rfl (by rw [HOS2.out]; exact HZO.out) (.int .i64 0) rfl) rfl ⟨rfl, by (repeat (first | (with_reducible exact Ext.refl _) | (with_reducible assumption) | (with_reducible refine Ext.alloc ?_ _) | (with_reducible refine Ext.setRow ?_ ?_ _; rotate_left; first | exact Nat.le_refl _ | omega | (simp; done) | (simp; omega)) | (with_reducible refine Ext.trans ?_ (by with_reducible assumption))))⟩
  · have hb : (v != 0) = true := by rw [bne_iff_ne]; exact h0
    have HB := Lib.hid (HOUTB.out h0)
    go_wp2_with (first
      | (go_at_call 73; (with_reducible refine (HRUN.out _ (by (with_reducible repeat first | exact Ext.refl _ | assumption | refine Ext.alloc ?_ _ | refine Ext.drew ?_ | refine Ext.trans ?_ (by assumption)))).mono ?_); rintro r w1 ⟨mp, rfl, x1, hm1⟩)
      | ((with_reducible show wpList _ _ _ (Oper.mk none (.store 40 (.tmp 8) _) _ _ _ _ :: _) _ _); refine wpList_store_row rfl 40 _ _ rfl w.heap.size rfl 40 outZ outZ ((BZ.out.ext x1).ext (by (repeat (first | (with_reducible exact Ext.refl _) | (with_reducible assumption) | (with_reducible refine Ext.alloc ?_ _) | (with_reducible refine Ext.setRow ?_ ?_ _; rotate_left; first | exact Nat.le_refl _ | omega | (simp; done) | (simp; omega)) | (with_reducible refine Ext.trans ?_ (by with_reducible assumption)))))) rfl rfl (outC_one (.ret default)) HZO.out ?_))
    exact bodyPost_ret (results_row_tmp rfl _ _ w.heap.size 40 outZ (0, 0) _ rfl (((BZ.out.ext x1).ext (by (repeat (first | (with_reducible exact Ext.refl _) | (with_reducible assumption) | (with_reducible refine Ext.alloc ?_ _) | (with_reducible refine Ext.setRow ?_ ?_ _; rotate_left; first | exact Nat.le_refl _ | omega | (simp; done) | (simp; omega)) | (with_reducible refine Ext.trans ?_ (by with_reducible assumption)))))).row _) Tryz.underlying40 rfl HZO.out (.int .i64 v) rfl) rfl ⟨by rw [HB.out], by (repeat (first | (with_reducible exact Ext.refl _) | (with_reducible assumption) | (with_reducible refine Ext.alloc ?_ _) | (with_reducible refine Ext.setRow ?_ ?_ _; rotate_left; first | exact Nat.le_refl _ | omega | (simp; done) | (simp; omega)) | (with_reducible refine Ext.trans ?_ (by with_reducible assumption))))⟩
theorem gSteps_any : Calls Tryz.prog 22 #[.slice A len cap, .string nm, .slice vA na vc, .bool ck] w fun e w' => e = .returned (.tuple #[.int .i64 ((outR l nm av ck).2 : Nat), .int .i64 (runE l nm av)]) ∧ Ext w w' := by
  have HRUN : Hid (∀ w1, Ext w w1 → Calls Tryz.prog 73 #[.slice A len cap, .string nm, .slice vA na vc, .bool ck] w1 fun e w' => RRet l nm av A len cap ck w1 e w') := fun w1 x => grun_any A cap l nm vA vc av ck w1 (g.ext x) hlen hna (hA.ext x) (hV.ext x) hl hna2 hc hin
  have HOUTB : Hid (runE l nm av ≠ 0 → (outR l nm av ck).2 = 0) := fun h => by rw [out_bad h]
  clear g hlen hna hA hV hl hna2 hc hin
  obtain ⟨out, hout⟩ : ∃ out, out = outR l nm av ck := ⟨_, rfl⟩
  obtain ⟨v, hv⟩ : ∃ v, v = runE l nm av := ⟨_, rfl⟩
  unfold RRet at HRUN
  rw [← hout, ← hv] at HRUN HOUTB ⊢
  clear hout hv
  obtain ⟨k, y, u, he1, he2⟩ := enC_split out.1
  rw [he1] at HRUN
  clear he1 he2
  go_enter Tryz.func22, Tryz.ntmps22
  by_cases h0 : v = 0
  · subst h0
    go_wp2_with (first
      | (go_at_call 73; (with_reducible refine (HRUN.out _ (by (with_reducible repeat first | exact Ext.refl _ | assumption | refine Ext.alloc ?_ _ | refine Ext.drew ?_ | refine Ext.trans ?_ (by assumption)))).mono ?_); rintro r w1 ⟨mp, rfl, x1, hm1⟩; obtain ⟨m, rfl, hm⟩ := hm1 rfl; have c2 := hm.cell 2; (simp only [List.getElem?_toArray, List.getElem?_cons_zero, List.getElem?_cons_succ] at c2); have zm := hm.lt))
    go_ret2
    exact ⟨rfl, by (repeat (first | (with_reducible exact Ext.refl _) | (with_reducible assumption) | (with_reducible refine Ext.alloc ?_ _) | (with_reducible refine Ext.setRow ?_ ?_ _; rotate_left; first | exact Nat.le_refl _ | omega | (simp; done) | (simp; omega)) | (with_reducible refine Ext.trans ?_ (by with_reducible assumption))))⟩
  · have hb : (v != 0) = true := by rw [bne_iff_ne]; exact h0
    have HB := Lib.hid (HOUTB.out h0)
    go_wp2_with (first
      | (go_at_call 73; (with_reducible refine (HRUN.out _ (by (with_reducible repeat first | exact Ext.refl _ | assumption | refine Ext.alloc ?_ _ | refine Ext.drew ?_ | refine Ext.trans ?_ (by assumption)))).mono ?_); rintro r w1 ⟨mp, rfl, x1, hm1⟩))
    go_ret2
    exact ⟨by rw [HB.out]; rfl, by (repeat (first | (with_reducible exact Ext.refl _) | (with_reducible assumption) | (with_reducible refine Ext.alloc ?_ _) | (with_reducible refine Ext.setRow ?_ ?_ _; rotate_left; first | exact Nat.le_refl _ | omega | (simp; done) | (simp; omega)) | (with_reducible refine Ext.trans ?_ (by with_reducible assumption))))⟩
end
def sumC : Array Value := #[.int .i64 0, .int .i64 0, .int .i64 200, .int .i64 0, .int .i64 2, .int .i64 8, .string ⟨#[]⟩, .bool false, .bool false, .string ⟨#[]⟩, .slice none 0 0,
  .int .i64 0, .int .i64 1, .int .i64 100, .int .i64 0, .int .i64 2, .int .i64 8, .string ⟨#[]⟩, .bool false, .bool false, .string ⟨#[]⟩, .slice none 0 0,
  .int .i64 105, .int .i64 0, .int .i64 0, .int .i64 1, .int .i64 2, .int .i64 8, .string ⟨#[]⟩, .bool false, .bool false, .string ⟨#[]⟩, .slice none 0 0,
  .int .i64 15, .int .i64 0, .int .i64 0, .int .i64 0, .int .i64 0, .int .i64 0, .string ⟨#[]⟩, .bool false, .bool false, .string ⟨#[]⟩, .slice none 0 0]
def sumF (g : Nat) : Array Value := #[.string ⟨#[102]⟩, .int .i64 0, .int .i64 2, .int .i64 2, .int .i64 8, .string ⟨#[]⟩, .bool false, .bool false, .slice (some ⟨g, 0, none⟩) 4 4]
theorem sum_at {w : World} {gf gc : Nat} (h1 : Blk w gf 59 (sumF gc)) (h2 : Blk w gc 67 sumC) : RfAt w (some ⟨gf, 0, none⟩) [fSum (some ⟨gc, 0, none⟩)] := by
  refine ⟨fun _ => ⟨gf, 0, rfl, h1.lt, fun i j hi hj => ?_⟩, fun f hf => ?_⟩
  · have : i = 0 := by simp at hi; omega
    subst this
    rw [Nat.zero_add, Nat.zero_mul, Nat.zero_add, h1.cell j]
    match j, hj with
    | 0, _ => rfl
    | 1, _ => rfl
    | 2, _ => rfl
    | 3, _ => rfl
    | 4, _ => rfl
    | 5, _ => rfl
    | 6, _ => rfl
    | 7, _ => rfl
    | 8, _ => rfl
  · rw [List.mem_singleton] at hf
    subst hf
    refine ⟨fun _ => ⟨gc, 0, rfl, h2.lt, fun i j hi hj => ?_⟩, fun x hx => ?_⟩
    · rw [Nat.zero_add, h2.cell]
      have hi4 : i < 4 := hi
      have hq : ∀ i, i < 4 → ∀ j, j < 11 → sumC[i * 11 + j]? = some (rgC ([gLi 0 200, gLi 1 100, gAdd, gRet].getD i default) j) := by
        intro i hi j hj
        match i, hi with
        | 0, _ => match j, hj with
          | 0, _ | 1, _ | 2, _ | 3, _ | 4, _ | 5, _ | 6, _ | 7, _ | 8, _ | 9, _ | 10, _ => rfl
        | 1, _ => match j, hj with
          | 0, _ | 1, _ | 2, _ | 3, _ | 4, _ | 5, _ | 6, _ | 7, _ | 8, _ | 9, _ | 10, _ => rfl
        | 2, _ => match j, hj with
          | 0, _ | 1, _ | 2, _ | 3, _ | 4, _ | 5, _ | 6, _ | 7, _ | 8, _ | 9, _ | 10, _ => rfl
        | 3, _ => match j, hj with
          | 0, _ | 1, _ | 2, _ | 3, _ | 4, _ | 5, _ | 6, _ | 7, _ | 8, _ | 9, _ | 10, _ => rfl
      exact hq i hi4 j hj
    · have : x.args = [] ∧ x.A = none := by
        have hx : x ∈ [gLi 0 200, gLi 1 100, gAdd, gRet] := hx
        simp only [List.mem_cons, List.not_mem_nil, or_false] at hx
        rcases hx with rfl | rfl | rfl | rfl <;> exact ⟨rfl, rfl⟩
      rw [this.1, this.2]
      exact At.nil _ _ _ _
theorem sum_any (w : World) : Calls Tryz.prog 72 #[] w fun e w' => ∃ gf gc, e = .returned (.slice (some ⟨gf, 0, none⟩) 1 1) ∧ Ext w w' ∧ RfAt w' (some ⟨gf, 0, none⟩) [fSum (some ⟨gc, 0, none⟩)] := by
  go_enter Tryz.func72, Tryz.ntmps72
  go_wp2_with fail
  go_ret
  exact ⟨w.heap.size + 1 + 1, w.heap.size + 1, rfl, by (with_reducible repeat first | exact Ext.refl _ | assumption | refine Ext.alloc ?_ _ | refine Ext.drew ?_ | refine Ext.trans ?_ (by assumption)), sum_at (blk3 w _ _ _ _) ((blk2 w _ _ _).alloc _)⟩
theorem same_any (k y : Int) (v : Val) (w : World) : Calls Tryz.prog 26 #[.agg #[.int .i64 k, .int .i64 v.ty.base, .int .i64 v.ty.bits, .string v.ty.name, .bool v.ty.opt, .bool v.ty.err, .int .i64 v.n, .bool v.null, .string v.err, .int .i64 v.of.base, .int .i64 v.of.bits, .string v.of.name, .bool v.of.opt, .bool v.of.err, .int .i64 y, .slice none 0 0],
    .agg #[.int .i64 k, .int .i64 v.ty.base, .int .i64 v.ty.bits, .string v.ty.name, .bool v.ty.opt, .bool v.ty.err, .int .i64 v.n, .bool v.null, .string v.err, .int .i64 v.of.base, .int .i64 v.of.bits, .string v.of.name, .bool v.of.opt, .bool v.of.err, .int .i64 y, .slice none 0 0]] w fun e w' => e = .returned (.bool true) ∧ Ext w w' := by
  go_enter Tryz.func26, Tryz.ntmps26
  go_wp2_with fail
  go_loop [5] (fun i => i = .int .i64 0) (fun _ => 0)
  case atStart => rfl
  case round =>
    subst hrel
    go_wp2_with fail
    go_ret
    exact ⟨rfl, by (with_reducible repeat first | exact Ext.refl _ | assumption | refine Ext.alloc ?_ _ | refine Ext.drew ?_ | refine Ext.trans ?_ (by assumption))⟩
theorem out_stop : outC (.stop 1) = #[.int .i64 1, .int .i64 0, .int .i64 0, .string ⟨#[]⟩, .bool false, .bool false, .int .i64 0, .bool false, .string ⟨#[]⟩, .int .i64 0, .int .i64 0, .string ⟨#[]⟩, .bool false, .bool false, .int .i64 1, .slice none 0 0] := rfl
theorem out_ret44 : outC (.ret (nv 44)) = #[.int .i64 0, .int .i64 0, .int .i64 0, .string ⟨#[]⟩, .bool false, .bool false, .int .i64 44, .bool false, .string ⟨#[]⟩, .int .i64 0, .int .i64 0, .string ⟨#[]⟩, .bool false, .bool false, .int .i64 0, .slice none 0 0] := rfl
theorem sum_in (g : Option Addr) : RgsIn [fSum g] := by
  intro f hf x hx
  rw [List.mem_singleton] at hf
  subst hf
  have hx : x ∈ [gLi 0 200, gLi 1 100, gAdd, gRet] := hx
  simp only [List.mem_cons, List.not_mem_nil, or_false] at hx
  rcases hx with rfl | rfl | rfl | rfl <;> exact ⟨⟨by decide, by decide⟩, by decide⟩
theorem sum_run (ck : Bool) (gf gc : Nat) (w : World) (L : Laid w) (h : RfAt w (some ⟨gf, 0, none⟩) [fSum (some ⟨gc, 0, none⟩)]) :
    Calls Tryz.prog 20 #[.slice (some ⟨gf, 0, none⟩) 1 1, .string ⟨#[102]⟩, .slice none 0 0, .bool ck] w fun e w' => e = .returned (.tuple #[.agg (outC (outR [fSum (some ⟨gc, 0, none⟩)] ⟨#[102]⟩ [] ck).1), .int .i64 0]) ∧ Ext w w' := by
  have h2 := gRun_any (some ⟨gf, 0, none⟩) 1 [fSum (some ⟨gc, 0, none⟩)] (len := 1) ⟨#[102]⟩ none 0 [] (na := 0) ck w L rfl rfl h (At.nil _ _ _ _) (by decide) (by decide) (fun _ => by simp [countR, fSum]) (sum_in _)
  rwa [runE_sum] at h2
theorem rknown_any (w : World) (L : Laid w) : Calls Tryz.prog 19 #[] w fun e w' => e = .returned (.bool true) ∧ Ext w w' := by
  have HL := Lib.hid L
  clear L
  go_enter Tryz.func19, Tryz.ntmps19
  go_wp2_with (first
    | (go_at_call 72
       first
         | (refine (sum_any _).mono ?_; rintro r w4 ⟨gf, gc, rfl, x4, hf⟩; have HF := Lib.hid hf; clear hf; have y4 := x4.facts; have z4 : w2.heap.size < w4.heap.size := (by have h := x4.size; simp at h; omega))
         | (refine (sum_any _).mono ?_; rintro r w1 ⟨gf, gc, rfl, x1, hf⟩; have HF := Lib.hid hf; clear hf))
    | (go_at_call 20
       first
         | (with_reducible refine (sum_run true _ _ _ (HL.out.ext (by (with_reducible repeat first | exact Ext.refl _ | assumption | refine Ext.alloc ?_ _ | refine Ext.drew ?_ | refine Ext.trans ?_ (by assumption)))) HF.out).mono ?_; rw [out_sum, out_stop]; rintro r w2 ⟨rfl, x2⟩; clear HF)
         | (with_reducible refine (sum_run false _ _ _ (HL.out.ext (by (with_reducible repeat first | exact Ext.refl _ | assumption | refine Ext.alloc ?_ _ | refine Ext.drew ?_ | refine Ext.trans ?_ (by assumption)))) HF.out).mono ?_; rw [out_sum2, out_ret44]; rintro r w3 ⟨rfl, x3⟩; have y3 := x3.facts; have z3 : w2.heap.size < w3.heap.size := (by have h := x3.size; omega))))
  go_ret
  exact ⟨rfl, by (with_reducible repeat first | exact Ext.refl _ | assumption | refine Ext.alloc ?_ _ | refine Ext.drew ?_ | refine Ext.trans ?_ (by assumption))⟩
end Go.Proofs.YtknaemlnhediaaaGreatDoor.c
