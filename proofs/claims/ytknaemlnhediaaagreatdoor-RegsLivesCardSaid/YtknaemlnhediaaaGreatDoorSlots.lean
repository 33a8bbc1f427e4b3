/- The slots that a function names: plainly; contracts of the program's known, Slots, Size. The table strings.asciiSpace holds what its text lays; lengths are bounded. -/
import Derived.Test.YtknaemlnhediaaaGreatDoorRinst
import Derived.Test.YtknaemlnhediaaaGreatDoorSortc
import Derived.OwnWalk
import Derived.Deep.Upon
namespace Go.Proofs.YtknaemlnhediaaaGreatDoor.c
open Go.RowKit
set_option linter.unusedVariables false
set_option maxRecDepth 100000
set_option maxHeartbeats 12800000
set_option linter.unusedSimpArgs false
theorem Ext.ownB {w0 w w' : World} {base : Nat} {e : TypeId} {size : Nat} {v : Value} {n : Nat} {xs : List Value} (x : Ext w0 w) (h : w.ownsRow base e size v n xs) (hb : w0.heap.size ≤ base) (g : w.grownBy w' v.ownBlock) : Ext w0 w' :=
 x.grown g fun k hk => Nat.le_trans hb (own_row h k hk)
def numE (l : List Rf) (k : Int) : Int := if validR l ≠ 0 then validR l else if 0 ≤ k ∧ k < l.length then 0 else 4
theorem numE_ok {l : List Rf} {k : Int} (h : numE l k = 0) : validR l = 0 ∧ ∃ n : Nat, k = n ∧ n < l.length := by
 unfold numE at h
 split at h
 ·rename_i h1; exact absurd h h1
 ·rename_i h1
  split at h
  ·rename_i h2; exact ⟨by simpa using h1, k.toNat, by omega, by omega⟩
  ·cases h
theorem numE_bad {l : List Rf} {k v : Int} {len : Nat} (hlen : len = l.length) (h : validR l = v) (hv : v ≠ 0) : numE l k = v := by
 unfold numE
 rw [h, if_pos hv]
theorem numE_out {l : List Rf} {k : Int} {len : Nat} (hlen : len = l.length) (h : validR l = 0) (hk : k < 0 ∨ (len : Int) ≤ k) : numE l k = 4 := by
 unfold numE
 rw [if_neg (by simpa using h), if_neg (by omega)]
theorem numE_in {l : List Rf} {k : Int} {len : Nat} (hlen : len = l.length) (h : validR l = 0) (hk : 0 ≤ k) (hk2 : k < (len : Int)) : numE l k = 0 := by
 unfold numE
 rw [if_neg (by simpa using h), if_pos (by omega)]
theorem gknown_any (A : Option Addr) (cap : Nat) (l : List Rf) {len : Nat} (k : Int) (w : World) (g : Laid w) (hlen : len = l.length) (hA : RfAt w A l) (hl : len ≤ 9223372036854775806) (hc : len ≤ 48 → countR l ≤ 9223372036854775806) (hin : RgsIn l) :
  Calls Tryz.prog 104 #[.slice A len cap, .int .i64 k] w fun e w' => e = .returned (.int .i64 (numE l k)) ∧ Ext w w' := by
 have HV : Hid (Calls Tryz.prog 24 #[.slice A len cap] w fun e w' => e = .returned (.int .i64 (validR l)) ∧ Ext w w') := by
  have h := gValidate_any A cap l w g hA (by omega) (fun h => hc (by omega)) hin
  rwa [← hlen] at h
 have HLn := Lib.hid hlen
 obtain ⟨v, hv⟩ : ∃ v, validR l = v := ⟨_, rfl⟩
 rw [hv] at HV
 have HVV := Lib.hid hv
 clear hv hlen hA hc hin g
 by_cases h0 : v = 0
 ·subst h0
  by_cases h1 : k < 0
  ·rw [numE_out HLn.out HVV.out (.inl h1)]
   go_enter Tryz.func104, Tryz.ntmps104
   go_wp2_with (first | (go_at_call 24; refine (HV.out).mono ?_; rintro r w1 ⟨rfl, x1⟩))
   go_ret
   exact ⟨rfl, x1⟩
  ·by_cases h2 : (len : Int) ≤ k
   ·rw [numE_out HLn.out HVV.out (.inr h2)]
    go_enter Tryz.func104, Tryz.ntmps104
    go_wp2_with (first | (go_at_call 24; refine (HV.out).mono ?_; rintro r w1 ⟨rfl, x1⟩))
    go_ret
    exact ⟨rfl, x1⟩
   ·rw [numE_in HLn.out HVV.out (by omega) (by omega)]
    have hd : decide (k < 0) = false := decide_eq_false h1
    have hd2 : decide ((len : Int) ≤ k) = false := decide_eq_false h2
    go_enter Tryz.func104, Tryz.ntmps104
    go_wp2_with (first | (go_at_call 24; refine (HV.out).mono ?_; rintro r w1 ⟨rfl, x1⟩))
    go_ret
    exact ⟨rfl, x1⟩
 ·rw [numE_bad HLn.out HVV.out h0]
  have hb : (v != 0) = true := by simpa using h0
  go_enter Tryz.func104, Tryz.ntmps104
  go_wp2_with (first | (go_at_call 24; refine (HV.out).mono ?_; rintro r w1 ⟨rfl, x1⟩))
  go_ret
  exact ⟨rfl, x1⟩
def sizeR (l : List Rf) : Int := if validR l = 0 then (countR l : Int) else 0
theorem gSize_any (A : Option Addr) (cap : Nat) (l : List Rf) {len : Nat} (w : World) (g : Laid w) (hlen : len = l.length) (hA : RfAt w A l) (hl : len ≤ 9223372036854775806) (hc : len ≤ 48 → countR l ≤ 9223372036854775806) (hin : RgsIn l) :
  Calls Tryz.prog 41 #[.slice A len cap] w fun e w' => e = .returned (.tuple #[.int .i64 (sizeR l), .int .i64 (validR l)]) ∧ Ext w w' := by
 have HV : Hid (Calls Tryz.prog 24 #[.slice A len cap] w fun e w' => e = .returned (.int .i64 (validR l)) ∧ Ext w w') := by
  have h := gValidate_any A cap l w g hA (by omega) (fun h => hc (by omega)) hin
  rwa [← hlen] at h
 have HLn := Lib.hid hlen
 have HA := Lib.hid hA
 have HCC : Hid (validR l = 0 → countR l ≤ 9223372036854775806) := fun h => by
  have := (validR_parts h).2.1
  omega
 obtain ⟨v, hv⟩ : ∃ v, validR l = v := ⟨_, rfl⟩
 have HVV := Lib.hid hv
 rw [hv] at HV ⊢
 clear hv hlen hA hc hin g
 by_cases h0 : v = 0
 ·subst h0
  have HS : Hid (sizeR l = (countR l : Int)) := by unfold Hid sizeR; rw [if_pos HVV.out]
  rw [HS.out]
  go_enter Tryz.func41, Tryz.ntmps41
  go_wp2_with (first
   | (go_at_call 24; refine (HV.out).mono ?_; rintro r w1 ⟨rfl, x1⟩)
   | (go_at_call 76; refine (gsize_any A cap l _ HLn.out (HA.out.ext x1) hl (HCC.out HVV.out)).mono ?_; rintro r w2 ⟨rfl, x2⟩))
  go_ret2
  exact ⟨rfl, exA⟩
 ·have HS : Hid (sizeR l = 0) := by unfold Hid sizeR; rw [if_neg (by rw [HVV.out]; exact h0)]
  rw [HS.out]
  have hb : (v != 0) = true := by simpa using h0
  go_enter Tryz.func41, Tryz.ntmps41
  go_wp2_with (first | (go_at_call 24; refine (HV.out).mono ?_; rintro r w1 ⟨rfl, x1⟩))
  go_ret2
  exact ⟨rfl, x1⟩
theorem wpList_append_nums {w : World} {ops : Array Oper} {rest : List Oper} {o : Oper} {a : Act} {Q : Exit → Act → World → Prop} (hgd : o.guard = none) (s x : Operand)
  (ho : o.op = .call { callee := .builtin .append, args := #[s, x], argTypes := #[65, 65] }) (base : Nat) (v : Value) (zs : List Int) (hs : a.eval s = v) (hown : w.ownsRow base 3 1 v zs.length (zs.map (Value.int .i64)))
  (A : Option Addr) (cap : Nat) (qs : List Int) (hx : a.eval x = .slice A qs.length cap) (hq : NumsAt w A qs) (hb : zs.length + qs.length ≤ 1000000000) (hbase : base ≤ w.heap.size)
  (h : ∀ v' w', w'.ownsRow base 3 1 v' (zs ++ qs).length ((zs ++ qs).map (Value.int .i64)) → w.grownBy w' v.ownBlock → wpList Tryz.prog ops Q rest (a.put o.dst v') w') : wpList Tryz.prog ops Q (o :: rest) a w := by
 obtain ⟨i0, hi0, hz0, hz1, hz2⟩ := info_parts info_int
 rcases Nat.eq_zero_or_pos qs.length with h0 | hpos
 ·have hq0 : qs = [] := List.length_eq_zero_iff.1 h0
  subst hq0
  refine wpList_plain hgd fun K hK => ?_
  have hsrc : Src Tryz.prog i0.size 65 (.slice A 0 cap) 0 [] w := by
   cases A with
   | none => exact Src.ofNil w Tryz.underlying65 cap
   | some ad => exact Src.ofSlice w Tryz.underlying65 ad 0 cap [] (by simp) (fun j u hj => by simp at hj) (fun u hu => by cases hu)
  have hr : (Builtin.append_ #[65, 65] o.type #[v, .slice A 0 cap]).run Tryz.prog w = .ok v w := by
   rcases hown.2 with ⟨rfl, _⟩ | ⟨g, cp, cur, rfl, _, _, hn, _⟩
   ·exact run_append_nothing w _ _ _ _ i0 Tryz.underlying65 hi0 none 0 0 (Nat.le_refl _) _ hsrc
   ·exact run_append_nothing w _ _ _ _ i0 Tryz.underlying65 hi0 _ _ _ hn _ hsrc
  unfold Oper.wp execOp
  simp only [ho, resolve, invoke, builtin, Sem.run_bind, Sem.run_pure, Result.andThen_ok, List.map_toArray, List.map_cons, List.map_nil, hs, hx, List.length_nil, hr]
  exact hK _ _ (h v w (by simpa using hown) ⟨rfl, rfl, rfl, Nat.le_refl _, fun _ _ _ => rfl⟩)
 ·obtain ⟨b, off, rfl, hbl, hc⟩ := hq hpos
  refine wpList_append_own w hgd s x 65 ho base 3 i0 _ 1 8 Tryz.underlying65 hi0 hz0 hz1 hz2 rfl (by decide) v zs.length _ hs hown ⟨b, off, none⟩ qs.length cap (qs.map (Value.int .i64)) hx (by simp) ?_ ?_ (by unfold maxLen; omega) (by omega) hbase ?_
  ·intro j u hj
   rw [List.getElem?_map] at hj
   obtain ⟨z, hz, rfl⟩ := Option.map_eq_some_iff.1 hj
   have hjl : j < qs.length := (List.getElem?_eq_some_iff.1 hz).1
   have := hc j 0 hjl (by omega)
   simp only [Nat.mul_one, Nat.add_zero] at this
   rw [show (⟨b, off, none⟩ : Addr).add j = ⟨b, off + j, none⟩ by (unfold Addr.add; split; (rename_i h0; rw [h0]; rfl); rfl), this, List.getD, hz]
   rfl
  ·intro u hu
   obtain ⟨z, _, rfl⟩ := List.mem_map.1 hu
   rfl
  ·intro v' w' h2 h3 _
   exact h v' w' (by simpa using h2) h3
def slotsX (x : Rg) : List Int := if x.op = 3 ∨ x.op = 4 then [x.a] else if x.op = 14 then x.args else []
def slotsL (c : List Rg) : List Int := (c.map slotsX).flatten
theorem slotsL_snoc (c : List Rg) {k : Nat} (hk : k < c.length) : slotsL (c.take (k + 1)) = slotsL (c.take k) ++ slotsX (c.getD k default) := by
 unfold slotsL
 rw [List.take_succ_eq_append_getElem hk, List.map_append, List.flatten_append]
 simp [List.getD, List.getElem?_eq_getElem hk]
theorem slotsX_len {l : List Rf} {f : Rf} {x : Rg} (g : GoodX l f x) (hp : ∀ j, j < l.length → (l.getD j default).params ≤ 4) : (slotsX x).length ≤ 4 := by
 unfold slotsX
 split
 ·simp
 ·split
  ·rename_i h
   obtain ⟨j, _, hj, he⟩ := g.call h
   have := hp j hj
   omega
  ·simp
theorem slotsL_len {l : List Rf} {f : Rf} (g : GoodF l f) (hp : ∀ j, j < l.length → (l.getD j default).params ≤ 4) (k : Nat) (hk : k ≤ f.code.length) : (slotsL (f.code.take k)).length ≤ 4 * k := by
 induction k with
 | zero => simp [slotsL]
 | succ k ih =>
  have h1 := ih (by omega)
  rw [slotsL_snoc _ (by omega), List.length_append]
  have h2 := slotsX_len (g.at_ (getD_mem (show k < f.code.length by omega))) hp
  omega
def slotsR (l : List Rf) (k : Int) : List Int := if numE l k = 0 then Lib.compact (sortI (slotsL (l.getD k.toNat default).code)) else []
theorem nums_one (w : World) (z : Int) : NumsAt (w.alloc (.cells #[.int .i64 z] 3)) (some ⟨w.heap.size, 0, none⟩) [z] := by
 intro _
 refine ⟨w.heap.size, 0, rfl, by simp, fun i j hi hj => ?_⟩
 have hi0 : i = 0 := by simpa using hi
 subst hi0
 obtain rfl : j = 0 := by omega
 exact (Blk.new w 3 #[.int .i64 z]).cell 0
theorem rg_one (x : Rg) : ∀ v ∈ (#[.int .i64 x.op, .int .i64 x.d, .int .i64 x.a, .int .i64 x.b, .int .i64 x.ty.base, .int .i64 x.ty.bits, .string x.ty.name, .bool x.ty.opt, .bool x.ty.err, .string x.name, .slice x.A x.args.length x.cap] : Array Value).toList, v.oneCell' = true := by
 intro v hv
 simp at hv
 rcases hv with rfl | rfl | rfl | rfl | rfl | rfl | rfl | rfl | rfl | rfl | rfl <;> rfl
theorem rg_cells {w' : World} {g : Nat} (x : Rg) (b : Blk w' g 67 #[.int .i64 x.op, .int .i64 x.d, .int .i64 x.a, .int .i64 x.b, .int .i64 x.ty.base, .int .i64 x.ty.bits, .string x.ty.name, .bool x.ty.opt, .bool x.ty.err, .string x.name, .slice x.A x.args.length x.cap]) : w'.cell? ⟨g, 0, none⟩ = some (.int .i64 x.op) ∧ w'.cell? ⟨g, 1, none⟩ = some (.int .i64 x.d) ∧ w'.cell? ⟨g, 2, none⟩ = some (.int .i64 x.a) ∧ w'.cell? ⟨g, 3, none⟩ = some (.int .i64 x.b) ∧ w'.cell? ⟨g, 4, none⟩ = some (.int .i64 x.ty.base) ∧ w'.cell? ⟨g, 5, none⟩ = some (.int .i64 x.ty.bits) ∧ w'.cell? ⟨g, 6, none⟩ = some (.string x.ty.name) ∧ w'.cell? ⟨g, 7, none⟩ = some (.bool x.ty.opt) ∧ w'.cell? ⟨g, 8, none⟩ = some (.bool x.ty.err) ∧ w'.cell? ⟨g, 9, none⟩ = some (.string x.name) ∧ w'.cell? ⟨g, 10, none⟩ = some (.slice x.A x.args.length x.cap) :=
 ⟨b.cell 0, b.cell 1, b.cell 2, b.cell 3, b.cell 4, b.cell 5, b.cell 6, b.cell 7, b.cell 8, b.cell 9, b.cell 10⟩
theorem slotsX_one {x : Rg} (h : x.op = 3 ∨ x.op = 4) : slotsX x = [x.a] := by unfold slotsX; rw [if_pos h]
theorem slotsX_args {x : Rg} (h : x.op = 14) : slotsX x = x.args := by unfold slotsX; rw [if_neg (by omega), if_pos h]
theorem slotsX_none {x : Rg} (h : x.op ≠ 3 ∧ x.op ≠ 4 ∧ x.op ≠ 14) : slotsX x = [] := by unfold slotsX; rw [if_neg (by omega), if_neg (by omega)]
theorem gSlots_any (A : Option Addr) (cap : Nat) (l : List Rf) {len : Nat} (k : Int) (w : World) (g : Laid w) (hlen : len = l.length) (hA : RfAt w A l) (hl : len ≤ 9223372036854775806) (hc : len ≤ 48 → countR l ≤ 9223372036854775806) (hin : RgsIn l) :
  Calls Tryz.prog 39 #[.slice A len cap, .int .i64 k] w fun e w' => ∃ v, e = .returned (.tuple #[v, .int .i64 (numE l k)]) ∧ IntsAt w' v (slotsR l k) ∧ Ext w w' := by
 have HK := Lib.hid (gknown_any A cap l k w g hlen hA hl hc hin)
 have HA := Lib.hid hA
 have HLn := Lib.hid hlen
 clear hA hc hin g hlen
 by_cases h0 : numE l k = 0
 ·obtain ⟨hv, n, rfl, hn⟩ := numE_ok h0
  obtain ⟨f, hf⟩ : ∃ f, f = l.getD n default := ⟨_, rfl⟩
  have HR : Hid (slotsR l n = Lib.compact (sortI (slotsL f.code))) := by unfold Hid slotsR; rw [if_pos h0, Int.toNat_natCast, ← hf]
  obtain ⟨h48, _, hgood⟩ := validR_parts hv
  have GF : Hid (GoodF l f) := by rw [hf]; exact (hgood n hn).1
  have HP : Hid (∀ j, j < l.length → (l.getD j default).params ≤ 4) := fun j hj => (hgood j hj).1.par.2
  obtain ⟨b, off, rfl, hb, c0, c1, c2, c3, c4, c5, c6, c7, c8, hcd⟩ := HA.out.at_ (k := n) hn hf
  have HCD := Lib.hid hcd
  have k1 : (n : Int) < (len : Int) := by have := HLn.out; omega
  rw [h0] at HK ⊢
  rw [HR.out]
  clear h0 hv hf hcd h48 hgood hn HR HA
  have hfew := GF.out.few
  obtain ⟨nc, hnc⟩ : ∃ nc, nc = f.code.length := ⟨_, rfl⟩
  rw [← hnc] at c8 hfew
  have HNC := Lib.hid hnc
  clear hnc
  have HZ : Hid ((Tryz.prog.info? 67).map (·.size) = some 11) := by unfold Hid; kernel_rfl
  have HY : Hid (∀ (w' : World) (o : Nat), Ext w w' → w'.cell? ⟨b, o, none⟩ = w.cell? ⟨b, o, none⟩) := fun w' o x => x.cell (p := ⟨b, o, none⟩) hb
  go_enter Tryz.func39, Tryz.ntmps39
  go_wp2_with (first
   | (go_at_call 104
      refine (HK.out).mono ?_
      rintro r w1 ⟨rfl, x1⟩
      have X1 := Lib.hid x1
      rw [← HY.out w1 _ x1] at c8
      have hb1 : b < w1.heap.size := Nat.lt_of_lt_of_le hb x1.size
      clear x1 c0 c1 c2 c3 c4 c5 c6 c7))
  clear c8 hb1
  go_loopw [7, 22] (fun v i wr => ∃ j : Nat, j ≤ nc ∧ i = .int .i64 j ∧ wr.ownsRow w1.heap.size 3 1 v (slotsL (f.code.take j)).length ((slotsL (f.code.take j)).map (Value.int .i64)) ∧ Ext w1 wr) (fun _ i _ => nc - (intOf i).toNat)
  case atStart => exact ⟨0, Nat.zero_le _, rfl, World.ownsRow_nil _ _ _ _, Ext.refl _⟩
  case round =>
   obtain ⟨j, hj, rfl, ow, hx⟩ := hrel
   have HO := Lib.hid ow
   have HX := Lib.hid hx
   clear ow hx
   by_cases hlt : j < nc
   ·have hjl : j < f.code.length := by have := HNC.out; omega
    obtain ⟨x, hxx⟩ : ∃ x, x = f.code.getD j default := ⟨_, rfl⟩
    have HS : Hid (slotsL (f.code.take (j + 1)) = slotsL (f.code.take j) ++ slotsX x) := by rw [hxx]; exact slotsL_snoc _ hjl
    have HLN : Hid ((slotsL (f.code.take j)).length + (slotsX x).length ≤ 30000) := by
     have h1 := slotsL_len GF.out HP.out (j + 1) (by omega)
     have h2 := HS.out
     rw [h2, List.length_append] at h1
     show _ ≤ _
     omega
    obtain ⟨b2, o2, hA2, hb2, d0, d1, d2, d3, d4, d5, d6, d7, d8, d9, d10, hN⟩ := (HCD.out.ext (X1.out.trans HX.out)).at_ (k := j) hjl hxx
    have HN := Lib.hid hN
    have HA2 := Lib.hid hA2
    clear hN hxx hjl
    rw [HA2.out]
    have hop : x.op = 3 ∨ x.op = 4 ∨ x.op = 14 ∨ (x.op ≠ 3 ∧ x.op ≠ 4 ∧ x.op ≠ 14) := by omega
    rcases hop with hop | hop | hop | hop
    case inr.inr.inr =>
     have HSX : Hid (slotsX x = []) := slotsX_none hop
     have q3 : (x.op == 3) = false := by simpa using hop.1
     have q4 : (x.op == 4) = false := by simpa using hop.2.1
     have q14 : (x.op == 14) = false := by simpa using hop.2.2
     clear hop
     go_wp2_with (first
      | ((with_reducible show wpList _ _ _ (Oper.mk none (.store 67 (.tmp 9) (.tmp 25)) _ _ _ _ :: _) _ _)
         refine store_new 67 _ _ rfl _ _ rfl rfl rfl rfl HZ.out (rg_one x) ?_
         intro w3 x3 B3
         have X3 := Lib.hid x3
         obtain ⟨e0, e1, e2, e3, e4, e5, e6, e7, e8, e9, e10⟩ := rg_cells x B3
         have zb := B3.lt
         clear B3 x3 e1 e3 e4 e5 e6 e7 e8 e9))
     case roundEnd => exact ⟨⟨j + 1, by omega, by go_num, by rw [HS.out, HSX.out, List.append_nil]; exact own_ext HO.out X3.out, HX.out.trans X3.out⟩, by simp [intOf]; omega⟩
    case inr.inr.inl =>
     have HSX : Hid (slotsX x = x.args) := slotsX_args hop
     have q3 : (x.op == 3) = false := by rw [hop]; rfl
     have q4 : (x.op == 4) = false := by rw [hop]; rfl
     have q14 : (x.op == 14) = true := by rw [hop]; rfl
     clear hop
     go_wp2_with (first
      | ((with_reducible show wpList _ _ _ (Oper.mk none (.store 67 (.tmp 9) (.tmp 25)) _ _ _ _ :: _) _ _)
         refine store_new 67 _ _ rfl _ _ rfl rfl rfl rfl HZ.out (rg_one x) ?_
         intro w3 x3 B3
         have X3 := Lib.hid x3
         obtain ⟨e0, e1, e2, e3, e4, e5, e6, e7, e8, e9, e10⟩ := rg_cells x B3
         have zb := B3.lt
         clear B3 x3 e1 e3 e4 e5 e6 e7 e8 e9)
      | (at_builtin
         refine wpList_append_nums rfl _ _ rfl w1.heap.size _ (slotsL (f.code.take j)) rfl (own_ext HO.out X3.out) x.A x.cap x.args rfl ((HN.out.ext X3.out)) ?h1 ?h2 ?_))
     case h1 => have h9 := HLN.out; rw [HSX.out] at h9; omega
     case h2 => have := HX.out.size; have := X3.out.size; (try simp); omega
     ·intro v' w5 ow5 g5
      have OW5 := Lib.hid ow5
      have X5 := Lib.hid ((HX.out.trans X3.out).grown g5 (own_row HO.out))
      clear ow5 g5
      go_wp2_with fail
      go_roundw
      case rel => exact ⟨j + 1, by omega, by go_num, by rw [HS.out, HSX.out]; simpa using OW5.out, X5.out⟩
      case measure => simp [intOf]; omega
    case inr.inl =>
     have HSX : Hid (slotsX x = [x.a]) := slotsX_one (by omega)
     have q3 : (x.op == 3) = false := by rw [hop]; rfl
     have q4 : (x.op == 4) = true := by rw [hop]; rfl
     clear hop
     go_wp2_with (first
      | ((with_reducible show wpList _ _ _ (Oper.mk none (.store 67 (.tmp 9) (.tmp 25)) _ _ _ _ :: _) _ _)
         refine store_new 67 _ _ rfl _ _ rfl rfl rfl rfl HZ.out (rg_one x) ?_
         intro w3 x3 B3
         have X3 := Lib.hid x3
         obtain ⟨e0, e1, e2, e3, e4, e5, e6, e7, e8, e9, e10⟩ := rg_cells x B3
         have zb := B3.lt
         clear B3 x3 e1 e3 e4 e5 e6 e7 e8 e9)
      | (at_builtin
         refine wpList_append_nums rfl _ _ rfl w1.heap.size _ (slotsL (f.code.take j)) rfl (own_ext HO.out (X3.out.alloc (.cells #[.int .i64 x.a] 3))) (some ⟨w3.heap.size, 0, none⟩) 1 [x.a] rfl (nums_one w3 x.a) ?h1 ?h2 ?_))
     case h1 => have h9 := HLN.out; rw [HSX.out] at h9; simp only [List.length_cons, List.length_nil] at h9 ⊢; omega
     case h2 => have := HX.out.size; have := X3.out.size; (try simp); omega
     ·intro v' w5 ow5 g5
      have OW5 := Lib.hid ow5
      have X5 := Lib.hid ((HX.out.trans (X3.out.alloc (.cells #[.int .i64 x.a] 3))).grown g5 (own_row HO.out))
      clear ow5 g5
      go_wp2_with fail
      go_roundw
      case rel => exact ⟨j + 1, by omega, by go_num, by rw [HS.out, HSX.out]; simpa using OW5.out, X5.out⟩
      case measure => simp [intOf]; omega
    case inl =>
     have HSX : Hid (slotsX x = [x.a]) := slotsX_one (by omega)
     have q3 : (x.op == 3) = true := by rw [hop]; rfl
     clear hop
     go_wp2_with (first
      | ((with_reducible show wpList _ _ _ (Oper.mk none (.store 67 (.tmp 9) (.tmp 25)) _ _ _ _ :: _) _ _)
         refine store_new 67 _ _ rfl _ _ rfl rfl rfl rfl HZ.out (rg_one x) ?_
         intro w3 x3 B3
         have X3 := Lib.hid x3
         obtain ⟨e0, e1, e2, e3, e4, e5, e6, e7, e8, e9, e10⟩ := rg_cells x B3
         have zb := B3.lt
         clear B3 x3 e1 e3 e4 e5 e6 e7 e8 e9)
      | (at_builtin
         refine wpList_append_nums rfl _ _ rfl w1.heap.size _ (slotsL (f.code.take j)) rfl (own_ext HO.out (X3.out.alloc (.cells #[.int .i64 x.a] 3))) (some ⟨w3.heap.size, 0, none⟩) 1 [x.a] rfl (nums_one w3 x.a) ?h1 ?h2 ?_))
     case h1 => have h9 := HLN.out; rw [HSX.out] at h9; simp only [List.length_cons, List.length_nil] at h9 ⊢; omega
     case h2 => have := HX.out.size; have := X3.out.size; (try simp); omega
     ·intro v' w5 ow5 g5
      have OW5 := Lib.hid ow5
      have X5 := Lib.hid ((HX.out.trans (X3.out.alloc (.cells #[.int .i64 x.a] 3))).grown g5 (own_row HO.out))
      clear ow5 g5
      go_wp2_with fail
      go_roundw
      case rel => exact ⟨j + 1, by omega, by go_num, by rw [HS.out, HSX.out]; simpa using OW5.out, X5.out⟩
      case measure => simp [intOf]; omega
   ·obtain rfl : j = nc := by omega
    have HO2 : Hid (wr.ownsRow w1.heap.size 3 1 u7 (slotsL f.code).length ((slotsL f.code).map (Value.int .i64))) := by
     have h := HO.out
     rw [HNC.out, List.take_length] at h
     exact h
    have HL2 : Hid ((slotsL f.code).length ≤ 24000) := by
     have h := slotsL_len GF.out HP.out f.code.length (Nat.le_refl _)
     rw [List.take_length] at h
     show _ ≤ _
     have := HNC.out
     omega
    clear HO
    go_wp2_with (first
     | (go_at_call 105; refine (sort_own HO2.out rfl (by have := HL2.out; omega)).mono ?_; rintro r w3 ⟨rfl, g3, o3⟩; have G3 := Lib.hid g3; have O3 := Lib.hid o3; clear g3 o3)
     | (go_at_call 106; refine (compact_own O3.out (by rw [sortI_len]) (by have := HL2.out; omega)).mono ?_; rintro r w4 ⟨v2, rfl, hv2, g4, o4⟩; have G4 := Lib.hid g4; have O4 := Lib.hid o4; clear g4 o4))
    go_ret2
    exact ⟨_, rfl, own_ints O4.out, X1.out.trans ((HX.out.ownB HO2.out (Nat.le_refl _) G3.out).ownB O3.out (Nat.le_refl _) G4.out)⟩
 ·have HT : Hid (slotsR l k = []) := by
   unfold Hid slotsR
   rw [if_neg h0]
  rw [HT.out]
  generalize numE l k = a at *
  have hb : (a != 0) = true := by simpa using h0
  go_enter Tryz.func39, Tryz.ntmps39
  go_wp2_with (first
   | (go_at_call 104; refine (HK.out).mono ?_; rintro r w1 ⟨rfl, x1⟩))
  go_ret2
  exact ⟨_, rfl, IntsAt.nil _, exA⟩
end Go.Proofs.YtknaemlnhediaaaGreatDoor.c
