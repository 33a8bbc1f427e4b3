/- Which registers an instruction reads, and which one it writes: plainly; contracts of the program's uses, writes, Uses, Writes. The table strings.asciiSpace holds what its text lays; lengths are bounded. -/
import Derived.Test.YtknaemlnhediaaaGreatDoorRinst
import Derived.Test.YtknaemlnhediaaaGreatDoorSortc
import Derived.OwnWalk
namespace Go.Proofs.YtknaemlnhediaaaGreatDoor.c
open Go.RowKit
set_option linter.unusedVariables false
set_option maxRecDepth 100000
set_option maxHeartbeats 6400000
set_option linter.unusedSimpArgs false
def readsB (x : Rg) (r : Int) : Bool := ((partsR x.op).2.1 == 1 && x.a == r) || ((partsR x.op).2.2 == 1 && x.b == r)
def usesL (x : Rg) : List Int := ([0, 1, 2, 3, 4, 5] : List Int).filter (readsB x)
def usesR (x : Rg) : List Int := (if (partsR x.op).2.1 = 1 then [x.a] else []) ++ (if (partsR x.op).2.2 = 1 then [x.b] else [])
theorem sort_two (a b : Int) : sortI [a, b] = if a ≤ b then [a, b] else [b, a] := by
 unfold sortI
 simp [List.mergeSort, List.MergeSort.Internal.splitInTwo, List.merge]
theorem sort_one (a : Int) : sortI [a] = [a] := by simp [sortI]
theorem sort_none : sortI [] = [] := by simp [sortI]
theorem fin_uses : ∀ a b : Fin 6, (Lib.compact (if (a.val : Int) ≤ b.val then [(a.val : Int), b.val] else [(b.val : Int), a.val]) = ([0, 1, 2, 3, 4, 5] : List Int).filter (fun r => (a.val : Int) == r || (b.val : Int) == r)) ∧ Lib.compact [(a.val : Int)] = ([0, 1, 2, 3, 4, 5] : List Int).filter (fun r => (a.val : Int) == r) := by decide +kernel
theorem uses_eq {x : Rg} {regs code : Int} (hr : regs ≤ 6) (ha : isPartB (partsR x.op).2.1 x.a regs code = true) (hb : isPartB (partsR x.op).2.2 x.b regs code = true) : Lib.compact (sortI (usesR x)) = usesL x := by
 have one : ∀ (k n : Int), k = 1 → isPartB k n regs code = true → ∃ i : Fin 6, n = (i.val : Int) := by
  intro k n hk h
  subst hk
  have := isPartB_reg h
  exact ⟨⟨n.toNat, by omega⟩, by simp; omega⟩
 unfold usesR usesL readsB
 by_cases h1 : (partsR x.op).2.1 = 1
 ·obtain ⟨i, hi⟩ := one _ _ h1 ha
  by_cases h2 : (partsR x.op).2.2 = 1
  ·obtain ⟨j, hj⟩ := one _ _ h2 hb
   rw [if_pos h1, if_pos h2, h1, h2, hi, hj]
   show Lib.compact (sortI [_, _]) = _
   rw [sort_two, (fin_uses i j).1]
   rfl
  ·rw [if_pos h1, if_neg h2, hi, List.append_nil, sort_one, (fin_uses i 0).2]
   have e : ((partsR x.op).2.2 == 1) = false := by simpa using h2
   rw [h1, e]
   simp
 ·have e : ((partsR x.op).2.1 == 1) = false := by simpa using h1
  by_cases h2 : (partsR x.op).2.2 = 1
  ·obtain ⟨j, hj⟩ := one _ _ h2 hb
   rw [if_neg h1, if_pos h2, hj, List.nil_append, sort_one, (fin_uses j 0).2, h2, e]
   simp
  ·have e2 : ((partsR x.op).2.2 == 1) = false := by simpa using h2
   rw [if_neg h1, if_neg h2, e, e2]
   rw [List.append_nil, sort_none]
   simp [Lib.compact, Lib.compactUpTo]
def UsesZ (zs : List Int) (w : World) (e : Ending) (w' : World) : Prop := ∃ A c, e = .returned (.slice A (Lib.compact (sortI zs)).length c) ∧ Ext w w' ∧ NumsAt w' A (Lib.compact (sortI zs))
theorem own_nums {w : World} {base : Nat} {v : Value} {zs : List Int} (h : w.ownsRow base 3 1 v zs.length (zs.map (Value.int .i64))) : ∃ A c, v = .slice A zs.length c ∧ NumsAt w A zs := by
 obtain ⟨A, c, hv, ha⟩ := own_slice h
 refine ⟨A, c, hv, fun hn => ?_⟩
 obtain ⟨b, off, hA, hb, hc⟩ := ha hn
 refine ⟨b, off, hA, hb, fun i j hi hj => ?_⟩
 rw [hc i j hi hj]
 obtain rfl : j = 0 := by omega
 simp [List.getD, hi]
theorem Ext.own {w0 w w' : World} {base : Nat} {e : TypeId} {size : Nat} {v : Value} {n : Nat} {xs : List Value} (x : Ext w0 w) (h : w.ownsRow base e size v n xs) (hb : w0.heap.size ≤ base) (g : w.grownBy w' v.ownBlock) : Ext w0 w' :=
 x.grown g fun k hk => Nat.le_trans hb (own_row h k hk)
theorem UsesZ.mk_ {zs : List Int} {w0 w1 w2 w3 : World} {v v' : Value} {n : Nat} (hn : n = zs.length) (x1 : Ext w0 w1) (h1 : w1.ownsRow w0.heap.size 3 1 v n (zs.map (Value.int .i64))) (g2 : w1.grownBy w2 v.ownBlock)
  (h2 : w2.ownsRow w0.heap.size 3 1 v n ((sortI zs).map (Value.int .i64))) (hv : v'.ownBlock = v.ownBlock) (g3 : w2.grownBy w3 v.ownBlock) (h3 : w3.ownsRow w0.heap.size 3 1 v' (Lib.compact (sortI zs)).length ((Lib.compact (sortI zs)).map (Value.int .i64))) : UsesZ zs w0 (.returned v') w3 := by
 obtain ⟨A, c, rfl, ha⟩ := own_nums h3
 exact ⟨A, c, rfl, ((x1.own h1 (Nat.le_refl _) g2).own h2 (Nat.le_refl _) g3), ha⟩
theorem guses_none (op d a b : Int) (ty : Ty) (nm : ByteArray) (A : Option Addr) (n cap : Nat) (w : World) (hop : op = 0 ∨ op = 1 ∨ op = 3 ∨ op = 12 ∨ op = 14 ∨ op = 16 ∨ op = 17) :
  Calls Tryz.prog 99 #[.agg #[.int .i64 op, .int .i64 d, .int .i64 a, .int .i64 b, .int .i64 ty.base, .int .i64 ty.bits, .string ty.name, .bool ty.opt, .bool ty.err, .string nm, .slice A n cap]] w fun e w' => UsesZ [] w e w' := by
 have HO : Hid ((w.alloc (.cells #[.int .i64 op, .int .i64 d, .int .i64 a, .int .i64 b, .int .i64 ty.base, .int .i64 ty.bits, .string ty.name, .bool ty.opt, .bool ty.err, .string nm, .slice A n cap] 67)).ownsRow w.heap.size 3 1 (.slice none 0 0) 0 ([].map (Value.int .i64))) := World.ownsRow_nil _ _ _ _
 rcases hop with rfl | rfl | rfl | rfl | rfl | rfl | rfl
 all_goals
  go_enter Tryz.func99, Tryz.ntmps99
  go_wp2_with (first
   | (go_at_call 105; refine (sort_own HO.out rfl (by decide)).mono ?_; rintro r w1 ⟨rfl, g1, o1⟩; have G1 := Lib.hid g1; have O1 := Lib.hid o1; clear g1 o1)
   | (go_at_call 106; refine (compact_own O1.out (by rw [sortI_len]; rfl) (by decide)).mono ?_; rintro r w2 ⟨v2, rfl, hv2, g2, o2⟩; have G2 := Lib.hid g2; have O2 := Lib.hid o2; clear g2 o2))
  go_ret
  exact UsesZ.mk_ rfl exA HO.out G1.out O1.out hv2 G2.out O2.out
theorem guses_b (op d a b : Int) (ty : Ty) (nm : ByteArray) (A : Option Addr) (n cap : Nat) (w : World) (hop : op = 4) :
  Calls Tryz.prog 99 #[.agg #[.int .i64 op, .int .i64 d, .int .i64 a, .int .i64 b, .int .i64 ty.base, .int .i64 ty.bits, .string ty.name, .bool ty.opt, .bool ty.err, .string nm, .slice A n cap]] w fun e w' => UsesZ [b] w e w' := by
 have HO : Hid (((w.alloc (.cells #[.int .i64 op, .int .i64 d, .int .i64 a, .int .i64 b, .int .i64 ty.base, .int .i64 ty.bits, .string ty.name, .bool ty.opt, .bool ty.err, .string nm, .slice A n cap] 67)).alloc (.cells #[.int .i64 b] 3)).ownsRow w.heap.size 3 1 (.slice (some ⟨w.heap.size + 1, 0, none⟩) 1 1) 1 ([b].map (Value.int .i64))) := own_lit (zs := [b]) (blk2 w _ 3 #[.int .i64 b]) (by omega) (by simp)
 subst hop
 all_goals
  go_enter Tryz.func99, Tryz.ntmps99
  go_wp2_with (first
   | (go_at_call 105; refine (sort_own HO.out rfl (by decide)).mono ?_; rintro r w1 ⟨rfl, g1, o1⟩; have G1 := Lib.hid g1; have O1 := Lib.hid o1; clear g1 o1)
   | (go_at_call 106; refine (compact_own O1.out (by rw [sortI_len]; rfl) (by decide)).mono ?_; rintro r w2 ⟨v2, rfl, hv2, g2, o2⟩; have G2 := Lib.hid g2; have O2 := Lib.hid o2; clear g2 o2))
  go_ret
  exact UsesZ.mk_ rfl exA HO.out G1.out O1.out hv2 G2.out O2.out
theorem guses_a (op d a b : Int) (ty : Ty) (nm : ByteArray) (A : Option Addr) (n cap : Nat) (w : World) (hop : op = 2 ∨ op = 5 ∨ op = 6 ∨ op = 7 ∨ op = 8 ∨ op = 9 ∨ op = 10 ∨ op = 11 ∨ op = 13 ∨ op = 15) :
  Calls Tryz.prog 99 #[.agg #[.int .i64 op, .int .i64 d, .int .i64 a, .int .i64 b, .int .i64 ty.base, .int .i64 ty.bits, .string ty.name, .bool ty.opt, .bool ty.err, .string nm, .slice A n cap]] w fun e w' => UsesZ [a] w e w' := by
 have HO : Hid (((w.alloc (.cells #[.int .i64 op, .int .i64 d, .int .i64 a, .int .i64 b, .int .i64 ty.base, .int .i64 ty.bits, .string ty.name, .bool ty.opt, .bool ty.err, .string nm, .slice A n cap] 67)).alloc (.cells #[.int .i64 a] 3)).ownsRow w.heap.size 3 1 (.slice (some ⟨w.heap.size + 1, 0, none⟩) 1 1) 1 ([a].map (Value.int .i64))) := own_lit (zs := [a]) (blk2 w _ 3 #[.int .i64 a]) (by omega) (by simp)
 rcases hop with rfl | rfl | rfl | rfl | rfl | rfl | rfl | rfl | rfl | rfl
 all_goals
  go_enter Tryz.func99, Tryz.ntmps99
  go_wp2_with (first
   | (go_at_call 105; refine (sort_own HO.out rfl (by decide)).mono ?_; rintro r w1 ⟨rfl, g1, o1⟩; have G1 := Lib.hid g1; have O1 := Lib.hid o1; clear g1 o1)
   | (go_at_call 106; refine (compact_own O1.out (by rw [sortI_len]; rfl) (by decide)).mono ?_; rintro r w2 ⟨v2, rfl, hv2, g2, o2⟩; have G2 := Lib.hid g2; have O2 := Lib.hid o2; clear g2 o2))
  go_ret
  exact UsesZ.mk_ rfl exA HO.out G1.out O1.out hv2 G2.out O2.out
theorem guses_ab (op d a b : Int) (ty : Ty) (nm : ByteArray) (A : Option Addr) (n cap : Nat) (w : World) (hop : 105 ≤ op ∧ op ≤ 123) :
  Calls Tryz.prog 99 #[.agg #[.int .i64 op, .int .i64 d, .int .i64 a, .int .i64 b, .int .i64 ty.base, .int .i64 ty.bits, .string ty.name, .bool ty.opt, .bool ty.err, .string nm, .slice A n cap]] w fun e w' => UsesZ [a, b] w e w' := by
 have HO : Hid (((w.alloc (.cells #[.int .i64 op, .int .i64 d, .int .i64 a, .int .i64 b, .int .i64 ty.base, .int .i64 ty.bits, .string ty.name, .bool ty.opt, .bool ty.err, .string nm, .slice A n cap] 67)).alloc (.cells #[.int .i64 a, .int .i64 b] 3)).ownsRow w.heap.size 3 1 (.slice (some ⟨w.heap.size + 1, 0, none⟩) 2 2) 2 ([a, b].map (Value.int .i64))) := own_lit (zs := [a, b]) (blk2 w _ 3 #[.int .i64 a, .int .i64 b]) (by omega) (by simp)
 obtain ⟨hop1, hop2⟩ := hop
 all_goals
  go_enter Tryz.func99, Tryz.ntmps99
  go_wp2_with (first
   | (go_at_call 105; refine (sort_own HO.out rfl (by decide)).mono ?_; rintro r w1 ⟨rfl, g1, o1⟩; have G1 := Lib.hid g1; have O1 := Lib.hid o1; clear g1 o1)
   | (go_at_call 106; refine (compact_own O1.out (by rw [sortI_len]; rfl) (by decide)).mono ?_; rintro r w2 ⟨v2, rfl, hv2, g2, o2⟩; have G2 := Lib.hid g2; have O2 := Lib.hid o2; clear g2 o2))
  go_ret
  exact UsesZ.mk_ rfl exA HO.out G1.out O1.out hv2 G2.out O2.out
theorem guses_any (x : Rg) (w : World) (hop : isOpB x.op = true) :
  Calls Tryz.prog 99 #[.agg #[.int .i64 x.op, .int .i64 x.d, .int .i64 x.a, .int .i64 x.b, .int .i64 x.ty.base, .int .i64 x.ty.bits, .string x.ty.name, .bool x.ty.opt, .bool x.ty.err, .string x.name, .slice x.A x.args.length x.cap]] w fun e w' => UsesZ (usesR x) w e w' := by
 obtain ⟨op, d, a, b, ty, nm, A, cap, args⟩ := x
 simp only [] at *
 have h : (op = 0 ∨ op = 1 ∨ op = 3 ∨ op = 12 ∨ op = 14 ∨ op = 16 ∨ op = 17) ∨ op = 4 ∨ (op = 2 ∨ op = 5 ∨ op = 6 ∨ op = 7 ∨ op = 8 ∨ op = 9 ∨ op = 10 ∨ op = 11 ∨ op = 13 ∨ op = 15) ∨ (105 ≤ op ∧ op ≤ 123) := by
  unfold isOpB at hop
  simp only [Bool.or_eq_true, inB_iff] at hop
  omega
 rcases h with h | h | h | h
 ·have e : usesR ⟨op, d, a, b, ty, nm, A, cap, args⟩ = [] := by
   unfold usesR
   rcases h with rfl | rfl | rfl | rfl | rfl | rfl | rfl <;> rfl
  rw [e]
  exact guses_none op d a b ty nm A args.length cap w h
 ·have e : usesR ⟨op, d, a, b, ty, nm, A, cap, args⟩ = [b] := by subst h; rfl
  rw [e]
  exact guses_b op d a b ty nm A args.length cap w h
 ·have e : usesR ⟨op, d, a, b, ty, nm, A, cap, args⟩ = [a] := by
   unfold usesR
   rcases h with rfl | rfl | rfl | rfl | rfl | rfl | rfl | rfl | rfl | rfl <;> rfl
  rw [e]
  exact guses_a op d a b ty nm A args.length cap w h
 ·have e : usesR ⟨op, d, a, b, ty, nm, A, cap, args⟩ = [a, b] := by
   unfold usesR
   simp only []
   rw [partsR_op (by omega)]
   rfl
  rw [e]
  exact guses_ab op d a b ty nm A args.length cap w h
def writesR (x : Rg) : Bool := (partsR x.op).1 == 1
theorem gwrites_any (x : Rg) (w : World) (hop : isOpB x.op = true) :
  Calls Tryz.prog 102 #[.agg #[.int .i64 x.op, .int .i64 x.d, .int .i64 x.a, .int .i64 x.b, .int .i64 x.ty.base, .int .i64 x.ty.bits, .string x.ty.name, .bool x.ty.opt, .bool x.ty.err, .string x.name, .slice x.A x.args.length x.cap]] w fun e w' => e = .returned (.tuple #[.int .i64 (if writesR x = true then x.d else 0), .bool (writesR x)]) ∧ Ext w w' := by
 obtain ⟨op, d, a, b, ty, nm, A, cap, args⟩ := x
 simp only [] at *
 have h : (op = 4 ∨ op = 10 ∨ op = 11 ∨ op = 12 ∨ op = 13 ∨ op = 15 ∨ op = 17) ∨ (op ≠ 4 ∧ op ≠ 10 ∧ op ≠ 11 ∧ op ≠ 12 ∧ op ≠ 13 ∧ op ≠ 15 ∧ op ≠ 17) := by omega
 rcases h with h | ⟨h1, h2, h3, h4, h5, h6, h7⟩
 ·rcases h with rfl | rfl | rfl | rfl | rfl | rfl | rfl
  all_goals
   go_enter Tryz.func102, Tryz.ntmps102
   go_wp2_with fail
   go_ret2
   exact ⟨rfl, exA⟩
 ·have e : Hid (writesR ⟨op, d, a, b, ty, nm, A, cap, args⟩ = true) := by
   have h : op = 0 ∨ op = 1 ∨ op = 2 ∨ op = 3 ∨ op = 5 ∨ op = 6 ∨ op = 7 ∨ op = 8 ∨ op = 9 ∨ op = 14 ∨ op = 16 ∨ 18 ≤ op := by
    unfold isOpB at hop
    simp only [Bool.or_eq_true, inB_iff] at hop
    omega
   unfold Hid writesR
   rcases h with rfl | rfl | rfl | rfl | rfl | rfl | rfl | rfl | rfl | rfl | rfl | h
   all_goals first | rfl | (simp only []; rw [partsR_op h]; rfl)
  rw [e.out, if_pos rfl]
  clear hop e
  go_enter Tryz.func102, Tryz.ntmps102
  go_wp2_with fail
  go_ret2
  exact ⟨rfl, exA⟩
theorem enters_alone1 : Enters 171 := Enters.of Tryz.func171 (by kernel_rfl) (by kernel_rfl)
theorem alone1_any (nm : ByteArray) (n : Int) (w : World) (g : Laid w) :
  Calls Tryz.prog 171 #[.string nm, .int .i64 n] w fun e w' => e = .returned (.bool (isNameS nm && decide (n ≤ 4))) ∧ Ext w w' := by
 cases h : isNameS nm
 all_goals
  have HH := Lib.hid h
  clear h
  go_enter Tryz.func171, Tryz.ntmps171
  go_wp2_with (first
   | (go_at_call 144; refine (isName_any nm _ (g.ext exA)).mono ?_; rw [HH.out]; rintro r w1 ⟨rfl, x1⟩))
  go_ret
  exact ⟨ret_bool (by simp), exA⟩
theorem alone_any (w : World) : Calls Tryz.prog 97 #[] w fun e w' => e = .returned (.agg #[.int .i64 6, .int .i64 6000, .func (.func 171) #[] #[]]) ∧ Ext w w' := by
 have HZ : (Tryz.prog.info? 153).map (·.size) = some 3 := by kernel_rfl
 go_enter Tryz.func97, Tryz.ntmps97
 go_wp2_with (first
  | ((with_reducible show wpList _ _ _ (Oper.mk none (.store 153 (.tmp 0) (.tmp 1)) _ _ _ _ :: _) _ _)
     refine store_new 153 #[.int .i64 0, .int .i64 0, .nilFunc] #[.int .i64 6, .int .i64 6000, .func (.func 171) #[] #[]] rfl _ _ rfl rfl rfl rfl HZ (by intro v hv; simp at hv; rcases hv with rfl | rfl | rfl <;> rfl) ?_
     intro w3 x3 B3
     have BB := Lib.hid B3
     clear B3))
 exact bodyPost_ret (results_cell_row rfl _ _ w.heap.size 153 #[.int .i64 6, .int .i64 6000, .func (.func 171) #[] #[]] (0, 0) _ rfl BB.out Tryz.underlying153 rfl HZ) rfl ⟨rfl, x3⟩
def askB (x : Rg) : Bool := instR (isNameS x.name && decide ((x.args.length : Int) ≤ 4)) 6 6000 x
def askE (x : Rg) : Int := if askB x = true then 0 else 1
def askU (x : Rg) : List Int := if askB x = true then usesL x else []
theorem box_cells (x : Rg) (w w' : World) (h : Ext (w.alloc (.cells #[.int .i64 x.op, .int .i64 x.d, .int .i64 x.a, .int .i64 x.b, .int .i64 x.ty.base, .int .i64 x.ty.bits, .string x.ty.name, .bool x.ty.opt, .bool x.ty.err, .string x.name, .slice x.A x.args.length x.cap] 67)) w') : w'.cell? ⟨w.heap.size, 0, none⟩ = some (.int .i64 x.op) ∧ w'.cell? ⟨w.heap.size, 1, none⟩ = some (.int .i64 x.d) ∧ w'.cell? ⟨w.heap.size, 2, none⟩ = some (.int .i64 x.a) ∧ w'.cell? ⟨w.heap.size, 3, none⟩ = some (.int .i64 x.b) ∧ w'.cell? ⟨w.heap.size, 4, none⟩ = some (.int .i64 x.ty.base) ∧ w'.cell? ⟨w.heap.size, 5, none⟩ = some (.int .i64 x.ty.bits) ∧ w'.cell? ⟨w.heap.size, 6, none⟩ = some (.string x.ty.name) ∧ w'.cell? ⟨w.heap.size, 7, none⟩ = some (.bool x.ty.opt) ∧ w'.cell? ⟨w.heap.size, 8, none⟩ = some (.bool x.ty.err) ∧ w'.cell? ⟨w.heap.size, 9, none⟩ = some (.string x.name) ∧ w'.cell? ⟨w.heap.size, 10, none⟩ = some (.slice x.A x.args.length x.cap) := by
 have b := (Blk.new w 67 #[.int .i64 x.op, .int .i64 x.d, .int .i64 x.a, .int .i64 x.b, .int .i64 x.ty.base, .int .i64 x.ty.bits, .string x.ty.name, .bool x.ty.opt, .bool x.ty.err, .string x.name, .slice x.A x.args.length x.cap]).ext h
 exact ⟨b.cell 0, b.cell 1, b.cell 2, b.cell 3, b.cell 4, b.cell 5, b.cell 6, b.cell 7, b.cell 8, b.cell 9, b.cell 10⟩
theorem alone_inst (x : Rg) (w : World) (g : Laid w) (hal : x.args.length ≤ 9223372036854775806) (hA : NumsAt w x.A x.args) (hin : In64 x.op) :
  Calls Tryz.prog 98 #[.agg #[.int .i64 6, .int .i64 6000, .func (.func 171) #[] #[]], .agg #[.int .i64 x.op, .int .i64 x.d, .int .i64 x.a, .int .i64 x.b, .int .i64 x.ty.base, .int .i64 x.ty.bits, .string x.ty.name, .bool x.ty.opt, .bool x.ty.err, .string x.name, .slice x.A x.args.length x.cap]] w fun e w' => e = .returned (.bool (askB x)) ∧ Ext w w' :=
 isInst_any 6 6000 171 #[] (isNameS x.name && decide ((x.args.length : Int) ≤ 4)) x w g (by decide) (by decide) (by decide) (by decide) hal enters_alone1 (fun w1 xx => alone1_any x.name _ w1 (g.ext xx)) hA hin
theorem askB_op {x : Rg} (h : askB x = true) : isOpB x.op = true := by
 unfold askB instR at h
 simp only [Bool.and_eq_true] at h
 exact h.1
theorem askB_uses {x : Rg} (h : askB x = true) : Lib.compact (sortI (usesR x)) = usesL x := by
 unfold askB instR at h
 simp only [Bool.and_eq_true] at h
 exact uses_eq (by decide) h.2.2.1 h.2.2.2.1
theorem gUses_any (x : Rg) (w : World) (g : Laid w) (hal : x.args.length ≤ 9223372036854775806) (hA : NumsAt w x.A x.args) (hin : In64 x.op) :
  Calls Tryz.prog 34 #[.agg #[.int .i64 x.op, .int .i64 x.d, .int .i64 x.a, .int .i64 x.b, .int .i64 x.ty.base, .int .i64 x.ty.bits, .string x.ty.name, .bool x.ty.opt, .bool x.ty.err, .string x.name, .slice x.A x.args.length x.cap]] w fun e w' => ∃ v, e = .returned (.tuple #[v, .int .i64 (askE x)]) ∧ IntsAt w' v (askU x) ∧ Ext w w' := by
 have HA := Lib.hid hA
 have HB := Lib.hid (box_cells x w)
 obtain ⟨ab, hab⟩ : ∃ ab, askB x = ab := ⟨_, rfl⟩
 have HI : Hid (∀ w1, Ext w w1 → Calls Tryz.prog 98 #[.agg #[.int .i64 6, .int .i64 6000, .func (.func 171) #[] #[]], .agg #[.int .i64 x.op, .int .i64 x.d, .int .i64 x.a, .int .i64 x.b, .int .i64 x.ty.base, .int .i64 x.ty.bits, .string x.ty.name, .bool x.ty.opt, .bool x.ty.err, .string x.name, .slice x.A x.args.length x.cap]] w1 fun e w' => e = .returned (.bool ab) ∧ Ext w1 w') := by
  intro w1 xx
  have h := alone_inst x w1 (g.ext xx) hal (HA.out.ext xx) hin
  rwa [hab] at h
 have X0 : Hid (Ext w (w.alloc (.cells #[.int .i64 x.op, .int .i64 x.d, .int .i64 x.a, .int .i64 x.b, .int .i64 x.ty.base, .int .i64 x.ty.bits, .string x.ty.name, .bool x.ty.opt, .bool x.ty.err, .string x.name, .slice x.A x.args.length x.cap] 67))) := (Ext.refl w).alloc _
 clear hA
 cases ab
 ·have HE : Hid (askE x = 1 ∧ askU x = []) := by unfold Hid askE askU; rw [hab]; exact ⟨rfl, rfl⟩
  rw [HE.out.1, HE.out.2]
  clear hab
  go_enter Tryz.func34, Tryz.ntmps34
  go_wp2_with fail
  generalize hw0 : w.alloc (.cells #[.int .i64 x.op, .int .i64 x.d, .int .i64 x.a, .int .i64 x.b, .int .i64 x.ty.base, .int .i64 x.ty.bits, .string x.ty.name, .bool x.ty.opt, .bool x.ty.err, .string x.name, .slice x.A x.args.length x.cap] 67) = w0 at *
  go_region_held3 (fun w' => w'.cell? ⟨w.heap.size, 0, none⟩ = some (.int .i64 x.op) ∧ w'.cell? ⟨w.heap.size, 1, none⟩ = some (.int .i64 x.d) ∧ w'.cell? ⟨w.heap.size, 2, none⟩ = some (.int .i64 x.a) ∧ w'.cell? ⟨w.heap.size, 3, none⟩ = some (.int .i64 x.b) ∧ w'.cell? ⟨w.heap.size, 4, none⟩ = some (.int .i64 x.ty.base) ∧ w'.cell? ⟨w.heap.size, 5, none⟩ = some (.int .i64 x.ty.bits) ∧ w'.cell? ⟨w.heap.size, 6, none⟩ = some (.string x.ty.name) ∧ w'.cell? ⟨w.heap.size, 7, none⟩ = some (.bool x.ty.opt) ∧ w'.cell? ⟨w.heap.size, 8, none⟩ = some (.bool x.ty.err) ∧ w'.cell? ⟨w.heap.size, 9, none⟩ = some (.string x.name) ∧ w'.cell? ⟨w.heap.size, 10, none⟩ = some (.slice x.A x.args.length x.cap)) ((first | exact HB.out _ ((Ext.refl _).drew) | exact HB.out _ (x1.drew) | exact HB.out _ exA)) ((first
   | (go_at_call 97; refine (alone_any _).mono ?_; rintro r w1 ⟨rfl, x1⟩)
   | (go_at_call 98; refine (HI.out _ (X0.out.trans exA)).mono ?_; rintro r w2 ⟨rfl, x2⟩)))
  all_goals
   go_wp2_with fail
   go_ret2
   exact ⟨_, rfl, IntsAt.nil _, X0.out.trans exA⟩
 ·have HO : Hid (isOpB x.op = true) := askB_op hab
  have HU : Hid (Lib.compact (sortI (usesR x)) = usesL x) := askB_uses hab
  have HE : Hid (askE x = 0 ∧ askU x = usesL x) := by unfold Hid askE askU; rw [hab]; exact ⟨rfl, rfl⟩
  rw [HE.out.1, HE.out.2]
  clear hab
  go_enter Tryz.func34, Tryz.ntmps34
  go_wp2_with fail
  generalize hw0 : w.alloc (.cells #[.int .i64 x.op, .int .i64 x.d, .int .i64 x.a, .int .i64 x.b, .int .i64 x.ty.base, .int .i64 x.ty.bits, .string x.ty.name, .bool x.ty.opt, .bool x.ty.err, .string x.name, .slice x.A x.args.length x.cap] 67) = w0 at *
  go_region_held3 (fun w' => w'.cell? ⟨w.heap.size, 0, none⟩ = some (.int .i64 x.op) ∧ w'.cell? ⟨w.heap.size, 1, none⟩ = some (.int .i64 x.d) ∧ w'.cell? ⟨w.heap.size, 2, none⟩ = some (.int .i64 x.a) ∧ w'.cell? ⟨w.heap.size, 3, none⟩ = some (.int .i64 x.b) ∧ w'.cell? ⟨w.heap.size, 4, none⟩ = some (.int .i64 x.ty.base) ∧ w'.cell? ⟨w.heap.size, 5, none⟩ = some (.int .i64 x.ty.bits) ∧ w'.cell? ⟨w.heap.size, 6, none⟩ = some (.string x.ty.name) ∧ w'.cell? ⟨w.heap.size, 7, none⟩ = some (.bool x.ty.opt) ∧ w'.cell? ⟨w.heap.size, 8, none⟩ = some (.bool x.ty.err) ∧ w'.cell? ⟨w.heap.size, 9, none⟩ = some (.string x.name) ∧ w'.cell? ⟨w.heap.size, 10, none⟩ = some (.slice x.A x.args.length x.cap)) ((first | exact HB.out _ ((Ext.refl _).drew) | exact HB.out _ (x1.drew) | exact HB.out _ exA)) ((first
   | (go_at_call 97; refine (alone_any _).mono ?_; rintro r w1 ⟨rfl, x1⟩)
   | (go_at_call 98; refine (HI.out _ (X0.out.trans exA)).mono ?_; rintro r w2 ⟨rfl, x2⟩)))
  all_goals
   go_wp2_with (first
    | (go_at_call 99; refine (guses_any x _ HO.out).mono ?_; rintro r w3 ⟨A3, c3, rfl, x3, n3⟩))
   go_ret2
   exact ⟨_, rfl, by rw [← HU.out]; exact ⟨A3, c3, rfl, n3⟩, X0.out.trans exA⟩
theorem gWrites_any (x : Rg) (w : World) (g : Laid w) (hal : x.args.length ≤ 9223372036854775806) (hA : NumsAt w x.A x.args) (hin : In64 x.op) :
  Calls Tryz.prog 36 #[.agg #[.int .i64 x.op, .int .i64 x.d, .int .i64 x.a, .int .i64 x.b, .int .i64 x.ty.base, .int .i64 x.ty.bits, .string x.ty.name, .bool x.ty.opt, .bool x.ty.err, .string x.name, .slice x.A x.args.length x.cap]] w fun e w' => e = .returned (.tuple #[.int .i64 (if (askB x && writesR x) = true then x.d else 0), .bool (askB x && writesR x), .int .i64 (askE x)]) ∧ Ext w w' := by
 have HA := Lib.hid hA
 have HB := Lib.hid (box_cells x w)
 obtain ⟨ab, hab⟩ : ∃ ab, askB x = ab := ⟨_, rfl⟩
 have HI : Hid (∀ w1, Ext w w1 → Calls Tryz.prog 98 #[.agg #[.int .i64 6, .int .i64 6000, .func (.func 171) #[] #[]], .agg #[.int .i64 x.op, .int .i64 x.d, .int .i64 x.a, .int .i64 x.b, .int .i64 x.ty.base, .int .i64 x.ty.bits, .string x.ty.name, .bool x.ty.opt, .bool x.ty.err, .string x.name, .slice x.A x.args.length x.cap]] w1 fun e w' => e = .returned (.bool ab) ∧ Ext w1 w') := by
  intro w1 xx
  have h := alone_inst x w1 (g.ext xx) hal (HA.out.ext xx) hin
  rwa [hab] at h
 have X0 : Hid (Ext w (w.alloc (.cells #[.int .i64 x.op, .int .i64 x.d, .int .i64 x.a, .int .i64 x.b, .int .i64 x.ty.base, .int .i64 x.ty.bits, .string x.ty.name, .bool x.ty.opt, .bool x.ty.err, .string x.name, .slice x.A x.args.length x.cap] 67))) := (Ext.refl w).alloc _
 clear hA
 cases ab
 ·have HE : Hid (askE x = 1) := by unfold Hid askE; rw [hab]; rfl
  rw [HE.out, hab, Bool.false_and, if_neg (by decide)]
  clear hab
  go_enter Tryz.func36, Tryz.ntmps36
  go_wp2_with fail
  generalize hw0 : w.alloc (.cells #[.int .i64 x.op, .int .i64 x.d, .int .i64 x.a, .int .i64 x.b, .int .i64 x.ty.base, .int .i64 x.ty.bits, .string x.ty.name, .bool x.ty.opt, .bool x.ty.err, .string x.name, .slice x.A x.args.length x.cap] 67) = w0 at *
  go_region_held3 (fun w' => w'.cell? ⟨w.heap.size, 0, none⟩ = some (.int .i64 x.op) ∧ w'.cell? ⟨w.heap.size, 1, none⟩ = some (.int .i64 x.d) ∧ w'.cell? ⟨w.heap.size, 2, none⟩ = some (.int .i64 x.a) ∧ w'.cell? ⟨w.heap.size, 3, none⟩ = some (.int .i64 x.b) ∧ w'.cell? ⟨w.heap.size, 4, none⟩ = some (.int .i64 x.ty.base) ∧ w'.cell? ⟨w.heap.size, 5, none⟩ = some (.int .i64 x.ty.bits) ∧ w'.cell? ⟨w.heap.size, 6, none⟩ = some (.string x.ty.name) ∧ w'.cell? ⟨w.heap.size, 7, none⟩ = some (.bool x.ty.opt) ∧ w'.cell? ⟨w.heap.size, 8, none⟩ = some (.bool x.ty.err) ∧ w'.cell? ⟨w.heap.size, 9, none⟩ = some (.string x.name) ∧ w'.cell? ⟨w.heap.size, 10, none⟩ = some (.slice x.A x.args.length x.cap)) ((first | exact HB.out _ ((Ext.refl _).drew) | exact HB.out _ (x1.drew) | exact HB.out _ exA)) ((first
   | (go_at_call 97; refine (alone_any _).mono ?_; rintro r w1 ⟨rfl, x1⟩)
   | (go_at_call 98; refine (HI.out _ (X0.out.trans exA)).mono ?_; rintro r w2 ⟨rfl, x2⟩)))
  all_goals
   go_wp2_with fail
   go_ret3
   exact ⟨rfl, X0.out.trans exA⟩
 ·have HO : Hid (isOpB x.op = true) := askB_op hab
  have HE : Hid (askE x = 0) := by unfold Hid askE; rw [hab]; rfl
  rw [HE.out, hab, Bool.true_and]
  obtain ⟨wd, hwd⟩ : ∃ wd, (if writesR x = true then x.d else 0) = wd := ⟨_, rfl⟩
  obtain ⟨wb, hwb⟩ : ∃ wb, writesR x = wb := ⟨_, rfl⟩
  have HW : Hid (∀ w1, Calls Tryz.prog 102 #[.agg #[.int .i64 x.op, .int .i64 x.d, .int .i64 x.a, .int .i64 x.b, .int .i64 x.ty.base, .int .i64 x.ty.bits, .string x.ty.name, .bool x.ty.opt, .bool x.ty.err, .string x.name, .slice x.A x.args.length x.cap]] w1 fun e w' => e = .returned (.tuple #[.int .i64 wd, .bool wb]) ∧ Ext w1 w') := by
   intro w1
   have h := gwrites_any x w1 HO.out
   rwa [hwd, hwb] at h
  rw [hwd, hwb]
  clear hwd hwb
  clear hab
  go_enter Tryz.func36, Tryz.ntmps36
  go_wp2_with fail
  generalize hw0 : w.alloc (.cells #[.int .i64 x.op, .int .i64 x.d, .int .i64 x.a, .int .i64 x.b, .int .i64 x.ty.base, .int .i64 x.ty.bits, .string x.ty.name, .bool x.ty.opt, .bool x.ty.err, .string x.name, .slice x.A x.args.length x.cap] 67) = w0 at *
  go_region_held3 (fun w' => w'.cell? ⟨w.heap.size, 0, none⟩ = some (.int .i64 x.op) ∧ w'.cell? ⟨w.heap.size, 1, none⟩ = some (.int .i64 x.d) ∧ w'.cell? ⟨w.heap.size, 2, none⟩ = some (.int .i64 x.a) ∧ w'.cell? ⟨w.heap.size, 3, none⟩ = some (.int .i64 x.b) ∧ w'.cell? ⟨w.heap.size, 4, none⟩ = some (.int .i64 x.ty.base) ∧ w'.cell? ⟨w.heap.size, 5, none⟩ = some (.int .i64 x.ty.bits) ∧ w'.cell? ⟨w.heap.size, 6, none⟩ = some (.string x.ty.name) ∧ w'.cell? ⟨w.heap.size, 7, none⟩ = some (.bool x.ty.opt) ∧ w'.cell? ⟨w.heap.size, 8, none⟩ = some (.bool x.ty.err) ∧ w'.cell? ⟨w.heap.size, 9, none⟩ = some (.string x.name) ∧ w'.cell? ⟨w.heap.size, 10, none⟩ = some (.slice x.A x.args.length x.cap)) ((first | exact HB.out _ ((Ext.refl _).drew) | exact HB.out _ (x1.drew) | exact HB.out _ exA)) ((first
   | (go_at_call 97; refine (alone_any _).mono ?_; rintro r w1 ⟨rfl, x1⟩)
   | (go_at_call 98; refine (HI.out _ (X0.out.trans exA)).mono ?_; rintro r w2 ⟨rfl, x2⟩)))
  all_goals
   go_wp2_with (first
    | (go_at_call 102; refine (HW.out _).mono ?_; rintro r w3 ⟨rfl, x3⟩))
   go_ret3
   exact ⟨rfl, X0.out.trans exA⟩
end Go.Proofs.YtknaemlnhediaaaGreatDoor.c
