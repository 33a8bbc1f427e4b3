/- Which registers an instruction reads, and which one it writes: plainly; contracts of the program's uses, writes, Uses, Writes. The table strings.asciiSpace holds what its text lays; lengths are bounded. -/
import Derived.Test.YtknaemlnhediaaaGreatDoorRinst
import Derived.Test.YtknaemlnhediaaaGreatDoorSortc
import Derived.OwnWalk
namespace Go.Proofs.YtknaemlnhediaaaGreatDoor.c
open Go.RowKit
set_option linter.unusedVariables false
set_option maxRecDepth 100000
set_option maxHeartbeats 1600000
set_option linter.unusedSimpArgs false
def usesR (x : Rg) : List Int := (if (partsR x.op).2.1 = 1 then [x.a] else []) ++ (if (partsR x.op).2.2 = 1 then [x.b] else [])
def UsesZ (zs : List Int) (w : World) (e : Ending) (w' : World) : Prop := ∃ A c, e = .returned (.slice A (Lib.compact (sortI zs)).length c) ∧ Ext w w' ∧ NumsAt w' A (Lib.compact (sortI zs))
theorem own_nums {w : World} {base : Nat} {v : Value} {zs : List Int} (h : w.ownsRow base 3 1 v zs.length (zs.map (Value.int .i64))) : ∃ A c, v = .slice A zs.length c ∧ NumsAt w A zs := by
 obtain ⟨A, c, hv, ha⟩ := own_slice h
 refine ⟨A, c, hv, fun hn => ?_⟩
 obtain ⟨b, off, hA, hb, hc⟩ := ha hn
 refine ⟨b, off, hA, hb, fun i j hi hj => ?_⟩
 rw [hc i j hi hj]
 obtain rfl : j = 0 := by omega
 simp [List.getD, hi]
theorem Ext.own {w0 w w' : World} {base : Nat} {e : TypeId} {size : Nat} {v : Value} {n : Nat} {xs : List Value} (x : Ext w0 w) (h : w.ownsRow base e size v n xs) (hb : w0.heap.size ≤ base) (g : w.grownBy w' v.ownBlock) : Ext w0 w' :=
 x.grown g fun k hk => Nat.le_trans hb (own_row h k hk)
theorem UsesZ.mk_ {zs : List Int} {w0 w1 w2 w3 : World} {v v' : Value} {n : Nat} (hn : n = zs.length) (x1 : Ext w0 w1) (h1 : w1.ownsRow w0.heap.size 3 1 v n (zs.map (Value.int .i64))) (g2 : w1.grownBy w2 v.ownBlock)
  (h2 : w2.ownsRow w0.heap.size 3 1 v n ((sortI zs).map (Value.int .i64))) (hv : v'.ownBlock = v.ownBlock) (g3 : w2.grownBy w3 v.ownBlock) (h3 : w3.ownsRow w0.heap.size 3 1 v' (Lib.compact (sortI zs)).length ((Lib.compact (sortI zs)).map (Value.int .i64))) : UsesZ zs w0 (.returned v') w3 := by
 obtain ⟨A, c, rfl, ha⟩ := own_nums h3
 exact ⟨A, c, rfl, ((x1.own h1 (Nat.le_refl _) g2).own h2 (Nat.le_refl _) g3), ha⟩
theorem guses_none (op d a b : Int) (ty : Ty) (nm : ByteArray) (A : Option Addr) (n cap : Nat) (w : World) (hop : op = 0 ∨ op = 1 ∨ op = 3 ∨ op = 12 ∨ op = 14 ∨ op = 16 ∨ op = 17) :
  Calls Tryz.prog 99 #[.agg #[.int .i64 op, .int .i64 d, .int .i64 a, .int .i64 b, .int .i64 ty.base, .int .i64 ty.bits, .string ty.name, .bool ty.opt, .bool ty.err, .string nm, .slice A n cap]] w fun e w' => UsesZ [] w e w' := by
 have HO : Hid ((w.alloc (.cells #[.int .i64 op, .int .i64 d, .int .i64 a, .int .i64 b, .int .i64 ty.base, .int .i64 ty.bits, .string ty.name, .bool ty.opt, .bool ty.err, .string nm, .slice A n cap] 67)).ownsRow w.heap.size 3 1 (.slice none 0 0) 0 ([].map (Value.int .i64))) := World.ownsRow_nil _ _ _ _
 rcases hop with rfl | rfl | rfl | rfl | rfl | rfl | rfl
 all_goals
  go_enter Tryz.func99, Tryz.ntmps99
  go_wp2_with (first
   | (go_at_call 105; refine (sort_own HO.out rfl (by decide)).mono ?_; rintro r w1 ⟨rfl, g1, o1⟩; have G1 := Lib.hid g1; have O1 := Lib.hid o1; clear g1 o1)
   | (go_at_call 106; refine (compact_own O1.out (by rw [sortI_len]; rfl) (by decide)).mono ?_; rintro r w2 ⟨v2, rfl, hv2, g2, o2⟩; have G2 := Lib.hid g2; have O2 := Lib.hid o2; clear g2 o2))
  go_ret
  exact UsesZ.mk_ rfl exA HO.out G1.out O1.out hv2 G2.out O2.out
theorem guses_b (op d a b : Int) (ty : Ty) (nm : ByteArray) (A : Option Addr) (n cap : Nat) (w : World) (hop : op = 4) :
  Calls Tryz.prog 99 #[.agg #[.int .i64 op, .int .i64 d, .int .i64 a, .int .i64 b, .int .i64 ty.base, .int .i64 ty.bits, .string ty.name, .bool ty.opt, .bool ty.err, .string nm, .slice A n cap]] w fun e w' => UsesZ [b] w e w' := by
 have HO : Hid (((w.alloc (.cells #[.int .i64 op, .int .i64 d, .int .i64 a, .int .i64 b, .int .i64 ty.base, .int .i64 ty.bits, .string ty.name, .bool ty.opt, .bool ty.err, .string nm, .slice A n cap] 67)).alloc (.cells #[.int .i64 b] 3)).ownsRow w.heap.size 3 1 (.slice (some ⟨w.heap.size + 1, 0, none⟩) 1 1) 1 ([b].map (Value.int .i64))) := own_lit (zs := [b]) (blk2 w _ 3 #[.int .i64 b]) (by omega) (by simp)
 subst hop
 all_goals
  go_enter Tryz.func99, Tryz.ntmps99
  go_wp2_with (first
   | (go_at_call 105; refine (sort_own HO.out rfl (by decide)).mono ?_; rintro r w1 ⟨rfl, g1, o1⟩; have G1 := Lib.hid g1; have O1 := Lib.hid o1; clear g1 o1)
   | (go_at_call 106; refine (compact_own O1.out (by rw [sortI_len]; rfl) (by decide)).mono ?_; rintro r w2 ⟨v2, rfl, hv2, g2, o2⟩; have G2 := Lib.hid g2; have O2 := Lib.hid o2; clear g2 o2))
  go_ret
  exact UsesZ.mk_ rfl exA HO.out G1.out O1.out hv2 G2.out O2.out
theorem guses_a (op d a b : Int) (ty : Ty) (nm : ByteArray) (A : Option Addr) (n cap : Nat) (w : World) (hop : op = 2 ∨ op = 5 ∨ op = 6 ∨ op = 7 ∨ op = 8 ∨ op = 9 ∨ op = 10 ∨ op = 11 ∨ op = 13 ∨ op = 15) :
  Calls Tryz.prog 99 #[.agg #[.int .i64 op, .int .i64 d, .int .i64 a, .int .i64 b, .int .i64 ty.base, .int .i64 ty.bits, .string ty.name, .bool ty.opt, .bool ty.err, .string nm, .slice A n cap]] w fun e w' => UsesZ [a] w e w' := by
 have HO : Hid (((w.alloc (.cells #[.int .i64 op, .int .i64 d, .int .i64 a, .int .i64 b, .int .i64 ty.base, .int .i64 ty.bits, .string ty.name, .bool ty.opt, .bool ty.err, .string nm, .slice A n cap] 67)).alloc (.cells #[.int .i64 a] 3)).ownsRow w.heap.size 3 1 (.slice (some ⟨w.heap.size + 1, 0, none⟩) 1 1) 1 ([a].map (Value.int .i64))) := own_lit (zs := [a]) (blk2 w _ 3 #[.int .i64 a]) (by omega) (by simp)
 rcases hop with rfl | rfl | rfl | rfl | rfl | rfl | rfl | rfl | rfl | rfl
 all_goals
  go_enter Tryz.func99, Tryz.ntmps99
  go_wp2_with (first
   | (go_at_call 105; refine (sort_own HO.out rfl (by decide)).mono ?_; rintro r w1 ⟨rfl, g1, o1⟩; have G1 := Lib.hid g1; have O1 := Lib.hid o1; clear g1 o1)
   | (go_at_call 106; refine (compact_own O1.out (by rw [sortI_len]; rfl) (by decide)).mono ?_; rintro r w2 ⟨v2, rfl, hv2, g2, o2⟩; have G2 := Lib.hid g2; have O2 := Lib.hid o2; clear g2 o2))
  go_ret
  exact UsesZ.mk_ rfl exA HO.out G1.out O1.out hv2 G2.out O2.out
theorem guses_ab (op d a b : Int) (ty : Ty) (nm : ByteArray) (A : Option Addr) (n cap : Nat) (w : World) (hop : 105 ≤ op ∧ op ≤ 123) :
  Calls Tryz.prog 99 #[.agg #[.int .i64 op, .int .i64 d, .int .i64 a, .int .i64 b, .int .i64 ty.base, .int .i64 ty.bits, .string ty.name, .bool ty.opt, .bool ty.err, .string nm, .slice A n cap]] w fun e w' => UsesZ [a, b] w e w' := by
 have HO : Hid (((w.alloc (.cells #[.int .i64 op, .int .i64 d, .int .i64 a, .int .i64 b, .int .i64 ty.base, .int .i64 ty.bits, .string ty.name, .bool ty.opt, .bool ty.err, .string nm, .slice A n cap] 67)).alloc (.cells #[.int .i64 a, .int .i64 b] 3)).ownsRow w.heap.size 3 1 (.slice (some ⟨w.heap.size + 1, 0, none⟩) 2 2) 2 ([a, b].map (Value.int .i64))) := own_lit (zs := [a, b]) (blk2 w _ 3 #[.int .i64 a, .int .i64 b]) (by omega) (by simp)
 obtain ⟨hop1, hop2⟩ := hop
 all_goals
  go_enter Tryz.func99, Tryz.ntmps99
  go_wp2_with (first
   | (go_at_call 105; refine (sort_own HO.out rfl (by decide)).mono ?_; rintro r w1 ⟨rfl, g1, o1⟩; have G1 := Lib.hid g1; have O1 := Lib.hid o1; clear g1 o1)
   | (go_at_call 106; refine (compact_own O1.out (by rw [sortI_len]; rfl) (by decide)).mono ?_; rintro r w2 ⟨v2, rfl, hv2, g2, o2⟩; have G2 := Lib.hid g2; have O2 := Lib.hid o2; clear g2 o2))
  go_ret
  exact UsesZ.mk_ rfl exA HO.out G1.out O1.out hv2 G2.out O2.out
theorem guses_any (x : Rg) (w : World) (hop : isOpB x.op = true) :
  Calls Tryz.prog 99 #[.agg #[.int .i64 x.op, .int .i64 x.d, .int .i64 x.a, .int .i64 x.b, .int .i64 x.ty.base, .int .i64 x.ty.bits, .string x.ty.name, .bool x.ty.opt, .bool x.ty.err, .string x.name, .slice x.A x.args.length x.cap]] w fun e w' => UsesZ (usesR x) w e w' := by
 obtain ⟨op, d, a, b, ty, nm, A, cap, args⟩ := x
 simp only [] at *
 have h : (op = 0 ∨ op = 1 ∨ op = 3 ∨ op = 12 ∨ op = 14 ∨ op = 16 ∨ op = 17) ∨ op = 4 ∨ (op = 2 ∨ op = 5 ∨ op = 6 ∨ op = 7 ∨ op = 8 ∨ op = 9 ∨ op = 10 ∨ op = 11 ∨ op = 13 ∨ op = 15) ∨ (105 ≤ op ∧ op ≤ 123) := by
  unfold isOpB at hop
  simp only [Bool.or_eq_true, inB_iff] at hop
  omega
 rcases h with h | h | h | h
 ·have e : usesR ⟨op, d, a, b, ty, nm, A, cap, args⟩ = [] := by
   unfold usesR
   rcases h with rfl | rfl | rfl | rfl | rfl | rfl | rfl <;> rfl
  rw [e]
  exact guses_none op d a b ty nm A args.length cap w h
 ·have e : usesR ⟨op, d, a, b, ty, nm, A, cap, args⟩ = [b] := by subst h; rfl
  rw [e]
  exact guses_b op d a b ty nm A args.length cap w h
 ·have e : usesR ⟨op, d, a, b, ty, nm, A, cap, args⟩ = [a] := by
   unfold usesR
   rcases h with rfl | rfl | rfl | rfl | rfl | rfl | rfl | rfl | rfl | rfl <;> rfl
  rw [e]
  exact guses_a op d a b ty nm A args.length cap w h
 ·have e : usesR ⟨op, d, a, b, ty, nm, A, cap, args⟩ = [a, b] := by
   unfold usesR
   simp only []
   rw [partsR_op (by omega)]
   rfl
  rw [e]
  exact guses_ab op d a b ty nm A args.length cap w h
def writesR (x : Rg) : Bool := (partsR x.op).1 == 1
theorem gwrites_any (x : Rg) (w : World) (hop : isOpB x.op = true) :
  Calls Tryz.prog 102 #[.agg #[.int .i64 x.op, .int .i64 x.d, .int .i64 x.a, .int .i64 x.b, .int .i64 x.ty.base, .int .i64 x.ty.bits, .string x.ty.name, .bool x.ty.opt, .bool x.ty.err, .string x.name, .slice x.A x.args.length x.cap]] w fun e w' => e = .returned (.tuple #[.int .i64 (if writesR x = true then x.d else 0), .bool (writesR x)]) ∧ Ext w w' := by
 obtain ⟨op, d, a, b, ty, nm, A, cap, args⟩ := x
 simp only [] at *
 have h : (op = 4 ∨ op = 10 ∨ op = 11 ∨ op = 12 ∨ op = 13 ∨ op = 15 ∨ op = 17) ∨ (op ≠ 4 ∧ op ≠ 10 ∧ op ≠ 11 ∧ op ≠ 12 ∧ op ≠ 13 ∧ op ≠ 15 ∧ op ≠ 17) := by omega
 rcases h with h | ⟨h1, h2, h3, h4, h5, h6, h7⟩
 ·rcases h with rfl | rfl | rfl | rfl | rfl | rfl | rfl
  all_goals
   go_enter Tryz.func102, Tryz.ntmps102
   go_wp2_with fail
   go_ret2
   exact ⟨rfl, exA⟩
 ·have e : Hid (writesR ⟨op, d, a, b, ty, nm, A, cap, args⟩ = true) := by
   have h : op = 0 ∨ op = 1 ∨ op = 2 ∨ op = 3 ∨ op = 5 ∨ op = 6 ∨ op = 7 ∨ op = 8 ∨ op = 9 ∨ op = 14 ∨ op = 16 ∨ 18 ≤ op := by
    unfold isOpB at hop
    simp only [Bool.or_eq_true, inB_iff] at hop
    omega
   unfold Hid writesR
   rcases h with rfl | rfl | rfl | rfl | rfl | rfl | rfl | rfl | rfl | rfl | rfl | h
   all_goals first | rfl | (simp only []; rw [partsR_op h]; rfl)
  rw [e.out, if_pos rfl]
  clear hop e
  go_enter Tryz.func102, Tryz.ntmps102
  go_wp2_with fail
  go_ret2
  exact ⟨rfl, exA⟩
end Go.Proofs.YtknaemlnhediaaaGreatDoor.c
