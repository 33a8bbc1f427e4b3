/- Contracts of the reference's reads, asked, Uses, Writes, SameInts. Conditions: lengths. -/
import Derived.Test.YtknaemlnhediaaaGreatDoorUses
import Derived.Test.YtknaemlnhediaaaGreatDoorRvk
import Derived.OwnWalk
namespace Go.Proofs.YtknaemlnhediaaaGreatDoor.c
open Go.RowKit
set_option linter.unusedVariables false
set_option maxRecDepth 100000
set_option maxHeartbeats 3200000
set_option linter.unusedSimpArgs false
theorem hreads_any (op d a b : Int) (ty : Ty) (nm : ByteArray) (A : Option Addr) (cap : Nat) (args : List Int) (r : Int) (w : World) :
  Calls Tryz.prog 101 #[.agg #[.int .i64 op, .int .i64 d, .int .i64 a, .int .i64 b, .int .i64 ty.base, .int .i64 ty.bits, .string ty.name, .bool ty.opt, .bool ty.err, .string nm, .slice A args.length cap], .int .i64 r] w fun e w' => e = .returned (.bool (readsB ⟨op, d, a, b, ty, nm, A, cap, args⟩ r)) ∧ Ext w w' := by
 obtain ⟨p, q, s, hp⟩ : ∃ p q s, partsR op = (p, q, s) := ⟨_, _, _, rfl⟩
 have HR : Hid (readsB ⟨op, d, a, b, ty, nm, A, cap, args⟩ r = ((q == 1 && a == r) || (s == 1 && b == r))) := by unfold Hid readsB; simp only []; rw [hp]
 have HP : Hid (∀ w1, Calls Tryz.prog 103 #[.int .i64 op] w1 fun e w' => e = .returned (.tuple #[.int .i64 p, .int .i64 q, .int .i64 s]) ∧ w1 = w') := by
  intro w1
  have h := parts_any op w1
  rwa [hp] at h
 clear hp
 obtain ⟨e1, he1⟩ : ∃ e1, (q == 1) = e1 := ⟨_, rfl⟩
 obtain ⟨e2, he2⟩ : ∃ e2, (s == 1) = e2 := ⟨_, rfl⟩
 obtain ⟨e3, he3⟩ : ∃ e3, (a == r) = e3 := ⟨_, rfl⟩
 have HE : Hid (readsB ⟨op, d, a, b, ty, nm, A, cap, args⟩ r = ((e1 && e3) || (e2 && (b == r)))) := by unfold Hid; rw [HR.out, he1, he2, he3]
 clear HR
 cases e1 <;> cases e2 <;> cases e3
 all_goals
  go_enter Tryz.func101, Tryz.ntmps101
  go_wp2_with (first | (go_at_call 103; refine (HP.out _).mono ?_; rintro r w' ⟨rfl, rfl⟩))
  go_ret
  exact ⟨ret_bool (by rw [HE.out]; rfl), exA⟩
theorem hasked_any (x : Rg) (w : World) (hal : x.args.length ≤ 9223372036854775806) (hA : NumsAt w x.A x.args) :
  Calls Tryz.prog 100 #[.agg #[.int .i64 x.op, .int .i64 x.d, .int .i64 x.a, .int .i64 x.b, .int .i64 x.ty.base, .int .i64 x.ty.bits, .string x.ty.name, .bool x.ty.opt, .bool x.ty.err, .string x.name, .slice x.A x.args.length x.cap]] w fun e w' => e = .returned (.bool (askB x)) ∧ Ext w w' := by
 have HA := Lib.hid hA
 clear hA
 obtain ⟨nb, hnb⟩ : ∃ nb, isNameS x.name = nb := ⟨_, rfl⟩
 have HB : Hid (askB x = instR (nb && decide ((x.args.length : Int) ≤ 4)) 6 6000 x) := by unfold Hid askB; rw [hnb]
 have HN := Lib.hid hnb
 clear hnb
 have HR : Hid (∀ pr pb w1, Ext w w1 → (pr == (x.args.length : Int)) = pb → Calls Tryz.prog 83 #[.agg #[.int .i64 x.op, .int .i64 x.d, .int .i64 x.a, .int .i64 x.b, .int .i64 x.ty.base, .int .i64 x.ty.bits, .string x.ty.name, .bool x.ty.opt, .bool x.ty.err, .string x.name, .slice x.A x.args.length x.cap], .int .i64 6, .int .i64 6000, .int .i64 pr] w1 fun e w' => e = .returned (.bool (instR pb 6 6000 x)) ∧ Ext w1 w') :=
  fun pr pb w1 xx h => hisReg_any 6 6000 pr pb x w1 (by decide) (by decide) (by decide) (by decide) hal (HA.out.ext xx) h
 by_cases h4 : (x.args.length : Int) ≤ 4
 ·have e4 : Hid (decide ((x.args.length : Int) ≤ 4) = true) := decide_eq_true h4
  cases nb
  ·go_enter Tryz.func100, Tryz.ntmps100
   go_wp2_with (first
    | (go_at_call 79; refine (refIsName_any x.name _).mono ?_; rw [HN.out]; rintro r w1 ⟨rfl, x1⟩; have y1 := x1.facts; have z1 := x1.z0)
    | (go_at_call 83; refine (HR.out (-1) false _ exA (by rw [beq_eq_false_iff_ne]; omega)).mono ?_; rintro r w2 ⟨rfl, x2⟩))
   go_ret
   exact ⟨ret_bool (by rw [HB.out]; rfl), exA⟩
  ·go_enter Tryz.func100, Tryz.ntmps100
   go_wp2_with (first
    | (go_at_call 79; refine (refIsName_any x.name _).mono ?_; rw [HN.out]; rintro r w1 ⟨rfl, x1⟩; have y1 := x1.facts; have z1 := x1.z0)
    | (go_at_call 83; refine (HR.out _ true _ exA (by simp)).mono ?_; rintro r w2 ⟨rfl, x2⟩))
   go_ret
   exact ⟨ret_bool (by rw [HB.out, e4.out]; rfl), exA⟩
 ·have e4 : Hid (decide ((x.args.length : Int) ≤ 4) = false) := decide_eq_false h4
  have h5 : 4 < (x.args.length : Int) := by omega
  clear h4
  cases nb
  all_goals
   go_enter Tryz.func100, Tryz.ntmps100
   go_wp2_with (first
    | (go_at_call 79; refine (refIsName_any x.name _).mono ?_; rw [HN.out]; rintro r w1 ⟨rfl, x1⟩; have y1 := x1.facts; have z1 := x1.z0)
    | (go_at_call 83; refine (HR.out (-1) false _ exA (by rw [beq_eq_false_iff_ne]; omega)).mono ?_; rintro r w2 ⟨rfl, x2⟩))
   go_ret
   exact ⟨ret_bool (by rw [HB.out, e4.out]; rfl), exA⟩
def usesTo (x : Rg) (k : Nat) : List Int := ((List.range k).map fun i : Nat => (i : Int)).filter (readsB x)
theorem usesTo_all (x : Rg) : usesTo x 6 = usesL x := rfl
theorem usesTo_succ (x : Rg) (k : Nat) : usesTo x (k + 1) = usesTo x k ++ if readsB x k = true then [(k : Int)] else [] := by
 unfold usesTo
 rw [List.range_succ, List.map_append, List.filter_append]
 congr 1
 cases h : readsB x k <;> simp [h]
theorem usesTo_len (x : Rg) (k : Nat) : (usesTo x k).length ≤ k := by
 unfold usesTo
 have := List.length_filter_le (readsB x) ((List.range k).map fun i : Nat => (i : Int))
 simpa using this
theorem one_news (w : World) (v : Int) : ∀ j u, [Value.int .i64 v][j]? = some u → (w.alloc (.cells #[.int .i64 v] 3)).cell? ((⟨w.heap.size, 0, none⟩ : Addr).add j) = some u := by
 intro j2 u hj2
 match j2, hj2 with
 | 0, hj2 => simp at hj2; subst hj2; simp [Addr.add]
theorem hUses_any (x : Rg) (w : World) (hal : x.args.length ≤ 9223372036854775806) (hA : NumsAt w x.A x.args) :
  Calls Tryz.prog 35 #[.agg #[.int .i64 x.op, .int .i64 x.d, .int .i64 x.a, .int .i64 x.b, .int .i64 x.ty.base, .int .i64 x.ty.bits, .string x.ty.name, .bool x.ty.opt, .bool x.ty.err, .string x.name, .slice x.A x.args.length x.cap]] w fun e w' => ∃ v, e = .returned (.tuple #[v, .int .i64 (askE x)]) ∧ IntsAt w' v (askU x) ∧ Ext w w' := by
 have HA := Lib.hid hA
 clear hA
 obtain ⟨ab, hab⟩ : ∃ ab, askB x = ab := ⟨_, rfl⟩
 have HAS : Hid (∀ w1, Ext w w1 → Calls Tryz.prog 100 #[.agg #[.int .i64 x.op, .int .i64 x.d, .int .i64 x.a, .int .i64 x.b, .int .i64 x.ty.base, .int .i64 x.ty.bits, .string x.ty.name, .bool x.ty.opt, .bool x.ty.err, .string x.name, .slice x.A x.args.length x.cap]] w1 fun e w' => e = .returned (.bool ab) ∧ Ext w1 w') := by
  intro w1 xx
  have h := hasked_any x w1 hal (HA.out.ext xx)
  rwa [hab] at h
 have HRD : Hid (∀ r w1, Calls Tryz.prog 101 #[.agg #[.int .i64 x.op, .int .i64 x.d, .int .i64 x.a, .int .i64 x.b, .int .i64 x.ty.base, .int .i64 x.ty.bits, .string x.ty.name, .bool x.ty.opt, .bool x.ty.err, .string x.name, .slice x.A x.args.length x.cap], .int .i64 r] w1 fun e w' => e = .returned (.bool (readsB x r)) ∧ Ext w1 w') := by
  intro r w1
  obtain ⟨op, d, a, b, ty, nm, A, cap, args⟩ := x
  exact hreads_any op d a b ty nm A cap args r w1
 have B0 : Hid (∀ w1, Ext (w.alloc (.cells #[.int .i64 x.op, .int .i64 x.d, .int .i64 x.a, .int .i64 x.b, .int .i64 x.ty.base, .int .i64 x.ty.bits, .string x.ty.name, .bool x.ty.opt, .bool x.ty.err, .string x.name, .slice x.A x.args.length x.cap] 67)) w1 → Blk w1 w.heap.size 67 #[.int .i64 x.op, .int .i64 x.d, .int .i64 x.a, .int .i64 x.b, .int .i64 x.ty.base, .int .i64 x.ty.bits, .string x.ty.name, .bool x.ty.opt, .bool x.ty.err, .string x.name, .slice x.A x.args.length x.cap]) := fun w1 xx => (Blk.new w _ _).ext xx
 cases ab
 ·have HE : Hid (askE x = 1 ∧ askU x = []) := by unfold Hid askE askU; rw [hab]; exact ⟨rfl, rfl⟩
  rw [HE.out.1, HE.out.2]
  clear hab HRD
  go_enter Tryz.func35, Tryz.ntmps35
  go_wp2_with (first
   | (go_at_call 100; refine (HAS.out _ exA).mono ?_; rintro r w1 ⟨rfl, x1⟩))
  go_ret2
  exact ⟨_, rfl, IntsAt.nil _, exA⟩
 ·have HE : Hid (askE x = 0 ∧ askU x = usesTo x 6) := by unfold Hid askE askU; rw [hab]; exact ⟨rfl, rfl⟩
  rw [HE.out.1, HE.out.2]
  clear hab
  obtain ⟨i0, hi0, hz0, hz1, hz2⟩ := info_parts info_int
  have HI := Lib.hid hi0; have HZ0 := Lib.hid hz0; have HZ1 := Lib.hid hz1; have HZ2 := Lib.hid hz2
  clear hi0 hz0 hz1 hz2
  go_enter Tryz.func35, Tryz.ntmps35
  go_wp2_with (first
   | (go_at_call 100; refine (HAS.out _ exA).mono ?_; rintro r w1 ⟨rfl, x1⟩; have X1 := Lib.hid x1; clear x1))
  go_loopw [4, 5] (fun v i wr => ∃ k : Nat, k ≤ 6 ∧ i = .int .i64 k ∧ wr.ownsRow w1.heap.size 3 1 v (usesTo x k).length ((usesTo x k).map fun i => .int .i64 i) ∧ Ext w1 wr) (fun _ i _ => 6 - (intOf i).toNat)
  case atStart => exact ⟨0, Nat.zero_le _, rfl, World.ownsRow_nil _ _ _ _, Ext.refl _⟩
  case round =>
   obtain ⟨k, hk, rfl, ow, hx⟩ := hrel
   have HO := Lib.hid ow
   have HX := Lib.hid hx
   clear ow hx
   by_cases hlt : k < 6
   ·have bc := B0.out wr (X1.out.trans HX.out)
    have c0 := bc.cell 0
    have c1 := bc.cell 1
    have c2 := bc.cell 2
    have c3 := bc.cell 3
    have c4 := bc.cell 4
    have c5 := bc.cell 5
    have c6 := bc.cell 6
    have c7 := bc.cell 7
    have c8 := bc.cell 8
    have c9 := bc.cell 9
    have c10 := bc.cell 10
    have zb := bc.lt
    clear bc
    simp only [List.getElem?_toArray, List.getElem?_cons_zero, List.getElem?_cons_succ] at c0 c1 c2 c3 c4 c5 c6 c7 c8 c9 c10
    have HS := Lib.hid (usesTo_succ x k)
    have hln := usesTo_len x k
    obtain ⟨rb, hrb⟩ : ∃ rb, readsB x k = rb := ⟨_, rfl⟩
    have HRB : Hid (∀ w1, Calls Tryz.prog 101 #[.agg #[.int .i64 x.op, .int .i64 x.d, .int .i64 x.a, .int .i64 x.b, .int .i64 x.ty.base, .int .i64 x.ty.bits, .string x.ty.name, .bool x.ty.opt, .bool x.ty.err, .string x.name, .slice x.A x.args.length x.cap], .int .i64 k] w1 fun e w' => e = .returned (.bool rb) ∧ Ext w1 w') := fun w1 => by
     have h := HRD.out k w1
     rwa [hrb] at h
    rw [hrb] at HS
    clear hrb
    cases rb
    ·go_wp2_with (first
      | (go_at_call 101; refine (HRB.out _).mono ?_; rintro r w2 ⟨rfl, x2⟩))
     have h8 := HS.out
     rw [if_neg (by decide), List.append_nil] at h8
     go_roundw
     case rel => exact ⟨k + 1, by omega, by go_num, by rw [h8]; exact own_ext HO.out x2, HX.out.trans x2⟩
     case measure => simp [intOf]; omega
    ·go_wp2_with (first
      | (go_at_call 101; refine (HRB.out _).mono ?_; rintro r w2 ⟨rfl, x2⟩; have X2 := Lib.hid x2; have y2 := x2.facts; clear x2)
      | (at_builtin
         refine wpList_append_own _ rfl _ _ 65 rfl w1.heap.size 3 i0 _ 1 8 Tryz.underlying65 HI.out HZ0.out HZ1.out HZ2.out rfl (by decide) _ _ _ rfl (own_ext HO.out (X2.out.alloc _)) ⟨w2.heap.size, 0, none⟩ 1 1 [.int .i64 k] rfl rfl ?c1 ?c2 ?c3 ?c4 ?c5 ?_))
     case c1 => exact one_news _ _
     case c2 => intro u hu; simp at hu; subst hu; rfl
     case c3 => unfold maxLen; omega
     case c4 => omega
     case c5 => have := HX.out.size; have := X2.out.size; simp; omega
     ·intro v' w3 ow3 g3 _
      have OW3 := Lib.hid ow3
      have X3 := Lib.hid (((HX.out.trans X2.out).alloc (.cells #[.int .i64 (k : Int)] 3)).grown g3 (own_row HO.out))
      clear ow3 g3
      go_wp2_with fail
      have h8 := HS.out
      rw [if_pos trivial] at h8
      go_roundw
      case rel => exact ⟨k + 1, by omega, by go_num, by rw [h8]; simpa using OW3.out, X3.out⟩
      case measure => simp [intOf]; omega
   ·go_wp2_with fail
    go_ret2
    obtain rfl : k = 6 := by omega
    exact ⟨_, rfl, own_ints HO.out, ((Ext.refl w).alloc _).trans (X1.out.trans HX.out)⟩
theorem hWrites_any (x : Rg) (w : World) (hal : x.args.length ≤ 9223372036854775806) (hA : NumsAt w x.A x.args) :
  Calls Tryz.prog 37 #[.agg #[.int .i64 x.op, .int .i64 x.d, .int .i64 x.a, .int .i64 x.b, .int .i64 x.ty.base, .int .i64 x.ty.bits, .string x.ty.name, .bool x.ty.opt, .bool x.ty.err, .string x.name, .slice x.A x.args.length x.cap]] w fun e w' => e = .returned (.tuple #[.int .i64 (if (askB x && writesR x) = true then x.d else 0), .bool (askB x && writesR x), .int .i64 (askE x)]) ∧ Ext w w' := by
 have HA := Lib.hid hA
 clear hA
 obtain ⟨ab, hab⟩ : ∃ ab, askB x = ab := ⟨_, rfl⟩
 have HAS : Hid (∀ w1, Ext w w1 → Calls Tryz.prog 100 #[.agg #[.int .i64 x.op, .int .i64 x.d, .int .i64 x.a, .int .i64 x.b, .int .i64 x.ty.base, .int .i64 x.ty.bits, .string x.ty.name, .bool x.ty.opt, .bool x.ty.err, .string x.name, .slice x.A x.args.length x.cap]] w1 fun e w' => e = .returned (.bool ab) ∧ Ext w1 w') := by
  intro w1 xx
  have h := hasked_any x w1 hal (HA.out.ext xx)
  rwa [hab] at h
 obtain ⟨p, q, s, hp⟩ : ∃ p q s, partsR x.op = (p, q, s) := ⟨_, _, _, rfl⟩
 have HP : Hid (∀ w1, Calls Tryz.prog 103 #[.int .i64 x.op] w1 fun e w' => e = .returned (.tuple #[.int .i64 p, .int .i64 q, .int .i64 s]) ∧ w1 = w') := by
  intro w1
  have h := parts_any x.op w1
  rwa [hp] at h
 obtain ⟨wb, hwb⟩ : ∃ wb, (p == 1) = wb := ⟨_, rfl⟩
 have HW : Hid (writesR x = wb) := by unfold Hid writesR; rw [hp]; exact hwb
 have HE : Hid (askE x = if ab = true then 0 else 1) := by unfold Hid askE; rw [hab]
 rw [HE.out, hab, HW.out]
 clear hab hp HW HE
 have hne : (p != 1) = !wb := by rw [← hwb]; rfl
 clear hwb
 cases ab
 ·rw [Bool.false_and, if_neg (by decide), if_neg (by decide)]
  clear hne
  go_enter Tryz.func37, Tryz.ntmps37
  go_wp2_with (first
   | (go_at_call 100; refine (HAS.out _ exA).mono ?_; rintro r w1 ⟨rfl, x1⟩))
  go_ret3
  exact ⟨rfl, exA⟩
 ·cases wb
  all_goals
   go_enter Tryz.func37, Tryz.ntmps37
   go_wp2_with (first
    | (go_at_call 100; refine (HAS.out _ exA).mono ?_; rintro r w1 ⟨rfl, x1⟩; have y1 := x1.facts; have z1 := x1.z0)
    | (go_at_call 103; refine (HP.out _).mono ?_; rintro r w' ⟨rfl, rfl⟩))
   go_ret3
   exact ⟨rfl, exA⟩
theorem hsameInts_any (v1 v2 : Value) (L : List Int) (w : World) (h1 : IntsAt w v1 L) (h2 : IntsAt w v2 L) (hl : L.length ≤ 9223372036854775806) :
  Calls Tryz.prog 38 #[v1, v2] w fun e w' => e = .returned (.bool true) ∧ Ext w w' := by
 obtain ⟨A1, c1, rfl, a1⟩ := h1
 obtain ⟨A2, c2, rfl, a2⟩ := h2
 obtain ⟨len, hlen⟩ : ∃ len, len = L.length := ⟨_, rfl⟩
 rw [← hlen] at hl a1 a2 ⊢
 have H1 := Lib.hid a1
 have H2 := Lib.hid a2
 clear hlen a1 a2
 go_enter Tryz.func38, Tryz.ntmps38
 go_wp2_with fail
 go_loopw [5] (fun i wr => ∃ k : Nat, k ≤ len ∧ i = .int .i64 k ∧ Ext w wr) (fun i _ => len - (intOf i).toNat)
 case atStart => exact ⟨0, Nat.zero_le _, rfl, Ext.refl _⟩
 case round =>
  obtain ⟨k, hk, rfl, hx⟩ := hrel
  by_cases hlt : k < len
  ·obtain ⟨b1, o1, rfl, hb1, d1⟩ := (H1.out.ext hx).one hlt
   obtain ⟨b2, o2, rfl, hb2, d2⟩ := (H2.out.ext hx).one hlt
   go_wp2_with fail
   go_quiet (fail)
   go_wp2_with fail
   case roundEnd => exact ⟨⟨k + 1, by omega, by go_num, hx.drewN _⟩, by simp [intOf]; omega⟩
  ·go_wp2_with fail
   go_ret
   exact ⟨rfl, hx⟩
end Go.Proofs.YtknaemlnhediaaaGreatDoor.c
