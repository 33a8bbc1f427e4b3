/- When two codes are equal: plainly; contracts of the program's Same and of what it calls. Conditions: lengths. -/
import Derived.Test.YtknaemlnhediaaaGreatDoorSlots
import Derived.Test.YtknaemlnhediaaaGreatDoorRow
import Derived.Deep.QuietTactic
import Derived.BigQuiet
namespace Go.Proofs.YtknaemlnhediaaaGreatDoor.c
open Go.RowKit
set_option linter.unusedVariables false
set_option maxRecDepth 100000
set_option maxHeartbeats 3200000
set_option linter.unusedSimpArgs false
/-- are two types equal -/
def tyB (t u : Ty) : Bool := t.base == u.base && (t.bits == u.bits && (t.name.toList == u.name.toList && (t.opt == u.opt && t.err == u.err)))
theorem run_ty_eql (t u : Ty) (w : World) : (binOp .eql 35 (.agg #[.int .i64 t.base, .int .i64 t.bits, .string t.name, .bool t.opt, .bool t.err]) (.agg #[.int .i64 u.base, .int .i64 u.bits, .string u.name, .bool u.opt, .bool u.err])).run Tryz.prog w = .ok (.bool (tyB t u)) w := by
  obtain ⟨a, b, n, o, e⟩ := t
  obtain ⟨a2, b2, n2, o2, e2⟩ := u
  go_simp
  unfold tyB
  by_cases h1 : a = a2
  · by_cases h2 : b = b2
    · by_cases h3 : n.toList = n2.toList
      · cases o <;> cases e <;> cases o2 <;> cases e2 <;> simp [h1, h2, h3]
      · simp [h1, h2, h3]
    · simp [h1, h2]
  · simp [h1]
theorem run_ty_neq (t u : Ty) (w : World) : (binOp .neq 35 (.agg #[.int .i64 t.base, .int .i64 t.bits, .string t.name, .bool t.opt, .bool t.err]) (.agg #[.int .i64 u.base, .int .i64 u.bits, .string u.name, .bool u.opt, .bool u.err])).run Tryz.prog w = .ok (.bool (!tyB t u)) w := by
  obtain ⟨a, b, n, o, e⟩ := t
  obtain ⟨a2, b2, n2, o2, e2⟩ := u
  go_simp
  unfold tyB
  by_cases h1 : a = a2
  · by_cases h2 : b = b2
    · by_cases h3 : n.toList = n2.toList
      · cases o <;> cases e <;> cases o2 <;> cases e2 <;> simp [h1, h2, h3]
      · simp [h1, h2, h3]
    · simp [h1, h2]
  · simp [h1]
def allB (p : Nat → Bool) (n : Nat) : Bool := (List.range n).all p
theorem allB_iff {p : Nat → Bool} {n : Nat} : allB p n = true ↔ ∀ j, j < n → p j = true := by
  unfold allB
  rw [List.all_eq_true]
  exact ⟨fun h j hj => h j (List.mem_range.2 hj), fun h j hj => h j (List.mem_range.1 hj)⟩
theorem allB_no {p : Nat → Bool} {n k : Nat} (hk : k < n) (h : p k = false) : allB p n = false := by
  rw [Bool.eq_false_iff, Ne, allB_iff]
  intro h2
  rw [h2 k hk] at h
  cases h
/-- as many, and alike one by one -/
def eqB (n m : Nat) (p : Nat → Bool) : Bool := decide (n = m) && allB p n
theorem eqB_len {n m : Nat} {p : Nat → Bool} (h : n ≠ m) : eqB n m p = false := by unfold eqB; rw [decide_eq_false h]; rfl
theorem eqB_all {n : Nat} {p : Nat → Bool} (h : ∀ j, j < n → p j = true) : eqB n n p = true := by unfold eqB; rw [decide_eq_true rfl, allB_iff.2 h]; rfl
theorem eqB_no {n m k : Nat} {p : Nat → Bool} (hk : k < n) (h : p k = false) : eqB n m p = false := by unfold eqB; rw [allB_no hk h, Bool.and_false]
def intsB (L M : List Int) : Bool := eqB L.length M.length fun i => L.getD i 0 == M.getD i 0
/-- are two instructions equal, two functions, two codes -/
def sameX (x y : Rg) : Bool := x.op == y.op && (x.d == y.d && (x.a == y.a && (x.b == y.b && (tyB x.ty y.ty && (x.name.toList == y.name.toList && intsB x.args y.args)))))
def sameF (f g : Rf) : Bool := f.name.toList == g.name.toList && (f.params == g.params && (f.regs == g.regs && (tyB f.ty g.ty && eqB f.code.length g.code.length fun i => sameX (f.code.getD i default) (g.code.getD i default))))
def sameR (l m : List Rf) : Bool := eqB l.length m.length fun i => sameF (l.getD i default) (m.getD i default)
theorem tyB_self (t : Ty) : tyB t t = true := by unfold tyB; simp
theorem intsB_self (L : List Int) : intsB L L = true := eqB_all fun j _ => by simp
theorem sameX_self (x : Rg) : sameX x x = true := by unfold sameX; simp [tyB_self, intsB_self]
theorem sameF_self (f : Rf) : sameF f f = true := by unfold sameF; rw [eqB_all fun j _ => sameX_self _]; simp [tyB_self]
theorem sameR_self (l : List Rf) : sameR l l = true := eqB_all fun j _ => sameF_self _
theorem gEqual_any (A1 A2 : Option Addr) (c1 c2 : Nat) (L M : List Int) (w : World) (h1 : NumsAt w A1 L) (h2 : NumsAt w A2 M) (hl : L.length ≤ 9223372036854775806) (hm : M.length ≤ 9223372036854775806) :
    Calls Tryz.prog 180 #[.slice A1 L.length c1, .slice A2 M.length c2] w fun e w' => e = .returned (.bool (intsB L M)) ∧ Ext w w' := by
  have H1 := Lib.hid h1
  have H2 := Lib.hid h2
  obtain ⟨p, hp⟩ : ∃ p : Nat → Bool, p = fun i => L.getD i 0 == M.getD i 0 := ⟨_, rfl⟩
  have HP := Lib.hid hp
  have HI : Hid (intsB L M = eqB L.length M.length p) := by rw [hp]; rfl
  clear h1 h2 hp
  rw [HI.out]
  obtain ⟨n, hn⟩ : ∃ n, n = L.length := ⟨_, rfl⟩
  obtain ⟨m, hmm⟩ : ∃ m, m = M.length := ⟨_, rfl⟩
  have HN := Lib.hid hn
  have HM := Lib.hid hmm
  rw [← hn] at hl ⊢
  rw [← hmm] at hm ⊢
  clear hn hmm HI
  by_cases e : n = m
  · subst e
    go_enter Tryz.func180, Tryz.ntmps180
    go_wp2_with fail
    go_loopw [5, 13] (fun _ i wr => ∃ k : Nat, k ≤ n ∧ i = .int .i64 k ∧ (∀ j, j < k → p j = true) ∧ Ext w wr) (fun _ i _ => n - (intOf i).toNat)
    case atStart => exact ⟨0, Nat.zero_le _, rfl, by omega, Ext.refl _⟩
    case round =>
      obtain ⟨k, hk, rfl, ha, hx⟩ := hrel
      have HA := Lib.hid ha
      clear ha
      by_cases hlt : k < n
      · obtain ⟨b1, o1, rfl, hb1, d1⟩ := (H1.out.ext hx).one (show k < L.length by have := HN.out; omega)
        obtain ⟨b2, o2, rfl, hb2, d2⟩ := (H2.out.ext hx).one (show k < M.length by have := HM.out; omega)
        obtain ⟨y, hy⟩ : ∃ y, y = L.getD k 0 := ⟨_, rfl⟩
        obtain ⟨z, hz⟩ : ∃ z, z = M.getD k 0 := ⟨_, rfl⟩
        have HPK : Hid (p k = (y == z)) := by unfold Hid; rw [HP.out, hy, hz]
        rw [← hy] at d1
        rw [← hz] at d2
        clear hy hz
        by_cases e : y = z
        · have hq : (y != z) = false := by simpa using e
          have HPT : Hid (p k = true) := by unfold Hid; rw [HPK.out]; simpa using e
          clear e
          go_wp2_with fail
          go_quiet (fail)
          go_wp2_with fail
          case roundEnd => exact ⟨⟨k + 1, by omega, by go_num, (fun j hj => by
            rcases Nat.lt_or_ge j k with h | h
            · exact HA.out j h
            · obtain rfl : j = k := by omega
              exact HPT.out), hx.drewN _⟩, by simp [intOf]; omega⟩
        · have hq : (y != z) = true := by simpa using e
          have HPT : Hid (p k = false) := by unfold Hid; rw [HPK.out]; simpa using e
          clear e
          go_wp2_with fail
          go_quiet (fail)
          go_wp2_with fail
          go_ret
          exact ⟨ret_bool (eqB_no hlt HPT.out).symm, hx.drewN _⟩
      · go_wp2_with fail
        go_ret
        exact ⟨ret_bool (eqB_all fun j hj => HA.out j (by omega)).symm, hx⟩
  · have HE : Hid (eqB n m p = false) := eqB_len e
    have hq : ((n : Int) != (m : Int)) = true := by simp; omega
    rw [HE.out]
    clear e
    go_enter Tryz.func180, Tryz.ntmps180
    go_wp2_with fail
    go_ret
    exact ⟨rfl, Ext.refl _⟩
theorem sameReg_any (x y : Rg) (w : World) (h1 : NumsAt w x.A x.args) (h2 : NumsAt w y.A y.args) (hl : x.args.length ≤ 9223372036854775806) (hm : y.args.length ≤ 9223372036854775806) :
    Calls Tryz.prog 111 #[.agg #[.int .i64 x.op, .int .i64 x.d, .int .i64 x.a, .int .i64 x.b, .int .i64 x.ty.base, .int .i64 x.ty.bits, .string x.ty.name, .bool x.ty.opt, .bool x.ty.err, .string x.name, .slice x.A x.args.length x.cap], .agg #[.int .i64 y.op, .int .i64 y.d, .int .i64 y.a, .int .i64 y.b, .int .i64 y.ty.base, .int .i64 y.ty.bits, .string y.ty.name, .bool y.ty.opt, .bool y.ty.err, .string y.name, .slice y.A y.args.length y.cap]] w fun e w' => e = .returned (.bool (sameX x y)) ∧ Ext w w' := by
  have ht := run_ty_eql x.ty y.ty
  obtain ⟨b0, e0⟩ : ∃ b, (x.op == y.op) = b := ⟨_, rfl⟩
  obtain ⟨b1, e1⟩ : ∃ b, (x.d == y.d) = b := ⟨_, rfl⟩
  obtain ⟨b2, e2⟩ : ∃ b, (x.a == y.a) = b := ⟨_, rfl⟩
  obtain ⟨b3, e3⟩ : ∃ b, (x.b == y.b) = b := ⟨_, rfl⟩
  obtain ⟨b4, e4⟩ : ∃ b, tyB x.ty y.ty = b := ⟨_, rfl⟩
  obtain ⟨b5, e5⟩ : ∃ b, (x.name.toList == y.name.toList) = b := ⟨_, rfl⟩
  obtain ⟨b6, e6⟩ : ∃ b, intsB x.args y.args = b := ⟨_, rfl⟩
  have HS : Hid (sameX x y = (b0 && (b1 && (b2 && (b3 && (b4 && (b5 && b6))))))) := by unfold Hid sameX; rw [e0, e1, e2, e3, e4, e5, e6]
  have HE : Hid (∀ w1, Ext w w1 → Calls Tryz.prog 180 #[.slice x.A x.args.length x.cap, .slice y.A y.args.length y.cap] w1 fun e w' => e = .returned (.bool b6) ∧ Ext w1 w') := by
    intro w1 xx
    have h := gEqual_any x.A y.A x.cap y.cap x.args y.args w1 (h1.ext xx) (h2.ext xx) hl hm
    rwa [e6] at h
  rw [e4] at ht
  rw [HS.out]
  clear e4 e6 HS h1 h2
  cases b0
  case' true => cases b1
  case' true.true => cases b2
  case' true.true.true => cases b3
  case' true.true.true.true => cases b4
  case' true.true.true.true.true => cases b5
  all_goals
    go_enter Tryz.func111, Tryz.ntmps111
    go_wp2_with (first
      | (go_at_call 180; refine (HE.out _ (by (with_reducible repeat first | exact Ext.refl _ | assumption | refine Ext.alloc ?_ _ | refine Ext.drew ?_ | refine Ext.trans ?_ (by assumption)))).mono ?_; rintro r w1 ⟨rfl, x1⟩))
    go_ret
    exact ⟨rfl, by (with_reducible repeat first | exact Ext.refl _ | assumption | refine Ext.alloc ?_ _ | refine Ext.drew ?_ | refine Ext.trans ?_ (by assumption))⟩
theorem rf_cells {w' : World} {g : Nat} (y : Rf) (b : Blk w' g 59 #[.string y.name, .int .i64 y.params, .int .i64 y.regs, .int .i64 y.ty.base, .int .i64 y.ty.bits, .string y.ty.name, .bool y.ty.opt, .bool y.ty.err, .slice y.A y.code.length y.cap]) : w'.cell? ⟨g, 0, none⟩ = some (.string y.name) ∧ w'.cell? ⟨g, 1, none⟩ = some (.int .i64 y.params) ∧ w'.cell? ⟨g, 2, none⟩ = some (.int .i64 y.regs) ∧ w'.cell? ⟨g, 3, none⟩ = some (.int .i64 y.ty.base) ∧ w'.cell? ⟨g, 4, none⟩ = some (.int .i64 y.ty.bits) ∧ w'.cell? ⟨g, 5, none⟩ = some (.string y.ty.name) ∧ w'.cell? ⟨g, 6, none⟩ = some (.bool y.ty.opt) ∧ w'.cell? ⟨g, 7, none⟩ = some (.bool y.ty.err) ∧ w'.cell? ⟨g, 8, none⟩ = some (.slice y.A y.code.length y.cap) :=
  ⟨b.cell 0, b.cell 1, b.cell 2, b.cell 3, b.cell 4, b.cell 5, b.cell 6, b.cell 7, b.cell 8⟩
theorem rf_one (x : Rf) : ∀ v ∈ (#[.string x.name, .int .i64 x.params, .int .i64 x.regs, .int .i64 x.ty.base, .int .i64 x.ty.bits, .string x.ty.name, .bool x.ty.opt, .bool x.ty.err, .slice x.A x.code.length x.cap] : Array Value).toList, v.oneCell' = true := by
  intro v hv
  simp at hv
  rcases hv with rfl | rfl | rfl | rfl | rfl | rfl | rfl | rfl | rfl <;> rfl
theorem eqFuncG_any (A1 A2 : Option Addr) (c1 c2 : Nat) (L M : List Rg) {n m : Nat} (K : Nat) (w : World) (hn : n = L.length) (hm : m = M.length) (h1 : RgAt w A1 L) (h2 : RgAt w A2 M) (hl : n ≤ 9223372036854775806) (hl2 : m ≤ 9223372036854775806) (hK : Enters K) (p : Nat → Bool)
    (hp : ∀ i w1, i < n → i < m → Ext w w1 → Calls Tryz.prog K #[.agg #[.int .i64 (L.getD i default).op, .int .i64 (L.getD i default).d, .int .i64 (L.getD i default).a, .int .i64 (L.getD i default).b, .int .i64 (L.getD i default).ty.base, .int .i64 (L.getD i default).ty.bits, .string (L.getD i default).ty.name, .bool (L.getD i default).ty.opt, .bool (L.getD i default).ty.err, .string (L.getD i default).name, .slice (L.getD i default).A (L.getD i default).args.length (L.getD i default).cap], .agg #[.int .i64 (M.getD i default).op, .int .i64 (M.getD i default).d, .int .i64 (M.getD i default).a, .int .i64 (M.getD i default).b, .int .i64 (M.getD i default).ty.base, .int .i64 (M.getD i default).ty.bits, .string (M.getD i default).ty.name, .bool (M.getD i default).ty.opt, .bool (M.getD i default).ty.err, .string (M.getD i default).name, .slice (M.getD i default).A (M.getD i default).args.length (M.getD i default).cap]] w1 fun e w2 => e = .returned (.bool (p i)) ∧ Ext w1 w2) :
    Calls Tryz.prog 110 #[.slice A1 n c1, .slice A2 m c2, .func (.func K) #[] #[]] w fun e w' => e = .returned (.bool (eqB n m p)) ∧ Ext w w' := by
  have H1 := Lib.hid h1
  have H2 := Lib.hid h2
  have HP := Lib.hid hp
  have HN := Lib.hid hn
  have HM := Lib.hid hm
  clear h1 h2 hp hn hm
  have HZ : Hid ((Tryz.prog.info? 67).map (·.size) = some 11) := by unfold Hid; kernel_rfl
  by_cases e : n = m
  · subst e
    go_enter Tryz.func110, Tryz.ntmps110
    go_wp2_with fail
    go_loopw [7, 17] (fun _ i wr => ∃ k : Nat, k ≤ n ∧ i = .int .i64 k ∧ (∀ j, j < k → p j = true) ∧ Ext w wr) (fun _ i _ => n - (intOf i).toNat)
    case atStart => exact ⟨0, Nat.zero_le _, rfl, by omega, Ext.refl _⟩
    case round =>
      obtain ⟨k, hk, rfl, ha, hx⟩ := hrel
      have HA := Lib.hid ha
      have HX := Lib.hid hx
      clear ha hx
      by_cases hlt : k < n
      · have hk1 : k < L.length := by have := HN.out; omega
        have hk2 : k < M.length := by have := HM.out; omega
        obtain ⟨x, hxx⟩ : ∃ x, x = L.getD k default := ⟨_, rfl⟩
        obtain ⟨y, hyy⟩ : ∃ y, y = M.getD k default := ⟨_, rfl⟩
        have HP1 : Hid (∀ w1, Ext w w1 → Calls Tryz.prog K #[.agg #[.int .i64 x.op, .int .i64 x.d, .int .i64 x.a, .int .i64 x.b, .int .i64 x.ty.base, .int .i64 x.ty.bits, .string x.ty.name, .bool x.ty.opt, .bool x.ty.err, .string x.name, .slice x.A x.args.length x.cap], .agg #[.int .i64 y.op, .int .i64 y.d, .int .i64 y.a, .int .i64 y.b, .int .i64 y.ty.base, .int .i64 y.ty.bits, .string y.ty.name, .bool y.ty.opt, .bool y.ty.err, .string y.name, .slice y.A y.args.length y.cap]] w1 fun e w2 => e = .returned (.bool (p k)) ∧ Ext w1 w2) := by
          intro w1 xx
          rw [hxx, hyy]
          exact HP.out k w1 hlt hlt xx
        obtain ⟨b1, o1, rfl, hb1, c0, c1, c2, c3, c4, c5, c6, c7, c8, c9, c10, _⟩ := (H1.out.ext HX.out).at_ (k := k) hk1 hxx
        obtain ⟨b2, o2, rfl, hb2, d0, d1, d2, d3, d4, d5, d6, d7, d8, d9, d10, _⟩ := (H2.out.ext HX.out).at_ (k := k) hk2 hyy
        have HC2 := Lib.hid (show ∀ w1, Ext wr w1 → w1.cell? ⟨b2, o2 + k * 11, none⟩ = some (.int .i64 y.op) ∧ w1.cell? ⟨b2, o2 + k * 11 + 1, none⟩ = some (.int .i64 y.d) ∧ w1.cell? ⟨b2, o2 + k * 11 + 2, none⟩ = some (.int .i64 y.a) ∧ w1.cell? ⟨b2, o2 + k * 11 + 3, none⟩ = some (.int .i64 y.b) ∧ w1.cell? ⟨b2, o2 + k * 11 + 4, none⟩ = some (.int .i64 y.ty.base) ∧ w1.cell? ⟨b2, o2 + k * 11 + 5, none⟩ = some (.int .i64 y.ty.bits) ∧ w1.cell? ⟨b2, o2 + k * 11 + 6, none⟩ = some (.string y.ty.name) ∧ w1.cell? ⟨b2, o2 + k * 11 + 7, none⟩ = some (.bool y.ty.opt) ∧ w1.cell? ⟨b2, o2 + k * 11 + 8, none⟩ = some (.bool y.ty.err) ∧ w1.cell? ⟨b2, o2 + k * 11 + 9, none⟩ = some (.string y.name) ∧ w1.cell? ⟨b2, o2 + k * 11 + 10, none⟩ = some (.slice y.A y.args.length y.cap) from fun w1 xx => by
          obtain ⟨bq, oq, hq, _, g⟩ := (H2.out.ext (HX.out.trans xx)).at_ (k := k) hk2 hyy
          obtain ⟨rfl, rfl⟩ : b2 = bq ∧ o2 = oq := by cases hq; exact ⟨rfl, rfl⟩
          exact ⟨g.1, g.2.1, g.2.2.1, g.2.2.2.1, g.2.2.2.2.1, g.2.2.2.2.2.1, g.2.2.2.2.2.2.1, g.2.2.2.2.2.2.2.1, g.2.2.2.2.2.2.2.2.1, g.2.2.2.2.2.2.2.2.2.1, g.2.2.2.2.2.2.2.2.2.2.1⟩)
        clear hxx hyy d0 d1 d2 d3 d4 d5 d6 d7 d8 d9 d10 hk1 hk2
        go_wp2_with (first
          | ((with_reducible show wpList _ _ _ (Oper.mk none (.store 67 (.tmp 8) (.tmp 21)) _ _ _ _ :: _) _ _)
             refine store_new 67 _ _ rfl _ _ rfl rfl rfl rfl HZ.out (rg_one x) ?_
             intro w3 x3 B3
             have X3 := Lib.hid x3
             have B3' := Lib.hid B3
             have z3 := B3.lt
             have hb3 : b2 < w3.heap.size := Nat.lt_of_lt_of_le hb2 x3.size
             obtain ⟨d0, d1, d2, d3, d4, d5, d6, d7, d8, d9, d10⟩ := HC2.out w3 x3
             clear B3 x3)
          | ((with_reducible show wpList _ _ _ (Oper.mk none (.store 67 (.tmp 9) (.tmp 25)) _ _ _ _ :: _) _ _)
             refine store_new 67 _ _ rfl _ _ rfl rfl rfl rfl HZ.out (rg_one y) ?_
             intro w4 x4 B4
             have X4 := Lib.hid x4
             obtain ⟨e0, e1, e2, e3, e4, e5, e6, e7, e8, e9, e10⟩ := rg_cells x (B3'.out.ext x4)
             obtain ⟨f0, f1, f2, f3, f4, f5, f6, f7, f8, f9, f10⟩ := rg_cells y B4
             have z4 := B4.lt
             have z5 : wr.heap.size < w4.heap.size := Nat.lt_of_lt_of_le z3 x4.size
             clear B4 x4)
          | fail)
        simp only [hK _ _]
        go_wp2_with fail
        refine (HP1.out _ ((HX.out.trans X3.out).trans X4.out)).mono ?_
        rintro r w5 ⟨rfl, x5⟩
        cases hpk : p k
        · go_wp2_with fail
          go_ret
          exact ⟨ret_bool (eqB_no hlt hpk).symm, ((HX.out.trans X3.out).trans X4.out).trans x5⟩
        · go_wp2_with fail
          go_roundw
          case rel => exact ⟨k + 1, by omega, by go_num, (fun j hj => by
            rcases Nat.lt_or_ge j k with h | h
            · exact HA.out j h
            · obtain rfl : j = k := by omega
              exact hpk), ((HX.out.trans X3.out).trans X4.out).trans x5⟩
          case measure => simp [intOf]; omega
      · go_wp2_with fail
        go_ret
        exact ⟨ret_bool (eqB_all fun j hj => HA.out j (by omega)).symm, HX.out⟩
  · have HE : Hid (eqB n m p = false) := eqB_len e
    have hq : ((n : Int) != (m : Int)) = true := by simp; omega
    rw [HE.out]
    clear e
    go_enter Tryz.func110, Tryz.ntmps110
    go_wp2_with fail
    go_ret
    exact ⟨rfl, Ext.refl _⟩
theorem eqFuncF_any (A1 A2 : Option Addr) (c1 c2 : Nat) (L M : List Rf) {n m : Nat} (K : Nat) (w : World) (hn : n = L.length) (hm : m = M.length) (h1 : RfAt w A1 L) (h2 : RfAt w A2 M) (hl : n ≤ 9223372036854775806) (hl2 : m ≤ 9223372036854775806) (hK : Enters K) (p : Nat → Bool)
    (hp : ∀ i w1, i < n → i < m → Ext w w1 → Calls Tryz.prog K #[.agg #[.string (L.getD i default).name, .int .i64 (L.getD i default).params, .int .i64 (L.getD i default).regs, .int .i64 (L.getD i default).ty.base, .int .i64 (L.getD i default).ty.bits, .string (L.getD i default).ty.name, .bool (L.getD i default).ty.opt, .bool (L.getD i default).ty.err, .slice (L.getD i default).A (L.getD i default).code.length (L.getD i default).cap], .agg #[.string (M.getD i default).name, .int .i64 (M.getD i default).params, .int .i64 (M.getD i default).regs, .int .i64 (M.getD i default).ty.base, .int .i64 (M.getD i default).ty.bits, .string (M.getD i default).ty.name, .bool (M.getD i default).ty.opt, .bool (M.getD i default).ty.err, .slice (M.getD i default).A (M.getD i default).code.length (M.getD i default).cap]] w1 fun e w2 => e = .returned (.bool (p i)) ∧ Ext w1 w2) :
    Calls Tryz.prog 108 #[.slice A1 n c1, .slice A2 m c2, .func (.func K) #[] #[]] w fun e w' => e = .returned (.bool (eqB n m p)) ∧ Ext w w' := by
  have H1 := Lib.hid h1
  have H2 := Lib.hid h2
  have HP := Lib.hid hp
  have HN := Lib.hid hn
  have HM := Lib.hid hm
  clear h1 h2 hp hn hm
  have HZ : Hid ((Tryz.prog.info? 59).map (·.size) = some 9) := by unfold Hid; kernel_rfl
  by_cases e : n = m
  · subst e
    go_enter Tryz.func108, Tryz.ntmps108
    go_wp2_with fail
    go_loopw [7, 17] (fun _ i wr => ∃ k : Nat, k ≤ n ∧ i = .int .i64 k ∧ (∀ j, j < k → p j = true) ∧ Ext w wr) (fun _ i _ => n - (intOf i).toNat)
    case atStart => exact ⟨0, Nat.zero_le _, rfl, by omega, Ext.refl _⟩
    case round =>
      obtain ⟨k, hk, rfl, ha, hx⟩ := hrel
      have HA := Lib.hid ha
      have HX := Lib.hid hx
      clear ha hx
      by_cases hlt : k < n
      · have hk1 : k < L.length := by have := HN.out; omega
        have hk2 : k < M.length := by have := HM.out; omega
        obtain ⟨x, hxx⟩ : ∃ x, x = L.getD k default := ⟨_, rfl⟩
        obtain ⟨y, hyy⟩ : ∃ y, y = M.getD k default := ⟨_, rfl⟩
        have HP1 : Hid (∀ w1, Ext w w1 → Calls Tryz.prog K #[.agg #[.string x.name, .int .i64 x.params, .int .i64 x.regs, .int .i64 x.ty.base, .int .i64 x.ty.bits, .string x.ty.name, .bool x.ty.opt, .bool x.ty.err, .slice x.A x.code.length x.cap], .agg #[.string y.name, .int .i64 y.params, .int .i64 y.regs, .int .i64 y.ty.base, .int .i64 y.ty.bits, .string y.ty.name, .bool y.ty.opt, .bool y.ty.err, .slice y.A y.code.length y.cap]] w1 fun e w2 => e = .returned (.bool (p k)) ∧ Ext w1 w2) := by
          intro w1 xx
          rw [hxx, hyy]
          exact HP.out k w1 hlt hlt xx
        obtain ⟨b1, o1, rfl, hb1, c0, c1, c2, c3, c4, c5, c6, c7, c8, _⟩ := (H1.out.ext HX.out).at_ (k := k) hk1 hxx
        obtain ⟨b2, o2, rfl, hb2, d0, d1, d2, d3, d4, d5, d6, d7, d8, _⟩ := (H2.out.ext HX.out).at_ (k := k) hk2 hyy
        have HC2 := Lib.hid (show ∀ w1, Ext wr w1 → w1.cell? ⟨b2, o2 + k * 9, none⟩ = some (.string y.name) ∧ w1.cell? ⟨b2, o2 + k * 9 + 1, none⟩ = some (.int .i64 y.params) ∧ w1.cell? ⟨b2, o2 + k * 9 + 2, none⟩ = some (.int .i64 y.regs) ∧ w1.cell? ⟨b2, o2 + k * 9 + 3, none⟩ = some (.int .i64 y.ty.base) ∧ w1.cell? ⟨b2, o2 + k * 9 + 4, none⟩ = some (.int .i64 y.ty.bits) ∧ w1.cell? ⟨b2, o2 + k * 9 + 5, none⟩ = some (.string y.ty.name) ∧ w1.cell? ⟨b2, o2 + k * 9 + 6, none⟩ = some (.bool y.ty.opt) ∧ w1.cell? ⟨b2, o2 + k * 9 + 7, none⟩ = some (.bool y.ty.err) ∧ w1.cell? ⟨b2, o2 + k * 9 + 8, none⟩ = some (.slice y.A y.code.length y.cap) from fun w1 xx => by
          obtain ⟨bq, oq, hq, _, g⟩ := (H2.out.ext (HX.out.trans xx)).at_ (k := k) hk2 hyy
          obtain ⟨rfl, rfl⟩ : b2 = bq ∧ o2 = oq := by cases hq; exact ⟨rfl, rfl⟩
          exact ⟨g.1, g.2.1, g.2.2.1, g.2.2.2.1, g.2.2.2.2.1, g.2.2.2.2.2.1, g.2.2.2.2.2.2.1, g.2.2.2.2.2.2.2.1, g.2.2.2.2.2.2.2.2.1⟩)
        clear hxx hyy d0 d1 d2 d3 d4 d5 d6 d7 d8 hk1 hk2
        go_wp2_with (first
          | ((with_reducible show wpList _ _ _ (Oper.mk none (.store 59 (.tmp 8) (.tmp 21)) _ _ _ _ :: _) _ _)
             refine store_new 59 _ _ rfl _ _ rfl rfl rfl rfl HZ.out (rf_one x) ?_
             intro w3 x3 B3
             have X3 := Lib.hid x3
             have B3' := Lib.hid B3
             have z3 := B3.lt
             have hb3 : b2 < w3.heap.size := Nat.lt_of_lt_of_le hb2 x3.size
             obtain ⟨d0, d1, d2, d3, d4, d5, d6, d7, d8⟩ := HC2.out w3 x3
             clear B3 x3)
          | ((with_reducible show wpList _ _ _ (Oper.mk none (.store 59 (.tmp 9) (.tmp 25)) _ _ _ _ :: _) _ _)
             refine store_new 59 _ _ rfl _ _ rfl rfl rfl rfl HZ.out (rf_one y) ?_
             intro w4 x4 B4
             have X4 := Lib.hid x4
             obtain ⟨e0, e1, e2, e3, e4, e5, e6, e7, e8⟩ := rf_cells x (B3'.out.ext x4)
             obtain ⟨f0, f1, f2, f3, f4, f5, f6, f7, f8⟩ := rf_cells y B4
             have z4 := B4.lt
             have z5 : wr.heap.size < w4.heap.size := Nat.lt_of_lt_of_le z3 x4.size
             clear B4 x4)
          | fail)
        simp only [hK _ _]
        go_wp2_with fail
        refine (HP1.out _ ((HX.out.trans X3.out).trans X4.out)).mono ?_
        rintro r w5 ⟨rfl, x5⟩
        cases hpk : p k
        · go_wp2_with fail
          go_ret
          exact ⟨ret_bool (eqB_no hlt hpk).symm, ((HX.out.trans X3.out).trans X4.out).trans x5⟩
        · go_wp2_with fail
          go_roundw
          case rel => exact ⟨k + 1, by omega, by go_num, (fun j hj => by
            rcases Nat.lt_or_ge j k with h | h
            · exact HA.out j h
            · obtain rfl : j = k := by omega
              exact hpk), ((HX.out.trans X3.out).trans X4.out).trans x5⟩
          case measure => simp [intOf]; omega
      · go_wp2_with fail
        go_ret
        exact ⟨ret_bool (eqB_all fun j hj => HA.out j (by omega)).symm, HX.out⟩
  · have HE : Hid (eqB n m p = false) := eqB_len e
    have hq : ((n : Int) != (m : Int)) = true := by simp; omega
    rw [HE.out]
    clear e
    go_enter Tryz.func108, Tryz.ntmps108
    go_wp2_with fail
    go_ret
    exact ⟨rfl, Ext.refl _⟩
theorem enters_sameReg : Enters 111 := Enters.of Tryz.func111 (by kernel_rfl) (by kernel_rfl)
theorem enters_same1 : Enters 109 := Enters.of Tryz.func109 (by kernel_rfl) (by kernel_rfl)
/-- sizes of code that a walk needs -/
def SizesF (f : Rf) : Prop := f.code.length ≤ 9223372036854775806 ∧ ∀ x, x ∈ f.code → x.args.length ≤ 9223372036854775806
theorem same1_any (f g : Rf) (w : World) (h1 : RgAt w f.A f.code) (h2 : RgAt w g.A g.code) (s1 : SizesF f) (s2 : SizesF g) :
    Calls Tryz.prog 109 #[.agg #[.string f.name, .int .i64 f.params, .int .i64 f.regs, .int .i64 f.ty.base, .int .i64 f.ty.bits, .string f.ty.name, .bool f.ty.opt, .bool f.ty.err, .slice f.A f.code.length f.cap], .agg #[.string g.name, .int .i64 g.params, .int .i64 g.regs, .int .i64 g.ty.base, .int .i64 g.ty.bits, .string g.ty.name, .bool g.ty.opt, .bool g.ty.err, .slice g.A g.code.length g.cap]] w fun e w' => e = .returned (.bool (sameF f g)) ∧ Ext w w' := by
  have ht := run_ty_eql f.ty g.ty
  obtain ⟨b0, e0⟩ : ∃ b, (f.name.toList == g.name.toList) = b := ⟨_, rfl⟩
  obtain ⟨b1, e1⟩ : ∃ b, (f.params == g.params) = b := ⟨_, rfl⟩
  obtain ⟨b2, e2⟩ : ∃ b, (f.regs == g.regs) = b := ⟨_, rfl⟩
  obtain ⟨b3, e3⟩ : ∃ b, tyB f.ty g.ty = b := ⟨_, rfl⟩
  obtain ⟨b4, e4⟩ : ∃ b, (eqB f.code.length g.code.length fun i => sameX (f.code.getD i default) (g.code.getD i default)) = b := ⟨_, rfl⟩
  have HS : Hid (sameF f g = (b0 && (b1 && (b2 && (b3 && b4))))) := by unfold Hid sameF; rw [e0, e1, e2, e3, e4]
  have HE : Hid (∀ w1, Ext w w1 → Calls Tryz.prog 110 #[.slice f.A f.code.length f.cap, .slice g.A g.code.length g.cap, .func (.func 111) #[] #[]] w1 fun e w' => e = .returned (.bool b4) ∧ Ext w1 w') := by
    intro w1 xx
    have h := eqFuncG_any f.A g.A f.cap g.cap f.code g.code 111 w1 rfl rfl (h1.ext xx) (h2.ext xx) s1.1 s2.1 enters_sameReg (fun i => sameX (f.code.getD i default) (g.code.getD i default)) (fun i w2 hi hj x2 =>
      sameReg_any _ _ w2 (((h1.ext xx).ext x2).sub _ (getD_mem hi)) (((h2.ext xx).ext x2).sub _ (getD_mem hj)) (s1.2 _ (getD_mem hi)) (s2.2 _ (getD_mem hj)))
    rwa [e4] at h
  rw [e3] at ht
  rw [HS.out]
  clear e3 e4 HS h1 h2 s1 s2
  cases b0
  case' true => cases b1
  case' true.true => cases b2
  case' true.true.true => cases b3
  all_goals
    go_enter Tryz.func109, Tryz.ntmps109
    go_wp2_with (first
      | (go_at_call 110; refine (HE.out _ (by (with_reducible repeat first | exact Ext.refl _ | assumption | refine Ext.alloc ?_ _ | refine Ext.drew ?_ | refine Ext.trans ?_ (by assumption)))).mono ?_; rintro r w1 ⟨rfl, x1⟩))
    go_ret
    exact ⟨rfl, by (with_reducible repeat first | exact Ext.refl _ | assumption | refine Ext.alloc ?_ _ | refine Ext.drew ?_ | refine Ext.trans ?_ (by assumption))⟩
theorem gSame_any (A1 A2 : Option Addr) (c1 c2 : Nat) (l m : List Rf) {nl nm : Nat} (w : World) (hn : nl = l.length) (hm : nm = m.length) (h1 : RfAt w A1 l) (h2 : RfAt w A2 m) (hl : nl ≤ 9223372036854775806) (hl2 : nm ≤ 9223372036854775806) (s1 : ∀ f, f ∈ l → SizesF f) (s2 : ∀ f, f ∈ m → SizesF f) :
    Calls Tryz.prog 43 #[.slice A1 nl c1, .slice A2 nm c2] w fun e w' => e = .returned (.bool (sameR l m)) ∧ Ext w w' := by
  have HE := Lib.hid (eqFuncF_any A1 A2 c1 c2 l m 109 w hn hm h1 h2 hl hl2 enters_same1 (fun i => sameF (l.getD i default) (m.getD i default)) (fun i w2 hi hj x2 =>
      same1_any _ _ w2 ((h1.ext x2).sub _ (getD_mem (by omega))) ((h2.ext x2).sub _ (getD_mem (by omega))) (s1 _ (getD_mem (by omega))) (s2 _ (getD_mem (by omega)))))
  have HS : Hid (sameR l m = eqB nl nm fun i => sameF (l.getD i default) (m.getD i default)) := by unfold Hid sameR; rw [hn, hm]
  rw [HS.out]
  clear h1 h2 s1 s2 hn hm HS
  go_enter Tryz.func43, Tryz.ntmps43
  go_wp2_with (first
    | (go_at_call 108; refine (HE.out).mono ?_; rintro r w1 ⟨rfl, x1⟩))
  go_ret
  exact ⟨rfl, x1⟩
end Go.Proofs.YtknaemlnhediaaaGreatDoor.c
