/- When two codes are equal: plainly; contracts of the program's Same and of what it calls. Conditions: lengths. -/
import Derived.Test.YtknaemlnhediaaaGreatDoorSlots
import Derived.Test.YtknaemlnhediaaaGreatDoorSortc
import Derived.Deep.QuietTactic
import Derived.BigQuiet
namespace Go.Proofs.YtknaemlnhediaaaGreatDoor.c
open Go.RowKit
set_option linter.unusedVariables false
set_option linter.unusedSimpArgs false
def tyB (t u : Ty) : Bool := t.base == u.base && (t.bits == u.bits && (t.name.toList == u.name.toList && (t.opt == u.opt && t.err == u.err)))
theorem run_ty_neq (t u : Ty) (w : World) : (binOp .neq 35 (.agg #[.int .i64 t.base, .int .i64 t.bits, .string t.name, .bool t.opt, .bool t.err]) (.agg #[.int .i64 u.base, .int .i64 u.bits, .string u.name, .bool u.opt, .bool u.err])).run Tryz.prog w = .ok (.bool (!tyB t u)) w := by
 obtain ⟨a, b, n, o, e⟩ := t
 obtain ⟨a2, b2, n2, o2, e2⟩ := u
 go_simp
 unfold tyB
 by_cases h1 : a = a2
 ·by_cases h2 : b = b2
  ·by_cases h3 : n.toList = n2.toList
   ·cases o <;> cases e <;> cases o2 <;> cases e2 <;> simp [h1, h2, h3]
   ·simp [h1, h2, h3]
  ·simp [h1, h2]
 ·simp [h1]
def allB (p : Nat → Bool) (n : Nat) : Bool := (List.range n).all p
theorem allB_iff {p : Nat → Bool} {n : Nat} : allB p n = true ↔ ∀ j, j < n → p j = true := by
 unfold allB
 rw [List.all_eq_true]
 exact ⟨fun h j hj => h j (List.mem_range.2 hj), fun h j hj => h j (List.mem_range.1 hj)⟩
theorem allB_no {p : Nat → Bool} {n k : Nat} (hk : k < n) (h : p k = false) : allB p n = false := by
 rw [Bool.eq_false_iff, Ne, allB_iff]
 intro h2
 rw [h2 k hk] at h
 cases h
def eqB (n m : Nat) (p : Nat → Bool) : Bool := decide (n = m) && allB p n
theorem eqB_len {n m : Nat} {p : Nat → Bool} (h : n ≠ m) : eqB n m p = false := by unfold eqB; rw [decide_eq_false h]; rfl
theorem eqB_all {n : Nat} {p : Nat → Bool} (h : ∀ j, j < n → p j = true) : eqB n n p = true := by unfold eqB; rw [decide_eq_true rfl, allB_iff.2 h]; rfl
theorem eqB_no {n m k : Nat} {p : Nat → Bool} (hk : k < n) (h : p k = false) : eqB n m p = false := by unfold eqB; rw [allB_no hk h, Bool.and_false]
def intsB (L M : List Int) : Bool := eqB L.length M.length fun i => L.getD i 0 == M.getD i 0
def sameX (x y : Rg) : Bool := x.op == y.op && (x.d == y.d && (x.a == y.a && (x.b == y.b && (tyB x.ty y.ty && (x.name.toList == y.name.toList && intsB x.args y.args)))))
def sameF (f g : Rf) : Bool := f.name.toList == g.name.toList && (f.params == g.params && (f.regs == g.regs && (tyB f.ty g.ty && eqB f.code.length g.code.length fun i => sameX (f.code.getD i default) (g.code.getD i default))))
def sameR (l m : List Rf) : Bool := eqB l.length m.length fun i => sameF (l.getD i default) (m.getD i default)
theorem tyB_self (t : Ty) : tyB t t = true := by unfold tyB; simp
theorem intsB_self (L : List Int) : intsB L L = true := eqB_all fun j _ => by simp
theorem rf_cells {w' : World} {g : Nat} (y : Rf) (b : Blk w' g 59 #[.string y.name, .int .i64 y.params, .int .i64 y.regs, .int .i64 y.ty.base, .int .i64 y.ty.bits, .string y.ty.name, .bool y.ty.opt, .bool y.ty.err, .slice y.A y.code.length y.cap]) : w'.cell? ⟨g, 0, none⟩ = some (.string y.name) ∧ w'.cell? ⟨g, 1, none⟩ = some (.int .i64 y.params) ∧ w'.cell? ⟨g, 2, none⟩ = some (.int .i64 y.regs) ∧ w'.cell? ⟨g, 3, none⟩ = some (.int .i64 y.ty.base) ∧ w'.cell? ⟨g, 4, none⟩ = some (.int .i64 y.ty.bits) ∧ w'.cell? ⟨g, 5, none⟩ = some (.string y.ty.name) ∧ w'.cell? ⟨g, 6, none⟩ = some (.bool y.ty.opt) ∧ w'.cell? ⟨g, 7, none⟩ = some (.bool y.ty.err) ∧ w'.cell? ⟨g, 8, none⟩ = some (.slice y.A y.code.length y.cap) :=
 ⟨b.cell 0, b.cell 1, b.cell 2, b.cell 3, b.cell 4, b.cell 5, b.cell 6, b.cell 7, b.cell 8⟩
theorem rf_one (x : Rf) : ∀ v ∈ (#[.string x.name, .int .i64 x.params, .int .i64 x.regs, .int .i64 x.ty.base, .int .i64 x.ty.bits, .string x.ty.name, .bool x.ty.opt, .bool x.ty.err, .slice x.A x.code.length x.cap] : Array Value).toList, v.oneCell' = true := by
 intro v hv
 simp at hv
 rcases hv with rfl | rfl | rfl | rfl | rfl | rfl | rfl | rfl | rfl <;> rfl
def SizesF (f : Rf) : Prop := f.code.length ≤ 9223372036854775806 ∧ ∀ x, x ∈ f.code → x.args.length ≤ 9223372036854775806
end Go.Proofs.YtknaemlnhediaaaGreatDoor.c
