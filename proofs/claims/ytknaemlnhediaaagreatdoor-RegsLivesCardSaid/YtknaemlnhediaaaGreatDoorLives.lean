/- What Live and Dead say of code: plainly. No condition. -/
import Derived.Test.YtknaemlnhediaaaGreatDoorLiveP
import Derived.Test.YtknaemlnhediaaaGreatDoorSlots
namespace Go.Proofs.YtknaemlnhediaaaGreatDoor.c
open Go.RowKit
set_option linter.unusedVariables false
set_option linter.unusedSimpArgs false
noncomputable def livesL (c : List Rg) (n m : Nat) : List (List Int) := (List.range n).map fun p => liveTo c p m
theorem livesL_len (c : List Rg) (n m : Nat) : (livesL c n m).length = n := by simp [livesL]
theorem livesL_succ (c : List Rg) (n m : Nat) : livesL c (n + 1) m = livesL c n m ++ [liveTo c n m] := by
 unfold livesL
 rw [List.range_succ, List.map_append]
 rfl
theorem livesL_six {l : List Rf} {f : Rf} (g : GoodF l f) {m : Nat} (hm : f.regs = m) : ∀ n, livesL f.code n m = livesL f.code n 6 := fun n => by
 unfold livesL
 refine List.map_congr_left fun p _ => ?_
 rw [liveTo_six g p, hm, Int.toNat_natCast]
noncomputable def livesR (l : List Rf) (k : Int) : List (List Int) := if numE l k = 0 then livesL (l.getD k.toNat default).code (l.getD k.toNat default).code.length 6 else []
noncomputable def deadR (l : List Rf) (k : Int) : List Int := if numE l k = 0 then deadTo (l.getD k.toNat default).code (l.getD k.toNat default).code.length else []
theorem liveTo_len (c : List Rg) (p n : Nat) : (liveTo c p n).length ≤ n := by
 unfold liveTo
 have := List.length_filter_le (liveB c p) ((List.range n).map fun i : Nat => (i : Int))
 simpa using this
theorem deadTo_len (c : List Rg) (n : Nat) : (deadTo c n).length ≤ n := by
 unfold deadTo
 have := List.length_filter_le (deadB c) (List.range n)
 simpa using this
def idleB (op : Int) : Bool := op == 0 || (op == 1 || (op == 2 || (op == 3 || (op == 6 || op == 16))))
theorem deadB_eq (c : List Rg) (p : Nat) : deadB c p = (idleB (c.getD p default).op && !liveB c p (c.getD p default).d) := rfl
theorem idle_iff {op : Int} : idleB op = true ↔ op = 0 ∨ op = 1 ∨ op = 2 ∨ op = 3 ∨ op = 6 ∨ op = 16 := by
 unfold idleB
 simp only [Bool.or_eq_true, beq_iff_eq]
theorem idle_reg {l : List Rf} {f : Rf} {x : Rg} (g : GoodX l f x) (h : idleB x.op = true) : 0 ≤ x.d ∧ x.d < f.regs := by
 have hd := g.d
 have h1 : (partsR x.op).1 = 1 := by rcases idle_iff.1 h with h | h | h | h | h | h <;> rw [h] <;> rfl
 rw [h1] at hd
 exact isPartB_reg hd
end Go.Proofs.YtknaemlnhediaaaGreatDoor.c
