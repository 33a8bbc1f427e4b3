/- Contract of one. No condition. -/
import Derived.Test.YtamgalmlhjbbdaaDoorOne
import Derived.Test.YtamgalmlhjbbdaaDoorStep
namespace Go.Proofs.YtamgalmlhjbbdaaDoor.c
open Go.RowKit
set_option linter.unusedVariables false
set_option linter.unusedSimpArgs false
def oneCells (op : Int) : Array Value := #[.int .i64 0, .int .i64 1, .int .i64 0, .int .i64 2, .int .i64 8, .string ⟨#[]⟩, .bool false, .bool false, .string ⟨#[]⟩, .int .i64 op, .int .i64 0, .int .i64 0, .int .i64 0, .int .i64 0, .string ⟨#[]⟩, .bool false, .bool false, .string ⟨#[]⟩]
set_option maxRecDepth 100000 in
set_option maxHeartbeats 1600000 in
theorem one_any (w : World) :
    Calls Tryd.prog 29 #[] w fun e w' => ∃ g, w.heap.size ≤ g ∧ e = .returned (.agg #[.string ⟨#[102]⟩, .int .i64 0, .int .i64 0, .int .i64 0, .int .i64 0, .string ⟨#[]⟩, .bool false, .bool false, .slice (some ⟨g, 0, none⟩) 2 2]) ∧ Ext w w' ∧ Blk w' g 53 (oneCells 17) := by
  have HZ : Hid ((Tryd.prog.info? 50).map (·.size) = some 9) := by unfold Hid; kernel_rfl
  go_enter Tryd.func29, Tryd.ntmps29
  go_wp2
  refine bodyPost_ret (results_cell_row rfl _ _ w.heap.size 50 #[.string ⟨#[102]⟩, .int .i64 0, .int .i64 0, .int .i64 0, .int .i64 0, .string ⟨#[]⟩, .bool false, .bool false, .slice (some ⟨w.heap.size + 1, 0, none⟩) 2 2] (0, 0) _ rfl ((Blk.new w _ _).alloc _) Tryd.underlying50 rfl HZ.out) rfl ⟨w.heap.size + 1, by omega, rfl, by (repeat (first | (with_reducible exact Ext.refl _) | (with_reducible assumption) | (with_reducible refine Ext.alloc ?_ _) | (with_reducible refine Ext.drewN ?_ _) | (with_reducible refine Ext.drew ?_) | (with_reducible refine Ext.setCell ?_ ?_ _; rotate_left; first | assumption | (simp; done) | (simp; omega)) | (with_reducible refine Ext.trans ?_ (by with_reducible assumption)))), new2 _ _ _ _⟩
theorem fcAt_one {W : World} {k g : Nat} {x : Cd} (hx : x = cRet ∨ x = cBr)
    (h1 : Blk W k 50 #[.string ⟨#[102]⟩, .int .i64 0, .int .i64 0, .int .i64 0, .int .i64 0, .string ⟨#[]⟩, .bool false, .bool false, .slice (some ⟨g, 0, none⟩) 2 2]) (h2 : Blk W g 53 (oneCells x.op)) : FcAt W (some ⟨k, 0, none⟩) [fOne (some ⟨g, 0, none⟩) x] := by
  refine ⟨fun _ => ⟨k, 0, rfl, h1.lt, fun i j hi hj => ?_⟩, fun f hf => ?_⟩
  · have : i = 0 := by simp at hi; omega
    subst this
    rw [Nat.zero_add, Nat.zero_mul, Nat.zero_add, h1.cell j]
    match j, hj with
    | 0, _ => rfl
    | 1, _ => rfl
    | 2, _ => rfl
    | 3, _ => rfl
    | 4, _ => rfl
    | 5, _ => rfl
    | 6, _ => rfl
    | 7, _ => rfl
    | 8, _ => rfl
  · rw [List.mem_singleton] at hf
    subst hf
    refine fun _ => ⟨g, 0, rfl, h2.lt, fun i j hi hj => ?_⟩
    rw [Nat.zero_add, h2.cell]
    have hi2 : i < 2 := hi
    rcases hx with rfl | rfl <;>
    · match i, hi2, j, hj with
      | 0, _, 0, _ => rfl
      | 0, _, 1, _ => rfl
      | 0, _, 2, _ => rfl
      | 0, _, 3, _ => rfl
      | 0, _, 4, _ => rfl
      | 0, _, 5, _ => rfl
      | 0, _, 6, _ => rfl
      | 0, _, 7, _ => rfl
      | 0, _, 8, _ => rfl
      | 1, _, 0, _ => rfl
      | 1, _, 1, _ => rfl
      | 1, _, 2, _ => rfl
      | 1, _, 3, _ => rfl
      | 1, _, 4, _ => rfl
      | 1, _, 5, _ => rfl
      | 1, _, 6, _ => rfl
      | 1, _, 7, _ => rfl
      | 1, _, 8, _ => rfl
end Go.Proofs.YtamgalmlhjbbdaaDoor.c
