/- An instruction as an argument of its own, and a list of numbers beside a number: opened. No condition. -/
import Derived.Test.YtknaemlnhediaaaGreatDoorArgs
import Derived.Deep.Slices
import Derived.ChangeSame
import Derived.DeepKeys4
namespace Go.Proofs.YtknaemlnhediaaaGreatDoor.c
open Go.RowKit Go.ChangeShapes Go.WideShapes Go.Deep
set_option linter.unusedVariables false
set_option maxRecDepth 100000
set_option maxHeartbeats 1600000
set_option linter.unusedSimpArgs false
section
variable {H : Type} {enc : TypeId × Value → H} {w : World} {base : Nat} {spare : Nat → Bool} {held : Bool} {n : Nat} {cs : List Value} {x : DataW H × List MemPlace}
theorem open_reg (hw : ∀ y, y ∈ x.1.weights Tryz.prog 67 → y ≤ reachBytes) (h : DataW.trod enc Tryz.prog w base spare held n 67 cs = some x) :
    ∃ r : Rg, cs = [.int .i64 r.op, .int .i64 r.d, .int .i64 r.a, .int .i64 r.b, .int .i64 r.ty.base, .int .i64 r.ty.bits, .string r.ty.name, .bool r.ty.opt, .bool r.ty.err, .string r.name, .slice r.A r.args.length r.cap] ∧ (NumsAt w r.A r.args ∧ In64 r.op ∧ r.args.length ≤ reachBytes) := by
  obtain ⟨xs, m, _, rfl, hlen, hxl, hf⟩ := DataW.trod_struct Tryz.underlying67 h
  have h5 : cs.length = 11 := hlen.trans (by kernel_rfl)
  have k3 : Tryz.prog.cellsOf 3 = 1 := by kernel_rfl
  have k9 : Tryz.prog.cellsOf 9 = 1 := by kernel_rfl
  have k5 : Tryz.prog.cellsOf 35 = 5 := by kernel_rfl
  have kc : Tryz.prog.cellsOf 65 = 1 := by kernel_rfl
  match cs, h5 with
  | [c0, c1, c2, c3, c4, c5, c6, c7, c8, c9, c10], _ =>
    match xs, hxl with
    | [y0, y1, y2, y3, y4, y5, y6], _ =>
      obtain ⟨z0, e0, _, i0⟩ := DataW.trod_int Tryz.underlying3 (show _ = some y0 by simpa [k3] using hf 0 _ rfl)
      obtain ⟨z1, e1, _⟩ := DataW.trod_int Tryz.underlying3 (show _ = some y1 by simpa [k3] using hf 1 _ rfl)
      obtain ⟨z2, e2, _⟩ := DataW.trod_int Tryz.underlying3 (show _ = some y2 by simpa [k3] using hf 2 _ rfl)
      obtain ⟨z3, e3, _⟩ := DataW.trod_int Tryz.underlying3 (show _ = some y3 by simpa [k3] using hf 3 _ rfl)
      obtain ⟨T, e4⟩ := open_ty (show _ = some y4 by simpa [k5] using hf 4 _ rfl)
      obtain ⟨z5, e5, _⟩ := DataW.trod_string Tryz.underlying9 (show _ = some y5 by simpa [k9] using hf 5 _ rfl)
      obtain ⟨A, cap, l, e6, hl, hat, _⟩ := open_nums (fun y hy => hw y (by
        simp only [DataW.weights, Tryz.underlying67]
        exact weights_each (j := 6) rfl rfl hy)) (show _ = some y6 by simpa [kc] using hf 6 _ rfl)
      cases e0; cases e1; cases e2; cases e3; cases e4; cases e5; cases e6
      exact ⟨⟨z0, z1, z2, z3, T, z5, A, cap, l⟩, rfl, hat, in64_wf i0, hl⟩
theorem open_order (hw : ∀ y, y ∈ x.1.weights Tryz.prog 79 → y ≤ reachBytes) (h : DataW.trod enc Tryz.prog w base spare held n 79 cs = some x) :
    ∃ (k : Int) (A : Option Addr) (cap : Nat) (l : List Int), cs = [.int .i64 k, .slice A l.length cap] ∧ l.length ≤ reachBytes ∧ NumsAt w A l ∧ In64 k ∧ ∀ z, z ∈ l → In64 z := by
  obtain ⟨xs, m, _, rfl, hlen, hxl, hf⟩ := DataW.trod_struct Tryz.underlying79 h
  have h5 : cs.length = 2 := hlen.trans (by kernel_rfl)
  have k3 : Tryz.prog.cellsOf 3 = 1 := by kernel_rfl
  have kc : Tryz.prog.cellsOf 65 = 1 := by kernel_rfl
  match cs, h5 with
  | [c0, c1], _ =>
    match xs, hxl with
    | [y0, y1], _ =>
      obtain ⟨z0, e0, _, i0⟩ := DataW.trod_int Tryz.underlying3 (show _ = some y0 by simpa [k3] using hf 0 _ rfl)
      obtain ⟨A, cap, l, e1, hl, hat, hin⟩ := open_nums (fun y hy => hw y (by
        simp only [DataW.weights, Tryz.underlying79]
        exact weights_each (j := 1) rfl rfl hy)) (show _ = some y1 by simpa [kc] using hf 1 _ rfl)
      cases e0; cases e1
      exact ⟨z0, A, cap, l, rfl, hl, hat, in64_wf i0, hin⟩
end
end Go.Proofs.YtknaemlnhediaaaGreatDoor.c
