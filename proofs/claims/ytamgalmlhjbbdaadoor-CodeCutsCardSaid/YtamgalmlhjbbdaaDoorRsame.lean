/- Contract of the reference's Same, over lists of functions that are alike. Conditions: sizes. -/
import Derived.Test.YtamgalmlhjbbdaaDoorThr
import Derived.Test.YtamgalmlhjbbdaaDoorRval
import Derived.Deep.QuietTactic
import Derived.BigQuiet
namespace Go.Proofs.YtamgalmlhjbbdaaDoor.c
open Go.RowKit
set_option linter.unusedVariables false
set_option linter.unusedSimpArgs false
theorem run_ty_self (a b : Int) (n : ByteArray) (o e : Bool) (w : World) : (binOp .neq 47 (.agg #[.int .i64 a, .int .i64 b, .string n, .bool o, .bool e]) (.agg #[.int .i64 a, .int .i64 b, .string n, .bool o, .bool e])).run Tryd.prog w = .ok (.bool false) w := by
  go_simp
theorem run_cd_self (p a b c d : Int) (n m : ByteArray) (o e : Bool) (w : World) : (binOp .neq 53 (.agg #[.int .i64 p, .int .i64 a, .int .i64 b, .int .i64 c, .int .i64 d, .string n, .bool o, .bool e, .string m]) (.agg #[.int .i64 p, .int .i64 a, .int .i64 b, .int .i64 c, .int .i64 d, .string n, .bool o, .bool e, .string m])).run Tryd.prog w = .ok (.bool false) w := by
  go_simp
set_option maxRecDepth 100000 in
set_option maxHeartbeats 1600000 in
theorem same_any (A1 A2 : Option Addr) (c1 c2 : Nat) (l m : List Fc) (w : World) (h1 : FcAt w A1 l) (h2 : FcAt w A2 m) (hlm : LikeL l m) (hl : l.length ≤ 9223372036854775806) (hfl : ∀ f, f ∈ l → f.code.length ≤ 9223372036854775806) :
    Calls Tryd.prog 25 #[.slice A1 l.length c1, .slice A2 m.length c2] w fun e w' => e = .returned (.bool true) ∧ Ext w w' := by
  have H1 := Lib.hid h1
  have H2 := Lib.hid h2
  have HLM := Lib.hid hlm
  have HFL := Lib.hid hfl
  rw [hlm.1]
  clear h1 h2 hlm hfl
  obtain ⟨len, hlen⟩ : ∃ len, len = l.length := ⟨_, rfl⟩
  have HLn := Lib.hid hlen
  rw [← hlen] at hl ⊢
  clear hlen
  have hrt := run_ty_self
  have hrc := run_cd_self
  go_enter Tryd.func25, Tryd.ntmps25
  go_wp2_with fail
  go_loopw [5, 6] (fun i _ wr => ∃ k : Nat, k ≤ len ∧ i = .int .i64 k ∧ Ext w wr) (fun i _ _ => len - (intOf i).toNat)
  case atStart => exact ⟨0, Nat.zero_le _, rfl, Ext.refl _⟩
  case round =>
    obtain ⟨k, hk, rfl, hx⟩ := hrel
    by_cases hlt : k < len
    · have hkl : k < l.length := by have := HLn.out; omega
      obtain ⟨f, hf⟩ : ∃ f, f = l.getD k default := ⟨_, rfl⟩
      obtain ⟨g, hg⟩ : ∃ g, g = m.getD k default := ⟨_, rfl⟩
      have hfg := HLM.out.2 k hkl
      rw [← hf, ← hg] at hfg
      obtain ⟨e1, e2, e3, e4, e5⟩ := hfg
      have hfl := HFL.out f (by rw [hf]; exact getD_mem hkl)
      have C1 := Lib.hid (H1.out.sub f (by rw [hf]; exact getD_mem hkl))
      have hgm : g ∈ m := by rw [hg]; exact getD_mem (by rw [HLM.out.1]; exact hkl)
      have C2 : Hid (CdAt w g.A f.code) := by have := H2.out.sub g hgm; rwa [e5] at this
      obtain ⟨b1, o1, rfl, hb1, y0, y1, y2, y3, y4, y5, y6, y7, y8, _⟩ := H1.out.at_ (k := k) hkl hf
      obtain ⟨b2, o2, rfl, hb2, z0, z1, z2, z3, z4, z5, z6, z7, z8, _⟩ := H2.out.at_ (k := k) (by rw [HLM.out.1]; exact hkl) hg
      rw [e1] at z0
      rw [e2] at z1
      rw [e3] at z2
      rw [e4] at z3 z4 z5 z6 z7
      rw [e5] at z8
      clear e1 e2 e3 e4 e5 hf hg hgm
      obtain ⟨nc, hnc⟩ : ∃ nc, nc = f.code.length := ⟨_, rfl⟩
      have HNC := Lib.hid hnc
      rw [← hnc] at y8 z8 hfl
      clear hnc
      have HY1 : Hid (∀ (w' : World) (o : Nat), Ext w w' → w'.cell? ⟨b1, o, none⟩ = w.cell? ⟨b1, o, none⟩) := fun w' o x => x.cell (p := ⟨b1, o, none⟩) hb1
      have HY2 : Hid (∀ (w' : World) (o : Nat), Ext w w' → w'.cell? ⟨b2, o, none⟩ = w.cell? ⟨b2, o, none⟩) := fun w' o x => x.cell (p := ⟨b2, o, none⟩) hb2
      have S1 := Lib.hid y8
      have S2 := Lib.hid z8
      rw [← HY1.out wr _ hx] at y0 y1 y2 y3 y4 y5 y6 y7 y8
      rw [← HY2.out wr _ hx] at z0 z1 z2 z3 z4 z5 z6 z7 z8
      have hb1' : b1 < wr.heap.size := Nat.lt_of_lt_of_le hb1 hx.size
      have hb2' : b2 < wr.heap.size := Nat.lt_of_lt_of_le hb2 hx.size
      go_wp2_with fail
      go_quiet (fail)
      go_wp2_with fail
      clear y0 y1 y2 y3 y4 y5 y6 y7 y8 z0 z1 z2 z3 z4 z5 z6 z7 z8 hb1' hb2'
      go_loopw [6] (fun i wr => ∃ j : Nat, j ≤ nc ∧ i = .int .i64 j ∧ Ext w wr) (fun i _ => nc - (intOf i).toNat)
      case atStart => exact ⟨0, Nat.zero_le _, rfl, hx.drewN _⟩
      case round =>
        obtain ⟨j, hj, rfl, hx2⟩ := hrel
        have y8 := S1.out
        have z8 := S2.out
        rw [← HY1.out wr _ hx2] at y8
        rw [← HY2.out wr _ hx2] at z8
        have hb1' : b1 < wr.heap.size := Nat.lt_of_lt_of_le hb1 hx2.size
        have hb2' : b2 < wr.heap.size := Nat.lt_of_lt_of_le hb2 hx2.size
        by_cases hlj : j < nc
        · obtain ⟨x, hxx⟩ : ∃ x, x = f.code.getD j default := ⟨_, rfl⟩
          obtain ⟨b3, o3, hA3, hb3, d0, d1, d2, d3, d4, d5, d6, d7, d8⟩ := (C1.out.ext hx2).at_ (k := j) (by rw [← HNC.out]; exact hlj) hxx
          obtain ⟨b4, o4, hA4, hb4, u0, u1, u2, u3, u4, u5, u6, u7, u8⟩ := (C2.out.ext hx2).at_ (k := j) (by rw [← HNC.out]; exact hlj) hxx
          rw [hA3] at y8
          rw [hA4] at z8
          clear hA3 hA4 hxx
          go_wp2_with fail
          go_quiet (fail)
          go_wp2_with fail
          case roundEnd => exact ⟨⟨j + 1, by omega, by go_num, hx2.drewN _⟩, by simp [intOf]; omega⟩
        · go_wp2_with fail
          case roundEnd => exact ⟨⟨k + 1, by omega, by go_num, hx2⟩, by simp [intOf]; omega⟩
    · go_wp2_with fail
      go_ret
      exact ⟨rfl, hx⟩
end Go.Proofs.YtamgalmlhjbbdaaDoor.c
