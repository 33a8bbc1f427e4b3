/- More words on worlds: what is owned stays owned in a grown world. No condition. -/
import Derived.Test.YtamgalmlhjbbdaaDoorLib
namespace Go.Proofs.YtamgalmlhjbbdaaDoor.c
open Go.RowKit
set_option linter.unusedVariables false
set_option linter.unusedSimpArgs false
theorem own_ext {w w' : World} {base : Nat} {e : TypeId} {size : Nat} {v : Value} {n : Nat} {xs : List Value} (h : w.ownsRow base e size v n xs) (x : Ext w w') : w'.ownsRow base e size v n xs := by
  refine ⟨h.1, ?_⟩
  rcases h.2 with h2 | ⟨g, cap, cur, hv, hb, hg, r⟩
  · exact .inl h2
  · refine .inr ⟨g, cap, cur, hv, hb, ?_, r⟩
    rw [x.out.block g ?_]
    · exact hg
    · rcases Nat.lt_or_ge g w.heap.size with h1 | h1
      · exact h1
      · rw [Array.getElem?_eq_none h1] at hg; cases hg
theorem own_row {w : World} {base : Nat} {e : TypeId} {size : Nat} {v : Value} {n : Nat} {xs : List Value} (h : w.ownsRow base e size v n xs) : ∀ k, v.ownBlock = some k → base ≤ k := fun k hk => (h.lt k hk).1
theorem ret_tup3 {v : Value} {a b : Int} {c d : Bool} (h : a = b) (h2 : c = d) : Ending.returned (.tuple #[v, .int .i64 a, .bool c]) = .returned (.tuple #[v, .int .i64 b, .bool d]) := by rw [h, h2]
theorem kd {w : World} {p : Addr} {x : Option Value} (h : w.cell? p = x) : w.drew.cell? p = x := h
theorem ks {w : World} {p a : Addr} {u : Value} {x : Option Value} (hp : p.block ≠ a.block) (h : w.cell? p = x) : (w.setCell a u).cell? p = x := by
  rw [← h]
  exact World.cell?_setCell_other w a p u (fun e => hp (by rw [e]))
theorem ka {w : World} {p : Addr} {o : Obj} {x : Option Value} (hp : p.block < w.heap.size) (h : w.cell? p = x) : (w.alloc o).cell? p = x := (World.cell?_alloc_lt w o p hp).trans h
end Go.Proofs.YtamgalmlhjbbdaaDoor.c
