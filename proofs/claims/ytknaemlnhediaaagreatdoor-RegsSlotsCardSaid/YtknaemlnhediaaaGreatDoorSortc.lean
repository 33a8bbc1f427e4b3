/- sort.Ints and slices.Compact at numbers that the call itself has laid. No condition. -/
import Derived.Test.YtknaemlnhediaaaGreatDoorLib
import Derived.Test.YtknaemlnhediaaaGreatDoorShelfB
import Derived.Sort.OwnSortedInts
import Derived.Lib.RowBridge
namespace Go.Proofs.YtknaemlnhediaaaGreatDoor.c
open Go.RowKit
set_option linter.unusedVariables false
set_option linter.unusedSimpArgs false
def sortI (zs : List Int) : List Int := zs.mergeSort fun x y => decide (x ≤ y)
theorem sortI_len (zs : List Int) : (sortI zs).length = zs.length := List.length_mergeSort _
/-- sort.Ints at numbers of the call's own -/
theorem sort_own {w : World} {base : Nat} {v : Value} {n : Nat} {zs : List Int} (h : w.ownsRow base 3 1 v n (zs.map (Value.int .i64))) (hn : n = zs.length) (hs : n ≤ 1000000000) :
    Calls Tryz.prog 105 #[v] w fun e w' => e = .returned (.tuple #[]) ∧ w.grownBy w' v.ownBlock ∧ w'.ownsRow base 3 1 v n ((sortI zs).map (Value.int .i64)) := by
  subst hn
  have hmax : zs.length ≤ maxLen := by unfold maxLen; omega
  rcases h.2 with ⟨rfl, h0⟩ | ⟨g, cap, cur, rfl, hb, hg, hc, hm, hsz, ht⟩
  · have hz : zs = [] := List.length_eq_zero_iff.1 h0
    subst hz
    refine (Tryz.sort_Ints_none none 0 w).mono ?_
    rintro e w' ⟨rfl, rfl⟩
    exact ⟨rfl, ⟨rfl, rfl, rfl, Nat.le_refl _, fun k _ _ => rfl⟩, by simpa [sortI] using h⟩
  · have hH := holds_of_blockI (ss := zs) hg (by rw [← ht, Nat.mul_one])
    refine (Tryz.sort_Ints g 0 cap zs w hH (Array.getElem?_eq_some_iff.1 hg).1 (by omega)).mono ?_
    rintro e w' ⟨rfl, k, os, rfl⟩
    exact ⟨rfl, grownBy_sortedI _, ownsRow_sortedI (sortI_len zs) hb hg hc hm hsz⟩
/-- slices.Compact at numbers of the call's own -/
theorem compact_own {w : World} {base : Nat} {v : Value} {n : Nat} {zs : List Int} (h : w.ownsRow base 3 1 v n (zs.map (Value.int .i64))) (hn : n = zs.length) (hs : n ≤ 1000000000) :
    Calls Tryz.prog 106 #[v] w fun e w' => ∃ v', e = .returned v' ∧ v'.ownBlock = v.ownBlock ∧ w.grownBy w' v.ownBlock ∧ w'.ownsRow base 3 1 v' (Lib.compact zs).length ((Lib.compact zs).map (Value.int .i64)) := by
  subst hn
  rcases h.2 with ⟨rfl, h0⟩ | ⟨g, cap, cur, rfl, hb, hg, hc, hm, hsz, ht⟩
  · have hz : zs = [] := List.length_eq_zero_iff.1 h0
    subst hz
    refine (Tryz.slices_Compact_int_empty none 0 w).mono ?_
    rintro e w' ⟨rfl, rfl⟩
    exact ⟨_, rfl, rfl, ⟨rfl, rfl, rfl, Nat.le_refl _, fun k _ _ => rfl⟩, World.ownsRow_nil _ _ _ _⟩
  · have hH := holds_of_blockI (ss := zs) hg (by rw [← ht, Nat.mul_one])
    have hle := Lib.compact_length_le zs
    refine (Tryz.slices_Compact_int g 0 cap zs w hH (by omega) hc).mono ?_
    rintro e w' ⟨rfl, q, rfl⟩
    obtain ⟨ts, hts⟩ : ∃ ts, ts = Lib.compact zs ++ List.replicate (zs.length - (Lib.compact zs).length) 0 := ⟨_, rfl⟩
    rw [← hts]
    have hl : ts.length = zs.length := by rw [hts]; simp; omega
    have e0 : Sort.putRow (Value.int .i64) (Sort.ahead w q) g 0 ts.toArray = Sort.grow (Sort.putRow (Value.int .i64) (Sort.ahead w q) g 0 ts.toArray) #[] := (Sort.grow_empty _).symm
    rw [e0]
    have ow := ownsRow_sortedI (w := w) (base := base) (n := q) (os := #[]) hl hb hg hc hm hsz
    refine ⟨_, rfl, rfl, grownBy_sortedI _, ?_⟩
    rcases ow.2 with ⟨h9, _⟩ | ⟨g2, cap2, cur2, h9, hb2, hg2, hc2, hm2, hsz2, ht2⟩
    · cases h9
    · cases h9
      refine ⟨by simp, .inr ⟨g, cap, cur2, rfl, hb, hg2, by omega, hm, hsz2, ?_⟩⟩
      have h3 := congrArg (List.take (Lib.compact zs).length) ht2
      rw [List.take_take, Nat.mul_one, Nat.min_eq_left (by omega), hts, List.map_append, List.take_left' (by simp)] at h3
      rw [Nat.mul_one]
      exact h3
/-- a list that is spelled out -/
theorem own_lit {w : World} {base g : Nat} {zs : List Int} (h : Blk w g 3 (zs.map (Value.int .i64)).toArray) (hb : base ≤ g) (hs : zs.length ≤ 1000000000) : w.ownsRow base 3 1 (.slice (some ⟨g, 0, none⟩) zs.length zs.length) zs.length (zs.map (Value.int .i64)) :=
  ⟨by simp, .inr ⟨g, zs.length, _, rfl, hb, h, Nat.le_refl _, by unfold maxLen; omega, by simp, by rw [List.take_of_length_le (by simp)]⟩⟩
end Go.Proofs.YtknaemlnhediaaaGreatDoor.c
