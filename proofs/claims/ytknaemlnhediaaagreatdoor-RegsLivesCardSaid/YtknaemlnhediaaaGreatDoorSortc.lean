/- sort.Ints and slices.Compact at numbers that the call itself has laid. No condition. A row of cells told by its places; sorted numbers that are compacted, plainly. No condition. -/
import Derived.Test.YtknaemlnhediaaaGreatDoorLib
import Derived.Test.YtknaemlnhediaaaGreatDoorShelfB
import Derived.Sort.OwnSortedInts
import Derived.Lib.RowBridge
namespace Go.Proofs.YtknaemlnhediaaaGreatDoor.c
open Go.RowKit
set_option linter.unusedVariables false
set_option linter.unusedSimpArgs false
def sortI (zs : List Int) : List Int := zs.mergeSort fun x y => decide (x ≤ y)
theorem sortI_len (zs : List Int) : (sortI zs).length = zs.length := List.length_mergeSort _
theorem sort_own {w : World} {base : Nat} {v : Value} {n : Nat} {zs : List Int} (h : w.ownsRow base 3 1 v n (zs.map (Value.int .i64))) (hn : n = zs.length) (hs : n ≤ 1000000000) :
  Calls Tryz.prog 105 #[v] w fun e w' => e = .returned (.tuple #[]) ∧ w.grownBy w' v.ownBlock ∧ w'.ownsRow base 3 1 v n ((sortI zs).map (Value.int .i64)) := by
 subst hn
 have hmax : zs.length ≤ maxLen := by unfold maxLen; omega
 rcases h.2 with ⟨rfl, h0⟩ | ⟨g, cap, cur, rfl, hb, hg, hc, hm, hsz, ht⟩
 ·have hz : zs = [] := List.length_eq_zero_iff.1 h0
  subst hz
  refine (Tryz.sort_Ints_none none 0 w).mono ?_
  rintro e w' ⟨rfl, rfl⟩
  exact ⟨rfl, ⟨rfl, rfl, rfl, Nat.le_refl _, fun k _ _ => rfl⟩, by simpa [sortI] using h⟩
 ·have hH := holds_of_blockI (ss := zs) hg (by rw [← ht, Nat.mul_one])
  refine (Tryz.sort_Ints g 0 cap zs w hH (Array.getElem?_eq_some_iff.1 hg).1 (by omega)).mono ?_
  rintro e w' ⟨rfl, k, os, rfl⟩
  exact ⟨rfl, grownBy_sortedI _, ownsRow_sortedI (sortI_len zs) hb hg hc hm hsz⟩
theorem compact_own {w : World} {base : Nat} {v : Value} {n : Nat} {zs : List Int} (h : w.ownsRow base 3 1 v n (zs.map (Value.int .i64))) (hn : n = zs.length) (hs : n ≤ 1000000000) :
  Calls Tryz.prog 106 #[v] w fun e w' => ∃ v', e = .returned v' ∧ v'.ownBlock = v.ownBlock ∧ w.grownBy w' v.ownBlock ∧ w'.ownsRow base 3 1 v' (Lib.compact zs).length ((Lib.compact zs).map (Value.int .i64)) := by
 subst hn
 rcases h.2 with ⟨rfl, h0⟩ | ⟨g, cap, cur, rfl, hb, hg, hc, hm, hsz, ht⟩
 ·have hz : zs = [] := List.length_eq_zero_iff.1 h0
  subst hz
  refine (Tryz.slices_Compact_int_empty none 0 w).mono ?_
  rintro e w' ⟨rfl, rfl⟩
  exact ⟨_, rfl, rfl, ⟨rfl, rfl, rfl, Nat.le_refl _, fun k _ _ => rfl⟩, World.ownsRow_nil _ _ _ _⟩
 ·have hH := holds_of_blockI (ss := zs) hg (by rw [← ht, Nat.mul_one])
  have hle := Lib.compact_length_le zs
  refine (Tryz.slices_Compact_int g 0 cap zs w hH (by omega) hc).mono ?_
  rintro e w' ⟨rfl, q, rfl⟩
  obtain ⟨ts, hts⟩ : ∃ ts, ts = Lib.compact zs ++ List.replicate (zs.length - (Lib.compact zs).length) 0 := ⟨_, rfl⟩
  rw [← hts]
  have hl : ts.length = zs.length := by rw [hts]; simp; omega
  have e0 : Sort.putRow (Value.int .i64) (Sort.ahead w q) g 0 ts.toArray = Sort.grow (Sort.putRow (Value.int .i64) (Sort.ahead w q) g 0 ts.toArray) #[] := (Sort.grow_empty _).symm
  rw [e0]
  have ow := ownsRow_sortedI (w := w) (base := base) (n := q) (os := #[]) hl hb hg hc hm hsz
  refine ⟨_, rfl, rfl, grownBy_sortedI _, ?_⟩
  rcases ow.2 with ⟨h9, _⟩ | ⟨g2, cap2, cur2, h9, hb2, hg2, hc2, hm2, hsz2, ht2⟩
  ·cases h9
  ·cases h9
   refine ⟨by simp, .inr ⟨g, cap, cur2, rfl, hb, hg2, by omega, hm, hsz2, ?_⟩⟩
   have h3 := congrArg (List.take (Lib.compact zs).length) ht2
   rw [List.take_take, Nat.mul_one, Nat.min_eq_left (by omega), hts, List.map_append, List.take_left' (by simp)] at h3
   rw [Nat.mul_one]
   exact h3
theorem own_lit {w : World} {base g : Nat} {zs : List Int} (h : Blk w g 3 (zs.map (Value.int .i64)).toArray) (hb : base ≤ g) (hs : zs.length ≤ 1000000000) : w.ownsRow base 3 1 (.slice (some ⟨g, 0, none⟩) zs.length zs.length) zs.length (zs.map (Value.int .i64)) :=
 ⟨by simp, .inr ⟨g, zs.length, _, rfl, hb, h, Nat.le_refl _, by unfold maxLen; omega, by simp, by rw [List.take_of_length_le (by simp)]⟩⟩
def RowAt (w : World) (g : Nat) (t : TypeId) (n : Nat) (F : Nat → Value) : Prop := ∃ cs : Array Value, Blk w g t cs ∧ cs.size = n ∧ ∀ j, j < n → cs[j]? = some (F j)
section
variable {w w' : World} {g n : Nat} {t : TypeId} {F : Nat → Value}
theorem RowAt.lt (h : RowAt w g t n F) : g < w.heap.size := by
 obtain ⟨cs, hb, _⟩ := h
 exact hb.lt
theorem RowAt.cell (h : RowAt w g t n F) {j : Nat} (hj : j < n) : w.cell? ⟨g, j, none⟩ = some (F j) := by
 obtain ⟨cs, hb, _, hc⟩ := h
 rw [hb.cell, hc j hj]
theorem RowAt.frozen (h : RowAt w g t n F) (j : Nat) : w.frozen? ⟨g, j, none⟩ = false := by
 obtain ⟨cs, hb, _⟩ := h
 exact hb.frozen j
theorem RowAt.ext (h : RowAt w g t n F) (x : Ext w w') : RowAt w' g t n F := by
 obtain ⟨cs, hb, r⟩ := h
 exact ⟨cs, hb.ext x, r⟩
theorem RowAt.grown {row : Option Nat} (h : RowAt w g t n F) (x : w.grownBy w' row) (hne : some g ≠ row) : RowAt w' g t n F := by
 obtain ⟨cs, hb, r⟩ := h
 exact ⟨cs, (x.block g hb.lt hne).trans hb, r⟩
theorem RowAt.far (h : RowAt w g t n F) {p : Addr} (hp : g ≠ p.block) (u : Value) : RowAt (w.setCell p u) g t n F := by
 obtain ⟨cs, hb, r⟩ := h
 exact ⟨cs, hb.far hp u, r⟩
theorem RowAt.set_ (h : RowAt w g t n F) {F' : Nat → Value} {i : Nat} {u : Value} (hF : ∀ j, j < n → F' j = if j = i then u else F j) : RowAt (w.setCell ⟨g, i, none⟩ u) g t n F' := by
 obtain ⟨cs, hb, hs, hc⟩ := h
 refine ⟨_, hb.set_ i u, by simpa using hs, fun j hj => ?_⟩
 rw [hF j hj, Array.getElem?_setIfInBounds]
 by_cases e : i = j
 ·subst e
  simp [hs, hj]
 ·rw [if_neg e, if_neg (fun e2 => e e2.symm)]
  exact hc j hj
theorem RowAt.same (h : RowAt w g t n F) {F' : Nat → Value} (hF : ∀ j, j < n → F' j = F j) : RowAt w g t n F' := by
 obtain ⟨cs, hb, hs, hc⟩ := h
 exact ⟨cs, hb, hs, fun j hj => by rw [hF j hj]; exact hc j hj⟩
theorem RowAt.made (w : World) (t : TypeId) (z : Value) (n : Nat) : RowAt (w.alloc (.cells (madeCells #[z] n) t)) w.heap.size t n (fun _ => z) := by
 refine ⟨_, Blk.new _ _ _, size_madeCells _ _, fun j hj => ?_⟩
 simp [madeCells, hj, Nat.mod_one]
end
theorem rise_ext : ∀ (l m : List Int), l.Pairwise (· < ·) → m.Pairwise (· < ·) → (∀ x, x ∈ l ↔ x ∈ m) → l = m
 | [], [], _, _, _ => rfl
 | [], b :: m, _, _, h => by have := (h b).2 (List.mem_cons_self ..); cases this
 | a :: l, [], _, _, h => by have := (h a).1 (List.mem_cons_self ..); cases this
 | a :: l, b :: m, h1, h2, h => by
  rw [List.pairwise_cons] at h1 h2
  have e : a = b := by
   rcases List.mem_cons.1 ((h a).1 (List.mem_cons_self ..)) with e | e
   ·exact e
   ·rcases List.mem_cons.1 ((h b).2 (List.mem_cons_self ..)) with e2 | e2
    ·exact e2.symm
    ·have := h2.1 _ e; have := h1.1 _ e2; omega
  subst e
  congr 1
  refine rise_ext l m h1.2 h2.2 fun x => ⟨fun hx => ?_, fun hx => ?_⟩
  ·rcases List.mem_cons.1 ((h x).1 (List.mem_cons_of_mem _ hx)) with e | e
   ·have := h1.1 _ hx; omega
   ·exact e
  ·rcases List.mem_cons.1 ((h x).2 (List.mem_cons_of_mem _ hx)) with e | e
   ·have := h2.1 _ hx; omega
   ·exact e
theorem getB {zs : List Int} {j : Nat} (h : j < zs.length) : zs.toArray[j]! = zs[j] := by simp [h]
theorem compactUp (zs : List Int) (hs : zs.Pairwise (· ≤ ·)) : ∀ m, m ≤ zs.length → (Lib.compactUpTo zs.toArray m).Pairwise (· < ·) ∧ (∀ x, x ∈ Lib.compactUpTo zs.toArray m ↔ x ∈ zs.take m) := by
 intro m
 induction m with
 | zero => intro _; simp [Lib.compactUpTo]
 | succ m ih =>
  intro hm
  obtain ⟨h1, h2⟩ := ih (by omega)
  have hlt : m < zs.length := by omega
  rw [Lib.compactUpTo_succ, List.take_succ_eq_append_getElem hlt, getB hlt]
  have hle : ∀ x, x ∈ zs.take m → x ≤ zs[m] := by
   intro x hx
   obtain ⟨j, hj, rfl⟩ := List.getElem_of_mem hx
   rw [List.length_take] at hj
   rw [List.getElem_take]
   exact List.pairwise_iff_getElem.1 hs _ _ (by omega) hlt (by omega)
  by_cases hk : Lib.keeps zs.toArray m = true
  ·rw [if_pos hk]
   refine ⟨List.pairwise_append.2 ⟨h1, by simp, fun x hx y hy => ?_⟩, fun x => by simp only [List.mem_append, h2]⟩
   have hy' : y = zs[m] := by simpa using hy
   subst hy'
   have hx' := (h2 x).1 hx
   have hxl := hle x hx'
   rcases Nat.eq_zero_or_pos m with h0 | hpos
   ·subst h0; simp at hx'
   ·have hne : zs[m - 1] ≠ zs[m] := by
     unfold Lib.keeps at hk
     rw [getB hlt, getB (show m - 1 < zs.length by omega)] at hk
     simp only [Bool.or_eq_true, beq_iff_eq, bne_iff_ne, decide_eq_true_eq] at hk
     rcases hk with hk | hk
     ·omega
     ·exact fun e => hk (by first | exact e | exact e.symm)
    obtain ⟨j, hj, rfl⟩ := List.getElem_of_mem hx'
    rw [List.length_take] at hj
    rw [List.getElem_take]
    have hj1 : zs[j] ≤ zs[m - 1] := by
     rcases Nat.lt_or_ge j (m - 1) with h | h
     ·exact List.pairwise_iff_getElem.1 hs _ _ (by omega) (by omega) h
     ·have : j = m - 1 := by omega
      subst this
      exact Int.le_refl _
    have hj2 := List.pairwise_iff_getElem.1 hs (m - 1) m (by omega) hlt (by omega)
    omega
  ·rw [if_neg hk, List.append_nil]
   refine ⟨h1, fun x => ?_⟩
   rw [h2, List.mem_append]
   refine ⟨.inl, fun h => ?_⟩
   rcases h with h | h
   ·exact h
   ·have hx : x = zs[m] := by simpa using h
    subst hx
    unfold Lib.keeps at hk
    rw [getB hlt] at hk
    have hpos : 0 < m := by
     rcases Nat.eq_zero_or_pos m with h0 | h0
     ·exfalso; apply hk; simp [h0]
     ·exact h0
    rw [getB (show m - 1 < zs.length by omega)] at hk
    have he : zs[m - 1] = zs[m] := by
     rcases Classical.em (zs[m - 1] = zs[m]) with e | e
     ·exact e
     ·exfalso; apply hk; simp only [Bool.or_eq_true, bne_iff_ne, decide_eq_true_eq]; exact .inr (fun e2 => e (by first | exact e2 | exact e2.symm))
    rw [← he]
    rw [List.mem_iff_getElem]
    exact ⟨m - 1, by rw [List.length_take]; omega, by rw [List.getElem_take]⟩
theorem sortI_pair (zs : List Int) : (sortI zs).Pairwise (· ≤ ·) := by
 have h := List.pairwise_mergeSort (le := fun x y : Int => decide (x ≤ y)) (fun a b c h1 h2 => by simp at *; omega) (fun a b => by simp; omega) zs
 exact h.imp (fun h => by simpa using h)
theorem sortI_mem (zs : List Int) (x : Int) : x ∈ sortI zs ↔ x ∈ zs := List.mem_mergeSort
theorem compact_sort (zs : List Int) (n : Nat) (h : ∀ x, x ∈ zs → 0 ≤ x ∧ x < n) : Lib.compact (sortI zs) = ((List.range n).map fun i : Nat => (i : Int)).filter fun x => decide (x ∈ zs) := by
 obtain ⟨h1, h2⟩ := compactUp (sortI zs) (sortI_pair zs) (sortI zs).length (Nat.le_refl _)
 rw [List.take_length] at h2
 refine rise_ext _ _ h1 ?_ ?_
 ·refine List.Pairwise.filter _ ?_
  rw [List.pairwise_map]
  exact List.pairwise_lt_range.imp (fun h => by omega)
 ·intro x
  show x ∈ Lib.compactUpTo _ _ ↔ _
  rw [h2, sortI_mem, List.mem_filter, List.mem_map, decide_eq_true_eq]
  refine ⟨fun hx => ⟨⟨x.toNat, ?_, ?_⟩, hx⟩, fun hx => hx.2⟩
  ·have := h x hx; rw [List.mem_range]; omega
  ·have := h x hx; omega
end Go.Proofs.YtknaemlnhediaaaGreatDoor.c
