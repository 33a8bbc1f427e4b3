/- Heights of instructions, told plainly; slices that read as lists of numbers. No program in sight. -/
import Derived.Test.YtamgalmlhjbbdaaDoorUns
namespace Go.Proofs.YtamgalmlhjbbdaaDoor.c
open Go.RowKit
set_option linter.unusedVariables false
set_option linter.unusedSimpArgs false
theorem BadIn.inb {c : List Cd} (s : Sane c) {i : Int} (h : BadIn c (Reach c) i) : 0 ≤ i ∧ i < c.length := by
  rcases h with ⟨p, hp, rfl, _⟩ | ⟨p, q, hp, _, rfl, _⟩
  · exact ⟨(hp.inb s).1, (hp.inb s).2.1⟩
  · exact ⟨(hp.inb s).1, (hp.inb s).2.1⟩
theorem least_any {B : Int → Prop} (h : ∀ i, B i → 0 ≤ i) : ∃ w, Least B w := by
  rcases Classical.em (∃ n : Nat, B n) with he | he
  · obtain ⟨n, hn, hm⟩ := exists_least he
    refine ⟨n, fun h0 => by omega, fun _ => ⟨hn, fun i hi => ?_⟩⟩
    have h0 := h i hi
    have := hm i.toNat (by rwa [Int.toNat_of_nonneg h0])
    omega
  · refine ⟨-1, fun _ => ⟨rfl, fun i hi => he ⟨i.toNat, ?_⟩⟩, fun h0 => by omega⟩
    rwa [Int.toNat_of_nonneg (h i hi)]
theorem uns_spec {c : List Cd} (s : Sane c) : Least (BadIn c (Reach c)) (unsoundS c) := by
  obtain ⟨w, hw⟩ := least_any (B := BadIn c (Reach c)) (fun i hi => (hi.inb s).1)
  rw [unsound_eq hw]
  exact hw
theorem uns_none {c : List Cd} (s : Sane c) (h : unsoundS c < 0) (i : Int) : ¬ BadIn c (Reach c) i := ((uns_spec s).1 h).2 i
open Classical in
/-- the height before instruction i; -1 if it is not reached -/
noncomputable def tallS (c : List Cd) (i : Int) : Int := if h : ∃ h, Reach c (i, h) then Classical.choose h else -1
theorem tall_in {c : List Cd} {i h : Int} (hb : ¬ BadIn c (Reach c) i) (hr : Reach c (i, h)) : tallS c i = h := by
  unfold tallS
  rw [dif_pos ⟨h, hr⟩]
  have h2 := Classical.choose_spec (⟨h, hr⟩ : ∃ h, Reach c (i, h))
  rcases Classical.em (Classical.choose (⟨h, hr⟩ : ∃ h, Reach c (i, h)) = h) with e | e
  · exact e
  · exact absurd (.inr ⟨_, _, h2, hr, rfl, rfl, fun e2 => e (Prod.mk.inj e2).2⟩) hb
theorem tall_out {c : List Cd} {i : Int} (hr : ¬ ∃ h, Reach c (i, h)) : tallS c i = -1 := by
  unfold tallS
  rw [dif_neg hr]
theorem check_ok {l : List Fc} (h : (checkE l).2.2 = 0) : validS l = 0 ∧ ∀ k, k < l.length → unsoundS (l.getD k default).code < 0 := by
  unfold checkE at h
  by_cases hv : validS l = 0
  · rw [if_pos hv] at h
    by_cases hb : 0 ≤ badK l
    · rw [if_pos hb] at h; cases h
    · refine ⟨hv, fun k hk => ?_⟩
      rcases findI_cases (fun k => decide (0 ≤ unsoundS (l.getD k default).code)) l.length with ⟨e, hn⟩ | ⟨j, e, _, _⟩
      · have := hn k hk
        have h2 : ¬ 0 ≤ unsoundS (l.getD k default).code := of_decide_eq_false this
        omega
      · exact absurd (show 0 ≤ badK l by unfold badK; rw [e]; omega) hb
  · rw [if_neg hv] at h
    exact absurd h hv
/-- the error of asking for a function by its number -/
noncomputable def askE (l : List Fc) (k : Int) : Int := if (checkE l).2.2 = 0 then (if k < 0 ∨ (l.length : Int) ≤ k then 4 else 0) else (checkE l).2.2
noncomputable def tallL (l : List Fc) (k : Int) : List Int := if askE l k = 0 then (List.range (l.getD k.toNat default).code.length).map (fun i => tallS (l.getD k.toNat default).code (i : Nat)) else []
theorem ask_ok {l : List Fc} {k : Int} (h : askE l k = 0) : (checkE l).2.2 = 0 ∧ 0 ≤ k ∧ k < l.length := by
  unfold askE at h
  by_cases hc : (checkE l).2.2 = 0
  · rw [if_pos hc] at h
    by_cases hk : k < 0 ∨ (l.length : Int) ≤ k
    · rw [if_pos hk] at h; cases h
    · exact ⟨hc, by omega, by omega⟩
  · rw [if_neg hc] at h; exact absurd h hc
/-- which of the numbers are not negative -/
def notNeg (L : List Int) : List Int := ((List.range L.length).filter fun i => decide (0 ≤ L.getD i 0)).map fun i => ((i : Nat) : Int)
/-- .. among the first k -/
def notNegTo (L : List Int) (k : Nat) : List Int := ((List.range k).filter fun i => decide (0 ≤ L.getD i 0)).map fun i => ((i : Nat) : Int)
theorem notNegTo_succ (L : List Int) (k : Nat) : notNegTo L (k + 1) = notNegTo L k ++ (if 0 ≤ L.getD k 0 then [(k : Int)] else []) := by
  unfold notNegTo
  rw [List.range_succ, List.filter_append, List.map_append]
  congr 1
  by_cases h : 0 ≤ L.getD k 0
  · rw [if_pos h, List.filter_cons_of_pos (by simpa using h)]; rfl
  · rw [if_neg h, List.filter_cons_of_neg (by simpa using h)]; rfl
theorem notNegTo_len (L : List Int) (k : Nat) : (notNegTo L k).length ≤ k := by
  unfold notNegTo
  rw [List.length_map]
  exact Nat.le_trans (List.length_filter_le _ _) (by simp)
/-- the slice v reads as the numbers L -/
def IntsAt (w : World) (v : Value) (L : List Int) : Prop := ∃ A cap, v = .slice A L.length cap ∧ At w A L.length 1 (fun i _ => .int .i64 (L.getD i 0))
theorem IntsAt.ext {w w' : World} {v : Value} {L : List Int} (h : IntsAt w v L) (x : Ext w w') : IntsAt w' v L := by
  obtain ⟨A, cap, rfl, h⟩ := h
  exact ⟨A, cap, rfl, h.ext x⟩
theorem IntsAt.nil (w : World) : IntsAt w (.slice none 0 0) [] := ⟨none, 0, rfl, At.nil _ _ _ _⟩
theorem own_ints {w : World} {base : Nat} {t : TypeId} {v : Value} {L : List Int} (h : w.ownsRow base t 1 v L.length (L.map fun i => .int .i64 i)) : IntsAt w v L := by
  obtain ⟨A, c, rfl, hc⟩ := own_slice h
  refine ⟨A, c, rfl, fun hpos => ?_⟩
  obtain ⟨b, off, rfl, hb, hh⟩ := hc hpos
  refine ⟨b, off, rfl, hb, fun i j hi hj => ?_⟩
  obtain rfl : j = 0 := by omega
  rw [hh i 0 hi hj]
  simp [List.getD, hi]
end Go.Proofs.YtamgalmlhjbbdaaDoor.c
