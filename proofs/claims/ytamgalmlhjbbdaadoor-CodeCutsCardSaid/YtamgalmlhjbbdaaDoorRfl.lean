/- How the reference goes through code, told plainly: what keeps true, and what it comes to. No program in sight. -/
import Derived.Test.YtamgalmlhjbbdaaDoorReach
namespace Go.Proofs.YtamgalmlhjbbdaaDoor.c
set_option linter.unusedVariables false
set_option linter.unusedSimpArgs false

/-- where code goes on behind a point -/
def waysS (c : List Cd) (p : Int × Int) : List (Int × Int) :=
  (bif goesS (xAt c p) then [(p.1 + 1, behS (xAt c p) p.2)] else []) ++ (bif leadsS (xAt c p).op then [((xAt c p).a, leadH (xAt c p) p.2)] else [])
def fitB (c : List Cd) (q : Int × Int) : Bool := decide (q.1 < (c.length : Int))
/-- what the reference puts behind the queue -/
def newsS (c : List Cd) (L : List (Int × Int)) : List (Int × Int) := L.filter (fitB c)
def setO (O : Int → Bool) (a : Int) (b : Bool) : Int → Bool := fun i => if i = a then O i || b else O i
theorem setO_false (O : Int → Bool) (a : Int) : setO O a false = O := by
  funext i
  unfold setO
  split <;> simp
/-- does a way go on behind the end? -/
def outB (c : List Cd) (L : List (Int × Int)) : Bool := L.any fun q => !fitB c q
structure RfInv (c : List Cd) (S T : List (Int × Int)) (O : Int → Bool) : Prop where
  nd : S.Nodup
  allS : ∀ q ∈ S, Reach c q
  allT : ∀ q ∈ T, Reach c q
  zero : (0, 0) ∈ S ∨ (0, 0) ∈ T
  closed : ∀ q ∈ S, okH (xAt c q) q.2 = true → (leadsS (xAt c q).op = true → ((xAt c q).a, leadH (xAt c q) q.2) ∈ S ∨ ((xAt c q).a, leadH (xAt c q) q.2) ∈ T) ∧
    (goesS (xAt c q) = true → q.1 + 1 ≠ c.length → (q.1 + 1, behS (xAt c q) q.2) ∈ S ∨ (q.1 + 1, behS (xAt c q) q.2) ∈ T)
  outs : ∀ i, O i = true ↔ ∃ q ∈ S, q.1 = i ∧ okH (xAt c q) q.2 = true ∧ goesS (xAt c q) = true ∧ q.1 + 1 = c.length
  len : T.length ≤ 2 * S.length + 1
def rfMs (c : List Cd) (S T : List (Int × Int)) : Nat := 3 * (66 * c.length - S.length) + T.length
section
variable {c : List Cd} {S T : List (Int × Int)} {O : Int → Bool} {p : Int × Int}
theorem RfInv.start : RfInv c [] [(0, 0)] (fun _ => false) := by
  refine ⟨by simp, fun q h => (by cases h), ?_, .inr (List.mem_singleton.2 rfl), fun q h => (by cases h), fun i => ⟨fun h => (by cases h), fun ⟨q, h, _⟩ => (by cases h)⟩, by simp⟩
  intro q h
  rw [List.mem_singleton] at h
  subst h
  exact .start
theorem RfInv.lens (s : Sane c) (v : RfInv c S T O) : S.length ≤ 66 * c.length ∧ T.length ≤ 132 * c.length + 1 := by
  have h1 := pts_len v.nd fun p hp => (v.allS p hp).inb s
  have h2 := v.len
  omega
/-- it was there -/
theorem RfInv.skip (v : RfInv c S (p :: T) O) (h : p ∈ S) : RfInv c S T O ∧ rfMs c S T < rfMs c S (p :: T) := by
  have mv : ∀ q, (q ∈ S ∨ q ∈ p :: T) → q ∈ S ∨ q ∈ T := by
    rintro q (h1 | h1)
    · exact .inl h1
    · rcases List.mem_cons.1 h1 with rfl | h1
      · exact .inl h
      · exact .inr h1
  refine ⟨⟨v.nd, v.allS, fun q hq => v.allT q (List.mem_cons_of_mem _ hq), mv _ v.zero, fun q hq ok => ⟨fun h1 => mv _ ((v.closed q hq ok).1 h1), fun h1 h2 => mv _ ((v.closed q hq ok).2 h1 h2)⟩, v.outs, ?_⟩, ?_⟩
  · have := v.len; simp at this; omega
  · unfold rfMs; simp
theorem ways_len (c : List Cd) (p : Int × Int) : (waysS c p).length ≤ 2 := by
  unfold waysS
  cases goesS (xAt c p) <;> cases leadsS (xAt c p).op <;> simp
/-- it is not right -/
theorem RfInv.wrong (s : Sane c) (v : RfInv c S (p :: T) O) (h : p ∉ S) (ok : okH (xAt c p) p.2 = false) : RfInv c (p :: S) T O ∧ rfMs c (p :: S) T < rfMs c S (p :: T) := by
  have mv : ∀ q, (q ∈ S ∨ q ∈ p :: T) → q ∈ p :: S ∨ q ∈ T := by
    rintro q (h1 | h1)
    · exact .inl (List.mem_cons_of_mem _ h1)
    · rcases List.mem_cons.1 h1 with rfl | h1
      · exact .inl (List.mem_cons_self ..)
      · exact .inr h1
  have hp := v.allT p (List.mem_cons_self ..)
  have r : RfInv c (p :: S) T O := by
    refine ⟨List.nodup_cons.2 ⟨h, v.nd⟩, ?_, fun q hq => v.allT q (List.mem_cons_of_mem _ hq), mv _ v.zero, ?_, fun i => ?_, ?_⟩
    · intro q hq
      rcases List.mem_cons.1 hq with rfl | hq
      · exact hp
      · exact v.allS q hq
    · intro q hq ok2
      rcases List.mem_cons.1 hq with rfl | hq
      · rw [ok] at ok2; cases ok2
      · exact ⟨fun h1 => mv _ ((v.closed q hq ok2).1 h1), fun h1 h2 => mv _ ((v.closed q hq ok2).2 h1 h2)⟩
    · rw [v.outs i]
      constructor
      · rintro ⟨q, hq, e⟩
        exact ⟨q, List.mem_cons_of_mem _ hq, e⟩
      · rintro ⟨q, hq, e1, e2, e3⟩
        rcases List.mem_cons.1 hq with rfl | hq
        · rw [ok] at e2; cases e2
        · exact ⟨q, hq, e1, e2, e3⟩
    · have := v.len; simp at this ⊢; omega
  refine ⟨r, ?_⟩
  have := (r.lens s).1
  unfold rfMs
  simp at this ⊢
  omega
/-- it goes on -/
theorem RfInv.on (s : Sane c) (v : RfInv c S (p :: T) O) (h : p ∉ S) (ok : okH (xAt c p) p.2 = true) :
    RfInv c (p :: S) (T ++ newsS c (waysS c p)) (setO O p.1 (outB c (waysS c p))) ∧ rfMs c (p :: S) (T ++ newsS c (waysS c p)) < rfMs c S (p :: T) := by
  have hp := v.allT p (List.mem_cons_self ..)
  have hin := hp.inb s
  have sx := s.each _ (xAt_mem hin)
  have mv : ∀ q, (q ∈ S ∨ q ∈ p :: T) → q ∈ p :: S ∨ q ∈ T ++ newsS c (waysS c p) := by
    rintro q (h1 | h1)
    · exact .inl (List.mem_cons_of_mem _ h1)
    · rcases List.mem_cons.1 h1 with rfl | h1
      · exact .inl (List.mem_cons_self ..)
      · exact .inr (List.mem_append_left _ h1)
  have hnew : ∀ q, q ∈ newsS c (waysS c p) ↔ q ∈ waysS c p ∧ q.1 < c.length := fun q => by
    unfold newsS fitB
    rw [List.mem_filter, decide_eq_true_eq]
  have hway : ∀ q, q ∈ waysS c p ↔ (goesS (xAt c p) = true ∧ q = (p.1 + 1, behS (xAt c p) p.2)) ∨ (leadsS (xAt c p).op = true ∧ q = ((xAt c p).a, leadH (xAt c p) p.2)) := fun q => by
    unfold waysS
    cases goesS (xAt c p) <;> cases leadsS (xAt c p).op <;> simp
  have hout : outB c (waysS c p) = true ↔ goesS (xAt c p) = true ∧ p.1 + 1 = c.length := by
    unfold outB fitB
    rw [List.any_eq_true]
    constructor
    · rintro ⟨q, hq, e⟩
      have e' : ¬ q.1 < (c.length : Int) := by simpa using e
      rcases (hway q).1 hq with ⟨h1, rfl⟩ | ⟨h1, rfl⟩
      · exact ⟨h1, by have := hin.2.1; simp only [] at e'; omega⟩
      · exact absurd (sx.2.2 h1).2 e'
    · rintro ⟨h1, h2⟩
      exact ⟨_, (hway _).2 (.inl ⟨h1, rfl⟩), by simp; omega⟩
  have r : RfInv c (p :: S) (T ++ newsS c (waysS c p)) (setO O p.1 (outB c (waysS c p))) := by
    refine ⟨List.nodup_cons.2 ⟨h, v.nd⟩, ?_, ?_, mv _ v.zero, ?_, fun i => ?_, ?_⟩
    · intro q hq
      rcases List.mem_cons.1 hq with rfl | hq
      · exact hp
      · exact v.allS q hq
    · intro q hq
      rcases List.mem_append.1 hq with hq | hq
      · exact v.allT q (List.mem_cons_of_mem _ hq)
      · obtain ⟨h1, h2⟩ := (hnew q).1 hq
        rcases (hway q).1 h1 with ⟨h3, rfl⟩ | ⟨h3, rfl⟩
        · exact hp.next ok h3 (by simp only [] at h2; omega)
        · exact hp.lead ok h3
    · intro q hq ok2
      rcases List.mem_cons.1 hq with rfl | hq
      · refine ⟨fun h1 => .inr (List.mem_append_right _ ((hnew _).2 ⟨(hway _).2 (.inr ⟨h1, rfl⟩), (sx.2.2 h1).2⟩)), fun h1 h2 => .inr (List.mem_append_right _ ((hnew _).2 ⟨(hway _).2 (.inl ⟨h1, rfl⟩), ?_⟩))⟩
        have := hin.2.1
        show q.1 + 1 < _
        omega
      · exact ⟨fun h1 => mv _ ((v.closed q hq ok2).1 h1), fun h1 h2 => mv _ ((v.closed q hq ok2).2 h1 h2)⟩
    · have e : setO O p.1 (outB c (waysS c p)) i = true ↔ O i = true ∨ (i = p.1 ∧ outB c (waysS c p) = true) := by
        unfold setO
        by_cases hi : i = p.1
        · rw [if_pos hi, Bool.or_eq_true]
          constructor
          · rintro (h1 | h1)
            · exact .inl h1
            · exact .inr ⟨hi, h1⟩
          · rintro (h1 | ⟨_, h1⟩)
            · exact .inl h1
            · exact .inr h1
        · rw [if_neg hi]
          constructor
          · exact .inl
          · rintro (h1 | ⟨h1, _⟩)
            · exact h1
            · exact absurd h1 hi
      rw [e, v.outs i, hout]
      constructor
      · rintro (⟨q, hq, e⟩ | ⟨rfl, h1, h2⟩)
        · exact ⟨q, List.mem_cons_of_mem _ hq, e⟩
        · exact ⟨p, List.mem_cons_self .., rfl, ok, h1, h2⟩
      · rintro ⟨q, hq, e1, e2, e3, e4⟩
        rcases List.mem_cons.1 hq with rfl | hq
        · exact .inr ⟨e1.symm, e3, e4⟩
        · exact .inl ⟨q, hq, e1, e2, e3, e4⟩
    · have h1 := v.len
      have h2 : (newsS c (waysS c p)).length ≤ 2 := Nat.le_trans (List.length_filter_le _ _) (ways_len c p)
      rw [List.length_append]
      simp at h1 ⊢
      omega
  refine ⟨r, ?_⟩
  have h1 := (r.lens s).1
  have h2 : (newsS c (waysS c p)).length ≤ 2 := Nat.le_trans (List.length_filter_le _ _) (ways_len c p)
  unfold rfMs
  rw [List.length_append]
  simp at h1 ⊢
  omega
/-- all points are reached -/
theorem RfInv.end_ (v : RfInv c S [] O) : (∀ q, q ∈ S ↔ Reach c q) ∧ ∀ i, BadIn c (Reach c) i ↔ ((∃ h, (i, h) ∈ S ∧ okH (xAt c (i, h)) h = false) ∨ (∃ h k, h ≠ k ∧ (i, h) ∈ S ∧ (i, k) ∈ S) ∨ O i = true) := by
  have ha : ∀ q, q ∈ S ↔ Reach c q := by
    intro q
    constructor
    · exact v.allS q
    · intro h
      induction h with
      | start => exact v.zero.elim id (fun h => by cases h)
      | lead _ ok ld ih => exact ((v.closed _ ih ok).1 ld).elim id (fun h => by cases h)
      | next _ ok go ne ih => exact ((v.closed _ ih ok).2 go ne).elim id (fun h => by cases h)
  refine ⟨ha, fun i => ?_⟩
  rw [v.outs i]
  unfold BadIn bad1
  constructor
  · rintro (⟨⟨a, h⟩, hp, rfl, hb | ⟨h1, h2⟩⟩ | ⟨⟨a, h⟩, ⟨b, k⟩, hp, hq, rfl, e, hne⟩)
    · exact .inl ⟨h, (ha _).2 hp, hb⟩
    · cases ok : okH (xAt c (a, h)) h
      · exact .inl ⟨h, (ha _).2 hp, ok⟩
      · exact .inr (.inr ⟨(a, h), (ha _).2 hp, rfl, ok, h1, h2⟩)
    · obtain rfl : b = a := e
      exact .inr (.inl ⟨h, k, fun e => hne (by rw [e]), (ha _).2 hp, (ha _).2 hq⟩)
  · rintro (⟨h, hp, hb⟩ | ⟨h, k, hne, hp, hq⟩ | ⟨q, hq, rfl, h1, h2, h3⟩)
    · exact .inl ⟨(i, h), (ha _).1 hp, rfl, .inl hb⟩
    · exact .inr ⟨(i, h), (i, k), (ha _).1 hp, (ha _).1 hq, rfl, rfl, fun e => hne (Prod.mk.inj e).2⟩
    · exact .inl ⟨q, (ha _).1 hq, rfl, .inr ⟨h2, h3⟩⟩
end
end Go.Proofs.YtamgalmlhjbbdaaDoor.c
