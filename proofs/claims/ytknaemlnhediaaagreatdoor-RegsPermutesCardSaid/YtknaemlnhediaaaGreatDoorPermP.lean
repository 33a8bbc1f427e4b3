/- Register code in which the registers of a function have other numbers: which lists of numbers are right, that the code is right, and that its runs are the same. No condition. What a step does, apart from the registers that it reads and writes; where a run stays. No condition. -/
import Derived.Test.YtknaemlnhediaaaGreatDoorPure
import Derived.Test.YtknaemlnhediaaaGreatDoorHm
import Derived.Test.YtknaemlnhediaaaGreatDoorUses
namespace Go.Proofs.YtknaemlnhediaaaGreatDoor.c
open Go.RowKit
set_option linter.unusedVariables false
set_option linter.unusedSimpArgs false
inductive Ef where
 | done (e : En)
 | wr (v : Val)
 | mem (S : Nat → Val)
 | jump (t : Bool)
 | call
def efF (ck : Bool) (x : Rg) (a b : Val) (S : Nat → Val) : Ef :=
 if x.op = 0 then .wr (nv (wrapT x.ty x.a))
 else if x.op = 1 then .wr (pv 0 true ⟨#[]⟩)
 else if x.op = 2 then .wr a
 else if x.op = 3 then .wr (S x.a.toNat)
 else if x.op = 4 then .mem (upd S x.a.toNat b)
 else if x.op = 10 then .jump a.null
 else if x.op = 11 then .jump (!emp a.err)
 else if x.op = 12 then .jump true
 else if x.op = 13 then .jump (a.n == 0)
 else if x.op = 14 then .call
 else if x.op = 15 then .done (.ret a)
 else if x.op = 16 then .wr (pv 0 false x.name)
 else if x.op = 17 then .done (bif ck then .stop x.a else .ret default)
 else bif (numF ck x a b).2 != 0 then .done (.stop (numF ck x a b).2) else .wr (nv (numF ck x a b).1)
def Ef.app (x : Rg) (p : Nat) (R S : Nat → Val) : Ef → Nx
 | .done e => .done e
 | .wr v => .go (p + 1) (upd R x.d.toNat v) S
 | .mem S' => .go (p + 1) R S'
 | .jump t => .go (bif t then x.d.toNat else p + 1) R S
 | .call => .call x.name (x.args.map fun i => S i.toNat) x.d.toNat
theorem stepF_ef (ck : Bool) (x : Rg) (p : Nat) (R S : Nat → Val) : stepF ck x p R S = (efF ck x (R x.a.toNat) (R x.b.toNat) S).app x p R S := by
 unfold stepF efF
 by_cases h : x.op = 0
 ·rw [if_pos h, if_pos h]; rfl
 rw [if_neg h, if_neg h]; clear h
 by_cases h : x.op = 1
 ·rw [if_pos h, if_pos h]; rfl
 rw [if_neg h, if_neg h]; clear h
 by_cases h : x.op = 2
 ·rw [if_pos h, if_pos h]; rfl
 rw [if_neg h, if_neg h]; clear h
 by_cases h : x.op = 3
 ·rw [if_pos h, if_pos h]; rfl
 rw [if_neg h, if_neg h]; clear h
 by_cases h : x.op = 4
 ·rw [if_pos h, if_pos h]; rfl
 rw [if_neg h, if_neg h]; clear h
 by_cases h : x.op = 10
 ·rw [if_pos h, if_pos h]; rfl
 rw [if_neg h, if_neg h]; clear h
 by_cases h : x.op = 11
 ·rw [if_pos h, if_pos h]; rfl
 rw [if_neg h, if_neg h]; clear h
 by_cases h : x.op = 12
 ·rw [if_pos h, if_pos h]; rfl
 rw [if_neg h, if_neg h]; clear h
 by_cases h : x.op = 13
 ·rw [if_pos h, if_pos h]; rfl
 rw [if_neg h, if_neg h]; clear h
 by_cases h : x.op = 14
 ·rw [if_pos h, if_pos h]; rfl
 rw [if_neg h, if_neg h]; clear h
 by_cases h : x.op = 15
 ·rw [if_pos h, if_pos h]; rfl
 rw [if_neg h, if_neg h]; clear h
 by_cases h : x.op = 16
 ·rw [if_pos h, if_pos h]; rfl
 rw [if_neg h, if_neg h]; clear h
 by_cases h : x.op = 17
 ·rw [if_pos h, if_pos h]; rfl
 rw [if_neg h, if_neg h]; clear h
 cases ((numF ck x (R x.a.toNat) (R x.b.toNat)).2 != 0) <;> rfl
theorem numF_one {ck : Bool} {x : Rg} (h : 5 ≤ x.op ∧ x.op ≤ 9) (v u u' : Val) : numF ck x v u = numF ck x v u' := by
 unfold numF
 by_cases h6 : x.op = 6
 ·rw [if_pos h6, if_pos h6]
 rw [if_neg h6, if_neg h6]
 by_cases h9 : x.op = 9
 ·rw [if_pos h9, if_pos h9]
 rw [if_neg h9, if_neg h9]
 by_cases h5 : x.op = 5
 ·rw [if_pos h5, if_pos h5]
 rw [if_neg h5, if_neg h5]
 by_cases h7 : x.op = 7
 ·rw [if_pos h7, if_pos h7]
 rw [if_neg h7, if_neg h7, if_pos (by omega), if_pos (by omega)]
theorem parts_num {op : Int} (h : 5 ≤ op ∧ op ≤ 9) : partsR op = (1, 1, 0) := by
 have : op = 5 ∨ op = 6 ∨ op = 7 ∨ op = 8 ∨ op = 9 := by omega
 rcases this with rfl | rfl | rfl | rfl | rfl <;> rfl
theorem efF_like {ck : Bool} {x y : Rg} {a b a' b' : Val} {S : Nat → Val} (hop : (0 ≤ x.op ∧ x.op ≤ 17) ∨ (105 ≤ x.op ∧ x.op ≤ 123)) (h1 : y.op = x.op) (h2 : y.ty = x.ty) (h3 : y.name = x.name)
  (ha : (partsR x.op).2.1 ≠ 1 → y.a = x.a) (va : (partsR x.op).2.1 = 1 → a' = a) (vb : (partsR x.op).2.2 = 1 → b' = b) :
  efF ck y a' b' S = efF ck x a b S := by
 have hn : numF ck y a' b' = numF ck x a' b' := by unfold numF; rw [h1, h2]
 unfold efF
 rw [hn, h1, h2, h3]
 by_cases h : x.op = 0
 ·rw [if_pos h, if_pos h, ha (by rw [h]; decide)]
 rw [if_neg h, if_neg h]
 by_cases h : x.op = 1
 ·rw [if_pos h, if_pos h]
 rw [if_neg h, if_neg h]
 by_cases h : x.op = 2
 ·rw [if_pos h, if_pos h, va (by rw [h]; rfl)]
 rw [if_neg h, if_neg h]
 by_cases h : x.op = 3
 ·rw [if_pos h, if_pos h, ha (by rw [h]; decide)]
 rw [if_neg h, if_neg h]
 by_cases h : x.op = 4
 ·rw [if_pos h, if_pos h, ha (by rw [h]; decide), vb (by rw [h]; rfl)]
 rw [if_neg h, if_neg h]
 by_cases h : x.op = 10
 ·rw [if_pos h, if_pos h, va (by rw [h]; rfl)]
 rw [if_neg h, if_neg h]
 by_cases h : x.op = 11
 ·rw [if_pos h, if_pos h, va (by rw [h]; rfl)]
 rw [if_neg h, if_neg h]
 by_cases h : x.op = 12
 ·rw [if_pos h, if_pos h]
 rw [if_neg h, if_neg h]
 by_cases h : x.op = 13
 ·rw [if_pos h, if_pos h, va (by rw [h]; rfl)]
 rw [if_neg h, if_neg h]
 by_cases h : x.op = 14
 ·rw [if_pos h, if_pos h]
 rw [if_neg h, if_neg h]
 by_cases h : x.op = 15
 ·rw [if_pos h, if_pos h, va (by rw [h]; rfl)]
 rw [if_neg h, if_neg h]
 by_cases h : x.op = 16
 ·rw [if_pos h, if_pos h]
 rw [if_neg h, if_neg h]
 by_cases h : x.op = 17
 ·rw [if_pos h, if_pos h, ha (by rw [h]; decide)]
 rw [if_neg h, if_neg h]
 rcases Classical.em (5 ≤ x.op ∧ x.op ≤ 9) with h5 | h5
 ·rw [va (by rw [parts_num h5]), numF_one h5 a b' b]
 ·rw [va (by rw [partsR_op (by omega)]), vb (by rw [partsR_op (by omega)])]
theorem efF_kind {ck : Bool} {x : Rg} {a b : Val} {S : Nat → Val} (hop : (0 ≤ x.op ∧ x.op ≤ 17) ∨ (105 ≤ x.op ∧ x.op ≤ 123)) :
  match efF ck x a b S with
  | .done _ => True
  | .wr _ => (partsR x.op).1 = 1 ∧ goesR x.op = true ∧ x.op ≠ 14
  | .mem _ => (partsR x.op).1 = 0 ∧ goesR x.op = true
  | .jump t => (partsR x.op).1 = 3 ∧ (t = false → goesR x.op = true)
  | .call => x.op = 14 := by
 unfold efF
 by_cases h : x.op = 0
 ·rw [if_pos h, h]; exact ⟨rfl, rfl, by decide⟩
 rw [if_neg h]
 by_cases h : x.op = 1
 ·rw [if_pos h, h]; exact ⟨rfl, rfl, by decide⟩
 rw [if_neg h]
 by_cases h : x.op = 2
 ·rw [if_pos h, h]; exact ⟨rfl, rfl, by decide⟩
 rw [if_neg h]
 by_cases h : x.op = 3
 ·rw [if_pos h, h]; exact ⟨rfl, rfl, by decide⟩
 rw [if_neg h]
 by_cases h : x.op = 4
 ·rw [if_pos h, h]; exact ⟨rfl, rfl⟩
 rw [if_neg h]
 by_cases h : x.op = 10
 ·rw [if_pos h, h]; exact ⟨rfl, fun _ => rfl⟩
 rw [if_neg h]
 by_cases h : x.op = 11
 ·rw [if_pos h, h]; exact ⟨rfl, fun _ => rfl⟩
 rw [if_neg h]
 by_cases h : x.op = 12
 ·rw [if_pos h, h]; exact ⟨rfl, fun h => by cases h⟩
 rw [if_neg h]
 by_cases h : x.op = 13
 ·rw [if_pos h, h]; exact ⟨rfl, fun _ => rfl⟩
 rw [if_neg h]
 by_cases h14 : x.op = 14
 ·rw [if_pos h14]; exact h14
 rw [if_neg h14]
 by_cases h15 : x.op = 15
 ·rw [if_pos h15]; trivial
 rw [if_neg h15]
 by_cases h : x.op = 16
 ·rw [if_pos h, h]; exact ⟨rfl, rfl, by decide⟩
 rw [if_neg h]
 by_cases h17 : x.op = 17
 ·rw [if_pos h17]; trivial
 rw [if_neg h17]
 cases hb : ((numF ck x a b).2 != 0)
 ·refine ⟨?_, ?_, h14⟩
  ·rcases Classical.em (5 ≤ x.op ∧ x.op ≤ 9) with h5 | h5
   ·rw [parts_num h5]
   ·rw [partsR_op (by omega)]
  ·unfold goesR
   simp
   omega
 ·trivial
theorem GoodF.ef_next {l : List Rf} {f : Rf} (g : GoodF l f) {p : Nat} (hp : p < f.code.length) {ck : Bool} {R S : Nat → Val} {q : Nat} {R' S' : Nat → Val} (h : stepF ck (f.code.getD p default) p R S = .go q R' S') : q < f.code.length := by
 have gx := g.at_ (getD_mem hp)
 rw [stepF_ef] at h
 have hk := efF_kind (ck := ck) (a := R (f.code.getD p default).a.toNat) (b := R (f.code.getD p default).b.toNat) (S := S) gx.op
 cases he : efF ck (f.code.getD p default) (R (f.code.getD p default).a.toNat) (R (f.code.getD p default).b.toNat) S with
 | done e => rw [he] at h; cases h
 | wr v => rw [he] at h hk; cases h; exact g.next hp hk.2.1
 | mem S1 => rw [he] at h hk; cases h; exact g.next hp hk.2
 | jump q1 =>
  rw [he] at h hk
  cases h
  cases q1
  ·exact g.next hp (hk.2 rfl)
  ·have h1 := gx.d
   rw [hk.1] at h1
   have := isPartB_place h1
   show (f.code.getD p default).d.toNat < _
   omega
 | call => rw [he] at h; cases h
theorem GoodF.ef_call {l : List Rf} {f : Rf} (g : GoodF l f) {p : Nat} (hp : p < f.code.length) {ck : Bool} {R S : Nat → Val} {nm : ByteArray} {av : List Val} {r : Nat} (h : stepF ck (f.code.getD p default) p R S = .call nm av r) :
  p + 1 < f.code.length ∧ (indexR l nm).toNat < l.length ∧ (f.code.getD p default).op = 14 ∧ nm = (f.code.getD p default).name ∧ av = (f.code.getD p default).args.map (fun i => S i.toNat) ∧ r = (f.code.getD p default).d.toNat := by
 have gx := g.at_ (getD_mem hp)
 rw [stepF_ef] at h
 have hk := efF_kind (ck := ck) (a := R (f.code.getD p default).a.toNat) (b := R (f.code.getD p default).b.toNat) (S := S) gx.op
 cases he : efF ck (f.code.getD p default) (R (f.code.getD p default).a.toNat) (R (f.code.getD p default).b.toNat) S with
 | done e => rw [he] at h; cases h
 | wr v => rw [he] at h; cases h
 | mem S1 => rw [he] at h; cases h
 | jump q1 => rw [he] at h; cases h
 | call =>
  rw [he] at h hk
  cases h
  obtain ⟨j, hj, hl, _⟩ := gx.call hk
  exact ⟨g.next hp (by rw [hk]; rfl), by rw [hj]; simpa using hl, hk, rfl, rfl, rfl⟩
def cntP (tq : List Int) (n : Nat) : Nat := ((List.range n).map fun r : Nat => tq.count (r : Int)).sum
theorem cntP_succ (tq : List Int) (n : Nat) : cntP tq (n + 1) = cntP tq n + tq.count (n : Int) := by
 unfold cntP
 rw [List.range_succ, List.map_append, List.sum_append]
 simp
def offB (n : Nat) (y : Int) : Bool := !(decide (0 ≤ y) && decide (y < (n : Int)))
theorem cntP_cons (y : Int) (t : List Int) (n : Nat) : cntP (y :: t) n = cntP t n + if offB n y = true then 0 else 1 := by
 induction n with
 | zero =>
  have : offB 0 y = true := by unfold offB; simp; omega
  rw [if_pos this]
  rfl
 | succ n ih =>
  rw [cntP_succ, cntP_succ, ih, List.count_cons]
  by_cases h : y = (n : Int)
  ·subst h
   have h1 : offB n (n : Int) = true := by unfold offB; simp
   have h2 : ¬ offB (n + 1) (n : Int) = true := by unfold offB; simp; omega
   rw [if_pos h1, if_neg h2]
   simp
   omega
  ·have h1 : ¬ (y == (n : Int)) = true := by simpa using h
   have h2 : offB (n + 1) y = offB n y := by
    unfold offB
    rw [Bool.eq_iff_iff]
    simp
    omega
   rw [h2, if_neg h1]
   omega
theorem cntP_all (tq : List Int) (n : Nat) : cntP tq n + tq.countP (offB n) = tq.length := by
 induction tq with
 | nil =>
  have : cntP [] n = 0 := by
   induction n with
   | zero => rfl
   | succ n ih => rw [cntP_succ, ih]; rfl
  rw [this]
  rfl
 | cons y t ih =>
  rw [cntP_cons, List.countP_cons, List.length_cons]
  cases offB n y <;> simp <;> omega
theorem sum_ones (f : Nat → Nat) : ∀ n, (∀ r, r < n → 1 ≤ f r) → n ≤ ((List.range n).map f).sum ∧ ∀ r, r < n → n + f r ≤ ((List.range n).map f).sum + 1
 | 0, _ => ⟨Nat.zero_le _, fun r hr => by omega⟩
 | n + 1, h => by
  obtain ⟨h1, h2⟩ := sum_ones f n fun r hr => h r (by omega)
  have h3 := h n (by omega)
  rw [List.range_succ, List.map_append, List.sum_append, List.map_cons, List.map_nil, List.sum_cons, List.sum_nil]
  refine ⟨by omega, fun r hr => ?_⟩
  rcases Nat.lt_or_ge r n with h4 | h4
  ·have := h2 r h4; omega
  ·obtain rfl : r = n := by omega
   omega
def permB (tq : List Int) (n : Int) : Bool := decide ((tq.length : Int) = n) && (List.range tq.length).all fun r : Nat => decide ((r : Int) ∈ tq)
theorem permB_iff {tq : List Int} {n : Int} : permB tq n = true ↔ (tq.length : Int) = n ∧ ∀ r : Nat, r < tq.length → (r : Int) ∈ tq := by
 unfold permB
 simp
theorem perm_once {tq : List Int} {n : Int} (h : permB tq n = true) : (∀ r : Nat, r < tq.length → tq.count (r : Int) = 1) ∧ (∀ y, y ∈ tq → 0 ≤ y ∧ y < n) ∧ tq.Nodup := by
 obtain ⟨hn, hm⟩ := permB_iff.1 h
 have h1 : ∀ r : Nat, r < tq.length → 1 ≤ tq.count (r : Int) := fun r hr => List.count_pos_iff.2 (hm r hr)
 obtain ⟨h2, h3⟩ := sum_ones (fun r : Nat => tq.count (r : Int)) tq.length h1
 have h4 := cntP_all tq tq.length
 have e : ((List.range tq.length).map fun r : Nat => tq.count (r : Int)).sum = cntP tq tq.length := rfl
 rw [e] at h2 h3
 have h5 : tq.countP (offB tq.length) = 0 := by omega
 have h6 : ∀ y, y ∈ tq → 0 ≤ y ∧ y < n := by
  intro y hy
  have := List.countP_eq_zero.1 h5 y hy
  unfold offB at this
  simp at this
  omega
 have h7 : ∀ r : Nat, r < tq.length → tq.count (r : Int) = 1 := fun r hr => by
  have := h1 r hr
  have := h3 r hr
  omega
 refine ⟨h7, h6, List.nodup_iff_count.2 fun a => ?_⟩
 by_cases ha : a ∈ tq
 ·have := h6 a ha
  have h8 := h7 a.toNat (by omega)
  rw [show ((a.toNat : Nat) : Int) = a by omega] at h8
  omega
 ·rw [List.count_eq_zero.2 ha]
  omega
def mv (tq : List Int) (r : Int) : Int := tq.getD r.toNat 0
theorem mv_in {tq : List Int} {n r : Int} (h : permB tq n = true) (hr : 0 ≤ r ∧ r < n) : 0 ≤ mv tq r ∧ mv tq r < n := by
 have hn := (permB_iff.1 h).1
 have hl : r.toNat < tq.length := by omega
 refine (perm_once h).2.1 _ ?_
 unfold mv
 rw [List.getD, List.getElem?_eq_getElem hl]
 exact List.getElem_mem hl
theorem mv_inj {tq : List Int} {n r s : Int} (h : permB tq n = true) (hr : 0 ≤ r ∧ r < n) (hs : 0 ≤ s ∧ s < n) (e : mv tq r = mv tq s) : r = s := by
 have hn := (permB_iff.1 h).1
 have h1 : r.toNat < tq.length := by omega
 have h2 : s.toNat < tq.length := by omega
 have hd := (perm_once h).2.2
 unfold mv at e
 rw [List.getD, List.getD, List.getElem?_eq_getElem h1, List.getElem?_eq_getElem h2, Option.getD_some, Option.getD_some] at e
 have hp := List.pairwise_iff_getElem.1 hd
 rcases Nat.lt_trichotomy r.toNat s.toNat with h3 | h3 | h3
 ·exact absurd e (hp _ _ h1 h2 h3)
 ·omega
 ·exact absurd e.symm (hp _ _ h2 h1 h3)
def permX (tq : List Int) (x : Rg) : Rg := { x with d := if (partsR x.op).1 = 1 then mv tq x.d else x.d, a := if (partsR x.op).2.1 = 1 then mv tq x.a else x.a, b := if (partsR x.op).2.2 = 1 then mv tq x.b else x.b }
def permF (tq : List Int) (f : Rf) : Rf := { f with code := f.code.map (permX tq) }
def permL (l : List Rf) (k : Nat) (tq : List Int) : List Rf := l.set k (permF tq (l.getD k default))
theorem permL_at (l : List Rf) (k j : Nat) (tq : List Int) (hk : k < l.length) : (permL l k tq).getD j default = if j = k then permF tq (l.getD k default) else l.getD j default := by
 unfold permL
 simp only [List.getD, List.getElem?_set]
 by_cases e : k = j
 ·subst e
  rw [if_pos rfl, if_pos hk, if_pos rfl]
  rfl
 ·rw [if_neg e, if_neg (fun h => e h.symm)]
theorem permL_len (l : List Rf) (k : Nat) (tq : List Int) : (permL l k tq).length = l.length := by unfold permL; simp
theorem permL_keep (l : List Rf) (k j : Nat) (tq : List Int) (hk : k < l.length) : ((permL l k tq).getD j default).name = (l.getD j default).name ∧ ((permL l k tq).getD j default).params = (l.getD j default).params ∧ ((permL l k tq).getD j default).regs = (l.getD j default).regs ∧ ((permL l k tq).getD j default).ty = (l.getD j default).ty ∧ ((permL l k tq).getD j default).code.length = (l.getD j default).code.length := by
 rw [permL_at l k j tq hk]
 by_cases e : j = k
 ·subst e
  rw [if_pos rfl]
  exact ⟨rfl, rfl, rfl, rfl, by simp [permF]⟩
 ·rw [if_neg e]
  exact ⟨rfl, rfl, rfl, rfl, rfl⟩
theorem permL_index (l : List Rf) (k : Nat) (tq : List Int) (hk : k < l.length) (nm : ByteArray) : indexR (permL l k tq) nm = indexR l nm := by
 unfold indexR
 rw [permL_len]
 congr 1
 funext j
 rw [(permL_keep l k j tq hk).1]
theorem permL_call (l : List Rf) (k : Nat) (tq : List Int) (hk : k < l.length) (nm : ByteArray) (n : Int) : callB (permL l k tq) nm n = callB l nm n := by
 unfold callB
 rw [permL_index l k tq hk, (permL_keep l k _ tq hk).2.1]
theorem countR_at (l m : List Rf) (hl : l.length = m.length) (h : ∀ j, (l.getD j default).code.length = (m.getD j default).code.length) : countR l = countR m := by
 induction l generalizing m with
 | nil =>
  have : m = [] := List.length_eq_zero_iff.1 hl.symm
  rw [this]
 | cons f t ih =>
  cases m with
  | nil => cases hl
  | cons g u =>
   have h0 := h 0
   have h1 := ih u (by simpa using hl) fun j => h (j + 1)
   unfold countR at h1 ⊢
   simp only [List.map_cons, List.sum_cons]
   rw [h1]
   simp only [List.getD_cons_zero] at h0
   omega
theorem isPartB_mv {tq : List Int} {n code : Int} (h : permB tq n = true) (k d : Int) (hd : isPartB k d n code = true) : isPartB k (if k = 1 then mv tq d else d) n code = true := by
 by_cases e : k = 1
 ·subst e
  rw [if_pos rfl]
  have h1 := mv_in h (isPartB_reg hd)
  show inB (mv tq d) 0 (n - 1) = true
  rw [inB_iff]
  omega
 ·rw [if_neg e]
  exact hd
theorem instR_perm {pb : Bool} {n code : Int} {tq : List Int} (h : permB tq n = true) {x : Rg} (hx : instR pb n code x = true) : instR pb n code (permX tq x) = true := by
 unfold instR at hx ⊢
 simp only [Bool.and_eq_true] at hx ⊢
 obtain ⟨h1, h2, h3, h4, h5, h6⟩ := hx
 refine ⟨h1, isPartB_mv h _ _ h2, isPartB_mv h _ _ h3, isPartB_mv h _ _ h4, h5, ?_⟩
 rw [← h6]
 have ha : x.op = 0 ∨ x.op = 17 → (permX tq x).a = x.a := by
  intro hh
  show (if (partsR x.op).2.1 = 1 then mv tq x.a else x.a) = x.a
  rw [if_neg]
  rcases hh with h | h <;> rw [h] <;> decide
 unfold restR
 show (if x.op = 0 then _ else if x.op = 17 then _ else _) = _
 by_cases e0 : x.op = 0
 ·rw [if_pos e0, if_pos e0, ha (.inl e0)]
  rfl
 ·rw [if_neg e0, if_neg e0]
  by_cases e1 : x.op = 17
  ·rw [if_pos e1, if_pos e1, ha (.inr e1)]
   rfl
  ·rw [if_neg e1, if_neg e1]
   rfl
theorem permF_get (tq : List Int) (f : Rf) {p : Nat} (hp : p < f.code.length) : (permF tq f).code.getD p default = permX tq (f.code.getD p default) := by
 show (f.code.map (permX tq)).getD p default = _
 simp [List.getD, hp]
theorem fcR_perm {l : List Rf} {k : Nat} {tq : List Int} (hk : k < l.length) (ok : permB tq (l.getD k default).regs = true) {j : Nat} (h : fcR l (l.getD j default) = true) : fcR (permL l k tq) ((permL l k tq).getD j default) = true := by
 unfold fcR at h ⊢
 obtain ⟨k1, k2, k3, k4, k5⟩ := permL_keep l k j tq hk
 rw [k1, k2, k3, k4, k5]
 simp only [Bool.and_eq_true] at h ⊢
 obtain ⟨a1, a2, a3, a4, a5, a6, a7⟩ := h
 refine ⟨a1, a2, a3, a4, a5, ?_, ?_⟩
 ·rw [List.all_eq_true] at a6 ⊢
  intro x hx
  rw [permL_call l k tq hk]
  rw [permL_at l k j tq hk] at hx
  by_cases e : j = k
  ·subst e
   rw [if_pos rfl] at hx
   obtain ⟨y, hy, rfl⟩ := List.mem_map.1 hx
   exact instR_perm ok (a6 y hy)
  ·rw [if_neg e] at hx
   exact a6 x hx
 ·rw [permL_at l k j tq hk]
  by_cases e : j = k
  ·subst e
   rw [if_pos rfl, permF_get tq _ (by have := of_decide_eq_true a5; omega)]
   exact a7
  ·rw [if_neg e]
   exact a7
theorem valid_perm {l : List Rf} {k : Nat} {tq : List Int} (hk : k < l.length) (ok : permB tq (l.getD k default).regs = true) (h : validR l = 0) : validR (permL l k tq) = 0 := by
 obtain ⟨h1, h2, _⟩ := validR_parts h
 have hc : countR (permL l k tq) = countR l := countR_at _ _ (permL_len l k tq) fun j => (permL_keep l k j tq hk).2.2.2.2
 unfold validR at h ⊢
 rw [permL_len, hc, if_neg (show ¬ (48 < l.length ∨ 6000 < countR l) by omega)]
 rw [if_neg (show ¬ (48 < l.length ∨ 6000 < countR l) by omega)] at h
 rw [if_pos]
 intro j hj
 split at h
 ·rename_i hh
  obtain ⟨g1, g2⟩ := hh j hj
  exact ⟨fcR_perm hk ok g1, by rw [permL_index l k tq hk, (permL_keep l k j tq hk).1]; exact g2⟩
 ·cases h
def RelP (n : Int) (tq : List Int) (R R' : Nat → Val) : Prop := ∀ r : Int, 0 ≤ r → r < n → R' (mv tq r).toNat = R r.toNat
theorem RelP.upd {n : Int} {tq : List Int} {R R' : Nat → Val} (ok : permB tq n = true) (h : RelP n tq R R') {d : Int} (hd : 0 ≤ d ∧ d < n) (v : Val) : RelP n tq (upd R d.toNat v) (upd R' (mv tq d).toNat v) := by
 intro r h0 h1
 unfold c.upd
 by_cases e : r = d
 ·subst e
  rw [if_pos rfl, if_pos rfl]
 ·rw [if_neg, if_neg]
  ·exact h r h0 h1
  ·omega
  ·intro h2
   have := mv_in ok ⟨h0, h1⟩
   have := mv_in ok hd
   exact e (mv_inj ok ⟨h0, h1⟩ hd (by omega))
theorem step_perm {l : List Rf} {f : Rf} {tq : List Int} {x : Rg} {ck : Bool} {p : Nat} {R R' S : Nat → Val} (gx : GoodX l f x) (ok : permB tq f.regs = true) (h : RelP f.regs tq R R') :
  match stepF ck x p R S with
  | .done e => stepF ck (permX tq x) p R' S = .done e
  | .go q R1 S1 => ∃ R1', stepF ck (permX tq x) p R' S = .go q R1' S1 ∧ RelP f.regs tq R1 R1'
  | .call nm av r => ∃ r', stepF ck (permX tq x) p R' S = .call nm av r' ∧ ∀ v, RelP f.regs tq (upd R r v) (upd R' r' v) := by
 have he : efF ck (permX tq x) (R' (permX tq x).a.toNat) (R' (permX tq x).b.toNat) S = efF ck x (R x.a.toNat) (R x.b.toNat) S := by
  refine efF_like gx.op rfl rfl rfl ?_ ?_ ?_
  ·intro h1
   show (if _ then _ else _) = _
   rw [if_neg h1]
  ·intro h1
   have h2 := gx.a
   rw [h1] at h2
   have h3 := isPartB_reg h2
   show R' (if (partsR x.op).2.1 = 1 then mv tq x.a else x.a).toNat = _
   rw [if_pos h1]
   exact h _ h3.1 h3.2
  ·intro h1
   have h2 := gx.b
   rw [h1] at h2
   have h3 := isPartB_reg h2
   show R' (if (partsR x.op).2.2 = 1 then mv tq x.b else x.b).toNat = _
   rw [if_pos h1]
   exact h _ h3.1 h3.2
 have hk := efF_kind (ck := ck) (a := R x.a.toNat) (b := R x.b.toNat) (S := S) gx.op
 rw [stepF_ef, stepF_ef, he]
 have hreg : (partsR x.op).1 = 1 → (permX tq x).d = mv tq x.d ∧ 0 ≤ x.d ∧ x.d < f.regs := by
  intro h1
  have h2 := gx.d
  rw [h1] at h2
  refine ⟨?_, isPartB_reg h2⟩
  show (if _ then _ else _) = _
  rw [if_pos h1]
 cases hE : efF ck x (R x.a.toNat) (R x.b.toNat) S with
 | done e => rfl
 | wr v =>
  rw [hE] at hk
  obtain ⟨h1, h2⟩ := hreg hk.1
  exact ⟨_, rfl, by rw [h1]; exact h.upd ok h2 v⟩
 | mem S1 => exact ⟨_, rfl, h⟩
 | jump t =>
  rw [hE] at hk
  have h1 : (permX tq x).d = x.d := by
   show (if _ then _ else _) = _
   rw [if_neg (by rw [hk.1]; decide)]
  exact ⟨_, by show Nx.go (bif t then (permX tq x).d.toNat else p + 1) R' S = _; rw [h1], h⟩
 | call =>
  rw [hE] at hk
  obtain ⟨h1, h2⟩ := hreg (by rw [show x.op = 14 from hk]; rfl)
  exact ⟨_, rfl, fun v => by rw [h1]; exact h.upd ok h2 v⟩
inductive CP (l : List Rf) (k : Nat) (tq : List Int) : Cfg → Cfg → Prop where
 | call {d j av} : j < l.length → CP l k tq (.call d j av) (.call d j av)
 | at_ {d j p R R' S} : j < l.length → p < (l.getD j default).code.length → (j = k → RelP (l.getD k default).regs tq R R') → (j ≠ k → R' = R) → CP l k tq (.at_ d j p R S) (.at_ d j p R' S)
theorem perm_run {l : List Rf} {k : Nat} {tq : List Int} (hk : k < l.length) (ok : permB tq (l.getD k default).regs = true) (h0 : validR l = 0) {ck : Bool} {c : Cfg} {s : Nat} {e : En} {t : Nat} (h : Run l ck c s e t) : ∀ {c'}, CP l k tq c c' → Run (permL l k tq) ck c' s e t := by
 obtain ⟨_, _, hv⟩ := validR_parts h0
 have hstep : ∀ {j p : Nat} {R R' S : Nat → Val}, j < l.length → p < (l.getD j default).code.length → (j = k → RelP (l.getD k default).regs tq R R') → (j ≠ k → R' = R) →
   match stepF ck ((l.getD j default).code.getD p default) p R S with
   | .done e => stepF ck (((permL l k tq).getD j default).code.getD p default) p R' S = .done e
   | .go q R1 S1 => ∃ R1', stepF ck (((permL l k tq).getD j default).code.getD p default) p R' S = .go q R1' S1 ∧ (j = k → RelP (l.getD k default).regs tq R1 R1') ∧ (j ≠ k → R1' = R1)
   | .call nm av r => ∃ r', stepF ck (((permL l k tq).getD j default).code.getD p default) p R' S = .call nm av r' ∧ ∀ v, (j = k → RelP (l.getD k default).regs tq (upd R r v) (upd R' r' v)) ∧ (j ≠ k → upd R' r' v = upd R r v) := by
  intro j p R R' S hj hp h1 h2
  rw [permL_at l k j tq hk]
  by_cases ej : j = k
  ·subst ej
   rw [if_pos rfl, permF_get tq _ hp]
   have hs := step_perm (ck := ck) (p := p) (S := S) ((hv j hj).1.at_ (getD_mem hp)) ok (h1 rfl)
   cases hst : stepF ck ((l.getD j default).code.getD p default) p R S with
   | done e => rw [hst] at hs; exact hs
   | go q R1 S1 =>
    rw [hst] at hs
    obtain ⟨R1', a1, a2⟩ := hs
    exact ⟨R1', a1, fun _ => a2, fun h => absurd rfl h⟩
   | call nm av r =>
    rw [hst] at hs
    obtain ⟨r', a1, a2⟩ := hs
    exact ⟨r', a1, fun v => ⟨fun _ => a2 v, fun h => absurd rfl h⟩⟩
  ·rw [if_neg ej, h2 ej]
   cases hst : stepF ck ((l.getD j default).code.getD p default) p R S with
   | done e => rfl
   | go q R1 S1 => exact ⟨R1, rfl, fun h => absurd h ej, fun _ => rfl⟩
   | call nm av r => exact ⟨r, rfl, fun v => ⟨fun h => absurd h ej, fun _ => rfl⟩⟩
 induction h with
 | deep h1 => intro c' hc; cases hc with | call _ => exact .deep h1
 | @enter d j av s e t h1 _ ih =>
  intro c' hc
  cases hc with
  | call hj => exact .enter h1 (ih (.at_ hj (by have := (hv j hj).1.pos; omega) (fun _ r _ _ => rfl) (fun _ => rfl)))
 | full h1 => intro c' hc; cases hc with | at_ _ _ _ _ => exact .full h1
 | @done d j p R S s e h1 h2 =>
  intro c' hc
  cases hc with
  | at_ hj hp hr1 hr2 =>
   have hs := hstep (S := S) hj hp hr1 hr2
   rw [h2] at hs
   exact .done h1 hs
 | @go d j p R S s e t p' R1 S1 h1 h2 _ ih =>
  intro c' hc
  cases hc with
  | at_ hj hp hr1 hr2 =>
   have hs := hstep (S := S) hj hp hr1 hr2
   rw [h2] at hs
   obtain ⟨R1', a1, a2, a3⟩ := hs
   exact .go h1 a1 (ih (.at_ hj ((hv j hj).1.ef_next hp h2) a2 a3))
 | @callX d j p R S s e t nm av r h1 h2 _ h4 ih =>
  intro c' hc
  cases hc with
  | at_ hj hp hr1 hr2 =>
   have hs := hstep (S := S) hj hp hr1 hr2
   rw [h2] at hs
   obtain ⟨r', a1, a2⟩ := hs
   exact .callX h1 a1 (by rw [permL_index l k tq hk]; exact ih (.call ((hv j hj).1.ef_call hp h2).2.1)) h4
 | @callR d j p R S s v t e u nm av r h1 h2 _ _ ih1 ih2 =>
  intro c' hc
  cases hc with
  | at_ hj hp hr1 hr2 =>
   have hs := hstep (S := S) hj hp hr1 hr2
   rw [h2] at hs
   obtain ⟨r', a1, a2⟩ := hs
   exact .callR h1 a1 (by rw [permL_index l k tq hk]; exact ih1 (.call ((hv j hj).1.ef_call hp h2).2.1)) (ih2 (.at_ hj ((hv j hj).1.ef_call hp h2).1 (a2 v).1 (a2 v).2))
theorem runE_perm {l : List Rf} {k : Nat} {tq : List Int} (hk : k < l.length) (ok : permB tq (l.getD k default).regs = true) (h0 : validR l = 0) (nm : ByteArray) (av : List Val) : runE (permL l k tq) nm av = runE l nm av := by
 unfold runE
 rw [valid_perm hk ok h0, h0, permL_index l k tq hk, (permL_keep l k _ tq hk).2.1]
theorem outR_perm {l : List Rf} {k : Nat} {tq : List Int} (hk : k < l.length) (ok : permB tq (l.getD k default).regs = true) (h0 : validR l = 0) (nm : ByteArray) (av : List Val) (ck : Bool) : outR (permL l k tq) nm av ck = outR l nm av ck := by
 by_cases h : runE l nm av = 0
 ·obtain ⟨_, j, hj, hjl, _⟩ := runE_parts h
  have hr := runX_run l ck j (av.map plainV)
  have h1 := perm_run hk ok h0 hr (.call hjl)
  rw [outR_eq (by rw [runE_perm hk ok h0]; exact h) (by rw [permL_index l k tq hk]; exact hj) h1, outR_eq h hj hr]
 ·unfold outR
  rw [runE_perm hk ok h0, if_neg h, if_neg h]
def permE (l : List Rf) (k : Int) (tq : List Int) : Int := if numE l k ≠ 0 then numE l k else if permB tq (l.getD k.toNat default).regs = true then 0 else 1
def permR (l : List Rf) (k : Int) (tq : List Int) : List Rf := if permE l k tq = 0 then permL l k.toNat tq else []
theorem permE_ok {l : List Rf} {k : Int} {tq : List Int} (h : permE l k tq = 0) : validR l = 0 ∧ ∃ n : Nat, k = n ∧ n < l.length ∧ permB tq (l.getD n default).regs = true ∧ permR l k tq = permL l n tq := by
 have hR : permR l k tq = permL l k.toNat tq := by unfold permR; rw [if_pos h]
 unfold permE at h
 split at h
 ·rename_i h1; exact absurd h h1
 ·rename_i h1
  split at h
  ·rename_i h2
   obtain ⟨hv, n, rfl, hn⟩ := numE_ok (by simpa using h1)
   rw [Int.toNat_natCast] at h2 hR
   exact ⟨hv, n, rfl, hn, h2, hR⟩
  ·cases h
theorem GoodX.dreg {l : List Rf} {f : Rf} {x : Rg} (gx : GoodX l f x) (h : (partsR x.op).1 = 1) : 0 ≤ x.d ∧ x.d < f.regs := by
 have := gx.d
 rw [h] at this
 exact isPartB_reg this
end Go.Proofs.YtknaemlnhediaaaGreatDoor.c
