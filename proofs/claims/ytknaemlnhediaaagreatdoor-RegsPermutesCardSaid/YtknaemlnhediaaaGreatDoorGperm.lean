/- Contracts of slices.Contains for numbers, and of the program's Permute. The table strings.asciiSpace holds what its text lays; lengths are bounded. Contract of the program's Permute. The table strings.asciiSpace holds what its text lays; lengths are bounded. -/
import Derived.Test.YtknaemlnhediaaaGreatDoorCopied
import Derived.Test.YtknaemlnhediaaaGreatDoorPermP
import Derived.Test.YtknaemlnhediaaaGreatDoorUses
namespace Go.Proofs.YtknaemlnhediaaaGreatDoor.c
open Go.RowKit
set_option linter.unusedVariables false
set_option maxRecDepth 100000
set_option maxHeartbeats 6400000
set_option linter.unusedSimpArgs false
theorem gIndexI_any (A : Option Addr) (cap : Nat) (l : List Int) {len : Nat} (z : Int) (w : World) (hl : len = l.length) (hA : NumsAt w A l) (hb : len ≤ 9223372036854775806) :
  Calls Tryz.prog 181 #[.slice A len cap, .int .i64 z] w fun e w' => ∃ n : Int, e = .returned (.int .i64 n) ∧ (0 ≤ n ↔ z ∈ l) ∧ w = w' := by
 have HA := Lib.hid hA
 have HL := Lib.hid hl
 clear hA hl
 go_enter Tryz.func181, Tryz.ntmps181
 go_wp2_with fail
 go_loopw [8] (fun i wr => ∃ j : Nat, j ≤ len ∧ i = .int .i64 j ∧ (∀ r, r < j → l.getD r 0 ≠ z) ∧ w = wr) (fun i _ => len - (intOf i).toNat)
 case atStart => exact ⟨0, Nat.zero_le _, rfl, fun r hr => by omega, rfl⟩
 case round =>
  obtain ⟨j, hj, rfl, hno, rfl⟩ := hrel
  have HNO := Lib.hid hno
  clear hno
  by_cases hlt : j < len
  ·obtain ⟨b, o, rfl, hbb, d0⟩ := HA.out.one (k := j) (by have := HL.out; omega)
   obtain ⟨y, hy⟩ : ∃ y, y = l.getD j 0 := ⟨_, rfl⟩
   rw [← hy] at d0
   have HY := Lib.hid hy
   clear hy
   by_cases e : z = y
   ·have hq : (z == y) = true := by simpa using e
    go_wp2_with fail
    go_ret
    refine ⟨(j : Int), rfl, ⟨fun _ => ?_, fun _ => by omega⟩, rfl⟩
    have hjl : j < l.length := by have := HL.out; omega
    rw [e, HY.out, List.getD, List.getElem?_eq_getElem hjl]
    exact List.getElem_mem hjl
   ·have hq : (z == y) = false := by simpa using e
    go_wp2_with fail
    case roundEnd => exact ⟨⟨j + 1, by omega, by go_num, (fun r hr => by
     rcases Nat.lt_or_ge r j with h | h
     ·exact HNO.out r h
     ·obtain rfl : r = j := by omega
      rw [← HY.out]
      exact fun h => e h.symm), by first | rfl | trivial⟩, by simp [intOf]; omega⟩
  ·go_wp2_with fail
   go_ret
   refine ⟨-1, rfl, ⟨fun h => absurd h (by decide), fun hm => False.elim ?_⟩, rfl⟩
   obtain ⟨r, hr, e⟩ := List.getElem_of_mem hm
   refine HNO.out r (by have := HL.out; omega) ?_
   rw [List.getD, List.getElem?_eq_getElem hr]
   exact e
theorem gContains_any (A : Option Addr) (cap : Nat) (l : List Int) {len : Nat} (z : Int) (w : World) (hl : len = l.length) (hA : NumsAt w A l) (hb : len ≤ 9223372036854775806) :
  Calls Tryz.prog 112 #[.slice A len cap, .int .i64 z] w fun e w' => e = .returned (.bool (decide (z ∈ l))) ∧ w = w' := by
 have HI := Lib.hid (gIndexI_any A cap l z w hl hA hb)
 clear hA hl
 by_cases hm : z ∈ l
 all_goals
  have HM := Lib.hid hm
  clear hm
  go_enter Tryz.func112, Tryz.ntmps112
  go_wp2_with (first
   | (go_at_call 181; refine (HI.out).mono ?_; rintro r w' ⟨n, rfl, hn, rfl⟩; have HN := Lib.hid hn; clear hn))
  all_goals
   go_ret
 ·exact ⟨ret_bool (by rw [decide_eq_true HM.out, decide_eq_true (HN.out.2 HM.out)]), by first | rfl | trivial⟩
 ·exact ⟨ret_bool (by rw [decide_eq_false HM.out, decide_eq_false (fun h => HM.out (HN.out.1 h))]), by first | rfl | trivial⟩
theorem store_cell {w : World} {ops : Array Oper} {rest : List Oper} {o : Oper} {a : Act} {Q : Exit → Act → World → Prop} (hgd : o.guard = none) (x y : Operand) (ho : o.op = .store 3 x y) (g q : Nat) (hx : a.eval x = .pointer (some ⟨g, q, none⟩)) (n : Int) (hy : a.eval y = .int .i64 n)
  {u : Value} (hc : w.cell? ⟨g, q, none⟩ = some u) (hf : w.frozen? ⟨g, q, none⟩ = false) (h : ∀ w2, w2 = w.setCell ⟨g, q, none⟩ (.int .i64 n) → wpList Tryz.prog ops Q rest (a.put o.dst undef) w2) : wpList Tryz.prog ops Q (o :: rest) a w := by
 refine wpList_plain hgd fun K hK => ?_
 have hr : (execOp a.eval o).run Tryz.prog w = .ok .skip (w.setCell ⟨g, q, none⟩ (.int .i64 n)) := by
  unfold execOp
  simp only [ho, hx, hy]
  go_simp
 unfold Oper.wp
 rw [hr]
 exact hK _ _ (h _ rfl)
theorem compact_pos {L : List Int} (h : L ≠ []) : 0 < (Lib.compact (sortI L)).length := by
 obtain ⟨h1, h2⟩ := compactUp (sortI L) (sortI_pair L) (sortI L).length (Nat.le_refl _)
 rw [List.take_length] at h2
 cases L with
 | nil => exact absurd rfl h
 | cons x t =>
  have := (h2 x).2 ((sortI_mem _ x).2 (List.mem_cons_self ..))
  exact List.length_pos_of_mem this
theorem compact_zero : (Lib.compact (sortI [])).length = 0 := by
 rw [show sortI [] = [] by simp [sortI]]
 rfl
theorem GoodX.like {l : List Rf} {f : Rf} {x y : Rg} (g : GoodX l f x) (h : pureX y = pureX x) : GoodX l f y := by
 obtain ⟨o1, d1, a1, b1, t1, n1, A1, c1, g1⟩ := x
 obtain ⟨o2, d2, a2, b2, t2, n2, A2, c2, g2⟩ := y
 simp only [pureX, Rg.mk.injEq] at h
 obtain ⟨rfl, rfl, rfl, rfl, rfl, rfl, _, _, rfl⟩ := h
 exact ⟨g.op, g.d, g.a, g.b, g.args, g.rest⟩
theorem getD_lt {L : List Rf} {j : Nat} (h : j < L.length) : L[j] = L.getD j default := by
 rw [List.getD, List.getElem?_eq_getElem h]
 rfl
theorem CpSt.setx {w0 w : World} {v : Value} {l M : List Rf} (s : CpSt w0 w v l M) {n : Nat} (hn : n < M.length) {C : List Rg} (hC : (M.getD n default).code = C) {g i j0 : Nat} (hA : (M.getD n default).A = some ⟨g, 0, none⟩) (hi : i < C.length) (hj0 : j0 < 11) {u : Value} {x : Rg}
  (hx : ∀ j, j < 11 → rgC x j = if j = j0 then u else rgC (C.getD i default) j) (hxa : x.A = (C.getD i default).A ∧ x.args = (C.getD i default).args) :
  CpSt w0 (w.setCell ⟨g, i * 11 + j0, none⟩ u) v (M.set n ((M.getD n default).with_ (C.set i x))) (M.set n ((M.getD n default).with_ (C.set i x))) := by
 subst hC
 obtain ⟨g', hA', hg, hr⟩ := s.rows n hn
 rw [hA] at hA'
 cases hA'
 have hM : ∀ j, (M.set n ((M.getD n default).with_ ((M.getD n default).code.set i x))).getD j default = if j = n then (M.getD n default).with_ ((M.getD n default).code.set i x) else M.getD j default := fun j => set_at hn j
 have hlen : (M.set n ((M.getD n default).with_ ((M.getD n default).code.set i x))).length = M.length := List.length_set
 have hcells : recCells 9 rfC (M.set n ((M.getD n default).with_ ((M.getD n default).code.set i x))) = recCells 9 rfC M := by
  have e : ∀ L : List Rf, recCells 9 rfC L = (L.map fun f => (List.range 9).map (rfC f)).flatten := fun L => by unfold recCells; rw [List.flatMap_def]
  rw [e, e, List.map_set]
  congr 1
  have e2 : (List.range 9).map (rfC ((M.getD n default).with_ ((M.getD n default).code.set i x))) = (M.map fun f => (List.range 9).map (rfC f))[n]'(by simpa using hn) := by
   rw [List.getElem_map]
   have e3 : M[n] = M.getD n default := by rw [List.getD, List.getElem?_eq_getElem hn]; rfl
   rw [e3]
   have e4 : ((M.getD n default).with_ ((M.getD n default).code.set i x)).code.length = (M.getD n default).code.length := List.length_set
   refine List.map_congr_left fun j hj => ?_
   have hj' := List.mem_range.1 hj
   match j, hj' with
   | 0, _ | 1, _ | 2, _ | 3, _ | 4, _ | 5, _ | 6, _ | 7, _ => rfl
   | 8, _ =>
    show Value.slice _ ((M.getD n default).with_ ((M.getD n default).code.set i x)).code.length _ = Value.slice _ (M.getD n default).code.length _
    rw [e4]
    rfl
  rw [e2, List.set_getElem_self]
 have hown : g ≠ g → False := fun h => h rfl
 have hne : some g ≠ v.ownBlock := own_ne s.own hr (by decide)
 refine ⟨s.ext.setCell hg _, ?_, fun j _ => rfl, fun j hj => ?_, fun a b ha hb hab => ?_, fun f hf y hy => ?_⟩
 ·rw [hlen, hcells]
  rcases s.own.2 with ⟨h1, h2⟩ | ⟨q, cap, cur, h1, h2, h3, h4, h5, h6, h7⟩
  ·exact ⟨s.own.1, .inl ⟨h1, h2⟩⟩
  ·refine ⟨s.own.1, .inr ⟨q, cap, cur, h1, h2, ?_, h4, h5, h6, h7⟩⟩
   rw [Below.heap_setCell w ⟨g, i * 11 + j0, none⟩ u q (by rw [h1] at hne; exact fun e => hne (show some g = some q by rw [show q = g from e]))]
   exact h3
 ·rw [hM]
  rw [hlen] at hj
  by_cases e : j = n
  ·subst e
   rw [if_pos rfl]
   exact ⟨g, hA, hg, hr.set_ hi hj0 hx⟩
  ·rw [if_neg e]
   obtain ⟨g2, b1, b2, b3⟩ := s.rows j hj
   refine ⟨g2, b1, b2, b3.far ?_ _⟩
   intro e2
   have e3 : g2 = g := e2
   have := s.ne j n hj hn e
   rw [b1, hA, e3] at this
   exact this rfl
 ·rw [hlen] at ha hb
  have hAA : ∀ j, ((M.set n ((M.getD n default).with_ ((M.getD n default).code.set i x))).getD j default).A = (M.getD j default).A := fun j => by
   rw [hM]
   by_cases e : j = n
   ·subst e; rw [if_pos rfl]; rfl
   ·rw [if_neg e]
  rw [hAA, hAA]
  exact s.ne a b ha hb hab
 ·obtain ⟨j, hj, rfl⟩ := List.getElem_of_mem hf
  have hj2 : j < M.length := by rw [hlen] at hj; exact hj
  have e1 := getD_lt (L := M.set n ((M.getD n default).with_ ((M.getD n default).code.set i x))) hj
  rw [e1, hM] at hy
  by_cases e : j = n
  ·subst e
   rw [if_pos rfl] at hy
   have hy2 : y ∈ (M.getD j default).code.set i x := hy
   rcases List.mem_or_eq_of_mem_set hy2 with h | h
   ·exact (s.args _ (getD_mem hj2) y h).far hr (by decide) _ _
   ·rw [h, hxa.1, hxa.2]
    exact (s.args _ (getD_mem hj2) _ (getD_mem hi)).far hr (by decide) _ _
  ·rw [if_neg e] at hy
   exact (s.args _ (getD_mem hj2) y hy).far hr (by decide) _ _
theorem GoodF.fewargs {l : List Rf} {f : Rf} (g : GoodF l f) (hp : ∀ j, j < l.length → (l.getD j default).params ≤ 4) {x : Rg} (hx : x ∈ f.code) : x.args.length ≤ 4 := by
 rcases Classical.em (x.op = 14) with h | h
 ·obtain ⟨q, _, hq, he⟩ := (g.at_ hx).call h
  have := hp q hq
  omega
 ·have h1 := g.inst x hx
  unfold instR at h1
  simp only [Bool.and_eq_true] at h1
  have h2 := h1.2.2.2.2.1
  rw [argsB_other h] at h2
  rw [List.isEmpty_iff.1 h2]
  decide
theorem CpSt.self {w0 w : World} {v : Value} {l M : List Rf} (s : CpSt w0 w v l M) : CpSt w0 w v M M := ⟨s.ext, s.own, fun _ _ => rfl, s.rows, s.ne, s.args⟩
theorem set_self {M : List Rf} {n : Nat} (hn : n < M.length) : M.set n ((M.getD n default).with_ (M.getD n default).code) = M := by
 show M.set n (M.getD n default) = M
 rw [← getD_lt hn]
 exact List.set_getElem_self hn
theorem set_twice {M : List Rf} {n : Nat} (hn : n < M.length) (C D : List Rg) : (M.set n ((M.getD n default).with_ C)).set n (((M.set n ((M.getD n default).with_ C)).getD n default).with_ D) = M.set n ((M.getD n default).with_ D) := by
 rw [set_at hn, if_pos rfl, List.set_set]
 rfl
structure PmX (w1 w : World) (v : Value) (M : List Rf) (n : Nat) (C : List Rg) (z : Nat) (cur : Array Value) : Prop where
 st : CpSt w1 w v (M.set n ((M.getD n default).with_ C)) (M.set n ((M.getD n default).with_ C))
 blk : Blk w z 67 cur
section
variable {w1 w w' : World} {v : Value} {M : List Rf} {n z : Nat} {C : List Rg} {cur : Array Value}
theorem PmX.ext' (s : PmX w1 w v M n C z cur) (x : Ext w w') : PmX w1 w' v M n C z cur := ⟨s.st.ext' x, s.blk.ext x⟩
theorem PmX.row (s : CpSt w1 w v (M.set n ((M.getD n default).with_ C)) (M.set n ((M.getD n default).with_ C))) (hn : n < M.length) {g : Nat} (hA : (M.getD n default).A = some ⟨g, 0, none⟩) : RecRow w g 67 11 rgC C ∧ w1.heap.size ≤ g := by
 obtain ⟨g', h1, h2, h3⟩ := s.rows n (by rw [List.length_set]; exact hn)
 rw [set_at hn, if_pos rfl] at h1 h3
 have h4 : (M.getD n default).A = some ⟨g', 0, none⟩ := h1
 rw [hA] at h4
 cases h4
 exact ⟨h3, h2⟩
theorem PmX.put (s : PmX w1 w v M n C z cur) (hn : n < M.length) {g : Nat} (hA : (M.getD n default).A = some ⟨g, 0, none⟩) (hz : z ≠ g) {i j0 : Nat} (hi : i < C.length) (hj0 : j0 < 11) {u : Value} {x : Rg} (hx : ∀ j, j < 11 → rgC x j = if j = j0 then u else rgC (C.getD i default) j)
  (hxa : x.A = (C.getD i default).A ∧ x.args = (C.getD i default).args) : PmX w1 (w.setCell ⟨g, i * 11 + j0, none⟩ u) v M n (C.set i x) z cur := by
 have hn2 : n < (M.set n ((M.getD n default).with_ C)).length := by rw [List.length_set]; exact hn
 have e : (M.set n ((M.getD n default).with_ C)).getD n default = (M.getD n default).with_ C := by rw [set_at hn, if_pos rfl]
 have h := s.st.setx hn2 (C := C) (by rw [e]; rfl) (g := g) (by rw [e]; exact hA) hi hj0 hx hxa
 rw [set_twice hn] at h
 exact ⟨h, s.blk.far hz _⟩
end
theorem PmX.top {w1 w : World} {M : List Rf} {n G cg g : Nat} {C : List Rg} (s : CpSt w1 w (.slice (some ⟨G, 0, none⟩) M.length cg) (M.set n ((M.getD n default).with_ C)) (M.set n ((M.getD n default).with_ C))) (hn : n < M.length) (hA : (M.getD n default).A = some ⟨g, 0, none⟩) :
  w.cell? ⟨G, n * 9 + 8, none⟩ = some (.slice (some ⟨g, 0, none⟩) C.length (M.getD n default).cap) ∧ G < w.heap.size := by
 have hlen : (M.set n ((M.getD n default).with_ C)).length = M.length := List.length_set
 obtain ⟨G', cg', hv, _, hr⟩ := own_rec s.own (by omega)
 obtain ⟨h1, _, _⟩ := Value.slice.inj hv
 cases h1
 have h := hr.cell (k := n) (j := 8) (by omega) (by decide)
 rw [set_at hn, if_pos rfl] at h
 refine ⟨?_, hr.lt⟩
 rw [h]
 show some (Value.slice (M.getD n default).A C.length (M.getD n default).cap) = _
 rw [hA]
theorem set_getD_self {C : List Rg} {j : Nat} (hj : j < C.length) : C.set j (C.getD j default) = C := by
 rw [List.getD, List.getElem?_eq_getElem hj]
 exact List.set_getElem_self hj
theorem set_getD_one {C : List Rg} {j : Nat} (hj : j < C.length) (x : Rg) : (C.set j x).getD j default = x := by simp [List.getD, hj]
theorem PmX.step {w1 w : World} {v : Value} {M : List Rf} {n z : Nat} {C : List Rg} {cur : Array Value} {j : Nat} {y : Rg} (s : PmX w1 w v M n (C.set j y) z cur) (hn : n < M.length) {g : Nat} (hA : (M.getD n default).A = some ⟨g, 0, none⟩) (hz : z ≠ g) (hj : j < C.length) {j0 : Nat} (hj0 : j0 < 11) {u : Value} {y' : Rg}
  (hx : ∀ q, q < 11 → rgC y' q = if q = j0 then u else rgC y q) (hxa : y'.A = y.A ∧ y'.args = y.args) : PmX w1 (w.setCell ⟨g, j * 11 + j0, none⟩ u) v M n (C.set j y') z cur := by
 have h := s.put hn hA hz (i := j) (by rw [List.length_set]; exact hj) hj0 (u := u) (x := y') (by rw [set_getD_one hj]; exact hx) (by rw [set_getD_one hj]; exact hxa)
 rwa [List.set_set] at h
theorem permX_like {tq : List Int} {x y : Rg} (h : pureX x = pureX y) : pureX (permX tq x) = pureX (permX tq y) := by
 obtain ⟨o1, d1, a1, b1, t1, n1, A1, c1, g1⟩ := x
 obtain ⟨o2, d2, a2, b2, t2, n2, A2, c2, g2⟩ := y
 simp only [pureX, Rg.mk.injEq] at h
 obtain ⟨rfl, rfl, rfl, rfl, rfl, rfl, _, _, rfl⟩ := h
 rfl
theorem perm_class {op : Int} (h : (0 ≤ op ∧ op ≤ 17) ∨ (105 ≤ op ∧ op ≤ 123)) :
  ((partsR op).1 = 1 ∧ (partsR op).2.1 = 1 ∧ (partsR op).2.2 ≠ 1 ∧ op ≠ 4 ∧ op < 100) ∨ ((partsR op).1 = 1 ∧ (partsR op).2.1 ≠ 1 ∧ (partsR op).2.2 ≠ 1 ∧ op ≠ 4 ∧ op < 100) ∨ ((partsR op).1 ≠ 1 ∧ (partsR op).2.1 = 1 ∧ (partsR op).2.2 ≠ 1 ∧ op ≠ 4 ∧ op < 100) ∨
  ((partsR op).1 ≠ 1 ∧ (partsR op).2.1 ≠ 1 ∧ (partsR op).2.2 ≠ 1 ∧ op ≠ 4 ∧ op < 100) ∨ ((partsR op).1 ≠ 1 ∧ (partsR op).2.1 ≠ 1 ∧ (partsR op).2.2 = 1 ∧ op = 4 ∧ op < 100) ∨ ((partsR op).1 = 1 ∧ (partsR op).2.1 = 1 ∧ (partsR op).2.2 = 1 ∧ op ≠ 4 ∧ 100 ≤ op) := by
 rcases h with h | h
 ·have : op = 0 ∨ op = 1 ∨ op = 2 ∨ op = 3 ∨ op = 4 ∨ op = 5 ∨ op = 6 ∨ op = 7 ∨ op = 8 ∨ op = 9 ∨ op = 10 ∨ op = 11 ∨ op = 12 ∨ op = 13 ∨ op = 14 ∨ op = 15 ∨ op = 16 ∨ op = 17 := by omega
  rcases this with rfl | rfl | rfl | rfl | rfl | rfl | rfl | rfl | rfl | rfl | rfl | rfl | rfl | rfl | rfl | rfl | rfl | rfl <;> decide
 ·refine .inr (.inr (.inr (.inr (.inr ?_))))
  rw [partsR_op (by omega)]
  exact ⟨rfl, rfl, rfl, by omega, by omega⟩
theorem CpSt.at_ {w0 w : World} {A : Option Addr} {n c : Nat} {l M : List Rf} (s : CpSt w0 w (.slice A n c) l M) : RfAt w A M := by
 obtain ⟨A', cap, hv, hat⟩ := own_rec_at s.own
 cases hv
 refine ⟨hat, fun f hf => ?_⟩
 obtain ⟨j, hj, rfl⟩ := List.getElem_of_mem hf
 obtain ⟨g, h1, _, h3⟩ := s.rows j hj
 rw [← getD_lt hj] at h1 h3
 rw [h1]
 exact ⟨h3.at_, fun x hx => (s.args _ hf x hx).at_⟩
theorem likeR_of {L N : List Rf} (hl : L.length = N.length) (h : ∀ i, i < L.length → pureF (L.getD i default) = pureF (N.getD i default)) : LikeR L N := by
 unfold LikeR pureR
 refine List.ext_getElem (by simpa using hl) fun i h1 h2 => ?_
 rw [List.getElem_map, List.getElem_map, getD_lt (by simpa using h1), getD_lt (by simpa using h2)]
 exact h i (by simpa using h1)
theorem gPermute_any (A : Option Addr) (cap : Nat) (l : List Rf) {len : Nat} (k : Int) (tA : Option Addr) (tcap : Nat) (tq : List Int) {nt : Nat} (w : World) (g : Laid w) (hlen : len = l.length) (hnt : nt = tq.length) (hA : RfAt w A l) (hT : NumsAt w tA tq) (hl : len ≤ 9223372036854775806) (hnt2 : nt ≤ 9223372036854775806) (hc : len ≤ 48 → countR l ≤ 9223372036854775806) (hin : RgsIn l) :
  Calls Tryz.prog 45 #[.slice A len cap, .int .i64 k, .slice tA nt tcap] w fun e w' => ∃ M A' c', e = .returned (.tuple #[.slice A' M.length c', .int .i64 (permE l k tq)]) ∧ RfAt w' A' M ∧ LikeR M (permR l k tq) ∧ Ext w w' := by
 have HK := Lib.hid (gknown_any A cap l k w g hlen hA hl hc hin)
 have HA := Lib.hid hA
 have HT := Lib.hid hT
 have HLn := Lib.hid hlen
 have HNT := Lib.hid hnt
 clear hA hc hin g hlen hT hnt
 have HRZ : Hid (permE l k tq ≠ 0 → permR l k tq = []) := fun h => by unfold permR; rw [if_neg h]
 have HLZ : Hid (permE l k tq ≠ 0 → ∀ w', RfAt w' none [] ∧ LikeR [] (permR l k tq)) := fun h w' => ⟨⟨At.nil _ _ _ _, fun f hf => by cases hf⟩, by rw [HRZ.out h]; rfl⟩
 by_cases h0 : numE l k = 0
 ·obtain ⟨hv, n, rfl, hn⟩ := numE_ok h0
  obtain ⟨f, hf⟩ : ∃ f, f = l.getD n default := ⟨_, rfl⟩
  have HPE : Hid (permE l n tq = if permB tq f.regs = true then 0 else 1) := by unfold Hid permE; rw [if_neg (by rw [h0]; decide), Int.toNat_natCast, ← hf]
  obtain ⟨h48, _, hgood⟩ := validR_parts hv
  have HV := Lib.hid hv
  have HGD := Lib.hid hgood
  have GF : Hid (GoodF l f) := by rw [hf]; exact (hgood n hn).1
  obtain ⟨b, off, rfl, hb, c0, c1, c2, c3, c4, c5, c6, c7, c8, hcd⟩ := HA.out.at_ (k := n) hn hf
  have HN := Lib.hid hn
  have HF := Lib.hid hf
  have k1 : (n : Int) < (len : Int) := by have := HLn.out; omega
  rw [h0] at HK
  clear h0 hv hf hcd hgood hn c0 c1 c3 c4 c5 c6 c7 c8 HRZ
  have HY : Hid (∀ (w' : World) (o : Nat), Ext w w' → w'.cell? ⟨b, o, none⟩ = w.cell? ⟨b, o, none⟩) := fun w' o x => x.cell (p := ⟨b, o, none⟩) hb
  by_cases hrg : (nt : Int) = f.regs
  ·skip
   have HNB : Hid ((∃ r : Nat, r < nt ∧ (r : Int) ∉ tq) → permE l n tq = 1) := fun ⟨r, h1, h2⟩ => by
    rw [HPE.out, if_neg]
    intro h
    exact h2 ((permB_iff.1 h).2 r (by rw [← HNT.out]; exact h1))
   have HYB : Hid ((∀ r : Nat, r < nt → (r : Int) ∈ tq) → permB tq f.regs = true) := fun h => permB_iff.2 ⟨by rw [← HNT.out]; exact hrg, fun r hr => h r (by rw [HNT.out]; exact hr)⟩
   have hq : ((nt : Int) != f.regs) = false := by simpa using hrg
   go_enter Tryz.func45, Tryz.ntmps45
   go_wp2_with (first
    | (go_at_call 104
       refine (HK.out).mono ?_
       rintro r w1 ⟨rfl, x1⟩
       have X1 := Lib.hid x1
       rw [← HY.out w1 _ x1] at c2
       have hb1 : b < w1.heap.size := Nat.lt_of_lt_of_le hb x1.size
       clear x1))
   clear c2 hq
   go_loopw [32] (fun i wr => ∃ j : Nat, j ≤ nt ∧ i = .int .i64 j ∧ (∀ r : Nat, r < j → (r : Int) ∈ tq) ∧ w1 = wr) (fun i _ => nt - (intOf i).toNat)
   case atStart => exact ⟨0, Nat.zero_le _, rfl, fun r hr => by omega, rfl⟩
   case round =>
    obtain ⟨j, hj, rfl, hall, rfl⟩ := hrel
    have HAL := Lib.hid hall
    clear hall
    by_cases hlt : j < nt
    ·have HCT := Lib.hid (gContains_any tA tcap tq (j : Int) w1 HNT.out (HT.out.ext X1.out) hnt2)
     by_cases hm : (j : Int) ∈ tq
     ·rw [decide_eq_true hm] at HCT
      have HM := Lib.hid hm
      clear hm
      go_wp2_with (first
       | (go_at_call 112; refine (HCT.out).mono ?_; rintro r w' ⟨rfl, rfl⟩))
      case roundEnd => exact ⟨⟨j + 1, by omega, by go_num, (fun r hr => by
       rcases Nat.lt_or_ge r j with h | h
       ·exact HAL.out r h
       ·obtain rfl : r = j := by omega
        exact HM.out), by first | rfl | trivial⟩, by simp [intOf]; omega⟩
     ·rw [decide_eq_false hm] at HCT
      have HP1 : Hid (permE l n tq = 1) := HNB.out ⟨j, hlt, hm⟩
      have HZZ := Lib.hid (HLZ.out (by rw [HP1.out]; decide))
      clear hm
      go_wp2_with (first
       | (go_at_call 112; refine (HCT.out).mono ?_; rintro r w' ⟨rfl, rfl⟩))
      go_ret2
      exact ⟨[], none, 0, by rw [HP1.out]; rfl, (HZZ.out _).1, (HZZ.out w1).2, X1.out⟩
    ·have HPB : Hid (permB tq f.regs = true) := HYB.out fun r hr => HAL.out r (by omega)
     have HP0 : Hid (permE l n tq = 0) := by unfold Hid; rw [HPE.out, if_pos HPB.out]
     have HRR : Hid (permR l n tq = permL l n tq) := by unfold Hid permR; rw [if_pos HP0.out, Int.toNat_natCast]
     clear HLZ HNB HYB HAL
     have hpos : ∀ q, q ∈ l → 1 ≤ q.code.length ∧ q.code.length ≤ 10000 := fun q hq => by
      obtain ⟨i, hi, rfl⟩ := List.getElem_of_mem hq
      have h9 := (HGD.out i hi).1
      rw [← getD_lt hi] at h9
      exact ⟨h9.pos, by have := h9.few; omega⟩
     have hpar : ∀ i, i < l.length → (l.getD i default).params ≤ 4 := fun i hi => (HGD.out i hi).1.par.2
     have hargs : ∀ q, q ∈ l → ∀ x, x ∈ q.code → x.args.length ≤ 1000 := fun q hq x hx => by
      obtain ⟨i, hi, rfl⟩ := List.getElem_of_mem hq
      have h9 := (HGD.out i hi).1
      rw [← getD_lt hi] at h9
      have := h9.fewargs hpar hx
      omega
     have HCP := Lib.hid (copied_any (some ⟨b, off, none⟩) cap l w1 HLn.out (HA.out.ext X1.out) (by have := HLn.out; omega) hpos hargs)
     clear hpos hpar hargs
     go_wp2_with (first
      | (go_at_call 113
         refine (HCP.out).mono ?_
         rintro r w2 ⟨v, M, rfl, hM, cs⟩
         have hnM : n < M.length := by rw [hM]; exact HN.out
         obtain ⟨G, cg, rfl, hG, hrow⟩ := own_rec cs.own (by omega)
         obtain ⟨gk, hAk, hgk, hrk⟩ := cs.rows n hnM
         have HAK := Lib.hid hAk
         have d8 : w2.cell? ⟨G, n * 9 + 8, none⟩ = some (.slice (M.getD n default).A (M.getD n default).code.length (M.getD n default).cap) := hrow.cell hnM (by decide)
         rw [hAk] at d8
         obtain ⟨nc, hnc⟩ : ∃ nc, nc = (M.getD n default).code.length := ⟨_, rfl⟩
         rw [← hnc] at d8
         have HNC := Lib.hid hnc
         clear hnc
         have zG := hrow.lt
         have CS := Lib.hid cs
         have HM := Lib.hid hM
         have hnM2 : (n : Int) < (M.length : Int) := by omega
         have HNM := Lib.hid hnM
         clear hAk hgk hrk cs hM hrow hG hnM))
     have HLK : Hid ((M.getD n default).code.map pureX = f.code.map pureX) := by
      have h9 := CS.out.like n HNM.out
      rw [← HF.out] at h9
      exact (pureF_parts h9).2.2.2.2
     have HNF : Hid (nc = f.code.length) := by
      have h9 := congrArg List.length HLK.out
      rw [List.length_map, List.length_map] at h9
      have := HNC.out
      show nc = _
      omega
     have hnc2 : nc ≤ 6000 := by have h9 := GF.out.few; have := HNF.out; omega
     have CS2 : Hid (∀ i, i < M.length → pureF (M.getD i default) = pureF (l.getD i default)) := CS.out.like
     have HZ : Hid ((Tryz.prog.info? 67).map (·.size) = some 11) := by unfold Hid; kernel_rfl
     go_loopw [48] (fun i wq => ∃ j : Nat, j ≤ nc ∧ i = .int .i64 j ∧ ∃ C : List Rg, C.length = nc ∧ (∀ r, r < nc → pureX (C.getD r default) = if r < j then pureX (permX tq (f.code.getD r default)) else pureX (f.code.getD r default)) ∧ CpSt w1 wq (.slice (some ⟨G, 0, none⟩) M.length cg) (M.set n ((M.getD n default).with_ (C))) (M.set n ((M.getD n default).with_ (C)))) (fun i _ => nc - (intOf i).toNat)
     case atStart =>
      refine ⟨0, Nat.zero_le _, rfl, (M.getD n default).code, HNC.out.symm, fun r hr => ?_, ?_⟩
      ·rw [if_neg (by omega), ← map_at, HLK.out, map_at]
      ·rw [set_self HNM.out]; exact CS.out.self
     case round =>
      clear CS d8 zG
      obtain ⟨j, hj, rfl, C, hC, hlike, cs⟩ := hrel
      have HC := Lib.hid hC
      have HLI := Lib.hid hlike
      have CS := Lib.hid cs
      clear hlike cs
      by_cases hlt : j < nc
      ·obtain ⟨x, hx⟩ : ∃ x, x = C.getD j default := ⟨_, rfl⟩
       have hjf : j < f.code.length := by have := HNF.out; omega
       have hpx : pureX x = pureX (f.code.getD j default) := by rw [hx, HLI.out j hlt, if_neg (by omega)]
       have gx : GoodX l f x := (GF.out.at_ (getD_mem hjf)).like hpx
       have HOP : Hid (isOpB x.op = true) := by
        have h9 := gx.op
        unfold Hid isOpB
        simp only [Bool.or_eq_true, inB_iff]
        omega
       have HLN : Hid (∀ r, r < nc → pureX ((C.set j (permX tq x)).getD r default) = if r < j + 1 then pureX (permX tq (f.code.getD r default)) else pureX (f.code.getD r default)) := by
        intro r hr
        by_cases e : r = j
        ·subst e
         rw [set_getD_one (by rw [HC.out]; exact hr), if_pos (by omega)]
         exact permX_like hpx
        ·have e2 : (C.set j (permX tq x)).getD r default = C.getD r default := by simp only [List.getD, List.getElem?_set_ne (fun e4 => e e4.symm)]
         rw [e2, HLI.out r hr]
         by_cases e3 : r < j
         ·rw [if_pos e3, if_pos (by omega)]
         ·rw [if_neg e3, if_neg (by omega)]
       obtain ⟨hrw, hgk⟩ := PmX.row CS.out HNM.out HAK.out
       obtain ⟨b2, o2, he2, zg, r0, r1, r2, r3, r4, r5, r6, r7, r8, r9, r10⟩ := (hrw.at_).eleven (k := j) (by rw [HC.out]; exact hlt)
       cases he2
       simp only [Nat.zero_add, ← hx] at r0 r1 r2 r3 r4 r5 r6 r7 r8 r9 r10
       simp only [rgC] at r0 r1 r2 r3 r4 r5 r6 r7 r8 r9 r10
       have HZK : Hid (wr.heap.size ≠ gk) := by show wr.heap.size ≠ gk; omega
       have HREG : Hid ((nt : Int) = f.regs) := hrg
       have HTC : Hid (∀ (w' : World) (r : Int), Ext w w' → 0 ≤ r ∧ r < f.regs → ∃ b o, tA = some ⟨b, o, none⟩ ∧ b < w'.heap.size ∧ w'.cell? ⟨b, o + r.toNat, none⟩ = some (.int .i64 (mv tq r))) := fun w' r xx hr => by
        obtain ⟨b, o, h1, h2, h3⟩ := (HT.out.ext xx).one (k := r.toNat) (by have := HNT.out; have := HREG.out; omega)
        exact ⟨b, o, h1, h2, h3⟩
       obtain ⟨tb, tf, hte, htb, _⟩ := HTC.out w 0 (Ext.refl _) (by have := GF.out.reg; omega)
       subst hte
       have HTC : Hid (∀ (w' : World) (r : Int), Ext w w' → 0 ≤ r ∧ r < f.regs → w'.cell? ⟨tb, tf + r.toNat, none⟩ = some (.int .i64 (mv tq r))) := fun w' r xx hr => by
        obtain ⟨b, o, h1, h2, h3⟩ := HTC.out w' r xx hr
        cases h1
        exact h3
       have HTZ : Hid (∀ w', Ext w w' → tb < w'.heap.size) := fun w' xx => Nat.lt_of_lt_of_le htb xx.size
       have hcls := perm_class gx.op
       have HX := Lib.hid hx
       have HSS : Hid (C.set j x = C) := by rw [hx]; exact set_getD_self (by rw [HC.out]; exact hlt)
       clear hrw hgk hpx hx htb
       go_wp2_with (first
        | ((with_reducible show wpList _ _ _ (Oper.mk none (.store 67 (.tmp 12) (.tmp 52)) _ _ _ _ :: _) _ _)
           refine store_new 67 _ _ rfl _ _ rfl rfl rfl rfl HZ.out (rg_one x) ?_
           intro w3 x3 B3
           have P3 : Hid (PmX w1 w3 (.slice (some ⟨G, 0, none⟩) M.length cg) M n (C.set j x) wr.heap.size #[.int .i64 x.op, .int .i64 x.d, .int .i64 x.a, .int .i64 x.b, .int .i64 x.ty.base, .int .i64 x.ty.bits, .string x.ty.name, .bool x.ty.opt, .bool x.ty.err, .string x.name, .slice x.A x.args.length x.cap]) := ⟨by rw [HSS.out]; exact CS.out.ext' x3, B3⟩
           clear B3 x3 r0 r1 r2 r3 r4 r5 r6 r7 r8 r9 r10
           obtain ⟨q0, q1, q2, q3, q4, q5, q6, q7, q8, q9, q10⟩ := rg_cells x P3.out.blk
           have zx3 := P3.out.blk.lt
           obtain ⟨dd3, zG3⟩ := PmX.top P3.out.st HNM.out HAK.out
           rw [List.length_set, HC.out] at dd3)
        | (go_at_call 102; fail))
       rcases hcls with ⟨p1, p2, p3, p4, p5⟩ | ⟨p1, p2, p3, p4, p5⟩ | ⟨p1, p2, p3, p4, p5⟩ | ⟨p1, p2, p3, p4, p5⟩ | ⟨p1, p2, p3, p4, p5⟩ | ⟨p1, p2, p3, p4, p5⟩
       ·have HWR : Hid (writesR x = true) := by unfold Hid writesR; rw [p1]; rfl
        have HUS : Hid (usesR x = [x.a]) := by unfold Hid usesR; rw [if_pos p2, if_neg p3]; rfl
        have HXF : Hid (permX tq x = ({ ({ x with d := mv tq x.d } : Rg) with a := mv tq x.a } : Rg)) := by unfold Hid permX; rw [if_pos p1, if_pos p2, if_neg p3]
        have HTD : Hid (∀ w', Ext w w' → w'.cell? ⟨tb, tf + x.d.toNat, none⟩ = some (.int .i64 (mv tq x.d)) ∧ w'.cell? ⟨tb, tf + x.a.toNat, none⟩ = some (.int .i64 (mv tq x.a)) ∧ True) := fun w' xx => ⟨HTC.out w' x.d xx (gx.dreg p1), HTC.out w' x.a xx (by have h9 := gx.a; rw [p2] at h9; exact isPartB_reg h9), trivial⟩
        have vd := gx.dreg p1
        have va : 0 ≤ x.a ∧ x.a < f.regs := by have h9 := gx.a; rw [p2] at h9; exact isPartB_reg h9
        obtain ⟨nu, hnu⟩ : ∃ nu, nu = (Lib.compact (sortI ([x.a]))).length := ⟨_, rfl⟩
        have HUU : Hid (∀ w', Calls Tryz.prog 99 #[.agg #[.int .i64 x.op, .int .i64 x.d, .int .i64 x.a, .int .i64 x.b, .int .i64 x.ty.base, .int .i64 x.ty.bits, .string x.ty.name, .bool x.ty.opt, .bool x.ty.err, .string x.name, .slice x.A x.args.length x.cap]] w' fun e w'' => ∃ A c, e = .returned (.slice A nu c) ∧ Ext w' w'') := fun w' => by
         have h9 := guses_any x w' HOP.out
         rw [HUS.out] at h9
         refine h9.mono ?_
         rintro e w'' ⟨A', c', h1, h2, _⟩
         exact ⟨A', c', by rw [hnu]; exact h1, h2⟩
        have hnu0 : 0 < nu := by rw [hnu]; exact compact_pos (by simp)
        clear hnu
        have h4 : (x.op == 4) = false := by simpa using p4
        have h100 : decide ((100 : Int) ≤ x.op) = false := by simpa using p5
        clear p1 p2 p3 p4 p5
        go_wp2_with (first
        | (go_at_call 102
           refine (gwrites_any x w3 HOP.out).mono ?_
           rw [HWR.out]
           rintro r w4 ⟨rfl, x4⟩
           have P4 := Lib.hid (P3.out.ext' x4)
           clear x4
           obtain ⟨q0, q1, q2, q3, q4, q5, q6, q7, q8, q9, q10⟩ := rg_cells x P4.out.blk
           have zx4 := P4.out.blk.lt
           obtain ⟨dd4, zG4⟩ := PmX.top P4.out.st HNM.out HAK.out
           rw [List.length_set, HC.out] at dd4
           have zk4 := (PmX.row P4.out.st HNM.out HAK.out).1.lt
           have td4 := HTD.out _ (X1.out.trans P4.out.st.ext)
           have zt4 := HTZ.out _ (X1.out.trans P4.out.st.ext))
        | ((with_reducible show wpList _ _ _ (Oper.mk none (.store 3 (.tmp 73) (.tmp 71)) _ _ _ _ :: _) _ _)
           refine store_cell rfl _ _ rfl gk (j * 11 + 1) rfl (mv tq x.d) rfl ((PmX.row P4.out.st HNM.out HAK.out).1.cell (k := j) (j := 1) (by rw [List.length_set, HC.out]; exact hlt) (by decide)) ((PmX.row P4.out.st HNM.out HAK.out).1.frozen (j * 11 + 1)) ?_
           intro w5 ew
           have P5 : Hid (PmX w1 w5 (.slice (some ⟨G, 0, none⟩) M.length cg) M n (C.set j { x with d := mv tq x.d }) wr.heap.size #[.int .i64 x.op, .int .i64 x.d, .int .i64 x.a, .int .i64 x.b, .int .i64 x.ty.base, .int .i64 x.ty.bits, .string x.ty.name, .bool x.ty.opt, .bool x.ty.err, .string x.name, .slice x.A x.args.length x.cap]) := by
            rw [ew]
            exact P4.out.step HNM.out HAK.out HZK.out (by rw [HC.out]; exact hlt) (by decide) (fun q hq => by match q, hq with | 0, _ | 1, _ | 2, _ | 3, _ | 4, _ | 5, _ | 6, _ | 7, _ | 8, _ | 9, _ | 10, _ => rfl) ⟨rfl, rfl⟩
           clear ew
           obtain ⟨q0, q1, q2, q3, q4, q5, q6, q7, q8, q9, q10⟩ := rg_cells x P5.out.blk
           have zx5 := P5.out.blk.lt
           obtain ⟨dd5, zG5⟩ := PmX.top P5.out.st HNM.out HAK.out
           rw [List.length_set, HC.out] at dd5
           have zk5 := (PmX.row P5.out.st HNM.out HAK.out).1.lt
           have td5 := HTD.out _ (X1.out.trans P5.out.st.ext)
           have zt5 := HTZ.out _ (X1.out.trans P5.out.st.ext))
        | (go_at_call 99
           refine (HUU.out w5).mono ?_
           rintro r w6 ⟨A6, c6, rfl, x6⟩
           have P6 := Lib.hid (P5.out.ext' x6)
           clear x6
           obtain ⟨q0, q1, q2, q3, q4, q5, q6, q7, q8, q9, q10⟩ := rg_cells x P6.out.blk
           have zx6 := P6.out.blk.lt
           obtain ⟨dd6, zG6⟩ := PmX.top P6.out.st HNM.out HAK.out
           rw [List.length_set, HC.out] at dd6
           have zk6 := (PmX.row P6.out.st HNM.out HAK.out).1.lt
           have td6 := HTD.out _ (X1.out.trans P6.out.st.ext)
           have zt6 := HTZ.out _ (X1.out.trans P6.out.st.ext))
        | ((with_reducible show wpList _ _ _ (Oper.mk none (.store 3 (.tmp 98) (.tmp 96)) _ _ _ _ :: _) _ _)
           refine store_cell rfl _ _ rfl gk (j * 11 + 2) rfl (mv tq x.a) rfl ((PmX.row P6.out.st HNM.out HAK.out).1.cell (k := j) (j := 2) (by rw [List.length_set, HC.out]; exact hlt) (by decide)) ((PmX.row P6.out.st HNM.out HAK.out).1.frozen (j * 11 + 2)) ?_
           intro w7 ew
           have P7 : Hid (PmX w1 w7 (.slice (some ⟨G, 0, none⟩) M.length cg) M n (C.set j { ({ x with d := mv tq x.d } : Rg) with a := mv tq x.a }) wr.heap.size #[.int .i64 x.op, .int .i64 x.d, .int .i64 x.a, .int .i64 x.b, .int .i64 x.ty.base, .int .i64 x.ty.bits, .string x.ty.name, .bool x.ty.opt, .bool x.ty.err, .string x.name, .slice x.A x.args.length x.cap]) := by
            rw [ew]
            exact P6.out.step HNM.out HAK.out HZK.out (by rw [HC.out]; exact hlt) (by decide) (fun q hq => by match q, hq with | 0, _ | 1, _ | 2, _ | 3, _ | 4, _ | 5, _ | 6, _ | 7, _ | 8, _ | 9, _ | 10, _ => rfl) ⟨rfl, rfl⟩
           clear ew
           obtain ⟨q0, q1, q2, q3, q4, q5, q6, q7, q8, q9, q10⟩ := rg_cells x P7.out.blk
           have zx7 := P7.out.blk.lt
           obtain ⟨dd7, zG7⟩ := PmX.top P7.out.st HNM.out HAK.out
           rw [List.length_set, HC.out] at dd7
           have zk7 := (PmX.row P7.out.st HNM.out HAK.out).1.lt
           have td7 := HTD.out _ (X1.out.trans P7.out.st.ext)
           have zt7 := HTZ.out _ (X1.out.trans P7.out.st.ext)))
        case roundEnd => exact ⟨⟨j + 1, by omega, by go_num, C.set j (permX tq x), by rw [List.length_set]; exact HC.out, HLN.out, by rw [HXF.out]; exact P7.out.st⟩, by simp [intOf]; omega⟩
       ·have HWR : Hid (writesR x = true) := by unfold Hid writesR; rw [p1]; rfl
        have HUS : Hid (usesR x = []) := by unfold Hid usesR; rw [if_neg p2, if_neg p3]; rfl
        have HXF : Hid (permX tq x = ({ x with d := mv tq x.d } : Rg)) := by unfold Hid permX; rw [if_pos p1, if_neg p2, if_neg p3]
        have HTD : Hid (∀ w', Ext w w' → w'.cell? ⟨tb, tf + x.d.toNat, none⟩ = some (.int .i64 (mv tq x.d)) ∧ True) := fun w' xx => ⟨HTC.out w' x.d xx (gx.dreg p1), trivial⟩
        have vd := gx.dreg p1
        obtain ⟨nu, hnu⟩ : ∃ nu, nu = (Lib.compact (sortI ([]))).length := ⟨_, rfl⟩
        have HUU : Hid (∀ w', Calls Tryz.prog 99 #[.agg #[.int .i64 x.op, .int .i64 x.d, .int .i64 x.a, .int .i64 x.b, .int .i64 x.ty.base, .int .i64 x.ty.bits, .string x.ty.name, .bool x.ty.opt, .bool x.ty.err, .string x.name, .slice x.A x.args.length x.cap]] w' fun e w'' => ∃ A c, e = .returned (.slice A nu c) ∧ Ext w' w'') := fun w' => by
         have h9 := guses_any x w' HOP.out
         rw [HUS.out] at h9
         refine h9.mono ?_
         rintro e w'' ⟨A', c', h1, h2, _⟩
         exact ⟨A', c', by rw [hnu]; exact h1, h2⟩
        rw [compact_zero] at hnu
        subst hnu
        have h4 : (x.op == 4) = false := by simpa using p4
        have h100 : decide ((100 : Int) ≤ x.op) = false := by simpa using p5
        clear p1 p2 p3 p4 p5
        go_wp2_with (first
        | (go_at_call 102
           refine (gwrites_any x w3 HOP.out).mono ?_
           rw [HWR.out]
           rintro r w4 ⟨rfl, x4⟩
           have P4 := Lib.hid (P3.out.ext' x4)
           clear x4
           obtain ⟨q0, q1, q2, q3, q4, q5, q6, q7, q8, q9, q10⟩ := rg_cells x P4.out.blk
           have zx4 := P4.out.blk.lt
           obtain ⟨dd4, zG4⟩ := PmX.top P4.out.st HNM.out HAK.out
           rw [List.length_set, HC.out] at dd4
           have zk4 := (PmX.row P4.out.st HNM.out HAK.out).1.lt
           have td4 := HTD.out _ (X1.out.trans P4.out.st.ext)
           have zt4 := HTZ.out _ (X1.out.trans P4.out.st.ext))
        | ((with_reducible show wpList _ _ _ (Oper.mk none (.store 3 (.tmp 73) (.tmp 71)) _ _ _ _ :: _) _ _)
           refine store_cell rfl _ _ rfl gk (j * 11 + 1) rfl (mv tq x.d) rfl ((PmX.row P4.out.st HNM.out HAK.out).1.cell (k := j) (j := 1) (by rw [List.length_set, HC.out]; exact hlt) (by decide)) ((PmX.row P4.out.st HNM.out HAK.out).1.frozen (j * 11 + 1)) ?_
           intro w5 ew
           have P5 : Hid (PmX w1 w5 (.slice (some ⟨G, 0, none⟩) M.length cg) M n (C.set j { x with d := mv tq x.d }) wr.heap.size #[.int .i64 x.op, .int .i64 x.d, .int .i64 x.a, .int .i64 x.b, .int .i64 x.ty.base, .int .i64 x.ty.bits, .string x.ty.name, .bool x.ty.opt, .bool x.ty.err, .string x.name, .slice x.A x.args.length x.cap]) := by
            rw [ew]
            exact P4.out.step HNM.out HAK.out HZK.out (by rw [HC.out]; exact hlt) (by decide) (fun q hq => by match q, hq with | 0, _ | 1, _ | 2, _ | 3, _ | 4, _ | 5, _ | 6, _ | 7, _ | 8, _ | 9, _ | 10, _ => rfl) ⟨rfl, rfl⟩
           clear ew
           obtain ⟨q0, q1, q2, q3, q4, q5, q6, q7, q8, q9, q10⟩ := rg_cells x P5.out.blk
           have zx5 := P5.out.blk.lt
           obtain ⟨dd5, zG5⟩ := PmX.top P5.out.st HNM.out HAK.out
           rw [List.length_set, HC.out] at dd5
           have zk5 := (PmX.row P5.out.st HNM.out HAK.out).1.lt
           have td5 := HTD.out _ (X1.out.trans P5.out.st.ext)
           have zt5 := HTZ.out _ (X1.out.trans P5.out.st.ext))
        | (go_at_call 99
           refine (HUU.out w5).mono ?_
           rintro r w6 ⟨A6, c6, rfl, x6⟩
           have P6 := Lib.hid (P5.out.ext' x6)
           clear x6
           obtain ⟨q0, q1, q2, q3, q4, q5, q6, q7, q8, q9, q10⟩ := rg_cells x P6.out.blk
           have zx6 := P6.out.blk.lt
           obtain ⟨dd6, zG6⟩ := PmX.top P6.out.st HNM.out HAK.out
           rw [List.length_set, HC.out] at dd6
           have zk6 := (PmX.row P6.out.st HNM.out HAK.out).1.lt
           have td6 := HTD.out _ (X1.out.trans P6.out.st.ext)
           have zt6 := HTZ.out _ (X1.out.trans P6.out.st.ext)))
        case roundEnd => exact ⟨⟨j + 1, by omega, by go_num, C.set j (permX tq x), by rw [List.length_set]; exact HC.out, HLN.out, by rw [HXF.out]; exact P6.out.st⟩, by simp [intOf]; omega⟩
       ·have HWR : Hid (writesR x = false) := by unfold Hid writesR; simpa using p1
        have HUS : Hid (usesR x = [x.a]) := by unfold Hid usesR; rw [if_pos p2, if_neg p3]; rfl
        have HXF : Hid (permX tq x = ({ x with a := mv tq x.a } : Rg)) := by unfold Hid permX; rw [if_neg p1, if_pos p2, if_neg p3]
        have HTD : Hid (∀ w', Ext w w' → w'.cell? ⟨tb, tf + x.a.toNat, none⟩ = some (.int .i64 (mv tq x.a)) ∧ True) := fun w' xx => ⟨HTC.out w' x.a xx (by have h9 := gx.a; rw [p2] at h9; exact isPartB_reg h9), trivial⟩
        have va : 0 ≤ x.a ∧ x.a < f.regs := by have h9 := gx.a; rw [p2] at h9; exact isPartB_reg h9
        obtain ⟨nu, hnu⟩ : ∃ nu, nu = (Lib.compact (sortI ([x.a]))).length := ⟨_, rfl⟩
        have HUU : Hid (∀ w', Calls Tryz.prog 99 #[.agg #[.int .i64 x.op, .int .i64 x.d, .int .i64 x.a, .int .i64 x.b, .int .i64 x.ty.base, .int .i64 x.ty.bits, .string x.ty.name, .bool x.ty.opt, .bool x.ty.err, .string x.name, .slice x.A x.args.length x.cap]] w' fun e w'' => ∃ A c, e = .returned (.slice A nu c) ∧ Ext w' w'') := fun w' => by
         have h9 := guses_any x w' HOP.out
         rw [HUS.out] at h9
         refine h9.mono ?_
         rintro e w'' ⟨A', c', h1, h2, _⟩
         exact ⟨A', c', by rw [hnu]; exact h1, h2⟩
        have hnu0 : 0 < nu := by rw [hnu]; exact compact_pos (by simp)
        clear hnu
        have h4 : (x.op == 4) = false := by simpa using p4
        have h100 : decide ((100 : Int) ≤ x.op) = false := by simpa using p5
        clear p1 p2 p3 p4 p5
        go_wp2_with (first
        | (go_at_call 102
           refine (gwrites_any x w3 HOP.out).mono ?_
           rw [HWR.out]
           rintro r w4 ⟨rfl, x4⟩
           have P4 := Lib.hid (P3.out.ext' x4)
           clear x4
           obtain ⟨q0, q1, q2, q3, q4, q5, q6, q7, q8, q9, q10⟩ := rg_cells x P4.out.blk
           have zx4 := P4.out.blk.lt
           obtain ⟨dd4, zG4⟩ := PmX.top P4.out.st HNM.out HAK.out
           rw [List.length_set, HC.out] at dd4
           have zk4 := (PmX.row P4.out.st HNM.out HAK.out).1.lt
           have td4 := HTD.out _ (X1.out.trans P4.out.st.ext)
           have zt4 := HTZ.out _ (X1.out.trans P4.out.st.ext))
        | (go_at_call 99
           refine (HUU.out w4).mono ?_
           rintro r w6 ⟨A6, c6, rfl, x6⟩
           have P6 := Lib.hid (P4.out.ext' x6)
           clear x6
           obtain ⟨q0, q1, q2, q3, q4, q5, q6, q7, q8, q9, q10⟩ := rg_cells x P6.out.blk
           have zx6 := P6.out.blk.lt
           obtain ⟨dd6, zG6⟩ := PmX.top P6.out.st HNM.out HAK.out
           rw [List.length_set, HC.out] at dd6
           have zk6 := (PmX.row P6.out.st HNM.out HAK.out).1.lt
           have td6 := HTD.out _ (X1.out.trans P6.out.st.ext)
           have zt6 := HTZ.out _ (X1.out.trans P6.out.st.ext))
        | ((with_reducible show wpList _ _ _ (Oper.mk none (.store 3 (.tmp 98) (.tmp 96)) _ _ _ _ :: _) _ _)
           refine store_cell rfl _ _ rfl gk (j * 11 + 2) rfl (mv tq x.a) rfl ((PmX.row P6.out.st HNM.out HAK.out).1.cell (k := j) (j := 2) (by rw [List.length_set, HC.out]; exact hlt) (by decide)) ((PmX.row P6.out.st HNM.out HAK.out).1.frozen (j * 11 + 2)) ?_
           intro w7 ew
           have P7 : Hid (PmX w1 w7 (.slice (some ⟨G, 0, none⟩) M.length cg) M n (C.set j { x with a := mv tq x.a }) wr.heap.size #[.int .i64 x.op, .int .i64 x.d, .int .i64 x.a, .int .i64 x.b, .int .i64 x.ty.base, .int .i64 x.ty.bits, .string x.ty.name, .bool x.ty.opt, .bool x.ty.err, .string x.name, .slice x.A x.args.length x.cap]) := by
            rw [ew]
            exact P6.out.step HNM.out HAK.out HZK.out (by rw [HC.out]; exact hlt) (by decide) (fun q hq => by match q, hq with | 0, _ | 1, _ | 2, _ | 3, _ | 4, _ | 5, _ | 6, _ | 7, _ | 8, _ | 9, _ | 10, _ => rfl) ⟨rfl, rfl⟩
           clear ew
           obtain ⟨q0, q1, q2, q3, q4, q5, q6, q7, q8, q9, q10⟩ := rg_cells x P7.out.blk
           have zx7 := P7.out.blk.lt
           obtain ⟨dd7, zG7⟩ := PmX.top P7.out.st HNM.out HAK.out
           rw [List.length_set, HC.out] at dd7
           have zk7 := (PmX.row P7.out.st HNM.out HAK.out).1.lt
           have td7 := HTD.out _ (X1.out.trans P7.out.st.ext)
           have zt7 := HTZ.out _ (X1.out.trans P7.out.st.ext)))
        case roundEnd => exact ⟨⟨j + 1, by omega, by go_num, C.set j (permX tq x), by rw [List.length_set]; exact HC.out, HLN.out, by rw [HXF.out]; exact P7.out.st⟩, by simp [intOf]; omega⟩
       ·have HWR : Hid (writesR x = false) := by unfold Hid writesR; simpa using p1
        have HUS : Hid (usesR x = []) := by unfold Hid usesR; rw [if_neg p2, if_neg p3]; rfl
        have HXF : Hid (permX tq x = x) := by unfold Hid permX; rw [if_neg p1, if_neg p2, if_neg p3]
        have HTD : Hid (∀ w', Ext w w' → True) := fun w' xx => trivial
        obtain ⟨nu, hnu⟩ : ∃ nu, nu = (Lib.compact (sortI ([]))).length := ⟨_, rfl⟩
        have HUU : Hid (∀ w', Calls Tryz.prog 99 #[.agg #[.int .i64 x.op, .int .i64 x.d, .int .i64 x.a, .int .i64 x.b, .int .i64 x.ty.base, .int .i64 x.ty.bits, .string x.ty.name, .bool x.ty.opt, .bool x.ty.err, .string x.name, .slice x.A x.args.length x.cap]] w' fun e w'' => ∃ A c, e = .returned (.slice A nu c) ∧ Ext w' w'') := fun w' => by
         have h9 := guses_any x w' HOP.out
         rw [HUS.out] at h9
         refine h9.mono ?_
         rintro e w'' ⟨A', c', h1, h2, _⟩
         exact ⟨A', c', by rw [hnu]; exact h1, h2⟩
        rw [compact_zero] at hnu
        subst hnu
        have h4 : (x.op == 4) = false := by simpa using p4
        have h100 : decide ((100 : Int) ≤ x.op) = false := by simpa using p5
        clear p1 p2 p3 p4 p5
        go_wp2_with (first
        | (go_at_call 102
           refine (gwrites_any x w3 HOP.out).mono ?_
           rw [HWR.out]
           rintro r w4 ⟨rfl, x4⟩
           have P4 := Lib.hid (P3.out.ext' x4)
           clear x4
           obtain ⟨q0, q1, q2, q3, q4, q5, q6, q7, q8, q9, q10⟩ := rg_cells x P4.out.blk
           have zx4 := P4.out.blk.lt
           obtain ⟨dd4, zG4⟩ := PmX.top P4.out.st HNM.out HAK.out
           rw [List.length_set, HC.out] at dd4
           have zk4 := (PmX.row P4.out.st HNM.out HAK.out).1.lt
           have td4 := HTD.out _ (X1.out.trans P4.out.st.ext)
           have zt4 := HTZ.out _ (X1.out.trans P4.out.st.ext))
        | (go_at_call 99
           refine (HUU.out w4).mono ?_
           rintro r w6 ⟨A6, c6, rfl, x6⟩
           have P6 := Lib.hid (P4.out.ext' x6)
           clear x6
           obtain ⟨q0, q1, q2, q3, q4, q5, q6, q7, q8, q9, q10⟩ := rg_cells x P6.out.blk
           have zx6 := P6.out.blk.lt
           obtain ⟨dd6, zG6⟩ := PmX.top P6.out.st HNM.out HAK.out
           rw [List.length_set, HC.out] at dd6
           have zk6 := (PmX.row P6.out.st HNM.out HAK.out).1.lt
           have td6 := HTD.out _ (X1.out.trans P6.out.st.ext)
           have zt6 := HTZ.out _ (X1.out.trans P6.out.st.ext)))
        case roundEnd => exact ⟨⟨j + 1, by omega, by go_num, C.set j (permX tq x), by rw [List.length_set]; exact HC.out, HLN.out, by rw [HXF.out]; exact P6.out.st⟩, by simp [intOf]; omega⟩
       ·have HWR : Hid (writesR x = false) := by unfold Hid writesR; simpa using p1
        have HUS : Hid (usesR x = [x.b]) := by unfold Hid usesR; rw [if_neg p2, if_pos p3]; rfl
        have HXF : Hid (permX tq x = ({ x with b := mv tq x.b } : Rg)) := by unfold Hid permX; rw [if_neg p1, if_neg p2, if_pos p3]
        have HTD : Hid (∀ w', Ext w w' → w'.cell? ⟨tb, tf + x.b.toNat, none⟩ = some (.int .i64 (mv tq x.b)) ∧ True) := fun w' xx => ⟨HTC.out w' x.b xx (by have h9 := gx.b; rw [p3] at h9; exact isPartB_reg h9), trivial⟩
        have vb : 0 ≤ x.b ∧ x.b < f.regs := by have h9 := gx.b; rw [p3] at h9; exact isPartB_reg h9
        have h4 : (x.op == 4) = true := by simpa using p4
        clear p1 p2 p3 p4 p5
        go_wp2_with (first
        | (go_at_call 102
           refine (gwrites_any x w3 HOP.out).mono ?_
           rw [HWR.out]
           rintro r w4 ⟨rfl, x4⟩
           have P4 := Lib.hid (P3.out.ext' x4)
           clear x4
           obtain ⟨q0, q1, q2, q3, q4, q5, q6, q7, q8, q9, q10⟩ := rg_cells x P4.out.blk
           have zx4 := P4.out.blk.lt
           obtain ⟨dd4, zG4⟩ := PmX.top P4.out.st HNM.out HAK.out
           rw [List.length_set, HC.out] at dd4
           have zk4 := (PmX.row P4.out.st HNM.out HAK.out).1.lt
           have td4 := HTD.out _ (X1.out.trans P4.out.st.ext)
           have zt4 := HTZ.out _ (X1.out.trans P4.out.st.ext))
        | ((with_reducible show wpList _ _ _ (Oper.mk none (.store 3 (.tmp 85) (.tmp 83)) _ _ _ _ :: _) _ _)
           refine store_cell rfl _ _ rfl gk (j * 11 + 3) rfl (mv tq x.b) rfl ((PmX.row P4.out.st HNM.out HAK.out).1.cell (k := j) (j := 3) (by rw [List.length_set, HC.out]; exact hlt) (by decide)) ((PmX.row P4.out.st HNM.out HAK.out).1.frozen (j * 11 + 3)) ?_
           intro w7 ew
           have P7 : Hid (PmX w1 w7 (.slice (some ⟨G, 0, none⟩) M.length cg) M n (C.set j { x with b := mv tq x.b }) wr.heap.size #[.int .i64 x.op, .int .i64 x.d, .int .i64 x.a, .int .i64 x.b, .int .i64 x.ty.base, .int .i64 x.ty.bits, .string x.ty.name, .bool x.ty.opt, .bool x.ty.err, .string x.name, .slice x.A x.args.length x.cap]) := by
            rw [ew]
            exact P4.out.step HNM.out HAK.out HZK.out (by rw [HC.out]; exact hlt) (by decide) (fun q hq => by match q, hq with | 0, _ | 1, _ | 2, _ | 3, _ | 4, _ | 5, _ | 6, _ | 7, _ | 8, _ | 9, _ | 10, _ => rfl) ⟨rfl, rfl⟩
           clear ew
           obtain ⟨q0, q1, q2, q3, q4, q5, q6, q7, q8, q9, q10⟩ := rg_cells x P7.out.blk
           have zx7 := P7.out.blk.lt
           obtain ⟨dd7, zG7⟩ := PmX.top P7.out.st HNM.out HAK.out
           rw [List.length_set, HC.out] at dd7
           have zk7 := (PmX.row P7.out.st HNM.out HAK.out).1.lt
           have td7 := HTD.out _ (X1.out.trans P7.out.st.ext)
           have zt7 := HTZ.out _ (X1.out.trans P7.out.st.ext)))
        case roundEnd => exact ⟨⟨j + 1, by omega, by go_num, C.set j (permX tq x), by rw [List.length_set]; exact HC.out, HLN.out, by rw [HXF.out]; exact P7.out.st⟩, by simp [intOf]; omega⟩
       ·have HWR : Hid (writesR x = true) := by unfold Hid writesR; rw [p1]; rfl
        have HUS : Hid (usesR x = [x.a, x.b]) := by unfold Hid usesR; rw [if_pos p2, if_pos p3]; rfl
        have HXF : Hid (permX tq x = ({ ({ ({ x with d := mv tq x.d } : Rg) with a := mv tq x.a } : Rg) with b := mv tq x.b } : Rg)) := by unfold Hid permX; rw [if_pos p1, if_pos p2, if_pos p3]
        have HTD : Hid (∀ w', Ext w w' → w'.cell? ⟨tb, tf + x.d.toNat, none⟩ = some (.int .i64 (mv tq x.d)) ∧ w'.cell? ⟨tb, tf + x.a.toNat, none⟩ = some (.int .i64 (mv tq x.a)) ∧ w'.cell? ⟨tb, tf + x.b.toNat, none⟩ = some (.int .i64 (mv tq x.b)) ∧ True) := fun w' xx => ⟨HTC.out w' x.d xx (gx.dreg p1), HTC.out w' x.a xx (by have h9 := gx.a; rw [p2] at h9; exact isPartB_reg h9), HTC.out w' x.b xx (by have h9 := gx.b; rw [p3] at h9; exact isPartB_reg h9), trivial⟩
        have vd := gx.dreg p1
        have va : 0 ≤ x.a ∧ x.a < f.regs := by have h9 := gx.a; rw [p2] at h9; exact isPartB_reg h9
        have vb : 0 ≤ x.b ∧ x.b < f.regs := by have h9 := gx.b; rw [p3] at h9; exact isPartB_reg h9
        obtain ⟨nu, hnu⟩ : ∃ nu, nu = (Lib.compact (sortI ([x.a, x.b]))).length := ⟨_, rfl⟩
        have HUU : Hid (∀ w', Calls Tryz.prog 99 #[.agg #[.int .i64 x.op, .int .i64 x.d, .int .i64 x.a, .int .i64 x.b, .int .i64 x.ty.base, .int .i64 x.ty.bits, .string x.ty.name, .bool x.ty.opt, .bool x.ty.err, .string x.name, .slice x.A x.args.length x.cap]] w' fun e w'' => ∃ A c, e = .returned (.slice A nu c) ∧ Ext w' w'') := fun w' => by
         have h9 := guses_any x w' HOP.out
         rw [HUS.out] at h9
         refine h9.mono ?_
         rintro e w'' ⟨A', c', h1, h2, _⟩
         exact ⟨A', c', by rw [hnu]; exact h1, h2⟩
        have hnu0 : 0 < nu := by rw [hnu]; exact compact_pos (by simp)
        clear hnu
        have h4 : (x.op == 4) = false := by simpa using p4
        have h100 : decide ((100 : Int) ≤ x.op) = true := by simpa using p5
        clear p1 p2 p3 p4 p5
        go_wp2_with (first
        | (go_at_call 102
           refine (gwrites_any x w3 HOP.out).mono ?_
           rw [HWR.out]
           rintro r w4 ⟨rfl, x4⟩
           have P4 := Lib.hid (P3.out.ext' x4)
           clear x4
           obtain ⟨q0, q1, q2, q3, q4, q5, q6, q7, q8, q9, q10⟩ := rg_cells x P4.out.blk
           have zx4 := P4.out.blk.lt
           obtain ⟨dd4, zG4⟩ := PmX.top P4.out.st HNM.out HAK.out
           rw [List.length_set, HC.out] at dd4
           have zk4 := (PmX.row P4.out.st HNM.out HAK.out).1.lt
           have td4 := HTD.out _ (X1.out.trans P4.out.st.ext)
           have zt4 := HTZ.out _ (X1.out.trans P4.out.st.ext))
        | ((with_reducible show wpList _ _ _ (Oper.mk none (.store 3 (.tmp 73) (.tmp 71)) _ _ _ _ :: _) _ _)
           refine store_cell rfl _ _ rfl gk (j * 11 + 1) rfl (mv tq x.d) rfl ((PmX.row P4.out.st HNM.out HAK.out).1.cell (k := j) (j := 1) (by rw [List.length_set, HC.out]; exact hlt) (by decide)) ((PmX.row P4.out.st HNM.out HAK.out).1.frozen (j * 11 + 1)) ?_
           intro w5 ew
           have P5 : Hid (PmX w1 w5 (.slice (some ⟨G, 0, none⟩) M.length cg) M n (C.set j { x with d := mv tq x.d }) wr.heap.size #[.int .i64 x.op, .int .i64 x.d, .int .i64 x.a, .int .i64 x.b, .int .i64 x.ty.base, .int .i64 x.ty.bits, .string x.ty.name, .bool x.ty.opt, .bool x.ty.err, .string x.name, .slice x.A x.args.length x.cap]) := by
            rw [ew]
            exact P4.out.step HNM.out HAK.out HZK.out (by rw [HC.out]; exact hlt) (by decide) (fun q hq => by match q, hq with | 0, _ | 1, _ | 2, _ | 3, _ | 4, _ | 5, _ | 6, _ | 7, _ | 8, _ | 9, _ | 10, _ => rfl) ⟨rfl, rfl⟩
           clear ew
           obtain ⟨q0, q1, q2, q3, q4, q5, q6, q7, q8, q9, q10⟩ := rg_cells x P5.out.blk
           have zx5 := P5.out.blk.lt
           obtain ⟨dd5, zG5⟩ := PmX.top P5.out.st HNM.out HAK.out
           rw [List.length_set, HC.out] at dd5
           have zk5 := (PmX.row P5.out.st HNM.out HAK.out).1.lt
           have td5 := HTD.out _ (X1.out.trans P5.out.st.ext)
           have zt5 := HTZ.out _ (X1.out.trans P5.out.st.ext))
        | (go_at_call 99
           refine (HUU.out w5).mono ?_
           rintro r w6 ⟨A6, c6, rfl, x6⟩
           have P6 := Lib.hid (P5.out.ext' x6)
           clear x6
           obtain ⟨q0, q1, q2, q3, q4, q5, q6, q7, q8, q9, q10⟩ := rg_cells x P6.out.blk
           have zx6 := P6.out.blk.lt
           obtain ⟨dd6, zG6⟩ := PmX.top P6.out.st HNM.out HAK.out
           rw [List.length_set, HC.out] at dd6
           have zk6 := (PmX.row P6.out.st HNM.out HAK.out).1.lt
           have td6 := HTD.out _ (X1.out.trans P6.out.st.ext)
           have zt6 := HTZ.out _ (X1.out.trans P6.out.st.ext))
        | ((with_reducible show wpList _ _ _ (Oper.mk none (.store 3 (.tmp 98) (.tmp 96)) _ _ _ _ :: _) _ _)
           refine store_cell rfl _ _ rfl gk (j * 11 + 2) rfl (mv tq x.a) rfl ((PmX.row P6.out.st HNM.out HAK.out).1.cell (k := j) (j := 2) (by rw [List.length_set, HC.out]; exact hlt) (by decide)) ((PmX.row P6.out.st HNM.out HAK.out).1.frozen (j * 11 + 2)) ?_
           intro w7 ew
           have P7 : Hid (PmX w1 w7 (.slice (some ⟨G, 0, none⟩) M.length cg) M n (C.set j { ({ x with d := mv tq x.d } : Rg) with a := mv tq x.a }) wr.heap.size #[.int .i64 x.op, .int .i64 x.d, .int .i64 x.a, .int .i64 x.b, .int .i64 x.ty.base, .int .i64 x.ty.bits, .string x.ty.name, .bool x.ty.opt, .bool x.ty.err, .string x.name, .slice x.A x.args.length x.cap]) := by
            rw [ew]
            exact P6.out.step HNM.out HAK.out HZK.out (by rw [HC.out]; exact hlt) (by decide) (fun q hq => by match q, hq with | 0, _ | 1, _ | 2, _ | 3, _ | 4, _ | 5, _ | 6, _ | 7, _ | 8, _ | 9, _ | 10, _ => rfl) ⟨rfl, rfl⟩
           clear ew
           obtain ⟨q0, q1, q2, q3, q4, q5, q6, q7, q8, q9, q10⟩ := rg_cells x P7.out.blk
           have zx7 := P7.out.blk.lt
           obtain ⟨dd7, zG7⟩ := PmX.top P7.out.st HNM.out HAK.out
           rw [List.length_set, HC.out] at dd7
           have zk7 := (PmX.row P7.out.st HNM.out HAK.out).1.lt
           have td7 := HTD.out _ (X1.out.trans P7.out.st.ext)
           have zt7 := HTZ.out _ (X1.out.trans P7.out.st.ext))
        | ((with_reducible show wpList _ _ _ (Oper.mk none (.store 3 (.tmp 109) (.tmp 107)) _ _ _ _ :: _) _ _)
           refine store_cell rfl _ _ rfl gk (j * 11 + 3) rfl (mv tq x.b) rfl ((PmX.row P7.out.st HNM.out HAK.out).1.cell (k := j) (j := 3) (by rw [List.length_set, HC.out]; exact hlt) (by decide)) ((PmX.row P7.out.st HNM.out HAK.out).1.frozen (j * 11 + 3)) ?_
           intro w8 ew
           have P8 : Hid (PmX w1 w8 (.slice (some ⟨G, 0, none⟩) M.length cg) M n (C.set j { ({ ({ x with d := mv tq x.d } : Rg) with a := mv tq x.a } : Rg) with b := mv tq x.b }) wr.heap.size #[.int .i64 x.op, .int .i64 x.d, .int .i64 x.a, .int .i64 x.b, .int .i64 x.ty.base, .int .i64 x.ty.bits, .string x.ty.name, .bool x.ty.opt, .bool x.ty.err, .string x.name, .slice x.A x.args.length x.cap]) := by
            rw [ew]
            exact P7.out.step HNM.out HAK.out HZK.out (by rw [HC.out]; exact hlt) (by decide) (fun q hq => by match q, hq with | 0, _ | 1, _ | 2, _ | 3, _ | 4, _ | 5, _ | 6, _ | 7, _ | 8, _ | 9, _ | 10, _ => rfl) ⟨rfl, rfl⟩
           clear ew
           obtain ⟨q0, q1, q2, q3, q4, q5, q6, q7, q8, q9, q10⟩ := rg_cells x P8.out.blk
           have zx8 := P8.out.blk.lt
           obtain ⟨dd8, zG8⟩ := PmX.top P8.out.st HNM.out HAK.out
           rw [List.length_set, HC.out] at dd8
           have zk8 := (PmX.row P8.out.st HNM.out HAK.out).1.lt
           have td8 := HTD.out _ (X1.out.trans P8.out.st.ext)
           have zt8 := HTZ.out _ (X1.out.trans P8.out.st.ext)))
        case roundEnd => exact ⟨⟨j + 1, by omega, by go_num, C.set j (permX tq x), by rw [List.length_set]; exact HC.out, HLN.out, by rw [HXF.out]; exact P8.out.st⟩, by simp [intOf]; omega⟩
      ·obtain rfl : j = nc := by omega
       have HFIN : Hid (LikeR (M.set n ((M.getD n default).with_ C)) (permL l n tq)) := by
        have hlm : M.length = l.length := HM.out
        refine likeR_of (by rw [List.length_set, permL_len]; exact hlm) fun i hi => ?_
        rw [List.length_set] at hi
        rw [set_at HNM.out, permL_at l n i tq HN.out]
        by_cases e : i = n
        ·subst e
         rw [if_pos rfl, if_pos rfl, ← HF.out]
         have h9 := CS2.out i hi
         rw [← HF.out] at h9
         obtain ⟨m1, m2, m3, m4, _⟩ := pureF_parts h9
         have hcc : C.map pureX = (f.code.map (permX tq)).map pureX := by
          refine List.ext_getElem (by rw [List.length_map, List.length_map, List.length_map, HC.out]; exact HNF.out) fun r h1 h2 => ?_
          have hrc : r < C.length := by simpa using h1
          have hrf : r < f.code.length := by simpa using h2
          have h8 := HLI.out r (by have := HC.out; omega)
          rw [if_pos (by have := HC.out; omega)] at h8
          rw [List.getElem_map, List.getElem_map, List.getElem_map]
          rw [List.getD, List.getElem?_eq_getElem hrc, List.getD, List.getElem?_eq_getElem hrf] at h8
          exact h8
         show (Rf.mk (M.getD i default).name (M.getD i default).params (M.getD i default).regs (M.getD i default).ty none 0 (C.map pureX)) = Rf.mk f.name f.params f.regs f.ty none 0 ((f.code.map (permX tq)).map pureX)
         rw [hcc, m1, m2, m3, m4]
        ·rw [if_neg e, if_neg e]
         exact CS2.out i hi
       go_wp2_with fail
       go_ret2
       exact ⟨_, some ⟨G, 0, none⟩, cg, by rw [HP0.out, List.length_set]; rfl, CS.out.at_, by rw [HRR.out]; exact HFIN.out, X1.out.trans CS.out.ext⟩
  ·have hq : ((nt : Int) != f.regs) = true := by simpa using hrg
   have HP1 : Hid (permE l n tq = 1) := by
    show permE l n tq = 1
    rw [HPE.out, if_neg]
    intro h
    exact hrg (by rw [HNT.out]; exact (permB_iff.1 h).1)
   have HZZ := Lib.hid (HLZ.out (by rw [HP1.out]; decide))
   rw [HP1.out]
   clear hrg
   go_enter Tryz.func45, Tryz.ntmps45
   go_wp2_with (first
    | (go_at_call 104
       refine (HK.out).mono ?_
       rintro r w1 ⟨rfl, x1⟩
       have X1 := Lib.hid x1
       rw [← HY.out w1 _ x1] at c2
       have hb1 : b < w1.heap.size := Nat.lt_of_lt_of_le hb x1.size
       clear x1))
   go_ret2
   exact ⟨[], none, 0, rfl, (HZZ.out _).1, (HZZ.out w1).2, X1.out⟩
 ·have HP1 : Hid (permE l k tq = numE l k) := by unfold Hid permE; rw [if_pos h0]
  have HZZ := Lib.hid (HLZ.out (by rw [HP1.out]; exact h0))
  rw [HP1.out]
  generalize numE l k = a at *
  have hb : (a != 0) = true := by simpa using h0
  go_enter Tryz.func45, Tryz.ntmps45
  go_wp2_with (first
   | (go_at_call 104; refine (HK.out).mono ?_; rintro r w1 ⟨rfl, x1⟩))
  go_ret2
  exact ⟨[], none, 0, rfl, (HZZ.out _).1, (HZZ.out w1).2, x1⟩
end Go.Proofs.YtknaemlnhediaaaGreatDoor.c
