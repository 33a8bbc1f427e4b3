/- A queue of numbers: the first is taken, one is put behind. Conditions: lengths. Contract of the reference's Cut. Conditions: sizes. The law CodeCuts. The table strings.asciiSpace holds what its text lays; lengths are bounded. -/
import Derived.Test.YtamgalmlhjbbdaaDoorQue
import Derived.Test.YtamgalmlhjbbdaaDoorRtall
import Derived.Test.YtamgalmlhjbbdaaDoorVisit
import Derived.Test.YtamgalmlhjbbdaaDoorCut
import Derived.Deep.LoopGhost
import Derived.Test.YtamgalmlhjbbdaaDoorRsame
import Derived.Test.YtamgalmlhjbbdaaDoorFinds
namespace Go.Proofs.YtamgalmlhjbbdaaDoor.c
open Go.RowKit
set_option linter.unusedVariables false
set_option linter.unusedSimpArgs false
/-- the queue v holds l, in a block from base on -/
def IQue (w : World) (base : Nat) (v : Value) (l : List Nat) : Prop :=
  (v = .slice none 0 0 ∧ l = []) ∨ ∃ g off cap cur, v = .slice (some ⟨g, off, none⟩) l.length cap ∧ base ≤ g ∧ Blk w g 3 cur ∧ l.length ≤ cap ∧ cap ≤ maxLen ∧ off + cap ≤ cur.size ∧ ∀ j, j < l.length → cur[off + j]? = some (.int .i64 (l.getD j 0))
section
variable {w w' : World} {base : Nat} {v : Value} {l : List Nat}
theorem IQue.nil (w : World) (base : Nat) : IQue w base (.slice none 0 0) [] := .inl ⟨rfl, rfl⟩
theorem IQue.block (h : IQue w base v l) {k : Nat} (hk : v.ownBlock = some k) : base ≤ k ∧ k < w.heap.size := by
  rcases h with ⟨rfl, _⟩ | ⟨g, off, cap, cur, rfl, hb, hB, _⟩
  · cases hk
  · obtain rfl : g = k := Option.some.inj hk
    exact ⟨hb, hB.lt⟩
theorem IQue.keep (h : IQue w base v l) (hk : ∀ g, v.ownBlock = some g → w'.heap[g]? = w.heap[g]?) : IQue w' base v l := by
  rcases h with h | ⟨g, off, cap, cur, rfl, hb, hB, r⟩
  · exact .inl h
  · exact .inr ⟨g, off, cap, cur, rfl, hb, (hk g rfl).trans hB, r⟩
theorem IQue.ext (h : IQue w base v l) (x : Ext w w') : IQue w' base v l := h.keep fun g e => x.out.block g (h.block e).2
theorem IQue.far (h : IQue w base v l) {p : Addr} (hp : v.ownBlock ≠ some p.block) (u : Value) : IQue (w.setCell p u) base v l :=
  h.keep fun g e => Below.heap_setCell w p u g fun e2 => hp (by rw [e, e2])
theorem IQue.slice (h : IQue w base v l) : ∃ A cap, v = .slice A l.length cap := by
  rcases h with ⟨rfl, rfl⟩ | ⟨g, off, cap, cur, rfl, _⟩
  · exact ⟨_, _, rfl⟩
  · exact ⟨_, _, rfl⟩
/-- what is owned is a queue -/
theorem IQue.own (h : w.ownsRow base 3 1 v l.length (l.map fun (i : Nat) => .int .i64 (i : Int))) : IQue w base v l := by
  have h0 := h
  obtain ⟨hl, ⟨rfl, h2⟩ | ⟨g, cap, cur, rfl, hb, hg, hc, hm, hs, ht⟩⟩ := h
  · exact .inl ⟨rfl, List.eq_nil_of_length_eq_zero h2⟩
  · refine .inr ⟨g, 0, cap, cur, rfl, hb, hg, hc, hm, by omega, fun j hj => ?_⟩
    have h3 := h0.cellAt j (by omega)
    rw [cell_of_row w g j cur _ _ hg] at h3
    rw [Nat.zero_add, h3]
    simp [List.getD, hj]
/-- the first is taken -/
theorem IQue.pop {k : Nat} (h : IQue w base v (k :: l)) : ∃ g off cap a2 c2, v = .slice (some ⟨g, off, none⟩) (l.length + 1) cap ∧ base ≤ g ∧ g < w.heap.size ∧
    w.cell? ⟨g, off, none⟩ = some (.int .i64 k) ∧ (∀ w', (Instr.slice 34 v (some (.int .i64 1)) none none).run Tryd.prog w' = .ok (.slice a2 l.length c2) w') ∧
    IQue w base (.slice a2 l.length c2) l ∧ (Value.slice a2 l.length c2).ownBlock = some g := by
  rcases h with ⟨_, h2⟩ | ⟨g, off, cap, cur, rfl, hb, hB, hc, hm, hs, hj⟩
  · cases h2
  · simp only [List.length_cons] at hc hj ⊢
    refine ⟨g, off, cap, if cap - 1 = 0 then some ⟨g, off, none⟩ else some ⟨g, off + 1, none⟩, cap - 1, rfl, hb, hB.lt, ?_, fun w' => ?_, .inr ?_, ?_⟩
    · rw [hB.cell]
      exact hj 0 (by omega)
    · have hz : (Tryd.prog.info? 3).map (·.size) = some 1 := by kernel_rfl
      obtain ⟨i, hi, hs2⟩ := Option.map_eq_some_iff.1 hz
      have e1 : (cap = 1) = (cap - 1 = 0) := by rw [eq_iff_iff]; omega
      have hn : (1 : Int) ≤ (l.length : Int) + 1 := by omega
      by_cases hc1 : cap = 1
      · subst hc1
        simp [Instr.slice, run_underlying Tryd.underlying34, Instr.sliceBounds, Instr.sliceBound, sizeOf, typeInfo, hi, hs2, Result.andThen, asIntOf, hn]
      · have hc' : ¬ cap - 1 = 0 := by omega
        simp [Instr.slice, run_underlying Tryd.underlying34, Instr.sliceBounds, Instr.sliceBound, sizeOf, typeInfo, hi, hs2, Result.andThen, asIntOf, hn, hc, hc', Addr.add_lit]
        exact hc1
    · by_cases hc1 : cap - 1 = 0
      · rw [if_pos hc1]
        have hl : l = [] := List.eq_nil_of_length_eq_zero (by omega)
        subst hl
        exact ⟨g, off, cap - 1, cur, rfl, hb, hB, by simp, by omega, by omega, fun j hj => by simp at hj⟩
      · rw [if_neg hc1]
        refine ⟨g, off + 1, cap - 1, cur, rfl, hb, hB, by omega, by omega, by omega, fun j hj2 => ?_⟩
        have := hj (j + 1) (by omega)
        rw [show off + 1 + j = off + (j + 1) by omega, this]
        rfl
    · by_cases hc1 : cap - 1 = 0
      · rw [if_pos hc1]; rfl
      · rw [if_neg hc1]; rfl
/-- one is put behind -/
theorem IQue.push (q : IQue w base v l) (t ty : TypeId) (i : TypeInfo) (ht : Tryd.prog.underlying t = some (.slice 3)) (hi : Tryd.prog.info? 3 = some i) (hz : i.zero = some (.int .i64 0))
    (hsize : i.size = 1) (hby : i.bytes = 8) (hl : l.length ≤ 1000000) (ad : Addr) (c k : Nat) (hnew : w.cell? ad = some (.int .i64 k)) (hbase : base ≤ w.heap.size) :
    ∃ v' w', (Builtin.append_ #[t, t] ty #[v, .slice (some ad) 1 c]).run Tryd.prog w = .ok v' w' ∧ IQue w' base v' (l ++ [k]) ∧ w.grownBy w' v.ownBlock ∧ (v'.ownBlock = v.ownBlock ∨ ∃ g, v'.ownBlock = some g ∧ w.heap.size ≤ g) := by
  have hnews : ∀ j u, [Value.int .i64 k][j]? = some u → w.cell? (ad.add j) = some u := fun j u h => by
    cases j with
    | zero => rw [Addr.add_zero']; simpa [← hnew] using h
    | succ j => cases h
  rcases q with ⟨rfl, rfl⟩ | ⟨g, off, cap, cur, rfl, hb, hB, hc, hm, hs, hj⟩
  · obtain ⟨v', w', hr, ho, hg, _⟩ := run_append_own (P := Tryd.prog) w w.heap.size t ty 3 i _ 1 8 ht hi hz hsize hby rfl (by decide) (.slice none 0 0) 0 [] (World.ownsRow_nil _ _ _ _) ad 1 c [.int .i64 k] rfl hnews (by intro u hu; simp at hu; subst hu; rfl) (by simp [maxLen]) (by omega) (Nat.le_refl _)
    have hq : IQue w' w.heap.size v' [k] := IQue.own ho
    refine ⟨v', w', hr, ?_, hg, ?_⟩
    · rcases hq with ⟨_, h2⟩ | ⟨g, off, cap, cur, e, hb, r⟩
      · cases h2
      · exact .inr ⟨g, off, cap, cur, e, by omega, r⟩
    · rcases hq with ⟨_, h2⟩ | ⟨g, off, cap, cur, rfl, hb, r⟩
      · cases h2
      · exact .inr ⟨g, rfl, hb⟩
  · by_cases hroom : l.length + 1 ≤ cap
    · have hrun := run_append_room_cells (P := Tryd.prog) w t ty 3 i ht hi g off l.length cap ad 1 c [.int .i64 k] (by simp [hsize]) hnews (by intro u hu; simp at hu; subst hu; rfl) hroom
        (fun j hj2 => by
          rw [hsize, hB.cell]
          simp at hj2
          rw [Array.getElem?_eq_getElem (by omega)]; rfl) (fun j hj2 => hB.frozen _)
      rw [hsize, Nat.mul_one] at hrun
      have e : w.setCells g (off + l.length) [.int .i64 k] = w.setCell ⟨g, off + l.length, none⟩ (.int .i64 k) := rfl
      rw [e] at hrun
      refine ⟨_, _, hrun, .inr ⟨g, off, cap, _, by simp, hb, hB.set_ _ _, by simpa using hroom, hm, by simpa using hs, fun j hj2 => ?_⟩, ⟨rfl, rfl, rfl, by simp, fun k2 _ hne => Below.heap_setCell _ _ _ _ (fun e => hne (by rw [e]; rfl))⟩, .inl rfl⟩
      rw [Array.getElem?_setIfInBounds]
      by_cases hjl : j = l.length
      · subst hjl
        rw [if_pos rfl, if_pos (by omega)]
        simp [List.getD]
      · have hj3 : j < l.length := by simp at hj2; omega
        rw [if_neg (by omega), hj j hj3]
        simp only [List.getD]
        rw [List.getElem?_append_left hj3]
    · obtain ⟨v', w', hr, ho, hg⟩ := run_append_arg_grows (P := Tryd.prog) w t ty 3 i _ 1 8 ht hi hz hsize hby rfl (by decide) ⟨g, off, none⟩ l.length cap (l.map fun (i : Nat) => .int .i64 (i : Int)) (by simp)
        (fun j u hu => by
          have hj2 : j < l.length := by have := (List.getElem?_eq_some_iff.1 hu).1; simpa using this
          rw [Addr.add_lit, hB.cell, hj j hj2, ← hu]
          simp [List.getD, hj2]) ad 1 c [.int .i64 k] rfl hnews (by omega) (by simp only [maxLen]; omega) (by omega)
      have hq : IQue w' w.heap.size v' (l ++ [k]) := IQue.own (by simpa using ho)
      refine ⟨v', w', hr, ?_, ⟨hg.os, hg.tape, hg.output, hg.size, fun k hk _ => hg.block k hk (by simp)⟩, ?_⟩
      · rcases hq with ⟨_, h2⟩ | ⟨g, off, cap, cur, e, hb, r⟩
        · simp at h2
        · exact .inr ⟨g, off, cap, cur, e, by omega, r⟩
      · rcases hq with ⟨_, h2⟩ | ⟨g, off, cap, cur, rfl, hb, r⟩
        · simp at h2
        · exact .inr ⟨g, rfl, hb⟩
theorem wpList_ipush {ops : Array Oper} {rest : List Oper} {o : Oper} {a : Act} {Q : Exit → Act → World → Prop} (hgd : o.guard = none) (s x : Operand) (t : TypeId)
    (ho : o.op = .call { callee := .builtin .append, args := #[s, x], argTypes := #[t, t] }) (i : TypeInfo) (ht : Tryd.prog.underlying t = some (.slice 3)) (hi : Tryd.prog.info? 3 = some i) (hz : i.zero = some (.int .i64 0))
    (hsize : i.size = 1) (hby : i.bytes = 8) (q : IQue w base v l) (hs : a.eval s = v) (hl : l.length ≤ 1000000) (ad : Addr) (c k : Nat) (hx : a.eval x = .slice (some ad) 1 c) (hnew : w.cell? ad = some (.int .i64 k)) (hbase : base ≤ w.heap.size)
    (hK : ∀ v' w', IQue w' base v' (l ++ [k]) → w.grownBy w' v.ownBlock → (v'.ownBlock = v.ownBlock ∨ ∃ g, v'.ownBlock = some g ∧ w.heap.size ≤ g) → wpList Tryd.prog ops Q rest (a.put o.dst v') w') : wpList Tryd.prog ops Q (o :: rest) a w := by
  refine wpList_plain hgd fun K hK' => ?_
  obtain ⟨v', w', hrun, r1, r2, r3⟩ := q.push t o.type i ht hi hz hsize hby hl ad c k hnew hbase
  unfold Oper.wp
  simp [execOp, ho, resolve, invoke, builtin, hs, hx, hrun, Result.andThen]
  exact hK' _ _ (hK v' w' r1 r2 r3)
end
/-- marks and queue of the reference's Cut -/
structure RcSt (w0 w : World) (gn len : Nat) (v : Value) (M : Nat → Bool) (T : List Nat) : Prop where
  ext : Ext w0 w
  row : RowAt w gn 4 len (fun j => .bool (M j))
  que : IQue w (gn + 1) v T
  base : w0.heap.size ≤ gn
section
variable {w0 w w' : World} {gn len : Nat} {v v' : Value} {M M' : Nat → Bool} {T T' : List Nat}
theorem RcSt.ne (s : RcSt w0 w gn len v M T) : some gn ≠ v.ownBlock := fun e => by have := (s.que.block e.symm).1; omega
theorem RcSt.ext' (s : RcSt w0 w gn len v M T) (x : Ext w w') : RcSt w0 w' gn len v M T := ⟨s.ext.trans x, s.row.ext x, s.que.ext x, s.base⟩
theorem RcSt.pushed (s : RcSt w0 w gn len v M T) (q : IQue w' (gn + 1) v' T') (g : w.grownBy w' v.ownBlock) : RcSt w0 w' gn len v' M T' :=
  ⟨s.ext.grown g fun k e => by have := (s.que.block e).1; have := s.base; omega, s.row.grown g s.ne, q, s.base⟩
theorem RcSt.pop (s : RcSt w0 w gn len v M T) (q : IQue w (gn + 1) v' T') : RcSt w0 w gn len v' M T' := ⟨s.ext, s.row, q, s.base⟩
theorem RcSt.mark (s : RcSt w0 w gn len v M T) (k : Nat) : RcSt w0 (w.setCell ⟨gn, k, none⟩ (.bool true)) gn len v (setN M k) T := by
  refine ⟨s.ext.setCell s.base _, s.row.set_ fun j hj => ?_, s.que.far (fun e => s.ne e.symm) _, s.base⟩
  unfold setN
  by_cases e : j = k
  · rw [if_pos e, if_pos e]
  · rw [if_neg e, if_neg e]
end
/-- functions of the call's own, their code shared -/
structure CsSt (w0 w : World) (v : Value) (m : List Fc) : Prop where
  ext : Ext w0 w
  own : w.ownsRow w0.heap.size 50 9 v m.length (fcCells m)
  rows : ∀ f, f ∈ m → CdAt w0 f.A f.code
section
variable {w0 w w' : World} {v v' : Value} {m : List Fc} {f : Fc}
theorem CsSt.ext' (s : CsSt w0 w v m) (x : Ext w w') : CsSt w0 w' v m := ⟨s.ext.trans x, own_ext s.own x, s.rows⟩
theorem CsSt.start (w0 : World) : CsSt w0 w0 (.slice none 0 0) [] := ⟨Ext.refl _, World.ownsRow_nil _ _ _ _, fun f hf => by cases hf⟩
theorem CsSt.pushed (s : CsSt w0 w v m) (g : w.grownBy w' v.ownBlock) (ow : w'.ownsRow w0.heap.size 50 9 v' (m.length + 1) (fcCells m ++ (List.range 9).map (fcC f))) (hr : CdAt w0 f.A f.code) : CsSt w0 w' v' (m ++ [f]) := by
  refine ⟨s.ext.grown g (own_row s.own), by rw [List.length_append, fcCells_snoc]; exact ow, fun f2 h2 => ?_⟩
  rcases List.mem_append.1 h2 with h2 | h2
  · exact s.rows f2 h2
  · rw [List.mem_singleton] at h2
    subst h2
    exact hr
theorem CsSt.out (s : CsSt w0 w v m) : ∃ A cap, v = .slice A m.length cap ∧ FcAt w A m := by
  obtain ⟨A, c, rfl, h⟩ := own_slice s.own
  refine ⟨A, c, rfl, fun hpos => ?_, fun f hf => (s.rows f hf).ext s.ext⟩
  obtain ⟨b, off, rfl, hb, hh⟩ := h hpos
  refine ⟨b, off, rfl, hb, fun i j hi hj => ?_⟩
  rw [hh i j hi hj]
  have := fcCells_get m i j hi hj
  show some ((fcCells m).getD (i * 9 + j) undef) = _
  rw [List.getD, this]; rfl
end
/-- numbers of the first q roots -/
def rootsL (l : List Fc) (rs : List ByteArray) (q : Nat) : List Nat := (rs.take q).map fun r => (indexS l r).toNat
theorem rootsL_len (l : List Fc) (rs : List ByteArray) (q : Nat) : (rootsL l rs q).length ≤ q := by
  unfold rootsL
  rw [List.length_map, List.length_take]
  omega
theorem rootsL_next (l : List Fc) (rs : List ByteArray) {q k : Nat} (hq : q < rs.length) (h : indexS l (rs.getD q ⟨#[]⟩) = k) : rootsL l rs (q + 1) = rootsL l rs q ++ [k] := by
  unfold rootsL
  have e : rs.take (q + 1) = rs.take q ++ [rs.getD q ⟨#[]⟩] := by
    rw [List.take_add_one, List.getD, List.getElem?_eq_getElem hq]; rfl
  rw [e, List.map_append]
  simp only [List.map_cons, List.map_nil]
  rw [h]; rfl
set_option maxRecDepth 100000 in
set_option maxHeartbeats 6400000 in
theorem rCut_any (A : Option Addr) (cap : Nat) (l : List Fc) (B : Option Addr) (capB : Nat) (rs : List ByteArray) (w : World) (hA : FcAt w A l) (hB : StrsAt w B rs) (hr : rs.length ≤ 1000) (hl : l.length ≤ 9223372036854775806) (hc : l.length ≤ 48 → countS l ≤ 9223372036854775806) (hfl : ∀ f, f ∈ l → f.code.length ≤ 9223372036854775806) :
    Calls Tryd.prog 27 #[.slice A l.length cap, .slice B rs.length capB] w fun e w' => CutRet l rs (cutE l rs) e w w' := by
  have HCC := Lib.hid (rCheck_any A cap l w hA hl hc hfl)
  by_cases h0 : (checkE l).2.2 = 0
  · obtain ⟨hv, hun⟩ := check_ok h0
    have H0 := Lib.hid h0
    rw [check_zero h0] at HCC
    obtain ⟨hl48, hcn, _⟩ := valid_parts hv
    have HV := Lib.hid hv
    have HCN := Lib.hid hcn
    obtain ⟨i0, hi0, hz0, hz1, hz2⟩ := info_parts info_func
    have HI := Lib.hid hi0; have HZ0 := Lib.hid hz0; have HZ1 := Lib.hid hz1; have HZ2 := Lib.hid hz2
    obtain ⟨i1, hj0, hy0, hy1, hy2⟩ := info_parts info_int
    have JI := Lib.hid hj0; have JZ0 := Lib.hid hy0; have JZ1 := Lib.hid hy1; have JZ2 := Lib.hid hy2
    have HA := Lib.hid hA
    have HB := Lib.hid hB
    obtain ⟨len, hlen⟩ : ∃ len, len = l.length := ⟨_, rfl⟩
    have HLn := Lib.hid hlen
    obtain ⟨nr, hnr⟩ : ∃ nr, nr = rs.length := ⟨_, rfl⟩
    have HNR := Lib.hid hnr
    rw [← hlen] at hl hl48 HCC ⊢
    rw [← hnr] at hr ⊢
    have hmk := fun W => run_make_row' (P := Tryd.prog) 75 4 (.bool false) 1 Tryd.underlying75 info_bool rfl .i64 .i64 len (by omega) (by omega) W
    clear hlen hnr hv hun h0 hi0 hz0 hz1 hz2 hj0 hy0 hy1 hy2 hA hB hfl hc hcn
    simp only [] at HCC
    go_enter Tryd.func27, Tryd.ntmps27
    go_wp2_with (first
      | (go_at_call 11
         refine (HCC.out).mono ?_
         rintro r w1 ⟨rfl, x1⟩
         have X1 : Hid (Ext w w1) := Lib.hid x1
         clear x1))
    have C0 : Hid (RcSt w1 (w1.alloc (.cells (madeCells #[.bool false] len) 4)) w1.heap.size len (.slice none 0 0) (fun _ => false) []) := ⟨(Ext.refl _).alloc _, RowAt.made w1 _ _ len, IQue.nil _ _, Nat.le_refl _⟩
    clear hmk
    generalize w1.heap.size = gn at C0 ⊢
    go_loopw [10, 11] (fun v i wr => ∃ q, q ≤ nr ∧ i = .int .i64 (q : Nat) ∧ RcSt w1 wr gn len v (fun _ => false) (rootsL l rs q) ∧ ∀ p, p < q → ∃ k : Nat, indexS l (rs.getD p ⟨#[]⟩) = k) (fun _ i _ => nr - (intOf i).toNat)
    case atStart => exact ⟨0, Nat.zero_le _, rfl, C0.out, fun p hp => by omega⟩
    case round =>
      clear C0
      obtain ⟨q, hq, rfl, st, dn⟩ := hrel
      have ST := Lib.hid st
      have DN := Lib.hid dn
      by_cases hlq : q < nr
      · have hql : q < rs.length := by have := HNR.out; omega
        obtain ⟨r, hr⟩ : ∃ r, r = rs.getD q ⟨#[]⟩ := ⟨_, rfl⟩
        obtain ⟨bB, oB, hBe, hbB, cB⟩ := (HB.out.ext (X1.out.trans st.ext)).one hql
        subst hBe
        rw [← hr] at cB
        have HR := Lib.hid hr
        clear st dn hr
        rcases index_spec l r with ⟨ei, _⟩ | ⟨k, ei, hkl, _⟩
        · have EI := Lib.hid ei
          clear ei
          go_wp2_with (first
            | (go_at_call 38
               refine (found_len _ cap l r _ HLn.out (HA.out.ext (X1.out.trans ST.out.ext)) (by omega)).mono ?_
               rw [EI.out]
               rintro e6 w6 ⟨rfl, rfl⟩))
          go_ret2
          refine cutRet_none (cutE_none H0.out hql ?_).symm (by decide) (X1.out.trans ST.out.ext)
          have := EI.out
          rw [HR.out] at this
          omega
        · have EI := Lib.hid ei
          have hln := rootsL_len l rs q
          clear ei
          go_wp2_with (first
            | (go_at_call 38
               refine (found_len _ cap l r _ HLn.out (HA.out.ext (X1.out.trans ST.out.ext)) (by omega)).mono ?_
               rw [EI.out]
               rintro e6 w6 ⟨rfl, rfl⟩)
            | (at_builtin
               refine wpList_ipush rfl _ _ 34 rfl i1 Tryd.underlying34 JI.out JZ0.out JZ1.out JZ2.out (ST.out.ext' ((Ext.refl _).alloc (.cells #[.int .i64 k] 3))).que rfl (by omega) ⟨wr.heap.size, 0, none⟩ 1 k rfl (by rw [(Blk.new wr 3 _).cell]; rfl) (by have := ST.out.row.lt; simp; omega) ?_
               intro v6 w6 q6 g6 _
               have S6 := Lib.hid ((ST.out.ext' ((Ext.refl _).alloc (.cells #[.int .i64 k] 3))).pushed q6 g6)
               clear q6 g6))
          have ek : indexS l (rs.getD q ⟨#[]⟩) = k := by rw [← HR.out]; exact EI.out
          refine ⟨⟨q + 1, by omega, by go_num, by rw [rootsL_next l rs hql ek]; exact S6.out, fun p hp => ?_⟩, by simp [intOf]; omega⟩
          rcases Nat.lt_or_ge p q with h | h
          · exact DN.out p h
          · obtain rfl : p = q := by omega
            exact ⟨k, ek⟩
      · obtain rfl : q = nr := by omega
        have BI : Hid (BInv l rs (fun _ => false) (rootsL l rs q)) := by
          have h := BInv.start (l := l) (rs := rs) (fun p hp => DN.out p (by have := HNR.out; omega))
          unfold rootsL
          rw [List.take_of_length_le (by have := HNR.out; omega)]
          exact h
        have BM : Hid (bMs l (fun _ => false) (rootsL l rs q) ≤ 3000) := by
          have h1 := rootsL_len l rs q
          have h2 := HCN.out
          unfold bMs
          rw [rest_start]
          unfold Hid
          omega
        clear st dn hq hlq
        generalize rootsL l rs q = T0 at ST BI BM ⊢
        go_wp2_with fail
        go_loopg [10] (bMs l (fun _ => false) T0) (fun n v wr => ∃ M T, RcSt w1 wr gn len v M T ∧ BInv l rs M T ∧ bMs l M T ≤ n ∧ bMs l M T ≤ 3000)
        case atStart => exact ⟨_, _, ST.out, BI.out, Nat.le_refl _, BM.out⟩
        case round =>
          clear ST BI BM
          obtain ⟨M, T, st, bi, hkk, hms⟩ := hrel
          have ST := Lib.hid st
          have BI := Lib.hid bi
          cases T with
          | nil =>
            obtain ⟨aq, cq, hv⟩ := st.que.slice
            subst hv
            have NR : Hid (∀ i, M i = true ↔ Need l (Roots l rs) i) := fun i => bi.end_ i
            have T0 : Hid (CutTo l (fun i => M i = true) 0 []) := CutTo.start _ _
            clear st bi hkk hms BI
            simp only [List.length_nil]
            go_wp2_with fail
            generalize wr = wq at *
            go_loopw [15, 16] (fun v i wr => ∃ k m, k ≤ len ∧ i = .int .i64 (k : Nat) ∧ CsSt wq wr v m ∧ CutTo l (fun i => M i = true) k m) (fun _ i _ => len - (intOf i).toNat)
            case atStart => exact ⟨0, [], Nat.zero_le _, rfl, CsSt.start _, T0.out⟩
            case round =>
              clear T0
              obtain ⟨k, m, hk, rfl, st, ct⟩ := hrel
              have TS := Lib.hid st
              have CT := Lib.hid ct
              by_cases hlt : k < len
              · obtain ⟨f, hf⟩ : ∃ f, f = l.getD k default := ⟨_, rfl⟩
                have hkl : k < l.length := by have := HLn.out; omega
                obtain ⟨b, off, hAe, hb, c0, c1, c2, c3, c4, c5, c6, c7, c8, hcd⟩ := (HA.out.ext (X1.out.trans (ST.out.ext.trans st.ext))).at_ (k := k) hkl hf
                subst hAe
                obtain ⟨nc, hnc⟩ : ∃ nc, nc = f.code.length := ⟨_, rfl⟩
                have HNC := Lib.hid hnc
                have HCD : Hid (CdAt wq f.A f.code) := (HA.out.sub f (by rw [hf]; exact getD_mem hkl)).ext (X1.out.trans ST.out.ext)
                have HF := Lib.hid hf
                rw [← hnc] at c8
                have n0 := (ST.out.row.ext st.ext).cell hlt
                have zn := (ST.out.row.ext st.ext).lt
                clear hnc hcd hf st ct
                cases hm : M k with
                | true =>
                  rw [hm] at n0
                  have HM := Lib.hid hm
                  have TS5 := Lib.hid (TS.out.ext' ((Ext.refl wr).alloc (.cells #[.string f.name, .int .i64 f.params, .int .i64 f.places, .int .i64 f.ty.base, .int .i64 f.ty.bits, .string f.ty.name, .bool f.ty.opt, .bool f.ty.err, .slice f.A nc f.cap] 50)))
                  have HN : Hid ((List.range 9).map (fcC f) = [.string f.name, .int .i64 f.params, .int .i64 f.places, .int .i64 f.ty.base, .int .i64 f.ty.bits, .string f.ty.name, .bool f.ty.opt, .bool f.ty.err, .slice f.A nc f.cap]) := by
                    have e2 : (List.range 9).map (fcC f) = [.string f.name, .int .i64 f.params, .int .i64 f.places, .int .i64 f.ty.base, .int .i64 f.ty.bits, .string f.ty.name, .bool f.ty.opt, .bool f.ty.err, .slice f.A f.code.length f.cap] := rfl
                    rw [e2, HNC.out]
                    exact Lib.hid rfl
                  have hmn : m.length + 1 ≤ 48 := by have := CT.out.1; have := idx_len (fun i => M i = true) k; omega
                  clear hm
                  go_wp2_with (first
                    | (at_builtin
                       refine wpList_append_own _ rfl _ _ 22 rfl wq.heap.size 50 i0 _ 9 96 Tryd.underlying22 HI.out HZ0.out HZ1.out HZ2.out rfl (by decide) _ _ _ rfl TS5.out.own ⟨wr.heap.size, 0, none⟩ 1 1 [.string f.name, .int .i64 f.params, .int .i64 f.places, .int .i64 f.ty.base, .int .i64 f.ty.bits, .string f.ty.name, .bool f.ty.opt, .bool f.ty.err, .slice f.A nc f.cap] rfl rfl ?c1 ?c2 ?c3 ?c4 ?c5 ?_))
                  case c1 =>
                    intro j2 u hj2
                    rw [Addr.add_lit, Nat.zero_add]
                    rw [(Blk.new wr 50 _).cell]
                    simpa using hj2
                  case c2 => rw [← HN.out]; exact fc_one f
                  case c3 => unfold maxLen; omega
                  case c4 => omega
                  case c5 => have := TS5.out.ext.size; omega
                  intro v' w7 ow7 g7 _
                  rw [← HN.out] at ow7
                  have ST7 := Lib.hid (TS5.out.pushed g7 ow7 (f := f) HCD.out)
                  clear ow7 g7 c0 c1 c2 c3 c4 c5 c6 c7 c8
                  go_wp2_with fail
                  exact ⟨⟨k + 1, m ++ [f], by omega, by go_num, ST7.out, CT.out.in_ HM.out (by rw [← HF.out]; exact like_self f)⟩, by simp [intOf]; omega⟩
                | false =>
                  rw [hm] at n0
                  have HM := Lib.hid hm
                  clear hm
                  go_wp2_with fail
                  exact ⟨⟨k + 1, m, by omega, by go_num, TS.out, CT.out.out (by rw [HM.out]; decide)⟩, by simp [intOf]; omega⟩
              · obtain rfl : k = len := by omega
                obtain ⟨A', cap', hv, hfc⟩ := st.out
                subst hv
                clear st ct
                go_wp2_with fail
                go_ret2
                exact cutRet_some H0.out (fun p hp => DN.out p (by have := HNR.out; omega)) hfc (by rw [← HLn.out]; exact CT.out) NR.out (X1.out.trans (ST.out.ext.trans TS.out.ext))
          | cons k T =>
            obtain ⟨g, off, capq, a2, c2, hv, hbg, hg, q0, hsl, hq, hob⟩ := st.que.pop
            subst hv
            have hkl := need_in (bi.needT k (List.mem_cons_self ..))
            have hk : k < len := by have := HLn.out; omega
            have n0 := st.row.cell hk
            have f0 := st.row.frozen k
            have zn := st.row.lt
            have HQ := Lib.hid hq
            have HMS := Lib.hid hms
            have hnT : T.length ≤ 3000 := by unfold bMs at hms; simp only [List.length_cons] at hms; omega
            clear st bi hq hms
            generalize hnT2 : T.length = nT at *
            have HNT := Lib.hid hnT2
            clear hnT2
            cases hm : M k with
            | true =>
              rw [hm] at n0
              have HM := Lib.hid hm
              clear hm
              go_wp2_with fail
              have e2 : bMs l M T < bMs l M (k :: T) := by unfold bMs; simp
              have e3 := HMS.out
              go_roundg (gk - 1)
              case measure => omega
              case rel => exact ⟨_, _, ST.out.pop HQ.out, BI.out.skip HM.out, by omega, by omega⟩
            | false =>
              rw [hm] at n0
              have HM := Lib.hid hm
              clear hm
              obtain ⟨f, hf⟩ : ∃ f, f = l.getD k default := ⟨_, rfl⟩
              have hsn : Sane f.code := sane_of HV.out (by rw [hf]; exact getD_mem hkl)
              have hfew := hsn.few
              have S1 := Lib.hid ((ST.out.pop HQ.out).mark k)
              obtain ⟨b, offA, hAe, hb, c0, c1, c2, c3, c4, c5, c6, c7, c8, hcd⟩ := (HA.out.ext (X1.out.trans S1.out.ext)).at_ (k := k) hkl hf
              subst hAe
              obtain ⟨bc, oc, hac, hbc, _⟩ := (HA.out.sub f (by rw [hf]; exact getD_mem hkl)) (by have := hsn.pos; omega)
              obtain ⟨nc, hnc⟩ : ∃ nc, nc = f.code.length := ⟨_, rfl⟩
              have HNC := Lib.hid hnc
              rw [← hnc] at hfew
              have HAC := Lib.hid hac
              have HF := Lib.hid hf
              clear hf hnc hac hsn hcd c0 c1 c2 c3 c4 c5 c6 c7 c8 hb
              go_wp2_with fail
              generalize wr.setCell ⟨gn, k, none⟩ (.bool true) = w4 at S1 ⊢
              clear q0 hsl hg hbg n0 f0 zn
              go_loopw [10, 14] (fun v i wr => ∃ q, q ≤ nc ∧ i = .int .i64 (q : Nat) ∧ RcSt w1 wr gn len v (setN M k) (T ++ callsL l (f.code.take q))) (fun _ i _ => nc - (intOf i).toNat)
              case atStart => exact ⟨0, Nat.zero_le _, rfl, by rw [List.take_zero, show callsL l [] = [] from rfl, List.append_nil]; exact S1.out⟩
              case round =>
                clear S1
                obtain ⟨q, hq, rfl, st⟩ := hrel
                have SU := Lib.hid st
                obtain ⟨b', offA', hAe, hb, c0, c1, c2, c3, c4, c5, c6, c7, c8, hcd⟩ := (HA.out.ext (X1.out.trans SU.out.ext)).at_ (k := k) hkl HF.out
                cases hAe
                rw [← HNC.out, HAC.out] at c8
                clear c0 c1 c2 c3 c4 c5 c6 c7 st
                by_cases hlq : q < nc
                · have hqf : q < f.code.length := by have := HNC.out; omega
                  obtain ⟨x, hxx⟩ : ∃ x, x = f.code.getD q default := ⟨_, rfl⟩
                  obtain ⟨b5, o5, he5, hb5, d0, d1, d2, d3, d4, d5, d6, d7, d8⟩ := hcd.at_ (k := q) hqf hxx
                  rw [HAC.out] at he5
                  cases he5
                  have HX := Lib.hid hxx
                  have hcl : (callsL l (f.code.take q)).length ≤ 2000 := by
                    have h1 := callsL_len l (f.code.take q)
                    rw [List.length_take] at h1
                    omega
                  have hTL : (T ++ callsL l (f.code.take q)).length ≤ 5000 := by rw [List.length_append, HNT.out]; omega
                  clear hcd hxx d1 d2 d3 d4 d5 d6 d7 hcl
                  go_wp2_with (first
                    | (go_at_call 38
                       have h16 : x.op = 16 := by first | assumption | (have h : (x.op == 16) = true := by assumption
                                                                        simpa using h)
                       obtain ⟨j, hj, hjl⟩ := call_found HV.out hkl (x := x) (by rw [← HF.out, HX.out]; exact getD_mem hqf) h16
                       refine (found_len _ cap l x.name _ HLn.out (HA.out.ext (X1.out.trans SU.out.ext)) (by omega)).mono ?_
                       rw [hj]
                       rintro e6 w6 ⟨rfl, rfl⟩
                       have HJ := Lib.hid hj
                       clear hj)
                    | (at_builtin
                       refine wpList_ipush rfl _ _ 34 rfl i1 Tryd.underlying34 JI.out JZ0.out JZ1.out JZ2.out (SU.out.ext' ((Ext.refl _).alloc (.cells #[.int .i64 j] 3))).que rfl (by omega) ⟨wr.heap.size, 0, none⟩ 1 j rfl (by rw [(Blk.new wr 3 _).cell]; rfl) (by have := SU.out.row.lt; simp; omega) ?_
                       intro v6 w6 q6 g6 _
                       have S6 := Lib.hid ((SU.out.ext' ((Ext.refl _).alloc (.cells #[.int .i64 j] 3))).pushed q6 g6)
                       clear q6 g6))
                  case roundEnd =>
                    refine ⟨⟨q + 1, by omega, by go_num, ?_⟩, by simp [intOf]; omega⟩
                    rw [callsL_hit l hqf (by rw [← HX.out]; assumption), ← List.append_assoc, ← HX.out, HJ.out]
                    exact S6.out
                  case roundEnd =>
                    have h16 : x.op ≠ 16 := by first | assumption | (have h : (x.op == 16) = false := by assumption
                                                                     simpa using h)
                    refine ⟨⟨q + 1, by omega, by go_num, ?_⟩, by simp [intOf]; omega⟩
                    rw [callsL_miss l hqf (by rw [← HX.out]; exact h16)]
                    exact SU.out
                · obtain rfl : q = nc := by omega
                  clear hcd
                  go_wp2_with fail
                  have e1 := BI.out.on HV.out
                  have e2 := BI.out.ms HM.out
                  have e3 := HMS.out
                  have s9 := SU.out
                  rw [List.take_of_length_le (by have := HNC.out; omega)] at s9
                  rw [← HF.out] at e1 e2
                  go_roundg (gk - 1)
                  case measure => omega
                  case rel => exact ⟨_, _, s9, e1, by omega, by omega⟩
  · have hb : ((checkE l).2.2 != 0) = true := by simpa using h0
    have HE := Lib.hid (cutE_bad (rs := rs) h0)
    have HH := Lib.hid h0
    generalize checkE l = ce at *
    obtain ⟨e1, e2, e3⟩ := ce
    simp only [] at hb HE HH HCC ⊢
    generalize l.length = len at *
    generalize rs.length = nr at *
    clear h0
    go_enter Tryd.func27, Tryd.ntmps27
    go_wp2_with (first
      | (go_at_call 11; refine (HCC.out).mono ?_; rintro r w1 ⟨rfl, x1⟩))
    go_ret2
    exact cutRet_none HE.out.symm HH.out (by (repeat (first | (with_reducible exact Ext.refl _) | (with_reducible assumption) | (with_reducible refine Ext.alloc ?_ _) | (with_reducible refine Ext.drewN ?_ _) | (with_reducible refine Ext.drew ?_) | (with_reducible refine Ext.setCell ?_ ?_ _; rotate_left; first | assumption | (simp; done) | (simp; omega)) | (with_reducible refine Ext.trans ?_ (by with_reducible assumption)))))
theorem cut_nil : LikeL [] [] := ⟨rfl, fun k hk => by cases hk⟩
theorem cutE_zero {l : List Fc} {rs : List ByteArray} (h : cutE l rs = 0) : (checkE l).2.2 = 0 := by
  by_cases h0 : (checkE l).2.2 = 0
  · exact h0
  · rw [cutE_bad h0] at h
    exact absurd h h0
theorem like_small {l m : List Fc} (h : LikeL l m) {n : Nat} (hs : ∀ f, f ∈ m → f.code.length ≤ n) : ∀ f, f ∈ l → f.code.length ≤ n := by
  intro f hf
  obtain ⟨k, hk, rfl⟩ := List.getElem_of_mem hf
  have e := (h.2 k hk).code
  rw [List.getD, List.getD, List.getElem?_eq_getElem hk, Option.getD_some] at e
  rw [← e]
  exact hs _ (getD_mem (by rw [h.1]; exact hk))
/-- what is cut is sound, and cut again it is the same -/
theorem cut_twice {l m : List Fc} {rs : List ByteArray} (h : cutE l rs = 0) (c : CutL l (Need l (Roots l rs)) m) (hr : ∀ r, r ∈ rs → 0 ≤ indexS l r) :
    checkE m = (0, 0, 0) ∧ cutE m rs = 0 ∧ (∀ m2, CutL m (Need m (Roots m rs)) m2 → LikeL m2 m) ∧ m.length ≤ 48 ∧ countS m ≤ 2000 ∧ ∀ f, f ∈ m → f.code.length ≤ 2000 := by
  have h0 := cutE_zero h
  have hv := (check_ok h0).1
  have hm := c.of.check h0 fun i j _ h1 h2 => .call h1 h2
  have hm0 : (checkE m).2.2 = 0 := by rw [hm]
  have h3 := valid_parts (check_ok hm0).1
  have hra := root_again hv c hr
  exact ⟨hm, (cutE_ok hm0 fun p hp => ⟨(indexS m (rs.getD p ⟨#[]⟩)).toNat, by have := hra _ (name_mem hp); omega⟩).1, fun m2 c2 => cut_whole c2 (need_again hv c), h3.1, h3.2.1, fun f hf => Nat.le_trans (len_count hf) h3.2.1⟩
theorem cCut_at {nr : Nat} (A : Option Addr) (cap : Nat) (l : List Fc) (B : Option Addr) (capB : Nat) (rs : List ByteArray) (w : World) (h : nr = rs.length) (g : Laid w) (hA : FcAt w A l) (hB : StrsAt w B rs) (hr : nr ≤ 9223372036854775806) (hl : l.length ≤ 9223372036854775806) (hc : l.length ≤ 48 → countS l ≤ 9223372036854775806) (hfl : ∀ f, f ∈ l → f.code.length ≤ 9223372036854775806) :
    Calls Tryd.prog 26 #[.slice A l.length cap, .slice B nr capB] w fun e w' => CutRet l rs (cutE l rs) e w w' := by
  subst h
  exact cCut_any A cap l B capB rs w g hA hB hr hl hc hfl
set_option maxRecDepth 100000 in
set_option maxHeartbeats 1600000 in
theorem cuts_any (A : Option Addr) (cap : Nat) (l : List Fc) (B : Option Addr) (capB : Nat) (rs : List ByteArray) (w : World) (L : Laid w) (hA : FcAt w A l) (hl : l.length ≤ 140737488355328) (hfl : ∀ f, f ∈ l → f.code.length ≤ 140737488355328) (hB : StrsAt w B rs) (hr : rs.length ≤ 140737488355328) :
    Calls Tryd.prog 7 #[.slice A l.length cap, .slice B rs.length capB] w fun e w' => e = .returned (.bool true) ∧ Ext w w' := by
  have hc : l.length ≤ 100 → countS l ≤ 9223372036854775806 := fun h => by
    have h1 := count_mul l _ hfl
    have h2 := Nat.mul_le_mul_right 140737488355328 h
    omega
  have HLG := Lib.hid (long_any A cap l w hA (by omega) hc)
  have HCT := Lib.hid (cCut_any A cap l B capB rs w L hA hB (by omega) (by omega) (fun h => hc (by omega)) (fun f hf => by have := hfl f hf; omega))
  have HRT : Hid (∀ w1, Ext w w1 → rs.length ≤ 1000 → Calls Tryd.prog 27 #[.slice A l.length cap, .slice B rs.length capB] w1 fun e w' => CutRet l rs (cutE l rs) e w1 w') :=
    fun w1 x hr2 => rCut_any A cap l B capB rs w1 (hA.ext x) (At.ext hB x) hr2 (by omega) (fun h => hc (by omega)) (fun f hf => by have := hfl f hf; omega)
  have HB := Lib.hid hB
  obtain ⟨lb, hlb⟩ : ∃ lb, lb = longS l := ⟨_, rfl⟩
  have HLB := Lib.hid hlb
  have HTW : Hid (cutE l rs = 0 → ∀ m, CutL l (Need l (Roots l rs)) m → (∀ r, r ∈ rs → 0 ≤ indexS l r) → checkE m = (0, 0, 0) ∧ cutE m rs = 0 ∧ (∀ m2, CutL m (Need m (Roots m rs)) m2 → LikeL m2 m) ∧ m.length ≤ 48 ∧ countS m ≤ 2000 ∧ ∀ f, f ∈ m → f.code.length ≤ 2000) := fun h m c h2 => cut_twice h c h2
  obtain ⟨len, hlen⟩ : ∃ len, len = l.length := ⟨_, rfl⟩
  rw [← hlen] at hl HLG HCT HRT ⊢
  obtain ⟨nr, hnr⟩ : ∃ nr, nr = rs.length := ⟨_, rfl⟩
  have HNR := Lib.hid hnr
  rw [← hnr] at hr HCT HRT ⊢
  generalize cutE l rs = er at *
  clear hA hB hfl hlb hc hlen hnr
  cases lb
  · by_cases hbig : 100 < nr
    · go_enter Tryd.func7, Tryd.ntmps7
      go_wp2_with (first
        | (go_at_call 8; refine (HLG.out).mono ?_; rw [← HLB.out]; rintro r w' ⟨rfl, rfl⟩)
        | (go_at_call 9; refine (known_any _ (L.ext (by (repeat (first | (with_reducible exact Ext.refl _) | (with_reducible assumption) | (with_reducible refine Ext.alloc ?_ _) | (with_reducible refine Ext.drewN ?_ _) | (with_reducible refine Ext.drew ?_) | (with_reducible refine Ext.setCell ?_ ?_ _; rotate_left; first | assumption | (simp; done) | (simp; omega)) | (with_reducible refine Ext.trans ?_ (by with_reducible assumption))))))).mono ?_; rintro r w9 ⟨rfl, x9⟩))
      go_ret
      exact ⟨rfl, by (repeat (first | (with_reducible exact Ext.refl _) | (with_reducible assumption) | (with_reducible refine Ext.alloc ?_ _) | (with_reducible refine Ext.drewN ?_ _) | (with_reducible refine Ext.drew ?_) | (with_reducible refine Ext.setCell ?_ ?_ _; rotate_left; first | assumption | (simp; done) | (simp; omega)) | (with_reducible refine Ext.trans ?_ (by with_reducible assumption))))⟩
    · have HRT2 : Hid (nr ≤ 1000) := by unfold Hid; omega
      by_cases h0 : er = 0
      · subst h0
        have HTW2 := Lib.hid (HTW.out rfl)
        clear HTW
        go_enter Tryd.func7, Tryd.ntmps7
        go_wp2_with (first
          | (go_at_call 8; refine (HLG.out).mono ?_; rw [← HLB.out]; rintro r w' ⟨rfl, rfl⟩; have tk1 := True.intro; have tk2 := True.intro)
          | (go_at_call 9; refine (known_any _ (L.ext (by (repeat (first | (with_reducible exact Ext.refl _) | (with_reducible assumption) | (with_reducible refine Ext.alloc ?_ _) | (with_reducible refine Ext.drewN ?_ _) | (with_reducible refine Ext.drew ?_) | (with_reducible refine Ext.setCell ?_ ?_ _; rotate_left; first | assumption | (simp; done) | (simp; omega)) | (with_reducible refine Ext.trans ?_ (by with_reducible assumption))))))).mono ?_; rintro r w9 ⟨rfl, x9⟩)
          | (go_at_call 26
             have _t := tk1
             refine (HCT.out).mono ?_
             rintro r w1 ⟨v1, m1, A1, c1, rfl, rfl, f1, t1, n1, x1⟩
             have F1 := Lib.hid f1
             have T1 := Lib.hid (t1 rfl)
             have K1 := Lib.hid (HTW2.out m1 (t1 rfl).1 (t1 rfl).2)
             clear tk1 f1 t1 n1)
          | (go_at_call 27
             refine (HRT.out _ (by (repeat (first | (with_reducible exact Ext.refl _) | (with_reducible assumption) | (with_reducible refine Ext.alloc ?_ _) | (with_reducible refine Ext.drewN ?_ _) | (with_reducible refine Ext.drew ?_) | (with_reducible refine Ext.setCell ?_ ?_ _; rotate_left; first | assumption | (simp; done) | (simp; omega)) | (with_reducible refine Ext.trans ?_ (by with_reducible assumption))))) HRT2.out).mono ?_
             rintro r w2 ⟨v2, m2, A2, c2, rfl, rfl, f2, t2, n2, x2⟩
             have F2 := Lib.hid f2
             have T2 := Lib.hid (t2 rfl).1
             clear f2 t2 n2)
          | (go_at_call 25
             have _t := tk2
             refine (same_any A1 A2 c1 c2 m1 m2 _ (F1.out.ext (by (repeat (first | (with_reducible exact Ext.refl _) | (with_reducible assumption) | (with_reducible refine Ext.alloc ?_ _) | (with_reducible refine Ext.drewN ?_ _) | (with_reducible refine Ext.drew ?_) | (with_reducible refine Ext.setCell ?_ ?_ _; rotate_left; first | assumption | (simp; done) | (simp; omega)) | (with_reducible refine Ext.trans ?_ (by with_reducible assumption)))))) (F2.out.ext (by (repeat (first | (with_reducible exact Ext.refl _) | (with_reducible assumption) | (with_reducible refine Ext.alloc ?_ _) | (with_reducible refine Ext.drewN ?_ _) | (with_reducible refine Ext.drew ?_) | (with_reducible refine Ext.setCell ?_ ?_ _; rotate_left; first | assumption | (simp; done) | (simp; omega)) | (with_reducible refine Ext.trans ?_ (by with_reducible assumption)))))) (cut_like T1.out.1 T2.out) (by have := K1.out.2.2.2.1; omega) (fun f hf => by have := K1.out.2.2.2.2.2 f hf; omega)).mono ?_
             rintro r w3 ⟨rfl, x3⟩
             clear tk2)
          | (go_at_call 26
             refine (cCut_at A1 c1 m1 B capB rs _ HNR.out (L.ext (by (repeat (first | (with_reducible exact Ext.refl _) | (with_reducible assumption) | (with_reducible refine Ext.alloc ?_ _) | (with_reducible refine Ext.drewN ?_ _) | (with_reducible refine Ext.drew ?_) | (with_reducible refine Ext.setCell ?_ ?_ _; rotate_left; first | assumption | (simp; done) | (simp; omega)) | (with_reducible refine Ext.trans ?_ (by with_reducible assumption)))))) (F1.out.ext (by (repeat (first | (with_reducible exact Ext.refl _) | (with_reducible assumption) | (with_reducible refine Ext.alloc ?_ _) | (with_reducible refine Ext.drewN ?_ _) | (with_reducible refine Ext.drew ?_) | (with_reducible refine Ext.setCell ?_ ?_ _; rotate_left; first | assumption | (simp; done) | (simp; omega)) | (with_reducible refine Ext.trans ?_ (by with_reducible assumption)))))) (At.ext HB.out (by (repeat (first | (with_reducible exact Ext.refl _) | (with_reducible assumption) | (with_reducible refine Ext.alloc ?_ _) | (with_reducible refine Ext.drewN ?_ _) | (with_reducible refine Ext.drew ?_) | (with_reducible refine Ext.setCell ?_ ?_ _; rotate_left; first | assumption | (simp; done) | (simp; omega)) | (with_reducible refine Ext.trans ?_ (by with_reducible assumption)))))) (by omega) (by have := K1.out.2.2.2.1; omega) (fun _ => by have := K1.out.2.2.2.2.1; omega) (fun f hf => by have := K1.out.2.2.2.2.2 f hf; omega)).mono ?_
             rw [K1.out.2.1]
             rintro r w4 ⟨v4, m4, A4, c4, rfl, rfl, f4, t4, n4, x4⟩
             have F4 := Lib.hid f4
             have T4 := Lib.hid (K1.out.2.2.1 m4 (t4 rfl).1)
             clear f4 t4 n4)
          | (go_at_call 10
             refine (cCheck_any A1 c1 m1 _ (L.ext (by (repeat (first | (with_reducible exact Ext.refl _) | (with_reducible assumption) | (with_reducible refine Ext.alloc ?_ _) | (with_reducible refine Ext.drewN ?_ _) | (with_reducible refine Ext.drew ?_) | (with_reducible refine Ext.setCell ?_ ?_ _; rotate_left; first | assumption | (simp; done) | (simp; omega)) | (with_reducible refine Ext.trans ?_ (by with_reducible assumption)))))) (F1.out.ext (by (repeat (first | (with_reducible exact Ext.refl _) | (with_reducible assumption) | (with_reducible refine Ext.alloc ?_ _) | (with_reducible refine Ext.drewN ?_ _) | (with_reducible refine Ext.drew ?_) | (with_reducible refine Ext.setCell ?_ ?_ _; rotate_left; first | assumption | (simp; done) | (simp; omega)) | (with_reducible refine Ext.trans ?_ (by with_reducible assumption)))))) (by have := K1.out.2.2.2.1; omega) (fun _ => by have := K1.out.2.2.2.2.1; omega) (fun f hf => by have := K1.out.2.2.2.2.2 f hf; omega)).mono ?_
             rw [K1.out.1]
             rintro r w5 ⟨rfl, x5⟩)
          | (go_at_call 25
             refine (same_any A4 A1 c4 c1 m4 m1 _ (F4.out.ext (by (repeat (first | (with_reducible exact Ext.refl _) | (with_reducible assumption) | (with_reducible refine Ext.alloc ?_ _) | (with_reducible refine Ext.drewN ?_ _) | (with_reducible refine Ext.drew ?_) | (with_reducible refine Ext.setCell ?_ ?_ _; rotate_left; first | assumption | (simp; done) | (simp; omega)) | (with_reducible refine Ext.trans ?_ (by with_reducible assumption)))))) (F1.out.ext (by (repeat (first | (with_reducible exact Ext.refl _) | (with_reducible assumption) | (with_reducible refine Ext.alloc ?_ _) | (with_reducible refine Ext.drewN ?_ _) | (with_reducible refine Ext.drew ?_) | (with_reducible refine Ext.setCell ?_ ?_ _; rotate_left; first | assumption | (simp; done) | (simp; omega)) | (with_reducible refine Ext.trans ?_ (by with_reducible assumption)))))) T4.out (by have := K1.out.2.2.2.1; have := T4.out.1; omega) (fun f hf => by have := like_small T4.out K1.out.2.2.2.2.2 f hf; omega)).mono ?_
             rintro r w6 ⟨rfl, x6⟩))
        all_goals
          go_ret
          exact ⟨rfl, by (repeat (first | (with_reducible exact Ext.refl _) | (with_reducible assumption) | (with_reducible refine Ext.alloc ?_ _) | (with_reducible refine Ext.drewN ?_ _) | (with_reducible refine Ext.drew ?_) | (with_reducible refine Ext.setCell ?_ ?_ _; rotate_left; first | assumption | (simp; done) | (simp; omega)) | (with_reducible refine Ext.trans ?_ (by with_reducible assumption))))⟩
      · have hb : (er != 0) = true := by simpa using h0
        go_enter Tryd.func7, Tryd.ntmps7
        go_wp2_with (first
          | (go_at_call 8; refine (HLG.out).mono ?_; rw [← HLB.out]; rintro r w' ⟨rfl, rfl⟩)
          | (go_at_call 9; refine (known_any _ (L.ext (by (repeat (first | (with_reducible exact Ext.refl _) | (with_reducible assumption) | (with_reducible refine Ext.alloc ?_ _) | (with_reducible refine Ext.drewN ?_ _) | (with_reducible refine Ext.drew ?_) | (with_reducible refine Ext.setCell ?_ ?_ _; rotate_left; first | assumption | (simp; done) | (simp; omega)) | (with_reducible refine Ext.trans ?_ (by with_reducible assumption))))))).mono ?_; rintro r w9 ⟨rfl, x9⟩)
          | (go_at_call 26
             refine (HCT.out).mono ?_
             rintro r w1 ⟨v1, m1, A1, c1, rfl, rfl, f1, t1, n1, x1⟩
             have e1 := n1 h0
             subst e1
             have F1 := Lib.hid f1
             clear f1 t1 n1)
          | (go_at_call 27
             refine (HRT.out _ (by (repeat (first | (with_reducible exact Ext.refl _) | (with_reducible assumption) | (with_reducible refine Ext.alloc ?_ _) | (with_reducible refine Ext.drewN ?_ _) | (with_reducible refine Ext.drew ?_) | (with_reducible refine Ext.setCell ?_ ?_ _; rotate_left; first | assumption | (simp; done) | (simp; omega)) | (with_reducible refine Ext.trans ?_ (by with_reducible assumption))))) HRT2.out).mono ?_
             rintro r w2 ⟨v2, m2, A2, c2, rfl, rfl, f2, t2, n2, x2⟩
             have e2 := n2 h0
             subst e2
             have F2 := Lib.hid f2
             clear f2 t2 n2)
          | (go_at_call 25
             refine (same_any A1 A2 c1 c2 [] [] _ (F1.out.ext (by (repeat (first | (with_reducible exact Ext.refl _) | (with_reducible assumption) | (with_reducible refine Ext.alloc ?_ _) | (with_reducible refine Ext.drewN ?_ _) | (with_reducible refine Ext.drew ?_) | (with_reducible refine Ext.setCell ?_ ?_ _; rotate_left; first | assumption | (simp; done) | (simp; omega)) | (with_reducible refine Ext.trans ?_ (by with_reducible assumption)))))) (F2.out.ext (by (repeat (first | (with_reducible exact Ext.refl _) | (with_reducible assumption) | (with_reducible refine Ext.alloc ?_ _) | (with_reducible refine Ext.drewN ?_ _) | (with_reducible refine Ext.drew ?_) | (with_reducible refine Ext.setCell ?_ ?_ _; rotate_left; first | assumption | (simp; done) | (simp; omega)) | (with_reducible refine Ext.trans ?_ (by with_reducible assumption)))))) cut_nil (by simp) (fun f hf => by cases hf)).mono ?_
             rintro r w3 ⟨rfl, x3⟩))
        all_goals
          go_ret
          exact ⟨rfl, by (repeat (first | (with_reducible exact Ext.refl _) | (with_reducible assumption) | (with_reducible refine Ext.alloc ?_ _) | (with_reducible refine Ext.drewN ?_ _) | (with_reducible refine Ext.drew ?_) | (with_reducible refine Ext.setCell ?_ ?_ _; rotate_left; first | assumption | (simp; done) | (simp; omega)) | (with_reducible refine Ext.trans ?_ (by with_reducible assumption))))⟩
  · go_enter Tryd.func7, Tryd.ntmps7
    go_wp2_with (first
      | (go_at_call 8; refine (HLG.out).mono ?_; rw [← HLB.out]; rintro r w' ⟨rfl, rfl⟩)
      | (go_at_call 9; refine (known_any _ (L.ext (by (repeat (first | (with_reducible exact Ext.refl _) | (with_reducible assumption) | (with_reducible refine Ext.alloc ?_ _) | (with_reducible refine Ext.drewN ?_ _) | (with_reducible refine Ext.drew ?_) | (with_reducible refine Ext.setCell ?_ ?_ _; rotate_left; first | assumption | (simp; done) | (simp; omega)) | (with_reducible refine Ext.trans ?_ (by with_reducible assumption))))))).mono ?_; rintro r w9 ⟨rfl, x9⟩))
    go_ret
    exact ⟨rfl, by (repeat (first | (with_reducible exact Ext.refl _) | (with_reducible assumption) | (with_reducible refine Ext.alloc ?_ _) | (with_reducible refine Ext.drewN ?_ _) | (with_reducible refine Ext.drew ?_) | (with_reducible refine Ext.setCell ?_ ?_ _; rotate_left; first | assumption | (simp; done) | (simp; omega)) | (with_reducible refine Ext.trans ?_ (by with_reducible assumption))))⟩
end Go.Proofs.YtamgalmlhjbbdaaDoor.c
