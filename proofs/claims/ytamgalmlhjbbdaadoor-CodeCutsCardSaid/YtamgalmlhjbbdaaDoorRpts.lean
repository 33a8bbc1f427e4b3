/- Contracts of the reference's isHeight, ways. Conditions: sizes; for ways that the height is right. Memory of the reference's pairs: its maps, its marks, its queue. No condition. -/
import Derived.Test.YtamgalmlhjbbdaaDoorRval
import Derived.Test.YtamgalmlhjbbdaaDoorRfl
import Derived.Test.YtamgalmlhjbbdaaDoorRange
import Derived.Deep.OwnRows
namespace Go.Proofs.YtamgalmlhjbbdaaDoor.c
open Go.RowKit
set_option linter.unusedVariables false
set_option linter.unusedSimpArgs false
theorem takes_cells (x : Cd) (w : World) : Calls Tryd.prog 71 #[.agg #[.int .i64 x.op, .int .i64 x.a, .int .i64 x.b, .int .i64 x.ty.base, .int .i64 x.ty.bits, .string x.ty.name, .bool x.ty.opt, .bool x.ty.err, .string x.name]] w fun e w' => e = .returned (.tuple #[.int .i64 (takesS x), .int .i64 (putsS x)]) ∧ Ext w w' := takes_any x w
theorem okH_in (x : Cd) (h : Int) : inB h (takesS x) 64 = okH x h := by
  unfold inB okH
  rw [Bool.eq_iff_iff]
  simp
set_option maxRecDepth 100000 in
set_option maxHeartbeats 1600000 in
theorem isHeight_any (fn : ByteArray) (fp fpl : Int) (T : Ty) (A : Option Addr) (cap : Nat) (c : List Cd) (k : Nat) (h : Int) (x : Cd) (w : World) (hA : CdAt w A c) (hk : k < c.length) (hn : c.length ≤ 9223372036854775806) (hx : x = c.getD k default) :
    Calls Tryd.prog 53 #[.agg #[.string fn, .int .i64 fp, .int .i64 fpl, .int .i64 T.base, .int .i64 T.bits, .string T.name, .bool T.opt, .bool T.err, .slice A c.length cap], .int .i64 k, .int .i64 h] w fun e w' => e = .returned (.bool (okH x h)) ∧ Ext w w' := by
  obtain ⟨b, off, rfl, hb, c0, c1, c2, c3, c4, c5, c6, c7, c8⟩ := hA.at_ hk hx
  generalize c.length = len at *
  clear hA hx
  go_enter Tryd.func53, Tryd.ntmps53
  go_wp2_with (first
    | (go_at_call 71; refine (takes_cells x _).mono ?_; rintro r w1 ⟨rfl, x1⟩)
    | (go_at_call 39; refine (rwithin_any _ _ _ _).mono ?_; rw [okH_in]; rintro r w' ⟨rfl, rfl⟩))
  go_ret
  exact ⟨rfl, by (repeat (first | (with_reducible exact Ext.refl _) | (with_reducible assumption) | (with_reducible refine Ext.alloc ?_ _) | (with_reducible refine Ext.drewN ?_ _) | (with_reducible refine Ext.drew ?_) | (with_reducible refine Ext.setCell ?_ ?_ _; rotate_left; first | assumption | (simp; done) | (simp; omega)) | (with_reducible refine Ext.trans ?_ (by with_reducible assumption))))⟩
/-- where code goes on, by the instruction -/
def waysX (x : Cd) (k h : Int) : List (Int × Int) := (bif goesS x then [(k + 1, behS x h)] else []) ++ (bif leadsS x.op then [(x.a, leadH x h)] else [])
theorem waysX_eq (c : List Cd) (p : Int × Int) : waysS c p = waysX (xAt c p) p.1 p.2 := rfl
/-- the slice v holds the pairs L, in a block of its own from base on -/
def PrAt (w : World) (base : Nat) (v : Value) (L : List (Int × Int)) : Prop :=
  (L = [] ∧ v = .slice none 0 0) ∨ ∃ g, v = .slice (some ⟨g, 0, none⟩) L.length L.length ∧ base ≤ g ∧ Blk w g 104 (qcells L).toArray
section
variable {x : Cd} {k h : Int}
theorem ways_jump (e : (x.op == 14) = true) : waysX x k h = [(x.a, h - takesS x + putsS x)] := by
  have h0 := eq_of_beq e
  have e1 : goesS x = false := by rw [goes_iff, h0]; rfl
  have e2 : leadsS x.op = true := by rw [h0]; rfl
  have e3 : (x.op == 12) = false := by rw [h0]; rfl
  unfold waysX leadH behS
  rw [e1, e2, e3]; rfl
theorem ways_stop (e : (x.op == 17) = true ∨ (x.op == 19) = true) : waysX x k h = [] := by
  rcases e with e | e
  all_goals
    have h0 := eq_of_beq e
    have e1 : goesS x = false := by rw [goes_iff, h0]; rfl
    have e2 : leadsS x.op = false := by rw [h0]; rfl
    unfold waysX
    rw [e1, e2]; rfl
theorem ways_two (e : (x.op == 15) = true ∨ (x.op == 13) = true) : waysX x k h = [(k + 1, h - takesS x + putsS x), (x.a, h - takesS x + putsS x)] := by
  rcases e with e | e
  all_goals
    have h0 := eq_of_beq e
    have e1 : goesS x = true := by rw [goes_iff, h0]; rfl
    have e2 : leadsS x.op = true := by rw [h0]; rfl
    have e3 : (x.op == 12) = false := by rw [h0]; rfl
    unfold waysX leadH behS
    rw [e1, e2, e3]; rfl
theorem ways_null (e : (x.op == 12) = true) : waysX x k h = [(k + 1, h), (x.a, h - 1)] := by
  have h0 := eq_of_beq e
  have e1 : goesS x = true := by rw [goes_iff, h0]; rfl
  have e2 : leadsS x.op = true := by rw [h0]; rfl
  obtain ⟨t1, t2⟩ := lead12 e
  unfold waysX leadH behS
  rw [e1, e2, e, t1, t2]
  simp only [cond_true, List.cons_append, List.nil_append]
  rw [show h - 1 + 1 = h by omega]
theorem ways_next (e1 : (x.op == 14) = false) (e2 : (x.op == 17) = false) (e3 : (x.op == 19) = false) (e4 : (x.op == 15) = false) (e5 : (x.op == 13) = false) (e6 : (x.op == 12) = false) : waysX x k h = [(k + 1, h - takesS x + putsS x)] := by
  unfold waysX leadsS behS
  rw [goes_iff, e1, e2, e3, e4, e5, e6]; rfl
end
set_option maxRecDepth 100000 in
set_option maxHeartbeats 1600000 in
theorem ways_any (fn : ByteArray) (fp fpl : Int) (T : Ty) (A : Option Addr) (cap : Nat) (c : List Cd) (k : Nat) (h : Int) (x : Cd) (w : World) (hA : CdAt w A c) (hk : k < c.length) (hn : c.length ≤ 2000) (hx : x = c.getD k default) (hh : okH x h = true) (ht : 0 ≤ takesS x) :
    Calls Tryd.prog 70 #[.agg #[.string fn, .int .i64 fp, .int .i64 fpl, .int .i64 T.base, .int .i64 T.bits, .string T.name, .bool T.opt, .bool T.err, .slice A c.length cap], .int .i64 k, .int .i64 h] w fun e w' => ∃ v, e = .returned v ∧ Ext w w' ∧ PrAt w' w.heap.size v (waysX x k h) := by
  obtain ⟨b, off, rfl, hb, c0, c1, c2, c3, c4, c5, c6, c7, c8⟩ := hA.at_ hk hx
  obtain ⟨h1, h2⟩ := okH_le hh
  obtain ⟨h3, h4⟩ := puts_le x
  generalize c.length = len at *
  clear hA hx hh
  go_enter Tryd.func70, Tryd.ntmps70
  go_wp2_with (first
    | (go_at_call 71
       refine (takes_cells x _).mono ?_
       rintro r w1 ⟨rfl, x1⟩
       have hb1 : Blk w1 (w.heap.size + 1) 53 #[.int .i64 x.op, .int .i64 x.a, .int .i64 x.b, .int .i64 x.ty.base, .int .i64 x.ty.bits, .string x.ty.name, .bool x.ty.opt, .bool x.ty.err, .string x.name] := by
         refine Blk.ext ?_ x1
         have h9 := Blk.new (w.alloc (.cells #[.string fn, .int .i64 fp, .int .i64 fpl, .int .i64 T.base, .int .i64 T.bits, .string T.name, .bool T.opt, .bool T.err, .slice (some ⟨b, off, none⟩) len cap] 50)) 53 #[.int .i64 x.op, .int .i64 x.a, .int .i64 x.b, .int .i64 x.ty.base, .int .i64 x.ty.bits, .string x.ty.name, .bool x.ty.opt, .bool x.ty.err, .string x.name]
         rwa [size_alloc] at h9
       have e0 := hb1.cell 0
       have e1 := hb1.cell 1
       have z1 := hb1.lt
       clear hb1
       simp only [List.getElem?_toArray, List.getElem?_cons_zero, List.getElem?_cons_succ] at e0 e1))
  all_goals
    go_ret
    refine ⟨_, rfl, by (repeat (first | (with_reducible exact Ext.refl _) | (with_reducible assumption) | (with_reducible refine Ext.alloc ?_ _) | (with_reducible refine Ext.drewN ?_ _) | (with_reducible refine Ext.drew ?_) | (with_reducible refine Ext.setCell ?_ ?_ _; rotate_left; first | assumption | (simp; done) | (simp; omega)) | (with_reducible refine Ext.trans ?_ (by with_reducible assumption)))), ?_⟩
    first
      | (rw [ways_jump (by assumption)]; exact .inr ⟨_, rfl, by first | omega | (simp; omega), Blk.new _ _ _⟩)
      | (rw [ways_stop (.inl (by assumption))]; exact .inl ⟨rfl, rfl⟩)
      | (rw [ways_stop (.inr (by assumption))]; exact .inl ⟨rfl, rfl⟩)
      | (rw [ways_two (.inl (by assumption))]; exact .inr ⟨_, rfl, by first | omega | (simp; omega), Blk.new _ _ _⟩)
      | (rw [ways_two (.inr (by assumption))]; exact .inr ⟨_, rfl, by first | omega | (simp; omega), Blk.new _ _ _⟩)
      | (rw [ways_null (by assumption)]; exact .inr ⟨_, rfl, by first | omega | (simp; omega), Blk.new _ _ _⟩)
      | (rw [ways_next (by assumption) (by assumption) (by assumption) (by assumption) (by assumption) (by assumption)]; exact .inr ⟨_, rfl, by first | omega | (simp; omega), Blk.new _ _ _⟩)
theorem isHeight_len (f : Fc) {len : Nat} (hl : len = f.code.length) {k : Nat} {h : Int} {x : Cd} (w : World) (hA : CdAt w f.A f.code) (hk : k < len) (hn : len ≤ 9223372036854775806) (hx : x = xAt f.code ((k : Int), h)) :
    Calls Tryd.prog 53 #[.agg #[.string f.name, .int .i64 f.params, .int .i64 f.places, .int .i64 f.ty.base, .int .i64 f.ty.bits, .string f.ty.name, .bool f.ty.opt, .bool f.ty.err, .slice f.A len f.cap], .int .i64 k, .int .i64 h] w fun e w' => e = .returned (.bool (okH x h)) ∧ Ext w w' := by
  subst hl
  exact isHeight_any _ _ _ _ _ _ _ _ _ x w hA hk hn hx
theorem ways_at (f : Fc) {len : Nat} (hl : len = f.code.length) {k : Nat} {h : Int} {x : Cd} (w : World) (hA : CdAt w f.A f.code) (hk : k < len) (hn : len ≤ 2000) (hx : x = xAt f.code ((k : Int), h)) (hh : okH x h = true) (ht : 0 ≤ takesS x) :
    Calls Tryd.prog 70 #[.agg #[.string f.name, .int .i64 f.params, .int .i64 f.places, .int .i64 f.ty.base, .int .i64 f.ty.bits, .string f.ty.name, .bool f.ty.opt, .bool f.ty.err, .slice f.A len f.cap], .int .i64 k, .int .i64 h] w fun e w' => ∃ v, e = .returned v ∧ Ext w w' ∧ PrAt w' w.heap.size v (waysS f.code ((k : Int), h)) := by
  subst hl
  refine (ways_any _ _ _ _ _ _ _ _ _ x w hA hk hn hx hh ht).mono ?_
  rw [waysX_eq, ← hx]
  exact fun _ _ h => h

/-- block g is a row of n cells F -/
def RowAt (w : World) (g : Nat) (t : TypeId) (n : Nat) (F : Nat → Value) : Prop := ∃ cs : Array Value, Blk w g t cs ∧ cs.size = n ∧ ∀ j, j < n → cs[j]? = some (F j)
section
variable {w w' : World} {g n : Nat} {t : TypeId} {F : Nat → Value}
theorem RowAt.lt (h : RowAt w g t n F) : g < w.heap.size := by
  obtain ⟨cs, hb, _⟩ := h
  exact hb.lt
theorem RowAt.cell (h : RowAt w g t n F) {j : Nat} (hj : j < n) : w.cell? ⟨g, j, none⟩ = some (F j) := by
  obtain ⟨cs, hb, _, hc⟩ := h
  rw [hb.cell, hc j hj]
theorem RowAt.frozen (h : RowAt w g t n F) (j : Nat) : w.frozen? ⟨g, j, none⟩ = false := by
  obtain ⟨cs, hb, _⟩ := h
  exact hb.frozen j
theorem RowAt.ext (h : RowAt w g t n F) (x : Ext w w') : RowAt w' g t n F := by
  obtain ⟨cs, hb, r⟩ := h
  exact ⟨cs, hb.ext x, r⟩
theorem RowAt.grown {row : Option Nat} (h : RowAt w g t n F) (x : w.grownBy w' row) (hne : some g ≠ row) : RowAt w' g t n F := by
  obtain ⟨cs, hb, r⟩ := h
  exact ⟨cs, (x.block g hb.lt hne).trans hb, r⟩
theorem RowAt.far (h : RowAt w g t n F) {p : Addr} (hp : g ≠ p.block) (u : Value) : RowAt (w.setCell p u) g t n F := by
  obtain ⟨cs, hb, r⟩ := h
  exact ⟨cs, hb.far hp u, r⟩
theorem RowAt.set_ (h : RowAt w g t n F) {F' : Nat → Value} {i : Nat} {u : Value} (hF : ∀ j, j < n → F' j = if j = i then u else F j) : RowAt (w.setCell ⟨g, i, none⟩ u) g t n F' := by
  obtain ⟨cs, hb, hs, hc⟩ := h
  refine ⟨_, hb.set_ i u, by simpa using hs, fun j hj => ?_⟩
  rw [hF j hj, Array.getElem?_setIfInBounds]
  by_cases e : i = j
  · subst e
    simp [hs, hj]
  · rw [if_neg e, if_neg (fun e2 => e e2.symm)]
    exact hc j hj
theorem RowAt.same (h : RowAt w g t n F) {F' : Nat → Value} (hF : ∀ j, j < n → F' j = F j) : RowAt w g t n F' := by
  obtain ⟨cs, hb, hs, hc⟩ := h
  exact ⟨cs, hb, hs, fun j hj => by rw [hF j hj]; exact hc j hj⟩
theorem RowAt.made (w : World) (t : TypeId) (z : Value) (n : Nat) : RowAt (w.alloc (.cells (madeCells #[z] n) t)) w.heap.size t n (fun _ => z) := by
  refine ⟨_, Blk.new _ _ _, size_madeCells _ _, fun j hj => ?_⟩
  simp [madeCells, hj, Nat.mod_one]
end
open Classical in
/-- the heights with which i is reached, as a map's content -/
noncomputable def rowV (S : List (Int × Int)) (i : Int) : Value → Option Value := fun x => if ∃ h, (i, h) ∈ S ∧ x = .int .i64 h then some (.bool true) else none
section
variable {S : List (Int × Int)} {i a h : Int}
theorem rowV_in (e : (i, h) ∈ S) : rowV S i (.int .i64 h) = some (.bool true) := by
  unfold rowV
  rw [if_pos ⟨h, e, rfl⟩]
theorem rowV_out (e : (i, h) ∉ S) : rowV S i (.int .i64 h) = none := by
  unfold rowV
  rw [if_neg]
  rintro ⟨k, hk, e2⟩
  cases e2
  exact e hk
theorem rowV_nil : rowV [] i = fun _ => none := by
  funext x
  unfold rowV
  rw [if_neg]
  rintro ⟨k, hk, _⟩
  cases hk
theorem rowV_other (e : i ≠ a) : rowV ((a, h) :: S) i = rowV S i := by
  funext x
  unfold rowV
  congr 1
  rw [eq_iff_iff]
  constructor
  · rintro ⟨k, hk, e2⟩
    rcases List.mem_cons.1 hk with hk | hk
    · cases hk; exact absurd rfl e
    · exact ⟨k, hk, e2⟩
  · rintro ⟨k, hk, e2⟩
    exact ⟨k, List.mem_cons_of_mem _ hk, e2⟩
theorem rowV_self {x : Value} (e : x ≠ .int .i64 h) : rowV ((a, h) :: S) a x = rowV S a x := by
  unfold rowV
  congr 1
  rw [eq_iff_iff]
  constructor
  · rintro ⟨k, hk, e2⟩
    rcases List.mem_cons.1 hk with hk | hk
    · cases hk; exact absurd e2 e
    · exact ⟨k, hk, e2⟩
  · rintro ⟨k, hk, e2⟩
    exact ⟨k, List.mem_cons_of_mem _ hk, e2⟩
theorem rowV_some {x : Value} (e : rowV S i x ≠ none) : ∃ h, (i, h) ∈ S ∧ x = .int .i64 h := by
  unfold rowV at e
  by_cases c : ∃ h, (i, h) ∈ S ∧ x = .int .i64 h
  · exact c
  · rw [if_neg c] at e; exact absurd rfl e
end
/-- the maps that have been made -/
structure MkSt (w0 w : World) (f : Fc) (k : Nat) : Prop where
  ext : Ext w0 w
  sz : w.heap.size = w0.heap.size + 2 + k
  fbox : FcBox w w0.heap.size f
  row : RowAt w (w0.heap.size + 1) 71 f.code.length (fun j => if j < k then .map (some (w0.heap.size + 2 + j)) else .map none)
  maps : ∀ i, i < k → MapAt w 3 (w0.heap.size + 2 + i) 0 (fun _ => none)
theorem MkSt.begin (f : Fc) (w : World) : MkSt w ((w.alloc (.cells #[.string f.name, .int .i64 f.params, .int .i64 f.places, .int .i64 f.ty.base, .int .i64 f.ty.bits, .string f.ty.name, .bool f.ty.opt, .bool f.ty.err, .slice f.A f.code.length f.cap] 50)).alloc (.cells (madeCells #[.map none] f.code.length) 71)) f 0 := by
  refine ⟨((Ext.refl _).alloc _).alloc _, by simp, ⟨(Blk.new w _ _).alloc _⟩, ?_, fun i hi => by omega⟩
  have h := RowAt.made (w.alloc (.cells #[.string f.name, .int .i64 f.params, .int .i64 f.places, .int .i64 f.ty.base, .int .i64 f.ty.bits, .string f.ty.name, .bool f.ty.opt, .bool f.ty.err, .slice f.A f.code.length f.cap] 50)) 71 (.map none) f.code.length
  rw [size_alloc] at h
  exact h.same fun j hj => by rw [if_neg (by omega)]
theorem MkSt.next {w0 w : World} {f : Fc} {k : Nat} (s : MkSt w0 w f k) : MkSt w0 ((w.setCell ⟨w0.heap.size + 1, k, none⟩ (.map (some w.heap.size))).alloc (.map #[] 0)) f (k + 1) := by
  have x : ∀ w : World, Ext w (w.alloc (.map #[] 0)) := fun w => (Ext.refl _).alloc _
  refine ⟨(s.ext.setCell (by simp) _).alloc _, by simp [s.sz]; omega, ⟨(s.fbox.out.far (by simp) _).alloc _⟩, ?_, fun i hi => ?_⟩
  · refine RowAt.ext ?_ (x _)
    refine s.row.set_ fun j hj => ?_
    by_cases e : j = k
    · subst e
      rw [if_pos (by omega), if_pos rfl, s.sz]
    · rw [if_neg e]
      by_cases e2 : j < k
      · rw [if_pos (by omega), if_pos e2]
      · rw [if_neg (by omega), if_neg e2]
  · rcases Nat.lt_or_ge i k with h | h
    · exact ((s.maps i h).setCell (by first | (simp; done) | (simp; omega)) _).ext (x _)
    · obtain rfl : i = k := by omega
      have := MapAt.made (w.setCell ⟨w0.heap.size + 1, i, none⟩ (.map (some w.heap.size))) 3
      rwa [show (w.setCell ⟨w0.heap.size + 1, i, none⟩ (.map (some w.heap.size))).heap.size = w0.heap.size + 2 + i by simp [s.sz]] at this
/-- the state of pairs: its frame begins at w0's end -/
structure RfSt (w0 w : World) (f : Fc) (v : Value) (S T : List (Int × Int)) (O : Int → Bool) : Prop where
  ext : Ext w0 w
  sz : w0.heap.size + 4 + f.code.length ≤ w.heap.size
  fbox : FcBox w w0.heap.size f
  seenc : RowAt w (w0.heap.size + 1) 71 f.code.length (fun j => .map (some (w0.heap.size + 2 + j)))
  maps : ∀ i, i < f.code.length → ∃ m, MapAt w 3 (w0.heap.size + 2 + i) m (rowV S i)
  outc : RowAt w (w0.heap.size + 2 + f.code.length) 4 f.code.length (fun j => .bool (O j))
  que : Que w (w0.heap.size + 3 + f.code.length) v T
section
variable {w0 w w' : World} {f : Fc} {v v' : Value} {S T T' : List (Int × Int)} {O : Int → Bool}
theorem RfSt.ext' (s : RfSt w0 w f v S T O) (x : Ext w w') : RfSt w0 w' f v S T O :=
  ⟨s.ext.trans x, by have := s.sz; have := x.size; omega, s.fbox.ext x, s.seenc.ext x, fun i hi => let ⟨m, hm⟩ := s.maps i hi; ⟨m, hm.ext x⟩, s.outc.ext x, s.que.ext x⟩
theorem RfSt.alloc (s : RfSt w0 w f v S T O) (o : Obj) : RfSt w0 (w.alloc o) f v S T O := s.ext' ((Ext.refl _).alloc o)
theorem RfSt.pop (s : RfSt w0 w f v S T O) (q : Que w (w0.heap.size + 3 + f.code.length) v' T') : RfSt w0 w f v' S T' O := ⟨s.ext, s.sz, s.fbox, s.seenc, s.maps, s.outc, q⟩
theorem RfSt.qne (s : RfSt w0 w f v S T O) {k : Nat} (hk : k < w0.heap.size + 3 + f.code.length) : v.ownBlock ≠ some k := fun e => by
  have := (s.que.block e).1
  omega
theorem RfSt.mapped (s : RfSt w0 w f v S T O) {a h : Int} {i : Nat} (hi : i < f.code.length) (ha : a = i) (g : w.grownBy w' (some (w0.heap.size + 2 + i))) {m : Nat} (hm : MapAt w' 3 (w0.heap.size + 2 + i) m (rowV ((a, h) :: S) a)) : RfSt w0 w' f v ((a, h) :: S) T O := by
  subst ha
  refine ⟨s.ext.grown g (fun k e => by have := Option.some.inj e; omega), Nat.le_trans s.sz g.size, ⟨s.fbox.out.grown g (fun e => by have := Option.some.inj e; omega)⟩, s.seenc.grown g (fun e => by have := Option.some.inj e; omega), fun j hj => ?_, s.outc.grown g (fun e => by have := Option.some.inj e; omega), s.que.grown g (s.qne (by omega))⟩
  by_cases e : j = i
  · subst e
    exact ⟨m, hm⟩
  · obtain ⟨m2, h2⟩ := s.maps j hj
    refine ⟨m2, ?_⟩
    rw [rowV_other (by omega)]
    exact h2.grown g (fun e2 => by have := Option.some.inj e2; omega)
theorem RfSt.marked (s : RfSt w0 w f v S T O) {a : Int} {i : Nat} (hi : i < f.code.length) (ha : a = i) : RfSt w0 (w.setCell ⟨w0.heap.size + 2 + f.code.length, i, none⟩ (.bool true)) f v S T (setO O a true) := by
  subst ha
  refine ⟨s.ext.setCell (by first | (simp; done) | (simp; omega)) _, by simp; exact s.sz, ⟨s.fbox.out.far (by first | (simp; done) | (simp; omega)) _⟩, s.seenc.far (by first | (simp; done) | (simp; omega)) _, fun j hj => ?_, ?_, s.que.setCell (s.qne (by first | (simp; done) | (simp; omega))) _⟩
  · obtain ⟨m2, h2⟩ := s.maps j hj
    exact ⟨m2, h2.setCell (by first | (simp; done) | (simp; omega)) _⟩
  · refine s.outc.set_ fun j hj => ?_
    unfold setO
    by_cases e : j = i
    · subst e
      rw [if_pos rfl, if_pos rfl, Bool.or_true]
    · rw [if_neg (by omega), if_neg e]
theorem RfSt.pushed (s : RfSt w0 w f v S T O) (g : w.grownBy w' v.ownBlock) (q : Que w' (w0.heap.size + 3 + f.code.length) v' T') : RfSt w0 w' f v' S T' O := by
  obtain ⟨gq, off, cap, hv, hb, hlt, hob⟩ := s.que.slice
  rw [hob] at g
  have ne : ∀ k, k < w0.heap.size + 3 + f.code.length → some k ≠ some gq := fun k hk e => by have := Option.some.inj e; omega
  refine ⟨s.ext.grown g (fun k e => by have := Option.some.inj e; omega), Nat.le_trans s.sz g.size, ⟨s.fbox.out.grown g (ne _ (by omega))⟩, s.seenc.grown g (ne _ (by omega)), fun j hj => ?_, s.outc.grown g (ne _ (by omega)), q⟩
  obtain ⟨m2, h2⟩ := s.maps j hj
  exact ⟨m2, h2.grown g (ne _ (by omega))⟩
theorem RfSt.begin (s : MkSt w0 w f f.code.length) : RfSt w0 ((w.alloc (.cells (madeCells #[.bool false] f.code.length) 4)).alloc (.cells #[.int .i64 0, .int .i64 0] 104)) f (.slice (some ⟨w.heap.size + 1, 0, none⟩) 1 1) [] [(0, 0)] (fun _ => false) := by
  have x : Ext w ((w.alloc (.cells (madeCells #[.bool false] f.code.length) 4)).alloc (.cells #[.int .i64 0, .int .i64 0] 104)) := ((Ext.refl _).alloc _).alloc _
  refine ⟨s.ext.trans x, by simp [s.sz]; omega, s.fbox.ext x, ?_, fun i hi => ⟨0, ?_⟩, ?_, ?_⟩
  · exact (s.row.ext x).same fun j hj => by rw [if_pos hj]
  · rw [rowV_nil]
    exact (s.maps i hi).ext x
  · have := RowAt.made w 4 (.bool false) f.code.length
    rw [s.sz] at this
    exact this.ext ((Ext.refl _).alloc _)
  · refine Que.new (by rw [s.sz]; omega) (e := 104) ?_
    have := Blk.new (w.alloc (.cells (madeCells #[.bool false] f.code.length) 4)) 104 #[.int .i64 0, .int .i64 0]
    rwa [size_alloc] at this
end
/-- the first of a queue is taken -/
theorem Que.pop2 {w : World} {base : Nat} {v : Value} {p : Int × Int} {l : List (Int × Int)} (h : Que w base v (p :: l)) : ∃ g off cap a2 c2, v = .slice (some ⟨g, off, none⟩) (l.length + 1) cap ∧ g < w.heap.size ∧ v.ownBlock = some g ∧
    w.cell? ⟨g, off, none⟩ = some (.int .i64 p.1) ∧ w.cell? ⟨g, off + 1, none⟩ = some (.int .i64 p.2) ∧ (∀ w', (Instr.slice 105 v (some (.int .i64 1)) none none).run Tryd.prog w' = .ok (.slice a2 l.length c2) w') ∧
    Que w base (.slice a2 l.length c2) l ∧ (Value.slice a2 l.length c2).ownBlock = some g := by
  obtain ⟨g, off, cap, rfl, hb, hg, ho, h1, h2, c0, c1, hq⟩ := h.head
  refine ⟨g, off, cap, _, _, rfl, hg, ho, c0, c1, fun w' => ?_, hq, ?_⟩
  · have hz : (Tryd.prog.info? 104).map (·.size) = some 2 := by kernel_rfl
    obtain ⟨i, hi, hs⟩ := Option.map_eq_some_iff.1 hz
    have e1 : (cap = 1) = (cap - 1 = 0) := by rw [eq_iff_iff]; omega
    have hn : (1 : Int) ≤ (l.length : Int) + 1 := by omega
    by_cases hc : cap = 1
    · subst hc
      simp [Instr.slice, run_underlying Tryd.underlying105, Instr.sliceBounds, Instr.sliceBound, sizeOf, typeInfo, hi, hs, Result.andThen, asIntOf, hn]
    · have hc' : ¬ cap - 1 = 0 := by omega
      simp [Instr.slice, run_underlying Tryd.underlying105, Instr.sliceBounds, Instr.sliceBound, sizeOf, typeInfo, hi, hs, Result.andThen, asIntOf, hn, hc, hc', Addr.add_lit]
  · by_cases hc : cap - 1 = 0
    · rw [if_pos hc]; rfl
    · rw [if_neg hc]; rfl
theorem news_take (c : List Cd) (L : List (Int × Int)) (j : Nat) (hj : j < L.length) {q : Int × Int} (hq : q = L.getD j (0, 0)) :
    newsS c (L.take (j + 1)) = newsS c (L.take j) ++ (if q.1 < c.length then [q] else []) ∧ outB c (L.take (j + 1)) = (outB c (L.take j) || !decide (q.1 < (c.length : Int))) := by
  have hq' : L[j] = q := by rw [hq, List.getD, List.getElem?_eq_getElem hj]; rfl
  unfold newsS outB
  rw [List.take_succ_eq_append_getElem hj, hq', List.filter_append, List.any_append]
  unfold fitB
  refine ⟨?_, by simp⟩
  by_cases h : q.1 < (c.length : Int) <;> simp [h]
theorem setO_or (O : Int → Bool) (a : Int) (b : Bool) : setO O a (b || true) = setO (setO O a b) a true := by
  funext i
  unfold setO
  split <;> simp
end Go.Proofs.YtamgalmlhjbbdaaDoor.c
