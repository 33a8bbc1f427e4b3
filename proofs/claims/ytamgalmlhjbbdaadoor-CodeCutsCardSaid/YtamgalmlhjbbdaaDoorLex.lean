/- Contracts of the functions of package lex that a name's test reaches: classes, run, IsWord, IsKey. -/
import Derived.Test.YtamgalmlhjbbdaaDoorLib
import Derived.Test.YtamgalmlhjbbdaaDoorShelf
namespace Go.Proofs.YtamgalmlhjbbdaaDoor.c
open Go.RowKit
set_option linter.unusedVariables false
set_option linter.unusedSimpArgs false

def isLet (c : Nat) : Bool := (decide (97 ≤ c) && decide (c ≤ 122)) || (decide (65 ≤ c) && decide (c ≤ 90)) || c == 95
def isDig (c : Nat) : Bool := decide (48 ≤ c) && decide (c ≤ 57)
/-- the class of a byte -/
def cls (c : Nat) : Int := if isLet c then 2 else if isDig c then 3 else if c = 32 ∨ c = 10 then 1 else 0
def tab (f : Nat → Int) : Array Value := ((List.range 256).map fun i => Value.int .u8 (f i)).toArray
theorem tab_set (f : Nat → Int) (i : Nat) (v : Int) : (tab f).setIfInBounds i (.int .u8 v) = tab (fun j => if j = i then v else f j) := by
  apply Array.ext
  · simp [tab]
  · intro j h1 h2
    have hs : (tab f).size = 256 := by simp [tab]
    by_cases h : i = j
    · subst h
      simp [tab]
    · rw [Array.getElem_setIfInBounds_ne (by rw [Array.size_setIfInBounds] at h1; exact h1) h]
      simp only [tab, List.getElem_toArray, List.getElem_map, List.getElem_range]
      rw [if_neg (fun e => h e.symm)]
theorem tab_congr {f g : Nat → Int} (h : ∀ i, i < 256 → f i = g i) : tab f = tab g := by
  unfold tab
  congr 1
  exact List.map_congr_left fun i hi => by rw [h i (by simpa using hi)]
theorem tab_get (f : Nat → Int) (i : Nat) (h : i < 256) : (tab f)[i]? = some (.int .u8 (f i)) := by
  simp [tab, h]
theorem tab_size (f : Nat → Int) : (tab f).size = 256 := by simp [tab]
/-- the table after k letters and m digits -/
def cl0 (k m : Nat) (c : Nat) : Int :=
  if (97 ≤ c ∧ c < 97 + k) ∨ (65 ≤ c ∧ c < 65 + k) ∨ c = 95 then 2 else if 48 ≤ c ∧ c < 48 + m then 3 else if c = 32 ∨ c = 10 then 1 else 0

theorem cl0_k (k m : Nat) (hk : k < 26) : tab (fun j => if j = k + 65 then 2 else if j = k + 97 then 2 else cl0 k m j) = tab (cl0 (k + 1) m) := by
  refine tab_congr fun i hi => ?_
  unfold cl0
  by_cases h1 : i = k + 65
  · rw [if_pos h1, if_pos (by omega)]
  · rw [if_neg h1]
    by_cases h2 : i = k + 97
    · rw [if_pos h2, if_pos (by omega)]
    · rw [if_neg h2]
      by_cases h3 : (97 ≤ i ∧ i < 97 + k) ∨ (65 ≤ i ∧ i < 65 + k) ∨ i = 95
      · rw [if_pos h3, if_pos (by omega)]
      · rw [if_neg h3]
        symm
        rw [if_neg (by omega)]
theorem cl0_m (m : Nat) (hm : m < 10) : tab (fun j => if j = m + 48 then 3 else cl0 26 m j) = tab (cl0 26 (m + 1)) := by
  refine tab_congr fun i hi => ?_
  unfold cl0
  by_cases h1 : i = m + 48
  · rw [if_pos h1, if_neg (by omega), if_pos (by omega)]
  · rw [if_neg h1]
    by_cases h3 : (97 ≤ i ∧ i < 97 + 26) ∨ (65 ≤ i ∧ i < 65 + 26) ∨ i = 95
    · rw [if_pos h3, if_pos h3]
    · rw [if_neg h3, if_neg h3]
      by_cases h4 : 48 ≤ i ∧ i < 48 + m
      · rw [if_pos h4, if_pos (by omega)]
      · rw [if_neg h4]
        symm
        rw [if_neg (by omega)]
theorem cl0_end : tab (cl0 26 10) = tab cls := by
  refine tab_congr fun i hi => ?_
  have : ∀ i : Fin 256, cl0 26 10 i.1 = cls i.1 := by decide +kernel
  exact this ⟨i, hi⟩
theorem tab_start : ((((tab (fun _ => 0)).setIfInBounds 32 (.int .u8 1)).setIfInBounds 10 (.int .u8 1)).setIfInBounds 95 (.int .u8 2)) = tab (cl0 0 0) := by
  rw [tab_set, tab_set, tab_set]
  refine tab_congr fun i hi => ?_
  have : ∀ i : Fin 256, (if i.1 = 95 then (2 : Int) else if i.1 = 10 then 1 else if i.1 = 32 then 1 else 0) = cl0 0 0 i.1 := by decide +kernel
  exact this ⟨i, hi⟩
theorem tab_one (f : Nat → Int) : ∀ v ∈ (tab f).toList, v.oneCell' = true := by
  intro v hv
  simp only [tab, List.mem_map] at hv
  obtain ⟨i, _, rfl⟩ := hv
  rfl

set_option maxRecDepth 100000 in
set_option maxHeartbeats 1600000 in
theorem classes_any (w : World) :
    Calls Tryd.prog 83 #[] w fun e w' => e = .returned (.agg (tab cls)) ∧ Ext w w' := by
  have hz0 : Tryd.zeroCells114 = tab (fun _ => 0) := by kernel_rfl
  have HZ0 := Lib.hid hz0
  clear hz0
  go_enter Tryd.func83, Tryd.ntmps83
  go_wp2_with fail
  have hz0 := HZ0.out
  go_loopw [2] (fun v wr => ∃ k : Nat, k ≤ 26 ∧ v = .int .u8 ((k : Int) + 97) ∧ Ext w wr ∧ Blk wr w.heap.size 114 (tab fun _ => 0) ∧ Blk wr (w.heap.size + 1) 114 (tab (cl0 k 0))) (fun v _ => 200 - (intOf v).toNat)
  case atStart =>
    refine ⟨0, by omega, rfl, by (first | ((repeat (first | (with_reducible exact Ext.refl _) | (with_reducible assumption) | (with_reducible refine Ext.alloc ?_ _) | (with_reducible refine Ext.drewN ?_ _) | (with_reducible refine Ext.drew ?_) | (with_reducible refine Ext.setCell ?_ ?_ _; rotate_left; first | assumption | (simp; done) | (simp; omega)) | (with_reducible refine Ext.trans ?_ (by with_reducible assumption)))); done) | (repeat (first | exact Ext.refl _ | assumption | refine Ext.alloc ?_ _ | refine Ext.drewN ?_ _ | refine Ext.drew ?_ | refine Ext.setCell ?_ (by first | assumption | (simp; done) | (simp; omega)) _ | refine Ext.trans ?_ (by assumption)))), ?_, ?_⟩
    · rw [← hz0]
      exact Blk.alloc (Blk.new _ _ _) _
    · rw [← tab_start, ← hz0, ← size_alloc w (.cells Tryd.zeroCells114 114)]
      exact Blk.new _ _ _
  case round =>
    clear hz0
    obtain ⟨k, hk, rfl, hx, hb0, hb1⟩ := hrel
    have hl := hb1.lt
    by_cases hlt : k < 26
    · have ca := hb1.cell (k + 97)
      have cb := hb1.cell (k + 65)
      have fa := hb1.frozen (k + 97)
      have fb := hb1.frozen (k + 65)
      rw [tab_get _ _ (by omega)] at ca cb
      have H1 := Lib.hid hb1
      have H0 := Lib.hid hb0
      clear hb1 hb0
      go_wp2_with fail
      case roundEnd =>
        refine ⟨⟨k + 1, by omega, by go_num, by (first | ((repeat (first | (with_reducible exact Ext.refl _) | (with_reducible assumption) | (with_reducible refine Ext.alloc ?_ _) | (with_reducible refine Ext.drewN ?_ _) | (with_reducible refine Ext.drew ?_) | (with_reducible refine Ext.setCell ?_ ?_ _; rotate_left; first | assumption | (simp; done) | (simp; omega)) | (with_reducible refine Ext.trans ?_ (by with_reducible assumption)))); done) | (repeat (first | exact Ext.refl _ | assumption | refine Ext.alloc ?_ _ | refine Ext.drewN ?_ _ | refine Ext.drew ?_ | refine Ext.setCell ?_ (by first | assumption | (simp; done) | (simp; omega)) _ | refine Ext.trans ?_ (by assumption)))), ?_, ?_⟩, by simp [intOf]; omega⟩
        · exact (H0.out.far (by simp) _).far (by simp) _
        · rw [← cl0_k k 0 hlt, ← tab_set, ← tab_set]
          exact (H1.out.set_ _ _).set_ _ _
    · have H1 := Lib.hid hb1
      have H0 := Lib.hid hb0
      clear hb1 hb0
      obtain rfl : k = 26 := by omega
      go_wp2_with fail
      go_loopw [3] (fun v wr => ∃ k : Nat, k ≤ 10 ∧ v = .int .u8 ((k : Int) + 48) ∧ Ext w wr ∧ Blk wr w.heap.size 114 (tab fun _ => 0) ∧ Blk wr (w.heap.size + 1) 114 (tab (cl0 26 k))) (fun v _ => 200 - (intOf v).toNat)
      case atStart => exact ⟨0, by omega, rfl, hx, H0.out, H1.out⟩
      case round =>
        clear H0 H1 hx hl
        obtain ⟨k, hk, rfl, hx, hb0, hb1⟩ := hrel
        have hl := hb1.lt
        by_cases hlt : k < 10
        · have ca := hb1.cell (k + 48)
          have fa := hb1.frozen (k + 48)
          rw [tab_get _ _ (by omega)] at ca
          have H1 := Lib.hid hb1
          have H0 := Lib.hid hb0
          clear hb1 hb0
          go_wp2_with fail
          case roundEnd =>
            refine ⟨⟨k + 1, by omega, by go_num, by (first | ((repeat (first | (with_reducible exact Ext.refl _) | (with_reducible assumption) | (with_reducible refine Ext.alloc ?_ _) | (with_reducible refine Ext.drewN ?_ _) | (with_reducible refine Ext.drew ?_) | (with_reducible refine Ext.setCell ?_ ?_ _; rotate_left; first | assumption | (simp; done) | (simp; omega)) | (with_reducible refine Ext.trans ?_ (by with_reducible assumption)))); done) | (repeat (first | exact Ext.refl _ | assumption | refine Ext.alloc ?_ _ | refine Ext.drewN ?_ _ | refine Ext.drew ?_ | refine Ext.setCell ?_ (by first | assumption | (simp; done) | (simp; omega)) _ | refine Ext.trans ?_ (by assumption)))), ?_, ?_⟩, by simp [intOf]; omega⟩
            · exact H0.out.far (by simp) _
            · rw [← cl0_m k hlt, ← tab_set]
              exact H1.out.set_ _ _
        · obtain rfl : k = 10 := by omega
          have HE := Lib.hid hb1
          have H0 := Lib.hid hb0
          clear hb1 hb0
          have H2 : Hid (Blk wr (w.heap.size + 1) 114 (tab cls)) := by rw [← cl0_end]; exact HE.out
          have hsz : (Tryd.prog.info? 114).map (·.size) = some (tab cls).size := by rw [tab_size]; kernel_rfl
          have HZ := Lib.hid hsz
          clear hsz
          go_wp2_with (first
            | (refine wpList_load_row rfl 114 _ rfl (w.heap.size + 1) rfl 114 (tab cls) (0, 0) _ H2.out Tryd.underlying114 rfl HZ.out ?_)
            | (refine wpList_store_row rfl 114 _ _ rfl w.heap.size rfl 114 (tab fun _ => 0) (tab cls) H0.out rfl (by rw [tab_size, tab_size]) (tab_one cls) HZ.out ?_))
          exact bodyPost_ret (v := .agg (tab cls)) (results_cell_row rfl _ _ w.heap.size 114 (tab cls) (0, 0) _ rfl (H0.out.row _) Tryd.underlying114 rfl HZ.out) rfl ⟨rfl, hx.setRow (Nat.le_refl _) _⟩

theorem takeWhile_len (p : UInt8 → Bool) (L : List UInt8) (k : Nat) (hk : k ≤ L.length) (h : (L.take k).all p = true) (he : ∀ c, L[k]? = some c → p c = false) : (L.takeWhile p).length = k := by
  induction L generalizing k with
  | nil => simp at hk; simp [hk]
  | cons c L ih =>
    cases k with
    | zero =>
      have := he c (by simp)
      simp [this]
    | succ k =>
      simp only [List.take_succ_cons, List.all_cons, Bool.and_eq_true] at h
      simp only [List.takeWhile_cons, h.1, if_true, List.length_cons]
      rw [ih k (by simpa using hk) h.2 (fun d hd => he d (by simpa using hd))]
theorem cls_ge (c : Nat) : decide (2 ≤ cls c) = (isLet c || isDig c) := by
  unfold cls
  cases h1 : isLet c
  · cases h2 : isDig c
    · by_cases h : c = 32 ∨ c = 10 <;> simp [h]
    · simp
  · simp

def okB (c : UInt8) : Bool := isLet c.toNat || isDig c.toNat
set_option maxRecDepth 100000 in
set_option maxHeartbeats 1600000 in
theorem run_any (b off : Nat) (s : ByteArray) (w : World) (hs : s.size ≤ 4611686018427387904) (hbw : b < w.heap.size)
    (hc : ∀ j, j < 256 → w.cell? ⟨b, off + j, none⟩ = some (.int .u8 (cls j))) :
    Calls Tryd.prog 84 #[.pointer (some ⟨b, off, none⟩), .string s] w fun e w' => e = .returned (.int .i64 (s.data.toList.takeWhile okB).length) ∧ Ext w w' := by
  have HC := Lib.hid hc
  clear hc
  have HL := Lib.hid (Lib.size_eq s)
  go_enter Tryd.func84, Tryd.ntmps84
  go_wp2_with fail
  go_loopw [5] (fun n wr => ∃ k : Nat, k ≤ s.size ∧ n = .int .i64 k ∧ (s.data.toList.take k).all okB = true ∧ Ext w wr) (fun n _ => s.size - (intOf n).toNat)
  case atStart => exact ⟨0, by omega, rfl, rfl, Ext.refl _⟩
  case round =>
    obtain ⟨k, hk, rfl, hall, hx⟩ := hrel
    have HA := Lib.hid hall
    clear hall
    by_cases hlt : k < s.size
    · have hcell := (hx.cell (p := ⟨b, off + (s[k]'hlt).toNat, none⟩) hbw).trans (HC.out (s[k]'hlt).toNat (UInt8.toNat_lt _))
      have hb256 : ((s[k]'hlt).toNat : Int) < 256 := by have := UInt8.toNat_lt (s[k]'hlt); omega
      have hk' : k < s.data.toList.length := by have := HL.out; omega
      have hge : Hid (s.data.toList[k]? = some (s[k]'hlt)) := List.getElem?_eq_getElem hk'
      have HG := Lib.hid (cls_ge (s[k]'hlt).toNat)
      have HS : Hid ((s.data.toList.take (k + 1)).all okB = okB (s[k]'hlt)) := by
        unfold Hid
        rw [List.take_add_one, hge.out]
        simp [HA.out]
      go_wp2_with fail
      go_quiet (fail)
      go_wp2_with fail
      case roundEnd =>
        have h2 : 2 ≤ cls (s[k]'hlt).toNat := by assumption
        refine ⟨⟨k + 1, by omega, by go_num, by rw [HS.out]; unfold okB; rw [← HG.out]; simpa using h2, hx.drewN _⟩, by simp [intOf]; omega⟩
      all_goals
        have h2 : cls (s[k]'hlt).toNat < 2 := by assumption
        go_ret
        exact ⟨ret_int (by rw [takeWhile_len okB _ k (by omega) HA.out (fun c hc => by rw [hge.out] at hc; injection hc with hc; rw [← hc]; unfold okB; rw [← HG.out]; simp; omega)]), hx.drewN _⟩
    · go_wp2_with fail
      have hd : decide ((k : Int) < (s.size : Int)) = false := by simp; omega
      go_quiet (fail)
      go_wp2_with fail
      have hk' : k = s.data.toList.length := by have := HL.out; omega
      go_ret
      exact ⟨ret_int (by rw [takeWhile_len okB _ k (by omega) HA.out (fun c hc => by rw [List.getElem?_eq_none (by omega)] at hc; cases hc)]), hx.drewN _⟩
end Go.Proofs.YtamgalmlhjbbdaaDoor.c
