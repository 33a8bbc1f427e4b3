/- Contracts of lex.IsWord and lex.IsKey. The table strings.asciiSpace holds what its text lays ('Laid'). -/
import Derived.Test.YtamgalmlhjbbdaaDoorLex
namespace Go.Proofs.YtamgalmlhjbbdaaDoor.c
open Go.RowKit
set_option linter.unusedVariables false
set_option linter.unusedSimpArgs false

/-- the table of blanks holds what the library's text lays -/
def Laid (w : World) : Prop := Lib.TabIs Tryd.prog w "strings.asciiSpace" .u8 Lib.asciiSpaceTab
theorem Laid.ext {w w' : World} (h : Laid w) (x : Ext w w') : Laid w' := by
  have hg : Tryd.prog.globalNamed "strings.asciiSpace" = some 0 := by kernel_rfl
  have hv : w.var? Tryd.prog "strings.asciiSpace" = some _ := h
  have hlt : 0 < w.heap.size := by
    unfold World.var? at hv
    rw [hg] at hv
    simp only [Option.bind_some] at hv
    rcases Nat.lt_or_ge 0 w.heap.size with h1 | h1
    · exact h1
    · rw [Array.getElem?_eq_none h1] at hv
      cases hv
  exact var?_below x.out hg hlt hv

def wordS (L : List UInt8) : Bool := match L with | [] => false | c :: _ => isLet c.toNat && L.all okB
theorem word_nil {s : ByteArray} (h : s.size = 0) : wordS s.data.toList = false := by
  rw [Lib.size_eq] at h
  rw [List.eq_nil_of_length_eq_zero h]
  rfl
theorem tw_all (L : List UInt8) : ((L.takeWhile okB).length == L.length) = L.all okB := by
  induction L with
  | nil => rfl
  | cons c L ih =>
    simp only [List.takeWhile_cons, List.all_cons]
    cases okB c
    · simp
    · simp only [if_true, List.length_cons, Bool.true_and, ← ih]
      rw [Bool.eq_iff_iff]; simp
theorem word_cons {s : ByteArray} (h : 0 < s.size) : wordS s.data.toList = (isLet (s[0]).toNat && ((s.data.toList.takeWhile okB).length == s.size)) := by
  have h' : 0 < s.data.toList.length := by rw [← Lib.size_eq]; exact h
  have e : s.data.toList[0] = s[0] := rfl
  rw [Lib.size_eq, tw_all]
  cases hl : s.data.toList with
  | nil => simp [hl] at h'
  | cons c r =>
    have : s[0] = c := by rw [← e]; simp [hl]
    rw [this]
    rfl
theorem cls_two (c : Nat) : (cls c == 2) = isLet c := by
  unfold cls
  cases isLet c
  · cases isDig c
    · by_cases h : c = 32 ∨ c = 10 <;> simp [h]
    · rfl
  · rfl

set_option maxRecDepth 100000 in
set_option maxHeartbeats 1600000 in
theorem isWord_any (s : ByteArray) (w : World) (hs : s.size ≤ 4611686018427387904) :
    Calls Tryd.prog 72 #[.string s] w fun e w' => e = .returned (.bool (wordS s.data.toList)) ∧ Ext w w' := by
  have hz0 : Tryd.zeroCells114 = tab (fun _ => 0) := by kernel_rfl
  have HZ0 := Lib.hid hz0
  clear hz0
  have hsz : (Tryd.prog.info? 114).map (·.size) = some (tab cls).size := by rw [tab_size]; kernel_rfl
  have HZ := Lib.hid hsz
  clear hsz
  by_cases h0 : 0 < s.size
  · have hne : s.toList.isEmpty = false := by
      rw [Lib.toList_data]
      cases hl : s.data.toList with
      | nil => rw [Lib.size_eq, hl] at h0; simp at h0
      | cons c r => rfl
    have hb256 : ((s[0]'h0).toNat : Int) < 256 := by have := UInt8.toNat_lt (s[0]'h0); omega
    have HW := Lib.hid (word_cons h0)
    have HC := Lib.hid (cls_two (s[0]'h0).toNat)
    go_enter Tryd.func72, Tryd.ntmps72
    go_wp2_with (first
      | (go_at_call 83; refine (classes_any _).mono ?_; rintro e w1 ⟨rfl, x1⟩)
      | (refine wpList_store_row rfl 114 _ _ rfl w1.heap.size rfl 114 (tab fun _ => 0) (tab cls) (by rw [← HZ0.out]; exact Blk.new _ _ _) rfl (by rw [tab_size, tab_size]) (tab_one cls) HZ.out ?_; have HB := Lib.hid (Blk.row (Blk.new w1 114 Tryd.zeroCells114) (tab cls)); generalize hw2 : (w1.alloc (.cells Tryd.zeroCells114 114)).setRow w1.heap.size (tab cls) = w2 at *; have HX := Lib.hid hw2; clear hw2; have x2 : Ext w w2 := (by rw [← HX.out]; exact (x1.alloc _).setRow x1.size _); have hcell := (HB.out.cell (s[0]'h0).toNat).trans (tab_get cls _ (UInt8.toNat_lt _)))
      | (go_at_call 84; refine (run_any _ _ _ _ hs HB.out.lt (fun j hj => by rw [Nat.zero_add]; exact (HB.out.cell j).trans (tab_get cls j hj))).mono ?_; rintro e w3 ⟨rfl, x3⟩))
    all_goals
      go_ret
      first
        | (have h2 : cls (s[0]'h0).toNat = 2 := by assumption
           exact ⟨ret_bool (by rw [HW.out, ← HC.out, h2, Bool.eq_iff_iff]; simp; omega), x2.trans x3⟩)
        | (have h2 : ¬ cls (s[0]'h0).toNat = 2 := by assumption
           exact ⟨ret_bool (by rw [HW.out, ← HC.out]; simp [h2]), x2⟩)
  · have hne : s.toList.isEmpty = true := by
      rw [Lib.toList_data]
      cases hl : s.data.toList with
      | nil => rfl
      | cons c r => rw [Lib.size_eq, hl] at h0; simp at h0
    have HW := Lib.hid (word_nil (s := s) (by omega))
    go_enter Tryd.func72, Tryd.ntmps72
    go_wp2_with (first
      | (go_at_call 83; refine (classes_any _).mono ?_; rintro e w1 ⟨rfl, x1⟩)
      | (refine wpList_store_row rfl 114 _ _ rfl w1.heap.size rfl 114 (tab fun _ => 0) (tab cls) (by rw [← HZ0.out]; exact Blk.new _ _ _) rfl (by rw [tab_size, tab_size]) (tab_one cls) HZ.out ?_))
    go_ret
    exact ⟨ret_bool HW.out.symm, (x1.alloc _).setRow x1.size _⟩

/-- the words of the grammar -/
def keysB : List ByteArray := [⟨#[102, 110]⟩, ⟨#[99, 111, 110, 115, 116]⟩, ⟨#[118, 97, 114]⟩, ⟨#[99, 111, 109, 112, 116, 105, 109, 101]⟩, ⟨#[114, 101, 116, 117, 114, 110]⟩, ⟨#[101, 114, 114, 111, 114]⟩, ⟨#[105, 102]⟩, ⟨#[101, 108, 115, 101]⟩, ⟨#[119, 104, 105, 108, 101]⟩, ⟨#[102, 111, 114]⟩, ⟨#[105, 110, 108, 105, 110, 101]⟩, ⟨#[115, 119, 105, 116, 99, 104]⟩, ⟨#[100, 101, 102, 101, 114]⟩, ⟨#[101, 114, 114, 100, 101, 102, 101, 114]⟩, ⟨#[98, 114, 101, 97, 107]⟩, ⟨#[99, 111, 110, 116, 105, 110, 117, 101]⟩, ⟨#[103, 105, 118, 101]⟩, ⟨#[117, 110, 114, 101, 97, 99, 104, 97, 98, 108, 101]⟩, ⟨#[116, 114, 117, 101]⟩, ⟨#[102, 97, 108, 115, 101]⟩, ⟨#[97, 110, 100]⟩, ⟨#[111, 114]⟩, ⟨#[116, 114, 121]⟩, ⟨#[99, 97, 116, 99, 104]⟩, ⟨#[111, 114, 101, 108, 115, 101]⟩, ⟨#[100, 111]⟩, ⟨#[118, 111, 105, 100]⟩, ⟨#[98, 111, 111, 108]⟩, ⟨#[116, 121, 112, 101]⟩, ⟨#[95]⟩]
/-- the signs, those of two bytes first -/
def signsB : List ByteArray := [⟨#[61, 61]⟩, ⟨#[33, 61]⟩, ⟨#[60, 61]⟩, ⟨#[62, 61]⟩, ⟨#[43, 37]⟩, ⟨#[43, 124]⟩, ⟨#[45, 37]⟩, ⟨#[45, 124]⟩, ⟨#[42, 37]⟩, ⟨#[46, 46]⟩, ⟨#[46, 63]⟩, ⟨#[61, 62]⟩, ⟨#[40]⟩, ⟨#[41]⟩, ⟨#[123]⟩, ⟨#[125]⟩, ⟨#[44]⟩, ⟨#[59]⟩, ⟨#[58]⟩, ⟨#[61]⟩, ⟨#[33]⟩, ⟨#[60]⟩, ⟨#[62]⟩, ⟨#[43]⟩, ⟨#[45]⟩, ⟨#[42]⟩, ⟨#[47]⟩, ⟨#[37]⟩, ⟨#[38]⟩, ⟨#[124]⟩, ⟨#[94]⟩, ⟨#[63]⟩, ⟨#[46]⟩]

def keyS (s : ByteArray) : Bool := keysB.any (fun k => k.data.toList == s.data.toList)
theorem keyS_iff (s : ByteArray) : keyS s = true ↔ s ∈ keysB := by
  unfold keyS
  rw [List.any_eq_true]
  constructor
  · rintro ⟨k, hk, he⟩
    have : k = s := ByteArray.ext (Array.toList_inj.1 (by simpa using he))
    exact this ▸ hk
  · intro h
    exact ⟨s, h, by simp⟩
def keyText : ByteArray := ⟨((([102, 110, 32, 99, 111, 110, 115, 116, 32, 118, 97, 114, 32, 99, 111, 109, 112, 116, 105, 109, 101, 32, 114, 101, 116, 117, 114, 110, 32, 101, 114, 114, 111, 114, 32, 105, 102, 32, 101, 108, 115, 101].append [32, 119, 104, 105, 108, 101, 32, 102, 111, 114, 32, 105, 110, 108, 105, 110, 101, 32, 115, 119, 105, 116, 99, 104, 32, 100, 101, 102, 101, 114, 32, 101, 114, 114, 100, 101, 102, 101, 114, 32, 98, 114]).append ([101, 97, 107, 32, 99, 111, 110, 116, 105, 110, 117, 101, 32, 103, 105, 118, 101, 32, 117, 110, 114, 101, 97, 99, 104, 97, 98, 108, 101, 32, 116, 114, 117, 101, 32, 102, 97, 108, 115, 101, 32, 97].append [110, 100, 32, 111, 114, 32, 116, 114, 121, 32, 99, 97, 116, 99, 104, 32, 111, 114, 101, 108, 115, 101, 32, 100, 111, 32, 118, 111, 105, 100, 32, 98, 111, 111, 108, 32, 116, 121, 112, 101, 32, 95]))).toArray⟩
theorem key_fields : (Lib.fields keyText.data.toList).map (fun l => (⟨l.toArray⟩ : ByteArray)) = keysB := by decide +kernel
theorem key_ascii : ∀ (j : Nat) b, keyText.data.toList[j]? = some b → b.toNat < 128 := by
  have h : keyText.data.toList.all (fun b => decide (b.toNat < 128)) = true := by decide +kernel
  intro j b hb
  have := List.all_eq_true.1 h b (List.mem_of_getElem? hb)
  simpa using this

set_option maxRecDepth 100000 in
set_option maxHeartbeats 1600000 in
theorem isKey_any (s : ByteArray) (w : World) (g : Laid w) :
    Calls Tryd.prog 73 #[.string s] w fun e w' => e = .returned (.bool (keyS s)) ∧ Ext w w' := by
  have HF : Hid (Calls Tryd.prog 86 #[.string keyText] w fun e w' => e = .returned (.slice (some ⟨w.heap.size, 0, none⟩) 30 30) ∧ Blk w' w.heap.size 9 (keysB.map Value.string).toArray ∧ Ext w w') := by
    refine (Tryd.strings_Fields keyText w (by decide +kernel) key_ascii g).mono ?_
    rintro e w' ⟨rfl, rfl⟩
    have e1 : (Lib.fields keyText.data.toList).length = 30 := by decide +kernel
    rw [e1]
    refine ⟨rfl, ?_, (Ext.refl _).alloc _⟩
    rw [← key_fields, List.map_map]
    exact Blk.new _ _ _
  go_enter Tryd.func73, Tryd.ntmps73
  go_wp2_with fail
  refine HF.out.mono ?_
  rintro e w1 ⟨rfl, hb, x1⟩
  have HB := Lib.hid hb
  clear hb
  go_wp2_with fail
  refine (Tryd.slices_Contains_string w.heap.size 0 30 30 keysB s _ (by decide) (by decide) (fun j hj => ?_)).mono ?_
  · rw [Nat.zero_add, HB.out.cell j]
    have : j < keysB.length := hj
    simp [List.getD, this]
  · rintro e w2 ⟨rfl, rfl⟩
    go_wp2_with fail
    go_ret
    refine ⟨ret_bool ?_, x1⟩
    rw [Bool.eq_iff_iff, keyS_iff, ← Lib.containsS_iff]
    have : keysB.take 30 = keysB := by decide +kernel
    rw [this]
end Go.Proofs.YtamgalmlhjbbdaaDoor.c
