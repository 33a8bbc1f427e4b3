/- Contracts of the reference's tokens, isToken and IsWord. Condition: the text is not longer than 1,048,576 bytes. -/
import Derived.Test.YtamgalmlhjbbdaaDoorRlex
import Derived.Test.YtamgalmlhjbbdaaDoorLib2
namespace Go.Proofs.YtamgalmlhjbbdaaDoor.c
open Go.RowKit
set_option linter.unusedVariables false
set_option linter.unusedSimpArgs false

structure Tok where
  kind : Int
  at_ : Nat
  text : ByteArray
def Tok.cells (t : Tok) : List Value := [.int .i64 t.kind, .int .i64 t.at_, .string t.text]
def blank (c : Nat) : Bool := c == 32 || c == 10
theorem fst3_gt {L : List UInt8} {a : Nat} (h : (fst3 L a).2.2 = true) : a < (fst3 L a).2.1 ∧ (fst3 L a).2.1 ≤ L.length := by
  unfold fst3 at h ⊢
  cases hc : L[a]? with
  | none => rw [hc] at h; cases h
  | some c =>
    obtain ⟨hlt, hce⟩ := List.getElem?_eq_some_iff.1 hc
    rw [hc] at h
    simp only [] at h ⊢
    have htw : ∀ b, ((L.drop b).takeWhile okB).length ≤ L.length - b := fun b => by
      have := (List.takeWhile_prefix okB (l := L.drop b)).length_le
      rwa [List.length_drop] at this
    have hpos : ∀ b (d : UInt8), L[b]? = some d → okB d = true → 0 < ((L.drop b).takeWhile okB).length := fun b d hd ho => by
      obtain ⟨hb, he⟩ := List.getElem?_eq_some_iff.1 hd
      rw [List.drop_eq_getElem_cons hb, he]
      simp [ho]
    by_cases h1 : isLet c.toNat = true
    · rw [if_pos h1] at h ⊢
      have := hpos a c hc (by unfold okB; rw [h1]; rfl)
      have := htw a
      simp only []
      omega
    · rw [if_neg h1] at h ⊢
      by_cases h2 : isDig c.toNat = true
      · rw [if_pos h2] at h ⊢
        have := hpos a c hc (by unfold okB; rw [h2, Bool.or_true])
        have := htw a
        simp only []
        omega
      · rw [if_neg h2] at h ⊢
        by_cases h3 : c.toNat = 64
        · rw [if_pos h3] at h ⊢
          cases hd : L[a + 1]? with
          | none => rw [hd] at h; cases h
          | some d =>
            rw [hd] at h
            simp only [] at h ⊢
            by_cases h4 : isLet d.toNat = true
            · rw [if_pos h4] at h ⊢
              have := hpos (a + 1) d hd (by unfold okB; rw [h4]; rfl)
              have := htw (a + 1)
              obtain ⟨h5, _⟩ := List.getElem?_eq_some_iff.1 hd
              simp only []
              omega
            · rw [if_neg h4] at h; cases h
        · rw [if_neg h3] at h ⊢
          cases hf : signsB.find? (fun g => mt L a g.data.toList) with
          | none => rw [hf] at h; cases h
          | some g =>
            have hm := List.find?_some hf
            have hg : ∀ g ∈ signsB, 0 < g.size := by decide +kernel
            have := hg g (List.mem_of_find?_eq_some hf)
            unfold mt at hm
            simp only [Bool.and_eq_true, decide_eq_true_eq, ← Lib.size_eq] at hm
            simp only []
            omega
/-- the tokens of a text from a place on, behind those that are found -/
def toks (s : ByteArray) (a : Nat) (acc : List Tok) : List Tok × Nat × Bool :=
  if h : a < s.size then
    if blank (s[a]'h).toNat then toks s (a + 1) acc
    else
      match hf : (fst3 s.data.toList a).2.2 with
      | false => ([], a, false)
      | true => toks s (fst3 s.data.toList a).2.1 (acc ++ [⟨(fst3 s.data.toList a).1, a, s.extract a (fst3 s.data.toList a).2.1⟩])
  else (acc, 0, true)
termination_by s.size - a
decreasing_by
  · omega
  · have := (fst3_gt hf).1; omega
theorem toks_end {s : ByteArray} {a : Nat} {acc : List Tok} (h : ¬ a < s.size) : toks s a acc = (acc, 0, true) := by rw [toks, dif_neg h]
theorem toks_blank {s : ByteArray} {a : Nat} {acc : List Tok} (h : a < s.size) (hb : blank (s[a]'h).toNat = true) : toks s a acc = toks s (a + 1) acc := by rw [toks, dif_pos h, if_pos hb]
theorem toks_no {s : ByteArray} {a : Nat} {acc : List Tok} (h : a < s.size) (hb : blank (s[a]'h).toNat = false) (hf : (fst3 s.data.toList a).2.2 = false) : toks s a acc = ([], a, false) := by
  rw [toks, dif_pos h, if_neg (by rw [hb]; decide)]
  split
  · rfl
  · rename_i h1; rw [hf] at h1; cases h1
theorem toks_yes {s : ByteArray} {a : Nat} {acc : List Tok} (h : a < s.size) (hb : blank (s[a]'h).toNat = false) (hf : (fst3 s.data.toList a).2.2 = true) :
    toks s a acc = toks s (fst3 s.data.toList a).2.1 (acc ++ [⟨(fst3 s.data.toList a).1, a, s.extract a (fst3 s.data.toList a).2.1⟩]) := by
  rw [toks, dif_pos h, if_neg (by rw [hb]; decide)]
  split
  · rename_i h1; rw [hf] at h1; cases h1
  · rfl

theorem Tryd.infoTok : (Tryd.prog.info? 127).map (fun i => (i.zero, i.size, i.bytes)) = some (some (.agg #[.int .i64 0, .int .i64 0, .string ⟨#[]⟩]), 3, 32) := by kernel_rfl

set_option maxRecDepth 100000 in
set_option maxHeartbeats 1600000 in
theorem tokens_any (s : ByteArray) (w : World) (hs : s.size ≤ 1048576) :
    Calls Tryd.prog 91 #[.string s] w fun e w' => ∃ v, e = .returned (.tuple #[v, .int .i64 (toks s 0 []).2.1, .bool (toks s 0 []).2.2]) ∧
      w'.ownsRow w.heap.size 127 3 v (toks s 0 []).1.length ((toks s 0 []).1.flatMap Tok.cells) ∧ Ext w w' := by
  obtain ⟨i0, hi0, hz0, hz1, hz2⟩ := info_parts Tryd.infoTok
  have HI := Lib.hid hi0; have HZ0 := Lib.hid hz0; have HZ1 := Lib.hid hz1; have HZ2 := Lib.hid hz2
  clear hi0 hz0 hz1 hz2
  have HL := Lib.hid (Lib.size_eq s)
  go_enter Tryd.func91, Tryd.ntmps91
  go_wp2_with fail
  go_loopw [5, 6] (fun v u wr => ∃ (a : Nat) (acc : List Tok), a ≤ s.size ∧ u = .int .i64 a ∧ acc.length ≤ a ∧ wr.ownsRow w.heap.size 127 3 v acc.length (acc.flatMap Tok.cells) ∧ toks s a acc = toks s 0 [] ∧ Ext w wr) (fun _ u _ => s.size - (intOf u).toNat)
  case atStart => exact ⟨0, [], by omega, rfl, by simp, World.ownsRow_nil _ _ _ _, rfl, Ext.refl _⟩
  case round =>
    obtain ⟨a, acc, ha, rfl, hal, hown, ht, hx⟩ := hrel
    have HT := Lib.hid ht
    clear ht
    by_cases hlt : a < s.size
    · cases hb : blank (s[a]'hlt).toNat
      case true =>
        have HE := Lib.hid (toks_blank (acc := acc) hlt hb)
        have hb2 : (((s[a]'hlt).toNat : Int) == 32) = true ∨ ((((s[a]'hlt).toNat : Int) == 32) = false ∧ (((s[a]'hlt).toNat : Int) == 10) = true) := by
          have : (s[a]'hlt).toNat = 32 ∨ (s[a]'hlt).toNat = 10 := by simpa [blank] using hb
          rcases this with h | h
          · exact .inl (by rw [h]; rfl)
          · exact .inr (by rw [h]; exact ⟨rfl, rfl⟩)
        have HO := Lib.hid hown
        clear hb hown
        rcases hb2 with hb2 | ⟨hb2, hb3⟩
        all_goals
          go_wp2_with fail
          go_roundw
          case rel => exact ⟨a + 1, acc, by omega, by go_num, by omega, HO.out, by rw [← HE.out, HT.out], hx⟩
          case measure => simp [intOf]; omega
      case false =>
        have hb2 : ¬ (s[a]'hlt).toNat = 32 ∧ ¬ (s[a]'hlt).toNat = 10 := by simpa [blank] using hb
        have hb3 : (((s[a]'hlt).toNat : Int) == 32) = false := by rw [beq_eq_false_iff_ne]; omega
        have hb4 : (((s[a]'hlt).toNat : Int) == 10) = false := by rw [beq_eq_false_iff_ne]; omega
        clear hb2
        cases hf : (fst3 s.data.toList a).2.2
        case true =>
          have HE := Lib.hid (toks_yes (acc := acc) hlt hb hf)
          obtain ⟨f, hff⟩ : ∃ f, f = fst3 s.data.toList a := ⟨_, rfl⟩
          have hg := fst3_gt hf
          rw [← hff] at hg hf
          rw [← HL.out] at hg
          have HFF := Lib.hid hff
          obtain ⟨f1, f2, f3⟩ := f
          simp only [] at hg hf
          subst hf
          have HO := Lib.hid hown
          have HBB := Lib.hid hb
          have hxs := hx.size
          clear hff hown hb
          have hg1 : (a : Int) ≤ f2 := by omega
          have hg2 : (f2 : Int) ≤ s.size := by omega
          go_wp2_with (first
            | (go_at_call 101; refine (first_any s a _ (by omega) hlt).mono ?_; rw [← HFF.out]; rintro e w1 ⟨rfl, x1⟩; have O1 := Lib.hid (own_ext HO.out x1))
            | (at_builtin; refine wpList_append_own _ rfl _ _ 123 rfl w.heap.size 127 i0 _ 3 32 Tryd.underlying123 HI.out HZ0.out HZ1.out HZ2.out rfl (by decide) _ _ _ rfl (O1.out.alloc _) ⟨w1.heap.size, 0, none⟩ 1 1 [.int .i64 f1, .int .i64 a, .string (s.extract a f2)] rfl rfl ?c1 ?c2 ?c3 ?c4 ?c5 ?_))
          case c1 =>
            intro j u hj
            match j, hj with
            | 0, hj => simp at hj; subst hj; simp [Addr.add]
            | 1, hj => simp at hj; subst hj; simp [Addr.add]
            | 2, hj => simp at hj; subst hj; simp [Addr.add]
          case c2 => intro u hu; simp at hu; rcases hu with rfl | rfl | rfl <;> rfl
          case c3 => unfold maxLen; omega
          case c4 => omega
          case c5 => have := x1.size; simp; omega
          · intro v' w2 hown2 hgrow _
            have hx2 := ((hx.trans x1).alloc (.cells #[.int .i64 f1, .int .i64 a, .string (s.extract a f2)] 127)).grown hgrow (own_row HO.out)
            have HO2 := Lib.hid hown2
            clear hown2 hgrow
            go_wp2_with fail
            go_roundw
            case rel => exact ⟨f2, acc ++ [⟨f1, a, s.extract a f2⟩], hg.2, rfl, by simp; omega, by simpa [Tok.cells] using HO2.out, by rw [← HT.out, HE.out, ← HFF.out], hx2⟩
            case measure => simp [intOf]; omega
        case false =>
          have HE := Lib.hid (toks_no (acc := acc) hlt hb hf)
          have HO := Lib.hid hown
          obtain ⟨f, hff⟩ : ∃ f, f = fst3 s.data.toList a := ⟨_, rfl⟩
          rw [← hff] at hf
          have HFF := Lib.hid hff
          obtain ⟨f1, f2, f3⟩ := f
          simp only [] at hf
          subst hf
          clear hff hown hb
          go_wp2_with (first
            | (go_at_call 101; refine (first_any s a _ (by omega) hlt).mono ?_; rw [← HFF.out]; rintro e w1 ⟨rfl, x1⟩))
          go_ret3
          refine ⟨_, ret_tup3 (by rw [← HT.out, HE.out]) (by rw [← HT.out, HE.out]), by rw [← HT.out, HE.out]; exact World.ownsRow_nil _ _ _ _, hx.trans x1⟩
    · have HO := Lib.hid hown
      have HE := Lib.hid (toks_end (acc := acc) hlt)
      clear hown
      go_wp2_with fail
      go_ret3
      refine ⟨_, ret_tup3 (by rw [← HT.out, HE.out]; rfl) (by rw [← HT.out, HE.out]), by rw [← HT.out, HE.out]; exact HO.out, hx⟩

def oneTok (k : Int) (x : List UInt8) : List Tok → Bool
  | [t] => t.kind == k && t.text.data.toList == x
  | _ => false
def isTokS (k : Int) (s : ByteArray) : Bool := (toks s 0 []).2.2 && oneTok k s.data.toList (toks s 0 []).1
set_option maxRecDepth 100000 in
set_option maxHeartbeats 1600000 in
theorem isToken_any (k : Int) (s : ByteArray) (w : World) (hs : s.size ≤ 1048576) :
    Calls Tryd.prog 79 #[.int .i64 k, .string s] w fun e w' => e = .returned (.bool (isTokS k s)) ∧ Ext w w' := by
  obtain ⟨l, hl⟩ : ∃ l, l = toks s 0 [] := ⟨_, rfl⟩
  have HT := Lib.hid hl
  have HS : Hid (isTokS k s = (l.2.2 && oneTok k s.data.toList l.1)) := by unfold Hid isTokS; rw [← hl]
  clear hl
  obtain ⟨l, a, b⟩ := l
  cases b
  case false =>
    go_enter Tryd.func79, Tryd.ntmps79
    go_wp2_with (first
      | (go_at_call 91; refine (tokens_any s _ hs).mono ?_; rw [← HT.out]; rintro e w1 ⟨v, rfl, hown, x1⟩; obtain ⟨A, cp, rfl, hat⟩ := own_slice hown; clear hown))
    go_ret
    exact ⟨ret_bool HS.out.symm, x1⟩
  case true =>
    match l, HT, HS with
    | [t], HT, HS =>
      go_enter Tryd.func79, Tryd.ntmps79
      go_wp2_with (first
        | (go_at_call 91; refine (tokens_any s _ hs).mono ?_; rw [← HT.out]; rintro e w1 ⟨v, rfl, hown, x1⟩; obtain ⟨A, cp, rfl, hat⟩ := own_slice hown; obtain ⟨b, off, rfl, hb, hc⟩ := hat (by simp); have c0 := hc 0 0 (by simp) (by omega); have c1 := hc 0 2 (by simp) (by omega); simp [Tok.cells] at c0 c1; clear hc hown))
      all_goals
        go_ret
        refine ⟨ret_bool ?_, x1⟩
        rw [HS.out]
        simp only [oneTok, Bool.true_and, ← Lib.toList_data]
        simp [*]
    | [], HT, HS =>
      go_enter Tryd.func79, Tryd.ntmps79
      go_wp2_with (first
        | (go_at_call 91; refine (tokens_any s _ hs).mono ?_; rw [← HT.out]; rintro e w1 ⟨v, rfl, hown, x1⟩; obtain ⟨A, cp, rfl, hat⟩ := own_slice hown; clear hown hat; simp only [List.length_nil]))
      go_ret
      exact ⟨ret_bool HS.out.symm, x1⟩
    | t :: t2 :: r, HT, HS =>
      have h1 : ((((t :: t2 :: r : List Tok).length : Nat) : Int) == 1) = false := by rw [beq_eq_false_iff_ne]; simp only [List.length_cons]; omega
      obtain ⟨n, hn⟩ : ∃ n, n = (t :: t2 :: r : List Tok).length := ⟨_, rfl⟩
      rw [← hn] at h1
      have HN := Lib.hid hn
      clear hn
      go_enter Tryd.func79, Tryd.ntmps79
      go_wp2_with (first
        | (go_at_call 91; refine (tokens_any s _ hs).mono ?_; rw [← HT.out]; rintro e w1 ⟨v, rfl, hown, x1⟩; obtain ⟨A, cp, rfl, hat⟩ := own_slice hown; clear hown hat; simp only []; rw [← HN.out]))
      go_ret
      exact ⟨ret_bool HS.out.symm, x1⟩
end Go.Proofs.YtamgalmlhjbbdaaDoor.c
