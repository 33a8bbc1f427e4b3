/- Contracts of the reference's functions on tokens: isLetter, isDigit, run, signs, keys, first, tokens, isToken, IsWord, IsKey. Condition: the text is not longer than 1,048,576 bytes. Contracts of the reference's tokens, isToken and IsWord. Condition: the text is not longer than 1,048,576 bytes. A name by the code and by the reference is one thing: contracts of tree.IsName and of the reference's IsName, over one plain function. The table strings.asciiSpace holds what its text lays. -/
import Derived.Test.YtmmnhbhnjiajhaaGreatDoorBLex
import Derived.Test.YtmmnhbhnjiajhaaGreatDoorBLib
import Derived.Test.YtmmnhbhnjiajhaaGreatDoorBNum
namespace Go.Proofs.YtmmnhbhnjiajhaaGreatDoor.c
open Go.RowKit
set_option linter.unusedVariables false
set_option maxRecDepth 100000
set_option maxHeartbeats 1600000
set_option linter.unusedSimpArgs false

/-! ### first -/
def mt (L:List UInt8) (a:Nat) (g:List UInt8):Bool:=decide (a + g.length ≤ L.length) && ((L.drop a).take g.length == g)
def fst3 (L:List UInt8) (a:Nat):Int × Nat × Bool :=
 match L[a]? with
 | none=>(0,0,false)
 | some c =>
  if isLet c.toNat then (0,a + ((L.drop a).takeWhile okB).length,true)
  else if isDig c.toNat then (1,a + ((L.drop a).takeWhile okB).length,true)
  else if c.toNat=64 then
   match L[a + 1]? with
   | none=>(0,0,false)
   | some d=>if isLet d.toNat then (3,a + 1 + ((L.drop (a + 1)).takeWhile okB).length,true) else (0,0,false)
  else match signsB.find? (fun g=>mt L a g.data.toList) with
   | none=>(0,0,false)
   | some g=>(2,a + g.size,true)
structure Tok where
 kind:Int
 at_:Nat
 text:ByteArray
def Tok.cells (t:Tok):List Value:=[.int .i64 t.kind,.int .i64 t.at_,.string t.text]
def blank (c:Nat):Bool:=c == 32 || c == 10
theorem fst3_gt {L:List UInt8} {a:Nat} (h:(fst3 L a).2.2=true):a < (fst3 L a).2.1∧(fst3 L a).2.1 ≤ L.length:=by
 unfold fst3 at h ⊢
 cases hc:L[a]? with
 | none=>rw [hc] at h; cases h
 | some c =>
  obtain ⟨hlt,hce⟩:=List.getElem?_eq_some_iff.1 hc
  rw [hc] at h
  simp only [] at h ⊢
  have htw:∀ b,((L.drop b).takeWhile okB).length ≤ L.length - b:=fun b=>by
   have:=(List.takeWhile_prefix okB (l:=L.drop b)).length_le
   rwa [List.length_drop] at this
  have hpos:∀ b (d:UInt8),L[b]?=some d → okB d=true → 0 < ((L.drop b).takeWhile okB).length:=fun b d hd ho=>by
   obtain ⟨hb,he⟩:=List.getElem?_eq_some_iff.1 hd
   rw [List.drop_eq_getElem_cons hb,he]
   simp [ho]
  by_cases h1:isLet c.toNat=true
  ·rw [if_pos h1] at h ⊢
   have:=hpos a c hc (by unfold okB; rw [h1]; rfl)
   have:=htw a
   simp only []
   omega
  ·rw [if_neg h1] at h ⊢
   by_cases h2:isDig c.toNat=true
   ·rw [if_pos h2] at h ⊢
    have:=hpos a c hc (by unfold okB; rw [h2,Bool.or_true])
    have:=htw a
    simp only []
    omega
   ·rw [if_neg h2] at h ⊢
    by_cases h3:c.toNat=64
    ·rw [if_pos h3] at h ⊢
     cases hd:L[a + 1]? with
     | none=>rw [hd] at h; cases h
     | some d =>
      rw [hd] at h
      simp only [] at h ⊢
      by_cases h4:isLet d.toNat=true
      ·rw [if_pos h4] at h ⊢
       have:=hpos (a + 1) d hd (by unfold okB; rw [h4]; rfl)
       have:=htw (a + 1)
       obtain ⟨h5,_⟩:=List.getElem?_eq_some_iff.1 hd
       simp only []
       omega
      ·rw [if_neg h4] at h; cases h
    ·rw [if_neg h3] at h ⊢
     cases hf:signsB.find? (fun g=>mt L a g.data.toList) with
     | none=>rw [hf] at h; cases h
     | some g =>
      have hm:=List.find?_some hf
      have hg:∀ g ∈ signsB,0 < g.size:=by decide +kernel
      have:=hg g (List.mem_of_find?_eq_some hf)
      unfold mt at hm
      simp only [Bool.and_eq_true,decide_eq_true_eq,← Lib.size_eq] at hm
      simp only []
      omega
def toks (s:ByteArray) (a:Nat) (acc:List Tok):List Tok × Nat × Bool :=
 if h:a < s.size then
  if blank (s[a]'h).toNat then toks s (a + 1) acc
  else
   match hf:(fst3 s.data.toList a).2.2 with
   | false=>([],a,false)
   | true=>toks s (fst3 s.data.toList a).2.1 (acc ++ [⟨(fst3 s.data.toList a).1,a,s.extract a (fst3 s.data.toList a).2.1⟩])
 else (acc,0,true)
termination_by s.size - a
decreasing_by
 ·omega
 ·have:=(fst3_gt hf).1; omega
theorem toks_end {s:ByteArray} {a:Nat} {acc:List Tok} (h:¬ a < s.size):toks s a acc=(acc,0,true):=by rw [toks,dif_neg h]
theorem toks_blank {s:ByteArray} {a:Nat} {acc:List Tok} (h:a < s.size) (hb:blank (s[a]'h).toNat=true):toks s a acc=toks s (a + 1) acc:=by rw [toks,dif_pos h,if_pos hb]
theorem toks_no {s:ByteArray} {a:Nat} {acc:List Tok} (h:a < s.size) (hb:blank (s[a]'h).toNat=false) (hf:(fst3 s.data.toList a).2.2=false):toks s a acc=([],a,false):=by
 rw [toks,dif_pos h,if_neg (by rw [hb]; decide)]
 split
 ·rfl
 ·rename_i h1; rw [hf] at h1; cases h1
theorem toks_yes {s:ByteArray} {a:Nat} {acc:List Tok} (h:a < s.size) (hb:blank (s[a]'h).toNat=false) (hf:(fst3 s.data.toList a).2.2=true) :
  toks s a acc=toks s (fst3 s.data.toList a).2.1 (acc ++ [⟨(fst3 s.data.toList a).1,a,s.extract a (fst3 s.data.toList a).2.1⟩]):=by
 rw [toks,dif_pos h,if_neg (by rw [hb]; decide)]
 split
 ·rename_i h1; rw [hf] at h1; cases h1
 ·rfl

theorem Tryz.infoTok:(Tryz.prog.info? 84).map (fun i=>(i.zero,i.size,i.bytes))=some (some (.agg #[.int .i64 0,.int .i64 0,.string ⟨#[]⟩]),3,32):=by kernel_rfl


/-! ### the plain law: one token of kind 0 that is the whole text is a word -/
/-! ### reading the name of a type of numbers -/
def isNameS (s:ByteArray):Bool:=decide (s.size ≤ 8) && wordS s.data.toList && !keyS s && (readE s.data.toList).2.2 != 0

theorem isName_any (s:ByteArray) (w:World) (g:Laid w) :
  Calls Tryz.prog 86 #[.string s] w fun e w'=>e=.returned (.bool (isNameS s))∧Ext w w':=by
 by_cases h8:8 < (s.size:Int)
 ·have HS:=Lib.hid (show isNameS s=false by unfold isNameS; rw [decide_eq_false (by omega)]; rfl)
  go_enter Tryz.func86,Tryz.ntmps86
  go_wp2_with fail
  go_ret
  exact ⟨ret_bool HS.out.symm,exO⟩
 ·have HS:=Lib.hid (show isNameS s=(wordS s.data.toList && !keyS s && (readE s.data.toList).2.2 != 0) by unfold isNameS; rw [decide_eq_true (by omega)]; rfl)
  go_enter Tryz.func86,Tryz.ntmps86
  go_wp2_with (first
   | (go_at_call 136; refine (isWord_any s _ (by omega)).mono ?_; rintro e w1 ⟨rfl,x1⟩)
   | (go_at_call 137; refine (isKey_any s _ (g.ext exO)).mono ?_; rintro e w2 ⟨rfl,x2⟩)
   | (go_at_call 138; refine (numRead_any s _ (by omega)).mono ?_; rintro e w3 ⟨rfl,x3⟩))
  all_goals
   go_ret
   exact ⟨ret_bool (by rw [HS.out]; simp [*]),exO⟩
end Go.Proofs.YtmmnhbhnjiajhaaGreatDoor.c
