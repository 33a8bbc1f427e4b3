/- A name by the code and by the reference is one thing: contracts of tree.IsName and of the reference's IsName, over one plain function. The table strings.asciiSpace holds what its text lays. -/
import Derived.Test.YtobfbfbjccmbiaaGreatDoorRlex
import Derived.Test.YtobfbfbjccmbiaaGreatDoorNum
namespace Go.Proofs.YtobfbfbjccmbiaaGreatDoor.c
open Go.RowKit
set_option linter.unusedVariables false
set_option maxRecDepth 100000
set_option maxHeartbeats 1600000
set_option linter.unusedSimpArgs false

/-! ### the plain law: one token of kind 0 that is the whole text is a word -/
theorem toks_head (s:ByteArray):∀ (n a:Nat) (acc:List Tok),s.size - a ≤ n → ∀ t r,acc=t :: r → (toks s a acc).1=[] ∨ ∃ r',(toks s a acc).1=t :: r':=by
 intro n
 induction n with
 | zero =>
  intro a acc hn t r hacc
  rw [toks_end (by omega)]
  exact .inr ⟨r,hacc⟩
 | succ n ih =>
  intro a acc hn t r hacc
  by_cases h:a < s.size
  ·cases hb:blank (s[a]'h).toNat
   ·cases hf:(fst3 s.data.toList a).2.2
    ·rw [toks_no h hb hf]; exact .inl rfl
    ·rw [toks_yes h hb hf]
     have:=(fst3_gt hf).1
     exact ih _ _ (by omega) t (r ++ [_]) (by rw [hacc]; rfl)
   ·rw [toks_blank h hb]
    exact ih _ _ (by omega) t r hacc
  ·rw [toks_end h]
   exact .inr ⟨r,hacc⟩
theorem toks_short (s:ByteArray):∀ (n a:Nat),s.size - a ≤ n → (toks s a []).1=[] ∨ ∃ t r,(toks s a []).1=t :: r∧t.text.data.toList.length ≤ s.size - a:=by
 intro n
 induction n with
 | zero =>
  intro a hn
  rw [toks_end (by omega)]
  exact .inl rfl
 | succ n ih =>
  intro a hn
  by_cases h:a < s.size
  ·cases hb:blank (s[a]'h).toNat
   ·cases hf:(fst3 s.data.toList a).2.2
    ·rw [toks_no h hb hf]; exact .inl rfl
    ·rw [toks_yes h hb hf]
     have hg:=fst3_gt hf
     rcases toks_head s s.size (fst3 s.data.toList a).2.1 ([] ++ [⟨(fst3 s.data.toList a).1,a,s.extract a (fst3 s.data.toList a).2.1⟩]) (by omega) _ _ rfl with h1 | ⟨r,h1⟩
     ·exact .inl h1
     ·refine .inr ⟨_,r,h1,?_⟩
      rw [Lib.extract_data,List.length_take,List.length_drop,← Lib.size_eq]
      omega
   ·rw [toks_blank h hb]
    rcases ih (a + 1) (by omega) with h1 | ⟨t,r,h1,h2⟩
    ·exact .inl h1
    ·exact .inr ⟨t,r,h1,by omega⟩
  ·rw [toks_end h]
   exact .inl rfl
theorem blank_let {c:Nat} (h:isLet c=true):blank c=false:=by
 unfold isLet at h
 unfold blank
 simp at h ⊢
 omega
theorem fst3_kind {L:List UInt8} {a:Nat} {c:UInt8} (h:(fst3 L a).2.2=true) (hc:L[a]?=some c) (hl:isLet c.toNat=false):(fst3 L a).1 ≠ 0:=by
 unfold fst3 at h ⊢
 rw [hc] at h ⊢
 simp only [] at h ⊢
 rw [if_neg (by rw [hl]; decide)] at h ⊢
 by_cases h2:isDig c.toNat=true
 ·rw [if_pos h2]; simp
 ·rw [if_neg h2] at h ⊢
  by_cases h3:c.toNat=64
  ·rw [if_pos h3] at h ⊢
   cases hd:L[a + 1]? with
   | none=>rw [hd] at h; cases h
   | some d =>
    rw [hd] at h
    simp only [] at h ⊢
    by_cases h4:isLet d.toNat=true
    ·rw [if_pos h4]; simp
    ·rw [if_neg h4] at h; cases h
  ·rw [if_neg h3] at h ⊢
   cases hf:signsB.find? (fun g=>mt L a g.data.toList) with
   | none=>rw [hf] at h; cases h
   | some g=>simp
theorem word_law (s:ByteArray):isTokS 0 s=wordS s.data.toList:=by
 by_cases h0:0 < s.size
 ·have hL:=Lib.size_eq s
  have hge:s.data.toList[0]?=some (s[0]'h0):=List.getElem?_eq_getElem (by omega)
  rw [word_cons h0]
  cases hl:isLet (s[0]'h0).toNat
  ·rw [Bool.false_and]
   unfold isTokS
   cases hb:blank (s[0]'h0).toNat
   ·cases hf:(fst3 s.data.toList 0).2.2
    ·rw [toks_no h0 hb hf]; rfl
    ·rw [toks_yes h0 hb hf]
     have hk:(fst3 s.data.toList 0).1 ≠ 0:=by
      exact fst3_kind hf hge hl
     rcases toks_head s s.size (fst3 s.data.toList 0).2.1 ([] ++ [⟨(fst3 s.data.toList 0).1,0,s.extract 0 (fst3 s.data.toList 0).2.1⟩]) (by omega) _ _ rfl with h1 | ⟨r,h1⟩
     ·rw [h1]; simp [oneTok]
     ·rw [h1]
      cases r with
      | nil=>simp [oneTok,hk]
      | cons x r=>simp [oneTok]
   ·rw [toks_blank h0 hb]
    rcases toks_short s s.size 1 (by omega) with h1 | ⟨t,r,h1,h2⟩
    ·rw [Nat.zero_add,h1]; simp [oneTok]
    ·rw [Nat.zero_add,h1]
     cases r with
     | nil =>
      have:(t.text.data.toList == s.data.toList)=false:=by
       rw [beq_eq_false_iff_ne]
       intro e
       rw [e] at h2
       omega
      simp [oneTok,this]
     | cons x r=>simp [oneTok]
  ·rw [Bool.true_and]
   have hb:=blank_let hl
   have hf:fst3 s.data.toList 0=(0,0 + ((s.data.toList.drop 0).takeWhile okB).length,true):=by
    unfold fst3
    rw [hge]
    simp only [hl,if_true]
   unfold isTokS
   rw [toks_yes h0 hb (by rw [hf])]
   rw [hf]
   simp only [List.drop_zero,Nat.zero_add]
   by_cases he:(s.data.toList.takeWhile okB).length=s.size
   ·rw [toks_end (by omega)]
    simp only [List.nil_append,oneTok,he,beq_self_eq_true,Bool.true_and]
    rw [Lib.extract_data,List.drop_zero,List.take_of_length_le (by omega)]
    simp
   ·have hx:(((s.data.toList.takeWhile okB).length == s.size))=false:=by rw [beq_eq_false_iff_ne]; exact he
    rw [hx]
    have hle:(s.data.toList.takeWhile okB).length ≤ s.size:=by rw [hL]; exact (List.takeWhile_prefix okB).length_le
    rcases toks_head s s.size (s.data.toList.takeWhile okB).length ([] ++ [⟨0,0,s.extract 0 (s.data.toList.takeWhile okB).length⟩]) (by omega) _ _ rfl with h1 | ⟨r,h1⟩
    ·rw [h1]; simp [oneTok]
    ·rw [h1]
     cases r with
     | nil =>
      have:((s.extract 0 (s.data.toList.takeWhile okB).length).data.toList == s.data.toList)=false:=by
       rw [beq_eq_false_iff_ne]
       intro e
       have e2:=congrArg List.length e
       rw [Lib.extract_data,List.length_take,List.length_drop] at e2
       omega
      simp only [oneTok,this,Bool.and_false,List.nil_append]
     | cons x r=>simp [oneTok]
 ·rw [word_nil (by omega)]
  unfold isTokS
  rw [toks_end (by omega)]
  rfl

/-! ### reading the name of a type of numbers -/
theorem wr10 {n:Nat} (h:n < 100):wr 10 n=if n < 10 then [dg n] else [dg (n / 10),dg (n % 10)]:=by
 by_cases h1:n < 10
 ·rw [if_pos h1,wr_small h1]
 ·rw [if_neg h1,wr_big (by omega) (by omega),wr_small (by omega)]
  rfl
theorem parse_dec {k:Nat} (hk:k < 31):parseS 10 (wr 10 (k + 1))=some ((k + 1:Nat):Int):=by
 have h:∀ k:Fin 31,accS 10 (if k.1 + 1 < 10 then [dg (k.1 + 1)] else [dg ((k.1 + 1) / 10),dg ((k.1 + 1) % 10)]) 0=some (k.1 + 1) ∧
   Lib.trimPrefix (if k.1 + 1 < 10 then [dg (k.1 + 1)] else [dg ((k.1 + 1) / 10),dg ((k.1 + 1) % 10)]) [45]=(if k.1 + 1 < 10 then [dg (k.1 + 1)] else [dg ((k.1 + 1) / 10),dg ((k.1 + 1) % 10)]):=by decide +kernel
 obtain ⟨h1,h2⟩:=h ⟨k,hk⟩
 simp only [] at h1 h2
 rw [← wr10 (by omega)] at h1 h2
 rw [parseS_end (m:=((k + 1:Nat):Int)) h2.symm h1 (by rw [if_neg (by omega)]),if_neg]
 have:wrI 10 ((k + 1:Nat):Int)=wr 10 (k + 1):=by unfold wrI; rw [if_neg (by omega),Int.natAbs_natCast]
 rw [this]
 rintro (h | h | h)
 ·omega
 ·omega
 ·exact h rfl
theorem parseS_inv {b:Nat} {l:List UInt8} {m:Int} (h:parseS b l=some m):wrI b m=l:=by
 cases ha:accS b (Lib.trimPrefix l [45]) 0 with
 | none=>rw [parseS_acc rfl ha] at h; cases h
 | some n =>
  rw [parseS_end rfl ha rfl] at h
  generalize (if (Lib.trimPrefix l [45]).length < l.length then -(n:Int) else (n:Int))=q at h
  by_cases hc:q < -1099511627776 ∨ 1099511627776 < q ∨ wrI b q ≠ l
  ·rw [if_pos hc] at h; cases h
  ·rw [if_neg hc] at h
   injection h with h
   rw [← h]
   exact Classical.not_not.1 fun e=>hc (.inr (.inr e))
theorem wr_ne (b n:Nat):wr b n ≠ []:=by
 rw [wr]; split <;> simp
theorem readS_iff (l:List UInt8) (b:Bool) (m:Int):readS l=some (b,m) ↔ ∃ k:Nat,k < 31∧m=((k + 1:Nat):Int)∧tname b (k + 1)=l:=by
 constructor
 ·intro h
  cases l with
  | nil=>cases h
  | cons c r =>
   rw [readS_cons] at h
   split at h
   ·cases h
   ·rename_i hc
    cases hp:parseS 10 r with
    | none=>rw [hp] at h; cases h
    | some n =>
     rw [hp] at h
     simp only [] at h
     split at h
     ·cases h
     ·rename_i hm
      injection h with h
      injection h with h1 h2
      subst h2
      refine ⟨(n - 1).toNat,by omega,by omega,?_⟩
      have hw:=parseS_inv hp
      have hn:((n - 1).toNat + 1:Nat)=n.natAbs:=by omega
      have hc':c=117 ∨ c=105:=by
       rcases Classical.em (c=117) with h | h
       ·exact .inl h
       ·refine .inr (Classical.not_not.1 fun e=>hc (.inr ⟨h,e⟩))
      have hr:wr 10 n.natAbs=r:=by
       unfold wrI at hw
       rwa [if_neg (by omega)] at hw
      unfold tname
      rw [hn,hr,← h1]
      rcases hc' with rfl | rfl <;> rfl
 ·rintro ⟨k,hk,rfl,rfl⟩
  unfold tname
  rw [readS_cons,if_neg,parse_dec hk]
  ·simp only []
   rw [if_neg (by omega)]
   cases b <;> rfl
  ·rintro (h | h)
   ·exact wr_ne _ _ h
   ·cases b
    ·exact h.1 rfl
    ·exact h.2 rfl
theorem read_law (l:List UInt8):readE l=rread l:=by
 cases h:readS l with
 | none =>
  rw [readE_none h]
  unfold rread
  have:(List.range 31).find? (fun k=>tname false (k + 1) == l || tname true (k + 1) == l)=none:=by
   rw [List.find?_range_eq_none]
   intro j hj
   cases hb:(tname false (j + 1) == l || tname true (j + 1) == l)
   ·rfl
   ·exfalso
    simp only [Bool.or_eq_true,beq_iff_eq] at hb
    rcases hb with hb | hb
    ·rw [(readS_iff l false _).2 ⟨j,hj,rfl,hb⟩] at h; cases h
    ·rw [(readS_iff l true _).2 ⟨j,hj,rfl,hb⟩] at h; cases h
  rw [this]
 | some p =>
  obtain ⟨b,m⟩:=p
  rw [readE_some h]
  obtain ⟨k,hk,rfl,ht⟩:=(readS_iff l b m).1 h
  unfold rread
  have:(List.range 31).find? (fun k=>tname false (k + 1) == l || tname true (k + 1) == l)=some k:=by
   rw [List.find?_range_eq_some]
   refine ⟨by cases b <;> simp [ht],by simpa using hk,fun j hj=>?_⟩
   cases hb:(tname false (j + 1) == l || tname true (j + 1) == l)
   ·rfl
   ·exfalso
    simp only [Bool.or_eq_true,beq_iff_eq] at hb
    have:∀ c,tname c (j + 1)=l → False:=fun c hc=>by
     have h2:=(readS_iff l c _).2 ⟨j,by omega,rfl,hc⟩
     rw [h] at h2
     injection h2 with h2
     injection h2 with _ h2
     omega
    rcases hb with hb | hb
    ·exact this _ hb
    ·exact this _ hb
  rw [this]
  simp only []
  have hf:(tname false (k + 1) == l)=!b:=by
   cases b
   ·rw [ht]; simp
   ·rw [Bool.not_true,beq_eq_false_iff_ne,← ht]
    intro e
    unfold tname at e
    injection e with e
    cases e
  rw [hf,Bool.not_not]
def isNameS (s:ByteArray):Bool:=decide (s.size ≤ 8) && wordS s.data.toList && !keyS s && (readE s.data.toList).2.2 != 0

theorem isName_any (s:ByteArray) (w:World) (g:Laid w) :
  Calls Tryz.prog 16 #[.string s] w fun e w'=>e=.returned (.bool (isNameS s))∧Ext w w':=by
 by_cases h8:8 < (s.size:Int)
 ·have HS:=Lib.hid (show isNameS s=false by unfold isNameS; rw [decide_eq_false (by omega)]; rfl)
  go_enter Tryz.func16,Tryz.ntmps16
  go_wp2_with fail
  go_ret
  exact ⟨ret_bool HS.out.symm,exO⟩
 ·have HS:=Lib.hid (show isNameS s=(wordS s.data.toList && !keyS s && (readE s.data.toList).2.2 != 0) by unfold isNameS; rw [decide_eq_true (by omega)]; rfl)
  go_enter Tryz.func16,Tryz.ntmps16
  go_wp2_with (first
   | (go_at_call 35; refine (isWord_any s _ (by omega)).mono ?_; rintro e w1 ⟨rfl,x1⟩)
   | (go_at_call 36; refine (isKey_any s _ (g.ext exO)).mono ?_; rintro e w2 ⟨rfl,x2⟩)
   | (go_at_call 37; refine (numRead_any s _ (by omega)).mono ?_; rintro e w3 ⟨rfl,x3⟩))
  all_goals
   go_ret
   exact ⟨ret_bool (by rw [HS.out]; simp [*]),exO⟩
theorem refIsName_any (s:ByteArray) (w:World) :
  Calls Tryz.prog 17 #[.string s] w fun e w'=>e=.returned (.bool (isNameS s))∧Ext w w':=by
 by_cases h8:8 < (s.size:Int)
 ·have HS:=Lib.hid (show isNameS s=false by unfold isNameS; rw [decide_eq_false (by omega)]; rfl)
  go_enter Tryz.func17,Tryz.ntmps17
  go_wp2_with fail
  go_ret
  exact ⟨ret_bool HS.out.symm,exO⟩
 ·have HS:=Lib.hid (show isNameS s=(isTokS 0 s && !keyS s && (rread s.data.toList).2.2 != 0) by unfold isNameS; rw [decide_eq_true (by omega),word_law,read_law]; rfl)
  go_enter Tryz.func17,Tryz.ntmps17
  go_wp2_with (first
   | (go_at_call 38; go_in)
   | (go_at_call 70; refine (isToken_any 0 s _ (by omega)).mono ?_; rintro e w1 ⟨rfl,x1⟩)
   | (go_at_call 39; refine (refIsKey_any s _).mono ?_; rintro e w2 ⟨rfl,x2⟩)
   | (go_at_call 40; refine (refRead_any s _).mono ?_; rintro e w3 ⟨rfl,x3⟩))
  all_goals
   go_ret
   exact ⟨ret_bool (by rw [HS.out]; simp [*]),exO⟩
end Go.Proofs.YtobfbfbjccmbiaaGreatDoor.c
