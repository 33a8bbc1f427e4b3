/- Plain arithmetic of numbers of types: ends, wrapping, the operations, bit by bit too. No condition. Texts of lines: plainly, a text tells its lines, and lines tell which functions there are, if heads have a colon and no other line has. No condition. Decimal digits: which bytes they are, and that they tell the number. No condition. Contracts of package num's least, greatest, fits, Fits. Conditions: a type has 1 to 31 bits. The text of a type: which bytes it has, and that it tells the type. No condition. -/
import Derived.WalkKit
import Derived.Laws.BitsAllLaws
import Derived.Test.YtobfbfbjccmbiaaGreatDoorLib
import Derived.Lib.ItoaNum
import Derived.Test.YtobfbfbjccmbiaaGreatDoorNum
import Derived.Test.YtobfbfbjccmbiaaGreatDoorData
namespace Go.Proofs.YtobfbfbjccmbiaaGreatDoor.c
open Go.RowKit
set_option linter.unusedVariables false
set_option maxRecDepth 100000
set_option maxHeartbeats 1600000
set_option linter.unusedSimpArgs false

def spanI (b:Int):Int:=2 ^ b.toNat
def loI (s:Bool) (b:Int):Int:=if s=true then -(spanI b / 2) else 0
def hiI (s:Bool) (b:Int):Int:=if s=true then spanI b / 2 - 1 else spanI b - 1
def fitI (s:Bool) (b n:Int):Bool:=decide (loI s b ≤ n) && decide (n ≤ hiI s b)
theorem span_parts {b:Int} (h1:1 ≤ b) (h2:b ≤ 31):∃ q:Int,spanI b=2 * q∧1 ≤ q∧q ≤ 1073741824∧q=2 ^ (b - 1).toNat:=by
 have e:b.toNat=(b - 1).toNat + 1:=by omega
 refine ⟨2 ^ (b - 1).toNat,?_,?_,?_,rfl⟩
 ·unfold spanI
  rw [e,Int.pow_succ]
  omega
 ·exact Int.pow_pos (by decide)
 ·have h:(b - 1).toNat ≤ 30:=by omega
  have h2:(2:Int) ^ (b - 1).toNat ≤ 2 ^ 30:=by
   have:=Nat.pow_le_pow_right (n:=2) (by decide) h
   exact_mod_cast this
  simpa using h2
/-! ### bit by bit -/
/-! ### the operations -/

theorem least_any (s:Bool) (b:Int) (w:World) (h1:1 ≤ b) (h2:b ≤ 31) :
  Calls Tryz.prog 207 #[.agg #[.bool s,.int .i64 b]] w fun e w'=>e=.returned (.int .i64 (loI s b))∧Ext w w':=by
 obtain ⟨q,e,q1,q2,eq⟩:=span_parts h1 h2
 have hq:(2:Int) ^ (b.toNat - 1)=q:=by rw [show b.toNat - 1=(b - 1).toNat by omega]; exact eq.symm
 have HL:Hid (loI s b=if s=true then -q else 0):=by unfold Hid loI; rw [e]; split <;> omega
 clear e eq
 cases s
 all_goals
  go_enter Tryz.func207,Tryz.ntmps207
  go_wp2_with fail
  go_ret
  exact ⟨ret_int (by rw [HL.out]; simp),exA⟩
theorem greatest_any (s:Bool) (b:Int) (w:World) (h1:1 ≤ b) (h2:b ≤ 31) :
  Calls Tryz.prog 208 #[.agg #[.bool s,.int .i64 b]] w fun e w'=>e=.returned (.int .i64 (hiI s b))∧Ext w w':=by
 obtain ⟨q,e,q1,q2,eq⟩:=span_parts h1 h2
 have hq:(2:Int) ^ (b.toNat - 1)=q:=by rw [show b.toNat - 1=(b - 1).toNat by omega]; exact eq.symm
 have hp:(2:Int) ^ b.toNat=2 * q:=e
 have HL:Hid (hiI s b=if s=true then q - 1 else 2 * q - 1):=by unfold Hid hiI; rw [e]; split <;> omega
 clear e eq
 cases s
 all_goals
  go_enter Tryz.func208,Tryz.ntmps208
  go_wp2_with fail
  go_ret
  exact ⟨ret_int (by rw [HL.out]; simp),exA⟩
theorem fits_any (s:Bool) (b n:Int) (w:World) (h1:1 ≤ b) (h2:b ≤ 31) :
  Calls Tryz.prog 189 #[.agg #[.bool s,.int .i64 b],.int .i64 n] w fun e w'=>e=.returned (.bool (fitI s b n))∧Ext w w':=by
 have HF:=Lib.hid (show fitI s b n=(decide (loI s b ≤ n) && decide (n ≤ hiI s b)) from rfl)
 go_enter Tryz.func189,Tryz.ntmps189
 go_wp2_with (first
  | (go_at_call 207; refine (least_any s b _ h1 h2).mono ?_; rintro r w1 ⟨rfl,x1⟩; have y1:=x1.facts; have z1:=x1.z0)
  | (go_at_call 208; refine (greatest_any s b _ h1 h2).mono ?_; rintro r w2 ⟨rfl,x2⟩; have y2:=x2.facts; have z2:=x2.size))
 all_goals
  go_ret
  exact ⟨ret_bool (by rw [HF.out]; first | (simp [*]; done) | (simp [*]; intros; omega)),exA⟩
theorem vInt_zero {b:Int} (h1:1 ≤ b) (h2:b ≤ 31):vInt b=0:=by unfold vInt; rw [if_neg (by omega)]
theorem nFits_any (s:Bool) (b n:Int) (w:World) (h1:1 ≤ b) (h2:b ≤ 31) :
  Calls Tryz.prog 164 #[.agg #[.bool s,.int .i64 b],.int .i64 n] w fun e w'=>e=.returned (.tuple #[.bool (fitI s b n),.int .i64 0])∧Ext w w':=by
 have HV:=Lib.hid (vInt_zero h1 h2)
 go_enter Tryz.func164,Tryz.ntmps164
 go_wp2_with (first
  | (go_at_call 59; refine (numValidate_any s b _).mono ?_; rw [HV.out]; rintro r w1 ⟨rfl,x1⟩; have y1:=x1.facts; have z1:=x1.z0)
  | (go_at_call 189; refine (fits_any s b n _ h1 h2).mono ?_; rintro r w2 ⟨rfl,x2⟩; have y2:=x2.facts; have z2:=x2.size))
 go_ret2
 exact ⟨rfl,exA⟩
def voidT:List UInt8:=[118,111,105,100]
def boolT:List UInt8:=[98,111,111,108]
def typT:List UInt8:=[116,121,112,101]
def baseT (t:Ty):List UInt8:=if t.base=0 then voidT else if t.base=1 then boolT else if t.base=4 then typT else if t.base=5 then t.name.data.toList else tname (t.base == 3) t.bits.toNat
def typeT (t:Ty):List UInt8:=(if t.err then [33] else []) ++ ((if t.opt then [63] else []) ++ baseT t)
theorem emp_iff (s:ByteArray):emp s=true ↔ s.data.toList=[]:=by unfold emp; rw [List.isEmpty_iff,← Lib.toList_data]
theorem emp_eq {s:ByteArray} (h:emp s=true):s.data.toList=[]:=(emp_iff s).1 h
theorem bytes_inj {a b:ByteArray} (h:a.data.toList=b.data.toList):a=b:=ByteArray.ext (Array.toList_inj.1 h)
theorem type_cases {t:Ty} (h:isTypeS t=true) :
  (∃ (s:Bool) (k:Nat),t.base=(if s then 3 else 2)∧k < 31∧t.bits=((k + 1:Nat):Int)∧emp t.name=true) ∨ (t.base=5∧t.bits=0∧isNameS t.name=true) ∨ ((t.base=0 ∨ t.base=1 ∨ t.base=4)∧t.bits=0∧emp t.name=true):=by
 unfold isTypeS at h
 split at h
 ·rename_i h1
  simp only [Bool.and_eq_true,bitsOk,decide_eq_true_eq] at h
  refine .inl ⟨t.base == 3,(t.bits - 1).toNat,?_,by omega,by omega,h.2⟩
  rcases h1 with h1 | h1 <;> simp [h1]
 ·split at h
  ·rename_i h1
   simp only [Bool.and_eq_true,beq_iff_eq] at h
   exact .inr (.inl ⟨h1,h.1,h.2⟩)
  ·refine .inr (.inr ?_)
   split at h
   ·simp only [Bool.and_eq_true,beq_iff_eq] at h
    exact ⟨.inl (by assumption),h.1.1,h.1.2⟩
   ·split at h
    ·simp only [Bool.and_eq_true,beq_iff_eq] at h
     exact ⟨.inr (.inr (by assumption)),h.1.1.1,h.1.1.2⟩
    ·simp only [Bool.and_eq_true,beq_iff_eq] at h
     exact ⟨.inr (.inl h.1.1),h.1.2,h.2⟩
theorem name_word {s:ByteArray} (h:isNameS s=true):(∃ c r,s.data.toList=c :: r∧isLet c.toNat=true)∧∀ x,x ∈ s.data.toList → okB x=true:=by
 unfold isNameS at h
 simp only [Bool.and_eq_true] at h
 have h2:=h.1.1.2
 cases hd:s.data.toList with
 | nil=>rw [hd] at h2; cases h2
 | cons c r =>
  rw [hd] at h2
  simp only [wordS,Bool.and_eq_true] at h2
  exact ⟨⟨c,r,rfl,h2.1⟩,fun x hx=>List.all_eq_true.1 h2.2 x hx⟩
theorem name_short {s:ByteArray} (h:isNameS s=true):s.data.toList.length ≤ 8:=by
 unfold isNameS at h
 simp only [Bool.and_eq_true,decide_eq_true_eq] at h
 have:=h.1.1.1
 rwa [Lib.size_eq] at this
theorem name_key {s:ByteArray} (h:isNameS s=true):s.data.toList ≠ voidT∧s.data.toList ≠ boolT∧s.data.toList ≠ typT:=by
 unfold isNameS at h
 simp only [Bool.and_eq_true,Bool.not_eq_true'] at h
 have h2:=h.1.2
 unfold keyS at h2
 refine ⟨fun e=>?_,fun e=>?_,fun e=>?_⟩
 all_goals
  rw [e] at h2
  exact absurd h2 (by decide +kernel)
theorem name_read {s:ByteArray} (h:isNameS s=true):readS s.data.toList=none:=by
 unfold isNameS at h
 simp only [Bool.and_eq_true] at h
 have h2:=h.2
 cases hr:readS s.data.toList with
 | none=>rfl
 | some p=>obtain ⟨b,m⟩:=p; rw [readE_some hr] at h2; simp at h2
theorem wr_dig {k:Nat} (hk:k < 31):(∀ x,x ∈ wr 10 (k + 1) → isDig x.toNat=true)∧(wr 10 (k + 1)).length ≤ 2:=by
 rw [wr10 (by omega)]
 have h:∀ k:Fin 31,(if k.1 + 1 < 10 then [dg (k.1 + 1)] else [dg ((k.1 + 1) / 10),dg ((k.1 + 1) % 10)]).all (fun x=>isDig x.toNat)=true:=by decide +kernel
 refine ⟨fun x hx=>List.all_eq_true.1 (h ⟨k,hk⟩) x hx,?_⟩
 split <;> simp
theorem base_num {t:Ty} {s:Bool} {k:Nat} (e:t.base=if s then 3 else 2) (hb:t.bits=((k + 1:Nat):Int)):baseT t=tname s (k + 1):=by
 unfold baseT
 rw [hb,Int.toNat_natCast,e]
 cases s <;> simp
theorem base_name {t:Ty} (e:t.base=5):baseT t=t.name.data.toList:=by
 unfold baseT
 rw [e]
 simp
theorem base_ok {t:Ty} (h:isTypeS t=true):(∃ c r,baseT t=c :: r∧isLet c.toNat=true)∧(∀ x,x ∈ baseT t → okB x=true)∧(baseT t).length ≤ 8:=by
 rcases type_cases h with ⟨s,k,e,hk,hb,_⟩ | ⟨e,_,hn⟩ | ⟨e,_,_⟩
 ·rw [base_num e hb]
  obtain ⟨h1,h2⟩:=wr_dig hk
  refine ⟨⟨_,_,rfl,by cases s <;> decide⟩,fun x hx=>?_,by simp [tname]; omega⟩
  rcases List.mem_cons.1 hx with e1 | h3
  ·rw [e1]; cases s <;> decide
  ·unfold okB; rw [h1 x h3,Bool.or_true]
 ·rw [base_name e]
  exact ⟨(name_word hn).1,(name_word hn).2,name_short hn⟩
 ·rcases e with e | e | e
  ·rw [show baseT t=voidT by unfold baseT; simp [e]]; exact ⟨⟨_,_,rfl,by decide⟩,by decide,by decide⟩
  ·rw [show baseT t=boolT by unfold baseT; simp [e]]; exact ⟨⟨_,_,rfl,by decide⟩,by decide,by decide⟩
  ·rw [show baseT t=typT by unfold baseT; simp [e]]; exact ⟨⟨_,_,rfl,by decide⟩,by decide,by decide⟩
theorem tname_ne (s:Bool) (k:Nat):tname s k ≠ voidT∧tname s k ≠ boolT∧tname s k ≠ typT:=by
 refine ⟨fun e=>?_,fun e=>?_,fun e=>?_⟩
 all_goals
  have h:=(List.cons.inj e).1
  cases s <;> exact absurd h (by decide)
theorem let_ne {c:UInt8} (h:isLet c.toNat=true):c ≠ 33∧c ≠ 63∧c ≠ 45:=by
 refine ⟨fun e=>?_,fun e=>?_,fun e=>?_⟩
 all_goals
  rw [e] at h
  exact absurd h (by decide)
theorem typeT_ok {t:Ty} (h:isTypeS t=true):(∀ x,x ∈ typeT t → okB x=true ∨ x=33 ∨ x=63)∧typeT t ≠ [45]∧(typeT t).length ≤ 10:=by
 obtain ⟨⟨c,r,e1,hc⟩,h2,h3⟩:=base_ok h
 obtain ⟨c1,c2,c3⟩:=let_ne hc
 unfold typeT
 refine ⟨fun x hx=>?_,fun e=>?_,?_⟩
 ·rcases List.mem_append.1 hx with hx | hx
  ·split at hx
   ·exact .inr (.inl (by simpa using hx))
   ·cases hx
  ·rcases List.mem_append.1 hx with hx | hx
   ·split at hx
    ·exact .inr (.inr (by simpa using hx))
    ·cases hx
   ·exact .inl (h2 x hx)
 ·rw [e1] at e
  cases h1:t.err <;> cases h2:t.opt <;> simp [h1,h2] at e
  exact c3 e.1
 ·cases t.err <;> cases t.opt <;> simp <;> omega
end Go.Proofs.YtobfbfbjccmbiaaGreatDoor.c
