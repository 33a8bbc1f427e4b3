/- Plain arithmetic of numbers of types: ends, wrapping, the operations, bit by bit too. No condition. Texts of lines: plainly, a text tells its lines, and lines tell which functions there are, if heads have a colon and no other line has. No condition. Decimal digits: which bytes they are, and that they tell the number. No condition. Contracts of package num's least, greatest, fits, Fits. Conditions: a type has 1 to 31 bits. The text of a type: which bytes it has, and that it tells the type. No condition. -/
import Derived.WalkKit
import Derived.Laws.BitsAllLaws
import Derived.Test.YtmmnhbhnjiajhaaGreatDoorBLib
import Derived.Lib.ItoaNum
import Derived.Test.YtmmnhbhnjiajhaaGreatDoorBNum
import Derived.Test.YtmmnhbhnjiajhaaGreatDoorBData
namespace Go.Proofs.YtmmnhbhnjiajhaaGreatDoor.c
open Go.RowKit
set_option linter.unusedVariables false
set_option maxRecDepth 100000
set_option maxHeartbeats 1600000
set_option linter.unusedSimpArgs false

def spanI (b:Int):Int:=2 ^ b.toNat
def loI (s:Bool) (b:Int):Int:=if s=true then -(spanI b / 2) else 0
def hiI (s:Bool) (b:Int):Int:=if s=true then spanI b / 2 - 1 else spanI b - 1
def fitI (s:Bool) (b n:Int):Bool:=decide (loI s b ≤ n) && decide (n ≤ hiI s b)
theorem span_parts {b:Int} (h1:1 ≤ b) (h2:b ≤ 31):∃ q:Int,spanI b=2 * q∧1 ≤ q∧q ≤ 1073741824∧q=2 ^ (b - 1).toNat:=by
 have e:b.toNat=(b - 1).toNat + 1:=by omega
 refine ⟨2 ^ (b - 1).toNat,?_,?_,?_,rfl⟩
 ·unfold spanI
  rw [e,Int.pow_succ]
  omega
 ·exact Int.pow_pos (by decide)
 ·have h:(b - 1).toNat ≤ 30:=by omega
  have h2:(2:Int) ^ (b - 1).toNat ≤ 2 ^ 30:=by
   have:=Nat.pow_le_pow_right (n:=2) (by decide) h
   exact_mod_cast this
  simpa using h2
/-! ### bit by bit -/
/-! ### the operations -/

theorem least_any (s:Bool) (b:Int) (w:World) (h1:1 ≤ b) (h2:b ≤ 31) :
  Calls Tryz.prog 253 #[.agg #[.bool s,.int .i64 b]] w fun e w'=>e=.returned (.int .i64 (loI s b))∧Ext w w':=by
 obtain ⟨q,e,q1,q2,eq⟩:=span_parts h1 h2
 have hq:(2:Int) ^ (b.toNat - 1)=q:=by rw [show b.toNat - 1=(b - 1).toNat by omega]; exact eq.symm
 have HL:Hid (loI s b=if s=true then -q else 0):=by unfold Hid loI; rw [e]; split <;> omega
 clear e eq
 cases s
 all_goals
  go_enter Tryz.func253,Tryz.ntmps253
  go_wp2_with fail
  go_ret
  exact ⟨ret_int (by rw [HL.out]; simp),exA⟩
theorem greatest_any (s:Bool) (b:Int) (w:World) (h1:1 ≤ b) (h2:b ≤ 31) :
  Calls Tryz.prog 254 #[.agg #[.bool s,.int .i64 b]] w fun e w'=>e=.returned (.int .i64 (hiI s b))∧Ext w w':=by
 obtain ⟨q,e,q1,q2,eq⟩:=span_parts h1 h2
 have hq:(2:Int) ^ (b.toNat - 1)=q:=by rw [show b.toNat - 1=(b - 1).toNat by omega]; exact eq.symm
 have hp:(2:Int) ^ b.toNat=2 * q:=e
 have HL:Hid (hiI s b=if s=true then q - 1 else 2 * q - 1):=by unfold Hid hiI; rw [e]; split <;> omega
 clear e eq
 cases s
 all_goals
  go_enter Tryz.func254,Tryz.ntmps254
  go_wp2_with fail
  go_ret
  exact ⟨ret_int (by rw [HL.out]; simp),exA⟩
theorem fits_any (s:Bool) (b n:Int) (w:World) (h1:1 ≤ b) (h2:b ≤ 31) :
  Calls Tryz.prog 235 #[.agg #[.bool s,.int .i64 b],.int .i64 n] w fun e w'=>e=.returned (.bool (fitI s b n))∧Ext w w':=by
 have HF:=Lib.hid (show fitI s b n=(decide (loI s b ≤ n) && decide (n ≤ hiI s b)) from rfl)
 go_enter Tryz.func235,Tryz.ntmps235
 go_wp2_with (first
  | (go_at_call 253; refine (least_any s b _ h1 h2).mono ?_; rintro r w1 ⟨rfl,x1⟩; have y1:=x1.facts; have z1:=x1.z0)
  | (go_at_call 254; refine (greatest_any s b _ h1 h2).mono ?_; rintro r w2 ⟨rfl,x2⟩; have y2:=x2.facts; have z2:=x2.size))
 all_goals
  go_ret
  exact ⟨ret_bool (by rw [HF.out]; first | (simp [*]; done) | (simp [*]; intros; omega)),exA⟩
theorem vInt_zero {b:Int} (h1:1 ≤ b) (h2:b ≤ 31):vInt b=0:=by unfold vInt; rw [if_neg (by omega)]
theorem nFits_any (s:Bool) (b n:Int) (w:World) (h1:1 ≤ b) (h2:b ≤ 31) :
  Calls Tryz.prog 202 #[.agg #[.bool s,.int .i64 b],.int .i64 n] w fun e w'=>e=.returned (.tuple #[.bool (fitI s b n),.int .i64 0])∧Ext w w':=by
 have HV:=Lib.hid (vInt_zero h1 h2)
 go_enter Tryz.func202,Tryz.ntmps202
 go_wp2_with (first
  | (go_at_call 139; refine (numValidate_any s b _).mono ?_; rw [HV.out]; rintro r w1 ⟨rfl,x1⟩; have y1:=x1.facts; have z1:=x1.z0)
  | (go_at_call 235; refine (fits_any s b n _ h1 h2).mono ?_; rintro r w2 ⟨rfl,x2⟩; have y2:=x2.facts; have z2:=x2.size))
 go_ret2
 exact ⟨rfl,exA⟩
end Go.Proofs.YtmmnhbhnjiajhaaGreatDoor.c
