/- Contracts of the reference's functions that look at an instruction of register code: within, parts, isRan, isInt, isPart, isOp. No condition but bounds. Contracts of the reference's isOp and isReg. Conditions: bounds. -/
import Derived.Test.YtknaemlnhediaaaGreatDoorRgD
namespace Go.Proofs.YtknaemlnhediaaaGreatDoor.c
open Go.RowKit
set_option linter.unusedVariables false
set_option maxRecDepth 100000
set_option maxHeartbeats 1600000
set_option linter.unusedSimpArgs false
theorem hwithin_any (a b c:Int) (w:World) :
  Calls Tryz.prog 81 #[.int .i64 a,.int .i64 b,.int .i64 c] w fun e w'=>e=.returned (.bool (inB a b c))∧w=w':=by
 go_enter Tryz.func81,Tryz.ntmps81
 go_wp2
 all_goals (go_ret; exact ⟨ret_bool (by unfold inB; rw [Bool.eq_iff_iff]; simp; omega),rfl⟩)
theorem ret_parts {op a b c:Int} (h:partsR op=(a,b,c)):Ending.returned (.tuple #[.int .i64 a,.int .i64 b,.int .i64 c])=.returned (.tuple #[.int .i64 (partsR op).1,.int .i64 (partsR op).2.1,.int .i64 (partsR op).2.2]):=by rw [h]
theorem parts_any (op:Int) (w:World) :
  Calls Tryz.prog 103 #[.int .i64 op] w fun e w'=>e=.returned (.tuple #[.int .i64 (partsR op).1,.int .i64 (partsR op).2.1,.int .i64 (partsR op).2.2])∧w=w':=by
 by_cases h:0 ≤ op∧op ≤ 17
 ·have hop:op=0 ∨ op=1 ∨ op=2 ∨ op=3 ∨ op=4 ∨ op=5 ∨ op=6 ∨ op=7 ∨ op=8 ∨ op=9 ∨ op=10 ∨ op=11 ∨ op=12 ∨ op=13 ∨ op=14 ∨ op=15 ∨ op=16 ∨ op=17:=by omega
  clear h
  rcases hop with rfl | rfl | rfl | rfl | rfl | rfl | rfl | rfl | rfl | rfl | rfl | rfl | rfl | rfl | rfl | rfl | rfl | rfl
  all_goals
   go_enter Tryz.func103,Tryz.ntmps103
   go_wp2_with fail
   go_ret3
   exact ⟨rfl,rfl⟩
 ·have H:Hid (partsR op=(1,1,1)):=by
   rcases (show op < 0 ∨ 18 ≤ op by omega) with h1 | h1
   ·unfold Hid partsR
    rw [if_neg (by omega),if_neg (by omega),if_neg (by omega),if_neg (by omega),if_neg (by omega),if_neg (by omega),if_neg (by omega),if_neg (by omega),if_neg (by omega)]
   ·unfold Hid partsR
    rw [if_neg (by omega),if_neg (by omega),if_neg (by omega),if_neg (by omega),if_neg (by omega),if_neg (by omega),if_neg (by omega),if_neg (by omega),if_neg (by omega)]
  go_enter Tryz.func103,Tryz.ntmps103
  go_wp2_with fail
  all_goals first | (exfalso; omega) | skip
  go_ret3
  exact ⟨ret_parts H.out,rfl⟩
theorem hvalidate_ty (t:Ty) (w:World):Calls Tryz.prog 138 #[.agg #[.int .i64 t.base,.int .i64 t.bits,.string t.name,.bool t.opt,.bool t.err]] w fun r w'=>r=.returned (.int .i64 (if isTypeS t then 0 else 1))∧Ext w w':=refValidateType_any _ _ _ _ _ w
theorem hisRan_ty (t:Ty) (w:World) :
  Calls Tryz.prog 82 #[.agg #[.int .i64 t.base,.int .i64 t.bits,.string t.name,.bool t.opt,.bool t.err]] w fun r w'=>r=.returned (.bool (isRanS t))∧Ext w w':=by
 cases h:isTypeS t
 all_goals
  go_enter Tryz.func82,Tryz.ntmps82
  go_wp2_with (first
   | (go_at_call 138; refine (hvalidate_ty t _).mono ?_; rw [h]; rintro r w1 ⟨rfl,x1⟩; have y1:=x1.facts; have z1:=x1.z0))
  all_goals
   go_ret
   exact ⟨ret_bool (by unfold isRanS; rw [h]; simp [*]),exA⟩
theorem hisInt_ty (t:Ty) (w:World) :
  Calls Tryz.prog 156 #[.agg #[.int .i64 t.base,.int .i64 t.bits,.string t.name,.bool t.opt,.bool t.err]] w fun r w'=>r=.returned (.bool (isIntS t))∧Ext w w':=by
 cases h:isRanS t
 all_goals
  have HH:=Lib.hid h
  clear h
  go_enter Tryz.func156,Tryz.ntmps156
  go_wp2_with (first
   | (go_at_call 82; refine (hisRan_ty t _).mono ?_; rw [HH.out]; rintro r w1 ⟨rfl,x1⟩; have y1:=x1.facts; have z1:=x1.z0))
  all_goals
   go_ret
   exact ⟨ret_bool (by rw [isInt_ran,HH.out]; simp [*]),exA⟩
theorem isPart_any (kind n regs code:Int) (w:World) (h1:1 ≤ regs) (h2:regs ≤ 6) (hc1:1 ≤ code) (hc2:code ≤ 1000000) (hk:kind=0 ∨ kind=1 ∨ kind=2 ∨ kind=3 ∨ kind=4) :
  Calls Tryz.prog 155 #[.int .i64 kind,.int .i64 n,.int .i64 regs,.int .i64 code] w fun e w'=>e=.returned (.bool (isPartB kind n regs code))∧w=w':=by
 rcases hk with rfl | rfl | rfl | rfl | rfl
 all_goals
  go_enter Tryz.func155,Tryz.ntmps155
  go_wp2_with (first
   | (go_at_call 81; refine (hwithin_any _ _ _ _).mono ?_; rintro r w' ⟨rfl,rfl⟩))
  go_ret
  exact ⟨rfl,rfl⟩
theorem hisOp_any (op:Int) (w:World):Calls Tryz.prog 154 #[.int .i64 op] w fun e w'=>e=.returned (.bool (isOpB op))∧w=w':=by
 obtain ⟨p,hp⟩:∃ p,inB op 0 17=p:=⟨_,rfl⟩
 obtain ⟨q,hq⟩:∃ q,inB op 105 117=q:=⟨_,rfl⟩
 have HP:=Lib.hid hp
 have HQ:=Lib.hid hq
 have HI:Hid (isOpB op=(p || (q || inB op 118 123))):=by unfold Hid isOpB; rw [hp,hq]
 have HA:Hid (∀ lo hi w,Calls Tryz.prog 81 #[.int .i64 op,.int .i64 lo,.int .i64 hi] w fun e w'=>e=.returned (.bool (inB op lo hi))∧w=w'):=fun lo hi w=>hwithin_any op lo hi w
 clear hp hq
 cases p <;> cases q
 all_goals
  go_enter Tryz.func154,Tryz.ntmps154
  go_wp2_with (first
   | (go_at_call 81; (with_reducible refine (HA.out 0 17 _).mono ?_); rw [HP.out]; rintro r w' ⟨rfl,rfl⟩)
   | (go_at_call 81; (with_reducible refine (HA.out 105 117 _).mono ?_); rw [HQ.out]; rintro r w' ⟨rfl,rfl⟩)
   | (go_at_call 81; (with_reducible refine (HA.out 118 123 _).mono ?_); rintro r w' ⟨rfl,rfl⟩))
  go_ret
  exact ⟨ret_bool (by rw [HI.out]; rfl),rfl⟩
theorem partsR_kind (op:Int):((partsR op).1=0 ∨ (partsR op).1=1 ∨ (partsR op).1=2 ∨ (partsR op).1=3 ∨ (partsR op).1=4)∧((partsR op).2.1=0 ∨ (partsR op).2.1=1 ∨ (partsR op).2.1=2 ∨ (partsR op).2.1=3 ∨ (partsR op).2.1=4)∧((partsR op).2.2=0 ∨ (partsR op).2.2=1 ∨ (partsR op).2.2=2 ∨ (partsR op).2.2=3 ∨ (partsR op).2.2=4):=by
 unfold partsR
 split
 ·simp
 split
 ·simp
 split
 ·simp
 split
 ·simp
 split
 ·simp
 split
 ·simp
 split
 ·simp
 split
 ·simp
 split
 ·simp
 ·simp
end Go.Proofs.YtknaemlnhediaaaGreatDoor.c
