/- Contract of the reference's isCode: the operations with a type, a name, or a call. -/
import Derived.Test.YtknaemlnhediaaaGreatDoorRcode
namespace Go.Proofs.YtknaemlnhediaaaGreatDoor.c
open Go.RowKit
set_option linter.unusedVariables false
set_option maxRecDepth 100000
set_option maxHeartbeats 1600000
set_option linter.unusedSimpArgs false
theorem shapeS_out {l:List Fc} {f:Fc} {x:Cd} (h:x.op < 0 ∨ 19 < x.op):shapeS l f x=none:=by
 unfold shapeS
 rw [if_neg (by omega),if_neg (by omega),if_neg (by omega),if_neg (by omega),if_neg (by omega),if_neg (by omega),if_neg (by omega),if_neg (by omega),if_neg (by omega),if_neg (by omega)]
theorem code_kind (l:List Fc) (A:Option Addr) (cap:Nat) (f:Fc) (op a b:Int) (ty:Ty) (nm:ByteArray) (w:World) (hA:FcAt w A l) (hl:l.length ≤ 9223372036854775806) (hfl:f.code.length ≤ 9223372036854775807) (hop:op=7 ∨ op=9 ∨ op=10) :
  Calls Tryz.prog 137 #[.slice A l.length cap,f.val,(Cd.mk op a b ty nm).val] w fun e w'=>e=.returned (.bool (instS l f ⟨op,a,b,ty,nm⟩))∧Ext w w':=by
 unfold Fc.val Cd.val
 simp only []
 have HA:=Lib.hid hA
 clear hA
 have hq:=run_tz_neq ty
 have hem:nm.toList.isEmpty=emp nm:=rfl
 rcases hop with rfl | rfl | rfl
 ·have HS:=Lib.hid (show instS l f ⟨7,a,b,ty,nm⟩=((a == 0) && ((b == 0) && (isIntS ty && emp nm))) from rfl)
  have HH:=Lib.hid (hasS_2 (op:=7) (by omega))
  go_enter Tryz.func137,Tryz.ntmps137
  go_wp2_with (first | (go_at_call 135; refine (rwithin_any _ _ _ _).mono ?_; rintro r w' ⟨rfl,rfl⟩; try simp only [inB]) | (go_at_call 200; refine (has_any _ _).mono ?_; rw [HH.out]; rintro r w' ⟨rfl,rfl⟩) | (go_at_call 202; refine (rIsInt_ty ty _).mono ?_; rintro r w2 ⟨rfl,x2⟩; have y2:=x2.facts; have z0:=x2.size; try simp at z0; have zw20:w.heap.size < w2.heap.size:=(by omega); have zw21:w.heap.size + 1 < w2.heap.size:=(by omega)))
  all_goals
   go_ret
   exact ⟨ret_bool (by rw [HS.out]; simp [*]),exA⟩
 ·have HS:=Lib.hid (show instS l f ⟨9,a,b,ty,nm⟩=((a == 0) && ((b == 0) && (isIntS ty && emp nm))) from rfl)
  have HH:=Lib.hid (hasS_2 (op:=9) (by omega))
  go_enter Tryz.func137,Tryz.ntmps137
  go_wp2_with (first | (go_at_call 135; refine (rwithin_any _ _ _ _).mono ?_; rintro r w' ⟨rfl,rfl⟩; try simp only [inB]) | (go_at_call 200; refine (has_any _ _).mono ?_; rw [HH.out]; rintro r w' ⟨rfl,rfl⟩) | (go_at_call 202; refine (rIsInt_ty ty _).mono ?_; rintro r w2 ⟨rfl,x2⟩; have y2:=x2.facts; have z0:=x2.size; try simp at z0; have zw20:w.heap.size < w2.heap.size:=(by omega); have zw21:w.heap.size + 1 < w2.heap.size:=(by omega)))
  all_goals
   go_ret
   exact ⟨ret_bool (by rw [HS.out]; simp [*]),exA⟩
 ·have HS:=Lib.hid (show instS l f ⟨10,a,b,ty,nm⟩=((a == 0) && ((b == 0) && (isIntS ty && emp nm))) from rfl)
  have HH:=Lib.hid (hasS_2 (op:=10) (by omega))
  go_enter Tryz.func137,Tryz.ntmps137
  go_wp2_with (first | (go_at_call 135; refine (rwithin_any _ _ _ _).mono ?_; rintro r w' ⟨rfl,rfl⟩; try simp only [inB]) | (go_at_call 200; refine (has_any _ _).mono ?_; rw [HH.out]; rintro r w' ⟨rfl,rfl⟩) | (go_at_call 202; refine (rIsInt_ty ty _).mono ?_; rintro r w2 ⟨rfl,x2⟩; have y2:=x2.facts; have z0:=x2.size; try simp at z0; have zw20:w.heap.size < w2.heap.size:=(by omega); have zw21:w.heap.size + 1 < w2.heap.size:=(by omega)))
  all_goals
   go_ret
   exact ⟨ret_bool (by rw [HS.out]; simp [*]),exA⟩

theorem code_error (l:List Fc) (A:Option Addr) (cap:Nat) (f:Fc) (op a b:Int) (ty:Ty) (nm:ByteArray) (w:World) (hA:FcAt w A l) (hl:l.length ≤ 9223372036854775806) (hfl:f.code.length ≤ 9223372036854775807) (hop:op=18) :
  Calls Tryz.prog 137 #[.slice A l.length cap,f.val,(Cd.mk op a b ty nm).val] w fun e w'=>e=.returned (.bool (instS l f ⟨op,a,b,ty,nm⟩))∧Ext w w':=by
 unfold Fc.val Cd.val
 simp only []
 have HA:=Lib.hid hA
 clear hA
 have hq:=run_tz_neq ty
 have hem:nm.toList.isEmpty=emp nm:=rfl
 subst hop
 ·have HS:=Lib.hid (show instS l f ⟨18,a,b,ty,nm⟩=((a == 0) && ((b == 0) && (tz ty && isNameS nm))) from rfl)
  have HH:=Lib.hid (hasS_4 (op:=18) (by omega))
  go_enter Tryz.func137,Tryz.ntmps137
  go_wp2_with (first | (go_at_call 135; refine (rwithin_any _ _ _ _).mono ?_; rintro r w' ⟨rfl,rfl⟩; try simp only [inB]) | (go_at_call 200; refine (has_any _ _).mono ?_; rw [HH.out]; rintro r w' ⟨rfl,rfl⟩) | (go_at_call 79; refine (refIsName_any nm _).mono ?_; rintro r w2 ⟨rfl,x2⟩; have y2:=x2.facts))
  all_goals
   go_ret
   exact ⟨ret_bool (by rw [HS.out]; simp [*]),exA⟩

theorem code_op (l:List Fc) (A:Option Addr) (cap:Nat) (f:Fc) (op a b:Int) (ty:Ty) (nm:ByteArray) (w:World) (hA:FcAt w A l) (hl:l.length ≤ 9223372036854775806) (hfl:f.code.length ≤ 9223372036854775807) (hop:op=5) :
  Calls Tryz.prog 137 #[.slice A l.length cap,f.val,(Cd.mk op a b ty nm).val] w fun e w'=>e=.returned (.bool (instS l f ⟨op,a,b,ty,nm⟩))∧Ext w w':=by
 unfold Fc.val Cd.val
 simp only []
 have HA:=Lib.hid hA
 clear hA
 have hq:=run_tz_neq ty
 have hem:nm.toList.isEmpty=emp nm:=rfl
 subst hop
 ·have HS:=Lib.hid (show instS l f ⟨5,a,b,ty,nm⟩=(inB a 5 17 && ((b == 0) && (isIntS ty && emp nm))) from rfl)
  have HH:=Lib.hid (hasS_0 (op:=5) (by omega))
  go_enter Tryz.func137,Tryz.ntmps137
  go_wp2_with (first | (go_at_call 135; refine (rwithin_any _ _ _ _).mono ?_; rintro r w' ⟨rfl,rfl⟩; try simp only [inB]) | (go_at_call 200; refine (has_any _ _).mono ?_; rw [HH.out]; rintro r w' ⟨rfl,rfl⟩) | (go_at_call 201; with_reducible refine (isNumber_fc f _ _ _ ty nm _ hfl).mono ?_; rintro r w1 ⟨rfl,x1⟩; have y1:=x1.facts; have z0:=x1.size; try simp at z0; have zw10:w.heap.size < w1.heap.size:=(by omega); have zw11:w.heap.size + 1 < w1.heap.size:=(by omega)) | (go_at_call 202; refine (rIsInt_ty ty _).mono ?_; rintro r w2 ⟨rfl,x2⟩; have y2:=x2.facts; have z0:=x2.size; try simp at z0; have zw20:w.heap.size < w2.heap.size:=(by omega); have zw21:w.heap.size + 1 < w2.heap.size:=(by omega)))
  all_goals
   go_ret
   exact ⟨ret_bool (by rw [HS.out]; first | (simp [numS, *]; done) | (simp_all [numS]; done)),exA⟩

theorem code_push (l:List Fc) (A:Option Addr) (cap:Nat) (f:Fc) (op a b:Int) (ty:Ty) (nm:ByteArray) (w:World) (hA:FcAt w A l) (hl:l.length ≤ 9223372036854775806) (hfl:f.code.length ≤ 9223372036854775807) (hop:op=0) :
  Calls Tryz.prog 137 #[.slice A l.length cap,f.val,(Cd.mk op a b ty nm).val] w fun e w'=>e=.returned (.bool (instS l f ⟨op,a,b,ty,nm⟩))∧Ext w w':=by
 unfold Fc.val Cd.val
 simp only []
 have HA:=Lib.hid hA
 clear hA
 have hq:=run_tz_neq ty
 have hem:nm.toList.isEmpty=emp nm:=rfl
 subst hop
 ·have HS:=Lib.hid (show instS l f ⟨0,a,b,ty,nm⟩=(inB a (-2147483648) 2147483648 && ((b == 0) && (pushS ty && emp nm))) from rfl)
  have HH:=Lib.hid (hasS_0 (op:=0) (by omega))
  go_enter Tryz.func137,Tryz.ntmps137
  go_wp2_with (first | (go_at_call 135; refine (rwithin_any _ _ _ _).mono ?_; rintro r w' ⟨rfl,rfl⟩; try simp only [inB]) | (go_at_call 200; refine (has_any _ _).mono ?_; rw [HH.out]; rintro r w' ⟨rfl,rfl⟩) | (go_at_call 201; with_reducible refine (isNumber_fc f _ _ _ ty nm _ hfl).mono ?_; rintro r w1 ⟨rfl,x1⟩; have y1:=x1.facts; have z0:=x1.size; try simp at z0; have zw10:w.heap.size < w1.heap.size:=(by omega); have zw11:w.heap.size + 1 < w1.heap.size:=(by omega)) | (go_at_call 136; refine (isRan_ty ty _).mono ?_; rintro r w2 ⟨rfl,x2⟩; have y2:=x2.facts; have z0:=x2.size; try simp at z0; have zw20:w.heap.size < w2.heap.size:=(by omega); have zw21:w.heap.size + 1 < w2.heap.size:=(by omega)))
  all_goals
   go_ret
   exact ⟨ret_bool (by rw [HS.out]; rw [push_ran]; first | (simp [numS, *]; done) | (simp_all [numS]; done)),exA⟩

theorem code_none (l:List Fc) (A:Option Addr) (cap:Nat) (f:Fc) (op a b:Int) (ty:Ty) (nm:ByteArray) (w:World) (hA:FcAt w A l) (hl:l.length ≤ 9223372036854775806) (hfl:f.code.length ≤ 9223372036854775807) (hop:op < 0 ∨ 19 < op) :
  Calls Tryz.prog 137 #[.slice A l.length cap,f.val,(Cd.mk op a b ty nm).val] w fun e w'=>e=.returned (.bool (instS l f ⟨op,a,b,ty,nm⟩))∧Ext w w':=by
 unfold Fc.val Cd.val
 simp only []
 have HA:=Lib.hid hA
 clear hA
 have hq:=run_tz_neq ty
 have hem:nm.toList.isEmpty=emp nm:=rfl
 have HS:=Lib.hid (show instS l f ⟨op,a,b,ty,nm⟩=false by unfold instS; rw [shapeS_out hop])
 have hw:inB op 0 19=false:=by unfold inB; rw [Bool.eq_false_iff]; intro h; simp at h; omega
 go_enter Tryz.func137,Tryz.ntmps137
 go_wp2_with (first | (go_at_call 135; refine (rwithin_any _ _ _ _).mono ?_; rw [hw]; rintro r w' ⟨rfl,rfl⟩))
 go_ret
 exact ⟨ret_bool HS.out.symm,exA⟩
end Go.Proofs.YtknaemlnhediaaaGreatDoor.c
