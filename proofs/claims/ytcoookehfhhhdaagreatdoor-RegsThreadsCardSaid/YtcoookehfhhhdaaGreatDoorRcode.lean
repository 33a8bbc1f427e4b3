/- Contract of the reference's isCode: the operations without a call. Contract of the reference's isCode: the operations with a type, a name, or a call. Contract of the reference's isCode: a call. What an instruction does to the height: contracts of code.stepOf, code.leads, the reference's takes. No condition. -/
import Derived.Test.YtcoookehfhhhdaaGreatDoorDataF
import Derived.Test.YtcoookehfhhhdaaGreatDoorLib
namespace Go.Proofs.YtcoookehfhhhdaaGreatDoor.c
open Go.RowKit
set_option linter.unusedVariables false
set_option maxRecDepth 100000
set_option maxHeartbeats 1600000
set_option linter.unusedSimpArgs false
theorem isNumber_fc (f:Fc) (op a b:Int) (ty:Ty) (nm:ByteArray) (w:World) (hfl:f.code.length ≤ 9223372036854775807) :
  Calls Tryz.prog 105 #[.agg #[.string f.name,.int .i64 f.params,.int .i64 f.places,.int .i64 f.ty.base,.int .i64 f.ty.bits,.string f.ty.name,.bool f.ty.opt,.bool f.ty.err,.slice f.A f.code.length f.cap],.agg #[.int .i64 op,.int .i64 a,.int .i64 b,.int .i64 ty.base,.int .i64 ty.bits,.string ty.name,.bool ty.opt,.bool ty.err,.string nm]] w fun e w'=>e=.returned (.bool (numS f ⟨op,a,b,ty,nm⟩))∧Ext w w':=isNumber_any f op a b ty nm w hfl

theorem code_plain (l:List Fc) (A:Option Addr) (cap:Nat) (f:Fc) (op a b:Int) (ty:Ty) (nm:ByteArray) (w:World) (hA:FcAt w A l) (hl:l.length ≤ 9223372036854775806) (hfl:f.code.length ≤ 9223372036854775807) (hop:op=1 ∨ op=4 ∨ op=8 ∨ op=11 ∨ op=17) :
  Calls Tryz.prog 60 #[.slice A l.length cap,f.val,(Cd.mk op a b ty nm).val] w fun e w'=>e=.returned (.bool (instS l f ⟨op,a,b,ty,nm⟩))∧Ext w w':=by
 unfold Fc.val Cd.val
 simp only []
 have HA:=Lib.hid hA
 clear hA
 have hq:=run_tz_neq ty
 have hem:nm.toList.isEmpty=emp nm:=rfl
 rcases hop with rfl | rfl | rfl | rfl | rfl
 ·have HS:=Lib.hid (show instS l f ⟨1,a,b,ty,nm⟩=((a == 0) && ((b == 0) && (tz ty && emp nm))) from rfl)
  have HH:=Lib.hid (hasS_5 (op:=1) (by omega))
  go_enter Tryz.func60,Tryz.ntmps60
  go_wp2_with (first | (go_at_call 58; refine (rwithin_any _ _ _ _).mono ?_; rintro r w' ⟨rfl,rfl⟩; try simp only [inB]) | (go_at_call 104; refine (has_any _ _).mono ?_; rw [HH.out]; rintro r w' ⟨rfl,rfl⟩))
  all_goals
   go_ret
   exact ⟨ret_bool (by rw [HS.out]; simp [*]),exA⟩
 ·have HS:=Lib.hid (show instS l f ⟨4,a,b,ty,nm⟩=((a == 0) && ((b == 0) && (tz ty && emp nm))) from rfl)
  have HH:=Lib.hid (hasS_5 (op:=4) (by omega))
  go_enter Tryz.func60,Tryz.ntmps60
  go_wp2_with (first | (go_at_call 58; refine (rwithin_any _ _ _ _).mono ?_; rintro r w' ⟨rfl,rfl⟩; try simp only [inB]) | (go_at_call 104; refine (has_any _ _).mono ?_; rw [HH.out]; rintro r w' ⟨rfl,rfl⟩))
  all_goals
   go_ret
   exact ⟨ret_bool (by rw [HS.out]; simp [*]),exA⟩
 ·have HS:=Lib.hid (show instS l f ⟨8,a,b,ty,nm⟩=((a == 0) && ((b == 0) && (tz ty && emp nm))) from rfl)
  have HH:=Lib.hid (hasS_5 (op:=8) (by omega))
  go_enter Tryz.func60,Tryz.ntmps60
  go_wp2_with (first | (go_at_call 58; refine (rwithin_any _ _ _ _).mono ?_; rintro r w' ⟨rfl,rfl⟩; try simp only [inB]) | (go_at_call 104; refine (has_any _ _).mono ?_; rw [HH.out]; rintro r w' ⟨rfl,rfl⟩))
  all_goals
   go_ret
   exact ⟨ret_bool (by rw [HS.out]; simp [*]),exA⟩
 ·have HS:=Lib.hid (show instS l f ⟨11,a,b,ty,nm⟩=((a == 0) && ((b == 0) && (tz ty && emp nm))) from rfl)
  have HH:=Lib.hid (hasS_5 (op:=11) (by omega))
  go_enter Tryz.func60,Tryz.ntmps60
  go_wp2_with (first | (go_at_call 58; refine (rwithin_any _ _ _ _).mono ?_; rintro r w' ⟨rfl,rfl⟩; try simp only [inB]) | (go_at_call 104; refine (has_any _ _).mono ?_; rw [HH.out]; rintro r w' ⟨rfl,rfl⟩))
  all_goals
   go_ret
   exact ⟨ret_bool (by rw [HS.out]; simp [*]),exA⟩
 ·have HS:=Lib.hid (show instS l f ⟨17,a,b,ty,nm⟩=((a == 0) && ((b == 0) && (tz ty && emp nm))) from rfl)
  have HH:=Lib.hid (hasS_5 (op:=17) (by omega))
  go_enter Tryz.func60,Tryz.ntmps60
  go_wp2_with (first | (go_at_call 58; refine (rwithin_any _ _ _ _).mono ?_; rintro r w' ⟨rfl,rfl⟩; try simp only [inB]) | (go_at_call 104; refine (has_any _ _).mono ?_; rw [HH.out]; rintro r w' ⟨rfl,rfl⟩))
  all_goals
   go_ret
   exact ⟨ret_bool (by rw [HS.out]; simp [*]),exA⟩

theorem code_num (l:List Fc) (A:Option Addr) (cap:Nat) (f:Fc) (op a b:Int) (ty:Ty) (nm:ByteArray) (w:World) (hA:FcAt w A l) (hl:l.length ≤ 9223372036854775806) (hfl:f.code.length ≤ 9223372036854775807) (hop:op=2 ∨ op=3 ∨ op=6 ∨ op=12 ∨ op=13 ∨ op=14 ∨ op=15 ∨ op=19) :
  Calls Tryz.prog 60 #[.slice A l.length cap,f.val,(Cd.mk op a b ty nm).val] w fun e w'=>e=.returned (.bool (instS l f ⟨op,a,b,ty,nm⟩))∧Ext w w':=by
 unfold Fc.val Cd.val
 simp only []
 have HA:=Lib.hid hA
 clear hA
 have hq:=run_tz_neq ty
 have hem:nm.toList.isEmpty=emp nm:=rfl
 rcases hop with rfl | rfl | rfl | rfl | rfl | rfl | rfl | rfl
 ·have HS:=Lib.hid (show instS l f ⟨2,a,b,ty,nm⟩=(inB a 0 (wrap64 (f.places - 1)) && ((b == 0) && (tz ty && emp nm))) from rfl)
  have HH:=Lib.hid (hasS_1 (op:=2) (by omega))
  go_enter Tryz.func60,Tryz.ntmps60
  go_wp2_with (first | (go_at_call 58; refine (rwithin_any _ _ _ _).mono ?_; rintro r w' ⟨rfl,rfl⟩; try simp only [inB]) | (go_at_call 104; refine (has_any _ _).mono ?_; rw [HH.out]; rintro r w' ⟨rfl,rfl⟩) | (go_at_call 105; with_reducible refine (isNumber_fc f _ _ _ ty nm _ hfl).mono ?_; rintro r w1 ⟨rfl,x1⟩; have y1:=x1.facts; have z0:=x1.size; try simp at z0; have zw10:w.heap.size < w1.heap.size:=(by omega); have zw11:w.heap.size + 1 < w1.heap.size:=(by omega)))
  all_goals
   go_ret
   exact ⟨ret_bool (by rw [HS.out]; first | (simp [numS, *]; done) | (unfold numS at *; simp [*]; done) | (simp_all [numS]; done)),exA⟩
 ·have HS:=Lib.hid (show instS l f ⟨3,a,b,ty,nm⟩=(inB a 0 (wrap64 (f.places - 1)) && ((b == 0) && (tz ty && emp nm))) from rfl)
  have HH:=Lib.hid (hasS_1 (op:=3) (by omega))
  go_enter Tryz.func60,Tryz.ntmps60
  go_wp2_with (first | (go_at_call 58; refine (rwithin_any _ _ _ _).mono ?_; rintro r w' ⟨rfl,rfl⟩; try simp only [inB]) | (go_at_call 104; refine (has_any _ _).mono ?_; rw [HH.out]; rintro r w' ⟨rfl,rfl⟩) | (go_at_call 105; with_reducible refine (isNumber_fc f _ _ _ ty nm _ hfl).mono ?_; rintro r w1 ⟨rfl,x1⟩; have y1:=x1.facts; have z0:=x1.size; try simp at z0; have zw10:w.heap.size < w1.heap.size:=(by omega); have zw11:w.heap.size + 1 < w1.heap.size:=(by omega)))
  all_goals
   go_ret
   exact ⟨ret_bool (by rw [HS.out]; first | (simp [numS, *]; done) | (unfold numS at *; simp [*]; done) | (simp_all [numS]; done)),exA⟩
 ·have HS:=Lib.hid (show instS l f ⟨6,a,b,ty,nm⟩=(inB a 18 23 && ((b == 0) && (tz ty && emp nm))) from rfl)
  have HH:=Lib.hid (hasS_1 (op:=6) (by omega))
  go_enter Tryz.func60,Tryz.ntmps60
  go_wp2_with (first | (go_at_call 58; refine (rwithin_any _ _ _ _).mono ?_; rintro r w' ⟨rfl,rfl⟩; try simp only [inB]) | (go_at_call 104; refine (has_any _ _).mono ?_; rw [HH.out]; rintro r w' ⟨rfl,rfl⟩) | (go_at_call 105; with_reducible refine (isNumber_fc f _ _ _ ty nm _ hfl).mono ?_; rintro r w1 ⟨rfl,x1⟩; have y1:=x1.facts; have z0:=x1.size; try simp at z0; have zw10:w.heap.size < w1.heap.size:=(by omega); have zw11:w.heap.size + 1 < w1.heap.size:=(by omega)))
  all_goals
   go_ret
   exact ⟨ret_bool (by rw [HS.out]; first | (simp [numS, *]; done) | (unfold numS at *; simp [*]; done) | (simp_all [numS]; done)),exA⟩
 ·have HS:=Lib.hid (show instS l f ⟨12,a,b,ty,nm⟩=(inB a 0 ((f.code.length:Int) - 1) && ((b == 0) && (tz ty && emp nm))) from rfl)
  have HH:=Lib.hid (hasS_1 (op:=12) (by omega))
  go_enter Tryz.func60,Tryz.ntmps60
  go_wp2_with (first | (go_at_call 58; refine (rwithin_any _ _ _ _).mono ?_; rintro r w' ⟨rfl,rfl⟩; try simp only [inB]) | (go_at_call 104; refine (has_any _ _).mono ?_; rw [HH.out]; rintro r w' ⟨rfl,rfl⟩) | (go_at_call 105; with_reducible refine (isNumber_fc f _ _ _ ty nm _ hfl).mono ?_; rintro r w1 ⟨rfl,x1⟩; have y1:=x1.facts; have z0:=x1.size; try simp at z0; have zw10:w.heap.size < w1.heap.size:=(by omega); have zw11:w.heap.size + 1 < w1.heap.size:=(by omega)))
  all_goals
   go_ret
   exact ⟨ret_bool (by rw [HS.out]; first | (simp [numS, *]; done) | (unfold numS at *; simp [*]; done) | (simp_all [numS]; done)),exA⟩
 ·have HS:=Lib.hid (show instS l f ⟨13,a,b,ty,nm⟩=(inB a 0 ((f.code.length:Int) - 1) && ((b == 0) && (tz ty && emp nm))) from rfl)
  have HH:=Lib.hid (hasS_1 (op:=13) (by omega))
  go_enter Tryz.func60,Tryz.ntmps60
  go_wp2_with (first | (go_at_call 58; refine (rwithin_any _ _ _ _).mono ?_; rintro r w' ⟨rfl,rfl⟩; try simp only [inB]) | (go_at_call 104; refine (has_any _ _).mono ?_; rw [HH.out]; rintro r w' ⟨rfl,rfl⟩) | (go_at_call 105; with_reducible refine (isNumber_fc f _ _ _ ty nm _ hfl).mono ?_; rintro r w1 ⟨rfl,x1⟩; have y1:=x1.facts; have z0:=x1.size; try simp at z0; have zw10:w.heap.size < w1.heap.size:=(by omega); have zw11:w.heap.size + 1 < w1.heap.size:=(by omega)))
  all_goals
   go_ret
   exact ⟨ret_bool (by rw [HS.out]; first | (simp [numS, *]; done) | (unfold numS at *; simp [*]; done) | (simp_all [numS]; done)),exA⟩
 ·have HS:=Lib.hid (show instS l f ⟨14,a,b,ty,nm⟩=(inB a 0 ((f.code.length:Int) - 1) && ((b == 0) && (tz ty && emp nm))) from rfl)
  have HH:=Lib.hid (hasS_1 (op:=14) (by omega))
  go_enter Tryz.func60,Tryz.ntmps60
  go_wp2_with (first | (go_at_call 58; refine (rwithin_any _ _ _ _).mono ?_; rintro r w' ⟨rfl,rfl⟩; try simp only [inB]) | (go_at_call 104; refine (has_any _ _).mono ?_; rw [HH.out]; rintro r w' ⟨rfl,rfl⟩) | (go_at_call 105; with_reducible refine (isNumber_fc f _ _ _ ty nm _ hfl).mono ?_; rintro r w1 ⟨rfl,x1⟩; have y1:=x1.facts; have z0:=x1.size; try simp at z0; have zw10:w.heap.size < w1.heap.size:=(by omega); have zw11:w.heap.size + 1 < w1.heap.size:=(by omega)))
  all_goals
   go_ret
   exact ⟨ret_bool (by rw [HS.out]; first | (simp [numS, *]; done) | (unfold numS at *; simp [*]; done) | (simp_all [numS]; done)),exA⟩
 ·have HS:=Lib.hid (show instS l f ⟨15,a,b,ty,nm⟩=(inB a 0 ((f.code.length:Int) - 1) && ((b == 0) && (tz ty && emp nm))) from rfl)
  have HH:=Lib.hid (hasS_1 (op:=15) (by omega))
  go_enter Tryz.func60,Tryz.ntmps60
  go_wp2_with (first | (go_at_call 58; refine (rwithin_any _ _ _ _).mono ?_; rintro r w' ⟨rfl,rfl⟩; try simp only [inB]) | (go_at_call 104; refine (has_any _ _).mono ?_; rw [HH.out]; rintro r w' ⟨rfl,rfl⟩) | (go_at_call 105; with_reducible refine (isNumber_fc f _ _ _ ty nm _ hfl).mono ?_; rintro r w1 ⟨rfl,x1⟩; have y1:=x1.facts; have z0:=x1.size; try simp at z0; have zw10:w.heap.size < w1.heap.size:=(by omega); have zw11:w.heap.size + 1 < w1.heap.size:=(by omega)))
  all_goals
   go_ret
   exact ⟨ret_bool (by rw [HS.out]; first | (simp [numS, *]; done) | (unfold numS at *; simp [*]; done) | (simp_all [numS]; done)),exA⟩
 ·have HS:=Lib.hid (show instS l f ⟨19,a,b,ty,nm⟩=(inB a 1 5 && ((b == 0) && (tz ty && emp nm))) from rfl)
  have HH:=Lib.hid (hasS_1 (op:=19) (by omega))
  go_enter Tryz.func60,Tryz.ntmps60
  go_wp2_with (first | (go_at_call 58; refine (rwithin_any _ _ _ _).mono ?_; rintro r w' ⟨rfl,rfl⟩; try simp only [inB]) | (go_at_call 104; refine (has_any _ _).mono ?_; rw [HH.out]; rintro r w' ⟨rfl,rfl⟩) | (go_at_call 105; with_reducible refine (isNumber_fc f _ _ _ ty nm _ hfl).mono ?_; rintro r w1 ⟨rfl,x1⟩; have y1:=x1.facts; have z0:=x1.size; try simp at z0; have zw10:w.heap.size < w1.heap.size:=(by omega); have zw11:w.heap.size + 1 < w1.heap.size:=(by omega)))
  all_goals
   go_ret
   exact ⟨ret_bool (by rw [HS.out]; first | (simp [numS, *]; done) | (unfold numS at *; simp [*]; done) | (simp_all [numS]; done)),exA⟩

theorem shapeS_out {l:List Fc} {f:Fc} {x:Cd} (h:x.op < 0 ∨ 19 < x.op):shapeS l f x=none:=by
 unfold shapeS
 rw [if_neg (by omega),if_neg (by omega),if_neg (by omega),if_neg (by omega),if_neg (by omega),if_neg (by omega),if_neg (by omega),if_neg (by omega),if_neg (by omega),if_neg (by omega)]
theorem code_kind (l:List Fc) (A:Option Addr) (cap:Nat) (f:Fc) (op a b:Int) (ty:Ty) (nm:ByteArray) (w:World) (hA:FcAt w A l) (hl:l.length ≤ 9223372036854775806) (hfl:f.code.length ≤ 9223372036854775807) (hop:op=7 ∨ op=9 ∨ op=10) :
  Calls Tryz.prog 60 #[.slice A l.length cap,f.val,(Cd.mk op a b ty nm).val] w fun e w'=>e=.returned (.bool (instS l f ⟨op,a,b,ty,nm⟩))∧Ext w w':=by
 unfold Fc.val Cd.val
 simp only []
 have HA:=Lib.hid hA
 clear hA
 have hq:=run_tz_neq ty
 have hem:nm.toList.isEmpty=emp nm:=rfl
 rcases hop with rfl | rfl | rfl
 ·have HS:=Lib.hid (show instS l f ⟨7,a,b,ty,nm⟩=((a == 0) && ((b == 0) && (isIntS ty && emp nm))) from rfl)
  have HH:=Lib.hid (hasS_2 (op:=7) (by omega))
  go_enter Tryz.func60,Tryz.ntmps60
  go_wp2_with (first | (go_at_call 58; refine (rwithin_any _ _ _ _).mono ?_; rintro r w' ⟨rfl,rfl⟩; try simp only [inB]) | (go_at_call 104; refine (has_any _ _).mono ?_; rw [HH.out]; rintro r w' ⟨rfl,rfl⟩) | (go_at_call 106; refine (rIsInt_ty ty _).mono ?_; rintro r w2 ⟨rfl,x2⟩; have y2:=x2.facts; have z0:=x2.size; try simp at z0; have zw20:w.heap.size < w2.heap.size:=(by omega); have zw21:w.heap.size + 1 < w2.heap.size:=(by omega)))
  all_goals
   go_ret
   exact ⟨ret_bool (by rw [HS.out]; simp [*]),exA⟩
 ·have HS:=Lib.hid (show instS l f ⟨9,a,b,ty,nm⟩=((a == 0) && ((b == 0) && (isIntS ty && emp nm))) from rfl)
  have HH:=Lib.hid (hasS_2 (op:=9) (by omega))
  go_enter Tryz.func60,Tryz.ntmps60
  go_wp2_with (first | (go_at_call 58; refine (rwithin_any _ _ _ _).mono ?_; rintro r w' ⟨rfl,rfl⟩; try simp only [inB]) | (go_at_call 104; refine (has_any _ _).mono ?_; rw [HH.out]; rintro r w' ⟨rfl,rfl⟩) | (go_at_call 106; refine (rIsInt_ty ty _).mono ?_; rintro r w2 ⟨rfl,x2⟩; have y2:=x2.facts; have z0:=x2.size; try simp at z0; have zw20:w.heap.size < w2.heap.size:=(by omega); have zw21:w.heap.size + 1 < w2.heap.size:=(by omega)))
  all_goals
   go_ret
   exact ⟨ret_bool (by rw [HS.out]; simp [*]),exA⟩
 ·have HS:=Lib.hid (show instS l f ⟨10,a,b,ty,nm⟩=((a == 0) && ((b == 0) && (isIntS ty && emp nm))) from rfl)
  have HH:=Lib.hid (hasS_2 (op:=10) (by omega))
  go_enter Tryz.func60,Tryz.ntmps60
  go_wp2_with (first | (go_at_call 58; refine (rwithin_any _ _ _ _).mono ?_; rintro r w' ⟨rfl,rfl⟩; try simp only [inB]) | (go_at_call 104; refine (has_any _ _).mono ?_; rw [HH.out]; rintro r w' ⟨rfl,rfl⟩) | (go_at_call 106; refine (rIsInt_ty ty _).mono ?_; rintro r w2 ⟨rfl,x2⟩; have y2:=x2.facts; have z0:=x2.size; try simp at z0; have zw20:w.heap.size < w2.heap.size:=(by omega); have zw21:w.heap.size + 1 < w2.heap.size:=(by omega)))
  all_goals
   go_ret
   exact ⟨ret_bool (by rw [HS.out]; simp [*]),exA⟩

theorem code_error (l:List Fc) (A:Option Addr) (cap:Nat) (f:Fc) (op a b:Int) (ty:Ty) (nm:ByteArray) (w:World) (hA:FcAt w A l) (hl:l.length ≤ 9223372036854775806) (hfl:f.code.length ≤ 9223372036854775807) (hop:op=18) :
  Calls Tryz.prog 60 #[.slice A l.length cap,f.val,(Cd.mk op a b ty nm).val] w fun e w'=>e=.returned (.bool (instS l f ⟨op,a,b,ty,nm⟩))∧Ext w w':=by
 unfold Fc.val Cd.val
 simp only []
 have HA:=Lib.hid hA
 clear hA
 have hq:=run_tz_neq ty
 have hem:nm.toList.isEmpty=emp nm:=rfl
 subst hop
 ·have HS:=Lib.hid (show instS l f ⟨18,a,b,ty,nm⟩=((a == 0) && ((b == 0) && (tz ty && isNameS nm))) from rfl)
  have HH:=Lib.hid (hasS_4 (op:=18) (by omega))
  go_enter Tryz.func60,Tryz.ntmps60
  go_wp2_with (first | (go_at_call 58; refine (rwithin_any _ _ _ _).mono ?_; rintro r w' ⟨rfl,rfl⟩; try simp only [inB]) | (go_at_call 104; refine (has_any _ _).mono ?_; rw [HH.out]; rintro r w' ⟨rfl,rfl⟩) | (go_at_call 33; refine (refIsName_any nm _).mono ?_; rintro r w2 ⟨rfl,x2⟩; have y2:=x2.facts))
  all_goals
   go_ret
   exact ⟨ret_bool (by rw [HS.out]; simp [*]),exA⟩

theorem code_op (l:List Fc) (A:Option Addr) (cap:Nat) (f:Fc) (op a b:Int) (ty:Ty) (nm:ByteArray) (w:World) (hA:FcAt w A l) (hl:l.length ≤ 9223372036854775806) (hfl:f.code.length ≤ 9223372036854775807) (hop:op=5) :
  Calls Tryz.prog 60 #[.slice A l.length cap,f.val,(Cd.mk op a b ty nm).val] w fun e w'=>e=.returned (.bool (instS l f ⟨op,a,b,ty,nm⟩))∧Ext w w':=by
 unfold Fc.val Cd.val
 simp only []
 have HA:=Lib.hid hA
 clear hA
 have hq:=run_tz_neq ty
 have hem:nm.toList.isEmpty=emp nm:=rfl
 subst hop
 ·have HS:=Lib.hid (show instS l f ⟨5,a,b,ty,nm⟩=(inB a 5 17 && ((b == 0) && (isIntS ty && emp nm))) from rfl)
  have HH:=Lib.hid (hasS_0 (op:=5) (by omega))
  go_enter Tryz.func60,Tryz.ntmps60
  go_wp2_with (first | (go_at_call 58; refine (rwithin_any _ _ _ _).mono ?_; rintro r w' ⟨rfl,rfl⟩; try simp only [inB]) | (go_at_call 104; refine (has_any _ _).mono ?_; rw [HH.out]; rintro r w' ⟨rfl,rfl⟩) | (go_at_call 105; with_reducible refine (isNumber_fc f _ _ _ ty nm _ hfl).mono ?_; rintro r w1 ⟨rfl,x1⟩; have y1:=x1.facts; have z0:=x1.size; try simp at z0; have zw10:w.heap.size < w1.heap.size:=(by omega); have zw11:w.heap.size + 1 < w1.heap.size:=(by omega)) | (go_at_call 106; refine (rIsInt_ty ty _).mono ?_; rintro r w2 ⟨rfl,x2⟩; have y2:=x2.facts; have z0:=x2.size; try simp at z0; have zw20:w.heap.size < w2.heap.size:=(by omega); have zw21:w.heap.size + 1 < w2.heap.size:=(by omega)))
  all_goals
   go_ret
   exact ⟨ret_bool (by rw [HS.out]; first | (simp [numS, *]; done) | (simp_all [numS]; done)),exA⟩

theorem code_push (l:List Fc) (A:Option Addr) (cap:Nat) (f:Fc) (op a b:Int) (ty:Ty) (nm:ByteArray) (w:World) (hA:FcAt w A l) (hl:l.length ≤ 9223372036854775806) (hfl:f.code.length ≤ 9223372036854775807) (hop:op=0) :
  Calls Tryz.prog 60 #[.slice A l.length cap,f.val,(Cd.mk op a b ty nm).val] w fun e w'=>e=.returned (.bool (instS l f ⟨op,a,b,ty,nm⟩))∧Ext w w':=by
 unfold Fc.val Cd.val
 simp only []
 have HA:=Lib.hid hA
 clear hA
 have hq:=run_tz_neq ty
 have hem:nm.toList.isEmpty=emp nm:=rfl
 subst hop
 ·have HS:=Lib.hid (show instS l f ⟨0,a,b,ty,nm⟩=(inB a (-2147483648) 2147483648 && ((b == 0) && (pushS ty && emp nm))) from rfl)
  have HH:=Lib.hid (hasS_0 (op:=0) (by omega))
  go_enter Tryz.func60,Tryz.ntmps60
  go_wp2_with (first | (go_at_call 58; refine (rwithin_any _ _ _ _).mono ?_; rintro r w' ⟨rfl,rfl⟩; try simp only [inB]) | (go_at_call 104; refine (has_any _ _).mono ?_; rw [HH.out]; rintro r w' ⟨rfl,rfl⟩) | (go_at_call 105; with_reducible refine (isNumber_fc f _ _ _ ty nm _ hfl).mono ?_; rintro r w1 ⟨rfl,x1⟩; have y1:=x1.facts; have z0:=x1.size; try simp at z0; have zw10:w.heap.size < w1.heap.size:=(by omega); have zw11:w.heap.size + 1 < w1.heap.size:=(by omega)) | (go_at_call 59; refine (isRan_ty ty _).mono ?_; rintro r w2 ⟨rfl,x2⟩; have y2:=x2.facts; have z0:=x2.size; try simp at z0; have zw20:w.heap.size < w2.heap.size:=(by omega); have zw21:w.heap.size + 1 < w2.heap.size:=(by omega)))
  all_goals
   go_ret
   exact ⟨ret_bool (by rw [HS.out]; rw [push_ran]; first | (simp [numS, *]; done) | (simp_all [numS]; done)),exA⟩

theorem code_none (l:List Fc) (A:Option Addr) (cap:Nat) (f:Fc) (op a b:Int) (ty:Ty) (nm:ByteArray) (w:World) (hA:FcAt w A l) (hl:l.length ≤ 9223372036854775806) (hfl:f.code.length ≤ 9223372036854775807) (hop:op < 0 ∨ 19 < op) :
  Calls Tryz.prog 60 #[.slice A l.length cap,f.val,(Cd.mk op a b ty nm).val] w fun e w'=>e=.returned (.bool (instS l f ⟨op,a,b,ty,nm⟩))∧Ext w w':=by
 unfold Fc.val Cd.val
 simp only []
 have HA:=Lib.hid hA
 clear hA
 have hq:=run_tz_neq ty
 have hem:nm.toList.isEmpty=emp nm:=rfl
 have HS:=Lib.hid (show instS l f ⟨op,a,b,ty,nm⟩=false by unfold instS; rw [shapeS_out hop])
 have hw:inB op 0 19=false:=by unfold inB; rw [Bool.eq_false_iff]; intro h; simp at h; omega
 go_enter Tryz.func60,Tryz.ntmps60
 go_wp2_with (first | (go_at_call 58; refine (rwithin_any _ _ _ _).mono ?_; rw [hw]; rintro r w' ⟨rfl,rfl⟩))
 go_ret
 exact ⟨ret_bool HS.out.symm,exA⟩

theorem code_call (l:List Fc) (A:Option Addr) (cap:Nat) (f:Fc) (op a b:Int) (ty:Ty) (nm:ByteArray) (w:World) (hA:FcAt w A l) (hl:l.length ≤ 9223372036854775806) (hfl:f.code.length ≤ 9223372036854775807) (hop:op=16) :
  Calls Tryz.prog 60 #[.slice A l.length cap,f.val,(Cd.mk op a b ty nm).val] w fun e w'=>e=.returned (.bool (instS l f ⟨op,a,b,ty,nm⟩))∧Ext w w':=by
 unfold Fc.val Cd.val
 simp only []
 have HA:=Lib.hid hA
 clear hA
 have hq:=run_tz_neq ty
 have hem:nm.toList.isEmpty=emp nm:=rfl
 subst hop
 have HH:=Lib.hid (hasS_3 (op:=16) rfl)
 have HS:=Lib.hid (show instS l f ⟨16,a,b,ty,nm⟩=((a == 0) && ((decide (0 ≤ indexS l nm) && b == (l.getD (indexS l nm).toNat default).params) && (tz ty && decide (0 ≤ indexS l nm)))) from rfl)
 rcases findI_cases (fun k=>(l.getD k default).name.toList == nm.toList) l.length with ⟨hi,_⟩ | ⟨k,hi,hk,_,_⟩
 case inl =>
  have HI:Hid (indexS l nm=-1):=hi
  clear hi
  have hd:decide ((0:Int) ≤ -1)=false:=rfl
  go_enter Tryz.func60,Tryz.ntmps60
  go_wp2_with (first
   | (go_at_call 58; refine (rwithin_any _ _ _ _).mono ?_; rintro r w' ⟨rfl,rfl⟩; try simp only [inB])
   | (go_at_call 104; refine (has_any _ _).mono ?_; rw [HH.out]; rintro r w' ⟨rfl,rfl⟩)
   | (go_at_call 57; refine (found_any A cap l nm _ (HA.out.ext exL) hl).mono ?_; rw [HI.out]; rintro r w' ⟨rfl,rfl⟩))
  all_goals try go_quiet (fail)
  all_goals try go_wp2_with fail
  all_goals
   go_ret
   exact ⟨ret_bool (by rw [HS.out,HI.out]; simp [*]),exL⟩
 case inr =>
  have HI:Hid (indexS l nm=(k:Int)):=hi
  clear hi
  obtain ⟨f2,hf2⟩:∃ f2,f2=l.getD k default:=⟨_,rfl⟩
  have HF:=Lib.hid hf2
  have hk0:0 ≤ (k:Int):=by omega
  have hk1:(k:Int) < (l.length:Int):=by omega
  obtain ⟨ba,off,rfl,hba,_,c1,_⟩:=HA.out.at_ hk hf2
  clear hf2
  go_enter Tryz.func60,Tryz.ntmps60
  go_wp2_with (first
   | (go_at_call 58; refine (rwithin_any _ _ _ _).mono ?_; rintro r w' ⟨rfl,rfl⟩; try simp only [inB])
   | (go_at_call 104; refine (has_any _ _).mono ?_; rw [HH.out]; rintro r w' ⟨rfl,rfl⟩)
   | (go_at_call 57; refine (found_any _ cap l nm _ (HA.out.ext exL) hl).mono ?_; rw [HI.out]; rintro r w' ⟨rfl,rfl⟩))
  all_goals try go_quiet (fail)
  all_goals try go_wp2_with fail
  all_goals
   go_ret
   exact ⟨ret_bool (by rw [HS.out,HI.out,decide_eq_true hk0,Int.toNat_natCast,← HF.out]; simp [*]),exL⟩

def takesS (x:Cd):Int :=
 bif x.op == 0 || (x.op == 1 || (x.op == 2 || (x.op == 18))) then 0 else bif x.op == 3 || (x.op == 4 || (x.op == 15 || (x.op == 17))) then 1 else bif x.op == 5 || (x.op == 6) then 2 else bif x.op == 16 then x.b else bif x.op == 14 || (x.op == 19) then 0 else 1
def putsS (x:Cd):Int :=
 bif x.op == 0 || (x.op == 1 || (x.op == 2 || (x.op == 18))) then 1 else bif x.op == 3 || (x.op == 4 || (x.op == 15 || (x.op == 17))) then 0 else bif x.op == 5 || (x.op == 6) then 1 else bif x.op == 16 then 1 else bif x.op == 14 || (x.op == 19) then 0 else 1
def goesS (x:Cd):Bool :=
 bif x.op == 0 || (x.op == 1 || (x.op == 2 || (x.op == 18))) then true else bif x.op == 3 || (x.op == 4 || (x.op == 15)) then true else bif x.op == 5 || (x.op == 6) then true else bif x.op == 16 then true else bif x.op == 14 || (x.op == 19) then false else bif x.op == 17 then false else true
theorem goes_iff (x:Cd):goesS x=!(x.op == 14 || (x.op == 19 || x.op == 17)):=by
 unfold goesS
 by_cases h1:x.op=14
 ·rw [h1]; rfl
 by_cases h2:x.op=19
 ·rw [h2]; rfl
 by_cases h3:x.op=17
 ·rw [h3]; rfl
 have e1:(x.op == 14)=false:=by simpa using h1
 have e2:(x.op == 19)=false:=by simpa using h2
 have e3:(x.op == 17)=false:=by simpa using h3
 simp [e1,e2,e3]
theorem new2 (w:World) (o:Obj) (cs:Array Value) (t:TypeId):((w.alloc o).alloc (.cells cs t)).heap[w.heap.size + 1]?=some (.cells cs t (0,0)):=by
 have h:=Blk.new (w.alloc o) t cs
 rwa [size_alloc] at h
def leadsS (op:Int):Bool:=op == 12 || (op == 13 || (op == 14 || op == 15))
theorem ret_two {a b c d:Int} (h:a=c) (h2:b=d):Ending.returned (.tuple #[.int .i64 a,.int .i64 b])=.returned (.tuple #[.int .i64 c,.int .i64 d]):=by rw [h,h2]
theorem stepOf_any (x:Cd) (w:World) :
  Calls Tryz.prog 86 #[x.val] w fun e w'=>e=.returned (.agg #[.int .i64 (takesS x),.int .i64 (putsS x),.bool (goesS x)])∧Ext w w':=by
 obtain ⟨op,a,b,ty,nm⟩:=x
 unfold Cd.val
 simp only []
 have HZ:Hid ((Tryz.prog.info? 147).map (·.size)=some 3):=by unfold Hid; kernel_rfl
 go_enter Tryz.func86,Tryz.ntmps86
 go_wp2
 all_goals
  refine bodyPost_ret (results_cell_row rfl _ _ (w.heap.size + 1) 147 #[.int .i64 (takesS ⟨op,a,b,ty,nm⟩),.int .i64 (putsS ⟨op,a,b,ty,nm⟩),.bool (goesS ⟨op,a,b,ty,nm⟩)] (0,0) _ rfl ?_ Tryz.underlying147 rfl HZ.out) rfl ⟨rfl,exA⟩
  refine (new2 w _ _ _).trans ?_
  first
   | (simp [takesS,putsS,goesS, *]; done)
   | (rename_i h9
      have h8:=eq_of_beq h9
      have h7:(op == 17)=false:=by rw [h8]; rfl
      simp [takesS,putsS,goesS, *])
theorem leads_any (op:Int) (w:World):Calls Tryz.prog 23 #[.int .i64 op] w fun e w'=>e=.returned (.bool (leadsS op))∧w=w':=by
 go_enter Tryz.func23,Tryz.ntmps23
 go_wp2
 all_goals
  go_ret
  exact ⟨ret_bool (by simp [leadsS, *]),rfl⟩
theorem takes_any (x:Cd) (w:World) :
  Calls Tryz.prog 108 #[x.val] w fun e w'=>e=.returned (.tuple #[.int .i64 (takesS x),.int .i64 (putsS x)])∧Ext w w':=by
 obtain ⟨op,a,b,ty,nm⟩:=x
 unfold Cd.val
 simp only []
 go_enter Tryz.func108,Tryz.ntmps108
 go_wp2
 all_goals
  go_ret2
  exact ⟨ret_two (by simp [takesS, *]) (by simp [putsS, *]),exA⟩
end Go.Proofs.YtcoookehfhhhdaaGreatDoor.c
