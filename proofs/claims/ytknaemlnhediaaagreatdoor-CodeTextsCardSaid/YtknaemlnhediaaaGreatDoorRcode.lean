/- Contract of the reference's isCode: the operations without a call. -/
import Derived.Test.YtknaemlnhediaaaGreatDoorDataF
namespace Go.Proofs.YtknaemlnhediaaaGreatDoor.c
open Go.RowKit
set_option linter.unusedVariables false
set_option maxRecDepth 100000
set_option maxHeartbeats 1600000
set_option linter.unusedSimpArgs false
theorem isNumber_fc (f:Fc) (op a b:Int) (ty:Ty) (nm:ByteArray) (w:World) (hfl:f.code.length ≤ 9223372036854775807) :
  Calls Tryz.prog 201 #[.agg #[.string f.name,.int .i64 f.params,.int .i64 f.places,.int .i64 f.ty.base,.int .i64 f.ty.bits,.string f.ty.name,.bool f.ty.opt,.bool f.ty.err,.slice f.A f.code.length f.cap],.agg #[.int .i64 op,.int .i64 a,.int .i64 b,.int .i64 ty.base,.int .i64 ty.bits,.string ty.name,.bool ty.opt,.bool ty.err,.string nm]] w fun e w'=>e=.returned (.bool (numS f ⟨op,a,b,ty,nm⟩))∧Ext w w':=isNumber_any f op a b ty nm w hfl

theorem code_plain (l:List Fc) (A:Option Addr) (cap:Nat) (f:Fc) (op a b:Int) (ty:Ty) (nm:ByteArray) (w:World) (hA:FcAt w A l) (hl:l.length ≤ 9223372036854775806) (hfl:f.code.length ≤ 9223372036854775807) (hop:op=1 ∨ op=4 ∨ op=8 ∨ op=11 ∨ op=17) :
  Calls Tryz.prog 137 #[.slice A l.length cap,f.val,(Cd.mk op a b ty nm).val] w fun e w'=>e=.returned (.bool (instS l f ⟨op,a,b,ty,nm⟩))∧Ext w w':=by
 unfold Fc.val Cd.val
 simp only []
 have HA:=Lib.hid hA
 clear hA
 have hq:=run_tz_neq ty
 have hem:nm.toList.isEmpty=emp nm:=rfl
 rcases hop with rfl | rfl | rfl | rfl | rfl
 ·have HS:=Lib.hid (show instS l f ⟨1,a,b,ty,nm⟩=((a == 0) && ((b == 0) && (tz ty && emp nm))) from rfl)
  have HH:=Lib.hid (hasS_5 (op:=1) (by omega))
  go_enter Tryz.func137,Tryz.ntmps137
  go_wp2_with (first | (go_at_call 135; refine (rwithin_any _ _ _ _).mono ?_; rintro r w' ⟨rfl,rfl⟩; try simp only [inB]) | (go_at_call 200; refine (has_any _ _).mono ?_; rw [HH.out]; rintro r w' ⟨rfl,rfl⟩))
  all_goals
   go_ret
   exact ⟨ret_bool (by rw [HS.out]; simp [*]),exA⟩
 ·have HS:=Lib.hid (show instS l f ⟨4,a,b,ty,nm⟩=((a == 0) && ((b == 0) && (tz ty && emp nm))) from rfl)
  have HH:=Lib.hid (hasS_5 (op:=4) (by omega))
  go_enter Tryz.func137,Tryz.ntmps137
  go_wp2_with (first | (go_at_call 135; refine (rwithin_any _ _ _ _).mono ?_; rintro r w' ⟨rfl,rfl⟩; try simp only [inB]) | (go_at_call 200; refine (has_any _ _).mono ?_; rw [HH.out]; rintro r w' ⟨rfl,rfl⟩))
  all_goals
   go_ret
   exact ⟨ret_bool (by rw [HS.out]; simp [*]),exA⟩
 ·have HS:=Lib.hid (show instS l f ⟨8,a,b,ty,nm⟩=((a == 0) && ((b == 0) && (tz ty && emp nm))) from rfl)
  have HH:=Lib.hid (hasS_5 (op:=8) (by omega))
  go_enter Tryz.func137,Tryz.ntmps137
  go_wp2_with (first | (go_at_call 135; refine (rwithin_any _ _ _ _).mono ?_; rintro r w' ⟨rfl,rfl⟩; try simp only [inB]) | (go_at_call 200; refine (has_any _ _).mono ?_; rw [HH.out]; rintro r w' ⟨rfl,rfl⟩))
  all_goals
   go_ret
   exact ⟨ret_bool (by rw [HS.out]; simp [*]),exA⟩
 ·have HS:=Lib.hid (show instS l f ⟨11,a,b,ty,nm⟩=((a == 0) && ((b == 0) && (tz ty && emp nm))) from rfl)
  have HH:=Lib.hid (hasS_5 (op:=11) (by omega))
  go_enter Tryz.func137,Tryz.ntmps137
  go_wp2_with (first | (go_at_call 135; refine (rwithin_any _ _ _ _).mono ?_; rintro r w' ⟨rfl,rfl⟩; try simp only [inB]) | (go_at_call 200; refine (has_any _ _).mono ?_; rw [HH.out]; rintro r w' ⟨rfl,rfl⟩))
  all_goals
   go_ret
   exact ⟨ret_bool (by rw [HS.out]; simp [*]),exA⟩
 ·have HS:=Lib.hid (show instS l f ⟨17,a,b,ty,nm⟩=((a == 0) && ((b == 0) && (tz ty && emp nm))) from rfl)
  have HH:=Lib.hid (hasS_5 (op:=17) (by omega))
  go_enter Tryz.func137,Tryz.ntmps137
  go_wp2_with (first | (go_at_call 135; refine (rwithin_any _ _ _ _).mono ?_; rintro r w' ⟨rfl,rfl⟩; try simp only [inB]) | (go_at_call 200; refine (has_any _ _).mono ?_; rw [HH.out]; rintro r w' ⟨rfl,rfl⟩))
  all_goals
   go_ret
   exact ⟨ret_bool (by rw [HS.out]; simp [*]),exA⟩

theorem code_num (l:List Fc) (A:Option Addr) (cap:Nat) (f:Fc) (op a b:Int) (ty:Ty) (nm:ByteArray) (w:World) (hA:FcAt w A l) (hl:l.length ≤ 9223372036854775806) (hfl:f.code.length ≤ 9223372036854775807) (hop:op=2 ∨ op=3 ∨ op=6 ∨ op=12 ∨ op=13 ∨ op=14 ∨ op=15 ∨ op=19) :
  Calls Tryz.prog 137 #[.slice A l.length cap,f.val,(Cd.mk op a b ty nm).val] w fun e w'=>e=.returned (.bool (instS l f ⟨op,a,b,ty,nm⟩))∧Ext w w':=by
 unfold Fc.val Cd.val
 simp only []
 have HA:=Lib.hid hA
 clear hA
 have hq:=run_tz_neq ty
 have hem:nm.toList.isEmpty=emp nm:=rfl
 rcases hop with rfl | rfl | rfl | rfl | rfl | rfl | rfl | rfl
 ·have HS:=Lib.hid (show instS l f ⟨2,a,b,ty,nm⟩=(inB a 0 (wrap64 (f.places - 1)) && ((b == 0) && (tz ty && emp nm))) from rfl)
  have HH:=Lib.hid (hasS_1 (op:=2) (by omega))
  go_enter Tryz.func137,Tryz.ntmps137
  go_wp2_with (first | (go_at_call 135; refine (rwithin_any _ _ _ _).mono ?_; rintro r w' ⟨rfl,rfl⟩; try simp only [inB]) | (go_at_call 200; refine (has_any _ _).mono ?_; rw [HH.out]; rintro r w' ⟨rfl,rfl⟩) | (go_at_call 201; with_reducible refine (isNumber_fc f _ _ _ ty nm _ hfl).mono ?_; rintro r w1 ⟨rfl,x1⟩; have y1:=x1.facts; have z0:=x1.size; try simp at z0; have zw10:w.heap.size < w1.heap.size:=(by omega); have zw11:w.heap.size + 1 < w1.heap.size:=(by omega)))
  all_goals
   go_ret
   exact ⟨ret_bool (by rw [HS.out]; first | (simp [numS, *]; done) | (unfold numS at *; simp [*]; done) | (simp_all [numS]; done)),exA⟩
 ·have HS:=Lib.hid (show instS l f ⟨3,a,b,ty,nm⟩=(inB a 0 (wrap64 (f.places - 1)) && ((b == 0) && (tz ty && emp nm))) from rfl)
  have HH:=Lib.hid (hasS_1 (op:=3) (by omega))
  go_enter Tryz.func137,Tryz.ntmps137
  go_wp2_with (first | (go_at_call 135; refine (rwithin_any _ _ _ _).mono ?_; rintro r w' ⟨rfl,rfl⟩; try simp only [inB]) | (go_at_call 200; refine (has_any _ _).mono ?_; rw [HH.out]; rintro r w' ⟨rfl,rfl⟩) | (go_at_call 201; with_reducible refine (isNumber_fc f _ _ _ ty nm _ hfl).mono ?_; rintro r w1 ⟨rfl,x1⟩; have y1:=x1.facts; have z0:=x1.size; try simp at z0; have zw10:w.heap.size < w1.heap.size:=(by omega); have zw11:w.heap.size + 1 < w1.heap.size:=(by omega)))
  all_goals
   go_ret
   exact ⟨ret_bool (by rw [HS.out]; first | (simp [numS, *]; done) | (unfold numS at *; simp [*]; done) | (simp_all [numS]; done)),exA⟩
 ·have HS:=Lib.hid (show instS l f ⟨6,a,b,ty,nm⟩=(inB a 18 23 && ((b == 0) && (tz ty && emp nm))) from rfl)
  have HH:=Lib.hid (hasS_1 (op:=6) (by omega))
  go_enter Tryz.func137,Tryz.ntmps137
  go_wp2_with (first | (go_at_call 135; refine (rwithin_any _ _ _ _).mono ?_; rintro r w' ⟨rfl,rfl⟩; try simp only [inB]) | (go_at_call 200; refine (has_any _ _).mono ?_; rw [HH.out]; rintro r w' ⟨rfl,rfl⟩) | (go_at_call 201; with_reducible refine (isNumber_fc f _ _ _ ty nm _ hfl).mono ?_; rintro r w1 ⟨rfl,x1⟩; have y1:=x1.facts; have z0:=x1.size; try simp at z0; have zw10:w.heap.size < w1.heap.size:=(by omega); have zw11:w.heap.size + 1 < w1.heap.size:=(by omega)))
  all_goals
   go_ret
   exact ⟨ret_bool (by rw [HS.out]; first | (simp [numS, *]; done) | (unfold numS at *; simp [*]; done) | (simp_all [numS]; done)),exA⟩
 ·have HS:=Lib.hid (show instS l f ⟨12,a,b,ty,nm⟩=(inB a 0 ((f.code.length:Int) - 1) && ((b == 0) && (tz ty && emp nm))) from rfl)
  have HH:=Lib.hid (hasS_1 (op:=12) (by omega))
  go_enter Tryz.func137,Tryz.ntmps137
  go_wp2_with (first | (go_at_call 135; refine (rwithin_any _ _ _ _).mono ?_; rintro r w' ⟨rfl,rfl⟩; try simp only [inB]) | (go_at_call 200; refine (has_any _ _).mono ?_; rw [HH.out]; rintro r w' ⟨rfl,rfl⟩) | (go_at_call 201; with_reducible refine (isNumber_fc f _ _ _ ty nm _ hfl).mono ?_; rintro r w1 ⟨rfl,x1⟩; have y1:=x1.facts; have z0:=x1.size; try simp at z0; have zw10:w.heap.size < w1.heap.size:=(by omega); have zw11:w.heap.size + 1 < w1.heap.size:=(by omega)))
  all_goals
   go_ret
   exact ⟨ret_bool (by rw [HS.out]; first | (simp [numS, *]; done) | (unfold numS at *; simp [*]; done) | (simp_all [numS]; done)),exA⟩
 ·have HS:=Lib.hid (show instS l f ⟨13,a,b,ty,nm⟩=(inB a 0 ((f.code.length:Int) - 1) && ((b == 0) && (tz ty && emp nm))) from rfl)
  have HH:=Lib.hid (hasS_1 (op:=13) (by omega))
  go_enter Tryz.func137,Tryz.ntmps137
  go_wp2_with (first | (go_at_call 135; refine (rwithin_any _ _ _ _).mono ?_; rintro r w' ⟨rfl,rfl⟩; try simp only [inB]) | (go_at_call 200; refine (has_any _ _).mono ?_; rw [HH.out]; rintro r w' ⟨rfl,rfl⟩) | (go_at_call 201; with_reducible refine (isNumber_fc f _ _ _ ty nm _ hfl).mono ?_; rintro r w1 ⟨rfl,x1⟩; have y1:=x1.facts; have z0:=x1.size; try simp at z0; have zw10:w.heap.size < w1.heap.size:=(by omega); have zw11:w.heap.size + 1 < w1.heap.size:=(by omega)))
  all_goals
   go_ret
   exact ⟨ret_bool (by rw [HS.out]; first | (simp [numS, *]; done) | (unfold numS at *; simp [*]; done) | (simp_all [numS]; done)),exA⟩
 ·have HS:=Lib.hid (show instS l f ⟨14,a,b,ty,nm⟩=(inB a 0 ((f.code.length:Int) - 1) && ((b == 0) && (tz ty && emp nm))) from rfl)
  have HH:=Lib.hid (hasS_1 (op:=14) (by omega))
  go_enter Tryz.func137,Tryz.ntmps137
  go_wp2_with (first | (go_at_call 135; refine (rwithin_any _ _ _ _).mono ?_; rintro r w' ⟨rfl,rfl⟩; try simp only [inB]) | (go_at_call 200; refine (has_any _ _).mono ?_; rw [HH.out]; rintro r w' ⟨rfl,rfl⟩) | (go_at_call 201; with_reducible refine (isNumber_fc f _ _ _ ty nm _ hfl).mono ?_; rintro r w1 ⟨rfl,x1⟩; have y1:=x1.facts; have z0:=x1.size; try simp at z0; have zw10:w.heap.size < w1.heap.size:=(by omega); have zw11:w.heap.size + 1 < w1.heap.size:=(by omega)))
  all_goals
   go_ret
   exact ⟨ret_bool (by rw [HS.out]; first | (simp [numS, *]; done) | (unfold numS at *; simp [*]; done) | (simp_all [numS]; done)),exA⟩
 ·have HS:=Lib.hid (show instS l f ⟨15,a,b,ty,nm⟩=(inB a 0 ((f.code.length:Int) - 1) && ((b == 0) && (tz ty && emp nm))) from rfl)
  have HH:=Lib.hid (hasS_1 (op:=15) (by omega))
  go_enter Tryz.func137,Tryz.ntmps137
  go_wp2_with (first | (go_at_call 135; refine (rwithin_any _ _ _ _).mono ?_; rintro r w' ⟨rfl,rfl⟩; try simp only [inB]) | (go_at_call 200; refine (has_any _ _).mono ?_; rw [HH.out]; rintro r w' ⟨rfl,rfl⟩) | (go_at_call 201; with_reducible refine (isNumber_fc f _ _ _ ty nm _ hfl).mono ?_; rintro r w1 ⟨rfl,x1⟩; have y1:=x1.facts; have z0:=x1.size; try simp at z0; have zw10:w.heap.size < w1.heap.size:=(by omega); have zw11:w.heap.size + 1 < w1.heap.size:=(by omega)))
  all_goals
   go_ret
   exact ⟨ret_bool (by rw [HS.out]; first | (simp [numS, *]; done) | (unfold numS at *; simp [*]; done) | (simp_all [numS]; done)),exA⟩
 ·have HS:=Lib.hid (show instS l f ⟨19,a,b,ty,nm⟩=(inB a 1 5 && ((b == 0) && (tz ty && emp nm))) from rfl)
  have HH:=Lib.hid (hasS_1 (op:=19) (by omega))
  go_enter Tryz.func137,Tryz.ntmps137
  go_wp2_with (first | (go_at_call 135; refine (rwithin_any _ _ _ _).mono ?_; rintro r w' ⟨rfl,rfl⟩; try simp only [inB]) | (go_at_call 200; refine (has_any _ _).mono ?_; rw [HH.out]; rintro r w' ⟨rfl,rfl⟩) | (go_at_call 201; with_reducible refine (isNumber_fc f _ _ _ ty nm _ hfl).mono ?_; rintro r w1 ⟨rfl,x1⟩; have y1:=x1.facts; have z0:=x1.size; try simp at z0; have zw10:w.heap.size < w1.heap.size:=(by omega); have zw11:w.heap.size + 1 < w1.heap.size:=(by omega)))
  all_goals
   go_ret
   exact ⟨ret_bool (by rw [HS.out]; first | (simp [numS, *]; done) | (unfold numS at *; simp [*]; done) | (simp_all [numS]; done)),exA⟩

end Go.Proofs.YtknaemlnhediaaaGreatDoor.c
