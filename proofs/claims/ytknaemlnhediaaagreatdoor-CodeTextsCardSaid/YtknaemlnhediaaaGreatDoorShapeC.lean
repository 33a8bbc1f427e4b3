/- Contract of code.shapeOf: the operations with a type, and the error's. The table strings.asciiSpace holds what its text lays. -/
import Derived.Test.YtknaemlnhediaaaGreatDoorShapeB
import Derived.Test.YtknaemlnhediaaaGreatDoorLib
import Derived.Deep.RegionHeld3
namespace Go.Proofs.YtknaemlnhediaaaGreatDoor.c
open Go.RowKit
set_option linter.unusedVariables false
set_option maxRecDepth 100000
set_option maxHeartbeats 1600000
set_option linter.unusedSimpArgs false
theorem shape_kind (l:List Fc) (A:Option Addr) (cap:Nat) (f:Fc) (op a b:Int) (ty:Ty) (nm:ByteArray) (w:World) (g:Laid w) (hA:FcAt w A l) (hl:l.length ≤ 9223372036854775807) (hfl:f.code.length ≤ 9223372036854775807) (hop:op=7 ∨ op=9 ∨ op=10) :
  Calls Tryz.prog 194 #[.slice A l.length cap,f.val,(Cd.mk op a b ty nm).val] w fun e w'=>ShapeRet l f ⟨op,a,b,ty,nm⟩ e∧Ext w w':=by
 unfold Fc.val Cd.val
 simp only []
 have HA:=Lib.hid hA
 have HOP:=Lib.hid hop
 clear hA hop
 have hq:=run_tz_eql ty
 go_enter Tryz.func194,Tryz.ntmps194
 go_wp2_with fail
 go_region
 have hem:nm.toList.isEmpty=emp nm:=rfl
 have hop:=HOP.out
 clear HOP
 rcases hop with rfl | rfl | rfl
 all_goals
  cases hI:isIntS ty
  all_goals
   go_wp2_with (first | (go_at_call 238; refine (isInt_ty ty _ (g.ext exL)).mono ?_; rw [hI]; rintro r w1 ⟨rfl,x1⟩; have y1:=x1.facts; have z0:=x1.size; try simp at z0; have zw10:w.heap.size < w1.heap.size:=(by omega); have zw11:w.heap.size + 1 < w1.heap.size:=(by omega); have zw12:w.heap.size + 1 + 1 < w1.heap.size:=(by omega); have zw13:w.heap.size + 1 + 1 + 1 < w1.heap.size:=(by omega); have zw14:w.heap.size + 1 + 1 + 1 + 1 < w1.heap.size:=(by omega)))
   exact bodyPost_ret (v:=.tuple #[.agg #[.bool (a == 0),.bool (b == 0),.bool (isIntS ty),.bool (emp nm)],.bool true]) (by simp [results,Tryz.results194,go_sem, *]) rfl ⟨shapeRet_some rfl,exL⟩

theorem shape_error (l:List Fc) (A:Option Addr) (cap:Nat) (f:Fc) (op a b:Int) (ty:Ty) (nm:ByteArray) (w:World) (g:Laid w) (hA:FcAt w A l) (hl:l.length ≤ 9223372036854775807) (hfl:f.code.length ≤ 9223372036854775807) (hop:op=18) :
  Calls Tryz.prog 194 #[.slice A l.length cap,f.val,(Cd.mk op a b ty nm).val] w fun e w'=>ShapeRet l f ⟨op,a,b,ty,nm⟩ e∧Ext w w':=by
 unfold Fc.val Cd.val
 simp only []
 have HA:=Lib.hid hA
 have HOP:=Lib.hid hop
 clear hA hop
 have hq:=run_tz_eql ty
 go_enter Tryz.func194,Tryz.ntmps194
 go_wp2_with fail
 go_region
 have hem:nm.toList.isEmpty=emp nm:=rfl
 have hop:=HOP.out
 clear HOP
 subst hop
 go_wp2_with (first | (go_at_call 144; refine (isName_any nm _ (g.ext exL)).mono ?_; rintro r w1 ⟨rfl,x1⟩; have y1:=x1.facts; have z0:=x1.size; try simp at z0; have zw10:w.heap.size < w1.heap.size:=(by omega); have zw11:w.heap.size + 1 < w1.heap.size:=(by omega); have zw12:w.heap.size + 1 + 1 < w1.heap.size:=(by omega); have zw13:w.heap.size + 1 + 1 + 1 < w1.heap.size:=(by omega); have zw14:w.heap.size + 1 + 1 + 1 + 1 < w1.heap.size:=(by omega)))
 exact bodyPost_ret (v:=.tuple #[.agg #[.bool (a == 0),.bool (b == 0),.bool (tz ty),.bool (isNameS nm)],.bool true]) (by simp [results,Tryz.results194,go_sem, *]) rfl ⟨shapeRet_some rfl,exL⟩

theorem shape_push (l:List Fc) (A:Option Addr) (cap:Nat) (f:Fc) (op a b:Int) (ty:Ty) (nm:ByteArray) (w:World) (g:Laid w) (hA:FcAt w A l) (hl:l.length ≤ 9223372036854775807) (hfl:f.code.length ≤ 9223372036854775807) (hop:op=0) :
  Calls Tryz.prog 194 #[.slice A l.length cap,f.val,(Cd.mk op a b ty nm).val] w fun e w'=>ShapeRet l f ⟨op,a,b,ty,nm⟩ e∧Ext w w':=by
 unfold Fc.val Cd.val
 simp only []
 have HA:=Lib.hid hA
 have HOP:=Lib.hid hop
 clear hA hop
 have hq:=run_tz_eql ty
 go_enter Tryz.func194,Tryz.ntmps194
 go_wp2_with fail
 go_region
 have hem:nm.toList.isEmpty=emp nm:=rfl
 have hop:=HOP.out
 clear HOP
 subst hop
 cases hI:isIntS ty <;> cases hP:isPlainS ty
 all_goals
  have HPS:=Lib.hid (show pushS ty=(isIntS ty || (isPlainS ty && decide (ty.base ≤ 1))) from rfl)
  rw [hI,hP] at HPS
  go_wp2_with (first | (go_at_call 191; refine (within_any _ _ _ _).mono ?_; rintro r w' ⟨rfl,rfl⟩) | (go_at_call 238; refine (isInt_ty ty _ (g.ext exL)).mono ?_; rw [hI]; rintro r w1 ⟨rfl,x1⟩; have y1:=x1.facts; have z0:=x1.size; try simp at z0; have zw10:w.heap.size < w1.heap.size:=(by omega); have zw11:w.heap.size + 1 < w1.heap.size:=(by omega); have zw12:w.heap.size + 1 + 1 < w1.heap.size:=(by omega); have zw13:w.heap.size + 1 + 1 + 1 < w1.heap.size:=(by omega); have zw14:w.heap.size + 1 + 1 + 1 + 1 < w1.heap.size:=(by omega)) | (go_at_call 239; refine (isPlain_ty ty _ (g.ext exL)).mono ?_; rw [hP]; rintro r w2 ⟨rfl,x2⟩; have y2:=x2.facts; have z0:=x2.size; try simp at z0; have zw20:w.heap.size < w2.heap.size:=(by omega); have zw21:w.heap.size + 1 < w2.heap.size:=(by omega); have zw22:w.heap.size + 1 + 1 < w2.heap.size:=(by omega); have zw23:w.heap.size + 1 + 1 + 1 < w2.heap.size:=(by omega); have zw24:w.heap.size + 1 + 1 + 1 + 1 < w2.heap.size:=(by omega)))
  all_goals
   exact bodyPost_ret (v:=.tuple #[.agg #[.bool (inB a (-2147483648) 2147483648),.bool (b == 0),.bool (pushS ty),.bool (emp nm)],.bool true]) (by rw [HPS.out]; simp [results,Tryz.results194,go_sem, *]) rfl ⟨shapeRet_some rfl,exL⟩
end Go.Proofs.YtknaemlnhediaaaGreatDoor.c
