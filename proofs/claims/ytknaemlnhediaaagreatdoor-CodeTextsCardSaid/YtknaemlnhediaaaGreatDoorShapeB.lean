/- Contract of code.shapeOf: the operations without a name. The table strings.asciiSpace holds what its text lays. -/
import Derived.Test.YtknaemlnhediaaaGreatDoorDataF
import Derived.Test.YtknaemlnhediaaaGreatDoorLib
import Derived.Deep.RegionHeld3
namespace Go.Proofs.YtknaemlnhediaaaGreatDoor.c
open Go.RowKit
set_option linter.unusedVariables false
set_option maxRecDepth 100000
set_option maxHeartbeats 1600000
set_option linter.unusedSimpArgs false

theorem isInt_ty (t:Ty) (w:World) (g:Laid w):Calls Tryz.prog 238 #[.agg #[.int .i64 t.base,.int .i64 t.bits,.string t.name,.bool t.opt,.bool t.err]] w fun r w'=>r=.returned (.bool (isIntS t))∧Ext w w':=isInt_any _ _ _ _ _ w g
theorem isPlain_ty (t:Ty) (w:World) (g:Laid w):Calls Tryz.prog 239 #[.agg #[.int .i64 t.base,.int .i64 t.bits,.string t.name,.bool t.opt,.bool t.err]] w fun r w'=>r=.returned (.bool (isPlainS t))∧Ext w w':=isPlain_any _ _ _ _ _ w g
theorem validate_ty (t:Ty) (w:World) (g:Laid w):Calls Tryz.prog 128 #[.agg #[.int .i64 t.base,.int .i64 t.bits,.string t.name,.bool t.opt,.bool t.err]] w fun r w'=>r=.returned (.int .i64 (if isTypeS t then 0 else 1))∧Ext w w':=validateType_any _ _ _ _ _ w g
theorem shapeS_none {l:List Fc} {f:Fc} {x:Cd} (h:x.op < 0 ∨ 19 < x.op):shapeS l f x=none:=by
 unfold shapeS
 rw [if_neg (by omega),if_neg (by omega),if_neg (by omega),if_neg (by omega),if_neg (by omega),if_neg (by omega),if_neg (by omega),if_neg (by omega),if_neg (by omega),if_neg (by omega)]
def ShapeRet (l:List Fc) (f:Fc) (x:Cd) (e:Ending):Prop :=
 match shapeS l f x with
 | some p=>e=.returned (.tuple #[.agg #[.bool p.1,.bool p.2.1,.bool p.2.2.1,.bool p.2.2.2],.bool true])
 | none=>∃ p q r s,e=.returned (.tuple #[.agg #[.bool p,.bool q,.bool r,.bool s],.bool false])
theorem shapeRet_some {l:List Fc} {f:Fc} {x:Cd} {p q r s:Bool} (h:shapeS l f x=some (p,q,r,s)):ShapeRet l f x (.returned (.tuple #[.agg #[.bool p,.bool q,.bool r,.bool s],.bool true])):=by
 unfold ShapeRet; rw [h]
theorem shapeRet_none {l:List Fc} {f:Fc} {x:Cd} {p q r s:Bool} (h:shapeS l f x=none):ShapeRet l f x (.returned (.tuple #[.agg #[.bool p,.bool q,.bool r,.bool s],.bool false])):=by
 unfold ShapeRet; rw [h]; exact ⟨p,q,r,s,rfl⟩

theorem shape_plain (l:List Fc) (A:Option Addr) (cap:Nat) (f:Fc) (op a b:Int) (ty:Ty) (nm:ByteArray) (w:World) (g:Laid w) (hA:FcAt w A l) (hl:l.length ≤ 9223372036854775807) (hfl:f.code.length ≤ 9223372036854775807) (hop:op=1 ∨ op=4 ∨ op=8 ∨ op=11 ∨ op=17) :
  Calls Tryz.prog 194 #[.slice A l.length cap,f.val,(Cd.mk op a b ty nm).val] w fun e w'=>ShapeRet l f ⟨op,a,b,ty,nm⟩ e∧Ext w w':=by
 unfold Fc.val Cd.val
 simp only []
 have HA:=Lib.hid hA
 have HOP:=Lib.hid hop
 clear hA hop
 have hq:=run_tz_eql ty
 go_enter Tryz.func194,Tryz.ntmps194
 go_wp2_with fail
 go_region
 have hem:nm.toList.isEmpty=emp nm:=rfl
 have hop:=HOP.out
 clear HOP
 rcases hop with rfl | rfl | rfl | rfl | rfl
 all_goals
  go_wp2_with fail
  exact bodyPost_ret (v:=.tuple #[.agg #[.bool (a == 0),.bool (b == 0),.bool (tz ty),.bool (emp nm)],.bool true]) (by simp [results,Tryz.results194,go_sem, *]) rfl ⟨shapeRet_some rfl,exA⟩

theorem shape_none (l:List Fc) (A:Option Addr) (cap:Nat) (f:Fc) (op a b:Int) (ty:Ty) (nm:ByteArray) (w:World) (g:Laid w) (hA:FcAt w A l) (hl:l.length ≤ 9223372036854775807) (hfl:f.code.length ≤ 9223372036854775807) (hop:op < 0 ∨ 19 < op) :
  Calls Tryz.prog 194 #[.slice A l.length cap,f.val,(Cd.mk op a b ty nm).val] w fun e w'=>ShapeRet l f ⟨op,a,b,ty,nm⟩ e∧Ext w w':=by
 unfold Fc.val Cd.val
 simp only []
 have HA:=Lib.hid hA
 have HOP:=Lib.hid hop
 clear hA hop
 have hq:=run_tz_eql ty
 go_enter Tryz.func194,Tryz.ntmps194
 go_wp2_with fail
 go_region
 have hem:nm.toList.isEmpty=emp nm:=rfl
 have hop:=HOP.out
 clear HOP
 go_wp2_with fail
 all_goals first | (exfalso; omega) | skip
 go_ways
 exact bodyPost_ret (v:=.tuple #[.agg #[.bool (a == 0),.bool (b == 0),.bool (tz ty),.bool (emp nm)],.bool false]) (by simp [results,Tryz.results194,go_sem, *]) rfl ⟨shapeRet_none (shapeS_none hop),exA⟩

theorem shape_num (l:List Fc) (A:Option Addr) (cap:Nat) (f:Fc) (op a b:Int) (ty:Ty) (nm:ByteArray) (w:World) (g:Laid w) (hA:FcAt w A l) (hl:l.length ≤ 9223372036854775807) (hfl:f.code.length ≤ 9223372036854775807) (hop:op=2 ∨ op=3 ∨ op=6 ∨ op=12 ∨ op=13 ∨ op=14 ∨ op=15 ∨ op=19) :
  Calls Tryz.prog 194 #[.slice A l.length cap,f.val,(Cd.mk op a b ty nm).val] w fun e w'=>ShapeRet l f ⟨op,a,b,ty,nm⟩ e∧Ext w w':=by
 unfold Fc.val Cd.val
 simp only []
 have HA:=Lib.hid hA
 have HOP:=Lib.hid hop
 clear hA hop
 have hq:=run_tz_eql ty
 go_enter Tryz.func194,Tryz.ntmps194
 go_wp2_with fail
 go_region
 have hem:nm.toList.isEmpty=emp nm:=rfl
 have hop:=HOP.out
 clear HOP
 rcases hop with rfl | rfl | rfl | rfl | rfl | rfl | rfl | rfl
 ·go_wp2_with (first | (go_at_call 191; refine (within_any _ _ _ _).mono ?_; rintro r w' ⟨rfl,rfl⟩))
  exact bodyPost_ret (v:=.tuple #[.agg #[.bool (inB a 0 (wrap64 (f.places - 1))),.bool (b == 0),.bool (tz ty),.bool (emp nm)],.bool true]) (by simp [results,Tryz.results194,go_sem, *]) rfl ⟨shapeRet_some rfl,exA⟩
 ·go_wp2_with (first | (go_at_call 191; refine (within_any _ _ _ _).mono ?_; rintro r w' ⟨rfl,rfl⟩))
  exact bodyPost_ret (v:=.tuple #[.agg #[.bool (inB a 0 (wrap64 (f.places - 1))),.bool (b == 0),.bool (tz ty),.bool (emp nm)],.bool true]) (by simp [results,Tryz.results194,go_sem, *]) rfl ⟨shapeRet_some rfl,exA⟩
 ·go_wp2_with (first | (go_at_call 191; refine (within_any _ _ _ _).mono ?_; rintro r w' ⟨rfl,rfl⟩))
  exact bodyPost_ret (v:=.tuple #[.agg #[.bool (inB a 18 23),.bool (b == 0),.bool (tz ty),.bool (emp nm)],.bool true]) (by simp [results,Tryz.results194,go_sem, *]) rfl ⟨shapeRet_some rfl,exA⟩
 ·go_wp2_with (first | (go_at_call 191; refine (within_any _ _ _ _).mono ?_; rintro r w' ⟨rfl,rfl⟩))
  exact bodyPost_ret (v:=.tuple #[.agg #[.bool (inB a 0 ((f.code.length:Int) - 1)),.bool (b == 0),.bool (tz ty),.bool (emp nm)],.bool true]) (by simp [results,Tryz.results194,go_sem, *]) rfl ⟨shapeRet_some rfl,exA⟩
 ·go_wp2_with (first | (go_at_call 191; refine (within_any _ _ _ _).mono ?_; rintro r w' ⟨rfl,rfl⟩))
  exact bodyPost_ret (v:=.tuple #[.agg #[.bool (inB a 0 ((f.code.length:Int) - 1)),.bool (b == 0),.bool (tz ty),.bool (emp nm)],.bool true]) (by simp [results,Tryz.results194,go_sem, *]) rfl ⟨shapeRet_some rfl,exA⟩
 ·go_wp2_with (first | (go_at_call 191; refine (within_any _ _ _ _).mono ?_; rintro r w' ⟨rfl,rfl⟩))
  exact bodyPost_ret (v:=.tuple #[.agg #[.bool (inB a 0 ((f.code.length:Int) - 1)),.bool (b == 0),.bool (tz ty),.bool (emp nm)],.bool true]) (by simp [results,Tryz.results194,go_sem, *]) rfl ⟨shapeRet_some rfl,exA⟩
 ·go_wp2_with (first | (go_at_call 191; refine (within_any _ _ _ _).mono ?_; rintro r w' ⟨rfl,rfl⟩))
  exact bodyPost_ret (v:=.tuple #[.agg #[.bool (inB a 0 ((f.code.length:Int) - 1)),.bool (b == 0),.bool (tz ty),.bool (emp nm)],.bool true]) (by simp [results,Tryz.results194,go_sem, *]) rfl ⟨shapeRet_some rfl,exA⟩
 ·go_wp2_with (first | (go_at_call 191; refine (within_any _ _ _ _).mono ?_; rintro r w' ⟨rfl,rfl⟩))
  exact bodyPost_ret (v:=.tuple #[.agg #[.bool (inB a 1 5),.bool (b == 0),.bool (tz ty),.bool (emp nm)],.bool true]) (by simp [results,Tryz.results194,go_sem, *]) rfl ⟨shapeRet_some rfl,exA⟩
end Go.Proofs.YtknaemlnhediaaaGreatDoor.c
