/- Contract of code.shapeOf: the operations without a name. The table strings.asciiSpace holds what its text lays. Contract of code.shapeOf: COp and CCall. The table strings.asciiSpace holds what its text lays. Contract of code.shapeOf: the operations with a type, and the error's. The table strings.asciiSpace holds what its text lays. Contract of code.shapeOf for every instruction, and of isFunc's closure. The table strings.asciiSpace holds what its text lays. -/
import Derived.Test.YtcoookehfhhhdaaGreatDoorDataF
import Derived.Test.YtcoookehfhhhdaaGreatDoorLib
import Derived.Deep.RegionHeld3
namespace Go.Proofs.YtcoookehfhhhdaaGreatDoor.c
open Go.RowKit
set_option linter.unusedVariables false
set_option maxRecDepth 100000
set_option maxHeartbeats 1600000
set_option linter.unusedSimpArgs false

theorem isInt_ty (t:Ty) (w:World) (g:Laid w):Calls Tryz.prog 168 #[.agg #[.int .i64 t.base,.int .i64 t.bits,.string t.name,.bool t.opt,.bool t.err]] w fun r w'=>r=.returned (.bool (isIntS t))∧Ext w w':=isInt_any _ _ _ _ _ w g
theorem isPlain_ty (t:Ty) (w:World) (g:Laid w):Calls Tryz.prog 169 #[.agg #[.int .i64 t.base,.int .i64 t.bits,.string t.name,.bool t.opt,.bool t.err]] w fun r w'=>r=.returned (.bool (isPlainS t))∧Ext w w':=isPlain_any _ _ _ _ _ w g
theorem validate_ty (t:Ty) (w:World) (g:Laid w):Calls Tryz.prog 96 #[.agg #[.int .i64 t.base,.int .i64 t.bits,.string t.name,.bool t.opt,.bool t.err]] w fun r w'=>r=.returned (.int .i64 (if isTypeS t then 0 else 1))∧Ext w w':=validateType_any _ _ _ _ _ w g
theorem shapeS_none {l:List Fc} {f:Fc} {x:Cd} (h:x.op < 0 ∨ 19 < x.op):shapeS l f x=none:=by
 unfold shapeS
 rw [if_neg (by omega),if_neg (by omega),if_neg (by omega),if_neg (by omega),if_neg (by omega),if_neg (by omega),if_neg (by omega),if_neg (by omega),if_neg (by omega),if_neg (by omega)]
def ShapeRet (l:List Fc) (f:Fc) (x:Cd) (e:Ending):Prop :=
 match shapeS l f x with
 | some p=>e=.returned (.tuple #[.agg #[.bool p.1,.bool p.2.1,.bool p.2.2.1,.bool p.2.2.2],.bool true])
 | none=>∃ p q r s,e=.returned (.tuple #[.agg #[.bool p,.bool q,.bool r,.bool s],.bool false])
theorem shapeRet_some {l:List Fc} {f:Fc} {x:Cd} {p q r s:Bool} (h:shapeS l f x=some (p,q,r,s)):ShapeRet l f x (.returned (.tuple #[.agg #[.bool p,.bool q,.bool r,.bool s],.bool true])):=by
 unfold ShapeRet; rw [h]
theorem shapeRet_none {l:List Fc} {f:Fc} {x:Cd} {p q r s:Bool} (h:shapeS l f x=none):ShapeRet l f x (.returned (.tuple #[.agg #[.bool p,.bool q,.bool r,.bool s],.bool false])):=by
 unfold ShapeRet; rw [h]; exact ⟨p,q,r,s,rfl⟩

theorem shape_plain (l:List Fc) (A:Option Addr) (cap:Nat) (f:Fc) (op a b:Int) (ty:Ty) (nm:ByteArray) (w:World) (g:Laid w) (hA:FcAt w A l) (hl:l.length ≤ 9223372036854775807) (hfl:f.code.length ≤ 9223372036854775807) (hop:op=1 ∨ op=4 ∨ op=8 ∨ op=11 ∨ op=17) :
  Calls Tryz.prog 128 #[.slice A l.length cap,f.val,(Cd.mk op a b ty nm).val] w fun e w'=>ShapeRet l f ⟨op,a,b,ty,nm⟩ e∧Ext w w':=by
 unfold Fc.val Cd.val
 simp only []
 have HA:=Lib.hid hA
 have HOP:=Lib.hid hop
 clear hA hop
 have hq:=run_tz_eql ty
 go_enter Tryz.func128,Tryz.ntmps128
 go_wp2_with fail
 go_region
 have hem:nm.toList.isEmpty=emp nm:=rfl
 have hop:=HOP.out
 clear HOP
 rcases hop with rfl | rfl | rfl | rfl | rfl
 all_goals
  go_wp2_with fail
  exact bodyPost_ret (v:=.tuple #[.agg #[.bool (a == 0),.bool (b == 0),.bool (tz ty),.bool (emp nm)],.bool true]) (by simp [results,Tryz.results128,go_sem, *]) rfl ⟨shapeRet_some rfl,exA⟩

theorem shape_none (l:List Fc) (A:Option Addr) (cap:Nat) (f:Fc) (op a b:Int) (ty:Ty) (nm:ByteArray) (w:World) (g:Laid w) (hA:FcAt w A l) (hl:l.length ≤ 9223372036854775807) (hfl:f.code.length ≤ 9223372036854775807) (hop:op < 0 ∨ 19 < op) :
  Calls Tryz.prog 128 #[.slice A l.length cap,f.val,(Cd.mk op a b ty nm).val] w fun e w'=>ShapeRet l f ⟨op,a,b,ty,nm⟩ e∧Ext w w':=by
 unfold Fc.val Cd.val
 simp only []
 have HA:=Lib.hid hA
 have HOP:=Lib.hid hop
 clear hA hop
 have hq:=run_tz_eql ty
 go_enter Tryz.func128,Tryz.ntmps128
 go_wp2_with fail
 go_region
 have hem:nm.toList.isEmpty=emp nm:=rfl
 have hop:=HOP.out
 clear HOP
 go_wp2_with fail
 all_goals first | (exfalso; omega) | skip
 go_ways
 exact bodyPost_ret (v:=.tuple #[.agg #[.bool (a == 0),.bool (b == 0),.bool (tz ty),.bool (emp nm)],.bool false]) (by simp [results,Tryz.results128,go_sem, *]) rfl ⟨shapeRet_none (shapeS_none hop),exA⟩

theorem shape_num (l:List Fc) (A:Option Addr) (cap:Nat) (f:Fc) (op a b:Int) (ty:Ty) (nm:ByteArray) (w:World) (g:Laid w) (hA:FcAt w A l) (hl:l.length ≤ 9223372036854775807) (hfl:f.code.length ≤ 9223372036854775807) (hop:op=2 ∨ op=3 ∨ op=6 ∨ op=12 ∨ op=13 ∨ op=14 ∨ op=15 ∨ op=19) :
  Calls Tryz.prog 128 #[.slice A l.length cap,f.val,(Cd.mk op a b ty nm).val] w fun e w'=>ShapeRet l f ⟨op,a,b,ty,nm⟩ e∧Ext w w':=by
 unfold Fc.val Cd.val
 simp only []
 have HA:=Lib.hid hA
 have HOP:=Lib.hid hop
 clear hA hop
 have hq:=run_tz_eql ty
 go_enter Tryz.func128,Tryz.ntmps128
 go_wp2_with fail
 go_region
 have hem:nm.toList.isEmpty=emp nm:=rfl
 have hop:=HOP.out
 clear HOP
 rcases hop with rfl | rfl | rfl | rfl | rfl | rfl | rfl | rfl
 ·go_wp2_with (first | (go_at_call 125; refine (within_any _ _ _ _).mono ?_; rintro r w' ⟨rfl,rfl⟩))
  exact bodyPost_ret (v:=.tuple #[.agg #[.bool (inB a 0 (wrap64 (f.places - 1))),.bool (b == 0),.bool (tz ty),.bool (emp nm)],.bool true]) (by simp [results,Tryz.results128,go_sem, *]) rfl ⟨shapeRet_some rfl,exA⟩
 ·go_wp2_with (first | (go_at_call 125; refine (within_any _ _ _ _).mono ?_; rintro r w' ⟨rfl,rfl⟩))
  exact bodyPost_ret (v:=.tuple #[.agg #[.bool (inB a 0 (wrap64 (f.places - 1))),.bool (b == 0),.bool (tz ty),.bool (emp nm)],.bool true]) (by simp [results,Tryz.results128,go_sem, *]) rfl ⟨shapeRet_some rfl,exA⟩
 ·go_wp2_with (first | (go_at_call 125; refine (within_any _ _ _ _).mono ?_; rintro r w' ⟨rfl,rfl⟩))
  exact bodyPost_ret (v:=.tuple #[.agg #[.bool (inB a 18 23),.bool (b == 0),.bool (tz ty),.bool (emp nm)],.bool true]) (by simp [results,Tryz.results128,go_sem, *]) rfl ⟨shapeRet_some rfl,exA⟩
 ·go_wp2_with (first | (go_at_call 125; refine (within_any _ _ _ _).mono ?_; rintro r w' ⟨rfl,rfl⟩))
  exact bodyPost_ret (v:=.tuple #[.agg #[.bool (inB a 0 ((f.code.length:Int) - 1)),.bool (b == 0),.bool (tz ty),.bool (emp nm)],.bool true]) (by simp [results,Tryz.results128,go_sem, *]) rfl ⟨shapeRet_some rfl,exA⟩
 ·go_wp2_with (first | (go_at_call 125; refine (within_any _ _ _ _).mono ?_; rintro r w' ⟨rfl,rfl⟩))
  exact bodyPost_ret (v:=.tuple #[.agg #[.bool (inB a 0 ((f.code.length:Int) - 1)),.bool (b == 0),.bool (tz ty),.bool (emp nm)],.bool true]) (by simp [results,Tryz.results128,go_sem, *]) rfl ⟨shapeRet_some rfl,exA⟩
 ·go_wp2_with (first | (go_at_call 125; refine (within_any _ _ _ _).mono ?_; rintro r w' ⟨rfl,rfl⟩))
  exact bodyPost_ret (v:=.tuple #[.agg #[.bool (inB a 0 ((f.code.length:Int) - 1)),.bool (b == 0),.bool (tz ty),.bool (emp nm)],.bool true]) (by simp [results,Tryz.results128,go_sem, *]) rfl ⟨shapeRet_some rfl,exA⟩
 ·go_wp2_with (first | (go_at_call 125; refine (within_any _ _ _ _).mono ?_; rintro r w' ⟨rfl,rfl⟩))
  exact bodyPost_ret (v:=.tuple #[.agg #[.bool (inB a 0 ((f.code.length:Int) - 1)),.bool (b == 0),.bool (tz ty),.bool (emp nm)],.bool true]) (by simp [results,Tryz.results128,go_sem, *]) rfl ⟨shapeRet_some rfl,exA⟩
 ·go_wp2_with (first | (go_at_call 125; refine (within_any _ _ _ _).mono ?_; rintro r w' ⟨rfl,rfl⟩))
  exact bodyPost_ret (v:=.tuple #[.agg #[.bool (inB a 1 5),.bool (b == 0),.bool (tz ty),.bool (emp nm)],.bool true]) (by simp [results,Tryz.results128,go_sem, *]) rfl ⟨shapeRet_some rfl,exA⟩
theorem shape_op (l:List Fc) (A:Option Addr) (cap:Nat) (f:Fc) (op a b:Int) (ty:Ty) (nm:ByteArray) (w:World) (g:Laid w) (hA:FcAt w A l) (hl:l.length ≤ 9223372036854775807) (hfl:f.code.length ≤ 9223372036854775807) (hop:op=5) :
  Calls Tryz.prog 128 #[.slice A l.length cap,f.val,(Cd.mk op a b ty nm).val] w fun e w'=>ShapeRet l f ⟨op,a,b,ty,nm⟩ e∧Ext w w':=by
 unfold Fc.val Cd.val
 simp only []
 have HA:=Lib.hid hA
 have HOP:=Lib.hid hop
 clear hA hop
 have hq:=run_tz_eql ty
 go_enter Tryz.func128,Tryz.ntmps128
 go_wp2_with fail
 go_region
 have hem:nm.toList.isEmpty=emp nm:=rfl
 have hop:=HOP.out
 clear HOP
 subst hop
 cases hI:isIntS ty
 all_goals
  go_wp2_with fail
  go_region_with (first | (go_at_call 125; refine (within_any _ _ _ _).mono ?_; rintro r w' ⟨rfl,rfl⟩) | (go_at_call 168; refine (isInt_ty ty _ (g.ext exL)).mono ?_; rw [hI]; rintro r w1 ⟨rfl,x1⟩; have y1:=x1.facts; have z0:=x1.size; try simp at z0; have zw10:w.heap.size < w1.heap.size:=(by omega); have zw11:w.heap.size + 1 < w1.heap.size:=(by omega); have zw12:w.heap.size + 1 + 1 < w1.heap.size:=(by omega); have zw13:w.heap.size + 1 + 1 + 1 < w1.heap.size:=(by omega); have zw14:w.heap.size + 1 + 1 + 1 + 1 < w1.heap.size:=(by omega)))
  all_goals go_wp2_with fail
  all_goals
   exact bodyPost_ret (v:=.tuple #[.agg #[.bool (inB a 5 17),.bool (b == 0),.bool (isIntS ty),.bool (emp nm)],.bool true]) (by rw [hI]; simp [results,Tryz.results128,go_sem, *]) rfl ⟨shapeRet_some rfl,exL⟩

theorem shape_call (l:List Fc) (A:Option Addr) (cap:Nat) (f:Fc) (op a b:Int) (ty:Ty) (nm:ByteArray) (w:World) (g:Laid w) (hA:FcAt w A l) (hl:l.length ≤ 9223372036854775807) (hfl:f.code.length ≤ 9223372036854775807) (hop:op=16) :
  Calls Tryz.prog 128 #[.slice A l.length cap,f.val,(Cd.mk op a b ty nm).val] w fun e w'=>ShapeRet l f ⟨op,a,b,ty,nm⟩ e∧Ext w w':=by
 unfold Fc.val Cd.val
 simp only []
 have HA:=Lib.hid hA
 have HOP:=Lib.hid hop
 clear hA hop
 have hq:=run_tz_eql ty
 go_enter Tryz.func128,Tryz.ntmps128
 go_wp2_with fail
 go_region
 have hem:nm.toList.isEmpty=emp nm:=rfl
 have hop:=HOP.out
 clear HOP
 subst hop
 rcases findI_cases (fun k=>(l.getD k default).name.toList == nm.toList) l.length with ⟨hi,_⟩ | ⟨k,hi,hk,_,_⟩
 case inl =>
  have HI:Hid (indexS l nm=-1):=hi
  clear hi
  go_wp2_with (first | (go_at_call 25; refine (index_any A cap l nm _ (HA.out.ext exL) hl).mono ?_; rw [HI.out]; rintro r w1 ⟨rfl,x1⟩; have y1:=x1.facts; have z0:=x1.size; try simp at z0; have zw10:w.heap.size < w1.heap.size:=(by omega); have zw11:w.heap.size + 1 < w1.heap.size:=(by omega); have zw12:w.heap.size + 1 + 1 < w1.heap.size:=(by omega); have zw13:w.heap.size + 1 + 1 + 1 < w1.heap.size:=(by omega); have zw14:w.heap.size + 1 + 1 + 1 + 1 < w1.heap.size:=(by omega)))
  go_region
  go_wp2_with fail
  have hsh:shapeS l f ⟨16,a,b,ty,nm⟩=some (a == 0,false,tz ty,false):=by
   show some (a == 0,decide (0 ≤ indexS l nm) && b == (l.getD (indexS l nm).toNat default).params,tz ty,decide (0 ≤ indexS l nm))=_
   rw [HI.out]; rfl
  exact bodyPost_ret (v:=.tuple #[.agg #[.bool (a == 0),.bool false,.bool (tz ty),.bool false],.bool true]) (by simp [results,Tryz.results128,go_sem, *]) rfl ⟨shapeRet_some hsh,exL⟩
 case inr =>
  have HI:Hid (indexS l nm=(k:Int)):=hi
  clear hi
  obtain ⟨f2,hf2⟩:∃ f2,f2=l.getD k default:=⟨_,rfl⟩
  have HF:=Lib.hid hf2
  have hk0:0 ≤ (k:Int):=by omega
  have hk1:(k:Int) < (l.length:Int):=by omega
  go_wp2_with (first | (go_at_call 25; refine (index_any A cap l nm _ (HA.out.ext exL) hl).mono ?_; rw [HI.out]; rintro r w1 ⟨rfl,x1⟩; have y1:=x1.facts; have z0:=x1.size; try simp at z0; have zw10:w.heap.size < w1.heap.size:=(by omega); have zw11:w.heap.size + 1 < w1.heap.size:=(by omega); have zw12:w.heap.size + 1 + 1 < w1.heap.size:=(by omega); have zw13:w.heap.size + 1 + 1 + 1 < w1.heap.size:=(by omega); have zw14:w.heap.size + 1 + 1 + 1 + 1 < w1.heap.size:=(by omega); obtain ⟨ba,off,rfl,hba,_,c1,_⟩:=(HA.out.ext (exL:Ext w w1)).at_ hk HF.out; have k1:w1.cell? ⟨w.heap.size + 1,2,none⟩=some (.int .i64 b):=(by rw [y1.1 _ _ (by simp)]; go_simp); have k3:w1.cell? ⟨w.heap.size + 1 + 1 + 1 + 1,1,none⟩=some (.bool (b == 0)):=(by rw [y1.1 _ _ (by simp)]; go_simp); have k4:w1.cell? ⟨w.heap.size + 1 + 1 + 1 + 1,3,none⟩=some (.bool (emp nm)):=(by rw [y1.1 _ _ (by simp)]; go_simp); have q3:w1.frozen? ⟨w.heap.size + 1 + 1 + 1 + 1,1,none⟩=false:=(by rw [y1.2.1 _ _ (by simp)]; go_simp); have q4:w1.frozen? ⟨w.heap.size + 1 + 1 + 1 + 1,3,none⟩=false:=(by rw [y1.2.1 _ _ (by simp)]; go_simp)))
  have Y1:=Lib.hid y1
  have X1:=Lib.hid x1
  have hbaw:ba < w.heap.size:=(HA.out.top (by omega)).elim fun b2 h2=>h2.elim fun o2 h3=>(by have h4:=h3.1; injection h4 with h4; injection h4 with h5 h6; rw [h5]; exact h3.2.1)
  have hne1:¬ ba=w.heap.size + 1 + 1 + 1 + 1:=by omega
  have hne2:¬ ba=w.heap.size + 1:=by omega
  clear y1 x1 hf2 hba hq
  go_region_held3 (fun w'=>w'.cell? ⟨w.heap.size + 1,2,none⟩=some (.int .i64 b)∧w'.cell? ⟨ba,off + k * 9 + 1,none⟩=some (.int .i64 f2.params)) ((first | (go_keep; done) | (refine ⟨?_,?_⟩ <;> (repeat (first | assumption | (refine kd ?_) | (refine ks (by first | (simp; done) | (simp; omega)) ?_)))))) (fail)
  have y1:=Y1.out
  have x1:=X1.out
  go_wp2_with fail
  go_ways
  have hsh:shapeS l f ⟨16,a,b,ty,nm⟩=some (a == 0,b == f2.params,tz ty,true):=by
   show some (a == 0,decide (0 ≤ indexS l nm) && b == (l.getD (indexS l nm).toNat default).params,tz ty,decide (0 ≤ indexS l nm))=_
   rw [HI.out,decide_eq_true hk0,Int.toNat_natCast,← HF.out]; rfl
  exact bodyPost_ret (v:=.tuple #[.agg #[.bool (a == 0),.bool (b == f2.params),.bool (tz ty),.bool true],.bool true]) (by simp [results,Tryz.results128,go_sem, *]) rfl ⟨shapeRet_some hsh,exL⟩
theorem shape_kind (l:List Fc) (A:Option Addr) (cap:Nat) (f:Fc) (op a b:Int) (ty:Ty) (nm:ByteArray) (w:World) (g:Laid w) (hA:FcAt w A l) (hl:l.length ≤ 9223372036854775807) (hfl:f.code.length ≤ 9223372036854775807) (hop:op=7 ∨ op=9 ∨ op=10) :
  Calls Tryz.prog 128 #[.slice A l.length cap,f.val,(Cd.mk op a b ty nm).val] w fun e w'=>ShapeRet l f ⟨op,a,b,ty,nm⟩ e∧Ext w w':=by
 unfold Fc.val Cd.val
 simp only []
 have HA:=Lib.hid hA
 have HOP:=Lib.hid hop
 clear hA hop
 have hq:=run_tz_eql ty
 go_enter Tryz.func128,Tryz.ntmps128
 go_wp2_with fail
 go_region
 have hem:nm.toList.isEmpty=emp nm:=rfl
 have hop:=HOP.out
 clear HOP
 rcases hop with rfl | rfl | rfl
 all_goals
  cases hI:isIntS ty
  all_goals
   go_wp2_with (first | (go_at_call 168; refine (isInt_ty ty _ (g.ext exL)).mono ?_; rw [hI]; rintro r w1 ⟨rfl,x1⟩; have y1:=x1.facts; have z0:=x1.size; try simp at z0; have zw10:w.heap.size < w1.heap.size:=(by omega); have zw11:w.heap.size + 1 < w1.heap.size:=(by omega); have zw12:w.heap.size + 1 + 1 < w1.heap.size:=(by omega); have zw13:w.heap.size + 1 + 1 + 1 < w1.heap.size:=(by omega); have zw14:w.heap.size + 1 + 1 + 1 + 1 < w1.heap.size:=(by omega)))
   exact bodyPost_ret (v:=.tuple #[.agg #[.bool (a == 0),.bool (b == 0),.bool (isIntS ty),.bool (emp nm)],.bool true]) (by simp [results,Tryz.results128,go_sem, *]) rfl ⟨shapeRet_some rfl,exL⟩

theorem shape_error (l:List Fc) (A:Option Addr) (cap:Nat) (f:Fc) (op a b:Int) (ty:Ty) (nm:ByteArray) (w:World) (g:Laid w) (hA:FcAt w A l) (hl:l.length ≤ 9223372036854775807) (hfl:f.code.length ≤ 9223372036854775807) (hop:op=18) :
  Calls Tryz.prog 128 #[.slice A l.length cap,f.val,(Cd.mk op a b ty nm).val] w fun e w'=>ShapeRet l f ⟨op,a,b,ty,nm⟩ e∧Ext w w':=by
 unfold Fc.val Cd.val
 simp only []
 have HA:=Lib.hid hA
 have HOP:=Lib.hid hop
 clear hA hop
 have hq:=run_tz_eql ty
 go_enter Tryz.func128,Tryz.ntmps128
 go_wp2_with fail
 go_region
 have hem:nm.toList.isEmpty=emp nm:=rfl
 have hop:=HOP.out
 clear HOP
 subst hop
 go_wp2_with (first | (go_at_call 95; refine (isName_any nm _ (g.ext exL)).mono ?_; rintro r w1 ⟨rfl,x1⟩; have y1:=x1.facts; have z0:=x1.size; try simp at z0; have zw10:w.heap.size < w1.heap.size:=(by omega); have zw11:w.heap.size + 1 < w1.heap.size:=(by omega); have zw12:w.heap.size + 1 + 1 < w1.heap.size:=(by omega); have zw13:w.heap.size + 1 + 1 + 1 < w1.heap.size:=(by omega); have zw14:w.heap.size + 1 + 1 + 1 + 1 < w1.heap.size:=(by omega)))
 exact bodyPost_ret (v:=.tuple #[.agg #[.bool (a == 0),.bool (b == 0),.bool (tz ty),.bool (isNameS nm)],.bool true]) (by simp [results,Tryz.results128,go_sem, *]) rfl ⟨shapeRet_some rfl,exL⟩

theorem shape_push (l:List Fc) (A:Option Addr) (cap:Nat) (f:Fc) (op a b:Int) (ty:Ty) (nm:ByteArray) (w:World) (g:Laid w) (hA:FcAt w A l) (hl:l.length ≤ 9223372036854775807) (hfl:f.code.length ≤ 9223372036854775807) (hop:op=0) :
  Calls Tryz.prog 128 #[.slice A l.length cap,f.val,(Cd.mk op a b ty nm).val] w fun e w'=>ShapeRet l f ⟨op,a,b,ty,nm⟩ e∧Ext w w':=by
 unfold Fc.val Cd.val
 simp only []
 have HA:=Lib.hid hA
 have HOP:=Lib.hid hop
 clear hA hop
 have hq:=run_tz_eql ty
 go_enter Tryz.func128,Tryz.ntmps128
 go_wp2_with fail
 go_region
 have hem:nm.toList.isEmpty=emp nm:=rfl
 have hop:=HOP.out
 clear HOP
 subst hop
 cases hI:isIntS ty <;> cases hP:isPlainS ty
 all_goals
  have HPS:=Lib.hid (show pushS ty=(isIntS ty || (isPlainS ty && decide (ty.base ≤ 1))) from rfl)
  rw [hI,hP] at HPS
  go_wp2_with (first | (go_at_call 125; refine (within_any _ _ _ _).mono ?_; rintro r w' ⟨rfl,rfl⟩) | (go_at_call 168; refine (isInt_ty ty _ (g.ext exL)).mono ?_; rw [hI]; rintro r w1 ⟨rfl,x1⟩; have y1:=x1.facts; have z0:=x1.size; try simp at z0; have zw10:w.heap.size < w1.heap.size:=(by omega); have zw11:w.heap.size + 1 < w1.heap.size:=(by omega); have zw12:w.heap.size + 1 + 1 < w1.heap.size:=(by omega); have zw13:w.heap.size + 1 + 1 + 1 < w1.heap.size:=(by omega); have zw14:w.heap.size + 1 + 1 + 1 + 1 < w1.heap.size:=(by omega)) | (go_at_call 169; refine (isPlain_ty ty _ (g.ext exL)).mono ?_; rw [hP]; rintro r w2 ⟨rfl,x2⟩; have y2:=x2.facts; have z0:=x2.size; try simp at z0; have zw20:w.heap.size < w2.heap.size:=(by omega); have zw21:w.heap.size + 1 < w2.heap.size:=(by omega); have zw22:w.heap.size + 1 + 1 < w2.heap.size:=(by omega); have zw23:w.heap.size + 1 + 1 + 1 < w2.heap.size:=(by omega); have zw24:w.heap.size + 1 + 1 + 1 + 1 < w2.heap.size:=(by omega)))
  all_goals
   exact bodyPost_ret (v:=.tuple #[.agg #[.bool (inB a (-2147483648) 2147483648),.bool (b == 0),.bool (pushS ty),.bool (emp nm)],.bool true]) (by rw [HPS.out]; simp [results,Tryz.results128,go_sem, *]) rfl ⟨shapeRet_some rfl,exL⟩

theorem shapeOf_any (l:List Fc) (A:Option Addr) (cap:Nat) (f:Fc) (x:Cd) (w:World) (g:Laid w) (hA:FcAt w A l) (hl:l.length ≤ 9223372036854775807) (hfl:f.code.length ≤ 9223372036854775807) :
  Calls Tryz.prog 128 #[.slice A l.length cap,f.val,x.val] w fun e w'=>ShapeRet l f x e∧Ext w w':=by
 obtain ⟨op,a,b,ty,nm⟩:=x
 have h:(op=1 ∨ op=4 ∨ op=8 ∨ op=11 ∨ op=17) ∨ (op=2 ∨ op=3 ∨ op=6 ∨ op=12 ∨ op=13 ∨ op=14 ∨ op=15 ∨ op=19) ∨ (op=7 ∨ op=9 ∨ op=10) ∨ op=18 ∨ op=5 ∨ op=0 ∨ op=16 ∨ (op < 0 ∨ 19 < op):=by omega
 rcases h with h | h | h | h | h | h | h | h
 ·exact shape_plain l A cap f op a b ty nm w g hA hl hfl h
 ·exact shape_num l A cap f op a b ty nm w g hA hl hfl h
 ·exact shape_kind l A cap f op a b ty nm w g hA hl hfl h
 ·exact shape_error l A cap f op a b ty nm w g hA hl hfl h
 ·exact shape_op l A cap f op a b ty nm w g hA hl hfl h
 ·exact shape_push l A cap f op a b ty nm w g hA hl hfl h
 ·exact shape_call l A cap f op a b ty nm w g hA hl hfl h
 ·exact shape_none l A cap f op a b ty nm w g hA hl hfl h
theorem shapeOf_ok (l:List Fc) (A:Option Addr) (cap:Nat) (f:Fc) (x:Cd) (w:World) (g:Laid w) (hA:FcAt w A l) (hl:l.length ≤ 9223372036854775807) (hfl:f.code.length ≤ 9223372036854775807) :
  Calls Tryz.prog 128 #[.slice A l.length cap,.agg #[.string f.name,.int .i64 f.params,.int .i64 f.places,.int .i64 f.ty.base,.int .i64 f.ty.bits,.string f.ty.name,.bool f.ty.opt,.bool f.ty.err,.slice f.A f.code.length f.cap],.agg #[.int .i64 x.op,.int .i64 x.a,.int .i64 x.b,.int .i64 x.ty.base,.int .i64 x.ty.bits,.string x.ty.name,.bool x.ty.opt,.bool x.ty.err,.string x.name]] w fun e w' =>
   ∃ p q r s k,e=.returned (.tuple #[.agg #[.bool p,.bool q,.bool r,.bool s],.bool k])∧instS l f x=(k && (p && (q && (r && s))))∧Ext w w':=by
 refine (shapeOf_any l A cap f x w g hA hl hfl).mono ?_
 rintro e w' ⟨h,hx⟩
 unfold ShapeRet at h
 unfold instS
 cases hs:shapeS l f x with
 | none =>
  rw [hs] at h
  obtain ⟨p,q,r,s,rfl⟩:=h
  exact ⟨p,q,r,s,false,rfl,rfl,hx⟩
 | some t =>
  rw [hs] at h
  obtain ⟨p,q,r,s⟩:=t
  exact ⟨p,q,r,s,true,h,rfl,hx⟩

theorem run_four (p q r s:Bool) (w:World):(binOp .neq 185 (.agg #[.bool p,.bool q,.bool r,.bool s]) (.agg #[.bool true,.bool true,.bool true,.bool true])).run Tryz.prog w=.ok (.bool (!(p && (q && (r && s))))) w:=by
 go_simp
 cases p <;> cases q <;> cases r <;> cases s <;> rfl

theorem enters_isFunc1:Enters 127 := Enters.of Tryz.func127 (by kernel_rfl) (by kernel_rfl)
structure FcBox (w:World) (g:Nat) (f:Fc):Prop where
 out:Blk w g 48 #[.string f.name,.int .i64 f.params,.int .i64 f.places,.int .i64 f.ty.base,.int .i64 f.ty.bits,.string f.ty.name,.bool f.ty.opt,.bool f.ty.err,.slice f.A f.code.length f.cap]
theorem FcBox.ext {w w':World} {g:Nat} {f:Fc} (h:FcBox w g f) (x:Ext w w'):FcBox w' g f:=⟨h.out.ext x⟩
theorem FcBox.cells {w:World} {g:Nat} {f:Fc} (h:FcBox w g f):w.cell? ⟨g,0,none⟩=some (.string f.name)∧w.cell? ⟨g,1,none⟩=some (.int .i64 f.params)∧w.cell? ⟨g,2,none⟩=some (.int .i64 f.places) ∧
  w.cell? ⟨g,3,none⟩=some (.int .i64 f.ty.base)∧w.cell? ⟨g,4,none⟩=some (.int .i64 f.ty.bits)∧w.cell? ⟨g,5,none⟩=some (.string f.ty.name)∧w.cell? ⟨g,6,none⟩=some (.bool f.ty.opt)∧w.cell? ⟨g,7,none⟩=some (.bool f.ty.err) ∧
  w.cell? ⟨g,8,none⟩=some (.slice f.A f.code.length f.cap) :=
 ⟨h.out.cell 0,h.out.cell 1,h.out.cell 2,h.out.cell 3,h.out.cell 4,h.out.cell 5,h.out.cell 6,h.out.cell 7,h.out.cell 8⟩

theorem isFunc1_any (l:List Fc) (A:Option Addr) (cap:Nat) (f:Fc) (x:Cd) (bl bf:Nat) (w:World) (g:Laid w) (hA:FcAt w A l) (hl:l.length ≤ 9223372036854775807) (hfl:f.code.length ≤ 9223372036854775807)
  (hcl:w.cell? ⟨bl,0,none⟩=some (.slice A l.length cap)) (hbl:bl < w.heap.size) (hf:FcBox w bf f) :
  Calls Tryz.prog 127 #[x.val,.pointer (some ⟨bl,0,none⟩),.pointer (some ⟨bf,0,none⟩)] w fun e w'=>e=.returned (.bool (!instS l f x))∧Ext w w':=by
 have hbf:=hf.out.lt
 obtain ⟨c0,c1,c2,c3,c4,c5,c6,c7,c8⟩:=hf.cells
 have HA:=Lib.hid hA
 clear hA hf
 unfold Cd.val
 go_enter Tryz.func127,Tryz.ntmps127
 go_wp2_with (first
  | (go_at_call 128; refine (shapeOf_ok l A cap f x _ (g.ext exL) (HA.out.ext exL) hl hfl).mono ?_; rintro e w1 ⟨p,q,r,s,k,rfl,hi,x1⟩; have HI:=Lib.hid hi; clear hi; have y1:=x1.facts; have z1:=x1.z0; have h4:=run_four p q r s))
 all_goals
  go_ret
  exact ⟨ret_bool (by rw [HI.out]; simp [*]),exL⟩
end Go.Proofs.YtcoookehfhhhdaaGreatDoor.c
