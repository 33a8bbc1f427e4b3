/- Contract of code.shapeOf: COp and CCall. The table strings.asciiSpace holds what its text lays. -/
import Derived.Test.YtknaemlnhediaaaGreatDoorShapeB
import Derived.Test.YtknaemlnhediaaaGreatDoorLib
import Derived.Deep.RegionHeld3
namespace Go.Proofs.YtknaemlnhediaaaGreatDoor.c
open Go.RowKit
set_option linter.unusedVariables false
set_option maxRecDepth 100000
set_option maxHeartbeats 1600000
set_option linter.unusedSimpArgs false
theorem shape_op (l:List Fc) (A:Option Addr) (cap:Nat) (f:Fc) (op a b:Int) (ty:Ty) (nm:ByteArray) (w:World) (g:Laid w) (hA:FcAt w A l) (hl:l.length ≤ 9223372036854775807) (hfl:f.code.length ≤ 9223372036854775807) (hop:op=5) :
  Calls Tryz.prog 194 #[.slice A l.length cap,f.val,(Cd.mk op a b ty nm).val] w fun e w'=>ShapeRet l f ⟨op,a,b,ty,nm⟩ e∧Ext w w':=by
 unfold Fc.val Cd.val
 simp only []
 have HA:=Lib.hid hA
 have HOP:=Lib.hid hop
 clear hA hop
 have hq:=run_tz_eql ty
 go_enter Tryz.func194,Tryz.ntmps194
 go_wp2_with fail
 go_region
 have hem:nm.toList.isEmpty=emp nm:=rfl
 have hop:=HOP.out
 clear HOP
 subst hop
 cases hI:isIntS ty
 all_goals
  go_wp2_with fail
  go_region_with (first | (go_at_call 191; refine (within_any _ _ _ _).mono ?_; rintro r w' ⟨rfl,rfl⟩) | (go_at_call 238; refine (isInt_ty ty _ (g.ext exL)).mono ?_; rw [hI]; rintro r w1 ⟨rfl,x1⟩; have y1:=x1.facts; have z0:=x1.size; try simp at z0; have zw10:w.heap.size < w1.heap.size:=(by omega); have zw11:w.heap.size + 1 < w1.heap.size:=(by omega); have zw12:w.heap.size + 1 + 1 < w1.heap.size:=(by omega); have zw13:w.heap.size + 1 + 1 + 1 < w1.heap.size:=(by omega); have zw14:w.heap.size + 1 + 1 + 1 + 1 < w1.heap.size:=(by omega)))
  all_goals go_wp2_with fail
  all_goals
   exact bodyPost_ret (v:=.tuple #[.agg #[.bool (inB a 5 17),.bool (b == 0),.bool (isIntS ty),.bool (emp nm)],.bool true]) (by rw [hI]; simp [results,Tryz.results194,go_sem, *]) rfl ⟨shapeRet_some rfl,exL⟩

theorem shape_call (l:List Fc) (A:Option Addr) (cap:Nat) (f:Fc) (op a b:Int) (ty:Ty) (nm:ByteArray) (w:World) (g:Laid w) (hA:FcAt w A l) (hl:l.length ≤ 9223372036854775807) (hfl:f.code.length ≤ 9223372036854775807) (hop:op=16) :
  Calls Tryz.prog 194 #[.slice A l.length cap,f.val,(Cd.mk op a b ty nm).val] w fun e w'=>ShapeRet l f ⟨op,a,b,ty,nm⟩ e∧Ext w w':=by
 unfold Fc.val Cd.val
 simp only []
 have HA:=Lib.hid hA
 have HOP:=Lib.hid hop
 clear hA hop
 have hq:=run_tz_eql ty
 go_enter Tryz.func194,Tryz.ntmps194
 go_wp2_with fail
 go_region
 have hem:nm.toList.isEmpty=emp nm:=rfl
 have hop:=HOP.out
 clear HOP
 subst hop
 rcases findI_cases (fun k=>(l.getD k default).name.toList == nm.toList) l.length with ⟨hi,_⟩ | ⟨k,hi,hk,_,_⟩
 case inl =>
  have HI:Hid (indexS l nm=-1):=hi
  clear hi
  go_wp2_with (first | (go_at_call 89; refine (index_any A cap l nm _ (HA.out.ext exL) hl).mono ?_; rw [HI.out]; rintro r w1 ⟨rfl,x1⟩; have y1:=x1.facts; have z0:=x1.size; try simp at z0; have zw10:w.heap.size < w1.heap.size:=(by omega); have zw11:w.heap.size + 1 < w1.heap.size:=(by omega); have zw12:w.heap.size + 1 + 1 < w1.heap.size:=(by omega); have zw13:w.heap.size + 1 + 1 + 1 < w1.heap.size:=(by omega); have zw14:w.heap.size + 1 + 1 + 1 + 1 < w1.heap.size:=(by omega)))
  go_region
  go_wp2_with fail
  have hsh:shapeS l f ⟨16,a,b,ty,nm⟩=some (a == 0,false,tz ty,false):=by
   show some (a == 0,decide (0 ≤ indexS l nm) && b == (l.getD (indexS l nm).toNat default).params,tz ty,decide (0 ≤ indexS l nm))=_
   rw [HI.out]; rfl
  exact bodyPost_ret (v:=.tuple #[.agg #[.bool (a == 0),.bool false,.bool (tz ty),.bool false],.bool true]) (by simp [results,Tryz.results194,go_sem, *]) rfl ⟨shapeRet_some hsh,exL⟩
 case inr =>
  have HI:Hid (indexS l nm=(k:Int)):=hi
  clear hi
  obtain ⟨f2,hf2⟩:∃ f2,f2=l.getD k default:=⟨_,rfl⟩
  have HF:=Lib.hid hf2
  have hk0:0 ≤ (k:Int):=by omega
  have hk1:(k:Int) < (l.length:Int):=by omega
  go_wp2_with (first | (go_at_call 89; refine (index_any A cap l nm _ (HA.out.ext exL) hl).mono ?_; rw [HI.out]; rintro r w1 ⟨rfl,x1⟩; have y1:=x1.facts; have z0:=x1.size; try simp at z0; have zw10:w.heap.size < w1.heap.size:=(by omega); have zw11:w.heap.size + 1 < w1.heap.size:=(by omega); have zw12:w.heap.size + 1 + 1 < w1.heap.size:=(by omega); have zw13:w.heap.size + 1 + 1 + 1 < w1.heap.size:=(by omega); have zw14:w.heap.size + 1 + 1 + 1 + 1 < w1.heap.size:=(by omega); obtain ⟨ba,off,rfl,hba,_,c1,_⟩:=(HA.out.ext (exL:Ext w w1)).at_ hk HF.out; have k1:w1.cell? ⟨w.heap.size + 1,2,none⟩=some (.int .i64 b):=(by rw [y1.1 _ _ (by simp)]; go_simp); have k3:w1.cell? ⟨w.heap.size + 1 + 1 + 1 + 1,1,none⟩=some (.bool (b == 0)):=(by rw [y1.1 _ _ (by simp)]; go_simp); have k4:w1.cell? ⟨w.heap.size + 1 + 1 + 1 + 1,3,none⟩=some (.bool (emp nm)):=(by rw [y1.1 _ _ (by simp)]; go_simp); have q3:w1.frozen? ⟨w.heap.size + 1 + 1 + 1 + 1,1,none⟩=false:=(by rw [y1.2.1 _ _ (by simp)]; go_simp); have q4:w1.frozen? ⟨w.heap.size + 1 + 1 + 1 + 1,3,none⟩=false:=(by rw [y1.2.1 _ _ (by simp)]; go_simp)))
  have Y1:=Lib.hid y1
  have X1:=Lib.hid x1
  have hbaw:ba < w.heap.size:=(HA.out.top (by omega)).elim fun b2 h2=>h2.elim fun o2 h3=>(by have h4:=h3.1; injection h4 with h4; injection h4 with h5 h6; rw [h5]; exact h3.2.1)
  have hne1:¬ ba=w.heap.size + 1 + 1 + 1 + 1:=by omega
  have hne2:¬ ba=w.heap.size + 1:=by omega
  clear y1 x1 hf2 hba hq
  go_region_held3 (fun w'=>w'.cell? ⟨w.heap.size + 1,2,none⟩=some (.int .i64 b)∧w'.cell? ⟨ba,off + k * 9 + 1,none⟩=some (.int .i64 f2.params)) ((first | (go_keep; done) | (refine ⟨?_,?_⟩ <;> (repeat (first | assumption | (refine kd ?_) | (refine ks (by first | (simp; done) | (simp; omega)) ?_)))))) (fail)
  have y1:=Y1.out
  have x1:=X1.out
  go_wp2_with fail
  go_ways
  have hsh:shapeS l f ⟨16,a,b,ty,nm⟩=some (a == 0,b == f2.params,tz ty,true):=by
   show some (a == 0,decide (0 ≤ indexS l nm) && b == (l.getD (indexS l nm).toNat default).params,tz ty,decide (0 ≤ indexS l nm))=_
   rw [HI.out,decide_eq_true hk0,Int.toNat_natCast,← HF.out]; rfl
  exact bodyPost_ret (v:=.tuple #[.agg #[.bool (a == 0),.bool (b == f2.params),.bool (tz ty),.bool true],.bool true]) (by simp [results,Tryz.results194,go_sem, *]) rfl ⟨shapeRet_some hsh,exL⟩
end Go.Proofs.YtknaemlnhediaaaGreatDoor.c
