/- Contract of the reference's isCode: a call. -/
import Derived.Test.YtknaemlnhediaaaGreatDoorRcodeB
import Derived.Test.YtknaemlnhediaaaGreatDoorLib
namespace Go.Proofs.YtknaemlnhediaaaGreatDoor.c
open Go.RowKit
set_option linter.unusedVariables false
set_option maxRecDepth 100000
set_option maxHeartbeats 1600000
set_option linter.unusedSimpArgs false

theorem code_call (l:List Fc) (A:Option Addr) (cap:Nat) (f:Fc) (op a b:Int) (ty:Ty) (nm:ByteArray) (w:World) (hA:FcAt w A l) (hl:l.length ≤ 9223372036854775806) (hfl:f.code.length ≤ 9223372036854775807) (hop:op=16) :
  Calls Tryz.prog 137 #[.slice A l.length cap,f.val,(Cd.mk op a b ty nm).val] w fun e w'=>e=.returned (.bool (instS l f ⟨op,a,b,ty,nm⟩))∧Ext w w':=by
 unfold Fc.val Cd.val
 simp only []
 have HA:=Lib.hid hA
 clear hA
 have hq:=run_tz_neq ty
 have hem:nm.toList.isEmpty=emp nm:=rfl
 subst hop
 have HH:=Lib.hid (hasS_3 (op:=16) rfl)
 have HS:=Lib.hid (show instS l f ⟨16,a,b,ty,nm⟩=((a == 0) && ((decide (0 ≤ indexS l nm) && b == (l.getD (indexS l nm).toNat default).params) && (tz ty && decide (0 ≤ indexS l nm)))) from rfl)
 rcases findI_cases (fun k=>(l.getD k default).name.toList == nm.toList) l.length with ⟨hi,_⟩ | ⟨k,hi,hk,_,_⟩
 case inl =>
  have HI:Hid (indexS l nm=-1):=hi
  clear hi
  have hd:decide ((0:Int) ≤ -1)=false:=rfl
  go_enter Tryz.func137,Tryz.ntmps137
  go_wp2_with (first
   | (go_at_call 135; refine (rwithin_any _ _ _ _).mono ?_; rintro r w' ⟨rfl,rfl⟩; try simp only [inB])
   | (go_at_call 200; refine (has_any _ _).mono ?_; rw [HH.out]; rintro r w' ⟨rfl,rfl⟩)
   | (go_at_call 134; refine (found_any A cap l nm _ (HA.out.ext exL) hl).mono ?_; rw [HI.out]; rintro r w' ⟨rfl,rfl⟩))
  all_goals try go_quiet (fail)
  all_goals try go_wp2_with fail
  all_goals
   go_ret
   exact ⟨ret_bool (by rw [HS.out,HI.out]; simp [*]),exL⟩
 case inr =>
  have HI:Hid (indexS l nm=(k:Int)):=hi
  clear hi
  obtain ⟨f2,hf2⟩:∃ f2,f2=l.getD k default:=⟨_,rfl⟩
  have HF:=Lib.hid hf2
  have hk0:0 ≤ (k:Int):=by omega
  have hk1:(k:Int) < (l.length:Int):=by omega
  obtain ⟨ba,off,rfl,hba,_,c1,_⟩:=HA.out.at_ hk hf2
  clear hf2
  go_enter Tryz.func137,Tryz.ntmps137
  go_wp2_with (first
   | (go_at_call 135; refine (rwithin_any _ _ _ _).mono ?_; rintro r w' ⟨rfl,rfl⟩; try simp only [inB])
   | (go_at_call 200; refine (has_any _ _).mono ?_; rw [HH.out]; rintro r w' ⟨rfl,rfl⟩)
   | (go_at_call 134; refine (found_any _ cap l nm _ (HA.out.ext exL) hl).mono ?_; rw [HI.out]; rintro r w' ⟨rfl,rfl⟩))
  all_goals try go_quiet (fail)
  all_goals try go_wp2_with fail
  all_goals
   go_ret
   exact ⟨ret_bool (by rw [HS.out,HI.out,decide_eq_true hk0,Int.toNat_natCast,← HF.out]; simp [*]),exL⟩
end Go.Proofs.YtknaemlnhediaaaGreatDoor.c
