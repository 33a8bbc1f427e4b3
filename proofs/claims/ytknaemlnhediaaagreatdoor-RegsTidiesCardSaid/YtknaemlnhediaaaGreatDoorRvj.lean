/- Contract of the reference's isReg. Conditions: bounds. -/
import Derived.Test.YtknaemlnhediaaaGreatDoorRvr
namespace Go.Proofs.YtknaemlnhediaaaGreatDoor.c
open Go.RowKit
set_option linter.unusedVariables false
set_option maxRecDepth 100000
set_option maxHeartbeats 6400000
set_option linter.unusedSimpArgs false
theorem args_empty2 (args:List Int):args.isEmpty=((args.length:Int) == 0):=by
 cases args with
 | nil=>rfl
 | cons y t=>rw [eq_comm,List.isEmpty_cons,beq_eq_false_iff_ne,List.length_cons]; omega
theorem hreg_li (regs code pr:Int) (pb:Bool) (op d a b:Int) (ty:Ty) (nm:ByteArray) (A:Option Addr) (cap:Nat) (args:List Int) (w:World) (h1:1 ≤ regs) (h2:regs ≤ 6) (hc1:1 ≤ code) (hc2:code ≤ 1000000) (hal:args.length ≤ 9223372036854775806) (hA:NumsAt w A args) (hpb:(pr == (args.length:Int))=pb) (hop:op=0) :
  Calls Tryz.prog 83 #[.agg #[.int .i64 op,.int .i64 d,.int .i64 a,.int .i64 b,.int .i64 ty.base,.int .i64 ty.bits,.string ty.name,.bool ty.opt,.bool ty.err,.string nm,.slice A args.length cap],.int .i64 regs,.int .i64 code,.int .i64 pr] w fun e w'=>e=.returned (.bool (instR pb regs code ⟨op,d,a,b,ty,nm,A,cap,args⟩))∧Ext w w':=by
 subst hop
 have hq:=run_tz_eql ty
 have hem:nm.toList.isEmpty=emp nm:=rfl
 obtain ⟨k1,k2,k3,hk⟩:∃ k1 k2 k3,partsR 0=(k1,k2,k3):=⟨_,_,_,rfl⟩
 have hkk:=partsR_kind 0
 rw [hk] at hkk
 have HK:=Lib.hid hk
 have HP1:Hid (∀ w,Calls Tryz.prog 155 #[.int .i64 k1,.int .i64 d,.int .i64 regs,.int .i64 code] w fun e w'=>e=.returned (.bool (isPartB k1 d regs code))∧w=w'):=fun w=>isPart_any k1 d regs code w h1 h2 hc1 hc2 hkk.1
 have HP2:Hid (∀ w,Calls Tryz.prog 155 #[.int .i64 k2,.int .i64 a,.int .i64 regs,.int .i64 code] w fun e w'=>e=.returned (.bool (isPartB k2 a regs code))∧w=w'):=fun w=>isPart_any k2 a regs code w h1 h2 hc1 hc2 hkk.2.1
 have HP3:Hid (∀ w,Calls Tryz.prog 155 #[.int .i64 k3,.int .i64 b,.int .i64 regs,.int .i64 code] w fun e w'=>e=.returned (.bool (isPartB k3 b regs code))∧w=w'):=fun w=>isPart_any k3 b regs code w h1 h2 hc1 hc2 hkk.2.2
 obtain ⟨q1,hq1⟩:∃ q,isPartB k1 d regs code=q:=⟨_,rfl⟩
 obtain ⟨q2,hq2⟩:∃ q,isPartB k2 a regs code=q:=⟨_,rfl⟩
 obtain ⟨q3,hq3⟩:∃ q,isPartB k3 b regs code=q:=⟨_,rfl⟩
 obtain ⟨o,ho⟩:∃ q,isOpB 0=q:=⟨_,rfl⟩
 rw [hq1] at HP1
 rw [hq2] at HP2
 rw [hq3] at HP3
 have HO:=Lib.hid ho
 have HA:=Lib.hid hA
 have HPB:=Lib.hid hpb
 have HI:Hid (instR pb regs code ⟨0,d,a,b,ty,nm,A,cap,args⟩=(o && (q1 && (q2 && (q3 && (argsB ⟨0,d,a,b,ty,nm,A,cap,args⟩ && (emp nm && (inB a (-2147483648) 2147483648 && pushS ty)))))))):=by
  have hr:restR pb ⟨0,d,a,b,ty,nm,A,cap,args⟩=(emp nm && (inB a (-2147483648) 2147483648 && pushS ty)):=rfl
  unfold Hid instR
  simp only []
  rw [hr,hk,hq1,hq2,hq3,ho]
 have B0:=Lib.hid (Blk.new w 67 #[.int .i64 0,.int .i64 d,.int .i64 a,.int .i64 b,.int .i64 ty.base,.int .i64 ty.bits,.string ty.name,.bool ty.opt,.bool ty.err,.string nm,.slice A args.length cap])
 clear hk hkk hq1 hq2 hq3 ho hA hpb
 have HG:=Lib.hid (argsB_other (x:=⟨0,d,a,b,ty,nm,A,cap,args⟩) (show (0:Int) ≠ 14 by decide))
 rw [args_empty2] at HG
 have n14:((0:Int) != 14)=true:=by rw [bne_iff_ne]; exact (show (0:Int) ≠ 14 by decide)
 by_cases hall4:(o && (q1 && (q2 && q3)))=true
 case' neg =>
  cases o <;> cases q1 <;> cases q2 <;> cases q3
  all_goals try (exact absurd rfl hall4)
  all_goals
   clear hall4
   go_enter Tryz.func83,Tryz.ntmps83
   go_wp2_with (first
    | (go_at_call 154; refine (hisOp_any _ _).mono ?_; rw [HO.out]; rintro r w' ⟨rfl,rfl⟩)
    | (go_at_call 103; refine (parts_any _ _).mono ?_; rw [HK.out]; rintro r w' ⟨rfl,rfl⟩)
    | (go_at_call 155; (with_reducible refine (HP1.out _).mono ?_); rintro r w' ⟨rfl,rfl⟩)
    | (go_at_call 155; (with_reducible refine (HP2.out _).mono ?_); rintro r w' ⟨rfl,rfl⟩)
    | (go_at_call 155; (with_reducible refine (HP3.out _).mono ?_); rintro r w' ⟨rfl,rfl⟩))
   go_ret
   exact ⟨ret_bool (by rw [HI.out]; simp),exA⟩
 obtain ⟨rfl,rfl,rfl,rfl⟩:o=true∧q1=true∧q2=true∧q3=true:=by revert hall4; cases o <;> cases q1 <;> cases q2 <;> cases q3 <;> simp
 clear hall4
 by_cases h0:args.length=0
 ·have e0:((args.length:Int) == 0)=true:=by rw [h0]; rfl
  rw [e0] at HG
  have hz:¬ (0:Int) < (args.length:Int):=by omega
  go_enter Tryz.func83,Tryz.ntmps83
  go_wp2_with (first
    | (go_at_call 154; refine (hisOp_any _ _).mono ?_; rw [HO.out]; rintro r w' ⟨rfl,rfl⟩)
    | (go_at_call 103; refine (parts_any _ _).mono ?_; rw [HK.out]; rintro r w' ⟨rfl,rfl⟩)
    | (go_at_call 155; (with_reducible refine (HP1.out _).mono ?_); rintro r w' ⟨rfl,rfl⟩)
    | (go_at_call 155; (with_reducible refine (HP2.out _).mono ?_); rintro r w' ⟨rfl,rfl⟩)
    | (go_at_call 155; (with_reducible refine (HP3.out _).mono ?_); rintro r w' ⟨rfl,rfl⟩))
  go_loop [12] (fun i=>i=.int .i64 0) (fun _=>0)
  case atStart=>rfl
  case round =>
   subst hrel
   go_wp2_with (first
    | (go_at_call 81; refine (hwithin_any _ _ _ _).mono ?_; rintro r w' ⟨rfl,rfl⟩)
    | (go_at_call 82; refine (hisRan_ty ty _).mono ?_; rintro r w2 ⟨rfl,x2⟩; have y2:=x2.facts; have z2:=x2.z0)
    | (go_at_call 156; refine (hisInt_ty ty _).mono ?_; rintro r w3 ⟨rfl,x3⟩; have y3:=x3.facts; have z3:=x3.z0)
    | (go_at_call 79; refine (refIsName_any nm _).mono ?_; rintro r w4 ⟨rfl,x4⟩; have y4:=x4.facts; have z4:=x4.z0))
   all_goals
    go_ret
    exact ⟨ret_bool (by rw [HI.out,HG.out]; try rw [push_ran]
                        first | (simp [*]; done) | (simp_all; done)),exA⟩
 ·have e0:((args.length:Int) == 0)=false:=by rw [beq_eq_false_iff_ne]; omega
  rw [e0] at HG
  have hz:(0:Int) < (args.length:Int):=by omega
  go_enter Tryz.func83,Tryz.ntmps83
  go_wp2_with (first
    | (go_at_call 154; refine (hisOp_any _ _).mono ?_; rw [HO.out]; rintro r w' ⟨rfl,rfl⟩)
    | (go_at_call 103; refine (parts_any _ _).mono ?_; rw [HK.out]; rintro r w' ⟨rfl,rfl⟩)
    | (go_at_call 155; (with_reducible refine (HP1.out _).mono ?_); rintro r w' ⟨rfl,rfl⟩)
    | (go_at_call 155; (with_reducible refine (HP2.out _).mono ?_); rintro r w' ⟨rfl,rfl⟩)
    | (go_at_call 155; (with_reducible refine (HP3.out _).mono ?_); rintro r w' ⟨rfl,rfl⟩))
  go_loop [12] (fun i=>i=.int .i64 0) (fun _=>0)
  case atStart=>rfl
  case round =>
   subst hrel
   go_wp2_with fail
   go_ret
   exact ⟨ret_bool (by rw [HI.out,HG.out]; simp),exA⟩
theorem hreg_stop (regs code pr:Int) (pb:Bool) (op d a b:Int) (ty:Ty) (nm:ByteArray) (A:Option Addr) (cap:Nat) (args:List Int) (w:World) (h1:1 ≤ regs) (h2:regs ≤ 6) (hc1:1 ≤ code) (hc2:code ≤ 1000000) (hal:args.length ≤ 9223372036854775806) (hA:NumsAt w A args) (hpb:(pr == (args.length:Int))=pb) (hop:op=17) :
  Calls Tryz.prog 83 #[.agg #[.int .i64 op,.int .i64 d,.int .i64 a,.int .i64 b,.int .i64 ty.base,.int .i64 ty.bits,.string ty.name,.bool ty.opt,.bool ty.err,.string nm,.slice A args.length cap],.int .i64 regs,.int .i64 code,.int .i64 pr] w fun e w'=>e=.returned (.bool (instR pb regs code ⟨op,d,a,b,ty,nm,A,cap,args⟩))∧Ext w w':=by
 subst hop
 have hq:=run_tz_eql ty
 have hem:nm.toList.isEmpty=emp nm:=rfl
 obtain ⟨k1,k2,k3,hk⟩:∃ k1 k2 k3,partsR 17=(k1,k2,k3):=⟨_,_,_,rfl⟩
 have hkk:=partsR_kind 17
 rw [hk] at hkk
 have HK:=Lib.hid hk
 have HP1:Hid (∀ w,Calls Tryz.prog 155 #[.int .i64 k1,.int .i64 d,.int .i64 regs,.int .i64 code] w fun e w'=>e=.returned (.bool (isPartB k1 d regs code))∧w=w'):=fun w=>isPart_any k1 d regs code w h1 h2 hc1 hc2 hkk.1
 have HP2:Hid (∀ w,Calls Tryz.prog 155 #[.int .i64 k2,.int .i64 a,.int .i64 regs,.int .i64 code] w fun e w'=>e=.returned (.bool (isPartB k2 a regs code))∧w=w'):=fun w=>isPart_any k2 a regs code w h1 h2 hc1 hc2 hkk.2.1
 have HP3:Hid (∀ w,Calls Tryz.prog 155 #[.int .i64 k3,.int .i64 b,.int .i64 regs,.int .i64 code] w fun e w'=>e=.returned (.bool (isPartB k3 b regs code))∧w=w'):=fun w=>isPart_any k3 b regs code w h1 h2 hc1 hc2 hkk.2.2
 obtain ⟨q1,hq1⟩:∃ q,isPartB k1 d regs code=q:=⟨_,rfl⟩
 obtain ⟨q2,hq2⟩:∃ q,isPartB k2 a regs code=q:=⟨_,rfl⟩
 obtain ⟨q3,hq3⟩:∃ q,isPartB k3 b regs code=q:=⟨_,rfl⟩
 obtain ⟨o,ho⟩:∃ q,isOpB 17=q:=⟨_,rfl⟩
 rw [hq1] at HP1
 rw [hq2] at HP2
 rw [hq3] at HP3
 have HO:=Lib.hid ho
 have HA:=Lib.hid hA
 have HPB:=Lib.hid hpb
 have HI:Hid (instR pb regs code ⟨17,d,a,b,ty,nm,A,cap,args⟩=(o && (q1 && (q2 && (q3 && (argsB ⟨17,d,a,b,ty,nm,A,cap,args⟩ && (emp nm && (inB a 1 5 && tz ty)))))))):=by
  have hr:restR pb ⟨17,d,a,b,ty,nm,A,cap,args⟩=(emp nm && (inB a 1 5 && tz ty)):=rfl
  unfold Hid instR
  simp only []
  rw [hr,hk,hq1,hq2,hq3,ho]
 have B0:=Lib.hid (Blk.new w 67 #[.int .i64 17,.int .i64 d,.int .i64 a,.int .i64 b,.int .i64 ty.base,.int .i64 ty.bits,.string ty.name,.bool ty.opt,.bool ty.err,.string nm,.slice A args.length cap])
 clear hk hkk hq1 hq2 hq3 ho hA hpb
 have HG:=Lib.hid (argsB_other (x:=⟨17,d,a,b,ty,nm,A,cap,args⟩) (show (17:Int) ≠ 14 by decide))
 rw [args_empty2] at HG
 have n14:((17:Int) != 14)=true:=by rw [bne_iff_ne]; exact (show (17:Int) ≠ 14 by decide)
 by_cases hall4:(o && (q1 && (q2 && q3)))=true
 case' neg =>
  cases o <;> cases q1 <;> cases q2 <;> cases q3
  all_goals try (exact absurd rfl hall4)
  all_goals
   clear hall4
   go_enter Tryz.func83,Tryz.ntmps83
   go_wp2_with (first
    | (go_at_call 154; refine (hisOp_any _ _).mono ?_; rw [HO.out]; rintro r w' ⟨rfl,rfl⟩)
    | (go_at_call 103; refine (parts_any _ _).mono ?_; rw [HK.out]; rintro r w' ⟨rfl,rfl⟩)
    | (go_at_call 155; (with_reducible refine (HP1.out _).mono ?_); rintro r w' ⟨rfl,rfl⟩)
    | (go_at_call 155; (with_reducible refine (HP2.out _).mono ?_); rintro r w' ⟨rfl,rfl⟩)
    | (go_at_call 155; (with_reducible refine (HP3.out _).mono ?_); rintro r w' ⟨rfl,rfl⟩))
   go_ret
   exact ⟨ret_bool (by rw [HI.out]; simp),exA⟩
 obtain ⟨rfl,rfl,rfl,rfl⟩:o=true∧q1=true∧q2=true∧q3=true:=by revert hall4; cases o <;> cases q1 <;> cases q2 <;> cases q3 <;> simp
 clear hall4
 by_cases h0:args.length=0
 ·have e0:((args.length:Int) == 0)=true:=by rw [h0]; rfl
  rw [e0] at HG
  have hz:¬ (0:Int) < (args.length:Int):=by omega
  go_enter Tryz.func83,Tryz.ntmps83
  go_wp2_with (first
    | (go_at_call 154; refine (hisOp_any _ _).mono ?_; rw [HO.out]; rintro r w' ⟨rfl,rfl⟩)
    | (go_at_call 103; refine (parts_any _ _).mono ?_; rw [HK.out]; rintro r w' ⟨rfl,rfl⟩)
    | (go_at_call 155; (with_reducible refine (HP1.out _).mono ?_); rintro r w' ⟨rfl,rfl⟩)
    | (go_at_call 155; (with_reducible refine (HP2.out _).mono ?_); rintro r w' ⟨rfl,rfl⟩)
    | (go_at_call 155; (with_reducible refine (HP3.out _).mono ?_); rintro r w' ⟨rfl,rfl⟩))
  go_loop [12] (fun i=>i=.int .i64 0) (fun _=>0)
  case atStart=>rfl
  case round =>
   subst hrel
   go_wp2_with (first
    | (go_at_call 81; refine (hwithin_any _ _ _ _).mono ?_; rintro r w' ⟨rfl,rfl⟩)
    | (go_at_call 82; refine (hisRan_ty ty _).mono ?_; rintro r w2 ⟨rfl,x2⟩; have y2:=x2.facts; have z2:=x2.z0)
    | (go_at_call 156; refine (hisInt_ty ty _).mono ?_; rintro r w3 ⟨rfl,x3⟩; have y3:=x3.facts; have z3:=x3.z0)
    | (go_at_call 79; refine (refIsName_any nm _).mono ?_; rintro r w4 ⟨rfl,x4⟩; have y4:=x4.facts; have z4:=x4.z0))
   all_goals
    go_ret
    exact ⟨ret_bool (by rw [HI.out,HG.out]; try rw [push_ran]
                        first | (simp [*]; done) | (simp_all; done)),exA⟩
 ·have e0:((args.length:Int) == 0)=false:=by rw [beq_eq_false_iff_ne]; omega
  rw [e0] at HG
  have hz:(0:Int) < (args.length:Int):=by omega
  go_enter Tryz.func83,Tryz.ntmps83
  go_wp2_with (first
    | (go_at_call 154; refine (hisOp_any _ _).mono ?_; rw [HO.out]; rintro r w' ⟨rfl,rfl⟩)
    | (go_at_call 103; refine (parts_any _ _).mono ?_; rw [HK.out]; rintro r w' ⟨rfl,rfl⟩)
    | (go_at_call 155; (with_reducible refine (HP1.out _).mono ?_); rintro r w' ⟨rfl,rfl⟩)
    | (go_at_call 155; (with_reducible refine (HP2.out _).mono ?_); rintro r w' ⟨rfl,rfl⟩)
    | (go_at_call 155; (with_reducible refine (HP3.out _).mono ?_); rintro r w' ⟨rfl,rfl⟩))
  go_loop [12] (fun i=>i=.int .i64 0) (fun _=>0)
  case atStart=>rfl
  case round =>
   subst hrel
   go_wp2_with fail
   go_ret
   exact ⟨ret_bool (by rw [HI.out,HG.out]; simp),exA⟩
theorem hreg_error (regs code pr:Int) (pb:Bool) (op d a b:Int) (ty:Ty) (nm:ByteArray) (A:Option Addr) (cap:Nat) (args:List Int) (w:World) (h1:1 ≤ regs) (h2:regs ≤ 6) (hc1:1 ≤ code) (hc2:code ≤ 1000000) (hal:args.length ≤ 9223372036854775806) (hA:NumsAt w A args) (hpb:(pr == (args.length:Int))=pb) (hop:op=16) :
  Calls Tryz.prog 83 #[.agg #[.int .i64 op,.int .i64 d,.int .i64 a,.int .i64 b,.int .i64 ty.base,.int .i64 ty.bits,.string ty.name,.bool ty.opt,.bool ty.err,.string nm,.slice A args.length cap],.int .i64 regs,.int .i64 code,.int .i64 pr] w fun e w'=>e=.returned (.bool (instR pb regs code ⟨op,d,a,b,ty,nm,A,cap,args⟩))∧Ext w w':=by
 subst hop
 have hq:=run_tz_eql ty
 have hem:nm.toList.isEmpty=emp nm:=rfl
 obtain ⟨k1,k2,k3,hk⟩:∃ k1 k2 k3,partsR 16=(k1,k2,k3):=⟨_,_,_,rfl⟩
 have hkk:=partsR_kind 16
 rw [hk] at hkk
 have HK:=Lib.hid hk
 have HP1:Hid (∀ w,Calls Tryz.prog 155 #[.int .i64 k1,.int .i64 d,.int .i64 regs,.int .i64 code] w fun e w'=>e=.returned (.bool (isPartB k1 d regs code))∧w=w'):=fun w=>isPart_any k1 d regs code w h1 h2 hc1 hc2 hkk.1
 have HP2:Hid (∀ w,Calls Tryz.prog 155 #[.int .i64 k2,.int .i64 a,.int .i64 regs,.int .i64 code] w fun e w'=>e=.returned (.bool (isPartB k2 a regs code))∧w=w'):=fun w=>isPart_any k2 a regs code w h1 h2 hc1 hc2 hkk.2.1
 have HP3:Hid (∀ w,Calls Tryz.prog 155 #[.int .i64 k3,.int .i64 b,.int .i64 regs,.int .i64 code] w fun e w'=>e=.returned (.bool (isPartB k3 b regs code))∧w=w'):=fun w=>isPart_any k3 b regs code w h1 h2 hc1 hc2 hkk.2.2
 obtain ⟨q1,hq1⟩:∃ q,isPartB k1 d regs code=q:=⟨_,rfl⟩
 obtain ⟨q2,hq2⟩:∃ q,isPartB k2 a regs code=q:=⟨_,rfl⟩
 obtain ⟨q3,hq3⟩:∃ q,isPartB k3 b regs code=q:=⟨_,rfl⟩
 obtain ⟨o,ho⟩:∃ q,isOpB 16=q:=⟨_,rfl⟩
 rw [hq1] at HP1
 rw [hq2] at HP2
 rw [hq3] at HP3
 have HO:=Lib.hid ho
 have HA:=Lib.hid hA
 have HPB:=Lib.hid hpb
 have HI:Hid (instR pb regs code ⟨16,d,a,b,ty,nm,A,cap,args⟩=(o && (q1 && (q2 && (q3 && (argsB ⟨16,d,a,b,ty,nm,A,cap,args⟩ && (isNameS nm && tz ty))))))):=by
  have hr:restR pb ⟨16,d,a,b,ty,nm,A,cap,args⟩=(isNameS nm && tz ty):=rfl
  unfold Hid instR
  simp only []
  rw [hr,hk,hq1,hq2,hq3,ho]
 have B0:=Lib.hid (Blk.new w 67 #[.int .i64 16,.int .i64 d,.int .i64 a,.int .i64 b,.int .i64 ty.base,.int .i64 ty.bits,.string ty.name,.bool ty.opt,.bool ty.err,.string nm,.slice A args.length cap])
 clear hk hkk hq1 hq2 hq3 ho hA hpb
 have HG:=Lib.hid (argsB_other (x:=⟨16,d,a,b,ty,nm,A,cap,args⟩) (show (16:Int) ≠ 14 by decide))
 rw [args_empty2] at HG
 have n14:((16:Int) != 14)=true:=by rw [bne_iff_ne]; exact (show (16:Int) ≠ 14 by decide)
 by_cases hall4:(o && (q1 && (q2 && q3)))=true
 case' neg =>
  cases o <;> cases q1 <;> cases q2 <;> cases q3
  all_goals try (exact absurd rfl hall4)
  all_goals
   clear hall4
   go_enter Tryz.func83,Tryz.ntmps83
   go_wp2_with (first
    | (go_at_call 154; refine (hisOp_any _ _).mono ?_; rw [HO.out]; rintro r w' ⟨rfl,rfl⟩)
    | (go_at_call 103; refine (parts_any _ _).mono ?_; rw [HK.out]; rintro r w' ⟨rfl,rfl⟩)
    | (go_at_call 155; (with_reducible refine (HP1.out _).mono ?_); rintro r w' ⟨rfl,rfl⟩)
    | (go_at_call 155; (with_reducible refine (HP2.out _).mono ?_); rintro r w' ⟨rfl,rfl⟩)
    | (go_at_call 155; (with_reducible refine (HP3.out _).mono ?_); rintro r w' ⟨rfl,rfl⟩))
   go_ret
   exact ⟨ret_bool (by rw [HI.out]; simp),exA⟩
 obtain ⟨rfl,rfl,rfl,rfl⟩:o=true∧q1=true∧q2=true∧q3=true:=by revert hall4; cases o <;> cases q1 <;> cases q2 <;> cases q3 <;> simp
 clear hall4
 by_cases h0:args.length=0
 ·have e0:((args.length:Int) == 0)=true:=by rw [h0]; rfl
  rw [e0] at HG
  have hz:¬ (0:Int) < (args.length:Int):=by omega
  go_enter Tryz.func83,Tryz.ntmps83
  go_wp2_with (first
    | (go_at_call 154; refine (hisOp_any _ _).mono ?_; rw [HO.out]; rintro r w' ⟨rfl,rfl⟩)
    | (go_at_call 103; refine (parts_any _ _).mono ?_; rw [HK.out]; rintro r w' ⟨rfl,rfl⟩)
    | (go_at_call 155; (with_reducible refine (HP1.out _).mono ?_); rintro r w' ⟨rfl,rfl⟩)
    | (go_at_call 155; (with_reducible refine (HP2.out _).mono ?_); rintro r w' ⟨rfl,rfl⟩)
    | (go_at_call 155; (with_reducible refine (HP3.out _).mono ?_); rintro r w' ⟨rfl,rfl⟩))
  go_loop [12] (fun i=>i=.int .i64 0) (fun _=>0)
  case atStart=>rfl
  case round =>
   subst hrel
   go_wp2_with (first
    | (go_at_call 81; refine (hwithin_any _ _ _ _).mono ?_; rintro r w' ⟨rfl,rfl⟩)
    | (go_at_call 82; refine (hisRan_ty ty _).mono ?_; rintro r w2 ⟨rfl,x2⟩; have y2:=x2.facts; have z2:=x2.z0)
    | (go_at_call 156; refine (hisInt_ty ty _).mono ?_; rintro r w3 ⟨rfl,x3⟩; have y3:=x3.facts; have z3:=x3.z0)
    | (go_at_call 79; refine (refIsName_any nm _).mono ?_; rintro r w4 ⟨rfl,x4⟩; have y4:=x4.facts; have z4:=x4.z0))
   all_goals
    go_ret
    exact ⟨ret_bool (by rw [HI.out,HG.out]; try rw [push_ran]
                        first | (simp [*]; done) | (simp_all; done)),exA⟩
 ·have e0:((args.length:Int) == 0)=false:=by rw [beq_eq_false_iff_ne]; omega
  rw [e0] at HG
  have hz:(0:Int) < (args.length:Int):=by omega
  go_enter Tryz.func83,Tryz.ntmps83
  go_wp2_with (first
    | (go_at_call 154; refine (hisOp_any _ _).mono ?_; rw [HO.out]; rintro r w' ⟨rfl,rfl⟩)
    | (go_at_call 103; refine (parts_any _ _).mono ?_; rw [HK.out]; rintro r w' ⟨rfl,rfl⟩)
    | (go_at_call 155; (with_reducible refine (HP1.out _).mono ?_); rintro r w' ⟨rfl,rfl⟩)
    | (go_at_call 155; (with_reducible refine (HP2.out _).mono ?_); rintro r w' ⟨rfl,rfl⟩)
    | (go_at_call 155; (with_reducible refine (HP3.out _).mono ?_); rintro r w' ⟨rfl,rfl⟩))
  go_loop [12] (fun i=>i=.int .i64 0) (fun _=>0)
  case atStart=>rfl
  case round =>
   subst hrel
   go_wp2_with fail
   go_ret
   exact ⟨ret_bool (by rw [HI.out,HG.out]; simp),exA⟩
theorem hreg_k5 (regs code pr:Int) (pb:Bool) (op d a b:Int) (ty:Ty) (nm:ByteArray) (A:Option Addr) (cap:Nat) (args:List Int) (w:World) (h1:1 ≤ regs) (h2:regs ≤ 6) (hc1:1 ≤ code) (hc2:code ≤ 1000000) (hal:args.length ≤ 9223372036854775806) (hA:NumsAt w A args) (hpb:(pr == (args.length:Int))=pb) (hop:op=5) :
  Calls Tryz.prog 83 #[.agg #[.int .i64 op,.int .i64 d,.int .i64 a,.int .i64 b,.int .i64 ty.base,.int .i64 ty.bits,.string ty.name,.bool ty.opt,.bool ty.err,.string nm,.slice A args.length cap],.int .i64 regs,.int .i64 code,.int .i64 pr] w fun e w'=>e=.returned (.bool (instR pb regs code ⟨op,d,a,b,ty,nm,A,cap,args⟩))∧Ext w w':=by
 subst hop
 have hq:=run_tz_eql ty
 have hem:nm.toList.isEmpty=emp nm:=rfl
 obtain ⟨k1,k2,k3,hk⟩:∃ k1 k2 k3,partsR 5=(k1,k2,k3):=⟨_,_,_,rfl⟩
 have hkk:=partsR_kind 5
 rw [hk] at hkk
 have HK:=Lib.hid hk
 have HP1:Hid (∀ w,Calls Tryz.prog 155 #[.int .i64 k1,.int .i64 d,.int .i64 regs,.int .i64 code] w fun e w'=>e=.returned (.bool (isPartB k1 d regs code))∧w=w'):=fun w=>isPart_any k1 d regs code w h1 h2 hc1 hc2 hkk.1
 have HP2:Hid (∀ w,Calls Tryz.prog 155 #[.int .i64 k2,.int .i64 a,.int .i64 regs,.int .i64 code] w fun e w'=>e=.returned (.bool (isPartB k2 a regs code))∧w=w'):=fun w=>isPart_any k2 a regs code w h1 h2 hc1 hc2 hkk.2.1
 have HP3:Hid (∀ w,Calls Tryz.prog 155 #[.int .i64 k3,.int .i64 b,.int .i64 regs,.int .i64 code] w fun e w'=>e=.returned (.bool (isPartB k3 b regs code))∧w=w'):=fun w=>isPart_any k3 b regs code w h1 h2 hc1 hc2 hkk.2.2
 obtain ⟨q1,hq1⟩:∃ q,isPartB k1 d regs code=q:=⟨_,rfl⟩
 obtain ⟨q2,hq2⟩:∃ q,isPartB k2 a regs code=q:=⟨_,rfl⟩
 obtain ⟨q3,hq3⟩:∃ q,isPartB k3 b regs code=q:=⟨_,rfl⟩
 obtain ⟨o,ho⟩:∃ q,isOpB 5=q:=⟨_,rfl⟩
 rw [hq1] at HP1
 rw [hq2] at HP2
 rw [hq3] at HP3
 have HO:=Lib.hid ho
 have HA:=Lib.hid hA
 have HPB:=Lib.hid hpb
 have HI:Hid (instR pb regs code ⟨5,d,a,b,ty,nm,A,cap,args⟩=(o && (q1 && (q2 && (q3 && (argsB ⟨5,d,a,b,ty,nm,A,cap,args⟩ && (emp nm && isIntS ty))))))):=by
  have hr:restR pb ⟨5,d,a,b,ty,nm,A,cap,args⟩=(emp nm && isIntS ty):=rfl
  unfold Hid instR
  simp only []
  rw [hr,hk,hq1,hq2,hq3,ho]
 have B0:=Lib.hid (Blk.new w 67 #[.int .i64 5,.int .i64 d,.int .i64 a,.int .i64 b,.int .i64 ty.base,.int .i64 ty.bits,.string ty.name,.bool ty.opt,.bool ty.err,.string nm,.slice A args.length cap])
 clear hk hkk hq1 hq2 hq3 ho hA hpb
 have HG:=Lib.hid (argsB_other (x:=⟨5,d,a,b,ty,nm,A,cap,args⟩) (show (5:Int) ≠ 14 by decide))
 rw [args_empty2] at HG
 have n14:((5:Int) != 14)=true:=by rw [bne_iff_ne]; exact (show (5:Int) ≠ 14 by decide)
 by_cases hall4:(o && (q1 && (q2 && q3)))=true
 case' neg =>
  cases o <;> cases q1 <;> cases q2 <;> cases q3
  all_goals try (exact absurd rfl hall4)
  all_goals
   clear hall4
   go_enter Tryz.func83,Tryz.ntmps83
   go_wp2_with (first
    | (go_at_call 154; refine (hisOp_any _ _).mono ?_; rw [HO.out]; rintro r w' ⟨rfl,rfl⟩)
    | (go_at_call 103; refine (parts_any _ _).mono ?_; rw [HK.out]; rintro r w' ⟨rfl,rfl⟩)
    | (go_at_call 155; (with_reducible refine (HP1.out _).mono ?_); rintro r w' ⟨rfl,rfl⟩)
    | (go_at_call 155; (with_reducible refine (HP2.out _).mono ?_); rintro r w' ⟨rfl,rfl⟩)
    | (go_at_call 155; (with_reducible refine (HP3.out _).mono ?_); rintro r w' ⟨rfl,rfl⟩))
   go_ret
   exact ⟨ret_bool (by rw [HI.out]; simp),exA⟩
 obtain ⟨rfl,rfl,rfl,rfl⟩:o=true∧q1=true∧q2=true∧q3=true:=by revert hall4; cases o <;> cases q1 <;> cases q2 <;> cases q3 <;> simp
 clear hall4
 by_cases h0:args.length=0
 ·have e0:((args.length:Int) == 0)=true:=by rw [h0]; rfl
  rw [e0] at HG
  have hz:¬ (0:Int) < (args.length:Int):=by omega
  go_enter Tryz.func83,Tryz.ntmps83
  go_wp2_with (first
    | (go_at_call 154; refine (hisOp_any _ _).mono ?_; rw [HO.out]; rintro r w' ⟨rfl,rfl⟩)
    | (go_at_call 103; refine (parts_any _ _).mono ?_; rw [HK.out]; rintro r w' ⟨rfl,rfl⟩)
    | (go_at_call 155; (with_reducible refine (HP1.out _).mono ?_); rintro r w' ⟨rfl,rfl⟩)
    | (go_at_call 155; (with_reducible refine (HP2.out _).mono ?_); rintro r w' ⟨rfl,rfl⟩)
    | (go_at_call 155; (with_reducible refine (HP3.out _).mono ?_); rintro r w' ⟨rfl,rfl⟩))
  go_loop [12] (fun i=>i=.int .i64 0) (fun _=>0)
  case atStart=>rfl
  case round =>
   subst hrel
   go_wp2_with (first
    | (go_at_call 81; refine (hwithin_any _ _ _ _).mono ?_; rintro r w' ⟨rfl,rfl⟩)
    | (go_at_call 82; refine (hisRan_ty ty _).mono ?_; rintro r w2 ⟨rfl,x2⟩; have y2:=x2.facts; have z2:=x2.z0)
    | (go_at_call 156; refine (hisInt_ty ty _).mono ?_; rintro r w3 ⟨rfl,x3⟩; have y3:=x3.facts; have z3:=x3.z0)
    | (go_at_call 79; refine (refIsName_any nm _).mono ?_; rintro r w4 ⟨rfl,x4⟩; have y4:=x4.facts; have z4:=x4.z0))
   all_goals
    go_ret
    exact ⟨ret_bool (by rw [HI.out,HG.out]; try rw [push_ran]
                        first | (simp [*]; done) | (simp_all; done)),exA⟩
 ·have e0:((args.length:Int) == 0)=false:=by rw [beq_eq_false_iff_ne]; omega
  rw [e0] at HG
  have hz:(0:Int) < (args.length:Int):=by omega
  go_enter Tryz.func83,Tryz.ntmps83
  go_wp2_with (first
    | (go_at_call 154; refine (hisOp_any _ _).mono ?_; rw [HO.out]; rintro r w' ⟨rfl,rfl⟩)
    | (go_at_call 103; refine (parts_any _ _).mono ?_; rw [HK.out]; rintro r w' ⟨rfl,rfl⟩)
    | (go_at_call 155; (with_reducible refine (HP1.out _).mono ?_); rintro r w' ⟨rfl,rfl⟩)
    | (go_at_call 155; (with_reducible refine (HP2.out _).mono ?_); rintro r w' ⟨rfl,rfl⟩)
    | (go_at_call 155; (with_reducible refine (HP3.out _).mono ?_); rintro r w' ⟨rfl,rfl⟩))
  go_loop [12] (fun i=>i=.int .i64 0) (fun _=>0)
  case atStart=>rfl
  case round =>
   subst hrel
   go_wp2_with fail
   go_ret
   exact ⟨ret_bool (by rw [HI.out,HG.out]; simp),exA⟩
theorem hreg_k7 (regs code pr:Int) (pb:Bool) (op d a b:Int) (ty:Ty) (nm:ByteArray) (A:Option Addr) (cap:Nat) (args:List Int) (w:World) (h1:1 ≤ regs) (h2:regs ≤ 6) (hc1:1 ≤ code) (hc2:code ≤ 1000000) (hal:args.length ≤ 9223372036854775806) (hA:NumsAt w A args) (hpb:(pr == (args.length:Int))=pb) (hop:op=7) :
  Calls Tryz.prog 83 #[.agg #[.int .i64 op,.int .i64 d,.int .i64 a,.int .i64 b,.int .i64 ty.base,.int .i64 ty.bits,.string ty.name,.bool ty.opt,.bool ty.err,.string nm,.slice A args.length cap],.int .i64 regs,.int .i64 code,.int .i64 pr] w fun e w'=>e=.returned (.bool (instR pb regs code ⟨op,d,a,b,ty,nm,A,cap,args⟩))∧Ext w w':=by
 subst hop
 have hq:=run_tz_eql ty
 have hem:nm.toList.isEmpty=emp nm:=rfl
 obtain ⟨k1,k2,k3,hk⟩:∃ k1 k2 k3,partsR 7=(k1,k2,k3):=⟨_,_,_,rfl⟩
 have hkk:=partsR_kind 7
 rw [hk] at hkk
 have HK:=Lib.hid hk
 have HP1:Hid (∀ w,Calls Tryz.prog 155 #[.int .i64 k1,.int .i64 d,.int .i64 regs,.int .i64 code] w fun e w'=>e=.returned (.bool (isPartB k1 d regs code))∧w=w'):=fun w=>isPart_any k1 d regs code w h1 h2 hc1 hc2 hkk.1
 have HP2:Hid (∀ w,Calls Tryz.prog 155 #[.int .i64 k2,.int .i64 a,.int .i64 regs,.int .i64 code] w fun e w'=>e=.returned (.bool (isPartB k2 a regs code))∧w=w'):=fun w=>isPart_any k2 a regs code w h1 h2 hc1 hc2 hkk.2.1
 have HP3:Hid (∀ w,Calls Tryz.prog 155 #[.int .i64 k3,.int .i64 b,.int .i64 regs,.int .i64 code] w fun e w'=>e=.returned (.bool (isPartB k3 b regs code))∧w=w'):=fun w=>isPart_any k3 b regs code w h1 h2 hc1 hc2 hkk.2.2
 obtain ⟨q1,hq1⟩:∃ q,isPartB k1 d regs code=q:=⟨_,rfl⟩
 obtain ⟨q2,hq2⟩:∃ q,isPartB k2 a regs code=q:=⟨_,rfl⟩
 obtain ⟨q3,hq3⟩:∃ q,isPartB k3 b regs code=q:=⟨_,rfl⟩
 obtain ⟨o,ho⟩:∃ q,isOpB 7=q:=⟨_,rfl⟩
 rw [hq1] at HP1
 rw [hq2] at HP2
 rw [hq3] at HP3
 have HO:=Lib.hid ho
 have HA:=Lib.hid hA
 have HPB:=Lib.hid hpb
 have HI:Hid (instR pb regs code ⟨7,d,a,b,ty,nm,A,cap,args⟩=(o && (q1 && (q2 && (q3 && (argsB ⟨7,d,a,b,ty,nm,A,cap,args⟩ && (emp nm && isIntS ty))))))):=by
  have hr:restR pb ⟨7,d,a,b,ty,nm,A,cap,args⟩=(emp nm && isIntS ty):=rfl
  unfold Hid instR
  simp only []
  rw [hr,hk,hq1,hq2,hq3,ho]
 have B0:=Lib.hid (Blk.new w 67 #[.int .i64 7,.int .i64 d,.int .i64 a,.int .i64 b,.int .i64 ty.base,.int .i64 ty.bits,.string ty.name,.bool ty.opt,.bool ty.err,.string nm,.slice A args.length cap])
 clear hk hkk hq1 hq2 hq3 ho hA hpb
 have HG:=Lib.hid (argsB_other (x:=⟨7,d,a,b,ty,nm,A,cap,args⟩) (show (7:Int) ≠ 14 by decide))
 rw [args_empty2] at HG
 have n14:((7:Int) != 14)=true:=by rw [bne_iff_ne]; exact (show (7:Int) ≠ 14 by decide)
 by_cases hall4:(o && (q1 && (q2 && q3)))=true
 case' neg =>
  cases o <;> cases q1 <;> cases q2 <;> cases q3
  all_goals try (exact absurd rfl hall4)
  all_goals
   clear hall4
   go_enter Tryz.func83,Tryz.ntmps83
   go_wp2_with (first
    | (go_at_call 154; refine (hisOp_any _ _).mono ?_; rw [HO.out]; rintro r w' ⟨rfl,rfl⟩)
    | (go_at_call 103; refine (parts_any _ _).mono ?_; rw [HK.out]; rintro r w' ⟨rfl,rfl⟩)
    | (go_at_call 155; (with_reducible refine (HP1.out _).mono ?_); rintro r w' ⟨rfl,rfl⟩)
    | (go_at_call 155; (with_reducible refine (HP2.out _).mono ?_); rintro r w' ⟨rfl,rfl⟩)
    | (go_at_call 155; (with_reducible refine (HP3.out _).mono ?_); rintro r w' ⟨rfl,rfl⟩))
   go_ret
   exact ⟨ret_bool (by rw [HI.out]; simp),exA⟩
 obtain ⟨rfl,rfl,rfl,rfl⟩:o=true∧q1=true∧q2=true∧q3=true:=by revert hall4; cases o <;> cases q1 <;> cases q2 <;> cases q3 <;> simp
 clear hall4
 by_cases h0:args.length=0
 ·have e0:((args.length:Int) == 0)=true:=by rw [h0]; rfl
  rw [e0] at HG
  have hz:¬ (0:Int) < (args.length:Int):=by omega
  go_enter Tryz.func83,Tryz.ntmps83
  go_wp2_with (first
    | (go_at_call 154; refine (hisOp_any _ _).mono ?_; rw [HO.out]; rintro r w' ⟨rfl,rfl⟩)
    | (go_at_call 103; refine (parts_any _ _).mono ?_; rw [HK.out]; rintro r w' ⟨rfl,rfl⟩)
    | (go_at_call 155; (with_reducible refine (HP1.out _).mono ?_); rintro r w' ⟨rfl,rfl⟩)
    | (go_at_call 155; (with_reducible refine (HP2.out _).mono ?_); rintro r w' ⟨rfl,rfl⟩)
    | (go_at_call 155; (with_reducible refine (HP3.out _).mono ?_); rintro r w' ⟨rfl,rfl⟩))
  go_loop [12] (fun i=>i=.int .i64 0) (fun _=>0)
  case atStart=>rfl
  case round =>
   subst hrel
   go_wp2_with (first
    | (go_at_call 81; refine (hwithin_any _ _ _ _).mono ?_; rintro r w' ⟨rfl,rfl⟩)
    | (go_at_call 82; refine (hisRan_ty ty _).mono ?_; rintro r w2 ⟨rfl,x2⟩; have y2:=x2.facts; have z2:=x2.z0)
    | (go_at_call 156; refine (hisInt_ty ty _).mono ?_; rintro r w3 ⟨rfl,x3⟩; have y3:=x3.facts; have z3:=x3.z0)
    | (go_at_call 79; refine (refIsName_any nm _).mono ?_; rintro r w4 ⟨rfl,x4⟩; have y4:=x4.facts; have z4:=x4.z0))
   all_goals
    go_ret
    exact ⟨ret_bool (by rw [HI.out,HG.out]; try rw [push_ran]
                        first | (simp [*]; done) | (simp_all; done)),exA⟩
 ·have e0:((args.length:Int) == 0)=false:=by rw [beq_eq_false_iff_ne]; omega
  rw [e0] at HG
  have hz:(0:Int) < (args.length:Int):=by omega
  go_enter Tryz.func83,Tryz.ntmps83
  go_wp2_with (first
    | (go_at_call 154; refine (hisOp_any _ _).mono ?_; rw [HO.out]; rintro r w' ⟨rfl,rfl⟩)
    | (go_at_call 103; refine (parts_any _ _).mono ?_; rw [HK.out]; rintro r w' ⟨rfl,rfl⟩)
    | (go_at_call 155; (with_reducible refine (HP1.out _).mono ?_); rintro r w' ⟨rfl,rfl⟩)
    | (go_at_call 155; (with_reducible refine (HP2.out _).mono ?_); rintro r w' ⟨rfl,rfl⟩)
    | (go_at_call 155; (with_reducible refine (HP3.out _).mono ?_); rintro r w' ⟨rfl,rfl⟩))
  go_loop [12] (fun i=>i=.int .i64 0) (fun _=>0)
  case atStart=>rfl
  case round =>
   subst hrel
   go_wp2_with fail
   go_ret
   exact ⟨ret_bool (by rw [HI.out,HG.out]; simp),exA⟩
theorem hreg_k8 (regs code pr:Int) (pb:Bool) (op d a b:Int) (ty:Ty) (nm:ByteArray) (A:Option Addr) (cap:Nat) (args:List Int) (w:World) (h1:1 ≤ regs) (h2:regs ≤ 6) (hc1:1 ≤ code) (hc2:code ≤ 1000000) (hal:args.length ≤ 9223372036854775806) (hA:NumsAt w A args) (hpb:(pr == (args.length:Int))=pb) (hop:op=8) :
  Calls Tryz.prog 83 #[.agg #[.int .i64 op,.int .i64 d,.int .i64 a,.int .i64 b,.int .i64 ty.base,.int .i64 ty.bits,.string ty.name,.bool ty.opt,.bool ty.err,.string nm,.slice A args.length cap],.int .i64 regs,.int .i64 code,.int .i64 pr] w fun e w'=>e=.returned (.bool (instR pb regs code ⟨op,d,a,b,ty,nm,A,cap,args⟩))∧Ext w w':=by
 subst hop
 have hq:=run_tz_eql ty
 have hem:nm.toList.isEmpty=emp nm:=rfl
 obtain ⟨k1,k2,k3,hk⟩:∃ k1 k2 k3,partsR 8=(k1,k2,k3):=⟨_,_,_,rfl⟩
 have hkk:=partsR_kind 8
 rw [hk] at hkk
 have HK:=Lib.hid hk
 have HP1:Hid (∀ w,Calls Tryz.prog 155 #[.int .i64 k1,.int .i64 d,.int .i64 regs,.int .i64 code] w fun e w'=>e=.returned (.bool (isPartB k1 d regs code))∧w=w'):=fun w=>isPart_any k1 d regs code w h1 h2 hc1 hc2 hkk.1
 have HP2:Hid (∀ w,Calls Tryz.prog 155 #[.int .i64 k2,.int .i64 a,.int .i64 regs,.int .i64 code] w fun e w'=>e=.returned (.bool (isPartB k2 a regs code))∧w=w'):=fun w=>isPart_any k2 a regs code w h1 h2 hc1 hc2 hkk.2.1
 have HP3:Hid (∀ w,Calls Tryz.prog 155 #[.int .i64 k3,.int .i64 b,.int .i64 regs,.int .i64 code] w fun e w'=>e=.returned (.bool (isPartB k3 b regs code))∧w=w'):=fun w=>isPart_any k3 b regs code w h1 h2 hc1 hc2 hkk.2.2
 obtain ⟨q1,hq1⟩:∃ q,isPartB k1 d regs code=q:=⟨_,rfl⟩
 obtain ⟨q2,hq2⟩:∃ q,isPartB k2 a regs code=q:=⟨_,rfl⟩
 obtain ⟨q3,hq3⟩:∃ q,isPartB k3 b regs code=q:=⟨_,rfl⟩
 obtain ⟨o,ho⟩:∃ q,isOpB 8=q:=⟨_,rfl⟩
 rw [hq1] at HP1
 rw [hq2] at HP2
 rw [hq3] at HP3
 have HO:=Lib.hid ho
 have HA:=Lib.hid hA
 have HPB:=Lib.hid hpb
 have HI:Hid (instR pb regs code ⟨8,d,a,b,ty,nm,A,cap,args⟩=(o && (q1 && (q2 && (q3 && (argsB ⟨8,d,a,b,ty,nm,A,cap,args⟩ && (emp nm && isIntS ty))))))):=by
  have hr:restR pb ⟨8,d,a,b,ty,nm,A,cap,args⟩=(emp nm && isIntS ty):=rfl
  unfold Hid instR
  simp only []
  rw [hr,hk,hq1,hq2,hq3,ho]
 have B0:=Lib.hid (Blk.new w 67 #[.int .i64 8,.int .i64 d,.int .i64 a,.int .i64 b,.int .i64 ty.base,.int .i64 ty.bits,.string ty.name,.bool ty.opt,.bool ty.err,.string nm,.slice A args.length cap])
 clear hk hkk hq1 hq2 hq3 ho hA hpb
 have HG:=Lib.hid (argsB_other (x:=⟨8,d,a,b,ty,nm,A,cap,args⟩) (show (8:Int) ≠ 14 by decide))
 rw [args_empty2] at HG
 have n14:((8:Int) != 14)=true:=by rw [bne_iff_ne]; exact (show (8:Int) ≠ 14 by decide)
 by_cases hall4:(o && (q1 && (q2 && q3)))=true
 case' neg =>
  cases o <;> cases q1 <;> cases q2 <;> cases q3
  all_goals try (exact absurd rfl hall4)
  all_goals
   clear hall4
   go_enter Tryz.func83,Tryz.ntmps83
   go_wp2_with (first
    | (go_at_call 154; refine (hisOp_any _ _).mono ?_; rw [HO.out]; rintro r w' ⟨rfl,rfl⟩)
    | (go_at_call 103; refine (parts_any _ _).mono ?_; rw [HK.out]; rintro r w' ⟨rfl,rfl⟩)
    | (go_at_call 155; (with_reducible refine (HP1.out _).mono ?_); rintro r w' ⟨rfl,rfl⟩)
    | (go_at_call 155; (with_reducible refine (HP2.out _).mono ?_); rintro r w' ⟨rfl,rfl⟩)
    | (go_at_call 155; (with_reducible refine (HP3.out _).mono ?_); rintro r w' ⟨rfl,rfl⟩))
   go_ret
   exact ⟨ret_bool (by rw [HI.out]; simp),exA⟩
 obtain ⟨rfl,rfl,rfl,rfl⟩:o=true∧q1=true∧q2=true∧q3=true:=by revert hall4; cases o <;> cases q1 <;> cases q2 <;> cases q3 <;> simp
 clear hall4
 by_cases h0:args.length=0
 ·have e0:((args.length:Int) == 0)=true:=by rw [h0]; rfl
  rw [e0] at HG
  have hz:¬ (0:Int) < (args.length:Int):=by omega
  go_enter Tryz.func83,Tryz.ntmps83
  go_wp2_with (first
    | (go_at_call 154; refine (hisOp_any _ _).mono ?_; rw [HO.out]; rintro r w' ⟨rfl,rfl⟩)
    | (go_at_call 103; refine (parts_any _ _).mono ?_; rw [HK.out]; rintro r w' ⟨rfl,rfl⟩)
    | (go_at_call 155; (with_reducible refine (HP1.out _).mono ?_); rintro r w' ⟨rfl,rfl⟩)
    | (go_at_call 155; (with_reducible refine (HP2.out _).mono ?_); rintro r w' ⟨rfl,rfl⟩)
    | (go_at_call 155; (with_reducible refine (HP3.out _).mono ?_); rintro r w' ⟨rfl,rfl⟩))
  go_loop [12] (fun i=>i=.int .i64 0) (fun _=>0)
  case atStart=>rfl
  case round =>
   subst hrel
   go_wp2_with (first
    | (go_at_call 81; refine (hwithin_any _ _ _ _).mono ?_; rintro r w' ⟨rfl,rfl⟩)
    | (go_at_call 82; refine (hisRan_ty ty _).mono ?_; rintro r w2 ⟨rfl,x2⟩; have y2:=x2.facts; have z2:=x2.z0)
    | (go_at_call 156; refine (hisInt_ty ty _).mono ?_; rintro r w3 ⟨rfl,x3⟩; have y3:=x3.facts; have z3:=x3.z0)
    | (go_at_call 79; refine (refIsName_any nm _).mono ?_; rintro r w4 ⟨rfl,x4⟩; have y4:=x4.facts; have z4:=x4.z0))
   all_goals
    go_ret
    exact ⟨ret_bool (by rw [HI.out,HG.out]; try rw [push_ran]
                        first | (simp [*]; done) | (simp_all; done)),exA⟩
 ·have e0:((args.length:Int) == 0)=false:=by rw [beq_eq_false_iff_ne]; omega
  rw [e0] at HG
  have hz:(0:Int) < (args.length:Int):=by omega
  go_enter Tryz.func83,Tryz.ntmps83
  go_wp2_with (first
    | (go_at_call 154; refine (hisOp_any _ _).mono ?_; rw [HO.out]; rintro r w' ⟨rfl,rfl⟩)
    | (go_at_call 103; refine (parts_any _ _).mono ?_; rw [HK.out]; rintro r w' ⟨rfl,rfl⟩)
    | (go_at_call 155; (with_reducible refine (HP1.out _).mono ?_); rintro r w' ⟨rfl,rfl⟩)
    | (go_at_call 155; (with_reducible refine (HP2.out _).mono ?_); rintro r w' ⟨rfl,rfl⟩)
    | (go_at_call 155; (with_reducible refine (HP3.out _).mono ?_); rintro r w' ⟨rfl,rfl⟩))
  go_loop [12] (fun i=>i=.int .i64 0) (fun _=>0)
  case atStart=>rfl
  case round =>
   subst hrel
   go_wp2_with fail
   go_ret
   exact ⟨ret_bool (by rw [HI.out,HG.out]; simp),exA⟩
end Go.Proofs.YtknaemlnhediaaaGreatDoor.c
