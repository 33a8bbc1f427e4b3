/- Contract of the reference's isReg. Conditions: bounds. Contract of the reference's isReg. Conditions: bounds. Contract of the reference's isReg. Conditions: bounds. Contracts of the reference's found, params, count, Long over register code. Conditions: lengths. -/
import Derived.Test.YtknaemlnhediaaaGreatDoorRvr
import Derived.Test.YtknaemlnhediaaaGreatDoorRvj
import Derived.Test.YtknaemlnhediaaaGreatDoorRinst
namespace Go.Proofs.YtknaemlnhediaaaGreatDoor.c
open Go.RowKit
set_option linter.unusedVariables false
set_option maxRecDepth 100000
set_option maxHeartbeats 6400000
set_option linter.unusedSimpArgs false
theorem hreg_call (regs code pr:Int) (pb:Bool) (op d a b:Int) (ty:Ty) (nm:ByteArray) (A:Option Addr) (cap:Nat) (args:List Int) (w:World) (h1:1 ≤ regs) (h2:regs ≤ 6) (hc1:1 ≤ code) (hc2:code ≤ 1000000) (hal:args.length ≤ 9223372036854775806) (hA:NumsAt w A args) (hpb:(pr == (args.length:Int))=pb) (hop:op=14) :
  Calls Tryz.prog 83 #[.agg #[.int .i64 op,.int .i64 d,.int .i64 a,.int .i64 b,.int .i64 ty.base,.int .i64 ty.bits,.string ty.name,.bool ty.opt,.bool ty.err,.string nm,.slice A args.length cap],.int .i64 regs,.int .i64 code,.int .i64 pr] w fun e w'=>e=.returned (.bool (instR pb regs code ⟨op,d,a,b,ty,nm,A,cap,args⟩))∧Ext w w':=by
 subst hop
 have hq:=run_tz_eql ty
 have hem:nm.toList.isEmpty=emp nm:=rfl
 obtain ⟨k1,k2,k3,hk⟩:∃ k1 k2 k3,partsR 14=(k1,k2,k3):=⟨_,_,_,rfl⟩
 have hkk:=partsR_kind 14
 rw [hk] at hkk
 have HK:=Lib.hid hk
 have HP1:Hid (∀ w,Calls Tryz.prog 155 #[.int .i64 k1,.int .i64 d,.int .i64 regs,.int .i64 code] w fun e w'=>e=.returned (.bool (isPartB k1 d regs code))∧w=w'):=fun w=>isPart_any k1 d regs code w h1 h2 hc1 hc2 hkk.1
 have HP2:Hid (∀ w,Calls Tryz.prog 155 #[.int .i64 k2,.int .i64 a,.int .i64 regs,.int .i64 code] w fun e w'=>e=.returned (.bool (isPartB k2 a regs code))∧w=w'):=fun w=>isPart_any k2 a regs code w h1 h2 hc1 hc2 hkk.2.1
 have HP3:Hid (∀ w,Calls Tryz.prog 155 #[.int .i64 k3,.int .i64 b,.int .i64 regs,.int .i64 code] w fun e w'=>e=.returned (.bool (isPartB k3 b regs code))∧w=w'):=fun w=>isPart_any k3 b regs code w h1 h2 hc1 hc2 hkk.2.2
 obtain ⟨q1,hq1⟩:∃ q,isPartB k1 d regs code=q:=⟨_,rfl⟩
 obtain ⟨q2,hq2⟩:∃ q,isPartB k2 a regs code=q:=⟨_,rfl⟩
 obtain ⟨q3,hq3⟩:∃ q,isPartB k3 b regs code=q:=⟨_,rfl⟩
 obtain ⟨o,ho⟩:∃ q,isOpB 14=q:=⟨_,rfl⟩
 rw [hq1] at HP1
 rw [hq2] at HP2
 rw [hq3] at HP3
 have HO:=Lib.hid ho
 have HA:=Lib.hid hA
 have HPB:=Lib.hid hpb
 have HI:Hid (instR pb regs code ⟨14,d,a,b,ty,nm,A,cap,args⟩=(o && (q1 && (q2 && (q3 && (argsB ⟨14,d,a,b,ty,nm,A,cap,args⟩ && (pb && tz ty))))))):=by
  have hr:restR pb ⟨14,d,a,b,ty,nm,A,cap,args⟩=(pb && tz ty):=rfl
  unfold Hid instR
  simp only []
  rw [hr,hk,hq1,hq2,hq3,ho]
 have B0:=Lib.hid (Blk.new w 67 #[.int .i64 14,.int .i64 d,.int .i64 a,.int .i64 b,.int .i64 ty.base,.int .i64 ty.bits,.string ty.name,.bool ty.opt,.bool ty.err,.string nm,.slice A args.length cap])
 clear hk hkk hq1 hq2 hq3 ho hA hpb
 have HG:=Lib.hid (argsB_call (x:=⟨14,d,a,b,ty,nm,A,cap,args⟩) rfl)
 obtain ⟨len,hlen⟩:∃ len,len=args.length:=⟨_,rfl⟩
 rw [← hlen] at hal HPB B0 ⊢
 have HLn:=Lib.hid hlen
 clear hlen
 have n14:((14:Int) != 14)=false:=rfl
 by_cases hall4:(o && (q1 && (q2 && q3)))=true
 case' neg =>
  cases o <;> cases q1 <;> cases q2 <;> cases q3
  all_goals try (exact absurd rfl hall4)
  all_goals
   clear hall4
   go_enter Tryz.func83,Tryz.ntmps83
   go_wp2_with (first
    | (go_at_call 154; refine (hisOp_any _ _).mono ?_; rw [HO.out]; rintro r w' ⟨rfl,rfl⟩)
    | (go_at_call 103; refine (parts_any _ _).mono ?_; rw [HK.out]; rintro r w' ⟨rfl,rfl⟩)
    | (go_at_call 155; (with_reducible refine (HP1.out _).mono ?_); rintro r w' ⟨rfl,rfl⟩)
    | (go_at_call 155; (with_reducible refine (HP2.out _).mono ?_); rintro r w' ⟨rfl,rfl⟩)
    | (go_at_call 155; (with_reducible refine (HP3.out _).mono ?_); rintro r w' ⟨rfl,rfl⟩))
   go_ret
   exact ⟨ret_bool (by rw [HI.out]; simp),exA⟩
 obtain ⟨rfl,rfl,rfl,rfl⟩:o=true∧q1=true∧q2=true∧q3=true:=by revert hall4; cases o <;> cases q1 <;> cases q2 <;> cases q3 <;> simp
 clear hall4
 go_enter Tryz.func83,Tryz.ntmps83
 go_wp2_with (first
    | (go_at_call 154; refine (hisOp_any _ _).mono ?_; rw [HO.out]; rintro r w' ⟨rfl,rfl⟩)
    | (go_at_call 103; refine (parts_any _ _).mono ?_; rw [HK.out]; rintro r w' ⟨rfl,rfl⟩)
    | (go_at_call 155; (with_reducible refine (HP1.out _).mono ?_); rintro r w' ⟨rfl,rfl⟩)
    | (go_at_call 155; (with_reducible refine (HP2.out _).mono ?_); rintro r w' ⟨rfl,rfl⟩)
    | (go_at_call 155; (with_reducible refine (HP3.out _).mono ?_); rintro r w' ⟨rfl,rfl⟩))
 go_loop [12] (fun i=>∃ k:Nat,k ≤ len∧i=.int .i64 k∧Hid (∀ j,j < k → inB (args.getD j 0) 0 299=true)) (fun i=>len - (intOf i).toNat)
 case atStart=>exact ⟨0,by omega,rfl,fun j hj=>by omega⟩
 case round =>
  obtain ⟨k,hk,rfl,hall⟩:=hrel
  by_cases hlt:k < len
  ·obtain ⟨b5,o5,rfl,hb5,c5⟩:=(HA.out.ext (w':=w.alloc (.cells #[.int .i64 14,.int .i64 d,.int .i64 a,.int .i64 b,.int .i64 ty.base,.int .i64 ty.bits,.string ty.name,.bool ty.opt,.bool ty.err,.string nm,.slice A len cap] 67)) ((Ext.refl w).alloc _)).one (k:=k) (by rw [← HLn.out]; exact hlt)
   obtain ⟨v,hv⟩:∃ v,args.getD k 0=v:=⟨_,rfl⟩
   rw [hv] at c5
   obtain ⟨f,hf⟩:∃ f,inB v 0 299=f:=⟨_,rfl⟩
   have HF:=Lib.hid hf
   have HV:=Lib.hid hv
   clear hf hv
   cases f
   ·go_wp2_with (first
     | (go_at_call 81; refine (hwithin_any _ _ _ _).mono ?_; rw [HF.out]; rintro r w' ⟨rfl,rfl⟩))
    go_ret
    refine ⟨ret_bool ?_,exA⟩
    have hfalse:(args.all fun i=>inB i 0 299)=false:=by
     rw [← Bool.not_eq_true,List.all_eq_true]
     intro hh
     have hkl:k < args.length:=by rw [← HLn.out]; exact hlt
     have h8:=hh _ (List.getElem_mem hkl)
     have h7:=HV.out
     rw [List.getD,List.getElem?_eq_getElem hkl,Option.getD_some] at h7
     rw [h7,HF.out] at h8
     cases h8
    rw [HI.out,HG.out]
    simp only [hfalse]
    simp
   ·go_wp2_with (first
     | (go_at_call 81; refine (hwithin_any _ _ _ _).mono ?_; rw [HF.out]; rintro r w' ⟨rfl,rfl⟩))
    have hall3:Hid (∀ j,j < k + 1 → inB (args.getD j 0) 0 299=true):=fun j hj=>by
     rcases Nat.lt_or_ge j k with h | h
     ·exact hall.out j h
     ·obtain rfl:j=k:=by omega
      rw [HV.out]; exact HF.out
    first
     | exact ⟨⟨k + 1,by omega,by go_num,hall3⟩,by simp [intOf]; omega⟩
     | (refine ⟨?_,by simp [intOf]; omega⟩; (repeat apply Exists.intro); exact ⟨⟨k + 1,by omega,by go_num,hall3⟩,rfl⟩)
     | ((repeat apply Exists.intro); exact ⟨⟨⟨k + 1,by omega,by go_num,hall3⟩,rfl⟩,by simp [intOf]; omega⟩)
  ·have hall2:(args.all fun i=>inB i 0 299)=true:=by
    rw [List.all_eq_true]
    intro x hx
    obtain ⟨j,hj,rfl⟩:=List.getElem_of_mem hx
    have:=hall.out j (by have:=HLn.out; omega)
    rwa [List.getD,List.getElem?_eq_getElem hj,Option.getD_some] at this
   have HAL:=Lib.hid hall2
   clear hall2
   go_wp2_with (first
    | (go_at_call 81; refine (hwithin_any _ _ _ _).mono ?_; rintro r w' ⟨rfl,rfl⟩)
    | (go_at_call 82; refine (hisRan_ty ty _).mono ?_; rintro r w2 ⟨rfl,x2⟩; have y2:=x2.facts; have z2:=x2.z0)
    | (go_at_call 156; refine (hisInt_ty ty _).mono ?_; rintro r w3 ⟨rfl,x3⟩; have y3:=x3.facts; have z3:=x3.z0)
    | (go_at_call 79; refine (refIsName_any nm _).mono ?_; rintro r w4 ⟨rfl,x4⟩; have y4:=x4.facts; have z4:=x4.z0))
   all_goals
    go_ret
    exact ⟨ret_bool (by rw [HI.out,HG.out,← HPB.out]; simp only [HAL.out]; first | (simp [*]; done) | (simp_all; done)),exA⟩
theorem args_empty3 (args:List Int):args.isEmpty=((args.length:Int) == 0):=by
 cases args with
 | nil=>rfl
 | cons y t=>rw [eq_comm,List.isEmpty_cons,beq_eq_false_iff_ne,List.length_cons]; omega
theorem inB_typed {op:Int} (h:op < 105 ∨ 117 < op):inB op 105 117=false:=by
 unfold inB
 rcases h with h | h
 ·rw [decide_eq_false (show ¬ 105 ≤ op by omega)]; rfl
 ·rw [decide_eq_false (show ¬ op ≤ 117 by omega),Bool.and_false]
theorem hreg_typed (regs code pr:Int) (pb:Bool) (op d a b:Int) (ty:Ty) (nm:ByteArray) (A:Option Addr) (cap:Nat) (args:List Int) (w:World) (h1:1 ≤ regs) (h2:regs ≤ 6) (hc1:1 ≤ code) (hc2:code ≤ 1000000) (hal:args.length ≤ 9223372036854775806) (hA:NumsAt w A args) (hpb:(pr == (args.length:Int))=pb) (hop:op ≠ 0∧op ≠ 17∧op ≠ 14∧op ≠ 16∧op ≠ 5∧op ≠ 7∧op ≠ 8∧105 ≤ op∧op ≤ 117) :
  Calls Tryz.prog 83 #[.agg #[.int .i64 op,.int .i64 d,.int .i64 a,.int .i64 b,.int .i64 ty.base,.int .i64 ty.bits,.string ty.name,.bool ty.opt,.bool ty.err,.string nm,.slice A args.length cap],.int .i64 regs,.int .i64 code,.int .i64 pr] w fun e w'=>e=.returned (.bool (instR pb regs code ⟨op,d,a,b,ty,nm,A,cap,args⟩))∧Ext w w':=by
 have n0:(op == 0)=false:=by rw [beq_eq_false_iff_ne]; omega
 have n17:(op == 17)=false:=by rw [beq_eq_false_iff_ne]; omega
 have m14:(op == 14)=false:=by rw [beq_eq_false_iff_ne]; omega
 have n16:(op == 16)=false:=by rw [beq_eq_false_iff_ne]; omega
 have n5:(op == 5)=false:=by rw [beq_eq_false_iff_ne]; omega
 have n7:(op == 7)=false:=by rw [beq_eq_false_iff_ne]; omega
 have n8:(op == 8)=false:=by rw [beq_eq_false_iff_ne]; omega
 have HT:Hid (inB op 105 117=true):=by unfold Hid inB; rw [decide_eq_true (show 105 ≤ op by omega),decide_eq_true (show op ≤ 117 by omega)]; rfl
 have hq:=run_tz_eql ty
 have hem:nm.toList.isEmpty=emp nm:=rfl
 obtain ⟨k1,k2,k3,hk⟩:∃ k1 k2 k3,partsR op=(k1,k2,k3):=⟨_,_,_,rfl⟩
 have hkk:=partsR_kind op
 rw [hk] at hkk
 have HK:=Lib.hid hk
 have HP1:Hid (∀ w,Calls Tryz.prog 155 #[.int .i64 k1,.int .i64 d,.int .i64 regs,.int .i64 code] w fun e w'=>e=.returned (.bool (isPartB k1 d regs code))∧w=w'):=fun w=>isPart_any k1 d regs code w h1 h2 hc1 hc2 hkk.1
 have HP2:Hid (∀ w,Calls Tryz.prog 155 #[.int .i64 k2,.int .i64 a,.int .i64 regs,.int .i64 code] w fun e w'=>e=.returned (.bool (isPartB k2 a regs code))∧w=w'):=fun w=>isPart_any k2 a regs code w h1 h2 hc1 hc2 hkk.2.1
 have HP3:Hid (∀ w,Calls Tryz.prog 155 #[.int .i64 k3,.int .i64 b,.int .i64 regs,.int .i64 code] w fun e w'=>e=.returned (.bool (isPartB k3 b regs code))∧w=w'):=fun w=>isPart_any k3 b regs code w h1 h2 hc1 hc2 hkk.2.2
 obtain ⟨q1,hq1⟩:∃ q,isPartB k1 d regs code=q:=⟨_,rfl⟩
 obtain ⟨q2,hq2⟩:∃ q,isPartB k2 a regs code=q:=⟨_,rfl⟩
 obtain ⟨q3,hq3⟩:∃ q,isPartB k3 b regs code=q:=⟨_,rfl⟩
 obtain ⟨o,ho⟩:∃ q,isOpB op=q:=⟨_,rfl⟩
 rw [hq1] at HP1
 rw [hq2] at HP2
 rw [hq3] at HP3
 have HO:=Lib.hid ho
 have HA:=Lib.hid hA
 have HPB:=Lib.hid hpb
 have HI:Hid (instR pb regs code ⟨op,d,a,b,ty,nm,A,cap,args⟩=(o && (q1 && (q2 && (q3 && (argsB ⟨op,d,a,b,ty,nm,A,cap,args⟩ && (emp nm && isIntS ty))))))):=by
  have hr:restR pb ⟨op,d,a,b,ty,nm,A,cap,args⟩=(emp nm && isIntS ty):=by unfold restR; simp only []; rw [if_neg (by omega),if_neg (by omega),if_neg (by omega),if_neg (by omega),if_neg (by omega),if_pos (by omega)]
  unfold Hid instR
  simp only []
  rw [hr,hk,hq1,hq2,hq3,ho]
 have B0:=Lib.hid (Blk.new w 67 #[.int .i64 op,.int .i64 d,.int .i64 a,.int .i64 b,.int .i64 ty.base,.int .i64 ty.bits,.string ty.name,.bool ty.opt,.bool ty.err,.string nm,.slice A args.length cap])
 clear hk hkk hq1 hq2 hq3 ho hA hpb
 have HG:=Lib.hid (argsB_other (x:=⟨op,d,a,b,ty,nm,A,cap,args⟩) (show op ≠ 14 by omega))
 rw [args_empty3] at HG
 have n14:((op:Int) != 14)=true:=by rw [bne_iff_ne]; exact (show op ≠ 14 by omega)
 by_cases hall4:(o && (q1 && (q2 && q3)))=true
 case' neg =>
  cases o <;> cases q1 <;> cases q2 <;> cases q3
  all_goals try (exact absurd rfl hall4)
  all_goals
   clear hall4
   go_enter Tryz.func83,Tryz.ntmps83
   go_wp2_with (first
    | (go_at_call 154; refine (hisOp_any _ _).mono ?_; rw [HO.out]; rintro r w' ⟨rfl,rfl⟩)
    | (go_at_call 103; refine (parts_any _ _).mono ?_; rw [HK.out]; rintro r w' ⟨rfl,rfl⟩)
    | (go_at_call 155; (with_reducible refine (HP1.out _).mono ?_); rintro r w' ⟨rfl,rfl⟩)
    | (go_at_call 155; (with_reducible refine (HP2.out _).mono ?_); rintro r w' ⟨rfl,rfl⟩)
    | (go_at_call 155; (with_reducible refine (HP3.out _).mono ?_); rintro r w' ⟨rfl,rfl⟩))
   go_ret
   exact ⟨ret_bool (by rw [HI.out]; simp),exA⟩
 obtain ⟨rfl,rfl,rfl,rfl⟩:o=true∧q1=true∧q2=true∧q3=true:=by revert hall4; cases o <;> cases q1 <;> cases q2 <;> cases q3 <;> simp
 clear hall4
 by_cases h0:args.length=0
 ·have e0:((args.length:Int) == 0)=true:=by rw [h0]; rfl
  rw [e0] at HG
  have hz:¬ (0:Int) < (args.length:Int):=by omega
  go_enter Tryz.func83,Tryz.ntmps83
  go_wp2_with (first
    | (go_at_call 154; refine (hisOp_any _ _).mono ?_; rw [HO.out]; rintro r w' ⟨rfl,rfl⟩)
    | (go_at_call 103; refine (parts_any _ _).mono ?_; rw [HK.out]; rintro r w' ⟨rfl,rfl⟩)
    | (go_at_call 155; (with_reducible refine (HP1.out _).mono ?_); rintro r w' ⟨rfl,rfl⟩)
    | (go_at_call 155; (with_reducible refine (HP2.out _).mono ?_); rintro r w' ⟨rfl,rfl⟩)
    | (go_at_call 155; (with_reducible refine (HP3.out _).mono ?_); rintro r w' ⟨rfl,rfl⟩))
  go_loop [12] (fun i=>i=.int .i64 0) (fun _=>0)
  case atStart=>rfl
  case round =>
   subst hrel
   go_wp2_with (first
    | (go_at_call 81; refine (hwithin_any _ _ _ _).mono ?_; rw [HT.out]; rintro r w' ⟨rfl,rfl⟩)
    | (go_at_call 82; refine (hisRan_ty ty _).mono ?_; rintro r w2 ⟨rfl,x2⟩; have y2:=x2.facts; have z2:=x2.z0)
    | (go_at_call 156; refine (hisInt_ty ty _).mono ?_; rintro r w3 ⟨rfl,x3⟩; have y3:=x3.facts; have z3:=x3.z0)
    | (go_at_call 79; refine (refIsName_any nm _).mono ?_; rintro r w4 ⟨rfl,x4⟩; have y4:=x4.facts; have z4:=x4.z0))
   all_goals
    go_ret
    exact ⟨ret_bool (by rw [HI.out,HG.out]; try rw [push_ran]
                        first | (simp [*]; done) | (simp_all; done)),exA⟩
 ·have e0:((args.length:Int) == 0)=false:=by rw [beq_eq_false_iff_ne]; omega
  rw [e0] at HG
  have hz:(0:Int) < (args.length:Int):=by omega
  go_enter Tryz.func83,Tryz.ntmps83
  go_wp2_with (first
    | (go_at_call 154; refine (hisOp_any _ _).mono ?_; rw [HO.out]; rintro r w' ⟨rfl,rfl⟩)
    | (go_at_call 103; refine (parts_any _ _).mono ?_; rw [HK.out]; rintro r w' ⟨rfl,rfl⟩)
    | (go_at_call 155; (with_reducible refine (HP1.out _).mono ?_); rintro r w' ⟨rfl,rfl⟩)
    | (go_at_call 155; (with_reducible refine (HP2.out _).mono ?_); rintro r w' ⟨rfl,rfl⟩)
    | (go_at_call 155; (with_reducible refine (HP3.out _).mono ?_); rintro r w' ⟨rfl,rfl⟩))
  go_loop [12] (fun i=>i=.int .i64 0) (fun _=>0)
  case atStart=>rfl
  case round =>
   subst hrel
   go_wp2_with fail
   go_ret
   exact ⟨ret_bool (by rw [HI.out,HG.out]; simp),exA⟩
theorem hreg_plain (regs code pr:Int) (pb:Bool) (op d a b:Int) (ty:Ty) (nm:ByteArray) (A:Option Addr) (cap:Nat) (args:List Int) (w:World) (h1:1 ≤ regs) (h2:regs ≤ 6) (hc1:1 ≤ code) (hc2:code ≤ 1000000) (hal:args.length ≤ 9223372036854775806) (hA:NumsAt w A args) (hpb:(pr == (args.length:Int))=pb) (hop:op ≠ 0∧op ≠ 17∧op ≠ 14∧op ≠ 16∧op ≠ 5∧op ≠ 7∧op ≠ 8∧(op < 105 ∨ 117 < op)) :
  Calls Tryz.prog 83 #[.agg #[.int .i64 op,.int .i64 d,.int .i64 a,.int .i64 b,.int .i64 ty.base,.int .i64 ty.bits,.string ty.name,.bool ty.opt,.bool ty.err,.string nm,.slice A args.length cap],.int .i64 regs,.int .i64 code,.int .i64 pr] w fun e w'=>e=.returned (.bool (instR pb regs code ⟨op,d,a,b,ty,nm,A,cap,args⟩))∧Ext w w':=by
 have n0:(op == 0)=false:=by rw [beq_eq_false_iff_ne]; omega
 have n17:(op == 17)=false:=by rw [beq_eq_false_iff_ne]; omega
 have m14:(op == 14)=false:=by rw [beq_eq_false_iff_ne]; omega
 have n16:(op == 16)=false:=by rw [beq_eq_false_iff_ne]; omega
 have n5:(op == 5)=false:=by rw [beq_eq_false_iff_ne]; omega
 have n7:(op == 7)=false:=by rw [beq_eq_false_iff_ne]; omega
 have n8:(op == 8)=false:=by rw [beq_eq_false_iff_ne]; omega
 have HT:Hid (inB op 105 117=false):=by exact inB_typed (by omega)
 have hq:=run_tz_eql ty
 have hem:nm.toList.isEmpty=emp nm:=rfl
 obtain ⟨k1,k2,k3,hk⟩:∃ k1 k2 k3,partsR op=(k1,k2,k3):=⟨_,_,_,rfl⟩
 have hkk:=partsR_kind op
 rw [hk] at hkk
 have HK:=Lib.hid hk
 have HP1:Hid (∀ w,Calls Tryz.prog 155 #[.int .i64 k1,.int .i64 d,.int .i64 regs,.int .i64 code] w fun e w'=>e=.returned (.bool (isPartB k1 d regs code))∧w=w'):=fun w=>isPart_any k1 d regs code w h1 h2 hc1 hc2 hkk.1
 have HP2:Hid (∀ w,Calls Tryz.prog 155 #[.int .i64 k2,.int .i64 a,.int .i64 regs,.int .i64 code] w fun e w'=>e=.returned (.bool (isPartB k2 a regs code))∧w=w'):=fun w=>isPart_any k2 a regs code w h1 h2 hc1 hc2 hkk.2.1
 have HP3:Hid (∀ w,Calls Tryz.prog 155 #[.int .i64 k3,.int .i64 b,.int .i64 regs,.int .i64 code] w fun e w'=>e=.returned (.bool (isPartB k3 b regs code))∧w=w'):=fun w=>isPart_any k3 b regs code w h1 h2 hc1 hc2 hkk.2.2
 obtain ⟨q1,hq1⟩:∃ q,isPartB k1 d regs code=q:=⟨_,rfl⟩
 obtain ⟨q2,hq2⟩:∃ q,isPartB k2 a regs code=q:=⟨_,rfl⟩
 obtain ⟨q3,hq3⟩:∃ q,isPartB k3 b regs code=q:=⟨_,rfl⟩
 obtain ⟨o,ho⟩:∃ q,isOpB op=q:=⟨_,rfl⟩
 rw [hq1] at HP1
 rw [hq2] at HP2
 rw [hq3] at HP3
 have HO:=Lib.hid ho
 have HA:=Lib.hid hA
 have HPB:=Lib.hid hpb
 have HI:Hid (instR pb regs code ⟨op,d,a,b,ty,nm,A,cap,args⟩=(o && (q1 && (q2 && (q3 && (argsB ⟨op,d,a,b,ty,nm,A,cap,args⟩ && (emp nm && tz ty))))))):=by
  have hr:restR pb ⟨op,d,a,b,ty,nm,A,cap,args⟩=(emp nm && tz ty):=by unfold restR; simp only []; rw [if_neg (by omega),if_neg (by omega),if_neg (by omega),if_neg (by omega),if_neg (by omega),if_neg (by omega)]
  unfold Hid instR
  simp only []
  rw [hr,hk,hq1,hq2,hq3,ho]
 have B0:=Lib.hid (Blk.new w 67 #[.int .i64 op,.int .i64 d,.int .i64 a,.int .i64 b,.int .i64 ty.base,.int .i64 ty.bits,.string ty.name,.bool ty.opt,.bool ty.err,.string nm,.slice A args.length cap])
 clear hk hkk hq1 hq2 hq3 ho hA hpb
 have HG:=Lib.hid (argsB_other (x:=⟨op,d,a,b,ty,nm,A,cap,args⟩) (show op ≠ 14 by omega))
 rw [args_empty3] at HG
 have n14:((op:Int) != 14)=true:=by rw [bne_iff_ne]; exact (show op ≠ 14 by omega)
 by_cases hall4:(o && (q1 && (q2 && q3)))=true
 case' neg =>
  cases o <;> cases q1 <;> cases q2 <;> cases q3
  all_goals try (exact absurd rfl hall4)
  all_goals
   clear hall4
   go_enter Tryz.func83,Tryz.ntmps83
   go_wp2_with (first
    | (go_at_call 154; refine (hisOp_any _ _).mono ?_; rw [HO.out]; rintro r w' ⟨rfl,rfl⟩)
    | (go_at_call 103; refine (parts_any _ _).mono ?_; rw [HK.out]; rintro r w' ⟨rfl,rfl⟩)
    | (go_at_call 155; (with_reducible refine (HP1.out _).mono ?_); rintro r w' ⟨rfl,rfl⟩)
    | (go_at_call 155; (with_reducible refine (HP2.out _).mono ?_); rintro r w' ⟨rfl,rfl⟩)
    | (go_at_call 155; (with_reducible refine (HP3.out _).mono ?_); rintro r w' ⟨rfl,rfl⟩))
   go_ret
   exact ⟨ret_bool (by rw [HI.out]; simp),exA⟩
 obtain ⟨rfl,rfl,rfl,rfl⟩:o=true∧q1=true∧q2=true∧q3=true:=by revert hall4; cases o <;> cases q1 <;> cases q2 <;> cases q3 <;> simp
 clear hall4
 by_cases h0:args.length=0
 ·have e0:((args.length:Int) == 0)=true:=by rw [h0]; rfl
  rw [e0] at HG
  have hz:¬ (0:Int) < (args.length:Int):=by omega
  go_enter Tryz.func83,Tryz.ntmps83
  go_wp2_with (first
    | (go_at_call 154; refine (hisOp_any _ _).mono ?_; rw [HO.out]; rintro r w' ⟨rfl,rfl⟩)
    | (go_at_call 103; refine (parts_any _ _).mono ?_; rw [HK.out]; rintro r w' ⟨rfl,rfl⟩)
    | (go_at_call 155; (with_reducible refine (HP1.out _).mono ?_); rintro r w' ⟨rfl,rfl⟩)
    | (go_at_call 155; (with_reducible refine (HP2.out _).mono ?_); rintro r w' ⟨rfl,rfl⟩)
    | (go_at_call 155; (with_reducible refine (HP3.out _).mono ?_); rintro r w' ⟨rfl,rfl⟩))
  go_loop [12] (fun i=>i=.int .i64 0) (fun _=>0)
  case atStart=>rfl
  case round =>
   subst hrel
   go_wp2_with (first
    | (go_at_call 81; refine (hwithin_any _ _ _ _).mono ?_; rw [HT.out]; rintro r w' ⟨rfl,rfl⟩)
    | (go_at_call 82; refine (hisRan_ty ty _).mono ?_; rintro r w2 ⟨rfl,x2⟩; have y2:=x2.facts; have z2:=x2.z0)
    | (go_at_call 156; refine (hisInt_ty ty _).mono ?_; rintro r w3 ⟨rfl,x3⟩; have y3:=x3.facts; have z3:=x3.z0)
    | (go_at_call 79; refine (refIsName_any nm _).mono ?_; rintro r w4 ⟨rfl,x4⟩; have y4:=x4.facts; have z4:=x4.z0))
   all_goals
    go_ret
    exact ⟨ret_bool (by rw [HI.out,HG.out]; try rw [push_ran]
                        first | (simp [*]; done) | (simp_all; done)),exA⟩
 ·have e0:((args.length:Int) == 0)=false:=by rw [beq_eq_false_iff_ne]; omega
  rw [e0] at HG
  have hz:(0:Int) < (args.length:Int):=by omega
  go_enter Tryz.func83,Tryz.ntmps83
  go_wp2_with (first
    | (go_at_call 154; refine (hisOp_any _ _).mono ?_; rw [HO.out]; rintro r w' ⟨rfl,rfl⟩)
    | (go_at_call 103; refine (parts_any _ _).mono ?_; rw [HK.out]; rintro r w' ⟨rfl,rfl⟩)
    | (go_at_call 155; (with_reducible refine (HP1.out _).mono ?_); rintro r w' ⟨rfl,rfl⟩)
    | (go_at_call 155; (with_reducible refine (HP2.out _).mono ?_); rintro r w' ⟨rfl,rfl⟩)
    | (go_at_call 155; (with_reducible refine (HP3.out _).mono ?_); rintro r w' ⟨rfl,rfl⟩))
  go_loop [12] (fun i=>i=.int .i64 0) (fun _=>0)
  case atStart=>rfl
  case round =>
   subst hrel
   go_wp2_with fail
   go_ret
   exact ⟨ret_bool (by rw [HI.out,HG.out]; simp),exA⟩
theorem hisReg_any (regs code pr:Int) (pb:Bool) (x:Rg) (w:World) (h1:1 ≤ regs) (h2:regs ≤ 6) (hc1:1 ≤ code) (hc2:code ≤ 1000000) (hal:x.args.length ≤ 9223372036854775806) (hA:NumsAt w x.A x.args) (hpb:(pr == (x.args.length:Int))=pb) :
  Calls Tryz.prog 83 #[.agg #[.int .i64 x.op,.int .i64 x.d,.int .i64 x.a,.int .i64 x.b,.int .i64 x.ty.base,.int .i64 x.ty.bits,.string x.ty.name,.bool x.ty.opt,.bool x.ty.err,.string x.name,.slice x.A x.args.length x.cap],.int .i64 regs,.int .i64 code,.int .i64 pr] w fun e w'=>e=.returned (.bool (instR pb regs code x))∧Ext w w':=by
 obtain ⟨op,d,a,b,ty,nm,A,cap,args⟩:=x
 have h:op=0 ∨ op=17 ∨ op=16 ∨ op=5 ∨ op=7 ∨ op=8 ∨ op=14 ∨ (op ≠ 0∧op ≠ 17∧op ≠ 14∧op ≠ 16∧op ≠ 5∧op ≠ 7∧op ≠ 8∧105 ≤ op∧op ≤ 117) ∨ (op ≠ 0∧op ≠ 17∧op ≠ 14∧op ≠ 16∧op ≠ 5∧op ≠ 7∧op ≠ 8∧(op < 105 ∨ 117 < op)):=by omega
 rcases h with h | h | h | h | h | h | h | h | h
 ·exact hreg_li regs code pr pb _ d a b ty nm A cap args w h1 h2 hc1 hc2 hal hA hpb h
 ·exact hreg_stop regs code pr pb _ d a b ty nm A cap args w h1 h2 hc1 hc2 hal hA hpb h
 ·exact hreg_error regs code pr pb _ d a b ty nm A cap args w h1 h2 hc1 hc2 hal hA hpb h
 ·exact hreg_k5 regs code pr pb _ d a b ty nm A cap args w h1 h2 hc1 hc2 hal hA hpb h
 ·exact hreg_k7 regs code pr pb _ d a b ty nm A cap args w h1 h2 hc1 hc2 hal hA hpb h
 ·exact hreg_k8 regs code pr pb _ d a b ty nm A cap args w h1 h2 hc1 hc2 hal hA hpb h
 ·exact hreg_call regs code pr pb _ d a b ty nm A cap args w h1 h2 hc1 hc2 hal hA hpb h
 ·exact hreg_typed regs code pr pb _ d a b ty nm A cap args w h1 h2 hc1 hc2 hal hA hpb h
 ·exact hreg_plain regs code pr pb _ d a b ty nm A cap args w h1 h2 hc1 hc2 hal hA hpb h
theorem hfound_any (A:Option Addr) (cap:Nat) (l:List Rf) {len:Nat} (n:ByteArray) (w:World) (hlen:len=l.length) (hA:RfAt w A l) (hl:len ≤ 9223372036854775806) :
  Calls Tryz.prog 80 #[.slice A len cap,.string n] w fun e w'=>e=.returned (.int .i64 (indexR l n))∧w=w':=by
 have HLn:=Lib.hid hlen
 clear hlen
 have HA:=Lib.hid hA
 clear hA
 go_enter Tryz.func80,Tryz.ntmps80
 go_wp2
 go_loop [5] (fun i=>∃ k:Nat,k ≤ len∧i=.int .i64 k∧∀ j,j < k → ((l.getD j default).name.toList == n.toList)=false) (fun i=>len - (intOf i).toNat)
 case atStart=>exact ⟨0,Nat.zero_le _,rfl,by omega⟩
 case round =>
  obtain ⟨k,hk,rfl,hnone⟩:=hrel
  have HN:=Lib.hid hnone; clear hnone
  by_cases hlt:k < len
  ·obtain ⟨f,hf⟩:∃ f,f=l.getD k default:=⟨_,rfl⟩
   obtain ⟨b,off,rfl,hb,c0,_⟩:=HA.out.at_ (k:=k) (by rw [← HLn.out]; exact hlt) hf
   have HF:=Lib.hid hf
   clear hf
   go_wp2_with fail
   case roundEnd =>
    have h9:(f.name.toList == n.toList)=false:=by assumption
    refine ⟨⟨k + 1,by omega,by go_num,fun j hj=>?_⟩,by simp [intOf]; omega⟩
    rcases Nat.lt_or_ge j k with h | h
    ·exact HN.out j h
    ·obtain rfl:j=k:=by omega
     rw [← HF.out]; exact h9
   all_goals
    have h9:(f.name.toList == n.toList)=true:=by assumption
    go_ret
    exact ⟨ret_int (by unfold indexR; exact (findI_hit (by rw [← HLn.out]; exact hlt) (by rw [← HF.out]; exact h9) HN.out).symm),rfl⟩
  ·go_wp2_with fail
   go_ret
   exact ⟨ret_int (by unfold indexR; exact (findI_none (fun j hj=>HN.out j (by have:=HLn.out; omega))).symm),rfl⟩
def parR (l:List Rf) (n:ByteArray):Int:=if indexR l n < 0 then -1 else (l.getD (indexR l n).toNat default).params
theorem indexR_cases (l:List Rf) (n:ByteArray):indexR l n=-1 ∨ ∃ j:Nat,indexR l n=j∧j < l.length:=by
 unfold indexR
 rcases findI_cases (fun k=>(l.getD k default).name.toList == n.toList) l.length with ⟨h,_⟩ | ⟨j,h,hj,_⟩
 ·exact .inl h
 ·exact .inr ⟨j,h,hj⟩
theorem par_call (l:List Rf) (n:ByteArray) (k:Nat):(parR l n == (k:Int))=callB l n k:=by
 unfold parR callB
 rcases indexR_cases l n with h | ⟨j,h,_⟩
 ·rw [h,if_pos (by decide),decide_eq_false (by decide),Bool.false_and,beq_eq_false_iff_ne]; omega
 ·rw [h,if_neg (by omega),decide_eq_true (by omega),Bool.true_and]
theorem hparams_any (A:Option Addr) (cap:Nat) (l:List Rf) {len:Nat} (n:ByteArray) (w:World) (hlen:len=l.length) (hA:RfAt w A l) (hl:len ≤ 9223372036854775806) :
  Calls Tryz.prog 84 #[.slice A len cap,.string n] w fun e w'=>e=.returned (.int .i64 (parR l n))∧w=w':=by
 have HC:=Lib.hid (hfound_any A cap l n w hlen hA hl)
 have HLn:=Lib.hid hlen
 clear hlen
 rcases indexR_cases l n with h | ⟨j,h,hj⟩
 ·have HP:Hid (parR l n=-1):=by unfold Hid parR; rw [h]; rfl
  rw [h] at HC
  clear h
  go_enter Tryz.func84,Tryz.ntmps84
  go_wp2_with (first | (go_at_call 80; (with_reducible refine HC.out.mono ?_); rintro r w' ⟨rfl,rfl⟩))
  go_ret
  exact ⟨ret_int HP.out.symm,rfl⟩
 ·obtain ⟨f,hf⟩:∃ f,f=l.getD j default:=⟨_,rfl⟩
  obtain ⟨b,off,rfl,hb,c0,c1,_⟩:=hA.at_ (k:=j) hj hf
  have HP:Hid (parR l n=f.params):=by unfold Hid parR; rw [h,if_neg (by omega),hf]; rfl
  rw [h] at HC
  have hj2:j < len:=by have:=HLn.out; omega
  clear h hf hj
  go_enter Tryz.func84,Tryz.ntmps84
  go_wp2_with (first | (go_at_call 80; (with_reducible refine HC.out.mono ?_); rintro r w' ⟨rfl,rfl⟩))
  go_ret
  exact ⟨ret_int HP.out.symm,rfl⟩
theorem hcount_any (A:Option Addr) (cap:Nat) (l:List Rf) {len:Nat} (w:World) (hlen:len=l.length) (hA:RfAt w A l) (hl:len ≤ 9223372036854775806) (hc:countR l ≤ 9223372036854775806) :
  Calls Tryz.prog 71 #[.slice A len cap] w fun e w'=>e=.returned (.int .i64 (countR l))∧w=w':=by
 have HLn:=Lib.hid hlen
 clear hlen
 have HA:=Lib.hid hA
 clear hA
 go_enter Tryz.func71,Tryz.ntmps71
 go_wp2
 go_loop [3,4] (fun n i=>∃ k:Nat,k ≤ len∧i=.int .i64 k∧n=.int .i64 (countR (l.take k))) (fun _ i=>len - (intOf i).toNat)
 case atStart=>exact ⟨0,Nat.zero_le _,rfl,rfl⟩
 case round =>
  obtain ⟨k,hk,rfl,rfl⟩:=hrel
  have hcl:=countR_le l k
  by_cases hlt:k < len
  ·obtain ⟨f,hf⟩:∃ f,f=l.getD k default:=⟨_,rfl⟩
   obtain ⟨b,off,rfl,hb,_,_,_,_,_,_,_,_,c8,_⟩:=HA.out.at_ (k:=k) (by rw [← HLn.out]; exact hlt) hf
   have hs:=countR_snoc l k (by rw [← HLn.out]; exact hlt)
   rw [← hf] at hs
   have hs1:=countR_le l (k + 1)
   have HS:=Lib.hid hs
   have hs2:countR (l.take k) + f.code.length ≤ 9223372036854775806:=by omega
   clear hf hs hs1
   go_wp2_with fail
   go_round
   case rel=>exact ⟨k + 1,by omega,by go_num,by rw [HS.out]; go_num⟩
   case measure=>simp [intOf]; omega
  ·go_wp2_with fail
   go_ret
   exact ⟨ret_int (by rw [List.take_of_length_le (by have:=HLn.out; omega)]),rfl⟩
end Go.Proofs.YtknaemlnhediaaaGreatDoor.c
