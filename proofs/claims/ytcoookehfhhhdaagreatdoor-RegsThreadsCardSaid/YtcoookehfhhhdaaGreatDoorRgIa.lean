/- Contract of regs.bound.isInst: plain operations without a drawn region. The table strings.asciiSpace holds what its text lays. Contract of regs.bound.isInst: a number, the stop. The table strings.asciiSpace holds what its text lays. -/
import Derived.Test.YtcoookehfhhhdaaGreatDoorRgV
import Derived.Deep.RegionHeld3
namespace Go.Proofs.YtcoookehfhhhdaaGreatDoor.c
open Go.RowKit
set_option linter.unusedVariables false
set_option maxRecDepth 100000
set_option maxHeartbeats 6400000
set_option linter.unusedSimpArgs false
theorem inst_null (regs code:Int) (fn:Value) (pb:Bool) (op d a b:Int) (ty:Ty) (nm:ByteArray) (A:Option Addr) (cap:Nat) (args:List Int) (w:World) (g:Laid w) (h1:1 ≤ regs) (h2:regs ≤ 6) (hc1:1 ≤ code) (hc2:code ≤ 1000000) (hal:args.length ≤ 9223372036854775806) (hop:op=1) :
  Calls Tryz.prog 100 #[.agg #[.int .i64 regs,.int .i64 code,fn],.agg #[.int .i64 op,.int .i64 d,.int .i64 a,.int .i64 b,.int .i64 ty.base,.int .i64 ty.bits,.string ty.name,.bool ty.opt,.bool ty.err,.string nm,.slice A args.length cap]] w fun e w'=>e=.returned (.bool (instR pb regs code ⟨op,d,a,b,ty,nm,A,cap,args⟩))∧Ext w w':=by
 have hq:=run_tz_eql ty
 have hem:nm.toList.isEmpty=emp nm:=rfl
 subst hop
 ·skip
  have HI:Hid (instR pb regs code ⟨1,d,a,b,ty,nm,A,cap,args⟩=(isPartB (partsR 1).1 d regs code && (isPartB (partsR 1).2.1 a regs code && (isPartB (partsR 1).2.2 b regs code && (tz ty && (emp nm && ((args.length:Int) == 0))))))):=inst_six (x:=⟨1,d,a,b,ty,nm,A,cap,args⟩) rfl (show (1:Int) ≠ 14 by decide) rfl rfl
  have HIN:Hid (In64 1):=⟨by decide,by decide⟩
  have HT1:Hid (inB 1 105 117=false):=rfl
  have HT2:Hid (inB 1 118 123=false):=rfl
  have XB:=Lib.hid (XBx w regs code fn 1 d a b ty nm A cap args.length)
  go_enter Tryz.func100,Tryz.ntmps100
  go_wp2_with fail
  go_region_held3 (fun w'=>w'.cell? ⟨w.heap.size + 1,1,none⟩=some (.int .i64 d)∧w'.cell? ⟨w.heap.size + 1,2,none⟩=some (.int .i64 a)∧w'.cell? ⟨w.heap.size + 1,3,none⟩=some (.int .i64 b)∧w'.cell? ⟨w.heap.size + 1,4,none⟩=some (.int .i64 ty.base)∧w'.cell? ⟨w.heap.size + 1,5,none⟩=some (.int .i64 ty.bits)∧w'.cell? ⟨w.heap.size + 1,6,none⟩=some (.string ty.name)∧w'.cell? ⟨w.heap.size + 1,7,none⟩=some (.bool ty.opt)∧w'.cell? ⟨w.heap.size + 1,8,none⟩=some (.bool ty.err)∧w'.cell? ⟨w.heap.size + 1,9,none⟩=some (.string nm)∧w'.cell? ⟨w.heap.size + 1,10,none⟩=some (.slice A args.length cap)) ((first | exact XB.out _ (Ext.refl _).drew | exact XB.out _ ((Ext.refl _).drew.alloc _) | exact XB.out _ ((Ext.refl _).alloc _).drew | (exact XB.out _ exL))) (fail)
  obtain ⟨m0,hm0⟩:∃ m,(d == 0)=m:=⟨_,rfl⟩
  obtain ⟨m1,hm1⟩:∃ m,(a == 0)=m:=⟨_,rfl⟩
  obtain ⟨m2,hm2⟩:∃ m,(b == 0)=m:=⟨_,rfl⟩
  obtain ⟨m3,hm3⟩:∃ m,tz ty=m:=⟨_,rfl⟩
  obtain ⟨m4,hm4⟩:∃ m,emp nm=m:=⟨_,rfl⟩
  obtain ⟨m5,hm5⟩:∃ m,((args.length:Int) == 0)=m:=⟨_,rfl⟩
  have M0:Hid (IM w ((((w.alloc (.cells #[.int .i64 regs,.int .i64 code,fn] 153)).alloc (.cells #[.int .i64 1,.int .i64 d,.int .i64 a,.int .i64 b,.int .i64 ty.base,.int .i64 ty.bits,.string ty.name,.bool ty.opt,.bool ty.err,.string nm,.slice A args.length cap] 83)).alloc (.cells #[.bool (d == 0),.bool (a == 0),.bool (b == 0),.bool (tz ty),.bool (emp nm),.bool ((args.length:Int) == 0)] 192)).drew) w.heap.size #[.int .i64 regs,.int .i64 code,fn] (xC 1 d a b ty nm A cap args.length) #[.bool m0,.bool m1,.bool m2,.bool m3,.bool m4,.bool m5]):=by
   rw [← hm0,← hm1,← hm2,← hm3,← hm4,← hm5]
   exact IM.start ..
  have HM:Hid ((d == 0)=m0∧(a == 0)=m1∧(b == 0)=m2∧tz ty=m3∧emp nm=m4∧((args.length:Int) == 0)=m5):=⟨hm0,hm1,hm2,hm3,hm4,hm5⟩
  generalize ((((w.alloc (.cells #[.int .i64 regs,.int .i64 code,fn] 153)).alloc (.cells #[.int .i64 1,.int .i64 d,.int .i64 a,.int .i64 b,.int .i64 ty.base,.int .i64 ty.bits,.string ty.name,.bool ty.opt,.bool ty.err,.string nm,.slice A args.length cap] 83)).alloc (.cells #[.bool (d == 0),.bool (a == 0),.bool (b == 0),.bool (tz ty),.bool (emp nm),.bool ((args.length:Int) == 0)] 192)).drew)=w1 at M0 ⊢
  clear hm0 hm1 hm2 hm3 hm4 hm5 XB hq hem
  obtain ⟨b0,b1,b2,x0,x1,x2,x3,x4,x5,x6,x7,x8,x9,x10,f0,f1,f2,f3,f4,f5,r0,r1,r2,r3,r4,r5,zb,zx,zf⟩:=IM.cs M0.out
  have h6:=run_six
  go_wp2_with (first
   | (go_at_call 137; refine (isOperation_as (t:=false) (c:=false) _ HIN.out HT1.out HT2.out).mono ?_; rintro r w' ⟨rfl,rfl⟩)
   | (go_at_call 138; refine (isReg_any regs code fn _ _ h1 h2).mono ?_; rintro r w2 ⟨rfl,x2⟩; have y2:=x2.facts)
   | (go_at_call 78; refine (gwithin_any _ _ _ _).mono ?_; rintro r w' ⟨rfl,rfl⟩))
  have x9w:=M0.out.ext
  go_ret
  exact ⟨ret_bool (by
   obtain ⟨rfl,rfl,rfl,rfl,rfl,rfl⟩:=HM.out
   rw [HI.out]
   first | done | rfl | (simp; done)),exL⟩
theorem inst_jump (regs code:Int) (fn:Value) (pb:Bool) (op d a b:Int) (ty:Ty) (nm:ByteArray) (A:Option Addr) (cap:Nat) (args:List Int) (w:World) (g:Laid w) (h1:1 ≤ regs) (h2:regs ≤ 6) (hc1:1 ≤ code) (hc2:code ≤ 1000000) (hal:args.length ≤ 9223372036854775806) (hop:op=12) :
  Calls Tryz.prog 100 #[.agg #[.int .i64 regs,.int .i64 code,fn],.agg #[.int .i64 op,.int .i64 d,.int .i64 a,.int .i64 b,.int .i64 ty.base,.int .i64 ty.bits,.string ty.name,.bool ty.opt,.bool ty.err,.string nm,.slice A args.length cap]] w fun e w'=>e=.returned (.bool (instR pb regs code ⟨op,d,a,b,ty,nm,A,cap,args⟩))∧Ext w w':=by
 have hq:=run_tz_eql ty
 have hem:nm.toList.isEmpty=emp nm:=rfl
 subst hop
 ·skip
  have HI:Hid (instR pb regs code ⟨12,d,a,b,ty,nm,A,cap,args⟩=(isPartB (partsR 12).1 d regs code && (isPartB (partsR 12).2.1 a regs code && (isPartB (partsR 12).2.2 b regs code && (tz ty && (emp nm && ((args.length:Int) == 0))))))):=inst_six (x:=⟨12,d,a,b,ty,nm,A,cap,args⟩) rfl (show (12:Int) ≠ 14 by decide) rfl rfl
  have HIN:Hid (In64 12):=⟨by decide,by decide⟩
  have HT1:Hid (inB 12 105 117=false):=rfl
  have HT2:Hid (inB 12 118 123=false):=rfl
  have XB:=Lib.hid (XBx w regs code fn 12 d a b ty nm A cap args.length)
  go_enter Tryz.func100,Tryz.ntmps100
  go_wp2_with fail
  go_region_held3 (fun w'=>w'.cell? ⟨w.heap.size + 1,1,none⟩=some (.int .i64 d)∧w'.cell? ⟨w.heap.size + 1,2,none⟩=some (.int .i64 a)∧w'.cell? ⟨w.heap.size + 1,3,none⟩=some (.int .i64 b)∧w'.cell? ⟨w.heap.size + 1,4,none⟩=some (.int .i64 ty.base)∧w'.cell? ⟨w.heap.size + 1,5,none⟩=some (.int .i64 ty.bits)∧w'.cell? ⟨w.heap.size + 1,6,none⟩=some (.string ty.name)∧w'.cell? ⟨w.heap.size + 1,7,none⟩=some (.bool ty.opt)∧w'.cell? ⟨w.heap.size + 1,8,none⟩=some (.bool ty.err)∧w'.cell? ⟨w.heap.size + 1,9,none⟩=some (.string nm)∧w'.cell? ⟨w.heap.size + 1,10,none⟩=some (.slice A args.length cap)) ((first | exact XB.out _ (Ext.refl _).drew | exact XB.out _ ((Ext.refl _).drew.alloc _) | exact XB.out _ ((Ext.refl _).alloc _).drew | (exact XB.out _ exL))) (fail)
  obtain ⟨m0,hm0⟩:∃ m,(d == 0)=m:=⟨_,rfl⟩
  obtain ⟨m1,hm1⟩:∃ m,(a == 0)=m:=⟨_,rfl⟩
  obtain ⟨m2,hm2⟩:∃ m,(b == 0)=m:=⟨_,rfl⟩
  obtain ⟨m3,hm3⟩:∃ m,tz ty=m:=⟨_,rfl⟩
  obtain ⟨m4,hm4⟩:∃ m,emp nm=m:=⟨_,rfl⟩
  obtain ⟨m5,hm5⟩:∃ m,((args.length:Int) == 0)=m:=⟨_,rfl⟩
  have M0:Hid (IM w ((((w.alloc (.cells #[.int .i64 regs,.int .i64 code,fn] 153)).alloc (.cells #[.int .i64 12,.int .i64 d,.int .i64 a,.int .i64 b,.int .i64 ty.base,.int .i64 ty.bits,.string ty.name,.bool ty.opt,.bool ty.err,.string nm,.slice A args.length cap] 83)).alloc (.cells #[.bool (d == 0),.bool (a == 0),.bool (b == 0),.bool (tz ty),.bool (emp nm),.bool ((args.length:Int) == 0)] 192)).drew) w.heap.size #[.int .i64 regs,.int .i64 code,fn] (xC 12 d a b ty nm A cap args.length) #[.bool m0,.bool m1,.bool m2,.bool m3,.bool m4,.bool m5]):=by
   rw [← hm0,← hm1,← hm2,← hm3,← hm4,← hm5]
   exact IM.start ..
  have HM:Hid ((d == 0)=m0∧(a == 0)=m1∧(b == 0)=m2∧tz ty=m3∧emp nm=m4∧((args.length:Int) == 0)=m5):=⟨hm0,hm1,hm2,hm3,hm4,hm5⟩
  generalize ((((w.alloc (.cells #[.int .i64 regs,.int .i64 code,fn] 153)).alloc (.cells #[.int .i64 12,.int .i64 d,.int .i64 a,.int .i64 b,.int .i64 ty.base,.int .i64 ty.bits,.string ty.name,.bool ty.opt,.bool ty.err,.string nm,.slice A args.length cap] 83)).alloc (.cells #[.bool (d == 0),.bool (a == 0),.bool (b == 0),.bool (tz ty),.bool (emp nm),.bool ((args.length:Int) == 0)] 192)).drew)=w1 at M0 ⊢
  clear hm0 hm1 hm2 hm3 hm4 hm5 XB hq hem
  obtain ⟨b0,b1,b2,x0,x1,x2,x3,x4,x5,x6,x7,x8,x9,x10,f0,f1,f2,f3,f4,f5,r0,r1,r2,r3,r4,r5,zb,zx,zf⟩:=IM.cs M0.out
  have h6:=run_six
  go_wp2_with (first
   | (go_at_call 137; refine (isOperation_as (t:=false) (c:=false) _ HIN.out HT1.out HT2.out).mono ?_; rintro r w' ⟨rfl,rfl⟩)
   | (go_at_call 138; refine (isReg_any regs code fn _ _ h1 h2).mono ?_; rintro r w2 ⟨rfl,x2⟩; have y2:=x2.facts)
   | (go_at_call 78; refine (gwithin_any _ _ _ _).mono ?_; rintro r w' ⟨rfl,rfl⟩))
  have x9w:=M0.out.ext
  go_ret
  exact ⟨ret_bool (by
   obtain ⟨rfl,rfl,rfl,rfl,rfl,rfl⟩:=HM.out
   rw [HI.out]
   first | done | rfl | (simp; done)),exL⟩
theorem inst_ret (regs code:Int) (fn:Value) (pb:Bool) (op d a b:Int) (ty:Ty) (nm:ByteArray) (A:Option Addr) (cap:Nat) (args:List Int) (w:World) (g:Laid w) (h1:1 ≤ regs) (h2:regs ≤ 6) (hc1:1 ≤ code) (hc2:code ≤ 1000000) (hal:args.length ≤ 9223372036854775806) (hop:op=15) :
  Calls Tryz.prog 100 #[.agg #[.int .i64 regs,.int .i64 code,fn],.agg #[.int .i64 op,.int .i64 d,.int .i64 a,.int .i64 b,.int .i64 ty.base,.int .i64 ty.bits,.string ty.name,.bool ty.opt,.bool ty.err,.string nm,.slice A args.length cap]] w fun e w'=>e=.returned (.bool (instR pb regs code ⟨op,d,a,b,ty,nm,A,cap,args⟩))∧Ext w w':=by
 have hq:=run_tz_eql ty
 have hem:nm.toList.isEmpty=emp nm:=rfl
 subst hop
 ·skip
  have HI:Hid (instR pb regs code ⟨15,d,a,b,ty,nm,A,cap,args⟩=(isPartB (partsR 15).1 d regs code && (isPartB (partsR 15).2.1 a regs code && (isPartB (partsR 15).2.2 b regs code && (tz ty && (emp nm && ((args.length:Int) == 0))))))):=inst_six (x:=⟨15,d,a,b,ty,nm,A,cap,args⟩) rfl (show (15:Int) ≠ 14 by decide) rfl rfl
  have HIN:Hid (In64 15):=⟨by decide,by decide⟩
  have HT1:Hid (inB 15 105 117=false):=rfl
  have HT2:Hid (inB 15 118 123=false):=rfl
  have XB:=Lib.hid (XBx w regs code fn 15 d a b ty nm A cap args.length)
  go_enter Tryz.func100,Tryz.ntmps100
  go_wp2_with fail
  go_region_held3 (fun w'=>w'.cell? ⟨w.heap.size + 1,1,none⟩=some (.int .i64 d)∧w'.cell? ⟨w.heap.size + 1,2,none⟩=some (.int .i64 a)∧w'.cell? ⟨w.heap.size + 1,3,none⟩=some (.int .i64 b)∧w'.cell? ⟨w.heap.size + 1,4,none⟩=some (.int .i64 ty.base)∧w'.cell? ⟨w.heap.size + 1,5,none⟩=some (.int .i64 ty.bits)∧w'.cell? ⟨w.heap.size + 1,6,none⟩=some (.string ty.name)∧w'.cell? ⟨w.heap.size + 1,7,none⟩=some (.bool ty.opt)∧w'.cell? ⟨w.heap.size + 1,8,none⟩=some (.bool ty.err)∧w'.cell? ⟨w.heap.size + 1,9,none⟩=some (.string nm)∧w'.cell? ⟨w.heap.size + 1,10,none⟩=some (.slice A args.length cap)) ((first | exact XB.out _ (Ext.refl _).drew | exact XB.out _ ((Ext.refl _).drew.alloc _) | exact XB.out _ ((Ext.refl _).alloc _).drew | (exact XB.out _ exL))) (fail)
  obtain ⟨m0,hm0⟩:∃ m,(d == 0)=m:=⟨_,rfl⟩
  obtain ⟨m1,hm1⟩:∃ m,(a == 0)=m:=⟨_,rfl⟩
  obtain ⟨m2,hm2⟩:∃ m,(b == 0)=m:=⟨_,rfl⟩
  obtain ⟨m3,hm3⟩:∃ m,tz ty=m:=⟨_,rfl⟩
  obtain ⟨m4,hm4⟩:∃ m,emp nm=m:=⟨_,rfl⟩
  obtain ⟨m5,hm5⟩:∃ m,((args.length:Int) == 0)=m:=⟨_,rfl⟩
  have M0:Hid (IM w ((((w.alloc (.cells #[.int .i64 regs,.int .i64 code,fn] 153)).alloc (.cells #[.int .i64 15,.int .i64 d,.int .i64 a,.int .i64 b,.int .i64 ty.base,.int .i64 ty.bits,.string ty.name,.bool ty.opt,.bool ty.err,.string nm,.slice A args.length cap] 83)).alloc (.cells #[.bool (d == 0),.bool (a == 0),.bool (b == 0),.bool (tz ty),.bool (emp nm),.bool ((args.length:Int) == 0)] 192)).drew) w.heap.size #[.int .i64 regs,.int .i64 code,fn] (xC 15 d a b ty nm A cap args.length) #[.bool m0,.bool m1,.bool m2,.bool m3,.bool m4,.bool m5]):=by
   rw [← hm0,← hm1,← hm2,← hm3,← hm4,← hm5]
   exact IM.start ..
  have HM:Hid ((d == 0)=m0∧(a == 0)=m1∧(b == 0)=m2∧tz ty=m3∧emp nm=m4∧((args.length:Int) == 0)=m5):=⟨hm0,hm1,hm2,hm3,hm4,hm5⟩
  generalize ((((w.alloc (.cells #[.int .i64 regs,.int .i64 code,fn] 153)).alloc (.cells #[.int .i64 15,.int .i64 d,.int .i64 a,.int .i64 b,.int .i64 ty.base,.int .i64 ty.bits,.string ty.name,.bool ty.opt,.bool ty.err,.string nm,.slice A args.length cap] 83)).alloc (.cells #[.bool (d == 0),.bool (a == 0),.bool (b == 0),.bool (tz ty),.bool (emp nm),.bool ((args.length:Int) == 0)] 192)).drew)=w1 at M0 ⊢
  clear hm0 hm1 hm2 hm3 hm4 hm5 XB hq hem
  obtain ⟨b0,b1,b2,x0,x1,x2,x3,x4,x5,x6,x7,x8,x9,x10,f0,f1,f2,f3,f4,f5,r0,r1,r2,r3,r4,r5,zb,zx,zf⟩:=IM.cs M0.out
  have h6:=run_six
  go_wp2_with (first
   | (go_at_call 137; refine (isOperation_as (t:=false) (c:=false) _ HIN.out HT1.out HT2.out).mono ?_; rintro r w' ⟨rfl,rfl⟩)
   | (go_at_call 138; refine (isReg_any regs code fn _ _ h1 h2).mono ?_; rintro r w2 ⟨rfl,x2⟩; have y2:=x2.facts)
   | (go_at_call 78; refine (gwithin_any _ _ _ _).mono ?_; rintro r w' ⟨rfl,rfl⟩))
  have x9w:=M0.out.ext
  go_ret
  exact ⟨ret_bool (by
   obtain ⟨rfl,rfl,rfl,rfl,rfl,rfl⟩:=HM.out
   rw [HI.out]
   first | done | rfl | (simp; done)),exL⟩
theorem inst_stopR (regs code:Int) (fn:Value) (pb:Bool) (op d a b:Int) (ty:Ty) (nm:ByteArray) (A:Option Addr) (cap:Nat) (args:List Int) (w:World) (g:Laid w) (h1:1 ≤ regs) (h2:regs ≤ 6) (hc1:1 ≤ code) (hc2:code ≤ 1000000) (hal:args.length ≤ 9223372036854775806) (hop:op=17) :
  Calls Tryz.prog 100 #[.agg #[.int .i64 regs,.int .i64 code,fn],.agg #[.int .i64 op,.int .i64 d,.int .i64 a,.int .i64 b,.int .i64 ty.base,.int .i64 ty.bits,.string ty.name,.bool ty.opt,.bool ty.err,.string nm,.slice A args.length cap]] w fun e w'=>e=.returned (.bool (instR pb regs code ⟨op,d,a,b,ty,nm,A,cap,args⟩))∧Ext w w':=by
 subst hop
 have hq:=run_tz_eql ty
 have hem:nm.toList.isEmpty=emp nm:=rfl
 have HI:=Lib.hid (@inst_stop pb regs code d a b ty nm A cap args)
 have HIN:Hid (In64 17):=⟨by decide,by decide⟩
 have HT1:Hid (inB 17 105 117=false):=rfl
 have HT2:Hid (inB 17 118 123=false):=rfl
 have XB:=Lib.hid (XBx w regs code fn 17 d a b ty nm A cap args.length)
 go_enter Tryz.func100,Tryz.ntmps100
 go_wp2_with fail
 go_region_held3 (fun w'=>w'.cell? ⟨w.heap.size + 1,1,none⟩=some (.int .i64 d)∧w'.cell? ⟨w.heap.size + 1,2,none⟩=some (.int .i64 a)∧w'.cell? ⟨w.heap.size + 1,3,none⟩=some (.int .i64 b)∧w'.cell? ⟨w.heap.size + 1,4,none⟩=some (.int .i64 ty.base)∧w'.cell? ⟨w.heap.size + 1,5,none⟩=some (.int .i64 ty.bits)∧w'.cell? ⟨w.heap.size + 1,6,none⟩=some (.string ty.name)∧w'.cell? ⟨w.heap.size + 1,7,none⟩=some (.bool ty.opt)∧w'.cell? ⟨w.heap.size + 1,8,none⟩=some (.bool ty.err)∧w'.cell? ⟨w.heap.size + 1,9,none⟩=some (.string nm)∧w'.cell? ⟨w.heap.size + 1,10,none⟩=some (.slice A args.length cap)) ((first | exact XB.out _ (Ext.refl _).drew | exact XB.out _ ((Ext.refl _).drew.alloc _) | exact XB.out _ ((Ext.refl _).alloc _).drew | (exact XB.out _ exL))) (fail)
 obtain ⟨m0,hm0⟩:∃ m,(d == 0)=m:=⟨_,rfl⟩
 obtain ⟨m1,hm1⟩:∃ m,(a == 0)=m:=⟨_,rfl⟩
 obtain ⟨m2,hm2⟩:∃ m,(b == 0)=m:=⟨_,rfl⟩
 obtain ⟨m3,hm3⟩:∃ m,tz ty=m:=⟨_,rfl⟩
 obtain ⟨m4,hm4⟩:∃ m,emp nm=m:=⟨_,rfl⟩
 obtain ⟨m5,hm5⟩:∃ m,((args.length:Int) == 0)=m:=⟨_,rfl⟩
 have M0:Hid (IM w ((((w.alloc (.cells #[.int .i64 regs,.int .i64 code,fn] 153)).alloc (.cells #[.int .i64 17,.int .i64 d,.int .i64 a,.int .i64 b,.int .i64 ty.base,.int .i64 ty.bits,.string ty.name,.bool ty.opt,.bool ty.err,.string nm,.slice A args.length cap] 83)).alloc (.cells #[.bool (d == 0),.bool (a == 0),.bool (b == 0),.bool (tz ty),.bool (emp nm),.bool ((args.length:Int) == 0)] 192)).drew) w.heap.size #[.int .i64 regs,.int .i64 code,fn] (xC 17 d a b ty nm A cap args.length) #[.bool m0,.bool m1,.bool m2,.bool m3,.bool m4,.bool m5]):=by
  rw [← hm0,← hm1,← hm2,← hm3,← hm4,← hm5]
  exact IM.start ..
 have HM:Hid ((d == 0)=m0∧(a == 0)=m1∧(b == 0)=m2∧tz ty=m3∧emp nm=m4∧((args.length:Int) == 0)=m5):=⟨hm0,hm1,hm2,hm3,hm4,hm5⟩
 generalize ((((w.alloc (.cells #[.int .i64 regs,.int .i64 code,fn] 153)).alloc (.cells #[.int .i64 17,.int .i64 d,.int .i64 a,.int .i64 b,.int .i64 ty.base,.int .i64 ty.bits,.string ty.name,.bool ty.opt,.bool ty.err,.string nm,.slice A args.length cap] 83)).alloc (.cells #[.bool (d == 0),.bool (a == 0),.bool (b == 0),.bool (tz ty),.bool (emp nm),.bool ((args.length:Int) == 0)] 192)).drew)=w1 at M0 ⊢
 clear hm0 hm1 hm2 hm3 hm4 hm5 XB hq hem
 obtain ⟨b0,b1,b2,x0,x1,x2,x3,x4,x5,x6,x7,x8,x9,x10,f0,f1,f2,f3,f4,f5,r0,r1,r2,r3,r4,r5,zb,zx,zf⟩:=IM.cs M0.out
 have h6:=run_six
 go_wp2_with (first
  | (go_at_call 137; refine (isOperation_as (t:=false) (c:=false) _ HIN.out HT1.out HT2.out).mono ?_; rintro r w' ⟨rfl,rfl⟩)
  | (go_at_call 78; refine (gwithin_any _ _ _ _).mono ?_; rintro r w' ⟨rfl,rfl⟩))
 have x9w:=M0.out.ext
 go_ret
 exact ⟨ret_bool (by
  obtain ⟨rfl,rfl,rfl,rfl,rfl,rfl⟩:=HM.out
  rw [HI.out]
  first | done | rfl | (simp; done)),exL⟩
theorem inst_li (regs code:Int) (fn:Value) (pb:Bool) (op d a b:Int) (ty:Ty) (nm:ByteArray) (A:Option Addr) (cap:Nat) (args:List Int) (w:World) (g:Laid w) (h1:1 ≤ regs) (h2:regs ≤ 6) (hc1:1 ≤ code) (hc2:code ≤ 1000000) (hal:args.length ≤ 9223372036854775806) (hop:op=0) :
  Calls Tryz.prog 100 #[.agg #[.int .i64 regs,.int .i64 code,fn],.agg #[.int .i64 op,.int .i64 d,.int .i64 a,.int .i64 b,.int .i64 ty.base,.int .i64 ty.bits,.string ty.name,.bool ty.opt,.bool ty.err,.string nm,.slice A args.length cap]] w fun e w'=>e=.returned (.bool (instR pb regs code ⟨op,d,a,b,ty,nm,A,cap,args⟩))∧Ext w w':=by
 subst hop
 have hq:=run_tz_eql ty
 have hem:nm.toList.isEmpty=emp nm:=rfl
 have HI:=Lib.hid (@inst_zero pb regs code d a b ty nm A cap args)
 have HIN:Hid (In64 0):=⟨by decide,by decide⟩
 have HT1:Hid (inB 0 105 117=false):=rfl
 have HT2:Hid (inB 0 118 123=false):=rfl
 have HPS:=Lib.hid (show pushS ty=(isIntS ty || (isPlainS ty && decide (ty.base ≤ 1))) from rfl)
 obtain ⟨qI,hI⟩:∃ q,isIntS ty=q:=⟨_,rfl⟩
 obtain ⟨qP,hP⟩:∃ q,isPlainS ty=q:=⟨_,rfl⟩
 have HQI:=Lib.hid hI
 have HQP:=Lib.hid hP
 rw [hI,hP] at HPS
 clear hI hP
 cases qI <;> cases qP
 all_goals
  have XB:=Lib.hid (XBx w regs code fn 0 d a b ty nm A cap args.length)
  go_enter Tryz.func100,Tryz.ntmps100
  go_wp2_with fail
  go_region_held3 (fun w'=>w'.cell? ⟨w.heap.size + 1,1,none⟩=some (.int .i64 d)∧w'.cell? ⟨w.heap.size + 1,2,none⟩=some (.int .i64 a)∧w'.cell? ⟨w.heap.size + 1,3,none⟩=some (.int .i64 b)∧w'.cell? ⟨w.heap.size + 1,4,none⟩=some (.int .i64 ty.base)∧w'.cell? ⟨w.heap.size + 1,5,none⟩=some (.int .i64 ty.bits)∧w'.cell? ⟨w.heap.size + 1,6,none⟩=some (.string ty.name)∧w'.cell? ⟨w.heap.size + 1,7,none⟩=some (.bool ty.opt)∧w'.cell? ⟨w.heap.size + 1,8,none⟩=some (.bool ty.err)∧w'.cell? ⟨w.heap.size + 1,9,none⟩=some (.string nm)∧w'.cell? ⟨w.heap.size + 1,10,none⟩=some (.slice A args.length cap)) ((first | exact XB.out _ (Ext.refl _).drew | exact XB.out _ ((Ext.refl _).drew.alloc _) | exact XB.out _ ((Ext.refl _).alloc _).drew | (exact XB.out _ exL))) (fail)
  obtain ⟨m0,hm0⟩:∃ m,(d == 0)=m:=⟨_,rfl⟩
  obtain ⟨m1,hm1⟩:∃ m,(a == 0)=m:=⟨_,rfl⟩
  obtain ⟨m2,hm2⟩:∃ m,(b == 0)=m:=⟨_,rfl⟩
  obtain ⟨m3,hm3⟩:∃ m,tz ty=m:=⟨_,rfl⟩
  obtain ⟨m4,hm4⟩:∃ m,emp nm=m:=⟨_,rfl⟩
  obtain ⟨m5,hm5⟩:∃ m,((args.length:Int) == 0)=m:=⟨_,rfl⟩
  have M0:Hid (IM w ((((w.alloc (.cells #[.int .i64 regs,.int .i64 code,fn] 153)).alloc (.cells #[.int .i64 0,.int .i64 d,.int .i64 a,.int .i64 b,.int .i64 ty.base,.int .i64 ty.bits,.string ty.name,.bool ty.opt,.bool ty.err,.string nm,.slice A args.length cap] 83)).alloc (.cells #[.bool (d == 0),.bool (a == 0),.bool (b == 0),.bool (tz ty),.bool (emp nm),.bool ((args.length:Int) == 0)] 192)).drew) w.heap.size #[.int .i64 regs,.int .i64 code,fn] (xC 0 d a b ty nm A cap args.length) #[.bool m0,.bool m1,.bool m2,.bool m3,.bool m4,.bool m5]):=by
   rw [← hm0,← hm1,← hm2,← hm3,← hm4,← hm5]
   exact IM.start ..
  have HM:Hid ((d == 0)=m0∧(a == 0)=m1∧(b == 0)=m2∧tz ty=m3∧emp nm=m4∧((args.length:Int) == 0)=m5):=⟨hm0,hm1,hm2,hm3,hm4,hm5⟩
  generalize ((((w.alloc (.cells #[.int .i64 regs,.int .i64 code,fn] 153)).alloc (.cells #[.int .i64 0,.int .i64 d,.int .i64 a,.int .i64 b,.int .i64 ty.base,.int .i64 ty.bits,.string ty.name,.bool ty.opt,.bool ty.err,.string nm,.slice A args.length cap] 83)).alloc (.cells #[.bool (d == 0),.bool (a == 0),.bool (b == 0),.bool (tz ty),.bool (emp nm),.bool ((args.length:Int) == 0)] 192)).drew)=w1 at M0 ⊢
  clear hm0 hm1 hm2 hm3 hm4 hm5 XB hq hem
  obtain ⟨b0,b1,b2,x0,x1,x2,x3,x4,x5,x6,x7,x8,x9,x10,f0,f1,f2,f3,f4,f5,r0,r1,r2,r3,r4,r5,zb,zx,zf⟩:=IM.cs M0.out
  have h6:=run_six
  go_wp2_with (first
   | (go_at_call 137; refine (isOperation_as (t:=false) (c:=false) _ HIN.out HT1.out HT2.out).mono ?_; rintro r w' ⟨rfl,rfl⟩))
  clear b0 b1 b2 x0 x1 x2 x3 x4 x5 x6 x7 x8 x9 x10 f0 f1 f2 f3 f4 f5 r0 r1 r2 r3 r4 r5 zb zx zf h6
  obtain ⟨FF,hFF⟩:∃ FF:Array Bool → Array Value,FF=(fun l=>#[selB l 8 (.bool (inB d 0 (regs - 1))) (.bool m0),selB l 10 (.bool (inB a (-2147483648) 2147483648)) (.bool m1),.bool m2,.bool m3,.bool m4,.bool m5]):=⟨_,rfl⟩
  have HCd:Hid (∀ (l:Array Bool) (w':World),IMs 11 w w.heap.size #[.int .i64 regs,.int .i64 code,fn] (xC 0 d a b ty nm A cap args.length) FF l w' → Calls Tryz.prog 138 #[.agg #[.int .i64 regs,.int .i64 code,fn],.int .i64 d] w' fun e w3=>e=.returned (.bool (inB d 0 (regs - 1)))∧IMs 11 w w.heap.size #[.int .i64 regs,.int .i64 code,fn] (xC 0 d a b ty nm A cap args.length) FF l w3):=IMs.call fun w' x=>isReg_any regs code fn d w' h1 h2
  have HCw:Hid (∀ (l:Array Bool) (w':World),IMs 11 w w.heap.size #[.int .i64 regs,.int .i64 code,fn] (xC 0 d a b ty nm A cap args.length) FF l w' → Calls Tryz.prog 78 #[.int .i64 a,.int .i64 (-2147483648),.int .i64 2147483648] w' fun e w3=>e=.returned (.bool (inB a (-2147483648) 2147483648))∧IMs 11 w w.heap.size #[.int .i64 regs,.int .i64 code,fn] (xC 0 d a b ty nm A cap args.length) FF l w3):=IMs.call fun w' x=>(gwithin_any a (-2147483648) 2147483648 w').mono fun e w3 h=>⟨h.1,h.2 ▸ Ext.refl _⟩
  have HD:=Lib.hid (IMs.fx 11 w w.heap.size regs code fn 0 d a b ty nm A cap args.length FF)
  have HST:∀ (i:Nat) (_:i ≠ 8:=by decide) (_:i ≠ 10:=by decide) (l:Array Bool) (w':World),IMs 11 w w.heap.size #[.int .i64 regs,.int .i64 code,fn] (xC 0 d a b ty nm A cap args.length) FF (l.setIfInBounds i true) w' ↔ IMs 11 w w.heap.size #[.int .i64 regs,.int .i64 code,fn] (xC 0 d a b ty nm A cap args.length) FF l w':=fun i n8 n10=>IMs.same fun l=>by rw [hFF]; simp only [selB_ne n8,selB_ne n10]
  have hS0:IMs 11 w w.heap.size #[.int .i64 regs,.int .i64 code,fn] (xC 0 d a b ty nm A cap args.length) FF #[false,false,false,false,false,false,false,false,false,false,false] w1.drew:=⟨rfl,by rw [hFF]; exact M0.out.ext' (Ext.refl _).drew⟩
  refine flow_begin (IMs 11 w w.heap.size #[.int .i64 regs,.int .i64 code,fn] (xC 0 d a b ty nm A cap args.length) FF) #[false,false,false,false,false,false,false,false,false,false,false] rfl (by kernel_rfl) (fun _ _ _ _ _ h=>h) (hS0) (fun HQ=>?_)
  (refine tt 0 65 rfl HQ (HST 0) ?_; try simp only [putL,List.set])
  (refine tt 1 66 rfl HQ (HST 1) ?_; try simp only [putL,List.set])
  (refine tt 2 67 rfl HQ (HST 2) ?_; try simp only [putL,List.set])
  (refine tc 3 68 rfl (by kernel_rfl) HQ (HST 3) (by rfl) (fun l w' hF=>?_) ((HCd.out)) ?_; (focus (have hq:=HD.out _ hF; go_simp; try simp only [enters_isReg _ _])); try simp only [putL,List.set])
  (refine tt 4 69 rfl HQ (HST 4) ?_; try simp only [putL,List.set])
  (refine tt 5 70 rfl HQ (HST 5) ?_; try simp only [putL,List.set])
  (refine tc 6 71 rfl (by kernel_rfl) HQ (HST 6) (by rfl) (fun l w' hF=>?_) ((HCw.out)) ?_; (focus (have hq:=HD.out _ hF; go_simp; try simp only [enters_gwithin _ _])); try simp only [putL,List.set])
  (refine tt 7 72 rfl HQ (HST 7) ?_; try simp only [putL,List.set])
  (refine flow_put (i:=8) (oi:=⟨none,_,_,_,_,none⟩) rfl rfl (IMs.store (i:=8) (k:=0) (b:=inB d 0 (regs - 1)) rfl rfl rfl rfl (by decide) (fun l=>by rw [hFF]; rfl) (by decide) (fun l hl=>by rw [hFF]; simp only [selB_eq hl,selB_ne (show (8:Nat) ≠ 10 by decide)]; rfl)) (by kernel_rfl) ?_; try simp only [List.setIfInBounds_toArray,List.set_cons_zero,List.set_cons_succ])
  (refine tt 9 73 rfl HQ (HST 9) ?_; try simp only [putL,List.set])
  (refine flow_put (i:=10) (oi:=⟨none,_,_,_,_,none⟩) rfl rfl (IMs.store (i:=10) (k:=1) (b:=inB a (-2147483648) 2147483648) rfl rfl rfl rfl (by decide) (fun l=>by rw [hFF]; rfl) (by decide) (fun l hl=>by rw [hFF]; simp only [selB_eq hl,selB_ne (show (10:Nat) ≠ 8 by decide)]; rfl)) (by kernel_rfl) ?_; try simp only [List.setIfInBounds_toArray,List.set_cons_zero,List.set_cons_succ])
  refine flow_done (by kernel_rfl) ?_
  intro w3 hm3
  have M3:Hid (IM w w3 w.heap.size #[.int .i64 regs,.int .i64 code,fn] (xC 0 d a b ty nm A cap args.length) #[.bool (inB d 0 (regs - 1)),.bool (inB a (-2147483648) 2147483648),.bool m2,.bool m3,.bool m4,.bool m5]):=by
   have h:=hm3.2
   rw [hFF] at h
   exact h
  clear hm3 HD HST hFF HCd HCw
  obtain ⟨b0,b1,b2,x0,x1,x2,x3,x4,x5,x6,x7,x8,x9,x10,f0,f1,f2,f3,f4,f5,r0,r1,r2,r3,r4,r5,zb,zx,zf⟩:=IM.cs M3.out
  have h6:=run_six
  have x9w:=M3.out.ext
  go_wp2_with (first
   | fail
   | (go_at_call 139; refine (gisInt_ty ty _ (g.ext (x9w.trans exL))).mono ?_; rw [HQI.out]; rintro r w4 ⟨rfl,x4⟩; have y4:=x4.facts; have z40:=Nat.lt_of_lt_of_le zx x4.size; have z41:=Nat.lt_of_lt_of_le zf x4.size)
   | (go_at_call 140; refine (gisPlain_ty ty _ (g.ext (x9w.trans exL))).mono ?_; rw [HQP.out]; rintro r w5 ⟨rfl,x5⟩; have y5:=x5.facts; have z50:=Nat.lt_of_lt_of_le z40 x5.size; have z51:=Nat.lt_of_lt_of_le z41 x5.size))
  go_ret
  exact ⟨ret_bool (by
   obtain ⟨rfl,rfl,rfl,rfl,rfl,rfl⟩:=HM.out
   rw [HI.out,HPS.out]
   first | done | rfl | (simp; done)),exL⟩
end Go.Proofs.YtcoookehfhhhdaaGreatDoor.c
