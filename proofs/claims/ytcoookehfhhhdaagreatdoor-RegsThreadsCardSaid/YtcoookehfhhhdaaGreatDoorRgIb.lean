/- Contract of regs.bound.isInst: moves. The table strings.asciiSpace holds what its text lays. Contract of regs.bound.isInst: loads, stores, the error. The table strings.asciiSpace holds what its text lays. -/
import Derived.Test.YtcoookehfhhhdaaGreatDoorRgV
import Derived.Deep.RegionHeld3
namespace Go.Proofs.YtcoookehfhhhdaaGreatDoor.c
open Go.RowKit
set_option linter.unusedVariables false
set_option maxRecDepth 100000
set_option maxHeartbeats 6400000
set_option linter.unusedSimpArgs false
theorem inst_move (regs code:Int) (fn:Value) (pb:Bool) (op d a b:Int) (ty:Ty) (nm:ByteArray) (A:Option Addr) (cap:Nat) (args:List Int) (w:World) (g:Laid w) (h1:1 ≤ regs) (h2:regs ≤ 6) (hc1:1 ≤ code) (hc2:code ≤ 1000000) (hal:args.length ≤ 9223372036854775806) (hop:op=2 ∨ op=6 ∨ op=9) :
  Calls Tryz.prog 100 #[.agg #[.int .i64 regs,.int .i64 code,fn],.agg #[.int .i64 op,.int .i64 d,.int .i64 a,.int .i64 b,.int .i64 ty.base,.int .i64 ty.bits,.string ty.name,.bool ty.opt,.bool ty.err,.string nm,.slice A args.length cap]] w fun e w'=>e=.returned (.bool (instR pb regs code ⟨op,d,a,b,ty,nm,A,cap,args⟩))∧Ext w w':=by
 have hq:=run_tz_eql ty
 have hem:nm.toList.isEmpty=emp nm:=rfl
 rcases hop with rfl | rfl | rfl
 ·skip
  have HI:Hid (instR pb regs code ⟨2,d,a,b,ty,nm,A,cap,args⟩=(isPartB (partsR 2).1 d regs code && (isPartB (partsR 2).2.1 a regs code && (isPartB (partsR 2).2.2 b regs code && (tz ty && (emp nm && ((args.length:Int) == 0))))))):=inst_six (x:=⟨2,d,a,b,ty,nm,A,cap,args⟩) rfl (show (2:Int) ≠ 14 by decide) rfl rfl
  have HIN:Hid (In64 2):=⟨by decide,by decide⟩
  have HT1:Hid (inB 2 105 117=false):=rfl
  have HT2:Hid (inB 2 118 123=false):=rfl
  have XB:=Lib.hid (XBx w regs code fn 2 d a b ty nm A cap args.length)
  go_enter Tryz.func100,Tryz.ntmps100
  go_wp2_with fail
  go_region_held3 (fun w'=>w'.cell? ⟨w.heap.size + 1,1,none⟩=some (.int .i64 d)∧w'.cell? ⟨w.heap.size + 1,2,none⟩=some (.int .i64 a)∧w'.cell? ⟨w.heap.size + 1,3,none⟩=some (.int .i64 b)∧w'.cell? ⟨w.heap.size + 1,4,none⟩=some (.int .i64 ty.base)∧w'.cell? ⟨w.heap.size + 1,5,none⟩=some (.int .i64 ty.bits)∧w'.cell? ⟨w.heap.size + 1,6,none⟩=some (.string ty.name)∧w'.cell? ⟨w.heap.size + 1,7,none⟩=some (.bool ty.opt)∧w'.cell? ⟨w.heap.size + 1,8,none⟩=some (.bool ty.err)∧w'.cell? ⟨w.heap.size + 1,9,none⟩=some (.string nm)∧w'.cell? ⟨w.heap.size + 1,10,none⟩=some (.slice A args.length cap)) ((first | exact XB.out _ (Ext.refl _).drew | exact XB.out _ ((Ext.refl _).drew.alloc _) | exact XB.out _ ((Ext.refl _).alloc _).drew | (exact XB.out _ exA))) (fail)
  obtain ⟨m0,hm0⟩:∃ m,(d == 0)=m:=⟨_,rfl⟩
  obtain ⟨m1,hm1⟩:∃ m,(a == 0)=m:=⟨_,rfl⟩
  obtain ⟨m2,hm2⟩:∃ m,(b == 0)=m:=⟨_,rfl⟩
  obtain ⟨m3,hm3⟩:∃ m,tz ty=m:=⟨_,rfl⟩
  obtain ⟨m4,hm4⟩:∃ m,emp nm=m:=⟨_,rfl⟩
  obtain ⟨m5,hm5⟩:∃ m,((args.length:Int) == 0)=m:=⟨_,rfl⟩
  have M0:Hid (IM w ((((w.alloc (.cells #[.int .i64 regs,.int .i64 code,fn] 153)).alloc (.cells #[.int .i64 2,.int .i64 d,.int .i64 a,.int .i64 b,.int .i64 ty.base,.int .i64 ty.bits,.string ty.name,.bool ty.opt,.bool ty.err,.string nm,.slice A args.length cap] 83)).alloc (.cells #[.bool (d == 0),.bool (a == 0),.bool (b == 0),.bool (tz ty),.bool (emp nm),.bool ((args.length:Int) == 0)] 192)).drew) w.heap.size #[.int .i64 regs,.int .i64 code,fn] (xC 2 d a b ty nm A cap args.length) #[.bool m0,.bool m1,.bool m2,.bool m3,.bool m4,.bool m5]):=by
   rw [← hm0,← hm1,← hm2,← hm3,← hm4,← hm5]
   exact IM.start ..
  have HM:Hid ((d == 0)=m0∧(a == 0)=m1∧(b == 0)=m2∧tz ty=m3∧emp nm=m4∧((args.length:Int) == 0)=m5):=⟨hm0,hm1,hm2,hm3,hm4,hm5⟩
  generalize ((((w.alloc (.cells #[.int .i64 regs,.int .i64 code,fn] 153)).alloc (.cells #[.int .i64 2,.int .i64 d,.int .i64 a,.int .i64 b,.int .i64 ty.base,.int .i64 ty.bits,.string ty.name,.bool ty.opt,.bool ty.err,.string nm,.slice A args.length cap] 83)).alloc (.cells #[.bool (d == 0),.bool (a == 0),.bool (b == 0),.bool (tz ty),.bool (emp nm),.bool ((args.length:Int) == 0)] 192)).drew)=w1 at M0 ⊢
  clear hm0 hm1 hm2 hm3 hm4 hm5 XB hq hem
  obtain ⟨b0,b1,b2,x0,x1,x2,x3,x4,x5,x6,x7,x8,x9,x10,f0,f1,f2,f3,f4,f5,r0,r1,r2,r3,r4,r5,zb,zx,zf⟩:=IM.cs M0.out
  have h6:=run_six
  go_wp2_with (first
   | (go_at_call 137; refine (isOperation_as (t:=false) (c:=false) _ HIN.out HT1.out HT2.out).mono ?_; rintro r w' ⟨rfl,rfl⟩))
  clear b0 b1 b2 x0 x1 x2 x3 x4 x5 x6 x7 x8 x9 x10 f0 f1 f2 f3 f4 f5 r0 r1 r2 r3 r4 r5 zb zx zf h6
  obtain ⟨FF,hFF⟩:∃ FF:Array Bool → Array Value,FF=(fun l=>#[selB l 9 (.bool (inB d 0 (regs - 1))) (.bool m0),selB l 11 (.bool (inB a 0 (regs - 1))) (.bool m1),.bool m2,.bool m3,.bool m4,.bool m5]):=⟨_,rfl⟩
  have HCd:Hid (∀ (l:Array Bool) (w':World),IMs 12 w w.heap.size #[.int .i64 regs,.int .i64 code,fn] (xC 2 d a b ty nm A cap args.length) FF l w' → Calls Tryz.prog 138 #[.agg #[.int .i64 regs,.int .i64 code,fn],.int .i64 d] w' fun e w3=>e=.returned (.bool (inB d 0 (regs - 1)))∧IMs 12 w w.heap.size #[.int .i64 regs,.int .i64 code,fn] (xC 2 d a b ty nm A cap args.length) FF l w3):=IMs.call fun w' x=>isReg_any regs code fn d w' h1 h2
  have HCa:Hid (∀ (l:Array Bool) (w':World),IMs 12 w w.heap.size #[.int .i64 regs,.int .i64 code,fn] (xC 2 d a b ty nm A cap args.length) FF l w' → Calls Tryz.prog 138 #[.agg #[.int .i64 regs,.int .i64 code,fn],.int .i64 a] w' fun e w3=>e=.returned (.bool (inB a 0 (regs - 1)))∧IMs 12 w w.heap.size #[.int .i64 regs,.int .i64 code,fn] (xC 2 d a b ty nm A cap args.length) FF l w3):=IMs.call fun w' x=>isReg_any regs code fn a w' h1 h2
  have HD:=Lib.hid (IMs.fx 12 w w.heap.size regs code fn 2 d a b ty nm A cap args.length FF)
  have HST:∀ (i:Nat) (_:i ≠ 9:=by decide) (_:i ≠ 11:=by decide) (l:Array Bool) (w':World),IMs 12 w w.heap.size #[.int .i64 regs,.int .i64 code,fn] (xC 2 d a b ty nm A cap args.length) FF (l.setIfInBounds i true) w' ↔ IMs 12 w w.heap.size #[.int .i64 regs,.int .i64 code,fn] (xC 2 d a b ty nm A cap args.length) FF l w':=fun i n9 n11=>IMs.same fun l=>by rw [hFF]; simp only [selB_ne n9,selB_ne n11]
  have hS0:IMs 12 w w.heap.size #[.int .i64 regs,.int .i64 code,fn] (xC 2 d a b ty nm A cap args.length) FF #[false,false,false,false,false,false,false,false,false,false,false,false] w1.drew:=⟨rfl,by rw [hFF]; exact M0.out.ext' (Ext.refl _).drew⟩
  refine flow_begin (IMs 12 w w.heap.size #[.int .i64 regs,.int .i64 code,fn] (xC 2 d a b ty nm A cap args.length) FF) #[false,false,false,false,false,false,false,false,false,false,false,false] rfl (by kernel_rfl) (fun _ _ _ _ _ h=>h) (hS0) (fun HQ=>?_)
  (refine tt 0 100 rfl HQ (HST 0) ?_; try simp only [putL,List.set])
  (refine tt 1 101 rfl HQ (HST 1) ?_; try simp only [putL,List.set])
  (refine tt 2 102 rfl HQ (HST 2) ?_; try simp only [putL,List.set])
  (refine tc 3 103 rfl (by kernel_rfl) HQ (HST 3) (by rfl) (fun l w' hF=>?_) ((HCd.out)) ?_; (focus (have hq:=HD.out _ hF; go_simp; try simp only [enters_isReg _ _])); try simp only [putL,List.set])
  (refine tt 4 104 rfl HQ (HST 4) ?_; try simp only [putL,List.set])
  (refine tt 5 105 rfl HQ (HST 5) ?_; try simp only [putL,List.set])
  (refine tt 6 106 rfl HQ (HST 6) ?_; try simp only [putL,List.set])
  (refine tc 7 107 rfl (by kernel_rfl) HQ (HST 7) (by rfl) (fun l w' hF=>?_) ((HCa.out)) ?_; (focus (have hq:=HD.out _ hF; go_simp; try simp only [enters_isReg _ _])); try simp only [putL,List.set])
  (refine tt 8 108 rfl HQ (HST 8) ?_; try simp only [putL,List.set])
  (refine flow_put (i:=9) (oi:=⟨none,_,_,_,_,none⟩) rfl rfl (IMs.store (i:=9) (k:=0) (b:=inB d 0 (regs - 1)) rfl rfl rfl rfl (by decide) (fun l=>by rw [hFF]; rfl) (by decide) (fun l hl=>by rw [hFF]; simp only [selB_eq hl,selB_ne (show (9:Nat) ≠ 11 by decide)]; rfl)) (by kernel_rfl) ?_; try simp only [List.setIfInBounds_toArray,List.set_cons_zero,List.set_cons_succ])
  (refine tt 10 109 rfl HQ (HST 10) ?_; try simp only [putL,List.set])
  (refine flow_put (i:=11) (oi:=⟨none,_,_,_,_,none⟩) rfl rfl (IMs.store (i:=11) (k:=1) (b:=inB a 0 (regs - 1)) rfl rfl rfl rfl (by decide) (fun l=>by rw [hFF]; rfl) (by decide) (fun l hl=>by rw [hFF]; simp only [selB_eq hl,selB_ne (show (11:Nat) ≠ 9 by decide)]; rfl)) (by kernel_rfl) ?_; try simp only [List.setIfInBounds_toArray,List.set_cons_zero,List.set_cons_succ])
  refine flow_done (by kernel_rfl) ?_
  intro w3 hm3
  have M3:Hid (IM w w3 w.heap.size #[.int .i64 regs,.int .i64 code,fn] (xC 2 d a b ty nm A cap args.length) #[.bool (inB d 0 (regs - 1)),.bool (inB a 0 (regs - 1)),.bool m2,.bool m3,.bool m4,.bool m5]):=by
   have h:=hm3.2
   rw [hFF] at h
   exact h
  clear hm3 HD HST hFF HCd HCa
  obtain ⟨b0,b1,b2,x0,x1,x2,x3,x4,x5,x6,x7,x8,x9,x10,f0,f1,f2,f3,f4,f5,r0,r1,r2,r3,r4,r5,zb,zx,zf⟩:=IM.cs M3.out
  have h6:=run_six
  go_wp2_with fail
  have x9w:=M3.out.ext
  go_ret
  exact ⟨ret_bool (by
   obtain ⟨rfl,rfl,rfl,rfl,rfl,rfl⟩:=HM.out
   rw [HI.out]
   first | done | rfl | (simp; done)),exA⟩
 ·skip
  have HI:Hid (instR pb regs code ⟨6,d,a,b,ty,nm,A,cap,args⟩=(isPartB (partsR 6).1 d regs code && (isPartB (partsR 6).2.1 a regs code && (isPartB (partsR 6).2.2 b regs code && (tz ty && (emp nm && ((args.length:Int) == 0))))))):=inst_six (x:=⟨6,d,a,b,ty,nm,A,cap,args⟩) rfl (show (6:Int) ≠ 14 by decide) rfl rfl
  have HIN:Hid (In64 6):=⟨by decide,by decide⟩
  have HT1:Hid (inB 6 105 117=false):=rfl
  have HT2:Hid (inB 6 118 123=false):=rfl
  have XB:=Lib.hid (XBx w regs code fn 6 d a b ty nm A cap args.length)
  go_enter Tryz.func100,Tryz.ntmps100
  go_wp2_with fail
  go_region_held3 (fun w'=>w'.cell? ⟨w.heap.size + 1,1,none⟩=some (.int .i64 d)∧w'.cell? ⟨w.heap.size + 1,2,none⟩=some (.int .i64 a)∧w'.cell? ⟨w.heap.size + 1,3,none⟩=some (.int .i64 b)∧w'.cell? ⟨w.heap.size + 1,4,none⟩=some (.int .i64 ty.base)∧w'.cell? ⟨w.heap.size + 1,5,none⟩=some (.int .i64 ty.bits)∧w'.cell? ⟨w.heap.size + 1,6,none⟩=some (.string ty.name)∧w'.cell? ⟨w.heap.size + 1,7,none⟩=some (.bool ty.opt)∧w'.cell? ⟨w.heap.size + 1,8,none⟩=some (.bool ty.err)∧w'.cell? ⟨w.heap.size + 1,9,none⟩=some (.string nm)∧w'.cell? ⟨w.heap.size + 1,10,none⟩=some (.slice A args.length cap)) ((first | exact XB.out _ (Ext.refl _).drew | exact XB.out _ ((Ext.refl _).drew.alloc _) | exact XB.out _ ((Ext.refl _).alloc _).drew | (exact XB.out _ exA))) (fail)
  obtain ⟨m0,hm0⟩:∃ m,(d == 0)=m:=⟨_,rfl⟩
  obtain ⟨m1,hm1⟩:∃ m,(a == 0)=m:=⟨_,rfl⟩
  obtain ⟨m2,hm2⟩:∃ m,(b == 0)=m:=⟨_,rfl⟩
  obtain ⟨m3,hm3⟩:∃ m,tz ty=m:=⟨_,rfl⟩
  obtain ⟨m4,hm4⟩:∃ m,emp nm=m:=⟨_,rfl⟩
  obtain ⟨m5,hm5⟩:∃ m,((args.length:Int) == 0)=m:=⟨_,rfl⟩
  have M0:Hid (IM w ((((w.alloc (.cells #[.int .i64 regs,.int .i64 code,fn] 153)).alloc (.cells #[.int .i64 6,.int .i64 d,.int .i64 a,.int .i64 b,.int .i64 ty.base,.int .i64 ty.bits,.string ty.name,.bool ty.opt,.bool ty.err,.string nm,.slice A args.length cap] 83)).alloc (.cells #[.bool (d == 0),.bool (a == 0),.bool (b == 0),.bool (tz ty),.bool (emp nm),.bool ((args.length:Int) == 0)] 192)).drew) w.heap.size #[.int .i64 regs,.int .i64 code,fn] (xC 6 d a b ty nm A cap args.length) #[.bool m0,.bool m1,.bool m2,.bool m3,.bool m4,.bool m5]):=by
   rw [← hm0,← hm1,← hm2,← hm3,← hm4,← hm5]
   exact IM.start ..
  have HM:Hid ((d == 0)=m0∧(a == 0)=m1∧(b == 0)=m2∧tz ty=m3∧emp nm=m4∧((args.length:Int) == 0)=m5):=⟨hm0,hm1,hm2,hm3,hm4,hm5⟩
  generalize ((((w.alloc (.cells #[.int .i64 regs,.int .i64 code,fn] 153)).alloc (.cells #[.int .i64 6,.int .i64 d,.int .i64 a,.int .i64 b,.int .i64 ty.base,.int .i64 ty.bits,.string ty.name,.bool ty.opt,.bool ty.err,.string nm,.slice A args.length cap] 83)).alloc (.cells #[.bool (d == 0),.bool (a == 0),.bool (b == 0),.bool (tz ty),.bool (emp nm),.bool ((args.length:Int) == 0)] 192)).drew)=w1 at M0 ⊢
  clear hm0 hm1 hm2 hm3 hm4 hm5 XB hq hem
  obtain ⟨b0,b1,b2,x0,x1,x2,x3,x4,x5,x6,x7,x8,x9,x10,f0,f1,f2,f3,f4,f5,r0,r1,r2,r3,r4,r5,zb,zx,zf⟩:=IM.cs M0.out
  have h6:=run_six
  go_wp2_with (first
   | (go_at_call 137; refine (isOperation_as (t:=false) (c:=false) _ HIN.out HT1.out HT2.out).mono ?_; rintro r w' ⟨rfl,rfl⟩))
  clear b0 b1 b2 x0 x1 x2 x3 x4 x5 x6 x7 x8 x9 x10 f0 f1 f2 f3 f4 f5 r0 r1 r2 r3 r4 r5 zb zx zf h6
  obtain ⟨FF,hFF⟩:∃ FF:Array Bool → Array Value,FF=(fun l=>#[selB l 9 (.bool (inB d 0 (regs - 1))) (.bool m0),selB l 11 (.bool (inB a 0 (regs - 1))) (.bool m1),.bool m2,.bool m3,.bool m4,.bool m5]):=⟨_,rfl⟩
  have HCd:Hid (∀ (l:Array Bool) (w':World),IMs 12 w w.heap.size #[.int .i64 regs,.int .i64 code,fn] (xC 6 d a b ty nm A cap args.length) FF l w' → Calls Tryz.prog 138 #[.agg #[.int .i64 regs,.int .i64 code,fn],.int .i64 d] w' fun e w3=>e=.returned (.bool (inB d 0 (regs - 1)))∧IMs 12 w w.heap.size #[.int .i64 regs,.int .i64 code,fn] (xC 6 d a b ty nm A cap args.length) FF l w3):=IMs.call fun w' x=>isReg_any regs code fn d w' h1 h2
  have HCa:Hid (∀ (l:Array Bool) (w':World),IMs 12 w w.heap.size #[.int .i64 regs,.int .i64 code,fn] (xC 6 d a b ty nm A cap args.length) FF l w' → Calls Tryz.prog 138 #[.agg #[.int .i64 regs,.int .i64 code,fn],.int .i64 a] w' fun e w3=>e=.returned (.bool (inB a 0 (regs - 1)))∧IMs 12 w w.heap.size #[.int .i64 regs,.int .i64 code,fn] (xC 6 d a b ty nm A cap args.length) FF l w3):=IMs.call fun w' x=>isReg_any regs code fn a w' h1 h2
  have HD:=Lib.hid (IMs.fx 12 w w.heap.size regs code fn 6 d a b ty nm A cap args.length FF)
  have HST:∀ (i:Nat) (_:i ≠ 9:=by decide) (_:i ≠ 11:=by decide) (l:Array Bool) (w':World),IMs 12 w w.heap.size #[.int .i64 regs,.int .i64 code,fn] (xC 6 d a b ty nm A cap args.length) FF (l.setIfInBounds i true) w' ↔ IMs 12 w w.heap.size #[.int .i64 regs,.int .i64 code,fn] (xC 6 d a b ty nm A cap args.length) FF l w':=fun i n9 n11=>IMs.same fun l=>by rw [hFF]; simp only [selB_ne n9,selB_ne n11]
  have hS0:IMs 12 w w.heap.size #[.int .i64 regs,.int .i64 code,fn] (xC 6 d a b ty nm A cap args.length) FF #[false,false,false,false,false,false,false,false,false,false,false,false] w1.drew:=⟨rfl,by rw [hFF]; exact M0.out.ext' (Ext.refl _).drew⟩
  refine flow_begin (IMs 12 w w.heap.size #[.int .i64 regs,.int .i64 code,fn] (xC 6 d a b ty nm A cap args.length) FF) #[false,false,false,false,false,false,false,false,false,false,false,false] rfl (by kernel_rfl) (fun _ _ _ _ _ h=>h) (hS0) (fun HQ=>?_)
  (refine tt 0 100 rfl HQ (HST 0) ?_; try simp only [putL,List.set])
  (refine tt 1 101 rfl HQ (HST 1) ?_; try simp only [putL,List.set])
  (refine tt 2 102 rfl HQ (HST 2) ?_; try simp only [putL,List.set])
  (refine tc 3 103 rfl (by kernel_rfl) HQ (HST 3) (by rfl) (fun l w' hF=>?_) ((HCd.out)) ?_; (focus (have hq:=HD.out _ hF; go_simp; try simp only [enters_isReg _ _])); try simp only [putL,List.set])
  (refine tt 4 104 rfl HQ (HST 4) ?_; try simp only [putL,List.set])
  (refine tt 5 105 rfl HQ (HST 5) ?_; try simp only [putL,List.set])
  (refine tt 6 106 rfl HQ (HST 6) ?_; try simp only [putL,List.set])
  (refine tc 7 107 rfl (by kernel_rfl) HQ (HST 7) (by rfl) (fun l w' hF=>?_) ((HCa.out)) ?_; (focus (have hq:=HD.out _ hF; go_simp; try simp only [enters_isReg _ _])); try simp only [putL,List.set])
  (refine tt 8 108 rfl HQ (HST 8) ?_; try simp only [putL,List.set])
  (refine flow_put (i:=9) (oi:=⟨none,_,_,_,_,none⟩) rfl rfl (IMs.store (i:=9) (k:=0) (b:=inB d 0 (regs - 1)) rfl rfl rfl rfl (by decide) (fun l=>by rw [hFF]; rfl) (by decide) (fun l hl=>by rw [hFF]; simp only [selB_eq hl,selB_ne (show (9:Nat) ≠ 11 by decide)]; rfl)) (by kernel_rfl) ?_; try simp only [List.setIfInBounds_toArray,List.set_cons_zero,List.set_cons_succ])
  (refine tt 10 109 rfl HQ (HST 10) ?_; try simp only [putL,List.set])
  (refine flow_put (i:=11) (oi:=⟨none,_,_,_,_,none⟩) rfl rfl (IMs.store (i:=11) (k:=1) (b:=inB a 0 (regs - 1)) rfl rfl rfl rfl (by decide) (fun l=>by rw [hFF]; rfl) (by decide) (fun l hl=>by rw [hFF]; simp only [selB_eq hl,selB_ne (show (11:Nat) ≠ 9 by decide)]; rfl)) (by kernel_rfl) ?_; try simp only [List.setIfInBounds_toArray,List.set_cons_zero,List.set_cons_succ])
  refine flow_done (by kernel_rfl) ?_
  intro w3 hm3
  have M3:Hid (IM w w3 w.heap.size #[.int .i64 regs,.int .i64 code,fn] (xC 6 d a b ty nm A cap args.length) #[.bool (inB d 0 (regs - 1)),.bool (inB a 0 (regs - 1)),.bool m2,.bool m3,.bool m4,.bool m5]):=by
   have h:=hm3.2
   rw [hFF] at h
   exact h
  clear hm3 HD HST hFF HCd HCa
  obtain ⟨b0,b1,b2,x0,x1,x2,x3,x4,x5,x6,x7,x8,x9,x10,f0,f1,f2,f3,f4,f5,r0,r1,r2,r3,r4,r5,zb,zx,zf⟩:=IM.cs M3.out
  have h6:=run_six
  go_wp2_with fail
  have x9w:=M3.out.ext
  go_ret
  exact ⟨ret_bool (by
   obtain ⟨rfl,rfl,rfl,rfl,rfl,rfl⟩:=HM.out
   rw [HI.out]
   first | done | rfl | (simp; done)),exA⟩
 ·skip
  have HI:Hid (instR pb regs code ⟨9,d,a,b,ty,nm,A,cap,args⟩=(isPartB (partsR 9).1 d regs code && (isPartB (partsR 9).2.1 a regs code && (isPartB (partsR 9).2.2 b regs code && (tz ty && (emp nm && ((args.length:Int) == 0))))))):=inst_six (x:=⟨9,d,a,b,ty,nm,A,cap,args⟩) rfl (show (9:Int) ≠ 14 by decide) rfl rfl
  have HIN:Hid (In64 9):=⟨by decide,by decide⟩
  have HT1:Hid (inB 9 105 117=false):=rfl
  have HT2:Hid (inB 9 118 123=false):=rfl
  have XB:=Lib.hid (XBx w regs code fn 9 d a b ty nm A cap args.length)
  go_enter Tryz.func100,Tryz.ntmps100
  go_wp2_with fail
  go_region_held3 (fun w'=>w'.cell? ⟨w.heap.size + 1,1,none⟩=some (.int .i64 d)∧w'.cell? ⟨w.heap.size + 1,2,none⟩=some (.int .i64 a)∧w'.cell? ⟨w.heap.size + 1,3,none⟩=some (.int .i64 b)∧w'.cell? ⟨w.heap.size + 1,4,none⟩=some (.int .i64 ty.base)∧w'.cell? ⟨w.heap.size + 1,5,none⟩=some (.int .i64 ty.bits)∧w'.cell? ⟨w.heap.size + 1,6,none⟩=some (.string ty.name)∧w'.cell? ⟨w.heap.size + 1,7,none⟩=some (.bool ty.opt)∧w'.cell? ⟨w.heap.size + 1,8,none⟩=some (.bool ty.err)∧w'.cell? ⟨w.heap.size + 1,9,none⟩=some (.string nm)∧w'.cell? ⟨w.heap.size + 1,10,none⟩=some (.slice A args.length cap)) ((first | exact XB.out _ (Ext.refl _).drew | exact XB.out _ ((Ext.refl _).drew.alloc _) | exact XB.out _ ((Ext.refl _).alloc _).drew | (exact XB.out _ exA))) (fail)
  obtain ⟨m0,hm0⟩:∃ m,(d == 0)=m:=⟨_,rfl⟩
  obtain ⟨m1,hm1⟩:∃ m,(a == 0)=m:=⟨_,rfl⟩
  obtain ⟨m2,hm2⟩:∃ m,(b == 0)=m:=⟨_,rfl⟩
  obtain ⟨m3,hm3⟩:∃ m,tz ty=m:=⟨_,rfl⟩
  obtain ⟨m4,hm4⟩:∃ m,emp nm=m:=⟨_,rfl⟩
  obtain ⟨m5,hm5⟩:∃ m,((args.length:Int) == 0)=m:=⟨_,rfl⟩
  have M0:Hid (IM w ((((w.alloc (.cells #[.int .i64 regs,.int .i64 code,fn] 153)).alloc (.cells #[.int .i64 9,.int .i64 d,.int .i64 a,.int .i64 b,.int .i64 ty.base,.int .i64 ty.bits,.string ty.name,.bool ty.opt,.bool ty.err,.string nm,.slice A args.length cap] 83)).alloc (.cells #[.bool (d == 0),.bool (a == 0),.bool (b == 0),.bool (tz ty),.bool (emp nm),.bool ((args.length:Int) == 0)] 192)).drew) w.heap.size #[.int .i64 regs,.int .i64 code,fn] (xC 9 d a b ty nm A cap args.length) #[.bool m0,.bool m1,.bool m2,.bool m3,.bool m4,.bool m5]):=by
   rw [← hm0,← hm1,← hm2,← hm3,← hm4,← hm5]
   exact IM.start ..
  have HM:Hid ((d == 0)=m0∧(a == 0)=m1∧(b == 0)=m2∧tz ty=m3∧emp nm=m4∧((args.length:Int) == 0)=m5):=⟨hm0,hm1,hm2,hm3,hm4,hm5⟩
  generalize ((((w.alloc (.cells #[.int .i64 regs,.int .i64 code,fn] 153)).alloc (.cells #[.int .i64 9,.int .i64 d,.int .i64 a,.int .i64 b,.int .i64 ty.base,.int .i64 ty.bits,.string ty.name,.bool ty.opt,.bool ty.err,.string nm,.slice A args.length cap] 83)).alloc (.cells #[.bool (d == 0),.bool (a == 0),.bool (b == 0),.bool (tz ty),.bool (emp nm),.bool ((args.length:Int) == 0)] 192)).drew)=w1 at M0 ⊢
  clear hm0 hm1 hm2 hm3 hm4 hm5 XB hq hem
  obtain ⟨b0,b1,b2,x0,x1,x2,x3,x4,x5,x6,x7,x8,x9,x10,f0,f1,f2,f3,f4,f5,r0,r1,r2,r3,r4,r5,zb,zx,zf⟩:=IM.cs M0.out
  have h6:=run_six
  go_wp2_with (first
   | (go_at_call 137; refine (isOperation_as (t:=false) (c:=false) _ HIN.out HT1.out HT2.out).mono ?_; rintro r w' ⟨rfl,rfl⟩))
  clear b0 b1 b2 x0 x1 x2 x3 x4 x5 x6 x7 x8 x9 x10 f0 f1 f2 f3 f4 f5 r0 r1 r2 r3 r4 r5 zb zx zf h6
  obtain ⟨FF,hFF⟩:∃ FF:Array Bool → Array Value,FF=(fun l=>#[selB l 9 (.bool (inB d 0 (regs - 1))) (.bool m0),selB l 11 (.bool (inB a 0 (regs - 1))) (.bool m1),.bool m2,.bool m3,.bool m4,.bool m5]):=⟨_,rfl⟩
  have HCd:Hid (∀ (l:Array Bool) (w':World),IMs 12 w w.heap.size #[.int .i64 regs,.int .i64 code,fn] (xC 9 d a b ty nm A cap args.length) FF l w' → Calls Tryz.prog 138 #[.agg #[.int .i64 regs,.int .i64 code,fn],.int .i64 d] w' fun e w3=>e=.returned (.bool (inB d 0 (regs - 1)))∧IMs 12 w w.heap.size #[.int .i64 regs,.int .i64 code,fn] (xC 9 d a b ty nm A cap args.length) FF l w3):=IMs.call fun w' x=>isReg_any regs code fn d w' h1 h2
  have HCa:Hid (∀ (l:Array Bool) (w':World),IMs 12 w w.heap.size #[.int .i64 regs,.int .i64 code,fn] (xC 9 d a b ty nm A cap args.length) FF l w' → Calls Tryz.prog 138 #[.agg #[.int .i64 regs,.int .i64 code,fn],.int .i64 a] w' fun e w3=>e=.returned (.bool (inB a 0 (regs - 1)))∧IMs 12 w w.heap.size #[.int .i64 regs,.int .i64 code,fn] (xC 9 d a b ty nm A cap args.length) FF l w3):=IMs.call fun w' x=>isReg_any regs code fn a w' h1 h2
  have HD:=Lib.hid (IMs.fx 12 w w.heap.size regs code fn 9 d a b ty nm A cap args.length FF)
  have HST:∀ (i:Nat) (_:i ≠ 9:=by decide) (_:i ≠ 11:=by decide) (l:Array Bool) (w':World),IMs 12 w w.heap.size #[.int .i64 regs,.int .i64 code,fn] (xC 9 d a b ty nm A cap args.length) FF (l.setIfInBounds i true) w' ↔ IMs 12 w w.heap.size #[.int .i64 regs,.int .i64 code,fn] (xC 9 d a b ty nm A cap args.length) FF l w':=fun i n9 n11=>IMs.same fun l=>by rw [hFF]; simp only [selB_ne n9,selB_ne n11]
  have hS0:IMs 12 w w.heap.size #[.int .i64 regs,.int .i64 code,fn] (xC 9 d a b ty nm A cap args.length) FF #[false,false,false,false,false,false,false,false,false,false,false,false] w1.drew:=⟨rfl,by rw [hFF]; exact M0.out.ext' (Ext.refl _).drew⟩
  refine flow_begin (IMs 12 w w.heap.size #[.int .i64 regs,.int .i64 code,fn] (xC 9 d a b ty nm A cap args.length) FF) #[false,false,false,false,false,false,false,false,false,false,false,false] rfl (by kernel_rfl) (fun _ _ _ _ _ h=>h) (hS0) (fun HQ=>?_)
  (refine tt 0 100 rfl HQ (HST 0) ?_; try simp only [putL,List.set])
  (refine tt 1 101 rfl HQ (HST 1) ?_; try simp only [putL,List.set])
  (refine tt 2 102 rfl HQ (HST 2) ?_; try simp only [putL,List.set])
  (refine tc 3 103 rfl (by kernel_rfl) HQ (HST 3) (by rfl) (fun l w' hF=>?_) ((HCd.out)) ?_; (focus (have hq:=HD.out _ hF; go_simp; try simp only [enters_isReg _ _])); try simp only [putL,List.set])
  (refine tt 4 104 rfl HQ (HST 4) ?_; try simp only [putL,List.set])
  (refine tt 5 105 rfl HQ (HST 5) ?_; try simp only [putL,List.set])
  (refine tt 6 106 rfl HQ (HST 6) ?_; try simp only [putL,List.set])
  (refine tc 7 107 rfl (by kernel_rfl) HQ (HST 7) (by rfl) (fun l w' hF=>?_) ((HCa.out)) ?_; (focus (have hq:=HD.out _ hF; go_simp; try simp only [enters_isReg _ _])); try simp only [putL,List.set])
  (refine tt 8 108 rfl HQ (HST 8) ?_; try simp only [putL,List.set])
  (refine flow_put (i:=9) (oi:=⟨none,_,_,_,_,none⟩) rfl rfl (IMs.store (i:=9) (k:=0) (b:=inB d 0 (regs - 1)) rfl rfl rfl rfl (by decide) (fun l=>by rw [hFF]; rfl) (by decide) (fun l hl=>by rw [hFF]; simp only [selB_eq hl,selB_ne (show (9:Nat) ≠ 11 by decide)]; rfl)) (by kernel_rfl) ?_; try simp only [List.setIfInBounds_toArray,List.set_cons_zero,List.set_cons_succ])
  (refine tt 10 109 rfl HQ (HST 10) ?_; try simp only [putL,List.set])
  (refine flow_put (i:=11) (oi:=⟨none,_,_,_,_,none⟩) rfl rfl (IMs.store (i:=11) (k:=1) (b:=inB a 0 (regs - 1)) rfl rfl rfl rfl (by decide) (fun l=>by rw [hFF]; rfl) (by decide) (fun l hl=>by rw [hFF]; simp only [selB_eq hl,selB_ne (show (11:Nat) ≠ 9 by decide)]; rfl)) (by kernel_rfl) ?_; try simp only [List.setIfInBounds_toArray,List.set_cons_zero,List.set_cons_succ])
  refine flow_done (by kernel_rfl) ?_
  intro w3 hm3
  have M3:Hid (IM w w3 w.heap.size #[.int .i64 regs,.int .i64 code,fn] (xC 9 d a b ty nm A cap args.length) #[.bool (inB d 0 (regs - 1)),.bool (inB a 0 (regs - 1)),.bool m2,.bool m3,.bool m4,.bool m5]):=by
   have h:=hm3.2
   rw [hFF] at h
   exact h
  clear hm3 HD HST hFF HCd HCa
  obtain ⟨b0,b1,b2,x0,x1,x2,x3,x4,x5,x6,x7,x8,x9,x10,f0,f1,f2,f3,f4,f5,r0,r1,r2,r3,r4,r5,zb,zx,zf⟩:=IM.cs M3.out
  have h6:=run_six
  go_wp2_with fail
  have x9w:=M3.out.ext
  go_ret
  exact ⟨ret_bool (by
   obtain ⟨rfl,rfl,rfl,rfl,rfl,rfl⟩:=HM.out
   rw [HI.out]
   first | done | rfl | (simp; done)),exA⟩
theorem inst_load (regs code:Int) (fn:Value) (pb:Bool) (op d a b:Int) (ty:Ty) (nm:ByteArray) (A:Option Addr) (cap:Nat) (args:List Int) (w:World) (g:Laid w) (h1:1 ≤ regs) (h2:regs ≤ 6) (hc1:1 ≤ code) (hc2:code ≤ 1000000) (hal:args.length ≤ 9223372036854775806) (hop:op=3) :
  Calls Tryz.prog 100 #[.agg #[.int .i64 regs,.int .i64 code,fn],.agg #[.int .i64 op,.int .i64 d,.int .i64 a,.int .i64 b,.int .i64 ty.base,.int .i64 ty.bits,.string ty.name,.bool ty.opt,.bool ty.err,.string nm,.slice A args.length cap]] w fun e w'=>e=.returned (.bool (instR pb regs code ⟨op,d,a,b,ty,nm,A,cap,args⟩))∧Ext w w':=by
 have hq:=run_tz_eql ty
 have hem:nm.toList.isEmpty=emp nm:=rfl
 subst hop
 ·skip
  have HI:Hid (instR pb regs code ⟨3,d,a,b,ty,nm,A,cap,args⟩=(isPartB (partsR 3).1 d regs code && (isPartB (partsR 3).2.1 a regs code && (isPartB (partsR 3).2.2 b regs code && (tz ty && (emp nm && ((args.length:Int) == 0))))))):=inst_six (x:=⟨3,d,a,b,ty,nm,A,cap,args⟩) rfl (show (3:Int) ≠ 14 by decide) rfl rfl
  have HIN:Hid (In64 3):=⟨by decide,by decide⟩
  have HT1:Hid (inB 3 105 117=false):=rfl
  have HT2:Hid (inB 3 118 123=false):=rfl
  have XB:=Lib.hid (XBx w regs code fn 3 d a b ty nm A cap args.length)
  go_enter Tryz.func100,Tryz.ntmps100
  go_wp2_with fail
  go_region_held3 (fun w'=>w'.cell? ⟨w.heap.size + 1,1,none⟩=some (.int .i64 d)∧w'.cell? ⟨w.heap.size + 1,2,none⟩=some (.int .i64 a)∧w'.cell? ⟨w.heap.size + 1,3,none⟩=some (.int .i64 b)∧w'.cell? ⟨w.heap.size + 1,4,none⟩=some (.int .i64 ty.base)∧w'.cell? ⟨w.heap.size + 1,5,none⟩=some (.int .i64 ty.bits)∧w'.cell? ⟨w.heap.size + 1,6,none⟩=some (.string ty.name)∧w'.cell? ⟨w.heap.size + 1,7,none⟩=some (.bool ty.opt)∧w'.cell? ⟨w.heap.size + 1,8,none⟩=some (.bool ty.err)∧w'.cell? ⟨w.heap.size + 1,9,none⟩=some (.string nm)∧w'.cell? ⟨w.heap.size + 1,10,none⟩=some (.slice A args.length cap)) ((first | exact XB.out _ (Ext.refl _).drew | exact XB.out _ ((Ext.refl _).drew.alloc _) | exact XB.out _ ((Ext.refl _).alloc _).drew | (exact XB.out _ exA))) (fail)
  obtain ⟨m0,hm0⟩:∃ m,(d == 0)=m:=⟨_,rfl⟩
  obtain ⟨m1,hm1⟩:∃ m,(a == 0)=m:=⟨_,rfl⟩
  obtain ⟨m2,hm2⟩:∃ m,(b == 0)=m:=⟨_,rfl⟩
  obtain ⟨m3,hm3⟩:∃ m,tz ty=m:=⟨_,rfl⟩
  obtain ⟨m4,hm4⟩:∃ m,emp nm=m:=⟨_,rfl⟩
  obtain ⟨m5,hm5⟩:∃ m,((args.length:Int) == 0)=m:=⟨_,rfl⟩
  have M0:Hid (IM w ((((w.alloc (.cells #[.int .i64 regs,.int .i64 code,fn] 153)).alloc (.cells #[.int .i64 3,.int .i64 d,.int .i64 a,.int .i64 b,.int .i64 ty.base,.int .i64 ty.bits,.string ty.name,.bool ty.opt,.bool ty.err,.string nm,.slice A args.length cap] 83)).alloc (.cells #[.bool (d == 0),.bool (a == 0),.bool (b == 0),.bool (tz ty),.bool (emp nm),.bool ((args.length:Int) == 0)] 192)).drew) w.heap.size #[.int .i64 regs,.int .i64 code,fn] (xC 3 d a b ty nm A cap args.length) #[.bool m0,.bool m1,.bool m2,.bool m3,.bool m4,.bool m5]):=by
   rw [← hm0,← hm1,← hm2,← hm3,← hm4,← hm5]
   exact IM.start ..
  have HM:Hid ((d == 0)=m0∧(a == 0)=m1∧(b == 0)=m2∧tz ty=m3∧emp nm=m4∧((args.length:Int) == 0)=m5):=⟨hm0,hm1,hm2,hm3,hm4,hm5⟩
  generalize ((((w.alloc (.cells #[.int .i64 regs,.int .i64 code,fn] 153)).alloc (.cells #[.int .i64 3,.int .i64 d,.int .i64 a,.int .i64 b,.int .i64 ty.base,.int .i64 ty.bits,.string ty.name,.bool ty.opt,.bool ty.err,.string nm,.slice A args.length cap] 83)).alloc (.cells #[.bool (d == 0),.bool (a == 0),.bool (b == 0),.bool (tz ty),.bool (emp nm),.bool ((args.length:Int) == 0)] 192)).drew)=w1 at M0 ⊢
  clear hm0 hm1 hm2 hm3 hm4 hm5 XB hq hem
  obtain ⟨b0,b1,b2,x0,x1,x2,x3,x4,x5,x6,x7,x8,x9,x10,f0,f1,f2,f3,f4,f5,r0,r1,r2,r3,r4,r5,zb,zx,zf⟩:=IM.cs M0.out
  have h6:=run_six
  go_wp2_with (first
   | (go_at_call 137; refine (isOperation_as (t:=false) (c:=false) _ HIN.out HT1.out HT2.out).mono ?_; rintro r w' ⟨rfl,rfl⟩))
  clear b0 b1 b2 x0 x1 x2 x3 x4 x5 x6 x7 x8 x9 x10 f0 f1 f2 f3 f4 f5 r0 r1 r2 r3 r4 r5 zb zx zf h6
  obtain ⟨FF,hFF⟩:∃ FF:Array Bool → Array Value,FF=(fun l=>#[selB l 8 (.bool (inB d 0 (regs - 1))) (.bool m0),selB l 10 (.bool (inB a 0 299)) (.bool m1),.bool m2,.bool m3,.bool m4,.bool m5]):=⟨_,rfl⟩
  have HCd:Hid (∀ (l:Array Bool) (w':World),IMs 11 w w.heap.size #[.int .i64 regs,.int .i64 code,fn] (xC 3 d a b ty nm A cap args.length) FF l w' → Calls Tryz.prog 138 #[.agg #[.int .i64 regs,.int .i64 code,fn],.int .i64 d] w' fun e w3=>e=.returned (.bool (inB d 0 (regs - 1)))∧IMs 11 w w.heap.size #[.int .i64 regs,.int .i64 code,fn] (xC 3 d a b ty nm A cap args.length) FF l w3):=IMs.call fun w' x=>isReg_any regs code fn d w' h1 h2
  have HCs:Hid (∀ (l:Array Bool) (w':World),IMs 11 w w.heap.size #[.int .i64 regs,.int .i64 code,fn] (xC 3 d a b ty nm A cap args.length) FF l w' → Calls Tryz.prog 141 #[.int .i64 a] w' fun e w3=>e=.returned (.bool (inB a 0 299))∧IMs 11 w w.heap.size #[.int .i64 regs,.int .i64 code,fn] (xC 3 d a b ty nm A cap args.length) FF l w3):=IMs.call fun w' x=>(isSlot_any a w').mono fun e w3 h=>⟨h.1,h.2 ▸ Ext.refl _⟩
  have HD:=Lib.hid (IMs.fx 11 w w.heap.size regs code fn 3 d a b ty nm A cap args.length FF)
  have HST:∀ (i:Nat) (_:i ≠ 8:=by decide) (_:i ≠ 10:=by decide) (l:Array Bool) (w':World),IMs 11 w w.heap.size #[.int .i64 regs,.int .i64 code,fn] (xC 3 d a b ty nm A cap args.length) FF (l.setIfInBounds i true) w' ↔ IMs 11 w w.heap.size #[.int .i64 regs,.int .i64 code,fn] (xC 3 d a b ty nm A cap args.length) FF l w':=fun i n8 n10=>IMs.same fun l=>by rw [hFF]; simp only [selB_ne n8,selB_ne n10]
  have hS0:IMs 11 w w.heap.size #[.int .i64 regs,.int .i64 code,fn] (xC 3 d a b ty nm A cap args.length) FF #[false,false,false,false,false,false,false,false,false,false,false] w1.drew:=⟨rfl,by rw [hFF]; exact M0.out.ext' (Ext.refl _).drew⟩
  refine flow_begin (IMs 11 w w.heap.size #[.int .i64 regs,.int .i64 code,fn] (xC 3 d a b ty nm A cap args.length) FF) #[false,false,false,false,false,false,false,false,false,false,false] rfl (by kernel_rfl) (fun _ _ _ _ _ h=>h) (hS0) (fun HQ=>?_)
  (refine tt 0 112 rfl HQ (HST 0) ?_; try simp only [putL,List.set])
  (refine tt 1 113 rfl HQ (HST 1) ?_; try simp only [putL,List.set])
  (refine tt 2 114 rfl HQ (HST 2) ?_; try simp only [putL,List.set])
  (refine tc 3 115 rfl (by kernel_rfl) HQ (HST 3) (by rfl) (fun l w' hF=>?_) ((HCd.out)) ?_; (focus (have hq:=HD.out _ hF; go_simp; try simp only [enters_isReg _ _])); try simp only [putL,List.set])
  (refine tt 4 116 rfl HQ (HST 4) ?_; try simp only [putL,List.set])
  (refine tt 5 117 rfl HQ (HST 5) ?_; try simp only [putL,List.set])
  (refine tc 6 118 rfl (by kernel_rfl) HQ (HST 6) (by rfl) (fun l w' hF=>?_) ((HCs.out)) ?_; (focus (have hq:=HD.out _ hF; go_simp; try simp only [enters_isSlot _ _])); try simp only [putL,List.set])
  (refine tt 7 119 rfl HQ (HST 7) ?_; try simp only [putL,List.set])
  (refine flow_put (i:=8) (oi:=⟨none,_,_,_,_,none⟩) rfl rfl (IMs.store (i:=8) (k:=0) (b:=inB d 0 (regs - 1)) rfl rfl rfl rfl (by decide) (fun l=>by rw [hFF]; rfl) (by decide) (fun l hl=>by rw [hFF]; simp only [selB_eq hl,selB_ne (show (8:Nat) ≠ 10 by decide)]; rfl)) (by kernel_rfl) ?_; try simp only [List.setIfInBounds_toArray,List.set_cons_zero,List.set_cons_succ])
  (refine tt 9 120 rfl HQ (HST 9) ?_; try simp only [putL,List.set])
  (refine flow_put (i:=10) (oi:=⟨none,_,_,_,_,none⟩) rfl rfl (IMs.store (i:=10) (k:=1) (b:=inB a 0 299) rfl rfl rfl rfl (by decide) (fun l=>by rw [hFF]; rfl) (by decide) (fun l hl=>by rw [hFF]; simp only [selB_eq hl,selB_ne (show (10:Nat) ≠ 8 by decide)]; rfl)) (by kernel_rfl) ?_; try simp only [List.setIfInBounds_toArray,List.set_cons_zero,List.set_cons_succ])
  refine flow_done (by kernel_rfl) ?_
  intro w3 hm3
  have M3:Hid (IM w w3 w.heap.size #[.int .i64 regs,.int .i64 code,fn] (xC 3 d a b ty nm A cap args.length) #[.bool (inB d 0 (regs - 1)),.bool (inB a 0 299),.bool m2,.bool m3,.bool m4,.bool m5]):=by
   have h:=hm3.2
   rw [hFF] at h
   exact h
  clear hm3 HD HST hFF HCd HCs
  obtain ⟨b0,b1,b2,x0,x1,x2,x3,x4,x5,x6,x7,x8,x9,x10,f0,f1,f2,f3,f4,f5,r0,r1,r2,r3,r4,r5,zb,zx,zf⟩:=IM.cs M3.out
  have h6:=run_six
  go_wp2_with fail
  have x9w:=M3.out.ext
  go_ret
  exact ⟨ret_bool (by
   obtain ⟨rfl,rfl,rfl,rfl,rfl,rfl⟩:=HM.out
   rw [HI.out]
   first | done | rfl | (simp; done)),exA⟩
theorem inst_store (regs code:Int) (fn:Value) (pb:Bool) (op d a b:Int) (ty:Ty) (nm:ByteArray) (A:Option Addr) (cap:Nat) (args:List Int) (w:World) (g:Laid w) (h1:1 ≤ regs) (h2:regs ≤ 6) (hc1:1 ≤ code) (hc2:code ≤ 1000000) (hal:args.length ≤ 9223372036854775806) (hop:op=4) :
  Calls Tryz.prog 100 #[.agg #[.int .i64 regs,.int .i64 code,fn],.agg #[.int .i64 op,.int .i64 d,.int .i64 a,.int .i64 b,.int .i64 ty.base,.int .i64 ty.bits,.string ty.name,.bool ty.opt,.bool ty.err,.string nm,.slice A args.length cap]] w fun e w'=>e=.returned (.bool (instR pb regs code ⟨op,d,a,b,ty,nm,A,cap,args⟩))∧Ext w w':=by
 have hq:=run_tz_eql ty
 have hem:nm.toList.isEmpty=emp nm:=rfl
 subst hop
 ·skip
  have HI:Hid (instR pb regs code ⟨4,d,a,b,ty,nm,A,cap,args⟩=(isPartB (partsR 4).1 d regs code && (isPartB (partsR 4).2.1 a regs code && (isPartB (partsR 4).2.2 b regs code && (tz ty && (emp nm && ((args.length:Int) == 0))))))):=inst_six (x:=⟨4,d,a,b,ty,nm,A,cap,args⟩) rfl (show (4:Int) ≠ 14 by decide) rfl rfl
  have HIN:Hid (In64 4):=⟨by decide,by decide⟩
  have HT1:Hid (inB 4 105 117=false):=rfl
  have HT2:Hid (inB 4 118 123=false):=rfl
  have XB:=Lib.hid (XBx w regs code fn 4 d a b ty nm A cap args.length)
  go_enter Tryz.func100,Tryz.ntmps100
  go_wp2_with fail
  go_region_held3 (fun w'=>w'.cell? ⟨w.heap.size + 1,1,none⟩=some (.int .i64 d)∧w'.cell? ⟨w.heap.size + 1,2,none⟩=some (.int .i64 a)∧w'.cell? ⟨w.heap.size + 1,3,none⟩=some (.int .i64 b)∧w'.cell? ⟨w.heap.size + 1,4,none⟩=some (.int .i64 ty.base)∧w'.cell? ⟨w.heap.size + 1,5,none⟩=some (.int .i64 ty.bits)∧w'.cell? ⟨w.heap.size + 1,6,none⟩=some (.string ty.name)∧w'.cell? ⟨w.heap.size + 1,7,none⟩=some (.bool ty.opt)∧w'.cell? ⟨w.heap.size + 1,8,none⟩=some (.bool ty.err)∧w'.cell? ⟨w.heap.size + 1,9,none⟩=some (.string nm)∧w'.cell? ⟨w.heap.size + 1,10,none⟩=some (.slice A args.length cap)) ((first | exact XB.out _ (Ext.refl _).drew | exact XB.out _ ((Ext.refl _).drew.alloc _) | exact XB.out _ ((Ext.refl _).alloc _).drew | (exact XB.out _ exA))) (fail)
  obtain ⟨m0,hm0⟩:∃ m,(d == 0)=m:=⟨_,rfl⟩
  obtain ⟨m1,hm1⟩:∃ m,(a == 0)=m:=⟨_,rfl⟩
  obtain ⟨m2,hm2⟩:∃ m,(b == 0)=m:=⟨_,rfl⟩
  obtain ⟨m3,hm3⟩:∃ m,tz ty=m:=⟨_,rfl⟩
  obtain ⟨m4,hm4⟩:∃ m,emp nm=m:=⟨_,rfl⟩
  obtain ⟨m5,hm5⟩:∃ m,((args.length:Int) == 0)=m:=⟨_,rfl⟩
  have M0:Hid (IM w ((((w.alloc (.cells #[.int .i64 regs,.int .i64 code,fn] 153)).alloc (.cells #[.int .i64 4,.int .i64 d,.int .i64 a,.int .i64 b,.int .i64 ty.base,.int .i64 ty.bits,.string ty.name,.bool ty.opt,.bool ty.err,.string nm,.slice A args.length cap] 83)).alloc (.cells #[.bool (d == 0),.bool (a == 0),.bool (b == 0),.bool (tz ty),.bool (emp nm),.bool ((args.length:Int) == 0)] 192)).drew) w.heap.size #[.int .i64 regs,.int .i64 code,fn] (xC 4 d a b ty nm A cap args.length) #[.bool m0,.bool m1,.bool m2,.bool m3,.bool m4,.bool m5]):=by
   rw [← hm0,← hm1,← hm2,← hm3,← hm4,← hm5]
   exact IM.start ..
  have HM:Hid ((d == 0)=m0∧(a == 0)=m1∧(b == 0)=m2∧tz ty=m3∧emp nm=m4∧((args.length:Int) == 0)=m5):=⟨hm0,hm1,hm2,hm3,hm4,hm5⟩
  generalize ((((w.alloc (.cells #[.int .i64 regs,.int .i64 code,fn] 153)).alloc (.cells #[.int .i64 4,.int .i64 d,.int .i64 a,.int .i64 b,.int .i64 ty.base,.int .i64 ty.bits,.string ty.name,.bool ty.opt,.bool ty.err,.string nm,.slice A args.length cap] 83)).alloc (.cells #[.bool (d == 0),.bool (a == 0),.bool (b == 0),.bool (tz ty),.bool (emp nm),.bool ((args.length:Int) == 0)] 192)).drew)=w1 at M0 ⊢
  clear hm0 hm1 hm2 hm3 hm4 hm5 XB hq hem
  obtain ⟨b0,b1,b2,x0,x1,x2,x3,x4,x5,x6,x7,x8,x9,x10,f0,f1,f2,f3,f4,f5,r0,r1,r2,r3,r4,r5,zb,zx,zf⟩:=IM.cs M0.out
  have h6:=run_six
  go_wp2_with (first
   | (go_at_call 137; refine (isOperation_as (t:=false) (c:=false) _ HIN.out HT1.out HT2.out).mono ?_; rintro r w' ⟨rfl,rfl⟩))
  clear b0 b1 b2 x0 x1 x2 x3 x4 x5 x6 x7 x8 x9 x10 f0 f1 f2 f3 f4 f5 r0 r1 r2 r3 r4 r5 zb zx zf h6
  obtain ⟨FF,hFF⟩:∃ FF:Array Bool → Array Value,FF=(fun l=>#[.bool m0,selB l 8 (.bool (inB a 0 299)) (.bool m1),selB l 10 (.bool (inB b 0 (regs - 1))) (.bool m2),.bool m3,.bool m4,.bool m5]):=⟨_,rfl⟩
  have HCs:Hid (∀ (l:Array Bool) (w':World),IMs 11 w w.heap.size #[.int .i64 regs,.int .i64 code,fn] (xC 4 d a b ty nm A cap args.length) FF l w' → Calls Tryz.prog 141 #[.int .i64 a] w' fun e w3=>e=.returned (.bool (inB a 0 299))∧IMs 11 w w.heap.size #[.int .i64 regs,.int .i64 code,fn] (xC 4 d a b ty nm A cap args.length) FF l w3):=IMs.call fun w' x=>(isSlot_any a w').mono fun e w3 h=>⟨h.1,h.2 ▸ Ext.refl _⟩
  have HCb:Hid (∀ (l:Array Bool) (w':World),IMs 11 w w.heap.size #[.int .i64 regs,.int .i64 code,fn] (xC 4 d a b ty nm A cap args.length) FF l w' → Calls Tryz.prog 138 #[.agg #[.int .i64 regs,.int .i64 code,fn],.int .i64 b] w' fun e w3=>e=.returned (.bool (inB b 0 (regs - 1)))∧IMs 11 w w.heap.size #[.int .i64 regs,.int .i64 code,fn] (xC 4 d a b ty nm A cap args.length) FF l w3):=IMs.call fun w' x=>isReg_any regs code fn b w' h1 h2
  have HD:=Lib.hid (IMs.fx 11 w w.heap.size regs code fn 4 d a b ty nm A cap args.length FF)
  have HST:∀ (i:Nat) (_:i ≠ 8:=by decide) (_:i ≠ 10:=by decide) (l:Array Bool) (w':World),IMs 11 w w.heap.size #[.int .i64 regs,.int .i64 code,fn] (xC 4 d a b ty nm A cap args.length) FF (l.setIfInBounds i true) w' ↔ IMs 11 w w.heap.size #[.int .i64 regs,.int .i64 code,fn] (xC 4 d a b ty nm A cap args.length) FF l w':=fun i n8 n10=>IMs.same fun l=>by rw [hFF]; simp only [selB_ne n8,selB_ne n10]
  have hS0:IMs 11 w w.heap.size #[.int .i64 regs,.int .i64 code,fn] (xC 4 d a b ty nm A cap args.length) FF #[false,false,false,false,false,false,false,false,false,false,false] w1.drew:=⟨rfl,by rw [hFF]; exact M0.out.ext' (Ext.refl _).drew⟩
  refine flow_begin (IMs 11 w w.heap.size #[.int .i64 regs,.int .i64 code,fn] (xC 4 d a b ty nm A cap args.length) FF) #[false,false,false,false,false,false,false,false,false,false,false] rfl (by kernel_rfl) (fun _ _ _ _ _ h=>h) (hS0) (fun HQ=>?_)
  (refine tt 0 123 rfl HQ (HST 0) ?_; try simp only [putL,List.set])
  (refine tt 1 124 rfl HQ (HST 1) ?_; try simp only [putL,List.set])
  (refine tc 2 125 rfl (by kernel_rfl) HQ (HST 2) (by rfl) (fun l w' hF=>?_) ((HCs.out)) ?_; (focus (have hq:=HD.out _ hF; go_simp; try simp only [enters_isSlot _ _])); try simp only [putL,List.set])
  (refine tt 3 126 rfl HQ (HST 3) ?_; try simp only [putL,List.set])
  (refine tt 4 127 rfl HQ (HST 4) ?_; try simp only [putL,List.set])
  (refine tt 5 128 rfl HQ (HST 5) ?_; try simp only [putL,List.set])
  (refine tc 6 129 rfl (by kernel_rfl) HQ (HST 6) (by rfl) (fun l w' hF=>?_) ((HCb.out)) ?_; (focus (have hq:=HD.out _ hF; go_simp; try simp only [enters_isReg _ _])); try simp only [putL,List.set])
  (refine tt 7 130 rfl HQ (HST 7) ?_; try simp only [putL,List.set])
  (refine flow_put (i:=8) (oi:=⟨none,_,_,_,_,none⟩) rfl rfl (IMs.store (i:=8) (k:=1) (b:=inB a 0 299) rfl rfl rfl rfl (by decide) (fun l=>by rw [hFF]; rfl) (by decide) (fun l hl=>by rw [hFF]; simp only [selB_eq hl,selB_ne (show (8:Nat) ≠ 10 by decide)]; rfl)) (by kernel_rfl) ?_; try simp only [List.setIfInBounds_toArray,List.set_cons_zero,List.set_cons_succ])
  (refine tt 9 131 rfl HQ (HST 9) ?_; try simp only [putL,List.set])
  (refine flow_put (i:=10) (oi:=⟨none,_,_,_,_,none⟩) rfl rfl (IMs.store (i:=10) (k:=2) (b:=inB b 0 (regs - 1)) rfl rfl rfl rfl (by decide) (fun l=>by rw [hFF]; rfl) (by decide) (fun l hl=>by rw [hFF]; simp only [selB_eq hl,selB_ne (show (10:Nat) ≠ 8 by decide)]; rfl)) (by kernel_rfl) ?_; try simp only [List.setIfInBounds_toArray,List.set_cons_zero,List.set_cons_succ])
  refine flow_done (by kernel_rfl) ?_
  intro w3 hm3
  have M3:Hid (IM w w3 w.heap.size #[.int .i64 regs,.int .i64 code,fn] (xC 4 d a b ty nm A cap args.length) #[.bool m0,.bool (inB a 0 299),.bool (inB b 0 (regs - 1)),.bool m3,.bool m4,.bool m5]):=by
   have h:=hm3.2
   rw [hFF] at h
   exact h
  clear hm3 HD HST hFF HCs HCb
  obtain ⟨b0,b1,b2,x0,x1,x2,x3,x4,x5,x6,x7,x8,x9,x10,f0,f1,f2,f3,f4,f5,r0,r1,r2,r3,r4,r5,zb,zx,zf⟩:=IM.cs M3.out
  have h6:=run_six
  go_wp2_with fail
  have x9w:=M3.out.ext
  go_ret
  exact ⟨ret_bool (by
   obtain ⟨rfl,rfl,rfl,rfl,rfl,rfl⟩:=HM.out
   rw [HI.out]
   first | done | rfl | (simp; done)),exA⟩
theorem inst_error (regs code:Int) (fn:Value) (pb:Bool) (op d a b:Int) (ty:Ty) (nm:ByteArray) (A:Option Addr) (cap:Nat) (args:List Int) (w:World) (g:Laid w) (h1:1 ≤ regs) (h2:regs ≤ 6) (hc1:1 ≤ code) (hc2:code ≤ 1000000) (hal:args.length ≤ 9223372036854775806) (hop:op=16) :
  Calls Tryz.prog 100 #[.agg #[.int .i64 regs,.int .i64 code,fn],.agg #[.int .i64 op,.int .i64 d,.int .i64 a,.int .i64 b,.int .i64 ty.base,.int .i64 ty.bits,.string ty.name,.bool ty.opt,.bool ty.err,.string nm,.slice A args.length cap]] w fun e w'=>e=.returned (.bool (instR pb regs code ⟨op,d,a,b,ty,nm,A,cap,args⟩))∧Ext w w':=by
 have hq:=run_tz_eql ty
 have hem:nm.toList.isEmpty=emp nm:=rfl
 subst hop
 ·skip
  have HI:Hid (instR pb regs code ⟨16,d,a,b,ty,nm,A,cap,args⟩=(isPartB (partsR 16).1 d regs code && (isPartB (partsR 16).2.1 a regs code && (isPartB (partsR 16).2.2 b regs code && (tz ty && (isNameS nm && ((args.length:Int) == 0))))))):=inst_six (x:=⟨16,d,a,b,ty,nm,A,cap,args⟩) rfl (show (16:Int) ≠ 14 by decide) rfl rfl
  have HIN:Hid (In64 16):=⟨by decide,by decide⟩
  have HT1:Hid (inB 16 105 117=false):=rfl
  have HT2:Hid (inB 16 118 123=false):=rfl
  have XB:=Lib.hid (XBx w regs code fn 16 d a b ty nm A cap args.length)
  go_enter Tryz.func100,Tryz.ntmps100
  go_wp2_with fail
  go_region_held3 (fun w'=>w'.cell? ⟨w.heap.size + 1,1,none⟩=some (.int .i64 d)∧w'.cell? ⟨w.heap.size + 1,2,none⟩=some (.int .i64 a)∧w'.cell? ⟨w.heap.size + 1,3,none⟩=some (.int .i64 b)∧w'.cell? ⟨w.heap.size + 1,4,none⟩=some (.int .i64 ty.base)∧w'.cell? ⟨w.heap.size + 1,5,none⟩=some (.int .i64 ty.bits)∧w'.cell? ⟨w.heap.size + 1,6,none⟩=some (.string ty.name)∧w'.cell? ⟨w.heap.size + 1,7,none⟩=some (.bool ty.opt)∧w'.cell? ⟨w.heap.size + 1,8,none⟩=some (.bool ty.err)∧w'.cell? ⟨w.heap.size + 1,9,none⟩=some (.string nm)∧w'.cell? ⟨w.heap.size + 1,10,none⟩=some (.slice A args.length cap)) ((first | exact XB.out _ (Ext.refl _).drew | exact XB.out _ ((Ext.refl _).drew.alloc _) | exact XB.out _ ((Ext.refl _).alloc _).drew | (exact XB.out _ exA))) (fail)
  obtain ⟨m0,hm0⟩:∃ m,(d == 0)=m:=⟨_,rfl⟩
  obtain ⟨m1,hm1⟩:∃ m,(a == 0)=m:=⟨_,rfl⟩
  obtain ⟨m2,hm2⟩:∃ m,(b == 0)=m:=⟨_,rfl⟩
  obtain ⟨m3,hm3⟩:∃ m,tz ty=m:=⟨_,rfl⟩
  obtain ⟨m4,hm4⟩:∃ m,emp nm=m:=⟨_,rfl⟩
  obtain ⟨m5,hm5⟩:∃ m,((args.length:Int) == 0)=m:=⟨_,rfl⟩
  have M0:Hid (IM w ((((w.alloc (.cells #[.int .i64 regs,.int .i64 code,fn] 153)).alloc (.cells #[.int .i64 16,.int .i64 d,.int .i64 a,.int .i64 b,.int .i64 ty.base,.int .i64 ty.bits,.string ty.name,.bool ty.opt,.bool ty.err,.string nm,.slice A args.length cap] 83)).alloc (.cells #[.bool (d == 0),.bool (a == 0),.bool (b == 0),.bool (tz ty),.bool (emp nm),.bool ((args.length:Int) == 0)] 192)).drew) w.heap.size #[.int .i64 regs,.int .i64 code,fn] (xC 16 d a b ty nm A cap args.length) #[.bool m0,.bool m1,.bool m2,.bool m3,.bool m4,.bool m5]):=by
   rw [← hm0,← hm1,← hm2,← hm3,← hm4,← hm5]
   exact IM.start ..
  have HM:Hid ((d == 0)=m0∧(a == 0)=m1∧(b == 0)=m2∧tz ty=m3∧emp nm=m4∧((args.length:Int) == 0)=m5):=⟨hm0,hm1,hm2,hm3,hm4,hm5⟩
  generalize ((((w.alloc (.cells #[.int .i64 regs,.int .i64 code,fn] 153)).alloc (.cells #[.int .i64 16,.int .i64 d,.int .i64 a,.int .i64 b,.int .i64 ty.base,.int .i64 ty.bits,.string ty.name,.bool ty.opt,.bool ty.err,.string nm,.slice A args.length cap] 83)).alloc (.cells #[.bool (d == 0),.bool (a == 0),.bool (b == 0),.bool (tz ty),.bool (emp nm),.bool ((args.length:Int) == 0)] 192)).drew)=w1 at M0 ⊢
  clear hm0 hm1 hm2 hm3 hm4 hm5 XB hq hem
  obtain ⟨b0,b1,b2,x0,x1,x2,x3,x4,x5,x6,x7,x8,x9,x10,f0,f1,f2,f3,f4,f5,r0,r1,r2,r3,r4,r5,zb,zx,zf⟩:=IM.cs M0.out
  have h6:=run_six
  go_wp2_with (first
   | (go_at_call 137; refine (isOperation_as (t:=false) (c:=false) _ HIN.out HT1.out HT2.out).mono ?_; rintro r w' ⟨rfl,rfl⟩))
  clear b0 b1 b2 x0 x1 x2 x3 x4 x5 x6 x7 x8 x9 x10 f0 f1 f2 f3 f4 f5 r0 r1 r2 r3 r4 r5 zb zx zf h6
  obtain ⟨FF,hFF⟩:∃ FF:Array Bool → Array Value,FF=(fun l=>#[selB l 8 (.bool (inB d 0 (regs - 1))) (.bool m0),.bool m1,.bool m2,.bool m3,selB l 10 (.bool (isNameS nm)) (.bool m4),.bool m5]):=⟨_,rfl⟩
  have HCd:Hid (∀ (l:Array Bool) (w':World),IMs 11 w w.heap.size #[.int .i64 regs,.int .i64 code,fn] (xC 16 d a b ty nm A cap args.length) FF l w' → Calls Tryz.prog 138 #[.agg #[.int .i64 regs,.int .i64 code,fn],.int .i64 d] w' fun e w3=>e=.returned (.bool (inB d 0 (regs - 1)))∧IMs 11 w w.heap.size #[.int .i64 regs,.int .i64 code,fn] (xC 16 d a b ty nm A cap args.length) FF l w3):=IMs.call fun w' x=>isReg_any regs code fn d w' h1 h2
  have HCn:Hid (∀ (l:Array Bool) (w':World),IMs 11 w w.heap.size #[.int .i64 regs,.int .i64 code,fn] (xC 16 d a b ty nm A cap args.length) FF l w' → Calls Tryz.prog 95 #[.string nm] w' fun e w3=>e=.returned (.bool (isNameS nm))∧IMs 11 w w.heap.size #[.int .i64 regs,.int .i64 code,fn] (xC 16 d a b ty nm A cap args.length) FF l w3):=IMs.call fun w' x=>isName_any nm w' (g.ext x)
  have HD:=Lib.hid (IMs.fx 11 w w.heap.size regs code fn 16 d a b ty nm A cap args.length FF)
  have HST:∀ (i:Nat) (_:i ≠ 8:=by decide) (_:i ≠ 10:=by decide) (l:Array Bool) (w':World),IMs 11 w w.heap.size #[.int .i64 regs,.int .i64 code,fn] (xC 16 d a b ty nm A cap args.length) FF (l.setIfInBounds i true) w' ↔ IMs 11 w w.heap.size #[.int .i64 regs,.int .i64 code,fn] (xC 16 d a b ty nm A cap args.length) FF l w':=fun i n8 n10=>IMs.same fun l=>by rw [hFF]; simp only [selB_ne n8,selB_ne n10]
  have hS0:IMs 11 w w.heap.size #[.int .i64 regs,.int .i64 code,fn] (xC 16 d a b ty nm A cap args.length) FF #[false,false,false,false,false,false,false,false,false,false,false] w1.drew:=⟨rfl,by rw [hFF]; exact M0.out.ext' (Ext.refl _).drew⟩
  refine flow_begin (IMs 11 w w.heap.size #[.int .i64 regs,.int .i64 code,fn] (xC 16 d a b ty nm A cap args.length) FF) #[false,false,false,false,false,false,false,false,false,false,false] rfl (by kernel_rfl) (fun _ _ _ _ _ h=>h) (hS0) (fun HQ=>?_)
  (refine tt 0 205 rfl HQ (HST 0) ?_; try simp only [putL,List.set])
  (refine tt 1 206 rfl HQ (HST 1) ?_; try simp only [putL,List.set])
  (refine tt 2 207 rfl HQ (HST 2) ?_; try simp only [putL,List.set])
  (refine tc 3 208 rfl (by kernel_rfl) HQ (HST 3) (by rfl) (fun l w' hF=>?_) ((HCd.out)) ?_; (focus (have hq:=HD.out _ hF; go_simp; try simp only [enters_isReg _ _])); try simp only [putL,List.set])
  (refine tt 4 209 rfl HQ (HST 4) ?_; try simp only [putL,List.set])
  (refine tt 5 210 rfl HQ (HST 5) ?_; try simp only [putL,List.set])
  (refine tc 6 211 rfl (by kernel_rfl) HQ (HST 6) (by rfl) (fun l w' hF=>?_) ((HCn.out)) ?_; (focus (have hq:=HD.out _ hF; go_simp; try simp only [enters_isName _ _])); try simp only [putL,List.set])
  (refine tt 7 212 rfl HQ (HST 7) ?_; try simp only [putL,List.set])
  (refine flow_put (i:=8) (oi:=⟨none,_,_,_,_,none⟩) rfl rfl (IMs.store (i:=8) (k:=0) (b:=inB d 0 (regs - 1)) rfl rfl rfl rfl (by decide) (fun l=>by rw [hFF]; rfl) (by decide) (fun l hl=>by rw [hFF]; simp only [selB_eq hl,selB_ne (show (8:Nat) ≠ 10 by decide)]; rfl)) (by kernel_rfl) ?_; try simp only [List.setIfInBounds_toArray,List.set_cons_zero,List.set_cons_succ])
  (refine tt 9 213 rfl HQ (HST 9) ?_; try simp only [putL,List.set])
  (refine flow_put (i:=10) (oi:=⟨none,_,_,_,_,none⟩) rfl rfl (IMs.store (i:=10) (k:=4) (b:=isNameS nm) rfl rfl rfl rfl (by decide) (fun l=>by rw [hFF]; rfl) (by decide) (fun l hl=>by rw [hFF]; simp only [selB_eq hl,selB_ne (show (10:Nat) ≠ 8 by decide)]; rfl)) (by kernel_rfl) ?_; try simp only [List.setIfInBounds_toArray,List.set_cons_zero,List.set_cons_succ])
  refine flow_done (by kernel_rfl) ?_
  intro w3 hm3
  have M3:Hid (IM w w3 w.heap.size #[.int .i64 regs,.int .i64 code,fn] (xC 16 d a b ty nm A cap args.length) #[.bool (inB d 0 (regs - 1)),.bool m1,.bool m2,.bool m3,.bool (isNameS nm),.bool m5]):=by
   have h:=hm3.2
   rw [hFF] at h
   exact h
  clear hm3 HD HST hFF HCd HCn
  obtain ⟨b0,b1,b2,x0,x1,x2,x3,x4,x5,x6,x7,x8,x9,x10,f0,f1,f2,f3,f4,f5,r0,r1,r2,r3,r4,r5,zb,zx,zf⟩:=IM.cs M3.out
  have h6:=run_six
  go_wp2_with fail
  have x9w:=M3.out.ext
  go_ret
  exact ⟨ret_bool (by
   obtain ⟨rfl,rfl,rfl,rfl,rfl,rfl⟩:=HM.out
   rw [HI.out]
   first | done | rfl | (simp; done)),exA⟩
end Go.Proofs.YtcoookehfhhhdaaGreatDoor.c
