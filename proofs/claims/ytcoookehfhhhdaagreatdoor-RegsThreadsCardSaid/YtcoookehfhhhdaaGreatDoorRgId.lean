/- Contract of regs.bound.isInst: operations of one register with a type. The table strings.asciiSpace holds what its text lays. Contract of regs.bound.isInst: operations that lead. The table strings.asciiSpace holds what its text lays. -/
import Derived.Test.YtcoookehfhhhdaaGreatDoorRgV
import Derived.Deep.RegionHeld3
namespace Go.Proofs.YtcoookehfhhhdaaGreatDoor.c
open Go.RowKit
set_option linter.unusedVariables false
set_option maxRecDepth 100000
set_option maxHeartbeats 6400000
set_option linter.unusedSimpArgs false
theorem inst_kind (regs code:Int) (fn:Value) (pb:Bool) (op d a b:Int) (ty:Ty) (nm:ByteArray) (A:Option Addr) (cap:Nat) (args:List Int) (w:World) (g:Laid w) (h1:1 ≤ regs) (h2:regs ≤ 6) (hc1:1 ≤ code) (hc2:code ≤ 1000000) (hal:args.length ≤ 9223372036854775806) (hop:op=5 ∨ op=7 ∨ op=8) :
  Calls Tryz.prog 100 #[.agg #[.int .i64 regs,.int .i64 code,fn],.agg #[.int .i64 op,.int .i64 d,.int .i64 a,.int .i64 b,.int .i64 ty.base,.int .i64 ty.bits,.string ty.name,.bool ty.opt,.bool ty.err,.string nm,.slice A args.length cap]] w fun e w'=>e=.returned (.bool (instR pb regs code ⟨op,d,a,b,ty,nm,A,cap,args⟩))∧Ext w w':=by
 have hq:=run_tz_eql ty
 have hem:nm.toList.isEmpty=emp nm:=rfl
 rcases hop with rfl | rfl | rfl
 ·skip
  have HI:Hid (instR pb regs code ⟨5,d,a,b,ty,nm,A,cap,args⟩=(isPartB (partsR 5).1 d regs code && (isPartB (partsR 5).2.1 a regs code && (isPartB (partsR 5).2.2 b regs code && (isIntS ty && (emp nm && ((args.length:Int) == 0))))))):=inst_six (x:=⟨5,d,a,b,ty,nm,A,cap,args⟩) rfl (show (5:Int) ≠ 14 by decide) rfl rfl
  have HIN:Hid (In64 5):=⟨by decide,by decide⟩
  have HT1:Hid (inB 5 105 117=false):=rfl
  have HT2:Hid (inB 5 118 123=false):=rfl
  have XB:=Lib.hid (XBx w regs code fn 5 d a b ty nm A cap args.length)
  go_enter Tryz.func100,Tryz.ntmps100
  go_wp2_with fail
  go_region_held3 (fun w'=>w'.cell? ⟨w.heap.size + 1,1,none⟩=some (.int .i64 d)∧w'.cell? ⟨w.heap.size + 1,2,none⟩=some (.int .i64 a)∧w'.cell? ⟨w.heap.size + 1,3,none⟩=some (.int .i64 b)∧w'.cell? ⟨w.heap.size + 1,4,none⟩=some (.int .i64 ty.base)∧w'.cell? ⟨w.heap.size + 1,5,none⟩=some (.int .i64 ty.bits)∧w'.cell? ⟨w.heap.size + 1,6,none⟩=some (.string ty.name)∧w'.cell? ⟨w.heap.size + 1,7,none⟩=some (.bool ty.opt)∧w'.cell? ⟨w.heap.size + 1,8,none⟩=some (.bool ty.err)∧w'.cell? ⟨w.heap.size + 1,9,none⟩=some (.string nm)∧w'.cell? ⟨w.heap.size + 1,10,none⟩=some (.slice A args.length cap)) ((first | exact XB.out _ (Ext.refl _).drew | exact XB.out _ ((Ext.refl _).drew.alloc _) | exact XB.out _ ((Ext.refl _).alloc _).drew | (exact XB.out _ exA))) (fail)
  obtain ⟨m0,hm0⟩:∃ m,(d == 0)=m:=⟨_,rfl⟩
  obtain ⟨m1,hm1⟩:∃ m,(a == 0)=m:=⟨_,rfl⟩
  obtain ⟨m2,hm2⟩:∃ m,(b == 0)=m:=⟨_,rfl⟩
  obtain ⟨m3,hm3⟩:∃ m,tz ty=m:=⟨_,rfl⟩
  obtain ⟨m4,hm4⟩:∃ m,emp nm=m:=⟨_,rfl⟩
  obtain ⟨m5,hm5⟩:∃ m,((args.length:Int) == 0)=m:=⟨_,rfl⟩
  have M0:Hid (IM w ((((w.alloc (.cells #[.int .i64 regs,.int .i64 code,fn] 153)).alloc (.cells #[.int .i64 5,.int .i64 d,.int .i64 a,.int .i64 b,.int .i64 ty.base,.int .i64 ty.bits,.string ty.name,.bool ty.opt,.bool ty.err,.string nm,.slice A args.length cap] 83)).alloc (.cells #[.bool (d == 0),.bool (a == 0),.bool (b == 0),.bool (tz ty),.bool (emp nm),.bool ((args.length:Int) == 0)] 192)).drew) w.heap.size #[.int .i64 regs,.int .i64 code,fn] (xC 5 d a b ty nm A cap args.length) #[.bool m0,.bool m1,.bool m2,.bool m3,.bool m4,.bool m5]):=by
   rw [← hm0,← hm1,← hm2,← hm3,← hm4,← hm5]
   exact IM.start ..
  have HM:Hid ((d == 0)=m0∧(a == 0)=m1∧(b == 0)=m2∧tz ty=m3∧emp nm=m4∧((args.length:Int) == 0)=m5):=⟨hm0,hm1,hm2,hm3,hm4,hm5⟩
  generalize ((((w.alloc (.cells #[.int .i64 regs,.int .i64 code,fn] 153)).alloc (.cells #[.int .i64 5,.int .i64 d,.int .i64 a,.int .i64 b,.int .i64 ty.base,.int .i64 ty.bits,.string ty.name,.bool ty.opt,.bool ty.err,.string nm,.slice A args.length cap] 83)).alloc (.cells #[.bool (d == 0),.bool (a == 0),.bool (b == 0),.bool (tz ty),.bool (emp nm),.bool ((args.length:Int) == 0)] 192)).drew)=w1 at M0 ⊢
  clear hm0 hm1 hm2 hm3 hm4 hm5 XB hq hem
  obtain ⟨b0,b1,b2,x0,x1,x2,x3,x4,x5,x6,x7,x8,x9,x10,f0,f1,f2,f3,f4,f5,r0,r1,r2,r3,r4,r5,zb,zx,zf⟩:=IM.cs M0.out
  have h6:=run_six
  go_wp2_with (first
   | (go_at_call 137; refine (isOperation_as (t:=false) (c:=false) _ HIN.out HT1.out HT2.out).mono ?_; rintro r w' ⟨rfl,rfl⟩))
  clear b0 b1 b2 x0 x1 x2 x3 x4 x5 x6 x7 x8 x9 x10 f0 f1 f2 f3 f4 f5 r0 r1 r2 r3 r4 r5 zb zx zf h6
  obtain ⟨FF,hFF⟩:∃ FF:Array Bool → Array Value,FF=(fun l=>#[selB l 12 (.bool (inB d 0 (regs - 1))) (.bool m0),selB l 14 (.bool (inB a 0 (regs - 1))) (.bool m1),.bool m2,selB l 16 (.bool (isIntS ty)) (.bool m3),.bool m4,.bool m5]):=⟨_,rfl⟩
  have HCd:Hid (∀ (l:Array Bool) (w':World),IMs 17 w w.heap.size #[.int .i64 regs,.int .i64 code,fn] (xC 5 d a b ty nm A cap args.length) FF l w' → Calls Tryz.prog 138 #[.agg #[.int .i64 regs,.int .i64 code,fn],.int .i64 d] w' fun e w3=>e=.returned (.bool (inB d 0 (regs - 1)))∧IMs 17 w w.heap.size #[.int .i64 regs,.int .i64 code,fn] (xC 5 d a b ty nm A cap args.length) FF l w3):=IMs.call fun w' x=>isReg_any regs code fn d w' h1 h2
  have HCa:Hid (∀ (l:Array Bool) (w':World),IMs 17 w w.heap.size #[.int .i64 regs,.int .i64 code,fn] (xC 5 d a b ty nm A cap args.length) FF l w' → Calls Tryz.prog 138 #[.agg #[.int .i64 regs,.int .i64 code,fn],.int .i64 a] w' fun e w3=>e=.returned (.bool (inB a 0 (regs - 1)))∧IMs 17 w w.heap.size #[.int .i64 regs,.int .i64 code,fn] (xC 5 d a b ty nm A cap args.length) FF l w3):=IMs.call fun w' x=>isReg_any regs code fn a w' h1 h2
  have HCi:Hid (∀ (l:Array Bool) (w':World),IMs 17 w w.heap.size #[.int .i64 regs,.int .i64 code,fn] (xC 5 d a b ty nm A cap args.length) FF l w' → Calls Tryz.prog 139 #[.agg #[.int .i64 ty.base,.int .i64 ty.bits,.string ty.name,.bool ty.opt,.bool ty.err]] w' fun e w3=>e=.returned (.bool (isIntS ty))∧IMs 17 w w.heap.size #[.int .i64 regs,.int .i64 code,fn] (xC 5 d a b ty nm A cap args.length) FF l w3):=IMs.call fun w' x=>gisInt_ty ty w' (g.ext x)
  have HD:=Lib.hid (IMs.fx 17 w w.heap.size regs code fn 5 d a b ty nm A cap args.length FF)
  have HST:∀ (i:Nat) (_:i ≠ 12:=by decide) (_:i ≠ 14:=by decide) (_:i ≠ 16:=by decide) (l:Array Bool) (w':World),IMs 17 w w.heap.size #[.int .i64 regs,.int .i64 code,fn] (xC 5 d a b ty nm A cap args.length) FF (l.setIfInBounds i true) w' ↔ IMs 17 w w.heap.size #[.int .i64 regs,.int .i64 code,fn] (xC 5 d a b ty nm A cap args.length) FF l w':=fun i n12 n14 n16=>IMs.same fun l=>by rw [hFF]; simp only [selB_ne n12,selB_ne n14,selB_ne n16]
  have hS0:IMs 17 w w.heap.size #[.int .i64 regs,.int .i64 code,fn] (xC 5 d a b ty nm A cap args.length) FF #[false,false,false,false,false,false,false,false,false,false,false,false,false,false,false,false,false] w1.drew:=⟨rfl,by rw [hFF]; exact M0.out.ext' (Ext.refl _).drew⟩
  refine flow_begin (IMs 17 w w.heap.size #[.int .i64 regs,.int .i64 code,fn] (xC 5 d a b ty nm A cap args.length) FF) #[false,false,false,false,false,false,false,false,false,false,false,false,false,false,false,false,false] rfl (by kernel_rfl) (fun _ _ _ _ _ h=>h) (hS0) (fun HQ=>?_)
  (refine tt 0 136 rfl HQ (HST 0) ?_; try simp only [putL,List.set])
  (refine tt 1 137 rfl HQ (HST 1) ?_; try simp only [putL,List.set])
  (refine tt 2 138 rfl HQ (HST 2) ?_; try simp only [putL,List.set])
  (refine tc 3 139 rfl (by kernel_rfl) HQ (HST 3) (by rfl) (fun l w' hF=>?_) ((HCd.out)) ?_; (focus (have hq:=HD.out _ hF; go_simp; try simp only [enters_isReg _ _])); try simp only [putL,List.set])
  (refine tt 4 140 rfl HQ (HST 4) ?_; try simp only [putL,List.set])
  (refine tt 5 141 rfl HQ (HST 5) ?_; try simp only [putL,List.set])
  (refine tt 6 142 rfl HQ (HST 6) ?_; try simp only [putL,List.set])
  (refine tc 7 143 rfl (by kernel_rfl) HQ (HST 7) (by rfl) (fun l w' hF=>?_) ((HCa.out)) ?_; (focus (have hq:=HD.out _ hF; go_simp; try simp only [enters_isReg _ _])); try simp only [putL,List.set])
  (refine tt 8 144 rfl HQ (HST 8) ?_; try simp only [putL,List.set])
  (refine tt 9 145 rfl HQ (HST 9) ?_; try simp only [putL,List.set])
  (refine tc 10 146 rfl (by kernel_rfl) HQ (HST 10) (by rfl) (fun l w' hF=>?_) ((HCi.out)) ?_; (focus (have hq:=HD.out _ hF; go_simp; try simp only [enters_gisInt _ _])); try simp only [putL,List.set])
  (refine tt 11 147 rfl HQ (HST 11) ?_; try simp only [putL,List.set])
  (refine flow_put (i:=12) (oi:=⟨none,_,_,_,_,none⟩) rfl rfl (IMs.store (i:=12) (k:=0) (b:=inB d 0 (regs - 1)) rfl rfl rfl rfl (by decide) (fun l=>by rw [hFF]; rfl) (by decide) (fun l hl=>by rw [hFF]; simp only [selB_eq hl,selB_ne (show (12:Nat) ≠ 14 by decide),selB_ne (show (12:Nat) ≠ 16 by decide)]; rfl)) (by kernel_rfl) ?_; try simp only [List.setIfInBounds_toArray,List.set_cons_zero,List.set_cons_succ])
  (refine tt 13 148 rfl HQ (HST 13) ?_; try simp only [putL,List.set])
  (refine flow_put (i:=14) (oi:=⟨none,_,_,_,_,none⟩) rfl rfl (IMs.store (i:=14) (k:=1) (b:=inB a 0 (regs - 1)) rfl rfl rfl rfl (by decide) (fun l=>by rw [hFF]; rfl) (by decide) (fun l hl=>by rw [hFF]; simp only [selB_eq hl,selB_ne (show (14:Nat) ≠ 12 by decide),selB_ne (show (14:Nat) ≠ 16 by decide)]; rfl)) (by kernel_rfl) ?_; try simp only [List.setIfInBounds_toArray,List.set_cons_zero,List.set_cons_succ])
  (refine tt 15 149 rfl HQ (HST 15) ?_; try simp only [putL,List.set])
  (refine flow_put (i:=16) (oi:=⟨none,_,_,_,_,none⟩) rfl rfl (IMs.store (i:=16) (k:=3) (b:=isIntS ty) rfl rfl rfl rfl (by decide) (fun l=>by rw [hFF]; rfl) (by decide) (fun l hl=>by rw [hFF]; simp only [selB_eq hl,selB_ne (show (16:Nat) ≠ 12 by decide),selB_ne (show (16:Nat) ≠ 14 by decide)]; rfl)) (by kernel_rfl) ?_; try simp only [List.setIfInBounds_toArray,List.set_cons_zero,List.set_cons_succ])
  refine flow_done (by kernel_rfl) ?_
  intro w3 hm3
  have M3:Hid (IM w w3 w.heap.size #[.int .i64 regs,.int .i64 code,fn] (xC 5 d a b ty nm A cap args.length) #[.bool (inB d 0 (regs - 1)),.bool (inB a 0 (regs - 1)),.bool m2,.bool (isIntS ty),.bool m4,.bool m5]):=by
   have h:=hm3.2
   rw [hFF] at h
   exact h
  clear hm3 HD HST hFF HCd HCa HCi
  obtain ⟨b0,b1,b2,x0,x1,x2,x3,x4,x5,x6,x7,x8,x9,x10,f0,f1,f2,f3,f4,f5,r0,r1,r2,r3,r4,r5,zb,zx,zf⟩:=IM.cs M3.out
  have h6:=run_six
  go_wp2_with fail
  have x9w:=M3.out.ext
  go_ret
  exact ⟨ret_bool (by
   obtain ⟨rfl,rfl,rfl,rfl,rfl,rfl⟩:=HM.out
   rw [HI.out]
   first | done | rfl | (simp; done)),exA⟩
 ·skip
  have HI:Hid (instR pb regs code ⟨7,d,a,b,ty,nm,A,cap,args⟩=(isPartB (partsR 7).1 d regs code && (isPartB (partsR 7).2.1 a regs code && (isPartB (partsR 7).2.2 b regs code && (isIntS ty && (emp nm && ((args.length:Int) == 0))))))):=inst_six (x:=⟨7,d,a,b,ty,nm,A,cap,args⟩) rfl (show (7:Int) ≠ 14 by decide) rfl rfl
  have HIN:Hid (In64 7):=⟨by decide,by decide⟩
  have HT1:Hid (inB 7 105 117=false):=rfl
  have HT2:Hid (inB 7 118 123=false):=rfl
  have XB:=Lib.hid (XBx w regs code fn 7 d a b ty nm A cap args.length)
  go_enter Tryz.func100,Tryz.ntmps100
  go_wp2_with fail
  go_region_held3 (fun w'=>w'.cell? ⟨w.heap.size + 1,1,none⟩=some (.int .i64 d)∧w'.cell? ⟨w.heap.size + 1,2,none⟩=some (.int .i64 a)∧w'.cell? ⟨w.heap.size + 1,3,none⟩=some (.int .i64 b)∧w'.cell? ⟨w.heap.size + 1,4,none⟩=some (.int .i64 ty.base)∧w'.cell? ⟨w.heap.size + 1,5,none⟩=some (.int .i64 ty.bits)∧w'.cell? ⟨w.heap.size + 1,6,none⟩=some (.string ty.name)∧w'.cell? ⟨w.heap.size + 1,7,none⟩=some (.bool ty.opt)∧w'.cell? ⟨w.heap.size + 1,8,none⟩=some (.bool ty.err)∧w'.cell? ⟨w.heap.size + 1,9,none⟩=some (.string nm)∧w'.cell? ⟨w.heap.size + 1,10,none⟩=some (.slice A args.length cap)) ((first | exact XB.out _ (Ext.refl _).drew | exact XB.out _ ((Ext.refl _).drew.alloc _) | exact XB.out _ ((Ext.refl _).alloc _).drew | (exact XB.out _ exA))) (fail)
  obtain ⟨m0,hm0⟩:∃ m,(d == 0)=m:=⟨_,rfl⟩
  obtain ⟨m1,hm1⟩:∃ m,(a == 0)=m:=⟨_,rfl⟩
  obtain ⟨m2,hm2⟩:∃ m,(b == 0)=m:=⟨_,rfl⟩
  obtain ⟨m3,hm3⟩:∃ m,tz ty=m:=⟨_,rfl⟩
  obtain ⟨m4,hm4⟩:∃ m,emp nm=m:=⟨_,rfl⟩
  obtain ⟨m5,hm5⟩:∃ m,((args.length:Int) == 0)=m:=⟨_,rfl⟩
  have M0:Hid (IM w ((((w.alloc (.cells #[.int .i64 regs,.int .i64 code,fn] 153)).alloc (.cells #[.int .i64 7,.int .i64 d,.int .i64 a,.int .i64 b,.int .i64 ty.base,.int .i64 ty.bits,.string ty.name,.bool ty.opt,.bool ty.err,.string nm,.slice A args.length cap] 83)).alloc (.cells #[.bool (d == 0),.bool (a == 0),.bool (b == 0),.bool (tz ty),.bool (emp nm),.bool ((args.length:Int) == 0)] 192)).drew) w.heap.size #[.int .i64 regs,.int .i64 code,fn] (xC 7 d a b ty nm A cap args.length) #[.bool m0,.bool m1,.bool m2,.bool m3,.bool m4,.bool m5]):=by
   rw [← hm0,← hm1,← hm2,← hm3,← hm4,← hm5]
   exact IM.start ..
  have HM:Hid ((d == 0)=m0∧(a == 0)=m1∧(b == 0)=m2∧tz ty=m3∧emp nm=m4∧((args.length:Int) == 0)=m5):=⟨hm0,hm1,hm2,hm3,hm4,hm5⟩
  generalize ((((w.alloc (.cells #[.int .i64 regs,.int .i64 code,fn] 153)).alloc (.cells #[.int .i64 7,.int .i64 d,.int .i64 a,.int .i64 b,.int .i64 ty.base,.int .i64 ty.bits,.string ty.name,.bool ty.opt,.bool ty.err,.string nm,.slice A args.length cap] 83)).alloc (.cells #[.bool (d == 0),.bool (a == 0),.bool (b == 0),.bool (tz ty),.bool (emp nm),.bool ((args.length:Int) == 0)] 192)).drew)=w1 at M0 ⊢
  clear hm0 hm1 hm2 hm3 hm4 hm5 XB hq hem
  obtain ⟨b0,b1,b2,x0,x1,x2,x3,x4,x5,x6,x7,x8,x9,x10,f0,f1,f2,f3,f4,f5,r0,r1,r2,r3,r4,r5,zb,zx,zf⟩:=IM.cs M0.out
  have h6:=run_six
  go_wp2_with (first
   | (go_at_call 137; refine (isOperation_as (t:=false) (c:=false) _ HIN.out HT1.out HT2.out).mono ?_; rintro r w' ⟨rfl,rfl⟩))
  clear b0 b1 b2 x0 x1 x2 x3 x4 x5 x6 x7 x8 x9 x10 f0 f1 f2 f3 f4 f5 r0 r1 r2 r3 r4 r5 zb zx zf h6
  obtain ⟨FF,hFF⟩:∃ FF:Array Bool → Array Value,FF=(fun l=>#[selB l 12 (.bool (inB d 0 (regs - 1))) (.bool m0),selB l 14 (.bool (inB a 0 (regs - 1))) (.bool m1),.bool m2,selB l 16 (.bool (isIntS ty)) (.bool m3),.bool m4,.bool m5]):=⟨_,rfl⟩
  have HCd:Hid (∀ (l:Array Bool) (w':World),IMs 17 w w.heap.size #[.int .i64 regs,.int .i64 code,fn] (xC 7 d a b ty nm A cap args.length) FF l w' → Calls Tryz.prog 138 #[.agg #[.int .i64 regs,.int .i64 code,fn],.int .i64 d] w' fun e w3=>e=.returned (.bool (inB d 0 (regs - 1)))∧IMs 17 w w.heap.size #[.int .i64 regs,.int .i64 code,fn] (xC 7 d a b ty nm A cap args.length) FF l w3):=IMs.call fun w' x=>isReg_any regs code fn d w' h1 h2
  have HCa:Hid (∀ (l:Array Bool) (w':World),IMs 17 w w.heap.size #[.int .i64 regs,.int .i64 code,fn] (xC 7 d a b ty nm A cap args.length) FF l w' → Calls Tryz.prog 138 #[.agg #[.int .i64 regs,.int .i64 code,fn],.int .i64 a] w' fun e w3=>e=.returned (.bool (inB a 0 (regs - 1)))∧IMs 17 w w.heap.size #[.int .i64 regs,.int .i64 code,fn] (xC 7 d a b ty nm A cap args.length) FF l w3):=IMs.call fun w' x=>isReg_any regs code fn a w' h1 h2
  have HCi:Hid (∀ (l:Array Bool) (w':World),IMs 17 w w.heap.size #[.int .i64 regs,.int .i64 code,fn] (xC 7 d a b ty nm A cap args.length) FF l w' → Calls Tryz.prog 139 #[.agg #[.int .i64 ty.base,.int .i64 ty.bits,.string ty.name,.bool ty.opt,.bool ty.err]] w' fun e w3=>e=.returned (.bool (isIntS ty))∧IMs 17 w w.heap.size #[.int .i64 regs,.int .i64 code,fn] (xC 7 d a b ty nm A cap args.length) FF l w3):=IMs.call fun w' x=>gisInt_ty ty w' (g.ext x)
  have HD:=Lib.hid (IMs.fx 17 w w.heap.size regs code fn 7 d a b ty nm A cap args.length FF)
  have HST:∀ (i:Nat) (_:i ≠ 12:=by decide) (_:i ≠ 14:=by decide) (_:i ≠ 16:=by decide) (l:Array Bool) (w':World),IMs 17 w w.heap.size #[.int .i64 regs,.int .i64 code,fn] (xC 7 d a b ty nm A cap args.length) FF (l.setIfInBounds i true) w' ↔ IMs 17 w w.heap.size #[.int .i64 regs,.int .i64 code,fn] (xC 7 d a b ty nm A cap args.length) FF l w':=fun i n12 n14 n16=>IMs.same fun l=>by rw [hFF]; simp only [selB_ne n12,selB_ne n14,selB_ne n16]
  have hS0:IMs 17 w w.heap.size #[.int .i64 regs,.int .i64 code,fn] (xC 7 d a b ty nm A cap args.length) FF #[false,false,false,false,false,false,false,false,false,false,false,false,false,false,false,false,false] w1.drew:=⟨rfl,by rw [hFF]; exact M0.out.ext' (Ext.refl _).drew⟩
  refine flow_begin (IMs 17 w w.heap.size #[.int .i64 regs,.int .i64 code,fn] (xC 7 d a b ty nm A cap args.length) FF) #[false,false,false,false,false,false,false,false,false,false,false,false,false,false,false,false,false] rfl (by kernel_rfl) (fun _ _ _ _ _ h=>h) (hS0) (fun HQ=>?_)
  (refine tt 0 136 rfl HQ (HST 0) ?_; try simp only [putL,List.set])
  (refine tt 1 137 rfl HQ (HST 1) ?_; try simp only [putL,List.set])
  (refine tt 2 138 rfl HQ (HST 2) ?_; try simp only [putL,List.set])
  (refine tc 3 139 rfl (by kernel_rfl) HQ (HST 3) (by rfl) (fun l w' hF=>?_) ((HCd.out)) ?_; (focus (have hq:=HD.out _ hF; go_simp; try simp only [enters_isReg _ _])); try simp only [putL,List.set])
  (refine tt 4 140 rfl HQ (HST 4) ?_; try simp only [putL,List.set])
  (refine tt 5 141 rfl HQ (HST 5) ?_; try simp only [putL,List.set])
  (refine tt 6 142 rfl HQ (HST 6) ?_; try simp only [putL,List.set])
  (refine tc 7 143 rfl (by kernel_rfl) HQ (HST 7) (by rfl) (fun l w' hF=>?_) ((HCa.out)) ?_; (focus (have hq:=HD.out _ hF; go_simp; try simp only [enters_isReg _ _])); try simp only [putL,List.set])
  (refine tt 8 144 rfl HQ (HST 8) ?_; try simp only [putL,List.set])
  (refine tt 9 145 rfl HQ (HST 9) ?_; try simp only [putL,List.set])
  (refine tc 10 146 rfl (by kernel_rfl) HQ (HST 10) (by rfl) (fun l w' hF=>?_) ((HCi.out)) ?_; (focus (have hq:=HD.out _ hF; go_simp; try simp only [enters_gisInt _ _])); try simp only [putL,List.set])
  (refine tt 11 147 rfl HQ (HST 11) ?_; try simp only [putL,List.set])
  (refine flow_put (i:=12) (oi:=⟨none,_,_,_,_,none⟩) rfl rfl (IMs.store (i:=12) (k:=0) (b:=inB d 0 (regs - 1)) rfl rfl rfl rfl (by decide) (fun l=>by rw [hFF]; rfl) (by decide) (fun l hl=>by rw [hFF]; simp only [selB_eq hl,selB_ne (show (12:Nat) ≠ 14 by decide),selB_ne (show (12:Nat) ≠ 16 by decide)]; rfl)) (by kernel_rfl) ?_; try simp only [List.setIfInBounds_toArray,List.set_cons_zero,List.set_cons_succ])
  (refine tt 13 148 rfl HQ (HST 13) ?_; try simp only [putL,List.set])
  (refine flow_put (i:=14) (oi:=⟨none,_,_,_,_,none⟩) rfl rfl (IMs.store (i:=14) (k:=1) (b:=inB a 0 (regs - 1)) rfl rfl rfl rfl (by decide) (fun l=>by rw [hFF]; rfl) (by decide) (fun l hl=>by rw [hFF]; simp only [selB_eq hl,selB_ne (show (14:Nat) ≠ 12 by decide),selB_ne (show (14:Nat) ≠ 16 by decide)]; rfl)) (by kernel_rfl) ?_; try simp only [List.setIfInBounds_toArray,List.set_cons_zero,List.set_cons_succ])
  (refine tt 15 149 rfl HQ (HST 15) ?_; try simp only [putL,List.set])
  (refine flow_put (i:=16) (oi:=⟨none,_,_,_,_,none⟩) rfl rfl (IMs.store (i:=16) (k:=3) (b:=isIntS ty) rfl rfl rfl rfl (by decide) (fun l=>by rw [hFF]; rfl) (by decide) (fun l hl=>by rw [hFF]; simp only [selB_eq hl,selB_ne (show (16:Nat) ≠ 12 by decide),selB_ne (show (16:Nat) ≠ 14 by decide)]; rfl)) (by kernel_rfl) ?_; try simp only [List.setIfInBounds_toArray,List.set_cons_zero,List.set_cons_succ])
  refine flow_done (by kernel_rfl) ?_
  intro w3 hm3
  have M3:Hid (IM w w3 w.heap.size #[.int .i64 regs,.int .i64 code,fn] (xC 7 d a b ty nm A cap args.length) #[.bool (inB d 0 (regs - 1)),.bool (inB a 0 (regs - 1)),.bool m2,.bool (isIntS ty),.bool m4,.bool m5]):=by
   have h:=hm3.2
   rw [hFF] at h
   exact h
  clear hm3 HD HST hFF HCd HCa HCi
  obtain ⟨b0,b1,b2,x0,x1,x2,x3,x4,x5,x6,x7,x8,x9,x10,f0,f1,f2,f3,f4,f5,r0,r1,r2,r3,r4,r5,zb,zx,zf⟩:=IM.cs M3.out
  have h6:=run_six
  go_wp2_with fail
  have x9w:=M3.out.ext
  go_ret
  exact ⟨ret_bool (by
   obtain ⟨rfl,rfl,rfl,rfl,rfl,rfl⟩:=HM.out
   rw [HI.out]
   first | done | rfl | (simp; done)),exA⟩
 ·skip
  have HI:Hid (instR pb regs code ⟨8,d,a,b,ty,nm,A,cap,args⟩=(isPartB (partsR 8).1 d regs code && (isPartB (partsR 8).2.1 a regs code && (isPartB (partsR 8).2.2 b regs code && (isIntS ty && (emp nm && ((args.length:Int) == 0))))))):=inst_six (x:=⟨8,d,a,b,ty,nm,A,cap,args⟩) rfl (show (8:Int) ≠ 14 by decide) rfl rfl
  have HIN:Hid (In64 8):=⟨by decide,by decide⟩
  have HT1:Hid (inB 8 105 117=false):=rfl
  have HT2:Hid (inB 8 118 123=false):=rfl
  have XB:=Lib.hid (XBx w regs code fn 8 d a b ty nm A cap args.length)
  go_enter Tryz.func100,Tryz.ntmps100
  go_wp2_with fail
  go_region_held3 (fun w'=>w'.cell? ⟨w.heap.size + 1,1,none⟩=some (.int .i64 d)∧w'.cell? ⟨w.heap.size + 1,2,none⟩=some (.int .i64 a)∧w'.cell? ⟨w.heap.size + 1,3,none⟩=some (.int .i64 b)∧w'.cell? ⟨w.heap.size + 1,4,none⟩=some (.int .i64 ty.base)∧w'.cell? ⟨w.heap.size + 1,5,none⟩=some (.int .i64 ty.bits)∧w'.cell? ⟨w.heap.size + 1,6,none⟩=some (.string ty.name)∧w'.cell? ⟨w.heap.size + 1,7,none⟩=some (.bool ty.opt)∧w'.cell? ⟨w.heap.size + 1,8,none⟩=some (.bool ty.err)∧w'.cell? ⟨w.heap.size + 1,9,none⟩=some (.string nm)∧w'.cell? ⟨w.heap.size + 1,10,none⟩=some (.slice A args.length cap)) ((first | exact XB.out _ (Ext.refl _).drew | exact XB.out _ ((Ext.refl _).drew.alloc _) | exact XB.out _ ((Ext.refl _).alloc _).drew | (exact XB.out _ exA))) (fail)
  obtain ⟨m0,hm0⟩:∃ m,(d == 0)=m:=⟨_,rfl⟩
  obtain ⟨m1,hm1⟩:∃ m,(a == 0)=m:=⟨_,rfl⟩
  obtain ⟨m2,hm2⟩:∃ m,(b == 0)=m:=⟨_,rfl⟩
  obtain ⟨m3,hm3⟩:∃ m,tz ty=m:=⟨_,rfl⟩
  obtain ⟨m4,hm4⟩:∃ m,emp nm=m:=⟨_,rfl⟩
  obtain ⟨m5,hm5⟩:∃ m,((args.length:Int) == 0)=m:=⟨_,rfl⟩
  have M0:Hid (IM w ((((w.alloc (.cells #[.int .i64 regs,.int .i64 code,fn] 153)).alloc (.cells #[.int .i64 8,.int .i64 d,.int .i64 a,.int .i64 b,.int .i64 ty.base,.int .i64 ty.bits,.string ty.name,.bool ty.opt,.bool ty.err,.string nm,.slice A args.length cap] 83)).alloc (.cells #[.bool (d == 0),.bool (a == 0),.bool (b == 0),.bool (tz ty),.bool (emp nm),.bool ((args.length:Int) == 0)] 192)).drew) w.heap.size #[.int .i64 regs,.int .i64 code,fn] (xC 8 d a b ty nm A cap args.length) #[.bool m0,.bool m1,.bool m2,.bool m3,.bool m4,.bool m5]):=by
   rw [← hm0,← hm1,← hm2,← hm3,← hm4,← hm5]
   exact IM.start ..
  have HM:Hid ((d == 0)=m0∧(a == 0)=m1∧(b == 0)=m2∧tz ty=m3∧emp nm=m4∧((args.length:Int) == 0)=m5):=⟨hm0,hm1,hm2,hm3,hm4,hm5⟩
  generalize ((((w.alloc (.cells #[.int .i64 regs,.int .i64 code,fn] 153)).alloc (.cells #[.int .i64 8,.int .i64 d,.int .i64 a,.int .i64 b,.int .i64 ty.base,.int .i64 ty.bits,.string ty.name,.bool ty.opt,.bool ty.err,.string nm,.slice A args.length cap] 83)).alloc (.cells #[.bool (d == 0),.bool (a == 0),.bool (b == 0),.bool (tz ty),.bool (emp nm),.bool ((args.length:Int) == 0)] 192)).drew)=w1 at M0 ⊢
  clear hm0 hm1 hm2 hm3 hm4 hm5 XB hq hem
  obtain ⟨b0,b1,b2,x0,x1,x2,x3,x4,x5,x6,x7,x8,x9,x10,f0,f1,f2,f3,f4,f5,r0,r1,r2,r3,r4,r5,zb,zx,zf⟩:=IM.cs M0.out
  have h6:=run_six
  go_wp2_with (first
   | (go_at_call 137; refine (isOperation_as (t:=false) (c:=false) _ HIN.out HT1.out HT2.out).mono ?_; rintro r w' ⟨rfl,rfl⟩))
  clear b0 b1 b2 x0 x1 x2 x3 x4 x5 x6 x7 x8 x9 x10 f0 f1 f2 f3 f4 f5 r0 r1 r2 r3 r4 r5 zb zx zf h6
  obtain ⟨FF,hFF⟩:∃ FF:Array Bool → Array Value,FF=(fun l=>#[selB l 12 (.bool (inB d 0 (regs - 1))) (.bool m0),selB l 14 (.bool (inB a 0 (regs - 1))) (.bool m1),.bool m2,selB l 16 (.bool (isIntS ty)) (.bool m3),.bool m4,.bool m5]):=⟨_,rfl⟩
  have HCd:Hid (∀ (l:Array Bool) (w':World),IMs 17 w w.heap.size #[.int .i64 regs,.int .i64 code,fn] (xC 8 d a b ty nm A cap args.length) FF l w' → Calls Tryz.prog 138 #[.agg #[.int .i64 regs,.int .i64 code,fn],.int .i64 d] w' fun e w3=>e=.returned (.bool (inB d 0 (regs - 1)))∧IMs 17 w w.heap.size #[.int .i64 regs,.int .i64 code,fn] (xC 8 d a b ty nm A cap args.length) FF l w3):=IMs.call fun w' x=>isReg_any regs code fn d w' h1 h2
  have HCa:Hid (∀ (l:Array Bool) (w':World),IMs 17 w w.heap.size #[.int .i64 regs,.int .i64 code,fn] (xC 8 d a b ty nm A cap args.length) FF l w' → Calls Tryz.prog 138 #[.agg #[.int .i64 regs,.int .i64 code,fn],.int .i64 a] w' fun e w3=>e=.returned (.bool (inB a 0 (regs - 1)))∧IMs 17 w w.heap.size #[.int .i64 regs,.int .i64 code,fn] (xC 8 d a b ty nm A cap args.length) FF l w3):=IMs.call fun w' x=>isReg_any regs code fn a w' h1 h2
  have HCi:Hid (∀ (l:Array Bool) (w':World),IMs 17 w w.heap.size #[.int .i64 regs,.int .i64 code,fn] (xC 8 d a b ty nm A cap args.length) FF l w' → Calls Tryz.prog 139 #[.agg #[.int .i64 ty.base,.int .i64 ty.bits,.string ty.name,.bool ty.opt,.bool ty.err]] w' fun e w3=>e=.returned (.bool (isIntS ty))∧IMs 17 w w.heap.size #[.int .i64 regs,.int .i64 code,fn] (xC 8 d a b ty nm A cap args.length) FF l w3):=IMs.call fun w' x=>gisInt_ty ty w' (g.ext x)
  have HD:=Lib.hid (IMs.fx 17 w w.heap.size regs code fn 8 d a b ty nm A cap args.length FF)
  have HST:∀ (i:Nat) (_:i ≠ 12:=by decide) (_:i ≠ 14:=by decide) (_:i ≠ 16:=by decide) (l:Array Bool) (w':World),IMs 17 w w.heap.size #[.int .i64 regs,.int .i64 code,fn] (xC 8 d a b ty nm A cap args.length) FF (l.setIfInBounds i true) w' ↔ IMs 17 w w.heap.size #[.int .i64 regs,.int .i64 code,fn] (xC 8 d a b ty nm A cap args.length) FF l w':=fun i n12 n14 n16=>IMs.same fun l=>by rw [hFF]; simp only [selB_ne n12,selB_ne n14,selB_ne n16]
  have hS0:IMs 17 w w.heap.size #[.int .i64 regs,.int .i64 code,fn] (xC 8 d a b ty nm A cap args.length) FF #[false,false,false,false,false,false,false,false,false,false,false,false,false,false,false,false,false] w1.drew:=⟨rfl,by rw [hFF]; exact M0.out.ext' (Ext.refl _).drew⟩
  refine flow_begin (IMs 17 w w.heap.size #[.int .i64 regs,.int .i64 code,fn] (xC 8 d a b ty nm A cap args.length) FF) #[false,false,false,false,false,false,false,false,false,false,false,false,false,false,false,false,false] rfl (by kernel_rfl) (fun _ _ _ _ _ h=>h) (hS0) (fun HQ=>?_)
  (refine tt 0 136 rfl HQ (HST 0) ?_; try simp only [putL,List.set])
  (refine tt 1 137 rfl HQ (HST 1) ?_; try simp only [putL,List.set])
  (refine tt 2 138 rfl HQ (HST 2) ?_; try simp only [putL,List.set])
  (refine tc 3 139 rfl (by kernel_rfl) HQ (HST 3) (by rfl) (fun l w' hF=>?_) ((HCd.out)) ?_; (focus (have hq:=HD.out _ hF; go_simp; try simp only [enters_isReg _ _])); try simp only [putL,List.set])
  (refine tt 4 140 rfl HQ (HST 4) ?_; try simp only [putL,List.set])
  (refine tt 5 141 rfl HQ (HST 5) ?_; try simp only [putL,List.set])
  (refine tt 6 142 rfl HQ (HST 6) ?_; try simp only [putL,List.set])
  (refine tc 7 143 rfl (by kernel_rfl) HQ (HST 7) (by rfl) (fun l w' hF=>?_) ((HCa.out)) ?_; (focus (have hq:=HD.out _ hF; go_simp; try simp only [enters_isReg _ _])); try simp only [putL,List.set])
  (refine tt 8 144 rfl HQ (HST 8) ?_; try simp only [putL,List.set])
  (refine tt 9 145 rfl HQ (HST 9) ?_; try simp only [putL,List.set])
  (refine tc 10 146 rfl (by kernel_rfl) HQ (HST 10) (by rfl) (fun l w' hF=>?_) ((HCi.out)) ?_; (focus (have hq:=HD.out _ hF; go_simp; try simp only [enters_gisInt _ _])); try simp only [putL,List.set])
  (refine tt 11 147 rfl HQ (HST 11) ?_; try simp only [putL,List.set])
  (refine flow_put (i:=12) (oi:=⟨none,_,_,_,_,none⟩) rfl rfl (IMs.store (i:=12) (k:=0) (b:=inB d 0 (regs - 1)) rfl rfl rfl rfl (by decide) (fun l=>by rw [hFF]; rfl) (by decide) (fun l hl=>by rw [hFF]; simp only [selB_eq hl,selB_ne (show (12:Nat) ≠ 14 by decide),selB_ne (show (12:Nat) ≠ 16 by decide)]; rfl)) (by kernel_rfl) ?_; try simp only [List.setIfInBounds_toArray,List.set_cons_zero,List.set_cons_succ])
  (refine tt 13 148 rfl HQ (HST 13) ?_; try simp only [putL,List.set])
  (refine flow_put (i:=14) (oi:=⟨none,_,_,_,_,none⟩) rfl rfl (IMs.store (i:=14) (k:=1) (b:=inB a 0 (regs - 1)) rfl rfl rfl rfl (by decide) (fun l=>by rw [hFF]; rfl) (by decide) (fun l hl=>by rw [hFF]; simp only [selB_eq hl,selB_ne (show (14:Nat) ≠ 12 by decide),selB_ne (show (14:Nat) ≠ 16 by decide)]; rfl)) (by kernel_rfl) ?_; try simp only [List.setIfInBounds_toArray,List.set_cons_zero,List.set_cons_succ])
  (refine tt 15 149 rfl HQ (HST 15) ?_; try simp only [putL,List.set])
  (refine flow_put (i:=16) (oi:=⟨none,_,_,_,_,none⟩) rfl rfl (IMs.store (i:=16) (k:=3) (b:=isIntS ty) rfl rfl rfl rfl (by decide) (fun l=>by rw [hFF]; rfl) (by decide) (fun l hl=>by rw [hFF]; simp only [selB_eq hl,selB_ne (show (16:Nat) ≠ 12 by decide),selB_ne (show (16:Nat) ≠ 14 by decide)]; rfl)) (by kernel_rfl) ?_; try simp only [List.setIfInBounds_toArray,List.set_cons_zero,List.set_cons_succ])
  refine flow_done (by kernel_rfl) ?_
  intro w3 hm3
  have M3:Hid (IM w w3 w.heap.size #[.int .i64 regs,.int .i64 code,fn] (xC 8 d a b ty nm A cap args.length) #[.bool (inB d 0 (regs - 1)),.bool (inB a 0 (regs - 1)),.bool m2,.bool (isIntS ty),.bool m4,.bool m5]):=by
   have h:=hm3.2
   rw [hFF] at h
   exact h
  clear hm3 HD HST hFF HCd HCa HCi
  obtain ⟨b0,b1,b2,x0,x1,x2,x3,x4,x5,x6,x7,x8,x9,x10,f0,f1,f2,f3,f4,f5,r0,r1,r2,r3,r4,r5,zb,zx,zf⟩:=IM.cs M3.out
  have h6:=run_six
  go_wp2_with fail
  have x9w:=M3.out.ext
  go_ret
  exact ⟨ret_bool (by
   obtain ⟨rfl,rfl,rfl,rfl,rfl,rfl⟩:=HM.out
   rw [HI.out]
   first | done | rfl | (simp; done)),exA⟩
theorem inst_lead (regs code:Int) (fn:Value) (pb:Bool) (op d a b:Int) (ty:Ty) (nm:ByteArray) (A:Option Addr) (cap:Nat) (args:List Int) (w:World) (g:Laid w) (h1:1 ≤ regs) (h2:regs ≤ 6) (hc1:1 ≤ code) (hc2:code ≤ 1000000) (hal:args.length ≤ 9223372036854775806) (hop:op=10 ∨ op=11 ∨ op=13) :
  Calls Tryz.prog 100 #[.agg #[.int .i64 regs,.int .i64 code,fn],.agg #[.int .i64 op,.int .i64 d,.int .i64 a,.int .i64 b,.int .i64 ty.base,.int .i64 ty.bits,.string ty.name,.bool ty.opt,.bool ty.err,.string nm,.slice A args.length cap]] w fun e w'=>e=.returned (.bool (instR pb regs code ⟨op,d,a,b,ty,nm,A,cap,args⟩))∧Ext w w':=by
 have hq:=run_tz_eql ty
 have hem:nm.toList.isEmpty=emp nm:=rfl
 rcases hop with rfl | rfl | rfl
 ·skip
  have HI:Hid (instR pb regs code ⟨10,d,a,b,ty,nm,A,cap,args⟩=(isPartB (partsR 10).1 d regs code && (isPartB (partsR 10).2.1 a regs code && (isPartB (partsR 10).2.2 b regs code && (tz ty && (emp nm && ((args.length:Int) == 0))))))):=inst_six (x:=⟨10,d,a,b,ty,nm,A,cap,args⟩) rfl (show (10:Int) ≠ 14 by decide) rfl rfl
  have HIN:Hid (In64 10):=⟨by decide,by decide⟩
  have HT1:Hid (inB 10 105 117=false):=rfl
  have HT2:Hid (inB 10 118 123=false):=rfl
  have XB:=Lib.hid (XBx w regs code fn 10 d a b ty nm A cap args.length)
  go_enter Tryz.func100,Tryz.ntmps100
  go_wp2_with fail
  go_region_held3 (fun w'=>w'.cell? ⟨w.heap.size + 1,1,none⟩=some (.int .i64 d)∧w'.cell? ⟨w.heap.size + 1,2,none⟩=some (.int .i64 a)∧w'.cell? ⟨w.heap.size + 1,3,none⟩=some (.int .i64 b)∧w'.cell? ⟨w.heap.size + 1,4,none⟩=some (.int .i64 ty.base)∧w'.cell? ⟨w.heap.size + 1,5,none⟩=some (.int .i64 ty.bits)∧w'.cell? ⟨w.heap.size + 1,6,none⟩=some (.string ty.name)∧w'.cell? ⟨w.heap.size + 1,7,none⟩=some (.bool ty.opt)∧w'.cell? ⟨w.heap.size + 1,8,none⟩=some (.bool ty.err)∧w'.cell? ⟨w.heap.size + 1,9,none⟩=some (.string nm)∧w'.cell? ⟨w.heap.size + 1,10,none⟩=some (.slice A args.length cap)) ((first | exact XB.out _ (Ext.refl _).drew | exact XB.out _ ((Ext.refl _).drew.alloc _) | exact XB.out _ ((Ext.refl _).alloc _).drew | (exact XB.out _ exA))) (fail)
  obtain ⟨m0,hm0⟩:∃ m,(d == 0)=m:=⟨_,rfl⟩
  obtain ⟨m1,hm1⟩:∃ m,(a == 0)=m:=⟨_,rfl⟩
  obtain ⟨m2,hm2⟩:∃ m,(b == 0)=m:=⟨_,rfl⟩
  obtain ⟨m3,hm3⟩:∃ m,tz ty=m:=⟨_,rfl⟩
  obtain ⟨m4,hm4⟩:∃ m,emp nm=m:=⟨_,rfl⟩
  obtain ⟨m5,hm5⟩:∃ m,((args.length:Int) == 0)=m:=⟨_,rfl⟩
  have M0:Hid (IM w ((((w.alloc (.cells #[.int .i64 regs,.int .i64 code,fn] 153)).alloc (.cells #[.int .i64 10,.int .i64 d,.int .i64 a,.int .i64 b,.int .i64 ty.base,.int .i64 ty.bits,.string ty.name,.bool ty.opt,.bool ty.err,.string nm,.slice A args.length cap] 83)).alloc (.cells #[.bool (d == 0),.bool (a == 0),.bool (b == 0),.bool (tz ty),.bool (emp nm),.bool ((args.length:Int) == 0)] 192)).drew) w.heap.size #[.int .i64 regs,.int .i64 code,fn] (xC 10 d a b ty nm A cap args.length) #[.bool m0,.bool m1,.bool m2,.bool m3,.bool m4,.bool m5]):=by
   rw [← hm0,← hm1,← hm2,← hm3,← hm4,← hm5]
   exact IM.start ..
  have HM:Hid ((d == 0)=m0∧(a == 0)=m1∧(b == 0)=m2∧tz ty=m3∧emp nm=m4∧((args.length:Int) == 0)=m5):=⟨hm0,hm1,hm2,hm3,hm4,hm5⟩
  generalize ((((w.alloc (.cells #[.int .i64 regs,.int .i64 code,fn] 153)).alloc (.cells #[.int .i64 10,.int .i64 d,.int .i64 a,.int .i64 b,.int .i64 ty.base,.int .i64 ty.bits,.string ty.name,.bool ty.opt,.bool ty.err,.string nm,.slice A args.length cap] 83)).alloc (.cells #[.bool (d == 0),.bool (a == 0),.bool (b == 0),.bool (tz ty),.bool (emp nm),.bool ((args.length:Int) == 0)] 192)).drew)=w1 at M0 ⊢
  clear hm0 hm1 hm2 hm3 hm4 hm5 XB hq hem
  obtain ⟨b0,b1,b2,x0,x1,x2,x3,x4,x5,x6,x7,x8,x9,x10,f0,f1,f2,f3,f4,f5,r0,r1,r2,r3,r4,r5,zb,zx,zf⟩:=IM.cs M0.out
  have h6:=run_six
  go_wp2_with (first
   | (go_at_call 137; refine (isOperation_as (t:=false) (c:=false) _ HIN.out HT1.out HT2.out).mono ?_; rintro r w' ⟨rfl,rfl⟩))
  have hwc:IntKind.i64.wrap (code - 1)=code - 1:=IntWalk.i64_in _ (by omega)
  clear b0 b1 b2 x0 x1 x2 x3 x4 x5 x6 x7 x8 x9 x10 f0 f1 f2 f3 f4 f5 r0 r1 r2 r3 r4 r5 zb zx zf h6
  obtain ⟨FF,hFF⟩:∃ FF:Array Bool → Array Value,FF=(fun l=>#[selB l 11 (.bool (inB d 0 (code - 1))) (.bool m0),selB l 13 (.bool (inB a 0 (regs - 1))) (.bool m1),.bool m2,.bool m3,.bool m4,.bool m5]):=⟨_,rfl⟩
  have HCw:Hid (∀ (l:Array Bool) (w':World),IMs 14 w w.heap.size #[.int .i64 regs,.int .i64 code,fn] (xC 10 d a b ty nm A cap args.length) FF l w' → Calls Tryz.prog 78 #[.int .i64 d,.int .i64 0,.int .i64 (code - 1)] w' fun e w3=>e=.returned (.bool (inB d 0 (code - 1)))∧IMs 14 w w.heap.size #[.int .i64 regs,.int .i64 code,fn] (xC 10 d a b ty nm A cap args.length) FF l w3):=IMs.call fun w' x=>(gwithin_any d 0 (code - 1) w').mono fun e w3 h=>⟨h.1,h.2 ▸ Ext.refl _⟩
  have HCa:Hid (∀ (l:Array Bool) (w':World),IMs 14 w w.heap.size #[.int .i64 regs,.int .i64 code,fn] (xC 10 d a b ty nm A cap args.length) FF l w' → Calls Tryz.prog 138 #[.agg #[.int .i64 regs,.int .i64 code,fn],.int .i64 a] w' fun e w3=>e=.returned (.bool (inB a 0 (regs - 1)))∧IMs 14 w w.heap.size #[.int .i64 regs,.int .i64 code,fn] (xC 10 d a b ty nm A cap args.length) FF l w3):=IMs.call fun w' x=>isReg_any regs code fn a w' h1 h2
  have HD:=Lib.hid (IMs.fx 14 w w.heap.size regs code fn 10 d a b ty nm A cap args.length FF)
  have HST:∀ (i:Nat) (_:i ≠ 11:=by decide) (_:i ≠ 13:=by decide) (l:Array Bool) (w':World),IMs 14 w w.heap.size #[.int .i64 regs,.int .i64 code,fn] (xC 10 d a b ty nm A cap args.length) FF (l.setIfInBounds i true) w' ↔ IMs 14 w w.heap.size #[.int .i64 regs,.int .i64 code,fn] (xC 10 d a b ty nm A cap args.length) FF l w':=fun i n11 n13=>IMs.same fun l=>by rw [hFF]; simp only [selB_ne n11,selB_ne n13]
  have hS0:IMs 14 w w.heap.size #[.int .i64 regs,.int .i64 code,fn] (xC 10 d a b ty nm A cap args.length) FF #[false,false,false,false,false,false,false,false,false,false,false,false,false,false] w1.drew:=⟨rfl,by rw [hFF]; exact M0.out.ext' (Ext.refl _).drew⟩
  refine flow_begin (IMs 14 w w.heap.size #[.int .i64 regs,.int .i64 code,fn] (xC 10 d a b ty nm A cap args.length) FF) #[false,false,false,false,false,false,false,false,false,false,false,false,false,false] rfl (by kernel_rfl) (fun _ _ _ _ _ h=>h) (hS0) (fun HQ=>?_)
  (refine tt 0 154 rfl HQ (HST 0) ?_; try simp only [putL,List.set])
  (refine tt 1 155 rfl HQ (HST 1) ?_; try simp only [putL,List.set])
  (refine tt 2 156 rfl HQ (HST 2) ?_; try simp only [putL,List.set])
  (refine tt 3 157 rfl HQ (HST 3) ?_; try simp only [putL,List.set])
  (refine tt 4 158 rfl HQ (HST 4) ?_; try simp only [putL,List.set])
  (refine tc 5 159 rfl (by kernel_rfl) HQ (HST 5) (by rfl) (fun l w' hF=>?_) ((HCw.out)) ?_; (focus (have hq:=HD.out _ hF; go_simp; try simp only [enters_gwithin _ _])); try simp only [putL,List.set])
  (refine tt 6 160 rfl HQ (HST 6) ?_; try simp only [putL,List.set])
  (refine tt 7 161 rfl HQ (HST 7) ?_; try simp only [putL,List.set])
  (refine tt 8 162 rfl HQ (HST 8) ?_; try simp only [putL,List.set])
  (refine tc 9 163 rfl (by kernel_rfl) HQ (HST 9) (by rfl) (fun l w' hF=>?_) ((HCa.out)) ?_; (focus (have hq:=HD.out _ hF; go_simp; try simp only [enters_isReg _ _])); try simp only [putL,List.set])
  (refine tt 10 164 rfl HQ (HST 10) ?_; try simp only [putL,List.set])
  (refine flow_put (i:=11) (oi:=⟨none,_,_,_,_,none⟩) rfl rfl (IMs.store (i:=11) (k:=0) (b:=inB d 0 (code - 1)) rfl rfl rfl rfl (by decide) (fun l=>by rw [hFF]; rfl) (by decide) (fun l hl=>by rw [hFF]; simp only [selB_eq hl,selB_ne (show (11:Nat) ≠ 13 by decide)]; rfl)) (by kernel_rfl) ?_; try simp only [List.setIfInBounds_toArray,List.set_cons_zero,List.set_cons_succ])
  (refine tt 12 165 rfl HQ (HST 12) ?_; try simp only [putL,List.set])
  (refine flow_put (i:=13) (oi:=⟨none,_,_,_,_,none⟩) rfl rfl (IMs.store (i:=13) (k:=1) (b:=inB a 0 (regs - 1)) rfl rfl rfl rfl (by decide) (fun l=>by rw [hFF]; rfl) (by decide) (fun l hl=>by rw [hFF]; simp only [selB_eq hl,selB_ne (show (13:Nat) ≠ 11 by decide)]; rfl)) (by kernel_rfl) ?_; try simp only [List.setIfInBounds_toArray,List.set_cons_zero,List.set_cons_succ])
  refine flow_done (by kernel_rfl) ?_
  intro w3 hm3
  have M3:Hid (IM w w3 w.heap.size #[.int .i64 regs,.int .i64 code,fn] (xC 10 d a b ty nm A cap args.length) #[.bool (inB d 0 (code - 1)),.bool (inB a 0 (regs - 1)),.bool m2,.bool m3,.bool m4,.bool m5]):=by
   have h:=hm3.2
   rw [hFF] at h
   exact h
  clear hwc hm3 HD HST hFF HCw HCa
  obtain ⟨b0,b1,b2,x0,x1,x2,x3,x4,x5,x6,x7,x8,x9,x10,f0,f1,f2,f3,f4,f5,r0,r1,r2,r3,r4,r5,zb,zx,zf⟩:=IM.cs M3.out
  have h6:=run_six
  go_wp2_with fail
  have x9w:=M3.out.ext
  go_ret
  exact ⟨ret_bool (by
   obtain ⟨rfl,rfl,rfl,rfl,rfl,rfl⟩:=HM.out
   rw [HI.out]
   first | done | rfl | (simp; done)),exA⟩
 ·skip
  have HI:Hid (instR pb regs code ⟨11,d,a,b,ty,nm,A,cap,args⟩=(isPartB (partsR 11).1 d regs code && (isPartB (partsR 11).2.1 a regs code && (isPartB (partsR 11).2.2 b regs code && (tz ty && (emp nm && ((args.length:Int) == 0))))))):=inst_six (x:=⟨11,d,a,b,ty,nm,A,cap,args⟩) rfl (show (11:Int) ≠ 14 by decide) rfl rfl
  have HIN:Hid (In64 11):=⟨by decide,by decide⟩
  have HT1:Hid (inB 11 105 117=false):=rfl
  have HT2:Hid (inB 11 118 123=false):=rfl
  have XB:=Lib.hid (XBx w regs code fn 11 d a b ty nm A cap args.length)
  go_enter Tryz.func100,Tryz.ntmps100
  go_wp2_with fail
  go_region_held3 (fun w'=>w'.cell? ⟨w.heap.size + 1,1,none⟩=some (.int .i64 d)∧w'.cell? ⟨w.heap.size + 1,2,none⟩=some (.int .i64 a)∧w'.cell? ⟨w.heap.size + 1,3,none⟩=some (.int .i64 b)∧w'.cell? ⟨w.heap.size + 1,4,none⟩=some (.int .i64 ty.base)∧w'.cell? ⟨w.heap.size + 1,5,none⟩=some (.int .i64 ty.bits)∧w'.cell? ⟨w.heap.size + 1,6,none⟩=some (.string ty.name)∧w'.cell? ⟨w.heap.size + 1,7,none⟩=some (.bool ty.opt)∧w'.cell? ⟨w.heap.size + 1,8,none⟩=some (.bool ty.err)∧w'.cell? ⟨w.heap.size + 1,9,none⟩=some (.string nm)∧w'.cell? ⟨w.heap.size + 1,10,none⟩=some (.slice A args.length cap)) ((first | exact XB.out _ (Ext.refl _).drew | exact XB.out _ ((Ext.refl _).drew.alloc _) | exact XB.out _ ((Ext.refl _).alloc _).drew | (exact XB.out _ exA))) (fail)
  obtain ⟨m0,hm0⟩:∃ m,(d == 0)=m:=⟨_,rfl⟩
  obtain ⟨m1,hm1⟩:∃ m,(a == 0)=m:=⟨_,rfl⟩
  obtain ⟨m2,hm2⟩:∃ m,(b == 0)=m:=⟨_,rfl⟩
  obtain ⟨m3,hm3⟩:∃ m,tz ty=m:=⟨_,rfl⟩
  obtain ⟨m4,hm4⟩:∃ m,emp nm=m:=⟨_,rfl⟩
  obtain ⟨m5,hm5⟩:∃ m,((args.length:Int) == 0)=m:=⟨_,rfl⟩
  have M0:Hid (IM w ((((w.alloc (.cells #[.int .i64 regs,.int .i64 code,fn] 153)).alloc (.cells #[.int .i64 11,.int .i64 d,.int .i64 a,.int .i64 b,.int .i64 ty.base,.int .i64 ty.bits,.string ty.name,.bool ty.opt,.bool ty.err,.string nm,.slice A args.length cap] 83)).alloc (.cells #[.bool (d == 0),.bool (a == 0),.bool (b == 0),.bool (tz ty),.bool (emp nm),.bool ((args.length:Int) == 0)] 192)).drew) w.heap.size #[.int .i64 regs,.int .i64 code,fn] (xC 11 d a b ty nm A cap args.length) #[.bool m0,.bool m1,.bool m2,.bool m3,.bool m4,.bool m5]):=by
   rw [← hm0,← hm1,← hm2,← hm3,← hm4,← hm5]
   exact IM.start ..
  have HM:Hid ((d == 0)=m0∧(a == 0)=m1∧(b == 0)=m2∧tz ty=m3∧emp nm=m4∧((args.length:Int) == 0)=m5):=⟨hm0,hm1,hm2,hm3,hm4,hm5⟩
  generalize ((((w.alloc (.cells #[.int .i64 regs,.int .i64 code,fn] 153)).alloc (.cells #[.int .i64 11,.int .i64 d,.int .i64 a,.int .i64 b,.int .i64 ty.base,.int .i64 ty.bits,.string ty.name,.bool ty.opt,.bool ty.err,.string nm,.slice A args.length cap] 83)).alloc (.cells #[.bool (d == 0),.bool (a == 0),.bool (b == 0),.bool (tz ty),.bool (emp nm),.bool ((args.length:Int) == 0)] 192)).drew)=w1 at M0 ⊢
  clear hm0 hm1 hm2 hm3 hm4 hm5 XB hq hem
  obtain ⟨b0,b1,b2,x0,x1,x2,x3,x4,x5,x6,x7,x8,x9,x10,f0,f1,f2,f3,f4,f5,r0,r1,r2,r3,r4,r5,zb,zx,zf⟩:=IM.cs M0.out
  have h6:=run_six
  go_wp2_with (first
   | (go_at_call 137; refine (isOperation_as (t:=false) (c:=false) _ HIN.out HT1.out HT2.out).mono ?_; rintro r w' ⟨rfl,rfl⟩))
  have hwc:IntKind.i64.wrap (code - 1)=code - 1:=IntWalk.i64_in _ (by omega)
  clear b0 b1 b2 x0 x1 x2 x3 x4 x5 x6 x7 x8 x9 x10 f0 f1 f2 f3 f4 f5 r0 r1 r2 r3 r4 r5 zb zx zf h6
  obtain ⟨FF,hFF⟩:∃ FF:Array Bool → Array Value,FF=(fun l=>#[selB l 11 (.bool (inB d 0 (code - 1))) (.bool m0),selB l 13 (.bool (inB a 0 (regs - 1))) (.bool m1),.bool m2,.bool m3,.bool m4,.bool m5]):=⟨_,rfl⟩
  have HCw:Hid (∀ (l:Array Bool) (w':World),IMs 14 w w.heap.size #[.int .i64 regs,.int .i64 code,fn] (xC 11 d a b ty nm A cap args.length) FF l w' → Calls Tryz.prog 78 #[.int .i64 d,.int .i64 0,.int .i64 (code - 1)] w' fun e w3=>e=.returned (.bool (inB d 0 (code - 1)))∧IMs 14 w w.heap.size #[.int .i64 regs,.int .i64 code,fn] (xC 11 d a b ty nm A cap args.length) FF l w3):=IMs.call fun w' x=>(gwithin_any d 0 (code - 1) w').mono fun e w3 h=>⟨h.1,h.2 ▸ Ext.refl _⟩
  have HCa:Hid (∀ (l:Array Bool) (w':World),IMs 14 w w.heap.size #[.int .i64 regs,.int .i64 code,fn] (xC 11 d a b ty nm A cap args.length) FF l w' → Calls Tryz.prog 138 #[.agg #[.int .i64 regs,.int .i64 code,fn],.int .i64 a] w' fun e w3=>e=.returned (.bool (inB a 0 (regs - 1)))∧IMs 14 w w.heap.size #[.int .i64 regs,.int .i64 code,fn] (xC 11 d a b ty nm A cap args.length) FF l w3):=IMs.call fun w' x=>isReg_any regs code fn a w' h1 h2
  have HD:=Lib.hid (IMs.fx 14 w w.heap.size regs code fn 11 d a b ty nm A cap args.length FF)
  have HST:∀ (i:Nat) (_:i ≠ 11:=by decide) (_:i ≠ 13:=by decide) (l:Array Bool) (w':World),IMs 14 w w.heap.size #[.int .i64 regs,.int .i64 code,fn] (xC 11 d a b ty nm A cap args.length) FF (l.setIfInBounds i true) w' ↔ IMs 14 w w.heap.size #[.int .i64 regs,.int .i64 code,fn] (xC 11 d a b ty nm A cap args.length) FF l w':=fun i n11 n13=>IMs.same fun l=>by rw [hFF]; simp only [selB_ne n11,selB_ne n13]
  have hS0:IMs 14 w w.heap.size #[.int .i64 regs,.int .i64 code,fn] (xC 11 d a b ty nm A cap args.length) FF #[false,false,false,false,false,false,false,false,false,false,false,false,false,false] w1.drew:=⟨rfl,by rw [hFF]; exact M0.out.ext' (Ext.refl _).drew⟩
  refine flow_begin (IMs 14 w w.heap.size #[.int .i64 regs,.int .i64 code,fn] (xC 11 d a b ty nm A cap args.length) FF) #[false,false,false,false,false,false,false,false,false,false,false,false,false,false] rfl (by kernel_rfl) (fun _ _ _ _ _ h=>h) (hS0) (fun HQ=>?_)
  (refine tt 0 154 rfl HQ (HST 0) ?_; try simp only [putL,List.set])
  (refine tt 1 155 rfl HQ (HST 1) ?_; try simp only [putL,List.set])
  (refine tt 2 156 rfl HQ (HST 2) ?_; try simp only [putL,List.set])
  (refine tt 3 157 rfl HQ (HST 3) ?_; try simp only [putL,List.set])
  (refine tt 4 158 rfl HQ (HST 4) ?_; try simp only [putL,List.set])
  (refine tc 5 159 rfl (by kernel_rfl) HQ (HST 5) (by rfl) (fun l w' hF=>?_) ((HCw.out)) ?_; (focus (have hq:=HD.out _ hF; go_simp; try simp only [enters_gwithin _ _])); try simp only [putL,List.set])
  (refine tt 6 160 rfl HQ (HST 6) ?_; try simp only [putL,List.set])
  (refine tt 7 161 rfl HQ (HST 7) ?_; try simp only [putL,List.set])
  (refine tt 8 162 rfl HQ (HST 8) ?_; try simp only [putL,List.set])
  (refine tc 9 163 rfl (by kernel_rfl) HQ (HST 9) (by rfl) (fun l w' hF=>?_) ((HCa.out)) ?_; (focus (have hq:=HD.out _ hF; go_simp; try simp only [enters_isReg _ _])); try simp only [putL,List.set])
  (refine tt 10 164 rfl HQ (HST 10) ?_; try simp only [putL,List.set])
  (refine flow_put (i:=11) (oi:=⟨none,_,_,_,_,none⟩) rfl rfl (IMs.store (i:=11) (k:=0) (b:=inB d 0 (code - 1)) rfl rfl rfl rfl (by decide) (fun l=>by rw [hFF]; rfl) (by decide) (fun l hl=>by rw [hFF]; simp only [selB_eq hl,selB_ne (show (11:Nat) ≠ 13 by decide)]; rfl)) (by kernel_rfl) ?_; try simp only [List.setIfInBounds_toArray,List.set_cons_zero,List.set_cons_succ])
  (refine tt 12 165 rfl HQ (HST 12) ?_; try simp only [putL,List.set])
  (refine flow_put (i:=13) (oi:=⟨none,_,_,_,_,none⟩) rfl rfl (IMs.store (i:=13) (k:=1) (b:=inB a 0 (regs - 1)) rfl rfl rfl rfl (by decide) (fun l=>by rw [hFF]; rfl) (by decide) (fun l hl=>by rw [hFF]; simp only [selB_eq hl,selB_ne (show (13:Nat) ≠ 11 by decide)]; rfl)) (by kernel_rfl) ?_; try simp only [List.setIfInBounds_toArray,List.set_cons_zero,List.set_cons_succ])
  refine flow_done (by kernel_rfl) ?_
  intro w3 hm3
  have M3:Hid (IM w w3 w.heap.size #[.int .i64 regs,.int .i64 code,fn] (xC 11 d a b ty nm A cap args.length) #[.bool (inB d 0 (code - 1)),.bool (inB a 0 (regs - 1)),.bool m2,.bool m3,.bool m4,.bool m5]):=by
   have h:=hm3.2
   rw [hFF] at h
   exact h
  clear hwc hm3 HD HST hFF HCw HCa
  obtain ⟨b0,b1,b2,x0,x1,x2,x3,x4,x5,x6,x7,x8,x9,x10,f0,f1,f2,f3,f4,f5,r0,r1,r2,r3,r4,r5,zb,zx,zf⟩:=IM.cs M3.out
  have h6:=run_six
  go_wp2_with fail
  have x9w:=M3.out.ext
  go_ret
  exact ⟨ret_bool (by
   obtain ⟨rfl,rfl,rfl,rfl,rfl,rfl⟩:=HM.out
   rw [HI.out]
   first | done | rfl | (simp; done)),exA⟩
 ·skip
  have HI:Hid (instR pb regs code ⟨13,d,a,b,ty,nm,A,cap,args⟩=(isPartB (partsR 13).1 d regs code && (isPartB (partsR 13).2.1 a regs code && (isPartB (partsR 13).2.2 b regs code && (tz ty && (emp nm && ((args.length:Int) == 0))))))):=inst_six (x:=⟨13,d,a,b,ty,nm,A,cap,args⟩) rfl (show (13:Int) ≠ 14 by decide) rfl rfl
  have HIN:Hid (In64 13):=⟨by decide,by decide⟩
  have HT1:Hid (inB 13 105 117=false):=rfl
  have HT2:Hid (inB 13 118 123=false):=rfl
  have XB:=Lib.hid (XBx w regs code fn 13 d a b ty nm A cap args.length)
  go_enter Tryz.func100,Tryz.ntmps100
  go_wp2_with fail
  go_region_held3 (fun w'=>w'.cell? ⟨w.heap.size + 1,1,none⟩=some (.int .i64 d)∧w'.cell? ⟨w.heap.size + 1,2,none⟩=some (.int .i64 a)∧w'.cell? ⟨w.heap.size + 1,3,none⟩=some (.int .i64 b)∧w'.cell? ⟨w.heap.size + 1,4,none⟩=some (.int .i64 ty.base)∧w'.cell? ⟨w.heap.size + 1,5,none⟩=some (.int .i64 ty.bits)∧w'.cell? ⟨w.heap.size + 1,6,none⟩=some (.string ty.name)∧w'.cell? ⟨w.heap.size + 1,7,none⟩=some (.bool ty.opt)∧w'.cell? ⟨w.heap.size + 1,8,none⟩=some (.bool ty.err)∧w'.cell? ⟨w.heap.size + 1,9,none⟩=some (.string nm)∧w'.cell? ⟨w.heap.size + 1,10,none⟩=some (.slice A args.length cap)) ((first | exact XB.out _ (Ext.refl _).drew | exact XB.out _ ((Ext.refl _).drew.alloc _) | exact XB.out _ ((Ext.refl _).alloc _).drew | (exact XB.out _ exA))) (fail)
  obtain ⟨m0,hm0⟩:∃ m,(d == 0)=m:=⟨_,rfl⟩
  obtain ⟨m1,hm1⟩:∃ m,(a == 0)=m:=⟨_,rfl⟩
  obtain ⟨m2,hm2⟩:∃ m,(b == 0)=m:=⟨_,rfl⟩
  obtain ⟨m3,hm3⟩:∃ m,tz ty=m:=⟨_,rfl⟩
  obtain ⟨m4,hm4⟩:∃ m,emp nm=m:=⟨_,rfl⟩
  obtain ⟨m5,hm5⟩:∃ m,((args.length:Int) == 0)=m:=⟨_,rfl⟩
  have M0:Hid (IM w ((((w.alloc (.cells #[.int .i64 regs,.int .i64 code,fn] 153)).alloc (.cells #[.int .i64 13,.int .i64 d,.int .i64 a,.int .i64 b,.int .i64 ty.base,.int .i64 ty.bits,.string ty.name,.bool ty.opt,.bool ty.err,.string nm,.slice A args.length cap] 83)).alloc (.cells #[.bool (d == 0),.bool (a == 0),.bool (b == 0),.bool (tz ty),.bool (emp nm),.bool ((args.length:Int) == 0)] 192)).drew) w.heap.size #[.int .i64 regs,.int .i64 code,fn] (xC 13 d a b ty nm A cap args.length) #[.bool m0,.bool m1,.bool m2,.bool m3,.bool m4,.bool m5]):=by
   rw [← hm0,← hm1,← hm2,← hm3,← hm4,← hm5]
   exact IM.start ..
  have HM:Hid ((d == 0)=m0∧(a == 0)=m1∧(b == 0)=m2∧tz ty=m3∧emp nm=m4∧((args.length:Int) == 0)=m5):=⟨hm0,hm1,hm2,hm3,hm4,hm5⟩
  generalize ((((w.alloc (.cells #[.int .i64 regs,.int .i64 code,fn] 153)).alloc (.cells #[.int .i64 13,.int .i64 d,.int .i64 a,.int .i64 b,.int .i64 ty.base,.int .i64 ty.bits,.string ty.name,.bool ty.opt,.bool ty.err,.string nm,.slice A args.length cap] 83)).alloc (.cells #[.bool (d == 0),.bool (a == 0),.bool (b == 0),.bool (tz ty),.bool (emp nm),.bool ((args.length:Int) == 0)] 192)).drew)=w1 at M0 ⊢
  clear hm0 hm1 hm2 hm3 hm4 hm5 XB hq hem
  obtain ⟨b0,b1,b2,x0,x1,x2,x3,x4,x5,x6,x7,x8,x9,x10,f0,f1,f2,f3,f4,f5,r0,r1,r2,r3,r4,r5,zb,zx,zf⟩:=IM.cs M0.out
  have h6:=run_six
  go_wp2_with (first
   | (go_at_call 137; refine (isOperation_as (t:=false) (c:=false) _ HIN.out HT1.out HT2.out).mono ?_; rintro r w' ⟨rfl,rfl⟩))
  have hwc:IntKind.i64.wrap (code - 1)=code - 1:=IntWalk.i64_in _ (by omega)
  clear b0 b1 b2 x0 x1 x2 x3 x4 x5 x6 x7 x8 x9 x10 f0 f1 f2 f3 f4 f5 r0 r1 r2 r3 r4 r5 zb zx zf h6
  obtain ⟨FF,hFF⟩:∃ FF:Array Bool → Array Value,FF=(fun l=>#[selB l 11 (.bool (inB d 0 (code - 1))) (.bool m0),selB l 13 (.bool (inB a 0 (regs - 1))) (.bool m1),.bool m2,.bool m3,.bool m4,.bool m5]):=⟨_,rfl⟩
  have HCw:Hid (∀ (l:Array Bool) (w':World),IMs 14 w w.heap.size #[.int .i64 regs,.int .i64 code,fn] (xC 13 d a b ty nm A cap args.length) FF l w' → Calls Tryz.prog 78 #[.int .i64 d,.int .i64 0,.int .i64 (code - 1)] w' fun e w3=>e=.returned (.bool (inB d 0 (code - 1)))∧IMs 14 w w.heap.size #[.int .i64 regs,.int .i64 code,fn] (xC 13 d a b ty nm A cap args.length) FF l w3):=IMs.call fun w' x=>(gwithin_any d 0 (code - 1) w').mono fun e w3 h=>⟨h.1,h.2 ▸ Ext.refl _⟩
  have HCa:Hid (∀ (l:Array Bool) (w':World),IMs 14 w w.heap.size #[.int .i64 regs,.int .i64 code,fn] (xC 13 d a b ty nm A cap args.length) FF l w' → Calls Tryz.prog 138 #[.agg #[.int .i64 regs,.int .i64 code,fn],.int .i64 a] w' fun e w3=>e=.returned (.bool (inB a 0 (regs - 1)))∧IMs 14 w w.heap.size #[.int .i64 regs,.int .i64 code,fn] (xC 13 d a b ty nm A cap args.length) FF l w3):=IMs.call fun w' x=>isReg_any regs code fn a w' h1 h2
  have HD:=Lib.hid (IMs.fx 14 w w.heap.size regs code fn 13 d a b ty nm A cap args.length FF)
  have HST:∀ (i:Nat) (_:i ≠ 11:=by decide) (_:i ≠ 13:=by decide) (l:Array Bool) (w':World),IMs 14 w w.heap.size #[.int .i64 regs,.int .i64 code,fn] (xC 13 d a b ty nm A cap args.length) FF (l.setIfInBounds i true) w' ↔ IMs 14 w w.heap.size #[.int .i64 regs,.int .i64 code,fn] (xC 13 d a b ty nm A cap args.length) FF l w':=fun i n11 n13=>IMs.same fun l=>by rw [hFF]; simp only [selB_ne n11,selB_ne n13]
  have hS0:IMs 14 w w.heap.size #[.int .i64 regs,.int .i64 code,fn] (xC 13 d a b ty nm A cap args.length) FF #[false,false,false,false,false,false,false,false,false,false,false,false,false,false] w1.drew:=⟨rfl,by rw [hFF]; exact M0.out.ext' (Ext.refl _).drew⟩
  refine flow_begin (IMs 14 w w.heap.size #[.int .i64 regs,.int .i64 code,fn] (xC 13 d a b ty nm A cap args.length) FF) #[false,false,false,false,false,false,false,false,false,false,false,false,false,false] rfl (by kernel_rfl) (fun _ _ _ _ _ h=>h) (hS0) (fun HQ=>?_)
  (refine tt 0 154 rfl HQ (HST 0) ?_; try simp only [putL,List.set])
  (refine tt 1 155 rfl HQ (HST 1) ?_; try simp only [putL,List.set])
  (refine tt 2 156 rfl HQ (HST 2) ?_; try simp only [putL,List.set])
  (refine tt 3 157 rfl HQ (HST 3) ?_; try simp only [putL,List.set])
  (refine tt 4 158 rfl HQ (HST 4) ?_; try simp only [putL,List.set])
  (refine tc 5 159 rfl (by kernel_rfl) HQ (HST 5) (by rfl) (fun l w' hF=>?_) ((HCw.out)) ?_; (focus (have hq:=HD.out _ hF; go_simp; try simp only [enters_gwithin _ _])); try simp only [putL,List.set])
  (refine tt 6 160 rfl HQ (HST 6) ?_; try simp only [putL,List.set])
  (refine tt 7 161 rfl HQ (HST 7) ?_; try simp only [putL,List.set])
  (refine tt 8 162 rfl HQ (HST 8) ?_; try simp only [putL,List.set])
  (refine tc 9 163 rfl (by kernel_rfl) HQ (HST 9) (by rfl) (fun l w' hF=>?_) ((HCa.out)) ?_; (focus (have hq:=HD.out _ hF; go_simp; try simp only [enters_isReg _ _])); try simp only [putL,List.set])
  (refine tt 10 164 rfl HQ (HST 10) ?_; try simp only [putL,List.set])
  (refine flow_put (i:=11) (oi:=⟨none,_,_,_,_,none⟩) rfl rfl (IMs.store (i:=11) (k:=0) (b:=inB d 0 (code - 1)) rfl rfl rfl rfl (by decide) (fun l=>by rw [hFF]; rfl) (by decide) (fun l hl=>by rw [hFF]; simp only [selB_eq hl,selB_ne (show (11:Nat) ≠ 13 by decide)]; rfl)) (by kernel_rfl) ?_; try simp only [List.setIfInBounds_toArray,List.set_cons_zero,List.set_cons_succ])
  (refine tt 12 165 rfl HQ (HST 12) ?_; try simp only [putL,List.set])
  (refine flow_put (i:=13) (oi:=⟨none,_,_,_,_,none⟩) rfl rfl (IMs.store (i:=13) (k:=1) (b:=inB a 0 (regs - 1)) rfl rfl rfl rfl (by decide) (fun l=>by rw [hFF]; rfl) (by decide) (fun l hl=>by rw [hFF]; simp only [selB_eq hl,selB_ne (show (13:Nat) ≠ 11 by decide)]; rfl)) (by kernel_rfl) ?_; try simp only [List.setIfInBounds_toArray,List.set_cons_zero,List.set_cons_succ])
  refine flow_done (by kernel_rfl) ?_
  intro w3 hm3
  have M3:Hid (IM w w3 w.heap.size #[.int .i64 regs,.int .i64 code,fn] (xC 13 d a b ty nm A cap args.length) #[.bool (inB d 0 (code - 1)),.bool (inB a 0 (regs - 1)),.bool m2,.bool m3,.bool m4,.bool m5]):=by
   have h:=hm3.2
   rw [hFF] at h
   exact h
  clear hwc hm3 HD HST hFF HCw HCa
  obtain ⟨b0,b1,b2,x0,x1,x2,x3,x4,x5,x6,x7,x8,x9,x10,f0,f1,f2,f3,f4,f5,r0,r1,r2,r3,r4,r5,zb,zx,zf⟩:=IM.cs M3.out
  have h6:=run_six
  go_wp2_with fail
  have x9w:=M3.out.ext
  go_ret
  exact ⟨ret_bool (by
   obtain ⟨rfl,rfl,rfl,rfl,rfl,rfl⟩:=HM.out
   rw [HI.out]
   first | done | rfl | (simp; done)),exA⟩
end Go.Proofs.YtcoookehfhhhdaaGreatDoor.c
