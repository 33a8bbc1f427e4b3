/- Contract of regs.bound.isInst: operations of two registers with a type. The table strings.asciiSpace holds what its text lays. Contract of regs.bound.isInst: comparisons. The table strings.asciiSpace holds what its text lays. Contract of regs.bound.isInst: no operations. The table strings.asciiSpace holds what its text lays. -/
import Derived.Test.YtcoookehfhhhdaaGreatDoorRgV
import Derived.Deep.RegionHeld3
namespace Go.Proofs.YtcoookehfhhhdaaGreatDoor.c
open Go.RowKit
set_option linter.unusedVariables false
set_option maxRecDepth 100000
set_option maxHeartbeats 6400000
set_option linter.unusedSimpArgs false
theorem inst_typed (regs code:Int) (fn:Value) (pb:Bool) (op d a b:Int) (ty:Ty) (nm:ByteArray) (A:Option Addr) (cap:Nat) (args:List Int) (w:World) (g:Laid w) (h1:1 ≤ regs) (h2:regs ≤ 6) (hc1:1 ≤ code) (hc2:code ≤ 1000000) (hal:args.length ≤ 9223372036854775806) (hop:105 ≤ op∧op ≤ 117) :
  Calls Tryz.prog 100 #[.agg #[.int .i64 regs,.int .i64 code,fn],.agg #[.int .i64 op,.int .i64 d,.int .i64 a,.int .i64 b,.int .i64 ty.base,.int .i64 ty.bits,.string ty.name,.bool ty.opt,.bool ty.err,.string nm,.slice A args.length cap]] w fun e w'=>e=.returned (.bool (instR pb regs code ⟨op,d,a,b,ty,nm,A,cap,args⟩))∧Ext w w':=by
 have HIN:Hid (In64 op):=⟨by omega,by omega⟩
 have HT1:Hid (inB op 105 117=true):=by unfold Hid inB; simp; omega
 have HT2:Hid (inB op 118 123=false):=by unfold Hid inB; simp; omega
 obtain ⟨hop1,hop2⟩:=hop
 have hq:=run_tz_eql ty
 have hem:nm.toList.isEmpty=emp nm:=rfl
 have HI:=Lib.hid (@inst_big pb regs code op d a b ty nm A cap args (isIntS ty) (.inl ⟨hop1,hop2,rfl⟩))
 have XB:=Lib.hid (XBx w regs code fn op d a b ty nm A cap args.length)
 go_enter Tryz.func100,Tryz.ntmps100
 go_wp2_with fail
 go_region_held3 (fun w'=>w'.cell? ⟨w.heap.size + 1,1,none⟩=some (.int .i64 d)∧w'.cell? ⟨w.heap.size + 1,2,none⟩=some (.int .i64 a)∧w'.cell? ⟨w.heap.size + 1,3,none⟩=some (.int .i64 b)∧w'.cell? ⟨w.heap.size + 1,4,none⟩=some (.int .i64 ty.base)∧w'.cell? ⟨w.heap.size + 1,5,none⟩=some (.int .i64 ty.bits)∧w'.cell? ⟨w.heap.size + 1,6,none⟩=some (.string ty.name)∧w'.cell? ⟨w.heap.size + 1,7,none⟩=some (.bool ty.opt)∧w'.cell? ⟨w.heap.size + 1,8,none⟩=some (.bool ty.err)∧w'.cell? ⟨w.heap.size + 1,9,none⟩=some (.string nm)∧w'.cell? ⟨w.heap.size + 1,10,none⟩=some (.slice A args.length cap)) ((first | exact XB.out _ (Ext.refl _).drew | exact XB.out _ ((Ext.refl _).drew.alloc _) | exact XB.out _ ((Ext.refl _).alloc _).drew | (exact XB.out _ exL))) (fail)
 obtain ⟨m0,hm0⟩:∃ m,(d == 0)=m:=⟨_,rfl⟩
 obtain ⟨m1,hm1⟩:∃ m,(a == 0)=m:=⟨_,rfl⟩
 obtain ⟨m2,hm2⟩:∃ m,(b == 0)=m:=⟨_,rfl⟩
 obtain ⟨m3,hm3⟩:∃ m,tz ty=m:=⟨_,rfl⟩
 obtain ⟨m4,hm4⟩:∃ m,emp nm=m:=⟨_,rfl⟩
 obtain ⟨m5,hm5⟩:∃ m,((args.length:Int) == 0)=m:=⟨_,rfl⟩
 have M0:Hid (IM w ((((w.alloc (.cells #[.int .i64 regs,.int .i64 code,fn] 153)).alloc (.cells #[.int .i64 op,.int .i64 d,.int .i64 a,.int .i64 b,.int .i64 ty.base,.int .i64 ty.bits,.string ty.name,.bool ty.opt,.bool ty.err,.string nm,.slice A args.length cap] 83)).alloc (.cells #[.bool (d == 0),.bool (a == 0),.bool (b == 0),.bool (tz ty),.bool (emp nm),.bool ((args.length:Int) == 0)] 192)).drew) w.heap.size #[.int .i64 regs,.int .i64 code,fn] (xC op d a b ty nm A cap args.length) #[.bool m0,.bool m1,.bool m2,.bool m3,.bool m4,.bool m5]):=by
  rw [← hm0,← hm1,← hm2,← hm3,← hm4,← hm5]
  exact IM.start ..
 have HM:Hid ((d == 0)=m0∧(a == 0)=m1∧(b == 0)=m2∧tz ty=m3∧emp nm=m4∧((args.length:Int) == 0)=m5):=⟨hm0,hm1,hm2,hm3,hm4,hm5⟩
 generalize ((((w.alloc (.cells #[.int .i64 regs,.int .i64 code,fn] 153)).alloc (.cells #[.int .i64 op,.int .i64 d,.int .i64 a,.int .i64 b,.int .i64 ty.base,.int .i64 ty.bits,.string ty.name,.bool ty.opt,.bool ty.err,.string nm,.slice A args.length cap] 83)).alloc (.cells #[.bool (d == 0),.bool (a == 0),.bool (b == 0),.bool (tz ty),.bool (emp nm),.bool ((args.length:Int) == 0)] 192)).drew)=w1 at M0 ⊢
 clear hm0 hm1 hm2 hm3 hm4 hm5 XB hq hem
 obtain ⟨b0,b1,b2,x0,x1,x2,x3,x4,x5,x6,x7,x8,x9,x10,f0,f1,f2,f3,f4,f5,r0,r1,r2,r3,r4,r5,zb,zx,zf⟩:=IM.cs M0.out
 have h6:=run_six
 go_wp2_with (first
  | (go_at_call 137; refine (isOperation_as (t:=true) (c:=false) _ HIN.out HT1.out HT2.out).mono ?_; rintro r w' ⟨rfl,rfl⟩))
 clear b0 b1 b2 x0 x1 x2 x3 x4 x5 x6 x7 x8 x9 x10 f0 f1 f2 f3 f4 f5 r0 r1 r2 r3 r4 r5 zb zx zf h6
 obtain ⟨FF,hFF⟩:∃ FF:Array Bool → Array Value,FF=(fun l=>#[selB l 13 (.bool (inB d 0 (regs - 1))) (.bool m0),selB l 15 (.bool (inB a 0 (regs - 1))) (.bool m1),selB l 17 (.bool (inB b 0 (regs - 1))) (.bool m2),.bool m3,.bool m4,.bool m5]):=⟨_,rfl⟩
 have HCd:Hid (∀ (l:Array Bool) (w':World),IMs 18 w w.heap.size #[.int .i64 regs,.int .i64 code,fn] (xC op d a b ty nm A cap args.length) FF l w' → Calls Tryz.prog 138 #[.agg #[.int .i64 regs,.int .i64 code,fn],.int .i64 d] w' fun e w3=>e=.returned (.bool (inB d 0 (regs - 1)))∧IMs 18 w w.heap.size #[.int .i64 regs,.int .i64 code,fn] (xC op d a b ty nm A cap args.length) FF l w3):=IMs.call fun w' x=>isReg_any regs code fn d w' h1 h2
 have HCa:Hid (∀ (l:Array Bool) (w':World),IMs 18 w w.heap.size #[.int .i64 regs,.int .i64 code,fn] (xC op d a b ty nm A cap args.length) FF l w' → Calls Tryz.prog 138 #[.agg #[.int .i64 regs,.int .i64 code,fn],.int .i64 a] w' fun e w3=>e=.returned (.bool (inB a 0 (regs - 1)))∧IMs 18 w w.heap.size #[.int .i64 regs,.int .i64 code,fn] (xC op d a b ty nm A cap args.length) FF l w3):=IMs.call fun w' x=>isReg_any regs code fn a w' h1 h2
 have HCb:Hid (∀ (l:Array Bool) (w':World),IMs 18 w w.heap.size #[.int .i64 regs,.int .i64 code,fn] (xC op d a b ty nm A cap args.length) FF l w' → Calls Tryz.prog 138 #[.agg #[.int .i64 regs,.int .i64 code,fn],.int .i64 b] w' fun e w3=>e=.returned (.bool (inB b 0 (regs - 1)))∧IMs 18 w w.heap.size #[.int .i64 regs,.int .i64 code,fn] (xC op d a b ty nm A cap args.length) FF l w3):=IMs.call fun w' x=>isReg_any regs code fn b w' h1 h2
 have HD:=Lib.hid (IMs.fx 18 w w.heap.size regs code fn op d a b ty nm A cap args.length FF)
 have HST:∀ (i:Nat) (_:i ≠ 13:=by decide) (_:i ≠ 15:=by decide) (_:i ≠ 17:=by decide) (l:Array Bool) (w':World),IMs 18 w w.heap.size #[.int .i64 regs,.int .i64 code,fn] (xC op d a b ty nm A cap args.length) FF (l.setIfInBounds i true) w' ↔ IMs 18 w w.heap.size #[.int .i64 regs,.int .i64 code,fn] (xC op d a b ty nm A cap args.length) FF l w':=fun i n13 n15 n17=>IMs.same fun l=>by rw [hFF]; simp only [selB_ne n13,selB_ne n15,selB_ne n17]
 have hS0:IMs 18 w w.heap.size #[.int .i64 regs,.int .i64 code,fn] (xC op d a b ty nm A cap args.length) FF #[false,false,false,false,false,false,false,false,false,false,false,false,false,false,false,false,false,false] w1.drew:=⟨rfl,by rw [hFF]; exact M0.out.ext' (Ext.refl _).drew⟩
 refine flow_begin (IMs 18 w w.heap.size #[.int .i64 regs,.int .i64 code,fn] (xC op d a b ty nm A cap args.length) FF) #[false,false,false,false,false,false,false,false,false,false,false,false,false,false,false,false,false,false] rfl (by kernel_rfl) (fun _ _ _ _ _ h=>h) (hS0) (fun HQ=>?_)
 (refine tt 0 37 rfl HQ (HST 0) ?_; try simp only [putL,List.set])
 (refine tt 1 38 rfl HQ (HST 1) ?_; try simp only [putL,List.set])
 (refine tt 2 39 rfl HQ (HST 2) ?_; try simp only [putL,List.set])
 (refine tc 3 40 rfl (by kernel_rfl) HQ (HST 3) (by rfl) (fun l w' hF=>?_) ((HCd.out)) ?_; (focus (have hq:=HD.out _ hF; go_simp; try simp only [enters_isReg _ _])); try simp only [putL,List.set])
 (refine tt 4 41 rfl HQ (HST 4) ?_; try simp only [putL,List.set])
 (refine tt 5 42 rfl HQ (HST 5) ?_; try simp only [putL,List.set])
 (refine tt 6 43 rfl HQ (HST 6) ?_; try simp only [putL,List.set])
 (refine tc 7 44 rfl (by kernel_rfl) HQ (HST 7) (by rfl) (fun l w' hF=>?_) ((HCa.out)) ?_; (focus (have hq:=HD.out _ hF; go_simp; try simp only [enters_isReg _ _])); try simp only [putL,List.set])
 (refine tt 8 45 rfl HQ (HST 8) ?_; try simp only [putL,List.set])
 (refine tt 9 46 rfl HQ (HST 9) ?_; try simp only [putL,List.set])
 (refine tt 10 47 rfl HQ (HST 10) ?_; try simp only [putL,List.set])
 (refine tc 11 48 rfl (by kernel_rfl) HQ (HST 11) (by rfl) (fun l w' hF=>?_) ((HCb.out)) ?_; (focus (have hq:=HD.out _ hF; go_simp; try simp only [enters_isReg _ _])); try simp only [putL,List.set])
 (refine tt 12 49 rfl HQ (HST 12) ?_; try simp only [putL,List.set])
 (refine flow_put (i:=13) (oi:=⟨none,_,_,_,_,none⟩) rfl rfl (IMs.store (i:=13) (k:=0) (b:=inB d 0 (regs - 1)) rfl rfl rfl rfl (by decide) (fun l=>by rw [hFF]; rfl) (by decide) (fun l hl=>by rw [hFF]; simp only [selB_eq hl,selB_ne (show (13:Nat) ≠ 15 by decide),selB_ne (show (13:Nat) ≠ 17 by decide)]; rfl)) (by kernel_rfl) ?_; try simp only [List.setIfInBounds_toArray,List.set_cons_zero,List.set_cons_succ])
 (refine tt 14 50 rfl HQ (HST 14) ?_; try simp only [putL,List.set])
 (refine flow_put (i:=15) (oi:=⟨none,_,_,_,_,none⟩) rfl rfl (IMs.store (i:=15) (k:=1) (b:=inB a 0 (regs - 1)) rfl rfl rfl rfl (by decide) (fun l=>by rw [hFF]; rfl) (by decide) (fun l hl=>by rw [hFF]; simp only [selB_eq hl,selB_ne (show (15:Nat) ≠ 13 by decide),selB_ne (show (15:Nat) ≠ 17 by decide)]; rfl)) (by kernel_rfl) ?_; try simp only [List.setIfInBounds_toArray,List.set_cons_zero,List.set_cons_succ])
 (refine tt 16 51 rfl HQ (HST 16) ?_; try simp only [putL,List.set])
 (refine flow_put (i:=17) (oi:=⟨none,_,_,_,_,none⟩) rfl rfl (IMs.store (i:=17) (k:=2) (b:=inB b 0 (regs - 1)) rfl rfl rfl rfl (by decide) (fun l=>by rw [hFF]; rfl) (by decide) (fun l hl=>by rw [hFF]; simp only [selB_eq hl,selB_ne (show (17:Nat) ≠ 13 by decide),selB_ne (show (17:Nat) ≠ 15 by decide)]; rfl)) (by kernel_rfl) ?_; try simp only [List.setIfInBounds_toArray,List.set_cons_zero,List.set_cons_succ])
 refine flow_done (by kernel_rfl) ?_
 intro w3 hm3
 have M3:Hid (IM w w3 w.heap.size #[.int .i64 regs,.int .i64 code,fn] (xC op d a b ty nm A cap args.length) #[.bool (inB d 0 (regs - 1)),.bool (inB a 0 (regs - 1)),.bool (inB b 0 (regs - 1)),.bool m3,.bool m4,.bool m5]):=by
  have h:=hm3.2
  rw [hFF] at h
  exact h
 clear hm3 HD HST hFF HCd HCa HCb
 obtain ⟨b0,b1,b2,x0,x1,x2,x3,x4,x5,x6,x7,x8,x9,x10,f0,f1,f2,f3,f4,f5,r0,r1,r2,r3,r4,r5,zb,zx,zf⟩:=IM.cs M3.out
 have h6:=run_six
 have x9w:=M3.out.ext
 go_wp2_with (first
  | fail
  | (go_at_call 139; refine (gisInt_ty ty _ (g.ext (x9w.trans exL))).mono ?_; rintro r w4 ⟨rfl,x4⟩; have y4:=x4.facts))
 go_ret
 exact ⟨ret_bool (by
  obtain ⟨rfl,rfl,rfl,rfl,rfl,rfl⟩:=HM.out
  rw [HI.out]
  first | done | rfl | (simp; done)),exL⟩
theorem inst_cmp (regs code:Int) (fn:Value) (pb:Bool) (op d a b:Int) (ty:Ty) (nm:ByteArray) (A:Option Addr) (cap:Nat) (args:List Int) (w:World) (g:Laid w) (h1:1 ≤ regs) (h2:regs ≤ 6) (hc1:1 ≤ code) (hc2:code ≤ 1000000) (hal:args.length ≤ 9223372036854775806) (hop:118 ≤ op∧op ≤ 123) :
  Calls Tryz.prog 100 #[.agg #[.int .i64 regs,.int .i64 code,fn],.agg #[.int .i64 op,.int .i64 d,.int .i64 a,.int .i64 b,.int .i64 ty.base,.int .i64 ty.bits,.string ty.name,.bool ty.opt,.bool ty.err,.string nm,.slice A args.length cap]] w fun e w'=>e=.returned (.bool (instR pb regs code ⟨op,d,a,b,ty,nm,A,cap,args⟩))∧Ext w w':=by
 have HIN:Hid (In64 op):=⟨by omega,by omega⟩
 have HT1:Hid (inB op 105 117=false):=by unfold Hid inB; simp; omega
 have HT2:Hid (inB op 118 123=true):=by unfold Hid inB; simp; omega
 obtain ⟨hop1,hop2⟩:=hop
 have hq:=run_tz_eql ty
 have hem:nm.toList.isEmpty=emp nm:=rfl
 have HI:=Lib.hid (@inst_big pb regs code op d a b ty nm A cap args (tz ty) (.inr ⟨hop1,hop2,rfl⟩))
 have XB:=Lib.hid (XBx w regs code fn op d a b ty nm A cap args.length)
 go_enter Tryz.func100,Tryz.ntmps100
 go_wp2_with fail
 go_region_held3 (fun w'=>w'.cell? ⟨w.heap.size + 1,1,none⟩=some (.int .i64 d)∧w'.cell? ⟨w.heap.size + 1,2,none⟩=some (.int .i64 a)∧w'.cell? ⟨w.heap.size + 1,3,none⟩=some (.int .i64 b)∧w'.cell? ⟨w.heap.size + 1,4,none⟩=some (.int .i64 ty.base)∧w'.cell? ⟨w.heap.size + 1,5,none⟩=some (.int .i64 ty.bits)∧w'.cell? ⟨w.heap.size + 1,6,none⟩=some (.string ty.name)∧w'.cell? ⟨w.heap.size + 1,7,none⟩=some (.bool ty.opt)∧w'.cell? ⟨w.heap.size + 1,8,none⟩=some (.bool ty.err)∧w'.cell? ⟨w.heap.size + 1,9,none⟩=some (.string nm)∧w'.cell? ⟨w.heap.size + 1,10,none⟩=some (.slice A args.length cap)) ((first | exact XB.out _ (Ext.refl _).drew | exact XB.out _ ((Ext.refl _).drew.alloc _) | exact XB.out _ ((Ext.refl _).alloc _).drew | (exact XB.out _ exL))) (fail)
 obtain ⟨m0,hm0⟩:∃ m,(d == 0)=m:=⟨_,rfl⟩
 obtain ⟨m1,hm1⟩:∃ m,(a == 0)=m:=⟨_,rfl⟩
 obtain ⟨m2,hm2⟩:∃ m,(b == 0)=m:=⟨_,rfl⟩
 obtain ⟨m3,hm3⟩:∃ m,tz ty=m:=⟨_,rfl⟩
 obtain ⟨m4,hm4⟩:∃ m,emp nm=m:=⟨_,rfl⟩
 obtain ⟨m5,hm5⟩:∃ m,((args.length:Int) == 0)=m:=⟨_,rfl⟩
 have M0:Hid (IM w ((((w.alloc (.cells #[.int .i64 regs,.int .i64 code,fn] 153)).alloc (.cells #[.int .i64 op,.int .i64 d,.int .i64 a,.int .i64 b,.int .i64 ty.base,.int .i64 ty.bits,.string ty.name,.bool ty.opt,.bool ty.err,.string nm,.slice A args.length cap] 83)).alloc (.cells #[.bool (d == 0),.bool (a == 0),.bool (b == 0),.bool (tz ty),.bool (emp nm),.bool ((args.length:Int) == 0)] 192)).drew) w.heap.size #[.int .i64 regs,.int .i64 code,fn] (xC op d a b ty nm A cap args.length) #[.bool m0,.bool m1,.bool m2,.bool m3,.bool m4,.bool m5]):=by
  rw [← hm0,← hm1,← hm2,← hm3,← hm4,← hm5]
  exact IM.start ..
 have HM:Hid ((d == 0)=m0∧(a == 0)=m1∧(b == 0)=m2∧tz ty=m3∧emp nm=m4∧((args.length:Int) == 0)=m5):=⟨hm0,hm1,hm2,hm3,hm4,hm5⟩
 generalize ((((w.alloc (.cells #[.int .i64 regs,.int .i64 code,fn] 153)).alloc (.cells #[.int .i64 op,.int .i64 d,.int .i64 a,.int .i64 b,.int .i64 ty.base,.int .i64 ty.bits,.string ty.name,.bool ty.opt,.bool ty.err,.string nm,.slice A args.length cap] 83)).alloc (.cells #[.bool (d == 0),.bool (a == 0),.bool (b == 0),.bool (tz ty),.bool (emp nm),.bool ((args.length:Int) == 0)] 192)).drew)=w1 at M0 ⊢
 clear hm0 hm1 hm2 hm3 hm4 hm5 XB hq hem
 obtain ⟨b0,b1,b2,x0,x1,x2,x3,x4,x5,x6,x7,x8,x9,x10,f0,f1,f2,f3,f4,f5,r0,r1,r2,r3,r4,r5,zb,zx,zf⟩:=IM.cs M0.out
 have h6:=run_six
 go_wp2_with (first
  | (go_at_call 137; refine (isOperation_as (t:=false) (c:=true) _ HIN.out HT1.out HT2.out).mono ?_; rintro r w' ⟨rfl,rfl⟩))
 clear b0 b1 b2 x0 x1 x2 x3 x4 x5 x6 x7 x8 x9 x10 f0 f1 f2 f3 f4 f5 r0 r1 r2 r3 r4 r5 zb zx zf h6
 obtain ⟨FF,hFF⟩:∃ FF:Array Bool → Array Value,FF=(fun l=>#[selB l 13 (.bool (inB d 0 (regs - 1))) (.bool m0),selB l 15 (.bool (inB a 0 (regs - 1))) (.bool m1),selB l 17 (.bool (inB b 0 (regs - 1))) (.bool m2),.bool m3,.bool m4,.bool m5]):=⟨_,rfl⟩
 have HCd:Hid (∀ (l:Array Bool) (w':World),IMs 18 w w.heap.size #[.int .i64 regs,.int .i64 code,fn] (xC op d a b ty nm A cap args.length) FF l w' → Calls Tryz.prog 138 #[.agg #[.int .i64 regs,.int .i64 code,fn],.int .i64 d] w' fun e w3=>e=.returned (.bool (inB d 0 (regs - 1)))∧IMs 18 w w.heap.size #[.int .i64 regs,.int .i64 code,fn] (xC op d a b ty nm A cap args.length) FF l w3):=IMs.call fun w' x=>isReg_any regs code fn d w' h1 h2
 have HCa:Hid (∀ (l:Array Bool) (w':World),IMs 18 w w.heap.size #[.int .i64 regs,.int .i64 code,fn] (xC op d a b ty nm A cap args.length) FF l w' → Calls Tryz.prog 138 #[.agg #[.int .i64 regs,.int .i64 code,fn],.int .i64 a] w' fun e w3=>e=.returned (.bool (inB a 0 (regs - 1)))∧IMs 18 w w.heap.size #[.int .i64 regs,.int .i64 code,fn] (xC op d a b ty nm A cap args.length) FF l w3):=IMs.call fun w' x=>isReg_any regs code fn a w' h1 h2
 have HCb:Hid (∀ (l:Array Bool) (w':World),IMs 18 w w.heap.size #[.int .i64 regs,.int .i64 code,fn] (xC op d a b ty nm A cap args.length) FF l w' → Calls Tryz.prog 138 #[.agg #[.int .i64 regs,.int .i64 code,fn],.int .i64 b] w' fun e w3=>e=.returned (.bool (inB b 0 (regs - 1)))∧IMs 18 w w.heap.size #[.int .i64 regs,.int .i64 code,fn] (xC op d a b ty nm A cap args.length) FF l w3):=IMs.call fun w' x=>isReg_any regs code fn b w' h1 h2
 have HD:=Lib.hid (IMs.fx 18 w w.heap.size regs code fn op d a b ty nm A cap args.length FF)
 have HST:∀ (i:Nat) (_:i ≠ 13:=by decide) (_:i ≠ 15:=by decide) (_:i ≠ 17:=by decide) (l:Array Bool) (w':World),IMs 18 w w.heap.size #[.int .i64 regs,.int .i64 code,fn] (xC op d a b ty nm A cap args.length) FF (l.setIfInBounds i true) w' ↔ IMs 18 w w.heap.size #[.int .i64 regs,.int .i64 code,fn] (xC op d a b ty nm A cap args.length) FF l w':=fun i n13 n15 n17=>IMs.same fun l=>by rw [hFF]; simp only [selB_ne n13,selB_ne n15,selB_ne n17]
 have hS0:IMs 18 w w.heap.size #[.int .i64 regs,.int .i64 code,fn] (xC op d a b ty nm A cap args.length) FF #[false,false,false,false,false,false,false,false,false,false,false,false,false,false,false,false,false,false] w1.drew:=⟨rfl,by rw [hFF]; exact M0.out.ext' (Ext.refl _).drew⟩
 refine flow_begin (IMs 18 w w.heap.size #[.int .i64 regs,.int .i64 code,fn] (xC op d a b ty nm A cap args.length) FF) #[false,false,false,false,false,false,false,false,false,false,false,false,false,false,false,false,false,false] rfl (by kernel_rfl) (fun _ _ _ _ _ h=>h) (hS0) (fun HQ=>?_)
 (refine tt 0 37 rfl HQ (HST 0) ?_; try simp only [putL,List.set])
 (refine tt 1 38 rfl HQ (HST 1) ?_; try simp only [putL,List.set])
 (refine tt 2 39 rfl HQ (HST 2) ?_; try simp only [putL,List.set])
 (refine tc 3 40 rfl (by kernel_rfl) HQ (HST 3) (by rfl) (fun l w' hF=>?_) ((HCd.out)) ?_; (focus (have hq:=HD.out _ hF; go_simp; try simp only [enters_isReg _ _])); try simp only [putL,List.set])
 (refine tt 4 41 rfl HQ (HST 4) ?_; try simp only [putL,List.set])
 (refine tt 5 42 rfl HQ (HST 5) ?_; try simp only [putL,List.set])
 (refine tt 6 43 rfl HQ (HST 6) ?_; try simp only [putL,List.set])
 (refine tc 7 44 rfl (by kernel_rfl) HQ (HST 7) (by rfl) (fun l w' hF=>?_) ((HCa.out)) ?_; (focus (have hq:=HD.out _ hF; go_simp; try simp only [enters_isReg _ _])); try simp only [putL,List.set])
 (refine tt 8 45 rfl HQ (HST 8) ?_; try simp only [putL,List.set])
 (refine tt 9 46 rfl HQ (HST 9) ?_; try simp only [putL,List.set])
 (refine tt 10 47 rfl HQ (HST 10) ?_; try simp only [putL,List.set])
 (refine tc 11 48 rfl (by kernel_rfl) HQ (HST 11) (by rfl) (fun l w' hF=>?_) ((HCb.out)) ?_; (focus (have hq:=HD.out _ hF; go_simp; try simp only [enters_isReg _ _])); try simp only [putL,List.set])
 (refine tt 12 49 rfl HQ (HST 12) ?_; try simp only [putL,List.set])
 (refine flow_put (i:=13) (oi:=⟨none,_,_,_,_,none⟩) rfl rfl (IMs.store (i:=13) (k:=0) (b:=inB d 0 (regs - 1)) rfl rfl rfl rfl (by decide) (fun l=>by rw [hFF]; rfl) (by decide) (fun l hl=>by rw [hFF]; simp only [selB_eq hl,selB_ne (show (13:Nat) ≠ 15 by decide),selB_ne (show (13:Nat) ≠ 17 by decide)]; rfl)) (by kernel_rfl) ?_; try simp only [List.setIfInBounds_toArray,List.set_cons_zero,List.set_cons_succ])
 (refine tt 14 50 rfl HQ (HST 14) ?_; try simp only [putL,List.set])
 (refine flow_put (i:=15) (oi:=⟨none,_,_,_,_,none⟩) rfl rfl (IMs.store (i:=15) (k:=1) (b:=inB a 0 (regs - 1)) rfl rfl rfl rfl (by decide) (fun l=>by rw [hFF]; rfl) (by decide) (fun l hl=>by rw [hFF]; simp only [selB_eq hl,selB_ne (show (15:Nat) ≠ 13 by decide),selB_ne (show (15:Nat) ≠ 17 by decide)]; rfl)) (by kernel_rfl) ?_; try simp only [List.setIfInBounds_toArray,List.set_cons_zero,List.set_cons_succ])
 (refine tt 16 51 rfl HQ (HST 16) ?_; try simp only [putL,List.set])
 (refine flow_put (i:=17) (oi:=⟨none,_,_,_,_,none⟩) rfl rfl (IMs.store (i:=17) (k:=2) (b:=inB b 0 (regs - 1)) rfl rfl rfl rfl (by decide) (fun l=>by rw [hFF]; rfl) (by decide) (fun l hl=>by rw [hFF]; simp only [selB_eq hl,selB_ne (show (17:Nat) ≠ 13 by decide),selB_ne (show (17:Nat) ≠ 15 by decide)]; rfl)) (by kernel_rfl) ?_; try simp only [List.setIfInBounds_toArray,List.set_cons_zero,List.set_cons_succ])
 refine flow_done (by kernel_rfl) ?_
 intro w3 hm3
 have M3:Hid (IM w w3 w.heap.size #[.int .i64 regs,.int .i64 code,fn] (xC op d a b ty nm A cap args.length) #[.bool (inB d 0 (regs - 1)),.bool (inB a 0 (regs - 1)),.bool (inB b 0 (regs - 1)),.bool m3,.bool m4,.bool m5]):=by
  have h:=hm3.2
  rw [hFF] at h
  exact h
 clear hm3 HD HST hFF HCd HCa HCb
 obtain ⟨b0,b1,b2,x0,x1,x2,x3,x4,x5,x6,x7,x8,x9,x10,f0,f1,f2,f3,f4,f5,r0,r1,r2,r3,r4,r5,zb,zx,zf⟩:=IM.cs M3.out
 have h6:=run_six
 have x9w:=M3.out.ext
 go_wp2_with (first
  | fail)
 go_ret
 exact ⟨ret_bool (by
  obtain ⟨rfl,rfl,rfl,rfl,rfl,rfl⟩:=HM.out
  rw [HI.out]
  first | done | rfl | (simp; done)),exL⟩
theorem inst_none (regs code:Int) (fn:Value) (pb:Bool) (op d a b:Int) (ty:Ty) (nm:ByteArray) (A:Option Addr) (cap:Nat) (args:List Int) (w:World) (g:Laid w) (h1:1 ≤ regs) (h2:regs ≤ 6) (hc1:1 ≤ code) (hc2:code ≤ 1000000) (hal:args.length ≤ 9223372036854775806) (hin:In64 op) (hop:op < 0 ∨ (18 ≤ op∧op < 105) ∨ 123 < op) :
  Calls Tryz.prog 100 #[.agg #[.int .i64 regs,.int .i64 code,fn],.agg #[.int .i64 op,.int .i64 d,.int .i64 a,.int .i64 b,.int .i64 ty.base,.int .i64 ty.bits,.string ty.name,.bool ty.opt,.bool ty.err,.string nm,.slice A args.length cap]] w fun e w'=>e=.returned (.bool (instR pb regs code ⟨op,d,a,b,ty,nm,A,cap,args⟩))∧Ext w w':=by
 have hq:=run_tz_eql ty
 have hem:nm.toList.isEmpty=emp nm:=rfl
 have HIN:=Lib.hid hin
 have HT1:Hid (inB op 105 117=false):=by unfold Hid inB; simp; omega
 have HT2:Hid (inB op 118 123=false):=by unfold Hid inB; simp; omega
 have HI:=Lib.hid (@inst_no pb regs code op d a b ty nm A cap args hop)
 have XB:=Lib.hid (XBx w regs code fn op d a b ty nm A cap args.length)
 go_enter Tryz.func100,Tryz.ntmps100
 go_wp2_with fail
 go_region_held3 (fun w'=>w'.cell? ⟨w.heap.size + 1,1,none⟩=some (.int .i64 d)∧w'.cell? ⟨w.heap.size + 1,2,none⟩=some (.int .i64 a)∧w'.cell? ⟨w.heap.size + 1,3,none⟩=some (.int .i64 b)∧w'.cell? ⟨w.heap.size + 1,4,none⟩=some (.int .i64 ty.base)∧w'.cell? ⟨w.heap.size + 1,5,none⟩=some (.int .i64 ty.bits)∧w'.cell? ⟨w.heap.size + 1,6,none⟩=some (.string ty.name)∧w'.cell? ⟨w.heap.size + 1,7,none⟩=some (.bool ty.opt)∧w'.cell? ⟨w.heap.size + 1,8,none⟩=some (.bool ty.err)∧w'.cell? ⟨w.heap.size + 1,9,none⟩=some (.string nm)∧w'.cell? ⟨w.heap.size + 1,10,none⟩=some (.slice A args.length cap)) ((first | exact XB.out _ (Ext.refl _).drew | exact XB.out _ ((Ext.refl _).drew.alloc _) | exact XB.out _ ((Ext.refl _).alloc _).drew | (exact XB.out _ exL))) (fail)
 obtain ⟨m0,hm0⟩:∃ m,(d == 0)=m:=⟨_,rfl⟩
 obtain ⟨m1,hm1⟩:∃ m,(a == 0)=m:=⟨_,rfl⟩
 obtain ⟨m2,hm2⟩:∃ m,(b == 0)=m:=⟨_,rfl⟩
 obtain ⟨m3,hm3⟩:∃ m,tz ty=m:=⟨_,rfl⟩
 obtain ⟨m4,hm4⟩:∃ m,emp nm=m:=⟨_,rfl⟩
 obtain ⟨m5,hm5⟩:∃ m,((args.length:Int) == 0)=m:=⟨_,rfl⟩
 have M0:Hid (IM w ((((w.alloc (.cells #[.int .i64 regs,.int .i64 code,fn] 153)).alloc (.cells #[.int .i64 op,.int .i64 d,.int .i64 a,.int .i64 b,.int .i64 ty.base,.int .i64 ty.bits,.string ty.name,.bool ty.opt,.bool ty.err,.string nm,.slice A args.length cap] 83)).alloc (.cells #[.bool (d == 0),.bool (a == 0),.bool (b == 0),.bool (tz ty),.bool (emp nm),.bool ((args.length:Int) == 0)] 192)).drew) w.heap.size #[.int .i64 regs,.int .i64 code,fn] (xC op d a b ty nm A cap args.length) #[.bool m0,.bool m1,.bool m2,.bool m3,.bool m4,.bool m5]):=by
  rw [← hm0,← hm1,← hm2,← hm3,← hm4,← hm5]
  exact IM.start ..
 have HM:Hid ((d == 0)=m0∧(a == 0)=m1∧(b == 0)=m2∧tz ty=m3∧emp nm=m4∧((args.length:Int) == 0)=m5):=⟨hm0,hm1,hm2,hm3,hm4,hm5⟩
 generalize ((((w.alloc (.cells #[.int .i64 regs,.int .i64 code,fn] 153)).alloc (.cells #[.int .i64 op,.int .i64 d,.int .i64 a,.int .i64 b,.int .i64 ty.base,.int .i64 ty.bits,.string ty.name,.bool ty.opt,.bool ty.err,.string nm,.slice A args.length cap] 83)).alloc (.cells #[.bool (d == 0),.bool (a == 0),.bool (b == 0),.bool (tz ty),.bool (emp nm),.bool ((args.length:Int) == 0)] 192)).drew)=w1 at M0 ⊢
 clear hm0 hm1 hm2 hm3 hm4 hm5 XB hq hem
 obtain ⟨b0,b1,b2,x0,x1,x2,x3,x4,x5,x6,x7,x8,x9,x10,f0,f1,f2,f3,f4,f5,r0,r1,r2,r3,r4,r5,zb,zx,zf⟩:=IM.cs M0.out
 have h6:=run_six
 go_wp2_with (first
  | (go_at_call 137; refine (isOperation_as (t:=false) (c:=false) _ HIN.out HT1.out HT2.out).mono ?_; rintro r w' ⟨rfl,rfl⟩))
 clear b0 b1 b2 x0 x1 x2 x3 x4 x5 x6 x7 x8 x9 x10 f0 f1 f2 f3 f4 f5 r0 r1 r2 r3 r4 r5 zb zx zf h6
 obtain ⟨FF,hFF⟩:∃ FF:Array Bool → Array Value,FF=(fun l=>#[selB l 13 (.bool (inB d 0 (regs - 1))) (.bool m0),selB l 15 (.bool (inB a 0 (regs - 1))) (.bool m1),selB l 17 (.bool (inB b 0 (regs - 1))) (.bool m2),.bool m3,.bool m4,.bool m5]):=⟨_,rfl⟩
 have HCd:Hid (∀ (l:Array Bool) (w':World),IMs 18 w w.heap.size #[.int .i64 regs,.int .i64 code,fn] (xC op d a b ty nm A cap args.length) FF l w' → Calls Tryz.prog 138 #[.agg #[.int .i64 regs,.int .i64 code,fn],.int .i64 d] w' fun e w3=>e=.returned (.bool (inB d 0 (regs - 1)))∧IMs 18 w w.heap.size #[.int .i64 regs,.int .i64 code,fn] (xC op d a b ty nm A cap args.length) FF l w3):=IMs.call fun w' x=>isReg_any regs code fn d w' h1 h2
 have HCa:Hid (∀ (l:Array Bool) (w':World),IMs 18 w w.heap.size #[.int .i64 regs,.int .i64 code,fn] (xC op d a b ty nm A cap args.length) FF l w' → Calls Tryz.prog 138 #[.agg #[.int .i64 regs,.int .i64 code,fn],.int .i64 a] w' fun e w3=>e=.returned (.bool (inB a 0 (regs - 1)))∧IMs 18 w w.heap.size #[.int .i64 regs,.int .i64 code,fn] (xC op d a b ty nm A cap args.length) FF l w3):=IMs.call fun w' x=>isReg_any regs code fn a w' h1 h2
 have HCb:Hid (∀ (l:Array Bool) (w':World),IMs 18 w w.heap.size #[.int .i64 regs,.int .i64 code,fn] (xC op d a b ty nm A cap args.length) FF l w' → Calls Tryz.prog 138 #[.agg #[.int .i64 regs,.int .i64 code,fn],.int .i64 b] w' fun e w3=>e=.returned (.bool (inB b 0 (regs - 1)))∧IMs 18 w w.heap.size #[.int .i64 regs,.int .i64 code,fn] (xC op d a b ty nm A cap args.length) FF l w3):=IMs.call fun w' x=>isReg_any regs code fn b w' h1 h2
 have HD:=Lib.hid (IMs.fx 18 w w.heap.size regs code fn op d a b ty nm A cap args.length FF)
 have HST:∀ (i:Nat) (_:i ≠ 13:=by decide) (_:i ≠ 15:=by decide) (_:i ≠ 17:=by decide) (l:Array Bool) (w':World),IMs 18 w w.heap.size #[.int .i64 regs,.int .i64 code,fn] (xC op d a b ty nm A cap args.length) FF (l.setIfInBounds i true) w' ↔ IMs 18 w w.heap.size #[.int .i64 regs,.int .i64 code,fn] (xC op d a b ty nm A cap args.length) FF l w':=fun i n13 n15 n17=>IMs.same fun l=>by rw [hFF]; simp only [selB_ne n13,selB_ne n15,selB_ne n17]
 have hS0:IMs 18 w w.heap.size #[.int .i64 regs,.int .i64 code,fn] (xC op d a b ty nm A cap args.length) FF #[false,false,false,false,false,false,false,false,false,false,false,false,false,false,false,false,false,false] w1.drew:=⟨rfl,by rw [hFF]; exact M0.out.ext' (Ext.refl _).drew⟩
 refine flow_begin (IMs 18 w w.heap.size #[.int .i64 regs,.int .i64 code,fn] (xC op d a b ty nm A cap args.length) FF) #[false,false,false,false,false,false,false,false,false,false,false,false,false,false,false,false,false,false] rfl (by kernel_rfl) (fun _ _ _ _ _ h=>h) (hS0) (fun HQ=>?_)
 (refine tt 0 37 rfl HQ (HST 0) ?_; try simp only [putL,List.set])
 (refine tt 1 38 rfl HQ (HST 1) ?_; try simp only [putL,List.set])
 (refine tt 2 39 rfl HQ (HST 2) ?_; try simp only [putL,List.set])
 (refine tc 3 40 rfl (by kernel_rfl) HQ (HST 3) (by rfl) (fun l w' hF=>?_) ((HCd.out)) ?_; (focus (have hq:=HD.out _ hF; go_simp; try simp only [enters_isReg _ _])); try simp only [putL,List.set])
 (refine tt 4 41 rfl HQ (HST 4) ?_; try simp only [putL,List.set])
 (refine tt 5 42 rfl HQ (HST 5) ?_; try simp only [putL,List.set])
 (refine tt 6 43 rfl HQ (HST 6) ?_; try simp only [putL,List.set])
 (refine tc 7 44 rfl (by kernel_rfl) HQ (HST 7) (by rfl) (fun l w' hF=>?_) ((HCa.out)) ?_; (focus (have hq:=HD.out _ hF; go_simp; try simp only [enters_isReg _ _])); try simp only [putL,List.set])
 (refine tt 8 45 rfl HQ (HST 8) ?_; try simp only [putL,List.set])
 (refine tt 9 46 rfl HQ (HST 9) ?_; try simp only [putL,List.set])
 (refine tt 10 47 rfl HQ (HST 10) ?_; try simp only [putL,List.set])
 (refine tc 11 48 rfl (by kernel_rfl) HQ (HST 11) (by rfl) (fun l w' hF=>?_) ((HCb.out)) ?_; (focus (have hq:=HD.out _ hF; go_simp; try simp only [enters_isReg _ _])); try simp only [putL,List.set])
 (refine tt 12 49 rfl HQ (HST 12) ?_; try simp only [putL,List.set])
 (refine flow_put (i:=13) (oi:=⟨none,_,_,_,_,none⟩) rfl rfl (IMs.store (i:=13) (k:=0) (b:=inB d 0 (regs - 1)) rfl rfl rfl rfl (by decide) (fun l=>by rw [hFF]; rfl) (by decide) (fun l hl=>by rw [hFF]; simp only [selB_eq hl,selB_ne (show (13:Nat) ≠ 15 by decide),selB_ne (show (13:Nat) ≠ 17 by decide)]; rfl)) (by kernel_rfl) ?_; try simp only [List.setIfInBounds_toArray,List.set_cons_zero,List.set_cons_succ])
 (refine tt 14 50 rfl HQ (HST 14) ?_; try simp only [putL,List.set])
 (refine flow_put (i:=15) (oi:=⟨none,_,_,_,_,none⟩) rfl rfl (IMs.store (i:=15) (k:=1) (b:=inB a 0 (regs - 1)) rfl rfl rfl rfl (by decide) (fun l=>by rw [hFF]; rfl) (by decide) (fun l hl=>by rw [hFF]; simp only [selB_eq hl,selB_ne (show (15:Nat) ≠ 13 by decide),selB_ne (show (15:Nat) ≠ 17 by decide)]; rfl)) (by kernel_rfl) ?_; try simp only [List.setIfInBounds_toArray,List.set_cons_zero,List.set_cons_succ])
 (refine tt 16 51 rfl HQ (HST 16) ?_; try simp only [putL,List.set])
 (refine flow_put (i:=17) (oi:=⟨none,_,_,_,_,none⟩) rfl rfl (IMs.store (i:=17) (k:=2) (b:=inB b 0 (regs - 1)) rfl rfl rfl rfl (by decide) (fun l=>by rw [hFF]; rfl) (by decide) (fun l hl=>by rw [hFF]; simp only [selB_eq hl,selB_ne (show (17:Nat) ≠ 13 by decide),selB_ne (show (17:Nat) ≠ 15 by decide)]; rfl)) (by kernel_rfl) ?_; try simp only [List.setIfInBounds_toArray,List.set_cons_zero,List.set_cons_succ])
 refine flow_done (by kernel_rfl) ?_
 intro w3 hm3
 have M3:Hid (IM w w3 w.heap.size #[.int .i64 regs,.int .i64 code,fn] (xC op d a b ty nm A cap args.length) #[.bool (inB d 0 (regs - 1)),.bool (inB a 0 (regs - 1)),.bool (inB b 0 (regs - 1)),.bool m3,.bool m4,.bool m5]):=by
  have h:=hm3.2
  rw [hFF] at h
  exact h
 clear hm3 HD HST hFF HCd HCa HCb
 obtain ⟨b0,b1,b2,x0,x1,x2,x3,x4,x5,x6,x7,x8,x9,x10,f0,f1,f2,f3,f4,f5,r0,r1,r2,r3,r4,r5,zb,zx,zf⟩:=IM.cs M3.out
 have h6:=run_six
 have x9w:=M3.out.ext
 go_wp2_with (first
  | fail)
 go_ret
 exact ⟨ret_bool (by
  obtain ⟨rfl,rfl,rfl,rfl,rfl,rfl⟩:=HM.out
  rw [HI.out]
  first | done | rfl | (simp; done)),exL⟩
end Go.Proofs.YtcoookehfhhhdaaGreatDoor.c
