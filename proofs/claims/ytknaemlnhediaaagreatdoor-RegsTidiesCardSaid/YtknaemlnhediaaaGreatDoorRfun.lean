/- Contracts of the library's IndexFunc and ContainsFunc at register code's types; isInst's closure. Conditions: lengths. Contract of regs.bound.isInst: the call. The table strings.asciiSpace holds what its text lays. -/
import Derived.Test.YtknaemlnhediaaaGreatDoorRgV
import Derived.Deep.RegionHeld3
namespace Go.Proofs.YtknaemlnhediaaaGreatDoor.c
open Go.RowKit
set_option linter.unusedVariables false
set_option maxRecDepth 100000
set_option maxHeartbeats 6400000
set_option linter.unusedSimpArgs false
def anyR (p:Nat → Bool) (n:Nat):Bool:=decide (0 ≤ findI p n)
theorem anyR_iff {p:Nat → Bool} {n:Nat}:anyR p n=true ↔ ∃ k,k < n∧p k=true:=by
 unfold anyR
 rw [decide_eq_true_eq]
 rcases findI_cases p n with ⟨h,hn⟩ | ⟨k,h,hk,hp,_⟩
 ·rw [h]
  constructor
  ·intro h; omega
  ·rintro ⟨k,hk,hp⟩; rw [hn k hk] at hp; cases hp
 ·rw [h]
  exact ⟨fun _=>⟨k,hk,hp⟩,fun _=>by omega⟩
theorem indexFuncI_any (A:Option Addr) (n cap:Nat) (K:Nat) (caps:Array Value) (w:World) (hn:n ≤ 9223372036854775807)
  (c:Nat → Nat → Value) (hA:At w A n 1 c) (hK:Enters K) (p:Nat → Bool)
  (hp:∀ i w1,i < n → Ext w w1 → Calls Tryz.prog K (#[c i 0] ++ caps) w1 fun e w2=>e=.returned (.bool (p i))∧Ext w1 w2) :
  Calls Tryz.prog 234 #[.slice A n cap,.func (.func K) #[] caps] w fun e w'=>e=.returned (.int .i64 (findI p n))∧Ext w w':=by
 have HP:=Lib.hid hp; clear hp
 go_enter Tryz.func234,Tryz.ntmps234
 go_wp2
 go_loopw [5,8] (fun _ i wr=>∃ k:Nat,k ≤ n∧i=.int .i64 k∧(∀ j,j < k → p j=false)∧Ext w wr) (fun _ i _=>n - (intOf i).toNat)
 case atStart=>exact ⟨0,Nat.zero_le _,rfl,by omega,Ext.refl _⟩
 case round =>
  obtain ⟨k,hk,rfl,hnone,hx⟩:=hrel
  have HN:=Lib.hid hnone; clear hnone
  by_cases hlt:k < n
  ·obtain ⟨b,off,rfl,hb,c0⟩:=(hA.ext hx).one hlt
   go_wp2_with fail
   have HP1:=Lib.hid (HP.out k wr hlt hx)
   simp only [hK _ _]
   go_wp2_with fail
   refine (HP1.out).mono ?_
   rintro e w1 ⟨rfl,x1⟩
   cases hpk:p k
   ·go_wp2_with fail
    go_roundw
    case rel=>exact ⟨k + 1,by omega,by go_num,(fun j hj=>by rcases Nat.lt_or_ge j k with h | h; exact HN.out j h; obtain rfl:j=k:=(by omega); exact hpk),hx.trans x1⟩
    case measure=>simp [intOf]; omega
   ·go_wp2_with fail
    go_ret
    exact ⟨ret_int (findI_hit hlt hpk HN.out).symm,hx.trans x1⟩
  ·go_wp2_with fail
   go_ret
   exact ⟨ret_int (findI_none (fun j hj=>HN.out j (by omega))).symm,hx⟩
theorem containsFuncI_any (A:Option Addr) (n cap:Nat) (K:Nat) (caps:Array Value) (w:World) (hn:n ≤ 9223372036854775807)
  (c:Nat → Nat → Value) (hA:At w A n 1 c) (hK:Enters K) (p:Nat → Bool)
  (hp:∀ i w1,i < n → Ext w w1 → Calls Tryz.prog K (#[c i 0] ++ caps) w1 fun e w2=>e=.returned (.bool (p i))∧Ext w1 w2) :
  Calls Tryz.prog 177 #[.slice A n cap,.func (.func K) #[] caps] w fun e w'=>e=.returned (.bool (anyR p n))∧Ext w w':=by
 have HP:=Lib.hid hp; clear hp
 go_enter Tryz.func177,Tryz.ntmps177
 go_wp2_with fail
 refine (indexFuncI_any A n cap K caps w hn c hA hK p HP.out).mono ?_
 rintro e w1 ⟨rfl,x1⟩
 go_wp2_with fail
 go_ret
 exact ⟨rfl,x1⟩
theorem enters_isInst1:Enters 178 := Enters.of Tryz.func178 (by kernel_rfl) (by kernel_rfl)
theorem isInst1_any (n:Int) (w:World):Calls Tryz.prog 178 #[.int .i64 n] w fun e w'=>e=.returned (.bool (!inB n 0 299))∧w=w':=by
 go_enter Tryz.func178,Tryz.ntmps178
 go_wp2_with (first
  | (go_at_call 176; refine (isSlot_any _ _).mono ?_; rintro r w' ⟨rfl,rfl⟩))
 go_ret
 exact ⟨rfl,rfl⟩
theorem slots_any (A:Option Addr) (cap:Nat) (args:List Int) (w:World) (hA:NumsAt w A args) (hl:args.length ≤ 9223372036854775806) :
  Calls Tryz.prog 177 #[.slice A args.length cap,.func (.func 178) #[] #[]] w fun e w'=>e=.returned (.bool (!args.all fun i=>inB i 0 299))∧Ext w w':=by
 have h:=containsFuncI_any A args.length cap 178 #[] w (by omega) _ hA enters_isInst1 (fun i=>!inB (args.getD i 0) 0 299) (fun i w1 _ _=>(isInst1_any _ w1).mono fun e w2 he=>⟨he.1,he.2 ▸ Ext.refl _⟩)
 have e:anyR (fun i=>!inB (args.getD i 0) 0 299) args.length=!args.all fun i=>inB i 0 299:=by
  rw [Bool.eq_iff_iff,anyR_iff,Bool.not_eq_true',← Bool.not_eq_true,List.all_eq_true]
  constructor
  ·rintro ⟨k,hk,hp⟩ hall
   have:=hall _ (List.getElem_mem hk)
   rw [List.getD,List.getElem?_eq_getElem hk,Option.getD_some,this] at hp
   cases hp
  ·intro h
   rcases Classical.em (∃ k,k < args.length∧(!inB (args.getD k 0) 0 299)=true) with h2 | h2
   ·exact h2
   ·exfalso
    refine h fun x hx=>?_
    obtain ⟨k,hk,rfl⟩:=List.getElem_of_mem hx
    cases hi:inB args[k] 0 299
    ·refine absurd ⟨k,hk,?_⟩ h2
     rw [List.getD,List.getElem?_eq_getElem hk,Option.getD_some,hi]
     rfl
    ·rfl
 rwa [e] at h
theorem inst_callI (regs code:Int) (K:Nat) (caps:Array Value) (pb:Bool) (op d a b:Int) (ty:Ty) (nm:ByteArray) (A:Option Addr) (cap:Nat) (args:List Int) (w:World) (g:Laid w) (h1:1 ≤ regs) (h2:regs ≤ 6) (hc1:1 ≤ code) (hc2:code ≤ 1000000) (hal:args.length ≤ 9223372036854775806) (hK:Enters K) (HP:∀ w1,Ext w w1 → Calls Tryz.prog K (#[.string nm,.int .i64 args.length] ++ caps) w1 fun e w2=>e=.returned (.bool pb)∧Ext w1 w2) (hA:NumsAt w A args) (hop:op=14) :
  Calls Tryz.prog 98 #[.agg #[.int .i64 regs,.int .i64 code,.func (.func K) #[] caps],.agg #[.int .i64 op,.int .i64 d,.int .i64 a,.int .i64 b,.int .i64 ty.base,.int .i64 ty.bits,.string ty.name,.bool ty.opt,.bool ty.err,.string nm,.slice A args.length cap]] w fun e w'=>e=.returned (.bool (instR pb regs code ⟨op,d,a,b,ty,nm,A,cap,args⟩))∧Ext w w':=by
 subst hop
 have hq:=run_tz_eql ty
 have hem:nm.toList.isEmpty=emp nm:=rfl
 have HI:=Lib.hid (@inst_callR pb regs code d a b ty nm A cap args)
 have HIN:Hid (In64 14):=⟨by decide,by decide⟩
 have HT1:Hid (inB 14 105 117=false):=rfl
 have HT2:Hid (inB 14 118 123=false):=rfl
 have HPP:=Lib.hid HP
 clear HP
 have HA:=Lib.hid hA
 clear hA
 have XB:=Lib.hid (XBx w regs code (.func (.func K) #[] caps) 14 d a b ty nm A cap args.length)
 go_enter Tryz.func98,Tryz.ntmps98
 go_wp2_with fail
 go_region_held3 (fun w'=>w'.cell? ⟨w.heap.size + 1,1,none⟩=some (.int .i64 d)∧w'.cell? ⟨w.heap.size + 1,2,none⟩=some (.int .i64 a)∧w'.cell? ⟨w.heap.size + 1,3,none⟩=some (.int .i64 b)∧w'.cell? ⟨w.heap.size + 1,4,none⟩=some (.int .i64 ty.base)∧w'.cell? ⟨w.heap.size + 1,5,none⟩=some (.int .i64 ty.bits)∧w'.cell? ⟨w.heap.size + 1,6,none⟩=some (.string ty.name)∧w'.cell? ⟨w.heap.size + 1,7,none⟩=some (.bool ty.opt)∧w'.cell? ⟨w.heap.size + 1,8,none⟩=some (.bool ty.err)∧w'.cell? ⟨w.heap.size + 1,9,none⟩=some (.string nm)∧w'.cell? ⟨w.heap.size + 1,10,none⟩=some (.slice A args.length cap)) ((first | exact XB.out _ (Ext.refl _).drew | exact XB.out _ ((Ext.refl _).drew.alloc _) | exact XB.out _ ((Ext.refl _).alloc _).drew | (exact XB.out _ exL))) (fail)
 obtain ⟨m0,hm0⟩:∃ m,(d == 0)=m:=⟨_,rfl⟩
 obtain ⟨m1,hm1⟩:∃ m,(a == 0)=m:=⟨_,rfl⟩
 obtain ⟨m2,hm2⟩:∃ m,(b == 0)=m:=⟨_,rfl⟩
 obtain ⟨m3,hm3⟩:∃ m,tz ty=m:=⟨_,rfl⟩
 obtain ⟨m4,hm4⟩:∃ m,emp nm=m:=⟨_,rfl⟩
 obtain ⟨m5,hm5⟩:∃ m,((args.length:Int) == 0)=m:=⟨_,rfl⟩
 have M0:Hid (IM w ((((w.alloc (.cells #[.int .i64 regs,.int .i64 code,.func (.func K) #[] caps] 153)).alloc (.cells #[.int .i64 14,.int .i64 d,.int .i64 a,.int .i64 b,.int .i64 ty.base,.int .i64 ty.bits,.string ty.name,.bool ty.opt,.bool ty.err,.string nm,.slice A args.length cap] 67)).alloc (.cells #[.bool (d == 0),.bool (a == 0),.bool (b == 0),.bool (tz ty),.bool (emp nm),.bool ((args.length:Int) == 0)] 225)).drew) w.heap.size #[.int .i64 regs,.int .i64 code,.func (.func K) #[] caps] (xC 14 d a b ty nm A cap args.length) #[.bool m0,.bool m1,.bool m2,.bool m3,.bool m4,.bool m5]):=by
  rw [← hm0,← hm1,← hm2,← hm3,← hm4,← hm5]
  exact IM.start ..
 have HM:Hid ((d == 0)=m0∧(a == 0)=m1∧(b == 0)=m2∧tz ty=m3∧emp nm=m4∧((args.length:Int) == 0)=m5):=⟨hm0,hm1,hm2,hm3,hm4,hm5⟩
 generalize ((((w.alloc (.cells #[.int .i64 regs,.int .i64 code,.func (.func K) #[] caps] 153)).alloc (.cells #[.int .i64 14,.int .i64 d,.int .i64 a,.int .i64 b,.int .i64 ty.base,.int .i64 ty.bits,.string ty.name,.bool ty.opt,.bool ty.err,.string nm,.slice A args.length cap] 67)).alloc (.cells #[.bool (d == 0),.bool (a == 0),.bool (b == 0),.bool (tz ty),.bool (emp nm),.bool ((args.length:Int) == 0)] 225)).drew)=w1 at M0 ⊢
 clear hm0 hm1 hm2 hm3 hm4 hm5 XB hq hem
 obtain ⟨b0,b1,b2,x0,x1,x2,x3,x4,x5,x6,x7,x8,x9,x10,f0,f1,f2,f3,f4,f5,r0,r1,r2,r3,r4,r5,zb,zx,zf⟩:=IM.cs M0.out
 have h6:=run_six
 go_wp2_with (first
  | (go_at_call 172; refine (isOperation_as (t:=false) (c:=false) _ HIN.out HT1.out HT2.out).mono ?_; rintro r w' ⟨rfl,rfl⟩))
 clear b0 b1 b2 x0 x1 x2 x3 x4 x5 x6 x7 x8 x9 x10 f0 f1 f2 f3 f4 f5 r0 r1 r2 r3 r4 r5 zb zx zf h6
 obtain ⟨FF,hFF⟩:∃ FF:Array Bool → Array Value,FF=(fun l=>#[selB l 13 (.bool (inB d 0 (regs - 1))) (.bool m0),.bool m1,.bool m2,.bool m3,selB l 15 (.bool (pb)) (.bool m4),.bool m5]):=⟨_,rfl⟩
 have HCd:Hid (∀ (l:Array Bool) (w':World),IMs 16 w w.heap.size #[.int .i64 regs,.int .i64 code,.func (.func K) #[] caps] (xC 14 d a b ty nm A cap args.length) FF l w' → Calls Tryz.prog 173 #[.agg #[.int .i64 regs,.int .i64 code,.func (.func K) #[] caps],.int .i64 d] w' fun e w3=>e=.returned (.bool (inB d 0 (regs - 1)))∧IMs 16 w w.heap.size #[.int .i64 regs,.int .i64 code,.func (.func K) #[] caps] (xC 14 d a b ty nm A cap args.length) FF l w3):=IMs.call fun w' x=>isReg_any regs code (.func (.func K) #[] caps) d w' h1 h2
 have HCp:Hid (∀ (l:Array Bool) (w':World),IMs 16 w w.heap.size #[.int .i64 regs,.int .i64 code,.func (.func K) #[] caps] (xC 14 d a b ty nm A cap args.length) FF l w' → Calls Tryz.prog K (#[.string nm,.int .i64 args.length] ++ caps) w' fun e w3=>e=.returned (.bool (pb))∧IMs 16 w w.heap.size #[.int .i64 regs,.int .i64 code,.func (.func K) #[] caps] (xC 14 d a b ty nm A cap args.length) FF l w3):=IMs.call fun w' x=>HPP.out w' x
 have HD:=Lib.hid (IMs.fx 16 w w.heap.size regs code (.func (.func K) #[] caps) 14 d a b ty nm A cap args.length FF)
 have HST:∀ (i:Nat) (_:i ≠ 13:=by decide) (_:i ≠ 15:=by decide) (l:Array Bool) (w':World),IMs 16 w w.heap.size #[.int .i64 regs,.int .i64 code,.func (.func K) #[] caps] (xC 14 d a b ty nm A cap args.length) FF (l.setIfInBounds i true) w' ↔ IMs 16 w w.heap.size #[.int .i64 regs,.int .i64 code,.func (.func K) #[] caps] (xC 14 d a b ty nm A cap args.length) FF l w':=fun i n13 n15=>IMs.same fun l=>by rw [hFF]; simp only [selB_ne n13,selB_ne n15]
 have hS0:IMs 16 w w.heap.size #[.int .i64 regs,.int .i64 code,.func (.func K) #[] caps] (xC 14 d a b ty nm A cap args.length) FF #[false,false,false,false,false,false,false,false,false,false,false,false,false,false,false,false] w1.drew:=⟨rfl,by rw [hFF]; exact M0.out.ext' (Ext.refl _).drew⟩
 refine flow_begin (IMs 16 w w.heap.size #[.int .i64 regs,.int .i64 code,.func (.func K) #[] caps] (xC 14 d a b ty nm A cap args.length) FF) #[false,false,false,false,false,false,false,false,false,false,false,false,false,false,false,false] rfl (by kernel_rfl) (fun _ _ _ _ _ h=>h) (hS0) (fun HQ=>?_)
 (refine tt 0 177 rfl HQ (HST 0) ?_; try simp only [putL,List.set])
 (refine tt 1 178 rfl HQ (HST 1) ?_; try simp only [putL,List.set])
 (refine tt 2 179 rfl HQ (HST 2) ?_; try simp only [putL,List.set])
 (refine tc 3 180 rfl (by kernel_rfl) HQ (HST 3) (by rfl) (fun l w' hF=>?_) ((HCd.out)) ?_; (focus (have hq:=HD.out _ hF; go_simp; try simp only [enters_isReg _ _])); try simp only [putL,List.set])
 (refine tt 4 181 rfl HQ (HST 4) ?_; try simp only [putL,List.set])
 (refine tt 5 182 rfl HQ (HST 5) ?_; try simp only [putL,List.set])
 (refine tt 6 183 rfl HQ (HST 6) ?_; try simp only [putL,List.set])
 (refine tt 7 184 rfl HQ (HST 7) ?_; try simp only [putL,List.set])
 (refine tt 8 185 rfl HQ (HST 8) ?_; try simp only [putL,List.set])
 (refine tt 9 186 rfl HQ (HST 9) ?_; try simp only [putL,List.set])
 (refine tt 10 187 rfl HQ (HST 10) ?_; try simp only [putL,List.set])
 (refine tc 11 188 rfl (by kernel_rfl) HQ (HST 11) (by rfl) (fun l w' hF=>?_) ((HCp.out)) ?_; (focus (have hq:=HD.out _ hF; go_simp; try simp only [hK _ _])); try simp only [putL,List.set])
 (refine tt 12 189 rfl HQ (HST 12) ?_; try simp only [putL,List.set])
 (refine flow_put (i:=13) (oi:=⟨none,_,_,_,_,none⟩) rfl rfl (IMs.store (i:=13) (k:=0) (b:=inB d 0 (regs - 1)) rfl rfl rfl rfl (by decide) (fun l=>by rw [hFF]; rfl) (by decide) (fun l hl=>by rw [hFF]; simp only [selB_eq hl,selB_ne (show (13:Nat) ≠ 15 by decide)]; rfl)) (by kernel_rfl) ?_; try simp only [List.setIfInBounds_toArray,List.set_cons_zero,List.set_cons_succ])
 (refine tt 14 190 rfl HQ (HST 14) ?_; try simp only [putL,List.set])
 (refine flow_put (i:=15) (oi:=⟨none,_,_,_,_,none⟩) rfl rfl (IMs.store (i:=15) (k:=4) (b:=pb) rfl rfl rfl rfl (by decide) (fun l=>by rw [hFF]; rfl) (by decide) (fun l hl=>by rw [hFF]; simp only [selB_eq hl,selB_ne (show (15:Nat) ≠ 13 by decide)]; rfl)) (by kernel_rfl) ?_; try simp only [List.setIfInBounds_toArray,List.set_cons_zero,List.set_cons_succ])
 refine flow_done (by kernel_rfl) ?_
 intro w3 hm3
 have M3:Hid (IM w w3 w.heap.size #[.int .i64 regs,.int .i64 code,.func (.func K) #[] caps] (xC 14 d a b ty nm A cap args.length) #[.bool (inB d 0 (regs - 1)),.bool m1,.bool m2,.bool m3,.bool (pb),.bool m5]):=by
  have h:=hm3.2
  rw [hFF] at h
  exact h
 clear hm3 HD HST hFF HCd HCp
 obtain ⟨b0,b1,b2,x0,x1,x2,x3,x4,x5,x6,x7,x8,x9,x10,f0,f1,f2,f3,f4,f5,r0,r1,r2,r3,r4,r5,zb,zx,zf⟩:=IM.cs M3.out
 have h6:=run_six
 have x9w:=M3.out.ext
 go_wp2_with (first
  | fail
  | (go_at_call 177; refine (slots_any A cap args _ (HA.out.ext (x9w.trans exL)) hal).mono ?_; rintro r w4 ⟨rfl,x4⟩; have y4:=x4.facts; have z40:=Nat.lt_of_lt_of_le zx x4.size; have z41:=Nat.lt_of_lt_of_le zf x4.size))
 go_ret
 exact ⟨ret_bool (by
  obtain ⟨rfl,rfl,rfl,rfl,rfl,rfl⟩:=HM.out
  rw [HI.out]
  first | done | rfl | (simp; done)),exL⟩
end Go.Proofs.YtknaemlnhediaaaGreatDoor.c
