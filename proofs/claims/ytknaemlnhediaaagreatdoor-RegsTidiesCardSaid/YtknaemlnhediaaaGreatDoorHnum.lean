/- Contract of the reference's number: what an instruction with a number for its result comes to. Conditions: right types. Contract of the reference's number: what an instruction with a number for its result comes to. Conditions: right types. Contract of the reference's number: what an instruction with a number for its result comes to. Conditions: right types. Contract of the reference's number, at operations of two numbers; all of number. Conditions: right types. -/
import Derived.Test.YtknaemlnhediaaaGreatDoorHfn
import Derived.Test.YtknaemlnhediaaaGreatDoorFlow
namespace Go.Proofs.YtknaemlnhediaaaGreatDoor.c
open Go.RowKit
set_option linter.unusedVariables false
set_option maxRecDepth 100000
set_option maxHeartbeats 3200000
set_option linter.unusedSimpArgs false
theorem enters_hwrapped:Enters 209 := Enters.of Tryz.func209 (by kernel_rfl) (by kernel_rfl)
theorem enters_rNeg:Enters 257 := Enters.of Tryz.func257 (by kernel_rfl) (by kernel_rfl)
theorem enters_rDo:Enters 259 := Enters.of Tryz.func259 (by kernel_rfl) (by kernel_rfl)
theorem enters_rLoose:Enters 260 := Enters.of Tryz.func260 (by kernel_rfl) (by kernel_rfl)
structure NB (w0 w:World) (X V U:Array Value) (tb:Nat) (T:Array Value):Prop where
 ext:Ext w0 w
 xx:Blk w w0.heap.size 67 X
 vv:Blk w (w0.heap.size + 1) 37 V
 uu:Blk w (w0.heap.size + 1 + 1) 37 U
 tt:Blk w tb 193 T
theorem NB.ext' {w0 w w':World} {X V U:Array Value} {tb:Nat} {T:Array Value} (n:NB w0 w X V U tb T) (x:Ext w w'):NB w0 w' X V U tb T:=⟨n.ext.trans x,n.xx.ext x,n.vv.ext x,n.uu.ext x,n.tt.ext x⟩
theorem NB.start {w0 w1:World} {X V U:Array Value} {T:Array Value} (x:Ext (((w0.alloc (.cells X 67)).alloc (.cells V 37)).alloc (.cells U 37)) w1):NB w0 (w1.alloc (.cells T 193)) X V U w1.heap.size T:=by
 have h2:Blk (((w0.alloc (.cells X 67)).alloc (.cells V 37)).alloc (.cells U 37)) (w0.heap.size + 1) 37 V:=(blk2 w0 _ _ _).alloc _
 exact ⟨((((Ext.refl w0).alloc _).alloc _).alloc _).trans (x.alloc _),((((Blk.new w0 _ _).alloc _).alloc _).ext x).alloc _,(h2.ext x).alloc _,((blk3 w0 _ _ _ _).ext x).alloc _,Blk.new _ _ _⟩
theorem Blk.off {w w':World} {g m:Nat} {t:TypeId} {cs:Array Value} (h:Blk w g t cs) (x:w.grownBy w' (some m)) (hne:g ≠ m):Blk w' g t cs:=(x.block g h.lt (fun e=>hne (Option.some.inj e))).trans h
theorem Blk.ext_off {w w1 w':World} {g m:Nat} {t:TypeId} {cs:Array Value} (h:Blk w g t cs) (x1:Ext w w1) (x:w1.grownBy w' (some m)) (hne:g ≠ m):Blk w' g t cs:=(h.ext x1).off x hne
theorem NB.off {w0 w w':World} {X V U:Array Value} {tb:Nat} {T:Array Value} {m:Nat} (n:NB w0 w X V U tb T) (x:w.grownBy w' (some m)) (hm:m < w0.heap.size):Blk w' w0.heap.size 67 X∧Blk w' (w0.heap.size + 1) 37 V:=⟨n.xx.off x (by omega),n.vv.off x (by omega)⟩
section
variable (m:Nat) (A0:Option Addr) (len cap0:Nat) (ck:Bool) (s:Int) (B0:Option Addr) (bn bc:Nat) (d a b:Int) (ty:Ty) (nm:ByteArray) (A:Option Addr) (cap:Nat) (args:List Int) (v u:Val) (w:World)
theorem hnum_not (h:HMem w m A0 len cap0 ck s 0 0 B0 bn bc) :
  Calls Tryz.prog 211 #[.pointer (some ⟨m,0,none⟩),(Rg.mk 6 d a b ty nm A cap args).val,v.val,u.val] w fun e w'=>HNum w m A0 len cap0 ck s B0 bn bc (numF ck ⟨6,d,a,b,ty,nm,A,cap,args⟩ v u) e w':=by
 have HNQ:=Lib.hid (numF6 (ck:=ck) (x:=⟨6,d,a,b,ty,nm,A,cap,args⟩) (v:=v) (u:=u) rfl)
 obtain ⟨vt,vn,vnull,verr,vof⟩:=v
 obtain ⟨ut,un,unull,uerr,uof⟩:=u
 unfold Rg.val Val.val Val.cells
 simp only [] at HNQ ⊢
 have HM:=Lib.hid h
 clear h
 go_enter Tryz.func211,Tryz.ntmps211
 go_wp2_with (first
  | (go_at_call 247; refine (hintOf_any ty _).mono ?_; rintro r w1 ⟨rfl,x1⟩; have y1:=x1.facts; have z1:=x1.size; have za1:w.heap.size < w1.heap.size:=(by have h:=x1.size; (try simp at h); omega); have zb1:w.heap.size + 1 < w1.heap.size:=(by have h:=x1.size; (try simp at h); omega); have zc1:w.heap.size + 2 < w1.heap.size:=(by have h:=x1.size; (try simp at h); omega))
  | (go_at_call 114; refine (hone_any _ _).mono ?_; rintro r w' ⟨rfl,rfl⟩))
 go_ret
 exact hNum_ok HNQ.out (HM.out.ext exA) (own_grown exA _)
theorem hnum_wrap (h:HMem w m A0 len cap0 ck s 0 0 B0 bn bc) (h0:2 ≤ ty.base) (h1:1 ≤ ty.bits) (h2:ty.bits ≤ 31) :
  Calls Tryz.prog 211 #[.pointer (some ⟨m,0,none⟩),(Rg.mk 8 d a b ty nm A cap args).val,v.val,u.val] w fun e w'=>HNum w m A0 len cap0 ck s B0 bn bc (numF ck ⟨8,d,a,b,ty,nm,A,cap,args⟩ v u) e w':=by
 have HR:Hid (rowT ty):=.inr (.inr ⟨h0,h1,h2⟩)
 have HNQ:=Lib.hid (numF8 (ck:=ck) (x:=⟨8,d,a,b,ty,nm,A,cap,args⟩) (v:=v) (u:=u) rfl)
 obtain ⟨vt,vn,vnull,verr,vof⟩:=v
 obtain ⟨ut,un,unull,uerr,uof⟩:=u
 unfold Rg.val Val.val Val.cells
 simp only [] at HNQ ⊢
 have HM:=Lib.hid h
 clear h
 go_enter Tryz.func211,Tryz.ntmps211
 go_wp2_with (first
  | (go_at_call 247; refine (hintOf_any ty _).mono ?_; rintro r w1 ⟨rfl,x1⟩; have y1:=x1.facts; have z1:=x1.size; have za1:w.heap.size < w1.heap.size:=(by have h:=x1.size; (try simp at h); omega); have zb1:w.heap.size + 1 < w1.heap.size:=(by have h:=x1.size; (try simp at h); omega); have zc1:w.heap.size + 2 < w1.heap.size:=(by have h:=x1.size; (try simp at h); omega))
  | (go_at_call 209; refine (hwrapped_any ty vn _ HR.out).mono ?_; rintro r w2 ⟨rfl,x2⟩))
 go_ret
 exact hNum_ok HNQ.out (HM.out.ext exA) (own_grown exA _)
theorem hnum_unwrap (h:HMem w m A0 len cap0 ck s 0 0 B0 bn bc) :
  Calls Tryz.prog 211 #[.pointer (some ⟨m,0,none⟩),(Rg.mk 9 d a b ty nm A cap args).val,v.val,u.val] w fun e w'=>HNum w m A0 len cap0 ck s B0 bn bc (numF ck ⟨9,d,a,b,ty,nm,A,cap,args⟩ v u) e w':=by
 have HNQ:=Lib.hid (numF9 (ck:=ck) (x:=⟨9,d,a,b,ty,nm,A,cap,args⟩) (v:=v) (u:=u) rfl)
 obtain ⟨vt,vn,vnull,verr,vof⟩:=v
 obtain ⟨ut,un,unull,uerr,uof⟩:=u
 unfold Rg.val Val.val Val.cells
 simp only [] at HNQ ⊢
 have HM:=Lib.hid h
 clear h
 cases vnull
 ·rw [Bool.and_false,if_neg (by decide)] at HNQ
  go_enter Tryz.func211,Tryz.ntmps211
  go_wp2_with (first
   | (go_at_call 247; refine (hintOf_any ty _).mono ?_; rintro r w1 ⟨rfl,x1⟩; have y1:=x1.facts; have z1:=x1.size; have za1:w.heap.size < w1.heap.size:=(by have h:=x1.size; (try simp at h); omega); have zb1:w.heap.size + 1 < w1.heap.size:=(by have h:=x1.size; (try simp at h); omega); have zc1:w.heap.size + 2 < w1.heap.size:=(by have h:=x1.size; (try simp at h); omega)))
  go_ret
  exact hNum_ok HNQ.out (HM.out.ext exA) (own_grown exA _)
 ·rw [Bool.and_true] at HNQ
  cases ck
  ·rw [if_neg (by decide)] at HNQ
   go_enter Tryz.func211,Tryz.ntmps211
   go_wp2_with (first
    | (go_at_call 247; refine (hintOf_any ty _).mono ?_; rintro r w1 ⟨rfl,x1⟩; have y1:=x1.facts; have z1:=x1.size; have za1:w.heap.size < w1.heap.size:=(by have h:=x1.size; (try simp at h); omega); have zb1:w.heap.size + 1 < w1.heap.size:=(by have h:=x1.size; (try simp at h); omega); have zc1:w.heap.size + 2 < w1.heap.size:=(by have h:=x1.size; (try simp at h); omega))
    | (go_at_call 210; refine (hstop_f m A0 len cap0 s B0 bn bc 4 _ (HM.out.ext exA)).mono ?_; rintro r w' ⟨rfl,rfl⟩))
   go_ret
   exact hNum_ok HNQ.out (HM.out.ext exA) (own_grown exA _)
  ·rw [if_pos rfl] at HNQ
   have BV:=Lib.hid (blk2 w (.cells #[.int .i64 9,.int .i64 d,.int .i64 a,.int .i64 b,.int .i64 ty.base,.int .i64 ty.bits,.string ty.name,.bool ty.opt,.bool ty.err,.string nm,.slice A args.length cap] 67) 37 #[.int .i64 vt.base,.int .i64 vt.bits,.string vt.name,.bool vt.opt,.bool vt.err,.int .i64 vn,.bool true,.string verr,.int .i64 vof.base,.int .i64 vof.bits,.string vof.name,.bool vof.opt,.bool vof.err])
   go_enter Tryz.func211,Tryz.ntmps211
   go_wp2_with (first
    | (go_at_call 247; refine (hintOf_any ty _).mono ?_; rintro r w1 ⟨rfl,x1⟩; have y1:=x1.facts; have z1:=x1.size; have za1:w.heap.size < w1.heap.size:=(by have h:=x1.size; (try simp at h); omega); have zb1:w.heap.size + 1 < w1.heap.size:=(by have h:=x1.size; (try simp at h); omega); have zc1:w.heap.size + 2 < w1.heap.size:=(by have h:=x1.size; (try simp at h); omega))
    | (go_at_call 210
       have X1:Hid (Ext w (w1.alloc (.cells #[.bool (ty.base == 3),.int .i64 ty.bits] 193))):=by unfold Hid; exact exA
       refine (hstop_t m A0 len cap0 s B0 bn bc 4 _ (HM.out.ext X1.out)).mono ?_; rintro r w7 ⟨rfl,m2,g2⟩
       have M2:=Lib.hid m2
       have G2:=Lib.hid (grow_trans (own_grown X1.out _) g2)
       have c5:=(Blk.ext_off (BV.out.alloc _) exA g2 (by have:=HM.out.facts.1; omega)).cell 5
       simp only [List.getElem?_toArray,List.getElem?_cons_zero,List.getElem?_cons_succ] at c5
       clear m2 g2))
   go_ret
   exact hNum_no (by rw [HNQ.out]) (by decide) M2.out G2.out
end
section
variable (m:Nat) (A0:Option Addr) (len cap0:Nat) (ck:Bool) (s:Int) (B0:Option Addr) (bn bc:Nat) (d a b:Int) (ty:Ty) (nm:ByteArray) (A:Option Addr) (cap:Nat) (args:List Int) (v u:Val) (w:World)
theorem hnum_neg (h:HMem w m A0 len cap0 ck s 0 0 B0 bn bc) (h0:2 ≤ ty.base) (h1:1 ≤ ty.bits) (h2:ty.bits ≤ 31) :
  Calls Tryz.prog 211 #[.pointer (some ⟨m,0,none⟩),(Rg.mk 5 d a b ty nm A cap args).val,v.val,u.val] w fun e w'=>HNum w m A0 len cap0 ck s B0 bn bc (numF ck ⟨5,d,a,b,ty,nm,A,cap,args⟩ v u) e w':=by
 have HR:Hid (rowT ty):=.inr (.inr ⟨h0,h1,h2⟩)
 have HNQ:=Lib.hid (numF5 (ck:=ck) (x:=⟨5,d,a,b,ty,nm,A,cap,args⟩) (v:=v) (u:=u) rfl)
 obtain ⟨vt,vn,vnull,verr,vof⟩:=v
 obtain ⟨ut,un,unull,uerr,uof⟩:=u
 unfold Rg.val Val.val Val.cells
 simp only [] at HNQ ⊢
 have HM:=Lib.hid h
 clear h
 have hf:=wrapT_fit (n:=vn) h0 h1 h2
 obtain ⟨N,hN⟩:∃ N,wrapT ty vn=N:=⟨_,rfl⟩
 rw [hN] at HNQ hf
 have hin:=fit_in h1 h2 hf
 have i1:=hin.1
 have i2:=hin.2
 have hng:IntKind.i64.wrap (-N)=-N:=IntWalk.i64_in _ (by omega)
 have HF:=Lib.hid hf
 obtain ⟨M,hM⟩:∃ M,wrapT ty (-N)=M:=⟨_,rfl⟩
 rw [hM] at HNQ
 have HWV:Hid (∀ w,Calls Tryz.prog 209 #[.agg #[.int .i64 ty.base,.int .i64 ty.bits,.string ty.name,.bool ty.opt,.bool ty.err],.int .i64 vn] w fun e w'=>e=.returned (.int .i64 N)∧Ext w w'):=fun w=>by
  have h:=hwrapped_any ty vn w HR.out
  rwa [hN] at h
 have HWM:Hid (∀ w,Calls Tryz.prog 209 #[.agg #[.int .i64 ty.base,.int .i64 ty.bits,.string ty.name,.bool ty.opt,.bool ty.err],.int .i64 (-N)] w fun e w'=>e=.returned (.int .i64 M)∧Ext w w'):=fun w=>by
  have h:=hwrapped_any ty (-N) w HR.out
  rwa [hM] at h
 have HNG:=Lib.hid (fun w=>rNeg_any (ty.base == 3) ty.bits N w h1 h2 hf)
 clear hN hM hf hin
 go_enter Tryz.func211,Tryz.ntmps211
 go_wp2_with (first
  | (go_at_call 247; refine (hintOf_any ty _).mono ?_; rintro r w1 ⟨rfl,x1⟩; have y1:=x1.facts; have za1:w.heap.size < w1.heap.size:=(by have h:=x1.size; (try simp at h); omega); have zb1:w.heap.size + 1 < w1.heap.size:=(by have h:=x1.size; (try simp at h); omega); have zc1:w.heap.size + 2 < w1.heap.size:=(by have h:=x1.size; (try simp at h); omega)))
 have N2:Hid (NB w (w1.alloc (.cells #[.bool (ty.base == 3),.int .i64 ty.bits] 193)) #[.int .i64 5,.int .i64 d,.int .i64 a,.int .i64 b,.int .i64 ty.base,.int .i64 ty.bits,.string ty.name,.bool ty.opt,.bool ty.err,.string nm,.slice A args.length cap] #[.int .i64 vt.base,.int .i64 vt.bits,.string vt.name,.bool vt.opt,.bool vt.err,.int .i64 vn,.bool vnull,.string verr,.int .i64 vof.base,.int .i64 vof.bits,.string vof.name,.bool vof.opt,.bool vof.err] #[.int .i64 ut.base,.int .i64 ut.bits,.string ut.name,.bool ut.opt,.bool ut.err,.int .i64 un,.bool unull,.string uerr,.int .i64 uof.base,.int .i64 uof.bits,.string uof.name,.bool uof.opt,.bool uof.err] w1.heap.size #[.bool (ty.base == 3),.int .i64 ty.bits]):=NB.start x1
 generalize (w1.alloc (.cells #[.bool (ty.base == 3),.int .i64 ty.bits] 193))=w2 at N2 ⊢
 generalize w1.heap.size=tb at N2 ⊢
 clear y1 za1 zb1 zc1 x1
 have HD:Hid (∀ w',Ext w2 w' → w'.cell? ⟨w.heap.size,4,none⟩=some (.int .i64 ty.base)∧w'.cell? ⟨w.heap.size,5,none⟩=some (.int .i64 ty.bits)∧w'.cell? ⟨w.heap.size,6,none⟩=some (.string ty.name)∧w'.cell? ⟨w.heap.size,7,none⟩=some (.bool ty.opt)∧w'.cell? ⟨w.heap.size,8,none⟩=some (.bool ty.err)∧w'.cell? ⟨w.heap.size + 1,5,none⟩=some (.int .i64 vn)∧w'.cell? ⟨w.heap.size + 1 + 1,5,none⟩=some (.int .i64 un)∧w'.cell? ⟨tb,0,none⟩=some (.bool (ty.base == 3))∧w'.cell? ⟨tb,1,none⟩=some (.int .i64 ty.bits)):=fun w' x=>by
  have n:=NB.ext' N2.out x
  exact ⟨n.xx.cell 4,n.xx.cell 5,n.xx.cell 6,n.xx.cell 7,n.xx.cell 8,n.vv.cell 5,n.uu.cell 5,n.tt.cell 0,n.tt.cell 1⟩
 have HST:∀ (i:Nat) (l:Array Bool) (w':World),Ext w2 w' ↔ Ext w2 w':=fun _ _ _=>Iff.rfl
 have HC1:Hid (∀ (l:Array Bool) (w':World),Ext w2 w' → Calls Tryz.prog 209 #[.agg #[.int .i64 ty.base,.int .i64 ty.bits,.string ty.name,.bool ty.opt,.bool ty.err],.int .i64 vn] w' fun e w''=>e=.returned (.int .i64 N)∧Ext w2 w''):=fun l w' x=>(HWV.out w').mono fun e w'' h=>⟨h.1,x.trans h.2⟩
 cases hg:fitI (ty.base == 3) ty.bits (-N)
 ·have HE:=(show negI (ty.base == 3) ty.bits N=(0,1) by unfold negI; rw [hg]; rfl)
  rw [HE] at HNG
  rw [hg,if_neg (show ¬ false=true by decide)] at HNQ
  clear hg HE
  have HC2:Hid (∀ (l:Array Bool) (w':World),Ext w2 w' → Calls Tryz.prog 257 #[.agg #[.bool (ty.base == 3),.int .i64 ty.bits],.int .i64 N] w' fun e w''=>e=.returned (.tuple #[.int .i64 0,.int .i64 1,.int .i64 0])∧Ext w2 w''):=fun l w' x=>(HNG.out w').mono fun e w'' h=>⟨h.1,x.trans h.2⟩
  refine flow_begin (fun _ w'=>Ext w2 w') #[false,false,false,false,false,false,false,false,false,false,false,false,false,false] rfl (by kernel_rfl) (fun _ _ _ _ _ h=>h) ((Ext.refl _).drew) (fun HQ=>?_)
  (refine tt 0 25 rfl HQ (HST 0) ?_; try simp only [putL,List.set])
  (refine tt 1 26 rfl HQ (HST 1) ?_; try simp only [putL,List.set])
  (refine tt 2 27 rfl HQ (HST 2) ?_; try simp only [putL,List.set])
  (refine tt 3 28 rfl HQ (HST 3) ?_; try simp only [putL,List.set])
  (refine tt 4 29 rfl HQ (HST 4) ?_; try simp only [putL,List.set])
  (refine tc 5 30 rfl (by kernel_rfl) HQ (HST 5) (by rfl) (fun l w' hF=>?_) ((HC1.out)) ?_; (focus (have hq:=HD.out _ hF; go_simp; try simp only [enters_hwrapped _ _])); try simp only [putL,List.set])
  (refine tc 6 31 rfl (by kernel_rfl) HQ (HST 6) (by rfl) (fun l w' hF=>?_) ((HC2.out)) ?_; (focus (have hq:=HD.out _ hF; go_simp; try simp only [enters_rNeg _ _])); try simp only [putL,List.set])
  (refine tt 7 24 rfl HQ (HST 7) ?_; try simp only [putL,List.set])
  (refine tt 8 32 rfl HQ (HST 8) ?_; try simp only [putL,List.set])
  (refine tt 9 33 rfl HQ (HST 9) ?_; try simp only [putL,List.set])
  (refine tt 10 34 rfl HQ (HST 10) ?_; try simp only [putL,List.set])
  (refine tt 11 10 rfl HQ (HST 11) ?_; try simp only [putL,List.set])
  (refine tt 12 11 rfl HQ (HST 12) ?_; try simp only [putL,List.set])
  (refine tt 13 12 rfl HQ (HST 13) ?_; try simp only [putL,List.set])
  refine flow_done (by kernel_rfl) ?_
  intro w3 xw3
  have X3:=Lib.hid (N2.out.ext.trans xw3)
  cases ck
  ·rw [if_neg (show ¬ false=true by decide)] at HNQ
   have HD:Hid (∀ w',Ext w3 w' → w'.cell? ⟨w.heap.size,4,none⟩=some (.int .i64 ty.base)∧w'.cell? ⟨w.heap.size,5,none⟩=some (.int .i64 ty.bits)∧w'.cell? ⟨w.heap.size,6,none⟩=some (.string ty.name)∧w'.cell? ⟨w.heap.size,7,none⟩=some (.bool ty.opt)∧w'.cell? ⟨w.heap.size,8,none⟩=some (.bool ty.err)∧w'.cell? ⟨w.heap.size + 1,5,none⟩=some (.int .i64 vn)∧w'.cell? ⟨w.heap.size + 1 + 1,5,none⟩=some (.int .i64 un)∧w'.cell? ⟨tb,0,none⟩=some (.bool (ty.base == 3))∧w'.cell? ⟨tb,1,none⟩=some (.int .i64 ty.bits)):=fun w' x=>by
    have n:=NB.ext' (N2.out.ext' xw3) x
    exact ⟨n.xx.cell 4,n.xx.cell 5,n.xx.cell 6,n.xx.cell 7,n.xx.cell 8,n.vv.cell 5,n.uu.cell 5,n.tt.cell 0,n.tt.cell 1⟩
   go_wp2_with (first
    | (go_at_call 210; refine (hstop_f m A0 len cap0 s B0 bn bc 1 _ (HM.out.ext X3.out)).mono ?_; rintro r w' ⟨rfl,rfl⟩))
   clear HST HC1 HC2 HQ
   have HST:∀ (i:Nat) (l:Array Bool) (w':World),Ext w3 w' ↔ Ext w3 w':=fun _ _ _=>Iff.rfl
   have HC1:Hid (∀ (l:Array Bool) (w':World),Ext w3 w' → Calls Tryz.prog 209 #[.agg #[.int .i64 ty.base,.int .i64 ty.bits,.string ty.name,.bool ty.opt,.bool ty.err],.int .i64 vn] w' fun e w''=>e=.returned (.int .i64 N)∧Ext w3 w''):=fun l w' x=>(HWV.out w').mono fun e w'' h=>⟨h.1,x.trans h.2⟩
   have HC2:Hid (∀ (l:Array Bool) (w':World),Ext w3 w' → Calls Tryz.prog 209 #[.agg #[.int .i64 ty.base,.int .i64 ty.bits,.string ty.name,.bool ty.opt,.bool ty.err],.int .i64 (-N)] w' fun e w''=>e=.returned (.int .i64 M)∧Ext w3 w''):=fun l w' x=>(HWM.out w').mono fun e w'' h=>⟨h.1,x.trans h.2⟩
   refine flow_begin (fun _ w'=>Ext w3 w') #[false,false,false,false,false,false,false,false,false,false] rfl (by kernel_rfl) (fun _ _ _ _ _ h=>h) ((Ext.refl _).drew) (fun HQ=>?_)
   (refine tt 0 43 rfl HQ (HST 0) ?_; try simp only [putL,List.set])
   (refine tt 1 44 rfl HQ (HST 1) ?_; try simp only [putL,List.set])
   (refine tt 2 45 rfl HQ (HST 2) ?_; try simp only [putL,List.set])
   (refine tt 3 46 rfl HQ (HST 3) ?_; try simp only [putL,List.set])
   (refine tt 4 47 rfl HQ (HST 4) ?_; try simp only [putL,List.set])
   (refine tt 5 48 rfl HQ (HST 5) ?_; try simp only [putL,List.set])
   (refine tc 6 49 rfl (by kernel_rfl) HQ (HST 6) (by rfl) (fun l w' hF=>?_) ((HC1.out)) ?_; (focus (have hq:=HD.out _ hF; go_simp; try simp only [enters_hwrapped _ _])); try simp only [putL,List.set])
   (refine tt 7 50 rfl HQ (HST 7) ?_; try simp only [putL,List.set])
   (refine tc 8 51 rfl (by kernel_rfl) HQ (HST 8) (by rfl) (fun l w' hF=>?_) ((HC2.out)) ?_; (focus (have hq:=HD.out _ hF; go_simp; try simp only [enters_hwrapped _ _])); try simp only [putL,List.set])
   (refine tt 9 8 rfl HQ (HST 9) ?_; try simp only [putL,List.set])
   refine flow_done (by kernel_rfl) ?_
   intro w4 xw4
   go_wp2_with fail
   go_ret
   exact hNum_ok HNQ.out (HM.out.ext (X3.out.trans xw4)) (own_grown (X3.out.trans xw4) _)
  ·rw [if_pos rfl] at HNQ
   go_wp2_with (first
    | (go_at_call 210
       refine (hstop_t m A0 len cap0 s B0 bn bc 1 _ (HM.out.ext X3.out)).mono ?_; rintro r w7 ⟨rfl,m2,g2⟩
       have M2:=Lib.hid m2
       have G2:=Lib.hid (grow_trans (own_grown X3.out _) g2)
       clear m2 g2))
   go_ret
   exact hNum_no (by rw [HNQ.out]) (by decide) M2.out G2.out
 ·have HE:=(show negI (ty.base == 3) ty.bits N=(-N,0) by unfold negI; rw [hg]; rfl)
  rw [HE] at HNG
  rw [hg,if_pos rfl] at HNQ
  clear hg HE
  have HC2:Hid (∀ (l:Array Bool) (w':World),Ext w2 w' → Calls Tryz.prog 257 #[.agg #[.bool (ty.base == 3),.int .i64 ty.bits],.int .i64 N] w' fun e w''=>e=.returned (.tuple #[.int .i64 (-N),.int .i64 0,.int .i64 0])∧Ext w2 w''):=fun l w' x=>(HNG.out w').mono fun e w'' h=>⟨h.1,x.trans h.2⟩
  refine flow_begin (fun _ w'=>Ext w2 w') #[false,false,false,false,false,false,false,false,false,false,false,false,false,false] rfl (by kernel_rfl) (fun _ _ _ _ _ h=>h) ((Ext.refl _).drew) (fun HQ=>?_)
  (refine tt 0 25 rfl HQ (HST 0) ?_; try simp only [putL,List.set])
  (refine tt 1 26 rfl HQ (HST 1) ?_; try simp only [putL,List.set])
  (refine tt 2 27 rfl HQ (HST 2) ?_; try simp only [putL,List.set])
  (refine tt 3 28 rfl HQ (HST 3) ?_; try simp only [putL,List.set])
  (refine tt 4 29 rfl HQ (HST 4) ?_; try simp only [putL,List.set])
  (refine tc 5 30 rfl (by kernel_rfl) HQ (HST 5) (by rfl) (fun l w' hF=>?_) ((HC1.out)) ?_; (focus (have hq:=HD.out _ hF; go_simp; try simp only [enters_hwrapped _ _])); try simp only [putL,List.set])
  (refine tc 6 31 rfl (by kernel_rfl) HQ (HST 6) (by rfl) (fun l w' hF=>?_) ((HC2.out)) ?_; (focus (have hq:=HD.out _ hF; go_simp; try simp only [enters_rNeg _ _])); try simp only [putL,List.set])
  (refine tt 7 24 rfl HQ (HST 7) ?_; try simp only [putL,List.set])
  (refine tt 8 32 rfl HQ (HST 8) ?_; try simp only [putL,List.set])
  (refine tt 9 33 rfl HQ (HST 9) ?_; try simp only [putL,List.set])
  (refine tt 10 34 rfl HQ (HST 10) ?_; try simp only [putL,List.set])
  (refine tt 11 10 rfl HQ (HST 11) ?_; try simp only [putL,List.set])
  (refine tt 12 11 rfl HQ (HST 12) ?_; try simp only [putL,List.set])
  (refine tt 13 12 rfl HQ (HST 13) ?_; try simp only [putL,List.set])
  refine flow_done (by kernel_rfl) ?_
  intro w3 xw3
  go_wp2_with fail
  go_ret
  exact hNum_ok HNQ.out (HM.out.ext (N2.out.ext.trans xw3)) (own_grown (N2.out.ext.trans xw3) _)
end
section
variable (m:Nat) (A0:Option Addr) (len cap0:Nat) (ck:Bool) (s:Int) (B0:Option Addr) (bn bc:Nat) (d a b:Int) (ty:Ty) (nm:ByteArray) (A:Option Addr) (cap:Nat) (args:List Int) (v u:Val) (w:World)
theorem hnum_cast (h:HMem w m A0 len cap0 ck s 0 0 B0 bn bc) (h0:2 ≤ ty.base) (h1:1 ≤ ty.bits) (h2:ty.bits ≤ 31) :
  Calls Tryz.prog 211 #[.pointer (some ⟨m,0,none⟩),(Rg.mk 7 d a b ty nm A cap args).val,v.val,u.val] w fun e w'=>HNum w m A0 len cap0 ck s B0 bn bc (numF ck ⟨7,d,a,b,ty,nm,A,cap,args⟩ v u) e w':=by
 have HR:Hid (rowT ty):=.inr (.inr ⟨h0,h1,h2⟩)
 have HNQ:=Lib.hid (numF7 (ck:=ck) (x:=⟨7,d,a,b,ty,nm,A,cap,args⟩) (v:=v) (u:=u) rfl)
 obtain ⟨vt,vn,vnull,verr,vof⟩:=v
 obtain ⟨ut,un,unull,uerr,uof⟩:=u
 unfold Rg.val Val.val Val.cells
 simp only [] at HNQ ⊢
 have HM:=Lib.hid h
 clear h
 have hne:(fitI (ty.base == 3) ty.bits vn)=!(wrapT ty vn != vn):=by
  cases hg:fitI (ty.base == 3) ty.bits vn
  ·rw [eq_comm,Bool.not_eq_false',bne_iff_ne]
   intro e
   have:=wrapT_fit (n:=vn) h0 h1 h2
   rw [e,hg] at this
   cases this
  ·rw [wrapT_same h0 h1 h2 hg]; simp
 rw [hne] at HNQ
 clear hne
 obtain ⟨N,hN⟩:∃ N,wrapT ty vn=N:=⟨_,rfl⟩
 rw [hN] at HNQ
 have HWV:Hid (∀ w,Calls Tryz.prog 209 #[.agg #[.int .i64 ty.base,.int .i64 ty.bits,.string ty.name,.bool ty.opt,.bool ty.err],.int .i64 vn] w fun e w'=>e=.returned (.int .i64 N)∧Ext w w'):=fun w=>by
  have h:=hwrapped_any ty vn w HR.out
  rwa [hN] at h
 clear hN
 go_enter Tryz.func211,Tryz.ntmps211
 go_wp2_with (first
  | (go_at_call 247; refine (hintOf_any ty _).mono ?_; rintro r w1 ⟨rfl,x1⟩; have y1:=x1.facts; have za1:w.heap.size < w1.heap.size:=(by have h:=x1.size; (try simp at h); omega); have zb1:w.heap.size + 1 < w1.heap.size:=(by have h:=x1.size; (try simp at h); omega); have zc1:w.heap.size + 2 < w1.heap.size:=(by have h:=x1.size; (try simp at h); omega)))
 have N2:Hid (NB w (w1.alloc (.cells #[.bool (ty.base == 3),.int .i64 ty.bits] 193)) #[.int .i64 7,.int .i64 d,.int .i64 a,.int .i64 b,.int .i64 ty.base,.int .i64 ty.bits,.string ty.name,.bool ty.opt,.bool ty.err,.string nm,.slice A args.length cap] #[.int .i64 vt.base,.int .i64 vt.bits,.string vt.name,.bool vt.opt,.bool vt.err,.int .i64 vn,.bool vnull,.string verr,.int .i64 vof.base,.int .i64 vof.bits,.string vof.name,.bool vof.opt,.bool vof.err] #[.int .i64 ut.base,.int .i64 ut.bits,.string ut.name,.bool ut.opt,.bool ut.err,.int .i64 un,.bool unull,.string uerr,.int .i64 uof.base,.int .i64 uof.bits,.string uof.name,.bool uof.opt,.bool uof.err] w1.heap.size #[.bool (ty.base == 3),.int .i64 ty.bits]):=NB.start x1
 generalize (w1.alloc (.cells #[.bool (ty.base == 3),.int .i64 ty.bits] 193))=w2 at N2 ⊢
 generalize w1.heap.size=tb at N2 ⊢
 clear y1 za1 zb1 zc1 x1
 have HD:Hid (∀ w',Ext w2 w' → w'.cell? ⟨w.heap.size,4,none⟩=some (.int .i64 ty.base)∧w'.cell? ⟨w.heap.size,5,none⟩=some (.int .i64 ty.bits)∧w'.cell? ⟨w.heap.size,6,none⟩=some (.string ty.name)∧w'.cell? ⟨w.heap.size,7,none⟩=some (.bool ty.opt)∧w'.cell? ⟨w.heap.size,8,none⟩=some (.bool ty.err)∧w'.cell? ⟨w.heap.size + 1,5,none⟩=some (.int .i64 vn)∧w'.cell? ⟨w.heap.size + 1 + 1,5,none⟩=some (.int .i64 un)∧w'.cell? ⟨tb,0,none⟩=some (.bool (ty.base == 3))∧w'.cell? ⟨tb,1,none⟩=some (.int .i64 ty.bits)):=fun w' x=>by
  have n:=NB.ext' N2.out x
  exact ⟨n.xx.cell 4,n.xx.cell 5,n.xx.cell 6,n.xx.cell 7,n.xx.cell 8,n.vv.cell 5,n.uu.cell 5,n.tt.cell 0,n.tt.cell 1⟩
 have HST:∀ (i:Nat) (l:Array Bool) (w':World),Ext w2 w' ↔ Ext w2 w':=fun _ _ _=>Iff.rfl
 have HC1:Hid (∀ (l:Array Bool) (w':World),Ext w2 w' → Calls Tryz.prog 209 #[.agg #[.int .i64 ty.base,.int .i64 ty.bits,.string ty.name,.bool ty.opt,.bool ty.err],.int .i64 vn] w' fun e w''=>e=.returned (.int .i64 N)∧Ext w2 w''):=fun l w' x=>(HWV.out w').mono fun e w'' h=>⟨h.1,x.trans h.2⟩
 refine flow_begin (fun _ w'=>Ext w2 w') #[false,false,false,false,false,false,false,false] rfl (by kernel_rfl) (fun _ _ _ _ _ h=>h) ((Ext.refl _).drew) (fun HQ=>?_)
 (refine tt 0 61 rfl HQ (HST 0) ?_; try simp only [putL,List.set])
 (refine tt 1 62 rfl HQ (HST 1) ?_; try simp only [putL,List.set])
 (refine tt 2 63 rfl HQ (HST 2) ?_; try simp only [putL,List.set])
 (refine tt 3 64 rfl HQ (HST 3) ?_; try simp only [putL,List.set])
 (refine tc 4 65 rfl (by kernel_rfl) HQ (HST 4) (by rfl) (fun l w' hF=>?_) ((HC1.out)) ?_; (focus (have hq:=HD.out _ hF; go_simp; try simp only [enters_hwrapped _ _])); try simp only [putL,List.set])
 (refine tt 5 66 rfl HQ (HST 5) ?_; try simp only [putL,List.set])
 (refine tt 6 67 rfl HQ (HST 6) ?_; try simp only [putL,List.set])
 (refine tt 7 68 rfl HQ (HST 7) ?_; try simp only [putL,List.set])
 refine flow_done (by kernel_rfl) ?_
 intro w3 xw3
 have X3:=Lib.hid (N2.out.ext.trans xw3)
 have N3:=Lib.hid (N2.out.ext' xw3)
 clear HD HST HC1 HQ
 cases hne:(N != vn)
 ·rw [hne] at HNQ
  simp only [Bool.not_false,Bool.not_true,Bool.and_false,if_neg (show ¬ false=true by decide)] at HNQ
  have HD:Hid (∀ w',Ext w3 w' → w'.cell? ⟨w.heap.size,4,none⟩=some (.int .i64 ty.base)∧w'.cell? ⟨w.heap.size,5,none⟩=some (.int .i64 ty.bits)∧w'.cell? ⟨w.heap.size,6,none⟩=some (.string ty.name)∧w'.cell? ⟨w.heap.size,7,none⟩=some (.bool ty.opt)∧w'.cell? ⟨w.heap.size,8,none⟩=some (.bool ty.err)∧w'.cell? ⟨w.heap.size + 1,5,none⟩=some (.int .i64 vn)∧w'.cell? ⟨w.heap.size + 1 + 1,5,none⟩=some (.int .i64 un)∧w'.cell? ⟨tb,0,none⟩=some (.bool (ty.base == 3))∧w'.cell? ⟨tb,1,none⟩=some (.int .i64 ty.bits)):=fun w' x=>by
   have n:=NB.ext' N3.out x
   exact ⟨n.xx.cell 4,n.xx.cell 5,n.xx.cell 6,n.xx.cell 7,n.xx.cell 8,n.vv.cell 5,n.uu.cell 5,n.tt.cell 0,n.tt.cell 1⟩
  have hd:=HD.out w3 (Ext.refl _)
  obtain ⟨c4,c5,c6,c7,c8,cv,cu,ct0,ct1⟩:=hd
  have zz:=N3.out.xx.lt
  have zv:=N3.out.vv.lt
  go_wp2_with (first
   | (go_at_call 209; (with_reducible refine (HWV.out _).mono ?_); rintro r w4 ⟨rfl,x4⟩))
  go_ret
  exact hNum_ok HNQ.out (HM.out.ext (X3.out.trans x4)) (own_grown (X3.out.trans x4) _)
 ·rw [hne] at HNQ
  cases ck
  ·simp only [Bool.false_and,if_neg (show ¬ false=true by decide)] at HNQ
   have HD:Hid (∀ w',Ext w3 w' → w'.cell? ⟨w.heap.size,4,none⟩=some (.int .i64 ty.base)∧w'.cell? ⟨w.heap.size,5,none⟩=some (.int .i64 ty.bits)∧w'.cell? ⟨w.heap.size,6,none⟩=some (.string ty.name)∧w'.cell? ⟨w.heap.size,7,none⟩=some (.bool ty.opt)∧w'.cell? ⟨w.heap.size,8,none⟩=some (.bool ty.err)∧w'.cell? ⟨w.heap.size + 1,5,none⟩=some (.int .i64 vn)∧w'.cell? ⟨w.heap.size + 1 + 1,5,none⟩=some (.int .i64 un)∧w'.cell? ⟨tb,0,none⟩=some (.bool (ty.base == 3))∧w'.cell? ⟨tb,1,none⟩=some (.int .i64 ty.bits)):=fun w' x=>by
    have n:=NB.ext' N3.out x
    exact ⟨n.xx.cell 4,n.xx.cell 5,n.xx.cell 6,n.xx.cell 7,n.xx.cell 8,n.vv.cell 5,n.uu.cell 5,n.tt.cell 0,n.tt.cell 1⟩
   have hd:=HD.out w3 (Ext.refl _)
   obtain ⟨c4,c5,c6,c7,c8,cv,cu,ct0,ct1⟩:=hd
   have zz:=N3.out.xx.lt
   have zv:=N3.out.vv.lt
   go_wp2_with (first
    | (go_at_call 209; (with_reducible refine (HWV.out _).mono ?_); rintro r w4 ⟨rfl,x4⟩)
    | (go_at_call 210; refine (hstop_f m A0 len cap0 s B0 bn bc 3 _ (HM.out.ext X3.out)).mono ?_; rintro r w' ⟨rfl,rfl⟩))
   go_ret
   exact hNum_ok HNQ.out (HM.out.ext (X3.out.trans x4)) (own_grown (X3.out.trans x4) _)
  ·simp only [Bool.not_true,Bool.not_false,Bool.and_self,if_true] at HNQ
   go_wp2_with (first
    | (go_at_call 210
       refine (hstop_t m A0 len cap0 s B0 bn bc 3 _ (HM.out.ext X3.out)).mono ?_; rintro r w7 ⟨rfl,m2,g2⟩
       have M2:=Lib.hid m2
       have N7:=Lib.hid (NB.off N3.out g2 (by have:=HM.out.facts.1; omega))
       have G2:=Lib.hid (grow_trans (own_grown X3.out _) g2)
       clear m2 g2
       have c4:=N7.out.1.cell 4
       have c5:=N7.out.1.cell 5
       have c6:=N7.out.1.cell 6
       have c7:=N7.out.1.cell 7
       have c8:=N7.out.1.cell 8
       have cv:=N7.out.2.cell 5
       simp only [List.getElem?_toArray,List.getElem?_cons_zero,List.getElem?_cons_succ] at c4 c5 c6 c7 c8 cv)
    | (go_at_call 209; (with_reducible refine (HWV.out _).mono ?_); rintro r w4 ⟨rfl,x4⟩))
   go_ret
   exact hNum_no (by rw [HNQ.out]) (by decide) (M2.out.ext x4) (grow_trans G2.out (own_grown x4 _))
end
section
variable (m:Nat) (A0:Option Addr) (len cap0:Nat) (ck:Bool) (s:Int) (B0:Option Addr) (bn bc:Nat) (op d a b:Int) (ty:Ty) (nm:ByteArray) (A:Option Addr) (cap:Nat) (args:List Int) (v u:Val) (w:World)
theorem op_facts {op:Int} (h:105 ≤ op) (h2:op ≤ 123):IntKind.i64.wrap (op - 100)=op - 100∧(op == 5)=false∧(op == 6)=false∧(op == 7)=false∧(op == 8)=false∧(op == 9)=false :=
 ⟨IntWalk.i64_in _ (by omega),by rw [beq_eq_false_iff_ne]; omega,by rw [beq_eq_false_iff_ne]; omega,by rw [beq_eq_false_iff_ne]; omega,by rw [beq_eq_false_iff_ne]; omega,by rw [beq_eq_false_iff_ne]; omega⟩
theorem hnum_cmp (h:HMem w m A0 len cap0 ck s 0 0 B0 bn bc) (h3:118 ≤ op) (h4:op ≤ 123) :
  Calls Tryz.prog 211 #[.pointer (some ⟨m,0,none⟩),(Rg.mk op d a b ty nm A cap args).val,v.val,u.val] w fun e w'=>HNum w m A0 len cap0 ck s B0 bn bc (numF ck ⟨op,d,a,b,ty,nm,A,cap,args⟩ v u) e w':=by
 have HNQ:=Lib.hid (numFc (ck:=ck) (x:=⟨op,d,a,b,ty,nm,A,cap,args⟩) (v:=v) (u:=u) h3)
 obtain ⟨vt,vn,vnull,verr,vof⟩:=v
 obtain ⟨ut,un,unull,uerr,uof⟩:=u
 unfold Rg.val Val.val Val.cells
 simp only [] at HNQ ⊢
 obtain ⟨e1,n5,n6,n7,n8,n9⟩:=op_facts (op:=op) (by omega) h4
 have n1:18 ≤ op - 100:=by omega
 have HM:=Lib.hid h
 clear h
 go_enter Tryz.func211,Tryz.ntmps211
 go_wp2_with (first
  | (go_at_call 247; refine (hintOf_any ty _).mono ?_; rintro r w1 ⟨rfl,x1⟩; have y1:=x1.facts; have z1:=x1.size; have za1:w.heap.size < w1.heap.size:=(by have h:=x1.size; (try simp at h); omega); have zb1:w.heap.size + 1 < w1.heap.size:=(by have h:=x1.size; (try simp at h); omega); have zc1:w.heap.size + 2 < w1.heap.size:=(by have h:=x1.size; (try simp at h); omega))
  | (go_at_call 258; refine (holds_any _ _ _ _).mono ?_; rintro r w' ⟨rfl,rfl⟩)
  | (go_at_call 114; refine (hone_any _ _).mono ?_; rintro r w' ⟨rfl,rfl⟩))
 go_ret
 exact hNum_ok HNQ.out (HM.out.ext exA) (own_grown exA _)
theorem hnum_op (h:HMem w m A0 len cap0 ck s 0 0 B0 bn bc) (h3:105 ≤ op) (h4:op ≤ 117) (h0:2 ≤ ty.base) (h1:1 ≤ ty.bits) (h2:ty.bits ≤ 31) :
  Calls Tryz.prog 211 #[.pointer (some ⟨m,0,none⟩),(Rg.mk op d a b ty nm A cap args).val,v.val,u.val] w fun e w'=>HNum w m A0 len cap0 ck s B0 bn bc (numF ck ⟨op,d,a,b,ty,nm,A,cap,args⟩ v u) e w':=by
 have HNQ:=Lib.hid (numFo (ck:=ck) (x:=⟨op,d,a,b,ty,nm,A,cap,args⟩) (v:=v) (u:=u) h3 h4)
 obtain ⟨vt,vn,vnull,verr,vof⟩:=v
 obtain ⟨ut,un,unull,uerr,uof⟩:=u
 unfold Rg.val Val.val Val.cells
 simp only [] at HNQ ⊢
 have HM:=Lib.hid h
 clear h
 obtain ⟨e1,n5,n6,n7,n8,n9⟩:=op_facts (op:=op) h3 (by omega)
 have n1:¬ 18 ≤ op - 100:=by omega
 have HR:Hid (rowT ty):=.inr (.inr ⟨h0,h1,h2⟩)
 have hf:=wrapT_fit (n:=vn) h0 h1 h2
 have hg:=wrapT_fit (n:=un) h0 h1 h2
 obtain ⟨N,hN⟩:∃ N,wrapT ty vn=N:=⟨_,rfl⟩
 obtain ⟨M,hM⟩:∃ M,wrapT ty un=M:=⟨_,rfl⟩
 rw [hN,hM] at HNQ
 rw [hN] at hf
 rw [hM] at hg
 obtain ⟨y,hy⟩:∃ y,whyI (op - 100) (ty.base == 3) ty.bits N M=y:=⟨_,rfl⟩
 obtain ⟨q,hq⟩:∃ q,looseI (op - 100) (ty.base == 3) ty.bits N M=q:=⟨_,rfl⟩
 obtain ⟨q0,hq0⟩:∃ q0,q0=resI (op - 100) (ty.base == 3) ty.bits N M:=⟨_,rfl⟩
 have HQ0:Hid (y=0 → q0=q):=by intro e; rw [hq0]; unfold resI; rw [hy,if_pos e,hq]
 have HDo:Hid (∀ w,Calls Tryz.prog 259 #[.int .i64 (op - 100),.agg #[.bool (ty.base == 3),.int .i64 ty.bits],.int .i64 N,.int .i64 M] w fun e w'=>e=.returned (.tuple #[.int .i64 q0,.int .i64 y,.int .i64 0])∧Ext w w'):=fun w=>by
  have h:=rDo_any (op - 100) (ty.base == 3) ty.bits N M w h1 h2 (by omega) (by omega) hf hg
  rwa [hy,← hq0] at h
 have HLo:Hid (∀ w,Calls Tryz.prog 260 #[.int .i64 (op - 100),.agg #[.bool (ty.base == 3),.int .i64 ty.bits],.int .i64 N,.int .i64 M] w fun e w'=>e=.returned (.tuple #[.int .i64 q,.int .i64 0])∧Ext w w'):=fun w=>by
  have h:=rLoose_any (op - 100) (ty.base == 3) ty.bits N M w h1 h2 (by omega) (by omega) hf hg
  rwa [hq] at h
 rw [hy,hq] at HNQ
 have HWV:Hid (∀ w,Calls Tryz.prog 209 #[.agg #[.int .i64 ty.base,.int .i64 ty.bits,.string ty.name,.bool ty.opt,.bool ty.err],.int .i64 vn] w fun e w'=>e=.returned (.int .i64 N)∧Ext w w'):=fun w=>by
  have h:=hwrapped_any ty vn w HR.out
  rwa [hN] at h
 have HWU:Hid (∀ w,Calls Tryz.prog 209 #[.agg #[.int .i64 ty.base,.int .i64 ty.bits,.string ty.name,.bool ty.opt,.bool ty.err],.int .i64 un] w fun e w'=>e=.returned (.int .i64 M)∧Ext w w'):=fun w=>by
  have h:=hwrapped_any ty un w HR.out
  rwa [hM] at h
 clear hN hM hf hg hy hq hq0
 have BX:=Lib.hid ((((Blk.new w 67 #[.int .i64 op,.int .i64 d,.int .i64 a,.int .i64 b,.int .i64 ty.base,.int .i64 ty.bits,.string ty.name,.bool ty.opt,.bool ty.err,.string nm,.slice A args.length cap]).alloc (.cells #[.int .i64 vt.base,.int .i64 vt.bits,.string vt.name,.bool vt.opt,.bool vt.err,.int .i64 vn,.bool vnull,.string verr,.int .i64 vof.base,.int .i64 vof.bits,.string vof.name,.bool vof.opt,.bool vof.err] 37)).alloc (.cells #[.int .i64 ut.base,.int .i64 ut.bits,.string ut.name,.bool ut.opt,.bool ut.err,.int .i64 un,.bool unull,.string uerr,.int .i64 uof.base,.int .i64 uof.bits,.string uof.name,.bool uof.opt,.bool uof.err] 37)))
 go_enter Tryz.func211,Tryz.ntmps211
 go_wp2_with (first
  | (go_at_call 247; refine (hintOf_any ty _).mono ?_; rintro r w1 ⟨rfl,x1⟩; have y1:=x1.facts; have za1:w.heap.size < w1.heap.size:=(by have h:=x1.size; (try simp at h); omega); have zb1:w.heap.size + 1 < w1.heap.size:=(by have h:=x1.size; (try simp at h); omega); have zc1:w.heap.size + 2 < w1.heap.size:=(by have h:=x1.size; (try simp at h); omega)))
 have N2:Hid (NB w (w1.alloc (.cells #[.bool (ty.base == 3),.int .i64 ty.bits] 193)) #[.int .i64 op,.int .i64 d,.int .i64 a,.int .i64 b,.int .i64 ty.base,.int .i64 ty.bits,.string ty.name,.bool ty.opt,.bool ty.err,.string nm,.slice A args.length cap] #[.int .i64 vt.base,.int .i64 vt.bits,.string vt.name,.bool vt.opt,.bool vt.err,.int .i64 vn,.bool vnull,.string verr,.int .i64 vof.base,.int .i64 vof.bits,.string vof.name,.bool vof.opt,.bool vof.err] #[.int .i64 ut.base,.int .i64 ut.bits,.string ut.name,.bool ut.opt,.bool ut.err,.int .i64 un,.bool unull,.string uerr,.int .i64 uof.base,.int .i64 uof.bits,.string uof.name,.bool uof.opt,.bool uof.err] w1.heap.size #[.bool (ty.base == 3),.int .i64 ty.bits]):=NB.start x1
 generalize (w1.alloc (.cells #[.bool (ty.base == 3),.int .i64 ty.bits] 193))=w2 at N2 ⊢
 generalize w1.heap.size=tb at N2 ⊢
 clear y1 za1 zb1 zc1 x1
 have HD:Hid (∀ w',Ext w2 w' → w'.cell? ⟨w.heap.size,4,none⟩=some (.int .i64 ty.base)∧w'.cell? ⟨w.heap.size,5,none⟩=some (.int .i64 ty.bits)∧w'.cell? ⟨w.heap.size,6,none⟩=some (.string ty.name)∧w'.cell? ⟨w.heap.size,7,none⟩=some (.bool ty.opt)∧w'.cell? ⟨w.heap.size,8,none⟩=some (.bool ty.err)∧w'.cell? ⟨w.heap.size + 1,5,none⟩=some (.int .i64 vn)∧w'.cell? ⟨w.heap.size + 1 + 1,5,none⟩=some (.int .i64 un)∧w'.cell? ⟨tb,0,none⟩=some (.bool (ty.base == 3))∧w'.cell? ⟨tb,1,none⟩=some (.int .i64 ty.bits)):=fun w' x=>by
  have n:=NB.ext' N2.out x
  exact ⟨n.xx.cell 4,n.xx.cell 5,n.xx.cell 6,n.xx.cell 7,n.xx.cell 8,n.vv.cell 5,n.uu.cell 5,n.tt.cell 0,n.tt.cell 1⟩
 have HST:∀ (i:Nat) (l:Array Bool) (w':World),Ext w2 w' ↔ Ext w2 w':=fun _ _ _=>Iff.rfl
 have HC1:Hid (∀ (l:Array Bool) (w':World),Ext w2 w' → Calls Tryz.prog 209 #[.agg #[.int .i64 ty.base,.int .i64 ty.bits,.string ty.name,.bool ty.opt,.bool ty.err],.int .i64 vn] w' fun e w''=>e=.returned (.int .i64 N)∧Ext w2 w''):=fun l w' x=>(HWV.out w').mono fun e w'' h=>⟨h.1,x.trans h.2⟩
 have HC2:Hid (∀ (l:Array Bool) (w':World),Ext w2 w' → Calls Tryz.prog 209 #[.agg #[.int .i64 ty.base,.int .i64 ty.bits,.string ty.name,.bool ty.opt,.bool ty.err],.int .i64 un] w' fun e w''=>e=.returned (.int .i64 M)∧Ext w2 w''):=fun l w' x=>(HWU.out w').mono fun e w'' h=>⟨h.1,x.trans h.2⟩
 have HC3:Hid (∀ (l:Array Bool) (w':World),Ext w2 w' → Calls Tryz.prog 259 #[.int .i64 (op - 100),.agg #[.bool (ty.base == 3),.int .i64 ty.bits],.int .i64 N,.int .i64 M] w' fun e w''=>e=.returned (.tuple #[.int .i64 q0,.int .i64 y,.int .i64 0])∧Ext w2 w''):=fun l w' x=>(HDo.out w').mono fun e w'' h=>⟨h.1,x.trans h.2⟩
 refine flow_begin (fun _ w'=>Ext w2 w') #[false,false,false,false,false,false,false,false,false,false,false,false,false,false,false,false,false,false,false,false] rfl (by kernel_rfl) (fun _ _ _ _ _ h=>h) ((Ext.refl _).drew) (fun HQ=>?_)
 (refine tt 0 104 rfl HQ (HST 0) ?_; try simp only [putL,List.set])
 (refine tt 1 105 rfl HQ (HST 1) ?_; try simp only [putL,List.set])
 (refine tt 2 106 rfl HQ (HST 2) ?_; try simp only [putL,List.set])
 (refine tt 3 107 rfl HQ (HST 3) ?_; try simp only [putL,List.set])
 (refine tt 4 108 rfl HQ (HST 4) ?_; try simp only [putL,List.set])
 (refine tt 5 109 rfl HQ (HST 5) ?_; try simp only [putL,List.set])
 (refine tc 6 110 rfl (by kernel_rfl) HQ (HST 6) (by rfl) (fun l w' hF=>?_) ((HC1.out)) ?_; (focus (have hq:=HD.out _ hF; go_simp; try simp only [enters_hwrapped _ _])); try simp only [putL,List.set])
 (refine tt 7 111 rfl HQ (HST 7) ?_; try simp only [putL,List.set])
 (refine tt 8 112 rfl HQ (HST 8) ?_; try simp only [putL,List.set])
 (refine tt 9 113 rfl HQ (HST 9) ?_; try simp only [putL,List.set])
 (refine tt 10 114 rfl HQ (HST 10) ?_; try simp only [putL,List.set])
 (refine tc 11 115 rfl (by kernel_rfl) HQ (HST 11) (by rfl) (fun l w' hF=>?_) ((HC2.out)) ?_; (focus (have hq:=HD.out _ hF; go_simp; try simp only [enters_hwrapped _ _])); try simp only [putL,List.set])
 (refine tc 12 116 rfl (by kernel_rfl) HQ (HST 12) (by rfl) (fun l w' hF=>?_) ((HC3.out)) ?_; (focus (have hq:=HD.out _ hF; go_simp; try simp only [enters_rDo _ _])); try simp only [putL,List.set])
 (refine tt 13 103 rfl HQ (HST 13) ?_; try simp only [putL,List.set])
 (refine tt 14 117 rfl HQ (HST 14) ?_; try simp only [putL,List.set])
 (refine tt 15 118 rfl HQ (HST 15) ?_; try simp only [putL,List.set])
 (refine tt 16 119 rfl HQ (HST 16) ?_; try simp only [putL,List.set])
 (refine tt 17 14 rfl HQ (HST 17) ?_; try simp only [putL,List.set])
 (refine tt 18 15 rfl HQ (HST 18) ?_; try simp only [putL,List.set])
 (refine tt 19 16 rfl HQ (HST 19) ?_; try simp only [putL,List.set])
 refine flow_done (by kernel_rfl) ?_
 intro w3 xw3
 have X3:=Lib.hid (N2.out.ext.trans xw3)
 have N3:=Lib.hid (N2.out.ext' xw3)
 clear HD HST HC1 HC2 HC3 HQ
 by_cases hy0:y=0
 ·have HQ1:Hid (numF ck ⟨op,d,a,b,ty,nm,A,cap,args⟩ ⟨vt,vn,vnull,verr,vof⟩ ⟨ut,un,unull,uerr,uof⟩=(q0,0)):=by
   unfold Hid
   rw [HNQ.out,hy0,if_neg (by simp),HQ0.out hy0]
  subst hy0
  go_wp2_with fail
  go_ret
  exact hNum_ok HQ1.out (HM.out.ext X3.out) (own_grown X3.out _)
 ·have yb:(y != 0)=true:=by simpa using hy0
  cases ck
  ·have HQ1:Hid (numF false ⟨op,d,a,b,ty,nm,A,cap,args⟩ ⟨vt,vn,vnull,verr,vof⟩ ⟨ut,un,unull,uerr,uof⟩=(q,0)):=by
    unfold Hid
    rw [HNQ.out,Bool.false_and,if_neg (by decide)]
   go_wp2_with (first
    | (go_at_call 210; refine (hstop_f m A0 len cap0 s B0 bn bc y _ (HM.out.ext X3.out)).mono ?_; rintro r w' ⟨rfl,rfl⟩))
   have HD:Hid (∀ w',Ext w3 w' → w'.cell? ⟨w.heap.size,4,none⟩=some (.int .i64 ty.base)∧w'.cell? ⟨w.heap.size,5,none⟩=some (.int .i64 ty.bits)∧w'.cell? ⟨w.heap.size,6,none⟩=some (.string ty.name)∧w'.cell? ⟨w.heap.size,7,none⟩=some (.bool ty.opt)∧w'.cell? ⟨w.heap.size,8,none⟩=some (.bool ty.err)∧w'.cell? ⟨w.heap.size + 1,5,none⟩=some (.int .i64 vn)∧w'.cell? ⟨w.heap.size + 1 + 1,5,none⟩=some (.int .i64 un)∧w'.cell? ⟨tb,0,none⟩=some (.bool (ty.base == 3))∧w'.cell? ⟨tb,1,none⟩=some (.int .i64 ty.bits)):=fun w' x=>by
    have n:=NB.ext' N3.out x
    exact ⟨n.xx.cell 4,n.xx.cell 5,n.xx.cell 6,n.xx.cell 7,n.xx.cell 8,n.vv.cell 5,n.uu.cell 5,n.tt.cell 0,n.tt.cell 1⟩
   have HST:∀ (i:Nat) (l:Array Bool) (w':World),Ext w3 w' ↔ Ext w3 w':=fun _ _ _=>Iff.rfl
   have HC1:Hid (∀ (l:Array Bool) (w':World),Ext w3 w' → Calls Tryz.prog 209 #[.agg #[.int .i64 ty.base,.int .i64 ty.bits,.string ty.name,.bool ty.opt,.bool ty.err],.int .i64 vn] w' fun e w''=>e=.returned (.int .i64 N)∧Ext w3 w''):=fun l w' x=>(HWV.out w').mono fun e w'' h=>⟨h.1,x.trans h.2⟩
   have HC2:Hid (∀ (l:Array Bool) (w':World),Ext w3 w' → Calls Tryz.prog 209 #[.agg #[.int .i64 ty.base,.int .i64 ty.bits,.string ty.name,.bool ty.opt,.bool ty.err],.int .i64 un] w' fun e w''=>e=.returned (.int .i64 M)∧Ext w3 w''):=fun l w' x=>(HWU.out w').mono fun e w'' h=>⟨h.1,x.trans h.2⟩
   have HC3:Hid (∀ (l:Array Bool) (w':World),Ext w3 w' → Calls Tryz.prog 260 #[.int .i64 (op - 100),.agg #[.bool (ty.base == 3),.int .i64 ty.bits],.int .i64 N,.int .i64 M] w' fun e w''=>e=.returned (.tuple #[.int .i64 q,.int .i64 0])∧Ext w3 w''):=fun l w' x=>(HLo.out w').mono fun e w'' h=>⟨h.1,x.trans h.2⟩
   refine flow_begin (fun _ w'=>Ext w3 w') #[false,false,false,false,false,false,false,false,false,false,false,false,false,false,false,false,false] rfl (by kernel_rfl) (fun _ _ _ _ _ h=>h) ((Ext.refl _).drew) (fun HQ=>?_)
   (refine tt 0 129 rfl HQ (HST 0) ?_; try simp only [putL,List.set])
   (refine tt 1 130 rfl HQ (HST 1) ?_; try simp only [putL,List.set])
   (refine tt 2 131 rfl HQ (HST 2) ?_; try simp only [putL,List.set])
   (refine tt 3 132 rfl HQ (HST 3) ?_; try simp only [putL,List.set])
   (refine tt 4 133 rfl HQ (HST 4) ?_; try simp only [putL,List.set])
   (refine tt 5 134 rfl HQ (HST 5) ?_; try simp only [putL,List.set])
   (refine tc 6 135 rfl (by kernel_rfl) HQ (HST 6) (by rfl) (fun l w' hF=>?_) ((HC1.out)) ?_; (focus (have hq:=HD.out _ hF; go_simp; try simp only [enters_hwrapped _ _])); try simp only [putL,List.set])
   (refine tt 7 136 rfl HQ (HST 7) ?_; try simp only [putL,List.set])
   (refine tt 8 137 rfl HQ (HST 8) ?_; try simp only [putL,List.set])
   (refine tt 9 138 rfl HQ (HST 9) ?_; try simp only [putL,List.set])
   (refine tt 10 139 rfl HQ (HST 10) ?_; try simp only [putL,List.set])
   (refine tc 11 140 rfl (by kernel_rfl) HQ (HST 11) (by rfl) (fun l w' hF=>?_) ((HC2.out)) ?_; (focus (have hq:=HD.out _ hF; go_simp; try simp only [enters_hwrapped _ _])); try simp only [putL,List.set])
   (refine tc 12 141 rfl (by kernel_rfl) HQ (HST 12) (by rfl) (fun l w' hF=>?_) ((HC3.out)) ?_; (focus (have hq:=HD.out _ hF; go_simp; try simp only [enters_rLoose _ _])); try simp only [putL,List.set])
   (refine tt 13 128 rfl HQ (HST 13) ?_; try simp only [putL,List.set])
   (refine tt 14 142 rfl HQ (HST 14) ?_; try simp only [putL,List.set])
   (refine tt 15 143 rfl HQ (HST 15) ?_; try simp only [putL,List.set])
   (refine tt 16 14 rfl HQ (HST 16) ?_; try simp only [putL,List.set])
   refine flow_done (by kernel_rfl) ?_
   intro w4 xw4
   go_wp2_with fail
   go_ret
   exact hNum_ok HQ1.out (HM.out.ext (X3.out.trans xw4)) (own_grown (X3.out.trans xw4) _)
  ·have HQ1:Hid (numF true ⟨op,d,a,b,ty,nm,A,cap,args⟩ ⟨vt,vn,vnull,verr,vof⟩ ⟨ut,un,unull,uerr,uof⟩=(0,y)):=by
    unfold Hid
    rw [HNQ.out,Bool.true_and,if_pos (by simpa using hy0)]
   have HY:=Lib.hid hy0
   go_wp2_with (first
    | (go_at_call 210
       refine (hstop_t m A0 len cap0 s B0 bn bc y _ (HM.out.ext X3.out)).mono ?_; rintro r w7 ⟨rfl,m2,g2⟩
       have M2:=Lib.hid m2
       have G2:=Lib.hid (grow_trans (own_grown X3.out _) g2)
       clear m2 g2))
   go_ret
   exact hNum_no (by rw [HQ1.out]) HY.out M2.out G2.out
end
theorem hnumber_any (m:Nat) (A0:Option Addr) (len cap0:Nat) (ck:Bool) (s:Int) (B0:Option Addr) (bn bc:Nat) (x:Rg) (v u:Val) (w:World) (h:HMem w m A0 len cap0 ck s 0 0 B0 bn bc) (hop:(5 ≤ x.op∧x.op ≤ 9) ∨ (105 ≤ x.op∧x.op ≤ 123))
  (hT:x.op=5 ∨ x.op=7 ∨ x.op=8 ∨ (105 ≤ x.op∧x.op ≤ 117) → 2 ≤ x.ty.base∧1 ≤ x.ty.bits∧x.ty.bits ≤ 31) :
  Calls Tryz.prog 211 #[.pointer (some ⟨m,0,none⟩),x.val,v.val,u.val] w fun e w'=>HNum w m A0 len cap0 ck s B0 bn bc (numF ck x v u) e w':=by
 obtain ⟨op,d,a,b,ty,nm,A,cap,args⟩:=x
 simp only [] at hop hT
 rcases (show op=5 ∨ op=6 ∨ op=7 ∨ op=8 ∨ op=9 ∨ (105 ≤ op∧op ≤ 117) ∨ (118 ≤ op∧op ≤ 123) by omega) with rfl | rfl | rfl | rfl | rfl | h1 | h1
 ·obtain ⟨h0,h1,h2⟩:=hT (by omega)
  exact hnum_neg m A0 len cap0 ck s B0 bn bc d a b ty nm A cap args v u w h h0 h1 h2
 ·exact hnum_not m A0 len cap0 ck s B0 bn bc d a b ty nm A cap args v u w h
 ·obtain ⟨h0,h1,h2⟩:=hT (by omega)
  exact hnum_cast m A0 len cap0 ck s B0 bn bc d a b ty nm A cap args v u w h h0 h1 h2
 ·obtain ⟨h0,h1,h2⟩:=hT (by omega)
  exact hnum_wrap m A0 len cap0 ck s B0 bn bc d a b ty nm A cap args v u w h h0 h1 h2
 ·exact hnum_unwrap m A0 len cap0 ck s B0 bn bc d a b ty nm A cap args v u w h
 ·obtain ⟨h0,h3,h2⟩:=hT (by omega)
  exact hnum_op m A0 len cap0 ck s B0 bn bc op d a b ty nm A cap args v u w h h1.1 h1.2 h0 h3 h2
 ·exact hnum_cmp m A0 len cap0 ck s B0 bn bc op d a b ty nm A cap args v u w h h1.1 h1.2
end Go.Proofs.YtknaemlnhediaaaGreatDoor.c
