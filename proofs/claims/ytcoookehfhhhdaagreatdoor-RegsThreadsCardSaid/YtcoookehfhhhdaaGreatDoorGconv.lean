/- Contracts of regs.machine's convert and operate: what an instruction with a number for its result comes to. Conditions: right types. Contracts of regs' small functions of a run: typeOfInt, wrap, truth, compared, next. Conditions: right types. Contracts of the reference's functions that look at an instruction of register code: within, parts, isRan, isInt, isPart, isOp. No condition but bounds. Contracts of the reference's isOp and isReg. Conditions: bounds. Contract of the reference's isReg. Conditions: bounds. Contract of the reference's isReg. Conditions: bounds. Contract of the reference's isReg. Conditions: bounds. Contract of the reference's isReg. Conditions: bounds. Contracts of the reference's found, params, count, Long over register code. Conditions: lengths. Contracts of the reference's small functions of a run: IntOf, one, wrapped, stop, number. Conditions: right types. Contract of the reference's number: what an instruction with a number for its result comes to. Conditions: right types. Contract of the reference's number: what an instruction with a number for its result comes to. Conditions: right types. Contract of the reference's number: what an instruction with a number for its result comes to. Conditions: right types. Contract of the reference's number, at operations of two numbers; all of number. Conditions: right types. Contract of the reference's Validate over register code. Conditions: lengths. Contract of the reference's room: how many slots a function needs. Conditions: right code. Contract of the reference's Long over register code. Conditions: lengths. Contract of the reference's given: the errors of code, a name and args. Conditions: lengths. What a call of register code comes to, told plainly; the two runs of the code that known looks at. No condition. -/
import Derived.Test.YtcoookehfhhhdaaGreatDoorFlow
import Derived.Test.YtcoookehfhhhdaaGreatDoorRgD
import Derived.Test.YtcoookehfhhhdaaGreatDoorRinst
import Derived.Test.YtcoookehfhhhdaaGreatDoorNchk
import Derived.Test.YtcoookehfhhhdaaGreatDoorRbw
import Derived.Test.YtcoookehfhhhdaaGreatDoorTy
namespace Go.Proofs.YtcoookehfhhhdaaGreatDoor.c
open Go.RowKit
set_option linter.unusedVariables false
set_option maxRecDepth 100000
set_option maxHeartbeats 3200000
set_option linter.unusedSimpArgs false
theorem typeOfInt_any (t:Ty) (w:World) :
  Calls Tryz.prog 160 #[.agg #[.int .i64 t.base,.int .i64 t.bits,.string t.name,.bool t.opt,.bool t.err]] w fun r w'=>r=.returned (.agg #[.bool (t.base == 3),.int .i64 t.bits])∧Ext w w':=by
 go_enter Tryz.func160,Tryz.ntmps160
 go_wp2
 exact bodyPost_ret (v:=.agg #[.bool (t.base == 3),.int .i64 t.bits]) (by simp [results,Tryz.results160,go_sem]) rfl ⟨rfl,exA⟩
theorem wrapT_void {t:Ty} {n:Int} (h:t.base=0):wrapT t n=0:=by unfold wrapT; rw [h]; rfl
theorem wrapT_bool {t:Ty} {n:Int} (h:t.base=1):wrapT t n=if n=0 then 0 else 1:=by
 unfold wrapT; rw [h,if_pos (by decide)]
 by_cases e:n=0
 ·rw [if_pos e,if_neg (by simp [e])]
 ·rw [if_neg e,if_pos ⟨rfl,e⟩]
theorem wrapT_int {t:Ty} {n:Int} (h:2 ≤ t.base):wrapT t n=bendI (t.base == 3) t.bits n:=by unfold wrapT; rw [if_neg (by omega)]
theorem gwrap_any (t:Ty) (n:Int) (w:World) (h:rowT t) :
  Calls Tryz.prog 122 #[.agg #[.int .i64 t.base,.int .i64 t.bits,.string t.name,.bool t.opt,.bool t.err],.int .i64 n] w fun e w'=>e=.returned (.int .i64 (wrapT t n))∧Ext w w':=by
 rcases h with h | h | ⟨h,h1,h2⟩
 ·have HR:=Lib.hid (wrapT_void (n:=n) h)
  have n1:(t.base == 1)=false:=by rw [h]; rfl
  have n2:t.base ≤ 1:=by omega
  go_enter Tryz.func122,Tryz.ntmps122
  go_wp2_with fail
  go_ret
  exact ⟨ret_int HR.out.symm,exA⟩
 ·have HR:=Lib.hid (wrapT_bool (n:=n) h)
  have n1:(t.base == 1)=true:=by rw [h]; rfl
  have n2:t.base ≤ 1:=by omega
  by_cases e:n=0
  ·have e1:(n != 0)=false:=by rw [e]; rfl
   have HE:=Lib.hid e
   clear e
   go_enter Tryz.func122,Tryz.ntmps122
   go_wp2_with fail
   go_ret
   exact ⟨ret_int (by rw [HR.out,if_pos HE.out]),exA⟩
  ·have e1:(n != 0)=true:=by rw [bne_iff_ne]; exact e
   have HE:=Lib.hid e
   clear e
   go_enter Tryz.func122,Tryz.ntmps122
   go_wp2_with fail
   go_ret
   exact ⟨ret_int (by rw [HR.out,if_neg HE.out]),exA⟩
 ·have HR:=Lib.hid (wrapT_int (n:=n) h)
  have n1:(t.base == 1)=false:=by rw [beq_eq_false_iff_ne]; omega
  have n2:¬ t.base ≤ 1:=by omega
  go_enter Tryz.func122,Tryz.ntmps122
  go_wp2_with (first
   | (go_at_call 160; refine (typeOfInt_any t _).mono ?_; rintro r w1 ⟨rfl,x1⟩; have y1:=x1.facts; have z1:=x1.z0)
   | (go_at_call 159; refine (nWrap_any (t.base == 3) t.bits n _ h1 h2).mono ?_; rintro r w2 ⟨rfl,x2⟩; have y2:=x2.facts))
  go_ret
  exact ⟨ret_int HR.out.symm,exA⟩
theorem truth_any (b:Bool) (w:World) :
  Calls Tryz.prog 161 #[.bool b] w fun e w'=>e=.returned (nv (b01 b)).val∧Ext w w':=by
 have HZ:Hid ((Tryz.prog.info? 50).map (·.size)=some 13):=by unfold Hid; kernel_rfl
 cases b
 all_goals
  go_enter Tryz.func161,Tryz.ntmps161
  go_wp2
  refine bodyPost_ret (results_cell_row rfl _ _ w.heap.size 50 _ (0,0) _ rfl (Blk.new w _ _) Tryz.underlying50 rfl HZ.out) rfl ⟨rfl,exA⟩
theorem compared_any (op a c:Int) (w:World):Calls Tryz.prog 164 #[.int .i64 op,.int .i64 a,.int .i64 c] w fun e w'=>e=.returned (.bool (cmpB op a c))∧w=w':=by
 rcases (show op=18 ∨ op=19 ∨ op=20 ∨ op=21 ∨ op=22 ∨ (op ≠ 18∧op ≠ 19∧op ≠ 20∧op ≠ 21∧op ≠ 22) by omega) with rfl | rfl | rfl | rfl | rfl | ⟨h1,h2,h3,h4,h5⟩
 case' inr.inr.inr.inr.inr =>
  have HC:=Lib.hid (show cmpB op a c=decide (c ≤ a) by unfold cmpB; rw [if_neg h1,if_neg h2,if_neg h3,if_neg h4,if_neg h5])
  have e1:(op == 18)=false:=by simpa using h1
  have e2:(op == 19)=false:=by simpa using h2
  have e3:(op == 20)=false:=by simpa using h3
  have e4:(op == 21)=false:=by simpa using h4
  have e5:(op == 22)=false:=by simpa using h5
  clear h1 h2 h3 h4 h5
 all_goals
  go_enter Tryz.func164,Tryz.ntmps164
  go_wp2
  go_ret
  exact ⟨ret_bool (by first | exact HC.out.symm | rfl),rfl⟩
def NumRet (q:Int × Int) (e:Ending):Prop:=e=.returned (.tuple #[(nv q.1).val,.int .i64 q.2])
theorem numRet {q:Int × Int} {n y:Int} (h:q=(n,y)):NumRet q (.returned (.tuple #[(nv n).val,.int .i64 y])):=by subst h; rfl
theorem nv_val (n:Int):(nv n).val=.agg #[.int .i64 0,.int .i64 0,.string ⟨#[]⟩,.bool false,.bool false,.int .i64 n,.bool false,.string ⟨#[]⟩,.int .i64 0,.int .i64 0,.string ⟨#[]⟩,.bool false,.bool false]:=rfl
theorem numFc {ck:Bool} {x:Rg} {v u:Val} (h:118 ≤ x.op):numF ck x v u=(b01 (cmpB (x.op - 100) v.n u.n),0):=by unfold numF; rw [if_neg (by omega),if_neg (by omega),if_neg (by omega),if_neg (by omega),if_neg (by omega),if_pos h]
theorem numFo {ck:Bool} {x:Rg} {v u:Val} (h:105 ≤ x.op) (h2:x.op ≤ 117):numF ck x v u=if (ck && whyI (x.op - 100) (x.ty.base == 3) x.ty.bits (wrapT x.ty v.n) (wrapT x.ty u.n) != 0)=true then (0,whyI (x.op - 100) (x.ty.base == 3) x.ty.bits (wrapT x.ty v.n) (wrapT x.ty u.n))
  else (looseI (x.op - 100) (x.ty.base == 3) x.ty.bits (wrapT x.ty v.n) (wrapT x.ty u.n),0):=by unfold numF; rw [if_neg (by omega),if_neg (by omega),if_neg (by omega),if_neg (by omega),if_neg (by omega),if_neg (by omega)]
theorem wrapT_fit {t:Ty} {n:Int} (h:2 ≤ t.base) (h1:1 ≤ t.bits) (h2:t.bits ≤ 31):fitI (t.base == 3) t.bits (wrapT t n)=true:=by rw [wrapT_int h]; exact bend_fit _ _ h1 h2
theorem enters_gwrap:Enters 122 := Enters.of Tryz.func122 (by kernel_rfl) (by kernel_rfl)
section
variable (m:Nat) (ck:Bool) (d a b:Int) (ty:Ty) (nm:ByteArray) (A:Option Addr) (cap:Nat) (args:List Int) (v u:Val) (w:World)
end
theorem oper_cmp (m:Nat) (ck:Bool) (x:Rg) (v u:Val) (w:World) (hm:m < w.heap.size) (hc:w.cell? ⟨m,1,none⟩=some (.bool ck)) (h:118 ≤ x.op) (h2:x.op ≤ 123) :
  Calls Tryz.prog 124 #[.pointer (some ⟨m,0,none⟩),x.val,.int .i64 v.n,.int .i64 u.n] w fun e w'=>NumRet (numF ck x v u) e∧Ext w w':=by
 have HQ:=Lib.hid (numFc (ck:=ck) (x:=x) (v:=v) (u:=u) h)
 obtain ⟨op,d,a,b,ty,nm,A,cap,args⟩:=x
 have HZ:Hid ((Tryz.prog.info? 50).map (·.size)=some 13):=by unfold Hid; kernel_rfl
 have B0:=Lib.hid (blk2 w (.cells #[.int .i64 op,.int .i64 d,.int .i64 a,.int .i64 b,.int .i64 ty.base,.int .i64 ty.bits,.string ty.name,.bool ty.opt,.bool ty.err,.string nm,.slice A args.length cap] 83) 50 #[.int .i64 0,.int .i64 0,.string ⟨#[]⟩,.bool false,.bool false,.int .i64 0,.bool false,.string ⟨#[]⟩,.int .i64 0,.int .i64 0,.string ⟨#[]⟩,.bool false,.bool false])
 unfold Rg.val
 simp only [] at HQ h h2 ⊢
 have e1:IntKind.i64.wrap (op - 100)=op - 100:=IntWalk.i64_in _ (by omega)
 have n1:18 ≤ op - 100:=by omega
 go_enter Tryz.func124,Tryz.ntmps124
 go_wp2_with (first
  | ((with_reducible show wpList _ _ _ (Oper.mk none (.store 50 (.tmp 8) _) _ _ _ _ :: _) _ _); refine wpList_store_row rfl 50 _ _ rfl (w.heap.size + 1) rfl 50 #[.int .i64 0,.int .i64 0,.string ⟨#[]⟩,.bool false,.bool false,.int .i64 0,.bool false,.string ⟨#[]⟩,.int .i64 0,.int .i64 0,.string ⟨#[]⟩,.bool false,.bool false] (nv _).cells.toArray (B0.out.ext exA) rfl rfl (Val.ones _) HZ.out ?_)
  | (go_at_call 164; refine (compared_any _ _ _ _).mono ?_; rintro r w' ⟨rfl,rfl⟩)
  | (go_at_call 161; refine (truth_any _ _).mono ?_; rw [nv_val]; rintro r w2 ⟨rfl,x2⟩; have y2:=x2.facts; have z2:=x2.size; have za2:w.heap.size < w2.heap.size:=(by have h:=x2.size; (try simp at h); omega); have zb2:w.heap.size + 1 < w2.heap.size:=(by have h:=x2.size; (try simp at h); omega); have zm2:m < w2.heap.size:=(by omega); have cm2:=(Ext.cell (p:=⟨m,1,none⟩) (exA:Ext w w2) hm).trans hc))
 skip
 refine bodyPost_ret (results_row_tmp rfl _ _ (w.heap.size + 1) 50 (nv (b01 (cmpB (op - 100) v.n u.n))).cells.toArray (0,0) _ rfl (Blk.row (B0.out.ext exA) _) Tryz.underlying50 rfl HZ.out (.int .i64 0) rfl) rfl ⟨numRet (n:=b01 (cmpB (op - 100) v.n u.n)) (y:=0) HQ.out,Ext.setRow exA (by omega) _⟩
theorem oper_num (m:Nat) (ck:Bool) (x:Rg) (v u:Val) (w:World) (hm:m < w.heap.size) (hc:w.cell? ⟨m,1,none⟩=some (.bool ck)) (h:105 ≤ x.op) (h2:x.op ≤ 117) (hb:2 ≤ x.ty.base) (hb1:1 ≤ x.ty.bits) (hb2:x.ty.bits ≤ 31) :
  Calls Tryz.prog 124 #[.pointer (some ⟨m,0,none⟩),x.val,.int .i64 v.n,.int .i64 u.n] w fun e w'=>NumRet (numF ck x v u) e∧Ext w w':=by
 have HNQ:=Lib.hid (numFo (ck:=ck) (x:=x) (v:=v) (u:=u) h h2)
 obtain ⟨op,d,a,b,ty,nm,A,cap,args⟩:=x
 have HZ:Hid ((Tryz.prog.info? 50).map (·.size)=some 13):=by unfold Hid; kernel_rfl
 have B0:=Lib.hid (blk2 w (.cells #[.int .i64 op,.int .i64 d,.int .i64 a,.int .i64 b,.int .i64 ty.base,.int .i64 ty.bits,.string ty.name,.bool ty.opt,.bool ty.err,.string nm,.slice A args.length cap] 83) 50 #[.int .i64 0,.int .i64 0,.string ⟨#[]⟩,.bool false,.bool false,.int .i64 0,.bool false,.string ⟨#[]⟩,.int .i64 0,.int .i64 0,.string ⟨#[]⟩,.bool false,.bool false])
 unfold Rg.val
 simp only [] at HNQ h h2 hb hb1 hb2 ⊢
 have HR:Hid (rowT ty):=.inr (.inr ⟨hb,hb1,hb2⟩)
 have e1:IntKind.i64.wrap (op - 100)=op - 100:=IntWalk.i64_in _ (by omega)
 have n1:¬ 18 ≤ op - 100:=by omega
 have hf:=wrapT_fit (n:=v.n) hb hb1 hb2
 have hg:=wrapT_fit (n:=u.n) hb hb1 hb2
 obtain ⟨N,hN⟩:∃ N,wrapT ty v.n=N:=⟨_,rfl⟩
 obtain ⟨M,hM⟩:∃ M,wrapT ty u.n=M:=⟨_,rfl⟩
 rw [hN] at HNQ hf
 rw [hM] at HNQ hg
 obtain ⟨y,hy⟩:∃ y,whyI (op - 100) (ty.base == 3) ty.bits N M=y:=⟨_,rfl⟩
 obtain ⟨q,hq⟩:∃ q,looseI (op - 100) (ty.base == 3) ty.bits N M=q:=⟨_,rfl⟩
 obtain ⟨q0,hq0⟩:∃ q0,q0=(if y=0 then q else 0):=⟨_,rfl⟩
 have HQ0:=Lib.hid hq0
 have HDo:Hid (∀ w,Calls Tryz.prog 166 #[.int .i64 (op - 100),.agg #[.bool (ty.base == 3),.int .i64 ty.bits],.int .i64 N,.int .i64 M] w fun e w'=>e=.returned (.tuple #[.int .i64 q0,.int .i64 y,.int .i64 0])∧Ext w w'):=fun w=>by
  have h:=nDo_any (op - 100) (ty.base == 3) ty.bits N M w hb1 hb2 (by omega) (by omega) hf hg
  rwa [hy,hq,← hq0] at h
 have HLo:Hid (∀ w,Calls Tryz.prog 165 #[.int .i64 (op - 100),.agg #[.bool (ty.base == 3),.int .i64 ty.bits],.int .i64 N,.int .i64 M] w fun e w'=>e=.returned (.tuple #[.int .i64 q,.int .i64 0])∧Ext w w'):=fun w=>by
  have h:=nLoose_any (op - 100) (ty.base == 3) ty.bits N M w hb1 hb2 (by omega) (by omega) hf hg
  rwa [hq] at h
 rw [hy,hq] at HNQ
 have HN:=Lib.hid hN
 have HM:=Lib.hid hM
 clear hN hM hf hg hy hq hq0
 have HV:Hid (∀ w,Calls Tryz.prog 122 #[.agg #[.int .i64 ty.base,.int .i64 ty.bits,.string ty.name,.bool ty.opt,.bool ty.err],.int .i64 v.n] w fun e w'=>e=.returned (.int .i64 N)∧Ext w w'):=fun w=>by
  have h:=gwrap_any ty v.n w HR.out
  rwa [HN.out] at h
 have HU:Hid (∀ w,Calls Tryz.prog 122 #[.agg #[.int .i64 ty.base,.int .i64 ty.bits,.string ty.name,.bool ty.opt,.bool ty.err],.int .i64 u.n] w fun e w'=>e=.returned (.int .i64 M)∧Ext w w'):=fun w=>by
  have h:=gwrap_any ty u.n w HR.out
  rwa [HM.out] at h
 have BX:Hid (Blk ((w.alloc (.cells #[.int .i64 op,.int .i64 d,.int .i64 a,.int .i64 b,.int .i64 ty.base,.int .i64 ty.bits,.string ty.name,.bool ty.opt,.bool ty.err,.string nm,.slice A args.length cap] 83)).alloc (.cells #[.int .i64 0,.int .i64 0,.string ⟨#[]⟩,.bool false,.bool false,.int .i64 0,.bool false,.string ⟨#[]⟩,.int .i64 0,.int .i64 0,.string ⟨#[]⟩,.bool false,.bool false] 50)) w.heap.size 83 #[.int .i64 op,.int .i64 d,.int .i64 a,.int .i64 b,.int .i64 ty.base,.int .i64 ty.bits,.string ty.name,.bool ty.opt,.bool ty.err,.string nm,.slice A args.length cap]):=(Blk.new w _ _).alloc _
 go_enter Tryz.func124,Tryz.ntmps124
 go_wp2_with (first
  | (go_at_call 160; refine (typeOfInt_any ty _).mono ?_; rintro r w1 ⟨rfl,x1⟩; have y1:=x1.facts; have z1:=x1.size; have za1:w.heap.size < w1.heap.size:=(by have h:=x1.size; (try simp at h); omega); have zb1:w.heap.size + 1 < w1.heap.size:=(by have h:=x1.size; (try simp at h); omega); have zm1:m < w1.heap.size:=(by omega); have cm1:=(Ext.cell (p:=⟨m,1,none⟩) (exA:Ext w w1) hm).trans hc))
 have X2:Hid (Ext w (w1.alloc (.cells #[.bool (ty.base == 3),.int .i64 ty.bits] 122))):=by unfold Hid; exact exA
 have T2:Hid (Blk (w1.alloc (.cells #[.bool (ty.base == 3),.int .i64 ty.bits] 122)) w1.heap.size 122 #[.bool (ty.base == 3),.int .i64 ty.bits]):=Blk.new _ _ _
 have BX2:Hid (Blk (w1.alloc (.cells #[.bool (ty.base == 3),.int .i64 ty.bits] 122)) w.heap.size 83 #[.int .i64 op,.int .i64 d,.int .i64 a,.int .i64 b,.int .i64 ty.base,.int .i64 ty.bits,.string ty.name,.bool ty.opt,.bool ty.err,.string nm,.slice A args.length cap]):=BX.out.ext exA
 have BZ2:Hid (Blk (w1.alloc (.cells #[.bool (ty.base == 3),.int .i64 ty.bits] 122)) (w.heap.size + 1) 50 #[.int .i64 0,.int .i64 0,.string ⟨#[]⟩,.bool false,.bool false,.int .i64 0,.bool false,.string ⟨#[]⟩,.int .i64 0,.int .i64 0,.string ⟨#[]⟩,.bool false,.bool false]):=B0.out.ext exA
 generalize w1.alloc (.cells #[.bool (ty.base == 3),.int .i64 ty.bits] 122)=w2 at X2 T2 BX2 BZ2 ⊢
 have HD:Hid (∀ w',Ext w2 w' → w'.cell? ⟨w.heap.size,4,none⟩=some (.int .i64 ty.base)∧w'.cell? ⟨w.heap.size,5,none⟩=some (.int .i64 ty.bits)∧w'.cell? ⟨w.heap.size,6,none⟩=some (.string ty.name)∧w'.cell? ⟨w.heap.size,7,none⟩=some (.bool ty.opt)∧w'.cell? ⟨w.heap.size,8,none⟩=some (.bool ty.err)):=fun w' x=>by
  have h:=BX2.out.ext x
  exact ⟨h.cell 4,h.cell 5,h.cell 6,h.cell 7,h.cell 8⟩
 have HST:∀ (i:Nat) (l:Array Bool) (w':World),Ext w2 w' ↔ Ext w2 w':=fun _ _ _=>Iff.rfl
 have HCV:Hid (∀ (l:Array Bool) (w':World),Ext w2 w' → Calls Tryz.prog 122 #[.agg #[.int .i64 ty.base,.int .i64 ty.bits,.string ty.name,.bool ty.opt,.bool ty.err],.int .i64 v.n] w' fun e w''=>e=.returned (.int .i64 N)∧Ext w2 w''):=fun l w' x=>(HV.out w').mono fun e w'' h=>⟨h.1,x.trans h.2⟩
 have HCU:Hid (∀ (l:Array Bool) (w':World),Ext w2 w' → Calls Tryz.prog 122 #[.agg #[.int .i64 ty.base,.int .i64 ty.bits,.string ty.name,.bool ty.opt,.bool ty.err],.int .i64 u.n] w' fun e w''=>e=.returned (.int .i64 M)∧Ext w2 w''):=fun l w' x=>(HU.out w').mono fun e w'' h=>⟨h.1,x.trans h.2⟩
 clear y1 z1 za1 zb1 zm1 cm1 x1
 refine flow_begin (fun _ w'=>Ext w2 w') #[false,false,false,false,false,false,false,false,false,false] rfl (by kernel_rfl) (fun _ _ _ _ _ h=>h) ((Ext.refl _).drew) (fun HQ=>?_)
 (refine tt 0 30 rfl HQ (HST 0) ?_; try simp only [putL,List.set])
 (refine tt 1 31 rfl HQ (HST 1) ?_; try simp only [putL,List.set])
 (refine tt 2 32 rfl HQ (HST 2) ?_; try simp only [putL,List.set])
 (refine tc 3 33 rfl (by kernel_rfl) HQ (HST 3) (by rfl) (fun l w' hF=>?_) ((HCV.out)) ?_; (focus (have hq:=HD.out _ hF; go_simp; try simp only [enters_gwrap _ _])); try simp only [putL,List.set])
 (refine tt 4 34 rfl HQ (HST 4) ?_; try simp only [putL,List.set])
 (refine tt 5 35 rfl HQ (HST 5) ?_; try simp only [putL,List.set])
 (refine tt 6 36 rfl HQ (HST 6) ?_; try simp only [putL,List.set])
 (refine tc 7 37 rfl (by kernel_rfl) HQ (HST 7) (by rfl) (fun l w' hF=>?_) ((HCU.out)) ?_; (focus (have hq:=HD.out _ hF; go_simp; try simp only [enters_gwrap _ _])); try simp only [putL,List.set])
 (refine tt 8 2 rfl HQ (HST 8) ?_; try simp only [putL,List.set])
 (refine tt 9 3 rfl HQ (HST 9) ?_; try simp only [putL,List.set])
 refine flow_done (by kernel_rfl) ?_
 intro w3 x3
 have X3:Hid (Ext w w3):=X2.out.trans x3
 have hxm:=X3.out.size
 have cm3:=(Ext.cell (p:=⟨m,1,none⟩) X3.out hm).trans hc
 have zm3:m < w3.heap.size:=by omega
 have T3:=Lib.hid (T2.out.ext x3)
 have BZ3:=Lib.hid (BZ2.out.ext x3)
 have t0:=T3.out.cell 0
 have t1:=T3.out.cell 1
 have zt:=T3.out.lt
 simp only [List.getElem?_toArray,List.getElem?_cons_zero,List.getElem?_cons_succ] at t0 t1
 clear HD HST HCV HCU x3 HV HU hc hm
 cases ck
 all_goals
  go_wp2_with (first
   | ((with_reducible show wpList _ _ _ (Oper.mk none (.store 50 (.tmp 8) _) _ _ _ _ :: _) _ _); refine wpList_store_row rfl 50 _ _ rfl (w.heap.size + 1) rfl 50 #[.int .i64 0,.int .i64 0,.string ⟨#[]⟩,.bool false,.bool false,.int .i64 0,.bool false,.string ⟨#[]⟩,.int .i64 0,.int .i64 0,.string ⟨#[]⟩,.bool false,.bool false] (nv _).cells.toArray (BZ3.out.ext exA) rfl rfl (Val.ones _) HZ.out ?_)
   | (go_at_call 166; (with_reducible refine (HDo.out _).mono ?_); rintro r w4 ⟨rfl,x4⟩)
   | (go_at_call 165; (with_reducible refine (HLo.out _).mono ?_); rintro r w5 ⟨rfl,x5⟩))
 ·have X5:=X3.out.trans x5
  refine bodyPost_ret (results_row_tmp rfl _ _ (w.heap.size + 1) 50 (nv q).cells.toArray (0,0) _ rfl (Blk.row (BZ3.out.ext x5) _) Tryz.underlying50 rfl HZ.out (.int .i64 0) rfl) rfl ⟨numRet (n:=q) (y:=0) (by rw [HNQ.out]; rfl),Ext.setRow X5 (by omega) _⟩
 ·have X4:=X3.out.trans x4
  refine bodyPost_ret (results_row_tmp rfl _ _ (w.heap.size + 1) 50 (nv q0).cells.toArray (0,0) _ rfl (Blk.row (BZ3.out.ext x4) _) Tryz.underlying50 rfl HZ.out (.int .i64 y) rfl) rfl ⟨numRet (n:=q0) (y:=y) ?_,Ext.setRow X4 (by omega) _⟩
  rw [HNQ.out,HQ0.out]
  by_cases e:y=0
  ·rw [e]; rfl
  ·rw [if_pos (by simpa using e),if_neg e]
theorem operate_any (m:Nat) (ck:Bool) (x:Rg) (v u:Val) (w:World) (hm:m < w.heap.size) (hc:w.cell? ⟨m,1,none⟩=some (.bool ck)) (h:105 ≤ x.op) (h2:x.op ≤ 123) (hT:x.op ≤ 117 → 2 ≤ x.ty.base∧1 ≤ x.ty.bits∧x.ty.bits ≤ 31) :
  Calls Tryz.prog 124 #[.pointer (some ⟨m,0,none⟩),x.val,.int .i64 v.n,.int .i64 u.n] w fun e w'=>NumRet (numF ck x v u) e∧Ext w w':=by
 rcases Int.lt_or_le 117 x.op with h3 | h3
 ·exact oper_cmp m ck x v u w hm hc (by omega) h2
 ·obtain ⟨a,b,c⟩:=hT h3
  exact oper_num m ck x v u w hm hc h h3 a b c
theorem indexR_cases (l:List Rf) (n:ByteArray):indexR l n=-1 ∨ ∃ j:Nat,indexR l n=j∧j < l.length:=by
 unfold indexR
 rcases findI_cases (fun k=>(l.getD k default).name.toList == n.toList) l.length with ⟨h,_⟩ | ⟨j,h,hj,_⟩
 ·exact .inl h
 ·exact .inr ⟨j,h,hj⟩
def hmC (A:Option Addr) (len cap:Nat) (ck:Bool) (s e y:Int) (B:Option Addr) (bn bc:Nat):Array Value:=#[.slice A len cap,.bool ck,.int .i64 s,.int .i64 e,.int .i64 y,.slice B bn bc]
def HMem (w:World) (m:Nat) (A:Option Addr) (len cap:Nat) (ck:Bool) (s e y:Int) (B:Option Addr) (bn bc:Nat):Prop:=Blk w m 134 (hmC A len cap ck s e y B bn bc)
section
variable {w w':World} {m:Nat} {A:Option Addr} {len cap:Nat} {ck:Bool} {s e y:Int} {B:Option Addr} {bn bc:Nat}
theorem HMem.facts (h:HMem w m A len cap ck s e y B bn bc):m < w.heap.size∧w.cell? ⟨m,0,none⟩=some (.slice A len cap)∧w.cell? ⟨m,1,none⟩=some (.bool ck)∧w.cell? ⟨m,2,none⟩=some (.int .i64 s)∧w.cell? ⟨m,3,none⟩=some (.int .i64 e) ∧
  w.cell? ⟨m,4,none⟩=some (.int .i64 y)∧w.cell? ⟨m,5,none⟩=some (.slice B bn bc)∧(∀ i,w.frozen? ⟨m,i,none⟩=false):=by
 refine ⟨Blk.lt h,?_,?_,?_,?_,?_,?_,fun i=>Blk.frozen h i⟩ <;> exact (Blk.cell h _).trans rfl
theorem HMem.ext (h:HMem w m A len cap ck s e y B bn bc) (x:Ext w w'):HMem w' m A len cap ck s e y B bn bc:=Blk.ext h x
theorem HMem.steps (h:HMem w m A len cap ck s e y B bn bc) (u:Int):HMem (w.setCell ⟨m,2,none⟩ (.int .i64 u)) m A len cap ck u e y B bn bc:=Blk.set_ h 2 _
theorem HMem.end_ (h:HMem w m A len cap ck s e y B bn bc) (u:Int):HMem (w.setCell ⟨m,3,none⟩ (.int .i64 u)) m A len cap ck s u y B bn bc:=Blk.set_ h 3 _
theorem HMem.why (h:HMem w m A len cap ck s e y B bn bc) (u:Int):HMem (w.setCell ⟨m,4,none⟩ (.int .i64 u)) m A len cap ck s e u B bn bc:=Blk.set_ h 4 _
end
structure NB (w0 w:World) (X V U:Array Value) (tb:Nat) (T:Array Value):Prop where
 ext:Ext w0 w
 xx:Blk w w0.heap.size 83 X
 vv:Blk w (w0.heap.size + 1) 50 V
 uu:Blk w (w0.heap.size + 1 + 1) 50 U
 tt:Blk w tb 122 T
theorem NB.ext' {w0 w w':World} {X V U:Array Value} {tb:Nat} {T:Array Value} (n:NB w0 w X V U tb T) (x:Ext w w'):NB w0 w' X V U tb T:=⟨n.ext.trans x,n.xx.ext x,n.vv.ext x,n.uu.ext x,n.tt.ext x⟩
theorem NB.start {w0 w1:World} {X V U:Array Value} {T:Array Value} (x:Ext (((w0.alloc (.cells X 83)).alloc (.cells V 50)).alloc (.cells U 50)) w1):NB w0 (w1.alloc (.cells T 122)) X V U w1.heap.size T:=by
 have h2:Blk (((w0.alloc (.cells X 83)).alloc (.cells V 50)).alloc (.cells U 50)) (w0.heap.size + 1) 50 V:=(blk2 w0 _ _ _).alloc _
 exact ⟨((((Ext.refl w0).alloc _).alloc _).alloc _).trans (x.alloc _),((((Blk.new w0 _ _).alloc _).alloc _).ext x).alloc _,(h2.ext x).alloc _,((blk3 w0 _ _ _ _).ext x).alloc _,Blk.new _ _ _⟩
theorem Blk.off {w w':World} {g m:Nat} {t:TypeId} {cs:Array Value} (h:Blk w g t cs) (x:w.grownBy w' (some m)) (hne:g ≠ m):Blk w' g t cs:=(x.block g h.lt (fun e=>hne (Option.some.inj e))).trans h
theorem NB.off {w0 w w':World} {X V U:Array Value} {tb:Nat} {T:Array Value} {m:Nat} (n:NB w0 w X V U tb T) (x:w.grownBy w' (some m)) (hm:m < w0.heap.size):Blk w' w0.heap.size 83 X∧Blk w' (w0.heap.size + 1) 50 V:=⟨n.xx.off x (by omega),n.vv.off x (by omega)⟩
section
variable (m:Nat) (A0:Option Addr) (len cap0:Nat) (ck:Bool) (s:Int) (B0:Option Addr) (bn bc:Nat) (d a b:Int) (ty:Ty) (nm:ByteArray) (A:Option Addr) (cap:Nat) (args:List Int) (v u:Val) (w:World)
end
section
variable (m:Nat) (A0:Option Addr) (len cap0:Nat) (ck:Bool) (s:Int) (B0:Option Addr) (bn bc:Nat) (d a b:Int) (ty:Ty) (nm:ByteArray) (A:Option Addr) (cap:Nat) (args:List Int) (v u:Val) (w:World)
end
section
variable (m:Nat) (A0:Option Addr) (len cap0:Nat) (ck:Bool) (s:Int) (B0:Option Addr) (bn bc:Nat) (d a b:Int) (ty:Ty) (nm:ByteArray) (A:Option Addr) (cap:Nat) (args:List Int) (v u:Val) (w:World)
end
section
variable (m:Nat) (A0:Option Addr) (len cap0:Nat) (ck:Bool) (s:Int) (B0:Option Addr) (bn bc:Nat) (op d a b:Int) (ty:Ty) (nm:ByteArray) (A:Option Addr) (cap:Nat) (args:List Int) (v u:Val) (w:World)
end
def okV (v:Val):Bool:=inB v.n (-2147483648) 2147483648
def runE (l:List Rf) (nm:ByteArray) (av:List Val):Int :=
 if validR l ≠ 0 then validR l else if indexR l nm < 0 then 4 else if (av.length:Int) ≠ (l.getD (indexR l nm).toNat default).params then 10 else if av.all okV=true then 0 else 1
noncomputable def runX (l:List Rf) (ck:Bool) (k:Nat) (av:List Val):En × Nat:=⟨Classical.choose (Run.total l ck 1 k av 0),Classical.choose (Classical.choose_spec (Run.total l ck 1 k av 0))⟩
theorem runX_run (l:List Rf) (ck:Bool) (k:Nat) (av:List Val):Run l ck (.call 1 k av) 0 (runX l ck k av).1 (runX l ck k av).2:=Classical.choose_spec (Classical.choose_spec (Run.total l ck 1 k av 0))
theorem runX_eq {l:List Rf} {ck:Bool} {k:Nat} {av:List Val} {e:En} {t:Nat} (h:Run l ck (.call 1 k av) 0 e t):runX l ck k av=(e,t):=by
 obtain ⟨h1,h2⟩:=h.det (runX_run l ck k av)
 rw [h1,h2]
def plainV (v:Val):Val:=pv v.n v.null v.err
noncomputable def outR (l:List Rf) (nm:ByteArray) (av:List Val) (ck:Bool):En × Nat:=if runE l nm av=0 then runX l ck (indexR l nm).toNat (av.map plainV) else (.ret default,0)
def outC:En → Array Value
 | .ret v=>(Value.int .i64 0 :: v.cells ++ [Value.int .i64 0,.slice none 0 0]).toArray
 | .stop y=>(Value.int .i64 1 :: (default:Val).cells ++ [Value.int .i64 y,.slice none 0 0]).toArray
 | .long=>(Value.int .i64 2 :: (default:Val).cells ++ [Value.int .i64 0,.slice none 0 0]).toArray
def tyU:Ty:=⟨2,8,⟨#[]⟩,false,false⟩
def tyN:Ty:=⟨0,0,⟨#[]⟩,false,false⟩
def gLi (d a:Int):Rg:=⟨0,d,a,0,tyU,⟨#[]⟩,none,0,[]⟩
def gAdd:Rg:=⟨105,0,0,1,tyU,⟨#[]⟩,none,0,[]⟩
def gRet:Rg:=⟨15,0,0,0,tyN,⟨#[]⟩,none,0,[]⟩
def fSum (A:Option Addr):Rf:=⟨⟨#[102]⟩,0,2,tyU,A,4,[gLi 0 200,gLi 1 100,gAdd,gRet]⟩
theorem index_sum (A:Option Addr):indexR [fSum A] ⟨#[102]⟩=0:=by
 unfold indexR
 exact findI_hit (k:=0) (by simp) (by simp [fSum]) (by omega)
theorem emp_none:emp ⟨#[]⟩=true:=by
 unfold emp
 rw [Lib.toList_data]
 rfl
theorem valid_sum (A:Option Addr):validR [fSum A]=0:=by
 unfold validR
 rw [if_neg,if_pos]
 ·intro k hk
  have:k=0:=by simp at hk; omega
  subst this
  have e:[fSum A].getD 0 default=fSum A:=rfl
  rw [e]
  refine ⟨?_,index_sum A⟩
  unfold fcR
  have hn:isNameS ⟨#[102]⟩=true:=by decide
  rw [show (fSum A).name=⟨#[102]⟩ from rfl,hn,show (fSum A).ty=tyU from rfl]
  have hr:isRanS tyU=true:=by simp [isRanS,isTypeS,tyU,emp_none,bitsOk]
  rw [hr]
  simp [fSum,inB,instR,isOpB,partsR,isPartB,argsB,restR,gLi,gAdd,gRet,goesR,tyU,tyN,tz,emp_none,pushS,isIntS,isPlainS,isRanS,isTypeS,bitsOk]
 ·rintro (h | h)
  ·simp at h
  ·simp [countR,fSum] at h
theorem runE_sum (A:Option Addr):runE [fSum A] ⟨#[102]⟩ []=0:=by
 unfold runE
 rw [valid_sum,index_sum]
 rfl
def sumR1:Nat → Val:=upd (fun _=>default) 0 (nv 200)
def sumR2:Nat → Val:=upd sumR1 1 (nv 100)
theorem num_sum:numF true gAdd (nv 200) (nv 100)=(0,1):=by decide +kernel
theorem num_sum2:numF false gAdd (nv 200) (nv 100)=(44,0):=by decide +kernel
theorem wrap_sum (n:Int) (h:n=200 ∨ n=100):wrapT tyU n=n:=by rcases h with rfl | rfl <;> decide +kernel
section
variable (S:Nat → Val) (ck:Bool)
theorem step_sum0:stepF ck (gLi 0 200) 0 (fun _=>default) S=.go 1 sumR1 S:=by
 have h:stepF ck (gLi 0 200) 0 (fun _=>default) S=.go 1 (upd (fun _=>default) 0 (nv (wrapT tyU 200))) S:=rfl
 rw [h,wrap_sum 200 (.inl rfl)]
 rfl
theorem step_sum1:stepF ck (gLi 1 100) 1 sumR1 S=.go 2 sumR2 S:=by
 have h:stepF ck (gLi 1 100) 1 sumR1 S=.go 2 (upd sumR1 1 (nv (wrapT tyU 100))) S:=rfl
 rw [h,wrap_sum 100 (.inr rfl)]
 rfl
theorem step_sum2:stepF ck gAdd 2 sumR2 S=bif (numF ck gAdd (nv 200) (nv 100)).2 != 0 then .done (.stop (numF ck gAdd (nv 200) (nv 100)).2) else .go 3 (upd sumR2 0 (nv (numF ck gAdd (nv 200) (nv 100)).1)) S:=rfl
theorem step_sum3 (R:Nat → Val):stepF ck gRet 3 R S=.done (.ret (R 0)):=rfl
end
theorem run_sum (A:Option Addr):Run [fSum A] true (.call 1 0 []) 0 (.stop 1) 3:=by
 refine .enter (by decide) (.go (by decide) (step_sum0 _ _) (.go (by decide) (step_sum1 _ _) (.done (by decide) ?_)))
 refine (step_sum2 _ _).trans ?_
 rw [num_sum]
 rfl
theorem run_sum2 (A:Option Addr):Run [fSum A] false (.call 1 0 []) 0 (.ret (nv 44)) 4:=by
 refine .enter (by decide) (.go (by decide) (step_sum0 _ _) (.go (by decide) (step_sum1 _ _) (.go (by decide) (p':=3) (R':=upd sumR2 0 (nv 44)) (S':=fun i=>([]:List Val).getD i default) ?_ (.done (by decide) (step_sum3 _ _ _)))))
 refine (step_sum2 _ _).trans ?_
 rw [num_sum2]
 rfl
theorem out_sum (A:Option Addr):(outR [fSum A] ⟨#[102]⟩ [] true).1=.stop 1:=by
 unfold outR
 rw [if_pos (runE_sum A),index_sum]
 have h:=runX_eq (run_sum A)
 exact congrArg (·.1) h
theorem out_sum2 (A:Option Addr):(outR [fSum A] ⟨#[102]⟩ [] false).1=.ret (nv 44):=by
 unfold outR
 rw [if_pos (runE_sum A),index_sum]
 have h:=runX_eq (run_sum2 A)
 exact congrArg (·.1) h
end Go.Proofs.YtcoookehfhhhdaaGreatDoor.c
