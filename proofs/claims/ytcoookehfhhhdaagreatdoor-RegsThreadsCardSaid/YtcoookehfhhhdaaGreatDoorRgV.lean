/- Contracts of the functions of package regs that look at an instruction: within, isPlain, isInt, isOperation, isReg, isSlot, goes, leads. The table strings.asciiSpace holds what its text lays. Memory of regs.bound.isInst: the boxes of the bound and of the instruction, and the six marks. No condition. Contracts of the library's IndexFunc and ContainsFunc at register code's types; isInst's closure. Conditions: lengths. Contract of regs.bound.isInst: the call. The table strings.asciiSpace holds what its text lays. -/
import Derived.Test.YtcoookehfhhhdaaGreatDoorRgD
import Derived.Test.YtcoookehfhhhdaaGreatDoorFlow
import Derived.Deep.RegionHeld3
namespace Go.Proofs.YtcoookehfhhhdaaGreatDoor.c
open Go.RowKit
set_option linter.unusedVariables false
set_option maxRecDepth 100000
set_option maxHeartbeats 6400000
set_option linter.unusedSimpArgs false
theorem gwithin_any (a b c:Int) (w:World) :
  Calls Tryz.prog 78 #[.int .i64 a,.int .i64 b,.int .i64 c] w fun e w'=>e=.returned (.bool (inB a b c))∧w=w':=by
 go_enter Tryz.func78,Tryz.ntmps78
 go_wp2
 all_goals (go_ret; exact ⟨ret_bool (by unfold inB; rw [Bool.eq_iff_iff]; simp; omega),rfl⟩)
theorem gvalidate_ty (t:Ty) (w:World) (g:Laid w):Calls Tryz.prog 96 #[.agg #[.int .i64 t.base,.int .i64 t.bits,.string t.name,.bool t.opt,.bool t.err]] w fun r w'=>r=.returned (.int .i64 (if isTypeS t then 0 else 1))∧Ext w w':=validateType_any _ _ _ _ _ w g
theorem gisPlain_ty (t:Ty) (w:World) (g:Laid w) :
  Calls Tryz.prog 140 #[.agg #[.int .i64 t.base,.int .i64 t.bits,.string t.name,.bool t.opt,.bool t.err]] w fun r w'=>r=.returned (.bool (isPlainS t))∧Ext w w':=by
 cases h:isTypeS t
 all_goals
  go_enter Tryz.func140,Tryz.ntmps140
  go_wp2_with (first
   | (go_at_call 96; refine (gvalidate_ty t _ (g.ext exA)).mono ?_; rw [h]; rintro r w1 ⟨rfl,x1⟩; have y1:=x1.facts; have z1:=x1.z0))
  all_goals
   go_ret
   exact ⟨ret_bool (by unfold isPlainS; rw [h]; simp [*]),exA⟩
theorem gisInt_ty (t:Ty) (w:World) (g:Laid w) :
  Calls Tryz.prog 139 #[.agg #[.int .i64 t.base,.int .i64 t.bits,.string t.name,.bool t.opt,.bool t.err]] w fun r w'=>r=.returned (.bool (isIntS t))∧Ext w w':=by
 cases h:isPlainS t
 all_goals
  have HH:=Lib.hid h
  clear h
  go_enter Tryz.func139,Tryz.ntmps139
  go_wp2_with (first
   | (go_at_call 140; refine (gisPlain_ty t _ (g.ext exA)).mono ?_; rw [HH.out]; rintro r w1 ⟨rfl,x1⟩; have y1:=x1.facts; have z1:=x1.z0))
  all_goals
   go_ret
   exact ⟨ret_bool (by unfold isIntS; rw [HH.out]; simp [*]),exA⟩
def In64 (z:Int):Prop:=-9223372036854775808 ≤ z∧z ≤ 9223372036854775807
theorem wrap_op {op:Int} (h:In64 op) (lo hi:Int) (h1:0 ≤ lo) (h2:hi ≤ 1000):inB (IntKind.i64.wrap (op - 100)) lo hi=inB op (lo + 100) (hi + 100):=by
 obtain ⟨h3,h4⟩:=h
 unfold inB
 by_cases h5:-9223372036854775708 ≤ op
 ·rw [IntWalk.i64_in _ (by omega),Bool.eq_iff_iff]
  simp
  omega
 ·have:IntKind.i64.wrap (op - 100)=op - 100 + 18446744073709551616:=by
   unfold IntKind.wrap
   simp [IntKind.signed,IntKind.bits]
   omega
  rw [this,Bool.eq_iff_iff]
  simp
  omega
theorem isOperation_any (op:Int) (w:World) (h:In64 op) :
  Calls Tryz.prog 137 #[.int .i64 op] w fun e w'=>e=.returned (.tuple #[.bool (inB op 105 117),.bool (inB op 118 123)])∧w=w':=by
 have e1:=Lib.hid (wrap_op h 5 17 (by decide) (by decide))
 have e2:=Lib.hid (wrap_op h 18 23 (by decide) (by decide))
 obtain ⟨z,hz⟩:∃ z,IntKind.i64.wrap (op - 100)=z:=⟨_,rfl⟩
 rw [hz] at e1 e2
 have hz2:wrap64 (op - 100)=z:=by rw [← hz]; exact (IntWalk.i64_left _).symm
 clear h hz
 go_enter Tryz.func137,Tryz.ntmps137
 go_wp2_with (first
  | (go_at_call 78; refine (gwithin_any _ _ _ _).mono ?_; rintro r w' ⟨rfl,rfl⟩))
 go_ret2
 exact ⟨by rw [e1.out,e2.out]; rfl,rfl⟩
theorem isReg_any (regs code:Int) (fn:Value) (n:Int) (w:World) (h1:1 ≤ regs) (h2:regs ≤ 6) :
  Calls Tryz.prog 138 #[.agg #[.int .i64 regs,.int .i64 code,fn],.int .i64 n] w fun e w'=>e=.returned (.bool (inB n 0 (regs - 1)))∧Ext w w':=by
 go_enter Tryz.func138,Tryz.ntmps138
 go_wp2_with (first
  | (go_at_call 78; refine (gwithin_any _ _ _ _).mono ?_; rintro r w' ⟨rfl,rfl⟩))
 go_ret
 exact ⟨rfl,exA⟩
theorem isSlot_any (n:Int) (w:World):Calls Tryz.prog 141 #[.int .i64 n] w fun e w'=>e=.returned (.bool (inB n 0 299))∧w=w':=by
 go_enter Tryz.func141,Tryz.ntmps141
 go_wp2_with (first
  | (go_at_call 78; refine (gwithin_any _ _ _ _).mono ?_; rintro r w' ⟨rfl,rfl⟩))
 go_ret
 exact ⟨rfl,rfl⟩
def goesR (op:Int):Bool:=op != 12 && (op != 15 && op != 17)
theorem ggoes_any (op:Int) (w:World):Calls Tryz.prog 101 #[.int .i64 op] w fun e w'=>e=.returned (.bool (goesR op))∧w=w':=by
 go_enter Tryz.func101,Tryz.ntmps101
 by_cases h1:op=12
 ·subst h1
  go_wp2
  go_ret
  exact ⟨rfl,rfl⟩
 ·by_cases h2:op=15
  ·subst h2
   go_wp2
   go_ret
   exact ⟨rfl,rfl⟩
  ·have e1:(op != 12)=true:=by simpa using h1
   have e2:(op != 15)=true:=by simpa using h2
   go_wp2
   go_ret
   exact ⟨ret_bool (by unfold goesR; rw [e1,e2]; rfl),rfl⟩
def leadsR (op:Int):Bool:=op == 12 || (op == 13 || (op == 10 || op == 11))
theorem gleads_any (op:Int) (w:World):Calls Tryz.prog 53 #[.int .i64 op] w fun e w'=>e=.returned (.bool (leadsR op))∧w=w':=by
 go_enter Tryz.func53,Tryz.ntmps53
 rcases (show op=12 ∨ op=13 ∨ op=10 ∨ (op ≠ 12∧op ≠ 13∧op ≠ 10) by omega) with rfl | rfl | rfl | ⟨h1,h2,h3⟩
 case' inr.inr.inr =>
  have e1:(op == 12)=false:=by simpa using h1
  have e2:(op == 13)=false:=by simpa using h2
  have e3:(op == 10)=false:=by simpa using h3
  have HL:=Lib.hid (show leadsR op=(op == 11) by unfold leadsR; rw [e1,e2,e3]; rfl)
 all_goals
  go_wp2
  go_ret
  exact ⟨ret_bool (by first | exact HL.out.symm | rfl),rfl⟩
theorem enters_isReg:Enters 138 := Enters.of Tryz.func138 (by kernel_rfl) (by kernel_rfl)
theorem enters_gwithin:Enters 78 := Enters.of Tryz.func78 (by kernel_rfl) (by kernel_rfl)
theorem enters_isSlot:Enters 141 := Enters.of Tryz.func141 (by kernel_rfl) (by kernel_rfl)
theorem enters_gisInt:Enters 139 := Enters.of Tryz.func139 (by kernel_rfl) (by kernel_rfl)
theorem enters_isName:Enters 95 := Enters.of Tryz.func95 (by kernel_rfl) (by kernel_rfl)
theorem isOperation_as {op:Int} {t c:Bool} (w:World) (h:In64 op) (h1:inB op 105 117=t) (h2:inB op 118 123=c) :
  Calls Tryz.prog 137 #[.int .i64 op] w fun e w'=>e=.returned (.tuple #[.bool t,.bool c])∧w=w':=by
 have:=isOperation_any op w h
 rwa [h1,h2] at this
structure IM (w0 w:World) (g:Nat) (B X F:Array Value):Prop where
 ext:Ext w0 w
 bb:Blk w g 153 B
 xx:Blk w (g + 1) 83 X
 ff:Blk w (g + 2) 192 F
 base:w0.heap.size ≤ g
section
variable {w0 w w':World} {g:Nat} {B X F:Array Value}
theorem IM.ext' (h:IM w0 w g B X F) (x:Ext w w'):IM w0 w' g B X F:=⟨h.ext.trans x,h.bb.ext x,h.xx.ext x,h.ff.ext x,h.base⟩
theorem IM.set (h:IM w0 w g B X F) (i:Nat) (u:Value):IM w0 (w.setCell ⟨g + 2,i,none⟩ u) g B X (F.setIfInBounds i u) :=
 ⟨h.ext.setCell (by have:=h.base; simp; omega) u,h.bb.far (by simp) u,h.xx.far (by simp) u,h.ff.set_ i u,h.base⟩
end
theorem IM.start (w:World) (B X F:Array Value):IM w ((((w.alloc (.cells B 153)).alloc (.cells X 83)).alloc (.cells F 192)).drew) w.heap.size B X F:=by
 have h2:=Blk.new (w.alloc (.cells B 153)) 83 X
 have h3:=Blk.new ((w.alloc (.cells B 153)).alloc (.cells X 83)) 192 F
 rw [size_alloc] at h2 h3
 rw [size_alloc] at h3
 exact ⟨((((Ext.refl w).alloc _).alloc _).alloc _).drew,(((Blk.new w _ _).alloc _).alloc _).drew,(h2.alloc _).drew,h3.drew,Nat.le_refl _⟩
def selB (l:Array Bool) (k:Nat) (v u:Value):Value:=if l.getD k false=true then v else u
theorem selB_ne {l:Array Bool} {k i:Nat} {v u:Value} (h:i ≠ k):selB (l.setIfInBounds i true) k v u=selB l k v u:=by
 unfold selB
 rw [getD_set_ne false h]
theorem selB_eq {l:Array Bool} {i:Nat} {v u:Value} (h:i < l.size):selB (l.setIfInBounds i true) i v u=v:=by
 unfold selB
 rw [if_pos]
 simp [Array.getD,h]
def IMs (n:Nat) (w0:World) (g:Nat) (B X:Array Value) (F:Array Bool → Array Value) (l:Array Bool) (w:World):Prop:=l.size=n∧IM w0 w g B X (F l)
theorem IMs.same {n:Nat} {w0:World} {g:Nat} {B X:Array Value} {F:Array Bool → Array Value} {i:Nat} (h:∀ l:Array Bool,F (l.setIfInBounds i true)=F l) (l:Array Bool) (w:World):IMs n w0 g B X F (l.setIfInBounds i true) w ↔ IMs n w0 g B X F l w:=by
 unfold IMs
 rw [h,Array.size_setIfInBounds]
theorem IMs.call {n:Nat} {w0:World} {g:Nat} {B X:Array Value} {F:Array Bool → Array Value} {K:Nat} {args:Array Value} {v:Value} (h:∀ w,Ext w0 w → Calls Tryz.prog K args w fun e w'=>e=.returned v∧Ext w w') :
  ∀ (l:Array Bool) (w:World),IMs n w0 g B X F l w → Calls Tryz.prog K args w fun e w'=>e=.returned v∧IMs n w0 g B X F l w' :=
 fun l w hm=>(h w hm.2.ext).mono fun e w' he=>⟨he.1,hm.1,hm.2.ext' he.2⟩
theorem IMs.store {n:Nat} {w0:World} {g:Nat} {B X:Array Value} {F:Array Bool → Array Value} {ops:Array Oper} {o:Oper} {a:Act} {k i:Nat} {b:Bool} {x y:Operand} (ho:o.op=.store 4 x y) (hg:o.guard=none)
  (hx:a.eval x=.pointer (some ⟨g + 2,k,none⟩)) (hy:a.eval y=.bool b) (hi:i < n) (hs:∀ l:Array Bool,(F l).size=6) (hk:k < 6) (h:∀ l:Array Bool,i < l.size → (F l).setIfInBounds k (.bool b)=F (l.setIfInBounds i true)) :
  StoresIf Tryz.prog ops (IMs n w0 g B X F) i o a:=by
 refine ⟨by unfold Region.wanted; rw [hg],fun l w hm=>⟨_,w.setCell ⟨g + 2,k,none⟩ (.bool b),?_,.inr rfl,?_⟩⟩
 ·have c0:=hm.2.ff.cell k
  rw [Array.getElem?_eq_getElem (by rw [hs]; exact hk)] at c0
  have f0:=hm.2.ff.frozen k
  unfold execOp
  simp only [ho,hx,hy]
  go_simp
 ·refine ⟨by rw [Array.size_setIfInBounds]; exact hm.1,?_⟩
  rw [← h l (by rw [hm.1]; exact hi)]
  exact hm.2.set k _
theorem run_six (p q r s t u:Bool) (w:World):(binOp .eql 192 (.agg #[.bool p,.bool q,.bool r,.bool s,.bool t,.bool u]) (.agg #[.bool true,.bool true,.bool true,.bool true,.bool true,.bool true])).run Tryz.prog w=.ok (.bool (p && (q && (r && (s && (t && u)))))) w:=by
 go_simp
 cases p <;> cases q <;> cases r <;> cases s <;> cases t <;> cases u <;> simp
theorem inst_six {pb:Bool} {regs code:Int} {x:Rg} {K N E:Bool} (ho:isOpB x.op=true) (h14:x.op ≠ 14) (hr:restR pb x=(N && K)) (he:((x.args.length:Int) == 0)=E) :
  instR pb regs code x=(isPartB (partsR x.op).1 x.d regs code && (isPartB (partsR x.op).2.1 x.a regs code && (isPartB (partsR x.op).2.2 x.b regs code && (K && (N && E))))):=by
 unfold instR
 rw [ho,argsB_other h14,hr,← he]
 have:x.args.isEmpty=((x.args.length:Int) == 0):=by
  cases x.args with
  | nil=>rfl
  | cons y t=>rw [eq_comm,List.isEmpty_cons,beq_eq_false_iff_ne,List.length_cons]; omega
 rw [this]
 generalize ((x.args.length:Int) == 0)=e
 cases e <;> cases N <;> cases K <;> simp
theorem args_empty (args:List Int):args.isEmpty=((args.length:Int) == 0):=by
 cases args with
 | nil=>rfl
 | cons y t=>rw [eq_comm,List.isEmpty_cons,beq_eq_false_iff_ne,List.length_cons]; omega
theorem inst_zero {pb:Bool} {regs code d a b:Int} {ty:Ty} {nm:ByteArray} {A:Option Addr} {cap:Nat} {args:List Int} :
  instR pb regs code ⟨0,d,a,b,ty,nm,A,cap,args⟩=(inB d 0 (regs - 1) && (inB a (-2147483648) 2147483648 && (b == 0 && (pushS ty && (emp nm && ((args.length:Int) == 0)))))):=by
 have h:instR pb regs code ⟨0,d,a,b,ty,nm,A,cap,args⟩=(true && (inB d 0 (regs - 1) && (true && (b == 0 && (argsB ⟨0,d,a,b,ty,nm,A,cap,args⟩ && (emp nm && (inB a (-2147483648) 2147483648 && pushS ty))))))):=rfl
 rw [h,argsB_other (show (0:Int) ≠ 14 by decide),args_empty]
 generalize ((args.length:Int) == 0)=e
 generalize inB a (-2147483648) 2147483648=f
 cases e <;> cases f <;> cases pushS ty <;> cases emp nm <;> simp
theorem inst_stop {pb:Bool} {regs code d a b:Int} {ty:Ty} {nm:ByteArray} {A:Option Addr} {cap:Nat} {args:List Int} :
  instR pb regs code ⟨17,d,a,b,ty,nm,A,cap,args⟩=(d == 0 && (inB a 1 5 && (b == 0 && (tz ty && (emp nm && ((args.length:Int) == 0)))))):=by
 have h:instR pb regs code ⟨17,d,a,b,ty,nm,A,cap,args⟩=(true && (d == 0 && (true && (b == 0 && (argsB ⟨17,d,a,b,ty,nm,A,cap,args⟩ && (emp nm && (inB a 1 5 && tz ty))))))):=rfl
 rw [h,argsB_other (show (17:Int) ≠ 14 by decide),args_empty]
 generalize ((args.length:Int) == 0)=e
 generalize inB a 1 5=f
 cases e <;> cases f <;> cases tz ty <;> cases emp nm <;> simp
theorem inst_callR {pb:Bool} {regs code d a b:Int} {ty:Ty} {nm:ByteArray} {A:Option Addr} {cap:Nat} {args:List Int} :
  instR pb regs code ⟨14,d,a,b,ty,nm,A,cap,args⟩=(inB d 0 (regs - 1) && (a == 0 && (b == 0 && (tz ty && (pb && args.all fun i=>inB i 0 299))))):=by
 have h:instR pb regs code ⟨14,d,a,b,ty,nm,A,cap,args⟩=(true && (inB d 0 (regs - 1) && (a == 0 && (b == 0 && (argsB ⟨14,d,a,b,ty,nm,A,cap,args⟩ && (pb && tz ty)))))):=rfl
 rw [h,argsB_call rfl]
 generalize (args.all fun i=>inB i 0 299)=e
 cases e <;> cases pb <;> cases tz ty <;> simp
theorem partsR_op {op:Int} (h:18 ≤ op):partsR op=(1,1,1):=by
 unfold partsR
 rw [if_neg (by omega),if_neg (by omega),if_neg (by omega),if_neg (by omega),if_neg (by omega),if_neg (by omega),if_neg (by omega),if_neg (by omega),if_neg (by omega)]
theorem inst_big {pb:Bool} {regs code op d a b:Int} {ty:Ty} {nm:ByteArray} {A:Option Addr} {cap:Nat} {args:List Int} {K:Bool} (h:(105 ≤ op∧op ≤ 117∧K=isIntS ty) ∨ (118 ≤ op∧op ≤ 123∧K=tz ty)) :
  instR pb regs code ⟨op,d,a,b,ty,nm,A,cap,args⟩=(inB d 0 (regs - 1) && (inB a 0 (regs - 1) && (inB b 0 (regs - 1) && (K && (emp nm && ((args.length:Int) == 0)))))):=by
 have h18:18 ≤ op:=by omega
 have ho:isOpB op=true:=by unfold isOpB inB; simp; omega
 have hr:restR pb ⟨op,d,a,b,ty,nm,A,cap,args⟩=(emp nm && K):=by
  unfold restR
  simp only []
  rw [if_neg (by omega),if_neg (by omega),if_neg (by omega),if_neg (by omega),if_neg (by omega)]
  rcases h with ⟨h1,h2,rfl⟩ | ⟨h1,h2,rfl⟩
  ·rw [if_pos ⟨h1,h2⟩]
  ·rw [if_neg (by omega)]
 rw [inst_six ho (by show op ≠ 14; omega) hr rfl]
 simp only []
 rw [partsR_op h18]
 rfl
theorem inst_no {pb:Bool} {regs code op d a b:Int} {ty:Ty} {nm:ByteArray} {A:Option Addr} {cap:Nat} {args:List Int} (h:op < 0 ∨ (18 ≤ op∧op < 105) ∨ 123 < op):instR pb regs code ⟨op,d,a,b,ty,nm,A,cap,args⟩=false:=by
 have ho:isOpB op=false:=by unfold isOpB inB; simp; omega
 unfold instR
 simp only []
 rw [ho]
 rfl
abbrev xC (op d a b:Int) (ty:Ty) (nm:ByteArray) (A:Option Addr) (cap n:Nat):Array Value:=#[.int .i64 op,.int .i64 d,.int .i64 a,.int .i64 b,.int .i64 ty.base,.int .i64 ty.bits,.string ty.name,.bool ty.opt,.bool ty.err,.string nm,.slice A n cap]
theorem XBx (w:World) (regs code:Int) (fn:Value) (op d a b:Int) (ty:Ty) (nm:ByteArray) (A:Option Addr) (cap n:Nat):∀ w',Ext ((w.alloc (.cells #[.int .i64 regs,.int .i64 code,fn] 153)).alloc (.cells #[.int .i64 op,.int .i64 d,.int .i64 a,.int .i64 b,.int .i64 ty.base,.int .i64 ty.bits,.string ty.name,.bool ty.opt,.bool ty.err,.string nm,.slice A n cap] 83)) w' → w'.cell? ⟨w.heap.size + 1,1,none⟩=some (.int .i64 d)∧w'.cell? ⟨w.heap.size + 1,2,none⟩=some (.int .i64 a)∧w'.cell? ⟨w.heap.size + 1,3,none⟩=some (.int .i64 b)∧w'.cell? ⟨w.heap.size + 1,4,none⟩=some (.int .i64 ty.base)∧w'.cell? ⟨w.heap.size + 1,5,none⟩=some (.int .i64 ty.bits)∧w'.cell? ⟨w.heap.size + 1,6,none⟩=some (.string ty.name)∧w'.cell? ⟨w.heap.size + 1,7,none⟩=some (.bool ty.opt)∧w'.cell? ⟨w.heap.size + 1,8,none⟩=some (.bool ty.err)∧w'.cell? ⟨w.heap.size + 1,9,none⟩=some (.string nm)∧w'.cell? ⟨w.heap.size + 1,10,none⟩=some (.slice A n cap):=by
 intro w' x
 have hb:Blk w' (w.heap.size + 1) 83 #[.int .i64 op,.int .i64 d,.int .i64 a,.int .i64 b,.int .i64 ty.base,.int .i64 ty.bits,.string ty.name,.bool ty.opt,.bool ty.err,.string nm,.slice A n cap]:=by
  have h:=(Blk.new (w.alloc (.cells #[.int .i64 regs,.int .i64 code,fn] 153)) 83 #[.int .i64 op,.int .i64 d,.int .i64 a,.int .i64 b,.int .i64 ty.base,.int .i64 ty.bits,.string ty.name,.bool ty.opt,.bool ty.err,.string nm,.slice A n cap]).ext x
  rwa [size_alloc] at h
 exact ⟨hb.cell 1,hb.cell 2,hb.cell 3,hb.cell 4,hb.cell 5,hb.cell 6,hb.cell 7,hb.cell 8,hb.cell 9,hb.cell 10⟩
theorem IMs.fx (m:Nat) (w:World) (g:Nat) (regs code:Int) (fn:Value) (op d a b:Int) (ty:Ty) (nm:ByteArray) (A:Option Addr) (cap n:Nat) (F:Array Bool → Array Value):∀ (w':World) {l:Array Bool},IMs m w g #[.int .i64 regs,.int .i64 code,fn] #[.int .i64 op,.int .i64 d,.int .i64 a,.int .i64 b,.int .i64 ty.base,.int .i64 ty.bits,.string ty.name,.bool ty.opt,.bool ty.err,.string nm,.slice A n cap] F l w' →
  w'.cell? ⟨g,0,none⟩=some (.int .i64 regs)∧w'.cell? ⟨g,1,none⟩=some (.int .i64 code)∧w'.cell? ⟨g,2,none⟩=some fn∧w'.cell? ⟨g + 1,1,none⟩=some (.int .i64 d)∧w'.cell? ⟨g + 1,2,none⟩=some (.int .i64 a)∧w'.cell? ⟨g + 1,3,none⟩=some (.int .i64 b)∧w'.cell? ⟨g + 1,4,none⟩=some (.int .i64 ty.base)∧w'.cell? ⟨g + 1,5,none⟩=some (.int .i64 ty.bits)∧w'.cell? ⟨g + 1,6,none⟩=some (.string ty.name)∧w'.cell? ⟨g + 1,7,none⟩=some (.bool ty.opt)∧w'.cell? ⟨g + 1,8,none⟩=some (.bool ty.err)∧w'.cell? ⟨g + 1,9,none⟩=some (.string nm)∧w'.cell? ⟨g + 1,10,none⟩=some (.slice A n cap) :=
 fun w' l hm=>⟨hm.2.bb.cell 0,hm.2.bb.cell 1,hm.2.bb.cell 2,hm.2.xx.cell 1,hm.2.xx.cell 2,hm.2.xx.cell 3,hm.2.xx.cell 4,hm.2.xx.cell 5,hm.2.xx.cell 6,hm.2.xx.cell 7,hm.2.xx.cell 8,hm.2.xx.cell 9,hm.2.xx.cell 10⟩
theorem IM.cs {w0 w:World} {g:Nat} {regs code:Int} {fn:Value} {op d a b:Int} {ty:Ty} {nm:ByteArray} {A:Option Addr} {cap n:Nat} {f0 f1 f2 f3 f4 f5:Value} (h:IM w0 w g #[.int .i64 regs,.int .i64 code,fn] #[.int .i64 op,.int .i64 d,.int .i64 a,.int .i64 b,.int .i64 ty.base,.int .i64 ty.bits,.string ty.name,.bool ty.opt,.bool ty.err,.string nm,.slice A n cap] #[f0,f1,f2,f3,f4,f5]) :
  w.cell? ⟨g,0,none⟩=some (.int .i64 regs)∧w.cell? ⟨g,1,none⟩=some (.int .i64 code)∧w.cell? ⟨g,2,none⟩=some fn∧w.cell? ⟨g + 1,0,none⟩=some (.int .i64 op)∧w.cell? ⟨g + 1,1,none⟩=some (.int .i64 d)∧w.cell? ⟨g + 1,2,none⟩=some (.int .i64 a)∧w.cell? ⟨g + 1,3,none⟩=some (.int .i64 b)∧w.cell? ⟨g + 1,4,none⟩=some (.int .i64 ty.base)∧w.cell? ⟨g + 1,5,none⟩=some (.int .i64 ty.bits)∧w.cell? ⟨g + 1,6,none⟩=some (.string ty.name)∧w.cell? ⟨g + 1,7,none⟩=some (.bool ty.opt)∧w.cell? ⟨g + 1,8,none⟩=some (.bool ty.err)∧w.cell? ⟨g + 1,9,none⟩=some (.string nm)∧w.cell? ⟨g + 1,10,none⟩=some (.slice A n cap) ∧
  w.cell? ⟨g + 2,0,none⟩=some f0∧w.cell? ⟨g + 2,1,none⟩=some f1∧w.cell? ⟨g + 2,2,none⟩=some f2∧w.cell? ⟨g + 2,3,none⟩=some f3∧w.cell? ⟨g + 2,4,none⟩=some f4∧w.cell? ⟨g + 2,5,none⟩=some f5∧w.frozen? ⟨g + 2,0,none⟩=false∧w.frozen? ⟨g + 2,1,none⟩=false∧w.frozen? ⟨g + 2,2,none⟩=false∧w.frozen? ⟨g + 2,3,none⟩=false∧w.frozen? ⟨g + 2,4,none⟩=false∧w.frozen? ⟨g + 2,5,none⟩=false∧g < w.heap.size∧g + 1 < w.heap.size∧g + 2 < w.heap.size :=
 ⟨h.bb.cell 0,h.bb.cell 1,h.bb.cell 2,h.xx.cell 0,h.xx.cell 1,h.xx.cell 2,h.xx.cell 3,h.xx.cell 4,h.xx.cell 5,h.xx.cell 6,h.xx.cell 7,h.xx.cell 8,h.xx.cell 9,h.xx.cell 10,h.ff.cell 0,h.ff.cell 1,h.ff.cell 2,h.ff.cell 3,h.ff.cell 4,h.ff.cell 5,h.ff.frozen 0,h.ff.frozen 1,h.ff.frozen 2,h.ff.frozen 3,h.ff.frozen 4,h.ff.frozen 5,h.bb.lt,h.xx.lt,h.ff.lt⟩
def anyR (p:Nat → Bool) (n:Nat):Bool:=decide (0 ≤ findI p n)
theorem anyR_iff {p:Nat → Bool} {n:Nat}:anyR p n=true ↔ ∃ k,k < n∧p k=true:=by
 unfold anyR
 rw [decide_eq_true_eq]
 rcases findI_cases p n with ⟨h,hn⟩ | ⟨k,h,hk,hp,_⟩
 ·rw [h]
  constructor
  ·intro h; omega
  ·rintro ⟨k,hk,hp⟩; rw [hn k hk] at hp; cases hp
 ·rw [h]
  exact ⟨fun _=>⟨k,hk,hp⟩,fun _=>by omega⟩
theorem indexFuncI_any (A:Option Addr) (n cap:Nat) (K:Nat) (caps:Array Value) (w:World) (hn:n ≤ 9223372036854775807)
  (c:Nat → Nat → Value) (hA:At w A n 1 c) (hK:Enters K) (p:Nat → Bool)
  (hp:∀ i w1,i < n → Ext w w1 → Calls Tryz.prog K (#[c i 0] ++ caps) w1 fun e w2=>e=.returned (.bool (p i))∧Ext w1 w2) :
  Calls Tryz.prog 178 #[.slice A n cap,.func (.func K) #[] caps] w fun e w'=>e=.returned (.int .i64 (findI p n))∧Ext w w':=by
 have HP:=Lib.hid hp; clear hp
 go_enter Tryz.func178,Tryz.ntmps178
 go_wp2
 go_loopw [5,8] (fun _ i wr=>∃ k:Nat,k ≤ n∧i=.int .i64 k∧(∀ j,j < k → p j=false)∧Ext w wr) (fun _ i _=>n - (intOf i).toNat)
 case atStart=>exact ⟨0,Nat.zero_le _,rfl,by omega,Ext.refl _⟩
 case round =>
  obtain ⟨k,hk,rfl,hnone,hx⟩:=hrel
  have HN:=Lib.hid hnone; clear hnone
  by_cases hlt:k < n
  ·obtain ⟨b,off,rfl,hb,c0⟩:=(hA.ext hx).one hlt
   go_wp2_with fail
   have HP1:=Lib.hid (HP.out k wr hlt hx)
   simp only [hK _ _]
   go_wp2_with fail
   refine (HP1.out).mono ?_
   rintro e w1 ⟨rfl,x1⟩
   cases hpk:p k
   ·go_wp2_with fail
    go_roundw
    case rel=>exact ⟨k + 1,by omega,by go_num,(fun j hj=>by rcases Nat.lt_or_ge j k with h | h; exact HN.out j h; obtain rfl:j=k:=(by omega); exact hpk),hx.trans x1⟩
    case measure=>simp [intOf]; omega
   ·go_wp2_with fail
    go_ret
    exact ⟨ret_int (findI_hit hlt hpk HN.out).symm,hx.trans x1⟩
  ·go_wp2_with fail
   go_ret
   exact ⟨ret_int (findI_none (fun j hj=>HN.out j (by omega))).symm,hx⟩
theorem containsFuncI_any (A:Option Addr) (n cap:Nat) (K:Nat) (caps:Array Value) (w:World) (hn:n ≤ 9223372036854775807)
  (c:Nat → Nat → Value) (hA:At w A n 1 c) (hK:Enters K) (p:Nat → Bool)
  (hp:∀ i w1,i < n → Ext w w1 → Calls Tryz.prog K (#[c i 0] ++ caps) w1 fun e w2=>e=.returned (.bool (p i))∧Ext w1 w2) :
  Calls Tryz.prog 142 #[.slice A n cap,.func (.func K) #[] caps] w fun e w'=>e=.returned (.bool (anyR p n))∧Ext w w':=by
 have HP:=Lib.hid hp; clear hp
 go_enter Tryz.func142,Tryz.ntmps142
 go_wp2_with fail
 refine (indexFuncI_any A n cap K caps w hn c hA hK p HP.out).mono ?_
 rintro e w1 ⟨rfl,x1⟩
 go_wp2_with fail
 go_ret
 exact ⟨rfl,x1⟩
theorem enters_isInst1:Enters 143 := Enters.of Tryz.func143 (by kernel_rfl) (by kernel_rfl)
theorem isInst1_any (n:Int) (w:World):Calls Tryz.prog 143 #[.int .i64 n] w fun e w'=>e=.returned (.bool (!inB n 0 299))∧w=w':=by
 go_enter Tryz.func143,Tryz.ntmps143
 go_wp2_with (first
  | (go_at_call 141; refine (isSlot_any _ _).mono ?_; rintro r w' ⟨rfl,rfl⟩))
 go_ret
 exact ⟨rfl,rfl⟩
theorem slots_any (A:Option Addr) (cap:Nat) (args:List Int) (w:World) (hA:NumsAt w A args) (hl:args.length ≤ 9223372036854775806) :
  Calls Tryz.prog 142 #[.slice A args.length cap,.func (.func 143) #[] #[]] w fun e w'=>e=.returned (.bool (!args.all fun i=>inB i 0 299))∧Ext w w':=by
 have h:=containsFuncI_any A args.length cap 143 #[] w (by omega) _ hA enters_isInst1 (fun i=>!inB (args.getD i 0) 0 299) (fun i w1 _ _=>(isInst1_any _ w1).mono fun e w2 he=>⟨he.1,he.2 ▸ Ext.refl _⟩)
 have e:anyR (fun i=>!inB (args.getD i 0) 0 299) args.length=!args.all fun i=>inB i 0 299:=by
  rw [Bool.eq_iff_iff,anyR_iff,Bool.not_eq_true',← Bool.not_eq_true,List.all_eq_true]
  constructor
  ·rintro ⟨k,hk,hp⟩ hall
   have:=hall _ (List.getElem_mem hk)
   rw [List.getD,List.getElem?_eq_getElem hk,Option.getD_some,this] at hp
   cases hp
  ·intro h
   rcases Classical.em (∃ k,k < args.length∧(!inB (args.getD k 0) 0 299)=true) with h2 | h2
   ·exact h2
   ·exfalso
    refine h fun x hx=>?_
    obtain ⟨k,hk,rfl⟩:=List.getElem_of_mem hx
    cases hi:inB args[k] 0 299
    ·refine absurd ⟨k,hk,?_⟩ h2
     rw [List.getD,List.getElem?_eq_getElem hk,Option.getD_some,hi]
     rfl
    ·rfl
 rwa [e] at h
theorem inst_callI (regs code:Int) (K:Nat) (caps:Array Value) (pb:Bool) (op d a b:Int) (ty:Ty) (nm:ByteArray) (A:Option Addr) (cap:Nat) (args:List Int) (w:World) (g:Laid w) (h1:1 ≤ regs) (h2:regs ≤ 6) (hc1:1 ≤ code) (hc2:code ≤ 1000000) (hal:args.length ≤ 9223372036854775806) (hK:Enters K) (HP:∀ w1,Ext w w1 → Calls Tryz.prog K (#[.string nm,.int .i64 args.length] ++ caps) w1 fun e w2=>e=.returned (.bool pb)∧Ext w1 w2) (hA:NumsAt w A args) (hop:op=14) :
  Calls Tryz.prog 100 #[.agg #[.int .i64 regs,.int .i64 code,.func (.func K) #[] caps],.agg #[.int .i64 op,.int .i64 d,.int .i64 a,.int .i64 b,.int .i64 ty.base,.int .i64 ty.bits,.string ty.name,.bool ty.opt,.bool ty.err,.string nm,.slice A args.length cap]] w fun e w'=>e=.returned (.bool (instR pb regs code ⟨op,d,a,b,ty,nm,A,cap,args⟩))∧Ext w w':=by
 subst hop
 have hq:=run_tz_eql ty
 have hem:nm.toList.isEmpty=emp nm:=rfl
 have HI:=Lib.hid (@inst_callR pb regs code d a b ty nm A cap args)
 have HIN:Hid (In64 14):=⟨by decide,by decide⟩
 have HT1:Hid (inB 14 105 117=false):=rfl
 have HT2:Hid (inB 14 118 123=false):=rfl
 have HPP:=Lib.hid HP
 clear HP
 have HA:=Lib.hid hA
 clear hA
 have XB:=Lib.hid (XBx w regs code (.func (.func K) #[] caps) 14 d a b ty nm A cap args.length)
 go_enter Tryz.func100,Tryz.ntmps100
 go_wp2_with fail
 go_region_held3 (fun w'=>w'.cell? ⟨w.heap.size + 1,1,none⟩=some (.int .i64 d)∧w'.cell? ⟨w.heap.size + 1,2,none⟩=some (.int .i64 a)∧w'.cell? ⟨w.heap.size + 1,3,none⟩=some (.int .i64 b)∧w'.cell? ⟨w.heap.size + 1,4,none⟩=some (.int .i64 ty.base)∧w'.cell? ⟨w.heap.size + 1,5,none⟩=some (.int .i64 ty.bits)∧w'.cell? ⟨w.heap.size + 1,6,none⟩=some (.string ty.name)∧w'.cell? ⟨w.heap.size + 1,7,none⟩=some (.bool ty.opt)∧w'.cell? ⟨w.heap.size + 1,8,none⟩=some (.bool ty.err)∧w'.cell? ⟨w.heap.size + 1,9,none⟩=some (.string nm)∧w'.cell? ⟨w.heap.size + 1,10,none⟩=some (.slice A args.length cap)) ((first | exact XB.out _ (Ext.refl _).drew | exact XB.out _ ((Ext.refl _).drew.alloc _) | exact XB.out _ ((Ext.refl _).alloc _).drew | (exact XB.out _ exL))) (fail)
 obtain ⟨m0,hm0⟩:∃ m,(d == 0)=m:=⟨_,rfl⟩
 obtain ⟨m1,hm1⟩:∃ m,(a == 0)=m:=⟨_,rfl⟩
 obtain ⟨m2,hm2⟩:∃ m,(b == 0)=m:=⟨_,rfl⟩
 obtain ⟨m3,hm3⟩:∃ m,tz ty=m:=⟨_,rfl⟩
 obtain ⟨m4,hm4⟩:∃ m,emp nm=m:=⟨_,rfl⟩
 obtain ⟨m5,hm5⟩:∃ m,((args.length:Int) == 0)=m:=⟨_,rfl⟩
 have M0:Hid (IM w ((((w.alloc (.cells #[.int .i64 regs,.int .i64 code,.func (.func K) #[] caps] 153)).alloc (.cells #[.int .i64 14,.int .i64 d,.int .i64 a,.int .i64 b,.int .i64 ty.base,.int .i64 ty.bits,.string ty.name,.bool ty.opt,.bool ty.err,.string nm,.slice A args.length cap] 83)).alloc (.cells #[.bool (d == 0),.bool (a == 0),.bool (b == 0),.bool (tz ty),.bool (emp nm),.bool ((args.length:Int) == 0)] 192)).drew) w.heap.size #[.int .i64 regs,.int .i64 code,.func (.func K) #[] caps] (xC 14 d a b ty nm A cap args.length) #[.bool m0,.bool m1,.bool m2,.bool m3,.bool m4,.bool m5]):=by
  rw [← hm0,← hm1,← hm2,← hm3,← hm4,← hm5]
  exact IM.start ..
 have HM:Hid ((d == 0)=m0∧(a == 0)=m1∧(b == 0)=m2∧tz ty=m3∧emp nm=m4∧((args.length:Int) == 0)=m5):=⟨hm0,hm1,hm2,hm3,hm4,hm5⟩
 generalize ((((w.alloc (.cells #[.int .i64 regs,.int .i64 code,.func (.func K) #[] caps] 153)).alloc (.cells #[.int .i64 14,.int .i64 d,.int .i64 a,.int .i64 b,.int .i64 ty.base,.int .i64 ty.bits,.string ty.name,.bool ty.opt,.bool ty.err,.string nm,.slice A args.length cap] 83)).alloc (.cells #[.bool (d == 0),.bool (a == 0),.bool (b == 0),.bool (tz ty),.bool (emp nm),.bool ((args.length:Int) == 0)] 192)).drew)=w1 at M0 ⊢
 clear hm0 hm1 hm2 hm3 hm4 hm5 XB hq hem
 obtain ⟨b0,b1,b2,x0,x1,x2,x3,x4,x5,x6,x7,x8,x9,x10,f0,f1,f2,f3,f4,f5,r0,r1,r2,r3,r4,r5,zb,zx,zf⟩:=IM.cs M0.out
 have h6:=run_six
 go_wp2_with (first
  | (go_at_call 137; refine (isOperation_as (t:=false) (c:=false) _ HIN.out HT1.out HT2.out).mono ?_; rintro r w' ⟨rfl,rfl⟩))
 clear b0 b1 b2 x0 x1 x2 x3 x4 x5 x6 x7 x8 x9 x10 f0 f1 f2 f3 f4 f5 r0 r1 r2 r3 r4 r5 zb zx zf h6
 obtain ⟨FF,hFF⟩:∃ FF:Array Bool → Array Value,FF=(fun l=>#[selB l 13 (.bool (inB d 0 (regs - 1))) (.bool m0),.bool m1,.bool m2,.bool m3,selB l 15 (.bool (pb)) (.bool m4),.bool m5]):=⟨_,rfl⟩
 have HCd:Hid (∀ (l:Array Bool) (w':World),IMs 16 w w.heap.size #[.int .i64 regs,.int .i64 code,.func (.func K) #[] caps] (xC 14 d a b ty nm A cap args.length) FF l w' → Calls Tryz.prog 138 #[.agg #[.int .i64 regs,.int .i64 code,.func (.func K) #[] caps],.int .i64 d] w' fun e w3=>e=.returned (.bool (inB d 0 (regs - 1)))∧IMs 16 w w.heap.size #[.int .i64 regs,.int .i64 code,.func (.func K) #[] caps] (xC 14 d a b ty nm A cap args.length) FF l w3):=IMs.call fun w' x=>isReg_any regs code (.func (.func K) #[] caps) d w' h1 h2
 have HCp:Hid (∀ (l:Array Bool) (w':World),IMs 16 w w.heap.size #[.int .i64 regs,.int .i64 code,.func (.func K) #[] caps] (xC 14 d a b ty nm A cap args.length) FF l w' → Calls Tryz.prog K (#[.string nm,.int .i64 args.length] ++ caps) w' fun e w3=>e=.returned (.bool (pb))∧IMs 16 w w.heap.size #[.int .i64 regs,.int .i64 code,.func (.func K) #[] caps] (xC 14 d a b ty nm A cap args.length) FF l w3):=IMs.call fun w' x=>HPP.out w' x
 have HD:=Lib.hid (IMs.fx 16 w w.heap.size regs code (.func (.func K) #[] caps) 14 d a b ty nm A cap args.length FF)
 have HST:∀ (i:Nat) (_:i ≠ 13:=by decide) (_:i ≠ 15:=by decide) (l:Array Bool) (w':World),IMs 16 w w.heap.size #[.int .i64 regs,.int .i64 code,.func (.func K) #[] caps] (xC 14 d a b ty nm A cap args.length) FF (l.setIfInBounds i true) w' ↔ IMs 16 w w.heap.size #[.int .i64 regs,.int .i64 code,.func (.func K) #[] caps] (xC 14 d a b ty nm A cap args.length) FF l w':=fun i n13 n15=>IMs.same fun l=>by rw [hFF]; simp only [selB_ne n13,selB_ne n15]
 have hS0:IMs 16 w w.heap.size #[.int .i64 regs,.int .i64 code,.func (.func K) #[] caps] (xC 14 d a b ty nm A cap args.length) FF #[false,false,false,false,false,false,false,false,false,false,false,false,false,false,false,false] w1.drew:=⟨rfl,by rw [hFF]; exact M0.out.ext' (Ext.refl _).drew⟩
 refine flow_begin (IMs 16 w w.heap.size #[.int .i64 regs,.int .i64 code,.func (.func K) #[] caps] (xC 14 d a b ty nm A cap args.length) FF) #[false,false,false,false,false,false,false,false,false,false,false,false,false,false,false,false] rfl (by kernel_rfl) (fun _ _ _ _ _ h=>h) (hS0) (fun HQ=>?_)
 (refine tt 0 177 rfl HQ (HST 0) ?_; try simp only [putL,List.set])
 (refine tt 1 178 rfl HQ (HST 1) ?_; try simp only [putL,List.set])
 (refine tt 2 179 rfl HQ (HST 2) ?_; try simp only [putL,List.set])
 (refine tc 3 180 rfl (by kernel_rfl) HQ (HST 3) (by rfl) (fun l w' hF=>?_) ((HCd.out)) ?_; (focus (have hq:=HD.out _ hF; go_simp; try simp only [enters_isReg _ _])); try simp only [putL,List.set])
 (refine tt 4 181 rfl HQ (HST 4) ?_; try simp only [putL,List.set])
 (refine tt 5 182 rfl HQ (HST 5) ?_; try simp only [putL,List.set])
 (refine tt 6 183 rfl HQ (HST 6) ?_; try simp only [putL,List.set])
 (refine tt 7 184 rfl HQ (HST 7) ?_; try simp only [putL,List.set])
 (refine tt 8 185 rfl HQ (HST 8) ?_; try simp only [putL,List.set])
 (refine tt 9 186 rfl HQ (HST 9) ?_; try simp only [putL,List.set])
 (refine tt 10 187 rfl HQ (HST 10) ?_; try simp only [putL,List.set])
 (refine tc 11 188 rfl (by kernel_rfl) HQ (HST 11) (by rfl) (fun l w' hF=>?_) ((HCp.out)) ?_; (focus (have hq:=HD.out _ hF; go_simp; try simp only [hK _ _])); try simp only [putL,List.set])
 (refine tt 12 189 rfl HQ (HST 12) ?_; try simp only [putL,List.set])
 (refine flow_put (i:=13) (oi:=⟨none,_,_,_,_,none⟩) rfl rfl (IMs.store (i:=13) (k:=0) (b:=inB d 0 (regs - 1)) rfl rfl rfl rfl (by decide) (fun l=>by rw [hFF]; rfl) (by decide) (fun l hl=>by rw [hFF]; simp only [selB_eq hl,selB_ne (show (13:Nat) ≠ 15 by decide)]; rfl)) (by kernel_rfl) ?_; try simp only [List.setIfInBounds_toArray,List.set_cons_zero,List.set_cons_succ])
 (refine tt 14 190 rfl HQ (HST 14) ?_; try simp only [putL,List.set])
 (refine flow_put (i:=15) (oi:=⟨none,_,_,_,_,none⟩) rfl rfl (IMs.store (i:=15) (k:=4) (b:=pb) rfl rfl rfl rfl (by decide) (fun l=>by rw [hFF]; rfl) (by decide) (fun l hl=>by rw [hFF]; simp only [selB_eq hl,selB_ne (show (15:Nat) ≠ 13 by decide)]; rfl)) (by kernel_rfl) ?_; try simp only [List.setIfInBounds_toArray,List.set_cons_zero,List.set_cons_succ])
 refine flow_done (by kernel_rfl) ?_
 intro w3 hm3
 have M3:Hid (IM w w3 w.heap.size #[.int .i64 regs,.int .i64 code,.func (.func K) #[] caps] (xC 14 d a b ty nm A cap args.length) #[.bool (inB d 0 (regs - 1)),.bool m1,.bool m2,.bool m3,.bool (pb),.bool m5]):=by
  have h:=hm3.2
  rw [hFF] at h
  exact h
 clear hm3 HD HST hFF HCd HCp
 obtain ⟨b0,b1,b2,x0,x1,x2,x3,x4,x5,x6,x7,x8,x9,x10,f0,f1,f2,f3,f4,f5,r0,r1,r2,r3,r4,r5,zb,zx,zf⟩:=IM.cs M3.out
 have h6:=run_six
 have x9w:=M3.out.ext
 go_wp2_with (first
  | fail
  | (go_at_call 142; refine (slots_any A cap args _ (HA.out.ext (x9w.trans exL)) hal).mono ?_; rintro r w4 ⟨rfl,x4⟩; have y4:=x4.facts; have z40:=Nat.lt_of_lt_of_le zx x4.size; have z41:=Nat.lt_of_lt_of_le zf x4.size))
 go_ret
 exact ⟨ret_bool (by
  obtain ⟨rfl,rfl,rfl,rfl,rfl,rfl⟩:=HM.out
  rw [HI.out]
  first | done | rfl | (simp; done)),exL⟩
end Go.Proofs.YtcoookehfhhhdaaGreatDoor.c
