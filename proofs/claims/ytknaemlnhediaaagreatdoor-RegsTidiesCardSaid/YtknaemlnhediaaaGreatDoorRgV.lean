/- Contracts of the functions of package regs that look at an instruction: within, isPlain, isInt, isOperation, isReg, isSlot, goes, leads. The table strings.asciiSpace holds what its text lays. Memory of regs.bound.isInst: the boxes of the bound and of the instruction, and the six marks. No condition. -/
import Derived.Test.YtknaemlnhediaaaGreatDoorRgD
import Derived.Test.YtknaemlnhediaaaGreatDoorFlow
namespace Go.Proofs.YtknaemlnhediaaaGreatDoor.c
open Go.RowKit
set_option linter.unusedVariables false
set_option maxRecDepth 100000
set_option maxHeartbeats 1600000
set_option linter.unusedSimpArgs false
theorem gwithin_any (a b c:Int) (w:World) :
  Calls Tryz.prog 140 #[.int .i64 a,.int .i64 b,.int .i64 c] w fun e w'=>e=.returned (.bool (inB a b c))∧w=w':=by
 go_enter Tryz.func140,Tryz.ntmps140
 go_wp2
 all_goals (go_ret; exact ⟨ret_bool (by unfold inB; rw [Bool.eq_iff_iff]; simp; omega),rfl⟩)
theorem gvalidate_ty (t:Ty) (w:World) (g:Laid w):Calls Tryz.prog 128 #[.agg #[.int .i64 t.base,.int .i64 t.bits,.string t.name,.bool t.opt,.bool t.err]] w fun r w'=>r=.returned (.int .i64 (if isTypeS t then 0 else 1))∧Ext w w':=validateType_any _ _ _ _ _ w g
theorem gisPlain_ty (t:Ty) (w:World) (g:Laid w) :
  Calls Tryz.prog 175 #[.agg #[.int .i64 t.base,.int .i64 t.bits,.string t.name,.bool t.opt,.bool t.err]] w fun r w'=>r=.returned (.bool (isPlainS t))∧Ext w w':=by
 cases h:isTypeS t
 all_goals
  go_enter Tryz.func175,Tryz.ntmps175
  go_wp2_with (first
   | (go_at_call 128; refine (gvalidate_ty t _ (g.ext exA)).mono ?_; rw [h]; rintro r w1 ⟨rfl,x1⟩; have y1:=x1.facts; have z1:=x1.z0))
  all_goals
   go_ret
   exact ⟨ret_bool (by unfold isPlainS; rw [h]; simp [*]),exA⟩
theorem gisInt_ty (t:Ty) (w:World) (g:Laid w) :
  Calls Tryz.prog 174 #[.agg #[.int .i64 t.base,.int .i64 t.bits,.string t.name,.bool t.opt,.bool t.err]] w fun r w'=>r=.returned (.bool (isIntS t))∧Ext w w':=by
 cases h:isPlainS t
 all_goals
  have HH:=Lib.hid h
  clear h
  go_enter Tryz.func174,Tryz.ntmps174
  go_wp2_with (first
   | (go_at_call 175; refine (gisPlain_ty t _ (g.ext exA)).mono ?_; rw [HH.out]; rintro r w1 ⟨rfl,x1⟩; have y1:=x1.facts; have z1:=x1.z0))
  all_goals
   go_ret
   exact ⟨ret_bool (by unfold isIntS; rw [HH.out]; simp [*]),exA⟩
def In64 (z:Int):Prop:=-9223372036854775808 ≤ z∧z ≤ 9223372036854775807
theorem wrap_op {op:Int} (h:In64 op) (lo hi:Int) (h1:0 ≤ lo) (h2:hi ≤ 1000):inB (IntKind.i64.wrap (op - 100)) lo hi=inB op (lo + 100) (hi + 100):=by
 obtain ⟨h3,h4⟩:=h
 unfold inB
 by_cases h5:-9223372036854775708 ≤ op
 ·rw [IntWalk.i64_in _ (by omega),Bool.eq_iff_iff]
  simp
  omega
 ·have:IntKind.i64.wrap (op - 100)=op - 100 + 18446744073709551616:=by
   unfold IntKind.wrap
   simp [IntKind.signed,IntKind.bits]
   omega
  rw [this,Bool.eq_iff_iff]
  simp
  omega
theorem isOperation_any (op:Int) (w:World) (h:In64 op) :
  Calls Tryz.prog 172 #[.int .i64 op] w fun e w'=>e=.returned (.tuple #[.bool (inB op 105 117),.bool (inB op 118 123)])∧w=w':=by
 have e1:=Lib.hid (wrap_op h 5 17 (by decide) (by decide))
 have e2:=Lib.hid (wrap_op h 18 23 (by decide) (by decide))
 obtain ⟨z,hz⟩:∃ z,IntKind.i64.wrap (op - 100)=z:=⟨_,rfl⟩
 rw [hz] at e1 e2
 have hz2:wrap64 (op - 100)=z:=by rw [← hz]; exact (IntWalk.i64_left _).symm
 clear h hz
 go_enter Tryz.func172,Tryz.ntmps172
 go_wp2_with (first
  | (go_at_call 140; refine (gwithin_any _ _ _ _).mono ?_; rintro r w' ⟨rfl,rfl⟩))
 go_ret2
 exact ⟨by rw [e1.out,e2.out]; rfl,rfl⟩
theorem isReg_any (regs code:Int) (fn:Value) (n:Int) (w:World) (h1:1 ≤ regs) (h2:regs ≤ 6) :
  Calls Tryz.prog 173 #[.agg #[.int .i64 regs,.int .i64 code,fn],.int .i64 n] w fun e w'=>e=.returned (.bool (inB n 0 (regs - 1)))∧Ext w w':=by
 go_enter Tryz.func173,Tryz.ntmps173
 go_wp2_with (first
  | (go_at_call 140; refine (gwithin_any _ _ _ _).mono ?_; rintro r w' ⟨rfl,rfl⟩))
 go_ret
 exact ⟨rfl,exA⟩
theorem isSlot_any (n:Int) (w:World):Calls Tryz.prog 176 #[.int .i64 n] w fun e w'=>e=.returned (.bool (inB n 0 299))∧w=w':=by
 go_enter Tryz.func176,Tryz.ntmps176
 go_wp2_with (first
  | (go_at_call 140; refine (gwithin_any _ _ _ _).mono ?_; rintro r w' ⟨rfl,rfl⟩))
 go_ret
 exact ⟨rfl,rfl⟩
def goesR (op:Int):Bool:=op != 12 && (op != 15 && op != 17)
theorem ggoes_any (op:Int) (w:World):Calls Tryz.prog 148 #[.int .i64 op] w fun e w'=>e=.returned (.bool (goesR op))∧w=w':=by
 go_enter Tryz.func148,Tryz.ntmps148
 by_cases h1:op=12
 ·subst h1
  go_wp2
  go_ret
  exact ⟨rfl,rfl⟩
 ·by_cases h2:op=15
  ·subst h2
   go_wp2
   go_ret
   exact ⟨rfl,rfl⟩
  ·have e1:(op != 12)=true:=by simpa using h1
   have e2:(op != 15)=true:=by simpa using h2
   go_wp2
   go_ret
   exact ⟨ret_bool (by unfold goesR; rw [e1,e2]; rfl),rfl⟩
def leadsR (op:Int):Bool:=op == 12 || (op == 13 || (op == 10 || op == 11))
theorem gleads_any (op:Int) (w:World):Calls Tryz.prog 163 #[.int .i64 op] w fun e w'=>e=.returned (.bool (leadsR op))∧w=w':=by
 go_enter Tryz.func163,Tryz.ntmps163
 rcases (show op=12 ∨ op=13 ∨ op=10 ∨ (op ≠ 12∧op ≠ 13∧op ≠ 10) by omega) with rfl | rfl | rfl | ⟨h1,h2,h3⟩
 case' inr.inr.inr =>
  have e1:(op == 12)=false:=by simpa using h1
  have e2:(op == 13)=false:=by simpa using h2
  have e3:(op == 10)=false:=by simpa using h3
  have HL:=Lib.hid (show leadsR op=(op == 11) by unfold leadsR; rw [e1,e2,e3]; rfl)
 all_goals
  go_wp2
  go_ret
  exact ⟨ret_bool (by first | exact HL.out.symm | rfl),rfl⟩
theorem enters_isReg:Enters 173 := Enters.of Tryz.func173 (by kernel_rfl) (by kernel_rfl)
theorem enters_gwithin:Enters 140 := Enters.of Tryz.func140 (by kernel_rfl) (by kernel_rfl)
theorem enters_isSlot:Enters 176 := Enters.of Tryz.func176 (by kernel_rfl) (by kernel_rfl)
theorem enters_gisInt:Enters 174 := Enters.of Tryz.func174 (by kernel_rfl) (by kernel_rfl)
theorem enters_isName:Enters 144 := Enters.of Tryz.func144 (by kernel_rfl) (by kernel_rfl)
theorem isOperation_as {op:Int} {t c:Bool} (w:World) (h:In64 op) (h1:inB op 105 117=t) (h2:inB op 118 123=c) :
  Calls Tryz.prog 172 #[.int .i64 op] w fun e w'=>e=.returned (.tuple #[.bool t,.bool c])∧w=w':=by
 have:=isOperation_any op w h
 rwa [h1,h2] at this
structure IM (w0 w:World) (g:Nat) (B X F:Array Value):Prop where
 ext:Ext w0 w
 bb:Blk w g 153 B
 xx:Blk w (g + 1) 67 X
 ff:Blk w (g + 2) 225 F
 base:w0.heap.size ≤ g
section
variable {w0 w w':World} {g:Nat} {B X F:Array Value}
theorem IM.ext' (h:IM w0 w g B X F) (x:Ext w w'):IM w0 w' g B X F:=⟨h.ext.trans x,h.bb.ext x,h.xx.ext x,h.ff.ext x,h.base⟩
theorem IM.set (h:IM w0 w g B X F) (i:Nat) (u:Value):IM w0 (w.setCell ⟨g + 2,i,none⟩ u) g B X (F.setIfInBounds i u) :=
 ⟨h.ext.setCell (by have:=h.base; simp; omega) u,h.bb.far (by simp) u,h.xx.far (by simp) u,h.ff.set_ i u,h.base⟩
end
theorem IM.start (w:World) (B X F:Array Value):IM w ((((w.alloc (.cells B 153)).alloc (.cells X 67)).alloc (.cells F 225)).drew) w.heap.size B X F:=by
 have h2:=Blk.new (w.alloc (.cells B 153)) 67 X
 have h3:=Blk.new ((w.alloc (.cells B 153)).alloc (.cells X 67)) 225 F
 rw [size_alloc] at h2 h3
 rw [size_alloc] at h3
 exact ⟨((((Ext.refl w).alloc _).alloc _).alloc _).drew,(((Blk.new w _ _).alloc _).alloc _).drew,(h2.alloc _).drew,h3.drew,Nat.le_refl _⟩
def selB (l:Array Bool) (k:Nat) (v u:Value):Value:=if l.getD k false=true then v else u
theorem selB_ne {l:Array Bool} {k i:Nat} {v u:Value} (h:i ≠ k):selB (l.setIfInBounds i true) k v u=selB l k v u:=by
 unfold selB
 rw [getD_set_ne false h]
theorem selB_eq {l:Array Bool} {i:Nat} {v u:Value} (h:i < l.size):selB (l.setIfInBounds i true) i v u=v:=by
 unfold selB
 rw [if_pos]
 simp [Array.getD,h]
def IMs (n:Nat) (w0:World) (g:Nat) (B X:Array Value) (F:Array Bool → Array Value) (l:Array Bool) (w:World):Prop:=l.size=n∧IM w0 w g B X (F l)
theorem IMs.same {n:Nat} {w0:World} {g:Nat} {B X:Array Value} {F:Array Bool → Array Value} {i:Nat} (h:∀ l:Array Bool,F (l.setIfInBounds i true)=F l) (l:Array Bool) (w:World):IMs n w0 g B X F (l.setIfInBounds i true) w ↔ IMs n w0 g B X F l w:=by
 unfold IMs
 rw [h,Array.size_setIfInBounds]
theorem IMs.call {n:Nat} {w0:World} {g:Nat} {B X:Array Value} {F:Array Bool → Array Value} {K:Nat} {args:Array Value} {v:Value} (h:∀ w,Ext w0 w → Calls Tryz.prog K args w fun e w'=>e=.returned v∧Ext w w') :
  ∀ (l:Array Bool) (w:World),IMs n w0 g B X F l w → Calls Tryz.prog K args w fun e w'=>e=.returned v∧IMs n w0 g B X F l w' :=
 fun l w hm=>(h w hm.2.ext).mono fun e w' he=>⟨he.1,hm.1,hm.2.ext' he.2⟩
theorem IMs.store {n:Nat} {w0:World} {g:Nat} {B X:Array Value} {F:Array Bool → Array Value} {ops:Array Oper} {o:Oper} {a:Act} {k i:Nat} {b:Bool} {x y:Operand} (ho:o.op=.store 4 x y) (hg:o.guard=none)
  (hx:a.eval x=.pointer (some ⟨g + 2,k,none⟩)) (hy:a.eval y=.bool b) (hi:i < n) (hs:∀ l:Array Bool,(F l).size=6) (hk:k < 6) (h:∀ l:Array Bool,i < l.size → (F l).setIfInBounds k (.bool b)=F (l.setIfInBounds i true)) :
  StoresIf Tryz.prog ops (IMs n w0 g B X F) i o a:=by
 refine ⟨by unfold Region.wanted; rw [hg],fun l w hm=>⟨_,w.setCell ⟨g + 2,k,none⟩ (.bool b),?_,.inr rfl,?_⟩⟩
 ·have c0:=hm.2.ff.cell k
  rw [Array.getElem?_eq_getElem (by rw [hs]; exact hk)] at c0
  have f0:=hm.2.ff.frozen k
  unfold execOp
  simp only [ho,hx,hy]
  go_simp
 ·refine ⟨by rw [Array.size_setIfInBounds]; exact hm.1,?_⟩
  rw [← h l (by rw [hm.1]; exact hi)]
  exact hm.2.set k _
theorem run_six (p q r s t u:Bool) (w:World):(binOp .eql 225 (.agg #[.bool p,.bool q,.bool r,.bool s,.bool t,.bool u]) (.agg #[.bool true,.bool true,.bool true,.bool true,.bool true,.bool true])).run Tryz.prog w=.ok (.bool (p && (q && (r && (s && (t && u)))))) w:=by
 go_simp
 cases p <;> cases q <;> cases r <;> cases s <;> cases t <;> cases u <;> simp
theorem inst_six {pb:Bool} {regs code:Int} {x:Rg} {K N E:Bool} (ho:isOpB x.op=true) (h14:x.op ≠ 14) (hr:restR pb x=(N && K)) (he:((x.args.length:Int) == 0)=E) :
  instR pb regs code x=(isPartB (partsR x.op).1 x.d regs code && (isPartB (partsR x.op).2.1 x.a regs code && (isPartB (partsR x.op).2.2 x.b regs code && (K && (N && E))))):=by
 unfold instR
 rw [ho,argsB_other h14,hr,← he]
 have:x.args.isEmpty=((x.args.length:Int) == 0):=by
  cases x.args with
  | nil=>rfl
  | cons y t=>rw [eq_comm,List.isEmpty_cons,beq_eq_false_iff_ne,List.length_cons]; omega
 rw [this]
 generalize ((x.args.length:Int) == 0)=e
 cases e <;> cases N <;> cases K <;> simp
theorem args_empty (args:List Int):args.isEmpty=((args.length:Int) == 0):=by
 cases args with
 | nil=>rfl
 | cons y t=>rw [eq_comm,List.isEmpty_cons,beq_eq_false_iff_ne,List.length_cons]; omega
theorem inst_zero {pb:Bool} {regs code d a b:Int} {ty:Ty} {nm:ByteArray} {A:Option Addr} {cap:Nat} {args:List Int} :
  instR pb regs code ⟨0,d,a,b,ty,nm,A,cap,args⟩=(inB d 0 (regs - 1) && (inB a (-2147483648) 2147483648 && (b == 0 && (pushS ty && (emp nm && ((args.length:Int) == 0)))))):=by
 have h:instR pb regs code ⟨0,d,a,b,ty,nm,A,cap,args⟩=(true && (inB d 0 (regs - 1) && (true && (b == 0 && (argsB ⟨0,d,a,b,ty,nm,A,cap,args⟩ && (emp nm && (inB a (-2147483648) 2147483648 && pushS ty))))))):=rfl
 rw [h,argsB_other (show (0:Int) ≠ 14 by decide),args_empty]
 generalize ((args.length:Int) == 0)=e
 generalize inB a (-2147483648) 2147483648=f
 cases e <;> cases f <;> cases pushS ty <;> cases emp nm <;> simp
theorem inst_stop {pb:Bool} {regs code d a b:Int} {ty:Ty} {nm:ByteArray} {A:Option Addr} {cap:Nat} {args:List Int} :
  instR pb regs code ⟨17,d,a,b,ty,nm,A,cap,args⟩=(d == 0 && (inB a 1 5 && (b == 0 && (tz ty && (emp nm && ((args.length:Int) == 0)))))):=by
 have h:instR pb regs code ⟨17,d,a,b,ty,nm,A,cap,args⟩=(true && (d == 0 && (true && (b == 0 && (argsB ⟨17,d,a,b,ty,nm,A,cap,args⟩ && (emp nm && (inB a 1 5 && tz ty))))))):=rfl
 rw [h,argsB_other (show (17:Int) ≠ 14 by decide),args_empty]
 generalize ((args.length:Int) == 0)=e
 generalize inB a 1 5=f
 cases e <;> cases f <;> cases tz ty <;> cases emp nm <;> simp
theorem inst_callR {pb:Bool} {regs code d a b:Int} {ty:Ty} {nm:ByteArray} {A:Option Addr} {cap:Nat} {args:List Int} :
  instR pb regs code ⟨14,d,a,b,ty,nm,A,cap,args⟩=(inB d 0 (regs - 1) && (a == 0 && (b == 0 && (tz ty && (pb && args.all fun i=>inB i 0 299))))):=by
 have h:instR pb regs code ⟨14,d,a,b,ty,nm,A,cap,args⟩=(true && (inB d 0 (regs - 1) && (a == 0 && (b == 0 && (argsB ⟨14,d,a,b,ty,nm,A,cap,args⟩ && (pb && tz ty)))))):=rfl
 rw [h,argsB_call rfl]
 generalize (args.all fun i=>inB i 0 299)=e
 cases e <;> cases pb <;> cases tz ty <;> simp
theorem partsR_op {op:Int} (h:18 ≤ op):partsR op=(1,1,1):=by
 unfold partsR
 rw [if_neg (by omega),if_neg (by omega),if_neg (by omega),if_neg (by omega),if_neg (by omega),if_neg (by omega),if_neg (by omega),if_neg (by omega),if_neg (by omega)]
theorem inst_big {pb:Bool} {regs code op d a b:Int} {ty:Ty} {nm:ByteArray} {A:Option Addr} {cap:Nat} {args:List Int} {K:Bool} (h:(105 ≤ op∧op ≤ 117∧K=isIntS ty) ∨ (118 ≤ op∧op ≤ 123∧K=tz ty)) :
  instR pb regs code ⟨op,d,a,b,ty,nm,A,cap,args⟩=(inB d 0 (regs - 1) && (inB a 0 (regs - 1) && (inB b 0 (regs - 1) && (K && (emp nm && ((args.length:Int) == 0)))))):=by
 have h18:18 ≤ op:=by omega
 have ho:isOpB op=true:=by unfold isOpB inB; simp; omega
 have hr:restR pb ⟨op,d,a,b,ty,nm,A,cap,args⟩=(emp nm && K):=by
  unfold restR
  simp only []
  rw [if_neg (by omega),if_neg (by omega),if_neg (by omega),if_neg (by omega),if_neg (by omega)]
  rcases h with ⟨h1,h2,rfl⟩ | ⟨h1,h2,rfl⟩
  ·rw [if_pos ⟨h1,h2⟩]
  ·rw [if_neg (by omega)]
 rw [inst_six ho (by show op ≠ 14; omega) hr rfl]
 simp only []
 rw [partsR_op h18]
 rfl
theorem inst_no {pb:Bool} {regs code op d a b:Int} {ty:Ty} {nm:ByteArray} {A:Option Addr} {cap:Nat} {args:List Int} (h:op < 0 ∨ (18 ≤ op∧op < 105) ∨ 123 < op):instR pb regs code ⟨op,d,a,b,ty,nm,A,cap,args⟩=false:=by
 have ho:isOpB op=false:=by unfold isOpB inB; simp; omega
 unfold instR
 simp only []
 rw [ho]
 rfl
abbrev xC (op d a b:Int) (ty:Ty) (nm:ByteArray) (A:Option Addr) (cap n:Nat):Array Value:=#[.int .i64 op,.int .i64 d,.int .i64 a,.int .i64 b,.int .i64 ty.base,.int .i64 ty.bits,.string ty.name,.bool ty.opt,.bool ty.err,.string nm,.slice A n cap]
theorem XBx (w:World) (regs code:Int) (fn:Value) (op d a b:Int) (ty:Ty) (nm:ByteArray) (A:Option Addr) (cap n:Nat):∀ w',Ext ((w.alloc (.cells #[.int .i64 regs,.int .i64 code,fn] 153)).alloc (.cells #[.int .i64 op,.int .i64 d,.int .i64 a,.int .i64 b,.int .i64 ty.base,.int .i64 ty.bits,.string ty.name,.bool ty.opt,.bool ty.err,.string nm,.slice A n cap] 67)) w' → w'.cell? ⟨w.heap.size + 1,1,none⟩=some (.int .i64 d)∧w'.cell? ⟨w.heap.size + 1,2,none⟩=some (.int .i64 a)∧w'.cell? ⟨w.heap.size + 1,3,none⟩=some (.int .i64 b)∧w'.cell? ⟨w.heap.size + 1,4,none⟩=some (.int .i64 ty.base)∧w'.cell? ⟨w.heap.size + 1,5,none⟩=some (.int .i64 ty.bits)∧w'.cell? ⟨w.heap.size + 1,6,none⟩=some (.string ty.name)∧w'.cell? ⟨w.heap.size + 1,7,none⟩=some (.bool ty.opt)∧w'.cell? ⟨w.heap.size + 1,8,none⟩=some (.bool ty.err)∧w'.cell? ⟨w.heap.size + 1,9,none⟩=some (.string nm)∧w'.cell? ⟨w.heap.size + 1,10,none⟩=some (.slice A n cap):=by
 intro w' x
 have hb:Blk w' (w.heap.size + 1) 67 #[.int .i64 op,.int .i64 d,.int .i64 a,.int .i64 b,.int .i64 ty.base,.int .i64 ty.bits,.string ty.name,.bool ty.opt,.bool ty.err,.string nm,.slice A n cap]:=by
  have h:=(Blk.new (w.alloc (.cells #[.int .i64 regs,.int .i64 code,fn] 153)) 67 #[.int .i64 op,.int .i64 d,.int .i64 a,.int .i64 b,.int .i64 ty.base,.int .i64 ty.bits,.string ty.name,.bool ty.opt,.bool ty.err,.string nm,.slice A n cap]).ext x
  rwa [size_alloc] at h
 exact ⟨hb.cell 1,hb.cell 2,hb.cell 3,hb.cell 4,hb.cell 5,hb.cell 6,hb.cell 7,hb.cell 8,hb.cell 9,hb.cell 10⟩
theorem IMs.fx (m:Nat) (w:World) (g:Nat) (regs code:Int) (fn:Value) (op d a b:Int) (ty:Ty) (nm:ByteArray) (A:Option Addr) (cap n:Nat) (F:Array Bool → Array Value):∀ (w':World) {l:Array Bool},IMs m w g #[.int .i64 regs,.int .i64 code,fn] #[.int .i64 op,.int .i64 d,.int .i64 a,.int .i64 b,.int .i64 ty.base,.int .i64 ty.bits,.string ty.name,.bool ty.opt,.bool ty.err,.string nm,.slice A n cap] F l w' →
  w'.cell? ⟨g,0,none⟩=some (.int .i64 regs)∧w'.cell? ⟨g,1,none⟩=some (.int .i64 code)∧w'.cell? ⟨g,2,none⟩=some fn∧w'.cell? ⟨g + 1,1,none⟩=some (.int .i64 d)∧w'.cell? ⟨g + 1,2,none⟩=some (.int .i64 a)∧w'.cell? ⟨g + 1,3,none⟩=some (.int .i64 b)∧w'.cell? ⟨g + 1,4,none⟩=some (.int .i64 ty.base)∧w'.cell? ⟨g + 1,5,none⟩=some (.int .i64 ty.bits)∧w'.cell? ⟨g + 1,6,none⟩=some (.string ty.name)∧w'.cell? ⟨g + 1,7,none⟩=some (.bool ty.opt)∧w'.cell? ⟨g + 1,8,none⟩=some (.bool ty.err)∧w'.cell? ⟨g + 1,9,none⟩=some (.string nm)∧w'.cell? ⟨g + 1,10,none⟩=some (.slice A n cap) :=
 fun w' l hm=>⟨hm.2.bb.cell 0,hm.2.bb.cell 1,hm.2.bb.cell 2,hm.2.xx.cell 1,hm.2.xx.cell 2,hm.2.xx.cell 3,hm.2.xx.cell 4,hm.2.xx.cell 5,hm.2.xx.cell 6,hm.2.xx.cell 7,hm.2.xx.cell 8,hm.2.xx.cell 9,hm.2.xx.cell 10⟩
theorem IM.cs {w0 w:World} {g:Nat} {regs code:Int} {fn:Value} {op d a b:Int} {ty:Ty} {nm:ByteArray} {A:Option Addr} {cap n:Nat} {f0 f1 f2 f3 f4 f5:Value} (h:IM w0 w g #[.int .i64 regs,.int .i64 code,fn] #[.int .i64 op,.int .i64 d,.int .i64 a,.int .i64 b,.int .i64 ty.base,.int .i64 ty.bits,.string ty.name,.bool ty.opt,.bool ty.err,.string nm,.slice A n cap] #[f0,f1,f2,f3,f4,f5]) :
  w.cell? ⟨g,0,none⟩=some (.int .i64 regs)∧w.cell? ⟨g,1,none⟩=some (.int .i64 code)∧w.cell? ⟨g,2,none⟩=some fn∧w.cell? ⟨g + 1,0,none⟩=some (.int .i64 op)∧w.cell? ⟨g + 1,1,none⟩=some (.int .i64 d)∧w.cell? ⟨g + 1,2,none⟩=some (.int .i64 a)∧w.cell? ⟨g + 1,3,none⟩=some (.int .i64 b)∧w.cell? ⟨g + 1,4,none⟩=some (.int .i64 ty.base)∧w.cell? ⟨g + 1,5,none⟩=some (.int .i64 ty.bits)∧w.cell? ⟨g + 1,6,none⟩=some (.string ty.name)∧w.cell? ⟨g + 1,7,none⟩=some (.bool ty.opt)∧w.cell? ⟨g + 1,8,none⟩=some (.bool ty.err)∧w.cell? ⟨g + 1,9,none⟩=some (.string nm)∧w.cell? ⟨g + 1,10,none⟩=some (.slice A n cap) ∧
  w.cell? ⟨g + 2,0,none⟩=some f0∧w.cell? ⟨g + 2,1,none⟩=some f1∧w.cell? ⟨g + 2,2,none⟩=some f2∧w.cell? ⟨g + 2,3,none⟩=some f3∧w.cell? ⟨g + 2,4,none⟩=some f4∧w.cell? ⟨g + 2,5,none⟩=some f5∧w.frozen? ⟨g + 2,0,none⟩=false∧w.frozen? ⟨g + 2,1,none⟩=false∧w.frozen? ⟨g + 2,2,none⟩=false∧w.frozen? ⟨g + 2,3,none⟩=false∧w.frozen? ⟨g + 2,4,none⟩=false∧w.frozen? ⟨g + 2,5,none⟩=false∧g < w.heap.size∧g + 1 < w.heap.size∧g + 2 < w.heap.size :=
 ⟨h.bb.cell 0,h.bb.cell 1,h.bb.cell 2,h.xx.cell 0,h.xx.cell 1,h.xx.cell 2,h.xx.cell 3,h.xx.cell 4,h.xx.cell 5,h.xx.cell 6,h.xx.cell 7,h.xx.cell 8,h.xx.cell 9,h.xx.cell 10,h.ff.cell 0,h.ff.cell 1,h.ff.cell 2,h.ff.cell 3,h.ff.cell 4,h.ff.cell 5,h.ff.frozen 0,h.ff.frozen 1,h.ff.frozen 2,h.ff.frozen 3,h.ff.frozen 4,h.ff.frozen 5,h.bb.lt,h.xx.lt,h.ff.lt⟩
end Go.Proofs.YtknaemlnhediaaaGreatDoor.c
