/- Contracts of package num's asked, do, Do, Loose. Conditions: a type has 1 to 31 bits, the operation is one, the numbers are of the type. -/
import Derived.Test.YtknaemlnhediaaaGreatDoorNari
namespace Go.Proofs.YtknaemlnhediaaaGreatDoor.c
open Go.RowKit
set_option linter.unusedVariables false
set_option maxRecDepth 100000
set_option maxHeartbeats 6400000
set_option linter.unusedSimpArgs false

theorem asked_any (op:Int) (s:Bool) (b a c:Int) (w:World) (h1:1 ≤ b) (h2:b ≤ 31) (h3:5 ≤ op) (h4:op ≤ 17) (ha:fitI s b a=true) (hc:fitI s b c=true) :
  Calls Tryz.prog 293 #[.int .i64 op,.agg #[.bool s,.int .i64 b],.int .i64 a,.int .i64 c] w fun e w'=>e=.returned (.int .i64 0)∧Ext w w':=by
 have HV:=Lib.hid (vInt_zero h1 h2)
 have HA:=Lib.hid ha
 have HC:=Lib.hid hc
 clear ha hc
 have FF:Hid (∀ n w,fitI s b n=true → Calls Tryz.prog 292 #[.agg #[.bool s,.int .i64 b],.int .i64 n] w fun e w'=>e=.returned (.bool true)∧Ext w w'):=by
  intro n w hn
  have:=fits_any s b n w h1 h2
  rwa [hn] at this
 go_enter Tryz.func293,Tryz.ntmps293
 go_wp2_with (first
  | (go_at_call 196; refine (numValidate_any s b _).mono ?_; rw [HV.out]; rintro r w1 ⟨rfl,x1⟩; have y1:=x1.facts; have z1:=x1.z0)
  | (go_at_call 292; (with_reducible refine (FF.out a _ HA.out).mono ?_); rintro r w2 ⟨rfl,x2⟩; have y2:=x2.facts; have z2:=Nat.lt_of_lt_of_le z1 x2.size)
  | (go_at_call 292; (with_reducible refine (FF.out c _ HC.out).mono ?_); rintro r w3 ⟨rfl,x3⟩))
 all_goals
  go_ret
  exact ⟨rfl,exA⟩
def DoRet (op:Int) (s:Bool) (b a c:Int) (e:Ending):Prop:=e=.returned (.tuple #[.int .i64 (looseI op s b a c),.int .i64 (whyI op s b a c)])
theorem doRet {op:Int} {s:Bool} {b a c n y:Int} (h:looseI op s b a c=n) (h2:whyI op s b a c=y):DoRet op s b a c (.returned (.tuple #[.int .i64 n,.int .i64 y])):=by
 unfold DoRet; rw [h,h2]
theorem span_pow (b:Int):spanI b=2 ^ b.toNat:=rfl
theorem bend_bits {s:Bool} {b a c:Int} {x:Int} {op:Int} (hb:1 ≤ b∧b ≤ 31) (hop:15 ≤ op) (h:x % 2 ^ b.toNat=(bitN op (a % 2 ^ b.toNat).toNat (c % 2 ^ b.toNat).toNat:Nat)):looseI op s b a c=bendI s b x:=by
 unfold looseI
 rw [if_pos hop,span_pow,← h,← bend_emod s b x,span_pow]
theorem idx_at (w:World) (i:Int) (v:Value) (h1:0 ≤ i) (h2:i < 18) (h:.agg (opsC.extract (i.toNat * 2) (i.toNat * 2 + 2))=v):(Instr.index 349 (.agg opsC) (.int .i64 i)).run Tryz.prog w=.ok v w:=by
 subst h
 simp [Instr.index,run_underlying Tryz.underlying349,asIntOf,part,Tryz.isAgg348,Tryz.sizeOf348,go_sem,h1,h2]
theorem do_zero (op:Int) (s:Bool) (b a:Int) (w:World) (h:op=8 ∨ op=9) :
  Calls Tryz.prog 294 #[.int .i64 op,.agg #[.bool s,.int .i64 b],.int .i64 a,.int .i64 0] w fun e w'=>DoRet op s b a 0 e∧Ext w w':=by
 have H8:=Lib.hid (show DoRet 8 s b a 0 (.returned (.tuple #[.int .i64 0,.int .i64 2])) from doRet rfl rfl)
 have H9:=Lib.hid (show DoRet 9 s b a 0 (.returned (.tuple #[.int .i64 a,.int .i64 2])) from doRet rfl rfl)
 rcases h with rfl | rfl
 all_goals
  go_enter Tryz.func294,Tryz.ntmps294
  go_wp2_with fail
  go_ret2
  exact ⟨by first | exact H8.out | exact H9.out,exA⟩
theorem two_one (f g:Nat):∀ v ∈ (#[.func (.func f) #[] #[],.func (.func g) #[] #[]]:Array Value).toList,v.oneCell'=true:=by
 intro v hv
 simp at hv
 rcases hv with rfl | rfl <;> rfl
theorem two_none (f:Nat):∀ v ∈ (#[.func (.func f) #[] #[],.nilFunc]:Array Value).toList,v.oneCell'=true:=by
 intro v hv
 simp at hv
 rcases hv with rfl | rfl <;> rfl
theorem store_op {w1:World} {ops:Array Oper} {rest:List Oper} {o:Oper} {a:Act} {Q:Exit → Act → World → Prop} (f g:Value) (hgd:o.guard=none) (x y:Operand) (ho:o.op=.store 348 x y)
  (hx:a.eval x=.pointer (some ⟨w1.heap.size,0,none⟩)) (hy:a.eval y=.agg #[f,g]) (hz:(Tryz.prog.info? 348).map (·.size)=some 2) (h1:∀ v ∈ (#[f,g]:Array Value).toList,v.oneCell'=true)
  (h:∀ w2,Ext w1 w2 → w2.cell? ⟨w1.heap.size,0,none⟩=some f → w2.cell? ⟨w1.heap.size,1,none⟩=some g → w1.heap.size < w2.heap.size → wpList Tryz.prog ops Q rest (a.put o.dst undef) w2) :
  wpList Tryz.prog ops Q (o :: rest) a (w1.alloc (.cells #[.nilFunc,.nilFunc] 348)):=by
 refine wpList_store_row hgd 348 x y ho w1.heap.size hx 348 #[.nilFunc,.nilFunc] #[f,g] (Blk.new w1 _ _) hy rfl h1 hz ?_
 have B:=(Blk.new w1 348 #[.nilFunc,.nilFunc]).row #[f,g]
 exact h _ (((Ext.refl w1).alloc _).setRow (Nat.le_refl _) _) (B.cell 0) (B.cell 1) B.lt
theorem under_into:Tryz.prog.underlying 310 = some (.func #[193,3] #[3] false):=by kernel_rfl
theorem eq_some (d:Nat) (k:Nat) (w:World):(Op.equalIn (d + 1) 310 (.func (.func k) #[] #[]) .nilFunc).run Tryz.prog w=.ok false w:=by
 simp [Op.equalIn,run_underlying under_into]
theorem eq_none (d:Nat) (w:World):(Op.equalIn (d + 1) 310 .nilFunc .nilFunc).run Tryz.prog w=.ok true w:=by
 simp [Op.equalIn,run_underlying under_into]
theorem neq_some (k:Nat) (w:World):(binOp .neq 310 (.func (.func k) #[] #[]) .nilFunc).run Tryz.prog w=.ok (.bool true) w:=by
 have h:(Op.equal 310 (.func (.func k) #[] #[]) .nilFunc).run Tryz.prog w=.ok false w:=eq_some 9999 k w
 simp only [binOp]
 simp [h]
theorem neq_none (w:World):(binOp .neq 310 .nilFunc .nilFunc).run Tryz.prog w=.ok (.bool false) w:=by
 have h:(Op.equal 310 .nilFunc .nilFunc).run Tryz.prog w=.ok true w:=eq_none 9999 w
 simp only [binOp]
 simp [h]
theorem do_into_some (op:Int) (s:Bool) (b a c:Int) (w:World) (h1:1 ≤ b) (h2:b ≤ 31) (ha:-2147483648 ≤ a∧a ≤ 2147483648) (hc:-2147483648 ≤ c∧c ≤ 2147483648) (hz:¬ c=0) (h:op=10 ∨ op=11 ∨ op=12 ∨ op=13 ∨ op=14 ∨ op=15 ∨ op=16 ∨ op=17) :
  Calls Tryz.prog 294 #[.int .i64 op,.agg #[.bool s,.int .i64 b],.int .i64 a,.int .i64 c] w fun e w'=>DoRet op s b a c e∧Ext w w':=by
 have hb1:=bits_and a c b.toNat (by omega)
 have hb2:=bits_or a c b.toNat (by omega)
 have hb3:=bits_xor a c b.toNat (by omega)
 have hm:=mul_in ha hc
 have H10:=Lib.hid (show DoRet 10 s b a c (.returned (.tuple #[.int .i64 (bendI s b (a + c)),.int .i64 0])) from doRet rfl rfl)
 have H11:=Lib.hid (show DoRet 11 s b a c (.returned (.tuple #[.int .i64 (bendI s b (a - c)),.int .i64 0])) from doRet rfl rfl)
 have H12:=Lib.hid (show DoRet 12 s b a c (.returned (.tuple #[.int .i64 (bendI s b (a * c)),.int .i64 0])) from doRet rfl rfl)
 have H13:=Lib.hid (show DoRet 13 s b a c (.returned (.tuple #[.int .i64 (nearI s b (a + c)),.int .i64 0])) from doRet rfl rfl)
 have H14:=Lib.hid (show DoRet 14 s b a c (.returned (.tuple #[.int .i64 (nearI s b (a - c)),.int .i64 0])) from doRet rfl rfl)
 have H15:=Lib.hid (show DoRet 15 s b a c (.returned (.tuple #[.int .i64 (bendI s b (Go.bits .and .i64 a c)),.int .i64 0])) from doRet (bend_bits ⟨h1,h2⟩ (by decide) hb1) rfl)
 have H16:=Lib.hid (show DoRet 16 s b a c (.returned (.tuple #[.int .i64 (bendI s b (Go.bits .or .i64 a c)),.int .i64 0])) from doRet (bend_bits ⟨h1,h2⟩ (by decide) hb2) rfl)
 have H17:=Lib.hid (show DoRet 17 s b a c (.returned (.tuple #[.int .i64 (bendI s b (Go.bits .xor .i64 a c)),.int .i64 0])) from doRet (bend_bits ⟨h1,h2⟩ (by decide) hb3) rfl)
 have i10:=fun w=>idx_at w 10 (.agg #[.func (.func 333) #[] #[],.func (.func 291) #[] #[]]) (by decide) (by decide) rfl
 have i11:=fun w=>idx_at w 11 (.agg #[.func (.func 334) #[] #[],.func (.func 291) #[] #[]]) (by decide) (by decide) rfl
 have i12:=fun w=>idx_at w 12 (.agg #[.func (.func 335) #[] #[],.func (.func 291) #[] #[]]) (by decide) (by decide) rfl
 have i13:=fun w=>idx_at w 13 (.agg #[.func (.func 333) #[] #[],.func (.func 338) #[] #[]]) (by decide) (by decide) rfl
 have i14:=fun w=>idx_at w 14 (.agg #[.func (.func 334) #[] #[],.func (.func 338) #[] #[]]) (by decide) (by decide) rfl
 have i15:=fun w=>idx_at w 15 (.agg #[.func (.func 339) #[] #[],.func (.func 291) #[] #[]]) (by decide) (by decide) rfl
 have i16:=fun w=>idx_at w 16 (.agg #[.func (.func 340) #[] #[],.func (.func 291) #[] #[]]) (by decide) (by decide) rfl
 have i17:=fun w=>idx_at w 17 (.agg #[.func (.func 341) #[] #[],.func (.func 291) #[] #[]]) (by decide) (by decide) rfl
 have HZ:Hid ((Tryz.prog.info? 348).map (·.size)=some 2):=by unfold Hid; kernel_rfl
 have P1:=Lib.hid (show -9223372036854775808 ≤ a + c∧a + c ≤ 9223372036854775807 by omega)
 have P2:=Lib.hid (show -9223372036854775808 ≤ a - c∧a - c ≤ 9223372036854775807 by omega)
 have P3:=Lib.hid (show -9223372036854775808 ≤ a * c∧a * c ≤ 9223372036854775807 by omega)
 have n1:=neq_some 291
 have n2:=neq_some 338
 clear hb1 hb2 hb3 hm ha hc
 rcases h with rfl | rfl | rfl | rfl | rfl | rfl | rfl | rfl
 all_goals
  go_enter Tryz.func294,Tryz.ntmps294
  go_wp2_with (first
   | (go_at_call 322; refine (operations_any _).mono ?_; rintro r w1 ⟨rfl,x1⟩; have y1:=x1.facts; have z1:=x1.z0)
   | ((with_reducible show wpList _ _ _ (Oper.mk none (.store 348 (.tmp 10) (.tmp 27)) _ _ _ _ :: _) _ _)
      refine store_op _ _ rfl _ _ rfl rfl rfl HZ.out (by first | exact two_one _ _ | exact two_none _) ?_
      intro w2 x2 c0 c1 z2
      have y2:=x2.facts
      have zz2:w.heap.size < w2.heap.size:=Nat.lt_of_lt_of_le z1 (Nat.le_of_lt z2))
   | (go_at_call 333; refine (op_add _ _ _ P1.out).mono ?_; rintro r w' ⟨rfl,rfl⟩)
   | (go_at_call 334; refine (op_sub _ _ _ P2.out).mono ?_; rintro r w' ⟨rfl,rfl⟩)
   | (go_at_call 335; refine (op_mul _ _ _ P3.out).mono ?_; rintro r w' ⟨rfl,rfl⟩)
   | (go_at_call 339; refine (op_and _ _ _).mono ?_; rintro r w' ⟨rfl,rfl⟩)
   | (go_at_call 340; refine (op_or _ _ _).mono ?_; rintro r w' ⟨rfl,rfl⟩)
   | (go_at_call 341; refine (op_xor _ _ _).mono ?_; rintro r w' ⟨rfl,rfl⟩)
   | (go_at_call 291; refine (nwrap_any s b _ _ h1 h2).mono ?_; rintro r w4 ⟨rfl,x4⟩)
   | (go_at_call 338; refine (near_any s b _ _ h1 h2).mono ?_; rintro r w3 ⟨rfl,x3⟩))
  go_ret2
  exact ⟨by first | exact H10.out | exact H11.out | exact H12.out | exact H13.out | exact H14.out | exact H15.out | exact H16.out | exact H17.out,exA⟩
theorem do_into_zero (op:Int) (s:Bool) (b a:Int) (w:World) (h1:1 ≤ b) (h2:b ≤ 31) (ha:-2147483648 ≤ a∧a ≤ 2147483648) (h:op=10 ∨ op=11 ∨ op=12 ∨ op=13 ∨ op=14 ∨ op=15 ∨ op=16 ∨ op=17) :
  Calls Tryz.prog 294 #[.int .i64 op,.agg #[.bool s,.int .i64 b],.int .i64 a,.int .i64 0] w fun e w'=>DoRet op s b a 0 e∧Ext w w':=by
 have hb1:=bits_and a 0 b.toNat (by omega)
 have hb2:=bits_or a 0 b.toNat (by omega)
 have hb3:=bits_xor a 0 b.toNat (by omega)
 have hm:=mul_in ha (c:=0) (by decide)
 have H10:=Lib.hid (show DoRet 10 s b a 0 (.returned (.tuple #[.int .i64 (bendI s b a),.int .i64 0])) from doRet (by first | exact congrArg (bendI s b) (show a + 0=a by omega) | exact congrArg (nearI s b) (show a + 0=a by omega)) rfl)
 have H11:=Lib.hid (show DoRet 11 s b a 0 (.returned (.tuple #[.int .i64 (bendI s b a),.int .i64 0])) from doRet (by first | exact congrArg (bendI s b) (show a - 0=a by omega) | exact congrArg (nearI s b) (show a - 0=a by omega)) rfl)
 have H12:=Lib.hid (show DoRet 12 s b a 0 (.returned (.tuple #[.int .i64 (bendI s b 0),.int .i64 0])) from doRet (by first | exact congrArg (bendI s b) (show a * 0=0 by omega) | exact congrArg (nearI s b) (show a * 0=0 by omega)) rfl)
 have H13:=Lib.hid (show DoRet 13 s b a 0 (.returned (.tuple #[.int .i64 (nearI s b a),.int .i64 0])) from doRet (by first | exact congrArg (bendI s b) (show a + 0=a by omega) | exact congrArg (nearI s b) (show a + 0=a by omega)) rfl)
 have H14:=Lib.hid (show DoRet 14 s b a 0 (.returned (.tuple #[.int .i64 (nearI s b a),.int .i64 0])) from doRet (by first | exact congrArg (bendI s b) (show a - 0=a by omega) | exact congrArg (nearI s b) (show a - 0=a by omega)) rfl)
 have H15:=Lib.hid (show DoRet 15 s b a 0 (.returned (.tuple #[.int .i64 (bendI s b (Go.bits .and .i64 a 0)),.int .i64 0])) from doRet (bend_bits ⟨h1,h2⟩ (by decide) hb1) rfl)
 have H16:=Lib.hid (show DoRet 16 s b a 0 (.returned (.tuple #[.int .i64 (bendI s b (Go.bits .or .i64 a 0)),.int .i64 0])) from doRet (bend_bits ⟨h1,h2⟩ (by decide) hb2) rfl)
 have H17:=Lib.hid (show DoRet 17 s b a 0 (.returned (.tuple #[.int .i64 (bendI s b (Go.bits .xor .i64 a 0)),.int .i64 0])) from doRet (bend_bits ⟨h1,h2⟩ (by decide) hb3) rfl)
 have i10:=fun w=>idx_at w 10 (.agg #[.func (.func 333) #[] #[],.func (.func 291) #[] #[]]) (by decide) (by decide) rfl
 have i11:=fun w=>idx_at w 11 (.agg #[.func (.func 334) #[] #[],.func (.func 291) #[] #[]]) (by decide) (by decide) rfl
 have i12:=fun w=>idx_at w 12 (.agg #[.func (.func 335) #[] #[],.func (.func 291) #[] #[]]) (by decide) (by decide) rfl
 have i13:=fun w=>idx_at w 13 (.agg #[.func (.func 333) #[] #[],.func (.func 338) #[] #[]]) (by decide) (by decide) rfl
 have i14:=fun w=>idx_at w 14 (.agg #[.func (.func 334) #[] #[],.func (.func 338) #[] #[]]) (by decide) (by decide) rfl
 have i15:=fun w=>idx_at w 15 (.agg #[.func (.func 339) #[] #[],.func (.func 291) #[] #[]]) (by decide) (by decide) rfl
 have i16:=fun w=>idx_at w 16 (.agg #[.func (.func 340) #[] #[],.func (.func 291) #[] #[]]) (by decide) (by decide) rfl
 have i17:=fun w=>idx_at w 17 (.agg #[.func (.func 341) #[] #[],.func (.func 291) #[] #[]]) (by decide) (by decide) rfl
 have HZ:Hid ((Tryz.prog.info? 348).map (·.size)=some 2):=by unfold Hid; kernel_rfl
 have P1:=Lib.hid (show -9223372036854775808 ≤ a + 0∧a + 0 ≤ 9223372036854775807 by omega)
 have P2:=Lib.hid (show -9223372036854775808 ≤ a - 0∧a - 0 ≤ 9223372036854775807 by omega)
 have P3:=Lib.hid (show -9223372036854775808 ≤ a * 0∧a * 0 ≤ 9223372036854775807 by omega)
 have n1:=neq_some 291
 have n2:=neq_some 338
 clear hb1 hb2 hb3 hm ha
 rcases h with rfl | rfl | rfl | rfl | rfl | rfl | rfl | rfl
 all_goals
  go_enter Tryz.func294,Tryz.ntmps294
  go_wp2_with (first
   | (go_at_call 322; refine (operations_any _).mono ?_; rintro r w1 ⟨rfl,x1⟩; have y1:=x1.facts; have z1:=x1.z0)
   | ((with_reducible show wpList _ _ _ (Oper.mk none (.store 348 (.tmp 10) (.tmp 27)) _ _ _ _ :: _) _ _)
      refine store_op _ _ rfl _ _ rfl rfl rfl HZ.out (by first | exact two_one _ _ | exact two_none _) ?_
      intro w2 x2 c0 c1 z2
      have y2:=x2.facts
      have zz2:w.heap.size < w2.heap.size:=Nat.lt_of_lt_of_le z1 (Nat.le_of_lt z2))
   | (go_at_call 333; refine (op_add a 0 _ P1.out).mono ?_; rintro r w' ⟨rfl,rfl⟩; try simp only [Int.add_zero,Int.sub_zero,Int.mul_zero])
   | (go_at_call 334; refine (op_sub a 0 _ P2.out).mono ?_; rintro r w' ⟨rfl,rfl⟩; try simp only [Int.add_zero,Int.sub_zero,Int.mul_zero])
   | (go_at_call 335; refine (op_mul a 0 _ P3.out).mono ?_; rintro r w' ⟨rfl,rfl⟩; try simp only [Int.add_zero,Int.sub_zero,Int.mul_zero])
   | (go_at_call 339; refine (op_and _ _ _).mono ?_; rintro r w' ⟨rfl,rfl⟩; try simp only [Int.add_zero,Int.sub_zero,Int.mul_zero])
   | (go_at_call 340; refine (op_or _ _ _).mono ?_; rintro r w' ⟨rfl,rfl⟩; try simp only [Int.add_zero,Int.sub_zero,Int.mul_zero])
   | (go_at_call 341; refine (op_xor _ _ _).mono ?_; rintro r w' ⟨rfl,rfl⟩; try simp only [Int.add_zero,Int.sub_zero,Int.mul_zero])
   | (go_at_call 291; refine (nwrap_any s b _ _ h1 h2).mono ?_; rintro r w4 ⟨rfl,x4⟩)
   | (go_at_call 338; refine (near_any s b _ _ h1 h2).mono ?_; rintro r w3 ⟨rfl,x3⟩))
  go_ret2
  exact ⟨by first | exact H10.out | exact H11.out | exact H12.out | exact H13.out | exact H14.out | exact H15.out | exact H16.out | exact H17.out,exA⟩
end Go.Proofs.YtknaemlnhediaaaGreatDoor.c
