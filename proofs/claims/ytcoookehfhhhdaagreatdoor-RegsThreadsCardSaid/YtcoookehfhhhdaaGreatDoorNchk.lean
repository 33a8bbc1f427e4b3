/- Contracts of package num's do for checked operations, Do, Loose. Conditions: a type has 1 to 31 bits, the operation is one, the numbers are of the type. Contract of package num's do for the remainder, and of Do, Loose. Conditions: a type has 1 to 31 bits, the operation is one, the numbers are of the type. -/
import Derived.Test.YtcoookehfhhhdaaGreatDoorAri
import Derived.Test.YtcoookehfhhhdaaGreatDoorFlow
import Derived.IntWalk
namespace Go.Proofs.YtcoookehfhhhdaaGreatDoor.c
open Go.RowKit
set_option linter.unusedVariables false
set_option maxRecDepth 100000
set_option maxHeartbeats 6400000
set_option linter.unusedSimpArgs false
theorem chk_fit {op:Int} {s:Bool} {b a c n:Int} (h1:1 ≤ b) (h2:b ≤ 31) (ho:op=5 ∨ op=6 ∨ op=7 ∨ (op=8∧c ≠ 0)) (hn:rawI op a c=n) (hf:fitI s b n=true):DoRet op s b a c (.returned (.tuple #[.int .i64 n,.int .i64 0])):=by
 refine doRet ?_ ?_
 ·unfold looseI
  rw [if_neg (by omega),if_neg (by omega),if_neg (by omega),if_neg (by omega),hn]
  exact bend_same h1 h2 hf
 ·unfold whyI
  rw [if_neg (by omega),if_neg (by omega),hn,if_pos hf]
theorem chk_not {op:Int} {s:Bool} {b a c n:Int} (ho:op=5 ∨ op=6 ∨ op=7 ∨ (op=8∧c ≠ 0)) (hn:rawI op a c=n) (hf:fitI s b n=false):DoRet op s b a c (.returned (.tuple #[.int .i64 (bendI s b n),.int .i64 1])):=by
 refine doRet ?_ ?_
 ·unfold looseI
  rw [if_neg (by omega),if_neg (by omega),if_neg (by omega),if_neg (by omega),hn]
 ·unfold whyI
  rw [if_neg (by omega),if_neg (by omega),hn,if_neg (by rw [hf]; decide)]
theorem tmod_fit {s:Bool} {b a c:Int} (h1:1 ≤ b) (h2:b ≤ 31) (ha:fitI s b a=true) (hc:fitI s b c=true):fitI s b (a.tmod c)=true:=by
 have h:=looseI_fit (op:=9) h1 h2 ha hc
 unfold looseI at h
 rw [if_neg (by decide),if_neg (by omega),if_pos rfl] at h
 split at h
 ·rename_i h0
  rw [h0,Int.tmod_zero]; exact ha
 ·exact h
theorem rem_fit {s:Bool} {b a c:Int} (hc:c ≠ 0) (hf:fitI s b (a.tdiv c)=true):DoRet 9 s b a c (.returned (.tuple #[.int .i64 (a.tmod c),.int .i64 0])):=by
 refine doRet ?_ ?_
 ·unfold looseI
  rw [if_neg (by decide),if_neg (by omega),if_pos rfl,if_neg hc]
 ·unfold whyI
  rw [if_neg (by decide),if_neg (by omega),show rawI 9 a c=a.tdiv c from rfl,if_pos hf]
theorem rem_not {s:Bool} {b a c:Int} (h1:1 ≤ b) (h2:b ≤ 31) (ha:fitI s b a=true) (hcf:fitI s b c=true) (hc:c ≠ 0) (hf:fitI s b (a.tdiv c)=false):DoRet 9 s b a c (.returned (.tuple #[.int .i64 (bendI s b (a.tmod c)),.int .i64 1])):=by
 refine doRet ?_ ?_
 ·unfold looseI
  rw [if_neg (by decide),if_neg (by omega),if_pos rfl,if_neg hc]
  exact (bend_same h1 h2 (tmod_fit h1 h2 ha hcf)).symm
 ·unfold whyI
  rw [if_neg (by decide),if_neg (by omega),show rawI 9 a c=a.tdiv c from rfl,if_neg (by rw [hf]; decide)]
theorem enters_fits:Enters 190 := Enters.of Tryz.func190 (by kernel_rfl) (by kernel_rfl)
theorem fits_as {s:Bool} {b n:Int} {f:Bool} (w:World) (h1:1 ≤ b) (h2:b ≤ 31) (h:fitI s b n=f) :
  Calls Tryz.prog 190 #[.agg #[.bool s,.int .i64 b],.int .i64 n] w fun e w'=>e=.returned (.bool f)∧Ext w w':=by
 have:=fits_any s b n w h1 h2
 rwa [h] at this
theorem do_chk_true (op:Int) (s:Bool) (b a c n:Int) (w:World) (h1:1 ≤ b) (h2:b ≤ 31) (ha:-2147483648 ≤ a∧a ≤ 2147483648) (hc:-2147483648 ≤ c∧c ≤ 2147483648) (hz:¬ c=0) (h:op=5 ∨ op=6 ∨ op=7 ∨ op=8) (hn:rawI op a c=n) (hf:fitI s b n=true) :
  Calls Tryz.prog 192 #[.int .i64 op,.agg #[.bool s,.int .i64 b],.int .i64 a,.int .i64 c] w fun e w'=>DoRet op s b a c e∧Ext w w':=by
 have hm:=mul_in ha hc
 have HT:Hid (True → DoRet op s b a c (.returned (.tuple #[.int .i64 n,.int .i64 0]))):=fun e=>chk_fit h1 h2 (by omega) hn hf
 have i5:=fun w=>idx_at w 5 (.agg #[.func (.func 212) #[] #[],.nilFunc]) (by decide) (by decide) rfl
 have i6:=fun w=>idx_at w 6 (.agg #[.func (.func 213) #[] #[],.nilFunc]) (by decide) (by decide) rfl
 have i7:=fun w=>idx_at w 7 (.agg #[.func (.func 214) #[] #[],.nilFunc]) (by decide) (by decide) rfl
 have i8:=fun w=>idx_at w 8 (.agg #[.func (.func 215) #[] #[],.nilFunc]) (by decide) (by decide) rfl
 have HZ:Hid ((Tryz.prog.info? 248).map (·.size)=some 2):=by unfold Hid; kernel_rfl
 have n0:=neq_none
 have HF:=Lib.hid hf

 have P1:Hid (op=5 → ∀ w,Calls Tryz.prog 212 #[.int .i64 a,.int .i64 c] w fun e w'=>e=.returned (.int .i64 n)∧w=w'):=fun e w=>by subst e; subst hn; exact op_add a c w (by omega)
 have P2:Hid (op=6 → ∀ w,Calls Tryz.prog 213 #[.int .i64 a,.int .i64 c] w fun e w'=>e=.returned (.int .i64 n)∧w=w'):=fun e w=>by subst e; subst hn; exact op_sub a c w (by omega)
 have P3:Hid (op=7 → ∀ w,Calls Tryz.prog 214 #[.int .i64 a,.int .i64 c] w fun e w'=>e=.returned (.int .i64 n)∧w=w'):=fun e w=>by subst e; subst hn; exact op_mul a c w (by omega)
 have P4:Hid (op=8 → ∀ w,Calls Tryz.prog 215 #[.int .i64 a,.int .i64 c] w fun e w'=>e=.returned (.int .i64 n)∧w=w'):=fun e w=>by subst e; subst hn; exact op_div a c w ha hz
 clear hm ha hc hf hn
 rcases h with rfl | rfl | rfl | rfl
 all_goals
  go_enter Tryz.func192,Tryz.ntmps192
  go_wp2_with (first
   | (go_at_call 208; refine (operations_any _).mono ?_; rintro r w1 ⟨rfl,x1⟩; have y1:=x1.facts; have z1:=x1.z0)
   | ((with_reducible show wpList _ _ _ (Oper.mk none (.store 248 (.tmp 10) (.tmp 27)) _ _ _ _ :: _) _ _)
      refine store_op _ _ rfl _ _ rfl rfl rfl HZ.out (by first | exact two_one _ _ | exact two_none _) ?_
      intro w2 x2 c0 c1 z2
      have y2:=x2.facts
      have zz2:w.heap.size < w2.heap.size:=Nat.lt_of_lt_of_le z1 (Nat.le_of_lt z2))
   | (go_at_call 212; refine (P1.out (by trivial) _).mono ?_; rintro r w' ⟨rfl,rfl⟩)
   | (go_at_call 213; refine (P2.out (by trivial) _).mono ?_; rintro r w' ⟨rfl,rfl⟩)
   | (go_at_call 214; refine (P3.out (by trivial) _).mono ?_; rintro r w' ⟨rfl,rfl⟩)
   | (go_at_call 215; refine (P4.out (by trivial) _).mono ?_; rintro r w' ⟨rfl,rfl⟩))
  have BB:Hid (Blk w2 w.heap.size 122 #[.bool s,.int .i64 b]):=((Blk.new w 122 #[.bool s,.int .i64 b]).ext x1).ext x2
  have X2:Hid (Ext w w2):=by unfold Hid; exact exA
  have HD:Hid (∀ w',Ext w2 w' → w'.cell? ⟨w.heap.size,0,none⟩=some (.bool s)∧w'.cell? ⟨w.heap.size,1,none⟩=some (.int .i64 b)):=fun w' x=>⟨(BB.out.ext x).cell 0,(BB.out.ext x).cell 1⟩
  have HST:∀ (i:Nat) (l:Array Bool) (w':World),(fun (_:Array Bool) w'=>Ext w2 w') (l.setIfInBounds i true) w' ↔ (fun (_:Array Bool) w'=>Ext w2 w') l w':=fun _ _ _=>Iff.rfl
  have HC:Hid (∀ (l:Array Bool) (w':World),Ext w2 w' → Calls Tryz.prog 190 #[.agg #[.bool s,.int .i64 b],.int .i64 n] w' fun e w3=>e=.returned (.bool _)∧Ext w2 w3):=fun l w' x=>(fits_as w' h1 h2 HF.out).mono fun e w3 h=>⟨h.1,x.trans h.2⟩
  clear y1 y2 x1 x2 z1 z2 zz2 c0 c1 n0
  refine flow_begin (fun _ w'=>Ext w2 w') #[false,false,false,false,false,false,false,false,false,false,false,false,false,false,false,false] rfl (by kernel_rfl) (fun _ _ _ _ _ h=>h) ((Ext.refl _).drew) (fun HQ=>?_)
  (refine tt 0 41 rfl HQ (HST 0) ?_; try simp only [putL,List.set])
  (refine tt 1 42 rfl HQ (HST 1) ?_; try simp only [putL,List.set])
  (refine tc 2 43 rfl (by kernel_rfl) HQ (HST 2) (by rfl) (fun l w' hF=>?_) ((HC.out)) ?_; (focus (have hq:=HD.out _ hF; go_simp; try simp only [enters_fits _ _])); try simp only [putL,List.set])
  (refine tt 3 44 rfl HQ (HST 3) ?_; try simp only [putL,List.set])
  (refine tt 4 45 rfl HQ (HST 4) ?_; try simp only [putL,List.set])
  (refine tt 5 46 rfl HQ (HST 5) ?_; try simp only [putL,List.set])
  (refine tt 6 47 rfl HQ (HST 6) ?_; try simp only [putL,List.set])
  (refine tt 7 48 rfl HQ (HST 7) ?_; try simp only [putL,List.set])
  (refine tsq 8 49 rfl HQ (HST 8) ?_; try simp only [putL,List.set])
  (refine tsq 9 50 rfl HQ (HST 9) ?_; try simp only [putL,List.set])
  (refine tsq 10 51 rfl HQ (HST 10) ?_; try simp only [putL,List.set])
  (refine tsq 11 52 rfl HQ (HST 11) ?_; try simp only [putL,List.set])
  (refine tsq 12 53 rfl HQ (HST 12) ?_; try simp only [putL,List.set])
  (refine tsq 13 54 rfl HQ (HST 13) ?_; try simp only [putL,List.set])
  (refine tt 14 55 rfl HQ (HST 14) ?_; try simp only [putL,List.set])
  (refine tt 15 56 rfl HQ (HST 15) ?_; try simp only [putL,List.set])
  refine flow_done (by kernel_rfl) ?_
  intro w3 x3
  have X3:=Lib.hid x3
  obtain ⟨e0,e1⟩:=HD.out w3 x3
  have y3:=x3.facts
  have zz3:w.heap.size < w3.heap.size:=Nat.lt_of_lt_of_le (by have:=X2.out.size; have:=BB.out.lt; omega) x3.size
  have x4:=X2.out.trans x3
  clear x3
  go_wp2_with (first
   | (go_at_call 189; refine (nwrap_any s b _ _ h1 h2).mono ?_; rintro r w4 ⟨rfl,x4⟩))
  go_ret2
  exact ⟨HT.out (by trivial),exA⟩
theorem do_chk_false (op:Int) (s:Bool) (b a c n:Int) (w:World) (h1:1 ≤ b) (h2:b ≤ 31) (ha:-2147483648 ≤ a∧a ≤ 2147483648) (hc:-2147483648 ≤ c∧c ≤ 2147483648) (hz:¬ c=0) (h:op=5 ∨ op=6 ∨ op=7 ∨ op=8) (hn:rawI op a c=n) (hf:fitI s b n=false) :
  Calls Tryz.prog 192 #[.int .i64 op,.agg #[.bool s,.int .i64 b],.int .i64 a,.int .i64 c] w fun e w'=>DoRet op s b a c e∧Ext w w':=by
 have hm:=mul_in ha hc
 have HN:Hid (True → DoRet op s b a c (.returned (.tuple #[.int .i64 (bendI s b n),.int .i64 1]))):=fun e=>chk_not (by omega) hn hf
 have i5:=fun w=>idx_at w 5 (.agg #[.func (.func 212) #[] #[],.nilFunc]) (by decide) (by decide) rfl
 have i6:=fun w=>idx_at w 6 (.agg #[.func (.func 213) #[] #[],.nilFunc]) (by decide) (by decide) rfl
 have i7:=fun w=>idx_at w 7 (.agg #[.func (.func 214) #[] #[],.nilFunc]) (by decide) (by decide) rfl
 have i8:=fun w=>idx_at w 8 (.agg #[.func (.func 215) #[] #[],.nilFunc]) (by decide) (by decide) rfl
 have HZ:Hid ((Tryz.prog.info? 248).map (·.size)=some 2):=by unfold Hid; kernel_rfl
 have n0:=neq_none
 have HF:=Lib.hid hf

 have P1:Hid (op=5 → ∀ w,Calls Tryz.prog 212 #[.int .i64 a,.int .i64 c] w fun e w'=>e=.returned (.int .i64 n)∧w=w'):=fun e w=>by subst e; subst hn; exact op_add a c w (by omega)
 have P2:Hid (op=6 → ∀ w,Calls Tryz.prog 213 #[.int .i64 a,.int .i64 c] w fun e w'=>e=.returned (.int .i64 n)∧w=w'):=fun e w=>by subst e; subst hn; exact op_sub a c w (by omega)
 have P3:Hid (op=7 → ∀ w,Calls Tryz.prog 214 #[.int .i64 a,.int .i64 c] w fun e w'=>e=.returned (.int .i64 n)∧w=w'):=fun e w=>by subst e; subst hn; exact op_mul a c w (by omega)
 have P4:Hid (op=8 → ∀ w,Calls Tryz.prog 215 #[.int .i64 a,.int .i64 c] w fun e w'=>e=.returned (.int .i64 n)∧w=w'):=fun e w=>by subst e; subst hn; exact op_div a c w ha hz
 clear hm ha hc hf hn
 rcases h with rfl | rfl | rfl | rfl
 all_goals
  go_enter Tryz.func192,Tryz.ntmps192
  go_wp2_with (first
   | (go_at_call 208; refine (operations_any _).mono ?_; rintro r w1 ⟨rfl,x1⟩; have y1:=x1.facts; have z1:=x1.z0)
   | ((with_reducible show wpList _ _ _ (Oper.mk none (.store 248 (.tmp 10) (.tmp 27)) _ _ _ _ :: _) _ _)
      refine store_op _ _ rfl _ _ rfl rfl rfl HZ.out (by first | exact two_one _ _ | exact two_none _) ?_
      intro w2 x2 c0 c1 z2
      have y2:=x2.facts
      have zz2:w.heap.size < w2.heap.size:=Nat.lt_of_lt_of_le z1 (Nat.le_of_lt z2))
   | (go_at_call 212; refine (P1.out (by trivial) _).mono ?_; rintro r w' ⟨rfl,rfl⟩)
   | (go_at_call 213; refine (P2.out (by trivial) _).mono ?_; rintro r w' ⟨rfl,rfl⟩)
   | (go_at_call 214; refine (P3.out (by trivial) _).mono ?_; rintro r w' ⟨rfl,rfl⟩)
   | (go_at_call 215; refine (P4.out (by trivial) _).mono ?_; rintro r w' ⟨rfl,rfl⟩))
  have BB:Hid (Blk w2 w.heap.size 122 #[.bool s,.int .i64 b]):=((Blk.new w 122 #[.bool s,.int .i64 b]).ext x1).ext x2
  have X2:Hid (Ext w w2):=by unfold Hid; exact exA
  have HD:Hid (∀ w',Ext w2 w' → w'.cell? ⟨w.heap.size,0,none⟩=some (.bool s)∧w'.cell? ⟨w.heap.size,1,none⟩=some (.int .i64 b)):=fun w' x=>⟨(BB.out.ext x).cell 0,(BB.out.ext x).cell 1⟩
  have HST:∀ (i:Nat) (l:Array Bool) (w':World),(fun (_:Array Bool) w'=>Ext w2 w') (l.setIfInBounds i true) w' ↔ (fun (_:Array Bool) w'=>Ext w2 w') l w':=fun _ _ _=>Iff.rfl
  have HC:Hid (∀ (l:Array Bool) (w':World),Ext w2 w' → Calls Tryz.prog 190 #[.agg #[.bool s,.int .i64 b],.int .i64 n] w' fun e w3=>e=.returned (.bool _)∧Ext w2 w3):=fun l w' x=>(fits_as w' h1 h2 HF.out).mono fun e w3 h=>⟨h.1,x.trans h.2⟩
  clear y1 y2 x1 x2 z1 z2 zz2 c0 c1 n0
  refine flow_begin (fun _ w'=>Ext w2 w') #[false,false,false,false,false,false,false,false,false,false,false,false,false,false,false,false] rfl (by kernel_rfl) (fun _ _ _ _ _ h=>h) ((Ext.refl _).drew) (fun HQ=>?_)
  (refine tt 0 41 rfl HQ (HST 0) ?_; try simp only [putL,List.set])
  (refine tt 1 42 rfl HQ (HST 1) ?_; try simp only [putL,List.set])
  (refine tc 2 43 rfl (by kernel_rfl) HQ (HST 2) (by rfl) (fun l w' hF=>?_) ((HC.out)) ?_; (focus (have hq:=HD.out _ hF; go_simp; try simp only [enters_fits _ _])); try simp only [putL,List.set])
  (refine tt 3 44 rfl HQ (HST 3) ?_; try simp only [putL,List.set])
  (refine tt 4 45 rfl HQ (HST 4) ?_; try simp only [putL,List.set])
  (refine tsq 5 46 rfl HQ (HST 5) ?_; try simp only [putL,List.set])
  (refine tsq 6 47 rfl HQ (HST 6) ?_; try simp only [putL,List.set])
  (refine tsq 7 48 rfl HQ (HST 7) ?_; try simp only [putL,List.set])
  (refine tsq 8 49 rfl HQ (HST 8) ?_; try simp only [putL,List.set])
  (refine tsq 9 50 rfl HQ (HST 9) ?_; try simp only [putL,List.set])
  (refine tsq 10 51 rfl HQ (HST 10) ?_; try simp only [putL,List.set])
  (refine tsq 11 52 rfl HQ (HST 11) ?_; try simp only [putL,List.set])
  (refine tsq 12 53 rfl HQ (HST 12) ?_; try simp only [putL,List.set])
  (refine tsq 13 54 rfl HQ (HST 13) ?_; try simp only [putL,List.set])
  (refine tsq 14 55 rfl HQ (HST 14) ?_; try simp only [putL,List.set])
  (refine tt 15 56 rfl HQ (HST 15) ?_; try simp only [putL,List.set])
  refine flow_done (by kernel_rfl) ?_
  intro w3 x3
  have X3:=Lib.hid x3
  obtain ⟨e0,e1⟩:=HD.out w3 x3
  have y3:=x3.facts
  have zz3:w.heap.size < w3.heap.size:=Nat.lt_of_lt_of_le (by have:=X2.out.size; have:=BB.out.lt; omega) x3.size
  have x4:=X2.out.trans x3
  clear x3
  go_wp2_with (first
   | (go_at_call 189; refine (nwrap_any s b _ _ h1 h2).mono ?_; rintro r w4 ⟨rfl,x4⟩))
  go_ret2
  exact ⟨HN.out (by trivial),exA⟩
theorem do_chk_zero (op:Int) (s:Bool) (b a n:Int) (w:World) (h1:1 ≤ b) (h2:b ≤ 31) (ha:-2147483648 ≤ a∧a ≤ 2147483648) (h:(op=5∧n=a) ∨ (op=6∧n=a) ∨ (op=7∧n=0)) (hf:fitI s b n=true) :
  Calls Tryz.prog 192 #[.int .i64 op,.agg #[.bool s,.int .i64 b],.int .i64 a,.int .i64 0] w fun e w'=>DoRet op s b a 0 e∧Ext w w':=by
 have HT:Hid (DoRet op s b a 0 (.returned (.tuple #[.int .i64 n,.int .i64 0]))):=by
  refine chk_fit h1 h2 (by omega) ?_ hf
  rcases h with ⟨rfl,rfl⟩ | ⟨rfl,rfl⟩ | ⟨rfl,rfl⟩
  ·show n + 0=n; omega
  ·show n - 0=n; omega
  ·show a * 0=0; omega
 have i5:=fun w=>idx_at w 5 (.agg #[.func (.func 212) #[] #[],.nilFunc]) (by decide) (by decide) rfl
 have i6:=fun w=>idx_at w 6 (.agg #[.func (.func 213) #[] #[],.nilFunc]) (by decide) (by decide) rfl
 have i7:=fun w=>idx_at w 7 (.agg #[.func (.func 214) #[] #[],.nilFunc]) (by decide) (by decide) rfl
 have HZ:Hid ((Tryz.prog.info? 248).map (·.size)=some 2):=by unfold Hid; kernel_rfl
 have n0:=neq_none
 have HF:=Lib.hid hf
 have P1:Hid (op=5 → ∀ w,Calls Tryz.prog 212 #[.int .i64 a,.int .i64 0] w fun e w'=>e=.returned (.int .i64 n)∧w=w'):=fun e w=>by
  have:=op_add a 0 w (by omega)
  rwa [show a + 0=n by omega] at this
 have P2:Hid (op=6 → ∀ w,Calls Tryz.prog 213 #[.int .i64 a,.int .i64 0] w fun e w'=>e=.returned (.int .i64 n)∧w=w'):=fun e w=>by
  have:=op_sub a 0 w (by omega)
  rwa [show a - 0=n by omega] at this
 have P3:Hid (op=7 → ∀ w,Calls Tryz.prog 214 #[.int .i64 a,.int .i64 0] w fun e w'=>e=.returned (.int .i64 n)∧w=w'):=fun e w=>by
  have:=op_mul a 0 w (by omega)
  rwa [show a * 0=n by omega] at this
 clear ha hf
 rcases h with ⟨rfl,hn⟩ | ⟨rfl,hn⟩ | ⟨rfl,hn⟩
 all_goals clear hn
 all_goals
  go_enter Tryz.func192,Tryz.ntmps192
  go_wp2_with (first
   | (go_at_call 208; refine (operations_any _).mono ?_; rintro r w1 ⟨rfl,x1⟩; have y1:=x1.facts; have z1:=x1.z0)
   | ((with_reducible show wpList _ _ _ (Oper.mk none (.store 248 (.tmp 10) (.tmp 27)) _ _ _ _ :: _) _ _)
      refine store_op _ _ rfl _ _ rfl rfl rfl HZ.out (by first | exact two_one _ _ | exact two_none _) ?_
      intro w2 x2 c0 c1 z2
      have y2:=x2.facts
      have zz2:w.heap.size < w2.heap.size:=Nat.lt_of_lt_of_le z1 (Nat.le_of_lt z2))
   | (go_at_call 212; refine (P1.out (by trivial) _).mono ?_; rintro r w' ⟨rfl,rfl⟩)
   | (go_at_call 213; refine (P2.out (by trivial) _).mono ?_; rintro r w' ⟨rfl,rfl⟩)
   | (go_at_call 214; refine (P3.out (by trivial) _).mono ?_; rintro r w' ⟨rfl,rfl⟩))
  have BB:Hid (Blk w2 w.heap.size 122 #[.bool s,.int .i64 b]):=((Blk.new w 122 #[.bool s,.int .i64 b]).ext x1).ext x2
  have X2:Hid (Ext w w2):=by unfold Hid; exact exA
  have HD:Hid (∀ w',Ext w2 w' → w'.cell? ⟨w.heap.size,0,none⟩=some (.bool s)∧w'.cell? ⟨w.heap.size,1,none⟩=some (.int .i64 b)):=fun w' x=>⟨(BB.out.ext x).cell 0,(BB.out.ext x).cell 1⟩
  have HST:∀ (i:Nat) (l:Array Bool) (w':World),(fun (_:Array Bool) w'=>Ext w2 w') (l.setIfInBounds i true) w' ↔ (fun (_:Array Bool) w'=>Ext w2 w') l w':=fun _ _ _=>Iff.rfl
  have HC:Hid (∀ (l:Array Bool) (w':World),Ext w2 w' → Calls Tryz.prog 190 #[.agg #[.bool s,.int .i64 b],.int .i64 n] w' fun e w3=>e=.returned (.bool _)∧Ext w2 w3):=fun l w' x=>(fits_as w' h1 h2 HF.out).mono fun e w3 h=>⟨h.1,x.trans h.2⟩
  clear y1 y2 x1 x2 z1 z2 zz2 c0 c1 n0
  refine flow_begin (fun _ w'=>Ext w2 w') #[false,false,false,false,false,false,false,false,false,false,false,false,false,false,false,false] rfl (by kernel_rfl) (fun _ _ _ _ _ h=>h) ((Ext.refl _).drew) (fun HQ=>?_)
  (refine tt 0 41 rfl HQ (HST 0) ?_; try simp only [putL,List.set])
  (refine tt 1 42 rfl HQ (HST 1) ?_; try simp only [putL,List.set])
  (refine tc 2 43 rfl (by kernel_rfl) HQ (HST 2) (by rfl) (fun l w' hF=>?_) ((HC.out)) ?_; (focus (have hq:=HD.out _ hF; go_simp; try simp only [enters_fits _ _])); try simp only [putL,List.set])
  (refine tt 3 44 rfl HQ (HST 3) ?_; try simp only [putL,List.set])
  (refine tt 4 45 rfl HQ (HST 4) ?_; try simp only [putL,List.set])
  (refine tt 5 46 rfl HQ (HST 5) ?_; try simp only [putL,List.set])
  (refine tt 6 47 rfl HQ (HST 6) ?_; try simp only [putL,List.set])
  (refine tt 7 48 rfl HQ (HST 7) ?_; try simp only [putL,List.set])
  (refine tsq 8 49 rfl HQ (HST 8) ?_; try simp only [putL,List.set])
  (refine tsq 9 50 rfl HQ (HST 9) ?_; try simp only [putL,List.set])
  (refine tsq 10 51 rfl HQ (HST 10) ?_; try simp only [putL,List.set])
  (refine tsq 11 52 rfl HQ (HST 11) ?_; try simp only [putL,List.set])
  (refine tsq 12 53 rfl HQ (HST 12) ?_; try simp only [putL,List.set])
  (refine tsq 13 54 rfl HQ (HST 13) ?_; try simp only [putL,List.set])
  (refine tt 14 55 rfl HQ (HST 14) ?_; try simp only [putL,List.set])
  (refine tt 15 56 rfl HQ (HST 15) ?_; try simp only [putL,List.set])
  refine flow_done (by kernel_rfl) ?_
  intro w3 x3
  have X3:=Lib.hid x3
  obtain ⟨e0,e1⟩:=HD.out w3 x3
  have y3:=x3.facts
  have zz3:w.heap.size < w3.heap.size:=Nat.lt_of_lt_of_le (by have:=X2.out.size; have:=BB.out.lt; omega) x3.size
  have x4:=X2.out.trans x3
  clear x3
  go_wp2_with (first
   | (go_at_call 189; refine (nwrap_any s b _ _ h1 h2).mono ?_; rintro r w4 ⟨rfl,x4⟩))
  go_ret2
  exact ⟨HT.out,exA⟩
theorem do_rem (s:Bool) (b a c:Int) (w:World) (h1:1 ≤ b) (h2:b ≤ 31) (ha:-2147483648 ≤ a∧a ≤ 2147483648) (hz:¬ c=0) (hfa:fitI s b a=true) (hfc:fitI s b c=true) :
  Calls Tryz.prog 192 #[.int .i64 9,.agg #[.bool s,.int .i64 b],.int .i64 a,.int .i64 c] w fun e w'=>DoRet 9 s b a c e∧Ext w w':=by
 have i9:=fun w=>idx_at w 9 (.agg #[.func (.func 216) #[] #[],.nilFunc]) (by decide) (by decide) rfl
 have HZ:Hid ((Tryz.prog.info? 248).map (·.size)=some 2):=by unfold Hid; kernel_rfl
 have n0:=neq_none
 have HF:=Lib.hid (tmod_fit h1 h2 hfa hfc)
 obtain ⟨n,hn⟩:∃ n,a.tmod c=n:=⟨_,rfl⟩
 obtain ⟨d,hd⟩:∃ d,a.tdiv c=d:=⟨_,rfl⟩
 have HDn:Hid (-2147483648 ≤ d∧d ≤ 2147483648):=by rw [← hd]; exact tdiv_in ha
 have P5:Hid (∀ w,Calls Tryz.prog 216 #[.int .i64 a,.int .i64 c] w fun e w'=>e=.returned (.int .i64 n)∧w=w'):=fun w=>by
  have:=op_rem a c w ha hz
  rwa [hn] at this
 cases hfd:fitI s b d
 all_goals
  have HFD:=Lib.hid hfd
 case' false=>have HE:Hid (DoRet 9 s b a c (.returned (.tuple #[.int .i64 (bendI s b n),.int .i64 1]))):=by rw [← hn]; exact rem_not h1 h2 hfa hfc hz (by rw [hd]; exact hfd)
 case' true=>have HE:Hid (DoRet 9 s b a c (.returned (.tuple #[.int .i64 n,.int .i64 0]))):=by rw [← hn]; exact rem_fit hz (by rw [hd]; exact hfd)
 all_goals
  rw [hn] at HF
  clear hfd hfa hfc ha hn
  go_enter Tryz.func192,Tryz.ntmps192
  go_wp2_with (first
   | (go_at_call 208; refine (operations_any _).mono ?_; rintro r w1 ⟨rfl,x1⟩; have y1:=x1.facts; have z1:=x1.z0)
   | ((with_reducible show wpList _ _ _ (Oper.mk none (.store 248 (.tmp 10) (.tmp 27)) _ _ _ _ :: _) _ _)
      refine store_op _ _ rfl _ _ rfl rfl rfl HZ.out (by first | exact two_one _ _ | exact two_none _) ?_
      intro w2 x2 c0 c1 z2
      have y2:=x2.facts
      have zz2:w.heap.size < w2.heap.size:=Nat.lt_of_lt_of_le z1 (Nat.le_of_lt z2))
   | (go_at_call 216; refine (P5.out _).mono ?_; rintro r w' ⟨rfl,rfl⟩))
  have BB:Hid (Blk w2 w.heap.size 122 #[.bool s,.int .i64 b]):=((Blk.new w 122 #[.bool s,.int .i64 b]).ext x1).ext x2
  have X2:Hid (Ext w w2):=by unfold Hid; exact exA
  have HD:Hid (∀ w',Ext w2 w' → w'.cell? ⟨w.heap.size,0,none⟩=some (.bool s)∧w'.cell? ⟨w.heap.size,1,none⟩=some (.int .i64 b)):=fun w' x=>⟨(BB.out.ext x).cell 0,(BB.out.ext x).cell 1⟩
  have HST:∀ (i:Nat) (l:Array Bool) (w':World),(fun (_:Array Bool) w'=>Ext w2 w') (l.setIfInBounds i true) w' ↔ (fun (_:Array Bool) w'=>Ext w2 w') l w':=fun _ _ _=>Iff.rfl
  have HC:Hid (∀ (l:Array Bool) (w':World),Ext w2 w' → Calls Tryz.prog 190 #[.agg #[.bool s,.int .i64 b],.int .i64 n] w' fun e w3=>e=.returned (.bool _)∧Ext w2 w3):=fun l w' x=>(fits_as w' h1 h2 HF.out).mono fun e w3 h=>⟨h.1,x.trans h.2⟩
  have HC2:Hid (∀ (l:Array Bool) (w':World),Ext w2 w' → Calls Tryz.prog 190 #[.agg #[.bool s,.int .i64 b],.int .i64 d] w' fun e w3=>e=.returned (.bool _)∧Ext w2 w3):=fun l w' x=>(fits_as w' h1 h2 HFD.out).mono fun e w3 h=>⟨h.1,x.trans h.2⟩
  have hwd:IntKind.i64.wrap d=d:=IntWalk.i64_in _ (by have:=HDn.out; omega)
  clear y1 y2 x1 x2 z1 z2 zz2 c0 c1 n0
  refine flow_begin (fun _ w'=>Ext w2 w') #[false,false,false,false,false,false,false,false,false,false,false,false,false,false,false,false] rfl (by kernel_rfl) (fun _ _ _ _ _ h=>h) ((Ext.refl _).drew) (fun HQ=>?_)
  (refine tt 0 41 rfl HQ (HST 0) ?_; try simp only [putL,List.set])
  (refine tt 1 42 rfl HQ (HST 1) ?_; try simp only [putL,List.set])
  (refine tc 2 43 rfl (by kernel_rfl) HQ (HST 2) (by rfl) (fun l w' hF=>?_) ((HC.out)) ?_; (focus (have hq:=HD.out _ hF; go_simp; try simp only [enters_fits _ _])); try simp only [putL,List.set])
  (refine tt 3 44 rfl HQ (HST 3) ?_; try simp only [putL,List.set])
  (refine tt 4 45 rfl HQ (HST 4) ?_; try simp only [putL,List.set])
  (refine tt 5 46 rfl HQ (HST 5) ?_; try simp only [putL,List.set])
  (refine tt 6 47 rfl HQ (HST 6) ?_; try simp only [putL,List.set])
  (refine tt 7 48 rfl HQ (HST 7) ?_; try simp only [putL,List.set])
  (refine tt 8 49 rfl HQ (HST 8) ?_; try simp only [putL,List.set])
  (refine tt 9 50 rfl HQ (HST 9) ?_; try simp only [putL,List.set])
  (refine tt 10 51 rfl HQ (HST 10) ?_; try simp only [putL,List.set])
  (refine tt 11 52 rfl HQ (HST 11) ?_; try simp only [putL,List.set])
  (refine tc 12 53 rfl (by kernel_rfl) HQ (HST 12) (by rfl) (fun l w' hF=>?_) ((HC2.out)) ?_; (focus (have hq:=HD.out _ hF; go_simp; try simp only [enters_fits _ _])); try simp only [putL,List.set])
  (refine tt 13 54 rfl HQ (HST 13) ?_; try simp only [putL,List.set])
  (refine tt 14 55 rfl HQ (HST 14) ?_; try simp only [putL,List.set])
  (refine tt 15 56 rfl HQ (HST 15) ?_; try simp only [putL,List.set])
  refine flow_done (by kernel_rfl) ?_
  intro w3 x3
  clear hwd
  have X3:=Lib.hid x3
  obtain ⟨e0,e1⟩:=HD.out w3 x3
  have y3:=x3.facts
  have zz3:w.heap.size < w3.heap.size:=Nat.lt_of_lt_of_le (by have:=X2.out.size; have:=BB.out.lt; omega) x3.size
  have x4:=X2.out.trans x3
  clear x3
  go_wp2_with (first
   | (go_at_call 189; refine (nwrap_any s b _ _ h1 h2).mono ?_; rintro r w4 ⟨rfl,x4⟩))
  go_ret2
  exact ⟨HE.out,exA⟩
theorem do_any (op:Int) (s:Bool) (b a c:Int) (w:World) (h1:1 ≤ b) (h2:b ≤ 31) (h3:5 ≤ op) (h4:op ≤ 17) (ha:fitI s b a=true) (hc:fitI s b c=true) :
  Calls Tryz.prog 192 #[.int .i64 op,.agg #[.bool s,.int .i64 b],.int .i64 a,.int .i64 c] w fun e w'=>DoRet op s b a c e∧Ext w w':=by
 have ia:=fit_in h1 h2 ha
 have ic:=fit_in h1 h2 hc
 have ja:-2147483648 ≤ a∧a ≤ 2147483648:=by omega
 have jc:-2147483648 ≤ c∧c ≤ 2147483648:=by omega
 have f0:fitI s b 0=true:=by have:=ends_in s h1 h2; rw [fit_iff]; omega
 by_cases hz:c=0
 ·subst hz
  by_cases h89:op=8 ∨ op=9
  ·exact do_zero op s b a w h89
  ·by_cases h10:10 ≤ op
   ·exact do_into_zero op s b a w h1 h2 ja (by omega)
   ·have h:op=5 ∨ op=6 ∨ op=7:=by omega
    rcases h with rfl | rfl | rfl
    ·exact do_chk_zero 5 s b a a w h1 h2 ja (.inl ⟨rfl,rfl⟩) ha
    ·exact do_chk_zero 6 s b a a w h1 h2 ja (.inr (.inl ⟨rfl,rfl⟩)) ha
    ·exact do_chk_zero 7 s b a 0 w h1 h2 ja (.inr (.inr ⟨rfl,rfl⟩)) f0
 ·by_cases h10:10 ≤ op
  ·exact do_into_some op s b a c w h1 h2 ja jc hz (by omega)
  ·by_cases h9:op=9
   ·subst h9
    exact do_rem s b a c w h1 h2 ja hz ha hc
   ·cases hf:fitI s b (rawI op a c)
    ·exact do_chk_false op s b a c _ w h1 h2 ja jc hz (by omega) rfl hf
    ·exact do_chk_true op s b a c _ w h1 h2 ja jc hz (by omega) rfl hf
theorem nDo_any (op:Int) (s:Bool) (b a c:Int) (w:World) (h1:1 ≤ b) (h2:b ≤ 31) (h3:5 ≤ op) (h4:op ≤ 17) (ha:fitI s b a=true) (hc:fitI s b c=true) :
  Calls Tryz.prog 166 #[.int .i64 op,.agg #[.bool s,.int .i64 b],.int .i64 a,.int .i64 c] w fun e w'=>e=.returned (.tuple #[.int .i64 (if whyI op s b a c=0 then looseI op s b a c else 0),.int .i64 (whyI op s b a c),.int .i64 0])∧Ext w w':=by
 have HA:=Lib.hid ha
 have HC:=Lib.hid hc
 clear ha hc
 obtain ⟨y,hy⟩:∃ y,whyI op s b a c=y:=⟨_,rfl⟩
 obtain ⟨n,hn⟩:∃ n,looseI op s b a c=n:=⟨_,rfl⟩
 have HDo:Hid (∀ w,Calls Tryz.prog 192 #[.int .i64 op,.agg #[.bool s,.int .i64 b],.int .i64 a,.int .i64 c] w fun e w'=>e=.returned (.tuple #[.int .i64 n,.int .i64 y])∧Ext w w'):=fun w=>by
  have h:=do_any op s b a c w h1 h2 h3 h4 HA.out HC.out
  unfold DoRet at h
  rwa [hy,hn] at h
 rw [hy,hn]
 clear hy hn
 by_cases h0:y=0
 ·subst h0
  go_enter Tryz.func166,Tryz.ntmps166
  go_wp2_with (first
   | (go_at_call 191; refine (asked_any op s b a c _ h1 h2 h3 h4 HA.out HC.out).mono ?_; rintro r w1 ⟨rfl,x1⟩; have y1:=x1.facts; have z1:=x1.z0)
   | (go_at_call 192; refine (HDo.out _).mono ?_; rintro r w2 ⟨rfl,x2⟩; have y2:=x2.facts))
  go_ret3
  exact ⟨ret_i3 rfl rfl rfl,exA⟩
 ·have hb:(y != 0)=true:=by simpa using h0
  go_enter Tryz.func166,Tryz.ntmps166
  go_wp2_with (first
   | (go_at_call 191; refine (asked_any op s b a c _ h1 h2 h3 h4 HA.out HC.out).mono ?_; rintro r w1 ⟨rfl,x1⟩; have y1:=x1.facts; have z1:=x1.z0)
   | (go_at_call 192; refine (HDo.out _).mono ?_; rintro r w2 ⟨rfl,x2⟩; have y2:=x2.facts))
  go_ret3
  exact ⟨ret_i3 rfl rfl rfl,exA⟩
theorem nLoose_any (op:Int) (s:Bool) (b a c:Int) (w:World) (h1:1 ≤ b) (h2:b ≤ 31) (h3:5 ≤ op) (h4:op ≤ 17) (ha:fitI s b a=true) (hc:fitI s b c=true) :
  Calls Tryz.prog 165 #[.int .i64 op,.agg #[.bool s,.int .i64 b],.int .i64 a,.int .i64 c] w fun e w'=>e=.returned (.tuple #[.int .i64 (looseI op s b a c),.int .i64 0])∧Ext w w':=by
 have HA:=Lib.hid ha
 have HC:=Lib.hid hc
 clear ha hc
 go_enter Tryz.func165,Tryz.ntmps165
 go_wp2_with (first
  | (go_at_call 191; refine (asked_any op s b a c _ h1 h2 h3 h4 HA.out HC.out).mono ?_; rintro r w1 ⟨rfl,x1⟩; have y1:=x1.facts; have z1:=x1.z0)
  | (go_at_call 192; refine (do_any op s b a c _ h1 h2 h3 h4 HA.out HC.out).mono ?_; unfold DoRet; rintro r w2 ⟨rfl,x2⟩; have y2:=x2.facts))
 go_ret2
 exact ⟨rfl,exA⟩
end Go.Proofs.YtcoookehfhhhdaaGreatDoor.c
