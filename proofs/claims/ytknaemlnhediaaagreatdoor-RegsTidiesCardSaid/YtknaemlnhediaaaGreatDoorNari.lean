/- Contracts of package num's arithmetic: least, greatest, fits, wrap, near, Wrap, Fits, Neg. Conditions: a type has 1 to 31 bits, numbers are far from the ends of int. Contracts of package num's operations: operations, asked, do, Do, Loose. Conditions: a type has 1 to 31 bits, the operation is one, the numbers are of the type. -/
import Derived.Test.YtknaemlnhediaaaGreatDoorAri
import Derived.Test.YtknaemlnhediaaaGreatDoorNum
namespace Go.Proofs.YtknaemlnhediaaaGreatDoor.c
open Go.RowKit
set_option linter.unusedVariables false
set_option maxRecDepth 100000
set_option maxHeartbeats 1600000
set_option linter.unusedSimpArgs false

theorem least_any (s:Bool) (b:Int) (w:World) (h1:1 ≤ b) (h2:b ≤ 31) :
  Calls Tryz.prog 321 #[.agg #[.bool s,.int .i64 b]] w fun e w'=>e=.returned (.int .i64 (loI s b))∧Ext w w':=by
 obtain ⟨q,e,q1,q2,eq⟩:=span_parts h1 h2
 have hq:(2:Int) ^ (b.toNat - 1)=q:=by rw [show b.toNat - 1=(b - 1).toNat by omega]; exact eq.symm
 have HL:Hid (loI s b=if s=true then -q else 0):=by unfold Hid loI; rw [e]; split <;> omega
 clear e eq
 cases s
 all_goals
  go_enter Tryz.func321,Tryz.ntmps321
  go_wp2_with fail
  go_ret
  exact ⟨ret_int (by rw [HL.out]; simp),exA⟩
theorem greatest_any (s:Bool) (b:Int) (w:World) (h1:1 ≤ b) (h2:b ≤ 31) :
  Calls Tryz.prog 320 #[.agg #[.bool s,.int .i64 b]] w fun e w'=>e=.returned (.int .i64 (hiI s b))∧Ext w w':=by
 obtain ⟨q,e,q1,q2,eq⟩:=span_parts h1 h2
 have hq:(2:Int) ^ (b.toNat - 1)=q:=by rw [show b.toNat - 1=(b - 1).toNat by omega]; exact eq.symm
 have hp:(2:Int) ^ b.toNat=2 * q:=e
 have HL:Hid (hiI s b=if s=true then q - 1 else 2 * q - 1):=by unfold Hid hiI; rw [e]; split <;> omega
 clear e eq
 cases s
 all_goals
  go_enter Tryz.func320,Tryz.ntmps320
  go_wp2_with fail
  go_ret
  exact ⟨ret_int (by rw [HL.out]; simp),exA⟩
theorem fits_any (s:Bool) (b n:Int) (w:World) (h1:1 ≤ b) (h2:b ≤ 31) :
  Calls Tryz.prog 292 #[.agg #[.bool s,.int .i64 b],.int .i64 n] w fun e w'=>e=.returned (.bool (fitI s b n))∧Ext w w':=by
 have HF:=Lib.hid (show fitI s b n=(decide (loI s b ≤ n) && decide (n ≤ hiI s b)) from rfl)
 go_enter Tryz.func292,Tryz.ntmps292
 go_wp2_with (first
  | (go_at_call 321; refine (least_any s b _ h1 h2).mono ?_; rintro r w1 ⟨rfl,x1⟩; have y1:=x1.facts; have z1:=x1.z0)
  | (go_at_call 320; refine (greatest_any s b _ h1 h2).mono ?_; rintro r w2 ⟨rfl,x2⟩; have y2:=x2.facts; have z2:=x2.size))
 all_goals
  go_ret
  exact ⟨ret_bool (by rw [HF.out]; first | (simp [*]; done) | (simp [*]; intros; omega)),exA⟩
theorem nwrap_any (s:Bool) (b n:Int) (w:World) (h1:1 ≤ b) (h2:b ≤ 31) :
  Calls Tryz.prog 291 #[.agg #[.bool s,.int .i64 b],.int .i64 n] w fun e w'=>e=.returned (.int .i64 (bendI s b n))∧Ext w w':=by
 obtain ⟨q,e,q1,q2,eq⟩:=span_parts h1 h2
 have hp:(2:Int) ^ b.toNat=2 * q:=e
 have hmk:Go.bits .and .i64 n (2 * q - 1)=n % (2 * q):=by rw [← hp]; exact land_mask n b.toNat (by omega)
 obtain ⟨r,hr⟩:∃ r,n % (2 * q)=r:=⟨_,rfl⟩
 have r0:0 ≤ r:=by rw [← hr]; exact Int.emod_nonneg _ (by omega)
 have r1:r < 2 * q:=by rw [← hr]; exact Int.emod_lt_of_pos _ (by omega)
 rw [hr] at hmk
 have HB:Hid (bendI s b n=if s=true∧q ≤ r then r - 2 * q else r):=by
  unfold Hid bendI
  rw [e,hr,show 2 * q / 2=q by omega]
 have HG:Hid (hiI s b=if s=true then q - 1 else 2 * q - 1):=by unfold Hid hiI; rw [e]; split <;> omega
 clear e eq hr
 cases s
 all_goals
  go_enter Tryz.func291,Tryz.ntmps291
  go_wp2_with (first
   | (go_at_call 320; refine (greatest_any _ b _ h1 h2).mono ?_; rw [HG.out]; rintro r w2 ⟨rfl,x2⟩; have y2:=x2.facts; have z2:=x2.z0))
  all_goals
   go_ret
   exact ⟨ret_int (by rw [HB.out]; simp <;> omega),exA⟩
theorem near_any (s:Bool) (b n:Int) (w:World) (h1:1 ≤ b) (h2:b ≤ 31) :
  Calls Tryz.prog 338 #[.agg #[.bool s,.int .i64 b],.int .i64 n] w fun e w'=>e=.returned (.int .i64 (nearI s b n))∧Ext w w':=by
 have HE:=Lib.hid (ends_in s h1 h2)
 obtain ⟨lo,hlo⟩:∃ lo,loI s b=lo:=⟨_,rfl⟩
 obtain ⟨hi,hhi⟩:∃ hi,hiI s b=hi:=⟨_,rfl⟩
 have HL:=Lib.hid hlo
 have HH:=Lib.hid hhi
 have hlh:lo ≤ hi:=by have:=HE.out; omega
 have HN:Hid (nearI s b n=if n < lo then lo else if hi < n then hi else n):=by unfold Hid nearI; rw [hlo,hhi]
 clear hlo hhi
 go_enter Tryz.func338,Tryz.ntmps338
 go_wp2_with fail
 go_region_with (first
  | (go_at_call 321; refine (least_any s b _ h1 h2).mono ?_; rw [HL.out]; rintro r w1 ⟨rfl,x1⟩; have y1:=x1.facts)
  | (go_at_call 320; refine (greatest_any s b _ h1 h2).mono ?_; rw [HH.out]; rintro r w2 ⟨rfl,x2⟩; have y2:=x2.facts))
 all_goals
  go_wp2_with fail
  go_ret
  exact ⟨ret_int (by rw [HN.out]; simp only [Int.max_def,Int.min_def]; repeat' split <;> omega),exA⟩
theorem vInt_zero {b:Int} (h1:1 ≤ b) (h2:b ≤ 31):vInt b=0:=by unfold vInt; rw [if_neg (by omega)]
theorem nWrap_any (s:Bool) (b n:Int) (w:World) (h1:1 ≤ b) (h2:b ≤ 31) :
  Calls Tryz.prog 248 #[.agg #[.bool s,.int .i64 b],.int .i64 n] w fun e w'=>e=.returned (.tuple #[.int .i64 (bendI s b n),.int .i64 0])∧Ext w w':=by
 have HV:=Lib.hid (vInt_zero h1 h2)
 go_enter Tryz.func248,Tryz.ntmps248
 go_wp2_with (first
  | (go_at_call 196; refine (numValidate_any s b _).mono ?_; rw [HV.out]; rintro r w1 ⟨rfl,x1⟩; have y1:=x1.facts; have z1:=x1.z0)
  | (go_at_call 291; refine (nwrap_any s b n _ h1 h2).mono ?_; rintro r w2 ⟨rfl,x2⟩; have y2:=x2.facts; have z2:=x2.size))
 go_ret2
 exact ⟨rfl,exA⟩
theorem ret_i3 {a b c d e f:Int} (h:a=d) (h1:b=e) (h2:c=f):Ending.returned (.tuple #[.int .i64 a,.int .i64 b,.int .i64 c])=.returned (.tuple #[.int .i64 d,.int .i64 e,.int .i64 f]):=by rw [h,h1,h2]
def negI (s:Bool) (b n:Int):Int × Int:=if fitI s b (-n)=true then (-n,0) else (0,1)
theorem op_add (a c:Int) (w:World) (h:-9223372036854775808 ≤ a + c∧a + c ≤ 9223372036854775807):Calls Tryz.prog 333 #[.int .i64 a,.int .i64 c] w fun e w'=>e=.returned (.int .i64 (a + c))∧w=w':=by
 obtain ⟨h1,h2⟩:=h
 go_enter Tryz.func333,Tryz.ntmps333
 go_wp2
 go_ret
 exact ⟨rfl,rfl⟩
theorem op_sub (a c:Int) (w:World) (h:-9223372036854775808 ≤ a - c∧a - c ≤ 9223372036854775807):Calls Tryz.prog 334 #[.int .i64 a,.int .i64 c] w fun e w'=>e=.returned (.int .i64 (a - c))∧w=w':=by
 obtain ⟨h1,h2⟩:=h
 go_enter Tryz.func334,Tryz.ntmps334
 go_wp2
 go_ret
 exact ⟨rfl,rfl⟩
theorem op_mul (a c:Int) (w:World) (h:-9223372036854775808 ≤ a * c∧a * c ≤ 9223372036854775807):Calls Tryz.prog 335 #[.int .i64 a,.int .i64 c] w fun e w'=>e=.returned (.int .i64 (a * c))∧w=w':=by
 obtain ⟨h1,h2⟩:=h
 go_enter Tryz.func335,Tryz.ntmps335
 go_wp2
 go_ret
 exact ⟨rfl,rfl⟩
theorem tdiv_in {a c:Int} (ha:-2147483648 ≤ a∧a ≤ 2147483648):-2147483648 ≤ a.tdiv c∧a.tdiv c ≤ 2147483648:=by
 have h:(a.tdiv c).natAbs ≤ a.natAbs:=by rw [Int.natAbs_tdiv]; exact Nat.div_le_self _ _
 omega
theorem tmod_in {a c:Int} (ha:-2147483648 ≤ a∧a ≤ 2147483648):-2147483648 ≤ a.tmod c∧a.tmod c ≤ 2147483648:=by
 have h:(a.tmod c).natAbs ≤ a.natAbs:=by rw [Int.natAbs_tmod]; exact Nat.mod_le _ _
 omega
theorem op_div (a c:Int) (w:World) (ha:-2147483648 ≤ a∧a ≤ 2147483648) (hc:c ≠ 0):Calls Tryz.prog 336 #[.int .i64 a,.int .i64 c] w fun e w'=>e=.returned (.int .i64 (a.tdiv c))∧w=w':=by
 obtain ⟨h1,h2⟩:=tdiv_in (c:=c) ha
 obtain ⟨h3,h4⟩:=ha
 go_enter Tryz.func336,Tryz.ntmps336
 go_wp2
 go_ret
 exact ⟨ret_int (by first | rfl | (simp [Int.tdiv_eq_ediv]; done)),rfl⟩
theorem op_rem (a c:Int) (w:World) (ha:-2147483648 ≤ a∧a ≤ 2147483648) (hc:c ≠ 0):Calls Tryz.prog 337 #[.int .i64 a,.int .i64 c] w fun e w'=>e=.returned (.int .i64 (a.tmod c))∧w=w':=by
 obtain ⟨h1,h2⟩:=tmod_in (c:=c) ha
 obtain ⟨h3,h4⟩:=ha
 go_enter Tryz.func337,Tryz.ntmps337
 go_wp2
 go_ret
 exact ⟨ret_int (by first | rfl | (simp [Int.tdiv_eq_ediv]; done)),rfl⟩
theorem op_and (a c:Int) (w:World):Calls Tryz.prog 339 #[.int .i64 a,.int .i64 c] w fun e w'=>e=.returned (.int .i64 (Go.bits .and .i64 a c))∧w=w':=by
 go_enter Tryz.func339,Tryz.ntmps339
 go_wp2
 go_ret
 exact ⟨rfl,rfl⟩
theorem op_or (a c:Int) (w:World):Calls Tryz.prog 340 #[.int .i64 a,.int .i64 c] w fun e w'=>e=.returned (.int .i64 (Go.bits .or .i64 a c))∧w=w':=by
 go_enter Tryz.func340,Tryz.ntmps340
 go_wp2
 go_ret
 exact ⟨rfl,rfl⟩
theorem op_xor (a c:Int) (w:World):Calls Tryz.prog 341 #[.int .i64 a,.int .i64 c] w fun e w'=>e=.returned (.int .i64 (Go.bits .xor .i64 a c))∧w=w':=by
 go_enter Tryz.func341,Tryz.ntmps341
 go_wp2
 go_ret
 exact ⟨rfl,rfl⟩
def fnV (k:Nat):Value:=.func (.func k) #[] #[]
def opsC:Array Value:=#[.nilFunc,.nilFunc,.nilFunc,.nilFunc,.nilFunc,.nilFunc,.nilFunc,.nilFunc,.nilFunc,.nilFunc,
   fnV 333,.nilFunc,fnV 334,.nilFunc,fnV 335,.nilFunc,fnV 336,.nilFunc,fnV 337,.nilFunc,
   fnV 333,fnV 291,fnV 334,fnV 291,fnV 335,fnV 291,fnV 333,fnV 338,fnV 334,fnV 338,
   fnV 339,fnV 291,fnV 340,fnV 291,fnV 341,fnV 291]
def noneC:Array Value:=#[.nilFunc,.nilFunc,.nilFunc,.nilFunc,.nilFunc,.nilFunc,.nilFunc,.nilFunc,.nilFunc,.nilFunc,.nilFunc,.nilFunc,.nilFunc,.nilFunc,.nilFunc,.nilFunc,.nilFunc,.nilFunc,.nilFunc,.nilFunc,.nilFunc,.nilFunc,.nilFunc,.nilFunc,.nilFunc,.nilFunc,.nilFunc,.nilFunc,.nilFunc,.nilFunc,.nilFunc,.nilFunc,.nilFunc,.nilFunc,.nilFunc,.nilFunc]
theorem opsC_one:∀ v ∈ opsC.toList,v.oneCell'=true:=by
 have h:opsC.toList.all (·.oneCell')=true:=by decide +kernel
 exact List.all_eq_true.1 h
theorem operations_any (w:World) :
  Calls Tryz.prog 322 #[] w fun e w'=>e=.returned (.agg opsC)∧Ext w w':=by
 have HZ:Hid ((Tryz.prog.info? 349).map (·.size)=some 36):=by unfold Hid; kernel_rfl
 go_enter Tryz.func322,Tryz.ntmps322
 go_wp2_with (first
  | (refine wpList_store_row rfl 349 _ _ rfl w.heap.size rfl 349 noneC opsC (Blk.new _ _ _) rfl rfl opsC_one HZ.out ?_))
 go_outline
 refine bodyPost_ret (results_cell_row rfl _ _ w.heap.size 349 opsC (0,0) _ rfl ((Blk.new w _ _).row _) Tryz.underlying349 rfl HZ.out) rfl ⟨rfl,((Ext.refl _).alloc _).setRow (Nat.le_refl _) _⟩
end Go.Proofs.YtknaemlnhediaaaGreatDoor.c
