/- Plain arithmetic of numbers of types: ends, wrapping, the operations, bit by bit too. No condition. Contracts of package num's arithmetic: least, greatest, fits, wrap, near, Wrap, Fits, Neg. Conditions: a type has 1 to 31 bits, numbers are far from the ends of int. Contracts of package num's operations: operations, asked, do, Do, Loose. Conditions: a type has 1 to 31 bits, the operation is one, the numbers are of the type. Contracts of package num's asked, do, Do, Loose. Conditions: a type has 1 to 31 bits, the operation is one, the numbers are of the type. -/
import Derived.WalkKit
import Derived.Laws.BitsAllLaws
import Derived.Test.YtcoookehfhhhdaaGreatDoorNum
namespace Go.Proofs.YtcoookehfhhhdaaGreatDoor.c
open Go.RowKit
set_option linter.unusedVariables false
set_option maxRecDepth 100000
set_option maxHeartbeats 6400000
set_option linter.unusedSimpArgs false

def spanI (b:Int):Int:=2 ^ b.toNat
def loI (s:Bool) (b:Int):Int:=if s=true then -(spanI b / 2) else 0
def hiI (s:Bool) (b:Int):Int:=if s=true then spanI b / 2 - 1 else spanI b - 1
def fitI (s:Bool) (b n:Int):Bool:=decide (loI s b ≤ n) && decide (n ≤ hiI s b)
def bendI (s:Bool) (b n:Int):Int:=if s=true∧spanI b / 2 ≤ n % spanI b then n % spanI b - spanI b else n % spanI b
def nearI (s:Bool) (b n:Int):Int:=if n < loI s b then loI s b else if hiI s b < n then hiI s b else n
theorem span_parts {b:Int} (h1:1 ≤ b) (h2:b ≤ 31):∃ q:Int,spanI b=2 * q∧1 ≤ q∧q ≤ 1073741824∧q=2 ^ (b - 1).toNat:=by
 have e:b.toNat=(b - 1).toNat + 1:=by omega
 refine ⟨2 ^ (b - 1).toNat,?_,?_,?_,rfl⟩
 ·unfold spanI
  rw [e,Int.pow_succ]
  omega
 ·exact Int.pow_pos (by decide)
 ·have h:(b - 1).toNat ≤ 30:=by omega
  have h2:(2:Int) ^ (b - 1).toNat ≤ 2 ^ 30:=by
   have:=Nat.pow_le_pow_right (n:=2) (by decide) h
   exact_mod_cast this
  simpa using h2
theorem fit_iff {s:Bool} {b n:Int}:fitI s b n=true ↔ loI s b ≤ n∧n ≤ hiI s b:=by
 unfold fitI
 simp
theorem ends_in {b:Int} (s:Bool) (h1:1 ≤ b) (h2:b ≤ 31):-1073741824 ≤ loI s b∧loI s b ≤ 0∧0 ≤ hiI s b∧hiI s b ≤ 2147483647:=by
 obtain ⟨q,e,q1,q2,_⟩:=span_parts h1 h2
 unfold loI hiI
 rw [e]
 cases s
 ·simp; omega
 ·simp; omega
theorem fit_in {s:Bool} {b n:Int} (h1:1 ≤ b) (h2:b ≤ 31) (h:fitI s b n=true):-1073741824 ≤ n∧n ≤ 2147483647:=by
 have h3:=ends_in s h1 h2
 have h4:=fit_iff.1 h
 omega
theorem bend_fit {b:Int} (s:Bool) (n:Int) (h1:1 ≤ b) (h2:b ≤ 31):fitI s b (bendI s b n)=true:=by
 obtain ⟨q,e,q1,q2,_⟩:=span_parts h1 h2
 have hn:=Int.emod_nonneg n (show spanI b ≠ 0 by omega)
 have hm:=Int.emod_lt_of_pos n (show 0 < spanI b by omega)
 rw [fit_iff]
 unfold loI hiI bendI
 cases s
 ·simp; omega
 ·simp
  split <;> omega
theorem bend_same {s:Bool} {b n:Int} (h1:1 ≤ b) (h2:b ≤ 31) (h:fitI s b n=true):bendI s b n=n:=by
 obtain ⟨q,e,q1,q2,_⟩:=span_parts h1 h2
 rw [fit_iff] at h
 unfold loI hiI at h
 unfold bendI
 cases s
 ·simp at h ⊢
  exact Int.emod_eq_of_lt h.1 (by omega)
 ·simp at h ⊢
  by_cases hn:0 ≤ n
  ·rw [Int.emod_eq_of_lt hn (by omega),if_neg (by omega)]
  ·have:n % spanI b=n + spanI b:=by
    rw [← Int.add_emod_right,Int.emod_eq_of_lt (by omega) (by omega)]
   rw [this,if_pos (by omega)]
   omega
theorem bend_emod (s:Bool) (b n:Int):bendI s b (n % spanI b)=bendI s b n:=by
 unfold bendI
 rw [Int.emod_emod_of_dvd _ (Int.dvd_refl _)]
/-! ### bit by bit -/
theorem ofInt_nat (n:Int):(BitVec.ofInt 64 n).toNat=(n % 18446744073709551616).toNat:=by
 rw [BitVec.toNat_ofInt]; rfl
theorem mod_low (n:Int) (k:Nat) (hk:k ≤ 63):(((n % 18446744073709551616).toNat % 2 ^ k:Nat):Int)=n % 2 ^ k:=by
 have hd:((2:Int) ^ k) ∣ 18446744073709551616:=⟨2 ^ (64 - k),by rw [← Int.pow_add,show k + (64 - k)=64 by omega]; rfl⟩
 rw [Int.natCast_emod,Int.toNat_of_nonneg (Int.emod_nonneg _ (by decide))]
 have:((2 ^ k:Nat):Int)=2 ^ k:=by simp
 rw [this,Int.emod_emod_of_dvd _ hd]
theorem wrap_low (x:Int) (k:Nat) (hk:k ≤ 63):IntKind.i64.wrap x % 2 ^ k=x % 2 ^ k:=by
 have hd:((2:Int) ^ k) ∣ 18446744073709551616:=⟨2 ^ (64 - k),by rw [← Int.pow_add,show k + (64 - k)=64 by omega]; rfl⟩
 have e:∃ c,IntKind.i64.wrap x=x + 18446744073709551616 * c:=by
  refine ⟨(IntKind.i64.wrap x - x) / 18446744073709551616,?_⟩
  have:18446744073709551616 ∣ (IntKind.i64.wrap x - x):=by
   unfold IntKind.wrap
   simp [IntKind.signed,IntKind.bits]
   split <;> omega
  omega
 obtain ⟨c,e⟩:=e
 obtain ⟨d,hd⟩:=hd
 rw [e,hd,Int.mul_assoc,Int.add_mul_emod_self_left]
theorem land_mask (n:Int) (k:Nat) (hk:k ≤ 62):Go.bits .and .i64 n (2 ^ k - 1)=n % 2 ^ k:=by
 have hp:((2:Int) ^ k)=((2 ^ k:Nat):Int):=by simp
 have hlt:2 ^ k ≤ 2 ^ 62:=Nat.pow_le_pow_right (by decide) hk
 have hpos:0 < 2 ^ k:=Nat.pow_pos (by decide)
 have e2:(BitVec.ofInt 64 ((2:Int) ^ k - 1)).toNat=2 ^ k - 1:=by
  rw [ofInt_nat,hp,Int.emod_eq_of_lt (by omega) (by omega)]
  omega
 show IntKind.i64.wrap ((BitVec.ofInt 64 n &&& BitVec.ofInt 64 (2 ^ k - 1)).toNat:Int)=_
 rw [BitVec.toNat_and,e2,Nat.and_two_pow_sub_one_eq_mod,ofInt_nat,mod_low n k (by omega)]
 have h1:=Int.emod_nonneg n (show (2:Int) ^ k ≠ 0 by omega)
 have h2:=Int.emod_lt_of_pos n (show 0 < (2:Int) ^ k by omega)
 unfold IntKind.wrap
 simp [IntKind.signed,IntKind.bits]
 rw [Int.emod_eq_of_lt h1 (by omega),if_neg (by omega)]
def bitN (op:Int) (x y:Nat):Nat:=if op=15 then x &&& y else if op=16 then x ||| y else x ^^^ y
theorem bits_and (a c:Int) (k:Nat) (hk:k ≤ 62):Go.bits .and .i64 a c % 2 ^ k=(bitN 15 (a % 2 ^ k).toNat (c % 2 ^ k).toNat:Nat):=by
 have ea:=mod_low a k (by omega)
 have ec:=mod_low c k (by omega)
 show IntKind.i64.wrap ((BitVec.ofInt 64 a &&& BitVec.ofInt 64 c).toNat:Int) % 2 ^ k=_
 rw [wrap_low _ k (by omega),BitVec.toNat_and,ofInt_nat,ofInt_nat,← ea,← ec,Int.toNat_natCast,Int.toNat_natCast]
 unfold bitN
 rw [if_pos rfl,← Nat.and_mod_two_pow]
 simp
theorem bits_or (a c:Int) (k:Nat) (hk:k ≤ 62):Go.bits .or .i64 a c % 2 ^ k=(bitN 16 (a % 2 ^ k).toNat (c % 2 ^ k).toNat:Nat):=by
 have ea:=mod_low a k (by omega)
 have ec:=mod_low c k (by omega)
 show IntKind.i64.wrap ((BitVec.ofInt 64 a ||| BitVec.ofInt 64 c).toNat:Int) % 2 ^ k=_
 rw [wrap_low _ k (by omega),BitVec.toNat_or,ofInt_nat,ofInt_nat,← ea,← ec,Int.toNat_natCast,Int.toNat_natCast]
 unfold bitN
 rw [if_neg (by decide),if_pos rfl,← Nat.or_mod_two_pow]
 simp
theorem bits_xor (a c:Int) (k:Nat) (hk:k ≤ 62):Go.bits .xor .i64 a c % 2 ^ k=(bitN 17 (a % 2 ^ k).toNat (c % 2 ^ k).toNat:Nat):=by
 have ea:=mod_low a k (by omega)
 have ec:=mod_low c k (by omega)
 show IntKind.i64.wrap ((BitVec.ofInt 64 a ^^^ BitVec.ofInt 64 c).toNat:Int) % 2 ^ k=_
 rw [wrap_low _ k (by omega),BitVec.toNat_xor,ofInt_nat,ofInt_nat,← ea,← ec,Int.toNat_natCast,Int.toNat_natCast]
 unfold bitN
 rw [if_neg (by decide),if_neg (by decide),← Nat.xor_mod_two_pow]
 simp
def digs:Nat → Nat → List Nat
 | 0,_=>[]
 | k + 1,n=>n % 2 :: digs k (n / 2)
def numL:List Nat → Nat
 | []=>0
 | d :: l=>d + 2 * numL l
def bitF (op:Int) (n:Nat):Nat:=if op=15 then n / 2 else if op=16 then (n + 1) / 2 else n % 2
theorem digs_len (k n:Nat):(digs k n).length=k:=by
 induction k generalizing n with
 | zero=>rfl
 | succ k ih=>simp [digs,ih]
theorem digs_mem {k n d:Nat} (h:d ∈ digs k n):d < 2:=by
 induction k generalizing n with
 | zero=>simp [digs] at h
 | succ k ih =>
  simp only [digs,List.mem_cons] at h
  rcases h with rfl | h
  ·omega
  ·exact ih h
theorem bitN_step (op:Int) (x y:Nat):bitN op x y=bitF op (x % 2 + y % 2) + 2 * bitN op (x / 2) (y / 2):=by
 have hx:x % 2=0 ∨ x % 2=1:=by omega
 have hy:y % 2=0 ∨ y % 2=1:=by omega
 unfold bitN bitF
 by_cases h1:op=15
 ·rw [if_pos h1,if_pos h1,if_pos h1]
  have a1:=Nat.and_div_two_pow (a:=x) (b:=y) (n:=1)
  have a2:=Nat.and_mod_two_pow (a:=x) (b:=y) (n:=1)
  simp only [Nat.pow_one] at a1 a2
  generalize x &&& y=z at a1 a2 ⊢
  generalize (x / 2) &&& (y / 2)=u at a1 ⊢
  rcases hx with hx | hx <;> rcases hy with hy | hy <;> (rw [hx,hy] at a2; have a3:z % 2=_:=a2.trans rfl; rw [hx,hy]; revert a3; first | (show z % 2=0 → _; intro a3; omega) | (show z % 2=1 → _; intro a3; omega))
 ·rw [if_neg h1,if_neg h1,if_neg h1]
  by_cases h2:op=16
  ·rw [if_pos h2,if_pos h2,if_pos h2]
   have a1:=Nat.or_div_two_pow (a:=x) (b:=y) (n:=1)
   have a2:=Nat.or_mod_two_pow (a:=x) (b:=y) (n:=1)
   simp only [Nat.pow_one] at a1 a2
   generalize x ||| y=z at a1 a2 ⊢
   generalize (x / 2) ||| (y / 2)=u at a1 ⊢
   rcases hx with hx | hx <;> rcases hy with hy | hy <;> (rw [hx,hy] at a2; have a3:z % 2=_:=a2.trans rfl; rw [hx,hy]; revert a3; first | (show z % 2=0 → _; intro a3; omega) | (show z % 2=1 → _; intro a3; omega))
  ·rw [if_neg h2,if_neg h2,if_neg h2]
   have a1:=Nat.xor_div_two_pow (a:=x) (b:=y) (n:=1)
   have a2:=Nat.xor_mod_two_pow (a:=x) (b:=y) (n:=1)
   simp only [Nat.pow_one] at a1 a2
   generalize x ^^^ y=z at a1 a2 ⊢
   generalize (x / 2) ^^^ (y / 2)=u at a1 ⊢
   rcases hx with hx | hx <;> rcases hy with hy | hy <;> (rw [hx,hy] at a2; have a3:z % 2=_:=a2.trans rfl; rw [hx,hy]; revert a3; first | (show z % 2=0 → _; intro a3; omega) | (show z % 2=1 → _; intro a3; omega))
theorem numL_bits (op:Int) (k x y:Nat) (hx:x < 2 ^ k) (hy:y < 2 ^ k):numL (List.zipWith (fun a c=>bitF op (a + c)) (digs k x) (digs k y))=bitN op x y:=by
 induction k generalizing x y with
 | zero =>
  obtain rfl:x=0:=by simpa using hx
  obtain rfl:y=0:=by simpa using hy
  simp [digs,numL,bitN]
 | succ k ih =>
  rw [Nat.pow_succ] at hx hy
  rw [digs,digs,List.zipWith_cons_cons,numL,ih _ _ (by omega) (by omega),← bitN_step]
theorem numL_lt (l:List Nat) (h:∀ d,d ∈ l → d < 2):numL l < 2 ^ l.length:=by
 induction l with
 | nil=>simp [numL]
 | cons d l ih =>
  have h1:=h d (List.mem_cons_self ..)
  have h2:=ih fun d hd=>h d (List.mem_cons_of_mem _ hd)
  rw [numL,List.length_cons,Nat.pow_succ]
  omega
theorem bitF_lt {op:Int} {n:Nat} (h:n < 3):bitF op n < 2:=by
 unfold bitF
 split
 ·omega
 ·split <;> omega
/-! ### the operations -/
def rawI (op a c:Int):Int :=
 if op=5 ∨ op=10 ∨ op=13 then a + c else if op=6 ∨ op=11 ∨ op=14 then a - c else if op=7 ∨ op=12 then a * c else a.tdiv c
def looseI (op:Int) (s:Bool) (b a c:Int):Int :=
 if 15 ≤ op then bendI s b (bitN op (a % spanI b).toNat (c % spanI b).toNat)
 else if op=8∧c=0 then 0 else if op=9 then (if c=0 then a else a.tmod c)
 else if op=13 ∨ op=14 then nearI s b (rawI op a c)
 else bendI s b (rawI op a c)
def whyI (op:Int) (s:Bool) (b a c:Int):Int :=
 if 10 ≤ op then 0 else if (op=8 ∨ op=9)∧c=0 then 2 else if fitI s b (rawI op a c)=true then 0 else 1
theorem looseI_fit {op:Int} {s:Bool} {b a c:Int} (h1:1 ≤ b) (h2:b ≤ 31) (ha:fitI s b a=true) (hc:fitI s b c=true):fitI s b (looseI op s b a c)=true:=by
 have he:=ends_in s h1 h2
 have h0:fitI s b 0=true:=by rw [fit_iff]; omega
 unfold looseI
 split
 ·exact bend_fit s _ h1 h2
 split
 ·exact h0
 split
 ·split
  ·exact ha
  ·rename_i _ _ _ hc0
   rw [fit_iff] at ha ⊢
   have hb:=Int.natAbs_tmod a c
   have hm:a.natAbs % c.natAbs ≤ a.natAbs:=Nat.mod_le _ _
   rcases Int.le_total 0 a with h | h
   ·have:=Int.tmod_nonneg c h
    omega
   ·have:a.tmod c ≤ 0:=by
     have h5:=Int.tmod_nonneg c (show 0 ≤ -a by omega)
     rw [Int.neg_tmod] at h5
     omega
    omega
 split
 ·rw [fit_iff]
  unfold nearI
  split
  ·omega
  ·split <;> omega
 ·exact bend_fit s _ h1 h2
theorem mul_in {a c:Int} (ha:-2147483648 ≤ a∧a ≤ 2147483648) (hc:-2147483648 ≤ c∧c ≤ 2147483648):-4611686018427387904 ≤ a * c∧a * c ≤ 4611686018427387904:=by
 have h:(a * c).natAbs ≤ 2147483648 * 2147483648:=by
  rw [Int.natAbs_mul]
  exact Nat.mul_le_mul (by omega) (by omega)
 omega

theorem least_any (s:Bool) (b:Int) (w:World) (h1:1 ≤ b) (h2:b ≤ 31) :
  Calls Tryz.prog 207 #[.agg #[.bool s,.int .i64 b]] w fun e w'=>e=.returned (.int .i64 (loI s b))∧Ext w w':=by
 obtain ⟨q,e,q1,q2,eq⟩:=span_parts h1 h2
 have hq:(2:Int) ^ (b.toNat - 1)=q:=by rw [show b.toNat - 1=(b - 1).toNat by omega]; exact eq.symm
 have HL:Hid (loI s b=if s=true then -q else 0):=by unfold Hid loI; rw [e]; split <;> omega
 clear e eq
 cases s
 all_goals
  go_enter Tryz.func207,Tryz.ntmps207
  go_wp2_with fail
  go_ret
  exact ⟨ret_int (by rw [HL.out]; simp),exA⟩
theorem greatest_any (s:Bool) (b:Int) (w:World) (h1:1 ≤ b) (h2:b ≤ 31) :
  Calls Tryz.prog 206 #[.agg #[.bool s,.int .i64 b]] w fun e w'=>e=.returned (.int .i64 (hiI s b))∧Ext w w':=by
 obtain ⟨q,e,q1,q2,eq⟩:=span_parts h1 h2
 have hq:(2:Int) ^ (b.toNat - 1)=q:=by rw [show b.toNat - 1=(b - 1).toNat by omega]; exact eq.symm
 have hp:(2:Int) ^ b.toNat=2 * q:=e
 have HL:Hid (hiI s b=if s=true then q - 1 else 2 * q - 1):=by unfold Hid hiI; rw [e]; split <;> omega
 clear e eq
 cases s
 all_goals
  go_enter Tryz.func206,Tryz.ntmps206
  go_wp2_with fail
  go_ret
  exact ⟨ret_int (by rw [HL.out]; simp),exA⟩
theorem fits_any (s:Bool) (b n:Int) (w:World) (h1:1 ≤ b) (h2:b ≤ 31) :
  Calls Tryz.prog 190 #[.agg #[.bool s,.int .i64 b],.int .i64 n] w fun e w'=>e=.returned (.bool (fitI s b n))∧Ext w w':=by
 have HF:=Lib.hid (show fitI s b n=(decide (loI s b ≤ n) && decide (n ≤ hiI s b)) from rfl)
 go_enter Tryz.func190,Tryz.ntmps190
 go_wp2_with (first
  | (go_at_call 207; refine (least_any s b _ h1 h2).mono ?_; rintro r w1 ⟨rfl,x1⟩; have y1:=x1.facts; have z1:=x1.z0)
  | (go_at_call 206; refine (greatest_any s b _ h1 h2).mono ?_; rintro r w2 ⟨rfl,x2⟩; have y2:=x2.facts; have z2:=x2.size))
 all_goals
  go_ret
  exact ⟨ret_bool (by rw [HF.out]; first | (simp [*]; done) | (simp [*]; intros; omega)),exA⟩
theorem nwrap_any (s:Bool) (b n:Int) (w:World) (h1:1 ≤ b) (h2:b ≤ 31) :
  Calls Tryz.prog 189 #[.agg #[.bool s,.int .i64 b],.int .i64 n] w fun e w'=>e=.returned (.int .i64 (bendI s b n))∧Ext w w':=by
 obtain ⟨q,e,q1,q2,eq⟩:=span_parts h1 h2
 have hp:(2:Int) ^ b.toNat=2 * q:=e
 have hmk:Go.bits .and .i64 n (2 * q - 1)=n % (2 * q):=by rw [← hp]; exact land_mask n b.toNat (by omega)
 obtain ⟨r,hr⟩:∃ r,n % (2 * q)=r:=⟨_,rfl⟩
 have r0:0 ≤ r:=by rw [← hr]; exact Int.emod_nonneg _ (by omega)
 have r1:r < 2 * q:=by rw [← hr]; exact Int.emod_lt_of_pos _ (by omega)
 rw [hr] at hmk
 have HB:Hid (bendI s b n=if s=true∧q ≤ r then r - 2 * q else r):=by
  unfold Hid bendI
  rw [e,hr,show 2 * q / 2=q by omega]
 have HG:Hid (hiI s b=if s=true then q - 1 else 2 * q - 1):=by unfold Hid hiI; rw [e]; split <;> omega
 clear e eq hr
 cases s
 all_goals
  go_enter Tryz.func189,Tryz.ntmps189
  go_wp2_with (first
   | (go_at_call 206; refine (greatest_any _ b _ h1 h2).mono ?_; rw [HG.out]; rintro r w2 ⟨rfl,x2⟩; have y2:=x2.facts; have z2:=x2.z0))
  all_goals
   go_ret
   exact ⟨ret_int (by rw [HB.out]; simp <;> omega),exA⟩
theorem near_any (s:Bool) (b n:Int) (w:World) (h1:1 ≤ b) (h2:b ≤ 31) :
  Calls Tryz.prog 217 #[.agg #[.bool s,.int .i64 b],.int .i64 n] w fun e w'=>e=.returned (.int .i64 (nearI s b n))∧Ext w w':=by
 have HE:=Lib.hid (ends_in s h1 h2)
 obtain ⟨lo,hlo⟩:∃ lo,loI s b=lo:=⟨_,rfl⟩
 obtain ⟨hi,hhi⟩:∃ hi,hiI s b=hi:=⟨_,rfl⟩
 have HL:=Lib.hid hlo
 have HH:=Lib.hid hhi
 have hlh:lo ≤ hi:=by have:=HE.out; omega
 have HN:Hid (nearI s b n=if n < lo then lo else if hi < n then hi else n):=by unfold Hid nearI; rw [hlo,hhi]
 clear hlo hhi
 go_enter Tryz.func217,Tryz.ntmps217
 go_wp2_with fail
 go_region_with (first
  | (go_at_call 207; refine (least_any s b _ h1 h2).mono ?_; rw [HL.out]; rintro r w1 ⟨rfl,x1⟩; have y1:=x1.facts)
  | (go_at_call 206; refine (greatest_any s b _ h1 h2).mono ?_; rw [HH.out]; rintro r w2 ⟨rfl,x2⟩; have y2:=x2.facts))
 all_goals
  go_wp2_with fail
  go_ret
  exact ⟨ret_int (by rw [HN.out]; simp only [Int.max_def,Int.min_def]; repeat' split <;> omega),exA⟩
theorem vInt_zero {b:Int} (h1:1 ≤ b) (h2:b ≤ 31):vInt b=0:=by unfold vInt; rw [if_neg (by omega)]
theorem nWrap_any (s:Bool) (b n:Int) (w:World) (h1:1 ≤ b) (h2:b ≤ 31) :
  Calls Tryz.prog 159 #[.agg #[.bool s,.int .i64 b],.int .i64 n] w fun e w'=>e=.returned (.tuple #[.int .i64 (bendI s b n),.int .i64 0])∧Ext w w':=by
 have HV:=Lib.hid (vInt_zero h1 h2)
 go_enter Tryz.func159,Tryz.ntmps159
 go_wp2_with (first
  | (go_at_call 175; refine (numValidate_any s b _).mono ?_; rw [HV.out]; rintro r w1 ⟨rfl,x1⟩; have y1:=x1.facts; have z1:=x1.z0)
  | (go_at_call 189; refine (nwrap_any s b n _ h1 h2).mono ?_; rintro r w2 ⟨rfl,x2⟩; have y2:=x2.facts; have z2:=x2.size))
 go_ret2
 exact ⟨rfl,exA⟩
theorem ret_i3 {a b c d e f:Int} (h:a=d) (h1:b=e) (h2:c=f):Ending.returned (.tuple #[.int .i64 a,.int .i64 b,.int .i64 c])=.returned (.tuple #[.int .i64 d,.int .i64 e,.int .i64 f]):=by rw [h,h1,h2]
theorem op_add (a c:Int) (w:World) (h:-9223372036854775808 ≤ a + c∧a + c ≤ 9223372036854775807):Calls Tryz.prog 212 #[.int .i64 a,.int .i64 c] w fun e w'=>e=.returned (.int .i64 (a + c))∧w=w':=by
 obtain ⟨h1,h2⟩:=h
 go_enter Tryz.func212,Tryz.ntmps212
 go_wp2
 go_ret
 exact ⟨rfl,rfl⟩
theorem op_sub (a c:Int) (w:World) (h:-9223372036854775808 ≤ a - c∧a - c ≤ 9223372036854775807):Calls Tryz.prog 213 #[.int .i64 a,.int .i64 c] w fun e w'=>e=.returned (.int .i64 (a - c))∧w=w':=by
 obtain ⟨h1,h2⟩:=h
 go_enter Tryz.func213,Tryz.ntmps213
 go_wp2
 go_ret
 exact ⟨rfl,rfl⟩
theorem op_mul (a c:Int) (w:World) (h:-9223372036854775808 ≤ a * c∧a * c ≤ 9223372036854775807):Calls Tryz.prog 214 #[.int .i64 a,.int .i64 c] w fun e w'=>e=.returned (.int .i64 (a * c))∧w=w':=by
 obtain ⟨h1,h2⟩:=h
 go_enter Tryz.func214,Tryz.ntmps214
 go_wp2
 go_ret
 exact ⟨rfl,rfl⟩
theorem tdiv_in {a c:Int} (ha:-2147483648 ≤ a∧a ≤ 2147483648):-2147483648 ≤ a.tdiv c∧a.tdiv c ≤ 2147483648:=by
 have h:(a.tdiv c).natAbs ≤ a.natAbs:=by rw [Int.natAbs_tdiv]; exact Nat.div_le_self _ _
 omega
theorem tmod_in {a c:Int} (ha:-2147483648 ≤ a∧a ≤ 2147483648):-2147483648 ≤ a.tmod c∧a.tmod c ≤ 2147483648:=by
 have h:(a.tmod c).natAbs ≤ a.natAbs:=by rw [Int.natAbs_tmod]; exact Nat.mod_le _ _
 omega
theorem op_div (a c:Int) (w:World) (ha:-2147483648 ≤ a∧a ≤ 2147483648) (hc:c ≠ 0):Calls Tryz.prog 215 #[.int .i64 a,.int .i64 c] w fun e w'=>e=.returned (.int .i64 (a.tdiv c))∧w=w':=by
 obtain ⟨h1,h2⟩:=tdiv_in (c:=c) ha
 obtain ⟨h3,h4⟩:=ha
 go_enter Tryz.func215,Tryz.ntmps215
 go_wp2
 go_ret
 exact ⟨ret_int (by first | rfl | (simp [Int.tdiv_eq_ediv]; done)),rfl⟩
theorem op_rem (a c:Int) (w:World) (ha:-2147483648 ≤ a∧a ≤ 2147483648) (hc:c ≠ 0):Calls Tryz.prog 216 #[.int .i64 a,.int .i64 c] w fun e w'=>e=.returned (.int .i64 (a.tmod c))∧w=w':=by
 obtain ⟨h1,h2⟩:=tmod_in (c:=c) ha
 obtain ⟨h3,h4⟩:=ha
 go_enter Tryz.func216,Tryz.ntmps216
 go_wp2
 go_ret
 exact ⟨ret_int (by first | rfl | (simp [Int.tdiv_eq_ediv]; done)),rfl⟩
theorem op_and (a c:Int) (w:World):Calls Tryz.prog 218 #[.int .i64 a,.int .i64 c] w fun e w'=>e=.returned (.int .i64 (Go.bits .and .i64 a c))∧w=w':=by
 go_enter Tryz.func218,Tryz.ntmps218
 go_wp2
 go_ret
 exact ⟨rfl,rfl⟩
theorem op_or (a c:Int) (w:World):Calls Tryz.prog 219 #[.int .i64 a,.int .i64 c] w fun e w'=>e=.returned (.int .i64 (Go.bits .or .i64 a c))∧w=w':=by
 go_enter Tryz.func219,Tryz.ntmps219
 go_wp2
 go_ret
 exact ⟨rfl,rfl⟩
theorem op_xor (a c:Int) (w:World):Calls Tryz.prog 220 #[.int .i64 a,.int .i64 c] w fun e w'=>e=.returned (.int .i64 (Go.bits .xor .i64 a c))∧w=w':=by
 go_enter Tryz.func220,Tryz.ntmps220
 go_wp2
 go_ret
 exact ⟨rfl,rfl⟩
def fnV (k:Nat):Value:=.func (.func k) #[] #[]
def opsC:Array Value:=#[.nilFunc,.nilFunc,.nilFunc,.nilFunc,.nilFunc,.nilFunc,.nilFunc,.nilFunc,.nilFunc,.nilFunc,
   fnV 212,.nilFunc,fnV 213,.nilFunc,fnV 214,.nilFunc,fnV 215,.nilFunc,fnV 216,.nilFunc,
   fnV 212,fnV 189,fnV 213,fnV 189,fnV 214,fnV 189,fnV 212,fnV 217,fnV 213,fnV 217,
   fnV 218,fnV 189,fnV 219,fnV 189,fnV 220,fnV 189]
def noneC:Array Value:=#[.nilFunc,.nilFunc,.nilFunc,.nilFunc,.nilFunc,.nilFunc,.nilFunc,.nilFunc,.nilFunc,.nilFunc,.nilFunc,.nilFunc,.nilFunc,.nilFunc,.nilFunc,.nilFunc,.nilFunc,.nilFunc,.nilFunc,.nilFunc,.nilFunc,.nilFunc,.nilFunc,.nilFunc,.nilFunc,.nilFunc,.nilFunc,.nilFunc,.nilFunc,.nilFunc,.nilFunc,.nilFunc,.nilFunc,.nilFunc,.nilFunc,.nilFunc]
theorem opsC_one:∀ v ∈ opsC.toList,v.oneCell'=true:=by
 have h:opsC.toList.all (·.oneCell')=true:=by decide +kernel
 exact List.all_eq_true.1 h
theorem operations_any (w:World) :
  Calls Tryz.prog 208 #[] w fun e w'=>e=.returned (.agg opsC)∧Ext w w':=by
 have HZ:Hid ((Tryz.prog.info? 249).map (·.size)=some 36):=by unfold Hid; kernel_rfl
 go_enter Tryz.func208,Tryz.ntmps208
 go_wp2_with (first
  | (refine wpList_store_row rfl 249 _ _ rfl w.heap.size rfl 249 noneC opsC (Blk.new _ _ _) rfl rfl opsC_one HZ.out ?_))
 go_outline
 refine bodyPost_ret (results_cell_row rfl _ _ w.heap.size 249 opsC (0,0) _ rfl ((Blk.new w _ _).row _) Tryz.underlying249 rfl HZ.out) rfl ⟨rfl,((Ext.refl _).alloc _).setRow (Nat.le_refl _) _⟩

theorem asked_any (op:Int) (s:Bool) (b a c:Int) (w:World) (h1:1 ≤ b) (h2:b ≤ 31) (h3:5 ≤ op) (h4:op ≤ 17) (ha:fitI s b a=true) (hc:fitI s b c=true) :
  Calls Tryz.prog 191 #[.int .i64 op,.agg #[.bool s,.int .i64 b],.int .i64 a,.int .i64 c] w fun e w'=>e=.returned (.int .i64 0)∧Ext w w':=by
 have HV:=Lib.hid (vInt_zero h1 h2)
 have HA:=Lib.hid ha
 have HC:=Lib.hid hc
 clear ha hc
 have FF:Hid (∀ n w,fitI s b n=true → Calls Tryz.prog 190 #[.agg #[.bool s,.int .i64 b],.int .i64 n] w fun e w'=>e=.returned (.bool true)∧Ext w w'):=by
  intro n w hn
  have:=fits_any s b n w h1 h2
  rwa [hn] at this
 go_enter Tryz.func191,Tryz.ntmps191
 go_wp2_with (first
  | (go_at_call 175; refine (numValidate_any s b _).mono ?_; rw [HV.out]; rintro r w1 ⟨rfl,x1⟩; have y1:=x1.facts; have z1:=x1.z0)
  | (go_at_call 190; (with_reducible refine (FF.out a _ HA.out).mono ?_); rintro r w2 ⟨rfl,x2⟩; have y2:=x2.facts; have z2:=Nat.lt_of_lt_of_le z1 x2.size)
  | (go_at_call 190; (with_reducible refine (FF.out c _ HC.out).mono ?_); rintro r w3 ⟨rfl,x3⟩))
 all_goals
  go_ret
  exact ⟨rfl,exA⟩
def DoRet (op:Int) (s:Bool) (b a c:Int) (e:Ending):Prop:=e=.returned (.tuple #[.int .i64 (looseI op s b a c),.int .i64 (whyI op s b a c)])
theorem doRet {op:Int} {s:Bool} {b a c n y:Int} (h:looseI op s b a c=n) (h2:whyI op s b a c=y):DoRet op s b a c (.returned (.tuple #[.int .i64 n,.int .i64 y])):=by
 unfold DoRet; rw [h,h2]
theorem span_pow (b:Int):spanI b=2 ^ b.toNat:=rfl
theorem bend_bits {s:Bool} {b a c:Int} {x:Int} {op:Int} (hb:1 ≤ b∧b ≤ 31) (hop:15 ≤ op) (h:x % 2 ^ b.toNat=(bitN op (a % 2 ^ b.toNat).toNat (c % 2 ^ b.toNat).toNat:Nat)):looseI op s b a c=bendI s b x:=by
 unfold looseI
 rw [if_pos hop,span_pow,← h,← bend_emod s b x,span_pow]
theorem idx_at (w:World) (i:Int) (v:Value) (h1:0 ≤ i) (h2:i < 18) (h:.agg (opsC.extract (i.toNat * 2) (i.toNat * 2 + 2))=v):(Instr.index 249 (.agg opsC) (.int .i64 i)).run Tryz.prog w=.ok v w:=by
 subst h
 simp [Instr.index,run_underlying Tryz.underlying249,asIntOf,part,Tryz.isAgg248,Tryz.sizeOf248,go_sem,h1,h2]
theorem do_zero (op:Int) (s:Bool) (b a:Int) (w:World) (h:op=8 ∨ op=9) :
  Calls Tryz.prog 192 #[.int .i64 op,.agg #[.bool s,.int .i64 b],.int .i64 a,.int .i64 0] w fun e w'=>DoRet op s b a 0 e∧Ext w w':=by
 have H8:=Lib.hid (show DoRet 8 s b a 0 (.returned (.tuple #[.int .i64 0,.int .i64 2])) from doRet rfl rfl)
 have H9:=Lib.hid (show DoRet 9 s b a 0 (.returned (.tuple #[.int .i64 a,.int .i64 2])) from doRet rfl rfl)
 rcases h with rfl | rfl
 all_goals
  go_enter Tryz.func192,Tryz.ntmps192
  go_wp2_with fail
  go_ret2
  exact ⟨by first | exact H8.out | exact H9.out,exA⟩
theorem two_one (f g:Nat):∀ v ∈ (#[.func (.func f) #[] #[],.func (.func g) #[] #[]]:Array Value).toList,v.oneCell'=true:=by
 intro v hv
 simp at hv
 rcases hv with rfl | rfl <;> rfl
theorem two_none (f:Nat):∀ v ∈ (#[.func (.func f) #[] #[],.nilFunc]:Array Value).toList,v.oneCell'=true:=by
 intro v hv
 simp at hv
 rcases hv with rfl | rfl <;> rfl
theorem store_op {w1:World} {ops:Array Oper} {rest:List Oper} {o:Oper} {a:Act} {Q:Exit → Act → World → Prop} (f g:Value) (hgd:o.guard=none) (x y:Operand) (ho:o.op=.store 248 x y)
  (hx:a.eval x=.pointer (some ⟨w1.heap.size,0,none⟩)) (hy:a.eval y=.agg #[f,g]) (hz:(Tryz.prog.info? 248).map (·.size)=some 2) (h1:∀ v ∈ (#[f,g]:Array Value).toList,v.oneCell'=true)
  (h:∀ w2,Ext w1 w2 → w2.cell? ⟨w1.heap.size,0,none⟩=some f → w2.cell? ⟨w1.heap.size,1,none⟩=some g → w1.heap.size < w2.heap.size → wpList Tryz.prog ops Q rest (a.put o.dst undef) w2) :
  wpList Tryz.prog ops Q (o :: rest) a (w1.alloc (.cells #[.nilFunc,.nilFunc] 248)):=by
 refine wpList_store_row hgd 248 x y ho w1.heap.size hx 248 #[.nilFunc,.nilFunc] #[f,g] (Blk.new w1 _ _) hy rfl h1 hz ?_
 have B:=(Blk.new w1 248 #[.nilFunc,.nilFunc]).row #[f,g]
 exact h _ (((Ext.refl w1).alloc _).setRow (Nat.le_refl _) _) (B.cell 0) (B.cell 1) B.lt
theorem under_into:Tryz.prog.underlying 203 = some (.func #[122,3] #[3] false):=by kernel_rfl
theorem eq_some (d:Nat) (k:Nat) (w:World):(Op.equalIn (d + 1) 203 (.func (.func k) #[] #[]) .nilFunc).run Tryz.prog w=.ok false w:=by
 simp [Op.equalIn,run_underlying under_into]
theorem eq_none (d:Nat) (w:World):(Op.equalIn (d + 1) 203 .nilFunc .nilFunc).run Tryz.prog w=.ok true w:=by
 simp [Op.equalIn,run_underlying under_into]
theorem neq_some (k:Nat) (w:World):(binOp .neq 203 (.func (.func k) #[] #[]) .nilFunc).run Tryz.prog w=.ok (.bool true) w:=by
 have h:(Op.equal 203 (.func (.func k) #[] #[]) .nilFunc).run Tryz.prog w=.ok false w:=eq_some 9999 k w
 simp only [binOp]
 simp [h]
theorem neq_none (w:World):(binOp .neq 203 .nilFunc .nilFunc).run Tryz.prog w=.ok (.bool false) w:=by
 have h:(Op.equal 203 .nilFunc .nilFunc).run Tryz.prog w=.ok true w:=eq_none 9999 w
 simp only [binOp]
 simp [h]
theorem do_into_some (op:Int) (s:Bool) (b a c:Int) (w:World) (h1:1 ≤ b) (h2:b ≤ 31) (ha:-2147483648 ≤ a∧a ≤ 2147483648) (hc:-2147483648 ≤ c∧c ≤ 2147483648) (hz:¬ c=0) (h:op=10 ∨ op=11 ∨ op=12 ∨ op=13 ∨ op=14 ∨ op=15 ∨ op=16 ∨ op=17) :
  Calls Tryz.prog 192 #[.int .i64 op,.agg #[.bool s,.int .i64 b],.int .i64 a,.int .i64 c] w fun e w'=>DoRet op s b a c e∧Ext w w':=by
 have hb1:=bits_and a c b.toNat (by omega)
 have hb2:=bits_or a c b.toNat (by omega)
 have hb3:=bits_xor a c b.toNat (by omega)
 have hm:=mul_in ha hc
 have H10:=Lib.hid (show DoRet 10 s b a c (.returned (.tuple #[.int .i64 (bendI s b (a + c)),.int .i64 0])) from doRet rfl rfl)
 have H11:=Lib.hid (show DoRet 11 s b a c (.returned (.tuple #[.int .i64 (bendI s b (a - c)),.int .i64 0])) from doRet rfl rfl)
 have H12:=Lib.hid (show DoRet 12 s b a c (.returned (.tuple #[.int .i64 (bendI s b (a * c)),.int .i64 0])) from doRet rfl rfl)
 have H13:=Lib.hid (show DoRet 13 s b a c (.returned (.tuple #[.int .i64 (nearI s b (a + c)),.int .i64 0])) from doRet rfl rfl)
 have H14:=Lib.hid (show DoRet 14 s b a c (.returned (.tuple #[.int .i64 (nearI s b (a - c)),.int .i64 0])) from doRet rfl rfl)
 have H15:=Lib.hid (show DoRet 15 s b a c (.returned (.tuple #[.int .i64 (bendI s b (Go.bits .and .i64 a c)),.int .i64 0])) from doRet (bend_bits ⟨h1,h2⟩ (by decide) hb1) rfl)
 have H16:=Lib.hid (show DoRet 16 s b a c (.returned (.tuple #[.int .i64 (bendI s b (Go.bits .or .i64 a c)),.int .i64 0])) from doRet (bend_bits ⟨h1,h2⟩ (by decide) hb2) rfl)
 have H17:=Lib.hid (show DoRet 17 s b a c (.returned (.tuple #[.int .i64 (bendI s b (Go.bits .xor .i64 a c)),.int .i64 0])) from doRet (bend_bits ⟨h1,h2⟩ (by decide) hb3) rfl)
 have i10:=fun w=>idx_at w 10 (.agg #[.func (.func 212) #[] #[],.func (.func 189) #[] #[]]) (by decide) (by decide) rfl
 have i11:=fun w=>idx_at w 11 (.agg #[.func (.func 213) #[] #[],.func (.func 189) #[] #[]]) (by decide) (by decide) rfl
 have i12:=fun w=>idx_at w 12 (.agg #[.func (.func 214) #[] #[],.func (.func 189) #[] #[]]) (by decide) (by decide) rfl
 have i13:=fun w=>idx_at w 13 (.agg #[.func (.func 212) #[] #[],.func (.func 217) #[] #[]]) (by decide) (by decide) rfl
 have i14:=fun w=>idx_at w 14 (.agg #[.func (.func 213) #[] #[],.func (.func 217) #[] #[]]) (by decide) (by decide) rfl
 have i15:=fun w=>idx_at w 15 (.agg #[.func (.func 218) #[] #[],.func (.func 189) #[] #[]]) (by decide) (by decide) rfl
 have i16:=fun w=>idx_at w 16 (.agg #[.func (.func 219) #[] #[],.func (.func 189) #[] #[]]) (by decide) (by decide) rfl
 have i17:=fun w=>idx_at w 17 (.agg #[.func (.func 220) #[] #[],.func (.func 189) #[] #[]]) (by decide) (by decide) rfl
 have HZ:Hid ((Tryz.prog.info? 248).map (·.size)=some 2):=by unfold Hid; kernel_rfl
 have P1:=Lib.hid (show -9223372036854775808 ≤ a + c∧a + c ≤ 9223372036854775807 by omega)
 have P2:=Lib.hid (show -9223372036854775808 ≤ a - c∧a - c ≤ 9223372036854775807 by omega)
 have P3:=Lib.hid (show -9223372036854775808 ≤ a * c∧a * c ≤ 9223372036854775807 by omega)
 have n1:=neq_some 189
 have n2:=neq_some 217
 clear hb1 hb2 hb3 hm ha hc
 rcases h with rfl | rfl | rfl | rfl | rfl | rfl | rfl | rfl
 all_goals
  go_enter Tryz.func192,Tryz.ntmps192
  go_wp2_with (first
   | (go_at_call 208; refine (operations_any _).mono ?_; rintro r w1 ⟨rfl,x1⟩; have y1:=x1.facts; have z1:=x1.z0)
   | ((with_reducible show wpList _ _ _ (Oper.mk none (.store 248 (.tmp 10) (.tmp 27)) _ _ _ _ :: _) _ _)
      refine store_op _ _ rfl _ _ rfl rfl rfl HZ.out (by first | exact two_one _ _ | exact two_none _) ?_
      intro w2 x2 c0 c1 z2
      have y2:=x2.facts
      have zz2:w.heap.size < w2.heap.size:=Nat.lt_of_lt_of_le z1 (Nat.le_of_lt z2))
   | (go_at_call 212; refine (op_add _ _ _ P1.out).mono ?_; rintro r w' ⟨rfl,rfl⟩)
   | (go_at_call 213; refine (op_sub _ _ _ P2.out).mono ?_; rintro r w' ⟨rfl,rfl⟩)
   | (go_at_call 214; refine (op_mul _ _ _ P3.out).mono ?_; rintro r w' ⟨rfl,rfl⟩)
   | (go_at_call 218; refine (op_and _ _ _).mono ?_; rintro r w' ⟨rfl,rfl⟩)
   | (go_at_call 219; refine (op_or _ _ _).mono ?_; rintro r w' ⟨rfl,rfl⟩)
   | (go_at_call 220; refine (op_xor _ _ _).mono ?_; rintro r w' ⟨rfl,rfl⟩)
   | (go_at_call 189; refine (nwrap_any s b _ _ h1 h2).mono ?_; rintro r w4 ⟨rfl,x4⟩)
   | (go_at_call 217; refine (near_any s b _ _ h1 h2).mono ?_; rintro r w3 ⟨rfl,x3⟩))
  go_ret2
  exact ⟨by first | exact H10.out | exact H11.out | exact H12.out | exact H13.out | exact H14.out | exact H15.out | exact H16.out | exact H17.out,exA⟩
theorem do_into_zero (op:Int) (s:Bool) (b a:Int) (w:World) (h1:1 ≤ b) (h2:b ≤ 31) (ha:-2147483648 ≤ a∧a ≤ 2147483648) (h:op=10 ∨ op=11 ∨ op=12 ∨ op=13 ∨ op=14 ∨ op=15 ∨ op=16 ∨ op=17) :
  Calls Tryz.prog 192 #[.int .i64 op,.agg #[.bool s,.int .i64 b],.int .i64 a,.int .i64 0] w fun e w'=>DoRet op s b a 0 e∧Ext w w':=by
 have hb1:=bits_and a 0 b.toNat (by omega)
 have hb2:=bits_or a 0 b.toNat (by omega)
 have hb3:=bits_xor a 0 b.toNat (by omega)
 have hm:=mul_in ha (c:=0) (by decide)
 have H10:=Lib.hid (show DoRet 10 s b a 0 (.returned (.tuple #[.int .i64 (bendI s b a),.int .i64 0])) from doRet (by first | exact congrArg (bendI s b) (show a + 0=a by omega) | exact congrArg (nearI s b) (show a + 0=a by omega)) rfl)
 have H11:=Lib.hid (show DoRet 11 s b a 0 (.returned (.tuple #[.int .i64 (bendI s b a),.int .i64 0])) from doRet (by first | exact congrArg (bendI s b) (show a - 0=a by omega) | exact congrArg (nearI s b) (show a - 0=a by omega)) rfl)
 have H12:=Lib.hid (show DoRet 12 s b a 0 (.returned (.tuple #[.int .i64 (bendI s b 0),.int .i64 0])) from doRet (by first | exact congrArg (bendI s b) (show a * 0=0 by omega) | exact congrArg (nearI s b) (show a * 0=0 by omega)) rfl)
 have H13:=Lib.hid (show DoRet 13 s b a 0 (.returned (.tuple #[.int .i64 (nearI s b a),.int .i64 0])) from doRet (by first | exact congrArg (bendI s b) (show a + 0=a by omega) | exact congrArg (nearI s b) (show a + 0=a by omega)) rfl)
 have H14:=Lib.hid (show DoRet 14 s b a 0 (.returned (.tuple #[.int .i64 (nearI s b a),.int .i64 0])) from doRet (by first | exact congrArg (bendI s b) (show a - 0=a by omega) | exact congrArg (nearI s b) (show a - 0=a by omega)) rfl)
 have H15:=Lib.hid (show DoRet 15 s b a 0 (.returned (.tuple #[.int .i64 (bendI s b (Go.bits .and .i64 a 0)),.int .i64 0])) from doRet (bend_bits ⟨h1,h2⟩ (by decide) hb1) rfl)
 have H16:=Lib.hid (show DoRet 16 s b a 0 (.returned (.tuple #[.int .i64 (bendI s b (Go.bits .or .i64 a 0)),.int .i64 0])) from doRet (bend_bits ⟨h1,h2⟩ (by decide) hb2) rfl)
 have H17:=Lib.hid (show DoRet 17 s b a 0 (.returned (.tuple #[.int .i64 (bendI s b (Go.bits .xor .i64 a 0)),.int .i64 0])) from doRet (bend_bits ⟨h1,h2⟩ (by decide) hb3) rfl)
 have i10:=fun w=>idx_at w 10 (.agg #[.func (.func 212) #[] #[],.func (.func 189) #[] #[]]) (by decide) (by decide) rfl
 have i11:=fun w=>idx_at w 11 (.agg #[.func (.func 213) #[] #[],.func (.func 189) #[] #[]]) (by decide) (by decide) rfl
 have i12:=fun w=>idx_at w 12 (.agg #[.func (.func 214) #[] #[],.func (.func 189) #[] #[]]) (by decide) (by decide) rfl
 have i13:=fun w=>idx_at w 13 (.agg #[.func (.func 212) #[] #[],.func (.func 217) #[] #[]]) (by decide) (by decide) rfl
 have i14:=fun w=>idx_at w 14 (.agg #[.func (.func 213) #[] #[],.func (.func 217) #[] #[]]) (by decide) (by decide) rfl
 have i15:=fun w=>idx_at w 15 (.agg #[.func (.func 218) #[] #[],.func (.func 189) #[] #[]]) (by decide) (by decide) rfl
 have i16:=fun w=>idx_at w 16 (.agg #[.func (.func 219) #[] #[],.func (.func 189) #[] #[]]) (by decide) (by decide) rfl
 have i17:=fun w=>idx_at w 17 (.agg #[.func (.func 220) #[] #[],.func (.func 189) #[] #[]]) (by decide) (by decide) rfl
 have HZ:Hid ((Tryz.prog.info? 248).map (·.size)=some 2):=by unfold Hid; kernel_rfl
 have P1:=Lib.hid (show -9223372036854775808 ≤ a + 0∧a + 0 ≤ 9223372036854775807 by omega)
 have P2:=Lib.hid (show -9223372036854775808 ≤ a - 0∧a - 0 ≤ 9223372036854775807 by omega)
 have P3:=Lib.hid (show -9223372036854775808 ≤ a * 0∧a * 0 ≤ 9223372036854775807 by omega)
 have n1:=neq_some 189
 have n2:=neq_some 217
 clear hb1 hb2 hb3 hm ha
 rcases h with rfl | rfl | rfl | rfl | rfl | rfl | rfl | rfl
 all_goals
  go_enter Tryz.func192,Tryz.ntmps192
  go_wp2_with (first
   | (go_at_call 208; refine (operations_any _).mono ?_; rintro r w1 ⟨rfl,x1⟩; have y1:=x1.facts; have z1:=x1.z0)
   | ((with_reducible show wpList _ _ _ (Oper.mk none (.store 248 (.tmp 10) (.tmp 27)) _ _ _ _ :: _) _ _)
      refine store_op _ _ rfl _ _ rfl rfl rfl HZ.out (by first | exact two_one _ _ | exact two_none _) ?_
      intro w2 x2 c0 c1 z2
      have y2:=x2.facts
      have zz2:w.heap.size < w2.heap.size:=Nat.lt_of_lt_of_le z1 (Nat.le_of_lt z2))
   | (go_at_call 212; refine (op_add a 0 _ P1.out).mono ?_; rintro r w' ⟨rfl,rfl⟩; try simp only [Int.add_zero,Int.sub_zero,Int.mul_zero])
   | (go_at_call 213; refine (op_sub a 0 _ P2.out).mono ?_; rintro r w' ⟨rfl,rfl⟩; try simp only [Int.add_zero,Int.sub_zero,Int.mul_zero])
   | (go_at_call 214; refine (op_mul a 0 _ P3.out).mono ?_; rintro r w' ⟨rfl,rfl⟩; try simp only [Int.add_zero,Int.sub_zero,Int.mul_zero])
   | (go_at_call 218; refine (op_and _ _ _).mono ?_; rintro r w' ⟨rfl,rfl⟩; try simp only [Int.add_zero,Int.sub_zero,Int.mul_zero])
   | (go_at_call 219; refine (op_or _ _ _).mono ?_; rintro r w' ⟨rfl,rfl⟩; try simp only [Int.add_zero,Int.sub_zero,Int.mul_zero])
   | (go_at_call 220; refine (op_xor _ _ _).mono ?_; rintro r w' ⟨rfl,rfl⟩; try simp only [Int.add_zero,Int.sub_zero,Int.mul_zero])
   | (go_at_call 189; refine (nwrap_any s b _ _ h1 h2).mono ?_; rintro r w4 ⟨rfl,x4⟩)
   | (go_at_call 217; refine (near_any s b _ _ h1 h2).mono ?_; rintro r w3 ⟨rfl,x3⟩))
  go_ret2
  exact ⟨by first | exact H10.out | exact H11.out | exact H12.out | exact H13.out | exact H14.out | exact H15.out | exact H16.out | exact H17.out,exA⟩
end Go.Proofs.YtcoookehfhhhdaaGreatDoor.c
