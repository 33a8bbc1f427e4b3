/- Plain arithmetic of numbers of types: ends, wrapping, the operations, bit by bit too. No condition. Register code as plain data, and what it does, told plainly: a run is a derivation, and there is one at most. No condition. Each run comes to an end, and within the quota; what a run's first step tells. No condition. -/
import Derived.WalkKit
import Derived.Laws.BitsAllLaws
import Derived.Test.YtknaemlnhediaaaGreatDoorName
namespace Go.Proofs.YtknaemlnhediaaaGreatDoor.c
open Go.RowKit
set_option linter.unusedVariables false
set_option linter.unusedSimpArgs false

def spanI (b:Int):Int:=2 ^ b.toNat
def loI (s:Bool) (b:Int):Int:=if s=true then -(spanI b / 2) else 0
def hiI (s:Bool) (b:Int):Int:=if s=true then spanI b / 2 - 1 else spanI b - 1
def fitI (s:Bool) (b n:Int):Bool:=decide (loI s b ≤ n) && decide (n ≤ hiI s b)
def bendI (s:Bool) (b n:Int):Int:=if s=true∧spanI b / 2 ≤ n % spanI b then n % spanI b - spanI b else n % spanI b
def nearI (s:Bool) (b n:Int):Int:=if n < loI s b then loI s b else if hiI s b < n then hiI s b else n
theorem span_parts {b:Int} (h1:1 ≤ b) (h2:b ≤ 31):∃ q:Int,spanI b=2 * q∧1 ≤ q∧q ≤ 1073741824∧q=2 ^ (b - 1).toNat:=by
 have e:b.toNat=(b - 1).toNat + 1:=by omega
 refine ⟨2 ^ (b - 1).toNat,?_,?_,?_,rfl⟩
 ·unfold spanI
  rw [e,Int.pow_succ]
  omega
 ·exact Int.pow_pos (by decide)
 ·have h:(b - 1).toNat ≤ 30:=by omega
  have h2:(2:Int) ^ (b - 1).toNat ≤ 2 ^ 30:=by
   have:=Nat.pow_le_pow_right (n:=2) (by decide) h
   exact_mod_cast this
  simpa using h2
theorem fit_iff {s:Bool} {b n:Int}:fitI s b n=true ↔ loI s b ≤ n∧n ≤ hiI s b:=by
 unfold fitI
 simp
theorem ends_in {b:Int} (s:Bool) (h1:1 ≤ b) (h2:b ≤ 31):-1073741824 ≤ loI s b∧loI s b ≤ 0∧0 ≤ hiI s b∧hiI s b ≤ 2147483647:=by
 obtain ⟨q,e,q1,q2,_⟩:=span_parts h1 h2
 unfold loI hiI
 rw [e]
 cases s
 ·simp; omega
 ·simp; omega
theorem fit_in {s:Bool} {b n:Int} (h1:1 ≤ b) (h2:b ≤ 31) (h:fitI s b n=true):-1073741824 ≤ n∧n ≤ 2147483647:=by
 have h3:=ends_in s h1 h2
 have h4:=fit_iff.1 h
 omega
theorem bend_fit {b:Int} (s:Bool) (n:Int) (h1:1 ≤ b) (h2:b ≤ 31):fitI s b (bendI s b n)=true:=by
 obtain ⟨q,e,q1,q2,_⟩:=span_parts h1 h2
 have hn:=Int.emod_nonneg n (show spanI b ≠ 0 by omega)
 have hm:=Int.emod_lt_of_pos n (show 0 < spanI b by omega)
 rw [fit_iff]
 unfold loI hiI bendI
 cases s
 ·simp; omega
 ·simp
  split <;> omega
theorem bend_same {s:Bool} {b n:Int} (h1:1 ≤ b) (h2:b ≤ 31) (h:fitI s b n=true):bendI s b n=n:=by
 obtain ⟨q,e,q1,q2,_⟩:=span_parts h1 h2
 rw [fit_iff] at h
 unfold loI hiI at h
 unfold bendI
 cases s
 ·simp at h ⊢
  exact Int.emod_eq_of_lt h.1 (by omega)
 ·simp at h ⊢
  by_cases hn:0 ≤ n
  ·rw [Int.emod_eq_of_lt hn (by omega),if_neg (by omega)]
  ·have:n % spanI b=n + spanI b:=by
    rw [← Int.add_emod_right,Int.emod_eq_of_lt (by omega) (by omega)]
   rw [this,if_pos (by omega)]
   omega
theorem bend_emod (s:Bool) (b n:Int):bendI s b (n % spanI b)=bendI s b n:=by
 unfold bendI
 rw [Int.emod_emod_of_dvd _ (Int.dvd_refl _)]
/-! ### bit by bit -/
theorem ofInt_nat (n:Int):(BitVec.ofInt 64 n).toNat=(n % 18446744073709551616).toNat:=by
 rw [BitVec.toNat_ofInt]; rfl
theorem mod_low (n:Int) (k:Nat) (hk:k ≤ 63):(((n % 18446744073709551616).toNat % 2 ^ k:Nat):Int)=n % 2 ^ k:=by
 have hd:((2:Int) ^ k) ∣ 18446744073709551616:=⟨2 ^ (64 - k),by rw [← Int.pow_add,show k + (64 - k)=64 by omega]; rfl⟩
 rw [Int.natCast_emod,Int.toNat_of_nonneg (Int.emod_nonneg _ (by decide))]
 have:((2 ^ k:Nat):Int)=2 ^ k:=by simp
 rw [this,Int.emod_emod_of_dvd _ hd]
theorem wrap_low (x:Int) (k:Nat) (hk:k ≤ 63):IntKind.i64.wrap x % 2 ^ k=x % 2 ^ k:=by
 have hd:((2:Int) ^ k) ∣ 18446744073709551616:=⟨2 ^ (64 - k),by rw [← Int.pow_add,show k + (64 - k)=64 by omega]; rfl⟩
 have e:∃ c,IntKind.i64.wrap x=x + 18446744073709551616 * c:=by
  refine ⟨(IntKind.i64.wrap x - x) / 18446744073709551616,?_⟩
  have:18446744073709551616 ∣ (IntKind.i64.wrap x - x):=by
   unfold IntKind.wrap
   simp [IntKind.signed,IntKind.bits]
   split <;> omega
  omega
 obtain ⟨c,e⟩:=e
 obtain ⟨d,hd⟩:=hd
 rw [e,hd,Int.mul_assoc,Int.add_mul_emod_self_left]
theorem land_mask (n:Int) (k:Nat) (hk:k ≤ 62):Go.bits .and .i64 n (2 ^ k - 1)=n % 2 ^ k:=by
 have hp:((2:Int) ^ k)=((2 ^ k:Nat):Int):=by simp
 have hlt:2 ^ k ≤ 2 ^ 62:=Nat.pow_le_pow_right (by decide) hk
 have hpos:0 < 2 ^ k:=Nat.pow_pos (by decide)
 have e2:(BitVec.ofInt 64 ((2:Int) ^ k - 1)).toNat=2 ^ k - 1:=by
  rw [ofInt_nat,hp,Int.emod_eq_of_lt (by omega) (by omega)]
  omega
 show IntKind.i64.wrap ((BitVec.ofInt 64 n &&& BitVec.ofInt 64 (2 ^ k - 1)).toNat:Int)=_
 rw [BitVec.toNat_and,e2,Nat.and_two_pow_sub_one_eq_mod,ofInt_nat,mod_low n k (by omega)]
 have h1:=Int.emod_nonneg n (show (2:Int) ^ k ≠ 0 by omega)
 have h2:=Int.emod_lt_of_pos n (show 0 < (2:Int) ^ k by omega)
 unfold IntKind.wrap
 simp [IntKind.signed,IntKind.bits]
 rw [Int.emod_eq_of_lt h1 (by omega),if_neg (by omega)]
def bitN (op:Int) (x y:Nat):Nat:=if op=15 then x &&& y else if op=16 then x ||| y else x ^^^ y
theorem bits_and (a c:Int) (k:Nat) (hk:k ≤ 62):Go.bits .and .i64 a c % 2 ^ k=(bitN 15 (a % 2 ^ k).toNat (c % 2 ^ k).toNat:Nat):=by
 have ea:=mod_low a k (by omega)
 have ec:=mod_low c k (by omega)
 show IntKind.i64.wrap ((BitVec.ofInt 64 a &&& BitVec.ofInt 64 c).toNat:Int) % 2 ^ k=_
 rw [wrap_low _ k (by omega),BitVec.toNat_and,ofInt_nat,ofInt_nat,← ea,← ec,Int.toNat_natCast,Int.toNat_natCast]
 unfold bitN
 rw [if_pos rfl,← Nat.and_mod_two_pow]
 simp
theorem bits_or (a c:Int) (k:Nat) (hk:k ≤ 62):Go.bits .or .i64 a c % 2 ^ k=(bitN 16 (a % 2 ^ k).toNat (c % 2 ^ k).toNat:Nat):=by
 have ea:=mod_low a k (by omega)
 have ec:=mod_low c k (by omega)
 show IntKind.i64.wrap ((BitVec.ofInt 64 a ||| BitVec.ofInt 64 c).toNat:Int) % 2 ^ k=_
 rw [wrap_low _ k (by omega),BitVec.toNat_or,ofInt_nat,ofInt_nat,← ea,← ec,Int.toNat_natCast,Int.toNat_natCast]
 unfold bitN
 rw [if_neg (by decide),if_pos rfl,← Nat.or_mod_two_pow]
 simp
theorem bits_xor (a c:Int) (k:Nat) (hk:k ≤ 62):Go.bits .xor .i64 a c % 2 ^ k=(bitN 17 (a % 2 ^ k).toNat (c % 2 ^ k).toNat:Nat):=by
 have ea:=mod_low a k (by omega)
 have ec:=mod_low c k (by omega)
 show IntKind.i64.wrap ((BitVec.ofInt 64 a ^^^ BitVec.ofInt 64 c).toNat:Int) % 2 ^ k=_
 rw [wrap_low _ k (by omega),BitVec.toNat_xor,ofInt_nat,ofInt_nat,← ea,← ec,Int.toNat_natCast,Int.toNat_natCast]
 unfold bitN
 rw [if_neg (by decide),if_neg (by decide),← Nat.xor_mod_two_pow]
 simp
def digs:Nat → Nat → List Nat
 | 0,_=>[]
 | k + 1,n=>n % 2 :: digs k (n / 2)
def numL:List Nat → Nat
 | []=>0
 | d :: l=>d + 2 * numL l
def bitF (op:Int) (n:Nat):Nat:=if op=15 then n / 2 else if op=16 then (n + 1) / 2 else n % 2
theorem digs_len (k n:Nat):(digs k n).length=k:=by
 induction k generalizing n with
 | zero=>rfl
 | succ k ih=>simp [digs,ih]
theorem digs_mem {k n d:Nat} (h:d ∈ digs k n):d < 2:=by
 induction k generalizing n with
 | zero=>simp [digs] at h
 | succ k ih =>
  simp only [digs,List.mem_cons] at h
  rcases h with rfl | h
  ·omega
  ·exact ih h
theorem bitN_step (op:Int) (x y:Nat):bitN op x y=bitF op (x % 2 + y % 2) + 2 * bitN op (x / 2) (y / 2):=by
 have hx:x % 2=0 ∨ x % 2=1:=by omega
 have hy:y % 2=0 ∨ y % 2=1:=by omega
 unfold bitN bitF
 by_cases h1:op=15
 ·rw [if_pos h1,if_pos h1,if_pos h1]
  have a1:=Nat.and_div_two_pow (a:=x) (b:=y) (n:=1)
  have a2:=Nat.and_mod_two_pow (a:=x) (b:=y) (n:=1)
  simp only [Nat.pow_one] at a1 a2
  generalize x &&& y=z at a1 a2 ⊢
  generalize (x / 2) &&& (y / 2)=u at a1 ⊢
  rcases hx with hx | hx <;> rcases hy with hy | hy <;> (rw [hx,hy] at a2; have a3:z % 2=_:=a2.trans rfl; rw [hx,hy]; revert a3; first | (show z % 2=0 → _; intro a3; omega) | (show z % 2=1 → _; intro a3; omega))
 ·rw [if_neg h1,if_neg h1,if_neg h1]
  by_cases h2:op=16
  ·rw [if_pos h2,if_pos h2,if_pos h2]
   have a1:=Nat.or_div_two_pow (a:=x) (b:=y) (n:=1)
   have a2:=Nat.or_mod_two_pow (a:=x) (b:=y) (n:=1)
   simp only [Nat.pow_one] at a1 a2
   generalize x ||| y=z at a1 a2 ⊢
   generalize (x / 2) ||| (y / 2)=u at a1 ⊢
   rcases hx with hx | hx <;> rcases hy with hy | hy <;> (rw [hx,hy] at a2; have a3:z % 2=_:=a2.trans rfl; rw [hx,hy]; revert a3; first | (show z % 2=0 → _; intro a3; omega) | (show z % 2=1 → _; intro a3; omega))
  ·rw [if_neg h2,if_neg h2,if_neg h2]
   have a1:=Nat.xor_div_two_pow (a:=x) (b:=y) (n:=1)
   have a2:=Nat.xor_mod_two_pow (a:=x) (b:=y) (n:=1)
   simp only [Nat.pow_one] at a1 a2
   generalize x ^^^ y=z at a1 a2 ⊢
   generalize (x / 2) ^^^ (y / 2)=u at a1 ⊢
   rcases hx with hx | hx <;> rcases hy with hy | hy <;> (rw [hx,hy] at a2; have a3:z % 2=_:=a2.trans rfl; rw [hx,hy]; revert a3; first | (show z % 2=0 → _; intro a3; omega) | (show z % 2=1 → _; intro a3; omega))
theorem numL_bits (op:Int) (k x y:Nat) (hx:x < 2 ^ k) (hy:y < 2 ^ k):numL (List.zipWith (fun a c=>bitF op (a + c)) (digs k x) (digs k y))=bitN op x y:=by
 induction k generalizing x y with
 | zero =>
  obtain rfl:x=0:=by simpa using hx
  obtain rfl:y=0:=by simpa using hy
  simp [digs,numL,bitN]
 | succ k ih =>
  rw [Nat.pow_succ] at hx hy
  rw [digs,digs,List.zipWith_cons_cons,numL,ih _ _ (by omega) (by omega),← bitN_step]
theorem numL_lt (l:List Nat) (h:∀ d,d ∈ l → d < 2):numL l < 2 ^ l.length:=by
 induction l with
 | nil=>simp [numL]
 | cons d l ih =>
  have h1:=h d (List.mem_cons_self ..)
  have h2:=ih fun d hd=>h d (List.mem_cons_of_mem _ hd)
  rw [numL,List.length_cons,Nat.pow_succ]
  omega
theorem bitF_lt {op:Int} {n:Nat} (h:n < 3):bitF op n < 2:=by
 unfold bitF
 split
 ·omega
 ·split <;> omega
/-! ### the operations -/
def rawI (op a c:Int):Int :=
 if op=5 ∨ op=10 ∨ op=13 then a + c else if op=6 ∨ op=11 ∨ op=14 then a - c else if op=7 ∨ op=12 then a * c else a.tdiv c
def looseI (op:Int) (s:Bool) (b a c:Int):Int :=
 if 15 ≤ op then bendI s b (bitN op (a % spanI b).toNat (c % spanI b).toNat)
 else if op=8∧c=0 then 0 else if op=9 then (if c=0 then a else a.tmod c)
 else if op=13 ∨ op=14 then nearI s b (rawI op a c)
 else bendI s b (rawI op a c)
def whyI (op:Int) (s:Bool) (b a c:Int):Int :=
 if 10 ≤ op then 0 else if (op=8 ∨ op=9)∧c=0 then 2 else if fitI s b (rawI op a c)=true then 0 else 1
theorem looseI_fit {op:Int} {s:Bool} {b a c:Int} (h1:1 ≤ b) (h2:b ≤ 31) (ha:fitI s b a=true) (hc:fitI s b c=true):fitI s b (looseI op s b a c)=true:=by
 have he:=ends_in s h1 h2
 have h0:fitI s b 0=true:=by rw [fit_iff]; omega
 unfold looseI
 split
 ·exact bend_fit s _ h1 h2
 split
 ·exact h0
 split
 ·split
  ·exact ha
  ·rename_i _ _ _ hc0
   rw [fit_iff] at ha ⊢
   have hb:=Int.natAbs_tmod a c
   have hm:a.natAbs % c.natAbs ≤ a.natAbs:=Nat.mod_le _ _
   rcases Int.le_total 0 a with h | h
   ·have:=Int.tmod_nonneg c h
    omega
   ·have:a.tmod c ≤ 0:=by
     have h5:=Int.tmod_nonneg c (show 0 ≤ -a by omega)
     rw [Int.neg_tmod] at h5
     omega
    omega
 split
 ·rw [fit_iff]
  unfold nearI
  split
  ·omega
  ·split <;> omega
 ·exact bend_fit s _ h1 h2
theorem mul_in {a c:Int} (ha:-2147483648 ≤ a∧a ≤ 2147483648) (hc:-2147483648 ≤ c∧c ≤ 2147483648):-4611686018427387904 ≤ a * c∧a * c ≤ 4611686018427387904:=by
 have h:(a * c).natAbs ≤ 2147483648 * 2147483648:=by
  rw [Int.natAbs_mul]
  exact Nat.mul_le_mul (by omega) (by omega)
 omega

structure Rg where
 op:Int
 d:Int
 a:Int
 b:Int
 ty:Ty
 name:ByteArray
 A:Option Addr
 cap:Nat
 args:List Int
instance:Inhabited Rg:=⟨⟨0,0,0,0,default,⟨#[]⟩,none,0,[]⟩⟩
structure Rf where
 name:ByteArray
 params:Int
 regs:Int
 ty:Ty
 A:Option Addr
 cap:Nat
 code:List Rg
instance:Inhabited Rf:=⟨⟨⟨#[]⟩,0,0,default,none,0,[]⟩⟩
structure Val where
 ty:Ty
 n:Int
 null:Bool
 err:ByteArray
 of:Ty
instance:Inhabited Val:=⟨⟨default,0,false,⟨#[]⟩,default⟩⟩
def pv (n:Int) (null:Bool) (err:ByteArray):Val:=⟨default,n,null,err,default⟩
def nv (n:Int):Val:=pv n false ⟨#[]⟩
def wrapT (t:Ty) (n:Int):Int:=if t.base ≤ 1 then (if t.base=1∧n ≠ 0 then 1 else 0) else bendI (t.base == 3) t.bits n
def cmpB (op a c:Int):Bool :=
 if op=18 then a == c else if op=19 then a != c else if op=20 then decide (a < c) else if op=21 then decide (a ≤ c) else if op=22 then decide (c < a) else decide (c ≤ a)
def b01 (b:Bool):Int:=if b=true then 1 else 0
def numF (ck:Bool) (x:Rg) (v u:Val):Int × Int :=
 if x.op=6 then (b01 (v.n == 0),0)
 else if x.op=9 then (if (ck && v.null)=true then (0,4) else (v.n,0))
 else if x.op=5 then (if fitI (x.ty.base == 3) x.ty.bits (-wrapT x.ty v.n)=true then (-wrapT x.ty v.n,0) else if ck=true then (0,1) else (wrapT x.ty (-wrapT x.ty v.n),0))
 else if x.op=7 then (if (ck && !fitI (x.ty.base == 3) x.ty.bits v.n)=true then (0,3) else (wrapT x.ty v.n,0))
 else if x.op=8 then (wrapT x.ty v.n,0)
 else if 118 ≤ x.op then (b01 (cmpB (x.op - 100) v.n u.n),0)
 else if (ck && whyI (x.op - 100) (x.ty.base == 3) x.ty.bits (wrapT x.ty v.n) (wrapT x.ty u.n) != 0)=true then (0,whyI (x.op - 100) (x.ty.base == 3) x.ty.bits (wrapT x.ty v.n) (wrapT x.ty u.n))
 else (looseI (x.op - 100) (x.ty.base == 3) x.ty.bits (wrapT x.ty v.n) (wrapT x.ty u.n),0)
inductive En where
 | ret (v:Val)
 | stop (why:Int)
 | long
def upd (f:Nat → Val) (i:Nat) (v:Val):Nat → Val:=fun j=>if j=i then v else f j
inductive Nx where
 | done (e:En)
 | go (p:Nat) (R S:Nat → Val)
 | call (nm:ByteArray) (av:List Val) (r:Nat)
def stepF (ck:Bool) (x:Rg) (p:Nat) (R S:Nat → Val):Nx :=
 if x.op=0 then .go (p + 1) (upd R x.d.toNat (nv (wrapT x.ty x.a))) S
 else if x.op=1 then .go (p + 1) (upd R x.d.toNat (pv 0 true ⟨#[]⟩)) S
 else if x.op=2 then .go (p + 1) (upd R x.d.toNat (R x.a.toNat)) S
 else if x.op=3 then .go (p + 1) (upd R x.d.toNat (S x.a.toNat)) S
 else if x.op=4 then .go (p + 1) R (upd S x.a.toNat (R x.b.toNat))
 else if x.op=10 then .go (bif (R x.a.toNat).null then x.d.toNat else p + 1) R S
 else if x.op=11 then .go (bif !emp (R x.a.toNat).err then x.d.toNat else p + 1) R S
 else if x.op=12 then .go x.d.toNat R S
 else if x.op=13 then .go (bif (R x.a.toNat).n == 0 then x.d.toNat else p + 1) R S
 else if x.op=14 then .call x.name (x.args.map fun i=>S i.toNat) x.d.toNat
 else if x.op=15 then .done (.ret (R x.a.toNat))
 else if x.op=16 then .go (p + 1) (upd R x.d.toNat (pv 0 false x.name)) S
 else if x.op=17 then .done (bif ck then .stop x.a else .ret default)
 else bif (numF ck x (R x.a.toNat) (R x.b.toNat)).2 != 0 then .done (.stop (numF ck x (R x.a.toNat) (R x.b.toNat)).2)
  else .go (p + 1) (upd R x.d.toNat (nv (numF ck x (R x.a.toNat) (R x.b.toNat)).1)) S
def indexR (l:List Rf) (n:ByteArray):Int:=findI (fun k=>(l.getD k default).name.toList == n.toList) l.length
inductive Cfg where
 | call (d k:Nat) (av:List Val)
 | at_ (d k p:Nat) (R S:Nat → Val)
inductive Run (l:List Rf) (ck:Bool):Cfg → Nat → En → Nat → Prop where
 | deep {d k av s}:30 < d → Run l ck (.call d k av) s .long s
 | enter {d k av s e t}:d ≤ 30 → Run l ck (.at_ d k 0 (fun _=>default) (fun i=>av.getD i default)) s e t → Run l ck (.call d k av) s e t
 | full {d k p R S s}:40000 ≤ s → Run l ck (.at_ d k p R S) s .long s
 | done {d k p R S s e}:s < 40000 → stepF ck ((l.getD k default).code.getD p default) p R S=.done e → Run l ck (.at_ d k p R S) s e (s + 1)
 | go {d k p R S s e t p' R' S'}:s < 40000 → stepF ck ((l.getD k default).code.getD p default) p R S=.go p' R' S' → Run l ck (.at_ d k p' R' S') (s + 1) e t → Run l ck (.at_ d k p R S) s e t
 | callX {d k p R S s e t nm av r}:s < 40000 → stepF ck ((l.getD k default).code.getD p default) p R S=.call nm av r → Run l ck (.call (d + 1) (indexR l nm).toNat av) (s + 1) e t → (∀ v,e ≠ .ret v) → Run l ck (.at_ d k p R S) s e t
 | callR {d k p R S s v t e u nm av r}:s < 40000 → stepF ck ((l.getD k default).code.getD p default) p R S=.call nm av r → Run l ck (.call (d + 1) (indexR l nm).toNat av) (s + 1) (.ret v) t → Run l ck (.at_ d k (p + 1) (upd R r v) S) t e u → Run l ck (.at_ d k p R S) s e u
theorem Run.mono {l:List Rf} {ck:Bool} {c:Cfg} {s:Nat} {e:En} {t:Nat} (h:Run l ck c s e t):s ≤ t:=by
 induction h with
 | deep _=>exact Nat.le_refl _
 | enter _ _ ih=>exact ih
 | full _=>exact Nat.le_refl _
 | done _ _=>omega
 | go _ _ _ ih=>omega
 | callX _ _ _ _ ih=>omega
 | callR _ _ _ _ ih1 ih2=>omega
theorem Run.det {l:List Rf} {ck:Bool} {c:Cfg} {s:Nat} {e:En} {t:Nat} (h:Run l ck c s e t):∀ {e2:En} {t2:Nat},Run l ck c s e2 t2 → e=e2∧t=t2:=by
 induction h with
 | deep h1=>intro e2 t2 h; cases h with
  | deep _=>exact ⟨rfl,rfl⟩
  | enter h2 _=>omega
 | enter h1 _ ih=>intro e2 t2 h; cases h with
  | deep _=>omega
  | enter _ h2=>exact ih h2
 | full h1=>intro e2 t2 h; cases h with
  | full _=>exact ⟨rfl,rfl⟩
  | done h2=>omega
  | go h2=>omega
  | callX h2=>omega
  | callR h2=>omega
 | done h1 h2=>intro e2 t2 h; cases h with
  | full _=>omega
  | done _ h3=>rw [h2] at h3; cases h3; exact ⟨rfl,rfl⟩
  | go _ h3=>rw [h2] at h3; cases h3
  | callX _ h3=>rw [h2] at h3; cases h3
  | callR _ h3=>rw [h2] at h3; cases h3
 | go h1 h2 _ ih=>intro e2 t2 h; cases h with
  | full _=>omega
  | done _ h3=>rw [h2] at h3; cases h3
  | go _ h3 h4=>rw [h2] at h3; cases h3; exact ih h4
  | callX _ h3=>rw [h2] at h3; cases h3
  | callR _ h3=>rw [h2] at h3; cases h3
 | callX h1 h2 _ h5 ih=>intro e2 t2 h; cases h with
  | full _=>omega
  | done _ h3=>rw [h2] at h3; cases h3
  | go _ h3=>rw [h2] at h3; cases h3
  | callX _ h3 h4 _=>rw [h2] at h3; cases h3; exact ih h4
  | callR _ h3 h4 _=>rw [h2] at h3; cases h3; exact absurd (ih h4).1 (h5 _)
 | callR h1 h2 _ _ ih1 ih2=>intro e2 t2 h; cases h with
  | full _=>omega
  | done _ h3=>rw [h2] at h3; cases h3
  | go _ h3=>rw [h2] at h3; cases h3
  | callX _ h3 h4 h5=>rw [h2] at h3; cases h3; exact absurd (ih1 h4).1.symm (h5 _)
  | callR _ h3 h4 h5 =>
   rw [h2] at h3
   cases h3
   obtain ⟨e1,rfl⟩:=ih1 h4
   cases e1
   exact ih2 h5
theorem Run.quota {l:List Rf} {ck:Bool} {c:Cfg} {s:Nat} {e:En} {t:Nat} (h:Run l ck c s e t):s ≤ 40000 → t ≤ 40000:=by
 induction h with
 | deep _=>exact fun h=>h
 | enter _ _ ih=>exact ih
 | full _=>exact fun h=>h
 | done h _=>intro _; omega
 | go h _ _ ih=>intro _; exact ih (by omega)
 | callX h _ _ _ ih=>intro _; exact ih (by omega)
 | callR h _ _ _ ih1 ih2=>intro _; exact ih2 (ih1 (by omega))
theorem Run.total_at {l:List Rf} {ck:Bool} {d:Nat} (hc:∀ k av s,∃ e t,Run l ck (.call (d + 1) k av) s e t):∀ (q s k p:Nat) (R S:Nat → Val),40000 ≤ s + q → ∃ e t,Run l ck (.at_ d k p R S) s e t:=by
 intro q
 induction q with
 | zero=>intro s k p R S h; exact ⟨_,_,.full (by omega)⟩
 | succ q ih =>
  intro s k p R S h
  rcases Nat.lt_or_ge s 40000 with hs | hs
  ·cases hst:stepF ck ((l.getD k default).code.getD p default) p R S with
   | done e=>exact ⟨_,_,.done hs hst⟩
   | go p' R' S' =>
    obtain ⟨e,t,hr⟩:=ih (s + 1) k p' R' S' (by omega)
    exact ⟨_,_,.go hs hst hr⟩
   | call nm av r =>
    obtain ⟨e,t,hr⟩:=hc (indexR l nm).toNat av (s + 1)
    cases e with
    | ret v =>
     have:=hr.mono
     obtain ⟨e2,t2,hr2⟩:=ih t k (p + 1) (upd R r v) S (by omega)
     exact ⟨_,_,.callR hs hst hr hr2⟩
    | stop y=>exact ⟨_,_,.callX hs hst hr (fun v=>by intro e; cases e)⟩
    | long=>exact ⟨_,_,.callX hs hst hr (fun v=>by intro e; cases e)⟩
  ·exact ⟨_,_,.full hs⟩
theorem Run.total_n {l:List Rf} {ck:Bool}:∀ (n d:Nat),31 ≤ d + n → ∀ k av s,∃ e t,Run l ck (.call d k av) s e t:=by
 intro n
 induction n with
 | zero=>intro d h k av s; exact ⟨_,_,.deep (by omega)⟩
 | succ n ih =>
  intro d h k av s
  rcases Nat.lt_or_ge 30 d with hd | hd
  ·exact ⟨_,_,.deep hd⟩
  ·obtain ⟨e,t,hr⟩:=Run.total_at (ih (d + 1) (by omega)) 40000 s k 0 (fun _=>default) (fun i=>av.getD i default) (by omega)
   exact ⟨_,_,.enter hd hr⟩
theorem Run.total (l:List Rf) (ck:Bool) (d k:Nat) (av:List Val) (s:Nat):∃ e t,Run l ck (.call d k av) s e t:=Run.total_n 31 d (by omega) k av s
section
variable {l:List Rf} {ck:Bool} {d k p:Nat} {R S:Nat → Val} {s:Nat} {e:En} {t:Nat} {av:List Val}
theorem Run.inv_deep (h:Run l ck (.call d k av) s e t) (hd:30 < d):e=.long∧t=s:=h.det (.deep hd)
theorem Run.inv_enter (h:Run l ck (.call d k av) s e t) (hd:d ≤ 30):Run l ck (.at_ d k 0 (fun _=>default) (fun i=>av.getD i default)) s e t:=by
 cases h with
 | deep _=>omega
 | enter _ h=>exact h
theorem Run.inv_full (h:Run l ck (.at_ d k p R S) s e t) (hs:40000 ≤ s):e=.long∧t=s:=h.det (.full hs)
theorem Run.inv_done {e':En} (h:Run l ck (.at_ d k p R S) s e t) (hs:s < 40000) (hst:stepF ck ((l.getD k default).code.getD p default) p R S=.done e'):e=e'∧t=s + 1:=h.det (.done hs hst)
theorem Run.inv_go {p':Nat} {R' S':Nat → Val} (h:Run l ck (.at_ d k p R S) s e t) (hs:s < 40000) (hst:stepF ck ((l.getD k default).code.getD p default) p R S=.go p' R' S'):Run l ck (.at_ d k p' R' S') (s + 1) e t:=by
 cases h with
 | full _=>omega
 | done _ h2=>rw [hst] at h2; cases h2
 | go _ h2 h3=>rw [hst] at h2; cases h2; exact h3
 | callX _ h2=>rw [hst] at h2; cases h2
 | callR _ h2=>rw [hst] at h2; cases h2
theorem Run.inv_call {nm:ByteArray} {av:List Val} {r:Nat} (h:Run l ck (.at_ d k p R S) s e t) (hs:s < 40000) (hst:stepF ck ((l.getD k default).code.getD p default) p R S=.call nm av r) :
  ∃ e1 t1,Run l ck (.call (d + 1) (indexR l nm).toNat av) (s + 1) e1 t1∧(((∀ v,e1 ≠ .ret v)∧e=e1∧t=t1) ∨ ∃ v,e1=.ret v∧Run l ck (.at_ d k (p + 1) (upd R r v) S) t1 e t):=by
 cases h with
 | full _=>omega
 | done _ h2=>rw [hst] at h2; cases h2
 | go _ h2 h3=>rw [hst] at h2; cases h2
 | callX _ h2 h3 h4=>rw [hst] at h2; cases h2; exact ⟨_,_,h3,.inl ⟨h4,rfl,rfl⟩⟩
 | callR _ h2 h3 h4=>rw [hst] at h2; cases h2; exact ⟨_,_,h3,.inr ⟨_,rfl,h4⟩⟩
end
end Go.Proofs.YtknaemlnhediaaaGreatDoor.c
