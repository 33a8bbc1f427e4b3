/- Contracts of the functions of package num that a name's test reaches: isBase, written, Validate. Conditions: the base is from 2 to 16 and the number is far from the ends of int. Contracts of the reference's functions on numbers' texts: based, Decimal, TypeName, Read. Conditions: bounds on the numbers. -/
import Derived.Test.YtmmnhbhnjiajhaaGreatDoorSLib
import Derived.Test.YtmmnhbhnjiajhaaGreatDoorShelf
namespace Go.Proofs.YtmmnhbhnjiajhaaGreatDoor.c
open Go.RowKit
set_option linter.unusedVariables false
set_option maxRecDepth 100000
set_option maxHeartbeats 1600000
set_option linter.unusedSimpArgs false

theorem isBase_any (b:Int) (w:World) :
  Calls Tryz.prog 230 #[.int .i64 b] w fun e w'=>e=.returned (.bool (decide (2 ≤ b) && decide (b ≤ 16)))∧w=w':=by
 go_enter Tryz.func230,Tryz.ntmps230
 go_wp2
 all_goals (go_ret; exact ⟨ret_bool (by simp [*] <;> omega),rfl⟩)

def dgs:List UInt8:=[48,49,50,51,52,53,54,55,56,57,97,98,99,100,101,102]
def dg (k:Nat):UInt8:=dgs.getD k 0
def wr (b n:Nat):List UInt8:=if h:2 ≤ b∧b ≤ n then wr b (n / b) ++ [dg (n % b)] else [dg n]
termination_by n
decreasing_by exact Nat.div_lt_self (by omega) (by omega)
def wrI (b:Nat) (n:Int):List UInt8:=if n < 0 then 45 :: wr b n.natAbs else wr b n.natAbs

theorem wr_len (b n:Nat):(wr b n).length ≤ n + 1:=by
 induction n using Nat.strongRecOn with
 | _ n ih =>
  rw [wr]
  split
  ·rename_i h
   have hd:n / b < n:=Nat.div_lt_self (by omega) (by omega)
   have:=ih (n / b) hd
   simp
   omega
  ·simp
theorem wr_big {b n:Nat} (hb:2 ≤ b) (h:b ≤ n):wr b n=wr b (n / b) ++ [dg (n % b)]:=by
 rw [wr,dif_pos ⟨hb,h⟩]
theorem wr_small {b n:Nat} (h:n < b):wr b n=[dg n]:=by
 rw [wr,dif_neg (by omega)]
theorem enc_ascii (c:UInt8) (h:c.toNat < 128):Utf8.encode (c.toNat:Int)=⟨#[c]⟩:=by
 have hv:Utf8.valid (c.toNat:Int)=true:=by simp [Utf8.valid]; omega
 simp [Utf8.encode,hv,h]
theorem dg_lt (i:Nat):(dg i).toNat < 128:=by
 unfold dg
 rcases Nat.lt_or_ge i 16 with h | h
 ·have:∀ i:Fin 16,(dgs.getD i.1 0).toNat < 128:=by decide
  exact this ⟨i,h⟩
 ·have:dgs[i]?=none:=List.getElem?_eq_none (by exact h)
  simp [List.getD,this]
theorem enc_dg (i:Nat) (h:i < (⟨#[48,49,50,51,52,53,54,55,56,57,97,98,99,100,101,102]⟩:ByteArray).size):Utf8.encode (((⟨#[48,49,50,51,52,53,54,55,56,57,97,98,99,100,101,102]⟩:ByteArray)[i]'h).toNat:Int)=⟨#[dg i]⟩:=by
 have e:(⟨#[48,49,50,51,52,53,54,55,56,57,97,98,99,100,101,102]⟩:ByteArray)[i]'h=dg i:=by
  unfold dg
  have:dgs[i]?=some (dgs[i]'(by exact h)):=List.getElem?_eq_getElem _
  simp only [List.getD,this,Option.getD_some]
  rfl
 rw [e]
 exact enc_ascii _ (dg_lt i)
theorem bytes_cons (c:UInt8) (t:List UInt8):(⟨#[c]⟩:ByteArray) ++ ⟨t.toArray⟩=⟨(c :: t).toArray⟩:=by
 apply ByteArray.ext
 simp

theorem written_nat (b m:Nat) (w:World) (hb:2 ≤ b) (hb2:b ≤ 16) (hm:m ≤ 4611686018427387904) :
  Calls Tryz.prog 233 #[.int .i64 m,.int .i64 b] w fun e w'=>e=.returned (.string ⟨(wr b m).toArray⟩)∧w=w':=by
 have HL:=Lib.hid (wr_len b m)
 go_enter Tryz.func233,Tryz.ntmps233
 go_wp2_with fail
 go_loop [0,5] (fun n o=>∃ (k:Nat) (t:List UInt8),k ≤ 4611686018427387904∧n=.int .i64 k∧o=.string ⟨t.toArray⟩∧wr b k ++ t=wr b m) (fun n _=>(intOf n).toNat)
 case atStart=>exact ⟨m,[],by omega,rfl,rfl,by simp⟩
 case round =>
  obtain ⟨k,t,hk,rfl,rfl,ht⟩:=hrel
  have htl:t.length ≤ 4611686018427387905:=by
   have h1:=congrArg List.length ht
   rw [List.length_append] at h1
   have:=HL.out
   omega
  have HT:=Lib.hid ht; clear ht
  by_cases hlt:b ≤ k
  ·have hi:0 ≤ (k:Int) % (b:Int)∧(k:Int) % (b:Int) < 16:=⟨Int.emod_nonneg _ (by omega),Int.lt_of_lt_of_le (Int.emod_lt_of_pos _ (by omega)) (by omega)⟩
   have hq:(k:Int) / (b:Int) ≤ 4611686018427387904:=Int.le_trans (Int.ediv_le_self _ (by omega)) (by omega)
   have hq0:0 ≤ (k:Int) / (b:Int):=Int.ediv_nonneg (by omega) (by omega)
   have hes:∀ (h:k % b < (⟨#[48,49,50,51,52,53,54,55,56,57,97,98,99,100,101,102]⟩:ByteArray).size),Utf8.encode (((⟨#[48,49,50,51,52,53,54,55,56,57,97,98,99,100,101,102]⟩:ByteArray)[k % b]'h).toNat:Int)=⟨#[dg (k % b)]⟩:=fun h=>enc_dg _ h
   go_wp2_with fail
   go_round
   case rel=>exact ⟨k / b,dg (k % b) :: t,by exact Nat.le_trans (Nat.div_le_self _ _) hk,rfl,by rw [bytes_cons],by rw [← HT.out,wr_big hb hlt]; simp⟩
   case measure =>
    simp [intOf]
    exact Nat.div_lt_self (by omega) (by omega)
  ·have hes:∀ (h:k < (⟨#[48,49,50,51,52,53,54,55,56,57,97,98,99,100,101,102]⟩:ByteArray).size),Utf8.encode (((⟨#[48,49,50,51,52,53,54,55,56,57,97,98,99,100,101,102]⟩:ByteArray)[k]'h).toNat:Int)=⟨#[dg k]⟩:=fun h=>enc_dg _ h
   have hi:0 ≤ (k:Int)∧(k:Int) < 16:=by omega
   go_wp2_with fail
   go_ret
   exact ⟨by rw [bytes_cons,← HT.out,wr_small (by omega)]; rfl,rfl⟩

theorem written_any (b:Nat) (m:Int) (w:World) (hb:2 ≤ b) (hb2:b ≤ 16) (hm:m ≤ 4611686018427387904) (hm2:-4611686018427387904 ≤ m) :
  Calls Tryz.prog 233 #[.int .i64 m,.int .i64 b] w fun e w'=>e=.returned (.string ⟨(wrI b m).toArray⟩)∧w=w':=by
 by_cases h0:m < 0
 ·obtain ⟨n,hn⟩:∃ n:Nat,-m=(n:Int):=⟨m.natAbs,by omega⟩
  have hna:m.natAbs=n:=by omega
  have H:=Lib.hid (written_nat b n w hb hb2 (by omega))
  have HE:=Lib.hid hn
  have HL:=Lib.hid (wr_len b n)
  clear hn
  go_enter Tryz.func233,Tryz.ntmps233
  go_wp2_with fail
  rw [HE.out]
  refine H.out.mono ?_
  rintro e w' ⟨rfl,rfl⟩
  have hz:(wr b n).length ≤ 9223372036854775800:=by have:=HL.out; omega
  go_wp2_with fail
  go_ret
  exact ⟨ret_str (by unfold wrI; rw [if_pos h0,hna]; rfl),rfl⟩
 ·obtain ⟨n,rfl⟩:∃ n:Nat,m=(n:Int):=⟨m.toNat,by omega⟩
  have:wrI b n=wr b n:=by unfold wrI; rw [if_neg h0,Int.natAbs_natCast]
  rw [this]
  exact written_nat b n w hb hb2 (by omega)

def vInt (bits:Int):Int:=if bits < 1 ∨ bits > 31 then 1 else 0
theorem numValidate_any (s:Bool) (b:Int) (w:World) :
  Calls Tryz.prog 139 #[.agg #[.bool s,.int .i64 b]] w fun e w'=>e=.returned (.int .i64 (vInt b))∧Ext w w':=by
 go_enter Tryz.func139,Tryz.ntmps139
 go_wp2
 all_goals (go_ret; exact ⟨ret_int (by unfold vInt; first | rw [if_pos (by omega)] | rw [if_neg (by omega)]),(Ext.refl _).alloc _⟩)

/-! ### Parse,at any base -/
def accS (b:Nat):List UInt8 → Nat → Option Nat
 | [],n=>some n
 | c :: r,n=>if Lib.indexByte (dgs.take b) c < 0 ∨ 1099511627776 < n then none else accS b r (n * b + (Lib.indexByte (dgs.take b) c).toNat)
theorem accS_snoc (b:Nat) (c:UInt8):∀ (l:List UInt8) (n:Nat),accS b (l ++ [c]) n=(accS b l n).bind fun m=>if Lib.indexByte (dgs.take b) c < 0 ∨ 1099511627776 < m then none else some (m * b + (Lib.indexByte (dgs.take b) c).toNat)
 | [],n=>by simp [accS]
 | d :: l,n=>by
  simp only [List.cons_append,accS]
  split
  ·rfl
  ·exact accS_snoc b c l _
theorem accS_none_append (b:Nat) (r:List UInt8):∀ (l:List UInt8) (n:Nat),accS b l n=none → accS b (l ++ r) n=none
 | [],n,h=>by simp [accS] at h
 | d :: l,n,h=>by
  simp only [List.cons_append,accS] at h ⊢
  split
  ·rfl
  ·rename_i hc
   rw [if_neg hc] at h
   exact accS_none_append b r l _ h
theorem indexByte_lt (l:List UInt8) (c:UInt8):Lib.indexByte l c < (l.length:Int) ∨ l=[]:=by
 induction l with
 | nil=>exact .inr rfl
 | cons d l ih =>
  refine .inl ?_
  simp only [Lib.indexByte,List.length_cons]
  split
  ·omega
  ·split
   ·omega
   ·rcases ih with h | h
    ·omega
    ·subst h
     rename_i h2
     simp [Lib.indexByte] at h2
theorem indexByte_le (b:Nat) (c:UInt8) (hb:b ≤ 16):Lib.indexByte (dgs.take b) c ≤ 16:=by
 rcases indexByte_lt (dgs.take b) c with h | h
 ·have:(dgs.take b).length ≤ 16:=by rw [List.length_take]; exact Nat.min_le_right _ _
  omega
 ·rw [h]; simp [Lib.indexByte]
def parseS (b:Nat) (l:List UInt8):Option Int :=
 match accS b (Lib.trimPrefix l [45]) 0 with
 | none=>none
 | some n =>
  let m:Int:=if (Lib.trimPrefix l [45]).length < l.length then -(n:Int) else n
  if m < -1099511627776 ∨ 1099511627776 < m ∨ wrI b m ≠ l then none else some m
def parseE (b:Nat) (l:List UInt8):Int × Int:=match parseS b l with | none=>(0,2) | some m=>(m,0)

theorem trimPrefix_as (s p:ByteArray) (r:List UInt8) (h:r=Lib.trimPrefix s.data.toList p.data.toList) (w:World) :
  Calls Tryz.prog 231 #[.string s,.string p] w fun e w'=>e=.returned (.string ⟨r.toArray⟩)∧w=w':=by
 subst h
 exact (Tryz.strings_TrimPrefix s p w).mono fun _ _ h=>⟨h.1,h.2.symm⟩
theorem indexByte_as (s:ByteArray) (c k:Int) (w:World) (h:Lib.indexByte s.data.toList c.toNat.toUInt8=k) :
  Calls Tryz.prog 232 #[.string s,.int .u8 c] w fun e w'=>e=.returned (.int .i64 k)∧w'=w:=by
 subst h
 exact Tryz.strings_IndexByte s c w
theorem parseE_none {b:Nat} {l:List UInt8} (h:parseS b l=none):parseE b l=(0,2):=by unfold parseE; rw [h]
theorem parseE_some {b:Nat} {l:List UInt8} {m:Int} (h:parseS b l=some m):parseE b l=(m,0):=by unfold parseE; rw [h]
theorem parseS_acc {b:Nat} {l r:List UInt8} (hr:r=Lib.trimPrefix l [45]) (h:accS b r 0=none):parseS b l=none:=by
 unfold parseS; rw [← hr,h]
theorem parseS_end {b n:Nat} {l r:List UInt8} {m:Int} (hr:r=Lib.trimPrefix l [45]) (h:accS b r 0=some n) (hm:m=if r.length < l.length then -(n:Int) else n) :
  parseS b l=if m < -1099511627776 ∨ 1099511627776 < m ∨ wrI b m ≠ l then none else some m:=by
 unfold parseS; rw [← hr,h,hm]
theorem parse_close {b n:Nat} {l r:List UInt8} {m:Int} (hr:r=Lib.trimPrefix l [45]) (h:accS b r 0=some n) (hm:m=if r.length < l.length then -(n:Int) else n) :
  (m < -1099511627776 ∨ 1099511627776 < m → parseE b l=(0,2))∧((!wrI b m == l)=true → parseE b l=(0,2))∧(-1099511627776 ≤ m → m ≤ 1099511627776 → (!wrI b m == l)=false → parseE b l=(m,0)):=by
 have e:=parseS_end hr h hm
 refine ⟨fun h1=>parseE_none ?_,fun h2=>parseE_none ?_,fun h1 h2 h3=>parseE_some ?_⟩
 ·rw [e]; rcases h1 with h1 | h1
  ·rw [if_pos (.inl h1)]
  ·rw [if_pos (.inr (.inl h1))]
 ·have h2':wrI b m ≠ l:=by simpa using h2
  rw [e,if_pos (.inr (.inr h2'))]
 ·have h3':wrI b m=l:=by simpa using h3
  rw [e,if_neg]
  intro hc
  rcases hc with hc | hc | hc
  ·omega
  ·omega
  ·exact hc h3'
theorem ret_ints {a b c d:Int} (h:(a,b)=(c,d)):Ending.returned (.tuple #[.int .i64 a,.int .i64 b])=.returned (.tuple #[.int .i64 c,.int .i64 d]):=by
 injection h with h1 h2; rw [h1,h2]

theorem parse_any (b:Nat) (s:ByteArray) (w:World) (hb:2 ≤ b) (hb2:b ≤ 16) (hs:s.size ≤ 4611686018427387904) :
  Calls Tryz.prog 193 #[.string s,.int .i64 b] w fun e w'=>e=.returned (.tuple #[.int .i64 (parseE b s.data.toList).1,.int .i64 (parseE b s.data.toList).2])∧Ext w w':=by
 have htl:(Lib.trimPrefix s.data.toList [45]).length ≤ s.size:=by
  unfold Lib.trimPrefix
  split
  ·rw [List.length_drop,Lib.size_eq]; omega
  ·rw [Lib.size_eq]; exact Nat.le_refl _
 obtain ⟨r,hr⟩:∃ r,r=Lib.trimPrefix s.data.toList [45]:=⟨_,rfl⟩
 rw [← hr] at htl
 have HR:=Lib.hid hr
 clear hr
 have hb1:decide (2 ≤ (b:Int))=true:=by simp; omega
 have hb3:decide ((b:Int) ≤ 16)=true:=by simp; omega
 go_enter Tryz.func193,Tryz.ntmps193
 go_wp2_with (first
  | (go_at_call 230; refine (isBase_any _ _).mono ?_; rintro e w' ⟨rfl,rfl⟩)
  | (go_at_call 231; refine (trimPrefix_as _ _ r HR.out _).mono ?_; rintro e w' ⟨rfl,rfl⟩))
 go_loopw [6,17] (fun u v wr=>∃ i n:Nat,i ≤ r.length∧v=.int .i64 i∧u=.int .i64 n∧accS b (r.take i) 0=some n∧n ≤ 17592186044432∧Ext w wr) (fun _ v _=>r.length - (intOf v).toNat)
 case atStart=>exact ⟨0,0,Nat.zero_le _,rfl,rfl,rfl,by omega,Ext.refl _⟩
 case round =>
  obtain ⟨i,n,hi,rfl,rfl,hacc,hn,hx⟩:=hrel
  have HA:=Lib.hid hacc; clear hacc
  by_cases hlt:i < r.length
  ·have hbb:(b:Int) ≤ 16:=by omega
   obtain ⟨k,hk⟩:∃ k,Lib.indexByte (dgs.take b) r[i]=k:=⟨_,rfl⟩
   have hk1:-1 ≤ k:=by rw [← hk]; exact Lib.indexByte_ge _ _
   have hk2:k ≤ 16:=by rw [← hk]; exact indexByte_le b _ hb2
   have HK:=Lib.hid hk
   clear hk
   have hm0:0 ≤ (n:Int) * (b:Int):=Int.mul_nonneg (by omega) (by omega)
   have hm1:(n:Int) * (b:Int) ≤ 17592186044432 * 16:=Int.mul_le_mul (by omega) (by omega) (by omega) (by omega)
   have htk:r.take (i + 1)=r.take i ++ [r[i]]:=by rw [List.take_succ_eq_append_getElem hlt]
   have HS:Hid (accS b (r.take (i + 1)) 0=if k < 0 ∨ 1099511627776 < n then none else some (n * b + k.toNat)):=by
    rw [htk]; unfold Hid; rw [accS_snoc,HA.out,HK.out]; rfl
   clear htk
   go_wp2_with fail
   go_quiet ((go_at_call 232; exact Calls.quiet_of_same (indexByte_as _ _ k _ (by rw [← HK.out]; simp [dgs]; rfl))))
   go_wp2_with fail
   case roundEnd =>
    refine ⟨⟨i + 1,n * b + k.toNat,by omega,by go_num,?_,?_,?_,hx.drewN _⟩,?_⟩
    ·have e:((n * b + k.toNat:Nat):Int)=(n:Int) * (b:Int) + k:=by rw [Int.natCast_add,Int.natCast_mul]; omega
     rw [e]
    ·rw [HS.out,if_neg (by omega)]
    ·have e:((n * b + k.toNat:Nat):Int)=(n:Int) * (b:Int) + k:=by rw [Int.natCast_add,Int.natCast_mul]; omega
     have e2:(n:Int) * (b:Int) ≤ 1099511627776 * 16:=Int.mul_le_mul (by omega) (by omega) (by omega) (by omega)
     omega
    ·simp [intOf]; omega
   all_goals
    have hz:accS b r 0=none:=by
     have:=accS_none_append b (r.drop (i + 1)) (r.take (i + 1)) 0 (by rw [HS.out,if_pos (by omega)])
     rwa [List.take_append_drop] at this
    go_ret2
    exact ⟨ret_ints (parseE_none (parseS_acc HR.out hz)).symm,hx.drewN _⟩
  ·have hz:accS b r 0=some n:=by
    have:=HA.out
    rwa [List.take_of_length_le (by omega)] at this
   have HZ:=Lib.hid hz
   clear hz
   have hw1:(wrI b (n:Int)).length ≤ 9223372036854775800:=by
    have:=wr_len b n
    unfold wrI; rw [if_neg (by omega)]; simp; omega
   have hsz:s.size=s.data.toList.length:=Lib.size_eq s
   by_cases hsl:r.length < s.size
   all_goals
    have HP:=Lib.hid (parse_close (m:=if r.length < s.data.toList.length then -(n:Int) else n) HR.out HZ.out rfl)
    first | rw [if_pos (by omega)] at HP | rw [if_neg (by omega)] at HP
    have HSz:=Lib.hid hsz
    clear hsz
    go_wp2_with (first
     | (go_at_call 233; refine (written_any b _ _ hb hb2 (by omega) (by omega)).mono ?_; rintro e w' ⟨rfl,rfl⟩; simp only [Lib.toList_data]))
    all_goals
     go_ret2
     first
      | exact ⟨ret_ints (HP.out.2.2 (by omega) (by omega) (by simp only [← Lib.toList_data]; assumption)).symm,hx⟩
      | exact ⟨ret_ints (HP.out.2.1 (by simp only [← Lib.toList_data]; assumption)).symm,hx⟩
      | exact ⟨ret_ints (HP.out.1 (by omega)).symm,hx⟩

/-! ### Read: the type with a name -/
def readS (l:List UInt8):Option (Bool × Int) :=
 match l with
 | []=>none
 | c :: r=>if r=[] ∨ (c ≠ 117∧c ≠ 105) then none else
  match parseS 10 r with
  | none=>none
  | some m=>if m < 1 ∨ 31 < m then none else some (c == 105,m)
def readE (l:List UInt8):Bool × Int × Int:=match readS l with | none=>(false,0,2) | some (s,m)=>(s,m,0)

theorem parse10 (s:ByteArray) (w:World) (hs:s.size ≤ 4611686018427387904) :
  Calls Tryz.prog 193 #[.string s,.int .i64 10] w fun e w'=>e=.returned (.tuple #[.int .i64 (parseE 10 s.data.toList).1,.int .i64 (parseE 10 s.data.toList).2])∧Ext w w' :=
 parse_any 10 s w (by omega) (by omega) hs
theorem readE_none {l:List UInt8} (h:readS l=none):readE l=(false,0,2):=by unfold readE; rw [h]
theorem readE_some {l:List UInt8} {b:Bool} {m:Int} (h:readS l=some (b,m)):readE l=(b,m,0):=by unfold readE; rw [h]
theorem readE_short {s:ByteArray} (h:s.size < 2):readE s.data.toList=(false,0,2):=by
 refine readE_none ?_
 rw [Lib.size_eq] at h
 match hd:s.data.toList,h with
 | [],_=>rfl
 | [c],_=>simp [readS]
theorem data_cons (s:ByteArray) (h:0 < s.size):s.data.toList=s[0] :: (s.extract 1 s.size).data.toList:=by
 rw [Lib.extract_data]
 have hl:=Lib.size_eq s
 rw [List.take_of_length_le (by rw [List.length_drop]; omega)]
 have h':0 < s.data.toList.length:=by omega
 have e:s.data.toList[0]=s[0]:=rfl
 rw [← e,← List.drop_eq_getElem_cons h',List.drop_zero]
theorem readS_cons (c:UInt8) (r:List UInt8):readS (c :: r)=if r=[] ∨ (c ≠ 117∧c ≠ 105) then none else
  match parseS 10 r with
  | none=>none
  | some m=>if m < 1 ∨ 31 < m then none else some (c == 105,m):=rfl
theorem readE_wrong {s:ByteArray} (h:0 < s.size) (h1:¬ (s[0].toNat:Int)=117) (h2:((s[0].toNat:Int) != 105)=true):readE s.data.toList=(false,0,2):=by
 refine readE_none ?_
 rw [data_cons s h,readS_cons,if_pos]
 refine .inr ⟨?_,?_⟩
 ·intro e; exact h1 (by rw [e]; rfl)
 ·intro e; simp [e] at h2
theorem readE_go {s:ByteArray} (h:2 ≤ s.size) (h0:0 < s.size) (hc:(s[0].toNat:Int)=117 ∨ (s[0].toNat:Int)=105) :
  ((parseE 10 (s.extract 1 s.size).data.toList).2 ≠ 0 ∨ vInt (parseE 10 (s.extract 1 s.size).data.toList).1 ≠ 0 → readE s.data.toList=(false,0,2)) ∧
  ((parseE 10 (s.extract 1 s.size).data.toList).2=0 → vInt (parseE 10 (s.extract 1 s.size).data.toList).1=0 → readE s.data.toList=(decide ((s[0].toNat:Int)=105),(parseE 10 (s.extract 1 s.size).data.toList).1,0)):=by
 have hne:(s.extract 1 s.size).data.toList ≠ []:=by
  intro e
  have:=congrArg List.length (data_cons s h0)
  rw [e,← Lib.size_eq] at this
  simp at this
  omega
 have hcc:¬ ((s.extract 1 s.size).data.toList=[] ∨ (s[0] ≠ 117∧s[0] ≠ 105)):=by
  rintro (e | ⟨e1,e2⟩)
  ·exact hne e
  ·rcases hc with hc | hc
   ·exact e1 (UInt8.toNat_inj.1 (by show s[0].toNat=117; omega))
   ·exact e2 (UInt8.toNat_inj.1 (by show s[0].toNat=105; omega))
 have hd:(s[0] == 105)=decide ((s[0].toNat:Int)=105):=by
  rw [Bool.eq_iff_iff]
  simp [← UInt8.toNat_inj]
  omega
 cases hp:parseS 10 (s.extract 1 s.size).data.toList with
 | none =>
  rw [parseE_none hp]
  refine ⟨fun _=>readE_none ?_,fun h=>by simp at h⟩
  rw [data_cons s h0,readS_cons,if_neg hcc,hp]
 | some m =>
  rw [parseE_some hp]
  have e:readS s.data.toList=if m < 1 ∨ 31 < m then none else some (s[0] == 105,m):=by
   rw [data_cons s h0,readS_cons,if_neg hcc,hp]
  by_cases hm:m < 1 ∨ 31 < m
  ·rw [if_pos hm] at e
   refine ⟨fun _=>readE_none e,fun _ h=>?_⟩
   simp [vInt,hm] at h
  ·rw [if_neg hm] at e
   refine ⟨fun h=>?_,fun _ _=>by rw [← hd]; exact readE_some e⟩
   simp [vInt,hm] at h
theorem numRead_any (s:ByteArray) (w:World) (hs:s.size ≤ 4611686018427387904) :
  Calls Tryz.prog 138 #[.string s] w fun e w'=>e=.returned (.tuple #[.agg #[.bool (readE s.data.toList).1,.int .i64 (readE s.data.toList).2.1],.int .i64 (readE s.data.toList).2.2])∧Ext w w':=by
 by_cases h2:(s.size:Int) < 2
 ·go_enter Tryz.func138,Tryz.ntmps138
  go_wp2_with fail
  exact bodyPost_ret (v:=.tuple #[.agg #[.bool false,.int .i64 0],.int .i64 2]) (by simp [results,Tryz.results138,go_sem]) rfl ⟨by rw [readE_short (by omega)],(Ext.refl _).alloc _⟩
 ·have hsx:(s.extract 1 s.size).size ≤ 4611686018427387904:=by simp; omega
  obtain ⟨q,hq⟩:∃ q,q=parseE 10 (s.extract 1 s.size).data.toList:=⟨_,rfl⟩
  have HQ:=Lib.hid hq
  have hsb:0 < s.size:=by omega
  have HG:=Lib.hid (readE_go (s:=s) (by omega) hsb)
  rw [← hq] at HG
  clear hq
  by_cases hc:(s[0].toNat:Int)=117 ∨ (s[0].toNat:Int)=105
  ·have HG1:=Lib.hid (HG.out hc)
   clear HG
   rcases hc with hc | hc
   all_goals
    go_enter Tryz.func138,Tryz.ntmps138
    go_wp2_with (first
     | (go_at_call 193; refine (parse10 _ _ hsx).mono ?_; rw [← HQ.out]; rintro e w1 ⟨rfl,x1⟩; have y1:=x1.facts; have z1:=x1.z0)
     | (go_at_call 139; refine (numValidate_any _ _ _).mono ?_; rintro e w2 ⟨rfl,x2⟩; have y2:=x2.facts; have d0:w2.cell? ⟨w.heap.size,0,none⟩=some (.bool false):=(by rw [y2.1 _ _ (by simp; omega)]; go_simp); have d1:w2.cell? ⟨w.heap.size,1,none⟩=some (.int .i64 0):=(by rw [y2.1 _ _ (by simp; omega)]; go_simp)))
    all_goals
     first
      | (have hv:¬ q.2=0:=by assumption
         exact bodyPost_ret (v:=.tuple #[.agg #[.bool false,.int .i64 0],.int .i64 2]) (by simp [results,Tryz.results138,go_sem, *]) rfl ⟨by rw [HG1.out.1 (.inl hv)],exO⟩)
      | (have hv:(vInt q.1 != 0)=true:=by assumption
         exact bodyPost_ret (v:=.tuple #[.agg #[.bool false,.int .i64 0],.int .i64 2]) (by simp [results,Tryz.results138,go_sem, *]) rfl ⟨by rw [HG1.out.1 (.inr (by simpa using hv))],exO⟩)
      | (have hv:(vInt q.1 != 0)=false:=by assumption
         exact bodyPost_ret (v:=.tuple #[.agg #[.bool (decide ((s[0].toNat:Int)=105)),.int .i64 q.1],.int .i64 0]) (by simp [results,Tryz.results138,go_sem, *]) rfl ⟨by rw [HG1.out.2 (by assumption) (by simpa using hv)],exO⟩)
  ·have hc1:¬ (s[0].toNat:Int)=117:=fun h=>hc (.inl h)
   have hc2:((s[0].toNat:Int) != 105)=true:=by simp; exact fun h=>hc (.inr (by omega))
   have HR:=Lib.hid (readE_wrong hsb hc1 hc2)
   clear hc HG
   go_enter Tryz.func138,Tryz.ntmps138
   go_wp2_with fail
   exact bodyPost_ret (v:=.tuple #[.agg #[.bool false,.int .i64 0],.int .i64 2]) (by simp [results,Tryz.results138,go_sem]) rfl ⟨by rw [HR.out],(Ext.refl _).alloc _⟩

end Go.Proofs.YtmmnhbhnjiajhaaGreatDoor.c
