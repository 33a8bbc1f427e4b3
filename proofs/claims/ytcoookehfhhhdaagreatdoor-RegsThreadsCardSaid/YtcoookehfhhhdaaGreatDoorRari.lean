/- Contracts of the reference's arithmetic: span, Ends, Is, Bent, Validate, Wrap, nearest, Neg, exact. Conditions: a type has 1 to 31 bits. Contracts of the reference's digits, number, bitwise. Conditions: a type has 1 to 31 bits, the numbers are of the type. -/
import Derived.Test.YtcoookehfhhhdaaGreatDoorAri
import Derived.Test.YtcoookehfhhhdaaGreatDoorTy
import Derived.Test.YtcoookehfhhhdaaGreatDoorLib
import Derived.Deep.RegionHeld3
namespace Go.Proofs.YtcoookehfhhhdaaGreatDoor.c
open Go.RowKit
set_option linter.unusedVariables false
set_option maxRecDepth 100000
set_option maxHeartbeats 1600000
set_option linter.unusedSimpArgs false
theorem pow_le {k:Nat} (hk:k ≤ 31):1 ≤ (2:Int) ^ k∧(2:Int) ^ k ≤ 2147483648:=by
 have h:=Nat.pow_le_pow_right (n:=2) (by decide) hk
 have h2:0 < 2 ^ k:=Nat.pow_pos (by decide)
 have e:((2:Int) ^ k)=((2 ^ k:Nat):Int):=by simp
 rw [e]
 have:(2:Nat) ^ 31=2147483648:=rfl
 omega
theorem span_any (s:Bool) (b:Int) (w:World) (h1:1 ≤ b) (h2:b ≤ 31) :
  Calls Tryz.prog 181 #[.agg #[.bool s,.int .i64 b]] w fun e w'=>e=.returned (.int .i64 (spanI b))∧Ext w w':=by
 obtain ⟨n,rfl⟩:∃ n:Nat,b=(n:Int):=⟨b.toNat,by omega⟩
 have HS:=Lib.hid (show spanI (n:Int)=2 ^ n from rfl)
 go_enter Tryz.func181,Tryz.ntmps181
 go_wp2
 go_loop [3,4] (fun v i=>∃ (k:Nat) (p:Int),k ≤ n∧1 ≤ p∧p ≤ 2147483648∧i=.int .i64 k∧v=.int .i64 p∧Hid (p=2 ^ k)) (fun _ i=>n - (intOf i).toNat)
 case atStart=>exact ⟨0,1,by omega,by omega,by omega,rfl,rfl,rfl⟩
 case round =>
  obtain ⟨k,p,hk,p1,p2,rfl,rfl,hp⟩:=hrel
  by_cases hlt:k < n
  ·have hb:p ≤ 1073741824:=by
    have:=(pow_le (k:=k + 1) (by omega)).2
    rw [Int.pow_succ,← hp.out] at this
    omega
   go_wp2_with fail
   go_round
   case rel=>exact ⟨k + 1,p * 2,by omega,by omega,by omega,by go_num,rfl,by unfold Hid; rw [Int.pow_succ,hp.out]⟩
   case measure=>simp [intOf]; omega
  ·obtain rfl:k=n:=by omega
   go_wp2_with fail
   go_ret
   exact ⟨ret_int (by rw [HS.out,hp.out]),exA⟩
theorem ends_any (s:Bool) (b:Int) (w:World) (h1:1 ≤ b) (h2:b ≤ 31) :
  Calls Tryz.prog 185 #[.agg #[.bool s,.int .i64 b]] w fun e w'=>e=.returned (.tuple #[.int .i64 (loI s b),.int .i64 (hiI s b)])∧Ext w w':=by
 obtain ⟨q,e,q1,q2,_⟩:=span_parts h1 h2
 obtain ⟨p,hp⟩:∃ p,spanI b=p:=⟨_,rfl⟩
 rw [hp] at e
 have HP:=Lib.hid hp
 have p1:2 ≤ p:=by omega
 have p2:p ≤ 2147483648:=by omega
 have HL:Hid (loI s b=if s=true then -(p / 2) else 0):=by unfold Hid loI; rw [hp]
 have HH:Hid (hiI s b=if s=true then p / 2 - 1 else p - 1):=by unfold Hid hiI; rw [hp]
 clear e hp
 cases s
 all_goals
  go_enter Tryz.func185,Tryz.ntmps185
  go_wp2_with (first
   | (go_at_call 181; refine (span_any _ b _ h1 h2).mono ?_; rw [HP.out]; rintro r w1 ⟨rfl,x1⟩; have y1:=x1.facts; have z1:=x1.z0))
  go_ret2
  exact ⟨by rw [HL.out,HH.out]; simp,exA⟩
theorem is_any (s:Bool) (b n:Int) (w:World) (h1:1 ≤ b) (h2:b ≤ 31) :
  Calls Tryz.prog 153 #[.agg #[.bool s,.int .i64 b],.int .i64 n] w fun e w'=>e=.returned (.bool (fitI s b n))∧Ext w w':=by
 go_enter Tryz.func153,Tryz.ntmps153
 go_wp2_with (first
  | (go_at_call 185; refine (ends_any s b _ h1 h2).mono ?_; rintro r w1 ⟨rfl,x1⟩)
  | (go_at_call 146; refine (refWithin_any _ _ _ _).mono ?_; rintro r w' ⟨rfl,rfl⟩))
 go_ret
 exact ⟨rfl,exA⟩
theorem emod_tmod (n:Int) {p:Int} (hp:0 < p):n % p=if n.tmod p < 0 then n.tmod p + p else n.tmod p:=by
 have h1:n % p=n.tmod p % p:=by
  conv=>lhs; rw [← Int.tmod_add_mul_tdiv n p]
  rw [Int.add_mul_emod_self_left]
 have h2:n.tmod p < p:=Int.tmod_lt_of_pos n hp
 have h3:-p < n.tmod p:=by
  have:=Int.tmod_lt_of_pos (-n) hp
  rw [Int.neg_tmod] at this
  omega
 rw [h1]
 split
 ·rw [← Int.add_emod_right,Int.emod_eq_of_lt (by omega) (by omega)]
 ·rw [Int.emod_eq_of_lt (by omega) (by omega)]
theorem tmod_bd (n:Int) {p:Int} (hp:0 < p):-p < n.tmod p∧n.tmod p < p:=by
 have h2:n.tmod p < p:=Int.tmod_lt_of_pos n hp
 have:=Int.tmod_lt_of_pos (-n) hp
 rw [Int.neg_tmod] at this
 omega
theorem bent_any (s:Bool) (b n:Int) (w:World) (h1:1 ≤ b) (h2:b ≤ 31) :
  Calls Tryz.prog 148 #[.agg #[.bool s,.int .i64 b],.int .i64 n] w fun e w'=>e=.returned (.int .i64 (bendI s b n))∧Ext w w':=by
 obtain ⟨q,e,q1,q2,_⟩:=span_parts h1 h2
 obtain ⟨p,hp⟩:∃ p,spanI b=p:=⟨_,rfl⟩
 rw [hp] at e
 have HP:=Lib.hid hp
 have p1:2 ≤ p:=by omega
 have p2:p ≤ 2147483648:=by omega
 have hem:=emod_tmod n (show 0 < p by omega)
 have hbd:=tmod_bd n (show 0 < p by omega)
 obtain ⟨r,hr⟩:∃ r,n.tmod p=r:=⟨_,rfl⟩
 rw [hr] at hem hbd
 have r1:=hbd.1
 have r2:=hbd.2
 have HB:Hid (bendI s b n=if s=true∧p / 2 ≤ (if r < 0 then r + p else r) then (if r < 0 then r + p else r) - p else (if r < 0 then r + p else r)):=by
  unfold Hid bendI
  rw [hp,hem]
 clear e hp hem hbd
 by_cases hneg:r < 0
 all_goals cases s
 all_goals
  go_enter Tryz.func148,Tryz.ntmps148
  go_wp2_with (first
   | (go_at_call 181; refine (span_any _ b _ h1 h2).mono ?_; rw [HP.out]; rintro r w1 ⟨rfl,x1⟩; have y1:=x1.facts; have z1:=x1.z0))
  all_goals
   go_ret
   exact ⟨ret_int (by rw [HB.out]; simp only [Bool.false_eq_true,false_and,true_and,if_false]; repeat' split <;> omega),exA⟩
theorem nearest_any (s:Bool) (b n:Int) (w:World) (h1:1 ≤ b) (h2:b ≤ 31) :
  Calls Tryz.prog 184 #[.agg #[.bool s,.int .i64 b],.int .i64 n] w fun e w'=>e=.returned (.int .i64 (nearI s b n))∧Ext w w':=by
 have HN:=Lib.hid (show nearI s b n=if n < loI s b then loI s b else if hiI s b < n then hiI s b else n from rfl)
 go_enter Tryz.func184,Tryz.ntmps184
 go_wp2_with (first
  | (go_at_call 185; refine (ends_any s b _ h1 h2).mono ?_; rintro r w1 ⟨rfl,x1⟩))
 all_goals
  go_ret
  exact ⟨ret_int (by rw [HN.out]; repeat' split <;> omega),exA⟩
def digsI (k n:Nat):List Int:=List.map (fun d:Nat=>(d:Int)) (digs k n)
theorem digsI_len (k n:Nat):(digsI k n).length=k:=by unfold digsI; rw [List.length_map,digs_len]
theorem digs_get {k n j:Nat} (h:j < k):(digs k n)[j]'(by rw [digs_len]; exact h)=n / 2 ^ j % 2:=by
 induction k generalizing n j with
 | zero=>omega
 | succ k ih =>
  cases j with
  | zero=>simp [digs]
  | succ j =>
   simp only [digs,List.getElem_cons_succ]
   rw [ih (by omega),Nat.pow_succ,Nat.mul_comm,Nat.div_div_eq_div_mul]
theorem digsI_get {k n j:Nat} (h:j < k):(digsI k n).getD j 0=((n / 2 ^ j % 2:Nat):Int):=by
 unfold digsI
 rw [List.getD,List.getElem?_map,List.getElem?_eq_getElem (by rw [digs_len]; exact h),digs_get h]
 rfl
theorem digsI_take {k n j:Nat} (h:j < k):(digsI k n).take (j + 1)=(digsI k n).take j ++ [((n / 2 ^ j % 2:Nat):Int)]:=by
 rw [List.take_succ_eq_append_getElem (by rw [digsI_len]; exact h),← digsI_get h,List.getD,List.getElem?_eq_getElem (by rw [digsI_len]; exact h)]
 rfl
theorem digits_any (s:Bool) (b n:Int) (w:World) (h1:1 ≤ b) (h2:b ≤ 31) (hf:fitI s b n=true) :
  Calls Tryz.prog 204 #[.agg #[.bool s,.int .i64 b],.int .i64 n] w fun e w'=>∃ v,e=.returned v∧IntsAt w' v (digsI b.toNat (n % spanI b).toNat)∧Ext w w':=by
 obtain ⟨bn,rfl⟩:∃ k:Nat,b=(k:Int):=⟨b.toNat,by omega⟩
 obtain ⟨q,e,q1,q2,_⟩:=span_parts h1 h2
 obtain ⟨p,hp⟩:∃ p,spanI (bn:Int)=p:=⟨_,rfl⟩
 have hff:=fit_iff.1 hf
 unfold loI hiI at hff
 rw [hp] at e hff
 have HP:=Lib.hid hp
 have p1:2 ≤ p:=by omega
 have p2:p ≤ 2147483648:=by omega
 have n1:-1073741824 ≤ n:=(fit_in h1 h2 hf).1
 have n2:n ≤ 2147483647:=(fit_in h1 h2 hf).2
 have n3:0 ≤ n + p:=by split at hff <;> omega
 have n4:n < p:=by split at hff <;> omega
 rw [Int.toNat_natCast,hp]
 obtain ⟨m,hm⟩:∃ m:Nat,(n % p).toNat=m:=⟨_,rfl⟩
 have hm2:(m:Int)=if n < 0 then n + p else n:=by
  have h0:=Int.emod_nonneg n (show p ≠ 0 by omega)
  have h3:n % p=if n < 0 then n + p else n:=by
   split
   ·rw [← Int.add_emod_right,Int.emod_eq_of_lt (by omega) (by omega)]
   ·rw [Int.emod_eq_of_lt (by omega) (by omega)]
  omega
 rw [hm]
 have HM:=Lib.hid hm2
 clear e hp hf hm hff
 obtain ⟨i0,hi0,hz0,hz1,hz2⟩:=info_parts info_int
 have HI:=Lib.hid hi0; have HZ0:=Lib.hid hz0; have HZ1:=Lib.hid hz1; have HZ2:=Lib.hid hz2
 clear hi0 hz0 hz1 hz2
 obtain ⟨D,hD⟩:∃ D,digsI bn m=D:=⟨_,rfl⟩
 have HD:=Lib.hid hD
 have HDL:Hid (D.length=bn):=by rw [← hD]; exact digsI_len _ _
 have HDT:Hid (∀ j,j < bn → D.take (j + 1)=D.take j ++ [((m / 2 ^ j % 2:Nat):Int)]):=fun j hj=>by rw [← hD]; exact digsI_take hj
 rw [hD]
 clear hD
 have hm3:m ≤ 2147483648:=by split at hm2 <;> omega
 by_cases hneg:n < 0
 case' pos=>have hm4:=Lib.hid (show (m:Int)=n + p by rw [if_pos hneg] at hm2; exact hm2)
 case' neg=>have hm4:=Lib.hid (show (m:Int)=n by rw [if_neg hneg] at hm2; exact hm2)
 all_goals
  clear hm2
  have B0:=Lib.hid (Blk.new w 122 #[.bool s,.int .i64 (bn:Int)])
  go_enter Tryz.func204,Tryz.ntmps204
  go_wp2_with (first
   | (go_at_call 181; refine (span_any _ (bn:Int) _ h1 h2).mono ?_; rw [HP.out]; rintro r w1 ⟨rfl,x1⟩; have y1:=x1.facts; have z1:=x1.z0)
   | fail)
 ·have X1:Hid (Ext w (w.alloc (.cells #[.bool s,.int .i64 (bn:Int)] 122))):=by unfold Hid; exact exA
  have B1:=Lib.hid B0.out
  generalize (w.alloc (.cells #[.bool s,.int .i64 (bn:Int)] 122))=w1 at X1 B1 ⊢
  rw [← hm4.out]
  clear B0
  go_loopw [1,5,6] (fun x v i wr=>∃ (j k:Nat),j ≤ bn∧k ≤ 2147483648∧i=.int .i64 j∧x=.int .i64 k∧Hid (k=m / 2 ^ j)∧wr.ownsRow w1.heap.size 3 1 v (D.take j).length ((D.take j).map fun i=>.int .i64 i)∧Ext w1 wr) (fun _ _ i _=>bn - (intOf i).toNat)
  case atStart=>exact ⟨0,m,by omega,hm3,rfl,rfl,by unfold Hid; simp,World.ownsRow_nil _ _ _ _,Ext.refl _⟩
  case round =>
   obtain ⟨j,k,hj,hk,rfl,rfl,hkm,ow,hx⟩:=hrel
   have HO:=Lib.hid ow
   have HX:=Lib.hid hx
   have b0:=(B1.out.ext hx).cell 0
   have b1:=(B1.out.ext hx).cell 1
   have zr:=(B1.out.ext hx).lt
   simp only [List.getElem?_toArray,List.getElem?_cons_zero,List.getElem?_cons_succ] at b0 b1
   have hln:(D.take j).length ≤ j:=List.length_take_le _ _
   clear ow hx
   by_cases hlt:j < bn
   ·have HT:=Lib.hid (HDT.out j hlt)
    go_wp2_with (first
     | (at_builtin
        refine wpList_append_own _ rfl _ _ 65 rfl w1.heap.size 3 i0 _ 1 8 Tryz.underlying65 HI.out HZ0.out HZ1.out HZ2.out rfl (by decide) _ _ _ rfl (HO.out.alloc _) ⟨wr.heap.size,0,none⟩ 1 1 [.int .i64 ((k % 2:Nat):Int)] rfl rfl ?_ ?_ ?_ ?_ ?_ ?_))
    ·intro j2 u hj2
     match j2,hj2 with
     | 0,hj2=>simp at hj2; subst hj2; simp [Addr.add]
    ·intro u hu; simp at hu; subst hu; rfl
    ·unfold maxLen; omega
    ·omega
    ·have:=HX.out.size; simp; omega
    ·intro v' w3 ow3 g3 _
     have OW3:=Lib.hid ow3
     have G3:=Lib.hid ((HX.out.alloc (.cells #[.int .i64 ((k % 2:Nat):Int)] 3)).grown g3 (own_row HO.out))
     have c0:=(B1.out.ext G3.out).cell 0
     have c1:=(B1.out.ext G3.out).cell 1
     simp only [List.getElem?_toArray,List.getElem?_cons_zero,List.getElem?_cons_succ] at c0 c1
     clear ow3 g3 b0 b1
     go_wp2_with fail
     go_roundw
     case rel =>
      refine ⟨j + 1,k / 2,by omega,by omega,by go_num,rfl,?_,?_,G3.out⟩
      ·unfold Hid; rw [hkm.out,Nat.pow_succ,Nat.div_div_eq_div_mul]
      ·rw [HT.out,← hkm.out]; simpa using OW3.out
     case measure=>simp [intOf]; omega
   ·go_wp2_with fail
    obtain rfl:j=bn:=by omega
    have hfin:=HO.out
    rw [List.take_of_length_le (by rw [HDL.out]; exact Nat.le_refl _)] at hfin
    go_ret
    exact ⟨_,rfl,own_ints hfin,X1.out.trans HX.out⟩
 ·have B1:=Lib.hid (B0.out.ext x1)
  have X1:Hid (Ext w w1):=by unfold Hid; exact exA
  rw [← hm4.out]
  clear y1 z1 x1 B0
  go_loopw [1,5,6] (fun x v i wr=>∃ (j k:Nat),j ≤ bn∧k ≤ 2147483648∧i=.int .i64 j∧x=.int .i64 k∧Hid (k=m / 2 ^ j)∧wr.ownsRow w1.heap.size 3 1 v (D.take j).length ((D.take j).map fun i=>.int .i64 i)∧Ext w1 wr) (fun _ _ i _=>bn - (intOf i).toNat)
  case atStart=>exact ⟨0,m,by omega,hm3,rfl,rfl,by unfold Hid; simp,World.ownsRow_nil _ _ _ _,Ext.refl _⟩
  case round =>
   obtain ⟨j,k,hj,hk,rfl,rfl,hkm,ow,hx⟩:=hrel
   have HO:=Lib.hid ow
   have HX:=Lib.hid hx
   have b0:=(B1.out.ext hx).cell 0
   have b1:=(B1.out.ext hx).cell 1
   have zr:=(B1.out.ext hx).lt
   simp only [List.getElem?_toArray,List.getElem?_cons_zero,List.getElem?_cons_succ] at b0 b1
   have hln:(D.take j).length ≤ j:=List.length_take_le _ _
   clear ow hx
   by_cases hlt:j < bn
   ·have HT:=Lib.hid (HDT.out j hlt)
    go_wp2_with (first
     | (at_builtin
        refine wpList_append_own _ rfl _ _ 65 rfl w1.heap.size 3 i0 _ 1 8 Tryz.underlying65 HI.out HZ0.out HZ1.out HZ2.out rfl (by decide) _ _ _ rfl (HO.out.alloc _) ⟨wr.heap.size,0,none⟩ 1 1 [.int .i64 ((k % 2:Nat):Int)] rfl rfl ?_ ?_ ?_ ?_ ?_ ?_))
    ·intro j2 u hj2
     match j2,hj2 with
     | 0,hj2=>simp at hj2; subst hj2; simp [Addr.add]
    ·intro u hu; simp at hu; subst hu; rfl
    ·unfold maxLen; omega
    ·omega
    ·have:=HX.out.size; simp; omega
    ·intro v' w3 ow3 g3 _
     have OW3:=Lib.hid ow3
     have G3:=Lib.hid ((HX.out.alloc (.cells #[.int .i64 ((k % 2:Nat):Int)] 3)).grown g3 (own_row HO.out))
     have c0:=(B1.out.ext G3.out).cell 0
     have c1:=(B1.out.ext G3.out).cell 1
     simp only [List.getElem?_toArray,List.getElem?_cons_zero,List.getElem?_cons_succ] at c0 c1
     clear ow3 g3 b0 b1
     go_wp2_with fail
     go_roundw
     case rel =>
      refine ⟨j + 1,k / 2,by omega,by omega,by go_num,rfl,?_,?_,G3.out⟩
      ·unfold Hid; rw [hkm.out,Nat.pow_succ,Nat.div_div_eq_div_mul]
      ·rw [HT.out,← hkm.out]; simpa using OW3.out
     case measure=>simp [intOf]; omega
   ·go_wp2_with fail
    obtain rfl:j=bn:=by omega
    have hfin:=HO.out
    rw [List.take_of_length_le (by rw [HDL.out]; exact Nat.le_refl _)] at hfin
    go_ret
    exact ⟨_,rfl,own_ints hfin,X1.out.trans HX.out⟩
end Go.Proofs.YtcoookehfhhhdaaGreatDoor.c
