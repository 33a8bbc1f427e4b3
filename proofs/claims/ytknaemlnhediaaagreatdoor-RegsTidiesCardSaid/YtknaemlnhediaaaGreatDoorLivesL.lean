/- The law RegsLives. The table strings.asciiSpace holds what its text lays; lengths are bounded. The law RegsTidies. The table strings.asciiSpace holds what its text lays; lengths are bounded. -/
import Derived.Test.YtknaemlnhediaaaGreatDoorGlives
import Derived.Test.YtknaemlnhediaaaGreatDoorUsesH
import Derived.Test.YtknaemlnhediaaaGreatDoorKcall
import Derived.Test.YtknaemlnhediaaaGreatDoorGtidy
import Derived.Test.YtknaemlnhediaaaGreatDoorHtidy
import Derived.Test.YtknaemlnhediaaaGreatDoorAlike
import Derived.Test.YtknaemlnhediaaaGreatDoorSameT
namespace Go.Proofs.YtknaemlnhediaaaGreatDoor.c
open Go.RowKit
set_option linter.unusedVariables false
set_option maxRecDepth 100000
set_option maxHeartbeats 6400000
set_option linter.unusedSimpArgs false
theorem lsize_any (A:Option Addr) (cap:Nat) (l:List Rf) {len:Nat} (w:World) (hlen:len=l.length) (hA:RfAt w A l) (hl:len ≤ 9223372036854775806) (hc:countR l ≤ 9223372036854775806) :
  Calls Tryz.prog 48 #[.slice A len cap] w fun e w'=>e=.returned (.int .i64 (countR l))∧w=w':=by
 have HLn:=Lib.hid hlen
 clear hlen
 have HA:=Lib.hid hA
 clear hA
 go_enter Tryz.func48,Tryz.ntmps48
 go_wp2
 go_loop [3,4] (fun n i=>∃ k:Nat,k ≤ len∧i=.int .i64 k∧n=.int .i64 (countR (l.take k))) (fun _ i=>len - (intOf i).toNat)
 case atStart=>exact ⟨0,Nat.zero_le _,rfl,rfl⟩
 case round =>
  obtain ⟨k,hk,rfl,rfl⟩:=hrel
  have hcl:=countR_le l k
  by_cases hlt:k < len
  ·obtain ⟨f,hf⟩:∃ f,f=l.getD k default:=⟨_,rfl⟩
   obtain ⟨b,off,rfl,hb,_,_,_,_,_,_,_,_,c8,_⟩:=HA.out.at_ (k:=k) (by rw [← HLn.out]; exact hlt) hf
   have hs:=countR_snoc l k (by rw [← HLn.out]; exact hlt)
   rw [← hf] at hs
   have hs1:=countR_le l (k + 1)
   have HS:=Lib.hid hs
   have hs2:countR (l.take k) + f.code.length ≤ 9223372036854775806:=by omega
   clear hf hs hs1
   go_wp2_with fail
   go_round
   case rel=>exact ⟨k + 1,by omega,by go_num,by rw [HS.out]; go_num⟩
   case measure=>simp [intOf]; omega
  ·go_wp2_with fail
   go_ret
   exact ⟨ret_int (by rw [List.take_of_length_le (by have:=HLn.out; omega)]),rfl⟩
theorem countR_mulV (l:List Rf) (M:Nat) (h:∀ f,f ∈ l → f.code.length ≤ M):countR l ≤ l.length * M:=by
 induction l with
 | nil=>exact Nat.zero_le _
 | cons f l ih =>
  have h1:=ih fun g hg=>h g (List.mem_cons_of_mem _ hg)
  have h2:=h f (List.mem_cons_self ..)
  rw [List.length_cons,Nat.succ_mul]
  have h3:countR (f :: l)=f.code.length + countR l:=by simp [countR]
  omega
theorem tidies_any (A:Option Addr) (ca:Nat) (l:List Rf) {ln:Nat} (nm:ByteArray) (vA:Option Addr) (vc:Nat) (av:List Val) {na:Nat} (ck:Bool) (w:World) (L:Laid w) (hln:ln=l.length) (hna:na=av.length) (hA:RfAt w A l) (hV:ValsAt w vA av)
  (hl:ln ≤ 140737488355328) (hn:na ≤ 140737488355328) (hfl:∀ f,f ∈ l → f.code.length ≤ 140737488355328) (hin:RgsIn l) :
  Calls Tryz.prog 11 #[.slice A ln ca,.agg #[.string nm,.slice vA na vc,.bool ck]] w fun e w'=>e=.returned (.bool true)∧Ext w w':=by
 have hcl:ln ≤ 100 → countR l ≤ 9223372036854775806:=fun h=>by
  have h1:=countR_mulV l _ hfl
  have h2:=Nat.mul_le_mul_right 140737488355328 h
  omega
 have HLG:Hid (∀ w1,Ext w w1 → Calls Tryz.prog 18 #[.slice A ln ca] w1 fun e w'=>e=.returned (.bool (longR l))∧w1=w'):=fun w1 x=>hlong_any A ca l w1 hln (hA.ext x) (by omega) (fun f hf=>by have:=hfl f hf; omega) hcl
 have HKN:Hid (∀ w1,Ext w w1 → Calls Tryz.prog 19 #[] w1 fun e w'=>e=.returned (.bool true)∧Ext w1 w'):=fun w1 x=>rknown_any w1 (L.ext x)
 have HSZ:Hid (ln ≤ 100 → ∀ w1,Ext w w1 → Calls Tryz.prog 48 #[.slice A ln ca] w1 fun e w'=>e=.returned (.int .i64 (countR l))∧w1=w'):=fun h w1 x=>lsize_any A ca l w1 hln (hA.ext x) (by omega) (hcl h)
 have H1:Hid (∀ w1,Ext w w1 → Calls Tryz.prog 54 #[.slice A ln ca] w1 fun e w'=>∃ M A' c',e=.returned (.tuple #[.slice A' M.length c',.int .i64 (validR l)])∧RfAt w' A' M∧LikeR M (tidyR l)∧Ext w1 w'):=fun w1 x=>gTidy_any A ca l w1 (L.ext x) hln (hA.ext x) (by omega) (fun h=>hcl (by omega)) hin
 have H2:Hid (∀ w1,Ext w w1 → Calls Tryz.prog 55 #[.slice A ln ca] w1 fun e w'=>∃ M A' c',e=.returned (.tuple #[.slice A' M.length c',.int .i64 (validR l)])∧RfAt w' A' M∧LikeR M (tidyR l)∧Ext w1 w'):=fun w1 x=>hTidy_any A ca l w1 hln (hA.ext x) (by omega) (fun h=>hcl (by omega)) hin
 have key:∀ {K:List Rf},LikeR K (tidyR l) → K.length ≤ 9223372036854775806∧∀ f,f ∈ K → SizesF f:=fun {K} hK=>by
  by_cases hp:validR l=0
  ·have hv2:validR K=0:=by rw [validR_like hK]; unfold tidyR; rw [if_pos hp]; exact (does_tidy hp).valid
   obtain ⟨_,a2,a3,_⟩:=valid_in hv2
   exact ⟨by omega,a2⟩
  ·have hz:tidyR l=[]:=by unfold tidyR; rw [if_neg hp]
   rw [hz] at hK
   have hK0:K=[]:=List.length_eq_zero_iff.1 hK.len
   subst hK0
   exact ⟨by decide,fun f hf=>by cases hf⟩
 have HSM:Hid (∀ (M N:List Rf) (A1 A2:Option Addr) (c1 c2:Nat) (w1:World),LikeR M (tidyR l) → LikeR N (tidyR l) → RfAt w1 A1 M → RfAt w1 A2 N → Calls Tryz.prog 44 #[.slice A1 M.length c1,.slice A2 N.length c2] w1 fun e w'=>e=.returned (.bool true)∧Ext w1 w'):=fun M N A1 A2 c1 c2 w1 l1 l2 m1 m2=>by
  exact hSameT_any A1 A2 c1 c2 M N w1 rfl rfl m1 m2 (key l1).1 (key l2).1 (key l1).2 (key l2).2 (sameR_like (l1.trans l2.symm))
 have HAG:Hid (validR l=0 → ∀ (M:List Rf) (A1:Option Addr) (c1:Nat) (w1:World),Ext w w1 → LikeR M (tidyR l) → RfAt w1 A1 M → Calls Tryz.prog 54 #[.slice A1 M.length c1] w1 fun e w'=>∃ M2 A2 c2,e=.returned (.tuple #[.slice A2 M2.length c2,.int .i64 0])∧RfAt w' A2 M2∧LikeR M2 (tidyR l)∧Ext w1 w'):=fun hp M A1 c1 w1 x l1 m1=>by
  have e1:tidyR l=tidyL l:=by unfold tidyR; rw [if_pos hp]
  rw [e1] at l1 ⊢
  obtain ⟨hv2,hag⟩:=tidy_again hp l1
  obtain ⟨a1,a2,a3,a4⟩:=valid_in hv2
  have e2:tidyR M=tidyL M:=by unfold tidyR; rw [if_pos hv2]
  refine (gTidy_any A1 c1 M w1 (L.ext x) rfl m1 (by omega) (fun _=>by omega) a1).mono ?_
  rintro e w' ⟨M2,A2,c2,rfl,m2,l2,x2⟩
  rw [hv2]
  rw [e2] at l2
  exact ⟨M2,A2,c2,rfl,m2,(l2.trans hag).trans l1,x2⟩
 have HAK:Hid (validR l=0 → ln ≤ 100 → na ≤ 100 → ∀ (M:List Rf) (A1:Option Addr) (c1:Nat) (w1:World),Ext w w1 → LikeR M (tidyR l) → RfAt w1 A1 M → Calls Tryz.prog 47 #[.slice A ln ca,.slice A1 M.length c1,.agg #[.string nm,.slice vA na vc,.bool ck]] w1 fun e w'=>e=.returned (.bool true)∧Ext w1 w'):=fun hp h1 h2 M A1 c1 w1 x l1 m1=>by
  have e1:tidyR l=tidyL l:=by unfold tidyR; rw [if_pos hp]
  rw [e1] at l1
  have hd:=does_tidy hp
  have hv2:validR M=0:=by rw [validR_like l1]; exact hd.valid
  obtain ⟨a1,a2,a3,a4⟩:=valid_in hv2
  refine alike_any A A1 ca c1 l M nm vA vc av ck w1 hln rfl hna (hA.ext x) m1 (hV.ext x) (by omega) (by omega) (by omega) (fun h=>hcl (by omega)) (fun _=>by omega) hin a1 ?_ ?_
  ·rw [runE_like l1,hd.errs]
  ·intro hs
   rw [outR_like l1,hd.same _ _ _ hs]
 have HLN:Hid (longR l=false → ln ≤ 100):=fun h=>by
  unfold longR at h
  simp only [Bool.or_eq_false_iff,decide_eq_false_iff_not] at h
  have:=h.2.1
  omega
 obtain ⟨lb,hlb⟩:∃ lb,lb=longR l:=⟨_,rfl⟩
 rw [← hlb] at HLG HLN
 obtain ⟨e,he⟩:∃ e,e=validR l:=⟨_,rfl⟩
 obtain ⟨cn,hcn⟩:∃ z,z=countR l:=⟨_,rfl⟩
 rw [← he] at H1 H2 HAK HAG
 rw [← hcn] at HSZ
 clear hlb he hcn hA hV hfl hin hln hna hcl L key
 cases lb
 ·have hln2:=HLN.out rfl
  have HSY:=Lib.hid (HSZ.out hln2)
  clear HSZ HLN
  by_cases hn1:(200:Int) < (cn:Int)
  ·clear H1 H2 HAK HAG HSM
   go_enter Tryz.func11,Tryz.ntmps11
   go_wp2_with (first
    | (go_at_call 18; refine (HLG.out _ exA).mono ?_; rintro r w' ⟨rfl,rfl⟩)
    | (go_at_call 48; refine (HSY.out _ exA).mono ?_; rintro r w' ⟨rfl,rfl⟩)
    | (go_at_call 19; refine (HKN.out _ exA).mono ?_; rintro r w8 ⟨rfl,x8⟩))
   go_ret
   exact ⟨rfl,exA⟩
  ·by_cases hn2:na ≤ 100
   ·by_cases h0:e=0
    ·subst h0
     have GA:=Lib.hid (HAK.out rfl hln2 (by omega))
     have GT:=Lib.hid (HAG.out rfl)
     clear HAK HAG
     go_enter Tryz.func11,Tryz.ntmps11
     go_wp2_with (first
      | (go_at_call 18; refine (HLG.out _ exA).mono ?_; rintro r w' ⟨rfl,rfl⟩)
      | (go_at_call 48; refine (HSY.out _ exA).mono ?_; rintro r w' ⟨rfl,rfl⟩)
      | (go_at_call 54; first
       | ((with_reducible refine (H1.out _ exA).mono ?_); rintro r w1 ⟨M1,A1,c1,rfl,m1,l1,x1⟩; have M1A:=Lib.hid m1; have L1:=Lib.hid l1; clear m1 l1; have y1:=x1.facts; have z1:w.heap.size < w1.heap.size:=(by have h:=x1.size; simp at h; omega))
       | ((with_reducible refine (GT.out M1 A1 c1 _ exA L1.out (M1A.out.ext exA)).mono ?_); rintro r w4 ⟨M4,A4,c4,rfl,m4,l4,x4⟩; have M4A:=Lib.hid m4; have L4:=Lib.hid l4; clear m4 l4; have y4:=x4.facts; have z4:w.heap.size < w4.heap.size:=(by have h:=x4.size; omega)))
      | (go_at_call 55; (with_reducible refine (H2.out _ exA).mono ?_); rintro r w2 ⟨M2,A2,c2,rfl,m2,l2,x2⟩; have M2A:=Lib.hid m2; have L2:=Lib.hid l2; clear m2 l2; have y2:=x2.facts; have z2:w.heap.size < w2.heap.size:=(by have h:=x2.size; omega))
      | (go_at_call 44; first
       | ((with_reducible refine (HSM.out M1 M2 A1 A2 c1 c2 _ L1.out L2.out (M1A.out.ext exA) M2A.out).mono ?_); rintro r w3 ⟨rfl,x3⟩; have y3:=x3.facts; have z3:w.heap.size < w3.heap.size:=(by have h:=x3.size; omega))
       | ((with_reducible refine (HSM.out M4 M1 A4 A1 c4 c1 _ L4.out L1.out M4A.out (M1A.out.ext exA)).mono ?_); rintro r w5 ⟨rfl,x5⟩; have y5:=x5.facts; have z5:w.heap.size < w5.heap.size:=(by have h:=x5.size; omega)))
      | (go_at_call 47; (with_reducible refine (GA.out M1 A1 c1 _ exA L1.out (M1A.out.ext exA)).mono ?_); rintro r w6 ⟨rfl,x6⟩)
      | (go_at_call 19; refine (HKN.out _ exA).mono ?_; rintro r w8 ⟨rfl,x8⟩))
     go_ret
     exact ⟨rfl,exA⟩
    ·have hb:(e != 0)=true:=by simpa using h0
     clear HAK HAG
     go_enter Tryz.func11,Tryz.ntmps11
     go_wp2_with (first
      | (go_at_call 18; refine (HLG.out _ exA).mono ?_; rintro r w' ⟨rfl,rfl⟩)
      | (go_at_call 48; refine (HSY.out _ exA).mono ?_; rintro r w' ⟨rfl,rfl⟩)
      | (go_at_call 54; (with_reducible refine (H1.out _ exA).mono ?_); rintro r w1 ⟨M1,A1,c1,rfl,m1,l1,x1⟩; have M1A:=Lib.hid m1; have L1:=Lib.hid l1; clear m1 l1; have y1:=x1.facts; have z1:w.heap.size < w1.heap.size:=(by have h:=x1.size; simp at h; omega))
      | (go_at_call 55; (with_reducible refine (H2.out _ exA).mono ?_); rintro r w2 ⟨M2,A2,c2,rfl,m2,l2,x2⟩; have M2A:=Lib.hid m2; have L2:=Lib.hid l2; clear m2 l2; have y2:=x2.facts; have z2:w.heap.size < w2.heap.size:=(by have h:=x2.size; omega))
      | (go_at_call 44; (with_reducible refine (HSM.out M1 M2 A1 A2 c1 c2 _ L1.out L2.out (M1A.out.ext exA) M2A.out).mono ?_); rintro r w3 ⟨rfl,x3⟩)
      | (go_at_call 19; refine (HKN.out _ exA).mono ?_; rintro r w8 ⟨rfl,x8⟩))
     go_ret
     exact ⟨rfl,exA⟩
   ·have hq:(100:Int) < (na:Int):=by omega
    clear H1 H2 HAK HAG HSM
    go_enter Tryz.func11,Tryz.ntmps11
    go_wp2_with (first
     | (go_at_call 18; refine (HLG.out _ exA).mono ?_; rintro r w' ⟨rfl,rfl⟩)
     | (go_at_call 48; refine (HSY.out _ exA).mono ?_; rintro r w' ⟨rfl,rfl⟩)
     | (go_at_call 19; refine (HKN.out _ exA).mono ?_; rintro r w8 ⟨rfl,x8⟩))
    go_ret
    exact ⟨rfl,exA⟩
 ·clear H1 H2 HAK HAG HSM HLN HSZ
  go_enter Tryz.func11,Tryz.ntmps11
  go_wp2_with (first
   | (go_at_call 18; refine (HLG.out _ exA).mono ?_; rintro r w' ⟨rfl,rfl⟩)
   | (go_at_call 19; refine (HKN.out _ exA).mono ?_; rintro r w8 ⟨rfl,x8⟩))
  go_ret
  exact ⟨rfl,exA⟩
end Go.Proofs.YtknaemlnhediaaaGreatDoor.c
