/- The law CodeTexts. The tables strings.asciiSpace and of the powers hold what their text lays; lengths are bounded. -/
import Derived.Test.YtknaemlnhediaaaGreatDoorCtx
import Derived.Test.YtknaemlnhediaaaGreatDoorRtw
import Derived.Test.YtknaemlnhediaaaGreatDoorRsm
import Derived.Test.YtknaemlnhediaaaGreatDoorOne
namespace Go.Proofs.YtknaemlnhediaaaGreatDoor.c
open Go.RowKit
set_option linter.unusedVariables false
set_option maxRecDepth 100000
set_option maxHeartbeats 3200000
set_option linter.unusedSimpArgs false
theorem count_mulT (l:List Fc) (M:Nat) (h:∀ f,f ∈ l → f.code.length ≤ M):countS l ≤ l.length * M:=by
 unfold countS
 induction l with
 | nil=>simp
 | cons f l ih =>
  have h1:=h f (List.mem_cons_self ..)
  have h2:=ih fun g hg=>h g (List.mem_cons_of_mem _ hg)
  rw [List.map_cons,List.sum_cons,List.length_cons,Nat.add_mul]
  omega
theorem texts_any (A B:Option Addr) (ca cb:Nat) (l m:List Fc) {ln mn:Nat} (w:World) (L:Laid w) (LP:LaidP w) (hln:ln=l.length) (hmn:mn=m.length) (hA:FcAt w A l) (hB:FcAt w B m) (hl:ln ≤ 140737488355328) (hm:mn ≤ 140737488355328) (hfl:∀ f,f ∈ l → f.code.length ≤ 140737488355328) (hfm:∀ f,f ∈ m → f.code.length ≤ 140737488355328) :
  Calls Tryz.prog 3 #[.slice A ln ca,.slice B mn cb] w fun e w'=>e=.returned (.bool true)∧Ext w w':=by
 have hcl:l.length ≤ 100 → countS l ≤ 9223372036854775806:=fun h=>by
  have h1:=count_mulT l _ hfl
  have h2:=Nat.mul_le_mul_right 140737488355328 h
  omega
 have hcm:m.length ≤ 100 → countS m ≤ 9223372036854775806:=fun h=>by
  have h1:=count_mulT m _ hfm
  have h2:=Nat.mul_le_mul_right 140737488355328 h
  omega
 have sl:∀ f,f ∈ l → f.code.length ≤ 9223372036854775806:=fun f hf=>by have:=hfl f hf; omega
 have sm:∀ f,f ∈ m → f.code.length ≤ 9223372036854775806:=fun f hf=>by have:=hfm f hf; omega
 have HLG:Hid (∀ w1,Ext w w1 → Calls Tryz.prog 12 #[.slice A ln ca] w1 fun e w'=>e=.returned (.bool (longS l))∧w1=w'):=fun w1 x=>by rw [hln]; exact long_any A ca l w1 (hA.ext x) (by omega) hcl
 have HLM:Hid (∀ w1,Ext w w1 → Calls Tryz.prog 12 #[.slice B mn cb] w1 fun e w'=>e=.returned (.bool (longS m))∧w1=w'):=fun w1 x=>by rw [hmn]; exact long_any B cb m w1 (hB.ext x) (by omega) hcm
 have HKN:Hid (∀ w1,Ext w w1 → Calls Tryz.prog 13 #[] w1 fun e w'=>e=.returned (.bool true)∧Ext w1 w'):=fun w1 x=>known_any w1 (L.ext x)
 have H1:Hid (∀ w1,Ext w w1 → Calls Tryz.prog 14 #[.slice A ln ca] w1 fun e w'=>e=.returned (.tuple #[.string ⟨(textS l).toArray⟩,.int .i64 (validS l)])∧Ext w1 w'):=fun w1 x=>cText_any A ca l w1 (L.ext x) (LP.ext x) hln (hA.ext x) (by omega) (fun h=>hcl (by omega)) sl
 have H2:Hid (∀ w1,Ext w w1 → Calls Tryz.prog 15 #[.slice A ln ca] w1 fun e w'=>e=.returned (.tuple #[.string ⟨(textS l).toArray⟩,.int .i64 (validS l)])∧Ext w1 w'):=fun w1 x=>rText_any A ca l w1 (LP.ext x) hln (hA.ext x) (by omega) (fun h=>hcl (by omega)) sl
 have H3:Hid (∀ w1,Ext w w1 → Calls Tryz.prog 14 #[.slice B mn cb] w1 fun e w'=>e=.returned (.tuple #[.string ⟨(textS m).toArray⟩,.int .i64 (validS m)])∧Ext w1 w'):=fun w1 x=>cText_any B cb m w1 (L.ext x) (LP.ext x) hmn (hB.ext x) (by omega) (fun h=>hcm (by omega)) sm
 have H4:Hid (∀ w1,Ext w w1 → Calls Tryz.prog 16 #[.slice A ln ca,.slice B mn cb] w1 fun e w'=>e=.returned (.bool (sameC l m))∧Ext w1 w'):=fun w1 x=>cSame_any A B ca cb l m w1 hln hmn (hA.ext x) (hB.ext x) (by omega) (by omega) sl sm
 have H5:Hid (∀ w1,Ext w w1 → Calls Tryz.prog 17 #[.slice A ln ca,.slice B mn cb] w1 fun e w'=>e=.returned (.bool (sameC l m))∧Ext w1 w'):=fun w1 x=>rSame_any A B ca cb l m w1 hln hmn (hA.ext x) (hB.ext x) (by omega) (by omega) sl sm
 have H6:Hid (∀ w1,Ext w w1 → Calls Tryz.prog 16 #[.slice A ln ca,.slice A ln ca] w1 fun e w'=>e=.returned (.bool true)∧Ext w1 w'):=fun w1 x=>by
  have h:=cSame_any A A ca ca l l w1 hln hln (hA.ext x) (hA.ext x) (by omega) (by omega) sl sl
  rwa [sameC_self] at h
 have HTS:Hid (validS l=0 → validS m=0 → ((⟨(textS l).toArray⟩:ByteArray).toList == (⟨(textS m).toArray⟩:ByteArray).toList)=sameC l m):=fun h1 h2=>by
  rw [Lib.toList_data,Lib.toList_data,ba_list,ba_list]
  unfold textS
  rw [if_pos h1,if_pos h2]
  exact text_same h1 h2
 obtain ⟨la,hla⟩:∃ lb,lb=longS l:=⟨_,rfl⟩
 obtain ⟨lb,hlb⟩:∃ lb,lb=longS m:=⟨_,rfl⟩
 obtain ⟨u,hu⟩:∃ v,v=validS l:=⟨_,rfl⟩
 obtain ⟨v,hv⟩:∃ v,v=validS m:=⟨_,rfl⟩
 obtain ⟨sb,hsb⟩:∃ z,z=sameC l m:=⟨_,rfl⟩
 obtain ⟨Y,hY⟩:∃ z:ByteArray,z=⟨(textS l).toArray⟩:=⟨_,rfl⟩
 obtain ⟨Z,hZ⟩:∃ z:ByteArray,z=⟨(textS m).toArray⟩:=⟨_,rfl⟩
 rw [← hla] at HLG
 rw [← hlb] at HLM
 rw [← hu,← hY] at H1 H2
 rw [← hv,← hZ] at H3
 rw [← hsb] at H4 H5
 rw [← hu,← hv,← hsb,← hY,← hZ] at HTS
 clear hla hlb hu hv hsb hY hZ hA hB hfl hfm hln hmn hcl hcm L LP sl sm
 cases la
 ·cases lb
  ·by_cases h1:u=0
   ·subst h1
    by_cases h2:v=0
    ·subst h2
     have hts:=HTS.out rfl rfl
     clear HTS
     cases sb
     all_goals
      go_enter Tryz.func3,Tryz.ntmps3
      go_wp2_with (first
       | (go_at_call 12; first | (with_reducible refine (HLG.out _ exA).mono ?_; rintro r w' ⟨rfl,rfl⟩) | (with_reducible refine (HLM.out _ exA).mono ?_; rintro r w' ⟨rfl,rfl⟩))
       | (go_at_call 14; first | (with_reducible refine (H1.out _ exA).mono ?_; rintro r w1 ⟨rfl,x1⟩) | (with_reducible refine (H3.out _ exA).mono ?_; rintro r w3 ⟨rfl,x3⟩))
       | (go_at_call 15; refine (H2.out _ exA).mono ?_; rintro r w2 ⟨rfl,x2⟩)
       | (go_at_call 16; first | (with_reducible refine (H4.out _ exA).mono ?_; rintro r w4 ⟨rfl,x4⟩) | (with_reducible refine (H6.out _ exA).mono ?_; rintro r w6 ⟨rfl,x6⟩))
       | (go_at_call 17; refine (H5.out _ exA).mono ?_; rintro r w5 ⟨rfl,x5⟩)
       | (go_at_call 13; refine (HKN.out _ exA).mono ?_; rintro r w8 ⟨rfl,x8⟩))
      go_ret
      exact ⟨rfl,exA⟩
    ·have hb2:(v != 0)=true:=by simpa using h2
     clear HTS
     cases sb
     all_goals
      go_enter Tryz.func3,Tryz.ntmps3
      go_wp2_with (first
       | (go_at_call 12; first | (with_reducible refine (HLG.out _ exA).mono ?_; rintro r w' ⟨rfl,rfl⟩) | (with_reducible refine (HLM.out _ exA).mono ?_; rintro r w' ⟨rfl,rfl⟩))
       | (go_at_call 14; first | (with_reducible refine (H1.out _ exA).mono ?_; rintro r w1 ⟨rfl,x1⟩) | (with_reducible refine (H3.out _ exA).mono ?_; rintro r w3 ⟨rfl,x3⟩))
       | (go_at_call 15; refine (H2.out _ exA).mono ?_; rintro r w2 ⟨rfl,x2⟩)
       | (go_at_call 16; first | (with_reducible refine (H4.out _ exA).mono ?_; rintro r w4 ⟨rfl,x4⟩) | (with_reducible refine (H6.out _ exA).mono ?_; rintro r w6 ⟨rfl,x6⟩))
       | (go_at_call 17; refine (H5.out _ exA).mono ?_; rintro r w5 ⟨rfl,x5⟩)
       | (go_at_call 13; refine (HKN.out _ exA).mono ?_; rintro r w8 ⟨rfl,x8⟩))
      go_ret
      exact ⟨rfl,exA⟩
   ·have hb1:(u != 0)=true:=by simpa using h1
    clear HTS
    cases sb
    all_goals
     go_enter Tryz.func3,Tryz.ntmps3
     go_wp2_with (first
      | (go_at_call 12; first | (with_reducible refine (HLG.out _ exA).mono ?_; rintro r w' ⟨rfl,rfl⟩) | (with_reducible refine (HLM.out _ exA).mono ?_; rintro r w' ⟨rfl,rfl⟩))
      | (go_at_call 14; first | (with_reducible refine (H1.out _ exA).mono ?_; rintro r w1 ⟨rfl,x1⟩) | (with_reducible refine (H3.out _ exA).mono ?_; rintro r w3 ⟨rfl,x3⟩))
      | (go_at_call 15; refine (H2.out _ exA).mono ?_; rintro r w2 ⟨rfl,x2⟩)
      | (go_at_call 16; first | (with_reducible refine (H4.out _ exA).mono ?_; rintro r w4 ⟨rfl,x4⟩) | (with_reducible refine (H6.out _ exA).mono ?_; rintro r w6 ⟨rfl,x6⟩))
      | (go_at_call 17; refine (H5.out _ exA).mono ?_; rintro r w5 ⟨rfl,x5⟩)
      | (go_at_call 13; refine (HKN.out _ exA).mono ?_; rintro r w8 ⟨rfl,x8⟩))
     go_ret
     exact ⟨rfl,exA⟩
  ·go_enter Tryz.func3,Tryz.ntmps3
   go_wp2_with (first
    | (go_at_call 12; first | (with_reducible refine (HLG.out _ exA).mono ?_; rintro r w' ⟨rfl,rfl⟩) | (with_reducible refine (HLM.out _ exA).mono ?_; rintro r w' ⟨rfl,rfl⟩))
    | (go_at_call 13; refine (HKN.out _ exA).mono ?_; rintro r w8 ⟨rfl,x8⟩))
   go_ret
   exact ⟨rfl,exA⟩
 ·go_enter Tryz.func3,Tryz.ntmps3
  go_wp2_with (first
   | (go_at_call 12; refine (HLG.out _ exA).mono ?_; rintro r w' ⟨rfl,rfl⟩)
   | (go_at_call 13; refine (HKN.out _ exA).mono ?_; rintro r w8 ⟨rfl,x8⟩))
  go_ret
  exact ⟨rfl,exA⟩
end Go.Proofs.YtknaemlnhediaaaGreatDoor.c
