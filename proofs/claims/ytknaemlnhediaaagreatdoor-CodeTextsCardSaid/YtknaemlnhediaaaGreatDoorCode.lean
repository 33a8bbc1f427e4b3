/- Contracts of code.isFunc, size, Validate, Size, Find. The table strings.asciiSpace holds what its text lays; sizes are bounded. Contracts of code.size, Validate, Size, Find. The table strings.asciiSpace holds what its text lays; sizes are bounded. -/
import Derived.Test.YtknaemlnhediaaaGreatDoorShapeE
import Derived.Test.YtknaemlnhediaaaGreatDoorFuncs
import Derived.Test.YtknaemlnhediaaaGreatDoorRval
namespace Go.Proofs.YtknaemlnhediaaaGreatDoor.c
open Go.RowKit
set_option linter.unusedVariables false
set_option maxRecDepth 100000
set_option maxHeartbeats 1600000
set_option linter.unusedSimpArgs false

theorem all_any (l:List Fc) (f:Fc):(!anyI (fun i=>!instS l f (f.code.getD i default)) f.code.length)=f.code.all (fun x=>instS l f x):=by
 rw [Bool.eq_iff_iff,Bool.not_eq_true',Bool.eq_false_iff,Ne,anyI_iff,List.all_eq_true]
 constructor
 ·intro h x hx
  obtain ⟨j,hj,rfl⟩:=List.getElem_of_mem hx
  cases hi:instS l f f.code[j]
  ·refine absurd ⟨j,hj,?_⟩ h
   rw [List.getD,List.getElem?_eq_getElem hj,Option.getD_some,hi]
   rfl
  ·rfl
 ·rintro h ⟨j,hj,hp⟩
  rw [h _ (getD_mem hj)] at hp
  cases hp
theorem isFunc_any (l:List Fc) (A:Option Addr) (cap:Nat) (f:Fc) (w:World) (g:Laid w) (hA:FcAt w A l) (hl:l.length ≤ 9223372036854775807) (hfl:f.code.length ≤ 9223372036854775807) (hC:CdAt w f.A f.code) :
  Calls Tryz.prog 127 #[.slice A l.length cap,f.val] w fun e w'=>e=.returned (.bool (fcS l f))∧Ext w w':=by
 have HA:=Lib.hid hA
 have HC:=Lib.hid hC
 clear hA hC
 have HFC:=Lib.hid (show fcS l f=(isNameS f.name && (inB f.params 0 f.places && (isRanS f.ty && (decide (1 ≤ f.code.length) && f.code.all (fun x=>instS l f x))))) from rfl)
 have HR:=Lib.hid (show isRanS f.ty=(isTypeS f.ty && decide (f.ty.base ≤ 3)) from rfl)
 have B0:FcBox ((w.alloc (.cells #[.slice A l.length cap] 22)).alloc (.cells #[.string f.name,.int .i64 f.params,.int .i64 f.places,.int .i64 f.ty.base,.int .i64 f.ty.bits,.string f.ty.name,.bool f.ty.opt,.bool f.ty.err,.slice f.A f.code.length f.cap] 62)) (w.heap.size + 1) f :=
  ⟨by have h:=Blk.new (w.alloc (.cells #[.slice A l.length cap] 22)) 62 #[.string f.name,.int .i64 f.params,.int .i64 f.places,.int .i64 f.ty.base,.int .i64 f.ty.bits,.string f.ty.name,.bool f.ty.opt,.bool f.ty.err,.slice f.A f.code.length f.cap]; rwa [size_alloc] at h⟩
 have C0:Blk ((w.alloc (.cells #[.slice A l.length cap] 22)).alloc (.cells #[.string f.name,.int .i64 f.params,.int .i64 f.places,.int .i64 f.ty.base,.int .i64 f.ty.bits,.string f.ty.name,.bool f.ty.opt,.bool f.ty.err,.slice f.A f.code.length f.cap] 62)) w.heap.size 22 #[.slice A l.length cap]:=(Blk.new _ _ _).alloc _
 have B1:=Lib.hid B0
 have C1:=Lib.hid C0
 clear B0 C0
 unfold Fc.val
 cases hT:isTypeS f.ty
 all_goals
  have HT:=Lib.hid hT
  clear hT
  go_enter Tryz.func127,Tryz.ntmps127
  go_wp2_with (first
   | (go_at_call 144; refine (isName_any f.name _ (g.ext exL)).mono ?_; rintro r w1 ⟨rfl,x1⟩; have y1:=x1.facts; have z1:=x1.z0; have zz1:w.heap.size < w1.heap.size:=(by simp at z1; omega); have zy1:w.heap.size + 1 < w1.heap.size:=(by simp at z1; omega))
   | (go_at_call 191; refine (within_any _ _ _ _).mono ?_; rintro r w' ⟨rfl,rfl⟩)
   | (go_at_call 128; refine (validate_ty f.ty _ (g.ext exL)).mono ?_; rw [HT.out]; rintro r w2 ⟨rfl,x2⟩; have y2:=x2.facts; have z2:=x2.size; have zz2:w.heap.size < w2.heap.size:=Nat.lt_of_lt_of_le zz1 z2; have zy2:w.heap.size + 1 < w2.heap.size:=Nat.lt_of_lt_of_le zy1 z2)
   | (go_at_call 192; refine (containsFuncC_any f.A f.code.length f.cap 193 _ _ hfl (fun i j=>cdC (f.code.getD i default) j) (HC.out.ext exL) enters_isFunc1 (fun i=>!instS l f (f.code.getD i default)) ?_).mono ?_))
  all_goals try (go_ret; exact ⟨ret_bool (by rw [HFC.out,HR.out,HT.out]; first | (simp [*]; done) | (simp [*]; intros; omega)),exL⟩)
  first | done | case refine_1 =>
   intro i w3 hi hx
   refine isFunc1_any l A cap f (f.code.getD i default) _ _ w3 (g.ext exL) (HA.out.ext exL) hl hfl ?_ ?_ (B1.out.ext exL)
   ·exact (C1.out.ext exL).cell 0
   ·exact (C1.out.ext exL).lt
  first | done | case refine_2 =>
   rintro e w3 ⟨rfl,x3⟩
   go_wp2_with fail
   go_ret
   refine ⟨ret_bool ?_,exL⟩
   rw [HFC.out,HR.out,HT.out]
   first | rw [all_any] | rw [show (!anyI (fun i=>!instS l f (f.code[i]?.getD default)) f.code.length)=f.code.all (fun x=>instS l f x) from all_any l f]
   rw [decide_eq_true (show 1 ≤ f.code.length by omega),decide_eq_true (show f.ty.base ≤ 3 by omega)]
   simp [*]
theorem size_any (A:Option Addr) (cap:Nat) (l:List Fc) {len:Nat} (w:World) (hlen:len=l.length) (hA:FcAt w A l) (hl:len ≤ 9223372036854775806) (hc:countS l ≤ 9223372036854775806) :
  Calls Tryz.prog 124 #[.slice A len cap] w fun e w'=>e=.returned (.int .i64 (countS l))∧Ext w w':=by
 have HLn:=Lib.hid hlen
 clear hlen
 have HA:=Lib.hid hA
 clear hA
 go_enter Tryz.func124,Tryz.ntmps124
 go_wp2
 go_loopw [3,8] (fun n i wr=>∃ k:Nat,k ≤ len∧i=.int .i64 k∧n=.int .i64 (countS (l.take k))∧Ext w wr) (fun _ i _=>len - (intOf i).toNat)
 case atStart=>exact ⟨0,Nat.zero_le _,rfl,rfl,Ext.refl _⟩
 case round =>
  obtain ⟨k,hk,rfl,rfl,hx⟩:=hrel
  have HX:=Lib.hid hx
  clear hx
  have hcl:=countS_le l k
  by_cases hlt:k < len
  ·obtain ⟨f,hf⟩:∃ f,f=l.getD k default:=⟨_,rfl⟩
   obtain ⟨b,off,rfl,hb,c0,c1,c2,c3,c4,c5,c6,c7,c8,_⟩:=(HA.out.ext HX.out).at_ (k:=k) (by rw [← HLn.out]; exact hlt) hf
   have hs:=countS_snoc l k (by rw [← HLn.out]; exact hlt)
   rw [← hf] at hs
   have hs1:=countS_le l (k + 1)
   have HS:=Lib.hid hs
   have hs2:countS (l.take k) + f.code.length ≤ 9223372036854775806:=by omega
   clear hf hs hs1
   go_wp2_with fail
   go_roundw
   case rel=>exact ⟨k + 1,by omega,by go_num,by rw [HS.out]; go_num,HX.out.trans exL⟩
   case measure=>simp [intOf]; omega
  ·go_wp2_with fail
   go_ret
   exact ⟨ret_int (by rw [List.take_of_length_le (by have:=HLn.out; omega)]),HX.out⟩
theorem any_places (l:List Fc):anyI (fun i=>decide (200 < (l.getD i default).places)) l.length=true ↔ ∃ f ∈ l,200 < f.places:=by
 rw [anyI_iff]
 constructor
 ·rintro ⟨k,hk,h⟩
  exact ⟨_,getD_mem hk,of_decide_eq_true h⟩
 ·rintro ⟨f,hf,h⟩
  obtain ⟨j,hj,rfl⟩:=List.getElem_of_mem hf
  refine ⟨j,hj,decide_eq_true ?_⟩
  rwa [List.getD,List.getElem?_eq_getElem hj,Option.getD_some]
theorem isFunc_len (l:List Fc) (A:Option Addr) (cap:Nat) {len:Nat} (f:Fc) (w:World) (h:len=l.length) (g:Laid w) (hA:FcAt w A l) (hl:len ≤ 9223372036854775807) (hfl:f.code.length ≤ 9223372036854775807) (hC:CdAt w f.A f.code) :
  Calls Tryz.prog 127 #[.slice A len cap,.agg #[.string f.name,.int .i64 f.params,.int .i64 f.places,.int .i64 f.ty.base,.int .i64 f.ty.bits,.string f.ty.name,.bool f.ty.opt,.bool f.ty.err,.slice f.A f.code.length f.cap]] w fun e w'=>e=.returned (.bool (fcS l f))∧Ext w w':=by
 subst h
 exact isFunc_any l A cap f w g hA hl hfl hC
theorem index_len (A:Option Addr) (cap:Nat) (l:List Fc) {len:Nat} (n:ByteArray) (w:World) (h:len=l.length) (hA:FcAt w A l) (hl:len ≤ 9223372036854775807) :
  Calls Tryz.prog 89 #[.slice A len cap,.string n] w fun e w'=>e=.returned (.int .i64 (indexS l n))∧Ext w w':=by
 subst h
 exact index_any A cap l n w hA hl
theorem contains_len (A:Option Addr) (cap:Nat) (l:List Fc) {len:Nat} (w:World) (h:len=l.length) (hA:FcAt w A l) (hl:len ≤ 9223372036854775807) :
  Calls Tryz.prog 125 #[.slice A len cap,.func (.func 126) #[] #[]] w fun e w'=>e=.returned (.bool (anyI (fun i=>decide (200 < (l.getD i default).places)) l.length))∧Ext w w':=by
 subst h
 exact containsFuncF_any A l.length cap _ #[] w hl _ hA.top enters_valid1 _ (fun i w1 _ _=>valid1_any (l.getD i default) w1)
theorem cValidate_any (A:Option Addr) (cap:Nat) (l:List Fc) (w:World) (g:Laid w) (hA:FcAt w A l) (hl:l.length ≤ 9223372036854775806) (hc:l.length ≤ 48 → countS l ≤ 9223372036854775806) (hfl:∀ f,f ∈ l → f.code.length ≤ 9223372036854775806) :
  Calls Tryz.prog 59 #[.slice A l.length cap] w fun e w'=>e=.returned (.int .i64 (validS l))∧Ext w w':=by
 have HA:=Lib.hid hA
 have HFL:=Lib.hid hfl
 clear hA hfl
 obtain ⟨len,hlen⟩:∃ len,len=l.length:=⟨_,rfl⟩
 have HP:=Lib.hid (any_places l)
 rw [← hlen] at hl hc ⊢
 have HLn:=Lib.hid hlen
 clear hlen
 by_cases h1:48 < (len:Int)
 ·have HV:=Lib.hid (validS_large (l:=l) (.inl (by have:=HLn.out; omega)))
  clear hc
  go_enter Tryz.func59,Tryz.ntmps59
  go_wp2_with fail
  go_ret
  exact ⟨ret_int HV.out.symm,Ext.refl _⟩
 ·have hcc:=hc (by omega)
  clear hc
  by_cases h2:2000 < (countS l:Int)
  ·have HV:=Lib.hid (validS_large (l:=l) (.inr (.inl (by omega))))
   go_enter Tryz.func59,Tryz.ntmps59
   go_wp2_with (first | (go_at_call 124; refine (size_any A cap l _ HLn.out (HA.out.ext exL) hl hcc).mono ?_; rintro r w1 ⟨rfl,x1⟩))
   go_ret
   exact ⟨ret_int HV.out.symm,exL⟩
  ·obtain ⟨bp,hbp⟩:∃ bp,bp=anyI (fun i=>decide (200 < (l.getD i default).places)) l.length:=⟨_,rfl⟩
   have HBP:=Lib.hid hbp
   clear hbp
   cases bp
   case true =>
    have HV:=Lib.hid (validS_large (l:=l) (.inr (.inr (HP.out.1 HBP.out.symm))))
    go_enter Tryz.func59,Tryz.ntmps59
    go_wp2_with (first
     | (go_at_call 124; refine (size_any A cap l _ HLn.out (HA.out.ext exL) hl hcc).mono ?_; rintro r w1 ⟨rfl,x1⟩)
     | (go_at_call 125; refine (contains_len A cap l _ HLn.out (HA.out.ext exL) (by omega)).mono ?_; rw [← HBP.out]; rintro r w2 ⟨rfl,x2⟩))
    go_ret
    exact ⟨ret_int HV.out.symm,exL⟩
   case false =>
    have H0:Hid (¬ (48 < l.length ∨ 2000 < countS l ∨ (∃ f ∈ l,200 < f.places))):=by
     rintro (h | h | h)
     ·have:=HLn.out; omega
     ·omega
     ·have:=HP.out.2 h; rw [← HBP.out] at this; cases this
    go_enter Tryz.func59,Tryz.ntmps59
    go_wp2_with (first
     | (go_at_call 124; refine (size_any A cap l _ HLn.out (HA.out.ext exL) hl hcc).mono ?_; rintro r w1 ⟨rfl,x1⟩)
     | (go_at_call 125; refine (contains_len A cap l _ HLn.out (HA.out.ext exL) (by omega)).mono ?_; rw [← HBP.out]; rintro r w2 ⟨rfl,x2⟩))
    all_goals try (exfalso; omega)
    have HX0:Hid (Ext w w2):=by unfold Hid; exact exL
    clear x1 x2
    go_loopw [19] (fun i wr=>∃ k:Nat,k ≤ len∧i=.int .i64 k∧okTo l k∧Ext w wr) (fun i _=>len - (intOf i).toNat)
    case atStart=>exact ⟨0,Nat.zero_le _,rfl,fun j hj=>by omega,HX0.out⟩
    case round =>
     obtain ⟨k,hk,rfl,hok,hx⟩:=hrel
     have HK:=Lib.hid hok
     have HX:=Lib.hid hx
     clear hok hx
     by_cases hlt:k < len
     ·obtain ⟨f,hf⟩:∃ f,f=l.getD k default:=⟨_,rfl⟩
      obtain ⟨b,off,rfl,hb,c0,c1,c2,c3,c4,c5,c6,c7,c8,hcd⟩:=(HA.out.ext HX.out).at_ (k:=k) (by rw [← HLn.out]; exact hlt) hf
      obtain ⟨q,hq⟩:∃ q,q=indexS l f.name:=⟨_,rfl⟩
      have HQ:=Lib.hid hq
      have HCD:=Lib.hid hcd
      have hfl9:f.code.length ≤ 9223372036854775806:=HFL.out f (by rw [hf]; exact getD_mem (by rw [← HLn.out]; exact hlt))
      have HF:=Lib.hid hf
      clear hf hcd hq
      have HB:Hid (¬ (fcS l f=true∧q=(k:Int)) → validS l=1):=fun h=>validS_bad H0.out (by rw [← HLn.out]; exact hlt) (by rw [← HF.out,← HQ.out]; exact h)
      obtain ⟨bf,hbf⟩:∃ bf,bf=fcS l f:=⟨_,rfl⟩
      have HBF:=Lib.hid hbf
      clear hbf
      go_wp2_with (first
       | (go_at_call 127; refine (isFunc_len l _ cap f _ HLn.out (g.ext (HX.out.trans exL)) (HA.out.ext (HX.out.trans exL)) (by omega) (by omega) (HCD.out.ext exL)).mono ?_; rw [← HBF.out]; rintro r w4 ⟨rfl,x4⟩; have y4:=x4.facts; have z4:=x4.z0)
       | (go_at_call 89; refine (index_len _ cap l _ _ HLn.out (HA.out.ext (HX.out.trans exL)) (by omega)).mono ?_; rw [← HQ.out]; rintro r w5 ⟨rfl,x5⟩))
      case roundEnd =>
       have h9:bf=true:=by assumption
       have h8:(q != (k:Int))=false:=by assumption
       have hqk:q=(k:Int):=by simpa using h8
       have HX5:Hid (Ext w w5):=HX.out.trans exL
       refine ⟨⟨k + 1,by omega,by go_num,?_,HX5.out⟩,by simp [intOf]; omega⟩
       intro j hj
       rcases Nat.lt_or_ge j k with h | h
       ·exact HK.out j h
       ·obtain rfl:j=k:=by omega
        rw [← HF.out,← HQ.out,← HBF.out]
        exact ⟨h9,hqk⟩
      all_goals first
       | (have h9:bf=false:=by assumption
          go_ret
          exact ⟨ret_int (HB.out (by rw [← HBF.out,h9]; simp)).symm,HX.out.trans exL⟩)
       | (have h9:(q != (k:Int))=true:=by assumption
          go_ret
          exact ⟨ret_int (HB.out (by intro hh; rw [hh.2] at h9; simp at h9)).symm,HX.out.trans exL⟩)
     ·go_wp2_with fail
      go_ret
      exact ⟨ret_int (validS_good H0.out (by have h:=HK.out; obtain rfl:k=len:=(by omega); rw [← HLn.out]; exact h)).symm,HX.out⟩
end Go.Proofs.YtknaemlnhediaaaGreatDoor.c
