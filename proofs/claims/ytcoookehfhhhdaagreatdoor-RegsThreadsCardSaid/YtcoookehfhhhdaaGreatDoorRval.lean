/- Contracts of the reference's isCode, count, Validate, Size, Find, Long. Conditions: sizes. -/
import Derived.Test.YtcoookehfhhhdaaGreatDoorRcode
import Derived.Deep.RegionHeld3
import Derived.StillTailTactics
namespace Go.Proofs.YtcoookehfhhhdaaGreatDoor.c
open Go.RowKit
set_option linter.unusedVariables false
set_option maxRecDepth 100000
set_option maxHeartbeats 1600000
set_option linter.unusedSimpArgs false

theorem isCode_any (l:List Fc) (A:Option Addr) (cap:Nat) (f:Fc) (x:Cd) (w:World) (hA:FcAt w A l) (hl:l.length ≤ 9223372036854775806) (hfl:f.code.length ≤ 9223372036854775807) :
  Calls Tryz.prog 60 #[.slice A l.length cap,f.val,x.val] w fun e w'=>e=.returned (.bool (instS l f x))∧Ext w w':=by
 obtain ⟨op,a,b,ty,nm⟩:=x
 have h:(op=1 ∨ op=4 ∨ op=8 ∨ op=11 ∨ op=17) ∨ (op=2 ∨ op=3 ∨ op=6 ∨ op=12 ∨ op=13 ∨ op=14 ∨ op=15 ∨ op=19) ∨ (op=7 ∨ op=9 ∨ op=10) ∨ op=18 ∨ op=5 ∨ op=0 ∨ op=16 ∨ (op < 0 ∨ 19 < op):=by omega
 rcases h with h | h | h | h | h | h | h | h
 ·exact code_plain l A cap f op a b ty nm w hA hl hfl h
 ·exact code_num l A cap f op a b ty nm w hA hl hfl h
 ·exact code_kind l A cap f op a b ty nm w hA hl hfl h
 ·exact code_error l A cap f op a b ty nm w hA hl hfl h
 ·exact code_op l A cap f op a b ty nm w hA hl hfl h
 ·exact code_push l A cap f op a b ty nm w hA hl hfl h
 ·exact code_call l A cap f op a b ty nm w hA hl hfl h
 ·exact code_none l A cap f op a b ty nm w hA hl hfl h
theorem isCode_as (l:List Fc) (A:Option Addr) (cap:Nat) {len:Nat} (f:Fc) {AA:Option Addr} {nn:Nat} (x:Cd) (w:World) (h:len=l.length) (h1:f.A=AA) (h2:nn=f.code.length) (hA:FcAt w A l) (hl:len ≤ 9223372036854775806) (hfl:nn ≤ 9223372036854775806) :
  Calls Tryz.prog 60 #[.slice A len cap,.agg #[.string f.name,.int .i64 f.params,.int .i64 f.places,.int .i64 f.ty.base,.int .i64 f.ty.bits,.string f.ty.name,.bool f.ty.opt,.bool f.ty.err,.slice AA nn f.cap],.agg #[.int .i64 x.op,.int .i64 x.a,.int .i64 x.b,.int .i64 x.ty.base,.int .i64 x.ty.bits,.string x.ty.name,.bool x.ty.opt,.bool x.ty.err,.string x.name]] w fun e w'=>e=.returned (.bool (instS l f x))∧Ext w w':=by
 subst h h1 h2
 exact isCode_any l A cap f x w hA hl (by omega)

def countS (l:List Fc):Nat:=(l.map fun f=>f.code.length).sum
theorem countS_snoc (l:List Fc) (k:Nat) (hk:k < l.length):countS (l.take (k + 1))=countS (l.take k) + (l.getD k default).code.length:=by
 unfold countS
 rw [List.take_succ_eq_append_getElem hk,List.map_append,List.sum_append]
 simp [List.getD,List.getElem?_eq_getElem hk]
theorem countS_le (l:List Fc) (k:Nat):countS (l.take k) ≤ countS l:=by
 unfold countS
 conv=>rhs; rw [← List.take_append_drop k l]
 rw [List.map_append,List.sum_append]
 omega
theorem count_any (A:Option Addr) (cap:Nat) (l:List Fc) (w:World) (hA:FcAt w A l) (hl:l.length ≤ 9223372036854775806) (hc:countS l ≤ 9223372036854775806) :
  Calls Tryz.prog 17 #[.slice A l.length cap] w fun e w'=>e=.returned (.int .i64 (countS l))∧w=w':=by
 obtain ⟨len,hlen⟩:∃ len,len=l.length:=⟨_,rfl⟩
 rw [← hlen] at hl ⊢
 have HLn:=Lib.hid hlen
 clear hlen
 have HA:=Lib.hid hA
 clear hA
 go_enter Tryz.func17,Tryz.ntmps17
 go_wp2
 go_loop [3,4] (fun n i=>∃ k:Nat,k ≤ len∧i=.int .i64 k∧n=.int .i64 (countS (l.take k))) (fun _ i=>len - (intOf i).toNat)
 case atStart=>exact ⟨0,Nat.zero_le _,rfl,rfl⟩
 case round =>
  obtain ⟨k,hk,rfl,rfl⟩:=hrel
  have hcl:=countS_le l k
  by_cases hlt:k < len
  ·obtain ⟨f,hf⟩:∃ f,f=l.getD k default:=⟨_,rfl⟩
   obtain ⟨b,off,rfl,hb,_,_,_,_,_,_,_,_,c8,_⟩:=HA.out.at_ (k:=k) (by rw [← HLn.out]; exact hlt) hf
   have hs:=countS_snoc l k (by rw [← HLn.out]; exact hlt)
   rw [← hf] at hs
   have hs1:=countS_le l (k + 1)
   have HS:=Lib.hid hs
   have hs2:countS (l.take k) + f.code.length ≤ 9223372036854775806:=by omega
   clear hf hs hs1
   go_wp2_with fail
   go_round
   case rel=>exact ⟨k + 1,by omega,by go_num,by rw [HS.out]; go_num⟩
   case measure=>simp [intOf]; omega
  ·go_wp2_with fail
   go_ret
   exact ⟨ret_int (by rw [List.take_of_length_le (by have:=HLn.out; omega)]),rfl⟩

theorem found_len (A:Option Addr) (cap:Nat) (l:List Fc) {len:Nat} (n:ByteArray) (w:World) (h:len=l.length) (hA:FcAt w A l) (hl:len ≤ 9223372036854775806) :
  Calls Tryz.prog 57 #[.slice A len cap,.string n] w fun e w'=>e=.returned (.int .i64 (indexS l n))∧w=w':=by
 subst h
 exact found_any A cap l n w hA hl
theorem count_len (A:Option Addr) (cap:Nat) (l:List Fc) {len:Nat} (w:World) (h:len=l.length) (hA:FcAt w A l) (hl:len ≤ 9223372036854775806) (hc:countS l ≤ 9223372036854775806) :
  Calls Tryz.prog 17 #[.slice A len cap] w fun e w'=>e=.returned (.int .i64 (countS l))∧w=w':=by
 subst h
 exact count_any A cap l w hA hl hc
def longS (l:List Fc):Bool:=decide (100 < l.length) || decide (4000 < countS l)
theorem long_any (A:Option Addr) (cap:Nat) (l:List Fc) (w:World) (hA:FcAt w A l) (hl:l.length ≤ 9223372036854775806) (hc:l.length ≤ 100 → countS l ≤ 9223372036854775806) :
  Calls Tryz.prog 5 #[.slice A l.length cap] w fun e w'=>e=.returned (.bool (longS l))∧w=w':=by
 have HA:=Lib.hid hA
 clear hA
 by_cases h1:100 < (l.length:Int)
 ·have HS:=Lib.hid (show longS l=true by unfold longS; rw [decide_eq_true (by omega)]; rfl)
  go_enter Tryz.func5,Tryz.ntmps5
  go_wp2_with fail
  go_ret
  exact ⟨ret_bool HS.out.symm,rfl⟩
 ·have hcc:=hc (by omega)
  have HS:=Lib.hid (show longS l=decide ((4000:Int) < (countS l:Int)) by unfold longS; rw [decide_eq_false (by omega),Bool.false_or,Bool.eq_iff_iff]; simp; omega)
  clear hc
  go_enter Tryz.func5,Tryz.ntmps5
  go_wp2_with (first | (go_at_call 17; refine (count_any A cap l _ HA.out hl hcc).mono ?_; rintro r w' ⟨rfl,rfl⟩))
  all_goals
   go_ret
   exact ⟨ret_bool (by rw [HS.out]),rfl⟩

def fcS (l:List Fc) (f:Fc):Bool :=
 isNameS f.name && (inB f.params 0 f.places && (isRanS f.ty && (decide (1 ≤ f.code.length) && f.code.all (fun x=>instS l f x))))
def validS (l:List Fc):Int :=
 if 48 < l.length ∨ 2000 < countS l ∨ (∃ f ∈ l,200 < f.places) then 3
 else if ∀ k,k < l.length → fcS l (l.getD k default)=true∧indexS l (l.getD k default).name=k then 0 else 1
theorem indexS_self (l:List Fc) (k:Nat) (hk:k < l.length):indexS l (l.getD k default).name ≤ k∧0 ≤ indexS l (l.getD k default).name:=by
 unfold indexS
 rcases findI_cases (fun j=>(l.getD j default).name.toList == (l.getD k default).name.toList) l.length with ⟨_,h⟩ | ⟨j,hj,hjl,hp,h⟩
 ·have:=h k hk
  simp at this
 ·rw [hj]
  refine ⟨?_,by omega⟩
  rcases Nat.lt_or_ge k j with h2 | h2
  ·have:=h k h2
   simp at this
  ·omega
def okTo (l:List Fc) (n:Nat):Prop:=∀ k,k < n → fcS l (l.getD k default)=true∧indexS l (l.getD k default).name=k
theorem validS_bad {l:List Fc} {k:Nat} (h0:¬ (48 < l.length ∨ 2000 < countS l ∨ (∃ f ∈ l,200 < f.places))) (hk:k < l.length) (h:¬ (fcS l (l.getD k default)=true∧indexS l (l.getD k default).name=k)):validS l=1:=by
 unfold validS
 rw [if_neg h0,if_neg fun hh=>h (hh k hk)]
theorem validS_good {l:List Fc} (h0:¬ (48 < l.length ∨ 2000 < countS l ∨ (∃ f ∈ l,200 < f.places))) (h:okTo l l.length):validS l=0:=by
 unfold validS
 rw [if_neg h0]
 exact if_pos h
theorem validS_large {l:List Fc} (h0:48 < l.length ∨ 2000 < countS l ∨ (∃ f ∈ l,200 < f.places)):validS l=3:=by
 unfold validS
 rw [if_pos h0]

theorem rValidate_any (A:Option Addr) (cap:Nat) (l:List Fc) (w:World) (hA:FcAt w A l) (hl:l.length ≤ 9223372036854775806) (hc:l.length ≤ 48 → countS l ≤ 9223372036854775806) (hfl:∀ f,f ∈ l → f.code.length ≤ 9223372036854775806) :
  Calls Tryz.prog 30 #[.slice A l.length cap] w fun e w'=>e=.returned (.int .i64 (validS l))∧Ext w w':=by
 have HA:=Lib.hid hA
 have HFL:=Lib.hid hfl
 clear hA hfl
 obtain ⟨len,hlen⟩:∃ len,len=l.length:=⟨_,rfl⟩
 rw [← hlen] at hl hc ⊢
 have HLn:=Lib.hid hlen
 clear hlen
 by_cases h1:48 < (len:Int)
 ·have HV:=Lib.hid (validS_large (l:=l) (.inl (by have:=HLn.out; omega)))
  clear hc
  go_enter Tryz.func30,Tryz.ntmps30
  go_wp2_with fail
  go_ret
  exact ⟨ret_int HV.out.symm,Ext.refl _⟩
 ·have hcc:=hc (by omega)
  clear hc
  by_cases h2:2000 < (countS l:Int)
  ·have HV:=Lib.hid (validS_large (l:=l) (.inr (.inl (by omega))))
   go_enter Tryz.func30,Tryz.ntmps30
   go_wp2_with (first | (go_at_call 17; refine (count_len A cap l _ HLn.out HA.out hl hcc).mono ?_; rintro r w' ⟨rfl,rfl⟩))
   go_ret
   exact ⟨ret_int HV.out.symm,Ext.refl _⟩
  ·go_enter Tryz.func30,Tryz.ntmps30
   go_wp2_with (first | (go_at_call 17; refine (count_len A cap l _ HLn.out HA.out hl hcc).mono ?_; rintro r w' ⟨rfl,rfl⟩))
   go_loop [3] (fun i=>∃ k:Nat,k ≤ len∧i=.int .i64 k∧∀ j,j < k → (l.getD j default).places ≤ 200) (fun i=>len - (intOf i).toNat)
   case atStart=>exact ⟨0,Nat.zero_le _,rfl,by omega⟩
   case round =>
    obtain ⟨k,hk,rfl,hpl⟩:=hrel
    have HP:=Lib.hid hpl
    clear hpl
    by_cases hlt:k < len
    ·obtain ⟨f,hf⟩:∃ f,f=l.getD k default:=⟨_,rfl⟩
     obtain ⟨b,off,rfl,hb,_,_,c2,_⟩:=HA.out.at_ (k:=k) (by rw [← HLn.out]; exact hlt) hf
     have HF:=Lib.hid hf
     have HFm:Hid (f ∈ l):=by rw [hf]; exact getD_mem (by rw [← HLn.out]; exact hlt)
     clear hf
     go_wp2_with fail
     case roundEnd =>
      have h9:f.places ≤ 200:=by assumption
      refine ⟨⟨k + 1,by omega,by go_num,fun j hj=>?_⟩,by simp [intOf]; omega⟩
      rcases Nat.lt_or_ge j k with h | h
      ·exact HP.out j h
      ·obtain rfl:j=k:=by omega
       rw [← HF.out]; exact h9
     all_goals
      have h9:200 < f.places:=by assumption
      go_ret
      exact ⟨ret_int (validS_large (l:=l) (.inr (.inr ⟨f,HFm.out,h9⟩))).symm,Ext.refl _⟩
    ·have H0:Hid (¬ (48 < l.length ∨ 2000 < countS l ∨ (∃ f ∈ l,200 < f.places))):=by
      rintro (h | h | ⟨f,hf,h⟩)
      ·have:=HLn.out; omega
      ·omega
      ·obtain ⟨j,hj,rfl⟩:=List.getElem_of_mem hf
       have:=HP.out j (by have:=HLn.out; omega)
       rw [List.getD,List.getElem?_eq_getElem hj,Option.getD_some] at this
       omega
     clear HP
     go_wp2_with fail
     go_loopw [4] (fun i wr=>∃ k:Nat,k ≤ len∧i=.int .i64 k∧okTo l k∧Ext w wr) (fun i _=>len - (intOf i).toNat)
     case atStart=>exact ⟨0,Nat.zero_le _,rfl,fun j hj=>by omega,Ext.refl _⟩
     case round =>
      clear hk hlt
      obtain ⟨k,hk,rfl,hok,hx⟩:=hrel
      have HK:=Lib.hid hok
      clear hok
      by_cases hlt:k < len
      ·obtain ⟨f,hf⟩:∃ f,f=l.getD k default:=⟨_,rfl⟩
       obtain ⟨b,off,rfl,hb,c0,c1,c2,c3,c4,c5,c6,c7,c8,hcd⟩:=(HA.out.ext hx).at_ (k:=k) (by rw [← HLn.out]; exact hlt) hf
       have hself:=indexS_self l k (by rw [← HLn.out]; exact hlt)
       rw [← hf] at hself
       obtain ⟨q,hq⟩:∃ q,q=indexS l f.name:=⟨_,rfl⟩
       rw [← hq] at hself
       have hq1:=hself.1
       have hq2:=hself.2
       have HQ:=Lib.hid hq
       have HF:=Lib.hid hf
       have HCD:=Lib.hid hcd
       clear hf hcd hself hq
       have HB:Hid (¬ (fcS l f=true∧q=(k:Int)) → validS l=1):=fun h=>validS_bad H0.out (by rw [← HLn.out]; exact hlt) (by rw [← HF.out,← HQ.out]; exact h)
       have HFC:=Lib.hid (show fcS l f=(isNameS f.name && (inB f.params 0 f.places && (isRanS f.ty && (decide (1 ≤ f.code.length) && f.code.all (fun x=>instS l f x))))) from rfl)
       go_wp2_with (first
        | (go_at_call 33; refine (refIsName_any _ _).mono ?_; rintro r w1 ⟨rfl,x1⟩; have y1:=x1.facts; have z1:=x1.z0)
        | (go_at_call 57; refine (found_len _ cap l _ _ HLn.out (HA.out.ext (hx.trans exA)) hl).mono ?_; rw [← HQ.out]; rintro r w' ⟨rfl,rfl⟩)
        | (go_at_call 58; refine (rwithin_any _ _ _ _).mono ?_; rintro r w' ⟨rfl,rfl⟩)
        | (go_at_call 59; refine (isRan_ty f.ty _).mono ?_; rintro r w2 ⟨rfl,x2⟩; have y2:=x2.facts; have z2:=x2.size))
       all_goals
        first
         | (have h9:isNameS f.name=false:=by assumption
            go_ret
            exact ⟨ret_int (HB.out (by rw [HFC.out,h9]; simp)).symm,hx.trans exA⟩)
         | (have h9:q < (k:Int):=by assumption
            go_ret
            exact ⟨ret_int (HB.out (by omega)).symm,hx.trans exA⟩)
         | (have h9:inB f.params 0 f.places=false:=by assumption
            go_ret
            exact ⟨ret_int (HB.out (by rw [HFC.out,h9]; simp)).symm,hx.trans exA⟩)
         | (have h9:isRanS f.ty=false:=by assumption
            go_ret
            exact ⟨ret_int (HB.out (by rw [HFC.out,h9]; simp)).symm,hx.trans exA⟩)
         | (have h9:(f.code.length:Int) < 1:=by assumption
            go_ret
            exact ⟨ret_int (HB.out (by rw [HFC.out,decide_eq_false (by omega)]; simp)).symm,hx.trans exA⟩)
         | skip
       have e1:isNameS f.name=true:=by assumption
       have e2:inB f.params 0 f.places=true:=by assumption
       have e3:isRanS f.ty=true:=by assumption
       have e4:(1:Int) ≤ (f.code.length:Int):=by assumption
       have HFC2:Hid (fcS l f=f.code.all (fun x=>instS l f x)):=by rw [HFC.out,e1,e2,e3,decide_eq_true (by omega)]; rfl
       have hxr:Ext (wr.alloc (.cells #[.string f.name,.int .i64 f.params,.int .i64 f.places,.int .i64 f.ty.base,.int .i64 f.ty.bits,.string f.ty.name,.bool f.ty.opt,.bool f.ty.err,.slice f.A f.code.length f.cap] 48)) w2:=exA
       have hx2:Ext w w2:=hx.trans (((Ext.refl _).alloc _).trans hxr)
       have hbk:Blk w2 wr.heap.size 48 #[.string f.name,.int .i64 f.params,.int .i64 f.places,.int .i64 f.ty.base,.int .i64 f.ty.bits,.string f.ty.name,.bool f.ty.opt,.bool f.ty.err,.slice f.A f.code.length f.cap]:=(Blk.new _ _ _).ext hxr
       rw [e3]
       have HX2:=Lib.hid hx2
       have HXR:=Lib.hid (((Ext.refl wr).alloc _).trans hxr)
       have HBK:=Lib.hid hbk
       clear e1 e2 e3 hx2 hxr hbk y1 y2 z1 z2 x1 x2 c0 c1 c2 c3 c4 c5 c6 c7 c8 HFC
       have hfl9:f.code.length ≤ 9223372036854775806:=HFL.out f (by rw [HF.out]; exact getD_mem (by rw [← HLn.out]; exact hlt))
       obtain ⟨n,hn⟩:∃ n,n=f.code.length:=⟨_,rfl⟩
       rw [← hn] at hfl9 e4 ⊢
       have HNl:=Lib.hid hn
       clear hn
       go_loopw [6] (fun i wq=>∃ m:Nat,m ≤ n∧i=.int .i64 m∧(f.code.take m).all (fun x=>instS l f x)=true∧Ext w2 wq) (fun i _=>n - (intOf i).toNat)
       case atStart=>exact ⟨0,Nat.zero_le _,rfl,rfl,Ext.refl _⟩
       case round =>
        obtain ⟨m,hm,rfl,hall,hxm⟩:=hrel
        have HALL:=Lib.hid hall
        clear hall
        have hbm:=HBK.out.ext hxm
        have c0:=hbm.cell 0
        have c1:=hbm.cell 1
        have c2:=hbm.cell 2
        have c3:=hbm.cell 3
        have c4:=hbm.cell 4
        have c5:=hbm.cell 5
        have c6:=hbm.cell 6
        have c7:=hbm.cell 7
        have c8:=hbm.cell 8
        simp only [List.getElem?_toArray,List.getElem?_cons_zero,List.getElem?_cons_succ] at c0 c1 c2 c3 c4 c5 c6 c7 c8
        rw [← HNl.out] at c8
        clear hbm
        by_cases hlm:m < n
        ·obtain ⟨x,hx9⟩:∃ x,x=f.code.getD m default:=⟨_,rfl⟩
         obtain ⟨bc,oc,hac,hbc,d0,d1,d2,d3,d4,d5,d6,d7,d8⟩:=(HCD.out.ext (HXR.out.trans hxm)).at_ (k:=m) (by rw [← HNl.out]; exact hlm) hx9
         rw [hac] at c8
         have HX9:=Lib.hid hx9
         have HAC:=Lib.hid hac
         clear hx9 hac
         go_wp2_with fail
         go_still_tail 7,(by kernel_rfl)
         go_wp2_with fail
         refine (isCode_as l _ cap f x _ HLn.out HAC.out HNl.out (HA.out.ext ((HX2.out.trans hxm).drew)) hl hfl9).mono ?_
         rintro r w3 ⟨rfl,x3⟩
         have hx3:Ext wr w3:=((Ext.refl wr).drew).trans x3
         have HX3:=Lib.hid hx3
         clear x3 hx3
         have htk:Hid ((f.code.take (m + 1)).all (fun x=>instS l f x)=instS l f x):=by
          have hmm:m < f.code.length:=by rw [← HNl.out]; exact hlm
          unfold Hid
          rw [List.take_succ_eq_append_getElem hmm,List.all_append,HALL.out,HX9.out]
          simp [List.getD,List.getElem?_eq_getElem hmm]
         cases hin:instS l f x
         ·have HIN:=Lib.hid hin
          go_wp2_with fail
          go_ret
          refine ⟨ret_int (HB.out ?_).symm,HX2.out.trans (hxm.trans HX3.out)⟩
          intro hh
          have h1:=hh.1
          rw [HFC2.out,List.all_eq_true] at h1
          have h2:=h1 x (by rw [HX9.out]; exact getD_mem (by rw [← HNl.out]; exact hlm))
          rw [HIN.out] at h2
          cases h2
         ·have HIN:=Lib.hid hin
          go_wp2_with fail
          go_roundw
          case rel =>
           exact ⟨m + 1,by omega,by go_num,by rw [htk.out,HIN.out],hxm.trans HX3.out⟩
          case measure=>simp [intOf]; omega
        ·go_wp2_with fail
         have hfin:fcS l f=true:=by
          rw [HFC2.out]
          have:=HALL.out
          rwa [List.take_of_length_le (by have:=HNl.out; omega)] at this
         have hqk:q=(k:Int):=by omega
         refine ⟨⟨k + 1,by omega,by go_num,?_,HX2.out.trans hxm⟩,by simp [intOf]; omega⟩
         intro j hj
         rcases Nat.lt_or_ge j k with h | h
         ·exact HK.out j h
         ·obtain rfl:j=k:=by omega
          rw [← HF.out,← HQ.out]
          exact ⟨hfin,hqk⟩
      ·go_wp2_with fail
       go_ret
       exact ⟨ret_int (validS_good H0.out (by have h:=HK.out; obtain rfl:k=len:=(by omega); rw [← HLn.out]; exact h)).symm,hx⟩
end Go.Proofs.YtcoookehfhhhdaaGreatDoor.c
