/- A type by the code and by the reference is one thing: contracts of tree.isType, tree.ValidateType, and of the reference's isType, ValidateType, over one plain function. The table strings.asciiSpace holds what its text lays. Functions of stack code as plain data, and where they lie in memory. No condition. Contracts of the functions of package code that look at an instruction: within, isPlain, isInt, index, shapeOf, isFunc's closure. The table strings.asciiSpace holds what its text lays. Contracts of the reference's functions that look at an instruction: within, isRan, isInt, has, found, isNumber, isCode. -/
import Derived.Test.YtobfbfbjccmbiaaGreatDoorName
namespace Go.Proofs.YtobfbfbjccmbiaaGreatDoor.c
open Go.RowKit
set_option linter.unusedVariables false
set_option maxRecDepth 100000
set_option maxHeartbeats 1600000
set_option linter.unusedSimpArgs false

structure Ty where
 base:Int
 bits:Int
 name:ByteArray
 opt:Bool
 err:Bool
instance:Inhabited Ty:=⟨⟨0,0,⟨#[]⟩,false,false⟩⟩
def emp (s:ByteArray):Bool:=s.toList.isEmpty
def bitsOk (b:Int):Bool:=decide (1 ≤ b) && decide (b ≤ 31)
def isTypeS (t:Ty):Bool :=
 if t.base=2 ∨ t.base=3 then bitsOk t.bits && emp t.name
 else if t.base=5 then t.bits == 0 && isNameS t.name
 else if t.base=0 then t.bits == 0 && emp t.name && !t.opt
 else if t.base=4 then t.bits == 0 && emp t.name && !t.opt && !t.err
 else t.base == 1 && t.bits == 0 && emp t.name

theorem isNumbers_any (b:Int) (w:World) :
  Calls Tryz.prog 63 #[.int .i64 b] w fun e w'=>e=.returned (.bool (b == 2 || b == 3))∧w=w':=by
 go_enter Tryz.func63,Tryz.ntmps63
 go_wp2
 all_goals (go_ret; exact ⟨by simp [*],rfl⟩)
theorem intOf_any (a b:Int) (n:ByteArray) (o e:Bool) (w:World) :
  Calls Tryz.prog 28 #[.agg #[.int .i64 a,.int .i64 b,.string n,.bool o,.bool e]] w fun r w'=>r=.returned (.agg #[.bool (a == 3),.int .i64 b])∧Ext w w':=by
 go_enter Tryz.func28,Tryz.ntmps28
 go_wp2
 exact bodyPost_ret (v:=.agg #[.bool (a == 3),.int .i64 b]) (by simp [results,Tryz.results28,go_sem]) rfl ⟨rfl,exA⟩
theorem vInt_ok (b:Int):(vInt b == 0)=bitsOk b:=by
 unfold vInt bitsOk
 by_cases h:b < 1 ∨ 31 < b
 ·rw [if_pos h,Bool.eq_iff_iff]; simp; omega
 ·rw [if_neg h,Bool.eq_iff_iff]; simp; omega
theorem refWithin_any (a b c:Int) (w:World) :
  Calls Tryz.prog 64 #[.int .i64 a,.int .i64 b,.int .i64 c] w fun e w'=>e=.returned (.bool (decide (b ≤ a) && decide (a ≤ c)))∧w=w':=by
 go_enter Tryz.func64,Tryz.ntmps64
 go_wp2
 all_goals (go_ret; exact ⟨ret_bool (by rw [Bool.eq_iff_iff]; simp; omega),rfl⟩)

theorem isType_aux (a b:Int) (n:ByteArray) (o e:Bool) (w:World) (g:Laid w) (em:Bool) (he:emp n=em) (hne:n.toList.isEmpty=em) :
  Calls Tryz.prog 32 #[.agg #[.int .i64 a,.int .i64 b,.string n,.bool o,.bool e]] w fun r w'=>r=.returned (.bool (isTypeS ⟨a,b,n,o,e⟩))∧Ext w w':=by
 have HE:=Lib.hid he
 clear he
 cases em
 all_goals
    by_cases h23:a=2 ∨ a=3
    ·have hbn:((a == 2) || (a == 3))=true:=by rcases h23 with rfl | rfl <;> rfl
     have hS:=Lib.hid (show isTypeS ⟨a,b,n,o,e⟩=(vInt b == 0 && emp n) by unfold isTypeS; rw [if_pos h23,vInt_ok])
     rcases h23 with rfl | rfl
     all_goals
      cases o <;> cases e
      all_goals
       go_enter Tryz.func32,Tryz.ntmps32
       go_wp2_with (first
        | (go_at_call 63; refine (isNumbers_any _ _).mono ?_; rw [hbn]; rintro e w' ⟨rfl,rfl⟩)
        | (go_at_call 28; refine (intOf_any _ _ _ _ _ _).mono ?_; rintro e w1 ⟨rfl,x1⟩; have y1:=x1.facts; have z1:=x1.z0)
        | (go_at_call 59; refine (numValidate_any _ _ _).mono ?_; rintro e w2 ⟨rfl,x2⟩; have y2:=x2.facts))
       all_goals
        go_ret
        exact ⟨ret_bool (by rw [hS.out]; simp [HE.out, *] <;> omega),exA⟩
    ·have hbn:((a == 2) || (a == 3))=false:=by rw [Bool.eq_false_iff]; intro h; simp at h; exact h23 h
     have hcase:a=5 ∨ a=0 ∨ a=4 ∨ a=1 ∨ a < 0 ∨ 5 < a:=by omega
     rcases hcase with rfl | rfl | rfl | rfl | ha | ha
     case inl =>
      have hS:=Lib.hid (show isTypeS ⟨5,b,n,o,e⟩=(b == 0 && isNameS n) by rfl)
      clear h23
      cases o <;> cases e
      all_goals
       go_enter Tryz.func32,Tryz.ntmps32
       go_wp2_with (first
        | (go_at_call 63; refine (isNumbers_any _ _).mono ?_; rw [hbn]; rintro e w' ⟨rfl,rfl⟩)
        | (go_at_call 16; refine (isName_any _ _ (g.ext exA)).mono ?_; rintro e w1 ⟨rfl,x1⟩; have y1:=x1.facts; have z1:=x1.z0))
       all_goals
        go_ret
        exact ⟨ret_bool (by rw [hS.out]; simp [*]),exA⟩
     case inr.inr.inr.inr.inl =>
      have hS:=Lib.hid (show isTypeS ⟨a,b,n,o,e⟩=false by
       unfold isTypeS; rw [if_neg h23,if_neg (show ¬ a=5 by omega),if_neg (show ¬ a=0 by omega),if_neg (show ¬ a=4 by omega)]
       have:(a == 1)=false:=by rw [beq_eq_false_iff_ne]; omega
       simp [this])
      clear h23
      go_enter Tryz.func32,Tryz.ntmps32
      go_wp2_with fail
      go_ret
      exact ⟨ret_bool hS.out.symm,exA⟩
     case inr.inr.inr.inr.inr =>
      have hS:=Lib.hid (show isTypeS ⟨a,b,n,o,e⟩=false by
       unfold isTypeS; rw [if_neg h23,if_neg (show ¬ a=5 by omega),if_neg (show ¬ a=0 by omega),if_neg (show ¬ a=4 by omega)]
       have:(a == 1)=false:=by rw [beq_eq_false_iff_ne]; omega
       simp [this])
      clear h23
      go_enter Tryz.func32,Tryz.ntmps32
      go_wp2_with fail
      go_ret
      exact ⟨ret_bool hS.out.symm,exA⟩
     all_goals
      clear h23
      cases o <;> cases e
      all_goals
       go_enter Tryz.func32,Tryz.ntmps32
       go_wp2_with (first
        | (go_at_call 63; refine (isNumbers_any _ _).mono ?_; rw [hbn]; rintro e w' ⟨rfl,rfl⟩))
       all_goals
        go_ret
        exact ⟨ret_bool (by unfold isTypeS; simp [HE.out, *] <;> omega),exA⟩
theorem isType_any (a b:Int) (n:ByteArray) (o e:Bool) (w:World) (g:Laid w) :
  Calls Tryz.prog 32 #[.agg #[.int .i64 a,.int .i64 b,.string n,.bool o,.bool e]] w fun r w'=>r=.returned (.bool (isTypeS ⟨a,b,n,o,e⟩))∧Ext w w' :=
 isType_aux a b n o e w g (emp n) rfl rfl

theorem validateType_any (a b:Int) (n:ByteArray) (o e:Bool) (w:World) (g:Laid w) :
  Calls Tryz.prog 14 #[.agg #[.int .i64 a,.int .i64 b,.string n,.bool o,.bool e]] w fun r w'=>r=.returned (.int .i64 (if isTypeS ⟨a,b,n,o,e⟩ then 0 else 1))∧Ext w w':=by
 cases h:isTypeS ⟨a,b,n,o,e⟩
 all_goals
  go_enter Tryz.func14,Tryz.ntmps14
  go_wp2_with (first
   | (go_at_call 32; refine (isType_any _ _ _ _ _ _ (g.ext exA)).mono ?_; rw [h]; rintro e w1 ⟨rfl,x1⟩))
  go_ret
  exact ⟨rfl,exA⟩

theorem refIsType_aux (a b:Int) (n:ByteArray) (o e:Bool) (w:World) (em:Bool) (he:emp n=em) (hne:n.toList.isEmpty=em) :
  Calls Tryz.prog 34 #[.agg #[.int .i64 a,.int .i64 b,.string n,.bool o,.bool e]] w fun r w'=>r=.returned (.bool (isTypeS ⟨a,b,n,o,e⟩))∧Ext w w':=by
 have HE:=Lib.hid he
 clear he
 cases em
 all_goals
    by_cases h2:a=2
    ·subst h2
     go_enter Tryz.func34,Tryz.ntmps34
     go_wp2_with (first
      | (go_at_call 64; refine (refWithin_any _ _ _ _).mono ?_; rintro e w' ⟨rfl,rfl⟩))
     all_goals
      go_ret
      exact ⟨ret_bool (by unfold isTypeS bitsOk; simp [HE.out, *] <;> omega),exA⟩
    ·by_cases h3:a=3
     ·subst h3
      clear h2
      go_enter Tryz.func34,Tryz.ntmps34
      go_wp2_with (first
       | (go_at_call 64; refine (refWithin_any _ _ _ _).mono ?_; rintro e w' ⟨rfl,rfl⟩))
      all_goals
       go_ret
       exact ⟨ret_bool (by unfold isTypeS bitsOk; simp [HE.out, *] <;> omega),exA⟩
     ·by_cases h5:a=5
      ·subst h5
       clear h2 h3
       go_enter Tryz.func34,Tryz.ntmps34
       go_wp2_with (first
        | (go_at_call 17; refine (refIsName_any _ _).mono ?_; rintro e w1 ⟨rfl,x1⟩))
       all_goals
        go_ret
        exact ⟨ret_bool (by unfold isTypeS; simp [*]),exA⟩
      ·by_cases h0:a=0
       ·subst h0
        clear h2 h3 h5
        cases o
        all_goals
         go_enter Tryz.func34,Tryz.ntmps34
         go_wp2_with fail
         all_goals
          go_ret
          exact ⟨ret_bool (by unfold isTypeS; simp [HE.out, *] <;> omega),exA⟩
       ·by_cases h4:a=4
        ·subst h4
         clear h2 h3 h5 h0
         cases o <;> cases e
         all_goals
          go_enter Tryz.func34,Tryz.ntmps34
          go_wp2_with fail
          all_goals
           go_ret
           exact ⟨ret_bool (by unfold isTypeS; simp [HE.out, *] <;> omega),exA⟩
        ·go_enter Tryz.func34,Tryz.ntmps34
         go_wp2_with fail
         all_goals
          go_ret
          exact ⟨ret_bool (by unfold isTypeS; simp [HE.out, *] <;> omega),exA⟩
theorem refIsType_any (a b:Int) (n:ByteArray) (o e:Bool) (w:World) :
  Calls Tryz.prog 34 #[.agg #[.int .i64 a,.int .i64 b,.string n,.bool o,.bool e]] w fun r w'=>r=.returned (.bool (isTypeS ⟨a,b,n,o,e⟩))∧Ext w w' :=
 refIsType_aux a b n o e w (emp n) rfl rfl

theorem refValidateType_any (a b:Int) (n:ByteArray) (o e:Bool) (w:World) :
  Calls Tryz.prog 15 #[.agg #[.int .i64 a,.int .i64 b,.string n,.bool o,.bool e]] w fun r w'=>r=.returned (.int .i64 (if isTypeS ⟨a,b,n,o,e⟩ then 0 else 1))∧Ext w w':=by
 cases h:isTypeS ⟨a,b,n,o,e⟩
 all_goals
  go_enter Tryz.func15,Tryz.ntmps15
  go_wp2_with (first
   | (go_at_call 34; refine (refIsType_any _ _ _ _ _ _).mono ?_; rw [h]; rintro e w1 ⟨rfl,x1⟩))
  go_ret
  exact ⟨rfl,exA⟩
end Go.Proofs.YtobfbfbjccmbiaaGreatDoor.c
