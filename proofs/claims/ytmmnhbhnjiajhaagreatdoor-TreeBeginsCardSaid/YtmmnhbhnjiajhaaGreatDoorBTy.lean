/- A type by the code and by the reference is one thing: contracts of tree.isType, tree.ValidateType, and of the reference's isType, ValidateType, over one plain function. The table strings.asciiSpace holds what its text lays. Functions of stack code as plain data, and where they lie in memory. No condition. Contracts of the functions of package code that look at an instruction: within, isPlain, isInt, index, shapeOf, isFunc's closure. The table strings.asciiSpace holds what its text lays. Contracts of the reference's functions that look at an instruction: within, isRan, isInt, has, found, isNumber, isCode. -/
import Derived.Test.YtmmnhbhnjiajhaaGreatDoorBRlex
namespace Go.Proofs.YtmmnhbhnjiajhaaGreatDoor.c
open Go.RowKit
set_option linter.unusedVariables false
set_option maxRecDepth 100000
set_option maxHeartbeats 1600000
set_option linter.unusedSimpArgs false

structure Ty where
 base:Int
 bits:Int
 name:ByteArray
 opt:Bool
 err:Bool
instance:Inhabited Ty:=⟨⟨0,0,⟨#[]⟩,false,false⟩⟩
def emp (s:ByteArray):Bool:=s.toList.isEmpty
def bitsOk (b:Int):Bool:=decide (1 ≤ b) && decide (b ≤ 31)
def isTypeS (t:Ty):Bool :=
 if t.base=2 ∨ t.base=3 then bitsOk t.bits && emp t.name
 else if t.base=5 then t.bits == 0 && isNameS t.name
 else if t.base=0 then t.bits == 0 && emp t.name && !t.opt
 else if t.base=4 then t.bits == 0 && emp t.name && !t.opt && !t.err
 else t.base == 1 && t.bits == 0 && emp t.name

theorem isNumbers_any (b:Int) (w:World) :
  Calls Tryz.prog 94 #[.int .i64 b] w fun e w'=>e=.returned (.bool (b == 2 || b == 3))∧w=w':=by
 go_enter Tryz.func94,Tryz.ntmps94
 go_wp2
 all_goals (go_ret; exact ⟨by simp [*],rfl⟩)
theorem intOf_any (a b:Int) (n:ByteArray) (o e:Bool) (w:World) :
  Calls Tryz.prog 140 #[.agg #[.int .i64 a,.int .i64 b,.string n,.bool o,.bool e]] w fun r w'=>r=.returned (.agg #[.bool (a == 3),.int .i64 b])∧Ext w w':=by
 go_enter Tryz.func140,Tryz.ntmps140
 go_wp2
 exact bodyPost_ret (v:=.agg #[.bool (a == 3),.int .i64 b]) (by simp [results,Tryz.results140,go_sem]) rfl ⟨rfl,exA⟩
theorem vInt_ok (b:Int):(vInt b == 0)=bitsOk b:=by
 unfold vInt bitsOk
 by_cases h:b < 1 ∨ 31 < b
 ·rw [if_pos h,Bool.eq_iff_iff]; simp; omega
 ·rw [if_neg h,Bool.eq_iff_iff]; simp; omega
theorem isType_aux (a b:Int) (n:ByteArray) (o e:Bool) (w:World) (g:Laid w) (em:Bool) (he:emp n=em) (hne:n.toList.isEmpty=em) :
  Calls Tryz.prog 87 #[.agg #[.int .i64 a,.int .i64 b,.string n,.bool o,.bool e]] w fun r w'=>r=.returned (.bool (isTypeS ⟨a,b,n,o,e⟩))∧Ext w w':=by
 have HE:=Lib.hid he
 clear he
 cases em
 all_goals
    by_cases h23:a=2 ∨ a=3
    ·have hbn:((a == 2) || (a == 3))=true:=by rcases h23 with rfl | rfl <;> rfl
     have hS:=Lib.hid (show isTypeS ⟨a,b,n,o,e⟩=(vInt b == 0 && emp n) by unfold isTypeS; rw [if_pos h23,vInt_ok])
     rcases h23 with rfl | rfl
     all_goals
      cases o <;> cases e
      all_goals
       go_enter Tryz.func87,Tryz.ntmps87
       go_wp2_with (first
        | (go_at_call 94; refine (isNumbers_any _ _).mono ?_; rw [hbn]; rintro e w' ⟨rfl,rfl⟩)
        | (go_at_call 140; refine (intOf_any _ _ _ _ _ _).mono ?_; rintro e w1 ⟨rfl,x1⟩; have y1:=x1.facts; have z1:=x1.z0)
        | (go_at_call 139; refine (numValidate_any _ _ _).mono ?_; rintro e w2 ⟨rfl,x2⟩; have y2:=x2.facts))
       all_goals
        go_ret
        exact ⟨ret_bool (by rw [hS.out]; simp [HE.out, *] <;> omega),exA⟩
    ·have hbn:((a == 2) || (a == 3))=false:=by rw [Bool.eq_false_iff]; intro h; simp at h; exact h23 h
     have hcase:a=5 ∨ a=0 ∨ a=4 ∨ a=1 ∨ a < 0 ∨ 5 < a:=by omega
     rcases hcase with rfl | rfl | rfl | rfl | ha | ha
     case inl =>
      have hS:=Lib.hid (show isTypeS ⟨5,b,n,o,e⟩=(b == 0 && isNameS n) by rfl)
      clear h23
      cases o <;> cases e
      all_goals
       go_enter Tryz.func87,Tryz.ntmps87
       go_wp2_with (first
        | (go_at_call 94; refine (isNumbers_any _ _).mono ?_; rw [hbn]; rintro e w' ⟨rfl,rfl⟩)
        | (go_at_call 86; refine (isName_any _ _ (g.ext exA)).mono ?_; rintro e w1 ⟨rfl,x1⟩; have y1:=x1.facts; have z1:=x1.z0))
       all_goals
        go_ret
        exact ⟨ret_bool (by rw [hS.out]; simp [*]),exA⟩
     case inr.inr.inr.inr.inl =>
      have hS:=Lib.hid (show isTypeS ⟨a,b,n,o,e⟩=false by
       unfold isTypeS; rw [if_neg h23,if_neg (show ¬ a=5 by omega),if_neg (show ¬ a=0 by omega),if_neg (show ¬ a=4 by omega)]
       have:(a == 1)=false:=by rw [beq_eq_false_iff_ne]; omega
       simp [this])
      clear h23
      go_enter Tryz.func87,Tryz.ntmps87
      go_wp2_with fail
      go_ret
      exact ⟨ret_bool hS.out.symm,exA⟩
     case inr.inr.inr.inr.inr =>
      have hS:=Lib.hid (show isTypeS ⟨a,b,n,o,e⟩=false by
       unfold isTypeS; rw [if_neg h23,if_neg (show ¬ a=5 by omega),if_neg (show ¬ a=0 by omega),if_neg (show ¬ a=4 by omega)]
       have:(a == 1)=false:=by rw [beq_eq_false_iff_ne]; omega
       simp [this])
      clear h23
      go_enter Tryz.func87,Tryz.ntmps87
      go_wp2_with fail
      go_ret
      exact ⟨ret_bool hS.out.symm,exA⟩
     all_goals
      clear h23
      cases o <;> cases e
      all_goals
       go_enter Tryz.func87,Tryz.ntmps87
       go_wp2_with (first
        | (go_at_call 94; refine (isNumbers_any _ _).mono ?_; rw [hbn]; rintro e w' ⟨rfl,rfl⟩))
       all_goals
        go_ret
        exact ⟨ret_bool (by unfold isTypeS; simp [HE.out, *] <;> omega),exA⟩
theorem isType_any (a b:Int) (n:ByteArray) (o e:Bool) (w:World) (g:Laid w) :
  Calls Tryz.prog 87 #[.agg #[.int .i64 a,.int .i64 b,.string n,.bool o,.bool e]] w fun r w'=>r=.returned (.bool (isTypeS ⟨a,b,n,o,e⟩))∧Ext w w' :=
 isType_aux a b n o e w g (emp n) rfl rfl

end Go.Proofs.YtmmnhbhnjiajhaaGreatDoor.c
