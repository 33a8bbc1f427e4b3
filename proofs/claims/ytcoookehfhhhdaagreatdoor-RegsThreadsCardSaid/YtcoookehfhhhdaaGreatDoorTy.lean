/- A type by the code and by the reference is one thing: contracts of tree.isType, tree.ValidateType, and of the reference's isType, ValidateType, over one plain function. The table strings.asciiSpace holds what its text lays. Functions of stack code as plain data, and where they lie in memory. No condition. Contracts of the functions of package code that look at an instruction: within, isPlain, isInt, index, shapeOf, isFunc's closure. The table strings.asciiSpace holds what its text lays. Contracts of the reference's functions that look at an instruction: within, isRan, isInt, has, found, isNumber, isCode. Register code as plain data, and what it does, told plainly: a run is a derivation, and there is one at most. No condition. Each run comes to an end, and within the quota; what a run's first step tells. No condition. -/
import Derived.Test.YtcoookehfhhhdaaGreatDoorName
import Derived.StillTailTactics
import Derived.Deep.RegionHeld3
import Derived.Test.YtcoookehfhhhdaaGreatDoorAri
namespace Go.Proofs.YtcoookehfhhhdaaGreatDoor.c
open Go.RowKit
set_option linter.unusedVariables false
set_option maxRecDepth 100000
set_option maxHeartbeats 1600000
set_option linter.unusedSimpArgs false

structure Ty where
 base:Int
 bits:Int
 name:ByteArray
 opt:Bool
 err:Bool
instance:Inhabited Ty:=⟨⟨0,0,⟨#[]⟩,false,false⟩⟩
def emp (s:ByteArray):Bool:=s.toList.isEmpty
def bitsOk (b:Int):Bool:=decide (1 ≤ b) && decide (b ≤ 31)
def isTypeS (t:Ty):Bool :=
 if t.base=2 ∨ t.base=3 then bitsOk t.bits && emp t.name
 else if t.base=5 then t.bits == 0 && isNameS t.name
 else if t.base=0 then t.bits == 0 && emp t.name && !t.opt
 else if t.base=4 then t.bits == 0 && emp t.name && !t.opt && !t.err
 else t.base == 1 && t.bits == 0 && emp t.name

theorem isNumbers_any (b:Int) (w:World) :
  Calls Tryz.prog 176 #[.int .i64 b] w fun e w'=>e=.returned (.bool (b == 2 || b == 3))∧w=w':=by
 go_enter Tryz.func176,Tryz.ntmps176
 go_wp2
 all_goals (go_ret; exact ⟨by simp [*],rfl⟩)
theorem intOf_any (a b:Int) (n:ByteArray) (o e:Bool) (w:World) :
  Calls Tryz.prog 177 #[.agg #[.int .i64 a,.int .i64 b,.string n,.bool o,.bool e]] w fun r w'=>r=.returned (.agg #[.bool (a == 3),.int .i64 b])∧Ext w w':=by
 go_enter Tryz.func177,Tryz.ntmps177
 go_wp2
 exact bodyPost_ret (v:=.agg #[.bool (a == 3),.int .i64 b]) (by simp [results,Tryz.results177,go_sem]) rfl ⟨rfl,exA⟩
theorem vInt_ok (b:Int):(vInt b == 0)=bitsOk b:=by
 unfold vInt bitsOk
 by_cases h:b < 1 ∨ 31 < b
 ·rw [if_pos h,Bool.eq_iff_iff]; simp; omega
 ·rw [if_neg h,Bool.eq_iff_iff]; simp; omega
theorem refWithin_any (a b c:Int) (w:World) :
  Calls Tryz.prog 146 #[.int .i64 a,.int .i64 b,.int .i64 c] w fun e w'=>e=.returned (.bool (decide (b ≤ a) && decide (a ≤ c)))∧w=w':=by
 go_enter Tryz.func146,Tryz.ntmps146
 go_wp2
 all_goals (go_ret; exact ⟨ret_bool (by rw [Bool.eq_iff_iff]; simp; omega),rfl⟩)

theorem isType_aux (a b:Int) (n:ByteArray) (o e:Bool) (w:World) (g:Laid w) (em:Bool) (he:emp n=em) (hne:n.toList.isEmpty=em) :
  Calls Tryz.prog 135 #[.agg #[.int .i64 a,.int .i64 b,.string n,.bool o,.bool e]] w fun r w'=>r=.returned (.bool (isTypeS ⟨a,b,n,o,e⟩))∧Ext w w':=by
 have HE:=Lib.hid he
 clear he
 cases em
 all_goals
    by_cases h23:a=2 ∨ a=3
    ·have hbn:((a == 2) || (a == 3))=true:=by rcases h23 with rfl | rfl <;> rfl
     have hS:=Lib.hid (show isTypeS ⟨a,b,n,o,e⟩=(vInt b == 0 && emp n) by unfold isTypeS; rw [if_pos h23,vInt_ok])
     rcases h23 with rfl | rfl
     all_goals
      cases o <;> cases e
      all_goals
       go_enter Tryz.func135,Tryz.ntmps135
       go_wp2_with (first
        | (go_at_call 176; refine (isNumbers_any _ _).mono ?_; rw [hbn]; rintro e w' ⟨rfl,rfl⟩)
        | (go_at_call 177; refine (intOf_any _ _ _ _ _ _).mono ?_; rintro e w1 ⟨rfl,x1⟩; have y1:=x1.facts; have z1:=x1.z0)
        | (go_at_call 175; refine (numValidate_any _ _ _).mono ?_; rintro e w2 ⟨rfl,x2⟩; have y2:=x2.facts))
       all_goals
        go_ret
        exact ⟨ret_bool (by rw [hS.out]; simp [HE.out, *] <;> omega),exA⟩
    ·have hbn:((a == 2) || (a == 3))=false:=by rw [Bool.eq_false_iff]; intro h; simp at h; exact h23 h
     have hcase:a=5 ∨ a=0 ∨ a=4 ∨ a=1 ∨ a < 0 ∨ 5 < a:=by omega
     rcases hcase with rfl | rfl | rfl | rfl | ha | ha
     case inl =>
      have hS:=Lib.hid (show isTypeS ⟨5,b,n,o,e⟩=(b == 0 && isNameS n) by rfl)
      clear h23
      cases o <;> cases e
      all_goals
       go_enter Tryz.func135,Tryz.ntmps135
       go_wp2_with (first
        | (go_at_call 176; refine (isNumbers_any _ _).mono ?_; rw [hbn]; rintro e w' ⟨rfl,rfl⟩)
        | (go_at_call 95; refine (isName_any _ _ (g.ext exA)).mono ?_; rintro e w1 ⟨rfl,x1⟩; have y1:=x1.facts; have z1:=x1.z0))
       all_goals
        go_ret
        exact ⟨ret_bool (by rw [hS.out]; simp [*]),exA⟩
     case inr.inr.inr.inr.inl =>
      have hS:=Lib.hid (show isTypeS ⟨a,b,n,o,e⟩=false by
       unfold isTypeS; rw [if_neg h23,if_neg (show ¬ a=5 by omega),if_neg (show ¬ a=0 by omega),if_neg (show ¬ a=4 by omega)]
       have:(a == 1)=false:=by rw [beq_eq_false_iff_ne]; omega
       simp [this])
      clear h23
      go_enter Tryz.func135,Tryz.ntmps135
      go_wp2_with fail
      go_ret
      exact ⟨ret_bool hS.out.symm,exA⟩
     case inr.inr.inr.inr.inr =>
      have hS:=Lib.hid (show isTypeS ⟨a,b,n,o,e⟩=false by
       unfold isTypeS; rw [if_neg h23,if_neg (show ¬ a=5 by omega),if_neg (show ¬ a=0 by omega),if_neg (show ¬ a=4 by omega)]
       have:(a == 1)=false:=by rw [beq_eq_false_iff_ne]; omega
       simp [this])
      clear h23
      go_enter Tryz.func135,Tryz.ntmps135
      go_wp2_with fail
      go_ret
      exact ⟨ret_bool hS.out.symm,exA⟩
     all_goals
      clear h23
      cases o <;> cases e
      all_goals
       go_enter Tryz.func135,Tryz.ntmps135
       go_wp2_with (first
        | (go_at_call 176; refine (isNumbers_any _ _).mono ?_; rw [hbn]; rintro e w' ⟨rfl,rfl⟩))
       all_goals
        go_ret
        exact ⟨ret_bool (by unfold isTypeS; simp [HE.out, *] <;> omega),exA⟩
theorem isType_any (a b:Int) (n:ByteArray) (o e:Bool) (w:World) (g:Laid w) :
  Calls Tryz.prog 135 #[.agg #[.int .i64 a,.int .i64 b,.string n,.bool o,.bool e]] w fun r w'=>r=.returned (.bool (isTypeS ⟨a,b,n,o,e⟩))∧Ext w w' :=
 isType_aux a b n o e w g (emp n) rfl rfl

theorem validateType_any (a b:Int) (n:ByteArray) (o e:Bool) (w:World) (g:Laid w) :
  Calls Tryz.prog 96 #[.agg #[.int .i64 a,.int .i64 b,.string n,.bool o,.bool e]] w fun r w'=>r=.returned (.int .i64 (if isTypeS ⟨a,b,n,o,e⟩ then 0 else 1))∧Ext w w':=by
 cases h:isTypeS ⟨a,b,n,o,e⟩
 all_goals
  go_enter Tryz.func96,Tryz.ntmps96
  go_wp2_with (first
   | (go_at_call 135; refine (isType_any _ _ _ _ _ _ (g.ext exA)).mono ?_; rw [h]; rintro e w1 ⟨rfl,x1⟩))
  go_ret
  exact ⟨rfl,exA⟩

theorem refIsType_aux (a b:Int) (n:ByteArray) (o e:Bool) (w:World) (em:Bool) (he:emp n=em) (hne:n.toList.isEmpty=em) :
  Calls Tryz.prog 112 #[.agg #[.int .i64 a,.int .i64 b,.string n,.bool o,.bool e]] w fun r w'=>r=.returned (.bool (isTypeS ⟨a,b,n,o,e⟩))∧Ext w w':=by
 have HE:=Lib.hid he
 clear he
 cases em
 all_goals
    by_cases h2:a=2
    ·subst h2
     go_enter Tryz.func112,Tryz.ntmps112
     go_wp2_with (first
      | (go_at_call 146; refine (refWithin_any _ _ _ _).mono ?_; rintro e w' ⟨rfl,rfl⟩))
     all_goals
      go_ret
      exact ⟨ret_bool (by unfold isTypeS bitsOk; simp [HE.out, *] <;> omega),exA⟩
    ·by_cases h3:a=3
     ·subst h3
      clear h2
      go_enter Tryz.func112,Tryz.ntmps112
      go_wp2_with (first
       | (go_at_call 146; refine (refWithin_any _ _ _ _).mono ?_; rintro e w' ⟨rfl,rfl⟩))
      all_goals
       go_ret
       exact ⟨ret_bool (by unfold isTypeS bitsOk; simp [HE.out, *] <;> omega),exA⟩
     ·by_cases h5:a=5
      ·subst h5
       clear h2 h3
       go_enter Tryz.func112,Tryz.ntmps112
       go_wp2_with (first
        | (go_at_call 33; refine (refIsName_any _ _).mono ?_; rintro e w1 ⟨rfl,x1⟩))
       all_goals
        go_ret
        exact ⟨ret_bool (by unfold isTypeS; simp [*]),exA⟩
      ·by_cases h0:a=0
       ·subst h0
        clear h2 h3 h5
        cases o
        all_goals
         go_enter Tryz.func112,Tryz.ntmps112
         go_wp2_with fail
         all_goals
          go_ret
          exact ⟨ret_bool (by unfold isTypeS; simp [HE.out, *] <;> omega),exA⟩
       ·by_cases h4:a=4
        ·subst h4
         clear h2 h3 h5 h0
         cases o <;> cases e
         all_goals
          go_enter Tryz.func112,Tryz.ntmps112
          go_wp2_with fail
          all_goals
           go_ret
           exact ⟨ret_bool (by unfold isTypeS; simp [HE.out, *] <;> omega),exA⟩
        ·go_enter Tryz.func112,Tryz.ntmps112
         go_wp2_with fail
         all_goals
          go_ret
          exact ⟨ret_bool (by unfold isTypeS; simp [HE.out, *] <;> omega),exA⟩
theorem refIsType_any (a b:Int) (n:ByteArray) (o e:Bool) (w:World) :
  Calls Tryz.prog 112 #[.agg #[.int .i64 a,.int .i64 b,.string n,.bool o,.bool e]] w fun r w'=>r=.returned (.bool (isTypeS ⟨a,b,n,o,e⟩))∧Ext w w' :=
 refIsType_aux a b n o e w (emp n) rfl rfl

theorem refValidateType_any (a b:Int) (n:ByteArray) (o e:Bool) (w:World) :
  Calls Tryz.prog 66 #[.agg #[.int .i64 a,.int .i64 b,.string n,.bool o,.bool e]] w fun r w'=>r=.returned (.int .i64 (if isTypeS ⟨a,b,n,o,e⟩ then 0 else 1))∧Ext w w':=by
 cases h:isTypeS ⟨a,b,n,o,e⟩
 all_goals
  go_enter Tryz.func66,Tryz.ntmps66
  go_wp2_with (first
   | (go_at_call 112; refine (refIsType_any _ _ _ _ _ _).mono ?_; rw [h]; rintro e w1 ⟨rfl,x1⟩))
  go_ret
  exact ⟨rfl,exA⟩

structure Cd where
 op:Int
 a:Int
 b:Int
 ty:Ty
 name:ByteArray
instance:Inhabited Cd:=⟨⟨0,0,0,default,⟨#[]⟩⟩⟩
structure Fc where
 name:ByteArray
 params:Int
 places:Int
 ty:Ty
 A:Option Addr
 cap:Nat
 code:List Cd
instance:Inhabited Fc:=⟨⟨⟨#[]⟩,0,0,default,none,0,[]⟩⟩
def cdC (x:Cd):Nat → Value
 | 0=>.int .i64 x.op
 | 1=>.int .i64 x.a
 | 2=>.int .i64 x.b
 | 3=>.int .i64 x.ty.base
 | 4=>.int .i64 x.ty.bits
 | 5=>.string x.ty.name
 | 6=>.bool x.ty.opt
 | 7=>.bool x.ty.err
 | _=>.string x.name
def fcC (f:Fc):Nat → Value
 | 0=>.string f.name
 | 1=>.int .i64 f.params
 | 2=>.int .i64 f.places
 | 3=>.int .i64 f.ty.base
 | 4=>.int .i64 f.ty.bits
 | 5=>.string f.ty.name
 | 6=>.bool f.ty.opt
 | 7=>.bool f.ty.err
 | _=>.slice f.A f.code.length f.cap
def CdAt (w:World) (A:Option Addr) (l:List Cd):Prop:=At w A l.length 9 (fun i j=>cdC (l.getD i default) j)
structure FcAt (w:World) (A:Option Addr) (l:List Fc):Prop where
 top:At w A l.length 9 (fun i j=>fcC (l.getD i default) j)
 sub:∀ f,f ∈ l → CdAt w f.A f.code
theorem CdAt.ext {w w':World} {A:Option Addr} {l:List Cd} (h:CdAt w A l) (x:Ext w w'):CdAt w' A l:=At.ext h x
theorem FcAt.ext {w w':World} {A:Option Addr} {l:List Fc} (h:FcAt w A l) (x:Ext w w'):FcAt w' A l:=⟨At.ext h.top x,fun f hf=>(h.sub f hf).ext x⟩
theorem getD_mem {α:Type} [Inhabited α] {l:List α} {k:Nat} (h:k < l.length):l.getD k default ∈ l:=by
 rw [List.getD,List.getElem?_eq_getElem h]
 exact List.getElem_mem h
theorem FcAt.at_ {w:World} {A:Option Addr} {l:List Fc} (h:FcAt w A l) {k:Nat} (hk:k < l.length) {f:Fc} (hf:f=l.getD k default) :
  ∃ b off,A=some ⟨b,off,none⟩∧b < w.heap.size∧w.cell? ⟨b,off + k * 9,none⟩=some (.string f.name)∧w.cell? ⟨b,off + k * 9 + 1,none⟩=some (.int .i64 f.params)∧w.cell? ⟨b,off + k * 9 + 2,none⟩=some (.int .i64 f.places) ∧
   w.cell? ⟨b,off + k * 9 + 3,none⟩=some (.int .i64 f.ty.base)∧w.cell? ⟨b,off + k * 9 + 4,none⟩=some (.int .i64 f.ty.bits)∧w.cell? ⟨b,off + k * 9 + 5,none⟩=some (.string f.ty.name)∧w.cell? ⟨b,off + k * 9 + 6,none⟩=some (.bool f.ty.opt) ∧
   w.cell? ⟨b,off + k * 9 + 7,none⟩=some (.bool f.ty.err)∧w.cell? ⟨b,off + k * 9 + 8,none⟩=some (.slice f.A f.code.length f.cap)∧CdAt w f.A f.code:=by
 subst hf
 obtain ⟨b,off,rfl,hb,h0,h1,h2,h3,h4,h5,h6,h7,h8⟩:=h.top.nine hk
 exact ⟨b,off,rfl,hb,h0,h1,h2,h3,h4,h5,h6,h7,h8,h.sub _ (getD_mem hk)⟩
theorem CdAt.at_ {w:World} {A:Option Addr} {l:List Cd} (h:CdAt w A l) {k:Nat} (hk:k < l.length) {x:Cd} (hx:x=l.getD k default) :
  ∃ b off,A=some ⟨b,off,none⟩∧b < w.heap.size∧w.cell? ⟨b,off + k * 9,none⟩=some (.int .i64 x.op)∧w.cell? ⟨b,off + k * 9 + 1,none⟩=some (.int .i64 x.a)∧w.cell? ⟨b,off + k * 9 + 2,none⟩=some (.int .i64 x.b) ∧
   w.cell? ⟨b,off + k * 9 + 3,none⟩=some (.int .i64 x.ty.base)∧w.cell? ⟨b,off + k * 9 + 4,none⟩=some (.int .i64 x.ty.bits)∧w.cell? ⟨b,off + k * 9 + 5,none⟩=some (.string x.ty.name)∧w.cell? ⟨b,off + k * 9 + 6,none⟩=some (.bool x.ty.opt) ∧
   w.cell? ⟨b,off + k * 9 + 7,none⟩=some (.bool x.ty.err)∧w.cell? ⟨b,off + k * 9 + 8,none⟩=some (.string x.name):=by
 subst hx
 exact At.nine h hk
def Fc.val (f:Fc):Value:=.agg #[.string f.name,.int .i64 f.params,.int .i64 f.places,.int .i64 f.ty.base,.int .i64 f.ty.bits,.string f.ty.name,.bool f.ty.opt,.bool f.ty.err,.slice f.A f.code.length f.cap]
def Cd.val (x:Cd):Value:=.agg #[.int .i64 x.op,.int .i64 x.a,.int .i64 x.b,.int .i64 x.ty.base,.int .i64 x.ty.bits,.string x.ty.name,.bool x.ty.opt,.bool x.ty.err,.string x.name]

def inB (a lo hi:Int):Bool:=decide (lo ≤ a) && decide (a ≤ hi)
def tz (t:Ty):Bool:=t.base == 0 && (t.bits == 0 && (emp t.name && (!t.opt && !t.err)))
def isPlainS (t:Ty):Bool:=isTypeS t && !t.opt && !t.err
def isIntS (t:Ty):Bool:=isPlainS t && (t.base == 2 || t.base == 3)
def pushS (t:Ty):Bool:=isIntS t || (isPlainS t && decide (t.base ≤ 1))
theorem run_tz_eql (t:Ty) (w:World):(binOp .eql 42 (.agg #[.int .i64 t.base,.int .i64 t.bits,.string t.name,.bool t.opt,.bool t.err]) (.agg #[.int .i64 0,.int .i64 0,.string ⟨#[]⟩,.bool false,.bool false])).run Tryz.prog w=.ok (.bool (tz t)) w:=by
 obtain ⟨a,b,n,o,e⟩:=t
 go_simp
 unfold tz emp
 by_cases h1:a=0
 ·by_cases h2:b=0
  ·by_cases h3:n.toList=[]
   ·cases o <;> cases e <;> simp [h1,h2,h3]
   ·simp [h1,h2,h3]
  ·simp [h1,h2]
 ·simp [h1]
def isRanS (t:Ty):Bool:=isTypeS t && decide (t.base ≤ 3)
theorem isInt_ran (t:Ty):isIntS t=(isRanS t && ((t.base == 2 || t.base == 3) && (!t.opt && !t.err))):=by
 unfold isIntS isPlainS isRanS
 cases isTypeS t
 ·rfl
 ·by_cases h2:t.base=2
  ·cases t.opt <;> cases t.err <;> simp [h2]
  ·by_cases h3:t.base=3
   ·cases t.opt <;> cases t.err <;> simp [h3]
   ·cases t.opt <;> cases t.err <;> simp [h2,h3]
theorem isType_base {t:Ty} (h:isTypeS t=true):0 ≤ t.base:=by
 unfold isTypeS at h
 split at h
 ·omega
 ·split at h
  ·omega
  ·split at h
   ·omega
   ·split at h
    ·omega
    ·simp at h; omega
theorem push_ran (t:Ty):pushS t=(isRanS t && (!t.opt && !t.err)):=by
 unfold pushS isIntS isPlainS isRanS
 cases h:isTypeS t
 ·rfl
 ·have:=isType_base h
  by_cases h3:t.base ≤ 3
  ·by_cases h1:t.base ≤ 1
   ·cases t.opt <;> cases t.err <;> simp [h1,h3]
   ·have:t.base=2 ∨ t.base=3:=by omega
    cases t.opt <;> cases t.err <;> simp [h1,h3,this]
  ·have h1:¬ t.base ≤ 1:=by omega
   have h2:¬ t.base=2:=by omega
   have h4:¬ t.base=3:=by omega
   simp [h1,h2,h3,h4]

structure Rg where
 op:Int
 d:Int
 a:Int
 b:Int
 ty:Ty
 name:ByteArray
 A:Option Addr
 cap:Nat
 args:List Int
instance:Inhabited Rg:=⟨⟨0,0,0,0,default,⟨#[]⟩,none,0,[]⟩⟩
structure Rf where
 name:ByteArray
 params:Int
 regs:Int
 ty:Ty
 A:Option Addr
 cap:Nat
 code:List Rg
instance:Inhabited Rf:=⟨⟨⟨#[]⟩,0,0,default,none,0,[]⟩⟩
structure Val where
 ty:Ty
 n:Int
 null:Bool
 err:ByteArray
 of:Ty
instance:Inhabited Val:=⟨⟨default,0,false,⟨#[]⟩,default⟩⟩
def pv (n:Int) (null:Bool) (err:ByteArray):Val:=⟨default,n,null,err,default⟩
def nv (n:Int):Val:=pv n false ⟨#[]⟩
def wrapT (t:Ty) (n:Int):Int:=if t.base ≤ 1 then (if t.base=1∧n ≠ 0 then 1 else 0) else bendI (t.base == 3) t.bits n
def cmpB (op a c:Int):Bool :=
 if op=18 then a == c else if op=19 then a != c else if op=20 then decide (a < c) else if op=21 then decide (a ≤ c) else if op=22 then decide (c < a) else decide (c ≤ a)
def b01 (b:Bool):Int:=if b=true then 1 else 0
def numF (ck:Bool) (x:Rg) (v u:Val):Int × Int :=
 if x.op=6 then (b01 (v.n == 0),0)
 else if x.op=9 then (if (ck && v.null)=true then (0,4) else (v.n,0))
 else if x.op=5 then (if fitI (x.ty.base == 3) x.ty.bits (-wrapT x.ty v.n)=true then (-wrapT x.ty v.n,0) else if ck=true then (0,1) else (wrapT x.ty (-wrapT x.ty v.n),0))
 else if x.op=7 then (if (ck && !fitI (x.ty.base == 3) x.ty.bits v.n)=true then (0,3) else (wrapT x.ty v.n,0))
 else if x.op=8 then (wrapT x.ty v.n,0)
 else if 118 ≤ x.op then (b01 (cmpB (x.op - 100) v.n u.n),0)
 else if (ck && whyI (x.op - 100) (x.ty.base == 3) x.ty.bits (wrapT x.ty v.n) (wrapT x.ty u.n) != 0)=true then (0,whyI (x.op - 100) (x.ty.base == 3) x.ty.bits (wrapT x.ty v.n) (wrapT x.ty u.n))
 else (looseI (x.op - 100) (x.ty.base == 3) x.ty.bits (wrapT x.ty v.n) (wrapT x.ty u.n),0)
inductive En where
 | ret (v:Val)
 | stop (why:Int)
 | long
def upd (f:Nat → Val) (i:Nat) (v:Val):Nat → Val:=fun j=>if j=i then v else f j
inductive Nx where
 | done (e:En)
 | go (p:Nat) (R S:Nat → Val)
 | call (nm:ByteArray) (av:List Val) (r:Nat)
def stepF (ck:Bool) (x:Rg) (p:Nat) (R S:Nat → Val):Nx :=
 if x.op=0 then .go (p + 1) (upd R x.d.toNat (nv (wrapT x.ty x.a))) S
 else if x.op=1 then .go (p + 1) (upd R x.d.toNat (pv 0 true ⟨#[]⟩)) S
 else if x.op=2 then .go (p + 1) (upd R x.d.toNat (R x.a.toNat)) S
 else if x.op=3 then .go (p + 1) (upd R x.d.toNat (S x.a.toNat)) S
 else if x.op=4 then .go (p + 1) R (upd S x.a.toNat (R x.b.toNat))
 else if x.op=10 then .go (bif (R x.a.toNat).null then x.d.toNat else p + 1) R S
 else if x.op=11 then .go (bif !emp (R x.a.toNat).err then x.d.toNat else p + 1) R S
 else if x.op=12 then .go x.d.toNat R S
 else if x.op=13 then .go (bif (R x.a.toNat).n == 0 then x.d.toNat else p + 1) R S
 else if x.op=14 then .call x.name (x.args.map fun i=>S i.toNat) x.d.toNat
 else if x.op=15 then .done (.ret (R x.a.toNat))
 else if x.op=16 then .go (p + 1) (upd R x.d.toNat (pv 0 false x.name)) S
 else if x.op=17 then .done (bif ck then .stop x.a else .ret default)
 else bif (numF ck x (R x.a.toNat) (R x.b.toNat)).2 != 0 then .done (.stop (numF ck x (R x.a.toNat) (R x.b.toNat)).2)
  else .go (p + 1) (upd R x.d.toNat (nv (numF ck x (R x.a.toNat) (R x.b.toNat)).1)) S
def indexR (l:List Rf) (n:ByteArray):Int:=findI (fun k=>(l.getD k default).name.toList == n.toList) l.length
inductive Cfg where
 | call (d k:Nat) (av:List Val)
 | at_ (d k p:Nat) (R S:Nat → Val)
inductive Run (l:List Rf) (ck:Bool):Cfg → Nat → En → Nat → Prop where
 | deep {d k av s}:30 < d → Run l ck (.call d k av) s .long s
 | enter {d k av s e t}:d ≤ 30 → Run l ck (.at_ d k 0 (fun _=>default) (fun i=>av.getD i default)) s e t → Run l ck (.call d k av) s e t
 | full {d k p R S s}:40000 ≤ s → Run l ck (.at_ d k p R S) s .long s
 | done {d k p R S s e}:s < 40000 → stepF ck ((l.getD k default).code.getD p default) p R S=.done e → Run l ck (.at_ d k p R S) s e (s + 1)
 | go {d k p R S s e t p' R' S'}:s < 40000 → stepF ck ((l.getD k default).code.getD p default) p R S=.go p' R' S' → Run l ck (.at_ d k p' R' S') (s + 1) e t → Run l ck (.at_ d k p R S) s e t
 | callX {d k p R S s e t nm av r}:s < 40000 → stepF ck ((l.getD k default).code.getD p default) p R S=.call nm av r → Run l ck (.call (d + 1) (indexR l nm).toNat av) (s + 1) e t → (∀ v,e ≠ .ret v) → Run l ck (.at_ d k p R S) s e t
 | callR {d k p R S s v t e u nm av r}:s < 40000 → stepF ck ((l.getD k default).code.getD p default) p R S=.call nm av r → Run l ck (.call (d + 1) (indexR l nm).toNat av) (s + 1) (.ret v) t → Run l ck (.at_ d k (p + 1) (upd R r v) S) t e u → Run l ck (.at_ d k p R S) s e u
theorem Run.mono {l:List Rf} {ck:Bool} {c:Cfg} {s:Nat} {e:En} {t:Nat} (h:Run l ck c s e t):s ≤ t:=by
 induction h with
 | deep _=>exact Nat.le_refl _
 | enter _ _ ih=>exact ih
 | full _=>exact Nat.le_refl _
 | done _ _=>omega
 | go _ _ _ ih=>omega
 | callX _ _ _ _ ih=>omega
 | callR _ _ _ _ ih1 ih2=>omega
theorem Run.det {l:List Rf} {ck:Bool} {c:Cfg} {s:Nat} {e:En} {t:Nat} (h:Run l ck c s e t):∀ {e2:En} {t2:Nat},Run l ck c s e2 t2 → e=e2∧t=t2:=by
 induction h with
 | deep h1=>intro e2 t2 h; cases h with
  | deep _=>exact ⟨rfl,rfl⟩
  | enter h2 _=>omega
 | enter h1 _ ih=>intro e2 t2 h; cases h with
  | deep _=>omega
  | enter _ h2=>exact ih h2
 | full h1=>intro e2 t2 h; cases h with
  | full _=>exact ⟨rfl,rfl⟩
  | done h2=>omega
  | go h2=>omega
  | callX h2=>omega
  | callR h2=>omega
 | done h1 h2=>intro e2 t2 h; cases h with
  | full _=>omega
  | done _ h3=>rw [h2] at h3; cases h3; exact ⟨rfl,rfl⟩
  | go _ h3=>rw [h2] at h3; cases h3
  | callX _ h3=>rw [h2] at h3; cases h3
  | callR _ h3=>rw [h2] at h3; cases h3
 | go h1 h2 _ ih=>intro e2 t2 h; cases h with
  | full _=>omega
  | done _ h3=>rw [h2] at h3; cases h3
  | go _ h3 h4=>rw [h2] at h3; cases h3; exact ih h4
  | callX _ h3=>rw [h2] at h3; cases h3
  | callR _ h3=>rw [h2] at h3; cases h3
 | callX h1 h2 _ h5 ih=>intro e2 t2 h; cases h with
  | full _=>omega
  | done _ h3=>rw [h2] at h3; cases h3
  | go _ h3=>rw [h2] at h3; cases h3
  | callX _ h3 h4 _=>rw [h2] at h3; cases h3; exact ih h4
  | callR _ h3 h4 _=>rw [h2] at h3; cases h3; exact absurd (ih h4).1 (h5 _)
 | callR h1 h2 _ _ ih1 ih2=>intro e2 t2 h; cases h with
  | full _=>omega
  | done _ h3=>rw [h2] at h3; cases h3
  | go _ h3=>rw [h2] at h3; cases h3
  | callX _ h3 h4 h5=>rw [h2] at h3; cases h3; exact absurd (ih1 h4).1.symm (h5 _)
  | callR _ h3 h4 h5 =>
   rw [h2] at h3
   cases h3
   obtain ⟨e1,rfl⟩:=ih1 h4
   cases e1
   exact ih2 h5
theorem Run.quota {l:List Rf} {ck:Bool} {c:Cfg} {s:Nat} {e:En} {t:Nat} (h:Run l ck c s e t):s ≤ 40000 → t ≤ 40000:=by
 induction h with
 | deep _=>exact fun h=>h
 | enter _ _ ih=>exact ih
 | full _=>exact fun h=>h
 | done h _=>intro _; omega
 | go h _ _ ih=>intro _; exact ih (by omega)
 | callX h _ _ _ ih=>intro _; exact ih (by omega)
 | callR h _ _ _ ih1 ih2=>intro _; exact ih2 (ih1 (by omega))
theorem Run.total_at {l:List Rf} {ck:Bool} {d:Nat} (hc:∀ k av s,∃ e t,Run l ck (.call (d + 1) k av) s e t):∀ (q s k p:Nat) (R S:Nat → Val),40000 ≤ s + q → ∃ e t,Run l ck (.at_ d k p R S) s e t:=by
 intro q
 induction q with
 | zero=>intro s k p R S h; exact ⟨_,_,.full (by omega)⟩
 | succ q ih =>
  intro s k p R S h
  rcases Nat.lt_or_ge s 40000 with hs | hs
  ·cases hst:stepF ck ((l.getD k default).code.getD p default) p R S with
   | done e=>exact ⟨_,_,.done hs hst⟩
   | go p' R' S' =>
    obtain ⟨e,t,hr⟩:=ih (s + 1) k p' R' S' (by omega)
    exact ⟨_,_,.go hs hst hr⟩
   | call nm av r =>
    obtain ⟨e,t,hr⟩:=hc (indexR l nm).toNat av (s + 1)
    cases e with
    | ret v =>
     have:=hr.mono
     obtain ⟨e2,t2,hr2⟩:=ih t k (p + 1) (upd R r v) S (by omega)
     exact ⟨_,_,.callR hs hst hr hr2⟩
    | stop y=>exact ⟨_,_,.callX hs hst hr (fun v=>by intro e; cases e)⟩
    | long=>exact ⟨_,_,.callX hs hst hr (fun v=>by intro e; cases e)⟩
  ·exact ⟨_,_,.full hs⟩
theorem Run.total_n {l:List Rf} {ck:Bool}:∀ (n d:Nat),31 ≤ d + n → ∀ k av s,∃ e t,Run l ck (.call d k av) s e t:=by
 intro n
 induction n with
 | zero=>intro d h k av s; exact ⟨_,_,.deep (by omega)⟩
 | succ n ih =>
  intro d h k av s
  rcases Nat.lt_or_ge 30 d with hd | hd
  ·exact ⟨_,_,.deep hd⟩
  ·obtain ⟨e,t,hr⟩:=Run.total_at (ih (d + 1) (by omega)) 40000 s k 0 (fun _=>default) (fun i=>av.getD i default) (by omega)
   exact ⟨_,_,.enter hd hr⟩
theorem Run.total (l:List Rf) (ck:Bool) (d k:Nat) (av:List Val) (s:Nat):∃ e t,Run l ck (.call d k av) s e t:=Run.total_n 31 d (by omega) k av s
section
variable {l:List Rf} {ck:Bool} {d k p:Nat} {R S:Nat → Val} {s:Nat} {e:En} {t:Nat} {av:List Val}
theorem Run.inv_deep (h:Run l ck (.call d k av) s e t) (hd:30 < d):e=.long∧t=s:=h.det (.deep hd)
theorem Run.inv_enter (h:Run l ck (.call d k av) s e t) (hd:d ≤ 30):Run l ck (.at_ d k 0 (fun _=>default) (fun i=>av.getD i default)) s e t:=by
 cases h with
 | deep _=>omega
 | enter _ h=>exact h
theorem Run.inv_full (h:Run l ck (.at_ d k p R S) s e t) (hs:40000 ≤ s):e=.long∧t=s:=h.det (.full hs)
theorem Run.inv_done {e':En} (h:Run l ck (.at_ d k p R S) s e t) (hs:s < 40000) (hst:stepF ck ((l.getD k default).code.getD p default) p R S=.done e'):e=e'∧t=s + 1:=h.det (.done hs hst)
theorem Run.inv_go {p':Nat} {R' S':Nat → Val} (h:Run l ck (.at_ d k p R S) s e t) (hs:s < 40000) (hst:stepF ck ((l.getD k default).code.getD p default) p R S=.go p' R' S'):Run l ck (.at_ d k p' R' S') (s + 1) e t:=by
 cases h with
 | full _=>omega
 | done _ h2=>rw [hst] at h2; cases h2
 | go _ h2 h3=>rw [hst] at h2; cases h2; exact h3
 | callX _ h2=>rw [hst] at h2; cases h2
 | callR _ h2=>rw [hst] at h2; cases h2
theorem Run.inv_call {nm:ByteArray} {av:List Val} {r:Nat} (h:Run l ck (.at_ d k p R S) s e t) (hs:s < 40000) (hst:stepF ck ((l.getD k default).code.getD p default) p R S=.call nm av r) :
  ∃ e1 t1,Run l ck (.call (d + 1) (indexR l nm).toNat av) (s + 1) e1 t1∧(((∀ v,e1 ≠ .ret v)∧e=e1∧t=t1) ∨ ∃ v,e1=.ret v∧Run l ck (.at_ d k (p + 1) (upd R r v) S) t1 e t):=by
 cases h with
 | full _=>omega
 | done _ h2=>rw [hst] at h2; cases h2
 | go _ h2 h3=>rw [hst] at h2; cases h2
 | callX _ h2 h3 h4=>rw [hst] at h2; cases h2; exact ⟨_,_,h3,.inl ⟨h4,rfl,rfl⟩⟩
 | callR _ h2 h3 h4=>rw [hst] at h2; cases h2; exact ⟨_,_,h3,.inr ⟨_,rfl,h4⟩⟩
end
end Go.Proofs.YtcoookehfhhhdaaGreatDoor.c
