/- Functions of stack code as plain data. No condition. Plain arithmetic of numbers of types: ends, wrapping, the operations, bit by bit too. No condition. Texts of lines: plainly, a text tells its lines, and lines tell which functions there are, if heads have a colon and no other line has. No condition. Decimal digits: which bytes they are, and that they tell the number. No condition. Contracts of package num's least, greatest, fits, Fits. Conditions: a type has 1 to 31 bits. The text of a type: which bytes it has, and that it tells the type. No condition. -/
import Derived.Test.YtmmnhbhnjiajhaaGreatDoorCRlex
import Derived.StillTailTactics
import Derived.Deep.RegionHeld3
import Derived.WalkKit
import Derived.Laws.BitsAllLaws
import Derived.Test.YtmmnhbhnjiajhaaGreatDoorCLib
import Derived.Lib.ItoaNum
import Derived.Test.YtmmnhbhnjiajhaaGreatDoorCNum
namespace Go.Proofs.YtmmnhbhnjiajhaaGreatDoor.c
open Go.RowKit
set_option linter.unusedVariables false
set_option maxRecDepth 100000
set_option maxHeartbeats 1600000
set_option linter.unusedSimpArgs false
structure Cd where
 op:Int
 a:Int
 b:Int
 ty:Ty
 name:ByteArray
instance:Inhabited Cd:=⟨⟨0,0,0,default,⟨#[]⟩⟩⟩
structure Fc where
 name:ByteArray
 params:Int
 places:Int
 ty:Ty
 A:Option Addr
 cap:Nat
 code:List Cd
instance:Inhabited Fc:=⟨⟨⟨#[]⟩,0,0,default,none,0,[]⟩⟩
def cdC (x:Cd):Nat → Value
 | 0=>.int .i64 x.op
 | 1=>.int .i64 x.a
 | 2=>.int .i64 x.b
 | 3=>.int .i64 x.ty.base
 | 4=>.int .i64 x.ty.bits
 | 5=>.string x.ty.name
 | 6=>.bool x.ty.opt
 | 7=>.bool x.ty.err
 | _=>.string x.name
def fcC (f:Fc):Nat → Value
 | 0=>.string f.name
 | 1=>.int .i64 f.params
 | 2=>.int .i64 f.places
 | 3=>.int .i64 f.ty.base
 | 4=>.int .i64 f.ty.bits
 | 5=>.string f.ty.name
 | 6=>.bool f.ty.opt
 | 7=>.bool f.ty.err
 | _=>.slice f.A f.code.length f.cap
def CdAt (w:World) (A:Option Addr) (l:List Cd):Prop:=At w A l.length 9 (fun i j=>cdC (l.getD i default) j)
structure FcAt (w:World) (A:Option Addr) (l:List Fc):Prop where
 top:At w A l.length 9 (fun i j=>fcC (l.getD i default) j)
 sub:∀ f,f ∈ l → CdAt w f.A f.code
theorem CdAt.ext {w w':World} {A:Option Addr} {l:List Cd} (h:CdAt w A l) (x:Ext w w'):CdAt w' A l:=At.ext h x
theorem FcAt.ext {w w':World} {A:Option Addr} {l:List Fc} (h:FcAt w A l) (x:Ext w w'):FcAt w' A l:=⟨At.ext h.top x,fun f hf=>(h.sub f hf).ext x⟩
theorem getD_mem {α:Type} [Inhabited α] {l:List α} {k:Nat} (h:k < l.length):l.getD k default ∈ l:=by
 rw [List.getD,List.getElem?_eq_getElem h]
 exact List.getElem_mem h
theorem FcAt.at_ {w:World} {A:Option Addr} {l:List Fc} (h:FcAt w A l) {k:Nat} (hk:k < l.length) {f:Fc} (hf:f=l.getD k default) :
  ∃ b off,A=some ⟨b,off,none⟩∧b < w.heap.size∧w.cell? ⟨b,off + k * 9,none⟩=some (.string f.name)∧w.cell? ⟨b,off + k * 9 + 1,none⟩=some (.int .i64 f.params)∧w.cell? ⟨b,off + k * 9 + 2,none⟩=some (.int .i64 f.places) ∧
   w.cell? ⟨b,off + k * 9 + 3,none⟩=some (.int .i64 f.ty.base)∧w.cell? ⟨b,off + k * 9 + 4,none⟩=some (.int .i64 f.ty.bits)∧w.cell? ⟨b,off + k * 9 + 5,none⟩=some (.string f.ty.name)∧w.cell? ⟨b,off + k * 9 + 6,none⟩=some (.bool f.ty.opt) ∧
   w.cell? ⟨b,off + k * 9 + 7,none⟩=some (.bool f.ty.err)∧w.cell? ⟨b,off + k * 9 + 8,none⟩=some (.slice f.A f.code.length f.cap)∧CdAt w f.A f.code:=by
 subst hf
 obtain ⟨b,off,rfl,hb,h0,h1,h2,h3,h4,h5,h6,h7,h8⟩:=h.top.nine hk
 exact ⟨b,off,rfl,hb,h0,h1,h2,h3,h4,h5,h6,h7,h8,h.sub _ (getD_mem hk)⟩
theorem CdAt.at_ {w:World} {A:Option Addr} {l:List Cd} (h:CdAt w A l) {k:Nat} (hk:k < l.length) {x:Cd} (hx:x=l.getD k default) :
  ∃ b off,A=some ⟨b,off,none⟩∧b < w.heap.size∧w.cell? ⟨b,off + k * 9,none⟩=some (.int .i64 x.op)∧w.cell? ⟨b,off + k * 9 + 1,none⟩=some (.int .i64 x.a)∧w.cell? ⟨b,off + k * 9 + 2,none⟩=some (.int .i64 x.b) ∧
   w.cell? ⟨b,off + k * 9 + 3,none⟩=some (.int .i64 x.ty.base)∧w.cell? ⟨b,off + k * 9 + 4,none⟩=some (.int .i64 x.ty.bits)∧w.cell? ⟨b,off + k * 9 + 5,none⟩=some (.string x.ty.name)∧w.cell? ⟨b,off + k * 9 + 6,none⟩=some (.bool x.ty.opt) ∧
   w.cell? ⟨b,off + k * 9 + 7,none⟩=some (.bool x.ty.err)∧w.cell? ⟨b,off + k * 9 + 8,none⟩=some (.string x.name):=by
 subst hx
 exact At.nine h hk
def Fc.val (f:Fc):Value:=.agg #[.string f.name,.int .i64 f.params,.int .i64 f.places,.int .i64 f.ty.base,.int .i64 f.ty.bits,.string f.ty.name,.bool f.ty.opt,.bool f.ty.err,.slice f.A f.code.length f.cap]
def Cd.val (x:Cd):Value:=.agg #[.int .i64 x.op,.int .i64 x.a,.int .i64 x.b,.int .i64 x.ty.base,.int .i64 x.ty.bits,.string x.ty.name,.bool x.ty.opt,.bool x.ty.err,.string x.name]

def tz (t:Ty):Bool:=t.base == 0 && (t.bits == 0 && (emp t.name && (!t.opt && !t.err)))
def isPlainS (t:Ty):Bool:=isTypeS t && !t.opt && !t.err
theorem run_tz_eql (t:Ty) (w:World):(binOp .eql 32 (.agg #[.int .i64 t.base,.int .i64 t.bits,.string t.name,.bool t.opt,.bool t.err]) (.agg #[.int .i64 0,.int .i64 0,.string ⟨#[]⟩,.bool false,.bool false])).run Tryz.prog w=.ok (.bool (tz t)) w:=by
 obtain ⟨a,b,n,o,e⟩:=t
 go_simp
 unfold tz emp
 by_cases h1:a=0
 ·by_cases h2:b=0
  ·by_cases h3:n.toList=[]
   ·cases o <;> cases e <;> simp [h1,h2,h3]
   ·simp [h1,h2,h3]
  ·simp [h1,h2]
 ·simp [h1]

def spanI (b:Int):Int:=2 ^ b.toNat
def loI (s:Bool) (b:Int):Int:=if s=true then -(spanI b / 2) else 0
def hiI (s:Bool) (b:Int):Int:=if s=true then spanI b / 2 - 1 else spanI b - 1
def fitI (s:Bool) (b n:Int):Bool:=decide (loI s b ≤ n) && decide (n ≤ hiI s b)
theorem span_parts {b:Int} (h1:1 ≤ b) (h2:b ≤ 31):∃ q:Int,spanI b=2 * q∧1 ≤ q∧q ≤ 1073741824∧q=2 ^ (b - 1).toNat:=by
 have e:b.toNat=(b - 1).toNat + 1:=by omega
 refine ⟨2 ^ (b - 1).toNat,?_,?_,?_,rfl⟩
 ·unfold spanI
  rw [e,Int.pow_succ]
  omega
 ·exact Int.pow_pos (by decide)
 ·have h:(b - 1).toNat ≤ 30:=by omega
  have h2:(2:Int) ^ (b - 1).toNat ≤ 2 ^ 30:=by
   have:=Nat.pow_le_pow_right (n:=2) (by decide) h
   exact_mod_cast this
  simpa using h2
/-! ### bit by bit -/
/-! ### the operations -/

theorem least_any (s:Bool) (b:Int) (w:World) (h1:1 ≤ b) (h2:b ≤ 31) :
  Calls Tryz.prog 253 #[.agg #[.bool s,.int .i64 b]] w fun e w'=>e=.returned (.int .i64 (loI s b))∧Ext w w':=by
 obtain ⟨q,e,q1,q2,eq⟩:=span_parts h1 h2
 have hq:(2:Int) ^ (b.toNat - 1)=q:=by rw [show b.toNat - 1=(b - 1).toNat by omega]; exact eq.symm
 have HL:Hid (loI s b=if s=true then -q else 0):=by unfold Hid loI; rw [e]; split <;> omega
 clear e eq
 cases s
 all_goals
  go_enter Tryz.func253,Tryz.ntmps253
  go_wp2_with fail
  go_ret
  exact ⟨ret_int (by rw [HL.out]; simp),exA⟩
theorem greatest_any (s:Bool) (b:Int) (w:World) (h1:1 ≤ b) (h2:b ≤ 31) :
  Calls Tryz.prog 254 #[.agg #[.bool s,.int .i64 b]] w fun e w'=>e=.returned (.int .i64 (hiI s b))∧Ext w w':=by
 obtain ⟨q,e,q1,q2,eq⟩:=span_parts h1 h2
 have hq:(2:Int) ^ (b.toNat - 1)=q:=by rw [show b.toNat - 1=(b - 1).toNat by omega]; exact eq.symm
 have hp:(2:Int) ^ b.toNat=2 * q:=e
 have HL:Hid (hiI s b=if s=true then q - 1 else 2 * q - 1):=by unfold Hid hiI; rw [e]; split <;> omega
 clear e eq
 cases s
 all_goals
  go_enter Tryz.func254,Tryz.ntmps254
  go_wp2_with fail
  go_ret
  exact ⟨ret_int (by rw [HL.out]; simp),exA⟩
theorem fits_any (s:Bool) (b n:Int) (w:World) (h1:1 ≤ b) (h2:b ≤ 31) :
  Calls Tryz.prog 235 #[.agg #[.bool s,.int .i64 b],.int .i64 n] w fun e w'=>e=.returned (.bool (fitI s b n))∧Ext w w':=by
 have HF:=Lib.hid (show fitI s b n=(decide (loI s b ≤ n) && decide (n ≤ hiI s b)) from rfl)
 go_enter Tryz.func235,Tryz.ntmps235
 go_wp2_with (first
  | (go_at_call 253; refine (least_any s b _ h1 h2).mono ?_; rintro r w1 ⟨rfl,x1⟩; have y1:=x1.facts; have z1:=x1.z0)
  | (go_at_call 254; refine (greatest_any s b _ h1 h2).mono ?_; rintro r w2 ⟨rfl,x2⟩; have y2:=x2.facts; have z2:=x2.size))
 all_goals
  go_ret
  exact ⟨ret_bool (by rw [HF.out]; first | (simp [*]; done) | (simp [*]; intros; omega)),exA⟩
theorem vInt_zero {b:Int} (h1:1 ≤ b) (h2:b ≤ 31):vInt b=0:=by unfold vInt; rw [if_neg (by omega)]
theorem nFits_any (s:Bool) (b n:Int) (w:World) (h1:1 ≤ b) (h2:b ≤ 31) :
  Calls Tryz.prog 202 #[.agg #[.bool s,.int .i64 b],.int .i64 n] w fun e w'=>e=.returned (.tuple #[.bool (fitI s b n),.int .i64 0])∧Ext w w':=by
 have HV:=Lib.hid (vInt_zero h1 h2)
 go_enter Tryz.func202,Tryz.ntmps202
 go_wp2_with (first
  | (go_at_call 139; refine (numValidate_any s b _).mono ?_; rw [HV.out]; rintro r w1 ⟨rfl,x1⟩; have y1:=x1.facts; have z1:=x1.z0)
  | (go_at_call 235; refine (fits_any s b n _ h1 h2).mono ?_; rintro r w2 ⟨rfl,x2⟩; have y2:=x2.facts; have z2:=x2.size))
 go_ret2
 exact ⟨rfl,exA⟩
end Go.Proofs.YtmmnhbhnjiajhaaGreatDoor.c
