/- Functions of stack code as plain data. No condition. -/
import Derived.Test.YtmmnhbhnjiajhaaGreatDoorBTy
import Derived.StillTailTactics
import Derived.Deep.RegionHeld3
namespace Go.Proofs.YtmmnhbhnjiajhaaGreatDoor.c
open Go.RowKit
set_option linter.unusedVariables false
set_option linter.unusedSimpArgs false
structure Cd where
 op:Int
 a:Int
 b:Int
 ty:Ty
 name:ByteArray
instance:Inhabited Cd:=⟨⟨0,0,0,default,⟨#[]⟩⟩⟩
structure Fc where
 name:ByteArray
 params:Int
 places:Int
 ty:Ty
 A:Option Addr
 cap:Nat
 code:List Cd
instance:Inhabited Fc:=⟨⟨⟨#[]⟩,0,0,default,none,0,[]⟩⟩
def cdC (x:Cd):Nat → Value
 | 0=>.int .i64 x.op
 | 1=>.int .i64 x.a
 | 2=>.int .i64 x.b
 | 3=>.int .i64 x.ty.base
 | 4=>.int .i64 x.ty.bits
 | 5=>.string x.ty.name
 | 6=>.bool x.ty.opt
 | 7=>.bool x.ty.err
 | _=>.string x.name
def fcC (f:Fc):Nat → Value
 | 0=>.string f.name
 | 1=>.int .i64 f.params
 | 2=>.int .i64 f.places
 | 3=>.int .i64 f.ty.base
 | 4=>.int .i64 f.ty.bits
 | 5=>.string f.ty.name
 | 6=>.bool f.ty.opt
 | 7=>.bool f.ty.err
 | _=>.slice f.A f.code.length f.cap
def CdAt (w:World) (A:Option Addr) (l:List Cd):Prop:=At w A l.length 9 (fun i j=>cdC (l.getD i default) j)
structure FcAt (w:World) (A:Option Addr) (l:List Fc):Prop where
 top:At w A l.length 9 (fun i j=>fcC (l.getD i default) j)
 sub:∀ f,f ∈ l → CdAt w f.A f.code
theorem CdAt.ext {w w':World} {A:Option Addr} {l:List Cd} (h:CdAt w A l) (x:Ext w w'):CdAt w' A l:=At.ext h x
theorem FcAt.ext {w w':World} {A:Option Addr} {l:List Fc} (h:FcAt w A l) (x:Ext w w'):FcAt w' A l:=⟨At.ext h.top x,fun f hf=>(h.sub f hf).ext x⟩
theorem getD_mem {α:Type} [Inhabited α] {l:List α} {k:Nat} (h:k < l.length):l.getD k default ∈ l:=by
 rw [List.getD,List.getElem?_eq_getElem h]
 exact List.getElem_mem h
theorem FcAt.at_ {w:World} {A:Option Addr} {l:List Fc} (h:FcAt w A l) {k:Nat} (hk:k < l.length) {f:Fc} (hf:f=l.getD k default) :
  ∃ b off,A=some ⟨b,off,none⟩∧b < w.heap.size∧w.cell? ⟨b,off + k * 9,none⟩=some (.string f.name)∧w.cell? ⟨b,off + k * 9 + 1,none⟩=some (.int .i64 f.params)∧w.cell? ⟨b,off + k * 9 + 2,none⟩=some (.int .i64 f.places) ∧
   w.cell? ⟨b,off + k * 9 + 3,none⟩=some (.int .i64 f.ty.base)∧w.cell? ⟨b,off + k * 9 + 4,none⟩=some (.int .i64 f.ty.bits)∧w.cell? ⟨b,off + k * 9 + 5,none⟩=some (.string f.ty.name)∧w.cell? ⟨b,off + k * 9 + 6,none⟩=some (.bool f.ty.opt) ∧
   w.cell? ⟨b,off + k * 9 + 7,none⟩=some (.bool f.ty.err)∧w.cell? ⟨b,off + k * 9 + 8,none⟩=some (.slice f.A f.code.length f.cap)∧CdAt w f.A f.code:=by
 subst hf
 obtain ⟨b,off,rfl,hb,h0,h1,h2,h3,h4,h5,h6,h7,h8⟩:=h.top.nine hk
 exact ⟨b,off,rfl,hb,h0,h1,h2,h3,h4,h5,h6,h7,h8,h.sub _ (getD_mem hk)⟩
theorem CdAt.at_ {w:World} {A:Option Addr} {l:List Cd} (h:CdAt w A l) {k:Nat} (hk:k < l.length) {x:Cd} (hx:x=l.getD k default) :
  ∃ b off,A=some ⟨b,off,none⟩∧b < w.heap.size∧w.cell? ⟨b,off + k * 9,none⟩=some (.int .i64 x.op)∧w.cell? ⟨b,off + k * 9 + 1,none⟩=some (.int .i64 x.a)∧w.cell? ⟨b,off + k * 9 + 2,none⟩=some (.int .i64 x.b) ∧
   w.cell? ⟨b,off + k * 9 + 3,none⟩=some (.int .i64 x.ty.base)∧w.cell? ⟨b,off + k * 9 + 4,none⟩=some (.int .i64 x.ty.bits)∧w.cell? ⟨b,off + k * 9 + 5,none⟩=some (.string x.ty.name)∧w.cell? ⟨b,off + k * 9 + 6,none⟩=some (.bool x.ty.opt) ∧
   w.cell? ⟨b,off + k * 9 + 7,none⟩=some (.bool x.ty.err)∧w.cell? ⟨b,off + k * 9 + 8,none⟩=some (.string x.name):=by
 subst hx
 exact At.nine h hk
def Fc.val (f:Fc):Value:=.agg #[.string f.name,.int .i64 f.params,.int .i64 f.places,.int .i64 f.ty.base,.int .i64 f.ty.bits,.string f.ty.name,.bool f.ty.opt,.bool f.ty.err,.slice f.A f.code.length f.cap]
def Cd.val (x:Cd):Value:=.agg #[.int .i64 x.op,.int .i64 x.a,.int .i64 x.b,.int .i64 x.ty.base,.int .i64 x.ty.bits,.string x.ty.name,.bool x.ty.opt,.bool x.ty.err,.string x.name]

def tz (t:Ty):Bool:=t.base == 0 && (t.bits == 0 && (emp t.name && (!t.opt && !t.err)))
def isPlainS (t:Ty):Bool:=isTypeS t && !t.opt && !t.err
theorem run_tz_eql (t:Ty) (w:World):(binOp .eql 32 (.agg #[.int .i64 t.base,.int .i64 t.bits,.string t.name,.bool t.opt,.bool t.err]) (.agg #[.int .i64 0,.int .i64 0,.string ⟨#[]⟩,.bool false,.bool false])).run Tryz.prog w=.ok (.bool (tz t)) w:=by
 obtain ⟨a,b,n,o,e⟩:=t
 go_simp
 unfold tz emp
 by_cases h1:a=0
 ·by_cases h2:b=0
  ·by_cases h3:n.toList=[]
   ·cases o <;> cases e <;> simp [h1,h2,h3]
   ·simp [h1,h2,h3]
  ·simp [h1,h2]
 ·simp [h1]
end Go.Proofs.YtmmnhbhnjiajhaaGreatDoor.c
