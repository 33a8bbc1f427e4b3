/- Contract of code.shapeOf for every instruction, and of isFunc's closure. The table strings.asciiSpace holds what its text lays. -/
import Derived.Test.YtknaemlnhediaaaGreatDoorShapeC
import Derived.Test.YtknaemlnhediaaaGreatDoorShapeD
import Derived.Test.YtknaemlnhediaaaGreatDoorDataF
namespace Go.Proofs.YtknaemlnhediaaaGreatDoor.c
open Go.RowKit
set_option linter.unusedVariables false
set_option maxRecDepth 100000
set_option maxHeartbeats 1600000
set_option linter.unusedSimpArgs false

theorem shapeOf_any (l:List Fc) (A:Option Addr) (cap:Nat) (f:Fc) (x:Cd) (w:World) (g:Laid w) (hA:FcAt w A l) (hl:l.length ≤ 9223372036854775807) (hfl:f.code.length ≤ 9223372036854775807) :
  Calls Tryz.prog 194 #[.slice A l.length cap,f.val,x.val] w fun e w'=>ShapeRet l f x e∧Ext w w':=by
 obtain ⟨op,a,b,ty,nm⟩:=x
 have h:(op=1 ∨ op=4 ∨ op=8 ∨ op=11 ∨ op=17) ∨ (op=2 ∨ op=3 ∨ op=6 ∨ op=12 ∨ op=13 ∨ op=14 ∨ op=15 ∨ op=19) ∨ (op=7 ∨ op=9 ∨ op=10) ∨ op=18 ∨ op=5 ∨ op=0 ∨ op=16 ∨ (op < 0 ∨ 19 < op):=by omega
 rcases h with h | h | h | h | h | h | h | h
 ·exact shape_plain l A cap f op a b ty nm w g hA hl hfl h
 ·exact shape_num l A cap f op a b ty nm w g hA hl hfl h
 ·exact shape_kind l A cap f op a b ty nm w g hA hl hfl h
 ·exact shape_error l A cap f op a b ty nm w g hA hl hfl h
 ·exact shape_op l A cap f op a b ty nm w g hA hl hfl h
 ·exact shape_push l A cap f op a b ty nm w g hA hl hfl h
 ·exact shape_call l A cap f op a b ty nm w g hA hl hfl h
 ·exact shape_none l A cap f op a b ty nm w g hA hl hfl h
theorem shapeOf_ok (l:List Fc) (A:Option Addr) (cap:Nat) (f:Fc) (x:Cd) (w:World) (g:Laid w) (hA:FcAt w A l) (hl:l.length ≤ 9223372036854775807) (hfl:f.code.length ≤ 9223372036854775807) :
  Calls Tryz.prog 194 #[.slice A l.length cap,.agg #[.string f.name,.int .i64 f.params,.int .i64 f.places,.int .i64 f.ty.base,.int .i64 f.ty.bits,.string f.ty.name,.bool f.ty.opt,.bool f.ty.err,.slice f.A f.code.length f.cap],.agg #[.int .i64 x.op,.int .i64 x.a,.int .i64 x.b,.int .i64 x.ty.base,.int .i64 x.ty.bits,.string x.ty.name,.bool x.ty.opt,.bool x.ty.err,.string x.name]] w fun e w' =>
   ∃ p q r s k,e=.returned (.tuple #[.agg #[.bool p,.bool q,.bool r,.bool s],.bool k])∧instS l f x=(k && (p && (q && (r && s))))∧Ext w w':=by
 refine (shapeOf_any l A cap f x w g hA hl hfl).mono ?_
 rintro e w' ⟨h,hx⟩
 unfold ShapeRet at h
 unfold instS
 cases hs:shapeS l f x with
 | none =>
  rw [hs] at h
  obtain ⟨p,q,r,s,rfl⟩:=h
  exact ⟨p,q,r,s,false,rfl,rfl,hx⟩
 | some t =>
  rw [hs] at h
  obtain ⟨p,q,r,s⟩:=t
  exact ⟨p,q,r,s,true,h,rfl,hx⟩

theorem run_four (p q r s:Bool) (w:World):(binOp .neq 241 (.agg #[.bool p,.bool q,.bool r,.bool s]) (.agg #[.bool true,.bool true,.bool true,.bool true])).run Tryz.prog w=.ok (.bool (!(p && (q && (r && s))))) w:=by
 go_simp
 cases p <;> cases q <;> cases r <;> cases s <;> rfl

theorem enters_isFunc1:Enters 193 := Enters.of Tryz.func193 (by kernel_rfl) (by kernel_rfl)
structure FcBox (w:World) (g:Nat) (f:Fc):Prop where
 out:Blk w g 62 #[.string f.name,.int .i64 f.params,.int .i64 f.places,.int .i64 f.ty.base,.int .i64 f.ty.bits,.string f.ty.name,.bool f.ty.opt,.bool f.ty.err,.slice f.A f.code.length f.cap]
theorem FcBox.ext {w w':World} {g:Nat} {f:Fc} (h:FcBox w g f) (x:Ext w w'):FcBox w' g f:=⟨h.out.ext x⟩
theorem FcBox.cells {w:World} {g:Nat} {f:Fc} (h:FcBox w g f):w.cell? ⟨g,0,none⟩=some (.string f.name)∧w.cell? ⟨g,1,none⟩=some (.int .i64 f.params)∧w.cell? ⟨g,2,none⟩=some (.int .i64 f.places) ∧
  w.cell? ⟨g,3,none⟩=some (.int .i64 f.ty.base)∧w.cell? ⟨g,4,none⟩=some (.int .i64 f.ty.bits)∧w.cell? ⟨g,5,none⟩=some (.string f.ty.name)∧w.cell? ⟨g,6,none⟩=some (.bool f.ty.opt)∧w.cell? ⟨g,7,none⟩=some (.bool f.ty.err) ∧
  w.cell? ⟨g,8,none⟩=some (.slice f.A f.code.length f.cap) :=
 ⟨h.out.cell 0,h.out.cell 1,h.out.cell 2,h.out.cell 3,h.out.cell 4,h.out.cell 5,h.out.cell 6,h.out.cell 7,h.out.cell 8⟩

theorem isFunc1_any (l:List Fc) (A:Option Addr) (cap:Nat) (f:Fc) (x:Cd) (bl bf:Nat) (w:World) (g:Laid w) (hA:FcAt w A l) (hl:l.length ≤ 9223372036854775807) (hfl:f.code.length ≤ 9223372036854775807)
  (hcl:w.cell? ⟨bl,0,none⟩=some (.slice A l.length cap)) (hbl:bl < w.heap.size) (hf:FcBox w bf f) :
  Calls Tryz.prog 193 #[x.val,.pointer (some ⟨bl,0,none⟩),.pointer (some ⟨bf,0,none⟩)] w fun e w'=>e=.returned (.bool (!instS l f x))∧Ext w w':=by
 have hbf:=hf.out.lt
 obtain ⟨c0,c1,c2,c3,c4,c5,c6,c7,c8⟩:=hf.cells
 have HA:=Lib.hid hA
 clear hA hf
 unfold Cd.val
 go_enter Tryz.func193,Tryz.ntmps193
 go_wp2_with (first
  | (go_at_call 194; refine (shapeOf_ok l A cap f x _ (g.ext exL) (HA.out.ext exL) hl hfl).mono ?_; rintro e w1 ⟨p,q,r,s,k,rfl,hi,x1⟩; have HI:=Lib.hid hi; clear hi; have y1:=x1.facts; have z1:=x1.z0; have h4:=run_four p q r s))
 all_goals
  go_ret
  exact ⟨ret_bool (by rw [HI.out]; simp [*]),exL⟩
end Go.Proofs.YtknaemlnhediaaaGreatDoor.c
