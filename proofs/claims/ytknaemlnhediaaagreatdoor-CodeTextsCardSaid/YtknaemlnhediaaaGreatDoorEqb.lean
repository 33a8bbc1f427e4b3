/- When two types are equal, and when two lists are, one by one. No condition. -/
import Derived.Test.YtknaemlnhediaaaGreatDoorData
namespace Go.Proofs.YtknaemlnhediaaaGreatDoor.c
open Go.RowKit
set_option linter.unusedVariables false
set_option linter.unusedSimpArgs false
theorem store_new {w1:World} {ops:Array Oper} {rest:List Oper} {o:Oper} {a:Act} {Q:Exit → Act → World → Prop} (ty:TypeId) (cur cs:Array Value) (hgd:o.guard=none) (x y:Operand) (ho:o.op=.store ty x y)
  (hx:a.eval x=.pointer (some ⟨w1.heap.size,0,none⟩)) (hy:a.eval y=.agg cs) (hs:cs.size=cur.size) (hz:(Tryz.prog.info? ty).map (·.size)=some cs.size) (h1:∀ v ∈ cs.toList,v.oneCell'=true)
  (h:∀ w2,Ext w1 w2 → Blk w2 w1.heap.size ty cs → wpList Tryz.prog ops Q rest (a.put o.dst undef) w2) :
  wpList Tryz.prog ops Q (o :: rest) a (w1.alloc (.cells cur ty)):=by
 refine wpList_store_row hgd ty x y ho w1.heap.size hx ty cur cs (Blk.new w1 _ _) hy hs h1 hz ?_
 exact h _ (((Ext.refl w1).alloc _).setRow (Nat.le_refl _) _) ((Blk.new w1 ty cur).row cs)
def tyB (t u:Ty):Bool:=t.base == u.base && (t.bits == u.bits && (t.name.toList == u.name.toList && (t.opt == u.opt && t.err == u.err)))
theorem run_ty_eql (t u:Ty) (w:World):(binOp .eql 35 (.agg #[.int .i64 t.base,.int .i64 t.bits,.string t.name,.bool t.opt,.bool t.err]) (.agg #[.int .i64 u.base,.int .i64 u.bits,.string u.name,.bool u.opt,.bool u.err])).run Tryz.prog w=.ok (.bool (tyB t u)) w:=by
 obtain ⟨a,b,n,o,e⟩:=t
 obtain ⟨a2,b2,n2,o2,e2⟩:=u
 go_simp
 unfold tyB
 by_cases h1:a=a2
 ·by_cases h2:b=b2
  ·by_cases h3:n.toList=n2.toList
   ·cases o <;> cases e <;> cases o2 <;> cases e2 <;> simp [h1,h2,h3]
   ·simp [h1,h2,h3]
  ·simp [h1,h2]
 ·simp [h1]
theorem run_ty_neq (t u:Ty) (w:World):(binOp .neq 35 (.agg #[.int .i64 t.base,.int .i64 t.bits,.string t.name,.bool t.opt,.bool t.err]) (.agg #[.int .i64 u.base,.int .i64 u.bits,.string u.name,.bool u.opt,.bool u.err])).run Tryz.prog w=.ok (.bool (!tyB t u)) w:=by
 obtain ⟨a,b,n,o,e⟩:=t
 obtain ⟨a2,b2,n2,o2,e2⟩:=u
 go_simp
 unfold tyB
 by_cases h1:a=a2
 ·by_cases h2:b=b2
  ·by_cases h3:n.toList=n2.toList
   ·cases o <;> cases e <;> cases o2 <;> cases e2 <;> simp [h1,h2,h3]
   ·simp [h1,h2,h3]
  ·simp [h1,h2]
 ·simp [h1]
def allB (p:Nat → Bool) (n:Nat):Bool:=(List.range n).all p
theorem allB_iff {p:Nat → Bool} {n:Nat}:allB p n=true ↔ ∀ j,j < n → p j=true:=by
 unfold allB
 rw [List.all_eq_true]
 exact ⟨fun h j hj=>h j (List.mem_range.2 hj),fun h j hj=>h j (List.mem_range.1 hj)⟩
theorem allB_no {p:Nat → Bool} {n k:Nat} (hk:k < n) (h:p k=false):allB p n=false:=by
 rw [Bool.eq_false_iff,Ne,allB_iff]
 intro h2
 rw [h2 k hk] at h
 cases h
def eqB (n m:Nat) (p:Nat → Bool):Bool:=decide (n=m) && allB p n
theorem eqB_len {n m:Nat} {p:Nat → Bool} (h:n ≠ m):eqB n m p=false:=by unfold eqB; rw [decide_eq_false h]; rfl
theorem eqB_all {n:Nat} {p:Nat → Bool} (h:∀ j,j < n → p j=true):eqB n n p=true:=by unfold eqB; rw [decide_eq_true rfl,allB_iff.2 h]; rfl
theorem eqB_no {n m k:Nat} {p:Nat → Bool} (hk:k < n) (h:p k=false):eqB n m p=false:=by unfold eqB; rw [allB_no hk h,Bool.and_false]
theorem tyB_self (t:Ty):tyB t t=true:=by unfold tyB; simp
end Go.Proofs.YtknaemlnhediaaaGreatDoor.c
