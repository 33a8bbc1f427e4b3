/- The slots that a function names: plainly; contracts of the program's known, Slots, Size. The table strings.asciiSpace holds what its text lays; lengths are bounded. Contracts of the reference's numbered, Size, Slots. The table strings.asciiSpace holds what its text lays; lengths are bounded. -/
import Derived.Test.YtknaemlnhediaaaGreatDoorRinst
import Derived.Test.YtknaemlnhediaaaGreatDoorSortc
import Derived.OwnWalk
import Derived.Deep.Upon
import Derived.Test.YtknaemlnhediaaaGreatDoorHval
namespace Go.Proofs.YtknaemlnhediaaaGreatDoor.c
open Go.RowKit
set_option linter.unusedVariables false
set_option linter.unusedSimpArgs false
theorem wpList_append_nums {w:World} {ops:Array Oper} {rest:List Oper} {o:Oper} {a:Act} {Q:Exit → Act → World → Prop} (hgd:o.guard=none) (s x:Operand)
  (ho:o.op=.call { callee:=.builtin .append,args:=#[s,x],argTypes:=#[65,65] }) (base:Nat) (v:Value) (zs:List Int) (hs:a.eval s=v) (hown:w.ownsRow base 3 1 v zs.length (zs.map (Value.int .i64)))
  (A:Option Addr) (cap:Nat) (qs:List Int) (hx:a.eval x=.slice A qs.length cap) (hq:NumsAt w A qs) (hb:zs.length + qs.length ≤ 1000000000) (hbase:base ≤ w.heap.size)
  (h:∀ v' w',w'.ownsRow base 3 1 v' (zs ++ qs).length ((zs ++ qs).map (Value.int .i64)) → w.grownBy w' v.ownBlock → wpList Tryz.prog ops Q rest (a.put o.dst v') w'):wpList Tryz.prog ops Q (o :: rest) a w:=by
 obtain ⟨i0,hi0,hz0,hz1,hz2⟩:=info_parts info_int
 rcases Nat.eq_zero_or_pos qs.length with h0 | hpos
 ·have hq0:qs=[]:=List.length_eq_zero_iff.1 h0
  subst hq0
  refine wpList_plain hgd fun K hK=>?_
  have hsrc:Src Tryz.prog i0.size 65 (.slice A 0 cap) 0 [] w:=by
   cases A with
   | none=>exact Src.ofNil w Tryz.underlying65 cap
   | some ad=>exact Src.ofSlice w Tryz.underlying65 ad 0 cap [] (by simp) (fun j u hj=>by simp at hj) (fun u hu=>by cases hu)
  have hr:(Builtin.append_ #[65,65] o.type #[v,.slice A 0 cap]).run Tryz.prog w=.ok v w:=by
   rcases hown.2 with ⟨rfl,_⟩ | ⟨g,cp,cur,rfl,_,_,hn,_⟩
   ·exact run_append_nothing w _ _ _ _ i0 Tryz.underlying65 hi0 none 0 0 (Nat.le_refl _) _ hsrc
   ·exact run_append_nothing w _ _ _ _ i0 Tryz.underlying65 hi0 _ _ _ hn _ hsrc
  unfold Oper.wp execOp
  simp only [ho,resolve,invoke,builtin,Sem.run_bind,Sem.run_pure,Result.andThen_ok,List.map_toArray,List.map_cons,List.map_nil,hs,hx,List.length_nil,hr]
  exact hK _ _ (h v w (by simpa using hown) ⟨rfl,rfl,rfl,Nat.le_refl _,fun _ _ _=>rfl⟩)
 ·obtain ⟨b,off,rfl,hbl,hc⟩:=hq hpos
  refine wpList_append_own w hgd s x 65 ho base 3 i0 _ 1 8 Tryz.underlying65 hi0 hz0 hz1 hz2 rfl (by decide) v zs.length _ hs hown ⟨b,off,none⟩ qs.length cap (qs.map (Value.int .i64)) hx (by simp) ?_ ?_ (by unfold maxLen; omega) (by omega) hbase ?_
  ·intro j u hj
   rw [List.getElem?_map] at hj
   obtain ⟨z,hz,rfl⟩:=Option.map_eq_some_iff.1 hj
   have hjl:j < qs.length:=(List.getElem?_eq_some_iff.1 hz).1
   have:=hc j 0 hjl (by omega)
   simp only [Nat.mul_one,Nat.add_zero] at this
   rw [show (⟨b,off,none⟩:Addr).add j=⟨b,off + j,none⟩ by (unfold Addr.add; split; (rename_i h0; rw [h0]; rfl); rfl),this,List.getD,hz]
   rfl
  ·intro u hu
   obtain ⟨z,_,rfl⟩:=List.mem_map.1 hu
   rfl
  ·intro v' w' h2 h3 _
   exact h v' w' (by simpa using h2) h3
theorem rg_one (x:Rg):∀ v ∈ (#[.int .i64 x.op,.int .i64 x.d,.int .i64 x.a,.int .i64 x.b,.int .i64 x.ty.base,.int .i64 x.ty.bits,.string x.ty.name,.bool x.ty.opt,.bool x.ty.err,.string x.name,.slice x.A x.args.length x.cap]:Array Value).toList,v.oneCell'=true:=by
 intro v hv
 simp at hv
 rcases hv with rfl | rfl | rfl | rfl | rfl | rfl | rfl | rfl | rfl | rfl | rfl <;> rfl
theorem rg_cells {w':World} {g:Nat} (x:Rg) (b:Blk w' g 67 #[.int .i64 x.op,.int .i64 x.d,.int .i64 x.a,.int .i64 x.b,.int .i64 x.ty.base,.int .i64 x.ty.bits,.string x.ty.name,.bool x.ty.opt,.bool x.ty.err,.string x.name,.slice x.A x.args.length x.cap]):w'.cell? ⟨g,0,none⟩=some (.int .i64 x.op)∧w'.cell? ⟨g,1,none⟩=some (.int .i64 x.d)∧w'.cell? ⟨g,2,none⟩=some (.int .i64 x.a)∧w'.cell? ⟨g,3,none⟩=some (.int .i64 x.b)∧w'.cell? ⟨g,4,none⟩=some (.int .i64 x.ty.base)∧w'.cell? ⟨g,5,none⟩=some (.int .i64 x.ty.bits)∧w'.cell? ⟨g,6,none⟩=some (.string x.ty.name)∧w'.cell? ⟨g,7,none⟩=some (.bool x.ty.opt)∧w'.cell? ⟨g,8,none⟩=some (.bool x.ty.err)∧w'.cell? ⟨g,9,none⟩=some (.string x.name)∧w'.cell? ⟨g,10,none⟩=some (.slice x.A x.args.length x.cap) :=
 ⟨b.cell 0,b.cell 1,b.cell 2,b.cell 3,b.cell 4,b.cell 5,b.cell 6,b.cell 7,b.cell 8,b.cell 9,b.cell 10⟩
theorem info_bool2:(Tryz.prog.info? 4).map (fun i=>(i.zero,i.size,i.bytes))=some (some (.bool false),1,1):=by kernel_rfl
theorem GoodF.noargs {l:List Rf} {f:Rf} (g:GoodF l f) {x:Rg} (hx:x ∈ f.code) (h:x.op ≠ 14):x.args=[]:=by
 have h1:=g.inst x hx
 unfold instR at h1
 simp only [Bool.and_eq_true] at h1
 have h2:=h1.2.2.2.2.1
 rw [argsB_other h] at h2
 exact List.isEmpty_iff.1 h2
end Go.Proofs.YtknaemlnhediaaaGreatDoor.c
