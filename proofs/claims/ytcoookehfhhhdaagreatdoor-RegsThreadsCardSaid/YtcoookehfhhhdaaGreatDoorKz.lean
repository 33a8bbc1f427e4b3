/- Steps of the stack machine's regions: literals of items, nothing appended. No condition. -/
import Derived.Test.YtcoookehfhhhdaaGreatDoorKi
import Derived.Laws.OwnMore
import Derived.Great.BuildSlice
namespace Go.Proofs.YtcoookehfhhhdaaGreatDoor.c
open Go.RowKit
set_option linter.unusedVariables false
set_option linter.unusedSimpArgs false
section
variable {w:World} {o:Oper} {a:Act} {Q:Exit → Act → World → Prop} {ops:Array Oper} {C:Act → World → Prop} {E:Prop}
theorem step_its_none (hgd:o.guard=none) (s x:Operand) (ho:o.op=.call { callee:=.builtin .append,args:=#[s,x],argTypes:=#[87,87] })
  (base:Nat) (v:Value) (hs:a.eval s=v) {n:Nat} {xs:List Value} (hown:w.ownsRow base 86 3 v n xs) (hx:a.eval x=.slice none 0 0) (h:C (a.put o.dst v) w):if Region.wanted o (yielded ops a.tmps)=true then Oper.wp Tryz.prog o a w C Q else E:=by
 obtain ⟨i0,hi0,hz0,hz1,hz2⟩:=info_parts info_it
 have hw:Region.wanted o (yielded ops a.tmps)=true:=by simp [Region.wanted,hgd]
 have hrun:=run_append_owned_none (P:=Tryz.prog) w base 87 o.type 86 i0 3 Tryz.underlying87 hi0 v n xs hown
 have h2:(execOp a.eval o).run Tryz.prog w=.ok (.value v) w:=by simp [execOp,ho,resolve,invoke,builtin,hs,hx,hrun,Result.andThen]
 rw [if_pos hw]
 simp only [Oper.wp,h2,Oper.upon]
 exact h
end
theorem fill_it (u:Val):Instr.fill (fun i=>some (i * 3,3)) ((Array.range (1 * 3)).map ((Value.agg #[.int .i64 0,.bool false,.string ⟨#[]⟩]).cells[· % (Value.agg #[.int .i64 0,.bool false,.string ⟨#[]⟩]).cells.size]!)) [(0,.agg (itA u))]=some (itA u):=by kernel_rfl
section
variable {w:World} {o:Oper} {a:Act} {Q:Exit → Act → World → Prop} {ops:Array Oper} {rest:List Oper} {C:Act → World → Prop} {E:Prop}
theorem wp_bs_it (x:Operand) (ho:o.op=.buildSlice 87 1 #[(0,x)]) (u:Val) (hx:a.eval x=.agg (itA u)) (h:C (a.put o.dst (.slice (some ⟨w.heap.size,0,none⟩) 1 1)) (w.alloc (.cells (itA u) 86))):o.wp Tryz.prog a w C Q:=by
 obtain ⟨i0,hi0,hz0,hz1,hz2⟩:=info_parts info_it
 refine wp_buildSlice _ 86 1 _ ho (itA u) i0 _ Tryz.underlying87 hi0 hz0 (by rw [hz1]; decide) (by rw [hz1]; decide) ?_ h
 rw [hz1]
 have e:(#[(0,x)].map fun (i,x)=>(i,a.eval x)).toList=[(0,.agg (itA u))]:=by simp [hx]
 rw [e]
 exact fill_it u
theorem step_bs_it (hgd:o.guard=none) (x:Operand) (ho:o.op=.buildSlice 87 1 #[(0,x)]) (u:Val) (hx:a.eval x=.agg (itA u)) (h:C (a.put o.dst (.slice (some ⟨w.heap.size,0,none⟩) 1 1)) (w.alloc (.cells (itA u) 86))):if Region.wanted o (yielded ops a.tmps)=true then Oper.wp Tryz.prog o a w C Q else E:=by
 have hw:Region.wanted o (yielded ops a.tmps)=true:=by simp [Region.wanted,hgd]
 rw [if_pos hw]
 exact wp_bs_it x ho u hx h
theorem wpList_bs_it (hgd:o.guard=none) (x:Operand) (ho:o.op=.buildSlice 87 1 #[(0,x)]) (u:Val) (hx:a.eval x=.agg (itA u)) (h:wpList Tryz.prog ops Q rest (a.put o.dst (.slice (some ⟨w.heap.size,0,none⟩) 1 1)) (w.alloc (.cells (itA u) 86))):wpList Tryz.prog ops Q (o :: rest) a w :=
 wpList_plain hgd fun _ hK=>wp_bs_it x ho u hx (hK _ _ h)
theorem step_bs_no (hgd:o.guard=none) (ho:o.op=.buildSlice 87 0 #[]) (h:C (a.put o.dst (.slice (some ⟨w.heap.size,0,none⟩) 0 0)) (w.alloc (.cells #[] 86))):if Region.wanted o (yielded ops a.tmps)=true then Oper.wp Tryz.prog o a w C Q else E:=by
 obtain ⟨i0,hi0,hz0,hz1,hz2⟩:=info_parts info_it
 have hw:Region.wanted o (yielded ops a.tmps)=true:=by simp [Region.wanted,hgd]
 rw [if_pos hw]
 have e0:∀ f:Nat → Value,Array.map f (Array.range 0)=#[]:=fun f=>Array.eq_empty_of_size_eq_zero (by simp)
 have h2:(execOp a.eval o).run Tryz.prog w=.ok (.value (.slice (some ⟨w.heap.size,0,none⟩) 0 0)) (w.alloc (.cells #[] 86)):=by
  simp [execOp,ho,Instr.buildSlice,run_underlying Tryz.underlying87,sizeOf,typeInfo,zeroValue,hi0,hz0,hz1,newRow,Instr.fill,Result.andThen,e0]
 simp only [Oper.wp,h2,Oper.upon]
 exact h
end
end Go.Proofs.YtcoookehfhhhdaaGreatDoor.c
