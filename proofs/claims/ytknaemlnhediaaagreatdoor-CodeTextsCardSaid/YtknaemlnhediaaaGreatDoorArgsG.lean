/- Arguments that are lists of functions of stack code: what their reading says of memory. No condition. Arguments that are register code, values and calls: what their reading says of memory. No condition. An instruction as an argument of its own, and a list of numbers beside a number: opened. No condition. -/
import Derived.Test.YtknaemlnhediaaaGreatDoorData
import Derived.Deep.Slices
import Derived.ChangeSame
import Derived.DeepKeys4
namespace Go.Proofs.YtknaemlnhediaaaGreatDoor.c
open Go.RowKit Go.ChangeShapes Go.WideShapes Go.Deep
set_option linter.unusedVariables false
set_option maxRecDepth 100000
set_option maxHeartbeats 1600000
set_option linter.unusedSimpArgs false
theorem weights_all {H:Type} {P:Program} {e:TypeId} {l:List (DataW H)} {d:DataW H} {x:Nat} (h:d ∈ l) (hx:x ∈ d.weights P e):x ∈ DataW.weightsAll P e l:=by
 induction l with
 | nil=>cases h
 | cons a l ih =>
  rw [DataW.weightsAll,List.mem_append]
  rcases List.mem_cons.1 h with rfl | h
  ·exact .inl hx
  ·exact .inr (ih h)
theorem weights_each {H:Type} {P:Program}:∀ {ts:List TypeId} {ds:List (DataW H)} {j:Nat} {t:TypeId} {d:DataW H} {x:Nat},ts[j]?=some t → ds[j]?=some d → x ∈ d.weights P t → x ∈ DataW.weightsEach P ts ds
 | [],_,_,_,_,_,h,_,_=>by cases h
 | _ :: _,[],_,_,_,_,_,h,_=>by cases h
 | t' :: ts,d' :: ds,0,t,d,x,h,h2,hx=>by
  obtain rfl:t'=t:=Option.some.inj h
  obtain rfl:d'=d:=Option.some.inj h2
  rw [DataW.weightsEach,List.mem_append]
  exact .inl hx
 | t' :: ts,d' :: ds,j + 1,t,d,x,h,h2,hx=>by
  rw [DataW.weightsEach,List.mem_append]
  exact .inr (weights_each (j:=j) h h2 hx)
section
variable {H:Type} {enc:TypeId × Value → H} {w:World} {base:Nat} {spare:Nat → Bool} {held:Bool} {n:Nat} {cs:List Value} {x:DataW H × List MemPlace}
theorem open_ty (h:DataW.trod enc Tryz.prog w base spare held n 35 cs=some x):∃ T:Ty,cs=[.int .i64 T.base,.int .i64 T.bits,.string T.name,.bool T.opt,.bool T.err]:=by
 obtain ⟨xs,m,_,rfl,hlen,hxl,hf⟩:=DataW.trod_struct Tryz.underlying35 h
 have h5:cs.length=5:=hlen.trans (by kernel_rfl)
 have k3:Tryz.prog.cellsOf 3 = 1:=by kernel_rfl
 have k9:Tryz.prog.cellsOf 9 = 1:=by kernel_rfl
 have k4:Tryz.prog.cellsOf 4 = 1:=by kernel_rfl
 match cs,h5 with
 | [c0,c1,c2,c3,c4],_ =>
  match xs,hxl with
  | [y0,y1,y2,y3,y4],_ =>
   obtain ⟨z0,e0,_⟩:=DataW.trod_int Tryz.underlying3 (show _=some y0 by simpa [k3] using hf 0 _ rfl)
   obtain ⟨z1,e1,_⟩:=DataW.trod_int Tryz.underlying3 (show _=some y1 by simpa [k3] using hf 1 _ rfl)
   obtain ⟨z2,e2,_⟩:=DataW.trod_string Tryz.underlying9 (show _=some y2 by simpa [k9] using hf 2 _ rfl)
   obtain ⟨z3,e3,_⟩:=DataW.trod_bool Tryz.underlying4 (show _=some y3 by simpa [k4] using hf 3 _ rfl)
   obtain ⟨z4,e4,_⟩:=DataW.trod_bool Tryz.underlying4 (show _=some y4 by simpa [k4] using hf 4 _ rfl)
   cases e0; cases e1; cases e2; cases e3; cases e4
   exact ⟨⟨z0,z1,z2,z3,z4⟩,rfl⟩
theorem open_many {α:Type} (d0:α) {sz:Nat} (hsz:0 < sz) {t e:TypeId} {C:α → Nat → Value} {p:α → Prop} (ht:Tryz.prog.underlying t=some (.slice e)) (hC:Tryz.prog.cellsOf e=sz) (hB:1 ≤ Tryz.prog.bytesOf e)
  (hw:∀ y,y ∈ x.1.weights Tryz.prog t → y ≤ reachBytes) (h:DataW.trod enc Tryz.prog w base spare held n t cs=some x)
  (one:∀ m cs' (x':DataW H × List MemPlace),(∀ y,y ∈ x'.1.weights Tryz.prog e → y ≤ reachBytes) → DataW.trod enc Tryz.prog w base spare held m e cs'=some x' → ∃ c:α,(∀ j,j < sz → cs'[j]?=some (C c j))∧p c) :
  ∃ A cap,∃ l:List α,cs=[.slice A l.length cap]∧l.length ≤ reachBytes∧At w A l.length sz (fun i j=>C (l.getD i d0) j)∧∀ c,c ∈ l → p c:=by
 rcases open_slice ht h with ⟨rfl,_⟩ | ⟨a,len,cap,m,n,D,Pl,rfl,hb,hl,hm,hmm,rfl,hx⟩
 ·exact ⟨none,0,[],rfl,Nat.zero_le _,At.nil _ _ _ _,fun c hc=>by cases hc⟩
 have hlm:len ≤ m:=by rw [hmm]; split <;> omega
 simp only [DataW.weights,ht] at hw
 have hlen:len ≤ reachBytes:=by
  have h1:=hw _ (List.mem_cons_self ..)
  rw [List.length_map,List.length_range,Nat.add_mul] at h1
  have h2:=Nat.mul_le_mul_left len hB
  omega
 haveI:Inhabited α:=⟨d0⟩
 obtain ⟨F,hF⟩:=choose_lt (α:=α) (n:=len) (p:=fun i c=>(∀ j,j < sz → w.cell? ((a.add (i * sz)).add j)=some (C c j))∧p c) (fun i hi=>by
  obtain ⟨cs',h1,h2⟩:=hx i (by omega)
  obtain ⟨c,h3,h4⟩:=one _ _ _ (fun y hy=>hw y (List.mem_cons_of_mem _ (List.mem_append_left _ (weights_all (List.mem_map.2 ⟨i,List.mem_range.2 hi,rfl⟩) hy)))) h2
  rw [hC] at h1
  obtain ⟨_,_,h5⟩:=World.cells?_some h1
  exact ⟨c,fun j hj=>(h5 j hj).trans (h3 j hj),h4⟩)
 refine ⟨some a,cap,(List.range len).map F,by simp,by simpa using hlen,fun hpos=>?_,fun c hc=>?_⟩
 ·have hpos':0 < len:=by simpa using hpos
  have c0:=(hF 0 hpos').1 0 (by omega)
  rw [Go.Deep.add_add,Nat.zero_mul,Addr.add_zero'] at c0
  obtain ⟨b,off,sp⟩:=a
  obtain rfl:sp=none:=World.cell?_spot c0
  refine ⟨b,off,rfl,?_,fun i j hi hj=>?_⟩
  ·rcases Nat.lt_or_ge b w.heap.size with h1 | h1
   ·exact h1
   ·simp [World.cell?,Array.getElem?_eq_none h1] at c0
  ·have hi':i < len:=by simpa using hi
   have c1:=(hF i hi').1 j hj
   rw [Go.Deep.add_add,add_plain] at c1
   rw [c1]
   simp [List.getD,hi']
 ·obtain ⟨i,hi,rfl⟩:=List.mem_map.1 hc
  exact (hF i (List.mem_range.1 hi)).2
end
theorem laid_out:laidOutB Tryz.prog=true:=by kernel_rfl
end Go.Proofs.YtknaemlnhediaaaGreatDoor.c
