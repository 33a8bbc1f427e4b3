/- Arguments that are lists of functions of stack code: what their reading says of memory. No condition. Arguments that are register code, values and calls: what their reading says of memory. No condition. An instruction as an argument of its own, and a list of numbers beside a number: opened. No condition. -/
import Derived.Test.YtobfbfbjccmbiaaGreatDoorData
import Derived.Deep.Slices
import Derived.ChangeSame
import Derived.DeepKeys4
namespace Go.Proofs.YtobfbfbjccmbiaaGreatDoor.c
open Go.RowKit Go.ChangeShapes Go.WideShapes Go.Deep
set_option linter.unusedVariables false
set_option maxRecDepth 100000
set_option maxHeartbeats 1600000
set_option linter.unusedSimpArgs false
theorem weights_each {H:Type} {P:Program}:∀ {ts:List TypeId} {ds:List (DataW H)} {j:Nat} {t:TypeId} {d:DataW H} {x:Nat},ts[j]?=some t → ds[j]?=some d → x ∈ d.weights P t → x ∈ DataW.weightsEach P ts ds
 | [],_,_,_,_,_,h,_,_=>by cases h
 | _ :: _,[],_,_,_,_,_,h,_=>by cases h
 | t' :: ts,d' :: ds,0,t,d,x,h,h2,hx=>by
  obtain rfl:t'=t:=Option.some.inj h
  obtain rfl:d'=d:=Option.some.inj h2
  rw [DataW.weightsEach,List.mem_append]
  exact .inl hx
 | t' :: ts,d' :: ds,j + 1,t,d,x,h,h2,hx=>by
  rw [DataW.weightsEach,List.mem_append]
  exact .inr (weights_each (j:=j) h h2 hx)
section
variable {H:Type} {enc:TypeId × Value → H} {w:World} {base:Nat} {spare:Nat → Bool} {held:Bool} {n:Nat} {cs:List Value} {x:DataW H × List MemPlace}
theorem open_ty (h:DataW.trod enc Tryz.prog w base spare held n 30 cs=some x):∃ T:Ty,cs=[.int .i64 T.base,.int .i64 T.bits,.string T.name,.bool T.opt,.bool T.err]:=by
 obtain ⟨xs,m,_,rfl,hlen,hxl,hf⟩:=DataW.trod_struct Tryz.underlying30 h
 have h5:cs.length=5:=hlen.trans (by kernel_rfl)
 have k3:Tryz.prog.cellsOf 3 = 1:=by kernel_rfl
 have k9:Tryz.prog.cellsOf 9 = 1:=by kernel_rfl
 have k4:Tryz.prog.cellsOf 4 = 1:=by kernel_rfl
 match cs,h5 with
 | [c0,c1,c2,c3,c4],_ =>
  match xs,hxl with
  | [y0,y1,y2,y3,y4],_ =>
   obtain ⟨z0,e0,_⟩:=DataW.trod_int Tryz.underlying3 (show _=some y0 by simpa [k3] using hf 0 _ rfl)
   obtain ⟨z1,e1,_⟩:=DataW.trod_int Tryz.underlying3 (show _=some y1 by simpa [k3] using hf 1 _ rfl)
   obtain ⟨z2,e2,_⟩:=DataW.trod_string Tryz.underlying9 (show _=some y2 by simpa [k9] using hf 2 _ rfl)
   obtain ⟨z3,e3,_⟩:=DataW.trod_bool Tryz.underlying4 (show _=some y3 by simpa [k4] using hf 3 _ rfl)
   obtain ⟨z4,e4,_⟩:=DataW.trod_bool Tryz.underlying4 (show _=some y4 by simpa [k4] using hf 4 _ rfl)
   cases e0; cases e1; cases e2; cases e3; cases e4
   exact ⟨⟨z0,z1,z2,z3,z4⟩,rfl⟩
end
theorem laid_out:laidOutB Tryz.prog=true:=by kernel_rfl
end Go.Proofs.YtobfbfbjccmbiaaGreatDoor.c
