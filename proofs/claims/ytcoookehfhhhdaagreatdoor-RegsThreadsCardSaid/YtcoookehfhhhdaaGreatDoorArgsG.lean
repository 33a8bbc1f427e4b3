/- Arguments that are lists of functions of stack code: what their reading says of memory. No condition. Arguments that are register code, values and calls: what their reading says of memory. No condition. An instruction as an argument of its own, and a list of numbers beside a number: opened. No condition. Arguments that are lists of functions of stack code: what their reading says of memory. No condition. Arguments that are register code, values and calls: what their reading says of memory. No condition. An instruction as an argument of its own, and a list of numbers beside a number: opened. No condition. Arguments that are lists of functions of stack code: what their reading says of memory. No condition. Arguments that are register code, values and calls: what their reading says of memory. No condition. -/
import Derived.Test.YtcoookehfhhhdaaGreatDoorTy
import Derived.Deep.Slices
import Derived.ChangeSame
import Derived.DeepKeys4
import Derived.Test.YtcoookehfhhhdaaGreatDoorRgD
import Derived.Test.YtcoookehfhhhdaaGreatDoorRinst
namespace Go.Proofs.YtcoookehfhhhdaaGreatDoor.c
open Go.RowKit Go.ChangeShapes Go.WideShapes Go.Deep
set_option linter.unusedVariables false
set_option maxRecDepth 100000
set_option maxHeartbeats 1600000
set_option linter.unusedSimpArgs false
theorem weights_all {H:Type} {P:Program} {e:TypeId} {l:List (DataW H)} {d:DataW H} {x:Nat} (h:d ∈ l) (hx:x ∈ d.weights P e):x ∈ DataW.weightsAll P e l:=by
 induction l with
 | nil=>cases h
 | cons a l ih =>
  rw [DataW.weightsAll,List.mem_append]
  rcases List.mem_cons.1 h with rfl | h
  ·exact .inl hx
  ·exact .inr (ih h)
theorem weights_each {H:Type} {P:Program}:∀ {ts:List TypeId} {ds:List (DataW H)} {j:Nat} {t:TypeId} {d:DataW H} {x:Nat},ts[j]?=some t → ds[j]?=some d → x ∈ d.weights P t → x ∈ DataW.weightsEach P ts ds
 | [],_,_,_,_,_,h,_,_=>by cases h
 | _ :: _,[],_,_,_,_,_,h,_=>by cases h
 | t' :: ts,d' :: ds,0,t,d,x,h,h2,hx=>by
  obtain rfl:t'=t:=Option.some.inj h
  obtain rfl:d'=d:=Option.some.inj h2
  rw [DataW.weightsEach,List.mem_append]
  exact .inl hx
 | t' :: ts,d' :: ds,j + 1,t,d,x,h,h2,hx=>by
  rw [DataW.weightsEach,List.mem_append]
  exact .inr (weights_each (j:=j) h h2 hx)
section
variable {H:Type} {enc:TypeId × Value → H} {w:World} {base:Nat} {spare:Nat → Bool} {held:Bool} {n:Nat} {cs:List Value} {x:DataW H × List MemPlace}
theorem open_ty (h:DataW.trod enc Tryz.prog w base spare held n 42 cs=some x):∃ T:Ty,cs=[.int .i64 T.base,.int .i64 T.bits,.string T.name,.bool T.opt,.bool T.err]:=by
 obtain ⟨xs,m,_,rfl,hlen,hxl,hf⟩:=DataW.trod_struct Tryz.underlying42 h
 have h5:cs.length=5:=hlen.trans (by kernel_rfl)
 have k3:Tryz.prog.cellsOf 3 = 1:=by kernel_rfl
 have k9:Tryz.prog.cellsOf 9 = 1:=by kernel_rfl
 have k4:Tryz.prog.cellsOf 4 = 1:=by kernel_rfl
 match cs,h5 with
 | [c0,c1,c2,c3,c4],_ =>
  match xs,hxl with
  | [y0,y1,y2,y3,y4],_ =>
   obtain ⟨z0,e0,_⟩:=DataW.trod_int Tryz.underlying3 (show _=some y0 by simpa [k3] using hf 0 _ rfl)
   obtain ⟨z1,e1,_⟩:=DataW.trod_int Tryz.underlying3 (show _=some y1 by simpa [k3] using hf 1 _ rfl)
   obtain ⟨z2,e2,_⟩:=DataW.trod_string Tryz.underlying9 (show _=some y2 by simpa [k9] using hf 2 _ rfl)
   obtain ⟨z3,e3,_⟩:=DataW.trod_bool Tryz.underlying4 (show _=some y3 by simpa [k4] using hf 3 _ rfl)
   obtain ⟨z4,e4,_⟩:=DataW.trod_bool Tryz.underlying4 (show _=some y4 by simpa [k4] using hf 4 _ rfl)
   cases e0; cases e1; cases e2; cases e3; cases e4
   exact ⟨⟨z0,z1,z2,z3,z4⟩,rfl⟩
theorem open_many {α:Type} (d0:α) {sz:Nat} (hsz:0 < sz) {t e:TypeId} {C:α → Nat → Value} {p:α → Prop} (ht:Tryz.prog.underlying t=some (.slice e)) (hC:Tryz.prog.cellsOf e=sz) (hB:1 ≤ Tryz.prog.bytesOf e)
  (hw:∀ y,y ∈ x.1.weights Tryz.prog t → y ≤ reachBytes) (h:DataW.trod enc Tryz.prog w base spare held n t cs=some x)
  (one:∀ m cs' (x':DataW H × List MemPlace),(∀ y,y ∈ x'.1.weights Tryz.prog e → y ≤ reachBytes) → DataW.trod enc Tryz.prog w base spare held m e cs'=some x' → ∃ c:α,(∀ j,j < sz → cs'[j]?=some (C c j))∧p c) :
  ∃ A cap,∃ l:List α,cs=[.slice A l.length cap]∧l.length ≤ reachBytes∧At w A l.length sz (fun i j=>C (l.getD i d0) j)∧∀ c,c ∈ l → p c:=by
 rcases open_slice ht h with ⟨rfl,_⟩ | ⟨a,len,cap,m,n,D,Pl,rfl,hb,hl,hm,hmm,rfl,hx⟩
 ·exact ⟨none,0,[],rfl,Nat.zero_le _,At.nil _ _ _ _,fun c hc=>by cases hc⟩
 have hlm:len ≤ m:=by rw [hmm]; split <;> omega
 simp only [DataW.weights,ht] at hw
 have hlen:len ≤ reachBytes:=by
  have h1:=hw _ (List.mem_cons_self ..)
  rw [List.length_map,List.length_range,Nat.add_mul] at h1
  have h2:=Nat.mul_le_mul_left len hB
  omega
 haveI:Inhabited α:=⟨d0⟩
 obtain ⟨F,hF⟩:=choose_lt (α:=α) (n:=len) (p:=fun i c=>(∀ j,j < sz → w.cell? ((a.add (i * sz)).add j)=some (C c j))∧p c) (fun i hi=>by
  obtain ⟨cs',h1,h2⟩:=hx i (by omega)
  obtain ⟨c,h3,h4⟩:=one _ _ _ (fun y hy=>hw y (List.mem_cons_of_mem _ (List.mem_append_left _ (weights_all (List.mem_map.2 ⟨i,List.mem_range.2 hi,rfl⟩) hy)))) h2
  rw [hC] at h1
  obtain ⟨_,_,h5⟩:=World.cells?_some h1
  exact ⟨c,fun j hj=>(h5 j hj).trans (h3 j hj),h4⟩)
 refine ⟨some a,cap,(List.range len).map F,by simp,by simpa using hlen,fun hpos=>?_,fun c hc=>?_⟩
 ·have hpos':0 < len:=by simpa using hpos
  have c0:=(hF 0 hpos').1 0 (by omega)
  rw [Go.Deep.add_add,Nat.zero_mul,Addr.add_zero'] at c0
  obtain ⟨b,off,sp⟩:=a
  obtain rfl:sp=none:=World.cell?_spot c0
  refine ⟨b,off,rfl,?_,fun i j hi hj=>?_⟩
  ·rcases Nat.lt_or_ge b w.heap.size with h1 | h1
   ·exact h1
   ·simp [World.cell?,Array.getElem?_eq_none h1] at c0
  ·have hi':i < len:=by simpa using hi
   have c1:=(hF i hi').1 j hj
   rw [Go.Deep.add_add,add_plain] at c1
   rw [c1]
   simp [List.getD,hi']
 ·obtain ⟨i,hi,rfl⟩:=List.mem_map.1 hc
  exact (hF i (List.mem_range.1 hi)).2
end
section
variable {H:Type} {enc:TypeId × Value → H} {w:World} {base:Nat} {spare:Nat → Bool} {held:Bool} {n:Nat} {cs:List Value} {x:DataW H × List MemPlace}
theorem open_val (h:DataW.trod enc Tryz.prog w base spare held n 50 cs=some x):∃ v:Val,∀ j,j < 13 → cs[j]?=some (valC v j):=by
 obtain ⟨xs,m,_,rfl,hlen,hxl,hf⟩:=DataW.trod_struct Tryz.underlying50 h
 have h5:cs.length=13:=hlen.trans (by kernel_rfl)
 have k3:Tryz.prog.cellsOf 3 = 1:=by kernel_rfl
 have k9:Tryz.prog.cellsOf 9 = 1:=by kernel_rfl
 have k4:Tryz.prog.cellsOf 4 = 1:=by kernel_rfl
 have k5:Tryz.prog.cellsOf 42 = 5:=by kernel_rfl
 match cs,h5 with
 | [c0,c1,c2,c3,c4,c5,c6,c7,c8,c9,c10,c11,c12],_ =>
  match xs,hxl with
  | [y0,y1,y2,y3,y4],_ =>
   obtain ⟨T,e0⟩:=open_ty (show _=some y0 by simpa [k5] using hf 0 _ rfl)
   obtain ⟨z1,e1,_⟩:=DataW.trod_int Tryz.underlying3 (show _=some y1 by simpa [k3] using hf 1 _ rfl)
   obtain ⟨z2,e2,_⟩:=DataW.trod_bool Tryz.underlying4 (show _=some y2 by simpa [k4] using hf 2 _ rfl)
   obtain ⟨z3,e3,_⟩:=DataW.trod_string Tryz.underlying9 (show _=some y3 by simpa [k9] using hf 3 _ rfl)
   obtain ⟨U,e4⟩:=open_ty (show _=some y4 by simpa [k5] using hf 4 _ rfl)
   cases e0; cases e1; cases e2; cases e3; cases e4
   refine ⟨⟨T,z1,z2,z3,U⟩,fun j hj=>?_⟩
   match j,hj with
   | 0,_ | 1,_ | 2,_ | 3,_ | 4,_ | 5,_ | 6,_ | 7,_ | 8,_ | 9,_ | 10,_ | 11,_ | 12,_=>rfl
theorem open_vals (hw:∀ y,y ∈ x.1.weights Tryz.prog 23 → y ≤ reachBytes) (h:DataW.trod enc Tryz.prog w base spare held n 23 cs=some x) :
  ∃ A cap,∃ l:List Val,cs=[.slice A l.length cap]∧l.length ≤ reachBytes∧ValsAt w A l:=by
 obtain ⟨A,cap,l,e,hl,hat,_⟩:=open_many (C:=valC) (p:=fun _=>True) (default:Val) (sz:=13) (by decide) Tryz.underlying23 (by kernel_rfl) (of_decide_eq_true (by kernel_rfl)) hw h (fun m' cs' x' _ h'=>by
  obtain ⟨v,hv⟩:=open_val h'
  exact ⟨v,hv,trivial⟩)
 exact ⟨A,cap,l,e,hl,hat⟩
theorem open_call (hw:∀ y,y ∈ x.1.weights Tryz.prog 25 → y ≤ reachBytes) (h:DataW.trod enc Tryz.prog w base spare held n 25 cs=some x) :
  ∃ nm A cap ck,∃ l:List Val,cs=[.string nm,.slice A l.length cap,.bool ck]∧l.length ≤ reachBytes∧ValsAt w A l:=by
 obtain ⟨xs,m,_,rfl,hlen,hxl,hf⟩:=DataW.trod_struct Tryz.underlying25 h
 have h5:cs.length=3:=hlen.trans (by kernel_rfl)
 have k9:Tryz.prog.cellsOf 9 = 1:=by kernel_rfl
 have k4:Tryz.prog.cellsOf 4 = 1:=by kernel_rfl
 have kc:Tryz.prog.cellsOf 23 = 1:=by kernel_rfl
 match cs,h5 with
 | [c0,c1,c2],_ =>
  match xs,hxl with
  | [y0,y1,y2],_ =>
   obtain ⟨z0,e0,_⟩:=DataW.trod_string Tryz.underlying9 (show _=some y0 by simpa [k9] using hf 0 _ rfl)
   obtain ⟨A,cap,l,e1,hl,hat⟩:=open_vals (fun y hy=>hw y (by
    simp only [DataW.weights,Tryz.underlying25]
    exact weights_each (j:=1) rfl rfl hy)) (show _=some y1 by simpa [kc] using hf 1 _ rfl)
   obtain ⟨z2,e2,_⟩:=DataW.trod_bool Tryz.underlying4 (show _=some y2 by simpa [k4] using hf 2 _ rfl)
   cases e0; cases e1; cases e2
   exact ⟨z0,A,cap,z2,l,rfl,hl,hat⟩
end
section
variable {H:Type} {enc:TypeId × Value → H} {w:World} {base:Nat} {spare:Nat → Bool} {held:Bool} {n:Nat} {cs:List Value} {x:DataW H × List MemPlace}
end
section
variable {H:Type} {enc:TypeId × Value → H} {w:World} {base:Nat} {spare:Nat → Bool} {held:Bool} {n:Nat} {cs:List Value} {x:DataW H × List MemPlace}
theorem open_cd (h:DataW.trod enc Tryz.prog w base spare held n 63 cs=some x):∃ c:Cd,∀ j,j < 9 → cs[j]?=some (cdC c j):=by
 obtain ⟨xs,m,_,rfl,hlen,hxl,hf⟩:=DataW.trod_struct Tryz.underlying63 h
 have h5:cs.length=9:=hlen.trans (by kernel_rfl)
 have k3:Tryz.prog.cellsOf 3 = 1:=by kernel_rfl
 have k9:Tryz.prog.cellsOf 9 = 1:=by kernel_rfl
 have k5:Tryz.prog.cellsOf 42 = 5:=by kernel_rfl
 match cs,h5 with
 | [c0,c1,c2,c3,c4,c5,c6,c7,c8],_ =>
  match xs,hxl with
  | [y0,y1,y2,y3,y4],_ =>
   obtain ⟨z0,e0,_⟩:=DataW.trod_int Tryz.underlying3 (show _=some y0 by simpa [k3] using hf 0 _ rfl)
   obtain ⟨z1,e1,_⟩:=DataW.trod_int Tryz.underlying3 (show _=some y1 by simpa [k3] using hf 1 _ rfl)
   obtain ⟨z2,e2,_⟩:=DataW.trod_int Tryz.underlying3 (show _=some y2 by simpa [k3] using hf 2 _ rfl)
   obtain ⟨T,e3⟩:=open_ty (show _=some y3 by simpa [k5] using hf 3 _ rfl)
   obtain ⟨z4,e4,_⟩:=DataW.trod_string Tryz.underlying9 (show _=some y4 by simpa [k9] using hf 4 _ rfl)
   cases e0; cases e1; cases e2; cases e3; cases e4
   refine ⟨⟨z0,z1,z2,T,z4⟩,fun j hj=>?_⟩
   match j,hj with
   | 0,_ | 1,_ | 2,_ | 3,_ | 4,_ | 5,_ | 6,_ | 7,_ | 8,_=>rfl
theorem open_nine {α:Type} [Inhabited α] {t e:TypeId} {C:α → Nat → Value} {p:α → Prop} (ht:Tryz.prog.underlying t=some (.slice e)) (hC:Tryz.prog.cellsOf e=9) (hB:1 ≤ Tryz.prog.bytesOf e)
  (hw:∀ y,y ∈ x.1.weights Tryz.prog t → y ≤ reachBytes) (h:DataW.trod enc Tryz.prog w base spare held n t cs=some x)
  (one:∀ m cs' (x':DataW H × List MemPlace),(∀ y,y ∈ x'.1.weights Tryz.prog e → y ≤ reachBytes) → DataW.trod enc Tryz.prog w base spare held m e cs'=some x' → ∃ c:α,(∀ j,j < 9 → cs'[j]?=some (C c j))∧p c) :
  ∃ A cap,∃ l:List α,cs=[.slice A l.length cap]∧l.length ≤ reachBytes∧At w A l.length 9 (fun i j=>C (l.getD i default) j)∧∀ c,c ∈ l → p c:=open_many default (by decide) ht hC hB hw h one
theorem open_fc (hw:∀ y,y ∈ x.1.weights Tryz.prog 48 → y ≤ reachBytes) (h:DataW.trod enc Tryz.prog w base spare held n 48 cs=some x):∃ f:Fc,(∀ j,j < 9 → cs[j]?=some (fcC f j))∧(CdAt w f.A f.code∧f.code.length ≤ reachBytes):=by
 obtain ⟨xs,m,_,rfl,hlen,hxl,hf⟩:=DataW.trod_struct Tryz.underlying48 h
 have h5:cs.length=9:=hlen.trans (by kernel_rfl)
 have k3:Tryz.prog.cellsOf 3 = 1:=by kernel_rfl
 have k9:Tryz.prog.cellsOf 9 = 1:=by kernel_rfl
 have k5:Tryz.prog.cellsOf 42 = 5:=by kernel_rfl
 have kc:Tryz.prog.cellsOf 46 = 1:=by kernel_rfl
 match cs,h5 with
 | [c0,c1,c2,c3,c4,c5,c6,c7,c8],_ =>
  match xs,hxl with
  | [y0,y1,y2,y3,y4],_ =>
   obtain ⟨z0,e0,_⟩:=DataW.trod_string Tryz.underlying9 (show _=some y0 by simpa [k9] using hf 0 _ rfl)
   obtain ⟨z1,e1,_⟩:=DataW.trod_int Tryz.underlying3 (show _=some y1 by simpa [k3] using hf 1 _ rfl)
   obtain ⟨z2,e2,_⟩:=DataW.trod_int Tryz.underlying3 (show _=some y2 by simpa [k3] using hf 2 _ rfl)
   obtain ⟨T,e3⟩:=open_ty (show _=some y3 by simpa [k5] using hf 3 _ rfl)
   obtain ⟨A,cap,l,e4,hl,hat,_⟩:=open_nine (C:=cdC) (p:=fun _=>True) Tryz.underlying46 (by kernel_rfl) (of_decide_eq_true (by kernel_rfl)) (fun y hy=>hw y (by
    simp only [DataW.weights,Tryz.underlying48]
    exact weights_each (j:=4) rfl rfl hy)) (show _=some y4 by simpa [kc] using hf 4 _ rfl) (fun m' cs' x' _ h'=>by
     obtain ⟨c,hc⟩:=open_cd h'
     exact ⟨c,hc,trivial⟩)
   cases e0; cases e1; cases e2; cases e3; cases e4
   refine ⟨⟨z0,z1,z2,T,A,cap,l⟩,fun j hj=>?_,hat,hl⟩
   match j,hj with
   | 0,_ | 1,_ | 2,_ | 3,_ | 4,_ | 5,_ | 6,_ | 7,_ | 8,_=>rfl
theorem open_fcs (hw:∀ y,y ∈ x.1.weights Tryz.prog 22 → y ≤ reachBytes) (h:DataW.trod enc Tryz.prog w base spare held n 22 cs=some x) :
  ∃ A cap,∃ l:List Fc,cs=[.slice A l.length cap]∧l.length ≤ reachBytes∧FcAt w A l∧∀ f,f ∈ l → f.code.length ≤ reachBytes:=by
 obtain ⟨A,cap,l,e,hl,hat,hp⟩:=open_nine (C:=fcC) (p:=fun f=>CdAt w f.A f.code∧f.code.length ≤ reachBytes) Tryz.underlying22 (by kernel_rfl) (of_decide_eq_true (by kernel_rfl)) hw h (fun m' cs' x' hw' h'=>open_fc hw' h')
 exact ⟨A,cap,l,e,hl,⟨hat,fun f hf=>(hp f hf).1⟩,fun f hf=>(hp f hf).2⟩
end
section
variable {H:Type} {enc:TypeId × Value → H} {w:World} {base:Nat} {spare:Nat → Bool} {held:Bool} {n:Nat} {cs:List Value} {x:DataW H × List MemPlace}
end
end Go.Proofs.YtcoookehfhhhdaaGreatDoor.c
