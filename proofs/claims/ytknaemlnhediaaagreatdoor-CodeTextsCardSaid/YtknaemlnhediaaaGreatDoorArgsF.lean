/- Arguments that are lists of functions of stack code: what their reading says of memory. No condition. Arguments that are register code, values and calls: what their reading says of memory. No condition. -/
import Derived.Test.YtknaemlnhediaaaGreatDoorArgsG
import Derived.Deep.Slices
import Derived.ChangeSame
import Derived.DeepKeys4
namespace Go.Proofs.YtknaemlnhediaaaGreatDoor.c
set_option linter.unusedVariables false
set_option maxRecDepth 100000
set_option maxHeartbeats 1600000
set_option linter.unusedSimpArgs false
open Go.RowKit Go.ChangeShapes Go.WideShapes Go.Deep
section
variable {H:Type} {enc:TypeId × Value → H} {w:World} {base:Nat} {spare:Nat → Bool} {held:Bool} {n:Nat} {cs:List Value} {x:DataW H × List MemPlace}
theorem open_cd (h:DataW.trod enc Tryz.prog w base spare held n 93 cs=some x):∃ c:Cd,∀ j,j < 9 → cs[j]?=some (cdC c j):=by
 obtain ⟨xs,m,_,rfl,hlen,hxl,hf⟩:=DataW.trod_struct Tryz.underlying93 h
 have h5:cs.length=9:=hlen.trans (by kernel_rfl)
 have k3:Tryz.prog.cellsOf 3 = 1:=by kernel_rfl
 have k9:Tryz.prog.cellsOf 9 = 1:=by kernel_rfl
 have k5:Tryz.prog.cellsOf 35 = 5:=by kernel_rfl
 match cs,h5 with
 | [c0,c1,c2,c3,c4,c5,c6,c7,c8],_ =>
  match xs,hxl with
  | [y0,y1,y2,y3,y4],_ =>
   obtain ⟨z0,e0,_⟩:=DataW.trod_int Tryz.underlying3 (show _=some y0 by simpa [k3] using hf 0 _ rfl)
   obtain ⟨z1,e1,_⟩:=DataW.trod_int Tryz.underlying3 (show _=some y1 by simpa [k3] using hf 1 _ rfl)
   obtain ⟨z2,e2,_⟩:=DataW.trod_int Tryz.underlying3 (show _=some y2 by simpa [k3] using hf 2 _ rfl)
   obtain ⟨T,e3⟩:=open_ty (show _=some y3 by simpa [k5] using hf 3 _ rfl)
   obtain ⟨z4,e4,_⟩:=DataW.trod_string Tryz.underlying9 (show _=some y4 by simpa [k9] using hf 4 _ rfl)
   cases e0; cases e1; cases e2; cases e3; cases e4
   refine ⟨⟨z0,z1,z2,T,z4⟩,fun j hj=>?_⟩
   match j,hj with
   | 0,_ | 1,_ | 2,_ | 3,_ | 4,_ | 5,_ | 6,_ | 7,_ | 8,_=>rfl
theorem open_nine {α:Type} [Inhabited α] {t e:TypeId} {C:α → Nat → Value} {p:α → Prop} (ht:Tryz.prog.underlying t=some (.slice e)) (hC:Tryz.prog.cellsOf e=9) (hB:1 ≤ Tryz.prog.bytesOf e)
  (hw:∀ y,y ∈ x.1.weights Tryz.prog t → y ≤ reachBytes) (h:DataW.trod enc Tryz.prog w base spare held n t cs=some x)
  (one:∀ m cs' (x':DataW H × List MemPlace),(∀ y,y ∈ x'.1.weights Tryz.prog e → y ≤ reachBytes) → DataW.trod enc Tryz.prog w base spare held m e cs'=some x' → ∃ c:α,(∀ j,j < 9 → cs'[j]?=some (C c j))∧p c) :
  ∃ A cap,∃ l:List α,cs=[.slice A l.length cap]∧l.length ≤ reachBytes∧At w A l.length 9 (fun i j=>C (l.getD i default) j)∧∀ c,c ∈ l → p c:=open_many default (by decide) ht hC hB hw h one
theorem open_strs_at (hw:∀ y,y ∈ x.1.weights Tryz.prog 38 → y ≤ reachBytes) (h:DataW.trod enc Tryz.prog w base spare held n 38 cs=some x) :
  ∃ A cap,∃ l:List ByteArray,cs=[.slice A l.length cap]∧l.length ≤ reachBytes∧At w A l.length 1 (fun i _=>.string (l.getD i ⟨#[]⟩)):=by
 obtain ⟨A,cap,l,e,hl,hat,_⟩:=open_many (C:=fun (s:ByteArray) _=>Value.string s) (p:=fun _=>True) (⟨#[]⟩:ByteArray) (sz:=1) (by decide) Tryz.underlying38 (by kernel_rfl) (of_decide_eq_true (by kernel_rfl)) hw h (fun m' cs' x' _ h'=>by
  obtain ⟨z,e,_⟩:=DataW.trod_string Tryz.underlying9 h'
  cases e
  refine ⟨z,fun j hj=>?_,trivial⟩
  obtain rfl:j=0:=by omega
  rfl)
 exact ⟨A,cap,l,e,hl,hat⟩
theorem open_fc (hw:∀ y,y ∈ x.1.weights Tryz.prog 62 → y ≤ reachBytes) (h:DataW.trod enc Tryz.prog w base spare held n 62 cs=some x):∃ f:Fc,(∀ j,j < 9 → cs[j]?=some (fcC f j))∧(CdAt w f.A f.code∧f.code.length ≤ reachBytes):=by
 obtain ⟨xs,m,_,rfl,hlen,hxl,hf⟩:=DataW.trod_struct Tryz.underlying62 h
 have h5:cs.length=9:=hlen.trans (by kernel_rfl)
 have k3:Tryz.prog.cellsOf 3 = 1:=by kernel_rfl
 have k9:Tryz.prog.cellsOf 9 = 1:=by kernel_rfl
 have k5:Tryz.prog.cellsOf 35 = 5:=by kernel_rfl
 have kc:Tryz.prog.cellsOf 60 = 1:=by kernel_rfl
 match cs,h5 with
 | [c0,c1,c2,c3,c4,c5,c6,c7,c8],_ =>
  match xs,hxl with
  | [y0,y1,y2,y3,y4],_ =>
   obtain ⟨z0,e0,_⟩:=DataW.trod_string Tryz.underlying9 (show _=some y0 by simpa [k9] using hf 0 _ rfl)
   obtain ⟨z1,e1,_⟩:=DataW.trod_int Tryz.underlying3 (show _=some y1 by simpa [k3] using hf 1 _ rfl)
   obtain ⟨z2,e2,_⟩:=DataW.trod_int Tryz.underlying3 (show _=some y2 by simpa [k3] using hf 2 _ rfl)
   obtain ⟨T,e3⟩:=open_ty (show _=some y3 by simpa [k5] using hf 3 _ rfl)
   obtain ⟨A,cap,l,e4,hl,hat,_⟩:=open_nine (C:=cdC) (p:=fun _=>True) Tryz.underlying60 (by kernel_rfl) (of_decide_eq_true (by kernel_rfl)) (fun y hy=>hw y (by
    simp only [DataW.weights,Tryz.underlying62]
    exact weights_each (j:=4) rfl rfl hy)) (show _=some y4 by simpa [kc] using hf 4 _ rfl) (fun m' cs' x' _ h'=>by
     obtain ⟨c,hc⟩:=open_cd h'
     exact ⟨c,hc,trivial⟩)
   cases e0; cases e1; cases e2; cases e3; cases e4
   refine ⟨⟨z0,z1,z2,T,A,cap,l⟩,fun j hj=>?_,hat,hl⟩
   match j,hj with
   | 0,_ | 1,_ | 2,_ | 3,_ | 4,_ | 5,_ | 6,_ | 7,_ | 8,_=>rfl
theorem open_fcs (hw:∀ y,y ∈ x.1.weights Tryz.prog 22 → y ≤ reachBytes) (h:DataW.trod enc Tryz.prog w base spare held n 22 cs=some x) :
  ∃ A cap,∃ l:List Fc,cs=[.slice A l.length cap]∧l.length ≤ reachBytes∧FcAt w A l∧∀ f,f ∈ l → f.code.length ≤ reachBytes:=by
 obtain ⟨A,cap,l,e,hl,hat,hp⟩:=open_nine (C:=fcC) (p:=fun f=>CdAt w f.A f.code∧f.code.length ≤ reachBytes) Tryz.underlying22 (by kernel_rfl) (of_decide_eq_true (by kernel_rfl)) hw h (fun m' cs' x' hw' h'=>open_fc hw' h')
 exact ⟨A,cap,l,e,hl,⟨hat,fun f hf=>(hp f hf).1⟩,fun f hf=>(hp f hf).2⟩
end
section
variable {H:Type} {enc:TypeId × Value → H} {w:World} {base:Nat} {spare:Nat → Bool} {held:Bool} {n:Nat} {cs:List Value} {x:DataW H × List MemPlace}
end
end Go.Proofs.YtknaemlnhediaaaGreatDoor.c
