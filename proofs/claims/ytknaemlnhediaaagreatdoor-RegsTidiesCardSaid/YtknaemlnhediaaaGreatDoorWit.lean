/- What the rows of this seat ask ahead of their contracts: the tables as the text lays them, a world for the witness. Arguments that are lists of functions of stack code: what their reading says of memory. No condition. Arguments that are register code, values and calls: what their reading says of memory. No condition. An instruction as an argument of its own, and a list of numbers beside a number: opened. No condition. -/
import Derived.Test.YtknaemlnhediaaaGreatDoorCards
import Derived.Test.YtknaemlnhediaaaGreatDoorTie
import Derived.Test.YtknaemlnhediaaaGreatDoorName
import Derived.Test.YtknaemlnhediaaaGreatDoorLex
import Derived.WalkKit
import Derived.ProofKit
import Derived.OpenShut
import Derived.Deep.DeepHandedRow
import Derived.Deep.DeepWitnessRowRef
import Derived.Lib.LaidTab
import Derived.Lib.LaidU8
import Derived.Carry
import Derived.Test.YtknaemlnhediaaaGreatDoorData
import Derived.Deep.Slices
import Derived.ChangeSame
import Derived.Test.YtknaemlnhediaaaGreatDoorRgD
import Derived.Test.YtknaemlnhediaaaGreatDoorRinst
import Derived.DeepKeys4
namespace Go.Proofs.YtknaemlnhediaaaGreatDoor.c
open Go.ChangeShapes Go.WideShapes Go.ChangeAt Go.RowKit
set_option linter.unusedVariables false
set_option maxRecDepth 100000
set_option maxHeartbeats 1600000
set_option linter.unusedSimpArgs false
theorem own:ownKnob Tryz.prog.godebug=none:=by kernel_rfl
theorem gTab:Tryz.prog.globalNamed "strings.asciiSpace" = some 2 := by kernel_rfl
theorem gTabType:(Tryz.prog.globals[2]?).map (·.type)=some 329 := by kernel_rfl
theorem cells256:Tryz.prog.cellsOf 329 = 256:=by kernel_rfl
theorem cells5:Tryz.prog.cellsOf 5 = 1:=by kernel_rfl
theorem tabData_eq:(Rows.laid_strings_asciiSpace:DataW Unit)=Lib.tabData .u8 Lib.asciiSpaceTab:=by kernel_rfl
theorem laid_of {W:World} (h:laidMetH Tryz.prog [("unicode.White_Space",Rows.laid_unicode_White_Space),("strings.asciiSpace",Rows.laid_strings_asciiSpace)] W):Laid W:=by
 have h':laidMet Tryz.prog [("unicode.White_Space",Rows.laid_unicode_White_Space),("strings.asciiSpace",Rows.laid_strings_asciiSpace)] W:=h
 obtain ⟨g',t',cs,fuel,p,hg',ht',hvar,hd⟩:=Lib.laidMet.reads h' (.tail _ (.head _))
 obtain rfl:=Option.some.inj (gTab.symm.trans hg')
 obtain rfl:=Option.some.inj (gTabType.symm.trans ht')
 rw [tabData_eq] at hd
 unfold Laid Lib.TabIs
 rw [hvar,← Lib.cells_of_tab Tryz.underlying329 Tryz.underlying5 cells5 cells256 hd]
noncomputable def laidWorld (os:Os):World :=
 let N:=(World.settled Tryz.prog os).heap.size
 let w0:=World.holding Tryz.prog os ⟨#[.cells (Lib.whiteT.map fun (z:Nat)=>Value.int .u16 (z:Int)).toArray 370,.cells #[.slice (some ⟨N,0,none⟩) 7 7,.slice none 0 0,.int .i64 2] 367],#[],[]⟩
 let put (h:Array Obj) (g:Nat) (cs:Array Value):Array Obj:=h.modify g fun
  | .cells _ t frozen=>.cells cs t frozen
  | o=>o
 let h1:=put w0.heap 2 (Lib.asciiSpaceTab.map fun z=>Value.int .u8 z).toArray
 let h2:=put h1 3 #[.pointer (some ⟨N + 1,0,none⟩)]
 { w0 with heap:=h2 }
theorem laid_met2 (os:Os) (a b:Value):laidMet Tryz.prog [("unicode.White_Space",Rows.laid_unicode_White_Space),("strings.asciiSpace",Rows.laid_strings_asciiSpace)] ((laidWorld os).forCall (fun _ _=>0) ⟨#[],#[a,b],[]⟩).memory :=
 laidMet_of_run' 8 (by kernel_rfl) (by kernel_rfl)
section
variable {H:Type} {enc:TypeId × Value → H} {P:Program}
theorem post_below {f:Func} {s:ChangeSpec} {apart fresh handsOn:Bool} {W W':World} {args:Array Value} {v:Value} {ds gs:List (DataW H)} {before pa pv:List MemPlace}
  (hW:DataW.Whole enc P f.params.toList s.vars apart W args.toList ds gs before)
  (hres:∀ (b:Nat) (sp:Nat → Bool) (hd:Bool),DataW.TrodAll enc P W' b sp hd f.resultTypes.toList (v.resultList f.resultTypes.size) (s.fn H (ds ++ gs)).results [])
  (hargs:DataW.TrodAll enc P W' 0 (fun b=>decide (b < W.heap.size)) true f.params.toList args.toList (s.fn H (ds ++ gs)).args pa)
  (hvars:DataW.TrodVars enc P W' (fun b=>decide (b < W.heap.size)) s.vars (s.fn H (ds ++ gs)).vars pv)
  (hps:before=pa ++ pv) (hb:Below W.heap.size W W') :
  s.post enc P f apart fresh handsOn false W args v W':=by
 have hlt:∀ p ∈ before,p.block < W.heap.size:=fun p hp=>hW.lt p hp
 refine ⟨ds,gs,before,[],pa,pv,hW,hres _ _ _,hargs,hvars,World.keptBut_mono (fun p hp=>⟨hp,?_⟩) (hb.frame (· ∈ before)),fun h=>by cases h⟩
 rw [hps,List.mem_append] at hp
 exact Or.inr hp
end
open Go.RowKit Go.ChangeShapes Go.WideShapes Go.Deep
theorem weights_all {H:Type} {P:Program} {e:TypeId} {l:List (DataW H)} {d:DataW H} {x:Nat} (h:d ∈ l) (hx:x ∈ d.weights P e):x ∈ DataW.weightsAll P e l:=by
 induction l with
 | nil=>cases h
 | cons a l ih =>
  rw [DataW.weightsAll,List.mem_append]
  rcases List.mem_cons.1 h with rfl | h
  ·exact .inl hx
  ·exact .inr (ih h)
theorem weights_each {H:Type} {P:Program}:∀ {ts:List TypeId} {ds:List (DataW H)} {j:Nat} {t:TypeId} {d:DataW H} {x:Nat},ts[j]?=some t → ds[j]?=some d → x ∈ d.weights P t → x ∈ DataW.weightsEach P ts ds
 | [],_,_,_,_,_,h,_,_=>by cases h
 | _ :: _,[],_,_,_,_,_,h,_=>by cases h
 | t' :: ts,d' :: ds,0,t,d,x,h,h2,hx=>by
  obtain rfl:t'=t:=Option.some.inj h
  obtain rfl:d'=d:=Option.some.inj h2
  rw [DataW.weightsEach,List.mem_append]
  exact .inl hx
 | t' :: ts,d' :: ds,j + 1,t,d,x,h,h2,hx=>by
  rw [DataW.weightsEach,List.mem_append]
  exact .inr (weights_each (j:=j) h h2 hx)
section
variable {H:Type} {enc:TypeId × Value → H} {w:World} {base:Nat} {spare:Nat → Bool} {held:Bool} {n:Nat} {cs:List Value} {x:DataW H × List MemPlace}
theorem open_ty (h:DataW.trod enc Tryz.prog w base spare held n 35 cs=some x):∃ T:Ty,cs=[.int .i64 T.base,.int .i64 T.bits,.string T.name,.bool T.opt,.bool T.err]:=by
 obtain ⟨xs,m,_,rfl,hlen,hxl,hf⟩:=DataW.trod_struct Tryz.underlying35 h
 have h5:cs.length=5:=hlen.trans (by kernel_rfl)
 have k3:Tryz.prog.cellsOf 3 = 1:=by kernel_rfl
 have k9:Tryz.prog.cellsOf 9 = 1:=by kernel_rfl
 have k4:Tryz.prog.cellsOf 4 = 1:=by kernel_rfl
 match cs,h5 with
 | [c0,c1,c2,c3,c4],_ =>
  match xs,hxl with
  | [y0,y1,y2,y3,y4],_ =>
   obtain ⟨z0,e0,_⟩:=DataW.trod_int Tryz.underlying3 (show _=some y0 by simpa [k3] using hf 0 _ rfl)
   obtain ⟨z1,e1,_⟩:=DataW.trod_int Tryz.underlying3 (show _=some y1 by simpa [k3] using hf 1 _ rfl)
   obtain ⟨z2,e2,_⟩:=DataW.trod_string Tryz.underlying9 (show _=some y2 by simpa [k9] using hf 2 _ rfl)
   obtain ⟨z3,e3,_⟩:=DataW.trod_bool Tryz.underlying4 (show _=some y3 by simpa [k4] using hf 3 _ rfl)
   obtain ⟨z4,e4,_⟩:=DataW.trod_bool Tryz.underlying4 (show _=some y4 by simpa [k4] using hf 4 _ rfl)
   cases e0; cases e1; cases e2; cases e3; cases e4
   exact ⟨⟨z0,z1,z2,z3,z4⟩,rfl⟩
theorem open_many {α:Type} (d0:α) {sz:Nat} (hsz:0 < sz) {t e:TypeId} {C:α → Nat → Value} {p:α → Prop} (ht:Tryz.prog.underlying t=some (.slice e)) (hC:Tryz.prog.cellsOf e=sz) (hB:1 ≤ Tryz.prog.bytesOf e)
  (hw:∀ y,y ∈ x.1.weights Tryz.prog t → y ≤ reachBytes) (h:DataW.trod enc Tryz.prog w base spare held n t cs=some x)
  (one:∀ m cs' (x':DataW H × List MemPlace),(∀ y,y ∈ x'.1.weights Tryz.prog e → y ≤ reachBytes) → DataW.trod enc Tryz.prog w base spare held m e cs'=some x' → ∃ c:α,(∀ j,j < sz → cs'[j]?=some (C c j))∧p c) :
  ∃ A cap,∃ l:List α,cs=[.slice A l.length cap]∧l.length ≤ reachBytes∧At w A l.length sz (fun i j=>C (l.getD i d0) j)∧∀ c,c ∈ l → p c:=by
 rcases open_slice ht h with ⟨rfl,_⟩ | ⟨a,len,cap,m,n,D,Pl,rfl,hb,hl,hm,hmm,rfl,hx⟩
 ·exact ⟨none,0,[],rfl,Nat.zero_le _,At.nil _ _ _ _,fun c hc=>by cases hc⟩
 have hlm:len ≤ m:=by rw [hmm]; split <;> omega
 simp only [DataW.weights,ht] at hw
 have hlen:len ≤ reachBytes:=by
  have h1:=hw _ (List.mem_cons_self ..)
  rw [List.length_map,List.length_range,Nat.add_mul] at h1
  have h2:=Nat.mul_le_mul_left len hB
  omega
 haveI:Inhabited α:=⟨d0⟩
 obtain ⟨F,hF⟩:=choose_lt (α:=α) (n:=len) (p:=fun i c=>(∀ j,j < sz → w.cell? ((a.add (i * sz)).add j)=some (C c j))∧p c) (fun i hi=>by
  obtain ⟨cs',h1,h2⟩:=hx i (by omega)
  obtain ⟨c,h3,h4⟩:=one _ _ _ (fun y hy=>hw y (List.mem_cons_of_mem _ (List.mem_append_left _ (weights_all (List.mem_map.2 ⟨i,List.mem_range.2 hi,rfl⟩) hy)))) h2
  rw [hC] at h1
  obtain ⟨_,_,h5⟩:=World.cells?_some h1
  exact ⟨c,fun j hj=>(h5 j hj).trans (h3 j hj),h4⟩)
 refine ⟨some a,cap,(List.range len).map F,by simp,by simpa using hlen,fun hpos=>?_,fun c hc=>?_⟩
 ·have hpos':0 < len:=by simpa using hpos
  have c0:=(hF 0 hpos').1 0 (by omega)
  rw [Go.Deep.add_add,Nat.zero_mul,Addr.add_zero'] at c0
  obtain ⟨b,off,sp⟩:=a
  obtain rfl:sp=none:=World.cell?_spot c0
  refine ⟨b,off,rfl,?_,fun i j hi hj=>?_⟩
  ·rcases Nat.lt_or_ge b w.heap.size with h1 | h1
   ·exact h1
   ·simp [World.cell?,Array.getElem?_eq_none h1] at c0
  ·have hi':i < len:=by simpa using hi
   have c1:=(hF i hi').1 j hj
   rw [Go.Deep.add_add,add_plain] at c1
   rw [c1]
   simp [List.getD,hi']
 ·obtain ⟨i,hi,rfl⟩:=List.mem_map.1 hc
  exact (hF i (List.mem_range.1 hi)).2
end
theorem laid_out:laidOutB Tryz.prog=true:=by kernel_rfl
section
variable {H:Type} {enc:TypeId × Value → H} {w:World} {base:Nat} {spare:Nat → Bool} {held:Bool} {n:Nat} {cs:List Value} {x:DataW H × List MemPlace}
theorem in64_wf {z:Int} (h:(Lit.int .i64 z).wf=true):In64 z:=by
 unfold Lit.wf at h
 simp only [Bool.and_eq_true,decide_eq_true_eq] at h
 exact h
theorem open_nums (hw:∀ y,y ∈ x.1.weights Tryz.prog 65 → y ≤ reachBytes) (h:DataW.trod enc Tryz.prog w base spare held n 65 cs=some x) :
  ∃ A cap,∃ l:List Int,cs=[.slice A l.length cap]∧l.length ≤ reachBytes∧NumsAt w A l∧∀ z,z ∈ l → In64 z:=by
 obtain ⟨A,cap,l,e,hl,hat,hin⟩:=open_many (C:=fun (z:Int) _=>Value.int .i64 z) (p:=fun z=>In64 z) (0:Int) (sz:=1) (by decide) Tryz.underlying65 (by kernel_rfl) (of_decide_eq_true (by kernel_rfl)) hw h (fun m' cs' x' _ h'=>by
  obtain ⟨z,e,_,hz⟩:=DataW.trod_int Tryz.underlying3 h'
  cases e
  refine ⟨z,fun j hj=>?_,in64_wf hz⟩
  obtain rfl:j=0:=by omega
  rfl)
 exact ⟨A,cap,l,e,hl,hat,hin⟩
theorem open_rg (hw:∀ y,y ∈ x.1.weights Tryz.prog 67 → y ≤ reachBytes) (h:DataW.trod enc Tryz.prog w base spare held n 67 cs=some x) :
  ∃ r:Rg,(∀ j,j < 11 → cs[j]?=some (rgC r j))∧(NumsAt w r.A r.args∧In64 r.op∧r.args.length ≤ reachBytes):=by
 obtain ⟨xs,m,_,rfl,hlen,hxl,hf⟩:=DataW.trod_struct Tryz.underlying67 h
 have h5:cs.length=11:=hlen.trans (by kernel_rfl)
 have k3:Tryz.prog.cellsOf 3 = 1:=by kernel_rfl
 have k9:Tryz.prog.cellsOf 9 = 1:=by kernel_rfl
 have k5:Tryz.prog.cellsOf 35 = 5:=by kernel_rfl
 have kc:Tryz.prog.cellsOf 65 = 1:=by kernel_rfl
 match cs,h5 with
 | [c0,c1,c2,c3,c4,c5,c6,c7,c8,c9,c10],_ =>
  match xs,hxl with
  | [y0,y1,y2,y3,y4,y5,y6],_ =>
   obtain ⟨z0,e0,_,i0⟩:=DataW.trod_int Tryz.underlying3 (show _=some y0 by simpa [k3] using hf 0 _ rfl)
   obtain ⟨z1,e1,_⟩:=DataW.trod_int Tryz.underlying3 (show _=some y1 by simpa [k3] using hf 1 _ rfl)
   obtain ⟨z2,e2,_⟩:=DataW.trod_int Tryz.underlying3 (show _=some y2 by simpa [k3] using hf 2 _ rfl)
   obtain ⟨z3,e3,_⟩:=DataW.trod_int Tryz.underlying3 (show _=some y3 by simpa [k3] using hf 3 _ rfl)
   obtain ⟨T,e4⟩:=open_ty (show _=some y4 by simpa [k5] using hf 4 _ rfl)
   obtain ⟨z5,e5,_⟩:=DataW.trod_string Tryz.underlying9 (show _=some y5 by simpa [k9] using hf 5 _ rfl)
   obtain ⟨A,cap,l,e6,hl,hat,_⟩:=open_nums (fun y hy=>hw y (by
    simp only [DataW.weights,Tryz.underlying67]
    exact weights_each (j:=6) rfl rfl hy)) (show _=some y6 by simpa [kc] using hf 6 _ rfl)
   cases e0; cases e1; cases e2; cases e3; cases e4; cases e5; cases e6
   refine ⟨⟨z0,z1,z2,z3,T,z5,A,cap,l⟩,fun j hj=>?_,hat,in64_wf i0,hl⟩
   match j,hj with
   | 0,_ | 1,_ | 2,_ | 3,_ | 4,_ | 5,_ | 6,_ | 7,_ | 8,_ | 9,_ | 10,_=>rfl
theorem open_rf (hw:∀ y,y ∈ x.1.weights Tryz.prog 59 → y ≤ reachBytes) (h:DataW.trod enc Tryz.prog w base spare held n 59 cs=some x) :
  ∃ f:Rf,(∀ j,j < 9 → cs[j]?=some (rfC f j))∧(RgAt w f.A f.code∧f.code.length ≤ reachBytes∧∀ r,r ∈ f.code → In64 r.op∧r.args.length ≤ reachBytes):=by
 obtain ⟨xs,m,_,rfl,hlen,hxl,hf⟩:=DataW.trod_struct Tryz.underlying59 h
 have h5:cs.length=9:=hlen.trans (by kernel_rfl)
 have k3:Tryz.prog.cellsOf 3 = 1:=by kernel_rfl
 have k9:Tryz.prog.cellsOf 9 = 1:=by kernel_rfl
 have k5:Tryz.prog.cellsOf 35 = 5:=by kernel_rfl
 have kc:Tryz.prog.cellsOf 57 = 1:=by kernel_rfl
 match cs,h5 with
 | [c0,c1,c2,c3,c4,c5,c6,c7,c8],_ =>
  match xs,hxl with
  | [y0,y1,y2,y3,y4],_ =>
   obtain ⟨z0,e0,_⟩:=DataW.trod_string Tryz.underlying9 (show _=some y0 by simpa [k9] using hf 0 _ rfl)
   obtain ⟨z1,e1,_⟩:=DataW.trod_int Tryz.underlying3 (show _=some y1 by simpa [k3] using hf 1 _ rfl)
   obtain ⟨z2,e2,_⟩:=DataW.trod_int Tryz.underlying3 (show _=some y2 by simpa [k3] using hf 2 _ rfl)
   obtain ⟨T,e3⟩:=open_ty (show _=some y3 by simpa [k5] using hf 3 _ rfl)
   obtain ⟨A,cap,l,e4,hl,hat,hp⟩:=open_many (C:=rgC) (p:=fun r=>NumsAt w r.A r.args∧In64 r.op∧r.args.length ≤ reachBytes) (default:Rg) (sz:=11) (by decide) Tryz.underlying57 (by kernel_rfl) (of_decide_eq_true (by kernel_rfl)) (fun y hy=>hw y (by
    simp only [DataW.weights,Tryz.underlying59]
    exact weights_each (j:=4) rfl rfl hy)) (show _=some y4 by simpa [kc] using hf 4 _ rfl) (fun m' cs' x' hw' h'=>open_rg hw' h')
   cases e0; cases e1; cases e2; cases e3; cases e4
   refine ⟨⟨z0,z1,z2,T,A,cap,l⟩,fun j hj=>?_,⟨hat,fun r hr=>(hp r hr).1⟩,hl,fun r hr=>(hp r hr).2⟩
   match j,hj with
   | 0,_ | 1,_ | 2,_ | 3,_ | 4,_ | 5,_ | 6,_ | 7,_ | 8,_=>rfl
theorem open_rfs (hw:∀ y,y ∈ x.1.weights Tryz.prog 29 → y ≤ reachBytes) (h:DataW.trod enc Tryz.prog w base spare held n 29 cs=some x) :
  ∃ A cap,∃ l:List Rf,cs=[.slice A l.length cap]∧l.length ≤ reachBytes∧RfAt w A l∧(∀ f,f ∈ l → f.code.length ≤ reachBytes)∧RgsIn l:=by
 obtain ⟨A,cap,l,e,hl,hat,hp⟩:=open_many (C:=rfC) (p:=fun f=>RgAt w f.A f.code∧f.code.length ≤ reachBytes∧∀ r,r ∈ f.code → In64 r.op∧r.args.length ≤ reachBytes) (default:Rf) (sz:=9) (by decide) Tryz.underlying29 (by kernel_rfl) (of_decide_eq_true (by kernel_rfl)) hw h (fun m' cs' x' hw' h'=>open_rf hw' h')
 have hr:reachBytes ≤ 140737488355328:=by decide
 exact ⟨A,cap,l,e,hl,⟨hat,fun f hf=>(hp f hf).1⟩,fun f hf=>(hp f hf).2.1,fun f hf r hr2=>⟨((hp f hf).2.2 r hr2).1,by have:=((hp f hf).2.2 r hr2).2; omega⟩⟩
theorem open_val (h:DataW.trod enc Tryz.prog w base spare held n 37 cs=some x):∃ v:Val,∀ j,j < 13 → cs[j]?=some (valC v j):=by
 obtain ⟨xs,m,_,rfl,hlen,hxl,hf⟩:=DataW.trod_struct Tryz.underlying37 h
 have h5:cs.length=13:=hlen.trans (by kernel_rfl)
 have k3:Tryz.prog.cellsOf 3 = 1:=by kernel_rfl
 have k9:Tryz.prog.cellsOf 9 = 1:=by kernel_rfl
 have k4:Tryz.prog.cellsOf 4 = 1:=by kernel_rfl
 have k5:Tryz.prog.cellsOf 35 = 5:=by kernel_rfl
 match cs,h5 with
 | [c0,c1,c2,c3,c4,c5,c6,c7,c8,c9,c10,c11,c12],_ =>
  match xs,hxl with
  | [y0,y1,y2,y3,y4],_ =>
   obtain ⟨T,e0⟩:=open_ty (show _=some y0 by simpa [k5] using hf 0 _ rfl)
   obtain ⟨z1,e1,_⟩:=DataW.trod_int Tryz.underlying3 (show _=some y1 by simpa [k3] using hf 1 _ rfl)
   obtain ⟨z2,e2,_⟩:=DataW.trod_bool Tryz.underlying4 (show _=some y2 by simpa [k4] using hf 2 _ rfl)
   obtain ⟨z3,e3,_⟩:=DataW.trod_string Tryz.underlying9 (show _=some y3 by simpa [k9] using hf 3 _ rfl)
   obtain ⟨U,e4⟩:=open_ty (show _=some y4 by simpa [k5] using hf 4 _ rfl)
   cases e0; cases e1; cases e2; cases e3; cases e4
   refine ⟨⟨T,z1,z2,z3,U⟩,fun j hj=>?_⟩
   match j,hj with
   | 0,_ | 1,_ | 2,_ | 3,_ | 4,_ | 5,_ | 6,_ | 7,_ | 8,_ | 9,_ | 10,_ | 11,_ | 12,_=>rfl
theorem open_vals (hw:∀ y,y ∈ x.1.weights Tryz.prog 30 → y ≤ reachBytes) (h:DataW.trod enc Tryz.prog w base spare held n 30 cs=some x) :
  ∃ A cap,∃ l:List Val,cs=[.slice A l.length cap]∧l.length ≤ reachBytes∧ValsAt w A l:=by
 obtain ⟨A,cap,l,e,hl,hat,_⟩:=open_many (C:=valC) (p:=fun _=>True) (default:Val) (sz:=13) (by decide) Tryz.underlying30 (by kernel_rfl) (of_decide_eq_true (by kernel_rfl)) hw h (fun m' cs' x' _ h'=>by
  obtain ⟨v,hv⟩:=open_val h'
  exact ⟨v,hv,trivial⟩)
 exact ⟨A,cap,l,e,hl,hat⟩
theorem open_call (hw:∀ y,y ∈ x.1.weights Tryz.prog 32 → y ≤ reachBytes) (h:DataW.trod enc Tryz.prog w base spare held n 32 cs=some x) :
  ∃ nm A cap ck,∃ l:List Val,cs=[.string nm,.slice A l.length cap,.bool ck]∧l.length ≤ reachBytes∧ValsAt w A l:=by
 obtain ⟨xs,m,_,rfl,hlen,hxl,hf⟩:=DataW.trod_struct Tryz.underlying32 h
 have h5:cs.length=3:=hlen.trans (by kernel_rfl)
 have k9:Tryz.prog.cellsOf 9 = 1:=by kernel_rfl
 have k4:Tryz.prog.cellsOf 4 = 1:=by kernel_rfl
 have kc:Tryz.prog.cellsOf 30 = 1:=by kernel_rfl
 match cs,h5 with
 | [c0,c1,c2],_ =>
  match xs,hxl with
  | [y0,y1,y2],_ =>
   obtain ⟨z0,e0,_⟩:=DataW.trod_string Tryz.underlying9 (show _=some y0 by simpa [k9] using hf 0 _ rfl)
   obtain ⟨A,cap,l,e1,hl,hat⟩:=open_vals (fun y hy=>hw y (by
    simp only [DataW.weights,Tryz.underlying32]
    exact weights_each (j:=1) rfl rfl hy)) (show _=some y1 by simpa [kc] using hf 1 _ rfl)
   obtain ⟨z2,e2,_⟩:=DataW.trod_bool Tryz.underlying4 (show _=some y2 by simpa [k4] using hf 2 _ rfl)
   cases e0; cases e1; cases e2
   exact ⟨z0,A,cap,z2,l,rfl,hl,hat⟩
end
section
variable {H:Type} {enc:TypeId × Value → H} {w:World} {base:Nat} {spare:Nat → Bool} {held:Bool} {n:Nat} {cs:List Value} {x:DataW H × List MemPlace}
end
end Go.Proofs.YtknaemlnhediaaaGreatDoor.c
