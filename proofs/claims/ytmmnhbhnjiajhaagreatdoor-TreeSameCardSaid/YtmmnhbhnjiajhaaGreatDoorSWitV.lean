/- What the Tree rows ask ahead of their contracts: four tables as the text lays them, in the witness world. -/
import Derived.Test.YtmmnhbhnjiajhaaGreatDoorSWit
import Derived.Deep.DeepLaidRun
import Derived.Lib.ItoaNum
namespace Go.Proofs.YtmmnhbhnjiajhaaGreatDoor.c
open Go.ChangeShapes Go.WideShapes Go.ChangeAt Go.RowKit
set_option linter.unusedVariables false
set_option maxRecDepth 100000
set_option maxHeartbeats 200000
set_option linter.unusedSimpArgs false
noncomputable def laidWorldV (os:Os):World :=
 let N:=(World.settled Tryz.prog os).heap.size
 let w0:=World.holding Tryz.prog os ⟨#[.cells (Lib.whiteT.map fun (z:Nat)=>Value.int .u16 (z:Int)).toArray 298,.cells #[.slice (some ⟨N,0,none⟩) 7 7,.slice none 0 0,.int .i64 2] 295],#[],[]⟩
 let put (h:Array Obj) (g:Nat) (cs:Array Value):Array Obj:=h.modify g fun
  | .cells _ t frozen=>.cells cs t frozen
  | o=>o
 let h1:=put w0.heap 1 (Lib.asciiSpaceTab.map fun z=>Value.int .u8 z).toArray
 let h2:=put h1 2 #[.pointer (some ⟨N + 1,0,none⟩)]
 let h6:=put h2 4 (([128,191,160,191,128,159,144,191,128,143,0,0,0,0,0,0,0,0,0,0,0,0,0,0,0,0,0,0,0,0,0,0]:List Int).map fun z=>Value.int .u8 z).toArray
 let h7:=put h6 3 (Go.Pinned.utf8FirstZ.map fun (z:Nat)=>Value.int .u8 (z:Int)).toArray
 { w0 with heap:=h7 }
def laid4:List (String × DataW Unit):=[("unicode/utf8.acceptRanges",Rows.laid_unicode_utf8_acceptRanges),("unicode.White_Space",Rows.laid_unicode_White_Space),("strings.asciiSpace",Rows.laid_strings_asciiSpace),("unicode/utf8.first",Rows.laid_unicode_utf8_first)]
theorem laid_of4 {W:World} (h:laidMetH Tryz.prog laid4 W):Laid W:=by
 have h':laidMet Tryz.prog laid4 W:=h
 obtain ⟨g',t',cs,fuel,p,hg',ht',hvar,hd⟩:=Lib.laidMet.reads h' (.tail _ (.tail _ (.head _)))
 obtain rfl:=Option.some.inj (gTab.symm.trans hg')
 obtain rfl:=Option.some.inj (gTabType.symm.trans ht')
 rw [tabData_eq] at hd
 unfold Laid Lib.TabIs
 rw [hvar,← Lib.cells_of_tab Tryz.underlying263 Tryz.underlying5 cells5 cells256 hd]
theorem laid_metV2 (os:Os) (a b:Value):laidMet Tryz.prog laid4 ((laidWorldV os).forCall (fun _ _=>0) ⟨#[],#[a,b],[]⟩).memory :=
 laidMet_of_run3 8 (by kernel_rfl) (by kernel_rfl) (by kernel_rfl)
end Go.Proofs.YtmmnhbhnjiajhaaGreatDoor.c
