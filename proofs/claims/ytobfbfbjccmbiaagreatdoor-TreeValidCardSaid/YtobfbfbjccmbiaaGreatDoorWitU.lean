/- What the row TreeTypes asks ahead of its contract: seven tables as the text lays them, a world for the witness. What the rows TreeParses and TreeValid ask ahead of their contracts: four tables as the text lays them, in the witness world. -/
import Derived.Test.YtobfbfbjccmbiaaGreatDoorWit
import Derived.Deep.DeepLaidRun
import Derived.Lib.ItoaNum
namespace Go.Proofs.YtobfbfbjccmbiaaGreatDoor.c
open Go.ChangeShapes Go.WideShapes Go.ChangeAt Go.RowKit
set_option linter.unusedVariables false
set_option maxRecDepth 100000
set_option maxHeartbeats 200000
set_option linter.unusedSimpArgs false
def laid7:List (String × DataW Unit):=[("math/bits.deBruijn32tab",Rows.laid_math_bits_deBruijn32tab),("math/bits.deBruijn64tab",Rows.laid_math_bits_deBruijn64tab),("internal/strconv.uint64pow10",Rows.laid_internal_strconv_uint64pow10),("unicode/utf8.acceptRanges",Rows.laid_unicode_utf8_acceptRanges),("unicode.White_Space",Rows.laid_unicode_White_Space),("strings.asciiSpace",Rows.laid_strings_asciiSpace),("unicode/utf8.first",Rows.laid_unicode_utf8_first)]
theorem laid_of7 {W:World} (h:laidMetH Tryz.prog laid7 W):Laid W:=by
 have h':laidMet Tryz.prog laid7 W:=h
 obtain ⟨g',t',cs,fuel,p,hg',ht',hvar,hd⟩:=Lib.laidMet.reads h' (.tail _ (.tail _ (.tail _ (.tail _ (.tail _ (.head _))))))
 obtain rfl:=Option.some.inj (gTab.symm.trans hg')
 obtain rfl:=Option.some.inj (gTabType.symm.trans ht')
 rw [tabData_eq] at hd
 unfold Laid Lib.TabIs
 rw [hvar,← Lib.cells_of_tab Tryz.underlying158 Tryz.underlying5 cells5 cells256 hd]
noncomputable def laidWorldU (os:Os):World :=
 let N:=(World.settled Tryz.prog os).heap.size
 let w0:=World.holding Tryz.prog os ⟨#[.cells (Lib.whiteT.map fun (z:Nat)=>Value.int .u16 (z:Int)).toArray 231,.cells #[.slice (some ⟨N,0,none⟩) 7 7,.slice none 0 0,.int .i64 2] 228],#[],[]⟩
 let put (h:Array Obj) (g:Nat) (cs:Array Value):Array Obj:=h.modify g fun
  | .cells _ t frozen=>.cells cs t frozen
  | o=>o
 let h1:=put w0.heap 0 (Lib.asciiSpaceTab.map fun z=>Value.int .u8 z).toArray
 let h2:=put h1 1 #[.pointer (some ⟨N + 1,0,none⟩)]
 let h3:=put h2 2 (Lib.pow10Tab.map fun z=>Value.int .u64 z).toArray
 let h4:=put h3 4 (([0,1,28,2,29,14,24,3,30,22,20,15,25,17,4,8,31,27,13,23,21,19,16,7,26,12,18,6,11,5,10,9]:List Int).map fun z=>Value.int .u8 z).toArray
 let h5:=put h4 5 (([0,1,56,2,57,49,28,3,61,58,42,50,38,29,17,4,62,47,59,36,45,43,51,22,53,39,33,30,24,18,12,5,63,55,48,27,60,41,37,16,46,35,44,21,52,32,23,11,54,26,40,15,34,20,31,10,25,14,19,9,13,8,7,6]:List Int).map fun z=>Value.int .u8 z).toArray
 let h6:=put h5 7 (([128,191,160,191,128,159,144,191,128,143,0,0,0,0,0,0,0,0,0,0,0,0,0,0,0,0,0,0,0,0,0,0]:List Int).map fun z=>Value.int .u8 z).toArray
 let h7:=put h6 6 (Go.Pinned.utf8FirstZ.map fun (z:Nat)=>Value.int .u8 (z:Int)).toArray
 { w0 with heap:=h7 }
theorem laid_metU (os:Os) (a b:Value):laidMet Tryz.prog laid7 ((laidWorldU os).forCall (fun _ _=>0) ⟨#[],#[a,b],[]⟩).memory :=
 laidMet_of_run3 8 (by kernel_rfl) (by kernel_rfl) (by kernel_rfl)
def laid4:List (String × DataW Unit):=[("unicode/utf8.acceptRanges",Rows.laid_unicode_utf8_acceptRanges),("unicode.White_Space",Rows.laid_unicode_White_Space),("strings.asciiSpace",Rows.laid_strings_asciiSpace),("unicode/utf8.first",Rows.laid_unicode_utf8_first)]
theorem laid_of4 {W:World} (h:laidMetH Tryz.prog laid4 W):Laid W:=by
 have h':laidMet Tryz.prog laid4 W:=h
 obtain ⟨g',t',cs,fuel,p,hg',ht',hvar,hd⟩:=Lib.laidMet.reads h' (.tail _ (.tail _ (.head _)))
 obtain rfl:=Option.some.inj (gTab.symm.trans hg')
 obtain rfl:=Option.some.inj (gTabType.symm.trans ht')
 rw [tabData_eq] at hd
 unfold Laid Lib.TabIs
 rw [hvar,← Lib.cells_of_tab Tryz.underlying158 Tryz.underlying5 cells5 cells256 hd]
theorem laid_metV (os:Os) (a:Value):laidMet Tryz.prog laid4 ((laidWorldU os).forCall (fun _ _=>0) ⟨#[],#[a],[]⟩).memory :=
 laidMet_of_run3 8 (by kernel_rfl) (by kernel_rfl) (by kernel_rfl)
end Go.Proofs.YtobfbfbjccmbiaaGreatDoor.c
