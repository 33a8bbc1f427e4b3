/-
  DERIVED. GIVEN WITH THE SEED: THE CARDS: each row of YtmmnhbhnjiajhaaGreatDoorRows.lean that lists a variable, with what it lists TIED to the program's text (the seventh form; the later family's looks); each row that meets fmt, with fmt's text TOLD by the authors' own Lean function (tested against real Go, not proved from fmt's source: count such statements apart). THE CARD IS WHAT COUNTS. Prove the row's statement (the work); the ties are given (YtmmnhbhnjiajhaaGreatDoorTie.lean); close each card by the builder's one call (the guide's Derived/Test/ToyasCard.lean, 'card_holds'). Laid BY PROGRAM, IN A SANDBOX (cutbox-door.mjs). By AI agents, Wed Nov 11 2026. No macro, syntax, notation, axiom, sorry.
-/
import Derived.Test.YtmmnhbhnjiajhaaGreatDoorRows
import GoSem.ClaimSeven
namespace Go.Proofs.YtmmnhbhnjiajhaaGreatDoor
namespace Rows

/-- THE TIED CARD OF 'mandrellaw03.TreeParses'. -/
def treeParsesCard : Claim7 := { stood := { row := treeParsesRow, standIns := [], harness := (true, "4576e3488a6a60c7e067d6a6f8e6fb3144185ed048b6098b48fb198b3319140d"), looks := true }, kinds := [], alts := [], laidByText := true, laidKinds := [.data, .listed, .data, .pinned], laidTests := true, laidLooks := .later }
def TreeParsesCardSaid : Prop := Claim7.holds Tryz.pinned (.plain (OpenSpec.ofChange treeParsesSpec)) treeParsesCard

/-- THE TIED CARD OF 'mandrellaw03.TreeCopies'. -/
def treeCopiesCard : Claim7 := { stood := { row := treeCopiesRow, standIns := [], harness := (true, "4576e3488a6a60c7e067d6a6f8e6fb3144185ed048b6098b48fb198b3319140d"), looks := true }, kinds := [], alts := [], laidByText := true, laidKinds := [.data, .listed, .data, .pinned], laidTests := true, laidLooks := .later }
def TreeCopiesCardSaid : Prop := Claim7.holds Tryz.pinned (.plain (OpenSpec.ofChange treeCopiesSpec)) treeCopiesCard

/-- THE TIED CARD OF 'mandrellaw03.TreeBegins'. -/
def treeBeginsCard : Claim7 := { stood := { row := treeBeginsRow, standIns := [], harness := (true, "4576e3488a6a60c7e067d6a6f8e6fb3144185ed048b6098b48fb198b3319140d"), looks := true }, kinds := [], alts := [], laidByText := true, laidKinds := [.data, .listed, .data, .pinned], laidTests := true, laidLooks := .later }
def TreeBeginsCardSaid : Prop := Claim7.holds Tryz.pinned (.plain (OpenSpec.ofChange treeBeginsSpec)) treeBeginsCard

/-- THE TIED CARD OF 'mandrellaw03.TreeSame'. -/
def treeSameCard : Claim7 := { stood := { row := treeSameRow, standIns := [], harness := (true, "4576e3488a6a60c7e067d6a6f8e6fb3144185ed048b6098b48fb198b3319140d"), looks := true }, kinds := [], alts := [], laidByText := true, laidKinds := [.data, .listed, .data, .pinned], laidTests := true, laidLooks := .later }
def TreeSameCardSaid : Prop := Claim7.holds Tryz.pinned (.plain (OpenSpec.ofChange treeSameSpec)) treeSameCard

/-- THE TIED CARD OF 'mandrellaw03.TreeValidates'. -/
def treeValidatesCard : Claim7 := { stood := { row := treeValidatesRow, standIns := [], harness := (true, "4576e3488a6a60c7e067d6a6f8e6fb3144185ed048b6098b48fb198b3319140d"), looks := true }, kinds := [], alts := [], laidByText := true, laidKinds := [.data, .listed, .data, .pinned], laidTests := true, laidLooks := .later }
def TreeValidatesCardSaid : Prop := Claim7.holds Tryz.pinned (.plain (OpenSpec.ofChange treeValidatesSpec)) treeValidatesCard

/-- THE TIED CARD OF 'mandrellaw03.TreeReplaces'. -/
def treeReplacesCard : Claim7 := { stood := { row := treeReplacesRow, standIns := [], harness := (true, "4576e3488a6a60c7e067d6a6f8e6fb3144185ed048b6098b48fb198b3319140d"), looks := true }, kinds := [], alts := [], laidByText := true, laidKinds := [.data, .listed, .data, .pinned], laidTests := true, laidLooks := .later }
def TreeReplacesCardSaid : Prop := Claim7.holds Tryz.pinned (.plain (OpenSpec.ofChange treeReplacesSpec)) treeReplacesCard

/-- THE TIED CARD OF 'mandrellaw03.TreeAsks'. -/
def treeAsksCard : Claim7 := { stood := { row := treeAsksRow, standIns := [], harness := (true, "4576e3488a6a60c7e067d6a6f8e6fb3144185ed048b6098b48fb198b3319140d"), looks := true }, kinds := [], alts := [], laidByText := true, laidKinds := [.data, .listed, .data, .pinned], laidTests := true, laidLooks := .later }
def TreeAsksCardSaid : Prop := Claim7.holds Tryz.pinned (.plain (OpenSpec.ofChange treeAsksSpec)) treeAsksCard

/-- THE SECOND FORM's CARD OF 'mandrellaw03.TreeParses'. -/
def treeParsesUptoCard : Claim7 := { stood := { row := treeParsesUptoRow, standIns := [], harness := (true, "4576e3488a6a60c7e067d6a6f8e6fb3144185ed048b6098b48fb198b3319140d"), looks := true }, kinds := [], alts := [], laidByText := true, laidKinds := [.data, .listed, .data, .pinned], laidTests := true, laidLooks := .later }
def TreeParsesUptoCardSaid : Prop := Claim7.holds Tryz.pinned (.plain (OpenSpec.upto treeParsesSpec)) treeParsesUptoCard

/-- THE SECOND FORM's CARD OF 'mandrellaw03.TreeCopies'. -/
def treeCopiesUptoCard : Claim7 := { stood := { row := treeCopiesUptoRow, standIns := [], harness := (true, "4576e3488a6a60c7e067d6a6f8e6fb3144185ed048b6098b48fb198b3319140d"), looks := true }, kinds := [], alts := [], laidByText := true, laidKinds := [.data, .listed, .data, .pinned], laidTests := true, laidLooks := .later }
def TreeCopiesUptoCardSaid : Prop := Claim7.holds Tryz.pinned (.plain (OpenSpec.upto treeCopiesSpec)) treeCopiesUptoCard

/-- THE SECOND FORM's CARD OF 'mandrellaw03.TreeBegins'. -/
def treeBeginsUptoCard : Claim7 := { stood := { row := treeBeginsUptoRow, standIns := [], harness := (true, "4576e3488a6a60c7e067d6a6f8e6fb3144185ed048b6098b48fb198b3319140d"), looks := true }, kinds := [], alts := [], laidByText := true, laidKinds := [.data, .listed, .data, .pinned], laidTests := true, laidLooks := .later }
def TreeBeginsUptoCardSaid : Prop := Claim7.holds Tryz.pinned (.plain (OpenSpec.upto treeBeginsSpec)) treeBeginsUptoCard

/-- THE SECOND FORM's CARD OF 'mandrellaw03.TreeSame'. -/
def treeSameUptoCard : Claim7 := { stood := { row := treeSameUptoRow, standIns := [], harness := (true, "4576e3488a6a60c7e067d6a6f8e6fb3144185ed048b6098b48fb198b3319140d"), looks := true }, kinds := [], alts := [], laidByText := true, laidKinds := [.data, .listed, .data, .pinned], laidTests := true, laidLooks := .later }
def TreeSameUptoCardSaid : Prop := Claim7.holds Tryz.pinned (.plain (OpenSpec.upto treeSameSpec)) treeSameUptoCard

/-- THE SECOND FORM's CARD OF 'mandrellaw03.TreeValidates'. -/
def treeValidatesUptoCard : Claim7 := { stood := { row := treeValidatesUptoRow, standIns := [], harness := (true, "4576e3488a6a60c7e067d6a6f8e6fb3144185ed048b6098b48fb198b3319140d"), looks := true }, kinds := [], alts := [], laidByText := true, laidKinds := [.data, .listed, .data, .pinned], laidTests := true, laidLooks := .later }
def TreeValidatesUptoCardSaid : Prop := Claim7.holds Tryz.pinned (.plain (OpenSpec.upto treeValidatesSpec)) treeValidatesUptoCard

/-- THE SECOND FORM's CARD OF 'mandrellaw03.TreeReplaces'. -/
def treeReplacesUptoCard : Claim7 := { stood := { row := treeReplacesUptoRow, standIns := [], harness := (true, "4576e3488a6a60c7e067d6a6f8e6fb3144185ed048b6098b48fb198b3319140d"), looks := true }, kinds := [], alts := [], laidByText := true, laidKinds := [.data, .listed, .data, .pinned], laidTests := true, laidLooks := .later }
def TreeReplacesUptoCardSaid : Prop := Claim7.holds Tryz.pinned (.plain (OpenSpec.upto treeReplacesSpec)) treeReplacesUptoCard

/-- THE SECOND FORM's CARD OF 'mandrellaw03.TreeAsks'. -/
def treeAsksUptoCard : Claim7 := { stood := { row := treeAsksUptoRow, standIns := [], harness := (true, "4576e3488a6a60c7e067d6a6f8e6fb3144185ed048b6098b48fb198b3319140d"), looks := true }, kinds := [], alts := [], laidByText := true, laidKinds := [.data, .listed, .data, .pinned], laidTests := true, laidLooks := .later }
def TreeAsksUptoCardSaid : Prop := Claim7.holds Tryz.pinned (.plain (OpenSpec.upto treeAsksSpec)) treeAsksUptoCard
end Rows
end Go.Proofs.YtmmnhbhnjiajhaaGreatDoor
