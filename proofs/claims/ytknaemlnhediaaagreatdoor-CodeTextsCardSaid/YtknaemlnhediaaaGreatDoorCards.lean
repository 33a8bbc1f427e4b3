/-
  DERIVED. GIVEN WITH THE SEED: THE CARDS: each row of YtknaemlnhediaaaGreatDoorRows.lean that lists a variable, with what it lists TIED to the program's text (the seventh form; the later family's looks); each row that meets fmt, with fmt's text TOLD by the authors' own Lean function (tested against real Go, not proved from fmt's source: count such statements apart). THE CARD IS WHAT COUNTS. Prove the row's statement (the work); the ties are given (YtknaemlnhediaaaGreatDoorTie.lean); close each card by the builder's one call (the guide's Derived/Test/ToyasCard.lean, 'card_holds'). Laid BY PROGRAM, IN A SANDBOX (cutbox-door.mjs). By AI agents, Wed Nov 11 2026. No macro, syntax, notation, axiom, sorry.
-/
import Derived.Test.YtknaemlnhediaaaGreatDoorRows
import GoSem.ClaimSeven
namespace Go.Proofs.YtknaemlnhediaaaGreatDoor
namespace Rows

/-- THE TIED CARD OF 'mandrellaw12.CodeTexts'. -/
def codeTextsCard : Claim7 := { stood := { row := codeTextsRow, standIns := [], harness := (true, "38f98f8a9113ff56c7144e8162c30495eab06ddd1c379f819f1236832a1e4cff"), looks := false }, kinds := [], alts := [], laidByText := true, laidKinds := [.data, .data, .data, .listed, .data], laidTests := true, laidLooks := .later }
def CodeTextsCardSaid : Prop := Claim7.holds Tryz.pinned (.plain (OpenSpec.ofChange codeTextsSpec)) codeTextsCard

/-- THE TIED CARD OF 'mandrellaw14.RegsRuns'. -/
def regsRunsCard : Claim7 := { stood := { row := regsRunsRow, standIns := [], harness := (true, "38f98f8a9113ff56c7144e8162c30495eab06ddd1c379f819f1236832a1e4cff"), looks := false }, kinds := [], alts := [], laidByText := true, laidKinds := [.listed, .data], laidTests := true, laidLooks := .later }
def RegsRunsCardSaid : Prop := Claim7.holds Tryz.pinned (.plain (OpenSpec.ofChange regsRunsSpec)) regsRunsCard

/-- THE TIED CARD OF 'mandrellaw14.RegsThreads'. -/
def regsThreadsCard : Claim7 := { stood := { row := regsThreadsRow, standIns := [], harness := (true, "38f98f8a9113ff56c7144e8162c30495eab06ddd1c379f819f1236832a1e4cff"), looks := false }, kinds := [], alts := [], laidByText := true, laidKinds := [.listed, .data], laidTests := true, laidLooks := .later }
def RegsThreadsCardSaid : Prop := Claim7.holds Tryz.pinned (.plain (OpenSpec.ofChange regsThreadsSpec)) regsThreadsCard

/-- THE TIED CARD OF 'mandrellaw14.RegsLowers'. -/
def regsLowersCard : Claim7 := { stood := { row := regsLowersRow, standIns := [], harness := (true, "38f98f8a9113ff56c7144e8162c30495eab06ddd1c379f819f1236832a1e4cff"), looks := false }, kinds := [], alts := [], laidByText := true, laidKinds := [.listed, .data], laidTests := true, laidLooks := .later }
def RegsLowersCardSaid : Prop := Claim7.holds Tryz.pinned (.plain (OpenSpec.ofChange regsLowersSpec)) regsLowersCard

/-- THE TIED CARD OF 'mandrellaw14.RegsUses'. -/
def regsUsesCard : Claim7 := { stood := { row := regsUsesRow, standIns := [], harness := (true, "38f98f8a9113ff56c7144e8162c30495eab06ddd1c379f819f1236832a1e4cff"), looks := false }, kinds := [], alts := [], laidByText := true, laidKinds := [.listed, .data], laidTests := true, laidLooks := .later }
def RegsUsesCardSaid : Prop := Claim7.holds Tryz.pinned (.plain (OpenSpec.ofChange regsUsesSpec)) regsUsesCard

/-- THE TIED CARD OF 'mandrellaw14.RegsSlots'. -/
def regsSlotsCard : Claim7 := { stood := { row := regsSlotsRow, standIns := [], harness := (true, "38f98f8a9113ff56c7144e8162c30495eab06ddd1c379f819f1236832a1e4cff"), looks := false }, kinds := [], alts := [], laidByText := true, laidKinds := [.listed, .data], laidTests := true, laidLooks := .later }
def RegsSlotsCardSaid : Prop := Claim7.holds Tryz.pinned (.plain (OpenSpec.ofChange regsSlotsSpec)) regsSlotsCard

/-- THE TIED CARD OF 'mandrellaw14.RegsPermutes'. -/
def regsPermutesCard : Claim7 := { stood := { row := regsPermutesRow, standIns := [], harness := (true, "38f98f8a9113ff56c7144e8162c30495eab06ddd1c379f819f1236832a1e4cff"), looks := false }, kinds := [], alts := [], laidByText := true, laidKinds := [.listed, .data], laidTests := true, laidLooks := .later }
def RegsPermutesCardSaid : Prop := Claim7.holds Tryz.pinned (.plain (OpenSpec.ofChange regsPermutesSpec)) regsPermutesCard

/-- THE TIED CARD OF 'mandrellaw14.RegsLives'. -/
def regsLivesCard : Claim7 := { stood := { row := regsLivesRow, standIns := [], harness := (true, "38f98f8a9113ff56c7144e8162c30495eab06ddd1c379f819f1236832a1e4cff"), looks := false }, kinds := [], alts := [], laidByText := true, laidKinds := [.listed, .data], laidTests := true, laidLooks := .later }
def RegsLivesCardSaid : Prop := Claim7.holds Tryz.pinned (.plain (OpenSpec.ofChange regsLivesSpec)) regsLivesCard

/-- THE TIED CARD OF 'mandrellaw14.RegsTidies'. -/
def regsTidiesCard : Claim7 := { stood := { row := regsTidiesRow, standIns := [], harness := (true, "38f98f8a9113ff56c7144e8162c30495eab06ddd1c379f819f1236832a1e4cff"), looks := false }, kinds := [], alts := [], laidByText := true, laidKinds := [.listed, .data], laidTests := true, laidLooks := .later }
def RegsTidiesCardSaid : Prop := Claim7.holds Tryz.pinned (.plain (OpenSpec.ofChange regsTidiesSpec)) regsTidiesCard

/-- THE SECOND FORM's CARD OF 'mandrellaw12.CodeTexts'. -/
def codeTextsUptoCard : Claim7 := { stood := { row := codeTextsUptoRow, standIns := [], harness := (true, "38f98f8a9113ff56c7144e8162c30495eab06ddd1c379f819f1236832a1e4cff"), looks := false }, kinds := [], alts := [], laidByText := true, laidKinds := [.data, .data, .data, .listed, .data], laidTests := true, laidLooks := .later }
def CodeTextsUptoCardSaid : Prop := Claim7.holds Tryz.pinned (.plain (OpenSpec.upto codeTextsSpec)) codeTextsUptoCard

/-- THE SECOND FORM's CARD OF 'mandrellaw14.RegsRuns'. -/
def regsRunsUptoCard : Claim7 := { stood := { row := regsRunsUptoRow, standIns := [], harness := (true, "38f98f8a9113ff56c7144e8162c30495eab06ddd1c379f819f1236832a1e4cff"), looks := false }, kinds := [], alts := [], laidByText := true, laidKinds := [.listed, .data], laidTests := true, laidLooks := .later }
def RegsRunsUptoCardSaid : Prop := Claim7.holds Tryz.pinned (.plain (OpenSpec.upto regsRunsSpec)) regsRunsUptoCard

/-- THE SECOND FORM's CARD OF 'mandrellaw14.RegsThreads'. -/
def regsThreadsUptoCard : Claim7 := { stood := { row := regsThreadsUptoRow, standIns := [], harness := (true, "38f98f8a9113ff56c7144e8162c30495eab06ddd1c379f819f1236832a1e4cff"), looks := false }, kinds := [], alts := [], laidByText := true, laidKinds := [.listed, .data], laidTests := true, laidLooks := .later }
def RegsThreadsUptoCardSaid : Prop := Claim7.holds Tryz.pinned (.plain (OpenSpec.upto regsThreadsSpec)) regsThreadsUptoCard

/-- THE SECOND FORM's CARD OF 'mandrellaw14.RegsLowers'. -/
def regsLowersUptoCard : Claim7 := { stood := { row := regsLowersUptoRow, standIns := [], harness := (true, "38f98f8a9113ff56c7144e8162c30495eab06ddd1c379f819f1236832a1e4cff"), looks := false }, kinds := [], alts := [], laidByText := true, laidKinds := [.listed, .data], laidTests := true, laidLooks := .later }
def RegsLowersUptoCardSaid : Prop := Claim7.holds Tryz.pinned (.plain (OpenSpec.upto regsLowersSpec)) regsLowersUptoCard

/-- THE SECOND FORM's CARD OF 'mandrellaw14.RegsUses'. -/
def regsUsesUptoCard : Claim7 := { stood := { row := regsUsesUptoRow, standIns := [], harness := (true, "38f98f8a9113ff56c7144e8162c30495eab06ddd1c379f819f1236832a1e4cff"), looks := false }, kinds := [], alts := [], laidByText := true, laidKinds := [.listed, .data], laidTests := true, laidLooks := .later }
def RegsUsesUptoCardSaid : Prop := Claim7.holds Tryz.pinned (.plain (OpenSpec.upto regsUsesSpec)) regsUsesUptoCard

/-- THE SECOND FORM's CARD OF 'mandrellaw14.RegsSlots'. -/
def regsSlotsUptoCard : Claim7 := { stood := { row := regsSlotsUptoRow, standIns := [], harness := (true, "38f98f8a9113ff56c7144e8162c30495eab06ddd1c379f819f1236832a1e4cff"), looks := false }, kinds := [], alts := [], laidByText := true, laidKinds := [.listed, .data], laidTests := true, laidLooks := .later }
def RegsSlotsUptoCardSaid : Prop := Claim7.holds Tryz.pinned (.plain (OpenSpec.upto regsSlotsSpec)) regsSlotsUptoCard

/-- THE SECOND FORM's CARD OF 'mandrellaw14.RegsPermutes'. -/
def regsPermutesUptoCard : Claim7 := { stood := { row := regsPermutesUptoRow, standIns := [], harness := (true, "38f98f8a9113ff56c7144e8162c30495eab06ddd1c379f819f1236832a1e4cff"), looks := false }, kinds := [], alts := [], laidByText := true, laidKinds := [.listed, .data], laidTests := true, laidLooks := .later }
def RegsPermutesUptoCardSaid : Prop := Claim7.holds Tryz.pinned (.plain (OpenSpec.upto regsPermutesSpec)) regsPermutesUptoCard

/-- THE SECOND FORM's CARD OF 'mandrellaw14.RegsLives'. -/
def regsLivesUptoCard : Claim7 := { stood := { row := regsLivesUptoRow, standIns := [], harness := (true, "38f98f8a9113ff56c7144e8162c30495eab06ddd1c379f819f1236832a1e4cff"), looks := false }, kinds := [], alts := [], laidByText := true, laidKinds := [.listed, .data], laidTests := true, laidLooks := .later }
def RegsLivesUptoCardSaid : Prop := Claim7.holds Tryz.pinned (.plain (OpenSpec.upto regsLivesSpec)) regsLivesUptoCard

/-- THE SECOND FORM's CARD OF 'mandrellaw14.RegsTidies'. -/
def regsTidiesUptoCard : Claim7 := { stood := { row := regsTidiesUptoRow, standIns := [], harness := (true, "38f98f8a9113ff56c7144e8162c30495eab06ddd1c379f819f1236832a1e4cff"), looks := false }, kinds := [], alts := [], laidByText := true, laidKinds := [.listed, .data], laidTests := true, laidLooks := .later }
def RegsTidiesUptoCardSaid : Prop := Claim7.holds Tryz.pinned (.plain (OpenSpec.upto regsTidiesSpec)) regsTidiesUptoCard
end Rows
end Go.Proofs.YtknaemlnhediaaaGreatDoor
