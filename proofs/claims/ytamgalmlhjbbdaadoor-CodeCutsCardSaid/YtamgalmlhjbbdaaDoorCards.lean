/-
  DERIVED. GIVEN WITH THE SEED: THE CARDS: each row of YtamgalmlhjbbdaaDoorRows.lean that lists a variable, with what it lists TIED to the program's text (the seventh form; the later family's looks); each row that meets fmt, with fmt's text TOLD by the authors' own Lean function (tested against real Go, not proved from fmt's source: count such statements apart). THE CARD IS WHAT COUNTS. Prove the row's statement (the work); the ties are given (YtamgalmlhjbbdaaDoorTie.lean); close each card by the builder's one call (the guide's Derived/Test/ToyasCard.lean, 'card_holds'). Laid BY PROGRAM, IN A SANDBOX (cutbox-door.mjs). By AI agents, Wed Nov 11 2026. No macro, syntax, notation, axiom, sorry.
-/
import Derived.Test.YtamgalmlhjbbdaaDoorRows
import GoSem.ClaimSeven
namespace Go.Proofs.YtamgalmlhjbbdaaDoor
namespace Rows

/-- THE TIED CARD OF 'mandrellaw12.CodeChecks'. -/
def codeChecksCard : Claim7 := { stood := { row := codeChecksRow, standIns := [], harness := (true, "caf4401aee08628bee29669c28ebbfd013281ff59725287f5913d55dbbf4bc01"), looks := false }, kinds := [], alts := [], laidByText := true, laidKinds := [.listed, .data], laidTests := true, laidLooks := .later }
def CodeChecksCardSaid : Prop := Claim7.holds Tryd.pinned (.plain (OpenSpec.ofChange codeChecksSpec)) codeChecksCard

/-- THE TIED CARD OF 'mandrellaw12.CodeFinds'. -/
def codeFindsCard : Claim7 := { stood := { row := codeFindsRow, standIns := [], harness := (true, "caf4401aee08628bee29669c28ebbfd013281ff59725287f5913d55dbbf4bc01"), looks := false }, kinds := [], alts := [], laidByText := true, laidKinds := [.listed, .data], laidTests := true, laidLooks := .later }
def CodeFindsCardSaid : Prop := Claim7.holds Tryd.pinned (.plain (OpenSpec.ofChange codeFindsSpec)) codeFindsCard

/-- THE TIED CARD OF 'mandrellaw12.CodeHeights'. -/
def codeHeightsCard : Claim7 := { stood := { row := codeHeightsRow, standIns := [], harness := (true, "caf4401aee08628bee29669c28ebbfd013281ff59725287f5913d55dbbf4bc01"), looks := false }, kinds := [], alts := [], laidByText := true, laidKinds := [.listed, .data], laidTests := true, laidLooks := .later }
def CodeHeightsCardSaid : Prop := Claim7.holds Tryd.pinned (.plain (OpenSpec.ofChange codeHeightsSpec)) codeHeightsCard

/-- THE TIED CARD OF 'mandrellaw12.CodeThreads'. -/
def codeThreadsCard : Claim7 := { stood := { row := codeThreadsRow, standIns := [], harness := (true, "caf4401aee08628bee29669c28ebbfd013281ff59725287f5913d55dbbf4bc01"), looks := false }, kinds := [], alts := [], laidByText := true, laidKinds := [.listed, .data], laidTests := true, laidLooks := .later }
def CodeThreadsCardSaid : Prop := Claim7.holds Tryd.pinned (.plain (OpenSpec.ofChange codeThreadsSpec)) codeThreadsCard

/-- THE TIED CARD OF 'mandrellaw12.CodeCuts'. -/
def codeCutsCard : Claim7 := { stood := { row := codeCutsRow, standIns := [], harness := (true, "caf4401aee08628bee29669c28ebbfd013281ff59725287f5913d55dbbf4bc01"), looks := false }, kinds := [], alts := [], laidByText := true, laidKinds := [.listed, .data], laidTests := true, laidLooks := .later }
def CodeCutsCardSaid : Prop := Claim7.holds Tryd.pinned (.plain (OpenSpec.ofChange codeCutsSpec)) codeCutsCard

/-- THE SECOND FORM's CARD OF 'mandrellaw12.CodeChecks'. -/
def codeChecksUptoCard : Claim7 := { stood := { row := codeChecksUptoRow, standIns := [], harness := (true, "caf4401aee08628bee29669c28ebbfd013281ff59725287f5913d55dbbf4bc01"), looks := false }, kinds := [], alts := [], laidByText := true, laidKinds := [.listed, .data], laidTests := true, laidLooks := .later }
def CodeChecksUptoCardSaid : Prop := Claim7.holds Tryd.pinned (.plain (OpenSpec.upto codeChecksSpec)) codeChecksUptoCard

/-- THE SECOND FORM's CARD OF 'mandrellaw12.CodeFinds'. -/
def codeFindsUptoCard : Claim7 := { stood := { row := codeFindsUptoRow, standIns := [], harness := (true, "caf4401aee08628bee29669c28ebbfd013281ff59725287f5913d55dbbf4bc01"), looks := false }, kinds := [], alts := [], laidByText := true, laidKinds := [.listed, .data], laidTests := true, laidLooks := .later }
def CodeFindsUptoCardSaid : Prop := Claim7.holds Tryd.pinned (.plain (OpenSpec.upto codeFindsSpec)) codeFindsUptoCard

/-- THE SECOND FORM's CARD OF 'mandrellaw12.CodeHeights'. -/
def codeHeightsUptoCard : Claim7 := { stood := { row := codeHeightsUptoRow, standIns := [], harness := (true, "caf4401aee08628bee29669c28ebbfd013281ff59725287f5913d55dbbf4bc01"), looks := false }, kinds := [], alts := [], laidByText := true, laidKinds := [.listed, .data], laidTests := true, laidLooks := .later }
def CodeHeightsUptoCardSaid : Prop := Claim7.holds Tryd.pinned (.plain (OpenSpec.upto codeHeightsSpec)) codeHeightsUptoCard

/-- THE SECOND FORM's CARD OF 'mandrellaw12.CodeThreads'. -/
def codeThreadsUptoCard : Claim7 := { stood := { row := codeThreadsUptoRow, standIns := [], harness := (true, "caf4401aee08628bee29669c28ebbfd013281ff59725287f5913d55dbbf4bc01"), looks := false }, kinds := [], alts := [], laidByText := true, laidKinds := [.listed, .data], laidTests := true, laidLooks := .later }
def CodeThreadsUptoCardSaid : Prop := Claim7.holds Tryd.pinned (.plain (OpenSpec.upto codeThreadsSpec)) codeThreadsUptoCard

/-- THE SECOND FORM's CARD OF 'mandrellaw12.CodeCuts'. -/
def codeCutsUptoCard : Claim7 := { stood := { row := codeCutsUptoRow, standIns := [], harness := (true, "caf4401aee08628bee29669c28ebbfd013281ff59725287f5913d55dbbf4bc01"), looks := false }, kinds := [], alts := [], laidByText := true, laidKinds := [.listed, .data], laidTests := true, laidLooks := .later }
def CodeCutsUptoCardSaid : Prop := Claim7.holds Tryd.pinned (.plain (OpenSpec.upto codeCutsSpec)) codeCutsUptoCard
end Rows
end Go.Proofs.YtamgalmlhjbbdaaDoor
