/-
  DERIVED. GIVEN WITH THE SEED: THE CARDS: each row of YtcoookehfhhhdaaGreatDoorRows.lean that lists a variable, with what it lists TIED to the program's text (the seventh form; the later family's looks); each row that meets fmt, with fmt's text TOLD by the authors' own Lean function (tested against real Go, not proved from fmt's source: count such statements apart). THE CARD IS WHAT COUNTS. Prove the row's statement (the work); the ties are given (YtcoookehfhhhdaaGreatDoorTie.lean); close each card by the builder's one call (the guide's Derived/Test/ToyasCard.lean, 'card_holds'). Laid BY PROGRAM, IN A SANDBOX (cutbox-door.mjs). By AI agents, Wed Nov 11 2026. No macro, syntax, notation, axiom, sorry.
-/
import Derived.Test.YtcoookehfhhhdaaGreatDoorRows
import GoSem.ClaimSeven
namespace Go.Proofs.YtcoookehfhhhdaaGreatDoor
namespace Rows

/-- THE TIED CARD OF 'mandrellaw14.RegsThreads'. -/
def regsThreadsCard : Claim7 := { stood := { row := regsThreadsRow, standIns := [], harness := (true, "b581e8e416fc77480e9f106853300ad5819f548b0b0ec71b59ab5ae1c0ad1699"), looks := false }, kinds := [], alts := [], laidByText := true, laidKinds := [.listed, .data], laidTests := true, laidLooks := .later }
def RegsThreadsCardSaid : Prop := Claim7.holds Tryz.pinned (.plain (OpenSpec.ofChange regsThreadsSpec)) regsThreadsCard

/-- THE TIED CARD OF 'mandrellaw14.RegsLowers'. -/
def regsLowersCard : Claim7 := { stood := { row := regsLowersRow, standIns := [], harness := (true, "b581e8e416fc77480e9f106853300ad5819f548b0b0ec71b59ab5ae1c0ad1699"), looks := false }, kinds := [], alts := [], laidByText := true, laidKinds := [.listed, .data], laidTests := true, laidLooks := .later }
def RegsLowersCardSaid : Prop := Claim7.holds Tryz.pinned (.plain (OpenSpec.ofChange regsLowersSpec)) regsLowersCard

/-- THE SECOND FORM's CARD OF 'mandrellaw14.RegsThreads'. -/
def regsThreadsUptoCard : Claim7 := { stood := { row := regsThreadsUptoRow, standIns := [], harness := (true, "b581e8e416fc77480e9f106853300ad5819f548b0b0ec71b59ab5ae1c0ad1699"), looks := false }, kinds := [], alts := [], laidByText := true, laidKinds := [.listed, .data], laidTests := true, laidLooks := .later }
def RegsThreadsUptoCardSaid : Prop := Claim7.holds Tryz.pinned (.plain (OpenSpec.upto regsThreadsSpec)) regsThreadsUptoCard

/-- THE SECOND FORM's CARD OF 'mandrellaw14.RegsLowers'. -/
def regsLowersUptoCard : Claim7 := { stood := { row := regsLowersUptoRow, standIns := [], harness := (true, "b581e8e416fc77480e9f106853300ad5819f548b0b0ec71b59ab5ae1c0ad1699"), looks := false }, kinds := [], alts := [], laidByText := true, laidKinds := [.listed, .data], laidTests := true, laidLooks := .later }
def RegsLowersUptoCardSaid : Prop := Claim7.holds Tryz.pinned (.plain (OpenSpec.upto regsLowersSpec)) regsLowersUptoCard
end Rows
end Go.Proofs.YtcoookehfhhhdaaGreatDoor
