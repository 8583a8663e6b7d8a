/- What is proved here: a string as a value. No condition. -/
import Derived.Test.YtbimecknmojnoaaGreatDoorWayMath
import Derived.Lib.OwnBridge
import Derived.Deep.AppendLies
set_option linter.unusedVariables false
set_option linter.unusedSimpArgs false
namespace Go.Proofs.YtbimecknmojnoaaGreatDoor
open Go.RowKit

def encS (x : List UInt8) : Value := .string ⟨x.toArray⟩
end Go.Proofs.YtbimecknmojnoaaGreatDoor
