/-
  What the walks of the programs share: their imports, and a word for equal answers.
-/
import Derived.Test.YtljhocdbfbjpiaaRows
import Derived.Test.YtljhocdbfbjpiaaLawAid
import Derived.Test.YtljhocdbfbjpiaaSlice
import Derived.WalkKit
import Derived.WalkSpells
import Derived.WalkLawsBesides
import Derived.Handy
import Derived.Lib.Hide
import Derived.BigQuiet
import Derived.Deep.RegionHeld3
import Derived.Lib.SmallJoins
namespace Go.Proofs.Ytljhocdbfbjpiaa
open Go.RowKit

theorem ret_bool {a b : Bool} (h : a = b) : Ending.returned (.bool a) = .returned (.bool b) := by rw [h]
theorem ret_int {k : IntKind} {a b : Int} (h : a = b) : Ending.returned (.int k a) = .returned (.int k b) := by rw [h]
end Go.Proofs.Ytljhocdbfbjpiaa
