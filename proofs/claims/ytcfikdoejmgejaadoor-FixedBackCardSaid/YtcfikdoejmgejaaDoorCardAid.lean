/-
  What a card's listed tables give a walk; a world that bears them.
-/
import Derived.Test.YtcfikdoejmgejaaDoorRows
import Derived.Test.YtcfikdoejmgejaaDoorTie
import Derived.Test.YtcfikdoejmgejaaDoorCards
import Derived.Test.YtcfikdoejmgejaaDoorTextWalkB
import Derived.Test.YtcfikdoejmgejaaDoorLawAid
import Derived.Deep.DeepHandedRow
import Derived.ProofKit
import Derived.SizedLaws
import Derived.LaidSub
import Derived.JoinedCond
import Derived.SevenTiedAt
namespace Go.Proofs.YtcfikdoejmgejaaDoor
open Go.ChangeShapes Go.WideShapes Go.ChangeAt Go.RowKit

theorem own : ownKnob Tryd.prog.godebug = none := by kernel_rfl
theorem laidOut : laidOutB Tryd.prog = true := by kernel_rfl
/-- The three tables that each row of this seat lists. -/
abbrev tabs : List (String × DataW Unit) := [("math/bits.deBruijn32tab", Rows.laid_math_bits_deBruijn32tab), ("math/bits.deBruijn64tab", Rows.laid_math_bits_deBruijn64tab), ("internal/strconv.uint64pow10", Rows.laid_internal_strconv_uint64pow10)]
theorem gPow : Tryd.prog.globalNamed "internal/strconv.uint64pow10" = some 3 := by kernel_rfl
theorem gPowType : (Tryd.prog.globals[3]?).map (·.type) = some 91 := by kernel_rfl
theorem env_of {W : World} (h : laidMetH Tryd.prog tabs W) (hsh : W.ShapedOpen Tryd.prog) : Env W := by
  have h0 : laidMet Tryd.prog tabs W := h
  have h1 := h0.filter (fun x => x.1 == "internal/strconv.uint64pow10")
  have e : (tabs.filter fun x => x.1 == "internal/strconv.uint64pow10") = [("internal/strconv.uint64pow10", Lib.tabData .u64 Lib.pow10Tab)] := by kernel_rfl
  rw [e] at h1
  exact ⟨Lib.tabIs_of_head gPow gPowType Tryd.underlying91 Tryd.underlying43 (by kernel_rfl) (by kernel_rfl) h1, Tryd.laysM145.s1_3 W hsh⟩
/-- A table's cells. -/
def litCells : DataW Unit → Array Value
  | .agg l => (l.map fun | .lit (.int k n) => Value.int k n | _ => undef).toArray
  | _ => #[]
def putCells (d : DataW Unit) : Obj → Obj
  | .cells _ t frozen => .cells (litCells d) t frozen
  | o => o
noncomputable def laidWorld (os : Os) : World :=
  { World.holding Tryd.prog os ⟨#[], #[], []⟩ with heap := (((World.holding Tryd.prog os ⟨#[], #[], []⟩).heap.modify 3 (putCells Rows.laid_internal_strconv_uint64pow10)).modify 4 (putCells Rows.laid_math_bits_deBruijn32tab)).modify 5 (putCells Rows.laid_math_bits_deBruijn64tab) }
theorem laid_met (os : Os) (args : Array Value) : laidMet Tryd.prog tabs ((laidWorld os).forCall (fun _ _ => 0) ⟨#[], args, []⟩).memory :=
  laidMet_of_run' 8 (by kernel_rfl) (by kernel_rfl)
end Go.Proofs.YtcfikdoejmgejaaDoor
