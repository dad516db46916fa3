/-
  What lies below stays, behind draws.
-/
import Derived.Below
import Derived.Deep.Draws
namespace Go.Proofs.Ytljhocdbfbjpiaa
open Go.RowKit
theorem below_drewN {B : Nat} {a w : World} (h : Below B a w) (n : Nat) : Below B a (w.drewN n) := ⟨h.os, h.tape, h.output, h.size, h.block⟩
theorem below_drew {B : Nat} {a w : World} (h : Below B a w) : Below B a w.drew := ⟨h.os, h.tape, h.output, h.size, h.block⟩
end Go.Proofs.Ytljhocdbfbjpiaa
