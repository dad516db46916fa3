/-
  What a kind of gun delivers, and the power of the guns that are on.
-/
import Derived.Test.YtljhocdbfbjpiaaWtKind
namespace Go.Proofs.Ytljhocdbfbjpiaa
open Go.RowKit

def outV (ps : List (Int × Int)) (wet : Int) : Int := if Fix.pts ps = true then Fix.atv ps wet else 0
set_option maxRecDepth 20000 in
set_option maxHeartbeats 2000000 in
theorem output_any (i pw pr wet : Int) (A : Option Addr) (c : Nat) (ps : List (Int × Int)) (w : World) (hR : RdP w A ps) :
    Calls Try.prog 42 #[.agg #[.int .i64 i, .slice A ps.length c, .int .i64 pw, .int .i64 pr], .int .i64 wet] w fun e w' => e = .returned (.int .i64 (outV ps wet)) ∧ Below w.heap.size w w' := by
  have hC : Calls Try.prog 76 #[.slice A ps.length c, .int .i64 wet] (w.alloc (.cells #[.int .i64 i, .slice A ps.length c, .int .i64 pw, .int .i64 pr] 44)) fun e w' => (∃ E : Int, e = .returned (.tuple #[.int .i64 (outV ps wet), .int .i64 E])) ∧ Below (w.alloc (.cells #[.int .i64 i, .slice A ps.length c, .int .i64 pw, .int .i64 pr] 44)).heap.size (w.alloc (.cells #[.int .i64 i, .slice A ps.length c, .int .i64 pw, .int .i64 pr] 44)) w' := by
    by_cases hp : Fix.pts ps = true
    · unfold outV
      rw [if_pos hp]
      refine (fat_yes ps wet A c _ (hR.below (Joins.below_alloc1 _ _)) hp).mono ?_
      rintro e w' ⟨rfl, h⟩
      exact ⟨⟨_, rfl⟩, h⟩
    · unfold outV
      rw [if_neg hp]
      refine (fat_no ps wet A c _ (hR.below (Joins.below_alloc1 _ _)) (by simpa using hp)).mono ?_
      rintro e w' ⟨rfl, h⟩
      exact ⟨⟨_, rfl⟩, h⟩
  have HC := Lib.hid hC
  clear hC hR
  go_enter Try.func42, Try.ntmps42
  go_wp2_with fail
  refine HC.out.mono ?_
  rintro e w1 ⟨⟨E, rfl⟩, hb1⟩
  clear HC
  go_wp2
  go_ret
  exact ⟨rfl, thru (Joins.below_alloc1 _ _) hb1 (by simp)⟩
end Go.Proofs.Ytljhocdbfbjpiaa
