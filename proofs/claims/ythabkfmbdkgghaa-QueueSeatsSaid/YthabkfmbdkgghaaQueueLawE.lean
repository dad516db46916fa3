/-
  The walk of the law QueueSeats: the cases joined.
-/
import Derived.Test.YthabkfmbdkgghaaQueueSeatA
import Derived.Test.YthabkfmbdkgghaaQueueSeatB
import Derived.Test.YthabkfmbdkgghaaQueueSeatC
namespace Go.Proofs.Ythabkfmbdkgghaa
open Go.RowKit

theorem lawSeats (gs : List Int) (s k : Int) (A : Option Addr) (c : Nat) (w : World) (hR : Rd w A gs) : Calls Try.prog 6 #[qv A gs.length c s, .int .i64 k] w fun e w' => e = .returned (.bool true) ∧ Below w.heap.size w w' := by
  by_cases hs : gs.length ≤ 300
  · cases hr : Que.right gs s
    · exact lawSeats_wrong gs s k A c w hs hr hR
    · by_cases hk : k < 1 ∨ 16 < k
      · exact lawSeats_range gs s k A c w hr hk hR
      · obtain ⟨⟨ys, u, b⟩, hq⟩ : ∃ z, z = Que.seat gs s k := ⟨_, rfl⟩
        obtain ⟨_, _, _, _, _, _, _, _, f8, _⟩ := seats_facts hr (by omega) (by omega) hq rfl rfl
        rcases f8 with f8 | f8 | f8
        · exact lawSeats_A gs s k A c w hr (by omega) (by omega) hR ys u b _ _ hq rfl rfl f8
        · exact lawSeats_B gs s k A c w hr (by omega) (by omega) hR ys u b _ _ hq rfl rfl f8
        · exact lawSeats_C gs s k A c w hr (by omega) (by omega) hR ys u b _ _ hq rfl rfl f8
  · exact lawSeats_big gs s k A c w hs
end Go.Proofs.Ythabkfmbdkgghaa
