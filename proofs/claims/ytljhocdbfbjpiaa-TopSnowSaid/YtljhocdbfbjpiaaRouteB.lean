/-
  The tasks of the example are right.
-/
import Derived.Test.YtljhocdbfbjpiaaRouteA
namespace Go.Proofs.Ytljhocdbfbjpiaa
open Go.RowKit

set_option maxRecDepth 20000 in
set_option maxHeartbeats 4000000 in
theorem roright_any (b q : Nat) (w : World) (hM : Tsk w b) (hb : b < w.heap.size) :
    Calls Try.prog 47 #[.slice (some ⟨b, 0, none⟩) 2 2, .slice (some ⟨q, 0, none⟩) 2 2] w fun e w' => e = .returned (.int .i64 0) ∧ Below w.heap.size w w' := by
  have HM := Lib.hid hM
  clear hM
  go_enter Try.func47, Try.ntmps47
  go_wp2
  go_loopw [20] (fun i wr => ∃ k : Nat, k ≤ 2 ∧ i = .int .i64 k ∧ Below w.heap.size w wr) (fun i _ => 2 - (intOf i).toNat)
  case atStart => exact ⟨0, by omega, rfl, Below.refl _ _⟩
  case round =>
    obtain ⟨k, hk, rfl, hbe⟩ := hrel
    have HT := Lib.hid (HM.out.on hb hbe)
    obtain ⟨a0, a1, a2, a3, b0, b1, b2, b3⟩ := HT.out
    have HBE := Lib.hid hbe
    have hz : b < wr.heap.size := Nat.lt_of_lt_of_le hb hbe.size
    clear hbe
    obtain rfl | rfl | rfl : k = 0 ∨ k = 1 ∨ k = 2 := by omega
    · go_wp2
      go_region_with (go_at_call 78; refine (find_any 0 1 b 2 _ (HT.out.on hz (by ((repeat (first | refine below_drewN ?_ _ | refine below_drew ?_)); go_grown))) (by first | omega | (simp; omega)) (by omega) (.inr rfl)).mono ?_; rintro e w3 ⟨rfl, hb3⟩; have HB3 : Hid (Below w.heap.size w w3) := Lib.hid (thru (B := w.heap.size) (HBE.out.trans (Below.mono (B := wr.heap.size) (by ((repeat (first | refine below_drewN ?_ _ | refine below_drew ?_)); go_grown)) HBE.out.size)) hb3 (by have := HBE.out.size; first | omega | (simp; omega))); have c2 := hb3.cell (p := ⟨wr.heap.size, 2, none⟩) (by first | omega | (simp; done) | (simp; omega)); (try simp [go_sem] at c2); have z3 := hb3.size; (try simp at z3); have zr : wr.heap.size < w3.heap.size := (by omega); clear hb3)
      all_goals
        go_wp2
        go_roundw
        case rel => exact ⟨1, by omega, by go_num, HB3.out⟩
        case measure => simp [intOf]
    · go_wp2
      go_region_with (go_at_call 78; refine (find_any 1 2 b 2 _ (HT.out.on hz (by ((repeat (first | refine below_drewN ?_ _ | refine below_drew ?_)); go_grown))) (by first | omega | (simp; omega)) (by omega) (.inl (by omega))).mono ?_; rintro e w3 ⟨rfl, hb3⟩; have HB3 : Hid (Below w.heap.size w w3) := Lib.hid (thru (B := w.heap.size) (HBE.out.trans (Below.mono (B := wr.heap.size) (by ((repeat (first | refine below_drewN ?_ _ | refine below_drew ?_)); go_grown)) HBE.out.size)) hb3 (by have := HBE.out.size; first | omega | (simp; omega))); have c2 := hb3.cell (p := ⟨wr.heap.size, 2, none⟩) (by first | omega | (simp; done) | (simp; omega)); (try simp [go_sem] at c2); have z3 := hb3.size; (try simp at z3); have zr : wr.heap.size < w3.heap.size := (by omega); clear hb3)
      all_goals
        go_wp2
        go_roundw
        case rel => exact ⟨2, by omega, by go_num, HB3.out⟩
        case measure => simp [intOf]
    · go_wp2
      go_ret
      exact ⟨rfl, HBE.out⟩
end Go.Proofs.Ytljhocdbfbjpiaa
