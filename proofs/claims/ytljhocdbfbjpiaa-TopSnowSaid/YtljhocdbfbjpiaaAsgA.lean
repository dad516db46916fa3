/-
  The check of the matrix of the example: it is right.
-/
import Derived.Test.YtljhocdbfbjpiaaPlanRead
namespace Go.Proofs.Ytljhocdbfbjpiaa
open Go.RowKit

/-- The matrix of the example. -/
structure Mat (w : World) (b r0 r1 : Nat) : Prop where
  c0 : w.cell? ⟨b, 0, none⟩ = some (.slice (some ⟨r0, 0, none⟩) 2 2)
  c1 : w.cell? ⟨b, 1, none⟩ = some (.slice (some ⟨r1, 0, none⟩) 2 2)
  a0 : w.cell? ⟨r0, 0, none⟩ = some (.int .i64 5)
  a1 : w.cell? ⟨r0, 1, none⟩ = some (.int .i64 1)
  b0 : w.cell? ⟨r1, 0, none⟩ = some (.int .i64 1)
  b1 : w.cell? ⟨r1, 1, none⟩ = some (.int .i64 5)

set_option maxRecDepth 20000 in
set_option maxHeartbeats 2000000 in
theorem aright_any (b r0 r1 : Nat) (w : World) (hM : Mat w b r0 r1) :
    Calls Try.prog 52 #[.slice (some ⟨b, 0, none⟩) 2 2] w fun e w' => e = .returned (.int .i64 0) ∧ w = w' := by
  obtain ⟨c0, c1, a0, a1, b0, b1⟩ := hM
  go_enter Try.func52, Try.ntmps52
  go_wp2
  go_loopw [16] (fun i wr => ∃ k : Nat, k ≤ 2 ∧ i = .int .i64 k ∧ w = wr) (fun i _ => 2 - (intOf i).toNat)
  case atStart => exact ⟨0, by omega, rfl, rfl⟩
  case round =>
    obtain ⟨k, hk, rfl, rfl⟩ := hrel
    obtain rfl | rfl | rfl : k = 0 ∨ k = 1 ∨ k = 2 := by omega
    · go_wp2
      go_roundw
      case rel => exact ⟨1, by omega, by go_num, by first | rfl | trivial⟩
      case measure => simp [intOf]
    · go_wp2
      go_roundw
      case rel => exact ⟨2, by omega, by go_num, by first | rfl | trivial⟩
      case measure => simp [intOf]
    · go_wp2
      go_loopw [26] (fun i wr => ∃ k : Nat, k ≤ 2 ∧ i = .int .i64 k ∧ w = wr) (fun i _ => 2 - (intOf i).toNat)
      case atStart => exact ⟨0, by omega, rfl, rfl⟩
      case round =>
        obtain ⟨k, hk, rfl, rfl⟩ := hrel
        obtain rfl | rfl | rfl : k = 0 ∨ k = 1 ∨ k = 2 := by omega
        · go_wp2
          go_roundw
          case rel => exact ⟨1, by omega, by go_num, by first | rfl | trivial⟩
          case measure => simp [intOf]
        · go_wp2
          go_roundw
          case rel => exact ⟨2, by omega, by go_num, by first | rfl | trivial⟩
          case measure => simp [intOf]
        · go_wp2
          go_loopw [47] (fun i wr => ∃ k : Nat, k ≤ 2 ∧ i = .int .i64 k ∧ w = wr) (fun i _ => 2 - (intOf i).toNat)
          case atStart => exact ⟨0, by omega, rfl, rfl⟩
          case round =>
            obtain ⟨k, hk, rfl, rfl⟩ := hrel
            obtain rfl | rfl | rfl : k = 0 ∨ k = 1 ∨ k = 2 := by omega
            · go_wp2
              go_loopw [53] (fun i wr => ∃ k : Nat, k ≤ 2 ∧ i = .int .i64 k ∧ w = wr) (fun i _ => 2 - (intOf i).toNat)
              case atStart => exact ⟨0, by omega, rfl, rfl⟩
              case round =>
                obtain ⟨k, hk, rfl, rfl⟩ := hrel
                obtain rfl | rfl | rfl : k = 0 ∨ k = 1 ∨ k = 2 := by omega
                · go_wp2
                  go_roundw
                  case rel => exact ⟨1, by omega, by go_num, by first | rfl | trivial⟩
                  case measure => simp [intOf]
                · go_wp2
                  go_roundw
                  case rel => exact ⟨2, by omega, by go_num, by first | rfl | trivial⟩
                  case measure => simp [intOf]
                · go_wp2
                  go_roundw
                  case rel => exact ⟨1, by omega, by go_num, by first | rfl | trivial⟩
                  case measure => simp [intOf]
            · go_wp2
              go_loopw [53] (fun i wr => ∃ k : Nat, k ≤ 2 ∧ i = .int .i64 k ∧ w = wr) (fun i _ => 2 - (intOf i).toNat)
              case atStart => exact ⟨0, by omega, rfl, rfl⟩
              case round =>
                obtain ⟨k, hk, rfl, rfl⟩ := hrel
                obtain rfl | rfl | rfl : k = 0 ∨ k = 1 ∨ k = 2 := by omega
                · go_wp2
                  go_roundw
                  case rel => exact ⟨1, by omega, by go_num, by first | rfl | trivial⟩
                  case measure => simp [intOf]
                · go_wp2
                  go_roundw
                  case rel => exact ⟨2, by omega, by go_num, by first | rfl | trivial⟩
                  case measure => simp [intOf]
                · go_wp2
                  go_roundw
                  case rel => exact ⟨2, by omega, by go_num, by first | rfl | trivial⟩
                  case measure => simp [intOf]
            · go_wp2
              go_ret
              exact ⟨rfl, rfl⟩
end Go.Proofs.Ytljhocdbfbjpiaa
