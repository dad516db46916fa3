/-
  The end of the plan of the groomers of the example: 20.
-/
import Derived.Test.YtljhocdbfbjpiaaRouteI
namespace Go.Proofs.Ytljhocdbfbjpiaa
open Go.RowKit

set_option maxRecDepth 20000 in
set_option maxHeartbeats 2000000 in
theorem roend_any (g : Nat) (w : World) (hz : g < w.heap.size) (hg : w.heap[g]? = some (.cells (shC bestA ++ shC bestB).toArray 163 (0, 0))) :
    Calls Try.prog 55 #[.slice (some ⟨g, 0, none⟩) 2 2] w fun e w' => e = .returned (.int .i64 20) ∧ Below w.heap.size w w' := by
  have C : ∀ (j : Nat) {v : Value}, (shC bestA ++ shC bestB)[j]? = some v → w.cell? ⟨g, j, none⟩ = some v := fun j v e => by rw [cell_of_row _ _ _ _ _ _ hg]; simpa using e
  have a0 : w.cell? ⟨g, 0, none⟩ = some (.int .i64 1) := C 0 rfl
  have a1 : w.cell? ⟨g, 1, none⟩ = some (.int .i64 1) := C 1 rfl
  have a2 : w.cell? ⟨g, 2, none⟩ = some (.int .i64 0) := C 2 rfl
  have a3 : w.cell? ⟨g, 3, none⟩ = some (.int .i64 10) := C 3 rfl
  have b0 : w.cell? ⟨g, 4, none⟩ = some (.int .i64 2) := C 4 rfl
  have b1 : w.cell? ⟨g, 5, none⟩ = some (.int .i64 2) := C 5 rfl
  have b2 : w.cell? ⟨g, 6, none⟩ = some (.int .i64 0) := C 6 rfl
  have b3 : w.cell? ⟨g, 7, none⟩ = some (.int .i64 20) := C 7 rfl
  clear C hg
  go_enter Try.func55, Try.ntmps55
  go_wp2
  go_loopw [3, 8] (fun m j wr => ((j = .int .i64 0 ∧ m = .int .i64 0) ∨ (j = .int .i64 1 ∧ m = .int .i64 10) ∨ (j = .int .i64 2 ∧ m = .int .i64 20)) ∧ Below w.heap.size w wr) (fun _ j _ => 2 - (intOf j).toNat)
  case atStart => exact ⟨.inl ⟨rfl, rfl⟩, Below.refl _ _⟩
  case round =>
    obtain ⟨hj, hb⟩ := hrel
    replace a0 := (hb.cell (p := ⟨g, 0, none⟩) hz).trans a0
    replace a1 := (hb.cell (p := ⟨g, 1, none⟩) hz).trans a1
    replace a2 := (hb.cell (p := ⟨g, 2, none⟩) hz).trans a2
    replace a3 := (hb.cell (p := ⟨g, 3, none⟩) hz).trans a3
    replace b0 := (hb.cell (p := ⟨g, 4, none⟩) hz).trans b0
    replace b1 := (hb.cell (p := ⟨g, 5, none⟩) hz).trans b1
    replace b2 := (hb.cell (p := ⟨g, 6, none⟩) hz).trans b2
    replace b3 := (hb.cell (p := ⟨g, 7, none⟩) hz).trans b3
    have zr : g < wr.heap.size := Nat.lt_of_lt_of_le hz hb.size
    have HB := Lib.hid hb
    clear hb
    rcases hj with ⟨rfl, rfl⟩ | ⟨rfl, rfl⟩ | ⟨rfl, rfl⟩
    · go_wp2
      go_roundw
      case rel => exact ⟨.inr (.inl ⟨by go_num, rfl⟩), thru HB.out (Joins.below_alloc1 _ _) HB.out.size⟩
      case measure => simp [intOf]
    · go_wp2
      go_roundw
      case rel => exact ⟨.inr (.inr ⟨by go_num, rfl⟩), thru HB.out (Joins.below_alloc1 _ _) HB.out.size⟩
      case measure => simp [intOf]
    · go_wp2
      go_ret
      exact ⟨rfl, HB.out⟩
set_option maxRecDepth 20000 in
set_option maxHeartbeats 2000000 in
theorem roleast_any (b q : Nat) (w : World) (hM : Tsk w b) (hb : b < w.heap.size) (hq : q < w.heap.size) (hq0 : w.cell? ⟨q, 0, none⟩ = some (.bool false)) (hq1 : w.cell? ⟨q, 1, none⟩ = some (.bool false)) :
    Calls Try.prog 22 #[.slice (some ⟨b, 0, none⟩) 2 2, .slice (some ⟨q, 0, none⟩) 2 2] w fun e w' => e = .returned (.int .i64 20) ∧ Below w.heap.size w w' := by
  have hC := robest_any b q w hM hb hq hq0 hq1
  have HC := Lib.hid hC
  clear hC hM hq0 hq1
  go_enter Try.func22, Try.ntmps22
  go_wp2_with fail
  refine HC.out.mono ?_
  rintro e w1 ⟨⟨g, rfl, hg1, hg2⟩, hb1⟩
  have HB1 := Lib.hid hb1
  have hE := Lib.hid (roend_any g w1 hg1 hg2)
  clear hb1 hg2
  go_wp2_with fail
  refine hE.out.mono ?_
  rintro e w2 ⟨rfl, hb2⟩
  have HB2 := Lib.hid (thru HB1.out hb2 HB1.out.size)
  clear hb2
  go_wp2
  go_ret
  exact ⟨rfl, HB2.out⟩
end Go.Proofs.Ytljhocdbfbjpiaa
