/-
  The examples that the statements of the whole look at first.
-/
import Derived.Test.YtljhocdbfbjpiaaRouteJ
import Derived.Test.YtljhocdbfbjpiaaRescF
import Derived.Test.YtljhocdbfbjpiaaAsgE
namespace Go.Proofs.Ytljhocdbfbjpiaa
open Go.RowKit

abbrev tskO : Obj := .cells #[.int .i64 1, .int .i64 10, .bool false, .slice none 0 0, .int .i64 2, .int .i64 20, .bool false, .slice none 0 0] 64
abbrev winO : Obj := .cells #[.bool false, .bool false] 4
theorem tsk_new (w : World) : Tsk (w.alloc tskO) w.heap.size := ⟨by simp [go_sem], by simp [go_sem], by simp [go_sem], by simp [go_sem], by simp [go_sem], by simp [go_sem], by simp [go_sem], by simp [go_sem]⟩
theorem sec_new (w : World) : Secs (w.alloc (.cells #[.int .i64 1, .int .i64 3, .int .i64 10, .int .i64 2, .int .i64 1, .int .i64 15] 73)) w.heap.size := ⟨by simp [go_sem], by simp [go_sem], by simp [go_sem], by simp [go_sem], by simp [go_sem], by simp [go_sem]⟩
theorem mat_new (w : World) : Mat (((w.alloc (.cells #[.int .i64 5, .int .i64 1] 3)).alloc (.cells #[.int .i64 1, .int .i64 5] 3)).alloc (.cells #[.slice (some ⟨w.heap.size, 0, none⟩) 2 2, .slice (some ⟨w.heap.size + 1, 0, none⟩) 2 2] 28)) (w.heap.size + 1 + 1) w.heap.size (w.heap.size + 1) :=
  ⟨by simp [go_sem], by simp [go_sem], by simp [go_sem], by simp [go_sem], by simp [go_sem], by simp [go_sem]⟩

set_option maxRecDepth 20000 in
set_option maxHeartbeats 4000000 in
theorem plansAlive_any (w : World) : Calls Try.prog 5 #[] w fun e w' => e = .returned (.bool true) ∧ Below w.heap.size w w' := by
  have hC1 := robest_any w.heap.size (w.heap.size + 1) ((w.alloc tskO).alloc winO) ((tsk_new w).on (by simp) (Joins.below_alloc1 _ _)) (by simp; omega) (by simp) (by simp [go_sem]) (by simp [go_sem])
  have HC1 := Lib.hid hC1
  clear hC1
  go_enter Try.func5, Try.ntmps5
  go_wp2_with fail
  refine HC1.out.mono ?_
  rintro e w1 ⟨⟨g1, rfl, -, -⟩, hb1⟩
  have HT1 := Lib.hid ((((tsk_new w).on (by simp) (Joins.below_alloc1 _ winO)).on (by simp; omega) hb1))
  have z1 : w.heap.size + 1 + 1 ≤ w1.heap.size := by have := hb1.size; simpa using this
  have HB1 := Lib.hid (Below.trans (B := w.heap.size) ((Joins.below_alloc1 w tskO).alloc (by simp) winO) (hb1.mono (by simp; omega)))
  clear hb1 HC1
  have hC2 := rplan_any w1.heap.size (w1.alloc (.cells #[.int .i64 1, .int .i64 3, .int .i64 10, .int .i64 2, .int .i64 1, .int .i64 15] 73)) (sec_new w1) (by simp)
  have HC2 := Lib.hid hC2
  clear hC2
  go_wp2_with fail
  refine HC2.out.mono ?_
  rintro e w2 ⟨⟨A2, c2, rfl⟩, hb2⟩
  have hb2' : Below w1.heap.size w1 w2 := thru (Joins.below_alloc1 _ _) hb2 (by simp)
  have HB2 := Lib.hid (thru HB1.out hb2' HB1.out.size)
  have HT2 := Lib.hid (HT1.out.on (by omega) hb2')
  have z2 : w1.heap.size ≤ w2.heap.size := hb2'.size
  clear hb2 hb2' HC2 HT1
  have hC3 := asg_best (w2.heap.size + 1 + 1) w2.heap.size (w2.heap.size + 1) (((w2.alloc (.cells #[.int .i64 5, .int .i64 1] 3)).alloc (.cells #[.int .i64 1, .int .i64 5] 3)).alloc (.cells #[.slice (some ⟨w2.heap.size, 0, none⟩) 2 2, .slice (some ⟨w2.heap.size + 1, 0, none⟩) 2 2] 28)) (mat_new w2) (by simp) (by simp; omega) (by simp)
  have HC3 := Lib.hid hC3
  clear hC3
  go_wp2_with fail
  refine HC3.out.mono ?_
  rintro e w3 ⟨⟨v3, rfl⟩, hb3⟩
  have hb3' : Below w2.heap.size w2 w3 := thru (((Joins.below_alloc1 w2 _).alloc (by simp) _).alloc (by simp; omega) _) hb3 (by simp; omega)
  have HB3 := Lib.hid (thru HB2.out hb3' HB2.out.size)
  have HT3 := Lib.hid (HT2.out.on (by omega) hb3')
  have z3 : w2.heap.size ≤ w3.heap.size := hb3'.size
  clear hb3 hb3' HC3 HT2
  have hC4 := roleast_any w.heap.size w3.heap.size (w3.alloc winO) (HT3.out.on (by omega) (Joins.below_alloc1 _ _)) (by simp; omega) (by simp) (by simp [go_sem]) (by simp [go_sem])
  have HC4 := Lib.hid hC4
  clear hC4
  go_wp2_with fail
  refine HC4.out.mono ?_
  rintro e w4 ⟨rfl, hb4⟩
  have HB4 := Lib.hid (thru HB3.out (thru (Joins.below_alloc1 w3 winO) hb4 (by simp)) HB3.out.size)
  clear hb4 HC4
  go_wp2
  go_ret
  exact ⟨rfl, HB4.out⟩
end Go.Proofs.Ytljhocdbfbjpiaa
