/-
  The walk of the law on products.
-/
import Derived.Test.YtcfikdoejmgejaaDoorFixAlive
import Derived.Test.YtcfikdoejmgejaaDoorRMulAny
namespace Go.Proofs.YtcfikdoejmgejaaDoor
open Go.RowKit

set_option maxHeartbeats 1000000 in
theorem lawMuls (a b : Int) (w : World) (hE : Env w) :
    Calls Tryd.prog 4 #[.int .i64 a, .int .i64 b] w fun e w' => e = .returned (.bool true) ∧ Below w.heap.size w w' := by
  obtain ⟨x, hx⟩ : ∃ x, mulE a b = x := ⟨_, rfl⟩
  have HX := Lib.hid hx
  have HE := Lib.hid hE
  clear hx hE
  go_enter Tryd.func4, Tryd.ntmps4
  go_wp2_with fail
  refine (alive_any _ HE.out).mono ?_
  rintro e w1 ⟨rfl, hb1⟩
  obtain ⟨hc1, hf1⟩ := bcell hb1; have z1 := hb1.size; (try simp at z1); have g1 : Below w.heap.size w w1 := thru (by go_grown) hb1 (by first | omega | (simp; done) | (simp; omega)); (try have s1 : w.heap.size < w1.heap.size := by omega); (try have t1_a1 : w.heap.size < w1.heap.size + 1 := by omega); (try have t1_a2 : w.heap.size < w1.heap.size + 1 + 1 := by omega)
  go_wp2_with fail
  refine (mul_any a b _).mono ?_
  rw [HX.out]
  rintro e w2 ⟨rfl, hb2⟩
  obtain ⟨hc2, hf2⟩ := bcell hb2; have z2 := hb2.size; (try simp at z2); have g2 : Below w.heap.size w w2 := thru (by go_grown) hb2 (by first | omega | (simp; done) | (simp; omega)); (try have s2 : w.heap.size < w2.heap.size := by omega); (try have t2_a1 : w.heap.size < w2.heap.size + 1 := by omega); (try have t1_2_a1 : w1.heap.size < w2.heap.size + 1 := by omega); (try have t2_a2 : w.heap.size < w2.heap.size + 1 + 1 := by omega); (try have t1_2_a2 : w1.heap.size < w2.heap.size + 1 + 1 := by omega); (try have s1_2 : w1.heap.size < w2.heap.size := by omega)
  go_wp2_with fail
  refine (rmul_any a b _).mono ?_
  rw [HX.out]
  rintro e w3 ⟨rfl, rfl⟩
  go_wp2
  go_ret
  exact ⟨rfl, by go_grown⟩
end Go.Proofs.YtcfikdoejmgejaaDoor
