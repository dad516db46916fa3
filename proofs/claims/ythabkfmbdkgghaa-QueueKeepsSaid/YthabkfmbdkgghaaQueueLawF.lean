/-
  The walk of the law QueueKeeps: the cases joined.
-/
import Derived.Test.YthabkfmbdkgghaaQueueKeepB
import Derived.Test.YthabkfmbdkgghaaQueueKeepC
import Derived.Test.YthabkfmbdkgghaaQueueKeepD
namespace Go.Proofs.Ythabkfmbdkgghaa
open Go.RowKit

theorem lawKeeps_big (gs : List Int) (s n k : Int) (A : Option Addr) (c : Nat) (w : World) (hs : ¬ gs.length ≤ 300) : Calls Try.prog 8 #[qv A gs.length c s, .int .i64 n, .int .i64 k] w fun e w' => e = .returned (.bool true) ∧ Below w.heap.size w w' := by
  have HS := Lib.hid hs
  clear hs
  go_enter Try.func8, Try.ntmps8
  go_wp2_with fail
  refine (alive_any _).mono ?_
  rintro e w1 ⟨rfl, hb1⟩
  obtain ⟨hc1, hf1⟩ := bcell hb1; have z1 := hb1.size; (try simp at z1); have g1 : Below w.heap.size w w1 := thru (by go_grown) hb1 (by first | omega | (simp; done) | (simp; omega)); (try have s1 : w.heap.size < w1.heap.size := by omega); (try have t1_a1 : w.heap.size < w1.heap.size + 1 := by omega); (try have t1_a2 : w.heap.size < w1.heap.size + 1 + 1 := by omega)
  go_wp2_with fail
  refine (small_false _ _ _ _ _ HS.out).mono ?_
  rintro e w2 ⟨rfl, rfl⟩
  go_wp2
  go_ret
  exact ⟨rfl, by go_grown⟩
theorem lawKeeps_wrong (gs : List Int) (s n k : Int) (A : Option Addr) (c : Nat) (w : World) (hs : gs.length ≤ 300) (hr : Que.right gs s = false) (hR : Rd w A gs) : Calls Try.prog 8 #[qv A gs.length c s, .int .i64 n, .int .i64 k] w fun e w' => e = .returned (.bool true) ∧ Below w.heap.size w w' := by
  have HS := Lib.hid hs
  have HR := Lib.hid hR
  clear hs hR
  go_enter Try.func8, Try.ntmps8
  go_wp2_with fail
  refine (alive_any _).mono ?_
  rintro e w1 ⟨rfl, hb1⟩
  have HRD := Lib.hid ((HR.out.below (by go_grown)).below hb1)
  obtain ⟨hc1, hf1⟩ := bcell hb1; have z1 := hb1.size; (try simp at z1); have g1 : Below w.heap.size w w1 := thru (by go_grown) hb1 (by first | omega | (simp; done) | (simp; omega)); (try have s1 : w.heap.size < w1.heap.size := by omega); (try have t1_a1 : w.heap.size < w1.heap.size + 1 := by omega); (try have t1_a2 : w.heap.size < w1.heap.size + 1 + 1 := by omega)
  go_wp2_with fail
  refine (small_true _ _ _ _ _ HS.out).mono ?_
  rintro e w2 ⟨rfl, rfl⟩
  go_wp2_with fail
  refine (right_any gs s A c _ (HRD.out.below (by go_grown))).mono ?_
  rw [hr]
  rintro e w3 ⟨rfl, rfl⟩
  go_wp2
  go_ret
  exact ⟨rfl, by go_grown⟩
theorem lawKeeps (gs : List Int) (s n k : Int) (A : Option Addr) (c : Nat) (w : World) (hR : Rd w A gs) : Calls Try.prog 8 #[qv A gs.length c s, .int .i64 n, .int .i64 k] w fun e w' => e = .returned (.bool true) ∧ Below w.heap.size w w' := by
  by_cases hs : gs.length ≤ 300
  · cases hr : Que.right gs s
    · exact lawKeeps_wrong gs s n k A c w hs hr hR
    · cases gs with
      | nil =>
        cases A with
        | none => exact lawKeeps_nil s n k c w hr
        | some a => exact lawKeeps_empty s n k a c w hr
      | cons g r => exact lawKeeps_cons (g :: r) s n k A c w hr (by simp) hR
  · exact lawKeeps_big gs s n k A c w hs
end Go.Proofs.Ythabkfmbdkgghaa
