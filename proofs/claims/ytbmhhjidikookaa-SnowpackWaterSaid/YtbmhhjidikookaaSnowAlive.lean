/-
  The walk of the examples of the chapter on snow packs: they hold; and of 'holds'.
-/
import Derived.Test.YtbmhhjidikookaaSnowWalkF
namespace Go.Proofs.Ytbmhhjidikookaa
open Go.RowKit

set_option maxHeartbeats 2000000 in
theorem alive_any (w : World) : Calls Try.prog 12 #[] w fun e w' => e = .returned (.bool true) ∧ Below w.heap.size w w' := by
  have v1 : Snow.depth 60 40 300 = (333, 0) := by decide
  have v2 : Snow.fall 100 0 400 100 100 = (200, 0, 160, 0) := by decide
  have v3 : Snow.settle 0 0 400 2 = (0, 0, 404, 0) := by decide
  have v4 : Snow.melt 20 5 300 30 = (0, 0, 300, 25, 0) := by decide
  have v5 : Snow.move 10 5 300 0 0 500 8 = ((7, 0, 300), (3, 5, 300), 0) := by decide
  have v6 : Snow.fall 0 0 0 (-1) 100 = (0, 0, 0, 1) := by decide
  go_enter Try.func12, Try.ntmps12
  go_wp2_with fail
  refine (Depth_any _ _ _ _).mono ?_
  rintro e w1 ⟨rfl, hb1⟩
  obtain ⟨hc1, hf1⟩ := bcell hb1; have z1 := hb1.size; (try simp at z1); have g1 : Below w.heap.size w w1 := thru (by go_grown) hb1 (by first | omega | (simp; done) | (simp; omega)); (try have s1 : w.heap.size < w1.heap.size := by omega); (try have t1_a1 : w.heap.size < w1.heap.size + 1 := by omega); (try have t1_a2 : w.heap.size < w1.heap.size + 1 + 1 := by omega)
  go_wp2_with fail
  refine (Fall_any _ _ _ _ _ _).mono ?_
  rintro e w2 ⟨rfl, hb2⟩
  obtain ⟨hc2, hf2⟩ := bcell hb2; have z2 := hb2.size; (try simp at z2); have g2 : Below w.heap.size w w2 := thru (by go_grown) hb2 (by first | omega | (simp; done) | (simp; omega)); (try have s2 : w.heap.size < w2.heap.size := by omega); (try have t2_a1 : w.heap.size < w2.heap.size + 1 := by omega); (try have t1_2_a1 : w1.heap.size < w2.heap.size + 1 := by omega); (try have t2_a2 : w.heap.size < w2.heap.size + 1 + 1 := by omega); (try have t1_2_a2 : w1.heap.size < w2.heap.size + 1 + 1 := by omega); (try have s1_2 : w1.heap.size < w2.heap.size := by omega)
  go_wp2_with fail
  refine (Settle_any _ _ _ _ _).mono ?_
  rintro e w3 ⟨rfl, hb3⟩
  obtain ⟨hc3, hf3⟩ := bcell hb3; have z3 := hb3.size; (try simp at z3); have g3 : Below w.heap.size w w3 := thru (by go_grown) hb3 (by first | omega | (simp; done) | (simp; omega)); (try have s3 : w.heap.size < w3.heap.size := by omega); (try have t3_a1 : w.heap.size < w3.heap.size + 1 := by omega); (try have t1_3_a1 : w1.heap.size < w3.heap.size + 1 := by omega); (try have t2_3_a1 : w2.heap.size < w3.heap.size + 1 := by omega); (try have t3_a2 : w.heap.size < w3.heap.size + 1 + 1 := by omega); (try have t1_3_a2 : w1.heap.size < w3.heap.size + 1 + 1 := by omega); (try have t2_3_a2 : w2.heap.size < w3.heap.size + 1 + 1 := by omega); (try have s1_3 : w1.heap.size < w3.heap.size := by omega); (try have s2_3 : w2.heap.size < w3.heap.size := by omega)
  go_wp2_with fail
  refine (Melt_any _ _ _ _ _).mono ?_
  rintro e w4 ⟨rfl, hb4⟩
  obtain ⟨hc4, hf4⟩ := bcell hb4; have z4 := hb4.size; (try simp at z4); have g4 : Below w.heap.size w w4 := thru (by go_grown) hb4 (by first | omega | (simp; done) | (simp; omega)); (try have s4 : w.heap.size < w4.heap.size := by omega); (try have t4_a1 : w.heap.size < w4.heap.size + 1 := by omega); (try have t1_4_a1 : w1.heap.size < w4.heap.size + 1 := by omega); (try have t2_4_a1 : w2.heap.size < w4.heap.size + 1 := by omega); (try have t3_4_a1 : w3.heap.size < w4.heap.size + 1 := by omega); (try have t4_a2 : w.heap.size < w4.heap.size + 1 + 1 := by omega); (try have t1_4_a2 : w1.heap.size < w4.heap.size + 1 + 1 := by omega); (try have t2_4_a2 : w2.heap.size < w4.heap.size + 1 + 1 := by omega); (try have t3_4_a2 : w3.heap.size < w4.heap.size + 1 + 1 := by omega); (try have s1_4 : w1.heap.size < w4.heap.size := by omega); (try have s2_4 : w2.heap.size < w4.heap.size := by omega); (try have s3_4 : w3.heap.size < w4.heap.size := by omega)
  go_wp2_with fail
  refine (Move_any _ _ _ _ _ _ _ _).mono ?_
  rintro e w5 ⟨rfl, hb5⟩
  obtain ⟨hc5, hf5⟩ := bcell hb5; have z5 := hb5.size; (try simp at z5); have g5 : Below w.heap.size w w5 := thru (by go_grown) hb5 (by first | omega | (simp; done) | (simp; omega)); (try have s5 : w.heap.size < w5.heap.size := by omega); (try have t5_a1 : w.heap.size < w5.heap.size + 1 := by omega); (try have t1_5_a1 : w1.heap.size < w5.heap.size + 1 := by omega); (try have t2_5_a1 : w2.heap.size < w5.heap.size + 1 := by omega); (try have t3_5_a1 : w3.heap.size < w5.heap.size + 1 := by omega); (try have t4_5_a1 : w4.heap.size < w5.heap.size + 1 := by omega); (try have t5_a2 : w.heap.size < w5.heap.size + 1 + 1 := by omega); (try have t1_5_a2 : w1.heap.size < w5.heap.size + 1 + 1 := by omega); (try have t2_5_a2 : w2.heap.size < w5.heap.size + 1 + 1 := by omega); (try have t3_5_a2 : w3.heap.size < w5.heap.size + 1 + 1 := by omega); (try have t4_5_a2 : w4.heap.size < w5.heap.size + 1 + 1 := by omega); (try have s1_5 : w1.heap.size < w5.heap.size := by omega); (try have s2_5 : w2.heap.size < w5.heap.size := by omega); (try have s3_5 : w3.heap.size < w5.heap.size := by omega); (try have s4_5 : w4.heap.size < w5.heap.size := by omega)
  go_wp2_with fail
  refine (Fall_any _ _ _ _ _ _).mono ?_
  rintro e w6 ⟨rfl, hb6⟩
  obtain ⟨hc6, hf6⟩ := bcell hb6; have z6 := hb6.size; (try simp at z6); have g6 : Below w.heap.size w w6 := thru (by go_grown) hb6 (by first | omega | (simp; done) | (simp; omega)); (try have s6 : w.heap.size < w6.heap.size := by omega); (try have t6_a1 : w.heap.size < w6.heap.size + 1 := by omega); (try have t1_6_a1 : w1.heap.size < w6.heap.size + 1 := by omega); (try have t2_6_a1 : w2.heap.size < w6.heap.size + 1 := by omega); (try have t3_6_a1 : w3.heap.size < w6.heap.size + 1 := by omega); (try have t4_6_a1 : w4.heap.size < w6.heap.size + 1 := by omega); (try have t5_6_a1 : w5.heap.size < w6.heap.size + 1 := by omega); (try have t6_a2 : w.heap.size < w6.heap.size + 1 + 1 := by omega); (try have t1_6_a2 : w1.heap.size < w6.heap.size + 1 + 1 := by omega); (try have t2_6_a2 : w2.heap.size < w6.heap.size + 1 + 1 := by omega); (try have t3_6_a2 : w3.heap.size < w6.heap.size + 1 + 1 := by omega); (try have t4_6_a2 : w4.heap.size < w6.heap.size + 1 + 1 := by omega); (try have t5_6_a2 : w5.heap.size < w6.heap.size + 1 + 1 := by omega); (try have t6_a3 : w.heap.size < w6.heap.size + 1 + 1 + 1 := by omega); (try have t1_6_a3 : w1.heap.size < w6.heap.size + 1 + 1 + 1 := by omega); (try have t2_6_a3 : w2.heap.size < w6.heap.size + 1 + 1 + 1 := by omega); (try have t3_6_a3 : w3.heap.size < w6.heap.size + 1 + 1 + 1 := by omega); (try have t4_6_a3 : w4.heap.size < w6.heap.size + 1 + 1 + 1 := by omega); (try have t5_6_a3 : w5.heap.size < w6.heap.size + 1 + 1 + 1 := by omega); (try have s6_p1 : w.heap.size + 1 < w6.heap.size := by omega); (try have s1_6_p1 : w1.heap.size + 1 < w6.heap.size := by omega); (try have s2_6_p1 : w2.heap.size + 1 < w6.heap.size := by omega); (try have s3_6_p1 : w3.heap.size + 1 < w6.heap.size := by omega); (try have s4_6_p1 : w4.heap.size + 1 < w6.heap.size := by omega); (try have s5_6_p1 : w5.heap.size + 1 < w6.heap.size := by omega); (try have s1_6 : w1.heap.size < w6.heap.size := by omega); (try have s2_6 : w2.heap.size < w6.heap.size := by omega); (try have s3_6 : w3.heap.size < w6.heap.size := by omega); (try have s4_6 : w4.heap.size < w6.heap.size := by omega); (try have s5_6 : w5.heap.size < w6.heap.size := by omega)
  go_wp2
  go_ret
  exact ⟨rfl, by go_grown⟩

theorem holds_any (n m d x : Int) (w : World) : Calls Try.prog 29 #[pk n m d, .int .i64 x] w fun e w' => e = .returned (.bool (Snow.right n m d && n + m == x)) ∧ Below w.heap.size w w' := by
  cases h : Snow.right n m d
  · have v1 : Snow.water n m d = (0, 1) := by simp [Snow.water, h]
    go_enter Try.func29, Try.ntmps29
    go_wp2_with fail
    refine (Water_any _ _ _ _).mono ?_
    rintro e w1 ⟨rfl, hb1⟩
    obtain ⟨hc1, hf1⟩ := bcell hb1; have z1 := hb1.size; (try simp at z1); have g1 : Below w.heap.size w w1 := thru (by go_grown) hb1 (by first | omega | (simp; done) | (simp; omega)); (try have s1 : w.heap.size < w1.heap.size := by omega); (try have t1_a1 : w.heap.size < w1.heap.size + 1 := by omega); (try have t1_a2 : w.heap.size < w1.heap.size + 1 + 1 := by omega)
    go_wp2
    go_ret
    exact ⟨ret_bool (by simp), by go_grown⟩
  · have v1 : Snow.water n m d = (n + m, 0) := by simp [Snow.water, h]
    cases h2 : (n + m == x)
    · go_enter Try.func29, Try.ntmps29
      go_wp2_with fail
      refine (Water_any _ _ _ _).mono ?_
      rintro e w1 ⟨rfl, hb1⟩
      obtain ⟨hc1, hf1⟩ := bcell hb1; have z1 := hb1.size; (try simp at z1); have g1 : Below w.heap.size w w1 := thru (by go_grown) hb1 (by first | omega | (simp; done) | (simp; omega)); (try have s1 : w.heap.size < w1.heap.size := by omega); (try have t1_a1 : w.heap.size < w1.heap.size + 1 := by omega); (try have t1_a2 : w.heap.size < w1.heap.size + 1 + 1 := by omega)
      go_wp2
      go_ret
      exact ⟨ret_bool (by simp), by go_grown⟩
    · go_enter Try.func29, Try.ntmps29
      go_wp2_with fail
      refine (Water_any _ _ _ _).mono ?_
      rintro e w1 ⟨rfl, hb1⟩
      obtain ⟨hc1, hf1⟩ := bcell hb1; have z1 := hb1.size; (try simp at z1); have g1 : Below w.heap.size w w1 := thru (by go_grown) hb1 (by first | omega | (simp; done) | (simp; omega)); (try have s1 : w.heap.size < w1.heap.size := by omega); (try have t1_a1 : w.heap.size < w1.heap.size + 1 := by omega); (try have t1_a2 : w.heap.size < w1.heap.size + 1 + 1 := by omega)
      go_wp2_with (go_at_call 21; refine (right_any _ _ _ _).mono ?_; rintro e w1 ⟨rfl, rfl⟩)
      go_ret
      exact ⟨ret_bool (by simp), by go_grown⟩
end Go.Proofs.Ytbmhhjidikookaa
