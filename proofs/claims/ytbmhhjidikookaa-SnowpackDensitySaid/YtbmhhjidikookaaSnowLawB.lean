/-
  The walks of the laws on snow packs without the reference: densities, hours.
-/
import Derived.Test.YtbmhhjidikookaaSnowAlive
import Derived.Test.YtbmhhjidikookaaSnowFacts
namespace Go.Proofs.Ytbmhhjidikookaa
open Go.RowKit

set_option maxHeartbeats 4000000 in
theorem lawDensity (n m d p q r mm k : Int) (w : World) : Calls Try.prog 7 #[pk n m d, pk p q r, .int .i64 mm, .int .i64 k] w fun e w' => e = .returned (.bool true) ∧ Below w.heap.size w w' := by
  obtain ⟨⟨a1, b1, c1, x1⟩, hr⟩ : ∃ z, z = Snow.fall n m d mm k := ⟨_, rfl⟩
  have F1 := Snow.fall_facts hr
  have H1 := Lib.hid hr
  clear hr
  obtain ⟨⟨⟨a2, b2, c2⟩, ⟨a2', b2', c2'⟩, x2⟩, hr⟩ : ∃ z, z = Snow.move n m d p q r mm := ⟨_, rfl⟩
  have F2 := Snow.move_facts hr
  have H2 := Lib.hid hr
  clear hr
  obtain ⟨⟨a3, b3, c3, x3⟩, hr⟩ : ∃ z, z = Snow.settle n m d k := ⟨_, rfl⟩
  have F3 := Snow.settle_facts hr
  have H3 := Lib.hid hr
  clear hr
  rcases F1 with ⟨rfl, -, -, -, -, f1, f1'⟩ | f1 <;> rcases F2 with ⟨rfl, -, -, -, -, -, -, f2, f2'⟩ | f2 <;> rcases F3 with ⟨rfl, -, -, f3, f3'⟩ | f3
  all_goals
    go_enter Try.func7, Try.ntmps7
    go_wp2_with (first
      | (go_at_call 12; refine (alive_any _).mono ?_; rintro e w1 ⟨rfl, hb1⟩; (obtain ⟨hc1, hf1⟩ := bcell hb1; have z1 := hb1.size; (try simp at z1); have g1 : Below w.heap.size w w1 := thru (by go_grown) hb1 (by first | omega | (simp; done) | (simp; omega)); (try have s1 : w.heap.size < w1.heap.size := by omega); (try have t1_a1 : w.heap.size < w1.heap.size + 1 := by omega); (try have t1_a2 : w.heap.size < w1.heap.size + 1 + 1 := by omega); (try have t1_a3 : w.heap.size < w1.heap.size + 1 + 1 + 1 := by omega); (try have s1_p1 : w.heap.size + 1 < w1.heap.size := by omega)))
      | (go_at_call 13; refine (Fall_any _ _ _ _ _ _).mono ?_; rw [← H1.out]; rintro e w2 ⟨rfl, hb2⟩; (obtain ⟨hc2, hf2⟩ := bcell hb2; have z2 := hb2.size; (try simp at z2); have g2 : Below w.heap.size w w2 := thru (by go_grown) hb2 (by first | omega | (simp; done) | (simp; omega)); (try have s2 : w.heap.size < w2.heap.size := by omega); (try have t2_a1 : w.heap.size < w2.heap.size + 1 := by omega); (try have t1_2_a1 : w1.heap.size < w2.heap.size + 1 := by omega); (try have t2_a2 : w.heap.size < w2.heap.size + 1 + 1 := by omega); (try have t1_2_a2 : w1.heap.size < w2.heap.size + 1 + 1 := by omega); (try have t2_a3 : w.heap.size < w2.heap.size + 1 + 1 + 1 := by omega); (try have t1_2_a3 : w1.heap.size < w2.heap.size + 1 + 1 + 1 := by omega); (try have s2_p1 : w.heap.size + 1 < w2.heap.size := by omega); (try have s1_2_p1 : w1.heap.size + 1 < w2.heap.size := by omega); (try have s1_2 : w1.heap.size < w2.heap.size := by omega)))
      | (go_at_call 19; refine (Move_any _ _ _ _ _ _ _ _).mono ?_; rw [← H2.out]; rintro e w3 ⟨rfl, hb3⟩; (obtain ⟨hc3, hf3⟩ := bcell hb3; have z3 := hb3.size; (try simp at z3); have g3 : Below w.heap.size w w3 := thru (by go_grown) hb3 (by first | omega | (simp; done) | (simp; omega)); (try have s3 : w.heap.size < w3.heap.size := by omega); (try have t3_a1 : w.heap.size < w3.heap.size + 1 := by omega); (try have t1_3_a1 : w1.heap.size < w3.heap.size + 1 := by omega); (try have t2_3_a1 : w2.heap.size < w3.heap.size + 1 := by omega); (try have t3_a2 : w.heap.size < w3.heap.size + 1 + 1 := by omega); (try have t1_3_a2 : w1.heap.size < w3.heap.size + 1 + 1 := by omega); (try have t2_3_a2 : w2.heap.size < w3.heap.size + 1 + 1 := by omega); (try have t3_a3 : w.heap.size < w3.heap.size + 1 + 1 + 1 := by omega); (try have t1_3_a3 : w1.heap.size < w3.heap.size + 1 + 1 + 1 := by omega); (try have t2_3_a3 : w2.heap.size < w3.heap.size + 1 + 1 + 1 := by omega); (try have s3_p1 : w.heap.size + 1 < w3.heap.size := by omega); (try have s1_3_p1 : w1.heap.size + 1 < w3.heap.size := by omega); (try have s2_3_p1 : w2.heap.size + 1 < w3.heap.size := by omega); (try have s1_3 : w1.heap.size < w3.heap.size := by omega); (try have s2_3 : w2.heap.size < w3.heap.size := by omega)))
      | (go_at_call 15; refine (Settle_any _ _ _ _ _).mono ?_; rw [← H3.out]; rintro e w4 ⟨rfl, hb4⟩; (obtain ⟨hc4, hf4⟩ := bcell hb4; have z4 := hb4.size; (try simp at z4); have g4 : Below w.heap.size w w4 := thru (by go_grown) hb4 (by first | omega | (simp; done) | (simp; omega)); (try have s4 : w.heap.size < w4.heap.size := by omega); (try have t4_a1 : w.heap.size < w4.heap.size + 1 := by omega); (try have t1_4_a1 : w1.heap.size < w4.heap.size + 1 := by omega); (try have t2_4_a1 : w2.heap.size < w4.heap.size + 1 := by omega); (try have t3_4_a1 : w3.heap.size < w4.heap.size + 1 := by omega); (try have t4_a2 : w.heap.size < w4.heap.size + 1 + 1 := by omega); (try have t1_4_a2 : w1.heap.size < w4.heap.size + 1 + 1 := by omega); (try have t2_4_a2 : w2.heap.size < w4.heap.size + 1 + 1 := by omega); (try have t3_4_a2 : w3.heap.size < w4.heap.size + 1 + 1 := by omega); (try have t4_a3 : w.heap.size < w4.heap.size + 1 + 1 + 1 := by omega); (try have t1_4_a3 : w1.heap.size < w4.heap.size + 1 + 1 + 1 := by omega); (try have t2_4_a3 : w2.heap.size < w4.heap.size + 1 + 1 + 1 := by omega); (try have t3_4_a3 : w3.heap.size < w4.heap.size + 1 + 1 + 1 := by omega); (try have s4_p1 : w.heap.size + 1 < w4.heap.size := by omega); (try have s1_4_p1 : w1.heap.size + 1 < w4.heap.size := by omega); (try have s2_4_p1 : w2.heap.size + 1 < w4.heap.size := by omega); (try have s3_4_p1 : w3.heap.size + 1 < w4.heap.size := by omega); (try have s1_4 : w1.heap.size < w4.heap.size := by omega); (try have s2_4 : w2.heap.size < w4.heap.size := by omega); (try have s3_4 : w3.heap.size < w4.heap.size := by omega))))
    all_goals
      go_ret
      exact ⟨ret_bool (by first | rfl | (simp; omega)), by go_grown⟩

set_option maxHeartbeats 1000000 in
theorem lawHours (n m d : Int) (a b : Int) (ha : 0 ≤ a) (ha' : a ≤ 255) (hb : 0 ≤ b) (hb' : b ≤ 255) (w : World) :
    Calls Try.prog 8 #[pk n m d, .int .u8 a, .int .u8 b] w fun e w' => e = .returned (.bool true) ∧ Below w.heap.size w w' := by
  cases h : Snow.right n m d
  · have v1 : Snow.settle n m d a = (0, 0, 0, 1) := by simp [Snow.settle, h]
    go_enter Try.func8, Try.ntmps8
    go_wp2_with (first
      | (go_at_call 12; refine (alive_any _).mono ?_; rintro e w1 ⟨rfl, hb1⟩; (obtain ⟨hc1, hf1⟩ := bcell hb1; have z1 := hb1.size; (try simp at z1); have g1 : Below w.heap.size w w1 := thru (by go_grown) hb1 (by first | omega | (simp; done) | (simp; omega)); (try have s1 : w.heap.size < w1.heap.size := by omega); (try have t1_a1 : w.heap.size < w1.heap.size + 1 := by omega); (try have t1_a2 : w.heap.size < w1.heap.size + 1 + 1 := by omega)))
      | (go_at_call 15; refine (Settle_any _ _ _ _ _).mono ?_; rintro e w2 ⟨rfl, hb2⟩; (obtain ⟨hc2, hf2⟩ := bcell hb2; have z2 := hb2.size; (try simp at z2); have g2 : Below w.heap.size w w2 := thru (by go_grown) hb2 (by first | omega | (simp; done) | (simp; omega)); (try have s2 : w.heap.size < w2.heap.size := by omega); (try have t2_a1 : w.heap.size < w2.heap.size + 1 := by omega); (try have t1_2_a1 : w1.heap.size < w2.heap.size + 1 := by omega); (try have t2_a2 : w.heap.size < w2.heap.size + 1 + 1 := by omega); (try have t1_2_a2 : w1.heap.size < w2.heap.size + 1 + 1 := by omega); (try have s1_2 : w1.heap.size < w2.heap.size := by omega)))
      | (go_at_call 21; refine (right_any _ _ _ _).mono ?_; rintro e w3 ⟨rfl, rfl⟩))
    go_ret
    exact ⟨rfl, by go_grown⟩
  · obtain ⟨A, rfl⟩ := Int.eq_ofNat_of_zero_le ha
    obtain ⟨B, rfl⟩ := Int.eq_ofNat_of_zero_le hb
    obtain ⟨v1, v2, v3⟩ := Snow.settle_twice h A B (by omega) (by omega)
    obtain ⟨r1, r2, r3, r4, r5, r6⟩ := Snow.right_iff.1 h
    have k1 := Snow.setN_range (k := A + B) r5 r6
    have k2 := Snow.setN_bd (A + B) d
    have k3 := Snow.setN_range (k := A) r5 r6
    have v4 : Snow.depth n m d = ((n + m) * 1000 / d, 0) := by simp [Snow.depth, h]
    have h5 : Snow.right n m (Snow.setN (A + B) d) = true := Snow.right_iff.2 (by omega)
    have v5 : Snow.depth n m (Snow.setN (A + B) d) = ((n + m) * 1000 / Snow.setN (A + B) d, 0) := by simp [Snow.depth, h5]
    have k4 : (n + m) * 1000 / Snow.setN (A + B) d ≤ (n + m) * 1000 / d := Snow.depth_anti (by omega) (by omega) (by omega)
    generalize Snow.setN (A + B) d = x at *
    generalize Snow.setN A d = y at *
    generalize (n + m) * 1000 / x = z1 at *
    generalize (n + m) * 1000 / d = z2 at *
    clear h h5 k1 k2 k3
    go_enter Try.func8, Try.ntmps8
    go_wp2_with fail
    refine (alive_any _).mono ?_
    rintro e w1 ⟨rfl, hb1⟩
    obtain ⟨hc1, hf1⟩ := bcell hb1; have z1 := hb1.size; (try simp at z1); have g1 : Below w.heap.size w w1 := thru (by go_grown) hb1 (by first | omega | (simp; done) | (simp; omega)); (try have s1 : w.heap.size < w1.heap.size := by omega); (try have t1_a1 : w.heap.size < w1.heap.size + 1 := by omega); (try have t1_a2 : w.heap.size < w1.heap.size + 1 + 1 := by omega)
    go_wp2_with fail
    refine (Settle_any _ _ _ _ _).mono ?_
    rintro e w2 ⟨rfl, hb2⟩
    obtain ⟨hc2, hf2⟩ := bcell hb2; have z2 := hb2.size; (try simp at z2); have g2 : Below w.heap.size w w2 := thru (by go_grown) hb2 (by first | omega | (simp; done) | (simp; omega)); (try have s2 : w.heap.size < w2.heap.size := by omega); (try have t2_a1 : w.heap.size < w2.heap.size + 1 := by omega); (try have t1_2_a1 : w1.heap.size < w2.heap.size + 1 := by omega); (try have t2_a2 : w.heap.size < w2.heap.size + 1 + 1 := by omega); (try have t1_2_a2 : w1.heap.size < w2.heap.size + 1 + 1 := by omega); (try have s1_2 : w1.heap.size < w2.heap.size := by omega)
    go_wp2_with fail
    refine (Settle_any _ _ _ _ _).mono ?_
    rintro e w3 ⟨rfl, hb3⟩
    obtain ⟨hc3, hf3⟩ := bcell hb3; have z3 := hb3.size; (try simp at z3); have g3 : Below w.heap.size w w3 := thru (by go_grown) hb3 (by first | omega | (simp; done) | (simp; omega)); (try have s3 : w.heap.size < w3.heap.size := by omega); (try have t3_a1 : w.heap.size < w3.heap.size + 1 := by omega); (try have t1_3_a1 : w1.heap.size < w3.heap.size + 1 := by omega); (try have t2_3_a1 : w2.heap.size < w3.heap.size + 1 := by omega); (try have t3_a2 : w.heap.size < w3.heap.size + 1 + 1 := by omega); (try have t1_3_a2 : w1.heap.size < w3.heap.size + 1 + 1 := by omega); (try have t2_3_a2 : w2.heap.size < w3.heap.size + 1 + 1 := by omega); (try have s1_3 : w1.heap.size < w3.heap.size := by omega); (try have s2_3 : w2.heap.size < w3.heap.size := by omega)
    go_wp2_with fail
    refine (Settle_any _ _ _ _ _).mono ?_
    rintro e w4 ⟨rfl, hb4⟩
    obtain ⟨hc4, hf4⟩ := bcell hb4; have z4 := hb4.size; (try simp at z4); have g4 : Below w.heap.size w w4 := thru (by go_grown) hb4 (by first | omega | (simp; done) | (simp; omega)); (try have s4 : w.heap.size < w4.heap.size := by omega); (try have t4_a1 : w.heap.size < w4.heap.size + 1 := by omega); (try have t1_4_a1 : w1.heap.size < w4.heap.size + 1 := by omega); (try have t2_4_a1 : w2.heap.size < w4.heap.size + 1 := by omega); (try have t3_4_a1 : w3.heap.size < w4.heap.size + 1 := by omega); (try have t4_a2 : w.heap.size < w4.heap.size + 1 + 1 := by omega); (try have t1_4_a2 : w1.heap.size < w4.heap.size + 1 + 1 := by omega); (try have t2_4_a2 : w2.heap.size < w4.heap.size + 1 + 1 := by omega); (try have t3_4_a2 : w3.heap.size < w4.heap.size + 1 + 1 := by omega); (try have s1_4 : w1.heap.size < w4.heap.size := by omega); (try have s2_4 : w2.heap.size < w4.heap.size := by omega); (try have s3_4 : w3.heap.size < w4.heap.size := by omega)
    go_wp2_with fail
    refine (Depth_any _ _ _ _).mono ?_
    rintro e w5 ⟨rfl, hb5⟩
    obtain ⟨hc5, hf5⟩ := bcell hb5; have z5 := hb5.size; (try simp at z5); have g5 : Below w.heap.size w w5 := thru (by go_grown) hb5 (by first | omega | (simp; done) | (simp; omega)); (try have s5 : w.heap.size < w5.heap.size := by omega); (try have t5_a1 : w.heap.size < w5.heap.size + 1 := by omega); (try have t1_5_a1 : w1.heap.size < w5.heap.size + 1 := by omega); (try have t2_5_a1 : w2.heap.size < w5.heap.size + 1 := by omega); (try have t3_5_a1 : w3.heap.size < w5.heap.size + 1 := by omega); (try have t4_5_a1 : w4.heap.size < w5.heap.size + 1 := by omega); (try have t5_a2 : w.heap.size < w5.heap.size + 1 + 1 := by omega); (try have t1_5_a2 : w1.heap.size < w5.heap.size + 1 + 1 := by omega); (try have t2_5_a2 : w2.heap.size < w5.heap.size + 1 + 1 := by omega); (try have t3_5_a2 : w3.heap.size < w5.heap.size + 1 + 1 := by omega); (try have t4_5_a2 : w4.heap.size < w5.heap.size + 1 + 1 := by omega); (try have s1_5 : w1.heap.size < w5.heap.size := by omega); (try have s2_5 : w2.heap.size < w5.heap.size := by omega); (try have s3_5 : w3.heap.size < w5.heap.size := by omega); (try have s4_5 : w4.heap.size < w5.heap.size := by omega)
    go_wp2_with fail
    refine (Depth_any _ _ _ _).mono ?_
    rintro e w6 ⟨rfl, hb6⟩
    obtain ⟨hc6, hf6⟩ := bcell hb6; have z6 := hb6.size; (try simp at z6); have g6 : Below w.heap.size w w6 := thru (by go_grown) hb6 (by first | omega | (simp; done) | (simp; omega)); (try have s6 : w.heap.size < w6.heap.size := by omega); (try have t6_a1 : w.heap.size < w6.heap.size + 1 := by omega); (try have t1_6_a1 : w1.heap.size < w6.heap.size + 1 := by omega); (try have t2_6_a1 : w2.heap.size < w6.heap.size + 1 := by omega); (try have t3_6_a1 : w3.heap.size < w6.heap.size + 1 := by omega); (try have t4_6_a1 : w4.heap.size < w6.heap.size + 1 := by omega); (try have t5_6_a1 : w5.heap.size < w6.heap.size + 1 := by omega); (try have t6_a2 : w.heap.size < w6.heap.size + 1 + 1 := by omega); (try have t1_6_a2 : w1.heap.size < w6.heap.size + 1 + 1 := by omega); (try have t2_6_a2 : w2.heap.size < w6.heap.size + 1 + 1 := by omega); (try have t3_6_a2 : w3.heap.size < w6.heap.size + 1 + 1 := by omega); (try have t4_6_a2 : w4.heap.size < w6.heap.size + 1 + 1 := by omega); (try have t5_6_a2 : w5.heap.size < w6.heap.size + 1 + 1 := by omega); (try have s1_6 : w1.heap.size < w6.heap.size := by omega); (try have s2_6 : w2.heap.size < w6.heap.size := by omega); (try have s3_6 : w3.heap.size < w6.heap.size := by omega); (try have s4_6 : w4.heap.size < w6.heap.size := by omega); (try have s5_6 : w5.heap.size < w6.heap.size := by omega)
    go_wp2
    go_ret
    exact ⟨ret_bool (by first | rfl | (simp; omega)), by go_grown⟩
end Go.Proofs.Ytbmhhjidikookaa
