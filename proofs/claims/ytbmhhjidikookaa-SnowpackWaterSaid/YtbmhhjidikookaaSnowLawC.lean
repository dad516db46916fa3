/-
  The walk of the stage's theorem on snow packs: no operation creates or loses water but those that say so.
-/
import Derived.Test.YtbmhhjidikookaaSnowAlive
import Derived.Test.YtbmhhjidikookaaSnowFacts
namespace Go.Proofs.Ytbmhhjidikookaa
open Go.RowKit

theorem water_true {n m d : Int} (h : Snow.right n m d = true) : Snow.water n m d = (n + m, 0) := by simp [Snow.water, h]
theorem water_false {n m d : Int} (h : Snow.right n m d = false) : Snow.water n m d = (0, 1) := by simp [Snow.water, h]

theorem lawWater_e1 (n m d p q r mm k : Int) (w : World) (h : Snow.right n m d = false) : Calls Try.prog 11 #[pk n m d, pk p q r, .int .i64 mm, .int .i64 k] w fun e w' => e = .returned (.bool true) ∧ Below w.heap.size w w' := by
  have v1 := water_false h
  obtain ⟨⟨a, x⟩, hr⟩ : ∃ z, z = Snow.water p q r := ⟨_, rfl⟩
  have H := Lib.hid hr
  clear hr
  go_enter Try.func11, Try.ntmps11
  go_wp2_with fail
  refine (alive_any _).mono ?_
  rintro e w1 ⟨rfl, hb1⟩
  obtain ⟨hc1, hf1⟩ := bcell hb1; have z1 := hb1.size; (try simp at z1); have g1 : Below w.heap.size w w1 := thru (by go_grown) hb1 (by first | omega | (simp; done) | (simp; omega)); (try have s1 : w.heap.size < w1.heap.size := by omega); (try have t1_a1 : w.heap.size < w1.heap.size + 1 := by omega); (try have t1_a2 : w.heap.size < w1.heap.size + 1 + 1 := by omega); (try have t1_a3 : w.heap.size < w1.heap.size + 1 + 1 + 1 := by omega); (try have s1_p1 : w.heap.size + 1 < w1.heap.size := by omega)
  go_wp2_with fail
  refine (Water_any _ _ _ _).mono ?_
  rintro e w2 ⟨rfl, hb2⟩
  obtain ⟨hc2, hf2⟩ := bcell hb2; have z2 := hb2.size; (try simp at z2); have g2 : Below w.heap.size w w2 := thru (by go_grown) hb2 (by first | omega | (simp; done) | (simp; omega)); (try have s2 : w.heap.size < w2.heap.size := by omega); (try have t2_a1 : w.heap.size < w2.heap.size + 1 := by omega); (try have t1_2_a1 : w1.heap.size < w2.heap.size + 1 := by omega); (try have t2_a2 : w.heap.size < w2.heap.size + 1 + 1 := by omega); (try have t1_2_a2 : w1.heap.size < w2.heap.size + 1 + 1 := by omega); (try have t2_a3 : w.heap.size < w2.heap.size + 1 + 1 + 1 := by omega); (try have t1_2_a3 : w1.heap.size < w2.heap.size + 1 + 1 + 1 := by omega); (try have s2_p1 : w.heap.size + 1 < w2.heap.size := by omega); (try have s1_2_p1 : w1.heap.size + 1 < w2.heap.size := by omega); (try have s1_2 : w1.heap.size < w2.heap.size := by omega)
  go_wp2_with fail
  refine (Water_any _ _ _ _).mono ?_
  rw [← H.out]
  rintro e w3 ⟨rfl, hb3⟩
  obtain ⟨hc3, hf3⟩ := bcell hb3; have z3 := hb3.size; (try simp at z3); have g3 : Below w.heap.size w w3 := thru (by go_grown) hb3 (by first | omega | (simp; done) | (simp; omega)); (try have s3 : w.heap.size < w3.heap.size := by omega); (try have t3_a1 : w.heap.size < w3.heap.size + 1 := by omega); (try have t1_3_a1 : w1.heap.size < w3.heap.size + 1 := by omega); (try have t2_3_a1 : w2.heap.size < w3.heap.size + 1 := by omega); (try have t3_a2 : w.heap.size < w3.heap.size + 1 + 1 := by omega); (try have t1_3_a2 : w1.heap.size < w3.heap.size + 1 + 1 := by omega); (try have t2_3_a2 : w2.heap.size < w3.heap.size + 1 + 1 := by omega); (try have t3_a3 : w.heap.size < w3.heap.size + 1 + 1 + 1 := by omega); (try have t1_3_a3 : w1.heap.size < w3.heap.size + 1 + 1 + 1 := by omega); (try have t2_3_a3 : w2.heap.size < w3.heap.size + 1 + 1 + 1 := by omega); (try have s3_p1 : w.heap.size + 1 < w3.heap.size := by omega); (try have s1_3_p1 : w1.heap.size + 1 < w3.heap.size := by omega); (try have s2_3_p1 : w2.heap.size + 1 < w3.heap.size := by omega); (try have s1_3 : w1.heap.size < w3.heap.size := by omega); (try have s2_3 : w2.heap.size < w3.heap.size := by omega)
  go_wp2_with (go_at_call 21; refine (right_any _ _ _ _).mono ?_; rintro e w4 ⟨rfl, rfl⟩)
  go_ret
  exact ⟨rfl, by go_grown⟩

theorem lawWater_e2 (n m d p q r mm k : Int) (w : World) (h : Snow.right n m d = true) (h2 : Snow.right p q r = false) : Calls Try.prog 11 #[pk n m d, pk p q r, .int .i64 mm, .int .i64 k] w fun e w' => e = .returned (.bool true) ∧ Below w.heap.size w w' := by
  have v1 := water_true h
  have v2 := water_false h2
  go_enter Try.func11, Try.ntmps11
  go_wp2_with fail
  refine (alive_any _).mono ?_
  rintro e w1 ⟨rfl, hb1⟩
  obtain ⟨hc1, hf1⟩ := bcell hb1; have z1 := hb1.size; (try simp at z1); have g1 : Below w.heap.size w w1 := thru (by go_grown) hb1 (by first | omega | (simp; done) | (simp; omega)); (try have s1 : w.heap.size < w1.heap.size := by omega); (try have t1_a1 : w.heap.size < w1.heap.size + 1 := by omega); (try have t1_a2 : w.heap.size < w1.heap.size + 1 + 1 := by omega); (try have t1_a3 : w.heap.size < w1.heap.size + 1 + 1 + 1 := by omega); (try have s1_p1 : w.heap.size + 1 < w1.heap.size := by omega)
  go_wp2_with fail
  refine (Water_any _ _ _ _).mono ?_
  rintro e w2 ⟨rfl, hb2⟩
  obtain ⟨hc2, hf2⟩ := bcell hb2; have z2 := hb2.size; (try simp at z2); have g2 : Below w.heap.size w w2 := thru (by go_grown) hb2 (by first | omega | (simp; done) | (simp; omega)); (try have s2 : w.heap.size < w2.heap.size := by omega); (try have t2_a1 : w.heap.size < w2.heap.size + 1 := by omega); (try have t1_2_a1 : w1.heap.size < w2.heap.size + 1 := by omega); (try have t2_a2 : w.heap.size < w2.heap.size + 1 + 1 := by omega); (try have t1_2_a2 : w1.heap.size < w2.heap.size + 1 + 1 := by omega); (try have t2_a3 : w.heap.size < w2.heap.size + 1 + 1 + 1 := by omega); (try have t1_2_a3 : w1.heap.size < w2.heap.size + 1 + 1 + 1 := by omega); (try have s2_p1 : w.heap.size + 1 < w2.heap.size := by omega); (try have s1_2_p1 : w1.heap.size + 1 < w2.heap.size := by omega); (try have s1_2 : w1.heap.size < w2.heap.size := by omega)
  go_wp2_with fail
  refine (Water_any _ _ _ _).mono ?_
  rintro e w3 ⟨rfl, hb3⟩
  obtain ⟨hc3, hf3⟩ := bcell hb3; have z3 := hb3.size; (try simp at z3); have g3 : Below w.heap.size w w3 := thru (by go_grown) hb3 (by first | omega | (simp; done) | (simp; omega)); (try have s3 : w.heap.size < w3.heap.size := by omega); (try have t3_a1 : w.heap.size < w3.heap.size + 1 := by omega); (try have t1_3_a1 : w1.heap.size < w3.heap.size + 1 := by omega); (try have t2_3_a1 : w2.heap.size < w3.heap.size + 1 := by omega); (try have t3_a2 : w.heap.size < w3.heap.size + 1 + 1 := by omega); (try have t1_3_a2 : w1.heap.size < w3.heap.size + 1 + 1 := by omega); (try have t2_3_a2 : w2.heap.size < w3.heap.size + 1 + 1 := by omega); (try have t3_a3 : w.heap.size < w3.heap.size + 1 + 1 + 1 := by omega); (try have t1_3_a3 : w1.heap.size < w3.heap.size + 1 + 1 + 1 := by omega); (try have t2_3_a3 : w2.heap.size < w3.heap.size + 1 + 1 + 1 := by omega); (try have s3_p1 : w.heap.size + 1 < w3.heap.size := by omega); (try have s1_3_p1 : w1.heap.size + 1 < w3.heap.size := by omega); (try have s2_3_p1 : w2.heap.size + 1 < w3.heap.size := by omega); (try have s1_3 : w1.heap.size < w3.heap.size := by omega); (try have s2_3 : w2.heap.size < w3.heap.size := by omega)
  go_wp2_with (go_at_call 21; refine (right_any _ _ _ _).mono ?_; rintro e w4 ⟨rfl, rfl⟩)
  go_ret
  exact ⟨rfl, by go_grown⟩

set_option maxHeartbeats 40000000 in
theorem lawWater_ok (n m d p q r mm k : Int) (w : World) (h : Snow.right n m d = true) (h2 : Snow.right p q r = true) : Calls Try.prog 11 #[pk n m d, pk p q r, .int .i64 mm, .int .i64 k] w fun e w' => e = .returned (.bool true) ∧ Below w.heap.size w w' := by
  have v1 := water_true h
  have v2 := water_true h2
  obtain ⟨r1, r2, r3, r4, r5, r6⟩ := Snow.right_iff.1 h
  obtain ⟨r7, r8, r9, r10, r11, r12⟩ := Snow.right_iff.1 h2
  clear h h2
  obtain ⟨⟨a1, b1, c1, x1⟩, hr⟩ : ∃ z, z = Snow.fall n m d mm k := ⟨_, rfl⟩
  have F1 := Lib.hid (Snow.fall_facts hr)
  have H1 := Lib.hid hr
  clear hr
  obtain ⟨⟨a2, b2, c2, x2⟩, hr⟩ : ∃ z, z = Snow.make n m d mm := ⟨_, rfl⟩
  have F2 := Lib.hid (Snow.make_facts hr)
  have H2 := Lib.hid hr
  clear hr
  obtain ⟨⟨a3, b3, c3, x3⟩, hr⟩ : ∃ z, z = Snow.settle n m d k := ⟨_, rfl⟩
  have F3 := Lib.hid (Snow.settle_facts hr)
  have H3 := Lib.hid hr
  clear hr
  obtain ⟨⟨a4, b4, c4, y4, x4⟩, hr⟩ : ∃ z, z = Snow.melt n m d mm := ⟨_, rfl⟩
  have F4 := Lib.hid (Snow.melt_facts hr)
  have H4 := Lib.hid hr
  clear hr
  obtain ⟨⟨⟨a5, b5, c5⟩, ⟨a5', b5', c5'⟩, x5⟩, hr⟩ : ∃ z, z = Snow.move n m d p q r mm := ⟨_, rfl⟩
  have F5 := Lib.hid (Snow.move_facts hr)
  have H5 := Lib.hid hr
  clear hr
  go_enter Try.func11, Try.ntmps11
  go_wp2_with fail
  refine (alive_any _).mono ?_
  rintro e w1 ⟨rfl, hb1⟩
  obtain ⟨hc1, hf1⟩ := bcell hb1; have z1 := hb1.size; (try simp at z1); have g1 : Below w.heap.size w w1 := thru (by go_grown) hb1 (by first | omega | (simp; done) | (simp; omega)); (try have s1 : w.heap.size < w1.heap.size := by omega); (try have t1_a1 : w.heap.size < w1.heap.size + 1 := by omega); (try have t1_a2 : w.heap.size < w1.heap.size + 1 + 1 := by omega); (try have t1_a3 : w.heap.size < w1.heap.size + 1 + 1 + 1 := by omega); (try have s1_p1 : w.heap.size + 1 < w1.heap.size := by omega)
  go_wp2_with fail
  refine (Water_any _ _ _ _).mono ?_
  rintro e w2 ⟨rfl, hb2⟩
  obtain ⟨hc2, hf2⟩ := bcell hb2; have z2 := hb2.size; (try simp at z2); have g2 : Below w.heap.size w w2 := thru (by go_grown) hb2 (by first | omega | (simp; done) | (simp; omega)); (try have s2 : w.heap.size < w2.heap.size := by omega); (try have t2_a1 : w.heap.size < w2.heap.size + 1 := by omega); (try have t1_2_a1 : w1.heap.size < w2.heap.size + 1 := by omega); (try have t2_a2 : w.heap.size < w2.heap.size + 1 + 1 := by omega); (try have t1_2_a2 : w1.heap.size < w2.heap.size + 1 + 1 := by omega); (try have t2_a3 : w.heap.size < w2.heap.size + 1 + 1 + 1 := by omega); (try have t1_2_a3 : w1.heap.size < w2.heap.size + 1 + 1 + 1 := by omega); (try have s2_p1 : w.heap.size + 1 < w2.heap.size := by omega); (try have s1_2_p1 : w1.heap.size + 1 < w2.heap.size := by omega); (try have s1_2 : w1.heap.size < w2.heap.size := by omega)
  go_wp2_with fail
  refine (Water_any _ _ _ _).mono ?_
  rw [v2]
  rintro e w3 ⟨rfl, hb3⟩
  obtain ⟨hc3, hf3⟩ := bcell hb3; have z3 := hb3.size; (try simp at z3); have g3 : Below w.heap.size w w3 := thru (by go_grown) hb3 (by first | omega | (simp; done) | (simp; omega)); (try have s3 : w.heap.size < w3.heap.size := by omega); (try have t3_a1 : w.heap.size < w3.heap.size + 1 := by omega); (try have t1_3_a1 : w1.heap.size < w3.heap.size + 1 := by omega); (try have t2_3_a1 : w2.heap.size < w3.heap.size + 1 := by omega); (try have t3_a2 : w.heap.size < w3.heap.size + 1 + 1 := by omega); (try have t1_3_a2 : w1.heap.size < w3.heap.size + 1 + 1 := by omega); (try have t2_3_a2 : w2.heap.size < w3.heap.size + 1 + 1 := by omega); (try have t3_a3 : w.heap.size < w3.heap.size + 1 + 1 + 1 := by omega); (try have t1_3_a3 : w1.heap.size < w3.heap.size + 1 + 1 + 1 := by omega); (try have t2_3_a3 : w2.heap.size < w3.heap.size + 1 + 1 + 1 := by omega); (try have s3_p1 : w.heap.size + 1 < w3.heap.size := by omega); (try have s1_3_p1 : w1.heap.size + 1 < w3.heap.size := by omega); (try have s2_3_p1 : w2.heap.size + 1 < w3.heap.size := by omega); (try have s1_3 : w1.heap.size < w3.heap.size := by omega); (try have s2_3 : w2.heap.size < w3.heap.size := by omega)
  have p0 : w3.cell? ⟨w.heap.size, 0, none⟩ = some (.int .i64 n) := by go_simp
  have p1 : w3.cell? ⟨w.heap.size, 1, none⟩ = some (.int .i64 m) := by go_simp
  have p2 : w3.cell? ⟨w.heap.size, 2, none⟩ = some (.int .i64 d) := by go_simp
  have q0 : w3.cell? ⟨w.heap.size + 1, 0, none⟩ = some (.int .i64 p) := by go_simp
  have q1 : w3.cell? ⟨w.heap.size + 1, 1, none⟩ = some (.int .i64 q) := by go_simp
  have q2 : w3.cell? ⟨w.heap.size + 1, 2, none⟩ = some (.int .i64 r) := by go_simp
  clear hc1 hf1 hc2 hf2 hc3 hf3 hb1 hb2 hb3 g1 g2 v1 v2
  go_wp2_with (first
    | (go_at_call 13; refine (Fall_any _ _ _ _ _ _).mono ?_; rw [← H1.out]; rintro e w4 ⟨rfl, hb4⟩; (obtain ⟨hc4, hf4⟩ := bcell hb4; have z4 := hb4.size; (try simp at z4); have g4 : Below w.heap.size w w4 := thru (by go_grown) hb4 (by first | omega | (simp; done) | (simp; omega)); (try have s4 : w.heap.size < w4.heap.size := by omega); (try have t4_a1 : w.heap.size < w4.heap.size + 1 := by omega); (try have t4_a2 : w.heap.size < w4.heap.size + 1 + 1 := by omega); (try have t4_a3 : w.heap.size < w4.heap.size + 1 + 1 + 1 := by omega); (try have s4_p1 : w.heap.size + 1 < w4.heap.size := by omega)); rcases F1.out with ⟨rfl, e1, e2, e3, e4, -, -⟩ | e1; (have e5 : (a1 + b1 == n + m + mm) = true := by rw [e4]; simp); (try clear e4))
    | (go_at_call 27; refine (Make_any _ _ _ _ _).mono ?_; rw [← H2.out]; rintro e w5 ⟨rfl, hb5⟩; (obtain ⟨hc5, hf5⟩ := bcell hb5; have z5 := hb5.size; (try simp at z5); have g5 : Below w.heap.size w w5 := thru (by go_grown) hb5 (by first | omega | (simp; done) | (simp; omega)); (try have s5 : w.heap.size < w5.heap.size := by omega); (try have t5_a1 : w.heap.size < w5.heap.size + 1 := by omega); (try have t5_a2 : w.heap.size < w5.heap.size + 1 + 1 := by omega); (try have t5_a3 : w.heap.size < w5.heap.size + 1 + 1 + 1 := by omega); (try have s5_p1 : w.heap.size + 1 < w5.heap.size := by omega)); rcases F2.out with ⟨rfl, i1, i2, i3, i4⟩ | i1; (have i5 : (a2 + b2 == n + m + mm) = true := by rw [i4]; simp); (try clear i4))
    | (go_at_call 15; refine (Settle_any _ _ _ _ _).mono ?_; rw [← H3.out]; rintro e w6 ⟨rfl, hb6⟩; (obtain ⟨hc6, hf6⟩ := bcell hb6; have z6 := hb6.size; (try simp at z6); have g6 : Below w.heap.size w w6 := thru (by go_grown) hb6 (by first | omega | (simp; done) | (simp; omega)); (try have s6 : w.heap.size < w6.heap.size := by omega); (try have t6_a1 : w.heap.size < w6.heap.size + 1 := by omega); (try have t6_a2 : w.heap.size < w6.heap.size + 1 + 1 := by omega); (try have t6_a3 : w.heap.size < w6.heap.size + 1 + 1 + 1 := by omega); (try have s6_p1 : w.heap.size + 1 < w6.heap.size := by omega)); rcases F3.out with ⟨rfl, j1, j2, -, -⟩ | j1; (have j5 : (a3 + b3 == n + m) = true := by rw [j2]; simp); (try clear j2))
    | (go_at_call 17; refine (Melt_any _ _ _ _ _).mono ?_; rw [← H4.out]; rintro e w7 ⟨rfl, hb7⟩; (obtain ⟨hc7, hf7⟩ := bcell hb7; have z7 := hb7.size; (try simp at z7); have g7 : Below w.heap.size w w7 := thru (by go_grown) hb7 (by first | omega | (simp; done) | (simp; omega)); (try have s7 : w.heap.size < w7.heap.size := by omega); (try have t7_a1 : w.heap.size < w7.heap.size + 1 := by omega); (try have t7_a2 : w.heap.size < w7.heap.size + 1 + 1 := by omega); (try have t7_a3 : w.heap.size < w7.heap.size + 1 + 1 + 1 := by omega); (try have s7_p1 : w.heap.size + 1 < w7.heap.size := by omega)); rcases F4.out with ⟨rfl, k1, k2, k3, k4, k6⟩ | k1; (have k5 : (a4 + b4 == n + m - y4) = true := by rw [k6]; simp); (try clear k6))
    | (go_at_call 19; refine (Move_any _ _ _ _ _ _ _ _).mono ?_; rw [← H5.out]; rintro e w8 ⟨rfl, hb8⟩; (obtain ⟨hc8, hf8⟩ := bcell hb8; have z8 := hb8.size; (try simp at z8); have g8 : Below w.heap.size w w8 := thru (by go_grown) hb8 (by first | omega | (simp; done) | (simp; omega)); (try have s8 : w.heap.size < w8.heap.size := by omega); (try have t8_a1 : w.heap.size < w8.heap.size + 1 := by omega); (try have t8_a2 : w.heap.size < w8.heap.size + 1 + 1 := by omega); (try have t8_a3 : w.heap.size < w8.heap.size + 1 + 1 + 1 := by omega); (try have s8_p1 : w.heap.size + 1 < w8.heap.size := by omega)); rcases F5.out with ⟨rfl, l1, l2, l3, l4, l5, l6, -, -⟩ | l1; (have l7 : (a5 + b5 == n + m - mm) = true := by rw [l4]; simp); (have l8 : (a5' + b5' == p + q + mm) = true := by rw [l6]; simp); (try clear l4 l6))
    | (go_at_call 29; refine (holds_any _ _ _ _ _).mono ?_; rintro e w9 ⟨rfl, hb9⟩; (obtain ⟨hc9, hf9⟩ := bcell hb9; have z9 := hb9.size; (try simp at z9); have g9 : Below w.heap.size w w9 := thru (by go_grown) hb9 (by first | omega | (simp; done) | (simp; omega)); (try have s9 : w.heap.size < w9.heap.size := by omega); (try have t9_a1 : w.heap.size < w9.heap.size + 1 := by omega); (try have t9_a2 : w.heap.size < w9.heap.size + 1 + 1 := by omega); (try have t9_a3 : w.heap.size < w9.heap.size + 1 + 1 + 1 := by omega); (try have s9_p1 : w.heap.size + 1 < w9.heap.size := by omega))))
  all_goals
    go_ret
    exact ⟨ret_bool (by first | rfl | (simp; done)), by go_grown⟩

theorem lawWater (n m d p q r mm k : Int) (w : World) : Calls Try.prog 11 #[pk n m d, pk p q r, .int .i64 mm, .int .i64 k] w fun e w' => e = .returned (.bool true) ∧ Below w.heap.size w w' := by
  cases h : Snow.right n m d
  · exact lawWater_e1 n m d p q r mm k w h
  cases h2 : Snow.right p q r
  · exact lawWater_e2 n m d p q r mm k w h h2
  · exact lawWater_ok n m d p q r mm k w h h2
end Go.Proofs.Ytbmhhjidikookaa
