/-
  The walks of the factor.
-/
import Derived.Test.YtlhbpnealboagaaPriceWalkC
namespace Go.Proofs.Ytlhbpnealboagaa
open Go.RowKit

theorem mulr_nat (m n : Nat) : Pri.mulr (m : Int) (n : Int) = (((m * n + 500) / 1000 : Nat) : Int) := by
  unfold Pri.mulr; simp
theorem factor_bad {r : Pri.Rule} (h : Pri.right r ≠ 0) (b a : Int) : Pri.factor r b a = (0, Pri.right r) := if_pos h
theorem factor_rng {r : Pri.Rule} (h : Pri.right r = 0) {b a : Int} (h2 : b < 0 ∨ 1000 < b ∨ a < 0 ∨ 400 < a) : Pri.factor r b a = (0, 2) := by
  unfold Pri.factor; rw [if_neg (by simpa using h), if_pos h2]
theorem factor_ok {r : Pri.Rule} (h : Pri.right r = 0) {b a : Int} (h2 : ¬ (b < 0 ∨ 1000 < b ∨ a < 0 ∨ 400 < a)) : Pri.factor r b a = (Pri.facv r b a, 0) := by
  unfold Pri.factor; rw [if_neg (by simpa using h), if_neg h2]

set_option maxHeartbeats 1000000 in
theorem factor_any (l m s : Int) (dem ahe : List (Int × Int)) (A : Option Addr) (c : Nat) (A' : Option Addr) (c' : Nat) (b a : Int) (w : World) (hR : RdP w A dem) (hR' : RdP w A' ahe) (hm : dem.length ≤ 100) (hm' : ahe.length ≤ 100) :
    Calls Try.prog 15 #[rv l m s A dem.length c A' ahe.length c', .int .i64 b, .int .i64 a] w fun e w' => e = .returned (.tuple #[.int .i64 (Pri.factor ⟨l, m, s, dem, ahe⟩ b a).1, .int .i64 (Pri.factor ⟨l, m, s, dem, ahe⟩ b a).2]) ∧ Below w.heap.size w w' := by
  have HR := Lib.hid hR
  have HR' := Lib.hid hR'
  clear hR hR'
  obtain ⟨R, hRR⟩ : ∃ R, R = Pri.right ⟨l, m, s, dem, ahe⟩ := ⟨_, rfl⟩
  have HRR := Lib.hid hRR
  clear hRR
  by_cases hz : R = 0
  · obtain rfl := hz
    have HK := Lib.hid (Pri.right_iff.1 HRR.out.symm)
    by_cases hq : b < 0 ∨ 1000 < b ∨ a < 0 ∨ 400 < a
    · rw [factor_rng HRR.out.symm hq]
      have HQ := Lib.hid hq
      clear hq
      by_cases q1 : b < 0
      · go_enter Try.func15, Try.ntmps15
        go_wp2_with fail
        refine (pright_any l m s dem ahe A c A' c' _ (HR.out.below (by go_grown)) (HR'.out.below (by go_grown)) hm hm').mono ?_
        rw [← HRR.out]
        rintro e w1 ⟨rfl, hb1⟩
        obtain ⟨hc1, hf1⟩ := bcell hb1; have z1 := hb1.size; (try simp at z1); have g1 : Below w.heap.size w w1 := thru (by go_grown) hb1 (by first | omega | (simp; done) | (simp; omega)); (try have s1 : w.heap.size < w1.heap.size := by omega); (try have t1_a1 : w.heap.size < w1.heap.size + 1 := by omega); (try have t1_a2 : w.heap.size < w1.heap.size + 1 + 1 := by omega)
        go_wp2
        go_ret2
        exact ⟨rfl, by go_grown⟩
      by_cases q2 : 1000 < b
      · go_enter Try.func15, Try.ntmps15
        go_wp2_with fail
        refine (pright_any l m s dem ahe A c A' c' _ (HR.out.below (by go_grown)) (HR'.out.below (by go_grown)) hm hm').mono ?_
        rw [← HRR.out]
        rintro e w1 ⟨rfl, hb1⟩
        obtain ⟨hc1, hf1⟩ := bcell hb1; have z1 := hb1.size; (try simp at z1); have g1 : Below w.heap.size w w1 := thru (by go_grown) hb1 (by first | omega | (simp; done) | (simp; omega)); (try have s1 : w.heap.size < w1.heap.size := by omega); (try have t1_a1 : w.heap.size < w1.heap.size + 1 := by omega); (try have t1_a2 : w.heap.size < w1.heap.size + 1 + 1 := by omega)
        go_wp2
        go_ret2
        exact ⟨rfl, by go_grown⟩
      by_cases q3 : a < 0
      · go_enter Try.func15, Try.ntmps15
        go_wp2_with fail
        refine (pright_any l m s dem ahe A c A' c' _ (HR.out.below (by go_grown)) (HR'.out.below (by go_grown)) hm hm').mono ?_
        rw [← HRR.out]
        rintro e w1 ⟨rfl, hb1⟩
        obtain ⟨hc1, hf1⟩ := bcell hb1; have z1 := hb1.size; (try simp at z1); have g1 : Below w.heap.size w w1 := thru (by go_grown) hb1 (by first | omega | (simp; done) | (simp; omega)); (try have s1 : w.heap.size < w1.heap.size := by omega); (try have t1_a1 : w.heap.size < w1.heap.size + 1 := by omega); (try have t1_a2 : w.heap.size < w1.heap.size + 1 + 1 := by omega)
        go_wp2
        go_ret2
        exact ⟨rfl, by go_grown⟩
      · have q4 : 400 < a := by have := HQ.out; omega
        go_enter Try.func15, Try.ntmps15
        go_wp2_with fail
        refine (pright_any l m s dem ahe A c A' c' _ (HR.out.below (by go_grown)) (HR'.out.below (by go_grown)) hm hm').mono ?_
        rw [← HRR.out]
        rintro e w1 ⟨rfl, hb1⟩
        obtain ⟨hc1, hf1⟩ := bcell hb1; have z1 := hb1.size; (try simp at z1); have g1 : Below w.heap.size w w1 := thru (by go_grown) hb1 (by first | omega | (simp; done) | (simp; omega)); (try have s1 : w.heap.size < w1.heap.size := by omega); (try have t1_a1 : w.heap.size < w1.heap.size + 1 := by omega); (try have t1_a2 : w.heap.size < w1.heap.size + 1 + 1 := by omega)
        go_wp2
        go_ret2
        exact ⟨rfl, by go_grown⟩
    · rw [factor_ok HRR.out.symm hq]
      have q1 : 0 ≤ b := by omega
      have q2 : b ≤ 1000 := by omega
      have q3 : 0 ≤ a := by omega
      have q4 : a ≤ 400 := by omega
      clear hq
      obtain ⟨x1, x2⟩ := Pri.atv_ok (x := b) HK.out.dp HK.out.dy
      obtain ⟨y1, y2⟩ := Pri.atv_ok (x := a) HK.out.ap HK.out.ay
      have HV := Lib.hid (show Pri.facv ⟨l, m, s, dem, ahe⟩ b a = Pri.mulr (Fix.atv dem b) (Fix.atv ahe a) from rfl)
      have hDP : Fix.pts dem = true := HK.out.dp
      have hAP : Fix.pts ahe = true := HK.out.ap
      have DP := Lib.hid hDP
      have AP := Lib.hid hAP
      clear hDP hAP
      dsimp only at x1 x2 y1 y2
      generalize hx : Fix.atv dem b = x at *
      generalize hy : Fix.atv ahe a = y at *
      have HX := Lib.hid hx
      have HY := Lib.hid hy
      clear hx hy
      obtain ⟨x, rfl⟩ := Int.eq_ofNat_of_zero_le x1
      obtain ⟨y, rfl⟩ := Int.eq_ofNat_of_zero_le y1
      go_enter Try.func15, Try.ntmps15
      go_wp2_with fail
      refine (pright_any l m s dem ahe A c A' c' _ (HR.out.below (by go_grown)) (HR'.out.below (by go_grown)) hm hm').mono ?_
      rw [← HRR.out]
      rintro e w1 ⟨rfl, hb1⟩
      have HRX := Lib.hid ((HR.out.below (by go_grown)).below hb1)
      have HRX' := Lib.hid ((HR'.out.below (by go_grown)).below hb1)
      obtain ⟨hc1, hf1⟩ := bcell hb1; have z1 := hb1.size; (try simp at z1); have g1 : Below w.heap.size w w1 := thru (by go_grown) hb1 (by first | omega | (simp; done) | (simp; omega)); (try have s1 : w.heap.size < w1.heap.size := by omega); (try have t1_a1 : w.heap.size < w1.heap.size + 1 := by omega); (try have t1_a2 : w.heap.size < w1.heap.size + 1 + 1 := by omega)
      go_wp2_with fail
      refine (fat_yes dem b A c _ HRX.out DP.out).mono ?_
      rw [HX.out]
      rintro e w2 ⟨rfl, hb2⟩
      have HRY' := Lib.hid (HRX'.out.below hb2)
      obtain ⟨hc2, hf2⟩ := bcell hb2; have z2 := hb2.size; (try simp at z2); have g2 : Below w.heap.size w w2 := thru (by go_grown) hb2 (by first | omega | (simp; done) | (simp; omega)); (try have s2 : w.heap.size < w2.heap.size := by omega); (try have t2_a1 : w.heap.size < w2.heap.size + 1 := by omega); (try have t1_2_a1 : w1.heap.size < w2.heap.size + 1 := by omega); (try have t2_a2 : w.heap.size < w2.heap.size + 1 + 1 := by omega); (try have t1_2_a2 : w1.heap.size < w2.heap.size + 1 + 1 := by omega); (try have s1_2 : w1.heap.size < w2.heap.size := by omega)
      go_wp2_with fail
      refine (fat_yes ahe a A' c' _ HRY'.out AP.out).mono ?_
      rw [HY.out]
      rintro e w3 ⟨rfl, hb3⟩
      obtain ⟨hc3, hf3⟩ := bcell hb3; have z3 := hb3.size; (try simp at z3); have g3 : Below w.heap.size w w3 := thru (by go_grown) hb3 (by first | omega | (simp; done) | (simp; omega)); (try have s3 : w.heap.size < w3.heap.size := by omega); (try have t3_a1 : w.heap.size < w3.heap.size + 1 := by omega); (try have t1_3_a1 : w1.heap.size < w3.heap.size + 1 := by omega); (try have t2_3_a1 : w2.heap.size < w3.heap.size + 1 := by omega); (try have t3_a2 : w.heap.size < w3.heap.size + 1 + 1 := by omega); (try have t1_3_a2 : w1.heap.size < w3.heap.size + 1 + 1 := by omega); (try have t2_3_a2 : w2.heap.size < w3.heap.size + 1 + 1 := by omega); (try have s1_3 : w1.heap.size < w3.heap.size := by omega); (try have s2_3 : w2.heap.size < w3.heap.size := by omega)
      go_wp2_with fail
      refine (mul_small x y (x * y) _ (by omega) (by omega) rfl).mono ?_
      rintro e w4 ⟨rfl, hb4⟩
      obtain ⟨hc4, hf4⟩ := bcell hb4; have z4 := hb4.size; (try simp at z4); have g4 : Below w.heap.size w w4 := thru (by go_grown) hb4 (by first | omega | (simp; done) | (simp; omega)); (try have s4 : w.heap.size < w4.heap.size := by omega); (try have t4_a1 : w.heap.size < w4.heap.size + 1 := by omega); (try have t1_4_a1 : w1.heap.size < w4.heap.size + 1 := by omega); (try have t2_4_a1 : w2.heap.size < w4.heap.size + 1 := by omega); (try have t3_4_a1 : w3.heap.size < w4.heap.size + 1 := by omega); (try have t4_a2 : w.heap.size < w4.heap.size + 1 + 1 := by omega); (try have t1_4_a2 : w1.heap.size < w4.heap.size + 1 + 1 := by omega); (try have t2_4_a2 : w2.heap.size < w4.heap.size + 1 + 1 := by omega); (try have t3_4_a2 : w3.heap.size < w4.heap.size + 1 + 1 := by omega); (try have s1_4 : w1.heap.size < w4.heap.size := by omega); (try have s2_4 : w2.heap.size < w4.heap.size := by omega); (try have s3_4 : w3.heap.size < w4.heap.size := by omega)
      go_wp2
      go_ret2
      exact ⟨by rw [HV.out, mulr_nat]; rfl, by go_grown⟩
  · rw [factor_bad (by rw [← HRR.out]; exact hz), ← HRR.out]
    have hz1 : (R == 0) = false := by simpa using hz
    have hz2 : (R != 0) = true := by simpa using hz
    go_enter Try.func15, Try.ntmps15
    go_wp2_with fail
    refine (pright_any l m s dem ahe A c A' c' _ (HR.out.below (by go_grown)) (HR'.out.below (by go_grown)) hm hm').mono ?_
    rw [← HRR.out]
    rintro e w1 ⟨rfl, hb1⟩
    obtain ⟨hc1, hf1⟩ := bcell hb1; have z1 := hb1.size; (try simp at z1); have g1 : Below w.heap.size w w1 := thru (by go_grown) hb1 (by first | omega | (simp; done) | (simp; omega)); (try have s1 : w.heap.size < w1.heap.size := by omega); (try have t1_a1 : w.heap.size < w1.heap.size + 1 := by omega); (try have t1_a2 : w.heap.size < w1.heap.size + 1 + 1 := by omega)
    go_wp2
    go_ret2
    exact ⟨rfl, by go_grown⟩
end Go.Proofs.Ytlhbpnealboagaa
