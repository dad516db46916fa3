/-
  The walk of the law QueueCounts.
-/
import Derived.Test.YthabkfmbdkgghaaQueueLawB
namespace Go.Proofs.Ythabkfmbdkgghaa
open Go.RowKit

/-- The facts of the law: the numbers of carriers before and after one carrier, and the persons. -/
theorem counts_facts {gs ys : List Int} {s k u b n m L : Int} (hr : Que.right gs s = true) (hk : 1 ≤ k) (hk' : k ≤ 16) (hq : (ys, u, b) = Que.seat gs s k)
    (hn : n = Que.wait gs s k) (hm : m = Que.wait ys u k) (hL : L = Que.qlen gs s) :
    Que.right ys u = true ∧ 0 ≤ n ∧ n ≤ L ∧ L ≤ n * k ∧ L ≤ 13200 ∧ ((n = 0 ∧ L = 0) ∨ (n ≠ 0 ∧ L ≠ 0 ∧ n = m + 1)) := by
  obtain ⟨h1, h2, h3, h4⟩ := Que.right_iff.1 hr
  have S := Que.seat_facts h4 h2 hk hk'
  rw [← hq] at S
  have hb := Que.sum_bd h4
  have hL' : L ≤ 13200 := by rw [hL]; unfold Que.qlen; omega
  obtain ⟨f1, f2, f3⟩ := Que.wait_facts hk hk' _ gs s h4 h2 (Nat.le_refl _)
  rw [← hn, ← hL] at f2 f3
  rw [← hn] at f1
  refine ⟨S.right_ hr, f1, f2, f3, hL', ?_⟩
  by_cases h0 : 0 < Que.qlen gs s
  · right
    have := Que.wait_succ hk hk' h4 h2 h0
    rw [← hq] at this
    have f4 := (Que.wait_facts hk hk' _ ys u S.ok S.t0 (Nat.le_refl _)).1
    rw [← hn] at this
    dsimp only at this
    rw [← hm] at this f4
    rw [← hL] at h0
    omega
  · left
    have := Que.wait_zero (k := k) h0
    have h00 := Que.qlen_nonneg h4 h2
    rw [← hn] at this
    rw [← hL] at h0 h00
    omega

theorem lawCounts_big (gs : List Int) (s k : Int) (A : Option Addr) (c : Nat) (w : World) (hs : ¬ gs.length ≤ 300) : Calls Try.prog 7 #[qv A gs.length c s, .int .i64 k] w fun e w' => e = .returned (.bool true) ∧ Below w.heap.size w w' := by
  have HS := Lib.hid hs
  clear hs
  go_enter Try.func7, Try.ntmps7
  go_wp2_with fail
  refine (alive_any _).mono ?_
  rintro e w1 ⟨rfl, hb1⟩
  obtain ⟨hc1, hf1⟩ := bcell hb1; have z1 := hb1.size; (try simp at z1); have g1 : Below w.heap.size w w1 := thru (by go_grown) hb1 (by first | omega | (simp; done) | (simp; omega)); (try have s1 : w.heap.size < w1.heap.size := by omega); (try have t1_a1 : w.heap.size < w1.heap.size + 1 := by omega); (try have t1_a2 : w.heap.size < w1.heap.size + 1 + 1 := by omega)
  go_wp2_with fail
  refine (small_false _ _ _ _ _ HS.out).mono ?_
  rintro e w2 ⟨rfl, rfl⟩
  go_wp2
  go_ret
  exact ⟨rfl, by go_grown⟩
theorem lawCounts_wrong (gs : List Int) (s k : Int) (A : Option Addr) (c : Nat) (w : World) (hs : gs.length ≤ 300) (hr : Que.right gs s = false) (hR : Rd w A gs) : Calls Try.prog 7 #[qv A gs.length c s, .int .i64 k] w fun e w' => e = .returned (.bool true) ∧ Below w.heap.size w w' := by
  have HS := Lib.hid hs
  have HR := Lib.hid hR
  clear hs hR
  go_enter Try.func7, Try.ntmps7
  go_wp2_with fail
  refine (alive_any _).mono ?_
  rintro e w1 ⟨rfl, hb1⟩
  have HRD := Lib.hid ((HR.out.below (by go_grown)).below hb1)
  obtain ⟨hc1, hf1⟩ := bcell hb1; have z1 := hb1.size; (try simp at z1); have g1 : Below w.heap.size w w1 := thru (by go_grown) hb1 (by first | omega | (simp; done) | (simp; omega)); (try have s1 : w.heap.size < w1.heap.size := by omega); (try have t1_a1 : w.heap.size < w1.heap.size + 1 := by omega); (try have t1_a2 : w.heap.size < w1.heap.size + 1 + 1 := by omega)
  go_wp2_with fail
  refine (small_true _ _ _ _ _ HS.out).mono ?_
  rintro e w2 ⟨rfl, rfl⟩
  go_wp2_with fail
  refine (right_any gs s A c _ (HRD.out.below (by go_grown))).mono ?_
  rintro e w3 ⟨rfl, rfl⟩
  go_wp2
  go_ret
  exact ⟨rfl, by go_grown⟩

theorem lawCounts_range (gs : List Int) (s k : Int) (A : Option Addr) (c : Nat) (w : World) (hr : Que.right gs s = true) (hk : k < 1 ∨ 16 < k) (hR : Rd w A gs) : Calls Try.prog 7 #[qv A gs.length c s, .int .i64 k] w fun e w' => e = .returned (.bool true) ∧ Below w.heap.size w w' := by
  have HK := Lib.hid hk
  clear hk
  have HR := Lib.hid hR
  have Hr := Lib.hid hr
  clear hR
  go_enter Try.func7, Try.ntmps7
  go_wp2_with fail
  refine (alive_any _).mono ?_
  rintro e w1 ⟨rfl, hb1⟩
  have HRD := Lib.hid ((HR.out.below (by go_grown)).below hb1)
  obtain ⟨hc1, hf1⟩ := bcell hb1; have z1 := hb1.size; (try simp at z1); have g1 : Below w.heap.size w w1 := thru (by go_grown) hb1 (by first | omega | (simp; done) | (simp; omega)); (try have s1 : w.heap.size < w1.heap.size := by omega); (try have t1_a1 : w.heap.size < w1.heap.size + 1 := by omega); (try have t1_a2 : w.heap.size < w1.heap.size + 1 + 1 := by omega)
  go_wp2_with fail
  refine (small_true _ _ _ _ _ (by have := (Que.right_iff.1 Hr.out).1; omega)).mono ?_
  rintro e w2 ⟨rfl, rfl⟩
  go_wp2_with fail
  refine (right_any gs s A c _ (HRD.out.below (by go_grown))).mono ?_
  rintro e w3 ⟨rfl, rfl⟩

  go_wp2_with fail
  refine (wait_bad gs s k A c _ HK.out).mono ?_
  rintro e w4 ⟨rfl, hb4⟩
  obtain ⟨hc4, hf4⟩ := bcell hb4; have z4 := hb4.size; (try simp at z4); have g4 : Below w.heap.size w w4 := thru (by go_grown) hb4 (by first | omega | (simp; done) | (simp; omega)); (try have s4 : w.heap.size < w4.heap.size := by omega); (try have t4_a1 : w.heap.size < w4.heap.size + 1 := by omega); (try have t1_4_a1 : w1.heap.size < w4.heap.size + 1 := by omega); (try have t2_4_a1 : w2.heap.size < w4.heap.size + 1 := by omega); (try have t3_4_a1 : w3.heap.size < w4.heap.size + 1 := by omega); (try have t4_a2 : w.heap.size < w4.heap.size + 1 + 1 := by omega); (try have t1_4_a2 : w1.heap.size < w4.heap.size + 1 + 1 := by omega); (try have t2_4_a2 : w2.heap.size < w4.heap.size + 1 + 1 := by omega); (try have t3_4_a2 : w3.heap.size < w4.heap.size + 1 + 1 := by omega); (try have t4_a3 : w.heap.size < w4.heap.size + 1 + 1 + 1 := by omega); (try have t1_4_a3 : w1.heap.size < w4.heap.size + 1 + 1 + 1 := by omega); (try have t2_4_a3 : w2.heap.size < w4.heap.size + 1 + 1 + 1 := by omega); (try have t3_4_a3 : w3.heap.size < w4.heap.size + 1 + 1 + 1 := by omega); (try have s4_p1 : w.heap.size + 1 < w4.heap.size := by omega); (try have s1_4_p1 : w1.heap.size + 1 < w4.heap.size := by omega); (try have s2_4_p1 : w2.heap.size + 1 < w4.heap.size := by omega); (try have s3_4_p1 : w3.heap.size + 1 < w4.heap.size := by omega); (try have s1_4 : w1.heap.size < w4.heap.size := by omega); (try have s2_4 : w2.heap.size < w4.heap.size := by omega); (try have s3_4 : w3.heap.size < w4.heap.size := by omega)
  go_wp2_with fail
  refine (seat_bad gs s k A c _ HK.out).mono ?_
  rintro e w5 ⟨rfl, hb5⟩
  obtain ⟨hc5, hf5⟩ := bcell hb5; have z5 := hb5.size; (try simp at z5); have g5 : Below w.heap.size w w5 := thru (by go_grown) hb5 (by first | omega | (simp; done) | (simp; omega)); (try have s5 : w.heap.size < w5.heap.size := by omega); (try have t5_a1 : w.heap.size < w5.heap.size + 1 := by omega); (try have t1_5_a1 : w1.heap.size < w5.heap.size + 1 := by omega); (try have t2_5_a1 : w2.heap.size < w5.heap.size + 1 := by omega); (try have t3_5_a1 : w3.heap.size < w5.heap.size + 1 := by omega); (try have t4_5_a1 : w4.heap.size < w5.heap.size + 1 := by omega); (try have t5_a2 : w.heap.size < w5.heap.size + 1 + 1 := by omega); (try have t1_5_a2 : w1.heap.size < w5.heap.size + 1 + 1 := by omega); (try have t2_5_a2 : w2.heap.size < w5.heap.size + 1 + 1 := by omega); (try have t3_5_a2 : w3.heap.size < w5.heap.size + 1 + 1 := by omega); (try have t4_5_a2 : w4.heap.size < w5.heap.size + 1 + 1 := by omega); (try have t5_a3 : w.heap.size < w5.heap.size + 1 + 1 + 1 := by omega); (try have t1_5_a3 : w1.heap.size < w5.heap.size + 1 + 1 + 1 := by omega); (try have t2_5_a3 : w2.heap.size < w5.heap.size + 1 + 1 + 1 := by omega); (try have t3_5_a3 : w3.heap.size < w5.heap.size + 1 + 1 + 1 := by omega); (try have t4_5_a3 : w4.heap.size < w5.heap.size + 1 + 1 + 1 := by omega); (try have s5_p1 : w.heap.size + 1 < w5.heap.size := by omega); (try have s1_5_p1 : w1.heap.size + 1 < w5.heap.size := by omega); (try have s2_5_p1 : w2.heap.size + 1 < w5.heap.size := by omega); (try have s3_5_p1 : w3.heap.size + 1 < w5.heap.size := by omega); (try have s4_5_p1 : w4.heap.size + 1 < w5.heap.size := by omega); (try have s1_5 : w1.heap.size < w5.heap.size := by omega); (try have s2_5 : w2.heap.size < w5.heap.size := by omega); (try have s3_5 : w3.heap.size < w5.heap.size := by omega); (try have s4_5 : w4.heap.size < w5.heap.size := by omega)
  go_wp2
  go_ret
  exact ⟨rfl, by go_grown⟩
theorem lawCounts_ok (gs : List Int) (s k : Int) (A : Option Addr) (c : Nat) (w : World) (hr : Que.right gs s = true) (hk : 1 ≤ k) (hk' : k ≤ 16) (hR : Rd w A gs) : Calls Try.prog 7 #[qv A gs.length c s, .int .i64 k] w fun e w' => e = .returned (.bool true) ∧ Below w.heap.size w w' := by
  obtain ⟨⟨ys, u, b⟩, hq⟩ : ∃ z, z = Que.seat gs s k := ⟨_, rfl⟩
  obtain ⟨n, hn⟩ : ∃ z, z = Que.wait gs s k := ⟨_, rfl⟩
  obtain ⟨m, hm⟩ : ∃ z, z = Que.wait ys u k := ⟨_, rfl⟩
  obtain ⟨L, hL⟩ : ∃ z, z = Que.qlen gs s := ⟨_, rfl⟩
  obtain ⟨hry, f1, f2, f3, f4, f5⟩ := counts_facts hr hk hk' hq hn hm hL
  have HY := Lib.hid hry
  have HQ := Lib.hid hq
  have HN := Lib.hid hn
  have HM := Lib.hid hm
  have HL := Lib.hid hL
  have hw : wrap64 (n * k) = n * k := IntWalk.wrap64_in _ (by
    have h1 : n * k ≤ 13200 * 16 := Int.mul_le_mul (by omega) hk' (by omega) (by omega)
    have h2 : 0 ≤ n * k := Int.mul_nonneg f1 (by omega)
    constructor <;> omega)
  have hw1 : IntKind.i64.wrap (m + 1) = m + 1 ∨ n = 0 := by
    rcases f5 with h | h
    · exact Or.inr h.1
    · exact Or.inl (IntWalk.i64_in _ (by constructor <;> omega))
  have HK := Lib.hid hk
  have HK' := Lib.hid hk'
  clear hry hq hn hm hL hk hk'
  have HR := Lib.hid hR
  have Hr := Lib.hid hr
  clear hR
  go_enter Try.func7, Try.ntmps7
  go_wp2_with fail
  refine (alive_any _).mono ?_
  rintro e w1 ⟨rfl, hb1⟩
  have HRD := Lib.hid ((HR.out.below (by go_grown)).below hb1)
  obtain ⟨hc1, hf1⟩ := bcell hb1; have z1 := hb1.size; (try simp at z1); have g1 : Below w.heap.size w w1 := thru (by go_grown) hb1 (by first | omega | (simp; done) | (simp; omega)); (try have s1 : w.heap.size < w1.heap.size := by omega); (try have t1_a1 : w.heap.size < w1.heap.size + 1 := by omega); (try have t1_a2 : w.heap.size < w1.heap.size + 1 + 1 := by omega)
  go_wp2_with fail
  refine (small_true _ _ _ _ _ (by have := (Que.right_iff.1 Hr.out).1; omega)).mono ?_
  rintro e w2 ⟨rfl, rfl⟩
  go_wp2_with fail
  refine (right_any gs s A c _ (HRD.out.below (by go_grown))).mono ?_
  rintro e w3 ⟨rfl, rfl⟩

  go_wp2_with fail
  refine (wait_any gs s k A c _ Hr.out HK.out HK'.out (HRD.out.below (by go_grown))).mono ?_
  rw [← HN.out]
  rintro e w4 ⟨rfl, hb4⟩
  have HRD4 := Lib.hid ((HRD.out.below (by go_grown)).below hb4)
  obtain ⟨hc4, hf4⟩ := bcell hb4; have z4 := hb4.size; (try simp at z4); have g4 : Below w.heap.size w w4 := thru (by go_grown) hb4 (by first | omega | (simp; done) | (simp; omega)); (try have s4 : w.heap.size < w4.heap.size := by omega); (try have t4_a1 : w.heap.size < w4.heap.size + 1 := by omega); (try have t1_4_a1 : w1.heap.size < w4.heap.size + 1 := by omega); (try have t2_4_a1 : w2.heap.size < w4.heap.size + 1 := by omega); (try have t3_4_a1 : w3.heap.size < w4.heap.size + 1 := by omega); (try have t4_a2 : w.heap.size < w4.heap.size + 1 + 1 := by omega); (try have t1_4_a2 : w1.heap.size < w4.heap.size + 1 + 1 := by omega); (try have t2_4_a2 : w2.heap.size < w4.heap.size + 1 + 1 := by omega); (try have t3_4_a2 : w3.heap.size < w4.heap.size + 1 + 1 := by omega); (try have t4_a3 : w.heap.size < w4.heap.size + 1 + 1 + 1 := by omega); (try have t1_4_a3 : w1.heap.size < w4.heap.size + 1 + 1 + 1 := by omega); (try have t2_4_a3 : w2.heap.size < w4.heap.size + 1 + 1 + 1 := by omega); (try have t3_4_a3 : w3.heap.size < w4.heap.size + 1 + 1 + 1 := by omega); (try have s4_p1 : w.heap.size + 1 < w4.heap.size := by omega); (try have s1_4_p1 : w1.heap.size + 1 < w4.heap.size := by omega); (try have s2_4_p1 : w2.heap.size + 1 < w4.heap.size := by omega); (try have s3_4_p1 : w3.heap.size + 1 < w4.heap.size := by omega); (try have s1_4 : w1.heap.size < w4.heap.size := by omega); (try have s2_4 : w2.heap.size < w4.heap.size := by omega); (try have s3_4 : w3.heap.size < w4.heap.size := by omega)
  go_wp2_with fail
  refine (seat_any gs s k A c _ Hr.out HK.out HK'.out (HRD4.out.below (by go_grown))).mono ?_
  intro e w5 h5
  obtain ⟨A5, c5, rfl, ho5, hb5⟩ := h5.unpack HQ.out
  have HRD5 := Lib.hid ((HRD4.out.below (by go_grown)).below hb5)
  have HO5 := Lib.hid ho5.rd
  clear ho5 h5
  obtain ⟨hc5, hf5⟩ := bcell hb5; have z5 := hb5.size; (try simp at z5); have g5 : Below w.heap.size w w5 := thru (by go_grown) hb5 (by first | omega | (simp; done) | (simp; omega)); (try have s5 : w.heap.size < w5.heap.size := by omega); (try have t5_a1 : w.heap.size < w5.heap.size + 1 := by omega); (try have t1_5_a1 : w1.heap.size < w5.heap.size + 1 := by omega); (try have t2_5_a1 : w2.heap.size < w5.heap.size + 1 := by omega); (try have t3_5_a1 : w3.heap.size < w5.heap.size + 1 := by omega); (try have t4_5_a1 : w4.heap.size < w5.heap.size + 1 := by omega); (try have t5_a2 : w.heap.size < w5.heap.size + 1 + 1 := by omega); (try have t1_5_a2 : w1.heap.size < w5.heap.size + 1 + 1 := by omega); (try have t2_5_a2 : w2.heap.size < w5.heap.size + 1 + 1 := by omega); (try have t3_5_a2 : w3.heap.size < w5.heap.size + 1 + 1 := by omega); (try have t4_5_a2 : w4.heap.size < w5.heap.size + 1 + 1 := by omega); (try have t5_a3 : w.heap.size < w5.heap.size + 1 + 1 + 1 := by omega); (try have t1_5_a3 : w1.heap.size < w5.heap.size + 1 + 1 + 1 := by omega); (try have t2_5_a3 : w2.heap.size < w5.heap.size + 1 + 1 + 1 := by omega); (try have t3_5_a3 : w3.heap.size < w5.heap.size + 1 + 1 + 1 := by omega); (try have t4_5_a3 : w4.heap.size < w5.heap.size + 1 + 1 + 1 := by omega); (try have s5_p1 : w.heap.size + 1 < w5.heap.size := by omega); (try have s1_5_p1 : w1.heap.size + 1 < w5.heap.size := by omega); (try have s2_5_p1 : w2.heap.size + 1 < w5.heap.size := by omega); (try have s3_5_p1 : w3.heap.size + 1 < w5.heap.size := by omega); (try have s4_5_p1 : w4.heap.size + 1 < w5.heap.size := by omega); (try have s1_5 : w1.heap.size < w5.heap.size := by omega); (try have s2_5 : w2.heap.size < w5.heap.size := by omega); (try have s3_5 : w3.heap.size < w5.heap.size := by omega); (try have s4_5 : w4.heap.size < w5.heap.size := by omega)
  go_wp2_with fail
  refine (wait_any ys u k A5 c5 _ HY.out HK.out HK'.out (HO5.out.below (by go_grown))).mono ?_
  rw [← HM.out]
  rintro e w6 ⟨rfl, hb6⟩
  have HRD6 := Lib.hid ((HRD5.out.below (by go_grown)).below hb6)
  obtain ⟨hc6, hf6⟩ := bcell hb6; have z6 := hb6.size; (try simp at z6); have g6 : Below w.heap.size w w6 := thru (by go_grown) hb6 (by first | omega | (simp; done) | (simp; omega)); (try have s6 : w.heap.size < w6.heap.size := by omega); (try have t6_a1 : w.heap.size < w6.heap.size + 1 := by omega); (try have t1_6_a1 : w1.heap.size < w6.heap.size + 1 := by omega); (try have t2_6_a1 : w2.heap.size < w6.heap.size + 1 := by omega); (try have t3_6_a1 : w3.heap.size < w6.heap.size + 1 := by omega); (try have t4_6_a1 : w4.heap.size < w6.heap.size + 1 := by omega); (try have t5_6_a1 : w5.heap.size < w6.heap.size + 1 := by omega); (try have t6_a2 : w.heap.size < w6.heap.size + 1 + 1 := by omega); (try have t1_6_a2 : w1.heap.size < w6.heap.size + 1 + 1 := by omega); (try have t2_6_a2 : w2.heap.size < w6.heap.size + 1 + 1 := by omega); (try have t3_6_a2 : w3.heap.size < w6.heap.size + 1 + 1 := by omega); (try have t4_6_a2 : w4.heap.size < w6.heap.size + 1 + 1 := by omega); (try have t5_6_a2 : w5.heap.size < w6.heap.size + 1 + 1 := by omega); (try have t6_a3 : w.heap.size < w6.heap.size + 1 + 1 + 1 := by omega); (try have t1_6_a3 : w1.heap.size < w6.heap.size + 1 + 1 + 1 := by omega); (try have t2_6_a3 : w2.heap.size < w6.heap.size + 1 + 1 + 1 := by omega); (try have t3_6_a3 : w3.heap.size < w6.heap.size + 1 + 1 + 1 := by omega); (try have t4_6_a3 : w4.heap.size < w6.heap.size + 1 + 1 + 1 := by omega); (try have t5_6_a3 : w5.heap.size < w6.heap.size + 1 + 1 + 1 := by omega); (try have s6_p1 : w.heap.size + 1 < w6.heap.size := by omega); (try have s1_6_p1 : w1.heap.size + 1 < w6.heap.size := by omega); (try have s2_6_p1 : w2.heap.size + 1 < w6.heap.size := by omega); (try have s3_6_p1 : w3.heap.size + 1 < w6.heap.size := by omega); (try have s4_6_p1 : w4.heap.size + 1 < w6.heap.size := by omega); (try have s5_6_p1 : w5.heap.size + 1 < w6.heap.size := by omega); (try have s1_6 : w1.heap.size < w6.heap.size := by omega); (try have s2_6 : w2.heap.size < w6.heap.size := by omega); (try have s3_6 : w3.heap.size < w6.heap.size := by omega); (try have s4_6 : w4.heap.size < w6.heap.size := by omega); (try have s5_6 : w5.heap.size < w6.heap.size := by omega)
  go_wp2_with fail
  refine (length_any gs s A c _ (HRD6.out.below (by go_grown)) Hr.out).mono ?_
  rw [← HL.out]
  rintro e w7 ⟨rfl, rfl⟩
  rcases f5 with ⟨rfl, rfl⟩ | ⟨h1, h2, h3⟩
  · go_wp2
    go_ret
    exact ⟨rfl, by go_grown⟩
  · have hw1 := hw1.resolve_right h1
    have e1 : decide (n = 0) = false := decide_eq_false h1
    have e2 : decide (L = 0) = false := decide_eq_false h2
    subst h3
    have e3 : (m + 1 == 0) = (L == 0) := by rw [beq_eq_false_iff_ne.2 h1, beq_eq_false_iff_ne.2 h2]
    have hz : decide (L ≤ wrap64 ((m + 1) * k)) = true := decide_eq_true (by rw [show wrap64 ((m + 1) * k) = (m + 1) * k from hw]; exact f3)
    go_wp2
    go_ret
    exact ⟨rfl, by go_grown⟩

theorem lawCounts (gs : List Int) (s k : Int) (A : Option Addr) (c : Nat) (w : World) (hR : Rd w A gs) : Calls Try.prog 7 #[qv A gs.length c s, .int .i64 k] w fun e w' => e = .returned (.bool true) ∧ Below w.heap.size w w' := by
  by_cases hs : gs.length ≤ 300
  · cases hr : Que.right gs s
    · exact lawCounts_wrong gs s k A c w hs hr hR
    · by_cases hk : k < 1 ∨ 16 < k
      · exact lawCounts_range gs s k A c w hr hk hR
      · exact lawCounts_ok gs s k A c w hr (by omega) (by omega) hR
  · exact lawCounts_big gs s k A c w hs
end Go.Proofs.Ythabkfmbdkgghaa
