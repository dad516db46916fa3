/-
  The walk of the law QueueSeats.
-/
import Derived.Test.YthabkfmbdkgghaaQueueLawB
namespace Go.Proofs.Ythabkfmbdkgghaa
open Go.RowKit

/-- What the law compares, at one carrier. -/
theorem seats_facts {gs ys : List Int} {s k u b L Ly : Int} (hr : Que.right gs s = true) (hk : 1 ≤ k) (hk' : k ≤ 16) (hq : (ys, u, b) = Que.seat gs s k)
    (hL : L = Que.qlen gs s) (hy : Ly = Que.qlen ys u) :
    Que.right ys u = true ∧ 0 ≤ b ∧ b ≤ k ∧ Ly + b = L ∧ 0 ≤ L ∧ L ≤ 13200 ∧ ys.length ≤ gs.length ∧ u ≤ s ∧ ((b = 0 ∧ L = 0 ∧ u = 0) ∨ (b ≠ 0 ∧ u = 0) ∨ (b ≠ 0 ∧ 0 < u ∧ b = k)) ∧
    (∀ i, i < ys.length → ys[i]?.getD 0 = gs[gs.length - ys.length + i]?.getD 0 ∨ (i = 0 ∧ gs.length - ys.length = 0 ∧ ys[0]?.getD 0 = gs[0]?.getD 0 - k)) := by
  obtain ⟨h1, h2, h3, h4⟩ := Que.right_iff.1 hr
  have S := Que.seat_facts h4 h2 hk hk'
  rw [← hq] at S
  dsimp only at S
  have hb := Que.sum_bd h4
  have h0 := Que.qlen_nonneg h4 h2
  have hL' : L ≤ 13200 := by rw [hL]; unfold Que.qlen; omega
  have := S.sum_
  have h5 := S.some_
  have h6 := S.full
  have h7 := S.t0
  have h8 := S.b0
  rw [← hL] at h0 h5
  refine ⟨S.right_ hr, S.b0, S.b1, by omega, h0, hL', S.len, S.t1, ?_, S.same⟩
  by_cases hb0 : b = 0
  · left; refine ⟨hb0, ?_, ?_⟩ <;> omega
  · right
    by_cases hu : 0 < u
    · right; exact ⟨hb0, hu, h6 hu⟩
    · left; exact ⟨hb0, by omega⟩

theorem lawSeats_big (gs : List Int) (s k : Int) (A : Option Addr) (c : Nat) (w : World) (hs : ¬ gs.length ≤ 300) : Calls Try.prog 6 #[qv A gs.length c s, .int .i64 k] w fun e w' => e = .returned (.bool true) ∧ Below w.heap.size w w' := by
  have HS := Lib.hid hs
  clear hs
  go_enter Try.func6, Try.ntmps6
  go_wp2_with fail
  refine (alive_any _).mono ?_
  rintro e w1 ⟨rfl, hb1⟩
  obtain ⟨hc1, hf1⟩ := bcell hb1; have z1 := hb1.size; (try simp at z1); have g1 : Below w.heap.size w w1 := thru (by go_grown) hb1 (by first | omega | (simp; done) | (simp; omega)); (try have s1 : w.heap.size < w1.heap.size := by omega); (try have t1_a1 : w.heap.size < w1.heap.size + 1 := by omega); (try have t1_a2 : w.heap.size < w1.heap.size + 1 + 1 := by omega)
  go_wp2_with fail
  refine (small_false _ _ _ _ _ HS.out).mono ?_
  rintro e w2 ⟨rfl, rfl⟩
  go_wp2
  go_ret
  exact ⟨rfl, by go_grown⟩
theorem lawSeats_wrong (gs : List Int) (s k : Int) (A : Option Addr) (c : Nat) (w : World) (hs : gs.length ≤ 300) (hr : Que.right gs s = false) (hR : Rd w A gs) : Calls Try.prog 6 #[qv A gs.length c s, .int .i64 k] w fun e w' => e = .returned (.bool true) ∧ Below w.heap.size w w' := by
  have HS := Lib.hid hs
  have HR := Lib.hid hR
  clear hs hR
  go_enter Try.func6, Try.ntmps6
  go_wp2_with fail
  refine (alive_any _).mono ?_
  rintro e w1 ⟨rfl, hb1⟩
  have HRD := Lib.hid ((HR.out.below (by go_grown)).below hb1)
  obtain ⟨hc1, hf1⟩ := bcell hb1; have z1 := hb1.size; (try simp at z1); have g1 : Below w.heap.size w w1 := thru (by go_grown) hb1 (by first | omega | (simp; done) | (simp; omega)); (try have s1 : w.heap.size < w1.heap.size := by omega); (try have t1_a1 : w.heap.size < w1.heap.size + 1 := by omega); (try have t1_a2 : w.heap.size < w1.heap.size + 1 + 1 := by omega)
  go_wp2_with fail
  refine (small_true _ _ _ _ _ HS.out).mono ?_
  rintro e w2 ⟨rfl, rfl⟩
  go_wp2_with fail
  refine (right_any gs s A c _ (HRD.out.below (by go_grown))).mono ?_
  rintro e w3 ⟨rfl, rfl⟩
  go_wp2
  go_ret
  exact ⟨rfl, by go_grown⟩

theorem lawSeats_range (gs : List Int) (s k : Int) (A : Option Addr) (c : Nat) (w : World) (hr : Que.right gs s = true) (hk : k < 1 ∨ 16 < k) (hR : Rd w A gs) : Calls Try.prog 6 #[qv A gs.length c s, .int .i64 k] w fun e w' => e = .returned (.bool true) ∧ Below w.heap.size w w' := by
  have HK := Lib.hid hk
  have HR := Lib.hid hR
  have Hr := Lib.hid hr
  clear hR
  go_enter Try.func6, Try.ntmps6
  go_wp2_with fail
  refine (alive_any _).mono ?_
  rintro e w1 ⟨rfl, hb1⟩
  have HRD := Lib.hid ((HR.out.below (by go_grown)).below hb1)
  obtain ⟨hc1, hf1⟩ := bcell hb1; have z1 := hb1.size; (try simp at z1); have g1 : Below w.heap.size w w1 := thru (by go_grown) hb1 (by first | omega | (simp; done) | (simp; omega)); (try have s1 : w.heap.size < w1.heap.size := by omega); (try have t1_a1 : w.heap.size < w1.heap.size + 1 := by omega); (try have t1_a2 : w.heap.size < w1.heap.size + 1 + 1 := by omega)
  go_wp2_with fail
  refine (small_true _ _ _ _ _ (by have := (Que.right_iff.1 Hr.out).1; omega)).mono ?_
  rintro e w2 ⟨rfl, rfl⟩
  go_wp2_with fail
  refine (right_any gs s A c _ (HRD.out.below (by go_grown))).mono ?_
  rintro e w3 ⟨rfl, rfl⟩

  go_wp2_with fail
  refine (seat_bad gs s k A c _ HK.out).mono ?_
  rintro e w5 ⟨rfl, hb5⟩
  obtain ⟨hc5, hf5⟩ := bcell hb5; have z5 := hb5.size; (try simp at z5); have g5 : Below w.heap.size w w5 := thru (by go_grown) hb5 (by first | omega | (simp; done) | (simp; omega)); (try have s5 : w.heap.size < w5.heap.size := by omega); (try have t5_a1 : w.heap.size < w5.heap.size + 1 := by omega); (try have t1_5_a1 : w1.heap.size < w5.heap.size + 1 := by omega); (try have t2_5_a1 : w2.heap.size < w5.heap.size + 1 := by omega); (try have t3_5_a1 : w3.heap.size < w5.heap.size + 1 := by omega); (try have t4_5_a1 : w4.heap.size < w5.heap.size + 1 := by omega); (try have t5_a2 : w.heap.size < w5.heap.size + 1 + 1 := by omega); (try have t1_5_a2 : w1.heap.size < w5.heap.size + 1 + 1 := by omega); (try have t2_5_a2 : w2.heap.size < w5.heap.size + 1 + 1 := by omega); (try have t3_5_a2 : w3.heap.size < w5.heap.size + 1 + 1 := by omega); (try have t4_5_a2 : w4.heap.size < w5.heap.size + 1 + 1 := by omega); (try have t5_a3 : w.heap.size < w5.heap.size + 1 + 1 + 1 := by omega); (try have t1_5_a3 : w1.heap.size < w5.heap.size + 1 + 1 + 1 := by omega); (try have t2_5_a3 : w2.heap.size < w5.heap.size + 1 + 1 + 1 := by omega); (try have t3_5_a3 : w3.heap.size < w5.heap.size + 1 + 1 + 1 := by omega); (try have t4_5_a3 : w4.heap.size < w5.heap.size + 1 + 1 + 1 := by omega); (try have s5_p1 : w.heap.size + 1 < w5.heap.size := by omega); (try have s1_5_p1 : w1.heap.size + 1 < w5.heap.size := by omega); (try have s2_5_p1 : w2.heap.size + 1 < w5.heap.size := by omega); (try have s3_5_p1 : w3.heap.size + 1 < w5.heap.size := by omega); (try have s4_5_p1 : w4.heap.size + 1 < w5.heap.size := by omega); (try have s1_5 : w1.heap.size < w5.heap.size := by omega); (try have s2_5 : w2.heap.size < w5.heap.size := by omega); (try have s3_5 : w3.heap.size < w5.heap.size := by omega); (try have s4_5 : w4.heap.size < w5.heap.size := by omega)
  rcases hk with hk | hk
  · have e1 : decide (k < 1) = true := decide_eq_true hk
    go_wp2
    go_ret
    exact ⟨rfl, by go_grown⟩
  · have e1 : decide (k < 1) = false := decide_eq_false (by omega)
    have e2 : decide (16 < k) = true := decide_eq_true hk
    go_wp2
    go_ret
    exact ⟨rfl, by go_grown⟩

def SeatsRel (gs ys : List Int) (s u : Int) (A A5 : Option Addr) (c c5 B D : Nat) (w : World) (i : Value) (wr : World) : Prop :=
  ∃ k : Nat, k ≤ ys.length ∧ i = .int .i64 k ∧ wr.cell? ⟨B, 0, none⟩ = some (.slice A gs.length c) ∧ wr.cell? ⟨B, 1, none⟩ = some (.int .i64 s) ∧ wr.cell? ⟨D, 0, none⟩ = some (.slice A5 ys.length c5) ∧ wr.cell? ⟨D, 1, none⟩ = some (.int .i64 u) ∧ Rd wr A gs ∧ Rd wr A5 ys ∧ B < wr.heap.size ∧ D < wr.heap.size ∧ Below w.heap.size w wr

end Go.Proofs.Ythabkfmbdkgghaa
