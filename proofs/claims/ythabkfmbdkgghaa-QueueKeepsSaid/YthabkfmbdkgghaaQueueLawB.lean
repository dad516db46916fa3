/-
  The walks of the laws on queues that hold the program against the reference: Seat, Wait and Length, Join and Single.
-/
import Derived.Test.YthabkfmbdkgghaaQueueLawA
namespace Go.Proofs.Ythabkfmbdkgghaa
open Go.RowKit

/-- Seat with its error. -/
def seatE (gs : List Int) (s k : Int) : List Int × Int × Int × Int := if k < 1 ∨ 16 < k then ([], 0, 0, 2) else ((Que.seat gs s k).1, (Que.seat gs s k).2.1, (Que.seat gs s k).2.2, 0)
def waitE (gs : List Int) (s k : Int) : Int × Int := if k < 1 ∨ 16 < k then (0, 2) else (Que.wait gs s k, 0)
def joinE (gs : List Int) (s n : Int) : List Int × Int × Int := if n < 1 ∨ 16 < n then ([], 0, 2) else if 200 ≤ gs.length then ([], 0, 9) else (gs ++ [n], s, 0)
def singleE (gs : List Int) (s n : Int) : List Int × Int × Int := if n < 1 ∨ 1000 < n then ([], 0, 2) else if 10000 < s + n then ([], 0, 9) else (gs, s + n, 0)
/-- A queue and an error, in new memory. -/
def QPost (r : List Int × Int × Int) (w : World) (e : Ending) (w' : World) : Prop :=
  ∃ (A : Option Addr) (c : Nat), e = .returned (.tuple #[qv A r.1.length c r.2.1, .int .i64 r.2.2]) ∧ Own w.heap.size w' A r.1 ∧ Below w.heap.size w w'
def QNPost (r : List Int × Int × Int × Int) (w : World) (e : Ending) (w' : World) : Prop :=
  ∃ (A : Option Addr) (c : Nat), e = .returned (.tuple #[qv A r.1.length c r.2.1, .int .i64 r.2.2.1, .int .i64 r.2.2.2]) ∧ Own w.heap.size w' A r.1 ∧ Below w.heap.size w w'

theorem seat_all (gs : List Int) (s k : Int) (A : Option Addr) (c : Nat) (w : World) (hr : Que.right gs s = true) (hR : Rd w A gs) :
    Calls Try.prog 14 #[qv A gs.length c s, .int .i64 k] w (QNPost (seatE gs s k) w) := by
  by_cases hk : k < 1 ∨ 16 < k
  · rw [show seatE gs s k = ([], 0, 0, 2) from if_pos hk]
    exact (seat_bad gs s k A c w hk).mono fun e w' ⟨h1, h2⟩ => ⟨none, 0, h1, Own.nil _ _ _, h2⟩
  · rw [show seatE gs s k = ((Que.seat gs s k).1, (Que.seat gs s k).2.1, (Que.seat gs s k).2.2, 0) from if_neg hk]
    exact (seat_any gs s k A c w hr (by omega) (by omega) hR).mono fun e w' ⟨A', c', h1, h2, h3⟩ => ⟨A', c', h1, h2, h3⟩
theorem wait_all (gs : List Int) (s k : Int) (A : Option Addr) (c : Nat) (w : World) (hr : Que.right gs s = true) (hR : Rd w A gs) :
    Calls Try.prog 17 #[qv A gs.length c s, .int .i64 k] w fun e w' => e = .returned (.tuple #[.int .i64 (waitE gs s k).1, .int .i64 (waitE gs s k).2]) ∧ Below w.heap.size w w' := by
  by_cases hk : k < 1 ∨ 16 < k
  · rw [show waitE gs s k = (0, 2) from if_pos hk]
    exact wait_bad gs s k A c w hk
  · rw [show waitE gs s k = (Que.wait gs s k, 0) from if_neg hk]
    exact wait_any gs s k A c w hr (by omega) (by omega) hR
theorem join_all (gs : List Int) (s n : Int) (A : Option Addr) (c : Nat) (w : World) (hR : Rd w A gs) :
    Calls Try.prog 21 #[qv A gs.length c s, .int .i64 n] w (QPost (joinE gs s n) w) := by
  by_cases hk : n < 1 ∨ 16 < n
  · rw [show joinE gs s n = ([], 0, 2) from if_pos hk]
    exact (join_bad gs s n A c w hk).mono fun e w' ⟨h1, h2⟩ => ⟨none, 0, h1, Own.nil _ _ _, h2⟩
  by_cases hl : 200 ≤ gs.length
  · rw [show joinE gs s n = ([], 0, 9) from (if_neg hk).trans (if_pos hl)]
    exact (join_full gs s n A c w (by omega) (by omega) hl).mono fun e w' ⟨h1, h2⟩ => ⟨none, 0, h1, Own.nil _ _ _, h2⟩
  · rw [show joinE gs s n = (gs ++ [n], s, 0) from (if_neg hk).trans (if_neg hl)]
    exact (join_ok gs s n A c w (by omega) (by omega) (by omega) hR).mono fun e w' ⟨A', c', h1, h2, h3⟩ => ⟨A', c', by rw [h1]; simp, h2, h3⟩
theorem single_all (gs : List Int) (s n : Int) (A : Option Addr) (c : Nat) (w : World) (hr : Que.right gs s = true) (hR : Rd w A gs) :
    Calls Try.prog 23 #[qv A gs.length c s, .int .i64 n] w (QPost (singleE gs s n) w) := by
  obtain ⟨h1, h2, h3, _⟩ := Que.right_iff.1 hr
  by_cases hk : n < 1 ∨ 1000 < n
  · rw [show singleE gs s n = ([], 0, 2) from if_pos hk]
    exact (single_bad gs s n A c w hk).mono fun e w' ⟨h1, h2⟩ => ⟨none, 0, h1, Own.nil _ _ _, h2⟩
  by_cases hl : 10000 < s + n
  · rw [show singleE gs s n = ([], 0, 9) from (if_neg hk).trans (if_pos hl)]
    exact (single_full gs s n A c w (by omega) (by omega) h2 h3 hl).mono fun e w' ⟨h1, h2⟩ => ⟨none, 0, h1, Own.nil _ _ _, h2⟩
  · rw [show singleE gs s n = (gs, s + n, 0) from (if_neg hk).trans (if_neg hl)]
    exact (single_ok gs s n A c w (by omega) (by omega) h2 h3 (by omega) (by omega) hR).mono fun e w' ⟨A', c', h1, h2, h3⟩ => ⟨A', c', h1, h2, h3⟩

theorem rseat_all (gs : List Int) (s k : Int) (A : Option Addr) (c : Nat) (w : World) (hr : Que.right gs s = true) (hR : Rd w A gs) :
    Calls Try.prog 15 #[qv A gs.length c s, .int .i64 k] w (QNPost (seatE gs s k) w) := by
  by_cases hk : k < 1 ∨ 16 < k
  · rw [show seatE gs s k = ([], 0, 0, 2) from if_pos hk]
    exact (rseat_bad gs s k A c w hk).mono fun e w' ⟨h1, h2⟩ => ⟨none, 0, h1, Own.nil _ _ _, h2⟩
  · rw [show seatE gs s k = ((Que.seat gs s k).1, (Que.seat gs s k).2.1, (Que.seat gs s k).2.2, 0) from if_neg hk]
    exact (rseat_any gs s k A c w hr (by omega) (by omega) hR).mono fun e w' ⟨A', c', h1, h2, h3⟩ => ⟨A', c', h1, h2, h3⟩
theorem rwait_all (gs : List Int) (s k : Int) (A : Option Addr) (c : Nat) (w : World) (hr : Que.right gs s = true) (hR : Rd w A gs) :
    Calls Try.prog 18 #[qv A gs.length c s, .int .i64 k] w fun e w' => e = .returned (.tuple #[.int .i64 (waitE gs s k).1, .int .i64 (waitE gs s k).2]) ∧ Below w.heap.size w w' := by
  by_cases hk : k < 1 ∨ 16 < k
  · rw [show waitE gs s k = (0, 2) from if_pos hk]
    exact rwait_bad gs s k A c w hk
  · rw [show waitE gs s k = (Que.wait gs s k, 0) from if_neg hk]
    exact rwait_any gs s k A c w hr (by omega) (by omega) hR
theorem rjoin_all (gs : List Int) (s n : Int) (A : Option Addr) (c : Nat) (w : World) (hR : Rd w A gs) :
    Calls Try.prog 22 #[qv A gs.length c s, .int .i64 n] w (QPost (joinE gs s n) w) := by
  by_cases hk : n < 1 ∨ 16 < n
  · rw [show joinE gs s n = ([], 0, 2) from if_pos hk]
    exact (rjoin_bad gs s n A c w hk).mono fun e w' ⟨h1, h2⟩ => ⟨none, 0, h1, Own.nil _ _ _, h2⟩
  by_cases hl : 200 ≤ gs.length
  · rw [show joinE gs s n = ([], 0, 9) from (if_neg hk).trans (if_pos hl)]
    exact (rjoin_full gs s n A c w (by omega) (by omega) hl).mono fun e w' ⟨h1, h2⟩ => ⟨none, 0, h1, Own.nil _ _ _, h2⟩
  · rw [show joinE gs s n = (gs ++ [n], s, 0) from (if_neg hk).trans (if_neg hl)]
    exact (rjoin_ok gs s n A c w (by omega) (by omega) (by omega) hR).mono fun e w' ⟨A', c', h1, h2, h3⟩ => ⟨A', c', by rw [h1]; simp, h2, h3⟩
theorem rsingle_all (gs : List Int) (s n : Int) (A : Option Addr) (c : Nat) (w : World) (hr : Que.right gs s = true) (hR : Rd w A gs) :
    Calls Try.prog 24 #[qv A gs.length c s, .int .i64 n] w (QPost (singleE gs s n) w) := by
  obtain ⟨h1, h2, h3, _⟩ := Que.right_iff.1 hr
  by_cases hk : n < 1 ∨ 1000 < n
  · rw [show singleE gs s n = ([], 0, 2) from if_pos hk]
    exact (rsingle_bad gs s n A c w hk).mono fun e w' ⟨h1, h2⟩ => ⟨none, 0, h1, Own.nil _ _ _, h2⟩
  by_cases hl : 10000 < s + n
  · rw [show singleE gs s n = ([], 0, 9) from (if_neg hk).trans (if_pos hl)]
    exact (rsingle_full gs s n A c w (by omega) (by omega) h2 h3 hl).mono fun e w' ⟨h1, h2⟩ => ⟨none, 0, h1, Own.nil _ _ _, h2⟩
  · rw [show singleE gs s n = (gs, s + n, 0) from (if_neg hk).trans (if_neg hl)]
    exact (rsingle_ok gs s n A c w (by omega) (by omega) h2 h3 (by omega) (by omega) hR).mono fun e w' ⟨A', c', h1, h2, h3⟩ => ⟨A', c', h1, h2, h3⟩

theorem seatE_len {gs ys : List Int} {s k u b e : Int} (hr : Que.right gs s = true) (h : (ys, u, b, e) = seatE gs s k) : ys.length ≤ 300 := by
  obtain ⟨h1, h2, h3, h4⟩ := Que.right_iff.1 hr
  unfold seatE at h
  split at h
  · simp only [Prod.mk.injEq] at h; rw [h.1]; simp
  · rename_i hk
    simp only [Prod.mk.injEq] at h
    have := (Que.seat_facts h4 h2 (k := k) (by omega) (by omega)).len
    rw [h.1]; omega
theorem joinE_len {gs ys : List Int} {s n u e : Int} (hr : Que.right gs s = true) (h : (ys, u, e) = joinE gs s n) : ys.length ≤ 300 := by
  obtain ⟨h1, _⟩ := Que.right_iff.1 hr
  unfold joinE at h
  split at h
  · simp only [Prod.mk.injEq] at h; rw [h.1]; simp
  split at h
  · simp only [Prod.mk.injEq] at h; rw [h.1]; simp
  · simp only [Prod.mk.injEq] at h; rw [h.1]; simp; omega
theorem singleE_len {gs ys : List Int} {s n u e : Int} (hr : Que.right gs s = true) (h : (ys, u, e) = singleE gs s n) : ys.length ≤ 300 := by
  obtain ⟨h1, _⟩ := Que.right_iff.1 hr
  unfold singleE at h
  split at h
  · simp only [Prod.mk.injEq] at h; rw [h.1]; simp
  split at h
  · simp only [Prod.mk.injEq] at h; rw [h.1]; simp
  · simp only [Prod.mk.injEq] at h; rw [h.1]; omega

theorem lawSeat_big (gs : List Int) (s k : Int) (A : Option Addr) (c : Nat) (w : World) (hs : ¬ gs.length ≤ 300) : Calls Try.prog 4 #[qv A gs.length c s, .int .i64 k] w fun e w' => e = .returned (.bool true) ∧ Below w.heap.size w w' := by
  have HS := Lib.hid hs
  clear hs
  go_enter Try.func4, Try.ntmps4
  go_wp2_with fail
  refine (alive_any _).mono ?_
  rintro e w1 ⟨rfl, hb1⟩
  obtain ⟨hc1, hf1⟩ := bcell hb1; have z1 := hb1.size; (try simp at z1); have g1 : Below w.heap.size w w1 := thru (by go_grown) hb1 (by first | omega | (simp; done) | (simp; omega)); (try have s1 : w.heap.size < w1.heap.size := by omega); (try have t1_a1 : w.heap.size < w1.heap.size + 1 := by omega); (try have t1_a2 : w.heap.size < w1.heap.size + 1 + 1 := by omega)
  go_wp2_with fail
  refine (small_false _ _ _ _ _ HS.out).mono ?_
  rintro e w2 ⟨rfl, rfl⟩
  go_wp2
  go_ret
  exact ⟨rfl, by go_grown⟩
theorem lawSeat_wrong (gs : List Int) (s k : Int) (A : Option Addr) (c : Nat) (w : World) (hs : gs.length ≤ 300) (hr : Que.right gs s = false) (hR : Rd w A gs) : Calls Try.prog 4 #[qv A gs.length c s, .int .i64 k] w fun e w' => e = .returned (.bool true) ∧ Below w.heap.size w w' := by
  have HS := Lib.hid hs
  have HR := Lib.hid hR
  clear hs hR
  go_enter Try.func4, Try.ntmps4
  go_wp2_with fail
  refine (alive_any _).mono ?_
  rintro e w1 ⟨rfl, hb1⟩
  have HRD := Lib.hid ((HR.out.below (by go_grown)).below hb1)
  obtain ⟨hc1, hf1⟩ := bcell hb1; have z1 := hb1.size; (try simp at z1); have g1 : Below w.heap.size w w1 := thru (by go_grown) hb1 (by first | omega | (simp; done) | (simp; omega)); (try have s1 : w.heap.size < w1.heap.size := by omega); (try have t1_a1 : w.heap.size < w1.heap.size + 1 := by omega); (try have t1_a2 : w.heap.size < w1.heap.size + 1 + 1 := by omega)
  go_wp2_with fail
  refine (small_true _ _ _ _ _ HS.out).mono ?_
  rintro e w2 ⟨rfl, rfl⟩
  go_wp2_with fail
  refine (rright_any gs s A c _ (HRD.out.below (by go_grown))).mono ?_
  rintro e w3 ⟨rfl, rfl⟩
  go_wp2
  go_ret
  exact ⟨rfl, by go_grown⟩

set_option maxHeartbeats 1000000 in
theorem lawSeat_ok (gs : List Int) (s k : Int) (A : Option Addr) (c : Nat) (w : World) (hr : Que.right gs s = true) (hR : Rd w A gs) : Calls Try.prog 4 #[qv A gs.length c s, .int .i64 k] w fun e w' => e = .returned (.bool true) ∧ Below w.heap.size w w' := by
  obtain ⟨⟨ys, u, b, e0⟩, hq⟩ : ∃ z, z = seatE gs s k := ⟨_, rfl⟩
  have HL := Lib.hid (seatE_len hr hq)
  have HQ := Lib.hid hq
  clear hq
  have HR := Lib.hid hR
  have Hr := Lib.hid hr
  clear hR
  go_enter Try.func4, Try.ntmps4
  go_wp2_with fail
  refine (alive_any _).mono ?_
  rintro e w1 ⟨rfl, hb1⟩
  have HRD := Lib.hid ((HR.out.below (by go_grown)).below hb1)
  obtain ⟨hc1, hf1⟩ := bcell hb1; have z1 := hb1.size; (try simp at z1); have g1 : Below w.heap.size w w1 := thru (by go_grown) hb1 (by first | omega | (simp; done) | (simp; omega)); (try have s1 : w.heap.size < w1.heap.size := by omega); (try have t1_a1 : w.heap.size < w1.heap.size + 1 := by omega); (try have t1_a2 : w.heap.size < w1.heap.size + 1 + 1 := by omega)
  go_wp2_with fail
  refine (small_true _ _ _ _ _ (by have := (Que.right_iff.1 Hr.out).1; omega)).mono ?_
  rintro e w2 ⟨rfl, rfl⟩
  go_wp2_with fail
  refine (rright_any gs s A c _ (HRD.out.below (by go_grown))).mono ?_
  rintro e w3 ⟨rfl, rfl⟩
  go_wp2_with fail
  refine (seat_all gs s k A c _ Hr.out (HRD.out.below (by go_grown))).mono ?_
  rw [← HQ.out]
  rintro e w4 ⟨A4, c4, rfl, ho4, hb4⟩
  have HRD' := Lib.hid ((HRD.out.below (by go_grown)).below hb4)
  have HO4 := Lib.hid ho4.rd
  clear ho4
  obtain ⟨hc4, hf4⟩ := bcell hb4; have z4 := hb4.size; (try simp at z4); have g4 : Below w.heap.size w w4 := thru (by go_grown) hb4 (by first | omega | (simp; done) | (simp; omega)); (try have s4 : w.heap.size < w4.heap.size := by omega); (try have t4_a1 : w.heap.size < w4.heap.size + 1 := by omega); (try have t1_4_a1 : w1.heap.size < w4.heap.size + 1 := by omega); (try have t2_4_a1 : w2.heap.size < w4.heap.size + 1 := by omega); (try have t3_4_a1 : w3.heap.size < w4.heap.size + 1 := by omega); (try have t4_a2 : w.heap.size < w4.heap.size + 1 + 1 := by omega); (try have t1_4_a2 : w1.heap.size < w4.heap.size + 1 + 1 := by omega); (try have t2_4_a2 : w2.heap.size < w4.heap.size + 1 + 1 := by omega); (try have t3_4_a2 : w3.heap.size < w4.heap.size + 1 + 1 := by omega); (try have t4_a3 : w.heap.size < w4.heap.size + 1 + 1 + 1 := by omega); (try have t1_4_a3 : w1.heap.size < w4.heap.size + 1 + 1 + 1 := by omega); (try have t2_4_a3 : w2.heap.size < w4.heap.size + 1 + 1 + 1 := by omega); (try have t3_4_a3 : w3.heap.size < w4.heap.size + 1 + 1 + 1 := by omega); (try have s4_p1 : w.heap.size + 1 < w4.heap.size := by omega); (try have s1_4_p1 : w1.heap.size + 1 < w4.heap.size := by omega); (try have s2_4_p1 : w2.heap.size + 1 < w4.heap.size := by omega); (try have s3_4_p1 : w3.heap.size + 1 < w4.heap.size := by omega); (try have s1_4 : w1.heap.size < w4.heap.size := by omega); (try have s2_4 : w2.heap.size < w4.heap.size := by omega); (try have s3_4 : w3.heap.size < w4.heap.size := by omega)
  go_wp2_with fail
  refine (rseat_all gs s k A c _ Hr.out (HRD'.out.below (by go_grown))).mono ?_
  rw [← HQ.out]
  rintro e w5 ⟨A5, c5, rfl, ho5, hb5⟩
  have HO4' := Lib.hid ((HO4.out.below (by go_grown)).below hb5)
  have HO5 := Lib.hid ho5.rd
  clear ho5
  obtain ⟨hc5, hf5⟩ := bcell hb5; have z5 := hb5.size; (try simp at z5); have g5 : Below w.heap.size w w5 := thru (by go_grown) hb5 (by first | omega | (simp; done) | (simp; omega)); (try have s5 : w.heap.size < w5.heap.size := by omega); (try have t5_a1 : w.heap.size < w5.heap.size + 1 := by omega); (try have t1_5_a1 : w1.heap.size < w5.heap.size + 1 := by omega); (try have t2_5_a1 : w2.heap.size < w5.heap.size + 1 := by omega); (try have t3_5_a1 : w3.heap.size < w5.heap.size + 1 := by omega); (try have t4_5_a1 : w4.heap.size < w5.heap.size + 1 := by omega); (try have t5_a2 : w.heap.size < w5.heap.size + 1 + 1 := by omega); (try have t1_5_a2 : w1.heap.size < w5.heap.size + 1 + 1 := by omega); (try have t2_5_a2 : w2.heap.size < w5.heap.size + 1 + 1 := by omega); (try have t3_5_a2 : w3.heap.size < w5.heap.size + 1 + 1 := by omega); (try have t4_5_a2 : w4.heap.size < w5.heap.size + 1 + 1 := by omega); (try have t5_a3 : w.heap.size < w5.heap.size + 1 + 1 + 1 := by omega); (try have t1_5_a3 : w1.heap.size < w5.heap.size + 1 + 1 + 1 := by omega); (try have t2_5_a3 : w2.heap.size < w5.heap.size + 1 + 1 + 1 := by omega); (try have t3_5_a3 : w3.heap.size < w5.heap.size + 1 + 1 + 1 := by omega); (try have t4_5_a3 : w4.heap.size < w5.heap.size + 1 + 1 + 1 := by omega); (try have s5_p1 : w.heap.size + 1 < w5.heap.size := by omega); (try have s1_5_p1 : w1.heap.size + 1 < w5.heap.size := by omega); (try have s2_5_p1 : w2.heap.size + 1 < w5.heap.size := by omega); (try have s3_5_p1 : w3.heap.size + 1 < w5.heap.size := by omega); (try have s4_5_p1 : w4.heap.size + 1 < w5.heap.size := by omega); (try have s1_5 : w1.heap.size < w5.heap.size := by omega); (try have s2_5 : w2.heap.size < w5.heap.size := by omega); (try have s3_5 : w3.heap.size < w5.heap.size := by omega); (try have s4_5 : w4.heap.size < w5.heap.size := by omega)
  go_wp2_with fail
  refine (same_eq ys u A4 A5 c4 c5 _ HL.out (HO4'.out.below (by go_grown)) (HO5.out.below (by go_grown))).mono ?_
  rintro e w6 ⟨rfl, hb6⟩
  obtain ⟨hc6, hf6⟩ := bcell hb6; have z6 := hb6.size; (try simp at z6); have g6 : Below w.heap.size w w6 := thru (by go_grown) hb6 (by first | omega | (simp; done) | (simp; omega)); (try have s6 : w.heap.size < w6.heap.size := by omega); (try have t6_a1 : w.heap.size < w6.heap.size + 1 := by omega); (try have t1_6_a1 : w1.heap.size < w6.heap.size + 1 := by omega); (try have t2_6_a1 : w2.heap.size < w6.heap.size + 1 := by omega); (try have t3_6_a1 : w3.heap.size < w6.heap.size + 1 := by omega); (try have t4_6_a1 : w4.heap.size < w6.heap.size + 1 := by omega); (try have t5_6_a1 : w5.heap.size < w6.heap.size + 1 := by omega); (try have t6_a2 : w.heap.size < w6.heap.size + 1 + 1 := by omega); (try have t1_6_a2 : w1.heap.size < w6.heap.size + 1 + 1 := by omega); (try have t2_6_a2 : w2.heap.size < w6.heap.size + 1 + 1 := by omega); (try have t3_6_a2 : w3.heap.size < w6.heap.size + 1 + 1 := by omega); (try have t4_6_a2 : w4.heap.size < w6.heap.size + 1 + 1 := by omega); (try have t5_6_a2 : w5.heap.size < w6.heap.size + 1 + 1 := by omega); (try have s1_6 : w1.heap.size < w6.heap.size := by omega); (try have s2_6 : w2.heap.size < w6.heap.size := by omega); (try have s3_6 : w3.heap.size < w6.heap.size := by omega); (try have s4_6 : w4.heap.size < w6.heap.size := by omega); (try have s5_6 : w5.heap.size < w6.heap.size := by omega)
  go_wp2
  go_ret
  exact ⟨rfl, by go_grown⟩

theorem lawSeat (gs : List Int) (s k : Int) (A : Option Addr) (c : Nat) (w : World) (hR : Rd w A gs) : Calls Try.prog 4 #[qv A gs.length c s, .int .i64 k] w fun e w' => e = .returned (.bool true) ∧ Below w.heap.size w w' := by
  by_cases hs : gs.length ≤ 300
  · cases hr : Que.right gs s
    · exact lawSeat_wrong gs s k A c w hs hr hR
    · exact lawSeat_ok gs s k A c w hr hR
  · exact lawSeat_big gs s k A c w hs

theorem lawWaits_big (gs : List Int) (s k : Int) (A : Option Addr) (c : Nat) (w : World) (hs : ¬ gs.length ≤ 300) : Calls Try.prog 5 #[qv A gs.length c s, .int .i64 k] w fun e w' => e = .returned (.bool true) ∧ Below w.heap.size w w' := by
  have HS := Lib.hid hs
  clear hs
  go_enter Try.func5, Try.ntmps5
  go_wp2_with fail
  refine (alive_any _).mono ?_
  rintro e w1 ⟨rfl, hb1⟩
  obtain ⟨hc1, hf1⟩ := bcell hb1; have z1 := hb1.size; (try simp at z1); have g1 : Below w.heap.size w w1 := thru (by go_grown) hb1 (by first | omega | (simp; done) | (simp; omega)); (try have s1 : w.heap.size < w1.heap.size := by omega); (try have t1_a1 : w.heap.size < w1.heap.size + 1 := by omega); (try have t1_a2 : w.heap.size < w1.heap.size + 1 + 1 := by omega)
  go_wp2_with fail
  refine (small_false _ _ _ _ _ HS.out).mono ?_
  rintro e w2 ⟨rfl, rfl⟩
  go_wp2
  go_ret
  exact ⟨rfl, by go_grown⟩
theorem lawWaits_wrong (gs : List Int) (s k : Int) (A : Option Addr) (c : Nat) (w : World) (hs : gs.length ≤ 300) (hr : Que.right gs s = false) (hR : Rd w A gs) : Calls Try.prog 5 #[qv A gs.length c s, .int .i64 k] w fun e w' => e = .returned (.bool true) ∧ Below w.heap.size w w' := by
  have HS := Lib.hid hs
  have HR := Lib.hid hR
  clear hs hR
  go_enter Try.func5, Try.ntmps5
  go_wp2_with fail
  refine (alive_any _).mono ?_
  rintro e w1 ⟨rfl, hb1⟩
  have HRD := Lib.hid ((HR.out.below (by go_grown)).below hb1)
  obtain ⟨hc1, hf1⟩ := bcell hb1; have z1 := hb1.size; (try simp at z1); have g1 : Below w.heap.size w w1 := thru (by go_grown) hb1 (by first | omega | (simp; done) | (simp; omega)); (try have s1 : w.heap.size < w1.heap.size := by omega); (try have t1_a1 : w.heap.size < w1.heap.size + 1 := by omega); (try have t1_a2 : w.heap.size < w1.heap.size + 1 + 1 := by omega)
  go_wp2_with fail
  refine (small_true _ _ _ _ _ HS.out).mono ?_
  rintro e w2 ⟨rfl, rfl⟩
  go_wp2_with fail
  refine (rright_any gs s A c _ (HRD.out.below (by go_grown))).mono ?_
  rintro e w3 ⟨rfl, rfl⟩
  go_wp2
  go_ret
  exact ⟨rfl, by go_grown⟩

set_option maxHeartbeats 1000000 in
theorem lawWaits_ok (gs : List Int) (s k : Int) (A : Option Addr) (c : Nat) (w : World) (hr : Que.right gs s = true) (hR : Rd w A gs) : Calls Try.prog 5 #[qv A gs.length c s, .int .i64 k] w fun e w' => e = .returned (.bool true) ∧ Below w.heap.size w w' := by
  obtain ⟨⟨b, e0⟩, hq⟩ : ∃ z, z = waitE gs s k := ⟨_, rfl⟩
  have HQ := Lib.hid hq
  clear hq
  have HR := Lib.hid hR
  have Hr := Lib.hid hr
  clear hR
  go_enter Try.func5, Try.ntmps5
  go_wp2_with fail
  refine (alive_any _).mono ?_
  rintro e w1 ⟨rfl, hb1⟩
  have HRD := Lib.hid ((HR.out.below (by go_grown)).below hb1)
  obtain ⟨hc1, hf1⟩ := bcell hb1; have z1 := hb1.size; (try simp at z1); have g1 : Below w.heap.size w w1 := thru (by go_grown) hb1 (by first | omega | (simp; done) | (simp; omega)); (try have s1 : w.heap.size < w1.heap.size := by omega); (try have t1_a1 : w.heap.size < w1.heap.size + 1 := by omega); (try have t1_a2 : w.heap.size < w1.heap.size + 1 + 1 := by omega)
  go_wp2_with fail
  refine (small_true _ _ _ _ _ (by have := (Que.right_iff.1 Hr.out).1; omega)).mono ?_
  rintro e w2 ⟨rfl, rfl⟩
  go_wp2_with fail
  refine (rright_any gs s A c _ (HRD.out.below (by go_grown))).mono ?_
  rintro e w3 ⟨rfl, rfl⟩
  go_wp2_with fail
  refine (wait_all gs s k A c _ Hr.out (HRD.out.below (by go_grown))).mono ?_
  rw [← HQ.out]
  rintro e w4 ⟨rfl, hb4⟩
  have HRD' := Lib.hid ((HRD.out.below (by go_grown)).below hb4)
  obtain ⟨hc4, hf4⟩ := bcell hb4; have z4 := hb4.size; (try simp at z4); have g4 : Below w.heap.size w w4 := thru (by go_grown) hb4 (by first | omega | (simp; done) | (simp; omega)); (try have s4 : w.heap.size < w4.heap.size := by omega); (try have t4_a1 : w.heap.size < w4.heap.size + 1 := by omega); (try have t1_4_a1 : w1.heap.size < w4.heap.size + 1 := by omega); (try have t2_4_a1 : w2.heap.size < w4.heap.size + 1 := by omega); (try have t3_4_a1 : w3.heap.size < w4.heap.size + 1 := by omega); (try have t4_a2 : w.heap.size < w4.heap.size + 1 + 1 := by omega); (try have t1_4_a2 : w1.heap.size < w4.heap.size + 1 + 1 := by omega); (try have t2_4_a2 : w2.heap.size < w4.heap.size + 1 + 1 := by omega); (try have t3_4_a2 : w3.heap.size < w4.heap.size + 1 + 1 := by omega); (try have t4_a3 : w.heap.size < w4.heap.size + 1 + 1 + 1 := by omega); (try have t1_4_a3 : w1.heap.size < w4.heap.size + 1 + 1 + 1 := by omega); (try have t2_4_a3 : w2.heap.size < w4.heap.size + 1 + 1 + 1 := by omega); (try have t3_4_a3 : w3.heap.size < w4.heap.size + 1 + 1 + 1 := by omega); (try have s4_p1 : w.heap.size + 1 < w4.heap.size := by omega); (try have s1_4_p1 : w1.heap.size + 1 < w4.heap.size := by omega); (try have s2_4_p1 : w2.heap.size + 1 < w4.heap.size := by omega); (try have s3_4_p1 : w3.heap.size + 1 < w4.heap.size := by omega); (try have s1_4 : w1.heap.size < w4.heap.size := by omega); (try have s2_4 : w2.heap.size < w4.heap.size := by omega); (try have s3_4 : w3.heap.size < w4.heap.size := by omega)
  go_wp2_with fail
  refine (rwait_all gs s k A c _ Hr.out (HRD'.out.below (by go_grown))).mono ?_
  rw [← HQ.out]
  rintro e w5 ⟨rfl, hb5⟩
  have HRD5 := Lib.hid ((HRD'.out.below (by go_grown)).below hb5)
  obtain ⟨hc5, hf5⟩ := bcell hb5; have z5 := hb5.size; (try simp at z5); have g5 : Below w.heap.size w w5 := thru (by go_grown) hb5 (by first | omega | (simp; done) | (simp; omega)); (try have s5 : w.heap.size < w5.heap.size := by omega); (try have t5_a1 : w.heap.size < w5.heap.size + 1 := by omega); (try have t1_5_a1 : w1.heap.size < w5.heap.size + 1 := by omega); (try have t2_5_a1 : w2.heap.size < w5.heap.size + 1 := by omega); (try have t3_5_a1 : w3.heap.size < w5.heap.size + 1 := by omega); (try have t4_5_a1 : w4.heap.size < w5.heap.size + 1 := by omega); (try have t5_a2 : w.heap.size < w5.heap.size + 1 + 1 := by omega); (try have t1_5_a2 : w1.heap.size < w5.heap.size + 1 + 1 := by omega); (try have t2_5_a2 : w2.heap.size < w5.heap.size + 1 + 1 := by omega); (try have t3_5_a2 : w3.heap.size < w5.heap.size + 1 + 1 := by omega); (try have t4_5_a2 : w4.heap.size < w5.heap.size + 1 + 1 := by omega); (try have t5_a3 : w.heap.size < w5.heap.size + 1 + 1 + 1 := by omega); (try have t1_5_a3 : w1.heap.size < w5.heap.size + 1 + 1 + 1 := by omega); (try have t2_5_a3 : w2.heap.size < w5.heap.size + 1 + 1 + 1 := by omega); (try have t3_5_a3 : w3.heap.size < w5.heap.size + 1 + 1 + 1 := by omega); (try have t4_5_a3 : w4.heap.size < w5.heap.size + 1 + 1 + 1 := by omega); (try have s5_p1 : w.heap.size + 1 < w5.heap.size := by omega); (try have s1_5_p1 : w1.heap.size + 1 < w5.heap.size := by omega); (try have s2_5_p1 : w2.heap.size + 1 < w5.heap.size := by omega); (try have s3_5_p1 : w3.heap.size + 1 < w5.heap.size := by omega); (try have s4_5_p1 : w4.heap.size + 1 < w5.heap.size := by omega); (try have s1_5 : w1.heap.size < w5.heap.size := by omega); (try have s2_5 : w2.heap.size < w5.heap.size := by omega); (try have s3_5 : w3.heap.size < w5.heap.size := by omega); (try have s4_5 : w4.heap.size < w5.heap.size := by omega)
  obtain ⟨L, hL⟩ : ∃ L, L = Que.qlen gs s := ⟨_, rfl⟩
  have HLL := Lib.hid hL
  clear hL hr
  go_wp2_with fail
  go_region_held3 (fun w' => w'.cell? ⟨w.heap.size, 0, none⟩ = some (.slice A gs.length c) ∧ w'.cell? ⟨w.heap.size, 1, none⟩ = some (.int .i64 s)) (simp [go_sem, *])
    (first
      | (go_at_call 19; refine (length_any gs s A c _ (HRD5.out.below (by go_grown)) Hr.out).mono ?_; rw [← HLL.out]; rintro e w2 ⟨rfl, rfl⟩)
      | (go_at_call 20; refine (rlength_any gs s A c _ (HRD5.out.below (by go_grown)) Hr.out).mono ?_; rw [← HLL.out]; rintro e w2 ⟨rfl, rfl⟩))
  all_goals
    go_wp2
    go_ret
    exact ⟨rfl, by go_grown⟩

theorem lawWaits (gs : List Int) (s k : Int) (A : Option Addr) (c : Nat) (w : World) (hR : Rd w A gs) : Calls Try.prog 5 #[qv A gs.length c s, .int .i64 k] w fun e w' => e = .returned (.bool true) ∧ Below w.heap.size w w' := by
  by_cases hs : gs.length ≤ 300
  · cases hr : Que.right gs s
    · exact lawWaits_wrong gs s k A c w hs hr hR
    · exact lawWaits_ok gs s k A c w hr hR
  · exact lawWaits_big gs s k A c w hs

theorem lawJoins_big (gs : List Int) (s k : Int) (A : Option Addr) (c : Nat) (w : World) (hs : ¬ gs.length ≤ 300) : Calls Try.prog 9 #[qv A gs.length c s, .int .i64 k] w fun e w' => e = .returned (.bool true) ∧ Below w.heap.size w w' := by
  have HS := Lib.hid hs
  clear hs
  go_enter Try.func9, Try.ntmps9
  go_wp2_with fail
  refine (alive_any _).mono ?_
  rintro e w1 ⟨rfl, hb1⟩
  obtain ⟨hc1, hf1⟩ := bcell hb1; have z1 := hb1.size; (try simp at z1); have g1 : Below w.heap.size w w1 := thru (by go_grown) hb1 (by first | omega | (simp; done) | (simp; omega)); (try have s1 : w.heap.size < w1.heap.size := by omega); (try have t1_a1 : w.heap.size < w1.heap.size + 1 := by omega); (try have t1_a2 : w.heap.size < w1.heap.size + 1 + 1 := by omega)
  go_wp2_with fail
  refine (small_false _ _ _ _ _ HS.out).mono ?_
  rintro e w2 ⟨rfl, rfl⟩
  go_wp2
  go_ret
  exact ⟨rfl, by go_grown⟩
theorem lawJoins_wrong (gs : List Int) (s k : Int) (A : Option Addr) (c : Nat) (w : World) (hs : gs.length ≤ 300) (hr : Que.right gs s = false) (hR : Rd w A gs) : Calls Try.prog 9 #[qv A gs.length c s, .int .i64 k] w fun e w' => e = .returned (.bool true) ∧ Below w.heap.size w w' := by
  have HS := Lib.hid hs
  have HR := Lib.hid hR
  clear hs hR
  go_enter Try.func9, Try.ntmps9
  go_wp2_with fail
  refine (alive_any _).mono ?_
  rintro e w1 ⟨rfl, hb1⟩
  have HRD := Lib.hid ((HR.out.below (by go_grown)).below hb1)
  obtain ⟨hc1, hf1⟩ := bcell hb1; have z1 := hb1.size; (try simp at z1); have g1 : Below w.heap.size w w1 := thru (by go_grown) hb1 (by first | omega | (simp; done) | (simp; omega)); (try have s1 : w.heap.size < w1.heap.size := by omega); (try have t1_a1 : w.heap.size < w1.heap.size + 1 := by omega); (try have t1_a2 : w.heap.size < w1.heap.size + 1 + 1 := by omega)
  go_wp2_with fail
  refine (small_true _ _ _ _ _ HS.out).mono ?_
  rintro e w2 ⟨rfl, rfl⟩
  go_wp2_with fail
  refine (rright_any gs s A c _ (HRD.out.below (by go_grown))).mono ?_
  rintro e w3 ⟨rfl, rfl⟩
  go_wp2
  go_ret
  exact ⟨rfl, by go_grown⟩

set_option maxHeartbeats 2000000 in
theorem lawJoins_ok (gs : List Int) (s k : Int) (A : Option Addr) (c : Nat) (w : World) (hr : Que.right gs s = true) (hR : Rd w A gs) : Calls Try.prog 9 #[qv A gs.length c s, .int .i64 k] w fun e w' => e = .returned (.bool true) ∧ Below w.heap.size w w' := by
  obtain ⟨⟨ys, u, e0⟩, hq⟩ : ∃ z, z = joinE gs s k := ⟨_, rfl⟩
  have HL := Lib.hid (joinE_len hr hq)
  have HQ := Lib.hid hq
  clear hq
  obtain ⟨⟨zs, v, e1⟩, hq⟩ : ∃ z, z = singleE gs s k := ⟨_, rfl⟩
  have HM := Lib.hid (singleE_len hr hq)
  have HP := Lib.hid hq
  clear hq
  have HR := Lib.hid hR
  have Hr := Lib.hid hr
  clear hR
  go_enter Try.func9, Try.ntmps9
  go_wp2_with fail
  refine (alive_any _).mono ?_
  rintro e w1 ⟨rfl, hb1⟩
  have HRD := Lib.hid ((HR.out.below (by go_grown)).below hb1)
  obtain ⟨hc1, hf1⟩ := bcell hb1; have z1 := hb1.size; (try simp at z1); have g1 : Below w.heap.size w w1 := thru (by go_grown) hb1 (by first | omega | (simp; done) | (simp; omega)); (try have s1 : w.heap.size < w1.heap.size := by omega); (try have t1_a1 : w.heap.size < w1.heap.size + 1 := by omega); (try have t1_a2 : w.heap.size < w1.heap.size + 1 + 1 := by omega)
  go_wp2_with fail
  refine (small_true _ _ _ _ _ (by have := (Que.right_iff.1 Hr.out).1; omega)).mono ?_
  rintro e w2 ⟨rfl, rfl⟩
  go_wp2_with fail
  refine (rright_any gs s A c _ (HRD.out.below (by go_grown))).mono ?_
  rintro e w3 ⟨rfl, rfl⟩
  go_wp2_with fail
  refine (join_all gs s k A c _ (HRD.out.below (by go_grown))).mono ?_
  rw [← HQ.out]
  rintro e w4 ⟨A4, c4, rfl, ho4, hb4⟩
  have HRD4 := Lib.hid ((HRD.out.below (by go_grown)).below hb4)
  have HO4 := Lib.hid ho4.rd
  clear ho4
  obtain ⟨hc4, hf4⟩ := bcell hb4; have z4 := hb4.size; (try simp at z4); have g4 : Below w.heap.size w w4 := thru (by go_grown) hb4 (by first | omega | (simp; done) | (simp; omega)); (try have s4 : w.heap.size < w4.heap.size := by omega); (try have t4_a1 : w.heap.size < w4.heap.size + 1 := by omega); (try have t1_4_a1 : w1.heap.size < w4.heap.size + 1 := by omega); (try have t2_4_a1 : w2.heap.size < w4.heap.size + 1 := by omega); (try have t3_4_a1 : w3.heap.size < w4.heap.size + 1 := by omega); (try have t4_a2 : w.heap.size < w4.heap.size + 1 + 1 := by omega); (try have t1_4_a2 : w1.heap.size < w4.heap.size + 1 + 1 := by omega); (try have t2_4_a2 : w2.heap.size < w4.heap.size + 1 + 1 := by omega); (try have t3_4_a2 : w3.heap.size < w4.heap.size + 1 + 1 := by omega); (try have t4_a3 : w.heap.size < w4.heap.size + 1 + 1 + 1 := by omega); (try have t1_4_a3 : w1.heap.size < w4.heap.size + 1 + 1 + 1 := by omega); (try have t2_4_a3 : w2.heap.size < w4.heap.size + 1 + 1 + 1 := by omega); (try have t3_4_a3 : w3.heap.size < w4.heap.size + 1 + 1 + 1 := by omega); (try have s4_p1 : w.heap.size + 1 < w4.heap.size := by omega); (try have s1_4_p1 : w1.heap.size + 1 < w4.heap.size := by omega); (try have s2_4_p1 : w2.heap.size + 1 < w4.heap.size := by omega); (try have s3_4_p1 : w3.heap.size + 1 < w4.heap.size := by omega); (try have s1_4 : w1.heap.size < w4.heap.size := by omega); (try have s2_4 : w2.heap.size < w4.heap.size := by omega); (try have s3_4 : w3.heap.size < w4.heap.size := by omega)
  go_wp2_with fail
  refine (rjoin_all gs s k A c _ (HRD4.out.below (by go_grown))).mono ?_
  rw [← HQ.out]
  rintro e w5 ⟨A5, c5, rfl, ho5, hb5⟩
  have HRD5 := Lib.hid ((HRD4.out.below (by go_grown)).below hb5)
  have HO45 := Lib.hid ((HO4.out.below (by go_grown)).below hb5)
  have HO5 := Lib.hid ho5.rd
  clear ho5
  obtain ⟨hc5, hf5⟩ := bcell hb5; have z5 := hb5.size; (try simp at z5); have g5 : Below w.heap.size w w5 := thru (by go_grown) hb5 (by first | omega | (simp; done) | (simp; omega)); (try have s5 : w.heap.size < w5.heap.size := by omega); (try have t5_a1 : w.heap.size < w5.heap.size + 1 := by omega); (try have t1_5_a1 : w1.heap.size < w5.heap.size + 1 := by omega); (try have t2_5_a1 : w2.heap.size < w5.heap.size + 1 := by omega); (try have t3_5_a1 : w3.heap.size < w5.heap.size + 1 := by omega); (try have t4_5_a1 : w4.heap.size < w5.heap.size + 1 := by omega); (try have t5_a2 : w.heap.size < w5.heap.size + 1 + 1 := by omega); (try have t1_5_a2 : w1.heap.size < w5.heap.size + 1 + 1 := by omega); (try have t2_5_a2 : w2.heap.size < w5.heap.size + 1 + 1 := by omega); (try have t3_5_a2 : w3.heap.size < w5.heap.size + 1 + 1 := by omega); (try have t4_5_a2 : w4.heap.size < w5.heap.size + 1 + 1 := by omega); (try have t5_a3 : w.heap.size < w5.heap.size + 1 + 1 + 1 := by omega); (try have t1_5_a3 : w1.heap.size < w5.heap.size + 1 + 1 + 1 := by omega); (try have t2_5_a3 : w2.heap.size < w5.heap.size + 1 + 1 + 1 := by omega); (try have t3_5_a3 : w3.heap.size < w5.heap.size + 1 + 1 + 1 := by omega); (try have t4_5_a3 : w4.heap.size < w5.heap.size + 1 + 1 + 1 := by omega); (try have s5_p1 : w.heap.size + 1 < w5.heap.size := by omega); (try have s1_5_p1 : w1.heap.size + 1 < w5.heap.size := by omega); (try have s2_5_p1 : w2.heap.size + 1 < w5.heap.size := by omega); (try have s3_5_p1 : w3.heap.size + 1 < w5.heap.size := by omega); (try have s4_5_p1 : w4.heap.size + 1 < w5.heap.size := by omega); (try have s1_5 : w1.heap.size < w5.heap.size := by omega); (try have s2_5 : w2.heap.size < w5.heap.size := by omega); (try have s3_5 : w3.heap.size < w5.heap.size := by omega); (try have s4_5 : w4.heap.size < w5.heap.size := by omega)
  go_wp2_with fail
  refine (single_all gs s k A c _ Hr.out (HRD5.out.below (by go_grown))).mono ?_
  rw [← HP.out]
  rintro e w6 ⟨A6, c6, rfl, ho6, hb6⟩
  have HRD6 := Lib.hid ((HRD5.out.below (by go_grown)).below hb6)
  have HO46 := Lib.hid ((HO45.out.below (by go_grown)).below hb6)
  have HO56 := Lib.hid ((HO5.out.below (by go_grown)).below hb6)
  have HO6 := Lib.hid ho6.rd
  clear ho6
  obtain ⟨hc6, hf6⟩ := bcell hb6; have z6 := hb6.size; (try simp at z6); have g6 : Below w.heap.size w w6 := thru (by go_grown) hb6 (by first | omega | (simp; done) | (simp; omega)); (try have s6 : w.heap.size < w6.heap.size := by omega); (try have t6_a1 : w.heap.size < w6.heap.size + 1 := by omega); (try have t1_6_a1 : w1.heap.size < w6.heap.size + 1 := by omega); (try have t2_6_a1 : w2.heap.size < w6.heap.size + 1 := by omega); (try have t3_6_a1 : w3.heap.size < w6.heap.size + 1 := by omega); (try have t4_6_a1 : w4.heap.size < w6.heap.size + 1 := by omega); (try have t5_6_a1 : w5.heap.size < w6.heap.size + 1 := by omega); (try have t6_a2 : w.heap.size < w6.heap.size + 1 + 1 := by omega); (try have t1_6_a2 : w1.heap.size < w6.heap.size + 1 + 1 := by omega); (try have t2_6_a2 : w2.heap.size < w6.heap.size + 1 + 1 := by omega); (try have t3_6_a2 : w3.heap.size < w6.heap.size + 1 + 1 := by omega); (try have t4_6_a2 : w4.heap.size < w6.heap.size + 1 + 1 := by omega); (try have t5_6_a2 : w5.heap.size < w6.heap.size + 1 + 1 := by omega); (try have t6_a3 : w.heap.size < w6.heap.size + 1 + 1 + 1 := by omega); (try have t1_6_a3 : w1.heap.size < w6.heap.size + 1 + 1 + 1 := by omega); (try have t2_6_a3 : w2.heap.size < w6.heap.size + 1 + 1 + 1 := by omega); (try have t3_6_a3 : w3.heap.size < w6.heap.size + 1 + 1 + 1 := by omega); (try have t4_6_a3 : w4.heap.size < w6.heap.size + 1 + 1 + 1 := by omega); (try have t5_6_a3 : w5.heap.size < w6.heap.size + 1 + 1 + 1 := by omega); (try have s6_p1 : w.heap.size + 1 < w6.heap.size := by omega); (try have s1_6_p1 : w1.heap.size + 1 < w6.heap.size := by omega); (try have s2_6_p1 : w2.heap.size + 1 < w6.heap.size := by omega); (try have s3_6_p1 : w3.heap.size + 1 < w6.heap.size := by omega); (try have s4_6_p1 : w4.heap.size + 1 < w6.heap.size := by omega); (try have s5_6_p1 : w5.heap.size + 1 < w6.heap.size := by omega); (try have s1_6 : w1.heap.size < w6.heap.size := by omega); (try have s2_6 : w2.heap.size < w6.heap.size := by omega); (try have s3_6 : w3.heap.size < w6.heap.size := by omega); (try have s4_6 : w4.heap.size < w6.heap.size := by omega); (try have s5_6 : w5.heap.size < w6.heap.size := by omega)
  go_wp2_with fail
  refine (rsingle_all gs s k A c _ Hr.out (HRD6.out.below (by go_grown))).mono ?_
  rw [← HP.out]
  rintro e w7 ⟨A7, c7, rfl, ho7, hb7⟩
  have HO47 := Lib.hid ((HO46.out.below (by go_grown)).below hb7)
  have HO57 := Lib.hid ((HO56.out.below (by go_grown)).below hb7)
  have HO67 := Lib.hid ((HO6.out.below (by go_grown)).below hb7)
  have HO7 := Lib.hid ho7.rd
  clear ho7
  obtain ⟨hc7, hf7⟩ := bcell hb7; have z7 := hb7.size; (try simp at z7); have g7 : Below w.heap.size w w7 := thru (by go_grown) hb7 (by first | omega | (simp; done) | (simp; omega)); (try have s7 : w.heap.size < w7.heap.size := by omega); (try have t7_a1 : w.heap.size < w7.heap.size + 1 := by omega); (try have t1_7_a1 : w1.heap.size < w7.heap.size + 1 := by omega); (try have t2_7_a1 : w2.heap.size < w7.heap.size + 1 := by omega); (try have t3_7_a1 : w3.heap.size < w7.heap.size + 1 := by omega); (try have t4_7_a1 : w4.heap.size < w7.heap.size + 1 := by omega); (try have t5_7_a1 : w5.heap.size < w7.heap.size + 1 := by omega); (try have t6_7_a1 : w6.heap.size < w7.heap.size + 1 := by omega); (try have t7_a2 : w.heap.size < w7.heap.size + 1 + 1 := by omega); (try have t1_7_a2 : w1.heap.size < w7.heap.size + 1 + 1 := by omega); (try have t2_7_a2 : w2.heap.size < w7.heap.size + 1 + 1 := by omega); (try have t3_7_a2 : w3.heap.size < w7.heap.size + 1 + 1 := by omega); (try have t4_7_a2 : w4.heap.size < w7.heap.size + 1 + 1 := by omega); (try have t5_7_a2 : w5.heap.size < w7.heap.size + 1 + 1 := by omega); (try have t6_7_a2 : w6.heap.size < w7.heap.size + 1 + 1 := by omega); (try have t7_a3 : w.heap.size < w7.heap.size + 1 + 1 + 1 := by omega); (try have t1_7_a3 : w1.heap.size < w7.heap.size + 1 + 1 + 1 := by omega); (try have t2_7_a3 : w2.heap.size < w7.heap.size + 1 + 1 + 1 := by omega); (try have t3_7_a3 : w3.heap.size < w7.heap.size + 1 + 1 + 1 := by omega); (try have t4_7_a3 : w4.heap.size < w7.heap.size + 1 + 1 + 1 := by omega); (try have t5_7_a3 : w5.heap.size < w7.heap.size + 1 + 1 + 1 := by omega); (try have t6_7_a3 : w6.heap.size < w7.heap.size + 1 + 1 + 1 := by omega); (try have s7_p1 : w.heap.size + 1 < w7.heap.size := by omega); (try have s1_7_p1 : w1.heap.size + 1 < w7.heap.size := by omega); (try have s2_7_p1 : w2.heap.size + 1 < w7.heap.size := by omega); (try have s3_7_p1 : w3.heap.size + 1 < w7.heap.size := by omega); (try have s4_7_p1 : w4.heap.size + 1 < w7.heap.size := by omega); (try have s5_7_p1 : w5.heap.size + 1 < w7.heap.size := by omega); (try have s6_7_p1 : w6.heap.size + 1 < w7.heap.size := by omega); (try have s1_7 : w1.heap.size < w7.heap.size := by omega); (try have s2_7 : w2.heap.size < w7.heap.size := by omega); (try have s3_7 : w3.heap.size < w7.heap.size := by omega); (try have s4_7 : w4.heap.size < w7.heap.size := by omega); (try have s5_7 : w5.heap.size < w7.heap.size := by omega); (try have s6_7 : w6.heap.size < w7.heap.size := by omega)
  go_wp2_with fail
  refine (same_eq ys u A4 A5 c4 c5 _ HL.out (HO47.out.below (by go_grown)) (HO57.out.below (by go_grown))).mono ?_
  rintro e w8 ⟨rfl, hb8⟩
  have HO68 := Lib.hid ((HO67.out.below (by go_grown)).below hb8)
  have HO78 := Lib.hid ((HO7.out.below (by go_grown)).below hb8)
  obtain ⟨hc8, hf8⟩ := bcell hb8; have z8 := hb8.size; (try simp at z8); have g8 : Below w.heap.size w w8 := thru (by go_grown) hb8 (by first | omega | (simp; done) | (simp; omega)); (try have s8 : w.heap.size < w8.heap.size := by omega); (try have t8_a1 : w.heap.size < w8.heap.size + 1 := by omega); (try have t1_8_a1 : w1.heap.size < w8.heap.size + 1 := by omega); (try have t2_8_a1 : w2.heap.size < w8.heap.size + 1 := by omega); (try have t3_8_a1 : w3.heap.size < w8.heap.size + 1 := by omega); (try have t4_8_a1 : w4.heap.size < w8.heap.size + 1 := by omega); (try have t5_8_a1 : w5.heap.size < w8.heap.size + 1 := by omega); (try have t6_8_a1 : w6.heap.size < w8.heap.size + 1 := by omega); (try have t7_8_a1 : w7.heap.size < w8.heap.size + 1 := by omega); (try have t8_a2 : w.heap.size < w8.heap.size + 1 + 1 := by omega); (try have t1_8_a2 : w1.heap.size < w8.heap.size + 1 + 1 := by omega); (try have t2_8_a2 : w2.heap.size < w8.heap.size + 1 + 1 := by omega); (try have t3_8_a2 : w3.heap.size < w8.heap.size + 1 + 1 := by omega); (try have t4_8_a2 : w4.heap.size < w8.heap.size + 1 + 1 := by omega); (try have t5_8_a2 : w5.heap.size < w8.heap.size + 1 + 1 := by omega); (try have t6_8_a2 : w6.heap.size < w8.heap.size + 1 + 1 := by omega); (try have t7_8_a2 : w7.heap.size < w8.heap.size + 1 + 1 := by omega); (try have s1_8 : w1.heap.size < w8.heap.size := by omega); (try have s2_8 : w2.heap.size < w8.heap.size := by omega); (try have s3_8 : w3.heap.size < w8.heap.size := by omega); (try have s4_8 : w4.heap.size < w8.heap.size := by omega); (try have s5_8 : w5.heap.size < w8.heap.size := by omega); (try have s6_8 : w6.heap.size < w8.heap.size := by omega); (try have s7_8 : w7.heap.size < w8.heap.size := by omega)
  go_wp2_with fail
  refine (same_eq zs v A6 A7 c6 c7 _ HM.out (HO68.out.below (by go_grown)) (HO78.out.below (by go_grown))).mono ?_
  rintro e w9 ⟨rfl, hb9⟩
  obtain ⟨hc9, hf9⟩ := bcell hb9; have z9 := hb9.size; (try simp at z9); have g9 : Below w.heap.size w w9 := thru (by go_grown) hb9 (by first | omega | (simp; done) | (simp; omega)); (try have s9 : w.heap.size < w9.heap.size := by omega); (try have t9_a1 : w.heap.size < w9.heap.size + 1 := by omega); (try have t1_9_a1 : w1.heap.size < w9.heap.size + 1 := by omega); (try have t2_9_a1 : w2.heap.size < w9.heap.size + 1 := by omega); (try have t3_9_a1 : w3.heap.size < w9.heap.size + 1 := by omega); (try have t4_9_a1 : w4.heap.size < w9.heap.size + 1 := by omega); (try have t5_9_a1 : w5.heap.size < w9.heap.size + 1 := by omega); (try have t6_9_a1 : w6.heap.size < w9.heap.size + 1 := by omega); (try have t7_9_a1 : w7.heap.size < w9.heap.size + 1 := by omega); (try have t8_9_a1 : w8.heap.size < w9.heap.size + 1 := by omega); (try have t9_a2 : w.heap.size < w9.heap.size + 1 + 1 := by omega); (try have t1_9_a2 : w1.heap.size < w9.heap.size + 1 + 1 := by omega); (try have t2_9_a2 : w2.heap.size < w9.heap.size + 1 + 1 := by omega); (try have t3_9_a2 : w3.heap.size < w9.heap.size + 1 + 1 := by omega); (try have t4_9_a2 : w4.heap.size < w9.heap.size + 1 + 1 := by omega); (try have t5_9_a2 : w5.heap.size < w9.heap.size + 1 + 1 := by omega); (try have t6_9_a2 : w6.heap.size < w9.heap.size + 1 + 1 := by omega); (try have t7_9_a2 : w7.heap.size < w9.heap.size + 1 + 1 := by omega); (try have t8_9_a2 : w8.heap.size < w9.heap.size + 1 + 1 := by omega); (try have s1_9 : w1.heap.size < w9.heap.size := by omega); (try have s2_9 : w2.heap.size < w9.heap.size := by omega); (try have s3_9 : w3.heap.size < w9.heap.size := by omega); (try have s4_9 : w4.heap.size < w9.heap.size := by omega); (try have s5_9 : w5.heap.size < w9.heap.size := by omega); (try have s6_9 : w6.heap.size < w9.heap.size := by omega); (try have s7_9 : w7.heap.size < w9.heap.size := by omega); (try have s8_9 : w8.heap.size < w9.heap.size := by omega)
  go_wp2
  go_ret
  exact ⟨rfl, by go_grown⟩

theorem lawJoins (gs : List Int) (s k : Int) (A : Option Addr) (c : Nat) (w : World) (hR : Rd w A gs) : Calls Try.prog 9 #[qv A gs.length c s, .int .i64 k] w fun e w' => e = .returned (.bool true) ∧ Below w.heap.size w w' := by
  by_cases hs : gs.length ≤ 300
  · cases hr : Que.right gs s
    · exact lawJoins_wrong gs s k A c w hs hr hR
    · exact lawJoins_ok gs s k A c w hr hR
  · exact lawJoins_big gs s k A c w hs
end Go.Proofs.Ythabkfmbdkgghaa
