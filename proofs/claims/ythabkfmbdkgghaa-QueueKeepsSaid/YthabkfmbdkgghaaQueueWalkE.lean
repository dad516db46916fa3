/-
  The walks of Wait of the queues, of the program and of the reference.
-/
import Derived.Test.YthabkfmbdkgghaaQueueWalkD
import Derived.Deep.LoopGhost
namespace Go.Proofs.Ythabkfmbdkgghaa
open Go.RowKit

theorem seat_any (gs : List Int) (s k : Int) (A : Option Addr) (c : Nat) (w : World) (hr : Que.right gs s = true) (hk : 1 ≤ k) (hk' : k ≤ 16) (hR : Rd w A gs) :
    Calls Try.prog 14 #[qv A gs.length c s, .int .i64 k] w (SeatPost w gs s k) := by
  obtain ⟨h1, h2, h3, h4⟩ := Que.right_iff.1 hr
  cases gs with
  | nil => exact seat_board [] s k A c w hk hk' h2 h3 h4 (by simp; omega) (by omega) hR
  | cons x r =>
    by_cases hx : k < x
    · exact seat_big x r s k A c w hk hk' (h4 x (by simp)).2 hx (by omega) hR
    · exact seat_board (x :: r) s k A c w hk hk' h2 h3 h4 (by simp; omega) (by omega) hR
theorem rseat_any (gs : List Int) (s k : Int) (A : Option Addr) (c : Nat) (w : World) (hr : Que.right gs s = true) (hk : 1 ≤ k) (hk' : k ≤ 16) (hR : Rd w A gs) :
    Calls Try.prog 15 #[qv A gs.length c s, .int .i64 k] w (SeatPost w gs s k) := by
  obtain ⟨h1, h2, h3, h4⟩ := Que.right_iff.1 hr
  cases gs with
  | nil => exact rseat_board [] s k A c w hk hk' h2 h3 h4 (by simp; omega) (by omega) hR
  | cons x r =>
    by_cases hx : k < x
    · exact rseat_big x r s k A c w hk hk' (h4 x (by simp)).2 hx (by omega) hR
    · exact rseat_board (x :: r) s k A c w hk hk' h2 h3 h4 (by simp; omega) (by omega) hR

theorem wait_bad (gs : List Int) (s k : Int) (A : Option Addr) (c : Nat) (w : World) (hk : k < 1 ∨ 16 < k) :
    Calls Try.prog 17 #[qv A gs.length c s, .int .i64 k] w fun e w' => e = .returned (.tuple #[.int .i64 0, .int .i64 2]) ∧ Below w.heap.size w w' := by
  rcases hk with hk | hk
  all_goals
    go_enter Try.func17, Try.ntmps17
    go_wp2
    go_returns
    exact ⟨rfl, by go_grown⟩
theorem rwait_bad (gs : List Int) (s k : Int) (A : Option Addr) (c : Nat) (w : World) (hk : k < 1 ∨ 16 < k) :
    Calls Try.prog 18 #[qv A gs.length c s, .int .i64 k] w fun e w' => e = .returned (.tuple #[.int .i64 0, .int .i64 2]) ∧ Below w.heap.size w w' := by
  rcases hk with hk | hk
  all_goals
    go_enter Try.func18, Try.ntmps18
    go_wp2
    go_returns
    exact ⟨rfl, by go_grown⟩

theorem frozen_new (w : World) (cs : Array Value) (t : TypeId) (i : Nat) : (w.alloc (.cells cs t)).frozen? ⟨w.heap.size, i, none⟩ = false := by
  have h := heap_alloc_new w (.cells cs t)
  simp only [World.frozen?, h]
  simp

theorem SeatPost.unpack {w w' : World} {gs ys : List Int} {s k u b : Int} {e : Ending} (h : SeatPost w gs s k e w') (hs : (ys, u, b) = Que.seat gs s k) :
    ∃ (A : Option Addr) (c : Nat), e = .returned (.tuple #[qv A ys.length c u, .int .i64 b, .int .i64 0]) ∧ Own w.heap.size w' A ys ∧ Below w.heap.size w w' := by
  obtain ⟨A, c, h1, h2, h3⟩ := h
  rw [← hs] at h1 h2
  exact ⟨A, c, h1, h2, h3⟩

theorem seat_step {xs ys : List Int} {t u b k : Int} (hr : Que.right xs t = true) (hk : 1 ≤ k) (hk' : k ≤ 16) (hq : 0 < Que.qlen xs t) (hs : (ys, u, b) = Que.seat xs t k) :
    Que.right ys u = true ∧ (Que.qlen ys u).toNat < (Que.qlen xs t).toNat ∧ Que.wait xs t k = 1 + Que.wait ys u k := by
  obtain ⟨_, h2, _, h4⟩ := Que.right_iff.1 hr
  have S := Que.seat_facts h4 h2 hk hk'
  have h5 := Que.wait_succ hk hk' h4 h2 hq
  rw [← hs] at S h5
  dsimp only at S h5
  have := S.some_ hq
  have := S.sum_
  exact ⟨S.right_ hr, by omega, h5⟩

/-- The loop of Wait: the queue lies in block g; what has been counted and what is to come is N. -/
def Waits (W : World) (g : Nat) (k N : Int) (m : Nat) (v : Value) (w : World) : Prop :=
  ∃ (xs : List Int) (t n : Int) (A : Option Addr) (c : Nat), v = .int .i64 n ∧ 0 ≤ n ∧ n + Que.wait xs t k = N ∧ Que.right xs t = true ∧ (Que.qlen xs t).toNat = m ∧
    w.cell? ⟨g, 0, none⟩ = some (.slice A xs.length c) ∧ w.cell? ⟨g, 1, none⟩ = some (.int .i64 t) ∧ (∀ i, w.frozen? ⟨g, i, none⟩ = false) ∧ g < w.heap.size ∧ Rd w A xs ∧ Off A g xs ∧ Below W.heap.size W w

set_option maxHeartbeats 1000000 in
theorem wait_any (gs : List Int) (s k : Int) (A : Option Addr) (c : Nat) (w : World) (hr : Que.right gs s = true) (hk : 1 ≤ k) (hk' : k ≤ 16) (hR : Rd w A gs) :
    Calls Try.prog 17 #[qv A gs.length c s, .int .i64 k] w fun e w' => e = .returned (.tuple #[.int .i64 (Que.wait gs s k), .int .i64 0]) ∧ Below w.heap.size w w' := by
  obtain ⟨N, hN⟩ : ∃ N, N = Que.wait gs s k := ⟨_, rfl⟩
  obtain ⟨r1, r2, r3, r4⟩ := Que.right_iff.1 hr
  have hsb := Que.sum_bd r4
  have hN1 : N ≤ 13200 := by
    have := (Que.wait_facts hk hk' _ gs s r4 r2 (Nat.le_refl _)).2.1
    rw [hN]; unfold Que.qlen at this; omega
  rw [← hN]
  have HN := Lib.hid hN
  have HR := Lib.hid hR
  have Hr := Lib.hid hr
  clear hN hR hr r4 hsb
  go_enter Try.func17, Try.ntmps17
  go_wp2_with fail
  go_loopg [6] (Que.qlen gs s).toNat (fun m v wr => Waits w w.heap.size k N m v wr)
  case atStart =>
    refine ⟨gs, s, 0, A, c, rfl, by omega, by rw [HN.out]; omega, Hr.out, rfl, by simp, by simp, fun i => ?_, by simp, HR.out.below (by go_grown), HR.out.off (Nat.le_refl _), by go_grown⟩
    exact frozen_new _ _ _ i
  case round =>
    obtain ⟨xs, t, n, A', c', rfl, hn, hsum, hr', hm, c0, c1, f0, hg, hR', hO', hB⟩ := hrel
    obtain ⟨r1', r2', r3', r4'⟩ := Que.right_iff.1 hr'
    have hw0 := (Que.wait_facts hk hk' _ xs t r4' r2' (Nat.le_refl _)).1
    have hn1 : n ≤ 13200 := by omega
    by_cases hq : 0 < Que.qlen xs t
    · obtain ⟨⟨ys, u, b⟩, hs⟩ : ∃ z, z = Que.seat xs t k := ⟨_, rfl⟩
      have hst := Lib.hid (seat_step hr' hk hk' hq hs)
      have HS := Lib.hid hs
      have HSUM := Lib.hid hsum
      have HM := Lib.hid hm
      have HR1 := Lib.hid hr'
      have HRD := Lib.hid hR'
      have HO := Lib.hid hO'
      have HF := Lib.hid f0
      clear hs hsum hm hr' hR' hO' r4' hw0
      go_wp2_with fail
      refine (length_any xs t A' c' wr HRD.out HR1.out).mono ?_
      rintro e w2 ⟨rfl, rfl⟩
      go_wp2_with fail
      refine (seat_any xs t k A' c' _ HR1.out hk hk' (HRD.out.below (by go_grown))).mono ?_
      rintro e w3 hpost
      obtain ⟨A3, c3, rfl, hown, hb3⟩ := hpost.unpack HS.out
      clear hpost
      have HW := Lib.hid hown
      clear hown
      obtain ⟨hc3, hf3⟩ := bcell hb3
      have hz := hb3.size
      simp at hz
      have z1 : w.heap.size < w3.heap.size := by omega
      have z2 : w.heap.size < wr.heap.size + 1 := by omega
      have g0 := HF.out 0
      have g1 := HF.out 1
      have HHF := Lib.hid hf3
      go_wp2
      obtain ⟨s1, s2, s3⟩ := hst.out
      have hB3 : Below w.heap.size w w3 := thru (by go_grown) hb3 (by first | omega | (simp; omega))
      go_roundg (Que.qlen ys u).toNat
      case measure => rw [← HM.out]; exact s2
      case rel =>
        refine ⟨ys, u, n + 1, A3, c3, by go_num, by omega, by rw [← HSUM.out, s3]; omega, s1, rfl, ?_, ?_, fun i => ?_, ?_, ?_, ?_, ?_⟩
        · simp [cell_set_self, hc3, z2, hg, c0, World.cell?_alloc_lt, World.cell?_setCell_other]
        · simp [cell_set_self, hc3, z2, hg, c1, World.cell?_alloc_lt, World.cell?_setCell_other]
        · rw [World.frozen?_setCell, World.frozen?_setCell, HHF.out _ _ (by simpa using z2), frozen?_alloc_cells]; exact HF.out i
        · simpa using z1
        · exact (HW.out.rd.setOff (HW.out.off (by simpa using z2)) _).setOff (HW.out.off (by simpa using z2)) _
        · exact HW.out.off (by simpa using z2)
        · exact (hB3.setCell (by simp) _).setCell (by simp) _
    · have hwz := Que.wait_zero (k := k) hq
      rw [hwz] at hsum
      have HSUM := Lib.hid hsum
      have HM := Lib.hid hm
      have HR1 := Lib.hid hr'
      have HRD := Lib.hid hR'
      clear hsum hm hr' hR' r4' hw0 hwz
      go_wp2_with fail
      refine (length_any xs t A' c' wr HRD.out HR1.out).mono ?_
      rintro e w2 ⟨rfl, rfl⟩
      go_wp2
      go_ret2
      have hnN : n = N := by have := HSUM.out; omega
      exact ⟨by rw [hnN]; rfl, by go_grown⟩

set_option maxHeartbeats 1000000 in
theorem rwait_any (gs : List Int) (s k : Int) (A : Option Addr) (c : Nat) (w : World) (hr : Que.right gs s = true) (hk : 1 ≤ k) (hk' : k ≤ 16) (hR : Rd w A gs) :
    Calls Try.prog 18 #[qv A gs.length c s, .int .i64 k] w fun e w' => e = .returned (.tuple #[.int .i64 (Que.wait gs s k), .int .i64 0]) ∧ Below w.heap.size w w' := by
  obtain ⟨N, hN⟩ : ∃ N, N = Que.wait gs s k := ⟨_, rfl⟩
  obtain ⟨r1, r2, r3, r4⟩ := Que.right_iff.1 hr
  have hsb := Que.sum_bd r4
  have hN1 : N ≤ 13200 := by
    have := (Que.wait_facts hk hk' _ gs s r4 r2 (Nat.le_refl _)).2.1
    rw [hN]; unfold Que.qlen at this; omega
  rw [← hN]
  have HN := Lib.hid hN
  have HR := Lib.hid hR
  have Hr := Lib.hid hr
  clear hN hR hr r4 hsb
  go_enter Try.func18, Try.ntmps18
  go_wp2_with fail
  refine (own_any gs s A c _ (by omega) (HR.out.below (by go_grown))).mono ?_
  rintro e w1 ⟨A1, c1, rfl, hown, hb1, hcap, -⟩
  have hz1 := hb1.size
  simp at hz1
  have hB1 : Below w.heap.size w w1 := thru (by go_grown) hb1 (by first | omega | (simp; done) | (simp; omega))
  have HO1 := Lib.hid hown
  clear hown hcap
  go_wp2_with fail
  go_loopg [6] (Que.qlen gs s).toNat (fun m v wr => Waits w w1.heap.size k N m v wr)
  case atStart =>
    refine ⟨gs, s, 0, A1, c1, rfl, by omega, by rw [HN.out]; omega, Hr.out, rfl, by simp, by simp, fun i => frozen_new _ _ _ i, by simp, HO1.out.rd.below (by go_grown), HO1.out.rd.off (Nat.le_refl _), by go_grown⟩
  case round =>
    obtain ⟨xs, t, n, A', c', rfl, hn, hsum, hr', hm, c0, c1, f0, hg, hR', hO', hB⟩ := hrel
    obtain ⟨r1', r2', r3', r4'⟩ := Que.right_iff.1 hr'
    have hw0 := (Que.wait_facts hk hk' _ xs t r4' r2' (Nat.le_refl _)).1
    have hn1 : n ≤ 13200 := by omega
    by_cases hq : 0 < Que.qlen xs t
    · obtain ⟨⟨ys, u, b⟩, hs⟩ : ∃ z, z = Que.seat xs t k := ⟨_, rfl⟩
      have hst := Lib.hid (seat_step hr' hk hk' hq hs)
      have HS := Lib.hid hs
      have HSUM := Lib.hid hsum
      have HM := Lib.hid hm
      have HR1 := Lib.hid hr'
      have HRD := Lib.hid hR'
      have HO := Lib.hid hO'
      have HF := Lib.hid f0
      clear hs hsum hm hr' hR' hO' r4' hw0
      go_wp2_with fail
      refine (rlength_any xs t A' c' wr HRD.out HR1.out).mono ?_
      rintro e w2 ⟨rfl, rfl⟩
      go_wp2_with fail
      refine (rseat_any xs t k A' c' _ HR1.out hk hk' (HRD.out.below (by go_grown))).mono ?_
      rintro e w3 hpost
      obtain ⟨A3, c3, rfl, hown, hb3⟩ := hpost.unpack HS.out
      clear hpost
      have HW := Lib.hid hown
      clear hown
      obtain ⟨hc3, hf3⟩ := bcell hb3
      have hz := hb3.size
      simp at hz
      have z1 : w1.heap.size < w3.heap.size := by omega
      have z2 : w1.heap.size < wr.heap.size + 1 := by omega
      have g0 := HF.out 0
      have g1 := HF.out 1
      have HHF := Lib.hid hf3
      go_wp2
      obtain ⟨s1, s2, s3⟩ := hst.out
      have hB3 : Below w.heap.size w w3 := thru (by go_grown) hb3 (by first | omega | (simp; omega))
      go_roundg (Que.qlen ys u).toNat
      case measure => rw [← HM.out]; exact s2
      case rel =>
        refine ⟨ys, u, n + 1, A3, c3, by go_num, by omega, by rw [← HSUM.out, s3]; omega, s1, rfl, ?_, ?_, fun i => ?_, ?_, ?_, ?_, ?_⟩
        · simp [cell_set_self, hc3, z2, hg, c0, World.cell?_alloc_lt, World.cell?_setCell_other]
        · simp [cell_set_self, hc3, z2, hg, c1, World.cell?_alloc_lt, World.cell?_setCell_other]
        · rw [World.frozen?_setCell, World.frozen?_setCell, HHF.out _ _ (by simpa using z2), frozen?_alloc_cells]; exact HF.out i
        · simpa using z1
        · exact (HW.out.rd.setOff (HW.out.off (by simpa using z2)) _).setOff (HW.out.off (by simpa using z2)) _
        · exact HW.out.off (by simpa using z2)
        · exact (hB3.setCell (by simp; omega) _).setCell (by simp; omega) _
    · have hwz := Que.wait_zero (k := k) hq
      rw [hwz] at hsum
      have HSUM := Lib.hid hsum
      have HM := Lib.hid hm
      have HR1 := Lib.hid hr'
      have HRD := Lib.hid hR'
      clear hsum hm hr' hR' r4' hw0 hwz
      go_wp2_with fail
      refine (rlength_any xs t A' c' wr HRD.out HR1.out).mono ?_
      rintro e w2 ⟨rfl, rfl⟩
      go_wp2
      go_ret2
      have hnN : n = N := by have := HSUM.out; omega
      exact ⟨by rw [hnN]; rfl, by go_grown⟩
end Go.Proofs.Ythabkfmbdkgghaa
