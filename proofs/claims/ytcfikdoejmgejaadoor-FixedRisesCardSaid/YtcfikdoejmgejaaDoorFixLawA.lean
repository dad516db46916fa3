/-
  The walks of the laws on sums, quotients, multiples and values of functions.
-/
import Derived.Test.YtcfikdoejmgejaaDoorFixAlive
namespace Go.Proofs.YtcfikdoejmgejaaDoor
open Go.RowKit

set_option maxHeartbeats 1000000 in
theorem lawAdds (a b : Int) (w : World) (hE : Env w) :
    Calls Tryd.prog 3 #[.int .i64 a, .int .i64 b] w fun e w' => e = .returned (.bool true) ∧ Below w.heap.size w w' := by
  obtain ⟨x, hx⟩ : ∃ x, addE a b = x := ⟨_, rfl⟩
  have HX := Lib.hid hx
  have HE := Lib.hid hE
  clear hx hE
  go_enter Tryd.func3, Tryd.ntmps3
  go_wp2_with fail
  refine (alive_any _ HE.out).mono ?_
  rintro e w1 ⟨rfl, hb1⟩
  obtain ⟨hc1, hf1⟩ := bcell hb1; have z1 := hb1.size; (try simp at z1); have g1 : Below w.heap.size w w1 := thru (by go_grown) hb1 (by first | omega | (simp; done) | (simp; omega)); (try have s1 : w.heap.size < w1.heap.size := by omega); (try have t1_a1 : w.heap.size < w1.heap.size + 1 := by omega); (try have t1_a2 : w.heap.size < w1.heap.size + 1 + 1 := by omega)
  go_wp2_with fail
  refine (add_any a b _).mono ?_
  rw [HX.out]
  rintro e w2 ⟨rfl, rfl⟩
  go_wp2_with fail
  refine (radd_any a b _).mono ?_
  rw [HX.out]
  rintro e w2 ⟨rfl, rfl⟩
  go_wp2
  go_ret
  exact ⟨rfl, by go_grown⟩
set_option maxHeartbeats 1000000 in
theorem lawDivs (a b : Int) (w : World) (hE : Env w) :
    Calls Tryd.prog 5 #[.int .i64 a, .int .i64 b] w fun e w' => e = .returned (.bool true) ∧ Below w.heap.size w w' := by
  obtain ⟨x, hx⟩ : ∃ x, divE a b = x := ⟨_, rfl⟩
  have HX := Lib.hid hx
  have HE := Lib.hid hE
  clear hx hE
  go_enter Tryd.func5, Tryd.ntmps5
  go_wp2_with fail
  refine (alive_any _ HE.out).mono ?_
  rintro e w1 ⟨rfl, hb1⟩
  obtain ⟨hc1, hf1⟩ := bcell hb1; have z1 := hb1.size; (try simp at z1); have g1 : Below w.heap.size w w1 := thru (by go_grown) hb1 (by first | omega | (simp; done) | (simp; omega)); (try have s1 : w.heap.size < w1.heap.size := by omega); (try have t1_a1 : w.heap.size < w1.heap.size + 1 := by omega); (try have t1_a2 : w.heap.size < w1.heap.size + 1 + 1 := by omega)
  go_wp2_with fail
  refine (div_any a b _).mono ?_
  rw [HX.out]
  rintro e w2 ⟨rfl, rfl⟩
  go_wp2_with fail
  refine (rdiv_any a b _).mono ?_
  rw [HX.out]
  rintro e w2 ⟨rfl, rfl⟩
  go_wp2
  go_ret
  exact ⟨rfl, by go_grown⟩
set_option maxHeartbeats 1000000 in
theorem lawRounds (x s : Int) (w : World) (hE : Env w) :
    Calls Tryd.prog 7 #[.int .i64 x, .int .i64 s] w fun e w' => e = .returned (.bool true) ∧ Below w.heap.size w w' := by
  have HE := Lib.hid hE
  clear hE
  by_cases hr : InR x ∧ 1 ≤ s ∧ s ≤ 1000000000
  · obtain ⟨n, hn⟩ : ∃ n, n = (2 * x + s) / (2 * s) * s := ⟨_, rfl⟩
    have HN : Hid (rndE x s = (n, 0)) := Lib.hid (by rw [hn]; exact if_pos hr)
    obtain ⟨⟨x1, x2⟩, s1, s2⟩ := hr
    have h := Int.emod_add_mul_ediv (2 * x + s) (2 * s)
    have a1 := Int.emod_nonneg (2 * x + s) (show 2 * s ≠ 0 by omega)
    have a2 := Int.emod_lt_of_pos (2 * x + s) (show 0 < 2 * s by omega)
    rw [Int.mul_assoc, Int.mul_comm s, ← hn] at h
    have c1 : 2 * (n - x) ≤ s := by omega
    have c2 : 2 * (x - n) < s := by omega
    have c3 : n.tmod s = 0 := by rw [hn]; exact Int.mul_tmod_left _ _
    have c4 : n % s = 0 := by rw [hn]; exact Int.mul_emod_left _ _
    have c5 : (s == 0) = false := by rw [beq_eq_false_iff_ne]; omega
    have n1 : -2000000000000000 ≤ n := by omega
    have n2 : n ≤ 2000000000000000 := by omega
    clear hn h a1 a2
    go_enter Tryd.func7, Tryd.ntmps7
    go_wp2_with fail
    refine (alive_any _ HE.out).mono ?_
    rintro e w1 ⟨rfl, hb1⟩
    obtain ⟨hc1, hf1⟩ := bcell hb1; have z1 := hb1.size; (try simp at z1); have g1 : Below w.heap.size w w1 := thru (by go_grown) hb1 (by first | omega | (simp; done) | (simp; omega)); (try have s1 : w.heap.size < w1.heap.size := by omega); (try have t1_a1 : w.heap.size < w1.heap.size + 1 := by omega); (try have t1_a2 : w.heap.size < w1.heap.size + 1 + 1 := by omega)
    go_wp2_with fail
    refine (round_any x s _).mono ?_
    rw [HN.out]
    rintro e w2 ⟨rfl, rfl⟩
    go_wp2_with fail
    refine (rround_any x s _).mono ?_
    rw [HN.out]
    rintro e w2 ⟨rfl, rfl⟩
    go_wp2
    go_ret
    exact ⟨rfl, by go_grown⟩
  · have HN : Hid (rndE x s = (0, 1)) := Lib.hid (if_neg hr)
    clear hr
    go_enter Tryd.func7, Tryd.ntmps7
    go_wp2_with fail
    refine (alive_any _ HE.out).mono ?_
    rintro e w1 ⟨rfl, hb1⟩
    obtain ⟨hc1, hf1⟩ := bcell hb1; have z1 := hb1.size; (try simp at z1); have g1 : Below w.heap.size w w1 := thru (by go_grown) hb1 (by first | omega | (simp; done) | (simp; omega)); (try have s1 : w.heap.size < w1.heap.size := by omega); (try have t1_a1 : w.heap.size < w1.heap.size + 1 := by omega); (try have t1_a2 : w.heap.size < w1.heap.size + 1 + 1 := by omega)
    go_wp2_with fail
    refine (round_any x s _).mono ?_
    rw [HN.out]
    rintro e w2 ⟨rfl, rfl⟩
    go_wp2_with fail
    refine (rround_any x s _).mono ?_
    rw [HN.out]
    rintro e w2 ⟨rfl, rfl⟩
    go_wp2
    go_ret
    exact ⟨rfl, by go_grown⟩

set_option maxHeartbeats 1000000 in
theorem lawAts (ps : List (Int × Int)) (x : Int) (A : Option Addr) (c : Nat) (w : World) (hR : RdP w A ps) (hE : Env w) :
    Calls Tryd.prog 8 #[.slice A ps.length c, .int .i64 x] w fun e w' => e = .returned (.bool true) ∧ Below w.heap.size w w' := by
  have HE := Lib.hid hE
  have HR := Lib.hid hR
  clear hE hR
  by_cases hl : 100 < ps.length
  · go_enter Tryd.func8, Tryd.ntmps8
    go_wp2_with fail
    refine (alive_any _ HE.out).mono ?_
    rintro e w1 ⟨rfl, hb1⟩
    obtain ⟨hc1, hf1⟩ := bcell hb1; have z1 := hb1.size; (try simp at z1); have g1 : Below w.heap.size w w1 := thru (by go_grown) hb1 (by first | omega | (simp; done) | (simp; omega)); (try have s1 : w.heap.size < w1.heap.size := by omega); (try have t1_a1 : w.heap.size < w1.heap.size + 1 := by omega); (try have t1_a2 : w.heap.size < w1.heap.size + 1 + 1 := by omega)
    go_wp2
    go_ret
    exact ⟨rfl, by go_grown⟩
  · cases hp : Fix.pts ps
    · have HP := Lib.hid hp
      clear hp
      go_enter Tryd.func8, Tryd.ntmps8
      go_wp2_with fail
      refine (alive_any _ HE.out).mono ?_
      rintro e w1 ⟨rfl, hb1⟩
      have R1 := Lib.hid (HR.out.below hb1)
      obtain ⟨hc1, hf1⟩ := bcell hb1; have z1 := hb1.size; (try simp at z1); have g1 : Below w.heap.size w w1 := thru (by go_grown) hb1 (by first | omega | (simp; done) | (simp; omega)); (try have s1 : w.heap.size < w1.heap.size := by omega); (try have t1_a1 : w.heap.size < w1.heap.size + 1 := by omega); (try have t1_a2 : w.heap.size < w1.heap.size + 1 + 1 := by omega)
      go_wp2_with fail
      refine (fat_no ps x A c _ R1.out HP.out).mono ?_
      rintro e w2 ⟨rfl, hb2⟩
      have R2 := Lib.hid (R1.out.below hb2)
      obtain ⟨hc2, hf2⟩ := bcell hb2; have z2 := hb2.size; (try simp at z2); have g2 : Below w.heap.size w w2 := thru (by go_grown) hb2 (by first | omega | (simp; done) | (simp; omega)); (try have s2 : w.heap.size < w2.heap.size := by omega); (try have t2_a1 : w.heap.size < w2.heap.size + 1 := by omega); (try have t1_2_a1 : w1.heap.size < w2.heap.size + 1 := by omega); (try have t2_a2 : w.heap.size < w2.heap.size + 1 + 1 := by omega); (try have t1_2_a2 : w1.heap.size < w2.heap.size + 1 + 1 := by omega); (try have s1_2 : w1.heap.size < w2.heap.size := by omega)
      go_wp2_with fail
      refine (rat_no ps x A c _ R2.out HP.out).mono ?_
      rintro e w3 ⟨rfl, hb3⟩
      obtain ⟨hc3, hf3⟩ := bcell hb3; have z3 := hb3.size; (try simp at z3); have g3 : Below w.heap.size w w3 := thru (by go_grown) hb3 (by first | omega | (simp; done) | (simp; omega)); (try have s3 : w.heap.size < w3.heap.size := by omega); (try have t3_a1 : w.heap.size < w3.heap.size + 1 := by omega); (try have t1_3_a1 : w1.heap.size < w3.heap.size + 1 := by omega); (try have t2_3_a1 : w2.heap.size < w3.heap.size + 1 := by omega); (try have t3_a2 : w.heap.size < w3.heap.size + 1 + 1 := by omega); (try have t1_3_a2 : w1.heap.size < w3.heap.size + 1 + 1 := by omega); (try have t2_3_a2 : w2.heap.size < w3.heap.size + 1 + 1 := by omega); (try have s1_3 : w1.heap.size < w3.heap.size := by omega); (try have s2_3 : w2.heap.size < w3.heap.size := by omega)
      go_wp2
      go_ret
      exact ⟨rfl, by go_grown⟩
    · have HP := Lib.hid hp
      clear hp
      go_enter Tryd.func8, Tryd.ntmps8
      go_wp2_with fail
      refine (alive_any _ HE.out).mono ?_
      rintro e w1 ⟨rfl, hb1⟩
      have R1 := Lib.hid (HR.out.below hb1)
      obtain ⟨hc1, hf1⟩ := bcell hb1; have z1 := hb1.size; (try simp at z1); have g1 : Below w.heap.size w w1 := thru (by go_grown) hb1 (by first | omega | (simp; done) | (simp; omega)); (try have s1 : w.heap.size < w1.heap.size := by omega); (try have t1_a1 : w.heap.size < w1.heap.size + 1 := by omega); (try have t1_a2 : w.heap.size < w1.heap.size + 1 + 1 := by omega)
      go_wp2_with fail
      refine (fat_yes ps x A c _ R1.out HP.out).mono ?_
      rintro e w2 ⟨rfl, hb2⟩
      have R2 := Lib.hid (R1.out.below hb2)
      obtain ⟨hc2, hf2⟩ := bcell hb2; have z2 := hb2.size; (try simp at z2); have g2 : Below w.heap.size w w2 := thru (by go_grown) hb2 (by first | omega | (simp; done) | (simp; omega)); (try have s2 : w.heap.size < w2.heap.size := by omega); (try have t2_a1 : w.heap.size < w2.heap.size + 1 := by omega); (try have t1_2_a1 : w1.heap.size < w2.heap.size + 1 := by omega); (try have t2_a2 : w.heap.size < w2.heap.size + 1 + 1 := by omega); (try have t1_2_a2 : w1.heap.size < w2.heap.size + 1 + 1 := by omega); (try have s1_2 : w1.heap.size < w2.heap.size := by omega)
      go_wp2_with fail
      refine (rat_yes ps x A c _ R2.out HP.out).mono ?_
      rintro e w3 ⟨rfl, hb3⟩
      obtain ⟨hc3, hf3⟩ := bcell hb3; have z3 := hb3.size; (try simp at z3); have g3 : Below w.heap.size w w3 := thru (by go_grown) hb3 (by first | omega | (simp; done) | (simp; omega)); (try have s3 : w.heap.size < w3.heap.size := by omega); (try have t3_a1 : w.heap.size < w3.heap.size + 1 := by omega); (try have t1_3_a1 : w1.heap.size < w3.heap.size + 1 := by omega); (try have t2_3_a1 : w2.heap.size < w3.heap.size + 1 := by omega); (try have t3_a2 : w.heap.size < w3.heap.size + 1 + 1 := by omega); (try have t1_3_a2 : w1.heap.size < w3.heap.size + 1 + 1 := by omega); (try have t2_3_a2 : w2.heap.size < w3.heap.size + 1 + 1 := by omega); (try have s1_3 : w1.heap.size < w3.heap.size := by omega); (try have s2_3 : w2.heap.size < w3.heap.size := by omega)
      go_wp2
      go_ret
      exact ⟨rfl, by go_grown⟩
end Go.Proofs.YtcfikdoejmgejaaDoor
