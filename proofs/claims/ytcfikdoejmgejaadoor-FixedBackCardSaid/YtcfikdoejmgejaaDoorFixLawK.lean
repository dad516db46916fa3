/-
  The walk of the law on what comes back, and on the exact ratio.
-/
import Derived.Test.YtcfikdoejmgejaaDoorFixAlive
import Derived.Test.YtcfikdoejmgejaaDoorTextWalkD
import Derived.Test.YtcfikdoejmgejaaDoorBackFacts
import Derived.Test.YtcfikdoejmgejaaDoorProdWalk
namespace Go.Proofs.YtcfikdoejmgejaaDoor
open Go.RowKit

set_option maxHeartbeats 8000000 in
theorem lawBack (x a b c : Int) (w : World) (h1 : -9223372036854775808 ≤ x) (h2 : x ≤ 9223372036854775807) (hE : Env w) :
    Calls Tryd.prog 11 #[.int .i64 x, .agg #[.int .i64 a, .int .i64 b, .int .i64 c]] w fun e w' => e = .returned (.bool true) ∧ Below w.heap.size w w' := by
  have hP : (x < -9999999999999 ∧ parseE (printL x) = (0, 3)) ∨ (9999999999999 < x ∧ parseE (printL x) = (0, 3)) ∨ (-9999999999999 ≤ x ∧ x ≤ 9999999999999 ∧ parseE (printL x) = (x, 0)) := by
    rw [parse_print]
    by_cases g1 : x < -9999999999999
    · exact .inl ⟨g1, if_neg (by omega)⟩
    · by_cases g2 : 9999999999999 < x
      · exact .inr (.inl ⟨g2, if_neg (by omega)⟩)
      · exact .inr (.inr ⟨by omega, by omega, if_pos ⟨by omega, by omega⟩⟩)
  have HL := Lib.hid (printL_len x h1 h2)
  have HP := Lib.hid hP
  have HR := Lib.hid (ratio_facts a b c)
  have HE := Lib.hid hE
  have H1 := Lib.hid h1
  have H2 := Lib.hid h2
  clear hE h1 h2 hP
  have bx1 : (x == x) = true := by simp
  have bx2 : (x != x) = false := by simp
  go_enter Tryd.func11, Tryd.ntmps11
  go_wp2_with fail
  refine (alive_any _ (HE.out.below (by go_grown))).mono ?_
  rintro e w1 ⟨rfl, hb1⟩
  have E1 := Lib.hid ((HE.out.below (by go_grown)).below hb1)
  have hk1 := fun j => hb1.cell (p := ⟨w.heap.size, j, none⟩) (by simp)
  have hz1 : w.heap.size < w1.heap.size := Nat.lt_of_lt_of_le (by simp) hb1.size
  obtain ⟨hc1, hf1⟩ := bcell hb1; have z1 := hb1.size; (try simp at z1); have g1 : Below w.heap.size w w1 := thru (by go_grown) hb1 (by first | omega | (simp; done) | (simp; omega)); (try have s1 : w.heap.size < w1.heap.size := by omega); (try have t1_a1 : w.heap.size < w1.heap.size + 1 := by omega); (try have t1_a2 : w.heap.size < w1.heap.size + 1 + 1 := by omega)
  go_wp2_with fail
  refine (print_any x _ H1.out H2.out E1.out).mono ?_
  rintro e w2 ⟨t, rfl, ht, hb2⟩
  have HT := Lib.hid ht
  clear ht
  have E2 := Lib.hid (E1.out.below hb2)
  obtain ⟨hc2, hf2⟩ := bcell hb2; have z2 := hb2.size; (try simp at z2); have g2 : Below w.heap.size w w2 := thru (by go_grown) hb2 (by first | omega | (simp; done) | (simp; omega)); (try have s2 : w.heap.size < w2.heap.size := by omega); (try have t2_a1 : w.heap.size < w2.heap.size + 1 := by omega); (try have t1_2_a1 : w1.heap.size < w2.heap.size + 1 := by omega); (try have t2_a2 : w.heap.size < w2.heap.size + 1 + 1 := by omega); (try have t1_2_a2 : w1.heap.size < w2.heap.size + 1 + 1 := by omega); (try have s1_2 : w1.heap.size < w2.heap.size := by omega)
  go_wp2_with fail
  refine (parse_any t _ (by rw [StrP.size HT.out]; exact HL.out) E2.out).mono ?_
  rw [HT.out]
  rintro e w3 ⟨he, hb3⟩
  have hz2 : w.heap.size < w2.heap.size := Nat.lt_of_lt_of_le hz1 hb2.size
  have ka : w3.cell? ⟨w.heap.size, 0, none⟩ = some (.int .i64 a) := by rw [hb3.cell hz2, hb2.cell hz1, hk1]; simp [go_sem]
  have kb : w3.cell? ⟨w.heap.size, 1, none⟩ = some (.int .i64 b) := by rw [hb3.cell hz2, hb2.cell hz1, hk1]; simp [go_sem]
  have kc : w3.cell? ⟨w.heap.size, 2, none⟩ = some (.int .i64 c) := by rw [hb3.cell hz2, hb2.cell hz1, hk1]; simp [go_sem]
  clear hk1 hz1 hz2
  obtain ⟨hc3, hf3⟩ := bcell hb3; have z3 := hb3.size; (try simp at z3); have g3 : Below w.heap.size w w3 := thru (by go_grown) hb3 (by first | omega | (simp; done) | (simp; omega)); (try have s3 : w.heap.size < w3.heap.size := by omega); (try have t3_a1 : w.heap.size < w3.heap.size + 1 := by omega); (try have t1_3_a1 : w1.heap.size < w3.heap.size + 1 := by omega); (try have t2_3_a1 : w2.heap.size < w3.heap.size + 1 := by omega); (try have t3_a2 : w.heap.size < w3.heap.size + 1 + 1 := by omega); (try have t1_3_a2 : w1.heap.size < w3.heap.size + 1 + 1 := by omega); (try have t2_3_a2 : w2.heap.size < w3.heap.size + 1 + 1 := by omega); (try have s1_3 : w1.heap.size < w3.heap.size := by omega); (try have s2_3 : w2.heap.size < w3.heap.size := by omega)
  rcases HP.out with ⟨p1, p2⟩ | ⟨p1, p2⟩ | ⟨p1, p2, p3⟩
  all_goals
    first | rw [p2] at he | rw [p3] at he
    subst he
    first | clear p3 | clear p2
    clear HP HL HT E1 E2 H1 H2
    go_wp2_with fail
    go_quiet (fail)
    go_wp2_with fail
    refine (ratio_any a b c _).mono ?_
    rintro e w4 ⟨he, hb4⟩
    have gA : Below w.heap.size w w4 := thru (W := w3) g3 ((Joins.below_draws w3.heap.size w3 _).trans (show Below w3.heap.size _ _ from hb4)) (by have := g3.size; omega)
    clear ka kb kc
    rcases HR.out with hr | hr | ⟨m, k, y, q, ea, eb, ec, hr, hm, hk, hy, hy1, hq, S, D, M, T, hB⟩
    · rw [hr] at he; subst he; clear hr HR
      go_wp2
      go_ret
      exact ⟨rfl, gA⟩
    · rw [hr] at he; subst he; clear hr HR
      go_wp2
      go_ret
      exact ⟨rfl, gA⟩
    · rw [hr] at he; subst he; clear hr HR
      subst ea eb ec
      have HB := Lib.hid hB
      have HM := Lib.hid fun W => product_any m k W hm hk
      have HQ := Lib.hid fun W => product_any q y W hq hy
      clear hB
      generalize ((m * k / 1125899906842624 : Nat) : Int) = hi at *
      generalize ((m * k % 1125899906842624 : Nat) : Int) = lo at *
      generalize ((q * y / 1125899906842624 : Nat) : Int) = low at *
      generalize ((q * y % 1125899906842624 : Nat) : Int) = lowest at *
      have im : (0 : Int) ≤ m ∧ (m : Int) ≤ 1125899906842624 := by omega
      have ik : (0 : Int) ≤ k ∧ (k : Int) ≤ 1125899906842624 := by omega
      have iy : (1 : Int) ≤ y ∧ (y : Int) ≤ 1125899906842624 := by omega
      have iq : (0 : Int) ≤ q ∧ (q : Int) ≤ 1125899906842624 := by omega
      clear hm hk hy hy1 hq
      generalize (m : Int) = m at *
      generalize (k : Int) = k at *
      generalize (y : Int) = y at *
      generalize (q : Int) = q at *
      obtain ⟨im0, im1⟩ := im
      obtain ⟨ik0, ik1⟩ := ik
      obtain ⟨iy0, iy1⟩ := iy
      obtain ⟨iq0, iq1⟩ := iq
      go_wp2_with fail
      refine (HM.out _).mono ?_
      rintro e w5 ⟨rfl, rfl⟩
      go_wp2_with fail
      refine (HQ.out _).mono ?_
      rintro e w5 ⟨rfl, rfl⟩
      clear HM HQ im0 im1 ik0 ik1 iy0 iy1 iq0 iq1 p1 bx1 bx2
      obtain ⟨b1, b2, b3, b4, b5, b6⟩ := HB.out
      clear HB
      rcases b6 with ⟨f1, f2, f3 | ⟨f3, f4⟩⟩ | ⟨f1, f2, ⟨f3, f4⟩ | ⟨f3, f4⟩⟩
      · have g1 : (hi == low) = false := by simp; omega
        have g2 : (hi != low) = true := by simp; omega
        go_wp2
        go_ret
        exact ⟨rfl, gA⟩
      · have g1 : (hi == low) = false := by simp; omega
        have g2 : (hi != low) = true := by simp; omega
        have g3 : (hi == T) = true := by simp; omega
        have g4 : (hi != T) = false := by simp; omega
        go_wp2
        go_ret
        exact ⟨rfl, gA⟩
      · have g1 : (hi == low) = true := by simp; omega
        have g2 : (hi != low) = false := by simp; omega
        go_wp2
        go_ret
        exact ⟨rfl, gA⟩
      · have g1 : (hi == low) = true := by simp; omega
        have g2 : (hi != low) = false := by simp; omega
        go_wp2
        go_ret
        exact ⟨rfl, gA⟩
end Go.Proofs.YtcfikdoejmgejaaDoor
