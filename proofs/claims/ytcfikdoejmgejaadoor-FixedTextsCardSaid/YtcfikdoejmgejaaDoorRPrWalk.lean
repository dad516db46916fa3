/-
  The walk of the reference's notation of a number.
-/
import Derived.Test.YtcfikdoejmgejaaDoorPrPlain
namespace Go.Proofs.YtcfikdoejmgejaaDoor
open Go.RowKit

theorem digit_at : ∀ d, d < 10 → ((⟨#[48, 49, 50, 51, 52, 53, 54, 55, 56, 57]⟩ : ByteArray).extract d (d + 1)).data.toList = [dch d] := by decide
theorem rdigit_any (d : Nat) (w : World) (h : d < 10) : Calls Tryd.prog 50 #[.int .i64 (d : Int)] w fun e w' => ∃ t : ByteArray, e = .returned (.string t) ∧ t.data.toList = [dch d] ∧ w = w' := by
  have h2 : (d : Int) < 10 := by omega
  have H := Lib.hid (digit_at d h)
  go_enter Tryd.func50, Tryd.ntmps50
  go_wp2
  go_ret
  exact ⟨_, rfl, H.out, rfl⟩
def PrN (x n : Int) (v : Nat) : Prop := n.natAbs = v ∧ -9223372036854775808 ≤ n ∧ n ≤ 9223372036854775807 ∧ (x < 0 → n ≤ 0) ∧ (0 ≤ x → 0 ≤ n)
theorem pr_step {x n : Int} {v : Nat} (h : PrN x n v) : ∃ dd n2 : Int, n.tmod 10 = dd ∧ n.tdiv 10 = n2 ∧ IntKind.i64.wrap n2 = n2 ∧ IntKind.i64.wrap dd = dd ∧ IntKind.i64.wrap (-dd) = -dd ∧ max dd (-dd) = ((v % 10 : Nat) : Int) ∧ PrN x n2 (v / 10) := by
  obtain ⟨h1, h2, h3, h4, h5⟩ := h
  rcases Int.le_total 0 n with h0 | h0
  · have e1 : n.tmod 10 = n % 10 := Int.tmod_eq_emod_of_nonneg h0
    have e2 : n.tdiv 10 = n / 10 := Int.tdiv_eq_ediv_of_nonneg h0
    refine ⟨_, _, e1, e2, IntWalk.i64_in _ (by omega), IntWalk.i64_in _ (by omega), IntWalk.i64_in _ (by omega), by omega, ?_⟩
    exact ⟨by omega, by omega, by omega, by omega, by omega⟩
  · have e1 : n.tmod 10 = -(-n % 10) := by
      rw [← Int.tmod_eq_emod_of_nonneg (show 0 ≤ -n by omega), Int.neg_tmod, Int.neg_neg]
    have e2 : n.tdiv 10 = -(-n / 10) := by
      rw [← Int.tdiv_eq_ediv_of_nonneg (show 0 ≤ -n by omega), Int.neg_tdiv, Int.neg_neg]
    refine ⟨_, _, e1, e2, IntWalk.i64_in _ (by omega), IntWalk.i64_in _ (by omega), IntWalk.i64_in _ (by omega), by omega, ?_⟩
    exact ⟨by omega, by omega, by omega, by omega, by omega⟩
set_option maxHeartbeats 2000000 in
theorem rprint_any (x : Int) (w : World) (h1 : -9223372036854775808 ≤ x) (h2 : x ≤ 9223372036854775807) :
    Calls Tryd.prog 28 #[.int .i64 x] w (StrP (printL x) w) := by
  have HU : Hid (x.natAbs ≤ 9223372036854775808) := Lib.hid (by omega)
  have HN : Hid (PrN x x x.natAbs) := Lib.hid ⟨rfl, h1, h2, by omega, by omega⟩
  have HPL : Hid (printL x = (if x < 0 then [45] else []) ++ (Lib.decDigits (x.natAbs / 1000) ++ (46 :: pad3 (x.natAbs % 1000)))) := Lib.hid rfl
  clear h1 h2
  generalize x.natAbs = u at *
  go_enter Tryd.func28, Tryd.ntmps28
  go_wp2_with fail
  go_loop [3, 4, 5] (fun s3 s4 s5 => ∃ (i v : Nat) (n : Int) (t : ByteArray), s3 = .string t ∧ s4 = .int .i64 n ∧ s5 = .int .i64 (i : Int) ∧ PrN x n v ∧ PrI u i v t.data.toList) (fun _ s4 s5 => (intOf s4).natAbs + (4 - (intOf s5).toNat))
  case atStart => exact ⟨0, u, x, ⟨#[]⟩, rfl, rfl, rfl, HN.out, pr_start u⟩
  case round =>
    obtain ⟨i, v, n, t, rfl, rfl, rfl, hn, hI⟩ := hrel
    have HI := Lib.hid hI
    have hts : t.size ≤ 30 := by have e1 := hI.2.2.2.1; have e2 := hI.1; simp at e1; omega
    have hi : i ≤ 20 := hI.1
    obtain ⟨dd, n2, f1, f2, f3, f4, f5, f6, hn2⟩ := pr_step hn
    have HN1 := Lib.hid hn
    have HN2 := Lib.hid hn2
    obtain ⟨D, hD⟩ : ∃ D, D = v % 10 := ⟨_, rfl⟩
    rw [← hD] at f6
    have HDV := Lib.hid hD
    have HD := Lib.hid fun W => rdigit_any D W (by rw [hD]; exact Nat.mod_lt _ (by decide))
    clear hn hn2 hI hD
    by_cases hgo : i < 4 ∨ v ≠ 0
    · have HR := Lib.hid (pr_round HI.out HU.out hgo)
      have HM : Hid (n2.natAbs + (4 - (i + 1)) < n.natAbs + (4 - i)) := Lib.hid (by
        have e1 := HN1.out.1; have e2 := HN2.out.1; omega)
      have hc : (i : Int) < 4 ∨ ((4 : Int) ≤ (i : Int) ∧ (n == 0) = false ∧ (n != 0) = true) := by
        have := HN1.out.1
        by_cases h4 : i < 4
        · exact .inl (by omega)
        · exact .inr ⟨by omega, by rw [beq_eq_false_iff_ne]; omega, by rw [bne_iff_ne]; omega⟩
      have hc3 : i = 3 ∨ (i ≠ 3 ∧ ((i : Int) == 3) = false) := by
        by_cases h3 : i = 3
        · exact .inl h3
        · exact .inr ⟨h3, by rw [beq_eq_false_iff_ne]; omega⟩
      clear hgo
      rcases hc3 with rfl | ⟨h3, h3b⟩
      · clear hc
        go_wp2_with fail
        refine (HD.out _).mono ?_
        rintro e w1 ⟨t2, rfl, ht2, rfl⟩
        have ht2s : t2.size ≤ 1 := by rw [StrP.size ht2]; exact Nat.le_refl _
        have HT2 := Lib.hid ht2
        clear ht2
        go_wp2
        go_round
        case rel => exact ⟨4, v / 10, n2, _, rfl, rfl, rfl, HN2.out, by simp; rw [HT2.out, HDV.out]; exact HR.out⟩
        case measure => simp [intOf]; have := HM.out; omega
      · rcases hc with hc | ⟨hc1, hc2, hc4⟩
        all_goals
          go_wp2_with fail
          refine (HD.out _).mono ?_
          rintro e w1 ⟨t2, rfl, ht2, rfl⟩
          have ht2s : t2.size ≤ 1 := by rw [StrP.size ht2]; exact Nat.le_refl _
          have HT2 := Lib.hid ht2
          clear ht2
          go_wp2
          go_round
          case rel => exact ⟨i + 1, v / 10, n2, _, rfl, rfl, by go_num, HN2.out, by have := HR.out; rw [if_neg h3] at this; simp; rw [HT2.out, HDV.out]; exact this⟩
          case measure => simp [intOf]; have := HM.out; omega
    · have hc1 : (4 : Int) ≤ (i : Int) := by omega
      have hc2 : n = 0 := by have := HN1.out.1; omega
      have HE := Lib.hid (pr_end HI.out (by omega) (by omega))
      subst hc2
      clear hgo
      by_cases hx : x < 0
      · go_wp2
        go_ret
        exact ⟨_, rfl, by rw [HPL.out, if_pos hx]; simp; exact HE.out, Below.refl _ _⟩
      · have HX := Lib.hid hx
        have hx' : 0 ≤ x := by omega
        clear hx
        go_wp2
        go_ret
        exact ⟨_, rfl, by rw [HPL.out, if_neg (show ¬ x < 0 by omega)]; exact HE.out, Below.refl _ _⟩
end Go.Proofs.YtcfikdoejmgejaaDoor
