/-
  The walk of the reference's price.
-/
import Derived.Test.YtlhbpnealboagaaPriceWalkF
namespace Go.Proofs.Ytlhbpnealboagaa
open Go.RowKit

set_option maxHeartbeats 1000000 in
theorem rquote_any (l m s : Int) (dem ahe : List (Int × Int)) (A : Option Addr) (c : Nat) (A' : Option Addr) (c' : Nat) (base b a : Int) (w : World) (hR : RdP w A dem) (hR' : RdP w A' ahe) (hm : dem.length ≤ 100) (hm' : ahe.length ≤ 100) :
    Calls Try.prog 18 #[rv l m s A dem.length c A' ahe.length c', .int .i64 base, .int .i64 b, .int .i64 a] w fun e w' => e = .returned (.tuple #[.int .i64 (Pri.quote ⟨l, m, s, dem, ahe⟩ base b a).1, .int .i64 (Pri.quote ⟨l, m, s, dem, ahe⟩ base b a).2]) ∧ Below w.heap.size w w' := by
  have HR := Lib.hid hR
  have HR' := Lib.hid hR'
  clear hR hR'
  obtain ⟨F, hF⟩ : ∃ F, F = (Pri.factor ⟨l, m, s, dem, ahe⟩ b a).1 := ⟨_, rfl⟩
  obtain ⟨E, hE⟩ : ∃ E, E = (Pri.factor ⟨l, m, s, dem, ahe⟩ b a).2 := ⟨_, rfl⟩
  have HF := Lib.hid hF
  have HE := Lib.hid hE
  clear hF hE
  by_cases hz : E = 0
  · obtain rfl := hz
    obtain ⟨hk, hfv⟩ := factor_zero HE.out.symm
    have HK := Lib.hid hk
    have HFV := Lib.hid hfv
    clear hk hfv
    by_cases hq : base < 0 ∨ 100000000 < base
    · rw [quote_rng HE.out.symm hq]
      have q1 : ¬ (0 ≤ base ∧ base ≤ 100000000) := by omega
      have Q1 := Lib.hid q1
      clear hq q1
      go_enter Try.func18, Try.ntmps18
      go_wp2_with fail
      refine (rfactor_any l m s dem ahe A c A' c' b a _ (HR.out.below (by go_grown)) (HR'.out.below (by go_grown)) hm hm').mono ?_
      rw [← HF.out, ← HE.out]
      rintro e w1 ⟨rfl, hb1⟩
      obtain ⟨hc1, hf1⟩ := bcell hb1; have z1 := hb1.size; (try simp at z1); have g1 : Below w.heap.size w w1 := thru (by go_grown) hb1 (by first | omega | (simp; done) | (simp; omega)); (try have s1 : w.heap.size < w1.heap.size := by omega); (try have t1_a1 : w.heap.size < w1.heap.size + 1 := by omega); (try have t1_a2 : w.heap.size < w1.heap.size + 1 + 1 := by omega)
      go_wp2_with fail
      refine (in_no _ _ _ _ Q1.out).mono ?_
      rintro e w2 ⟨rfl, rfl⟩
      go_wp2
      go_ret2
      exact ⟨rfl, by go_grown⟩
    · rw [quote_ok HE.out.symm hq]
      have q1 : 0 ≤ base := by omega
      have q2 : base ≤ 100000000 := by omega
      clear hq
      obtain ⟨f1, f2⟩ := Pri.facv_bd HK.out b a
      rw [← HFV.out, ← HF.out] at f1 f2
      have hqv : Pri.qv ⟨l, m, s, dem, ahe⟩ base b a = Pri.clamp ⟨l, m, s, dem, ahe⟩ (Pri.rnd (Pri.mulr base F) s) := by
        unfold Pri.qv; rw [← HFV.out, ← HF.out]
      have HQV := Lib.hid hqv
      have hl0 : 0 ≤ l := HK.out.l0
      have hlm : l ≤ m := HK.out.lm
      have hm1 : m ≤ 100000000 := HK.out.m1
      have hs1 : 1 ≤ s := HK.out.s1
      have hs2 : s ≤ 100000 := HK.out.s2
      clear hqv
      have mb := Pri.mulr_bd q1 f1 q2 f2
      have mc : Pri.mulr 100000000 100000 = 10000000000 := by decide
      rw [mc] at mb
      obtain ⟨mb1, mb2⟩ := mb
      clear mc
      obtain ⟨base, rfl⟩ := Int.eq_ofNat_of_zero_le q1
      obtain ⟨F, rfl⟩ := Int.eq_ofNat_of_zero_le f1
      rw [mulr_nat] at mb1 mb2
      have hb00 : (0 : Int) ≤ (base : Int) := by omega
      have hb01 : (base : Int) ≤ 100000000 := by omega
      generalize hp : base * F = p at *
      have HP := Lib.hid hp
      clear hp
      obtain ⟨v, hv⟩ : ∃ v, v = Pri.rnd (((p + 500) / 1000 : Nat) : Int) s := ⟨_, rfl⟩
      have HV := Lib.hid hv
      clear hv
      have HC : Hid (∀ W : World, Calls Try.prog 34 #[.int .i64 (((p + 500) / 1000 : Nat) : Int), .int .i64 s] W fun e w' => e = .returned (.tuple #[.int .i64 v, .int .i64 0]) ∧ W = w') :=
        Lib.hid fun W => (rround_small _ s W mb1 mb2 hs1 hs2).mono fun e w' ⟨h1, h2⟩ => ⟨by rw [h1, HV.out]; rfl, h2⟩
      have HQ2 : Hid (Pri.qv ⟨l, m, s, dem, ahe⟩ (base : Int) b a = Pri.clamp ⟨l, m, s, dem, ahe⟩ v) := Lib.hid (by
        rw [HQV.out, mulr_nat, HP.out, HV.out])
      clear HQV
      go_enter Try.func18, Try.ntmps18
      go_wp2_with fail
      refine (rfactor_any l m s dem ahe A c A' c' b a _ (HR.out.below (by go_grown)) (HR'.out.below (by go_grown)) hm hm').mono ?_
      rw [← HF.out, ← HE.out]
      rintro e w1 ⟨rfl, hb1⟩
      obtain ⟨hc1, hf1⟩ := bcell hb1; have z1 := hb1.size; (try simp at z1); have g1 : Below w.heap.size w w1 := thru (by go_grown) hb1 (by first | omega | (simp; done) | (simp; omega)); (try have s1 : w.heap.size < w1.heap.size := by omega); (try have t1_a1 : w.heap.size < w1.heap.size + 1 := by omega); (try have t1_a2 : w.heap.size < w1.heap.size + 1 + 1 := by omega)
      go_wp2_with fail
      refine (in_yes _ _ _ _ hb00 hb01).mono ?_
      rintro e w2 ⟨rfl, rfl⟩
      go_wp2_with fail
      refine (rmul_small base F p _ (by omega) (by omega) HP.out).mono ?_
      rintro e w2 ⟨rfl, hb2⟩
      obtain ⟨hc2, hf2⟩ := bcell hb2; have z2 := hb2.size; (try simp at z2); have g2 : Below w.heap.size w w2 := thru (by go_grown) hb2 (by first | omega | (simp; done) | (simp; omega)); (try have s2 : w.heap.size < w2.heap.size := by omega); (try have t2_a1 : w.heap.size < w2.heap.size + 1 := by omega); (try have t1_2_a1 : w1.heap.size < w2.heap.size + 1 := by omega); (try have t2_a2 : w.heap.size < w2.heap.size + 1 + 1 := by omega); (try have t1_2_a2 : w1.heap.size < w2.heap.size + 1 + 1 := by omega); (try have s1_2 : w1.heap.size < w2.heap.size := by omega)
      go_wp2_with fail
      refine (HC.out _).mono ?_
      rintro e w3 ⟨rfl, rfl⟩
      by_cases c1 : v < l
      · have HCL := Lib.hid (clamp_lo (r := ⟨l, m, s, dem, ahe⟩) (n := v) c1)
        go_wp2_with fail
        refine (least_any l s _ hl0 (by omega) hs1 hs2).mono ?_
        rintro e w4 ⟨rfl, rfl⟩
        go_wp2
        go_ret2
        exact ⟨by rw [HQ2.out, HCL.out]; rfl, by ((repeat (first | refine below_drewN ?_ _ | refine below_drew ?_)); go_grown)⟩
      by_cases c2 : m < v
      · have HCL := Lib.hid (clamp_hi (r := ⟨l, m, s, dem, ahe⟩) (n := v) c1 c2)
        have hl := Pri.high_le (m := m) hs1
        unfold Pri.high at hl
        obtain ⟨l1, l2⟩ := hl
        have a1 : 0 ≤ m / s := Int.ediv_nonneg (by omega) (by omega)
        have a2 : m / s ≤ m := Int.ediv_le_self _ (by omega)
        have f3 : IntKind.i64.wrap (m / s) = m / s := IntWalk.i64_in _ (by omega)
        have f4 : IntKind.i64.wrap (m / s * s) = m / s * s := IntWalk.i64_in _ (by omega)
        have f5 : m.tdiv s = m / s := Int.tdiv_eq_ediv_of_nonneg (by omega)
        have f6 : (s == 0) = false := by simp; omega
        go_wp2
        go_quiet (fail)
        go_wp2
        go_ret2
        exact ⟨by rw [HQ2.out, HCL.out]; rfl, by ((repeat (first | refine below_drewN ?_ _ | refine below_drew ?_)); go_grown)⟩
      · have HCL := Lib.hid (clamp_mid (r := ⟨l, m, s, dem, ahe⟩) (n := v) c1 c2)
        go_wp2
        go_ret2
        exact ⟨by rw [HQ2.out, HCL.out]; rfl, by go_grown⟩
  · rw [quote_bad base (by rw [← HE.out]; exact hz), ← HE.out]
    have hz1 : (E == 0) = false := by simpa using hz
    have hz2 : (E != 0) = true := by simpa using hz
    go_enter Try.func18, Try.ntmps18
    go_wp2_with fail
    refine (rfactor_any l m s dem ahe A c A' c' b a _ (HR.out.below (by go_grown)) (HR'.out.below (by go_grown)) hm hm').mono ?_
    rw [← HF.out, ← HE.out]
    rintro e w1 ⟨rfl, hb1⟩
    obtain ⟨hc1, hf1⟩ := bcell hb1; have z1 := hb1.size; (try simp at z1); have g1 : Below w.heap.size w w1 := thru (by go_grown) hb1 (by first | omega | (simp; done) | (simp; omega)); (try have s1 : w.heap.size < w1.heap.size := by omega); (try have t1_a1 : w.heap.size < w1.heap.size + 1 := by omega); (try have t1_a2 : w.heap.size < w1.heap.size + 1 + 1 := by omega)
    go_wp2
    go_ret2
    exact ⟨rfl, by go_grown⟩
end Go.Proofs.Ytlhbpnealboagaa
