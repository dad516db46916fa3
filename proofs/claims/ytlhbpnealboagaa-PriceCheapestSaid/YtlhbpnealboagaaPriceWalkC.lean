/-
  The walk of the reference's look at a rule.
-/
import Derived.Test.YtlhbpnealboagaaPriceWalkB
namespace Go.Proofs.Ytlhbpnealboagaa
open Go.RowKit

set_option maxHeartbeats 1000000 in
theorem rright_any (l m s : Int) (dem ahe : List (Int × Int)) (A : Option Addr) (c : Nat) (A' : Option Addr) (c' : Nat) (w : World) (hR : RdP w A dem) (hR' : RdP w A' ahe) (hm : dem.length ≤ 100) (hm' : ahe.length ≤ 100) :
    Calls Try.prog 14 #[rv l m s A dem.length c A' ahe.length c'] w fun e w' => e = .returned (.int .i64 (Pri.right ⟨l, m, s, dem, ahe⟩)) ∧ Below w.heap.size w w' := by
  have HR := Lib.hid hR
  have HR' := Lib.hid hR'
  clear hR hR'
  by_cases hr : 0 ≤ l ∧ l ≤ m ∧ m ≤ 100000000 ∧ 1 ≤ s ∧ s ≤ 100000
  · obtain ⟨R, hRR⟩ : ∃ R, R = Pri.right ⟨l, m, s, dem, ahe⟩ := ⟨_, rfl⟩
    rw [← hRR]
    have HRR := Lib.hid hRR
    have HRG := Lib.hid hr
    obtain ⟨h1, h2, h3, h4, h5⟩ := hr
    clear hRR
    obtain ⟨q, hq⟩ : ∃ q, q = Pri.low l s := ⟨_, rfl⟩
    have HQ := Lib.hid hq
    clear hq
    by_cases ho : m < q
    · have HV := Lib.hid (right_ord (dem := dem) (ahe := ahe) HRG.out (by rw [← HQ.out]; exact ho))
      go_enter Try.func14, Try.ntmps14
      go_wp2_with fail
      refine (in_yes _ _ _ _ h4 h5).mono ?_
      rintro e w2 ⟨rfl, rfl⟩
      go_wp2_with fail
      go_region_held3 (fun w' => w'.cell? ⟨w.heap.size, 0, none⟩ = some (.int .i64 l) ∧ w'.cell? ⟨w.heap.size, 1, none⟩ = some (.int .i64 m) ∧ w'.cell? ⟨w.heap.size, 2, none⟩ = some (.int .i64 s) ∧ w'.cell? ⟨w.heap.size, 3, none⟩ = some (.slice A dem.length c) ∧ w'.cell? ⟨w.heap.size, 4, none⟩ = some (.slice A' ahe.length c')) (simp [go_sem, *])
        ((go_at_call 26; refine (least_any l s _ h1 (by omega) h4 h5).mono ?_; rw [← HQ.out]; rintro e w2 ⟨rfl, rfl⟩))
      go_wp2
      go_ret
      exact ⟨ret_int (by rw [HRR.out, HV.out]), by ((repeat (first | refine below_drewN ?_ _ | refine below_drew ?_)); go_grown)⟩
    · obtain ⟨b1, hb1⟩ : ∃ b, Pri.fac dem = b := ⟨_, rfl⟩
      obtain ⟨b2, hb2⟩ : ∃ b, Pri.fac ahe = b := ⟨_, rfl⟩
      have HV := Lib.hid (right_dem HRG.out (by rw [← HQ.out]; exact ho) b1 b2 hb1 hb2)
      have F1 := Lib.hid hb1
      have F2 := Lib.hid hb2
      clear hb1 hb2
      cases b1
      · go_enter Try.func14, Try.ntmps14
        go_wp2_with fail
        refine (in_yes _ _ _ _ h4 h5).mono ?_
        rintro e w2 ⟨rfl, rfl⟩
        go_wp2_with fail
        go_region_held3 (fun w' => w'.cell? ⟨w.heap.size, 0, none⟩ = some (.int .i64 l) ∧ w'.cell? ⟨w.heap.size, 1, none⟩ = some (.int .i64 m) ∧ w'.cell? ⟨w.heap.size, 2, none⟩ = some (.int .i64 s) ∧ w'.cell? ⟨w.heap.size, 3, none⟩ = some (.slice A dem.length c) ∧ w'.cell? ⟨w.heap.size, 4, none⟩ = some (.slice A' ahe.length c')) (simp [go_sem, *])
          ((go_at_call 26; refine (least_any l s _ h1 (by omega) h4 h5).mono ?_; rw [← HQ.out]; rintro e w2 ⟨rfl, rfl⟩))
        go_wp2_with fail
        refine (rfactors_any dem A c _ (HR.out.below (by ((repeat (first | refine below_drewN ?_ _ | refine below_drew ?_)); go_grown))) hm).mono ?_
        rw [F1.out]
        rintro e w3 ⟨rfl, hb3⟩
        obtain ⟨hc3, hf3⟩ := bcell hb3; have z3 := hb3.size; (try simp at z3); have g3 : Below w.heap.size w w3 := thru (by ((repeat (first | refine below_drewN ?_ _ | refine below_drew ?_)); go_grown)) hb3 (by first | omega | (simp; done) | (simp; omega)); (try have s3 : w.heap.size < w3.heap.size := by omega); (try have t3_a1 : w.heap.size < w3.heap.size + 1 := by omega); (try have t1_3_a1 : w1.heap.size < w3.heap.size + 1 := by omega); (try have t2_3_a1 : w2.heap.size < w3.heap.size + 1 := by omega); (try have t3_a2 : w.heap.size < w3.heap.size + 1 + 1 := by omega); (try have t1_3_a2 : w1.heap.size < w3.heap.size + 1 + 1 := by omega); (try have t2_3_a2 : w2.heap.size < w3.heap.size + 1 + 1 := by omega); (try have s1_3 : w1.heap.size < w3.heap.size := by omega); (try have s2_3 : w2.heap.size < w3.heap.size := by omega)
        go_wp2
        go_ret
        exact ⟨ret_int (by rw [HRR.out, HV.out]; rfl), by ((repeat (first | refine below_drewN ?_ _ | refine below_drew ?_)); go_grown)⟩
      · cases b2
        all_goals
          go_enter Try.func14, Try.ntmps14
          go_wp2_with fail
          refine (in_yes _ _ _ _ h4 h5).mono ?_
          rintro e w2 ⟨rfl, rfl⟩
          go_wp2_with fail
          go_region_held3 (fun w' => w'.cell? ⟨w.heap.size, 0, none⟩ = some (.int .i64 l) ∧ w'.cell? ⟨w.heap.size, 1, none⟩ = some (.int .i64 m) ∧ w'.cell? ⟨w.heap.size, 2, none⟩ = some (.int .i64 s) ∧ w'.cell? ⟨w.heap.size, 3, none⟩ = some (.slice A dem.length c) ∧ w'.cell? ⟨w.heap.size, 4, none⟩ = some (.slice A' ahe.length c')) (simp [go_sem, *])
            ((go_at_call 26; refine (least_any l s _ h1 (by omega) h4 h5).mono ?_; rw [← HQ.out]; rintro e w2 ⟨rfl, rfl⟩))
          go_wp2_with fail
          refine (rfactors_any dem A c _ (HR.out.below (by ((repeat (first | refine below_drewN ?_ _ | refine below_drew ?_)); go_grown))) hm).mono ?_
          rw [F1.out]
          rintro e w3 ⟨rfl, hb3⟩
          have HRX := Lib.hid ((HR'.out.below (by ((repeat (first | refine below_drewN ?_ _ | refine below_drew ?_)); go_grown))).below hb3)
          obtain ⟨hc3, hf3⟩ := bcell hb3; have z3 := hb3.size; (try simp at z3); have g3 : Below w.heap.size w w3 := thru (by ((repeat (first | refine below_drewN ?_ _ | refine below_drew ?_)); go_grown)) hb3 (by first | omega | (simp; done) | (simp; omega)); (try have s3 : w.heap.size < w3.heap.size := by omega); (try have t3_a1 : w.heap.size < w3.heap.size + 1 := by omega); (try have t1_3_a1 : w1.heap.size < w3.heap.size + 1 := by omega); (try have t2_3_a1 : w2.heap.size < w3.heap.size + 1 := by omega); (try have t3_a2 : w.heap.size < w3.heap.size + 1 + 1 := by omega); (try have t1_3_a2 : w1.heap.size < w3.heap.size + 1 + 1 := by omega); (try have t2_3_a2 : w2.heap.size < w3.heap.size + 1 + 1 := by omega); (try have s1_3 : w1.heap.size < w3.heap.size := by omega); (try have s2_3 : w2.heap.size < w3.heap.size := by omega)
          go_wp2_with fail
          refine (rfactors_any ahe A' c' _ HRX.out hm').mono ?_
          rw [F2.out]
          rintro e w4 ⟨rfl, hb4⟩
          obtain ⟨hc4, hf4⟩ := bcell hb4; have z4 := hb4.size; (try simp at z4); have g4 : Below w.heap.size w w4 := thru (by ((repeat (first | refine below_drewN ?_ _ | refine below_drew ?_)); go_grown)) hb4 (by first | omega | (simp; done) | (simp; omega)); (try have s4 : w.heap.size < w4.heap.size := by omega); (try have t4_a1 : w.heap.size < w4.heap.size + 1 := by omega); (try have t1_4_a1 : w1.heap.size < w4.heap.size + 1 := by omega); (try have t2_4_a1 : w2.heap.size < w4.heap.size + 1 := by omega); (try have t3_4_a1 : w3.heap.size < w4.heap.size + 1 := by omega); (try have t4_a2 : w.heap.size < w4.heap.size + 1 + 1 := by omega); (try have t1_4_a2 : w1.heap.size < w4.heap.size + 1 + 1 := by omega); (try have t2_4_a2 : w2.heap.size < w4.heap.size + 1 + 1 := by omega); (try have t3_4_a2 : w3.heap.size < w4.heap.size + 1 + 1 := by omega); (try have s1_4 : w1.heap.size < w4.heap.size := by omega); (try have s2_4 : w2.heap.size < w4.heap.size := by omega); (try have s3_4 : w3.heap.size < w4.heap.size := by omega)
          go_wp2
          go_ret
          exact ⟨ret_int (by rw [HRR.out, HV.out]; rfl), by ((repeat (first | refine below_drewN ?_ _ | refine below_drew ?_)); go_grown)⟩
  · rw [right_rng hr]
    by_cases h1 : l < 0
    · clear hr
      go_enter Try.func14, Try.ntmps14
      go_wp2
      go_ret
      exact ⟨rfl, by go_grown⟩
    by_cases h2 : m < l
    · clear hr
      go_enter Try.func14, Try.ntmps14
      go_wp2
      go_ret
      exact ⟨rfl, by go_grown⟩
    by_cases h3 : 100000000 < m
    · clear hr
      go_enter Try.func14, Try.ntmps14
      go_wp2
      go_ret
      exact ⟨rfl, by go_grown⟩
    have h4 : ¬ (1 ≤ s ∧ s ≤ 100000) := by omega
    have H4 := Lib.hid h4
    clear hr h4
    go_enter Try.func14, Try.ntmps14
    go_wp2_with fail
    refine (in_no _ _ _ _ H4.out).mono ?_
    rintro e w2 ⟨rfl, rfl⟩
    go_wp2
    go_ret
    exact ⟨rfl, by go_grown⟩
end Go.Proofs.Ytlhbpnealboagaa
