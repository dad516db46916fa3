/-
  The walk of the law that fuller days are never cheaper.
-/
import Derived.Test.YtlhbpnealboagaaPriceLawD
namespace Go.Proofs.Ytlhbpnealboagaa
open Go.RowKit

set_option maxHeartbeats 4000000 in
theorem lawRises (l m s : Int) (dem ahe : List (Int × Int)) (x b0 b1 a0 a1 : Int) (A : Option Addr) (c : Nat) (A' : Option Addr) (c' : Nat) (w : World) (hR : RdP w A dem) (hR' : RdP w A' ahe) :
    Calls Try.prog 7 #[rv l m s A dem.length c A' ahe.length c', .int .i64 x, .agg #[.int .i64 b0, .int .i64 b1], .agg #[.int .i64 a0, .int .i64 a1]] w fun e w' => e = .returned (.bool true) ∧ Below w.heap.size w w' := by
  have HR := Lib.hid hR
  have HR' := Lib.hid hR'
  clear hR hR'
  by_cases hs : dem.length ≤ 100 ∧ ahe.length ≤ 100
  · have HS := Lib.hid hs
    clear hs
    by_cases hb : b1 < b0
    · go_enter Try.func7, Try.ntmps7
      go_wp2_with fail
      refine (alive_any _).mono ?_
      rintro e w1 ⟨rfl, hb1⟩
      obtain ⟨hc1, hf1⟩ := bcell hb1; have z1 := hb1.size; (try simp at z1); have g1 : Below w.heap.size w w1 := thru (by go_grown) hb1 (by first | omega | (simp; done) | (simp; omega)); (try have s1 : w.heap.size < w1.heap.size := by omega); (try have t1_a1 : w.heap.size < w1.heap.size + 1 := by omega); (try have t1_a2 : w.heap.size < w1.heap.size + 1 + 1 := by omega); (try have t1_a3 : w.heap.size < w1.heap.size + 1 + 1 + 1 := by omega); (try have t1_a4 : w.heap.size < w1.heap.size + 1 + 1 + 1 + 1 := by omega); (try have s1_p1 : w.heap.size + 1 < w1.heap.size := by omega); (try have s1_p2 : w.heap.size + 2 < w1.heap.size := by omega)
      go_wp2_with fail
      refine (few_yes _ _ _ _ _ _ _ _ _ _ HS.out).mono ?_
      rintro e w2 ⟨rfl, rfl⟩
      go_wp2
      go_ret
      exact ⟨rfl, by go_grown⟩
    by_cases ha : a1 < a0
    · go_enter Try.func7, Try.ntmps7
      go_wp2_with fail
      refine (alive_any _).mono ?_
      rintro e w1 ⟨rfl, hb1⟩
      obtain ⟨hc1, hf1⟩ := bcell hb1; have z1 := hb1.size; (try simp at z1); have g1 : Below w.heap.size w w1 := thru (by go_grown) hb1 (by first | omega | (simp; done) | (simp; omega)); (try have s1 : w.heap.size < w1.heap.size := by omega); (try have t1_a1 : w.heap.size < w1.heap.size + 1 := by omega); (try have t1_a2 : w.heap.size < w1.heap.size + 1 + 1 := by omega); (try have t1_a3 : w.heap.size < w1.heap.size + 1 + 1 + 1 := by omega); (try have t1_a4 : w.heap.size < w1.heap.size + 1 + 1 + 1 + 1 := by omega); (try have s1_p1 : w.heap.size + 1 < w1.heap.size := by omega); (try have s1_p2 : w.heap.size + 2 < w1.heap.size := by omega)
      go_wp2_with fail
      refine (few_yes _ _ _ _ _ _ _ _ _ _ HS.out).mono ?_
      rintro e w2 ⟨rfl, rfl⟩
      go_wp2
      go_ret
      exact ⟨rfl, by go_grown⟩
    have hbb : b0 ≤ b1 := by omega
    have haa : a0 ≤ a1 := by omega
    obtain ⟨q1, hq1⟩ : ∃ f, f = (Pri.quote ⟨l, m, s, dem, ahe⟩ x b0 a0).1 := ⟨_, rfl⟩
    obtain ⟨e1, he1⟩ : ∃ f, f = (Pri.quote ⟨l, m, s, dem, ahe⟩ x b0 a0).2 := ⟨_, rfl⟩
    obtain ⟨q2, hq2⟩ : ∃ f, f = (Pri.quote ⟨l, m, s, dem, ahe⟩ x b1 a0).1 := ⟨_, rfl⟩
    obtain ⟨e2, he2⟩ : ∃ f, f = (Pri.quote ⟨l, m, s, dem, ahe⟩ x b1 a0).2 := ⟨_, rfl⟩
    obtain ⟨q3, hq3⟩ : ∃ f, f = (Pri.quote ⟨l, m, s, dem, ahe⟩ x b0 a1).1 := ⟨_, rfl⟩
    obtain ⟨e3, he3⟩ : ∃ f, f = (Pri.quote ⟨l, m, s, dem, ahe⟩ x b0 a1).2 := ⟨_, rfl⟩
    have Q1 := Lib.hid hq1
    have Q2 := Lib.hid hq2
    have Q3 := Lib.hid hq3
    have E1 := Lib.hid he1
    have E2 := Lib.hid he2
    have E3 := Lib.hid he3
    clear hq1 hq2 he1 he2 hq3 he3
    by_cases hall : e1 = 0 ∧ e2 = 0 ∧ e3 = 0
    · obtain ⟨rfl, rfl, rfl⟩ := hall
      obtain ⟨hk, x0, x1, v1⟩ := quote_val E1.out.symm
      obtain ⟨_, _, _, v2⟩ := quote_val E2.out.symm
      obtain ⟨_, _, _, v3⟩ := quote_val E3.out.symm
      rw [← Q1.out] at v1
      rw [← Q2.out] at v2
      rw [← Q3.out] at v3
      have hbd := Pri.qv_bd hk x b0 a0
      rw [← v1] at hbd
      obtain ⟨d1, d2, d3⟩ := hbd
      dsimp only at d1 d2 d3
      have s1 : 1 ≤ s := hk.s1
      have l0 : 0 ≤ l := hk.l0
      have d4 : 0 ≤ q1 := by omega
      have d5 : q1.tmod s = 0 := by rw [Int.tmod_eq_emod_of_nonneg d4]; exact d3
      have s2 : (s == 0) = false := by rw [beq_eq_false_iff_ne]; omega
      have K1 : upB dem = true → q1 ≤ q2 := fun h => by rw [v1, v2]; exact Pri.qv_rises hk (upB_iff.1 h) a0 x0 (by omega)
      have K2 : dnB ahe = true → q3 ≤ q1 := fun h => by rw [v1, v3]; exact Pri.qv_falls hk (dnB_iff.1 h) b0 x0 (by omega)
      have HY := Lib.hid (Pri.yOk_iff.1 hk.dy)
      have HY' := Lib.hid (Pri.yOk_iff.1 hk.ay)
      obtain ⟨u, hu⟩ : ∃ u, upB dem = u := ⟨_, rfl⟩
      obtain ⟨v, hv⟩ : ∃ v, dnB ahe = v := ⟨_, rfl⟩
      rw [hu] at K1
      rw [hv] at K2
      have HU := Lib.hid hu
      have HV := Lib.hid hv
      clear hu hv v1 v2 v3 hk hb ha
      have key : (u = false ∨ (u = true ∧ q1 ≤ q2)) ∧ (v = false ∨ (v = true ∧ q3 ≤ q1)) := by
        refine ⟨?_, ?_⟩
        · cases u
          · exact .inl rfl
          · exact .inr ⟨rfl, K1 rfl⟩
        · cases v
          · exact .inl rfl
          · exact .inr ⟨rfl, K2 rfl⟩
      clear K1 K2
      obtain ⟨rfl | ⟨rfl, ku⟩, rfl | ⟨rfl, kv⟩⟩ := key
      all_goals
        go_enter Try.func7, Try.ntmps7
        go_wp2_with fail
        refine (alive_any _).mono ?_
        rintro e w1 ⟨rfl, hb1⟩
        have R1 := Lib.hid ((HR.out.below (by go_grown)).below hb1)
        have R1' := Lib.hid ((HR'.out.below (by go_grown)).below hb1)
        obtain ⟨hc1, hf1⟩ := bcell hb1; have z1 := hb1.size; (try simp at z1); have g1 : Below w.heap.size w w1 := thru (by go_grown) hb1 (by first | omega | (simp; done) | (simp; omega)); (try have s1 : w.heap.size < w1.heap.size := by omega); (try have t1_a1 : w.heap.size < w1.heap.size + 1 := by omega); (try have t1_a2 : w.heap.size < w1.heap.size + 1 + 1 := by omega); (try have t1_a3 : w.heap.size < w1.heap.size + 1 + 1 + 1 := by omega); (try have t1_a4 : w.heap.size < w1.heap.size + 1 + 1 + 1 + 1 := by omega); (try have s1_p1 : w.heap.size + 1 < w1.heap.size := by omega); (try have s1_p2 : w.heap.size + 2 < w1.heap.size := by omega)
        go_wp2_with fail
        refine (few_yes _ _ _ _ _ _ _ _ _ _ HS.out).mono ?_
        rintro e w2 ⟨rfl, rfl⟩
        go_wp2_with fail
        refine (quote_any l m s dem ahe A c A' c' x b0 a0 _ (R1.out.below (by go_grown)) (R1'.out.below (by go_grown)) HS.out.1 HS.out.2).mono ?_
        rw [← Q1.out, ← E1.out]
        rintro e w2 ⟨rfl, hb2⟩
        have R2 := Lib.hid ((R1.out.below (by go_grown)).below hb2)
        have R2' := Lib.hid ((R1'.out.below (by go_grown)).below hb2)
        obtain ⟨hc2, hf2⟩ := bcell hb2; have z2 := hb2.size; (try simp at z2); have g2 : Below w.heap.size w w2 := thru (by go_grown) hb2 (by first | omega | (simp; done) | (simp; omega)); (try have s2 : w.heap.size < w2.heap.size := by omega); (try have t2_a1 : w.heap.size < w2.heap.size + 1 := by omega); (try have t1_2_a1 : w1.heap.size < w2.heap.size + 1 := by omega); (try have t2_a2 : w.heap.size < w2.heap.size + 1 + 1 := by omega); (try have t1_2_a2 : w1.heap.size < w2.heap.size + 1 + 1 := by omega); (try have t2_a3 : w.heap.size < w2.heap.size + 1 + 1 + 1 := by omega); (try have t1_2_a3 : w1.heap.size < w2.heap.size + 1 + 1 + 1 := by omega); (try have t2_a4 : w.heap.size < w2.heap.size + 1 + 1 + 1 + 1 := by omega); (try have t1_2_a4 : w1.heap.size < w2.heap.size + 1 + 1 + 1 + 1 := by omega); (try have s2_p1 : w.heap.size + 1 < w2.heap.size := by omega); (try have s1_2_p1 : w1.heap.size + 1 < w2.heap.size := by omega); (try have s2_p2 : w.heap.size + 2 < w2.heap.size := by omega); (try have s1_2_p2 : w1.heap.size + 2 < w2.heap.size := by omega); (try have s1_2 : w1.heap.size < w2.heap.size := by omega)
        go_wp2_with fail
        refine (quote_any l m s dem ahe A c A' c' x b1 a0 _ R2.out R2'.out HS.out.1 HS.out.2).mono ?_
        rw [← Q2.out, ← E2.out]
        rintro e w3 ⟨rfl, hb3⟩
        have R3 := Lib.hid (R2.out.below hb3)
        have R3' := Lib.hid (R2'.out.below hb3)
        obtain ⟨hc3, hf3⟩ := bcell hb3; have z3 := hb3.size; (try simp at z3); have g3 : Below w.heap.size w w3 := thru (by go_grown) hb3 (by first | omega | (simp; done) | (simp; omega)); (try have s3 : w.heap.size < w3.heap.size := by omega); (try have t3_a1 : w.heap.size < w3.heap.size + 1 := by omega); (try have t1_3_a1 : w1.heap.size < w3.heap.size + 1 := by omega); (try have t2_3_a1 : w2.heap.size < w3.heap.size + 1 := by omega); (try have t3_a2 : w.heap.size < w3.heap.size + 1 + 1 := by omega); (try have t1_3_a2 : w1.heap.size < w3.heap.size + 1 + 1 := by omega); (try have t2_3_a2 : w2.heap.size < w3.heap.size + 1 + 1 := by omega); (try have t3_a3 : w.heap.size < w3.heap.size + 1 + 1 + 1 := by omega); (try have t1_3_a3 : w1.heap.size < w3.heap.size + 1 + 1 + 1 := by omega); (try have t2_3_a3 : w2.heap.size < w3.heap.size + 1 + 1 + 1 := by omega); (try have t3_a4 : w.heap.size < w3.heap.size + 1 + 1 + 1 + 1 := by omega); (try have t1_3_a4 : w1.heap.size < w3.heap.size + 1 + 1 + 1 + 1 := by omega); (try have t2_3_a4 : w2.heap.size < w3.heap.size + 1 + 1 + 1 + 1 := by omega); (try have s3_p1 : w.heap.size + 1 < w3.heap.size := by omega); (try have s1_3_p1 : w1.heap.size + 1 < w3.heap.size := by omega); (try have s2_3_p1 : w2.heap.size + 1 < w3.heap.size := by omega); (try have s3_p2 : w.heap.size + 2 < w3.heap.size := by omega); (try have s1_3_p2 : w1.heap.size + 2 < w3.heap.size := by omega); (try have s2_3_p2 : w2.heap.size + 2 < w3.heap.size := by omega); (try have s1_3 : w1.heap.size < w3.heap.size := by omega); (try have s2_3 : w2.heap.size < w3.heap.size := by omega)
        go_wp2_with fail
        refine (quote_any l m s dem ahe A c A' c' x b0 a1 _ R3.out R3'.out HS.out.1 HS.out.2).mono ?_
        rw [← Q3.out, ← E3.out]
        rintro e w4 ⟨rfl, hb4⟩
        have R4 := Lib.hid (R3.out.below hb4)
        have R4' := Lib.hid (R3'.out.below hb4)
        obtain ⟨hc4, hf4⟩ := bcell hb4; have z4 := hb4.size; (try simp at z4); have g4 : Below w.heap.size w w4 := thru (by go_grown) hb4 (by first | omega | (simp; done) | (simp; omega)); (try have s4 : w.heap.size < w4.heap.size := by omega); (try have t4_a1 : w.heap.size < w4.heap.size + 1 := by omega); (try have t1_4_a1 : w1.heap.size < w4.heap.size + 1 := by omega); (try have t2_4_a1 : w2.heap.size < w4.heap.size + 1 := by omega); (try have t3_4_a1 : w3.heap.size < w4.heap.size + 1 := by omega); (try have t4_a2 : w.heap.size < w4.heap.size + 1 + 1 := by omega); (try have t1_4_a2 : w1.heap.size < w4.heap.size + 1 + 1 := by omega); (try have t2_4_a2 : w2.heap.size < w4.heap.size + 1 + 1 := by omega); (try have t3_4_a2 : w3.heap.size < w4.heap.size + 1 + 1 := by omega); (try have t4_a3 : w.heap.size < w4.heap.size + 1 + 1 + 1 := by omega); (try have t1_4_a3 : w1.heap.size < w4.heap.size + 1 + 1 + 1 := by omega); (try have t2_4_a3 : w2.heap.size < w4.heap.size + 1 + 1 + 1 := by omega); (try have t3_4_a3 : w3.heap.size < w4.heap.size + 1 + 1 + 1 := by omega); (try have t4_a4 : w.heap.size < w4.heap.size + 1 + 1 + 1 + 1 := by omega); (try have t1_4_a4 : w1.heap.size < w4.heap.size + 1 + 1 + 1 + 1 := by omega); (try have t2_4_a4 : w2.heap.size < w4.heap.size + 1 + 1 + 1 + 1 := by omega); (try have t3_4_a4 : w3.heap.size < w4.heap.size + 1 + 1 + 1 + 1 := by omega); (try have s4_p1 : w.heap.size + 1 < w4.heap.size := by omega); (try have s1_4_p1 : w1.heap.size + 1 < w4.heap.size := by omega); (try have s2_4_p1 : w2.heap.size + 1 < w4.heap.size := by omega); (try have s3_4_p1 : w3.heap.size + 1 < w4.heap.size := by omega); (try have s4_p2 : w.heap.size + 2 < w4.heap.size := by omega); (try have s1_4_p2 : w1.heap.size + 2 < w4.heap.size := by omega); (try have s2_4_p2 : w2.heap.size + 2 < w4.heap.size := by omega); (try have s3_4_p2 : w3.heap.size + 2 < w4.heap.size := by omega); (try have s1_4 : w1.heap.size < w4.heap.size := by omega); (try have s2_4 : w2.heap.size < w4.heap.size := by omega); (try have s3_4 : w3.heap.size < w4.heap.size := by omega)
        go_wp2_with fail
        refine (rises_up dem A c _ R4.out HS.out.1 HY.out).mono ?_
        rw [HU.out]
        rintro e w5 ⟨rfl, hb5⟩
        have R5' := Lib.hid (R4'.out.below hb5)
        obtain ⟨hc5, hf5⟩ := bcell hb5; have z5 := hb5.size; (try simp at z5); have g5 : Below w.heap.size w w5 := thru (by go_grown) hb5 (by first | omega | (simp; done) | (simp; omega)); (try have s5 : w.heap.size < w5.heap.size := by omega); (try have t5_a1 : w.heap.size < w5.heap.size + 1 := by omega); (try have t1_5_a1 : w1.heap.size < w5.heap.size + 1 := by omega); (try have t2_5_a1 : w2.heap.size < w5.heap.size + 1 := by omega); (try have t3_5_a1 : w3.heap.size < w5.heap.size + 1 := by omega); (try have t4_5_a1 : w4.heap.size < w5.heap.size + 1 := by omega); (try have t5_a2 : w.heap.size < w5.heap.size + 1 + 1 := by omega); (try have t1_5_a2 : w1.heap.size < w5.heap.size + 1 + 1 := by omega); (try have t2_5_a2 : w2.heap.size < w5.heap.size + 1 + 1 := by omega); (try have t3_5_a2 : w3.heap.size < w5.heap.size + 1 + 1 := by omega); (try have t4_5_a2 : w4.heap.size < w5.heap.size + 1 + 1 := by omega); (try have t5_a3 : w.heap.size < w5.heap.size + 1 + 1 + 1 := by omega); (try have t1_5_a3 : w1.heap.size < w5.heap.size + 1 + 1 + 1 := by omega); (try have t2_5_a3 : w2.heap.size < w5.heap.size + 1 + 1 + 1 := by omega); (try have t3_5_a3 : w3.heap.size < w5.heap.size + 1 + 1 + 1 := by omega); (try have t4_5_a3 : w4.heap.size < w5.heap.size + 1 + 1 + 1 := by omega); (try have t5_a4 : w.heap.size < w5.heap.size + 1 + 1 + 1 + 1 := by omega); (try have t1_5_a4 : w1.heap.size < w5.heap.size + 1 + 1 + 1 + 1 := by omega); (try have t2_5_a4 : w2.heap.size < w5.heap.size + 1 + 1 + 1 + 1 := by omega); (try have t3_5_a4 : w3.heap.size < w5.heap.size + 1 + 1 + 1 + 1 := by omega); (try have t4_5_a4 : w4.heap.size < w5.heap.size + 1 + 1 + 1 + 1 := by omega); (try have s5_p1 : w.heap.size + 1 < w5.heap.size := by omega); (try have s1_5_p1 : w1.heap.size + 1 < w5.heap.size := by omega); (try have s2_5_p1 : w2.heap.size + 1 < w5.heap.size := by omega); (try have s3_5_p1 : w3.heap.size + 1 < w5.heap.size := by omega); (try have s4_5_p1 : w4.heap.size + 1 < w5.heap.size := by omega); (try have s5_p2 : w.heap.size + 2 < w5.heap.size := by omega); (try have s1_5_p2 : w1.heap.size + 2 < w5.heap.size := by omega); (try have s2_5_p2 : w2.heap.size + 2 < w5.heap.size := by omega); (try have s3_5_p2 : w3.heap.size + 2 < w5.heap.size := by omega); (try have s4_5_p2 : w4.heap.size + 2 < w5.heap.size := by omega); (try have s1_5 : w1.heap.size < w5.heap.size := by omega); (try have s2_5 : w2.heap.size < w5.heap.size := by omega); (try have s3_5 : w3.heap.size < w5.heap.size := by omega); (try have s4_5 : w4.heap.size < w5.heap.size := by omega)
        go_wp2_with fail
        refine (rises_dn ahe A' c' _ R5'.out HS.out.2 HY'.out).mono ?_
        rw [HV.out]
        rintro e w6 ⟨rfl, hb6⟩
        obtain ⟨hc6, hf6⟩ := bcell hb6; have z6 := hb6.size; (try simp at z6); have g6 : Below w.heap.size w w6 := thru (by go_grown) hb6 (by first | omega | (simp; done) | (simp; omega)); (try have s6 : w.heap.size < w6.heap.size := by omega); (try have t6_a1 : w.heap.size < w6.heap.size + 1 := by omega); (try have t1_6_a1 : w1.heap.size < w6.heap.size + 1 := by omega); (try have t2_6_a1 : w2.heap.size < w6.heap.size + 1 := by omega); (try have t3_6_a1 : w3.heap.size < w6.heap.size + 1 := by omega); (try have t4_6_a1 : w4.heap.size < w6.heap.size + 1 := by omega); (try have t5_6_a1 : w5.heap.size < w6.heap.size + 1 := by omega); (try have t6_a2 : w.heap.size < w6.heap.size + 1 + 1 := by omega); (try have t1_6_a2 : w1.heap.size < w6.heap.size + 1 + 1 := by omega); (try have t2_6_a2 : w2.heap.size < w6.heap.size + 1 + 1 := by omega); (try have t3_6_a2 : w3.heap.size < w6.heap.size + 1 + 1 := by omega); (try have t4_6_a2 : w4.heap.size < w6.heap.size + 1 + 1 := by omega); (try have t5_6_a2 : w5.heap.size < w6.heap.size + 1 + 1 := by omega); (try have t6_a3 : w.heap.size < w6.heap.size + 1 + 1 + 1 := by omega); (try have t1_6_a3 : w1.heap.size < w6.heap.size + 1 + 1 + 1 := by omega); (try have t2_6_a3 : w2.heap.size < w6.heap.size + 1 + 1 + 1 := by omega); (try have t3_6_a3 : w3.heap.size < w6.heap.size + 1 + 1 + 1 := by omega); (try have t4_6_a3 : w4.heap.size < w6.heap.size + 1 + 1 + 1 := by omega); (try have t5_6_a3 : w5.heap.size < w6.heap.size + 1 + 1 + 1 := by omega); (try have t6_a4 : w.heap.size < w6.heap.size + 1 + 1 + 1 + 1 := by omega); (try have t1_6_a4 : w1.heap.size < w6.heap.size + 1 + 1 + 1 + 1 := by omega); (try have t2_6_a4 : w2.heap.size < w6.heap.size + 1 + 1 + 1 + 1 := by omega); (try have t3_6_a4 : w3.heap.size < w6.heap.size + 1 + 1 + 1 + 1 := by omega); (try have t4_6_a4 : w4.heap.size < w6.heap.size + 1 + 1 + 1 + 1 := by omega); (try have t5_6_a4 : w5.heap.size < w6.heap.size + 1 + 1 + 1 + 1 := by omega); (try have s6_p1 : w.heap.size + 1 < w6.heap.size := by omega); (try have s1_6_p1 : w1.heap.size + 1 < w6.heap.size := by omega); (try have s2_6_p1 : w2.heap.size + 1 < w6.heap.size := by omega); (try have s3_6_p1 : w3.heap.size + 1 < w6.heap.size := by omega); (try have s4_6_p1 : w4.heap.size + 1 < w6.heap.size := by omega); (try have s5_6_p1 : w5.heap.size + 1 < w6.heap.size := by omega); (try have s6_p2 : w.heap.size + 2 < w6.heap.size := by omega); (try have s1_6_p2 : w1.heap.size + 2 < w6.heap.size := by omega); (try have s2_6_p2 : w2.heap.size + 2 < w6.heap.size := by omega); (try have s3_6_p2 : w3.heap.size + 2 < w6.heap.size := by omega); (try have s4_6_p2 : w4.heap.size + 2 < w6.heap.size := by omega); (try have s5_6_p2 : w5.heap.size + 2 < w6.heap.size := by omega); (try have s1_6 : w1.heap.size < w6.heap.size := by omega); (try have s2_6 : w2.heap.size < w6.heap.size := by omega); (try have s3_6 : w3.heap.size < w6.heap.size := by omega); (try have s4_6 : w4.heap.size < w6.heap.size := by omega); (try have s5_6 : w5.heap.size < w6.heap.size := by omega)
        go_wp2
        go_ret
        exact ⟨rfl, by go_grown⟩
    · have key : ((e1 != 0) = true ∧ (e1 == 0) = false ∧ (q1 == 0) = true) ∨ ((e1 != 0) = false ∧ (e1 == 0) = true ∧ (e2 != 0) = true) ∨ ((e1 != 0) = false ∧ (e1 == 0) = true ∧ (e2 != 0) = false ∧ (e3 != 0) = true) := by
        by_cases h1 : e1 = 0
        · by_cases h2 : e2 = 0
          · have h3 : e3 ≠ 0 := fun h => hall ⟨h1, h2, h⟩
            exact .inr (.inr ⟨by simpa using h1, by simpa using h1, by simpa using h2, by simpa using h3⟩)
          · exact .inr (.inl ⟨by simpa using h1, by simpa using h1, by simpa using h2⟩)
        · refine .inl ⟨by simpa using h1, by simpa using h1, ?_⟩
          rw [Q1.out, quote_err (by rw [← E1.out]; exact h1)]; rfl
      clear hall hb ha
      rcases key with ⟨k1, k2, k3⟩ | ⟨k1, k2, k3⟩ | ⟨k1, k2, k3, k4⟩
      all_goals
        go_enter Try.func7, Try.ntmps7
        go_wp2_with fail
        refine (alive_any _).mono ?_
        rintro e w1 ⟨rfl, hb1⟩
        have R1 := Lib.hid ((HR.out.below (by go_grown)).below hb1)
        have R1' := Lib.hid ((HR'.out.below (by go_grown)).below hb1)
        obtain ⟨hc1, hf1⟩ := bcell hb1; have z1 := hb1.size; (try simp at z1); have g1 : Below w.heap.size w w1 := thru (by go_grown) hb1 (by first | omega | (simp; done) | (simp; omega)); (try have s1 : w.heap.size < w1.heap.size := by omega); (try have t1_a1 : w.heap.size < w1.heap.size + 1 := by omega); (try have t1_a2 : w.heap.size < w1.heap.size + 1 + 1 := by omega); (try have t1_a3 : w.heap.size < w1.heap.size + 1 + 1 + 1 := by omega); (try have t1_a4 : w.heap.size < w1.heap.size + 1 + 1 + 1 + 1 := by omega); (try have s1_p1 : w.heap.size + 1 < w1.heap.size := by omega); (try have s1_p2 : w.heap.size + 2 < w1.heap.size := by omega)
        go_wp2_with fail
        refine (few_yes _ _ _ _ _ _ _ _ _ _ HS.out).mono ?_
        rintro e w2 ⟨rfl, rfl⟩
        go_wp2_with fail
        refine (quote_any l m s dem ahe A c A' c' x b0 a0 _ (R1.out.below (by go_grown)) (R1'.out.below (by go_grown)) HS.out.1 HS.out.2).mono ?_
        rw [← Q1.out, ← E1.out]
        rintro e w2 ⟨rfl, hb2⟩
        have R2 := Lib.hid ((R1.out.below (by go_grown)).below hb2)
        have R2' := Lib.hid ((R1'.out.below (by go_grown)).below hb2)
        obtain ⟨hc2, hf2⟩ := bcell hb2; have z2 := hb2.size; (try simp at z2); have g2 : Below w.heap.size w w2 := thru (by go_grown) hb2 (by first | omega | (simp; done) | (simp; omega)); (try have s2 : w.heap.size < w2.heap.size := by omega); (try have t2_a1 : w.heap.size < w2.heap.size + 1 := by omega); (try have t1_2_a1 : w1.heap.size < w2.heap.size + 1 := by omega); (try have t2_a2 : w.heap.size < w2.heap.size + 1 + 1 := by omega); (try have t1_2_a2 : w1.heap.size < w2.heap.size + 1 + 1 := by omega); (try have t2_a3 : w.heap.size < w2.heap.size + 1 + 1 + 1 := by omega); (try have t1_2_a3 : w1.heap.size < w2.heap.size + 1 + 1 + 1 := by omega); (try have t2_a4 : w.heap.size < w2.heap.size + 1 + 1 + 1 + 1 := by omega); (try have t1_2_a4 : w1.heap.size < w2.heap.size + 1 + 1 + 1 + 1 := by omega); (try have s2_p1 : w.heap.size + 1 < w2.heap.size := by omega); (try have s1_2_p1 : w1.heap.size + 1 < w2.heap.size := by omega); (try have s2_p2 : w.heap.size + 2 < w2.heap.size := by omega); (try have s1_2_p2 : w1.heap.size + 2 < w2.heap.size := by omega); (try have s1_2 : w1.heap.size < w2.heap.size := by omega)
        go_wp2_with fail
        refine (quote_any l m s dem ahe A c A' c' x b1 a0 _ R2.out R2'.out HS.out.1 HS.out.2).mono ?_
        rw [← Q2.out, ← E2.out]
        rintro e w3 ⟨rfl, hb3⟩
        have R3 := Lib.hid (R2.out.below hb3)
        have R3' := Lib.hid (R2'.out.below hb3)
        obtain ⟨hc3, hf3⟩ := bcell hb3; have z3 := hb3.size; (try simp at z3); have g3 : Below w.heap.size w w3 := thru (by go_grown) hb3 (by first | omega | (simp; done) | (simp; omega)); (try have s3 : w.heap.size < w3.heap.size := by omega); (try have t3_a1 : w.heap.size < w3.heap.size + 1 := by omega); (try have t1_3_a1 : w1.heap.size < w3.heap.size + 1 := by omega); (try have t2_3_a1 : w2.heap.size < w3.heap.size + 1 := by omega); (try have t3_a2 : w.heap.size < w3.heap.size + 1 + 1 := by omega); (try have t1_3_a2 : w1.heap.size < w3.heap.size + 1 + 1 := by omega); (try have t2_3_a2 : w2.heap.size < w3.heap.size + 1 + 1 := by omega); (try have t3_a3 : w.heap.size < w3.heap.size + 1 + 1 + 1 := by omega); (try have t1_3_a3 : w1.heap.size < w3.heap.size + 1 + 1 + 1 := by omega); (try have t2_3_a3 : w2.heap.size < w3.heap.size + 1 + 1 + 1 := by omega); (try have t3_a4 : w.heap.size < w3.heap.size + 1 + 1 + 1 + 1 := by omega); (try have t1_3_a4 : w1.heap.size < w3.heap.size + 1 + 1 + 1 + 1 := by omega); (try have t2_3_a4 : w2.heap.size < w3.heap.size + 1 + 1 + 1 + 1 := by omega); (try have s3_p1 : w.heap.size + 1 < w3.heap.size := by omega); (try have s1_3_p1 : w1.heap.size + 1 < w3.heap.size := by omega); (try have s2_3_p1 : w2.heap.size + 1 < w3.heap.size := by omega); (try have s3_p2 : w.heap.size + 2 < w3.heap.size := by omega); (try have s1_3_p2 : w1.heap.size + 2 < w3.heap.size := by omega); (try have s2_3_p2 : w2.heap.size + 2 < w3.heap.size := by omega); (try have s1_3 : w1.heap.size < w3.heap.size := by omega); (try have s2_3 : w2.heap.size < w3.heap.size := by omega)
        go_wp2_with fail
        refine (quote_any l m s dem ahe A c A' c' x b0 a1 _ R3.out R3'.out HS.out.1 HS.out.2).mono ?_
        rw [← Q3.out, ← E3.out]
        rintro e w4 ⟨rfl, hb4⟩
        obtain ⟨hc4, hf4⟩ := bcell hb4; have z4 := hb4.size; (try simp at z4); have g4 : Below w.heap.size w w4 := thru (by go_grown) hb4 (by first | omega | (simp; done) | (simp; omega)); (try have s4 : w.heap.size < w4.heap.size := by omega); (try have t4_a1 : w.heap.size < w4.heap.size + 1 := by omega); (try have t1_4_a1 : w1.heap.size < w4.heap.size + 1 := by omega); (try have t2_4_a1 : w2.heap.size < w4.heap.size + 1 := by omega); (try have t3_4_a1 : w3.heap.size < w4.heap.size + 1 := by omega); (try have t4_a2 : w.heap.size < w4.heap.size + 1 + 1 := by omega); (try have t1_4_a2 : w1.heap.size < w4.heap.size + 1 + 1 := by omega); (try have t2_4_a2 : w2.heap.size < w4.heap.size + 1 + 1 := by omega); (try have t3_4_a2 : w3.heap.size < w4.heap.size + 1 + 1 := by omega); (try have t4_a3 : w.heap.size < w4.heap.size + 1 + 1 + 1 := by omega); (try have t1_4_a3 : w1.heap.size < w4.heap.size + 1 + 1 + 1 := by omega); (try have t2_4_a3 : w2.heap.size < w4.heap.size + 1 + 1 + 1 := by omega); (try have t3_4_a3 : w3.heap.size < w4.heap.size + 1 + 1 + 1 := by omega); (try have t4_a4 : w.heap.size < w4.heap.size + 1 + 1 + 1 + 1 := by omega); (try have t1_4_a4 : w1.heap.size < w4.heap.size + 1 + 1 + 1 + 1 := by omega); (try have t2_4_a4 : w2.heap.size < w4.heap.size + 1 + 1 + 1 + 1 := by omega); (try have t3_4_a4 : w3.heap.size < w4.heap.size + 1 + 1 + 1 + 1 := by omega); (try have s4_p1 : w.heap.size + 1 < w4.heap.size := by omega); (try have s1_4_p1 : w1.heap.size + 1 < w4.heap.size := by omega); (try have s2_4_p1 : w2.heap.size + 1 < w4.heap.size := by omega); (try have s3_4_p1 : w3.heap.size + 1 < w4.heap.size := by omega); (try have s4_p2 : w.heap.size + 2 < w4.heap.size := by omega); (try have s1_4_p2 : w1.heap.size + 2 < w4.heap.size := by omega); (try have s2_4_p2 : w2.heap.size + 2 < w4.heap.size := by omega); (try have s3_4_p2 : w3.heap.size + 2 < w4.heap.size := by omega); (try have s1_4 : w1.heap.size < w4.heap.size := by omega); (try have s2_4 : w2.heap.size < w4.heap.size := by omega); (try have s3_4 : w3.heap.size < w4.heap.size := by omega)
        go_wp2
        go_ret
        exact ⟨rfl, by go_grown⟩
  · have HS := Lib.hid hs
    clear hs
    go_enter Try.func7, Try.ntmps7
    go_wp2_with fail
    refine (alive_any _).mono ?_
    rintro e w1 ⟨rfl, hb1⟩
    obtain ⟨hc1, hf1⟩ := bcell hb1; have z1 := hb1.size; (try simp at z1); have g1 : Below w.heap.size w w1 := thru (by go_grown) hb1 (by first | omega | (simp; done) | (simp; omega)); (try have s1 : w.heap.size < w1.heap.size := by omega); (try have t1_a1 : w.heap.size < w1.heap.size + 1 := by omega); (try have t1_a2 : w.heap.size < w1.heap.size + 1 + 1 := by omega); (try have t1_a3 : w.heap.size < w1.heap.size + 1 + 1 + 1 := by omega); (try have t1_a4 : w.heap.size < w1.heap.size + 1 + 1 + 1 + 1 := by omega); (try have s1_p1 : w.heap.size + 1 < w1.heap.size := by omega); (try have s1_p2 : w.heap.size + 2 < w1.heap.size := by omega)
    go_wp2_with fail
    refine (few_no _ _ _ _ _ _ _ _ _ _ HS.out).mono ?_
    rintro e w2 ⟨rfl, rfl⟩
    go_wp2
    go_ret
    exact ⟨rfl, by go_grown⟩
end Go.Proofs.Ytlhbpnealboagaa
