/-
  The walk of the look whether a function rises, and of the law on bases.
-/
import Derived.Test.YtlhbpnealboagaaPriceLawA
namespace Go.Proofs.Ytlhbpnealboagaa
open Go.RowKit

def upB (ps : List (Int × Int)) : Bool := (List.range (ps.length - 1)).all fun i => decide (Fix.py ps i ≤ Fix.py ps (i + 1))
def dnB (ps : List (Int × Int)) : Bool := (List.range (ps.length - 1)).all fun i => decide (Fix.py ps (i + 1) ≤ Fix.py ps i)
theorem upB_iff {ps : List (Int × Int)} : upB ps = true ↔ Fix.Up ps := by
  unfold upB Fix.Up
  simp only [List.all_eq_true, List.mem_range, decide_eq_true_eq]
  exact ⟨fun h i hi => h i (by omega), fun h i hi => h i (by omega)⟩
theorem dnB_iff {ps : List (Int × Int)} : dnB ps = true ↔ Fix.Down ps := by
  unfold dnB Fix.Down
  simp only [List.all_eq_true, List.mem_range, decide_eq_true_eq]
  exact ⟨fun h i hi => h i (by omega), fun h i hi => h i (by omega)⟩
theorem upB_no {ps : List (Int × Int)} {i : Nat} (hi : i + 1 < ps.length) (h : Fix.py ps (i + 1) < Fix.py ps i) : upB ps = false := by
  cases hr : upB ps
  · rfl
  · have := upB_iff.1 hr i hi; omega
theorem dnB_no {ps : List (Int × Int)} {i : Nat} (hi : i + 1 < ps.length) (h : Fix.py ps i < Fix.py ps (i + 1)) : dnB ps = false := by
  cases hr : dnB ps
  · rfl
  · have := dnB_iff.1 hr i hi; omega

set_option maxHeartbeats 1000000 in
theorem rises_up (ps : List (Int × Int)) (A : Option Addr) (c : Nat) (w : World) (hR : RdP w A ps) (hm : ps.length ≤ 100) (hy : ∀ i, i < ps.length → 0 ≤ Fix.py ps i ∧ Fix.py ps i ≤ 10000) :
    Calls Try.prog 21 #[.slice A ps.length c, .int .i64 1] w fun e w' => e = .returned (.bool (upB ps)) ∧ Below w.heap.size w w' := by
  obtain ⟨R, hRR⟩ : ∃ R, R = upB ps := ⟨_, rfl⟩
  rw [← hRR]
  have HR := Lib.hid hRR
  have HY := Lib.hid hy
  have HRD := Lib.hid hR
  clear hRR hy hR
  go_enter Try.func21, Try.ntmps21
  go_wp2
  go_loopw [5] (fun i wr => ∃ k : Nat, (k = 0 ∨ k < ps.length) ∧ i = .int .i64 ((k : Int) + 1) ∧ (∀ j, j < k → Fix.py ps j ≤ Fix.py ps (j + 1)) ∧ Below w.heap.size w wr) (fun i _ => ps.length + 1 - (intOf i).toNat)
  case atStart => exact ⟨0, .inl rfl, rfl, fun j hj => absurd hj (by omega), Below.refl _ _⟩
  case round =>
    obtain ⟨k, hk, rfl, hall, hb⟩ := hrel
    have HA := Lib.hid hall
    have HB := Lib.hid hb
    have HK := Lib.hid hk
    clear hall hk
    by_cases hlt : k + 1 < ps.length
    · obtain ⟨b, off, rfl, hbl, hcell⟩ := (HRD.out.below hb) (by omega)
      obtain ⟨_, c0⟩ := hcell k (by omega)
      obtain ⟨_, c1⟩ := hcell (k + 1) hlt
      obtain ⟨y1, y2⟩ := HY.out k (by omega)
      obtain ⟨z1, z2⟩ := HY.out (k + 1) hlt
      clear hcell hb
      generalize hy : Fix.py ps k = y at *
      generalize hz : Fix.py ps (k + 1) = z at *
      have HYY := Lib.hid hy
      have HZZ := Lib.hid hz
      clear hy hz
      have i1 : ((k : Int) + 1 - 1) = k := by omega
      have i2 : IntKind.i64.wrap ((k : Int) + 1 - 1) = k := by rw [i1]; exact IntWalk.i64_in _ (by omega)
      have i3 : ((k : Int) + 1).toNat = k + 1 := by omega
      have i4 : (k : Int) + 1 < (ps.length : Int) := by omega
      have i5 : IntKind.i64.wrap y = y := IntWalk.i64_in _ (by omega)
      have i6 : IntKind.i64.wrap z = z := IntWalk.i64_in _ (by omega)
      have i7 : k < ps.length := by omega
      go_wp2
      go_quiet (fail)
      clear i1 i2 i3 i5 i6
      go_wp2
      all_goals first
        | (go_ret
           exact ⟨ret_bool (by rw [HR.out]; exact (upB_no hlt (by rw [HYY.out, HZZ.out]; omega)).symm), HB.out.trans (Joins.below_draws _ _ _)⟩)
        | (go_roundw
           case rel =>
             refine ⟨k + 1, .inr hlt, by go_num, fun j hj => ?_, HB.out.trans (Joins.below_draws _ _ _)⟩
             rcases Nat.lt_or_ge j k with h | h
             · exact HA.out j h
             · obtain rfl : j = k := by omega
               rw [HYY.out, HZZ.out]; omega
           case measure => simp [intOf]; omega)
    · have hke : ps.length ≤ k + 1 := by omega
      clear hlt hb
      go_wp2
      go_ret
      refine ⟨ret_bool ?_, HB.out⟩
      rw [HR.out, upB_iff.2 fun j hj => HA.out j (by omega)]
set_option maxHeartbeats 1000000 in
theorem rises_dn (ps : List (Int × Int)) (A : Option Addr) (c : Nat) (w : World) (hR : RdP w A ps) (hm : ps.length ≤ 100) (hy : ∀ i, i < ps.length → 0 ≤ Fix.py ps i ∧ Fix.py ps i ≤ 10000) :
    Calls Try.prog 21 #[.slice A ps.length c, .int .i64 (-1)] w fun e w' => e = .returned (.bool (dnB ps)) ∧ Below w.heap.size w w' := by
  obtain ⟨R, hRR⟩ : ∃ R, R = dnB ps := ⟨_, rfl⟩
  rw [← hRR]
  have HR := Lib.hid hRR
  have HY := Lib.hid hy
  have HRD := Lib.hid hR
  clear hRR hy hR
  go_enter Try.func21, Try.ntmps21
  go_wp2
  go_loopw [5] (fun i wr => ∃ k : Nat, (k = 0 ∨ k < ps.length) ∧ i = .int .i64 ((k : Int) + 1) ∧ (∀ j, j < k → Fix.py ps (j + 1) ≤ Fix.py ps j) ∧ Below w.heap.size w wr) (fun i _ => ps.length + 1 - (intOf i).toNat)
  case atStart => exact ⟨0, .inl rfl, rfl, fun j hj => absurd hj (by omega), Below.refl _ _⟩
  case round =>
    obtain ⟨k, hk, rfl, hall, hb⟩ := hrel
    have HA := Lib.hid hall
    have HB := Lib.hid hb
    have HK := Lib.hid hk
    clear hall hk
    by_cases hlt : k + 1 < ps.length
    · obtain ⟨b, off, rfl, hbl, hcell⟩ := (HRD.out.below hb) (by omega)
      obtain ⟨_, c0⟩ := hcell k (by omega)
      obtain ⟨_, c1⟩ := hcell (k + 1) hlt
      obtain ⟨y1, y2⟩ := HY.out k (by omega)
      obtain ⟨z1, z2⟩ := HY.out (k + 1) hlt
      clear hcell hb
      generalize hy : Fix.py ps k = y at *
      generalize hz : Fix.py ps (k + 1) = z at *
      have HYY := Lib.hid hy
      have HZZ := Lib.hid hz
      clear hy hz
      have i1 : ((k : Int) + 1 - 1) = k := by omega
      have i2 : IntKind.i64.wrap ((k : Int) + 1 - 1) = k := by rw [i1]; exact IntWalk.i64_in _ (by omega)
      have i3 : ((k : Int) + 1).toNat = k + 1 := by omega
      have i4 : (k : Int) + 1 < (ps.length : Int) := by omega
      have i5 : IntKind.i64.wrap (-1 * y) = -1 * y := IntWalk.i64_in _ (by omega)
      have i8 : IntKind.i64.wrap (-y) = -y := IntWalk.i64_in _ (by omega)
      have i6 : IntKind.i64.wrap (-1 * z) = -1 * z := IntWalk.i64_in _ (by omega)
      have i9 : IntKind.i64.wrap (-z) = -z := IntWalk.i64_in _ (by omega)
      have i7 : k < ps.length := by omega
      go_wp2
      go_quiet (fail)
      clear i1 i2 i3 i5 i6 i8 i9
      go_wp2
      all_goals first
        | (go_ret
           exact ⟨ret_bool (by rw [HR.out]; exact (dnB_no hlt (by rw [HYY.out, HZZ.out]; omega)).symm), HB.out.trans (Joins.below_draws _ _ _)⟩)
        | (go_roundw
           case rel =>
             refine ⟨k + 1, .inr hlt, by go_num, fun j hj => ?_, HB.out.trans (Joins.below_draws _ _ _)⟩
             rcases Nat.lt_or_ge j k with h | h
             · exact HA.out j h
             · obtain rfl : j = k := by omega
               rw [HYY.out, HZZ.out]; omega
           case measure => simp [intOf]; omega)
    · have hke : ps.length ≤ k + 1 := by omega
      clear hlt hb
      go_wp2
      go_ret
      refine ⟨ret_bool ?_, HB.out⟩
      rw [HR.out, dnB_iff.2 fun j hj => HA.out j (by omega)]

theorem quote_val {r : Pri.Rule} {base b a : Int} (h : (Pri.quote r base b a).2 = 0) : Pri.Right r ∧ 0 ≤ base ∧ base ≤ 100000000 ∧ (Pri.quote r base b a).1 = Pri.qv r base b a := by
  have h0 : (Pri.factor r b a).2 = 0 := by
    by_cases hz : (Pri.factor r b a).2 = 0
    · exact hz
    · rw [quote_bad base hz] at h; exact absurd h hz
  have hk := (factor_zero h0).1
  by_cases hq : base < 0 ∨ 100000000 < base
  · rw [quote_rng h0 hq] at h; exact absurd h (by decide)
  · exact ⟨hk, by omega, by omega, by rw [quote_ok h0 hq]⟩
theorem quote_err {r : Pri.Rule} {base b a : Int} (h : (Pri.quote r base b a).2 ≠ 0) : (Pri.quote r base b a).1 = 0 := by
  by_cases h0 : (Pri.factor r b a).2 = 0
  · by_cases hq : base < 0 ∨ 100000000 < base
    · rw [quote_rng h0 hq]
    · rw [quote_ok h0 hq] at h; exact absurd rfl h
  · rw [quote_bad base h0]

set_option maxHeartbeats 2000000 in
theorem lawBases (l m s : Int) (dem ahe : List (Int × Int)) (x y b a : Int) (A : Option Addr) (c : Nat) (A' : Option Addr) (c' : Nat) (w : World) (hR : RdP w A dem) (hR' : RdP w A' ahe) :
    Calls Try.prog 8 #[rv l m s A dem.length c A' ahe.length c', .agg #[.int .i64 x, .int .i64 y], .int .i64 b, .int .i64 a] w fun e w' => e = .returned (.bool true) ∧ Below w.heap.size w w' := by
  have HR := Lib.hid hR
  have HR' := Lib.hid hR'
  clear hR hR'
  by_cases hs : dem.length ≤ 100 ∧ ahe.length ≤ 100
  · have HS := Lib.hid hs
    clear hs
    by_cases hxy : y < x
    · go_enter Try.func8, Try.ntmps8
      go_wp2_with fail
      refine (alive_any _).mono ?_
      rintro e w1 ⟨rfl, hb1⟩
      obtain ⟨hc1, hf1⟩ := bcell hb1; have z1 := hb1.size; (try simp at z1); have g1 : Below w.heap.size w w1 := thru (by go_grown) hb1 (by first | omega | (simp; done) | (simp; omega)); (try have s1 : w.heap.size < w1.heap.size := by omega); (try have t1_a1 : w.heap.size < w1.heap.size + 1 := by omega); (try have t1_a2 : w.heap.size < w1.heap.size + 1 + 1 := by omega); (try have t1_a3 : w.heap.size < w1.heap.size + 1 + 1 + 1 := by omega); (try have s1_p1 : w.heap.size + 1 < w1.heap.size := by omega)
      go_wp2_with fail
      refine (few_yes _ _ _ _ _ _ _ _ _ _ HS.out).mono ?_
      rintro e w2 ⟨rfl, rfl⟩
      go_wp2
      go_ret
      exact ⟨rfl, by go_grown⟩
    obtain ⟨q1, hq1⟩ : ∃ f, f = (Pri.quote ⟨l, m, s, dem, ahe⟩ x b a).1 := ⟨_, rfl⟩
    obtain ⟨e1, he1⟩ : ∃ f, f = (Pri.quote ⟨l, m, s, dem, ahe⟩ x b a).2 := ⟨_, rfl⟩
    obtain ⟨q2, hq2⟩ : ∃ f, f = (Pri.quote ⟨l, m, s, dem, ahe⟩ y b a).1 := ⟨_, rfl⟩
    obtain ⟨e2, he2⟩ : ∃ f, f = (Pri.quote ⟨l, m, s, dem, ahe⟩ y b a).2 := ⟨_, rfl⟩
    have Q1 := Lib.hid hq1
    have Q2 := Lib.hid hq2
    have E1 := Lib.hid he1
    have E2 := Lib.hid he2
    clear hq1 hq2 he1 he2
    have key : (e1 != 0) = true ∨ ((e1 != 0) = false ∧ (e2 != 0) = true) ∨ ((e1 != 0) = false ∧ (e2 != 0) = false ∧ q1 ≤ q2) := by
      by_cases h1 : e1 = 0
      · by_cases h2 : e2 = 0
        · refine .inr (.inr ⟨by simpa using h1, by simpa using h2, ?_⟩)
          obtain ⟨hk, b0, b1, v1⟩ := quote_val (E1.out.symm.trans h1)
          obtain ⟨_, _, _, v2⟩ := quote_val (E2.out.symm.trans h2)
          rw [Q1.out, Q2.out, v1, v2]
          exact Pri.qv_base hk b a b0 (by omega)
        · exact .inr (.inl ⟨by simpa using h1, by simpa using h2⟩)
      · exact .inl (by simpa using h1)
    rcases key with k1 | ⟨k1, k2⟩ | ⟨k1, k2, k3⟩
    all_goals
      go_enter Try.func8, Try.ntmps8
      go_wp2_with fail
      refine (alive_any _).mono ?_
      rintro e w1 ⟨rfl, hb1⟩
      have R1 := Lib.hid ((HR.out.below (by go_grown)).below hb1)
      have R1' := Lib.hid ((HR'.out.below (by go_grown)).below hb1)
      obtain ⟨hc1, hf1⟩ := bcell hb1; have z1 := hb1.size; (try simp at z1); have g1 : Below w.heap.size w w1 := thru (by go_grown) hb1 (by first | omega | (simp; done) | (simp; omega)); (try have s1 : w.heap.size < w1.heap.size := by omega); (try have t1_a1 : w.heap.size < w1.heap.size + 1 := by omega); (try have t1_a2 : w.heap.size < w1.heap.size + 1 + 1 := by omega); (try have t1_a3 : w.heap.size < w1.heap.size + 1 + 1 + 1 := by omega); (try have s1_p1 : w.heap.size + 1 < w1.heap.size := by omega)
      go_wp2_with fail
      refine (few_yes _ _ _ _ _ _ _ _ _ _ HS.out).mono ?_
      rintro e w2 ⟨rfl, rfl⟩
      go_wp2_with fail
      refine (quote_any l m s dem ahe A c A' c' x b a _ (R1.out.below (by go_grown)) (R1'.out.below (by go_grown)) HS.out.1 HS.out.2).mono ?_
      rw [← Q1.out, ← E1.out]
      rintro e w2 ⟨rfl, hb2⟩
      have R2 := Lib.hid ((R1.out.below (by go_grown)).below hb2)
      have R2' := Lib.hid ((R1'.out.below (by go_grown)).below hb2)
      obtain ⟨hc2, hf2⟩ := bcell hb2; have z2 := hb2.size; (try simp at z2); have g2 : Below w.heap.size w w2 := thru (by go_grown) hb2 (by first | omega | (simp; done) | (simp; omega)); (try have s2 : w.heap.size < w2.heap.size := by omega); (try have t2_a1 : w.heap.size < w2.heap.size + 1 := by omega); (try have t1_2_a1 : w1.heap.size < w2.heap.size + 1 := by omega); (try have t2_a2 : w.heap.size < w2.heap.size + 1 + 1 := by omega); (try have t1_2_a2 : w1.heap.size < w2.heap.size + 1 + 1 := by omega); (try have t2_a3 : w.heap.size < w2.heap.size + 1 + 1 + 1 := by omega); (try have t1_2_a3 : w1.heap.size < w2.heap.size + 1 + 1 + 1 := by omega); (try have s2_p1 : w.heap.size + 1 < w2.heap.size := by omega); (try have s1_2_p1 : w1.heap.size + 1 < w2.heap.size := by omega); (try have s1_2 : w1.heap.size < w2.heap.size := by omega)
      go_wp2_with fail
      refine (quote_any l m s dem ahe A c A' c' y b a _ R2.out R2'.out HS.out.1 HS.out.2).mono ?_
      rw [← Q2.out, ← E2.out]
      rintro e w3 ⟨rfl, hb3⟩
      obtain ⟨hc3, hf3⟩ := bcell hb3; have z3 := hb3.size; (try simp at z3); have g3 : Below w.heap.size w w3 := thru (by go_grown) hb3 (by first | omega | (simp; done) | (simp; omega)); (try have s3 : w.heap.size < w3.heap.size := by omega); (try have t3_a1 : w.heap.size < w3.heap.size + 1 := by omega); (try have t1_3_a1 : w1.heap.size < w3.heap.size + 1 := by omega); (try have t2_3_a1 : w2.heap.size < w3.heap.size + 1 := by omega); (try have t3_a2 : w.heap.size < w3.heap.size + 1 + 1 := by omega); (try have t1_3_a2 : w1.heap.size < w3.heap.size + 1 + 1 := by omega); (try have t2_3_a2 : w2.heap.size < w3.heap.size + 1 + 1 := by omega); (try have t3_a3 : w.heap.size < w3.heap.size + 1 + 1 + 1 := by omega); (try have t1_3_a3 : w1.heap.size < w3.heap.size + 1 + 1 + 1 := by omega); (try have t2_3_a3 : w2.heap.size < w3.heap.size + 1 + 1 + 1 := by omega); (try have s3_p1 : w.heap.size + 1 < w3.heap.size := by omega); (try have s1_3_p1 : w1.heap.size + 1 < w3.heap.size := by omega); (try have s2_3_p1 : w2.heap.size + 1 < w3.heap.size := by omega); (try have s1_3 : w1.heap.size < w3.heap.size := by omega); (try have s2_3 : w2.heap.size < w3.heap.size := by omega)
      go_wp2
      go_ret
      exact ⟨rfl, by go_grown⟩
  · have HS := Lib.hid hs
    clear hs
    go_enter Try.func8, Try.ntmps8
    go_wp2_with fail
    refine (alive_any _).mono ?_
    rintro e w1 ⟨rfl, hb1⟩
    obtain ⟨hc1, hf1⟩ := bcell hb1; have z1 := hb1.size; (try simp at z1); have g1 : Below w.heap.size w w1 := thru (by go_grown) hb1 (by first | omega | (simp; done) | (simp; omega)); (try have s1 : w.heap.size < w1.heap.size := by omega); (try have t1_a1 : w.heap.size < w1.heap.size + 1 := by omega); (try have t1_a2 : w.heap.size < w1.heap.size + 1 + 1 := by omega); (try have t1_a3 : w.heap.size < w1.heap.size + 1 + 1 + 1 := by omega); (try have s1_p1 : w.heap.size + 1 < w1.heap.size := by omega)
    go_wp2_with fail
    refine (few_no _ _ _ _ _ _ _ _ _ _ HS.out).mono ?_
    rintro e w2 ⟨rfl, rfl⟩
    go_wp2
    go_ret
    exact ⟨rfl, by go_grown⟩
end Go.Proofs.Ytlhbpnealboagaa
