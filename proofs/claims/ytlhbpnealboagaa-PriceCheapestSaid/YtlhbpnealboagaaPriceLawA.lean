/-
  The walks of the laws that hold the prices against the reference.
-/
import Derived.Test.YtlhbpnealboagaaPriceAlive
namespace Go.Proofs.Ytlhbpnealboagaa
open Go.RowKit

theorem few_any (l m s : Int) (A : Option Addr) (n c : Nat) (A' : Option Addr) (n' c' : Nat) (w : World) :
    Calls Try.prog 12 #[rv l m s A n c A' n' c'] w fun e w' => e = .returned (.bool (decide (n ≤ 100) && decide (n' ≤ 100))) ∧ w.alloc (rcells l m s A n c A' n' c') = w' := by
  go_enter Try.func12, Try.ntmps12
  go_wp2
  all_goals
    go_ret
    exact ⟨ret_bool (by rw [Bool.eq_iff_iff]; simp; try omega), rfl⟩
theorem few_yes (l m s : Int) (A : Option Addr) (n c : Nat) (A' : Option Addr) (n' c' : Nat) (w : World) (h : n ≤ 100 ∧ n' ≤ 100) :
    Calls Try.prog 12 #[rv l m s A n c A' n' c'] w fun e w' => e = .returned (.bool true) ∧ w.alloc (rcells l m s A n c A' n' c') = w' :=
  (few_any l m s A n c A' n' c' w).mono fun e w' ⟨h1, h2⟩ => ⟨by rw [h1]; exact ret_bool (by simp; omega), h2⟩
theorem few_no (l m s : Int) (A : Option Addr) (n c : Nat) (A' : Option Addr) (n' c' : Nat) (w : World) (h : ¬ (n ≤ 100 ∧ n' ≤ 100)) :
    Calls Try.prog 12 #[rv l m s A n c A' n' c'] w fun e w' => e = .returned (.bool false) ∧ w.alloc (rcells l m s A n c A' n' c') = w' :=
  (few_any l m s A n c A' n' c' w).mono fun e w' ⟨h1, h2⟩ => ⟨by rw [h1]; exact ret_bool (by simp; omega), h2⟩

set_option maxHeartbeats 2000000 in
theorem lawFactors (l m s : Int) (dem ahe : List (Int × Int)) (b a : Int) (A : Option Addr) (c : Nat) (A' : Option Addr) (c' : Nat) (w : World) (hR : RdP w A dem) (hR' : RdP w A' ahe) :
    Calls Try.prog 4 #[rv l m s A dem.length c A' ahe.length c', .int .i64 b, .int .i64 a] w fun e w' => e = .returned (.bool true) ∧ Below w.heap.size w w' := by
  have HR := Lib.hid hR
  have HR' := Lib.hid hR'
  clear hR hR'
  by_cases hs : dem.length ≤ 100 ∧ ahe.length ≤ 100
  · have HS := Lib.hid hs
    clear hs
    obtain ⟨f1, hf1⟩ : ∃ f, f = (Pri.factor ⟨l, m, s, dem, ahe⟩ b a).1 := ⟨_, rfl⟩
    obtain ⟨f2, hf2⟩ : ∃ f, f = (Pri.factor ⟨l, m, s, dem, ahe⟩ b a).2 := ⟨_, rfl⟩
    have F1 := Lib.hid hf1
    have F2 := Lib.hid hf2
    clear hf1 hf2
    go_enter Try.func4, Try.ntmps4
    go_wp2_with fail
    refine (alive_any _).mono ?_
    rintro e w1 ⟨rfl, hb1⟩
    have R1 := Lib.hid ((HR.out.below (by go_grown)).below hb1)
    have R1' := Lib.hid ((HR'.out.below (by go_grown)).below hb1)
    obtain ⟨hc1, hf1⟩ := bcell hb1; have z1 := hb1.size; (try simp at z1); have g1 : Below w.heap.size w w1 := thru (by go_grown) hb1 (by first | omega | (simp; done) | (simp; omega)); (try have s1 : w.heap.size < w1.heap.size := by omega); (try have t1_a1 : w.heap.size < w1.heap.size + 1 := by omega); (try have t1_a2 : w.heap.size < w1.heap.size + 1 + 1 := by omega)
    go_wp2_with fail
    refine (few_yes _ _ _ _ _ _ _ _ _ _ HS.out).mono ?_
    rintro e w2 ⟨rfl, rfl⟩
    go_wp2_with fail
    refine (factor_any l m s dem ahe A c A' c' b a _ (R1.out.below (by go_grown)) (R1'.out.below (by go_grown)) HS.out.1 HS.out.2).mono ?_
    rw [← F1.out, ← F2.out]
    rintro e w2 ⟨rfl, hb2⟩
    have R2 := Lib.hid ((R1.out.below (by go_grown)).below hb2)
    have R2' := Lib.hid ((R1'.out.below (by go_grown)).below hb2)
    obtain ⟨hc2, hf2⟩ := bcell hb2; have z2 := hb2.size; (try simp at z2); have g2 : Below w.heap.size w w2 := thru (by go_grown) hb2 (by first | omega | (simp; done) | (simp; omega)); (try have s2 : w.heap.size < w2.heap.size := by omega); (try have t2_a1 : w.heap.size < w2.heap.size + 1 := by omega); (try have t1_2_a1 : w1.heap.size < w2.heap.size + 1 := by omega); (try have t2_a2 : w.heap.size < w2.heap.size + 1 + 1 := by omega); (try have t1_2_a2 : w1.heap.size < w2.heap.size + 1 + 1 := by omega); (try have s1_2 : w1.heap.size < w2.heap.size := by omega)
    go_wp2_with fail
    refine (rfactor_any l m s dem ahe A c A' c' b a _ R2.out R2'.out HS.out.1 HS.out.2).mono ?_
    rw [← F1.out, ← F2.out]
    rintro e w3 ⟨rfl, hb3⟩
    obtain ⟨hc3, hf3⟩ := bcell hb3; have z3 := hb3.size; (try simp at z3); have g3 : Below w.heap.size w w3 := thru (by go_grown) hb3 (by first | omega | (simp; done) | (simp; omega)); (try have s3 : w.heap.size < w3.heap.size := by omega); (try have t3_a1 : w.heap.size < w3.heap.size + 1 := by omega); (try have t1_3_a1 : w1.heap.size < w3.heap.size + 1 := by omega); (try have t2_3_a1 : w2.heap.size < w3.heap.size + 1 := by omega); (try have t3_a2 : w.heap.size < w3.heap.size + 1 + 1 := by omega); (try have t1_3_a2 : w1.heap.size < w3.heap.size + 1 + 1 := by omega); (try have t2_3_a2 : w2.heap.size < w3.heap.size + 1 + 1 := by omega); (try have s1_3 : w1.heap.size < w3.heap.size := by omega); (try have s2_3 : w2.heap.size < w3.heap.size := by omega)
    go_wp2
    go_ret
    exact ⟨rfl, by go_grown⟩
  · have HS := Lib.hid hs
    clear hs
    go_enter Try.func4, Try.ntmps4
    go_wp2_with fail
    refine (alive_any _).mono ?_
    rintro e w1 ⟨rfl, hb1⟩
    obtain ⟨hc1, hf1⟩ := bcell hb1; have z1 := hb1.size; (try simp at z1); have g1 : Below w.heap.size w w1 := thru (by go_grown) hb1 (by first | omega | (simp; done) | (simp; omega)); (try have s1 : w.heap.size < w1.heap.size := by omega); (try have t1_a1 : w.heap.size < w1.heap.size + 1 := by omega); (try have t1_a2 : w.heap.size < w1.heap.size + 1 + 1 := by omega)
    go_wp2_with fail
    refine (few_no _ _ _ _ _ _ _ _ _ _ HS.out).mono ?_
    rintro e w2 ⟨rfl, rfl⟩
    go_wp2
    go_ret
    exact ⟨rfl, by go_grown⟩
end Go.Proofs.Ytlhbpnealboagaa
