/-
  The walk of the law that holds the look at a rule against the reference.
-/
import Derived.Test.YtlhbpnealboagaaPriceLawA
namespace Go.Proofs.Ytlhbpnealboagaa
open Go.RowKit

set_option maxHeartbeats 2000000 in
theorem lawChecks (l m s : Int) (dem ahe : List (Int × Int)) (A : Option Addr) (c : Nat) (A' : Option Addr) (c' : Nat) (w : World) (hR : RdP w A dem) (hR' : RdP w A' ahe) :
    Calls Try.prog 3 #[rv l m s A dem.length c A' ahe.length c'] w fun e w' => e = .returned (.bool true) ∧ Below w.heap.size w w' := by
  have HR := Lib.hid hR
  have HR' := Lib.hid hR'
  clear hR hR'
  by_cases hs : dem.length ≤ 100 ∧ ahe.length ≤ 100
  · have HS := Lib.hid hs
    clear hs
    obtain ⟨f1, hf1⟩ : ∃ f, f = Pri.right ⟨l, m, s, dem, ahe⟩ := ⟨_, rfl⟩
    have F1 := Lib.hid hf1
    clear hf1
    go_enter Try.func3, Try.ntmps3
    go_wp2_with fail
    refine (alive_any _).mono ?_
    rintro e w1 ⟨rfl, hb1⟩
    have R1 := Lib.hid ((HR.out.below (by go_grown)).below hb1)
    have R1' := Lib.hid ((HR'.out.below (by go_grown)).below hb1)
    have C1 : CellsR w1 w.heap.size l m s A dem.length c A' ahe.length c' := CellsR.below (w := w.alloc (rcells l m s A dem.length c A' ahe.length c')) ⟨by simp [go_sem], by simp [go_sem], by simp [go_sem], by simp [go_sem], by simp [go_sem], by simp⟩ hb1
    have hb1' : Below w.heap.size w w1 := ((Below.refl _ _).alloc (Nat.le_refl _) _).trans (hb1.mono (by simp))
    have HB1 := Lib.hid hb1'
    clear hb1'
    obtain ⟨c0, c1, c2, c3, c4, cl⟩ := C1
    clear hb1
    go_wp2_with fail
    go_region_held3 (fun w' => w'.cell? ⟨w.heap.size, 0, none⟩ = some (.int .i64 l) ∧ w'.cell? ⟨w.heap.size, 1, none⟩ = some (.int .i64 m) ∧ w'.cell? ⟨w.heap.size, 2, none⟩ = some (.int .i64 s) ∧ w'.cell? ⟨w.heap.size, 3, none⟩ = some (.slice A dem.length c) ∧ w'.cell? ⟨w.heap.size, 4, none⟩ = some (.slice A' ahe.length c') ∧ Below w1.heap.size w1 w') (first | (simp [go_sem, *]; done) | (refine ⟨?_, ?_, ?_, ?_, ?_, ?_⟩ <;> first | (simp [go_sem, *]; done) | go_grown))
      (first
        | (go_at_call 12; refine (few_yes _ _ _ _ _ _ _ _ _ _ HS.out).mono ?_; rintro e w2 ⟨rfl, rfl⟩)
        | (go_at_call 13; refine (pright_any l m s dem ahe A c A' c' _ (R1.out.below (by first | assumption | ((repeat (first | refine below_drewN ?_ _ | refine below_drew ?_)); go_grown))) (R1'.out.below (by first | assumption | ((repeat (first | refine below_drewN ?_ _ | refine below_drew ?_)); go_grown))) HS.out.1 HS.out.2).mono ?_; rw [← F1.out]; rintro e w2 ⟨rfl, hb2⟩; have dl : w1.heap.size ≤ w2.heap.size := Nat.le_trans (by first | (simp; done) | (simp; omega) | omega) hb2.size; have d0 := hb2.cell (p := ⟨w.heap.size, 0, none⟩) (by first | (simp; done) | (simp; omega) | omega); have d1 := hb2.cell (p := ⟨w.heap.size, 1, none⟩) (by first | (simp; done) | (simp; omega) | omega); have d2 := hb2.cell (p := ⟨w.heap.size, 2, none⟩) (by first | (simp; done) | (simp; omega) | omega); have d3 := hb2.cell (p := ⟨w.heap.size, 3, none⟩) (by first | (simp; done) | (simp; omega) | omega); have d4 := hb2.cell (p := ⟨w.heap.size, 4, none⟩) (by first | (simp; done) | (simp; omega) | omega); have dB : Below w1.heap.size w1 w2 := thru (by first | assumption | ((repeat (first | refine below_drewN ?_ _ | refine below_drew ?_)); go_grown)) hb2 (by first | (simp; done) | (simp; omega) | omega))
        | (go_at_call 14; refine (rright_any l m s dem ahe A c A' c' _ (R1.out.below (by first | assumption | ((repeat (first | refine below_drewN ?_ _ | refine below_drew ?_)); go_grown))) (R1'.out.below (by first | assumption | ((repeat (first | refine below_drewN ?_ _ | refine below_drew ?_)); go_grown))) HS.out.1 HS.out.2).mono ?_; rw [← F1.out]; rintro e w2 ⟨rfl, hb2⟩; have dl : w1.heap.size ≤ w2.heap.size := Nat.le_trans (by first | (simp; done) | (simp; omega) | omega) hb2.size; have d0 := hb2.cell (p := ⟨w.heap.size, 0, none⟩) (by first | (simp; done) | (simp; omega) | omega); have d1 := hb2.cell (p := ⟨w.heap.size, 1, none⟩) (by first | (simp; done) | (simp; omega) | omega); have d2 := hb2.cell (p := ⟨w.heap.size, 2, none⟩) (by first | (simp; done) | (simp; omega) | omega); have d3 := hb2.cell (p := ⟨w.heap.size, 3, none⟩) (by first | (simp; done) | (simp; omega) | omega); have d4 := hb2.cell (p := ⟨w.heap.size, 4, none⟩) (by first | (simp; done) | (simp; omega) | omega); have dB : Below w1.heap.size w1 w2 := thru (by first | assumption | ((repeat (first | refine below_drewN ?_ _ | refine below_drew ?_)); go_grown)) hb2 (by first | (simp; done) | (simp; omega) | omega)))
    all_goals
      go_wp2
      go_ret
      exact ⟨rfl, HB1.out.trans (dB.mono HB1.out.size)⟩
  · have HS := Lib.hid hs
    clear hs
    go_enter Try.func3, Try.ntmps3
    go_wp2_with fail
    refine (alive_any _).mono ?_
    rintro e w1 ⟨rfl, hb1⟩
    obtain ⟨hc1, hf1⟩ := bcell hb1; have z1 := hb1.size; (try simp at z1); have g1 : Below w.heap.size w w1 := thru (by go_grown) hb1 (by first | omega | (simp; done) | (simp; omega)); (try have s1 : w.heap.size < w1.heap.size := by omega); (try have t1_a1 : w.heap.size < w1.heap.size + 1 := by omega); (try have t1_a2 : w.heap.size < w1.heap.size + 1 + 1 := by omega)
    go_wp2_with fail
    go_region_with (first
        | (go_at_call 12; refine (few_no _ _ _ _ _ _ _ _ _ _ HS.out).mono ?_; rintro e w2 ⟨rfl, rfl⟩))
    all_goals
      go_wp2
      go_ret
      exact ⟨rfl, by go_grown⟩
end Go.Proofs.Ytlhbpnealboagaa
