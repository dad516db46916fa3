/-
  No valid plan is worth more than the greatest value.
-/
import Derived.Test.YtljhocdbfbjpiaaPlanTheoryB
namespace Go.Proofs.Ytljhocdbfbjpiaa
open Go.RowKit

theorem plan_le {gs : List Plan.Gun} {hs : List Plan.Hour} (a : Plan.Acc gs hs) {water : Int} {ls : List (List Int)} {x y : Int} (h : (x, y, true) = Plan.worthE gs hs ls) (hv : Plan.validE gs hs water ls = true) : x ≤ Plan.gr gs hs water := by
  unfold Plan.validE at hv
  rw [← h] at hv
  simp at hv
  have hw : ∀ l ∈ ls, 0 ≤ Plan.wS gs l := fun l _ => (Plan.tot_bd (t := Plan.tW gs) (B := 1000000000) (fun i => Plan.tW_bd a i) l).1
  obtain ⟨ss, k1, k2⟩ := Plan.valid_le (gs := gs) (hs := hs) (ls := ls) (v := 0) (w := 0) (left := water) (by show (Plan.worthE gs hs ls).2.2 = true; rw [← h]) (by show (Plan.worthE gs hs ls).2.1 - 0 ≤ water; rw [← h]; simpa using hv.1) hv.2 hw
  have e : (Plan.wFrom gs hs ls 0 0).1 = x := by show (Plan.worthE gs hs ls).1 = x; rw [← h]
  rw [e] at k2
  have := Plan.gr_ge gs hs water ss k1
  omega

theorem wf_up {x : Int} (h : (Lit.int .i64 x).wf = true) : x ≤ 9223372036854775807 := by
  have h2 : -9223372036854775808 ≤ x ∧ x ≤ 9223372036854775807 := by simpa [Lit.wf, IntKind.min, IntKind.max, IntKind.signed, IntKind.bits] using h
  exact h2.2
end Go.Proofs.Ytljhocdbfbjpiaa
