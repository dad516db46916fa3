/-
  The library's searches in a slice of ints.
-/
import Derived.Test.YtljhocdbfbjpiaaWalkAid
namespace Go.Proofs.Ytljhocdbfbjpiaa
open Go.RowKit

set_option maxRecDepth 20000 in
set_option maxHeartbeats 2000000 in
theorem index_any (xs : List Int) (x : Int) (A : Option Addr) (c : Nat) (w : World) (hl : xs.length ≤ 100) (hR : Rd w A xs) :
    Calls Try.prog 77 #[.slice A xs.length c, .int .i64 x] w fun e w' => (∃ n : Int, e = .returned (.int .i64 n) ∧ decide (0 ≤ n) = decide (x ∈ xs)) ∧ w = w' := by
  have HR := Lib.hid hR
  clear hR
  go_enter Try.func77, Try.ntmps77
  go_wp2
  go_loopw [8] (fun i wr => ∃ k : Nat, k ≤ xs.length ∧ i = .int .i64 k ∧ Hid (∀ j, j < k → xs[j]?.getD 0 ≠ x) ∧ w = wr) (fun i _ => xs.length - (intOf i).toNat)
  case atStart => exact ⟨0, Nat.zero_le _, rfl, Lib.hid (fun j hj => absurd hj (by omega)), rfl⟩
  case round =>
    obtain ⟨k, hk, rfl, hj, rfl⟩ := hrel
    by_cases hlt : k < xs.length
    · have hlti : (k : Int) < (xs.length : Int) := by omega
      obtain ⟨b, off, rfl, hbz, hc⟩ := HR.out.at_ hlt
      obtain ⟨y, hy⟩ : ∃ y, y = xs[k]?.getD 0 := ⟨_, rfl⟩
      rw [← hy] at hc
      have HY := Lib.hid hy
      have HLT := Lib.hid hlt
      clear hy
      by_cases he : x = y
      · have hin : decide ((0 : Int) ≤ (k : Int)) = decide (x ∈ xs) := by
          have h1 : x ∈ xs := by
            rw [he, HY.out]
            simp [HLT.out]
          rw [decide_eq_true h1, decide_eq_true (by omega : (0 : Int) ≤ (k : Int))]
        have he2 : (x == y) = true := beq_iff_eq.2 he
        have HIN := Lib.hid hin
        clear he hin
        go_wp2
        go_ret
        exact ⟨⟨_, rfl, HIN.out⟩, rfl⟩
      · have he2 : (x == y) = false := beq_eq_false_iff_ne.2 he
        have HE := Lib.hid he
        clear he
        go_wp2
        go_roundw
        case rel =>
          refine ⟨k + 1, HLT.out, by go_num, Lib.hid fun j hjl => ?_, by first | rfl | trivial⟩
          by_cases e : j = k
          · rw [e, ← HY.out]; exact fun h => HE.out h.symm
          · exact hj.out j (by omega)
        case measure => have := HLT.out; simp [intOf]; omega
    · have hlti : decide ((k : Int) < (xs.length : Int)) = false := decide_eq_false (by omega)
      have hke : k = xs.length := by omega
      have hin : decide ((0 : Int) ≤ -1) = decide (x ∈ xs) := by
        have h1 : ¬ x ∈ xs := fun h => by
          obtain ⟨j, hjl, e⟩ := List.getElem_of_mem h
          refine hj.out j (by omega) ?_
          simp [hjl, e]
        rw [decide_eq_false h1]; rfl
      have HIN := Lib.hid hin
      clear hin hke
      go_wp2
      go_ret
      exact ⟨⟨_, rfl, HIN.out⟩, rfl⟩
set_option maxRecDepth 20000 in
set_option maxHeartbeats 2000000 in
theorem contains_any (xs : List Int) (x : Int) (A : Option Addr) (c : Nat) (w : World) (hl : xs.length ≤ 100) (hR : Rd w A xs) :
    Calls Try.prog 46 #[.slice A xs.length c, .int .i64 x] w fun e w' => e = .returned (.bool (decide (x ∈ xs))) ∧ w = w' := by
  have HR := Lib.hid hR
  clear hR
  go_enter Try.func46, Try.ntmps46
  go_wp2_with fail
  refine (index_any xs x A c _ hl HR.out).mono ?_
  rintro e w1 ⟨⟨n, rfl, hn⟩, rfl⟩
  have HN := Lib.hid hn
  clear hn
  go_wp2
  go_ret
  exact ⟨ret_bool HN.out, rfl⟩
end Go.Proofs.Ytljhocdbfbjpiaa
