/-
  The greatest number of a slice; the sections that need help, at the example.
-/
import Derived.Test.YtljhocdbfbjpiaaSliceHas
import Derived.Test.YtljhocdbfbjpiaaPlanCells
import Derived.Deep.AppendLies
namespace Go.Proofs.Ytljhocdbfbjpiaa
open Go.RowKit

def maxTo (xs : List Int) : Nat → Int
  | 0 => xs[0]?.getD 0
  | k + 1 => max (maxTo xs k) (xs[k + 1]?.getD 0)
set_option maxRecDepth 20000 in
set_option maxHeartbeats 2000000 in
theorem max_any (xs : List Int) (A : Option Addr) (c : Nat) (w : World) (h0 : 0 < xs.length) (hl : xs.length ≤ 100) (hR : Rd w A xs) :
    Calls Try.prog 82 #[.slice A xs.length c] w fun e w' => e = .returned (.int .i64 (maxTo xs (xs.length - 1))) ∧ w = w' := by
  obtain ⟨b, off, rfl, hbz, hc0⟩ := hR.at_ h0
  obtain ⟨m0, hm0⟩ : ∃ m, m = maxTo xs 0 := ⟨_, rfl⟩
  rw [Nat.add_zero] at hc0
  have hc : w.cell? ⟨b, off, none⟩ = some (.int .i64 m0) := by rw [hm0]; exact hc0
  have hl1 : decide ((xs.length : Int) < 1) = false := decide_eq_false (by omega)
  have hl2 : (0 : Int) < (xs.length : Int) := by omega
  have HR := Lib.hid hR
  have HM := Lib.hid hm0
  have H0 := Lib.hid h0
  clear hR hm0 hc0 h0
  go_enter Try.func82, Try.ntmps82
  go_wp2
  go_loopw [3, 4] (fun i3 i wr => ∃ k : Nat, 1 ≤ k ∧ k ≤ xs.length ∧ i = .int .i64 k ∧ i3 = .int .i64 (maxTo xs (k - 1)) ∧ w = wr) (fun _ i _ => xs.length - (intOf i).toNat)
  case atStart => exact ⟨1, Nat.le_refl _, H0.out, rfl, by rw [HM.out], rfl⟩
  case round =>
    obtain ⟨k, hk1, hk, rfl, rfl, rfl⟩ := hrel
    obtain ⟨M, hM⟩ : ∃ M, M = maxTo xs (k - 1) := ⟨_, rfl⟩
    by_cases hlt : k < xs.length
    · have hlti : (k : Int) < (xs.length : Int) := by omega
      obtain ⟨b2, off2, e2, -, hck⟩ := HR.out.at_ hlt
      injection e2 with e2
      injection e2 with e21 e22
      subst e21 e22
      obtain ⟨y, hy⟩ : ∃ y, y = xs[k]?.getD 0 := ⟨_, rfl⟩
      rw [← hy] at hck
      have hst : maxTo xs k = max M y := by
        obtain ⟨j, rfl⟩ : ∃ j, k = j + 1 := ⟨k - 1, by omega⟩
        rw [hM, hy]; rfl
      rw [← hM]
      have HST := Lib.hid hst
      have HLT := Lib.hid (And.intro hk1 hlt)
      clear hM hy hst
      rcases Int.lt_or_le M y with hmy | hmy
      · have hmx : max M y = y := by omega
        have HMX := Lib.hid hmx
        clear hmx
        go_wp2
        go_roundw
        case rel => exact ⟨k + 1, by omega, HLT.out.2, by go_num, by simp only [Nat.add_sub_cancel, HST.out, HMX.out], by first | rfl | trivial⟩
        case measure => have := HLT.out; simp [intOf]; omega
      · have hmx : max M y = M := by omega
        have hmy2 : ¬ M < y := by omega
        have HMX := Lib.hid hmx
        clear hmx
        go_wp2
        go_roundw
        case rel => exact ⟨k + 1, by omega, HLT.out.2, by go_num, by simp only [Nat.add_sub_cancel, HST.out, HMX.out], by first | rfl | trivial⟩
        case measure => have := HLT.out; simp [intOf]; omega
    · have hlti : decide ((k : Int) < (xs.length : Int)) = false := decide_eq_false (by omega)
      have hke : k = xs.length := by omega
      have HKE := Lib.hid hke
      clear hke
      go_wp2
      go_ret
      refine ⟨ret_int (by rw [HKE.out]), rfl⟩
end Go.Proofs.Ytljhocdbfbjpiaa
