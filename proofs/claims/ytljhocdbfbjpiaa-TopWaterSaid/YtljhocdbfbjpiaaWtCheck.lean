/-
  The check of a split: the sum of the weights.
-/
import Derived.Test.YtljhocdbfbjpiaaWtBits
namespace Go.Proofs.Ytljhocdbfbjpiaa
open Go.RowKit

def sumN (f : Nat → Int) : Nat → Int
  | 0 => 0
  | n + 1 => sumN f n + f n
theorem sumN_bd {f : Nat → Int} {lo hi : Int} : ∀ {n : Nat}, (∀ i, i < n → lo ≤ f i ∧ f i ≤ hi) → (n : Int) * lo ≤ sumN f n ∧ sumN f n ≤ n * hi
  | 0, _ => by simp [sumN]
  | n + 1, h => by
    obtain ⟨h1, h2⟩ := sumN_bd (n := n) fun i hi => h i (by omega)
    have h3 := h n (by omega)
    have e1 : ((n + 1 : Nat) : Int) * lo = n * lo + lo := by rw [Int.natCast_add, Int.add_mul]; simp
    have e2 : ((n + 1 : Nat) : Int) * hi = n * hi + hi := by rw [Int.natCast_add, Int.add_mul]; simp
    rw [e1, e2]
    simp only [sumN]
    omega
theorem sumN_congr {f g : Nat → Int} : ∀ {n : Nat}, (∀ i, i < n → f i = g i) → sumN f n = sumN g n
  | 0, _ => rfl
  | n + 1, h => by rw [sumN, sumN, sumN_congr fun i hi => h i (by omega), h n (by omega)]
abbrev li (xs : List Int) (i : Nat) : Int := xs[i]?.getD 0

theorem plus_any (a b : Int) (w : World) (h1 : -100000000000 ≤ a) (h2 : a ≤ 100000000000) (h3 : -100000000000 ≤ b) (h4 : b ≤ 100000000000) :
    Calls Try.prog 116 #[.int .i64 a, .int .i64 b] w fun e w' => e = .returned (.tuple #[.int .i64 (a + b), .bool true]) ∧ w = w' := by
  go_enter Try.func116, Try.ntmps116
  go_wp2
  go_ret2
  exact ⟨rfl, rfl⟩
theorem same_any (a : Int) (w : World) : Calls Try.prog 106 #[.int .i64 a] w fun e w' => e = .returned (.int .i64 a) ∧ w = w' := by
  go_enter Try.func106, Try.ntmps106
  go_wp2
  go_ret
  exact ⟨rfl, rfl⟩
set_option maxRecDepth 20000 in
set_option maxHeartbeats 2000000 in
theorem running_any (ws : List Int) (A : Option Addr) (c : Nat) (w : World) (hl : ws.length ≤ 8) (hR : Rd w A ws) (hw : ∀ i, i < ws.length → 0 ≤ li ws i ∧ li ws i ≤ 1000000000) :
    Calls Try.prog 105 #[.slice A ws.length c, .func (.func 106) #[] #[]] w fun e w' => e = .returned (.tuple #[.int .i64 (sumN (li ws) ws.length), .bool true]) ∧ w = w' := by
  have HR := Lib.hid hR
  have HW := Lib.hid hw
  have hli : (ws.length : Int) ≤ 8 := by omega
  clear hR hw
  go_enter Try.func105, Try.ntmps105
  go_wp2
  go_loop [6, 7, 12] (fun s b i => ∃ k : Nat, k ≤ ws.length ∧ i = .int .i64 k ∧ s = .int .i64 (sumN (li ws) k) ∧ b = .bool true) (fun _ _ i => ws.length - (intOf i).toNat)
  case atStart => exact ⟨0, Nat.zero_le _, rfl, rfl, rfl⟩
  case round =>
    obtain ⟨k, hk, rfl, rfl, rfl⟩ := hrel
    by_cases hlt : k < ws.length
    · have hlti : (k : Int) < (ws.length : Int) := by omega
      obtain ⟨b, off, rfl, hbz, hc⟩ := HR.out.at_ hlt
      have hx := HW.out k hlt
      have hs := sumN_bd (f := li ws) (n := k) fun i hi => HW.out i (by omega)
      have hst : sumN (li ws) (k + 1) = sumN (li ws) k + li ws k := rfl
      obtain ⟨S, hS⟩ : ∃ S, S = sumN (li ws) k := ⟨_, rfl⟩
      obtain ⟨x, hxe⟩ : ∃ x, x = li ws k := ⟨_, rfl⟩
      rw [← hS, ← hxe] at hst
      rw [← hS] at hs ⊢
      rw [← hxe] at hx
      have hc' : w.cell? ⟨b, off + k, none⟩ = some (.int .i64 x) := by rw [hxe]; exact hc
      have hb1 : 0 ≤ S := by omega
      have hb2 : S ≤ 8000000000 := by
        have : (k : Int) * 1000000000 ≤ 8 * 1000000000 := by omega
        omega
      have HST := Lib.hid hst
      have HLT := Lib.hid hlt
      have HP := Lib.hid (fun W => plus_any S x W (by omega) (by omega) (by omega) (by omega))
      clear hc hS hxe hst hs hlt
      go_wp2_with fail
      refine (same_any x _).mono ?_
      rintro e w1 ⟨rfl, rfl⟩
      go_wp2_with fail
      refine (HP.out _).mono ?_
      rintro e w1 ⟨rfl, rfl⟩
      go_wp2
      go_round
      case rel => exact ⟨k + 1, HLT.out, by go_num, by rw [HST.out], rfl⟩
      case measure => have := HLT.out; simp [intOf]; omega
    · have hke : Hid (sumN (li ws) k = sumN (li ws) ws.length) := Lib.hid (by rw [show k = ws.length by omega])
      go_wp2
      go_ret2
      exact ⟨congrArg (fun z => Ending.returned (.tuple #[.int .i64 z, .bool true])) hke.out, rfl⟩
set_option maxRecDepth 20000 in
set_option maxHeartbeats 2000000 in
theorem check_any (a : Int) (ws : List Int) (A : Option Addr) (c : Nat) (w : World) (ha : 0 ≤ a) (ha2 : a ≤ 10000000) (hl : ws.length ≤ 8) (hR : Rd w A ws) (hw : ∀ i, i < ws.length → 0 ≤ li ws i ∧ li ws i ≤ 1000000000) (hs : 0 < sumN (li ws) ws.length) :
    Calls Try.prog 91 #[.int .i64 a, .slice A ws.length c] w fun e w' => e = .returned (.tuple #[.int .i64 (sumN (li ws) ws.length), .int .i64 0]) ∧ w = w' := by
  have HR := Lib.hid hR
  have HW := Lib.hid hw
  have HL := Lib.hid hl
  have hli : (ws.length : Int) ≤ 8 := by omega
  have hne : (sumN (li ws) ws.length == 0) = false := beq_eq_false_iff_ne.2 (by omega)
  obtain ⟨S, hS⟩ : ∃ S, S = sumN (li ws) ws.length := ⟨_, rfl⟩
  rw [← hS] at hne hs ⊢
  have HS := Lib.hid hS
  clear hR hw hl hS
  go_enter Try.func91, Try.ntmps91
  go_wp2
  go_loop [21] (fun i => ∃ k : Nat, k ≤ ws.length ∧ i = .int .i64 k) (fun i => ws.length - (intOf i).toNat)
  case atStart => exact ⟨0, Nat.zero_le _, rfl⟩
  case round =>
    obtain ⟨k, hk, rfl⟩ := hrel
    by_cases hlt : k < ws.length
    · have hlti : (k : Int) < (ws.length : Int) := by omega
      obtain ⟨b, off, rfl, hbz, hc⟩ := HR.out.at_ hlt
      have hx := HW.out k hlt
      obtain ⟨x, hxe⟩ : ∃ x, x = li ws k := ⟨_, rfl⟩
      rw [← hxe] at hx
      have hc' : w.cell? ⟨b, off + k, none⟩ = some (.int .i64 x) := by rw [hxe]; exact hc
      have HLT := Lib.hid hlt
      clear hc hxe hlt
      go_wp2
      go_round
      case rel => exact ⟨k + 1, HLT.out, by go_num⟩
      case measure => have := HLT.out; simp [intOf]; omega
    · go_wp2_with fail
      refine (running_any ws A c _ HL.out HR.out HW.out).mono ?_
      rw [← HS.out]
      rintro e w1 ⟨rfl, rfl⟩
      go_wp2
      go_ret2
      exact ⟨rfl, rfl⟩
end Go.Proofs.Ytljhocdbfbjpiaa
