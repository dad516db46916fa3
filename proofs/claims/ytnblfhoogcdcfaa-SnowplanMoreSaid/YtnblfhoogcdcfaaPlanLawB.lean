/-
  The walk of the law on the value of a plan.
-/
import Derived.Test.YtnblfhoogcdcfaaPlanLawA
namespace Go.Proofs.Ytnblfhoogcdcfaa
open Go.RowKit

def accE (gs : List Plan.Gun) (hs : List Plan.Hour) : Bool := decide (gs.length ≤ 5) && (decide (hs.length ≤ 3) && decide (Plan.rightE gs hs = 0))
theorem accE_of {gs : List Plan.Gun} {hs : List Plan.Hour} (h : accE gs hs = true) : Plan.rightE gs hs = 0 := by
  unfold accE at h; simp at h; exact h.2.2
set_option maxRecDepth 4000 in
set_option maxHeartbeats 2000000 in
theorem accepted_any (gs : List Plan.Gun) (hs : List Plan.Hour) (A B : Option Addr) (c d : Nat) (w : World) (hG : RdG w A gs) (hH : RdH w B hs) :
    Calls Try.prog 13 #[.slice A gs.length c, .slice B hs.length d] w fun e w' => e = .returned (.bool (accE gs hs)) ∧ Below w.heap.size w w' := by
  have HG := Lib.hid hG
  have HH := Lib.hid hH
  clear hG hH
  by_cases h1 : gs.length ≤ 5
  · by_cases h2 : hs.length ≤ 3
    · obtain ⟨R, hR⟩ : ∃ R, R = Plan.rightE gs hs := ⟨_, rfl⟩
      have hacc : accE gs hs = decide (R = 0) := by unfold accE; rw [hR]; simp [h1, h2]
      rw [hacc]
      have HR := Lib.hid hR
      clear hR hacc
      have h1i : (gs.length : Int) ≤ 5 := by omega
      have h2i : (hs.length : Int) ≤ 3 := by omega
      go_enter Try.func13, Try.ntmps13
      go_wp2_with fail
      refine (rright_any gs hs A B c d _ HG.out HH.out).mono ?_
      rw [← HR.out]
      rintro e w1 ⟨rfl, hb1⟩
      go_wp2
      go_ret
      exact ⟨ret_bool (by by_cases e : R = 0 <;> simp [e]), hb1⟩
    · have hacc : accE gs hs = false := by unfold accE; simp [h2]
      rw [hacc]
      have h1i : (gs.length : Int) ≤ 5 := by omega
      have h2i : decide ((hs.length : Int) ≤ 3) = false := decide_eq_false (by omega)
      go_enter Try.func13, Try.ntmps13
      go_wp2
      go_ret
      exact ⟨rfl, Below.refl _ _⟩
  · have hacc : accE gs hs = false := by unfold accE; simp [h1]
    rw [hacc]
    have h1i : decide ((gs.length : Int) ≤ 5) = false := decide_eq_false (by omega)
    go_enter Try.func13, Try.ntmps13
    go_wp2
    go_ret
    exact ⟨rfl, Below.refl _ _⟩
set_option maxRecDepth 4000 in
set_option maxHeartbeats 2000000 in
theorem small_any (ls : List (List Int)) (A : Option Addr) (c : Nat) (w : World) (hL : RdL w A ls) :
    Calls Try.prog 14 #[.slice A ls.length c] w fun e w' => ∃ b : Bool, e = .returned (.bool b) ∧ w = w' := by
  have HL := Lib.hid hL
  clear hL
  go_enter Try.func14, Try.ntmps14
  go_wp2
  go_loopw [3] (fun i wr => ∃ k : Nat, k ≤ 21 ∧ k ≤ ls.length ∧ i = .int .i64 k ∧ w = wr) (fun i _ => 21 - (intOf i).toNat)
  case atStart => exact ⟨0, by omega, Nat.zero_le _, rfl, rfl⟩
  case round =>
    obtain ⟨k, hk, hkl, rfl, rfl⟩ := hrel
    by_cases hlt : k < ls.length
    · have hlti : (k : Int) < (ls.length : Int) := by omega
      by_cases h21 : k < 21
      · have h21i : (k : Int) < 21 := by omega
        obtain ⟨b, off, Ai, ci, rfl, hbz, hc, _⟩ := HL.out.at_ hlt
        have HLT := Lib.hid (And.intro hlt h21)
        by_cases h20 : 20 < (Plan.lAt ls k).length
        · have h20i : (20 : Int) < ((Plan.lAt ls k).length : Int) := by omega
          go_wp2
          go_ret
          exact ⟨_, rfl, rfl⟩
        · have h20i : decide ((20 : Int) < ((Plan.lAt ls k).length : Int)) = false := decide_eq_false (by omega)
          have h20j : ((Plan.lAt ls k).length : Int) ≤ 20 := by omega
          go_wp2
          go_roundw
          case rel => exact ⟨k + 1, by have := HLT.out; omega, by have := HLT.out; omega, by go_num, by first | rfl | trivial⟩
          case measure => have := HLT.out; simp [intOf]; omega
      · have h21i : decide ((k : Int) < 21) = false := decide_eq_false (by omega)
        go_wp2
        go_ret
        exact ⟨_, rfl, rfl⟩
    · have hlti : decide ((k : Int) < (ls.length : Int)) = false := decide_eq_false (by omega)
      go_wp2
      go_ret
      exact ⟨_, rfl, rfl⟩

set_option maxRecDepth 4000 in
set_option maxHeartbeats 4000000 in
theorem lawWorth (gs : List Plan.Gun) (hs : List Plan.Hour) (water : Int) (ls : List (List Int)) (A : Option Addr) (c : Nat) (B : Option Addr) (d : Nat) (C : Option Addr) (g : Nat) (w : World) (hG : RdG w A gs) (hH : RdH w B hs) (hL : RdL w C ls) :
    Calls Try.prog 4 #[.slice A gs.length c, .slice B hs.length d, .int .i64 water, .slice C ls.length g] w fun e w' => e = .returned (.bool true) ∧ Below w.heap.size w w' := by
  have HG := Lib.hid hG
  have HH := Lib.hid hH
  have HL := Lib.hid hL
  clear hG hH hL
  cases ha : accE gs hs
  · have HA := Lib.hid ha
    clear ha
    go_enter Try.func4, Try.ntmps4
    go_wp2_with fail
    refine (alive_any _).mono ?_
    rintro e w1 ⟨rfl, hb1⟩
    have HB1 := Lib.hid hb1
    clear hb1
    go_wp2_with fail
    refine (accepted_any gs hs A B c d _ (HG.out.below HB1.out) (HH.out.below HB1.out)).mono ?_
    rw [HA.out]
    rintro e w2 ⟨rfl, hb2⟩
    have HB2 := Lib.hid (thru HB1.out hb2 HB1.out.size)
    clear hb2
    go_wp2
    go_ret
    exact ⟨rfl, HB2.out⟩
  · have hacc := Plan.acc_of (accE_of ha)
    have HACC := Lib.hid hacc
    have HA := Lib.hid ha
    obtain ⟨⟨rv, rx, rb⟩, hR⟩ : ∃ R, R = Plan.worthE gs hs ls := ⟨_, rfl⟩
    obtain ⟨V, hV⟩ : ∃ V, V = Plan.validE gs hs water ls := ⟨_, rfl⟩
    have HR := Lib.hid hR
    have HV := Lib.hid hV
    clear ha hacc hR hV
    go_enter Try.func4, Try.ntmps4
    go_wp2_with fail
    refine (alive_any _).mono ?_
    rintro e w1 ⟨rfl, hb1⟩
    have HB1 := Lib.hid hb1
    clear hb1
    go_wp2_with fail
    refine (accepted_any gs hs A B c d _ (HG.out.below HB1.out) (HH.out.below HB1.out)).mono ?_
    rw [HA.out]
    rintro e w2 ⟨rfl, hb2⟩
    have HB2 := Lib.hid (thru HB1.out hb2 HB1.out.size)
    clear hb2
    go_wp2_with fail
    refine (small_any ls C g _ (HL.out.below HB2.out)).mono ?_
    rintro e w3 ⟨b, rfl, rfl⟩
    cases b with
    | false =>
      go_wp2
      go_ret
      exact ⟨rfl, HB2.out⟩
    | true =>
      go_wp2_with fail
      refine (pworth_any gs hs ls A B C c d g _ HACC.out (HG.out.below HB2.out) (HH.out.below HB2.out) (HL.out.below HB2.out)).mono ?_
      rw [← HR.out]
      rintro e w3 ⟨rfl, hb3⟩
      have HB3 := Lib.hid (thru HB2.out hb3 HB2.out.size)
      clear hb3
      go_wp2_with fail
      refine (rworth_any gs hs ls A B C c d g _ HACC.out (HG.out.below HB3.out) (HH.out.below HB3.out) (HL.out.below HB3.out)).mono ?_
      rw [← HR.out]
      rintro e w4 ⟨rfl, hb4⟩
      have HB4 := Lib.hid (thru HB3.out hb4 HB3.out.size)
      clear hb4
      go_wp2_with fail
      refine (pvalid_any gs hs ls water A B C c d g _ HACC.out (HG.out.below HB4.out) (HH.out.below HB4.out) (HL.out.below HB4.out)).mono ?_
      rw [← HV.out]
      rintro e w5 ⟨rfl, hb5⟩
      have HB5 := Lib.hid (thru HB4.out hb5 HB4.out.size)
      clear hb5
      go_wp2_with fail
      refine (rvalid_any gs hs ls water A B C c d g _ HACC.out (HG.out.below HB5.out) (HH.out.below HB5.out) (HL.out.below HB5.out)).mono ?_
      rw [← HV.out]
      rintro e w6 ⟨rfl, hb6⟩
      have HB6 := Lib.hid (thru HB5.out hb6 HB5.out.size)
      clear hb6
      go_wp2
      go_ret
      exact ⟨rfl, HB6.out⟩
end Go.Proofs.Ytnblfhoogcdcfaa
