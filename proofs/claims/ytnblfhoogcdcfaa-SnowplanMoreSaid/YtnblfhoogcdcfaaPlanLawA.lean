/-
  The walks of the laws on the first error, the value of a plan, and the greatest value.
-/
import Derived.Test.YtnblfhoogcdcfaaPlanAlive
import Derived.Test.YtnblfhoogcdcfaaPlanWalkH
namespace Go.Proofs.Ytnblfhoogcdcfaa
open Go.RowKit

set_option maxRecDepth 4000 in
set_option maxHeartbeats 2000000 in
theorem lawRight (gs : List Plan.Gun) (hs : List Plan.Hour) (A : Option Addr) (c : Nat) (B : Option Addr) (d : Nat) (w : World) (hG : RdG w A gs) (hH : RdH w B hs) :
    Calls Try.prog 3 #[.slice A gs.length c, .slice B hs.length d] w fun e w' => e = .returned (.bool true) ∧ Below w.heap.size w w' := by
  have HG := Lib.hid hG
  have HH := Lib.hid hH
  obtain ⟨R, hR⟩ : ∃ R, R = Plan.rightE gs hs := ⟨_, rfl⟩
  have HR := Lib.hid hR
  clear hG hH hR
  by_cases h1 : 50 < gs.length
  · have h1i : (50 : Int) < (gs.length : Int) := by omega
    go_enter Try.func3, Try.ntmps3
    go_wp2_with fail
    refine (alive_any _).mono ?_
    rintro e w1 ⟨rfl, hb1⟩
    go_wp2
    go_ret
    exact ⟨rfl, hb1⟩
  · have h1i : decide ((50 : Int) < (gs.length : Int)) = false := decide_eq_false (by omega)
    by_cases h2 : 50 < hs.length
    · have h2i : (50 : Int) < (hs.length : Int) := by omega
      go_enter Try.func3, Try.ntmps3
      go_wp2_with fail
      refine (alive_any _).mono ?_
      rintro e w1 ⟨rfl, hb1⟩
      go_wp2
      go_ret
      exact ⟨rfl, hb1⟩
    · have h2i : decide ((50 : Int) < (hs.length : Int)) = false := decide_eq_false (by omega)
      go_enter Try.func3, Try.ntmps3
      go_wp2_with fail
      refine (alive_any _).mono ?_
      rintro e w1 ⟨rfl, hb1⟩
      have HB1 := Lib.hid hb1
      clear hb1
      go_wp2_with fail
      refine (pright_any gs hs A B c d _ (HG.out.below HB1.out) (HH.out.below HB1.out)).mono ?_
      rw [← HR.out]
      rintro e w2 ⟨rfl, hb2⟩
      have HB2 := Lib.hid (thru HB1.out hb2 HB1.out.size)
      clear hb2
      go_wp2_with fail
      refine (rright_any gs hs A B c d _ (HG.out.below HB2.out) (HH.out.below HB2.out)).mono ?_
      rw [← HR.out]
      rintro e w3 ⟨rfl, hb3⟩
      have HB3 := Lib.hid (thru HB2.out hb3 HB2.out.size)
      clear hb3
      go_wp2
      go_ret
      exact ⟨rfl, HB3.out⟩
end Go.Proofs.Ytnblfhoogcdcfaa
