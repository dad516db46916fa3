/-
  The walk of the law on the plan that is found.
-/
import Derived.Test.YtnblfhoogcdcfaaPlanLawD
namespace Go.Proofs.Ytnblfhoogcdcfaa
open Go.RowKit

set_option maxRecDepth 4000 in
set_option maxHeartbeats 4000000 in
theorem lawFinds (gs : List Plan.Gun) (hs : List Plan.Hour) (water : Int) (A : Option Addr) (c : Nat) (B : Option Addr) (d : Nat) (w : World) (hG : RdG w A gs) (hH : RdH w B hs) (hwm : water ≤ 9223372036854775807) (hd : hs.length ≤ d) :
    Calls Try.prog 6 #[.slice A gs.length c, .slice B hs.length d, .int .i64 water] w fun e w' => e = .returned (.bool true) ∧ Below w.heap.size w w' := by
  have HG := Lib.hid hG
  have HH := Lib.hid hH
  have HW := Lib.hid hwm
  have HD := Lib.hid hd
  clear hG hH hwm hd
  cases ha : accE gs hs
  · have HA := Lib.hid ha
    clear ha
    go_enter Try.func6, Try.ntmps6
    go_wp2_with fail
    refine (alive_any _).mono ?_
    rintro e w1 ⟨rfl, hb1⟩
    have HB1 := Lib.hid hb1
    clear hb1
    go_wp2_with fail
    refine (accepted_any gs hs A B c d _ (HG.out.below HB1.out) (HH.out.below HB1.out)).mono ?_
    rw [HA.out]
    rintro e w2 ⟨rfl, hb2⟩
    have HB2 := Lib.hid (thru HB1.out hb2 HB1.out.size)
    clear hb2
    go_wp2
    go_ret
    exact ⟨rfl, HB2.out⟩
  · have HRT := Lib.hid (accE_of ha)
    have HACC := Lib.hid (Plan.acc_of HRT.out)
    have HA := Lib.hid ha
    clear ha
    by_cases h0 : water < 0
    · go_enter Try.func6, Try.ntmps6
      go_wp2_with fail
      refine (alive_any _).mono ?_
      rintro e w1 ⟨rfl, hb1⟩
      have HB1 := Lib.hid hb1
      clear hb1
      go_wp2_with fail
      refine (accepted_any gs hs A B c d _ (HG.out.below HB1.out) (HH.out.below HB1.out)).mono ?_
      rw [HA.out]
      rintro e w2 ⟨rfl, hb2⟩
      have HB2 := Lib.hid (thru HB1.out hb2 HB1.out.size)
      clear hb2
      go_wp2_with fail
      refine (pbest_neg gs hs water A B c d _ h0).mono ?_
      rintro e w3 ⟨rfl, hb3⟩
      have HB3 := Lib.hid (thru HB2.out hb3 HB2.out.size)
      clear hb3
      go_wp2
      go_ret
      exact ⟨rfl, HB3.out⟩
    · have h0i : 0 ≤ water := by omega
      have hw0 : decide (water < 0) = false := decide_eq_false h0
      have hbw := Plan.best_worth HACC.out h0i
      obtain ⟨RL, hRL⟩ : ∃ RL, RL = Plan.bestL gs hs water := ⟨_, rfl⟩
      rw [← hRL] at hbw
      obtain ⟨M, hM⟩ : ∃ M, M = Plan.gr gs hs water := ⟨_, rfl⟩
      rw [← hM] at hbw
      have hrg : rgreatE gs hs water = M := by rw [hM]; exact if_neg h0
      obtain ⟨⟨xv, xw, xb⟩, hx⟩ : ∃ R, R = Plan.worthE gs hs RL := ⟨_, rfl⟩
      rw [← hx] at hbw
      obtain ⟨e1, e2, e3⟩ := hbw
      dsimp only at e1 e2
      subst e1 e2
      have HX := Lib.hid hx
      have HE3 := Lib.hid e3
      have HRL := Lib.hid hRL
      have HRG := Lib.hid hrg
      have H0 := Lib.hid h0i
      clear hx e3 hRL hM hrg h0i
      go_enter Try.func6, Try.ntmps6
      go_wp2_with fail
      refine (alive_any _).mono ?_
      rintro e w1 ⟨rfl, hb1⟩
      have HB1 := Lib.hid hb1
      clear hb1
      go_wp2_with fail
      refine (accepted_any gs hs A B c d _ (HG.out.below HB1.out) (HH.out.below HB1.out)).mono ?_
      rw [HA.out]
      rintro e w2 ⟨rfl, hb2⟩
      have HB2 := Lib.hid (thru HB1.out hb2 HB1.out.size)
      clear hb2
      go_wp2_with fail
      refine (pbest_any gs hs water A B c d _ HRT.out H0.out HW.out (HG.out.below HB2.out) (HH.out.below HB2.out)).mono ?_
      rw [← HRL.out]
      rintro e w3 ⟨gC, rfl, hLC, hlC, hb3⟩
      have HB3 := Lib.hid (thru HB2.out hb3 HB2.out.size)
      have HLC := Lib.hid hLC
      have HlC := Lib.hid hlC
      clear hb3 hLC hlC
      have hc4 := rworth_any gs hs RL A B (some ⟨gC, 0, none⟩) c d hs.length w3 HACC.out (HG.out.below HB3.out) (HH.out.below HB3.out) HLC.out
      rw [HlC.out, ← HX.out] at hc4
      have HC4 := Lib.hid hc4
      clear hc4
      go_wp2_with fail
      refine HC4.out.mono ?_
      rintro e w4 ⟨rfl, hb4⟩
      have HB4 := Lib.hid (thru HB3.out hb4 HB3.out.size)
      have hc5 := rvalid_any gs hs RL water A B (some ⟨gC, 0, none⟩) c d hs.length w4 HACC.out (HG.out.below HB4.out) (HH.out.below HB4.out) (HLC.out.below hb4)
      rw [HlC.out, HE3.out] at hc5
      have HC5 := Lib.hid hc5
      clear hc5 hb4 HC4
      go_wp2_with fail
      refine HC5.out.mono ?_
      rintro e w5 ⟨rfl, hb5⟩
      have HB5 := Lib.hid (thru HB4.out hb5 HB4.out.size)
      clear hb5 HC5
      go_wp2_with fail
      refine (rgreat_any gs hs water A B c d _ HACC.out HW.out HD.out (HG.out.below HB5.out) (HH.out.below HB5.out)).mono ?_
      rw [HRG.out]
      rintro e w6 ⟨rfl, hb6⟩
      have HB6 := Lib.hid (thru HB5.out hb6 HB5.out.size)
      clear hb6
      go_wp2
      go_ret
      exact ⟨rfl, HB6.out⟩
end Go.Proofs.Ytnblfhoogcdcfaa
