/-
  The walks of the greatest value and of the examples' guns and hours.
-/
import Derived.Test.YtljhocdbfbjpiaaPlanBest
namespace Go.Proofs.Ytljhocdbfbjpiaa
open Go.RowKit

namespace Plan
def greatE (gs : List Gun) (hs : List Hour) (water : Int) : Int := if water < 0 then 0 else (worthE gs hs (bestL gs hs water)).1
theorem worth_nil (gs : List Gun) (hs : List Hour) : (worthE gs hs []).1 = 0 := by cases hs <;> rfl
end Plan
set_option maxRecDepth 20000 in
set_option maxHeartbeats 2000000 in
theorem pbest_neg (gs : List Plan.Gun) (hs : List Plan.Hour) (water : Int) (A B : Option Addr) (c d : Nat) (w : World) (h0 : water < 0) :
    Calls Try.prog 8 #[.slice A gs.length c, .slice B hs.length d, .int .i64 water] w fun e w' => e = .returned (.slice none 0 0) ∧ Below w.heap.size w w' := by
  go_enter Try.func8, Try.ntmps8
  go_wp2
  go_ret
  exact ⟨rfl, Joins.below_alloc1 _ _⟩
set_option maxRecDepth 20000 in
set_option maxHeartbeats 2000000 in
theorem pgreat_any (gs : List Plan.Gun) (hs : List Plan.Hour) (water : Int) (A B : Option Addr) (c d : Nat) (w : World) (hr : Plan.rightE gs hs = 0) (h1 : water ≤ 9223372036854775807) (hG : RdG w A gs) (hH : RdH w B hs) :
    Calls Try.prog 7 #[.slice A gs.length c, .slice B hs.length d, .int .i64 water] w fun e w' => e = .returned (.int .i64 (Plan.greatE gs hs water)) ∧ Below w.heap.size w w' := by
  have ha := Plan.acc_of hr
  have HA := Lib.hid ha
  have HG := Lib.hid hG
  have HH := Lib.hid hH
  by_cases h0 : water < 0
  · rw [show Plan.greatE gs hs water = 0 from if_pos h0]
    have HC := Lib.hid (pbest_neg gs hs water A B c d w h0)
    clear ha hG hH hr h1 h0
    have hw := Plan.worth_nil gs hs
    obtain ⟨⟨x, y, z⟩, hx⟩ : ∃ x, x = Plan.worthE gs hs [] := ⟨_, rfl⟩
    rw [← hx] at hw
    have hw : x = 0 := hw
    subst hw
    have HX := Lib.hid hx
    clear hx
    go_enter Try.func7, Try.ntmps7
    go_wp2_with fail
    refine HC.out.mono ?_
    rintro e w2 ⟨rfl, hb2⟩
    have HB2 := Lib.hid hb2
    clear hb2 HC
    go_wp2_with fail
    refine (pworth_any gs hs [] A B none c d 0 _ HA.out (HG.out.below HB2.out) (HH.out.below HB2.out) (fun h => absurd h (by simp))).mono ?_
    rw [← HX.out]
    rintro e w3 ⟨rfl, hb3⟩
    have HB3 := Lib.hid (thru HB2.out hb3 HB2.out.size)
    clear hb3
    go_wp2
    go_ret
    exact ⟨rfl, HB3.out⟩
  · rw [show Plan.greatE gs hs water = (Plan.worthE gs hs (Plan.bestL gs hs water)).1 from if_neg h0]
    have HC := Lib.hid (pbest_any gs hs water A B c d w hr (by omega) h1 hG hH)
    obtain ⟨⟨x, y, z⟩, hx⟩ : ∃ x, x = Plan.worthE gs hs (Plan.bestL gs hs water) := ⟨_, rfl⟩
    rw [← hx]
    have HX := Lib.hid hx
    clear ha hG hH hr h1 h0 hx
    go_enter Try.func7, Try.ntmps7
    go_wp2_with fail
    refine HC.out.mono ?_
    rintro e w2 ⟨g, rfl, hL, hl, hb2⟩
    have HB2 := Lib.hid hb2
    have HC2 := Lib.hid (pworth_any gs hs (Plan.bestL gs hs water) A B (some ⟨g, 0, none⟩) c d hs.length w2 HA.out (HG.out.below hb2) (HH.out.below hb2) hL)
    rw [hl] at HC2
    clear hb2 HC hL hl
    go_wp2_with fail
    refine HC2.out.mono ?_
    rw [← HX.out]
    rintro e w3 ⟨rfl, hb3⟩
    have HB3 := Lib.hid (thru HB2.out hb3 HB2.out.size)
    clear hb3 HC2
    go_wp2
    go_ret
    exact ⟨rfl, HB3.out⟩
end Go.Proofs.Ytljhocdbfbjpiaa
