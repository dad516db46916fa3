/-
  The walks of the greatest value and of the examples' guns and hours.
-/
import Derived.Test.YtnblfhoogcdcfaaPlanBest
namespace Go.Proofs.Ytnblfhoogcdcfaa
open Go.RowKit

namespace Plan
def greatE (gs : List Gun) (hs : List Hour) (water : Int) : Int := if water < 0 then 0 else (worthE gs hs (bestL gs hs water)).1
theorem worth_nil (gs : List Gun) (hs : List Hour) : (worthE gs hs []).1 = 0 := by cases hs <;> rfl
end Plan
set_option maxRecDepth 4000 in
set_option maxHeartbeats 2000000 in
theorem pbest_neg (gs : List Plan.Gun) (hs : List Plan.Hour) (water : Int) (A B : Option Addr) (c d : Nat) (w : World) (h0 : water < 0) :
    Calls Try.prog 21 #[.slice A gs.length c, .slice B hs.length d, .int .i64 water] w fun e w' => e = .returned (.slice none 0 0) ∧ Below w.heap.size w w' := by
  go_enter Try.func21, Try.ntmps21
  go_wp2
  go_ret
  exact ⟨rfl, Joins.below_alloc1 _ _⟩
set_option maxRecDepth 4000 in
set_option maxHeartbeats 2000000 in
theorem pgreat_any (gs : List Plan.Gun) (hs : List Plan.Hour) (water : Int) (A B : Option Addr) (c d : Nat) (w : World) (hr : Plan.rightE gs hs = 0) (h1 : water ≤ 9223372036854775807) (hG : RdG w A gs) (hH : RdH w B hs) :
    Calls Try.prog 19 #[.slice A gs.length c, .slice B hs.length d, .int .i64 water] w fun e w' => e = .returned (.int .i64 (Plan.greatE gs hs water)) ∧ Below w.heap.size w w' := by
  have ha := Plan.acc_of hr
  have HA := Lib.hid ha
  have HG := Lib.hid hG
  have HH := Lib.hid hH
  by_cases h0 : water < 0
  · rw [show Plan.greatE gs hs water = 0 from if_pos h0]
    have HC := Lib.hid (pbest_neg gs hs water A B c d w h0)
    clear ha hG hH hr h1 h0
    have hw := Plan.worth_nil gs hs
    obtain ⟨⟨x, y, z⟩, hx⟩ : ∃ x, x = Plan.worthE gs hs [] := ⟨_, rfl⟩
    rw [← hx] at hw
    have hw : x = 0 := hw
    subst hw
    have HX := Lib.hid hx
    clear hx
    go_enter Try.func19, Try.ntmps19
    go_wp2_with fail
    refine HC.out.mono ?_
    rintro e w2 ⟨rfl, hb2⟩
    have HB2 := Lib.hid hb2
    clear hb2 HC
    go_wp2_with fail
    refine (pworth_any gs hs [] A B none c d 0 _ HA.out (HG.out.below HB2.out) (HH.out.below HB2.out) (fun h => absurd h (by simp))).mono ?_
    rw [← HX.out]
    rintro e w3 ⟨rfl, hb3⟩
    have HB3 := Lib.hid (thru HB2.out hb3 HB2.out.size)
    clear hb3
    go_wp2
    go_ret
    exact ⟨rfl, HB3.out⟩
  · rw [show Plan.greatE gs hs water = (Plan.worthE gs hs (Plan.bestL gs hs water)).1 from if_neg h0]
    have HC := Lib.hid (pbest_any gs hs water A B c d w hr (by omega) h1 hG hH)
    obtain ⟨⟨x, y, z⟩, hx⟩ : ∃ x, x = Plan.worthE gs hs (Plan.bestL gs hs water) := ⟨_, rfl⟩
    rw [← hx]
    have HX := Lib.hid hx
    clear ha hG hH hr h1 h0 hx
    go_enter Try.func19, Try.ntmps19
    go_wp2_with fail
    refine HC.out.mono ?_
    rintro e w2 ⟨g, rfl, hL, hl, hb2⟩
    have HB2 := Lib.hid hb2
    have HC2 := Lib.hid (pworth_any gs hs (Plan.bestL gs hs water) A B (some ⟨g, 0, none⟩) c d hs.length w2 HA.out (HG.out.below hb2) (HH.out.below hb2) hL)
    rw [hl] at HC2
    clear hb2 HC hL hl
    go_wp2_with fail
    refine HC2.out.mono ?_
    rw [← HX.out]
    rintro e w3 ⟨rfl, hb3⟩
    have HB3 := Lib.hid (thru HB2.out hb3 HB2.out.size)
    clear hb3 HC2
    go_wp2
    go_ret
    exact ⟨rfl, HB3.out⟩

def threeL : List Plan.Gun := [⟨1, 100, 10, 50⟩, ⟨2, 200, 20, 90⟩, ⟨3, 100, 5, 30⟩]
def twoL : List Plan.Hour := [⟨30, 1000⟩, ⟨15, 500⟩]
theorem three_any (w : World) : Calls Try.prog 22 #[] w fun e w' => e = .returned (.slice (some ⟨w.heap.size, 0, none⟩) threeL.length 3) ∧ RdG w' (some ⟨w.heap.size, 0, none⟩) threeL ∧ Below w.heap.size w w' := by
  go_enter Try.func22, Try.ntmps22
  go_wp2
  go_ret
  refine ⟨rfl, fun _ => ⟨w.heap.size, 0, rfl, by simp, fun i hi => ?_⟩, Joins.below_alloc1 _ _⟩
  match i, hi with
  | 0, _ => exact ⟨by simp [go_sem]; rfl, by simp [go_sem]; rfl, by simp [go_sem]; rfl, by simp [go_sem]; rfl⟩
  | 1, _ => exact ⟨by simp [go_sem]; rfl, by simp [go_sem]; rfl, by simp [go_sem]; rfl, by simp [go_sem]; rfl⟩
  | 2, _ => exact ⟨by simp [go_sem]; rfl, by simp [go_sem]; rfl, by simp [go_sem]; rfl, by simp [go_sem]; rfl⟩
theorem two_any (w : World) : Calls Try.prog 23 #[] w fun e w' => e = .returned (.slice (some ⟨w.heap.size, 0, none⟩) twoL.length 2) ∧ RdH w' (some ⟨w.heap.size, 0, none⟩) twoL ∧ Below w.heap.size w w' := by
  go_enter Try.func23, Try.ntmps23
  go_wp2
  go_ret
  refine ⟨rfl, fun _ => ⟨w.heap.size, 0, rfl, by simp, fun i hi => ?_⟩, Joins.below_alloc1 _ _⟩
  match i, hi with
  | 0, _ => exact ⟨by simp [go_sem]; rfl, by simp [go_sem]; rfl⟩
  | 1, _ => exact ⟨by simp [go_sem]; rfl, by simp [go_sem]; rfl⟩
theorem alive_right : Plan.rightE threeL twoL = 0 := by decide +kernel
theorem alive_worth : Plan.worthE threeL twoL [[0, 1], [0, 2]] = (180, 500, true) := by decide +kernel
theorem alive_none : Plan.worthE threeL twoL [[0, 1]] = (0, 0, false) := by decide +kernel
theorem alive_v1 : Plan.validE threeL twoL 500 [[0, 1], [0, 2]] = true := by decide +kernel
theorem alive_v2 : Plan.validE threeL twoL 499 [[0, 1], [0, 2]] = false := by decide +kernel
theorem alive_v3 : Plan.validE threeL twoL 900 [[0, 1, 2], []] = false := by decide +kernel
theorem alive_g1 : Plan.greatE threeL twoL 500 = 180 := by decide +kernel
theorem alive_g2 : Plan.greatE threeL twoL 400 = 165 := by decide +kernel
theorem alive_g3 : Plan.greatE threeL twoL 0 = 0 := by decide +kernel
end Go.Proofs.Ytnblfhoogcdcfaa
