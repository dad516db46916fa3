/-
  The walk of the statement on the plan of the guns, of the whole.
-/
import Derived.Test.YtljhocdbfbjpiaaTopAlive
import Derived.Test.YtljhocdbfbjpiaaPlanLe
import Derived.Test.YtljhocdbfbjpiaaPlanMore
import Derived.Test.YtljhocdbfbjpiaaPlanWalkE
namespace Go.Proofs.Ytljhocdbfbjpiaa
open Go.RowKit

theorem valid_used {gs : List Plan.Gun} {hs : List Plan.Hour} {water x y : Int} {b : Bool} {ls : List (List Int)} (h : (x, y, b) = Plan.worthE gs hs ls) (hv : Plan.validE gs hs water ls = true) : y ≤ water := by
  unfold Plan.validE at hv
  rw [← h] at hv
  simp at hv
  exact hv.1.2
set_option maxRecDepth 20000 in
set_option maxHeartbeats 8000000 in
theorem topSnow_ok (gs : List Plan.Gun) (hs : List Plan.Hour) (water : Int) (ls : List (List Int)) (A : Option Addr) (c : Nat) (B : Option Addr) (d : Nat) (C : Option Addr) (g : Nat) (w : World) (hG : RdG w A gs) (hH : RdH w B hs) (hL : RdL w C ls) (hr : Plan.rightE gs hs = 0) (hl : ls.length ≤ 10) (h0 : 0 ≤ water) (h1 : water ≤ 1099511627776) :
    Calls Try.prog 3 #[.slice A gs.length c, .slice B hs.length d, .int .i64 water, .slice C ls.length g] w fun e w' => e = .returned (.bool true) ∧ Below w.heap.size w w' := by
  have ha := Plan.acc_of hr
  have h5i : decide ((5 : Int) < (gs.length : Int)) = false := decide_eq_false (by have := ha.gl; omega)
  have h3i : decide ((3 : Int) < (hs.length : Int)) = false := decide_eq_false (by have := ha.hl; omega)
  have h10 : decide ((10 : Int) < (ls.length : Int)) = false := decide_eq_false (by omega)
  have hw0 : decide (water < 0) = false := decide_eq_false (by omega)
  have hw1 : decide (1099511627776 < water) = false := decide_eq_false (by omega)
  have hbw := Plan.best_worth ha h0
  have hgg := Plan.great_gr ha h0
  have hgg2 := Plan.great_gr ha (show 0 ≤ water + 1 by omega)
  have hmono := Plan.gr_water ha h0 (show water ≤ water + 1 by omega)
  obtain ⟨RL, hRL⟩ : ∃ RL, RL = Plan.bestL gs hs water := ⟨_, rfl⟩
  rw [← hRL] at hbw
  obtain ⟨M, hM⟩ : ∃ M, M = Plan.gr gs hs water := ⟨_, rfl⟩
  rw [← hM] at hbw hgg hmono
  obtain ⟨M2, hM2⟩ : ∃ M, M = Plan.gr gs hs (water + 1) := ⟨_, rfl⟩
  rw [← hM2] at hgg2 hmono
  have hmono2 : decide (M2 < M) = false := decide_eq_false (by omega)
  obtain ⟨⟨xv, xw, xb⟩, hx⟩ : ∃ R, R = Plan.worthE gs hs RL := ⟨_, rfl⟩
  rw [← hx] at hbw
  obtain ⟨e1, e2, e3⟩ := hbw
  have hus := valid_used hx e3
  dsimp only at e1 e2
  subst e1 e2
  have hus2 : decide (water < xw) = false := decide_eq_false (by omega)
  obtain ⟨⟨yv, yw, yb⟩, hy⟩ : ∃ R, R = Plan.worthE gs hs ls := ⟨_, rfl⟩
  obtain ⟨V, hV⟩ : ∃ V, V = Plan.validE gs hs water ls := ⟨_, rfl⟩
  have hle : yb = true → V = true → yv ≤ xv := fun h1 h2 => by
    rw [hM]
    subst h1
    exact plan_le ha hy (by rw [← hV]; exact h2)
  have hvf : V = true → yb = true := fun h => by
    rw [hV] at h
    unfold Plan.validE at h
    rw [← hy] at h
    simp at h
    exact h.1.1
  have ew : IntKind.i64.wrap (water + 1) = water + 1 := IntWalk.i64_in _ (by omega)
  have HG := Lib.hid hG
  have HH := Lib.hid hH
  have HL := Lib.hid hL
  have HRT := Lib.hid hr
  have HA := Lib.hid ha
  have HX := Lib.hid hx
  have HY := Lib.hid hy
  have HV := Lib.hid hV
  have HE3 := Lib.hid e3
  have HGG := Lib.hid hgg
  have HGG2 := Lib.hid hgg2
  have HRL := Lib.hid hRL
  have HLE := Lib.hid hle
  have HVF := Lib.hid hvf
  have HW := Lib.hid (And.intro h0 h1)
  clear hG hH hL hr ha hx hy hV e3 hgg hgg2 hRL hle hvf hM hM2 h0 h1 hmono hus
  go_enter Try.func3, Try.ntmps3
  go_wp2_with fail
  refine (plansAlive_any _).mono ?_
  rintro e w1 ⟨rfl, hb1⟩
  have HB1 := Lib.hid hb1
  clear hb1
  go_wp2_with fail
  refine (rright_any gs hs A B c d _ (HG.out.below HB1.out) (HH.out.below HB1.out)).mono ?_
  rw [HRT.out]
  rintro e w2 ⟨rfl, hb2⟩
  have HB2 := Lib.hid (thru HB1.out hb2 HB1.out.size)
  clear hb2
  go_wp2
  go_loopw [9] (fun i wr => ∃ k : Nat, k ≤ ls.length ∧ i = .int .i64 k ∧ w2 = wr) (fun i _ => ls.length - (intOf i).toNat)
  case atStart => exact ⟨0, Nat.zero_le _, rfl, rfl⟩
  case round =>
    obtain ⟨k, hk, rfl, rfl⟩ := hrel
    by_cases hlt : k < ls.length
    · have hlti : (k : Int) < (ls.length : Int) := by omega
      obtain ⟨b, off, Ai, ci, rfl, hbz, hc, _⟩ := (HL.out.below HB2.out).at_ hlt
      have HLT := Lib.hid hlt
      by_cases h20 : 20 < (Plan.lAt ls k).length
      · have h20i : (20 : Int) < ((Plan.lAt ls k).length : Int) := by omega
        go_wp2
        go_ret
        exact ⟨rfl, HB2.out⟩
      · have h20i : decide ((20 : Int) < ((Plan.lAt ls k).length : Int)) = false := decide_eq_false (by omega)
        have h20j : ((Plan.lAt ls k).length : Int) ≤ 20 := by omega
        go_wp2
        go_roundw
        case rel => exact ⟨k + 1, HLT.out, by go_num, by first | rfl | trivial⟩
        case measure => have := HLT.out; simp [intOf]; omega
    · have hlti : decide ((k : Int) < (ls.length : Int)) = false := decide_eq_false (by omega)
      go_wp2_with fail
      refine (pgreat_any gs hs water A B c d _ HRT.out (by have := HW.out; omega) (HG.out.below HB2.out) (HH.out.below HB2.out)).mono ?_
      rw [HGG.out]
      rintro e w3 ⟨rfl, hb3⟩
      have HB3 := Lib.hid (thru HB2.out hb3 HB2.out.size)
      clear hb3
      go_wp2_with fail
      refine (pbest_any gs hs water A B c d _ HRT.out HW.out.1 (by have := HW.out; omega) (HG.out.below HB3.out) (HH.out.below HB3.out)).mono ?_
      rw [← HRL.out]
      rintro e w4 ⟨gC, rfl, hLC, hlC, hb4⟩
      have HB4 := Lib.hid (thru HB3.out hb4 HB3.out.size)
      have HLC := Lib.hid hLC
      have HlC := Lib.hid hlC
      clear hb4 hLC hlC
      have hc5 := pworth_any gs hs RL A B (some ⟨gC, 0, none⟩) c d hs.length w4 HA.out (HG.out.below HB4.out) (HH.out.below HB4.out) HLC.out
      rw [HlC.out, ← HX.out] at hc5
      have HC5 := Lib.hid hc5
      clear hc5
      go_wp2_with fail
      refine HC5.out.mono ?_
      rintro e w5 ⟨rfl, hb5⟩
      have HB5 := Lib.hid (thru HB4.out hb5 HB4.out.size)
      have hc6 := pvalid_any gs hs RL water A B (some ⟨gC, 0, none⟩) c d hs.length w5 HA.out (HG.out.below HB5.out) (HH.out.below HB5.out) (HLC.out.below hb5)
      rw [HlC.out, HE3.out] at hc6
      have HC6 := Lib.hid hc6
      clear hc6 hb5 HC5
      go_wp2_with fail
      refine HC6.out.mono ?_
      rintro e w6 ⟨rfl, hb6⟩
      have HB6 := Lib.hid (thru HB5.out hb6 HB5.out.size)
      clear hb6 HC6
      go_wp2_with fail
      refine (pgreat_any gs hs (water + 1) A B c d _ HRT.out (by have := HW.out; omega) (HG.out.below HB6.out) (HH.out.below HB6.out)).mono ?_
      rw [HGG2.out]
      rintro e w7 ⟨rfl, hb7⟩
      have HB7 := Lib.hid (thru HB6.out hb7 HB6.out.size)
      clear hb7
      go_wp2_with fail
      refine (pworth_any gs hs ls A B C c d g _ HA.out (HG.out.below HB7.out) (HH.out.below HB7.out) (HL.out.below HB7.out)).mono ?_
      rw [← HY.out]
      rintro e w8 ⟨rfl, hb8⟩
      have HB8 := Lib.hid (thru HB7.out hb8 HB7.out.size)
      clear hb8
      go_wp2_with fail
      refine (pvalid_any gs hs ls water A B C c d g _ HA.out (HG.out.below HB8.out) (HH.out.below HB8.out) (HL.out.below HB8.out)).mono ?_
      rw [← HV.out]
      rintro e w9 ⟨rfl, hb9⟩
      have HB9 := Lib.hid (thru HB8.out hb9 HB8.out.size)
      clear hb9
      cases V with
      | false =>
        go_wp2
        go_ret
        exact ⟨rfl, HB9.out⟩
      | true =>
        have hfin2 : yv ≤ xv := HLE.out (HVF.out rfl) rfl
        have hfin : decide (yv ≤ xv) = true := decide_eq_true hfin2
        go_wp2
        go_ret
        exact ⟨rfl, HB9.out⟩

set_option maxRecDepth 20000 in
set_option maxHeartbeats 8000000 in
theorem topSnow_any (gs : List Plan.Gun) (hs : List Plan.Hour) (water : Int) (ls : List (List Int)) (A : Option Addr) (c : Nat) (B : Option Addr) (d : Nat) (C : Option Addr) (g : Nat) (w : World) (hG : RdG w A gs) (hH : RdH w B hs) (hL : RdL w C ls) :
    Calls Try.prog 3 #[.slice A gs.length c, .slice B hs.length d, .int .i64 water, .slice C ls.length g] w fun e w' => e = .returned (.bool true) ∧ Below w.heap.size w w' := by
  by_cases hok : Plan.rightE gs hs = 0 ∧ ls.length ≤ 10 ∧ 0 ≤ water ∧ water ≤ 1099511627776
  · exact topSnow_ok gs hs water ls A c B d C g w hG hH hL hok.1 hok.2.1 hok.2.2.1 hok.2.2.2
  have HG := Lib.hid hG
  have HH := Lib.hid hH
  have HOK := Lib.hid hok
  clear hG hH hL hok
  by_cases h5 : 5 < gs.length
  · have h5i : (5 : Int) < (gs.length : Int) := by omega
    go_enter Try.func3, Try.ntmps3
    go_wp2_with fail
    refine (plansAlive_any _).mono ?_
    rintro e w1 ⟨rfl, hb1⟩
    go_wp2
    go_ret
    exact ⟨rfl, hb1⟩
  have h5i : decide ((5 : Int) < (gs.length : Int)) = false := decide_eq_false (by omega)
  by_cases h3 : 3 < hs.length
  · have h3i : (3 : Int) < (hs.length : Int) := by omega
    go_enter Try.func3, Try.ntmps3
    go_wp2_with fail
    refine (plansAlive_any _).mono ?_
    rintro e w1 ⟨rfl, hb1⟩
    go_wp2
    go_ret
    exact ⟨rfl, hb1⟩
  have h3i : decide ((3 : Int) < (hs.length : Int)) = false := decide_eq_false (by omega)
  by_cases h10 : 10 < ls.length
  · have h10i : (10 : Int) < (ls.length : Int) := by omega
    go_enter Try.func3, Try.ntmps3
    go_wp2_with fail
    refine (plansAlive_any _).mono ?_
    rintro e w1 ⟨rfl, hb1⟩
    go_wp2
    go_ret
    exact ⟨rfl, hb1⟩
  have h10i : decide ((10 : Int) < (ls.length : Int)) = false := decide_eq_false (by omega)
  obtain ⟨R, hR⟩ : ∃ R, R = Plan.rightE gs hs := ⟨_, rfl⟩
  have HR := Lib.hid hR
  by_cases hz : R = 0
  · have HRT : Hid (Plan.rightE gs hs = 0) := Lib.hid (hR.symm.trans hz)
    by_cases hw : water < 0
    · clear hR hz HR
      go_enter Try.func3, Try.ntmps3
      go_wp2_with fail
      refine (plansAlive_any _).mono ?_
      rintro e w1 ⟨rfl, hb1⟩
      have HB1 := Lib.hid hb1
      clear hb1
      go_wp2_with fail
      refine (rright_any gs hs A B c d _ (HG.out.below HB1.out) (HH.out.below HB1.out)).mono ?_
      rw [HRT.out]
      rintro e w2 ⟨rfl, hb2⟩
      have HB2 := Lib.hid (thru HB1.out hb2 HB1.out.size)
      clear hb2
      go_wp2
      go_ret
      exact ⟨rfl, HB2.out⟩
    · have hw0 : decide (water < 0) = false := decide_eq_false hw
      have hw1 : 1099511627776 < water := by
        have : ¬ water ≤ 1099511627776 := fun h => HOK.out ⟨HRT.out, by omega, by omega, h⟩
        omega
      clear hR hz HR hw
      go_enter Try.func3, Try.ntmps3
      go_wp2_with fail
      refine (plansAlive_any _).mono ?_
      rintro e w1 ⟨rfl, hb1⟩
      have HB1 := Lib.hid hb1
      clear hb1
      go_wp2_with fail
      refine (rright_any gs hs A B c d _ (HG.out.below HB1.out) (HH.out.below HB1.out)).mono ?_
      rw [HRT.out]
      rintro e w2 ⟨rfl, hb2⟩
      have HB2 := Lib.hid (thru HB1.out hb2 HB1.out.size)
      clear hb2
      go_wp2
      go_ret
      exact ⟨rfl, HB2.out⟩
  · have hr1 : (R != 0) = true := bne_iff_ne.2 hz
    have hr2 : (R == 0) = false := beq_eq_false_iff_ne.2 hz
    clear hR
    go_enter Try.func3, Try.ntmps3
    go_wp2_with fail
    refine (plansAlive_any _).mono ?_
    rintro e w1 ⟨rfl, hb1⟩
    have HB1 := Lib.hid hb1
    clear hb1
    go_wp2_with fail
    refine (rright_any gs hs A B c d _ (HG.out.below HB1.out) (HH.out.below HB1.out)).mono ?_
    rw [← HR.out]
    rintro e w2 ⟨rfl, hb2⟩
    have HB2 := Lib.hid (thru HB1.out hb2 HB1.out.size)
    clear hb2
    go_wp2
    go_ret
    exact ⟨rfl, HB2.out⟩
end Go.Proofs.Ytljhocdbfbjpiaa
