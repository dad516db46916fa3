/-
  The walk of the law on the best plan: no valid plan is worth more.
-/
import Derived.Test.YtnblfhoogcdcfaaPlanLawB
import Derived.Test.YtnblfhoogcdcfaaPlanTheoryB
namespace Go.Proofs.Ytnblfhoogcdcfaa
open Go.RowKit

theorem plan_le {gs : List Plan.Gun} {hs : List Plan.Hour} (a : Plan.Acc gs hs) {water : Int} {ls : List (List Int)} {x y : Int} (h : (x, y, true) = Plan.worthE gs hs ls) (hv : Plan.validE gs hs water ls = true) : x ≤ Plan.gr gs hs water := by
  unfold Plan.validE at hv
  rw [← h] at hv
  simp at hv
  have hw : ∀ l ∈ ls, 0 ≤ Plan.wS gs l := fun l _ => (Plan.tot_bd (t := Plan.tW gs) (B := 1000000000) (fun i => Plan.tW_bd a i) l).1
  obtain ⟨ss, k1, k2⟩ := Plan.valid_le (gs := gs) (hs := hs) (ls := ls) (v := 0) (w := 0) (left := water) (by show (Plan.worthE gs hs ls).2.2 = true; rw [← h]) (by show (Plan.worthE gs hs ls).2.1 - 0 ≤ water; rw [← h]; simpa using hv.1) hv.2 hw
  have e : (Plan.wFrom gs hs ls 0 0).1 = x := by show (Plan.worthE gs hs ls).1 = x; rw [← h]
  rw [e] at k2
  have := Plan.gr_ge gs hs water ss k1
  omega

set_option maxRecDepth 4000 in
set_option maxHeartbeats 8000000 in
theorem lawBest (gs : List Plan.Gun) (hs : List Plan.Hour) (water : Int) (ls : List (List Int)) (A : Option Addr) (c : Nat) (B : Option Addr) (d : Nat) (C : Option Addr) (g : Nat) (w : World) (hG : RdG w A gs) (hH : RdH w B hs) (hL : RdL w C ls) (hwm : water ≤ 9223372036854775807) :
    Calls Try.prog 7 #[.slice A gs.length c, .slice B hs.length d, .int .i64 water, .slice C ls.length g] w fun e w' => e = .returned (.bool true) ∧ Below w.heap.size w w' := by
  have HG := Lib.hid hG
  have HH := Lib.hid hH
  have HL := Lib.hid hL
  have HWM := Lib.hid hwm
  clear hG hH hL hwm
  by_cases h5 : 5 < gs.length
  · have h5i : (5 : Int) < (gs.length : Int) := by omega
    go_enter Try.func7, Try.ntmps7
    go_wp2_with fail
    refine (alive_any _).mono ?_
    rintro e w1 ⟨rfl, hb1⟩
    go_wp2
    go_ret
    exact ⟨rfl, hb1⟩
  have h5i : decide ((5 : Int) < (gs.length : Int)) = false := decide_eq_false (by omega)
  by_cases h3 : 3 < hs.length
  · have h3i : (3 : Int) < (hs.length : Int) := by omega
    go_enter Try.func7, Try.ntmps7
    go_wp2_with fail
    refine (alive_any _).mono ?_
    rintro e w1 ⟨rfl, hb1⟩
    go_wp2
    go_ret
    exact ⟨rfl, hb1⟩
  have h3i : decide ((3 : Int) < (hs.length : Int)) = false := decide_eq_false (by omega)
  obtain ⟨R, hR⟩ : ∃ R, R = Plan.rightE gs hs := ⟨_, rfl⟩
  have HR := Lib.hid hR
  clear hR
  by_cases hr : R = 0
  · have HRT : Hid (Plan.rightE gs hs = 0) := Lib.hid (HR.out.symm.trans hr)
    subst hr
    have HA := Lib.hid (Plan.acc_of HRT.out)
    by_cases h0 : water < 0
    · go_enter Try.func7, Try.ntmps7
      go_wp2_with fail
      refine (alive_any _).mono ?_
      rintro e w1 ⟨rfl, hb1⟩
      have HB1 := Lib.hid hb1
      clear hb1
      go_wp2_with fail
      refine (pright_any gs hs A B c d _ (HG.out.below HB1.out) (HH.out.below HB1.out)).mono ?_
      rw [HRT.out]
      rintro e w2 ⟨rfl, hb2⟩
      have HB2 := Lib.hid (thru HB1.out hb2 HB1.out.size)
      clear hb2
      go_wp2_with fail
      refine (small_any ls C g _ (HL.out.below HB2.out)).mono ?_
      rintro e w3 ⟨b, rfl, rfl⟩
      cases b
      all_goals
        go_wp2
        go_ret
        exact ⟨rfl, HB2.out⟩
    · have h0i : 0 ≤ water := by omega
      have hbw := Plan.best_worth HA.out h0i
      have hgg := Plan.great_gr HA.out h0i
      obtain ⟨RL, hRL⟩ : ∃ RL, RL = Plan.bestL gs hs water := ⟨_, rfl⟩
      rw [← hRL] at hbw
      obtain ⟨M, hM⟩ : ∃ M, M = Plan.gr gs hs water := ⟨_, rfl⟩
      rw [← hM] at hbw hgg
      obtain ⟨⟨xv, xw, xb⟩, hx⟩ : ∃ R, R = Plan.worthE gs hs RL := ⟨_, rfl⟩
      rw [← hx] at hbw
      obtain ⟨e1, e2, e3⟩ := hbw
      dsimp only at e1 e2
      subst e1 e2
      obtain ⟨⟨yv, yw, yb⟩, hy⟩ : ∃ R, R = Plan.worthE gs hs ls := ⟨_, rfl⟩
      obtain ⟨V, hV⟩ : ∃ V, V = Plan.validE gs hs water ls := ⟨_, rfl⟩
      have hle : yb = true → V = true → yv ≤ xv := fun h1 h2 => by
        rw [hM]
        subst h1
        exact plan_le HA.out hy (by rw [← hV]; exact h2)
      have HX := Lib.hid hx
      have HY := Lib.hid hy
      have HV := Lib.hid hV
      have HE3 := Lib.hid e3
      have HGG := Lib.hid hgg
      have HRL := Lib.hid hRL
      have HLE := Lib.hid hle
      have H0 := Lib.hid h0i
      clear hx hy hV e3 hgg hRL hle hM h0i
      go_enter Try.func7, Try.ntmps7
      go_wp2_with fail
      refine (alive_any _).mono ?_
      rintro e w1 ⟨rfl, hb1⟩
      have HB1 := Lib.hid hb1
      clear hb1
      go_wp2_with fail
      refine (pright_any gs hs A B c d _ (HG.out.below HB1.out) (HH.out.below HB1.out)).mono ?_
      rw [HRT.out]
      rintro e w2 ⟨rfl, hb2⟩
      have HB2 := Lib.hid (thru HB1.out hb2 HB1.out.size)
      clear hb2
      go_wp2_with fail
      refine (small_any ls C g _ (HL.out.below HB2.out)).mono ?_
      rintro e w3 ⟨b, rfl, rfl⟩
      cases b with
      | false =>
        go_wp2
        go_ret
        exact ⟨rfl, HB2.out⟩
      | true =>
        go_wp2_with fail
        refine (pbest_any gs hs water A B c d _ HRT.out H0.out HWM.out (HG.out.below HB2.out) (HH.out.below HB2.out)).mono ?_
        rw [← HRL.out]
        rintro e w3 ⟨gC, rfl, hLC, hlC, hb3⟩
        have HB3 := Lib.hid (thru HB2.out hb3 HB2.out.size)
        have HLC := Lib.hid hLC
        have HlC := Lib.hid hlC
        clear hb3 hLC hlC
        have hc4 := pworth_any gs hs RL A B (some ⟨gC, 0, none⟩) c d hs.length w3 HA.out (HG.out.below HB3.out) (HH.out.below HB3.out) HLC.out
        rw [HlC.out, ← HX.out] at hc4
        have HC4 := Lib.hid hc4
        clear hc4
        go_wp2_with fail
        refine HC4.out.mono ?_
        rintro e w4 ⟨rfl, hb4⟩
        have HB4 := Lib.hid (thru HB3.out hb4 HB3.out.size)
        have hc5 := pvalid_any gs hs RL water A B (some ⟨gC, 0, none⟩) c d hs.length w4 HA.out (HG.out.below HB4.out) (HH.out.below HB4.out) (HLC.out.below hb4)
        rw [HlC.out, HE3.out] at hc5
        have HC5 := Lib.hid hc5
        clear hc5 hb4 HC4
        go_wp2_with fail
        refine HC5.out.mono ?_
        rintro e w5 ⟨rfl, hb5⟩
        have HB5 := Lib.hid (thru HB4.out hb5 HB4.out.size)
        clear hb5 HC5
        go_wp2_with fail
        refine (pgreat_any gs hs water A B c d _ HRT.out HWM.out (HG.out.below HB5.out) (HH.out.below HB5.out)).mono ?_
        rw [HGG.out]
        rintro e w6 ⟨rfl, hb6⟩
        have HB6 := Lib.hid (thru HB5.out hb6 HB5.out.size)
        clear hb6
        go_wp2_with fail
        refine (pworth_any gs hs ls A B C c d g _ HA.out (HG.out.below HB6.out) (HH.out.below HB6.out) (HL.out.below HB6.out)).mono ?_
        rw [← HY.out]
        rintro e w7 ⟨rfl, hb7⟩
        have HB7 := Lib.hid (thru HB6.out hb7 HB6.out.size)
        clear hb7
        cases yb with
        | false =>
          go_wp2
          go_ret
          exact ⟨rfl, HB7.out⟩
        | true =>
          go_wp2_with fail
          refine (pvalid_any gs hs ls water A B C c d g _ HA.out (HG.out.below HB7.out) (HH.out.below HB7.out) (HL.out.below HB7.out)).mono ?_
          rw [← HV.out]
          rintro e w8 ⟨rfl, hb8⟩
          have HB8 := Lib.hid (thru HB7.out hb8 HB7.out.size)
          clear hb8
          cases V with
          | false =>
            go_wp2
            go_ret
            exact ⟨rfl, HB8.out⟩
          | true =>
            have hfin2 : yv ≤ xv := HLE.out trivial rfl
            have hfin : decide (yv ≤ xv) = true := decide_eq_true hfin2
            go_wp2
            go_ret
            exact ⟨rfl, HB8.out⟩
  · have hr1 : (R != 0) = true := bne_iff_ne.2 hr
    have hr2 : (R == 0) = false := beq_eq_false_iff_ne.2 hr
    go_enter Try.func7, Try.ntmps7
    go_wp2_with fail
    refine (alive_any _).mono ?_
    rintro e w1 ⟨rfl, hb1⟩
    have HB1 := Lib.hid hb1
    clear hb1
    go_wp2_with fail
    refine (pright_any gs hs A B c d _ (HG.out.below HB1.out) (HH.out.below HB1.out)).mono ?_
    rw [← HR.out]
    rintro e w2 ⟨rfl, hb2⟩
    have HB2 := Lib.hid (thru HB1.out hb2 HB1.out.size)
    clear hb2
    go_wp2
    go_ret
    exact ⟨rfl, HB2.out⟩
theorem wf_up {x : Int} (h : (Lit.int .i64 x).wf = true) : x ≤ 9223372036854775807 := by
  have h2 : -9223372036854775808 ≤ x ∧ x ≤ 9223372036854775807 := by simpa [Lit.wf, IntKind.min, IntKind.max, IntKind.signed, IntKind.bits] using h
  exact h2.2
end Go.Proofs.Ytnblfhoogcdcfaa
