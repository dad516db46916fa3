/-
  The walks of the quotient of any two numbers.
-/
import Derived.Test.YtcfikdoejmgejaaDoorFixWalkA
namespace Go.Proofs.YtcfikdoejmgejaaDoor
open Go.RowKit

theorem divN_bd {a b : Int} (ha : InR a) (hb : InR b) : divN a b < 18446744073709551616 := by
  have h1 := ha.1; have h2 := ha.2; have h3 := hb.1; have h4 := hb.2
  unfold divN
  have := Nat.div_le_self (2000 * a.natAbs + b.natAbs) (2 * b.natAbs)
  omega
theorem quoG (n d : Nat) : ((n / d : Nat) : Int) = (n : Int) / (d : Int) := Int.natCast_ediv n d
theorem lim_big {a b : Int} {n : Nat} (h : 1125899906842624 < n) : lim a b n = (0, 12) := if_pos h
theorem lim_ok {a b : Int} {n : Nat} (h : ¬ 1125899906842624 < n) : lim a b n = (sgn a b n, 0) := if_neg h
theorem signed_as (a b : Int) (n : Nat) (neg : Bool) (hn : neg = decide ((a < 0 ∧ 0 ≤ b) ∨ (0 ≤ a ∧ b < 0))) (w : World) (h : n < 18446744073709551616) :
    Calls Tryd.prog 36 #[.int .u64 (n : Int), .bool neg] w fun e w' => e = .returned (.tuple #[.int .i64 (lim a b n).1, .int .i64 (lim a b n).2]) ∧ w = w' := by
  refine (signedG n neg w h).mono fun e w' ⟨h1, h2⟩ => ⟨?_, h2⟩
  rw [h1]
  by_cases hb : 1125899906842624 < n
  · rw [if_pos hb, lim_big hb]
  · rw [if_neg hb, lim_ok hb]
    unfold sgn
    subst hn
    by_cases hc : (a < 0 ∧ 0 ≤ b) ∨ (0 ≤ a ∧ b < 0)
    · rw [if_pos hc, if_pos (by simpa using hc)]
    · rw [if_neg hc, if_neg (by simpa using hc)]

set_option maxHeartbeats 1000000 in
theorem div_any (a b : Int) (w : World) : Calls Tryd.prog 17 #[.int .i64 a, .int .i64 b] w fun e w' => e = .returned (.tuple #[.int .i64 (divE a b).1, .int .i64 (divE a b).2]) ∧ w = w' := by
  by_cases ha : InR a
  · by_cases hb : InR b
    · by_cases hz : b = 0
      · rw [show divE a b = (0, 1) by unfold divE; rw [if_pos ⟨ha, hb⟩, if_pos hz]]
        subst hz
        have HA := Lib.hid ha; have HB := Lib.hid hb
        clear ha hb
        go_enter Tryd.func17, Tryd.ntmps17
        go_wp2_with fail
        refine (inrG_yes _ _ HA.out).mono ?_
        rintro e w1 ⟨rfl, rfl⟩
        go_wp2_with fail
        refine (inrG_yes _ _ HB.out).mono ?_
        rintro e w1 ⟨rfl, rfl⟩
        go_wp2
        go_ret2
        exact ⟨rfl, rfl⟩
      · have h1 := ha.1; have h2 := ha.2; have h3 := hb.1; have h4 := hb.2
        rw [show divE a b = lim a b (divN a b) by unfold divE; rw [if_pos ⟨ha, hb⟩, if_neg hz]]
        have hN := divN_bd ha hb
        have hz1 : (b == 0) = false := by rw [beq_eq_false_iff_ne]; exact hz
        have HC := Lib.hid fun (neg : Bool) (hn : neg = decide ((a < 0 ∧ 0 ≤ b) ∨ (0 ≤ a ∧ b < 0))) (W : World) => signed_as a b (divN a b) neg hn W hN
        have HQ : Hid (((divN a b : Nat) : Int) = (2 * ((a.natAbs : Int) * 1000) + (b.natAbs : Int)) / (2 * (b.natAbs : Int))) := Lib.hid (by
          unfold divN; rw [quoG]; congr 1 <;> omega)
        have hm1 : (a.natAbs : Int) ≤ 1125899906842624 := by omega
        have hm2 : (b.natAbs : Int) ≤ 1125899906842624 := by omega
        have hm3 : 1 ≤ (b.natAbs : Int) := by omega
        have HA := Lib.hid ha; have HB := Lib.hid hb
        have HAA := Lib.hid fun W => absG a W ha
        have HAB := Lib.hid fun W => absG b W hb
        have hs : (a < 0 ∧ b < 0) ∨ (a < 0 ∧ 0 ≤ b) ∨ (0 ≤ a ∧ b < 0) ∨ (0 ≤ a ∧ 0 ≤ b) := by omega
        clear ha hb hz hN
        generalize a.natAbs = m at *
        generalize b.natAbs = k at *
        have f1 : IntKind.u64.wrap ((m : Int) * 1000) = (m : Int) * 1000 := IntWalk.u64_in _ (by omega)
        have f2 : IntKind.u64.wrap (2 * ((m : Int) * 1000)) = 2 * ((m : Int) * 1000) := IntWalk.u64_in _ (by omega)
        have f3 : IntKind.u64.wrap (2 * ((m : Int) * 1000) + (k : Int)) = 2 * ((m : Int) * 1000) + (k : Int) := IntWalk.u64_in _ (by omega)
        have f4 : IntKind.u64.wrap (2 * (k : Int)) = 2 * (k : Int) := IntWalk.u64_in _ (by omega)
        have F1 := Lib.hid f1; have F2 := Lib.hid f2; have F3 := Lib.hid f3; have F4 := Lib.hid f4
        clear f1 f2 f3 f4
        have hsg : ∃ (x y z : Bool), decide (a < 0) = x ∧ decide (b < 0) = y ∧ (x != y) = z ∧ z = decide ((a < 0 ∧ 0 ≤ b) ∨ (0 ≤ a ∧ b < 0)) := by
          refine ⟨_, _, _, rfl, rfl, rfl, ?_⟩
          rw [Bool.eq_iff_iff]
          rcases hs with ⟨s1, s2⟩ | ⟨s1, s2⟩ | ⟨s1, s2⟩ | ⟨s1, s2⟩ <;> simp <;> omega
        obtain ⟨x, y, z, e1, e2, e3, e4⟩ := hsg
        have HN := Lib.hid (HC.out z e4)
        clear hs e4
        cases x <;> cases y <;> (obtain rfl := e3)
        all_goals
          go_enter Tryd.func17, Tryd.ntmps17
          go_wp2_with fail
          refine (inrG_yes _ _ HA.out).mono ?_
          rintro e w1 ⟨rfl, rfl⟩
          go_wp2_with fail
          refine (inrG_yes _ _ HB.out).mono ?_
          rintro e w1 ⟨rfl, rfl⟩
          go_wp2_with fail
          refine (HAA.out _).mono ?_
          rintro e w1 ⟨rfl, rfl⟩
          go_wp2_with fail
          refine (HAB.out _).mono ?_
          rintro e w1 ⟨rfl, rfl⟩
          go_wp2_with fail
          rw [← HQ.out]
          refine (HN.out _).mono ?_
          rintro e w1 ⟨rfl, rfl⟩
          go_wp2
          go_ret2
          exact ⟨rfl, rfl⟩
    · rw [show divE a b = (0, 12) from if_neg (fun h => hb h.2)]
      have HA := Lib.hid ha; have HB := Lib.hid hb
      clear ha hb
      go_enter Tryd.func17, Tryd.ntmps17
      go_wp2_with fail
      refine (inrG_yes _ _ HA.out).mono ?_
      rintro e w1 ⟨rfl, rfl⟩
      go_wp2_with fail
      refine (inrG_no _ _ HB.out).mono ?_
      rintro e w1 ⟨rfl, rfl⟩
      go_wp2
      go_ret2
      exact ⟨rfl, rfl⟩
  · rw [show divE a b = (0, 12) from if_neg (fun h => ha h.1)]
    have HA := Lib.hid ha
    clear ha
    go_enter Tryd.func17, Tryd.ntmps17
    go_wp2_with fail
    refine (inrG_no _ _ HA.out).mono ?_
    rintro e w1 ⟨rfl, rfl⟩
    go_wp2
    go_ret2
    exact ⟨rfl, rfl⟩
set_option maxHeartbeats 1000000 in
theorem rdiv_any (a b : Int) (w : World) : Calls Tryd.prog 18 #[.int .i64 a, .int .i64 b] w fun e w' => e = .returned (.tuple #[.int .i64 (divE a b).1, .int .i64 (divE a b).2]) ∧ w = w' := by
  by_cases ha : InR a
  · by_cases hb : InR b
    · by_cases hz : b = 0
      · rw [show divE a b = (0, 1) by unfold divE; rw [if_pos ⟨ha, hb⟩, if_pos hz]]
        subst hz
        have HA := Lib.hid ha; have HB := Lib.hid hb
        clear ha hb
        go_enter Tryd.func18, Tryd.ntmps18
        go_wp2_with fail
        refine (wideG_yes _ _ HA.out).mono ?_
        rintro e w1 ⟨rfl, rfl⟩
        go_wp2_with fail
        refine (wideG_yes _ _ HB.out).mono ?_
        rintro e w1 ⟨rfl, rfl⟩
        go_wp2
        go_ret2
        exact ⟨rfl, rfl⟩
      · have h1 := ha.1; have h2 := ha.2; have h3 := hb.1; have h4 := hb.2
        rw [show divE a b = lim a b (divN a b) by unfold divE; rw [if_pos ⟨ha, hb⟩, if_neg hz]]
        have hN := divN_bd ha hb
        have hz1 : (b == 0) = false := by rw [beq_eq_false_iff_ne]; exact hz
        have HQ : Hid (((divN a b : Nat) : Int) = (2000 * (a.natAbs : Int) + (b.natAbs : Int)) / (2 * (b.natAbs : Int))) := Lib.hid (by
          unfold divN; rw [quoG]; congr 1 <;> omega)
        have hm1 : (a.natAbs : Int) ≤ 1125899906842624 := by omega
        have hm2 : (b.natAbs : Int) ≤ 1125899906842624 := by omega
        have hm3 : 1 ≤ (b.natAbs : Int) := by omega
        have HA := Lib.hid ha; have HB := Lib.hid hb
        have HAA := Lib.hid fun W => rabsG a W ha
        have HAB := Lib.hid fun W => rabsG b W hb
        obtain ⟨q, hq⟩ : ∃ q, q = divN a b := ⟨_, rfl⟩
        have HQQ := Lib.hid hq
        rw [← hq] at hN HQ ⊢
        clear ha hb hz hq
        generalize hmm : a.natAbs = m at *
        generalize hkk : b.natAbs = k at *
        have hd1 : 0 ≤ (2000 * (m : Int) + (k : Int)) / (2 * (k : Int)) := Int.ediv_nonneg (by omega) (by omega)
        have hd2 : (2000 * (m : Int) + (k : Int)) / (2 * (k : Int)) ≤ 2000 * (m : Int) + (k : Int) := Int.ediv_le_self _ (by omega)
        clear hmm hkk hN
        by_cases hbig : 1125899906842624 < q
        · rw [lim_big hbig]
          have hb' : 1125899906842624 < (2000 * (m : Int) + (k : Int)) / (2 * (k : Int)) := by rw [← HQ.out]; omega
          clear hbig
          go_enter Tryd.func18, Tryd.ntmps18
          go_wp2_with fail
          refine (wideG_yes _ _ HA.out).mono ?_
          rintro e w1 ⟨rfl, rfl⟩
          go_wp2_with fail
          refine (wideG_yes _ _ HB.out).mono ?_
          rintro e w1 ⟨rfl, rfl⟩
          go_wp2_with fail
          refine (HAA.out _).mono ?_
          rintro e w1 ⟨rfl, rfl⟩
          go_wp2_with fail
          refine (HAB.out _).mono ?_
          rintro e w1 ⟨rfl, rfl⟩
          go_wp2_with fail
          refine (HAB.out _).mono ?_
          rintro e w1 ⟨rfl, rfl⟩
          go_wp2
          go_ret2
          exact ⟨rfl, rfl⟩
        · rw [lim_ok hbig]
          have hb' : (2000 * (m : Int) + (k : Int)) / (2 * (k : Int)) ≤ 1125899906842624 := by rw [← HQ.out]; omega
          have HS := Lib.hid fun W => rsignedG ((2000 * (m : Int) + (k : Int)) / (2 * (k : Int))) a b W hd1 hb'
          clear hbig
          go_enter Tryd.func18, Tryd.ntmps18
          go_wp2_with fail
          refine (wideG_yes _ _ HA.out).mono ?_
          rintro e w1 ⟨rfl, rfl⟩
          go_wp2_with fail
          refine (wideG_yes _ _ HB.out).mono ?_
          rintro e w1 ⟨rfl, rfl⟩
          go_wp2_with fail
          refine (HAA.out _).mono ?_
          rintro e w1 ⟨rfl, rfl⟩
          go_wp2_with fail
          refine (HAB.out _).mono ?_
          rintro e w1 ⟨rfl, rfl⟩
          go_wp2_with fail
          refine (HAB.out _).mono ?_
          rintro e w1 ⟨rfl, rfl⟩
          go_wp2_with fail
          refine (HS.out _).mono ?_
          rintro e w1 ⟨rfl, rfl⟩
          go_wp2
          go_ret2
          exact ⟨by rw [HQ.out]; rfl, rfl⟩
    · rw [show divE a b = (0, 12) from if_neg (fun h => hb h.2)]
      have HA := Lib.hid ha; have HB := Lib.hid hb
      clear ha hb
      go_enter Tryd.func18, Tryd.ntmps18
      go_wp2_with fail
      refine (wideG_yes _ _ HA.out).mono ?_
      rintro e w1 ⟨rfl, rfl⟩
      go_wp2_with fail
      refine (wideG_no _ _ HB.out).mono ?_
      rintro e w1 ⟨rfl, rfl⟩
      go_wp2
      go_ret2
      exact ⟨rfl, rfl⟩
  · rw [show divE a b = (0, 12) from if_neg (fun h => ha h.1)]
    have HA := Lib.hid ha
    clear ha
    go_enter Tryd.func18, Tryd.ntmps18
    go_wp2_with fail
    refine (wideG_no _ _ HA.out).mono ?_
    rintro e w1 ⟨rfl, rfl⟩
    go_wp2
    go_ret2
    exact ⟨rfl, rfl⟩
end Go.Proofs.YtcfikdoejmgejaaDoor
