/-
  The walks of the sum and the quotient of any two numbers.
-/
import Derived.Test.YtcfikdoejmgejaaDoorMulWalk
namespace Go.Proofs.YtcfikdoejmgejaaDoor
open Go.RowKit

def InR (a : Int) : Prop := -1125899906842624 ≤ a ∧ a ≤ 1125899906842624
instance (a : Int) : Decidable (InR a) := inferInstanceAs (Decidable (_ ∧ _))
/-- n with the sign of a product. -/
def sgn (a b n : Int) : Int := if (a < 0 ∧ 0 ≤ b) ∨ (0 ≤ a ∧ b < 0) then -n else n
def addE (a b : Int) : Int × Int := if InR a ∧ InR b ∧ InR (a + b) then (a + b, 0) else (0, 12)
/-- The rounded quotient of the absolute values. -/
def divN (a b : Int) : Nat := (2000 * a.natAbs + b.natAbs) / (2 * b.natAbs)
def lim (a b : Int) (n : Nat) : Int × Int := if 1125899906842624 < n then (0, 12) else (sgn a b n, 0)
def divE (a b : Int) : Int × Int := if InR a ∧ InR b then (if b = 0 then (0, 1) else lim a b (divN a b)) else (0, 12)

theorem inr_any (a : Int) (w : World) : Calls Tryd.prog 30 #[.int .i64 a] w fun e w' => e = .returned (.bool (decide (-1125899906842624 ≤ a) && decide (a ≤ 1125899906842624))) ∧ w = w' := by
  go_enter Tryd.func30, Tryd.ntmps30
  go_wp2
  all_goals
    go_ret
    exact ⟨ret_bool (by simp [*]; try omega), rfl⟩
theorem inrG_yes (a : Int) (w : World) (h : InR a) : Calls Tryd.prog 30 #[.int .i64 a] w fun e w' => e = .returned (.bool true) ∧ w = w' :=
  (inr_any a w).mono fun e w' ⟨h1, h2⟩ => ⟨by rw [h1]; exact ret_bool (by unfold InR at h; simp; omega), h2⟩
theorem inrG_no (a : Int) (w : World) (h : ¬ InR a) : Calls Tryd.prog 30 #[.int .i64 a] w fun e w' => e = .returned (.bool false) ∧ w = w' :=
  (inr_any a w).mono fun e w' ⟨h1, h2⟩ => ⟨by rw [h1]; exact ret_bool (by unfold InR at h; simp; omega), h2⟩
theorem wideG_yes (a : Int) (w : World) (h : InR a) : Calls Tryd.prog 31 #[.int .i64 a, .int .i64 1125899906842624] w fun e w' => e = .returned (.bool true) ∧ w = w' :=
  (within_any a 1125899906842624 w (by omega) (by omega)).mono fun e w' ⟨h1, h2⟩ => ⟨by rw [h1]; exact ret_bool (by unfold InR at h; simp; omega), h2⟩
theorem wideG_no (a : Int) (w : World) (h : ¬ InR a) : Calls Tryd.prog 31 #[.int .i64 a, .int .i64 1125899906842624] w fun e w' => e = .returned (.bool false) ∧ w = w' :=
  (within_any a 1125899906842624 w (by omega) (by omega)).mono fun e w' ⟨h1, h2⟩ => ⟨by rw [h1]; exact ret_bool (by unfold InR at h; simp; omega), h2⟩

theorem add_any (a b : Int) (w : World) : Calls Tryd.prog 13 #[.int .i64 a, .int .i64 b] w fun e w' => e = .returned (.tuple #[.int .i64 (addE a b).1, .int .i64 (addE a b).2]) ∧ w = w' := by
  by_cases ha : InR a
  · by_cases hb : InR b
    · have h1 := ha.1; have h2 := ha.2; have h3 := hb.1; have h4 := hb.2
      by_cases hs : InR (a + b)
      · rw [show addE a b = (a + b, 0) from if_pos ⟨ha, hb, hs⟩]
        have HA := Lib.hid ha; have HB := Lib.hid hb; have HS := Lib.hid hs
        clear ha hb hs
        go_enter Tryd.func13, Tryd.ntmps13
        go_wp2_with fail
        refine (inrG_yes _ _ HA.out).mono ?_
        rintro e w1 ⟨rfl, rfl⟩
        go_wp2_with fail
        refine (inrG_yes _ _ HB.out).mono ?_
        rintro e w1 ⟨rfl, rfl⟩
        go_wp2_with fail
        refine (inrG_yes _ _ HS.out).mono ?_
        rintro e w1 ⟨rfl, rfl⟩
        go_wp2
        go_ret2
        exact ⟨rfl, rfl⟩
      · rw [show addE a b = (0, 12) from if_neg (fun h => hs h.2.2)]
        have HA := Lib.hid ha; have HB := Lib.hid hb; have HS := Lib.hid hs
        clear ha hb hs
        go_enter Tryd.func13, Tryd.ntmps13
        go_wp2_with fail
        refine (inrG_yes _ _ HA.out).mono ?_
        rintro e w1 ⟨rfl, rfl⟩
        go_wp2_with fail
        refine (inrG_yes _ _ HB.out).mono ?_
        rintro e w1 ⟨rfl, rfl⟩
        go_wp2_with fail
        refine (inrG_no _ _ HS.out).mono ?_
        rintro e w1 ⟨rfl, rfl⟩
        go_wp2
        go_ret2
        exact ⟨rfl, rfl⟩
    · rw [show addE a b = (0, 12) from if_neg (fun h => hb h.2.1)]
      have HA := Lib.hid ha; have HB := Lib.hid hb
      clear ha hb
      go_enter Tryd.func13, Tryd.ntmps13
      go_wp2_with fail
      refine (inrG_yes _ _ HA.out).mono ?_
      rintro e w1 ⟨rfl, rfl⟩
      go_wp2_with fail
      refine (inrG_no _ _ HB.out).mono ?_
      rintro e w1 ⟨rfl, rfl⟩
      go_wp2
      go_ret2
      exact ⟨rfl, rfl⟩
  · rw [show addE a b = (0, 12) from if_neg (fun h => ha h.1)]
    have HA := Lib.hid ha
    clear ha
    go_enter Tryd.func13, Tryd.ntmps13
    go_wp2_with fail
    refine (inrG_no _ _ HA.out).mono ?_
    rintro e w1 ⟨rfl, rfl⟩
    go_wp2
    go_ret2
    exact ⟨rfl, rfl⟩

theorem radd_any (a b : Int) (w : World) : Calls Tryd.prog 14 #[.int .i64 a, .int .i64 b] w fun e w' => e = .returned (.tuple #[.int .i64 (addE a b).1, .int .i64 (addE a b).2]) ∧ w = w' := by
  by_cases ha : InR a
  · by_cases hb : InR b
    · have h1 := ha.1; have h2 := ha.2; have h3 := hb.1; have h4 := hb.2
      by_cases hs : InR (a + b)
      · rw [show addE a b = (a + b, 0) from if_pos ⟨ha, hb, hs⟩]
        have HA := Lib.hid ha; have HB := Lib.hid hb; have HS := Lib.hid hs
        clear ha hb hs
        go_enter Tryd.func14, Tryd.ntmps14
        go_wp2_with fail
        refine (wideG_yes _ _ HA.out).mono ?_
        rintro e w1 ⟨rfl, rfl⟩
        go_wp2_with fail
        refine (wideG_yes _ _ HB.out).mono ?_
        rintro e w1 ⟨rfl, rfl⟩
        go_wp2_with fail
        refine (wideG_yes _ _ HS.out).mono ?_
        rintro e w1 ⟨rfl, rfl⟩
        go_wp2
        go_ret2
        exact ⟨rfl, rfl⟩
      · rw [show addE a b = (0, 12) from if_neg (fun h => hs h.2.2)]
        have HA := Lib.hid ha; have HB := Lib.hid hb; have HS := Lib.hid hs
        clear ha hb hs
        go_enter Tryd.func14, Tryd.ntmps14
        go_wp2_with fail
        refine (wideG_yes _ _ HA.out).mono ?_
        rintro e w1 ⟨rfl, rfl⟩
        go_wp2_with fail
        refine (wideG_yes _ _ HB.out).mono ?_
        rintro e w1 ⟨rfl, rfl⟩
        go_wp2_with fail
        refine (wideG_no _ _ HS.out).mono ?_
        rintro e w1 ⟨rfl, rfl⟩
        go_wp2
        go_ret2
        exact ⟨rfl, rfl⟩
    · rw [show addE a b = (0, 12) from if_neg (fun h => hb h.2.1)]
      have HA := Lib.hid ha; have HB := Lib.hid hb
      clear ha hb
      go_enter Tryd.func14, Tryd.ntmps14
      go_wp2_with fail
      refine (wideG_yes _ _ HA.out).mono ?_
      rintro e w1 ⟨rfl, rfl⟩
      go_wp2_with fail
      refine (wideG_no _ _ HB.out).mono ?_
      rintro e w1 ⟨rfl, rfl⟩
      go_wp2
      go_ret2
      exact ⟨rfl, rfl⟩
  · rw [show addE a b = (0, 12) from if_neg (fun h => ha h.1)]
    have HA := Lib.hid ha
    clear ha
    go_enter Tryd.func14, Tryd.ntmps14
    go_wp2_with fail
    refine (wideG_no _ _ HA.out).mono ?_
    rintro e w1 ⟨rfl, rfl⟩
    go_wp2
    go_ret2
    exact ⟨rfl, rfl⟩

theorem absG (a : Int) (w : World) (h : InR a) : Calls Tryd.prog 33 #[.int .i64 a] w fun e w' => e = .returned (.int .u64 (a.natAbs : Int)) ∧ w = w' := by
  have h1 := h.1; have h2 := h.2
  by_cases hn : a < 0
  · have h3 : IntKind.u64.wrap (-IntKind.u64.wrap a) = (a.natAbs : Int) := by rw [IntKind.wrap_u64, IntKind.wrap_u64]; omega
    clear h
    go_enter Tryd.func33, Tryd.ntmps33
    go_wp2
    go_ret
    exact ⟨rfl, rfl⟩
  · have h3 : (a.natAbs : Int) = a := by omega
    have H3 := Lib.hid h3
    clear h h3
    go_enter Tryd.func33, Tryd.ntmps33
    go_wp2
    go_ret
    exact ⟨by rw [H3.out]; rfl, rfl⟩
theorem rabsG (a : Int) (w : World) (h : InR a) : Calls Tryd.prog 37 #[.int .i64 a] w fun e w' => e = .returned (.int .i64 (a.natAbs : Int)) ∧ w = w' := by
  have h1 := h.1; have h2 := h.2
  clear h
  go_enter Tryd.func37, Tryd.ntmps37
  go_wp2
  all_goals
    go_ret
    exact ⟨ret_int (by omega), rfl⟩
theorem signedG (n : Nat) (neg : Bool) (w : World) (h : n < 18446744073709551616) :
    Calls Tryd.prog 36 #[.int .u64 (n : Int), .bool neg] w fun e w' => e = .returned (.tuple (if 1125899906842624 < n then #[.int .i64 0, .int .i64 12] else #[.int .i64 (if neg then -(n : Int) else n), .int .i64 0])) ∧ w = w' := by
  by_cases hb : 1125899906842624 < n
  · rw [if_pos hb]
    have hb' : (1125899906842624 : Int) < n := by omega
    clear hb
    go_enter Tryd.func36, Tryd.ntmps36
    go_wp2
    go_ret2
    exact ⟨rfl, rfl⟩
  · rw [if_neg hb]
    have hb' : (n : Int) ≤ 1125899906842624 := by omega
    clear hb
    cases neg
    all_goals
      go_enter Tryd.func36, Tryd.ntmps36
      go_wp2
      go_ret2
      exact ⟨rfl, rfl⟩
theorem rsignedG (n a b : Int) (w : World) (h1 : 0 ≤ n) (h2 : n ≤ 1125899906842624) :
    Calls Tryd.prog 38 #[.int .i64 n, .int .i64 a, .int .i64 b] w fun e w' => e = .returned (.int .i64 (sgn a b n)) ∧ w = w' := by
  by_cases ha : a < 0
  · by_cases hb : b < 0
    · rw [show sgn a b n = n from if_neg (by omega)]
      have e1 : decide (a < 0) = true := by simpa using ha
      have e2 : decide (b < 0) = true := by simpa using hb
      go_enter Tryd.func38, Tryd.ntmps38
      go_wp2
      go_ret
      exact ⟨rfl, rfl⟩
    · rw [show sgn a b n = -n from if_pos (by omega)]
      have e1 : decide (a < 0) = true := by simpa using ha
      have e2 : decide (b < 0) = false := by simpa using hb
      go_enter Tryd.func38, Tryd.ntmps38
      go_wp2
      go_ret
      exact ⟨rfl, rfl⟩
  · by_cases hb : b < 0
    · rw [show sgn a b n = -n from if_pos (by omega)]
      have e1 : decide (a < 0) = false := by simpa using ha
      have e2 : decide (b < 0) = true := by simpa using hb
      go_enter Tryd.func38, Tryd.ntmps38
      go_wp2
      go_ret
      exact ⟨rfl, rfl⟩
    · rw [show sgn a b n = n from if_neg (by omega)]
      have e1 : decide (a < 0) = false := by simpa using ha
      have e2 : decide (b < 0) = false := by simpa using hb
      go_enter Tryd.func38, Tryd.ntmps38
      go_wp2
      go_ret
      exact ⟨rfl, rfl⟩
end Go.Proofs.YtcfikdoejmgejaaDoor
