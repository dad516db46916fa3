/-
  The walks of the small functions of the prices: the least and greatest multiple, the factors.
-/
import Derived.Test.YtlhbpnealboagaaMulWalk
import Derived.Test.YtlhbpnealboagaaPricePlain
namespace Go.Proofs.Ytlhbpnealboagaa
open Go.RowKit

theorem below_drewN {B : Nat} {a w : World} (h : Below B a w) (n : Nat) : Below B a (w.drewN n) := ⟨h.os, h.tape, h.output, h.size, h.block⟩
theorem below_drew {B : Nat} {a w : World} (h : Below B a w) : Below B a w.drew := ⟨h.os, h.tape, h.output, h.size, h.block⟩
/-- A rule as a value. -/
abbrev rv (l m s : Int) (A : Option Addr) (n c : Nat) (A' : Option Addr) (n' c' : Nat) : Value := .agg #[.int .i64 l, .int .i64 m, .int .i64 s, .slice A n c, .slice A' n' c']
abbrev rcells (l m s : Int) (A : Option Addr) (n c : Nat) (A' : Option Addr) (n' c' : Nat) : Obj := .cells #[.int .i64 l, .int .i64 m, .int .i64 s, .slice A n c, .slice A' n' c'] 24

theorem lowest_any (l m s : Int) (A : Option Addr) (n c : Nat) (A' : Option Addr) (n' c' : Nat) (w : World) (h1 : 0 ≤ l) (h2 : l ≤ 100000000) (h3 : 1 ≤ s) (h4 : s ≤ 100000) :
    Calls Try.prog 23 #[rv l m s A n c A' n' c'] w fun e w' => e = .returned (.int .i64 (Pri.low l s)) ∧ ∃ k, (w.alloc (rcells l m s A n c A' n' c')).drewN k = w' := by
  have hl := Pri.low_ge (l := l) h3
  unfold Pri.low at hl
  obtain ⟨l1, l2⟩ := hl
  have a1 : 0 ≤ (l + s - 1) / s := Int.ediv_nonneg (by omega) (by omega)
  have a2 : (l + s - 1) / s ≤ l + s - 1 := Int.ediv_le_self _ (by omega)
  have f1 : IntKind.i64.wrap (l + s) = l + s := IntWalk.i64_in _ (by omega)
  have f2 : IntKind.i64.wrap (l + s - 1) = l + s - 1 := IntWalk.i64_in _ (by omega)
  have f3 : IntKind.i64.wrap ((l + s - 1) / s) = (l + s - 1) / s := IntWalk.i64_in _ (by omega)
  have f4 : IntKind.i64.wrap ((l + s - 1) / s * s) = (l + s - 1) / s * s := IntWalk.i64_in _ (by omega)
  have f5 : (l + s - 1).tdiv s = (l + s - 1) / s := Int.tdiv_eq_ediv_of_nonneg (by omega)
  have f6 : (s == 0) = false := by simp; omega
  go_enter Try.func23, Try.ntmps23
  go_wp2
  go_quiet (fail)
  go_wp2
  go_ret
  exact ⟨rfl, _, rfl⟩
theorem highest_any (l m s : Int) (A : Option Addr) (n c : Nat) (A' : Option Addr) (n' c' : Nat) (w : World) (h1 : 0 ≤ m) (h2 : m ≤ 100000000) (h3 : 1 ≤ s) (h4 : s ≤ 100000) :
    Calls Try.prog 33 #[rv l m s A n c A' n' c'] w fun e w' => e = .returned (.int .i64 (Pri.high m s)) ∧ ∃ k, (w.alloc (rcells l m s A n c A' n' c')).drewN k = w' := by
  have hl := Pri.high_le (m := m) h3
  unfold Pri.high at hl
  obtain ⟨l1, l2⟩ := hl
  have a1 : 0 ≤ m / s := Int.ediv_nonneg (by omega) (by omega)
  have a2 : m / s ≤ m := Int.ediv_le_self _ (by omega)
  have f3 : IntKind.i64.wrap (m / s) = m / s := IntWalk.i64_in _ (by omega)
  have f4 : IntKind.i64.wrap (m / s * s) = m / s * s := IntWalk.i64_in _ (by omega)
  have f5 : m.tdiv s = m / s := Int.tdiv_eq_ediv_of_nonneg (by omega)
  have f6 : (s == 0) = false := by simp; omega
  go_enter Try.func33, Try.ntmps33
  go_wp2
  go_quiet (fail)
  go_wp2
  go_ret
  exact ⟨rfl, _, rfl⟩
theorem least_any (l s : Int) (w : World) (h1 : 0 ≤ l) (h2 : l ≤ 100000000) (h3 : 1 ≤ s) (h4 : s ≤ 100000) :
    Calls Try.prog 26 #[.int .i64 l, .int .i64 s] w fun e w' => e = .returned (.int .i64 (Pri.low l s)) ∧ w = w' := by
  have hl := Pri.low_ge (l := l) h3
  unfold Pri.low at hl
  obtain ⟨l1, l2⟩ := hl
  have a1 : 0 ≤ (l + s - 1) / s := Int.ediv_nonneg (by omega) (by omega)
  have a2 : (l + s - 1) / s ≤ l + s - 1 := Int.ediv_le_self _ (by omega)
  go_enter Try.func26, Try.ntmps26
  go_wp2
  go_ret
  exact ⟨rfl, rfl⟩
theorem in_any (n lo hi : Int) (w : World) :
    Calls Try.prog 25 #[.int .i64 n, .int .i64 lo, .int .i64 hi] w fun e w' => e = .returned (.bool (decide (lo ≤ n) && decide (n ≤ hi))) ∧ w = w' := by
  go_enter Try.func25, Try.ntmps25
  go_wp2
  all_goals
    go_ret
    exact ⟨ret_bool (by simp [*]; try omega), rfl⟩
theorem in_yes (n lo hi : Int) (w : World) (h1 : lo ≤ n) (h2 : n ≤ hi) :
    Calls Try.prog 25 #[.int .i64 n, .int .i64 lo, .int .i64 hi] w fun e w' => e = .returned (.bool true) ∧ w = w' :=
  (in_any n lo hi w).mono fun e w' ⟨h, h'⟩ => ⟨by rw [h]; exact ret_bool (by simp; omega), h'⟩
theorem in_no (n lo hi : Int) (w : World) (h1 : ¬ (lo ≤ n ∧ n ≤ hi)) :
    Calls Try.prog 25 #[.int .i64 n, .int .i64 lo, .int .i64 hi] w fun e w' => e = .returned (.bool false) ∧ w = w' :=
  (in_any n lo hi w).mono fun e w' ⟨h, h'⟩ => ⟨by rw [h]; exact ret_bool (by simp; omega), h'⟩
theorem yOk_no {ps : List (Int × Int)} {k : Nat} (hk : k < ps.length) (h : ¬ (0 ≤ Fix.py ps k ∧ Fix.py ps k ≤ 10000)) : Pri.fac ps = false := by
  cases hr : Pri.fac ps
  · rfl
  · unfold Pri.fac at hr
    simp only [Bool.and_eq_true] at hr
    exact absurd (Pri.yOk_iff.1 hr.2 k hk) h

set_option maxHeartbeats 1000000 in
theorem factors_any (ps : List (Int × Int)) (A : Option Addr) (c : Nat) (w : World) (hR : RdP w A ps) (hm : ps.length ≤ 100) :
    Calls Try.prog 24 #[.slice A ps.length c] w fun e w' => e = .returned (.bool (Pri.fac ps)) ∧ Below w.heap.size w w' := by
  cases hp : Fix.pts ps
  · rw [show Pri.fac ps = false by unfold Pri.fac; rw [hp]; rfl]
    have HP := Lib.hid hp
    clear hp
    go_enter Try.func24, Try.ntmps24
    go_wp2_with fail
    refine (fat_no ps 0 A c _ hR HP.out).mono ?_
    rintro e w1 ⟨rfl, hb1⟩
    go_wp2
    go_ret
    exact ⟨rfl, hb1⟩
  · obtain ⟨R, hRR⟩ : ∃ R, R = Pri.fac ps := ⟨_, rfl⟩
    rw [← hRR]
    have HR := Lib.hid hRR
    have HP := Lib.hid hp
    clear hp hRR
    go_enter Try.func24, Try.ntmps24
    go_wp2_with fail
    refine (fat_yes ps 0 A c _ hR HP.out).mono ?_
    rintro e w1 ⟨rfl, hb1⟩
    have HB1 := Lib.hid hb1
    have HRD := Lib.hid (hR.below hb1)
    clear hb1 hR
    go_wp2
    go_loopw [16] (fun i wr => ∃ k : Nat, k ≤ ps.length ∧ i = .int .i64 k ∧ (∀ j, j < k → 0 ≤ Fix.py ps j ∧ Fix.py ps j ≤ 10000) ∧ Below w1.heap.size w1 wr) (fun i _ => ps.length - (intOf i).toNat)
    case atStart => exact ⟨0, Nat.zero_le _, rfl, fun j hj => absurd hj (by omega), Below.refl _ _⟩
    case round =>
      obtain ⟨k, hk, rfl, hall, hb⟩ := hrel
      have HA := Lib.hid hall
      clear hall
      by_cases hlt : k < ps.length
      · obtain ⟨b, off, rfl, hbl, hcell⟩ := (HRD.out.below hb) (by omega)
        have HB := Lib.hid hb
        obtain ⟨hcx, hcy⟩ := hcell k hlt
        clear hb hcell
        generalize hx : Fix.px ps k = x at *
        generalize hy : Fix.py ps k = y at *
        have HY := Lib.hid hy
        clear hx hy
        go_wp2
        all_goals first
          | (go_ret
             exact ⟨ret_bool (by rw [HR.out]; exact (yOk_no hlt (by rw [HY.out]; omega)).symm), HB1.out.trans ((HB.out.alloc HB.out.size _).mono HB1.out.size)⟩)
          | (go_roundw
             case rel =>
               refine ⟨k + 1, by omega, by go_num, fun j hj => ?_, HB.out.alloc HB.out.size _⟩
               rcases Nat.lt_or_ge j k with h | h
               · exact HA.out j h
               · obtain rfl : j = k := by omega
                 rw [HY.out]; omega
             case measure => simp [intOf]; omega)
      · have hke : k = ps.length := by omega
        have HK := Lib.hid hke
        have HB := Lib.hid hb
        clear hke hb
        go_wp2
        go_ret
        refine ⟨ret_bool ?_, HB1.out.trans (HB.out.mono HB1.out.size)⟩
        rw [HR.out]
        unfold Pri.fac
        rw [HP.out, Pri.yOk_iff.2 fun j hj => HA.out j (by rw [HK.out]; exact hj)]
        rfl
end Go.Proofs.Ytlhbpnealboagaa
