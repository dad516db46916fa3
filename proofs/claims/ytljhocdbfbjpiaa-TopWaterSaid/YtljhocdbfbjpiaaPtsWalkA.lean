/-
  Points in memory; the walks of the functions that divide and look whether points are a function.
-/
import Derived.Test.YtljhocdbfbjpiaaWalkAid
import Derived.Test.YtljhocdbfbjpiaaRows
import Derived.Test.YtljhocdbfbjpiaaLawAid
import Derived.Test.YtljhocdbfbjpiaaFixPlain
import Derived.WalkKit
import Derived.WalkSpells
import Derived.WalkLawsBesides
import Derived.Handy
import Derived.Lib.Hide
import Derived.BigQuiet
import Derived.Deep.RegionHeld3
import Derived.Lib.SmallJoins
namespace Go.Proofs.Ytljhocdbfbjpiaa
open Go.RowKit


def RdP (w : World) (A : Option Addr) (ps : List (Int × Int)) : Prop :=
  0 < ps.length → ∃ b off, A = some ⟨b, off, none⟩ ∧ b < w.heap.size ∧ ∀ i, i < ps.length → w.cell? ⟨b, off + i * 2, none⟩ = some (.int .i64 (Fix.px ps i)) ∧ w.cell? ⟨b, off + i * 2 + 1, none⟩ = some (.int .i64 (Fix.py ps i))
theorem RdP.below {w w' : World} {A : Option Addr} {ps : List (Int × Int)} (h : RdP w A ps) (hb : Below w.heap.size w w') : RdP w' A ps := fun hp => by
  obtain ⟨b, off, e, h1, h2⟩ := h hp
  exact ⟨b, off, e, Nat.lt_of_lt_of_le h1 hb.size, fun i hi => ⟨(hb.cell (p := ⟨b, off + i * 2, none⟩) h1).trans (h2 i hi).1, (hb.cell (p := ⟨b, off + i * 2 + 1, none⟩) h1).trans (h2 i hi).2⟩⟩

theorem tdiv_two (a b : Int) (hb : 0 < b) : (a.tdiv b = a / b ∧ 0 ≤ a.tmod b) ∨ (a.tdiv b = a / b + 1 ∧ a.tmod b < 0) := by
  have h1 := Int.tmod_add_mul_tdiv a b
  have h2 := Int.emod_add_mul_ediv a b
  have h3 := Int.emod_nonneg a (show b ≠ 0 by omega)
  have h4 := Int.emod_lt_of_pos a hb
  have h5 := Int.tdiv_eq_ediv (a := a) (b := b)
  rw [Int.sign_eq_one_of_pos hb] at h5
  split at h5
  · left
    rw [Int.add_zero] at h5
    rw [h5] at h1
    exact ⟨h5, by omega⟩
  · right
    rw [h5, Int.mul_add] at h1
    exact ⟨h5, by omega⟩
theorem ediv_bd (a b : Int) (hb : 0 < b) (h1 : -9000000000000000000 ≤ a) (h2 : a ≤ 9000000000000000000) : -9000000000000000000 ≤ a / b ∧ a / b ≤ 9000000000000000000 := by
  constructor
  · refine Int.le_ediv_of_mul_le hb ?_
    have : (-9000000000000000000 : Int) * b ≤ -9000000000000000000 * 1 := Int.mul_le_mul_of_nonpos_left (by omega) (by omega)
    omega
  · have h3 : a / b < 9000000000000000001 := Int.ediv_lt_of_lt_mul hb (by omega)
    omega
theorem floor_any (a b : Int) (w : World) (hb : 0 < b) (hb2 : b ≤ 4000000000000000000) (h1 : -9000000000000000000 ≤ a) (h2 : a ≤ 9000000000000000000) :
    Calls Try.prog 97 #[.int .i64 a, .int .i64 b] w fun e w' => e = .returned (.int .i64 (a / b)) ∧ w = w' := by
  obtain ⟨h3, h4⟩ := ediv_bd a b hb h1 h2
  rcases tdiv_two a b hb with ⟨e1, e2⟩ | ⟨e1, e2⟩
  all_goals
    have h5 : a / b ≤ a.tdiv b := by omega
    have h6 : a.tdiv b ≤ a / b + 1 := by omega
    have E := Lib.hid e1
    clear e1
    go_enter Try.func97, Try.ntmps97
    go_wp2
    go_ret
    exact ⟨ret_int (by have := E.out; omega), rfl⟩
theorem rfloor_any (a b : Int) (w : World) (hb : 0 < b) (hb2 : b ≤ 4000000000000000000) (h1 : -9000000000000000000 ≤ a) (h2 : a ≤ 9000000000000000000) :
    Calls Try.prog 112 #[.int .i64 a, .int .i64 b] w fun e w' => e = .returned (.int .i64 (a / b)) ∧ w = w' := by
  obtain ⟨h3, h4⟩ := ediv_bd a b hb h1 h2
  rcases tdiv_two a b hb with ⟨e1, e2⟩ | ⟨e1, e2⟩
  all_goals
    have h5 : a / b ≤ a.tdiv b := by omega
    have h6 : a.tdiv b ≤ a / b + 1 := by omega
    have E := Lib.hid e1
    clear e1
    go_enter Try.func112, Try.ntmps112
    go_wp2
    go_ret
    exact ⟨ret_int (by have := E.out; omega), rfl⟩
theorem within_any (a b : Int) (w : World) (h1 : 0 ≤ b) (h2 : b ≤ 4000000000000000000) :
    Calls Try.prog 120 #[.int .i64 a, .int .i64 b] w fun e w' => e = .returned (.bool (decide (-b ≤ a) && decide (a ≤ b))) ∧ w = w' := by
  go_enter Try.func120, Try.ntmps120
  go_wp2
  all_goals
    go_ret
    exact ⟨ret_bool (by simp [*]; try omega), rfl⟩

theorem pts_no {ps : List (Int × Int)} {k : Nat} (hk : k < ps.length) (h : ¬ Fix.OkAt ps k) : Fix.pts ps = false := by
  cases hr : Fix.pts ps
  · rfl
  · exact absurd ((Fix.pts_iff.1 hr).2.2 k hk) h
theorem pts_len {ps : List (Int × Int)} (h : ps.length < 1 ∨ 64 < ps.length) : Fix.pts ps = false := by
  cases hr : Fix.pts ps
  · rfl
  · have := Fix.pts_iff.1 hr; omega

set_option maxHeartbeats 1000000 in
theorem fright_any (ps : List (Int × Int)) (A : Option Addr) (c : Nat) (w : World) (hR : RdP w A ps) :
    Calls Try.prog 96 #[.slice A ps.length c] w fun e w' => e = .returned (.bool (Fix.pts ps)) ∧ Below w.heap.size w w' := by
  by_cases h0 : ps.length < 1 ∨ 64 < ps.length
  · rw [pts_len h0]
    rcases h0 with h0 | h0
    · have h0' : ps.length = 0 := by omega
      go_enter Try.func96, Try.ntmps96
      go_wp2
      go_ret
      exact ⟨rfl, Below.refl _ _⟩
    · go_enter Try.func96, Try.ntmps96
      go_wp2
      go_ret
      exact ⟨rfl, Below.refl _ _⟩
  · have h1 : 1 ≤ ps.length := by omega
    have h2 : ps.length ≤ 64 := by omega
    clear h0
    obtain ⟨R, hRR⟩ : ∃ R, R = Fix.pts ps := ⟨_, rfl⟩
    rw [← hRR]
    have HR := Lib.hid hRR
    clear hRR
    go_enter Try.func96, Try.ntmps96
    go_wp2
    go_loopw [15] (fun i wr => ∃ k : Nat, k ≤ ps.length ∧ i = .int .i64 k ∧ (∀ j, j < k → Fix.OkAt ps j) ∧ Below w.heap.size w wr) (fun i _ => ps.length - (intOf i).toNat)
    case atStart => exact ⟨0, Nat.zero_le _, rfl, fun j hj => absurd hj (by omega), Below.refl _ _⟩
    case round =>
      obtain ⟨k, hk, rfl, hall, hb⟩ := hrel
      have HA := Lib.hid hall
      clear hall
      by_cases hlt : k < ps.length
      · obtain ⟨b, off, rfl, hbl, hcell⟩ := (hR.below hb) (by omega)
        have HB := Lib.hid hb
        obtain ⟨hcx, hcy⟩ := hcell k hlt
        have HC := Lib.hid hcell
        clear hb hcell
        generalize hx : Fix.px ps k = x at *
        generalize hy : Fix.py ps k = y at *
        have HX := Lib.hid hx
        have HY := Lib.hid hy
        clear hx hy hR
        cases k with
        | zero =>
          simp only [Nat.zero_mul, Nat.add_zero] at hcx hcy
          go_wp2
          all_goals first
            | (go_ret
               exact ⟨ret_bool (by rw [HR.out]; exact (pts_no hlt (fun h => by have := h.x0; have := h.x1; have := h.y0; have := h.y1; have := HX.out; have := HY.out; omega)).symm), HB.out.alloc HB.out.size _⟩)
            | (go_quiet (fail)
               go_wp2
               go_roundw
               case rel =>
                 refine ⟨1, by omega, by go_num, fun j hj => ?_, (HB.out.alloc HB.out.size _).trans (Joins.below_draws _ _ _)⟩
                 obtain rfl : j = 0 := by omega
                 exact ⟨by rw [HX.out]; omega, by rw [HX.out]; omega, by rw [HY.out]; omega, by rw [HY.out]; omega, fun h => absurd h (by omega)⟩
               case measure => simp [intOf]; omega)
        | succ m =>
          obtain ⟨hcz, _⟩ := HC.out m (by omega)
          generalize hz : Fix.px ps m = z at *
          have HZ := Lib.hid hz
          clear hz
          have hi : (((m + 1 : Nat) : Int) - 1).toNat = m := by omega
          have hi2 : (((m + 1 : Nat) : Int) - 1) = m := by omega
          go_wp2
          all_goals first
            | (go_ret
               exact ⟨ret_bool (by rw [HR.out]; exact (pts_no hlt (fun h => by have := h.x0; have := h.x1; have := h.y0; have := h.y1; have := HX.out; have := HY.out; omega)).symm), HB.out.alloc HB.out.size _⟩)
            | skip
          go_quiet (fail)
          go_wp2
          all_goals first
            | (go_ret
               exact ⟨ret_bool (by rw [HR.out]; exact (pts_no hlt (fun h => by have := h.up (by omega); have := HX.out; have := HZ.out; simp at *; omega)).symm), (HB.out.alloc HB.out.size _).trans (Joins.below_draws _ _ _)⟩)
            | (go_roundw
               case rel =>
                 refine ⟨m + 2, by omega, by go_num, fun j hj => ?_, (HB.out.alloc HB.out.size _).trans (Joins.below_draws _ _ _)⟩
                 rcases Nat.lt_or_ge j (m + 1) with h | h
                 · exact HA.out j h
                 · obtain rfl : j = m + 1 := by omega
                   exact ⟨by rw [HX.out]; omega, by rw [HX.out]; omega, by rw [HY.out]; omega, by rw [HY.out]; omega, fun _ => by rw [HX.out, Nat.add_sub_cancel, HZ.out]; omega⟩
               case measure => simp [intOf]; omega)
      · have hke : k = ps.length := by omega
        have HK := Lib.hid hke
        have HB := Lib.hid hb
        clear hke hb hR
        go_wp2
        go_ret
        refine ⟨ret_bool ?_, HB.out⟩
        rw [HR.out, Fix.pts_iff.2 ⟨h1, h2, fun j hj => HA.out j (by rw [HK.out]; exact hj)⟩]
end Go.Proofs.Ytljhocdbfbjpiaa
