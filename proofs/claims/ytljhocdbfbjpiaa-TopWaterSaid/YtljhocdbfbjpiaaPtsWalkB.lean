/-
  The walk of the reference's look whether points are a function.
-/
import Derived.Test.YtljhocdbfbjpiaaPtsWalkA
namespace Go.Proofs.Ytljhocdbfbjpiaa
open Go.RowKit

theorem quiet_left {P : Program} {f : FuncId} {args : Array Value} {w : World} {n : Nat} {v : Value}
    (h : Calls P f args (w.drewN n) fun e w' => e = .returned v ∧ w.drewN n = w') : Calls P f args (w.drewN n) fun e w'' => e = .returned v ∧ ∃ m, w'' = w.drewN m :=
  h.mono fun _ _ ⟨he, hm⟩ => ⟨he, n, hm.symm⟩
theorem within_yes (a : Int) (w : World) (h1 : -1000000000 ≤ a) (h2 : a ≤ 1000000000) :
    Calls Try.prog 120 #[.int .i64 a, .int .i64 1000000000] w fun e w' => e = .returned (.bool true) ∧ w = w' :=
  (within_any a 1000000000 w (by omega) (by omega)).mono fun e w' ⟨h, h'⟩ => ⟨by rw [h]; exact ret_bool (by simp; omega), h'⟩
theorem within_no (a : Int) (w : World) (h1 : ¬ (-1000000000 ≤ a ∧ a ≤ 1000000000)) :
    Calls Try.prog 120 #[.int .i64 a, .int .i64 1000000000] w fun e w' => e = .returned (.bool false) ∧ w = w' :=
  (within_any a 1000000000 w (by omega) (by omega)).mono fun e w' ⟨h, h'⟩ => ⟨by rw [h]; exact ret_bool (by simp; omega), h'⟩

set_option maxHeartbeats 1000000 in
theorem rpoints_any (ps : List (Int × Int)) (A : Option Addr) (c : Nat) (w : World) (hR : RdP w A ps) :
    Calls Try.prog 111 #[.slice A ps.length c] w fun e w' => e = .returned (.bool (Fix.pts ps)) ∧ Below w.heap.size w w' := by
  by_cases h0 : ps.length < 1 ∨ 64 < ps.length
  · rw [pts_len h0]
    rcases h0 with h0 | h0
    · have h0' : ps.length = 0 := by omega
      go_enter Try.func111, Try.ntmps111
      go_wp2
      go_ret
      exact ⟨rfl, Below.refl _ _⟩
    · go_enter Try.func111, Try.ntmps111
      go_wp2
      go_ret
      exact ⟨rfl, Below.refl _ _⟩
  · have h1 : 1 ≤ ps.length := by omega
    have h2 : ps.length ≤ 64 := by omega
    clear h0
    obtain ⟨R, hRR⟩ : ∃ R, R = Fix.pts ps := ⟨_, rfl⟩
    rw [← hRR]
    have HR := Lib.hid hRR
    clear hRR
    go_enter Try.func111, Try.ntmps111
    go_wp2
    go_loopw [3] (fun i wr => ∃ k : Nat, k ≤ ps.length ∧ i = .int .i64 k ∧ (∀ j, j < k → Fix.OkAt ps j) ∧ Below w.heap.size w wr) (fun i _ => ps.length - (intOf i).toNat)
    case atStart => exact ⟨0, Nat.zero_le _, rfl, fun j hj => absurd hj (by omega), Below.refl _ _⟩
    case round =>
      obtain ⟨k, hk, rfl, hall, hb⟩ := hrel
      have HA := Lib.hid hall
      clear hall
      by_cases hlt : k < ps.length
      · obtain ⟨b, off, rfl, hbl, hcell⟩ := (hR.below hb) (by omega)
        have HB := Lib.hid hb
        obtain ⟨hcx, hcy⟩ := hcell k hlt
        have HC := Lib.hid hcell
        clear hb hcell
        generalize hx : Fix.px ps k = x at *
        generalize hy : Fix.py ps k = y at *
        have HX := Lib.hid hx
        have HY := Lib.hid hy
        clear hx hy hR
        by_cases bx : -1000000000 ≤ x ∧ x ≤ 1000000000
        · by_cases by_ : -1000000000 ≤ y ∧ y ≤ 1000000000
          · cases k with
            | zero =>
              simp only [Nat.zero_mul, Nat.add_zero] at hcx hcy
              have BX := Lib.hid bx
              have BY := Lib.hid by_
              clear bx by_
              go_wp2
              go_quiet (first | (go_at_call 120; with_reducible exact quiet_left (within_yes x _ BX.out.1 BX.out.2)) | (go_at_call 120; with_reducible exact quiet_left (within_yes y _ BY.out.1 BY.out.2)))
              go_wp2
              go_roundw
              case rel =>
                refine ⟨1, by omega, by go_num, fun j hj => ?_, HB.out.trans (Joins.below_draws _ _ _)⟩
                obtain rfl : j = 0 := by omega
                have := BX.out; have := BY.out
                exact ⟨by rw [HX.out]; omega, by rw [HX.out]; omega, by rw [HY.out]; omega, by rw [HY.out]; omega, fun h => absurd h (by omega)⟩
              case measure => simp [intOf]; omega
            | succ m =>
              obtain ⟨hcz, _⟩ := HC.out m (by omega)
              generalize hz : Fix.px ps m = z at *
              have HZ := Lib.hid hz
              have BX := Lib.hid bx
              have BY := Lib.hid by_
              clear bx by_ hz
              go_wp2
              go_quiet (first | (go_at_call 120; with_reducible exact quiet_left (within_yes x _ BX.out.1 BX.out.2)) | (go_at_call 120; with_reducible exact quiet_left (within_yes y _ BY.out.1 BY.out.2)))
              go_wp2
              all_goals first
                | (go_ret
                   exact ⟨ret_bool (by rw [HR.out]; exact (pts_no hlt (fun h => by have := h.up (by omega); have := HX.out; have := HZ.out; simp at *; omega)).symm), HB.out.trans (Joins.below_draws _ _ _)⟩)
                | (go_roundw
                   case rel =>
                     refine ⟨m + 2, by omega, by go_num, fun j hj => ?_, HB.out.trans (Joins.below_draws _ _ _)⟩
                     rcases Nat.lt_or_ge j (m + 1) with h | h
                     · exact HA.out j h
                     · obtain rfl : j = m + 1 := by omega
                       have := BX.out; have := BY.out
                       exact ⟨by rw [HX.out]; omega, by rw [HX.out]; omega, by rw [HY.out]; omega, by rw [HY.out]; omega, fun _ => by rw [HX.out, Nat.add_sub_cancel, HZ.out]; omega⟩
                   case measure => simp [intOf]; omega)
          · have BX := Lib.hid bx
            have BY := Lib.hid by_
            clear bx by_
            go_wp2
            go_quiet (first | (go_at_call 120; with_reducible exact quiet_left (within_yes x _ BX.out.1 BX.out.2)) | (go_at_call 120; with_reducible exact quiet_left (within_no y _ BY.out)))
            go_wp2
            go_ret
            exact ⟨ret_bool (by rw [HR.out]; exact (pts_no hlt (fun h => by have := h.y0; have := h.y1; have := HY.out; have := BY.out; omega)).symm), HB.out.trans (Joins.below_draws _ _ _)⟩
        · have BX := Lib.hid bx
          clear bx
          go_wp2
          go_quiet (first | (go_at_call 120; with_reducible exact quiet_left (within_no x _ BX.out)))
          go_wp2
          go_ret
          exact ⟨ret_bool (by rw [HR.out]; exact (pts_no hlt (fun h => by have := h.x0; have := h.x1; have := HX.out; have := BX.out; omega)).symm), HB.out.trans (Joins.below_draws _ _ _)⟩
      · have hke : k = ps.length := by omega
        have HK := Lib.hid hke
        have HB := Lib.hid hb
        clear hke hb hR
        go_wp2
        go_ret
        refine ⟨ret_bool ?_, HB.out⟩
        rw [HR.out, Fix.pts_iff.2 ⟨h1, h2, fun j hj => HA.out j (by rw [HK.out]; exact hj)⟩]
end Go.Proofs.Ytljhocdbfbjpiaa
