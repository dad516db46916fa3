/-
  The walks of the queues' functions that only read: Right, Length, Same, small.
-/
import Derived.Test.YthabkfmbdkgghaaRows
import Derived.Test.YthabkfmbdkgghaaLawAid
import Derived.Test.YthabkfmbdkgghaaSlice
import Derived.Test.YthabkfmbdkgghaaQueuePlain
import Derived.WalkKit
import Derived.WalkSpells
import Derived.WalkLawsBesides
import Derived.Handy
import Derived.Lib.Hide
import Derived.BigQuiet
import Derived.Deep.RegionHeld3
import Derived.Lib.SmallJoins
namespace Go.Proofs.Ythabkfmbdkgghaa
open Go.RowKit

theorem ret_bool {a b : Bool} (h : a = b) : Ending.returned (.bool a) = .returned (.bool b) := by rw [h]
theorem ret_int {k : IntKind} {a b : Int} (h : a = b) : Ending.returned (.int k a) = .returned (.int k b) := by rw [h]

/-- A queue as a value. -/
abbrev qv (A : Option Addr) (n c : Nat) (s : Int) : Value := .agg #[.slice A n c, .int .i64 s]

theorem small_any (A : Option Addr) (n c : Nat) (s : Int) (w : World) : Calls Try.prog 11 #[qv A n c s] w fun e w' => e = .returned (.bool (decide (n ≤ 300))) ∧ w.alloc (.cells #[.slice A n c, .int .i64 s] 24) = w' := by
  go_enter Try.func11, Try.ntmps11
  go_wp2
  go_ret
  exact ⟨ret_bool (by rw [Bool.eq_iff_iff]; simp; try omega), rfl⟩

theorem right_no {gs : List Int} {s : Int} {k : Nat} (hk : k < gs.length) (h : gs[k]?.getD 0 < 1 ∨ 16 < gs[k]?.getD 0) : Que.right gs s = false := by
  cases hr : Que.right gs s
  · rfl
  · have h4 := (Que.right_iff.1 hr).2.2.2 gs[k] (List.getElem_mem hk)
    rw [List.getElem?_eq_getElem hk] at h
    simp at h
    omega

theorem right_any (gs : List Int) (s : Int) (A : Option Addr) (c : Nat) (w : World) (hR : Rd w A gs) :
    Calls Try.prog 12 #[qv A gs.length c s] w fun e w' => e = .returned (.bool (Que.right gs s)) ∧ w.alloc (.cells #[.slice A gs.length c, .int .i64 s] 24) = w' := by
  obtain ⟨R, hRR⟩ : ∃ R, R = Que.right gs s := ⟨_, rfl⟩
  rw [← hRR]
  by_cases h0 : gs.length ≤ 200 ∧ 0 ≤ s ∧ s ≤ 10000
  · obtain ⟨h1, h2, h3⟩ := h0
    have HR := Lib.hid hRR
    clear hRR
    go_enter Try.func12, Try.ntmps12
    go_wp2
    go_loop [22] (fun i => ∃ k : Nat, k ≤ gs.length ∧ i = .int .i64 k ∧ ∀ j, j < k → 1 ≤ gs[j]?.getD 0 ∧ gs[j]?.getD 0 ≤ 16) (fun i => gs.length - (intOf i).toNat)
    case atStart => exact ⟨0, Nat.zero_le _, rfl, fun j hj => absurd hj (by omega)⟩
    case round =>
      obtain ⟨k, hk, rfl, hall⟩ := hrel
      have HA := Lib.hid hall
      clear hall
      by_cases hlt : k < gs.length
      · obtain ⟨b, off, rfl, hb, hcell⟩ := hR.at_ hlt
        have HRD := Lib.hid hR
        clear hR
        generalize hx : gs[k]?.getD 0 = x at *
        have HX := Lib.hid hx
        clear hx
        go_wp2
        all_goals first
          | (go_ret
             exact ⟨ret_bool (by rw [HR.out]; exact (right_no hlt (by rw [HX.out]; omega)).symm), rfl⟩)
          | (go_round
             case rel =>
               refine ⟨k + 1, by omega, by go_num, fun j hj => ?_⟩
               rcases Nat.lt_or_ge j k with h | h
               · exact HA.out j h
               · obtain rfl : j = k := by omega
                 rw [HX.out]; omega
             case measure => simp [intOf]; omega)
      · have hke : k = gs.length := by omega
        have HK := Lib.hid hke
        clear hke
        go_wp2
        go_ret
        refine ⟨ret_bool ?_, rfl⟩
        rw [HR.out]
        symm
        rw [Que.right_iff]
        refine ⟨h1, h2, h3, fun g hg => ?_⟩
        obtain ⟨j, hj, rfl⟩ := List.getElem_of_mem hg
        have := HA.out j (by rw [HK.out]; exact hj)
        rw [List.getElem?_eq_getElem hj] at this
        simpa using this
  · have hf : R = false := by
      rw [hRR]
      cases hr : Que.right gs s
      · rfl
      · have := Que.right_iff.1 hr; omega
    subst hf
    clear hRR
    by_cases h1 : 200 < gs.length
    · clear h0
      go_enter Try.func12, Try.ntmps12
      go_wp2
      go_ret
      exact ⟨rfl, rfl⟩
    · by_cases h2 : s < 0
      · clear h0
        go_enter Try.func12, Try.ntmps12
        go_wp2
        go_ret
        exact ⟨rfl, rfl⟩
      · have h3 : 10000 < s := by omega
        clear h0
        go_enter Try.func12, Try.ntmps12
        go_wp2
        go_ret
        exact ⟨rfl, rfl⟩
theorem rright_any (gs : List Int) (s : Int) (A : Option Addr) (c : Nat) (w : World) (hR : Rd w A gs) :
    Calls Try.prog 13 #[qv A gs.length c s] w fun e w' => e = .returned (.bool (Que.right gs s)) ∧ w.alloc (.cells #[.slice A gs.length c, .int .i64 s] 24) = w' := by
  obtain ⟨R, hRR⟩ : ∃ R, R = Que.right gs s := ⟨_, rfl⟩
  rw [← hRR]
  by_cases h0 : gs.length ≤ 200 ∧ 0 ≤ s ∧ s ≤ 10000
  · obtain ⟨h1, h2, h3⟩ := h0
    have HR := Lib.hid hRR
    clear hRR
    go_enter Try.func13, Try.ntmps13
    go_wp2
    go_loop [3] (fun i => ∃ k : Nat, k ≤ gs.length ∧ i = .int .i64 k ∧ ∀ j, j < k → 1 ≤ gs[j]?.getD 0 ∧ gs[j]?.getD 0 ≤ 16) (fun i => gs.length - (intOf i).toNat)
    case atStart => exact ⟨0, Nat.zero_le _, rfl, fun j hj => absurd hj (by omega)⟩
    case round =>
      obtain ⟨k, hk, rfl, hall⟩ := hrel
      have HA := Lib.hid hall
      clear hall
      by_cases hlt : k < gs.length
      · obtain ⟨b, off, rfl, hb, hcell⟩ := hR.at_ hlt
        have HRD := Lib.hid hR
        clear hR
        generalize hx : gs[k]?.getD 0 = x at *
        have HX := Lib.hid hx
        clear hx
        go_wp2
        all_goals first
          | (go_ret
             exact ⟨ret_bool (by rw [HR.out]; exact (right_no hlt (by rw [HX.out]; omega)).symm), rfl⟩)
          | (go_round
             case rel =>
               refine ⟨k + 1, by omega, by go_num, fun j hj => ?_⟩
               rcases Nat.lt_or_ge j k with h | h
               · exact HA.out j h
               · obtain rfl : j = k := by omega
                 rw [HX.out]; omega
             case measure => simp [intOf]; omega)
      · have hke : k = gs.length := by omega
        have HK := Lib.hid hke
        clear hke
        go_wp2
        go_ret
        refine ⟨ret_bool ?_, rfl⟩
        rw [HR.out]
        symm
        rw [Que.right_iff]
        refine ⟨h1, h2, h3, fun g hg => ?_⟩
        obtain ⟨j, hj, rfl⟩ := List.getElem_of_mem hg
        have := HA.out j (by rw [HK.out]; exact hj)
        rw [List.getElem?_eq_getElem hj] at this
        simpa using this
  · have hf : R = false := by
      rw [hRR]
      cases hr : Que.right gs s
      · rfl
      · have := Que.right_iff.1 hr; omega
    subst hf
    clear hRR
    by_cases h1 : 200 < gs.length
    · clear h0
      go_enter Try.func13, Try.ntmps13
      go_wp2
      go_ret
      exact ⟨rfl, rfl⟩
    · by_cases h2 : s < 0
      · clear h0
        go_enter Try.func13, Try.ntmps13
        go_wp2
        go_ret
        exact ⟨rfl, rfl⟩
      · have h3 : 10000 < s := by omega
        clear h0
        go_enter Try.func13, Try.ntmps13
        go_wp2
        go_ret
        exact ⟨rfl, rfl⟩

theorem sum_bounds {gs : List Int} {s : Int} (h : Que.right gs s = true) (k : Nat) (hk : k ≤ gs.length) : 0 ≤ Que.sum (gs.take k) ∧ Que.sum (gs.take k) ≤ 3200 := by
  obtain ⟨h1, _, _, h4⟩ := Que.right_iff.1 h
  have := Que.sum_bd (gs := gs.take k) fun g hg => h4 g (List.mem_of_mem_take hg)
  have hl : (gs.take k).length = k := by rw [List.length_take]; omega
  omega

theorem length_any (gs : List Int) (s : Int) (A : Option Addr) (c : Nat) (w : World) (hR : Rd w A gs) (hr : Que.right gs s = true) :
    Calls Try.prog 19 #[qv A gs.length c s] w fun e w' => e = .returned (.int .i64 (Que.qlen gs s)) ∧ w.alloc (.cells #[.slice A gs.length c, .int .i64 s] 24) = w' := by
  obtain ⟨h1, h2, h3, h4⟩ := Que.right_iff.1 hr
  have HS := Lib.hid (sum_bounds hr)
  have H4 := Lib.hid h4
  obtain ⟨R, hRR⟩ : ∃ R, R = Que.qlen gs s := ⟨_, rfl⟩
  rw [← hRR]
  have HR := Lib.hid hRR
  clear hRR hr h4
  go_enter Try.func19, Try.ntmps19
  go_wp2
  go_loop [3, 11] (fun v i => ∃ k : Nat, k ≤ gs.length ∧ i = .int .i64 k ∧ v = .int .i64 (s + Que.sum (gs.take k))) (fun _ i => gs.length - (intOf i).toNat)
  case atStart => exact ⟨0, Nat.zero_le _, rfl, by simp [Que.sum]⟩
  case round =>
    obtain ⟨k, hk, rfl, rfl⟩ := hrel
    obtain ⟨s1, s2⟩ := HS.out k hk
    by_cases hlt : k < gs.length
    · obtain ⟨b, off, rfl, hb, hcell⟩ := hR.at_ hlt
      have hs := Que.sum_take_succ gs k hlt
      have hg := H4.out gs[k] (List.getElem_mem hlt)
      obtain ⟨g1, g2⟩ := hg
      have he : gs[k]?.getD 0 = gs[k] := by rw [List.getElem?_eq_getElem hlt]; rfl
      rw [he] at hcell
      have HRD := Lib.hid hR
      clear hR he
      generalize gs[k] = x at *
      have HX := Lib.hid hs
      clear hs
      generalize Que.sum (gs.take k) = y at *
      go_wp2
      go_round
      case rel => exact ⟨k + 1, by omega, by go_num, by rw [HX.out, Int.add_assoc]⟩
      case measure => simp [intOf]; omega
    · have hke : k = gs.length := by omega
      have hq : s + Que.sum (gs.take k) = R := by rw [HR.out, hke, List.take_length]; rfl
      rw [hq]
      have HK := Lib.hid hke
      clear hke hq
      go_wp2
      go_ret
      exact ⟨rfl, rfl⟩

theorem rlength_any (gs : List Int) (s : Int) (A : Option Addr) (c : Nat) (w : World) (hR : Rd w A gs) (hr : Que.right gs s = true) :
    Calls Try.prog 20 #[qv A gs.length c s] w fun e w' => e = .returned (.int .i64 (Que.qlen gs s)) ∧ w.alloc (.cells #[.slice A gs.length c, .int .i64 s] 24) = w' := by
  obtain ⟨h1, h2, h3, h4⟩ := Que.right_iff.1 hr
  have HS := Lib.hid (sum_bounds hr)
  have H4 := Lib.hid h4
  obtain ⟨R, hRR⟩ : ∃ R, R = Que.qlen gs s := ⟨_, rfl⟩
  rw [← hRR]
  have HR := Lib.hid hRR
  clear hRR hr h4
  go_enter Try.func20, Try.ntmps20
  go_wp2
  go_loop [3, 4] (fun v i => ∃ k : Nat, k ≤ gs.length ∧ i = .int .i64 k ∧ v = .int .i64 (s + Que.sum (gs.take k))) (fun _ i => gs.length - (intOf i).toNat)
  case atStart => exact ⟨0, Nat.zero_le _, rfl, by simp [Que.sum]⟩
  case round =>
    obtain ⟨k, hk, rfl, rfl⟩ := hrel
    obtain ⟨s1, s2⟩ := HS.out k hk
    by_cases hlt : k < gs.length
    · obtain ⟨b, off, rfl, hb, hcell⟩ := hR.at_ hlt
      have hs := Que.sum_take_succ gs k hlt
      have hg := H4.out gs[k] (List.getElem_mem hlt)
      obtain ⟨g1, g2⟩ := hg
      have he : gs[k]?.getD 0 = gs[k] := by rw [List.getElem?_eq_getElem hlt]; rfl
      rw [he] at hcell
      have HRD := Lib.hid hR
      clear hR he
      generalize gs[k] = x at *
      have HX := Lib.hid hs
      clear hs
      generalize Que.sum (gs.take k) = y at *
      go_wp2
      go_round
      case rel => exact ⟨k + 1, by omega, by go_num, by rw [HX.out, Int.add_assoc]⟩
      case measure => simp [intOf]; omega
    · have hke : k = gs.length := by omega
      have hq : s + Que.sum (gs.take k) = R := by rw [HR.out, hke, List.take_length]; rfl
      rw [hq]
      have HK := Lib.hid hke
      clear hke hq
      go_wp2
      go_ret
      exact ⟨rfl, rfl⟩

/-- Same, of two queues that are equal. -/
theorem same_eq (gs : List Int) (s : Int) (A A' : Option Addr) (c c' : Nat) (w : World) (hl : gs.length ≤ 300) (hR : Rd w A gs) (hR' : Rd w A' gs) :
    Calls Try.prog 16 #[qv A gs.length c s, qv A' gs.length c' s] w fun e w' => e = .returned (.bool true) ∧ Below w.heap.size w w' := by
  go_enter Try.func16, Try.ntmps16
  go_wp2
  go_loopw [5] (fun i wr => ∃ k n : Nat, k ≤ gs.length ∧ i = .int .i64 k ∧ wr = ((w.alloc (.cells #[.slice A gs.length c, .int .i64 s] 24)).alloc (.cells #[.slice A' gs.length c', .int .i64 s] 24)).drewN n) (fun i _ => gs.length - (intOf i).toNat)
  case atStart => exact ⟨0, 0, Nat.zero_le _, rfl, rfl⟩
  case round =>
    obtain ⟨k, n, hk, rfl, rfl⟩ := hrel
    by_cases hlt : k < gs.length
    · obtain ⟨b, off, rfl, hb, hcell⟩ := hR.at_ hlt
      obtain ⟨b', off', rfl, hb', hcell'⟩ := hR'.at_ hlt
      have HRD := Lib.hid hR
      have HRD' := Lib.hid hR'
      clear hR hR'
      generalize gs[k]?.getD 0 = x at *
      go_wp2
      go_quiet (fail)
      go_wp2
      go_roundw
      case rel => exact ⟨k + 1, _, by omega, by go_num, rfl⟩
      case measure => simp [intOf]; omega
    · have hke : k = gs.length := by omega
      have HK := Lib.hid hke
      clear hke
      go_wp2
      go_ret
      exact ⟨rfl, ((((Below.refl _ _).alloc (Nat.le_refl _) _).alloc (by simp) _).trans (Joins.below_draws _ _ _))⟩
end Go.Proofs.Ythabkfmbdkgghaa
