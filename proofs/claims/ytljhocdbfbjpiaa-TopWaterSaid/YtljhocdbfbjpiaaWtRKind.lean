/-
  The walks of the references' functions that check a kind of guns and find one.
-/
import Derived.Test.YtljhocdbfbjpiaaWtStepA
import Derived.Test.YtljhocdbfbjpiaaPtsWalkD
import Derived.BigQuiet
namespace Go.Proofs.Ytljhocdbfbjpiaa
open Go.RowKit

/-- What Right says of the points of a kind. -/
def YOK (ps : List (Int × Int)) : Prop := Fix.pts ps = true ∧ ∀ j, j < ps.length → 0 ≤ Fix.py ps j ∧ Fix.py ps j ≤ 10000
theorem yok_out {ps : List (Int × Int)} (h : YOK ps) (wet : Int) : 0 ≤ outV ps wet ∧ outV ps wet ≤ 10000 := by
  obtain ⟨h1, h2⟩ := h
  rw [outV, if_pos h1]
  obtain ⟨h3, h4, h5⟩ := Fix.pts_iff.1 h1
  exact Fix.atv_bd (Fix.Inc.of_pts h1) (by omega) h2
theorem rid_any (x : Int) (w : World) : Calls Try.prog 84 #[.int .i64 x] w fun e w' => e = .returned (.bool (decide (1 ≤ x) && decide (x ≤ 9999))) ∧ w = w' := by
  go_enter Try.func84, Try.ntmps84
  go_wp2
  all_goals
    go_ret
    exact ⟨ret_bool (by simp [*]; try omega), rfl⟩
theorem rday_any (x : Int) (w : World) : Calls Try.prog 85 #[.int .i64 x] w fun e w' => e = .returned (.bool (decide (0 ≤ x) && decide (x ≤ 86400))) ∧ w = w' := by
  go_enter Try.func85, Try.ntmps85
  go_wp2
  all_goals
    go_ret
    exact ⟨ret_bool (by simp [*]; try omega), rfl⟩
set_option maxRecDepth 20000 in
set_option maxHeartbeats 8000000 in
theorem rkind_any (n c k : Nat) (K : KK) (A : Option Addr) (w : World) (hR : RdK w A n K) (hn : n ≤ 8) (hk : k < n) (hl : (K.p k).length ≤ 70) :
    Calls Try.prog 83 #[.slice A n c, .int .i64 k] w fun e w' => (∃ E : Int, e = .returned (.int .i64 E) ∧ (E = 0 → (0 ≤ K.pw k ∧ K.pw k ≤ 1000000) ∧ YOK (K.p k))) ∧ Below w.heap.size w w' := by
  have HR := Lib.hid hR
  have hni : (n : Int) ≤ 8 := by omega
  have hki : (k : Int) < (n : Int) := by omega
  have HK := Lib.hid hk
  have hP := hR.pts hk
  obtain ⟨b, off, rfl, hbz, q0, q1, q2, q3⟩ := hR.at_ hk
  obtain ⟨AK, hA⟩ : ∃ x, x = K.A k := ⟨_, rfl⟩
  obtain ⟨ck, hck⟩ : ∃ x, x = K.c k := ⟨_, rfl⟩
  obtain ⟨ps, hps⟩ : ∃ x, x = K.p k := ⟨_, rfl⟩
  obtain ⟨x0, e0⟩ : ∃ x, x = K.id k := ⟨_, rfl⟩
  obtain ⟨x2, e2⟩ : ∃ x, x = K.pw k := ⟨_, rfl⟩
  obtain ⟨x3, e3⟩ : ∃ x, x = K.pr k := ⟨_, rfl⟩
  rw [← hA, ← hps] at hP
  rw [← hA, ← hps, ← hck] at q1
  rw [← e0] at q0
  rw [← e2] at q2
  rw [← e3] at q3
  rw [← hps] at hl ⊢
  rw [← e2]
  have HP := Lib.hid hP
  have hli : (ps.length : Int) ≤ 70 := by omega
  clear hR hP hA hck hps e0 e2 e3 hk
  go_enter Try.func83, Try.ntmps83
  by_cases t0 : x0 < 1
  · go_wp2
    go_ret
    exact ⟨⟨2, rfl, fun h => absurd h (by decide)⟩, Joins.below_alloc1 _ _⟩
  by_cases t1 : 9999 < x0
  · go_wp2
    go_ret
    exact ⟨⟨2, rfl, fun h => absurd h (by decide)⟩, Joins.below_alloc1 _ _⟩
  by_cases t2 : x2 < 0
  · go_wp2
    go_ret
    exact ⟨⟨2, rfl, fun h => absurd h (by decide)⟩, Joins.below_alloc1 _ _⟩
  by_cases t3 : 1000000 < x2
  · go_wp2
    go_ret
    exact ⟨⟨2, rfl, fun h => absurd h (by decide)⟩, Joins.below_alloc1 _ _⟩
  by_cases t4 : x3 < 0
  · go_wp2
    go_ret
    exact ⟨⟨2, rfl, fun h => absurd h (by decide)⟩, Joins.below_alloc1 _ _⟩
  by_cases t5 : 1000000 < x3
  · go_wp2
    go_ret
    exact ⟨⟨2, rfl, fun h => absurd h (by decide)⟩, Joins.below_alloc1 _ _⟩
  have HPW : Hid (0 ≤ x2 ∧ x2 ≤ 1000000) := Lib.hid (by omega)
  go_wp2
  clear t0 t1 t2 t3 t4 t5
  go_loopw [6] (fun i wq => ∃ j : Nat, j ≤ k ∧ i = .int .i64 j ∧ wq.cell? ⟨w.heap.size, 0, none⟩ = some (.int .i64 x0) ∧ wq.cell? ⟨w.heap.size, 1, none⟩ = some (.slice AK ps.length ck) ∧ w.heap.size < wq.heap.size ∧ Below w.heap.size w wq) (fun i _ => k - (intOf i).toNat)
  case atStart => exact ⟨0, Nat.zero_le _, rfl, by simp [go_sem], by simp [go_sem], by simp, Joins.below_alloc1 _ _⟩
  case round =>
    obtain ⟨j, hj, rfl, cg, cg1, hz, hbq⟩ := hrel
    have HBQ := Lib.hid hbq
    clear hbq q0 q1 q2 q3
    by_cases hjk : j < k
    · obtain ⟨b', off', ee, hbl', d0, -, -, -⟩ := (HR.out.below HBQ.out).at_ (i := j) (by have := HK.out; omega)
      injection ee with ee
      injection ee with ee1 ee2
      subst ee1 ee2
      obtain ⟨x, hx⟩ : ∃ x, x = K.id j := ⟨_, rfl⟩
      rw [← hx] at d0
      clear hx
      have HJK := Lib.hid hjk
      have hjl : (j : Int) < (n : Int) := by have := HK.out; omega
      by_cases hxe : x = x0
      · subst hxe
        go_wp2
        go_quiet (fail)
        go_wp2
        go_ret
        exact ⟨⟨7, rfl, fun h => absurd h (by decide)⟩, thru HBQ.out (Joins.below_draws _ _ _) HBQ.out.size⟩
      · have hx1 : (x == x0) = false := beq_eq_false_iff_ne.2 hxe
        have hx2 : decide (x = x0) = false := decide_eq_false hxe
        clear hxe
        go_wp2
        go_quiet (fail)
        go_wp2
        go_roundw
        case rel => exact ⟨j + 1, HJK.out, by go_num, by simp [go_sem, cg], by simp [go_sem, cg1], by simpa using hz, thru HBQ.out (Joins.below_draws _ _ _) HBQ.out.size⟩
        case measure => have := HJK.out; simp [intOf]; omega
    · have hje : j = k := by omega
      subst hje
      clear hj hjk cg
      have hR2 := HP.out.below HBQ.out
      by_cases hp : Fix.pts ps = true
      · have HC := Lib.hid (rat_yes ps 0 AK ck _ hR2 hp)
        have HPT := Lib.hid hp
        clear hp hR2
        go_wp2_with fail
        refine HC.out.mono ?_
        rintro e w1 ⟨rfl, hb1⟩
        have HB1 := Lib.hid (thru HBQ.out hb1 HBQ.out.size)
        have g1 : w1.cell? ⟨w.heap.size, 1, none⟩ = some (.slice AK ps.length ck) := (hb1.cell (p := ⟨w.heap.size, 1, none⟩) hz).trans cg1
        have hz1 : w.heap.size < w1.heap.size := Nat.lt_of_lt_of_le hz hb1.size
        clear hb1 cg1 hz HC HBQ
        go_wp2
        go_loopw [9] (fun i wq => ∃ m : Nat, m ≤ ps.length ∧ i = .int .i64 m ∧ (∀ q, q < m → 0 ≤ Fix.py ps q ∧ Fix.py ps q ≤ 10000) ∧ wq.cell? ⟨w.heap.size, 1, none⟩ = some (.slice AK ps.length ck) ∧ w.heap.size < wq.heap.size ∧ Below w.heap.size w wq) (fun i _ => ps.length - (intOf i).toNat)
        case atStart => exact ⟨0, Nat.zero_le _, rfl, fun q hq => absurd hq (by omega), g1, hz1, HB1.out⟩
        case round =>
          obtain ⟨m, hm, rfl, hall, cg, hz, hbq⟩ := hrel
          have HALL := Lib.hid hall
          have HBQ := Lib.hid hbq
          clear hall hbq g1 hz1
          by_cases hlt : m < ps.length
          · obtain ⟨b2, o2, rfl, hb2, hc2⟩ := (HP.out.below HBQ.out) (by omega)
            have d1 := (hc2 m hlt).2
            obtain ⟨y, hy⟩ : ∃ x, x = Fix.py ps m := ⟨_, rfl⟩
            rw [← hy] at d1
            have HY := Lib.hid hy
            have HLT := Lib.hid hlt
            have hmi : (m : Int) < (ps.length : Int) := by omega
            have HG : Hid (0 ≤ y → y ≤ 10000 → ∀ q, q < m + 1 → 0 ≤ Fix.py ps q ∧ Fix.py ps q ≤ 10000) := Lib.hid fun h0 h1 q hq => by
              by_cases e : q = m
              · subst e; rw [← HY.out]; exact ⟨h0, h1⟩
              · exact HALL.out q (by omega)
            clear hy
            by_cases hy0 : y < 0
            · have y0 : decide (y < 0) = true := decide_eq_true hy0
              clear hy0 hc2
              go_wp2
              go_quiet (fail)
              go_wp2
              go_ret
              exact ⟨⟨1, rfl, fun h => absurd h (by decide)⟩, thru HBQ.out (Joins.below_draws _ _ _) HBQ.out.size⟩
            have y0 : decide (y < 0) = false := decide_eq_false hy0
            by_cases hy1 : 10000 < y
            · have y1 : decide (10000 < y) = true := decide_eq_true hy1
              clear hy0 hy1 hc2
              go_wp2
              go_quiet (fail)
              go_wp2
              go_ret
              exact ⟨⟨1, rfl, fun h => absurd h (by decide)⟩, thru HBQ.out (Joins.below_draws _ _ _) HBQ.out.size⟩
            have y1 : decide (10000 < y) = false := decide_eq_false hy1
            replace HG := Lib.hid (HG.out (by omega) (by omega))
            clear hy0 hy1
            by_cases hm0 : m = 0
            · have m0 : decide ((0 : Int) < (m : Int)) = false := decide_eq_false (by omega)
              have m1 : decide (0 < m) = false := decide_eq_false (by omega)
              clear hc2 hm0
              go_wp2
              go_quiet (fail)
              go_wp2
              go_roundw
              case rel => exact ⟨_, HLT.out, by go_num, HG.out, by simp [go_sem, cg], by simpa using hz, thru HBQ.out (Joins.below_draws _ _ _) HBQ.out.size⟩
              case measure => have := HLT.out; simp [intOf]; omega
            have m0 : decide ((0 : Int) < (m : Int)) = true := decide_eq_true (by omega)
            have m1 : decide (0 < m) = true := decide_eq_true (by omega)
            obtain ⟨p, hp⟩ : ∃ p, p + 1 = m := ⟨m - 1, by omega⟩
            have d0 := (hc2 p (by omega)).2
            obtain ⟨z, hz'⟩ : ∃ x, x = Fix.py ps p := ⟨_, rfl⟩
            rw [← hz'] at d0
            have hi : ((m : Int) - 1).toNat = p := by omega
            have hi2 : ((m : Int) - 1) = p := by omega
            have hpl : p < ps.length := by omega
            have hpi : (p : Int) < (ps.length : Int) := by omega
            clear hc2 hz' hm0
            by_cases hzy : z < y
            · have z0 : decide (z < y) = true := decide_eq_true hzy
              clear hzy
              go_wp2
              go_quiet (fail)
              go_wp2
              go_ret
              exact ⟨⟨1, rfl, fun h => absurd h (by decide)⟩, thru HBQ.out (Joins.below_draws _ _ _) HBQ.out.size⟩
            have z0 : decide (z < y) = false := decide_eq_false hzy
            clear hzy
            go_wp2
            go_quiet (fail)
            go_wp2
            go_roundw
            case rel => exact ⟨_, HLT.out, by go_num, HG.out, by simp [go_sem, cg], by simpa using hz, thru HBQ.out (Joins.below_draws _ _ _) HBQ.out.size⟩
            case measure => have := HLT.out; simp [intOf]; omega
          · have hlti : decide ((m : Int) < (ps.length : Int)) = false := decide_eq_false (by omega)
            obtain rfl : m = ps.length := by omega
            clear hlt
            go_wp2
            go_ret
            exact ⟨⟨0, rfl, fun _ => ⟨HPW.out, HPT.out, HALL.out⟩⟩, HBQ.out⟩
      · have HC := Lib.hid (rat_no ps 0 AK ck _ hR2 (by simpa using hp))
        clear hp hR2
        go_wp2_with fail
        refine HC.out.mono ?_
        rintro e w1 ⟨rfl, hb1⟩
        have HB1 := Lib.hid (thru HBQ.out hb1 HBQ.out.size)
        clear hb1 cg1 hz HC HBQ
        go_wp2
        go_ret
        exact ⟨⟨1, rfl, fun h => absurd h (by decide)⟩, HB1.out⟩
end Go.Proofs.Ytljhocdbfbjpiaa
