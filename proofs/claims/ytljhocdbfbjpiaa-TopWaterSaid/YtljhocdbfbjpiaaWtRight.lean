/-
  The walks of the references' functions that check ponds, pumps and pipes.
-/
import Derived.Test.YtljhocdbfbjpiaaWtStepA
import Derived.BigQuiet
namespace Go.Proofs.Ytljhocdbfbjpiaa
open Go.RowKit


set_option maxRecDepth 20000 in
set_option maxHeartbeats 8000000 in
theorem rpond_any (n c : Nat) (f : Nat → Nat → Int) (A : Option Addr) (w : World) (hR : RI w A 5 n f) (hn : n ≤ 8) :
    Calls Try.prog 57 #[.slice A n c] w fun e w' => (∃ E : Int, e = .returned (.int .i64 E) ∧ (E = 0 → ∀ i, i < n → 0 ≤ f i 2 ∧ f i 2 ≤ f i 1 ∧ f i 1 ≤ f i 3 ∧ f i 3 ≤ 1000000000 ∧ 0 ≤ f i 4 ∧ f i 4 ≤ 10000000)) ∧ Below w.heap.size w w' := by
  have HR := Lib.hid hR
  have hni : (n : Int) ≤ 8 := by omega
  clear hR
  go_enter Try.func57, Try.ntmps57
  go_wp2
  go_loopw [3] (fun i wr => ∃ k : Nat, k ≤ n ∧ i = .int .i64 k ∧ (∀ i, i < k → 0 ≤ f i 2 ∧ f i 2 ≤ f i 1 ∧ f i 1 ≤ f i 3 ∧ f i 3 ≤ 1000000000 ∧ 0 ≤ f i 4 ∧ f i 4 ≤ 10000000) ∧ Below w.heap.size w wr) (fun i _ => n - (intOf i).toNat)
  case atStart => exact ⟨0, Nat.zero_le _, rfl, fun m hm => absurd hm (by omega), Below.refl _ _⟩
  case round =>
    obtain ⟨k, hk, rfl, hall, hb⟩ := hrel
    have HALL := Lib.hid hall
    have HB := Lib.hid hb
    clear hall hb
    by_cases hlt : k < n
    · have hlti : (k : Int) < (n : Int) := by omega
      obtain ⟨b, off, rfl, hbz, hc⟩ := (HR.out.below HB.out).at_ hlt
      have c0 := hc 0 (by omega)
      have c1 := hc 1 (by omega)
      have c2 := hc 2 (by omega)
      have c3 := hc 3 (by omega)
      have c4 := hc 4 (by omega)
      rw [Nat.add_zero] at c0
      obtain ⟨x0, e0⟩ : ∃ x, x = f k 0 := ⟨_, rfl⟩
      rw [← e0] at c0
      obtain ⟨x1, e1⟩ : ∃ x, x = f k 1 := ⟨_, rfl⟩
      rw [← e1] at c1
      obtain ⟨x2, e2⟩ : ∃ x, x = f k 2 := ⟨_, rfl⟩
      rw [← e2] at c2
      obtain ⟨x3, e3⟩ : ∃ x, x = f k 3 := ⟨_, rfl⟩
      rw [← e3] at c3
      obtain ⟨x4, e4⟩ : ∃ x, x = f k 4 := ⟨_, rfl⟩
      rw [← e4] at c4
      have HLT := Lib.hid hlt
      clear hc
      by_cases q0 : x0 < 1
      · go_wp2
        go_ret
        exact ⟨⟨2, rfl, fun h => absurd h (by decide)⟩, HB.out.alloc HB.out.size _⟩
      by_cases q1 : 9999 < x0
      · go_wp2
        go_ret
        exact ⟨⟨2, rfl, fun h => absurd h (by decide)⟩, HB.out.alloc HB.out.size _⟩
      by_cases q2 : x2 < 0
      · go_wp2
        go_ret
        exact ⟨⟨2, rfl, fun h => absurd h (by decide)⟩, HB.out.alloc HB.out.size _⟩
      by_cases q3 : x1 < x2
      · go_wp2
        go_ret
        exact ⟨⟨2, rfl, fun h => absurd h (by decide)⟩, HB.out.alloc HB.out.size _⟩
      by_cases q4 : x3 < x1
      · go_wp2
        go_ret
        exact ⟨⟨2, rfl, fun h => absurd h (by decide)⟩, HB.out.alloc HB.out.size _⟩
      by_cases q5 : 1000000000 < x3
      · go_wp2
        go_ret
        exact ⟨⟨2, rfl, fun h => absurd h (by decide)⟩, HB.out.alloc HB.out.size _⟩
      by_cases q6 : x4 < 0
      · go_wp2
        go_ret
        exact ⟨⟨2, rfl, fun h => absurd h (by decide)⟩, HB.out.alloc HB.out.size _⟩
      by_cases q7 : 10000000 < x4
      · go_wp2
        go_ret
        exact ⟨⟨2, rfl, fun h => absurd h (by decide)⟩, HB.out.alloc HB.out.size _⟩
      have HG : Hid (∀ i, i < k + 1 → 0 ≤ f i 2 ∧ f i 2 ≤ f i 1 ∧ f i 1 ≤ f i 3 ∧ f i 3 ≤ 1000000000 ∧ 0 ≤ f i 4 ∧ f i 4 ≤ 10000000) := Lib.hid fun i hi => by
        by_cases e : i = k
        · subst e; omega
        · exact HALL.out i (by omega)
      clear e0 e1 e2 e3 e4  HALL
      go_wp2
      go_loopw [5] (fun i wq => ∃ j : Nat, j ≤ k ∧ i = .int .i64 j ∧ wq.cell? ⟨wr.heap.size, 0, none⟩ = some (.int .i64 x0) ∧ wr.heap.size < wq.heap.size ∧ Below wr.heap.size wr wq) (fun i _ => k - (intOf i).toNat)
      case atStart => exact ⟨0, Nat.zero_le _, rfl, by simp [go_sem], by simp, Joins.below_alloc1 _ _⟩
      case round =>
        obtain ⟨j, hj, rfl, cg, hz, hbq⟩ := hrel
        have HBQ := Lib.hid hbq
        clear hbq q0 q1 q2 q3 q4 q5 q6 q7
        by_cases hjk : j < k
        · obtain ⟨b', off', ee, hbl', hd⟩ := ((HR.out.below HB.out).below HBQ.out).at_ (i := j) (by have := HLT.out; omega)
          injection ee with ee
          injection ee with ee1 ee2
          subst ee1 ee2
          have d0 := hd 0 (by omega)
          rw [Nat.add_zero] at d0
          obtain ⟨x, hx⟩ : ∃ x, x = f j 0 := ⟨_, rfl⟩
          rw [← hx] at d0
          have HJK := Lib.hid hjk
          have hjl : (j : Int) < (n : Int) := by have := HLT.out; omega
          clear hx hd c0 c1 c2 c3 c4
          by_cases hxe : x = x0
          · subst hxe
            go_wp2
            go_quiet (fail)
            go_wp2
            go_ret
            exact ⟨⟨7, rfl, fun h => absurd h (by decide)⟩, (thru HB.out HBQ.out HB.out.size).trans (Joins.below_draws _ _ _)⟩
          · have hx1 : (x == x0) = false := beq_eq_false_iff_ne.2 hxe
            have hx2 : decide (x = x0) = false := decide_eq_false hxe
            clear hxe
            go_wp2
            go_quiet (fail)
            go_wp2
            go_roundw
            case rel => exact ⟨j + 1, HJK.out, by go_num, by simp [go_sem, cg], by simpa using hz, HBQ.out.trans (Joins.below_draws _ _ _)⟩
            case measure => have := HJK.out; simp [intOf]; omega
        · have hje : j = k := by omega
          subst hje
          clear hj hjk cg hz c0 c1 c2 c3 c4
          go_wp2
          go_roundw
          case rel => exact ⟨j + 1, HLT.out, by go_num, HG.out, thru HB.out HBQ.out HB.out.size⟩
          case measure => have := HLT.out; simp [intOf]; omega
    · have hlti : decide ((k : Int) < (n : Int)) = false := decide_eq_false (by omega)
      obtain rfl : k = n := by omega
      clear hlt
      go_wp2
      go_ret
      exact ⟨⟨0, rfl, fun _ => HALL.out⟩, HB.out⟩

set_option maxRecDepth 20000 in
set_option maxHeartbeats 8000000 in
theorem rpump_any (n c : Nat) (f : Nat → Nat → Int) (A : Option Addr) (w : World) (hR : RI w A 3 n f) (hn : n ≤ 8) :
    Calls Try.prog 58 #[.slice A n c] w fun e w' => (∃ E : Int, e = .returned (.int .i64 E) ∧ (E = 0 → ∀ i, i < n → 1 ≤ f i 1 ∧ f i 1 ≤ 1000000 ∧ 1 ≤ f i 2 ∧ f i 2 ≤ 100000000)) ∧ Below w.heap.size w w' := by
  have HR := Lib.hid hR
  have hni : (n : Int) ≤ 8 := by omega
  clear hR
  go_enter Try.func58, Try.ntmps58
  go_wp2
  go_loopw [3] (fun i wr => ∃ k : Nat, k ≤ n ∧ i = .int .i64 k ∧ (∀ i, i < k → 1 ≤ f i 1 ∧ f i 1 ≤ 1000000 ∧ 1 ≤ f i 2 ∧ f i 2 ≤ 100000000) ∧ Below w.heap.size w wr) (fun i _ => n - (intOf i).toNat)
  case atStart => exact ⟨0, Nat.zero_le _, rfl, fun m hm => absurd hm (by omega), Below.refl _ _⟩
  case round =>
    obtain ⟨k, hk, rfl, hall, hb⟩ := hrel
    have HALL := Lib.hid hall
    have HB := Lib.hid hb
    clear hall hb
    by_cases hlt : k < n
    · have hlti : (k : Int) < (n : Int) := by omega
      obtain ⟨b, off, rfl, hbz, hc⟩ := (HR.out.below HB.out).at_ hlt
      have c0 := hc 0 (by omega)
      have c1 := hc 1 (by omega)
      have c2 := hc 2 (by omega)
      rw [Nat.add_zero] at c0
      obtain ⟨x0, e0⟩ : ∃ x, x = f k 0 := ⟨_, rfl⟩
      rw [← e0] at c0
      obtain ⟨x1, e1⟩ : ∃ x, x = f k 1 := ⟨_, rfl⟩
      rw [← e1] at c1
      obtain ⟨x2, e2⟩ : ∃ x, x = f k 2 := ⟨_, rfl⟩
      rw [← e2] at c2
      have HLT := Lib.hid hlt
      clear hc
      by_cases q0 : x0 < 1
      · go_wp2
        go_ret
        exact ⟨⟨2, rfl, fun h => absurd h (by decide)⟩, HB.out.alloc HB.out.size _⟩
      by_cases q1 : 9999 < x0
      · go_wp2
        go_ret
        exact ⟨⟨2, rfl, fun h => absurd h (by decide)⟩, HB.out.alloc HB.out.size _⟩
      by_cases q2 : x1 < 1
      · go_wp2
        go_ret
        exact ⟨⟨2, rfl, fun h => absurd h (by decide)⟩, HB.out.alloc HB.out.size _⟩
      by_cases q3 : 1000000 < x1
      · go_wp2
        go_ret
        exact ⟨⟨2, rfl, fun h => absurd h (by decide)⟩, HB.out.alloc HB.out.size _⟩
      by_cases q4 : x2 < 1
      · go_wp2
        go_ret
        exact ⟨⟨2, rfl, fun h => absurd h (by decide)⟩, HB.out.alloc HB.out.size _⟩
      by_cases q5 : 100000000 < x2
      · go_wp2
        go_ret
        exact ⟨⟨2, rfl, fun h => absurd h (by decide)⟩, HB.out.alloc HB.out.size _⟩
      have HG : Hid (∀ i, i < k + 1 → 1 ≤ f i 1 ∧ f i 1 ≤ 1000000 ∧ 1 ≤ f i 2 ∧ f i 2 ≤ 100000000) := Lib.hid fun i hi => by
        by_cases e : i = k
        · subst e; omega
        · exact HALL.out i (by omega)
      clear e0 e1 e2  HALL
      go_wp2
      go_loopw [5] (fun i wq => ∃ j : Nat, j ≤ k ∧ i = .int .i64 j ∧ wq.cell? ⟨wr.heap.size, 0, none⟩ = some (.int .i64 x0) ∧ wr.heap.size < wq.heap.size ∧ Below wr.heap.size wr wq) (fun i _ => k - (intOf i).toNat)
      case atStart => exact ⟨0, Nat.zero_le _, rfl, by simp [go_sem], by simp, Joins.below_alloc1 _ _⟩
      case round =>
        obtain ⟨j, hj, rfl, cg, hz, hbq⟩ := hrel
        have HBQ := Lib.hid hbq
        clear hbq q0 q1 q2 q3 q4 q5
        by_cases hjk : j < k
        · obtain ⟨b', off', ee, hbl', hd⟩ := ((HR.out.below HB.out).below HBQ.out).at_ (i := j) (by have := HLT.out; omega)
          injection ee with ee
          injection ee with ee1 ee2
          subst ee1 ee2
          have d0 := hd 0 (by omega)
          rw [Nat.add_zero] at d0
          obtain ⟨x, hx⟩ : ∃ x, x = f j 0 := ⟨_, rfl⟩
          rw [← hx] at d0
          have HJK := Lib.hid hjk
          have hjl : (j : Int) < (n : Int) := by have := HLT.out; omega
          clear hx hd c0 c1 c2
          by_cases hxe : x = x0
          · subst hxe
            go_wp2
            go_quiet (fail)
            go_wp2
            go_ret
            exact ⟨⟨7, rfl, fun h => absurd h (by decide)⟩, (thru HB.out HBQ.out HB.out.size).trans (Joins.below_draws _ _ _)⟩
          · have hx1 : (x == x0) = false := beq_eq_false_iff_ne.2 hxe
            have hx2 : decide (x = x0) = false := decide_eq_false hxe
            clear hxe
            go_wp2
            go_quiet (fail)
            go_wp2
            go_roundw
            case rel => exact ⟨j + 1, HJK.out, by go_num, by simp [go_sem, cg], by simpa using hz, HBQ.out.trans (Joins.below_draws _ _ _)⟩
            case measure => have := HJK.out; simp [intOf]; omega
        · have hje : j = k := by omega
          subst hje
          clear hj hjk cg hz c0 c1 c2
          go_wp2
          go_roundw
          case rel => exact ⟨j + 1, HLT.out, by go_num, HG.out, thru HB.out HBQ.out HB.out.size⟩
          case measure => have := HLT.out; simp [intOf]; omega
    · have hlti : decide ((k : Int) < (n : Int)) = false := decide_eq_false (by omega)
      obtain rfl : k = n := by omega
      clear hlt
      go_wp2
      go_ret
      exact ⟨⟨0, rfl, fun _ => HALL.out⟩, HB.out⟩

set_option maxRecDepth 20000 in
set_option maxHeartbeats 8000000 in
theorem rpipe_any (n c : Nat) (f : Nat → Nat → Int) (A : Option Addr) (w : World) (hR : RI w A 5 n f) (hn : n ≤ 8) :
    Calls Try.prog 59 #[.slice A n c] w fun e w' => (∃ E : Int, e = .returned (.int .i64 E) ∧ (E = 0 → ∀ i, i < n → 0 ≤ f i 3)) ∧ Below w.heap.size w w' := by
  have HR := Lib.hid hR
  have hni : (n : Int) ≤ 8 := by omega
  clear hR
  go_enter Try.func59, Try.ntmps59
  go_wp2
  go_loopw [3] (fun i wr => ∃ k : Nat, k ≤ n ∧ i = .int .i64 k ∧ (∀ i, i < k → 0 ≤ f i 3) ∧ Below w.heap.size w wr) (fun i _ => n - (intOf i).toNat)
  case atStart => exact ⟨0, Nat.zero_le _, rfl, fun m hm => absurd hm (by omega), Below.refl _ _⟩
  case round =>
    obtain ⟨k, hk, rfl, hall, hb⟩ := hrel
    have HALL := Lib.hid hall
    have HB := Lib.hid hb
    clear hall hb
    by_cases hlt : k < n
    · have hlti : (k : Int) < (n : Int) := by omega
      obtain ⟨b, off, rfl, hbz, hc⟩ := (HR.out.below HB.out).at_ hlt
      have c0 := hc 0 (by omega)
      have c1 := hc 1 (by omega)
      have c2 := hc 2 (by omega)
      have c3 := hc 3 (by omega)
      have c4 := hc 4 (by omega)
      rw [Nat.add_zero] at c0
      obtain ⟨x0, e0⟩ : ∃ x, x = f k 0 := ⟨_, rfl⟩
      rw [← e0] at c0
      obtain ⟨x1, e1⟩ : ∃ x, x = f k 1 := ⟨_, rfl⟩
      rw [← e1] at c1
      obtain ⟨x2, e2⟩ : ∃ x, x = f k 2 := ⟨_, rfl⟩
      rw [← e2] at c2
      obtain ⟨x3, e3⟩ : ∃ x, x = f k 3 := ⟨_, rfl⟩
      rw [← e3] at c3
      obtain ⟨x4, e4⟩ : ∃ x, x = f k 4 := ⟨_, rfl⟩
      rw [← e4] at c4
      have HLT := Lib.hid hlt
      clear hc
      by_cases q0 : x0 < 1
      · go_wp2
        go_ret
        exact ⟨⟨2, rfl, fun h => absurd h (by decide)⟩, HB.out.alloc HB.out.size _⟩
      by_cases q1 : 9999 < x0
      · go_wp2
        go_ret
        exact ⟨⟨2, rfl, fun h => absurd h (by decide)⟩, HB.out.alloc HB.out.size _⟩
      by_cases q2 : x2 < 1
      · go_wp2
        go_ret
        exact ⟨⟨2, rfl, fun h => absurd h (by decide)⟩, HB.out.alloc HB.out.size _⟩
      by_cases q3 : 9999 < x2
      · go_wp2
        go_ret
        exact ⟨⟨2, rfl, fun h => absurd h (by decide)⟩, HB.out.alloc HB.out.size _⟩
      by_cases q4 : x3 < 0
      · go_wp2
        go_ret
        exact ⟨⟨2, rfl, fun h => absurd h (by decide)⟩, HB.out.alloc HB.out.size _⟩
      by_cases q5 : 100000 < x3
      · go_wp2
        go_ret
        exact ⟨⟨2, rfl, fun h => absurd h (by decide)⟩, HB.out.alloc HB.out.size _⟩
      by_cases q6 : x4 < -100000
      · go_wp2
        go_ret
        exact ⟨⟨2, rfl, fun h => absurd h (by decide)⟩, HB.out.alloc HB.out.size _⟩
      by_cases q7 : 100000 < x4
      · go_wp2
        go_ret
        exact ⟨⟨2, rfl, fun h => absurd h (by decide)⟩, HB.out.alloc HB.out.size _⟩
      have HG : Hid (∀ i, i < k + 1 → 0 ≤ f i 3) := Lib.hid fun i hi => by
        by_cases e : i = k
        · subst e; omega
        · exact HALL.out i (by omega)
      clear e0 e1 e2 e3 e4  HALL
      go_wp2
      go_loopw [5, 6] (fun fr i wq => ∃ j : Nat, ∃ fb : Bool, j ≤ k ∧ fr = .bool fb ∧ i = .int .i64 j ∧ wq.cell? ⟨wr.heap.size, 0, none⟩ = some (.int .i64 x0) ∧ wq.cell? ⟨wr.heap.size, 1, none⟩ = some (.int .i64 x1) ∧ wq.cell? ⟨wr.heap.size, 2, none⟩ = some (.int .i64 x2) ∧ wr.heap.size < wq.heap.size ∧ Below wr.heap.size wr wq) (fun _ i _ => k - (intOf i).toNat)
      case atStart => exact ⟨0, _, Nat.zero_le _, rfl, rfl, by simp [go_sem], by simp [go_sem], by simp [go_sem], by simp, Joins.below_alloc1 _ _⟩
      case round =>
        obtain ⟨j, fb, hj, rfl, rfl, cg, cg1, cg2, hz, hbq⟩ := hrel
        have HBQ := Lib.hid hbq
        clear hbq q0 q1 q2 q3 q4 q5 q6 q7
        by_cases hjk : j < k
        · obtain ⟨b', off', ee, hbl', hd⟩ := ((HR.out.below HB.out).below HBQ.out).at_ (i := j) (by have := HLT.out; omega)
          injection ee with ee
          injection ee with ee1 ee2
          subst ee1 ee2
          have d0 := hd 0 (by omega)
          rw [Nat.add_zero] at d0
          obtain ⟨x, hx⟩ : ∃ x, x = f j 0 := ⟨_, rfl⟩
          rw [← hx] at d0
          have d2 := hd 2 (by omega)
          obtain ⟨y, hy⟩ : ∃ x, x = f j 2 := ⟨_, rfl⟩
          rw [← hy] at d2
          clear hy
          have HJK := Lib.hid hjk
          have hjl : (j : Int) < (n : Int) := by have := HLT.out; omega
          clear hx hd c0 c1 c2 c3 c4
          by_cases hxe : x = x0
          · subst hxe
            go_wp2
            go_quiet (fail)
            go_wp2
            go_ret
            exact ⟨⟨7, rfl, fun h => absurd h (by decide)⟩, (thru HB.out HBQ.out HB.out.size).trans (Joins.below_draws _ _ _)⟩
          · have hx1 : (x == x0) = false := beq_eq_false_iff_ne.2 hxe
            have hx2 : decide (x = x0) = false := decide_eq_false hxe
            clear hxe
            by_cases hye : y = x2
            · subst hye
              go_wp2
              go_quiet (fail)
              go_wp2
              go_ret
              exact ⟨⟨7, rfl, fun h => absurd h (by decide)⟩, (thru HB.out HBQ.out HB.out.size).trans (Joins.below_draws _ _ _)⟩
            · have hy1 : (y == x2) = false := beq_eq_false_iff_ne.2 hye
              have hy2 : decide (y = x2) = false := decide_eq_false hye
              clear hye
              cases fb with
              | true =>
                go_wp2
                go_quiet (fail)
                go_wp2
                go_quiet (fail)
                go_wp2
                go_roundw
                case rel => exact ⟨j + 1, _, HJK.out, rfl, by go_num, by simp [go_sem, cg], by simp [go_sem, cg1], by simp [go_sem, cg2], by simpa using hz, HBQ.out.trans (Joins.below_draws _ _ _)⟩
                case measure => have := HJK.out; simp [intOf]; omega
              | false =>
                by_cases hze : y = x1
                · subst hze
                  go_wp2
                  go_quiet (fail)
                  go_wp2
                  go_quiet (fail)
                  go_wp2
                  go_roundw
                  case rel => exact ⟨j + 1, _, HJK.out, rfl, by go_num, by simp [go_sem, cg], by simp [go_sem, cg1], by simp [go_sem, cg2], by simpa using hz, HBQ.out.trans (Joins.below_draws _ _ _)⟩
                  case measure => have := HJK.out; simp [intOf]; omega
                · have hz1 : (y == x1) = false := beq_eq_false_iff_ne.2 hze
                  have hz2 : decide (y = x1) = false := decide_eq_false hze
                  clear hze
                  go_wp2
                  go_quiet (fail)
                  go_wp2
                  go_quiet (fail)
                  go_wp2
                  go_roundw
                  case rel => exact ⟨j + 1, _, HJK.out, rfl, by go_num, by simp [go_sem, cg], by simp [go_sem, cg1], by simp [go_sem, cg2], by simpa using hz, HBQ.out.trans (Joins.below_draws _ _ _)⟩
                  case measure => have := HJK.out; simp [intOf]; omega
        · have hje : j = k := by omega
          subst hje
          clear hj hjk cg hz c0 c1 c2 c3 c4
          cases fb with
          | false =>
            go_wp2
            go_ret
            exact ⟨⟨8, rfl, fun h => absurd h (by decide)⟩, thru HB.out HBQ.out HB.out.size⟩
          | true =>
            go_wp2
            go_roundw
            case rel => exact ⟨j + 1, HLT.out, by go_num, HG.out, thru HB.out HBQ.out HB.out.size⟩
            case measure => have := HLT.out; simp [intOf]; omega
    · have hlti : decide ((k : Int) < (n : Int)) = false := decide_eq_false (by omega)
      obtain rfl : k = n := by omega
      clear hlt
      go_wp2
      go_ret
      exact ⟨⟨0, rfl, fun _ => HALL.out⟩, HB.out⟩
end Go.Proofs.Ytljhocdbfbjpiaa
