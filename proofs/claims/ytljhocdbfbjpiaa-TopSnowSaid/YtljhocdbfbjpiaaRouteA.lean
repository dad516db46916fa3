/-
  The tasks of the example: no two of one run; none clashes with another.
-/
import Derived.Test.YtljhocdbfbjpiaaSliceHas
import Derived.Test.YtljhocdbfbjpiaaBelowAid
import Derived.Deep.RegionWith
namespace Go.Proofs.Ytljhocdbfbjpiaa
open Go.RowKit

/-- Two tasks in memory. -/
structure Tsk (w : World) (b : Nat) : Prop where
  a0 : w.cell? ⟨b, 0, none⟩ = some (.int .i64 1)
  a1 : w.cell? ⟨b, 1, none⟩ = some (.int .i64 10)
  a2 : w.cell? ⟨b, 2, none⟩ = some (.bool false)
  a3 : w.cell? ⟨b, 3, none⟩ = some (.slice none 0 0)
  b0 : w.cell? ⟨b, 4, none⟩ = some (.int .i64 2)
  b1 : w.cell? ⟨b, 5, none⟩ = some (.int .i64 20)
  b2 : w.cell? ⟨b, 6, none⟩ = some (.bool false)
  b3 : w.cell? ⟨b, 7, none⟩ = some (.slice none 0 0)
theorem Tsk.on {w w' : World} {b : Nat} (h : Tsk w b) (hb : b < w.heap.size) (hx : Below w.heap.size w w') : Tsk w' b :=
  ⟨(hx.cell (p := ⟨b, 0, none⟩) hb).trans h.a0, (hx.cell (p := ⟨b, 1, none⟩) hb).trans h.a1, (hx.cell (p := ⟨b, 2, none⟩) hb).trans h.a2, (hx.cell (p := ⟨b, 3, none⟩) hb).trans h.a3, (hx.cell (p := ⟨b, 4, none⟩) hb).trans h.b0, (hx.cell (p := ⟨b, 5, none⟩) hb).trans h.b1, (hx.cell (p := ⟨b, 6, none⟩) hb).trans h.b2, (hx.cell (p := ⟨b, 7, none⟩) hb).trans h.b3⟩
abbrev tskV (r s : Int) : Value := .agg #[.int .i64 r, .int .i64 s, .bool false, .slice none 0 0]

set_option maxRecDepth 20000 in
set_option maxHeartbeats 2000000 in
theorem find1_any (r s x : Int) (p : Nat) (w : World) (hp : w.cell? ⟨p, 0, none⟩ = some (.int .i64 x)) (hz : p < w.heap.size) :
    Calls Try.prog 99 #[tskV r s, .pointer (some ⟨p, 0, none⟩)] w fun e w' => e = .returned (.bool (r == x)) ∧ Below w.heap.size w w' := by
  go_enter Try.func99, Try.ntmps99
  go_wp2
  go_ret
  exact ⟨rfl, by go_grown⟩
set_option maxRecDepth 20000 in
set_option maxHeartbeats 2000000 in
theorem indexf_any (n : Nat) (x : Int) (b c p : Nat) (w : World) (hM : Tsk w b) (hp : w.cell? ⟨p, 0, none⟩ = some (.int .i64 x)) (hz : p < w.heap.size) (hn : n ≤ 1) (hx : x ≠ 1 ∨ n = 0) :
    Calls Try.prog 98 #[.slice (some ⟨b, 0, none⟩) n c, .func (.func 99) #[] #[.pointer (some ⟨p, 0, none⟩)]] w fun e w' => e = .returned (.int .i64 (-1)) ∧ Below w.heap.size w w' := by
  obtain ⟨a0, a1, a2, a3, -⟩ := hM
  have hn2 : n = 0 ∨ n = 1 := by omega
  rcases hn2 with rfl | rfl
  · go_enter Try.func98, Try.ntmps98
    go_wp2
    go_loopw [8] (fun i wr => i = .int .i64 0 ∧ w = wr) (fun _ _ => 0)
    case atStart => exact ⟨rfl, rfl⟩
    case round =>
      obtain ⟨rfl, rfl⟩ := hrel
      go_wp2
      go_ret
      exact ⟨rfl, Below.refl _ _⟩
  · have hx1 : ((1 : Int) == x) = false := beq_eq_false_iff_ne.2 (by omega)
    go_enter Try.func98, Try.ntmps98
    go_wp2
    go_loopw [8] (fun i wr => (i = .int .i64 0 ∧ w = wr) ∨ (i = .int .i64 1 ∧ Below w.heap.size w wr)) (fun i _ => 1 - (intOf i).toNat)
    case atStart => exact .inl ⟨rfl, rfl⟩
    case round =>
      rcases hrel with ⟨rfl, rfl⟩ | ⟨rfl, hbe⟩
      · go_wp2_with fail
        refine (find1_any 1 10 x p w hp hz).mono ?_
        rw [hx1]
        rintro e w2 ⟨rfl, hb2⟩
        go_wp2
        go_roundw
        case rel => exact .inr ⟨by go_num, hb2⟩
        case measure => simp [intOf]
      · go_wp2
        go_ret
        exact ⟨rfl, hbe⟩
set_option maxRecDepth 20000 in
set_option maxHeartbeats 2000000 in
theorem find_any (n : Nat) (x : Int) (b c : Nat) (w : World) (hM : Tsk w b) (hb : b < w.heap.size) (hn : n ≤ 1) (hx : x ≠ 1 ∨ n = 0) :
    Calls Try.prog 78 #[.slice (some ⟨b, 0, none⟩) n c, .int .i64 x] w fun e w' => e = .returned (.int .i64 (-1)) ∧ Below w.heap.size w w' := by
  have hmf : ∀ (fn : Fn) (first cap : Array Value) (w : World), (Instr.makeFunc fn first cap).run Try.prog w = .ok (.func fn first cap) w := by
    intros; simp [go_sem, Instr.makeFunc]
  have hC := indexf_any n x b c w.heap.size (w.alloc (.cells #[.int .i64 x] 3)) (hM.on hb (Joins.below_alloc1 _ _)) (by simp [go_sem]) (by simp) hn hx
  have HC := Lib.hid hC
  clear hC hM hx
  go_enter Try.func78, Try.ntmps78
  go_wp2_with fail
  refine HC.out.mono ?_
  rintro e w2 ⟨rfl, hb2⟩
  clear HC
  go_wp2
  go_ret
  exact ⟨rfl, thru (Joins.below_alloc1 _ _) hb2 (by simp)⟩
set_option maxRecDepth 20000 in
set_option maxHeartbeats 2000000 in
theorem clash_any (r s r' s' : Int) (w : World) :
    Calls Try.prog 48 #[tskV r s, tskV r' s'] w fun e w' => e = .returned (.bool false) ∧ Below w.heap.size w w' := by
  go_enter Try.func48, Try.ntmps48
  go_wp2_with fail
  refine (contains_any [] r' none 0 _ (by simp) (Rd.nil _ _)).mono ?_
  rintro e w2 ⟨rfl, rfl⟩
  go_wp2_with fail
  refine (contains_any [] r none 0 _ (by simp) (Rd.nil _ _)).mono ?_
  rintro e w2 ⟨rfl, rfl⟩
  go_wp2
  go_ret
  exact ⟨rfl, (Joins.below_alloc1 w _).alloc (by simp) _⟩
end Go.Proofs.Ytljhocdbfbjpiaa
