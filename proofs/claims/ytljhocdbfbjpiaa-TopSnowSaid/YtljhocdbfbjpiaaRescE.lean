/-
  The teams of the example: the rescue ends at 15.
-/
import Derived.Test.YtljhocdbfbjpiaaRescD
import Derived.Test.YtljhocdbfbjpiaaPlanBest
namespace Go.Proofs.Ytljhocdbfbjpiaa
open Go.RowKit

def rtPre (i t : Nat) (v : Int) (T : RT) : RT := { T with n := upd T.n i t, x := upd T.x t (T.x t + v) }
def rtBack (t : Nat) (v : Int) (T : RT) : RT := { T with x := upd T.x t (T.x t - v) }
/-- The states of the second section's loop, from T on. -/
def st1 (T : RT) : Nat → RT
  | 0 => T
  | 1 => T
  | t + 1 => rtBack t 15 (rtLeaf (rtPre 1 t 15 (st1 T t)))
def po1 (T : RT) (t : Nat) : RT := rtLeaf (rtPre 1 t 15 (st1 T t))
def st0 (T : RT) : Nat → RT
  | 0 => T
  | 1 => T
  | t + 1 => rtBack t 10 (st1 (rtPre 0 t 10 (st0 T t)) 3)
def po0 (T : RT) (t : Nat) : RT := st1 (rtPre 0 t 10 (st0 T t)) 3
def T0 : RT := ⟨fun _ => 0, -1, fun _ => 0, fun _ => 0⟩
theorem two_of' {t : Nat} (h1 : 1 ≤ t) (h2 : t ≤ 2) : t = 1 ∨ t = 2 := by omega
theorem resc_1 (s g c : Nat) (w W : World) (T : RT) (hg : g < s) (hM : Secs w g) (hx : ∀ t, 1 ≤ t → t ≤ 2 → (-1000 ≤ (st1 T t).x t ∧ (st1 T t).x t ≤ 1000) ∧ (-1000 ≤ (po1 T t).x t ∧ (po1 T t).x t ≤ 1000)) (hS : RS s g c w W T) :
    Calls Try.prog 81 (rsArgs s 1) W (RescPost s g c w (st1 T 3)) := by
  refine resc_level s g c w W 1 15 (st1 T) (po1 T) (by omega) hg hM.b2 (by omega) hx (fun t h1 h2 => ⟨fun W1 hW => ?_, ?_⟩) hS
  · exact resc_leaf s g c w W1 _ hW
  · rcases two_of' h1 h2 with rfl | rfl
    · rfl
    · rfl
theorem resc_0 (s g c : Nat) (w W : World) (hg : g < s) (hM : Secs w g) (hS : RS s g c w W T0) :
    Calls Try.prog 81 (rsArgs s 0) W (RescPost s g c w (st0 T0 3)) := by
  refine resc_level s g c w W 0 10 (st0 T0) (po0 T0) (by omega) hg hM.a2 (by omega) (fun t h1 h2 => ?_) (fun t h1 h2 => ⟨fun W1 hW => ?_, ?_⟩) hS
  · rcases two_of' h1 h2 with rfl | rfl
    · decide +kernel
    · decide +kernel
  · refine resc_1 s g c w W1 (rtPre 0 t 10 (st0 T0 t)) hg hM (fun k k1 k2 => ?_) hW
    rcases two_of' h1 h2 with rfl | rfl
    · rcases two_of' k1 k2 with rfl | rfl
      · decide +kernel
      · decide +kernel
    · rcases two_of' k1 k2 with rfl | rfl
      · decide +kernel
      · decide +kernel
  · rcases two_of' h1 h2 with rfl | rfl
    · rfl
    · rfl
theorem resc_end : (st0 T0 3).e = 15 ∧ (st0 T0 3).b 0 = 1 ∧ (st0 T0 3).b 1 = 2 := by decide +kernel

theorem make_two (w : World) : (Instr.makeSlice 28 (.int .i64 2) (.int .i64 2)).run Try.prog w = .ok (.slice (some ⟨w.heap.size, 0, none⟩) 2 2) (w.alloc (.cells #[.int .i64 0, .int .i64 0] 3)) := make_ints 2 (by omega) w
set_option maxRecDepth 20000 in
set_option maxHeartbeats 4000000 in
theorem rassign_any (g c : Nat) (w : World) (hM : Secs w g) (hg : g < w.heap.size) :
    Calls Try.prog 51 #[.slice (some ⟨g, 0, none⟩) 2 c, .int .i64 2] w fun e w' => (∃ q, e = .returned (.tuple #[.slice (some ⟨q, 0, none⟩) 2 2, .int .i64 15]) ∧ q < w'.heap.size ∧ w'.cell? ⟨q, 0, none⟩ = some (.int .i64 1) ∧ w'.cell? ⟨q, 1, none⟩ = some (.int .i64 2)) ∧ Below w.heap.size w w' := by
  have hmf : ∀ (fn : Fn) (first cap : Array Value) (w : World), (Instr.makeFunc fn first cap).run Try.prog w = .ok (.func fn first cap) w := by
    intros; simp [go_sem, Instr.makeFunc]
  have hmi := make_two
  have HM := Lib.hid hM
  have HG := Lib.hid hg

  clear hM hg
  go_enter Try.func51, Try.ntmps51
  go_wp2_with fail
  have hS : RS w.heap.size g c w (((((((((w.alloc (.cells #[.slice (some ⟨g, 0, none⟩) 2 c] 74)).alloc (.cells #[.int .i64 2] 3)).alloc (.cells #[.int .i64 0, .int .i64 0] 3)).alloc (.cells #[.slice (some ⟨w.heap.size + 1 + 1, 0, none⟩) 2 2] 28)).alloc (.cells #[.int .i64 0, .int .i64 0] 3)).alloc (.cells #[.slice (some ⟨w.heap.size + 1 + 1 + 1 + 1, 0, none⟩) 2 2] 28)).alloc (.cells #[.int .i64 (-1)] 3)).alloc (.cells #[.int .i64 0, .int .i64 0, .int .i64 0, .int .i64 0] 130)).alloc (.cells #[.func (.func 81) #[] (rsCaps w.heap.size)] 134)) T0 := by
    refine ⟨by go_grown, by simp, by simp [go_sem], by simp [go_sem], by simp [go_sem], by simp [go_sem], by simp [go_sem], by simp [go_sem, T0], fun k hk => ?_, fun k hk => ?_, ?_, fun k => by simp [go_sem], by simp [go_sem], fun k => by simp [go_sem]⟩
    · obtain rfl | rfl | rfl | rfl : k = 0 ∨ k = 1 ∨ k = 2 ∨ k = 3 := by omega
      all_goals simp [go_sem, T0]
    · obtain rfl | rfl : k = 0 ∨ k = 1 := by omega
      all_goals simp [go_sem, T0]
    · rw [heap_alloc_old _ _ (by simp), heap_alloc_old _ _ (by simp), heap_alloc_old _ _ (by simp), heap_alloc_old _ _ (by simp)]
      have h := heap_alloc_new ((((w.alloc (.cells #[.slice (some ⟨g, 0, none⟩) 2 c] 74)).alloc (.cells #[.int .i64 2] 3)).alloc (.cells #[.int .i64 0, .int .i64 0] 3)).alloc (.cells #[.slice (some ⟨w.heap.size + 1 + 1, 0, none⟩) 2 2] 28)) (.cells #[.int .i64 0, .int .i64 0] 3)
      simpa [T0] using h
  have hC := resc_0 w.heap.size g c w _ HG.out HM.out hS
  have HC := Lib.hid hC
  clear hC hS
  refine HC.out.mono ?_
  rintro e w3 ⟨rfl, hS3⟩
  obtain ⟨be, lo, -, -, -, d5, -, de, -, -, db, -, -, -⟩ := hS3
  rw [resc_end.1] at de
  rw [resc_end.2.1, resc_end.2.2] at db
  have z5 : w.heap.size + 1 + 1 + 1 + 1 + 1 < w3.heap.size := by omega
  have z6 : w.heap.size + 1 + 1 + 1 + 1 + 1 + 1 < w3.heap.size := by omega
  have z4 : w.heap.size + 4 < w3.heap.size := by omega
  have BE := Lib.hid be
  have DB := Lib.hid db
  clear be db HC hmi hmf
  go_wp2
  go_quiet (fail)
  go_wp2
  refine bodyPost_ret (results_tmp2 rfl _ _ _) rfl ?_
  have hb := BE.out.trans (Joins.below_draws w.heap.size w3 nq)
  refine ⟨⟨w.heap.size + 4, rfl, ?_, ?_, ?_⟩, hb⟩
  · have := (Joins.below_draws w3.heap.size w3 nq).size; omega
  · rw [(Joins.below_draws w3.heap.size w3 nq).cell (p := ⟨w.heap.size + 4, 0, none⟩) z4, cell_of_row _ _ _ _ _ _ DB.out]; rfl
  · rw [(Joins.below_draws w3.heap.size w3 nq).cell (p := ⟨w.heap.size + 4, 1, none⟩) z4, cell_of_row _ _ _ _ _ _ DB.out]; rfl
end Go.Proofs.Ytljhocdbfbjpiaa
