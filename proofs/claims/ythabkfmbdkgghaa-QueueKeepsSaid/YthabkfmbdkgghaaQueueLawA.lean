/-
  The walks of the laws on queues that hold the program against the reference.
-/
import Derived.Test.YthabkfmbdkgghaaQueueAlive
namespace Go.Proofs.Ythabkfmbdkgghaa
open Go.RowKit

theorem small_true (A : Option Addr) (n c : Nat) (s : Int) (w : World) (hn : n ≤ 300) : Calls Try.prog 11 #[qv A n c s] w fun e w' => e = .returned (.bool true) ∧ w.alloc (.cells #[.slice A n c, .int .i64 s] 24) = w' :=
  (small_any A n c s w).mono fun e w' ⟨h1, h2⟩ => ⟨by rw [h1, decide_eq_true hn], h2⟩
theorem small_false (A : Option Addr) (n c : Nat) (s : Int) (w : World) (hn : ¬ n ≤ 300) : Calls Try.prog 11 #[qv A n c s] w fun e w' => e = .returned (.bool false) ∧ w.alloc (.cells #[.slice A n c, .int .i64 s] 24) = w' :=
  (small_any A n c s w).mono fun e w' ⟨h1, h2⟩ => ⟨by rw [h1, decide_eq_false hn], h2⟩

set_option maxHeartbeats 1000000 in
theorem lawRight (gs : List Int) (s : Int) (A : Option Addr) (c : Nat) (w : World) (hR : Rd w A gs) : Calls Try.prog 3 #[qv A gs.length c s] w fun e w' => e = .returned (.bool true) ∧ Below w.heap.size w w' := by
  have HR := Lib.hid hR
  clear hR
  obtain ⟨n, hn⟩ : ∃ n, n = gs.length := ⟨_, rfl⟩
  obtain ⟨b, hb⟩ : ∃ b, b = Que.right gs s := ⟨_, rfl⟩
  have HB := Lib.hid hb
  clear hb
  by_cases hs : gs.length ≤ 300
  · have HS := Lib.hid hs
    clear hs hn
    go_enter Try.func3, Try.ntmps3
    go_wp2_with fail
    refine (alive_any _).mono ?_
    rintro e w1 ⟨rfl, hb1⟩
    have HRD := Lib.hid ((HR.out.below (by go_grown)).below hb1)
    obtain ⟨hc1, hf1⟩ := bcell hb1; have z1 := hb1.size; (try simp at z1); have g1 : Below w.heap.size w w1 := thru (by go_grown) hb1 (by first | omega | (simp; done) | (simp; omega)); (try have s1 : w.heap.size < w1.heap.size := by omega); (try have t1_a1 : w.heap.size < w1.heap.size + 1 := by omega); (try have t1_a2 : w.heap.size < w1.heap.size + 1 + 1 := by omega)
    go_wp2_with fail
    go_region_held3 (fun w' => w'.cell? ⟨w.heap.size, 0, none⟩ = some (.slice A gs.length c) ∧ w'.cell? ⟨w.heap.size, 1, none⟩ = some (.int .i64 s)) (simp [go_sem, *])
      (first
        | (go_at_call 11; refine (small_true _ _ _ _ _ HS.out).mono ?_; rintro e w2 ⟨rfl, rfl⟩)
        | (go_at_call 12; refine (right_any gs s A c _ (HRD.out.below (by go_grown))).mono ?_; rw [← HB.out]; rintro e w2 ⟨rfl, rfl⟩)
        | (go_at_call 13; refine (rright_any gs s A c _ (HRD.out.below (by go_grown))).mono ?_; rw [← HB.out]; rintro e w2 ⟨rfl, rfl⟩))
    all_goals
      go_wp2
      go_ret
      exact ⟨rfl, by go_grown⟩
  · have HS := Lib.hid hs
    clear hs hn
    go_enter Try.func3, Try.ntmps3
    go_wp2_with fail
    refine (alive_any _).mono ?_
    rintro e w1 ⟨rfl, hb1⟩
    obtain ⟨hc1, hf1⟩ := bcell hb1; have z1 := hb1.size; (try simp at z1); have g1 : Below w.heap.size w w1 := thru (by go_grown) hb1 (by first | omega | (simp; done) | (simp; omega)); (try have s1 : w.heap.size < w1.heap.size := by omega); (try have t1_a1 : w.heap.size < w1.heap.size + 1 := by omega); (try have t1_a2 : w.heap.size < w1.heap.size + 1 + 1 := by omega)
    go_wp2_with fail
    go_region_with (first
        | (go_at_call 11; refine (small_false _ _ _ _ _ HS.out).mono ?_; rintro e w2 ⟨rfl, rfl⟩))
    all_goals
      go_wp2
      go_ret
      exact ⟨rfl, by go_grown⟩
end Go.Proofs.Ythabkfmbdkgghaa
