/-
  The queues joined and seated whatever the numbers: the contracts for the law QueueKeeps.
-/
import Derived.Test.YthabkfmbdkgghaaQueueLawB
import Derived.Deep.DeepCutAuto
namespace Go.Proofs.Ythabkfmbdkgghaa
open Go.RowKit

def joL (gs : List Int) (n : Int) : List Int := if n < 1 ∨ 16 < n ∨ 200 ≤ gs.length then [] else gs ++ [n]
def joS (gs : List Int) (s n : Int) : Int := if n < 1 ∨ 16 < n ∨ 200 ≤ gs.length then 0 else s
def JoinAny (w : World) (gs : List Int) (s n : Int) (e : Ending) (w' : World) : Prop :=
  ∃ (A : Option Addr) (c : Nat) (er : Int), e = .returned (.tuple #[qv A (joL gs n).length c (joS gs s n), .int .i64 er]) ∧ Own w.heap.size w' A (joL gs n) ∧ Below w.heap.size w w'
theorem jo_bad {gs : List Int} {s n : Int} (h : n < 1 ∨ 16 < n ∨ 200 ≤ gs.length) : joL gs n = [] ∧ joS gs s n = 0 := ⟨if_pos h, if_pos h⟩
theorem jo_ok {gs : List Int} {s n : Int} (h : ¬ (n < 1 ∨ 16 < n ∨ 200 ≤ gs.length)) : joL gs n = gs ++ [n] ∧ joS gs s n = s := ⟨if_neg h, if_neg h⟩
theorem jo_len (gs : List Int) (n : Int) : (joL gs n).length ≤ 200 := by
  unfold joL
  split
  · simp
  · rw [List.length_append]; simp; omega
theorem join_gen (gs : List Int) (s n : Int) (A : Option Addr) (c : Nat) (w : World) (hR : Rd w A gs) : Calls Try.prog 21 #[qv A gs.length c s, .int .i64 n] w (JoinAny w gs s n) := by
  unfold JoinAny
  by_cases h : n < 1 ∨ 16 < n ∨ 200 ≤ gs.length
  · rw [(jo_bad (s := s) h).1, (jo_bad h).2]
    by_cases h1 : n < 1 ∨ 16 < n
    · exact (join_bad gs s n A c w h1).mono fun e w' ⟨he, hb⟩ => ⟨none, 0, 2, he, Own.nil _ _ _, hb⟩
    · exact (join_full gs s n A c w (by omega) (by omega) (by omega)).mono fun e w' ⟨he, hb⟩ => ⟨none, 0, 9, he, Own.nil _ _ _, hb⟩
  · rw [(jo_ok (s := s) h).1, (jo_ok h).2]
    refine (join_ok gs s n A c w (by omega) (by omega) (by omega) hR).mono fun e w' ⟨A', c', he, ho, hb⟩ => ⟨A', c', 0, ?_, ho, hb⟩
    rw [he, List.length_append]; rfl
theorem rjoin_gen (gs : List Int) (s n : Int) (A : Option Addr) (c : Nat) (w : World) (hR : Rd w A gs) : Calls Try.prog 22 #[qv A gs.length c s, .int .i64 n] w (JoinAny w gs s n) := by
  unfold JoinAny
  by_cases h : n < 1 ∨ 16 < n ∨ 200 ≤ gs.length
  · rw [(jo_bad (s := s) h).1, (jo_bad h).2]
    by_cases h1 : n < 1 ∨ 16 < n
    · exact (rjoin_bad gs s n A c w h1).mono fun e w' ⟨he, hb⟩ => ⟨none, 0, 2, he, Own.nil _ _ _, hb⟩
    · exact (rjoin_full gs s n A c w (by omega) (by omega) (by omega)).mono fun e w' ⟨he, hb⟩ => ⟨none, 0, 9, he, Own.nil _ _ _, hb⟩
  · rw [(jo_ok (s := s) h).1, (jo_ok h).2]
    refine (rjoin_ok gs s n A c w (by omega) (by omega) (by omega) hR).mono fun e w' ⟨A', c', he, ho, hb⟩ => ⟨A', c', 0, ?_, ho, hb⟩
    rw [he, List.length_append]; rfl
def SeatAny (w : World) (e : Ending) (w' : World) : Prop :=
  ∃ (ys : List Int) (u b er : Int) (A : Option Addr) (c : Nat), e = .returned (.tuple #[qv A ys.length c u, .int .i64 b, .int .i64 er]) ∧ Own w.heap.size w' A ys ∧ Below w.heap.size w w'
theorem seat_gen (gs : List Int) (s k : Int) (A : Option Addr) (c : Nat) (w : World) (hr : Que.right gs s = true) (hR : Rd w A gs) : Calls Try.prog 14 #[qv A gs.length c s, .int .i64 k] w (SeatAny w) := by
  by_cases h : k < 1 ∨ 16 < k
  · exact (seat_bad gs s k A c w h).mono fun e w' ⟨he, hb⟩ => ⟨[], 0, 0, 2, none, 0, he, Own.nil _ _ _, hb⟩
  · exact (seat_any gs s k A c w hr (by omega) (by omega) hR).mono fun e w' ⟨A', c', he, ho, hb⟩ => ⟨_, _, _, 0, A', c', he, ho, hb⟩

theorem make_wide (n : Nat) (hn : n ≤ 300) (w : World) : (Instr.makeSlice 22 (.int .i64 0) (.int .i64 ((n : Int) + 9))).run Try.prog w = .ok (.slice (some ⟨w.heap.size, 0, none⟩) 0 (n + 9)) (w.alloc (.cells (zeros (n + 9)).toArray 3)) := by
  obtain ⟨i0, hi0, hz0, hz1, hz2⟩ := info_parts int_info
  have h := run_make (P := Try.prog) w 22 3 i0 _ Try.underlying22 hi0 hz0 .i64 .i64 0 ((n : Int) + 9) (by omega) (by omega) (by rw [hz2]; omega) (by omega)
  have e : ((n : Int) + 9).toNat = n + 9 := by omega
  rw [e, hz1, Nat.mul_one] at h
  rw [h, ← zeros_made]
  rfl
theorem own_wide (n : Nat) (hn : n ≤ 300) (w : World) : (w.alloc (.cells (zeros (n + 9)).toArray 3)).ownsRow w.heap.size 3 1 (.slice (some ⟨w.heap.size, 0, none⟩) 0 (n + 9)) 0 [] :=
  ⟨rfl, .inr ⟨w.heap.size, n + 9, _, rfl, Nat.le_refl _, heap_alloc_new w _, Nat.zero_le _, by simp only [maxLen]; omega, by simp [zeros], by simp⟩⟩
theorem own_zero_of {w : World} {g B : Nat} (h : w.heap[g]? = some (.cells #[] 3 (0, 0))) (hB : B ≤ g) : w.ownsRow B 3 1 (.slice (some ⟨g, 0, none⟩) 0 0) 0 [] :=
  ⟨rfl, .inr ⟨g, 0, #[], rfl, hB, h, Nat.le_refl _, Nat.zero_le _, rfl, rfl⟩⟩


/-- What is known of the argument, its copy 'was' and 'wide' in a world. -/
structure KS (w : World) (g7 : Nat) (QA A7 W8 : Option Addr) (gs : List Int) (s : Int) (c c7 : Nat) (W : World) : Prop where
  p0 : W.cell? ⟨w.heap.size, 0, none⟩ = some (.slice QA gs.length c)
  p1 : W.cell? ⟨w.heap.size, 1, none⟩ = some (.int .i64 s)
  k7 : W.cell? ⟨g7, 0, none⟩ = some (.slice A7 gs.length c7)
  l7 : W.cell? ⟨g7, 1, none⟩ = some (.int .i64 s)
  z0 : w.heap.size < W.heap.size
  z7 : g7 < W.heap.size
  hq : Rd W QA gs
  h7 : Rd W A7 gs
  h8 : Rd W W8 gs
  be : Below w.heap.size w W
theorem KS.below {w : World} {g7 : Nat} {QA A7 W8 : Option Addr} {gs : List Int} {s : Int} {c c7 : Nat} {W W' : World} (h : KS w g7 QA A7 W8 gs s c c7 W) (hb : Below W.heap.size W W') : KS w g7 QA A7 W8 gs s c c7 W' :=
  ⟨(hb.cell (p := ⟨w.heap.size, 0, none⟩) h.z0).trans h.p0, (hb.cell (p := ⟨w.heap.size, 1, none⟩) h.z0).trans h.p1, (hb.cell (p := ⟨g7, 0, none⟩) h.z7).trans h.k7, (hb.cell (p := ⟨g7, 1, none⟩) h.z7).trans h.l7,
    Nat.lt_of_lt_of_le h.z0 hb.size, Nat.lt_of_lt_of_le h.z7 hb.size, h.hq.below hb, h.h7.below hb, h.h8.below hb, thru h.be hb (Nat.le_of_lt h.z0)⟩
/-- A queue in a variable. -/
structure KA (g : Nat) (A : Option Addr) (c : Nat) (xs : List Int) (s : Int) (W : World) : Prop where
  a0 : W.cell? ⟨g, 0, none⟩ = some (.slice A xs.length c)
  a1 : W.cell? ⟨g, 1, none⟩ = some (.int .i64 s)
  z : g < W.heap.size
  rd : Rd W A xs
theorem KA.below {g : Nat} {A : Option Addr} {c : Nat} {xs : List Int} {s : Int} {W W' : World} (h : KA g A c xs s W) (hb : Below W.heap.size W W') : KA g A c xs s W' :=
  ⟨(hb.cell (p := ⟨g, 0, none⟩) h.z).trans h.a0, (hb.cell (p := ⟨g, 1, none⟩) h.z).trans h.a1, Nat.lt_of_lt_of_le h.z hb.size, h.rd.below hb⟩
theorem KA.new (w : World) (A : Option Addr) (c : Nat) (xs : List Int) (s : Int) (h : Rd w A xs) : KA w.heap.size A c xs s (w.alloc (.cells #[.slice A xs.length c, .int .i64 s] 24)) :=
  ⟨by simp [go_sem], by simp [go_sem], by simp, h.below (Joins.below_alloc1 _ _)⟩

end Go.Proofs.Ythabkfmbdkgghaa
