/-
  The plan of the rescue of the example: two jobs, and it ends at 15.
-/
import Derived.Test.YtljhocdbfbjpiaaRescE
namespace Go.Proofs.Ytljhocdbfbjpiaa
open Go.RowKit

theorem job_info : (Try.prog.info? 132).map (fun i => (i.zero, i.size, i.bytes)) = some (some (.agg #[.int .i64 0, .int .i64 0, .int .i64 0, .int .i64 0]), 4, 32) := by kernel_rfl
def freeA (k j : Nat) : Int := if j = 1 ∧ 1 ≤ k then 10 else if j = 2 ∧ 2 ≤ k then 15 else 0
structure PS (F : Nat) (w4 wr : World) (k : Nat) (v : Value) : Prop where
  be : Below F w4 wr
  z : F < wr.heap.size
  x : ∀ j, j < 4 → wr.cell? ⟨F, j, none⟩ = some (.int .i64 (freeA k j))
  fx : ∀ j, wr.frozen? ⟨F, j, none⟩ = false
  own : ∃ A c xs, v = .slice A k c ∧ wr.ownsRow (F + 1) 132 4 (.slice A k c) k xs
theorem PS.step {F : Nat} {w4 wr W8 : World} {k : Nat} {u : Value} (h : PS F w4 wr k u) {t : Nat} {v : Int} {o1 o2 : Obj} {row : Option Nat}
    (hg : (((wr.setCell ⟨F, t, none⟩ (.int .i64 v)).alloc o1).alloc o2).drew.drew.grownBy W8 row) (hr : ∀ j, row = some j → F + 1 ≤ j) (hv : ∀ j, j < 4 → freeA (k + 1) j = if j = t then v else freeA k j)
    {A : Option Addr} {c : Nat} {xs : List Value} (ho : W8.ownsRow (F + 1) 132 4 (.slice A (k + 1) c) (k + 1) xs) : PS F w4 W8 (k + 1) (.slice A (k + 1) c) := by
  have hz := h.z
  have hbe := h.be.size
  have hx : Below F w4 (((wr.setCell ⟨F, t, none⟩ (.int .i64 v)).alloc o1).alloc o2).drew.drew := below_drew (below_drew (((h.be.setCell (by show F ≤ F; omega) _).alloc (by simp; omega) _).alloc (by simp; omega) _))
  have hzz := hg.size
  have hne : some F ≠ row := fun e => by have := hr _ e.symm; omega
  have e : ∀ j, W8.cell? ⟨F, j, none⟩ = (wr.setCell ⟨F, t, none⟩ (.int .i64 v)).cell? ⟨F, j, none⟩ := fun j =>
    (hg.cell_far ⟨F, j, none⟩ (by show F < _; simp; omega) hne).trans ((((Joins.below_alloc1 (wr.setCell ⟨F, t, none⟩ (.int .i64 v)) o1).alloc (by simp) o2)).cell (p := ⟨F, j, none⟩) (by show F < _; simp; omega))
  have ef : ∀ j, W8.frozen? ⟨F, j, none⟩ = (wr.setCell ⟨F, t, none⟩ (.int .i64 v)).frozen? ⟨F, j, none⟩ := fun j =>
    (hg.frozen_far ⟨F, j, none⟩ (by show F < _; simp; omega) hne).trans ((((Joins.below_alloc1 (wr.setCell ⟨F, t, none⟩ (.int .i64 v)) o1).alloc (by simp) o2)).frozen (p := ⟨F, j, none⟩) (by show F < _; simp; omega))
  refine ⟨hx.grown hg (by simp; omega) (fun j hj => by have := hr j hj; omega), by simp at hzz; omega, fun j hj => ?_, fun j => ?_, ⟨A, c, xs, rfl, ho⟩⟩
  · rw [e j, hv j hj]
    by_cases ej : j = t
    · subst ej
      rw [cell_set_self, h.x j hj]; simp
    · rw [World.cell?_setCell_other _ _ _ _ (by intro e'; injection e' with _ e'; omega), h.x j hj, if_neg ej]
  · rw [ef j, World.frozen?_setCell]; exact h.fx j

set_option maxRecDepth 20000 in
set_option maxHeartbeats 4000000 in
theorem rplan_any (b : Nat) (w : World) (hM : Secs w b) (hb : b < w.heap.size) :
    Calls Try.prog 20 #[.slice (some ⟨b, 0, none⟩) 2 2, .int .i64 2] w fun e w' => (∃ A c, e = .returned (.tuple #[.slice A 2 c, .int .i64 15, .int .i64 0])) ∧ Below w.heap.size w w' := by
  obtain ⟨i0, hi0, hz0, hz1, hz2⟩ := info_parts job_info
  have HI := Lib.hid (And.intro hi0 (And.intro hz0 (And.intro hz1 hz2)))
  clear hi0 hz0 hz1 hz2
  have HM := Lib.hid hM
  have HB := Lib.hid hb
  clear hM hb
  go_enter Try.func20, Try.ntmps20
  go_wp2_with fail
  refine (helpless_any b w HM.out HB.out).mono ?_
  rintro e w2 ⟨⟨g, cg, rfl, hgw, hg2, hSg⟩, hb2⟩
  have HB2 := Lib.hid hb2
  have HSG := Lib.hid hSg
  have HG := Lib.hid hg2
  clear hb2 hSg hg2 hgw
  go_wp2_with fail
  refine (rassign_any g cg w2 HSG.out HG.out).mono ?_
  rintro e w4 ⟨⟨q, rfl, hq4, q0, q1⟩, hb4⟩
  have HB4 := Lib.hid (thru HB2.out hb4 HB2.out.size)
  have HSG4 := Lib.hid (HSG.out.on HG.out hb4)
  have HQ := Lib.hid (And.intro hq4 (And.intro q0 q1))
  have HG4 : Hid (g < w4.heap.size) := Lib.hid (Nat.lt_of_lt_of_le HG.out hb4.size)
  clear hb4 hq4 q0 q1
  go_wp2
  go_loopw [10, 32] (fun i10 i wr => ∃ k : Nat, k ≤ 2 ∧ i = .int .i64 k ∧ PS w4.heap.size w4 wr k i10) (fun _ i _ => 2 - (intOf i).toNat)
  case atStart => exact ⟨0, by omega, rfl, ⟨Joins.below_alloc1 _ _, by simp, fun j hj => by
    obtain rfl | rfl | rfl | rfl : j = 0 ∨ j = 1 ∨ j = 2 ∨ j = 3 := by omega
    all_goals simp [go_sem, freeA], fun j => by simp [go_sem], ⟨none, 0, [], rfl, World.ownsRow_nil _ _ _ _⟩⟩⟩
  case round =>
    obtain ⟨k, hk, rfl, hP⟩ := hrel
    have HP := Lib.hid hP
    obtain ⟨be, z, hx, fx, ⟨A, c, xs, rfl, hown⟩⟩ := hP
    have HOWN := Lib.hid hown
    clear hown
    obtain ⟨s0, s1, s2, t0, t1, t2⟩ := HSG4.out.on HG4.out (be.mono (Nat.le_refl _))
    have q0 := (be.cell (p := ⟨q, 0, none⟩) HQ.out.1).trans HQ.out.2.1
    have q1 := (be.cell (p := ⟨q, 1, none⟩) HQ.out.1).trans HQ.out.2.2
    have zg : g < wr.heap.size := Nat.lt_of_lt_of_le HG4.out be.size
    have zq : q < wr.heap.size := Nat.lt_of_lt_of_le HQ.out.1 be.size
    have ng : ¬ (w4.heap.size = g) := by have := HG4.out; omega
    clear be
    obtain rfl | rfl | rfl : k = 0 ∨ k = 1 ∨ k = 2 := by omega
    · have x1 : wr.cell? ⟨w4.heap.size, 1, none⟩ = some (.int .i64 0) := hx 1 (by omega)
      have f1 := fx 1
      clear hx fx
      go_wp2
      go_region
      go_wp2
      go_region_law (first
        | (refine step_append_any _ rfl (.tmp 51) (.tmp 60) 69 rfl (w4.heap.size + 1) 132 i0 _ 4 32 Try.underlying69 HI.out.1 HI.out.2.1 HI.out.2.2.1 HI.out.2.2.2 rfl (by omega) (.slice A 0 c) 0 xs rfl (owns_below (owns_set3 (p := ⟨w4.heap.size, 1, none⟩) HOWN.out (fun e => absurd (HOWN.out.lt _ e).1 (by simp)) (.int .i64 10)) (below_drew (below_drew ((Joins.below_alloc1 _ (.cells #[.int .i64 1, .int .i64 3, .int .i64 10] 73)).alloc (by simp) (.cells #[.int .i64 1, .int .i64 1, .int .i64 0, .int .i64 10] 132))))) ⟨wr.heap.size + 1, 0, none⟩ 1 1 [.int .i64 1, .int .i64 1, .int .i64 0, .int .i64 10] rfl rfl (World.news_of_block (cs := #[.int .i64 1, .int .i64 1, .int .i64 0, .int .i64 10]) (t := 132) (fr := (0, 0)) (by have h := heap_alloc_new ((wr.setCell ⟨w4.heap.size, 1, none⟩ (.int .i64 10)).alloc (.cells #[.int .i64 1, .int .i64 3, .int .i64 10] 73)) (.cells #[.int .i64 1, .int .i64 1, .int .i64 0, .int .i64 10] 132); rw [World.size_alloc, World.size_setCell] at h; exact h)) (by simp [Value.oneCell']) (by simp [maxLen]) (by omega) (by simp; omega) ?_; intro A8 c8 w8 hown8 hgrow8; have HP8 := Lib.hid (HP.out.step hgrow8 (fun j hj => (HOWN.out.lt j hj).1) (by decide) hown8); clear hown8 hgrow8))
      all_goals
        go_wp2
        go_roundw
        case rel => exact ⟨1, by omega, by go_num, HP8.out⟩
        case measure => simp [intOf]
    · have x1 : wr.cell? ⟨w4.heap.size, 2, none⟩ = some (.int .i64 0) := hx 2 (by omega)
      have f1 := fx 2
      clear hx fx
      go_wp2
      go_region
      go_wp2
      go_region_law (first
        | (refine step_append_any _ rfl (.tmp 51) (.tmp 60) 69 rfl (w4.heap.size + 1) 132 i0 _ 4 32 Try.underlying69 HI.out.1 HI.out.2.1 HI.out.2.2.1 HI.out.2.2.2 rfl (by omega) (.slice A 1 c) 1 xs rfl (owns_below (owns_set3 (p := ⟨w4.heap.size, 2, none⟩) HOWN.out (fun e => absurd (HOWN.out.lt _ e).1 (by simp)) (.int .i64 15)) (below_drew (below_drew ((Joins.below_alloc1 _ (.cells #[.int .i64 2, .int .i64 1, .int .i64 15] 73)).alloc (by simp) (.cells #[.int .i64 2, .int .i64 2, .int .i64 0, .int .i64 15] 132))))) ⟨wr.heap.size + 1, 0, none⟩ 1 1 [.int .i64 2, .int .i64 2, .int .i64 0, .int .i64 15] rfl rfl (World.news_of_block (cs := #[.int .i64 2, .int .i64 2, .int .i64 0, .int .i64 15]) (t := 132) (fr := (0, 0)) (by have h := heap_alloc_new ((wr.setCell ⟨w4.heap.size, 2, none⟩ (.int .i64 15)).alloc (.cells #[.int .i64 2, .int .i64 1, .int .i64 15] 73)) (.cells #[.int .i64 2, .int .i64 2, .int .i64 0, .int .i64 15] 132); rw [World.size_alloc, World.size_setCell] at h; exact h)) (by simp [Value.oneCell']) (by simp [maxLen]) (by omega) (by simp; omega) ?_; intro A8 c8 w8 hown8 hgrow8; have HP8 := Lib.hid (HP.out.step hgrow8 (fun j hj => (HOWN.out.lt j hj).1) (by decide) hown8); clear hown8 hgrow8))
      all_goals
        go_wp2
        go_roundw
        case rel => exact ⟨2, by omega, by go_num, HP8.out⟩
        case measure => simp [intOf]
    · go_wp2
      refine bodyPost_ret (results_tmp3 rfl _ _ _) rfl ?_
      exact ⟨⟨_, _, rfl⟩, HB4.out.trans (HP.out.be.mono (by have := HB4.out.size; omega))⟩
end Go.Proofs.Ytljhocdbfbjpiaa
