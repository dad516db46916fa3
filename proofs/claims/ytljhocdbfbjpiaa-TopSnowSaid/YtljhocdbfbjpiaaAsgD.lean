/-
  The search for an assignment: one row of the matrix.
-/
import Derived.Test.YtljhocdbfbjpiaaAsgC
namespace Go.Proofs.Ytljhocdbfbjpiaa
open Go.RowKit

set_option maxRecDepth 20000 in
set_option maxHeartbeats 4000000 in
theorem asg_level (s b rr : Nat) (xs : List Int) (T : Int) (a : Nat → Int) (st : Nat → Bool × Int) (w W : World) (hn : xs.length < 2) (hb : b < s) (hr : rr < s)
    (hrow : w.cell? ⟨b, xs.length, none⟩ = some (.slice (some ⟨rr, 0, none⟩) 2 2)) (hra : ∀ k, k < 2 → w.cell? ⟨rr, k, none⟩ = some (.int .i64 (a k))) (hT : 0 ≤ T ∧ T ≤ 100) (ha : ∀ k, 0 ≤ a k ∧ a k ≤ 100)
    (hg : (st 0).1 = true → T < (st 0).2)
    (IH : ∀ k : Nat, k < 2 → ((k : Int) ∈ xs → st (k + 1) = st k) ∧ (¬ (k : Int) ∈ xs → ∀ W1, AS s b w W1 (st k).1 (st k).2 (xs ++ [(k : Int)]) → Calls Try.prog 53 (asgArgs s (T + a k)) W1 (AsgPost s b w (st (k + 1)).1 (st (k + 1)).2 (xs ++ [(k : Int)]))))
    (hS : AS s b w W (st 0).1 (st 0).2 xs) :
    Calls Try.prog 53 (asgArgs s T) W (AsgPost s b w (st 2).1 (st 2).2 xs) := by
  obtain ⟨i0, hi0, hz0, hz1, hz2⟩ := info_parts int_info
  have HI := Lib.hid (And.intro hi0 (And.intro hz0 (And.intro hz1 hz2)))
  have HIH := Lib.hid IH
  have HS := Lib.hid hS
  have HRA := Lib.hid hra
  have HA := Lib.hid ha
  have HT := Lib.hid hT
  have HBR := Lib.hid (And.intro hb (And.intro hr hn))
  have hrW : W.cell? ⟨b, xs.length, none⟩ = some (.slice (some ⟨rr, 0, none⟩) 2 2) := (hS.be.cell (p := ⟨b, xs.length, none⟩) hb).trans hrow
  have HROW := Lib.hid hrow
  have hnl : ((xs.length : Int) == 2) = false := beq_eq_false_iff_ne.2 (by omega)
  have hni : (xs.length : Int) < 2 := by omega
  have hgg : (st 0).1 = true → decide ((st 0).2 ≤ T) = false := fun h => decide_eq_false (by have := hg h; omega)
  obtain ⟨A, c, hp, -, -⟩ := hS.p
  have hc := hS.c
  have hl := hS.l
  have hf := hS.f
  obtain ⟨f0, hf0⟩ : ∃ f, f = (st 0).1 := ⟨_, rfl⟩
  obtain ⟨l0, hl0⟩ : ∃ l, l = (st 0).2 := ⟨_, rfl⟩
  rw [← hf0, ← hl0] at hgg
  rw [← hf0] at hf
  rw [← hl0] at hl
  have HST := Lib.hid (And.intro hf0 hl0)
  clear hi0 hz0 hz1 hz2 IH hS hra ha hT hb hr hn hg hrow hf0 hl0
  cases f0
  all_goals
    first
      | (have hgg2 : decide (l0 ≤ T) = false := hgg rfl)
      | skip
    clear hgg
    go_enter Try.func53, Try.ntmps53
    go_wp2
    go_loopw [30] (fun i wr => ∃ k : Nat, k ≤ 2 ∧ i = .int .i64 k ∧ AS s b w wr (st k).1 (st k).2 xs) (fun i _ => 2 - (intOf i).toNat)
    case atStart => exact ⟨0, by omega, rfl, HS.out⟩
    case round =>
      obtain ⟨k, hk, rfl, hSk⟩ := hrel
      clear hp hc hl hf hrW
      have HSk := Lib.hid hSk
      by_cases hlt : k < 2
      · obtain ⟨A, c, hp, hpc, hpo⟩ := hSk.p
        obtain ⟨hskip, hgo⟩ := HIH.out k hlt
        have hak : wr.cell? ⟨rr, k, none⟩ = some (.int .i64 (a k)) := (hSk.be.cell (p := ⟨rr, k, none⟩) HBR.out.2.1).trans (HRA.out k hlt)
        have hab := HA.out k
        have ht := hSk.t
        have hf2 := hSk.f2
        have hlo := hSk.lo
        have z2 : s + 2 < wr.heap.size := by omega
        have z5 : s + 5 < wr.heap.size := by omega
        have hki : (k : Int) < 2 := by omega
        obtain ⟨ak, hake⟩ : ∃ x, x = a k := ⟨_, rfl⟩
        rw [← hake] at hak hab
        have HPO := Lib.hid hpo
        have HAK := Lib.hid hake
        have HK := Lib.hid hlt
        have HSKIP := Lib.hid hskip
        have HGO := Lib.hid hgo
        clear hskip hgo hpo hake hlt hSk hk
        have hC := contains_any xs k A c wr (by have := HBR.out.2.2; omega) (owns_rd HPO.out)
        by_cases hin : (k : Int) ∈ xs
        · rw [decide_eq_true hin] at hC
          have HE := Lib.hid (HSKIP.out hin)
          have HC := Lib.hid hC
          clear hC hin
          go_wp2_with fail
          refine HC.out.mono ?_
          rintro e w2 ⟨rfl, rfl⟩
          go_wp2
          go_roundw
          case rel => exact ⟨k + 1, by have := HK.out; omega, by go_num, by rw [HE.out]; exact HSk.out⟩
          case measure => have := HK.out; simp [intOf]; omega
        · rw [decide_eq_false hin] at hC
          have HGO2 := Lib.hid (HGO.out hin)
          have HC := Lib.hid hC
          have e1 : IntKind.i64.wrap (T + ak) = T + ak := IntWalk.i64_in _ (by have := HT.out; omega)
          clear hC hin
          go_wp2_with fail
          refine HC.out.mono ?_
          rintro e w2 ⟨rfl, rfl⟩
          go_wp2_with (first
            | (at_builtin; refine wpList_append_lies _ rfl (.tmp 39) (.tmp 41) 28 rfl (s + 6) 3 i0 _ 1 8 Try.underlying28 HI.out.1 HI.out.2.1 HI.out.2.2.1 HI.out.2.2.2 rfl (by omega) (.slice A xs.length c) xs.length (xs.map (Value.int .i64)) rfl (HPO.out.alloc (.cells #[.int .i64 (k : Int)] 3)) ⟨wr.heap.size, 0, none⟩ 1 1 [.int .i64 (k : Int)] rfl rfl (cell_one_new _ _ _) (by simp [Value.oneCell']) (by omega) (by have := HBR.out.2.2; simp only [maxLen]; omega) (by have := HBR.out.2.2; omega) (by simp; omega) _ rfl ?_; intro g cap w2 hown hgrow hat hlt2; obtain ⟨hx2, hx2f⟩ := HSk.out.far (Joins.below_alloc1 _ _) hgrow (fun j hj => (HPO.out.lt j hj).1) (k := 2) (by omega); obtain ⟨hx5, -⟩ := HSk.out.far (Joins.below_alloc1 _ _) hgrow (fun j hj => (HPO.out.lt j hj).1) (k := 5) (by omega); rw [hp] at hx2; rw [hf2] at hx2f; rw [ht] at hx5; have hz2 : s + 2 < w2.heap.size := (by have := hgrow.size; simp at this; omega); have hz5 : s + 5 < w2.heap.size := (by have := hgrow.size; simp at this; omega); have hown2 : w2.ownsRow (s + 6) 3 1 (.slice (some ⟨g, 0, none⟩) (xs ++ [(k : Int)]).length cap) (xs ++ [(k : Int)]).length ((xs ++ [(k : Int)]).map (Value.int .i64)) := (by simpa using hown); have HAS2 := Lib.hid (HSk.out.app (Joins.below_alloc1 _ _) hgrow (fun j hj => (HPO.out.lt j hj).1) (by obtain ⟨_, _, h1, h2⟩ := owns_form hown2; injection h1 with _ _ h3; rw [h3]; exact h2) hown2); clear hown hown2 hgrow hat hlt2)
            | fail)
          have hC := HGO2.out _ HAS2.out
          rw [← HAK.out] at hC
          simp only [List.length_append, List.length_cons, List.length_nil, Nat.zero_add] at hC
          have HC := Lib.hid hC
          clear hC
          refine HC.out.mono ?_
          rintro e w3 ⟨rfl, hS3⟩
          have HS3 := Lib.hid hS3
          obtain ⟨A3, c3, hp3, hpc3, hpo3⟩ := hS3.p
          have hf3 := hS3.f2
          have z3 : s + 2 < w3.heap.size := by have := hS3.lo; omega
          obtain ⟨g3, cap3, hv3, -, -⟩ := hpo3.form (by simp)
          injection hv3 with hv3 _ hcc
          subst hv3 hcc
          simp only [List.length_append, List.length_cons, List.length_nil, Nat.zero_add] at hp3 hpc3 hpo3
          have e2 : IntKind.i64.wrap ((xs.length : Int) + 1 - 1) = (xs.length : Int) := by rw [Int.add_sub_cancel]; exact IntWalk.i64_in _ (by omega)
          have e3 : (xs.length : Int) ≤ (c3 : Int) := by omega
          have hcut : w3.ownsRow (s + 6) 3 1 (.slice (some ⟨g3, 0, none⟩) xs.length c3) xs.length (xs.map (Value.int .i64)) := owns_cut (by rw [List.map_append] at hpo3; exact hpo3)
          have HFIN := Lib.hid (hS3.setP (ys := xs) (by omega) hcut)
          clear hS3 hpo3 hcut HC HAS2
          go_wp2
          go_roundw
          case rel => exact ⟨k + 1, by have := HK.out; omega, by go_num, HFIN.out⟩
          case measure => have := HK.out; simp [intOf]; omega
      · have hke : k = 2 := by omega
        subst hke
        go_wp2
        exact bodyPost_ret (results_none rfl _ _ _) rfl ⟨rfl, HSk.out⟩
end Go.Proofs.Ytljhocdbfbjpiaa
