/-
  The walk of the examples of the chapter.
-/
import Derived.Test.YtnblfhoogcdcfaaPlanGreat
namespace Go.Proofs.Ytnblfhoogcdcfaa
open Go.RowKit

theorem rdL_two {w : World} {P Q R : Nat} {l m : List Int} {c d : Nat} {A B : Option Addr} (hP : P < w.heap.size) (h0 : w.cell? ⟨P, 0, none⟩ = some (.slice A l.length c)) (h1 : w.cell? ⟨P, 1, none⟩ = some (.slice B m.length d)) (hl : Rd w A l) (hm : Rd w B m) (_ : Q = R) : RdL w (some ⟨P, 0, none⟩) [l, m] := fun _ => by
  refine ⟨P, 0, rfl, hP, fun i hi => ?_⟩
  match i, hi with
  | 0, _ => exact ⟨A, c, by simpa [Plan.lAt] using h0, by simpa [Plan.lAt] using hl⟩
  | 1, _ => exact ⟨B, d, by simpa [Plan.lAt] using h1, by simpa [Plan.lAt] using hm⟩
theorem rd_row (w : World) (xs : List Int) (cs : Array Value) (h : cs = (xs.map (Value.int .i64)).toArray) : Rd (w.alloc (.cells cs 3)) (some ⟨w.heap.size, 0, none⟩) xs := by
  subst h
  exact (Own.of_block (B := 0) (heap_alloc_new w _) (Nat.zero_le _)).rd

set_option maxRecDepth 4000 in
set_option maxHeartbeats 8000000 in
theorem alive_any (w : World) : Calls Try.prog 10 #[] w fun e w' => e = .returned (.bool true) ∧ Below w.heap.size w w' := by
  have hacc := Plan.acc_of alive_right
  have HA := Lib.hid hacc
  clear hacc
  go_enter Try.func10, Try.ntmps10
  go_wp2_with fail
  refine (three_any _).mono ?_
  rintro e w1 ⟨rfl, hg, hb1⟩
  go_wp2_with fail
  refine (two_any _).mono ?_
  rintro e w2 ⟨rfl, hh, hb2⟩
  have HG := Lib.hid (hg.below hb2)
  have HH := Lib.hid hh
  have HB0 := Lib.hid (thru hb1 hb2 hb1.size)
  clear hg hh hb1 hb2
  go_wp2_with fail
  have hB := ((Joins.below_alloc1 w2 (.cells #[.int .i64 0, .int .i64 1] 3)).alloc (by simp) (.cells #[.int .i64 0, .int .i64 2] 3)).alloc (by simp; omega) (.cells #[.slice (some ⟨w2.heap.size, 0, none⟩) 2 2, .slice (some ⟨w2.heap.size + 1, 0, none⟩) 2 2] 45)
  have r0 : Rd (((w2.alloc (.cells #[.int .i64 0, .int .i64 1] 3)).alloc (.cells #[.int .i64 0, .int .i64 2] 3)).alloc (.cells #[.slice (some ⟨w2.heap.size, 0, none⟩) 2 2, .slice (some ⟨w2.heap.size + 1, 0, none⟩) 2 2] 45)) (some ⟨w2.heap.size, 0, none⟩) [0, 1] :=
    (rd_row w2 [0, 1] _ rfl).below ((Joins.below_alloc1 _ _).alloc (by simp) _)
  have r1 : Rd (((w2.alloc (.cells #[.int .i64 0, .int .i64 1] 3)).alloc (.cells #[.int .i64 0, .int .i64 2] 3)).alloc (.cells #[.slice (some ⟨w2.heap.size, 0, none⟩) 2 2, .slice (some ⟨w2.heap.size + 1, 0, none⟩) 2 2] 45)) (some ⟨w2.heap.size + 1, 0, none⟩) [0, 2] := by
    have h := (rd_row (w2.alloc (.cells #[.int .i64 0, .int .i64 1] 3)) [0, 2] _ rfl).below (Joins.below_alloc1 _ (.cells #[.slice (some ⟨w2.heap.size, 0, none⟩) 2 2, .slice (some ⟨w2.heap.size + 1, 0, none⟩) 2 2] 45))
    simpa using h
  have q0 : (((w2.alloc (.cells #[.int .i64 0, .int .i64 1] 3)).alloc (.cells #[.int .i64 0, .int .i64 2] 3)).alloc (.cells #[.slice (some ⟨w2.heap.size, 0, none⟩) 2 2, .slice (some ⟨w2.heap.size + 1, 0, none⟩) 2 2] 45)).cell? ⟨w2.heap.size + 1 + 1, 0, none⟩ = some (.slice (some ⟨w2.heap.size, 0, none⟩) 2 2) := by simp [go_sem]
  have q1 : (((w2.alloc (.cells #[.int .i64 0, .int .i64 1] 3)).alloc (.cells #[.int .i64 0, .int .i64 2] 3)).alloc (.cells #[.slice (some ⟨w2.heap.size, 0, none⟩) 2 2, .slice (some ⟨w2.heap.size + 1, 0, none⟩) 2 2] 45)).cell? ⟨w2.heap.size + 1 + 1, 1, none⟩ = some (.slice (some ⟨w2.heap.size + 1, 0, none⟩) 2 2) := by simp [go_sem]
  have qz : w2.heap.size + 1 + 1 < (((w2.alloc (.cells #[.int .i64 0, .int .i64 1] 3)).alloc (.cells #[.int .i64 0, .int .i64 2] 3)).alloc (.cells #[.slice (some ⟨w2.heap.size, 0, none⟩) 2 2, .slice (some ⟨w2.heap.size + 1, 0, none⟩) 2 2] 45)).heap.size := by simp
  have HG2 := Lib.hid (HG.out.below hB)
  have HH2 := Lib.hid (HH.out.below hB)
  have hs2 := HB0.out.size
  have hB0' := HB0.out
  have HBW := Lib.hid (show Below w.heap.size w _ from thru HB0.out hB HB0.out.size)
  clear hB HG HH HB0 hs2 hB0'
  generalize (((w2.alloc (.cells #[.int .i64 0, .int .i64 1] 3)).alloc (.cells #[.int .i64 0, .int .i64 2] 3)).alloc (.cells #[.slice (some ⟨w2.heap.size, 0, none⟩) 2 2, .slice (some ⟨w2.heap.size + 1, 0, none⟩) 2 2] 45)) = W0 at *
  generalize w2.heap.size = z at *
  have HL := Lib.hid (rdL_two (Q := 0) qz q0 q1 r0 r1 rfl)
  have HL1 : Hid (RdL W0 (some ⟨z + 1 + 1, 0, none⟩) [[0, 1]]) := Lib.hid (fun _ => ⟨z + 1 + 1, 0, rfl, qz, fun i hi => by
    obtain rfl : i = 0 := by simp at hi; omega
    exact ⟨_, 2, by simpa [Plan.lAt] using q0, by simpa [Plan.lAt] using r0⟩⟩)
  clear r0 r1 q0 q1 qz
  refine (pworth_any threeL twoL [[0, 1], [0, 2]] (some ⟨w.heap.size, 0, none⟩) (some ⟨w1.heap.size, 0, none⟩) (some ⟨z + 1 + 1, 0, none⟩) 3 2 2 _ HA.out HG2.out HH2.out HL.out).mono ?_
  rw [alive_worth]
  rintro e w3 ⟨rfl, hb3⟩
  have HB3 := Lib.hid hb3
  clear hb3
  go_wp2_with fail
  refine (pworth_any threeL twoL [[0, 1]] (some ⟨w.heap.size, 0, none⟩) (some ⟨w1.heap.size, 0, none⟩) (some ⟨z + 1 + 1, 0, none⟩) 3 2 2 _ HA.out (HG2.out.below HB3.out) (HH2.out.below HB3.out) (HL1.out.below HB3.out)).mono ?_
  rw [alive_none]
  rintro e w4 ⟨rfl, hb4⟩
  have HB4 := Lib.hid (thru HB3.out hb4 HB3.out.size)
  clear hb4 HB3
  go_wp2_with fail
  refine (pright_any threeL twoL (some ⟨w.heap.size, 0, none⟩) (some ⟨w1.heap.size, 0, none⟩) 3 2 _ (HG2.out.below HB4.out) (HH2.out.below HB4.out)).mono ?_
  rw [alive_right]
  rintro e w5 ⟨rfl, hb5⟩
  have HB5 := Lib.hid (thru HB4.out hb5 HB4.out.size)
  clear hb5 HB4
  go_wp2_with fail
  refine (pvalid_any threeL twoL [[0, 1], [0, 2]] 500 (some ⟨w.heap.size, 0, none⟩) (some ⟨w1.heap.size, 0, none⟩) (some ⟨z + 1 + 1, 0, none⟩) 3 2 2 _ HA.out (HG2.out.below HB5.out) (HH2.out.below HB5.out) (HL.out.below HB5.out)).mono ?_
  rw [alive_v1]
  rintro e w6 ⟨rfl, hb6⟩
  have HB6 := Lib.hid (thru HB5.out hb6 HB5.out.size)
  clear hb6 HB5
  go_wp2_with fail
  refine (pvalid_any threeL twoL [[0, 1], [0, 2]] 499 (some ⟨w.heap.size, 0, none⟩) (some ⟨w1.heap.size, 0, none⟩) (some ⟨z + 1 + 1, 0, none⟩) 3 2 2 _ HA.out (HG2.out.below HB6.out) (HH2.out.below HB6.out) (HL.out.below HB6.out)).mono ?_
  rw [alive_v2]
  rintro e w7 ⟨rfl, hb7⟩
  have HB7 := Lib.hid (thru HB6.out hb7 HB6.out.size)
  clear hb7 HB6
  go_wp2_with fail
  have hB8 := (HB7.out.alloc HB7.out.size (.cells #[.int .i64 0, .int .i64 1, .int .i64 2] 3)).alloc (by have := HB7.out.size; simp; omega) (.cells #[.slice (some ⟨w7.heap.size, 0, none⟩) 3 3, .slice none 0 0] 45)
  have hL8 : RdL ((w7.alloc (.cells #[.int .i64 0, .int .i64 1, .int .i64 2] 3)).alloc (.cells #[.slice (some ⟨w7.heap.size, 0, none⟩) 3 3, .slice none 0 0] 45)) (some ⟨w7.heap.size + 1, 0, none⟩) [[0, 1, 2], []] :=
    rdL_two (Q := 0) (c := 3) (d := 0) (A := some ⟨w7.heap.size, 0, none⟩) (B := none) (by simp) (by simp [go_sem]) (by simp [go_sem]) ((rd_row w7 [0, 1, 2] _ rfl).below (Joins.below_alloc1 _ _)) (Rd.nil _ _) rfl
  have HBX := Lib.hid hB8
  have HL8 := Lib.hid hL8
  clear hB8 hL8
  refine (pvalid_any threeL twoL [[0, 1, 2], []] 900 (some ⟨w.heap.size, 0, none⟩) (some ⟨w1.heap.size, 0, none⟩) (some ⟨w7.heap.size + 1, 0, none⟩) 3 2 2 _ HA.out (HG2.out.below HBX.out) (HH2.out.below HBX.out) HL8.out).mono ?_
  rw [alive_v3]
  rintro e w8 ⟨rfl, hb8⟩
  have HB8 := Lib.hid (thru HBX.out hb8 HBX.out.size)
  clear hb8 HB7 HBX HL8
  go_wp2_with fail
  refine (pgreat_any threeL twoL 500 (some ⟨w.heap.size, 0, none⟩) (some ⟨w1.heap.size, 0, none⟩) 3 2 _ alive_right (by omega) (HG2.out.below HB8.out) (HH2.out.below HB8.out)).mono ?_
  rw [alive_g1]
  rintro e w9 ⟨rfl, hb9⟩
  have HB9 := Lib.hid (thru HB8.out hb9 HB8.out.size)
  clear hb9 HB8
  go_wp2_with fail
  refine (pgreat_any threeL twoL 400 (some ⟨w.heap.size, 0, none⟩) (some ⟨w1.heap.size, 0, none⟩) 3 2 _ alive_right (by omega) (HG2.out.below HB9.out) (HH2.out.below HB9.out)).mono ?_
  rw [alive_g2]
  rintro e w10 ⟨rfl, hb10⟩
  have HB10 := Lib.hid (thru HB9.out hb10 HB9.out.size)
  clear hb10 HB9
  go_wp2_with fail
  refine (pgreat_any threeL twoL 0 (some ⟨w.heap.size, 0, none⟩) (some ⟨w1.heap.size, 0, none⟩) 3 2 _ alive_right (by omega) (HG2.out.below HB10.out) (HH2.out.below HB10.out)).mono ?_
  rw [alive_g3]
  rintro e w11 ⟨rfl, hb11⟩
  have HB11 := Lib.hid (thru HB10.out hb11 HB10.out.size)
  clear hb11 HB10
  go_wp2_with fail
  refine (pbest_any threeL twoL 0 (some ⟨w.heap.size, 0, none⟩) (some ⟨w1.heap.size, 0, none⟩) 3 2 _ alive_right (by omega) (by omega) (HG2.out.below HB11.out) (HH2.out.below HB11.out)).mono ?_
  rintro e w12 ⟨gC, rfl, -, -, hb12⟩
  have HB12 := Lib.hid (thru HB11.out hb12 HB11.out.size)
  clear hb12 HB11
  go_wp2_with fail
  refine (pbest_neg threeL twoL (-1) (some ⟨w.heap.size, 0, none⟩) (some ⟨w1.heap.size, 0, none⟩) 3 2 _ (by omega)).mono ?_
  rintro e w13 ⟨rfl, hb13⟩
  have HB13 := Lib.hid (thru HB12.out hb13 HB12.out.size)
  clear hb13 HB12
  go_wp2
  go_ret
  exact ⟨rfl, thru HBW.out HB13.out HBW.out.size⟩
end Go.Proofs.Ytnblfhoogcdcfaa
