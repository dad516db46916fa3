/-
  The walk of the examples of the chapter on queues: they hold.
-/
import Derived.Test.YthabkfmbdkgghaaQueueWalkF
namespace Go.Proofs.Ythabkfmbdkgghaa
open Go.RowKit

theorem rd_new (w : World) (xs : List Int) (cs : Array Value) (h : cs = (xs.map (Value.int .i64)).toArray) : Rd (w.alloc (.cells cs 3)) (some ⟨w.heap.size, 0, none⟩) xs := by
  subst h
  exact (Own.of_block (B := 0) (heap_alloc_new w _) (Nat.zero_le _)).rd
theorem rd_new_at (w : World) (xs : List Int) (cs : Array Value) (g : Nat) (hg : g = w.heap.size) (h : cs = (xs.map (Value.int .i64)).toArray) : Rd (w.alloc (.cells cs 3)) (some ⟨g, 0, none⟩) xs := by
  subst hg; exact rd_new w xs cs h

set_option maxHeartbeats 2000000 in
theorem alive_any (w : World) : Calls Try.prog 10 #[] w fun e w' => e = .returned (.bool true) ∧ Below w.heap.size w w' := by
  go_enter Try.func10, Try.ntmps10
  go_wp2_with fail
  refine (seat_any [2, 3, 1] 4 4 (some ⟨w.heap.size, 0, none⟩) 3 _ (by decide) (by decide) (by decide) (rd_new _ _ _ rfl)).mono ?_
  rintro e w1 hp
  obtain ⟨A1, c1, rfl, ho1, hb1⟩ := hp.unpack (ys := [3, 1]) (u := 2) (b := 4) (by decide)
  clear hp
  obtain ⟨hc1, hf1⟩ := bcell hb1; have z1 := hb1.size; (try simp at z1); have g1 : Below w.heap.size w w1 := thru (by go_grown) hb1 (by first | omega | (simp; done) | (simp; omega)); (try have s1 : w.heap.size < w1.heap.size := by omega); (try have t1_a1 : w.heap.size < w1.heap.size + 1 := by omega); (try have t1_a2 : w.heap.size < w1.heap.size + 1 + 1 := by omega)
  have HO1 := Lib.hid ho1.rd
  clear ho1
  go_wp2_with fail
  refine (seat_any [7, 1] 9 4 (some ⟨w1.heap.size + 1, 0, none⟩) 2 _ (by decide) (by decide) (by decide) (rd_new_at _ _ _ _ (by simp) rfl)).mono ?_
  rintro e w2 hp
  obtain ⟨A2, c2, rfl, ho2, hb2⟩ := hp.unpack (ys := [3, 1]) (u := 9) (b := 4) (by decide)
  clear hp
  obtain ⟨hc2, hf2⟩ := bcell hb2; have z2 := hb2.size; (try simp at z2); have g2 : Below w.heap.size w w2 := thru (by go_grown) hb2 (by first | omega | (simp; done) | (simp; omega)); (try have s2 : w.heap.size < w2.heap.size := by omega); (try have t2_a1 : w.heap.size < w2.heap.size + 1 := by omega); (try have t1_2_a1 : w1.heap.size < w2.heap.size + 1 := by omega); (try have t2_a2 : w.heap.size < w2.heap.size + 1 + 1 := by omega); (try have t1_2_a2 : w1.heap.size < w2.heap.size + 1 + 1 := by omega); (try have t2_a3 : w.heap.size < w2.heap.size + 1 + 1 + 1 := by omega); (try have t1_2_a3 : w1.heap.size < w2.heap.size + 1 + 1 + 1 := by omega); (try have s2_p1 : w.heap.size + 1 < w2.heap.size := by omega); (try have s1_2_p1 : w1.heap.size + 1 < w2.heap.size := by omega); (try have s1_2 : w1.heap.size < w2.heap.size := by omega)
  have HO1' := Lib.hid ((HO1.out.below (by go_grown)).below hb2)
  have HO2 := Lib.hid ho2.rd
  clear ho2 HO1
  go_wp2_with fail
  refine (wait_any [2, 3, 1] 4 4 (some ⟨w2.heap.size + 1, 0, none⟩) 3 _ (by decide) (by decide) (by decide) (rd_new_at _ _ _ _ (by simp) rfl)).mono ?_
  rintro e w3 ⟨rfl, hb3⟩
  rw [show Que.wait [2, 3, 1] 4 4 = 3 by decide]
  obtain ⟨hc3, hf3⟩ := bcell hb3; have z3 := hb3.size; (try simp at z3); have g3 : Below w.heap.size w w3 := thru (by go_grown) hb3 (by first | omega | (simp; done) | (simp; omega)); (try have s3 : w.heap.size < w3.heap.size := by omega); (try have t3_a1 : w.heap.size < w3.heap.size + 1 := by omega); (try have t1_3_a1 : w1.heap.size < w3.heap.size + 1 := by omega); (try have t2_3_a1 : w2.heap.size < w3.heap.size + 1 := by omega); (try have t3_a2 : w.heap.size < w3.heap.size + 1 + 1 := by omega); (try have t1_3_a2 : w1.heap.size < w3.heap.size + 1 + 1 := by omega); (try have t2_3_a2 : w2.heap.size < w3.heap.size + 1 + 1 := by omega); (try have t3_a3 : w.heap.size < w3.heap.size + 1 + 1 + 1 := by omega); (try have t1_3_a3 : w1.heap.size < w3.heap.size + 1 + 1 + 1 := by omega); (try have t2_3_a3 : w2.heap.size < w3.heap.size + 1 + 1 + 1 := by omega); (try have s3_p1 : w.heap.size + 1 < w3.heap.size := by omega); (try have s1_3_p1 : w1.heap.size + 1 < w3.heap.size := by omega); (try have s2_3_p1 : w2.heap.size + 1 < w3.heap.size := by omega); (try have s1_3 : w1.heap.size < w3.heap.size := by omega); (try have s2_3 : w2.heap.size < w3.heap.size := by omega)
  have HO1 := Lib.hid ((HO1'.out.below (by go_grown)).below hb3)
  have HO2' := Lib.hid ((HO2.out.below (by go_grown)).below hb3)
  clear HO1' HO2
  go_wp2_with fail
  refine (seat_bad [] 0 17 none 0 _ (by decide)).mono ?_
  rintro e w4 ⟨rfl, hb4⟩
  obtain ⟨hc4, hf4⟩ := bcell hb4; have z4 := hb4.size; (try simp at z4); have g4 : Below w.heap.size w w4 := thru (by go_grown) hb4 (by first | omega | (simp; done) | (simp; omega)); (try have s4 : w.heap.size < w4.heap.size := by omega); (try have t4_a1 : w.heap.size < w4.heap.size + 1 := by omega); (try have t1_4_a1 : w1.heap.size < w4.heap.size + 1 := by omega); (try have t2_4_a1 : w2.heap.size < w4.heap.size + 1 := by omega); (try have t3_4_a1 : w3.heap.size < w4.heap.size + 1 := by omega); (try have t4_a2 : w.heap.size < w4.heap.size + 1 + 1 := by omega); (try have t1_4_a2 : w1.heap.size < w4.heap.size + 1 + 1 := by omega); (try have t2_4_a2 : w2.heap.size < w4.heap.size + 1 + 1 := by omega); (try have t3_4_a2 : w3.heap.size < w4.heap.size + 1 + 1 := by omega); (try have s1_4 : w1.heap.size < w4.heap.size := by omega); (try have s2_4 : w2.heap.size < w4.heap.size := by omega); (try have s3_4 : w3.heap.size < w4.heap.size := by omega)
  have HO1' := Lib.hid ((HO1.out.below (by go_grown)).below hb4)
  have HO2 := Lib.hid ((HO2'.out.below (by go_grown)).below hb4)
  clear HO1 HO2'
  go_wp2_with fail
  refine (same_eq [3, 1] 2 A1 (some ⟨w4.heap.size + 1, 0, none⟩) c1 2 _ (by decide) (HO1'.out.below (by go_grown)) (rd_new_at _ _ _ _ (by simp) rfl)).mono ?_
  rintro e w5 ⟨rfl, hb5⟩
  obtain ⟨hc5, hf5⟩ := bcell hb5; have z5 := hb5.size; (try simp at z5); have g5 : Below w.heap.size w w5 := thru (by go_grown) hb5 (by first | omega | (simp; done) | (simp; omega)); (try have s5 : w.heap.size < w5.heap.size := by omega); (try have t5_a1 : w.heap.size < w5.heap.size + 1 := by omega); (try have t1_5_a1 : w1.heap.size < w5.heap.size + 1 := by omega); (try have t2_5_a1 : w2.heap.size < w5.heap.size + 1 := by omega); (try have t3_5_a1 : w3.heap.size < w5.heap.size + 1 := by omega); (try have t4_5_a1 : w4.heap.size < w5.heap.size + 1 := by omega); (try have t5_a2 : w.heap.size < w5.heap.size + 1 + 1 := by omega); (try have t1_5_a2 : w1.heap.size < w5.heap.size + 1 + 1 := by omega); (try have t2_5_a2 : w2.heap.size < w5.heap.size + 1 + 1 := by omega); (try have t3_5_a2 : w3.heap.size < w5.heap.size + 1 + 1 := by omega); (try have t4_5_a2 : w4.heap.size < w5.heap.size + 1 + 1 := by omega); (try have t5_a3 : w.heap.size < w5.heap.size + 1 + 1 + 1 := by omega); (try have t1_5_a3 : w1.heap.size < w5.heap.size + 1 + 1 + 1 := by omega); (try have t2_5_a3 : w2.heap.size < w5.heap.size + 1 + 1 + 1 := by omega); (try have t3_5_a3 : w3.heap.size < w5.heap.size + 1 + 1 + 1 := by omega); (try have t4_5_a3 : w4.heap.size < w5.heap.size + 1 + 1 + 1 := by omega); (try have s5_p1 : w.heap.size + 1 < w5.heap.size := by omega); (try have s1_5_p1 : w1.heap.size + 1 < w5.heap.size := by omega); (try have s2_5_p1 : w2.heap.size + 1 < w5.heap.size := by omega); (try have s3_5_p1 : w3.heap.size + 1 < w5.heap.size := by omega); (try have s4_5_p1 : w4.heap.size + 1 < w5.heap.size := by omega); (try have s1_5 : w1.heap.size < w5.heap.size := by omega); (try have s2_5 : w2.heap.size < w5.heap.size := by omega); (try have s3_5 : w3.heap.size < w5.heap.size := by omega); (try have s4_5 : w4.heap.size < w5.heap.size := by omega)
  have HO1 := Lib.hid ((HO1'.out.below (by go_grown)).below hb5)
  have HO2' := Lib.hid ((HO2.out.below (by go_grown)).below hb5)
  clear HO1' HO2
  go_wp2_with fail
  refine (same_eq [3, 1] 9 A2 (some ⟨w5.heap.size, 0, none⟩) c2 2 _ (by decide) (HO2'.out.below (by go_grown)) (rd_new_at _ _ _ _ (by simp) rfl)).mono ?_
  rintro e w6 ⟨rfl, hb6⟩
  obtain ⟨hc6, hf6⟩ := bcell hb6; have z6 := hb6.size; (try simp at z6); have g6 : Below w.heap.size w w6 := thru (by go_grown) hb6 (by first | omega | (simp; done) | (simp; omega)); (try have s6 : w.heap.size < w6.heap.size := by omega); (try have t6_a1 : w.heap.size < w6.heap.size + 1 := by omega); (try have t1_6_a1 : w1.heap.size < w6.heap.size + 1 := by omega); (try have t2_6_a1 : w2.heap.size < w6.heap.size + 1 := by omega); (try have t3_6_a1 : w3.heap.size < w6.heap.size + 1 := by omega); (try have t4_6_a1 : w4.heap.size < w6.heap.size + 1 := by omega); (try have t5_6_a1 : w5.heap.size < w6.heap.size + 1 := by omega); (try have t6_a2 : w.heap.size < w6.heap.size + 1 + 1 := by omega); (try have t1_6_a2 : w1.heap.size < w6.heap.size + 1 + 1 := by omega); (try have t2_6_a2 : w2.heap.size < w6.heap.size + 1 + 1 := by omega); (try have t3_6_a2 : w3.heap.size < w6.heap.size + 1 + 1 := by omega); (try have t4_6_a2 : w4.heap.size < w6.heap.size + 1 + 1 := by omega); (try have t5_6_a2 : w5.heap.size < w6.heap.size + 1 + 1 := by omega); (try have s1_6 : w1.heap.size < w6.heap.size := by omega); (try have s2_6 : w2.heap.size < w6.heap.size := by omega); (try have s3_6 : w3.heap.size < w6.heap.size := by omega); (try have s4_6 : w4.heap.size < w6.heap.size := by omega); (try have s5_6 : w5.heap.size < w6.heap.size := by omega)
  have HO1' := Lib.hid ((HO1.out.below (by go_grown)).below hb6)
  have HO2 := Lib.hid ((HO2'.out.below (by go_grown)).below hb6)
  clear HO1 HO2'
  go_wp2_with fail
  refine (length_any [3, 1] 9 A2 c2 _ HO2.out (by decide)).mono ?_
  rintro e w7 ⟨rfl, rfl⟩
  rw [show Que.qlen [3, 1] 9 = 13 by decide]
  go_wp2_with fail
  refine (right_any [3, 1] 2 A1 c1 _ (HO1'.out.below (by go_grown))).mono ?_
  rintro e w8 ⟨rfl, rfl⟩
  rw [show Que.right [3, 1] 2 = true by decide]
  go_wp2
  go_ret
  exact ⟨rfl, by go_grown⟩
end Go.Proofs.Ythabkfmbdkgghaa
