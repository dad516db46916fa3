/-
  The walk of the examples of the chapter on prices: they hold.
-/
import Derived.Test.YtlhbpnealboagaaPriceWalkI
namespace Go.Proofs.Ytlhbpnealboagaa
open Go.RowKit

theorem RdP.nil (w : World) (A : Option Addr) : RdP w A [] := fun h => absurd h (by simp)
abbrev exD : List (Int × Int) := [(0, 800), (1000, 1200)]
abbrev exA : List (Int × Int) := [(0, 1500), (10, 1000)]
/-- The rule of the examples, in new memory. -/
def RulePost (w : World) (e : Ending) (w' : World) : Prop :=
  ∃ (A A' : Option Addr), e = .returned (rv 1000 9000 50 A 2 2 A' 2 2) ∧ RdP w' A exD ∧ RdP w' A' exA ∧ Below w.heap.size w w' ∧ w.heap.size < w'.heap.size
theorem rdp_two {w : World} {g : Nat} {a b c d : Int} (hg : g < w.heap.size) (h0 : w.cell? ⟨g, 0, none⟩ = some (.int .i64 a)) (h1 : w.cell? ⟨g, 1, none⟩ = some (.int .i64 b)) (h2 : w.cell? ⟨g, 2, none⟩ = some (.int .i64 c)) (h3 : w.cell? ⟨g, 3, none⟩ = some (.int .i64 d)) : RdP w (some ⟨g, 0, none⟩) [(a, b), (c, d)] := fun _ => by
  refine ⟨g, 0, rfl, hg, fun i hi => ?_⟩
  match i, hi with
  | 0, _ => exact ⟨h0, h1⟩
  | 1, _ => exact ⟨h2, h3⟩

set_option maxHeartbeats 1000000 in
theorem rule_any (w : World) : Calls Try.prog 22 #[] w (RulePost w) := by
  go_enter Try.func22, Try.ntmps22
  go_wp2
  refine bodyPost_ret (v := rv 1000 9000 50 (some ⟨w.heap.size + 1, 0, none⟩) 2 2 (some ⟨w.heap.size + 1 + 1, 0, none⟩) 2 2) (by simp [results, Try.results22, go_sem]) rfl ⟨_, _, rfl, ?_, ?_, ?_, ?_⟩
  · exact rdp_two (by simp) (by simp [go_sem]) (by simp [go_sem]) (by simp [go_sem]) (by simp [go_sem])
  · exact rdp_two (by simp) (by simp [go_sem]) (by simp [go_sem]) (by simp [go_sem]) (by simp [go_sem])
  · go_grown
  · simp; try omega

theorem exFactor : Pri.factor ⟨1000, 9000, 50, exD, exA⟩ 500 5 = (1250, 0) := by decide +kernel
theorem exQuote : Pri.quote ⟨1000, 9000, 50, exD, exA⟩ 5010 500 5 = (6250, 0) := by decide +kernel
theorem exQuote0 : Pri.quote ⟨1000, 9000, 50, exD, exA⟩ 0 500 5 = (1000, 0) := by decide +kernel
theorem exCheap : Pri.cheap ⟨1000, 9000, 50, exD, exA⟩ 5010 4 [500, 500, 0, 900] = (2, 4800, 0) := by decide +kernel
theorem exNone : Pri.cheap ⟨0, 0, 0, [], []⟩ 0 0 [] = (0, 0, 8) := by decide +kernel
theorem exOrder : Pri.right ⟨10, 19, 20, [], []⟩ = 11 := by decide +kernel

set_option maxHeartbeats 2000000 in
theorem alive_any (w : World) : Calls Try.prog 11 #[] w fun e w' => e = .returned (.bool true) ∧ Below w.heap.size w w' := by
  go_enter Try.func11, Try.ntmps11
  go_wp2_with fail
  refine (rule_any _).mono ?_
  rintro e w1 ⟨A1, B1, rfl, hr1, hr1', hb1, hs1⟩
  have R1 := Lib.hid hr1
  have R1' := Lib.hid hr1'
  clear hr1 hr1'
  obtain ⟨hc1, hf1⟩ := bcell hb1; have z1 := hb1.size; (try simp at z1); have g1 : Below w.heap.size w w1 := thru (by go_grown) hb1 (by first | omega | (simp; done) | (simp; omega)); (try have s1 : w.heap.size < w1.heap.size := by omega); (try have t1_a1 : w.heap.size < w1.heap.size + 1 := by omega); (try have t1_a2 : w.heap.size < w1.heap.size + 1 + 1 := by omega)
  go_wp2_with fail
  refine (factor_any 1000 9000 50 exD exA A1 2 B1 2 500 5 _ R1.out R1'.out (by decide) (by decide)).mono ?_
  rw [exFactor]
  rintro e w2 ⟨rfl, hb2⟩
  obtain ⟨hc2, hf2⟩ := bcell hb2; have z2 := hb2.size; (try simp at z2); have g2 : Below w.heap.size w w2 := thru (by go_grown) hb2 (by first | omega | (simp; done) | (simp; omega)); (try have s2 : w.heap.size < w2.heap.size := by omega); (try have t2_a1 : w.heap.size < w2.heap.size + 1 := by omega); (try have t1_2_a1 : w1.heap.size < w2.heap.size + 1 := by omega); (try have t2_a2 : w.heap.size < w2.heap.size + 1 + 1 := by omega); (try have t1_2_a2 : w1.heap.size < w2.heap.size + 1 + 1 := by omega); (try have s1_2 : w1.heap.size < w2.heap.size := by omega)
  go_wp2_with fail
  refine (rule_any _).mono ?_
  rintro e w3 ⟨A1, B1, rfl, hr1, hr1', hb3, hs3⟩
  have R3 := Lib.hid hr1
  have R3' := Lib.hid hr1'
  clear hr1 hr1'
  obtain ⟨hc3, hf3⟩ := bcell hb3; have z3 := hb3.size; (try simp at z3); have g3 : Below w.heap.size w w3 := thru (by go_grown) hb3 (by first | omega | (simp; done) | (simp; omega)); (try have s3 : w.heap.size < w3.heap.size := by omega); (try have t3_a1 : w.heap.size < w3.heap.size + 1 := by omega); (try have t1_3_a1 : w1.heap.size < w3.heap.size + 1 := by omega); (try have t2_3_a1 : w2.heap.size < w3.heap.size + 1 := by omega); (try have t3_a2 : w.heap.size < w3.heap.size + 1 + 1 := by omega); (try have t1_3_a2 : w1.heap.size < w3.heap.size + 1 + 1 := by omega); (try have t2_3_a2 : w2.heap.size < w3.heap.size + 1 + 1 := by omega); (try have s1_3 : w1.heap.size < w3.heap.size := by omega); (try have s2_3 : w2.heap.size < w3.heap.size := by omega)
  go_wp2_with fail
  refine (quote_any 1000 9000 50 exD exA A1 2 B1 2 5010 500 5 _ R3.out R3'.out (by decide) (by decide)).mono ?_
  rw [exQuote]
  rintro e w4 ⟨rfl, hb4⟩
  obtain ⟨hc4, hf4⟩ := bcell hb4; have z4 := hb4.size; (try simp at z4); have g4 : Below w.heap.size w w4 := thru (by go_grown) hb4 (by first | omega | (simp; done) | (simp; omega)); (try have s4 : w.heap.size < w4.heap.size := by omega); (try have t4_a1 : w.heap.size < w4.heap.size + 1 := by omega); (try have t1_4_a1 : w1.heap.size < w4.heap.size + 1 := by omega); (try have t2_4_a1 : w2.heap.size < w4.heap.size + 1 := by omega); (try have t3_4_a1 : w3.heap.size < w4.heap.size + 1 := by omega); (try have t4_a2 : w.heap.size < w4.heap.size + 1 + 1 := by omega); (try have t1_4_a2 : w1.heap.size < w4.heap.size + 1 + 1 := by omega); (try have t2_4_a2 : w2.heap.size < w4.heap.size + 1 + 1 := by omega); (try have t3_4_a2 : w3.heap.size < w4.heap.size + 1 + 1 := by omega); (try have s1_4 : w1.heap.size < w4.heap.size := by omega); (try have s2_4 : w2.heap.size < w4.heap.size := by omega); (try have s3_4 : w3.heap.size < w4.heap.size := by omega)
  go_wp2_with fail
  refine (rule_any _).mono ?_
  rintro e w5 ⟨A1, B1, rfl, hr1, hr1', hb5, hs5⟩
  have R5 := Lib.hid hr1
  have R5' := Lib.hid hr1'
  clear hr1 hr1'
  obtain ⟨hc5, hf5⟩ := bcell hb5; have z5 := hb5.size; (try simp at z5); have g5 : Below w.heap.size w w5 := thru (by go_grown) hb5 (by first | omega | (simp; done) | (simp; omega)); (try have s5 : w.heap.size < w5.heap.size := by omega); (try have t5_a1 : w.heap.size < w5.heap.size + 1 := by omega); (try have t1_5_a1 : w1.heap.size < w5.heap.size + 1 := by omega); (try have t2_5_a1 : w2.heap.size < w5.heap.size + 1 := by omega); (try have t3_5_a1 : w3.heap.size < w5.heap.size + 1 := by omega); (try have t4_5_a1 : w4.heap.size < w5.heap.size + 1 := by omega); (try have t5_a2 : w.heap.size < w5.heap.size + 1 + 1 := by omega); (try have t1_5_a2 : w1.heap.size < w5.heap.size + 1 + 1 := by omega); (try have t2_5_a2 : w2.heap.size < w5.heap.size + 1 + 1 := by omega); (try have t3_5_a2 : w3.heap.size < w5.heap.size + 1 + 1 := by omega); (try have t4_5_a2 : w4.heap.size < w5.heap.size + 1 + 1 := by omega); (try have s1_5 : w1.heap.size < w5.heap.size := by omega); (try have s2_5 : w2.heap.size < w5.heap.size := by omega); (try have s3_5 : w3.heap.size < w5.heap.size := by omega); (try have s4_5 : w4.heap.size < w5.heap.size := by omega)
  go_wp2_with fail
  refine (quote_any 1000 9000 50 exD exA A1 2 B1 2 0 500 5 _ R5.out R5'.out (by decide) (by decide)).mono ?_
  rw [exQuote0]
  rintro e w6 ⟨rfl, hb6⟩
  obtain ⟨hc6, hf6⟩ := bcell hb6; have z6 := hb6.size; (try simp at z6); have g6 : Below w.heap.size w w6 := thru (by go_grown) hb6 (by first | omega | (simp; done) | (simp; omega)); (try have s6 : w.heap.size < w6.heap.size := by omega); (try have t6_a1 : w.heap.size < w6.heap.size + 1 := by omega); (try have t1_6_a1 : w1.heap.size < w6.heap.size + 1 := by omega); (try have t2_6_a1 : w2.heap.size < w6.heap.size + 1 := by omega); (try have t3_6_a1 : w3.heap.size < w6.heap.size + 1 := by omega); (try have t4_6_a1 : w4.heap.size < w6.heap.size + 1 := by omega); (try have t5_6_a1 : w5.heap.size < w6.heap.size + 1 := by omega); (try have t6_a2 : w.heap.size < w6.heap.size + 1 + 1 := by omega); (try have t1_6_a2 : w1.heap.size < w6.heap.size + 1 + 1 := by omega); (try have t2_6_a2 : w2.heap.size < w6.heap.size + 1 + 1 := by omega); (try have t3_6_a2 : w3.heap.size < w6.heap.size + 1 + 1 := by omega); (try have t4_6_a2 : w4.heap.size < w6.heap.size + 1 + 1 := by omega); (try have t5_6_a2 : w5.heap.size < w6.heap.size + 1 + 1 := by omega); (try have s1_6 : w1.heap.size < w6.heap.size := by omega); (try have s2_6 : w2.heap.size < w6.heap.size := by omega); (try have s3_6 : w3.heap.size < w6.heap.size := by omega); (try have s4_6 : w4.heap.size < w6.heap.size := by omega); (try have s5_6 : w5.heap.size < w6.heap.size := by omega)
  go_wp2_with fail
  refine (rule_any _).mono ?_
  rintro e w7 ⟨A1, B1, rfl, hr1, hr1', hb7, hs7⟩
  have R7 := Lib.hid hr1
  have R7' := Lib.hid hr1'
  clear hr1 hr1'
  obtain ⟨hc7, hf7⟩ := bcell hb7; have z7 := hb7.size; (try simp at z7); have g7 : Below w.heap.size w w7 := thru (by go_grown) hb7 (by first | omega | (simp; done) | (simp; omega)); (try have s7 : w.heap.size < w7.heap.size := by omega); (try have t7_a1 : w.heap.size < w7.heap.size + 1 := by omega); (try have t1_7_a1 : w1.heap.size < w7.heap.size + 1 := by omega); (try have t2_7_a1 : w2.heap.size < w7.heap.size + 1 := by omega); (try have t3_7_a1 : w3.heap.size < w7.heap.size + 1 := by omega); (try have t4_7_a1 : w4.heap.size < w7.heap.size + 1 := by omega); (try have t5_7_a1 : w5.heap.size < w7.heap.size + 1 := by omega); (try have t6_7_a1 : w6.heap.size < w7.heap.size + 1 := by omega); (try have t7_a2 : w.heap.size < w7.heap.size + 1 + 1 := by omega); (try have t1_7_a2 : w1.heap.size < w7.heap.size + 1 + 1 := by omega); (try have t2_7_a2 : w2.heap.size < w7.heap.size + 1 + 1 := by omega); (try have t3_7_a2 : w3.heap.size < w7.heap.size + 1 + 1 := by omega); (try have t4_7_a2 : w4.heap.size < w7.heap.size + 1 + 1 := by omega); (try have t5_7_a2 : w5.heap.size < w7.heap.size + 1 + 1 := by omega); (try have t6_7_a2 : w6.heap.size < w7.heap.size + 1 + 1 := by omega); (try have s1_7 : w1.heap.size < w7.heap.size := by omega); (try have s2_7 : w2.heap.size < w7.heap.size := by omega); (try have s3_7 : w3.heap.size < w7.heap.size := by omega); (try have s4_7 : w4.heap.size < w7.heap.size := by omega); (try have s5_7 : w5.heap.size < w7.heap.size := by omega); (try have s6_7 : w6.heap.size < w7.heap.size := by omega)
  go_wp2_with fail
  refine (cheap_any 1000 9000 50 exD exA A1 2 B1 2 5010 4 [500, 500, 0, 900] (some ⟨w7.heap.size, 0, none⟩) 4 _ (R7.out.below (by go_grown)) (R7'.out.below (by go_grown)) (by decide) (by decide) ?_ (by decide) (by decide)).mono ?_
  · exact (Own.of_block (B := 0) (heap_alloc_new w7 _) (Nat.zero_le _)).rd
  rw [exCheap]
  rintro e w8 ⟨rfl, hb8⟩
  obtain ⟨hc8, hf8⟩ := bcell hb8; have z8 := hb8.size; (try simp at z8); have g8 : Below w.heap.size w w8 := thru (by go_grown) hb8 (by first | omega | (simp; done) | (simp; omega)); (try have s8 : w.heap.size < w8.heap.size := by omega); (try have t8_a1 : w.heap.size < w8.heap.size + 1 := by omega); (try have t1_8_a1 : w1.heap.size < w8.heap.size + 1 := by omega); (try have t2_8_a1 : w2.heap.size < w8.heap.size + 1 := by omega); (try have t3_8_a1 : w3.heap.size < w8.heap.size + 1 := by omega); (try have t4_8_a1 : w4.heap.size < w8.heap.size + 1 := by omega); (try have t5_8_a1 : w5.heap.size < w8.heap.size + 1 := by omega); (try have t6_8_a1 : w6.heap.size < w8.heap.size + 1 := by omega); (try have t7_8_a1 : w7.heap.size < w8.heap.size + 1 := by omega); (try have t8_a2 : w.heap.size < w8.heap.size + 1 + 1 := by omega); (try have t1_8_a2 : w1.heap.size < w8.heap.size + 1 + 1 := by omega); (try have t2_8_a2 : w2.heap.size < w8.heap.size + 1 + 1 := by omega); (try have t3_8_a2 : w3.heap.size < w8.heap.size + 1 + 1 := by omega); (try have t4_8_a2 : w4.heap.size < w8.heap.size + 1 + 1 := by omega); (try have t5_8_a2 : w5.heap.size < w8.heap.size + 1 + 1 := by omega); (try have t6_8_a2 : w6.heap.size < w8.heap.size + 1 + 1 := by omega); (try have t7_8_a2 : w7.heap.size < w8.heap.size + 1 + 1 := by omega); (try have s1_8 : w1.heap.size < w8.heap.size := by omega); (try have s2_8 : w2.heap.size < w8.heap.size := by omega); (try have s3_8 : w3.heap.size < w8.heap.size := by omega); (try have s4_8 : w4.heap.size < w8.heap.size := by omega); (try have s5_8 : w5.heap.size < w8.heap.size := by omega); (try have s6_8 : w6.heap.size < w8.heap.size := by omega); (try have s7_8 : w7.heap.size < w8.heap.size := by omega)
  go_wp2_with fail
  refine (cheap_any 0 0 0 [] [] none 0 none 0 0 0 [] none 0 _ (RdP.nil _ _) (RdP.nil _ _) (by decide) (by decide) (Rd.nil _ _) (by decide) (by decide)).mono ?_
  rw [exNone]
  rintro e w9 ⟨rfl, hb9⟩
  obtain ⟨hc9, hf9⟩ := bcell hb9; have z9 := hb9.size; (try simp at z9); have g9 : Below w.heap.size w w9 := thru (by go_grown) hb9 (by first | omega | (simp; done) | (simp; omega)); (try have s9 : w.heap.size < w9.heap.size := by omega); (try have t9_a1 : w.heap.size < w9.heap.size + 1 := by omega); (try have t1_9_a1 : w1.heap.size < w9.heap.size + 1 := by omega); (try have t2_9_a1 : w2.heap.size < w9.heap.size + 1 := by omega); (try have t3_9_a1 : w3.heap.size < w9.heap.size + 1 := by omega); (try have t4_9_a1 : w4.heap.size < w9.heap.size + 1 := by omega); (try have t5_9_a1 : w5.heap.size < w9.heap.size + 1 := by omega); (try have t6_9_a1 : w6.heap.size < w9.heap.size + 1 := by omega); (try have t7_9_a1 : w7.heap.size < w9.heap.size + 1 := by omega); (try have t8_9_a1 : w8.heap.size < w9.heap.size + 1 := by omega); (try have t9_a2 : w.heap.size < w9.heap.size + 1 + 1 := by omega); (try have t1_9_a2 : w1.heap.size < w9.heap.size + 1 + 1 := by omega); (try have t2_9_a2 : w2.heap.size < w9.heap.size + 1 + 1 := by omega); (try have t3_9_a2 : w3.heap.size < w9.heap.size + 1 + 1 := by omega); (try have t4_9_a2 : w4.heap.size < w9.heap.size + 1 + 1 := by omega); (try have t5_9_a2 : w5.heap.size < w9.heap.size + 1 + 1 := by omega); (try have t6_9_a2 : w6.heap.size < w9.heap.size + 1 + 1 := by omega); (try have t7_9_a2 : w7.heap.size < w9.heap.size + 1 + 1 := by omega); (try have t8_9_a2 : w8.heap.size < w9.heap.size + 1 + 1 := by omega); (try have s1_9 : w1.heap.size < w9.heap.size := by omega); (try have s2_9 : w2.heap.size < w9.heap.size := by omega); (try have s3_9 : w3.heap.size < w9.heap.size := by omega); (try have s4_9 : w4.heap.size < w9.heap.size := by omega); (try have s5_9 : w5.heap.size < w9.heap.size := by omega); (try have s6_9 : w6.heap.size < w9.heap.size := by omega); (try have s7_9 : w7.heap.size < w9.heap.size := by omega); (try have s8_9 : w8.heap.size < w9.heap.size := by omega)
  go_wp2_with fail
  refine (pright_any 10 19 20 [] [] none 0 none 0 _ (RdP.nil _ _) (RdP.nil _ _) (by decide) (by decide)).mono ?_
  rw [exOrder]
  rintro e w10 ⟨rfl, hb10⟩
  obtain ⟨hc10, hf10⟩ := bcell hb10; have z10 := hb10.size; (try simp at z10); have g10 : Below w.heap.size w w10 := thru (by go_grown) hb10 (by first | omega | (simp; done) | (simp; omega)); (try have s10 : w.heap.size < w10.heap.size := by omega); (try have t10_a1 : w.heap.size < w10.heap.size + 1 := by omega); (try have t1_10_a1 : w1.heap.size < w10.heap.size + 1 := by omega); (try have t2_10_a1 : w2.heap.size < w10.heap.size + 1 := by omega); (try have t3_10_a1 : w3.heap.size < w10.heap.size + 1 := by omega); (try have t4_10_a1 : w4.heap.size < w10.heap.size + 1 := by omega); (try have t5_10_a1 : w5.heap.size < w10.heap.size + 1 := by omega); (try have t6_10_a1 : w6.heap.size < w10.heap.size + 1 := by omega); (try have t7_10_a1 : w7.heap.size < w10.heap.size + 1 := by omega); (try have t8_10_a1 : w8.heap.size < w10.heap.size + 1 := by omega); (try have t9_10_a1 : w9.heap.size < w10.heap.size + 1 := by omega); (try have t10_a2 : w.heap.size < w10.heap.size + 1 + 1 := by omega); (try have t1_10_a2 : w1.heap.size < w10.heap.size + 1 + 1 := by omega); (try have t2_10_a2 : w2.heap.size < w10.heap.size + 1 + 1 := by omega); (try have t3_10_a2 : w3.heap.size < w10.heap.size + 1 + 1 := by omega); (try have t4_10_a2 : w4.heap.size < w10.heap.size + 1 + 1 := by omega); (try have t5_10_a2 : w5.heap.size < w10.heap.size + 1 + 1 := by omega); (try have t6_10_a2 : w6.heap.size < w10.heap.size + 1 + 1 := by omega); (try have t7_10_a2 : w7.heap.size < w10.heap.size + 1 + 1 := by omega); (try have t8_10_a2 : w8.heap.size < w10.heap.size + 1 + 1 := by omega); (try have t9_10_a2 : w9.heap.size < w10.heap.size + 1 + 1 := by omega); (try have s1_10 : w1.heap.size < w10.heap.size := by omega); (try have s2_10 : w2.heap.size < w10.heap.size := by omega); (try have s3_10 : w3.heap.size < w10.heap.size := by omega); (try have s4_10 : w4.heap.size < w10.heap.size := by omega); (try have s5_10 : w5.heap.size < w10.heap.size := by omega); (try have s6_10 : w6.heap.size < w10.heap.size := by omega); (try have s7_10 : w7.heap.size < w10.heap.size := by omega); (try have s8_10 : w8.heap.size < w10.heap.size := by omega); (try have s9_10 : w9.heap.size < w10.heap.size := by omega)
  go_wp2
  go_ret
  exact ⟨rfl, by go_grown⟩
end Go.Proofs.Ytlhbpnealboagaa
