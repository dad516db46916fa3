/-
  The walk of the law QueueSeats: one case.
-/
import Derived.Test.YthabkfmbdkgghaaQueueLawD
namespace Go.Proofs.Ythabkfmbdkgghaa
open Go.RowKit

set_option maxHeartbeats 8000000 in
theorem lawSeats_A (gs : List Int) (s k : Int) (A : Option Addr) (c : Nat) (w : World) (hr : Que.right gs s = true) (hk : 1 ≤ k) (hk' : k ≤ 16) (hR : Rd w A gs) (ys : List Int) (u b Ly L : Int) (hq : (ys, u, b) = Que.seat gs s k) (hy : Ly = Que.qlen ys u) (hL : L = Que.qlen gs s) (f8 : b = 0 ∧ L = 0 ∧ u = 0) : Calls Try.prog 6 #[qv A gs.length c s, .int .i64 k] w fun e w' => e = .returned (.bool true) ∧ Below w.heap.size w w' := by
  obtain ⟨hry, f1, f2, f3, f4, f5, f6, f7, _, f9⟩ := seats_facts hr hk hk' hq hL hy
  have hgl := (Que.right_iff.1 hr).1
  have HS := Lib.hid f9
  have HY := Lib.hid hry
  have HQ := Lib.hid hq
  have HM := Lib.hid hy
  have HL := Lib.hid hL
  have HK := Lib.hid hk
  have HK' := Lib.hid hk'
  have HG := Lib.hid hgl
  have H6 := Lib.hid f6
  have H8 := Lib.hid f8
  have H3 := Lib.hid f3
  obtain ⟨g, hg⟩ : ∃ g : Nat, gs.length - ys.length = g := ⟨_, rfl⟩
  have HGG := Lib.hid hg
  have d1 : decide (b < 0) = false := decide_eq_false (by omega)
  have d2 : decide (k < b) = false := decide_eq_false (by omega)
  have d5 : IntKind.i64.wrap (Ly + b) = L := by rw [IntWalk.i64_in _ (by constructor <;> omega)]; exact f3
  have d6 : decide (gs.length < ys.length) = false := decide_eq_false (by omega)
  have d6i : decide ((gs.length : Int) < (ys.length : Int)) = false := decide_eq_false (by omega)
  have d7 : decide (s < u) = false := decide_eq_false (by omega)
  have dg : IntKind.i64.wrap ((gs.length : Int) - (ys.length : Int)) = (g : Int) := by rw [IntWalk.i64_in _ (by constructor <;> omega)]; omega
  have D := Lib.hid (And.intro d1 (And.intro d2 (And.intro d5 (And.intro d6 (And.intro d6i (And.intro d7 dg))))))
  clear hry hq hL hy f1 f2 f3 f4 f5 f6 f7 f8 f9 hgl hg d1 d2 d5 d6 d6i d7 dg
  have HR := Lib.hid hR
  have Hr := Lib.hid hr
  clear hR
  go_enter Try.func6, Try.ntmps6
  go_wp2_with fail
  refine (alive_any _).mono ?_
  rintro e w1 ⟨rfl, hb1⟩
  have HRD := Lib.hid ((HR.out.below (by go_grown)).below hb1)
  obtain ⟨hc1, hf1⟩ := bcell hb1; have z1 := hb1.size; (try simp at z1); have g1 : Below w.heap.size w w1 := thru (by go_grown) hb1 (by first | omega | (simp; done) | (simp; omega)); (try have s1 : w.heap.size < w1.heap.size := by omega); (try have t1_a1 : w.heap.size < w1.heap.size + 1 := by omega); (try have t1_a2 : w.heap.size < w1.heap.size + 1 + 1 := by omega)
  go_wp2_with fail
  refine (small_true _ _ _ _ _ (by have := (Que.right_iff.1 Hr.out).1; omega)).mono ?_
  rintro e w2 ⟨rfl, rfl⟩
  go_wp2_with fail
  refine (right_any gs s A c _ (HRD.out.below (by go_grown))).mono ?_
  rintro e w3 ⟨rfl, rfl⟩

  go_wp2_with fail
  refine (seat_any gs s k A c _ Hr.out HK.out HK'.out (HRD.out.below (by go_grown))).mono ?_
  intro e w5 h5
  obtain ⟨A5, c5, rfl, ho5, hb5⟩ := h5.unpack HQ.out
  have HRD5 := Lib.hid ((HRD.out.below (by go_grown)).below hb5)
  have HO5 := Lib.hid ho5.rd
  clear ho5 h5
  obtain ⟨hc5, hf5⟩ := bcell hb5; have z5 := hb5.size; (try simp at z5); have g5 : Below w.heap.size w w5 := thru (by go_grown) hb5 (by first | omega | (simp; done) | (simp; omega)); (try have s5 : w.heap.size < w5.heap.size := by omega); (try have t5_a1 : w.heap.size < w5.heap.size + 1 := by omega); (try have t1_5_a1 : w1.heap.size < w5.heap.size + 1 := by omega); (try have t2_5_a1 : w2.heap.size < w5.heap.size + 1 := by omega); (try have t3_5_a1 : w3.heap.size < w5.heap.size + 1 := by omega); (try have t4_5_a1 : w4.heap.size < w5.heap.size + 1 := by omega); (try have t5_a2 : w.heap.size < w5.heap.size + 1 + 1 := by omega); (try have t1_5_a2 : w1.heap.size < w5.heap.size + 1 + 1 := by omega); (try have t2_5_a2 : w2.heap.size < w5.heap.size + 1 + 1 := by omega); (try have t3_5_a2 : w3.heap.size < w5.heap.size + 1 + 1 := by omega); (try have t4_5_a2 : w4.heap.size < w5.heap.size + 1 + 1 := by omega); (try have t5_a3 : w.heap.size < w5.heap.size + 1 + 1 + 1 := by omega); (try have t1_5_a3 : w1.heap.size < w5.heap.size + 1 + 1 + 1 := by omega); (try have t2_5_a3 : w2.heap.size < w5.heap.size + 1 + 1 + 1 := by omega); (try have t3_5_a3 : w3.heap.size < w5.heap.size + 1 + 1 + 1 := by omega); (try have t4_5_a3 : w4.heap.size < w5.heap.size + 1 + 1 + 1 := by omega); (try have s5_p1 : w.heap.size + 1 < w5.heap.size := by omega); (try have s1_5_p1 : w1.heap.size + 1 < w5.heap.size := by omega); (try have s2_5_p1 : w2.heap.size + 1 < w5.heap.size := by omega); (try have s3_5_p1 : w3.heap.size + 1 < w5.heap.size := by omega); (try have s4_5_p1 : w4.heap.size + 1 < w5.heap.size := by omega); (try have s1_5 : w1.heap.size < w5.heap.size := by omega); (try have s2_5 : w2.heap.size < w5.heap.size := by omega); (try have s3_5 : w3.heap.size < w5.heap.size := by omega); (try have s4_5 : w4.heap.size < w5.heap.size := by omega)
  have k1 := hk
  have k2 := hk'
  have e1 : decide (k < 1) = false := decide_eq_false (by omega)
  have e2 : decide (16 < k) = false := decide_eq_false (by omega)
  obtain ⟨d1, d2, d5, d6, d6i, d7, dg⟩ := D.out
  go_wp2_with fail
  have c1 : (w5.alloc (.cells #[.slice A5 ys.length c5, .int .i64 u] 24)).cell? ⟨w.heap.size, 0, none⟩ = some (.slice A gs.length c) := by simp [go_sem, *]
  have c2 : (w5.alloc (.cells #[.slice A5 ys.length c5, .int .i64 u] 24)).cell? ⟨w.heap.size, 1, none⟩ = some (.int .i64 s) := by simp [go_sem, *]
  have c3 : (w5.alloc (.cells #[.slice A5 ys.length c5, .int .i64 u] 24)).cell? ⟨w5.heap.size, 0, none⟩ = some (.slice A5 ys.length c5) := by simp [go_sem, *]
  have c4 : (w5.alloc (.cells #[.slice A5 ys.length c5, .int .i64 u] 24)).cell? ⟨w5.heap.size, 1, none⟩ = some (.int .i64 u) := by simp [go_sem, *]
  have r1 := Lib.hid (HRD5.out.below (w' := (w5.alloc (.cells #[.slice A5 ys.length c5, .int .i64 u] 24))) (by go_grown))
  have r2 := Lib.hid (HO5.out.below (w' := (w5.alloc (.cells #[.slice A5 ys.length c5, .int .i64 u] 24))) (by go_grown))
  have q1 : w.heap.size < (w5.alloc (.cells #[.slice A5 ys.length c5, .int .i64 u] 24)).heap.size := by simp; omega
  have q2 : w5.heap.size < (w5.alloc (.cells #[.slice A5 ys.length c5, .int .i64 u] 24)).heap.size := by simp
  have q3 : Below w.heap.size w (w5.alloc (.cells #[.slice A5 ys.length c5, .int .i64 u] 24)) := by go_grown
  clear HRD HRD5 HO5 HR hc1 hf1 hb1 hc5 hf5 hb5 D
  generalize (w5.alloc (.cells #[.slice A5 ys.length c5, .int .i64 u] 24)) = W at *
  generalize w5.heap.size = D at *
  have q4 := q3
  clear z1 g1 s1 t1_a1 t1_a2 g5 k1 k2 e1 e2 z5 s5 t5_a1 t1_5_a1 t5_a2 t1_5_a2 t5_a3 t1_5_a3 s5_p1 s1_5_p1 s1_5 q4 hr hk' HQ
  have q11 : w.heap.size < W.heap.size + 1 := by omega
  have q12 : w.heap.size < W.heap.size + 1 + 1 := by omega
  have q13 : w.heap.size < W.heap.size + 1 + 1 + 1 := by omega
  have q21 : D < W.heap.size + 1 := by omega
  have q22 : D < W.heap.size + 1 + 1 := by omega
  have q23 : D < W.heap.size + 1 + 1 + 1 := by omega
  obtain ⟨rfl, rfl, rfl⟩ := H8.out
  · obtain rfl : Ly = 0 := by have := H3.out; omega
    refine wp_region_noPanic ?_
    refine wp_region_held_drew (S := (fun w' => w'.cell? ⟨w.heap.size, 0, none⟩ = some (.slice A gs.length c) ∧ w'.cell? ⟨w.heap.size, 1, none⟩ = some (.int .i64 s) ∧ w'.cell? ⟨D, 0, none⟩ = some (.slice A5 ys.length c5) ∧ w'.cell? ⟨D, 1, none⟩ = some (.int .i64 0))) (by kernel_rfl) ?_ (fun hHeld => ?_)
    · (try dsimp only); exact ⟨c1, c2, c3, c4⟩
    refine wpAnyH_take (i := 0) (oi := ?oi0) (v := ?v0) ?hi0 ?ha0 ?hb0 ?hc0 (fun _ _ _ h => h) (Or.inl ⟨?hw0, ?hy0⟩) (by assumption) ?rest0
    case hi0 => simp only [List.getElem?_toArray, List.getElem?_cons_zero]; rfl
    case ha0 => kernel_rfl
    case hb0 => kernel_rfl
    case hc0 => kernel_rfl
    case hw0 => kernel_rfl
    case hy0 => intro w hSw; (try dsimp only at hSw); go_simp; (try with_reducible rfl)
    (try simp only [Act.put, List.setIfInBounds_toArray, List.set_cons_zero, List.set_cons_succ])
    refine wpAnyH_ready (rs := [1]) (by kernel_rfl) (by simp) ?_
    refine AllReadyH.cons rfl (fun K hK => ?_) AllReadyH.nil
    go_simp
    go_at_call 12; refine (right_any ys 0 A5 c5 _ (r2.out.below (by go_grown))).mono ?_; rw [HY.out]; rintro e w2 ⟨rfl, rfl⟩
    go_wp2_with fail
    refine hK.out _ _ ?_ (fun hHeld => ?_)
    · (try dsimp only); simp [go_sem, c1, c2, c3, c4, q1, q2]
    clear hK K
    (try simp only [Act.put, List.setIfInBounds_toArray, List.set_cons_zero, List.set_cons_succ])
    refine wpAnyH_take (i := 2) (oi := ?oi2) (v := ?v2) ?hi2 ?ha2 ?hb2 ?hc2 (fun _ _ _ h => h) (Or.inl ⟨?hw2, ?hy2⟩) (by assumption) ?rest2
    case hi2 => simp only [List.getElem?_toArray, List.getElem?_cons_succ, List.getElem?_cons_zero]; rfl
    case ha2 => kernel_rfl
    case hb2 => kernel_rfl
    case hc2 => kernel_rfl
    case hw2 => kernel_rfl
    case hy2 => intro w hSw; (try dsimp only at hSw); go_simp; (try with_reducible rfl)
    (try simp only [Act.put, List.setIfInBounds_toArray, List.set_cons_zero, List.set_cons_succ])
    refine wpAnyH_take (i := 3) (oi := ?oi3) (v := ?v3) ?hi3 ?ha3 ?hb3 ?hc3 (fun _ _ _ h => h) (Or.inl ⟨?hw3, ?hy3⟩) (by assumption) ?rest3
    case hi3 => simp only [List.getElem?_toArray, List.getElem?_cons_succ, List.getElem?_cons_zero]; rfl
    case ha3 => kernel_rfl
    case hb3 => kernel_rfl
    case hc3 => kernel_rfl
    case hw3 => kernel_rfl
    case hy3 => intro w hSw; (try dsimp only at hSw); go_simp; (try with_reducible rfl)
    (try simp only [Act.put, List.setIfInBounds_toArray, List.set_cons_zero, List.set_cons_succ])
    refine wpAnyH_take (i := 4) (oi := ?oi4) (v := ?v4) ?hi4 ?ha4 ?hb4 ?hc4 (fun _ _ _ h => h) (Or.inl ⟨?hw4, ?hy4⟩) (by assumption) ?rest4
    case hi4 => simp only [List.getElem?_toArray, List.getElem?_cons_succ, List.getElem?_cons_zero]; rfl
    case ha4 => kernel_rfl
    case hb4 => kernel_rfl
    case hc4 => kernel_rfl
    case hw4 => kernel_rfl
    case hy4 => intro w hSw; (try dsimp only at hSw); go_simp; (try with_reducible rfl)
    (try simp only [Act.put, List.setIfInBounds_toArray, List.set_cons_zero, List.set_cons_succ])
    refine wpAnyH_take (i := 5) (oi := ?oi5) (v := ?v5) ?hi5 ?ha5 ?hb5 ?hc5 (fun _ _ _ h => h) (Or.inl ⟨?hw5, ?hy5⟩) (by assumption) ?rest5
    case hi5 => simp only [List.getElem?_toArray, List.getElem?_cons_succ, List.getElem?_cons_zero]; rfl
    case ha5 => kernel_rfl
    case hb5 => kernel_rfl
    case hc5 => kernel_rfl
    case hw5 => kernel_rfl
    case hy5 => intro w hSw; (try dsimp only at hSw); go_simp; (try with_reducible rfl)
    (try simp only [Act.put, List.setIfInBounds_toArray, List.set_cons_zero, List.set_cons_succ])
    refine wpAnyH_take (i := 6) (oi := ?oi6) (v := ?v6) ?hi6 ?ha6 ?hb6 ?hc6 (fun _ _ _ h => h) (Or.inl ⟨?hw6, ?hy6⟩) (by assumption) ?rest6
    case hi6 => simp only [List.getElem?_toArray, List.getElem?_cons_succ, List.getElem?_cons_zero]; rfl
    case ha6 => kernel_rfl
    case hb6 => kernel_rfl
    case hc6 => kernel_rfl
    case hw6 => kernel_rfl
    case hy6 => intro w hSw; (try dsimp only at hSw); go_simp; (try with_reducible rfl)
    (try simp only [Act.put, List.setIfInBounds_toArray, List.set_cons_zero, List.set_cons_succ])
    refine wpAnyH_take (i := 7) (oi := ?oi7) (v := ?v7) ?hi7 ?ha7 ?hb7 ?hc7 (fun _ _ _ h => h) (Or.inl ⟨?hw7, ?hy7⟩) (by assumption) ?rest7
    case hi7 => simp only [List.getElem?_toArray, List.getElem?_cons_succ, List.getElem?_cons_zero]; rfl
    case ha7 => kernel_rfl
    case hb7 => kernel_rfl
    case hc7 => kernel_rfl
    case hw7 => kernel_rfl
    case hy7 => intro w hSw; (try dsimp only at hSw); go_simp; (try with_reducible rfl)
    (try simp only [Act.put, List.setIfInBounds_toArray, List.set_cons_zero, List.set_cons_succ])
    refine wpAnyH_take (i := 8) (oi := ?oi8) (v := ?v8) ?hi8 ?ha8 ?hb8 ?hc8 (fun _ _ _ h => h) (Or.inl ⟨?hw8, ?hy8⟩) (by assumption) ?rest8
    case hi8 => simp only [List.getElem?_toArray, List.getElem?_cons_succ, List.getElem?_cons_zero]; rfl
    case ha8 => kernel_rfl
    case hb8 => kernel_rfl
    case hc8 => kernel_rfl
    case hw8 => kernel_rfl
    case hy8 => intro w hSw; (try dsimp only at hSw); go_simp; (try with_reducible rfl)
    (try simp only [Act.put, List.setIfInBounds_toArray, List.set_cons_zero, List.set_cons_succ])
    refine wpAnyH_take (i := 9) (oi := ?oi9) (v := ?v9) ?hi9 ?ha9 ?hb9 ?hc9 (fun _ _ _ h => h) (Or.inl ⟨?hw9, ?hy9⟩) (by assumption) ?rest9
    case hi9 => simp only [List.getElem?_toArray, List.getElem?_cons_succ, List.getElem?_cons_zero]; rfl
    case ha9 => kernel_rfl
    case hb9 => kernel_rfl
    case hc9 => kernel_rfl
    case hw9 => kernel_rfl
    case hy9 => intro w hSw; (try dsimp only at hSw); go_simp; (try with_reducible rfl)
    (try simp only [Act.put, List.setIfInBounds_toArray, List.set_cons_zero, List.set_cons_succ])
    refine wpAnyH_take (i := 10) (oi := ?oi10) (v := ?v10) ?hi10 ?ha10 ?hb10 ?hc10 (fun _ _ _ h => h) (Or.inl ⟨?hw10, ?hy10⟩) (by assumption) ?rest10
    case hi10 => simp only [List.getElem?_toArray, List.getElem?_cons_succ, List.getElem?_cons_zero]; rfl
    case ha10 => kernel_rfl
    case hb10 => kernel_rfl
    case hc10 => kernel_rfl
    case hw10 => kernel_rfl
    case hy10 => intro w hSw; (try dsimp only at hSw); go_simp; (try with_reducible rfl)
    (try simp only [Act.put, List.setIfInBounds_toArray, List.set_cons_zero, List.set_cons_succ])
    refine wpAnyH_take (i := 11) (oi := ?oi11) (v := ?v11) ?hi11 ?ha11 ?hb11 ?hc11 (fun _ _ _ h => h) (Or.inl ⟨?hw11, ?hy11⟩) (by assumption) ?rest11
    case hi11 => simp only [List.getElem?_toArray, List.getElem?_cons_succ, List.getElem?_cons_zero]; rfl
    case ha11 => kernel_rfl
    case hb11 => kernel_rfl
    case hc11 => kernel_rfl
    case hw11 => kernel_rfl
    case hy11 => intro w hSw; (try dsimp only at hSw); go_simp; (try with_reducible rfl)
    (try simp only [Act.put, List.setIfInBounds_toArray, List.set_cons_zero, List.set_cons_succ])
    refine wpAnyH_take (i := 12) (oi := ?oi12) (v := ?v12) ?hi12 ?ha12 ?hb12 ?hc12 (fun _ _ _ h => h) (Or.inl ⟨?hw12, ?hy12⟩) (by assumption) ?rest12
    case hi12 => simp only [List.getElem?_toArray, List.getElem?_cons_succ, List.getElem?_cons_zero]; rfl
    case ha12 => kernel_rfl
    case hb12 => kernel_rfl
    case hc12 => kernel_rfl
    case hw12 => kernel_rfl
    case hy12 => intro w hSw; (try dsimp only at hSw); go_simp; (try with_reducible rfl)
    (try simp only [Act.put, List.setIfInBounds_toArray, List.set_cons_zero, List.set_cons_succ])
    refine wpAnyH_take (i := 13) (oi := ?oi13) (v := ?v13) ?hi13 ?ha13 ?hb13 ?hc13 (fun _ _ _ h => h) (Or.inl ⟨?hw13, ?hy13⟩) (by assumption) ?rest13
    case hi13 => simp only [List.getElem?_toArray, List.getElem?_cons_succ, List.getElem?_cons_zero]; rfl
    case ha13 => kernel_rfl
    case hb13 => kernel_rfl
    case hc13 => kernel_rfl
    case hw13 => kernel_rfl
    case hy13 => intro w hSw; (try dsimp only at hSw); go_simp; (try with_reducible rfl)
    (try simp only [Act.put, List.setIfInBounds_toArray, List.set_cons_zero, List.set_cons_succ])
    refine wpAnyH_take (i := 14) (oi := ?oi14) (v := ?v14) ?hi14 ?ha14 ?hb14 ?hc14 (fun _ _ _ h => h) (Or.inl ⟨?hw14, ?hy14⟩) (by assumption) ?rest14
    case hi14 => simp only [List.getElem?_toArray, List.getElem?_cons_succ, List.getElem?_cons_zero]; rfl
    case ha14 => kernel_rfl
    case hb14 => kernel_rfl
    case hc14 => kernel_rfl
    case hw14 => kernel_rfl
    case hy14 => intro w hSw; (try dsimp only at hSw); go_simp; (try with_reducible rfl)
    (try simp only [Act.put, List.setIfInBounds_toArray, List.set_cons_zero, List.set_cons_succ])
    refine wpAnyH_take (i := 15) (oi := ?oi15) (v := ?v15) ?hi15 ?ha15 ?hb15 ?hc15 (fun _ _ _ h => h) (Or.inl ⟨?hw15, ?hy15⟩) (by assumption) ?rest15
    case hi15 => simp only [List.getElem?_toArray, List.getElem?_cons_succ, List.getElem?_cons_zero]; rfl
    case ha15 => kernel_rfl
    case hb15 => kernel_rfl
    case hc15 => kernel_rfl
    case hw15 => kernel_rfl
    case hy15 => intro w hSw; (try dsimp only at hSw); go_simp; (try with_reducible rfl)
    (try simp only [Act.put, List.setIfInBounds_toArray, List.set_cons_zero, List.set_cons_succ])
    refine wpAnyH_take (i := 16) (oi := ?oi16) (v := ?v16) ?hi16 ?ha16 ?hb16 ?hc16 (fun _ _ _ h => h) (Or.inl ⟨?hw16, ?hy16⟩) (by assumption) ?rest16
    case hi16 => simp only [List.getElem?_toArray, List.getElem?_cons_succ, List.getElem?_cons_zero]; rfl
    case ha16 => kernel_rfl
    case hb16 => kernel_rfl
    case hc16 => kernel_rfl
    case hw16 => kernel_rfl
    case hy16 => intro w hSw; (try dsimp only at hSw); go_simp; (try with_reducible rfl)
    (try simp only [Act.put, List.setIfInBounds_toArray, List.set_cons_zero, List.set_cons_succ])
    refine wpAnyH_ready (rs := [17]) (by kernel_rfl) (by simp) ?_
    refine AllReadyH.cons rfl (fun K hK => ?_) AllReadyH.nil
    go_simp
    go_at_call 19; refine (length_any gs s A c _ (r1.out.below (by go_grown)) Hr.out).mono ?_; rw [← HL.out]; rintro e w2 ⟨rfl, rfl⟩
    go_wp2_with fail
    refine hK.out _ _ ?_ (fun hHeld => ?_)
    · (try dsimp only); simp [go_sem, c1, c2, c3, c4, q1, q2]
    clear hK K
    (try simp only [Act.put, List.setIfInBounds_toArray, List.set_cons_zero, List.set_cons_succ])
    refine wpAnyH_take (i := 18) (oi := ?oi18) (v := ?v18) ?hi18 ?ha18 ?hb18 ?hc18 (fun _ _ _ h => h) (Or.inl ⟨?hw18, ?hy18⟩) (by assumption) ?rest18
    case hi18 => simp only [List.getElem?_toArray, List.getElem?_cons_succ, List.getElem?_cons_zero]; rfl
    case ha18 => kernel_rfl
    case hb18 => kernel_rfl
    case hc18 => kernel_rfl
    case hw18 => kernel_rfl
    case hy18 => intro w hSw; (try dsimp only at hSw); go_simp; (try with_reducible rfl)
    (try simp only [Act.put, List.setIfInBounds_toArray, List.set_cons_zero, List.set_cons_succ])
    refine wpAnyH_take (i := 19) (oi := ?oi19) (v := ?v19) ?hi19 ?ha19 ?hb19 ?hc19 (fun _ _ _ h => h) (Or.inl ⟨?hw19, ?hy19⟩) (by assumption) ?rest19
    case hi19 => simp only [List.getElem?_toArray, List.getElem?_cons_succ, List.getElem?_cons_zero]; rfl
    case ha19 => kernel_rfl
    case hb19 => kernel_rfl
    case hc19 => kernel_rfl
    case hw19 => kernel_rfl
    case hy19 => intro w hSw; (try dsimp only at hSw); go_simp; (try with_reducible rfl)
    (try simp only [Act.put, List.setIfInBounds_toArray, List.set_cons_zero, List.set_cons_succ])
    refine wpAnyH_take (i := 20) (oi := ?oi20) (v := ?v20) ?hi20 ?ha20 ?hb20 ?hc20 (fun _ _ _ h => h) (Or.inl ⟨?hw20, ?hy20⟩) (by assumption) ?rest20
    case hi20 => simp only [List.getElem?_toArray, List.getElem?_cons_succ, List.getElem?_cons_zero]; rfl
    case ha20 => kernel_rfl
    case hb20 => kernel_rfl
    case hc20 => kernel_rfl
    case hw20 => kernel_rfl
    case hy20 => intro w hSw; (try dsimp only at hSw); go_simp; (try with_reducible rfl)
    (try simp only [Act.put, List.setIfInBounds_toArray, List.set_cons_zero, List.set_cons_succ])
    refine wpAnyH_take (i := 21) (oi := ?oi21) (v := ?v21) ?hi21 ?ha21 ?hb21 ?hc21 (fun _ _ _ h => h) (Or.inl ⟨?hw21, ?hy21⟩) (by assumption) ?rest21
    case hi21 => simp only [List.getElem?_toArray, List.getElem?_cons_succ, List.getElem?_cons_zero]; rfl
    case ha21 => kernel_rfl
    case hb21 => kernel_rfl
    case hc21 => kernel_rfl
    case hw21 => kernel_rfl
    case hy21 => intro w hSw; (try dsimp only at hSw); go_simp; (try with_reducible rfl)
    (try simp only [Act.put, List.setIfInBounds_toArray, List.set_cons_zero, List.set_cons_succ])
    refine wpAnyH_take (i := 22) (oi := ?oi22) (v := ?v22) ?hi22 ?ha22 ?hb22 ?hc22 (fun _ _ _ h => h) (Or.inl ⟨?hw22, ?hy22⟩) (by assumption) ?rest22
    case hi22 => simp only [List.getElem?_toArray, List.getElem?_cons_succ, List.getElem?_cons_zero]; rfl
    case ha22 => kernel_rfl
    case hb22 => kernel_rfl
    case hc22 => kernel_rfl
    case hw22 => kernel_rfl
    case hy22 => intro w hSw; (try dsimp only at hSw); go_simp; (try with_reducible rfl)
    (try simp only [Act.put, List.setIfInBounds_toArray, List.set_cons_zero, List.set_cons_succ])
    refine wpAnyH_take (i := 24) (oi := ?oi24) (v := ?v24) ?hi24 ?ha24 ?hb24 ?hc24 (fun _ _ _ h => h) (Or.inl ⟨?hw24, ?hy24⟩) (by assumption) ?rest24
    case hi24 => simp only [List.getElem?_toArray, List.getElem?_cons_succ, List.getElem?_cons_zero]; rfl
    case ha24 => kernel_rfl
    case hb24 => kernel_rfl
    case hc24 => kernel_rfl
    case hw24 => kernel_rfl
    case hy24 => intro w hSw; (try dsimp only at hSw); go_simp; (try with_reducible rfl)
    (try simp only [Act.put, List.setIfInBounds_toArray, List.set_cons_zero, List.set_cons_succ])
    refine wpAnyH_take (i := 26) (oi := ?oi26) (v := ?v26) ?hi26 ?ha26 ?hb26 ?hc26 (fun _ _ _ h => h) (Or.inl ⟨?hw26, ?hy26⟩) (by assumption) ?rest26
    case hi26 => simp only [List.getElem?_toArray, List.getElem?_cons_succ, List.getElem?_cons_zero]; rfl
    case ha26 => kernel_rfl
    case hb26 => kernel_rfl
    case hc26 => kernel_rfl
    case hw26 => kernel_rfl
    case hy26 => intro w hSw; (try dsimp only at hSw); go_simp; (try with_reducible rfl)
    (try simp only [Act.put, List.setIfInBounds_toArray, List.set_cons_zero, List.set_cons_succ])
    refine wpAnyH_ready (rs := [23]) (by kernel_rfl) (by simp) ?_
    refine AllReadyH.cons rfl (fun K hK => ?_) AllReadyH.nil
    go_simp
    go_at_call 19; refine (length_any ys 0 A5 c5 _ (r2.out.below (by go_grown)) HY.out).mono ?_; rw [← HM.out]; rintro e w2 ⟨rfl, rfl⟩
    go_wp2_with fail
    refine hK.out _ _ ?_ (fun hHeld => ?_)
    · (try dsimp only); simp [go_sem, c1, c2, c3, c4, q1, q2, q11, q21]
    clear hK K
    (try simp only [Act.put, List.setIfInBounds_toArray, List.set_cons_zero, List.set_cons_succ])
    refine wpAnyH_take (i := 25) (oi := ?oi25) (v := ?v25) ?hi25 ?ha25 ?hb25 ?hc25 (fun _ _ _ h => h) (Or.inl ⟨?hw25, ?hy25⟩) (by assumption) ?rest25
    case hi25 => simp only [List.getElem?_toArray, List.getElem?_cons_succ, List.getElem?_cons_zero]; rfl
    case ha25 => kernel_rfl
    case hb25 => kernel_rfl
    case hc25 => kernel_rfl
    case hw25 => kernel_rfl
    case hy25 => intro w hSw; (try dsimp only at hSw); go_simp; (try with_reducible rfl)
    (try simp only [Act.put, List.setIfInBounds_toArray, List.set_cons_zero, List.set_cons_succ])
    refine wpAnyH_ready (rs := [27]) (by kernel_rfl) (by simp) ?_
    refine AllReadyH.cons rfl (fun K hK => ?_) AllReadyH.nil
    go_simp
    go_at_call 19; refine (length_any gs s A c _ (r1.out.below (by go_grown)) Hr.out).mono ?_; rw [← HL.out]; rintro e w2 ⟨rfl, rfl⟩
    go_wp2_with fail
    refine hK.out _ _ ?_ (fun hHeld => ?_)
    · (try dsimp only); simp [go_sem, c1, c2, c3, c4, q1, q2, q11, q21, q12, q22]
    clear hK K
    (try simp only [Act.put, List.setIfInBounds_toArray, List.set_cons_zero, List.set_cons_succ])
    refine wpAnyH_take (i := 28) (oi := ?oi28) (v := ?v28) ?hi28 ?ha28 ?hb28 ?hc28 (fun _ _ _ h => h) (Or.inl ⟨?hw28, ?hy28⟩) (by assumption) ?rest28
    case hi28 => simp only [List.getElem?_toArray, List.getElem?_cons_succ, List.getElem?_cons_zero]; rfl
    case ha28 => kernel_rfl
    case hb28 => kernel_rfl
    case hc28 => kernel_rfl
    case hw28 => kernel_rfl
    case hy28 => intro w hSw; (try dsimp only at hSw); go_simp; (try with_reducible rfl)
    (try simp only [Act.put, List.setIfInBounds_toArray, List.set_cons_zero, List.set_cons_succ])
    refine wpAnyH_take (i := 29) (oi := ?oi29) (v := ?v29) ?hi29 ?ha29 ?hb29 ?hc29 (fun _ _ _ h => h) (Or.inl ⟨?hw29, ?hy29⟩) (by assumption) ?rest29
    case hi29 => simp only [List.getElem?_toArray, List.getElem?_cons_succ, List.getElem?_cons_zero]; rfl
    case ha29 => kernel_rfl
    case hb29 => kernel_rfl
    case hc29 => kernel_rfl
    case hw29 => kernel_rfl
    case hy29 => intro w hSw; (try dsimp only at hSw); go_simp; (try with_reducible rfl)
    (try simp only [Act.put, List.setIfInBounds_toArray, List.set_cons_zero, List.set_cons_succ])
    refine wpAnyH_take (i := 30) (oi := ?oi30) (v := ?v30) ?hi30 ?ha30 ?hb30 ?hc30 (fun _ _ _ h => h) (Or.inl ⟨?hw30, ?hy30⟩) (by assumption) ?rest30
    case hi30 => simp only [List.getElem?_toArray, List.getElem?_cons_succ, List.getElem?_cons_zero]; rfl
    case ha30 => kernel_rfl
    case hb30 => kernel_rfl
    case hc30 => kernel_rfl
    case hw30 => kernel_rfl
    case hy30 => intro w hSw; (try dsimp only at hSw); go_simp; (try with_reducible rfl)
    (try simp only [Act.put, List.setIfInBounds_toArray, List.set_cons_zero, List.set_cons_succ])
    refine wpAnyH_take (i := 31) (oi := ?oi31) (v := ?v31) ?hi31 ?ha31 ?hb31 ?hc31 (fun _ _ _ h => h) (Or.inl ⟨?hw31, ?hy31⟩) (by assumption) ?rest31
    case hi31 => simp only [List.getElem?_toArray, List.getElem?_cons_succ, List.getElem?_cons_zero]; rfl
    case ha31 => kernel_rfl
    case hb31 => kernel_rfl
    case hc31 => kernel_rfl
    case hw31 => kernel_rfl
    case hy31 => intro w hSw; (try dsimp only at hSw); go_simp; (try with_reducible rfl)
    (try simp only [Act.put, List.setIfInBounds_toArray, List.set_cons_zero, List.set_cons_succ])
    refine wpAnyH_take (i := 32) (oi := ?oi32) (v := ?v32) ?hi32 ?ha32 ?hb32 ?hc32 (fun _ _ _ h => h) (Or.inl ⟨?hw32, ?hy32⟩) (by assumption) ?rest32
    case hi32 => simp only [List.getElem?_toArray, List.getElem?_cons_succ, List.getElem?_cons_zero]; rfl
    case ha32 => kernel_rfl
    case hb32 => kernel_rfl
    case hc32 => kernel_rfl
    case hw32 => kernel_rfl
    case hy32 => intro w hSw; (try dsimp only at hSw); go_simp; (try with_reducible rfl)
    (try simp only [Act.put, List.setIfInBounds_toArray, List.set_cons_zero, List.set_cons_succ])
    refine wpAnyH_take (i := 33) (oi := ?oi33) (v := ?v33) ?hi33 ?ha33 ?hb33 ?hc33 (fun _ _ _ h => h) (Or.inl ⟨?hw33, ?hy33⟩) (by assumption) ?rest33
    case hi33 => simp only [List.getElem?_toArray, List.getElem?_cons_succ, List.getElem?_cons_zero]; rfl
    case ha33 => kernel_rfl
    case hb33 => kernel_rfl
    case hc33 => kernel_rfl
    case hw33 => kernel_rfl
    case hy33 => intro w hSw; (try dsimp only at hSw); go_simp; (try with_reducible rfl)
    (try simp only [Act.put, List.setIfInBounds_toArray, List.set_cons_zero, List.set_cons_succ])
    refine wpAnyH_take (i := 34) (oi := ?oi34) (v := ?v34) ?hi34 ?ha34 ?hb34 ?hc34 (fun _ _ _ h => h) (Or.inl ⟨?hw34, ?hy34⟩) (by assumption) ?rest34
    case hi34 => simp only [List.getElem?_toArray, List.getElem?_cons_succ, List.getElem?_cons_zero]; rfl
    case ha34 => kernel_rfl
    case hb34 => kernel_rfl
    case hc34 => kernel_rfl
    case hw34 => kernel_rfl
    case hy34 => intro w hSw; (try dsimp only at hSw); go_simp; (try with_reducible rfl)
    (try simp only [Act.put, List.setIfInBounds_toArray, List.set_cons_zero, List.set_cons_succ])
    refine wpAnyH_take (i := 35) (oi := ?oi35) (v := ?v35) ?hi35 ?ha35 ?hb35 ?hc35 (fun _ _ _ h => h) (Or.inl ⟨?hw35, ?hy35⟩) (by assumption) ?rest35
    case hi35 => simp only [List.getElem?_toArray, List.getElem?_cons_succ, List.getElem?_cons_zero]; rfl
    case ha35 => kernel_rfl
    case hb35 => kernel_rfl
    case hc35 => kernel_rfl
    case hw35 => kernel_rfl
    case hy35 => intro w hSw; (try dsimp only at hSw); go_simp; (try with_reducible rfl)
    (try simp only [Act.put, List.setIfInBounds_toArray, List.set_cons_zero, List.set_cons_succ])
    refine wpAnyH_take (i := 36) (oi := ?oi36) (v := ?v36) ?hi36 ?ha36 ?hb36 ?hc36 (fun _ _ _ h => h) (Or.inl ⟨?hw36, ?hy36⟩) (by assumption) ?rest36
    case hi36 => simp only [List.getElem?_toArray, List.getElem?_cons_succ, List.getElem?_cons_zero]; rfl
    case ha36 => kernel_rfl
    case hb36 => kernel_rfl
    case hc36 => kernel_rfl
    case hw36 => kernel_rfl
    case hy36 => intro w hSw; (try dsimp only at hSw); go_simp; (try with_reducible rfl)
    (try simp only [Act.put, List.setIfInBounds_toArray, List.set_cons_zero, List.set_cons_succ])
    refine wpAnyH_take (i := 37) (oi := ?oi37) (v := ?v37) ?hi37 ?ha37 ?hb37 ?hc37 (fun _ _ _ h => h) (Or.inl ⟨?hw37, ?hy37⟩) (by assumption) ?rest37
    case hi37 => simp only [List.getElem?_toArray, List.getElem?_cons_succ, List.getElem?_cons_zero]; rfl
    case ha37 => kernel_rfl
    case hb37 => kernel_rfl
    case hc37 => kernel_rfl
    case hw37 => kernel_rfl
    case hy37 => intro w hSw; (try dsimp only at hSw); go_simp; (try with_reducible rfl)
    (try simp only [Act.put, List.setIfInBounds_toArray, List.set_cons_zero, List.set_cons_succ])
    refine wpAnyH_take (i := 38) (oi := ?oi38) (v := ?v38) ?hi38 ?ha38 ?hb38 ?hc38 (fun _ _ _ h => h) (Or.inl ⟨?hw38, ?hy38⟩) (by assumption) ?rest38
    case hi38 => simp only [List.getElem?_toArray, List.getElem?_cons_succ, List.getElem?_cons_zero]; rfl
    case ha38 => kernel_rfl
    case hb38 => kernel_rfl
    case hc38 => kernel_rfl
    case hw38 => kernel_rfl
    case hy38 => intro w hSw; (try dsimp only at hSw); go_simp; (try with_reducible rfl)
    (try simp only [Act.put, List.setIfInBounds_toArray, List.set_cons_zero, List.set_cons_succ])
    refine wpAnyH_take (i := 39) (oi := ?oi39) (v := ?v39) ?hi39 ?ha39 ?hb39 ?hc39 (fun _ _ _ h => h) (Or.inl ⟨?hw39, ?hy39⟩) (by assumption) ?rest39
    case hi39 => simp only [List.getElem?_toArray, List.getElem?_cons_succ, List.getElem?_cons_zero]; rfl
    case ha39 => kernel_rfl
    case hb39 => kernel_rfl
    case hc39 => kernel_rfl
    case hw39 => kernel_rfl
    case hy39 => intro w hSw; (try dsimp only at hSw); go_simp; (try with_reducible rfl)
    (try simp only [Act.put, List.setIfInBounds_toArray, List.set_cons_zero, List.set_cons_succ])
    refine wpAnyH_take (i := 40) (oi := ?oi40) (v := ?v40) ?hi40 ?ha40 ?hb40 ?hc40 (fun _ _ _ h => h) (Or.inl ⟨?hw40, ?hy40⟩) (by assumption) ?rest40
    case hi40 => simp only [List.getElem?_toArray, List.getElem?_cons_succ, List.getElem?_cons_zero]; rfl
    case ha40 => kernel_rfl
    case hb40 => kernel_rfl
    case hc40 => kernel_rfl
    case hw40 => kernel_rfl
    case hy40 => intro w hSw; (try dsimp only at hSw); go_simp; (try with_reducible rfl)
    (try simp only [Act.put, List.setIfInBounds_toArray, List.set_cons_zero, List.set_cons_succ])
    refine wpAnyH_take (i := 41) (oi := ?oi41) (v := ?v41) ?hi41 ?ha41 ?hb41 ?hc41 (fun _ _ _ h => h) (Or.inl ⟨?hw41, ?hy41⟩) (by assumption) ?rest41
    case hi41 => simp only [List.getElem?_toArray, List.getElem?_cons_succ, List.getElem?_cons_zero]; rfl
    case ha41 => kernel_rfl
    case hb41 => kernel_rfl
    case hc41 => kernel_rfl
    case hw41 => kernel_rfl
    case hy41 => intro w hSw; (try dsimp only at hSw); go_simp; (try with_reducible rfl)
    (try simp only [Act.put, List.setIfInBounds_toArray, List.set_cons_zero, List.set_cons_succ])
    refine wpAnyH_take (i := 42) (oi := ?oi42) (v := ?v42) ?hi42 ?ha42 ?hb42 ?hc42 (fun _ _ _ h => h) (Or.inl ⟨?hw42, ?hy42⟩) (by assumption) ?rest42
    case hi42 => simp only [List.getElem?_toArray, List.getElem?_cons_succ, List.getElem?_cons_zero]; rfl
    case ha42 => kernel_rfl
    case hb42 => kernel_rfl
    case hc42 => kernel_rfl
    case hw42 => kernel_rfl
    case hy42 => intro w hSw; (try dsimp only at hSw); go_simp; (try with_reducible rfl)
    (try simp only [Act.put, List.setIfInBounds_toArray, List.set_cons_zero, List.set_cons_succ])
    refine wpAnyH_take (i := 43) (oi := ?oi43) (v := ?v43) ?hi43 ?ha43 ?hb43 ?hc43 (fun _ _ _ h => h) (Or.inl ⟨?hw43, ?hy43⟩) (by assumption) ?rest43
    case hi43 => simp only [List.getElem?_toArray, List.getElem?_cons_succ, List.getElem?_cons_zero]; rfl
    case ha43 => kernel_rfl
    case hb43 => kernel_rfl
    case hc43 => kernel_rfl
    case hw43 => kernel_rfl
    case hy43 => intro w hSw; (try dsimp only at hSw); go_simp; (try with_reducible rfl)
    (try simp only [Act.put, List.setIfInBounds_toArray, List.set_cons_zero, List.set_cons_succ])
    refine wpAnyH_take (i := 44) (oi := ?oi44) (v := ?v44) ?hi44 ?ha44 ?hb44 ?hc44 (fun _ _ _ h => h) (Or.inl ⟨?hw44, ?hy44⟩) (by assumption) ?rest44
    case hi44 => simp only [List.getElem?_toArray, List.getElem?_cons_succ, List.getElem?_cons_zero]; rfl
    case ha44 => kernel_rfl
    case hb44 => kernel_rfl
    case hc44 => kernel_rfl
    case hw44 => kernel_rfl
    case hy44 => intro w hSw; (try dsimp only at hSw); go_simp; (try with_reducible rfl)
    (try simp only [Act.put, List.setIfInBounds_toArray, List.set_cons_zero, List.set_cons_succ])
    refine wpAnyH_take (i := 45) (oi := ?oi45) (v := ?v45) ?hi45 ?ha45 ?hb45 ?hc45 (fun _ _ _ h => h) (Or.inl ⟨?hw45, ?hy45⟩) (by assumption) ?rest45
    case hi45 => simp only [List.getElem?_toArray, List.getElem?_cons_succ, List.getElem?_cons_zero]; rfl
    case ha45 => kernel_rfl
    case hb45 => kernel_rfl
    case hc45 => kernel_rfl
    case hw45 => kernel_rfl
    case hy45 => intro w hSw; (try dsimp only at hSw); go_simp; (try with_reducible rfl)
    set_option maxRecDepth 4000 in (try simp only [Act.put, List.setIfInBounds_toArray, List.set_cons_zero, List.set_cons_succ])
    refine wpAnyH_take (i := 46) (oi := ?oi46) (v := ?v46) ?hi46 ?ha46 ?hb46 ?hc46 (fun _ _ _ h => h) (Or.inl ⟨?hw46, ?hy46⟩) (by assumption) ?rest46
    case hi46 => simp only [List.getElem?_toArray, List.getElem?_cons_succ, List.getElem?_cons_zero]; rfl
    case ha46 => kernel_rfl
    case hb46 => kernel_rfl
    case hc46 => kernel_rfl
    case hw46 => kernel_rfl
    case hy46 => intro w hSw; (try dsimp only at hSw); go_simp; (try with_reducible rfl)
    set_option maxRecDepth 4000 in (try simp only [Act.put, List.setIfInBounds_toArray, List.set_cons_zero, List.set_cons_succ])
    refine wpAnyH_take (i := 47) (oi := ?oi47) (v := ?v47) ?hi47 ?ha47 ?hb47 ?hc47 (fun _ _ _ h => h) (Or.inl ⟨?hw47, ?hy47⟩) (by assumption) ?rest47
    case hi47 => simp only [List.getElem?_toArray, List.getElem?_cons_succ, List.getElem?_cons_zero]; rfl
    case ha47 => kernel_rfl
    case hb47 => kernel_rfl
    case hc47 => kernel_rfl
    case hw47 => kernel_rfl
    case hy47 => intro w hSw; (try dsimp only at hSw); go_simp; (try with_reducible rfl)
    set_option maxRecDepth 4000 in (try simp only [Act.put, List.setIfInBounds_toArray, List.set_cons_zero, List.set_cons_succ])
    refine wpAnyH_take (i := 48) (oi := ?oi48) (v := ?v48) ?hi48 ?ha48 ?hb48 ?hc48 (fun _ _ _ h => h) (Or.inl ⟨?hw48, ?hy48⟩) (by assumption) ?rest48
    case hi48 => simp only [List.getElem?_toArray, List.getElem?_cons_succ, List.getElem?_cons_zero]; rfl
    case ha48 => kernel_rfl
    case hb48 => kernel_rfl
    case hc48 => kernel_rfl
    case hw48 => kernel_rfl
    case hy48 => intro w hSw; (try dsimp only at hSw); go_simp; (try with_reducible rfl)
    set_option maxRecDepth 4000 in (try simp only [Act.put, List.setIfInBounds_toArray, List.set_cons_zero, List.set_cons_succ])
    refine wpAnyH_take (i := 49) (oi := ?oi49) (v := ?v49) ?hi49 ?ha49 ?hb49 ?hc49 (fun _ _ _ h => h) (Or.inl ⟨?hw49, ?hy49⟩) (by assumption) ?rest49
    case hi49 => simp only [List.getElem?_toArray, List.getElem?_cons_succ, List.getElem?_cons_zero]; rfl
    case ha49 => kernel_rfl
    case hb49 => kernel_rfl
    case hc49 => kernel_rfl
    case hw49 => kernel_rfl
    case hy49 => intro w hSw; (try dsimp only at hSw); go_simp; (try with_reducible rfl)
    set_option maxRecDepth 4000 in (try simp only [Act.put, List.setIfInBounds_toArray, List.set_cons_zero, List.set_cons_succ])
    refine wpAnyH_take (i := 50) (oi := ?oi50) (v := ?v50) ?hi50 ?ha50 ?hb50 ?hc50 (fun _ _ _ h => h) (Or.inl ⟨?hw50, ?hy50⟩) (by assumption) ?rest50
    case hi50 => simp only [List.getElem?_toArray, List.getElem?_cons_succ, List.getElem?_cons_zero]; rfl
    case ha50 => kernel_rfl
    case hb50 => kernel_rfl
    case hc50 => kernel_rfl
    case hw50 => kernel_rfl
    case hy50 => intro w hSw; (try dsimp only at hSw); go_simp; (try with_reducible rfl)
    set_option maxRecDepth 4000 in (try simp only [Act.put, List.setIfInBounds_toArray, List.set_cons_zero, List.set_cons_succ])
    refine wpAnyH_take (i := 51) (oi := ?oi51) (v := undef) ?hi51 ?ha51 ?hb51 ?hc51 (fun _ _ _ h => h) (Or.inr ⟨?hw51, rfl⟩) (by assumption) ?rest51
    case hi51 => simp only [List.getElem?_toArray, List.getElem?_cons_succ, List.getElem?_cons_zero]; rfl
    case ha51 => kernel_rfl
    case hb51 => kernel_rfl
    case hc51 => kernel_rfl
    case hw51 => kernel_rfl
    set_option maxRecDepth 4000 in (try simp only [Act.put, List.setIfInBounds_toArray, List.set_cons_zero, List.set_cons_succ])
    refine wpAnyH_take (i := 52) (oi := ?oi52) (v := undef) ?hi52 ?ha52 ?hb52 ?hc52 (fun _ _ _ h => h) (Or.inr ⟨?hw52, rfl⟩) (by assumption) ?rest52
    case hi52 => simp only [List.getElem?_toArray, List.getElem?_cons_succ, List.getElem?_cons_zero]; rfl
    case ha52 => kernel_rfl
    case hb52 => kernel_rfl
    case hc52 => kernel_rfl
    case hw52 => kernel_rfl
    set_option maxRecDepth 4000 in (try simp only [Act.put, List.setIfInBounds_toArray, List.set_cons_zero, List.set_cons_succ])
    refine wpAnyH_take (i := 53) (oi := ?oi53) (v := undef) ?hi53 ?ha53 ?hb53 ?hc53 (fun _ _ _ h => h) (Or.inr ⟨?hw53, rfl⟩) (by assumption) ?rest53
    case hi53 => simp only [List.getElem?_toArray, List.getElem?_cons_succ, List.getElem?_cons_zero]; rfl
    case ha53 => kernel_rfl
    case hb53 => kernel_rfl
    case hc53 => kernel_rfl
    case hw53 => kernel_rfl
    set_option maxRecDepth 4000 in (try simp only [Act.put, List.setIfInBounds_toArray, List.set_cons_zero, List.set_cons_succ])
    refine wpAnyH_take (i := 54) (oi := ?oi54) (v := ?v54) ?hi54 ?ha54 ?hb54 ?hc54 (fun _ _ _ h => h) (Or.inl ⟨?hw54, ?hy54⟩) (by assumption) ?rest54
    case hi54 => simp only [List.getElem?_toArray, List.getElem?_cons_succ, List.getElem?_cons_zero]; rfl
    case ha54 => kernel_rfl
    case hb54 => kernel_rfl
    case hc54 => kernel_rfl
    case hw54 => kernel_rfl
    case hy54 => intro w hSw; (try dsimp only at hSw); go_simp; (try with_reducible rfl)
    set_option maxRecDepth 4000 in (try simp only [Act.put, List.setIfInBounds_toArray, List.set_cons_zero, List.set_cons_succ])
    refine wpAnyH_take (i := 55) (oi := ?oi55) (v := ?v55) ?hi55 ?ha55 ?hb55 ?hc55 (fun _ _ _ h => h) (Or.inl ⟨?hw55, ?hy55⟩) (by assumption) ?rest55
    case hi55 => simp only [List.getElem?_toArray, List.getElem?_cons_succ, List.getElem?_cons_zero]; rfl
    case ha55 => kernel_rfl
    case hb55 => kernel_rfl
    case hc55 => kernel_rfl
    case hw55 => kernel_rfl
    case hy55 => intro w hSw; (try dsimp only at hSw); go_simp; (try with_reducible rfl)
    set_option maxRecDepth 4000 in (try simp only [Act.put, List.setIfInBounds_toArray, List.set_cons_zero, List.set_cons_succ])
    refine wpAnyH_done (by kernel_rfl) ?_ _
    refine NoPanic.normal ?_
    go_wp2
    go_loopw [9] (SeatsRel gs ys s 0 A A5 c c5 w.heap.size D w) (fun i _ => ys.length - (intOf i).toNat)
    case atStart => exact ⟨0, Nat.zero_le _, rfl, by simp [go_sem, c1, q1, q11, q12, q13], by simp [go_sem, c2, q1, q11, q12, q13], by simp [go_sem, c3, q2, q21, q22, q23], by simp [go_sem, c4, q2, q21, q22, q23], r1.out.below (by go_grown), r2.out.below (by go_grown), by simp; omega, by simp; omega, by go_grown⟩
    case round =>
      obtain ⟨j, hj, rfl, a1, a2, a3, a4, b1, b2, b3, b4, b5⟩ := hrel
      by_cases hlt : j < ys.length
      · have E := HS.out j hlt
        rw [HGG.out] at E
        have hgj : g + j < gs.length := by have := HGG.out; have := H6.out; omega
        have wn : IntKind.i64.wrap ((g : Int) + (j : Int)) = ((g + j : Nat) : Int) := by rw [IntWalk.i64_in _ (by have := HG.out; constructor <;> omega)]; omega
        obtain ⟨bb, off, rfl, hbb, hcell⟩ := b2.at_ hlt
        obtain ⟨ba, ofa, rfl, hba, hcella⟩ := b1.at_ hgj
        have c0 := b2.at_ (i := 0) (by omega)
        have c0' := b1.at_ (i := 0) (by omega)
        have B1 := Lib.hid b1
        have B2 := Lib.hid b2
        clear b1 b2
        rcases E with E | ⟨rfl, hg0, E⟩
        · rw [E] at hcell
          generalize gs[g + j]?.getD 0 = x at *
          clear E c0 c0'
          have HLT := Lib.hid hlt
          have hjb : (j : Int) + 1 ≤ 1000 := by have := HG.out; have := H6.out; omega
          have HB := Lib.hid (show (j : Int) + 1 ≤ 1000 by have := HG.out; have := H6.out; omega)
          generalize g + j = n at *
          go_wp2
          go_quiet (fail)
          go_wp2
          go_roundw
          case rel => exact ⟨j + 1, HLT.out, (by have := HB.out; go_num), by simp [go_sem, a1], by simp [go_sem, a2], by simp [go_sem, a3], by simp [go_sem, a4], B1.out.below (Joins.below_draws _ _ _), B2.out.below (Joins.below_draws _ _ _), by simpa using b3, by simpa using b4, b5.trans ((Joins.below_draws _ _ _).mono (Nat.le_of_lt b3))⟩
          case measure => have := HLT.out; have := HB.out; simp [intOf]; omega
        · subst hg0
          simp only [Nat.add_zero] at hcell hcella
          rw [E] at hcell
          have hx : (1 : Int) ≤ gs[0]?.getD 0 ∧ gs[0]?.getD 0 ≤ (16 : Int) := by
            have hm : gs[0]?.getD (0 : Int) ∈ gs := by
              rw [List.getElem?_eq_getElem (show 0 < gs.length by omega)]
              exact List.getElem_mem _
            exact (Que.right_iff.1 Hr.out).2.2.2 _ hm
          clear E c0 c0'
          generalize gs[0]?.getD 0 = x at *
          obtain ⟨y, hy⟩ : ∃ y, y = x - k := ⟨_, rfl⟩
          have hxk : IntKind.i64.wrap (x - k) = y := by rw [hy]; exact IntWalk.i64_in _ (by have := HK'.out; constructor <;> omega)
          have hn1 : (y == x) = false := beq_eq_false_iff_ne.2 (by omega)
          have hn2 : (y != x) = true := bne_iff_ne.2 (by omega)
          rw [← hy] at hcell
          clear hy
          have HLT := Lib.hid hlt
          go_wp2
          go_quiet (fail)
          go_wp2
          go_roundw
          case rel => exact ⟨1, HLT.out, by go_num, by simp [go_sem, a1], by simp [go_sem, a2], by simp [go_sem, a3], by simp [go_sem, a4], B1.out.below (Joins.below_draws _ _ _), B2.out.below (Joins.below_draws _ _ _), by simpa using b3, by simpa using b4, b5.trans ((Joins.below_draws _ _ _).mono (Nat.le_of_lt b3))⟩
          case measure => have := HLT.out; simp [intOf]; omega
      · have hke : j = ys.length := by omega
        have HKE := Lib.hid hke
        clear hke
        go_wp2
        go_ret
        exact ⟨rfl, by go_grown⟩

end Go.Proofs.Ythabkfmbdkgghaa
