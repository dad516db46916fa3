/-
  The walk of the examples of the chapter on fixed-point numbers: they hold.
-/
import Derived.Test.YtcfikdoejmgejaaDoorTextWalkD
import Derived.Test.YtcfikdoejmgejaaDoorFixWalkC
namespace Go.Proofs.YtcfikdoejmgejaaDoor
open Go.RowKit

theorem rdp_two {w : World} {g : Nat} {a b c d : Int} (hg : g < w.heap.size) (h0 : w.cell? ⟨g, 0, none⟩ = some (.int .i64 a)) (h1 : w.cell? ⟨g, 1, none⟩ = some (.int .i64 b)) (h2 : w.cell? ⟨g, 2, none⟩ = some (.int .i64 c)) (h3 : w.cell? ⟨g, 3, none⟩ = some (.int .i64 d)) : RdP w (some ⟨g, 0, none⟩) [(a, b), (c, d)] := fun _ => by
  refine ⟨g, 0, rfl, hg, fun i hi => ?_⟩
  match i, hi with
  | 0, _ => exact ⟨h0, h1⟩
  | 1, _ => exact ⟨h2, h3⟩
theorem dec_big {u : Nat} (h : ¬ u < 10) : Lib.decDigits u = Lib.decDigits (u / 10) ++ [UInt8.ofNat (48 + u % 10)] := by rw [Lib.decDigits, dif_neg h]
theorem dec_small {u : Nat} (h : u < 10) : Lib.decDigits u = [UInt8.ofNat (48 + u)] := by rw [Lib.decDigits, dif_pos h]
theorem exDiv : divE 1000 3000 = (333, 0) := by decide +kernel
theorem exRound : rndE 15 10 = (20, 0) := by decide +kernel
theorem exAdd : addE 1125899906842624 1 = (0, 12) := by decide +kernel
theorem exAt : Fix.atv [(0, 0), (10, -5)] 5 = -3 := by decide +kernel
theorem exPts : Fix.pts [(0, 0), (10, -5)] = true := by decide +kernel
theorem exParse : parseE [50, 46, 53] = (2500, 0) := by decide +kernel
theorem exMinus : parseE [45, 48] = (0, 3) := by decide +kernel
theorem exPrint : printL (-1500) = [45, 49, 46, 53, 48, 48] := by
  unfold printL
  rw [show (-1500 : Int).natAbs = 1500 from rfl, show 1500 / 1000 = 1 from rfl, show 1500 % 1000 = 500 from rfl, dec_small (by omega : 1 < 10), dec_big (by omega : ¬ 500 < 10), show 500 / 10 = 50 from rfl, dec_big (by omega : ¬ 50 < 10), show 50 / 10 = 5 from rfl, dec_small (by omega : 5 < 10), Lib.nDigits_big (by omega : ¬ 500 < 10), show 500 / 10 = 50 from rfl, Lib.nDigits_big (by omega : ¬ 50 < 10), show 50 / 10 = 5 from rfl, Lib.nDigits_small (by omega : 5 < 10)]
  decide +kernel

set_option maxHeartbeats 2000000 in
theorem alive_any (w : World) (hE : Env w) : Calls Tryd.prog 12 #[] w fun e w' => e = .returned (.bool true) ∧ Below w.heap.size w w' := by
  go_enter Tryd.func12, Tryd.ntmps12
  go_wp2_with fail
  refine (mul_small 2500 2500 6250000 _ (by omega) (by omega) (by decide)).mono ?_
  rw [show ((6250000 + 500) / 1000 : Nat) = 6250 from rfl]
  rintro e w1 ⟨rfl, hb1⟩
  have E1 := Lib.hid (hE.below hb1)
  obtain ⟨hc1, hf1⟩ := bcell hb1; have z1 := hb1.size; (try simp at z1); have g1 : Below w.heap.size w w1 := thru (by go_grown) hb1 (by first | omega | (simp; done) | (simp; omega)); (try have s1 : w.heap.size < w1.heap.size := by omega); (try have t1_a1 : w.heap.size < w1.heap.size + 1 := by omega); (try have t1_a2 : w.heap.size < w1.heap.size + 1 + 1 := by omega)
  go_wp2_with fail
  refine (div_any 1000 3000 _).mono ?_
  rw [exDiv]
  rintro e w2 ⟨rfl, rfl⟩
  go_wp2_with fail
  refine (ratio_small 7 3 2 _ (by omega) (by omega) (by omega) (by omega) (by decide) (by decide)).mono ?_
  rw [show (7 * 3 / 2 : Nat) = 10 from rfl]
  rintro e w2 ⟨rfl, hb2⟩
  have E2 := Lib.hid (E1.out.below hb2)
  obtain ⟨hc2, hf2⟩ := bcell hb2; have z2 := hb2.size; (try simp at z2); have g2 : Below w.heap.size w w2 := thru (by go_grown) hb2 (by first | omega | (simp; done) | (simp; omega)); (try have s2 : w.heap.size < w2.heap.size := by omega); (try have t2_a1 : w.heap.size < w2.heap.size + 1 := by omega); (try have t1_2_a1 : w1.heap.size < w2.heap.size + 1 := by omega); (try have t2_a2 : w.heap.size < w2.heap.size + 1 + 1 := by omega); (try have t1_2_a2 : w1.heap.size < w2.heap.size + 1 + 1 := by omega); (try have s1_2 : w1.heap.size < w2.heap.size := by omega)
  go_wp2_with fail
  refine (round_any 15 10 _).mono ?_
  rw [exRound]
  rintro e w3 ⟨rfl, rfl⟩
  go_wp2_with fail
  refine (fat_yes [(0, 0), (10, -5)] 5 (some ⟨w2.heap.size, 0, none⟩) 2 _ (rdp_two (by simp) (by simp [go_sem]) (by simp [go_sem]) (by simp [go_sem]) (by simp [go_sem])) exPts).mono ?_
  rw [exAt]
  rintro e w3 ⟨rfl, hb3⟩
  have E3 := Lib.hid ((E2.out.below ((Below.refl _ _).alloc (Nat.le_refl _) _)).below hb3)
  obtain ⟨hc3, hf3⟩ := bcell hb3; have z3 := hb3.size; (try simp at z3); have g3 : Below w.heap.size w w3 := thru (by go_grown) hb3 (by first | omega | (simp; done) | (simp; omega)); (try have s3 : w.heap.size < w3.heap.size := by omega); (try have t3_a1 : w.heap.size < w3.heap.size + 1 := by omega); (try have t1_3_a1 : w1.heap.size < w3.heap.size + 1 := by omega); (try have t2_3_a1 : w2.heap.size < w3.heap.size + 1 := by omega); (try have t3_a2 : w.heap.size < w3.heap.size + 1 + 1 := by omega); (try have t1_3_a2 : w1.heap.size < w3.heap.size + 1 + 1 := by omega); (try have t2_3_a2 : w2.heap.size < w3.heap.size + 1 + 1 := by omega); (try have s1_3 : w1.heap.size < w3.heap.size := by omega); (try have s2_3 : w2.heap.size < w3.heap.size := by omega)
  go_wp2_with fail
  refine (parse_any ⟨#[50, 46, 53]⟩ _ (by decide) E3.out).mono ?_
  rw [show (ByteArray.mk #[50, 46, 53]).data.toList = [50, 46, 53] from rfl, exParse]
  rintro e w4 ⟨rfl, hb4⟩
  have E4 := Lib.hid (E3.out.below hb4)
  obtain ⟨hc4, hf4⟩ := bcell hb4; have z4 := hb4.size; (try simp at z4); have g4 : Below w.heap.size w w4 := thru (by go_grown) hb4 (by first | omega | (simp; done) | (simp; omega)); (try have s4 : w.heap.size < w4.heap.size := by omega); (try have t4_a1 : w.heap.size < w4.heap.size + 1 := by omega); (try have t1_4_a1 : w1.heap.size < w4.heap.size + 1 := by omega); (try have t2_4_a1 : w2.heap.size < w4.heap.size + 1 := by omega); (try have t3_4_a1 : w3.heap.size < w4.heap.size + 1 := by omega); (try have t4_a2 : w.heap.size < w4.heap.size + 1 + 1 := by omega); (try have t1_4_a2 : w1.heap.size < w4.heap.size + 1 + 1 := by omega); (try have t2_4_a2 : w2.heap.size < w4.heap.size + 1 + 1 := by omega); (try have t3_4_a2 : w3.heap.size < w4.heap.size + 1 + 1 := by omega); (try have s1_4 : w1.heap.size < w4.heap.size := by omega); (try have s2_4 : w2.heap.size < w4.heap.size := by omega); (try have s3_4 : w3.heap.size < w4.heap.size := by omega)
  go_wp2_with fail
  refine (parse_any ⟨#[45, 48]⟩ _ (by decide) E4.out).mono ?_
  rw [show (ByteArray.mk #[45, 48]).data.toList = [45, 48] from rfl, exMinus]
  rintro e w5 ⟨rfl, hb5⟩
  have E5 := Lib.hid (E4.out.below hb5)
  obtain ⟨hc5, hf5⟩ := bcell hb5; have z5 := hb5.size; (try simp at z5); have g5 : Below w.heap.size w w5 := thru (by go_grown) hb5 (by first | omega | (simp; done) | (simp; omega)); (try have s5 : w.heap.size < w5.heap.size := by omega); (try have t5_a1 : w.heap.size < w5.heap.size + 1 := by omega); (try have t1_5_a1 : w1.heap.size < w5.heap.size + 1 := by omega); (try have t2_5_a1 : w2.heap.size < w5.heap.size + 1 := by omega); (try have t3_5_a1 : w3.heap.size < w5.heap.size + 1 := by omega); (try have t4_5_a1 : w4.heap.size < w5.heap.size + 1 := by omega); (try have t5_a2 : w.heap.size < w5.heap.size + 1 + 1 := by omega); (try have t1_5_a2 : w1.heap.size < w5.heap.size + 1 + 1 := by omega); (try have t2_5_a2 : w2.heap.size < w5.heap.size + 1 + 1 := by omega); (try have t3_5_a2 : w3.heap.size < w5.heap.size + 1 + 1 := by omega); (try have t4_5_a2 : w4.heap.size < w5.heap.size + 1 + 1 := by omega); (try have s1_5 : w1.heap.size < w5.heap.size := by omega); (try have s2_5 : w2.heap.size < w5.heap.size := by omega); (try have s3_5 : w3.heap.size < w5.heap.size := by omega); (try have s4_5 : w4.heap.size < w5.heap.size := by omega)
  go_wp2_with fail
  refine (add_any 1125899906842624 1 _).mono ?_
  rw [exAdd]
  rintro e w6 ⟨rfl, rfl⟩
  go_wp2_with fail
  refine (print_any (-1500) _ (by omega) (by omega) E5.out).mono ?_
  rw [exPrint]
  rintro e w6 ⟨t, rfl, ht, hb6⟩
  obtain rfl : t = ⟨#[45, 49, 46, 53, 48, 48]⟩ := by
    obtain ⟨d⟩ := t
    obtain ⟨l⟩ := d
    have h : l = [45, 49, 46, 53, 48, 48] := ht
    rw [h]
  obtain ⟨hc6, hf6⟩ := bcell hb6; have z6 := hb6.size; (try simp at z6); have g6 : Below w.heap.size w w6 := thru (by go_grown) hb6 (by first | omega | (simp; done) | (simp; omega)); (try have s6 : w.heap.size < w6.heap.size := by omega); (try have t6_a1 : w.heap.size < w6.heap.size + 1 := by omega); (try have t1_6_a1 : w1.heap.size < w6.heap.size + 1 := by omega); (try have t2_6_a1 : w2.heap.size < w6.heap.size + 1 := by omega); (try have t3_6_a1 : w3.heap.size < w6.heap.size + 1 := by omega); (try have t4_6_a1 : w4.heap.size < w6.heap.size + 1 := by omega); (try have t5_6_a1 : w5.heap.size < w6.heap.size + 1 := by omega); (try have t6_a2 : w.heap.size < w6.heap.size + 1 + 1 := by omega); (try have t1_6_a2 : w1.heap.size < w6.heap.size + 1 + 1 := by omega); (try have t2_6_a2 : w2.heap.size < w6.heap.size + 1 + 1 := by omega); (try have t3_6_a2 : w3.heap.size < w6.heap.size + 1 + 1 := by omega); (try have t4_6_a2 : w4.heap.size < w6.heap.size + 1 + 1 := by omega); (try have t5_6_a2 : w5.heap.size < w6.heap.size + 1 + 1 := by omega); (try have s1_6 : w1.heap.size < w6.heap.size := by omega); (try have s2_6 : w2.heap.size < w6.heap.size := by omega); (try have s3_6 : w3.heap.size < w6.heap.size := by omega); (try have s4_6 : w4.heap.size < w6.heap.size := by omega); (try have s5_6 : w5.heap.size < w6.heap.size := by omega)
  go_wp2
  go_ret
  exact ⟨rfl, by go_grown⟩
end Go.Proofs.YtcfikdoejmgejaaDoor
