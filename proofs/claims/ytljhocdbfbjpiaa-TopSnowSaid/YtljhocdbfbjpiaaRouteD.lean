/-
  The earliest start of a task.
-/
import Derived.Test.YtljhocdbfbjpiaaRouteC
namespace Go.Proofs.Ytljhocdbfbjpiaa
open Go.RowKit

theorem SP.lo {L : SL} {B : Nat} {w W : World} {t : RP} (h : SP L B w W t) : B ≤ W.heap.size := Nat.le_trans h.lp (Nat.le_of_lt h.f.zp)
/-- The greatest end of the shifts of a groomer. -/
def eA (s : Sh) (g m : Int) : Int := if s.g ≠ 0 ∧ s.g = g then max m s.t else m
def eE (p0 p1 : Sh) (g : Int) : Int := eA p1 g (eA p0 g 0)

set_option maxRecDepth 20000 in
set_option maxHeartbeats 4000000 in
theorem earliest_any (L : SL) (B : Nat) (w W : World) (t : RP) (i : Nat) (g : Int) (hi : i < 2) (hS : SP L B w W t) :
    Calls Try.prog 80 #[.pointer (some ⟨L.S, 0, none⟩), .int .i64 i, .int .i64 g] W fun e W' => e = .returned (.int .i64 (eE t.p0 t.p1 g)) ∧ Below W.heap.size W W' := by
  have HS := Lib.hid hS
  have s3 := hS.f.s3
  have zS := hS.f.zS
  obtain ⟨R, hR⟩ : ∃ R, R = eE t.p0 t.p1 g := ⟨_, rfl⟩
  rw [← hR]
  have HR := Lib.hid hR
  obtain ⟨M1, hM1⟩ : ∃ M, M = eA t.p0 g 0 := ⟨_, rfl⟩
  have HM1 := Lib.hid hM1
  have HR2 : Hid (R = eA t.p1 g M1) := Lib.hid (by rw [HR.out, HM1.out]; rfl)
  clear hR hM1 hS HR
  have hi2 : (i : Int) < 2 := by omega
  have hcl : ∃ rr kk, W.cell? ⟨L.cl, i, none⟩ = some (.slice (some ⟨rr, 0, none⟩) 2 kk) ∧ rr < W.heap.size ∧ W.cell? ⟨rr, 0, none⟩ = some (.bool false) ∧ W.cell? ⟨rr, 1, none⟩ = some (.bool false) := by
    obtain rfl | rfl : i = 0 ∨ i = 1 := by omega
    · exact ⟨L.r0, L.k0, HS.out.f.c0, HS.out.f.z0, HS.out.f.x00, HS.out.f.x01⟩
    · exact ⟨L.r1, L.k1, HS.out.f.c1, HS.out.f.z1, HS.out.f.x10, HS.out.f.x11⟩
  obtain ⟨rr, kk, hc1, hc2, hc3, hc4⟩ := hcl
  have HCL := Lib.hid (And.intro hc1 (And.intro hc2 (And.intro hc3 hc4)))
  clear hc1 hc2 hc3 hc4 hi
  go_enter Try.func80, Try.ntmps80
  go_wp2
  go_loopw [7, 15] (fun m j wr => ((j = .int .i64 0 ∧ m = .int .i64 0) ∨ (j = .int .i64 1 ∧ m = .int .i64 M1) ∨ (j = .int .i64 2 ∧ m = .int .i64 R)) ∧ Below W.heap.size W wr) (fun _ j _ => 2 - (intOf j).toNat)
  case atStart => exact ⟨.inl ⟨rfl, rfl⟩, Below.refl _ _⟩
  case round =>
    obtain ⟨hj, hb⟩ := hrel
    have HB := Lib.hid hb
    have HSR := Lib.hid (HS.out.on hb HS.out.lo)
    obtain ⟨hc1, hc2, hc3, hc4⟩ := HCL.out
    have d1 := (hb.cell (p := ⟨L.cl, i, none⟩) HS.out.f.zc).trans hc1
    have d3 := (hb.cell (p := ⟨rr, 0, none⟩) hc2).trans hc3
    have d4 := (hb.cell (p := ⟨rr, 1, none⟩) hc2).trans hc4
    have zr : rr < wr.heap.size := Nat.lt_of_lt_of_le hc2 hb.size
    have zc := HSR.out.f.zc
    have zp := HSR.out.f.zp
    have zS2 := HSR.out.f.zS
    have e2 := HSR.out.f.s2
    clear hb hc1 hc2 hc3 hc4 s3 zS
    rcases hj with ⟨rfl, rfl⟩ | ⟨rfl, rfl⟩ | ⟨rfl, rfl⟩
    · have q0 := HSR.out.v.p00
      have q1 := HSR.out.v.p01
      have q2 := HSR.out.v.p02
      have q3 := HSR.out.v.p03
      obtain ⟨G, hG⟩ : ∃ G, G = t.p0.g := ⟨_, rfl⟩
      obtain ⟨T, hT⟩ : ∃ T, T = t.p0.t := ⟨_, rfl⟩
      rw [← hG] at q0
      rw [← hT] at q3
      have hE : M1 = if G ≠ 0 ∧ G = g then max 0 T else 0 := by rw [HM1.out, hG, hT]; rfl
      have HE := Lib.hid hE
      clear hG hT hE
      by_cases hz : G = 0
      · have hn : (G != 0) = false := by rw [hz]; rfl
        have HF : Hid (M1 = 0) := Lib.hid (by rw [HE.out, if_neg (fun h => h.1 hz)])
        clear hz
        go_wp2
        go_roundw
        case rel => exact ⟨.inr (.inl ⟨by go_num, by rw [HF.out]⟩), thru HB.out (Joins.below_alloc1 _ _) HB.out.size⟩
        case measure => simp [intOf]
      · have hn : (G != 0) = true := bne_iff_ne.2 hz
        by_cases hg : G = g
        · have hg2 : (G == g) = true := beq_iff_eq.2 hg
          have HF : Hid (M1 = max 0 T) := Lib.hid (by rw [HE.out, if_pos ⟨hz, hg⟩])
          rcases Int.lt_or_le 0 T with hm | hm
          · have HF2 : Hid (M1 = T) := Lib.hid (by rw [HF.out]; omega)
            clear hz hg
            go_wp2
            go_roundw
            case rel => exact ⟨.inr (.inl ⟨by go_num, by rw [HF2.out]⟩), thru HB.out (Joins.below_alloc1 _ _) HB.out.size⟩
            case measure => simp [intOf]
          · have hm2 : ¬ 0 < T := by omega
            have HF2 : Hid (M1 = 0) := Lib.hid (by rw [HF.out]; omega)
            clear hz hg
            go_wp2
            go_roundw
            case rel => exact ⟨.inr (.inl ⟨by go_num, by rw [HF2.out]⟩), thru HB.out (Joins.below_alloc1 _ _) HB.out.size⟩
            case measure => simp [intOf]
        · have hg2 : (G == g) = false := beq_eq_false_iff_ne.2 hg
          have HF : Hid (M1 = 0) := Lib.hid (by rw [HE.out, if_neg (fun h => hg h.2)])
          clear hz hg
          go_wp2
          go_roundw
          case rel => exact ⟨.inr (.inl ⟨by go_num, by rw [HF.out]⟩), thru HB.out (Joins.below_alloc1 _ _) HB.out.size⟩
          case measure => simp [intOf]
    · have q0 := HSR.out.v.p10
      have q1 := HSR.out.v.p11
      have q2 := HSR.out.v.p12
      have q3 := HSR.out.v.p13
      obtain ⟨G, hG⟩ : ∃ G, G = t.p1.g := ⟨_, rfl⟩
      obtain ⟨T, hT⟩ : ∃ T, T = t.p1.t := ⟨_, rfl⟩
      rw [← hG] at q0
      rw [← hT] at q3
      have hE : R = if G ≠ 0 ∧ G = g then max M1 T else M1 := by rw [HR2.out, hG, hT]; rfl
      have HE := Lib.hid hE
      clear hG hT hE
      by_cases hz : G = 0
      · have hn : (G != 0) = false := by rw [hz]; rfl
        have HF : Hid (R = M1) := Lib.hid (by rw [HE.out, if_neg (fun h => h.1 hz)])
        clear hz
        go_wp2
        go_roundw
        case rel => exact ⟨.inr (.inr ⟨by go_num, by rw [HF.out]⟩), thru HB.out (Joins.below_alloc1 _ _) HB.out.size⟩
        case measure => simp [intOf]
      · have hn : (G != 0) = true := bne_iff_ne.2 hz
        by_cases hg : G = g
        · have hg2 : (G == g) = true := beq_iff_eq.2 hg
          have HF : Hid (R = max M1 T) := Lib.hid (by rw [HE.out, if_pos ⟨hz, hg⟩])
          rcases Int.lt_or_le M1 T with hm | hm
          · have HF2 : Hid (R = T) := Lib.hid (by rw [HF.out]; omega)
            clear hz hg
            go_wp2
            go_roundw
            case rel => exact ⟨.inr (.inr ⟨by go_num, by rw [HF2.out]⟩), thru HB.out (Joins.below_alloc1 _ _) HB.out.size⟩
            case measure => simp [intOf]
          · have hm2 : ¬ M1 < T := by omega
            have HF2 : Hid (R = M1) := Lib.hid (by rw [HF.out]; omega)
            clear hz hg
            go_wp2
            go_roundw
            case rel => exact ⟨.inr (.inr ⟨by go_num, by rw [HF2.out]⟩), thru HB.out (Joins.below_alloc1 _ _) HB.out.size⟩
            case measure => simp [intOf]
        · have hg2 : (G == g) = false := beq_eq_false_iff_ne.2 hg
          have HF : Hid (R = M1) := Lib.hid (by rw [HE.out, if_neg (fun h => hg h.2)])
          clear hz hg
          go_wp2
          go_roundw
          case rel => exact ⟨.inr (.inr ⟨by go_num, by rw [HF.out]⟩), thru HB.out (Joins.below_alloc1 _ _) HB.out.size⟩
          case measure => simp [intOf]
    · go_wp2
      go_ret
      exact ⟨rfl, HB.out⟩
end Go.Proofs.Ytljhocdbfbjpiaa
