/-
  The walk of the division of 128 bits by 64.
-/
import Derived.Test.YtcfikdoejmgejaaDoorFixAlive
import Derived.Test.YtcfikdoejmgejaaDoorDivPlain
import Derived.Laws.Bits64b
namespace Go.Proofs.YtcfikdoejmgejaaDoor
open Go.RowKit

/-- A quotient and some rest. -/
def QuoP (q : Nat) (w : World) (e : Ending) (w' : World) : Prop := ∃ r : Int, e = .returned (.tuple #[.int .u64 (q : Int), .int .u64 r]) ∧ Below w.heap.size w w'

/-- What holds at the head of a loop. -/
def LoopR (a b u d : Nat) (s t : Value) : Prop := ∃ q r : Nat, s = .int .u64 (q : Int) ∧ t = .int .u64 (r : Int) ∧ Dv.Est a b u d q r ∧ r < 4294967296
theorem wN (a : Nat) (ha : a < 18446744073709551616) : IntKind.u64.wrap (a : Int) = (a : Int) := Mul64.wrapN a ha

set_option maxRecDepth 20000 in
set_option maxHeartbeats 16000000 in
theorem div64_any (hi lo y : Nat) (w : World) (hh : hi < y) (h1 : 1 ≤ hi) (hy2 : y ≤ 1125899906842624) (hlo : lo < 18446744073709551616) :
    Calls Tryd.prog 35 #[.int .u64 (hi : Int), .int .u64 (lo : Int), .int .u64 (y : Int)] w (QuoP ((hi * 18446744073709551616 + lo) / y) w) := by
  have hy0 : 0 < y := by omega
  obtain ⟨Q, hQ⟩ : ∃ Q, Q = (hi * 18446744073709551616 + lo) / y := ⟨_, rfl⟩
  rw [← hQ]
  have HQE := Lib.hid hQ
  have HQLT : Hid (Q < 18446744073709551616) := Lib.hid (by rw [hQ]; exact (Nat.div_lt_iff_lt_mul hy0).2 (by rw [Nat.mul_comm]; omega))
  clear hy0 hQ
  have hN := Dv.norm (hi := hi) (lo := lo) (y := y) (by omega) (by omega) hh hlo
  generalize hss : 64 - Lib.bitLen y = s at *
  generalize hYY : y * 2 ^ s = Y at *
  generalize huu : hi * 2 ^ s + lo / 2 ^ (64 - s) = u at *
  generalize hvv : lo * 2 ^ s % 18446744073709551616 = v at *
  have hs0 := hN.s0
  have hs1 := hN.s1
  have hlz : (64 : Int) - ((Lib.bitLen y : Nat) : Int) = (s : Int) := by omega
  have k1 : IntKind.u64.wrap ((y : Int) * 2 ^ s) = (Y : Int) := by
    have e : (y : Int) * 2 ^ s = ((y * 2 ^ s : Nat) : Int) := by simp
    rw [e, hYY]; exact wN _ hN.y2
  have k2 : IntKind.u64.wrap ((hi : Int) * 2 ^ s) = ((hi * 2 ^ s : Nat) : Int) := by
    have e : (hi : Int) * 2 ^ s = ((hi * 2 ^ s : Nat) : Int) := by simp
    rw [e]; exact wN _ hN.h2
  have k3 : (lo : Int) / 2 ^ (64 - s) = ((lo / 2 ^ (64 - s) : Nat) : Int) := by simp
  have k4 : bits .or .u64 ((hi * 2 ^ s : Nat) : Int) ((lo / 2 ^ (64 - s) : Nat) : Int) = (u : Int) := by
    rw [bits_or_u64_nat _ _ hN.h2 (by have := Nat.div_le_self lo (2 ^ (64 - s)); omega), hN.eo]
  have k5 : IntKind.u64.wrap ((lo : Int) * 2 ^ s) = (v : Int) := by
    have e : (lo : Int) * 2 ^ s = ((lo * 2 ^ s : Nat) : Int) := by simp
    rw [e, Mul64.wrapM, hvv]
  have hz1 : ((y : Int) == 0) = false := by rw [beq_eq_false_iff_ne]; omega
  have hz2 : ((hi : Int) == 0) = false := by rw [beq_eq_false_iff_ne]; omega
  have hcmp : (hi : Int) < (y : Int) := by omega
  have HN := Lib.hid hN
  have HSS := Lib.hid hss
  have HK := Lib.hid (And.intro k1 (And.intro k2 (And.intro k3 (And.intro k4 k5))))
  clear hN hYY huu hvv hss k1 k2 k3 k4 k5
  go_enter Tryd.func35, Tryd.ntmps35
  go_wp2_with fail
  refine (Tryd.bits_LeadingZeros64 _ _ (by omega) (by omega)).mono ?_
  rintro e w1 ⟨rfl, hw⟩
  rw [hw, Int.toNat_natCast, hlz]
  clear hw hlz
  have k0 : IntKind.u64.wrap (64 - (s : Int)) = ((64 - s : Nat) : Int) := by rw [IntKind.wrap_u64]; omega
  have k6 : IntKind.u64.wrap (s : Int) = (s : Int) := wN _ (by omega)
  have HLO := Lib.hid hlo
  have HY2 := Lib.hid hy2
  have HHH := Lib.hid hh
  clear hlo hy2 hh hcmp
  go_upto_region 9 with fail
  simp only [HK.out.1]
  go_upto_region 10 with fail
  simp only [Mul64.divN]
  go_upto_region 11 with fail
  simp only [Mul64.maskN Y HN.out.y2]
  go_upto_region 12 with fail
  simp only [HK.out.2.1, HK.out.2.2.1, HK.out.2.2.2.1]
  go_upto_region 13 with fail
  simp only [HK.out.2.2.2.2]
  go_upto_region 14 with fail
  simp only [Mul64.divN]
  go_upto_region 15 with fail
  simp only [Mul64.maskN v (by rw [HN.out.ev]; exact Nat.mod_lt _ (by decide))]
  have hY := HN.out.y2
  have hY1 := HN.out.y1
  have hu := HN.out.uY
  have hvl : v < 18446744073709551616 := by rw [HN.out.ev]; exact Nat.mod_lt _ (by decide)
  have HFIN : Hid (((u * 4294967296 + v / 4294967296) * 4294967296 + v % 4294967296) / Y = Q) := Lib.hid (by
    rw [HQE.out]
    have e1 : (u * 4294967296 + v / 4294967296) * 4294967296 + v % 4294967296 = u * 18446744073709551616 + v := by omega
    rw [e1, HN.out.all, HN.out.eY, Nat.mul_div_mul_right _ _ (Nat.two_pow_pos s)])
  have hYe : Y = Y / 4294967296 * 4294967296 + Y % 4294967296 := by omega
  have ha1 : 2147483648 ≤ Y / 4294967296 := by omega
  have ha2 : Y / 4294967296 < 4294967296 := by omega
  have hb : Y % 4294967296 < 4294967296 := by omega
  have hc : v / 4294967296 < 4294967296 := by omega
  have hd : v % 4294967296 < 4294967296 := by omega
  generalize Y / 4294967296 = a at *
  generalize Y % 4294967296 = b at *
  generalize v / 4294967296 = c at *
  generalize v % 4294967296 = d at *
  have HS := Lib.hid (And.intro hY (And.intro hY1 (And.intro hu (And.intro hYe (And.intro ha1 (And.intro ha2 (And.intro hb (And.intro hc hd))))))))
  have e0 : ((a : Int) == 0) = false := by rw [beq_eq_false_iff_ne]; omega
  have e1 : 0 < a := by omega
  have dq : IntKind.u64.wrap ((u : Int) / (a : Int)) = ((u / a : Nat) : Int) := by
    rw [← quoG]; exact wN _ (by have := Nat.div_le_self u a; omega)
  have dm : IntKind.u64.wrap (((u / a : Nat) : Int) * (a : Int)) = ((u / a * a : Nat) : Int) := by
    rw [Mul64.mulN]; exact wN _ (by have := Nat.div_mul_le_self u a; omega)
  have dr : IntKind.u64.wrap ((u : Int) - ((u / a * a : Nat) : Int)) = ((u % a : Nat) : Int) := by
    have h := Nat.div_add_mod u a
    rw [Nat.mul_comm] at h
    have h2 : (u : Int) - ((u / a * a : Nat) : Int) = ((u % a : Nat) : Int) := by omega
    rw [h2]; exact wN _ (by have := Nat.mod_lt u e1; omega)
  clear hY hY1 hu hvl hYe ha1 ha2 hb hc hd k0 k6 hs0 hs1 HK HLO HY2 HHH h1 hz1 hz2
  have HUY := Lib.hid HN.out.uY
  have HD := Lib.hid (And.intro dq (And.intro dm dr))
  clear dq dm dr
  go_upto_region 16 with fail
  simp only [HD.out.1]
  have HI := Lib.hid (Dv.est_init (a := a) (b := b) (u := u) (d := c) HS.out.2.2.2.2.1 HS.out.2.2.2.2.2.1 HS.out.2.2.2.2.2.2.1 (by have := HS.out; omega) HS.out.2.2.2.2.2.2.2.1)
  have HM := Lib.hid (Nat.mod_lt u e1)
  obtain ⟨q, hq⟩ : ∃ q, q = u / a := ⟨_, rfl⟩
  obtain ⟨r, hr⟩ : ∃ r, r = u % a := ⟨_, rfl⟩
  have HQ := Lib.hid hq
  have HR := Lib.hid hr
  clear hq hr
  have dm : IntKind.u64.wrap ((q : Int) * (a : Int)) = (q : Int) * (a : Int) := by rw [HQ.out, HD.out.2.1, Int.natCast_mul]
  have dr : IntKind.u64.wrap ((u : Int) - (q : Int) * (a : Int)) = (r : Int) := by rw [HQ.out, HR.out, ← HD.out.2.2, Int.natCast_mul]
  simp only [← HQ.out]
  go_wp2_with fail
  clear dm dr
  go_loop [15, 16] (fun s15 s16 => LoopR a b u c s15 s16) (fun s15 _ => (intOf s15).toNat)
  case atStart =>
    refine ⟨q, r, rfl, rfl, by rw [HQ.out, HR.out]; exact HI.out, ?_⟩
    rw [HR.out]
    exact Nat.lt_trans HM.out HS.out.2.2.2.2.2.1
  case round =>
    clear HQ HR HI HM
    obtain ⟨q, r, rfl, rfl, hest, hrl⟩ := hrel
    have HE := Lib.hid hest
    have q1 := hest.q1
    obtain ⟨_, _, _, hYe, ha1, ha2, hb, hc, hd⟩ := HS.out
    have hu : u < Y := HUY.out
    clear hest
    have hqb : q < 4294967296 → q * b < 18446744073709551616 := fun h => by
      have : q * b ≤ 4294967295 * 4294967295 := Nat.mul_le_mul (by omega) (by omega)
      omega
    by_cases T : 4294967296 ≤ q ∨ 4294967296 * r + c < q * b
    · obtain ⟨hq1, hest'⟩ := Dv.est_down HE.out (by rw [← hYe]; exact hu) (by omega) T
      obtain ⟨p, hp⟩ : ∃ p, q - 1 = p := ⟨_, rfl⟩
      rw [hp] at hest'
      have HE' := Lib.hid hest'
      have hp' : p < q := by omega
      have HPQ := Lib.hid hp'
      have HP1 : Hid (p ≤ 4294967296) := Lib.hid (by omega)
      have f4 : IntKind.u64.wrap ((q : Int) - 1) = (p : Int) := by
        have e : (q : Int) - 1 = (p : Int) := by omega
        rw [e]; exact wN _ (by omega)
      have f5 : IntKind.u64.wrap ((r : Int) + (a : Int)) = (r : Int) + (a : Int) := by
        rw [Mul64.addN]; exact wN _ (by omega)
      have hT : (4294967296 : Int) ≤ (q : Int) ∨ ((q : Int) < 4294967296 ∧ IntKind.u64.wrap ((q : Int) * (b : Int)) = (q : Int) * (b : Int) ∧ IntKind.u64.wrap (4294967296 * (r : Int)) = 4294967296 * (r : Int) ∧ IntKind.u64.wrap (4294967296 * (r : Int) + (c : Int)) = 4294967296 * (r : Int) + (c : Int) ∧ 4294967296 * (r : Int) + (c : Int) < (q : Int) * (b : Int)) := by
        rcases Nat.lt_or_ge q 4294967296 with h | h
        · have e2 : (q : Int) * (b : Int) = ((q * b : Nat) : Int) := by rw [Int.natCast_mul]
          have e3 : 4294967296 * (r : Int) = ((4294967296 * r : Nat) : Int) := by omega
          have e4 : 4294967296 * (r : Int) + (c : Int) = ((4294967296 * r + c : Nat) : Int) := by omega
          refine .inr ⟨by omega, ?_, ?_, ?_, ?_⟩
          · rw [e2]; exact wN _ (hqb h)
          · rw [e3]; exact wN _ (by omega)
          · rw [e4]; exact wN _ (by omega)
          · rw [e4, e2]
            rcases T with T | T
            · omega
            · exact Int.ofNat_lt.2 T
        · exact .inl (by omega)
      have hB : (r : Int) + (a : Int) < 4294967296 ∨ (4294967296 : Int) ≤ (r : Int) + (a : Int) := by omega
      have F4 := Lib.hid f4; have F5 := Lib.hid f5
      clear hqb T q1 hrl hest' hu hYe ha1 ha2 hb hc hd f4 f5 hq1 hp hp'
      rcases hB with u1 | u1
      · have V1 := Lib.hid (decide_eq_false (show ¬ (4294967296 : Int) ≤ (r : Int) + (a : Int) by omega))
        have U1 := Lib.hid u1
        clear u1
        rcases hT with t1 | ⟨t1, t2, t3, t4, t5⟩
        all_goals
          go_upto_region 18 with fail
          first | clear t1 t2 t3 t4 t5 | clear t1
          have f4 := F4.out; have f5 := F5.out
          have v1 := V1.out
          go_wp2_with fail
          go_round
          case rel => exact ⟨p, r + a, rfl, by rw [Int.natCast_add], HE'.out, by have := U1.out; omega⟩
          case measure => simp [intOf]; have := HPQ.out; omega
      · have V1 := Lib.hid (decide_eq_true u1)
        have U1 := Lib.hid u1
        clear u1
        rcases hT with t1 | ⟨t1, t2, t3, t4, t5⟩
        all_goals
          have HQF := Lib.hid (Dv.est_end (a := a) (b := b) HS.out.2.2.2.2.1 HS.out.2.2.2.2.2.2.1 HE'.out (.inr ⟨HP1.out, by have := U1.out; omega⟩))
          go_upto_region 18 with fail
          first | clear t1 t2 t3 t4 t5 | clear t1
          have f4 := F4.out; have f5 := F5.out
          have v1 := V1.out
          obtain ⟨QF, hQF⟩ : ∃ QF, QF = p := ⟨_, rfl⟩
          have HQ1 : Hid (QF = (u * 4294967296 + c) / Y) := Lib.hid (by rw [hQF, HS.out.2.2.2.1]; exact HQF.out)
          obtain ⟨R1, hR1⟩ : ∃ R1, R1 = (u * 4294967296 + c) % Y := ⟨_, rfl⟩
          have HR1 := Lib.hid hR1
          have hYp : 0 < Y := by have := HS.out.2.1; omega
          have hR1Y : R1 < Y := by rw [hR1]; exact Nat.mod_lt _ hYp
          have hdm : u * 4294967296 + c = QF * Y + R1 := by rw [HQ1.out, hR1]; exact (Nat.div_add_mod' _ _).symm
          have hY2 : Y < 18446744073709551616 := HS.out.1
          have g1 : IntKind.u64.wrap (IntKind.u64.wrap (IntKind.u64.wrap ((u : Int) * 4294967296) + (c : Int)) - IntKind.u64.wrap ((QF : Int) * (Y : Int))) = (R1 : Int) := by
            rw [IntKind.wrap_u64, IntKind.wrap_u64, IntKind.wrap_u64, IntKind.wrap_u64]
            have e : (QF : Int) * (Y : Int) = ((QF * Y : Nat) : Int) := by rw [Int.natCast_mul]
            rw [e]
            generalize QF * Y = p at *
            omega
          have e1 : 0 < a := by have := HS.out.2.2.2.2.1; omega
          have ea : a < 4294967296 := HS.out.2.2.2.2.2.1
          have dq : IntKind.u64.wrap ((R1 : Int) / (a : Int)) = ((R1 / a : Nat) : Int) := by
            rw [← quoG]; exact wN _ (by have := Nat.div_le_self R1 a; omega)
          have h3 := Nat.div_add_mod R1 a
          rw [Nat.mul_comm] at h3
          have hml := Nat.mod_lt R1 e1
          have HML := Lib.hid (Nat.lt_trans hml ea)
          have hI := Dv.est_init (a := a) (b := b) (u := R1) (d := d) HS.out.2.2.2.2.1 ea HS.out.2.2.2.2.2.2.1 (by rw [← HS.out.2.2.2.1]; exact hR1Y) HS.out.2.2.2.2.2.2.2.2
          generalize hq2 : R1 / a = q2 at *
          generalize hr2 : R1 % a = r2 at *
          have dm : IntKind.u64.wrap ((q2 : Int) * (a : Int)) = (q2 : Int) * (a : Int) := by
            rw [Mul64.mulN]; exact wN _ (by omega)
          have dr : IntKind.u64.wrap ((R1 : Int) - (q2 : Int) * (a : Int)) = (r2 : Int) := by
            have e : (R1 : Int) - (q2 : Int) * (a : Int) = (r2 : Int) := by rw [← Int.natCast_mul]; omega
            rw [e]; exact wN _ (by omega)
          have HI2 := Lib.hid hI
          have HUY2 := Lib.hid hR1Y
          have HD2 := Lib.hid (And.intro dq (And.intro dm dr))
          have HG := Lib.hid g1
          have hQFs := Lib.hid hQF
          clear hR1 hR1Y hdm hY2 g1 e1 ea dq h3 hml hI hq2 hr2 dm dr hYp HQF hQF HUY
          go_upto_region 21 with fail
          simp only [← hQFs.out]
          have g1 := HG.out
          go_upto_region 22 with fail
          clear g1
          have g2 := HD2.out.1
          go_upto_region 23 with fail
          clear g2
          have g3 := HD2.out.2.1
          have g4 := HD2.out.2.2
          go_wp2_with fail
          clear g3 g4
          have HUY := HUY2
          clear HUY2
          go_loop [18, 16] (fun s18 s16 => LoopR a b R1 d s18 s16) (fun s18 _ => (intOf s18).toNat)
          case atStart => exact ⟨q2, r2, rfl, rfl, HI2.out, HML.out⟩
          case round =>
            obtain ⟨q, r, rfl, rfl, hest, hrl⟩ := hrel
            have HE := Lib.hid hest
            have q1 := hest.q1
            obtain ⟨_, _, _, hYe, ha1, ha2, hb, hc, hd⟩ := HS.out
            have hu : R1 < Y := HUY.out
            clear hest
            have hqb : q < 4294967296 → q * b < 18446744073709551616 := fun h => by
              have : q * b ≤ 4294967295 * 4294967295 := Nat.mul_le_mul (by omega) (by omega)
              omega
            by_cases T : 4294967296 ≤ q ∨ 4294967296 * r + d < q * b
            · obtain ⟨hq1, hest'⟩ := Dv.est_down HE.out (by rw [← hYe]; exact hu) (by omega) T
              obtain ⟨p, hp⟩ : ∃ p, q - 1 = p := ⟨_, rfl⟩
              rw [hp] at hest'
              have HE' := Lib.hid hest'
              have hp' : p < q := by omega
              have HPQ := Lib.hid hp'
              have HP1 : Hid (p ≤ 4294967296) := Lib.hid (by omega)
              have f4 : IntKind.u64.wrap ((q : Int) - 1) = (p : Int) := by
                have e : (q : Int) - 1 = (p : Int) := by omega
                rw [e]; exact wN _ (by omega)
              have f5 : IntKind.u64.wrap ((r : Int) + (a : Int)) = (r : Int) + (a : Int) := by
                rw [Mul64.addN]; exact wN _ (by omega)
              have hT : (4294967296 : Int) ≤ (q : Int) ∨ ((q : Int) < 4294967296 ∧ IntKind.u64.wrap ((q : Int) * (b : Int)) = (q : Int) * (b : Int) ∧ IntKind.u64.wrap (4294967296 * (r : Int)) = 4294967296 * (r : Int) ∧ IntKind.u64.wrap (4294967296 * (r : Int) + (d : Int)) = 4294967296 * (r : Int) + (d : Int) ∧ 4294967296 * (r : Int) + (d : Int) < (q : Int) * (b : Int)) := by
                rcases Nat.lt_or_ge q 4294967296 with h | h
                · have e2 : (q : Int) * (b : Int) = ((q * b : Nat) : Int) := by rw [Int.natCast_mul]
                  have e3 : 4294967296 * (r : Int) = ((4294967296 * r : Nat) : Int) := by omega
                  have e4 : 4294967296 * (r : Int) + (d : Int) = ((4294967296 * r + d : Nat) : Int) := by omega
                  refine .inr ⟨by omega, ?_, ?_, ?_, ?_⟩
                  · rw [e2]; exact wN _ (hqb h)
                  · rw [e3]; exact wN _ (by omega)
                  · rw [e4]; exact wN _ (by omega)
                  · rw [e4, e2]
                    rcases T with T | T
                    · omega
                    · exact Int.ofNat_lt.2 T
                · exact .inl (by omega)
              have hB : (r : Int) + (a : Int) < 4294967296 ∨ (4294967296 : Int) ≤ (r : Int) + (a : Int) := by omega
              have F4 := Lib.hid f4; have F5 := Lib.hid f5
              clear hqb T q1 hrl hest' hu hYe ha1 ha2 hb hc hd f4 f5 hq1 hp hp'
              rcases hB with u1 | u1
              · have V1 := Lib.hid (decide_eq_false (show ¬ (4294967296 : Int) ≤ (r : Int) + (a : Int) by omega))
                have U1 := Lib.hid u1
                clear u1
                rcases hT with t1 | ⟨t1, t2, t3, t4, t5⟩
                all_goals
                  go_upto_region 25 with fail
                  first | clear t1 t2 t3 t4 t5 | clear t1
                  have f4 := F4.out; have f5 := F5.out
                  have v1 := V1.out
                  go_wp2_with fail
                  go_round
                  case rel => exact ⟨p, r + a, rfl, by rw [Int.natCast_add], HE'.out, by have := U1.out; omega⟩
                  case measure => simp [intOf]; have := HPQ.out; omega
              · have V1 := Lib.hid (decide_eq_true u1)
                have U1 := Lib.hid u1
                clear u1
                rcases hT with t1 | ⟨t1, t2, t3, t4, t5⟩
                all_goals
                  have HQF := Lib.hid (Dv.est_end (a := a) (b := b) HS.out.2.2.2.2.1 HS.out.2.2.2.2.2.2.1 HE'.out (.inr ⟨HP1.out, by have := U1.out; omega⟩))
                  go_upto_region 25 with fail
                  first | clear t1 t2 t3 t4 t5 | clear t1
                  have f4 := F4.out; have f5 := F5.out
                  have v1 := V1.out
                  have hq0 : p = (R1 * 4294967296 + d) / Y := by rw [HS.out.2.2.2.1]; exact HQF.out
                  have hsum : QF * 4294967296 + p = Q := by
                    rw [hq0, HQ1.out, HR1.out, Dv.two_digits (by have := HS.out.2.1; omega)]; exact HFIN.out
                  have hQ := HQLT.out
                  have j1 : IntKind.u64.wrap ((QF : Int) * 4294967296) = (QF : Int) * 4294967296 := by
                    have e : (QF : Int) * 4294967296 = ((QF * 4294967296 : Nat) : Int) := by omega
                    rw [e]; exact wN _ (by omega)
                  have j2 : IntKind.u64.wrap ((QF : Int) * 4294967296 + ((p : Nat) : Int)) = (Q : Int) := by
                    rw [← hsum]
                    have e : (QF : Int) * 4294967296 + ((p : Nat) : Int) = ((QF * 4294967296 + p : Nat) : Int) := by omega
                    rw [e]; exact wN _ (by omega)
                  have HJ := Lib.hid (And.intro j1 j2)
                  clear hsum hq0 hQ j1 j2
                  go_upto_region 28 with fail
                  have j1 := HJ.out.1
                  have j2 := HJ.out.2
                  go_wp2
                  go_ret2
                  exact ⟨_, rfl, Below.refl _ _⟩
            · have t1 : (q : Int) < 4294967296 := by omega
              have hq4 : q < 4294967296 := by omega
              have e2 : (q : Int) * (b : Int) = ((q * b : Nat) : Int) := by rw [Int.natCast_mul]
              have e3 : 4294967296 * (r : Int) = ((4294967296 * r : Nat) : Int) := by omega
              have e4 : 4294967296 * (r : Int) + (d : Int) = ((4294967296 * r + d : Nat) : Int) := by omega
              have t2 : IntKind.u64.wrap ((q : Int) * (b : Int)) = (q : Int) * (b : Int) := by rw [e2]; exact wN _ (hqb hq4)
              have t3 : IntKind.u64.wrap (4294967296 * (r : Int)) = 4294967296 * (r : Int) := by rw [e3]; exact wN _ (by omega)
              have t4 : IntKind.u64.wrap (4294967296 * (r : Int) + (d : Int)) = 4294967296 * (r : Int) + (d : Int) := by rw [e4]; exact wN _ (by omega)
              have t5 : (q : Int) * (b : Int) ≤ 4294967296 * (r : Int) + (d : Int) := by rw [e4, e2]; exact Int.ofNat_le.2 (by omega)
              have HQF := Lib.hid (Dv.est_end (a := a) (b := b) ha1 hb HE.out (.inl ⟨hq4, by omega⟩))
              have v1 : decide ((4294967296 : Int) ≤ (q : Int)) = false := decide_eq_false (by omega)
              have v2 : decide (4294967296 * (r : Int) + (d : Int) < (q : Int) * (b : Int)) = false := decide_eq_false (by omega)
              clear hqb T q1 hrl hu hYe ha1 ha2 hb hc hd e2 e3 e4 hq4 t1 t5
              have hq0 : q = (R1 * 4294967296 + d) / Y := by rw [HS.out.2.2.2.1]; exact HQF.out
              have hsum : QF * 4294967296 + q = Q := by
                rw [hq0, HQ1.out, HR1.out, Dv.two_digits (by have := HS.out.2.1; omega)]; exact HFIN.out
              have hQ := HQLT.out
              have j1 : IntKind.u64.wrap ((QF : Int) * 4294967296) = (QF : Int) * 4294967296 := by
                have e : (QF : Int) * 4294967296 = ((QF * 4294967296 : Nat) : Int) := by omega
                rw [e]; exact wN _ (by omega)
              have j2 : IntKind.u64.wrap ((QF : Int) * 4294967296 + ((q : Nat) : Int)) = (Q : Int) := by
                rw [← hsum]
                have e : (QF : Int) * 4294967296 + ((q : Nat) : Int) = ((QF * 4294967296 + q : Nat) : Int) := by omega
                rw [e]; exact wN _ (by omega)
              have HJ := Lib.hid (And.intro j1 j2)
              clear hsum hq0 hQ j1 j2
              go_upto_region 28 with fail
              have j1 := HJ.out.1
              have j2 := HJ.out.2
              go_wp2
              go_ret2
              exact ⟨_, rfl, Below.refl _ _⟩

    · have t1 : (q : Int) < 4294967296 := by omega
      have hq4 : q < 4294967296 := by omega
      have e2 : (q : Int) * (b : Int) = ((q * b : Nat) : Int) := by rw [Int.natCast_mul]
      have e3 : 4294967296 * (r : Int) = ((4294967296 * r : Nat) : Int) := by omega
      have e4 : 4294967296 * (r : Int) + (c : Int) = ((4294967296 * r + c : Nat) : Int) := by omega
      have t2 : IntKind.u64.wrap ((q : Int) * (b : Int)) = (q : Int) * (b : Int) := by rw [e2]; exact wN _ (hqb hq4)
      have t3 : IntKind.u64.wrap (4294967296 * (r : Int)) = 4294967296 * (r : Int) := by rw [e3]; exact wN _ (by omega)
      have t4 : IntKind.u64.wrap (4294967296 * (r : Int) + (c : Int)) = 4294967296 * (r : Int) + (c : Int) := by rw [e4]; exact wN _ (by omega)
      have t5 : (q : Int) * (b : Int) ≤ 4294967296 * (r : Int) + (c : Int) := by rw [e4, e2]; exact Int.ofNat_le.2 (by omega)
      have HQF := Lib.hid (Dv.est_end (a := a) (b := b) ha1 hb HE.out (.inl ⟨hq4, by omega⟩))
      have v1 : decide ((4294967296 : Int) ≤ (q : Int)) = false := decide_eq_false (by omega)
      have v2 : decide (4294967296 * (r : Int) + (c : Int) < (q : Int) * (b : Int)) = false := decide_eq_false (by omega)
      clear hqb T q1 hrl hu hYe ha1 ha2 hb hc hd e2 e3 e4 hq4 t1 t5
      obtain ⟨QF, hQF⟩ : ∃ QF, QF = q := ⟨_, rfl⟩
      have HQ1 : Hid (QF = (u * 4294967296 + c) / Y) := Lib.hid (by rw [hQF, HS.out.2.2.2.1]; exact HQF.out)
      obtain ⟨R1, hR1⟩ : ∃ R1, R1 = (u * 4294967296 + c) % Y := ⟨_, rfl⟩
      have HR1 := Lib.hid hR1
      have hYp : 0 < Y := by have := HS.out.2.1; omega
      have hR1Y : R1 < Y := by rw [hR1]; exact Nat.mod_lt _ hYp
      have hdm : u * 4294967296 + c = QF * Y + R1 := by rw [HQ1.out, hR1]; exact (Nat.div_add_mod' _ _).symm
      have hY2 : Y < 18446744073709551616 := HS.out.1
      have g1 : IntKind.u64.wrap (IntKind.u64.wrap (IntKind.u64.wrap ((u : Int) * 4294967296) + (c : Int)) - IntKind.u64.wrap ((QF : Int) * (Y : Int))) = (R1 : Int) := by
        rw [IntKind.wrap_u64, IntKind.wrap_u64, IntKind.wrap_u64, IntKind.wrap_u64]
        have e : (QF : Int) * (Y : Int) = ((QF * Y : Nat) : Int) := by rw [Int.natCast_mul]
        rw [e]
        generalize QF * Y = p at *
        omega
      have e1 : 0 < a := by have := HS.out.2.2.2.2.1; omega
      have ea : a < 4294967296 := HS.out.2.2.2.2.2.1
      have dq : IntKind.u64.wrap ((R1 : Int) / (a : Int)) = ((R1 / a : Nat) : Int) := by
        rw [← quoG]; exact wN _ (by have := Nat.div_le_self R1 a; omega)
      have h3 := Nat.div_add_mod R1 a
      rw [Nat.mul_comm] at h3
      have hml := Nat.mod_lt R1 e1
      have HML := Lib.hid (Nat.lt_trans hml ea)
      have hI := Dv.est_init (a := a) (b := b) (u := R1) (d := d) HS.out.2.2.2.2.1 ea HS.out.2.2.2.2.2.2.1 (by rw [← HS.out.2.2.2.1]; exact hR1Y) HS.out.2.2.2.2.2.2.2.2
      generalize hq2 : R1 / a = q2 at *
      generalize hr2 : R1 % a = r2 at *
      have dm : IntKind.u64.wrap ((q2 : Int) * (a : Int)) = (q2 : Int) * (a : Int) := by
        rw [Mul64.mulN]; exact wN _ (by omega)
      have dr : IntKind.u64.wrap ((R1 : Int) - (q2 : Int) * (a : Int)) = (r2 : Int) := by
        have e : (R1 : Int) - (q2 : Int) * (a : Int) = (r2 : Int) := by rw [← Int.natCast_mul]; omega
        rw [e]; exact wN _ (by omega)
      have HI2 := Lib.hid hI
      have HUY2 := Lib.hid hR1Y
      have HD2 := Lib.hid (And.intro dq (And.intro dm dr))
      have HG := Lib.hid g1
      have hQFs := Lib.hid hQF
      clear hR1 hR1Y hdm hY2 g1 e1 ea dq h3 hml hI hq2 hr2 dm dr hYp HQF hQF HUY
      go_upto_region 21 with fail
      simp only [← hQFs.out]
      have g1 := HG.out
      go_upto_region 22 with fail
      clear g1
      have g2 := HD2.out.1
      go_upto_region 23 with fail
      clear g2
      have g3 := HD2.out.2.1
      have g4 := HD2.out.2.2
      go_wp2_with fail
      clear g3 g4
      have HUY := HUY2
      clear HUY2
      go_loop [18, 16] (fun s18 s16 => LoopR a b R1 d s18 s16) (fun s18 _ => (intOf s18).toNat)
      case atStart => exact ⟨q2, r2, rfl, rfl, HI2.out, HML.out⟩
      case round =>
        obtain ⟨q, r, rfl, rfl, hest, hrl⟩ := hrel
        have HE := Lib.hid hest
        have q1 := hest.q1
        obtain ⟨_, _, _, hYe, ha1, ha2, hb, hc, hd⟩ := HS.out
        have hu : R1 < Y := HUY.out
        clear hest
        have hqb : q < 4294967296 → q * b < 18446744073709551616 := fun h => by
          have : q * b ≤ 4294967295 * 4294967295 := Nat.mul_le_mul (by omega) (by omega)
          omega
        by_cases T : 4294967296 ≤ q ∨ 4294967296 * r + d < q * b
        · obtain ⟨hq1, hest'⟩ := Dv.est_down HE.out (by rw [← hYe]; exact hu) (by omega) T
          obtain ⟨p, hp⟩ : ∃ p, q - 1 = p := ⟨_, rfl⟩
          rw [hp] at hest'
          have HE' := Lib.hid hest'
          have hp' : p < q := by omega
          have HPQ := Lib.hid hp'
          have HP1 : Hid (p ≤ 4294967296) := Lib.hid (by omega)
          have f4 : IntKind.u64.wrap ((q : Int) - 1) = (p : Int) := by
            have e : (q : Int) - 1 = (p : Int) := by omega
            rw [e]; exact wN _ (by omega)
          have f5 : IntKind.u64.wrap ((r : Int) + (a : Int)) = (r : Int) + (a : Int) := by
            rw [Mul64.addN]; exact wN _ (by omega)
          have hT : (4294967296 : Int) ≤ (q : Int) ∨ ((q : Int) < 4294967296 ∧ IntKind.u64.wrap ((q : Int) * (b : Int)) = (q : Int) * (b : Int) ∧ IntKind.u64.wrap (4294967296 * (r : Int)) = 4294967296 * (r : Int) ∧ IntKind.u64.wrap (4294967296 * (r : Int) + (d : Int)) = 4294967296 * (r : Int) + (d : Int) ∧ 4294967296 * (r : Int) + (d : Int) < (q : Int) * (b : Int)) := by
            rcases Nat.lt_or_ge q 4294967296 with h | h
            · have e2 : (q : Int) * (b : Int) = ((q * b : Nat) : Int) := by rw [Int.natCast_mul]
              have e3 : 4294967296 * (r : Int) = ((4294967296 * r : Nat) : Int) := by omega
              have e4 : 4294967296 * (r : Int) + (d : Int) = ((4294967296 * r + d : Nat) : Int) := by omega
              refine .inr ⟨by omega, ?_, ?_, ?_, ?_⟩
              · rw [e2]; exact wN _ (hqb h)
              · rw [e3]; exact wN _ (by omega)
              · rw [e4]; exact wN _ (by omega)
              · rw [e4, e2]
                rcases T with T | T
                · omega
                · exact Int.ofNat_lt.2 T
            · exact .inl (by omega)
          have hB : (r : Int) + (a : Int) < 4294967296 ∨ (4294967296 : Int) ≤ (r : Int) + (a : Int) := by omega
          have F4 := Lib.hid f4; have F5 := Lib.hid f5
          clear hqb T q1 hrl hest' hu hYe ha1 ha2 hb hc hd f4 f5 hq1 hp hp'
          rcases hB with u1 | u1
          · have V1 := Lib.hid (decide_eq_false (show ¬ (4294967296 : Int) ≤ (r : Int) + (a : Int) by omega))
            have U1 := Lib.hid u1
            clear u1
            rcases hT with t1 | ⟨t1, t2, t3, t4, t5⟩
            all_goals
              go_upto_region 25 with fail
              first | clear t1 t2 t3 t4 t5 | clear t1
              have f4 := F4.out; have f5 := F5.out
              have v1 := V1.out
              go_wp2_with fail
              go_round
              case rel => exact ⟨p, r + a, rfl, by rw [Int.natCast_add], HE'.out, by have := U1.out; omega⟩
              case measure => simp [intOf]; have := HPQ.out; omega
          · have V1 := Lib.hid (decide_eq_true u1)
            have U1 := Lib.hid u1
            clear u1
            rcases hT with t1 | ⟨t1, t2, t3, t4, t5⟩
            all_goals
              have HQF := Lib.hid (Dv.est_end (a := a) (b := b) HS.out.2.2.2.2.1 HS.out.2.2.2.2.2.2.1 HE'.out (.inr ⟨HP1.out, by have := U1.out; omega⟩))
              go_upto_region 25 with fail
              first | clear t1 t2 t3 t4 t5 | clear t1
              have f4 := F4.out; have f5 := F5.out
              have v1 := V1.out
              have hq0 : p = (R1 * 4294967296 + d) / Y := by rw [HS.out.2.2.2.1]; exact HQF.out
              have hsum : QF * 4294967296 + p = Q := by
                rw [hq0, HQ1.out, HR1.out, Dv.two_digits (by have := HS.out.2.1; omega)]; exact HFIN.out
              have hQ := HQLT.out
              have j1 : IntKind.u64.wrap ((QF : Int) * 4294967296) = (QF : Int) * 4294967296 := by
                have e : (QF : Int) * 4294967296 = ((QF * 4294967296 : Nat) : Int) := by omega
                rw [e]; exact wN _ (by omega)
              have j2 : IntKind.u64.wrap ((QF : Int) * 4294967296 + ((p : Nat) : Int)) = (Q : Int) := by
                rw [← hsum]
                have e : (QF : Int) * 4294967296 + ((p : Nat) : Int) = ((QF * 4294967296 + p : Nat) : Int) := by omega
                rw [e]; exact wN _ (by omega)
              have HJ := Lib.hid (And.intro j1 j2)
              clear hsum hq0 hQ j1 j2
              go_upto_region 28 with fail
              have j1 := HJ.out.1
              have j2 := HJ.out.2
              go_wp2
              go_ret2
              exact ⟨_, rfl, Below.refl _ _⟩
        · have t1 : (q : Int) < 4294967296 := by omega
          have hq4 : q < 4294967296 := by omega
          have e2 : (q : Int) * (b : Int) = ((q * b : Nat) : Int) := by rw [Int.natCast_mul]
          have e3 : 4294967296 * (r : Int) = ((4294967296 * r : Nat) : Int) := by omega
          have e4 : 4294967296 * (r : Int) + (d : Int) = ((4294967296 * r + d : Nat) : Int) := by omega
          have t2 : IntKind.u64.wrap ((q : Int) * (b : Int)) = (q : Int) * (b : Int) := by rw [e2]; exact wN _ (hqb hq4)
          have t3 : IntKind.u64.wrap (4294967296 * (r : Int)) = 4294967296 * (r : Int) := by rw [e3]; exact wN _ (by omega)
          have t4 : IntKind.u64.wrap (4294967296 * (r : Int) + (d : Int)) = 4294967296 * (r : Int) + (d : Int) := by rw [e4]; exact wN _ (by omega)
          have t5 : (q : Int) * (b : Int) ≤ 4294967296 * (r : Int) + (d : Int) := by rw [e4, e2]; exact Int.ofNat_le.2 (by omega)
          have HQF := Lib.hid (Dv.est_end (a := a) (b := b) ha1 hb HE.out (.inl ⟨hq4, by omega⟩))
          have v1 : decide ((4294967296 : Int) ≤ (q : Int)) = false := decide_eq_false (by omega)
          have v2 : decide (4294967296 * (r : Int) + (d : Int) < (q : Int) * (b : Int)) = false := decide_eq_false (by omega)
          clear hqb T q1 hrl hu hYe ha1 ha2 hb hc hd e2 e3 e4 hq4 t1 t5
          have hq0 : q = (R1 * 4294967296 + d) / Y := by rw [HS.out.2.2.2.1]; exact HQF.out
          have hsum : QF * 4294967296 + q = Q := by
            rw [hq0, HQ1.out, HR1.out, Dv.two_digits (by have := HS.out.2.1; omega)]; exact HFIN.out
          have hQ := HQLT.out
          have j1 : IntKind.u64.wrap ((QF : Int) * 4294967296) = (QF : Int) * 4294967296 := by
            have e : (QF : Int) * 4294967296 = ((QF * 4294967296 : Nat) : Int) := by omega
            rw [e]; exact wN _ (by omega)
          have j2 : IntKind.u64.wrap ((QF : Int) * 4294967296 + ((q : Nat) : Int)) = (Q : Int) := by
            rw [← hsum]
            have e : (QF : Int) * 4294967296 + ((q : Nat) : Int) = ((QF * 4294967296 + q : Nat) : Int) := by omega
            rw [e]; exact wN _ (by omega)
          have HJ := Lib.hid (And.intro j1 j2)
          clear hsum hq0 hQ j1 j2
          go_upto_region 28 with fail
          have j1 := HJ.out.1
          have j2 := HJ.out.2
          go_wp2
          go_ret2
          exact ⟨_, rfl, Below.refl _ _⟩


end Go.Proofs.YtcfikdoejmgejaaDoor
