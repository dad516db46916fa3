/-
  The walk of the law on hours planned one by one.
-/
import Derived.Test.YtnblfhoogcdcfaaPlanApart
import Derived.Test.YtnblfhoogcdcfaaPlanLawD
namespace Go.Proofs.Ytnblfhoogcdcfaa
open Go.RowKit

theorem allW_bd {gs : List Plan.Gun} {hs : List Plan.Hour} (a : Plan.Acc gs hs) : ∀ m, 0 ≤ Plan.allW gs m ∧ Plan.allW gs m ≤ m * 1000000000
  | 0 => ⟨Int.le_refl _, by simp [Plan.allW]⟩
  | m + 1 => by
    obtain ⟨h1, h2⟩ := allW_bd a m
    have hg := a.gun m
    have e : ((m + 1 : Nat) : Int) * 1000000000 = m * 1000000000 + 1000000000 := by rw [Int.natCast_add, Int.add_mul]; simp
    rw [e]
    simp only [Plan.allW]; omega
theorem ones_take {gs : List Plan.Gun} : ∀ {hs : List Plan.Hour} {k : Nat}, k < hs.length → Plan.ones gs (hs.take (k + 1)) = Plan.ones gs (hs.take k) + Plan.one gs (Plan.hAt hs k)
  | [], k, h => absurd h (by simp)
  | x :: hs, 0, _ => by simp [Plan.ones, Plan.hAt]
  | x :: hs, k + 1, h => by
    have ih := ones_take (gs := gs) (hs := hs) (k := k) (by simpa using h)
    have e : Plan.hAt (x :: hs) (k + 1) = Plan.hAt hs k := by simp [Plan.hAt]
    rw [e]
    simp only [List.take_succ_cons, Plan.ones]
    rw [ih]; omega
theorem hoursE_one {hs : List Plan.Hour} (h : Plan.hoursE hs = 0) {k : Nat} (hk : k < hs.length) : Plan.hoursE [Plan.hAt hs k] = 0 := by
  have hm : Plan.hAt hs k ∈ hs := by simp [Plan.hAt, hk]
  have := Plan.hoursE_zero h _ hm
  rw [Plan.hoursE, if_neg (by rw [this]; decide)]; rfl
theorem right_one {gs : List Plan.Gun} {hs : List Plan.Hour} (h : Plan.rightE gs hs = 0) {k : Nat} (hk : k < hs.length) : Plan.rightE gs [Plan.hAt hs k] = 0 := by
  unfold Plan.rightE at h ⊢
  by_cases h1 : 5 < gs.length ∨ 3 < hs.length
  · rw [if_pos h1] at h; omega
  · rw [if_neg h1] at h
    by_cases h2 : Plan.gunsE [] gs = 0
    · rw [if_pos h2] at h
      rw [if_neg (by simp; omega), if_pos h2]
      exact hoursE_one h hk
    · rw [if_neg h2] at h; exact absurd h h2
theorem RdH.one {w : World} {b off : Nat} {hs : List Plan.Hour} (hH : RdH w (some ⟨b, off, none⟩) hs) {k : Nat} (hk : k < hs.length) : RdH w (some ⟨b, off + k * 2, none⟩) [Plan.hAt hs k] := fun _ => by
  obtain ⟨b', off', e, h1, h2⟩ := hH (by omega)
  injection e with e
  injection e with e1 e2
  subst e1 e2
  refine ⟨b, off + k * 2, rfl, h1, fun i hi => ?_⟩
  obtain rfl : i = 0 := by simp at hi; omega
  have h3 := h2 k hk
  simpa [Plan.hAt] using h3

set_option maxRecDepth 4000 in
set_option maxHeartbeats 8000000 in
theorem lawApart_ok (gs : List Plan.Gun) (hs : List Plan.Hour) (more : Int) (A : Option Addr) (c : Nat) (B : Option Addr) (d : Nat) (w : World) (hG : RdG w A gs) (hH : RdH w B hs) (hr : Plan.rightE gs hs = 0) (hd : hs.length ≤ d) (hm0 : 0 ≤ more) (hm1 : more ≤ 65535) :
    Calls Try.prog 9 #[.slice A gs.length c, .slice B hs.length d, .int .u16 more] w fun e w' => e = .returned (.bool true) ∧ Below w.heap.size w w' := by
  have ha := Plan.acc_of hr
  have h5i : decide ((5 : Int) < (gs.length : Int)) = false := decide_eq_false (by have := ha.gl; omega)
  have h3i : decide ((3 : Int) < (hs.length : Int)) = false := decide_eq_false (by have := ha.hl; omega)
  have hg5 := ha.gl
  have hh3 := ha.hl
  have hw := allW_bd ha gs.length
  have HG := Lib.hid hG
  have HH := Lib.hid hH
  have HRT := Lib.hid hr
  have HA := Lib.hid ha
  have HD := Lib.hid hd
  have hcm : IntKind.i64.wrap more = more := IntWalk.i64_in _ (by omega)
  clear hG hH hr ha hd
  go_enter Try.func9, Try.ntmps9
  go_wp2_with fail
  refine (alive_any _).mono ?_
  rintro e w1 ⟨rfl, hb1⟩
  have HB1 := Lib.hid hb1
  clear hb1
  go_wp2_with fail
  refine (pright_any gs hs A B c d _ (HG.out.below HB1.out) (HH.out.below HB1.out)).mono ?_
  rw [HRT.out]
  rintro e w2 ⟨rfl, hb2⟩
  have HB2 := Lib.hid (thru HB1.out hb2 HB1.out.size)
  clear hb2
  go_wp2
  go_loopw [7, 8] (fun i7 i wr => ∃ k : Nat, k ≤ gs.length ∧ i = .int .i64 k ∧ i7 = .int .i64 (more + Plan.allW gs k * hs.length) ∧ w2 = wr) (fun _ i _ => gs.length - (intOf i).toNat)
  case atStart => exact ⟨0, Nat.zero_le _, rfl, by simp [Plan.allW], rfl⟩
  case round =>
    obtain ⟨k, hk, rfl, rfl, rfl⟩ := hrel
    by_cases hlt : k < gs.length
    · obtain ⟨gb, go, rfl, hgb, g0, g1, g2, g3⟩ := (HG.out.below HB2.out).at_ hlt
      have hgun := HA.out.gun k
      have hak := allW_bd HA.out k
      have hst : Plan.allW gs (k + 1) = Plan.allW gs k + (Plan.gAt gs k).water := rfl
      have b1 : 0 ≤ Plan.allW gs k * (hs.length : Int) := Int.mul_nonneg hak.1 (by omega)
      have b2 : Plan.allW gs k * (hs.length : Int) ≤ 5000000000 * 3 := Int.mul_le_mul (by omega) (by omega) (by omega) (by omega)
      have b3 : 0 ≤ (Plan.gAt gs k).water * (hs.length : Int) := Int.mul_nonneg hgun.1 (by omega)
      have b4 : (Plan.gAt gs k).water * (hs.length : Int) ≤ 1000000000 * 3 := Int.mul_le_mul (by omega) (by omega) (by omega) (by omega)
      have hmul : Plan.allW gs (k + 1) * (hs.length : Int) = Plan.allW gs k * (hs.length : Int) + (Plan.gAt gs k).water * (hs.length : Int) := by rw [hst, Int.add_mul]
      obtain ⟨wa, hwa⟩ : ∃ x, x = (Plan.gAt gs k).water := ⟨_, rfl⟩
      rw [← hwa] at g1 b3 b4 hmul
      obtain ⟨T, hT⟩ : ∃ T, T = Plan.allW gs k * (hs.length : Int) := ⟨_, rfl⟩
      rw [← hT] at b1 b2 hmul ⊢
      obtain ⟨U, hU⟩ : ∃ U, U = wa * (hs.length : Int) := ⟨_, rfl⟩
      rw [← hU] at b3 b4 hmul
      have e1 : IntKind.i64.wrap (wa * (hs.length : Int)) = U := by rw [← hU]; exact IntWalk.i64_in _ (by omega)
      have e2 : IntKind.i64.wrap (more + T + U) = more + T + U := IntWalk.i64_in _ (by omega)
      have HMUL := Lib.hid hmul
      have HLT := Lib.hid hlt
      clear g0 g2 g3 hgun hak hst b1 b2 b3 b4 hmul hwa hT hU
      go_wp2
      go_roundw
      case rel => exact ⟨k + 1, HLT.out, by go_num, by rw [HMUL.out, ← Int.add_assoc], by first | rfl | trivial⟩
      case measure => have := HLT.out; simp [intOf]; omega
    · have hke : k = gs.length := by omega
      subst hke
      obtain ⟨W, hW⟩ : ∃ W, W = more + Plan.allW gs gs.length * (hs.length : Int) := ⟨_, rfl⟩
      have b1 : 0 ≤ Plan.allW gs gs.length * (hs.length : Int) := Int.mul_nonneg hw.1 (by omega)
      have b2 : Plan.allW gs gs.length * (hs.length : Int) ≤ 5000000000 * 3 := Int.mul_le_mul (by omega) (by omega) (by omega) (by omega)
      have hW0 : 0 ≤ W := by omega
      have hWm : W ≤ 9223372036854775807 := by omega
      have hap := Plan.gr_apart HA.out (left := W) (by omega)
      have hgg : Plan.greatE gs hs W = Plan.ones gs hs := by rw [Plan.great_gr HA.out hW0, hap.1]
      have hone : ∀ j, j < hs.length → Plan.greatE gs [Plan.hAt hs j] W = Plan.one gs (Plan.hAt hs j) ∧ 0 ≤ Plan.one gs (Plan.hAt hs j) ∧ Plan.one gs (Plan.hAt hs j) ≤ 5000000000 := fun j hj => by
        have ha1 := Plan.acc_of (right_one HRT.out hj)
        have hle : Plan.allW gs gs.length ≤ W := by
          have h1 : Plan.allW gs gs.length * 1 ≤ Plan.allW gs gs.length * (hs.length : Int) := Int.mul_le_mul_of_nonneg_left (by omega) hw.1
          omega
        have h2 := Plan.gr_bd ha1 hW0
        rw [Plan.one_apart ha1 hle] at h2
        refine ⟨by rw [Plan.great_gr ha1 hW0, Plan.one_apart ha1 hle], h2.1, by simpa using h2.2⟩
      rw [← hW]
      have HONE := Lib.hid hone
      have HGG := Lib.hid hgg
      have HWM := Lib.hid hWm
      clear hW b1 b2 hW0 hWm hap hgg hone hlt hk hw hcm hm0 hm1
      go_wp2
      go_loopw [9, 10] (fun i9 i wr => ∃ j : Nat, j ≤ hs.length ∧ i = .int .i64 j ∧ i9 = .int .i64 (Plan.ones gs (hs.take j)) ∧ 0 ≤ Plan.ones gs (hs.take j) ∧ Plan.ones gs (hs.take j) ≤ j * 5000000000 ∧ Below w.heap.size w wr) (fun _ i _ => hs.length - (intOf i).toNat)
      case atStart => exact ⟨0, Nat.zero_le _, rfl, rfl, Int.le_refl _, by simp [Plan.ones], HB2.out⟩
      case round =>
        obtain ⟨j, hj, rfl, rfl, s0, s1, hb⟩ := hrel
        have HB := Lib.hid hb
        clear hb
        by_cases hjl : j < hs.length
        · obtain ⟨b, off, rfl, hbz, -⟩ := HH.out (by omega)
          obtain ⟨o1, o2, o3⟩ := HONE.out j hjl
          have hot := ones_take (gs := gs) hjl
          have HLT := Lib.hid hjl
          have hnd : ¬ (d - j = 0) := by have := HD.out; omega
          have hjd : (j : Int) + 1 ≤ (d : Int) := by have := HD.out; omega
          have hjd2 : j + 1 ≤ d := by have := HD.out; omega
          have hC := pgreat_any gs [Plan.hAt hs j] W A (some ⟨b, off + j * 2, none⟩) c (d - j) wr (right_one HRT.out hjl) HWM.out (HG.out.below HB.out) ((HH.out.one hjl).below HB.out)
          rw [o1] at hC
          obtain ⟨S, hS⟩ : ∃ S, S = Plan.ones gs (hs.take j) := ⟨_, rfl⟩
          rw [← hS] at s0 s1 hot ⊢
          obtain ⟨O, hO⟩ : ∃ O, O = Plan.one gs (Plan.hAt hs j) := ⟨_, rfl⟩
          rw [← hO] at hC o2 o3 hot
          have HC := Lib.hid hC
          have HOT := Lib.hid hot
          have e1 : IntKind.i64.wrap (S + O) = S + O := IntWalk.i64_in _ (by omega)
          have hj1 : (j : Int) + 1 - j = 1 := by omega
          have hj2 : j + 1 - j = 1 := by omega
          clear hC hot o1 hS hO hjl
          go_wp2_with fail
          refine HC.out.mono ?_
          rintro e w3 ⟨rfl, hb3⟩
          have HB3 := Lib.hid (thru HB.out hb3 HB.out.size)
          clear hb3 HC
          go_wp2
          go_roundw
          case rel => exact ⟨j + 1, HLT.out, by go_num, by rw [HOT.out], by rw [HOT.out]; omega, by rw [HOT.out]; omega, HB3.out⟩
          case measure => have := HLT.out; simp [intOf]; omega
        · have hje : hs.take j = hs := List.take_of_length_le (by omega)
          rw [hje]
          clear hje s0 s1
          obtain ⟨S, hS⟩ : ∃ S, S = Plan.ones gs hs := ⟨_, rfl⟩
          have hC := pgreat_any gs hs W A B c d wr HRT.out HWM.out (HG.out.below HB.out) (HH.out.below HB.out)
          rw [HGG.out, ← hS] at hC
          rw [← hS]
          have HC := Lib.hid hC
          clear hC hS
          go_wp2_with fail
          refine HC.out.mono ?_
          rintro e w3 ⟨rfl, hb3⟩
          have HB3 := Lib.hid (thru HB.out hb3 HB.out.size)
          clear hb3 HC
          go_wp2
          go_ret
          exact ⟨rfl, HB3.out⟩
end Go.Proofs.Ytnblfhoogcdcfaa
