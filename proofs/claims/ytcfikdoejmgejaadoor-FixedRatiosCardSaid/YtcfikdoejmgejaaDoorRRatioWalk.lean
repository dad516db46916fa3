/-
  The walk of the reference's ratio.
-/
import Derived.Test.YtcfikdoejmgejaaDoorRatPlain
namespace Go.Proofs.YtcfikdoejmgejaaDoor
open Go.RowKit

def RatS (m k y : Nat) (sq sr sb : Value) : Prop := ∃ q r B : Int, sq = .int .i64 q ∧ sr = .int .i64 r ∧ sb = .int .i64 B ∧ RatR m k y q r B
set_option maxHeartbeats 2000000 in
theorem rratio_any (a b c : Int) (w : World) : Calls Tryd.prog 20 #[.int .i64 a, .int .i64 b, .int .i64 c] w fun e w' => e = .returned (.tuple #[.int .i64 (ratioE a b c).1, .int .i64 (ratioE a b c).2]) ∧ Below w.heap.size w w' := by
  by_cases h : RatOk a b c
  · rw [show ratioE a b c = lim 0 0 (ratN a b c) from if_pos h]
    obtain ⟨h1, h2, h3, h4, h5, h6⟩ := h
    have hm : a.natAbs ≤ 1125899906842624 := by have := h4.2; omega
    have hk : b.natAbs ≤ 1125899906842624 := by have := h5.2; omega
    have hc : c.natAbs ≤ 1125899906842624 := by have := h6.2; omega
    have hc0 : 0 < c.natAbs := by omega
    have g4 := h4.2; have g5 := h5.2; have g6 := h6.2
    have hcz : c ≠ 0 := by omega
    have hcp : 0 < c := by omega
    have em : a = (a.natAbs : Int) := by omega
    have ek : b = (b.natAbs : Int) := by omega
    have ec : c = (c.natAbs : Int) := by omega
    obtain ⟨n, hn⟩ : ∃ n, n = ratN a b c := ⟨_, rfl⟩
    rw [← hn]
    unfold ratN at hn
    generalize a.natAbs = m at *
    generalize b.natAbs = k at *
    generalize c.natAbs = y at *
    have HS := Lib.hid (rat_start (m := m) (k := k) (y := y) hm hc0)
    have HE := Lib.hid fun (q r B : Int) (h : RatR m k y q r B) (h0 : B ≤ 0) => rat_end h h0
    have HR := Lib.hid fun (q r B : Int) (h : RatR m k y q r B) (h0 : 0 < B) => rat_round h h0 hm hk hc0 hc
    rw [← em, ← ek, ← ec, ← hn] at HR
    rw [← hn] at HE
    clear h4 h5 h6 hm hk hc hc0 em ek ec hn
    go_enter Tryd.func20, Tryd.ntmps20
    go_wp2_with fail
    clear g4 g5 g6 h1 h2 h3
    go_loopw [8, 9, 10] (fun s8 s9 s10 wr => RatS m k y s8 s9 s10 ∧ Below w.heap.size w wr) (fun _ _ s10 _ => (intOf s10).toNat)
    case atStart => exact ⟨⟨0, 0, 1125899906842624, rfl, rfl, rfl, HS.out⟩, Below.refl _ _⟩
    case round =>
      obtain ⟨⟨q, r, B, rfl, rfl, rfl, hrt⟩, hbw⟩ := hrel
      have HBW := Lib.hid hbw
      clear hbw
      by_cases hB : 0 < B
      · obtain ⟨x, B2, q1, r1, bq, br, q2, r2, e, r3, q3, f1, f2, f3, f4, f5, f6, f7, f8, f9, f10, f11, f12, f13, f14, f15, f16, hT⟩ := HR.out q r B hrt hB
        have hBz : B ≠ 0 := by omega
        have HF5 := Lib.hid f5; have HF6 := Lib.hid f6
        clear hrt f5 f6
        rcases hT with ⟨t1, t2⟩ | ⟨t1, t2⟩
        · have T := Lib.hid (show lim 0 0 n = (0, 12) from lim_big t2)
          clear t2
          rcases f12 with ⟨f12, rfl, rfl⟩ | ⟨f12, f17, f18⟩
          · go_wp2_with fail
            go_quiet (fail)
            go_wp2
            go_ret2
            exact ⟨by rw [T.out]; rfl, below_drewN HBW.out _⟩
          · go_wp2_with fail
            go_quiet (fail)
            go_wp2_with fail
            go_quiet (fail)
            go_wp2
            go_ret2
            exact ⟨by rw [T.out]; rfl, below_drewN HBW.out _⟩
        · have T2 := Lib.hid t2
          clear t2
          rcases f12 with ⟨f12, rfl, rfl⟩ | ⟨f12, f17, f18⟩
          · go_wp2_with fail
            go_quiet (fail)
            go_wp2
            go_round
            case rel => exact ⟨⟨_, _, _, rfl, rfl, rfl, T2.out⟩, below_drewN HBW.out _⟩
            case measure => simp [intOf]; have := HF5.out; have := HF6.out; omega
          · go_wp2_with fail
            go_quiet (fail)
            go_wp2_with fail
            go_quiet (fail)
            go_wp2
            go_round
            case rel => exact ⟨⟨_, _, _, rfl, rfl, rfl, T2.out⟩, below_drewN HBW.out _⟩
            case measure => simp [intOf]; have := HF5.out; have := HF6.out; omega
      · have hB' : B ≤ 0 := by omega
        obtain ⟨e1, e2⟩ := HE.out q r B hrt hB'
        have E2 := Lib.hid (show lim 0 0 n = ((n : Int), 0) from lim_ok (by omega))
        subst e1
        clear e2 hrt
        go_wp2
        go_ret2
        exact ⟨by rw [E2.out]; rfl, HBW.out⟩
  · rw [show ratioE a b c = (0, 1) from if_neg h]
    by_cases h1 : a < 0
    · clear h
      go_enter Tryd.func20, Tryd.ntmps20
      go_wp2
      go_ret2
      exact ⟨rfl, Below.refl _ _⟩
    by_cases h2 : b < 0
    · clear h
      go_enter Tryd.func20, Tryd.ntmps20
      go_wp2
      go_ret2
      exact ⟨rfl, Below.refl _ _⟩
    by_cases h3 : c < 1
    · clear h
      go_enter Tryd.func20, Tryd.ntmps20
      go_wp2
      go_ret2
      exact ⟨rfl, Below.refl _ _⟩
    have hall : 1125899906842624 < a ∨ (a ≤ 1125899906842624 ∧ 1125899906842624 < b) ∨ (a ≤ 1125899906842624 ∧ b ≤ 1125899906842624 ∧ 1125899906842624 < c) := by
      rcases Int.lt_or_le 1125899906842624 a with q1 | q1
      · exact .inl q1
      · rcases Int.lt_or_le 1125899906842624 b with q2 | q2
        · exact .inr (.inl ⟨q1, q2⟩)
        · refine .inr (.inr ⟨q1, q2, ?_⟩)
          rcases Int.lt_or_le 1125899906842624 c with q3 | q3
          · exact q3
          · exact absurd ⟨by omega, by omega, by omega, ⟨by omega, q1⟩, ⟨by omega, q2⟩, ⟨by omega, q3⟩⟩ h
    clear h
    rcases hall with q1 | ⟨q1, q2⟩ | ⟨q1, q2, q3⟩
    all_goals
      go_enter Tryd.func20, Tryd.ntmps20
      go_wp2
      go_ret2
      exact ⟨rfl, Below.refl _ _⟩
end Go.Proofs.YtcfikdoejmgejaaDoor
