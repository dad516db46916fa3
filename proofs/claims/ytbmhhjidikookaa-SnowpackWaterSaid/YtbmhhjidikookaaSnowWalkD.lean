/-
  The walks of Settle of the snow packs, of the program and of the reference: both return what the one mirror function says.
-/
import Derived.Test.YtbmhhjidikookaaSnowWalkC
namespace Go.Proofs.Ytbmhhjidikookaa
open Go.RowKit

theorem ret_pe {a b c e a' b' c' e' : Int} (h1 : a = a') (h2 : b = b') (h3 : c = c') (h5 : e = e') :
    Ending.returned (.tuple #[.agg #[.int .i64 a, .int .i64 b, .int .i64 c], .int .i64 e]) = .returned (pe (a', b', c', e')) := by subst h1 h2 h3 h5; rfl

theorem Settle_any (n m d hh : Int) (w : World) : Calls Try.prog 15 #[pk n m d, .int .i64 hh] w fun e w' => e = .returned (pe (Snow.settle n m d hh)) ∧ Below w.heap.size w w' := by
  cases h : Snow.right n m d
  · rw [show Snow.settle n m d hh = (0, 0, 0, 1) by simp [Snow.settle, h]]
    go_enter Try.func15, Try.ntmps15
    go_wp2_with (go_at_call 21; refine (right_any _ _ _ _).mono ?_; rintro e w1 ⟨rfl, rfl⟩)
    go_returns
    exact ⟨rfl, by go_grown⟩
  cases h1 : Snow.within hh 0 1000
  · rw [show Snow.settle n m d hh = (0, 0, 0, 2) by simp [Snow.settle, h, h1]]
    go_enter Try.func15, Try.ntmps15
    go_wp2_with (first
      | (go_at_call 21; refine (right_any _ _ _ _).mono ?_; rintro e w1 ⟨rfl, rfl⟩)
      | (go_at_call 30; refine (within_any _ _ _ _).mono ?_; rintro e w1 ⟨rfl, rfl⟩))
    go_returns
    exact ⟨rfl, by go_grown⟩
  obtain ⟨r1, r2, r3, r4, r5, r6⟩ := Snow.right_iff.1 h
  obtain ⟨k1, k2⟩ := Snow.within_iff.1 h1
  rw [show Snow.settle n m d hh = (n, m, Snow.setN hh.toNat d, 0) by simp [Snow.settle, h, h1]]
  obtain ⟨T, rfl⟩ := Int.eq_ofNat_of_zero_le k1
  rw [Int.toNat_natCast]
  go_enter Try.func15, Try.ntmps15
  go_wp2_with (first
      | (go_at_call 21; refine (right_any _ _ _ _).mono ?_; rintro e w1 ⟨rfl, rfl⟩)
      | (go_at_call 30; refine (within_any _ _ _ _).mono ?_; rintro e w1 ⟨rfl, rfl⟩))
  go_loopw [15] (fun i wr => ∃ k : Nat, k ≤ T ∧ i = .int .i64 k ∧ wr = ((w.alloc (.cells #[.int .i64 n, .int .i64 m, .int .i64 (Snow.setN k d)] 23)).alloc (.cells #[.int .i64 0, .int .i64 0, .int .i64 0] 23)).alloc (.cells #[.int .i64 n, .int .i64 m, .int .i64 d] 23)) (fun i _ => T - (intOf i).toNat)
  case atStart => exact ⟨0, Nat.zero_le _, rfl, rfl⟩
  case round =>
    obtain ⟨k, hk, rfl, rfl⟩ := hrel
    have hb := Snow.setN_range (k := k) r5 r6
    have hs : Snow.setN (k + 1) d = Snow.set1 (Snow.setN k d) := rfl
    have HF : k = T → Hid (Snow.setN k d = Snow.setN T d) := by rintro rfl; exact rfl
    obtain ⟨hb1, hb2⟩ := hb
    generalize Snow.setN k d = x at *
    have Hs := Lib.hid hs
    clear hs
    go_wp2
    · go_roundw
      case rel => exact ⟨k + 1, by omega, by go_num, by
        refine congrArg (fun z : Int => ((w.alloc (.cells #[.int .i64 n, .int .i64 m, .int .i64 z] 23)).alloc (.cells #[.int .i64 0, .int .i64 0, .int .i64 0] 23)).alloc (.cells #[.int .i64 n, .int .i64 m, .int .i64 d] 23)) ?_
        rw [Hs.out]; unfold Snow.set1; rw [if_pos (by assumption)]; omega⟩
      case measure => simp [intOf]; omega
    · go_roundw
      case rel => exact ⟨k + 1, by omega, by go_num, by rw [Hs.out]; unfold Snow.set1; rw [if_neg (by omega)]⟩
      case measure => simp [intOf]; omega
    · go_returns
      exact ⟨ret_pe rfl rfl (HF (by omega)).out rfl, by go_grown⟩

theorem rSettle_any (n m d hh : Int) (w : World) : Calls Try.prog 16 #[pk n m d, .int .i64 hh] w fun e w' => e = .returned (pe (Snow.settle n m d hh)) ∧ Below w.heap.size w w' := by
  cases h : Snow.right n m d
  · rw [show Snow.settle n m d hh = (0, 0, 0, 1) by simp [Snow.settle, h]]
    go_enter Try.func16, Try.ntmps16
    go_wp2_with (go_at_call 26; refine (rright_any _ _ _ _).mono ?_; rintro e w1 ⟨rfl, rfl⟩)
    go_returns
    exact ⟨rfl, by go_grown⟩
  cases h1 : Snow.within hh 0 1000
  · rw [show Snow.settle n m d hh = (0, 0, 0, 2) by simp [Snow.settle, h, h1]]
    go_enter Try.func16, Try.ntmps16
    go_wp2_with (first
      | (go_at_call 26; refine (rright_any _ _ _ _).mono ?_; rintro e w1 ⟨rfl, rfl⟩)
      | (go_at_call 32; refine (in_any _ _ _ _).mono ?_; rintro e w1 ⟨rfl, rfl⟩))
    go_returns
    exact ⟨rfl, by go_grown⟩
  obtain ⟨r1, r2, r3, r4, r5, r6⟩ := Snow.right_iff.1 h
  obtain ⟨k1, k2⟩ := Snow.within_iff.1 h1
  rw [show Snow.settle n m d hh = (n, m, Snow.setN hh.toNat d, 0) by simp [Snow.settle, h, h1]]
  obtain ⟨T, rfl⟩ := Int.eq_ofNat_of_zero_le k1
  rw [Int.toNat_natCast]
  go_enter Try.func16, Try.ntmps16
  go_wp2_with (first
      | (go_at_call 26; refine (rright_any _ _ _ _).mono ?_; rintro e w1 ⟨rfl, rfl⟩)
      | (go_at_call 32; refine (in_any _ _ _ _).mono ?_; rintro e w1 ⟨rfl, rfl⟩))
  go_loop [6, 7] (fun v i => ∃ k : Nat, k ≤ T ∧ i = .int .i64 k ∧ v = .int .i64 (Snow.setN k d)) (fun _ i => T - (intOf i).toNat)
  case atStart => exact ⟨0, Nat.zero_le _, rfl, rfl⟩
  case round =>
    obtain ⟨k, hk, rfl, rfl⟩ := hrel
    have hb := Snow.setN_range (k := k) r5 r6
    have hs : Snow.setN (k + 1) d = Snow.set1 (Snow.setN k d) := rfl
    have HF : k = T → Hid (Snow.setN k d = Snow.setN T d) := by rintro rfl; exact rfl
    obtain ⟨hb1, hb2⟩ := hb
    generalize Snow.setN k d = x at *
    have Hs := Lib.hid hs
    clear hs
    go_wp2
    · go_round
      case rel => exact ⟨k + 1, by omega, by go_num, by rw [Hs.out]; unfold Snow.set1; rw [if_pos (by assumption)]⟩
      case measure => simp [intOf]; omega
    · go_round
      case rel => exact ⟨k + 1, by omega, by go_num, by rw [Hs.out]; unfold Snow.set1; rw [if_neg (by omega)]⟩
      case measure => simp [intOf]; omega
    · go_returns
      exact ⟨ret_pe rfl rfl (HF (by omega)).out rfl, by go_grown⟩
end Go.Proofs.Ytbmhhjidikookaa
