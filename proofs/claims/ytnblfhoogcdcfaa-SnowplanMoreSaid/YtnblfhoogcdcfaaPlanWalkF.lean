/-
  The walks of the reference's functions that value a plan.
-/
import Derived.Test.YtnblfhoogcdcfaaPlanWalkD
import Derived.Test.YtnblfhoogcdcfaaPlanWalkE
namespace Go.Proofs.Ytnblfhoogcdcfaa
open Go.RowKit

theorem power_at {gs : List Plan.Gun} {hs : List Plan.Hour} {l : List Int} {k y : Nat} (ha : Plan.Acc gs hs) (hk : k < l.length) (hok : Plan.okL gs.length l = true) (hx : (y : Int) = Plan.iAt l k) :
    y < gs.length ∧ k ≤ 5 ∧ ∃ P' : Int, IntKind.i64.wrap (Plan.pS gs (l.take k) + (Plan.gAt gs y).power) = P' ∧ P' = Plan.pS gs (l.take (k + 1)) := by
  have h := Plan.okL_iff.1 hok
  have h1 := (h k hk).2.1
  rw [← hx] at h1
  obtain ⟨_, _, _, _, P', _, _, _, _, _, _, _, e1, e2⟩ := sum_step (q := 0) ha hk (fun j hj => h j (by omega)) hx rfl
  have h2 := Plan.ok_count (k := k) (fun j hj => h j (by omega))
  have := ha.gl
  exact ⟨by omega, by omega, P', e1, e2⟩

set_option maxRecDepth 4000 in
set_option maxHeartbeats 4000000 in
theorem power_any (gs : List Plan.Gun) (hs : List Plan.Hour) (l : List Int) (A B : Option Addr) (c d : Nat) (w : World) (ha : Plan.Acc gs hs) (hok : Plan.okL gs.length l = true) (hG : RdG w A gs) (hL : Rd w B l) :
    Calls Try.prog 26 #[.slice A gs.length c, .slice B l.length d] w fun e w' => e = .returned (.int .i64 (Plan.pS gs l)) ∧ w = w' := by
  obtain ⟨R, hR⟩ : ∃ R, R = Plan.pS gs l := ⟨_, rfl⟩
  rw [← hR]
  have HR := Lib.hid hR
  have HA := Lib.hid ha
  have HG := Lib.hid hG
  have HL := Lib.hid hL
  have HOK := Lib.hid hok
  have hgl := ha.gl
  clear hR ha hG hL hok
  go_enter Try.func26, Try.ntmps26
  go_wp2
  go_loopw [5, 6] (fun i3 i wr => ∃ (k : Nat), k ≤ l.length ∧ i = .int .i64 k ∧ i3 = .int .i64 (Plan.pS gs (l.take k)) ∧ w = wr) (fun _ i _ => l.length - (intOf i).toNat)
  case atStart => exact ⟨0, Nat.zero_le _, rfl, rfl, rfl⟩
  case round =>
    obtain ⟨k, hk, rfl, rfl, rfl⟩ := hrel
    by_cases hlt : k < l.length
    · obtain ⟨lb, lo, rfl, hlb, hx0⟩ := HL.out.at_ hlt
      obtain ⟨x, hxx⟩ : ∃ x, x = Plan.iAt l k := ⟨_, rfl⟩
      have hx : w.cell? ⟨lb, lo + k, none⟩ = some (.int .i64 x) := by rw [hxx]; exact hx0
      have h0 := (Plan.okL_iff.1 HOK.out k hlt).1
      rw [← hxx] at h0
      obtain ⟨y, rfl⟩ : ∃ y : Nat, x = y := ⟨x.toNat, by omega⟩
      obtain ⟨hyl, hk5, P', e1, e2⟩ := power_at HA.out hlt HOK.out hxx
      obtain ⟨gb, go, rfl, hgb, g0, g1, g2, g3⟩ := HG.out.at_ hyl
      have HP := Lib.hid e2
      have HLT := Lib.hid hlt
      clear hxx hx0 g0 g1 g3 e2
      generalize (Plan.gAt gs y).power = pw at *
      generalize Plan.pS gs (l.take k) = P at *
      go_wp2
      go_roundw
      case rel => exact ⟨k + 1, HLT.out, by go_num, by rw [← HP.out], by first | rfl | trivial⟩
      case measure => have := HLT.out; simp [intOf]; omega
    · have hz : Plan.pS gs (l.take k) = R := by rw [HR.out, List.take_of_length_le (by omega)]
      have HZ := Lib.hid hz
      clear hz
      generalize Plan.pS gs (l.take k) = P at *
      go_wp2
      go_ret
      exact ⟨ret_int HZ.out, rfl⟩
end Go.Proofs.Ytnblfhoogcdcfaa
