/-
  The walks of the reference's search.
-/
import Derived.Test.YtnblfhoogcdcfaaPlanTheoryB
import Derived.Test.YtnblfhoogcdcfaaPlanWalkH
namespace Go.Proofs.Ytnblfhoogcdcfaa
open Go.RowKit

set_option maxHeartbeats 4000000 in
theorem choice_any (gs : List Plan.Gun) (set : Nat) (B : Option Addr) (d : Nat) (w : World) (hn : gs.length ≤ 5) (hs : set < 2 ^ gs.length) :
    Calls Try.prog 31 #[.slice B gs.length d, .int .i64 (set : Int)] w fun e w' => ∃ (A : Option Addr) (c : Nat), e = .returned (.slice A (Plan.memL gs.length set).length c) ∧ Own w.heap.size w' A (Plan.memL gs.length set) ∧ Below w.heap.size w w' := by
  obtain ⟨i0, hi0, hz0, hz1, hz2⟩ := info_parts int_info
  have HI := Lib.hid (And.intro hi0 (And.intro hz0 (And.intro hz1 hz2)))
  clear hi0 hz0 hz1 hz2
  have hs32 : set < 32 := Nat.lt_of_lt_of_le hs (show 2 ^ gs.length ≤ 2 ^ 5 from Nat.pow_le_pow_right (by decide) hn)
  clear hs
  go_enter Try.func31, Try.ntmps31
  go_wp2
  go_loopw [5, 6] (fun i3 i wr => ∃ (k c : Nat) (A : Option Addr), k ≤ gs.length ∧ i = .int .i64 k ∧ i3 = .slice A (Plan.memL k set).length c ∧ wr.ownsRow w.heap.size 3 1 i3 (Plan.memL k set).length ((Plan.memL k set).map (Value.int .i64)) ∧ Below w.heap.size w wr) (fun _ i _ => gs.length - (intOf i).toNat)
  case atStart => exact ⟨0, 0, none, Nat.zero_le _, rfl, rfl, World.ownsRow_nil _ _ _ _, Below.refl _ _⟩
  case round =>
    obtain ⟨k, c, A, hk, rfl, rfl, hrow, hb⟩ := hrel
    have hk5 : (k : Int) ≤ 5 := by omega
    by_cases hlt : k < gs.length
    · have hlti : (k : Int) < (gs.length : Int) := by omega
      have hq32 : set / 2 ^ k < 32 := Nat.lt_of_le_of_lt (Nat.div_le_self _ _) hs32
      have eQ : (set : Int) / 2 ^ k = ((set / 2 ^ k : Nat) : Int) := by simp
      have ea := Plan.and_one _ hq32
      have eb := Plan.bit_eq set k
      have hsucc := Plan.memL_succ k set
      have hlen := Plan.memL_len k set
      rw [← eQ] at ea
      generalize set / 2 ^ k = q at *
      have HSUC := Lib.hid hsucc
      have HKN := Lib.hid hlt
      clear hsucc hlt
      by_cases hb1 : q % 2 = 1
      · have e2 : bits BinOp.and IntKind.i64 ((set : Int) / 2 ^ k) 1 = 1 := by rw [ea, hb1]; rfl
        have hm : Plan.memL (k + 1) set = Plan.memL k set ++ [(k : Int)] := by rw [HSUC.out, eb, hb1]; simp
        have HM := Lib.hid hm
        clear ea eb eQ hm hb1
        generalize Plan.memL k set = l at *
        have hll : l.length ≤ 5 := by omega
        go_wp2_with (first
          | (at_builtin; refine wpList_append_lies _ rfl (.tmp 18) (.tmp 20) 45 rfl w.heap.size 3 i0 _ 1 8 Try.underlying45 HI.out.1 HI.out.2.1 HI.out.2.2.1 HI.out.2.2.2 rfl (by omega) (.slice A l.length c) l.length (l.map (Value.int .i64)) rfl (hrow.alloc (.cells #[.int .i64 (k : Int)] 3)) ⟨wr.heap.size, 0, none⟩ 1 1 [.int .i64 (k : Int)] rfl rfl (cell_one_new _ _ _) (by simp [Value.oneCell']) (by omega) (by simp only [maxLen]; omega) (by omega) (by have := hb.size; simp; omega) _ rfl ?_; intro g cap w2 hown2 hgrow hat hlt)
          | go_in)
        have hB2 : Below w.heap.size w w2 := (hb.alloc hb.size _).grown hgrow (by have := hb.size; simp; omega) (fun j hj => (hrow.lt j hj).1)
        go_roundw
        case rel =>
          refine ⟨k + 1, cap, some ⟨g, 0, none⟩, HKN.out, by go_num, by rw [HM.out]; simp, ?_, hB2⟩
          rw [HM.out]
          simpa using hown2
        case measure => have := HKN.out; simp [intOf]; omega
      · have e2 : bits BinOp.and IntKind.i64 ((set : Int) / 2 ^ k) 1 = 0 := by rw [ea, show q % 2 = 0 by omega]; rfl
        have hm : Plan.memL (k + 1) set = Plan.memL k set := by rw [HSUC.out, eb]; simp [hb1]
        have HM := Lib.hid hm
        clear ea eb eQ hm hb1
        go_wp2
        go_roundw
        case rel => exact ⟨k + 1, c, A, HKN.out, by go_num, by rw [HM.out], by rw [HM.out]; exact hrow, hb⟩
        case measure => have := HKN.out; simp [intOf]; omega
    · have hke : k = gs.length := by omega
      have HKE := Lib.hid hke
      have hlti : decide ((k : Int) < (gs.length : Int)) = false := decide_eq_false (by omega)
      clear hke
      go_wp2
      go_ret
      exact ⟨A, c, by rw [← HKE.out]; rfl, by rw [← HKE.out]; exact own_of_row hrow, hb⟩
end Go.Proofs.Ytnblfhoogcdcfaa
