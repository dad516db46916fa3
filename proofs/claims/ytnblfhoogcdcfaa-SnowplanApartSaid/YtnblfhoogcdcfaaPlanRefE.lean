/-
  The reference's greatest value.
-/
import Derived.Test.YtnblfhoogcdcfaaPlanRefC
import Derived.Test.YtnblfhoogcdcfaaPlanRefD
namespace Go.Proofs.Ytnblfhoogcdcfaa
open Go.RowKit

theorem plans_any (gs : List Plan.Gun) : ∀ (hs : List Plan.Hour) (left : Int) (A B : Option Addr) (c d : Nat) (w : World), Plan.Acc gs hs → 0 ≤ left → left ≤ 9223372036854775807 → hs.length ≤ d → RdG w A gs → RdH w B hs →
    Calls Try.prog 27 #[.slice A gs.length c, .slice B hs.length d, .int .i64 left] w (PlansPost w gs hs left) := by
  intro hs
  induction hs with
  | nil => intro left A B c d w _ _ _ _ _ _; exact plans_nil gs left A B c d w
  | cons hq hs ih =>
    intro left A B c d w ha h0 h1 hd hG hH
    match d, hd with
    | 0, hd => simp at hd
    | 1, hd => exact plans_one gs hq hs ih left A B c w ha h0 h1 hd hG hH
    | e + 2, hd => exact plans_more gs hq hs ih left A B c e w ha h0 h1 hd hG hH
def rgreatE (gs : List Plan.Gun) (hs : List Plan.Hour) (water : Int) : Int := if water < 0 then 0 else Plan.gr gs hs water
set_option maxHeartbeats 1000000 in
theorem rgreat_any (gs : List Plan.Gun) (hs : List Plan.Hour) (water : Int) (A B : Option Addr) (c d : Nat) (w : World) (ha : Plan.Acc gs hs) (h1 : water ≤ 9223372036854775807) (hd : hs.length ≤ d) (hG : RdG w A gs) (hH : RdH w B hs) :
    Calls Try.prog 20 #[.slice A gs.length c, .slice B hs.length d, .int .i64 water] w fun e w' => e = .returned (.int .i64 (rgreatE gs hs water)) ∧ Below w.heap.size w w' := by
  by_cases h0 : water < 0
  · rw [show rgreatE gs hs water = 0 from if_pos h0]
    clear h1
    go_enter Try.func20, Try.ntmps20
    go_wp2
    go_ret
    exact ⟨rfl, Below.refl _ _⟩
  · rw [show rgreatE gs hs water = Plan.gr gs hs water from if_neg h0]
    have HC := Lib.hid (plans_any gs hs water A B c d w ha (by omega) h1 hd hG hH)
    obtain ⟨M, hM⟩ : ∃ M, M = Plan.gr gs hs water := ⟨_, rfl⟩
    unfold PlansPost at HC
    rw [← hM] at HC ⊢
    have hw0 : decide (water < 0) = false := decide_eq_false h0
    clear ha h1 hd hG hH h0 hM
    go_enter Try.func20, Try.ntmps20
    go_wp2_with fail
    refine HC.out.mono ?_
    rintro e w2 ⟨v, xs, rfl, -, -, -, hb2⟩
    go_wp2
    go_ret
    exact ⟨rfl, hb2⟩
theorem rgreat_eq {gs : List Plan.Gun} {hs : List Plan.Hour} (a : Plan.Acc gs hs) (water : Int) : rgreatE gs hs water = Plan.greatE gs hs water := by
  unfold rgreatE
  by_cases h : water < 0
  · rw [if_pos h]; unfold Plan.greatE; rw [if_pos h]
  · rw [if_neg h, Plan.great_gr a (by omega)]
end Go.Proofs.Ytnblfhoogcdcfaa
