/-
  The walk of the law on more water, more power and one gun less: the cases joined.
-/
import Derived.Test.YtnblfhoogcdcfaaPlanLawH
import Derived.Deep.Slices
namespace Go.Proofs.Ytnblfhoogcdcfaa
open Go.RowKit

section
open Go.WideShapes Go.ChangeShapes Go.Deep Go.Joins
theorem slice_cap' {H : Type} {enc : TypeId × Value → H} {P : Program} {w : World} {base : Nat} {held : Bool} {t e : TypeId} {fuel : Nat} {A : Option Addr} {n c : Nat} {x : DataW H × List MemPlace} {sp : Nat → Bool}
    (ht : P.underlying t = some (.slice e)) (h : DataW.trod enc P w base sp held fuel t [.slice A n c] = some x) : n ≤ c := by
  rcases open_slice ht h with ⟨hcs, _⟩ | ⟨a, len, cap, m, k, D, Pl, hcs, _, hl, _⟩
  · simp at hcs; omega
  · simp at hcs; omega
end
theorem wf_un16 {x : Int} (h : (Lit.int .u16 x).wf = true) : 0 ≤ x ∧ x ≤ 65535 := by
  simpa [Lit.wf, IntKind.min, IntKind.max, IntKind.signed, IntKind.bits] using h
theorem wf_un8 {x : Int} (h : (Lit.int .u8 x).wf = true) : 0 ≤ x ∧ x ≤ 255 := by
  simpa [Lit.wf, IntKind.min, IntKind.max, IntKind.signed, IntKind.bits] using h
set_option maxRecDepth 4000 in
set_option maxHeartbeats 4000000 in
theorem lawMore (gs : List Plan.Gun) (hs : List Plan.Hour) (water bY at_ : Int) (A : Option Addr) (c : Nat) (B : Option Addr) (d : Nat) (w : World) (hG : RdG w A gs) (hH : RdH w B hs) (hy : 0 ≤ bY ∧ bY ≤ 65535) (ht : 0 ≤ at_ ∧ at_ ≤ 255) (hc : gs.length ≤ c) :
    Calls Try.prog 8 #[.slice A gs.length c, .slice B hs.length d, .int .i64 water, .int .u16 bY, .int .u8 at_] w fun e w' => e = .returned (.bool true) ∧ Below w.heap.size w w' := by
  by_cases hr : Plan.rightE gs hs = 0 ∧ 0 ≤ water ∧ water ≤ 1125899906842624
  · exact lawMore_ok gs hs water bY at_ A c B d w hG hH hr.1 hc hr.2.1 hr.2.2 hy.1 hy.2 ht.1 ht.2
  · have HG := Lib.hid hG
    have HH := Lib.hid hH
    clear hG hH hy ht hc
    by_cases h5 : 5 < gs.length
    · have h5i : (5 : Int) < (gs.length : Int) := by omega
      clear hr
      go_enter Try.func8, Try.ntmps8
      go_wp2_with fail
      refine (alive_any _).mono ?_
      rintro e w1 ⟨rfl, hb1⟩
      go_wp2
      go_ret
      exact ⟨rfl, hb1⟩
    have h5i : decide ((5 : Int) < (gs.length : Int)) = false := decide_eq_false (by omega)
    by_cases h3 : 3 < hs.length
    · have h3i : (3 : Int) < (hs.length : Int) := by omega
      clear hr
      go_enter Try.func8, Try.ntmps8
      go_wp2_with fail
      refine (alive_any _).mono ?_
      rintro e w1 ⟨rfl, hb1⟩
      go_wp2
      go_ret
      exact ⟨rfl, hb1⟩
    have h3i : decide ((3 : Int) < (hs.length : Int)) = false := decide_eq_false (by omega)
    by_cases hz : Plan.rightE gs hs = 0
    · have HRT := Lib.hid hz
      by_cases hw : water < 0
      · clear hr hz
        go_enter Try.func8, Try.ntmps8
        go_wp2_with fail
        refine (alive_any _).mono ?_
        rintro e w1 ⟨rfl, hb1⟩
        have HB1 := Lib.hid hb1
        clear hb1
        go_wp2_with fail
        refine (pright_any gs hs A B c d _ (HG.out.below HB1.out) (HH.out.below HB1.out)).mono ?_
        rw [HRT.out]
        rintro e w2 ⟨rfl, hb2⟩
        have HB2 := Lib.hid (thru HB1.out hb2 HB1.out.size)
        clear hb2
        go_wp2
        go_ret
        exact ⟨rfl, HB2.out⟩
      · have hw0 : decide (water < 0) = false := decide_eq_false hw
        have hw1 : 1125899906842624 < water := by
          have : ¬ water ≤ 1125899906842624 := fun h => hr ⟨hz, by omega, h⟩
          omega
        clear hr hz hw
        go_enter Try.func8, Try.ntmps8
        go_wp2_with fail
        refine (alive_any _).mono ?_
        rintro e w1 ⟨rfl, hb1⟩
        have HB1 := Lib.hid hb1
        clear hb1
        go_wp2_with fail
        refine (pright_any gs hs A B c d _ (HG.out.below HB1.out) (HH.out.below HB1.out)).mono ?_
        rw [HRT.out]
        rintro e w2 ⟨rfl, hb2⟩
        have HB2 := Lib.hid (thru HB1.out hb2 HB1.out.size)
        clear hb2
        go_wp2
        go_ret
        exact ⟨rfl, HB2.out⟩
    · obtain ⟨R, hR⟩ : ∃ R, R = Plan.rightE gs hs := ⟨_, rfl⟩
      rw [← hR] at hz
      have HR := Lib.hid hR
      have hr1 : (R != 0) = true := bne_iff_ne.2 hz
      have hr2 : (R == 0) = false := beq_eq_false_iff_ne.2 hz
      clear hR hr
      go_enter Try.func8, Try.ntmps8
      go_wp2_with fail
      refine (alive_any _).mono ?_
      rintro e w1 ⟨rfl, hb1⟩
      have HB1 := Lib.hid hb1
      clear hb1
      go_wp2_with fail
      refine (pright_any gs hs A B c d _ (HG.out.below HB1.out) (HH.out.below HB1.out)).mono ?_
      rw [← HR.out]
      rintro e w2 ⟨rfl, hb2⟩
      have HB2 := Lib.hid (thru HB1.out hb2 HB1.out.size)
      clear hb2
      go_wp2
      go_ret
      exact ⟨rfl, HB2.out⟩
end Go.Proofs.Ytnblfhoogcdcfaa
