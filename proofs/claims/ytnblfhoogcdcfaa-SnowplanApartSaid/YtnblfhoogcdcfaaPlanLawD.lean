/-
  The walks of the laws on the greatest value and on the plan that is found.
-/
import Derived.Test.YtnblfhoogcdcfaaPlanLawC
import Derived.Test.YtnblfhoogcdcfaaPlanRefE
import Derived.Test.YtnblfhoogcdcfaaPlanOpen
namespace Go.Proofs.Ytnblfhoogcdcfaa
open Go.RowKit

section
open Go.WideShapes Go.ChangeShapes Go.Deep Go.Joins
theorem slice_cap {H : Type} {enc : TypeId × Value → H} {P : Program} {w : World} {base : Nat} {held : Bool} {t e : TypeId} {fuel : Nat} {A : Option Addr} {n c : Nat} {x : DataW H × List MemPlace} {sp : Nat → Bool}
    (ht : P.underlying t = some (.slice e)) (h : DataW.trod enc P w base sp held fuel t [.slice A n c] = some x) : n ≤ c := by
  rcases open_slice ht h with ⟨hcs, _⟩ | ⟨a, len, cap, m, k, D, Pl, hcs, _, hl, _⟩
  · simp at hcs; omega
  · simp at hcs; omega
end
set_option maxRecDepth 4000 in
set_option maxHeartbeats 4000000 in
theorem lawGreatest (gs : List Plan.Gun) (hs : List Plan.Hour) (water : Int) (A : Option Addr) (c : Nat) (B : Option Addr) (d : Nat) (w : World) (hG : RdG w A gs) (hH : RdH w B hs) (hwm : water ≤ 9223372036854775807) (hd : hs.length ≤ d) :
    Calls Try.prog 5 #[.slice A gs.length c, .slice B hs.length d, .int .i64 water] w fun e w' => e = .returned (.bool true) ∧ Below w.heap.size w w' := by
  have HG := Lib.hid hG
  have HH := Lib.hid hH
  have HW := Lib.hid hwm
  have HD := Lib.hid hd
  clear hG hH hwm hd
  cases ha : accE gs hs
  · have HA := Lib.hid ha
    clear ha
    go_enter Try.func5, Try.ntmps5
    go_wp2_with fail
    refine (alive_any _).mono ?_
    rintro e w1 ⟨rfl, hb1⟩
    have HB1 := Lib.hid hb1
    clear hb1
    go_wp2_with fail
    refine (accepted_any gs hs A B c d _ (HG.out.below HB1.out) (HH.out.below HB1.out)).mono ?_
    rw [HA.out]
    rintro e w2 ⟨rfl, hb2⟩
    have HB2 := Lib.hid (thru HB1.out hb2 HB1.out.size)
    clear hb2
    go_wp2
    go_ret
    exact ⟨rfl, HB2.out⟩
  · have HRT := Lib.hid (accE_of ha)
    have HACC := Lib.hid (Plan.acc_of HRT.out)
    have HA := Lib.hid ha
    obtain ⟨G, hG⟩ : ∃ G, G = Plan.greatE gs hs water := ⟨_, rfl⟩
    have HGG := Lib.hid hG
    have HRG := Lib.hid ((rgreat_eq HACC.out water).trans hG.symm)
    clear ha hG
    go_enter Try.func5, Try.ntmps5
    go_wp2_with fail
    refine (alive_any _).mono ?_
    rintro e w1 ⟨rfl, hb1⟩
    have HB1 := Lib.hid hb1
    clear hb1
    go_wp2_with fail
    refine (accepted_any gs hs A B c d _ (HG.out.below HB1.out) (HH.out.below HB1.out)).mono ?_
    rw [HA.out]
    rintro e w2 ⟨rfl, hb2⟩
    have HB2 := Lib.hid (thru HB1.out hb2 HB1.out.size)
    clear hb2
    go_wp2_with fail
    refine (pgreat_any gs hs water A B c d _ HRT.out HW.out (HG.out.below HB2.out) (HH.out.below HB2.out)).mono ?_
    rw [← HGG.out]
    rintro e w3 ⟨rfl, hb3⟩
    have HB3 := Lib.hid (thru HB2.out hb3 HB2.out.size)
    clear hb3
    go_wp2_with fail
    refine (rgreat_any gs hs water A B c d _ HACC.out HW.out HD.out (HG.out.below HB3.out) (HH.out.below HB3.out)).mono ?_
    rw [HRG.out]
    rintro e w4 ⟨rfl, hb4⟩
    have HB4 := Lib.hid (thru HB3.out hb4 HB3.out.size)
    clear hb4
    go_wp2
    go_ret
    exact ⟨rfl, HB4.out⟩
end Go.Proofs.Ytnblfhoogcdcfaa
