/-
  The walk of the law on hours planned one by one: the cases joined.
-/
import Derived.Test.YtnblfhoogcdcfaaPlanLawF
namespace Go.Proofs.Ytnblfhoogcdcfaa
open Go.RowKit

theorem wf_u16 {x : Int} (h : (Lit.int .u16 x).wf = true) : 0 ≤ x ∧ x ≤ 65535 := by
  simpa [Lit.wf, IntKind.min, IntKind.max, IntKind.signed, IntKind.bits] using h
set_option maxRecDepth 4000 in
set_option maxHeartbeats 4000000 in
theorem lawApart (gs : List Plan.Gun) (hs : List Plan.Hour) (more : Int) (A : Option Addr) (c : Nat) (B : Option Addr) (d : Nat) (w : World) (hG : RdG w A gs) (hH : RdH w B hs) (hm : 0 ≤ more ∧ more ≤ 65535) (hd : hs.length ≤ d) :
    Calls Try.prog 9 #[.slice A gs.length c, .slice B hs.length d, .int .u16 more] w fun e w' => e = .returned (.bool true) ∧ Below w.heap.size w w' := by
  by_cases hr : Plan.rightE gs hs = 0
  · exact lawApart_ok gs hs more A c B d w hG hH hr hd hm.1 hm.2
  · have HG := Lib.hid hG
    have HH := Lib.hid hH
    clear hG hH hm hd
    by_cases h5 : 5 < gs.length
    · have h5i : (5 : Int) < (gs.length : Int) := by omega
      go_enter Try.func9, Try.ntmps9
      go_wp2_with fail
      refine (alive_any _).mono ?_
      rintro e w1 ⟨rfl, hb1⟩
      go_wp2
      go_ret
      exact ⟨rfl, hb1⟩
    have h5i : decide ((5 : Int) < (gs.length : Int)) = false := decide_eq_false (by omega)
    by_cases h3 : 3 < hs.length
    · have h3i : (3 : Int) < (hs.length : Int) := by omega
      go_enter Try.func9, Try.ntmps9
      go_wp2_with fail
      refine (alive_any _).mono ?_
      rintro e w1 ⟨rfl, hb1⟩
      go_wp2
      go_ret
      exact ⟨rfl, hb1⟩
    have h3i : decide ((3 : Int) < (hs.length : Int)) = false := decide_eq_false (by omega)
    obtain ⟨R, hR⟩ : ∃ R, R = Plan.rightE gs hs := ⟨_, rfl⟩
    rw [← hR] at hr
    have HR := Lib.hid hR
    have hr1 : (R != 0) = true := bne_iff_ne.2 hr
    have hr2 : (R == 0) = false := beq_eq_false_iff_ne.2 hr
    clear hR
    go_enter Try.func9, Try.ntmps9
    go_wp2_with fail
    refine (alive_any _).mono ?_
    rintro e w1 ⟨rfl, hb1⟩
    have HB1 := Lib.hid hb1
    clear hb1
    go_wp2_with fail
    refine (pright_any gs hs A B c d _ (HG.out.below HB1.out) (HH.out.below HB1.out)).mono ?_
    rw [← HR.out]
    rintro e w2 ⟨rfl, hb2⟩
    have HB2 := Lib.hid (thru HB1.out hb2 HB1.out.size)
    clear hb2
    go_wp2
    go_ret
    exact ⟨rfl, HB2.out⟩
end Go.Proofs.Ytnblfhoogcdcfaa
