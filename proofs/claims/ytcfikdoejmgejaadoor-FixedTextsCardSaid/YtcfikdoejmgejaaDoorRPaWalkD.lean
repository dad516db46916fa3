/-
  The walk of the reference's Parse: the roads with a fraction.
-/
import Derived.Test.YtcfikdoejmgejaaDoorRPaWalkC
namespace Go.Proofs.YtcfikdoejmgejaaDoor
open Go.RowKit

set_option maxHeartbeats 4000000 in
theorem rp_good (s T : ByteArray) (neg : Bool) (k : Nat) (P : Int × Int) (w : World) (hs : s.size ≤ 100) (hTs : T.size ≤ 100) (hcase : PCase s T neg) (hkT : k ≤ T.size) (HRD : Hid (DigP T k)) (hk1 : 1 ≤ k) (hk2 : k ≤ 10) (hform : PForm T k) (U R : ByteArray) (v n1 : Int) (hU : T.extract 0 k = U) (hR : T.extract k T.size = R) (_ : R.size ≤ 100) (HV : Hid (ValP U v)) (hn1 : 1000 * v = n1) (fn1 : IntKind.i64.wrap n1 = n1) (hr1 : 0 < R.size) (F : ByteArray) (L : Nat) (hF : R.extract 1 R.size = F) (HRF : Hid (DigP F L)) (_ : (((R[0]'hr1).toNat : Int) == 46) = true) (hn46 : (((R[0]'hr1).toNat : Int) != 46) = false) (g1 : 2 ≤ (R.size : Int)) (g2 : (R.size : Int) ≤ 4) (g3 : (L : Int) = (R.size : Int) - 1) (G : ByteArray) (g n2 : Int) (hG : (F ++ ⟨#[48, 48]⟩).extract 0 3 = G) (HVG : Hid (ValP G g)) (hn2 : n1 + g = n2) (fn2 : IntKind.i64.wrap n2 = n2) (fn3 : IntKind.i64.wrap (-n2) = -n2) (hz2 : n2 = 0 ∨ ((n2 == 0) = false ∧ n2 ≠ 0)) (HP4 : Hid (P = finE neg n2)) (hF1 : 1 ≤ F.size) (hF3 : F.size ≤ 3) :
    Calls Tryd.prog 26 #[.string s] w fun e w' => e = .returned (.tuple #[.int .i64 P.1, .int .i64 P.2]) ∧ w = w' := by
  rcases hform with rfl | ⟨h1, h0, h1'⟩ <;> rcases hcase with ⟨rfl, rfl, c0⟩ | ⟨rfl, rfl, c0, c1⟩ | ⟨rfl, c0, c1, c2⟩ <;> rcases hz2 with rfl | ⟨hz, hzn⟩
  all_goals first
    | (exfalso; omega)
    | (go_enter Tryd.func26, Tryd.ntmps26
       go_wp2_with fail
       refine (HRD.out _).mono ?_
       rintro e w1 ⟨rfl, rfl⟩
       go_wp2_with fail
       refine (HV.out _).mono ?_
       rintro e w1 ⟨rfl, rfl⟩
       go_wp2_with (go_at_call 47; refine (HRF.out _).mono ?_; rintro e w1 ⟨rfl, rfl⟩)
       refine (HVG.out _).mono ?_
       rintro e w1 ⟨rfl, rfl⟩
       go_wp2
       go_ret2
       first
         | exact ⟨by rw [HP4.out, finE_pos]; rfl, rfl⟩
         | exact ⟨by rw [HP4.out, finE_zero]; rfl, rfl⟩
         | exact ⟨by rw [HP4.out, finE_neg hzn]; rfl, rfl⟩)
end Go.Proofs.YtcfikdoejmgejaaDoor
