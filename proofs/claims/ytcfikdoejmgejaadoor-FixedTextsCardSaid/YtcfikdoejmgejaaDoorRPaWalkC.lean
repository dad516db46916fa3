/-
  The walk of the reference's Parse: the roads that end at the second test.
-/
import Derived.Test.YtcfikdoejmgejaaDoorRPaWalkB
namespace Go.Proofs.YtcfikdoejmgejaaDoor
open Go.RowKit

set_option maxHeartbeats 4000000 in
theorem rp_second_a (s T : ByteArray) (neg : Bool) (k : Nat) (P : Int × Int) (w : World) (hs : s.size ≤ 100) (hTs : T.size ≤ 100) (hcase : PCase s T neg) (hkT : k ≤ T.size) (HRD : Hid (DigP T k)) (hk1 : 1 ≤ k) (hk2 : k ≤ 10) (hform : PForm T k) (U R : ByteArray) (v n1 : Int) (hU : T.extract 0 k = U) (hR : T.extract k T.size = R) (_ : R.size ≤ 100) (HV : Hid (ValP U v)) (hn1 : 1000 * v = n1) (fn1 : IntKind.i64.wrap n1 = n1) (hr1 : 0 < R.size) (F : ByteArray) (L : Nat) (_ : R.extract 1 R.size = F) (_ : Hid (DigP F L)) (HB : Hid (P = (0, 3))) (hb2 : (((R[0]'hr1).toNat : Int) == 46) = false ∧ (((R[0]'hr1).toNat : Int) != 46) = true) :
    Calls Tryd.prog 26 #[.string s] w fun e w' => e = .returned (.tuple #[.int .i64 P.1, .int .i64 P.2]) ∧ w = w' := by
  rcases hform with rfl | ⟨h1, h0, h1'⟩ <;> rcases hcase with ⟨rfl, rfl, c0⟩ | ⟨rfl, rfl, c0, c1⟩ | ⟨rfl, c0, c1, c2⟩ <;> rcases hb2 with ⟨g, gn⟩
  all_goals first
    | (exfalso; omega)
    | (go_enter Tryd.func26, Tryd.ntmps26
       go_wp2_with fail
       refine (HRD.out _).mono ?_
       rintro e w1 ⟨rfl, rfl⟩
       go_wp2_with fail
       refine (HV.out _).mono ?_
       rintro e w1 ⟨rfl, rfl⟩
       go_wp2
       all_goals (go_ret2; exact ⟨by rw [HB.out]; rfl, rfl⟩))
set_option maxHeartbeats 4000000 in
theorem rp_second_b (s T : ByteArray) (neg : Bool) (k : Nat) (P : Int × Int) (w : World) (hs : s.size ≤ 100) (hTs : T.size ≤ 100) (hcase : PCase s T neg) (hkT : k ≤ T.size) (HRD : Hid (DigP T k)) (hk1 : 1 ≤ k) (hk2 : k ≤ 10) (hform : PForm T k) (U R : ByteArray) (v n1 : Int) (hU : T.extract 0 k = U) (hR : T.extract k T.size = R) (_ : R.size ≤ 100) (HV : Hid (ValP U v)) (hn1 : 1000 * v = n1) (fn1 : IntKind.i64.wrap n1 = n1) (hr1 : 0 < R.size) (F : ByteArray) (L : Nat) (_ : R.extract 1 R.size = F) (_ : Hid (DigP F L)) (HB : Hid (P = (0, 3))) (hb2 : (((R[0]'hr1).toNat : Int) == 46) = true ∧ (((R[0]'hr1).toNat : Int) != 46) = false ∧ ((R.size : Int) < 2 ∨ (2 ≤ (R.size : Int) ∧ 4 < (R.size : Int)))) :
    Calls Tryd.prog 26 #[.string s] w fun e w' => e = .returned (.tuple #[.int .i64 P.1, .int .i64 P.2]) ∧ w = w' := by
  rcases hform with rfl | ⟨h1, h0, h1'⟩ <;> rcases hcase with ⟨rfl, rfl, c0⟩ | ⟨rfl, rfl, c0, c1⟩ | ⟨rfl, c0, c1, c2⟩ <;> rcases hb2 with ⟨g, gn, g1 | ⟨g1, g2⟩⟩
  all_goals first
    | (exfalso; omega)
    | (go_enter Tryd.func26, Tryd.ntmps26
       go_wp2_with fail
       refine (HRD.out _).mono ?_
       rintro e w1 ⟨rfl, rfl⟩
       go_wp2_with fail
       refine (HV.out _).mono ?_
       rintro e w1 ⟨rfl, rfl⟩
       go_wp2
       all_goals (go_ret2; exact ⟨by rw [HB.out]; rfl, rfl⟩))
set_option maxHeartbeats 4000000 in
theorem rp_second_c (s T : ByteArray) (neg : Bool) (k : Nat) (P : Int × Int) (w : World) (hs : s.size ≤ 100) (hTs : T.size ≤ 100) (hcase : PCase s T neg) (hkT : k ≤ T.size) (HRD : Hid (DigP T k)) (hk1 : 1 ≤ k) (hk2 : k ≤ 10) (hform : PForm T k) (U R : ByteArray) (v n1 : Int) (hU : T.extract 0 k = U) (hR : T.extract k T.size = R) (_ : R.size ≤ 100) (HV : Hid (ValP U v)) (hn1 : 1000 * v = n1) (fn1 : IntKind.i64.wrap n1 = n1) (hr1 : 0 < R.size) (F : ByteArray) (L : Nat) (hF : R.extract 1 R.size = F) (HRF : Hid (DigP F L)) (HB : Hid (P = (0, 3))) (hb2 : (((R[0]'hr1).toNat : Int) == 46) = true ∧ (((R[0]'hr1).toNat : Int) != 46) = false ∧ 2 ≤ (R.size : Int) ∧ (R.size : Int) ≤ 4 ∧ ((L : Int) == (R.size : Int) - 1) = false ∧ ((L : Int) != (R.size : Int) - 1) = true) :
    Calls Tryd.prog 26 #[.string s] w fun e w' => e = .returned (.tuple #[.int .i64 P.1, .int .i64 P.2]) ∧ w = w' := by
  rcases hform with rfl | ⟨h1, h0, h1'⟩ <;> rcases hcase with ⟨rfl, rfl, c0⟩ | ⟨rfl, rfl, c0, c1⟩ | ⟨rfl, c0, c1, c2⟩ <;> rcases hb2 with ⟨g, gn, g1, g2, g3, g4⟩
  all_goals first
    | (exfalso; omega)
    | (go_enter Tryd.func26, Tryd.ntmps26
       go_wp2_with fail
       refine (HRD.out _).mono ?_
       rintro e w1 ⟨rfl, rfl⟩
       go_wp2_with fail
       refine (HV.out _).mono ?_
       rintro e w1 ⟨rfl, rfl⟩
       go_wp2_with (go_at_call 47; refine (HRF.out _).mono ?_; rintro e w1 ⟨rfl, rfl⟩)
       all_goals (go_ret2; exact ⟨by rw [HB.out]; rfl, rfl⟩))
end Go.Proofs.YtcfikdoejmgejaaDoor
