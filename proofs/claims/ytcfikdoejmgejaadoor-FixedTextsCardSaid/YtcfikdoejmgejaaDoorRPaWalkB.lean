/-
  The walk of the reference's Parse: aids, and the roads that end at the first test or with no rest.
-/
import Derived.Test.YtcfikdoejmgejaaDoorRPaWalk
namespace Go.Proofs.YtcfikdoejmgejaaDoor
open Go.RowKit

theorem ext_list (s : ByteArray) (a b : Nat) : (s.extract a b).data.toList = (s.data.toList.drop a).take (b - a) := by
  simp [ByteArray.data_extract]
theorem size_list (s : ByteArray) : s.data.toList.length = s.size := by simp
theorem finE_zero : finE true 0 = (0, 3) := rfl
theorem finE_neg {n : Int} (h : n ≠ 0) : finE true n = (-n, 0) := by unfold finE; rw [if_neg (fun h' => h h'.2), if_pos rfl]
theorem finE_pos (n : Int) : finE false n = (n, 0) := by unfold finE; rw [if_neg (fun h' => by cases h'.1), if_neg (by simp)]
def PCase (s T : ByteArray) (neg : Bool) : Prop := (neg = false ∧ T = s ∧ s.size = 0) ∨ (neg = false ∧ T = s ∧ ∃ h : 0 < s.size, (((s[0]'h).toNat : Int) == 45) = false) ∨ (neg = true ∧ ∃ h : 0 < s.size, (((s[0]'h).toNat : Int) == 45) = true ∧ s.extract 1 s.size = T)
def PForm (T : ByteArray) (k : Nat) : Prop := k = 1 ∨ (1 < k ∧ ∃ h : 0 < T.size, (((T[0]'h).toNat : Int) == 48) = false)
def DigP (T : ByteArray) (k : Nat) : Prop := ∀ W, Calls Tryd.prog 47 #[.string T] W fun e w' => e = .returned (.int .i64 (k : Int)) ∧ W = w'
def ValP (T : ByteArray) (v : Int) : Prop := ∀ W, Calls Tryd.prog 48 #[.string T] W fun e w' => e = .returned (.int .i64 v) ∧ W = w'
set_option maxHeartbeats 4000000 in
theorem rp_bad (s T : ByteArray) (neg : Bool) (k : Nat) (P : Int × Int) (w : World) (hs : s.size ≤ 100) (hTs : T.size ≤ 100) (hcase : PCase s T neg) (hkT : k ≤ T.size) (HRD : Hid (DigP T k)) (HB : Hid (P = (0, 3))) (hb2 : k < 1 ∨ (1 ≤ k ∧ 10 < k) ∨ (1 < k ∧ k ≤ 10 ∧ ∃ h : 0 < T.size, (((T[0]'h).toNat : Int) == 48) = true)) :
    Calls Tryd.prog 26 #[.string s] w fun e w' => e = .returned (.tuple #[.int .i64 P.1, .int .i64 P.2]) ∧ w = w' := by
  rcases hb2 with h | ⟨h, h'⟩ | ⟨h, h', h0, h48⟩ <;> rcases hcase with ⟨rfl, rfl, c0⟩ | ⟨rfl, rfl, c0, c1⟩ | ⟨rfl, c0, c1, c2⟩
  all_goals first
    | (exfalso; omega)
    | (go_enter Tryd.func26, Tryd.ntmps26
       go_wp2_with fail
       refine (HRD.out _).mono ?_
       rintro e w1 ⟨rfl, rfl⟩
       go_wp2
       go_ret2
       exact ⟨by rw [HB.out]; rfl, rfl⟩)
set_option maxHeartbeats 4000000 in
theorem rp_r0 (s T : ByteArray) (neg : Bool) (k : Nat) (P : Int × Int) (w : World) (hs : s.size ≤ 100) (hTs : T.size ≤ 100) (hcase : PCase s T neg) (hkT : k ≤ T.size) (HRD : Hid (DigP T k)) (hk1 : 1 ≤ k) (hk2 : k ≤ 10) (hform : PForm T k) (U R : ByteArray) (v n1 : Int) (hU : T.extract 0 k = U) (hR : T.extract k T.size = R) (_ : R.size ≤ 100) (HV : Hid (ValP U v)) (hn1 : 1000 * v = n1) (fn1 : IntKind.i64.wrap n1 = n1) (fn4 : IntKind.i64.wrap (-n1) = -n1) (hz1 : n1 = 0 ∨ ((n1 == 0) = false ∧ n1 ≠ 0)) (HP3 : Hid (P = finE neg n1)) (hr0 : R.size = 0) :
    Calls Tryd.prog 26 #[.string s] w fun e w' => e = .returned (.tuple #[.int .i64 P.1, .int .i64 P.2]) ∧ w = w' := by
  rcases hform with rfl | ⟨h1, h0, h1'⟩ <;> rcases hcase with ⟨rfl, rfl, c0⟩ | ⟨rfl, rfl, c0, c1⟩ | ⟨rfl, c0, c1, c2⟩ <;> rcases hz1 with rfl | ⟨hz, hzn⟩
  all_goals first
    | (exfalso; omega)
    | (go_enter Tryd.func26, Tryd.ntmps26
       go_wp2_with fail
       refine (HRD.out _).mono ?_
       rintro e w1 ⟨rfl, rfl⟩
       go_wp2_with fail
       refine (HV.out _).mono ?_
       rintro e w1 ⟨rfl, rfl⟩
       go_wp2
       go_ret2
       first
         | exact ⟨by rw [HP3.out, finE_pos]; rfl, rfl⟩
         | exact ⟨by rw [HP3.out, finE_zero]; rfl, rfl⟩
         | exact ⟨by rw [HP3.out, finE_neg hzn]; rfl, rfl⟩)
end Go.Proofs.YtcfikdoejmgejaaDoor
