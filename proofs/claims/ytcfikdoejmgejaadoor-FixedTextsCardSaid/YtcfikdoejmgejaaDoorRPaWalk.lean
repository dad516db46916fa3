/-
  The walks of the reference's reading of a text.
-/
import Derived.Test.YtcfikdoejmgejaaDoorRPaPlain
import Derived.Test.YtcfikdoejmgejaaDoorTextWalkD
namespace Go.Proofs.YtcfikdoejmgejaaDoor
open Go.RowKit

theorem getD_at (s : ByteArray) (k : Nat) (h : k < s.size) : s.data.toList.getD k 0 = s[k]'h := by
  rw [List.getD_eq_getElem?_getD, List.getElem?_eq_getElem (by simpa using h)]; simp; rfl
set_option maxHeartbeats 1000000 in
theorem rdigits_any (s : ByteArray) (w : World) (hs : s.size ≤ 1000) :
    Calls Tryd.prog 47 #[.string s] w fun e w' => e = .returned (.int .i64 (lead s.data.toList : Int)) ∧ w = w' := by
  go_enter Tryd.func47, Tryd.ntmps47
  go_wp2_with fail
  go_loop [3] (fun i => ∃ k : Nat, k ≤ s.size ∧ i = .int .i64 k ∧ ∀ j, j < k → isDig (s.data.toList.getD j 0) = true) (fun i => s.size - (intOf i).toNat)
  case atStart => exact ⟨0, Nat.zero_le _, rfl, fun j hj => absurd hj (by omega)⟩
  case round =>
    obtain ⟨k, hk, rfl, hall⟩ := hrel
    have HA := Lib.hid hall
    clear hall
    by_cases hlt : k < s.size
    · have hx := getD_at s k hlt
      have HX := Lib.hid hx
      clear hx
      go_wp2
      all_goals first
        | (go_ret
           exact ⟨by rw [show lead s.data.toList = k from lead_end _ _ HA.out (by simpa using hk) (fun _ => by rw [HX.out]; unfold isDig; simp; omega)]; rfl, rfl⟩)
        | (go_round
           case rel =>
             refine ⟨k + 1, by omega, by go_num, fun j hj => ?_⟩
             rcases Nat.lt_or_ge j k with h | h
             · exact HA.out j h
             · obtain rfl : j = k := by omega
               rw [HX.out]; unfold isDig; simp; omega
           case measure => simp [intOf]; omega)
    · have hke : k = s.size := by omega
      have HE : Hid (lead s.data.toList = k) := Lib.hid (lead_end _ _ HA.out (by simpa using hk) (fun h => absurd (show k < s.size by simpa using h) hlt))
      go_wp2
      go_ret
      exact ⟨by rw [HE.out, hke]; rfl, rfl⟩
set_option maxHeartbeats 1000000 in
theorem rvalue_any (s : ByteArray) (w : World) (hs : s.size ≤ 10) (hd : ∀ c ∈ s.data.toList, isDig c = true) :
    Calls Tryd.prog 48 #[.string s] w fun e w' => e = .returned (.int .i64 (val s.data.toList)) ∧ w = w' := by
  have HG := Lib.hid hd
  have HB := Lib.hid (val_take _ hd (by have : s.data.toList.length = s.size := by simp
                                        omega))
  clear hd
  go_enter Tryd.func48, Tryd.ntmps48
  go_wp2_with fail
  go_loop [3, 4] (fun n i => ∃ k : Nat, k ≤ s.size ∧ i = .int .i64 k ∧ n = .int .i64 (val (s.data.toList.take k))) (fun _ i => s.size - (intOf i).toNat)
  case atStart => exact ⟨0, Nat.zero_le _, rfl, rfl⟩
  case round =>
    obtain ⟨k, hk, rfl, rfl⟩ := hrel
    by_cases hlt : k < s.size
    · have hx := getD_at s k hlt
      have hm : s[k]'hlt ∈ s.data.toList := by
        rw [← hx, List.getD_eq_getElem?_getD, List.getElem?_eq_getElem (by simpa using hlt)]; exact List.getElem_mem _
      obtain ⟨x1, x2⟩ := isDig_iff.1 (HG.out _ hm)
      obtain ⟨v1, v2⟩ := HB.out k
      have HTS := Lib.hid (take_snoc s.data.toList k (by simpa using hlt))
      have HSN := Lib.hid (val_snoc (s.data.toList.take k) (s.data.toList.getD k 0))
      rw [hx] at HTS HSN
      clear hm hx
      generalize hv : val (s.data.toList.take k) = v at *
      generalize hxx : s[k]'hlt = x at *
      clear hv
      have u1 : IntKind.u8.wrap ((x.toNat : Int) - 48) = (x.toNat : Int) - 48 := IntWalk.u8_in _ (by omega)
      go_wp2
      go_round
      case rel => exact ⟨k + 1, by omega, by go_num, by rw [HTS.out, HSN.out]⟩
      case measure => simp [intOf]; omega
    · have hke : k = s.size := by omega
      have HVK : Hid (val (s.data.toList.take k) = val s.data.toList) := Lib.hid (by rw [List.take_of_length_le (by simp; omega)])
      obtain ⟨v1, v2⟩ := HB.out k
      rw [HVK.out] at *
      clear hke
      go_wp2
      go_ret
      exact ⟨rfl, rfl⟩
end Go.Proofs.YtcfikdoejmgejaaDoor
