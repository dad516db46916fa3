/-
  The walk of the look whether a string consists of digits.
-/
import Derived.Test.YtcfikdoejmgejaaDoorFixWalkB
import Derived.Lib.ConvBytes
namespace Go.Proofs.YtcfikdoejmgejaaDoor
open Go.RowKit

def isDig (c : UInt8) : Bool := decide (48 ≤ c.toNat) && decide (c.toNat ≤ 57)
def digs (l : List UInt8) (most : Nat) : Bool := l.all isDig && (decide (1 ≤ l.length) && decide (l.length ≤ most))

/-- The bytes of a string, in new memory. -/
theorem bytes_of (s : ByteArray) (w : World) : ∃ (wb : World) (cap : Nat), (convert 9 58 (.string s)).run Tryd.prog w = .ok (.slice (some ⟨w.heap.size, 0, none⟩) s.size cap) wb ∧
    (∀ j, j < s.size → wb.cell? ⟨w.heap.size, j, none⟩ = some (.int .u8 (s.data.toList.getD j 0).toNat)) ∧ Below w.heap.size w wb ∧ w.heap.size < wb.heap.size := by
  refine ⟨_, _, Lib.run_convert_string_bytes w 9 58 5 s Tryd.underlying9 Tryd.underlying58 Tryd.underlying5, fun j hj => Lib.bytesWorld_cell w _ s j hj, ?_, by rw [Lib.bytesWorld_size]; omega⟩
  exact ⟨rfl, rfl, rfl, by rw [Lib.bytesWorld_size]; omega, fun i hi => Lib.bytesWorld_at_old w _ s i hi⟩

theorem digs_no {s : ByteArray} {most k : Nat} (hk : k < s.size) (h : isDig (s.data.toList.getD k 0) = false) : digs s.data.toList most = false := by
  unfold digs
  have hk' : k < s.data.toList.length := by simpa using hk
  have : s.data.toList.all isDig = false := by
    rw [List.all_eq_false]
    refine ⟨s.data.toList[k], List.getElem_mem hk', ?_⟩
    rw [List.getD_eq_getElem?_getD, List.getElem?_eq_getElem hk'] at h
    intro hc
    exact absurd (h.symm.trans hc) (by decide)
  rw [this]; rfl
theorem digs_end {s : ByteArray} {most : Nat} (h : ∀ j, j < s.size → isDig (s.data.toList.getD j 0) = true) : digs s.data.toList most = (decide (1 ≤ s.size) && decide (s.size ≤ most)) := by
  unfold digs
  have : s.data.toList.all isDig = true := by
    rw [List.all_eq_true]
    intro x hx
    obtain ⟨j, hj, rfl⟩ := List.getElem_of_mem hx
    have := h j (by simpa using hj)
    rw [List.getD_eq_getElem?_getD, List.getElem?_eq_getElem hj] at this
    simpa using this
  rw [this]
  simp

set_option maxHeartbeats 1000000 in
theorem digits_any (s : ByteArray) (most : Nat) (w : World) (hs : s.size ≤ 1000) :
    Calls Tryd.prog 45 #[.string s, .int .i64 most] w fun e w' => e = .returned (.bool (digs s.data.toList most)) ∧ Below w.heap.size w w' := by
  obtain ⟨wb, cap, kc, hcell, hbel, hsz⟩ := bytes_of s w
  have HC := Lib.hid hcell
  have HB := Lib.hid hbel
  obtain ⟨R, hR⟩ : ∃ R, R = digs s.data.toList most := ⟨_, rfl⟩
  rw [← hR]
  have HR := Lib.hid hR
  clear hcell hbel hR
  go_enter Tryd.func45, Tryd.ntmps45
  go_wp2
  clear kc
  go_loop [10] (fun i => ∃ k : Nat, k ≤ s.size ∧ i = .int .i64 k ∧ ∀ j, j < k → isDig (s.data.toList.getD j 0) = true) (fun i => s.size - (intOf i).toNat)
  case atStart => exact ⟨0, Nat.zero_le _, rfl, fun j hj => absurd hj (by omega)⟩
  case round =>
    obtain ⟨k, hk, rfl, hall⟩ := hrel
    have HA := Lib.hid hall
    clear hall
    by_cases hlt : k < s.size
    · have hcell := HC.out k hlt
      generalize hx : s.data.toList.getD k 0 = x at *
      have HX := Lib.hid hx
      have hx1 : x.toNat ≤ 255 := by have := x.toNat_lt; omega
      clear hx
      generalize hy : x.toNat = y at *
      have HY := Lib.hid hy
      clear hy
      go_wp2
      all_goals first
        | (go_ret
           exact ⟨ret_bool (by rw [HR.out]; exact (digs_no hlt (by rw [HX.out]; unfold isDig; rw [HY.out]; simp; omega)).symm), HB.out⟩)
        | (go_round
           case rel =>
             refine ⟨k + 1, by omega, by go_num, fun j hj => ?_⟩
             rcases Nat.lt_or_ge j k with h | h
             · exact HA.out j h
             · obtain rfl : j = k := by omega
               rw [HX.out]; unfold isDig; rw [HY.out]; simp; omega
           case measure => simp [intOf]; omega)
    · have hke : k = s.size := by omega
      have HK := Lib.hid hke
      clear hke
      have HE := Lib.hid (digs_end (most := most) fun j hj => HA.out j (by rw [HK.out]; exact hj))
      go_wp2
      all_goals
        go_ret
        exact ⟨ret_bool (by rw [HR.out, HE.out, Bool.eq_iff_iff]; simp; try omega), HB.out⟩
end Go.Proofs.YtcfikdoejmgejaaDoor
