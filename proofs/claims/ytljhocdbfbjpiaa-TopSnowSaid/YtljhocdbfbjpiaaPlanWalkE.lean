/-
  The walk of the reference's function that checks guns and hours.
-/
import Derived.Test.YtljhocdbfbjpiaaPlanWalkA
namespace Go.Proofs.Ytljhocdbfbjpiaa
open Go.RowKit

theorem okGun_no2 {g : Plan.Gun} {a b c d : Int} (e1 : a = g.id) (e2 : b = g.water) (e3 : c = g.power) (e4 : d = g.value)
    (h : ¬ (1 ≤ a ∧ a ≤ 9999 ∧ (0 ≤ b ∧ b ≤ 1000000000) ∧ (0 ≤ c ∧ c ≤ 1000000000) ∧ (0 ≤ d ∧ d ≤ 1000000000))) : Plan.okGun g = false := by
  subst e1 e2 e3 e4
  cases e : Plan.okGun g
  · rfl
  · exact absurd (Plan.okGun_iff.1 e) h
theorem okHour_no2 {g : Plan.Hour} {a b : Int} (e1 : a = g.power) (e2 : b = g.factor) (h : ¬ ((0 ≤ a ∧ a ≤ 1000000000) ∧ 0 ≤ b ∧ b ≤ 1000)) : Plan.okHour g = false := by
  subst e1 e2
  cases e : Plan.okHour g
  · rfl
  · exact absurd (Plan.okHour_iff.1 e) h
theorem okGun_yes2 {g : Plan.Gun} {a b c d : Int} (e1 : a = g.id) (e2 : b = g.water) (e3 : c = g.power) (e4 : d = g.value)
    (h : 1 ≤ a ∧ a ≤ 9999 ∧ (0 ≤ b ∧ b ≤ 1000000000) ∧ (0 ≤ c ∧ c ≤ 1000000000) ∧ (0 ≤ d ∧ d ≤ 1000000000)) : Plan.okGun g = true := by
  subst e1 e2 e3 e4; exact Plan.okGun_iff.2 h
theorem okHour_yes2 {g : Plan.Hour} {a b : Int} (e1 : a = g.power) (e2 : b = g.factor) (h : (0 ≤ a ∧ a ≤ 1000000000) ∧ 0 ≤ b ∧ b ≤ 1000) : Plan.okHour g = true := by
  subst e1 e2; exact Plan.okHour_iff.2 h
theorem ids_has {gs : List Plan.Gun} {k : Nat} (hk : k ≤ gs.length) {x : Int} : (Plan.idsL gs k).contains x = true ↔ ∃ j, j < k ∧ (Plan.gAt gs j).id = x := by
  induction k with
  | zero => simp [Plan.idsL]
  | succ k ih =>
    rw [Plan.ids_step (by omega)]
    simp only [List.contains_iff_mem, List.mem_append, List.mem_singleton]
    rw [← List.contains_iff_mem, ih (by omega)]
    constructor
    · rintro (⟨j, hj, e⟩ | e)
      · exact ⟨j, by omega, e⟩
      · exact ⟨k, by omega, e.symm⟩
    · rintro ⟨j, hj, e⟩
      rcases Nat.lt_or_ge j k with h | h
      · exact .inl ⟨j, h, e⟩
      · obtain rfl : j = k := by omega
        exact .inr e.symm

set_option maxRecDepth 20000 in
set_option maxHeartbeats 4000000 in
theorem rright_any (gs : List Plan.Gun) (hs : List Plan.Hour) (A B : Option Addr) (c d : Nat) (w : World) (hG : RdG w A gs) (hH : RdH w B hs) :
    Calls Try.prog 6 #[.slice A gs.length c, .slice B hs.length d] w fun e w' => e = .returned (.int .i64 (Plan.rightE gs hs)) ∧ Below w.heap.size w w' := by
  by_cases hn : 5 < gs.length ∨ 3 < hs.length
  · rw [rightE_long hn]
    rcases hn with h | h
    · go_enter Try.func6, Try.ntmps6
      go_wp2
      go_ret
      exact ⟨rfl, Below.refl _ _⟩
    · by_cases h5 : 5 < gs.length
      · go_enter Try.func6, Try.ntmps6
        go_wp2
        go_ret
        exact ⟨rfl, Below.refl _ _⟩
      · go_enter Try.func6, Try.ntmps6
        go_wp2
        go_ret
        exact ⟨rfl, Below.refl _ _⟩
  · have hn1 : gs.length ≤ 5 := by omega
    have hn2 : hs.length ≤ 3 := by omega
    obtain ⟨R, hR⟩ : ∃ R, R = Plan.rightE gs hs := ⟨_, rfl⟩
    rw [← hR]
    have HR := Lib.hid hR
    have HN := Lib.hid hn
    have HG := Lib.hid hG
    have HH := Lib.hid hH
    clear hR hn hG hH
    go_enter Try.func6, Try.ntmps6
    go_wp2
    go_loopw [5] (fun i wr => ∃ k : Nat, k ≤ gs.length ∧ i = .int .i64 k ∧ Plan.gunsE (Plan.idsL gs k) (gs.drop k) = Plan.gunsE [] gs ∧ Below w.heap.size w wr) (fun i _ => gs.length - (intOf i).toNat)
    case atStart => exact ⟨0, Nat.zero_le _, rfl, rfl, Below.refl _ _⟩
    case round =>
      obtain ⟨k, hk, rfl, hE, hb⟩ := hrel
      have HE := Lib.hid hE
      have HB := Lib.hid hb
      clear hE hb
      by_cases hlt : k < gs.length
      · obtain ⟨b, off, rfl, hbl, c0, c1, c2, c3⟩ := (HG.out.below HB.out).at_ hlt
        obtain ⟨id, hid⟩ : ∃ x, x = (Plan.gAt gs k).id := ⟨_, rfl⟩
        obtain ⟨wa, hwa⟩ : ∃ x, x = (Plan.gAt gs k).water := ⟨_, rfl⟩
        obtain ⟨po, hpo⟩ : ∃ x, x = (Plan.gAt gs k).power := ⟨_, rfl⟩
        obtain ⟨va, hva⟩ : ∃ x, x = (Plan.gAt gs k).value := ⟨_, rfl⟩
        rw [← hid] at c0
        rw [← hwa] at c1
        rw [← hpo] at c2
        rw [← hva] at c3
        have HID := Lib.hid hid
        have HWA := Lib.hid hwa
        have HPO := Lib.hid hpo
        have HVA := Lib.hid hva
        have HLT := Lib.hid hlt
        clear hid hwa hpo hva
        have hbad : Plan.okGun (Plan.gAt gs k) = false → R = 2 := fun h => by
          rw [HR.out]
          exact rightE_gun HN.out (HE.out.symm.trans (Plan.gunsE_bad HLT.out h)) (by decide)
        have HBAD := Lib.hid hbad
        clear hbad
        by_cases q1 : id < 1
        · go_wp2
          go_ret
          exact ⟨ret_int (HBAD.out (okGun_no2 HID.out HWA.out HPO.out HVA.out (by omega))).symm, HB.out.alloc HB.out.size _⟩
        by_cases q2 : 9999 < id
        · go_wp2
          go_ret
          exact ⟨ret_int (HBAD.out (okGun_no2 HID.out HWA.out HPO.out HVA.out (by omega))).symm, HB.out.alloc HB.out.size _⟩
        by_cases q3 : wa < 0
        · go_wp2
          go_ret
          exact ⟨ret_int (HBAD.out (okGun_no2 HID.out HWA.out HPO.out HVA.out (by omega))).symm, HB.out.alloc HB.out.size _⟩
        by_cases q4 : 1000000000 < wa
        · go_wp2
          go_ret
          exact ⟨ret_int (HBAD.out (okGun_no2 HID.out HWA.out HPO.out HVA.out (by omega))).symm, HB.out.alloc HB.out.size _⟩
        by_cases q5 : po < 0
        · go_wp2
          go_ret
          exact ⟨ret_int (HBAD.out (okGun_no2 HID.out HWA.out HPO.out HVA.out (by omega))).symm, HB.out.alloc HB.out.size _⟩
        by_cases q6 : 1000000000 < po
        · go_wp2
          go_ret
          exact ⟨ret_int (HBAD.out (okGun_no2 HID.out HWA.out HPO.out HVA.out (by omega))).symm, HB.out.alloc HB.out.size _⟩
        by_cases q7 : va < 0
        · go_wp2
          go_ret
          exact ⟨ret_int (HBAD.out (okGun_no2 HID.out HWA.out HPO.out HVA.out (by omega))).symm, HB.out.alloc HB.out.size _⟩
        by_cases q8 : 1000000000 < va
        · go_wp2
          go_ret
          exact ⟨ret_int (HBAD.out (okGun_no2 HID.out HWA.out HPO.out HVA.out (by omega))).symm, HB.out.alloc HB.out.size _⟩
        have hok : Plan.okGun (Plan.gAt gs k) = true := okGun_yes2 HID.out HWA.out HPO.out HVA.out (by omega)
        have HOK := Lib.hid hok
        clear hok HBAD
        go_wp2
        go_loopw [7] (fun i wq => ∃ j : Nat, j ≤ k ∧ i = .int .i64 j ∧ (∀ m, m < j → (Plan.gAt gs m).id ≠ id) ∧ wq.cell? ⟨wr.heap.size, 0, none⟩ = some (.int .i64 id) ∧ wr.heap.size < wq.heap.size ∧ Below wr.heap.size wr wq) (fun i _ => k - (intOf i).toNat)
        case atStart => exact ⟨0, Nat.zero_le _, rfl, fun m hm => absurd hm (by omega), by simp [go_sem], by simp, Joins.below_alloc1 _ _⟩
        case round =>
          obtain ⟨j, hj, rfl, hall, cg, hz, hbq⟩ := hrel
          have HALL := Lib.hid hall
          have HBQ := Lib.hid hbq
          clear hall hbq q1 q2 q3 q4 q5 q6 q7 q8
          by_cases hjk : j < k
          · obtain ⟨b', off', ee, hbl', d0, _, _, _⟩ := ((HG.out.below HB.out).below HBQ.out).at_ (i := j) (by have := HLT.out; omega)
            injection ee with ee
            injection ee with ee1 ee2
            subst ee1 ee2
            obtain ⟨x, hx⟩ : ∃ x, x = (Plan.gAt gs j).id := ⟨_, rfl⟩
            rw [← hx] at d0
            have HX := Lib.hid hx
            have HJK := Lib.hid hjk
            have hjl : (j : Int) < (gs.length : Int) := by have := HLT.out; omega
            clear hx c0 c1 c2 c3
            by_cases hxe : x = id
            · subst hxe
              go_wp2
              go_quiet (fail)
              go_wp2
              go_ret
              refine ⟨ret_int ?_, (thru HB.out HBQ.out HB.out.size).trans (Joins.below_draws _ _ _)⟩
              rw [HR.out]
              exact (rightE_gun HN.out (HE.out.symm.trans (Plan.gunsE_twice HLT.out HOK.out ((ids_has (by have := HLT.out; omega)).2 ⟨j, HJK.out, by rw [← HX.out, HID.out]⟩))) (by decide)).symm
            · have hx1 : (x == id) = false := beq_eq_false_iff_ne.2 hxe
              have hx2 : decide (x = id) = false := decide_eq_false hxe
              have HXE := Lib.hid hxe
              clear hxe
              go_wp2
              go_quiet (fail)
              go_wp2
              go_roundw
              case rel =>
                refine ⟨j + 1, HJK.out, by go_num, fun m hm => ?_, by simp [go_sem, cg], by simpa using hz, HBQ.out.trans (Joins.below_draws _ _ _)⟩
                rcases Nat.lt_or_ge m j with h | h
                · exact HALL.out m h
                · obtain rfl : m = j := by omega
                  rw [← HX.out]; exact HXE.out
              case measure => have := HJK.out; simp [intOf]; omega
          · have hje : j = k := by omega
            have hno : (Plan.idsL gs k).contains (Plan.gAt gs k).id = false := by
              cases e : (Plan.idsL gs k).contains (Plan.gAt gs k).id
              · rfl
              · obtain ⟨m, hm, he⟩ := (ids_has (by have := HLT.out; omega)).1 e
                exact absurd (by rw [he, ← HID.out]) (HALL.out m (by omega))
            have HNO := Lib.hid hno
            clear hno
            subst hje
            clear hj hjk cg hz c0 c1 c2 c3
            go_wp2
            go_roundw
            case rel =>
              refine ⟨j + 1, HLT.out, by go_num, ?_, thru HB.out HBQ.out HB.out.size⟩
              rw [← Plan.gunsE_next HLT.out HOK.out HNO.out]
              exact HE.out
            case measure => have := HLT.out; simp [intOf]; omega
      · have hke : k = gs.length := by omega
        have hE0 : Plan.gunsE [] gs = 0 := by rw [← HE.out, List.drop_eq_nil_of_le (by omega)]; rfl
        have HE0 := Lib.hid hE0
        clear hE0 HE hke
        go_wp2
        go_loopw [8] (fun i wq => ∃ j : Nat, j ≤ hs.length ∧ i = .int .i64 j ∧ Plan.hoursE (hs.drop j) = Plan.hoursE hs ∧ Below w.heap.size w wq) (fun i _ => hs.length - (intOf i).toNat)
        case atStart => exact ⟨0, Nat.zero_le _, rfl, rfl, HB.out⟩
        case round =>
          obtain ⟨j, hj, rfl, hE, hb⟩ := hrel
          have HE := Lib.hid hE
          have HB2 := Lib.hid hb
          clear hE hb
          by_cases hjl : j < hs.length
          · obtain ⟨b, off, rfl, hbl, c0, c1⟩ := (HH.out.below HB2.out).at_ hjl
            obtain ⟨po, hpo⟩ : ∃ x, x = (Plan.hAt hs j).power := ⟨_, rfl⟩
            obtain ⟨fa, hfa⟩ : ∃ x, x = (Plan.hAt hs j).factor := ⟨_, rfl⟩
            rw [← hpo] at c0
            rw [← hfa] at c1
            have HPO := Lib.hid hpo
            have HFA := Lib.hid hfa
            have HLT := Lib.hid hjl
            clear hpo hfa
            have hbad : Plan.okHour (Plan.hAt hs j) = false → R = 2 := fun h => by
              rw [HR.out]
              exact (rightE_hour HN.out HE0.out).trans (HE.out.symm.trans (Plan.hoursE_bad HLT.out h))
            have HBAD := Lib.hid hbad
            clear hbad
            by_cases q1 : po < 0
            · go_wp2
              go_ret
              exact ⟨ret_int (HBAD.out (okHour_no2 HPO.out HFA.out (by omega))).symm, HB2.out⟩
            by_cases q2 : 1000000000 < po
            · go_wp2
              go_ret
              exact ⟨ret_int (HBAD.out (okHour_no2 HPO.out HFA.out (by omega))).symm, HB2.out⟩
            by_cases q3 : fa < 0
            · go_wp2
              go_ret
              exact ⟨ret_int (HBAD.out (okHour_no2 HPO.out HFA.out (by omega))).symm, HB2.out⟩
            by_cases q4 : 1000 < fa
            · go_wp2
              go_ret
              exact ⟨ret_int (HBAD.out (okHour_no2 HPO.out HFA.out (by omega))).symm, HB2.out⟩
            have hok : Plan.okHour (Plan.hAt hs j) = true := okHour_yes2 HPO.out HFA.out (by omega)
            have HOK := Lib.hid hok
            clear hok HBAD
            go_wp2
            go_roundw
            case rel =>
              refine ⟨j + 1, HLT.out, by go_num, ?_, HB2.out⟩
              rw [← Plan.hoursE_next HLT.out HOK.out]
              exact HE.out
            case measure => have := HLT.out; simp [intOf]; omega
          · have hje : j = hs.length := by omega
            have HJ := Lib.hid hje
            clear hje
            go_wp2
            go_ret
            refine ⟨ret_int ?_, HB2.out⟩
            rw [HR.out, rightE_hour HN.out HE0.out, ← HE.out, List.drop_eq_nil_of_le (by rw [HJ.out]; exact Nat.le_refl _)]
            rfl
end Go.Proofs.Ytljhocdbfbjpiaa
