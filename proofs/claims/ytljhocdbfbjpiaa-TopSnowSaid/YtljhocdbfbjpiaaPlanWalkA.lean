/-
  The walks of the functions that check guns and hours.
-/
import Derived.Test.YtljhocdbfbjpiaaPlanRead
namespace Go.Proofs.Ytljhocdbfbjpiaa
open Go.RowKit Go.Maps

theorem field_any (n : Int) (w : World) : Calls Try.prog 56 #[.int .i64 n] w fun e w' => e = .returned (.bool (Plan.fld n)) ∧ w = w' := by
  go_enter Try.func56, Try.ntmps56
  go_wp2
  all_goals
    go_ret
    exact ⟨ret_bool (by unfold Plan.fld; simp [*]; try omega), rfl⟩
theorem okGun_no {g : Plan.Gun} (h : ¬ (1 ≤ g.id ∧ g.id ≤ 9999 ∧ Plan.fld g.water = true ∧ Plan.fld g.power = true ∧ Plan.fld g.value = true)) : Plan.okGun g = false := by
  cases e : Plan.okGun g
  · rfl
  · exfalso; apply h
    unfold Plan.okGun at e
    simpa [and_assoc] using e
theorem okGun_yes {g : Plan.Gun} (h : 1 ≤ g.id ∧ g.id ≤ 9999 ∧ Plan.fld g.water = true ∧ Plan.fld g.power = true ∧ Plan.fld g.value = true) : Plan.okGun g = true := by
  unfold Plan.okGun
  simpa [and_assoc] using h
theorem okHour_no {g : Plan.Hour} (h : ¬ (Plan.fld g.power = true ∧ 0 ≤ g.factor ∧ g.factor ≤ 1000)) : Plan.okHour g = false := by
  cases e : Plan.okHour g
  · rfl
  · exfalso; apply h
    unfold Plan.okHour at e
    simpa [and_assoc] using e
theorem okHour_yes {g : Plan.Hour} (h : Plan.fld g.power = true ∧ 0 ≤ g.factor ∧ g.factor ≤ 1000) : Plan.okHour g = true := by
  unfold Plan.okHour
  simpa [and_assoc] using h
theorem rightE_long {gs : List Plan.Gun} {hs : List Plan.Hour} (h : 5 < gs.length ∨ 3 < hs.length) : Plan.rightE gs hs = 4 := if_pos h
theorem rightE_gun {gs : List Plan.Gun} {hs : List Plan.Hour} (h : ¬ (5 < gs.length ∨ 3 < hs.length)) {x : Int} (hx : Plan.gunsE [] gs = x) (h0 : x ≠ 0) : Plan.rightE gs hs = x := by
  unfold Plan.rightE; rw [if_neg h, hx, if_neg h0]
theorem rightE_hour {gs : List Plan.Gun} {hs : List Plan.Hour} (h : ¬ (5 < gs.length ∨ 3 < hs.length)) (hx : Plan.gunsE [] gs = 0) : Plan.rightE gs hs = Plan.hoursE hs := by
  unfold Plan.rightE; rw [if_neg h, hx, if_pos rfl]

set_option maxRecDepth 20000 in
set_option maxHeartbeats 4000000 in
theorem pright_any (gs : List Plan.Gun) (hs : List Plan.Hour) (A B : Option Addr) (c d : Nat) (w : World) (hG : RdG w A gs) (hH : RdH w B hs) :
    Calls Try.prog 23 #[.slice A gs.length c, .slice B hs.length d] w fun e w' => e = .returned (.int .i64 (Plan.rightE gs hs)) ∧ Below w.heap.size w w' := by
  by_cases hn : 5 < gs.length ∨ 3 < hs.length
  · rw [rightE_long hn]
    rcases hn with h | h
    · go_enter Try.func23, Try.ntmps23
      go_wp2
      go_ret
      exact ⟨rfl, Below.refl _ _⟩
    · by_cases h5 : 5 < gs.length
      · go_enter Try.func23, Try.ntmps23
        go_wp2
        go_ret
        exact ⟨rfl, Below.refl _ _⟩
      · go_enter Try.func23, Try.ntmps23
        go_wp2
        go_ret
        exact ⟨rfl, Below.refl _ _⟩
  · have hn1 : gs.length ≤ 5 := by omega
    have hn2 : hs.length ≤ 3 := by omega
    obtain ⟨R, hR⟩ : ∃ R, R = Plan.rightE gs hs := ⟨_, rfl⟩
    rw [← hR]
    have HR := Lib.hid hR
    have HN := Lib.hid hn
    have HG := Lib.hid hG
    have HH := Lib.hid hH
    clear hR hn hG hH
    have hmm := @run_makeMap Try.prog
    go_enter Try.func23, Try.ntmps23
    go_wp2
    go_loopw [21] (fun i wr => ∃ k : Nat, k ≤ gs.length ∧ i = .int .i64 k ∧ Seen wr w.heap.size k (Plan.idsL gs k) ∧ Plan.gunsE (Plan.idsL gs k) (gs.drop k) = Plan.gunsE [] gs ∧ Below w.heap.size w wr ∧ w.heap.size < wr.heap.size) (fun i _ => gs.length - (intOf i).toNat)
    case atStart => exact ⟨0, Nat.zero_le _, rfl, Seen.made _, rfl, (Below.refl _ _).alloc (Nat.le_refl _) _, by simp⟩
    case round =>
      obtain ⟨k, hk, rfl, hS, hE, hb, hz⟩ := hrel
      have HE := Lib.hid hE
      have HB := Lib.hid hb
      have hbb := hb
      clear hE hb
      by_cases hlt : k < gs.length
      · obtain ⟨b, off, rfl, hbl, c0, c1, c2, c3⟩ := (HG.out.below hbb).at_ hlt
        obtain ⟨id, hid⟩ : ∃ x, x = (Plan.gAt gs k).id := ⟨_, rfl⟩
        obtain ⟨wa, hwa⟩ : ∃ x, x = (Plan.gAt gs k).water := ⟨_, rfl⟩
        obtain ⟨po, hpo⟩ : ∃ x, x = (Plan.gAt gs k).power := ⟨_, rfl⟩
        obtain ⟨va, hva⟩ : ∃ x, x = (Plan.gAt gs k).value := ⟨_, rfl⟩
        rw [← hid] at c0
        rw [← hwa] at c1
        rw [← hpo] at c2
        rw [← hva] at c3
        have HID := Lib.hid hid
        have HWA := Lib.hid hwa
        have HPO := Lib.hid hpo
        have HVA := Lib.hid hva
        have HLT := Lib.hid hlt
        clear hid hwa hpo hva hbb
        have hbad : Plan.okGun (Plan.gAt gs k) = false → R = 2 := fun h => by
          rw [HR.out]
          exact rightE_gun HN.out (HE.out.symm.trans (Plan.gunsE_bad HLT.out h)) (by decide)
        have HBAD := Lib.hid hbad
        clear hbad
        by_cases q1 : id < 1
        · go_wp2
          go_ret
          exact ⟨ret_int (HBAD.out (okGun_no (by rw [← HID.out]; omega))).symm, HB.out.alloc HB.out.size _⟩
        by_cases q2 : 9999 < id
        · go_wp2
          go_ret
          exact ⟨ret_int (HBAD.out (okGun_no (by rw [← HID.out]; omega))).symm, HB.out.alloc HB.out.size _⟩
        cases hw : Plan.fld wa
        · have HW := Lib.hid hw
          clear hw
          go_wp2_with fail
          refine (field_any wa _).mono ?_
          rw [HW.out]
          rintro e w2 ⟨rfl, rfl⟩
          go_wp2
          go_ret
          exact ⟨ret_int (HBAD.out (okGun_no (by rw [← HWA.out, HW.out]; simp))).symm, HB.out.alloc HB.out.size _⟩
        have HW := Lib.hid hw
        clear hw
        cases hp : Plan.fld po
        · have HP := Lib.hid hp
          clear hp
          go_wp2_with fail
          refine (field_any wa _).mono ?_
          rw [HW.out]
          rintro e w2 ⟨rfl, rfl⟩
          go_wp2_with fail
          refine (field_any po _).mono ?_
          rw [HP.out]
          rintro e w2 ⟨rfl, rfl⟩
          go_wp2
          go_ret
          exact ⟨ret_int (HBAD.out (okGun_no (by rw [← HPO.out, HP.out]; simp))).symm, HB.out.alloc HB.out.size _⟩
        have HP := Lib.hid hp
        clear hp
        go_wp2_with fail
        refine (field_any wa _).mono ?_
        rw [HW.out]
        rintro e w2 ⟨rfl, rfl⟩
        go_wp2_with fail
        refine (field_any po _).mono ?_
        rw [HP.out]
        rintro e w2 ⟨rfl, rfl⟩
        go_wp2_with fail
        refine (field_any va _).mono ?_
        cases hv : Plan.fld va
        · have HV := Lib.hid hv
          clear hv
          rintro e w2 ⟨rfl, rfl⟩
          go_wp2
          go_ret
          exact ⟨ret_int (HBAD.out (okGun_no (by rw [← HVA.out, HV.out]; simp))).symm, HB.out.alloc HB.out.size _⟩
        · have hok : Plan.okGun (Plan.gAt gs k) = true := okGun_yes ⟨by rw [← HID.out]; omega, by rw [← HID.out]; omega, by rw [← HWA.out]; exact HW.out, by rw [← HPO.out]; exact HP.out, by rw [← HVA.out]; exact hv⟩
          have HOK := Lib.hid hok
          clear hok hv HBAD
          rintro e w2 ⟨rfl, rfl⟩
          obtain ⟨D, ho, hm, hat⟩ := hS
          have hkey : keyOf Try.prog 3 (.int .i64 id) = some (.int .i64 id) := keyOf_int_mk Try.underlying3 (WalkArith.wf_i64 (by omega))
          have hatk := hat id
          cases hc : (Plan.idsL gs k).contains id
          · rw [hc] at hatk
            have HC := Lib.hid hc
            have HAT := Lib.hid hat
            have HM := Lib.hid hm
            clear hc hat hm
            go_wp2_with (first
              | (at_lookup; refine wpList_lookup_own_bool _ rfl _ _ 137 rfl 3 4 mapLaw Try.underlying137 Try.underlying4 (boolZero _) w.heap.size k D rfl (ho.alloc _) _ _ rfl hkey false hatk ?_)
              | (at_mapUpdate; refine wpList_mapUpdate_own _ rfl _ _ _ 137 rfl 3 4 mapLaw Try.underlying137 _ w.heap.size k _ rfl (ho.alloc _) (by unfold maxLen; omega) _ _ _ rfl rfl hkey _ [] (plainElem_bool Try.underlying4 true) ?_; intro w3 hown3 hgrow3)
              | go_in)
            go_roundw
            case rel =>
              have hall := (World.grownBy_alloc wr (.cells #[.int .i64 id, .int .i64 wa, .int .i64 po, .int .i64 va] 79) (some w.heap.size)).trans hgrow3
              refine ⟨k + 1, HLT.out, by go_num, ⟨_, hown3, HM.out.put _ _, ?_⟩, ?_, HB.out.grown hall HB.out.size (fun j hj => by cases hj; exact Nat.le_refl _), Nat.lt_of_lt_of_le hz hall.size⟩
              · rw [Plan.ids_step HLT.out, ← HID.out]
                exact seen_put HM.out HAT.out
              · rw [← Plan.gunsE_next HLT.out HOK.out (by rw [← HID.out]; exact HC.out)]
                exact HE.out
            case measure => have := HLT.out; simp [intOf]; omega
          · rw [hc] at hatk
            have HC := Lib.hid hc
            clear hc hat hm
            go_wp2_with (first
              | (at_lookup; refine wpList_lookup_own_bool _ rfl _ _ 137 rfl 3 4 mapLaw Try.underlying137 Try.underlying4 (boolZero _) w.heap.size k D rfl (ho.alloc _) _ _ rfl hkey true hatk ?_)
              | go_in)
            go_ret
            refine ⟨ret_int ?_, HB.out.alloc HB.out.size _⟩
            rw [HR.out]
            exact (rightE_gun HN.out (HE.out.symm.trans (Plan.gunsE_twice HLT.out HOK.out (by rw [← HID.out]; exact HC.out))) (by decide)).symm
      · have hke : k = gs.length := by omega
        have hE0 : Plan.gunsE [] gs = 0 := by rw [← HE.out, List.drop_eq_nil_of_le (by omega)]; rfl
        have HE0 := Lib.hid hE0
        clear hE0 HE hS hke
        go_wp2
        go_loopw [61] (fun i wq => ∃ j : Nat, j ≤ hs.length ∧ i = .int .i64 j ∧ Plan.hoursE (hs.drop j) = Plan.hoursE hs ∧ Below w.heap.size w wq) (fun i _ => hs.length - (intOf i).toNat)
        case atStart => exact ⟨0, Nat.zero_le _, rfl, rfl, HB.out⟩
        case round =>
          obtain ⟨j, hj, rfl, hE, hb⟩ := hrel
          have HE := Lib.hid hE
          have HB2 := Lib.hid hb
          have hbb2 := hb
          clear hE hb
          by_cases hjl : j < hs.length
          · obtain ⟨b, off, rfl, hbl, c0, c1⟩ := (HH.out.below hbb2).at_ hjl
            obtain ⟨po, hpo⟩ : ∃ x, x = (Plan.hAt hs j).power := ⟨_, rfl⟩
            obtain ⟨fa, hfa⟩ : ∃ x, x = (Plan.hAt hs j).factor := ⟨_, rfl⟩
            rw [← hpo] at c0
            rw [← hfa] at c1
            have HPO := Lib.hid hpo
            have HFA := Lib.hid hfa
            have HLT := Lib.hid hjl
            clear hpo hfa hbb2
            have hbad : Plan.okHour (Plan.hAt hs j) = false → R = 2 := fun h => by
              rw [HR.out]
              exact (rightE_hour HN.out HE0.out).trans (HE.out.symm.trans (Plan.hoursE_bad HLT.out h))
            have HBAD := Lib.hid hbad
            clear hbad
            cases hp : Plan.fld po
            · have HP := Lib.hid hp
              clear hp
              go_wp2_with fail
              refine (field_any po _).mono ?_
              rw [HP.out]
              rintro e w2 ⟨rfl, rfl⟩
              go_wp2
              go_ret
              exact ⟨ret_int (HBAD.out (okHour_no (by rw [← HPO.out, HP.out]; simp))).symm, HB2.out.alloc HB2.out.size _⟩
            have HP := Lib.hid hp
            clear hp
            by_cases q1 : fa < 0
            · go_wp2_with fail
              refine (field_any po _).mono ?_
              rw [HP.out]
              rintro e w2 ⟨rfl, rfl⟩
              go_wp2
              go_ret
              exact ⟨ret_int (HBAD.out (okHour_no (by rw [← HFA.out]; omega))).symm, HB2.out.alloc HB2.out.size _⟩
            by_cases q2 : 1000 < fa
            · go_wp2_with fail
              refine (field_any po _).mono ?_
              rw [HP.out]
              rintro e w2 ⟨rfl, rfl⟩
              go_wp2
              go_ret
              exact ⟨ret_int (HBAD.out (okHour_no (by rw [← HFA.out]; omega))).symm, HB2.out.alloc HB2.out.size _⟩
            go_wp2_with fail
            refine (field_any po _).mono ?_
            rw [HP.out]
            rintro e w2 ⟨rfl, rfl⟩
            go_wp2
            go_roundw
            case rel =>
              refine ⟨j + 1, HLT.out, by go_num, ?_, HB2.out.alloc HB2.out.size _⟩
              rw [← Plan.hoursE_next HLT.out (okHour_yes ⟨by rw [← HPO.out]; exact HP.out, by rw [← HFA.out]; omega, by rw [← HFA.out]; omega⟩)]
              exact HE.out
            case measure => have := HLT.out; simp [intOf]; omega
          · have hje : j = hs.length := by omega
            have HJ := Lib.hid hje
            clear hje
            go_wp2
            go_ret
            refine ⟨ret_int ?_, HB2.out⟩
            rw [HR.out, rightE_hour HN.out HE0.out, ← HE.out, List.drop_eq_nil_of_le (by rw [HJ.out]; exact Nat.le_refl _)]
            rfl
end Go.Proofs.Ytljhocdbfbjpiaa
