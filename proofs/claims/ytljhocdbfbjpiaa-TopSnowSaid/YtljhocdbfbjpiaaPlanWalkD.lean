/-
  The walk of the function that checks a plan.
-/
import Derived.Test.YtljhocdbfbjpiaaPlanWalkC
namespace Go.Proofs.Ytljhocdbfbjpiaa
open Go.RowKit

theorem sumOut_any {n : Nat} {v w p : Int} {l : List Int} (h : Plan.okL n l = true) : sumOut n v w p l = .returned (.tuple #[useV v w p, .bool true]) := sumOut_yes h

set_option maxRecDepth 20000 in
set_option maxHeartbeats 4000000 in
theorem pvalid_any (gs : List Plan.Gun) (hs : List Plan.Hour) (ls : List (List Int)) (wt : Int) (A B C : Option Addr) (c d g : Nat) (w : World) (ha : Plan.Acc gs hs) (hG : RdG w A gs) (hH : RdH w B hs) (hL : RdL w C ls) :
    Calls Try.prog 10 #[.slice A gs.length c, .slice B hs.length d, .int .i64 wt, .slice C ls.length g] w fun e w' =>
      e = .returned (.bool (Plan.validE gs hs wt ls)) ∧ Below w.heap.size w w' := by
  obtain ⟨R, hR⟩ : ∃ R, R = Plan.validE gs hs wt ls := ⟨_, rfl⟩
  rw [← hR]
  have HR := Lib.hid hR
  have HA := Lib.hid ha
  have HG := Lib.hid hG
  have HH := Lib.hid hH
  have HL := Lib.hid hL
  have hl3 : hs.length ≤ 3 := ha.hl
  have HWC := Lib.hid (pworth_any gs hs ls A B C c d g w ha hG hH hL)
  obtain ⟨⟨rv, rx, rb⟩, hW⟩ : ∃ R, R = Plan.worthE gs hs ls := ⟨_, rfl⟩
  rw [← hW] at HWC
  have HW := Lib.hid hW
  clear hR ha hG hH hL hW
  cases rb with
  | false =>
    have hz : false = R := by rw [HR.out]; unfold Plan.validE; rw [← HW.out]; rfl
    have HZ := Lib.hid hz
    clear hz
    go_enter Try.func10, Try.ntmps10
    go_wp2_with fail
    refine HWC.out.mono ?_
    rintro e w1 ⟨rfl, hb1⟩
    go_wp2
    go_ret
    exact ⟨ret_bool HZ.out, hb1⟩
  | true =>
    obtain ⟨hn, hall⟩ := Plan.wFrom_ok (gs := gs) (hs := hs) (ls := ls) (v := 0) (w := 0) (by show (Plan.worthE gs hs ls).2.2 = true; rw [← HW.out])
    have HN := Lib.hid hn
    have HALL := Lib.hid hall
    have hl4 : ls.length ≤ 3 := by omega
    clear hn hall
    by_cases hx : wt < rx
    · have hz : false = R := by rw [HR.out]; unfold Plan.validE; rw [← HW.out]; simp [show ¬ rx ≤ wt by omega]
      have HZ := Lib.hid hz
      clear hz
      go_enter Try.func10, Try.ntmps10
      go_wp2_with fail
      refine HWC.out.mono ?_
      rintro e w1 ⟨rfl, hb1⟩
      go_wp2
      go_ret
      exact ⟨ret_bool HZ.out, hb1⟩
    · have hz : R = Plan.powOk gs hs ls := by rw [HR.out]; unfold Plan.validE; rw [← HW.out]; simp [show rx ≤ wt by omega]
      have HZ := Lib.hid hz
      clear hz
      go_enter Try.func10, Try.ntmps10
      go_wp2_with fail
      refine HWC.out.mono ?_
      rintro e w1 ⟨rfl, hb1⟩
      have HB1 := Lib.hid hb1
      clear hb1 HWC HW
      go_wp2
      go_loopw [33] (fun i wr => ∃ k : Nat, k ≤ ls.length ∧ i = .int .i64 k ∧ Plan.powOk gs (hs.drop k) (ls.drop k) = R ∧ Below w.heap.size w wr) (fun i _ => ls.length - (intOf i).toNat)
      case atStart => exact ⟨0, Nat.zero_le _, rfl, HZ.out.symm, HB1.out⟩
      case round =>
        obtain ⟨k, hk, rfl, hF, hb⟩ := hrel
        have HF := Lib.hid hF
        have HB := Lib.hid hb
        clear hF hb
        by_cases hlt : k < ls.length
        · have hlt2 : k < hs.length := by have := HN.out; omega
          obtain ⟨lb, lo, Ai, ci, rfl, hlb, hcl, hrd⟩ := (HL.out.below HB.out).at_ hlt
          obtain ⟨hb, ho, rfl, hhb, c0, c1⟩ := (HH.out.below HB.out).at_ hlt2
          have hok : Plan.okL gs.length (Plan.lAt ls k) = true := HALL.out _ (Plan.lAt_mem hlt)
          obtain ⟨l, hll⟩ : ∃ l, l = Plan.lAt ls k := ⟨_, rfl⟩
          rw [← hll] at hcl hrd hok
          have HLL := Lib.hid hll
          have HRD := Lib.hid hrd
          have HLT := Lib.hid hlt
          have HLT2 := Lib.hid hlt2
          have HK := Lib.hid hok
          clear hll hrd hok
          have hli : (k : Int) < (hs.length : Int) := by omega
          have hS := Lib.hid (fun W (hw : Below wr.heap.size wr W) => sum_any gs hs k l A Ai c ci W HA.out ((HG.out.below HB.out).below hw) (HRD.out.below hw))
          obtain ⟨po, hpo⟩ : ∃ x, x = (Plan.hAt hs k).power := ⟨_, rfl⟩
          rw [← hpo] at hS c0
          have HPO := Lib.hid hpo
          clear hpo
          generalize (Plan.hAt hs k).factor = fa at *
          obtain ⟨P, hP⟩ : ∃ x, x = Plan.pS gs l := ⟨_, rfl⟩
          rw [← hP] at hS
          have HP := Lib.hid hP
          clear hP
          have hc0 : ∀ W, Below wr.heap.size wr W → W.cell? ⟨hb, ho + k * 2, none⟩ = some (.int .i64 po) := fun W hW => (hW.cell (p := ⟨hb, ho + k * 2, none⟩) hhb).trans c0
          have HC0 := Lib.hid hc0
          clear hc0
          have hlw : ∀ W, Below wr.heap.size wr W → hb < W.heap.size := fun W hW => Nat.lt_of_lt_of_le hhb hW.size
          by_cases hp : po < P
          · go_wp2_with fail
            refine (hS.out _ (Below.refl _ _)).mono ?_
            rw [sumOut_yes HK.out]
            rintro e w2 ⟨rfl, hb2⟩
            have gB : Below w.heap.size w w2 := thru HB.out hb2 HB.out.size
            have c2 := HC0.out w2 hb2
            have z2 := hlw w2 hb2
            clear hS c0 c1 hcl hlw
            go_wp2_with fail
            go_quiet (fail)
            go_wp2
            go_ret
            refine ⟨ret_bool ?_, (gB.alloc gB.size _).trans (Joins.below_draws _ _ _)⟩
            rw [← HF.out]
            exact (Plan.powOk_bad HLT2.out HLT.out (by rw [← HPO.out, ← HLL.out, ← HP.out]; exact hp)).symm
          · have hp' : P ≤ po := by omega
            go_wp2_with fail
            refine (hS.out _ (Below.refl _ _)).mono ?_
            rw [sumOut_yes HK.out]
            rintro e w2 ⟨rfl, hb2⟩
            have gB : Below w.heap.size w w2 := thru HB.out hb2 HB.out.size
            have c2 := HC0.out w2 hb2
            have z2 := hlw w2 hb2
            clear hS c0 c1 hcl hlw
            go_wp2_with fail
            go_quiet (fail)
            go_wp2
            go_roundw
            case rel =>
              refine ⟨k + 1, HLT.out, by go_num, ?_, (gB.alloc gB.size _).trans (Joins.below_draws _ _ _)⟩
              rw [← HF.out]
              exact (Plan.powOk_next HLT2.out HLT.out (by rw [← HPO.out, ← HLL.out, ← HP.out]; exact hp')).symm
            case measure => have := HLT.out; simp [intOf]; omega
        · have hke : ls.length ≤ k := by omega
          have hz : true = R := by rw [← HF.out]; exact (Plan.powOk_end hke).symm
          have HZ2 := Lib.hid hz
          clear hke hz HF HZ
          go_wp2
          go_ret
          exact ⟨ret_bool HZ2.out, HB.out⟩
end Go.Proofs.Ytljhocdbfbjpiaa
