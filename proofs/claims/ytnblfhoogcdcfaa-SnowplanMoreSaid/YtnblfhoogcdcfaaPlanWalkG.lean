/-
  The walk of the reference's value of a plan.
-/
import Derived.Test.YtnblfhoogcdcfaaPlanWalkF
namespace Go.Proofs.Ytnblfhoogcdcfaa
open Go.RowKit

theorem step_raw {gs : List Plan.Gun} {hs : List Plan.Hour} {q k y : Nat} {l : List Int} {f : Int} (ha : Plan.Acc gs hs) (hk : k < l.length) (hok : ∀ j, j < k → Plan.OkAt gs.length l j) (hx : (y : Int) = Plan.iAt l k) (hf : f = (Plan.hAt hs q).factor) :
    ∃ pr dv : Int, IntKind.i64.wrap ((Plan.gAt gs y).value * f) = pr ∧ pr.tdiv 1000 = dv ∧ IntKind.i64.wrap dv = dv ∧ Plan.vS gs f (l.take (k + 1)) = Plan.vS gs f (l.take k) + dv ∧
      (0 ≤ Plan.vS gs f (l.take k) ∧ Plan.vS gs f (l.take k) ≤ 5000000000) ∧ (0 ≤ dv ∧ dv ≤ 1000000000) ∧ Plan.wS gs (l.take (k + 1)) = Plan.wS gs (l.take k) + (Plan.gAt gs y).water ∧
      (0 ≤ Plan.wS gs (l.take k) ∧ Plan.wS gs (l.take k) ≤ 5000000000) ∧ (0 ≤ (Plan.gAt gs y).water ∧ (Plan.gAt gs y).water ≤ 1000000000) := by
  have hg := ha.gun y
  have hh := ha.hour q
  rw [← hf] at hh
  have hc := Plan.ok_count hok
  have hgl := ha.gl
  have hlen : (l.take k).length ≤ 5 := by rw [List.length_take]; omega
  have b1 : 0 ≤ (Plan.gAt gs y).value * f := Int.mul_nonneg (by omega) (by omega)
  have b2 : (Plan.gAt gs y).value * f ≤ 1000000000 * 1000 := Int.mul_le_mul (by omega) (by omega) (by omega) (by omega)
  have bV := Plan.tot_bd (t := Plan.tV gs f) (B := 1000000000) (fun i => by rw [hf]; exact Plan.tV_bd ha q i) (l.take k)
  have bW := Plan.tot_bd (t := Plan.tW gs) (B := 1000000000) (fun i => Plan.tW_bd ha i) (l.take k)
  have eV : Plan.vS gs f (l.take (k + 1)) = Plan.vS gs f (l.take k) + (Plan.gAt gs y).value * f / 1000 := by
    unfold Plan.vS; rw [Plan.tot_take _ hk, ← hx]; simp [Plan.tV]
  have eW : Plan.wS gs (l.take (k + 1)) = Plan.wS gs (l.take k) + (Plan.gAt gs y).water := by
    unfold Plan.wS; rw [Plan.tot_take _ hk, ← hx]; simp [Plan.tW]
  have nV : 0 ≤ Plan.vS gs f (l.take k) ∧ Plan.vS gs f (l.take k) ≤ 5000000000 := ⟨bV.1, Int.le_trans bV.2 (by omega)⟩
  have nW : 0 ≤ Plan.wS gs (l.take k) ∧ Plan.wS gs (l.take k) ≤ 5000000000 := ⟨bW.1, Int.le_trans bW.2 (by omega)⟩
  rw [eV, eW]
  generalize Plan.vS gs f (l.take k) = V at *
  generalize Plan.wS gs (l.take k) = W at *
  generalize (Plan.gAt gs y).value * f = m at *
  have hd : m.tdiv 1000 = m / 1000 := Int.tdiv_eq_ediv_of_nonneg b1
  exact ⟨m, m / 1000, IntWalk.i64_in _ (by omega), hd, IntWalk.i64_in _ (by omega), rfl, nV, by omega, rfl, nW, ⟨hg.1, hg.2.1⟩⟩

set_option maxRecDepth 4000 in
set_option maxHeartbeats 8000000 in
theorem rworth_any (gs : List Plan.Gun) (hs : List Plan.Hour) (ls : List (List Int)) (A B C : Option Addr) (c d g : Nat) (w : World) (ha : Plan.Acc gs hs) (hG : RdG w A gs) (hH : RdH w B hs) (hL : RdL w C ls) :
    Calls Try.prog 16 #[.slice A gs.length c, .slice B hs.length d, .slice C ls.length g] w fun e w' =>
      e = .returned (.tuple #[.int .i64 (Plan.worthE gs hs ls).1, .int .i64 (Plan.worthE gs hs ls).2.1, .bool (Plan.worthE gs hs ls).2.2]) ∧ Below w.heap.size w w' := by
  by_cases hn : ls.length = hs.length
  · obtain ⟨⟨rv, rw_, rb⟩, hR⟩ : ∃ R, R = Plan.worthE gs hs ls := ⟨_, rfl⟩
    rw [← hR]
    have HR := Lib.hid hR
    have HA := Lib.hid ha
    have HG := Lib.hid hG
    have HH := Lib.hid hH
    have HL := Lib.hid hL
    have HN := Lib.hid hn
    have hl3 : hs.length ≤ 3 := ha.hl
    have hg5 : gs.length ≤ 5 := ha.gl
    have hl4 : ls.length ≤ 3 := by omega
    have hln : ((ls.length : Int) == (hs.length : Int)) = true := beq_iff_eq.2 (by omega)
    have hln2 : ((ls.length : Int) != (hs.length : Int)) = false := by rw [bne, hln]; rfl
    clear hR ha hG hH hL hn
    go_enter Try.func16, Try.ntmps16
    go_wp2
    go_loopw [9, 10, 11] (fun i9 i10 i wr => ∃ (k : Nat) (v x : Int), k ≤ ls.length ∧ i = .int .i64 k ∧ i9 = .int .i64 v ∧ i10 = .int .i64 x ∧ Plan.wFrom gs (hs.drop k) (ls.drop k) v x = (rv, rw_, rb) ∧ 0 ≤ v ∧ v ≤ k * 5000000000 ∧ 0 ≤ x ∧ x ≤ k * 5000000000 ∧ Below w.heap.size w wr) (fun _ _ i _ => ls.length - (intOf i).toNat)
    case atStart => exact ⟨0, 0, 0, Nat.zero_le _, rfl, rfl, rfl, HR.out.symm, by omega, by omega, by omega, by omega, Below.refl _ _⟩
    case round =>
      rename World => wo
      obtain ⟨k, v, x, hk, rfl, rfl, rfl, hF, v0, v1, x0, x1, hb⟩ := hrel
      have HF := Lib.hid hF
      have HB := Lib.hid hb
      clear hF hb hln hln2
      by_cases hlt : k < ls.length
      · have hlt2 : k < hs.length := by have := HN.out; omega
        have hli : (k : Int) < (hs.length : Int) := by omega
        have hli2 : (k : Int) < (ls.length : Int) := by omega
        obtain ⟨l, hll⟩ : ∃ l, l = Plan.lAt ls k := ⟨_, rfl⟩
        have HLL := Lib.hid hll
        have HLT := Lib.hid hlt
        have HLT2 := Lib.hid hlt2
        obtain ⟨lb, lo, Ai, ci, rfl, hlb, hcl, hrd⟩ := (HL.out.below HB.out).at_ hlt
        rw [← hll] at hcl hrd
        obtain ⟨hb, ho, rfl, hhb, c0, c1⟩ := (HH.out.below HB.out).at_ hlt2
        have HRD := Lib.hid hrd
        have HCL := Lib.hid hcl
        obtain ⟨fa, hfa⟩ : ∃ x, x = (Plan.hAt hs k).factor := ⟨_, rfl⟩
        rw [← hfa] at c1
        have HFA := Lib.hid hfa
        have HC1 := Lib.hid c1
        clear hll hrd hfa c0 c1
        have v2 : v ≤ 15000000000 := by omega
        have x2 : x ≤ 15000000000 := by omega
        go_wp2
        go_loopw [9, 10, 12] (fun i9 i10 i wr => ∃ (m : Nat), m ≤ l.length ∧ i = .int .i64 m ∧ i9 = .int .i64 (v + Plan.vS gs fa (l.take m)) ∧ i10 = .int .i64 (x + Plan.wS gs (l.take m)) ∧ (∀ j, j < m → Plan.OkAt gs.length l j) ∧ Below wo.heap.size wo wr) (fun _ _ i _ => l.length - (intOf i).toNat)
        case atStart => exact ⟨0, Nat.zero_le _, rfl, by simp [Plan.vS, Plan.tot], by simp [Plan.wS, Plan.tot], fun j hj => absurd hj (by omega), Below.refl _ _⟩
        case round =>
          obtain ⟨m, hm, rfl, rfl, rfl, hok, hbq⟩ := hrel
          have HOK := Lib.hid hok
          have HBQ := Lib.hid hbq
          have hm5 : (m : Int) ≤ 5 := by have := Plan.ok_count hok; omega
          have hclq : wr.cell? ⟨lb, lo + k, none⟩ = some (.slice Ai l.length ci) := (HBQ.out.cell (p := ⟨lb, lo + k, none⟩) hlb).trans HCL.out
          have hlbq : lb < wr.heap.size := Nat.lt_of_lt_of_le hlb HBQ.out.size
          have gB : Below w.heap.size w wr := thru HB.out HBQ.out HB.out.size
          have GB := Lib.hid gB
          clear hok hbq gB hcl
          by_cases hml : m < l.length
          · obtain ⟨ib, io, rfl, hib, hx0⟩ := (HRD.out.below HBQ.out).at_ hml
            obtain ⟨z, hzz⟩ : ∃ z, z = Plan.iAt l m := ⟨_, rfl⟩
            have hx : wr.cell? ⟨ib, io + m, none⟩ = some (.int .i64 z) := by rw [hzz]; exact hx0
            have HZ := Lib.hid hzz
            have HML := Lib.hid hml
            clear hzz hx0
            have hbad : ¬ Plan.OkAt gs.length l m → rv = 0 ∧ rw_ = 0 ∧ rb = false := fun h => by
              have hz : (rv, rw_, rb) = (0, 0, false) := by
                rw [← HF.out]; exact Plan.wFrom_bad HLT2.out HLT.out (by rw [← HLL.out]; exact Plan.okL_no HML.out h)
              simpa using hz
            have HBAD := Lib.hid hbad
            clear hbad
            by_cases q1 : z < 0
            · obtain ⟨rfl, rfl, rfl⟩ := HBAD.out (fun h => by have := h.1; rw [← HZ.out] at this; omega)
              go_wp2
              go_ret3
              exact ⟨rfl, GB.out⟩
            by_cases q2 : (gs.length : Int) ≤ z
            · obtain ⟨rfl, rfl, rfl⟩ := HBAD.out (fun h => by have := h.2.1; rw [← HZ.out] at this; omega)
              go_wp2
              go_ret3
              exact ⟨rfl, GB.out⟩
            obtain ⟨y, rfl⟩ : ∃ y : Nat, z = y := ⟨z.toNat, by omega⟩
            have hyl : y < gs.length := by omega
            cases m with
            | zero =>
              rw [Nat.add_zero] at hx
              have hnew : ∀ j, j < 0 + 1 → Plan.OkAt gs.length l j := fun j hj => by
                obtain rfl : j = 0 := by omega
                exact ⟨by rw [← HZ.out]; omega, by rw [← HZ.out]; omega, fun h => absurd h (by omega)⟩
              have HNEW := Lib.hid hnew
              clear hnew HBAD
              obtain ⟨gb, go, rfl, hgb, g0, g1, g2, g3⟩ := ((HG.out.below HB.out).below HBQ.out).at_ hyl
              obtain ⟨pr, dv, e1, e2, e3, eV, ⟨n0, n1⟩, ⟨n2, n3⟩, eW, ⟨n4, n5⟩, n6, n7⟩ := step_raw HA.out HML.out HOK.out HZ.out HFA.out
              have c1q : wr.cell? ⟨hb, ho + k * 2 + 1, none⟩ = some (.int .i64 fa) := (HBQ.out.cell (p := ⟨hb, ho + k * 2 + 1, none⟩) hhb).trans HC1.out
              have hhq : hb < wr.heap.size := Nat.lt_of_lt_of_le hhb HBQ.out.size
              have hyi : (y : Int) < (gs.length : Int) := by omega
              have HV := Lib.hid eV
              have HW := Lib.hid eW
              clear g0 g2 eV eW
              generalize (Plan.gAt gs y).value = va at *
              generalize (Plan.gAt gs y).water = wa at *
              generalize Plan.vS gs fa (l.take (0)) = V at *
              generalize Plan.wS gs (l.take (0)) = W at *
              have w1 : IntKind.i64.wrap (v + V + dv) = v + V + dv := IntWalk.i64_in _ (by omega)
              have w2 : IntKind.i64.wrap (x + W + wa) = x + W + wa := IntWalk.i64_in _ (by omega)
              go_wp2
              go_quiet (fail)
              go_wp2
              go_roundw
              case rel =>
                refine ⟨0 + 1, HML.out, by go_num, ?_, ?_, HNEW.out, HBQ.out.trans (Joins.below_draws _ _ _)⟩
                · rw [HV.out, ← Int.add_assoc]
                · rw [HW.out, ← Int.add_assoc]
              case measure => have := HML.out; simp [intOf]; omega
            | succ p =>
              obtain ⟨ib', io', ee, _, hx3⟩ := (HRD.out.below HBQ.out).at_ (i := p) (by omega)
              injection ee with ee
              injection ee with ee1 ee2
              subst ee1 ee2
              obtain ⟨u, huu⟩ : ∃ u, u = Plan.iAt l p := ⟨_, rfl⟩
              have hx2 : wr.cell? ⟨ib, io + p, none⟩ = some (.int .i64 u) := by rw [huu]; exact hx3
              have HU := Lib.hid huu
              clear huu hx3
              have hi : (((p + 1 : Nat) : Int) - 1).toNat = p := by omega
              have hi2 : (((p + 1 : Nat) : Int) - 1) = p := by omega
              have hp5 : (p : Int) ≤ 5 := by omega
              by_cases q3 : (y : Int) ≤ u
              · obtain ⟨rfl, rfl, rfl⟩ := HBAD.out (fun h => by have := h.2.2 (by omega); rw [← HZ.out, Nat.add_sub_cancel, ← HU.out] at this; omega)
                go_wp2
                go_ret3
                exact ⟨rfl, GB.out⟩
              have hnew : ∀ j, j < p + 1 + 1 → Plan.OkAt gs.length l j := fun j hj => by
                rcases Nat.lt_or_ge j (p + 1) with h | h
                · exact HOK.out j h
                · obtain rfl : j = p + 1 := by omega
                  exact ⟨by rw [← HZ.out]; omega, by rw [← HZ.out]; omega, fun _ => by rw [← HZ.out, Nat.add_sub_cancel, ← HU.out]; omega⟩
              have HNEW := Lib.hid hnew
              clear hnew HBAD
              obtain ⟨gb, go, rfl, hgb, g0, g1, g2, g3⟩ := ((HG.out.below HB.out).below HBQ.out).at_ hyl
              obtain ⟨pr, dv, e1, e2, e3, eV, ⟨n0, n1⟩, ⟨n2, n3⟩, eW, ⟨n4, n5⟩, n6, n7⟩ := step_raw HA.out HML.out HOK.out HZ.out HFA.out
              have c1q : wr.cell? ⟨hb, ho + k * 2 + 1, none⟩ = some (.int .i64 fa) := (HBQ.out.cell (p := ⟨hb, ho + k * 2 + 1, none⟩) hhb).trans HC1.out
              have hhq : hb < wr.heap.size := Nat.lt_of_lt_of_le hhb HBQ.out.size
              have hyi : (y : Int) < (gs.length : Int) := by omega
              have HV := Lib.hid eV
              have HW := Lib.hid eW
              clear g0 g2 eV eW
              generalize (Plan.gAt gs y).value = va at *
              generalize (Plan.gAt gs y).water = wa at *
              generalize Plan.vS gs fa (l.take ((p + 1))) = V at *
              generalize Plan.wS gs (l.take ((p + 1))) = W at *
              have w1 : IntKind.i64.wrap (v + V + dv) = v + V + dv := IntWalk.i64_in _ (by omega)
              have w2 : IntKind.i64.wrap (x + W + wa) = x + W + wa := IntWalk.i64_in _ (by omega)
              go_wp2
              go_quiet (fail)
              go_wp2
              go_roundw
              case rel =>
                refine ⟨(p + 1) + 1, HML.out, by go_num, ?_, ?_, HNEW.out, HBQ.out.trans (Joins.below_draws _ _ _)⟩
                · rw [HV.out, ← Int.add_assoc]
                · rw [HW.out, ← Int.add_assoc]
              case measure => have := HML.out; simp [intOf]; omega
          · have hme : m = l.length := by omega
            have hokl : Plan.okL gs.length l = true := Plan.okL_iff.2 fun j hj => HOK.out j (by omega)
            obtain ⟨⟨b1, b2⟩, ⟨b3, b4⟩, _⟩ := Plan.ok_bd HA.out k hokl
            have hF2 := HF.out
            rw [Plan.wFrom_next HLT2.out HLT.out (by rw [← HLL.out]; exact hokl), ← HLL.out] at hF2
            rw [← HFA.out] at hF2 b1 b2
            have e1 : Plan.vS gs fa (l.take m) = Plan.vS gs fa l := by rw [List.take_of_length_le (by omega)]
            have e2 : Plan.wS gs (l.take m) = Plan.wS gs l := by rw [List.take_of_length_le (by omega)]
            rw [e1, e2]
            clear e1 e2 hokl HF hme
            generalize Plan.vS gs fa l = V at *
            generalize Plan.wS gs l = W at *
            have HF := Lib.hid hF2
            clear hF2
            go_wp2
            go_roundw
            case rel => exact ⟨k + 1, v + V, x + W, HLT.out, by go_num, rfl, rfl, HF.out, by omega, by omega, by omega, by omega, GB.out⟩
            case measure => have := HLT.out; simp [intOf]; omega
      · have hke : k = ls.length := by omega
        have hz : (rv, rw_, rb) = (v, x, true) := by
          rw [← HF.out]; exact Plan.wFrom_end (by have := HN.out; omega) (by omega)
        obtain ⟨rfl, rfl, rfl⟩ : rv = v ∧ rw_ = x ∧ rb = true := by simpa using hz
        clear hke hz HF
        go_wp2
        go_ret3
        exact ⟨rfl, HB.out⟩
  · rw [show Plan.worthE gs hs ls = (0, 0, false) from Plan.wFrom_len gs hs ls 0 0 hn]
    have hni : ((ls.length : Int) == (hs.length : Int)) = false := beq_eq_false_iff_ne.2 (by omega)
    have hni2 : ((ls.length : Int) != (hs.length : Int)) = true := bne_iff_ne.2 (by omega)
    clear hn
    go_enter Try.func16, Try.ntmps16
    go_wp2
    go_ret3
    exact ⟨rfl, Below.refl _ _⟩
end Go.Proofs.Ytnblfhoogcdcfaa
