/-
  The walk of the function that adds up the guns of an hour.
-/
import Derived.Test.YtljhocdbfbjpiaaPlanWalkA
import Derived.BigRegion
import Derived.Laws.ResultCell
namespace Go.Proofs.Ytljhocdbfbjpiaa
open Go.RowKit

abbrev useV (v w p : Int) : Value := .agg #[.int .i64 v, .int .i64 w, .int .i64 p]
def sumOut (n : Nat) (v w p : Int) (l : List Int) : Ending :=
  .returned (.tuple #[if Plan.okL n l = true then useV v w p else useV 0 0 0, .bool (Plan.okL n l)])
theorem sumOut_no {n : Nat} {v w p : Int} {l : List Int} (h : Plan.okL n l = false) : sumOut n v w p l = .returned (.tuple #[useV 0 0 0, .bool false]) := by
  unfold sumOut; rw [h, if_neg (by decide)]
theorem sumOut_yes {n : Nat} {v w p : Int} {l : List Int} (h : Plan.okL n l = true) : sumOut n v w p l = .returned (.tuple #[useV v w p, .bool true]) := by
  unfold sumOut; rw [h, if_pos rfl]

theorem sum_step {gs : List Plan.Gun} {hs : List Plan.Hour} {q k y : Nat} {l : List Int} {f : Int} (ha : Plan.Acc gs hs) (hk : k < l.length) (hok : ∀ j, j < k → Plan.OkAt gs.length l j) (hx : (y : Int) = Plan.iAt l k) (hf : f = (Plan.hAt hs q).factor) :
    ∃ pr dv V' W' P' : Int, IntKind.i64.wrap ((Plan.gAt gs y).value * f) = pr ∧ pr.tdiv 1000 = dv ∧ IntKind.i64.wrap dv = dv ∧ IntKind.i64.wrap (Plan.vS gs f (l.take k) + dv) = V' ∧ V' = Plan.vS gs f (l.take (k + 1)) ∧
      IntKind.i64.wrap (Plan.wS gs (l.take k) + (Plan.gAt gs y).water) = W' ∧ W' = Plan.wS gs (l.take (k + 1)) ∧ IntKind.i64.wrap (Plan.pS gs (l.take k) + (Plan.gAt gs y).power) = P' ∧ P' = Plan.pS gs (l.take (k + 1)) := by
  have hg := ha.gun y
  have hh := ha.hour q
  rw [← hf] at hh
  have hc := Plan.ok_count hok
  have hgl := ha.gl
  have hlen : (l.take k).length ≤ 5 := by rw [List.length_take]; omega
  have b1 : 0 ≤ (Plan.gAt gs y).value * f := Int.mul_nonneg (by omega) (by omega)
  have b2 : (Plan.gAt gs y).value * f ≤ 1000000000 * 1000 := Int.mul_le_mul (by omega) (by omega) (by omega) (by omega)
  have bV := Plan.tot_bd (t := Plan.tV gs f) (B := 1000000000) (fun i => by rw [hf]; exact Plan.tV_bd ha q i) (l.take k)
  have bW := Plan.tot_bd (t := Plan.tW gs) (B := 1000000000) (fun i => Plan.tW_bd ha i) (l.take k)
  have bP := Plan.tot_bd (t := Plan.tP gs) (B := 1000000000) (fun i => Plan.tP_bd ha i) (l.take k)
  have eV : Plan.vS gs f (l.take (k + 1)) = Plan.vS gs f (l.take k) + (Plan.gAt gs y).value * f / 1000 := by
    unfold Plan.vS; rw [Plan.tot_take _ hk, ← hx]; simp [Plan.tV]
  have eW : Plan.wS gs (l.take (k + 1)) = Plan.wS gs (l.take k) + (Plan.gAt gs y).water := by
    unfold Plan.wS; rw [Plan.tot_take _ hk, ← hx]; simp [Plan.tW]
  have eP : Plan.pS gs (l.take (k + 1)) = Plan.pS gs (l.take k) + (Plan.gAt gs y).power := by
    unfold Plan.pS; rw [Plan.tot_take _ hk, ← hx]; simp [Plan.tP]
  have nV : 0 ≤ Plan.vS gs f (l.take k) ∧ Plan.vS gs f (l.take k) ≤ 5000000000 := ⟨bV.1, Int.le_trans bV.2 (by omega)⟩
  have nW : 0 ≤ Plan.wS gs (l.take k) ∧ Plan.wS gs (l.take k) ≤ 5000000000 := ⟨bW.1, Int.le_trans bW.2 (by omega)⟩
  have nP : 0 ≤ Plan.pS gs (l.take k) ∧ Plan.pS gs (l.take k) ≤ 5000000000 := ⟨bP.1, Int.le_trans bP.2 (by omega)⟩
  rw [eV, eW, eP]
  generalize Plan.vS gs f (l.take k) = V at *
  generalize Plan.wS gs (l.take k) = W at *
  generalize Plan.pS gs (l.take k) = P at *
  generalize (Plan.gAt gs y).value * f = m at *
  have hd : m.tdiv 1000 = m / 1000 := Int.tdiv_eq_ediv_of_nonneg b1
  refine ⟨m, m / 1000, _, _, _, IntWalk.i64_in _ (by omega), hd, IntWalk.i64_in _ (by omega), IntWalk.i64_in _ (by omega), rfl, IntWalk.i64_in _ (by omega), rfl, IntWalk.i64_in _ (by omega), rfl⟩

structure SumRel (gs : List Plan.Gun) (f po : Int) (l : List Int) (w : World) (k : Nat) (wr : World) : Prop where
  ok : ∀ j, j < k → Plan.OkAt gs.length l j
  h0 : wr.cell? ⟨w.heap.size, 0, none⟩ = some (.int .i64 po)
  h1 : wr.cell? ⟨w.heap.size, 1, none⟩ = some (.int .i64 f)
  r0 : wr.cell? ⟨w.heap.size + 1, 0, none⟩ = some (.int .i64 0)
  r1 : wr.cell? ⟨w.heap.size + 1, 1, none⟩ = some (.int .i64 0)
  r2 : wr.cell? ⟨w.heap.size + 1, 2, none⟩ = some (.int .i64 0)
  u0 : wr.cell? ⟨w.heap.size + 1 + 1, 0, none⟩ = some (.int .i64 (Plan.vS gs f (l.take k)))
  u1 : wr.cell? ⟨w.heap.size + 1 + 1, 1, none⟩ = some (.int .i64 (Plan.wS gs (l.take k)))
  u2 : wr.cell? ⟨w.heap.size + 1 + 1, 2, none⟩ = some (.int .i64 (Plan.pS gs (l.take k)))
  fr : ∀ i, wr.frozen? ⟨w.heap.size + 1, i, none⟩ = false
  fu : ∀ i, wr.frozen? ⟨w.heap.size + 1 + 1, i, none⟩ = false
  sz : w.heap.size + 1 + 1 < wr.heap.size
  be : Below w.heap.size w wr

set_option maxRecDepth 20000 in
set_option maxHeartbeats 4000000 in
theorem sum_any (gs : List Plan.Gun) (hs : List Plan.Hour) (q : Nat) (l : List Int) (A B : Option Addr) (c d : Nat) (w : World) (ha : Plan.Acc gs hs) (hG : RdG w A gs) (hL : Rd w B l) :
    Calls Try.prog 27 #[.slice A gs.length c, .agg #[.int .i64 (Plan.hAt hs q).power, .int .i64 (Plan.hAt hs q).factor], .slice B l.length d] w fun e w' =>
      e = sumOut gs.length (Plan.vS gs (Plan.hAt hs q).factor l) (Plan.wS gs l) (Plan.pS gs l) l ∧ Below w.heap.size w w' := by
  have hbd := Plan.tV_bd ha q
  have hf := ha.hour q
  have hgl := ha.gl
  obtain ⟨po, hpo⟩ : ∃ x, x = (Plan.hAt hs q).power := ⟨_, rfl⟩
  obtain ⟨f, hff⟩ : ∃ x, x = (Plan.hAt hs q).factor := ⟨_, rfl⟩
  rw [← hff] at hbd hf
  rw [← hpo, ← hff]
  have f0 : 0 ≤ f := hf.2.2.1
  have f1 : f ≤ 1000 := hf.2.2.2
  have HF := Lib.hid hff
  clear hpo hff hf
  have HA := Lib.hid ha
  have HBD := Lib.hid hbd
  have HG := Lib.hid hG
  have HL := Lib.hid hL
  obtain ⟨O, hO⟩ : ∃ O, O = sumOut gs.length (Plan.vS gs f l) (Plan.wS gs l) (Plan.pS gs l) l := ⟨_, rfl⟩
  rw [← hO]
  have HO := Lib.hid hO
  clear ha hbd hG hL hO
  go_enter Try.func27, Try.ntmps27
  go_wp2
  go_loopw [13] (fun i wr => ∃ k : Nat, k ≤ l.length ∧ i = .int .i64 k ∧ SumRel gs f po l w k wr) (fun i _ => l.length - (intOf i).toNat)
  case atStart =>
    exact ⟨0, Nat.zero_le _, rfl, fun j hj => absurd hj (by omega), by simp [go_sem], by simp [go_sem], by simp [go_sem], by simp [go_sem], by simp [go_sem], by simp [go_sem, Plan.vS, Plan.tot], by simp [go_sem, Plan.wS, Plan.tot], by simp [go_sem, Plan.pS, Plan.tot],
      fun i => by simp [go_sem], fun i => by simp [go_sem], by simp, by go_grown⟩
  case round =>
    obtain ⟨k, hk, rfl, hrel⟩ := hrel
    have HRl := Lib.hid hrel
    obtain ⟨hok, h0, h1, r0, r1, r2, u0, u1, u2, fr, fu, sz, be⟩ := hrel
    have HOK := Lib.hid hok
    have HBE := Lib.hid be
    have sz0 : w.heap.size < wr.heap.size := by omega
    have sz1 : w.heap.size + 1 < wr.heap.size := by omega
    clear hok be
    by_cases hlt : k < l.length
    · obtain ⟨lb, lo, rfl, hlb, hx0⟩ := (HL.out.below HBE.out).at_ hlt
      obtain ⟨x, hxx⟩ : ∃ x, x = Plan.iAt l k := ⟨_, rfl⟩
      have hx : wr.cell? ⟨lb, lo + k, none⟩ = some (.int .i64 x) := by rw [hxx]; exact hx0
      have HX := Lib.hid hxx
      have HLT := Lib.hid hlt
      clear hxx hx0
      have hbad : ¬ Plan.OkAt gs.length l k → O = .returned (.tuple #[useV 0 0 0, .bool false]) := fun h => by
        rw [HO.out, sumOut_no (Plan.okL_no HLT.out h)]
      have HBAD := Lib.hid hbad
      clear hbad
      by_cases q1 : x < 0
      · go_wp2
        (try simp only [Exit.inBlock, Exit.then])
        refine bodyPost_ret (v := .tuple #[useV 0 0 0, .bool false]) ?_ rfl ⟨?_, ?_⟩
        · rw [results_cell_tmp rfl]; go_simp
        · exact (HBAD.out (fun h => by have := h.1; rw [← HX.out] at this; omega)).symm
        · repeat (first | exact HBE.out | refine Below.setCell ?_ (by first | omega | (simp; done) | (simp; omega)) _)
      by_cases q2 : (gs.length : Int) ≤ x
      · go_wp2
        (try simp only [Exit.inBlock, Exit.then])
        refine bodyPost_ret (v := .tuple #[useV 0 0 0, .bool false]) ?_ rfl ⟨?_, ?_⟩
        · rw [results_cell_tmp rfl]; go_simp
        · exact (HBAD.out (fun h => by have := h.2.1; rw [← HX.out] at this; omega)).symm
        · repeat (first | exact HBE.out | refine Below.setCell ?_ (by first | omega | (simp; done) | (simp; omega)) _)
      obtain ⟨y, rfl⟩ : ∃ y : Nat, x = y := ⟨x.toNat, by omega⟩
      have hyl : y < gs.length := by omega
      cases k with
      | zero =>
        rw [Nat.add_zero] at hx
        have hnew : ∀ j, j < 0 + 1 → Plan.OkAt gs.length l j := fun j hj => by
          obtain rfl : j = 0 := by omega
          exact ⟨by rw [← HX.out]; omega, by rw [← HX.out]; omega, fun h => absurd h (by omega)⟩
        have HNEW := Lib.hid hnew
        clear hnew
        obtain ⟨gb, go, rfl, hgb, g0, g1, g2, g3⟩ := (HG.out.below HBE.out).at_ hyl
        obtain ⟨pr, dv, V', W', P', e1, e2, e3, e4, eV, e5, eW, e6, eP⟩ := sum_step HA.out HLT.out HOK.out HX.out HF.out
        have HV := Lib.hid eV
        have HW := Lib.hid eW
        have HP := Lib.hid eP
        clear g0 eV eW eP
        generalize (Plan.gAt gs y).value = va at *
        generalize (Plan.gAt gs y).water = wa at *
        generalize (Plan.gAt gs y).power = pw at *
        generalize Plan.vS gs f (l.take (0)) = V at *
        generalize Plan.wS gs (l.take (0)) = W at *
        generalize Plan.pS gs (l.take (0)) = P at *
        clear HRl
        go_wp2_with fail
        go_region
        go_wp2_with fail
        go_region
        go_wp2_with fail
        go_region
        go_wp2
        go_roundw
        case rel =>
          refine ⟨0 + 1, HLT.out, by go_num, HNEW.out, by simp [go_sem, h0], by simp [go_sem, h1], by simp [go_sem, r0], by simp [go_sem, r1], by simp [go_sem, r2], ?_, ?_, ?_, fun i => by simp [go_sem, fr], fun i => by simp [go_sem, fu], by simpa using sz, ?_⟩
          · rw [← HV.out]; simp [go_sem, u0]
          · rw [← HW.out]; simp [go_sem, u1]
          · rw [← HP.out]; simp [go_sem, u2]
          · repeat (first | exact HBE.out | refine Below.drew ?_ | refine Below.setCell ?_ (by first | omega | (simp; done) | (simp; omega)) _)
        case measure => have := HLT.out; simp [intOf]; omega
      | succ m =>
        obtain ⟨lb', lo', ee, _, hx3⟩ := (HL.out.below HBE.out).at_ (i := m) (by omega)
        injection ee with ee
        injection ee with ee1 ee2
        subst ee1 ee2
        obtain ⟨z, hzz⟩ : ∃ z, z = Plan.iAt l m := ⟨_, rfl⟩
        have hx2 : wr.cell? ⟨lb, lo + m, none⟩ = some (.int .i64 z) := by rw [hzz]; exact hx3
        have HZ := Lib.hid hzz
        clear hzz hx3
        have hm5 : (m : Int) ≤ 5 := by have := Plan.ok_count HOK.out; omega
        have hi : (((m + 1 : Nat) : Int) - 1).toNat = m := by omega
        have hi2 : (((m + 1 : Nat) : Int) - 1) = m := by omega
        by_cases q3 : (y : Int) ≤ z
        · go_wp2
          (try simp only [Exit.inBlock, Exit.then])
          refine bodyPost_ret (v := .tuple #[useV 0 0 0, .bool false]) ?_ rfl ⟨?_, ?_⟩
          · rw [results_cell_tmp rfl]; go_simp
          · exact (HBAD.out (fun h => by have := h.2.2 (by omega); rw [← HX.out, Nat.add_sub_cancel, ← HZ.out] at this; omega)).symm
          · repeat (first | exact HBE.out | refine Below.setCell ?_ (by first | omega | (simp; done) | (simp; omega)) _)
        have hnew : ∀ j, j < m + 1 + 1 → Plan.OkAt gs.length l j := fun j hj => by
          rcases Nat.lt_or_ge j (m + 1) with h | h
          · exact HOK.out j h
          · obtain rfl : j = m + 1 := by omega
            exact ⟨by rw [← HX.out]; omega, by rw [← HX.out]; omega, fun _ => by rw [← HX.out, Nat.add_sub_cancel, ← HZ.out]; omega⟩
        have HNEW := Lib.hid hnew
        clear hnew
        obtain ⟨gb, go, rfl, hgb, g0, g1, g2, g3⟩ := (HG.out.below HBE.out).at_ hyl
        obtain ⟨pr, dv, V', W', P', e1, e2, e3, e4, eV, e5, eW, e6, eP⟩ := sum_step HA.out HLT.out HOK.out HX.out HF.out
        have HV := Lib.hid eV
        have HW := Lib.hid eW
        have HP := Lib.hid eP
        clear g0 eV eW eP
        generalize (Plan.gAt gs y).value = va at *
        generalize (Plan.gAt gs y).water = wa at *
        generalize (Plan.gAt gs y).power = pw at *
        generalize Plan.vS gs f (l.take (m + 1)) = V at *
        generalize Plan.wS gs (l.take (m + 1)) = W at *
        generalize Plan.pS gs (l.take (m + 1)) = P at *
        clear HRl
        go_wp2_with fail
        go_region
        go_wp2_with fail
        go_region
        go_wp2_with fail
        go_region
        go_wp2
        go_roundw
        case rel =>
          refine ⟨(m + 1) + 1, HLT.out, by go_num, HNEW.out, by simp [go_sem, h0], by simp [go_sem, h1], by simp [go_sem, r0], by simp [go_sem, r1], by simp [go_sem, r2], ?_, ?_, ?_, fun i => by simp [go_sem, fr], fun i => by simp [go_sem, fu], by simpa using sz, ?_⟩
          · rw [← HV.out]; simp [go_sem, u0]
          · rw [← HW.out]; simp [go_sem, u1]
          · rw [← HP.out]; simp [go_sem, u2]
          · repeat (first | exact HBE.out | refine Below.drew ?_ | refine Below.setCell ?_ (by first | omega | (simp; done) | (simp; omega)) _)
        case measure => have := HLT.out; simp [intOf]; omega
    · have hke : k = l.length := by omega
      have hok : Plan.okL gs.length l = true := Plan.okL_iff.2 fun j hj => HOK.out j (by omega)
      have hO2 : O = .returned (.tuple #[useV (Plan.vS gs f (l.take k)) (Plan.wS gs (l.take k)) (Plan.pS gs (l.take k)), .bool true]) := by
        rw [HO.out, sumOut_yes hok, List.take_of_length_le (by omega)]
      have HO2 := Lib.hid hO2
      clear hO2 hok hke
      generalize Plan.vS gs f (l.take k) = V at *
      generalize Plan.wS gs (l.take k) = W at *
      generalize Plan.pS gs (l.take k) = P at *
      clear HRl
      go_wp2
      (try simp only [Exit.inBlock, Exit.then])
      refine bodyPost_ret (v := .tuple #[useV V W P, .bool true]) ?_ rfl ⟨?_, ?_⟩
      · rw [results_cell_tmp rfl]; go_simp
      · exact HO2.out.symm
      · repeat (first | exact HBE.out | refine Below.setCell ?_ (by first | omega | (simp; done) | (simp; omega)) _)
end Go.Proofs.Ytljhocdbfbjpiaa
