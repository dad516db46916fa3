/-
  The walks of the functions that value a plan.
-/
import Derived.Test.YtljhocdbfbjpiaaPlanWalkB
namespace Go.Proofs.Ytljhocdbfbjpiaa
open Go.RowKit

namespace Plan
theorem ok_bd {gs : List Gun} {hs : List Hour} {l : List Int} (a : Acc gs hs) (q : Nat) (h : okL gs.length l = true) :
    (0 ≤ vS gs (hAt hs q).factor l ∧ vS gs (hAt hs q).factor l ≤ 5000000000) ∧ (0 ≤ wS gs l ∧ wS gs l ≤ 5000000000) ∧ (0 ≤ pS gs l ∧ pS gs l ≤ 5000000000) := by
  have hc := ok_count (okL_iff.1 h)
  have hgl := a.gl
  have bV := tot_bd (t := tV gs (hAt hs q).factor) (B := 1000000000) (fun i => tV_bd a q i) l
  have bW := tot_bd (t := tW gs) (B := 1000000000) (fun i => tW_bd a i) l
  have bP := tot_bd (t := tP gs) (B := 1000000000) (fun i => tP_bd a i) l
  exact ⟨⟨bV.1, Int.le_trans bV.2 (by omega)⟩, ⟨bW.1, Int.le_trans bW.2 (by omega)⟩, ⟨bP.1, Int.le_trans bP.2 (by omega)⟩⟩
theorem wFrom_ok {gs : List Gun} : ∀ {hs : List Hour} {ls : List (List Int)} {v w : Int}, (wFrom gs hs ls v w).2.2 = true → ls.length = hs.length ∧ ∀ l ∈ ls, okL gs.length l = true
  | [], [], _, _, _ => ⟨rfl, by simp⟩
  | [], _ :: _, _, _, h => by cases h
  | _ :: _, [], _, _, h => by cases h
  | x :: hs, l :: ls, v, w, h => by
    rw [wFrom] at h
    by_cases hl : okL gs.length l = true
    · rw [if_pos hl] at h
      obtain ⟨h1, h2⟩ := wFrom_ok h
      refine ⟨by simp [h1], fun y hy => ?_⟩
      rcases List.mem_cons.1 hy with rfl | hy
      · exact hl
      · exact h2 y hy
    · rw [if_neg hl] at h; cases h
theorem lAt_mem {ls : List (List Int)} {k : Nat} (h : k < ls.length) : lAt ls k ∈ ls := by simp [lAt, h]
end Plan

set_option maxRecDepth 20000 in
set_option maxHeartbeats 4000000 in
theorem pworth_any (gs : List Plan.Gun) (hs : List Plan.Hour) (ls : List (List Int)) (A B C : Option Addr) (c d g : Nat) (w : World) (ha : Plan.Acc gs hs) (hG : RdG w A gs) (hH : RdH w B hs) (hL : RdL w C ls) :
    Calls Try.prog 9 #[.slice A gs.length c, .slice B hs.length d, .slice C ls.length g] w fun e w' =>
      e = .returned (.tuple #[.int .i64 (Plan.worthE gs hs ls).1, .int .i64 (Plan.worthE gs hs ls).2.1, .bool (Plan.worthE gs hs ls).2.2]) ∧ Below w.heap.size w w' := by
  by_cases hn : ls.length = hs.length
  · obtain ⟨⟨rv, rw_, rb⟩, hR⟩ : ∃ R, R = Plan.worthE gs hs ls := ⟨_, rfl⟩
    rw [← hR]
    have HR := Lib.hid hR
    have HA := Lib.hid ha
    have HG := Lib.hid hG
    have HH := Lib.hid hH
    have HL := Lib.hid hL
    have HN := Lib.hid hn
    have hl3 : hs.length ≤ 3 := ha.hl
    have hl4 : ls.length ≤ 3 := by omega
    have hln : ((ls.length : Int) == (hs.length : Int)) = true := beq_iff_eq.2 (by omega)
    have hln2 : ((ls.length : Int) != (hs.length : Int)) = false := by rw [bne, hln]; rfl
    clear hR ha hG hH hL hn
    go_enter Try.func9, Try.ntmps9
    go_wp2
    go_loopw [9, 10, 22] (fun i9 i10 i wr => ∃ (k : Nat) (v x : Int), k ≤ ls.length ∧ i = .int .i64 k ∧ i9 = .int .i64 v ∧ i10 = .int .i64 x ∧ Plan.wFrom gs (hs.drop k) (ls.drop k) v x = (rv, rw_, rb) ∧ 0 ≤ v ∧ v ≤ k * 5000000000 ∧ 0 ≤ x ∧ x ≤ k * 5000000000 ∧ Below w.heap.size w wr) (fun _ _ i _ => ls.length - (intOf i).toNat)
    case atStart => exact ⟨0, 0, 0, Nat.zero_le _, rfl, rfl, rfl, HR.out.symm, by omega, by omega, by omega, by omega, Below.refl _ _⟩
    case round =>
      obtain ⟨k, v, x, hk, rfl, rfl, rfl, hF, v0, v1, x0, x1, hb⟩ := hrel
      have HF := Lib.hid hF
      have HB := Lib.hid hb
      clear hF hb
      by_cases hlt : k < ls.length
      · have hlt2 : k < hs.length := by have := HN.out; omega
        obtain ⟨lb, lo, Ai, ci, rfl, hlb, hcl, hrd⟩ := (HL.out.below HB.out).at_ hlt
        obtain ⟨hb, ho, rfl, hhb, c0, c1⟩ := (HH.out.below HB.out).at_ hlt2
        obtain ⟨l, hll⟩ : ∃ l, l = Plan.lAt ls k := ⟨_, rfl⟩
        rw [← hll] at hcl hrd
        have HLL := Lib.hid hll
        have HRD := Lib.hid hrd
        have HLT := Lib.hid hlt
        have HLT2 := Lib.hid hlt2
        clear hll hrd
        have hli : (k : Int) < (hs.length : Int) := by omega
        have hS := Lib.hid (fun W (hw : Below wr.heap.size wr W) => sum_any gs hs k l A Ai c ci W HA.out ((HG.out.below HB.out).below hw) (HRD.out.below hw))
        generalize (Plan.hAt hs k).power = po at *
        cases hok : Plan.okL gs.length l
        · have hz : (rv, rw_, rb) = (0, 0, false) := by
            rw [← HF.out]; exact Plan.wFrom_bad HLT2.out HLT.out (by rw [← HLL.out]; exact hok)
          obtain ⟨rfl, rfl, rfl⟩ : rv = 0 ∧ rw_ = 0 ∧ rb = false := by simpa using hz
          have HK := Lib.hid hok
          clear hok hz
          generalize (Plan.hAt hs k).factor = fa at *
          go_wp2_with fail
          refine (hS.out _ (Below.refl _ _)).mono ?_
          rw [sumOut_no HK.out]
          rintro e w2 ⟨rfl, hb2⟩
          have gB : Below w.heap.size w w2 := thru HB.out hb2 HB.out.size
          clear hS
          go_wp2
          go_ret3
          exact ⟨rfl, gB.alloc gB.size _⟩
        · obtain ⟨⟨b1, b2⟩, ⟨b3, b4⟩, _⟩ := Plan.ok_bd HA.out k hok
          have hF2 := HF.out
          rw [Plan.wFrom_next HLT2.out HLT.out (by rw [← HLL.out]; exact hok), ← HLL.out] at hF2
          have HK := Lib.hid hok
          clear hok
          generalize (Plan.hAt hs k).factor = fa at *
          have hw1 : IntKind.i64.wrap (v + Plan.vS gs fa l) = v + Plan.vS gs fa l := IntWalk.i64_in _ (by omega)
          have hw2 : IntKind.i64.wrap (x + Plan.wS gs l) = x + Plan.wS gs l := IntWalk.i64_in _ (by omega)
          go_wp2_with fail
          refine (hS.out _ (Below.refl _ _)).mono ?_
          rw [sumOut_yes HK.out]
          clear hS HF
          generalize Plan.vS gs fa l = V at *
          generalize Plan.wS gs l = W at *
          generalize Plan.pS gs l = P at *
          have HF := Lib.hid hF2
          clear hF2
          rintro e w2 ⟨rfl, hb2⟩
          have gB : Below w.heap.size w w2 := thru HB.out hb2 HB.out.size
          go_wp2
          go_roundw
          case rel => exact ⟨k + 1, v + V, x + W, HLT.out, by go_num, rfl, rfl, HF.out, by omega, by omega, by omega, by omega, gB.alloc gB.size _⟩
          case measure => have := HLT.out; simp [intOf]; omega
      · have hke : k = ls.length := by omega
        have hz : (rv, rw_, rb) = (v, x, true) := by
          rw [← HF.out]; exact Plan.wFrom_end (by have := HN.out; omega) (by omega)
        obtain ⟨rfl, rfl, rfl⟩ : rv = v ∧ rw_ = x ∧ rb = true := by simpa using hz
        clear hke hz HF
        go_wp2
        go_ret3
        exact ⟨rfl, HB.out⟩
  · rw [show Plan.worthE gs hs ls = (0, 0, false) from Plan.wFrom_len gs hs ls 0 0 hn]
    have hni : ((ls.length : Int) == (hs.length : Int)) = false := beq_eq_false_iff_ne.2 (by omega)
    have hni2 : ((ls.length : Int) != (hs.length : Int)) = true := bne_iff_ne.2 (by omega)
    clear hn
    go_enter Try.func9, Try.ntmps9
    go_wp2
    go_ret3
    exact ⟨rfl, Below.refl _ _⟩
end Go.Proofs.Ytljhocdbfbjpiaa
