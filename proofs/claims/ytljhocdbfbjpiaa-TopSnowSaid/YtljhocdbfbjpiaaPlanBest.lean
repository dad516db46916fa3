/-
  The walk of the function that finds the best plan.
-/
import Derived.Test.YtljhocdbfbjpiaaPlanTry
namespace Go.Proofs.Ytljhocdbfbjpiaa
open Go.RowKit

namespace Plan
theorem tr_lt (gs : List Gun) : ∀ (hs : List Hour) (pre : List Nat) (v left : Int) (st : Int × List Nat), (∀ x ∈ pre, x < 2 ^ gs.length) → (∀ x ∈ st.2, x < 2 ^ gs.length) → ∀ x ∈ (tr gs hs pre v left st).2, x < 2 ^ gs.length
  | [], pre, v, left, st, h1, h2 => by
    unfold tr
    split
    · exact h1
    · exact h2
  | h :: hs, pre, v, left, st, h1, h2 => by
    rw [tr_cons]
    have key : ∀ s, s ≤ 2 ^ gs.length → ∀ x ∈ (trTo gs h hs pre v left st s).2, x < 2 ^ gs.length := by
      intro s
      induction s with
      | zero => intro _; exact h2
      | succ s ih =>
        intro hs2
        rw [trTo_succ]
        unfold trStep
        split
        · refine tr_lt gs hs _ _ _ _ ?_ (ih (by omega))
          intro x hx
          rcases List.mem_append.1 hx with hx | hx
          · exact h1 x hx
          · simp at hx; omega
        · exact ih (by omega)
    exact key _ (Nat.le_refl _)
/-- The sets that the search ends with, and what they are worth. -/
def bestS (gs : List Gun) (hs : List Hour) (water : Int) : Int × List Nat := tr gs hs [] 0 water (0, List.replicate hs.length 0)
def bestL (gs : List Gun) (hs : List Hour) (water : Int) : List (List Int) := (bestS gs hs water).2.map (memL gs.length)
end Plan
@[go_sem] theorem run_store_func (P : Program) (w : World) (a : Addr) (m : Mode) (fn : Fn) (f c : Array Value) : (store a (.func fn f c) m).run P w = stored P w a (.func fn f c) m := run_store P w a _ m rfl
def zeros (n : Nat) : List Value := List.replicate n (.int .i64 0)
theorem zeros_made (n : Nat) : madeCells #[.int .i64 0] n = (zeros n).toArray := by
  apply Array.toList_inj.1
  rw [toList_madeCells_one, zeros]
theorem make_ints (n : Nat) (hn : n ≤ 1000) (w : World) : (Instr.makeSlice 28 (.int .i64 (n : Int)) (.int .i64 (n : Int))).run Try.prog w = .ok (.slice (some ⟨w.heap.size, 0, none⟩) n n) (w.alloc (.cells (zeros n).toArray 3)) := by
  rw [← zeros_made]
  exact run_make_row' 28 3 (.int .i64 0) 8 Try.underlying28 int_info rfl .i64 .i64 n (by omega) (by omega) w
theorem plan_info : (Try.prog.info? 28).map (fun i => (i.zero, i.size, i.bytes)) = some (some (.slice none 0 0), 1, 24) := by kernel_rfl
theorem make_plan (n : Nat) (hn : n ≤ 3) (w : World) : (Instr.makeSlice 24 (.int .i64 (n : Int)) (.int .i64 (n : Int))).run Try.prog w = .ok (.slice (some ⟨w.heap.size, 0, none⟩) n n) (w.alloc (.cells (madeCells #[.slice none 0 0] n) 28)) :=
  run_make_row' 24 28 (.slice none 0 0) 24 Try.underlying24 plan_info rfl .i64 .i64 n (by omega) (by omega) w
theorem zeros_at {n k : Nat} (hk : k < n) (t : TypeId) (w : World) : (w.alloc (.cells (zeros n).toArray t)).cell? ⟨w.heap.size, k, none⟩ = some (.int .i64 0) := by
  have h := heap_alloc_new w (.cells (zeros n).toArray t)
  simp only [World.cell?, h]
  simp [zeros, hk]

def startL (H z Tt : Nat) : Lay := ⟨H, z + 1 + 1 + 1 + 1 + 1, z + 1 + 1 + 1 + 1, z + 1 + 1, z, z + 1 + 1 + 1 + 1 + 1 + 1, z + 1 + 1 + 1, z + 1, Tt⟩
def startW (n H Tt : Nat) (w3 : World) : World :=
  (((((((w3.alloc (.cells #[.slice (some ⟨Tt, 0, none⟩) n n] 82)).alloc (.cells (zeros n).toArray 3)).alloc (.cells #[.slice (some ⟨w3.heap.size + 1, 0, none⟩) n n] 28)).alloc (.cells (zeros n).toArray 3)).alloc
    (.cells #[.slice (some ⟨w3.heap.size + 1 + 1 + 1, 0, none⟩) n n] 28)).alloc (.cells #[.int .i64 0] 3)).alloc (.cells #[.func (.func 25) #[] (startL H w3.heap.size Tt).caps] 84))
theorem start_size (n H Tt : Nat) (w3 : World) : (startW n H Tt w3).heap.size = w3.heap.size + 1 + 1 + 1 + 1 + 1 + 1 + 1 := by simp [startW]
theorem start_old (n H Tt : Nat) (w3 : World) : Below w3.heap.size w3 (startW n H Tt w3) :=
  ((((((Joins.below_alloc1 w3 _).alloc (by simp) _).alloc (by simp; omega) _).alloc (by simp; omega) _).alloc (by simp; omega) _).alloc (by simp; omega) _).alloc (by simp; omega) _
theorem start_block (n H Tt : Nat) (w3 : World) : (startW n H Tt w3).heap[w3.heap.size + 1 + 1 + 1]? = some (.cells (zeros n).toArray 3 (0, 0)) := by
  unfold startW
  rw [heap_alloc_old _ _ (by simp), heap_alloc_old _ _ (by simp), heap_alloc_old _ _ (by simp)]
  have h := heap_alloc_new (((w3.alloc (.cells #[.slice (some ⟨Tt, 0, none⟩) n n] 82)).alloc (.cells (zeros n).toArray 3)).alloc (.cells #[.slice (some ⟨w3.heap.size + 1, 0, none⟩) n n] 28)) (.cells (zeros n).toArray 3)
  simpa using h
theorem zeros_nv (n : Nat) : zeros n = (List.replicate n 0).map nv := by simp [zeros, nv]
theorem start_V (n H Tt : Nat) (w3 : World) : TryV (startL H w3.heap.size Tt) n (startW n H Tt w3) 0 (List.replicate n 0) (List.replicate n 0) := by
  refine ⟨by simp [startW, startL, go_sem], by simp [startW, startL, go_sem], ?_, by simp, fun j hj => ?_, fun j => by simp [startW, startL, go_sem], by simp⟩
  · rw [← zeros_nv]; exact start_block n H Tt w3
  · simp [startW, startL, go_sem, nv, hj, zeros]
theorem start_F {gs : List Plan.Gun} {hs : List Plan.Hour} {B : Option Addr} {d : Nat} {w w2 w3 : World} (hH : RdH w B hs) (hb3 : Below w.heap.size w w3) (hc : w3.cell? ⟨w.heap.size, 0, none⟩ = some (.slice B hs.length d)) (hz : w.heap.size < w3.heap.size)
    (hU : UsesRel gs hs w2.heap.size w2 hs.length w3) (hw2 : w.heap.size < w2.heap.size) : TryF (startL w.heap.size w3.heap.size w2.heap.size) gs hs B d (startW hs.length w.heap.size w2.heap.size w3) := by
  have hold := start_old hs.length w.heap.size w2.heap.size w3
  have hUz := hU.z
  have hown : ∀ k, k < w3.heap.size → ¬ (startL w.heap.size w3.heap.size w2.heap.size).own k := by
    intro k hk h
    simp only [Lay.own, startL] at h
    omega
  refine ⟨(hold.cell (p := ⟨w.heap.size, 0, none⟩) hz).trans hc, by simp [startW, startL, go_sem], by simp [startW, startL, go_sem], by simp [startW, startL, go_sem], by simp [startW, startL, go_sem], fun k hk => ?_, fun k hk => ?_, ?_, ?_, ?_, ?_, ?_⟩
  · obtain ⟨b, off, e, h1, h2⟩ := hH.at_ hk
    have hb : b < w3.heap.size := by omega
    exact ⟨b, off, e, Nat.lt_of_lt_of_le hb hold.size, hown b hb, (h2.below h1 hb3).below hb hold⟩
  · obtain ⟨v, h1, g, cc, rfl, h2, h3, h4⟩ := hU.old k hk
    exact ⟨g, cc, (hold.cell (p := ⟨w2.heap.size, k, none⟩) hUz).trans h1, Nat.lt_of_lt_of_le h3 hold.size, hown g h3, fun s hs => (h4 s hs).kept fun i => hold.cell (p := ⟨g, i, none⟩) h3⟩
  · intro k hk
    rw [start_size]
    simp only [startL] at hk
    omega
  · intro k hk
    simp only [Lay.own, startL] at hk ⊢
    omega
  · simp only [startL]; omega
  · simp only [startL]; omega
  · simp only [startL]; omega

set_option maxRecDepth 20000 in
set_option maxHeartbeats 8000000 in
theorem pbest_any (gs : List Plan.Gun) (hs : List Plan.Hour) (water : Int) (A B : Option Addr) (c d : Nat) (w : World) (hr : Plan.rightE gs hs = 0) (h0 : 0 ≤ water) (h1 : water ≤ 9223372036854775807) (hG : RdG w A gs) (hH : RdH w B hs) :
    Calls Try.prog 8 #[.slice A gs.length c, .slice B hs.length d, .int .i64 water] w fun e w' =>
      ∃ g, e = .returned (.slice (some ⟨g, 0, none⟩) hs.length hs.length) ∧ RdL w' (some ⟨g, 0, none⟩) (Plan.bestL gs hs water) ∧ (Plan.bestL gs hs water).length = hs.length ∧ Below w.heap.size w w' := by
  obtain ⟨RL, hRL⟩ : ∃ RL, RL = Plan.bestL gs hs water := ⟨_, rfl⟩
  rw [← hRL]
  have HRL := Lib.hid hRL
  clear hRL
  have ha := Plan.acc_of hr
  have hl3 : hs.length ≤ 3 := ha.hl
  have HA := Lib.hid ha
  have HG := Lib.hid hG
  have HH := Lib.hid hH
  have HRT := Lib.hid hr
  have HW := Lib.hid (And.intro h0 h1)
  have hw0 : decide (water < 0) = false := decide_eq_false (by omega)
  clear ha hG hH hr h1
  have hmf : ∀ (fn : Fn) (first cap : Array Value) (w : World), (Instr.makeFunc fn first cap).run Try.prog w = .ok (.func fn first cap) w := by
    intro fn first cap w
    rfl
  have hmi := make_ints hs.length (by omega)
  have hmp := make_plan hs.length hl3
  go_enter Try.func8, Try.ntmps8
  go_wp2_with fail
  refine (pright_any gs hs A B c d _ (HG.out.below (by go_grown)) (HH.out.below (by go_grown))).mono ?_
  rw [HRT.out]
  rintro e w2 ⟨rfl, hb2⟩
  have hB2 := Lib.hid (show Below w.heap.size w w2 from thru (by go_grown) hb2 (by simp))
  have hcH : w2.cell? ⟨w.heap.size, 0, none⟩ = some (.slice B hs.length d) := (hb2.cell (p := ⟨w.heap.size, 0, none⟩) (by simp)).trans (by simp [go_sem])
  have hzH : w.heap.size < w2.heap.size := Nat.lt_of_lt_of_le (by simp) hb2.size
  clear hb2
  go_wp2_with fail
  refine (uses_any gs hs A B c d _ HA.out (HG.out.below hB2.out) (HH.out.below hB2.out)).mono ?_
  rintro e w3 ⟨rfl, hU⟩
  have HU := Lib.hid hU
  have hcH3 : w3.cell? ⟨w.heap.size, 0, none⟩ = some (.slice B hs.length d) := (hU.be.cell (p := ⟨w.heap.size, 0, none⟩) hzH).trans hcH
  have hzH3 : w.heap.size < w3.heap.size := Nat.lt_of_lt_of_le hzH hU.be.size
  have hB3 := Lib.hid (show Below w.heap.size w w3 from thru hB2.out hU.be (by omega))
  have hT3 : w2.heap.size < w3.heap.size := hU.z
  clear hU hcH hB2
  have a1 : w.heap.size < w3.heap.size + 1 := by omega
  have a2 : w.heap.size < w3.heap.size + 1 + 1 := by omega
  have a3 : w.heap.size < w3.heap.size + 1 + 1 + 1 := by omega
  have a4 : w.heap.size < w3.heap.size + 1 + 1 + 1 + 1 := by omega
  have a5 : w.heap.size < w3.heap.size + 1 + 1 + 1 + 1 + 1 := by omega
  have a6 : w.heap.size < w3.heap.size + 1 + 1 + 1 + 1 + 1 + 1 := by omega
  have a7 : w.heap.size < w3.heap.size + 1 + 1 + 1 + 1 + 1 + 1 + 1 := by omega
  go_wp2_with fail
  have hF := start_F HH.out hB3.out hcH3 hzH3 HU.out hzH
  have hc := try_any (startL w.heap.size w3.heap.size w2.heap.size) gs hs B d HA.out hs.length 0 (by omega) 0 water 0 (List.replicate hs.length 0) (List.replicate hs.length 0) _ hF (start_V _ _ _ _) (by omega) (by omega) HW.out.1 HW.out.2
  have HF := Lib.hid hF
  have hB4 := Lib.hid (show Below w.heap.size w (startW hs.length w.heap.size w2.heap.size w3) from thru hB3.out (start_old _ _ _ _) (by omega))
  clear hF a1 a2 a3 a4 a5 a6 a7 hcH3 hmf hmi
  refine hc.mono ?_
  rintro e w4 ⟨rfl, ⟨sets', hV4, -⟩, hK⟩
  have hV4 : TryV (startL w.heap.size w3.heap.size w2.heap.size) hs.length w4 (Plan.bestS gs hs water).1 (Plan.bestS gs hs water).2 sets' := hV4
  have hF4 := HF.out.kept hK
  have HB4 := Lib.hid (hK.below hB4.out (fun k hk => by simp only [Lay.own, startL] at hk; omega))
  have hlt : ∀ x ∈ (Plan.bestS gs hs water).2, x < 2 ^ gs.length := Plan.tr_lt gs hs [] 0 water _ (by simp) (by intro x hx; rw [List.mem_replicate] at hx; rw [hx.2]; exact Nat.two_pow_pos _)
  have hbl := hV4.bl
  have hbb := hV4.b
  have f1 := hF4.hv
  have f2 := hF4.bv
  have z1 : w.heap.size < w4.heap.size := hF4.lt _ (by simp [startL])
  have z2 : (startL w.heap.size w3.heap.size w2.heap.size).Bv < w4.heap.size := hF4.lt _ (by simp)
  have z3 : (startL w.heap.size w3.heap.size w2.heap.size).Bb < w4.heap.size := hF4.lt _ (by simp)
  have hcell : ∀ j, j < hs.length → w4.cell? ⟨(startL w.heap.size w3.heap.size w2.heap.size).Bb, j, none⟩ = some (.int .i64 (((Plan.bestS gs hs water).2[j]?.getD 0 : Nat) : Int)) := by
    intro j hj
    simp only [World.cell?, hbb]
    have hj2 : j < (Plan.bestS gs hs water).2.length := by omega
    simp [nv, hj2]
  simp only [startL] at f1 f2 z2 z3 hcell
  have HRB : Hid (RL = (Plan.bestS gs hs water).2.map (Plan.memL gs.length)) := HRL
  clear HRL
  generalize (Plan.bestS gs hs water).2 = bs at *
  have HC := Lib.hid hcell
  have HLT := Lib.hid hlt
  have HBL := Lib.hid hbl
  clear hcell hlt hbl hbb hV4 hF4 hK hc HF hB4 hB3 HU hT3 hzH3 hzH HRT
  generalize w3.heap.size = z at *
  have hg5 := HA.out.gl
  go_wp2
  go_loopw [41] (fun i wr => ∃ k : Nat, k ≤ hs.length ∧ i = .int .i64 k ∧ (∀ j, j < k → ∃ A c, wr.cell? ⟨w4.heap.size, j, none⟩ = some (.slice A (Plan.memL gs.length (bs[j]?.getD 0)).length c) ∧ Own (w4.heap.size + 1) wr A (Plan.memL gs.length (bs[j]?.getD 0))) ∧
    (∀ j, j < hs.length → ∃ u, wr.cell? ⟨w4.heap.size, j, none⟩ = some u) ∧ (∀ j, wr.frozen? ⟨w4.heap.size, j, none⟩ = false) ∧ w4.heap.size < wr.heap.size ∧ Below w4.heap.size w4 wr) (fun i _ => hs.length - (intOf i).toNat)
  case atStart => exact ⟨0, Nat.zero_le _, rfl, fun j hj => absurd hj (by omega), fun j hj => ⟨_, made_at _ _ _ _ hj⟩, fun j => made_fr _ _ _ _ j, by simp, Joins.below_alloc1 _ _⟩
  case round =>
    obtain ⟨k, hk, rfl, hold, hex, hfr, hz, hb⟩ := hrel
    have HOLD := Lib.hid hold
    have HEX := Lib.hid hex
    have HFR := Lib.hid hfr
    have HB := Lib.hid hb
    clear hold hex hfr hb
    by_cases hlt : k < hs.length
    · have HLK := Lib.hid hlt
      have hck := (HB.out.cell (p := ⟨z + 1 + 1 + 1, k, none⟩) z3).trans (HC.out k hlt)
      have hkb : k < bs.length := by rw [HBL.out]; exact hlt
      have hx : bs[k]?.getD 0 < 2 ^ gs.length := HLT.out _ (by simp [hkb])
      obtain ⟨x, hxx⟩ : ∃ x, x = bs[k]?.getD 0 := ⟨_, rfl⟩
      rw [← hxx] at hck hx
      have HXX := Lib.hid hxx
      have HX := Lib.hid hx
      obtain ⟨u, hu⟩ := HEX.out k hlt
      have hki : (k : Int) < (hs.length : Int) := by omega
      clear hxx hx
      go_wp2_with fail
      refine (members_any gs.length x _ hg5 HX.out).mono ?_
      rintro e w5 ⟨A5, c5, rfl, ho5, hb5⟩
      have hu5 := (hb5.cell (p := ⟨w4.heap.size, k, none⟩) hz).trans hu
      have hf5 := (hb5.frozen (p := ⟨w4.heap.size, k, none⟩) hz).trans (HFR.out k)
      have HO5 := Lib.hid ho5
      have HB5 := Lib.hid hb5
      clear ho5 hb5 hu hck
      go_wp2
      go_roundw
      case rel =>
        refine ⟨k + 1, HLK.out, by go_num, fun j hj => ?_, fun j hj => ?_, fun j => ?_, ?_, ?_⟩
        · by_cases e : j = k
          · subst e
            rw [← HXX.out]
            exact ⟨A5, c5, by simp [cell_set_self, hu5], (HO5.out.mono (by omega)).setOff ((HO5.out.mono (B' := w4.heap.size + 1) (by omega)).off (by show w4.heap.size < _; omega)) _⟩
          · obtain ⟨A, c, h1, h2⟩ := HOLD.out j (by omega)
            refine ⟨A, c, ?_, (h2.below HB5.out).setOff ((h2.below HB5.out).off (by show w4.heap.size < _; omega)) _⟩
            rw [World.cell?_setCell_other _ _ _ _ (by intro e'; injection e' with _ e'; first | exact e e' | exact e e'.symm)]
            exact (HB5.out.cell (p := ⟨w4.heap.size, j, none⟩) hz).trans h1
        · by_cases e : j = k
          · subst e; exact ⟨_, by simp [cell_set_self, hu5]; rfl⟩
          · obtain ⟨u', h1⟩ := HEX.out j hj
            refine ⟨u', ?_⟩
            rw [World.cell?_setCell_other _ _ _ _ (by intro e'; injection e' with _ e'; first | exact e e' | exact e e'.symm)]
            exact (HB5.out.cell (p := ⟨w4.heap.size, j, none⟩) hz).trans h1
        · rw [World.frozen?_setCell]; exact (HB5.out.frozen (p := ⟨w4.heap.size, j, none⟩) hz).trans (HFR.out j)
        · have := HB5.out.size; simp; omega
        · exact (thru HB.out HB5.out (by omega)).setCell (Nat.le_refl _) _
      case measure => have := HLK.out; simp [intOf]; omega
    · have hke : k = hs.length := by omega
      have hfin : RdL wr (some ⟨w4.heap.size, 0, none⟩) RL := by
       rw [HRB.out]
       intro hp
       refine ⟨_, _, rfl, hz, fun i hi => ?_⟩
       rw [List.length_map, HBL.out] at hi
       obtain ⟨A, c, h1, h2⟩ := HOLD.out i (by omega)
       have hib : i < bs.length := by rw [HBL.out]; exact hi
       have e : Plan.lAt (bs.map (Plan.memL gs.length)) i = Plan.memL gs.length (bs[i]?.getD 0) := by simp [Plan.lAt, hib]
       rw [e, Nat.zero_add]
       exact ⟨A, c, h1, h2.rd⟩
      have HFIN := Lib.hid hfin
      have HBF := Lib.hid (show Below w.heap.size w wr from thru HB4.out HB.out (by omega))
      clear hke hfin
      go_wp2
      go_ret
      exact ⟨w4.heap.size, rfl, HFIN.out, by rw [HRB.out, List.length_map, HBL.out], HBF.out⟩
end Go.Proofs.Ytljhocdbfbjpiaa
