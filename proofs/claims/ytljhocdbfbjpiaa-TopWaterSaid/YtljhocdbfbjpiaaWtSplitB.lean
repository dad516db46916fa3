/-
  The walk of a split.
-/
import Derived.Test.YtljhocdbfbjpiaaWtSplit
namespace Go.Proofs.Ytljhocdbfbjpiaa
open Go.RowKit

def SplitPost (a n : Nat) (w : World) (e : Ending) (w' : World) : Prop :=
  (∃ P : Nat → Int, e = .returned (.tuple #[.slice (some ⟨w.heap.size, 0, none⟩) n n, .int .i64 0]) ∧ (∀ i, i < n → w'.cell? ⟨w.heap.size, i, none⟩ = some (.int .i64 (P i)) ∧ 0 ≤ P i ∧ P i ≤ 20000000) ∧ (n = 1 → P 0 = (a : Int))) ∧ w.heap.size < w'.heap.size ∧ Below w.heap.size w w'
set_option maxRecDepth 20000 in
set_option maxHeartbeats 8000000 in
theorem split_any (a n c : Nat) (W : Nat → Nat) (A : Option Addr) (w : World) (hn : n ≤ 8) (ha : a ≤ 10000000) (hW : ∀ i, i < n → W i ≤ 1000000000) (hT : 0 < sumW W n) (hR : Rd w A (wl W n)) :
    Calls Try.prog 72 #[.int .i64 (a : Int), .slice A n c] w (SplitPost a n w) := by
  have hn0 : 0 < n := by
    rcases Nat.eq_zero_or_pos n with e | e
    · subst e; simp [sumW] at hT
    · exact e
  have hlen := wl_len W n
  obtain ⟨T, hTe⟩ : ∃ T, T = sumW W n := ⟨_, rfl⟩
  have hT8 : T ≤ 8000000000 := by
    have := sumW_bd hW
    have : n * 1000000000 ≤ 8 * 1000000000 := Nat.mul_le_mul_right _ hn
    omega
  have HC : Hid (Calls Try.prog 91 #[.int .i64 (a : Int), .slice A n c] w fun e w' => e = .returned (.tuple #[.int .i64 (T : Int), .int .i64 0]) ∧ w = w') := Lib.hid (by
    have hs : sumN (li (wl W n)) n = (T : Int) := by
      rw [hTe, ← sumW_cast W n]
      exact sumN_congr fun i hi => wl_at hi
    have h := check_any a (wl W n) A c w (by omega) (by omega) (by omega) hR (fun i hi => by rw [wl_at (by omega)]; have := hW i (by omega); omega) (by rw [hlen, hs]; omega)
    rw [hlen, hs] at h
    exact h)
  rw [← hTe] at hT
  obtain ⟨q, hq⟩ : ∃ q : Nat → Nat, q = fun i => a * W i / T := ⟨_, rfl⟩
  have hqa : ∀ i, i < n → q i ≤ a := fun i hi => by
    rw [hq]
    have : W i ≤ T := by rw [hTe]; exact sumW_le hi
    calc a * W i / T ≤ a * T / T := Nat.div_le_div_right (Nat.mul_le_mul_left _ this)
      _ = a := Nat.mul_div_cancel _ hT
  have hleft := split_left (a := a) (by rw [← hTe]; exact hT) hn0
  rw [← hTe, ← hq] at hleft
  have hone : n = 1 → (q 0 = a) := fun h => by
    subst h
    rw [hq]
    have : T = W 0 := by rw [hTe]; simp [sumW]
    show a * W 0 / T = a
    rw [this] at hT ⊢
    exact Nat.mul_div_cancel _ hT
  have HR := Lib.hid hR
  have HT := Lib.hid (And.intro hT hT8)
  have HW := Lib.hid hW
  have HQ := Lib.hid hq
  have HQA := Lib.hid hqa
  have HLEFT := Lib.hid hleft
  have HONE := Lib.hid hone
  have HN0 := Lib.hid hn0
  have hni : (n : Int) ≤ 8 := by omega
  have hmk : ∀ W', (Instr.makeSlice 28 (.int .i64 (n : Int)) (.int .i64 (n : Int))).run Try.prog W' = .ok (.slice (some ⟨W'.heap.size, 0, none⟩) n n) (W'.alloc (.cells (madeCells #[.int .i64 0] n) 3)) := fun W' => make_ints n (by omega) W'
  clear hR hT hW hq hqa hleft hone hn0 hlen hTe hT8
  go_enter Try.func72, Try.ntmps72
  go_wp2_with fail
  refine HC.out.mono ?_
  rintro e w1 ⟨rfl, rfl⟩
  go_wp2
  go_loopw [11, 37] (fun l i wr => ∃ (k : Nat) (z : Int), k ≤ n ∧ i = .int .i64 k ∧ l = .int .i64 z ∧ z ≤ 10000000 ∧ -((k : Int) * 10000000) ≤ z ∧ Hid (z = (a : Int) - ((sumW q k : Nat) : Int)) ∧ Hid (∃ P R O, SW w.heap.size n wr P R O ∧ ∀ j, j < k → P j = ((q j : Nat) : Int) ∧ O j = (j : Int)) ∧ Hid (Below w.heap.size w wr)) (fun _ i _ => n - (intOf i).toNat)
  case atStart =>
    refine ⟨0, a, Nat.zero_le _, rfl, rfl, by omega, by omega, Lib.hid (by simp [sumW]), Lib.hid ⟨_, _, _, SW.start w n HN0.out, fun j hj => absurd hj (by omega)⟩, Lib.hid ?_⟩
    exact ((((Below.refl _ _).alloc (Nat.le_refl _) _).alloc (by simp) _).alloc (by simp; omega) _).alloc (by simp; omega) _
  case round =>
    clear hmk
    obtain ⟨k, z, hk, rfl, rfl, hz1, hz2, HZ, HS, HB⟩ := hrel
    by_cases hlt : k < n
    · have hlti : (k : Int) < (n : Int) := by omega
      obtain ⟨b, off, rfl, hbz, hc⟩ := (HR.out.below HB.out).at_ (i := k) (by rw [wl_len]; exact hlt)
      have hc' : wr.cell? ⟨b, off + k, none⟩ = some (.int .i64 ((W k : Nat) : Int)) := by rw [hc]; exact congrArg (fun z => some (Value.int .i64 z)) (wl_at hlt)
      obtain ⟨P, R, O, hs, hpo⟩ := HS.out
      have HPO := Lib.hid hpo
      have HSW := Lib.hid hs
      have cp := hs.p k hlt
      have cr := hs.r k hlt
      have cv := hs.v
      have co := hs.o k hlt
      have fp := hs.f w.heap.size k (Nat.le_refl _) (by omega)
      have fr := hs.f (w.heap.size + 1) k (by omega) (by omega)
      have fo := hs.f (w.heap.size + 3) k (by omega) (by omega)
      have HE : Hid (∀ W', Calls Try.prog 92 #[.int .i64 (a : Int), .int .i64 ((W k : Nat) : Int), .int .i64 (T : Int)] W' fun e w' => e = .returned (.tuple #[.int .i64 ((q k : Nat) : Int), .int .i64 ((a * W k % T : Nat) : Int)]) ∧ ∃ n, w' = W'.drewN n) := Lib.hid fun W' => by
        rw [HQ.out]
        exact exact_any a (W k) T W' ha (HW.out k hlt) HT.out.1 (by have := HT.out.2; omega)
      have hqk := HQA.out k hlt
      obtain ⟨Z, hZ⟩ : ∃ Z, Z = q k := ⟨_, rfl⟩
      rw [← hZ] at HE hqk
      have HZQ := Lib.hid hZ
      generalize a * W k % T = rest at *
      generalize W k = wk at *
      have HLT := Lib.hid hlt
      have hZi : (Z : Int) ≤ 10000000 := by omega
      have hkk : (k : Int) * 10000000 ≤ 80000000 := by omega
      clear hs hpo hc HS hlt hZ hqk
      go_upto_region 11 with fail
      go_region_with (first
        | (go_at_call 92; (refine (HE.out _).mono ?_); rintro e w5 ⟨rfl, qn, rfl⟩))
      all_goals
        have HS' : Hid (∃ P' R' O', SW w.heap.size n ((((wr.drewN (1 + qn)).setCell ⟨w.heap.size, k, none⟩ (.int .i64 (Z : Int))).setCell ⟨w.heap.size + 1, k, none⟩ (.int .i64 (rest : Int))).setCell ⟨w.heap.size + 3, k, none⟩ (.int .i64 (k : Int))) P' R' O' ∧ ∀ j, j < k + 1 → P' j = ((q j : Nat) : Int) ∧ O' j = (j : Int)) := Lib.hid ⟨_, _, _, (((HSW.out.drewN (1 + qn)).setP k Z).setR k rest).setO k k, fun j hj => by
          by_cases e : j = k
          · subst e
            simp [up, HZQ.out]
          · have := HPO.out j (by omega)
            simp [up, e, this]⟩
        have HB' : Hid (Below w.heap.size w ((((wr.drewN (1 + qn)).setCell ⟨w.heap.size, k, none⟩ (.int .i64 (Z : Int))).setCell ⟨w.heap.size + 1, k, none⟩ (.int .i64 (rest : Int))).setCell ⟨w.heap.size + 3, k, none⟩ (.int .i64 (k : Int)))) := Lib.hid ((((HB.out.trans (Joins.below_draws _ _ (1 + qn))).setCell (p := ⟨w.heap.size, k, none⟩) (Nat.le_refl _) _).setCell (p := ⟨w.heap.size + 1, k, none⟩) (by show w.heap.size ≤ w.heap.size + 1; omega) _).setCell (p := ⟨w.heap.size + 3, k, none⟩) (by show w.heap.size ≤ w.heap.size + 3; omega) _)
        have HZ' : Hid (z - (Z : Int) = (a : Int) - ((sumW q (k + 1) : Nat) : Int)) := Lib.hid (by have := HZ.out; have := HZQ.out; rw [sumW]; omega)
        go_wp2
        go_roundw
        case rel => exact ⟨k + 1, z - Z, HLT.out, by go_num, rfl, by omega, by omega, HZ', HS', HB'⟩
        case measure => have := HLT.out; simp [intOf]; omega
    · have hke : k = n := by omega
      obtain ⟨P, R, O, hs, hpo⟩ := HS.out
      obtain ⟨L, hL⟩ : ∃ L : Nat, z = (L : Int) := ⟨z.toNat, by have := HZ.out; have := HLEFT.out; rw [hke] at *; omega⟩
      have hLn : L ≤ n := by have := HZ.out; have := HLEFT.out; rw [hke] at *; omega
      have hL0 : n = 1 → L = 0 := fun h => by have := HZ.out; have := HLEFT.out; rw [hke] at *; omega
      subst hL
      have hor : OR wr (w.heap.size + 3) n (fun i => i) := ⟨by have := hs.z; omega, fun i hi => by rw [hs.o i hi, (hpo i (by omega)).2], fun i hi => hi, fun i => hs.f _ i (by omega) (by omega)⟩
      have HSORT := Lib.hid (sort_any n n (w.heap.size + 3) (w.heap.size + 2) (w.heap.size + 1) R (fun i => i) wr hn hor ⟨hs.v, hs.r⟩ (by omega) (by omega))
      have hpq : ∀ i, i < n → wr.cell? ⟨w.heap.size, i, none⟩ = some (.int .i64 ((q i : Nat) : Int)) := fun i hi => by rw [hs.p i hi, (hpo i (by omega)).1]
      have HPQ := Lib.hid hpq
      have HFP := Lib.hid (fun i => hs.f w.heap.size i (Nat.le_refl _) (by omega))
      have HSZ := Lib.hid hs.z
      have HL0 := Lib.hid hL0
      have hLni : (L : Int) ≤ (n : Int) := by omega
      have hLn8 : (L : Int) ≤ 8 := by omega
      clear hs hpo hor hpq HS HZ hz1 hz2 hL0
      clear hk
      go_wp2_with fail
      refine HSORT.out.mono ?_
      rintro e w5 ⟨rfl, ⟨f, hor⟩, HY⟩
      have HOR := Lib.hid hor
      have HB5 := Lib.hid (HB.out.trans (HY.below (by omega : w.heap.size ≤ w.heap.size + 3)))
      have hp5 : ∀ i, i < n → w5.cell? ⟨w.heap.size, i, none⟩ = some (.int .i64 ((q i : Nat) : Int)) := fun i hi => (HY.cell (by omega) i).trans (HPQ.out i hi)
      have hf5 : ∀ i, w5.frozen? ⟨w.heap.size, i, none⟩ = false := fun i => (HY.frozen (by omega) i).trans (HFP.out i)
      have hz5 : w5.heap.size = w.heap.size + 4 := by rw [HY.size]; exact HSZ.out
      have HP5 := Lib.hid hp5
      have HF5 := Lib.hid hf5
      have HZ5 := Lib.hid hz5
      clear hor hp5 hf5 hz5 HY HSORT HB hlt hke HSZ HFP HPQ
      go_wp2
      go_loopw [73] (fun i wr => ∃ k : Nat, k ≤ L ∧ i = .int .i64 k ∧ Hid (∃ P : Nat → Int, (∀ i, i < n → wr.cell? ⟨w.heap.size, i, none⟩ = some (.int .i64 (P i)) ∧ 0 ≤ P i ∧ P i ≤ 10000000 + (k : Int)) ∧ (k = 0 → ∀ i, P i = ((q i : Nat) : Int))) ∧ Hid (∀ i, wr.frozen? ⟨w.heap.size, i, none⟩ = false) ∧ Hid (OR wr (w.heap.size + 3) n f) ∧ Hid (w.heap.size < wr.heap.size) ∧ Hid (Below w.heap.size w wr)) (fun i _ => L - (intOf i).toNat)
      case atStart =>
        exact ⟨0, Nat.zero_le _, rfl, Lib.hid ⟨fun i => ((q i : Nat) : Int), fun i hi => ⟨HP5.out i hi, by dsimp only; omega, by have := HQA.out i hi; dsimp only; omega⟩, fun _ i => rfl⟩, HF5, HOR, Lib.hid (by have := HZ5.out; omega), HB5⟩
      case round =>
        clear HP5 HF5 HOR HZ5 HB5
        rename World => wx
        obtain ⟨k, hk, rfl, HP, HF, HOR, HSZ, HB⟩ := hrel
        by_cases hlt : k < L
        · have hlti : (k : Int) < (L : Int) := by omega
          obtain ⟨P, hP, hP0⟩ := HP.out
          have hfk := HOR.out.lt k (by omega)
          have hok : wx.cell? ⟨w.heap.size + 1 + 1 + 1, k, none⟩ = some (.int .i64 ((f k : Nat) : Int)) := HOR.out.c k (by omega)
          obtain ⟨cp, cp0, cp1⟩ := hP (f k) hfk
          have hff := HF.out (f k)
          have hfi : ((f k : Nat) : Int) < (n : Int) := by omega
          have HPP := Lib.hid hP
          have HLT := Lib.hid hlt
          have HFK := Lib.hid hfk
          obtain ⟨x, hx⟩ : ∃ x, x = P (f k) := ⟨_, rfl⟩
          rw [← hx] at cp cp0 cp1
          have HX := Lib.hid hx
          obtain ⟨m, hm⟩ : ∃ m, m = f k := ⟨_, rfl⟩
          rw [← hm] at hok cp hff hfi HX HFK
          clear hP hP0 HP hfk hx hm hlt
          go_wp2
          go_roundw
          case rel =>
            refine ⟨k + 1, HLT.out, by go_num, Lib.hid ⟨up P m (x + 1), fun i hi => ?_, fun h => absurd h (by omega)⟩, Lib.hid fun i => (World.frozen?_setCell _ _ _ _).trans (HF.out i), Lib.hid ?_, Lib.hid (by simpa using HSZ.out), Lib.hid (HB.out.setCell (p := ⟨w.heap.size, m, none⟩) (Nat.le_refl _) _)⟩
            · refine ⟨row_set (fun j hj => (HPP.out j hj).1) m (x + 1) i hi, ?_⟩
              have := HPP.out i hi
              unfold up
              split <;> omega
            · exact ⟨by simpa using HOR.out.z, fun i hi => (World.cell?_setCell_other _ _ _ _ (by intro e; injection e with e _; omega)).trans (HOR.out.c i hi), HOR.out.lt, fun i => (World.frozen?_setCell _ _ _ _).trans (HOR.out.fr i)⟩
          case measure => have := HLT.out; simp [intOf]; omega
        · have hke : k = L := by omega
          have HPF : Hid (∃ P : Nat → Int, (∀ i, i < n → wx.cell? ⟨w.heap.size, i, none⟩ = some (.int .i64 (P i)) ∧ 0 ≤ P i ∧ P i ≤ 20000000) ∧ (n = 1 → P 0 = (a : Int))) := Lib.hid (by
            obtain ⟨P, hP, hP0⟩ := HP.out
            exact ⟨P, fun i hi => ⟨(hP i hi).1, (hP i hi).2.1, by have := (hP i hi).2.2; omega⟩, fun h => by rw [hP0 (by rw [hke, HL0.out h]) 0, HONE.out h]⟩)
          clear HP hke
          go_wp2
          go_ret2
          obtain ⟨P, h1, h2⟩ := HPF.out
          exact ⟨⟨P, rfl, h1, h2⟩, HSZ.out, HB.out⟩
end Go.Proofs.Ytljhocdbfbjpiaa
