/-
  The walk of the function that returns the function of pressures.
-/
import Derived.Test.YtljhocdbfbjpiaaWtPress
namespace Go.Proofs.Ytljhocdbfbjpiaa
open Go.RowKit

def PressPost (n : Nat) (A : Option Addr) (c : Nat) (root : Int) (f : Nat → Nat → Int) (w : World) (e : Ending) (w' : World) : Prop :=
  ∃ T, e = .returned (.func (.func 103) #[] #[.pointer (some ⟨w.heap.size + 1, 0, none⟩), .pointer (some ⟨w.heap.size, 0, none⟩), .pointer (some ⟨T + 1, 0, none⟩)]) ∧ PS w.heap.size T n A c root f n w w'
set_option maxRecDepth 20000 in
set_option maxHeartbeats 8000000 in
theorem press_any (n c d : Nat) (f : Nat → Nat → Int) (ds : List (Int × Int)) (root : Int) (A B : Option Addr) (w : World) (hR : RI w A 5 n f) (hD : RdP w B ds) (hn : n ≤ 8) (hl : ds.length ≤ 1000) (h0 : 0 ≤ root) (h1 : root ≤ 10000000) :
    Calls Try.prog 88 #[.slice A n c, .slice B ds.length d, .int .i64 root] w (PressPost n A c root f w) := by
  have HR := Lib.hid hR
  have HN := Lib.hid hn
  have hni : (n : Int) ≤ 8 := by omega
  have hdi : (ds.length : Int) ≤ 1000 := by omega
  have hmk : ∀ W', (Instr.makeSlice 28 (.int .i64 (n : Int)) (.int .i64 (n : Int))).run Try.prog W' = .ok (.slice (some ⟨W'.heap.size, 0, none⟩) n n) (W'.alloc (.cells (madeCells #[.int .i64 0] n) 3)) := fun W' => make_ints n (by omega) W'
  have hb2 : Below w.heap.size w ((w.alloc (.cells #[.slice A n c] 36)).alloc (.cells #[.int .i64 root] 3)) := (((Below.refl _ _).alloc (Nat.le_refl _) _).alloc (by simp) _)
  have HC := Lib.hid (flows_any n c d f ds A B ((w.alloc (.cells #[.slice A n c] 36)).alloc (.cells #[.int .i64 root] 3)) (hR.below hb2) (hD.below hb2) hn hl)
  have HB2 := Lib.hid hb2
  clear hR hD hn hb2
  go_enter Try.func88, Try.ntmps88
  go_wp2_with fail
  refine HC.out.mono ?_
  rintro e w1 ⟨⟨g, F, rfl, hg, hF⟩, hb1⟩
  have HFL := Lib.hid hF
  have hz1 := hb1.size
  simp at hz1
  have l0 : w1.cell? ⟨w.heap.size, 0, none⟩ = some (.slice A n c) := (hb1.cell (p := ⟨w.heap.size, 0, none⟩) (by simp; omega)).trans (by simp [go_sem])
  have r0 : w1.cell? ⟨w.heap.size + 1, 0, none⟩ = some (.int .i64 root) := (hb1.cell (p := ⟨w.heap.size + 1, 0, none⟩) (by simp)).trans (by simp [go_sem])
  have HB1 := Lib.hid (thru HB2.out hb1 HB2.out.size)
  have HZ1 := Lib.hid hz1
  have HG := Lib.hid hg
  have HST : Hid (PS w.heap.size w1.heap.size n A c root f 0 w ((w1.alloc (.cells (madeCells #[.int .i64 0] n) 3)).alloc (.cells #[.slice (some ⟨w1.heap.size, 0, none⟩) n n] 28))) := Lib.hid (by
    have b0 := Joins.below_alloc1 w1 (.cells (madeCells #[.int .i64 0] n) 3)
    have b1 := Joins.below_alloc1 (w1.alloc (.cells (madeCells #[.int .i64 0] n) 3)) (.cells #[.slice (some ⟨w1.heap.size, 0, none⟩) n n] 28)
    refine ⟨(HB1.out.alloc (by omega) _).alloc (by simp; omega) _, by omega, by simp, ?_, ?_, by simp [go_sem], ⟨fun _ => 0, fun i hi => ?_, fun _ i hi => absurd hi (by omega)⟩, fun i => ?_⟩
    · rw [b1.cell (p := ⟨w.heap.size, 0, none⟩) (by simp; omega), b0.cell (p := ⟨w.heap.size, 0, none⟩) (by show w.heap.size < _; omega)]; exact l0
    · rw [b1.cell (p := ⟨w.heap.size + 1, 0, none⟩) (by simp; omega), b0.cell (p := ⟨w.heap.size + 1, 0, none⟩) (by show w.heap.size + 1 < _; omega)]; exact r0
    · rw [b1.cell (p := ⟨w1.heap.size, i, none⟩) (by simp)]; exact made_at _ _ _ _ hi
    · rw [b1.frozen (p := ⟨w1.heap.size, i, none⟩) (by simp)]; exact made_fr _ _ _ _ _)
  have HFS : Hid (∀ i, i < n → ((w1.alloc (.cells (madeCells #[.int .i64 0] n) 3)).alloc (.cells #[.slice (some ⟨w1.heap.size, 0, none⟩) n n] 28)).cell? ⟨g, i, none⟩ = some (.int .i64 (F i))) := Lib.hid fun i hi => by
    have b0 := Joins.below_alloc1 w1 (.cells (madeCells #[.int .i64 0] n) 3)
    have b1 := Joins.below_alloc1 (w1.alloc (.cells (madeCells #[.int .i64 0] n) 3)) (.cells #[.slice (some ⟨w1.heap.size, 0, none⟩) n n] 28)
    rw [b1.cell (p := ⟨g, i, none⟩) (by have := HG.out; simp; omega), b0.cell (p := ⟨g, i, none⟩) (by show g < _; exact HG.out)]
    exact HFL.out i hi
  clear hF hg hb1 r0 HC HFL
  have bz : w.heap.size < w1.heap.size := by omega
  clear hz1
  go_wp2
  go_loopw [23] (fun i wr => ∃ k : Nat, k ≤ n ∧ i = .int .i64 k ∧ Hid (PS w.heap.size w1.heap.size n A c root f k w wr) ∧ Hid (∀ i, i < n → wr.cell? ⟨g, i, none⟩ = some (.int .i64 (F i)))) (fun i _ => n - (intOf i).toNat)
  case atStart => exact ⟨0, Nat.zero_le _, rfl, HST, HFS⟩
  case round =>
    clear hmk HST HFS l0
    obtain ⟨k, hk, rfl, HP, HF⟩ := hrel
    by_cases hlt : k < n
    · have hlti : (k : Int) < (n : Int) := by omega
      obtain ⟨b, off, rfl, hbz, hc⟩ := (HR.out.below HP.out.be).at_ hlt
      have c0 := hc 0 (by omega)
      have c1 := hc 1 (by omega)
      have c2 := hc 2 (by omega)
      have c3 := hc 3 (by omega)
      have c4 := hc 4 (by omega)
      rw [Nat.add_zero] at c0
      obtain ⟨x1, hx1⟩ : ∃ x, x = f k 1 := ⟨_, rfl⟩
      obtain ⟨x3, hx3⟩ : ∃ x, x = f k 3 := ⟨_, rfl⟩
      obtain ⟨x4, hx4⟩ : ∃ x, x = f k 4 := ⟨_, rfl⟩
      rw [← hx1] at c1
      rw [← hx3] at c3
      rw [← hx4] at c4
      have HPA := Lib.hid (HP.out.below (Joins.below_alloc1 wr (.cells #[.int .i64 (f k 0), .int .i64 x1, .int .i64 (f k 2), .int .i64 x3, .int .i64 x4] 96)))
      have HC := Lib.hid (get_any w.heap.size w1.heap.size n c k f root x1 (some ⟨b, off, none⟩) w _ (Nat.le_refl _) HR.out HN.out HPA.out)
      have q3 : (wr.alloc (.cells #[.int .i64 (f k 0), .int .i64 x1, .int .i64 (f k 2), .int .i64 x3, .int .i64 x4] 96)).cell? ⟨wr.heap.size, 3, none⟩ = some (.int .i64 x3) := by simp [go_sem]
      have q4 : (wr.alloc (.cells #[.int .i64 (f k 0), .int .i64 x1, .int .i64 (f k 2), .int .i64 x3, .int .i64 x4] 96)).cell? ⟨wr.heap.size, 4, none⟩ = some (.int .i64 x4) := by simp [go_sem]
      have hwz : wr.heap.size < (wr.alloc (.cells #[.int .i64 (f k 0), .int .i64 x1, .int .i64 (f k 2), .int .i64 x3, .int .i64 x4] 96)).heap.size := by simp
      have HZ : Hid (Flat f n → x1 = 0 ∧ x3 = 0 ∧ x4 = 0) := Lib.hid fun h => by rw [hx1, hx3, hx4]; exact h k hlt
      have HLT := Lib.hid hlt
      have HQ := Lib.hid (And.intro q3 (And.intro q4 hwz))
      clear hc hlt hx1 hx3 hx4 q3 q4 hwz hbz
      go_wp2_with fail
      refine HC.out.mono ?_
      rintro e w2 ⟨⟨v, ok, rfl, hv0, -⟩, hb2⟩
      have HV := Lib.hid hv0
      have q3 := (hb2.cell (p := ⟨wr.heap.size, 3, none⟩) HQ.out.2.2).trans HQ.out.1
      have q4 := (hb2.cell (p := ⟨wr.heap.size, 4, none⟩) HQ.out.2.2).trans HQ.out.2.1
      have HP2 := Lib.hid (HPA.out.below hb2)
      have ha := HP2.out.a
      obtain ⟨G, hG, _⟩ := HP2.out.g
      have hck := hG k (by have := HLT.out; omega)
      have hfk := HP2.out.fr k
      have HF2 : Hid (∀ i, i < n → w2.cell? ⟨g, i, none⟩ = some (.int .i64 (F i))) := Lib.hid fun i hi => ((thru (Joins.below_alloc1 wr (.cells #[.int .i64 (f k 0), .int .i64 x1, .int .i64 (f k 2), .int .i64 x3, .int .i64 x4] 96)) hb2 (by simp)).cell (p := ⟨g, i, none⟩) (by have := HG.out; have := HP.out.z; show g < _; omega)).trans (HF.out i hi)
      have hff := HF2.out k (by have := HLT.out; omega)
      generalize F k = y at hff
      have HZV : Hid (Flat f n → v = root ∧ x3 = 0 ∧ x4 = 0) := Lib.hid fun h => ⟨(HV.out (HZ.out h).1).1, (HZ.out h).2⟩
      have hne : g ≠ w1.heap.size := by have := HG.out; omega
      clear hv0 hb2 c0 c1 c2 c3 c4 hG HF HPA HC HQ HV HZ HP
      by_cases hz : Flat f n
      · obtain ⟨rfl, rfl, rfl⟩ := HZV.out hz
        go_wp2_with fail
        go_still_tail 16, (by kernel_rfl)
        change wpList _ _ _ _ _ w2.drew
        go_wp2
        go_roundw
        case rel => exact ⟨k + 1, HLT.out, by go_num, Lib.hid ((HP2.out.set _ (fun _ => rfl)).below (Below.refl _ _).drew), Lib.hid (row_far HF2.out hne.symm _ _)⟩
        case measure => have := HLT.out; simp [intOf]; omega
      · go_wp2_with fail
        go_still_tail 16, (by kernel_rfl)
        change wpList _ _ _ _ _ w2.drew
        go_wp2
        go_roundw
        case rel => exact ⟨k + 1, HLT.out, by go_num, Lib.hid ((HP2.out.set _ (fun h => absurd h hz)).below (Below.refl _ _).drew), Lib.hid (row_far HF2.out hne.symm _ _)⟩
        case measure => have := HLT.out; simp [intOf]; omega
    · have hlti : decide ((k : Int) < (n : Int)) = false := decide_eq_false (by omega)
      have hke : k = n := by omega
      have HPN : Hid (PS w.heap.size w1.heap.size n A c root f n w wr) := Lib.hid (by rw [hke] at HP; exact HP.out)
      clear hke
      go_wp2
      go_ret
      exact ⟨w1.heap.size, rfl, HPN.out⟩
end Go.Proofs.Ytljhocdbfbjpiaa
